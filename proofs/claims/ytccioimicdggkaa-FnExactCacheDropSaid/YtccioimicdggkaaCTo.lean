/- What the functions that lay a datum anew hand back: rows of their own that read as the argument. -/
import Derived.Test.YtccioimicdggkaaCLaw
import Derived.Test.YtccioimicdggkaaCSz
namespace Go.Proofs.Ytccioimicdggkaa.C
open Go.RowKit
set_option linter.unusedVariables false
set_option linter.unusedSimpArgs false
theorem info65 : (Try.prog.info? 65).map (fun i => (i.zero, i.size, i.bytes)) = some (some (.agg #[.int .i64 0, .string ⟨#[]⟩, .int .i64 0, .int .i64 0, .string ⟨#[]⟩]), 5, 56) := by kernel_rfl
theorem info68 : (Try.prog.info? 68).map (fun i => (i.zero, i.size, i.bytes)) = some (some (.agg #[.string ⟨#[]⟩, .int .i64 0, .int .i64 0, .string ⟨#[]⟩]), 4, 48) := by kernel_rfl
def zV : V := ⟨0, 0, ⟨#[]⟩⟩
def zCmd : Cmd := ⟨0, ⟨#[]⟩, zV⟩
def zPair : Pair_ := ⟨⟨#[]⟩, zV⟩
/-- A row of its own, made by the call. -/
def Makes {α : Type} (t : TypeId) (el : El α) (xs : List α) (w : World) (e : Ending) (w' : World) : Prop := ∃ v h', e = .returned v ∧ Own t el h' v xs ∧ Step emp w h' w'
set_option maxHeartbeats 1000000 in
theorem toValue_calls (v : V) (w : World) : Calls Try.prog 35 #[v.enc] w fun e w' => e = .returned v.enc ∧ Below w.heap.size w w' := by
  go_enter Try.func35, Try.ntmps35
  go_wp2
  exact bodyPost_ret (v := v.enc) (by simp [results, Try.results35, go_sem]) rfl ⟨rfl, ba (ba (b0 _ _) _) _⟩
set_option maxHeartbeats 1000000 in
theorem toCmd_calls (v : Cmd) (w : World) : Calls Try.prog 42 #[v.enc] w fun e w' => e = .returned v.enc ∧ Below w.heap.size w w' := by
  go_enter Try.func42, Try.ntmps42
  go_wp2_with (go_at_call 35; refine (toValue_calls v.arg _).mono ?_; rintro e w1 ⟨rfl, hb⟩; obtain ⟨hc, hf, hz⟩ := bcell hb; simp only [World.size_alloc] at hc hf hz; have HB := Kp.mk (bl (ba (ba (b0 _ _) _) _) hb); clear hb)
  exact bodyPost_ret (v := v.enc) (by simp [results, Try.results42, go_sem, hc, hz]) rfl ⟨rfl, by repeat (first | with_reducible exact HB.out | refine bs ?_ (by omega))⟩
set_option maxHeartbeats 1000000 in
theorem toPair_calls (v : Pair_) (w : World) : Calls Try.prog 43 #[v.enc] w fun e w' => e = .returned v.enc ∧ Below w.heap.size w w' := by
  go_enter Try.func43, Try.ntmps43
  go_wp2_with (go_at_call 35; refine (toValue_calls v.value _).mono ?_; rintro e w1 ⟨rfl, hb⟩; obtain ⟨hc, hf, hz⟩ := bcell hb; simp only [World.size_alloc] at hc hf hz; have HB := Kp.mk (bl (ba (ba (b0 _ _) _) _) hb); clear hb)
  exact bodyPost_ret (v := v.enc) (by simp [results, Try.results43, go_sem, hc, hz]) rfl ⟨rfl, by repeat (first | with_reducible exact HB.out | refine bs ?_ (by omega))⟩
set_option maxHeartbeats 2000000 in
theorem toCmdS_calls {h : Hp} {A : Option Addr} {n c : Nat} {l : List Cmd} (hr : Rd cmdEl h (.slice A n c) l) (hsz : n ≤ 1048576) (w : World) (hs : Sub h w) : Calls Try.prog 34 #[.slice A n c] w (Makes 65 cmdEl l w) := by
  obtain ⟨hn, hnc, hcm⟩ := hr.len_le
  have hn' := Kp.mk hn
  clear hn
  go_enter Try.func34, Try.ntmps34
  go_wp2_with (at_make; refine wp_make cmdEl zCmd _ 56 65 rfl _ _ 37 rfl Try.underlying37 info65 (cmdEl_mk true emp zCmd) (by decide) rfl rfl (by omega) (by omega) ?_; intro w1 h1 hO hs1; have HO := Kp.mk hO; have HS := Kp.mk ((Holds.start0 w).make hs1); clear hO hs1)
  go_loopg [4] (n + 1) (fun k i wr => ∃ (j : Nat) (h' : Hp), i = .int .i64 j ∧ j ≤ n ∧ k = n + 1 - j ∧ Kp (Own 65 cmdEl h' (.slice (some ⟨w.heap.size, 0, none⟩) n n) (l.take j ++ List.replicate (n - j) zCmd)) ∧ Kp (Holds emp w wr [] [h']))
  case atStart => exact ⟨0, h1, rfl, by omega, by omega, ⟨by simpa using HO.out⟩, HS⟩
  case round =>
    clear HO HS
    obtain ⟨j, h', rfl, hj, hk, HO, HS⟩ := hrel
    have hk' := Kp.mk hk
    clear hk
    by_cases hjn : j < n
    · obtain ⟨x, hx⟩ : ∃ x, l[j]? = some x := ⟨_, List.getElem?_eq_getElem (by have := hn'.out; omega)⟩
      obtain ⟨g, o, rfl, hc⟩ := cmd_at hr hx
      obtain ⟨c0, c1, c2, c3, c4⟩ := hc wr (HS.out.came0 hs)
      have hx' := Kp.mk hx
      clear hc hx
      go_wp2_with (go_at_call 42; refine (toCmd_calls x _).mono ?_; rintro e w2 ⟨rfl, hb⟩; have HS2 := Kp.mk (HS.out.quiet hb); clear hb; obtain ⟨d0, d1, d2, d3, d4⟩ := cmd_own HO.out (pad_at (Nat.le_of_eq hn'.out) hjn) w2 HS2.out.fst; have hf := HO.out.frozen HS2.out.fst)
      obtain ⟨h2, HO2, HS3⟩ := HS2.out.set0 HO.out (pad_at (Nat.le_of_eq hn'.out) hjn) (cmdEl_mk true emp x)
      rw [pad_set (Nat.le_of_eq hn'.out) hjn hx'.out] at HO2
      go_roundg (n + 1 - (j + 1))
      case measure => have := hk'.out; omega
      case rel => exact ⟨j + 1, h2, by go_num, by omega, rfl, ⟨HO2⟩, ⟨HS3⟩⟩
    · go_wp2
      go_ret
      obtain rfl : j = n := by omega
      have h3 := HO.out
      have h4 := hn'.out
      rw [Nat.sub_self, List.replicate_zero, List.append_nil, List.take_of_length_le (by omega)] at h3
      exact ⟨_, h', rfl, h3, HS.out.step⟩
set_option maxHeartbeats 2000000 in
theorem toPairS_calls {h : Hp} {A : Option Addr} {n c : Nat} {l : List Pair_} (hr : Rd pairEl h (.slice A n c) l) (hsz : n ≤ 1048576) (w : World) (hs : Sub h w) : Calls Try.prog 36 #[.slice A n c] w (Makes 68 pairEl l w) := by
  obtain ⟨hn, hnc, hcm⟩ := hr.len_le
  have hn' := Kp.mk hn
  clear hn
  go_enter Try.func36, Try.ntmps36
  go_wp2_with (at_make; refine wp_make pairEl zPair _ 48 68 rfl _ _ 40 rfl Try.underlying40 info68 (pairEl_mk true emp zPair) (by decide) rfl rfl (by omega) (by omega) ?_; intro w1 h1 hO hs1; have HO := Kp.mk hO; have HS := Kp.mk ((Holds.start0 w).make hs1); clear hO hs1)
  go_loopg [4] (n + 1) (fun k i wr => ∃ (j : Nat) (h' : Hp), i = .int .i64 j ∧ j ≤ n ∧ k = n + 1 - j ∧ Kp (Own 68 pairEl h' (.slice (some ⟨w.heap.size, 0, none⟩) n n) (l.take j ++ List.replicate (n - j) zPair)) ∧ Kp (Holds emp w wr [] [h']))
  case atStart => exact ⟨0, h1, rfl, by omega, by omega, ⟨by simpa using HO.out⟩, HS⟩
  case round =>
    clear HO HS
    obtain ⟨j, h', rfl, hj, hk, HO, HS⟩ := hrel
    have hk' := Kp.mk hk
    clear hk
    by_cases hjn : j < n
    · obtain ⟨x, hx⟩ : ∃ x, l[j]? = some x := ⟨_, List.getElem?_eq_getElem (by have := hn'.out; omega)⟩
      obtain ⟨g, o, rfl, hc⟩ := pair_at hr hx
      obtain ⟨c0, c1, c2, c3⟩ := hc wr (HS.out.came0 hs)
      have hx' := Kp.mk hx
      clear hc hx
      go_wp2_with (go_at_call 43; refine (toPair_calls x _).mono ?_; rintro e w2 ⟨rfl, hb⟩; have HS2 := Kp.mk (HS.out.quiet hb); clear hb; obtain ⟨d0, d1, d2, d3⟩ := pair_own HO.out (pad_at (Nat.le_of_eq hn'.out) hjn) w2 HS2.out.fst; have hf := HO.out.frozen HS2.out.fst)
      obtain ⟨h2, HO2, HS3⟩ := HS2.out.set0 HO.out (pad_at (Nat.le_of_eq hn'.out) hjn) (pairEl_mk true emp x)
      rw [pad_set (Nat.le_of_eq hn'.out) hjn hx'.out] at HO2
      go_roundg (n + 1 - (j + 1))
      case measure => have := hk'.out; omega
      case rel => exact ⟨j + 1, h2, by go_num, by omega, rfl, ⟨HO2⟩, ⟨HS3⟩⟩
    · go_wp2
      go_ret
      obtain rfl : j = n := by omega
      have h3 := HO.out
      have h4 := hn'.out
      rw [Nat.sub_self, List.replicate_zero, List.append_nil, List.take_of_length_le (by omega)] at h3
      exact ⟨_, h', rfl, h3, HS.out.step⟩
/-- How a program stands, its rows made by the call. -/
def MakesOut (x : Out) (w : World) (e : Ending) (w' : World) : Prop := ∃ v1 v2 h1 h2, e = .returned (x.enc v1 v2) ∧ Own 65 cmdEl h1 v1 x.cmds ∧ Own 68 pairEl h2 v2 x.vars ∧ Holds emp w w' [] [h2, h1]
def MakesItem (x : Item) (w : World) (e : Ending) (w' : World) : Prop := ∃ v1 v2 h1 h2, e = .returned (x.enc v1 v2) ∧ Own 65 cmdEl h1 v1 x.out.cmds ∧ Own 68 pairEl h2 v2 x.out.vars ∧ Holds emp w w' [] [h2, h1]
set_option maxHeartbeats 4000000 in
theorem toOut_calls {h : Hp} {v1 v2 : Value} {x : Out} (r1 : Rd cmdEl h v1 x.cmds) (r2 : Rd pairEl h v2 x.vars) (s1 : x.cmds.length ≤ 1048576) (s2 : x.vars.length ≤ 1048576) (w : World) (hs : Sub h w) : Calls Try.prog 29 #[x.enc v1 v2] w (MakesOut x w) := by
  obtain ⟨A1, e1, rfl⟩ := r1.slice
  obtain ⟨A2, e2, rfl⟩ := r2.slice
  have HS0 := Kp.mk ((((Holds.start0 w).alloc (.cells #[.slice A1 x.cmds.length e1, .int .i64 x.status, .int .i64 x.value.kind, .int .i64 x.value.num, .string x.value.text, .string x.on, .slice A2 x.vars.length e2, .int .i64 x.fuel] 52)).boxed (.cells #[.slice none 0 0, .int .i64 0, .int .i64 0, .int .i64 0, .string ⟨#[]⟩, .string ⟨#[]⟩, .slice none 0 0, .int .i64 0] 42)).boxed (.cells #[.slice none 0 0, .int .i64 0, .int .i64 0, .int .i64 0, .string ⟨#[]⟩, .string ⟨#[]⟩, .slice none 0 0, .int .i64 0] 42))
  simp only [World.size_alloc] at HS0
  go_enter Try.func29, Try.ntmps29
  go_wp2_with (first
    | (go_at_call 34; refine (toCmdS_calls r1 s1 _ (HS0.out.came0 hs)).mono ?_; rintro e w1 ⟨u1, h1, rfl, O1, S1⟩; have HS1 := Kp.mk (HS0.out.make S1); obtain ⟨B1, f1, rfl⟩ := O1.rd.slice; obtain ⟨hc, hf, hz⟩ := bcell S1.below; simp only [World.size_alloc] at hc hf hz; replace hz : w.heap.size + 1 + 1 < w1.heap.size := hz; have hz' : w.heap.size + 1 < w1.heap.size := (by omega); have hz'' : w.heap.size < w1.heap.size := (by omega); have HO1 := Kp.mk O1; clear O1 S1)
    | (go_at_call 35; refine (toValue_calls x.value _).mono ?_; rintro e w2 ⟨rfl, hb⟩; have HS2 : Kp (Holds emp w w2 [w.heap.size + 1 + 1, w.heap.size + 1] [h1]) := ⟨Holds.quiet (by repeat (first | with_reducible exact HS1.out | refine Holds.poke ?_ (by simp))) hb⟩; obtain ⟨hc2, hf2, hz2⟩ := bcell hb; simp only [World.size_alloc, World.size_setCell] at hc2 hf2 hz2; replace hz2 : w.heap.size + 1 + 1 < w2.heap.size := (by omega); have hz2' : w.heap.size + 1 < w2.heap.size := (by omega); have hz2'' : w.heap.size < w2.heap.size := (by omega); clear hb)
    | (go_at_call 36; refine (toPairS_calls r2 s2 _ (Holds.came0 (w0 := w) (bs := [w.heap.size + 1 + 1, w.heap.size + 1]) (hs := [h1]) (by repeat (first | with_reducible exact HS2.out | refine Holds.poke ?_ (by simp))) hs)).mono ?_; rintro e w3 ⟨u3, h3, rfl, O3, S3⟩; have HS3 : Kp (Holds emp w w3 [w.heap.size + 1 + 1, w.heap.size + 1] [h3, h1]) := ⟨Holds.make (by repeat (first | with_reducible exact HS2.out | refine Holds.poke ?_ (by simp))) S3⟩; obtain ⟨B3, f3, rfl⟩ := O3.rd.slice; obtain ⟨hc3, hf3, hz3⟩ := bcell S3.below; simp only [World.size_alloc, World.size_setCell] at hc3 hf3 hz3; replace hz3 : w.heap.size + 1 + 1 < w3.heap.size := (by omega); have hz3' : w.heap.size + 1 < w3.heap.size := (by omega); have hz3'' : w.heap.size < w3.heap.size := (by omega); have HO3 := Kp.mk O3; clear O3 S3))
  refine bodyPost_ret (v := x.enc (.slice B1 x.cmds.length f1) (.slice B3 x.vars.length f3)) (by simp [results, Try.results29, go_sem, hc, hc2, hc3, hz, hz2, hz3, hz', hz2', hz3', hz'', hz2'', hz3'']) rfl ⟨_, _, h1, h3, rfl, HO1.out, HO3.out, ?_⟩
  refine Holds.nobox (bs := [w.heap.size + 1 + 1, w.heap.size + 1]) ?_
  repeat (first | with_reducible exact HS3.out | refine Holds.poke ?_ (by simp))
theorem info44 : (Try.prog.info? 44).map (fun i => (i.zero, i.size, i.bytes)) = some (some (.agg #[.int .i64 0, .int .i64 0, .slice none 0 0, .int .i64 0, .int .i64 0, .int .i64 0, .string ⟨#[]⟩, .string ⟨#[]⟩, .slice none 0 0, .int .i64 0]), 10, 128) := by kernel_rfl
def zOut : Out := ⟨[], 0, zV, ⟨#[]⟩, [], 0⟩
def zItem : Item := ⟨0, 0, zOut⟩
abbrev itEl : El Item := itemEl 65 68
theorem zItem_mk : itEl.E true emp zItem (zItem.cells (.slice none 0 0) (.slice none 0 0)) := itemEl_mk zItem (Part.refl emp) (Own.nil _ _ _) (Own.nil _ _ _)
set_option maxHeartbeats 4000000 in
theorem toItem_calls {h : Hp} {v1 v2 : Value} {x : Item} (r1 : Rd cmdEl h v1 x.out.cmds) (r2 : Rd pairEl h v2 x.out.vars) (s1 : x.out.cmds.length ≤ 1048576) (s2 : x.out.vars.length ≤ 1048576) (w : World) (hs : Sub h w) : Calls Try.prog 20 #[x.enc v1 v2] w (MakesItem x w) := by
  obtain ⟨A1, e1, rfl⟩ := r1.slice
  obtain ⟨A2, e2, rfl⟩ := r2.slice
  have HS0 := ((((Holds.start0 w).alloc (.cells #[.int .i64 x.run, .int .i64 x.many, .slice A1 x.out.cmds.length e1, .int .i64 x.out.status, .int .i64 x.out.value.kind, .int .i64 x.out.value.num, .string x.out.value.text, .string x.out.on, .slice A2 x.out.vars.length e2, .int .i64 x.out.fuel] 54)).boxed (.cells #[.int .i64 0, .int .i64 0, .slice none 0 0, .int .i64 0, .int .i64 0, .int .i64 0, .string ⟨#[]⟩, .string ⟨#[]⟩, .slice none 0 0, .int .i64 0] 44)).boxed (.cells #[.int .i64 x.run, .int .i64 x.many, .slice none 0 0, .int .i64 0, .int .i64 0, .int .i64 0, .string ⟨#[]⟩, .string ⟨#[]⟩, .slice none 0 0, .int .i64 0] 44))
  simp only [World.size_alloc] at HS0
  replace HS0 := Kp.mk HS0
  go_enter Try.func20, Try.ntmps20
  go_wp2_with (go_at_call 29; refine (toOut_calls r1 r2 s1 s2 _ (HS0.out.came0 hs)).mono ?_; rintro e w1 ⟨u1, u2, h1, h2, rfl, O1, O2, S⟩; have HS1 := Kp.mk (HS0.out.make2 S); obtain ⟨B1, f1, rfl⟩ := O1.rd.slice; obtain ⟨B2, f2, rfl⟩ := O2.rd.slice; obtain ⟨hc, hf, hz⟩ := bcell S.below; simp only [World.size_alloc] at hc hf hz; replace hz : w.heap.size + 1 + 1 < w1.heap.size := hz; have hz' : w.heap.size + 1 < w1.heap.size := (by omega); have hz'' : w.heap.size < w1.heap.size := (by omega); have HO1 := Kp.mk O1; have HO2 := Kp.mk O2; clear O1 O2 S)
  refine bodyPost_ret (v := x.enc (.slice B1 x.out.cmds.length f1) (.slice B2 x.out.vars.length f2)) (by simp [results, Try.results20, go_sem, hc, hz, hz', hz'']) rfl ⟨_, _, h1, h2, rfl, HO1.out, HO2.out, ?_⟩
  refine Holds.nobox (bs := [w.heap.size + 1 + 1, w.heap.size + 1]) ?_
  repeat (first | with_reducible exact HS1.out | refine Holds.poke ?_ (by simp))
set_option maxHeartbeats 4000000 in
theorem toItemS_calls {h : Hp} {tc tp : TypeId} {A : Option Addr} {n c : Nat} {l : List Item} (hr : Rd (itemEl tc tp) h (.slice A n c) l) (hsz : n ≤ 1048576) (hlen : ∀ x ∈ l, x.out.cmds.length ≤ 1048576 ∧ x.out.vars.length ≤ 1048576) (w : World) (hs : Sub h w) : Calls Try.prog 13 #[.slice A n c] w (Makes 44 itEl l w) := by
  obtain ⟨hn, hnc, hcm⟩ := hr.len_le
  have hn' := Kp.mk hn
  clear hn
  go_enter Try.func13, Try.ntmps13
  go_wp2_with (at_make; refine wp_make itEl zItem _ 128 44 rfl _ _ 26 rfl Try.underlying26 info44 zItem_mk (by decide) rfl rfl (by omega) (by omega) ?_; intro w1 h1 hO hs1; have HO := Kp.mk hO; have HS := Kp.mk ((Holds.start0 w).make hs1); clear hO hs1)
  go_loopg [4] (n + 1) (fun k i wr => ∃ (j : Nat) (h' : Hp), i = .int .i64 j ∧ j ≤ n ∧ k = n + 1 - j ∧ Kp (Own 44 itEl h' (.slice (some ⟨w.heap.size, 0, none⟩) n n) (l.take j ++ List.replicate (n - j) zItem)) ∧ Kp (Holds emp w wr [] [h']))
  case atStart => exact ⟨0, h1, rfl, by omega, by omega, ⟨by simpa using HO.out⟩, HS⟩
  case round =>
    clear HO HS
    obtain ⟨j, h', rfl, hj, hk, HO, HS⟩ := hrel
    have hk' := Kp.mk hk
    clear hk
    by_cases hjn : j < n
    · obtain ⟨x, hx⟩ : ∃ x, l[j]? = some x := ⟨_, List.getElem?_eq_getElem (by have := hn'.out; omega)⟩
      obtain ⟨g, o, v1, v2, rfl, r1, r2, hc⟩ := item_at hr hx
      obtain ⟨c0, c1, c2, c3, c4, c5, c6, c7, c8, c9⟩ := hc wr (HS.out.came0 hs)
      have hl := hlen x (List.mem_of_getElem? hx)
      have hx' := Kp.mk hx
      clear hc hx
      go_wp2_with (go_at_call 20; refine (toItem_calls r1 r2 hl.1 hl.2 _ (HS.out.came0 hs)).mono ?_; rintro e w2 ⟨u1, u2, h1, h2, rfl, O1, O2, S⟩; have HS2 := Kp.mk (HS.out.make2 S); have HE := Kp.mk (itemEl_mk (b := true) x (Part.cup S.disj.symm) O1 O2); obtain ⟨B1, f1, rfl⟩ := O1.rd.slice; obtain ⟨B2, f2, rfl⟩ := O2.rd.slice; obtain ⟨y1, y2, p1, p2, d0, d1, d2, d3, d4, d5, d6, d7, d8, d9⟩ := item_own HO.out (pad_at (Nat.le_of_eq hn'.out) hjn) w2 (HS2.out.sub _ (by simp)); have hf := HO.out.frozen (HS2.out.sub _ (by simp)); clear O1 O2 S p1 p2)
      obtain ⟨h3, HO2, HS3⟩ := ((HS2.out.swap.join).swap).set HO.out (pad_at (Nat.le_of_eq hn'.out) hjn) HE.out
      rw [pad_set (Nat.le_of_eq hn'.out) hjn hx'.out] at HO2
      go_roundg (n + 1 - (j + 1))
      case measure => have := hk'.out; omega
      case rel => exact ⟨j + 1, h3, by go_num, by omega, rfl, ⟨HO2⟩, ⟨HS3⟩⟩
    · go_wp2
      go_ret
      obtain rfl : j = n := by omega
      have h3 := HO.out
      have h4 := hn'.out
      rw [Nat.sub_self, List.replicate_zero, List.append_nil, List.take_of_length_le (by omega)] at h3
      exact ⟨_, h', rfl, h3, HS.out.step⟩
/-- A cache, made by the call. -/
def MakesCache (l : List Item) (w : World) (e : Ending) (w' : World) : Prop := ∃ v h', e = .returned (.agg #[v]) ∧ Own 44 itEl h' v l ∧ Step emp w h' w'
set_option maxHeartbeats 4000000 in
theorem toCache_calls {h : Hp} {tc tp : TypeId} {A : Option Addr} {n c : Nat} {l : List Item} (hr : Rd (itemEl tc tp) h (.slice A n c) l) (hsz : n ≤ 1048576) (hlen : ∀ x ∈ l, x.out.cmds.length ≤ 1048576 ∧ x.out.vars.length ≤ 1048576) (w : World) (hs : Sub h w) : Calls Try.prog 6 #[.agg #[.slice A n c]] w (MakesCache l w) := by
  have HS0 := ((((Holds.start0 w).alloc (.cells #[.slice A n c] 24)).boxed (.cells #[.slice none 0 0] 28)).boxed (.cells #[.slice none 0 0] 28))
  simp only [World.size_alloc] at HS0
  replace HS0 := Kp.mk HS0
  go_enter Try.func6, Try.ntmps6
  go_wp2_with (go_at_call 13; refine (toItemS_calls hr hsz hlen _ (HS0.out.came0 hs)).mono ?_; rintro e w1 ⟨u1, h1, rfl, O1, S⟩; have HS1 := Kp.mk (HS0.out.make S); obtain ⟨B1, f1, rfl⟩ := O1.rd.slice; obtain ⟨hc, hf, hz⟩ := bcell S.below; simp only [World.size_alloc] at hc hf hz; replace hz : w.heap.size + 1 + 1 < w1.heap.size := hz; have hz' : w.heap.size + 1 < w1.heap.size := (by omega); have hz'' : w.heap.size < w1.heap.size := (by omega); have HO1 := Kp.mk O1; clear O1 S)
  refine bodyPost_ret (v := .agg #[.slice B1 l.length f1]) (by simp [results, Try.results6, go_sem, hc, hz, hz', hz'']) rfl ⟨_, h1, rfl, HO1.out, ?_⟩
  refine Holds.step (hs := []) (bs := [w.heap.size + 1 + 1, w.heap.size + 1]) ?_
  repeat (first | with_reducible exact HS1.out | refine Holds.poke ?_ (by simp))
end Go.Proofs.Ytccioimicdggkaa.C
