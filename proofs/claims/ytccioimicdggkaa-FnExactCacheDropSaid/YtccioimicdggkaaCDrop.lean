/- Copies of how a program stands and of a cache; a cache without a run's items: in the program and in the reference. -/
import Derived.Test.YtccioimicdggkaaCEq
namespace Go.Proofs.Ytccioimicdggkaa.C
open Go.RowKit
set_option linter.unusedVariables false
set_option linter.unusedSimpArgs false
set_option maxHeartbeats 4000000 in
theorem cloneOut_calls {h : Hp} {v1 v2 : Value} {x : Out} (r1 : Rd cmdEl h v1 x.cmds) (r2 : Rd pairEl h v2 x.vars) (s1 : x.cmds.length ≤ 1048576) (s2 : x.vars.length ≤ 1048576) (w : World) (hs : Sub h w) : Calls Try.prog 21 #[x.enc v1 v2] w (MakesOut x w) := by
  obtain ⟨A1, e1, rfl⟩ := r1.slice
  obtain ⟨A2, e2, rfl⟩ := r2.slice
  obtain ⟨-, n1, news1, E1, C1⟩ := r1.all cmdEl_flat
  obtain ⟨-, n2, news2, E2, C2⟩ := r2.all pairEl_flat
  have N1 := Kp.mk n1
  have N2 := Kp.mk n2
  have D2 := Kp.mk C2
  clear n1 n2 C2
  have HS0 := ((((Holds.start0 w).boxed (.cells #[.slice A1 x.cmds.length e1, .int .i64 x.status, .int .i64 x.value.kind, .int .i64 x.value.num, .string x.value.text, .string x.on, .slice A2 x.vars.length e2, .int .i64 x.fuel] 42)).boxed (.cells #[.slice none 0 0, .int .i64 0, .int .i64 0, .int .i64 0, .string ⟨#[]⟩, .string ⟨#[]⟩, .slice none 0 0, .int .i64 0] 42)).make (Step.new _ (.cells #[] 65)))
  simp only [World.size_alloc] at HS0
  replace HS0 := Kp.mk HS0
  have D1 := Kp.mk (C1 _ (HS0.out.came0 hs))
  clear C1
  go_enter Try.func21, Try.ntmps21
  go_wp2_with (first
   | (at_builtin; (with_reducible refine wp_appendH cmdEl _ 56 65 rfl (.tmp 3) (.tmp 5) 37 rfl Try.underlying37 info65 rfl (by decide) (by omega) rfl (Own.empty 65 cmdEl _) rfl rfl N1.out D1.out E1 HS0.out.put.swap (by simp; omega) ?_); intro B1 f1 w1 h1 O1 HH1 hk1 hz1; clear hz1; simp only [List.nil_append] at O1; obtain ⟨ka, kb, kc⟩ := hk1 w.heap.size (by simp); obtain ⟨la, lb, lc⟩ := hk1 (w.heap.size + 1) (by simp); clear hk1; simp [go_sem] at ka la kb lb; have HS1 := Kp.mk HH1; have HO1 := Kp.mk O1; clear HH1 O1)
   | (at_builtin; (with_reducible refine wp_appendH (w0 := w) (H := emp) (bs := [w.heap.size + 1, w.heap.size]) (hs' := [h1]) pairEl _ 48 68 rfl (.tmp 8) (.tmp 10) 40 rfl Try.underlying40 info68 rfl (by decide) (by omega) rfl (Own.empty 68 pairEl w1.heap.size) rfl rfl N2.out (D2.out _ (Holds.came0 (w0 := w) (bs := [w.heap.size + 1, w.heap.size]) (hs := [h1]) (by refine Holds.alloc ?_ _; repeat (first | with_reducible exact HS1.out | refine Holds.poke ?_ (by simp))) hs)) E2 (Holds.swap (Holds.put (by rw [show w1.heap.size = (w1.setCell ⟨w.heap.size, 0, none⟩ (.slice B1 x.cmds.length f1)).heap.size by simp]; refine Holds.make ?_ (Step.new _ _); repeat (first | with_reducible exact HS1.out | refine Holds.poke ?_ (by simp))))) (by simp; omega) ?_); intro B2 f2 w2 h2 O2 HH2 hk1 hz1; clear hz1; simp only [List.nil_append] at O2; obtain ⟨ka2, kb2, kc2⟩ := hk1 w.heap.size (by simp); obtain ⟨la2, lb2, lc2⟩ := hk1 (w.heap.size + 1) (by simp); clear hk1; simp [go_sem, ka, la, kb, lb, kc, lc] at ka2 la2 kb2 lb2; have HS2 := Kp.mk HH2; have HO2 := Kp.mk O2; clear HH2 O2))
  refine bodyPost_ret (v := x.enc (.slice B1 x.cmds.length f1) (.slice B2 x.vars.length f2)) (by simp [results, Try.results21, go_sem, ka, la, kc, lc, ka2, la2, kc2, lc2]) rfl ⟨_, _, h1, h2, rfl, HO1.out, HO2.out, ?_⟩
  refine Holds.nobox (bs := [w.heap.size + 1, w.heap.size]) ?_
  repeat (first | with_reducible exact HS2.out | refine Holds.poke ?_ (by simp))
set_option maxHeartbeats 4000000 in
theorem l10Out_calls {h : Hp} {v1 v2 : Value} {x : Out} (r1 : Rd cmdEl h v1 x.cmds) (r2 : Rd pairEl h v2 x.vars) (s1 : x.cmds.length ≤ 1048576) (s2 : x.vars.length ≤ 1048576) (w : World) (hs : Sub h w) : Calls Try.prog 19 #[x.enc v1 v2] w (MakesOut x w) := by
  obtain ⟨A1, e1, rfl⟩ := r1.slice
  obtain ⟨A2, e2, rfl⟩ := r2.slice
  obtain ⟨-, n1, news1, E1, C1⟩ := r1.all cmdEl_flat
  obtain ⟨-, n2, news2, E2, C2⟩ := r2.all pairEl_flat
  have N1 := Kp.mk n1
  have N2 := Kp.mk n2
  have D2 := Kp.mk C2
  clear n1 n2 C2
  have HS0 := ((((Holds.start0 w).boxed (.cells #[.slice A1 x.cmds.length e1, .int .i64 x.status, .int .i64 x.value.kind, .int .i64 x.value.num, .string x.value.text, .string x.on, .slice A2 x.vars.length e2, .int .i64 x.fuel] 42)).boxed (.cells #[.slice none 0 0, .int .i64 0, .int .i64 0, .int .i64 0, .string ⟨#[]⟩, .string ⟨#[]⟩, .slice none 0 0, .int .i64 0] 42)).make (Step.new _ (.cells #[] 65)))
  simp only [World.size_alloc] at HS0
  replace HS0 := Kp.mk HS0
  have D1 := Kp.mk (C1 _ (HS0.out.came0 hs))
  clear C1
  go_enter Try.func19, Try.ntmps19
  go_wp2_with (first
   | (at_builtin; (with_reducible refine wp_appendH cmdEl _ 56 65 rfl (.tmp 3) (.tmp 5) 37 rfl Try.underlying37 info65 rfl (by decide) (by omega) rfl (Own.empty 65 cmdEl _) rfl rfl N1.out D1.out E1 HS0.out.put.swap (by simp; omega) ?_); intro B1 f1 w1 h1 O1 HH1 hk1 hz1; clear hz1; simp only [List.nil_append] at O1; obtain ⟨ka, kb, kc⟩ := hk1 w.heap.size (by simp); obtain ⟨la, lb, lc⟩ := hk1 (w.heap.size + 1) (by simp); clear hk1; simp [go_sem] at ka la kb lb; have HS1 := Kp.mk HH1; have HO1 := Kp.mk O1; clear HH1 O1)
   | (at_builtin; (with_reducible refine wp_appendH (w0 := w) (H := emp) (bs := [w.heap.size + 1, w.heap.size]) (hs' := [h1]) pairEl _ 48 68 rfl (.tmp 8) (.tmp 10) 40 rfl Try.underlying40 info68 rfl (by decide) (by omega) rfl (Own.empty 68 pairEl w1.heap.size) rfl rfl N2.out (D2.out _ (Holds.came0 (w0 := w) (bs := [w.heap.size + 1, w.heap.size]) (hs := [h1]) (by refine Holds.alloc ?_ _; repeat (first | with_reducible exact HS1.out | refine Holds.poke ?_ (by simp))) hs)) E2 (Holds.swap (Holds.put (by rw [show w1.heap.size = (w1.setCell ⟨w.heap.size, 0, none⟩ (.slice B1 x.cmds.length f1)).heap.size by simp]; refine Holds.make ?_ (Step.new _ _); repeat (first | with_reducible exact HS1.out | refine Holds.poke ?_ (by simp))))) (by simp; omega) ?_); intro B2 f2 w2 h2 O2 HH2 hk1 hz1; clear hz1; simp only [List.nil_append] at O2; obtain ⟨ka2, kb2, kc2⟩ := hk1 w.heap.size (by simp); obtain ⟨la2, lb2, lc2⟩ := hk1 (w.heap.size + 1) (by simp); clear hk1; simp [go_sem, ka, la, kb, lb, kc, lc] at ka2 la2 kb2 lb2; have HS2 := Kp.mk HH2; have HO2 := Kp.mk O2; clear HH2 O2))
  refine bodyPost_ret (v := x.enc (.slice B1 x.cmds.length f1) (.slice B2 x.vars.length f2)) (by simp [results, Try.results19, go_sem, ka, la, kc, lc, ka2, la2, kc2, lc2]) rfl ⟨_, _, h1, h2, rfl, HO1.out, HO2.out, ?_⟩
  refine Holds.nobox (bs := [w.heap.size + 1, w.heap.size]) ?_
  repeat (first | with_reducible exact HS2.out | refine Holds.poke ?_ (by simp))
theorem take_snoc {α : Type} {l : List α} {j : Nat} {x : α} (h : l[j]? = some x) : l.take j ++ [x] = l.take (j + 1) := by
  obtain ⟨h1, rfl⟩ := List.getElem?_eq_some_iff.1 h
  rw [List.take_succ_eq_append_getElem h1]
theorem len_snoc {α : Type} {l : List α} {j : Nat} {x : α} (h : l[j]? = some x) : (l.take j ++ [x]).length = j + 1 := by
  have := (List.getElem?_eq_some_iff.1 h).1
  rw [List.length_append, List.length_take, List.length_singleton]; omega
set_option maxHeartbeats 3000000 in
set_option maxRecDepth 100000 in
theorem cloneCache_calls {h : Hp} {tc tp : TypeId} {v : Value} {l : List Item} (hr : Rd (itemEl tc tp) h v l) (hsz : l.length ≤ 1048576) (hlen : ∀ x ∈ l, x.out.cmds.length ≤ 1048576 ∧ x.out.vars.length ≤ 1048576) (w : World) (hs : Sub h w) : Calls Try.prog 14 #[.agg #[v]] w (MakesCache l w) := by
  obtain ⟨A, c, rfl⟩ := hr.slice
  obtain ⟨-, hnc, hcm⟩ := hr.len_le
  have HS0 := (((((Holds.start0 w).alloc (.cells #[.slice A l.length c] 28)).make (Step.new _ (.cells #[.slice none 0 0] 28))).make (Step.new _ (.cells #[] 44))).make (Step.new _ (.cells #[.slice (some ⟨w.heap.size + 1 + 1, 0, none⟩) 0 0] 28))).swap
  simp only [World.size_alloc] at HS0
  replace HS0 := Kp.mk HS0
  go_enter Try.func14, Try.ntmps14
  go_wp2
  go_loopg [11] (l.length + 1) (fun k i wr => ∃ (j : Nat) (h' : Hp) (A1 : Option Addr) (c1 : Nat), i = .int .i64 j ∧ j ≤ l.length ∧ k = l.length + 1 - j ∧ Kp (Own 44 itEl h' (.slice A1 j c1) (l.take j)) ∧ Kp (Holds emp w wr [] [h', one (w.heap.size + 1 + 1 + 1) (.cells #[.slice A1 j c1] 28), one (w.heap.size + 1) (.cells #[.slice none 0 0] 28)]))
  case atStart => exact ⟨0, _, _, _, rfl, by omega, by omega, ⟨Own.empty 44 itEl (w.heap.size + 1 + 1)⟩, HS0⟩
  case round =>
    clear HS0
    obtain ⟨j, h', A1, c1, rfl, hj, hk, HO, HS⟩ := hrel
    have hk' := Kp.mk hk
    clear hk
    by_cases hjn : j < l.length
    · obtain ⟨x, hx⟩ : ∃ x, l[j]? = some x := ⟨_, List.getElem?_eq_getElem hjn⟩
      obtain ⟨g, o, v1, v2, rfl, r1, r2, hc⟩ := item_at hr hx
      obtain ⟨d0, d1, d2, d3, d4, d5, d6, d7, d8, d9⟩ := hc wr (HS.out.came0 hs)
      have hl := hlen x (List.mem_of_getElem? hx)
      have hx' := Kp.mk hx
      obtain ⟨y1, e1, rfl⟩ := r1.slice
      obtain ⟨y2, e2, rfl⟩ := r2.slice
      clear hc hx
      go_wp2_with fail
      refine (cloneOut_calls r1 r2 hl.1 hl.2 _ ((HS.out.alloc _).came0 hs)).mono ?_
      rintro e w2 ⟨u1, u2, h1, h2, rfl, O1, O2, S⟩
      have HS2 := Kp.mk (((HS.out.boxed _).make2 S).swap.join.swap)
      have HE := Kp.mk (itemEl_mk (b := true) x (Part.cup S.disj.symm) O1 O2)
      obtain ⟨B1, m1, rfl⟩ := O1.rd.slice
      obtain ⟨B2, m2, rfl⟩ := O2.rd.slice
      have hf := sub_frozen ((sub_new wr _).below S.below) (if_pos rfl)
      obtain ⟨b0, b1, b2, b3, b4, b5, b6, b7, b8, b9⟩ := box10 ((sub_new wr _).below S.below)
      have hz : wr.heap.size < w2.heap.size := by have := S.size; simp at this; omega
      obtain ⟨q1, q2, q3⟩ := box1 HS2.out.tail.snd
      have hne : ¬ (wr.heap.size = w.heap.size + 1 + 1 + 1) := by have := (box1 HS.out.snd).2.2; omega
      have hne2 : ¬ (w.heap.size + 1 + 1 + 1 = wr.heap.size) := by omega
      clear O1 O2 S d0 d1 d2 d3 d4 d5 d6 d7 d8 d9
      go_wp2_with (first | (at_builtin; ((with_reducible refine wp_appendH (w0 := w) (H := emp) (bs := [wr.heap.size]) (hs' := [one (w.heap.size + 1 + 1 + 1) (.cells #[.slice A1 j c1] 28), one (w.heap.size + 1) (.cells #[.slice none 0 0] 28)]) itEl _ 128 44 rfl (.tmp 20) (.tmp 22) 26 rfl Try.underlying26 info44 rfl (by decide) (by omega) rfl HO.out (ys := [x]) rfl rfl (fun e => (by cases e)) (fun ad he => (by cases he; exact news_box (by simp))) (Els.single HE.out) (by refine Holds.alloc ?_ _; repeat (first | with_reducible exact HS2.out | refine Holds.poke ?_ (by simp))) (by simp; omega) ?_); intro C1 k1 w3 h3 O3 HH3 hk1 hz3; clear hk1 hz3; rw [len_snoc hx'.out] at O3 ⊢; rw [take_snoc hx'.out] at O3; obtain ⟨z1, z2, z3⟩ := box1 HH3.snd; have HS3 := Kp.mk (HH3.swap.unbox (bs' := []) (by simp)); have HO3 := Kp.mk O3; clear HH3 O3)))
      go_roundg (l.length + 1 - (j + 1))
      case measure => have := hk'.out; omega
      case rel => exact ⟨j + 1, h3, C1, k1, by go_num, by omega, rfl, HO3, ⟨HS3.out.store1.swap⟩⟩
    · obtain ⟨q1, q2, q3⟩ := box1 HS.out.snd
      obtain ⟨p1, p2, p3⟩ := box1 HS.out.tail.snd
      obtain rfl : j = l.length := by omega
      go_wp2
      refine bodyPost_ret (v := .agg #[.slice A1 l.length c1]) (by simp [results, Try.results14, go_sem, q1, p1]) rfl ⟨_, h', rfl, by have := HO.out; rwa [List.take_length] at this, HS.out.third.store1.tail.step⟩
/-- An owned row, its block and its elements apart. -/
theorem Own.open_ {α : Type} {t : TypeId} {e : El α} {h : Hp} {v : Value} {xs : List α} (a : Own t e h v xs) (hx : xs ≠ []) :
    ∃ g cap cur hin, v = .slice (some ⟨g, 0, none⟩) xs.length cap ∧ Part true (one g (.cells cur t (0, 0))) hin h ∧ Els e true hin xs (cur.toList.take (xs.length * e.sz)) := by
  rcases a with ⟨_, rfl⟩ | ⟨g, cap, cur, hin, h1, h2, h3, h4, h5, h6, h7, h8⟩
  · exact absurd rfl hx
  · refine ⟨g, cap, cur, hin, h1, ⟨fun _ k => ?_, fun k o he => ?_, h7⟩, h8⟩
    · by_cases hk : k = g
      · subst hk; exact .inr h6
      · exact .inl (by simp [one, hk])
    · unfold one at he
      split at he
      · rename_i hk; subst hk; cases he; exact h5
      · cases he
theorem filter_take {α : Type} {p : α → Bool} {l : List α} {j : Nat} {x : α} (h : l[j]? = some x) : (l.take (j + 1)).filter p = (l.take j).filter p ++ if p x then [x] else [] := by
  rw [← take_snoc h, List.filter_append]
  cases hp : p x <;> simp [hp]
theorem filter_le {α : Type} (p : α → Bool) (l : List α) (j : Nat) : ((l.take j).filter p).length ≤ l.length := by
  have := List.length_filter_le p (l.take j)
  rw [List.length_take] at this; omega
theorem blk_cells {w : World} {g : Nat} {cur : Array Value} {t : TypeId} {fr : Nat × Nat} (s : Sub (one g (.cells cur t fr)) w) {cells : List Value} (hc : ∀ (q : Nat) (u : Value), cells[q]? = some u → cur[q]? = some u) {n : Nat} {c1 c2 : List Value} (hcs : cells.drop n = c1 ++ c2) :
    ∀ q u, c1[q]? = some u → w.cell? ⟨g, n + q, none⟩ = some u := fun q u hu => by
  rw [sub_cell s (if_pos rfl)]
  refine hc _ _ ?_
  have h : (cells.drop n)[q]? = some u := by rw [hcs, List.getElem?_append_left (List.getElem?_eq_some_iff.1 hu).1]; exact hu
  rwa [List.getElem?_drop] at h
theorem field28 (A : Option Addr) (n c : Nat) (w : World) : (Instr.field 28 (.agg #[.slice A n c]) 0).run Try.prog w = .ok (.slice A n c) w := by kernel_rfl
def without (run : Int) (l : List Item) : List Item := l.filter fun x => x.run != run
set_option maxHeartbeats 3000000 in
set_option maxRecDepth 100000 in
theorem CacheDrop_calls {h : Hp} {tc tp : TypeId} {v : Value} {l : List Item} (run : Int) (hr : Rd (itemEl tc tp) h v l) (hsz : l.length ≤ 1048576) (hlen : ∀ x ∈ l, x.out.cmds.length ≤ 1048576 ∧ x.out.vars.length ≤ 1048576) (w : World) (hs : Sub h w) : Calls Try.prog 7 #[.agg #[v], .int .i64 run] w (MakesCache (without run l) w) := by
  obtain ⟨A, c, rfl⟩ := hr.slice
  have HS0 := (((((Holds.start0 w).alloc (.cells #[.slice A l.length c] 28)).make (Step.new _ (.cells #[.slice none 0 0] 28))).make (Step.new _ (.cells #[] 44))).make (Step.new _ (.cells #[.slice (some ⟨w.heap.size + 1 + 1, 0, none⟩) 0 0] 28))).swap
  simp only [World.size_alloc] at HS0
  replace HS0 := Kp.mk HS0
  have hfd := field28
  go_enter Try.func7, Try.ntmps7
  go_wp2_with fail
  refine (cloneCache_calls hr hsz hlen _ (HS0.out.came0 hs)).mono ?_
  rintro e w1 ⟨v1, hC, rfl, OC, S⟩
  have HS1 := Kp.mk (HS0.out.make S)
  obtain ⟨AC, cC, rfl⟩ := OC.rd.slice
  clear S HS0
  go_wp2
  clear hfd
  by_cases hl0 : l = []
  · subst hl0
    go_loopg [14] 1 (fun k i wr => i = .int .i64 0 ∧ k = 1 ∧ Kp (Holds emp w wr [] [hC, one (w.heap.size + 1 + 1) (.cells #[] 44), one (w.heap.size + 1 + 1 + 1) (.cells #[.slice (some ⟨w.heap.size + 1 + 1, 0, none⟩) 0 0] 28), one (w.heap.size + 1) (.cells #[.slice none 0 0] 28)]))
    case atStart => exact ⟨rfl, rfl, HS1⟩
    case round =>
      clear HS1
      obtain ⟨rfl, rfl, HS⟩ := hrel
      obtain ⟨q1, q2, q3⟩ := box1 HS.out.tail.snd
      obtain ⟨p1, p2, p3⟩ := box1 HS.out.tail.tail.snd
      go_wp2
      exact bodyPost_ret (v := .agg #[.slice (some ⟨w.heap.size + 1 + 1, 0, none⟩) 0 0]) (by simp [results, Try.results7, go_sem, q1, p1]) rfl ⟨_, _, rfl, Own.empty 44 itEl (w.heap.size + 1 + 1), HS.out.fourth.store1.tail.tail.step⟩
  · obtain ⟨gC, capC, cur, hin, hv, pC, EC⟩ := OC.open_ hl0
    cases hv
    have hclen : (cur.toList.take (l.length * itEl.sz)).length = l.length * itEl.sz := EC.len
    have hcur : ∀ (q : Nat) (u : Value), (cur.toList.take (l.length * itEl.sz))[q]? = some u → cur[q]? = some u := by
      intro q u hq
      have := (List.getElem?_eq_some_iff.1 hq).1
      rw [List.getElem?_take_of_lt (by omega)] at hq
      simpa using hq
    have HS2 := Kp.mk (((HS1.out.split pC).third).third.swap)
    have HC := Kp.mk hcur
    obtain ⟨cells, hcells⟩ : ∃ cells, cells = cur.toList.take (l.length * itEl.sz) := ⟨_, rfl⟩
    rw [← hcells] at EC HC
    have HE := Kp.mk EC
    clear HS1 EC hcur hclen pC OC hcells
    go_loopg [14] (l.length + 1) (fun k i wr => ∃ (j m : Nat) (h' hr : Hp) (A1 : Option Addr) (c1 : Nat), i = .int .i64 j ∧ j ≤ l.length ∧ m ≤ l.length ∧ k = l.length + 1 - j ∧ Kp (m = ((l.take j).filter fun x => x.run != run).length) ∧ Kp (Own 44 itEl h' (.slice A1 m c1) ((l.take j).filter fun x => x.run != run)) ∧ Kp (Els itEl true hr (l.drop j) (cells.drop (j * 10))) ∧
      Kp (Holds emp w wr [] [h', hr, one gC (.cells cur 44 (0, 0)), one (w.heap.size + 1 + 1 + 1) (.cells #[.slice A1 m c1] 28), one (w.heap.size + 1) (.cells #[.slice none 0 0] 28)]))
    case atStart => exact ⟨0, 0, _, hin, _, _, rfl, by omega, by omega, by omega, ⟨rfl⟩, ⟨Own.empty 44 itEl (w.heap.size + 1 + 1)⟩, HE, HS2⟩
    case round =>
      clear HS2 HE
      obtain ⟨j, m, h', hr, A1, c1, rfl, hj, hm, hk, HM, HO, HE, HS⟩ := hrel
      have hk' := Kp.mk hk
      clear hk
      by_cases hjn : j < l.length
      · obtain ⟨x, hx⟩ : ∃ x, l[j]? = some x := ⟨_, List.getElem?_eq_getElem hjn⟩
        have hE := HE.out
        rw [List.drop_eq_getElem_cons hjn, (List.getElem?_eq_some_iff.1 hx).2] at hE
        obtain ⟨e1, e2, g1, g2, hcs, p, hE1, hE2⟩ := hE
        obtain ⟨v1, v2, k1, k2, rfl, pk, R1, R2⟩ := itemEl_open hE1
        have HS1 := Kp.mk ((HS.out.swap.split p).third)
        obtain ⟨d0, d1, d2, d3, d4, d5, d6, d7, d8, d9⟩ := at10 (blk_cells HS.out.tail.snd HC.out hcs)
        have HE1 := Kp.mk hE1
        have HE2 : Kp (Els itEl true g2 (l.drop (j + 1)) (cells.drop ((j + 1) * 10))) := ⟨by
          have h4 : cells.drop ((j + 1) * 10) = e2 := by
            rw [Nat.add_mul, ← List.drop_drop, hcs]; simp
          rw [h4]; exact hE2⟩
        obtain ⟨y1, f1, rfl⟩ := R1.rd.slice
        obtain ⟨y2, f2, rfl⟩ := R2.rd.slice
        obtain ⟨q1, q2, q3⟩ := box1 HS.out.tail.tail.snd
        have hne : ¬ (wr.heap.size = w.heap.size + 1 + 1 + 1) := by omega
        have hx' := Kp.mk hx
        clear hx hcs hE1 hE2 R1 R2 pk p HE
        by_cases hrun : x.run = run
        · subst hrun
          go_wp2
          have hft := filter_take (p := fun y : Item => y.run != x.run) hx'.out
          simp only [bne_self_eq_false, Bool.false_eq_true, if_false, List.append_nil] at hft
          go_roundg (l.length + 1 - (j + 1))
          case measure => have := hk'.out; omega
          case rel => exact ⟨j + 1, m, h', g2, A1, c1, by go_num, by omega, hm, rfl, ⟨by rw [hft]; exact HM.out⟩, ⟨by rw [hft]; exact HO.out⟩, HE2, ⟨(HS1.out.alloc _).swap.tail⟩⟩
        · have hrb : (x.run == run) = false := by simpa using hrun
          have hrb2 : (x.run != run) = true := by simpa using hrun
          have hft := Kp.mk (filter_take (p := fun y : Item => y.run != run) hx'.out)
          simp only [hrb2, if_true] at hft
          have hlen1 : (List.filter (fun y : Item => y.run != run) (List.take j l) ++ [x]).length = m + 1 := by rw [List.length_append, List.length_singleton, ← HM.out]
          have hm1 : m + 1 ≤ l.length := by rw [← hlen1, ← hft.out]; exact filter_le _ _ _
          clear hrun
          go_wp2_with (first | (at_builtin; ((with_reducible refine wp_appendH (w0 := w) (H := emp) (bs := [wr.heap.size]) (hs' := [g2, one gC (.cells cur 44 (0, 0)), one (w.heap.size + 1 + 1 + 1) (.cells #[.slice A1 m c1] 28), one (w.heap.size + 1) (.cells #[.slice none 0 0] 28)]) itEl _ 128 44 rfl (.tmp 23) (.tmp 25) 26 rfl Try.underlying26 info44 rfl (by decide) (by omega) rfl HO.out (ys := [x]) rfl rfl (fun e => (by cases e)) (fun ad he => (by cases he; exact news_box (by simp))) (Els.single HE1.out) ((HS1.out.boxed _).alloc _) (by have := HM.out; simp only [List.length_singleton]; omega) ?_); intro C1 i1 w3 h3 O3 HH3 hk1 hz3; clear hk1 hz3; rw [hlen1] at O3 ⊢; obtain ⟨z1, z2, z3⟩ := box1 HH3.tail.tail.snd; have HS3 := Kp.mk (HH3.unbox (bs' := []) (by simp)); have HO3 := Kp.mk O3; clear HH3 O3)))
          go_roundg (l.length + 1 - (j + 1))
          case measure => have := hk'.out; omega
          case rel => exact ⟨j + 1, m + 1, h3, g2, C1, i1, by go_num, by omega, hm1, rfl, ⟨by rw [hft.out]; exact hlen1.symm⟩, ⟨by rw [hft.out]; exact HO3.out⟩, HE2, ⟨HS3.out.fourth.store1.back4⟩⟩
      · obtain ⟨q1, q2, q3⟩ := box1 HS.out.tail.tail.snd
        obtain ⟨p1, p2, p3⟩ := box1 HS.out.tail.tail.tail.snd
        obtain rfl : j = l.length := by omega
        go_wp2
        refine bodyPost_ret (v := .agg #[.slice A1 m c1]) (by simp [results, Try.results7, go_sem, q1, p1]) rfl ⟨_, h', rfl, by have := HO.out; rwa [List.take_length] at this, HS.out.fifth.store1.tail.step⟩
set_option maxHeartbeats 3000000 in
set_option maxRecDepth 100000 in
theorem l10Drop_calls {h : Hp} {tc tp : TypeId} {v : Value} {l : List Item} (run : Int) (hr : Rd (itemEl tc tp) h v l) (hsz : l.length ≤ 1048576) (hlen : ∀ x ∈ l, x.out.cmds.length ≤ 1048576 ∧ x.out.vars.length ≤ 1048576) (w : World) (hs : Sub h w) : Calls Try.prog 12 #[.agg #[v], .int .i64 run] w (MakesCache (without run l) w) := by
  obtain ⟨A, c, rfl⟩ := hr.slice
  obtain ⟨-, hnc, hcm⟩ := hr.len_le
  have HS0 := (((((Holds.start0 w).make (Step.new _ (.cells #[.slice A l.length c] 28))).make (Step.new _ (.cells #[.slice none 0 0] 28))).make (Step.new _ (.cells #[.slice none 0 0] 28))).third.swap).put
  simp only [World.size_alloc] at HS0
  replace HS0 := Kp.mk HS0
  go_enter Try.func12, Try.ntmps12
  go_wp2
  go_loopg [6] (l.length + 1) (fun k i wr => ∃ (j m : Nat) (h' : Hp) (A1 : Option Addr) (c1 : Nat), i = .int .i64 j ∧ j ≤ l.length ∧ m ≤ l.length ∧ k = l.length + 1 - j ∧ Kp (m = ((l.take j).filter fun x => x.run != run).length) ∧ Kp (Own 44 itEl h' (.slice A1 m c1) ((l.take j).filter fun x => x.run != run)) ∧
      Kp (Holds emp w wr [] [h', one (w.heap.size + 1 + 1) (.cells #[.slice A1 m c1] 28), one w.heap.size (.cells #[.slice A l.length c] 28), one (w.heap.size + 1) (.cells #[.slice none 0 0] 28)]))
  case atStart => exact ⟨0, 0, emp, none, 0, rfl, by omega, by omega, by omega, ⟨rfl⟩, ⟨Own.nil _ _ _⟩, HS0⟩
  case round =>
    clear HS0
    obtain ⟨j, m, h', A1, c1, rfl, hj, hm, hk, HM, HO, HS⟩ := hrel
    have hk' := Kp.mk hk
    clear hk
    obtain ⟨q1, q2, q3⟩ := box1 HS.out.snd
    obtain ⟨t1, t2, t3⟩ := box1 HS.out.tail.snd
    obtain ⟨p1, p2, p3⟩ := box1 HS.out.tail.tail.snd
    by_cases hjn : j < l.length
    · obtain ⟨x, hx⟩ : ∃ x, l[j]? = some x := ⟨_, List.getElem?_eq_getElem hjn⟩
      obtain ⟨g, o, v1, v2, rfl, r1, r2, hc⟩ := item_at hr hx
      obtain ⟨d0, d1, d2, d3, d4, d5, d6, d7, d8, d9⟩ := hc wr (HS.out.came0 hs)
      have hl := hlen x (List.mem_of_getElem? hx)
      obtain ⟨y1, e1, rfl⟩ := r1.slice
      obtain ⟨y2, e2, rfl⟩ := r2.slice
      have hx' := Kp.mk hx
      clear hc hx
      by_cases hrun : x.run = run
      · subst hrun
        go_wp2
        have hft := filter_take (p := fun y : Item => y.run != x.run) hx'.out
        simp only [bne_self_eq_false, Bool.false_eq_true, if_false, List.append_nil] at hft
        go_roundg (l.length + 1 - (j + 1))
        case measure => have := hk'.out; omega
        case rel => exact ⟨j + 1, m, h', A1, c1, by go_num, by omega, hm, rfl, ⟨by rw [hft]; exact HM.out⟩, ⟨by rw [hft]; exact HO.out⟩, HS⟩
      · have hrb : (x.run == run) = false := by simpa using hrun
        have hrb2 : (x.run != run) = true := by simpa using hrun
        have hft := Kp.mk (filter_take (p := fun y : Item => y.run != run) hx'.out)
        simp only [hrb2, if_true] at hft
        have hlen1 : (List.filter (fun y : Item => y.run != run) (List.take j l) ++ [x]).length = m + 1 := by rw [List.length_append, List.length_singleton, ← HM.out]
        have hm1 : m + 1 ≤ l.length := by rw [← hlen1, ← hft.out]; exact filter_le _ _ _
        clear hrun
        go_wp2_with fail
        refine (l10Out_calls r1 r2 hl.1 hl.2 _ ((HS.out.alloc _).came0 hs)).mono ?_
        rintro e w2 ⟨u1, u2, h1, h2, rfl, O1, O2, S⟩
        have HS2 := Kp.mk (((HS.out.boxed _).make2 S).swap.join.swap)
        have HE := Kp.mk (itemEl_mk (b := true) x (Part.cup S.disj.symm) O1 O2)
        obtain ⟨B1, m1, rfl⟩ := O1.rd.slice
        obtain ⟨B2, m2, rfl⟩ := O2.rd.slice
        have hf := sub_frozen ((sub_new wr _).below S.below) (if_pos rfl)
        obtain ⟨b0, b1, b2, b3, b4, b5, b6, b7, b8, b9⟩ := box10 ((sub_new wr _).below S.below)
        have hz : wr.heap.size < w2.heap.size := by have := S.size; simp at this; omega
        obtain ⟨s1, s2, s3⟩ := box1 HS2.out.tail.snd
        have hne : ¬ (wr.heap.size = w.heap.size + 1 + 1) := by omega
        have hne2 : ¬ (w.heap.size + 1 + 1 = wr.heap.size) := by omega
        clear O1 O2 S d0 d1 d2 d3 d4 d5 d6 d7 d8 d9 q1 q2 q3 t1 t2 t3 p1 p2 p3
        go_wp2_with (first | (at_builtin; ((with_reducible refine wp_appendH (w0 := w) (H := emp) (bs := [wr.heap.size]) (hs' := [one (w.heap.size + 1 + 1) (.cells #[.slice A1 m c1] 28), one w.heap.size (.cells #[.slice (some ⟨g, o, none⟩) l.length c] 28), one (w.heap.size + 1) (.cells #[.slice none 0 0] 28)]) itEl _ 128 44 rfl (.tmp 34) (.tmp 36) 26 rfl Try.underlying26 info44 rfl (by decide) (by omega) rfl HO.out (ys := [x]) rfl rfl (fun e => (by cases e)) (fun ad he => (by cases he; exact news_box (by simp))) (Els.single HE.out) (by refine Holds.alloc ?_ _; repeat (first | with_reducible exact HS2.out | refine Holds.poke ?_ (by simp))) (by have := HM.out; simp only [List.length_singleton]; omega) ?_); intro C1 i1 w3 h3 O3 HH3 hk1 hz3; clear hk1 hz3; rw [hlen1] at O3 ⊢; obtain ⟨z1, z2, z3⟩ := box1 HH3.snd; have HS3 := Kp.mk (HH3.unbox (bs' := []) (by simp)); have HO3 := Kp.mk O3; clear HH3 O3)))
        go_roundg (l.length + 1 - (j + 1))
        case measure => have := hk'.out; omega
        case rel => exact ⟨j + 1, m + 1, h3, C1, i1, by go_num, by omega, hm1, rfl, ⟨by rw [hft.out]; exact hlen1.symm⟩, ⟨by rw [hft.out]; exact HO3.out⟩, ⟨HS3.out.swap.store1.swap⟩⟩
    · obtain rfl : j = l.length := by omega
      go_wp2
      refine bodyPost_ret (v := .agg #[.slice A1 m c1]) (by simp [results, Try.results12, go_sem, q1, p1]) rfl ⟨_, h', rfl, by have := HO.out; rwa [List.take_length] at this, HS.out.fourth.store1.tail.step⟩
set_option maxHeartbeats 3000000 in
theorem specDrop_calls {h : Hp} {tc tp : TypeId} {v : Value} {l : List Item} (run : Int) (hr : Rd (itemEl tc tp) h v l) (hsz : l.length ≤ 1048576) (hlen : ∀ x ∈ l, x.out.cmds.length ≤ 1048576 ∧ x.out.vars.length ≤ 1048576) (w : World) (hs : Sub h w) : Calls Try.prog 5 #[.agg #[v], .int .i64 run] w (MakesCache (without run l) w) := by
  obtain ⟨A, c, rfl⟩ := hr.slice
  have HS0 := (((Holds.start0 w).alloc (.cells #[.slice A l.length c] 28)).make (Step.new _ (.cells #[.slice none 0 0] 28)))
  simp only [World.size_alloc] at HS0
  replace HS0 := Kp.mk HS0
  go_enter Try.func5, Try.ntmps5
  go_wp2_with (go_at_call 12; refine (l10Drop_calls run hr hsz hlen _ (HS0.out.came0 hs)).mono ?_; rintro e w1 ⟨u1, h1, rfl, O1, S⟩; have HS1 := Kp.mk (HS0.out.make S); obtain ⟨B1, f1, rfl⟩ := O1.rd.slice; obtain ⟨q1, q2, q3⟩ := box1 HS1.out.snd; have HO1 := Kp.mk O1; clear O1 S)
  refine bodyPost_ret (v := .agg #[.slice B1 (without run l).length f1]) (by simp [results, Try.results5, go_sem, q1]) rfl ⟨_, h1, rfl, HO1.out, HS1.out.swap.store1.tail.step⟩
end Go.Proofs.Ytccioimicdggkaa.C
