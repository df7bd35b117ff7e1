/- The comparing functions hand back true where both sides read as the same datum. -/
import Derived.Test.YtccioimicdggkaaCTo
namespace Go.Proofs.Ytccioimicdggkaa.C
open Go.RowKit
set_option linter.unusedVariables false
set_option linter.unusedSimpArgs false
/-- It returns true. -/
def Yes (w : World) (e : Ending) (w' : World) : Prop := e = .returned (.bool true) ∧ Below w.heap.size w w'
set_option maxHeartbeats 1000000 in
theorem eqValue_calls (a : V) (w : World) : Calls Try.prog 38 #[a.enc, a.enc] w (Yes w) := by
  go_enter Try.func38, Try.ntmps38
  go_wp2
  go_ret
  exact ⟨rfl, ba (b0 _ _) _⟩
set_option maxHeartbeats 1000000 in
theorem eqCmd_calls (a : Cmd) (w : World) : Calls Try.prog 44 #[a.enc, a.enc] w (Yes w) := by
  go_enter Try.func44, Try.ntmps44
  go_wp2_with (go_at_call 38; refine (eqValue_calls a.arg _).mono ?_; rintro e w1 ⟨rfl, hb⟩; have HB := Kp.mk (bl (ba (b0 _ _) _) hb); clear hb)
  go_ret
  exact ⟨rfl, HB.out⟩
set_option maxHeartbeats 1000000 in
theorem eqPair_calls (a : Pair_) (w : World) : Calls Try.prog 45 #[a.enc, a.enc] w (Yes w) := by
  go_enter Try.func45, Try.ntmps45
  go_wp2_with (go_at_call 38; refine (eqValue_calls a.value _).mono ?_; rintro e w1 ⟨rfl, hb⟩; have HB := Kp.mk (bl (ba (b0 _ _) _) hb); clear hb)
  go_ret
  exact ⟨rfl, HB.out⟩
set_option maxHeartbeats 2000000 in
set_option maxRecDepth 100000 in
theorem eqCmdS_calls {h h2 : Hp} {A A2 : Option Addr} {n c n2 c2 : Nat} {l : List Cmd} (hr : Rd cmdEl h (.slice A n c) l) (hr2 : Rd cmdEl h2 (.slice A2 n2 c2) l) (w : World) (hs : Sub h w) (hs2 : Sub h2 w) :
    Calls Try.prog 37 #[.slice A n c, .slice A2 n2 c2] w (Yes w) := by
  obtain ⟨hn, hnc, hc⟩ := hr.len_le
  obtain ⟨hn2, hnc2, hc2⟩ := hr2.len_le
  obtain rfl : n2 = n := by omega
  have hn' := Kp.mk hn
  clear hn hn2
  go_enter Try.func37, Try.ntmps37
  go_wp2
  go_loopg [5] (n2 + 1) (fun k i wr => ∃ (j : Nat), i = .int .i64 j ∧ j ≤ n2 ∧ k = n2 + 1 - j ∧ Kp (Below w.heap.size w wr))
  case atStart => exact ⟨0, rfl, by omega, by omega, ⟨Below.refl _ _⟩⟩
  case round =>
    obtain ⟨j, rfl, hj, hk, HB⟩ := hrel
    have hk' := Kp.mk hk
    clear hk
    by_cases hjn : j < n2
    · obtain ⟨x, hx⟩ : ∃ x, l[j]? = some x := ⟨_, List.getElem?_eq_getElem (by have := hn'.out; omega)⟩
      obtain ⟨g, o, rfl, hc⟩ := cmd_at hr hx
      obtain ⟨g2, o2, rfl, hc2⟩ := cmd_at hr2 hx
      obtain ⟨c0, c1, c2, c3, c4⟩ := hc wr (hs.below HB.out)
      obtain ⟨d0, d1, d2, d3, d4⟩ := hc2 wr (hs2.below HB.out)
      clear hc hc2 hx
      go_wp2_with fail
      go_still_tail 8, (by kernel_rfl)
      change wpList _ _ _ _ _ wr.drew
      go_wp2_with (go_at_call 44; refine (eqCmd_calls x _).mono ?_; rintro e w1 ⟨rfl, hb⟩; have HB1 := Kp.mk (bl HB.out.drew hb); clear hb)
      go_roundg (n2 + 1 - (j + 1))
      case measure => have := hk'.out; omega
      case rel => exact ⟨j + 1, by go_num, by omega, rfl, HB1⟩
    · go_wp2
      go_ret
      exact ⟨rfl, HB.out⟩
set_option maxHeartbeats 2000000 in
set_option maxRecDepth 100000 in
theorem eqPairS_calls {h h2 : Hp} {A A2 : Option Addr} {n c n2 c2 : Nat} {l : List Pair_} (hr : Rd pairEl h (.slice A n c) l) (hr2 : Rd pairEl h2 (.slice A2 n2 c2) l) (w : World) (hs : Sub h w) (hs2 : Sub h2 w) :
    Calls Try.prog 39 #[.slice A n c, .slice A2 n2 c2] w (Yes w) := by
  obtain ⟨hn, hnc, hc⟩ := hr.len_le
  obtain ⟨hn2, hnc2, hc2⟩ := hr2.len_le
  obtain rfl : n2 = n := by omega
  have hn' := Kp.mk hn
  clear hn hn2
  go_enter Try.func39, Try.ntmps39
  go_wp2
  go_loopg [5] (n2 + 1) (fun k i wr => ∃ (j : Nat), i = .int .i64 j ∧ j ≤ n2 ∧ k = n2 + 1 - j ∧ Kp (Below w.heap.size w wr))
  case atStart => exact ⟨0, rfl, by omega, by omega, ⟨Below.refl _ _⟩⟩
  case round =>
    obtain ⟨j, rfl, hj, hk, HB⟩ := hrel
    have hk' := Kp.mk hk
    clear hk
    by_cases hjn : j < n2
    · obtain ⟨x, hx⟩ : ∃ x, l[j]? = some x := ⟨_, List.getElem?_eq_getElem (by have := hn'.out; omega)⟩
      obtain ⟨g, o, rfl, hc⟩ := pair_at hr hx
      obtain ⟨g2, o2, rfl, hc2⟩ := pair_at hr2 hx
      obtain ⟨c0, c1, c2, c3⟩ := hc wr (hs.below HB.out)
      obtain ⟨d0, d1, d2, d3⟩ := hc2 wr (hs2.below HB.out)
      clear hc hc2 hx
      go_wp2_with fail
      go_still_tail 8, (by kernel_rfl)
      change wpList _ _ _ _ _ wr.drew
      go_wp2_with (go_at_call 45; refine (eqPair_calls x _).mono ?_; rintro e w1 ⟨rfl, hb⟩; have HB1 := Kp.mk (bl HB.out.drew hb); clear hb)
      go_roundg (n2 + 1 - (j + 1))
      case measure => have := hk'.out; omega
      case rel => exact ⟨j + 1, by go_num, by omega, rfl, HB1⟩
    · go_wp2
      go_ret
      exact ⟨rfl, HB.out⟩
set_option maxHeartbeats 4000000 in
theorem eqOut_calls {h h2 : Hp} {v1 v2 u1 u2 : Value} {x : Out} (r1 : Rd cmdEl h v1 x.cmds) (r2 : Rd pairEl h v2 x.vars) (q1 : Rd cmdEl h2 u1 x.cmds) (q2 : Rd pairEl h2 u2 x.vars) (w : World) (hs : Sub h w) (hs2 : Sub h2 w) :
    Calls Try.prog 30 #[x.enc v1 v2, x.enc u1 u2] w (Yes w) := by
  obtain ⟨A1, e1, rfl⟩ := r1.slice
  obtain ⟨A2, e2, rfl⟩ := r2.slice
  obtain ⟨B1, f1, rfl⟩ := q1.slice
  obtain ⟨B2, f2, rfl⟩ := q2.slice
  go_enter Try.func30, Try.ntmps30
  go_wp2_with (first
    | (go_at_call 37; refine (eqCmdS_calls r1 q1 _ (hs.below (ba (b0 _ _) _)) (hs2.below (ba (b0 _ _) _))).mono ?_; rintro e w1 ⟨rfl, hb⟩; have S1 := Kp.mk (((sub_new w _).below (b0 _ _)).below hb); have S2 := Kp.mk ((sub_new (w.alloc _) _).below hb); obtain ⟨-, c1, c2, c3, c4, c5, c6, c7⟩ := box8 S1.out; obtain ⟨-, d1, d2, d3, d4, d5, d6, d7⟩ := box8 S2.out; rw [World.size_alloc] at d1 d2 d3 d4 d5 d6 d7; have HB1 := Kp.mk (bl (ba (b0 _ _) _) hb); clear hb)
    | (go_at_call 38; refine (eqValue_calls x.value _).mono ?_; rintro e w2 ⟨rfl, hb⟩; have T1 := Kp.mk (S1.out.below hb); have T2 := Kp.mk (S2.out.below hb); obtain ⟨-, -, -, -, -, e5, e6, e7⟩ := box8 T1.out; obtain ⟨-, -, -, -, -, f5, f6, f7⟩ := box8 T2.out; rw [World.size_alloc] at f5 f6 f7; have HB2 := Kp.mk (bl HB1.out hb); clear hb)
    | (go_at_call 39; refine (eqPairS_calls r2 q2 _ (hs.below HB2.out) (hs2.below HB2.out)).mono ?_; rintro e w3 ⟨rfl, hb⟩; obtain ⟨-, -, -, -, -, -, -, g7⟩ := box8 (T1.out.below hb); obtain ⟨-, -, -, -, -, -, -, i7⟩ := box8 (T2.out.below hb); rw [World.size_alloc] at i7; have HB3 := Kp.mk (bl HB2.out hb); clear hb))
  go_ret
  exact ⟨rfl, HB3.out⟩
set_option maxHeartbeats 4000000 in
theorem eqItem_calls {h h2 : Hp} {v1 v2 u1 u2 : Value} {x : Item} (r1 : Rd cmdEl h v1 x.out.cmds) (r2 : Rd pairEl h v2 x.out.vars) (q1 : Rd cmdEl h2 u1 x.out.cmds) (q2 : Rd pairEl h2 u2 x.out.vars) (w : World) (hs : Sub h w) (hs2 : Sub h2 w) :
    Calls Try.prog 22 #[x.enc v1 v2, x.enc u1 u2] w (Yes w) := by
  go_enter Try.func22, Try.ntmps22
  go_wp2_with (go_at_call 30; refine (eqOut_calls r1 r2 q1 q2 _ (hs.below (ba (b0 _ _) _)) (hs2.below (ba (b0 _ _) _))).mono ?_; rintro e w1 ⟨rfl, hb⟩; have HB1 := Kp.mk (bl (ba (b0 _ _) _) hb); clear hb)
  go_ret
  exact ⟨rfl, HB1.out⟩
set_option maxHeartbeats 2000000 in
set_option maxRecDepth 100000 in
theorem eqItemS_calls {h h2 : Hp} {tc tp tc2 tp2 : TypeId} {A A2 : Option Addr} {n c n2 c2 : Nat} {l : List Item} (hr : Rd (itemEl tc tp) h (.slice A n c) l) (hr2 : Rd (itemEl tc2 tp2) h2 (.slice A2 n2 c2) l) (w : World) (hs : Sub h w) (hs2 : Sub h2 w) :
    Calls Try.prog 15 #[.slice A n c, .slice A2 n2 c2] w (Yes w) := by
  obtain ⟨hn, hnc, hc⟩ := hr.len_le
  obtain ⟨hn2, hnc2, hc2⟩ := hr2.len_le
  obtain rfl : n2 = n := by omega
  have hn' := Kp.mk hn
  clear hn hn2
  go_enter Try.func15, Try.ntmps15
  go_wp2
  go_loopg [5] (n2 + 1) (fun k i wr => ∃ (j : Nat), i = .int .i64 j ∧ j ≤ n2 ∧ k = n2 + 1 - j ∧ Kp (Below w.heap.size w wr))
  case atStart => exact ⟨0, rfl, by omega, by omega, ⟨Below.refl _ _⟩⟩
  case round =>
    obtain ⟨j, rfl, hj, hk, HB⟩ := hrel
    have hk' := Kp.mk hk
    clear hk
    by_cases hjn : j < n2
    · obtain ⟨x, hx⟩ : ∃ x, l[j]? = some x := ⟨_, List.getElem?_eq_getElem (by have := hn'.out; omega)⟩
      obtain ⟨g, o, v1, v2, rfl, r1, r2, hc⟩ := item_at hr hx
      obtain ⟨g2, o2, u1, u2, rfl, q1, q2, hc2⟩ := item_at hr2 hx
      obtain ⟨c0, c1, c2, c3, c4, c5, c6, c7, c8, c9⟩ := hc wr (hs.below HB.out)
      obtain ⟨d0, d1, d2, d3, d4, d5, d6, d7, d8, d9⟩ := hc2 wr (hs2.below HB.out)
      clear hc hc2 hx
      go_wp2_with fail
      go_still_tail 8, (by kernel_rfl)
      change wpList _ _ _ _ _ wr.drew
      go_wp2_with (go_at_call 22; refine (eqItem_calls r1 r2 q1 q2 _ (hs.below HB.out.drew) (hs2.below HB.out.drew)).mono ?_; rintro e w1 ⟨rfl, hb⟩; have HB1 := Kp.mk (bl HB.out.drew hb); clear hb)
      go_roundg (n2 + 1 - (j + 1))
      case measure => have := hk'.out; omega
      case rel => exact ⟨j + 1, by go_num, by omega, rfl, HB1⟩
    · go_wp2
      go_ret
      exact ⟨rfl, HB.out⟩
set_option maxHeartbeats 2000000 in
theorem eqCache_calls {h h2 : Hp} {tc tp tc2 tp2 : TypeId} {v u : Value} {l : List Item} (hr : Rd (itemEl tc tp) h v l) (hr2 : Rd (itemEl tc2 tp2) h2 u l) (w : World) (hs : Sub h w) (hs2 : Sub h2 w) :
    Calls Try.prog 8 #[.agg #[v], .agg #[u]] w (Yes w) := by
  obtain ⟨A1, e1, rfl⟩ := hr.slice
  obtain ⟨A2, e2, rfl⟩ := hr2.slice
  go_enter Try.func8, Try.ntmps8
  go_wp2_with (go_at_call 15; refine (eqItemS_calls hr hr2 _ (hs.below (ba (b0 _ _) _)) (hs2.below (ba (b0 _ _) _))).mono ?_; rintro e w1 ⟨rfl, hb⟩; have HB1 := Kp.mk (bl (ba (b0 _ _) _) hb); clear hb)
  go_ret
  exact ⟨rfl, HB1.out⟩
end Go.Proofs.Ytccioimicdggkaa.C
