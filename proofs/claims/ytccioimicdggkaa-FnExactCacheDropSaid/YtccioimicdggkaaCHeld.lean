/- What was marked is found. -/
import Derived.Test.YtccioimicdggkaaCMarkItem
import Derived.Deep.RegionHeld3
namespace Go.Proofs.Ytccioimicdggkaa.C
open Go.RowKit
set_option linter.unusedVariables false
set_option linter.unusedSimpArgs false
set_option maxHeartbeats 3000000 in
theorem markCache_calls {h : Hp} {v : Value} {l : List Item} (k : Int) (h0 : 0 < k) (hk : k + (l.map stepOf).sum < 10000000000000) (hl : l.length ≤ 1048576) (hlen : ∀ x ∈ l, x.out.cmds.length ≤ 1048576 ∧ x.out.vars.length ≤ 1048576) (ho : Own 44 itEl h v l) (w : World) (hs : Sub h w) : Calls Try.prog 9 #[.agg #[v], .int .i64 k] w (Marks 44 itEl h v (pos k l l.length) (mItems k l) w) := by
  obtain ⟨A, c, rfl⟩ := ho.rd.slice
  have HS := Kp.mk ((Holds.start hs).alloc (.cells #[.slice A l.length c] 28))
  go_enter Try.func9, Try.ntmps9
  go_wp2_with (go_at_call 16; refine (markItemS_calls k h0 hk hl hlen ho _ HS.out.fst).mono ?_; rintro e w1 ⟨h1, rfl, O1, S⟩; have HS1 := Kp.mk (HS.out.call S); have HO1 := Kp.mk O1; clear O1 S)
  go_ret
  exact ⟨h1, rfl, HO1.out, HS1.out.step⟩
/-- It returns this number. -/
def Num (k : Int) (w : World) (e : Ending) (w' : World) : Prop := e = .returned (.int .i64 k) ∧ Below w.heap.size w w'
theorem mCmds_at (k : Int) {n j : Nat} (h : j < n) : (mCmds k n)[j]? = some (mkCmd (k + 5 * j)) := by
  unfold mCmds; simp [h]
theorem mPairs_at (k : Int) {n j : Nat} (h : j < n) : (mPairs k n)[j]? = some (mkPair (k + 4 * j)) := by
  unfold mPairs; simp [h]
theorem mCmds_len (k : Int) (n : Nat) : (mCmds k n).length = n := by simp [mCmds]
theorem mPairs_len (k : Int) (n : Nat) : (mPairs k n).length = n := by simp [mPairs]
set_option maxHeartbeats 3000000 in
set_option maxRecDepth 100000 in
theorem heldCmdS_calls {h : Hp} {v : Value} {n : Nat} (k : Int) (h0 : 0 < k) (hk : k + 5 * n < 10000000000000) (hl : n ≤ 1048576) (ho : Rd cmdEl h v (mCmds k n)) (w : World) (hs : Sub h w) : Calls Try.prog 26 #[v, .int .i64 k] w (Num (k + 5 * n) w) := by
  obtain ⟨A, c, rfl⟩ := ho.slice
  rw [mCmds_len] at ho ⊢
  go_enter Try.func26, Try.ntmps26
  go_wp2
  go_loopg [1, 5] (n + 1) (fun g k' i wr => ∃ (j : Nat), i = .int .i64 j ∧ j ≤ n ∧ g = n + 1 - j ∧ k' = .int .i64 (k + 5 * j) ∧ Kp (Below w.heap.size w wr))
  case atStart => exact ⟨0, rfl, by omega, by omega, by simp, ⟨Below.refl _ _⟩⟩
  case round =>
    obtain ⟨j, rfl, hj, hk, rfl, HB⟩ := hrel
    have hk' := Kp.mk hk
    clear hk
    by_cases hjn : j < n
    · obtain ⟨g, o, rfl, hc⟩ := cmd_at ho (mCmds_at k hjn)
      simp only [mkCmd] at hc
      have HC := Kp.mk hc
      obtain ⟨c0, c1, c2, c3, c4⟩ := hc wr (hs.below HB.out)
      clear hc
      go_wp2_with fail
      go_region_held3 (fun w' => w'.cell? ⟨g, o + j * 5 + 1, none⟩ = some (.string (mt (k + 5 * j + 1))) ∧ Kp (Below w.heap.size w w')) (first | exact ⟨c1, HB⟩ | exact ⟨c1, ⟨HB.out.drew⟩⟩ | exact ⟨e1, HB1⟩)
        (first | (go_at_call 24; (refine (markText_calls (k + 5 * j + 1) (by omega) (by omega) _).mono ?_; rintro e w1 ⟨rfl, hb⟩; have HB1 := Kp.mk (bl HB.out.drew hb); obtain ⟨-, e1, -, -, -⟩ := HC.out w1 (hs.below HB1.out); clear hb)))
      obtain ⟨-, -, d2, d3, d4⟩ := HC.out w1 (hs.below HB1.out)
      clear c0 c1 c2 c3 c4 e1
      go_wp2_with fail
      go_region_held3 (fun w' => w'.cell? ⟨g, o + j * 5 + 2 + 2, none⟩ = some (.string (mt (k + 5 * j + 1 + 1 + 1 + 1))) ∧ Kp (Below w.heap.size w w')) (first | exact ⟨d4, HB1⟩ | exact ⟨d4, ⟨HB1.out.drew⟩⟩ | exact ⟨i4, HB2⟩)
        (first | (go_at_call 24; (refine (markText_calls (k + 5 * j + 1 + 1 + 1 + 1) (by omega) (by omega) _).mono ?_; rintro e w2 ⟨rfl, hb⟩; have HB2 := Kp.mk (bl HB1.out.drew hb); obtain ⟨-, -, -, -, i4⟩ := HC.out w2 (hs.below HB2.out); clear hb)))
      clear d2 d3 d4 i4
      go_wp2
      go_roundg (n + 1 - (j + 1))
      case measure => have := hk'.out; omega
      case rel => exact ⟨j + 1, by go_num, by omega, rfl, by rw [show k + 5 * ((j + 1 : Nat) : Int) = k + 5 * (j : Int) + 1 + 1 + 1 + 1 + 1 by omega], HB2⟩
    · go_wp2
      go_ret
      obtain rfl : j = n := by omega
      exact ⟨rfl, HB.out⟩
set_option maxHeartbeats 3000000 in
set_option maxRecDepth 100000 in
theorem heldPairS_calls {h : Hp} {v : Value} {n : Nat} (k : Int) (h0 : 0 < k) (hk : k + 4 * n < 10000000000000) (hl : n ≤ 1048576) (ho : Rd pairEl h v (mPairs k n)) (w : World) (hs : Sub h w) : Calls Try.prog 27 #[v, .int .i64 k] w (Num (k + 4 * n) w) := by
  obtain ⟨A, c, rfl⟩ := ho.slice
  rw [mPairs_len] at ho ⊢
  go_enter Try.func27, Try.ntmps27
  go_wp2
  go_loopg [1, 5] (n + 1) (fun g k' i wr => ∃ (j : Nat), i = .int .i64 j ∧ j ≤ n ∧ g = n + 1 - j ∧ k' = .int .i64 (k + 4 * j) ∧ Kp (Below w.heap.size w wr))
  case atStart => exact ⟨0, rfl, by omega, by omega, by simp, ⟨Below.refl _ _⟩⟩
  case round =>
    obtain ⟨j, rfl, hj, hk, rfl, HB⟩ := hrel
    have hk' := Kp.mk hk
    clear hk
    by_cases hjn : j < n
    · obtain ⟨g, o, rfl, hc⟩ := pair_at ho (mPairs_at k hjn)
      simp only [mkPair] at hc
      have HC := Kp.mk hc
      obtain ⟨c0, c1, c2, c3⟩ := hc wr (hs.below HB.out)
      clear hc
      go_wp2_with fail
      go_region_held3 (fun w' => w'.cell? ⟨g, o + j * 4, none⟩ = some (.string (mt (k + 4 * j))) ∧ Kp (Below w.heap.size w w')) (first | exact ⟨c0, HB⟩ | exact ⟨c0, ⟨HB.out.drew⟩⟩ | exact ⟨e0, HB1⟩)
        (first | (go_at_call 24; (refine (markText_calls (k + 4 * j) (by omega) (by omega) _).mono ?_; rintro e w1 ⟨rfl, hb⟩; have HB1 := Kp.mk (bl HB.out.drew hb); obtain ⟨e0, -, -, -⟩ := HC.out w1 (hs.below HB1.out); clear hb)))
      obtain ⟨-, d1, d2, d3⟩ := HC.out w1 (hs.below HB1.out)
      clear c0 c1 c2 c3 e0
      go_wp2_with fail
      go_region_held3 (fun w' => w'.cell? ⟨g, o + j * 4 + 1 + 2, none⟩ = some (.string (mt (k + 4 * j + 1 + 1 + 1))) ∧ Kp (Below w.heap.size w w')) (first | exact ⟨d3, HB1⟩ | exact ⟨d3, ⟨HB1.out.drew⟩⟩ | exact ⟨i3, HB2⟩)
        (first | (go_at_call 24; (refine (markText_calls (k + 4 * j + 1 + 1 + 1) (by omega) (by omega) _).mono ?_; rintro e w2 ⟨rfl, hb⟩; have HB2 := Kp.mk (bl HB1.out.drew hb); obtain ⟨-, -, -, i3⟩ := HC.out w2 (hs.below HB2.out); clear hb)))
      clear d1 d2 d3 i3
      go_wp2
      go_roundg (n + 1 - (j + 1))
      case measure => have := hk'.out; omega
      case rel => exact ⟨j + 1, by go_num, by omega, rfl, by rw [show k + 4 * ((j + 1 : Nat) : Int) = k + 4 * (j : Int) + 1 + 1 + 1 + 1 by omega], HB2⟩
    · go_wp2
      go_ret
      obtain rfl : j = n := by omega
      exact ⟨rfl, HB.out⟩
end Go.Proofs.Ytccioimicdggkaa.C
