/- What was marked in a cache is found. -/
import Derived.Test.YtccioimicdggkaaCHeld
namespace Go.Proofs.Ytccioimicdggkaa.C
open Go.RowKit
set_option linter.unusedVariables false
set_option linter.unusedSimpArgs false
theorem mItems_at (k : Int) {l : List Item} {j : Nat} {x : Item} (h : l[j]? = some x) : (mItems k l)[j]? = some (mkItem (pos k l j) x) := by
  rw [← mItem_at k h]
  have := (List.getElem?_eq_some_iff.1 h).1
  unfold mItems; simp [this]
theorem mItems_len (k : Int) (l : List Item) : (mItems k l).length = l.length := by simp [mItems]
set_option maxHeartbeats 6000000 in
set_option maxRecDepth 100000 in
theorem heldItemS_calls {h : Hp} {v : Value} {l : List Item} (k : Int) (h0 : 0 < k) (hk : k + (l.map stepOf).sum < 10000000000000) (hl : l.length ≤ 1048576) (hlen : ∀ x ∈ l, x.out.cmds.length ≤ 1048576 ∧ x.out.vars.length ≤ 1048576) (ho : Rd itEl h v (mItems k l)) (w : World) (hs : Sub h w) : Calls Try.prog 17 #[v, .int .i64 k] w (Num (pos k l l.length) w) := by
  obtain ⟨A, c, rfl⟩ := ho.slice
  rw [mItems_len] at ho ⊢
  go_enter Try.func17, Try.ntmps17
  go_wp2
  go_loopg [1, 5] (l.length + 1) (fun g k' i wr => ∃ (j : Nat) (K : Int), i = .int .i64 j ∧ j ≤ l.length ∧ g = l.length + 1 - j ∧ k' = .int .i64 K ∧ Kp (K = pos k l j) ∧ Kp (Below w.heap.size w wr))
  case atStart => exact ⟨0, k, rfl, by omega, by omega, rfl, ⟨by simp [pos]⟩, ⟨Below.refl _ _⟩⟩
  case round =>
    obtain ⟨j, K, rfl, hj, hk, rfl, HK, HB⟩ := hrel
    have hk' := Kp.mk hk
    clear hk
    by_cases hjn : j < l.length
    · obtain ⟨x, hx⟩ : ∃ x, l[j]? = some x := ⟨_, List.getElem?_eq_getElem hjn⟩
      obtain ⟨g, o, v1, v2, rfl, r1, r2, hc⟩ := item_at ho (mItems_at k hx)
      rw [← HK.out] at r1 r2 hc
      have hl2 := hlen x (List.mem_of_getElem? hx)
      have hb1 := (pos_le k l j)
      have hb2 := (pos_le k l (j + 1)).2
      rw [pos_succ k hx, ← HK.out] at hb2
      rw [← HK.out] at hb1
      rw [show stepOf x = 8 + 5 * x.out.cmds.length + 4 * x.out.vars.length from rfl] at hb2
      have hK1 : 0 < K := by omega
      have hK3 : K + (8 + 5 * (x.out.cmds.length : Int) + 4 * (x.out.vars.length : Int)) < 10000000000000 := by omega
      have hK2 : K < 10000000000000 := by omega
      have R1 : Kp (Rd cmdEl h v1 (mCmds (K + 1 + 1) x.out.cmds.length)) := ⟨r1⟩
      have R2 : Kp (Rd pairEl h v2 (mPairs (K + 1 + 1 + 5 * (x.out.cmds.length : Int) + 1 + 1 + 1 + 1 + 1) x.out.vars.length)) := ⟨r2⟩
      obtain ⟨y1, f1, rfl⟩ := R1.out.slice
      obtain ⟨y2, f2, rfl⟩ := R2.out.slice
      simp only [mkItem] at hc
      have HC := Kp.mk hc
      obtain ⟨c0, c1, c2, -, -, -, -, -, -, -⟩ := hc wr (hs.below HB.out)
      have hX := Kp.mk hx
      have hn1 : ¬ (K + 1 + 1 + 5 * (x.out.cmds.length : Int) < 0) := by omega
      clear hc hx hb1 hb2 r1 r2
      go_wp2_with fail
      refine (heldCmdS_calls (K + 1 + 1) (by omega) (by omega) hl2.1 R1.out _ (hs.below HB.out)).mono ?_
      rintro e w1 ⟨rfl, hb⟩
      have HB1 := Kp.mk (bl HB.out hb)
      obtain ⟨-, -, -, d3, d4, d5, d6, -, -, -⟩ := HC.out w1 (hs.below HB1.out)
      clear hb c0 c1 c2
      go_wp2_with fail
      go_region_held3 (fun w' => w'.cell? ⟨g, o + j * 10 + 2 + 2 + 2, none⟩ = some (.string (mt (K + 1 + 1 + 5 * (x.out.cmds.length : Int) + 1 + 1 + 1))) ∧ Kp (Below w.heap.size w w')) (first | exact ⟨d6, HB1⟩ | exact ⟨d6, ⟨HB1.out.drew⟩⟩ | exact ⟨e6, HB2⟩)
        (first | (go_at_call 24; (refine (markText_calls (K + 1 + 1 + 5 * (x.out.cmds.length : Int) + 1 + 1 + 1) (by omega) (by omega) _).mono ?_; rintro e w2 ⟨rfl, hb⟩; have HB2 := Kp.mk (bl HB1.out.drew hb); obtain ⟨-, -, -, -, -, -, e6, -, -, -⟩ := HC.out w2 (hs.below HB2.out); clear hb)))
      obtain ⟨-, -, -, -, -, -, -, e7, -, -⟩ := HC.out w2 (hs.below HB2.out)
      clear d3 d4 d5 d6 e6
      go_wp2_with fail
      go_region_held3 (fun w' => w'.cell? ⟨g, o + j * 10 + 2 + 5, none⟩ = some (.string (mt (K + 1 + 1 + 5 * (x.out.cmds.length : Int) + 1 + 1 + 1 + 1))) ∧ Kp (Below w.heap.size w w')) (first | exact ⟨e7, HB2⟩ | exact ⟨e7, ⟨HB2.out.drew⟩⟩ | exact ⟨f7, HB3⟩)
        (first | (go_at_call 24; (refine (markText_calls (K + 1 + 1 + 5 * (x.out.cmds.length : Int) + 1 + 1 + 1 + 1) (by omega) (by omega) _).mono ?_; rintro e w3 ⟨rfl, hb⟩; have HB3 := Kp.mk (bl HB2.out.drew hb); obtain ⟨-, -, -, -, -, -, -, f7, -, -⟩ := HC.out w3 (hs.below HB3.out); clear hb)))
      obtain ⟨-, -, -, -, -, -, -, -, f8, -⟩ := HC.out w3 (hs.below HB3.out)
      clear e7 f7
      have hn2 : ¬ (K + 1 + 1 + 5 * (x.out.cmds.length : Int) + 1 + 1 + 1 + 1 + 1 + 4 * (x.out.vars.length : Int) < 0) := by omega
      go_wp2_with fail
      refine (heldPairS_calls (K + 1 + 1 + 5 * (x.out.cmds.length : Int) + 1 + 1 + 1 + 1 + 1) (by omega) (by omega) hl2.2 R2.out _ (hs.below HB3.out)).mono ?_
      rintro e w4 ⟨rfl, hb⟩
      have HB4 := Kp.mk (bl HB3.out hb)
      obtain ⟨-, -, -, -, -, -, -, -, -, g9⟩ := HC.out w4 (hs.below HB4.out)
      clear hb f8
      go_wp2
      go_roundg (l.length + 1 - (j + 1))
      case measure => have := hk'.out; omega
      case rel => exact ⟨j + 1, _, by go_num, by omega, rfl, rfl, ⟨by rw [pos_succ k hX.out, ← HK.out]; unfold stepOf; omega⟩, HB4⟩
    · go_wp2
      go_ret
      obtain rfl : j = l.length := by omega
      exact ⟨by rw [← HK.out]; rfl, HB.out⟩
set_option maxHeartbeats 3000000 in
theorem heldCache_calls {h : Hp} {v : Value} {l : List Item} (k : Int) (h0 : 0 < k) (hk : k + (l.map stepOf).sum < 10000000000000) (hl : l.length ≤ 1048576) (hlen : ∀ x ∈ l, x.out.cmds.length ≤ 1048576 ∧ x.out.vars.length ≤ 1048576) (ho : Rd itEl h v (mItems k l)) (w : World) (hs : Sub h w) : Calls Try.prog 10 #[.agg #[v], .int .i64 k] w (Num (pos k l l.length) w) := by
  obtain ⟨A, c, rfl⟩ := ho.slice
  have hn : ¬ (pos k l l.length < 0) := by have := (pos_le k l l.length).1; omega
  go_enter Try.func10, Try.ntmps10
  go_wp2_with (go_at_call 17; refine (heldItemS_calls k h0 hk hl hlen ho _ (hs.below (b0 _ _))).mono ?_; rintro e w1 ⟨rfl, hb⟩; have HB1 := Kp.mk (bl (b0 _ _) hb); clear hb)
  go_ret
  exact ⟨rfl, HB1.out⟩
end Go.Proofs.Ytccioimicdggkaa.C
