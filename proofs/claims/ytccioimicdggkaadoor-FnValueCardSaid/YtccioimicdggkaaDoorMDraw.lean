/- The reference's reader of a drawn code: a pick is a number below its bound, and nothing falls. Conditions: bytes, at most 2000 of them behind the opening, a place below 2^40. -/
import Derived.Test.YtccioimicdggkaaDoorMBase
import Derived.Test.YtccioimicdggkaaDoorP6
import Derived.Test.YtccioimicdggkaaDoorP7
namespace Go.Proofs.YtccioimicdggkaaDoor.M
open Go.RowKit Go.Proofs.YtccioimicdggkaaDoorW.PrintWords Go.Proofs.YtccioimicdggkaaDoor.P

/-- a drawn code as the reader holds it -/
structure Code (b : List Int) : Prop where
  len : b.length ≤ 2000
  byte : ∀ x ∈ b, 0 ≤ x ∧ x < 256

theorem u8_wf {x : Int} (h : (Lit.int .u8 x).wf = true) : 0 ≤ x ∧ x < 256 := by
  simp [Lit.wf, IntKind.min, IntKind.max, IntKind.signed, IntKind.bits] at h
  omega

theorem open_code (l : List Int) (h : ∀ x ∈ l, (Lit.int .u8 x).wf = true) : ∃ b, Code b ∧ spec_l1Open.f l = some (b, 0) := by
  unfold spec_l1Open.f
  by_cases c : (l.length : Int) > 2000
  · rw [if_pos c, if_pos (by omega)]
    exact ⟨l.take 2000, ⟨by simp; omega, fun x hx => u8_wf (h x (List.mem_of_mem_take hx))⟩, rfl⟩
  · rw [if_neg c]
    exact ⟨l, ⟨by omega, fun x hx => u8_wf (h x hx)⟩, rfl⟩

theorem rd_byte {b : List Int} (hb : Code b) (i : Int) : 0 ≤ rd b i ∧ rd b i < 256 := by
  unfold rd
  by_cases h : i.toNat < b.length
  · rw [List.getD_eq_getElem?_getD, List.getElem?_eq_getElem h, Option.getD_some]
    exact hb.byte _ (List.getElem_mem h)
  · rw [List.getD_eq_getElem?_getD, List.getElem?_eq_none (by omega), Option.getD_none]
    omega

theorem tmod_in {x n : Int} (h0 : 0 ≤ x) (hn : 1 ≤ n) : 0 ≤ Int.tmod x n ∧ Int.tmod x n < n := by
  rw [Int.tmod_eq_emod_of_nonneg h0]
  exact ⟨Int.emod_nonneg _ (by omega), Int.emod_lt_of_pos _ (by omega)⟩

theorem xor_nonneg {x y : Int} (h0 : 0 ≤ x) (h1 : x < 4611686018427387904) (h2 : 0 ≤ y) (h3 : y < 4611686018427387904) : 0 ≤ bits .xor .i64 x y := by
  obtain ⟨a, rfl⟩ := Int.eq_ofNat_of_zero_le h0
  obtain ⟨b, rfl⟩ := Int.eq_ofNat_of_zero_le h2
  have p : (2 : Nat) ^ 62 = 4611686018427387904 := by decide
  rw [i64_xor_nat a b (by rw [p]; omega) (by rw [p]; omega)]
  omega

set_option maxRecDepth 100000 in
theorem pick_ev (b : List Int) (hb : Code b) (p n : Int) (hp0 : 0 ≤ p) (hp1 : p ≤ 1099511627776) (hn : 1 ≤ n) :
    ∃ v, Ev (fun k => spec_l1Rd_pick.f k b p n) (v, p + 1) ∧ 0 ≤ v ∧ v < n := by
  have hl := hb.len
  have e1 : wrap64 (p + 1) = p + 1 := w64 (by omega) (by omega)
  have e2 : wrap64 (p + 1 - 1) = p := by rw [w64 (by omega) (by omega)]; omega
  by_cases h0 : (b.length : Int) = 0
  · refine ⟨0, ?_, by omega, by omega⟩
    unfold spec_l1Rd_pick.f
    refine ev_neg (by omega) ?_
    rw [e1]
    refine ev_step (fun k => spec_l1Rd_pick.j0.eq_2 _ _ _ _ k) ?_
    exact ev_pos (by simpa using h0) (ev_some rfl)
  · have hpos : 1 ≤ (b.length : Int) := by omega
    by_cases h1 : p < (b.length : Int)
    · have hr := rd_byte hb p
      have ht := tmod_in hr.1 hn
      refine ⟨Int.tmod (rd b p) n, ?_, ht.1, ht.2⟩
      unfold spec_l1Rd_pick.f
      refine ev_neg (by omega) ?_
      rw [e1]
      refine ev_step (fun k => spec_l1Rd_pick.j0.eq_2 _ _ _ _ k) ?_
      refine ev_neg (by simpa using h0) ?_
      rw [e2]
      refine ev_pos h1 (ev_pos hp0 (ev_neg (by omega) (ev_some ?_)))
      rw [w64 (by omega) (by omega)]
    · have g1 := tmod_in hp0 hpos
      have e7 : wrap64 (wrap64 (p * 7) + 3) = p * 7 + 3 := by rw [w64 (x := p * 7) (by omega) (by omega), w64 (by omega) (by omega)]
      have g2 := tmod_in (x := p * 7 + 3) (by omega) hpos
      have r1 := rd_byte hb (Int.tmod p (b.length : Int))
      have r2 := rd_byte hb (Int.tmod (p * 7 + 3) (b.length : Int))
      have dv : 0 ≤ Int.tdiv p (b.length : Int) ∧ Int.tdiv p (b.length : Int) ≤ p := by
        rw [Int.tdiv_eq_ediv_of_nonneg hp0]
        exact ⟨Int.ediv_nonneg hp0 (by omega), Int.ediv_le_self _ hp0⟩
      generalize hA : rd b (Int.tmod p (b.length : Int)) = A at r1
      generalize hB : rd b (Int.tmod (p * 7 + 3) (b.length : Int)) = B at r2
      generalize hD : Int.tdiv p (b.length : Int) = D at dv
      have wA : wrap64 A = A := w64 (by omega) (by omega)
      have wB : wrap64 B = B := w64 (by omega) (by omega)
      have w1 : wrap64 (A * 131) = A * 131 := w64 (by omega) (by omega)
      have w2 : wrap64 (B * 1117) = B * 1117 := w64 (by omega) (by omega)
      have w3 : wrap64 (A * 131 + B * 1117) = A * 131 + B * 1117 := w64 (by omega) (by omega)
      have w4 : wrap64 (p * 29) = p * 29 := w64 (by omega) (by omega)
      have w5 : wrap64 (A * 131 + B * 1117 + p * 29) = A * 131 + B * 1117 + p * 29 := w64 (by omega) (by omega)
      have w6 : wrap64 D = D := w64 (by omega) (by omega)
      have w7 : wrap64 (D * 53) = D * 53 := w64 (by omega) (by omega)
      have w8 : wrap64 (A * 131 + B * 1117 + p * 29 + D * 53) = A * 131 + B * 1117 + p * 29 + D * 53 := w64 (by omega) (by omega)
      generalize hX : A * 131 + B * 1117 + p * 29 + D * 53 = X at w8
      have x0 : 0 ≤ X := by omega
      have x1 : X < 4611686018427387904 := by omega
      have q : Int.tdiv X 64 = X / 64 := Int.tdiv_eq_ediv_of_nonneg x0
      have w9 : wrap64 (Int.tdiv X 64) = X / 64 := by rw [q]; exact w64 (by omega) (by omega)
      have xx := xor_nonneg (x := X) (y := X / 64) x0 x1 (by omega) (by omega)
      have ht := tmod_in xx hn
      refine ⟨Int.tmod (bits .xor .i64 X (X / 64)) n, ?_, ht.1, ht.2⟩
      unfold spec_l1Rd_pick.f
      refine ev_neg (by omega) ?_
      rw [e1]
      refine ev_step (fun k => spec_l1Rd_pick.j0.eq_2 _ _ _ _ k) ?_
      refine ev_neg (by simpa using h0) ?_
      rw [e2, e7]
      refine ev_neg h1 (ev_neg h0 (ev_pos g1.1 (ev_pos g1.2 (ev_pos g2.1 (ev_pos g2.2 (ev_neg (by omega) (ev_some ?_)))))))
      rw [hA, hB, hD, wA, wB, w6, w1, w2, w3, w4, w5, w7, hX, w8, w9]

theorem of_ev (b : List Int) (hb : Code b) (p : Int) (hp0 : 0 ≤ p) (hp1 : p ≤ 1099511627776) (l : List ByteArray) (hl : 1 ≤ l.length) :
    ∃ s, Ev (fun k => spec_l1Rd_of.f k b p l) (s, p + 1) ∧ s ∈ l := by
  obtain ⟨v, hv, v0, v1⟩ := pick_ev b hb p (l.length : Int) hp0 hp1 (by omega)
  have hi : v.toNat < l.length := by omega
  refine ⟨rdOf ByteArray.empty l v, ?_, ?_⟩
  · unfold spec_l1Rd_of.f
    refine Ev.bind hv ?_
    exact ev_pos v0 (ev_pos v1 (ev_some rfl))
  · unfold rdOf
    rw [List.getD_eq_getElem?_getD, List.getElem?_eq_getElem hi, Option.getD_some]
    exact List.getElem_mem hi
end Go.Proofs.YtccioimicdggkaaDoor.M
