/- The reference's decimals are the library's Itoa. Condition: a number above the least of its kind. -/
import Derived.Test.YtccioimicdggkaaDoorMBase
import Derived.Test.YtccioimicdggkaaDoorP5
namespace Go.Proofs.YtccioimicdggkaaDoor.M
open Go.RowKit Go.Proofs.YtccioimicdggkaaDoorW.PrintWords Go.Proofs.YtccioimicdggkaaDoor.P

theorem size_app (a b : ByteArray) : (a ++ b).size = a.size + b.size := ByteArray.size_append
theorem dig_len (u : Nat) : (Lib.decDigits u).length ≤ u / 2 + 1 := by
  induction u using Nat.strongRecOn with
  | _ u ih =>
    rw [Lib.decDigits]
    split
    · simp
    · rw [List.length_append]
      have := ih (u / 10) (by omega)
      simp only [List.length_cons, List.length_nil]
      omega
theorem one_num (n : Nat) : strOfNums [((n : Nat) : Int)] = ⟨#[UInt8.ofNat n]⟩ := by
  simp [strOfNums, Int.toNat_natCast]

theorem dec_nat (u : Nat) : u ≤ 9223372036854775807 → Ev (fun k => spec_l1Dec.f k (u : Int)) ⟨(Lib.decDigits u).toArray⟩ := by
  induction u using Nat.strongRecOn with
  | _ u ih =>
    intro hu
    refine ev_step (fun k => spec_l1Dec.f.eq_2 _ k) ?_
    refine ev_neg (by omega) (ev_neg (by omega) ?_)
    rw [Lib.decDigits]
    by_cases h : u < 10
    · rw [dif_pos h]
      refine ev_pos (by omega) (ev_some ?_)
      have e : (wrap64 (48 + (u : Int))) % 256 = ((48 + u : Nat) : Int) := by rw [w64 (by omega) (by omega)]; omega
      rw [e, one_num _]
    · rw [dif_neg h]
      refine ev_neg (by omega) ?_
      have e1 : wrap64 (Int.tdiv (u : Int) 10) = ((u / 10 : Nat) : Int) := by
        rw [Int.tdiv_eq_ediv_of_nonneg (by omega), w64 (by omega) (by omega)]; rfl
      have e2 : (wrap64 (48 + Int.tmod (u : Int) 10)) % 256 = ((48 + u % 10 : Nat) : Int) := by
        rw [Int.tmod_eq_emod_of_nonneg (by omega), w64 (by omega) (by omega)]; omega
      rw [e1, e2]
      clear e1 e2
      refine Ev.bind (ih (u / 10) (by omega) (by omega)) (ev_bindc rfl ?_)
      rw [one_num _]
      have hl := dig_len (u / 10)
      have z1 : (⟨(Lib.decDigits (u / 10)).toArray⟩ : ByteArray).size = (Lib.decDigits (u / 10)).length := rfl
      have z2 : (⟨#[UInt8.ofNat (48 + u % 10)]⟩ : ByteArray).size = 1 := rfl
      refine ev_pos (by rw [z1, z2]; omega) (ev_some ?_)
      apply ByteArray.ext
      rw [ByteArray.data_append]
      simp

theorem dec_ev (n : Int) (h0 : -9223372036854775807 ≤ n) (h1 : n ≤ 9223372036854775807) : Ev (fun k => spec_l1Dec.f k n) ⟨(Lib.itoa n).toArray⟩ := by
  by_cases hn : n < 0
  · obtain ⟨u, rfl⟩ : ∃ u : Nat, n = -(u : Int) := ⟨n.natAbs, by omega⟩
    refine ev_step (fun k => spec_l1Dec.f.eq_2 _ k) ?_
    refine ev_neg (by omega) (ev_pos hn ?_)
    have e : wrap64 (-(-(u : Int))) = (u : Int) := by rw [w64 (by omega) (by omega)]; omega
    rw [e]
    clear e
    refine Ev.bind (dec_nat u (by omega)) ?_
    have hl := dig_len u
    have z1 : (⟨(Lib.decDigits u).toArray⟩ : ByteArray).size = (Lib.decDigits u).length := rfl
    refine ev_pos (by rw [z1]; omega) (ev_some ?_)
    rw [Lib.itoa_neg u (by omega)]
    apply ByteArray.ext
    rw [ByteArray.data_append]
    simp
  · obtain ⟨u, rfl⟩ := Int.eq_ofNat_of_zero_le (show 0 ≤ n by omega)
    rw [Lib.itoa_nonneg]
    exact dec_nat u (by omega)
end Go.Proofs.YtccioimicdggkaaDoor.M
