/- A text many times over: the reference's doubling ends, and its result is no longer than the text's length times the number. Condition: that product is at most 2^40. -/
import Derived.Test.YtccioimicdggkaaDoorMDraw
import Derived.Test.YtccioimicdggkaaDoorP6
import Derived.Test.YtccioimicdggkaaDoorMDec
namespace Go.Proofs.YtccioimicdggkaaDoor.M
open Go.RowKit Go.Proofs.YtccioimicdggkaaDoorW.PrintWords Go.Proofs.YtccioimicdggkaaDoor.P


theorem many_ev : ∀ (m n : Nat), n ≤ m → ∀ (s out : ByteArray), s.size * n ≤ 1099511627776 → out.size + s.size * n ≤ 2199023255552 → n ≤ 1099511627776 →
    ∃ r, Ev (fun k => spec_l1Many.l0 k s (n : Int) out) r ∧ r.size ≤ out.size + s.size * n := by
  intro m
  induction m with
  | zero =>
    intro n hn s out _ _ _
    obtain rfl : n = 0 := by omega
    refine ⟨out, ?_, by omega⟩
    refine ev_step (fun k => spec_l1Many.l0.eq_2 _ _ _ k) ?_
    exact ev_neg (by omega) (ev_some rfl)
  | succ m ih =>
    intro n hn s out h1 h2 h3
    by_cases h0 : n = 0
    · subst h0
      refine ⟨out, ?_, by omega⟩
      refine ev_step (fun k => spec_l1Many.l0.eq_2 _ _ _ k) ?_
      exact ev_neg (by omega) (ev_some rfl)
    · have e : Int.tdiv (n : Int) 2 = ((n / 2 : Nat) : Int) := by rw [Int.tdiv_eq_ediv_of_nonneg (by omega)]; omega
      have t : Int.tmod (n : Int) 2 = ((n % 2 : Nat) : Int) := by rw [Int.tmod_eq_emod_of_nonneg (by omega)]; omega
      have w : wrap64 ((n / 2 : Nat) : Int) = ((n / 2 : Nat) : Int) := w64 (by omega) (by omega)
      have hs : s.size ≤ s.size * n := Nat.le_mul_of_pos_right _ (by omega)
      have hd : (s ++ s).size * (n / 2) + (if n % 2 = 1 then s.size else 0) = s.size * n := by
        rw [size_app]
        have q := Nat.div_add_mod n 2
        generalize n / 2 = a at q
        have k1 : s.size * (2 * a) = 2 * (s.size * a) := Nat.mul_left_comm _ _ _
        split
        · rename_i hr; rw [hr] at q; subst q; rw [Nat.mul_add, Nat.add_mul, k1]; omega
        · have hr : n % 2 = 0 := by omega
          rw [hr] at q; subst q; simp only [Nat.add_zero]; rw [Nat.add_mul, k1]; omega
      by_cases c : n % 2 = 1
      · rw [if_pos c] at hd
        obtain ⟨r, hr, hz⟩ := ih (n / 2) (by omega) (s ++ s) (out ++ s) (by omega) (by rw [size_app out s]; omega) (by omega)
        refine ⟨r, ?_, by rw [size_app out s] at hz; omega⟩
        refine ev_step (fun k => spec_l1Many.l0.eq_2 _ _ _ k) ?_
        refine ev_pos (by omega) (ev_pos (by rw [t]; omega) (ev_pos (by omega) (ev_pos (by omega) ?_)))
        rw [e, w]
        exact hr
      · rw [if_neg c] at hd
        obtain ⟨r, hr, hz⟩ := ih (n / 2) (by omega) (s ++ s) out (by omega) (by omega) (by omega)
        refine ⟨r, ?_, by omega⟩
        refine ev_step (fun k => spec_l1Many.l0.eq_2 _ _ _ k) ?_
        refine ev_pos (by omega) (ev_neg (by rw [t]; omega) (ev_pos (by omega) ?_))
        rw [e, w]
        exact hr

theorem manyf_ev (s : ByteArray) (n : Nat) (h : s.size * n ≤ 1099511627776) (hn : n ≤ 1099511627776) :
    ∃ r, Ev (fun k => spec_l1Many.f k s (n : Int)) r ∧ r.size ≤ s.size * n := by
  have z : (⟨#[]⟩ : ByteArray).size = 0 := rfl
  obtain ⟨r, hr, hz⟩ := many_ev n n (Nat.le_refl _) s ⟨#[]⟩ h (by omega) hn
  exact ⟨r, hr, by omega⟩
end Go.Proofs.YtccioimicdggkaaDoor.M
