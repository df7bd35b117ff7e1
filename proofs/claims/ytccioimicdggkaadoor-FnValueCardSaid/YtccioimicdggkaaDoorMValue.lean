/- The program's ValueOk and the reference's answer the same. Condition: a text of at most 2^63 - 1 bytes. -/
import Derived.Test.YtccioimicdggkaaDoorMBase
import Derived.Test.YtccioimicdggkaaDoorP5
namespace Go.Proofs.YtccioimicdggkaaDoor.M
open Go.RowKit Go.Proofs.YtccioimicdggkaaDoorW.PrintWords Go.Proofs.YtccioimicdggkaaDoor.P

def seenB (c : UInt8) : Bool := decide (¬ (c.toNat : Int) < 32 ∧ ¬ (c.toNat : Int) > 126 ∧ ¬ (c.toNat : Int) = 34)
/-- what may stand in a text -/
def seenL (l : List UInt8) : Bool := l.all seenB

theorem text_ev (t : ByteArray) (ht : t.size ≤ 9223372036854775807) : ∀ (d i : Nat), t.size - i = d → i ≤ t.size →
    Ev (fun k => spec_l1Text.l0 k t (i : Int)) (seenL ((bl t).drop i) && decide (t.size ≤ 24)) := by
  intro d
  induction d with
  | zero =>
    intro i hd hi
    refine ev_step (fun k => spec_l1Text.l0.eq_2 _ _ k) ?_
    rw [bl_drop_end t i (by omega)]
    refine ev_neg (by omega) (ev_some ?_)
    show decide _ = (true && decide _)
    rw [Bool.true_and]
    exact decide_eq_decide.2 (by omega)
  | succ d ih =>
    intro i hd hi
    have hlt : i < t.size := by omega
    refine ev_step (fun k => spec_l1Text.l0.eq_2 _ _ k) ?_
    refine ev_pos (by omega) (ev_pos (by omega) ?_)
    rw [bt_nat t i hlt, bl_drop t i hlt]
    unfold seenL
    rw [List.all_cons]
    by_cases h1 : (t[i].toNat : Int) < 32
    · refine ev_pos h1 (ev_some ?_)
      rw [show seenB t[i] = false from decide_eq_false (fun h => h.1 h1)]; rfl
    · refine ev_neg h1 ?_
      by_cases h2 : (t[i].toNat : Int) > 126
      · refine ev_pos h2 (ev_some ?_)
        rw [show seenB t[i] = false from decide_eq_false (fun h => h.2.1 h2)]; rfl
      · refine ev_neg h2 ?_
        by_cases h3 : (t[i].toNat : Int) = 34
        · refine ev_pos h3 (ev_some ?_)
          rw [show seenB t[i] = false from decide_eq_false (fun h => h.2.2 h3)]; rfl
        · refine ev_neg h3 ?_
          rw [show seenB t[i] = true from decide_eq_true ⟨h1, h2, h3⟩, Bool.true_and, w64 (by omega) (by omega)]
          exact ih (i + 1) (by omega) (by omega)

theorem itext_ev (t : ByteArray) (ht : t.size ≤ 9223372036854775807) (a b : Int) : ∀ (d i : Nat), t.size - i = d → i ≤ t.size →
    Ev (fun k => impl_ValueOk.l0 k (t.size : Int) (i : Int) a b t) (if b = 0 then seenL ((bl t).drop i) && decide (t.size ≤ 24) else false) := by
  intro d
  induction d with
  | zero =>
    intro i hd hi
    refine ev_step (fun k => impl_ValueOk.l0.eq_2 _ _ _ _ _ k) ?_
    rw [bl_drop_end t i (by omega)]
    refine ev_neg (by omega) ?_
    by_cases hb : b = 0
    · simp only [if_pos hb]
      refine ev_some ?_
      show decide _ = (true && decide _)
      rw [Bool.true_and]
      exact decide_eq_decide.2 (by omega)
    · simp only [if_neg hb]
      exact ev_some rfl
  | succ d ih =>
    intro i hd hi
    have hlt : i < t.size := by omega
    refine ev_step (fun k => impl_ValueOk.l0.eq_2 _ _ _ _ _ k) ?_
    refine ev_pos (by omega) (ev_pos (by omega) (ev_pos (by omega) ?_))
    have ih' := ih (i + 1) (by omega) (by omega)
    rw [bt_nat t i hlt, bl_drop t i hlt]
    unfold seenL at ih' ⊢
    rw [List.all_cons]
    by_cases h1 : (t[i].toNat : Int) < 32
    · refine ev_pos h1 (ev_some ?_)
      rw [show seenB t[i] = false from decide_eq_false (fun h => h.1 h1)]; split <;> rfl
    · refine ev_neg h1 ?_
      by_cases h2 : (t[i].toNat : Int) > 126
      · refine ev_pos h2 (ev_some ?_)
        rw [show seenB t[i] = false from decide_eq_false (fun h => h.2.1 h2)]; split <;> rfl
      · refine ev_neg h2 ?_
        by_cases h3 : (t[i].toNat : Int) = 34
        · refine ev_pos h3 (ev_some ?_)
          rw [show seenB t[i] = false from decide_eq_false (fun h => h.2.2 h3)]; split <;> rfl
        · refine ev_neg h3 ?_
          rw [show seenB t[i] = true from decide_eq_true ⟨h1, h2, h3⟩, Bool.true_and, w64 (by omega) (by omega)]
          exact ih'

/-- ok, as the document has it -/
def okV (a b : Int) (t : ByteArray) : Bool :=
  if a = 0 then (if b = 0 then (t.toList == ([] : List UInt8)) else false)
  else if a = 1 then (if b ≥ -1000000000 ∧ b ≤ 1000000000 then (t.toList == ([] : List UInt8)) else false)
  else if a = 2 then (if b = 0 then seenL (bl t) && decide (t.size ≤ 24) else false)
  else false

theorem in_of (x a b : Int) : spec_l1In.f x a b = some (decide (x ≥ a ∧ x ≤ b)) := by
  unfold spec_l1In.f
  by_cases h : x ≥ a <;> simp [h]
theorem within_of (x a b : Int) : impl_within.f x a b = some (decide (x ≥ a ∧ x ≤ b)) := by
  unfold impl_within.f
  by_cases h : x ≥ a <;> simp [h]

theorem spec_ok (a b : Int) (t : ByteArray) (ht : t.size ≤ 9223372036854775807) : Ev (fun k => spec_ValueOk.f k a b t) (okV a b t) := by
  unfold spec_ValueOk.f okV
  by_cases h0 : a = 0
  · rw [if_pos h0]
    refine ev_pos h0 ?_
    by_cases hb : b = 0
    · simp only [if_pos hb]; exact ev_some rfl
    · simp only [if_neg hb]; exact ev_some rfl
  · rw [if_neg h0]
    refine ev_neg h0 ?_
    by_cases h1 : a = 1
    · rw [if_pos h1]
      refine ev_pos h1 (ev_bindc (in_of _ _ _) ?_)
      by_cases hb : b ≥ -1000000000 ∧ b ≤ 1000000000
      · rw [if_pos hb]; exact ev_pos (decide_eq_true hb) (ev_some rfl)
      · rw [if_neg hb]; exact ev_neg (by rw [decide_eq_false hb]; decide) (ev_some rfl)
    · rw [if_neg h1]
      refine ev_neg h1 ?_
      by_cases h2 : a = 2
      · rw [if_pos h2]
        refine ev_pos h2 ?_
        by_cases hb : b = 0
        · rw [if_pos hb]
          exact ev_pos hb (Ev.bind (text_ev t ht t.size 0 (by omega) (by omega)) (ev_some (by rw [List.drop_zero])))
        · rw [if_neg hb]; exact ev_neg hb (ev_some rfl)
      · rw [if_neg h2]; exact ev_neg h2 (ev_some rfl)

theorem impl_ok (a b : Int) (t : ByteArray) (ht : t.size ≤ 9223372036854775807) : Ev (fun k => impl_ValueOk.f k a b t) (okV a b t) := by
  unfold impl_ValueOk.f okV
  by_cases h0 : a = 0
  · rw [if_pos h0]
    refine ev_pos h0 ?_
    by_cases hb : b = 0
    · simp only [if_pos hb]; exact ev_some rfl
    · simp only [if_neg hb]; exact ev_some rfl
  · rw [if_neg h0]
    refine ev_neg h0 ?_
    by_cases h1 : a = 1
    · rw [if_pos h1]
      refine ev_pos h1 (ev_bindc (within_of _ _ _) ?_)
      by_cases hb : b ≥ -1000000000 ∧ b ≤ 1000000000
      · rw [if_pos hb]; exact ev_pos (decide_eq_true hb) (ev_some rfl)
      · rw [if_neg hb]; exact ev_neg (by rw [decide_eq_false hb]; decide) (ev_some rfl)
    · rw [if_neg h1]
      refine ev_neg h1 ?_
      by_cases h2 : a = 2
      · rw [if_pos h2]
        refine ev_pos h2 ?_
        have := itext_ev t ht a b t.size 0 (by omega) (by omega)
        rw [List.drop_zero] at this
        exact this
      · rw [if_neg h2]; exact ev_neg h2 (ev_some rfl)
end Go.Proofs.YtccioimicdggkaaDoor.M
