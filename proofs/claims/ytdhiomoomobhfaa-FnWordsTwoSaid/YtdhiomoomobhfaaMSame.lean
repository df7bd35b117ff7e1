/- Lists of texts held against each other, marked and found again: what the laws' own helpers answer. Condition: lists of fewer than 2^40 texts. -/
import Derived.Test.YtdhiomoomobhfaaMSpecWords
import Derived.Test.YtdhiomoomobhfaaMMany
import Derived.Test.YtdhiomoomobhfaaP7
namespace Go.Proofs.Ytdhiomoomobhfaa.M
open Go.RowKit Go.Proofs.YtdhiomoomobhfaaW.PrintWords Go.Proofs.Ytdhiomoomobhfaa.P

theorem tdiv_nat (n m : Nat) : Int.tdiv (n : Int) (m : Int) = ((n / m : Nat) : Int) := by
  rw [Int.tdiv_eq_ediv_of_nonneg (by omega)]; rfl
theorem tmod_nat (n m : Nat) : Int.tmod (n : Int) (m : Int) = ((n % m : Nat) : Int) := by
  rw [Int.tmod_eq_emod_of_nonneg (by omega)]; rfl

theorem eqS_refl (l : List ByteArray) (hl : l.length < 1099511627776) : Ev (fun k => laws_eqStringS.f k l l) true := by
  have go : ∀ (d i : Nat), l.length - i = d → i ≤ l.length → Ev (fun k => laws_eqStringS.l0 k l l (i : Int)) true := by
    intro d
    induction d with
    | zero =>
      intro i hd hi
      refine ev_step (fun k => laws_eqStringS.l0.eq_2 _ _ _ k) ?_
      exact ev_neg (by omega) (ev_some rfl)
    | succ d ih =>
      intro i hd hi
      refine ev_step (fun k => laws_eqStringS.l0.eq_2 _ _ _ k) ?_
      refine ev_pos (by omega) (ev_pos (by omega) (ev_pos (by omega) (ev_pos rfl ?_)))
      rw [w64 (by omega) (by omega)]
      exact ih (i + 1) (by omega) (by omega)
  unfold laws_eqStringS.f
  exact ev_pos rfl (go l.length 0 (by omega) (by omega))

theorem markText_some (n : Nat) (h : n ≤ 4611686018427387904) : ∃ t, Ev (fun k => laws_markText.f k (n : Int)) t := by
  have go : ∀ (m n : Nat), n ≤ m → ∀ out : ByteArray, out.size + n ≤ 6917529027641081856 → n ≤ 4611686018427387904 → ∃ t, Ev (fun k => laws_markText.l0 k (n : Int) out) t := by
    intro m
    induction m with
    | zero =>
      intro n hn out ho hb
      obtain rfl : n = 0 := by omega
      refine ⟨(⟨#[109]⟩ : ByteArray) ++ out, ?_⟩
      refine ev_step (fun k => laws_markText.l0.eq_2 _ _ k) ?_
      exact ev_neg (by omega) (ev_pos (by omega) (ev_some rfl))
    | succ m ih =>
      intro n hn out ho hb
      by_cases h0 : n = 0
      · subst h0
        refine ⟨(⟨#[109]⟩ : ByteArray) ++ out, ?_⟩
        refine ev_step (fun k => laws_markText.l0.eq_2 _ _ k) ?_
        exact ev_neg (by omega) (ev_pos (by omega) (ev_some rfl))
      · have hz : (strOfNums [(wrap64 (48 + (Int.tmod (n : Int) 10))) % 256]).size = 1 := by simp [strOfNums, ByteArray.size]
        obtain ⟨t, ht⟩ := ih (n / 10) (by omega) (strOfNums [(wrap64 (48 + (Int.tmod (n : Int) 10))) % 256] ++ out) (by rw [size_app, hz]; omega) (by omega)
        refine ⟨t, ?_⟩
        refine ev_step (fun k => laws_markText.l0.eq_2 _ _ k) ?_
        refine ev_pos (by omega) (ev_bindc rfl (ev_pos (by rw [hz]; omega) ?_))
        have e : wrap64 (Int.tdiv (n : Int) 10) = ((n / 10 : Nat) : Int) := by
          rw [show (10 : Int) = ((10 : Nat) : Int) from rfl, tdiv_nat]
          exact w64 (by omega) (by omega)
        rw [e]
        exact ht
  unfold laws_markText.f
  by_cases h0 : (n : Int) ≤ 0
  · exact ⟨_, ev_pos h0 (ev_some rfl)⟩
  · obtain ⟨t, ht⟩ := go n n (Nat.le_refl _) ⟨#[]⟩ (by have : (⟨#[]⟩ : ByteArray).size = 0 := rfl
                                                       omega) h
    exact ⟨t, ev_neg h0 ht⟩

open Classical in
noncomputable def mt (n : Nat) : ByteArray := if h : n ≤ 4611686018427387904 then (markText_some n h).choose else ⟨#[]⟩
theorem mt_ev (n : Nat) (h : n ≤ 4611686018427387904) : Ev (fun k => laws_markText.f k (n : Int)) (mt n) := by
  unfold mt
  rw [dif_pos h]
  exact (markText_some n h).choose_spec

noncomputable def marks : Nat → Nat → List ByteArray
  | _, 0 => []
  | x, d + 1 => mt x :: marks (x + 1) d
theorem marks_len : ∀ (d x : Nat), (marks x d).length = d
  | 0, _ => rfl
  | d + 1, x => by simp [marks, marks_len d]

theorem markS_ev : ∀ (d i x : Nat) (l : List ByteArray), l.length - i = d → i ≤ l.length → l.length < 1099511627776 → x + d < 2199023255552 →
    Ev (fun k => laws_markStringS.l0 k l (x : Int) (i : Int)) (((x + d : Nat) : Int), l.take i ++ marks x d) := by
  intro d
  induction d with
  | zero =>
    intro i x l hd hi hl hx
    refine ev_step (fun k => laws_markStringS.l0.eq_2 _ _ _ k) ?_
    refine ev_neg (by omega) (ev_some ?_)
    rw [List.take_of_length_le (by omega)]
    simp [marks]
  | succ d ih =>
    intro i x l hd hi hl hx
    refine ev_step (fun k => laws_markStringS.l0.eq_2 _ _ _ k) ?_
    refine ev_pos (by omega) (Ev.bind (mt_ev x (by omega)) (ev_pos (by omega) ?_))
    have e1 : wrap64 ((x : Int) + 1) = ((x + 1 : Nat) : Int) := by rw [w64 (by omega) (by omega)]; omega
    have e2 : wrap64 ((i : Int) + 1) = ((i + 1 : Nat) : Int) := by rw [w64 (by omega) (by omega)]; omega
    rw [e1, e2, Int.toNat_natCast]
    clear e1 e2
    have := ih (i + 1) (x + 1) (l.set i (mt x)) (by rw [List.length_set]; omega) (by rw [List.length_set]; omega) (by rw [List.length_set]; omega) (by omega)
    rw [show x + 1 + d = x + (d + 1) by omega] at this
    have e3 : (l.set i (mt x)).take (i + 1) ++ marks (x + 1) d = l.take i ++ marks x (d + 1) := by
      rw [List.take_succ_eq_append_getElem (by rw [List.length_set]; omega), List.getElem_set_self, List.take_set_of_le (Nat.le_refl _), List.append_assoc]
      rfl
    rw [e3] at this
    exact this

theorem markS_f (l : List ByteArray) (hl : l.length < 1099511627776) : Ev (fun k => laws_markStringS.f k l 1) (((1 + l.length : Nat) : Int), marks 1 l.length) := by
  have := markS_ev l.length 0 1 l (by omega) (by omega) hl (by omega)
  rw [List.take_zero, List.nil_append] at this
  exact this

theorem heldS_ev : ∀ (d x : Nat) (pre : List ByteArray), pre.length + d < 1099511627776 → x + d < 2199023255552 →
    Ev (fun k => laws_heldStringS.l0 k (pre ++ marks x d) (x : Int) (pre.length : Int)) ((x + d : Nat) : Int) := by
  intro d
  induction d with
  | zero =>
    intro x pre hl hx
    refine ev_step (fun k => laws_heldStringS.l0.eq_2 _ _ _ k) ?_
    exact ev_neg (by simp [marks]) (ev_some rfl)
  | succ d ih =>
    intro x pre hl hx
    have hlen : (pre ++ marks x (d + 1)).length = pre.length + (d + 1) := by rw [List.length_append, marks_len]
    have hrd : rdOf ByteArray.empty (pre ++ marks x (d + 1)) (pre.length : Int) = mt x := by
      unfold rdOf
      rw [Int.toNat_natCast, List.getD_eq_getElem?_getD, List.getElem?_append_right (Nat.le_refl _), Nat.sub_self]
      rfl
    refine ev_step (fun k => laws_heldStringS.l0.eq_2 _ _ _ k) ?_
    refine ev_pos (by rw [hlen]; omega) (ev_pos (by omega) (Ev.bind (mt_ev x (by omega)) (ev_pos (by rw [hrd]) ?_)))
    have e1 : wrap64 ((x : Int) + 1) = ((x + 1 : Nat) : Int) := by rw [w64 (by omega) (by omega)]; omega
    have e2 : wrap64 ((pre.length : Int) + 1) = ((pre.length + 1 : Nat) : Int) := by rw [w64 (by omega) (by omega)]; omega
    rw [e1, e2]
    clear e1 e2
    have := ih (x + 1) (pre ++ [mt x]) (by rw [List.length_append, List.length_singleton]; omega) (by omega)
    rw [List.append_assoc, List.length_append, List.length_singleton, show x + 1 + d = x + (d + 1) by omega] at this
    exact this

theorem heldS_f (n : Nat) (hn : n < 1099511627776) : Ev (fun k => laws_heldStringS.f k (marks 1 n) 1) ((1 + n : Nat) : Int) := by
  have := heldS_ev n 1 [] (by simpa using hn) (by omega)
  exact this
end Go.Proofs.Ytdhiomoomobhfaa.M
