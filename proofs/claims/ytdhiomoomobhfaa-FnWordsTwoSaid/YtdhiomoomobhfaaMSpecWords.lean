/- The reference's Words: the plain function 'tok' over the text's bytes. Condition: a text of less than 2^43 bytes. -/
import Derived.Test.YtdhiomoomobhfaaMWords
namespace Go.Proofs.Ytdhiomoomobhfaa.M
open Go.RowKit Go.Proofs.YtdhiomoomobhfaaW.PrintWords Go.Proofs.Ytdhiomoomobhfaa.P

theorem step_split (c : UInt8) (l w r : List UInt8) (h : step c l = .word w r) : c :: l = w ++ r ∧ 1 ≤ w.length := by
  by_cases c1 : blankB c = true
  · rw [step_blank c1] at h; cases h
  · by_cases c2 : c = 35
    · rw [step_note c1 c2] at h; cases h
    · by_cases c3 : wordB c = true
      · rw [step_word c1 c2 c3] at h
        injection h with e1 e2
        subst e1 e2
        rw [List.cons_append, List.takeWhile_append_dropWhile]
        exact ⟨rfl, by simp⟩
      · by_cases c4 : c = 34
        · rw [step_quote c1 c2 c3 c4] at h
          cases hq : toQuote l with
          | none => rw [hq] at h; cases h
          | some p =>
            rw [hq] at h
            injection h with e1 e2
            subst e1 e2
            refine ⟨?_, by simp⟩
            rw [c4, List.cons_append, List.append_assoc]
            exact congrArg (34 :: ·) (toQuote_le l p hq).2
        · by_cases c5 : c = 61 ∧ l.head? = some 61
          · rw [step_same c1 c2 c3 c4 c5] at h
            injection h with e1 e2
            subst e1 e2
            refine ⟨?_, by simp⟩
            cases l with
            | nil => simp at c5
            | cons d l =>
              obtain ⟨h1, h2⟩ := c5
              simp only [List.head?_cons, Option.some.injEq] at h2
              rw [h1, h2]; rfl
          · by_cases c6 : signL.contains c = true
            · rw [step_sign c1 c2 c3 c4 c5 c6] at h
              injection h with e1 e2
              subst e1 e2
              exact ⟨rfl, by simp⟩
            · rw [step_bad c1 c2 c3 c4 c5 c6] at h; cases h

/-- the word that a step tells, or nothing -/
def wordOf : Tok → ByteArray
  | .word w _ => ofL w
  | _ => ⟨#[]⟩

theorem take_extract (t : ByteArray) (n : Nat) (w : List UInt8) (h : (bl t).take n = w) : t.extract 0 n = ofL w := by
  apply bl_inj
  rw [bl_extract, List.drop_zero, h, bl_ofL]

theorem sword_scan (t : ByteArray) (ht : t.size < 8796093022208) (r : ByteArray) : ∀ (d i : Nat), t.size - i = d → i ≤ t.size →
    Ev (fun k => spec_l1Word.j1 k t ((i + (((bl t).drop i).takeWhile wordB).length : Nat) : Int)) r → Ev (fun k => spec_l1Word.l0 k t (i : Int)) r := by
  intro d
  induction d with
  | zero =>
    intro i hd hi H
    refine ev_step (fun k => spec_l1Word.l0.eq_2 _ _ k) ?_
    refine ev_neg (by omega) ?_
    rw [bl_drop_end t i (by omega)] at H
    exact H
  | succ d ih =>
    intro i hd hi H
    have hlt : i < t.size := by omega
    refine ev_step (fun k => spec_l1Word.l0.eq_2 _ _ k) ?_
    refine ev_pos (by omega) (ev_pos (by omega) ?_)
    rw [bt_nat t i hlt]
    rw [bl_drop t i hlt, List.takeWhile_cons] at H
    refine ev_bindc (slet_of _) ?_
    have go : wordB t[i] = true → Ev (fun k => spec_l1Word.l0 k t (wrap64 ((i : Int) + 1))) r := by
      intro hw
      rw [if_pos hw] at H
      rw [w64 (by omega) (by omega)]
      have := ih (i + 1) (by omega) (by omega)
      rw [List.length_cons, show i + ((((bl t).drop (i + 1)).takeWhile wordB).length + 1) = i + 1 + (((bl t).drop (i + 1)).takeWhile wordB).length by omega] at H
      exact this H
    by_cases hl : letB t[i] = true
    · exact ev_pos hl (go (by unfold wordB; rw [hl]; rfl))
    · refine ev_neg hl ?_
      have stop : ¬ figB t[i] = true → Ev (fun k => spec_l1Word.j1 k t (i : Int)) r := by
        intro hg
        rw [if_neg (by unfold wordB; rw [Bool.or_eq_true]; exact fun h => h.elim hl hg)] at H
        exact H
      by_cases h1 : (t[i].toNat : Int) ≥ 48
      · refine ev_pos h1 ?_
        by_cases h2 : (t[i].toNat : Int) ≤ 57
        · exact ev_pos h2 (go (by unfold wordB; rw [(figB_ge _).2 ⟨h1, h2⟩, Bool.or_true]))
        · exact ev_neg h2 (stop (fun h => h2 ((figB_ge _).1 h).2))
      · exact ev_neg h1 (stop (fun h => h1 ((figB_ge _).1 h).1))

theorem squote (t : ByteArray) (ht : t.size < 8796093022208) : ∀ (d i : Nat), t.size - i = d → i ≤ t.size →
    Ev (fun k => spec_l1Word.l1 k t (i : Int)) (match toQuote ((bl t).drop i) with | none => ⟨#[]⟩ | some p => t.extract 0 (i + p.1.length + 1)) := by
  intro d
  induction d with
  | zero =>
    intro i hd hi
    refine ev_step (fun k => spec_l1Word.l1.eq_2 _ _ k) ?_
    rw [bl_drop_end t i (by omega)]
    exact ev_neg (by omega) (ev_pos (by omega) (ev_some rfl))
  | succ d ih =>
    intro i hd hi
    have hlt : i < t.size := by omega
    refine ev_step (fun k => spec_l1Word.l1.eq_2 _ _ k) ?_
    refine ev_pos (by omega) (ev_pos (by omega) ?_)
    rw [bt_nat t i hlt, bl_drop t i hlt]
    unfold toQuote
    by_cases hc : t[i] = 34
    · rw [if_pos hc]
      have e : wrap64 ((i : Int) + 1) = ((i + 1 : Nat) : Int) := by rw [w64 (by omega) (by omega)]; omega
      rw [e]
      clear e
      refine ev_pos ((is34 _).2 hc) (ev_neg (by omega) (ev_pos (by omega) (ev_pos (by omega) (ev_some ?_))))
      rw [Int.toNat_natCast]; rfl
    · rw [if_neg hc]
      refine ev_neg (fun h => hc ((is34 _).1 h)) ?_
      rw [w64 (by omega) (by omega)]
      have := ih (i + 1) (by omega) (by omega)
      cases hq : toQuote ((bl t).drop (i + 1)) with
      | none => rw [hq] at this; exact this
      | some p =>
        rw [hq] at this
        simp only at this
        simp only [Option.map_some, List.length_cons]
        rw [show i + (p.1.length + 1) + 1 = i + 1 + p.1.length + 1 by omega]
        exact this

theorem ssign (t : ByteArray) (ht : 0 < t.size) (c : UInt8) (hc : bt t 0 = (c.toNat : Int)) : ∀ (d i : Nat), 10 - i = d → i ≤ 10 →
    Ev (fun k => spec_l1Word.l2 k t (⟨#[43, 45, 42, 60, 61, 40, 41, 123, 125, 59]⟩ : ByteArray) (i : Int)) (if (signL.drop i).contains c = true then t.extract 0 1 else ⟨#[]⟩) := by
  have hz : (⟨#[43, 45, 42, 60, 61, 40, 41, 123, 125, 59]⟩ : ByteArray).size = 10 := rfl
  have hb : bl (⟨#[43, 45, 42, 60, 61, 40, 41, 123, 125, 59]⟩ : ByteArray) = signL := rfl
  intro d
  induction d with
  | zero =>
    intro i hd hi
    obtain rfl : i = 10 := by omega
    refine ev_step (fun k => spec_l1Word.l2.eq_2 _ _ _ k) ?_
    exact ev_neg (by rw [hz]; decide) (ev_some rfl)
  | succ d ih =>
    intro i hd hi
    have hlt : i < (⟨#[43, 45, 42, 60, 61, 40, 41, 123, 125, 59]⟩ : ByteArray).size := by rw [hz]; omega
    refine ev_step (fun k => spec_l1Word.l2.eq_2 _ _ _ k) ?_
    refine ev_pos (by rw [hz]; omega) (ev_pos (by omega) (ev_pos (by omega) ?_))
    have hdr := bl_drop _ i hlt
    rw [hb] at hdr
    rw [bt_nat _ i hlt, hdr, hc, List.contains_cons]
    generalize (⟨#[43, 45, 42, 60, 61, 40, 41, 123, 125, 59]⟩ : ByteArray)[i] = b
    by_cases h : b = c
    · refine ev_pos ((u8_iff b c).2 h) (ev_pos (by decide) (ev_pos (by omega) (ev_some ?_)))
      rw [if_pos (by rw [h]; simp)]
    · refine ev_neg (fun h' => h ((u8_iff b c).1 h')) ?_
      have e : (c == b) = false := by simpa using fun h' => h h'.symm
      rw [e, Bool.false_or, w64 (by omega) (by omega)]
      exact ih (i + 1) (by omega) (by omega)

theorem spec_word (t : ByteArray) (ht : t.size < 8796093022208) (c : UInt8) (l : List UInt8) (hb : bl t = c :: l) (c1 : ¬ blankB c = true) (c2 : ¬ c = 35) :
    Ev (fun k => spec_l1Word.f k t) (wordOf (step c l)) := by
  have hz : t.size = l.length + 1 := by rw [← bl_length, hb, List.length_cons]
  have hbt : bt t 0 = (c.toNat : Int) := by
    have h := bt_nat t 0 (by omega)
    have g := bl_get t 0 (by omega)
    rw [show ((0 : Nat) : Int) = 0 from rfl] at h
    rw [h, ← g]
    have : ∀ (x : List UInt8) (hx : 0 < x.length), x = c :: l → x[0] = c := fun x hx e => by subst e; rfl
    rw [this (bl t) (by rw [bl_length]; omega) hb]
  refine sword_scan t ht _ t.size 0 (by omega) (by omega) ?_
  rw [List.drop_zero, hb, List.takeWhile_cons]
  by_cases c3 : wordB c = true
  · rw [if_pos c3, step_word c1 c2 c3, List.length_cons, Nat.zero_add]
    have t1 := take_len_drop wordB l
    have t2 := takeWhile_le wordB l
    refine ev_step (fun k => spec_l1Word.j1.eq_2 _ _ k) ?_
    refine ev_pos (by omega) (ev_pos (by omega) (ev_pos (by omega) (ev_some ?_)))
    rw [Int.toNat_natCast]
    exact take_extract t _ _ (by rw [hb, List.take_succ_cons, t1.2])
  · rw [if_neg c3]
    refine ev_step (fun k => spec_l1Word.j1.eq_2 _ _ k) ?_
    refine ev_neg (by decide) (ev_pos (by omega) ?_)
    rw [hbt]
    by_cases c4 : c = 34
    · refine ev_pos ((is34 c).2 c4) ?_
      rw [step_quote c1 c2 c3 c4]
      have := squote t ht (t.size - 1) 1 rfl (by omega)
      rw [hb, List.drop_one, List.tail_cons] at this
      cases hq : toQuote l with
      | none => rw [hq] at this; exact this
      | some p =>
        rw [hq] at this
        simp only at this ⊢
        obtain ⟨p1, p2⟩ := p
        obtain ⟨_, q2⟩ := toQuote_le l (p1, p2) hq
        simp only at q2 this ⊢
        rw [take_extract t (1 + p1.length + 1) (34 :: (p1 ++ [34])) (by rw [hb, c4, q2, show 1 + p1.length + 1 = p1.length + 2 by omega]; exact quote_take p1 p2)] at this
        exact this
    · refine ev_neg (fun h => c4 ((is34 c).1 h)) ?_
      have sign : (c = 61 ∧ l.head? = some 61) = False → Ev (fun k => spec_l1Word.j3 k t) (wordOf (step c l)) := by
        intro hno
        have c5 : ¬ (c = 61 ∧ l.head? = some 61) := by rw [hno]; exact id
        refine ev_step (fun k => spec_l1Word.j3.eq_2 _ k) ?_
        have := ssign t (by omega) c hbt 10 0 rfl (by omega)
        rw [List.drop_zero] at this
        by_cases c6 : signL.contains c = true
        · rw [step_sign c1 c2 c3 c4 c5 c6]
          rw [if_pos c6, take_extract t 1 [c] (by rw [hb]; rfl)] at this
          exact this
        · rw [step_bad c1 c2 c3 c4 c5 c6]
          rw [if_neg c6] at this
          exact this
      by_cases h1 : (t.size : Int) > 1
      · refine ev_pos h1 (ev_pos (by decide) (ev_pos (by omega) ?_))
        rw [bl_toList, bl_extract, List.drop_zero, hb]
        by_cases c5 : c = 61 ∧ l.head? = some 61
        · rw [step_same c1 c2 c3 c4 c5]
          exact ev_pos ((two_head c l).2 c5) (ev_some rfl)
        · exact ev_neg (fun h => c5 ((two_head c l).1 h)) (sign (eq_false c5))
      · refine ev_neg h1 (sign (eq_false ?_))
        rintro ⟨_, h⟩
        have : l.length = 0 := by omega
        rw [List.length_eq_zero_iff] at this
        rw [this] at h
        simp at h

theorem snote_end (s : ByteArray) (hs : s.size < 8796093022208) (acc : List ByteArray) (r : List ByteArray × Bool) : ∀ (d i : Nat), s.size - i = d → i ≤ s.size →
    Ev (fun k => spec_Words.l0 k s acc ((i + (((bl s).drop i).takeWhile (· != 10)).length : Nat) : Int)) r → Ev (fun k => spec_Words.l1 k s acc (i : Int)) r := by
  intro d
  induction d with
  | zero =>
    intro i hd hi H
    refine ev_step (fun k => spec_Words.l1.eq_2 _ _ _ k) ?_
    refine ev_neg (by omega) ?_
    rw [bl_drop_end s i (by omega)] at H
    exact H
  | succ d ih =>
    intro i hd hi H
    have hlt : i < s.size := by omega
    refine ev_step (fun k => spec_Words.l1.eq_2 _ _ _ k) ?_
    refine ev_pos (by omega) (ev_pos (by omega) ?_)
    rw [bt_nat s i hlt]
    rw [bl_drop s i hlt, List.takeWhile_cons] at H
    by_cases hc : s[i] = 10
    · refine ev_pos ((is10 _).2 hc) ?_
      rw [if_neg (by simp [hc])] at H
      exact H
    · refine ev_neg (fun h => hc ((is10 _).1 h)) ?_
      rw [if_pos (by simpa using hc)] at H
      rw [w64 (by omega) (by omega)]
      have := ih (i + 1) (by omega) (by omega)
      rw [List.length_cons, show i + ((((bl s).drop (i + 1)).takeWhile (· != 10)).length + 1) = i + 1 + (((bl s).drop (i + 1)).takeWhile (· != 10)).length by omega] at H
      exact this H

theorem spec_words (s : ByteArray) (hs : s.size < 8796093022208) : ∀ (n i : Nat), s.size - i ≤ n → i ≤ s.size → ∀ acc : List ByteArray, acc.length ≤ i →
    Ev (fun k => spec_Words.l0 k s acc (i : Int)) (resW acc (tok ((bl s).drop i))) := by
  intro n
  induction n with
  | zero =>
    intro i hd hi acc ha
    refine ev_step (fun k => spec_Words.l0.eq_2 _ _ _ k) ?_
    rw [bl_drop_end s i (by omega), tok_nil]
    refine ev_neg (by omega) (ev_some ?_)
    simp [resW]
  | succ n ih =>
    intro i hd hi acc ha
    by_cases hlt : i < s.size
    · have ha' : acc.length < 8796093022208 := by omega
      rw [bl_drop s i hlt, tok_cons]
      have hlen : ((bl s).drop (i + 1)).length = s.size - (i + 1) := by rw [List.length_drop, bl_length]
      have ew : wrap64 ((i : Int) + 1) = ((i + 1 : Nat) : Int) := by rw [w64 (by omega) (by omega)]; omega
      have hd1 : (bl s).drop i = s[i] :: (bl s).drop (i + 1) := bl_drop s i hlt
      generalize hc : s[i] = c at hd1 ⊢
      generalize hl : (bl s).drop (i + 1) = l at hd1 hlen ⊢
      have hbt : bt s (i : Int) = (c.toNat : Int) := by rw [bt_nat s i hlt, hc]
      refine ev_step (fun k => spec_Words.l0.eq_2 _ _ _ k) ?_
      refine ev_pos (by omega) (ev_pos (by omega) ?_)
      rw [hbt]
      have blank : blankB c = true → Ev (fun k => spec_Words.j1 k s acc (i : Int) true) (resW acc (tok l)) := by
        intro _
        refine ev_step (fun k => spec_Words.j1.eq_2 _ _ _ _ k) ?_
        refine ev_pos rfl ?_
        rw [ew, ← hl]
        clear ew
        exact ih (i + 1) (by omega) (by omega) acc (by omega)
      by_cases c1 : blankB c = true
      · rw [step_blank c1]
        by_cases k1 : c = 32
        · exact ev_pos ((is32 c).2 k1) (blank c1)
        · refine ev_neg (fun h => k1 ((is32 c).1 h)) ?_
          by_cases k2 : c = 10
          · exact ev_pos ((is10 c).2 k2) (blank c1)
          · refine ev_neg (fun h => k2 ((is10 c).1 h)) ?_
            have k3 : c = 9 := by
              unfold blankB at c1
              simp only [Bool.or_eq_true, beq_iff_eq] at c1
              rcases c1 with (h | h) | h
              · exact absurd h k1
              · exact h
              · exact absurd h k2
            rw [show (((c.toNat : Int)) == 9) = true from beq_iff_eq.2 ((is9 c).2 k3)]
            exact blank c1
      · have hn : ¬ c = 32 ∧ ¬ c = 9 ∧ ¬ c = 10 := by
          unfold blankB at c1
          simp only [Bool.or_eq_true, beq_iff_eq] at c1
          exact ⟨fun h => c1 (.inl (.inl h)), fun h => c1 (.inl (.inr h)), fun h => c1 (.inr h)⟩
        refine ev_neg (fun h => hn.1 ((is32 c).1 h)) (ev_neg (fun h => hn.2.2 ((is10 c).1 h)) ?_)
        rw [show (((c.toNat : Int)) == 9) = false from beq_eq_false_iff_ne.2 (fun h => hn.2.1 ((is9 c).1 h))]
        refine ev_step (fun k => spec_Words.j1.eq_2 _ _ _ _ k) ?_
        refine ev_neg (by decide) (ev_pos (by omega) (ev_pos (by omega) ?_))
        rw [hbt]
        clear ew
        by_cases c2 : c = 35
        · refine ev_pos ((is35 c).2 c2) ?_
          rw [step_note c1 c2]
          refine snote_end s hs acc _ (s.size - i) i rfl hi ?_
          rw [hd1, List.takeWhile_cons, if_pos (by rw [c2]; decide), List.length_cons]
          simp only
          have t1 := take_len_drop (· != 10) l
          have t2 := takeWhile_le (· != 10) l
          rw [← t1.1, ← hl, drop_drop_nat]
          rw [hl, show i + ((l.takeWhile (· != 10)).length + 1) = i + 1 + (l.takeWhile (· != 10)).length by omega]
          exact ih _ (by omega) (by omega) acc (by omega)
        · refine ev_neg (fun h => c2 ((is35 c).1 h)) (ev_pos (by omega) ?_)
          rw [Int.toNat_natCast]
          have hx : bl (s.extract i s.size) = c :: l := by rw [bl_extract_end, hd1]
          have hxs : (s.extract i s.size).size < 8796093022208 := by rw [← bl_length, hx, List.length_cons]; omega
          refine Ev.bind (spec_word _ hxs c l hx c1 c2) ?_
          cases hst : step c l with
          | skip r =>
            exfalso
            by_cases c3 : wordB c = true
            · rw [step_word c1 c2 c3] at hst; cases hst
            · by_cases c4 : c = 34
              · rw [step_quote c1 c2 c3 c4] at hst
                cases hq : toQuote l with
                | none => rw [hq] at hst; cases hst
                | some p => rw [hq] at hst; cases hst
              · by_cases c5 : c = 61 ∧ l.head? = some 61
                · rw [step_same c1 c2 c3 c4 c5] at hst; cases hst
                · by_cases c6 : signL.contains c = true
                  · rw [step_sign c1 c2 c3 c4 c5 c6] at hst; cases hst
                  · rw [step_bad c1 c2 c3 c4 c5 c6] at hst; cases hst
          | bad => exact ev_pos (by rw [bl_toList]; rfl) (ev_some rfl)
          | word w r =>
            obtain ⟨s1, s2⟩ := step_split c l w r hst
            have s3 := congrArg List.length s1
            rw [List.length_cons, List.length_append] at s3
            simp only [wordOf]
            refine ev_neg (by rw [bl_toList, bl_ofL]; intro h; rw [h] at s2; simp at s2) (ev_pos ha' ?_)
            rw [resW_word, ofL_size]
            have e : wrap64 ((i : Int) + (w.length : Int)) = ((i + w.length : Nat) : Int) := by rw [w64 (by omega) (by omega)]; omega
            rw [e]
            clear e
            have e3 : r = (bl s).drop (i + w.length) := by
              rw [← drop_drop_nat, hd1, s1, List.drop_left]
            rw [e3]
            exact ih _ (by omega) (by omega) _ (by rw [List.length_append, List.length_singleton]; omega)
    · refine ev_step (fun k => spec_Words.l0.eq_2 _ _ _ k) ?_
      rw [bl_drop_end s i (by omega), tok_nil]
      refine ev_neg (by omega) (ev_some ?_)
      simp [resW]

theorem spec_words_f (s : ByteArray) (hs : s.size < 8796093022208) : Ev (fun k => spec_Words.f k s) (resW [] (tok (bl s))) :=
  spec_words s hs s.size 0 (by omega) (by omega) [] (by simp)
end Go.Proofs.Ytdhiomoomobhfaa.M
