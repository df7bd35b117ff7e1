/- The program's Words and the reference's: both are the plain function 'tok' over the text's bytes. Condition: a text of less than 2^43 bytes. -/
import Derived.Test.YtdhiomoomobhfaaMBase
import Derived.Test.YtdhiomoomobhfaaMTok
import Derived.Test.YtdhiomoomobhfaaP4
import Derived.Test.YtdhiomoomobhfaaP5
import Derived.Test.YtdhiomoomobhfaaP6
namespace Go.Proofs.Ytdhiomoomobhfaa.M
open Go.RowKit Go.Proofs.YtdhiomoomobhfaaW.PrintWords Go.Proofs.Ytdhiomoomobhfaa.P

def ofL (l : List UInt8) : ByteArray := ⟨l.toArray⟩
theorem bl_ofL (l : List UInt8) : bl (ofL l) = l := rfl
theorem ofL_size (l : List UInt8) : (ofL l).size = l.length := rfl
theorem bl_inj {a b : ByteArray} (h : bl a = bl b) : a = b := by
  cases a with | mk a => cases b with | mk b => exact congrArg ByteArray.mk (Array.toList_inj.1 h)
theorem bl_extract (s : ByteArray) (a b : Nat) : bl (s.extract a b) = ((bl s).take b).drop a := by
  show (s.extract a b).data.toList = _
  rw [ByteArray.data_extract, Array.toList_extract, List.extract_eq_take_drop, List.take_drop]
  by_cases h : a ≤ b
  · rw [Nat.add_sub_cancel' h]
  · rw [List.drop_of_length_le (by rw [List.length_take]; omega), List.drop_of_length_le (by rw [List.length_take]; omega)]
theorem bl_toList (s : ByteArray) : s.toList = bl s := Lib.toList_data s
theorem bl_extract_end (s : ByteArray) (a : Nat) : bl (s.extract a s.size) = (bl s).drop a := by
  rw [bl_extract, List.take_of_length_le (by rw [bl_length]; exact Nat.le_refl _)]

theorem u8_iff (c d : UInt8) : ((c.toNat : Int) = (d.toNat : Int)) ↔ c = d := by
  rw [← UInt8.toNat_inj]; omega
theorem u8_is (c : UInt8) (n : Nat) (hn : n < 256) : ((c.toNat : Int) = (n : Int)) ↔ c = UInt8.ofNat n := by
  rw [← u8_iff, UInt8.toNat_ofNat']
  rw [Nat.mod_eq_of_lt (by simpa using hn)]
theorem is32 (c : UInt8) : ((c.toNat : Int) = 32) ↔ c = 32 := u8_is c 32 (by decide)
theorem is9 (c : UInt8) : ((c.toNat : Int) = 9) ↔ c = 9 := u8_is c 9 (by decide)
theorem is10 (c : UInt8) : ((c.toNat : Int) = 10) ↔ c = 10 := u8_is c 10 (by decide)
theorem is34 (c : UInt8) : ((c.toNat : Int) = 34) ↔ c = 34 := u8_is c 34 (by decide)
theorem is35 (c : UInt8) : ((c.toNat : Int) = 35) ↔ c = 35 := u8_is c 35 (by decide)
theorem ge_iff (c d : UInt8) : (d ≤ c) ↔ ((c.toNat : Int) ≥ (d.toNat : Int)) := by
  rw [UInt8.le_iff_toNat_le]; omega

theorem letB_of (c : UInt8) : impl_letter.f (c.toNat : Int) = some (letB c) := by
  unfold impl_letter.f letB
  have h1 := ge_iff c 97
  have h2 := ge_iff 122 c
  have h3 := ge_iff c 65
  have h4 := ge_iff 90 c
  have e1 : ((97 : UInt8).toNat : Int) = 97 := rfl
  have e2 : ((122 : UInt8).toNat : Int) = 122 := rfl
  have e3 : ((65 : UInt8).toNat : Int) = 65 := rfl
  have e4 : ((90 : UInt8).toNat : Int) = 90 := rfl
  rw [e1] at h1; rw [e2] at h2; rw [e3] at h3; rw [e4] at h4
  by_cases a1 : (c.toNat : Int) ≥ 97 <;> by_cases a2 : (c.toNat : Int) ≤ 122 <;> by_cases a3 : (c.toNat : Int) ≥ 65 <;> by_cases a4 : (c.toNat : Int) ≤ 90 <;>
    simp [h1, h2, h3, h4, a1, a2, a3, a4]
theorem slet_of (c : UInt8) : spec_l1Letter.f (c.toNat : Int) = some (letB c) := letB_of c
theorem figB_of (c : UInt8) : impl_figure.f (c.toNat : Int) = some (figB c) := by
  unfold impl_figure.f figB
  have h1 := ge_iff c 48
  have h2 := ge_iff 57 c
  have e1 : ((48 : UInt8).toNat : Int) = 48 := rfl
  have e2 : ((57 : UInt8).toNat : Int) = 57 := rfl
  rw [e1] at h1; rw [e2] at h2
  by_cases a1 : (c.toNat : Int) ≥ 48 <;> by_cases a2 : (c.toNat : Int) ≤ 57 <;> simp [h1, h2, a1, a2]
theorem figB_ge (c : UInt8) : figB c = true ↔ (c.toNat : Int) ≥ 48 ∧ (c.toNat : Int) ≤ 57 := by
  unfold figB
  have h1 := ge_iff c 48
  have h2 := ge_iff 57 c
  have e1 : ((48 : UInt8).toNat : Int) = 48 := rfl
  have e2 : ((57 : UInt8).toNat : Int) = 57 := rfl
  rw [e1] at h1; rw [e2] at h2
  rw [Bool.and_eq_true, decide_eq_true_iff, decide_eq_true_iff, h1, h2]

theorem take_len_drop (p : UInt8 → Bool) : ∀ l : List UInt8, l.drop (l.takeWhile p).length = l.dropWhile p ∧ l.take (l.takeWhile p).length = l.takeWhile p
  | [] => ⟨rfl, rfl⟩
  | c :: l => by
    obtain ⟨h1, h2⟩ := take_len_drop p l
    rw [List.takeWhile_cons, List.dropWhile_cons]
    split
    · exact ⟨h1, by rw [List.length_cons, List.take_succ_cons, h2]⟩
    · exact ⟨rfl, rfl⟩
theorem takeWhile_le (p : UInt8 → Bool) (l : List UInt8) : (l.takeWhile p).length ≤ l.length := by
  have := congrArg List.length (List.takeWhile_append_dropWhile (p := p) (l := l))
  rw [List.length_append] at this; omega

theorem index_quote : ∀ l : List UInt8, (toQuote l = none → Lib.indexByte l 34 = -1) ∧ (∀ p, toQuote l = some p → Lib.indexByte l 34 = (p.1.length : Int))
  | [] => ⟨fun _ => rfl, fun p h => by simp [toQuote] at h⟩
  | c :: l => by
    obtain ⟨h1, h2⟩ := index_quote l
    unfold toQuote Lib.indexByte
    by_cases hc : c = 34
    · rw [if_pos hc, if_pos (by simpa using hc)]
      exact ⟨(fun h => by cases h), (fun p h => by obtain rfl := Option.some.inj h; rfl)⟩
    · rw [if_neg hc, if_neg (by simpa using hc)]
      cases hq : toQuote l with
      | none => rw [h1 hq]; exact ⟨fun _ => rfl, (fun p h => by cases h)⟩
      | some q =>
        rw [h2 q hq]
        refine ⟨(fun h => by cases h), (fun p h => ?_)⟩
        obtain rfl := Option.some.inj h
        rw [if_neg (by have : (0 : Int) ≤ (q.1.length : Int) := by omega
                       intro h; rw [beq_iff_eq] at h; omega)]
        simp

theorem index_mem (c : UInt8) : ∀ l : List UInt8, (l.contains c = true → 0 ≤ Lib.indexByte l c) ∧ (¬ l.contains c = true → Lib.indexByte l c = -1)
  | [] => ⟨fun h => by simp at h, fun _ => rfl⟩
  | b :: l => by
    obtain ⟨h1, h2⟩ := index_mem c l
    unfold Lib.indexByte
    by_cases hb : b = c
    · subst hb
      rw [if_pos (by simp)]
      exact ⟨fun _ => Int.le_refl _, fun h => absurd (by simp) h⟩
    · rw [if_neg (by simpa using hb)]
      have e : (b :: l).contains c = l.contains c := by
        rw [List.contains_cons]
        have : (c == b) = false := by simpa using fun h => hb h.symm
        rw [this, Bool.false_or]
      rw [e]
      constructor
      · intro h
        have := h1 h
        rw [if_neg (by intro h; rw [beq_iff_eq] at h; omega)]
        omega
      · intro h
        rw [h2 h]; rfl

/-- what Words hands back, of what was collected and the words that are left -/
def resW (acc : List ByteArray) : Option (List (List UInt8)) → List ByteArray × Bool
  | some x => (acc ++ x.map ofL, true)
  | none => ([], false)
theorem resW_word (acc : List ByteArray) (w : List UInt8) (o : Option (List (List UInt8))) : resW acc (o.map (w :: ·)) = resW (acc ++ [ofL w]) o := by
  cases o with
  | none => rfl
  | some x => simp [resW]

theorem note_end (s : ByteArray) (hs : s.size < 8796093022208) (acc : List ByteArray) (r : List ByteArray × Bool) : ∀ (d i : Nat), s.size - i = d → i ≤ s.size →
    Ev (fun k => impl_Words.l0 k s acc ((i + (((bl s).drop i).takeWhile (· != 10)).length : Nat) : Int)) r → Ev (fun k => impl_Words.l1 k s acc (i : Int)) r := by
  intro d
  induction d with
  | zero =>
    intro i hd hi H
    refine ev_step (fun k => impl_Words.l1.eq_2 _ _ _ k) ?_
    refine ev_neg (by omega) ?_
    rw [bl_drop_end s i (by omega)] at H
    exact H
  | succ d ih =>
    intro i hd hi H
    have hlt : i < s.size := by omega
    refine ev_step (fun k => impl_Words.l1.eq_2 _ _ _ k) ?_
    refine ev_pos (by omega) (ev_pos (by omega) ?_)
    rw [bt_nat s i hlt]
    rw [bl_drop s i hlt, List.takeWhile_cons] at H
    by_cases hc : s[i] = 10
    · refine ev_pos ((is10 _).2 hc) ?_
      rw [if_neg (by simp [hc])] at H
      exact H
    · refine ev_neg (fun h => hc ((is10 _).1 h)) ?_
      rw [if_pos (by simpa using hc)] at H
      rw [w64 (by omega) (by omega)]
      have := ih (i + 1) (by omega) (by omega)
      rw [List.length_cons, show i + ((((bl s).drop (i + 1)).takeWhile (· != 10)).length + 1) = i + 1 + (((bl s).drop (i + 1)).takeWhile (· != 10)).length by omega] at H
      exact this H

theorem word_end (s : ByteArray) (hs : s.size < 8796093022208) (acc : List ByteArray) (ha : acc.length < 8796093022208) (f : Nat) (r : List ByteArray × Bool) : ∀ (d i : Nat), s.size - i = d → f ≤ i → i ≤ s.size →
    Ev (fun k => impl_Words.l0 k s (acc ++ [s.extract f (i + (((bl s).drop i).takeWhile wordB).length)]) ((i + (((bl s).drop i).takeWhile wordB).length : Nat) : Int)) r → Ev (fun k => impl_Words.l2 k s acc (i : Int) (f : Int)) r := by
  intro d
  induction d with
  | zero =>
    intro i hd hf hi H
    refine ev_step (fun k => impl_Words.l2.eq_2 _ _ _ _ k) ?_
    refine ev_neg (by omega) (ev_pos (by omega) (ev_pos (by omega) (ev_pos (by omega) (ev_pos ha ?_))))
    rw [bl_drop_end s i (by omega)] at H
    exact H
  | succ d ih =>
    intro i hd hf hi H
    have hlt : i < s.size := by omega
    refine ev_step (fun k => impl_Words.l2.eq_2 _ _ _ _ k) ?_
    refine ev_pos (by omega) (ev_pos (by omega) ?_)
    rw [bt_nat s i hlt]
    rw [bl_drop s i hlt, List.takeWhile_cons] at H
    refine ev_bindc (letB_of _) ?_
    have go : wordB s[i] = true → Ev (fun k => impl_Words.l2 k s acc (wrap64 ((i : Int) + 1)) (f : Int)) r := by
      intro hw
      rw [if_pos hw] at H
      rw [w64 (by omega) (by omega)]
      have := ih (i + 1) (by omega) (by omega) (by omega)
      rw [List.length_cons, show i + ((((bl s).drop (i + 1)).takeWhile wordB).length + 1) = i + 1 + (((bl s).drop (i + 1)).takeWhile wordB).length by omega] at H
      exact this H
    by_cases hl : letB s[i] = true
    · exact ev_pos hl (go (by unfold wordB; rw [hl]; rfl))
    · refine ev_neg hl (ev_bindc (figB_of _) ?_)
      by_cases hg : figB s[i] = true
      · exact ev_pos hg (go (by unfold wordB; rw [hg, Bool.or_true]))
      · refine ev_neg hg (ev_pos (by omega) (ev_pos (by omega) (ev_pos (by omega) (ev_pos ha ?_))))
        rw [if_neg (by unfold wordB; rw [Bool.or_eq_true]; exact fun h => h.elim hl hg)] at H
        exact H

theorem drop_drop_nat (l : List UInt8) (a b : Nat) : (l.drop a).drop b = l.drop (a + b) := by rw [List.drop_drop]

/-- a piece of a text, from where the bytes that are left begin -/
theorem piece (s : ByteArray) (i n : Nat) (w : List UInt8) (h : ((bl s).drop i).take n = w) : s.extract i (i + n) = ofL w := by
  apply bl_inj
  rw [bl_extract, bl_ofL, ← h, List.take_drop]

theorem hasPrefix_of (a b : ByteArray) : strings_HasPrefix.f a b = some (decide ((bl a).take (bl b).length = bl b)) := by
  unfold strings_HasPrefix.f stringslite_HasPrefix.f
  by_cases h : (a.size : Int) ≥ (b.size : Int)
  · rw [if_pos h, if_pos (by omega), if_pos (by omega)]
    simp only [Option.bind_some, Option.some.injEq]
    rw [bl_toList, bl_toList, bl_extract, List.drop_zero, Int.toNat_natCast, bl_length]
    rw [Bool.eq_iff_iff, beq_iff_eq, decide_eq_true_iff]
  · rw [if_neg h]
    simp only [Option.bind_some, Option.some.injEq]
    symm
    rw [decide_eq_false_iff_not]
    intro e
    have := congrArg List.length e
    rw [List.length_take, bl_length, bl_length] at this
    omega
theorem indexByte_of (a : ByteArray) (c : UInt8) : strings_IndexByte.f a (c.toNat : Int) = some (Lib.indexByte (bl a) c) := by
  unfold strings_IndexByte.f stringslite_IndexByte.f
  simp only [Option.bind_some, Option.some.injEq]
  rw [Int.toNat_natCast]
  congr 1
  exact UInt8.ofNat_toNat
theorem two_head (c : UInt8) (l : List UInt8) : ((c :: l).take 2 = [61, 61]) ↔ (c = 61 ∧ l.head? = some 61) := by
  cases l with
  | nil => simp
  | cons d l => simp

theorem quote_nums (i n m z : Nat) (h : i < z) (q : n + (m + 1) = z - (i + 1)) (hz : z < 8796093022208) : i + (n + 2) ≤ z ∧ wrap64 ((n : Int) + 2) = (n : Int) + 2 ∧
    wrap64 ((i : Int) + ((n : Int) + 2)) = ((i + (n + 2) : Nat) : Int) ∧ (i : Int) ≤ ((i + (n + 2) : Nat) : Int) ∧ ¬ (n : Int) < 0 := by
  refine ⟨by omega, w64 (by omega) (by omega), ?_, by omega, by omega⟩
  rw [w64 (by omega) (by omega)]
  omega
theorem quote_take (a b : List UInt8) : (34 :: (a ++ 34 :: b)).take (a.length + 2) = 34 :: (a ++ [34]) := by
  rw [List.take_succ_cons, List.take_append, List.take_of_length_le (by omega), show a.length + 1 - a.length = 1 by omega]
  rfl
theorem quote_drop (a b : List UInt8) : (a ++ 34 :: b).drop (a.length + 1) = b := by
  rw [List.drop_append, List.drop_of_length_le (by omega), show a.length + 1 - a.length = 1 by omega]
  rfl

theorem impl_words (s : ByteArray) (hs : s.size < 8796093022208) : ∀ (n i : Nat), s.size - i ≤ n → i ≤ s.size → ∀ acc : List ByteArray, acc.length ≤ i →
    Ev (fun k => impl_Words.l0 k s acc (i : Int)) (resW acc (tok ((bl s).drop i))) := by
  intro n
  induction n with
  | zero =>
    intro i hd hi acc ha
    refine ev_step (fun k => impl_Words.l0.eq_2 _ _ _ k) ?_
    rw [bl_drop_end s i (by omega), tok_nil]
    refine ev_neg (by omega) (ev_some ?_)
    simp [resW]
  | succ n ih =>
    intro i hd hi acc ha
    by_cases hlt : i < s.size
    · have ha' : acc.length < 8796093022208 := by omega
      rw [bl_drop s i hlt, tok_cons]
      have hlen : ((bl s).drop (i + 1)).length = s.size - (i + 1) := by rw [List.length_drop, bl_length]
      have ew : wrap64 ((i : Int) + 1) = ((i + 1 : Nat) : Int) := by rw [w64 (by omega) (by omega)]; omega
      have ew2 : wrap64 ((i : Int) + 2) = ((i + 2 : Nat) : Int) := by rw [w64 (by omega) (by omega)]; omega
      have hd1 : (bl s).drop i = s[i] :: (bl s).drop (i + 1) := bl_drop s i hlt
      generalize hc : s[i] = c at hd1 ⊢
      generalize hl : (bl s).drop (i + 1) = l at hd1 hlen ⊢
      have hbt : bt s (i : Int) = (c.toNat : Int) := by rw [bt_nat s i hlt, hc]
      refine ev_step (fun k => impl_Words.l0.eq_2 _ _ _ k) ?_
      refine ev_pos (by omega) (ev_pos (by omega) ?_)
      rw [hbt]
      have blank : blankB c = true → Ev (fun k => impl_Words.j1 k s acc (i : Int) (i : Int) (c.toNat : Int) true) (resW acc (tok l)) := by
        intro _
        refine ev_step (fun k => impl_Words.j1.eq_2 _ _ _ _ _ _ k) ?_
        refine ev_pos rfl ?_
        rw [ew, ← hl]
        exact ih (i + 1) (by omega) (by omega) acc (by omega)
      by_cases c1 : blankB c = true
      · rw [step_blank c1]
        by_cases k1 : c = 32
        · exact ev_pos ((is32 c).2 k1) (blank c1)
        · refine ev_neg (fun h => k1 ((is32 c).1 h)) ?_
          by_cases k2 : c = 9
          · exact ev_pos ((is9 c).2 k2) (blank c1)
          · refine ev_neg (fun h => k2 ((is9 c).1 h)) ?_
            have k3 : c = 10 := by
              unfold blankB at c1
              simp only [Bool.or_eq_true, beq_iff_eq] at c1
              rcases c1 with (h | h) | h
              · exact absurd h k1
              · exact absurd h k2
              · exact h
            rw [show (((c.toNat : Int)) == 10) = true from beq_iff_eq.2 ((is10 c).2 k3)]
            exact blank c1
      · have hn : ¬ c = 32 ∧ ¬ c = 9 ∧ ¬ c = 10 := by
          unfold blankB at c1
          simp only [Bool.or_eq_true, beq_iff_eq] at c1
          exact ⟨fun h => c1 (.inl (.inl h)), fun h => c1 (.inl (.inr h)), fun h => c1 (.inr h)⟩
        refine ev_neg (fun h => hn.1 ((is32 c).1 h)) (ev_neg (fun h => hn.2.1 ((is9 c).1 h)) ?_)
        rw [show (((c.toNat : Int)) == 10) = false from beq_eq_false_iff_ne.2 (fun h => hn.2.2 ((is10 c).1 h))]
        refine ev_step (fun k => impl_Words.j1.eq_2 _ _ _ _ _ _ k) ?_
        refine ev_neg (by decide) ?_
        by_cases c2 : c = 35
        · refine ev_pos ((is35 c).2 c2) ?_
          rw [step_note c1 c2]
          refine note_end s hs acc _ (s.size - i) i rfl hi ?_
          rw [hd1, List.takeWhile_cons, if_pos (by rw [c2]; decide), List.length_cons]
          simp only
          have t1 := take_len_drop (· != 10) l
          have t2 := takeWhile_le (· != 10) l
          rw [← t1.1, ← hl, drop_drop_nat]
          rw [hl, show i + ((l.takeWhile (· != 10)).length + 1) = i + 1 + (l.takeWhile (· != 10)).length by omega]
          exact ih _ (by omega) (by omega) acc (by omega)
        · refine ev_neg (fun h => c2 ((is35 c).1 h)) ?_
          refine ev_bindc (letB_of c) ?_
          have word : wordB c = true → Ev (fun k => impl_Words.j3 k s acc (i : Int) (i : Int) (c.toNat : Int) true) (resW acc ((tok (l.dropWhile wordB)).map ((c :: l.takeWhile wordB) :: ·))) := by
            intro hw
            refine ev_step (fun k => impl_Words.j3.eq_2 _ _ _ _ _ _ k) ?_
            refine ev_pos rfl ?_
            refine word_end s hs acc ha' i _ (s.size - i) i rfl (Nat.le_refl _) hi ?_
            rw [hd1, List.takeWhile_cons, if_pos hw, List.length_cons, resW_word]
            have t1 := take_len_drop wordB l
            have t2 := takeWhile_le wordB l
            rw [piece s i ((l.takeWhile wordB).length + 1) (c :: l.takeWhile wordB) (by rw [hd1, List.take_succ_cons, t1.2])]
            rw [← t1.1, ← hl, drop_drop_nat]
            rw [hl, show i + ((l.takeWhile wordB).length + 1) = i + 1 + (l.takeWhile wordB).length by omega]
            exact ih _ (by omega) (by omega) _ (by rw [List.length_append, List.length_singleton]; omega)
          by_cases c3 : wordB c = true
          · rw [step_word c1 c2 c3]
            by_cases hlt' : letB c = true
            · exact ev_pos hlt' (word c3)
            · refine ev_neg hlt' (ev_bindc (figB_of c) ?_)
              have hg : figB c = true := by
                unfold wordB at c3
                rw [Bool.or_eq_true] at c3
                exact c3.resolve_left hlt'
              rw [hg]
              exact word c3
          · have hl1 : ¬ letB c = true := fun h => c3 (by unfold wordB; rw [h]; rfl)
            have hg1 : figB c = false := by
              cases hg : figB c with
              | false => rfl
              | true => exact absurd (by unfold wordB; rw [hg, Bool.or_true]) c3
            refine ev_neg hl1 (ev_bindc (figB_of c) ?_)
            rw [hg1]
            refine ev_step (fun k => impl_Words.j3.eq_2 _ _ _ _ _ _ k) ?_
            refine ev_neg (by decide) ?_
            by_cases c4 : c = 34
            · refine ev_pos ((is34 c).2 c4) ?_
              rw [step_quote c1 c2 c3 c4, ew]
              refine ev_pos (by omega) (ev_pos (by omega) ?_)
              rw [Int.toNat_natCast]
              refine ev_bindc (indexByte_of _ 34) ?_
              rw [bl_extract_end, hl]
              cases hq : toQuote l with
              | none =>
                rw [(index_quote l).1 hq]
                exact ev_pos (by decide) (ev_some rfl)
              | some p =>
                rw [(index_quote l).2 p hq]
                obtain ⟨p1, p2⟩ := p
                obtain ⟨_, q2⟩ := toQuote_le l (p1, p2) hq
                simp only at q2
                have q3 : p1.length + (p2.length + 1) = s.size - (i + 1) := by rw [← hlen, q2, List.length_append, List.length_cons]
                obtain ⟨m1, m2, m3, m4, m5⟩ := quote_nums i p1.length p2.length s.size hlt q3 hs
                simp only
                refine ev_neg m5 ?_
                rw [m2, m3]
                clear m2 m3 ew ew2
                refine ev_pos (Int.natCast_nonneg _) (ev_pos m4 (ev_pos (Int.ofNat_le.2 m1) (ev_pos ha' ?_)))
                have m6 : ((i : Int)).toNat = i := Int.toNat_natCast i
                have m7 : (((i + (p1.length + 2) : Nat) : Int)).toNat = i + (p1.length + 2) := Int.toNat_natCast _
                rw [m6, m7, resW_word]
                rw [piece s i (p1.length + 2) (34 :: (p1 ++ [34])) (by rw [hd1, c4, q2]; exact quote_take p1 p2)]
                have e3 : p2 = (bl s).drop (i + (p1.length + 2)) := by
                  rw [show i + (p1.length + 2) = i + 1 + (p1.length + 1) by omega, ← drop_drop_nat, hl, q2]
                  exact (quote_drop p1 p2).symm
                rw [e3]
                exact ih _ (by omega) m1 _ (by rw [List.length_append, List.length_singleton]; omega)
            · refine ev_neg (fun h => c4 ((is34 c).1 h)) (ev_pos (by omega) (ev_pos (by omega) ?_))
              rw [Int.toNat_natCast]
              refine ev_bindc (hasPrefix_of _ _) ?_
              rw [bl_extract_end, hd1]
              have eb : bl (⟨#[61, 61]⟩ : ByteArray) = [61, 61] := rfl
              rw [eb, show ([61, 61] : List UInt8).length = 2 from rfl]
              by_cases c5 : c = 61 ∧ l.head? = some 61
              · rw [step_same c1 c2 c3 c4 c5]
                refine ev_pos (decide_eq_true ((two_head c l).2 c5)) ?_
                have h2 : i + 2 ≤ s.size := by
                  cases l with
                  | nil => simp at c5
                  | cons d l => simp only [List.length_cons] at hlen; omega
                rw [ew2]
                refine ev_pos (by omega) (ev_pos (by omega) (ev_pos (by omega) (ev_pos ha' ?_)))
                have m7 : (((i + 2 : Nat) : Int)).toNat = i + 2 := Int.toNat_natCast _
                rw [m7]
                rw [piece s i 2 [61, 61] (by rw [hd1]; exact (two_head c l).2 c5)]
                simp only
                rw [resW_word]
                have e3 : l.tail = (bl s).drop (i + 2) := by
                  rw [show i + 2 = i + 1 + 1 by omega, ← drop_drop_nat, hl, List.drop_one]
                rw [e3]
                exact ih _ (by omega) (by omega) _ (by rw [List.length_append, List.length_singleton]; omega)
              · refine ev_neg (fun h => c5 ((two_head c l).1 (of_decide_eq_true h))) ?_
                refine ev_bindc (indexByte_of _ c) ?_
                have es : bl (⟨#[43, 45, 42, 60, 61, 40, 41, 123, 125, 59]⟩ : ByteArray) = signL := rfl
                rw [es]
                by_cases c6 : signL.contains c = true
                · rw [step_sign c1 c2 c3 c4 c5 c6]
                  refine ev_pos ((index_mem c signL).1 c6) ?_
                  rw [ew]
                  refine ev_pos (by omega) (ev_pos (by omega) (ev_pos (by omega) (ev_pos ha' ?_)))
                  have m7 : (((i + 1 : Nat) : Int)).toNat = i + 1 := Int.toNat_natCast _
                  rw [m7]
                  rw [piece s i 1 [c] (by rw [hd1]; rfl)]
                  rw [resW_word, ← hl]
                  exact ih _ (by omega) (by omega) _ (by rw [List.length_append, List.length_singleton]; omega)
                · rw [step_bad c1 c2 c3 c4 c5 c6]
                  refine ev_neg (by rw [(index_mem c signL).2 c6]; decide) (ev_some rfl)
    · refine ev_step (fun k => impl_Words.l0.eq_2 _ _ _ k) ?_
      rw [bl_drop_end s i (by omega), tok_nil]
      refine ev_neg (by omega) (ev_some ?_)
      simp [resW]

theorem impl_words_f (s : ByteArray) (hs : s.size < 8796093022208) : Ev (fun k => impl_Words.f k s) (resW [] (tok (bl s))) :=
  impl_words s hs s.size 0 (by omega) (by omega) [] (by simp)
end Go.Proofs.Ytdhiomoomobhfaa.M
