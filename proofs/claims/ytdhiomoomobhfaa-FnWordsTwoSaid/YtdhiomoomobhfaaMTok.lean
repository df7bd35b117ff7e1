/- The words of a text as a plain function of its bytes, and what holds of it: a line end, or a blank behind each word, keeps the words. No condition. -/
namespace Go.Proofs.Ytdhiomoomobhfaa.M

/-- letters and figures -/
def letB (c : UInt8) : Bool := (97 ≤ c && c ≤ 122) || (65 ≤ c && c ≤ 90)
def figB (c : UInt8) : Bool := 48 ≤ c && c ≤ 57
def wordB (c : UInt8) : Bool := letB c || figB c
def blankB (c : UInt8) : Bool := c == 32 || c == 9 || c == 10
def signL : List UInt8 := [43, 45, 42, 60, 61, 40, 41, 123, 125, 59]

/-- one step: skip so many bytes (`none`), a word and what is behind it, or no word -/
inductive Tok where
  | skip (rest : List UInt8)
  | word (w rest : List UInt8)
  | bad

/-- up to the next quote: what is before it, and what is behind it -/
def toQuote : List UInt8 → Option (List UInt8 × List UInt8)
  | [] => none
  | c :: l => if c = 34 then some ([], l) else (toQuote l).map fun p => (c :: p.1, p.2)

def step (c : UInt8) (l : List UInt8) : Tok :=
  if blankB c then .skip l
  else if c = 35 then .skip (l.dropWhile (· != 10))
  else if wordB c then .word (c :: l.takeWhile wordB) (l.dropWhile wordB)
  else if c = 34 then match toQuote l with
    | none => .bad
    | some p => .word (34 :: (p.1 ++ [34])) p.2
  else if c = 61 ∧ l.head? = some 61 then .word [61, 61] l.tail
  else if signL.contains c then .word [c] l
  else .bad

theorem dropWhile_le (p : UInt8 → Bool) : ∀ l : List UInt8, (l.dropWhile p).length ≤ l.length
  | [] => Nat.le_refl _
  | c :: l => by
    rw [List.dropWhile_cons]
    split
    · have := dropWhile_le p l; simp; omega
    · exact Nat.le_refl _

theorem toQuote_le : ∀ (l : List UInt8) p, toQuote l = some p → p.2.length < l.length ∧ l = p.1 ++ 34 :: p.2
  | [], p, h => by simp [toQuote] at h
  | c :: l, p, h => by
    unfold toQuote at h
    split at h
    · rename_i hc
      obtain rfl := Option.some.inj h
      subst hc
      exact ⟨by simp, rfl⟩
    · cases hq : toQuote l with
      | none => rw [hq] at h; cases h
      | some q =>
        rw [hq] at h
        obtain rfl := Option.some.inj h
        obtain ⟨h1, h2⟩ := toQuote_le l q hq
        refine ⟨by simp; omega, ?_⟩
        show c :: l = c :: (q.1 ++ 34 :: q.2)
        rw [← h2]

def Tok.rest : Tok → List UInt8
  | .skip r => r
  | .word _ r => r
  | .bad => []

theorem step_le (c : UInt8) (l : List UInt8) : (step c l).rest.length ≤ l.length := by
  unfold step
  split
  · exact Nat.le_refl _
  · split
    · exact dropWhile_le _ _
    · split
      · exact dropWhile_le _ _
      · split
        · split
          · exact Nat.zero_le _
          · rename_i p hp; have := (toQuote_le l p hp).1; simp only [Tok.rest]; omega
        · split
          · simp only [Tok.rest, List.length_tail]; omega
          · split
            · exact Nat.le_refl _
            · exact Nat.zero_le _

/-- the words, by fuel -/
def tokF : Nat → List UInt8 → Option (List (List UInt8))
  | _, [] => some []
  | 0, _ :: _ => none
  | n + 1, c :: l => match step c l with
    | .skip r => tokF n r
    | .word w r => (tokF n r).map (w :: ·)
    | .bad => none

theorem tokF_enough : ∀ (n m : Nat) (l : List UInt8), l.length ≤ n → l.length ≤ m → tokF n l = tokF m l
  | _, _, [], _, _ => by simp [tokF]
  | 0, _, _ :: _, h, _ => by simp at h
  | _, 0, _ :: _, _, h => by simp at h
  | n + 1, m + 1, c :: l, h1, h2 => by
    have hs := step_le c l
    have a1 : l.length ≤ n := by simpa using h1
    have a2 : l.length ≤ m := by simpa using h2
    unfold tokF
    cases hst : step c l with
    | skip r => rw [hst] at hs; exact tokF_enough n m r (Nat.le_trans hs a1) (Nat.le_trans hs a2)
    | word w r => rw [hst] at hs; simp only; rw [tokF_enough n m r (Nat.le_trans hs a1) (Nat.le_trans hs a2)]
    | bad => rfl

def tok (l : List UInt8) : Option (List (List UInt8)) := tokF l.length l
theorem tok_nil : tok [] = some [] := rfl
theorem tok_cons (c : UInt8) (l : List UInt8) : tok (c :: l) = match step c l with
    | .skip r => tok r
    | .word w r => (tok r).map (w :: ·)
    | .bad => none := by
  have hs := step_le c l
  show tokF (l.length + 1) (c :: l) = _
  rw [tokF]
  cases hst : step c l with
  | skip r => rw [hst] at hs; exact tokF_enough _ _ r hs (Nat.le_refl _)
  | word w r => rw [hst] at hs; simp only; rw [tokF_enough _ _ r hs (Nat.le_refl _)]; rfl
  | bad => rfl

/-! a line end between two texts -/
theorem drop_app (p : UInt8 → Bool) (x : UInt8) (hx : p x = false) (b : List UInt8) : ∀ l : List UInt8, (l ++ x :: b).dropWhile p = l.dropWhile p ++ x :: b
  | [] => by simp [hx]
  | c :: l => by
    rw [List.cons_append, List.dropWhile_cons, List.dropWhile_cons]
    split
    · exact drop_app p x hx b l
    · rfl
theorem take_app (p : UInt8 → Bool) (x : UInt8) (hx : p x = false) (b : List UInt8) : ∀ l : List UInt8, (l ++ x :: b).takeWhile p = l.takeWhile p
  | [] => by simp [hx]
  | c :: l => by
    rw [List.cons_append, List.takeWhile_cons, List.takeWhile_cons]
    split
    · rw [take_app p x hx b l]
    · rfl
theorem toQuote_app (t : List UInt8) : ∀ (l : List UInt8) p, toQuote l = some p → toQuote (l ++ t) = some (p.1, p.2 ++ t)
  | [], p, h => by simp [toQuote] at h
  | c :: l, p, h => by
    rw [List.cons_append]
    unfold toQuote at h ⊢
    split at h
    · rename_i hc
      obtain rfl := Option.some.inj h
      rw [if_pos hc]
    · rename_i hc
      rw [if_neg hc]
      cases hq : toQuote l with
      | none => rw [hq] at h; cases h
      | some q =>
        rw [hq] at h
        obtain rfl := Option.some.inj h
        rw [toQuote_app t l q hq]; rfl

/-! the step, case by case -/
section
variable {c : UInt8} {l : List UInt8}
theorem step_blank (h1 : blankB c = true) : step c l = .skip l := by unfold step; rw [if_pos h1]
theorem step_note (h1 : ¬ blankB c = true) (h2 : c = 35) : step c l = .skip (l.dropWhile (· != 10)) := by unfold step; rw [if_neg h1, if_pos h2]
theorem step_word (h1 : ¬ blankB c = true) (h2 : ¬ c = 35) (h3 : wordB c = true) : step c l = .word (c :: l.takeWhile wordB) (l.dropWhile wordB) := by
  unfold step; rw [if_neg h1, if_neg h2, if_pos h3]
theorem step_quote (h1 : ¬ blankB c = true) (h2 : ¬ c = 35) (h3 : ¬ wordB c = true) (h4 : c = 34) : step c l = match toQuote l with
    | none => .bad
    | some p => .word (34 :: (p.1 ++ [34])) p.2 := by
  unfold step; rw [if_neg h1, if_neg h2, if_neg h3, if_pos h4]
theorem step_same (h1 : ¬ blankB c = true) (h2 : ¬ c = 35) (h3 : ¬ wordB c = true) (h4 : ¬ c = 34) (h5 : c = 61 ∧ l.head? = some 61) : step c l = .word [61, 61] l.tail := by
  unfold step; rw [if_neg h1, if_neg h2, if_neg h3, if_neg h4, if_pos h5]
theorem step_sign (h1 : ¬ blankB c = true) (h2 : ¬ c = 35) (h3 : ¬ wordB c = true) (h4 : ¬ c = 34) (h5 : ¬ (c = 61 ∧ l.head? = some 61)) (h6 : signL.contains c = true) : step c l = .word [c] l := by
  unfold step; rw [if_neg h1, if_neg h2, if_neg h3, if_neg h4, if_neg h5, if_pos h6]
theorem step_bad (h1 : ¬ blankB c = true) (h2 : ¬ c = 35) (h3 : ¬ wordB c = true) (h4 : ¬ c = 34) (h5 : ¬ (c = 61 ∧ l.head? = some 61)) (h6 : ¬ signL.contains c = true) : step c l = .bad := by
  unfold step; rw [if_neg h1, if_neg h2, if_neg h3, if_neg h4, if_neg h5, if_neg h6]
end

/-- a step that is no bad one, before a byte that no word holds and that does not open one -/
theorem step_app (x : UInt8) (h1 : wordB x = false) (h2 : x ≠ 61) (b : List UInt8) (c : UInt8) (l : List UInt8) (hn : c = 35 → x = 10) :
    match step c l with
    | .skip r => step c (l ++ x :: b) = .skip (r ++ x :: b)
    | .word w r => step c (l ++ x :: b) = .word w (r ++ x :: b)
    | .bad => True := by
  by_cases c1 : blankB c = true
  · rw [step_blank c1, step_blank c1]
  · by_cases c2 : c = 35
    · have hx := hn c2
      rw [step_note c1 c2, step_note c1 c2]
      simp only
      rw [hx, drop_app (fun y : UInt8 => y != 10) 10 (by decide) b l]
    · by_cases c3 : wordB c = true
      · rw [step_word c1 c2 c3, step_word c1 c2 c3, drop_app _ x h1 b l, take_app _ x h1 b l]
      · by_cases c4 : c = 34
        · rw [step_quote c1 c2 c3 c4, step_quote c1 c2 c3 c4]
          cases hq : toQuote l with
          | none => trivial
          | some p => rw [toQuote_app (x :: b) l p hq]
        · by_cases c5 : c = 61 ∧ l.head? = some 61
          · have this : (l ++ x :: b).head? = some 61 ∧ (l ++ x :: b).tail = l.tail ++ x :: b := by
              cases l with
              | nil => simp at c5
              | cons y l => exact ⟨c5.2, rfl⟩
            rw [step_same c1 c2 c3 c4 c5, step_same c1 c2 c3 c4 ⟨c5.1, this.1⟩, this.2]
          · have g : ¬ (c = 61 ∧ (l ++ x :: b).head? = some 61) := by
              rintro ⟨k1, k2⟩
              cases l with
              | nil => simp at k2; exact h2 k2
              | cons y l => exact c5 ⟨k1, k2⟩
            by_cases c6 : signL.contains c = true
            · rw [step_sign c1 c2 c3 c4 c5 c6, step_sign c1 c2 c3 c4 g c6]
            · rw [step_bad c1 c2 c3 c4 c5 c6]; trivial

theorem tok_line (b : List UInt8) : ∀ (n : Nat) (a : List UInt8), a.length ≤ n → ∀ x, tok a = some x → tok (a ++ 10 :: b) = (tok b).map (x ++ ·)
  | n, [], _, x, h => by
    rw [tok_nil] at h
    obtain rfl := Option.some.inj h
    rw [List.nil_append, tok_cons]
    show tok b = _
    cases tok b <;> rfl
  | 0, _ :: _, hl, _, _ => by simp at hl
  | n + 1, c :: l, hl, x, h => by
    have hs := step_le c l
    have hl' : l.length ≤ n := by simpa using hl
    have key := step_app 10 (by decide) (by decide) b c l (fun _ => rfl)
    rw [List.cons_append, tok_cons]
    rw [tok_cons] at h
    cases hst : step c l with
    | skip r =>
      rw [hst] at h key hs
      simp only at h key
      rw [key]
      exact tok_line b n r (Nat.le_trans hs hl') x h
    | word w r =>
      rw [hst] at h key hs
      simp only at h key
      rw [key]
      simp only
      cases hr : tok r with
      | none => rw [hr] at h; cases h
      | some y =>
        rw [hr] at h
        obtain rfl := Option.some.inj h
        rw [tok_line b n r (Nat.le_trans hs hl') y hr]
        cases tok b <;> rfl
    | bad => rw [hst] at h; cases h

/-! a blank behind a word -/
/-- what stands the same wherever a blank follows -/
def Fine (w : List UInt8) : Prop := ∀ b, tok (w ++ 32 :: b) = (tok b).map (w :: ·)

theorem tok_blank (b : List UInt8) : tok (32 :: b) = tok b := by rw [tok_cons]; rfl

theorem toQuote_mem : ∀ (l : List UInt8) p t, toQuote l = some p → toQuote (p.1 ++ 34 :: t) = some (p.1, t)
  | [], p, _, h => by simp [toQuote] at h
  | c :: l, p, t, h => by
    unfold toQuote at h
    split at h
    · obtain rfl := Option.some.inj h
      simp [toQuote]
    · rename_i hc
      cases hq : toQuote l with
      | none => rw [hq] at h; cases h
      | some q =>
        rw [hq] at h
        obtain rfl := Option.some.inj h
        show toQuote (c :: (q.1 ++ 34 :: t)) = _
        unfold toQuote
        rw [if_neg hc, toQuote_mem l q t hq]; rfl

theorem take_all (p : UInt8 → Bool) (l : List UInt8) : ∀ y ∈ l.takeWhile p, p y = true := by
  induction l with
  | nil => simp
  | cons c l ih =>
    rw [List.takeWhile_cons]
    split
    · rename_i hc
      intro y hy
      rcases List.mem_cons.1 hy with rfl | hy
      · exact hc
      · exact ih y hy
    · simp
theorem take_self (p : UInt8 → Bool) (x : UInt8) (hx : p x = false) (b : List UInt8) : ∀ l : List UInt8, (∀ y ∈ l, p y = true) → (l ++ x :: b).takeWhile p = l ∧ (l ++ x :: b).dropWhile p = x :: b
  | [], _ => by simp [hx]
  | c :: l, h => by
    have hc := h c (by simp)
    have := take_self p x hx b l (fun y hy => h y (by simp [hy]))
    rw [List.cons_append, List.takeWhile_cons, List.dropWhile_cons, if_pos hc, if_pos hc, this.1, this.2]
    exact ⟨rfl, rfl⟩

theorem fine_of_step (c : UInt8) (l w r : List UInt8) (h : step c l = .word w r) : Fine w := by
  intro b
  by_cases c1 : blankB c = true
  · rw [step_blank c1] at h; cases h
  · by_cases c2 : c = 35
    · rw [step_note c1 c2] at h; cases h
    · by_cases c3 : wordB c = true
      · rw [step_word c1 c2 c3] at h
        injection h with e1 e2
        subst e1
        have hs := take_self wordB 32 (by decide) b (l.takeWhile wordB) (take_all wordB l)
        rw [List.cons_append, tok_cons, step_word c1 c2 c3, hs.1, hs.2]
        simp only
        rw [tok_blank]
      · by_cases c4 : c = 34
        · rw [step_quote c1 c2 c3 c4] at h
          cases hq : toQuote l with
          | none => rw [hq] at h; cases h
          | some p =>
            rw [hq] at h
            injection h with e1 e2
            subst e1
            have e3 : toQuote ((p.1 ++ [34]) ++ 32 :: b) = some (p.1, 32 :: b) := by
              rw [List.append_assoc, show [34] ++ 32 :: b = 34 :: (32 :: b) from rfl, toQuote_mem l p (32 :: b) hq]
            rw [List.cons_append, tok_cons, step_quote (c := 34) (by decide) (by decide) (by decide) rfl, e3]
            simp only
            rw [tok_blank]
        · by_cases c5 : c = 61 ∧ l.head? = some 61
          · rw [step_same c1 c2 c3 c4 c5] at h
            injection h with e1 e2
            subst e1
            rw [List.cons_append, tok_cons, step_same (c := 61) (by decide) (by decide) (by decide) (by decide) ⟨rfl, rfl⟩]
            show (tok (32 :: b)).map _ = _
            rw [tok_blank]
          · by_cases c6 : signL.contains c = true
            · rw [step_sign c1 c2 c3 c4 c5 c6] at h
              injection h with e1 e2
              subst e1
              rw [List.cons_append, tok_cons, List.nil_append, step_sign c1 c2 c3 c4 (by rintro ⟨_, k⟩; revert k; simp) c6]
              simp only
              rw [tok_blank]
            · rw [step_bad c1 c2 c3 c4 c5 c6] at h; cases h

theorem fine_of_tok : ∀ (n : Nat) (a : List UInt8), a.length ≤ n → ∀ x, tok a = some x → ∀ w ∈ x, Fine w
  | _, [], _, x, h, w, hw => by
    rw [tok_nil] at h
    obtain rfl := Option.some.inj h
    simp at hw
  | 0, _ :: _, hl, _, _, _, _ => by simp at hl
  | n + 1, c :: l, hl, x, h, w, hw => by
    have hs := step_le c l
    have hl' : l.length ≤ n := by simpa using hl
    rw [tok_cons] at h
    cases hst : step c l with
    | skip r => rw [hst] at h hs; exact fine_of_tok n r (Nat.le_trans hs hl') x h w hw
    | word v r =>
      rw [hst] at h hs
      simp only at h
      cases hr : tok r with
      | none => rw [hr] at h; cases h
      | some y =>
        rw [hr] at h
        obtain rfl := Option.some.inj h
        rcases List.mem_cons.1 hw with rfl | hw
        · exact fine_of_step c l w r hst
        · exact fine_of_tok n r (Nat.le_trans hs hl') y hr w hw
    | bad => rw [hst] at h; cases h

def spaced : List (List UInt8) → List UInt8
  | [] => []
  | w :: x => w ++ 32 :: spaced x
theorem tok_spaced : ∀ x : List (List UInt8), (∀ w ∈ x, Fine w) → tok (spaced x) = some x
  | [], _ => rfl
  | w :: x, h => by
    show tok (w ++ 32 :: spaced x) = _
    rw [h w (by simp), tok_spaced x (fun v hv => h v (by simp [hv]))]
    rfl
/-- a word's length, and all words' together, with one byte between -/
theorem words_len : ∀ (n : Nat) (a : List UInt8), a.length ≤ n → ∀ x, tok a = some x → (spaced x).length ≤ 2 * a.length ∧ x.length ≤ a.length
  | _, [], _, x, h => by
    rw [tok_nil] at h
    obtain rfl := Option.some.inj h
    simp [spaced]
  | 0, _ :: _, hl, _, _ => by simp at hl
  | n + 1, c :: l, hl, x, h => by
    have hs := step_le c l
    have hl' : l.length ≤ n := by simpa using hl
    rw [tok_cons] at h
    cases hst : step c l with
    | skip r =>
      rw [hst] at h hs
      have := words_len n r (Nat.le_trans hs hl') x h
      simp only [Tok.rest] at hs
      simp only [List.length_cons]
      omega
    | word v r =>
      have hv : v.length + r.length = l.length + 1 := by
        unfold step at hst
        split at hst
        · cases hst
        · split at hst
          · cases hst
          · split at hst
            · injection hst with h1 h2
              subst h1 h2
              have := congrArg List.length (List.takeWhile_append_dropWhile (p := wordB) (l := l))
              rw [List.length_append] at this
              simp only [List.length_cons]
              omega
            · split at hst
              · split at hst
                · cases hst
                · rename_i p hp
                  injection hst with h1 h2
                  subst h1 h2
                  have := congrArg List.length (toQuote_le l p hp).2
                  simp only [List.length_append, List.length_cons] at this
                  simp only [List.length_append, List.length_cons, List.length_nil]
                  omega
              · split at hst
                · rename_i hc
                  injection hst with h1 h2
                  subst h1 h2
                  cases l with
                  | nil => simp at hc
                  | cons y l => simp; omega
                · split at hst
                  · injection hst with h1 h2
                    subst h1 h2
                    simp; omega
                  · cases hst
      rw [hst] at h hs
      simp only at h
      cases hr : tok r with
      | none => rw [hr] at h; cases h
      | some y =>
        rw [hr] at h
        obtain rfl := Option.some.inj h
        have := words_len n r (Nat.le_trans hs hl') y hr
        have hpos : 1 ≤ v.length := by simp only [Tok.rest] at hs; omega
        simp only [Tok.rest] at hs
        simp only [spaced, List.length_append, List.length_cons]
        omega
    | bad => rw [hst] at h; cases h
end Go.Proofs.Ytdhiomoomobhfaa.M
