/- The program's ValueGet and the reference's answer the same, and read back what was written. Condition: a text of at most 2^40 bytes. -/
import Derived.Test.YtccioimicdggkaaDoorMPut
import Derived.Test.YtccioimicdggkaaDoorP6
namespace Go.Proofs.YtccioimicdggkaaDoor.M
open Go.RowKit Go.Proofs.YtccioimicdggkaaDoorW.PrintWords Go.Proofs.YtccioimicdggkaaDoor.P

/-! the reference's number -/
def numGo : List UInt8 → Nat → Nat → Option Nat
  | [], acc, _ => some acc
  | c :: l, acc, i => if c.toNat < 48 ∨ c.toNat > 57 ∨ i ≥ 10 then none else numGo l (acc * 10 + (c.toNat - 48)) (i + 1)
def num (l : List UInt8) : Int := match numGo l 0 0 with
  | none => -1
  | some n => if l = [] ∨ (1 < l.length ∧ l.head? = some 48) then -1 else (n : Int)

theorem numGo_app : ∀ (l r : List UInt8) (acc i : Nat), numGo (l ++ r) acc i = (numGo l acc i).bind fun a => numGo r a (i + l.length)
  | [], r, acc, i => by simp [numGo]
  | c :: l, r, acc, i => by
    rw [List.cons_append, numGo, numGo]
    split
    · rfl
    · rw [numGo_app l r, List.length_cons, show i + 1 + l.length = i + (l.length + 1) by omega]
theorem numGo_lt : ∀ (l : List UInt8) (acc i n : Nat), i ≤ 10 → acc < 10 ^ i → numGo l acc i = some n → n < 10000000000
  | [], acc, i, n, hi, ha, h => by
    simp only [numGo, Option.some.injEq] at h
    subst h
    have : 10 ^ i ≤ 10 ^ 10 := Nat.pow_le_pow_right (by decide) hi
    have e : (10 : Nat) ^ 10 = 10000000000 := by decide
    omega
  | c :: l, acc, i, n, hi, ha, h => by
    rw [numGo] at h
    split at h
    · cases h
    · rename_i hc
      refine numGo_lt l _ (i + 1) n (by omega) ?_ h
      rw [Nat.pow_succ]
      omega
theorem num_bound (l : List UInt8) : -1 ≤ num l ∧ num l < 10000000000 := by
  unfold num
  cases h : numGo l 0 0 with
  | none => show (-1 : Int) ≤ -1 ∧ (-1 : Int) < 10000000000; decide
  | some n =>
    have := numGo_lt l 0 0 n (by omega) (by decide) h
    simp only
    split <;> omega

theorem dec_len : ∀ (m u : Nat), u < 10 ^ (m + 1) → (Lib.decDigits u).length ≤ m + 1
  | 0, u, h => by
    rw [Lib.decDigits, dif_pos (by omega)]; simp
  | m + 1, u, h => by
    rw [Lib.decDigits]
    split
    · simp
    · have := dec_len m (u / 10) (by rw [Nat.pow_succ] at h; omega)
      rw [List.length_append, List.length_singleton]; omega
theorem dec_ne (u : Nat) : Lib.decDigits u ≠ [] := by
  rw [Lib.decDigits]
  split <;> simp
theorem dig_toNat (d : Nat) (h : d < 10) : (UInt8.ofNat (48 + d)).toNat = 48 + d := by
  rw [UInt8.toNat_ofNat']; omega
theorem dec_head (u : Nat) : 1 ≤ u → (Lib.decDigits u).head? ≠ some 48 := by
  induction u using Nat.strongRecOn with
  | _ u ih =>
    intro hu
    rw [Lib.decDigits]
    split
    · rename_i h
      intro e
      simp only [List.head?_cons, Option.some.injEq] at e
      have := congrArg UInt8.toNat e
      rw [dig_toNat u h] at this
      have e48 : (48 : UInt8).toNat = 48 := rfl
      omega
    · have hh := ih (u / 10) (by omega) (by omega)
      cases hd : Lib.decDigits (u / 10) with
      | nil => exact absurd hd (dec_ne _)
      | cons c r => rw [hd] at hh; exact hh
/-- the first sign of a numeral -/
theorem dec_first (u : Nat) : ∃ c r, Lib.decDigits u = c :: r ∧ 48 ≤ c.toNat ∧ c.toNat ≤ 57 := by
  induction u using Nat.strongRecOn with
  | _ u ih =>
    rw [Lib.decDigits]
    split
    · rename_i h
      exact ⟨_, _, rfl, by rw [dig_toNat u h]; omega, by rw [dig_toNat u h]; omega⟩
    · obtain ⟨c, r, e, h1, h2⟩ := ih (u / 10) (by omega)
      exact ⟨c, r ++ [UInt8.ofNat (48 + u % 10)], by rw [e]; rfl, h1, h2⟩
theorem numGo_dec (u : Nat) : (Lib.decDigits u).length ≤ 10 → numGo (Lib.decDigits u) 0 0 = some u := by
  induction u using Nat.strongRecOn with
  | _ u ih =>
    rw [Lib.decDigits]
    split
    · rename_i h
      intro _
      rw [numGo, if_neg (by rw [dig_toNat u h]; omega), dig_toNat u h, numGo]
      congr 1; omega
    · rename_i h
      intro hl
      rw [List.length_append, List.length_singleton] at hl
      rw [numGo_app, ih (u / 10) (by omega) (by omega), Option.bind_some, numGo, if_neg (by rw [dig_toNat _ (by omega)]; omega), dig_toNat _ (by omega), numGo]
      congr 1; omega
theorem num_dec (u : Nat) (h : u < 10000000000) : num (Lib.decDigits u) = (u : Int) := by
  unfold num
  rw [numGo_dec u (dec_len 9 u h)]
  simp only
  rw [if_neg]
  rintro (e | ⟨h1, h2⟩)
  · exact dec_ne u e
  · by_cases h0 : 1 ≤ u
    · exact dec_head u h0 h2
    · have : u = 0 := by omega
      subst this
      rw [Lib.decDigits] at h1
      simp at h1

theorem digit_lt (acc c p : Nat) (ha : acc < p) (hc : c ≤ 57) : acc * 10 + (c - 48) < p * 10 := by omega
theorem l1Num_ev (s : ByteArray) (hs : s.size ≤ 1099511627776) : Ev (fun k => spec_l1Num.f k s) (num (bl s)) := by
  have go : ∀ (d i acc : Nat), s.size - i = d → i ≤ s.size → i ≤ 10 → acc < 10 ^ i →
      Ev (fun k => spec_l1Num.l0 k s (acc : Int) (i : Int)) (match numGo ((bl s).drop i) acc i with | none => -1 | some n => if bl s = [] ∨ (1 < (bl s).length ∧ (bl s).head? = some 48) then -1 else (n : Int)) := by
    intro d
    induction d with
    | zero =>
      intro i acc hd hi h10 ha
      refine ev_step (fun k => spec_l1Num.l0.eq_2 _ _ _ k) ?_
      rw [bl_drop_end s i (by omega), numGo]
      refine ev_neg (by omega) ?_
      simp only
      by_cases h0 : (s.size : Int) = 0
      · refine ev_pos h0 (ev_some ?_)
        rw [if_pos (.inl (by rw [← List.length_eq_zero_iff, bl_length]; omega))]
      · refine ev_neg h0 ?_
        have hne : bl s ≠ [] := by intro e; have := congrArg List.length e; rw [bl_length, List.length_nil] at this; omega
        by_cases h1 : (s.size : Int) > 1
        · refine ev_pos h1 (ev_pos (by omega) ?_)
          have hb := bt_nat s 0 (by omega)
          have hd0 := bl_drop s 0 (by omega)
          rw [List.drop_zero] at hd0
          rw [show ((0 : Nat) : Int) = 0 from rfl] at hb
          rw [hb]
          have hh : (bl s).head? = some (s[0]'(by omega)) := by rw [hd0]; rfl
          by_cases h2 : ((s[0]'(by omega)).toNat : Int) = 48
          · refine ev_pos h2 (ev_some ?_)
            have e : s[0]'(by omega) = 48 := by
              apply UInt8.toNat_inj.1
              have : (48 : UInt8).toNat = 48 := rfl
              omega
            rw [if_pos (.inr ⟨by rw [bl_length]; omega, by rw [hh, e]⟩)]
          · refine ev_neg h2 (ev_some ?_)
            rw [if_neg]
            rintro (e | ⟨_, e⟩)
            · exact hne e
            · rw [hh] at e
              have := congrArg UInt8.toNat (Option.some.inj e)
              have e48 : (48 : UInt8).toNat = 48 := rfl
              omega
        · refine ev_neg h1 (ev_some ?_)
          rw [if_neg]
          rintro (e | ⟨e, _⟩)
          · exact hne e
          · rw [bl_length] at e; omega
    | succ d ih =>
      intro i acc hd hi h10 ha
      have hlt : i < s.size := by omega
      refine ev_step (fun k => spec_l1Num.l0.eq_2 _ _ _ k) ?_
      refine ev_pos (by omega) (ev_pos (by omega) ?_)
      rw [bt_nat s i hlt, bl_drop s i hlt, numGo]
      generalize s[i] = c
      have e10 : acc < 10000000000 := by
        have h1 : (10 : Nat) ^ i ≤ 10 ^ 10 := Nat.pow_le_pow_right (by decide) h10
        have h2 : (10 : Nat) ^ 10 = 10000000000 := by decide
        rw [h2] at h1
        exact Nat.lt_of_lt_of_le ha h1
      by_cases h1 : (c.toNat : Int) < 48
      · refine ev_pos h1 (ev_some ?_)
        rw [if_pos (.inl (by omega))]
      · refine ev_neg h1 ?_
        by_cases h2 : (c.toNat : Int) > 57
        · refine ev_pos h2 (ev_some ?_)
          rw [if_pos (.inr (.inl (by omega)))]
        · refine ev_neg h2 ?_
          by_cases h3 : (i : Int) ≥ 10
          · refine ev_pos h3 (ev_some ?_)
            rw [if_pos (.inr (.inr (by omega)))]
          · refine ev_neg h3 ?_
            rw [if_neg (by omega)]
            have w1 : wrap64 ((acc : Int) * 10) = ((acc * 10 : Nat) : Int) := by rw [w64 (by omega) (by omega)]; omega
            have w2 : ((c.toNat : Int) - 48) % 256 = ((c.toNat - 48 : Nat) : Int) := by omega
            have w3 : wrap64 (((acc * 10 : Nat) : Int) + ((c.toNat - 48 : Nat) : Int)) = ((acc * 10 + (c.toNat - 48) : Nat) : Int) := by rw [w64 (by omega) (by omega)]; omega
            have w4 : wrap64 ((i : Int) + 1) = ((i + 1 : Nat) : Int) := by rw [w64 (by omega) (by omega)]; omega
            rw [w1, w2, w3, w4]
            clear w1 w2 w3 w4
            exact ih (i + 1) (acc * 10 + (c.toNat - 48)) (by omega) (by omega) (by omega) (by rw [Nat.pow_succ]; exact digit_lt acc c.toNat _ ha (by omega))
  have := go s.size 0 0 (by omega) (by omega) (by omega) (by decide)
  rw [List.drop_zero] at this
  exact this

/-! the library's Atoi reads back what Itoa wrote -/
theorem parse_app : ∀ (l r : List UInt8) (acc : Nat) (v : Nat), Lib.parseUint10 acc l = .ok v → Lib.parseUint10 acc (l ++ r) = Lib.parseUint10 v r
  | [], r, acc, v, h => by
    simp only [Lib.parseUint10] at h
    injection h with h
    rw [h]; rfl
  | c :: l, r, acc, v, h => by
    rw [List.cons_append, Lib.parseUint10]
    rw [Lib.parseUint10] at h
    split at h
    · rename_i h1
      rw [if_pos h1]
      split at h
      · cases h
      · rename_i h2
        rw [if_neg h2]
        split at h
        · cases h
        · rename_i h3
          rw [if_neg h3]
          exact parse_app l r _ v h
    · cases h
theorem parse_dec (u : Nat) : u < 10000000000 → Lib.parseUint10 0 (Lib.decDigits u) = .ok u := by
  induction u using Nat.strongRecOn with
  | _ u ih =>
    intro hu
    rw [Lib.decDigits]
    split
    · rename_i h
      rw [Lib.parseUint10, dig_toNat u h, if_pos (by omega), if_neg (by omega), if_neg (by omega), Lib.parseUint10]
      congr 1; omega
    · rename_i h
      rw [parse_app _ _ 0 (u / 10) (ih (u / 10) (by omega) (by omega)), Lib.parseUint10, dig_toNat _ (by omega), if_pos (by omega), if_neg (by omega), if_neg (by omega), Lib.parseUint10]
      congr 1; omega
theorem mag_dec (u : Nat) (hu : u < 10000000000) : Lib.parseMag (Lib.decDigits u) = .ok u := by
  unfold Lib.parseMag
  rw [if_neg (dec_ne u), parse_dec u hu]
theorem atoi_itoa (n : Int) (h0 : -1000000000 ≤ n) (h1 : n ≤ 1000000000) : Lib.atoiAll (Lib.itoa n) = .ok n := by
  by_cases hn : n < 0
  · obtain ⟨u, rfl⟩ : ∃ u : Nat, n = -(u : Int) := ⟨n.natAbs, by omega⟩
    rw [Lib.itoa_neg u (by omega)]
    unfold Lib.atoiAll
    simp only
    rw [if_pos (.inr (by decide)), mag_dec u (by omega)]
    simp only
    rw [if_neg (by simp), if_neg (by omega), if_pos (by decide)]
  · obtain ⟨u, rfl⟩ := Int.eq_ofNat_of_zero_le (show 0 ≤ n by omega)
    rw [Lib.itoa_nonneg]
    obtain ⟨c, r, e, c1, c2⟩ := dec_first u
    have hm := mag_dec u (by omega)
    rw [e] at hm ⊢
    unfold Lib.atoiAll
    simp only
    rw [if_neg (by omega), hm]
    simp only
    rw [if_neg (by omega), if_neg (by omega), if_neg (by omega)]
theorem atoiNum_itoa (n : Int) (h0 : -1000000000 ≤ n) (h1 : n ≤ 1000000000) : atoiNum (Lib.itoa n) = n := by
  unfold atoiNum
  rw [atoi_itoa n h0 h1]

/-! the candidates -/
abbrev noneL : List UInt8 := [110, 111, 110, 101]
def specV (s : ByteArray) : Int × Int × ByteArray :=
  if bl s = noneL then (0, 0, ⟨#[]⟩)
  else if 2 ≤ s.size ∧ bt s 0 = 34 ∧ bt s ((s.size : Int) - 1) = 34 then (2, 0, s.extract 1 (s.size - 1))
  else if 2 ≤ s.size ∧ bt s 0 = 45 then (1, -num ((bl s).drop 1), ⟨#[]⟩)
  else (1, num (bl s), ⟨#[]⟩)
def implV (s : ByteArray) : Int × Int × ByteArray :=
  if 2 ≤ s.size ∧ bt s 0 = 34 then (2, 0, s.extract 1 (s.size - 1))
  else if bl s = noneL then (0, 0, ⟨#[]⟩)
  else (1, atoiNum (bl s), ⟨#[]⟩)

theorem bl_inj {a b : ByteArray} (h : bl a = bl b) : a = b := by
  cases a with | mk a => cases b with | mk b => exact congrArg ByteArray.mk (Array.toList_inj.1 h)
theorem bl_extract (s : ByteArray) (a b : Nat) : bl (s.extract a b) = ((bl s).take b).drop a := by
  show (s.extract a b).data.toList = _
  rw [ByteArray.data_extract, Array.toList_extract, List.extract_eq_take_drop, List.take_drop]
  by_cases h : a ≤ b
  · rw [Nat.add_sub_cancel' h]
  · rw [List.drop_of_length_le (by rw [List.length_take]; omega), List.drop_of_length_le (by rw [List.length_take]; omega)]
theorem bl_toList (s : ByteArray) : s.toList = bl s := Lib.toList_data s
theorem bl_app (a b : ByteArray) : bl (a ++ b) = bl a ++ bl b := ByteArray.toList_data_append
theorem bt_of (s : ByteArray) (i : Nat) (c : UInt8) (h : (bl s)[i]? = some c) : bt s (i : Int) = (c.toNat : Int) := by
  have hl := (List.getElem?_eq_some_iff.1 h).1
  rw [bl_length] at hl
  rw [bt_nat s i hl]
  have := bl_get s i hl
  have h2 := (List.getElem?_eq_some_iff.1 h).2
  rw [← this, h2]

/-- a value that is ok, by its kind -/
theorem ok_cases {a b : Int} {t : ByteArray} (h : okV a b t = true) : (a = 0 ∧ b = 0 ∧ t = ⟨#[]⟩) ∨ (a = 1 ∧ -1000000000 ≤ b ∧ b ≤ 1000000000 ∧ t = ⟨#[]⟩) ∨ (a = 2 ∧ b = 0 ∧ t.size ≤ 24) := by
  have emp : (t.toList == ([] : List UInt8)) = true → t = ⟨#[]⟩ := by
    intro e
    rw [beq_iff_eq, bl_toList] at e
    exact bl_inj (b := ⟨#[]⟩) e
  by_cases h0 : a = 0
  · left
    unfold okV at h
    rw [if_pos h0] at h
    by_cases hb : b = 0
    · rw [if_pos hb] at h; exact ⟨h0, hb, emp h⟩
    · rw [if_neg hb] at h; cases h
  · by_cases h1 : a = 1
    · right; left
      have := ok_num h h1
      unfold okV at h
      rw [if_neg h0, if_pos h1, if_pos ⟨this.1, this.2⟩] at h
      exact ⟨h1, this.1, this.2, emp h⟩
    · by_cases h2 : a = 2
      · right; right
        have := ok_text h h2
        exact ⟨h2, this.2.1, this.1⟩
      · unfold okV at h
        rw [if_neg h0, if_neg h1, if_neg h2] at h
        cases h

theorem quoted_bl (t : ByteArray) : bl ((⟨#[34]⟩ : ByteArray) ++ t ++ (⟨#[34]⟩ : ByteArray)) = 34 :: (bl t ++ [34]) := by
  rw [bl_app, bl_app]
  show [34] ++ bl t ++ [34] = _
  simp
theorem quoted_inner (s t : ByteArray) (h : bl s = 34 :: (bl t ++ [34])) : s.extract 1 (s.size - 1) = t := by
  apply bl_inj
  have hz : s.size = (bl t).length + 2 := by rw [← bl_length, h]; simp
  rw [bl_extract, h, hz, show (bl t).length + 2 - 1 = (bl t).length + 1 by omega, List.take_succ_cons, List.take_left, List.drop_one, List.tail_cons]

/-- the first byte of a numeral -/
theorem itoa_first (n : Int) : ∃ c r, Lib.itoa n = c :: r ∧ ((n < 0 ∧ c = 45 ∧ r = Lib.decDigits n.natAbs) ∨ (0 ≤ n ∧ 48 ≤ c.toNat ∧ c.toNat ≤ 57)) := by
  unfold Lib.itoa
  by_cases hn : n < 0
  · rw [if_pos hn]; exact ⟨_, _, rfl, .inl ⟨hn, rfl, rfl⟩⟩
  · rw [if_neg hn]
    obtain ⟨c, r, e, h1, h2⟩ := dec_first n.toNat
    exact ⟨c, r, e, .inr ⟨by omega, h1, h2⟩⟩

theorem put_ne {a b : Int} {t : ByteArray} : bl (putV a b t) ≠ [] := by
  unfold putV
  split
  · obtain ⟨c, r, e, _⟩ := itoa_first b
    show Lib.itoa b ≠ []
    rw [e]; simp
  · split
    · rw [quoted_bl]; simp
    · decide

theorem spec_of_ok {a b : Int} {t s : ByteArray} (h : okV a b t = true) (hs : putV a b t = s) : specV s = (a, b, t) := by
  subst hs
  rcases ok_cases h with ⟨rfl, rfl, rfl⟩ | ⟨rfl, b0, b1, rfl⟩ | ⟨rfl, rfl, ht⟩
  · rfl
  · have e : bl (putV 1 b ⟨#[]⟩) = Lib.itoa b := rfl
    generalize putV 1 b ⟨#[]⟩ = s at e
    obtain ⟨c, r, ec, hc⟩ := itoa_first b
    have hb0 : bt s 0 = (c.toNat : Int) := bt_of s 0 c (by rw [e, ec]; rfl)
    have e34 : (34 : UInt8).toNat = 34 := rfl
    have e45 : (45 : UInt8).toNat = 45 := rfl
    have e110 : (110 : UInt8).toNat = 110 := rfl
    unfold specV
    have n1 : ¬ bl s = noneL := by
      rw [e, ec]
      intro q
      injection q with q1 q2
      rcases hc with ⟨_, h2, _⟩ | ⟨_, h2, h3⟩
      · rw [h2] at q1; revert q1; decide
      · rw [q1] at h3; omega
    rw [if_neg n1]
    have n2 : ¬ (2 ≤ s.size ∧ bt s 0 = 34 ∧ bt s ((s.size : Int) - 1) = 34) := by
      rintro ⟨_, q, _⟩
      rw [hb0] at q
      rcases hc with ⟨_, h2, _⟩ | ⟨_, h2, h3⟩
      · rw [h2, e45] at q; omega
      · omega
    rw [if_neg n2]
    rcases hc with ⟨hn, h2, h3⟩ | ⟨hn, h2, h3⟩
    · have hz : 2 ≤ s.size := by
        rw [← bl_length, e, ec, h3, List.length_cons]
        have := List.length_pos_iff.2 (dec_ne b.natAbs)
        omega
      rw [if_pos ⟨hz, by rw [hb0, h2]; rfl⟩]
      rw [e, ec, List.drop_one, List.tail_cons, h3, num_dec _ (by omega)]
      have : -((b.natAbs : Nat) : Int) = b := by omega
      rw [this]
    · rw [if_neg (by rintro ⟨_, q⟩; rw [hb0] at q; omega)]
      rw [e]
      unfold Lib.itoa
      rw [if_neg (by omega), num_dec _ (by omega)]
      have : ((b.toNat : Nat) : Int) = b := by omega
      rw [this]
  · have e : bl (putV 2 0 t) = 34 :: (bl t ++ [34]) := quoted_bl t
    generalize putV 2 0 t = s at e
    have hz : s.size = (bl t).length + 2 := by rw [← bl_length, e]; simp
    have hb0 : bt s 0 = 34 := bt_of s 0 34 (by rw [e]; rfl)
    have hb1 : bt s ((s.size : Int) - 1) = 34 := by
      have : (s.size : Int) - 1 = (((bl t).length + 1 : Nat) : Int) := by omega
      rw [this]
      refine bt_of s _ 34 ?_
      rw [e, List.getElem?_cons_succ, List.getElem?_append_right (Nat.le_refl _), Nat.sub_self]
      rfl
    unfold specV
    rw [if_neg (by rw [e]; intro q; injection q with q1 _; revert q1; decide), if_pos ⟨by omega, hb0, hb1⟩, quoted_inner s t e]

theorem impl_of_ok {a b : Int} {t s : ByteArray} (h : okV a b t = true) (hs : putV a b t = s) : implV s = (a, b, t) := by
  subst hs
  rcases ok_cases h with ⟨rfl, rfl, rfl⟩ | ⟨rfl, b0, b1, rfl⟩ | ⟨rfl, rfl, ht⟩
  · rfl
  · have e : bl (putV 1 b ⟨#[]⟩) = Lib.itoa b := rfl
    generalize putV 1 b ⟨#[]⟩ = s at e
    obtain ⟨c, r, ec, hc⟩ := itoa_first b
    have hb0 : bt s 0 = (c.toNat : Int) := bt_of s 0 c (by rw [e, ec]; rfl)
    have e45 : (45 : UInt8).toNat = 45 := rfl
    have e110 : (110 : UInt8).toNat = 110 := rfl
    unfold implV
    have n2 : ¬ (2 ≤ s.size ∧ bt s 0 = 34) := by
      rintro ⟨_, q⟩
      rw [hb0] at q
      rcases hc with ⟨_, h2, _⟩ | ⟨_, h2, h3⟩
      · rw [h2, e45] at q; omega
      · omega
    have n1 : ¬ bl s = noneL := by
      rw [e, ec]
      intro q
      injection q with q1 q2
      rcases hc with ⟨_, h2, _⟩ | ⟨_, h2, h3⟩
      · rw [h2] at q1; revert q1; decide
      · rw [q1] at h3; omega
    rw [if_neg n2, if_neg n1, e, atoiNum_itoa b b0 b1]
  · have e : bl (putV 2 0 t) = 34 :: (bl t ++ [34]) := quoted_bl t
    generalize putV 2 0 t = s at e
    have hz : s.size = (bl t).length + 2 := by rw [← bl_length, e]; simp
    have hb0 : bt s 0 = 34 := bt_of s 0 34 (by rw [e]; rfl)
    unfold implV
    rw [if_pos ⟨by omega, hb0⟩, quoted_inner s t e]

/-! what both hand back -/
def fitB (v : Int × Int × ByteArray) (s : ByteArray) : Bool := okV v.1 v.2.1 v.2.2 && ((putV v.1 v.2.1 v.2.2).toList == s.toList)
theorem fit_iff (v : Int × Int × ByteArray) (s : ByteArray) : fitB v s = true ↔ okV v.1 v.2.1 v.2.2 = true ∧ putV v.1 v.2.1 v.2.2 = s := by
  unfold fitB
  rw [Bool.and_eq_true, beq_iff_eq, bl_toList, bl_toList]
  exact ⟨fun h => ⟨h.1, bl_inj h.2⟩, fun h => ⟨h.1, by rw [h.2]⟩⟩
def told (v : Int × Int × ByteArray) (s : ByteArray) : Int × Int × ByteArray × Bool := if fitB v s = true then (v.1, v.2.1, v.2.2, true) else (0, 0, ⟨#[]⟩, false)
def getR (s : ByteArray) : Int × Int × ByteArray × Bool := told (specV s) s
theorem told_impl (s : ByteArray) : told (implV s) s = getR s := by
  unfold getR told
  by_cases h : fitB (specV s) s = true
  · have h' := (fit_iff _ _).1 h
    have e := impl_of_ok h'.1 h'.2
    rw [if_pos h, e, if_pos h]
  · rw [if_neg h]
    by_cases g : fitB (implV s) s = true
    · have g' := (fit_iff _ _).1 g
      have e := spec_of_ok g'.1 g'.2
      exact absurd (by rw [e]; exact g) h
    · rw [if_neg g]
/-- what is written is read back -/
theorem getR_put {a b : Int} {t : ByteArray} (h : okV a b t = true) : getR (putV a b t) = (a, b, t, true) := by
  unfold getR told
  rw [spec_of_ok h rfl, if_pos ((fit_iff _ _).2 ⟨h, rfl⟩)]
theorem getR_true {s : ByteArray} (h : (getR s).2.2.2 = true) : okV (getR s).1 (getR s).2.1 (getR s).2.2.1 = true ∧ putV (getR s).1 (getR s).2.1 (getR s).2.2.1 = s := by
  unfold getR told at h ⊢
  by_cases g : fitB (specV s) s = true
  · rw [if_pos g]
    exact (fit_iff _ _).1 g
  · rw [if_neg g] at h; cases h
theorem getR_empty : getR ⟨#[]⟩ = (0, 0, ⟨#[]⟩, false) := by
  unfold getR told
  rw [if_neg]
  intro h
  exact put_ne (congrArg bl ((fit_iff _ _).1 h).2)

theorem okV_zero : okV 0 0 ⟨#[]⟩ = true := by
  unfold okV
  rw [if_pos rfl, if_pos rfl, beq_iff_eq, bl_toList]
theorem extract_small (s : ByteArray) (a b : Nat) : (s.extract a b).size ≤ s.size := by
  rw [ByteArray.size_extract]; omega

theorem tail_ev (s : ByteArray) (a b : Int) (t : ByteArray) (ht : t.size ≤ 9223372036854775807) :
    Ev (fun k => (spec_ValueOk.f k a b t).bind fun x => (if x = true then ((spec_l1Put.f k a b t).bind fun y => (some (a, b, t, (y.toList == s.toList)))) else (some (a, b, t, false)))) (a, b, t, fitB (a, b, t) s) := by
  refine Ev.bind (spec_ok a b t ht) ?_
  unfold fitB
  by_cases h : okV a b t = true
  · refine ev_pos h (Ev.bind (spec_l1Put_ev a b t (fun ha => by have := ok_num h ha; omega) (fun ha => by have := (ok_text h ha).1; omega)) (ev_some ?_))
    rw [h, Bool.true_and]
  · refine ev_neg h (ev_some ?_)
    rw [Bool.not_eq_true] at h
    rw [h, Bool.false_and]

theorem specGet1 (s : ByteArray) (hs : s.size ≤ 1099511627776) : Ev (fun k => spec_l1Get.f k s) ((specV s).1, (specV s).2.1, (specV s).2.2, fitB (specV s) s) := by
  unfold spec_l1Get.f
  have zE : (⟨#[]⟩ : ByteArray).size = 0 := rfl
  have w1 : wrap64 ((s.size : Int) - 1) = (s.size : Int) - 1 := w64 (by omega) (by omega)
  have last : ∀ b : Bool, ¬ bl s = noneL → (b = true ↔ (2 ≤ s.size ∧ bt s 0 = 34 ∧ bt s ((s.size : Int) - 1) = 34)) →
      Ev (fun k => spec_l1Get.j0 k s (s.size : Int) b) ((specV s).1, (specV s).2.1, (specV s).2.2, fitB (specV s) s) := by
    intro b hn hb
    refine ev_step (fun k => spec_l1Get.j0.eq_2 _ _ _ k) ?_
    by_cases h : b = true
    · have hq := hb.1 h
      refine ev_pos h ?_
      rw [w1]
      refine ev_pos (by omega) (ev_pos (by omega) ?_)
      have e : ((s.size : Int) - 1).toNat = s.size - 1 := by omega
      rw [e]
      have ev : specV s = (2, 0, s.extract 1 (s.size - 1)) := by unfold specV; rw [if_neg hn, if_pos hq]
      rw [ev]
      have := extract_small s 1 (s.size - 1)
      exact tail_ev s 2 0 _ (by omega)
    · have hq : ¬ (2 ≤ s.size ∧ bt s 0 = 34 ∧ bt s ((s.size : Int) - 1) = 34) := fun q => h (hb.2 q)
      refine ev_neg h ?_
      have num2 : ∀ c : Bool, (c = true ↔ (2 ≤ s.size ∧ bt s 0 = 45)) → Ev (fun k => spec_l1Get.j1 k s c) ((specV s).1, (specV s).2.1, (specV s).2.2, fitB (specV s) s) := by
        intro c hc
        refine ev_step (fun k => spec_l1Get.j1.eq_2 _ _ k) ?_
        by_cases g : c = true
        · have hq2 := hc.1 g
          refine ev_pos g (ev_pos (by omega) ?_)
          have hx := extract_small s 1 s.size
          have hbl : bl (s.extract 1 s.size) = (bl s).drop 1 := by rw [bl_extract, List.take_of_length_le (by rw [bl_length]; exact Nat.le_refl _)]
          refine Ev.bind (l1Num_ev _ (by omega)) ?_
          rw [hbl]
          have hnb := num_bound ((bl s).drop 1)
          have w2 : wrap64 (-num ((bl s).drop 1)) = -num ((bl s).drop 1) := w64 (by omega) (by omega)
          rw [w2]
          have ev : specV s = (1, -num ((bl s).drop 1), ⟨#[]⟩) := by unfold specV; rw [if_neg hn, if_neg hq, if_pos hq2]
          rw [ev]
          exact tail_ev s 1 _ ⟨#[]⟩ (by omega)
        · refine ev_neg g (Ev.bind (l1Num_ev s hs) ?_)
          have ev : specV s = (1, num (bl s), ⟨#[]⟩) := by unfold specV; rw [if_neg hn, if_neg hq, if_neg (fun q => g (hc.2 q))]
          rw [ev]
          exact tail_ev s 1 _ ⟨#[]⟩ (by omega)
      by_cases g : (s.size : Int) ≥ 2
      · refine ev_pos g (ev_pos (by omega) (num2 _ ?_))
        rw [beq_iff_eq]
        exact ⟨fun q => ⟨by omega, q⟩, fun q => q.2⟩
      · refine ev_neg g (num2 _ ?_)
        exact ⟨(fun q => by cases q), fun q => absurd q.1 (by omega)⟩
  by_cases hn : bl s = noneL
  · refine ev_pos (by rw [bl_toList]; exact hn) (ev_some ?_)
    have ev : specV s = (0, 0, ⟨#[]⟩) := by unfold specV; rw [if_pos hn]
    rw [ev]
    have : fitB (0, 0, ⟨#[]⟩) s = true := (fit_iff _ _).2 ⟨okV_zero, bl_inj (a := ⟨#[110, 111, 110, 101]⟩) hn.symm⟩
    rw [this]
  · refine ev_neg (by rw [bl_toList]; exact hn) ?_
    by_cases g : (s.size : Int) ≥ 2
    · refine ev_pos g (ev_pos (by omega) ?_)
      by_cases h0 : bt s 0 = 34
      · refine ev_pos h0 ?_
        rw [w1]
        refine ev_pos (by omega) (ev_pos (by omega) (last _ hn ?_))
        rw [beq_iff_eq]
        exact ⟨fun q => ⟨by omega, h0, q⟩, fun q => q.2.2⟩
      · refine ev_neg h0 (last _ hn ?_)
        exact ⟨(fun q => by cases q), fun q => absurd q.2.1 h0⟩
    · refine ev_neg g (last _ hn ?_)
      exact ⟨(fun q => by cases q), fun q => absurd q.1 (by omega)⟩

theorem spec_get (s : ByteArray) (hs : s.size ≤ 1099511627776) : Ev (fun k => spec_ValueGet.f k s) (getR s) := by
  unfold spec_ValueGet.f getR told
  refine Ev.bind (specGet1 s hs) ?_
  by_cases h : fitB (specV s) s = true
  · simp only [if_pos h]
    exact ev_some rfl
  · simp only [if_neg h]
    exact ev_some rfl

theorem impl_get (s : ByteArray) (hs : s.size ≤ 1099511627776) : Ev (fun k => impl_ValueGet.f k s) (getR s) := by
  rw [← told_impl]
  unfold impl_ValueGet.f
  have zE : (⟨#[]⟩ : ByteArray).size = 0 := rfl
  have w1 : wrap64 ((s.size : Int) - 1) = (s.size : Int) - 1 := w64 (by omega) (by omega)
  have fin : ∀ (v : Int × Int × ByteArray), v.2.2.size ≤ 9223372036854775807 → implV s = v →
      Ev (fun k => if s.toList = ([] : List UInt8) then (some (0, 0, (⟨#[]⟩ : ByteArray), false)) else ((impl_ValuePut.f k v.1 v.2.1 v.2.2).bind fun y => (if y.toList = s.toList then (some (v.1, v.2.1, v.2.2, true)) else (some (0, 0, (⟨#[]⟩ : ByteArray), false))))) (told (implV s) s) := by
    intro v hv hi
    rw [hi]
    unfold told
    by_cases h0 : s.toList = ([] : List UInt8)
    · refine ev_pos h0 (ev_some ?_)
      rw [if_neg]
      intro h
      rw [bl_toList] at h0
      exact put_ne ((congrArg bl ((fit_iff _ _).1 h).2).trans h0)
    · refine ev_neg h0 (Ev.bind (impl_put _ _ _ hv) ?_)
      unfold putOk
      by_cases h : fitB v s = true
      · have h' := (fit_iff _ _).1 h
        rw [if_pos h, if_pos h'.1]
        exact ev_pos (by rw [h'.2]) (ev_some rfl)
      · rw [if_neg h]
        refine ev_neg ?_ (ev_some rfl)
        intro e
        by_cases g : okV v.1 v.2.1 v.2.2 = true
        · rw [if_pos g, bl_toList, bl_toList] at e
          exact h ((fit_iff _ _).2 ⟨g, bl_inj e⟩)
        · rw [if_neg g, bl_toList, bl_toList] at e
          rw [bl_toList] at h0
          exact h0 e.symm
  have main : ∀ b : Bool, (b = true ↔ (2 ≤ s.size ∧ bt s 0 = 34)) → Ev (fun k => impl_ValueGet.j0 k s b 0 0 (⟨#[]⟩ : ByteArray)) (told (implV s) s) := by
    intro b hb
    refine ev_step (fun k => impl_ValueGet.j0.eq_2 _ _ _ _ _ k) ?_
    by_cases h : b = true
    · have hq := hb.1 h
      refine ev_pos h ?_
      rw [w1]
      refine ev_pos (by omega) (ev_pos (by omega) ?_)
      have e : ((s.size : Int) - 1).toNat = s.size - 1 := by omega
      rw [e]
      have hx := extract_small s 1 (s.size - 1)
      exact fin (2, 0, s.extract 1 (s.size - 1)) (by simp only; omega) (by unfold implV; rw [if_pos hq])
    · have hq : ¬ (2 ≤ s.size ∧ bt s 0 = 34) := fun q => h (hb.2 q)
      refine ev_neg h ?_
      by_cases hn : bl s = noneL
      · refine ev_pos (by rw [bl_toList]; exact hn) ?_
        exact fin (0, 0, ⟨#[]⟩) (by simp only; omega) (by unfold implV; rw [if_neg hq, if_pos hn])
      · refine ev_neg (by rw [bl_toList]; exact hn) ?_
        refine ev_bindc (o := strconv_Atoi.f s) (a := (atoiNum (bl s), none)) (by unfold strconv_Atoi.f; rw [if_pos (by omega)]) ?_
        exact fin (1, atoiNum (bl s), ⟨#[]⟩) (by simp only; omega) (by unfold implV; rw [if_neg hq, if_neg hn])
  by_cases g : (s.size : Int) ≥ 2
  · refine ev_pos g (ev_pos (by omega) (main _ ?_))
    rw [beq_iff_eq]
    exact ⟨fun q => ⟨by omega, q⟩, fun q => q.2⟩
  · refine ev_neg g (main _ ?_)
    exact ⟨(fun q => by cases q), fun q => absurd q.1 (by omega)⟩
end Go.Proofs.YtccioimicdggkaaDoor.M
