/- The program's sum and the reference's sum, as one plain function of the bytes. No condition beyond a text of at most 2^47 bytes. -/
import Derived.Test.YtdhiomoomobhfaaMBase
import Derived.Test.YtdhiomoomobhfaaP1
namespace Go.Proofs.Ytdhiomoomobhfaa.M
open Go.RowKit Go.Proofs.YtdhiomoomobhfaaW.PrintWords Go.Proofs.Ytdhiomoomobhfaa.P

def crcBit (n : Nat) : Nat := if n % 2 = 1 then (n / 2) ^^^ 3988292384 else n / 2
def crcBits : Nat → Nat → Nat
  | 0, n => n
  | j + 1, n => crcBits j (crcBit n)
def crcL : List UInt8 → Nat → Nat
  | [], n => n
  | b :: l, n => crcL l (crcBits 8 (n ^^^ b.toNat))

theorem p32 : (2 : Nat) ^ 32 = 4294967296 := by decide
theorem xor_lt {a b : Nat} (ha : a < 4294967296) (hb : b < 4294967296) : a ^^^ b < 4294967296 := by
  have := Nat.xor_lt_two_pow (n := 32) (x := a) (y := b) (by rw [p32]; exact ha) (by rw [p32]; exact hb)
  rwa [p32] at this
theorem crcBit_lt {n : Nat} (h : n < 4294967296) : crcBit n < 4294967296 := by
  unfold crcBit
  split
  · exact xor_lt (by omega) (by decide)
  · omega
theorem crcBits_lt : ∀ (j n : Nat), n < 4294967296 → crcBits j n < 4294967296
  | 0, _, h => h
  | j + 1, _, h => crcBits_lt j _ (crcBit_lt h)
theorem byte_lt (b : UInt8) : b.toNat < 256 := b.toNat_lt
theorem crcL_lt : ∀ (l : List UInt8) (n : Nat), n < 4294967296 → crcL l n < 4294967296
  | [], _, h => h
  | b :: l, _, h => crcL_lt l _ (crcBits_lt 8 _ (xor_lt h (by have := byte_lt b; omega)))

/-! the reference -/
theorem spec_bit {n : Nat} (h : n < 4294967296) :
    (Int.tmod (n : Int) 2 = 1 → bits .xor .i64 (wrap64 (Int.tdiv (n : Int) 2)) 3988292384 = (crcBit n : Nat)) ∧
    (¬ Int.tmod (n : Int) 2 = 1 → wrap64 (Int.tdiv (n : Int) 2) = (crcBit n : Nat)) := by
  have e : Int.tdiv (n : Int) 2 = ((n / 2 : Nat) : Int) := by
    rw [Int.tdiv_eq_ediv_of_nonneg (by omega)]; omega
  have m : Int.tmod (n : Int) 2 = ((n % 2 : Nat) : Int) := by
    rw [Int.tmod_eq_emod_of_nonneg (by omega)]; omega
  have w : wrap64 ((n / 2 : Nat) : Int) = ((n / 2 : Nat) : Int) := w64 (by omega) (by omega)
  rw [e, m, w]
  constructor
  · intro h1
    have h2 : n % 2 = 1 := by omega
    have := i64_xor_nat (n / 2) 3988292384 (by omega) (by decide)
    unfold crcBit; rw [if_pos h2]; exact this
  · intro h1
    have h2 : ¬ n % 2 = 1 := by omega
    unfold crcBit; rw [if_neg h2]

theorem spec_in (s : ByteArray) (i : Int) (r : Int) : ∀ (j : Nat) (n : Nat), j ≤ 8 → n < 4294967296 →
    Ev (fun k => spec_Crc.l0 k s ((crcBits j n : Nat) : Int) (wrap64 (i + 1))) r → Ev (fun k => spec_Crc.l1 k s (n : Int) i (8 - (j : Int))) r := by
  intro j
  induction j with
  | zero =>
    intro n _ _ H
    refine ev_step (fun k => spec_Crc.l1.eq_2 s _ _ _ k) ?_
    refine ev_neg (by omega) ?_
    exact H
  | succ j ih =>
    intro n hj hn H
    refine ev_step (fun k => spec_Crc.l1.eq_2 s _ _ _ k) ?_
    refine ev_pos (by omega) ?_
    have e : wrap64 (8 - ((j + 1 : Nat) : Int) + 1) = 8 - (j : Int) := by rw [w64 (by omega) (by omega)]; omega
    obtain ⟨b1, b2⟩ := spec_bit hn
    have H' := ih (crcBit n) (by omega) (crcBit_lt hn) H
    by_cases h : Int.tmod (n : Int) 2 = 1
    · refine ev_pos h ?_
      rw [e, b1 h]; exact H'
    · refine ev_neg h ?_
      rw [e, b2 h]; exact H'

theorem spec_out (s : ByteArray) (hs : s.size ≤ 140737488351232) : ∀ (d i n : Nat), s.size - i = d → i ≤ s.size → n < 4294967296 →
    Ev (fun k => spec_Crc.l0 k s (n : Int) (i : Int)) ((crcL ((bl s).drop i) n ^^^ 4294967295 : Nat) : Int) := by
  intro d
  induction d with
  | zero =>
    intro i n hd hi hn
    refine ev_step (fun k => spec_Crc.l0.eq_2 s _ _ k) ?_
    refine ev_neg (by omega) (ev_some ?_)
    rw [bl_drop_end s i (by omega)]
    exact i64_xor_nat n 4294967295 (by omega) (by decide)
  | succ d ih =>
    intro i n hd hi hn
    have hlt : i < s.size := by omega
    refine ev_step (fun k => spec_Crc.l0.eq_2 s _ _ k) ?_
    refine ev_pos (by omega) (ev_pos (by omega) ?_)
    rw [bt_nat s i hlt, bl_drop s i hlt]
    have hb := byte_lt s[i]
    rw [w64 (by omega) (by omega), i64_xor_nat n _ (by omega) (by omega)]
    have hx : n ^^^ s[i].toNat < 4294967296 := xor_lt hn (by omega)
    have := spec_in s (i : Int) ((crcL (s[i] :: (bl s).drop (i + 1)) n ^^^ 4294967295 : Nat) : Int) 8 (n ^^^ s[i].toNat) (by omega) hx
    refine this ?_
    have e : wrap64 ((i : Int) + 1) = ((i + 1 : Nat) : Int) := by rw [w64 (by omega) (by omega)]; omega
    rw [e]
    exact ih (i + 1) _ (by omega) (by omega) (crcBits_lt 8 _ hx)

def crc (s : ByteArray) : Nat := crcL (bl s) 4294967295 ^^^ 4294967295
theorem crc_lt (s : ByteArray) : crc s < 4294967296 := xor_lt (crcL_lt _ _ (by decide)) (by decide)

theorem spec_crc (s : ByteArray) (hs : s.size ≤ 140737488351232) : Ev (fun k => spec_Crc.f k s) ((crc s : Nat) : Int) := by
  have := spec_out s hs s.size 0 4294967295 (by omega) (by omega) (by decide)
  exact this

/-! the program -/
theorem impl_bit {n : Nat} (h : n < 4294967296) :
    bits .xor .u32 ((n : Int) / 2) ((3988292384 * (bits .and .u32 (n : Int) 1)) % 4294967296) = (crcBit n : Nat) := by
  have a : bits .and .u32 (n : Int) 1 = ((n % 2 : Nat) : Int) := by
    have := u32_and_nat n 1 h (by decide)
    rw [Nat.and_one_is_mod] at this
    exact this
  have e : (n : Int) / 2 = ((n / 2 : Nat) : Int) := by omega
  rw [a, e]
  unfold crcBit
  by_cases h1 : n % 2 = 1
  · rw [if_pos h1, h1]
    exact u32_xor_nat (n / 2) 3988292384 (by omega) (by decide)
  · have h0 : n % 2 = 0 := by omega
    rw [if_neg h1, h0]
    have := u32_xor_nat (n / 2) 0 (by omega) (by decide)
    rw [Nat.xor_zero] at this
    exact this

theorem impl_in (s : ByteArray) (i : Int) (r : Int) : ∀ (j : Nat) (n : Nat), j ≤ 8 → n < 4294967296 →
    Ev (fun k => impl_crcUpdate.l0 k ((crcBits j n : Nat) : Int) s (wrap64 (i + 1))) r → Ev (fun k => impl_crcUpdate.l1 k (n : Int) s i (8 - (j : Int))) r := by
  intro j
  induction j with
  | zero =>
    intro n _ _ H
    refine ev_step (fun k => impl_crcUpdate.l1.eq_2 _ s _ _ k) ?_
    refine ev_neg (by omega) ?_
    exact H
  | succ j ih =>
    intro n hj hn H
    refine ev_step (fun k => impl_crcUpdate.l1.eq_2 _ s _ _ k) ?_
    refine ev_pos (by omega) ?_
    have e : wrap64 (8 - ((j + 1 : Nat) : Int) + 1) = 8 - (j : Int) := by rw [w64 (by omega) (by omega)]; omega
    rw [e, impl_bit hn]
    exact ih (crcBit n) (by omega) (crcBit_lt hn) H

theorem impl_out (s : ByteArray) (hs : s.size ≤ 140737488351232) : ∀ (d i n : Nat), s.size - i = d → i ≤ s.size → n < 4294967296 →
    Ev (fun k => impl_crcUpdate.l0 k (n : Int) s (i : Int)) ((crcL ((bl s).drop i) n ^^^ 4294967295 : Nat) : Int) := by
  intro d
  induction d with
  | zero =>
    intro i n hd hi hn
    refine ev_step (fun k => impl_crcUpdate.l0.eq_2 _ s _ k) ?_
    refine ev_neg (by omega) (ev_some ?_)
    rw [bl_drop_end s i (by omega)]
    show bits .xor .u32 4294967295 (n : Int) = ((n ^^^ 4294967295 : Nat) : Int)
    rw [Nat.xor_comm]
    exact u32_xor_nat 4294967295 n (by decide) hn
  | succ d ih =>
    intro i n hd hi hn
    have hlt : i < s.size := by omega
    refine ev_step (fun k => impl_crcUpdate.l0.eq_2 _ s _ k) ?_
    refine ev_pos (by omega) (ev_pos (by omega) ?_)
    rw [bt_nat s i hlt, bl_drop s i hlt]
    have hb := byte_lt s[i]
    have em : ((s[i].toNat : Int)) % 4294967296 = (s[i].toNat : Int) := by omega
    rw [em, u32_xor_nat n _ (by omega) (by omega)]
    have hx : n ^^^ s[i].toNat < 4294967296 := xor_lt hn (by omega)
    have := impl_in s (i : Int) ((crcL (s[i] :: (bl s).drop (i + 1)) n ^^^ 4294967295 : Nat) : Int) 8 (n ^^^ s[i].toNat) (by omega) hx
    refine this ?_
    have e : wrap64 ((i : Int) + 1) = ((i + 1 : Nat) : Int) := by rw [w64 (by omega) (by omega)]; omega
    rw [e]
    exact ih (i + 1) _ (by omega) (by omega) (crcBits_lt 8 _ hx)

theorem impl_crc (s : ByteArray) (hs : s.size ≤ 140737488351232) : Ev (fun k => impl_Crc.f k s) ((crc s : Nat) : Int) := by
  have h0 : bits .xor .u32 4294967295 0 = ((4294967295 : Nat) : Int) := by
    have := u32_xor_nat 4294967295 0 (by decide) (by decide)
    rw [Nat.xor_zero] at this
    exact this
  have h1 : Ev (fun k => impl_crcUpdate.l0 k ((4294967295 : Nat) : Int) s ((0 : Nat) : Int)) ((crc s : Nat) : Int) :=
    impl_out s hs s.size 0 4294967295 (by omega) (by omega) (by decide)
  have hc := crc_lt s
  unfold impl_Crc.f impl_crcUpdate.f
  rw [h0]
  exact Ev.bind h1 (ev_some (w64 (by omega) (by omega)))
end Go.Proofs.Ytdhiomoomobhfaa.M
