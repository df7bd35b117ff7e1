/- Small plain lemmas that the pure proofs of this claim use: rounds of printed functions, wrapping, bytes of a text. No condition. -/
import Derived.Test.YtccioimicdggkaaDoorWWords
import Derived.Laws.BitsAllLaws
namespace Go.Proofs.YtccioimicdggkaaDoor.M
open Go.RowKit Go.Proofs.YtccioimicdggkaaDoorW.PrintWords

section
variable {α β : Type}
theorem ev_pos {c : Prop} [Decidable c] {g f : Nat → Option α} {r : α} (h : c) (H : Ev g r) : Ev (fun k => if c then g k else f k) r := by
  simpa only [if_pos h] using H
theorem ev_neg {c : Prop} [Decidable c] {g f : Nat → Option α} {r : α} (h : ¬ c) (H : Ev f r) : Ev (fun k => if c then g k else f k) r := by
  simpa only [if_neg h] using H
theorem ev_const {o : Option α} {r : α} (h : o = some r) : Ev (fun _ => o) r := ⟨0, fun _ _ => h⟩
theorem ev_some {a r : α} (h : a = r) : Ev (fun _ => some a) r := ⟨0, fun _ _ => by rw [h]⟩
theorem ev_bindc {o : Option β} {f : Nat → β → Option α} {a : β} {r : α} (h : o = some a) (k : Ev (fun n => f n a) r) : Ev (fun n => o.bind (f n)) r :=
  Ev.bind (g := fun _ => o) (ev_const h) k
theorem ev_step {g f : Nat → Option α} {r : α} (h : ∀ k, g (k + 1) = f k) (k : Ev f r) : Ev g r := Ev.step h k
end

theorem w64 {x : Int} (h0 : -9223372036854775808 ≤ x) (h1 : x ≤ 9223372036854775807) : wrap64 x = x := by
  unfold wrap64; omega

/-- a text's bytes -/
abbrev bl (s : ByteArray) : List UInt8 := s.data.toList
theorem bl_length (s : ByteArray) : (bl s).length = s.size := Array.length_toList
theorem bt_nat (s : ByteArray) (i : Nat) (h : i < s.size) : bt s (i : Int) = ((s[i]'h).toNat : Int) := by
  unfold bt
  simp only [Int.toNat_natCast]
  rw [dif_pos h]
theorem bl_get (s : ByteArray) (i : Nat) (h : i < s.size) : (bl s)[i]'(by rw [bl_length]; exact h) = s[i]'h := by
  show (s.data.toList)[i]'_ = _
  rw [Array.getElem_toList]; rfl
theorem bl_drop (s : ByteArray) (i : Nat) (h : i < s.size) : (bl s).drop i = s[i]'h :: (bl s).drop (i + 1) := by
  rw [List.drop_eq_getElem_cons (by rw [bl_length]; exact h), bl_get s i h]
theorem bl_drop_end (s : ByteArray) (i : Nat) (h : s.size ≤ i) : (bl s).drop i = [] := by
  rw [List.drop_eq_nil_iff, bl_length]; exact h

theorem wrap_i64_nat (n : Nat) (h : n < 9223372036854775808) : IntKind.i64.wrap (n : Int) = n := by
  simp [IntKind.wrap, IntKind.bits, IntKind.signed]; omega
theorem i64_xor_nat (a b : Nat) (ha : a < 2 ^ 62) (hb : b < 2 ^ 62) : bits .xor .i64 (a : Int) (b : Int) = ((a ^^^ b : Nat) : Int) := by
  have h : a ^^^ b < 2 ^ 62 := Nat.xor_lt_two_pow ha hb
  have hp : (2 : Nat) ^ 62 = 4611686018427387904 := by decide
  rw [hp] at ha hb h
  have ha' : a % 2 ^ 64 = a := Nat.mod_eq_of_lt (by omega)
  have hb' : b % 2 ^ 64 = b := Nat.mod_eq_of_lt (by omega)
  show IntKind.i64.wrap (((BitVec.ofInt 64 (a : Int)) ^^^ (BitVec.ofInt 64 (b : Int))).toNat : Int) = _
  rw [BitVec.ofInt_natCast, BitVec.ofInt_natCast, BitVec.toNat_xor, BitVec.toNat_ofNat, BitVec.toNat_ofNat, ha', hb']
  exact wrap_i64_nat _ (by omega)

end Go.Proofs.YtccioimicdggkaaDoor.M
