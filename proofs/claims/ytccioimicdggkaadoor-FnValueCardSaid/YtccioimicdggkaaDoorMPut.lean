/- The program's ValuePut and the reference's write the same text. Condition: a text of at most 2^63 - 1 bytes. -/
import Derived.Test.YtccioimicdggkaaDoorMDec
import Derived.Test.YtccioimicdggkaaDoorP7
import Derived.Test.YtccioimicdggkaaDoorMValue
namespace Go.Proofs.YtccioimicdggkaaDoor.M
open Go.RowKit Go.Proofs.YtccioimicdggkaaDoorW.PrintWords Go.Proofs.YtccioimicdggkaaDoor.P

/-- a value's text -/
def putV (a b : Int) (t : ByteArray) : ByteArray :=
  if a = 1 then ⟨(Lib.itoa b).toArray⟩ else if a = 2 then (⟨#[34]⟩ : ByteArray) ++ t ++ (⟨#[34]⟩ : ByteArray) else ⟨#[110, 111, 110, 101]⟩
def putOk (a b : Int) (t : ByteArray) : ByteArray := if okV a b t = true then putV a b t else ⟨#[]⟩

theorem ok_num {a b : Int} {t : ByteArray} (h : okV a b t = true) (ha : a = 1) : -1000000000 ≤ b ∧ b ≤ 1000000000 := by
  subst ha
  unfold okV at h
  rw [if_neg (by decide), if_pos rfl] at h
  by_cases hb : b ≥ -1000000000 ∧ b ≤ 1000000000
  · exact hb
  · rw [if_neg hb] at h; cases h
theorem ok_text {a b : Int} {t : ByteArray} (h : okV a b t = true) (ha : a = 2) : t.size ≤ 24 ∧ b = 0 ∧ seenL (bl t) = true := by
  subst ha
  unfold okV at h
  rw [if_neg (by decide), if_neg (by decide), if_pos rfl] at h
  by_cases hb : b = 0
  · rw [if_pos hb, Bool.and_eq_true] at h
    exact ⟨of_decide_eq_true h.2, hb, h.1⟩
  · rw [if_neg hb] at h; cases h

theorem spec_l1Put_ev (a b : Int) (t : ByteArray) (h1 : a = 1 → -9223372036854775807 ≤ b ∧ b ≤ 9223372036854775807) (h2 : a = 2 → t.size ≤ 1000) : Ev (fun k => spec_l1Put.f k a b t) (putV a b t) := by
  unfold spec_l1Put.f putV
  by_cases ha : a = 1
  · rw [if_pos ha]
    exact ev_pos ha (Ev.bind (dec_ev b (h1 ha).1 (h1 ha).2) (ev_some rfl))
  · rw [if_neg ha]
    refine ev_neg ha ?_
    by_cases hb : a = 2
    · have hs := h2 hb
      have z1 : (⟨#[34]⟩ : ByteArray).size = 1 := rfl
      have z2 : ((⟨#[34]⟩ : ByteArray) ++ t).size = 1 + t.size := by rw [size_app, z1]
      simp only [if_pos hb]
      exact ev_pos (by omega) (ev_pos (by omega) (ev_some rfl))
    · simp only [if_neg hb]
      exact ev_some rfl

theorem spec_put (a b : Int) (t : ByteArray) (ht : t.size ≤ 9223372036854775807) : Ev (fun k => spec_ValuePut.f k a b t) (putOk a b t) := by
  unfold spec_ValuePut.f putOk
  refine Ev.bind (spec_ok a b t ht) ?_
  by_cases h : okV a b t = true
  · rw [if_pos h]
    refine ev_pos h (Ev.bind (spec_l1Put_ev a b t (fun ha => by have := ok_num h ha; omega) (fun ha => by have := (ok_text h ha).1; omega)) (ev_some rfl))
  · rw [if_neg h]
    exact ev_neg h (ev_some rfl)

theorem impl_put_some (a b : Int) (t : ByteArray) (h : okV a b t = true) : impl_Value_put.f a b t = some (putV a b t) := by
  unfold impl_Value_put.f putV
  by_cases ha : a = 1
  · have hb := ok_num h ha
    rw [if_pos ha, if_pos ha]
    unfold strconv_Itoa.f
    rw [if_pos ⟨by omega, by omega⟩]; rfl
  · rw [if_neg ha, if_neg ha]
    by_cases hb : a = 2
    · have hs := (ok_text h hb).1
      have z1 : (⟨#[34]⟩ : ByteArray).size = 1 := rfl
      have z2 : ((⟨#[34]⟩ : ByteArray) ++ t).size = 1 + t.size := by rw [size_app, z1]
      rw [if_pos hb, if_pos hb, if_pos (by omega), if_pos (by omega)]
    · rw [if_neg hb, if_neg hb]

theorem impl_put (a b : Int) (t : ByteArray) (ht : t.size ≤ 9223372036854775807) : Ev (fun k => impl_ValuePut.f k a b t) (putOk a b t) := by
  unfold impl_ValuePut.f putOk
  refine Ev.bind (impl_ok a b t ht) ?_
  by_cases h : okV a b t = true
  · simp only [if_pos h]
    exact ev_bindc (impl_put_some a b t h) (ev_some rfl)
  · simp only [if_neg h]
    exact ev_some rfl
end Go.Proofs.YtccioimicdggkaaDoor.M
