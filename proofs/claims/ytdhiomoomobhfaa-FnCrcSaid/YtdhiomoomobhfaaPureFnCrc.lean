/- The law FnCrc answers true for every drawn code: the program's Crc is the reference's, of the drawn text, of 123456789 and of nothing, and lies in 0 .. 4294967295. It holds for every argument that can be read. -/
import Derived.Test.YtdhiomoomobhfaaMCrc
import Derived.Test.YtdhiomoomobhfaaMMany
namespace Go.Proofs.Ytdhiomoomobhfaa.Pure
open Go.RowKit Go.Proofs.Ytdhiomoomobhfaa.P Go.Proofs.Ytdhiomoomobhfaa.M Go.Proofs.YtdhiomoomobhfaaW.PrintWords Go.Proofs.YtdhiomoomobhfaaW.PrintLast

theorem draw_crc (l : List Int) (h : ∀ x ∈ l, (Lit.int .u8 x).wf = true) : ∃ s, Ev (fun k => spec_DrawCrc.f k l) s ∧ s.size ≤ 40 := by
  obtain ⟨b, hb, ho⟩ := open_code l h
  obtain ⟨v, hv, v0, v1⟩ := pick_ev b hb 0 40 (by omega) (by omega) (by omega)
  obtain ⟨n, rfl⟩ := Int.eq_ofNat_of_zero_le v0
  have z : (⟨#[0]⟩ : ByteArray).size = 1 := rfl
  obtain ⟨r, hr, hz⟩ := manyf_ev ⟨#[0]⟩ n (by rw [z]; omega) (by omega)
  obtain ⟨s, hs, hm⟩ := of_ev b hb (0 + 1) (by omega) (by omega) [(⟨#[]⟩ : ByteArray), (⟨#[97]⟩ : ByteArray), (⟨#[49, 50, 51, 52, 53, 54, 55, 56, 57]⟩ : ByteArray), r] (by simp)
  refine ⟨s, ?_, ?_⟩
  · unfold spec_DrawCrc.f
    refine ev_bindc ho ?_
    refine Ev.bind hv ?_
    refine Ev.bind hr ?_
    exact Ev.bind hs (ev_some rfl)
  · rw [z] at hz
    simp only [List.mem_cons, List.not_mem_nil, or_false] at hm
    rcases hm with rfl | rfl | rfl | rfl
    · decide
    · decide
    · decide
    · omega

theorem crc_nine : crc ⟨#[49, 50, 51, 52, 53, 54, 55, 56, 57]⟩ = 3421780262 := by decide +kernel
theorem crc_none : crc ⟨#[]⟩ = 0 := by decide +kernel

theorem FnCrc : laws_FnCrc.Pure := by
  intro l _ _ hl
  refine Ev.rounds (r := true) ?_
  unfold laws_FnCrc.f
  by_cases h : (l.length : Int) > 1048576
  · exact ev_pos h (ev_some rfl)
  · refine ev_neg h ?_
    obtain ⟨s, hs, hz⟩ := draw_crc l hl
    refine Ev.bind hs ?_
    refine Ev.bind (impl_crc s (by omega)) ?_
    refine Ev.bind (spec_crc s (by omega)) ?_
    refine ev_pos rfl ?_
    refine Ev.bind (impl_crc _ (by decide)) ?_
    refine ev_pos (by rw [crc_nine]; rfl) ?_
    refine Ev.bind (impl_crc _ (by decide)) ?_
    refine ev_pos (by rw [crc_none]; rfl) ?_
    have := crc_lt s
    refine ev_pos (by omega) (ev_some ?_)
    exact decide_eq_true (by omega)

end Go.Proofs.Ytdhiomoomobhfaa.Pure
