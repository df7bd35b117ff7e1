/- The reference's drawn words: nothing falls, and the text is short. Condition: a drawn code of bytes. And the laws' second way of holding lists of texts against each other. -/
import Derived.Test.YtdhiomoomobhfaaMSame
import Derived.Test.YtdhiomoomobhfaaP8
namespace Go.Proofs.Ytdhiomoomobhfaa.M
open Go.RowKit Go.Proofs.YtdhiomoomobhfaaW.PrintWords Go.Proofs.Ytdhiomoomobhfaa.P

theorem bk_refl (l : List ByteArray) (hl : l.length < 1099511627776) : Ev (fun k => laws_bkTexts.f k l l) true := by
  have go : ∀ (d i : Nat), l.length - i = d → i ≤ l.length → Ev (fun k => laws_bkTexts.l0 k l l (i : Int)) true := by
    intro d
    induction d with
    | zero =>
      intro i hd hi
      refine ev_step (fun k => laws_bkTexts.l0.eq_2 _ _ _ k) ?_
      exact ev_neg (by omega) (ev_some rfl)
    | succ d ih =>
      intro i hd hi
      refine ev_step (fun k => laws_bkTexts.l0.eq_2 _ _ _ k) ?_
      refine ev_pos (by omega) (ev_pos (by omega) (ev_pos (by omega) (ev_pos rfl ?_)))
      rw [w64 (by omega) (by omega)]
      exact ih (i + 1) (by omega) (by omega)
  unfold laws_bkTexts.f
  exact ev_pos rfl (go l.length 0 (by omega) (by omega))

def pieces : List ByteArray := [(⟨#[108, 101, 116]⟩ : ByteArray), (⟨#[120]⟩ : ByteArray), (⟨#[61]⟩ : ByteArray), (⟨#[61, 61]⟩ : ByteArray), (⟨#[40]⟩ : ByteArray), (⟨#[41]⟩ : ByteArray), (⟨#[59]⟩ : ByteArray), (⟨#[53]⟩ : ByteArray), (⟨#[34, 97, 32, 98, 34]⟩ : ByteArray), (⟨#[32]⟩ : ByteArray), (⟨#[10]⟩ : ByteArray), (⟨#[35, 32, 110, 111, 116, 101, 10]⟩ : ByteArray), (⟨#[43]⟩ : ByteArray), (⟨#[60]⟩ : ByteArray), (⟨#[123]⟩ : ByteArray), (⟨#[125]⟩ : ByteArray), (⟨#[34]⟩ : ByteArray)]
def odds : List ByteArray := [(⟨#[36]⟩ : ByteArray), (⟨#[1]⟩ : ByteArray), (⟨#[39]⟩ : ByteArray)]
theorem pieces_small : ∀ s ∈ pieces, s.size ≤ 7 := by decide
theorem odds_small : ∀ s ∈ odds, s.size ≤ 7 := by decide

theorem draw_words (b : List Int) (hb : Code b) : ∀ (n : Nat) (out : ByteArray) (p : Int), n ≤ 1000 → out.size + 14 * n ≤ 100000 → 0 ≤ p → p + 3 * n ≤ 10000 →
    ∃ s, Ev (fun k => spec_DrawWords.l0 k out (n : Int) b p) s ∧ s.size ≤ out.size + 14 * n := by
  intro n
  induction n with
  | zero =>
    intro out p _ _ _ _
    refine ⟨out, ?_, by omega⟩
    refine ev_step (fun k => spec_DrawWords.l0.eq_2 _ _ _ _ k) ?_
    exact ev_neg (by omega) (ev_some rfl)
  | succ n ih =>
    intro out p hn ho hp0 hp1
    obtain ⟨s1, h1, m1⟩ := of_ev b hb p hp0 (by omega) pieces (by decide)
    have z1 := pieces_small s1 m1
    obtain ⟨v, hv, v0, v1⟩ := pick_ev b hb (p + 1) 12 (by omega) (by omega) (by omega)
    have ew : wrap64 (((n + 1 : Nat) : Int) - 1) = (n : Int) := by rw [w64 (by omega) (by omega)]; omega
    have za : (out ++ s1).size = out.size + s1.size := size_app _ _
    by_cases hz : v = 0
    · obtain ⟨s2, h2, m2⟩ := of_ev b hb (p + 1 + 1) (by omega) (by omega) odds (by decide)
      have z2 := odds_small s2 m2
      have zb : (out ++ s1 ++ s2).size = (out ++ s1).size + s2.size := size_app _ _
      obtain ⟨r, hr, zr⟩ := ih (out ++ s1 ++ s2) (p + 1 + 1 + 1) (by omega) (by omega) (by omega) (by omega)
      refine ⟨r, ?_, by omega⟩
      refine ev_step (fun k => spec_DrawWords.l0.eq_2 _ _ _ _ k) ?_
      refine ev_pos (by omega) (Ev.bind h1 (ev_pos (by simp only; omega) (Ev.bind hv (ev_pos hz (Ev.bind h2 (ev_pos (by simp only; omega) ?_))))))
      rw [ew]
      exact hr
    · obtain ⟨r, hr, zr⟩ := ih (out ++ s1) (p + 1 + 1) (by omega) (by omega) (by omega) (by omega)
      refine ⟨r, ?_, by omega⟩
      refine ev_step (fun k => spec_DrawWords.l0.eq_2 _ _ _ _ k) ?_
      refine ev_pos (by omega) (Ev.bind h1 (ev_pos (by simp only; omega) (Ev.bind hv (ev_neg hz ?_))))
      rw [ew]
      exact hr

theorem draw_words_f (l : List Int) (h : ∀ x ∈ l, (Lit.int .u8 x).wf = true) : ∃ s, Ev (fun k => spec_DrawWords.f k l) s ∧ s.size ≤ 1000 := by
  obtain ⟨b, hb, ho⟩ := open_code l h
  obtain ⟨v, hv, v0, v1⟩ := pick_ev b hb 0 9 (by omega) (by omega) (by omega)
  obtain ⟨n, rfl⟩ := Int.eq_ofNat_of_zero_le v0
  have z : (⟨#[]⟩ : ByteArray).size = 0 := rfl
  obtain ⟨s, hs, hz⟩ := draw_words b hb n ⟨#[]⟩ (0 + 1) (by omega) (by omega) (by omega) (by omega)
  refine ⟨s, ?_, by omega⟩
  unfold spec_DrawWords.f
  exact ev_bindc ho (Ev.bind hv hs)
end Go.Proofs.Ytdhiomoomobhfaa.M
