/- The law FnExactWords answers true for every text: the program's Words are the reference's, they lie in memory of their own, and a second call tells the same. It holds for every argument that can be read (a text of more than 2^20 bytes the law itself lets by). -/
import Derived.Test.YtdhiomoomobhfaaMSame
import Derived.Test.YtdhiomoomobhfaaP8
namespace Go.Proofs.Ytdhiomoomobhfaa.Pure
open Go.RowKit Go.Proofs.Ytdhiomoomobhfaa.P Go.Proofs.Ytdhiomoomobhfaa.M Go.Proofs.YtdhiomoomobhfaaW.PrintWords Go.Proofs.YtdhiomoomobhfaaW.PrintLast

theorem resW_len (s : ByteArray) : (resW [] (tok (bl s))).1.length ≤ s.size := by
  cases h : tok (bl s) with
  | none => simp [resW]
  | some x =>
    have := (words_len _ (bl s) (Nat.le_refl _) x h).2
    rw [bl_length] at this
    simpa [resW] using this

theorem FnExactWords : laws_FnExactWords.Pure := by
  intro s hs
  refine Ev.rounds (r := true) ?_
  unfold laws_FnExactWords.f
  by_cases h : (s.size : Int) > 1048576
  · exact ev_pos h (ev_some rfl)
  · refine ev_neg h ?_
    have hn := resW_len s
    have e1 := spec_words_f s (by omega)
    have e2 := impl_words_f s (by omega)
    generalize resW [] (tok (bl s)) = R at hn e1 e2
    obtain ⟨l, b⟩ := R
    simp only at hn
    refine Ev.bind e1 (Ev.bind e2 (Ev.bind (eqS_refl l (by omega)) (ev_pos rfl ?_)))
    refine ev_step (fun k => laws_FnExactWords.j0.eq_2 _ _ _ _ _ k) ?_
    refine ev_neg (by simp) ?_
    refine Ev.bind (markS_f l (by omega)) (Ev.bind (heldS_f l.length (by omega)) ?_)
    refine ev_neg (by omega) (ev_pos rfl ?_)
    refine Ev.bind e2 (Ev.bind (eqS_refl l (by omega)) (ev_pos rfl ?_))
    refine ev_step (fun k => laws_FnExactWords.j1.eq_2 _ _ _ k) ?_
    refine ev_neg (by simp) ?_
    refine Ev.bind (heldS_f l.length (by omega)) ?_
    exact ev_neg (by omega) (ev_pos rfl (ev_some rfl))

end Go.Proofs.Ytdhiomoomobhfaa.Pure
