/- The law FnWordsTwo answers true for every two drawn codes: words of two texts with a line end between are those of both. It holds for every argument that can be read. -/
import Derived.Test.YtdhiomoomobhfaaMDrawWords
import Derived.Test.YtdhiomoomobhfaaP9
namespace Go.Proofs.Ytdhiomoomobhfaa.Pure
open Go.RowKit Go.Proofs.Ytdhiomoomobhfaa.P Go.Proofs.Ytdhiomoomobhfaa.M Go.Proofs.YtdhiomoomobhfaaW.PrintWords Go.Proofs.YtdhiomoomobhfaaW.PrintLast

theorem bl_app2 (a b : ByteArray) : bl (a ++ b) = bl a ++ bl b := ByteArray.toList_data_append

theorem two_close (s1 s2 : ByteArray) (x9 : List ByteArray) (l : List ByteArray) (b : Bool) (hl : l.length < 1099511627776) :
    Ev (fun k => laws_FnWordsTwo.j1 k s1 s2 l b x9 l b true) true := by
  refine ev_step (fun k => laws_FnWordsTwo.j1.eq_2 _ _ _ _ _ _ _ _ k) ?_
  exact ev_pos rfl (ev_pos (by simp) (Ev.bind (bk_refl l hl) (ev_some rfl)))

theorem FnWordsTwo : laws_FnWordsTwo.Pure := by
  intro l1 l2 _ _ hl1 _ _ hl2
  refine Ev.rounds (r := true) ?_
  unfold laws_FnWordsTwo.f
  by_cases h1 : (l1.length : Int) > 1048576
  · refine ev_pos h1 ?_
    refine ev_step (fun k => laws_FnWordsTwo.j0.eq_2 _ _ _ k) ?_
    exact ev_pos rfl (ev_some rfl)
  · refine ev_neg h1 ?_
    refine ev_step (fun k => laws_FnWordsTwo.j0.eq_2 _ _ _ k) ?_
    by_cases h2 : (l2.length : Int) > 1048576
    · exact ev_pos (decide_eq_true h2) (ev_some rfl)
    · refine ev_neg (by rw [decide_eq_false h2]; decide) ?_
      obtain ⟨s1, d1, z1⟩ := draw_words_f l1 hl1
      obtain ⟨s2, d2, z2⟩ := draw_words_f l2 hl2
      refine Ev.bind d1 (Ev.bind d2 (Ev.bind (impl_words_f s1 (by omega)) (Ev.bind (impl_words_f s2 (by omega)) (Ev.bind (spec_words_f s1 (by omega)) ?_))))
      cases t1 : tok (bl s1) with
      | none =>
        simp only [resW]
        refine ev_neg (by decide) (Ev.bind (bk_refl [] (by decide)) (ev_pos rfl ?_))
        exact ev_neg (by decide) (two_close s1 s2 _ [] false (by decide))
      | some x =>
        have w1 := words_len _ (bl s1) (Nat.le_refl _) x t1
        rw [bl_length] at w1
        have m1 : (x.map ofL).length = x.length := List.length_map _
        simp only [resW, List.nil_append]
        refine ev_neg (by decide) (Ev.bind (bk_refl (x.map ofL) (by omega)) (ev_pos rfl (ev_pos trivial ?_)))
        cases t2 : tok (bl s2) with
        | none =>
          simp only
          exact two_close s1 s2 _ _ true (by omega)
        | some y =>
          have w2 := words_len _ (bl s2) (Nat.le_refl _) y t2
          rw [bl_length] at w2
          have m2 : (y.map ofL).length = y.length := List.length_map _
          simp only
          have t3 : tok (bl (s1 ++ (⟨#[10]⟩ : ByteArray) ++ s2)) = some (x ++ y) := by
            rw [bl_app2, bl_app2, List.append_assoc]
            show tok (bl s1 ++ 10 :: bl s2) = some (x ++ y)
            rw [tok_line _ _ _ (Nat.le_refl _) x t1, t2]
            rfl
          have z0 : (⟨#[10]⟩ : ByteArray).size = 1 := rfl
          have z3 : (s1 ++ (⟨#[10]⟩ : ByteArray)).size = s1.size + 1 := size_app _ _
          have i3 := impl_words_f (s1 ++ (⟨#[10]⟩ : ByteArray) ++ s2) (by rw [size_app, z3]; omega)
          rw [t3] at i3
          simp only [resW, List.nil_append, List.map_append] at i3
          refine ev_step (fun k => laws_FnWordsTwo.j1.eq_2 _ _ _ _ _ _ _ _ k) ?_
          refine ev_neg (by decide) (ev_pos (by omega) (ev_pos (by omega) (Ev.bind i3 (ev_pos rfl ?_))))
          have e : wrap64 (((x.map ofL).length : Int) + ((y.map ofL).length : Int)) = (((x.map ofL ++ y.map ofL).length : Nat) : Int) := by
            rw [List.length_append, w64 (by omega) (by omega)]; omega
          refine ev_pos e.symm ?_
          clear e
          refine ev_pos (by omega) (ev_pos (by simp only [List.length_append]; omega) ?_)
          rw [Int.toNat_natCast, List.take_left, List.drop_left]
          exact Ev.bind (bk_refl (x.map ofL) (by omega)) (ev_pos rfl (Ev.bind (bk_refl (y.map ofL) (by omega)) (ev_some rfl)))

end Go.Proofs.Ytdhiomoomobhfaa.Pure
