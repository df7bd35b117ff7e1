/- The law FnWords answers true for every drawn code: words with blanks between, and the text with a note behind it, have the same words. It holds for every argument that can be read. -/
import Derived.Test.YtdhiomoomobhfaaMDrawWords
import Derived.Test.YtdhiomoomobhfaaP9
namespace Go.Proofs.Ytdhiomoomobhfaa.Pure
open Go.RowKit Go.Proofs.Ytdhiomoomobhfaa.P Go.Proofs.Ytdhiomoomobhfaa.M Go.Proofs.YtdhiomoomobhfaaW.PrintWords Go.Proofs.YtdhiomoomobhfaaW.PrintLast

theorem bl_app (a b : ByteArray) : bl (a ++ b) = bl a ++ bl b := ByteArray.toList_data_append

/-- the loop that writes the words with a blank behind each -/
theorem spaced_loop (t : ByteArray) (x : List (List UInt8)) (hx : x.length < 1099511627776) (r : Bool) (end_ : ∀ out, bl out = spaced x → Ev (fun k => laws_FnWords.l0 k t (x.map ofL) out ((x.map ofL).length : Int)) r)
    (hz : (spaced x).length < 1099511627776) : ∀ (post pre : List (List UInt8)) (out : ByteArray), x = pre ++ post → bl out ++ spaced post = spaced x →
    Ev (fun k => laws_FnWords.l0 k t (x.map ofL) out (pre.length : Int)) r := by
  intro post
  induction post with
  | nil =>
    intro pre out h ho
    rw [List.append_nil] at h
    subst h
    have := end_ out (by simpa [spaced] using ho)
    rw [List.length_map] at this
    exact this
  | cons w post ih =>
    intro pre out h ho
    have hl : (x.map ofL).length = pre.length + (post.length + 1) := by rw [List.length_map, h, List.length_append, List.length_cons]
    have hrd : rdOf ByteArray.empty (x.map ofL) (pre.length : Int) = ofL w := by
      unfold rdOf
      rw [Int.toNat_natCast, List.getD_eq_getElem?_getD, h, List.map_append, List.getElem?_append_right (by rw [List.length_map]; exact Nat.le_refl _), List.length_map, Nat.sub_self]
      rfl
    have hlo := congrArg List.length ho
    simp only [spaced, List.length_append, List.length_cons] at hlo
    rw [bl_length] at hlo
    have hw : (ofL w).size = w.length := rfl
    have hs : (out ++ ofL w).size = out.size + w.length := by rw [size_app, hw]
    have hxl : x.length = pre.length + (post.length + 1) := by rw [← hl, List.length_map]
    refine ev_step (fun k => laws_FnWords.l0.eq_2 _ _ _ _ k) ?_
    refine ev_pos (by rw [hl]; omega) (ev_pos (by omega) ?_)
    rw [hrd]
    refine ev_pos (by rw [hw]; omega) (ev_pos (by rw [hs]; omega) ?_)
    have e : wrap64 ((pre.length : Int) + 1) = (((pre ++ [w]).length : Nat) : Int) := by
      rw [List.length_append, List.length_singleton, w64 (by omega) (by omega)]; omega
    rw [e]
    clear e
    refine ih (pre ++ [w]) (out ++ ofL w ++ ⟨#[32]⟩) (by rw [h, List.append_assoc]; rfl) ?_
    rw [bl_app, bl_app, ← ho]
    show bl out ++ w ++ [32] ++ spaced post = bl out ++ (w ++ 32 :: spaced post)
    simp

theorem FnWords : laws_FnWords.Pure := by
  intro l _ _ hl
  refine Ev.rounds (r := true) ?_
  unfold laws_FnWords.f
  by_cases h : (l.length : Int) > 1048576
  · exact ev_pos h (ev_some rfl)
  · refine ev_neg h ?_
    obtain ⟨s, hs, hz⟩ := draw_words_f l hl
    refine Ev.bind hs (Ev.bind (impl_words_f s (by omega)) (Ev.bind (spec_words_f s (by omega)) ?_))
    cases ht : tok (bl s) with
    | none =>
      simp only [resW]
      refine ev_neg (by decide) (Ev.bind (bk_refl [] (by decide)) (ev_pos rfl ?_))
      refine ev_step (fun k => laws_FnWords.j0.eq_2 _ _ _ _ _ _ k) ?_
      exact ev_pos rfl (ev_pos rfl (Ev.bind (bk_refl [] (by decide)) (ev_some rfl)))
    | some x =>
      have hw := words_len _ (bl s) (Nat.le_refl _) x ht
      rw [bl_length] at hw
      have hm : (x.map ofL).length = x.length := List.length_map _
      simp only [resW, List.nil_append]
      refine ev_neg (by decide) (Ev.bind (bk_refl (x.map ofL) (by omega)) (ev_pos rfl ?_))
      refine ev_step (fun k => laws_FnWords.j0.eq_2 _ _ _ _ _ _ k) ?_
      refine ev_neg (by decide) ?_
      refine spaced_loop s x (by omega) true ?_ (by omega) x [] ⟨#[]⟩ rfl rfl
      intro out ho
      have hol := congrArg List.length ho
      rw [bl_length] at hol
      have t1 : tok (bl out) = some x := by rw [ho]; exact tok_spaced x (fine_of_tok _ _ (Nat.le_refl _) x ht)
      have t2 : tok (bl (s ++ (⟨#[10, 35, 32, 110, 111, 116, 101]⟩ : ByteArray))) = some x := by
        rw [bl_app]
        show tok (bl s ++ 10 :: [35, 32, 110, 111, 116, 101]) = some x
        rw [tok_line _ _ _ (Nat.le_refl _) x ht]
        have : tok [35, 32, 110, 111, 116, 101] = some [] := by decide
        rw [this]
        simp
      have z7 : (⟨#[10, 35, 32, 110, 111, 116, 101]⟩ : ByteArray).size = 7 := rfl
      have i1 := impl_words_f out (by omega)
      have i2 := impl_words_f (s ++ (⟨#[10, 35, 32, 110, 111, 116, 101]⟩ : ByteArray)) (by rw [size_app, z7]; omega)
      rw [t1] at i1
      rw [t2] at i2
      simp only [resW, List.nil_append] at i1 i2
      refine ev_step (fun k => laws_FnWords.l0.eq_2 _ _ _ _ k) ?_
      refine ev_neg (by omega) (Ev.bind i1 (ev_pos (by omega) (Ev.bind i2 (ev_pos rfl (ev_pos rfl ?_)))))
      exact Ev.bind (bk_refl (x.map ofL) (by omega)) (ev_pos rfl (Ev.bind (bk_refl (x.map ofL) (by omega)) (ev_some rfl)))

end Go.Proofs.Ytdhiomoomobhfaa.Pure
