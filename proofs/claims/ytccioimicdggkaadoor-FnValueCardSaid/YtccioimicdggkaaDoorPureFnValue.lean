/- The law FnValue answers true for every two drawn codes: a value is read back from its text, and what is read of a text is written just so. It holds for every argument that can be read. -/
import Derived.Test.YtccioimicdggkaaDoorMGet
import Derived.Test.YtccioimicdggkaaDoorMMany
import Derived.Test.YtccioimicdggkaaDoorP8
namespace Go.Proofs.YtccioimicdggkaaDoor.Pure
open Go.RowKit Go.Proofs.YtccioimicdggkaaDoor.P Go.Proofs.YtccioimicdggkaaDoor.M Go.Proofs.YtccioimicdggkaaDoorW.PrintWords

theorem one_ev (b : List Int) (hb : M.Code b) (p : Int) (hp0 : 0 ≤ p) (hp1 : p ≤ 1099511627776) (l : List Int) (hl : 1 ≤ l.length) :
    ∃ v, Ev (fun k => spec_l1Rd_one.f k b p l) (v, p + 1) ∧ v ∈ l := by
  obtain ⟨v, hv, v0, v1⟩ := pick_ev b hb p (l.length : Int) hp0 hp1 (by omega)
  have hi : v.toNat < l.length := by omega
  refine ⟨rd l v, ?_, ?_⟩
  · unfold spec_l1Rd_one.f
    refine Ev.bind hv ?_
    exact ev_pos v0 (ev_pos v1 (ev_some rfl))
  · unfold rd
    rw [List.getD_eq_getElem?_getD, List.getElem?_eq_getElem hi, Option.getD_some]
    exact List.getElem_mem hi

theorem value_ev (b : List Int) (hb : M.Code b) (p : Int) (hp0 : 0 ≤ p) (hp1 : p ≤ 1000000) :
    ∃ (a n : Int) (t : ByteArray) (q : Int), Ev (fun k => spec_l12Value.f k b p) (a, n, t, q) ∧ p ≤ q ∧ q ≤ p + 2 ∧ t.size ≤ 24 ∧ -1000000000 ≤ n ∧ n ≤ 1000000000 := by
  obtain ⟨v, hv, v0, v1⟩ := pick_ev b hb p 5 hp0 (by omega) (by omega)
  by_cases h0 : v = 0
  · refine ⟨0, 0, ⟨#[]⟩, p + 1, ?_, by omega, by omega, by decide, by decide, by decide⟩
    unfold spec_l12Value.f
    exact Ev.bind hv (ev_pos h0 (ev_some rfl))
  · by_cases h1 : v = 1
    · have z : (⟨#[116]⟩ : ByteArray).size = 1 := rfl
      obtain ⟨r, hr, zr⟩ := manyf_ev ⟨#[116]⟩ 24 (by rw [z]; omega) (by omega)
      obtain ⟨s, hs, ms⟩ := of_ev b hb (p + 1) (by omega) (by omega) [(⟨#[]⟩ : ByteArray), (⟨#[97]⟩ : ByteArray), (⟨#[116, 119, 111, 32, 119, 111, 114, 100, 115]⟩ : ByteArray), (⟨#[35, 59]⟩ : ByteArray), r] (by simp)
      refine ⟨2, 0, s, p + 1 + 1, ?_, by omega, by omega, ?_, by decide, by decide⟩
      · unfold spec_l12Value.f
        exact Ev.bind hv (ev_neg h0 (ev_pos h1 (Ev.bind hr (Ev.bind hs (ev_some rfl)))))
      · rw [z] at zr
        simp only [List.mem_cons, List.not_mem_nil, or_false] at ms
        rcases ms with rfl | rfl | rfl | rfl | rfl
        · decide
        · decide
        · decide
        · decide
        · omega
    · obtain ⟨n, hn, mn⟩ := one_ev b hb (p + 1) (by omega) (by omega) [0, 1, 2, 5, (-3), 7, 1000000000, (-1000000000)] (by simp)
      have bn : -1000000000 ≤ n ∧ n ≤ 1000000000 := by
        simp only [List.mem_cons, List.not_mem_nil, or_false] at mn
        omega
      refine ⟨1, n, ⟨#[]⟩, p + 1 + 1, ?_, by omega, by omega, by decide, bn.1, bn.2⟩
      unfold spec_l12Value.f
      exact Ev.bind hv (ev_neg h0 (ev_neg h1 (Ev.bind hn (ev_some rfl))))

theorem any_ev (b : List Int) (hb : M.Code b) (p : Int) (hp0 : 0 ≤ p) (hp1 : p ≤ 1000000) :
    ∃ (a n : Int) (t : ByteArray) (q : Int), Ev (fun k => spec_l12AnyValue.f k b p) (a, n, t, q) ∧ t.size ≤ 25 := by
  obtain ⟨a, n, t, q, hv, q0, q1, zt, _, _⟩ := value_ev b hb p hp0 hp1
  obtain ⟨v, hp, v0, v1⟩ := pick_ev b hb q 16 (by omega) (by omega) (by omega)
  by_cases h0 : v = 0
  · obtain ⟨n2, hn, _⟩ := one_ev b hb (q + 1) (by omega) (by omega) [1000000001, (-1000000001), 3] (by simp)
    refine ⟨a, n2, t, q + 1 + 1, ?_, by omega⟩
    unfold spec_l12AnyValue.f
    exact Ev.bind hv (Ev.bind hp (ev_pos h0 (Ev.bind hn (ev_some rfl))))
  · by_cases h1 : v = 1
    · have z : (⟨#[117]⟩ : ByteArray).size = 1 := rfl
      obtain ⟨r, hr, zr⟩ := manyf_ev ⟨#[117]⟩ 25 (by rw [z]; omega) (by omega)
      obtain ⟨s, hs, ms⟩ := of_ev b hb (q + 1) (by omega) (by omega) [(⟨#[34]⟩ : ByteArray), (⟨#[10]⟩ : ByteArray), r, (⟨#[120]⟩ : ByteArray)] (by simp)
      refine ⟨a, n, s, q + 1 + 1, ?_, ?_⟩
      · unfold spec_l12AnyValue.f
        exact Ev.bind hv (Ev.bind hp (ev_neg h0 (ev_pos h1 (Ev.bind hr (Ev.bind hs (ev_some rfl))))))
      · rw [z] at zr
        simp only [List.mem_cons, List.not_mem_nil, or_false] at ms
        rcases ms with rfl | rfl | rfl | rfl
        · decide
        · decide
        · omega
        · decide
    · by_cases h2 : v = 2
      · obtain ⟨v2, hp2, _, _⟩ := pick_ev b hb (q + 1) 5 (by omega) (by omega) (by omega)
        refine ⟨wrap64 (v2 - 1), n, t, q + 1 + 1, ?_, by omega⟩
        unfold spec_l12AnyValue.f
        exact Ev.bind hv (Ev.bind hp (ev_neg h0 (ev_neg h1 (ev_pos h2 (Ev.bind hp2 (ev_some rfl))))))
      · refine ⟨a, n, t, q + 1, ?_, by omega⟩
        unfold spec_l12AnyValue.f
        exact Ev.bind hv (Ev.bind hp (ev_neg h0 (ev_neg h1 (ev_neg h2 (ev_some rfl)))))

theorem put_size (a b : Int) (t : ByteArray) (ht : t.size ≤ 25) (h0 : -1000000000 ≤ b) (h1 : b ≤ 1000000000) : (putV a b t).size ≤ 1000000000000 := by
  unfold putV
  split
  · have hl := dig_len b.natAbs
    have hl2 := dig_len b.toNat
    have hi : (Lib.itoa b).length ≤ 1000000000000 := by
      unfold Lib.itoa
      split
      · rw [List.length_cons]; omega
      · omega
    exact hi
  · split
    · have z1 : (⟨#[34]⟩ : ByteArray).size = 1 := rfl
      rw [M.size_app, M.size_app, z1]; omega
    · decide

theorem draw_get (l : List Int) (h : ∀ x ∈ l, (Lit.int .u8 x).wf = true) : ∃ s, Ev (fun k => spec_DrawValueGet.f k l) s ∧ s.size ≤ 1000000000000 := by
  obtain ⟨c, hc, ho⟩ := open_code l h
  obtain ⟨a, n, t, q, hv, q0, q1, zt, n0, n1⟩ := value_ev c hc 0 (by omega) (by omega)
  have hput := spec_l1Put_ev a n t (fun _ => ⟨by omega, by omega⟩) (fun _ => by omega)
  have hz := put_size a n t (by omega) n0 n1
  obtain ⟨s, hs, ms⟩ := of_ev c hc q (by omega) (by omega) [putV a n t, (⟨#[110, 111, 110, 101]⟩ : ByteArray), (⟨#[48, 49]⟩ : ByteArray), (⟨#[45, 48]⟩ : ByteArray), (⟨#[34]⟩ : ByteArray), (⟨#[34, 97]⟩ : ByteArray), (⟨#[43, 49]⟩ : ByteArray), (⟨#[49, 48, 48, 48, 48, 48, 48, 48, 48, 49]⟩ : ByteArray), (⟨#[110, 111, 116, 104, 105, 110, 103]⟩ : ByteArray), (⟨#[]⟩ : ByteArray)] (by simp)
  refine ⟨s, ?_, ?_⟩
  · unfold spec_DrawValueGet.f
    exact ev_bindc ho (Ev.bind hv (Ev.bind hput (Ev.bind hs (ev_some rfl))))
  · rcases List.mem_cons.1 ms with rfl | ms
    · exact hz
    · have : ∀ x ∈ [(⟨#[110, 111, 110, 101]⟩ : ByteArray), (⟨#[48, 49]⟩ : ByteArray), (⟨#[45, 48]⟩ : ByteArray), (⟨#[34]⟩ : ByteArray), (⟨#[34, 97]⟩ : ByteArray), (⟨#[43, 49]⟩ : ByteArray), (⟨#[49, 48, 48, 48, 48, 48, 48, 48, 48, 49]⟩ : ByteArray), (⟨#[110, 111, 116, 104, 105, 110, 103]⟩ : ByteArray), (⟨#[]⟩ : ByteArray)], x.size ≤ 1000000000000 := by decide
      exact this s ms

theorem FnValue : laws_FnValue.Pure := by
  intro l1 l2 _ _ hl1 _ _ hl2
  refine Ev.rounds (r := true) ?_
  have main : ∀ b : Bool, Ev (fun k => laws_FnValue.j0 k l1 l2 b) true := by
    intro b
    refine ev_step (fun k => laws_FnValue.j0.eq_2 _ _ _ k) ?_
    by_cases hb : b = true
    · exact ev_pos hb (ev_some rfl)
    · refine ev_neg hb ?_
      obtain ⟨c, hc, ho⟩ := open_code l1 hl1
      obtain ⟨a, n, t, q, hv, zt⟩ := any_ev c hc 0 (by omega) (by omega)
      have hd : Ev (fun k => spec_DrawValuePut.f k l1) (a, n, t) := by
        unfold spec_DrawValuePut.f
        exact ev_bindc ho (Ev.bind hv (ev_some rfl))
      have hj1 : Ev (fun k => laws_FnValue.j1 k l2 false) true := by
        refine ev_step (fun k => laws_FnValue.j1.eq_2 _ _ k) ?_
        refine ev_neg (by decide) ?_
        obtain ⟨s, hs, zs⟩ := draw_get l2 hl2
        refine Ev.bind hs (Ev.bind (impl_get s (by omega)) (Ev.bind (spec_get s (by omega)) ?_))
        refine ev_pos (by simp) (ev_pos (by simp) ?_)
        by_cases h : (getR s).2.2.2 = true
        · obtain ⟨g1, g2⟩ := getR_true h
          refine ev_pos h ?_
          have hz : (getR s).2.2.1.size ≤ 9223372036854775807 := by
            rcases ok_cases g1 with ⟨_, _, e⟩ | ⟨_, _, _, e⟩ | ⟨_, _, e⟩
            · rw [e]; decide
            · rw [e]; decide
            · omega
          refine Ev.bind (impl_put _ _ _ hz) (ev_some ?_)
          unfold putOk
          rw [if_pos g1, g2]
          simp
        · exact ev_neg h (ev_some rfl)
      have ht : t.size ≤ 9223372036854775807 := by omega
      refine Ev.bind hd (Ev.bind (impl_put a n t ht) ?_)
      by_cases hok : okV a n t = true
      · have hp : putOk a n t = putV a n t := by unfold putOk; rw [if_pos hok]
        have hn : -1000000000 ≤ n ∧ n ≤ 1000000000 := by
          rcases ok_cases hok with ⟨_, e, _⟩ | ⟨_, e1, e2, _⟩ | ⟨_, e, _⟩ <;> omega
        have hz := put_size a n t zt hn.1 hn.2
        have hne : (putV a n t).toList ≠ [] := by rw [bl_toList]; exact put_ne
        rw [hp]
        refine Ev.bind (impl_get _ (by omega)) (Ev.bind (by have := spec_put a n t ht; rw [hp] at this; exact this) (ev_pos rfl ?_))
        refine Ev.bind (impl_ok a n t ht) (Ev.bind (spec_ok a n t ht) (ev_neg (by simp) ?_))
        rw [getR_put hok]
        refine ev_neg (by simp [hne]) (ev_pos rfl ?_)
        simp only [beq_self_eq_true, Bool.not_true, Bool.or_self]
        exact hj1
      · have hp : putOk a n t = ⟨#[]⟩ := by unfold putOk; rw [if_neg hok]
        rw [hp]
        refine Ev.bind (impl_get _ (by decide)) (Ev.bind (by have := spec_put a n t ht; rw [hp] at this; exact this) (ev_pos rfl ?_))
        refine Ev.bind (impl_ok a n t ht) (Ev.bind (spec_ok a n t ht) (ev_neg (by simp) ?_))
        rw [getR_empty]
        refine ev_neg (by rw [bl_toList]; decide) (ev_neg (by decide) ?_)
        exact hj1
  unfold laws_FnValue.f
  by_cases h : (l1.length : Int) > 1048576
  · exact ev_pos h (main _)
  · exact ev_neg h (main _)
end Go.Proofs.YtccioimicdggkaaDoor.Pure
