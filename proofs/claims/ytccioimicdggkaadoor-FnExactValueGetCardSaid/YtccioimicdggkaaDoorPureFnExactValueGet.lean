/- The law FnExactValueGet answers true for every text: the program's ValueGet is the reference's. It holds for every argument that can be read (a text of more than 2^20 bytes the law itself lets by). -/
import Derived.Test.YtccioimicdggkaaDoorMGet
namespace Go.Proofs.YtccioimicdggkaaDoor.Pure
open Go.RowKit Go.Proofs.YtccioimicdggkaaDoor.P Go.Proofs.YtccioimicdggkaaDoor.M Go.Proofs.YtccioimicdggkaaDoorW.PrintWords

theorem FnExactValueGet : laws_FnExactValueGet.Pure := by
  intro s hs
  refine Ev.rounds (r := true) ?_
  unfold laws_FnExactValueGet.f
  by_cases h : (s.size : Int) > 1048576
  · exact ev_pos h (ev_some rfl)
  · refine ev_neg h ?_
    refine Ev.bind (spec_get s (by omega)) (Ev.bind (impl_get s (by omega)) ?_)
    refine ev_bindc (a := true) (by unfold laws_eqValue.f; rw [if_pos rfl, if_pos rfl, if_pos rfl]) ?_
    exact ev_pos rfl (ev_neg (by simp) (ev_some rfl))
end Go.Proofs.YtccioimicdggkaaDoor.Pure
