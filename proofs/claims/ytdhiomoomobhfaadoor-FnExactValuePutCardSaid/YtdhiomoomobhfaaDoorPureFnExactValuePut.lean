/- The law FnExactValuePut answers true for every value: the program's ValuePut writes the reference's text. It holds for every argument that can be read. -/
import Derived.Test.YtdhiomoomobhfaaDoorMPut
namespace Go.Proofs.YtdhiomoomobhfaaDoor.Pure
open Go.RowKit Go.Proofs.YtdhiomoomobhfaaDoor.P Go.Proofs.YtdhiomoomobhfaaDoor.M Go.Proofs.YtdhiomoomobhfaaDoorW.PrintWords

theorem FnExactValuePut (a b : Int) (t : ByteArray) (ht : t.size ≤ maxLen) : ∃ k, laws_FnExactValuePut.f k a b t = some true := by
  unfold maxLen at ht
  refine Ev.rounds (r := true) ?_
  unfold laws_FnExactValuePut.f
  by_cases hs : (wrap64 (1048576 - (t.size : Int))) < 0
  · refine ev_bindc (o := laws_szValue.f a b t 1048576) (a := -1) (by unfold laws_szValue.f; rw [if_pos hs]) ?_
    exact ev_pos (by decide) (ev_some rfl)
  · refine ev_bindc (o := laws_szValue.f a b t 1048576) (a := wrap64 (1048576 - (t.size : Int))) (by unfold laws_szValue.f; rw [if_neg hs]) ?_
    refine ev_neg hs ?_
    refine ev_bindc (a := (a, b, t)) rfl (Ev.bind (spec_put a b t ht) ?_)
    refine ev_bindc (a := (a, b, t)) rfl (Ev.bind (impl_put a b t ht) ?_)
    exact ev_pos rfl (ev_some rfl)
end Go.Proofs.YtdhiomoomobhfaaDoor.Pure
