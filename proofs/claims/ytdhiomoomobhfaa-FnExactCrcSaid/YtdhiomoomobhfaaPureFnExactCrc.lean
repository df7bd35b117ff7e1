/- The law FnExactCrc answers true for every text: the program's Crc and the reference's are one number. It holds for every argument that can be read (a text of at most 2^47 bytes, which every row says). -/
import Derived.Test.YtdhiomoomobhfaaMCrc
namespace Go.Proofs.Ytdhiomoomobhfaa.Pure
open Go.RowKit Go.Proofs.Ytdhiomoomobhfaa.P Go.Proofs.Ytdhiomoomobhfaa.M Go.Proofs.YtdhiomoomobhfaaW.PrintWords Go.Proofs.YtdhiomoomobhfaaW.PrintLast

theorem FnExactCrc : laws_FnExactCrc.Pure := by
  intro s hs
  refine Ev.rounds (r := true) ?_
  unfold laws_FnExactCrc.f
  by_cases h : (s.size : Int) > 1048576
  · exact ev_pos h (ev_some rfl)
  · refine ev_neg h ?_
    refine Ev.bind (spec_crc s hs) ?_
    refine Ev.bind (impl_crc s hs) ?_
    exact ev_pos rfl (ev_some rfl)

end Go.Proofs.Ytdhiomoomobhfaa.Pure
