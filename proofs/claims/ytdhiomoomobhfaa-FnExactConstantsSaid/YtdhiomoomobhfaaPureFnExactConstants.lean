/- The law FnExactConstants answers true: every constant of the program is the one that the law names. It holds for every call (the law takes no argument). -/
import Derived.Test.YtdhiomoomobhfaaPFnExactConstantsx1
namespace Go.Proofs.Ytdhiomoomobhfaa.Pure
open Go.RowKit Go.Proofs.Ytdhiomoomobhfaa.PFnExactConstants Go.Proofs.YtdhiomoomobhfaaW.PrintWords Go.Proofs.YtdhiomoomobhfaaW.PrintLast

theorem FnExactConstants : laws_FnExactConstants.Pure := by
  unfold laws_FnExactConstants.Pure laws_FnExactConstants.f
  rfl

end Go.Proofs.Ytdhiomoomobhfaa.Pure
