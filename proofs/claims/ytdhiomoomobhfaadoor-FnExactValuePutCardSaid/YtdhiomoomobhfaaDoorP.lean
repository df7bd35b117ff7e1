-- Written by pp.sh, a program of this claim's session (a turned print): Lean checks it.
import Derived.Test.YtdhiomoomobhfaaDoorP0
import Derived.Test.YtdhiomoomobhfaaDoorP1
import Derived.Test.YtdhiomoomobhfaaDoorP2
namespace Go.Proofs.YtdhiomoomobhfaaDoor.P
open Go.RowKit Go.Proofs.YtdhiomoomobhfaaDoorW.PrintWords Go.Proofs.YtdhiomoomobhfaaDoorW.PrintLast Go.Proofs.YtdhiomoomobhfaaDoorW.PrintMore
attribute [local go_sem] max2_int min2_int max_two min_two max_three min_three max_four min_four   -- for this text's walks alone
set_option linter.unusedVariables false
set_option linter.unusedSimpArgs false

end Go.Proofs.YtdhiomoomobhfaaDoor.P
