-- Written by pp.sh, a program of this claim's session (a turned print): Lean checks it.
import Derived.Test.YtdhiomoomobhfaaProg
import Derived.Below
import Derived.Deep.Draws
import Derived.Deep.AppendLies
import Derived.Maps.AppendAt
import Derived.OwnWalk
import Derived.Laws.BytesArg
import Derived.Laws.MakeOwn
import Derived.Laws.OwnMore
import Derived.Deep.OwnRows
import Derived.Tactics
import Derived.Lib.ConvBytes
import Derived.Laws.Slices
import Derived.WalkKit
import Derived.KernelRfl
import Derived.RowKit3
import Derived.Deep.LoopGhost
import Derived.Deep.QuietTactic
import Derived.BigQuiet
import Derived.WideLaws
import Derived.Deep.DeepCutAuto
import Derived.Deep.CutBlock
import Derived.Deep.RegionHeld3
import Derived.Laws.Rows
import Derived.Lib.AppendStr
import Derived.ArgAppend
import Derived.Laws.IdiomCopy
import Derived.OrdersHeld
import Derived.Laws.BitsLemmas
import Derived.RowKit
import Derived.Lib.Strings
import Derived.Lib.Slices
import Derived.Lib.Walk
import Derived.Lib.Bytealg
import Derived.Test.YtdhiomoomobhfaaWWords
import Derived.Test.YtdhiomoomobhfaaWLast
import Derived.Test.YtdhiomoomobhfaaWTab
import Derived.Test.YtdhiomoomobhfaaWFour
import Derived.Test.YtdhiomoomobhfaaWQPut
import Derived.Test.YtdhiomoomobhfaaWApart
import Derived.Test.YtdhiomoomobhfaaWArr
import Derived.Test.YtdhiomoomobhfaaWZeros
import Derived.Test.YtdhiomoomobhfaaWFoot
import Derived.Test.YtdhiomoomobhfaaWKept
import Derived.Test.YtdhiomoomobhfaaWShare
import Derived.Test.YtdhiomoomobhfaaWN
import Derived.Test.YtdhiomoomobhfaaWFootNe
import Derived.Test.YtdhiomoomobhfaaWAt
import Derived.Test.YtdhiomoomobhfaaWEqStruct
import Derived.Test.YtdhiomoomobhfaaWRepsOne
import Derived.Test.YtdhiomoomobhfaaWInv
import Derived.Test.YtdhiomoomobhfaaWInvWords
import Derived.Test.YtdhiomoomobhfaaWGuard
import Derived.Test.YtdhiomoomobhfaaWNEv
import Derived.Test.YtdhiomoomobhfaaWMore
namespace Go.Proofs.Ytdhiomoomobhfaa.P
open Go.RowKit Go.Proofs.YtdhiomoomobhfaaW.PrintWords Go.Proofs.YtdhiomoomobhfaaW.PrintLast Go.Proofs.YtdhiomoomobhfaaW.PrintMore
attribute [local go_sem] max2_int min2_int max_two min_two max_three min_three max_four min_four   -- for this text's walks alone
set_option linter.unusedVariables false
set_option linter.unusedSimpArgs false



def errW : Option Int → Value
  | none => .nilIface
  | some c => .iface 0 (.int .i64 c)
theorem errW_none : errW none = .nilIface := rfl
theorem errW_some (c : Int) : errW (some c) = .iface 0 (.int .i64 c) := rfl

theorem info5 : (Try.prog.info? 5).map (fun i => (i.zero, i.size, i.bytes)) = some (some (.int .u8 0), 1, 1) := by kernel_rfl
theorem info9 : (Try.prog.info? 9).map (fun i => (i.zero, i.size, i.bytes)) = some (some (.string ⟨#[]⟩), 1, 16) := by kernel_rfl
-- the values' own types

end Go.Proofs.Ytdhiomoomobhfaa.P
