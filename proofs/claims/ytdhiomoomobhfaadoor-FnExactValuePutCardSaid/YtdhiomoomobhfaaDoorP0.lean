-- Written by pp.sh, a program of this claim's session (a turned print): Lean checks it.
import Derived.Test.YtdhiomoomobhfaaDoorProg
import Derived.Below
import Derived.Deep.Draws
import Derived.Deep.AppendLies
import Derived.Maps.AppendAt
import Derived.OwnWalk
import Derived.Laws.BytesArg
import Derived.Laws.MakeOwn
import Derived.Laws.OwnMore
import Derived.Deep.OwnRows
import Derived.Tactics
import Derived.Lib.ConvBytes
import Derived.Laws.Slices
import Derived.WalkKit
import Derived.KernelRfl
import Derived.RowKit3
import Derived.Deep.LoopGhost
import Derived.Deep.QuietTactic
import Derived.BigQuiet
import Derived.WideLaws
import Derived.Deep.DeepCutAuto
import Derived.Deep.CutBlock
import Derived.Deep.RegionHeld3
import Derived.Laws.Rows
import Derived.Lib.AppendStr
import Derived.ArgAppend
import Derived.Laws.IdiomCopy
import Derived.OrdersHeld
import Derived.Laws.BitsLemmas
import Derived.RowKit
import Derived.Lib.Strings
import Derived.Lib.Slices
import Derived.Lib.Walk
import Derived.Lib.Bytealg
import Derived.Lib.AppendIntMem
import Derived.Lib.LaidTab
import Derived.Test.YtdhiomoomobhfaaDoorShelf
import Derived.Test.YtdhiomoomobhfaaDoorWWords
import Derived.Test.YtdhiomoomobhfaaDoorWLast
import Derived.Test.YtdhiomoomobhfaaDoorWTab
import Derived.Test.YtdhiomoomobhfaaDoorWFour
import Derived.Test.YtdhiomoomobhfaaDoorWQPut
import Derived.Test.YtdhiomoomobhfaaDoorWApart
import Derived.Test.YtdhiomoomobhfaaDoorWArr
import Derived.Test.YtdhiomoomobhfaaDoorWZeros
import Derived.Test.YtdhiomoomobhfaaDoorWFoot
import Derived.Test.YtdhiomoomobhfaaDoorWKept
import Derived.Test.YtdhiomoomobhfaaDoorWShare
import Derived.Test.YtdhiomoomobhfaaDoorWN
import Derived.Test.YtdhiomoomobhfaaDoorWFootNe
import Derived.Test.YtdhiomoomobhfaaDoorWAt
import Derived.Test.YtdhiomoomobhfaaDoorWEqStruct
import Derived.Test.YtdhiomoomobhfaaDoorWRepsOne
import Derived.Test.YtdhiomoomobhfaaDoorWInv
import Derived.Test.YtdhiomoomobhfaaDoorWInvWords
import Derived.Test.YtdhiomoomobhfaaDoorWGuard
import Derived.Test.YtdhiomoomobhfaaDoorWNEv
import Derived.Test.YtdhiomoomobhfaaDoorWMore
namespace Go.Proofs.YtdhiomoomobhfaaDoor.P
open Go.RowKit Go.Proofs.YtdhiomoomobhfaaDoorW.PrintWords Go.Proofs.YtdhiomoomobhfaaDoorW.PrintLast Go.Proofs.YtdhiomoomobhfaaDoorW.PrintMore
attribute [local go_sem] max2_int min2_int max_two min_two max_three min_three max_four min_four   -- for this text's walks alone
set_option linter.unusedVariables false
set_option linter.unusedSimpArgs false



def errW : Option Int → Value
  | none => .nilIface
  | some c => .iface 0 (.int .i64 c)
theorem errW_none : errW none = .nilIface := rfl
theorem errW_some (c : Int) : errW (some c) = .iface 0 (.int .i64 c) := rfl

theorem info5 : (Tryd.prog.info? 5).map (fun i => (i.zero, i.size, i.bytes)) = some (some (.int .u8 0), 1, 1) := by kernel_rfl
-- the values' own types

/-! the library's table, as the row lists it -/
def Tabs (w : World) : Prop := Lib.TabIs Tryd.prog w "internal/strconv.uint64pow10" .u64 Lib.pow10Tab
theorem tabs_step {w w' : World} (h : Tabs w) (hb : Below w.heap.size w w') : Tabs w' := Lib.tabBelow_of_tabIs h w' hb

end Go.Proofs.YtdhiomoomobhfaaDoor.P
