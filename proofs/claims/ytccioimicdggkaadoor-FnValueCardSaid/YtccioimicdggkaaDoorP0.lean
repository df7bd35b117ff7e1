-- Written by pp.sh, a program of this claim's session (a turned print): Lean checks it.
import Derived.Test.YtccioimicdggkaaDoorProg
import Derived.Below
import Derived.Deep.Draws
import Derived.Deep.AppendLies
import Derived.Maps.AppendAt
import Derived.OwnWalk
import Derived.Laws.BytesArg
import Derived.Laws.MakeOwn
import Derived.Laws.OwnMore
import Derived.Deep.OwnRows
import Derived.Tactics
import Derived.Lib.ConvBytes
import Derived.Laws.Slices
import Derived.WalkKit
import Derived.KernelRfl
import Derived.RowKit3
import Derived.Deep.LoopGhost
import Derived.Deep.QuietTactic
import Derived.BigQuiet
import Derived.WideLaws
import Derived.Deep.DeepCutAuto
import Derived.Deep.CutBlock
import Derived.Deep.RegionHeld3
import Derived.Laws.Rows
import Derived.Lib.AppendStr
import Derived.ArgAppend
import Derived.Laws.IdiomCopy
import Derived.OrdersHeld
import Derived.Laws.BitsLemmas
import Derived.RowKit
import Derived.Lib.Strings
import Derived.Lib.Slices
import Derived.Lib.Walk
import Derived.Lib.Bytealg
import Derived.Lib.AppendIntMem
import Derived.Lib.LaidTab
import Derived.Lib.QuietBelow
import Derived.Test.YtccioimicdggkaaDoorShelf
import Derived.Test.YtccioimicdggkaaDoorWWords
import Derived.Test.YtccioimicdggkaaDoorWLast
import Derived.Test.YtccioimicdggkaaDoorWTab
import Derived.Test.YtccioimicdggkaaDoorWFour
import Derived.Test.YtccioimicdggkaaDoorWQPut
import Derived.Test.YtccioimicdggkaaDoorWApart
import Derived.Test.YtccioimicdggkaaDoorWArr
import Derived.Test.YtccioimicdggkaaDoorWZeros
import Derived.Test.YtccioimicdggkaaDoorWFoot
import Derived.Test.YtccioimicdggkaaDoorWKept
import Derived.Test.YtccioimicdggkaaDoorWShare
import Derived.Test.YtccioimicdggkaaDoorWN
import Derived.Test.YtccioimicdggkaaDoorWFootNe
import Derived.Test.YtccioimicdggkaaDoorWAt
import Derived.Test.YtccioimicdggkaaDoorWEqStruct
import Derived.Test.YtccioimicdggkaaDoorWRepsOne
import Derived.Test.YtccioimicdggkaaDoorWInv
import Derived.Test.YtccioimicdggkaaDoorWInvWords
import Derived.Test.YtccioimicdggkaaDoorWGuard
import Derived.Test.YtccioimicdggkaaDoorWNEv
import Derived.Test.YtccioimicdggkaaDoorWMore
namespace Go.Proofs.YtccioimicdggkaaDoor.P
open Go.RowKit Go.Proofs.YtccioimicdggkaaDoorW.PrintWords Go.Proofs.YtccioimicdggkaaDoorW.PrintLast Go.Proofs.YtccioimicdggkaaDoorW.PrintMore
attribute [local go_sem] max2_int min2_int max_two min_two max_three min_three max_four min_four   -- for this text's walks alone
set_option linter.unusedVariables false
set_option linter.unusedSimpArgs false



def errW : Option Int → Value
  | none => .nilIface
  | some c => .iface 0 (.int .i64 c)
theorem errW_none : errW none = .nilIface := rfl
theorem errW_some (c : Int) : errW (some c) = .iface 0 (.int .i64 c) := rfl

theorem info3 : (Tryd.prog.info? 3).map (fun i => (i.zero, i.size, i.bytes)) = some (some (.int .i64 0), 1, 8) := by kernel_rfl
theorem info5 : (Tryd.prog.info? 5).map (fun i => (i.zero, i.size, i.bytes)) = some (some (.int .u8 0), 1, 1) := by kernel_rfl
theorem info9 : (Tryd.prog.info? 9).map (fun i => (i.zero, i.size, i.bytes)) = some (some (.string ⟨#[]⟩), 1, 16) := by kernel_rfl
-- the values' own types

/-! the library's table, and the two errors' variables, as the row lists them -/
def Var1 (w : World) (name : String) : Prop := ∃ te pe, w.var? Tryd.prog name = some #[.iface te pe]
theorem var1_step {w w' : World} {name : String} (h : Var1 w name) (hb : Below w.heap.size w w') : Var1 w' name := by
  obtain ⟨te, pe, h⟩ := h
  refine ⟨te, pe, ?_⟩
  unfold World.var? at *
  cases hg : (Tryd.prog).globalNamed name with
  | none => simp [hg] at h
  | some g =>
    simp only [hg, Option.bind_some] at h ⊢
    have hlt : g < w.heap.size := by
      rcases Nat.lt_or_ge g w.heap.size with h' | h'
      · exact h'
      · rw [Array.getElem?_eq_none h'] at h; simp at h
    rw [hb.block g hlt]
    exact h
def Tabs (w : World) : Prop := Lib.TabIs Tryd.prog w "internal/strconv.uint64pow10" .u64 Lib.pow10Tab ∧ Var1 w "strconv.ErrSyntax" ∧ Var1 w "strconv.ErrRange"
theorem tabs_step {w w' : World} (h : Tabs w) (hb : Below w.heap.size w w') : Tabs w' := ⟨Lib.tabBelow_of_tabIs h.1 w' hb, var1_step h.2.1 hb, var1_step h.2.2 hb⟩
theorem tabs_tab {w : World} (h : Tabs w) : Lib.TabIs Tryd.prog w "internal/strconv.uint64pow10" .u64 Lib.pow10Tab := h.1
theorem gSyntax : (Tryd.prog).globalNamed "strconv.ErrSyntax" = some 0 := by kernel_rfl
theorem gRange : (Tryd.prog).globalNamed "strconv.ErrRange" = some 1 := by kernel_rfl

end Go.Proofs.YtccioimicdggkaaDoor.P
