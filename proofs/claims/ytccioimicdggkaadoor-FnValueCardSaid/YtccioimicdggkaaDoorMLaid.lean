/- The package-level variables that these rows list: what the list gives the walks, and a world that meets it. No condition. -/
import Derived.Test.YtccioimicdggkaaDoorRows
import Derived.Test.YtccioimicdggkaaDoorP5
import Derived.WalkKit
import Derived.ProofKit
import Derived.LaidLaws
import Derived.Lib.LaidTab
namespace Go.Proofs.YtccioimicdggkaaDoor.M
open Go.ChangeShapes Go.WideShapes Go.ChangeAt Go.RowKit
theorem own : ownKnob Tryd.prog.godebug = none := by kernel_rfl
theorem laidOut : laidOutB Tryd.prog = true := by kernel_rfl
def laidList : List (String × DataW Unit) := [("math/bits.deBruijn32tab", Rows.laid_math_bits_deBruijn32tab), ("math/bits.deBruijn64tab", Rows.laid_math_bits_deBruijn64tab), ("internal/strconv.uint64pow10", Rows.laid_internal_strconv_uint64pow10), ("strconv.ErrRange", Rows.laid_strconv_ErrRange), ("strconv.ErrSyntax", Rows.laid_strconv_ErrSyntax)]
theorem gTab : Tryd.prog.globalNamed "internal/strconv.uint64pow10" = some 2 := by kernel_rfl
theorem gTabType : (Tryd.prog.globals[2]?).map (·.type) = some 117 := by kernel_rfl
theorem gSynType : (Tryd.prog.globals[0]?).map (·.type) = some 68 := by kernel_rfl
theorem gRangeType : (Tryd.prog.globals[1]?).map (·.type) = some 68 := by kernel_rfl
theorem cells117 : Tryd.prog.cellsOf 117 = 20 := by kernel_rfl
theorem cells104 : Tryd.prog.cellsOf 104 = 1 := by kernel_rfl
theorem data_is : (Rows.laid_internal_strconv_uint64pow10 : DataW Unit) = Lib.tabData .u64 Lib.pow10Tab := by kernel_rfl

/-- WHAT THE ROW's LIST GIVES. -/
theorem tabs_of {W : World} (h : laidMetH Tryd.prog laidList W) : P.Tabs W := by
  have h' : laidMet Tryd.prog laidList W := h
  obtain ⟨ps, ⟨_, _, _, _, _, _, _, _, _, _, ⟨_, _, _, _, _, _, _, _, _, _, ⟨g, t, cs, fuel, p, q, hg, ht, hvar, hd, ⟨g1, t1, cs1, f1, p1, q1, hg1, ht1, hv1, hd1, ⟨g2, t2, cs2, f2, p2, q2, hg2, ht2, hv2, hd2, _, _⟩, _⟩, _⟩, _⟩, _⟩, _⟩ := h'
  obtain rfl := Option.some.inj (gTab.symm.trans hg)
  obtain rfl := Option.some.inj (gTabType.symm.trans ht)
  obtain rfl := Option.some.inj (P.gRange.symm.trans hg1)
  obtain rfl := Option.some.inj (gRangeType.symm.trans ht1)
  obtain rfl := Option.some.inj (P.gSyntax.symm.trans hg2)
  obtain rfl := Option.some.inj (gSynType.symm.trans ht2)
  rw [data_is] at hd
  refine ⟨?_, ?_, ?_⟩
  · show Lib.TabIs _ _ _ _ _
    unfold Lib.TabIs
    rw [hvar, ← Lib.cells_of_tab Tryd.underlying117 Tryd.underlying104 cells104 cells117 hd]
  · obtain ⟨_, u, v, e, _⟩ := iface_of_trod Tryd.underlying68 hd2
    refine ⟨u, v, ?_⟩
    rw [hv2]
    obtain ⟨l⟩ := cs2
    have e' : l = [.iface u v] := e
    rw [e']
  · obtain ⟨_, u, v, e, _⟩ := iface_of_trod Tryd.underlying68 hd1
    refine ⟨u, v, ?_⟩
    rw [hv1]
    obtain ⟨l⟩ := cs1
    have e' : l = [.iface u v] := e
    rw [e']

/-- For the witness: the settled world, the variables holding what their initialisers lay. -/
def holding (cs : Array Value) : Obj → Obj
  | .cells _ t frozen => .cells cs t frozen
  | o => o
def tab0 : Array Value := #[.int .u64 1, .int .u64 10, .int .u64 100, .int .u64 1000, .int .u64 10000, .int .u64 100000, .int .u64 1000000, .int .u64 10000000, .int .u64 100000000, .int .u64 1000000000, .int .u64 10000000000, .int .u64 100000000000, .int .u64 1000000000000, .int .u64 10000000000000, .int .u64 100000000000000, .int .u64 1000000000000000, .int .u64 10000000000000000, .int .u64 100000000000000000, .int .u64 1000000000000000000, .int .u64 10000000000000000000]
def tab1 : Array Value := #[.int .u8 0, .int .u8 1, .int .u8 28, .int .u8 2, .int .u8 29, .int .u8 14, .int .u8 24, .int .u8 3, .int .u8 30, .int .u8 22, .int .u8 20, .int .u8 15, .int .u8 25, .int .u8 17, .int .u8 4, .int .u8 8, .int .u8 31, .int .u8 27, .int .u8 13, .int .u8 23, .int .u8 21, .int .u8 19, .int .u8 16, .int .u8 7, .int .u8 26, .int .u8 12, .int .u8 18, .int .u8 6, .int .u8 11, .int .u8 5, .int .u8 10, .int .u8 9]
def tab2 : Array Value := #[.int .u8 0, .int .u8 1, .int .u8 56, .int .u8 2, .int .u8 57, .int .u8 49, .int .u8 28, .int .u8 3, .int .u8 61, .int .u8 58, .int .u8 42, .int .u8 50, .int .u8 38, .int .u8 29, .int .u8 17, .int .u8 4, .int .u8 62, .int .u8 47, .int .u8 59, .int .u8 36, .int .u8 45, .int .u8 43, .int .u8 51, .int .u8 22, .int .u8 53, .int .u8 39, .int .u8 33, .int .u8 30, .int .u8 24, .int .u8 18, .int .u8 12, .int .u8 5, .int .u8 63, .int .u8 55, .int .u8 48, .int .u8 27, .int .u8 60, .int .u8 41, .int .u8 37, .int .u8 16, .int .u8 46, .int .u8 35, .int .u8 44, .int .u8 21, .int .u8 52, .int .u8 32, .int .u8 23, .int .u8 11, .int .u8 54, .int .u8 26, .int .u8 40, .int .u8 15, .int .u8 34, .int .u8 20, .int .u8 31, .int .u8 10, .int .u8 25, .int .u8 14, .int .u8 19, .int .u8 9, .int .u8 13, .int .u8 8, .int .u8 7, .int .u8 6]
def rangeS : ByteArray := { data := #[118, 97, 108, 117, 101, 32, 111, 117, 116, 32, 111, 102, 32, 114, 97, 110, 103, 101] }
def syntS : ByteArray := { data := #[105, 110, 118, 97, 108, 105, 100, 32, 115, 121, 110, 116, 97, 120] }
noncomputable def low : Nat := (World.holding Tryd.prog default ⟨#[], #[], []⟩).heap.size
noncomputable def laidWorld (os : Os) : World :=
  let w0 := World.holding Tryd.prog os ⟨#[.cells #[.string syntS] 126, .cells #[.string rangeS] 126], #[], []⟩
  { w0 with heap := ((((w0.heap.modify 0 (holding #[.iface 124 (.pointer (some ⟨low, 0, none⟩))])).modify 1 (holding #[.iface 124 (.pointer (some ⟨low + 1, 0, none⟩))])).modify 2 (holding tab0)).modify 3 (holding tab1)).modify 4 (holding tab2) }
end Go.Proofs.YtccioimicdggkaaDoor.M
