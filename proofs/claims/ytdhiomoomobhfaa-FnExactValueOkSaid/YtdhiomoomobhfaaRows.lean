/-
  No cell of these rows narrows 'for every input' (looked for: loops, veiled, ifaces, maps, wideKeys, modest, calm, conditions, laid).
  DERIVED. THE GIVEN ROWS OF THIS SEAT. 7 by the template 'for every input the law returns true; each argument reads behind the call as it read before'; 0 by the template 'total and deterministic' (their statements: YtdhiomoomobhfaaTotals.lean).
  GIVEN WITH THE SEED: the statements are not yours to turn. If you find one false, say at which input.
  Laid BY PROGRAM, IN A SANDBOX (cutbox-rows.mjs): the forced cells as the released guide's own fill.sh prints them over the translation 99e9a8fad7be631b… (all of the seat's roots in one cut). By AI agents, Wed Nov 11 2026. No macro, syntax, notation, axiom, sorry.
-/
import Derived.Test.YtdhiomoomobhfaaChecked
import GoSem.Claim
import GoSem.ClaimJoined
import GoSem.ClaimMapViews
import Derived.JoinedTies
import Derived.KernelRfl
namespace Go.Proofs.Ytdhiomoomobhfaa
/- THE CELL 'sum', in the pinned program and in every row, IS THE sha256 OF THE DUMP (.gsa) THAT YtdhiomoomobhfaaProg.lean LOADS. Nothing in Lean hashes anything: it is a label: what it is worth is what the hold of that sum in a sandbox is worth. -/
noncomputable def Try.pinned : Pinned := { name := "ytdhiomoomobhfaa", sum := "99e9a8fad7be631b38b241b9fbf2854431a02b8d9483bbb4f93c395136f43183", checked := Try.checked }
namespace Rows
def none {H : Type} : Left H := { results := [], args := [] }

/-- 'laws.FnExactConstants': WHATEVER THE INPUT: true; the input reads as it did. -/
def fnExactConstantsSpec : ChangeSpec := { name := "fnExactConstants", fn := fun _ => fun
  | [] => { results := [.lit (.bool true)], args := [] }
  | _ => none }
def fnExactConstantsRow : OpenClaim := { program := "ytdhiomoomobhfaa", sum := "99e9a8fad7be631b38b241b9fbf2854431a02b8d9483bbb4f93c395136f43183", func := "loop.example/backstitch/laws.FnExactConstants", spec := "fnExactConstants", apart := false }
def FnExactConstantsSaid : Prop := fnExactConstantsRow.holds Try.pinned (OpenSpec.ofChange fnExactConstantsSpec)

/-- ITS FALSE NEIGHBOUR: 'it returns false'. Refute it at one input. -/
def fnExactConstantsWrong : ChangeSpec := { name := "fnExactConstants", fn := fun _ => fun
  | [] => { results := [.lit (.bool false)], args := [] }
  | _ => none }
def FnExactConstantsWrongFalsely : Prop := fnExactConstantsRow.holds Try.pinned (OpenSpec.ofChange fnExactConstantsWrong)

/-- 'laws.FnExactCrc': WHATEVER THE INPUT: true; the input reads as it did. -/
def fnExactCrcSpec : ChangeSpec := { name := "fnExactCrc", fn := fun _ => fun
  | [d] => { results := [.lit (.bool true)], args := [d] }
  | _ => none }
def fnExactCrcRow : OpenClaim := { program := "ytdhiomoomobhfaa", sum := "99e9a8fad7be631b38b241b9fbf2854431a02b8d9483bbb4f93c395136f43183", func := "loop.example/backstitch/laws.FnExactCrc", spec := "fnExactCrc", apart := false }
def FnExactCrcSaid : Prop := fnExactCrcRow.holds Try.pinned (OpenSpec.ofChange fnExactCrcSpec)

/-- ITS FALSE NEIGHBOUR: 'it returns false'. Refute it at one input. -/
def fnExactCrcWrong : ChangeSpec := { name := "fnExactCrc", fn := fun _ => fun
  | [d] => { results := [.lit (.bool false)], args := [d] }
  | _ => none }
def FnExactCrcWrongFalsely : Prop := fnExactCrcRow.holds Try.pinned (OpenSpec.ofChange fnExactCrcWrong)

/-- 'laws.FnExactValueOk': WHATEVER THE INPUT: true; the input reads as it did. -/
def fnExactValueOkSpec : ChangeSpec := { name := "fnExactValueOk", fn := fun _ => fun
  | [d] => { results := [.lit (.bool true)], args := [d] }
  | _ => none }
def fnExactValueOkRow : OpenClaim := { program := "ytdhiomoomobhfaa", sum := "99e9a8fad7be631b38b241b9fbf2854431a02b8d9483bbb4f93c395136f43183", func := "loop.example/backstitch/laws.FnExactValueOk", spec := "fnExactValueOk", apart := false }
def FnExactValueOkSaid : Prop := fnExactValueOkRow.holds Try.pinned (OpenSpec.ofChange fnExactValueOkSpec)

/-- ITS FALSE NEIGHBOUR: 'it returns false'. Refute it at one input. -/
def fnExactValueOkWrong : ChangeSpec := { name := "fnExactValueOk", fn := fun _ => fun
  | [d] => { results := [.lit (.bool false)], args := [d] }
  | _ => none }
def FnExactValueOkWrongFalsely : Prop := fnExactValueOkRow.holds Try.pinned (OpenSpec.ofChange fnExactValueOkWrong)

/-- 'laws.FnCrc': WHATEVER THE INPUT: true; the input reads as it did. -/
def fnCrcSpec : ChangeSpec := { name := "fnCrc", fn := fun _ => fun
  | [d] => { results := [.lit (.bool true)], args := [d] }
  | _ => none }
def fnCrcRow : OpenClaim := { program := "ytdhiomoomobhfaa", sum := "99e9a8fad7be631b38b241b9fbf2854431a02b8d9483bbb4f93c395136f43183", func := "loop.example/backstitch/laws.FnCrc", spec := "fnCrc", apart := false }
def FnCrcSaid : Prop := fnCrcRow.holds Try.pinned (OpenSpec.ofChange fnCrcSpec)

/-- ITS FALSE NEIGHBOUR: 'it returns false'. Refute it at one input. -/
def fnCrcWrong : ChangeSpec := { name := "fnCrc", fn := fun _ => fun
  | [d] => { results := [.lit (.bool false)], args := [d] }
  | _ => none }
def FnCrcWrongFalsely : Prop := fnCrcRow.holds Try.pinned (OpenSpec.ofChange fnCrcWrong)

/-- 'laws.FnExactWords': WHATEVER THE INPUT: true; the input reads as it did. -/
def fnExactWordsSpec : ChangeSpec := { name := "fnExactWords", fn := fun _ => fun
  | [d] => { results := [.lit (.bool true)], args := [d] }
  | _ => none }
def fnExactWordsRow : OpenClaim := { program := "ytdhiomoomobhfaa", sum := "99e9a8fad7be631b38b241b9fbf2854431a02b8d9483bbb4f93c395136f43183", func := "loop.example/backstitch/laws.FnExactWords", spec := "fnExactWords", inPlace := ["internal/bytealg.IndexByteString"], apart := false }
def FnExactWordsSaid : Prop := fnExactWordsRow.holds Try.pinned (OpenSpec.ofChange fnExactWordsSpec)

/-- ITS FALSE NEIGHBOUR: 'it returns false'. Refute it at one input. -/
def fnExactWordsWrong : ChangeSpec := { name := "fnExactWords", fn := fun _ => fun
  | [d] => { results := [.lit (.bool false)], args := [d] }
  | _ => none }
def FnExactWordsWrongFalsely : Prop := fnExactWordsRow.holds Try.pinned (OpenSpec.ofChange fnExactWordsWrong)

/-- 'laws.FnWords': WHATEVER THE INPUT: true; the input reads as it did. -/
def fnWordsSpec : ChangeSpec := { name := "fnWords", fn := fun _ => fun
  | [d] => { results := [.lit (.bool true)], args := [d] }
  | _ => none }
def fnWordsRow : OpenClaim := { program := "ytdhiomoomobhfaa", sum := "99e9a8fad7be631b38b241b9fbf2854431a02b8d9483bbb4f93c395136f43183", func := "loop.example/backstitch/laws.FnWords", spec := "fnWords", inPlace := ["internal/bytealg.IndexByteString"], apart := false }
def FnWordsSaid : Prop := fnWordsRow.holds Try.pinned (OpenSpec.ofChange fnWordsSpec)

/-- ITS FALSE NEIGHBOUR: 'it returns false'. Refute it at one input. -/
def fnWordsWrong : ChangeSpec := { name := "fnWords", fn := fun _ => fun
  | [d] => { results := [.lit (.bool false)], args := [d] }
  | _ => none }
def FnWordsWrongFalsely : Prop := fnWordsRow.holds Try.pinned (OpenSpec.ofChange fnWordsWrong)

/-- 'laws.FnWordsTwo': WHATEVER THE INPUT: true; the input reads as it did. -/
def fnWordsTwoSpec : ChangeSpec := { name := "fnWordsTwo", fn := fun _ => fun
  | [d1, d2] => { results := [.lit (.bool true)], args := [d1, d2] }
  | _ => none }
def fnWordsTwoRow : OpenClaim := { program := "ytdhiomoomobhfaa", sum := "99e9a8fad7be631b38b241b9fbf2854431a02b8d9483bbb4f93c395136f43183", func := "loop.example/backstitch/laws.FnWordsTwo", spec := "fnWordsTwo", inPlace := ["internal/bytealg.IndexByteString"], apart := false }
def FnWordsTwoSaid : Prop := fnWordsTwoRow.holds Try.pinned (OpenSpec.ofChange fnWordsTwoSpec)

/-- ITS FALSE NEIGHBOUR: 'it returns false'. Refute it at one input. -/
def fnWordsTwoWrong : ChangeSpec := { name := "fnWordsTwo", fn := fun _ => fun
  | [d1, d2] => { results := [.lit (.bool false)], args := [d1, d2] }
  | _ => none }
def FnWordsTwoWrongFalsely : Prop := fnWordsTwoRow.holds Try.pinned (OpenSpec.ofChange fnWordsTwoWrong)

/- THE SECOND FORM. 'bulk': how many values and letters a reading holds, each counted each time it is reached (what is shared counts as often as it is met; a slice's spare places count too). A statement '..UptoSaid' is the law's where the arguments, and the package variables that the reading takes, are together of bulk at most 1048576: NARROWER than '..Said'. Prove '..Said' where nothing that the law and all that it calls make is longer than what came in: it says more and counts as full. Else prove '..UptoSaid'. A law counts once. -/
mutual
def uptoBulk {H : Type} : DataW H → Nat
  | .lit (.string bytes) => bytes.length + 1
  | .lit _ => 1
  | .nil => 1
  | .ptr d => uptoBulk d + 1
  | .slice elems spare => uptoBulkAll elems + uptoBulkAll spare + 1
  | .agg parts => uptoBulkAll parts + 1
  | .iface _ d => uptoBulk d + 1
  | .map entries => uptoBulkEntries entries + 1
  | .held _ => 1
def uptoBulkAll {H : Type} : List (DataW H) → Nat
  | [] => 0
  | d :: r => uptoBulk d + uptoBulkAll r
def uptoBulkEntries {H : Type} : List (Lit × DataW H) → Nat
  | [] => 0
  | x :: r => uptoBulkEntry x + uptoBulkEntries r
def uptoBulkEntry {H : Type} : Lit × DataW H → Nat
  | (.string bytes, d) => bytes.length + uptoBulk d + 1
  | (_, d) => uptoBulk d + 1
 end
def uptoSmall : (H : Type) → List (DataW H) → Bool := fun _ ds => decide (uptoBulkAll ds ≤ 1048576)
def OpenSpec.upto (s : _root_.Go.ChangeSpec) : _root_.Go.OpenSpec := { _root_.Go.OpenSpec.ofChange s with cond := some uptoSmall }

/-- 'laws.FnExactConstants', WHERE WHAT IT READS IS OF BULK AT MOST 1048576: true; the input reads as it did. -/
def fnExactConstantsUptoRow : OpenClaim := { program := "ytdhiomoomobhfaa", sum := "99e9a8fad7be631b38b241b9fbf2854431a02b8d9483bbb4f93c395136f43183", func := "loop.example/backstitch/laws.FnExactConstants", spec := "fnExactConstants", apart := false, narrowed := true }
def FnExactConstantsUptoSaid : Prop := fnExactConstantsUptoRow.holds Try.pinned (OpenSpec.upto fnExactConstantsSpec)

/-- 'laws.FnExactCrc', WHERE WHAT IT READS IS OF BULK AT MOST 1048576: true; the input reads as it did. -/
def fnExactCrcUptoRow : OpenClaim := { program := "ytdhiomoomobhfaa", sum := "99e9a8fad7be631b38b241b9fbf2854431a02b8d9483bbb4f93c395136f43183", func := "loop.example/backstitch/laws.FnExactCrc", spec := "fnExactCrc", apart := false, narrowed := true }
def FnExactCrcUptoSaid : Prop := fnExactCrcUptoRow.holds Try.pinned (OpenSpec.upto fnExactCrcSpec)

/-- 'laws.FnExactValueOk', WHERE WHAT IT READS IS OF BULK AT MOST 1048576: true; the input reads as it did. -/
def fnExactValueOkUptoRow : OpenClaim := { program := "ytdhiomoomobhfaa", sum := "99e9a8fad7be631b38b241b9fbf2854431a02b8d9483bbb4f93c395136f43183", func := "loop.example/backstitch/laws.FnExactValueOk", spec := "fnExactValueOk", apart := false, narrowed := true }
def FnExactValueOkUptoSaid : Prop := fnExactValueOkUptoRow.holds Try.pinned (OpenSpec.upto fnExactValueOkSpec)

/-- 'laws.FnCrc', WHERE WHAT IT READS IS OF BULK AT MOST 1048576: true; the input reads as it did. -/
def fnCrcUptoRow : OpenClaim := { program := "ytdhiomoomobhfaa", sum := "99e9a8fad7be631b38b241b9fbf2854431a02b8d9483bbb4f93c395136f43183", func := "loop.example/backstitch/laws.FnCrc", spec := "fnCrc", apart := false, narrowed := true }
def FnCrcUptoSaid : Prop := fnCrcUptoRow.holds Try.pinned (OpenSpec.upto fnCrcSpec)

/-- 'laws.FnExactWords', WHERE WHAT IT READS IS OF BULK AT MOST 1048576: true; the input reads as it did. -/
def fnExactWordsUptoRow : OpenClaim := { program := "ytdhiomoomobhfaa", sum := "99e9a8fad7be631b38b241b9fbf2854431a02b8d9483bbb4f93c395136f43183", func := "loop.example/backstitch/laws.FnExactWords", spec := "fnExactWords", inPlace := ["internal/bytealg.IndexByteString"], apart := false, narrowed := true }
def FnExactWordsUptoSaid : Prop := fnExactWordsUptoRow.holds Try.pinned (OpenSpec.upto fnExactWordsSpec)

/-- 'laws.FnWords', WHERE WHAT IT READS IS OF BULK AT MOST 1048576: true; the input reads as it did. -/
def fnWordsUptoRow : OpenClaim := { program := "ytdhiomoomobhfaa", sum := "99e9a8fad7be631b38b241b9fbf2854431a02b8d9483bbb4f93c395136f43183", func := "loop.example/backstitch/laws.FnWords", spec := "fnWords", inPlace := ["internal/bytealg.IndexByteString"], apart := false, narrowed := true }
def FnWordsUptoSaid : Prop := fnWordsUptoRow.holds Try.pinned (OpenSpec.upto fnWordsSpec)

/-- 'laws.FnWordsTwo', WHERE WHAT IT READS IS OF BULK AT MOST 1048576: true; the input reads as it did. -/
def fnWordsTwoUptoRow : OpenClaim := { program := "ytdhiomoomobhfaa", sum := "99e9a8fad7be631b38b241b9fbf2854431a02b8d9483bbb4f93c395136f43183", func := "loop.example/backstitch/laws.FnWordsTwo", spec := "fnWordsTwo", inPlace := ["internal/bytealg.IndexByteString"], apart := false, narrowed := true }
def FnWordsTwoUptoSaid : Prop := fnWordsTwoUptoRow.holds Try.pinned (OpenSpec.upto fnWordsTwoSpec)

end Rows
end Go.Proofs.Ytdhiomoomobhfaa
