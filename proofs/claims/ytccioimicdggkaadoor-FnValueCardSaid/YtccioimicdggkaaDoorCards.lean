/-
  DERIVED. GIVEN WITH THE SEED: THE CARDS: each row of YtccioimicdggkaaDoorRows.lean that lists a variable, with what it lists TIED to the program's text (the seventh form; the later family's looks); each row that meets fmt, with fmt's text TOLD by the authors' own Lean function (tested against real Go, not proved from fmt's source: count such statements apart). THE CARD IS WHAT COUNTS. Prove the row's statement (the work); the ties are given (YtccioimicdggkaaDoorTie.lean); close each card by the builder's one call (the guide's Derived/Test/ToyasCard.lean, 'card_holds'). Laid BY PROGRAM, IN A SANDBOX (cutbox-door.mjs). By AI agents, Wed Nov 11 2026. No macro, syntax, notation, axiom, sorry.
-/
import Derived.Test.YtccioimicdggkaaDoorRows
import GoSem.ClaimSeven
namespace Go.Proofs.YtccioimicdggkaaDoor
namespace Rows

/-- THE TIED CARD OF 'laws.FnExactExecWants'. -/
def fnExactExecWantsCard : Claim7 := { stood := { row := fnExactExecWantsRow, standIns := [], harness := (true, "3ac12c1735814c9b4dcd965df7e78db4bcca6d99cb4a71fa2b649d71b7b63fa4"), looks := true }, kinds := [], alts := [], laidByText := true, laidKinds := [.data, .data, .data], laidTests := true, laidLooks := .later }
def FnExactExecWantsCardSaid : Prop := Claim7.holds Tryd.pinned (.plain (OpenSpec.ofChange fnExactExecWantsSpec)) fnExactExecWantsCard

/-- THE TIED CARD OF 'laws.FnExactValueGet'. -/
def fnExactValueGetCard : Claim7 := { stood := { row := fnExactValueGetRow, standIns := [], harness := (true, "3ac12c1735814c9b4dcd965df7e78db4bcca6d99cb4a71fa2b649d71b7b63fa4"), looks := true }, kinds := [], alts := [], laidByText := true, laidKinds := [.data, .data, .data, .sentinel, .sentinel], laidTests := true, laidLooks := .later }
def FnExactValueGetCardSaid : Prop := Claim7.holds Tryd.pinned (.plain (OpenSpec.ofChange fnExactValueGetSpec)) fnExactValueGetCard

/-- THE TIED CARD OF 'laws.FnValue'. -/
def fnValueCard : Claim7 := { stood := { row := fnValueRow, standIns := [], harness := (true, "3ac12c1735814c9b4dcd965df7e78db4bcca6d99cb4a71fa2b649d71b7b63fa4"), looks := true }, kinds := [], alts := [], laidByText := true, laidKinds := [.data, .data, .data, .sentinel, .sentinel], laidTests := true, laidLooks := .later }
def FnValueCardSaid : Prop := Claim7.holds Tryd.pinned (.plain (OpenSpec.ofChange fnValueSpec)) fnValueCard

/-- THE SECOND FORM's CARD OF 'laws.FnExactExecWants'. -/
def fnExactExecWantsUptoCard : Claim7 := { stood := { row := fnExactExecWantsUptoRow, standIns := [], harness := (true, "3ac12c1735814c9b4dcd965df7e78db4bcca6d99cb4a71fa2b649d71b7b63fa4"), looks := true }, kinds := [], alts := [], laidByText := true, laidKinds := [.data, .data, .data], laidTests := true, laidLooks := .later }
def FnExactExecWantsUptoCardSaid : Prop := Claim7.holds Tryd.pinned (.plain (OpenSpec.upto fnExactExecWantsSpec)) fnExactExecWantsUptoCard

/-- THE SECOND FORM's CARD OF 'laws.FnExactValueGet'. -/
def fnExactValueGetUptoCard : Claim7 := { stood := { row := fnExactValueGetUptoRow, standIns := [], harness := (true, "3ac12c1735814c9b4dcd965df7e78db4bcca6d99cb4a71fa2b649d71b7b63fa4"), looks := true }, kinds := [], alts := [], laidByText := true, laidKinds := [.data, .data, .data, .sentinel, .sentinel], laidTests := true, laidLooks := .later }
def FnExactValueGetUptoCardSaid : Prop := Claim7.holds Tryd.pinned (.plain (OpenSpec.upto fnExactValueGetSpec)) fnExactValueGetUptoCard

/-- THE SECOND FORM's CARD OF 'laws.FnValue'. -/
def fnValueUptoCard : Claim7 := { stood := { row := fnValueUptoRow, standIns := [], harness := (true, "3ac12c1735814c9b4dcd965df7e78db4bcca6d99cb4a71fa2b649d71b7b63fa4"), looks := true }, kinds := [], alts := [], laidByText := true, laidKinds := [.data, .data, .data, .sentinel, .sentinel], laidTests := true, laidLooks := .later }
def FnValueUptoCardSaid : Prop := Claim7.holds Tryd.pinned (.plain (OpenSpec.upto fnValueSpec)) fnValueUptoCard
end Rows
end Go.Proofs.YtccioimicdggkaaDoor
