/-
  DERIVED. GIVEN WITH THE SEED: THE CARDS: each row of YtdhiomoomobhfaaDoorRows.lean that lists a variable, with what it lists TIED to the program's text (the seventh form; the later family's looks); each row that meets fmt, with fmt's text TOLD by the authors' own Lean function (tested against real Go, not proved from fmt's source: count such statements apart). THE CARD IS WHAT COUNTS. Prove the row's statement (the work); the ties are given (YtdhiomoomobhfaaDoorTie.lean); close each card by the builder's one call (the guide's Derived/Test/ToyasCard.lean, 'card_holds'). Laid BY PROGRAM, IN A SANDBOX (cutbox-door.mjs). By AI agents, Wed Nov 11 2026. No macro, syntax, notation, axiom, sorry.
-/
import Derived.Test.YtdhiomoomobhfaaDoorRows
import GoSem.ClaimSeven
namespace Go.Proofs.YtdhiomoomobhfaaDoor
namespace Rows

/-- THE TIED CARD OF 'laws.FnExactValuePut'. -/
def fnExactValuePutCard : Claim7 := { stood := { row := fnExactValuePutRow, standIns := [], harness := (true, "c44c0322c736dbf42332cd2d2a27157d4df5da897c845ad9210d5c05b76e0741"), looks := false }, kinds := [], alts := [], laidByText := true, laidKinds := [.data, .data, .data], laidTests := true, laidLooks := .later }
def FnExactValuePutCardSaid : Prop := Claim7.holds Tryd.pinned (.plain (OpenSpec.ofChange fnExactValuePutSpec)) fnExactValuePutCard

/-- THE SECOND FORM's CARD OF 'laws.FnExactValuePut'. -/
def fnExactValuePutUptoCard : Claim7 := { stood := { row := fnExactValuePutUptoRow, standIns := [], harness := (true, "c44c0322c736dbf42332cd2d2a27157d4df5da897c845ad9210d5c05b76e0741"), looks := false }, kinds := [], alts := [], laidByText := true, laidKinds := [.data, .data, .data], laidTests := true, laidLooks := .later }
def FnExactValuePutUptoCardSaid : Prop := Claim7.holds Tryd.pinned (.plain (OpenSpec.upto fnExactValuePutSpec)) fnExactValuePutUptoCard
end Rows
end Go.Proofs.YtdhiomoomobhfaaDoor
