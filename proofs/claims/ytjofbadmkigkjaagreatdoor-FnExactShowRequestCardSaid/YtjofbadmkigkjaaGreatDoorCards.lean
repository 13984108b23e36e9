/-
  DERIVED. GIVEN WITH THE SEED: THE CARDS: each row of YtjofbadmkigkjaaGreatDoorRows.lean that lists a variable, with what it lists TIED to the program's text (the seventh form; the later family's looks); each row that meets fmt, with fmt's text TOLD by the authors' own Lean function (tested against real Go, not proved from fmt's source: count such statements apart). THE CARD IS WHAT COUNTS. Prove the row's statement (the work); the ties are given (YtjofbadmkigkjaaGreatDoorTie.lean); close each card by the builder's one call (the guide's Derived/Test/ToyasCard.lean, 'card_holds'). Laid BY PROGRAM, IN A SANDBOX (cutbox-door.mjs). By AI agents, Wed Nov 11 2026. No macro, syntax, notation, axiom, sorry.
-/
import Derived.Test.YtjofbadmkigkjaaGreatDoorRows
import GoSem.ClaimSeven
namespace Go.Proofs.YtjofbadmkigkjaaGreatDoor
namespace Rows

/-- THE TIED CARD OF 'laws.FnExactShowRequest'. -/
def fnExactShowRequestCard : Claim7 := { stood := { row := fnExactShowRequestRow, standIns := [], harness := (true, "6ae5a367f01d4348c3b96a65694f6c7a626d1ba65900f04ce1ec72082a37c0e2"), looks := false }, kinds := [], alts := [], laidByText := true, laidKinds := [.data, .data, .data], laidTests := true, laidLooks := .later }
def FnExactShowRequestCardSaid : Prop := Claim7.holds Tryz.pinned (.plain (OpenSpec.ofChange fnExactShowRequestSpec)) fnExactShowRequestCard

/-- THE SECOND FORM's CARD OF 'laws.FnExactShowRequest'. -/
def fnExactShowRequestUptoCard : Claim7 := { stood := { row := fnExactShowRequestUptoRow, standIns := [], harness := (true, "6ae5a367f01d4348c3b96a65694f6c7a626d1ba65900f04ce1ec72082a37c0e2"), looks := false }, kinds := [], alts := [], laidByText := true, laidKinds := [.data, .data, .data], laidTests := true, laidLooks := .later }
def FnExactShowRequestUptoCardSaid : Prop := Claim7.holds Tryz.pinned (.plain (OpenSpec.upto fnExactShowRequestSpec)) fnExactShowRequestUptoCard
end Rows
end Go.Proofs.YtjofbadmkigkjaaGreatDoor
