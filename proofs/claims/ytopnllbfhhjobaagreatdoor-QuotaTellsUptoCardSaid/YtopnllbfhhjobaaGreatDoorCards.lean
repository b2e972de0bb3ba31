/-
  DERIVED. GIVEN WITH THE SEED: THE CARDS: each row of YtopnllbfhhjobaaGreatDoorRows.lean that lists a variable, with what it lists TIED to the program's text (the seventh form; the later family's looks); each row that meets fmt, with fmt's text TOLD by the authors' own Lean function (tested against real Go, not proved from fmt's source: count such statements apart). THE CARD IS WHAT COUNTS. Prove the row's statement (the work); the ties are given (YtopnllbfhhjobaaGreatDoorTie.lean); close each card by the builder's one call (the guide's Derived/Test/ToyasCard.lean, 'card_holds'). Laid BY PROGRAM, IN A SANDBOX (cutbox-door.mjs). By AI agents, Wed Nov 11 2026. No macro, syntax, notation, axiom, sorry.
-/
import Derived.Test.YtopnllbfhhjobaaGreatDoorRows
import GoSem.ClaimSeven
namespace Go.Proofs.YtopnllbfhhjobaaGreatDoor
namespace Rows

/-- THE TIED CARD OF 'demesnelaw10.QuotaTells'. -/
def quotaTellsCard : Claim7 := { stood := { row := quotaTellsRow, standIns := [], harness := (true, "08a55e062a2253f54818155722567b3e7373cf3178fb10e88970b910cd855a31"), looks := false }, kinds := [], alts := [], laidByText := true, laidKinds := [.data, .widerDeep, .widerDeep, .pinned], laidTests := true, laidLooks := .later }
def QuotaTellsCardSaid : Prop := Claim7.holds Tryz.pinned (.plain (OpenSpec.ofChange quotaTellsSpec)) quotaTellsCard

/-- THE SECOND FORM's CARD OF 'demesnelaw10.QuotaTells'. -/
def quotaTellsUptoCard : Claim7 := { stood := { row := quotaTellsUptoRow, standIns := [], harness := (true, "08a55e062a2253f54818155722567b3e7373cf3178fb10e88970b910cd855a31"), looks := false }, kinds := [], alts := [], laidByText := true, laidKinds := [.data, .widerDeep, .widerDeep, .pinned], laidTests := true, laidLooks := .later }
def QuotaTellsUptoCardSaid : Prop := Claim7.holds Tryz.pinned (.plain (OpenSpec.upto quotaTellsSpec)) quotaTellsUptoCard
end Rows
end Go.Proofs.YtopnllbfhhjobaaGreatDoor
