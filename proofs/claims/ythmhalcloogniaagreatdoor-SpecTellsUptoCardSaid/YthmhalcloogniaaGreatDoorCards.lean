/-
  DERIVED. GIVEN WITH THE SEED: THE CARDS: each row of YthmhalcloogniaaGreatDoorRows.lean that lists a variable, with what it lists TIED to the program's text (the seventh form; the later family's looks); each row that meets fmt, with fmt's text TOLD by the authors' own Lean function (tested against real Go, not proved from fmt's source: count such statements apart). THE CARD IS WHAT COUNTS. Prove the row's statement (the work); the ties are given (YthmhalcloogniaaGreatDoorTie.lean); close each card by the builder's one call (the guide's Derived/Test/ToyasCard.lean, 'card_holds'). Laid BY PROGRAM, IN A SANDBOX (cutbox-door.mjs). By AI agents, Wed Nov 11 2026. No macro, syntax, notation, axiom, sorry.
-/
import Derived.Test.YthmhalcloogniaaGreatDoorRows
import GoSem.ClaimSeven
namespace Go.Proofs.YthmhalcloogniaaGreatDoor
namespace Rows

/-- THE TIED CARD OF 'demesnelaw11.SpecTells'. -/
def specTellsCard : Claim7 := { stood := { row := specTellsRow, standIns := [], harness := (true, "a92d55ac8aeae67bd68eb875a9f47c4a0bb6e7d607760a737f497448a5e67537"), looks := true }, kinds := [], alts := [], laidByText := true, laidKinds := [.data, .data, .data, .data, .sentinel, .sentinel, .widerDeep, .widerDeep, .pinned], laidTests := true, laidLooks := .later }
def SpecTellsCardSaid : Prop := Claim7.holds Tryz.pinned (.plain (OpenSpec.ofChange specTellsSpec)) specTellsCard

/-- THE TIED CARD OF 'demesnelaw11.SpecBack'. -/
def specBackCard : Claim7 := { stood := { row := specBackRow, standIns := [], harness := (true, "a92d55ac8aeae67bd68eb875a9f47c4a0bb6e7d607760a737f497448a5e67537"), looks := true }, kinds := [], alts := [], laidByText := true, laidKinds := [.data, .data, .data, .data, .sentinel, .sentinel, .widerDeep, .widerDeep, .pinned], laidTests := true, laidLooks := .later }
def SpecBackCardSaid : Prop := Claim7.holds Tryz.pinned (.plain (OpenSpec.ofChange specBackSpec)) specBackCard

/-- THE TIED CARD OF 'demesnelaw11.SpecChecks'. -/
def specChecksCard : Claim7 := { stood := { row := specChecksRow, standIns := [], harness := (true, "a92d55ac8aeae67bd68eb875a9f47c4a0bb6e7d607760a737f497448a5e67537"), looks := true }, kinds := [], alts := [], laidByText := true, laidKinds := [.data, .data, .data, .data, .sentinel, .sentinel, .widerDeep, .widerDeep, .pinned], laidTests := true, laidLooks := .later }
def SpecChecksCardSaid : Prop := Claim7.holds Tryz.pinned (.plain (OpenSpec.ofChange specChecksSpec)) specChecksCard

/-- THE TIED CARD OF 'demesnelaw11.SpecOnce'. -/
def specOnceCard : Claim7 := { stood := { row := specOnceRow, standIns := [], harness := (true, "a92d55ac8aeae67bd68eb875a9f47c4a0bb6e7d607760a737f497448a5e67537"), looks := true }, kinds := [], alts := [], laidByText := true, laidKinds := [.data, .data, .data, .data, .sentinel, .sentinel, .widerDeep, .widerDeep, .pinned], laidTests := true, laidLooks := .later }
def SpecOnceCardSaid : Prop := Claim7.holds Tryz.pinned (.plain (OpenSpec.ofChange specOnceSpec)) specOnceCard

/-- THE TIED CARD OF 'demesnelaw11.SpecTorn'. -/
def specTornCard : Claim7 := { stood := { row := specTornRow, standIns := [], harness := (true, "a92d55ac8aeae67bd68eb875a9f47c4a0bb6e7d607760a737f497448a5e67537"), looks := true }, kinds := [], alts := [], laidByText := true, laidKinds := [.data, .data, .data, .data, .sentinel, .sentinel, .widerDeep, .widerDeep, .pinned], laidTests := true, laidLooks := .later }
def SpecTornCardSaid : Prop := Claim7.holds Tryz.pinned (.plain (OpenSpec.ofChange specTornSpec)) specTornCard

/-- THE TIED CARD OF 'demesnelaw11.SpecTotals'. -/
def specTotalsCard : Claim7 := { stood := { row := specTotalsRow, standIns := [], harness := (true, "a92d55ac8aeae67bd68eb875a9f47c4a0bb6e7d607760a737f497448a5e67537"), looks := true }, kinds := [], alts := [], laidByText := true, laidKinds := [.data, .data, .data, .data, .sentinel, .sentinel, .widerDeep, .widerDeep, .pinned], laidTests := true, laidLooks := .later }
def SpecTotalsCardSaid : Prop := Claim7.holds Tryz.pinned (.plain (OpenSpec.ofChange specTotalsSpec)) specTotalsCard

/-- THE SECOND FORM's CARD OF 'demesnelaw11.SpecTells'. -/
def specTellsUptoCard : Claim7 := { stood := { row := specTellsUptoRow, standIns := [], harness := (true, "a92d55ac8aeae67bd68eb875a9f47c4a0bb6e7d607760a737f497448a5e67537"), looks := true }, kinds := [], alts := [], laidByText := true, laidKinds := [.data, .data, .data, .data, .sentinel, .sentinel, .widerDeep, .widerDeep, .pinned], laidTests := true, laidLooks := .later }
def SpecTellsUptoCardSaid : Prop := Claim7.holds Tryz.pinned (.plain (OpenSpec.upto specTellsSpec)) specTellsUptoCard

/-- THE SECOND FORM's CARD OF 'demesnelaw11.SpecBack'. -/
def specBackUptoCard : Claim7 := { stood := { row := specBackUptoRow, standIns := [], harness := (true, "a92d55ac8aeae67bd68eb875a9f47c4a0bb6e7d607760a737f497448a5e67537"), looks := true }, kinds := [], alts := [], laidByText := true, laidKinds := [.data, .data, .data, .data, .sentinel, .sentinel, .widerDeep, .widerDeep, .pinned], laidTests := true, laidLooks := .later }
def SpecBackUptoCardSaid : Prop := Claim7.holds Tryz.pinned (.plain (OpenSpec.upto specBackSpec)) specBackUptoCard

/-- THE SECOND FORM's CARD OF 'demesnelaw11.SpecChecks'. -/
def specChecksUptoCard : Claim7 := { stood := { row := specChecksUptoRow, standIns := [], harness := (true, "a92d55ac8aeae67bd68eb875a9f47c4a0bb6e7d607760a737f497448a5e67537"), looks := true }, kinds := [], alts := [], laidByText := true, laidKinds := [.data, .data, .data, .data, .sentinel, .sentinel, .widerDeep, .widerDeep, .pinned], laidTests := true, laidLooks := .later }
def SpecChecksUptoCardSaid : Prop := Claim7.holds Tryz.pinned (.plain (OpenSpec.upto specChecksSpec)) specChecksUptoCard

/-- THE SECOND FORM's CARD OF 'demesnelaw11.SpecOnce'. -/
def specOnceUptoCard : Claim7 := { stood := { row := specOnceUptoRow, standIns := [], harness := (true, "a92d55ac8aeae67bd68eb875a9f47c4a0bb6e7d607760a737f497448a5e67537"), looks := true }, kinds := [], alts := [], laidByText := true, laidKinds := [.data, .data, .data, .data, .sentinel, .sentinel, .widerDeep, .widerDeep, .pinned], laidTests := true, laidLooks := .later }
def SpecOnceUptoCardSaid : Prop := Claim7.holds Tryz.pinned (.plain (OpenSpec.upto specOnceSpec)) specOnceUptoCard

/-- THE SECOND FORM's CARD OF 'demesnelaw11.SpecTorn'. -/
def specTornUptoCard : Claim7 := { stood := { row := specTornUptoRow, standIns := [], harness := (true, "a92d55ac8aeae67bd68eb875a9f47c4a0bb6e7d607760a737f497448a5e67537"), looks := true }, kinds := [], alts := [], laidByText := true, laidKinds := [.data, .data, .data, .data, .sentinel, .sentinel, .widerDeep, .widerDeep, .pinned], laidTests := true, laidLooks := .later }
def SpecTornUptoCardSaid : Prop := Claim7.holds Tryz.pinned (.plain (OpenSpec.upto specTornSpec)) specTornUptoCard

/-- THE SECOND FORM's CARD OF 'demesnelaw11.SpecTotals'. -/
def specTotalsUptoCard : Claim7 := { stood := { row := specTotalsUptoRow, standIns := [], harness := (true, "a92d55ac8aeae67bd68eb875a9f47c4a0bb6e7d607760a737f497448a5e67537"), looks := true }, kinds := [], alts := [], laidByText := true, laidKinds := [.data, .data, .data, .data, .sentinel, .sentinel, .widerDeep, .widerDeep, .pinned], laidTests := true, laidLooks := .later }
def SpecTotalsUptoCardSaid : Prop := Claim7.holds Tryz.pinned (.plain (OpenSpec.upto specTotalsSpec)) specTotalsUptoCard
end Rows
end Go.Proofs.YthmhalcloogniaaGreatDoor
