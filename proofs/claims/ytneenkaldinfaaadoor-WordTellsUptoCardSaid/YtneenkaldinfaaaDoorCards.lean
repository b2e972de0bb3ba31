/-
  DERIVED. GIVEN WITH THE SEED: THE CARDS: each row of YtneenkaldinfaaaDoorRows.lean that lists a variable, with what it lists TIED to the program's text (the seventh form; the later family's looks); each row that meets fmt, with fmt's text TOLD by the authors' own Lean function (tested against real Go, not proved from fmt's source: count such statements apart). THE CARD IS WHAT COUNTS. Prove the row's statement (the work); the ties are given (YtneenkaldinfaaaDoorTie.lean); close each card by the builder's one call (the guide's Derived/Test/ToyasCard.lean, 'card_holds'). Laid BY PROGRAM, IN A SANDBOX (cutbox-door.mjs). By AI agents, Wed Nov 11 2026. No macro, syntax, notation, axiom, sorry.
-/
import Derived.Test.YtneenkaldinfaaaDoorRows
import GoSem.ClaimSeven
namespace Go.Proofs.YtneenkaldinfaaaDoor
namespace Rows

/-- THE TIED CARD OF 'demesnelaw02.WordTells'. -/
def wordTellsCard : Claim7 := { stood := { row := wordTellsRow, standIns := [], harness := (true, "f08ad7d3fb1de0809c32d946bfc4a98b438b674f003b52192da556cadbe8c7e4"), looks := false }, kinds := [], alts := [], laidByText := true, laidKinds := [.data, .widerDeep, .widerDeep, .pinned], laidTests := true, laidLooks := .later }
def WordTellsCardSaid : Prop := Claim7.holds Tryd.pinned (.plain (OpenSpec.ofChange wordTellsSpec)) wordTellsCard

/-- THE TIED CARD OF 'demesnelaw02.WordNames'. -/
def wordNamesCard : Claim7 := { stood := { row := wordNamesRow, standIns := [], harness := (true, "f08ad7d3fb1de0809c32d946bfc4a98b438b674f003b52192da556cadbe8c7e4"), looks := false }, kinds := [], alts := [], laidByText := true, laidKinds := [.data, .widerDeep, .widerDeep, .pinned], laidTests := true, laidLooks := .later }
def WordNamesCardSaid : Prop := Claim7.holds Tryd.pinned (.plain (OpenSpec.ofChange wordNamesSpec)) wordNamesCard

/-- THE TIED CARD OF 'demesnelaw02.WordCounts'. -/
def wordCountsCard : Claim7 := { stood := { row := wordCountsRow, standIns := [], harness := (true, "f08ad7d3fb1de0809c32d946bfc4a98b438b674f003b52192da556cadbe8c7e4"), looks := false }, kinds := [], alts := [], laidByText := true, laidKinds := [.data, .widerDeep, .widerDeep, .pinned], laidTests := true, laidLooks := .later }
def WordCountsCardSaid : Prop := Claim7.holds Tryd.pinned (.plain (OpenSpec.ofChange wordCountsSpec)) wordCountsCard

/-- THE TIED CARD OF 'demesnelaw02.WordPaths'. -/
def wordPathsCard : Claim7 := { stood := { row := wordPathsRow, standIns := [], harness := (true, "f08ad7d3fb1de0809c32d946bfc4a98b438b674f003b52192da556cadbe8c7e4"), looks := false }, kinds := [], alts := [], laidByText := true, laidKinds := [.data, .widerDeep, .widerDeep, .pinned], laidTests := true, laidLooks := .later }
def WordPathsCardSaid : Prop := Claim7.holds Tryd.pinned (.plain (OpenSpec.ofChange wordPathsSpec)) wordPathsCard

/-- THE TIED CARD OF 'demesnelaw02.WordUnder'. -/
def wordUnderCard : Claim7 := { stood := { row := wordUnderRow, standIns := [], harness := (true, "f08ad7d3fb1de0809c32d946bfc4a98b438b674f003b52192da556cadbe8c7e4"), looks := false }, kinds := [], alts := [], laidByText := true, laidKinds := [.data, .widerDeep, .widerDeep, .pinned], laidTests := true, laidLooks := .later }
def WordUnderCardSaid : Prop := Claim7.holds Tryd.pinned (.plain (OpenSpec.ofChange wordUnderSpec)) wordUnderCard

/-- THE TIED CARD OF 'demesnelaw02.WordOnce'. -/
def wordOnceCard : Claim7 := { stood := { row := wordOnceRow, standIns := [], harness := (true, "f08ad7d3fb1de0809c32d946bfc4a98b438b674f003b52192da556cadbe8c7e4"), looks := false }, kinds := [], alts := [], laidByText := true, laidKinds := [.data, .widerDeep, .widerDeep, .pinned], laidTests := true, laidLooks := .later }
def WordOnceCardSaid : Prop := Claim7.holds Tryd.pinned (.plain (OpenSpec.ofChange wordOnceSpec)) wordOnceCard

/-- THE SECOND FORM's CARD OF 'demesnelaw02.WordTells'. -/
def wordTellsUptoCard : Claim7 := { stood := { row := wordTellsUptoRow, standIns := [], harness := (true, "f08ad7d3fb1de0809c32d946bfc4a98b438b674f003b52192da556cadbe8c7e4"), looks := false }, kinds := [], alts := [], laidByText := true, laidKinds := [.data, .widerDeep, .widerDeep, .pinned], laidTests := true, laidLooks := .later }
def WordTellsUptoCardSaid : Prop := Claim7.holds Tryd.pinned (.plain (OpenSpec.upto wordTellsSpec)) wordTellsUptoCard

/-- THE SECOND FORM's CARD OF 'demesnelaw02.WordNames'. -/
def wordNamesUptoCard : Claim7 := { stood := { row := wordNamesUptoRow, standIns := [], harness := (true, "f08ad7d3fb1de0809c32d946bfc4a98b438b674f003b52192da556cadbe8c7e4"), looks := false }, kinds := [], alts := [], laidByText := true, laidKinds := [.data, .widerDeep, .widerDeep, .pinned], laidTests := true, laidLooks := .later }
def WordNamesUptoCardSaid : Prop := Claim7.holds Tryd.pinned (.plain (OpenSpec.upto wordNamesSpec)) wordNamesUptoCard

/-- THE SECOND FORM's CARD OF 'demesnelaw02.WordCounts'. -/
def wordCountsUptoCard : Claim7 := { stood := { row := wordCountsUptoRow, standIns := [], harness := (true, "f08ad7d3fb1de0809c32d946bfc4a98b438b674f003b52192da556cadbe8c7e4"), looks := false }, kinds := [], alts := [], laidByText := true, laidKinds := [.data, .widerDeep, .widerDeep, .pinned], laidTests := true, laidLooks := .later }
def WordCountsUptoCardSaid : Prop := Claim7.holds Tryd.pinned (.plain (OpenSpec.upto wordCountsSpec)) wordCountsUptoCard

/-- THE SECOND FORM's CARD OF 'demesnelaw02.WordPaths'. -/
def wordPathsUptoCard : Claim7 := { stood := { row := wordPathsUptoRow, standIns := [], harness := (true, "f08ad7d3fb1de0809c32d946bfc4a98b438b674f003b52192da556cadbe8c7e4"), looks := false }, kinds := [], alts := [], laidByText := true, laidKinds := [.data, .widerDeep, .widerDeep, .pinned], laidTests := true, laidLooks := .later }
def WordPathsUptoCardSaid : Prop := Claim7.holds Tryd.pinned (.plain (OpenSpec.upto wordPathsSpec)) wordPathsUptoCard

/-- THE SECOND FORM's CARD OF 'demesnelaw02.WordUnder'. -/
def wordUnderUptoCard : Claim7 := { stood := { row := wordUnderUptoRow, standIns := [], harness := (true, "f08ad7d3fb1de0809c32d946bfc4a98b438b674f003b52192da556cadbe8c7e4"), looks := false }, kinds := [], alts := [], laidByText := true, laidKinds := [.data, .widerDeep, .widerDeep, .pinned], laidTests := true, laidLooks := .later }
def WordUnderUptoCardSaid : Prop := Claim7.holds Tryd.pinned (.plain (OpenSpec.upto wordUnderSpec)) wordUnderUptoCard

/-- THE SECOND FORM's CARD OF 'demesnelaw02.WordOnce'. -/
def wordOnceUptoCard : Claim7 := { stood := { row := wordOnceUptoRow, standIns := [], harness := (true, "f08ad7d3fb1de0809c32d946bfc4a98b438b674f003b52192da556cadbe8c7e4"), looks := false }, kinds := [], alts := [], laidByText := true, laidKinds := [.data, .widerDeep, .widerDeep, .pinned], laidTests := true, laidLooks := .later }
def WordOnceUptoCardSaid : Prop := Claim7.holds Tryd.pinned (.plain (OpenSpec.upto wordOnceSpec)) wordOnceUptoCard
end Rows
end Go.Proofs.YtneenkaldinfaaaDoor
