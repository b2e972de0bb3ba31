/-
  DERIVED. GIVEN WITH THE SEED: THE CARDS: each row of YtefjdmjkofaajaaGreatDoorRows.lean that lists a variable, with what it lists TIED to the program's text (the seventh form; the later family's looks); each row that meets fmt, with fmt's text TOLD by the authors' own Lean function (tested against real Go, not proved from fmt's source: count such statements apart). THE CARD IS WHAT COUNTS. Prove the row's statement (the work); the ties are given (YtefjdmjkofaajaaGreatDoorTie.lean); close each card by the builder's one call (the guide's Derived/Test/ToyasCard.lean, 'card_holds'). Laid BY PROGRAM, IN A SANDBOX (cutbox-door.mjs). By AI agents, Wed Nov 11 2026. No macro, syntax, notation, axiom, sorry.
-/
import Derived.Test.YtefjdmjkofaajaaGreatDoorRows
import GoSem.ClaimSeven
namespace Go.Proofs.YtefjdmjkofaajaaGreatDoor
namespace Rows

/-- THE TIED CARD OF 'demesnelaw19.GateTells'. -/
def gateTellsCard : Claim7 := { stood := { row := gateTellsRow, standIns := [], harness := (true, "817e324b04d19c8e16622b865010a06a423b51690d31f3af0ecd2312b6590131"), looks := true }, kinds := [], alts := [], laidByText := true, laidKinds := [.data, .data, .data, .widerDeep, .widerDeep, .data, .pinned], laidTests := true, laidLooks := .later }
def GateTellsCardSaid : Prop := Claim7.holds Tryz.pinned (.plain (OpenSpec.ofChange gateTellsSpec)) gateTellsCard

/-- THE TIED CARD OF 'demesnelaw19.GateBack'. -/
def gateBackCard : Claim7 := { stood := { row := gateBackRow, standIns := [], harness := (true, "817e324b04d19c8e16622b865010a06a423b51690d31f3af0ecd2312b6590131"), looks := true }, kinds := [], alts := [], laidByText := true, laidKinds := [.data, .data, .data, .widerDeep, .widerDeep, .data, .pinned], laidTests := true, laidLooks := .later }
def GateBackCardSaid : Prop := Claim7.holds Tryz.pinned (.plain (OpenSpec.ofChange gateBackSpec)) gateBackCard

/-- THE TIED CARD OF 'demesnelaw19.GateNarrows'. -/
def gateNarrowsCard : Claim7 := { stood := { row := gateNarrowsRow, standIns := [], harness := (true, "817e324b04d19c8e16622b865010a06a423b51690d31f3af0ecd2312b6590131"), looks := true }, kinds := [], alts := [], laidByText := true, laidKinds := [.data, .data, .data, .widerDeep, .widerDeep, .data, .pinned], laidTests := true, laidLooks := .later }
def GateNarrowsCardSaid : Prop := Claim7.holds Tryz.pinned (.plain (OpenSpec.ofChange gateNarrowsSpec)) gateNarrowsCard

/-- THE TIED CARD OF 'demesnelaw19.GateRights'. -/
def gateRightsCard : Claim7 := { stood := { row := gateRightsRow, standIns := [], harness := (true, "817e324b04d19c8e16622b865010a06a423b51690d31f3af0ecd2312b6590131"), looks := true }, kinds := [], alts := [], laidByText := true, laidKinds := [.data, .data, .data, .widerDeep, .widerDeep, .data, .pinned], laidTests := true, laidLooks := .later }
def GateRightsCardSaid : Prop := Claim7.holds Tryz.pinned (.plain (OpenSpec.ofChange gateRightsSpec)) gateRightsCard

/-- THE TIED CARD OF 'demesnelaw19.GateStrange'. -/
def gateStrangeCard : Claim7 := { stood := { row := gateStrangeRow, standIns := [], harness := (true, "817e324b04d19c8e16622b865010a06a423b51690d31f3af0ecd2312b6590131"), looks := true }, kinds := [], alts := [], laidByText := true, laidKinds := [.data, .data, .data, .widerDeep, .widerDeep, .data, .pinned], laidTests := true, laidLooks := .later }
def GateStrangeCardSaid : Prop := Claim7.holds Tryz.pinned (.plain (OpenSpec.ofChange gateStrangeSpec)) gateStrangeCard

/-- THE TIED CARD OF 'demesnelaw19.GateOnce'. -/
def gateOnceCard : Claim7 := { stood := { row := gateOnceRow, standIns := [], harness := (true, "817e324b04d19c8e16622b865010a06a423b51690d31f3af0ecd2312b6590131"), looks := true }, kinds := [], alts := [], laidByText := true, laidKinds := [.data, .data, .data, .widerDeep, .widerDeep, .data, .pinned], laidTests := true, laidLooks := .later }
def GateOnceCardSaid : Prop := Claim7.holds Tryz.pinned (.plain (OpenSpec.ofChange gateOnceSpec)) gateOnceCard

/-- THE SECOND FORM's CARD OF 'demesnelaw19.GateTells'. -/
def gateTellsUptoCard : Claim7 := { stood := { row := gateTellsUptoRow, standIns := [], harness := (true, "817e324b04d19c8e16622b865010a06a423b51690d31f3af0ecd2312b6590131"), looks := true }, kinds := [], alts := [], laidByText := true, laidKinds := [.data, .data, .data, .widerDeep, .widerDeep, .data, .pinned], laidTests := true, laidLooks := .later }
def GateTellsUptoCardSaid : Prop := Claim7.holds Tryz.pinned (.plain (OpenSpec.upto gateTellsSpec)) gateTellsUptoCard

/-- THE SECOND FORM's CARD OF 'demesnelaw19.GateBack'. -/
def gateBackUptoCard : Claim7 := { stood := { row := gateBackUptoRow, standIns := [], harness := (true, "817e324b04d19c8e16622b865010a06a423b51690d31f3af0ecd2312b6590131"), looks := true }, kinds := [], alts := [], laidByText := true, laidKinds := [.data, .data, .data, .widerDeep, .widerDeep, .data, .pinned], laidTests := true, laidLooks := .later }
def GateBackUptoCardSaid : Prop := Claim7.holds Tryz.pinned (.plain (OpenSpec.upto gateBackSpec)) gateBackUptoCard

/-- THE SECOND FORM's CARD OF 'demesnelaw19.GateNarrows'. -/
def gateNarrowsUptoCard : Claim7 := { stood := { row := gateNarrowsUptoRow, standIns := [], harness := (true, "817e324b04d19c8e16622b865010a06a423b51690d31f3af0ecd2312b6590131"), looks := true }, kinds := [], alts := [], laidByText := true, laidKinds := [.data, .data, .data, .widerDeep, .widerDeep, .data, .pinned], laidTests := true, laidLooks := .later }
def GateNarrowsUptoCardSaid : Prop := Claim7.holds Tryz.pinned (.plain (OpenSpec.upto gateNarrowsSpec)) gateNarrowsUptoCard

/-- THE SECOND FORM's CARD OF 'demesnelaw19.GateRights'. -/
def gateRightsUptoCard : Claim7 := { stood := { row := gateRightsUptoRow, standIns := [], harness := (true, "817e324b04d19c8e16622b865010a06a423b51690d31f3af0ecd2312b6590131"), looks := true }, kinds := [], alts := [], laidByText := true, laidKinds := [.data, .data, .data, .widerDeep, .widerDeep, .data, .pinned], laidTests := true, laidLooks := .later }
def GateRightsUptoCardSaid : Prop := Claim7.holds Tryz.pinned (.plain (OpenSpec.upto gateRightsSpec)) gateRightsUptoCard

/-- THE SECOND FORM's CARD OF 'demesnelaw19.GateStrange'. -/
def gateStrangeUptoCard : Claim7 := { stood := { row := gateStrangeUptoRow, standIns := [], harness := (true, "817e324b04d19c8e16622b865010a06a423b51690d31f3af0ecd2312b6590131"), looks := true }, kinds := [], alts := [], laidByText := true, laidKinds := [.data, .data, .data, .widerDeep, .widerDeep, .data, .pinned], laidTests := true, laidLooks := .later }
def GateStrangeUptoCardSaid : Prop := Claim7.holds Tryz.pinned (.plain (OpenSpec.upto gateStrangeSpec)) gateStrangeUptoCard

/-- THE SECOND FORM's CARD OF 'demesnelaw19.GateOnce'. -/
def gateOnceUptoCard : Claim7 := { stood := { row := gateOnceUptoRow, standIns := [], harness := (true, "817e324b04d19c8e16622b865010a06a423b51690d31f3af0ecd2312b6590131"), looks := true }, kinds := [], alts := [], laidByText := true, laidKinds := [.data, .data, .data, .widerDeep, .widerDeep, .data, .pinned], laidTests := true, laidLooks := .later }
def GateOnceUptoCardSaid : Prop := Claim7.holds Tryz.pinned (.plain (OpenSpec.upto gateOnceSpec)) gateOnceUptoCard
end Rows
end Go.Proofs.YtefjdmjkofaajaaGreatDoor
