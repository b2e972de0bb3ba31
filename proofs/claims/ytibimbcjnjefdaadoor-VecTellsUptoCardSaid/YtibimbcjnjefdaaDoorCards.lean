/-
  DERIVED. GIVEN WITH THE SEED: THE CARDS: each row of YtibimbcjnjefdaaDoorRows.lean that lists a variable, with what it lists TIED to the program's text (the seventh form; the later family's looks); each row that meets fmt, with fmt's text TOLD by the authors' own Lean function (tested against real Go, not proved from fmt's source: count such statements apart). THE CARD IS WHAT COUNTS. Prove the row's statement (the work); the ties are given (YtibimbcjnjefdaaDoorTie.lean); close each card by the builder's one call (the guide's Derived/Test/ToyasCard.lean, 'card_holds'). Laid BY PROGRAM, IN A SANDBOX (cutbox-door.mjs). By AI agents, Wed Nov 11 2026. No macro, syntax, notation, axiom, sorry.
-/
import Derived.Test.YtibimbcjnjefdaaDoorRows
import GoSem.ClaimSeven
namespace Go.Proofs.YtibimbcjnjefdaaDoor
namespace Rows

/-- THE TIED CARD OF 'demesnelaw03.VecTells'. -/
def vecTellsCard : Claim7 := { stood := { row := vecTellsRow, standIns := [], harness := (true, "5b931db1c57f3652c15bdd05059a54f21325050873b3633458035e1d42a4a537"), looks := true }, kinds := [], alts := [], laidByText := true, laidKinds := [.data, .data, .data, .data, .sentinel, .sentinel, .pinned], laidTests := true, laidLooks := .later }
def VecTellsCardSaid : Prop := Claim7.holds Tryd.pinned (.plain (OpenSpec.ofChange vecTellsSpec)) vecTellsCard

/-- THE TIED CARD OF 'demesnelaw03.VecSums'. -/
def vecSumsCard : Claim7 := { stood := { row := vecSumsRow, standIns := [], harness := (true, "5b931db1c57f3652c15bdd05059a54f21325050873b3633458035e1d42a4a537"), looks := true }, kinds := [], alts := [], laidByText := true, laidKinds := [.data, .data, .data, .data, .sentinel, .sentinel, .pinned], laidTests := true, laidLooks := .later }
def VecSumsCardSaid : Prop := Claim7.holds Tryd.pinned (.plain (OpenSpec.ofChange vecSumsSpec)) vecSumsCard

/-- THE TIED CARD OF 'demesnelaw03.VecFits'. -/
def vecFitsCard : Claim7 := { stood := { row := vecFitsRow, standIns := [], harness := (true, "5b931db1c57f3652c15bdd05059a54f21325050873b3633458035e1d42a4a537"), looks := true }, kinds := [], alts := [], laidByText := true, laidKinds := [.data, .data, .data, .data, .sentinel, .sentinel, .pinned], laidTests := true, laidLooks := .later }
def VecFitsCardSaid : Prop := Claim7.holds Tryd.pinned (.plain (OpenSpec.ofChange vecFitsSpec)) vecFitsCard

/-- THE TIED CARD OF 'demesnelaw03.VecOrder'. -/
def vecOrderCard : Claim7 := { stood := { row := vecOrderRow, standIns := [], harness := (true, "5b931db1c57f3652c15bdd05059a54f21325050873b3633458035e1d42a4a537"), looks := true }, kinds := [], alts := [], laidByText := true, laidKinds := [.data, .data, .data, .data, .sentinel, .sentinel, .pinned], laidTests := true, laidLooks := .later }
def VecOrderCardSaid : Prop := Claim7.holds Tryd.pinned (.plain (OpenSpec.ofChange vecOrderSpec)) vecOrderCard

/-- THE TIED CARD OF 'demesnelaw03.VecHolds'. -/
def vecHoldsCard : Claim7 := { stood := { row := vecHoldsRow, standIns := [], harness := (true, "5b931db1c57f3652c15bdd05059a54f21325050873b3633458035e1d42a4a537"), looks := true }, kinds := [], alts := [], laidByText := true, laidKinds := [.data, .data, .data, .data, .sentinel, .sentinel, .pinned], laidTests := true, laidLooks := .later }
def VecHoldsCardSaid : Prop := Claim7.holds Tryd.pinned (.plain (OpenSpec.ofChange vecHoldsSpec)) vecHoldsCard

/-- THE TIED CARD OF 'demesnelaw03.VecTimes'. -/
def vecTimesCard : Claim7 := { stood := { row := vecTimesRow, standIns := [], harness := (true, "5b931db1c57f3652c15bdd05059a54f21325050873b3633458035e1d42a4a537"), looks := true }, kinds := [], alts := [], laidByText := true, laidKinds := [.data, .data, .data, .data, .sentinel, .sentinel, .pinned], laidTests := true, laidLooks := .later }
def VecTimesCardSaid : Prop := Claim7.holds Tryd.pinned (.plain (OpenSpec.ofChange vecTimesSpec)) vecTimesCard

/-- THE TIED CARD OF 'demesnelaw03.VecBack'. -/
def vecBackCard : Claim7 := { stood := { row := vecBackRow, standIns := [], harness := (true, "5b931db1c57f3652c15bdd05059a54f21325050873b3633458035e1d42a4a537"), looks := true }, kinds := [], alts := [], laidByText := true, laidKinds := [.data, .data, .data, .data, .sentinel, .sentinel, .pinned], laidTests := true, laidLooks := .later }
def VecBackCardSaid : Prop := Claim7.holds Tryd.pinned (.plain (OpenSpec.ofChange vecBackSpec)) vecBackCard

/-- THE SECOND FORM's CARD OF 'demesnelaw03.VecTells'. -/
def vecTellsUptoCard : Claim7 := { stood := { row := vecTellsUptoRow, standIns := [], harness := (true, "5b931db1c57f3652c15bdd05059a54f21325050873b3633458035e1d42a4a537"), looks := true }, kinds := [], alts := [], laidByText := true, laidKinds := [.data, .data, .data, .data, .sentinel, .sentinel, .pinned], laidTests := true, laidLooks := .later }
def VecTellsUptoCardSaid : Prop := Claim7.holds Tryd.pinned (.plain (OpenSpec.upto vecTellsSpec)) vecTellsUptoCard

/-- THE SECOND FORM's CARD OF 'demesnelaw03.VecSums'. -/
def vecSumsUptoCard : Claim7 := { stood := { row := vecSumsUptoRow, standIns := [], harness := (true, "5b931db1c57f3652c15bdd05059a54f21325050873b3633458035e1d42a4a537"), looks := true }, kinds := [], alts := [], laidByText := true, laidKinds := [.data, .data, .data, .data, .sentinel, .sentinel, .pinned], laidTests := true, laidLooks := .later }
def VecSumsUptoCardSaid : Prop := Claim7.holds Tryd.pinned (.plain (OpenSpec.upto vecSumsSpec)) vecSumsUptoCard

/-- THE SECOND FORM's CARD OF 'demesnelaw03.VecFits'. -/
def vecFitsUptoCard : Claim7 := { stood := { row := vecFitsUptoRow, standIns := [], harness := (true, "5b931db1c57f3652c15bdd05059a54f21325050873b3633458035e1d42a4a537"), looks := true }, kinds := [], alts := [], laidByText := true, laidKinds := [.data, .data, .data, .data, .sentinel, .sentinel, .pinned], laidTests := true, laidLooks := .later }
def VecFitsUptoCardSaid : Prop := Claim7.holds Tryd.pinned (.plain (OpenSpec.upto vecFitsSpec)) vecFitsUptoCard

/-- THE SECOND FORM's CARD OF 'demesnelaw03.VecOrder'. -/
def vecOrderUptoCard : Claim7 := { stood := { row := vecOrderUptoRow, standIns := [], harness := (true, "5b931db1c57f3652c15bdd05059a54f21325050873b3633458035e1d42a4a537"), looks := true }, kinds := [], alts := [], laidByText := true, laidKinds := [.data, .data, .data, .data, .sentinel, .sentinel, .pinned], laidTests := true, laidLooks := .later }
def VecOrderUptoCardSaid : Prop := Claim7.holds Tryd.pinned (.plain (OpenSpec.upto vecOrderSpec)) vecOrderUptoCard

/-- THE SECOND FORM's CARD OF 'demesnelaw03.VecHolds'. -/
def vecHoldsUptoCard : Claim7 := { stood := { row := vecHoldsUptoRow, standIns := [], harness := (true, "5b931db1c57f3652c15bdd05059a54f21325050873b3633458035e1d42a4a537"), looks := true }, kinds := [], alts := [], laidByText := true, laidKinds := [.data, .data, .data, .data, .sentinel, .sentinel, .pinned], laidTests := true, laidLooks := .later }
def VecHoldsUptoCardSaid : Prop := Claim7.holds Tryd.pinned (.plain (OpenSpec.upto vecHoldsSpec)) vecHoldsUptoCard

/-- THE SECOND FORM's CARD OF 'demesnelaw03.VecTimes'. -/
def vecTimesUptoCard : Claim7 := { stood := { row := vecTimesUptoRow, standIns := [], harness := (true, "5b931db1c57f3652c15bdd05059a54f21325050873b3633458035e1d42a4a537"), looks := true }, kinds := [], alts := [], laidByText := true, laidKinds := [.data, .data, .data, .data, .sentinel, .sentinel, .pinned], laidTests := true, laidLooks := .later }
def VecTimesUptoCardSaid : Prop := Claim7.holds Tryd.pinned (.plain (OpenSpec.upto vecTimesSpec)) vecTimesUptoCard

/-- THE SECOND FORM's CARD OF 'demesnelaw03.VecBack'. -/
def vecBackUptoCard : Claim7 := { stood := { row := vecBackUptoRow, standIns := [], harness := (true, "5b931db1c57f3652c15bdd05059a54f21325050873b3633458035e1d42a4a537"), looks := true }, kinds := [], alts := [], laidByText := true, laidKinds := [.data, .data, .data, .data, .sentinel, .sentinel, .pinned], laidTests := true, laidLooks := .later }
def VecBackUptoCardSaid : Prop := Claim7.holds Tryd.pinned (.plain (OpenSpec.upto vecBackSpec)) vecBackUptoCard
end Rows
end Go.Proofs.YtibimbcjnjefdaaDoor
