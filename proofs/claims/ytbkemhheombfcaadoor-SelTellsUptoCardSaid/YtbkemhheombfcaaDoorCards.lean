/-
  DERIVED. GIVEN WITH THE SEED: THE CARDS: each row of YtbkemhheombfcaaDoorRows.lean that lists a variable, with what it lists TIED to the program's text (the seventh form; the later family's looks); each row that meets fmt, with fmt's text TOLD by the authors' own Lean function (tested against real Go, not proved from fmt's source: count such statements apart). THE CARD IS WHAT COUNTS. Prove the row's statement (the work); the ties are given (YtbkemhheombfcaaDoorTie.lean); close each card by the builder's one call (the guide's Derived/Test/ToyasCard.lean, 'card_holds'). Laid BY PROGRAM, IN A SANDBOX (cutbox-door.mjs). By AI agents, Wed Nov 11 2026. No macro, syntax, notation, axiom, sorry.
-/
import Derived.Test.YtbkemhheombfcaaDoorRows
import GoSem.ClaimSeven
namespace Go.Proofs.YtbkemhheombfcaaDoor
namespace Rows

/-- THE TIED CARD OF 'demesnelaw04.LabelFinds'. -/
def labelFindsCard : Claim7 := { stood := { row := labelFindsRow, standIns := [], harness := (true, "08c5ed43969f9676c83cd0fbdb64894d68f07fb28bfad4c1ddec38191543b2e6"), looks := true }, kinds := [], alts := [], laidByText := true, laidKinds := [.data, .widerDeep, .widerDeep, .pinned], laidTests := true, laidLooks := .later }
def LabelFindsCardSaid : Prop := Claim7.holds Tryd.pinned (.plain (OpenSpec.ofChange labelFindsSpec)) labelFindsCard

/-- THE TIED CARD OF 'demesnelaw04.LabelRight'. -/
def labelRightCard : Claim7 := { stood := { row := labelRightRow, standIns := [], harness := (true, "08c5ed43969f9676c83cd0fbdb64894d68f07fb28bfad4c1ddec38191543b2e6"), looks := true }, kinds := [], alts := [], laidByText := true, laidKinds := [.data, .widerDeep, .widerDeep, .pinned], laidTests := true, laidLooks := .later }
def LabelRightCardSaid : Prop := Claim7.holds Tryd.pinned (.plain (OpenSpec.ofChange labelRightSpec)) labelRightCard

/-- THE TIED CARD OF 'demesnelaw04.LabelTells'. -/
def labelTellsCard : Claim7 := { stood := { row := labelTellsRow, standIns := [], harness := (true, "08c5ed43969f9676c83cd0fbdb64894d68f07fb28bfad4c1ddec38191543b2e6"), looks := true }, kinds := [], alts := [], laidByText := true, laidKinds := [.data, .widerDeep, .widerDeep, .pinned], laidTests := true, laidLooks := .later }
def LabelTellsCardSaid : Prop := Claim7.holds Tryd.pinned (.plain (OpenSpec.ofChange labelTellsSpec)) labelTellsCard

/-- THE TIED CARD OF 'demesnelaw04.LabelBack'. -/
def labelBackCard : Claim7 := { stood := { row := labelBackRow, standIns := [], harness := (true, "08c5ed43969f9676c83cd0fbdb64894d68f07fb28bfad4c1ddec38191543b2e6"), looks := true }, kinds := [], alts := [], laidByText := true, laidKinds := [.data, .widerDeep, .widerDeep, .pinned], laidTests := true, laidLooks := .later }
def LabelBackCardSaid : Prop := Claim7.holds Tryd.pinned (.plain (OpenSpec.ofChange labelBackSpec)) labelBackCard

/-- THE TIED CARD OF 'demesnelaw04.LabelOnce'. -/
def labelOnceCard : Claim7 := { stood := { row := labelOnceRow, standIns := [], harness := (true, "08c5ed43969f9676c83cd0fbdb64894d68f07fb28bfad4c1ddec38191543b2e6"), looks := true }, kinds := [], alts := [], laidByText := true, laidKinds := [.data, .widerDeep, .widerDeep, .pinned], laidTests := true, laidLooks := .later }
def LabelOnceCardSaid : Prop := Claim7.holds Tryd.pinned (.plain (OpenSpec.ofChange labelOnceSpec)) labelOnceCard

/-- THE TIED CARD OF 'demesnelaw04.LabelTorn'. -/
def labelTornCard : Claim7 := { stood := { row := labelTornRow, standIns := [], harness := (true, "08c5ed43969f9676c83cd0fbdb64894d68f07fb28bfad4c1ddec38191543b2e6"), looks := true }, kinds := [], alts := [], laidByText := true, laidKinds := [.data, .widerDeep, .widerDeep, .pinned], laidTests := true, laidLooks := .later }
def LabelTornCardSaid : Prop := Claim7.holds Tryd.pinned (.plain (OpenSpec.ofChange labelTornSpec)) labelTornCard

/-- THE TIED CARD OF 'demesnelaw05.SelMatches'. -/
def selMatchesCard : Claim7 := { stood := { row := selMatchesRow, standIns := [], harness := (true, "08c5ed43969f9676c83cd0fbdb64894d68f07fb28bfad4c1ddec38191543b2e6"), looks := true }, kinds := [], alts := [], laidByText := true, laidKinds := [.data, .widerDeep, .widerDeep, .pinned], laidTests := true, laidLooks := .later }
def SelMatchesCardSaid : Prop := Claim7.holds Tryd.pinned (.plain (OpenSpec.ofChange selMatchesSpec)) selMatchesCard

/-- THE TIED CARD OF 'demesnelaw05.SelTurns'. -/
def selTurnsCard : Claim7 := { stood := { row := selTurnsRow, standIns := [], harness := (true, "08c5ed43969f9676c83cd0fbdb64894d68f07fb28bfad4c1ddec38191543b2e6"), looks := true }, kinds := [], alts := [], laidByText := true, laidKinds := [.data, .widerDeep, .widerDeep, .pinned], laidTests := true, laidLooks := .later }
def SelTurnsCardSaid : Prop := Claim7.holds Tryd.pinned (.plain (OpenSpec.ofChange selTurnsSpec)) selTurnsCard

/-- THE TIED CARD OF 'demesnelaw05.SelLabels'. -/
def selLabelsCard : Claim7 := { stood := { row := selLabelsRow, standIns := [], harness := (true, "08c5ed43969f9676c83cd0fbdb64894d68f07fb28bfad4c1ddec38191543b2e6"), looks := true }, kinds := [], alts := [], laidByText := true, laidKinds := [.data, .widerDeep, .widerDeep, .pinned], laidTests := true, laidLooks := .later }
def SelLabelsCardSaid : Prop := Claim7.holds Tryd.pinned (.plain (OpenSpec.ofChange selLabelsSpec)) selLabelsCard

/-- THE TIED CARD OF 'demesnelaw05.SelTells'. -/
def selTellsCard : Claim7 := { stood := { row := selTellsRow, standIns := [], harness := (true, "08c5ed43969f9676c83cd0fbdb64894d68f07fb28bfad4c1ddec38191543b2e6"), looks := true }, kinds := [], alts := [], laidByText := true, laidKinds := [.data, .widerDeep, .widerDeep, .pinned], laidTests := true, laidLooks := .later }
def SelTellsCardSaid : Prop := Claim7.holds Tryd.pinned (.plain (OpenSpec.ofChange selTellsSpec)) selTellsCard

/-- THE TIED CARD OF 'demesnelaw05.SelBack'. -/
def selBackCard : Claim7 := { stood := { row := selBackRow, standIns := [], harness := (true, "08c5ed43969f9676c83cd0fbdb64894d68f07fb28bfad4c1ddec38191543b2e6"), looks := true }, kinds := [], alts := [], laidByText := true, laidKinds := [.data, .widerDeep, .widerDeep, .pinned], laidTests := true, laidLooks := .later }
def SelBackCardSaid : Prop := Claim7.holds Tryd.pinned (.plain (OpenSpec.ofChange selBackSpec)) selBackCard

/-- THE TIED CARD OF 'demesnelaw05.SelOnce'. -/
def selOnceCard : Claim7 := { stood := { row := selOnceRow, standIns := [], harness := (true, "08c5ed43969f9676c83cd0fbdb64894d68f07fb28bfad4c1ddec38191543b2e6"), looks := true }, kinds := [], alts := [], laidByText := true, laidKinds := [.data, .widerDeep, .widerDeep, .pinned], laidTests := true, laidLooks := .later }
def SelOnceCardSaid : Prop := Claim7.holds Tryd.pinned (.plain (OpenSpec.ofChange selOnceSpec)) selOnceCard

/-- THE SECOND FORM's CARD OF 'demesnelaw04.LabelFinds'. -/
def labelFindsUptoCard : Claim7 := { stood := { row := labelFindsUptoRow, standIns := [], harness := (true, "08c5ed43969f9676c83cd0fbdb64894d68f07fb28bfad4c1ddec38191543b2e6"), looks := true }, kinds := [], alts := [], laidByText := true, laidKinds := [.data, .widerDeep, .widerDeep, .pinned], laidTests := true, laidLooks := .later }
def LabelFindsUptoCardSaid : Prop := Claim7.holds Tryd.pinned (.plain (OpenSpec.upto labelFindsSpec)) labelFindsUptoCard

/-- THE SECOND FORM's CARD OF 'demesnelaw04.LabelRight'. -/
def labelRightUptoCard : Claim7 := { stood := { row := labelRightUptoRow, standIns := [], harness := (true, "08c5ed43969f9676c83cd0fbdb64894d68f07fb28bfad4c1ddec38191543b2e6"), looks := true }, kinds := [], alts := [], laidByText := true, laidKinds := [.data, .widerDeep, .widerDeep, .pinned], laidTests := true, laidLooks := .later }
def LabelRightUptoCardSaid : Prop := Claim7.holds Tryd.pinned (.plain (OpenSpec.upto labelRightSpec)) labelRightUptoCard

/-- THE SECOND FORM's CARD OF 'demesnelaw04.LabelTells'. -/
def labelTellsUptoCard : Claim7 := { stood := { row := labelTellsUptoRow, standIns := [], harness := (true, "08c5ed43969f9676c83cd0fbdb64894d68f07fb28bfad4c1ddec38191543b2e6"), looks := true }, kinds := [], alts := [], laidByText := true, laidKinds := [.data, .widerDeep, .widerDeep, .pinned], laidTests := true, laidLooks := .later }
def LabelTellsUptoCardSaid : Prop := Claim7.holds Tryd.pinned (.plain (OpenSpec.upto labelTellsSpec)) labelTellsUptoCard

/-- THE SECOND FORM's CARD OF 'demesnelaw04.LabelBack'. -/
def labelBackUptoCard : Claim7 := { stood := { row := labelBackUptoRow, standIns := [], harness := (true, "08c5ed43969f9676c83cd0fbdb64894d68f07fb28bfad4c1ddec38191543b2e6"), looks := true }, kinds := [], alts := [], laidByText := true, laidKinds := [.data, .widerDeep, .widerDeep, .pinned], laidTests := true, laidLooks := .later }
def LabelBackUptoCardSaid : Prop := Claim7.holds Tryd.pinned (.plain (OpenSpec.upto labelBackSpec)) labelBackUptoCard

/-- THE SECOND FORM's CARD OF 'demesnelaw04.LabelOnce'. -/
def labelOnceUptoCard : Claim7 := { stood := { row := labelOnceUptoRow, standIns := [], harness := (true, "08c5ed43969f9676c83cd0fbdb64894d68f07fb28bfad4c1ddec38191543b2e6"), looks := true }, kinds := [], alts := [], laidByText := true, laidKinds := [.data, .widerDeep, .widerDeep, .pinned], laidTests := true, laidLooks := .later }
def LabelOnceUptoCardSaid : Prop := Claim7.holds Tryd.pinned (.plain (OpenSpec.upto labelOnceSpec)) labelOnceUptoCard

/-- THE SECOND FORM's CARD OF 'demesnelaw04.LabelTorn'. -/
def labelTornUptoCard : Claim7 := { stood := { row := labelTornUptoRow, standIns := [], harness := (true, "08c5ed43969f9676c83cd0fbdb64894d68f07fb28bfad4c1ddec38191543b2e6"), looks := true }, kinds := [], alts := [], laidByText := true, laidKinds := [.data, .widerDeep, .widerDeep, .pinned], laidTests := true, laidLooks := .later }
def LabelTornUptoCardSaid : Prop := Claim7.holds Tryd.pinned (.plain (OpenSpec.upto labelTornSpec)) labelTornUptoCard

/-- THE SECOND FORM's CARD OF 'demesnelaw05.SelMatches'. -/
def selMatchesUptoCard : Claim7 := { stood := { row := selMatchesUptoRow, standIns := [], harness := (true, "08c5ed43969f9676c83cd0fbdb64894d68f07fb28bfad4c1ddec38191543b2e6"), looks := true }, kinds := [], alts := [], laidByText := true, laidKinds := [.data, .widerDeep, .widerDeep, .pinned], laidTests := true, laidLooks := .later }
def SelMatchesUptoCardSaid : Prop := Claim7.holds Tryd.pinned (.plain (OpenSpec.upto selMatchesSpec)) selMatchesUptoCard

/-- THE SECOND FORM's CARD OF 'demesnelaw05.SelTurns'. -/
def selTurnsUptoCard : Claim7 := { stood := { row := selTurnsUptoRow, standIns := [], harness := (true, "08c5ed43969f9676c83cd0fbdb64894d68f07fb28bfad4c1ddec38191543b2e6"), looks := true }, kinds := [], alts := [], laidByText := true, laidKinds := [.data, .widerDeep, .widerDeep, .pinned], laidTests := true, laidLooks := .later }
def SelTurnsUptoCardSaid : Prop := Claim7.holds Tryd.pinned (.plain (OpenSpec.upto selTurnsSpec)) selTurnsUptoCard

/-- THE SECOND FORM's CARD OF 'demesnelaw05.SelLabels'. -/
def selLabelsUptoCard : Claim7 := { stood := { row := selLabelsUptoRow, standIns := [], harness := (true, "08c5ed43969f9676c83cd0fbdb64894d68f07fb28bfad4c1ddec38191543b2e6"), looks := true }, kinds := [], alts := [], laidByText := true, laidKinds := [.data, .widerDeep, .widerDeep, .pinned], laidTests := true, laidLooks := .later }
def SelLabelsUptoCardSaid : Prop := Claim7.holds Tryd.pinned (.plain (OpenSpec.upto selLabelsSpec)) selLabelsUptoCard

/-- THE SECOND FORM's CARD OF 'demesnelaw05.SelTells'. -/
def selTellsUptoCard : Claim7 := { stood := { row := selTellsUptoRow, standIns := [], harness := (true, "08c5ed43969f9676c83cd0fbdb64894d68f07fb28bfad4c1ddec38191543b2e6"), looks := true }, kinds := [], alts := [], laidByText := true, laidKinds := [.data, .widerDeep, .widerDeep, .pinned], laidTests := true, laidLooks := .later }
def SelTellsUptoCardSaid : Prop := Claim7.holds Tryd.pinned (.plain (OpenSpec.upto selTellsSpec)) selTellsUptoCard

/-- THE SECOND FORM's CARD OF 'demesnelaw05.SelBack'. -/
def selBackUptoCard : Claim7 := { stood := { row := selBackUptoRow, standIns := [], harness := (true, "08c5ed43969f9676c83cd0fbdb64894d68f07fb28bfad4c1ddec38191543b2e6"), looks := true }, kinds := [], alts := [], laidByText := true, laidKinds := [.data, .widerDeep, .widerDeep, .pinned], laidTests := true, laidLooks := .later }
def SelBackUptoCardSaid : Prop := Claim7.holds Tryd.pinned (.plain (OpenSpec.upto selBackSpec)) selBackUptoCard

/-- THE SECOND FORM's CARD OF 'demesnelaw05.SelOnce'. -/
def selOnceUptoCard : Claim7 := { stood := { row := selOnceUptoRow, standIns := [], harness := (true, "08c5ed43969f9676c83cd0fbdb64894d68f07fb28bfad4c1ddec38191543b2e6"), looks := true }, kinds := [], alts := [], laidByText := true, laidKinds := [.data, .widerDeep, .widerDeep, .pinned], laidTests := true, laidLooks := .later }
def SelOnceUptoCardSaid : Prop := Claim7.holds Tryd.pinned (.plain (OpenSpec.upto selOnceSpec)) selOnceUptoCard
end Rows
end Go.Proofs.YtbkemhheombfcaaDoor
