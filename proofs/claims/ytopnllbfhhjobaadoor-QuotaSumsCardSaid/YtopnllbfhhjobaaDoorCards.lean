/-
  DERIVED. GIVEN WITH THE SEED: THE CARDS: each row of YtopnllbfhhjobaaDoorRows.lean that lists a variable, with what it lists TIED to the program's text (the seventh form; the later family's looks); each row that meets fmt, with fmt's text TOLD by the authors' own Lean function (tested against real Go, not proved from fmt's source: count such statements apart). THE CARD IS WHAT COUNTS. Prove the row's statement (the work); the ties are given (YtopnllbfhhjobaaDoorTie.lean); close each card by the builder's one call (the guide's Derived/Test/ToyasCard.lean, 'card_holds'). Laid BY PROGRAM, IN A SANDBOX (cutbox-door.mjs). By AI agents, Wed Nov 11 2026. No macro, syntax, notation, axiom, sorry.
-/
import Derived.Test.YtopnllbfhhjobaaDoorRows
import GoSem.ClaimSeven
namespace Go.Proofs.YtopnllbfhhjobaaDoor
namespace Rows

/-- THE TIED CARD OF 'demesnelaw10.QuotaRight'. -/
def quotaRightCard : Claim7 := { stood := { row := quotaRightRow, standIns := [], harness := (true, "dea143bca5e102910d6eb01ae9aa11dc47fbe7c59b3e931f1899ab09138a1063"), looks := false }, kinds := [], alts := [], laidByText := true, laidKinds := [.data, .widerDeep, .widerDeep, .pinned], laidTests := true, laidLooks := .later }
def QuotaRightCardSaid : Prop := Claim7.holds Tryd.pinned (.plain (OpenSpec.ofChange quotaRightSpec)) quotaRightCard

/-- THE TIED CARD OF 'demesnelaw10.QuotaSums'. -/
def quotaSumsCard : Claim7 := { stood := { row := quotaSumsRow, standIns := [], harness := (true, "dea143bca5e102910d6eb01ae9aa11dc47fbe7c59b3e931f1899ab09138a1063"), looks := false }, kinds := [], alts := [], laidByText := true, laidKinds := [.data, .widerDeep, .widerDeep, .pinned], laidTests := true, laidLooks := .later }
def QuotaSumsCardSaid : Prop := Claim7.holds Tryd.pinned (.plain (OpenSpec.ofChange quotaSumsSpec)) quotaSumsCard

/-- THE TIED CARD OF 'demesnelaw10.QuotaBack'. -/
def quotaBackCard : Claim7 := { stood := { row := quotaBackRow, standIns := [], harness := (true, "dea143bca5e102910d6eb01ae9aa11dc47fbe7c59b3e931f1899ab09138a1063"), looks := false }, kinds := [], alts := [], laidByText := true, laidKinds := [.data, .widerDeep, .widerDeep, .pinned], laidTests := true, laidLooks := .later }
def QuotaBackCardSaid : Prop := Claim7.holds Tryd.pinned (.plain (OpenSpec.ofChange quotaBackSpec)) quotaBackCard

/-- THE TIED CARD OF 'demesnelaw10.QuotaCharges'. -/
def quotaChargesCard : Claim7 := { stood := { row := quotaChargesRow, standIns := [], harness := (true, "dea143bca5e102910d6eb01ae9aa11dc47fbe7c59b3e931f1899ab09138a1063"), looks := false }, kinds := [], alts := [], laidByText := true, laidKinds := [.data, .widerDeep, .widerDeep, .pinned], laidTests := true, laidLooks := .later }
def QuotaChargesCardSaid : Prop := Claim7.holds Tryd.pinned (.plain (OpenSpec.ofChange quotaChargesSpec)) quotaChargesCard

/-- THE TIED CARD OF 'demesnelaw10.QuotaSets'. -/
def quotaSetsCard : Claim7 := { stood := { row := quotaSetsRow, standIns := [], harness := (true, "dea143bca5e102910d6eb01ae9aa11dc47fbe7c59b3e931f1899ab09138a1063"), looks := false }, kinds := [], alts := [], laidByText := true, laidKinds := [.data, .widerDeep, .widerDeep, .pinned], laidTests := true, laidLooks := .later }
def QuotaSetsCardSaid : Prop := Claim7.holds Tryd.pinned (.plain (OpenSpec.ofChange quotaSetsSpec)) quotaSetsCard

/-- THE TIED CARD OF 'demesnelaw10.QuotaForm'. -/
def quotaFormCard : Claim7 := { stood := { row := quotaFormRow, standIns := [], harness := (true, "dea143bca5e102910d6eb01ae9aa11dc47fbe7c59b3e931f1899ab09138a1063"), looks := false }, kinds := [], alts := [], laidByText := true, laidKinds := [.data, .widerDeep, .widerDeep, .pinned], laidTests := true, laidLooks := .later }
def QuotaFormCardSaid : Prop := Claim7.holds Tryd.pinned (.plain (OpenSpec.ofChange quotaFormSpec)) quotaFormCard

/-- THE SECOND FORM's CARD OF 'demesnelaw10.QuotaRight'. -/
def quotaRightUptoCard : Claim7 := { stood := { row := quotaRightUptoRow, standIns := [], harness := (true, "dea143bca5e102910d6eb01ae9aa11dc47fbe7c59b3e931f1899ab09138a1063"), looks := false }, kinds := [], alts := [], laidByText := true, laidKinds := [.data, .widerDeep, .widerDeep, .pinned], laidTests := true, laidLooks := .later }
def QuotaRightUptoCardSaid : Prop := Claim7.holds Tryd.pinned (.plain (OpenSpec.upto quotaRightSpec)) quotaRightUptoCard

/-- THE SECOND FORM's CARD OF 'demesnelaw10.QuotaSums'. -/
def quotaSumsUptoCard : Claim7 := { stood := { row := quotaSumsUptoRow, standIns := [], harness := (true, "dea143bca5e102910d6eb01ae9aa11dc47fbe7c59b3e931f1899ab09138a1063"), looks := false }, kinds := [], alts := [], laidByText := true, laidKinds := [.data, .widerDeep, .widerDeep, .pinned], laidTests := true, laidLooks := .later }
def QuotaSumsUptoCardSaid : Prop := Claim7.holds Tryd.pinned (.plain (OpenSpec.upto quotaSumsSpec)) quotaSumsUptoCard

/-- THE SECOND FORM's CARD OF 'demesnelaw10.QuotaBack'. -/
def quotaBackUptoCard : Claim7 := { stood := { row := quotaBackUptoRow, standIns := [], harness := (true, "dea143bca5e102910d6eb01ae9aa11dc47fbe7c59b3e931f1899ab09138a1063"), looks := false }, kinds := [], alts := [], laidByText := true, laidKinds := [.data, .widerDeep, .widerDeep, .pinned], laidTests := true, laidLooks := .later }
def QuotaBackUptoCardSaid : Prop := Claim7.holds Tryd.pinned (.plain (OpenSpec.upto quotaBackSpec)) quotaBackUptoCard

/-- THE SECOND FORM's CARD OF 'demesnelaw10.QuotaCharges'. -/
def quotaChargesUptoCard : Claim7 := { stood := { row := quotaChargesUptoRow, standIns := [], harness := (true, "dea143bca5e102910d6eb01ae9aa11dc47fbe7c59b3e931f1899ab09138a1063"), looks := false }, kinds := [], alts := [], laidByText := true, laidKinds := [.data, .widerDeep, .widerDeep, .pinned], laidTests := true, laidLooks := .later }
def QuotaChargesUptoCardSaid : Prop := Claim7.holds Tryd.pinned (.plain (OpenSpec.upto quotaChargesSpec)) quotaChargesUptoCard

/-- THE SECOND FORM's CARD OF 'demesnelaw10.QuotaSets'. -/
def quotaSetsUptoCard : Claim7 := { stood := { row := quotaSetsUptoRow, standIns := [], harness := (true, "dea143bca5e102910d6eb01ae9aa11dc47fbe7c59b3e931f1899ab09138a1063"), looks := false }, kinds := [], alts := [], laidByText := true, laidKinds := [.data, .widerDeep, .widerDeep, .pinned], laidTests := true, laidLooks := .later }
def QuotaSetsUptoCardSaid : Prop := Claim7.holds Tryd.pinned (.plain (OpenSpec.upto quotaSetsSpec)) quotaSetsUptoCard

/-- THE SECOND FORM's CARD OF 'demesnelaw10.QuotaForm'. -/
def quotaFormUptoCard : Claim7 := { stood := { row := quotaFormUptoRow, standIns := [], harness := (true, "dea143bca5e102910d6eb01ae9aa11dc47fbe7c59b3e931f1899ab09138a1063"), looks := false }, kinds := [], alts := [], laidByText := true, laidKinds := [.data, .widerDeep, .widerDeep, .pinned], laidTests := true, laidLooks := .later }
def QuotaFormUptoCardSaid : Prop := Claim7.holds Tryd.pinned (.plain (OpenSpec.upto quotaFormSpec)) quotaFormUptoCard
end Rows
end Go.Proofs.YtopnllbfhhjobaaDoor
