/-
  NARROWER THAN 'FOR EVERY INPUT', by the rows' own cells (each row's printed sentence says how): LabelFinds: laid · LabelRight: laid · LabelTells: laid · LabelBack: laid · LabelOnce: laid · LabelTorn: laid · SelMatches: laid · SelTurns: laid · SelLabels: laid · SelTells: laid · SelBack: laid · SelOnce: laid.
  DERIVED. THE GIVEN ROWS OF THIS SEAT. 12 by the template 'for every input the law returns true; each argument reads behind the call as it read before'; 0 by the template 'total and deterministic' (their statements: YtbkemhheombfcaaDoorTotals.lean).
  GIVEN WITH THE SEED: the statements are not yours to turn. If you find one false, say at which input.
  Laid BY PROGRAM, IN A SANDBOX (cutbox-rows.mjs): the forced cells as the released guide's own fill.sh prints them over the translation acf26da932cdcb57… (all of the seat's roots in one cut). By AI agents, Wed Nov 11 2026. No macro, syntax, notation, axiom, sorry.
-/
import Derived.Test.YtbkemhheombfcaaDoorChecked
import GoSem.PinnedTables
import GoSem.Claim
import GoSem.ClaimJoined
import GoSem.ClaimMapViews
import Derived.JoinedTies
import Derived.KernelRfl
namespace Go.Proofs.YtbkemhheombfcaaDoor
/- THE CELL 'sum', in the pinned program and in every row, IS THE sha256 OF THE DUMP (.gsa) THAT YtbkemhheombfcaaDoorProg.lean LOADS. Nothing in Lean hashes anything: it is a label: what it is worth is what the hold of that sum in a sandbox is worth. -/
noncomputable def Tryd.pinned : Pinned := { name := "ytbkemhheombfcaadoor", sum := "acf26da932cdcb57fcef584cac99d782419c4c3a1225f0d4fba18293a29b0a67", checked := Tryd.checked }
namespace Rows
def none {H : Type} : Left H := { results := [], args := [] }

/- WHAT THE LISTED PACKAGE-LEVEL VARIABLES READ AS WHEN THE CALL BEGINS. Each datum BY PROGRAM (the guide's laid-datum.mjs) off the statement by which the dump's own 'gosem.cut.vars' lays the variable. In a bare row this is a premise. The card (YtbkemhheombfcaaDoorCards.lean) ties it to the program's text. -/
def laid_unicode_utf8_acceptRanges {H : Type} : DataW H := .agg [.agg [.lit (.int .u8 128), .lit (.int .u8 191)], .agg [.lit (.int .u8 160), .lit (.int .u8 191)], .agg [.lit (.int .u8 128), .lit (.int .u8 159)], .agg [.lit (.int .u8 144), .lit (.int .u8 191)], .agg [.lit (.int .u8 128), .lit (.int .u8 143)], .agg [.lit (.int .u8 0), .lit (.int .u8 0)], .agg [.lit (.int .u8 0), .lit (.int .u8 0)], .agg [.lit (.int .u8 0), .lit (.int .u8 0)], .agg [.lit (.int .u8 0), .lit (.int .u8 0)], .agg [.lit (.int .u8 0), .lit (.int .u8 0)], .agg [.lit (.int .u8 0), .lit (.int .u8 0)], .agg [.lit (.int .u8 0), .lit (.int .u8 0)], .agg [.lit (.int .u8 0), .lit (.int .u8 0)], .agg [.lit (.int .u8 0), .lit (.int .u8 0)], .agg [.lit (.int .u8 0), .lit (.int .u8 0)], .agg [.lit (.int .u8 0), .lit (.int .u8 0)]]
def laid_demesne_word_letters {H : Type} : DataW H := .agg [.agg [.lit (.int .i32 97), .lit (.int .i32 122)], .agg [.lit (.int .i32 945), .lit (.int .i32 969)], .agg [.lit (.int .i32 1072), .lit (.int .i32 1103)]]
def laid_demesne_word_marks {H : Type} : DataW H := .agg [.agg [.lit (.int .i32 48), .lit (.int .i32 57)], .agg [.lit (.int .i32 45), .lit (.int .i32 45)]]
/-- One of Go's own tables, pinned by name: the form's constant. -/
def laid_unicode_utf8_first : DataW Unit := Go.Pinned.utf8First

/-- 'demesnelaw04.LabelFinds': WHATEVER THE INPUT: true; the input reads as it did. -/
def labelFindsSpec : ChangeSpec := { name := "labelFinds", fn := fun _ => fun
  | [d1, d2] => { results := [.lit (.bool true)], args := [d1, d2] }
  | _ => none }
def labelFindsRow : OpenClaim := { program := "ytbkemhheombfcaadoor", sum := "acf26da932cdcb57fcef584cac99d782419c4c3a1225f0d4fba18293a29b0a67", func := "demesne/demesnelaw04.LabelFinds", spec := "labelFinds", inPlace := ["internal/bytealg.CountString", "internal/bytealg.IndexByteString", "internal/bytealg.IndexString", "internal/abi.NoEscape", "internal/bytealg.MakeNoZero"], unfollowed := true, recurses := true, named := ["unicode/utf8.first", "unicode/utf8.acceptRanges", "internal/bytealg.MaxLen", "demesne/word.letters", "demesne/word.marks"], apart := false, laid := [("unicode/utf8.acceptRanges", laid_unicode_utf8_acceptRanges), ("demesne/word.letters", laid_demesne_word_letters), ("demesne/word.marks", laid_demesne_word_marks), ("unicode/utf8.first", laid_unicode_utf8_first)] }
def LabelFindsSaid : Prop := labelFindsRow.holds Tryd.pinned (OpenSpec.ofChange labelFindsSpec)

/-- ITS FALSE NEIGHBOUR: 'it returns false'. Refute it at one input. -/
def labelFindsWrong : ChangeSpec := { name := "labelFinds", fn := fun _ => fun
  | [d1, d2] => { results := [.lit (.bool false)], args := [d1, d2] }
  | _ => none }
def LabelFindsWrongFalsely : Prop := labelFindsRow.holds Tryd.pinned (OpenSpec.ofChange labelFindsWrong)

/-- 'demesnelaw04.LabelRight': WHATEVER THE INPUT: true; the input reads as it did. -/
def labelRightSpec : ChangeSpec := { name := "labelRight", fn := fun _ => fun
  | [d] => { results := [.lit (.bool true)], args := [d] }
  | _ => none }
def labelRightRow : OpenClaim := { program := "ytbkemhheombfcaadoor", sum := "acf26da932cdcb57fcef584cac99d782419c4c3a1225f0d4fba18293a29b0a67", func := "demesne/demesnelaw04.LabelRight", spec := "labelRight", inPlace := ["internal/bytealg.CountString", "internal/bytealg.IndexByteString", "internal/bytealg.IndexString", "internal/abi.NoEscape", "internal/bytealg.MakeNoZero"], unfollowed := true, recurses := true, named := ["unicode/utf8.first", "unicode/utf8.acceptRanges", "internal/bytealg.MaxLen", "demesne/word.letters", "demesne/word.marks"], apart := false, laid := [("unicode/utf8.acceptRanges", laid_unicode_utf8_acceptRanges), ("demesne/word.letters", laid_demesne_word_letters), ("demesne/word.marks", laid_demesne_word_marks), ("unicode/utf8.first", laid_unicode_utf8_first)] }
def LabelRightSaid : Prop := labelRightRow.holds Tryd.pinned (OpenSpec.ofChange labelRightSpec)

/-- ITS FALSE NEIGHBOUR: 'it returns false'. Refute it at one input. -/
def labelRightWrong : ChangeSpec := { name := "labelRight", fn := fun _ => fun
  | [d] => { results := [.lit (.bool false)], args := [d] }
  | _ => none }
def LabelRightWrongFalsely : Prop := labelRightRow.holds Tryd.pinned (OpenSpec.ofChange labelRightWrong)

/-- 'demesnelaw04.LabelTells': WHATEVER THE INPUT: true; the input reads as it did. -/
def labelTellsSpec : ChangeSpec := { name := "labelTells", fn := fun _ => fun
  | [d1, d2, d3, d4, d5] => { results := [.lit (.bool true)], args := [d1, d2, d3, d4, d5] }
  | _ => none }
def labelTellsRow : OpenClaim := { program := "ytbkemhheombfcaadoor", sum := "acf26da932cdcb57fcef584cac99d782419c4c3a1225f0d4fba18293a29b0a67", func := "demesne/demesnelaw04.LabelTells", spec := "labelTells", inPlace := ["internal/bytealg.CountString", "internal/bytealg.IndexByteString", "internal/bytealg.IndexString", "internal/abi.NoEscape", "internal/bytealg.MakeNoZero"], unfollowed := true, recurses := true, named := ["unicode/utf8.first", "unicode/utf8.acceptRanges", "internal/bytealg.MaxLen", "demesne/word.letters", "demesne/word.marks"], apart := false, laid := [("unicode/utf8.acceptRanges", laid_unicode_utf8_acceptRanges), ("demesne/word.letters", laid_demesne_word_letters), ("demesne/word.marks", laid_demesne_word_marks), ("unicode/utf8.first", laid_unicode_utf8_first)] }
def LabelTellsSaid : Prop := labelTellsRow.holds Tryd.pinned (OpenSpec.ofChange labelTellsSpec)

/-- ITS FALSE NEIGHBOUR: 'it returns false'. Refute it at one input. -/
def labelTellsWrong : ChangeSpec := { name := "labelTells", fn := fun _ => fun
  | [d1, d2, d3, d4, d5] => { results := [.lit (.bool false)], args := [d1, d2, d3, d4, d5] }
  | _ => none }
def LabelTellsWrongFalsely : Prop := labelTellsRow.holds Tryd.pinned (OpenSpec.ofChange labelTellsWrong)

/-- 'demesnelaw04.LabelBack': WHATEVER THE INPUT: true; the input reads as it did. -/
def labelBackSpec : ChangeSpec := { name := "labelBack", fn := fun _ => fun
  | [d1, d2, d3, d4] => { results := [.lit (.bool true)], args := [d1, d2, d3, d4] }
  | _ => none }
def labelBackRow : OpenClaim := { program := "ytbkemhheombfcaadoor", sum := "acf26da932cdcb57fcef584cac99d782419c4c3a1225f0d4fba18293a29b0a67", func := "demesne/demesnelaw04.LabelBack", spec := "labelBack", inPlace := ["internal/bytealg.CountString", "internal/bytealg.IndexByteString", "internal/bytealg.IndexString", "internal/abi.NoEscape", "internal/bytealg.MakeNoZero"], unfollowed := true, recurses := true, named := ["unicode/utf8.first", "unicode/utf8.acceptRanges", "internal/bytealg.MaxLen", "demesne/word.letters", "demesne/word.marks"], apart := false, laid := [("unicode/utf8.acceptRanges", laid_unicode_utf8_acceptRanges), ("demesne/word.letters", laid_demesne_word_letters), ("demesne/word.marks", laid_demesne_word_marks), ("unicode/utf8.first", laid_unicode_utf8_first)] }
def LabelBackSaid : Prop := labelBackRow.holds Tryd.pinned (OpenSpec.ofChange labelBackSpec)

/-- ITS FALSE NEIGHBOUR: 'it returns false'. Refute it at one input. -/
def labelBackWrong : ChangeSpec := { name := "labelBack", fn := fun _ => fun
  | [d1, d2, d3, d4] => { results := [.lit (.bool false)], args := [d1, d2, d3, d4] }
  | _ => none }
def LabelBackWrongFalsely : Prop := labelBackRow.holds Tryd.pinned (OpenSpec.ofChange labelBackWrong)

/-- 'demesnelaw04.LabelOnce': WHATEVER THE INPUT: true; the input reads as it did. -/
def labelOnceSpec : ChangeSpec := { name := "labelOnce", fn := fun _ => fun
  | [d1, d2, d3] => { results := [.lit (.bool true)], args := [d1, d2, d3] }
  | _ => none }
def labelOnceRow : OpenClaim := { program := "ytbkemhheombfcaadoor", sum := "acf26da932cdcb57fcef584cac99d782419c4c3a1225f0d4fba18293a29b0a67", func := "demesne/demesnelaw04.LabelOnce", spec := "labelOnce", inPlace := ["internal/bytealg.CountString", "internal/bytealg.IndexByteString", "internal/bytealg.IndexString", "internal/abi.NoEscape", "internal/bytealg.MakeNoZero"], unfollowed := true, recurses := true, named := ["unicode/utf8.first", "unicode/utf8.acceptRanges", "internal/bytealg.MaxLen", "demesne/word.letters", "demesne/word.marks"], apart := false, laid := [("unicode/utf8.acceptRanges", laid_unicode_utf8_acceptRanges), ("demesne/word.letters", laid_demesne_word_letters), ("demesne/word.marks", laid_demesne_word_marks), ("unicode/utf8.first", laid_unicode_utf8_first)] }
def LabelOnceSaid : Prop := labelOnceRow.holds Tryd.pinned (OpenSpec.ofChange labelOnceSpec)

/-- ITS FALSE NEIGHBOUR: 'it returns false'. Refute it at one input. -/
def labelOnceWrong : ChangeSpec := { name := "labelOnce", fn := fun _ => fun
  | [d1, d2, d3] => { results := [.lit (.bool false)], args := [d1, d2, d3] }
  | _ => none }
def LabelOnceWrongFalsely : Prop := labelOnceRow.holds Tryd.pinned (OpenSpec.ofChange labelOnceWrong)

/-- 'demesnelaw04.LabelTorn': WHATEVER THE INPUT: true; the input reads as it did. -/
def labelTornSpec : ChangeSpec := { name := "labelTorn", fn := fun _ => fun
  | [d1, d2] => { results := [.lit (.bool true)], args := [d1, d2] }
  | _ => none }
def labelTornRow : OpenClaim := { program := "ytbkemhheombfcaadoor", sum := "acf26da932cdcb57fcef584cac99d782419c4c3a1225f0d4fba18293a29b0a67", func := "demesne/demesnelaw04.LabelTorn", spec := "labelTorn", inPlace := ["internal/bytealg.CountString", "internal/bytealg.IndexByteString", "internal/bytealg.IndexString", "internal/abi.NoEscape", "internal/bytealg.MakeNoZero"], unfollowed := true, recurses := true, named := ["unicode/utf8.first", "unicode/utf8.acceptRanges", "internal/bytealg.MaxLen", "demesne/word.letters", "demesne/word.marks"], apart := false, laid := [("unicode/utf8.acceptRanges", laid_unicode_utf8_acceptRanges), ("demesne/word.letters", laid_demesne_word_letters), ("demesne/word.marks", laid_demesne_word_marks), ("unicode/utf8.first", laid_unicode_utf8_first)] }
def LabelTornSaid : Prop := labelTornRow.holds Tryd.pinned (OpenSpec.ofChange labelTornSpec)

/-- ITS FALSE NEIGHBOUR: 'it returns false'. Refute it at one input. -/
def labelTornWrong : ChangeSpec := { name := "labelTorn", fn := fun _ => fun
  | [d1, d2] => { results := [.lit (.bool false)], args := [d1, d2] }
  | _ => none }
def LabelTornWrongFalsely : Prop := labelTornRow.holds Tryd.pinned (OpenSpec.ofChange labelTornWrong)

/-- 'demesnelaw05.SelMatches': WHATEVER THE INPUT: true; the input reads as it did. -/
def selMatchesSpec : ChangeSpec := { name := "selMatches", fn := fun _ => fun
  | [d1, d2] => { results := [.lit (.bool true)], args := [d1, d2] }
  | _ => none }
def selMatchesRow : OpenClaim := { program := "ytbkemhheombfcaadoor", sum := "acf26da932cdcb57fcef584cac99d782419c4c3a1225f0d4fba18293a29b0a67", func := "demesne/demesnelaw05.SelMatches", spec := "selMatches", inPlace := ["internal/bytealg.CountString", "internal/bytealg.IndexByteString", "internal/bytealg.IndexString", "internal/abi.NoEscape", "internal/bytealg.MakeNoZero"], unfollowed := true, recurses := true, named := ["unicode/utf8.first", "unicode/utf8.acceptRanges", "internal/bytealg.MaxLen", "demesne/word.letters", "demesne/word.marks"], apart := false, laid := [("unicode/utf8.acceptRanges", laid_unicode_utf8_acceptRanges), ("demesne/word.letters", laid_demesne_word_letters), ("demesne/word.marks", laid_demesne_word_marks), ("unicode/utf8.first", laid_unicode_utf8_first)] }
def SelMatchesSaid : Prop := selMatchesRow.holds Tryd.pinned (OpenSpec.ofChange selMatchesSpec)

/-- ITS FALSE NEIGHBOUR: 'it returns false'. Refute it at one input. -/
def selMatchesWrong : ChangeSpec := { name := "selMatches", fn := fun _ => fun
  | [d1, d2] => { results := [.lit (.bool false)], args := [d1, d2] }
  | _ => none }
def SelMatchesWrongFalsely : Prop := selMatchesRow.holds Tryd.pinned (OpenSpec.ofChange selMatchesWrong)

/-- 'demesnelaw05.SelTurns': WHATEVER THE INPUT: true; the input reads as it did. -/
def selTurnsSpec : ChangeSpec := { name := "selTurns", fn := fun _ => fun
  | [d1, d2, d3] => { results := [.lit (.bool true)], args := [d1, d2, d3] }
  | _ => none }
def selTurnsRow : OpenClaim := { program := "ytbkemhheombfcaadoor", sum := "acf26da932cdcb57fcef584cac99d782419c4c3a1225f0d4fba18293a29b0a67", func := "demesne/demesnelaw05.SelTurns", spec := "selTurns", inPlace := ["internal/bytealg.CountString", "internal/bytealg.IndexByteString", "internal/bytealg.IndexString", "internal/abi.NoEscape", "internal/bytealg.MakeNoZero"], unfollowed := true, recurses := true, named := ["unicode/utf8.first", "unicode/utf8.acceptRanges", "internal/bytealg.MaxLen", "demesne/word.letters", "demesne/word.marks"], apart := false, laid := [("unicode/utf8.acceptRanges", laid_unicode_utf8_acceptRanges), ("demesne/word.letters", laid_demesne_word_letters), ("demesne/word.marks", laid_demesne_word_marks), ("unicode/utf8.first", laid_unicode_utf8_first)] }
def SelTurnsSaid : Prop := selTurnsRow.holds Tryd.pinned (OpenSpec.ofChange selTurnsSpec)

/-- ITS FALSE NEIGHBOUR: 'it returns false'. Refute it at one input. -/
def selTurnsWrong : ChangeSpec := { name := "selTurns", fn := fun _ => fun
  | [d1, d2, d3] => { results := [.lit (.bool false)], args := [d1, d2, d3] }
  | _ => none }
def SelTurnsWrongFalsely : Prop := selTurnsRow.holds Tryd.pinned (OpenSpec.ofChange selTurnsWrong)

/-- 'demesnelaw05.SelLabels': WHATEVER THE INPUT: true; the input reads as it did. -/
def selLabelsSpec : ChangeSpec := { name := "selLabels", fn := fun _ => fun
  | [d1, d2, d3, d4] => { results := [.lit (.bool true)], args := [d1, d2, d3, d4] }
  | _ => none }
def selLabelsRow : OpenClaim := { program := "ytbkemhheombfcaadoor", sum := "acf26da932cdcb57fcef584cac99d782419c4c3a1225f0d4fba18293a29b0a67", func := "demesne/demesnelaw05.SelLabels", spec := "selLabels", inPlace := ["internal/bytealg.CountString", "internal/bytealg.IndexByteString", "internal/bytealg.IndexString", "internal/abi.NoEscape", "internal/bytealg.MakeNoZero"], unfollowed := true, recurses := true, named := ["unicode/utf8.first", "unicode/utf8.acceptRanges", "internal/bytealg.MaxLen", "demesne/word.letters", "demesne/word.marks"], apart := false, laid := [("unicode/utf8.acceptRanges", laid_unicode_utf8_acceptRanges), ("demesne/word.letters", laid_demesne_word_letters), ("demesne/word.marks", laid_demesne_word_marks), ("unicode/utf8.first", laid_unicode_utf8_first)] }
def SelLabelsSaid : Prop := selLabelsRow.holds Tryd.pinned (OpenSpec.ofChange selLabelsSpec)

/-- ITS FALSE NEIGHBOUR: 'it returns false'. Refute it at one input. -/
def selLabelsWrong : ChangeSpec := { name := "selLabels", fn := fun _ => fun
  | [d1, d2, d3, d4] => { results := [.lit (.bool false)], args := [d1, d2, d3, d4] }
  | _ => none }
def SelLabelsWrongFalsely : Prop := selLabelsRow.holds Tryd.pinned (OpenSpec.ofChange selLabelsWrong)

/-- 'demesnelaw05.SelTells': WHATEVER THE INPUT: true; the input reads as it did. -/
def selTellsSpec : ChangeSpec := { name := "selTells", fn := fun _ => fun
  | [d1, d2, d3, d4, d5, d6] => { results := [.lit (.bool true)], args := [d1, d2, d3, d4, d5, d6] }
  | _ => none }
def selTellsRow : OpenClaim := { program := "ytbkemhheombfcaadoor", sum := "acf26da932cdcb57fcef584cac99d782419c4c3a1225f0d4fba18293a29b0a67", func := "demesne/demesnelaw05.SelTells", spec := "selTells", inPlace := ["internal/bytealg.CountString", "internal/bytealg.IndexByteString", "internal/bytealg.IndexString", "internal/abi.NoEscape", "internal/bytealg.MakeNoZero"], unfollowed := true, recurses := true, named := ["unicode/utf8.first", "unicode/utf8.acceptRanges", "internal/bytealg.MaxLen", "demesne/word.letters", "demesne/word.marks"], apart := false, laid := [("unicode/utf8.acceptRanges", laid_unicode_utf8_acceptRanges), ("demesne/word.letters", laid_demesne_word_letters), ("demesne/word.marks", laid_demesne_word_marks), ("unicode/utf8.first", laid_unicode_utf8_first)] }
def SelTellsSaid : Prop := selTellsRow.holds Tryd.pinned (OpenSpec.ofChange selTellsSpec)

/-- ITS FALSE NEIGHBOUR: 'it returns false'. Refute it at one input. -/
def selTellsWrong : ChangeSpec := { name := "selTells", fn := fun _ => fun
  | [d1, d2, d3, d4, d5, d6] => { results := [.lit (.bool false)], args := [d1, d2, d3, d4, d5, d6] }
  | _ => none }
def SelTellsWrongFalsely : Prop := selTellsRow.holds Tryd.pinned (OpenSpec.ofChange selTellsWrong)

/-- 'demesnelaw05.SelBack': WHATEVER THE INPUT: true; the input reads as it did. -/
def selBackSpec : ChangeSpec := { name := "selBack", fn := fun _ => fun
  | [d1, d2, d3, d4] => { results := [.lit (.bool true)], args := [d1, d2, d3, d4] }
  | _ => none }
def selBackRow : OpenClaim := { program := "ytbkemhheombfcaadoor", sum := "acf26da932cdcb57fcef584cac99d782419c4c3a1225f0d4fba18293a29b0a67", func := "demesne/demesnelaw05.SelBack", spec := "selBack", inPlace := ["internal/bytealg.CountString", "internal/bytealg.IndexByteString", "internal/bytealg.IndexString", "internal/abi.NoEscape", "internal/bytealg.MakeNoZero"], unfollowed := true, recurses := true, named := ["unicode/utf8.first", "unicode/utf8.acceptRanges", "internal/bytealg.MaxLen", "demesne/word.letters", "demesne/word.marks"], apart := false, laid := [("unicode/utf8.acceptRanges", laid_unicode_utf8_acceptRanges), ("demesne/word.letters", laid_demesne_word_letters), ("demesne/word.marks", laid_demesne_word_marks), ("unicode/utf8.first", laid_unicode_utf8_first)] }
def SelBackSaid : Prop := selBackRow.holds Tryd.pinned (OpenSpec.ofChange selBackSpec)

/-- ITS FALSE NEIGHBOUR: 'it returns false'. Refute it at one input. -/
def selBackWrong : ChangeSpec := { name := "selBack", fn := fun _ => fun
  | [d1, d2, d3, d4] => { results := [.lit (.bool false)], args := [d1, d2, d3, d4] }
  | _ => none }
def SelBackWrongFalsely : Prop := selBackRow.holds Tryd.pinned (OpenSpec.ofChange selBackWrong)

/-- 'demesnelaw05.SelOnce': WHATEVER THE INPUT: true; the input reads as it did. -/
def selOnceSpec : ChangeSpec := { name := "selOnce", fn := fun _ => fun
  | [d1, d2, d3, d4] => { results := [.lit (.bool true)], args := [d1, d2, d3, d4] }
  | _ => none }
def selOnceRow : OpenClaim := { program := "ytbkemhheombfcaadoor", sum := "acf26da932cdcb57fcef584cac99d782419c4c3a1225f0d4fba18293a29b0a67", func := "demesne/demesnelaw05.SelOnce", spec := "selOnce", inPlace := ["internal/bytealg.CountString", "internal/bytealg.IndexByteString", "internal/bytealg.IndexString", "internal/abi.NoEscape", "internal/bytealg.MakeNoZero"], unfollowed := true, recurses := true, named := ["unicode/utf8.first", "unicode/utf8.acceptRanges", "internal/bytealg.MaxLen", "demesne/word.letters", "demesne/word.marks"], apart := false, laid := [("unicode/utf8.acceptRanges", laid_unicode_utf8_acceptRanges), ("demesne/word.letters", laid_demesne_word_letters), ("demesne/word.marks", laid_demesne_word_marks), ("unicode/utf8.first", laid_unicode_utf8_first)] }
def SelOnceSaid : Prop := selOnceRow.holds Tryd.pinned (OpenSpec.ofChange selOnceSpec)

/-- ITS FALSE NEIGHBOUR: 'it returns false'. Refute it at one input. -/
def selOnceWrong : ChangeSpec := { name := "selOnce", fn := fun _ => fun
  | [d1, d2, d3, d4] => { results := [.lit (.bool false)], args := [d1, d2, d3, d4] }
  | _ => none }
def SelOnceWrongFalsely : Prop := selOnceRow.holds Tryd.pinned (OpenSpec.ofChange selOnceWrong)

/- THE SECOND FORM. 'bulk': how many values and letters a reading holds, each counted each time it is reached (what is shared counts as often as it is met; a slice's spare places count too). A statement '..UptoSaid' is the law's where the arguments, and the package variables that the reading takes, are together of bulk at most 1048576: NARROWER than '..Said'. Prove '..Said' where nothing that the law and all that it calls make is longer than what came in: it says more and counts as full. Else prove '..UptoSaid'. A law counts once. -/
mutual
def uptoBulk {H : Type} : DataW H → Nat
  | .lit (.string bytes) => bytes.length + 1
  | .lit _ => 1
  | .nil => 1
  | .ptr d => uptoBulk d + 1
  | .slice elems spare => uptoBulkAll elems + uptoBulkAll spare + 1
  | .agg parts => uptoBulkAll parts + 1
  | .iface _ d => uptoBulk d + 1
  | .map entries => uptoBulkEntries entries + 1
  | .held _ => 1
def uptoBulkAll {H : Type} : List (DataW H) → Nat
  | [] => 0
  | d :: r => uptoBulk d + uptoBulkAll r
def uptoBulkEntries {H : Type} : List (Lit × DataW H) → Nat
  | [] => 0
  | x :: r => uptoBulkEntry x + uptoBulkEntries r
def uptoBulkEntry {H : Type} : Lit × DataW H → Nat
  | (.string bytes, d) => bytes.length + uptoBulk d + 1
  | (_, d) => uptoBulk d + 1
 end
def uptoSmall : (H : Type) → List (DataW H) → Bool := fun _ ds => decide (uptoBulkAll ds ≤ 1048576)
def OpenSpec.upto (s : _root_.Go.ChangeSpec) : _root_.Go.OpenSpec := { _root_.Go.OpenSpec.ofChange s with cond := some uptoSmall }

/-- 'demesnelaw04.LabelFinds', WHERE WHAT IT READS IS OF BULK AT MOST 1048576: true; the input reads as it did. -/
def labelFindsUptoRow : OpenClaim := { program := "ytbkemhheombfcaadoor", sum := "acf26da932cdcb57fcef584cac99d782419c4c3a1225f0d4fba18293a29b0a67", func := "demesne/demesnelaw04.LabelFinds", spec := "labelFinds", inPlace := ["internal/bytealg.CountString", "internal/bytealg.IndexByteString", "internal/bytealg.IndexString", "internal/abi.NoEscape", "internal/bytealg.MakeNoZero"], unfollowed := true, recurses := true, named := ["unicode/utf8.first", "unicode/utf8.acceptRanges", "internal/bytealg.MaxLen", "demesne/word.letters", "demesne/word.marks"], apart := false, laid := [("unicode/utf8.acceptRanges", laid_unicode_utf8_acceptRanges), ("demesne/word.letters", laid_demesne_word_letters), ("demesne/word.marks", laid_demesne_word_marks), ("unicode/utf8.first", laid_unicode_utf8_first)], narrowed := true }
def LabelFindsUptoSaid : Prop := labelFindsUptoRow.holds Tryd.pinned (OpenSpec.upto labelFindsSpec)

/-- 'demesnelaw04.LabelRight', WHERE WHAT IT READS IS OF BULK AT MOST 1048576: true; the input reads as it did. -/
def labelRightUptoRow : OpenClaim := { program := "ytbkemhheombfcaadoor", sum := "acf26da932cdcb57fcef584cac99d782419c4c3a1225f0d4fba18293a29b0a67", func := "demesne/demesnelaw04.LabelRight", spec := "labelRight", inPlace := ["internal/bytealg.CountString", "internal/bytealg.IndexByteString", "internal/bytealg.IndexString", "internal/abi.NoEscape", "internal/bytealg.MakeNoZero"], unfollowed := true, recurses := true, named := ["unicode/utf8.first", "unicode/utf8.acceptRanges", "internal/bytealg.MaxLen", "demesne/word.letters", "demesne/word.marks"], apart := false, laid := [("unicode/utf8.acceptRanges", laid_unicode_utf8_acceptRanges), ("demesne/word.letters", laid_demesne_word_letters), ("demesne/word.marks", laid_demesne_word_marks), ("unicode/utf8.first", laid_unicode_utf8_first)], narrowed := true }
def LabelRightUptoSaid : Prop := labelRightUptoRow.holds Tryd.pinned (OpenSpec.upto labelRightSpec)

/-- 'demesnelaw04.LabelTells', WHERE WHAT IT READS IS OF BULK AT MOST 1048576: true; the input reads as it did. -/
def labelTellsUptoRow : OpenClaim := { program := "ytbkemhheombfcaadoor", sum := "acf26da932cdcb57fcef584cac99d782419c4c3a1225f0d4fba18293a29b0a67", func := "demesne/demesnelaw04.LabelTells", spec := "labelTells", inPlace := ["internal/bytealg.CountString", "internal/bytealg.IndexByteString", "internal/bytealg.IndexString", "internal/abi.NoEscape", "internal/bytealg.MakeNoZero"], unfollowed := true, recurses := true, named := ["unicode/utf8.first", "unicode/utf8.acceptRanges", "internal/bytealg.MaxLen", "demesne/word.letters", "demesne/word.marks"], apart := false, laid := [("unicode/utf8.acceptRanges", laid_unicode_utf8_acceptRanges), ("demesne/word.letters", laid_demesne_word_letters), ("demesne/word.marks", laid_demesne_word_marks), ("unicode/utf8.first", laid_unicode_utf8_first)], narrowed := true }
def LabelTellsUptoSaid : Prop := labelTellsUptoRow.holds Tryd.pinned (OpenSpec.upto labelTellsSpec)

/-- 'demesnelaw04.LabelBack', WHERE WHAT IT READS IS OF BULK AT MOST 1048576: true; the input reads as it did. -/
def labelBackUptoRow : OpenClaim := { program := "ytbkemhheombfcaadoor", sum := "acf26da932cdcb57fcef584cac99d782419c4c3a1225f0d4fba18293a29b0a67", func := "demesne/demesnelaw04.LabelBack", spec := "labelBack", inPlace := ["internal/bytealg.CountString", "internal/bytealg.IndexByteString", "internal/bytealg.IndexString", "internal/abi.NoEscape", "internal/bytealg.MakeNoZero"], unfollowed := true, recurses := true, named := ["unicode/utf8.first", "unicode/utf8.acceptRanges", "internal/bytealg.MaxLen", "demesne/word.letters", "demesne/word.marks"], apart := false, laid := [("unicode/utf8.acceptRanges", laid_unicode_utf8_acceptRanges), ("demesne/word.letters", laid_demesne_word_letters), ("demesne/word.marks", laid_demesne_word_marks), ("unicode/utf8.first", laid_unicode_utf8_first)], narrowed := true }
def LabelBackUptoSaid : Prop := labelBackUptoRow.holds Tryd.pinned (OpenSpec.upto labelBackSpec)

/-- 'demesnelaw04.LabelOnce', WHERE WHAT IT READS IS OF BULK AT MOST 1048576: true; the input reads as it did. -/
def labelOnceUptoRow : OpenClaim := { program := "ytbkemhheombfcaadoor", sum := "acf26da932cdcb57fcef584cac99d782419c4c3a1225f0d4fba18293a29b0a67", func := "demesne/demesnelaw04.LabelOnce", spec := "labelOnce", inPlace := ["internal/bytealg.CountString", "internal/bytealg.IndexByteString", "internal/bytealg.IndexString", "internal/abi.NoEscape", "internal/bytealg.MakeNoZero"], unfollowed := true, recurses := true, named := ["unicode/utf8.first", "unicode/utf8.acceptRanges", "internal/bytealg.MaxLen", "demesne/word.letters", "demesne/word.marks"], apart := false, laid := [("unicode/utf8.acceptRanges", laid_unicode_utf8_acceptRanges), ("demesne/word.letters", laid_demesne_word_letters), ("demesne/word.marks", laid_demesne_word_marks), ("unicode/utf8.first", laid_unicode_utf8_first)], narrowed := true }
def LabelOnceUptoSaid : Prop := labelOnceUptoRow.holds Tryd.pinned (OpenSpec.upto labelOnceSpec)

/-- 'demesnelaw04.LabelTorn', WHERE WHAT IT READS IS OF BULK AT MOST 1048576: true; the input reads as it did. -/
def labelTornUptoRow : OpenClaim := { program := "ytbkemhheombfcaadoor", sum := "acf26da932cdcb57fcef584cac99d782419c4c3a1225f0d4fba18293a29b0a67", func := "demesne/demesnelaw04.LabelTorn", spec := "labelTorn", inPlace := ["internal/bytealg.CountString", "internal/bytealg.IndexByteString", "internal/bytealg.IndexString", "internal/abi.NoEscape", "internal/bytealg.MakeNoZero"], unfollowed := true, recurses := true, named := ["unicode/utf8.first", "unicode/utf8.acceptRanges", "internal/bytealg.MaxLen", "demesne/word.letters", "demesne/word.marks"], apart := false, laid := [("unicode/utf8.acceptRanges", laid_unicode_utf8_acceptRanges), ("demesne/word.letters", laid_demesne_word_letters), ("demesne/word.marks", laid_demesne_word_marks), ("unicode/utf8.first", laid_unicode_utf8_first)], narrowed := true }
def LabelTornUptoSaid : Prop := labelTornUptoRow.holds Tryd.pinned (OpenSpec.upto labelTornSpec)

/-- 'demesnelaw05.SelMatches', WHERE WHAT IT READS IS OF BULK AT MOST 1048576: true; the input reads as it did. -/
def selMatchesUptoRow : OpenClaim := { program := "ytbkemhheombfcaadoor", sum := "acf26da932cdcb57fcef584cac99d782419c4c3a1225f0d4fba18293a29b0a67", func := "demesne/demesnelaw05.SelMatches", spec := "selMatches", inPlace := ["internal/bytealg.CountString", "internal/bytealg.IndexByteString", "internal/bytealg.IndexString", "internal/abi.NoEscape", "internal/bytealg.MakeNoZero"], unfollowed := true, recurses := true, named := ["unicode/utf8.first", "unicode/utf8.acceptRanges", "internal/bytealg.MaxLen", "demesne/word.letters", "demesne/word.marks"], apart := false, laid := [("unicode/utf8.acceptRanges", laid_unicode_utf8_acceptRanges), ("demesne/word.letters", laid_demesne_word_letters), ("demesne/word.marks", laid_demesne_word_marks), ("unicode/utf8.first", laid_unicode_utf8_first)], narrowed := true }
def SelMatchesUptoSaid : Prop := selMatchesUptoRow.holds Tryd.pinned (OpenSpec.upto selMatchesSpec)

/-- 'demesnelaw05.SelTurns', WHERE WHAT IT READS IS OF BULK AT MOST 1048576: true; the input reads as it did. -/
def selTurnsUptoRow : OpenClaim := { program := "ytbkemhheombfcaadoor", sum := "acf26da932cdcb57fcef584cac99d782419c4c3a1225f0d4fba18293a29b0a67", func := "demesne/demesnelaw05.SelTurns", spec := "selTurns", inPlace := ["internal/bytealg.CountString", "internal/bytealg.IndexByteString", "internal/bytealg.IndexString", "internal/abi.NoEscape", "internal/bytealg.MakeNoZero"], unfollowed := true, recurses := true, named := ["unicode/utf8.first", "unicode/utf8.acceptRanges", "internal/bytealg.MaxLen", "demesne/word.letters", "demesne/word.marks"], apart := false, laid := [("unicode/utf8.acceptRanges", laid_unicode_utf8_acceptRanges), ("demesne/word.letters", laid_demesne_word_letters), ("demesne/word.marks", laid_demesne_word_marks), ("unicode/utf8.first", laid_unicode_utf8_first)], narrowed := true }
def SelTurnsUptoSaid : Prop := selTurnsUptoRow.holds Tryd.pinned (OpenSpec.upto selTurnsSpec)

/-- 'demesnelaw05.SelLabels', WHERE WHAT IT READS IS OF BULK AT MOST 1048576: true; the input reads as it did. -/
def selLabelsUptoRow : OpenClaim := { program := "ytbkemhheombfcaadoor", sum := "acf26da932cdcb57fcef584cac99d782419c4c3a1225f0d4fba18293a29b0a67", func := "demesne/demesnelaw05.SelLabels", spec := "selLabels", inPlace := ["internal/bytealg.CountString", "internal/bytealg.IndexByteString", "internal/bytealg.IndexString", "internal/abi.NoEscape", "internal/bytealg.MakeNoZero"], unfollowed := true, recurses := true, named := ["unicode/utf8.first", "unicode/utf8.acceptRanges", "internal/bytealg.MaxLen", "demesne/word.letters", "demesne/word.marks"], apart := false, laid := [("unicode/utf8.acceptRanges", laid_unicode_utf8_acceptRanges), ("demesne/word.letters", laid_demesne_word_letters), ("demesne/word.marks", laid_demesne_word_marks), ("unicode/utf8.first", laid_unicode_utf8_first)], narrowed := true }
def SelLabelsUptoSaid : Prop := selLabelsUptoRow.holds Tryd.pinned (OpenSpec.upto selLabelsSpec)

/-- 'demesnelaw05.SelTells', WHERE WHAT IT READS IS OF BULK AT MOST 1048576: true; the input reads as it did. -/
def selTellsUptoRow : OpenClaim := { program := "ytbkemhheombfcaadoor", sum := "acf26da932cdcb57fcef584cac99d782419c4c3a1225f0d4fba18293a29b0a67", func := "demesne/demesnelaw05.SelTells", spec := "selTells", inPlace := ["internal/bytealg.CountString", "internal/bytealg.IndexByteString", "internal/bytealg.IndexString", "internal/abi.NoEscape", "internal/bytealg.MakeNoZero"], unfollowed := true, recurses := true, named := ["unicode/utf8.first", "unicode/utf8.acceptRanges", "internal/bytealg.MaxLen", "demesne/word.letters", "demesne/word.marks"], apart := false, laid := [("unicode/utf8.acceptRanges", laid_unicode_utf8_acceptRanges), ("demesne/word.letters", laid_demesne_word_letters), ("demesne/word.marks", laid_demesne_word_marks), ("unicode/utf8.first", laid_unicode_utf8_first)], narrowed := true }
def SelTellsUptoSaid : Prop := selTellsUptoRow.holds Tryd.pinned (OpenSpec.upto selTellsSpec)

/-- 'demesnelaw05.SelBack', WHERE WHAT IT READS IS OF BULK AT MOST 1048576: true; the input reads as it did. -/
def selBackUptoRow : OpenClaim := { program := "ytbkemhheombfcaadoor", sum := "acf26da932cdcb57fcef584cac99d782419c4c3a1225f0d4fba18293a29b0a67", func := "demesne/demesnelaw05.SelBack", spec := "selBack", inPlace := ["internal/bytealg.CountString", "internal/bytealg.IndexByteString", "internal/bytealg.IndexString", "internal/abi.NoEscape", "internal/bytealg.MakeNoZero"], unfollowed := true, recurses := true, named := ["unicode/utf8.first", "unicode/utf8.acceptRanges", "internal/bytealg.MaxLen", "demesne/word.letters", "demesne/word.marks"], apart := false, laid := [("unicode/utf8.acceptRanges", laid_unicode_utf8_acceptRanges), ("demesne/word.letters", laid_demesne_word_letters), ("demesne/word.marks", laid_demesne_word_marks), ("unicode/utf8.first", laid_unicode_utf8_first)], narrowed := true }
def SelBackUptoSaid : Prop := selBackUptoRow.holds Tryd.pinned (OpenSpec.upto selBackSpec)

/-- 'demesnelaw05.SelOnce', WHERE WHAT IT READS IS OF BULK AT MOST 1048576: true; the input reads as it did. -/
def selOnceUptoRow : OpenClaim := { program := "ytbkemhheombfcaadoor", sum := "acf26da932cdcb57fcef584cac99d782419c4c3a1225f0d4fba18293a29b0a67", func := "demesne/demesnelaw05.SelOnce", spec := "selOnce", inPlace := ["internal/bytealg.CountString", "internal/bytealg.IndexByteString", "internal/bytealg.IndexString", "internal/abi.NoEscape", "internal/bytealg.MakeNoZero"], unfollowed := true, recurses := true, named := ["unicode/utf8.first", "unicode/utf8.acceptRanges", "internal/bytealg.MaxLen", "demesne/word.letters", "demesne/word.marks"], apart := false, laid := [("unicode/utf8.acceptRanges", laid_unicode_utf8_acceptRanges), ("demesne/word.letters", laid_demesne_word_letters), ("demesne/word.marks", laid_demesne_word_marks), ("unicode/utf8.first", laid_unicode_utf8_first)], narrowed := true }
def SelOnceUptoSaid : Prop := selOnceUptoRow.holds Tryd.pinned (OpenSpec.upto selOnceSpec)

end Rows
end Go.Proofs.YtbkemhheombfcaaDoor
