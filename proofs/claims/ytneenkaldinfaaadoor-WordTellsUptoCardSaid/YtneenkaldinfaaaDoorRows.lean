/-
  NARROWER THAN 'FOR EVERY INPUT', by the rows' own cells (each row's printed sentence says how): WordTells: laid · WordNames: laid · WordCounts: laid · WordPaths: laid · WordUnder: laid · WordOnce: laid.
  DERIVED. THE GIVEN ROWS OF THIS SEAT. 6 by the template 'for every input the law returns true; each argument reads behind the call as it read before'; 0 by the template 'total and deterministic' (their statements: YtneenkaldinfaaaDoorTotals.lean).
  GIVEN WITH THE SEED: the statements are not yours to turn. If you find one false, say at which input.
  Laid BY PROGRAM, IN A SANDBOX (cutbox-rows.mjs): the forced cells as the released guide's own fill.sh prints them over the translation 2565634314dccc2e… (all of the seat's roots in one cut). By AI agents, Wed Nov 11 2026. No macro, syntax, notation, axiom, sorry.
-/
import Derived.Test.YtneenkaldinfaaaDoorChecked
import GoSem.PinnedTables
import GoSem.Claim
import GoSem.ClaimJoined
import GoSem.ClaimMapViews
import Derived.JoinedTies
import Derived.KernelRfl
namespace Go.Proofs.YtneenkaldinfaaaDoor
/- THE CELL 'sum', in the pinned program and in every row, IS THE sha256 OF THE DUMP (.gsa) THAT YtneenkaldinfaaaDoorProg.lean LOADS. Nothing in Lean hashes anything: it is a label: what it is worth is what the hold of that sum in a sandbox is worth. -/
noncomputable def Tryd.pinned : Pinned := { name := "ytneenkaldinfaaadoor", sum := "2565634314dccc2eeb0d6e40e9a0204e122fd1d6852d6236f789a1788e2c18a7", checked := Tryd.checked }
namespace Rows
def none {H : Type} : Left H := { results := [], args := [] }

/- WHAT THE LISTED PACKAGE-LEVEL VARIABLES READ AS WHEN THE CALL BEGINS. Each datum BY PROGRAM (the guide's laid-datum.mjs) off the statement by which the dump's own 'gosem.cut.vars' lays the variable. In a bare row this is a premise. The card (YtneenkaldinfaaaDoorCards.lean) ties it to the program's text. -/
def laid_unicode_utf8_acceptRanges {H : Type} : DataW H := .agg [.agg [.lit (.int .u8 128), .lit (.int .u8 191)], .agg [.lit (.int .u8 160), .lit (.int .u8 191)], .agg [.lit (.int .u8 128), .lit (.int .u8 159)], .agg [.lit (.int .u8 144), .lit (.int .u8 191)], .agg [.lit (.int .u8 128), .lit (.int .u8 143)], .agg [.lit (.int .u8 0), .lit (.int .u8 0)], .agg [.lit (.int .u8 0), .lit (.int .u8 0)], .agg [.lit (.int .u8 0), .lit (.int .u8 0)], .agg [.lit (.int .u8 0), .lit (.int .u8 0)], .agg [.lit (.int .u8 0), .lit (.int .u8 0)], .agg [.lit (.int .u8 0), .lit (.int .u8 0)], .agg [.lit (.int .u8 0), .lit (.int .u8 0)], .agg [.lit (.int .u8 0), .lit (.int .u8 0)], .agg [.lit (.int .u8 0), .lit (.int .u8 0)], .agg [.lit (.int .u8 0), .lit (.int .u8 0)], .agg [.lit (.int .u8 0), .lit (.int .u8 0)]]
def laid_demesne_word_letters {H : Type} : DataW H := .agg [.agg [.lit (.int .i32 97), .lit (.int .i32 122)], .agg [.lit (.int .i32 945), .lit (.int .i32 969)], .agg [.lit (.int .i32 1072), .lit (.int .i32 1103)]]
def laid_demesne_word_marks {H : Type} : DataW H := .agg [.agg [.lit (.int .i32 48), .lit (.int .i32 57)], .agg [.lit (.int .i32 45), .lit (.int .i32 45)]]
/-- One of Go's own tables, pinned by name: the form's constant. -/
def laid_unicode_utf8_first : DataW Unit := Go.Pinned.utf8First

/-- 'demesnelaw02.WordTells': WHATEVER THE INPUT: true; the input reads as it did. -/
def wordTellsSpec : ChangeSpec := { name := "wordTells", fn := fun _ => fun
  | [d1, d2] => { results := [.lit (.bool true)], args := [d1, d2] }
  | _ => none }
def wordTellsRow : OpenClaim := { program := "ytneenkaldinfaaadoor", sum := "2565634314dccc2eeb0d6e40e9a0204e122fd1d6852d6236f789a1788e2c18a7", func := "demesne/demesnelaw02.WordTells", spec := "wordTells", inPlace := ["internal/bytealg.CountString", "internal/bytealg.IndexByteString", "internal/bytealg.IndexString", "internal/abi.NoEscape", "internal/bytealg.MakeNoZero"], unfollowed := true, recurses := true, named := ["unicode/utf8.first", "unicode/utf8.acceptRanges", "internal/bytealg.MaxLen", "demesne/word.letters", "demesne/word.marks"], apart := false, laid := [("unicode/utf8.acceptRanges", laid_unicode_utf8_acceptRanges), ("demesne/word.letters", laid_demesne_word_letters), ("demesne/word.marks", laid_demesne_word_marks), ("unicode/utf8.first", laid_unicode_utf8_first)] }
def WordTellsSaid : Prop := wordTellsRow.holds Tryd.pinned (OpenSpec.ofChange wordTellsSpec)

/-- ITS FALSE NEIGHBOUR: 'it returns false'. Refute it at one input. -/
def wordTellsWrong : ChangeSpec := { name := "wordTells", fn := fun _ => fun
  | [d1, d2] => { results := [.lit (.bool false)], args := [d1, d2] }
  | _ => none }
def WordTellsWrongFalsely : Prop := wordTellsRow.holds Tryd.pinned (OpenSpec.ofChange wordTellsWrong)

/-- 'demesnelaw02.WordNames': WHATEVER THE INPUT: true; the input reads as it did. -/
def wordNamesSpec : ChangeSpec := { name := "wordNames", fn := fun _ => fun
  | [d] => { results := [.lit (.bool true)], args := [d] }
  | _ => none }
def wordNamesRow : OpenClaim := { program := "ytneenkaldinfaaadoor", sum := "2565634314dccc2eeb0d6e40e9a0204e122fd1d6852d6236f789a1788e2c18a7", func := "demesne/demesnelaw02.WordNames", spec := "wordNames", inPlace := ["internal/bytealg.CountString", "internal/bytealg.IndexByteString", "internal/bytealg.IndexString", "internal/abi.NoEscape", "internal/bytealg.MakeNoZero"], unfollowed := true, recurses := true, named := ["unicode/utf8.first", "unicode/utf8.acceptRanges", "internal/bytealg.MaxLen", "demesne/word.letters", "demesne/word.marks"], apart := false, laid := [("unicode/utf8.acceptRanges", laid_unicode_utf8_acceptRanges), ("demesne/word.letters", laid_demesne_word_letters), ("demesne/word.marks", laid_demesne_word_marks), ("unicode/utf8.first", laid_unicode_utf8_first)] }
def WordNamesSaid : Prop := wordNamesRow.holds Tryd.pinned (OpenSpec.ofChange wordNamesSpec)

/-- ITS FALSE NEIGHBOUR: 'it returns false'. Refute it at one input. -/
def wordNamesWrong : ChangeSpec := { name := "wordNames", fn := fun _ => fun
  | [d] => { results := [.lit (.bool false)], args := [d] }
  | _ => none }
def WordNamesWrongFalsely : Prop := wordNamesRow.holds Tryd.pinned (OpenSpec.ofChange wordNamesWrong)

/-- 'demesnelaw02.WordCounts': WHATEVER THE INPUT: true; the input reads as it did. -/
def wordCountsSpec : ChangeSpec := { name := "wordCounts", fn := fun _ => fun
  | [d1, d2, d3] => { results := [.lit (.bool true)], args := [d1, d2, d3] }
  | _ => none }
def wordCountsRow : OpenClaim := { program := "ytneenkaldinfaaadoor", sum := "2565634314dccc2eeb0d6e40e9a0204e122fd1d6852d6236f789a1788e2c18a7", func := "demesne/demesnelaw02.WordCounts", spec := "wordCounts", inPlace := ["internal/bytealg.CountString", "internal/bytealg.IndexByteString", "internal/bytealg.IndexString", "internal/abi.NoEscape", "internal/bytealg.MakeNoZero"], unfollowed := true, recurses := true, named := ["unicode/utf8.first", "unicode/utf8.acceptRanges", "internal/bytealg.MaxLen", "demesne/word.letters", "demesne/word.marks"], apart := false, laid := [("unicode/utf8.acceptRanges", laid_unicode_utf8_acceptRanges), ("demesne/word.letters", laid_demesne_word_letters), ("demesne/word.marks", laid_demesne_word_marks), ("unicode/utf8.first", laid_unicode_utf8_first)] }
def WordCountsSaid : Prop := wordCountsRow.holds Tryd.pinned (OpenSpec.ofChange wordCountsSpec)

/-- ITS FALSE NEIGHBOUR: 'it returns false'. Refute it at one input. -/
def wordCountsWrong : ChangeSpec := { name := "wordCounts", fn := fun _ => fun
  | [d1, d2, d3] => { results := [.lit (.bool false)], args := [d1, d2, d3] }
  | _ => none }
def WordCountsWrongFalsely : Prop := wordCountsRow.holds Tryd.pinned (OpenSpec.ofChange wordCountsWrong)

/-- 'demesnelaw02.WordPaths': WHATEVER THE INPUT: true; the input reads as it did. -/
def wordPathsSpec : ChangeSpec := { name := "wordPaths", fn := fun _ => fun
  | [d] => { results := [.lit (.bool true)], args := [d] }
  | _ => none }
def wordPathsRow : OpenClaim := { program := "ytneenkaldinfaaadoor", sum := "2565634314dccc2eeb0d6e40e9a0204e122fd1d6852d6236f789a1788e2c18a7", func := "demesne/demesnelaw02.WordPaths", spec := "wordPaths", inPlace := ["internal/bytealg.CountString", "internal/bytealg.IndexByteString", "internal/bytealg.IndexString", "internal/abi.NoEscape", "internal/bytealg.MakeNoZero"], unfollowed := true, recurses := true, named := ["unicode/utf8.first", "unicode/utf8.acceptRanges", "internal/bytealg.MaxLen", "demesne/word.letters", "demesne/word.marks"], apart := false, laid := [("unicode/utf8.acceptRanges", laid_unicode_utf8_acceptRanges), ("demesne/word.letters", laid_demesne_word_letters), ("demesne/word.marks", laid_demesne_word_marks), ("unicode/utf8.first", laid_unicode_utf8_first)] }
def WordPathsSaid : Prop := wordPathsRow.holds Tryd.pinned (OpenSpec.ofChange wordPathsSpec)

/-- ITS FALSE NEIGHBOUR: 'it returns false'. Refute it at one input. -/
def wordPathsWrong : ChangeSpec := { name := "wordPaths", fn := fun _ => fun
  | [d] => { results := [.lit (.bool false)], args := [d] }
  | _ => none }
def WordPathsWrongFalsely : Prop := wordPathsRow.holds Tryd.pinned (OpenSpec.ofChange wordPathsWrong)

/-- 'demesnelaw02.WordUnder': WHATEVER THE INPUT: true; the input reads as it did. -/
def wordUnderSpec : ChangeSpec := { name := "wordUnder", fn := fun _ => fun
  | [d1, d2, d3, d4] => { results := [.lit (.bool true)], args := [d1, d2, d3, d4] }
  | _ => none }
def wordUnderRow : OpenClaim := { program := "ytneenkaldinfaaadoor", sum := "2565634314dccc2eeb0d6e40e9a0204e122fd1d6852d6236f789a1788e2c18a7", func := "demesne/demesnelaw02.WordUnder", spec := "wordUnder", inPlace := ["internal/bytealg.CountString", "internal/bytealg.IndexByteString", "internal/bytealg.IndexString", "internal/abi.NoEscape", "internal/bytealg.MakeNoZero"], unfollowed := true, recurses := true, named := ["unicode/utf8.first", "unicode/utf8.acceptRanges", "internal/bytealg.MaxLen", "demesne/word.letters", "demesne/word.marks"], apart := false, laid := [("unicode/utf8.acceptRanges", laid_unicode_utf8_acceptRanges), ("demesne/word.letters", laid_demesne_word_letters), ("demesne/word.marks", laid_demesne_word_marks), ("unicode/utf8.first", laid_unicode_utf8_first)] }
def WordUnderSaid : Prop := wordUnderRow.holds Tryd.pinned (OpenSpec.ofChange wordUnderSpec)

/-- ITS FALSE NEIGHBOUR: 'it returns false'. Refute it at one input. -/
def wordUnderWrong : ChangeSpec := { name := "wordUnder", fn := fun _ => fun
  | [d1, d2, d3, d4] => { results := [.lit (.bool false)], args := [d1, d2, d3, d4] }
  | _ => none }
def WordUnderWrongFalsely : Prop := wordUnderRow.holds Tryd.pinned (OpenSpec.ofChange wordUnderWrong)

/-- 'demesnelaw02.WordOnce': WHATEVER THE INPUT: true; the input reads as it did. -/
def wordOnceSpec : ChangeSpec := { name := "wordOnce", fn := fun _ => fun
  | [d] => { results := [.lit (.bool true)], args := [d] }
  | _ => none }
def wordOnceRow : OpenClaim := { program := "ytneenkaldinfaaadoor", sum := "2565634314dccc2eeb0d6e40e9a0204e122fd1d6852d6236f789a1788e2c18a7", func := "demesne/demesnelaw02.WordOnce", spec := "wordOnce", inPlace := ["internal/bytealg.CountString", "internal/bytealg.IndexByteString", "internal/bytealg.IndexString", "internal/abi.NoEscape", "internal/bytealg.MakeNoZero"], unfollowed := true, recurses := true, named := ["unicode/utf8.first", "unicode/utf8.acceptRanges", "internal/bytealg.MaxLen", "demesne/word.letters", "demesne/word.marks"], apart := false, laid := [("unicode/utf8.acceptRanges", laid_unicode_utf8_acceptRanges), ("demesne/word.letters", laid_demesne_word_letters), ("demesne/word.marks", laid_demesne_word_marks), ("unicode/utf8.first", laid_unicode_utf8_first)] }
def WordOnceSaid : Prop := wordOnceRow.holds Tryd.pinned (OpenSpec.ofChange wordOnceSpec)

/-- ITS FALSE NEIGHBOUR: 'it returns false'. Refute it at one input. -/
def wordOnceWrong : ChangeSpec := { name := "wordOnce", fn := fun _ => fun
  | [d] => { results := [.lit (.bool false)], args := [d] }
  | _ => none }
def WordOnceWrongFalsely : Prop := wordOnceRow.holds Tryd.pinned (OpenSpec.ofChange wordOnceWrong)

/- THE SECOND FORM. 'bulk': how many values and letters a reading holds, each counted each time it is reached (what is shared counts as often as it is met; a slice's spare places count too). A statement '..UptoSaid' is the law's where the arguments, and the package variables that the reading takes, are together of bulk at most 1048576: NARROWER than '..Said'. Prove '..Said' where nothing that the law and all that it calls make is longer than what came in: it says more and counts as full. Else prove '..UptoSaid'. A law counts once. -/
mutual
def uptoBulk {H : Type} : DataW H → Nat
  | .lit (.string bytes) => bytes.length + 1
  | .lit _ => 1
  | .nil => 1
  | .ptr d => uptoBulk d + 1
  | .slice elems spare => uptoBulkAll elems + uptoBulkAll spare + 1
  | .agg parts => uptoBulkAll parts + 1
  | .iface _ d => uptoBulk d + 1
  | .map entries => uptoBulkEntries entries + 1
  | .held _ => 1
def uptoBulkAll {H : Type} : List (DataW H) → Nat
  | [] => 0
  | d :: r => uptoBulk d + uptoBulkAll r
def uptoBulkEntries {H : Type} : List (Lit × DataW H) → Nat
  | [] => 0
  | x :: r => uptoBulkEntry x + uptoBulkEntries r
def uptoBulkEntry {H : Type} : Lit × DataW H → Nat
  | (.string bytes, d) => bytes.length + uptoBulk d + 1
  | (_, d) => uptoBulk d + 1
 end
def uptoSmall : (H : Type) → List (DataW H) → Bool := fun _ ds => decide (uptoBulkAll ds ≤ 1048576)
def OpenSpec.upto (s : _root_.Go.ChangeSpec) : _root_.Go.OpenSpec := { _root_.Go.OpenSpec.ofChange s with cond := some uptoSmall }

/-- 'demesnelaw02.WordTells', WHERE WHAT IT READS IS OF BULK AT MOST 1048576: true; the input reads as it did. -/
def wordTellsUptoRow : OpenClaim := { program := "ytneenkaldinfaaadoor", sum := "2565634314dccc2eeb0d6e40e9a0204e122fd1d6852d6236f789a1788e2c18a7", func := "demesne/demesnelaw02.WordTells", spec := "wordTells", inPlace := ["internal/bytealg.CountString", "internal/bytealg.IndexByteString", "internal/bytealg.IndexString", "internal/abi.NoEscape", "internal/bytealg.MakeNoZero"], unfollowed := true, recurses := true, named := ["unicode/utf8.first", "unicode/utf8.acceptRanges", "internal/bytealg.MaxLen", "demesne/word.letters", "demesne/word.marks"], apart := false, laid := [("unicode/utf8.acceptRanges", laid_unicode_utf8_acceptRanges), ("demesne/word.letters", laid_demesne_word_letters), ("demesne/word.marks", laid_demesne_word_marks), ("unicode/utf8.first", laid_unicode_utf8_first)], narrowed := true }
def WordTellsUptoSaid : Prop := wordTellsUptoRow.holds Tryd.pinned (OpenSpec.upto wordTellsSpec)

/-- 'demesnelaw02.WordNames', WHERE WHAT IT READS IS OF BULK AT MOST 1048576: true; the input reads as it did. -/
def wordNamesUptoRow : OpenClaim := { program := "ytneenkaldinfaaadoor", sum := "2565634314dccc2eeb0d6e40e9a0204e122fd1d6852d6236f789a1788e2c18a7", func := "demesne/demesnelaw02.WordNames", spec := "wordNames", inPlace := ["internal/bytealg.CountString", "internal/bytealg.IndexByteString", "internal/bytealg.IndexString", "internal/abi.NoEscape", "internal/bytealg.MakeNoZero"], unfollowed := true, recurses := true, named := ["unicode/utf8.first", "unicode/utf8.acceptRanges", "internal/bytealg.MaxLen", "demesne/word.letters", "demesne/word.marks"], apart := false, laid := [("unicode/utf8.acceptRanges", laid_unicode_utf8_acceptRanges), ("demesne/word.letters", laid_demesne_word_letters), ("demesne/word.marks", laid_demesne_word_marks), ("unicode/utf8.first", laid_unicode_utf8_first)], narrowed := true }
def WordNamesUptoSaid : Prop := wordNamesUptoRow.holds Tryd.pinned (OpenSpec.upto wordNamesSpec)

/-- 'demesnelaw02.WordCounts', WHERE WHAT IT READS IS OF BULK AT MOST 1048576: true; the input reads as it did. -/
def wordCountsUptoRow : OpenClaim := { program := "ytneenkaldinfaaadoor", sum := "2565634314dccc2eeb0d6e40e9a0204e122fd1d6852d6236f789a1788e2c18a7", func := "demesne/demesnelaw02.WordCounts", spec := "wordCounts", inPlace := ["internal/bytealg.CountString", "internal/bytealg.IndexByteString", "internal/bytealg.IndexString", "internal/abi.NoEscape", "internal/bytealg.MakeNoZero"], unfollowed := true, recurses := true, named := ["unicode/utf8.first", "unicode/utf8.acceptRanges", "internal/bytealg.MaxLen", "demesne/word.letters", "demesne/word.marks"], apart := false, laid := [("unicode/utf8.acceptRanges", laid_unicode_utf8_acceptRanges), ("demesne/word.letters", laid_demesne_word_letters), ("demesne/word.marks", laid_demesne_word_marks), ("unicode/utf8.first", laid_unicode_utf8_first)], narrowed := true }
def WordCountsUptoSaid : Prop := wordCountsUptoRow.holds Tryd.pinned (OpenSpec.upto wordCountsSpec)

/-- 'demesnelaw02.WordPaths', WHERE WHAT IT READS IS OF BULK AT MOST 1048576: true; the input reads as it did. -/
def wordPathsUptoRow : OpenClaim := { program := "ytneenkaldinfaaadoor", sum := "2565634314dccc2eeb0d6e40e9a0204e122fd1d6852d6236f789a1788e2c18a7", func := "demesne/demesnelaw02.WordPaths", spec := "wordPaths", inPlace := ["internal/bytealg.CountString", "internal/bytealg.IndexByteString", "internal/bytealg.IndexString", "internal/abi.NoEscape", "internal/bytealg.MakeNoZero"], unfollowed := true, recurses := true, named := ["unicode/utf8.first", "unicode/utf8.acceptRanges", "internal/bytealg.MaxLen", "demesne/word.letters", "demesne/word.marks"], apart := false, laid := [("unicode/utf8.acceptRanges", laid_unicode_utf8_acceptRanges), ("demesne/word.letters", laid_demesne_word_letters), ("demesne/word.marks", laid_demesne_word_marks), ("unicode/utf8.first", laid_unicode_utf8_first)], narrowed := true }
def WordPathsUptoSaid : Prop := wordPathsUptoRow.holds Tryd.pinned (OpenSpec.upto wordPathsSpec)

/-- 'demesnelaw02.WordUnder', WHERE WHAT IT READS IS OF BULK AT MOST 1048576: true; the input reads as it did. -/
def wordUnderUptoRow : OpenClaim := { program := "ytneenkaldinfaaadoor", sum := "2565634314dccc2eeb0d6e40e9a0204e122fd1d6852d6236f789a1788e2c18a7", func := "demesne/demesnelaw02.WordUnder", spec := "wordUnder", inPlace := ["internal/bytealg.CountString", "internal/bytealg.IndexByteString", "internal/bytealg.IndexString", "internal/abi.NoEscape", "internal/bytealg.MakeNoZero"], unfollowed := true, recurses := true, named := ["unicode/utf8.first", "unicode/utf8.acceptRanges", "internal/bytealg.MaxLen", "demesne/word.letters", "demesne/word.marks"], apart := false, laid := [("unicode/utf8.acceptRanges", laid_unicode_utf8_acceptRanges), ("demesne/word.letters", laid_demesne_word_letters), ("demesne/word.marks", laid_demesne_word_marks), ("unicode/utf8.first", laid_unicode_utf8_first)], narrowed := true }
def WordUnderUptoSaid : Prop := wordUnderUptoRow.holds Tryd.pinned (OpenSpec.upto wordUnderSpec)

/-- 'demesnelaw02.WordOnce', WHERE WHAT IT READS IS OF BULK AT MOST 1048576: true; the input reads as it did. -/
def wordOnceUptoRow : OpenClaim := { program := "ytneenkaldinfaaadoor", sum := "2565634314dccc2eeb0d6e40e9a0204e122fd1d6852d6236f789a1788e2c18a7", func := "demesne/demesnelaw02.WordOnce", spec := "wordOnce", inPlace := ["internal/bytealg.CountString", "internal/bytealg.IndexByteString", "internal/bytealg.IndexString", "internal/abi.NoEscape", "internal/bytealg.MakeNoZero"], unfollowed := true, recurses := true, named := ["unicode/utf8.first", "unicode/utf8.acceptRanges", "internal/bytealg.MaxLen", "demesne/word.letters", "demesne/word.marks"], apart := false, laid := [("unicode/utf8.acceptRanges", laid_unicode_utf8_acceptRanges), ("demesne/word.letters", laid_demesne_word_letters), ("demesne/word.marks", laid_demesne_word_marks), ("unicode/utf8.first", laid_unicode_utf8_first)], narrowed := true }
def WordOnceUptoSaid : Prop := wordOnceUptoRow.holds Tryd.pinned (OpenSpec.upto wordOnceSpec)

end Rows
end Go.Proofs.YtneenkaldinfaaaDoor
