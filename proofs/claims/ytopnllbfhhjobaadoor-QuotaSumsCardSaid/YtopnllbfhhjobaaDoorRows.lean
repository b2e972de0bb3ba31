/-
  NARROWER THAN 'FOR EVERY INPUT', by the rows' own cells (each row's printed sentence says how): QuotaRight: laid · QuotaSums: laid · QuotaBack: laid · QuotaCharges: laid · QuotaSets: laid · QuotaForm: laid.
  DERIVED. THE GIVEN ROWS OF THIS SEAT. 6 by the template 'for every input the law returns true; each argument reads behind the call as it read before'; 0 by the template 'total and deterministic' (their statements: YtopnllbfhhjobaaDoorTotals.lean).
  GIVEN WITH THE SEED: the statements are not yours to turn. If you find one false, say at which input.
  Laid BY PROGRAM, IN A SANDBOX (cutbox-rows.mjs): the forced cells as the released guide's own fill.sh prints them over the translation ee6960e343b73b9d… (all of the seat's roots in one cut). By AI agents, Wed Nov 11 2026. No macro, syntax, notation, axiom, sorry.
-/
import Derived.Test.YtopnllbfhhjobaaDoorChecked
import GoSem.PinnedTables
import GoSem.Claim
import GoSem.ClaimJoined
import GoSem.ClaimMapViews
import Derived.JoinedTies
import Derived.KernelRfl
namespace Go.Proofs.YtopnllbfhhjobaaDoor
/- THE CELL 'sum', in the pinned program and in every row, IS THE sha256 OF THE DUMP (.gsa) THAT YtopnllbfhhjobaaDoorProg.lean LOADS. Nothing in Lean hashes anything: it is a label: what it is worth is what the hold of that sum in a sandbox is worth. -/
noncomputable def Tryd.pinned : Pinned := { name := "ytopnllbfhhjobaadoor", sum := "ee6960e343b73b9d0753cc80b2438666183259b36a4c404fb8bd2177f677c2ed", checked := Tryd.checked }
namespace Rows
def none {H : Type} : Left H := { results := [], args := [] }

/- WHAT THE LISTED PACKAGE-LEVEL VARIABLES READ AS WHEN THE CALL BEGINS. Each datum BY PROGRAM (the guide's laid-datum.mjs) off the statement by which the dump's own 'gosem.cut.vars' lays the variable. In a bare row this is a premise. The card (YtopnllbfhhjobaaDoorCards.lean) ties it to the program's text. -/
def laid_unicode_utf8_acceptRanges {H : Type} : DataW H := .agg [.agg [.lit (.int .u8 128), .lit (.int .u8 191)], .agg [.lit (.int .u8 160), .lit (.int .u8 191)], .agg [.lit (.int .u8 128), .lit (.int .u8 159)], .agg [.lit (.int .u8 144), .lit (.int .u8 191)], .agg [.lit (.int .u8 128), .lit (.int .u8 143)], .agg [.lit (.int .u8 0), .lit (.int .u8 0)], .agg [.lit (.int .u8 0), .lit (.int .u8 0)], .agg [.lit (.int .u8 0), .lit (.int .u8 0)], .agg [.lit (.int .u8 0), .lit (.int .u8 0)], .agg [.lit (.int .u8 0), .lit (.int .u8 0)], .agg [.lit (.int .u8 0), .lit (.int .u8 0)], .agg [.lit (.int .u8 0), .lit (.int .u8 0)], .agg [.lit (.int .u8 0), .lit (.int .u8 0)], .agg [.lit (.int .u8 0), .lit (.int .u8 0)], .agg [.lit (.int .u8 0), .lit (.int .u8 0)], .agg [.lit (.int .u8 0), .lit (.int .u8 0)]]
def laid_demesne_word_letters {H : Type} : DataW H := .agg [.agg [.lit (.int .i32 97), .lit (.int .i32 122)], .agg [.lit (.int .i32 945), .lit (.int .i32 969)], .agg [.lit (.int .i32 1072), .lit (.int .i32 1103)]]
def laid_demesne_word_marks {H : Type} : DataW H := .agg [.agg [.lit (.int .i32 48), .lit (.int .i32 57)], .agg [.lit (.int .i32 45), .lit (.int .i32 45)]]
/-- One of Go's own tables, pinned by name: the form's constant. -/
def laid_unicode_utf8_first : DataW Unit := Go.Pinned.utf8First

/-- 'demesnelaw10.QuotaRight': WHATEVER THE INPUT: true; the input reads as it did. -/
def quotaRightSpec : ChangeSpec := { name := "quotaRight", fn := fun _ => fun
  | [d1, d2] => { results := [.lit (.bool true)], args := [d1, d2] }
  | _ => none }
def quotaRightRow : OpenClaim := { program := "ytopnllbfhhjobaadoor", sum := "ee6960e343b73b9d0753cc80b2438666183259b36a4c404fb8bd2177f677c2ed", func := "demesne/demesnelaw10.QuotaRight", spec := "quotaRight", inPlace := ["math/bits.Add64", "math/bits.Sub64", "internal/bytealg.CountString", "internal/bytealg.IndexByteString", "internal/bytealg.IndexString", "internal/abi.NoEscape", "internal/bytealg.MakeNoZero", "slices.overlaps[string]", "slices.overlaps[demesne/quota.Entry]"], unfollowed := true, recurses := true, named := ["unicode/utf8.first", "unicode/utf8.acceptRanges", "internal/bytealg.MaxLen", "demesne/word.letters", "demesne/word.marks"], apart := false, laid := [("unicode/utf8.acceptRanges", laid_unicode_utf8_acceptRanges), ("demesne/word.letters", laid_demesne_word_letters), ("demesne/word.marks", laid_demesne_word_marks), ("unicode/utf8.first", laid_unicode_utf8_first)] }
def QuotaRightSaid : Prop := quotaRightRow.holds Tryd.pinned (OpenSpec.ofChange quotaRightSpec)

/-- ITS FALSE NEIGHBOUR: 'it returns false'. Refute it at one input. -/
def quotaRightWrong : ChangeSpec := { name := "quotaRight", fn := fun _ => fun
  | [d1, d2] => { results := [.lit (.bool false)], args := [d1, d2] }
  | _ => none }
def QuotaRightWrongFalsely : Prop := quotaRightRow.holds Tryd.pinned (OpenSpec.ofChange quotaRightWrong)

/-- 'demesnelaw10.QuotaSums': WHATEVER THE INPUT: true; the input reads as it did. -/
def quotaSumsSpec : ChangeSpec := { name := "quotaSums", fn := fun _ => fun
  | [d1, d2] => { results := [.lit (.bool true)], args := [d1, d2] }
  | _ => none }
def quotaSumsRow : OpenClaim := { program := "ytopnllbfhhjobaadoor", sum := "ee6960e343b73b9d0753cc80b2438666183259b36a4c404fb8bd2177f677c2ed", func := "demesne/demesnelaw10.QuotaSums", spec := "quotaSums", inPlace := ["math/bits.Add64", "math/bits.Sub64", "internal/bytealg.CountString", "internal/bytealg.IndexByteString", "internal/bytealg.IndexString", "internal/abi.NoEscape", "internal/bytealg.MakeNoZero", "slices.overlaps[string]", "slices.overlaps[demesne/quota.Entry]"], unfollowed := true, recurses := true, named := ["unicode/utf8.first", "unicode/utf8.acceptRanges", "internal/bytealg.MaxLen", "demesne/word.letters", "demesne/word.marks"], apart := false, laid := [("unicode/utf8.acceptRanges", laid_unicode_utf8_acceptRanges), ("demesne/word.letters", laid_demesne_word_letters), ("demesne/word.marks", laid_demesne_word_marks), ("unicode/utf8.first", laid_unicode_utf8_first)] }
def QuotaSumsSaid : Prop := quotaSumsRow.holds Tryd.pinned (OpenSpec.ofChange quotaSumsSpec)

/-- ITS FALSE NEIGHBOUR: 'it returns false'. Refute it at one input. -/
def quotaSumsWrong : ChangeSpec := { name := "quotaSums", fn := fun _ => fun
  | [d1, d2] => { results := [.lit (.bool false)], args := [d1, d2] }
  | _ => none }
def QuotaSumsWrongFalsely : Prop := quotaSumsRow.holds Tryd.pinned (OpenSpec.ofChange quotaSumsWrong)

/-- 'demesnelaw10.QuotaBack': WHATEVER THE INPUT: true; the input reads as it did. -/
def quotaBackSpec : ChangeSpec := { name := "quotaBack", fn := fun _ => fun
  | [d1, d2, d3] => { results := [.lit (.bool true)], args := [d1, d2, d3] }
  | _ => none }
def quotaBackRow : OpenClaim := { program := "ytopnllbfhhjobaadoor", sum := "ee6960e343b73b9d0753cc80b2438666183259b36a4c404fb8bd2177f677c2ed", func := "demesne/demesnelaw10.QuotaBack", spec := "quotaBack", inPlace := ["math/bits.Add64", "math/bits.Sub64", "internal/bytealg.CountString", "internal/bytealg.IndexByteString", "internal/bytealg.IndexString", "internal/abi.NoEscape", "internal/bytealg.MakeNoZero", "slices.overlaps[string]", "slices.overlaps[demesne/quota.Entry]"], unfollowed := true, recurses := true, named := ["unicode/utf8.first", "unicode/utf8.acceptRanges", "internal/bytealg.MaxLen", "demesne/word.letters", "demesne/word.marks"], apart := false, laid := [("unicode/utf8.acceptRanges", laid_unicode_utf8_acceptRanges), ("demesne/word.letters", laid_demesne_word_letters), ("demesne/word.marks", laid_demesne_word_marks), ("unicode/utf8.first", laid_unicode_utf8_first)] }
def QuotaBackSaid : Prop := quotaBackRow.holds Tryd.pinned (OpenSpec.ofChange quotaBackSpec)

/-- ITS FALSE NEIGHBOUR: 'it returns false'. Refute it at one input. -/
def quotaBackWrong : ChangeSpec := { name := "quotaBack", fn := fun _ => fun
  | [d1, d2, d3] => { results := [.lit (.bool false)], args := [d1, d2, d3] }
  | _ => none }
def QuotaBackWrongFalsely : Prop := quotaBackRow.holds Tryd.pinned (OpenSpec.ofChange quotaBackWrong)

/-- 'demesnelaw10.QuotaCharges': WHATEVER THE INPUT: true; the input reads as it did. -/
def quotaChargesSpec : ChangeSpec := { name := "quotaCharges", fn := fun _ => fun
  | [d1, d2, d3] => { results := [.lit (.bool true)], args := [d1, d2, d3] }
  | _ => none }
def quotaChargesRow : OpenClaim := { program := "ytopnllbfhhjobaadoor", sum := "ee6960e343b73b9d0753cc80b2438666183259b36a4c404fb8bd2177f677c2ed", func := "demesne/demesnelaw10.QuotaCharges", spec := "quotaCharges", inPlace := ["math/bits.Add64", "math/bits.Sub64", "internal/bytealg.CountString", "internal/bytealg.IndexByteString", "internal/bytealg.IndexString", "internal/abi.NoEscape", "internal/bytealg.MakeNoZero", "slices.overlaps[string]", "slices.overlaps[demesne/quota.Entry]"], unfollowed := true, recurses := true, named := ["unicode/utf8.first", "unicode/utf8.acceptRanges", "internal/bytealg.MaxLen", "demesne/word.letters", "demesne/word.marks"], apart := false, laid := [("unicode/utf8.acceptRanges", laid_unicode_utf8_acceptRanges), ("demesne/word.letters", laid_demesne_word_letters), ("demesne/word.marks", laid_demesne_word_marks), ("unicode/utf8.first", laid_unicode_utf8_first)] }
def QuotaChargesSaid : Prop := quotaChargesRow.holds Tryd.pinned (OpenSpec.ofChange quotaChargesSpec)

/-- ITS FALSE NEIGHBOUR: 'it returns false'. Refute it at one input. -/
def quotaChargesWrong : ChangeSpec := { name := "quotaCharges", fn := fun _ => fun
  | [d1, d2, d3] => { results := [.lit (.bool false)], args := [d1, d2, d3] }
  | _ => none }
def QuotaChargesWrongFalsely : Prop := quotaChargesRow.holds Tryd.pinned (OpenSpec.ofChange quotaChargesWrong)

/-- 'demesnelaw10.QuotaSets': WHATEVER THE INPUT: true; the input reads as it did. -/
def quotaSetsSpec : ChangeSpec := { name := "quotaSets", fn := fun _ => fun
  | [d1, d2, d3] => { results := [.lit (.bool true)], args := [d1, d2, d3] }
  | _ => none }
def quotaSetsRow : OpenClaim := { program := "ytopnllbfhhjobaadoor", sum := "ee6960e343b73b9d0753cc80b2438666183259b36a4c404fb8bd2177f677c2ed", func := "demesne/demesnelaw10.QuotaSets", spec := "quotaSets", inPlace := ["math/bits.Add64", "math/bits.Sub64", "internal/bytealg.CountString", "internal/bytealg.IndexByteString", "internal/bytealg.IndexString", "internal/abi.NoEscape", "internal/bytealg.MakeNoZero", "slices.overlaps[string]", "slices.overlaps[demesne/quota.Entry]"], unfollowed := true, recurses := true, named := ["unicode/utf8.first", "unicode/utf8.acceptRanges", "internal/bytealg.MaxLen", "demesne/word.letters", "demesne/word.marks"], apart := false, laid := [("unicode/utf8.acceptRanges", laid_unicode_utf8_acceptRanges), ("demesne/word.letters", laid_demesne_word_letters), ("demesne/word.marks", laid_demesne_word_marks), ("unicode/utf8.first", laid_unicode_utf8_first)] }
def QuotaSetsSaid : Prop := quotaSetsRow.holds Tryd.pinned (OpenSpec.ofChange quotaSetsSpec)

/-- ITS FALSE NEIGHBOUR: 'it returns false'. Refute it at one input. -/
def quotaSetsWrong : ChangeSpec := { name := "quotaSets", fn := fun _ => fun
  | [d1, d2, d3] => { results := [.lit (.bool false)], args := [d1, d2, d3] }
  | _ => none }
def QuotaSetsWrongFalsely : Prop := quotaSetsRow.holds Tryd.pinned (OpenSpec.ofChange quotaSetsWrong)

/-- 'demesnelaw10.QuotaForm': WHATEVER THE INPUT: true; the input reads as it did. -/
def quotaFormSpec : ChangeSpec := { name := "quotaForm", fn := fun _ => fun
  | [d1, d2, d3, d4, d5] => { results := [.lit (.bool true)], args := [d1, d2, d3, d4, d5] }
  | _ => none }
def quotaFormRow : OpenClaim := { program := "ytopnllbfhhjobaadoor", sum := "ee6960e343b73b9d0753cc80b2438666183259b36a4c404fb8bd2177f677c2ed", func := "demesne/demesnelaw10.QuotaForm", spec := "quotaForm", inPlace := ["math/bits.Add64", "math/bits.Sub64", "internal/bytealg.CountString", "internal/bytealg.IndexByteString", "internal/bytealg.IndexString", "internal/abi.NoEscape", "internal/bytealg.MakeNoZero", "slices.overlaps[string]", "slices.overlaps[demesne/quota.Entry]"], unfollowed := true, recurses := true, named := ["unicode/utf8.first", "unicode/utf8.acceptRanges", "internal/bytealg.MaxLen", "demesne/word.letters", "demesne/word.marks"], apart := false, laid := [("unicode/utf8.acceptRanges", laid_unicode_utf8_acceptRanges), ("demesne/word.letters", laid_demesne_word_letters), ("demesne/word.marks", laid_demesne_word_marks), ("unicode/utf8.first", laid_unicode_utf8_first)] }
def QuotaFormSaid : Prop := quotaFormRow.holds Tryd.pinned (OpenSpec.ofChange quotaFormSpec)

/-- ITS FALSE NEIGHBOUR: 'it returns false'. Refute it at one input. -/
def quotaFormWrong : ChangeSpec := { name := "quotaForm", fn := fun _ => fun
  | [d1, d2, d3, d4, d5] => { results := [.lit (.bool false)], args := [d1, d2, d3, d4, d5] }
  | _ => none }
def QuotaFormWrongFalsely : Prop := quotaFormRow.holds Tryd.pinned (OpenSpec.ofChange quotaFormWrong)

/- THE SECOND FORM. 'bulk': how many values and letters a reading holds, each counted each time it is reached (what is shared counts as often as it is met; a slice's spare places count too). A statement '..UptoSaid' is the law's where the arguments, and the package variables that the reading takes, are together of bulk at most 1048576: NARROWER than '..Said'. Prove '..Said' where nothing that the law and all that it calls make is longer than what came in: it says more and counts as full. Else prove '..UptoSaid'. A law counts once. -/
mutual
def uptoBulk {H : Type} : DataW H → Nat
  | .lit (.string bytes) => bytes.length + 1
  | .lit _ => 1
  | .nil => 1
  | .ptr d => uptoBulk d + 1
  | .slice elems spare => uptoBulkAll elems + uptoBulkAll spare + 1
  | .agg parts => uptoBulkAll parts + 1
  | .iface _ d => uptoBulk d + 1
  | .map entries => uptoBulkEntries entries + 1
  | .held _ => 1
def uptoBulkAll {H : Type} : List (DataW H) → Nat
  | [] => 0
  | d :: r => uptoBulk d + uptoBulkAll r
def uptoBulkEntries {H : Type} : List (Lit × DataW H) → Nat
  | [] => 0
  | x :: r => uptoBulkEntry x + uptoBulkEntries r
def uptoBulkEntry {H : Type} : Lit × DataW H → Nat
  | (.string bytes, d) => bytes.length + uptoBulk d + 1
  | (_, d) => uptoBulk d + 1
 end
def uptoSmall : (H : Type) → List (DataW H) → Bool := fun _ ds => decide (uptoBulkAll ds ≤ 1048576)
def OpenSpec.upto (s : _root_.Go.ChangeSpec) : _root_.Go.OpenSpec := { _root_.Go.OpenSpec.ofChange s with cond := some uptoSmall }

/-- 'demesnelaw10.QuotaRight', WHERE WHAT IT READS IS OF BULK AT MOST 1048576: true; the input reads as it did. -/
def quotaRightUptoRow : OpenClaim := { program := "ytopnllbfhhjobaadoor", sum := "ee6960e343b73b9d0753cc80b2438666183259b36a4c404fb8bd2177f677c2ed", func := "demesne/demesnelaw10.QuotaRight", spec := "quotaRight", inPlace := ["math/bits.Add64", "math/bits.Sub64", "internal/bytealg.CountString", "internal/bytealg.IndexByteString", "internal/bytealg.IndexString", "internal/abi.NoEscape", "internal/bytealg.MakeNoZero", "slices.overlaps[string]", "slices.overlaps[demesne/quota.Entry]"], unfollowed := true, recurses := true, named := ["unicode/utf8.first", "unicode/utf8.acceptRanges", "internal/bytealg.MaxLen", "demesne/word.letters", "demesne/word.marks"], apart := false, laid := [("unicode/utf8.acceptRanges", laid_unicode_utf8_acceptRanges), ("demesne/word.letters", laid_demesne_word_letters), ("demesne/word.marks", laid_demesne_word_marks), ("unicode/utf8.first", laid_unicode_utf8_first)], narrowed := true }
def QuotaRightUptoSaid : Prop := quotaRightUptoRow.holds Tryd.pinned (OpenSpec.upto quotaRightSpec)

/-- 'demesnelaw10.QuotaSums', WHERE WHAT IT READS IS OF BULK AT MOST 1048576: true; the input reads as it did. -/
def quotaSumsUptoRow : OpenClaim := { program := "ytopnllbfhhjobaadoor", sum := "ee6960e343b73b9d0753cc80b2438666183259b36a4c404fb8bd2177f677c2ed", func := "demesne/demesnelaw10.QuotaSums", spec := "quotaSums", inPlace := ["math/bits.Add64", "math/bits.Sub64", "internal/bytealg.CountString", "internal/bytealg.IndexByteString", "internal/bytealg.IndexString", "internal/abi.NoEscape", "internal/bytealg.MakeNoZero", "slices.overlaps[string]", "slices.overlaps[demesne/quota.Entry]"], unfollowed := true, recurses := true, named := ["unicode/utf8.first", "unicode/utf8.acceptRanges", "internal/bytealg.MaxLen", "demesne/word.letters", "demesne/word.marks"], apart := false, laid := [("unicode/utf8.acceptRanges", laid_unicode_utf8_acceptRanges), ("demesne/word.letters", laid_demesne_word_letters), ("demesne/word.marks", laid_demesne_word_marks), ("unicode/utf8.first", laid_unicode_utf8_first)], narrowed := true }
def QuotaSumsUptoSaid : Prop := quotaSumsUptoRow.holds Tryd.pinned (OpenSpec.upto quotaSumsSpec)

/-- 'demesnelaw10.QuotaBack', WHERE WHAT IT READS IS OF BULK AT MOST 1048576: true; the input reads as it did. -/
def quotaBackUptoRow : OpenClaim := { program := "ytopnllbfhhjobaadoor", sum := "ee6960e343b73b9d0753cc80b2438666183259b36a4c404fb8bd2177f677c2ed", func := "demesne/demesnelaw10.QuotaBack", spec := "quotaBack", inPlace := ["math/bits.Add64", "math/bits.Sub64", "internal/bytealg.CountString", "internal/bytealg.IndexByteString", "internal/bytealg.IndexString", "internal/abi.NoEscape", "internal/bytealg.MakeNoZero", "slices.overlaps[string]", "slices.overlaps[demesne/quota.Entry]"], unfollowed := true, recurses := true, named := ["unicode/utf8.first", "unicode/utf8.acceptRanges", "internal/bytealg.MaxLen", "demesne/word.letters", "demesne/word.marks"], apart := false, laid := [("unicode/utf8.acceptRanges", laid_unicode_utf8_acceptRanges), ("demesne/word.letters", laid_demesne_word_letters), ("demesne/word.marks", laid_demesne_word_marks), ("unicode/utf8.first", laid_unicode_utf8_first)], narrowed := true }
def QuotaBackUptoSaid : Prop := quotaBackUptoRow.holds Tryd.pinned (OpenSpec.upto quotaBackSpec)

/-- 'demesnelaw10.QuotaCharges', WHERE WHAT IT READS IS OF BULK AT MOST 1048576: true; the input reads as it did. -/
def quotaChargesUptoRow : OpenClaim := { program := "ytopnllbfhhjobaadoor", sum := "ee6960e343b73b9d0753cc80b2438666183259b36a4c404fb8bd2177f677c2ed", func := "demesne/demesnelaw10.QuotaCharges", spec := "quotaCharges", inPlace := ["math/bits.Add64", "math/bits.Sub64", "internal/bytealg.CountString", "internal/bytealg.IndexByteString", "internal/bytealg.IndexString", "internal/abi.NoEscape", "internal/bytealg.MakeNoZero", "slices.overlaps[string]", "slices.overlaps[demesne/quota.Entry]"], unfollowed := true, recurses := true, named := ["unicode/utf8.first", "unicode/utf8.acceptRanges", "internal/bytealg.MaxLen", "demesne/word.letters", "demesne/word.marks"], apart := false, laid := [("unicode/utf8.acceptRanges", laid_unicode_utf8_acceptRanges), ("demesne/word.letters", laid_demesne_word_letters), ("demesne/word.marks", laid_demesne_word_marks), ("unicode/utf8.first", laid_unicode_utf8_first)], narrowed := true }
def QuotaChargesUptoSaid : Prop := quotaChargesUptoRow.holds Tryd.pinned (OpenSpec.upto quotaChargesSpec)

/-- 'demesnelaw10.QuotaSets', WHERE WHAT IT READS IS OF BULK AT MOST 1048576: true; the input reads as it did. -/
def quotaSetsUptoRow : OpenClaim := { program := "ytopnllbfhhjobaadoor", sum := "ee6960e343b73b9d0753cc80b2438666183259b36a4c404fb8bd2177f677c2ed", func := "demesne/demesnelaw10.QuotaSets", spec := "quotaSets", inPlace := ["math/bits.Add64", "math/bits.Sub64", "internal/bytealg.CountString", "internal/bytealg.IndexByteString", "internal/bytealg.IndexString", "internal/abi.NoEscape", "internal/bytealg.MakeNoZero", "slices.overlaps[string]", "slices.overlaps[demesne/quota.Entry]"], unfollowed := true, recurses := true, named := ["unicode/utf8.first", "unicode/utf8.acceptRanges", "internal/bytealg.MaxLen", "demesne/word.letters", "demesne/word.marks"], apart := false, laid := [("unicode/utf8.acceptRanges", laid_unicode_utf8_acceptRanges), ("demesne/word.letters", laid_demesne_word_letters), ("demesne/word.marks", laid_demesne_word_marks), ("unicode/utf8.first", laid_unicode_utf8_first)], narrowed := true }
def QuotaSetsUptoSaid : Prop := quotaSetsUptoRow.holds Tryd.pinned (OpenSpec.upto quotaSetsSpec)

/-- 'demesnelaw10.QuotaForm', WHERE WHAT IT READS IS OF BULK AT MOST 1048576: true; the input reads as it did. -/
def quotaFormUptoRow : OpenClaim := { program := "ytopnllbfhhjobaadoor", sum := "ee6960e343b73b9d0753cc80b2438666183259b36a4c404fb8bd2177f677c2ed", func := "demesne/demesnelaw10.QuotaForm", spec := "quotaForm", inPlace := ["math/bits.Add64", "math/bits.Sub64", "internal/bytealg.CountString", "internal/bytealg.IndexByteString", "internal/bytealg.IndexString", "internal/abi.NoEscape", "internal/bytealg.MakeNoZero", "slices.overlaps[string]", "slices.overlaps[demesne/quota.Entry]"], unfollowed := true, recurses := true, named := ["unicode/utf8.first", "unicode/utf8.acceptRanges", "internal/bytealg.MaxLen", "demesne/word.letters", "demesne/word.marks"], apart := false, laid := [("unicode/utf8.acceptRanges", laid_unicode_utf8_acceptRanges), ("demesne/word.letters", laid_demesne_word_letters), ("demesne/word.marks", laid_demesne_word_marks), ("unicode/utf8.first", laid_unicode_utf8_first)], narrowed := true }
def QuotaFormUptoSaid : Prop := quotaFormUptoRow.holds Tryd.pinned (OpenSpec.upto quotaFormSpec)

end Rows
end Go.Proofs.YtopnllbfhhjobaaDoor
