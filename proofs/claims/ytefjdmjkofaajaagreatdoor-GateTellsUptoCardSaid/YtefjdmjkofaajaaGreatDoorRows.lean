/-
  NARROWER THAN 'FOR EVERY INPUT', by the rows' own cells (each row's printed sentence says how): GateTells: laid · GateBack: laid · GateNarrows: laid · GateRights: laid · GateStrange: laid · GateOnce: laid.
  DERIVED. THE GIVEN ROWS OF THIS SEAT. 6 by the template 'for every input the law returns true; each argument reads behind the call as it read before'; 0 by the template 'total and deterministic' (their statements: YtefjdmjkofaajaaGreatDoorTotals.lean).
  GIVEN WITH THE SEED: the statements are not yours to turn. If you find one false, say at which input.
  Laid BY PROGRAM, IN A SANDBOX (cutbox-rows.mjs): the forced cells as the released guide's own fill.sh prints them over the translation 829c8a7fd3505862… (all of the seat's roots in one cut). By AI agents, Wed Nov 11 2026. No macro, syntax, notation, axiom, sorry.
-/
import Derived.Test.YtefjdmjkofaajaaGreatDoorChecked
import GoSem.PinnedTables
import GoSem.Claim
import GoSem.ClaimJoined
import GoSem.ClaimMapViews
import Derived.JoinedTies
import Derived.KernelRfl
namespace Go.Proofs.YtefjdmjkofaajaaGreatDoor
/- THE CELL 'sum', in the pinned program and in every row, IS THE sha256 OF THE DUMP (.gsa) THAT YtefjdmjkofaajaaGreatDoorProg.lean LOADS. Nothing in Lean hashes anything: it is a label: what it is worth is what the hold of that sum in a sandbox is worth. -/
noncomputable def Tryz.pinned : Pinned := { name := "ytefjdmjkofaajaagreatdoor", sum := "829c8a7fd350586288b919e6f8e184c912502cff6fe258ce5f6c78ab48dfdf57", checked := Tryz.checked }
namespace Rows
def none {H : Type} : Left H := { results := [], args := [] }

/- WHAT THE LISTED PACKAGE-LEVEL VARIABLES READ AS WHEN THE CALL BEGINS. Each datum BY PROGRAM (the guide's laid-datum.mjs) off the statement by which the dump's own 'gosem.cut.vars' lays the variable. In a bare row this is a premise. The card (YtefjdmjkofaajaaGreatDoorCards.lean) ties it to the program's text. -/
def laid_unicode_utf8_acceptRanges {H : Type} : DataW H := .agg [.agg [.lit (.int .u8 128), .lit (.int .u8 191)], .agg [.lit (.int .u8 160), .lit (.int .u8 191)], .agg [.lit (.int .u8 128), .lit (.int .u8 159)], .agg [.lit (.int .u8 144), .lit (.int .u8 191)], .agg [.lit (.int .u8 128), .lit (.int .u8 143)], .agg [.lit (.int .u8 0), .lit (.int .u8 0)], .agg [.lit (.int .u8 0), .lit (.int .u8 0)], .agg [.lit (.int .u8 0), .lit (.int .u8 0)], .agg [.lit (.int .u8 0), .lit (.int .u8 0)], .agg [.lit (.int .u8 0), .lit (.int .u8 0)], .agg [.lit (.int .u8 0), .lit (.int .u8 0)], .agg [.lit (.int .u8 0), .lit (.int .u8 0)], .agg [.lit (.int .u8 0), .lit (.int .u8 0)], .agg [.lit (.int .u8 0), .lit (.int .u8 0)], .agg [.lit (.int .u8 0), .lit (.int .u8 0)], .agg [.lit (.int .u8 0), .lit (.int .u8 0)]]
def laid_demesne_sha_start {H : Type} : DataW H := .agg [.lit (.int .u32 1779033703), .lit (.int .u32 3144134277), .lit (.int .u32 1013904242), .lit (.int .u32 2773480762), .lit (.int .u32 1359893119), .lit (.int .u32 2600822924), .lit (.int .u32 528734635), .lit (.int .u32 1541459225)]
def laid_demesne_sha_rounds {H : Type} : DataW H := .agg [.lit (.int .u32 1116352408), .lit (.int .u32 1899447441), .lit (.int .u32 3049323471), .lit (.int .u32 3921009573), .lit (.int .u32 961987163), .lit (.int .u32 1508970993), .lit (.int .u32 2453635748), .lit (.int .u32 2870763221), .lit (.int .u32 3624381080), .lit (.int .u32 310598401), .lit (.int .u32 607225278), .lit (.int .u32 1426881987), .lit (.int .u32 1925078388), .lit (.int .u32 2162078206), .lit (.int .u32 2614888103), .lit (.int .u32 3248222580), .lit (.int .u32 3835390401), .lit (.int .u32 4022224774), .lit (.int .u32 264347078), .lit (.int .u32 604807628), .lit (.int .u32 770255983), .lit (.int .u32 1249150122), .lit (.int .u32 1555081692), .lit (.int .u32 1996064986), .lit (.int .u32 2554220882), .lit (.int .u32 2821834349), .lit (.int .u32 2952996808), .lit (.int .u32 3210313671), .lit (.int .u32 3336571891), .lit (.int .u32 3584528711), .lit (.int .u32 113926993), .lit (.int .u32 338241895), .lit (.int .u32 666307205), .lit (.int .u32 773529912), .lit (.int .u32 1294757372), .lit (.int .u32 1396182291), .lit (.int .u32 1695183700), .lit (.int .u32 1986661051), .lit (.int .u32 2177026350), .lit (.int .u32 2456956037), .lit (.int .u32 2730485921), .lit (.int .u32 2820302411), .lit (.int .u32 3259730800), .lit (.int .u32 3345764771), .lit (.int .u32 3516065817), .lit (.int .u32 3600352804), .lit (.int .u32 4094571909), .lit (.int .u32 275423344), .lit (.int .u32 430227734), .lit (.int .u32 506948616), .lit (.int .u32 659060556), .lit (.int .u32 883997877), .lit (.int .u32 958139571), .lit (.int .u32 1322822218), .lit (.int .u32 1537002063), .lit (.int .u32 1747873779), .lit (.int .u32 1955562222), .lit (.int .u32 2024104815), .lit (.int .u32 2227730452), .lit (.int .u32 2361852424), .lit (.int .u32 2428436474), .lit (.int .u32 2756734187), .lit (.int .u32 3204031479), .lit (.int .u32 3329325298)]
def laid_demesne_word_letters {H : Type} : DataW H := .agg [.agg [.lit (.int .i32 97), .lit (.int .i32 122)], .agg [.lit (.int .i32 945), .lit (.int .i32 969)], .agg [.lit (.int .i32 1072), .lit (.int .i32 1103)]]
def laid_demesne_word_marks {H : Type} : DataW H := .agg [.agg [.lit (.int .i32 48), .lit (.int .i32 57)], .agg [.lit (.int .i32 45), .lit (.int .i32 45)]]
def laid_demesne_gate_rights {H : Type} : DataW H := .agg [.lit (.int .u64 0), .lit (.int .u64 1), .lit (.int .u64 1), .lit (.int .u64 4), .lit (.int .u64 2), .lit (.int .u64 2), .lit (.int .u64 2), .lit (.int .u64 2), .lit (.int .u64 2)]
/-- One of Go's own tables, pinned by name: the form's constant. -/
def laid_unicode_utf8_first : DataW Unit := Go.Pinned.utf8First

/-- 'demesnelaw19.GateTells': WHATEVER THE INPUT: true; the input reads as it did. -/
def gateTellsSpec : ChangeSpec := { name := "gateTells", fn := fun _ => fun
  | [d1, d2, d3, d4, d5, d6] => { results := [.lit (.bool true)], args := [d1, d2, d3, d4, d5, d6] }
  | _ => none }
def gateTellsRow : OpenClaim := { program := "ytefjdmjkofaajaagreatdoor", sum := "829c8a7fd350586288b919e6f8e184c912502cff6fe258ce5f6c78ab48dfdf57", func := "demesne/demesnelaw19.GateTells", spec := "gateTells", inPlace := ["internal/abi.NoEscape", "internal/bytealg.MakeNoZero", "internal/bytealg.CountString", "internal/bytealg.IndexByteString", "internal/bytealg.IndexString"], unfollowed := true, recurses := true, named := ["demesne/sha.start", "demesne/sha.rounds", "demesne/word.letters", "demesne/word.marks", "unicode/utf8.first", "unicode/utf8.acceptRanges", "internal/bytealg.MaxLen", "demesne/gate.rights"], apart := false, laid := [("unicode/utf8.acceptRanges", laid_unicode_utf8_acceptRanges), ("demesne/sha.start", laid_demesne_sha_start), ("demesne/sha.rounds", laid_demesne_sha_rounds), ("demesne/word.letters", laid_demesne_word_letters), ("demesne/word.marks", laid_demesne_word_marks), ("demesne/gate.rights", laid_demesne_gate_rights), ("unicode/utf8.first", laid_unicode_utf8_first)] }
def GateTellsSaid : Prop := gateTellsRow.holds Tryz.pinned (OpenSpec.ofChange gateTellsSpec)

/-- ITS FALSE NEIGHBOUR: 'it returns false'. Refute it at one input. -/
def gateTellsWrong : ChangeSpec := { name := "gateTells", fn := fun _ => fun
  | [d1, d2, d3, d4, d5, d6] => { results := [.lit (.bool false)], args := [d1, d2, d3, d4, d5, d6] }
  | _ => none }
def GateTellsWrongFalsely : Prop := gateTellsRow.holds Tryz.pinned (OpenSpec.ofChange gateTellsWrong)

/-- 'demesnelaw19.GateBack': WHATEVER THE INPUT: true; the input reads as it did. -/
def gateBackSpec : ChangeSpec := { name := "gateBack", fn := fun _ => fun
  | [d1, d2, d3, d4] => { results := [.lit (.bool true)], args := [d1, d2, d3, d4] }
  | _ => none }
def gateBackRow : OpenClaim := { program := "ytefjdmjkofaajaagreatdoor", sum := "829c8a7fd350586288b919e6f8e184c912502cff6fe258ce5f6c78ab48dfdf57", func := "demesne/demesnelaw19.GateBack", spec := "gateBack", inPlace := ["internal/abi.NoEscape", "internal/bytealg.MakeNoZero", "internal/bytealg.CountString", "internal/bytealg.IndexByteString", "internal/bytealg.IndexString"], unfollowed := true, recurses := true, named := ["demesne/sha.start", "demesne/sha.rounds", "demesne/word.letters", "demesne/word.marks", "unicode/utf8.first", "unicode/utf8.acceptRanges", "internal/bytealg.MaxLen", "demesne/gate.rights"], apart := false, laid := [("unicode/utf8.acceptRanges", laid_unicode_utf8_acceptRanges), ("demesne/sha.start", laid_demesne_sha_start), ("demesne/sha.rounds", laid_demesne_sha_rounds), ("demesne/word.letters", laid_demesne_word_letters), ("demesne/word.marks", laid_demesne_word_marks), ("demesne/gate.rights", laid_demesne_gate_rights), ("unicode/utf8.first", laid_unicode_utf8_first)] }
def GateBackSaid : Prop := gateBackRow.holds Tryz.pinned (OpenSpec.ofChange gateBackSpec)

/-- ITS FALSE NEIGHBOUR: 'it returns false'. Refute it at one input. -/
def gateBackWrong : ChangeSpec := { name := "gateBack", fn := fun _ => fun
  | [d1, d2, d3, d4] => { results := [.lit (.bool false)], args := [d1, d2, d3, d4] }
  | _ => none }
def GateBackWrongFalsely : Prop := gateBackRow.holds Tryz.pinned (OpenSpec.ofChange gateBackWrong)

/-- 'demesnelaw19.GateNarrows': WHATEVER THE INPUT: true; the input reads as it did. -/
def gateNarrowsSpec : ChangeSpec := { name := "gateNarrows", fn := fun _ => fun
  | [d1, d2, d3, d4, d5, d6] => { results := [.lit (.bool true)], args := [d1, d2, d3, d4, d5, d6] }
  | _ => none }
def gateNarrowsRow : OpenClaim := { program := "ytefjdmjkofaajaagreatdoor", sum := "829c8a7fd350586288b919e6f8e184c912502cff6fe258ce5f6c78ab48dfdf57", func := "demesne/demesnelaw19.GateNarrows", spec := "gateNarrows", inPlace := ["internal/abi.NoEscape", "internal/bytealg.MakeNoZero", "internal/bytealg.CountString", "internal/bytealg.IndexByteString", "internal/bytealg.IndexString"], unfollowed := true, recurses := true, named := ["demesne/sha.start", "demesne/sha.rounds", "demesne/word.letters", "demesne/word.marks", "unicode/utf8.first", "unicode/utf8.acceptRanges", "internal/bytealg.MaxLen", "demesne/gate.rights"], apart := false, laid := [("unicode/utf8.acceptRanges", laid_unicode_utf8_acceptRanges), ("demesne/sha.start", laid_demesne_sha_start), ("demesne/sha.rounds", laid_demesne_sha_rounds), ("demesne/word.letters", laid_demesne_word_letters), ("demesne/word.marks", laid_demesne_word_marks), ("demesne/gate.rights", laid_demesne_gate_rights), ("unicode/utf8.first", laid_unicode_utf8_first)] }
def GateNarrowsSaid : Prop := gateNarrowsRow.holds Tryz.pinned (OpenSpec.ofChange gateNarrowsSpec)

/-- ITS FALSE NEIGHBOUR: 'it returns false'. Refute it at one input. -/
def gateNarrowsWrong : ChangeSpec := { name := "gateNarrows", fn := fun _ => fun
  | [d1, d2, d3, d4, d5, d6] => { results := [.lit (.bool false)], args := [d1, d2, d3, d4, d5, d6] }
  | _ => none }
def GateNarrowsWrongFalsely : Prop := gateNarrowsRow.holds Tryz.pinned (OpenSpec.ofChange gateNarrowsWrong)

/-- 'demesnelaw19.GateRights': WHATEVER THE INPUT: true; the input reads as it did. -/
def gateRightsSpec : ChangeSpec := { name := "gateRights", fn := fun _ => fun
  | [d1, d2, d3, d4] => { results := [.lit (.bool true)], args := [d1, d2, d3, d4] }
  | _ => none }
def gateRightsRow : OpenClaim := { program := "ytefjdmjkofaajaagreatdoor", sum := "829c8a7fd350586288b919e6f8e184c912502cff6fe258ce5f6c78ab48dfdf57", func := "demesne/demesnelaw19.GateRights", spec := "gateRights", inPlace := ["internal/abi.NoEscape", "internal/bytealg.MakeNoZero", "internal/bytealg.CountString", "internal/bytealg.IndexByteString", "internal/bytealg.IndexString"], unfollowed := true, recurses := true, named := ["demesne/sha.start", "demesne/sha.rounds", "demesne/word.letters", "demesne/word.marks", "unicode/utf8.first", "unicode/utf8.acceptRanges", "internal/bytealg.MaxLen", "demesne/gate.rights"], apart := false, laid := [("unicode/utf8.acceptRanges", laid_unicode_utf8_acceptRanges), ("demesne/sha.start", laid_demesne_sha_start), ("demesne/sha.rounds", laid_demesne_sha_rounds), ("demesne/word.letters", laid_demesne_word_letters), ("demesne/word.marks", laid_demesne_word_marks), ("demesne/gate.rights", laid_demesne_gate_rights), ("unicode/utf8.first", laid_unicode_utf8_first)] }
def GateRightsSaid : Prop := gateRightsRow.holds Tryz.pinned (OpenSpec.ofChange gateRightsSpec)

/-- ITS FALSE NEIGHBOUR: 'it returns false'. Refute it at one input. -/
def gateRightsWrong : ChangeSpec := { name := "gateRights", fn := fun _ => fun
  | [d1, d2, d3, d4] => { results := [.lit (.bool false)], args := [d1, d2, d3, d4] }
  | _ => none }
def GateRightsWrongFalsely : Prop := gateRightsRow.holds Tryz.pinned (OpenSpec.ofChange gateRightsWrong)

/-- 'demesnelaw19.GateStrange': WHATEVER THE INPUT: true; the input reads as it did. -/
def gateStrangeSpec : ChangeSpec := { name := "gateStrange", fn := fun _ => fun
  | [d1, d2, d3, d4, d5] => { results := [.lit (.bool true)], args := [d1, d2, d3, d4, d5] }
  | _ => none }
def gateStrangeRow : OpenClaim := { program := "ytefjdmjkofaajaagreatdoor", sum := "829c8a7fd350586288b919e6f8e184c912502cff6fe258ce5f6c78ab48dfdf57", func := "demesne/demesnelaw19.GateStrange", spec := "gateStrange", inPlace := ["internal/abi.NoEscape", "internal/bytealg.MakeNoZero", "internal/bytealg.CountString", "internal/bytealg.IndexByteString", "internal/bytealg.IndexString"], unfollowed := true, recurses := true, named := ["demesne/sha.start", "demesne/sha.rounds", "demesne/word.letters", "demesne/word.marks", "unicode/utf8.first", "unicode/utf8.acceptRanges", "internal/bytealg.MaxLen", "demesne/gate.rights"], apart := false, laid := [("unicode/utf8.acceptRanges", laid_unicode_utf8_acceptRanges), ("demesne/sha.start", laid_demesne_sha_start), ("demesne/sha.rounds", laid_demesne_sha_rounds), ("demesne/word.letters", laid_demesne_word_letters), ("demesne/word.marks", laid_demesne_word_marks), ("demesne/gate.rights", laid_demesne_gate_rights), ("unicode/utf8.first", laid_unicode_utf8_first)] }
def GateStrangeSaid : Prop := gateStrangeRow.holds Tryz.pinned (OpenSpec.ofChange gateStrangeSpec)

/-- ITS FALSE NEIGHBOUR: 'it returns false'. Refute it at one input. -/
def gateStrangeWrong : ChangeSpec := { name := "gateStrange", fn := fun _ => fun
  | [d1, d2, d3, d4, d5] => { results := [.lit (.bool false)], args := [d1, d2, d3, d4, d5] }
  | _ => none }
def GateStrangeWrongFalsely : Prop := gateStrangeRow.holds Tryz.pinned (OpenSpec.ofChange gateStrangeWrong)

/-- 'demesnelaw19.GateOnce': WHATEVER THE INPUT: true; the input reads as it did. -/
def gateOnceSpec : ChangeSpec := { name := "gateOnce", fn := fun _ => fun
  | [d] => { results := [.lit (.bool true)], args := [d] }
  | _ => none }
def gateOnceRow : OpenClaim := { program := "ytefjdmjkofaajaagreatdoor", sum := "829c8a7fd350586288b919e6f8e184c912502cff6fe258ce5f6c78ab48dfdf57", func := "demesne/demesnelaw19.GateOnce", spec := "gateOnce", inPlace := ["internal/abi.NoEscape", "internal/bytealg.MakeNoZero", "internal/bytealg.CountString", "internal/bytealg.IndexByteString", "internal/bytealg.IndexString"], unfollowed := true, recurses := true, named := ["demesne/sha.start", "demesne/sha.rounds", "demesne/word.letters", "demesne/word.marks", "unicode/utf8.first", "unicode/utf8.acceptRanges", "internal/bytealg.MaxLen", "demesne/gate.rights"], apart := false, laid := [("unicode/utf8.acceptRanges", laid_unicode_utf8_acceptRanges), ("demesne/sha.start", laid_demesne_sha_start), ("demesne/sha.rounds", laid_demesne_sha_rounds), ("demesne/word.letters", laid_demesne_word_letters), ("demesne/word.marks", laid_demesne_word_marks), ("demesne/gate.rights", laid_demesne_gate_rights), ("unicode/utf8.first", laid_unicode_utf8_first)] }
def GateOnceSaid : Prop := gateOnceRow.holds Tryz.pinned (OpenSpec.ofChange gateOnceSpec)

/-- ITS FALSE NEIGHBOUR: 'it returns false'. Refute it at one input. -/
def gateOnceWrong : ChangeSpec := { name := "gateOnce", fn := fun _ => fun
  | [d] => { results := [.lit (.bool false)], args := [d] }
  | _ => none }
def GateOnceWrongFalsely : Prop := gateOnceRow.holds Tryz.pinned (OpenSpec.ofChange gateOnceWrong)

/- THE SECOND FORM. 'bulk': how many values and letters a reading holds, each counted each time it is reached (what is shared counts as often as it is met; a slice's spare places count too). A statement '..UptoSaid' is the law's where the arguments, and the package variables that the reading takes, are together of bulk at most 1048576: NARROWER than '..Said'. Prove '..Said' where nothing that the law and all that it calls make is longer than what came in: it says more and counts as full. Else prove '..UptoSaid'. A law counts once. -/
mutual
def uptoBulk {H : Type} : DataW H → Nat
  | .lit (.string bytes) => bytes.length + 1
  | .lit _ => 1
  | .nil => 1
  | .ptr d => uptoBulk d + 1
  | .slice elems spare => uptoBulkAll elems + uptoBulkAll spare + 1
  | .agg parts => uptoBulkAll parts + 1
  | .iface _ d => uptoBulk d + 1
  | .map entries => uptoBulkEntries entries + 1
  | .held _ => 1
def uptoBulkAll {H : Type} : List (DataW H) → Nat
  | [] => 0
  | d :: r => uptoBulk d + uptoBulkAll r
def uptoBulkEntries {H : Type} : List (Lit × DataW H) → Nat
  | [] => 0
  | x :: r => uptoBulkEntry x + uptoBulkEntries r
def uptoBulkEntry {H : Type} : Lit × DataW H → Nat
  | (.string bytes, d) => bytes.length + uptoBulk d + 1
  | (_, d) => uptoBulk d + 1
 end
def uptoSmall : (H : Type) → List (DataW H) → Bool := fun _ ds => decide (uptoBulkAll ds ≤ 1048576)
def OpenSpec.upto (s : _root_.Go.ChangeSpec) : _root_.Go.OpenSpec := { _root_.Go.OpenSpec.ofChange s with cond := some uptoSmall }

/-- 'demesnelaw19.GateTells', WHERE WHAT IT READS IS OF BULK AT MOST 1048576: true; the input reads as it did. -/
def gateTellsUptoRow : OpenClaim := { program := "ytefjdmjkofaajaagreatdoor", sum := "829c8a7fd350586288b919e6f8e184c912502cff6fe258ce5f6c78ab48dfdf57", func := "demesne/demesnelaw19.GateTells", spec := "gateTells", inPlace := ["internal/abi.NoEscape", "internal/bytealg.MakeNoZero", "internal/bytealg.CountString", "internal/bytealg.IndexByteString", "internal/bytealg.IndexString"], unfollowed := true, recurses := true, named := ["demesne/sha.start", "demesne/sha.rounds", "demesne/word.letters", "demesne/word.marks", "unicode/utf8.first", "unicode/utf8.acceptRanges", "internal/bytealg.MaxLen", "demesne/gate.rights"], apart := false, laid := [("unicode/utf8.acceptRanges", laid_unicode_utf8_acceptRanges), ("demesne/sha.start", laid_demesne_sha_start), ("demesne/sha.rounds", laid_demesne_sha_rounds), ("demesne/word.letters", laid_demesne_word_letters), ("demesne/word.marks", laid_demesne_word_marks), ("demesne/gate.rights", laid_demesne_gate_rights), ("unicode/utf8.first", laid_unicode_utf8_first)], narrowed := true }
def GateTellsUptoSaid : Prop := gateTellsUptoRow.holds Tryz.pinned (OpenSpec.upto gateTellsSpec)

/-- 'demesnelaw19.GateBack', WHERE WHAT IT READS IS OF BULK AT MOST 1048576: true; the input reads as it did. -/
def gateBackUptoRow : OpenClaim := { program := "ytefjdmjkofaajaagreatdoor", sum := "829c8a7fd350586288b919e6f8e184c912502cff6fe258ce5f6c78ab48dfdf57", func := "demesne/demesnelaw19.GateBack", spec := "gateBack", inPlace := ["internal/abi.NoEscape", "internal/bytealg.MakeNoZero", "internal/bytealg.CountString", "internal/bytealg.IndexByteString", "internal/bytealg.IndexString"], unfollowed := true, recurses := true, named := ["demesne/sha.start", "demesne/sha.rounds", "demesne/word.letters", "demesne/word.marks", "unicode/utf8.first", "unicode/utf8.acceptRanges", "internal/bytealg.MaxLen", "demesne/gate.rights"], apart := false, laid := [("unicode/utf8.acceptRanges", laid_unicode_utf8_acceptRanges), ("demesne/sha.start", laid_demesne_sha_start), ("demesne/sha.rounds", laid_demesne_sha_rounds), ("demesne/word.letters", laid_demesne_word_letters), ("demesne/word.marks", laid_demesne_word_marks), ("demesne/gate.rights", laid_demesne_gate_rights), ("unicode/utf8.first", laid_unicode_utf8_first)], narrowed := true }
def GateBackUptoSaid : Prop := gateBackUptoRow.holds Tryz.pinned (OpenSpec.upto gateBackSpec)

/-- 'demesnelaw19.GateNarrows', WHERE WHAT IT READS IS OF BULK AT MOST 1048576: true; the input reads as it did. -/
def gateNarrowsUptoRow : OpenClaim := { program := "ytefjdmjkofaajaagreatdoor", sum := "829c8a7fd350586288b919e6f8e184c912502cff6fe258ce5f6c78ab48dfdf57", func := "demesne/demesnelaw19.GateNarrows", spec := "gateNarrows", inPlace := ["internal/abi.NoEscape", "internal/bytealg.MakeNoZero", "internal/bytealg.CountString", "internal/bytealg.IndexByteString", "internal/bytealg.IndexString"], unfollowed := true, recurses := true, named := ["demesne/sha.start", "demesne/sha.rounds", "demesne/word.letters", "demesne/word.marks", "unicode/utf8.first", "unicode/utf8.acceptRanges", "internal/bytealg.MaxLen", "demesne/gate.rights"], apart := false, laid := [("unicode/utf8.acceptRanges", laid_unicode_utf8_acceptRanges), ("demesne/sha.start", laid_demesne_sha_start), ("demesne/sha.rounds", laid_demesne_sha_rounds), ("demesne/word.letters", laid_demesne_word_letters), ("demesne/word.marks", laid_demesne_word_marks), ("demesne/gate.rights", laid_demesne_gate_rights), ("unicode/utf8.first", laid_unicode_utf8_first)], narrowed := true }
def GateNarrowsUptoSaid : Prop := gateNarrowsUptoRow.holds Tryz.pinned (OpenSpec.upto gateNarrowsSpec)

/-- 'demesnelaw19.GateRights', WHERE WHAT IT READS IS OF BULK AT MOST 1048576: true; the input reads as it did. -/
def gateRightsUptoRow : OpenClaim := { program := "ytefjdmjkofaajaagreatdoor", sum := "829c8a7fd350586288b919e6f8e184c912502cff6fe258ce5f6c78ab48dfdf57", func := "demesne/demesnelaw19.GateRights", spec := "gateRights", inPlace := ["internal/abi.NoEscape", "internal/bytealg.MakeNoZero", "internal/bytealg.CountString", "internal/bytealg.IndexByteString", "internal/bytealg.IndexString"], unfollowed := true, recurses := true, named := ["demesne/sha.start", "demesne/sha.rounds", "demesne/word.letters", "demesne/word.marks", "unicode/utf8.first", "unicode/utf8.acceptRanges", "internal/bytealg.MaxLen", "demesne/gate.rights"], apart := false, laid := [("unicode/utf8.acceptRanges", laid_unicode_utf8_acceptRanges), ("demesne/sha.start", laid_demesne_sha_start), ("demesne/sha.rounds", laid_demesne_sha_rounds), ("demesne/word.letters", laid_demesne_word_letters), ("demesne/word.marks", laid_demesne_word_marks), ("demesne/gate.rights", laid_demesne_gate_rights), ("unicode/utf8.first", laid_unicode_utf8_first)], narrowed := true }
def GateRightsUptoSaid : Prop := gateRightsUptoRow.holds Tryz.pinned (OpenSpec.upto gateRightsSpec)

/-- 'demesnelaw19.GateStrange', WHERE WHAT IT READS IS OF BULK AT MOST 1048576: true; the input reads as it did. -/
def gateStrangeUptoRow : OpenClaim := { program := "ytefjdmjkofaajaagreatdoor", sum := "829c8a7fd350586288b919e6f8e184c912502cff6fe258ce5f6c78ab48dfdf57", func := "demesne/demesnelaw19.GateStrange", spec := "gateStrange", inPlace := ["internal/abi.NoEscape", "internal/bytealg.MakeNoZero", "internal/bytealg.CountString", "internal/bytealg.IndexByteString", "internal/bytealg.IndexString"], unfollowed := true, recurses := true, named := ["demesne/sha.start", "demesne/sha.rounds", "demesne/word.letters", "demesne/word.marks", "unicode/utf8.first", "unicode/utf8.acceptRanges", "internal/bytealg.MaxLen", "demesne/gate.rights"], apart := false, laid := [("unicode/utf8.acceptRanges", laid_unicode_utf8_acceptRanges), ("demesne/sha.start", laid_demesne_sha_start), ("demesne/sha.rounds", laid_demesne_sha_rounds), ("demesne/word.letters", laid_demesne_word_letters), ("demesne/word.marks", laid_demesne_word_marks), ("demesne/gate.rights", laid_demesne_gate_rights), ("unicode/utf8.first", laid_unicode_utf8_first)], narrowed := true }
def GateStrangeUptoSaid : Prop := gateStrangeUptoRow.holds Tryz.pinned (OpenSpec.upto gateStrangeSpec)

/-- 'demesnelaw19.GateOnce', WHERE WHAT IT READS IS OF BULK AT MOST 1048576: true; the input reads as it did. -/
def gateOnceUptoRow : OpenClaim := { program := "ytefjdmjkofaajaagreatdoor", sum := "829c8a7fd350586288b919e6f8e184c912502cff6fe258ce5f6c78ab48dfdf57", func := "demesne/demesnelaw19.GateOnce", spec := "gateOnce", inPlace := ["internal/abi.NoEscape", "internal/bytealg.MakeNoZero", "internal/bytealg.CountString", "internal/bytealg.IndexByteString", "internal/bytealg.IndexString"], unfollowed := true, recurses := true, named := ["demesne/sha.start", "demesne/sha.rounds", "demesne/word.letters", "demesne/word.marks", "unicode/utf8.first", "unicode/utf8.acceptRanges", "internal/bytealg.MaxLen", "demesne/gate.rights"], apart := false, laid := [("unicode/utf8.acceptRanges", laid_unicode_utf8_acceptRanges), ("demesne/sha.start", laid_demesne_sha_start), ("demesne/sha.rounds", laid_demesne_sha_rounds), ("demesne/word.letters", laid_demesne_word_letters), ("demesne/word.marks", laid_demesne_word_marks), ("demesne/gate.rights", laid_demesne_gate_rights), ("unicode/utf8.first", laid_unicode_utf8_first)], narrowed := true }
def GateOnceUptoSaid : Prop := gateOnceUptoRow.holds Tryz.pinned (OpenSpec.upto gateOnceSpec)

end Rows
end Go.Proofs.YtefjdmjkofaajaaGreatDoor
