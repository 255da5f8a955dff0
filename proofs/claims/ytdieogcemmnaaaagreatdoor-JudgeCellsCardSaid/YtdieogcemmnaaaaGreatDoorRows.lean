/-
  NARROWER THAN 'FOR EVERY INPUT', by the rows' own cells (each row's printed sentence says how): TreeBytes: laid · TreeRenames: laid · TreeCounts: laid · TreeCalls: laid · TreeErrors: laid · SnapTurned: laid · SnapSame: laid · ReplayJunk: laid · ReplayFront: laid · JudgeRight: laid · JudgeTwice: laid · JudgeCells: laid.
  DERIVED. THE GIVEN ROWS OF THIS SEAT. 12 by the template 'for every input the law returns true; each argument reads behind the call as it read before'; 0 by the template 'total and deterministic' (their statements: YtdieogcemmnaaaaGreatDoorTotals.lean).
  GIVEN WITH THE SEED: the statements are not yours to turn. If you find one false, say at which input.
  Laid BY PROGRAM, IN A SANDBOX (cutbox-rows.mjs): the forced cells as the released guide's own fill.sh prints them over the translation 6010b0ef5c4fff21… (all of the seat's roots in one cut). By AI agents, Wed Nov 11 2026. No macro, syntax, notation, axiom, sorry.
-/
import Derived.Test.YtdieogcemmnaaaaGreatDoorChecked
import GoSem.PinnedTables
import GoSem.Claim
import GoSem.ClaimJoined
import GoSem.ClaimMapViews
import Derived.JoinedTies
import Derived.KernelRfl
namespace Go.Proofs.YtdieogcemmnaaaaGreatDoor
/- THE CELL 'sum', in the pinned program and in every row, IS THE sha256 OF THE DUMP (.gsa) THAT YtdieogcemmnaaaaGreatDoorProg.lean LOADS. Nothing in Lean hashes anything: it is a label: what it is worth is what the hold of that sum in a sandbox is worth. -/
noncomputable def Tryz.pinned : Pinned := { name := "ytdieogcemmnaaaagreatdoor", sum := "6010b0ef5c4fff21973977ce666eb2edf79a4f0d49154cc15dcef792c3ab74f3", checked := Tryz.checked }
namespace Rows
def none {H : Type} : Left H := { results := [], args := [] }

/- WHAT THE LISTED PACKAGE-LEVEL VARIABLES READ AS WHEN THE CALL BEGINS. Each datum BY PROGRAM (the guide's laid-datum.mjs) off the statement by which the dump's own 'gosem.cut.vars' lays the variable. In a bare row this is a premise. The card (YtdieogcemmnaaaaGreatDoorCards.lean) ties it to the program's text. -/
def laid_unicode_utf8_acceptRanges {H : Type} : DataW H := .agg [.agg [.lit (.int .u8 128), .lit (.int .u8 191)], .agg [.lit (.int .u8 160), .lit (.int .u8 191)], .agg [.lit (.int .u8 128), .lit (.int .u8 159)], .agg [.lit (.int .u8 144), .lit (.int .u8 191)], .agg [.lit (.int .u8 128), .lit (.int .u8 143)], .agg [.lit (.int .u8 0), .lit (.int .u8 0)], .agg [.lit (.int .u8 0), .lit (.int .u8 0)], .agg [.lit (.int .u8 0), .lit (.int .u8 0)], .agg [.lit (.int .u8 0), .lit (.int .u8 0)], .agg [.lit (.int .u8 0), .lit (.int .u8 0)], .agg [.lit (.int .u8 0), .lit (.int .u8 0)], .agg [.lit (.int .u8 0), .lit (.int .u8 0)], .agg [.lit (.int .u8 0), .lit (.int .u8 0)], .agg [.lit (.int .u8 0), .lit (.int .u8 0)], .agg [.lit (.int .u8 0), .lit (.int .u8 0)], .agg [.lit (.int .u8 0), .lit (.int .u8 0)]]
/-- One of Go's own tables, pinned by name: the form's constant. -/
def laid_unicode_utf8_first : DataW Unit := Go.Pinned.utf8First
def laid_tideline_check_fours {H : Type} : DataW H := .agg [.lit (.int .u32 0), .lit (.int .u32 498536548), .lit (.int .u32 997073096), .lit (.int .u32 651767980), .lit (.int .u32 1994146192), .lit (.int .u32 1802195444), .lit (.int .u32 1303535960), .lit (.int .u32 1342533948), .lit (.int .u32 3988292384), .lit (.int .u32 4027552580), .lit (.int .u32 3604390888), .lit (.int .u32 3412177804), .lit (.int .u32 2607071920), .lit (.int .u32 2262029012), .lit (.int .u32 2685067896), .lit (.int .u32 3183342108)]

/-- 'tidelinelaw04.TreeBytes': WHATEVER THE INPUT: true; the input reads as it did. -/
def treeBytesSpec : ChangeSpec := { name := "treeBytes", fn := fun _ => fun
  | [d1, d2] => { results := [.lit (.bool true)], args := [d1, d2] }
  | _ => none }
def treeBytesRow : OpenClaim := { program := "ytdieogcemmnaaaagreatdoor", sum := "6010b0ef5c4fff21973977ce666eb2edf79a4f0d49154cc15dcef792c3ab74f3", func := "tideline/tidelinelaw04.TreeBytes", spec := "treeBytes", inPlace := ["internal/bytealg.CountString", "internal/bytealg.IndexByteString", "internal/bytealg.IndexString", "internal/abi.NoEscape"], unfollowed := true, recurses := true, named := ["unicode/utf8.first", "unicode/utf8.acceptRanges", "internal/bytealg.MaxLen"], plainKeys := false, apart := false, laid := [("unicode/utf8.acceptRanges", laid_unicode_utf8_acceptRanges), ("unicode/utf8.first", laid_unicode_utf8_first)] }
def TreeBytesSaid : Prop := treeBytesRow.holds Tryz.pinned (OpenSpec.ofChange treeBytesSpec)

/-- ITS FALSE NEIGHBOUR: 'it returns false'. Refute it at one input. -/
def treeBytesWrong : ChangeSpec := { name := "treeBytes", fn := fun _ => fun
  | [d1, d2] => { results := [.lit (.bool false)], args := [d1, d2] }
  | _ => none }
def TreeBytesWrongFalsely : Prop := treeBytesRow.holds Tryz.pinned (OpenSpec.ofChange treeBytesWrong)

/-- 'tidelinelaw04.TreeRenames': WHATEVER THE INPUT: true; the input reads as it did. -/
def treeRenamesSpec : ChangeSpec := { name := "treeRenames", fn := fun _ => fun
  | [d1, d2, d3] => { results := [.lit (.bool true)], args := [d1, d2, d3] }
  | _ => none }
def treeRenamesRow : OpenClaim := { program := "ytdieogcemmnaaaagreatdoor", sum := "6010b0ef5c4fff21973977ce666eb2edf79a4f0d49154cc15dcef792c3ab74f3", func := "tideline/tidelinelaw04.TreeRenames", spec := "treeRenames", inPlace := ["internal/bytealg.CountString", "internal/bytealg.IndexByteString", "internal/bytealg.IndexString", "internal/abi.NoEscape"], unfollowed := true, recurses := true, named := ["unicode/utf8.first", "unicode/utf8.acceptRanges", "internal/bytealg.MaxLen"], plainKeys := false, apart := false, laid := [("unicode/utf8.acceptRanges", laid_unicode_utf8_acceptRanges), ("unicode/utf8.first", laid_unicode_utf8_first)] }
def TreeRenamesSaid : Prop := treeRenamesRow.holds Tryz.pinned (OpenSpec.ofChange treeRenamesSpec)

/-- ITS FALSE NEIGHBOUR: 'it returns false'. Refute it at one input. -/
def treeRenamesWrong : ChangeSpec := { name := "treeRenames", fn := fun _ => fun
  | [d1, d2, d3] => { results := [.lit (.bool false)], args := [d1, d2, d3] }
  | _ => none }
def TreeRenamesWrongFalsely : Prop := treeRenamesRow.holds Tryz.pinned (OpenSpec.ofChange treeRenamesWrong)

/-- 'tidelinelaw04.TreeCounts': WHATEVER THE INPUT: true; the input reads as it did. -/
def treeCountsSpec : ChangeSpec := { name := "treeCounts", fn := fun _ => fun
  | [d] => { results := [.lit (.bool true)], args := [d] }
  | _ => none }
def treeCountsRow : OpenClaim := { program := "ytdieogcemmnaaaagreatdoor", sum := "6010b0ef5c4fff21973977ce666eb2edf79a4f0d49154cc15dcef792c3ab74f3", func := "tideline/tidelinelaw04.TreeCounts", spec := "treeCounts", inPlace := ["internal/bytealg.CountString", "internal/bytealg.IndexByteString", "internal/bytealg.IndexString", "internal/abi.NoEscape"], unfollowed := true, recurses := true, named := ["unicode/utf8.first", "unicode/utf8.acceptRanges", "internal/bytealg.MaxLen"], plainKeys := false, apart := false, laid := [("unicode/utf8.acceptRanges", laid_unicode_utf8_acceptRanges), ("unicode/utf8.first", laid_unicode_utf8_first)] }
def TreeCountsSaid : Prop := treeCountsRow.holds Tryz.pinned (OpenSpec.ofChange treeCountsSpec)

/-- ITS FALSE NEIGHBOUR: 'it returns false'. Refute it at one input. -/
def treeCountsWrong : ChangeSpec := { name := "treeCounts", fn := fun _ => fun
  | [d] => { results := [.lit (.bool false)], args := [d] }
  | _ => none }
def TreeCountsWrongFalsely : Prop := treeCountsRow.holds Tryz.pinned (OpenSpec.ofChange treeCountsWrong)

/-- 'tidelinelaw04.TreeCalls': WHATEVER THE INPUT: true; the input reads as it did. -/
def treeCallsSpec : ChangeSpec := { name := "treeCalls", fn := fun _ => fun
  | [d] => { results := [.lit (.bool true)], args := [d] }
  | _ => none }
def treeCallsRow : OpenClaim := { program := "ytdieogcemmnaaaagreatdoor", sum := "6010b0ef5c4fff21973977ce666eb2edf79a4f0d49154cc15dcef792c3ab74f3", func := "tideline/tidelinelaw04.TreeCalls", spec := "treeCalls", inPlace := ["internal/bytealg.CountString", "internal/bytealg.IndexByteString", "internal/bytealg.IndexString", "internal/abi.NoEscape"], unfollowed := true, recurses := true, named := ["unicode/utf8.first", "unicode/utf8.acceptRanges", "internal/bytealg.MaxLen"], plainKeys := false, apart := false, laid := [("unicode/utf8.acceptRanges", laid_unicode_utf8_acceptRanges), ("unicode/utf8.first", laid_unicode_utf8_first)] }
def TreeCallsSaid : Prop := treeCallsRow.holds Tryz.pinned (OpenSpec.ofChange treeCallsSpec)

/-- ITS FALSE NEIGHBOUR: 'it returns false'. Refute it at one input. -/
def treeCallsWrong : ChangeSpec := { name := "treeCalls", fn := fun _ => fun
  | [d] => { results := [.lit (.bool false)], args := [d] }
  | _ => none }
def TreeCallsWrongFalsely : Prop := treeCallsRow.holds Tryz.pinned (OpenSpec.ofChange treeCallsWrong)

/-- 'tidelinelaw04.TreeErrors': WHATEVER THE INPUT: true; the input reads as it did. -/
def treeErrorsSpec : ChangeSpec := { name := "treeErrors", fn := fun _ => fun
  | [d] => { results := [.lit (.bool true)], args := [d] }
  | _ => none }
def treeErrorsRow : OpenClaim := { program := "ytdieogcemmnaaaagreatdoor", sum := "6010b0ef5c4fff21973977ce666eb2edf79a4f0d49154cc15dcef792c3ab74f3", func := "tideline/tidelinelaw04.TreeErrors", spec := "treeErrors", inPlace := ["internal/bytealg.CountString", "internal/bytealg.IndexByteString", "internal/bytealg.IndexString", "internal/abi.NoEscape"], unfollowed := true, recurses := true, named := ["unicode/utf8.first", "unicode/utf8.acceptRanges", "internal/bytealg.MaxLen"], plainKeys := false, apart := false, laid := [("unicode/utf8.acceptRanges", laid_unicode_utf8_acceptRanges), ("unicode/utf8.first", laid_unicode_utf8_first)] }
def TreeErrorsSaid : Prop := treeErrorsRow.holds Tryz.pinned (OpenSpec.ofChange treeErrorsSpec)

/-- ITS FALSE NEIGHBOUR: 'it returns false'. Refute it at one input. -/
def treeErrorsWrong : ChangeSpec := { name := "treeErrors", fn := fun _ => fun
  | [d] => { results := [.lit (.bool false)], args := [d] }
  | _ => none }
def TreeErrorsWrongFalsely : Prop := treeErrorsRow.holds Tryz.pinned (OpenSpec.ofChange treeErrorsWrong)

/-- 'tidelinelaw06.SnapTurned': WHATEVER THE INPUT: true; the input reads as it did. -/
def snapTurnedSpec : ChangeSpec := { name := "snapTurned", fn := fun _ => fun
  | [d1, d2, d3, d4] => { results := [.lit (.bool true)], args := [d1, d2, d3, d4] }
  | _ => none }
def snapTurnedRow : OpenClaim := { program := "ytdieogcemmnaaaagreatdoor", sum := "6010b0ef5c4fff21973977ce666eb2edf79a4f0d49154cc15dcef792c3ab74f3", func := "tideline/tidelinelaw06.SnapTurned", spec := "snapTurned", inPlace := ["internal/bytealg.IndexByteString", "internal/bytealg.CountString", "internal/bytealg.IndexString", "internal/abi.NoEscape"], unfollowed := true, recurses := true, named := ["tideline/check.fours", "unicode/utf8.first", "unicode/utf8.acceptRanges", "internal/bytealg.MaxLen"], plainKeys := false, apart := false, laid := [("unicode/utf8.acceptRanges", laid_unicode_utf8_acceptRanges), ("tideline/check.fours", laid_tideline_check_fours), ("unicode/utf8.first", laid_unicode_utf8_first)] }
def SnapTurnedSaid : Prop := snapTurnedRow.holds Tryz.pinned (OpenSpec.ofChange snapTurnedSpec)

/-- ITS FALSE NEIGHBOUR: 'it returns false'. Refute it at one input. -/
def snapTurnedWrong : ChangeSpec := { name := "snapTurned", fn := fun _ => fun
  | [d1, d2, d3, d4] => { results := [.lit (.bool false)], args := [d1, d2, d3, d4] }
  | _ => none }
def SnapTurnedWrongFalsely : Prop := snapTurnedRow.holds Tryz.pinned (OpenSpec.ofChange snapTurnedWrong)

/-- 'tidelinelaw06.SnapSame': WHATEVER THE INPUT: true; the input reads as it did. -/
def snapSameSpec : ChangeSpec := { name := "snapSame", fn := fun _ => fun
  | [d1, d2, d3, d4] => { results := [.lit (.bool true)], args := [d1, d2, d3, d4] }
  | _ => none }
def snapSameRow : OpenClaim := { program := "ytdieogcemmnaaaagreatdoor", sum := "6010b0ef5c4fff21973977ce666eb2edf79a4f0d49154cc15dcef792c3ab74f3", func := "tideline/tidelinelaw06.SnapSame", spec := "snapSame", inPlace := ["internal/bytealg.IndexByteString", "internal/bytealg.CountString", "internal/bytealg.IndexString", "internal/abi.NoEscape"], unfollowed := true, recurses := true, named := ["tideline/check.fours", "unicode/utf8.first", "unicode/utf8.acceptRanges", "internal/bytealg.MaxLen"], plainKeys := false, apart := false, laid := [("unicode/utf8.acceptRanges", laid_unicode_utf8_acceptRanges), ("tideline/check.fours", laid_tideline_check_fours), ("unicode/utf8.first", laid_unicode_utf8_first)] }
def SnapSameSaid : Prop := snapSameRow.holds Tryz.pinned (OpenSpec.ofChange snapSameSpec)

/-- ITS FALSE NEIGHBOUR: 'it returns false'. Refute it at one input. -/
def snapSameWrong : ChangeSpec := { name := "snapSame", fn := fun _ => fun
  | [d1, d2, d3, d4] => { results := [.lit (.bool false)], args := [d1, d2, d3, d4] }
  | _ => none }
def SnapSameWrongFalsely : Prop := snapSameRow.holds Tryz.pinned (OpenSpec.ofChange snapSameWrong)

/-- 'tidelinelaw16.ReplayJunk': WHATEVER THE INPUT: true; the input reads as it did. -/
def replayJunkSpec : ChangeSpec := { name := "replayJunk", fn := fun _ => fun
  | [d1, d2] => { results := [.lit (.bool true)], args := [d1, d2] }
  | _ => none }
def replayJunkRow : OpenClaim := { program := "ytdieogcemmnaaaagreatdoor", sum := "6010b0ef5c4fff21973977ce666eb2edf79a4f0d49154cc15dcef792c3ab74f3", func := "tideline/tidelinelaw16.ReplayJunk", spec := "replayJunk", inPlace := ["internal/bytealg.CountString", "internal/bytealg.IndexByteString", "internal/bytealg.IndexString", "internal/abi.NoEscape"], unfollowed := true, recurses := true, named := ["tideline/check.fours", "unicode/utf8.first", "unicode/utf8.acceptRanges", "internal/bytealg.MaxLen"], plainKeys := false, apart := false, laid := [("unicode/utf8.acceptRanges", laid_unicode_utf8_acceptRanges), ("tideline/check.fours", laid_tideline_check_fours), ("unicode/utf8.first", laid_unicode_utf8_first)] }
def ReplayJunkSaid : Prop := replayJunkRow.holds Tryz.pinned (OpenSpec.ofChange replayJunkSpec)

/-- ITS FALSE NEIGHBOUR: 'it returns false'. Refute it at one input. -/
def replayJunkWrong : ChangeSpec := { name := "replayJunk", fn := fun _ => fun
  | [d1, d2] => { results := [.lit (.bool false)], args := [d1, d2] }
  | _ => none }
def ReplayJunkWrongFalsely : Prop := replayJunkRow.holds Tryz.pinned (OpenSpec.ofChange replayJunkWrong)

/-- 'tidelinelaw16.ReplayFront': WHATEVER THE INPUT: true; the input reads as it did. -/
def replayFrontSpec : ChangeSpec := { name := "replayFront", fn := fun _ => fun
  | [d1, d2] => { results := [.lit (.bool true)], args := [d1, d2] }
  | _ => none }
def replayFrontRow : OpenClaim := { program := "ytdieogcemmnaaaagreatdoor", sum := "6010b0ef5c4fff21973977ce666eb2edf79a4f0d49154cc15dcef792c3ab74f3", func := "tideline/tidelinelaw16.ReplayFront", spec := "replayFront", inPlace := ["internal/bytealg.CountString", "internal/bytealg.IndexByteString", "internal/bytealg.IndexString", "internal/abi.NoEscape"], unfollowed := true, recurses := true, named := ["tideline/check.fours", "unicode/utf8.first", "unicode/utf8.acceptRanges", "internal/bytealg.MaxLen"], plainKeys := false, apart := false, laid := [("unicode/utf8.acceptRanges", laid_unicode_utf8_acceptRanges), ("tideline/check.fours", laid_tideline_check_fours), ("unicode/utf8.first", laid_unicode_utf8_first)] }
def ReplayFrontSaid : Prop := replayFrontRow.holds Tryz.pinned (OpenSpec.ofChange replayFrontSpec)

/-- ITS FALSE NEIGHBOUR: 'it returns false'. Refute it at one input. -/
def replayFrontWrong : ChangeSpec := { name := "replayFront", fn := fun _ => fun
  | [d1, d2] => { results := [.lit (.bool false)], args := [d1, d2] }
  | _ => none }
def ReplayFrontWrongFalsely : Prop := replayFrontRow.holds Tryz.pinned (OpenSpec.ofChange replayFrontWrong)

/-- 'tidelinelaw21.JudgeRight': WHATEVER THE INPUT: true; the input reads as it did. -/
def judgeRightSpec : ChangeSpec := { name := "judgeRight", fn := fun _ => fun
  | [d1, d2, d3] => { results := [.lit (.bool true)], args := [d1, d2, d3] }
  | _ => none }
def judgeRightRow : OpenClaim := { program := "ytdieogcemmnaaaagreatdoor", sum := "6010b0ef5c4fff21973977ce666eb2edf79a4f0d49154cc15dcef792c3ab74f3", func := "tideline/tidelinelaw21.JudgeRight", spec := "judgeRight", inPlace := ["internal/bytealg.CountString", "internal/bytealg.IndexByteString", "internal/bytealg.IndexString", "internal/abi.NoEscape"], unfollowed := true, recurses := true, named := ["tideline/check.fours", "unicode/utf8.first", "unicode/utf8.acceptRanges", "internal/bytealg.MaxLen"], plainKeys := false, apart := false, laid := [("unicode/utf8.acceptRanges", laid_unicode_utf8_acceptRanges), ("tideline/check.fours", laid_tideline_check_fours), ("unicode/utf8.first", laid_unicode_utf8_first)] }
def JudgeRightSaid : Prop := judgeRightRow.holds Tryz.pinned (OpenSpec.ofChange judgeRightSpec)

/-- ITS FALSE NEIGHBOUR: 'it returns false'. Refute it at one input. -/
def judgeRightWrong : ChangeSpec := { name := "judgeRight", fn := fun _ => fun
  | [d1, d2, d3] => { results := [.lit (.bool false)], args := [d1, d2, d3] }
  | _ => none }
def JudgeRightWrongFalsely : Prop := judgeRightRow.holds Tryz.pinned (OpenSpec.ofChange judgeRightWrong)

/-- 'tidelinelaw21.JudgeTwice': WHATEVER THE INPUT: true; the input reads as it did. -/
def judgeTwiceSpec : ChangeSpec := { name := "judgeTwice", fn := fun _ => fun
  | [d1, d2] => { results := [.lit (.bool true)], args := [d1, d2] }
  | _ => none }
def judgeTwiceRow : OpenClaim := { program := "ytdieogcemmnaaaagreatdoor", sum := "6010b0ef5c4fff21973977ce666eb2edf79a4f0d49154cc15dcef792c3ab74f3", func := "tideline/tidelinelaw21.JudgeTwice", spec := "judgeTwice", inPlace := ["internal/bytealg.CountString", "internal/bytealg.IndexByteString", "internal/bytealg.IndexString", "internal/abi.NoEscape"], unfollowed := true, recurses := true, named := ["tideline/check.fours", "unicode/utf8.first", "unicode/utf8.acceptRanges", "internal/bytealg.MaxLen"], plainKeys := false, apart := false, laid := [("unicode/utf8.acceptRanges", laid_unicode_utf8_acceptRanges), ("tideline/check.fours", laid_tideline_check_fours), ("unicode/utf8.first", laid_unicode_utf8_first)] }
def JudgeTwiceSaid : Prop := judgeTwiceRow.holds Tryz.pinned (OpenSpec.ofChange judgeTwiceSpec)

/-- ITS FALSE NEIGHBOUR: 'it returns false'. Refute it at one input. -/
def judgeTwiceWrong : ChangeSpec := { name := "judgeTwice", fn := fun _ => fun
  | [d1, d2] => { results := [.lit (.bool false)], args := [d1, d2] }
  | _ => none }
def JudgeTwiceWrongFalsely : Prop := judgeTwiceRow.holds Tryz.pinned (OpenSpec.ofChange judgeTwiceWrong)

/-- 'tidelinelaw21.JudgeCells': WHATEVER THE INPUT: true; the input reads as it did. -/
def judgeCellsSpec : ChangeSpec := { name := "judgeCells", fn := fun _ => fun
  | [d1, d2] => { results := [.lit (.bool true)], args := [d1, d2] }
  | _ => none }
def judgeCellsRow : OpenClaim := { program := "ytdieogcemmnaaaagreatdoor", sum := "6010b0ef5c4fff21973977ce666eb2edf79a4f0d49154cc15dcef792c3ab74f3", func := "tideline/tidelinelaw21.JudgeCells", spec := "judgeCells", inPlace := ["internal/bytealg.CountString", "internal/bytealg.IndexByteString", "internal/bytealg.IndexString", "internal/abi.NoEscape"], unfollowed := true, recurses := true, named := ["tideline/check.fours", "unicode/utf8.first", "unicode/utf8.acceptRanges", "internal/bytealg.MaxLen"], plainKeys := false, apart := false, laid := [("unicode/utf8.acceptRanges", laid_unicode_utf8_acceptRanges), ("tideline/check.fours", laid_tideline_check_fours), ("unicode/utf8.first", laid_unicode_utf8_first)] }
def JudgeCellsSaid : Prop := judgeCellsRow.holds Tryz.pinned (OpenSpec.ofChange judgeCellsSpec)

/-- ITS FALSE NEIGHBOUR: 'it returns false'. Refute it at one input. -/
def judgeCellsWrong : ChangeSpec := { name := "judgeCells", fn := fun _ => fun
  | [d1, d2] => { results := [.lit (.bool false)], args := [d1, d2] }
  | _ => none }
def JudgeCellsWrongFalsely : Prop := judgeCellsRow.holds Tryz.pinned (OpenSpec.ofChange judgeCellsWrong)

/- THE SECOND FORM. 'bulk': how many values and letters a reading holds, each counted each time it is reached (what is shared counts as often as it is met; a slice's spare places count too). A statement '..UptoSaid' is the law's where the arguments, and the package variables that the reading takes, are together of bulk at most 1048576: NARROWER than '..Said'. Prove '..Said' where nothing that the law and all that it calls make is longer than what came in: it says more and counts as full. Else prove '..UptoSaid'. A law counts once. -/
mutual
def uptoBulk {H : Type} : DataW H → Nat
  | .lit (.string bytes) => bytes.length + 1
  | .lit _ => 1
  | .nil => 1
  | .ptr d => uptoBulk d + 1
  | .slice elems spare => uptoBulkAll elems + uptoBulkAll spare + 1
  | .agg parts => uptoBulkAll parts + 1
  | .iface _ d => uptoBulk d + 1
  | .map entries => uptoBulkEntries entries + 1
  | .held _ => 1
def uptoBulkAll {H : Type} : List (DataW H) → Nat
  | [] => 0
  | d :: r => uptoBulk d + uptoBulkAll r
def uptoBulkEntries {H : Type} : List (Lit × DataW H) → Nat
  | [] => 0
  | x :: r => uptoBulkEntry x + uptoBulkEntries r
def uptoBulkEntry {H : Type} : Lit × DataW H → Nat
  | (.string bytes, d) => bytes.length + uptoBulk d + 1
  | (_, d) => uptoBulk d + 1
 end
def uptoSmall : (H : Type) → List (DataW H) → Bool := fun _ ds => decide (uptoBulkAll ds ≤ 1048576)
def OpenSpec.upto (s : _root_.Go.ChangeSpec) : _root_.Go.OpenSpec := { _root_.Go.OpenSpec.ofChange s with cond := some uptoSmall }

/-- 'tidelinelaw04.TreeBytes', WHERE WHAT IT READS IS OF BULK AT MOST 1048576: true; the input reads as it did. -/
def treeBytesUptoRow : OpenClaim := { program := "ytdieogcemmnaaaagreatdoor", sum := "6010b0ef5c4fff21973977ce666eb2edf79a4f0d49154cc15dcef792c3ab74f3", func := "tideline/tidelinelaw04.TreeBytes", spec := "treeBytes", inPlace := ["internal/bytealg.CountString", "internal/bytealg.IndexByteString", "internal/bytealg.IndexString", "internal/abi.NoEscape"], unfollowed := true, recurses := true, named := ["unicode/utf8.first", "unicode/utf8.acceptRanges", "internal/bytealg.MaxLen"], plainKeys := false, apart := false, laid := [("unicode/utf8.acceptRanges", laid_unicode_utf8_acceptRanges), ("unicode/utf8.first", laid_unicode_utf8_first)], narrowed := true }
def TreeBytesUptoSaid : Prop := treeBytesUptoRow.holds Tryz.pinned (OpenSpec.upto treeBytesSpec)

/-- 'tidelinelaw04.TreeRenames', WHERE WHAT IT READS IS OF BULK AT MOST 1048576: true; the input reads as it did. -/
def treeRenamesUptoRow : OpenClaim := { program := "ytdieogcemmnaaaagreatdoor", sum := "6010b0ef5c4fff21973977ce666eb2edf79a4f0d49154cc15dcef792c3ab74f3", func := "tideline/tidelinelaw04.TreeRenames", spec := "treeRenames", inPlace := ["internal/bytealg.CountString", "internal/bytealg.IndexByteString", "internal/bytealg.IndexString", "internal/abi.NoEscape"], unfollowed := true, recurses := true, named := ["unicode/utf8.first", "unicode/utf8.acceptRanges", "internal/bytealg.MaxLen"], plainKeys := false, apart := false, laid := [("unicode/utf8.acceptRanges", laid_unicode_utf8_acceptRanges), ("unicode/utf8.first", laid_unicode_utf8_first)], narrowed := true }
def TreeRenamesUptoSaid : Prop := treeRenamesUptoRow.holds Tryz.pinned (OpenSpec.upto treeRenamesSpec)

/-- 'tidelinelaw04.TreeCounts', WHERE WHAT IT READS IS OF BULK AT MOST 1048576: true; the input reads as it did. -/
def treeCountsUptoRow : OpenClaim := { program := "ytdieogcemmnaaaagreatdoor", sum := "6010b0ef5c4fff21973977ce666eb2edf79a4f0d49154cc15dcef792c3ab74f3", func := "tideline/tidelinelaw04.TreeCounts", spec := "treeCounts", inPlace := ["internal/bytealg.CountString", "internal/bytealg.IndexByteString", "internal/bytealg.IndexString", "internal/abi.NoEscape"], unfollowed := true, recurses := true, named := ["unicode/utf8.first", "unicode/utf8.acceptRanges", "internal/bytealg.MaxLen"], plainKeys := false, apart := false, laid := [("unicode/utf8.acceptRanges", laid_unicode_utf8_acceptRanges), ("unicode/utf8.first", laid_unicode_utf8_first)], narrowed := true }
def TreeCountsUptoSaid : Prop := treeCountsUptoRow.holds Tryz.pinned (OpenSpec.upto treeCountsSpec)

/-- 'tidelinelaw04.TreeCalls', WHERE WHAT IT READS IS OF BULK AT MOST 1048576: true; the input reads as it did. -/
def treeCallsUptoRow : OpenClaim := { program := "ytdieogcemmnaaaagreatdoor", sum := "6010b0ef5c4fff21973977ce666eb2edf79a4f0d49154cc15dcef792c3ab74f3", func := "tideline/tidelinelaw04.TreeCalls", spec := "treeCalls", inPlace := ["internal/bytealg.CountString", "internal/bytealg.IndexByteString", "internal/bytealg.IndexString", "internal/abi.NoEscape"], unfollowed := true, recurses := true, named := ["unicode/utf8.first", "unicode/utf8.acceptRanges", "internal/bytealg.MaxLen"], plainKeys := false, apart := false, laid := [("unicode/utf8.acceptRanges", laid_unicode_utf8_acceptRanges), ("unicode/utf8.first", laid_unicode_utf8_first)], narrowed := true }
def TreeCallsUptoSaid : Prop := treeCallsUptoRow.holds Tryz.pinned (OpenSpec.upto treeCallsSpec)

/-- 'tidelinelaw04.TreeErrors', WHERE WHAT IT READS IS OF BULK AT MOST 1048576: true; the input reads as it did. -/
def treeErrorsUptoRow : OpenClaim := { program := "ytdieogcemmnaaaagreatdoor", sum := "6010b0ef5c4fff21973977ce666eb2edf79a4f0d49154cc15dcef792c3ab74f3", func := "tideline/tidelinelaw04.TreeErrors", spec := "treeErrors", inPlace := ["internal/bytealg.CountString", "internal/bytealg.IndexByteString", "internal/bytealg.IndexString", "internal/abi.NoEscape"], unfollowed := true, recurses := true, named := ["unicode/utf8.first", "unicode/utf8.acceptRanges", "internal/bytealg.MaxLen"], plainKeys := false, apart := false, laid := [("unicode/utf8.acceptRanges", laid_unicode_utf8_acceptRanges), ("unicode/utf8.first", laid_unicode_utf8_first)], narrowed := true }
def TreeErrorsUptoSaid : Prop := treeErrorsUptoRow.holds Tryz.pinned (OpenSpec.upto treeErrorsSpec)

/-- 'tidelinelaw06.SnapTurned', WHERE WHAT IT READS IS OF BULK AT MOST 1048576: true; the input reads as it did. -/
def snapTurnedUptoRow : OpenClaim := { program := "ytdieogcemmnaaaagreatdoor", sum := "6010b0ef5c4fff21973977ce666eb2edf79a4f0d49154cc15dcef792c3ab74f3", func := "tideline/tidelinelaw06.SnapTurned", spec := "snapTurned", inPlace := ["internal/bytealg.IndexByteString", "internal/bytealg.CountString", "internal/bytealg.IndexString", "internal/abi.NoEscape"], unfollowed := true, recurses := true, named := ["tideline/check.fours", "unicode/utf8.first", "unicode/utf8.acceptRanges", "internal/bytealg.MaxLen"], plainKeys := false, apart := false, laid := [("unicode/utf8.acceptRanges", laid_unicode_utf8_acceptRanges), ("tideline/check.fours", laid_tideline_check_fours), ("unicode/utf8.first", laid_unicode_utf8_first)], narrowed := true }
def SnapTurnedUptoSaid : Prop := snapTurnedUptoRow.holds Tryz.pinned (OpenSpec.upto snapTurnedSpec)

/-- 'tidelinelaw06.SnapSame', WHERE WHAT IT READS IS OF BULK AT MOST 1048576: true; the input reads as it did. -/
def snapSameUptoRow : OpenClaim := { program := "ytdieogcemmnaaaagreatdoor", sum := "6010b0ef5c4fff21973977ce666eb2edf79a4f0d49154cc15dcef792c3ab74f3", func := "tideline/tidelinelaw06.SnapSame", spec := "snapSame", inPlace := ["internal/bytealg.IndexByteString", "internal/bytealg.CountString", "internal/bytealg.IndexString", "internal/abi.NoEscape"], unfollowed := true, recurses := true, named := ["tideline/check.fours", "unicode/utf8.first", "unicode/utf8.acceptRanges", "internal/bytealg.MaxLen"], plainKeys := false, apart := false, laid := [("unicode/utf8.acceptRanges", laid_unicode_utf8_acceptRanges), ("tideline/check.fours", laid_tideline_check_fours), ("unicode/utf8.first", laid_unicode_utf8_first)], narrowed := true }
def SnapSameUptoSaid : Prop := snapSameUptoRow.holds Tryz.pinned (OpenSpec.upto snapSameSpec)

/-- 'tidelinelaw16.ReplayJunk', WHERE WHAT IT READS IS OF BULK AT MOST 1048576: true; the input reads as it did. -/
def replayJunkUptoRow : OpenClaim := { program := "ytdieogcemmnaaaagreatdoor", sum := "6010b0ef5c4fff21973977ce666eb2edf79a4f0d49154cc15dcef792c3ab74f3", func := "tideline/tidelinelaw16.ReplayJunk", spec := "replayJunk", inPlace := ["internal/bytealg.CountString", "internal/bytealg.IndexByteString", "internal/bytealg.IndexString", "internal/abi.NoEscape"], unfollowed := true, recurses := true, named := ["tideline/check.fours", "unicode/utf8.first", "unicode/utf8.acceptRanges", "internal/bytealg.MaxLen"], plainKeys := false, apart := false, laid := [("unicode/utf8.acceptRanges", laid_unicode_utf8_acceptRanges), ("tideline/check.fours", laid_tideline_check_fours), ("unicode/utf8.first", laid_unicode_utf8_first)], narrowed := true }
def ReplayJunkUptoSaid : Prop := replayJunkUptoRow.holds Tryz.pinned (OpenSpec.upto replayJunkSpec)

/-- 'tidelinelaw16.ReplayFront', WHERE WHAT IT READS IS OF BULK AT MOST 1048576: true; the input reads as it did. -/
def replayFrontUptoRow : OpenClaim := { program := "ytdieogcemmnaaaagreatdoor", sum := "6010b0ef5c4fff21973977ce666eb2edf79a4f0d49154cc15dcef792c3ab74f3", func := "tideline/tidelinelaw16.ReplayFront", spec := "replayFront", inPlace := ["internal/bytealg.CountString", "internal/bytealg.IndexByteString", "internal/bytealg.IndexString", "internal/abi.NoEscape"], unfollowed := true, recurses := true, named := ["tideline/check.fours", "unicode/utf8.first", "unicode/utf8.acceptRanges", "internal/bytealg.MaxLen"], plainKeys := false, apart := false, laid := [("unicode/utf8.acceptRanges", laid_unicode_utf8_acceptRanges), ("tideline/check.fours", laid_tideline_check_fours), ("unicode/utf8.first", laid_unicode_utf8_first)], narrowed := true }
def ReplayFrontUptoSaid : Prop := replayFrontUptoRow.holds Tryz.pinned (OpenSpec.upto replayFrontSpec)

/-- 'tidelinelaw21.JudgeRight', WHERE WHAT IT READS IS OF BULK AT MOST 1048576: true; the input reads as it did. -/
def judgeRightUptoRow : OpenClaim := { program := "ytdieogcemmnaaaagreatdoor", sum := "6010b0ef5c4fff21973977ce666eb2edf79a4f0d49154cc15dcef792c3ab74f3", func := "tideline/tidelinelaw21.JudgeRight", spec := "judgeRight", inPlace := ["internal/bytealg.CountString", "internal/bytealg.IndexByteString", "internal/bytealg.IndexString", "internal/abi.NoEscape"], unfollowed := true, recurses := true, named := ["tideline/check.fours", "unicode/utf8.first", "unicode/utf8.acceptRanges", "internal/bytealg.MaxLen"], plainKeys := false, apart := false, laid := [("unicode/utf8.acceptRanges", laid_unicode_utf8_acceptRanges), ("tideline/check.fours", laid_tideline_check_fours), ("unicode/utf8.first", laid_unicode_utf8_first)], narrowed := true }
def JudgeRightUptoSaid : Prop := judgeRightUptoRow.holds Tryz.pinned (OpenSpec.upto judgeRightSpec)

/-- 'tidelinelaw21.JudgeTwice', WHERE WHAT IT READS IS OF BULK AT MOST 1048576: true; the input reads as it did. -/
def judgeTwiceUptoRow : OpenClaim := { program := "ytdieogcemmnaaaagreatdoor", sum := "6010b0ef5c4fff21973977ce666eb2edf79a4f0d49154cc15dcef792c3ab74f3", func := "tideline/tidelinelaw21.JudgeTwice", spec := "judgeTwice", inPlace := ["internal/bytealg.CountString", "internal/bytealg.IndexByteString", "internal/bytealg.IndexString", "internal/abi.NoEscape"], unfollowed := true, recurses := true, named := ["tideline/check.fours", "unicode/utf8.first", "unicode/utf8.acceptRanges", "internal/bytealg.MaxLen"], plainKeys := false, apart := false, laid := [("unicode/utf8.acceptRanges", laid_unicode_utf8_acceptRanges), ("tideline/check.fours", laid_tideline_check_fours), ("unicode/utf8.first", laid_unicode_utf8_first)], narrowed := true }
def JudgeTwiceUptoSaid : Prop := judgeTwiceUptoRow.holds Tryz.pinned (OpenSpec.upto judgeTwiceSpec)

/-- 'tidelinelaw21.JudgeCells', WHERE WHAT IT READS IS OF BULK AT MOST 1048576: true; the input reads as it did. -/
def judgeCellsUptoRow : OpenClaim := { program := "ytdieogcemmnaaaagreatdoor", sum := "6010b0ef5c4fff21973977ce666eb2edf79a4f0d49154cc15dcef792c3ab74f3", func := "tideline/tidelinelaw21.JudgeCells", spec := "judgeCells", inPlace := ["internal/bytealg.CountString", "internal/bytealg.IndexByteString", "internal/bytealg.IndexString", "internal/abi.NoEscape"], unfollowed := true, recurses := true, named := ["tideline/check.fours", "unicode/utf8.first", "unicode/utf8.acceptRanges", "internal/bytealg.MaxLen"], plainKeys := false, apart := false, laid := [("unicode/utf8.acceptRanges", laid_unicode_utf8_acceptRanges), ("tideline/check.fours", laid_tideline_check_fours), ("unicode/utf8.first", laid_unicode_utf8_first)], narrowed := true }
def JudgeCellsUptoSaid : Prop := judgeCellsUptoRow.holds Tryz.pinned (OpenSpec.upto judgeCellsSpec)

end Rows
end Go.Proofs.YtdieogcemmnaaaaGreatDoor
