/-
  DERIVED. GIVEN WITH THE SEED: THE CARDS: each row of YtdieogcemmnaaaaGreatDoorRows.lean that lists a variable, with what it lists TIED to the program's text (the seventh form; the later family's looks); each row that meets fmt, with fmt's text TOLD by the authors' own Lean function (tested against real Go, not proved from fmt's source: count such statements apart). THE CARD IS WHAT COUNTS. Prove the row's statement (the work); the ties are given (YtdieogcemmnaaaaGreatDoorTie.lean); close each card by the builder's one call (the guide's Derived/Test/ToyasCard.lean, 'card_holds'). Laid BY PROGRAM, IN A SANDBOX (cutbox-door.mjs). By AI agents, Wed Nov 11 2026. No macro, syntax, notation, axiom, sorry.
-/
import Derived.Test.YtdieogcemmnaaaaGreatDoorRows
import GoSem.ClaimSeven
namespace Go.Proofs.YtdieogcemmnaaaaGreatDoor
namespace Rows

/-- THE TIED CARD OF 'tidelinelaw04.TreeBytes'. -/
def treeBytesCard : Claim7 := { stood := { row := treeBytesRow, standIns := [], harness := (true, "3a2adec9a5a7ff0c3eecfdd4003e151ebc8f5ef925f99eb22709f21c9b91bfcd"), looks := false }, kinds := [], alts := [], laidByText := true, laidKinds := [.data, .pinned], laidTests := true, laidLooks := .later }
def TreeBytesCardSaid : Prop := Claim7.holds Tryz.pinned (.plain (OpenSpec.ofChange treeBytesSpec)) treeBytesCard

/-- THE TIED CARD OF 'tidelinelaw04.TreeRenames'. -/
def treeRenamesCard : Claim7 := { stood := { row := treeRenamesRow, standIns := [], harness := (true, "3a2adec9a5a7ff0c3eecfdd4003e151ebc8f5ef925f99eb22709f21c9b91bfcd"), looks := false }, kinds := [], alts := [], laidByText := true, laidKinds := [.data, .pinned], laidTests := true, laidLooks := .later }
def TreeRenamesCardSaid : Prop := Claim7.holds Tryz.pinned (.plain (OpenSpec.ofChange treeRenamesSpec)) treeRenamesCard

/-- THE TIED CARD OF 'tidelinelaw04.TreeCounts'. -/
def treeCountsCard : Claim7 := { stood := { row := treeCountsRow, standIns := [], harness := (true, "3a2adec9a5a7ff0c3eecfdd4003e151ebc8f5ef925f99eb22709f21c9b91bfcd"), looks := false }, kinds := [], alts := [], laidByText := true, laidKinds := [.data, .pinned], laidTests := true, laidLooks := .later }
def TreeCountsCardSaid : Prop := Claim7.holds Tryz.pinned (.plain (OpenSpec.ofChange treeCountsSpec)) treeCountsCard

/-- THE TIED CARD OF 'tidelinelaw04.TreeCalls'. -/
def treeCallsCard : Claim7 := { stood := { row := treeCallsRow, standIns := [], harness := (true, "3a2adec9a5a7ff0c3eecfdd4003e151ebc8f5ef925f99eb22709f21c9b91bfcd"), looks := false }, kinds := [], alts := [], laidByText := true, laidKinds := [.data, .pinned], laidTests := true, laidLooks := .later }
def TreeCallsCardSaid : Prop := Claim7.holds Tryz.pinned (.plain (OpenSpec.ofChange treeCallsSpec)) treeCallsCard

/-- THE TIED CARD OF 'tidelinelaw04.TreeErrors'. -/
def treeErrorsCard : Claim7 := { stood := { row := treeErrorsRow, standIns := [], harness := (true, "3a2adec9a5a7ff0c3eecfdd4003e151ebc8f5ef925f99eb22709f21c9b91bfcd"), looks := false }, kinds := [], alts := [], laidByText := true, laidKinds := [.data, .pinned], laidTests := true, laidLooks := .later }
def TreeErrorsCardSaid : Prop := Claim7.holds Tryz.pinned (.plain (OpenSpec.ofChange treeErrorsSpec)) treeErrorsCard

/-- THE TIED CARD OF 'tidelinelaw06.SnapTurned'. -/
def snapTurnedCard : Claim7 := { stood := { row := snapTurnedRow, standIns := [], harness := (true, "3a2adec9a5a7ff0c3eecfdd4003e151ebc8f5ef925f99eb22709f21c9b91bfcd"), looks := false }, kinds := [], alts := [], laidByText := true, laidKinds := [.data, .data, .pinned], laidTests := true, laidLooks := .later }
def SnapTurnedCardSaid : Prop := Claim7.holds Tryz.pinned (.plain (OpenSpec.ofChange snapTurnedSpec)) snapTurnedCard

/-- THE TIED CARD OF 'tidelinelaw06.SnapSame'. -/
def snapSameCard : Claim7 := { stood := { row := snapSameRow, standIns := [], harness := (true, "3a2adec9a5a7ff0c3eecfdd4003e151ebc8f5ef925f99eb22709f21c9b91bfcd"), looks := false }, kinds := [], alts := [], laidByText := true, laidKinds := [.data, .data, .pinned], laidTests := true, laidLooks := .later }
def SnapSameCardSaid : Prop := Claim7.holds Tryz.pinned (.plain (OpenSpec.ofChange snapSameSpec)) snapSameCard

/-- THE TIED CARD OF 'tidelinelaw16.ReplayJunk'. -/
def replayJunkCard : Claim7 := { stood := { row := replayJunkRow, standIns := [], harness := (true, "3a2adec9a5a7ff0c3eecfdd4003e151ebc8f5ef925f99eb22709f21c9b91bfcd"), looks := false }, kinds := [], alts := [], laidByText := true, laidKinds := [.data, .data, .pinned], laidTests := true, laidLooks := .later }
def ReplayJunkCardSaid : Prop := Claim7.holds Tryz.pinned (.plain (OpenSpec.ofChange replayJunkSpec)) replayJunkCard

/-- THE TIED CARD OF 'tidelinelaw16.ReplayFront'. -/
def replayFrontCard : Claim7 := { stood := { row := replayFrontRow, standIns := [], harness := (true, "3a2adec9a5a7ff0c3eecfdd4003e151ebc8f5ef925f99eb22709f21c9b91bfcd"), looks := false }, kinds := [], alts := [], laidByText := true, laidKinds := [.data, .data, .pinned], laidTests := true, laidLooks := .later }
def ReplayFrontCardSaid : Prop := Claim7.holds Tryz.pinned (.plain (OpenSpec.ofChange replayFrontSpec)) replayFrontCard

/-- THE TIED CARD OF 'tidelinelaw21.JudgeRight'. -/
def judgeRightCard : Claim7 := { stood := { row := judgeRightRow, standIns := [], harness := (true, "3a2adec9a5a7ff0c3eecfdd4003e151ebc8f5ef925f99eb22709f21c9b91bfcd"), looks := false }, kinds := [], alts := [], laidByText := true, laidKinds := [.data, .data, .pinned], laidTests := true, laidLooks := .later }
def JudgeRightCardSaid : Prop := Claim7.holds Tryz.pinned (.plain (OpenSpec.ofChange judgeRightSpec)) judgeRightCard

/-- THE TIED CARD OF 'tidelinelaw21.JudgeTwice'. -/
def judgeTwiceCard : Claim7 := { stood := { row := judgeTwiceRow, standIns := [], harness := (true, "3a2adec9a5a7ff0c3eecfdd4003e151ebc8f5ef925f99eb22709f21c9b91bfcd"), looks := false }, kinds := [], alts := [], laidByText := true, laidKinds := [.data, .data, .pinned], laidTests := true, laidLooks := .later }
def JudgeTwiceCardSaid : Prop := Claim7.holds Tryz.pinned (.plain (OpenSpec.ofChange judgeTwiceSpec)) judgeTwiceCard

/-- THE TIED CARD OF 'tidelinelaw21.JudgeCells'. -/
def judgeCellsCard : Claim7 := { stood := { row := judgeCellsRow, standIns := [], harness := (true, "3a2adec9a5a7ff0c3eecfdd4003e151ebc8f5ef925f99eb22709f21c9b91bfcd"), looks := false }, kinds := [], alts := [], laidByText := true, laidKinds := [.data, .data, .pinned], laidTests := true, laidLooks := .later }
def JudgeCellsCardSaid : Prop := Claim7.holds Tryz.pinned (.plain (OpenSpec.ofChange judgeCellsSpec)) judgeCellsCard

/-- THE SECOND FORM's CARD OF 'tidelinelaw04.TreeBytes'. -/
def treeBytesUptoCard : Claim7 := { stood := { row := treeBytesUptoRow, standIns := [], harness := (true, "3a2adec9a5a7ff0c3eecfdd4003e151ebc8f5ef925f99eb22709f21c9b91bfcd"), looks := false }, kinds := [], alts := [], laidByText := true, laidKinds := [.data, .pinned], laidTests := true, laidLooks := .later }
def TreeBytesUptoCardSaid : Prop := Claim7.holds Tryz.pinned (.plain (OpenSpec.upto treeBytesSpec)) treeBytesUptoCard

/-- THE SECOND FORM's CARD OF 'tidelinelaw04.TreeRenames'. -/
def treeRenamesUptoCard : Claim7 := { stood := { row := treeRenamesUptoRow, standIns := [], harness := (true, "3a2adec9a5a7ff0c3eecfdd4003e151ebc8f5ef925f99eb22709f21c9b91bfcd"), looks := false }, kinds := [], alts := [], laidByText := true, laidKinds := [.data, .pinned], laidTests := true, laidLooks := .later }
def TreeRenamesUptoCardSaid : Prop := Claim7.holds Tryz.pinned (.plain (OpenSpec.upto treeRenamesSpec)) treeRenamesUptoCard

/-- THE SECOND FORM's CARD OF 'tidelinelaw04.TreeCounts'. -/
def treeCountsUptoCard : Claim7 := { stood := { row := treeCountsUptoRow, standIns := [], harness := (true, "3a2adec9a5a7ff0c3eecfdd4003e151ebc8f5ef925f99eb22709f21c9b91bfcd"), looks := false }, kinds := [], alts := [], laidByText := true, laidKinds := [.data, .pinned], laidTests := true, laidLooks := .later }
def TreeCountsUptoCardSaid : Prop := Claim7.holds Tryz.pinned (.plain (OpenSpec.upto treeCountsSpec)) treeCountsUptoCard

/-- THE SECOND FORM's CARD OF 'tidelinelaw04.TreeCalls'. -/
def treeCallsUptoCard : Claim7 := { stood := { row := treeCallsUptoRow, standIns := [], harness := (true, "3a2adec9a5a7ff0c3eecfdd4003e151ebc8f5ef925f99eb22709f21c9b91bfcd"), looks := false }, kinds := [], alts := [], laidByText := true, laidKinds := [.data, .pinned], laidTests := true, laidLooks := .later }
def TreeCallsUptoCardSaid : Prop := Claim7.holds Tryz.pinned (.plain (OpenSpec.upto treeCallsSpec)) treeCallsUptoCard

/-- THE SECOND FORM's CARD OF 'tidelinelaw04.TreeErrors'. -/
def treeErrorsUptoCard : Claim7 := { stood := { row := treeErrorsUptoRow, standIns := [], harness := (true, "3a2adec9a5a7ff0c3eecfdd4003e151ebc8f5ef925f99eb22709f21c9b91bfcd"), looks := false }, kinds := [], alts := [], laidByText := true, laidKinds := [.data, .pinned], laidTests := true, laidLooks := .later }
def TreeErrorsUptoCardSaid : Prop := Claim7.holds Tryz.pinned (.plain (OpenSpec.upto treeErrorsSpec)) treeErrorsUptoCard

/-- THE SECOND FORM's CARD OF 'tidelinelaw06.SnapTurned'. -/
def snapTurnedUptoCard : Claim7 := { stood := { row := snapTurnedUptoRow, standIns := [], harness := (true, "3a2adec9a5a7ff0c3eecfdd4003e151ebc8f5ef925f99eb22709f21c9b91bfcd"), looks := false }, kinds := [], alts := [], laidByText := true, laidKinds := [.data, .data, .pinned], laidTests := true, laidLooks := .later }
def SnapTurnedUptoCardSaid : Prop := Claim7.holds Tryz.pinned (.plain (OpenSpec.upto snapTurnedSpec)) snapTurnedUptoCard

/-- THE SECOND FORM's CARD OF 'tidelinelaw06.SnapSame'. -/
def snapSameUptoCard : Claim7 := { stood := { row := snapSameUptoRow, standIns := [], harness := (true, "3a2adec9a5a7ff0c3eecfdd4003e151ebc8f5ef925f99eb22709f21c9b91bfcd"), looks := false }, kinds := [], alts := [], laidByText := true, laidKinds := [.data, .data, .pinned], laidTests := true, laidLooks := .later }
def SnapSameUptoCardSaid : Prop := Claim7.holds Tryz.pinned (.plain (OpenSpec.upto snapSameSpec)) snapSameUptoCard

/-- THE SECOND FORM's CARD OF 'tidelinelaw16.ReplayJunk'. -/
def replayJunkUptoCard : Claim7 := { stood := { row := replayJunkUptoRow, standIns := [], harness := (true, "3a2adec9a5a7ff0c3eecfdd4003e151ebc8f5ef925f99eb22709f21c9b91bfcd"), looks := false }, kinds := [], alts := [], laidByText := true, laidKinds := [.data, .data, .pinned], laidTests := true, laidLooks := .later }
def ReplayJunkUptoCardSaid : Prop := Claim7.holds Tryz.pinned (.plain (OpenSpec.upto replayJunkSpec)) replayJunkUptoCard

/-- THE SECOND FORM's CARD OF 'tidelinelaw16.ReplayFront'. -/
def replayFrontUptoCard : Claim7 := { stood := { row := replayFrontUptoRow, standIns := [], harness := (true, "3a2adec9a5a7ff0c3eecfdd4003e151ebc8f5ef925f99eb22709f21c9b91bfcd"), looks := false }, kinds := [], alts := [], laidByText := true, laidKinds := [.data, .data, .pinned], laidTests := true, laidLooks := .later }
def ReplayFrontUptoCardSaid : Prop := Claim7.holds Tryz.pinned (.plain (OpenSpec.upto replayFrontSpec)) replayFrontUptoCard

/-- THE SECOND FORM's CARD OF 'tidelinelaw21.JudgeRight'. -/
def judgeRightUptoCard : Claim7 := { stood := { row := judgeRightUptoRow, standIns := [], harness := (true, "3a2adec9a5a7ff0c3eecfdd4003e151ebc8f5ef925f99eb22709f21c9b91bfcd"), looks := false }, kinds := [], alts := [], laidByText := true, laidKinds := [.data, .data, .pinned], laidTests := true, laidLooks := .later }
def JudgeRightUptoCardSaid : Prop := Claim7.holds Tryz.pinned (.plain (OpenSpec.upto judgeRightSpec)) judgeRightUptoCard

/-- THE SECOND FORM's CARD OF 'tidelinelaw21.JudgeTwice'. -/
def judgeTwiceUptoCard : Claim7 := { stood := { row := judgeTwiceUptoRow, standIns := [], harness := (true, "3a2adec9a5a7ff0c3eecfdd4003e151ebc8f5ef925f99eb22709f21c9b91bfcd"), looks := false }, kinds := [], alts := [], laidByText := true, laidKinds := [.data, .data, .pinned], laidTests := true, laidLooks := .later }
def JudgeTwiceUptoCardSaid : Prop := Claim7.holds Tryz.pinned (.plain (OpenSpec.upto judgeTwiceSpec)) judgeTwiceUptoCard

/-- THE SECOND FORM's CARD OF 'tidelinelaw21.JudgeCells'. -/
def judgeCellsUptoCard : Claim7 := { stood := { row := judgeCellsUptoRow, standIns := [], harness := (true, "3a2adec9a5a7ff0c3eecfdd4003e151ebc8f5ef925f99eb22709f21c9b91bfcd"), looks := false }, kinds := [], alts := [], laidByText := true, laidKinds := [.data, .data, .pinned], laidTests := true, laidLooks := .later }
def JudgeCellsUptoCardSaid : Prop := Claim7.holds Tryz.pinned (.plain (OpenSpec.upto judgeCellsSpec)) judgeCellsUptoCard
end Rows
end Go.Proofs.YtdieogcemmnaaaaGreatDoor
