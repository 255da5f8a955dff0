/-
  DERIVED. GIVEN WITH THE SEED: THE CARDS: each row of YtcpjdfihpdjkbaaGreatDoorRows.lean that lists a variable, with what it lists TIED to the program's text (the seventh form; the later family's looks); each row that meets fmt, with fmt's text TOLD by the authors' own Lean function (tested against real Go, not proved from fmt's source: count such statements apart). THE CARD IS WHAT COUNTS. Prove the row's statement (the work); the ties are given (YtcpjdfihpdjkbaaGreatDoorTie.lean); close each card by the builder's one call (the guide's Derived/Test/ToyasCard.lean, 'card_holds'). Laid BY PROGRAM, IN A SANDBOX (cutbox-door.mjs). By AI agents, Wed Nov 11 2026. No macro, syntax, notation, axiom, sorry.
-/
import Derived.Test.YtcpjdfihpdjkbaaGreatDoorRows
import GoSem.ClaimSeven
namespace Go.Proofs.YtcpjdfihpdjkbaaGreatDoor
namespace Rows

/-- THE TIED CARD OF 'tidelinelaw22.TaleLines'. -/
def taleLinesCard : Claim7 := { stood := { row := taleLinesRow, standIns := [], harness := (true, "fe9bd5fa49e067e5790242f40b61bd63a518951ffc3b83f433a670c2d9137b62"), looks := true }, kinds := [], alts := [], laidByText := true, laidKinds := [.data, .data, .data, .data, .sentinel, .sentinel, .pinned], laidTests := true, laidLooks := .later }
def TaleLinesCardSaid : Prop := Claim7.holds Tryz.pinned (.plain (OpenSpec.ofChange taleLinesSpec)) taleLinesCard

/-- THE SECOND FORM's CARD OF 'tidelinelaw22.TaleLines'. -/
def taleLinesUptoCard : Claim7 := { stood := { row := taleLinesUptoRow, standIns := [], harness := (true, "fe9bd5fa49e067e5790242f40b61bd63a518951ffc3b83f433a670c2d9137b62"), looks := true }, kinds := [], alts := [], laidByText := true, laidKinds := [.data, .data, .data, .data, .sentinel, .sentinel, .pinned], laidTests := true, laidLooks := .later }
def TaleLinesUptoCardSaid : Prop := Claim7.holds Tryz.pinned (.plain (OpenSpec.upto taleLinesSpec)) taleLinesUptoCard
end Rows
end Go.Proofs.YtcpjdfihpdjkbaaGreatDoor
