/-
  DERIVED. GIVEN WITH THE SEED: THE CARDS: each row of YtbkifafpjnjaiaaGreatDoorRows.lean that lists a variable, with what it lists TIED to the program's text (the seventh form; the later family's looks); each row that meets fmt, with fmt's text TOLD by the authors' own Lean function (tested against real Go, not proved from fmt's source: count such statements apart). THE CARD IS WHAT COUNTS. Prove the row's statement (the work); the ties are given (YtbkifafpjnjaiaaGreatDoorTie.lean); close each card by the builder's one call (the guide's Derived/Test/ToyasCard.lean, 'card_holds'). Laid BY PROGRAM, IN A SANDBOX (cutbox-door.mjs). By AI agents, Wed Nov 11 2026. No macro, syntax, notation, axiom, sorry.
-/
import Derived.Test.YtbkifafpjnjaiaaGreatDoorRows
import GoSem.ClaimSeven
namespace Go.Proofs.YtbkifafpjnjaiaaGreatDoor
namespace Rows

/-- THE TIED CARD OF 'tidelinelaw20.WorldNew'. -/
def worldNewCard : Claim7 := { stood := { row := worldNewRow, standIns := [], harness := (true, "f2f68ad20edde2f352bb5fc6726a0a76752d4e4aeb12812394f2b5ff8bc5f209"), looks := false }, kinds := [], alts := [], laidByText := true, laidKinds := [.data, .data, .pinned], laidTests := true, laidLooks := .later }
def WorldNewCardSaid : Prop := Claim7.holds Tryz.pinned (.plain (OpenSpec.ofChange worldNewSpec)) worldNewCard

/-- THE SECOND FORM's CARD OF 'tidelinelaw20.WorldNew'. -/
def worldNewUptoCard : Claim7 := { stood := { row := worldNewUptoRow, standIns := [], harness := (true, "f2f68ad20edde2f352bb5fc6726a0a76752d4e4aeb12812394f2b5ff8bc5f209"), looks := false }, kinds := [], alts := [], laidByText := true, laidKinds := [.data, .data, .pinned], laidTests := true, laidLooks := .later }
def WorldNewUptoCardSaid : Prop := Claim7.holds Tryz.pinned (.plain (OpenSpec.upto worldNewSpec)) worldNewUptoCard
end Rows
end Go.Proofs.YtbkifafpjnjaiaaGreatDoor
