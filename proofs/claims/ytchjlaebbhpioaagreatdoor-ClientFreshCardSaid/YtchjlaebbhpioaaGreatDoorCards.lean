/-
  DERIVED. GIVEN WITH THE SEED: THE CARDS: each row of YtchjlaebbhpioaaGreatDoorRows.lean that lists a variable, with what it lists TIED to the program's text (the seventh form; the later family's looks); each row that meets fmt, with fmt's text TOLD by the authors' own Lean function (tested against real Go, not proved from fmt's source: count such statements apart). THE CARD IS WHAT COUNTS. Prove the row's statement (the work); the ties are given (YtchjlaebbhpioaaGreatDoorTie.lean); close each card by the builder's one call (the guide's Derived/Test/ToyasCard.lean, 'card_holds'). Laid BY PROGRAM, IN A SANDBOX (cutbox-door.mjs). By AI agents, Wed Nov 11 2026. No macro, syntax, notation, axiom, sorry.
-/
import Derived.Test.YtchjlaebbhpioaaGreatDoorRows
import GoSem.ClaimSeven
namespace Go.Proofs.YtchjlaebbhpioaaGreatDoor
namespace Rows

/-- THE TIED CARD OF 'tidelinelaw19.ClientFresh'. -/
def clientFreshCard : Claim7 := { stood := { row := clientFreshRow, standIns := [], harness := (true, "15e7cc00319b65c5c4533e987aedae46b139da01b77ad96be9794ca63f60ff17"), looks := false }, kinds := [], alts := [], laidByText := true, laidKinds := [.data, .data, .pinned], laidTests := true, laidLooks := .later }
def ClientFreshCardSaid : Prop := Claim7.holds Tryz.pinned (.plain (OpenSpec.ofChange clientFreshSpec)) clientFreshCard

/-- THE SECOND FORM's CARD OF 'tidelinelaw19.ClientFresh'. -/
def clientFreshUptoCard : Claim7 := { stood := { row := clientFreshUptoRow, standIns := [], harness := (true, "15e7cc00319b65c5c4533e987aedae46b139da01b77ad96be9794ca63f60ff17"), looks := false }, kinds := [], alts := [], laidByText := true, laidKinds := [.data, .data, .pinned], laidTests := true, laidLooks := .later }
def ClientFreshUptoCardSaid : Prop := Claim7.holds Tryz.pinned (.plain (OpenSpec.upto clientFreshSpec)) clientFreshUptoCard
end Rows
end Go.Proofs.YtchjlaebbhpioaaGreatDoor
