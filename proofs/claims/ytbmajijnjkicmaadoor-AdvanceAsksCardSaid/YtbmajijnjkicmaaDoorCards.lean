/-
  DERIVED. GIVEN WITH THE SEED: THE CARDS: each row of YtbmajijnjkicmaaDoorRows.lean that lists a variable, with what it lists TIED to the program's text (the seventh form; the later family's looks); each row that meets fmt, with fmt's text TOLD by the authors' own Lean function (tested against real Go, not proved from fmt's source: count such statements apart). THE CARD IS WHAT COUNTS. Prove the row's statement (the work); the ties are given (YtbmajijnjkicmaaDoorTie.lean); close each card by the builder's one call (the guide's Derived/Test/ToyasCard.lean, 'card_holds'). Laid BY PROGRAM, IN A SANDBOX (cutbox-door.mjs). By AI agents, Wed Nov 11 2026. No macro, syntax, notation, axiom, sorry.
-/
import Derived.Test.YtbmajijnjkicmaaDoorRows
import GoSem.ClaimSeven
namespace Go.Proofs.YtbmajijnjkicmaaDoor
namespace Rows

/-- THE TIED CARD OF 'tidelinelaw18.AdvanceAsks'. -/
def advanceAsksCard : Claim7 := { stood := { row := advanceAsksRow, standIns := [], harness := (true, "0d706ef7b15b2775309601b16732b766a7fac2251e78ebc5ffa33372a1cd6f39"), looks := false }, kinds := [], alts := [], laidByText := true, laidKinds := [.data], laidTests := true, laidLooks := .later }
def AdvanceAsksCardSaid : Prop := Claim7.holds Tryd.pinned (.plain (OpenSpec.ofChange advanceAsksSpec)) advanceAsksCard

/-- THE SECOND FORM's CARD OF 'tidelinelaw18.AdvanceAsks'. -/
def advanceAsksUptoCard : Claim7 := { stood := { row := advanceAsksUptoRow, standIns := [], harness := (true, "0d706ef7b15b2775309601b16732b766a7fac2251e78ebc5ffa33372a1cd6f39"), looks := false }, kinds := [], alts := [], laidByText := true, laidKinds := [.data], laidTests := true, laidLooks := .later }
def AdvanceAsksUptoCardSaid : Prop := Claim7.holds Tryd.pinned (.plain (OpenSpec.upto advanceAsksSpec)) advanceAsksUptoCard
end Rows
end Go.Proofs.YtbmajijnjkicmaaDoor
