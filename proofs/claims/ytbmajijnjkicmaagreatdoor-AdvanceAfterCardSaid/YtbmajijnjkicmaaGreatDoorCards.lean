/-
  DERIVED. GIVEN WITH THE SEED: THE CARDS: each row of YtbmajijnjkicmaaGreatDoorRows.lean that lists a variable, with what it lists TIED to the program's text (the seventh form; the later family's looks); each row that meets fmt, with fmt's text TOLD by the authors' own Lean function (tested against real Go, not proved from fmt's source: count such statements apart). THE CARD IS WHAT COUNTS. Prove the row's statement (the work); the ties are given (YtbmajijnjkicmaaGreatDoorTie.lean); close each card by the builder's one call (the guide's Derived/Test/ToyasCard.lean, 'card_holds'). Laid BY PROGRAM, IN A SANDBOX (cutbox-door.mjs). By AI agents, Wed Nov 11 2026. No macro, syntax, notation, axiom, sorry.
-/
import Derived.Test.YtbmajijnjkicmaaGreatDoorRows
import GoSem.ClaimSeven
namespace Go.Proofs.YtbmajijnjkicmaaGreatDoor
namespace Rows

/-- THE TIED CARD OF 'tidelinelaw18.AdvanceAfter'. -/
def advanceAfterCard : Claim7 := { stood := { row := advanceAfterRow, standIns := [], harness := (true, "c12717b98d646773ea4e6c7f4ce5582129841c05dc75c3a7c94a600539dbb417"), looks := false }, kinds := [], alts := [], laidByText := true, laidKinds := [.data], laidTests := true, laidLooks := .later }
def AdvanceAfterCardSaid : Prop := Claim7.holds Tryz.pinned (.plain (OpenSpec.ofChange advanceAfterSpec)) advanceAfterCard

/-- THE TIED CARD OF 'tidelinelaw18.AdvanceOne'. -/
def advanceOneCard : Claim7 := { stood := { row := advanceOneRow, standIns := [], harness := (true, "c12717b98d646773ea4e6c7f4ce5582129841c05dc75c3a7c94a600539dbb417"), looks := false }, kinds := [], alts := [], laidByText := true, laidKinds := [.data], laidTests := true, laidLooks := .later }
def AdvanceOneCardSaid : Prop := Claim7.holds Tryz.pinned (.plain (OpenSpec.ofChange advanceOneSpec)) advanceOneCard

/-- THE TIED CARD OF 'tidelinelaw18.AdvanceEnds'. -/
def advanceEndsCard : Claim7 := { stood := { row := advanceEndsRow, standIns := [], harness := (true, "c12717b98d646773ea4e6c7f4ce5582129841c05dc75c3a7c94a600539dbb417"), looks := false }, kinds := [], alts := [], laidByText := true, laidKinds := [.data], laidTests := true, laidLooks := .later }
def AdvanceEndsCardSaid : Prop := Claim7.holds Tryz.pinned (.plain (OpenSpec.ofChange advanceEndsSpec)) advanceEndsCard

/-- THE SECOND FORM's CARD OF 'tidelinelaw18.AdvanceAfter'. -/
def advanceAfterUptoCard : Claim7 := { stood := { row := advanceAfterUptoRow, standIns := [], harness := (true, "c12717b98d646773ea4e6c7f4ce5582129841c05dc75c3a7c94a600539dbb417"), looks := false }, kinds := [], alts := [], laidByText := true, laidKinds := [.data], laidTests := true, laidLooks := .later }
def AdvanceAfterUptoCardSaid : Prop := Claim7.holds Tryz.pinned (.plain (OpenSpec.upto advanceAfterSpec)) advanceAfterUptoCard

/-- THE SECOND FORM's CARD OF 'tidelinelaw18.AdvanceOne'. -/
def advanceOneUptoCard : Claim7 := { stood := { row := advanceOneUptoRow, standIns := [], harness := (true, "c12717b98d646773ea4e6c7f4ce5582129841c05dc75c3a7c94a600539dbb417"), looks := false }, kinds := [], alts := [], laidByText := true, laidKinds := [.data], laidTests := true, laidLooks := .later }
def AdvanceOneUptoCardSaid : Prop := Claim7.holds Tryz.pinned (.plain (OpenSpec.upto advanceOneSpec)) advanceOneUptoCard

/-- THE SECOND FORM's CARD OF 'tidelinelaw18.AdvanceEnds'. -/
def advanceEndsUptoCard : Claim7 := { stood := { row := advanceEndsUptoRow, standIns := [], harness := (true, "c12717b98d646773ea4e6c7f4ce5582129841c05dc75c3a7c94a600539dbb417"), looks := false }, kinds := [], alts := [], laidByText := true, laidKinds := [.data], laidTests := true, laidLooks := .later }
def AdvanceEndsUptoCardSaid : Prop := Claim7.holds Tryz.pinned (.plain (OpenSpec.upto advanceEndsSpec)) advanceEndsUptoCard
end Rows
end Go.Proofs.YtbmajijnjkicmaaGreatDoor
