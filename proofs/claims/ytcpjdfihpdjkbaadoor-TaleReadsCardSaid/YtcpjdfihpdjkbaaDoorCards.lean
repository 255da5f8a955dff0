/-
  DERIVED. GIVEN WITH THE SEED: THE CARDS: each row of YtcpjdfihpdjkbaaDoorRows.lean that lists a variable, with what it lists TIED to the program's text (the seventh form; the later family's looks); each row that meets fmt, with fmt's text TOLD by the authors' own Lean function (tested against real Go, not proved from fmt's source: count such statements apart). THE CARD IS WHAT COUNTS. Prove the row's statement (the work); the ties are given (YtcpjdfihpdjkbaaDoorTie.lean); close each card by the builder's one call (the guide's Derived/Test/ToyasCard.lean, 'card_holds'). Laid BY PROGRAM, IN A SANDBOX (cutbox-door.mjs). By AI agents, Wed Nov 11 2026. No macro, syntax, notation, axiom, sorry.
-/
import Derived.Test.YtcpjdfihpdjkbaaDoorRows
import GoSem.ClaimSeven
namespace Go.Proofs.YtcpjdfihpdjkbaaDoor
namespace Rows

/-- THE TIED CARD OF 'tidelinelaw22.TaleOne'. -/
def taleOneCard : Claim7 := { stood := { row := taleOneRow, standIns := [], harness := (true, "99f7cb0fbd0033f1f9c537c494e1172a92cb9fb7024c6f2c10f37324df54ac75"), looks := true }, kinds := [], alts := [], laidByText := true, laidKinds := [.data, .data, .data, .sentinel, .sentinel], laidTests := true, laidLooks := .later }
def TaleOneCardSaid : Prop := Claim7.holds Tryd.pinned (.plain (OpenSpec.ofChange taleOneSpec)) taleOneCard

/-- THE TIED CARD OF 'tidelinelaw22.TaleReads'. -/
def taleReadsCard : Claim7 := { stood := { row := taleReadsRow, standIns := [], harness := (true, "99f7cb0fbd0033f1f9c537c494e1172a92cb9fb7024c6f2c10f37324df54ac75"), looks := true }, kinds := [], alts := [], laidByText := true, laidKinds := [.data, .data, .data, .data, .sentinel, .sentinel, .pinned], laidTests := true, laidLooks := .later }
def TaleReadsCardSaid : Prop := Claim7.holds Tryd.pinned (.plain (OpenSpec.ofChange taleReadsSpec)) taleReadsCard

/-- THE SECOND FORM's CARD OF 'tidelinelaw22.TaleOne'. -/
def taleOneUptoCard : Claim7 := { stood := { row := taleOneUptoRow, standIns := [], harness := (true, "99f7cb0fbd0033f1f9c537c494e1172a92cb9fb7024c6f2c10f37324df54ac75"), looks := true }, kinds := [], alts := [], laidByText := true, laidKinds := [.data, .data, .data, .sentinel, .sentinel], laidTests := true, laidLooks := .later }
def TaleOneUptoCardSaid : Prop := Claim7.holds Tryd.pinned (.plain (OpenSpec.upto taleOneSpec)) taleOneUptoCard

/-- THE SECOND FORM's CARD OF 'tidelinelaw22.TaleReads'. -/
def taleReadsUptoCard : Claim7 := { stood := { row := taleReadsUptoRow, standIns := [], harness := (true, "99f7cb0fbd0033f1f9c537c494e1172a92cb9fb7024c6f2c10f37324df54ac75"), looks := true }, kinds := [], alts := [], laidByText := true, laidKinds := [.data, .data, .data, .data, .sentinel, .sentinel, .pinned], laidTests := true, laidLooks := .later }
def TaleReadsUptoCardSaid : Prop := Claim7.holds Tryd.pinned (.plain (OpenSpec.upto taleReadsSpec)) taleReadsUptoCard
end Rows
end Go.Proofs.YtcpjdfihpdjkbaaDoor
