/-
  No cell of these rows narrows 'for every input' (looked for: loops, veiled, ifaces, maps, wideKeys, modest, calm, conditions, laid).
  DERIVED. THE GIVEN ROWS OF THIS SEAT. 4 by the template 'for every input the law returns true; each argument reads behind the call as it read before'; 0 by the template 'total and deterministic' (their statements: YtlkfejnjdlebbaaTotals.lean).
  GIVEN WITH THE SEED: the statements are not yours to turn. If you find one false, say at which input.
  Laid BY PROGRAM, IN A SANDBOX (cutbox-rows.mjs): the forced cells as the released guide's own fill.sh prints them over the translation 2665e7e67dc3e183… (all of the seat's roots in one cut). By AI agents, Wed Nov 11 2026. No macro, syntax, notation, axiom, sorry.
-/
import Derived.Test.YtlkfejnjdlebbaaChecked
import GoSem.Claim
import GoSem.ClaimJoined
import GoSem.ClaimMapViews
import Derived.JoinedTies
import Derived.KernelRfl
namespace Go.Proofs.Ytlkfejnjdlebbaa
/- THE CELL 'sum', in the pinned program and in every row, IS THE sha256 OF THE DUMP (.gsa) THAT YtlkfejnjdlebbaaProg.lean LOADS. Nothing in Lean hashes anything: it is a label: what it is worth is what the hold of that sum in a sandbox is worth. -/
noncomputable def Try.pinned : Pinned := { name := "ytlkfejnjdlebbaa", sum := "2665e7e67dc3e1835b103decda1aa62c94cac18b96073bcbc36bbf2d473c022e", checked := Try.checked }
namespace Rows
def none {H : Type} : Left H := { results := [], args := [] }

/-- 'tidelinelaw15.TokensOnce': WHATEVER THE INPUT: true; the input reads as it did. -/
def tokensOnceSpec : ChangeSpec := { name := "tokensOnce", fn := fun _ => fun
  | [d1, d2, d3] => { results := [.lit (.bool true)], args := [d1, d2, d3] }
  | _ => none }
def tokensOnceRow : OpenClaim := { program := "ytlkfejnjdlebbaa", sum := "2665e7e67dc3e1835b103decda1aa62c94cac18b96073bcbc36bbf2d473c022e", func := "tideline/tidelinelaw15.TokensOnce", spec := "tokensOnce", unfollowed := true, recurses := true, plainKeys := false, apart := false }
def TokensOnceSaid : Prop := tokensOnceRow.holds Try.pinned (OpenSpec.ofChange tokensOnceSpec)

/-- ITS FALSE NEIGHBOUR: 'it returns false'. Refute it at one input. -/
def tokensOnceWrong : ChangeSpec := { name := "tokensOnce", fn := fun _ => fun
  | [d1, d2, d3] => { results := [.lit (.bool false)], args := [d1, d2, d3] }
  | _ => none }
def TokensOnceWrongFalsely : Prop := tokensOnceRow.holds Try.pinned (OpenSpec.ofChange tokensOnceWrong)

/-- 'tidelinelaw15.TokensStale': WHATEVER THE INPUT: true; the input reads as it did. -/
def tokensStaleSpec : ChangeSpec := { name := "tokensStale", fn := fun _ => fun
  | [d] => { results := [.lit (.bool true)], args := [d] }
  | _ => none }
def tokensStaleRow : OpenClaim := { program := "ytlkfejnjdlebbaa", sum := "2665e7e67dc3e1835b103decda1aa62c94cac18b96073bcbc36bbf2d473c022e", func := "tideline/tidelinelaw15.TokensStale", spec := "tokensStale", unfollowed := true, recurses := true, plainKeys := false, apart := false }
def TokensStaleSaid : Prop := tokensStaleRow.holds Try.pinned (OpenSpec.ofChange tokensStaleSpec)

/-- ITS FALSE NEIGHBOUR: 'it returns false'. Refute it at one input. -/
def tokensStaleWrong : ChangeSpec := { name := "tokensStale", fn := fun _ => fun
  | [d] => { results := [.lit (.bool false)], args := [d] }
  | _ => none }
def TokensStaleWrongFalsely : Prop := tokensStaleRow.holds Try.pinned (OpenSpec.ofChange tokensStaleWrong)

/-- 'tidelinelaw10.BallotMany': WHATEVER THE INPUT: true; the input reads as it did. -/
def ballotManySpec : ChangeSpec := { name := "ballotMany", fn := fun _ => fun
  | [d1, d2, d3] => { results := [.lit (.bool true)], args := [d1, d2, d3] }
  | _ => none }
def ballotManyRow : OpenClaim := { program := "ytlkfejnjdlebbaa", sum := "2665e7e67dc3e1835b103decda1aa62c94cac18b96073bcbc36bbf2d473c022e", func := "tideline/tidelinelaw10.BallotMany", spec := "ballotMany", plainKeys := false, apart := false }
def BallotManySaid : Prop := ballotManyRow.holds Try.pinned (OpenSpec.ofChange ballotManySpec)

/-- ITS FALSE NEIGHBOUR: 'it returns false'. Refute it at one input. -/
def ballotManyWrong : ChangeSpec := { name := "ballotMany", fn := fun _ => fun
  | [d1, d2, d3] => { results := [.lit (.bool false)], args := [d1, d2, d3] }
  | _ => none }
def BallotManyWrongFalsely : Prop := ballotManyRow.holds Try.pinned (OpenSpec.ofChange ballotManyWrong)

/-- 'tidelinelaw10.BallotLate': WHATEVER THE INPUT: true; the input reads as it did. -/
def ballotLateSpec : ChangeSpec := { name := "ballotLate", fn := fun _ => fun
  | [d1, d2, d3] => { results := [.lit (.bool true)], args := [d1, d2, d3] }
  | _ => none }
def ballotLateRow : OpenClaim := { program := "ytlkfejnjdlebbaa", sum := "2665e7e67dc3e1835b103decda1aa62c94cac18b96073bcbc36bbf2d473c022e", func := "tideline/tidelinelaw10.BallotLate", spec := "ballotLate", plainKeys := false, apart := false }
def BallotLateSaid : Prop := ballotLateRow.holds Try.pinned (OpenSpec.ofChange ballotLateSpec)

/-- ITS FALSE NEIGHBOUR: 'it returns false'. Refute it at one input. -/
def ballotLateWrong : ChangeSpec := { name := "ballotLate", fn := fun _ => fun
  | [d1, d2, d3] => { results := [.lit (.bool false)], args := [d1, d2, d3] }
  | _ => none }
def BallotLateWrongFalsely : Prop := ballotLateRow.holds Try.pinned (OpenSpec.ofChange ballotLateWrong)

/- THE SECOND FORM. 'bulk': how many values and letters a reading holds, each counted each time it is reached (what is shared counts as often as it is met; a slice's spare places count too). A statement '..UptoSaid' is the law's where the arguments, and the package variables that the reading takes, are together of bulk at most 1048576: NARROWER than '..Said'. Prove '..Said' where nothing that the law and all that it calls make is longer than what came in: it says more and counts as full. Else prove '..UptoSaid'. A law counts once. -/
mutual
def uptoBulk {H : Type} : DataW H → Nat
  | .lit (.string bytes) => bytes.length + 1
  | .lit _ => 1
  | .nil => 1
  | .ptr d => uptoBulk d + 1
  | .slice elems spare => uptoBulkAll elems + uptoBulkAll spare + 1
  | .agg parts => uptoBulkAll parts + 1
  | .iface _ d => uptoBulk d + 1
  | .map entries => uptoBulkEntries entries + 1
  | .held _ => 1
def uptoBulkAll {H : Type} : List (DataW H) → Nat
  | [] => 0
  | d :: r => uptoBulk d + uptoBulkAll r
def uptoBulkEntries {H : Type} : List (Lit × DataW H) → Nat
  | [] => 0
  | x :: r => uptoBulkEntry x + uptoBulkEntries r
def uptoBulkEntry {H : Type} : Lit × DataW H → Nat
  | (.string bytes, d) => bytes.length + uptoBulk d + 1
  | (_, d) => uptoBulk d + 1
 end
def uptoSmall : (H : Type) → List (DataW H) → Bool := fun _ ds => decide (uptoBulkAll ds ≤ 1048576)
def OpenSpec.upto (s : _root_.Go.ChangeSpec) : _root_.Go.OpenSpec := { _root_.Go.OpenSpec.ofChange s with cond := some uptoSmall }

/-- 'tidelinelaw15.TokensOnce', WHERE WHAT IT READS IS OF BULK AT MOST 1048576: true; the input reads as it did. -/
def tokensOnceUptoRow : OpenClaim := { program := "ytlkfejnjdlebbaa", sum := "2665e7e67dc3e1835b103decda1aa62c94cac18b96073bcbc36bbf2d473c022e", func := "tideline/tidelinelaw15.TokensOnce", spec := "tokensOnce", unfollowed := true, recurses := true, plainKeys := false, apart := false, narrowed := true }
def TokensOnceUptoSaid : Prop := tokensOnceUptoRow.holds Try.pinned (OpenSpec.upto tokensOnceSpec)

/-- 'tidelinelaw15.TokensStale', WHERE WHAT IT READS IS OF BULK AT MOST 1048576: true; the input reads as it did. -/
def tokensStaleUptoRow : OpenClaim := { program := "ytlkfejnjdlebbaa", sum := "2665e7e67dc3e1835b103decda1aa62c94cac18b96073bcbc36bbf2d473c022e", func := "tideline/tidelinelaw15.TokensStale", spec := "tokensStale", unfollowed := true, recurses := true, plainKeys := false, apart := false, narrowed := true }
def TokensStaleUptoSaid : Prop := tokensStaleUptoRow.holds Try.pinned (OpenSpec.upto tokensStaleSpec)

/-- 'tidelinelaw10.BallotMany', WHERE WHAT IT READS IS OF BULK AT MOST 1048576: true; the input reads as it did. -/
def ballotManyUptoRow : OpenClaim := { program := "ytlkfejnjdlebbaa", sum := "2665e7e67dc3e1835b103decda1aa62c94cac18b96073bcbc36bbf2d473c022e", func := "tideline/tidelinelaw10.BallotMany", spec := "ballotMany", plainKeys := false, apart := false, narrowed := true }
def BallotManyUptoSaid : Prop := ballotManyUptoRow.holds Try.pinned (OpenSpec.upto ballotManySpec)

/-- 'tidelinelaw10.BallotLate', WHERE WHAT IT READS IS OF BULK AT MOST 1048576: true; the input reads as it did. -/
def ballotLateUptoRow : OpenClaim := { program := "ytlkfejnjdlebbaa", sum := "2665e7e67dc3e1835b103decda1aa62c94cac18b96073bcbc36bbf2d473c022e", func := "tideline/tidelinelaw10.BallotLate", spec := "ballotLate", plainKeys := false, apart := false, narrowed := true }
def BallotLateUptoSaid : Prop := ballotLateUptoRow.holds Try.pinned (OpenSpec.upto ballotLateSpec)

end Rows
end Go.Proofs.Ytlkfejnjdlebbaa
