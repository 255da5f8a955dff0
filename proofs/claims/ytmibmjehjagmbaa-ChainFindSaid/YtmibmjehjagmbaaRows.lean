/-
  No cell of these rows narrows 'for every input' (looked for: loops, veiled, ifaces, maps, wideKeys, modest, calm, conditions, laid).
  DERIVED. THE GIVEN ROWS OF THIS SEAT. 10 by the template 'for every input the law returns true; each argument reads behind the call as it read before'; 0 by the template 'total and deterministic' (their statements: YtmibmjehjagmbaaTotals.lean).
  GIVEN WITH THE SEED: the statements are not yours to turn. If you find one false, say at which input.
  Laid BY PROGRAM, IN A SANDBOX (cutbox-rows.mjs): the forced cells as the released guide's own fill.sh prints them over the translation 5dc74a0f85fbd3ca… (all of the seat's roots in one cut). By AI agents, Wed Nov 11 2026. No macro, syntax, notation, axiom, sorry.
-/
import Derived.Test.YtmibmjehjagmbaaChecked
import GoSem.Claim
import GoSem.ClaimJoined
import GoSem.ClaimMapViews
import Derived.JoinedTies
import Derived.KernelRfl
namespace Go.Proofs.Ytmibmjehjagmbaa
/- THE CELL 'sum', in the pinned program and in every row, IS THE sha256 OF THE DUMP (.gsa) THAT YtmibmjehjagmbaaProg.lean LOADS. Nothing in Lean hashes anything: it is a label: what it is worth is what the hold of that sum in a sandbox is worth. -/
noncomputable def Try.pinned : Pinned := { name := "ytmibmjehjagmbaa", sum := "5dc74a0f85fbd3ca11471cfdcaacb3a4b74ec59837fc27a81a68e3e309dd168c", checked := Try.checked }
namespace Rows
def none {H : Type} : Left H := { results := [], args := [] }

/-- 'tidelinelaw09.UnitOnce': WHATEVER THE INPUT: true; the input reads as it did. -/
def unitOnceSpec : ChangeSpec := { name := "unitOnce", fn := fun _ => fun
  | [d1, d2] => { results := [.lit (.bool true)], args := [d1, d2] }
  | _ => none }
def unitOnceRow : OpenClaim := { program := "ytmibmjehjagmbaa", sum := "5dc74a0f85fbd3ca11471cfdcaacb3a4b74ec59837fc27a81a68e3e309dd168c", func := "tideline/tidelinelaw09.UnitOnce", spec := "unitOnce", unfollowed := true, recurses := true, apart := false }
def UnitOnceSaid : Prop := unitOnceRow.holds Try.pinned (OpenSpec.ofChange unitOnceSpec)

/-- ITS FALSE NEIGHBOUR: 'it returns false'. Refute it at one input. -/
def unitOnceWrong : ChangeSpec := { name := "unitOnce", fn := fun _ => fun
  | [d1, d2] => { results := [.lit (.bool false)], args := [d1, d2] }
  | _ => none }
def UnitOnceWrongFalsely : Prop := unitOnceRow.holds Try.pinned (OpenSpec.ofChange unitOnceWrong)

/-- 'tidelinelaw10.BallotOne': WHATEVER THE INPUT: true; the input reads as it did. -/
def ballotOneSpec : ChangeSpec := { name := "ballotOne", fn := fun _ => fun
  | [d1, d2] => { results := [.lit (.bool true)], args := [d1, d2] }
  | _ => none }
def ballotOneRow : OpenClaim := { program := "ytmibmjehjagmbaa", sum := "5dc74a0f85fbd3ca11471cfdcaacb3a4b74ec59837fc27a81a68e3e309dd168c", func := "tideline/tidelinelaw10.BallotOne", spec := "ballotOne", unfollowed := true, recurses := true, apart := false }
def BallotOneSaid : Prop := ballotOneRow.holds Try.pinned (OpenSpec.ofChange ballotOneSpec)

/-- ITS FALSE NEIGHBOUR: 'it returns false'. Refute it at one input. -/
def ballotOneWrong : ChangeSpec := { name := "ballotOne", fn := fun _ => fun
  | [d1, d2] => { results := [.lit (.bool false)], args := [d1, d2] }
  | _ => none }
def BallotOneWrongFalsely : Prop := ballotOneRow.holds Try.pinned (OpenSpec.ofChange ballotOneWrong)

/-- 'tidelinelaw10.BallotAlone': WHATEVER THE INPUT: true; the input reads as it did. -/
def ballotAloneSpec : ChangeSpec := { name := "ballotAlone", fn := fun _ => fun
  | [d1, d2, d3] => { results := [.lit (.bool true)], args := [d1, d2, d3] }
  | _ => none }
def ballotAloneRow : OpenClaim := { program := "ytmibmjehjagmbaa", sum := "5dc74a0f85fbd3ca11471cfdcaacb3a4b74ec59837fc27a81a68e3e309dd168c", func := "tideline/tidelinelaw10.BallotAlone", spec := "ballotAlone", unfollowed := true, recurses := true, apart := false }
def BallotAloneSaid : Prop := ballotAloneRow.holds Try.pinned (OpenSpec.ofChange ballotAloneSpec)

/-- ITS FALSE NEIGHBOUR: 'it returns false'. Refute it at one input. -/
def ballotAloneWrong : ChangeSpec := { name := "ballotAlone", fn := fun _ => fun
  | [d1, d2, d3] => { results := [.lit (.bool false)], args := [d1, d2, d3] }
  | _ => none }
def BallotAloneWrongFalsely : Prop := ballotAloneRow.holds Try.pinned (OpenSpec.ofChange ballotAloneWrong)

/-- 'tidelinelaw09.UnitWhole': WHATEVER THE INPUT: true; the input reads as it did. -/
def unitWholeSpec : ChangeSpec := { name := "unitWhole", fn := fun _ => fun
  | [d1, d2, d3] => { results := [.lit (.bool true)], args := [d1, d2, d3] }
  | _ => none }
def unitWholeRow : OpenClaim := { program := "ytmibmjehjagmbaa", sum := "5dc74a0f85fbd3ca11471cfdcaacb3a4b74ec59837fc27a81a68e3e309dd168c", func := "tideline/tidelinelaw09.UnitWhole", spec := "unitWhole", unfollowed := true, recurses := true, apart := false }
def UnitWholeSaid : Prop := unitWholeRow.holds Try.pinned (OpenSpec.ofChange unitWholeSpec)

/-- ITS FALSE NEIGHBOUR: 'it returns false'. Refute it at one input. -/
def unitWholeWrong : ChangeSpec := { name := "unitWhole", fn := fun _ => fun
  | [d1, d2, d3] => { results := [.lit (.bool false)], args := [d1, d2, d3] }
  | _ => none }
def UnitWholeWrongFalsely : Prop := unitWholeRow.holds Try.pinned (OpenSpec.ofChange unitWholeWrong)

/-- 'tidelinelaw14.ServerAgain': WHATEVER THE INPUT: true; the input reads as it did. -/
def serverAgainSpec : ChangeSpec := { name := "serverAgain", fn := fun _ => fun
  | [d] => { results := [.lit (.bool true)], args := [d] }
  | _ => none }
def serverAgainRow : OpenClaim := { program := "ytmibmjehjagmbaa", sum := "5dc74a0f85fbd3ca11471cfdcaacb3a4b74ec59837fc27a81a68e3e309dd168c", func := "tideline/tidelinelaw14.ServerAgain", spec := "serverAgain", unfollowed := true, recurses := true, apart := false }
def ServerAgainSaid : Prop := serverAgainRow.holds Try.pinned (OpenSpec.ofChange serverAgainSpec)

/-- ITS FALSE NEIGHBOUR: 'it returns false'. Refute it at one input. -/
def serverAgainWrong : ChangeSpec := { name := "serverAgain", fn := fun _ => fun
  | [d] => { results := [.lit (.bool false)], args := [d] }
  | _ => none }
def ServerAgainWrongFalsely : Prop := serverAgainRow.holds Try.pinned (OpenSpec.ofChange serverAgainWrong)

/-- 'tidelinelaw14.ServerQuiet': WHATEVER THE INPUT: true; the input reads as it did. -/
def serverQuietSpec : ChangeSpec := { name := "serverQuiet", fn := fun _ => fun
  | [d] => { results := [.lit (.bool true)], args := [d] }
  | _ => none }
def serverQuietRow : OpenClaim := { program := "ytmibmjehjagmbaa", sum := "5dc74a0f85fbd3ca11471cfdcaacb3a4b74ec59837fc27a81a68e3e309dd168c", func := "tideline/tidelinelaw14.ServerQuiet", spec := "serverQuiet", unfollowed := true, recurses := true, apart := false }
def ServerQuietSaid : Prop := serverQuietRow.holds Try.pinned (OpenSpec.ofChange serverQuietSpec)

/-- ITS FALSE NEIGHBOUR: 'it returns false'. Refute it at one input. -/
def serverQuietWrong : ChangeSpec := { name := "serverQuiet", fn := fun _ => fun
  | [d] => { results := [.lit (.bool false)], args := [d] }
  | _ => none }
def ServerQuietWrongFalsely : Prop := serverQuietRow.holds Try.pinned (OpenSpec.ofChange serverQuietWrong)

/-- 'tidelinelaw17.ChainOne': WHATEVER THE INPUT: true; the input reads as it did. -/
def chainOneSpec : ChangeSpec := { name := "chainOne", fn := fun _ => fun
  | [d1, d2] => { results := [.lit (.bool true)], args := [d1, d2] }
  | _ => none }
def chainOneRow : OpenClaim := { program := "ytmibmjehjagmbaa", sum := "5dc74a0f85fbd3ca11471cfdcaacb3a4b74ec59837fc27a81a68e3e309dd168c", func := "tideline/tidelinelaw17.ChainOne", spec := "chainOne", unfollowed := true, recurses := true, apart := false }
def ChainOneSaid : Prop := chainOneRow.holds Try.pinned (OpenSpec.ofChange chainOneSpec)

/-- ITS FALSE NEIGHBOUR: 'it returns false'. Refute it at one input. -/
def chainOneWrong : ChangeSpec := { name := "chainOne", fn := fun _ => fun
  | [d1, d2] => { results := [.lit (.bool false)], args := [d1, d2] }
  | _ => none }
def ChainOneWrongFalsely : Prop := chainOneRow.holds Try.pinned (OpenSpec.ofChange chainOneWrong)

/-- 'tidelinelaw17.ChainEnds': WHATEVER THE INPUT: true; the input reads as it did. -/
def chainEndsSpec : ChangeSpec := { name := "chainEnds", fn := fun _ => fun
  | [d1, d2, d3] => { results := [.lit (.bool true)], args := [d1, d2, d3] }
  | _ => none }
def chainEndsRow : OpenClaim := { program := "ytmibmjehjagmbaa", sum := "5dc74a0f85fbd3ca11471cfdcaacb3a4b74ec59837fc27a81a68e3e309dd168c", func := "tideline/tidelinelaw17.ChainEnds", spec := "chainEnds", unfollowed := true, recurses := true, apart := false }
def ChainEndsSaid : Prop := chainEndsRow.holds Try.pinned (OpenSpec.ofChange chainEndsSpec)

/-- ITS FALSE NEIGHBOUR: 'it returns false'. Refute it at one input. -/
def chainEndsWrong : ChangeSpec := { name := "chainEnds", fn := fun _ => fun
  | [d1, d2, d3] => { results := [.lit (.bool false)], args := [d1, d2, d3] }
  | _ => none }
def ChainEndsWrongFalsely : Prop := chainEndsRow.holds Try.pinned (OpenSpec.ofChange chainEndsWrong)

/-- 'tidelinelaw17.ChainFind': WHATEVER THE INPUT: true; the input reads as it did. -/
def chainFindSpec : ChangeSpec := { name := "chainFind", fn := fun _ => fun
  | [d1, d2, d3] => { results := [.lit (.bool true)], args := [d1, d2, d3] }
  | _ => none }
def chainFindRow : OpenClaim := { program := "ytmibmjehjagmbaa", sum := "5dc74a0f85fbd3ca11471cfdcaacb3a4b74ec59837fc27a81a68e3e309dd168c", func := "tideline/tidelinelaw17.ChainFind", spec := "chainFind", unfollowed := true, recurses := true, apart := false }
def ChainFindSaid : Prop := chainFindRow.holds Try.pinned (OpenSpec.ofChange chainFindSpec)

/-- ITS FALSE NEIGHBOUR: 'it returns false'. Refute it at one input. -/
def chainFindWrong : ChangeSpec := { name := "chainFind", fn := fun _ => fun
  | [d1, d2, d3] => { results := [.lit (.bool false)], args := [d1, d2, d3] }
  | _ => none }
def ChainFindWrongFalsely : Prop := chainFindRow.holds Try.pinned (OpenSpec.ofChange chainFindWrong)

/-- 'tidelinelaw17.ChainAgain': WHATEVER THE INPUT: true; the input reads as it did. -/
def chainAgainSpec : ChangeSpec := { name := "chainAgain", fn := fun _ => fun
  | [d1, d2, d3, d4] => { results := [.lit (.bool true)], args := [d1, d2, d3, d4] }
  | _ => none }
def chainAgainRow : OpenClaim := { program := "ytmibmjehjagmbaa", sum := "5dc74a0f85fbd3ca11471cfdcaacb3a4b74ec59837fc27a81a68e3e309dd168c", func := "tideline/tidelinelaw17.ChainAgain", spec := "chainAgain", unfollowed := true, recurses := true, apart := false }
def ChainAgainSaid : Prop := chainAgainRow.holds Try.pinned (OpenSpec.ofChange chainAgainSpec)

/-- ITS FALSE NEIGHBOUR: 'it returns false'. Refute it at one input. -/
def chainAgainWrong : ChangeSpec := { name := "chainAgain", fn := fun _ => fun
  | [d1, d2, d3, d4] => { results := [.lit (.bool false)], args := [d1, d2, d3, d4] }
  | _ => none }
def ChainAgainWrongFalsely : Prop := chainAgainRow.holds Try.pinned (OpenSpec.ofChange chainAgainWrong)

/- THE SECOND FORM. 'bulk': how many values and letters a reading holds, each counted each time it is reached (what is shared counts as often as it is met; a slice's spare places count too). A statement '..UptoSaid' is the law's where the arguments, and the package variables that the reading takes, are together of bulk at most 1048576: NARROWER than '..Said'. Prove '..Said' where nothing that the law and all that it calls make is longer than what came in: it says more and counts as full. Else prove '..UptoSaid'. A law counts once. -/
mutual
def uptoBulk {H : Type} : DataW H → Nat
  | .lit (.string bytes) => bytes.length + 1
  | .lit _ => 1
  | .nil => 1
  | .ptr d => uptoBulk d + 1
  | .slice elems spare => uptoBulkAll elems + uptoBulkAll spare + 1
  | .agg parts => uptoBulkAll parts + 1
  | .iface _ d => uptoBulk d + 1
  | .map entries => uptoBulkEntries entries + 1
  | .held _ => 1
def uptoBulkAll {H : Type} : List (DataW H) → Nat
  | [] => 0
  | d :: r => uptoBulk d + uptoBulkAll r
def uptoBulkEntries {H : Type} : List (Lit × DataW H) → Nat
  | [] => 0
  | x :: r => uptoBulkEntry x + uptoBulkEntries r
def uptoBulkEntry {H : Type} : Lit × DataW H → Nat
  | (.string bytes, d) => bytes.length + uptoBulk d + 1
  | (_, d) => uptoBulk d + 1
 end
def uptoSmall : (H : Type) → List (DataW H) → Bool := fun _ ds => decide (uptoBulkAll ds ≤ 1048576)
def OpenSpec.upto (s : _root_.Go.ChangeSpec) : _root_.Go.OpenSpec := { _root_.Go.OpenSpec.ofChange s with cond := some uptoSmall }

/-- 'tidelinelaw09.UnitOnce', WHERE WHAT IT READS IS OF BULK AT MOST 1048576: true; the input reads as it did. -/
def unitOnceUptoRow : OpenClaim := { program := "ytmibmjehjagmbaa", sum := "5dc74a0f85fbd3ca11471cfdcaacb3a4b74ec59837fc27a81a68e3e309dd168c", func := "tideline/tidelinelaw09.UnitOnce", spec := "unitOnce", unfollowed := true, recurses := true, apart := false, narrowed := true }
def UnitOnceUptoSaid : Prop := unitOnceUptoRow.holds Try.pinned (OpenSpec.upto unitOnceSpec)

/-- 'tidelinelaw10.BallotOne', WHERE WHAT IT READS IS OF BULK AT MOST 1048576: true; the input reads as it did. -/
def ballotOneUptoRow : OpenClaim := { program := "ytmibmjehjagmbaa", sum := "5dc74a0f85fbd3ca11471cfdcaacb3a4b74ec59837fc27a81a68e3e309dd168c", func := "tideline/tidelinelaw10.BallotOne", spec := "ballotOne", unfollowed := true, recurses := true, apart := false, narrowed := true }
def BallotOneUptoSaid : Prop := ballotOneUptoRow.holds Try.pinned (OpenSpec.upto ballotOneSpec)

/-- 'tidelinelaw10.BallotAlone', WHERE WHAT IT READS IS OF BULK AT MOST 1048576: true; the input reads as it did. -/
def ballotAloneUptoRow : OpenClaim := { program := "ytmibmjehjagmbaa", sum := "5dc74a0f85fbd3ca11471cfdcaacb3a4b74ec59837fc27a81a68e3e309dd168c", func := "tideline/tidelinelaw10.BallotAlone", spec := "ballotAlone", unfollowed := true, recurses := true, apart := false, narrowed := true }
def BallotAloneUptoSaid : Prop := ballotAloneUptoRow.holds Try.pinned (OpenSpec.upto ballotAloneSpec)

/-- 'tidelinelaw09.UnitWhole', WHERE WHAT IT READS IS OF BULK AT MOST 1048576: true; the input reads as it did. -/
def unitWholeUptoRow : OpenClaim := { program := "ytmibmjehjagmbaa", sum := "5dc74a0f85fbd3ca11471cfdcaacb3a4b74ec59837fc27a81a68e3e309dd168c", func := "tideline/tidelinelaw09.UnitWhole", spec := "unitWhole", unfollowed := true, recurses := true, apart := false, narrowed := true }
def UnitWholeUptoSaid : Prop := unitWholeUptoRow.holds Try.pinned (OpenSpec.upto unitWholeSpec)

/-- 'tidelinelaw14.ServerAgain', WHERE WHAT IT READS IS OF BULK AT MOST 1048576: true; the input reads as it did. -/
def serverAgainUptoRow : OpenClaim := { program := "ytmibmjehjagmbaa", sum := "5dc74a0f85fbd3ca11471cfdcaacb3a4b74ec59837fc27a81a68e3e309dd168c", func := "tideline/tidelinelaw14.ServerAgain", spec := "serverAgain", unfollowed := true, recurses := true, apart := false, narrowed := true }
def ServerAgainUptoSaid : Prop := serverAgainUptoRow.holds Try.pinned (OpenSpec.upto serverAgainSpec)

/-- 'tidelinelaw14.ServerQuiet', WHERE WHAT IT READS IS OF BULK AT MOST 1048576: true; the input reads as it did. -/
def serverQuietUptoRow : OpenClaim := { program := "ytmibmjehjagmbaa", sum := "5dc74a0f85fbd3ca11471cfdcaacb3a4b74ec59837fc27a81a68e3e309dd168c", func := "tideline/tidelinelaw14.ServerQuiet", spec := "serverQuiet", unfollowed := true, recurses := true, apart := false, narrowed := true }
def ServerQuietUptoSaid : Prop := serverQuietUptoRow.holds Try.pinned (OpenSpec.upto serverQuietSpec)

/-- 'tidelinelaw17.ChainOne', WHERE WHAT IT READS IS OF BULK AT MOST 1048576: true; the input reads as it did. -/
def chainOneUptoRow : OpenClaim := { program := "ytmibmjehjagmbaa", sum := "5dc74a0f85fbd3ca11471cfdcaacb3a4b74ec59837fc27a81a68e3e309dd168c", func := "tideline/tidelinelaw17.ChainOne", spec := "chainOne", unfollowed := true, recurses := true, apart := false, narrowed := true }
def ChainOneUptoSaid : Prop := chainOneUptoRow.holds Try.pinned (OpenSpec.upto chainOneSpec)

/-- 'tidelinelaw17.ChainEnds', WHERE WHAT IT READS IS OF BULK AT MOST 1048576: true; the input reads as it did. -/
def chainEndsUptoRow : OpenClaim := { program := "ytmibmjehjagmbaa", sum := "5dc74a0f85fbd3ca11471cfdcaacb3a4b74ec59837fc27a81a68e3e309dd168c", func := "tideline/tidelinelaw17.ChainEnds", spec := "chainEnds", unfollowed := true, recurses := true, apart := false, narrowed := true }
def ChainEndsUptoSaid : Prop := chainEndsUptoRow.holds Try.pinned (OpenSpec.upto chainEndsSpec)

/-- 'tidelinelaw17.ChainFind', WHERE WHAT IT READS IS OF BULK AT MOST 1048576: true; the input reads as it did. -/
def chainFindUptoRow : OpenClaim := { program := "ytmibmjehjagmbaa", sum := "5dc74a0f85fbd3ca11471cfdcaacb3a4b74ec59837fc27a81a68e3e309dd168c", func := "tideline/tidelinelaw17.ChainFind", spec := "chainFind", unfollowed := true, recurses := true, apart := false, narrowed := true }
def ChainFindUptoSaid : Prop := chainFindUptoRow.holds Try.pinned (OpenSpec.upto chainFindSpec)

/-- 'tidelinelaw17.ChainAgain', WHERE WHAT IT READS IS OF BULK AT MOST 1048576: true; the input reads as it did. -/
def chainAgainUptoRow : OpenClaim := { program := "ytmibmjehjagmbaa", sum := "5dc74a0f85fbd3ca11471cfdcaacb3a4b74ec59837fc27a81a68e3e309dd168c", func := "tideline/tidelinelaw17.ChainAgain", spec := "chainAgain", unfollowed := true, recurses := true, apart := false, narrowed := true }
def ChainAgainUptoSaid : Prop := chainAgainUptoRow.holds Try.pinned (OpenSpec.upto chainAgainSpec)

end Rows
end Go.Proofs.Ytmibmjehjagmbaa
