
import Derived.Test.YtbmajijnjkicmaaDoorAAJ4
import Derived.ProofKit
import Derived.OpenShut
import Derived.ShutString
import Derived.ChangeOld
import Derived.Below
import Derived.SizedLaws
import Derived.Lay
import Derived.LaidMore
import Derived.Test.YtbmajijnjkicmaaDoorTie
import Derived.Test.YtbmajijnjkicmaaDoorCards
import Derived.SevenTiedAt
import Derived.Test.YtbmajijnjkicmaaDoorAAJ5
namespace Go.Proofs.YtbmajijnjkicmaaDoor.advanceAsks
open Go.ChangeShapes Go.WideShapes Go.ChangeAt Go.RowKit
set_option linter.unusedVariables false

theorem wfT : Rows.advanceAsksRow.wfByText (OpenSpec.ofChange Rows.advanceAsksSpec) = true := by kernel_rfl
theorem mainH : Tryd.pinned.checked.prog.mainIs = some (((true, "0d706ef7b15b2775309601b16732b766a7fac2251e78ebc5ffa33372a1cd6f39") : Bool × String).1, ((true, "0d706ef7b15b2775309601b16732b766a7fac2251e78ebc5ffa33372a1cd6f39") : Bool × String).2.toList) := by kernel_rfl
theorem goes : false = Rows.advanceAsksRow.goesBy Tryd.pinned.checked.prog := by kernel_rfl
theorem looks0 : false = Tryd.pinned.checked.prog.looks [] := by kernel_rfl
theorem card_holds : Claim7.holds Tryd.pinned (.plain (OpenSpec.ofChange Rows.advanceAsksSpec)) Rows.advanceAsksCard :=
  Claim7.holds_tied_plain_at .later [] [.data] true (true, "0d706ef7b15b2775309601b16732b766a7fac2251e78ebc5ffa33372a1cd6f39") false
    over (fun _ h => by cases h) wfT (fun _ h => by cases h) advanceAsks_row_tie rfl ⟨rfl, rfl⟩ mainH rfl
    (fun f fn hf hfn => by
      obtain rfl : f = 3 := Option.some.inj ((show Tryd.pinned.checked.prog.funcNamed "tideline/tidelinelaw18.AdvanceAsks" = some 3 from nmd).symm.trans hf) |>.symm
      obtain rfl : fn = Tryd.f3 := (Option.some.inj (Tryd.func3.symm.trans hfn)).symm
      exact ⟨looks0, fun j t ht => by
        rw [Tryd.params3] at ht
        have hm : t ∈ [24, 3, 3, 25] := by simpa using Array.mem_of_getElem? ht
        have hall : ([24, 3, 3, 25].all fun u => !Tryd.prog.wantsStandIn u) = true := by kernel_rfl
        exact (show Tryd.prog.wantsStandIn t = false by simpa using List.all_eq_true.1 hall t hm)⟩)
    goes
theorem proved : Rows.AdvanceAsksCardSaid := card_holds
#print axioms proved
end Go.Proofs.YtbmajijnjkicmaaDoor.advanceAsks


