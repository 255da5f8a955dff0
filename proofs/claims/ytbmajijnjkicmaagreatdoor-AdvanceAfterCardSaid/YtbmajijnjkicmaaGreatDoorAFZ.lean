
import Derived.Test.YtbmajijnjkicmaaGreatDoorAFJ6
import Derived.ProofKit
import Derived.OpenShut
import Derived.ShutString
import Derived.ChangeOld
import Derived.Below
import Derived.SizedLaws
import Derived.Lay
import Derived.LaidMore
import Derived.Test.YtbmajijnjkicmaaGreatDoorTie
import Derived.Test.YtbmajijnjkicmaaGreatDoorCards
import Derived.SevenTiedAt
namespace Go.Proofs.YtbmajijnjkicmaaGreatDoor.advanceAfter
open Go.ChangeShapes Go.WideShapes Go.ChangeAt Go.RowKit
set_option linter.unusedVariables false

theorem wfT : Rows.advanceAfterRow.wfByText (OpenSpec.ofChange Rows.advanceAfterSpec) = true := by kernel_rfl
theorem mainH : Tryz.pinned.checked.prog.mainIs = some (((true, "c12717b98d646773ea4e6c7f4ce5582129841c05dc75c3a7c94a600539dbb417") : Bool × String).1, ((true, "c12717b98d646773ea4e6c7f4ce5582129841c05dc75c3a7c94a600539dbb417") : Bool × String).2.toList) := by kernel_rfl
theorem goes : false = Rows.advanceAfterRow.goesBy Tryz.pinned.checked.prog := by kernel_rfl
theorem looks0 : false = Tryz.pinned.checked.prog.looks [] := by kernel_rfl
theorem card_holds : Claim7.holds Tryz.pinned (.plain (OpenSpec.ofChange Rows.advanceAfterSpec)) Rows.advanceAfterCard :=
  Claim7.holds_tied_plain_at .later [] [.data] true (true, "c12717b98d646773ea4e6c7f4ce5582129841c05dc75c3a7c94a600539dbb417") false
    over (fun _ h => by cases h) wfT (fun _ h => by cases h) advanceAfter_row_tie rfl ⟨rfl, rfl⟩ mainH rfl
    (fun f fn hf hfn => by
      obtain rfl : f = 3 := Option.some.inj ((show Tryz.pinned.checked.prog.funcNamed "tideline/tidelinelaw18.AdvanceAfter" = some 3 from nmd).symm.trans hf) |>.symm
      obtain rfl : fn = Tryz.f3 := (Option.some.inj (Tryz.func3.symm.trans hfn)).symm
      exact ⟨looks0, fun j t ht => by
        rw [Tryz.params3] at ht
        have hm : t ∈ [3, 3] := by simpa using Array.mem_of_getElem? ht
        have hall : ([3, 3].all fun u => !Tryz.prog.wantsStandIn u) = true := by kernel_rfl
        exact (show Tryz.prog.wantsStandIn t = false by simpa using List.all_eq_true.1 hall t hm)⟩)
    goes
theorem proved : Rows.AdvanceAfterCardSaid := card_holds
#print axioms proved
end Go.Proofs.YtbmajijnjkicmaaGreatDoor.advanceAfter


