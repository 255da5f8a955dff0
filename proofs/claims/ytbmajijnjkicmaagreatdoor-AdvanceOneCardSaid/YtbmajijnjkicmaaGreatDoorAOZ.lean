
import Derived.Test.YtbmajijnjkicmaaGreatDoorAOJ7
import Derived.ProofKit
import Derived.OpenShut
import Derived.ShutString
import Derived.ChangeOld
import Derived.Below
import Derived.SizedLaws
import Derived.Lay
import Derived.LaidMore
import Derived.Test.YtbmajijnjkicmaaGreatDoorTie
import Derived.Test.YtbmajijnjkicmaaGreatDoorCards
import Derived.SevenTiedAt
namespace Go.Proofs.YtbmajijnjkicmaaGreatDoor.advanceOne
open Go.ChangeShapes Go.WideShapes Go.ChangeAt Go.RowKit
set_option linter.unusedVariables false

theorem wfT : Rows.advanceOneRow.wfByText (OpenSpec.ofChange Rows.advanceOneSpec) = true := by kernel_rfl
theorem mainH : Tryz.pinned.checked.prog.mainIs = some (((true, "c12717b98d646773ea4e6c7f4ce5582129841c05dc75c3a7c94a600539dbb417") : Bool × String).1, ((true, "c12717b98d646773ea4e6c7f4ce5582129841c05dc75c3a7c94a600539dbb417") : Bool × String).2.toList) := by kernel_rfl
theorem goes : false = Rows.advanceOneRow.goesBy Tryz.pinned.checked.prog := by kernel_rfl
theorem looks0 : false = Tryz.pinned.checked.prog.looks [] := by kernel_rfl
theorem card_holds : Claim7.holds Tryz.pinned (.plain (OpenSpec.ofChange Rows.advanceOneSpec)) Rows.advanceOneCard :=
  Claim7.holds_tied_plain_at .later [] [.data] true (true, "c12717b98d646773ea4e6c7f4ce5582129841c05dc75c3a7c94a600539dbb417") false
    over (fun _ h => by cases h) wfT (fun _ h => by cases h) advanceOne_row_tie rfl ⟨rfl, rfl⟩ mainH rfl
    (fun f fn hf hfn => by
      obtain rfl : f = 4 := Option.some.inj ((show Tryz.pinned.checked.prog.funcNamed "tideline/tidelinelaw18.AdvanceOne" = some 4 from nmd).symm.trans hf) |>.symm
      obtain rfl : fn = Tryz.f4 := (Option.some.inj (Tryz.func4.symm.trans hfn)).symm
      exact ⟨looks0, fun j t ht => by
        rw [Tryz.params4] at ht
        have hm : t ∈ [3, 3, 54] := by simpa using Array.mem_of_getElem? ht
        have hall : ([3, 3, 54].all fun u => !Tryz.prog.wantsStandIn u) = true := by kernel_rfl
        exact (show Tryz.prog.wantsStandIn t = false by simpa using List.all_eq_true.1 hall t hm)⟩)
    goes
theorem proved : Rows.AdvanceOneCardSaid := card_holds
#print axioms proved
end Go.Proofs.YtbmajijnjkicmaaGreatDoor.advanceOne


