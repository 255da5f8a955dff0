
import Derived.Test.YtbkifafpjnjaiaaGreatDoorWNJ7
import Derived.ProofKit
import Derived.OpenShut
import Derived.ShutString
import Derived.ChangeOld
import Derived.Below
import Derived.SizedLaws
import Derived.Lay
import Derived.LaidMore
import Derived.Test.YtbkifafpjnjaiaaGreatDoorTie
import Derived.Test.YtbkifafpjnjaiaaGreatDoorCards
import Derived.SevenTiedAt
namespace Go.Proofs.YtbkifafpjnjaiaaGreatDoor.worldNew
open Go.ChangeShapes Go.WideShapes Go.ChangeAt Go.RowKit
set_option linter.unusedVariables false

theorem wfT : Rows.worldNewRow.wfByText (OpenSpec.ofChange Rows.worldNewSpec) = true := by kernel_rfl
theorem mainH : Tryz.pinned.checked.prog.mainIs = some (((true, "f2f68ad20edde2f352bb5fc6726a0a76752d4e4aeb12812394f2b5ff8bc5f209") : Bool × String).1, ((true, "f2f68ad20edde2f352bb5fc6726a0a76752d4e4aeb12812394f2b5ff8bc5f209") : Bool × String).2.toList) := by kernel_rfl
theorem goes : false = Rows.worldNewRow.goesBy Tryz.pinned.checked.prog := by kernel_rfl
theorem looks0 : false = Tryz.pinned.checked.prog.looks [] := by kernel_rfl
theorem card_holds : Claim7.holds Tryz.pinned (.plain (OpenSpec.ofChange Rows.worldNewSpec)) Rows.worldNewCard :=
  Claim7.holds_tied_plain_at .later [] [.data, .data, .pinned] true (true, "f2f68ad20edde2f352bb5fc6726a0a76752d4e4aeb12812394f2b5ff8bc5f209") false
    over (fun _ h => by cases h) wfT (fun _ h => by cases h) worldNew_row_tie rfl ⟨rfl, rfl⟩ mainH rfl
    (fun f fn hf hfn => by
      obtain rfl : f = 3 := Option.some.inj ((show Tryz.pinned.checked.prog.funcNamed "tideline/tidelinelaw20.WorldNew" = some 3 from nmd).symm.trans hf) |>.symm
      obtain rfl : fn = Tryz.f3 := (Option.some.inj (Tryz.func3.symm.trans hfn)).symm
      exact ⟨looks0, fun j t ht => by
        rw [Tryz.params3] at ht
        have hm : t ∈ [3, 3, 3, 3] := by simpa using Array.mem_of_getElem? ht
        have hall : ([3, 3, 3, 3].all fun u => !Tryz.prog.wantsStandIn u) = true := by kernel_rfl
        exact (show Tryz.prog.wantsStandIn t = false by simpa using List.all_eq_true.1 hall t hm)⟩)
    goes
theorem proved : Rows.WorldNewCardSaid := card_holds
#print axioms proved
end Go.Proofs.YtbkifafpjnjaiaaGreatDoor.worldNew


