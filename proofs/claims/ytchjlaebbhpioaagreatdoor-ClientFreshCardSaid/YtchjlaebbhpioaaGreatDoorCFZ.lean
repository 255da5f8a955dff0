
import Derived.Test.YtchjlaebbhpioaaGreatDoorCFJ7
import Derived.ProofKit
import Derived.OpenShut
import Derived.ShutString
import Derived.ChangeOld
import Derived.Below
import Derived.SizedLaws
import Derived.Lay
import Derived.LaidMore
import Derived.Test.YtchjlaebbhpioaaGreatDoorTie
import Derived.Test.YtchjlaebbhpioaaGreatDoorCards
import Derived.SevenTiedAt
import Derived.Test.YtchjlaebbhpioaaGreatDoorCFJ8
namespace Go.Proofs.YtchjlaebbhpioaaGreatDoor.clientFresh
open Go.ChangeShapes Go.WideShapes Go.ChangeAt Go.RowKit
set_option linter.unusedVariables false

theorem wfT : Rows.clientFreshRow.wfByText (OpenSpec.ofChange Rows.clientFreshSpec) = true := by kernel_rfl
theorem mainH : Tryz.pinned.checked.prog.mainIs = some (((true, "15e7cc00319b65c5c4533e987aedae46b139da01b77ad96be9794ca63f60ff17") : Bool × String).1, ((true, "15e7cc00319b65c5c4533e987aedae46b139da01b77ad96be9794ca63f60ff17") : Bool × String).2.toList) := by kernel_rfl
theorem goes : false = Rows.clientFreshRow.goesBy Tryz.pinned.checked.prog := by kernel_rfl
theorem looks0 : false = Tryz.pinned.checked.prog.looks [] := by kernel_rfl
theorem card_holds : Claim7.holds Tryz.pinned (.plain (OpenSpec.ofChange Rows.clientFreshSpec)) Rows.clientFreshCard :=
  Claim7.holds_tied_plain_at .later [] [.data, .data, .pinned] true (true, "15e7cc00319b65c5c4533e987aedae46b139da01b77ad96be9794ca63f60ff17") false
    over (fun _ h => by cases h) wfT (fun _ h => by cases h) clientFresh_row_tie rfl ⟨rfl, rfl⟩ mainH rfl
    (fun f fn hf hfn => by
      obtain rfl : f = 3 := Option.some.inj ((show Tryz.pinned.checked.prog.funcNamed "tideline/tidelinelaw19.ClientFresh" = some 3 from nmd).symm.trans hf) |>.symm
      obtain rfl : fn = Tryz.f3 := (Option.some.inj (Tryz.func3.symm.trans hfn)).symm
      exact ⟨looks0, fun j t ht => by
        rw [Tryz.params3] at ht
        have hm : t ∈ [3, 22, 23] := by simpa using Array.mem_of_getElem? ht
        have hall : ([3, 22, 23].all fun u => !Tryz.prog.wantsStandIn u) = true := by kernel_rfl
        exact (show Tryz.prog.wantsStandIn t = false by simpa using List.all_eq_true.1 hall t hm)⟩)
    goes
theorem proved : Rows.ClientFreshCardSaid := card_holds
#print axioms proved
end Go.Proofs.YtchjlaebbhpioaaGreatDoor.clientFresh


