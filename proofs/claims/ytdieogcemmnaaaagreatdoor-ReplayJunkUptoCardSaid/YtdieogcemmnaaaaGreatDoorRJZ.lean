
import Derived.Test.YtdieogcemmnaaaaGreatDoorRJJ7
import Derived.ProofKit
import Derived.OpenShut
import Derived.ShutString
import Derived.ChangeOld
import Derived.Below
import Derived.SizedLaws
import Derived.Lay
import Derived.LaidMore
import Derived.Test.YtdieogcemmnaaaaGreatDoorTie
import Derived.Test.YtdieogcemmnaaaaGreatDoorCards
import Derived.SevenTiedAt
namespace Go.Proofs.YtdieogcemmnaaaaGreatDoor.replayJunk
open Go.ChangeShapes Go.WideShapes Go.ChangeAt Go.RowKit
set_option linter.unusedVariables false

theorem wfT : Rows.replayJunkUptoRow.wfByText (Rows.OpenSpec.upto Rows.replayJunkSpec) = true := by kernel_rfl
theorem mainH : Tryz.pinned.checked.prog.mainIs = some (((true, "3a2adec9a5a7ff0c3eecfdd4003e151ebc8f5ef925f99eb22709f21c9b91bfcd") : Bool × String).1, ((true, "3a2adec9a5a7ff0c3eecfdd4003e151ebc8f5ef925f99eb22709f21c9b91bfcd") : Bool × String).2.toList) := by kernel_rfl
theorem goes : false = Rows.replayJunkUptoRow.goesBy Tryz.pinned.checked.prog := by kernel_rfl
theorem looks0 : false = Tryz.pinned.checked.prog.looks [] := by kernel_rfl
theorem card_holds : Claim7.holds Tryz.pinned (.plain (Rows.OpenSpec.upto Rows.replayJunkSpec)) Rows.replayJunkUptoCard :=
  Claim7.holds_tied_plain_at .later [] [.data, .data, .pinned] true (true, "3a2adec9a5a7ff0c3eecfdd4003e151ebc8f5ef925f99eb22709f21c9b91bfcd") false
    over (fun _ h => by cases h) wfT (fun _ h => by cases h) replayJunkUpto_row_tie rfl ⟨rfl, rfl⟩ mainH rfl
    (fun f fn hf hfn => by
      obtain rfl : f = 10 := Option.some.inj ((show Tryz.pinned.checked.prog.funcNamed "tideline/tidelinelaw16.ReplayJunk" = some 10 from nmd).symm.trans hf) |>.symm
      obtain rfl : fn = Tryz.f10 := (Option.some.inj (Tryz.func10.symm.trans hfn)).symm
      exact ⟨looks0, fun j t ht => by
        rw [Tryz.params10] at ht
        have hm : t ∈ [54, 28] := by simpa using Array.mem_of_getElem? ht
        have hall : ([54, 28].all fun u => !Tryz.prog.wantsStandIn u) = true := by kernel_rfl
        exact (show Tryz.prog.wantsStandIn t = false by simpa using List.all_eq_true.1 hall t hm)⟩)
    goes
theorem proved : Rows.ReplayJunkUptoCardSaid := card_holds
#print axioms proved
end Go.Proofs.YtdieogcemmnaaaaGreatDoor.replayJunk


