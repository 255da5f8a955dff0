
import Derived.Test.YtdieogcemmnaaaaGreatDoorJCJ6
import Derived.ProofKit
import Derived.OpenShut
import Derived.ShutString
import Derived.ChangeOld
import Derived.Below
import Derived.SizedLaws
import Derived.Lay
import Derived.LaidMore
import Derived.Test.YtdieogcemmnaaaaGreatDoorTie
import Derived.Test.YtdieogcemmnaaaaGreatDoorCards
import Derived.SevenTiedAt
namespace Go.Proofs.YtdieogcemmnaaaaGreatDoor.judgeCells
open Go.ChangeShapes Go.WideShapes Go.ChangeAt Go.RowKit
set_option linter.unusedVariables false

theorem wfT : Rows.judgeCellsRow.wfByText (OpenSpec.ofChange Rows.judgeCellsSpec) = true := by kernel_rfl
theorem mainH : Tryz.pinned.checked.prog.mainIs = some (((true, "3a2adec9a5a7ff0c3eecfdd4003e151ebc8f5ef925f99eb22709f21c9b91bfcd") : Bool × String).1, ((true, "3a2adec9a5a7ff0c3eecfdd4003e151ebc8f5ef925f99eb22709f21c9b91bfcd") : Bool × String).2.toList) := by kernel_rfl
theorem goes : false = Rows.judgeCellsRow.goesBy Tryz.pinned.checked.prog := by kernel_rfl
theorem looks0 : false = Tryz.pinned.checked.prog.looks [] := by kernel_rfl
theorem card_holds : Claim7.holds Tryz.pinned (.plain (OpenSpec.ofChange Rows.judgeCellsSpec)) Rows.judgeCellsCard :=
  Claim7.holds_tied_plain_at .later [] [.data, .data, .pinned] true (true, "3a2adec9a5a7ff0c3eecfdd4003e151ebc8f5ef925f99eb22709f21c9b91bfcd") false
    over (fun _ h => by cases h) wfT (fun _ h => by cases h) judgeCells_row_tie rfl ⟨rfl, rfl⟩ mainH rfl
    (fun f fn hf hfn => by
      obtain rfl : f = 14 := Option.some.inj ((show Tryz.pinned.checked.prog.funcNamed "tideline/tidelinelaw21.JudgeCells" = some 14 from nmd).symm.trans hf) |>.symm
      obtain rfl : fn = Tryz.f14 := (Option.some.inj (Tryz.func14.symm.trans hfn)).symm
      exact ⟨looks0, fun j t ht => by
        rw [Tryz.params14] at ht
        have hm : t ∈ [95, 3] := by simpa using Array.mem_of_getElem? ht
        have hall : ([95, 3].all fun u => !Tryz.prog.wantsStandIn u) = true := by kernel_rfl
        exact (show Tryz.prog.wantsStandIn t = false by simpa using List.all_eq_true.1 hall t hm)⟩)
    goes
theorem proved : Rows.JudgeCellsCardSaid := card_holds
#print axioms proved
end Go.Proofs.YtdieogcemmnaaaaGreatDoor.judgeCells


