
import Derived.Test.YtcpjdfihpdjkbaaGreatDoorTLJ4
import Derived.ProofKit
import Derived.OpenShut
import Derived.ShutString
import Derived.ChangeOld
import Derived.Below
import Derived.SizedLaws
import Derived.Lay
import Derived.LaidMore
import Derived.Test.YtcpjdfihpdjkbaaGreatDoorTie
import Derived.Test.YtcpjdfihpdjkbaaGreatDoorCards
import Derived.SevenTiedAt
namespace Go.Proofs.YtcpjdfihpdjkbaaGreatDoor.taleLines
open Go.ChangeShapes Go.WideShapes Go.ChangeAt Go.RowKit
set_option linter.unusedVariables false

theorem wfT : Rows.taleLinesRow.wfByText (OpenSpec.ofChange Rows.taleLinesSpec) = true := by kernel_rfl
theorem mainH : Tryz.pinned.checked.prog.mainIs = some (((true, "fe9bd5fa49e067e5790242f40b61bd63a518951ffc3b83f433a670c2d9137b62") : Bool × String).1, ((true, "fe9bd5fa49e067e5790242f40b61bd63a518951ffc3b83f433a670c2d9137b62") : Bool × String).2.toList) := by kernel_rfl
theorem goes : false = Rows.taleLinesRow.goesBy Tryz.pinned.checked.prog := by kernel_rfl
theorem looks0 : true = Tryz.pinned.checked.prog.looks [] := by kernel_rfl
theorem card_holds : Claim7.holds Tryz.pinned (.plain (OpenSpec.ofChange Rows.taleLinesSpec)) Rows.taleLinesCard :=
  Claim7.holds_tied_plain_at .later [] [.data, .data, .data, .data, .sentinel, .sentinel, .pinned] true (true, "fe9bd5fa49e067e5790242f40b61bd63a518951ffc3b83f433a670c2d9137b62") true
    over (fun _ h => by cases h) wfT (fun _ h => by cases h) taleLines_row_tie rfl ⟨rfl, rfl⟩ mainH rfl
    (fun f fn hf hfn => by
      obtain rfl : f = 3 := Option.some.inj ((show Tryz.pinned.checked.prog.funcNamed "tideline/tidelinelaw22.TaleLines" = some 3 from nmd).symm.trans hf) |>.symm
      obtain rfl : fn = Tryz.f3 := (Option.some.inj (Tryz.func3.symm.trans hfn)).symm
      exact ⟨looks0, fun j t ht => by
        rw [Tryz.params3] at ht
        have hm : t ∈ [26, 34] := by simpa using Array.mem_of_getElem? ht
        have hall : ([26, 34].all fun u => !Tryz.prog.wantsStandIn u) = true := by kernel_rfl
        exact (show Tryz.prog.wantsStandIn t = false by simpa using List.all_eq_true.1 hall t hm)⟩)
    goes
theorem proved : Rows.TaleLinesCardSaid := card_holds
#print axioms proved
end Go.Proofs.YtcpjdfihpdjkbaaGreatDoor.taleLines


