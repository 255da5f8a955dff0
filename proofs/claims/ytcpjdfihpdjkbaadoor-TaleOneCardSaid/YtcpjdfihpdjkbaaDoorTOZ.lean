
import Derived.Test.YtcpjdfihpdjkbaaDoorTOJ2
import Derived.ProofKit
import Derived.OpenShut
import Derived.ShutString
import Derived.ChangeOld
import Derived.Below
import Derived.SizedLaws
import Derived.Lay
import Derived.LaidMore
import Derived.Test.YtcpjdfihpdjkbaaDoorTie
import Derived.Test.YtcpjdfihpdjkbaaDoorCards
import Derived.SevenTiedAt
namespace Go.Proofs.YtcpjdfihpdjkbaaDoor.taleOne
open Go.ChangeShapes Go.WideShapes Go.ChangeAt Go.RowKit
set_option linter.unusedVariables false

theorem wfT : Rows.taleOneRow.wfByText (OpenSpec.ofChange Rows.taleOneSpec) = true := by kernel_rfl
theorem mainH : Tryd.pinned.checked.prog.mainIs = some (((true, "99f7cb0fbd0033f1f9c537c494e1172a92cb9fb7024c6f2c10f37324df54ac75") : Bool × String).1, ((true, "99f7cb0fbd0033f1f9c537c494e1172a92cb9fb7024c6f2c10f37324df54ac75") : Bool × String).2.toList) := by kernel_rfl
theorem goes : false = Rows.taleOneRow.goesBy Tryd.pinned.checked.prog := by kernel_rfl
theorem looks0 : true = Tryd.pinned.checked.prog.looks [] := by kernel_rfl
theorem card_holds : Claim7.holds Tryd.pinned (.plain (OpenSpec.ofChange Rows.taleOneSpec)) Rows.taleOneCard :=
  Claim7.holds_tied_plain_at .later [] [.data, .data, .data, .sentinel, .sentinel] true (true, "99f7cb0fbd0033f1f9c537c494e1172a92cb9fb7024c6f2c10f37324df54ac75") true
    over (fun _ h => by cases h) wfT (fun _ h => by cases h) taleOne_row_tie rfl ⟨rfl, rfl⟩ mainH rfl
    (fun f fn hf hfn => by
      obtain rfl : f = 3 := Option.some.inj ((show Tryd.pinned.checked.prog.funcNamed "tideline/tidelinelaw22.TaleOne" = some 3 from nmd).symm.trans hf) |>.symm
      obtain rfl : fn = Tryd.f3 := (Option.some.inj (Tryd.func3.symm.trans hfn)).symm
      exact ⟨looks0, fun j t ht => by
        rw [Tryd.params3] at ht
        have hm : t ∈ [26, 26] := by simpa using Array.mem_of_getElem? ht
        have hall : ([26, 26].all fun u => !Tryd.prog.wantsStandIn u) = true := by kernel_rfl
        exact (show Tryd.prog.wantsStandIn t = false by simpa using List.all_eq_true.1 hall t hm)⟩)
    goes
theorem proved : Rows.TaleOneCardSaid := card_holds
#print axioms proved
end Go.Proofs.YtcpjdfihpdjkbaaDoor.taleOne


