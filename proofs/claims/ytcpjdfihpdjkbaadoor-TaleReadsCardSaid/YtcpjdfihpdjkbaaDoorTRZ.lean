
import Derived.Test.YtcpjdfihpdjkbaaDoorTRJ3
import Derived.ProofKit
import Derived.OpenShut
import Derived.ShutString
import Derived.ChangeOld
import Derived.Below
import Derived.SizedLaws
import Derived.Lay
import Derived.LaidMore
import Derived.Test.YtcpjdfihpdjkbaaDoorTie
import Derived.Test.YtcpjdfihpdjkbaaDoorCards
import Derived.SevenTiedAt
namespace Go.Proofs.YtcpjdfihpdjkbaaDoor.taleReads
open Go.ChangeShapes Go.WideShapes Go.ChangeAt Go.RowKit
set_option linter.unusedVariables false

theorem wfT : Rows.taleReadsRow.wfByText (OpenSpec.ofChange Rows.taleReadsSpec) = true := by kernel_rfl
theorem mainH : Tryd.pinned.checked.prog.mainIs = some (((true, "99f7cb0fbd0033f1f9c537c494e1172a92cb9fb7024c6f2c10f37324df54ac75") : Bool × String).1, ((true, "99f7cb0fbd0033f1f9c537c494e1172a92cb9fb7024c6f2c10f37324df54ac75") : Bool × String).2.toList) := by kernel_rfl
theorem goes : false = Rows.taleReadsRow.goesBy Tryd.pinned.checked.prog := by kernel_rfl
theorem looks0 : true = Tryd.pinned.checked.prog.looks [] := by kernel_rfl
theorem card_holds : Claim7.holds Tryd.pinned (.plain (OpenSpec.ofChange Rows.taleReadsSpec)) Rows.taleReadsCard :=
  Claim7.holds_tied_plain_at .later [] [.data, .data, .data, .data, .sentinel, .sentinel, .pinned] true (true, "99f7cb0fbd0033f1f9c537c494e1172a92cb9fb7024c6f2c10f37324df54ac75") true
    over (fun _ h => by cases h) wfT (fun _ h => by cases h) taleReads_row_tie rfl ⟨rfl, rfl⟩ mainH rfl
    (fun f fn hf hfn => by
      obtain rfl : f = 4 := Option.some.inj ((show Tryd.pinned.checked.prog.funcNamed "tideline/tidelinelaw22.TaleReads" = some 4 from nmd).symm.trans hf) |>.symm
      obtain rfl : fn = Tryd.f4 := (Option.some.inj (Tryd.func4.symm.trans hfn)).symm
      exact ⟨looks0, fun j t ht => by
        rw [Tryd.params4] at ht
        have hm : t ∈ [9] := by simpa using Array.mem_of_getElem? ht
        have hall : ([9].all fun u => !Tryd.prog.wantsStandIn u) = true := by kernel_rfl
        exact (show Tryd.prog.wantsStandIn t = false by simpa using List.all_eq_true.1 hall t hm)⟩)
    goes
theorem proved : Rows.TaleReadsCardSaid := card_holds
#print axioms proved
end Go.Proofs.YtcpjdfihpdjkbaaDoor.taleReads


