/- Texts of this claim, joined. No condition. -/
import Derived.Test.YtbmajijnjkicmaaDoorAAJ4
import Derived.ProofKit
import Derived.OpenShut
import Derived.ShutString
import Derived.ChangeOld
import Derived.Below
import Derived.SizedLaws
import Derived.Lay
import Derived.LaidMore
import Derived.Test.YtbmajijnjkicmaaDoorTie
import Derived.Test.YtbmajijnjkicmaaDoorCards
import Derived.SevenTiedAt
set_option linter.unusedSimpArgs false
set_option linter.unusedVariables false

namespace Go.Proofs.YtbmajijnjkicmaaDoor.advanceAsks
open Go.ChangeShapes Go.WideShapes Go.ChangeAt Go.RowKit
set_option linter.unusedVariables false

theorem and2 {a b : Bool} (h1 : a = true) (h2 : b = true) : (a && b) = true := by rw [h1, h2]; rfl
theorem c0 : (fun (P : Program) (f : FuncId) (fn : Func) (s : ChangeSpec) (c : OpenClaim) => (c.wf (OpenSpec.ofChange s) : Bool)) Tryd.pinned.checked.prog 3 Tryd.f3 Rows.advanceAsksSpec Rows.advanceAsksRow = true := by kernel_rfl
theorem c1 : (fun (P : Program) (f : FuncId) (fn : Func) (s : ChangeSpec) (c : OpenClaim) => (laidOutB P : Bool)) Tryd.pinned.checked.prog 3 Tryd.f3 Rows.advanceAsksSpec Rows.advanceAsksRow = true := by kernel_rfl
theorem c2 : (fun (P : Program) (f : FuncId) (fn : Func) (s : ChangeSpec) (c : OpenClaim) => (mapsRowed P : Bool)) Tryd.pinned.checked.prog 3 Tryd.f3 Rows.advanceAsksSpec Rows.advanceAsksRow = true := by kernel_rfl
theorem c3 : (fun (P : Program) (f : FuncId) (fn : Func) (s : ChangeSpec) (c : OpenClaim) => (fn.params.all (P.readableRec ·) : Bool)) Tryd.pinned.checked.prog 3 Tryd.f3 Rows.advanceAsksSpec Rows.advanceAsksRow = true := by kernel_rfl
theorem c4 : (fun (P : Program) (f : FuncId) (fn : Func) (s : ChangeSpec) (c : OpenClaim) => (namedTie P c.named s.vars : Bool)) Tryd.pinned.checked.prog 3 Tryd.f3 Rows.advanceAsksSpec Rows.advanceAsksRow = true := by kernel_rfl
theorem c5 : (fun (P : Program) (f : FuncId) (fn : Func) (s : ChangeSpec) (c : OpenClaim) => ((c.stops == []) : Bool)) Tryd.pinned.checked.prog 3 Tryd.f3 Rows.advanceAsksSpec Rows.advanceAsksRow = true := by kernel_rfl
theorem c6 : (fun (P : Program) (f : FuncId) (fn : Func) (s : ChangeSpec) (c : OpenClaim) => ((P.stops == []) : Bool)) Tryd.pinned.checked.prog 3 Tryd.f3 Rows.advanceAsksSpec Rows.advanceAsksRow = true := by kernel_rfl
theorem c7 : (fun (P : Program) (f : FuncId) (fn : Func) (s : ChangeSpec) (c : OpenClaim) => ((c.knobs == []) : Bool)) Tryd.pinned.checked.prog 3 Tryd.f3 Rows.advanceAsksSpec Rows.advanceAsksRow = true := by kernel_rfl
theorem c8 : (fun (P : Program) (f : FuncId) (fn : Func) (s : ChangeSpec) (c : OpenClaim) => ((P.stopKnobs == []) : Bool)) Tryd.pinned.checked.prog 3 Tryd.f3 Rows.advanceAsksSpec Rows.advanceAsksRow = true := by kernel_rfl
theorem c9 : (fun (P : Program) (f : FuncId) (fn : Func) (s : ChangeSpec) (c : OpenClaim) => ((c.inPlace == P.inPlace f) : Bool)) Tryd.pinned.checked.prog 3 Tryd.f3 Rows.advanceAsksSpec Rows.advanceAsksRow = true := by kernel_rfl
theorem c10 : (fun (P : Program) (f : FuncId) (fn : Func) (s : ChangeSpec) (c : OpenClaim) => ((c.unfollowed == P.unfollowed f) : Bool)) Tryd.pinned.checked.prog 3 Tryd.f3 Rows.advanceAsksSpec Rows.advanceAsksRow = true := by kernel_rfl
theorem c11 : (fun (P : Program) (f : FuncId) (fn : Func) (s : ChangeSpec) (c : OpenClaim) => ((c.recurses == P.recurses f) : Bool)) Tryd.pinned.checked.prog 3 Tryd.f3 Rows.advanceAsksSpec Rows.advanceAsksRow = true := by kernel_rfl
theorem c12 : (fun (P : Program) (f : FuncId) (fn : Func) (s : ChangeSpec) (c : OpenClaim) => ((c.named == P.varsNamed f) : Bool)) Tryd.pinned.checked.prog 3 Tryd.f3 Rows.advanceAsksSpec Rows.advanceAsksRow = true := by kernel_rfl
theorem c13 : (fun (P : Program) (f : FuncId) (fn : Func) (s : ChangeSpec) (c : OpenClaim) => ((c.maps == (fn.params.toList ++ s.plain.varTypes P).any (P.mapsRec ·)) : Bool)) Tryd.pinned.checked.prog 3 Tryd.f3 Rows.advanceAsksSpec Rows.advanceAsksRow = true := by kernel_rfl
theorem c14 : (fun (P : Program) (f : FuncId) (fn : Func) (s : ChangeSpec) (c : OpenClaim) => ((c.ifaces == (fn.params.toList ++ s.plain.varTypes P).any (P.ifacesRec ·)) : Bool)) Tryd.pinned.checked.prog 3 Tryd.f3 Rows.advanceAsksSpec Rows.advanceAsksRow = true := by kernel_rfl
theorem c15 : (fun (P : Program) (f : FuncId) (fn : Func) (s : ChangeSpec) (c : OpenClaim) => ((c.mapsOut == P.mapsAmong fn.resultTypes.toList) : Bool)) Tryd.pinned.checked.prog 3 Tryd.f3 Rows.advanceAsksSpec Rows.advanceAsksRow = true := by kernel_rfl
theorem c16 : (fun (P : Program) (f : FuncId) (fn : Func) (s : ChangeSpec) (c : OpenClaim) => ((c.loops == (fn.params.toList ++ s.plain.varTypes P).any (P.loopsFrom ·)) : Bool)) Tryd.pinned.checked.prog 3 Tryd.f3 Rows.advanceAsksSpec Rows.advanceAsksRow = true := by kernel_rfl
theorem c17 : (fun (P : Program) (f : FuncId) (fn : Func) (s : ChangeSpec) (c : OpenClaim) => ((c.wideKeys == (fn.params.toList ++ s.plain.varTypes P ++ fn.resultTypes.toList).any (P.wideKeysFrom ·)) : Bool)) Tryd.pinned.checked.prog 3 Tryd.f3 Rows.advanceAsksSpec Rows.advanceAsksRow = true := by kernel_rfl
theorem c18 : (fun (P : Program) (f : FuncId) (fn : Func) (s : ChangeSpec) (c : OpenClaim) => (s.vars.all (P.varReadable ·) : Bool)) Tryd.pinned.checked.prog 3 Tryd.f3 Rows.advanceAsksSpec Rows.advanceAsksRow = true := by kernel_rfl
theorem c19 : (fun (P : Program) (f : FuncId) (fn : Func) (s : ChangeSpec) (c : OpenClaim) => (fn.resultTypes.all (fun t => P.readableRec t && decide (t < P.types.size)) : Bool)) Tryd.pinned.checked.prog 3 Tryd.f3 Rows.advanceAsksSpec Rows.advanceAsksRow = true := by kernel_rfl
theorem c20 : (fun (P : Program) (f : FuncId) (fn : Func) (s : ChangeSpec) (c : OpenClaim) => ((c.ifacesOut == fn.resultTypes.toList.any (P.ifacesRec ·)) : Bool)) Tryd.pinned.checked.prog 3 Tryd.f3 Rows.advanceAsksSpec Rows.advanceAsksRow = true := by kernel_rfl
theorem c21 : (fun (P : Program) (f : FuncId) (fn : Func) (s : ChangeSpec) (c : OpenClaim) => ((c.loopsOut == fn.resultTypes.toList.any (P.loopsFrom ·)) : Bool)) Tryd.pinned.checked.prog 3 Tryd.f3 Rows.advanceAsksSpec Rows.advanceAsksRow = true := by kernel_rfl
theorem c22 : (fun (P : Program) (f : FuncId) (fn : Func) (s : ChangeSpec) (c : OpenClaim) => ((c.plainKeys == P.plainKeys) : Bool)) Tryd.pinned.checked.prog 3 Tryd.f3 Rows.advanceAsksSpec Rows.advanceAsksRow = true := by kernel_rfl
theorem c23 : (fun (P : Program) (f : FuncId) (fn : Func) (s : ChangeSpec) (c : OpenClaim) => (c.shortTexts.isNone : Bool)) Tryd.pinned.checked.prog 3 Tryd.f3 Rows.advanceAsksSpec Rows.advanceAsksRow = true := by kernel_rfl
theorem c24 : (fun (P : Program) (f : FuncId) (fn : Func) (s : ChangeSpec) (c : OpenClaim) => (P.stopsHeard : Bool)) Tryd.pinned.checked.prog 3 Tryd.f3 Rows.advanceAsksSpec Rows.advanceAsksRow = true := by kernel_rfl
theorem c25 : (fun (P : Program) (f : FuncId) (fn : Func) (s : ChangeSpec) (c : OpenClaim) => (P.mayEnter : Bool)) Tryd.pinned.checked.prog 3 Tryd.f3 Rows.advanceAsksSpec Rows.advanceAsksRow = true := by kernel_rfl
theorem c26 : (fun (P : Program) (f : FuncId) (fn : Func) (s : ChangeSpec) (c : OpenClaim) => ((c.lifted == P.liftsFinal) : Bool)) Tryd.pinned.checked.prog 3 Tryd.f3 Rows.advanceAsksSpec Rows.advanceAsksRow = true := by kernel_rfl
theorem c27 : (fun (P : Program) (f : FuncId) (fn : Func) (s : ChangeSpec) (c : OpenClaim) => ((P.make == some c.make) : Bool)) Tryd.pinned.checked.prog 3 Tryd.f3 Rows.advanceAsksSpec Rows.advanceAsksRow = true := by kernel_rfl
theorem c28 : (fun (P : Program) (f : FuncId) (fn : Func) (s : ChangeSpec) (c : OpenClaim) => ((c.kinds == (if c.domain.isEmpty then [] else fn.params.toList.map fun t => match P.underlying t with | some (.int k) => some k | _ => none)) : Bool)) Tryd.pinned.checked.prog 3 Tryd.f3 Rows.advanceAsksSpec Rows.advanceAsksRow = true := by kernel_rfl
theorem c29 : (fun (P : Program) (f : FuncId) (fn : Func) (s : ChangeSpec) (c : OpenClaim) => ((c.pinned == c.pinnedBy) : Bool)) Tryd.pinned.checked.prog 3 Tryd.f3 Rows.advanceAsksSpec Rows.advanceAsksRow = true := by kernel_rfl
theorem c30 : (fun (P : Program) (f : FuncId) (fn : Func) (s : ChangeSpec) (c : OpenClaim) => ((c.veiled == (fn.params.toList ++ s.plain.varTypes P ++ fn.resultTypes.toList).any (P.veiledRec ·)) : Bool)) Tryd.pinned.checked.prog 3 Tryd.f3 Rows.advanceAsksSpec Rows.advanceAsksRow = true := by kernel_rfl
theorem c31 : (fun (P : Program) (f : FuncId) (fn : Func) (s : ChangeSpec) (c : OpenClaim) => (c.veiledFits P fn.params.toList (fn.params.toList ++ s.plain.varTypes P ++ fn.resultTypes.toList) : Bool)) Tryd.pinned.checked.prog 3 Tryd.f3 Rows.advanceAsksSpec Rows.advanceAsksRow = true := by kernel_rfl
theorem inst : Tryd.f3.isInstance Tryd.pinned.checked.prog Rows.advanceAsksRow.origin Rows.advanceAsksRow.targs := (of_decide_eq_true (by kernel_rfl))
theorem wrap : Tryd.f3.isWrapper Tryd.pinned.checked.prog Rows.advanceAsksRow.wrapper Rows.advanceAsksRow.mainSum := by unfold Func.isWrapper; first | (rw [if_pos (by decide +kernel)]; kernel_rfl) | (rw [if_neg (by decide +kernel)]; exact ⟨rfl, rfl⟩)
theorem nmd : Tryd.pinned.checked.prog.funcNamed Rows.advanceAsksRow.func = some 3 := by kernel_rfl
end Go.Proofs.YtbmajijnjkicmaaDoor.advanceAsks




namespace Go.Proofs.YtbmajijnjkicmaaDoor.advanceAsks
open Go.ChangeShapes Go.WideShapes Go.ChangeAt Go.RowKit
set_option linter.unusedVariables false

set_option maxRecDepth 100000 in
theorem closed : joinedFacts Tryd.pinned.checked.prog 3 Tryd.f3 Rows.advanceAsksSpec Rows.advanceAsksRow = true := (and2 (and2 (and2 (and2 (and2 (and2 (and2 (and2 (and2 (and2 (and2 (and2 (and2 (and2 (and2 (and2 (and2 (and2 (and2 (and2 (and2 (and2 (and2 (and2 (and2 (and2 (and2 (and2 (and2 (and2 (and2 c0 c1) c2) c3) c4) c5) c6) c7) c8) c9) c10) c11) c12) c13) c14) c15) c16) c17) c18) c19) c20) c21) c22) c23) c24) c25) c26) c27) c28) c29) c30) c31)
theorem over : Rows.advanceAsksRow.holds Tryd.pinned (OpenSpec.ofChange Rows.advanceAsksSpec) :=
  OpenClaim.holds_of_wide 3 Tryd.f3 rfl rfl rfl rfl rfl rfl rfl ⟨rfl, rfl, rfl, rfl, rfl⟩ rfl rfl rfl rfl rfl nmd Tryd.func3 closed inst wrap (fun os started H enc _ => lifted os started H enc)
end Go.Proofs.YtbmajijnjkicmaaDoor.advanceAsks


