/- Texts of this claim, joined. No condition. -/
import Derived.Test.YtchjlaebbhpioaaGreatDoorCFJ7
import Derived.ProofKit
import Derived.OpenShut
import Derived.ShutString
import Derived.ChangeOld
import Derived.Below
import Derived.SizedLaws
import Derived.Lay
import Derived.LaidMore
import Derived.Test.YtchjlaebbhpioaaGreatDoorTie
import Derived.Test.YtchjlaebbhpioaaGreatDoorCards
import Derived.SevenTiedAt
set_option linter.unusedSimpArgs false
set_option linter.unusedVariables false
namespace Go.Proofs.YtchjlaebbhpioaaGreatDoor.clientFresh
open Go.ChangeShapes Go.WideShapes Go.ChangeAt Go.RowKit
set_option linter.unusedVariables false
theorem j3{a b:Bool}(h1:a=true)(h2:b=true):(a&&b)=true:=by rw[h1,h2];rfl
noncomputable abbrev Q(X:Program->FuncId->Func->ChangeSpec->OpenClaim->Bool):=X Tryz.pinned.checked.prog 3 Tryz.f3 Rows.clientFreshSpec Rows.clientFreshRow
theorem c0:Q (λP f fn s c=>c.wf (OpenSpec.ofChange s))=true:=by kernel_rfl
theorem c1:Q (λP f fn s c=>laidOutB P)=true:=by kernel_rfl
theorem c2:Q (λP f fn s c=>mapsRowed P)=true:=by kernel_rfl
theorem c3:Q (λP f fn s c=>fn.params.all (P.readableRec ·))=true:=by kernel_rfl
theorem c4:Q (λP f fn s c=>namedTie P c.named s.vars)=true:=by kernel_rfl
theorem c5:Q (λP f fn s c=>(c.stops==[]))=true:=by kernel_rfl
theorem c6:Q (λP f fn s c=>(P.stops==[]))=true:=by kernel_rfl
theorem c7:Q (λP f fn s c=>(c.knobs==[]))=true:=by kernel_rfl
theorem c8:Q (λP f fn s c=>(P.stopKnobs==[]))=true:=by kernel_rfl
theorem c9:Q (λP f fn s c=>(c.inPlace==P.inPlace f))=true:=by kernel_rfl
theorem c10:Q (λP f fn s c=>(c.unfollowed==P.unfollowed f))=true:=by kernel_rfl
theorem c11:Q (λP f fn s c=>(c.recurses==P.recurses f))=true:=by kernel_rfl
theorem c12:Q (λP f fn s c=>(c.named==P.varsNamed f))=true:=by kernel_rfl
theorem c13:Q (λP f fn s c=>(c.maps==(fn.params.toList++s.plain.varTypes P).any (P.mapsRec ·)))=true:=by kernel_rfl
theorem c14:Q (λP f fn s c=>(c.ifaces==(fn.params.toList++s.plain.varTypes P).any (P.ifacesRec ·)))=true:=by kernel_rfl
theorem c15:Q (λP f fn s c=>(c.mapsOut==P.mapsAmong fn.resultTypes.toList))=true:=by kernel_rfl
theorem c16:Q (λP f fn s c=>(c.loops==(fn.params.toList++s.plain.varTypes P).any (P.loopsFrom ·)))=true:=by kernel_rfl
theorem c17:Q (λP f fn s c=>(c.wideKeys==(fn.params.toList++s.plain.varTypes P++fn.resultTypes.toList).any (P.wideKeysFrom ·)))=true:=by kernel_rfl
theorem c18:Q (λP f fn s c=>s.vars.all (P.varReadable ·))=true:=by kernel_rfl
theorem c19:Q (λP f fn s c=>fn.resultTypes.all (λt=>P.readableRec t&&decide (t<P.types.size)))=true:=by kernel_rfl
theorem c20:Q (λP f fn s c=>(c.ifacesOut==fn.resultTypes.toList.any (P.ifacesRec ·)))=true:=by kernel_rfl
theorem c21:Q (λP f fn s c=>(c.loopsOut==fn.resultTypes.toList.any (P.loopsFrom ·)))=true:=by kernel_rfl
theorem c22:Q (λP f fn s c=>(c.plainKeys==P.plainKeys))=true:=by kernel_rfl
theorem c23:Q (λP f fn s c=>c.shortTexts.isNone)=true:=by kernel_rfl
theorem c24:Q (λP f fn s c=>P.stopsHeard)=true:=by kernel_rfl
theorem c25:Q (λP f fn s c=>P.mayEnter)=true:=by kernel_rfl
theorem c26:Q (λP f fn s c=>(c.lifted==P.liftsFinal))=true:=by kernel_rfl
theorem c27:Q (λP f fn s c=>(P.make==some c.make))=true:=by kernel_rfl
theorem c28:Q (λP f fn s c=>(c.kinds==(if c.domain.isEmpty then[]else fn.params.toList.map λt=>match P.underlying t with|some (.int k)=>some k|_=>none)))=true:=by kernel_rfl
theorem c29:Q (λP f fn s c=>(c.pinned==c.pinnedBy))=true:=by kernel_rfl
theorem c30:Q (λP f fn s c=>(c.veiled==(fn.params.toList++s.plain.varTypes P++fn.resultTypes.toList).any (P.veiledRec ·)))=true:=by kernel_rfl
theorem c31:Q (λP f fn s c=>c.veiledFits P fn.params.toList (fn.params.toList++s.plain.varTypes P++fn.resultTypes.toList))=true:=by kernel_rfl
theorem inst:Tryz.f3.isInstance Tryz.pinned.checked.prog Rows.clientFreshRow.origin Rows.clientFreshRow.targs:=(of_decide_eq_true (by kernel_rfl))
theorem wrap:Tryz.f3.isWrapper Tryz.pinned.checked.prog Rows.clientFreshRow.wrapper Rows.clientFreshRow.mainSum:=by unfold Func.isWrapper;first|(rw[aB (by decide+kernel)];kernel_rfl)|(rw[aq (by decide+kernel)];exact⟨rfl,rfl⟩)
theorem nmd:Tryz.pinned.checked.prog.funcNamed Rows.clientFreshRow.func=some 3:=by kernel_rfl
end Go.Proofs.YtchjlaebbhpioaaGreatDoor.clientFresh
namespace Go.Proofs.YtchjlaebbhpioaaGreatDoor.clientFresh
open Go.ChangeShapes Go.WideShapes Go.ChangeAt Go.RowKit
set_option linter.unusedVariables false
set_option maxRecDepth 100000 in
theorem closed:joinedFacts Tryz.pinned.checked.prog 3 Tryz.f3 Rows.clientFreshSpec Rows.clientFreshRow=true:=(j3 (j3 (j3 (j3 (j3 (j3 (j3 (j3 (j3 (j3 (j3 (j3 (j3 (j3 (j3 (j3 (j3 (j3 (j3 (j3 (j3 (j3 (j3 (j3 (j3 (j3 (j3 (j3 (j3 (j3 (j3 c0 c1) c2) c3) c4) c5) c6) c7) c8) c9) c10) c11) c12) c13) c14) c15) c16) c17) c18) c19) c20) c21) c22) c23) c24) c25) c26) c27) c28) c29) c30) c31)
theorem over:Rows.clientFreshRow.holds Tryz.pinned (OpenSpec.ofChange Rows.clientFreshSpec):=
 OpenClaim.holds_of_wide 3 Tryz.f3 rfl rfl rfl rfl rfl rfl rfl ⟨rfl,rfl,rfl,rfl,rfl⟩ rfl rfl rfl rfl rfl nmd Tryz.func3 closed inst wrap (λos started H enc _=>lifted os started H enc)
end Go.Proofs.YtchjlaebbhpioaaGreatDoor.clientFresh
