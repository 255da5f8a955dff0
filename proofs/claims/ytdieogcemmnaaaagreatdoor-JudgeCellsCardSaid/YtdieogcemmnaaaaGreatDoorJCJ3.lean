/- Texts of this claim, joined. No condition. -/
import Derived.Test.YtdieogcemmnaaaaGreatDoorJCJ1
import Derived.Test.YtdieogcemmnaaaaGreatDoorJCJ2
import Derived.Lib.Builder
import Derived.Lib.UnsafeStr
import Derived.Laws.Externs
import Derived.Lib.AppendStr
import Derived.Sort.Row
import Derived.Sort.Grow
import Derived.KernelRfl
set_option linter.unusedSimpArgs false
set_option linter.unusedVariables false
namespace Go.Proofs.YtdieogcemmnaaaaGreatDoor
set_option linter.unusedSimpArgs false
set_option linter.unusedVariables false
open Go.Proofs.YtdieogcemmnaaaaGreatDoor RX Go.Lib
set_option maxRecDepth 100000
theorem _root_.Go.Proofs.YtdieogcemmnaaaaGreatDoor.ORead.imp {P:Program} {s:Sem Next} {A A':HP} {v:Value} (r:ORead P s A v) (f : ∀ R h,A'.p R h → A.p R h):ORead P s A' v:=fun w R h F st a=>r w R h F st (f R h a)
theorem eqNilP {i:Nat} {ty u t e:TypeId} (hg:Tryz.prog.eqGuardType Tryz.prog.depth t=false) (hu:Tryz.prog.underlying t=some (.pointer e)) {p:Option Addr} {A:HP}:ORead Tryz.prog (semW (.binOp .eql t (.tmp i) (.const (.pointer none)) u) ty [(i,.pointer p)]) A (.bool (!p.isSome)):=fun w R hh F s _=>by
 have he:(Op.equal t (.pointer p) (.pointer none)).run Tryz.prog w = .ok (!p.isSome) w:=RX.run_equal fun n=>by cases p <;> simp [Op.equalIn,RX.run_underlying hu]
 simp only [semW,execOp,arW,List.find?_cons,beq_self_eq_true]
 simp [eqGuard,binOp,hg,program,Sem.run_bind,Result.andThen,he]
theorem neqNilP {i:Nat} {ty u t e:TypeId} (hg:Tryz.prog.eqGuardType Tryz.prog.depth t=false) (hu:Tryz.prog.underlying t=some (.pointer e)) {p:Option Addr} {A:HP}:ORead Tryz.prog (semW (.binOp .neq t (.tmp i) (.const (.pointer none)) u) ty [(i,.pointer p)]) A (.bool p.isSome):=fun w R hh F s _=>by
 have he:(Op.equal t (.pointer p) (.pointer none)).run Tryz.prog w = .ok (!p.isSome) w:=RX.run_equal fun n=>by cases p <;> simp [Op.equalIn,RX.run_underlying hu]
 simp only [semW,execOp,arW,List.find?_cons,beq_self_eq_true]
 simp [eqGuard,binOp,hg,program,Sem.run_bind,Result.andThen,he]
theorem nilChk' {p:Addr} {A:HP}:ORead Tryz.prog (nilS (.pointer (some p))) A (.pointer (some p)):=fun w R hh F s _=>by
 simp [nilS,semW,execOp,arW]
theorem guardB:Tryz.prog.eqGuardType Tryz.prog.depth 323=false:=by kernel_rfl
theorem undBp:Tryz.prog.underlying 323=some (.pointer 325):=by kernel_rfl
theorem undUp:Tryz.prog.underlying 351=some .unsafePointer:=by kernel_rfl
theorem undB8:Tryz.prog.underlying 28=some (.slice 5):=by kernel_rfl
def BC (b:Nat) (p:Option Addr) (a:Option Addr) (n c:Nat):HP:=HP.one b (.cells #[.pointer p,.slice a n c] 325 (0,0))
def BRep (b:Nat) (l:List UInt8):HP:=HP.ex fun p=>HP.ex fun a=>HP.ex fun c=>HP.and (p=none ∨ p=some ⟨b,0,none⟩) (HP.sep (BC b p a l.length c) (OwB a l.length c l))
theorem BRep.new (b:Nat) {R h:PH} (H:(HP.one b (.cells #[.pointer none,.slice none 0 0] 325 (0,0))).p R h):(BRep b []).p R h :=
 ⟨none,none,0,.inl rfl,HP.sep_comm (HP.sep_mono (HP.tt_sep H) (fun _ _=>OwC.nil _ _ _ _) fun _ h=>h)⟩
theorem loadP {b:Nat} {p a:Option Addr} {n c:Nat} {K:HP}:ORead Tryz.prog (loadS 323 (.pointer (some ⟨b,0,none⟩))) (HP.sep (BC b p a n c) K) (.pointer p):=by
 have:=load1_ok (t:=323) undBp (by kernel_rfl) (by kernel_rfl) (Rd.left (B:=K) (one_rd b #[.pointer p,.slice a n c] 325)) (k:=0) (off:=0) (v := .pointer p) rfl
 simpa [BC,Addr.add_zero'] using this
theorem loadBuf {b:Nat} {p a:Option Addr} {n c:Nat} {K:HP}:ORead Tryz.prog (loadS 28 (.pointer (some ⟨b,1,none⟩))) (HP.sep (BC b p a n c) K) (.slice a n c):=by
 have:=load1_ok (t:=28) undB8 (by kernel_rfl) (by kernel_rfl) (Rd.left (B:=K) (one_rd b #[.pointer p,.slice a n c] 325)) (k:=1) (off:=0) (v := .slice a n c) rfl
 simpa [BC,RX.addr_add] using this
theorem infoBld:(Tryz.prog.info? 325).map (·.size)=some 2:=by kernel_rfl
theorem liesBld:liesAt Tryz.prog Tryz.prog.depth 325 (2 / Tryz.prog.cellsOf 325) 0 325 1=true:=by kernel_rfl
def convSt (s d:TypeId) (u:Value):Sem Next:=do pure (.value (← convert s d u))
theorem semW_convSt {s d ty:TypeId} {i:Nat} {u:Value}:semW (.convert s d (.tmp i)) ty [(i,u)]=convSt s d u:=by simp [semW,execOp,arW,convSt]
theorem BC.shape {b:Nat} {p a:Option Addr} {n c:Nat} {w:World} {R h F:PH} (s:Sat w R h F) (H:(BC b p a n c).p R h):w.shape? b=some (325,2):=by
 have:=s.oh _ _ H
 simp [World.shape?,this]
theorem toUnsafe {b:Nat} {p a:Option Addr} {n c:Nat} {K:HP}:ORead Tryz.prog (convSt 323 351 (.pointer (some ⟨b,0,none⟩))) (HP.sep (BC b p a n c) K) (.pointer (some ⟨b,0,none⟩)):=fun w R h F s H=>by
 obtain ⟨j,hj,hjs⟩:=Option.map_eq_some_iff.1 infoBld
 have:=Lib.run_to_unsafe (P:=Tryz.prog) (w:=w) ⟨b,0,none⟩ undBp undUp hj (by rw [hjs]; decide) (BC.shape s (HP.sep_left H)) (by decide:(0:Nat) < 2)
 unfold convSt; rw [Sem.run_bind,this]; rfl
theorem fromUnsafe {b:Nat} {p a:Option Addr} {n c:Nat} {K:HP}:ORead Tryz.prog (convSt 351 323 (.pointer (some ⟨b,0,none⟩))) (HP.sep (BC b p a n c) K) (.pointer (some ⟨b,0,none⟩)):=fun w R h F s H=>by
 obtain ⟨j,hj,hjs⟩:=Option.map_eq_some_iff.1 infoBld
 have:=Lib.run_from_unsafe (P:=Tryz.prog) (w:=w) ⟨b,0,none⟩ undUp undBp hj (BC.shape s (HP.sep_left H)) liesBld
 unfold convSt; rw [Sem.run_bind,this]; rfl
theorem noEsc {i:Nat} {x:Value} (A:HP):OTri Tryz.prog (semW (.call ⟨.value (.func 274),#[.tmp i],#[351]⟩) 351 [(i,x)]) A (fun v=>HP.and (v=x) A):=fun w R h F s a=>by
 have hr:(callFunc 274 #[x]).run Tryz.prog w = .ok (.value x) w:=by
  rw [run_callFunc_extern Tryz.func274 (by kernel_rfl) (by kernel_rfl) (by kernel_rfl) (e:=Extern.AbiNoEscape.same) (by kernel_rfl)]
  rw [Lib.run_noEscape]; rfl
 refine ⟨.value x,x,w,?_,rfl,Same.refl w,R,h,PH.le.refl _,s,rfl,a⟩
 rw [← hr]
 simp [semW,execOp,resolve,arW,invoke,Deferred.ofValue]
theorem storeP {b:Nat} {p a:Option Addr} {n c:Nat} (q:Option Addr):OTri Tryz.prog (storeS 323 (.pointer (some ⟨b,0,none⟩)) (.pointer q)) (BC b p a n c) (fun v=>HP.and (v = .tuple #[]) (BC b q a n c)):=by
 obtain ⟨i,hi⟩ : ∃ i,Tryz.prog.info? 323=some i:=Option.isSome_iff_exists.1 (by kernel_rfl)
 have hz:i.size=1:=by
  have:(Tryz.prog.info? 323).map (·.size)=some 1:=by kernel_rfl
  rw [hi] at this; simpa using this
 exact storeOne_ok hi 325 b #[.pointer p,.slice a n c] 0 (.pointer q) [.pointer q] rfl hz (by simp) (by simp [Value.oneCell']) (by simp) (by unfold maxLen; simp)
theorem storeBuf {b:Nat} {p a:Option Addr} {n c:Nat} (a':Option Addr) (n' c':Nat):OTri Tryz.prog (storeS 28 (.pointer (some ⟨b,1,none⟩)) (.slice a' n' c')) (BC b p a n c) (fun v=>HP.and (v = .tuple #[]) (BC b p a' n' c')):=by
 obtain ⟨i,hi⟩ : ∃ i,Tryz.prog.info? 28=some i:=Option.isSome_iff_exists.1 (by kernel_rfl)
 have hz:i.size=1:=by
  have:(Tryz.prog.info? 28).map (·.size)=some 1:=by kernel_rfl
  rw [hi] at this; simpa using this
 exact storeOne_ok hi 325 b #[.pointer p,.slice a n c] 1 (.slice a' n' c') [.slice a' n' c'] rfl hz (by simp) (by simp [Value.oneCell']) (by simp) (by unfold maxLen; simp)
theorem copyCheck_ok (b:Nat) (l:List UInt8):Tri Tryz.prog 266 #[.pointer (some ⟨b,0,none⟩)] (BRep b l) (fun v=>HP.and (v = .tuple #[]) (BRep b l)):=by
 refine Tri.ex fun p=>Tri.ex fun a=>Tri.ex fun c => ?_
 refine Tri.fact (φ:=p=none ∨ p=some ⟨b,0,none⟩) (fun R h H=>H.1) fun hp => ?_
 refine Tri.weak (A:=HP.sep (BC b p a l.length c) (OwB a l.length c l)) ?_ (fun _ _ h=>h.2) fun _ _ _ h=>h
 refine tri_of_tree (ρ:=[.v (.pointer (some ⟨b,0,none⟩)),.p (HP.sep (BC b p a l.length c) (OwB a l.length c l))]) mixed Tryz.func266 tree_bCopyCheck ?_
 unfold t_bCopyCheck
 simp only [T.den,E.prop,E.den,RX.look,F1.app,F2.app,Uni.int_i,Uni.nat_n,Uni.bool_c,Uni.str_s,Uni.adr_a,Uni.val_v,Uni.hp_p,hden,cden,V.den,W.den,A.den,BR.den,SA.den,FV.den,capV,exs,exP,allP,Cur.app,List.map_cons,List.map_nil,List.cons_append,List.nil_append,List.drop_succ_cons,List.drop_zero,List.length_cons,List.length_nil,Nat.zero_add,Nat.reduceAdd,Int.neg_neg,Bool.not_not,List.append_nil,Nat.add_zero,List.getElem?_cons_zero,List.getElem?_cons_succ,Decidable.not_not,semW_eq,semW_load,semW_store,semW_storeC,semW_nil,ne_eq,Nat.reduceEqDiff,not_false_eq_true,oneC]
 refine ⟨b,nilChk',.pointer p,loadP,!p.isSome,eqNilP guardB undBp,fun h => ?_,fun h => ?_⟩
 ·refine ⟨.pointer (some ⟨b,0,none⟩),by rw [semW_convSt]; exact toUnsafe,?_⟩
  refine (noEsc (HP.sep (BC b p a l.length c) (OwB a l.length c l))).weak (fun _ _ h=>h) ?_
  rintro v R hh ⟨rfl,H⟩
  refine ⟨.pointer (some ⟨b,0,none⟩),HP.tt,HP.sep (BC b p a l.length c) (OwB a l.length c l),rfl,⟨.pointer (some ⟨b,0,none⟩),?_,b,nilChk',?_⟩,HP.tt_sep H⟩
  ·rw [semW_convSt]; exact fromUnsafe.imp fun _ _ H=>HP.sep_right H
  ·refine ((storeP (some ⟨b,0,none⟩)).frame (OwB a l.length c l)).weak (fun _ _ H=>HP.sep_left H) ?_
   rintro v R hh ⟨h1,h2,d,l1,l2,⟨rfl,hc⟩,ho⟩
   refine ⟨BRep b l,rfl,.of fun R h H=>⟨trivial,H⟩,some ⟨b,0,none⟩,a,c,.inr rfl,h1,h2,d,l1,l2,hc,ho⟩
 ·have hp':p=some ⟨b,0,none⟩:=by
   rcases hp with rfl | rfl
   ·simp at h
   ·rfl
  subst hp'
  refine ⟨b,nilChk',.pointer (some ⟨b,0,none⟩),loadP,false,?_,fun h=>by simp at h,fun _ => .of fun R h H=>⟨trivial,_,_,_,.inr rfl,H⟩⟩
  intro w R h F s H
  obtain ⟨j,hj,_⟩:=Option.map_eq_some_iff.1 infoBld
  have:=Lib.run_neq_ptr_same (P:=Tryz.prog) (w:=w) ⟨b,0,none⟩ undBp hj
  simp only [semW,execOp,arW,List.find?_cons,beq_self_eq_true]
  simp [eqGuard,guardB,program,Sem.run_bind,Result.andThen,this]
def appStr (t u ty:TypeId) (x y:Value):Sem Next:=do pure (.value (← Builtin.append_ #[t,u] ty #[x,y]))
theorem semW_appStr {t u ty:TypeId} {i j:Nat} {x y:Value} (h:i ≠ j):semW (.call ⟨.builtin .append,#[.tmp i,.tmp j],#[t,u]⟩) ty [(i,x),(j,y)]=appStr t u ty x y:=by
 have h':(i == j)=false:=by simpa using h
 simp [semW,execOp,resolve,arW,invoke,builtin,h',appStr]
theorem strCells_eq (l:List UInt8):strCells ⟨l.toArray⟩=l.map u8v:=by simp [strCells,u8v]
theorem app_str_at {w:World} (ty:TypeId) (v:Value) (n:Nat) (xs:List Value) (hown:w.ownsRow 0 5 1 v n xs) (s:ByteArray) (hb:n + s.size ≤ 140737488355328) :
  ∃ v' w',(Builtin.append_ #[28,9] ty #[v,.string s]).run Tryz.prog w = .ok v' w' ∧ w'.ownsRow 0 5 1 v' (n + s.size) (xs ++ strCells s) ∧ w.grownBy w' v.ownBlock ∧
   (v' = .slice none 0 0 ↔ v = .slice none 0 0 ∧ s.size=0) ∧ (v'.ownBlock=v.ownBlock ∨ v'.ownBlock=some w.heap.size):=by
 obtain ⟨i,hi,h1,h2,h3⟩:=info_parts info8
 have h63:n + s.size ≤ maxLen:=by unfold maxLen; omega
 have hxl:xs.length=n:=by simpa using hown.1
 obtain ⟨v',w',hr,ho,hg,hn⟩:=run_append_own_string (P:=Tryz.prog) w 0 28 9 ty 5 i und8 undStr hi h1 h2 h3 v n xs hown s h63 hb (Nat.zero_le _)
 refine ⟨v',w',hr,ho,hg,hn,?_⟩
 rcases hown.2 with ⟨rfl,rfl⟩ | ⟨g,cap,cur,rfl,_,hgg,hnc,hcm,hcs,htake⟩
 ·by_cases hm:s.size=0
  ·have:=hn.2 ⟨rfl,hm⟩
   subst this
   exact .inl rfl
  ·have hr2:=run_append_nil_string (P:=Tryz.prog) w 28 9 ty 5 i (.int .u8 0) und8 undStr hi h1 s (by omega) (by omega) (by rw [h3]; omega)
   rw [hr] at hr2
   cases hr2
   exact .inr rfl
 ·by_cases hroom:n + s.size ≤ cap
  ·have hr2:=run_append_room_string (P:=Tryz.prog) w 28 9 ty 5 i und8 undStr hi h2 g n cap cur hgg s hroom (by omega)
   rw [hr] at hr2
   cases hr2
   exact .inl rfl
  ·have holds : ∀ j u,xs[j]? = some u → w.cell? ((⟨g,0,none⟩:Addr).add j)=some u:=hown.cells (g:=g) rfl
   have hr2:=run_append_grow_string (P:=Tryz.prog) w 28 9 ty 5 i (.int .u8 0) und8 undStr hi h1 ⟨g,0,none⟩ n cap xs (by rw [h2]; simpa using hxl) holds s (by omega) (by omega) (by rw [h3]; exact growslice_fits (by omega) (by omega))
   rw [hr] at hr2
   cases hr2
   exact .inr rfl
theorem appendStr_ok (ty:TypeId) (a:Option Addr) (n c:Nat) (l q:List UInt8) (S:HP) (hb:n + q.length ≤ 140737488355328) :
  OTri Tryz.prog (appStr 28 9 ty (.slice a n c) (sE q)) (HP.sep (OwB a n c l) S)
   (fun v=>HP.ex fun a'=>HP.ex fun c'=>HP.and (v = .slice a' (n + q.length) c') (HP.sep (OwB a' (n + q.length) c' (l ++ q)) S)):=by
 rintro w R h F s ⟨x1,x2,d,l1,l2,⟨hxl,hx⟩,hS⟩
 have hown:w.ownsRow 0 5 1 (.slice a n c) n (l.map u8v):=by
  refine ⟨hxl,?_⟩
  rcases hx with ⟨rfl,rfl,rfl⟩ | ⟨g,cur,rfl,hg,q⟩
  ·exact .inl ⟨rfl,rfl⟩
  ·exact .inr ⟨g,c,cur,rfl,Nat.zero_le _,s.oh _ _ (l1 _ _ hg),q⟩
 obtain ⟨v',w',hrun,ho',hg,hnil,hblk⟩:=app_str_at ty (.slice a n c) n (l.map u8v) hown ⟨q.toArray⟩ hb
 rw [strCells_eq,← List.map_append] at ho'
 have hsz:(⟨q.toArray⟩:ByteArray).size=q.length:=rfl
 rw [hsz] at ho' hnil
 obtain ⟨hl',hsh⟩:=ho'
 have hS':Same w w':=⟨hg.os,hg.tape,hg.output,hg.size⟩
 have s1:=s.cut d l1 l2
 have hdF:x2.dj F:=s.dhF.le l2 (PH.le.refl _)
 rcases hsh with ⟨rfl,h0⟩ | ⟨g',cap,cur,rfl,_,hcell,q1,q2,q3,q4⟩
 ·have hn0:n=0:=by omega
  have hm0:q.length=0:=by omega
  have e1:=hnil.1 rfl
  cases e1.1
  have hsame : ∀ k,k < w.heap.size → w'.heap[k]? = w.heap[k]? := fun k hk=>hg.block k hk (by simp [Value.ownBlock])
  have own' : ∀ g:PH,g.own w → g.own w':=fun g og k y e=>by rw [hsame k (og.lt e)]; exact og k y e
  refine ⟨_,_,w',by unfold appStr sE; rw [Sem.run_bind,hrun]; rfl,rfl,hS',R,x1.un x2,PH.le.refl _,⟨(PH.dj_un (s.dRh.le (PH.le.refl _) l1).symm (s.dRh.le (PH.le.refl _) l2).symm).symm,s.dRF,PH.dj_un (s.dhF.le l1 (PH.le.refl _)) hdF,own' _ s.oR,own' _ (s.oh.le (PH.un_le l1 l2)),own' _ s.oF,s.gl⟩,none,0,?_,x1,x2,d,PH.un_left _ _,PH.un_right d,?_,hS⟩
  ·rw [hn0,hm0]
  ·exact ⟨hl',.inl ⟨rfl,by omega,rfl⟩⟩
 ·have s2:=Sat.grown s1 (row:=(Value.slice a n c).ownBlock) (fun g hgr=>by
   rcases hx with ⟨rfl,_⟩ | ⟨g0,cur0,rfl,hg0,_⟩
   ·cases hgr
   ·cases hgr; rw [hg0]; simp) hg hcell (by
    rcases hblk with e | e
    ·exact .inl e.symm
    ·cases e; exact .inr (Nat.le_refl _))
  obtain ⟨s3,d3⟩:=s2.join hdF
  exact ⟨_,_,w',by unfold appStr sE; rw [Sem.run_bind,hrun]; rfl,rfl,hS',R,_,PH.le.refl _,s3,some ⟨g',0,none⟩,cap,rfl,PH.one g' (.cells cur 5 (0,0)),x2,d3,PH.un_left _ _,PH.un_right d3,⟨hl',.inr ⟨g',cur,rfl,PH.one_self _ _,q1,q2,q3,q4⟩⟩,hS⟩
theorem putBuf {b:Nat} {p a a':Option Addr} {n c n' c':Nat} {l:List UInt8} {B:Value → HP} (hp:p=none ∨ p=some ⟨b,0,none⟩) (hn:n'=l.length) (post : ∀ R h,(BRep b l).p R h → (B (.tuple #[])).p R h) :
  OTri Tryz.prog (storeS 28 (.pointer (some ⟨b,1,none⟩)) (.slice a' n' c')) (HP.sep (BC b p a n c) (OwB a' n' c' l)) B:=by
 subst hn
 refine ((storeBuf (p:=p) (a:=a) (n:=n) (c:=c) a' l.length c').frame (OwB a' l.length c' l)).weak (fun _ _ h=>h) ?_
 rintro v R hh ⟨h1,h2,d,l1,l2,⟨rfl,hc⟩,ho⟩
 exact post _ _ ⟨p,a',c',hp,h1,h2,d,l1,l2,hc,ho⟩
theorem wByteB_ok (b:Nat) (l:List UInt8) (x:UInt8) (hb:l.length ≤ 100000):Tri Tryz.prog 247 #[.pointer (some ⟨b,0,none⟩),.int .u8 x.toNat] (BRep b l) (fun v=>HP.and (v = .nilIface) (BRep b (l ++ [x]))):=by
 refine tri_of_tree (ρ:=[.v (.pointer (some ⟨b,0,none⟩)),.p (BRep b l),.i x.toNat]) mixed Tryz.func247 tree_bWriteByte ?_
 unfold t_bWriteByte
 simp only [T.den,E.prop,E.den,RX.look,F1.app,F2.app,Uni.int_i,Uni.nat_n,Uni.bool_c,Uni.str_s,Uni.adr_a,Uni.val_v,Uni.hp_p,hden,cden,V.den,W.den,A.den,BR.den,SA.den,FV.den,capV,exs,exP,allP,Cur.app,List.map_cons,List.map_nil,List.cons_append,List.nil_append,List.drop_succ_cons,List.drop_zero,List.length_cons,List.length_nil,Nat.zero_add,Nat.reduceAdd,Int.neg_neg,Bool.not_not,List.append_nil,Nat.add_zero,List.getElem?_cons_zero,List.getElem?_cons_succ,Decidable.not_not,semW_eq,semW_load,semW_store,semW_storeC,semW_append,semW_nil,ne_eq,Nat.reduceEqDiff,not_false_eq_true,oneC]
 refine (copyCheck_ok b l).weak (fun _ _ h=>h) ?_
 rintro v R h ⟨rfl,p,a,c,hp,H⟩
 refine ⟨HP.sep (BC b p a l.length c) (OwB a l.length c l),rfl,⟨b,nilChk',a,l.length,c,loadBuf,fun y => ?_⟩,H⟩
 clear H
 have ap:=append8 a l.length c l (HP.one y (.cells #[.int .u8 x.toNat] 5 (0,0))) (some ⟨y,0,none⟩) 1 1 [x] ⟨one_rd y #[.int .u8 x.toNat] 5,fun R h H hq=>by cases hq⟩ rfl (fun _=>rfl) (by omega)
 refine (ap.frame (BC b p a l.length c)).weak (fun R h H => ?_) ?_
 ·exact HP.sep_comm (HP.sep_assoc H)
 ·rintro v R h ⟨h1,h2,d,l1,l2,⟨a',c',rfl,H⟩,hBC⟩
  refine ⟨a',l.length + 1,c',OwB a' (l.length + 1) c' (l ++ [x]),BC b p a l.length c,rfl,⟨b,nilChk',?_⟩,HP.pick [_,_,_] [0,2,1] (by decide) rfl (HP.sep_assoc ⟨h1,h2,d,l1,l2,H,hBC⟩)⟩
  exact putBuf hp (by simp) fun R h H=>⟨BRep b (l ++ [x]),rfl,.of fun R h H=>⟨trivial,H⟩,H⟩
theorem wStringB_ok (b:Nat) (l q:List UInt8) (hb:l.length + q.length ≤ 100000):Tri Tryz.prog 248 #[.pointer (some ⟨b,0,none⟩),sE q] (BRep b l) (fun v=>HP.and (v = .tuple #[.int .i64 q.length,.nilIface]) (BRep b (l ++ q))):=by
 refine tri_of_tree (ρ:=[.v (.pointer (some ⟨b,0,none⟩)),.p (BRep b l),.s q]) mixed Tryz.func248 tree_bWriteString ?_
 unfold t_bWriteString
 simp only [T.den,E.prop,E.den,RX.look,F1.app,F2.app,Uni.int_i,Uni.nat_n,Uni.bool_c,Uni.str_s,Uni.adr_a,Uni.val_v,Uni.hp_p,hden,cden,V.den,W.den,A.den,BR.den,SA.den,FV.den,capV,exs,exP,allP,Cur.app,List.map_cons,List.map_nil,List.cons_append,List.nil_append,List.drop_succ_cons,List.drop_zero,List.length_cons,List.length_nil,Nat.zero_add,Nat.reduceAdd,Int.neg_neg,Bool.not_not,List.append_nil,Nat.add_zero,List.getElem?_cons_zero,List.getElem?_cons_succ,Decidable.not_not,semW_eq,semW_load,semW_store,semW_storeC,semW_append,semW_nil,ne_eq,Nat.reduceEqDiff,not_false_eq_true,oneC]
 refine (copyCheck_ok b l).weak (fun _ _ h=>h) ?_
 rintro v R h ⟨rfl,p,a,c,hp,H⟩
 refine ⟨HP.sep (BC b p a l.length c) (OwB a l.length c l),rfl,⟨b,nilChk',a,l.length,c,loadBuf,?_⟩,H⟩
 clear H
 rw [semW_appStr (by decide)]
 refine (appendStr_ok 28 a l.length c l q (BC b p a l.length c) (by omega)).weak (fun _ _ H=>HP.sep_comm H) ?_
 rintro v R h ⟨a',c',rfl,H⟩
 refine ⟨a',l.length + q.length,c',OwB a' (l.length + q.length) c' (l ++ q),BC b p a l.length c,rfl,⟨b,nilChk',?_⟩,H⟩
 exact putBuf hp (by simp) fun R h H=>⟨BRep b (l ++ q),rfl,.of fun R h H=>⟨trivial,H⟩,H⟩
def usdS (ts:Array TypeId) (ty:TypeId) (x:Value):Sem Next:=do pure (.value (← Builtin.unsafeSliceData_ ts ty #[x]))
theorem semW_usd {ts:Array TypeId} {ty:TypeId} {i:Nat} {x:Value}:semW (.call ⟨.builtin .unsafeSliceData,#[.tmp i],ts⟩) ty [(i,x)]=usdS ts ty x:=by
 simp [semW,execOp,resolve,arW,invoke,builtin,usdS]
def ussS (ts:Array TypeId) (ty:TypeId) (x y:Value):Sem Next:=do pure (.value (← Builtin.unsafeString_ ts ty #[x,y]))
theorem semW_uss {ts:Array TypeId} {ty:TypeId} {i j:Nat} {x y:Value} (h:i ≠ j):semW (.call ⟨.builtin .unsafeString,#[.tmp i,.tmp j],ts⟩) ty [(i,x),(j,y)]=ussS ts ty x y:=by
 have h':(i == j)=false:=by simpa using h
 simp [semW,execOp,resolve,arW,invoke,builtin,h',ussS]
theorem usd_ok (ts:Array TypeId) (ty:TypeId) (g n c:Nat) (hc:c ≠ 0) (A:HP):OTri Tryz.prog (usdS ts ty (.slice (some ⟨g,0,none⟩) n c)) A (fun v=>HP.and (v = .pointer (some ⟨g,0,none⟩)) A) :=
 OTri.ofRead (v := .pointer (some ⟨g,0,none⟩)) (fun w R h F s a=>by
  unfold usdS
  rw [Sem.run_bind,run_unsafeSliceData_row w ts ty ⟨g,0,none⟩ n c hc]; rfl) fun R h H=>⟨rfl,H⟩
theorem undPb:Tryz.prog.underlying 344=some (.pointer 5):=by kernel_rfl
theorem cells8:Tryz.prog.cellsOf 5=1:=by kernel_rfl
theorem freeze_other {w:World} {g k n:Nat} (hk:k ≠ g):(w.freeze ⟨g,0,none⟩ n).heap[k]? = w.heap[k]? := by
 unfold World.freeze
 split
 ·rfl
 ·simp only [Array.getElem?_modify]
  rw [if_neg (Ne.symm hk)]
theorem freeze_same (w:World) (g n:Nat):Same w (w.freeze ⟨g,0,none⟩ n):=by
 unfold World.freeze
 split
 ·exact Same.refl w
 ·exact ⟨rfl,rfl,rfl,by simp⟩
theorem uss_ok (it ty:TypeId) (g c:Nat) (l:List UInt8) (h0:l ≠ []):OTri Tryz.prog (ussS #[344,it] ty (.pointer (some ⟨g,0,none⟩)) (.int .i64 l.length)) (OwB (some ⟨g,0,none⟩) l.length c l) (fun v=>HP.and (v=sE l) HP.tt):=by
 rintro w R h F s ⟨hl,hx⟩
 rcases hx with ⟨h1,_⟩ | ⟨g',cur,e,hg,q1,q2,q3,q4⟩
 ·cases h1
 cases e
 have hw:=s.oh _ _ hg
 have hrun:=run_unsafeString_row (P:=Tryz.prog) w 344 it ty 5 undPb cells8 g cur.size (by simp [World.shape?,hw]) l h0 (by omega) (by unfold maxLen at q2; omega) (fun j x hj=>by
  rw [RX.addr_add,cell_at hw]
  have:(cur.toList.take (l.length * 1))[0 + j]? = some (u8v x):=by rw [q4]; simp [hj]
  rw [List.getElem?_take] at this
  split at this
  ·simpa [u8v] using this
  ·cases this)
 refine ⟨.value (sE l),sE l,w.freeze ⟨g,0,none⟩ l.length,by unfold ussS; rw [Sem.run_bind,hrun]; rfl,rfl,freeze_same w g _,R,PH.none',PH.le.refl _,⟨PH.dj_none _,s.dRF,PH.none_dj _,?_,(by intro k o e; cases e),?_,s.gl⟩,rfl,trivial⟩
 ·intro k o hk
  have:k ≠ g:=fun e=>by subst e; rcases s.dRh k with h1 | h1 <;> simp_all
  rw [freeze_other this]; exact s.oR k o hk
 ·intro k o hk
  have:k ≠ g:=fun e=>by subst e; rcases s.dhF k with h1 | h1 <;> simp_all
  rw [freeze_other this]; exact s.oF k o hk
set_option maxHeartbeats 1000000 in
theorem stringB_ok (b:Nat) (l:List UInt8) (h0:l ≠ []):Tri Tryz.prog 249 #[.pointer (some ⟨b,0,none⟩)] (BRep b l) (fun v=>HP.and (v=sE l) HP.tt):=by
 refine Tri.ex fun p=>Tri.ex fun a=>Tri.ex fun c => ?_
 refine Tri.weak (A:=HP.sep (BC b p a l.length c) (OwB a l.length c l)) ?_ (fun _ _ h=>h.2) fun _ _ _ h=>h
 have hl:l.length ≠ 0:=by simpa using h0
 refine Tri.fact (φ:=(∃ g,a=some ⟨g,0,none⟩) ∧ c ≠ 0) (fun R h H => ?_) ?_
 ·rcases (HP.sep_right H).2 with ⟨_,h1,_⟩ | ⟨g,cur,rfl,_,h1,_⟩
  ·exact absurd h1 hl
  ·exact ⟨⟨g,rfl⟩,by omega⟩
 rintro ⟨⟨g,rfl⟩,hc⟩
 refine tri_of_tree (ρ:=[.n b,.p (HP.sep (BC b p (some ⟨g,0,none⟩) l.length c) (OwB (some ⟨g,0,none⟩) l.length c l))]) mixed Tryz.func249 tree_bString ?_
 unfold t_bString
 simp only [T.den,E.prop,E.den,RX.look,F1.app,F2.app,Uni.int_i,Uni.nat_n,Uni.bool_c,Uni.str_s,Uni.adr_a,Uni.val_v,Uni.hp_p,hden,cden,V.den,W.den,A.den,BR.den,SA.den,FV.den,capV,exs,exP,allP,Cur.app,List.map_cons,List.map_nil,List.cons_append,List.nil_append,List.drop_succ_cons,List.drop_zero,List.length_cons,List.length_nil,Nat.zero_add,Nat.reduceAdd,Int.neg_neg,Bool.not_not,List.append_nil,Nat.add_zero,List.getElem?_cons_zero,List.getElem?_cons_succ,Decidable.not_not,semW_eq,semW_load,ne_eq,Nat.reduceEqDiff,not_false_eq_true]
 have ld : ∀ K:HP,ORead Tryz.prog (loadS 28 (.pointer (some ⟨b,1,none⟩))) (HP.sep (BC b p (some ⟨g,0,none⟩) l.length c) K) (.slice (some ⟨g,0,none⟩) l.length c):=fun K=>loadBuf
 have ld1:ORead Tryz.prog (loadS 28 (.pointer (some ⟨b,1,none⟩))) (BC b p (some ⟨g,0,none⟩) l.length c) (.slice (some ⟨g,0,none⟩) l.length c):=(ld HP.tt).imp fun _ _ H=>HP.sep_tt H
 refine ⟨fun s P=>s=l,⟨some ⟨g,0,none⟩,l.length,c,ld _,?_,some ⟨g,0,none⟩,l.length,c,ld _,?_⟩,?_⟩
 ·rw [semW_usd]
  refine (usd_ok _ _ g l.length c hc (HP.sep (BC b p (some ⟨g,0,none⟩) l.length c) (OwB (some ⟨g,0,none⟩) l.length c l))).weak (fun _ _ h=>h) ?_
  rintro v R h ⟨rfl,H⟩
  refine ⟨g,OwB (some ⟨g,0,none⟩) l.length c l,BC b p (some ⟨g,0,none⟩) l.length c,rfl,⟨some ⟨g,0,none⟩,l.length,c,ld1,?_⟩,HP.sep_comm H⟩
  rw [semW_uss (by decide)]
  refine (uss_ok _ _ g c l h0).weak (fun _ _ h=>h) ?_
  rintro v R h ⟨rfl,H⟩
  exact ⟨l,HP.tt,rfl,by simp [RX.look],H⟩
 ·rw [semW_usd]
  refine (usd_ok _ _ g l.length c hc (HP.sep (BC b p (some ⟨g,0,none⟩) l.length c) (OwB (some ⟨g,0,none⟩) l.length c l))).weak (fun _ _ h=>h) ?_
  rintro v R h ⟨rfl,H⟩
  refine ⟨g,OwB (some ⟨g,0,none⟩) l.length c l,BC b p (some ⟨g,0,none⟩) l.length c,rfl,?_,HP.sep_comm H⟩
  rw [semW_uss (by decide)]
  refine (uss_ok _ _ g c l h0).weak (fun _ _ h=>h) ?_
  rintro v R h ⟨rfl,H⟩
  exact ⟨l,HP.tt,rfl,by simp [RX.look],H⟩
 ·rintro s P rfl
  exact .of fun R h H=>⟨rfl,trivial⟩
end Go.Proofs.YtdieogcemmnaaaaGreatDoor

namespace Go.Proofs.YtdieogcemmnaaaaGreatDoor
set_option linter.unusedSimpArgs false
set_option linter.unusedVariables false
open Go.Proofs.YtdieogcemmnaaaaGreatDoor RX
set_option maxRecDepth 100000
def nameOk (s:List UInt8):Bool:=decide (1 ≤ s.length) && decide (s.length ≤ 16) && decide (s ≠ [46]) && decide (s ≠ [46,46]) && decide ((47:UInt8) ∉ s) && decide ((0:UInt8) ∉ s)
def splitP (s:List UInt8):Option (List (List UInt8)) :=
 if s=[47] then some [] else match s with
 | b :: r=>if b=47 then (let l:=splitB 47 r; if l.length ≤ 8 ∧ l.all nameOk=true then some l else none) else none
 | []=>none
def joinN (l:List (List UInt8)):List UInt8:=l.flatMap fun x=>47 :: x
def joinP (l:List (List UInt8)):List UInt8:=if l=[] then [47] else joinN l
theorem splitB_join (c:UInt8) : ∀ s:List UInt8,(splitB c s).flatMap (fun x=>c :: x)=c :: s
 | []=>rfl
 | b :: r=>by
  have ih:=splitB_join c r
  unfold splitB
  by_cases h:b=c
  ·subst h; rw [if_pos rfl]; simp [ih]
  ·rw [if_neg h]
   cases hq:splitB c r with
   | nil=>rw [hq] at ih; simp at ih
   | cons x q=>rw [hq] at ih; simp at ih ⊢; exact ih
theorem pName_ok (s:List UInt8) (Q:HP):Tri Tryz.prog 205 #[sE s] Q (fun v=>HP.and (v = .bool (nameOk s)) Q):=by
 refine (show Tri Tryz.prog 205 #[sE s] HP.tt (fun v=>HP.and (v = .bool (nameOk s)) HP.tt) from ?_).conseq (K:=Q) (.of fun R h H=>HP.tt_sep H) fun v => .of fun R h ⟨h1,h2,d,l1,l2,⟨e,_⟩,H⟩=>⟨e,Q.mono (PH.le.refl _) l2 H⟩
 refine tri_of_tree (ρ:=[.s s]) mixed Tryz.func205 tree_pName ?_
 unfold t_pName
 simp only [T.den,E.prop,E.den,RX.look,F1.app,F2.app,Uni.int_i,Uni.nat_n,Uni.bool_c,Uni.str_s,Uni.adr_a,Uni.val_v,Uni.hp_p,hden,cden,V.den,W.den,A.den,BR.den,SA.den,FV.den,capV,exs,exP,allP,Cur.app,List.map_cons,List.map_nil,List.cons_append,List.nil_append,List.drop_succ_cons,List.drop_zero,List.length_cons,List.length_nil,Nat.zero_add,Nat.reduceAdd,Int.neg_neg,Bool.not_not,List.append_nil,Nat.add_zero,List.getElem?_cons_zero,List.getElem?_cons_succ,Decidable.not_not,semW_eq,ne_eq,Nat.reduceEqDiff,not_false_eq_true]
 refine ⟨fun h => .of fun R h' H=>⟨?_,trivial⟩,fun h1=>⟨fun h => .of fun R h' H=>⟨?_,trivial⟩,fun h2=>⟨fun h => .of fun R h' H=>⟨?_,trivial⟩,fun h3=>⟨fun h => .of fun R h' H=>⟨?_,trivial⟩,fun h4 => ?_⟩⟩⟩⟩
 ·have : ¬ (1 ≤ s.length):=by omega
  simp [nameOk,this]
 ·have : ¬ (s.length ≤ 16):=by omega
  simp [nameOk,this]
 ·simp [nameOk,h]
 ·simp [nameOk,h]
 refine (indexByte_ok s 47 HP.tt).weak (fun _ _ h=>h) ?_
 rintro v R h ⟨rfl,H⟩
 refine ⟨Lib.indexByte s 47,rfl,⟨fun hlt => ?_,fun hge => .of fun R h H=>⟨?_,trivial⟩⟩,H⟩
 ·refine (indexByte_ok s 0 HP.tt).weak (fun _ _ h=>h) ?_
  rintro v R h ⟨rfl,H⟩
  refine ⟨Lib.indexByte s 0,rfl,.of fun R h H=>⟨?_,trivial⟩,H⟩
  have e1:(47:UInt8) ∉ s:=idx_neg_iff.1 hlt
  have q1:1 ≤ s.length:=by omega
  have q2:s.length ≤ 16:=by omega
  simp only [nameOk,q1,q2,h3,h4,e1,ne_eq,not_false_eq_true,decide_true,Bool.and_self,Bool.true_and,Value.bool.injEq]
  rw [decide_eq_decide]
  exact idx_neg_iff
 ·have e1:(47:UInt8) ∈ s:=Classical.byContradiction fun h=>hge (idx_neg_iff.2 h)
  simp [nameOk,e1]
theorem sliceStr (s:List UInt8) (lo hi:Option Nat) (h1:lo.getD 0 ≤ hi.getD s.length) (h2:hi.getD s.length ≤ s.length) (Q:HP) :
  ORead Tryz.prog (sliceS 9 (sE s) (iv lo) (iv hi) none) Q (sE ((s.take (hi.getD s.length)).drop (lo.getD 0))):=fun w R h F st a=>by
 have e:(⟨s.toArray⟩:ByteArray).extract (lo.getD 0) (hi.getD s.length)=⟨((s.take (hi.getD s.length)).drop (lo.getD 0)).toArray⟩:=by
  have:((⟨s.toArray⟩:ByteArray).extract (lo.getD 0) (hi.getD s.length)).data=(((s.take (hi.getD s.length)).drop (lo.getD 0)).toArray):=by
   rw [ByteArray.data_extract]
   apply Array.ext'
   simp [List.drop_take]
  cases hq:(⟨s.toArray⟩:ByteArray).extract (lo.getD 0) (hi.getD s.length)
  rw [hq] at this
  simp only at this
  rw [this]
 have hs:(⟨s.toArray⟩:ByteArray).size=s.length:=rfl
 unfold sliceS Instr.sliceAt Instr.slice sE
 cases lo <;> cases hi <;> simp only [Option.getD_some,Option.getD_none] at h1 h2 e ⊢ <;> simp [iv,RX.run_underlying undStr,Instr.sliceBounds,hs,run_bound,h1,h2,e]
theorem set_app {α:Type} {l:List α} {k:Nat} (h:l.length=k) (x y:α) (r:List α):(l ++ y :: r).set k x=l ++ x :: r:=by
 subst h; simp [List.set_append]
theorem sliceTo {t e:TypeId} {i:TypeInfo} (ht:Tryz.prog.underlying t=some (.slice e)) (hi:Tryz.prog.info? e=some i) (S:HP) (a:Option Addr) (n c k:Nat) (hk:k ≤ n) (hn:n ≤ c) :
  ORead Tryz.prog (sliceS t (.slice a n c) none (some (.int .i64 k)) none) S (.slice a k c):=by
 have:=slice_ok ht hi S a n c none (some k) none (Nat.zero_le _) (by simp; omega) (Nat.le_refl _) (fun h=>by cases h)
 have e1:(a.map fun x=>x.add 0)=a:=by cases a <;> simp [Addr.add_zero']
 simpa [iv,e1] using this
theorem inI64' (x:Int) (h1 : -9223372036854775808 ≤ x) (h2:x ≤ 9223372036854775807):IntKind.i64.min ≤ x ∧ x ≤ IntKind.i64.max:=⟨h1,h2⟩
theorem storeStr {a:Option Addr} {n c:Nat} {l:List (List UInt8)} {k:Nat} (x:List UInt8) (hk:k < n) {P:HP} (hP:HP.ent P (OwS a n c l)) {B:Value → HP} (post : ∀ R h,(OwS a n c (l.set k x)).p R h → (B (.tuple #[])).p R h) :
  OTri Tryz.prog (storeS 9 (.pointer (a.map fun y=>(y.add (k * 1)).add 0)) (sE x)) P B:=by
 obtain ⟨i,hi,h1,h2,h3⟩:=info_parts infoStr
 have:=store_ok (t:=9) hi 9 1 a n c (l.map sE) (k * 1) 0 (sE x) [sE x] rfl (by rw [h2]; rfl) (by simp) (by simp [sE,Value.oneCell']) (by simp; omega)
 refine (OTri.fact (φ:=l.length=n) (fun R h H=>by have:=H.1; simpa using this) fun hl => ?_:OTri _ _ (OwS a n c l) B).conseq (K:=HP.tt) (hP.trans (.of fun R h H=>HP.sep_tt H)) fun v => .of fun R h H=>HP.sep_left H
 refine this.weak (fun _ _ h=>h) ?_
 rintro v R h ⟨rfl,H⟩
 refine post R h ?_
 have e:(l.map sE).take (k * 1 + 0) ++ [sE x] ++ (l.map sE).drop (k * 1 + 0 + [sE x].length)=(l.set k x).map sE:=by
  rw [List.map_set,List.set_eq_take_append_cons_drop,if_pos (by simp; omega)]
  simp
 rw [e] at H
 exact H
set_option maxHeartbeats 1000000 in
theorem genSplit_ok (s:List UInt8) (hs:s.length ≤ 1000):Tri Tryz.prog 251 #[sE s,sE [47],.int .i64 0,.int .i64 (-1)] HP.tt (fun v=>HP.ex fun a=>HP.ex fun c=>HP.and (v = .slice a (splitB 47 s).length c) (OwS a (splitB 47 s).length c (splitB 47 s))):=by
 refine tri_of_tree (ρ:=[.s s,.s [47],.i 0,.i (-1)]) mixed Tryz.func251 tree_sGenSplit ?_
 unfold t_sGenSplit
 simp only [T.den,E.prop,E.den,RX.look,F1.app,F2.app,Uni.int_i,Uni.nat_n,Uni.bool_c,Uni.str_s,Uni.adr_a,Uni.val_v,Uni.hp_p,hden,cden,V.den,W.den,A.den,BR.den,SA.den,FV.den,capV,exs,exP,allP,Cur.app,List.map_cons,List.map_nil,List.cons_append,List.nil_append,List.drop_succ_cons,List.drop_zero,List.length_cons,List.length_nil,Nat.zero_add,Nat.reduceAdd,Int.neg_neg,Bool.not_not,List.append_nil,Nat.add_zero,List.getElem?_cons_zero,List.getElem?_cons_succ,Decidable.not_not,semW_eq,semW_store,semW_storeC,ne_eq,Nat.reduceEqDiff,not_false_eq_true]
 have hlen:=splitB_len 47 s
 have hcl:s.count 47 ≤ s.length:=List.count_le_length
 refine ⟨fun h=>absurd h (by decide),fun _=>⟨fun h=>absurd h (by decide),fun _=>⟨fun _ => ?_,fun h=>absurd h (by decide)⟩⟩⟩
 refine (count1_ok s 47 HP.tt).weak (fun _ _ h=>h) ?_
 rintro v R h ⟨rfl,H⟩
 refine ⟨s.count 47,rfl,⟨inI64' _ (by omega) (by omega),fun _=>⟨inI64' _ (by omega) (by omega),fun _ => ?_⟩⟩,H⟩
 clear H
 rw [semW_mk]
 generalize hN:s.count 47=N at *
 have hmin:min ((N:Int) + 1) ((s.length:Int) + 1)=((N + 1:Nat):Int):=by omega
 simp only [hmin]
 obtain ⟨i0,hi0,z1,z2,z3⟩:=info_parts infoStr
 refine (mk_ok undSs hi0 z1 rfl z2 (N + 1) (by rw [z3]; omega) (by unfold maxLen; omega) HP.tt).weak (fun _ _ h=>h) ?_
 rintro v R h ⟨x,rfl,H⟩
 refine ⟨some ⟨x,0,none⟩,N + 1,N + 1,OwS (some ⟨x,0,none⟩) (N + 1) (N + 1) (List.replicate (N + 1) []),rfl,⟨inI64' _ (by omega) (by omega),fun _ => ?_⟩,?_⟩
 ·clear H
  refine ⟨fun s' i P => ∃ (k:Nat) (done:List (List UInt8)),i=k ∧ k ≤ N ∧ done.length=k ∧ splitB 47 s=done ++ splitB 47 s' ∧ s'.count 47=N - k ∧ s'.length ≤ 1000 ∧ HP.ent P (OwS (some ⟨x,0,none⟩) (N + 1) (N + 1) (done ++ List.replicate (N + 1 - k) [])),
   fun _ i _=>N - i.toNat,⟨0,[],rfl,Nat.zero_le _,rfl,rfl,by omega,hs,.refl _⟩,?_⟩
  rintro s' _ P ⟨k,done,rfl,hk,hd,hsp,hc,hs',hP⟩
  refine ⟨fun hlt => ?_,fun hge => ?_⟩
  ·refine (index1_ok s' 47 HP.tt).weak (fun _ _ h=>h) ?_
   rintro v R h ⟨rfl,H⟩
   refine ⟨Lib.indexByte s' 47,rfl,⟨fun hneg => ?_,fun hnn => ?_⟩,H⟩
   ·have:=idx_neg hneg; omega
   ·clear H
    obtain ⟨o,ho⟩ : ∃ o:Nat,Lib.indexByte s' 47=o:=⟨_,(Int.toNat_of_nonneg (by omega)).symm⟩
    rw [ho]
    obtain ⟨q1,q2,q3⟩:=splitB_at ho
    simp only [Int.add_zero,Int.toNat_natCast]
    refine ⟨inI64' _ (by omega) (by omega),fun _=>⟨s'.take o,sliceStr s' none (some o) (Nat.zero_le _) (by simp; omega) HP.tt,by omega,fun _=>⟨by omega,fun _=>⟨rfl,fun _ => ?_⟩⟩⟩⟩
    refine storeStr (k:=k) (s'.take o) (by omega) hP fun R h H => ?_
    refine ⟨_,rfl,⟨inI64' _ (by simp; omega) (by simp; omega),fun _=>⟨s'.drop (o + 1),?_,inI64' _ (by omega) (by omega),fun _ => ?_⟩⟩,H⟩
    ·have:=sliceStr s' (some (o + 1)) none (by simp; omega) (by simp) HP.tt
     simp only [Option.getD_none,List.take_length] at this
     exact this
    ·refine ⟨⟨k + 1,done ++ [s'.take o],by omega,by omega,by simp [hd],by rw [hsp,q1]; simp,by omega,by simp; omega,.of fun R h H => ?_⟩,by first | omega | (dsimp only; omega)⟩
     have e:(done ++ List.replicate (N + 1 - k) []).set k (s'.take o)=done ++ [s'.take o] ++ List.replicate (N + 1 - (k + 1)) []:=by
      obtain ⟨m,hm⟩ : ∃ m,N + 1 - k=m + 1:=⟨N - k,by omega⟩
      rw [hm,show N + 1 - (k + 1)=m by omega,List.replicate_succ,set_app hd]
      simp
     rw [← e]; exact H
  ·obtain rfl:k=N:=by omega
   have h0:s'.count 47=0:=by omega
   rw [splitB_none h0] at hsp
   simp only [Int.toNat_natCast]
   refine ⟨by omega,fun _=>⟨by omega,fun _=>⟨rfl,fun _ => ?_⟩⟩⟩
   refine storeStr (k:=k) s' (by omega) hP fun R h H => ?_
   refine ⟨_,rfl,⟨inI64' _ (by omega) (by omega),fun _=>⟨some ⟨x,0,none⟩,k + 1,k + 1,?_,.of fun R h H => ?_⟩⟩,H⟩
   ·exact sliceTo undSs hi0 _ _ _ _ (k + 1) (Nat.le_refl _) (Nat.le_refl _)
   ·have e:(done ++ List.replicate (k + 1 - k) []).set k s'=splitB 47 s:=by
     rw [hsp,show k + 1 - k=1 by omega]; exact set_app hd s' [] []
    rw [e] at H
    exact ⟨some ⟨x,0,none⟩,k + 1,by rw [hlen],by rw [hlen]; exact H⟩
 ·have e:(List.replicate (N + 1) (Value.string ByteArray.empty))=(List.replicate (N + 1) ([]:List UInt8)).map sE:=by
   rw [List.map_replicate]; rfl
  rw [e] at H
  exact HP.sep_left H
theorem sSplit_ok (s:List UInt8) (hs:s.length ≤ 1000):Tri Tryz.prog 215 #[sE s,sE [47]] HP.tt (fun v=>HP.ex fun a=>HP.ex fun c=>HP.and (v = .slice a (splitB 47 s).length c) (OwS a (splitB 47 s).length c (splitB 47 s))):=by
 refine tri_of_tree (ρ:=[.s s,.s [47]]) mixed Tryz.func215 tree_sSplit ?_
 unfold t_sSplit
 simp only [T.den,E.prop,E.den,RX.look,F1.app,F2.app,Uni.int_i,Uni.nat_n,Uni.bool_c,Uni.str_s,Uni.adr_a,Uni.val_v,Uni.hp_p,hden,cden,V.den,W.den,A.den,BR.den,SA.den,FV.den,capV,exs,exP,allP,Cur.app,List.map_cons,List.map_nil,List.cons_append,List.nil_append,List.drop_succ_cons,List.drop_zero,List.length_cons,List.length_nil,Nat.zero_add,Nat.reduceAdd,Int.neg_neg,Bool.not_not,List.append_nil,Nat.add_zero,List.getElem?_cons_zero,List.getElem?_cons_succ,Decidable.not_not,semW_eq,ne_eq,Nat.reduceEqDiff,not_false_eq_true]
 refine (genSplit_ok s hs).weak (fun _ _ _=>trivial) ?_
 rintro v R h ⟨a,c,rfl,H⟩
 exact ⟨a,_,c,OwS a (splitB 47 s).length c (splitB 47 s),rfl,.of fun R h H=>⟨a,c,rfl,H⟩,H⟩
theorem loadStr {S:HP} {a:Option Addr} {l:List (List UInt8)} {k:Nat} {x:List UInt8} (r:Rd S a (l.map sE)) (hk:l[k]? = some x) :
  ORead Tryz.prog (loadS 9 (.pointer (a.map fun y=>(y.add (k * 1)).add 0))) S (sE x) :=
 load1_ok undStr aggStr szStr r (k:=k * 1) (off:=0) (by simp [hk])
set_option maxHeartbeats 1000000 in
theorem sIndexF_ok (S:HP) (a:Option Addr) (n c:Nat) (l:List (List UInt8)) (hr:RdL S a n (l.map sE)) (hl:l.length=n) (hn:n ≤ 100000) (fv:Value) (h1:oneC fv=fv) (p:List UInt8 → Bool)
  (hf : ∀ x,VTri Tryz.prog fv #[sE x] HP.tt fun v=>HP.and (v = .bool (p x)) HP.tt) :
  Tri Tryz.prog 252 #[.slice a n c,fv] S (fun v=>HP.ex fun r:Int=>HP.and (v = .int .i64 r ∧ (0 ≤ r ↔ l.any p=true)) S):=by
 refine Tri.conseq (K:=HP.tt) (A:=HP.sep S HP.tt) (B:=fun v=>HP.ex fun r:Int=>HP.and (v = .int .i64 r ∧ (0 ≤ r ↔ l.any p=true)) (HP.sep S HP.tt)) ?_ (.of fun R h H=>HP.sep_tt (HP.sep_tt H)) fun v => .of fun R h H=>by
  obtain ⟨r,e,H⟩:=HP.sep_left H
  exact ⟨r,e,HP.sep_left H⟩
 refine Tri.fact (φ:=a=none → n=0) (fun R h H=>hr.none R _ (HP.sep_left H)) fun hnil => ?_
 have:=tri_of_tree (ρ:=[.a a,.n n,.n c,.p S,.v fv,.p HP.tt]) mixed Tryz.func252 (t:=t_sIndexF) (post:=fun v=>HP.ex fun r:Int=>HP.and (v = .int .i64 r ∧ (0 ≤ r ↔ l.any p=true)) (HP.sep S HP.tt)) tree_sIndexF ?_
 ·simpa [W.den,RX.A.den,SA.den,E.den,RX.look,h1,hden,cden] using this
 unfold t_sIndexF
 simp only [T.den,E.prop,E.den,RX.look,F1.app,F2.app,Uni.int_i,Uni.nat_n,Uni.bool_c,Uni.str_s,Uni.adr_a,Uni.val_v,Uni.hp_p,hden,cden,V.den,W.den,A.den,BR.den,SA.den,FV.den,capV,exs,exP,allP,Cur.app,List.map_cons,List.map_nil,List.cons_append,List.nil_append,List.drop_succ_cons,List.drop_zero,List.length_cons,List.length_nil,Nat.zero_add,Nat.reduceAdd,Int.neg_neg,Bool.not_not,List.append_nil,Nat.add_zero,List.getElem?_cons_zero,List.getElem?_cons_succ,Decidable.not_not,semW_eq,semW_load,ne_eq,Nat.reduceEqDiff,not_false_eq_true]
 refine ⟨fun _ i P => ∃ k:Nat,i=k ∧ k ≤ n ∧ P=HP.tt ∧ ∀ q x,q < k → l[q]? = some x → p x=false,fun _ i _=>n - i.toNat,⟨0,rfl,Nat.zero_le _,rfl,fun q x h=>by omega⟩,?_⟩
 rintro _ _ _ ⟨k,rfl,hk,rfl,hall⟩
 refine ⟨fun hlt=>⟨by omega,fun _=>⟨?_,fun _ => ?_⟩⟩,fun hge => .of fun R h H=>⟨-1,⟨rfl,?_⟩,H⟩⟩
 ·cases a with
  | none=>have:=hnil rfl; omega
  | some _=>rfl
 ·have hkl:k < l.length:=by omega
  refine ⟨l[k],loadStr hr.rd (List.getElem?_eq_getElem hkl),?_⟩
  refine (hf l[k]).weak (fun _ _ _=>trivial) ?_
  rintro v R h ⟨rfl,H⟩
  refine ⟨p l[k],HP.tt,rfl,⟨fun hp => .of fun R h H=>⟨k,⟨rfl,?_⟩,H⟩,fun hp=>⟨inI64' _ (by omega) (by omega),fun _=>⟨⟨k + 1,by omega,by omega,rfl,fun q x hq hx => ?_⟩,by first | omega | (dsimp only; omega)⟩⟩⟩,H⟩
  ·refine ⟨fun _=>List.any_eq_true.2 ⟨l[k],List.getElem_mem hkl,hp⟩,fun _=>by omega⟩
  ·rcases Nat.lt_or_ge q k with h | h
   ·exact hall q x h hx
   ·obtain rfl:q=k:=by omega
    rw [List.getElem?_eq_getElem hkl] at hx
    cases hx
    simpa using hp
 ·refine ⟨fun h=>by omega,fun h => ?_⟩
  obtain ⟨x,hx,hp⟩:=List.any_eq_true.1 h
  obtain ⟨q,hq,rfl⟩:=List.mem_iff_getElem.1 hx
  have:=hall q l[q] (by omega) (List.getElem?_eq_getElem hq)
  rw [hp] at this; cases this
theorem sContainsF_ok (S:HP) (a:Option Addr) (n c:Nat) (l:List (List UInt8)) (hr:RdL S a n (l.map sE)) (hl:l.length=n) (hn:n ≤ 100000) (fv:Value) (h1:oneC fv=fv) (p:List UInt8 → Bool)
  (hf : ∀ x,VTri Tryz.prog fv #[sE x] HP.tt fun v=>HP.and (v = .bool (p x)) HP.tt) :
  Tri Tryz.prog 217 #[.slice a n c,fv] S (fun v=>HP.and (v = .bool (l.any p)) S):=by
 refine Tri.conseq (K:=HP.tt) (A:=HP.sep S HP.tt) (B:=fun v=>HP.and (v = .bool (l.any p)) (HP.sep S HP.tt)) ?_ (.of fun R h H=>HP.sep_tt (HP.sep_tt H)) fun v => .of fun R h H=>by
  obtain ⟨e,H⟩:=HP.sep_left H
  exact ⟨e,HP.sep_left H⟩
 have:=tri_of_tree (ρ:=[.a a,.n n,.n c,.p S,.v fv,.p HP.tt]) mixed Tryz.func217 (t:=t_sContainsF) (post:=fun v=>HP.and (v = .bool (l.any p)) (HP.sep S HP.tt)) tree_sContainsF ?_
 ·simpa [W.den,RX.A.den,SA.den,E.den,RX.look,h1,hden,cden] using this
 unfold t_sContainsF
 simp only [T.den,E.prop,E.den,RX.look,F1.app,F2.app,Uni.int_i,Uni.nat_n,Uni.bool_c,Uni.str_s,Uni.adr_a,Uni.val_v,Uni.hp_p,hden,cden,V.den,W.den,A.den,BR.den,SA.den,FV.den,capV,exs,exP,allP,Cur.app,List.map_cons,List.map_nil,List.cons_append,List.nil_append,List.drop_succ_cons,List.drop_zero,List.length_cons,List.length_nil,Nat.zero_add,Nat.reduceAdd,Int.neg_neg,Bool.not_not,List.append_nil,Nat.add_zero,List.getElem?_cons_zero,List.getElem?_cons_succ,Decidable.not_not,semW_eq,ne_eq,Nat.reduceEqDiff,not_false_eq_true,h1]
 refine ((sIndexF_ok S a n c l hr hl hn fv h1 p hf).frame HP.tt).weak (fun _ _ h=>h) ?_
 rintro v R h ⟨x1,x2,d,l1,l2,⟨r,⟨rfl,hr2⟩,H⟩,H2⟩
 refine ⟨r,rfl,.of fun R h H=>⟨?_,H⟩,x1,x2,d,l1,l2,H,H2⟩
 congr 1
 cases hq:l.any p
 ·rw [hq] at hr2; simp at hr2 ⊢; omega
 ·rw [hq] at hr2; simp at hr2 ⊢; omega
theorem bad_ok (x:List UInt8):VTri Tryz.prog (.func (.func 216) #[] #[]) #[sE x] HP.tt fun v=>HP.and (v = .bool (!nameOk x)) HP.tt:=by
 refine .inl ⟨216,#[],rfl,⟨_,Tryz.func216,by kernel_rfl,by kernel_rfl⟩,?_⟩
 refine tri_of_tree (ρ:=[.s x]) mixed Tryz.func216 tree_pSplitC ?_
 unfold t_pSplitC
 simp only [T.den,E.prop,E.den,RX.look,F1.app,F2.app,Uni.int_i,Uni.nat_n,Uni.bool_c,Uni.str_s,Uni.adr_a,Uni.val_v,Uni.hp_p,hden,cden,V.den,W.den,A.den,BR.den,SA.den,FV.den,capV,exs,exP,allP,Cur.app,List.map_cons,List.map_nil,List.cons_append,List.nil_append,List.drop_succ_cons,List.drop_zero,List.length_cons,List.length_nil,Nat.zero_add,Nat.reduceAdd,Int.neg_neg,Bool.not_not,List.append_nil,Nat.add_zero,List.getElem?_cons_zero,List.getElem?_cons_succ,Decidable.not_not,semW_eq,ne_eq,Nat.reduceEqDiff,not_false_eq_true]
 refine (pName_ok x HP.tt).weak (fun _ _ h=>h) ?_
 rintro v R h ⟨rfl,H⟩
 exact ⟨nameOk x,rfl,.of fun R h H=>⟨rfl,H⟩,H⟩
theorem splitP_len {s:List UInt8} {l:List (List UInt8)} (h:splitP s=some l):l.length ≤ 8 ∧ ∀ x ∈ l,nameOk x=true:=by
 unfold splitP at h
 split at h
 ·cases h; simp
 ·split at h
  ·split at h
   ·simp only at h
    split at h
    ·rename_i hq
     cases h
     exact ⟨hq.1,fun x hx=>List.all_eq_true.1 hq.2 x hx⟩
    ·cases h
   ·cases h
  ·cases h
theorem nameOk_len {x:List UInt8} (h:nameOk x=true):1 ≤ x.length ∧ x.length ≤ 16:=by
 simp only [nameOk,Bool.and_eq_true,decide_eq_true_eq] at h
 exact ⟨h.1.1.1.1.1,h.1.1.1.1.2⟩
theorem joinN_len : ∀ {l:List (List UInt8)},(∀ x ∈ l,nameOk x=true) → (joinN l).length ≤ 17 * l.length
 | [],_=>by simp [joinN]
 | x :: r,h=>by
  have h1:=nameOk_len (h x (by simp))
  have ih:=joinN_len (l:=r) fun y hy=>h y (by simp [hy])
  simp only [joinN,List.flatMap_cons,List.length_append,List.length_cons] at ih ⊢
  omega
set_option maxHeartbeats 1000000 in
theorem pSplit_ok (s:List UInt8):Tri Tryz.prog 190 #[sE s] HP.tt (fun v=>HP.ex fun a=>HP.ex fun c=>HP.and (v = .tuple #[.slice a ((splitP s).getD []).length c,.int .i64 (if (splitP s).isSome then 0 else 20)]) (OwS a ((splitP s).getD []).length c ((splitP s).getD []))):=by
 refine tri_of_tree (ρ:=[.s s]) mixed Tryz.func190 tree_pSplit ?_
 unfold t_pSplit
 simp only [T.den,E.prop,E.den,RX.look,F1.app,F2.app,Uni.int_i,Uni.nat_n,Uni.bool_c,Uni.str_s,Uni.adr_a,Uni.val_v,Uni.hp_p,hden,cden,V.den,W.den,A.den,BR.den,SA.den,FV.den,capV,exs,exP,allP,Cur.app,List.map_cons,List.map_nil,List.cons_append,List.nil_append,List.drop_succ_cons,List.drop_zero,List.length_cons,List.length_nil,Nat.zero_add,Nat.reduceAdd,Int.neg_neg,Bool.not_not,List.append_nil,Nat.add_zero,List.getElem?_cons_zero,List.getElem?_cons_succ,Decidable.not_not,semW_eq,ne_eq,Nat.reduceEqDiff,not_false_eq_true]
 have bad : ∀ R h,splitP s=none → (HP.ex fun a=>HP.ex fun c=>HP.and ((Value.tuple #[.slice none 0 0,.int .i64 20]) = .tuple #[.slice a ((splitP s).getD []).length c,.int .i64 (if (splitP s).isSome then 0 else 20)]) (OwS a ((splitP s).getD []).length c ((splitP s).getD []))).p R h:=fun R h e=>by
  rw [e]; exact ⟨none,0,rfl,OwC.nil _ _ R h⟩
 refine ⟨fun h => .of fun R h' H => ?_,fun h1=>⟨fun h => .of fun R h' H=>bad R h' ?_,fun h2 => ?_⟩⟩
 ·have e:splitP s=some []:=by unfold splitP; rw [if_pos h]
  rw [e]; exact ⟨none,0,rfl,OwC.nil _ _ R h'⟩
 ·cases e:splitP s with
  | none=>rfl
  | some l =>
   exfalso
   obtain ⟨q1,q2⟩:=splitP_len e
   have q3:=joinN_len q2
   unfold splitP at e
   rw [if_neg h1] at e
   split at e
   ·split at e
    ·rename_i b r hb
     simp only at e
     split at e
     ·cases e
      have:=splitB_join 47 r
      unfold joinN at q3
      rw [this] at q3
      simp at h q3 q1
      omega
     ·cases e
    ·cases e
   ·cases e
 refine (hasPrefix_ok s [47] HP.tt).weak (fun _ _ h=>h) ?_
 rintro v R h ⟨rfl,H⟩
 refine ⟨([47]:List UInt8).isPrefixOf s,rfl,⟨fun hp => .of fun R h H=>bad R h ?_,fun hp => ?_⟩,H⟩
 ·unfold splitP
  rw [if_neg h1]
  cases s with
  | nil=>rfl
  | cons b r =>
   have : ¬ b=47:=fun e=>by subst e; simp at hp
   simp only [this,if_false]
 ·clear H
  obtain ⟨r,rfl⟩ : ∃ r,s=47 :: r:=by
   cases s with
   | nil=>simp at hp
   | cons b r =>
    have:b=47:=by
     simp [List.isPrefixOf] at hp; exact hp.symm
    exact ⟨r,by rw [this]⟩
  have hl:r.length ≤ 1000:=by simp at h2; omega
  have hsl:=sliceStr (47 :: r) (some 1) none (by simp) (by simp) HP.tt
  simp only [Option.getD_some,Option.getD_none,List.take_length,List.drop_succ_cons,List.drop_zero] at hsl
  refine ⟨r,hsl,?_⟩
  refine (sSplit_ok r hl).weak (fun _ _ h=>h) ?_
  rintro v R h ⟨a,c,rfl,H⟩
  have es:splitP (47 :: r)=if (splitB 47 r).length ≤ 8 ∧ (splitB 47 r).all nameOk=true then some (splitB 47 r) else none:=by
   unfold splitP; rw [if_neg h1]; simp
  refine ⟨a,_,c,OwS a (splitB 47 r).length c (splitB 47 r),rfl,⟨fun h8 => .of fun R h H=>bad R h ?_,fun h8 => ?_⟩,H⟩
  ·rw [es,if_neg (fun q=>by omega)]
  clear H
  refine Tri.fact (φ:=a=none → (splitB 47 r).length=0) (fun R h H=>(RdL.ow _ _ _ _ _ _).none R h H) fun hnil => ?_
  refine (sContainsF_ok (OwS a (splitB 47 r).length c (splitB 47 r)) a _ c (splitB 47 r) (RdL.ow _ _ _ _ _ _) rfl (by omega) (.func (.func 216) #[] #[]) rfl (fun x => !nameOk x) bad_ok).weak (fun _ _ h=>h) ?_
  rintro v R h ⟨rfl,H⟩
  refine ⟨(splitB 47 r).any fun x => !nameOk x,rfl,⟨fun hb => .of fun R h H=>bad R h ?_,fun hb => .of fun R h H => ?_⟩,H⟩
  ·rw [es,if_neg]
   rintro ⟨_,q⟩
   obtain ⟨x,hx,hx2⟩:=List.any_eq_true.1 hb
   rw [List.all_eq_true.1 q x hx] at hx2
   cases hx2
  ·have e:splitP (47 :: r)=some (splitB 47 r):=by
    have hall:(splitB 47 r).all nameOk=true:=List.all_eq_true.2 fun x hx=>by
     cases hq:nameOk x with
     | true=>rfl
     | false=>exact absurd (List.any_eq_true.2 ⟨x,hx,by simp [hq]⟩) hb
    rw [es,if_pos ⟨by omega,hall⟩]
   rw [e]
   exact ⟨a,c,rfl,H⟩
theorem joinN_app (l:List (List UInt8)) (x:List UInt8):joinN (l ++ [x])=joinN l ++ [47] ++ x:=by simp [joinN]
set_option maxHeartbeats 1000000 in
theorem pJoin_ok (S:HP) (a:Option Addr) (n c:Nat) (l:List (List UInt8)) (hr:RdL S a n (l.map sE)) (hl:l.length=n) (hn:n ≤ 8) (hok : ∀ x ∈ l,nameOk x=true) :
  Tri Tryz.prog 213 #[.slice a n c] S (fun v=>HP.and (v=sE (joinP l)) S):=by
 refine Tri.fact (φ:=a=none → n=0) (fun R h H=>hr.none R _ H) fun hnil => ?_
 refine tri_of_tree (ρ:=[.a a,.n n,.n c,.p S]) mixed Tryz.func213 tree_pJoin ?_
 unfold t_pJoin
 simp only [T.den,E.prop,E.den,RX.look,F1.app,F2.app,Uni.int_i,Uni.nat_n,Uni.bool_c,Uni.str_s,Uni.adr_a,Uni.val_v,Uni.hp_p,hden,cden,V.den,W.den,A.den,BR.den,SA.den,FV.den,capV,exs,exP,allP,Cur.app,List.map_cons,List.map_nil,List.cons_append,List.nil_append,List.drop_succ_cons,List.drop_zero,List.length_cons,List.length_nil,Nat.zero_add,Nat.reduceAdd,Int.neg_neg,Bool.not_not,List.append_nil,Nat.add_zero,List.getElem?_cons_zero,List.getElem?_cons_succ,Decidable.not_not,semW_eq,semW_load,ne_eq,Nat.reduceEqDiff,not_false_eq_true]
 refine ⟨fun h => .of fun R h' H=>⟨?_,H⟩,fun h0 b => ?_⟩
 ·have:l=[]:=List.eq_nil_of_length_eq_zero (by omega)
  rw [this]; rfl
 have hne:l ≠ []:=fun e=>by subst e; simp at hl; omega
 have bound : ∀ k,k ≤ n → (joinN (l.take k)).length ≤ 17 * k:=fun k hk=>by
  have:=joinN_len (l:=l.take k) fun x hx=>hok x (List.mem_of_mem_take hx)
  rw [List.length_take] at this; omega
 refine ⟨fun i P => ∃ k:Nat,i=k ∧ k ≤ n ∧ HP.ent P (BRep b (joinN (l.take k))),fun i _=>n - i.toNat,⟨0,rfl,Nat.zero_le _,.of fun R h H=>BRep.new b H⟩,?_⟩
 rintro _ P ⟨k,rfl,hk,hP⟩
 refine ⟨fun hlt=>⟨by omega,fun _=>⟨?_,fun _ => ?_⟩⟩,fun hge => ?_⟩
 ·cases a with
  | none=>have:=hnil rfl; omega
  | some _=>rfl
 ·have hkl:k < l.length:=by omega
  have hx:=nameOk_len (hok l[k] (List.getElem_mem hkl))
  have hb:=bound k hk
  refine ⟨l[k],loadStr hr.rd (List.getElem?_eq_getElem hkl),?_⟩
  refine (wByteB_ok b (joinN (l.take k)) 47 (by omega)).conseq (K:=HP.tt) (hP.trans (.of fun R h H=>HP.sep_tt H)) fun v => .of fun R h H => ?_
  obtain ⟨rfl,H1⟩:=HP.sep_left H
  refine ⟨.nilIface,HP.tt,BRep b (joinN (l.take k) ++ [47]),rfl,?_,HP.tt_sep H1⟩
  clear H H1
  refine (wStringB_ok b (joinN (l.take k) ++ [47]) l[k] (by simp; omega)).weak (fun _ _ h=>h) ?_
  rintro v R h ⟨rfl,H⟩
  refine ⟨l[k].length,.nilIface,HP.tt,BRep b (joinN (l.take k) ++ [47] ++ l[k]),rfl,⟨inI64' _ (by omega) (by omega),fun _=>⟨⟨k + 1,by omega,by omega,.of fun R h H => ?_⟩,by first | omega | (dsimp only; omega)⟩⟩,HP.tt_sep H⟩
  rw [List.take_succ_eq_append_getElem hkl,joinN_app]
  exact H
 ·obtain rfl:k=n:=by omega
  rw [List.take_of_length_le (by omega)] at hP
  have hj:joinN l ≠ []:=by
   cases l with
   | nil=>exact absurd rfl hne
   | cons x r=>simp [joinN]
  refine (stringB_ok b (joinN l) hj).conseq (K:=HP.tt) (hP.trans (.of fun R h H=>HP.sep_tt H)) fun v => .of fun R h H => ?_
  obtain ⟨rfl,H1⟩:=HP.sep_left H
  refine ⟨joinN l,HP.tt,rfl,.of fun R h H=>⟨?_,H⟩,H1⟩
  simp [joinP,hne,sE]
theorem RdL.cut {S:HP} {a:Option Addr} {n k:Nat} {xs:List Value} (r:RdL S a n xs) (hk:k ≤ n):RdL S a k (xs.take k) :=
 ⟨fun w R h F s H j u hj=>r.rd w R h F s H j u (by
  rw [List.getElem?_take] at hj
  split at hj
  ·exact hj
  ·cases hj),fun R h H e=>by have:=r.none R h H e; omega⟩
set_option maxHeartbeats 1000000 in
theorem pParent_ok (s:List UInt8):Tri Tryz.prog 189 #[sE s] HP.tt (fun v=>HP.pure (v=match splitP s with
  | some (x :: r) => .tuple #[sE (joinP (x :: r).dropLast),sE ((x :: r).getLast (by simp)),.int .i64 0]
  | _ => .tuple #[sE [],sE [],.int .i64 20])):=by
 refine tri_of_tree (ρ:=[.s s]) mixed Tryz.func189 tree_pParent ?_
 unfold t_pParent
 simp only [T.den,E.prop,E.den,RX.look,F1.app,F2.app,Uni.int_i,Uni.nat_n,Uni.bool_c,Uni.str_s,Uni.adr_a,Uni.val_v,Uni.hp_p,hden,cden,V.den,W.den,A.den,BR.den,SA.den,FV.den,capV,exs,exP,allP,Cur.app,List.map_cons,List.map_nil,List.cons_append,List.nil_append,List.drop_succ_cons,List.drop_zero,List.length_cons,List.length_nil,Nat.zero_add,Nat.reduceAdd,Int.neg_neg,Bool.not_not,List.append_nil,Nat.add_zero,List.getElem?_cons_zero,List.getElem?_cons_succ,Decidable.not_not,semW_eq,semW_load,ne_eq,Nat.reduceEqDiff,not_false_eq_true]
 refine (pSplit_ok s).weak (fun _ _ h=>h) ?_
 rintro v R h ⟨a,c,rfl,H⟩
 have hsome:((splitP s).getD []).length ≠ 0 → a.isSome=true:=fun hn=>OwC.some H (by omega)
 have hle:((splitP s).getD []).length ≤ c:=OwC.le H
 refine ⟨a,_,c,OwS a ((splitP s).getD []).length c ((splitP s).getD []),_,rfl,?_,H⟩
 clear H
 cases hs:splitP s with
 | none=>exact ⟨fun _ => .of fun R h H=>rfl,fun h=>by simp at h⟩
 | some l =>
  refine ⟨fun h=>absurd (by rfl) h,fun _=>⟨fun h => .of fun R h' H => ?_,fun h0 => ?_⟩⟩
  ·simp at h
   subst h; rfl
  rw [hs] at hsome hle
  simp only [Option.getD_some] at h0 hsome hle ⊢
  obtain ⟨hl8,hok⟩:=splitP_len hs
  have hlen:0 < l.length:=by omega
  obtain ⟨i,hi,_⟩:=info_parts infoStr
  obtain ⟨m,hm⟩ : ∃ m:Nat,l.length=m + 1:=⟨l.length - 1,by omega⟩
  have e1:(l.length:Int) - 1=(m:Nat):=by omega
  have rd:RdL (OwS a l.length c l) a l.length (l.map sE):=RdL.ow _ _ _ _ _ _
  have hg:l[m]? = some (l.getLast (by intro e; subst e; simp at hlen)):=by
   rw [List.getLast_eq_getElem,List.getElem?_eq_getElem (by omega)]
   congr 1
   simp [hm]
  have hdl:l.dropLast=l.take m:=by rw [List.dropLast_eq_take,hm]; rfl
  refine ⟨inI64' _ (by omega) (by omega),fun _=>⟨a,m,c,?_,by omega,fun _=>⟨by omega,fun _=>⟨hsome (by omega),fun _=>⟨l.getLast (by intro e; subst e; simp at hlen),?_,?_⟩⟩⟩⟩⟩
  ·rw [e1]
   exact sliceTo undSs hi _ a l.length c m (by omega) hle
  ·rw [e1]
   exact loadStr rd.rd hg
  ·have rd2:RdL (OwS a l.length c l) a m ((l.take m).map sE):=by
    have:=rd.cut (k:=m) (by omega)
    rwa [← List.map_take] at this
   refine (pJoin_ok (OwS a l.length c l) a m c (l.take m) rd2 (by simp; omega) (by omega) fun x hx=>hok x (List.mem_of_mem_take hx)).weak (fun _ _ h=>h) ?_
   rintro v R h ⟨rfl,H⟩
   refine ⟨joinP (l.take m),rfl,.of fun R h H => ?_,H⟩
   cases l with
   | nil=>simp at hlen
   | cons x r =>
    show _=_
    simp only [hdl]
    rfl
theorem sEqual_ok (S1 S2:HP) (a:Option Addr) (n c:Nat) (l:List (List UInt8)) (b:Option Addr) (m d:Nat) (q:List (List UInt8)) (h1:RdL S1 a n (l.map sE)) (h2:RdL S2 b m (q.map sE)) (hl:l.length=n) (hq:q.length=m) (hn:n ≤ 100000) :
  Tri Tryz.prog 169 #[.slice a n c,.slice b m d] (HP.sep S1 S2) (fun v=>HP.and (v = .bool (decide (l=q))) (HP.sep S1 S2)):=by
 refine Tri.fact (φ:=(a=none → n=0) ∧ (b=none → m=0)) (fun R h H=>⟨h1.none R _ (HP.sep_left H),h2.none R _ (HP.sep_right H)⟩) fun ⟨n1,n2⟩ => ?_
 refine tri_of_tree (ρ:=[.a a,.n n,.n c,.p S1,.a b,.n m,.n d,.p S2]) mixed Tryz.func169 tree_sEqual ?_
 unfold t_sEqual
 simp only [T.den,E.prop,E.den,RX.look,F1.app,F2.app,Uni.int_i,Uni.nat_n,Uni.bool_c,Uni.str_s,Uni.adr_a,Uni.val_v,Uni.hp_p,hden,cden,V.den,W.den,A.den,BR.den,SA.den,FV.den,capV,exs,exP,allP,Cur.app,List.map_cons,List.map_nil,List.cons_append,List.nil_append,List.drop_succ_cons,List.drop_zero,List.length_cons,List.length_nil,Nat.zero_add,Nat.reduceAdd,Int.neg_neg,Bool.not_not,List.append_nil,Nat.add_zero,List.getElem?_cons_zero,List.getElem?_cons_succ,Decidable.not_not,semW_eq,semW_load,ne_eq,Nat.reduceEqDiff,not_false_eq_true]
 refine ⟨fun h => .of fun R h' H=>⟨?_,H⟩,fun h0 => ?_⟩
 ·have:l ≠ q:=fun e=>by subst e; omega
  rw [decide_eq_false this]
 have hnm:n=m:=by omega
 refine ⟨fun _ i => ∃ k:Nat,i=k ∧ k ≤ n ∧ l.take k=q.take k,fun _ i=>n - i.toNat,⟨0,rfl,Nat.zero_le _,rfl⟩,?_⟩
 rintro _ _ ⟨k,rfl,hk,he⟩
 refine ⟨fun hlt=>⟨by omega,fun _=>⟨?_,fun _ => ?_⟩⟩,fun hge => .of fun R h H=>⟨?_,H⟩⟩
 ·cases a with
  | none=>have:=n1 rfl; omega
  | some _=>rfl
 ·have hkl:k < l.length:=by omega
  have hkq:k < q.length:=by omega
  refine ⟨l[k],loadStr h1.rd (List.getElem?_eq_getElem hkl),by omega,fun _=>⟨?_,fun _=>⟨q[k],loadStr h2.rd (List.getElem?_eq_getElem hkq),?_⟩⟩⟩
  ·cases b with
   | none=>have:=n2 rfl; omega
   | some _=>rfl
  refine ⟨fun hne => .of fun R h H=>⟨?_,H⟩,fun heq=>⟨inI64' _ (by omega) (by omega),fun _=>⟨⟨k + 1,by omega,by omega,?_⟩,by first | omega | (dsimp only; omega)⟩⟩⟩
  ·have:l ≠ q:=fun e=>by subst e; exact hne rfl
   rw [decide_eq_false this]
  ·rw [List.take_succ_eq_append_getElem hkl,List.take_succ_eq_append_getElem hkq,he]
   have:l[k]=q[k]:=heq
   rw [this]
 ·obtain rfl:k=n:=by omega
  rw [List.take_of_length_le (by omega),List.take_of_length_le (by omega)] at he
  rw [decide_eq_true he]
def insideP (s o:List UInt8):Bool:=match splitP s,splitP o with
 | some l,some q=>decide (q.length < l.length) && decide (q=l.take q.length)
 | _,_=>false
set_option maxHeartbeats 1000000 in
theorem pInside_ok (s o:List UInt8):Tri Tryz.prog 130 #[sE s,sE o] HP.tt (fun v=>HP.pure (v = .bool (insideP s o))):=by
 refine tri_of_tree (ρ:=[.s s,.s o]) mixed Tryz.func130 tree_pInside ?_
 unfold t_pInside
 simp only [T.den,E.prop,E.den,RX.look,F1.app,F2.app,Uni.int_i,Uni.nat_n,Uni.bool_c,Uni.str_s,Uni.adr_a,Uni.val_v,Uni.hp_p,hden,cden,V.den,W.den,A.den,BR.den,SA.den,FV.den,capV,exs,exP,allP,Cur.app,List.map_cons,List.map_nil,List.cons_append,List.nil_append,List.drop_succ_cons,List.drop_zero,List.length_cons,List.length_nil,Nat.zero_add,Nat.reduceAdd,Int.neg_neg,Bool.not_not,List.append_nil,Nat.add_zero,List.getElem?_cons_zero,List.getElem?_cons_succ,Decidable.not_not,semW_eq,ne_eq,Nat.reduceEqDiff,not_false_eq_true]
 refine (pSplit_ok s).weak (fun _ _ h=>h) ?_
 rintro v R h ⟨a,c,rfl,H⟩
 have hle:((splitP s).getD []).length ≤ c:=OwC.le H
 refine ⟨a,_,c,OwS a ((splitP s).getD []).length c ((splitP s).getD []),_,rfl,?_,H⟩
 clear H
 cases hs:splitP s with
 | none=>exact ⟨fun _ => .of fun R h H=>(by simp [HP.pure,insideP,hs]),fun h=>by simp at h⟩
 | some l =>
  refine ⟨fun h=>absurd (by rfl) h,fun _ => ?_⟩
  rw [hs] at hle
  simp only [Option.getD_some] at hle ⊢
  obtain ⟨hl8,_⟩:=splitP_len hs
  refine (pSplit_ok o).weak (fun _ _ h=>h) ?_
  rintro v R h ⟨b,d,rfl,H⟩
  refine ⟨b,_,d,OwS b ((splitP o).getD []).length d ((splitP o).getD []),_,rfl,?_,H⟩
  clear H
  cases ho:splitP o with
  | none=>exact ⟨fun _ => .of fun R h H=>(by simp [HP.pure,insideP,hs,ho]),fun h=>by simp at h⟩
  | some q =>
   simp only [Option.getD_some]
   obtain ⟨hq8,_⟩:=splitP_len ho
   refine ⟨fun h=>absurd (by rfl) h,fun _=>⟨fun h => .of fun R h' H => ?_,fun h0 => ?_⟩⟩
   ·have : ¬ q.length < l.length:=by omega
    simp [HP.pure,insideP,hs,ho,this]
   ·obtain ⟨i,hi,_⟩:=info_parts infoStr
    have rd:RdL (OwS a l.length c l) a l.length (l.map sE):=RdL.ow _ _ _ _ _ _
    refine ⟨a,q.length,c,sliceTo undSs hi _ a l.length c q.length (by omega) hle,?_⟩
    have rd2:RdL (OwS a l.length c l) a q.length ((l.take q.length).map sE):=by
     have:=rd.cut (k:=q.length) (by omega)
     rwa [← List.map_take] at this
    refine (sEqual_ok (OwS b q.length d q) (OwS a l.length c l) b q.length d q a q.length c (l.take q.length) (RdL.ow _ _ _ _ _ _) rd2 rfl (by simp; omega) (by omega)).weak (fun _ _ h=>h) ?_
    rintro v R h ⟨rfl,H⟩
    refine ⟨_,rfl,.of fun R h H => ?_,H⟩
    have:q.length < l.length:=by omega
    simp [HP.pure,insideP,hs,ho,this]
end Go.Proofs.YtdieogcemmnaaaaGreatDoor

namespace Go.Proofs.YtdieogcemmnaaaaGreatDoor
open Go.Proofs.YtdieogcemmnaaaaGreatDoor RX
set_option maxRecDepth 100000
section
variable {κ:Type} [DecidableEq κ] {enc:κ → Value} {m c:Nat} {l:AL κ} {Q:HP}
theorem rangA_ok {t k e:TypeId} (ht:Tryz.prog.underlying t=some (.map k e)) (hm : ∀ R h,Q.p R h → h m=some (mapObj enc l c)) :
  OTri Tryz.prog (rangS t (.map (some m))) Q (fun v=>HP.ex fun it=>HP.and (v = .pointer (some ⟨it,0,none⟩)) (HP.sep (HP.one it (.mapIter (some m) c #[] c)) Q)):=fun w R h F s a=>by
 obtain ⟨s2,d2⟩:=s.alloc (.mapIter (some m) c #[] c)
 refine ⟨.value _,_,_,by unfold rangS; rw [Sem.run_bind,run_range_raw ht (s.oh _ _ (hm R h a))]; rfl,rfl,Same.alloc _ _,R,_,PH.le.refl _,s2,w.heap.size,rfl,_,h,d2,PH.un_left _ _,PH.un_right d2,PH.one_self _ _,a⟩
theorem rang0_ok {t k e:TypeId} (ht:Tryz.prog.underlying t=some (.map k e)) :
  OTri Tryz.prog (rangS t (.map none)) Q (fun v=>HP.ex fun it=>HP.and (v = .pointer (some ⟨it,0,none⟩)) (HP.sep (HP.one it (.mapIter none 0 #[] 0)) Q)):=fun w R h F s a=>by
 obtain ⟨s2,d2⟩:=s.alloc (.mapIter none 0 #[] 0)
 refine ⟨.value _,_,w.alloc (.mapIter none 0 #[] 0),?_,rfl,Same.alloc _ _,R,_,PH.le.refl _,s2,w.heap.size,rfl,_,h,d2,PH.un_left _ _,PH.un_right d2,PH.one_self _ _,a⟩
 unfold rangS Instr.range
 simp [RX.run_underlying ht,newObj]
 rfl
theorem next0_ok {it:Nat} {ty:TypeId}:OTri Tryz.prog (nextS (.pointer (some ⟨it,0,none⟩)) ty) (HP.sep (HP.one it (.mapIter none 0 #[] 0)) Q) (fun v=>HP.and (v = .tuple #[.bool false]) (HP.sep (HP.one it (.mapIter none 0 #[] 0)) Q)) :=
 OTri.ofRead (v := .tuple #[.bool false]) (fun w R h F s a=>by
  have hh:=s.oh _ _ (HP.sep_left a)
  unfold nextS Instr.next
  simp [getObj,Sem.run,hh]) fun R h H=>⟨rfl,H⟩
theorem nextA_ok {it:Nat} {S:Array Nat} {ty:TypeId} (hs:Stamps l c) (hm : ∀ R h,Q.p R h → h m=some (mapObj enc l c)) :
  OTri Tryz.prog (nextS (.pointer (some ⟨it,0,none⟩)) ty) (HP.sep (HP.one it (.mapIter (some m) c S c)) Q)
  (fun v=>HP.ex fun e=>HP.and (nextE enc l S v e) (HP.sep (HP.one it (.mapIter (some m) c (nextI S e) c)) Q)):=fun w R h F s a=>by
 have a1:=HP.sep_left a
 have a2:=hm _ _ (HP.sep_right a)
 rcases run_next_raw (P:=Tryz.prog) ty (s.oh _ _ a1) (s.oh _ _ a2) hs with ⟨hall,hrun⟩ | ⟨x,hx,hS,w1,hw1,hrun⟩
 ·exact ⟨.value _,_,w,by unfold nextS; rw [Sem.run_bind,hrun]; rfl,rfl,Same.refl _,R,h,PH.le.refl _,s,none,⟨rfl,hall⟩,a⟩
 ·have s1:Sat w1 R h F ∧ Same w w1:=by
   rcases hw1 with rfl | rfl
   ·exact ⟨s,Same.refl _⟩
   ·exact ⟨s.drew _,Same.drew w _⟩
  obtain ⟨h1,h2,d,l1,l2,b1,b2⟩:=a
  have h2it:h2 it=none:=(d it).resolve_left (by rw [show h1 it=some _ from b1]; simp)
  refine ⟨.value _,_,_,by unfold nextS; rw [Sem.run_bind,hrun]; rfl,rfl,s1.2.trans (Same.setObj _ _ _),R,_,PH.le.refl _,s1.1.setObj a1,some x,⟨rfl,hx,hS⟩,PH.one it _,h2,fun k => ?_,PH.one_le (if_pos rfl),fun k y hk => ?_,PH.one_self _ _,b2⟩
  ·by_cases e:k=it
   ·subst e; exact .inr h2it
   ·exact .inl (if_neg e)
  ·have:k ≠ it:=fun e=>by subst e; rw [h2it] at hk; cases hk
   exact (if_neg this).trans (l2 _ _ hk)
end
section
variable {κ:Type} {c:Nat} {l:AL κ}
theorem seen_push (hI:MapI l c) {S:Array Nat} {ys:List κ} (hy : ∀ k,k ∈ ys ↔ ∃ x ∈ l,x.1=k ∧ x.2.2 ∈ S) {x:κ × Value × Nat} (hx:x ∈ l) (hS:x.2.2 ∉ S) :
  x.1 ∉ ys ∧ ∀ k,k ∈ ys ++ [x.1] ↔ ∃ y ∈ l,y.1=k ∧ y.2.2 ∈ S.push x.2.2:=by
 refine ⟨fun h => ?_,fun k => ?_⟩
 ·obtain ⟨y,hyl,e,hys⟩:=(hy _).1 h
  have:=map_inj (fun z:κ × Value × Nat=>z.1) hI.1 hyl hx e
  subst this; exact hS hys
 ·rw [List.mem_append,hy]
  constructor
  ·rintro (⟨y,h1,h2,h3⟩ | h)
   ·exact ⟨y,h1,h2,Array.mem_push.2 (.inl h3)⟩
   ·simp at h; subst h; exact ⟨x,hx,rfl,Array.mem_push.2 (.inr rfl)⟩
  ·rintro ⟨y,h1,h2,h3⟩
   rcases stamp_push hI.2 hx h1 h3 with rfl | h
   ·exact .inr (by simp [h2])
   ·exact .inl ⟨y,h1,h2,h⟩
theorem seen_all {S:Array Nat} {ys:List κ} (hn:ys.Nodup) (hI:MapI l c) (hy : ∀ k,k ∈ ys ↔ ∃ x ∈ l,x.1=k ∧ x.2.2 ∈ S) (hall : ∀ x ∈ l,x.2.2 ∈ S):ys.Perm (l.map (·.1)):=by
 refine (List.perm_ext_iff_of_nodup hn hI.1).2 fun k => ?_
 rw [hy,List.mem_map]
 exact ⟨fun ⟨x,h1,h2,_⟩=>⟨x,h1,h2⟩,fun ⟨x,h1,h2⟩=>⟨x,h1,h2,hall x h1⟩⟩
end
def mayK {κ:Type} (enc:κ → Value) (ks:List κ) (ys:List κ) (args:Array Value) (ys':List κ):Prop := ∃ k,args = #[enc k] ∧ ys'=ys ++ [k] ∧ ys'.Nodup ∧ ys'.length ≤ ks.length
theorem nodup_len {κ:Type} [DecidableEq κ] : ∀ {ys ks:List κ},ys.Nodup → (∀ k ∈ ys,k ∈ ks) → ys.length ≤ ks.length
 | [],_,_,_=>Nat.zero_le _
 | y :: ys,ks,hn,h=>by
  obtain ⟨h1,h2⟩:=List.nodup_cons.1 hn
  have:=nodup_len (ks:=ks.erase y) h2 fun k hk=>(List.mem_erase_of_ne (fun e=>by subst e; exact h1 hk)).2 (h k (by simp [hk]))
  have hy:y ∈ ks:=h y (by simp)
  rw [List.length_erase_of_mem hy] at this
  have:=List.length_pos_of_mem hy
  simp; omega
theorem sortRow_ok {α:Type} [Inhabited α] {enc:α → Value} {e:TypeId} {f:FuncId} {le:α → α → Bool} (h1 : ∀ x,(enc x).oneCell'=true)
  (hs : ∀ (blk off cap:Nat) (zs:List α) (w:World),Go.Sort.Holds enc w blk off zs.toArray → blk < w.heap.size → zs.length < 4611686018427387904 → Calls Tryz.prog f #[.slice (some ⟨blk,off,none⟩) zs.length cap] w fun ed w'=>ed = .returned (.tuple #[]) ∧ ∃ n os,w'=Go.Sort.grow (Go.Sort.putRow enc (Go.Sort.ahead w n) blk off (zs.mergeSort le).toArray) os)
  (h0 : ∀ (p:Option Addr) (cap:Nat) (w:World),Calls Tryz.prog f #[.slice p 0 cap] w fun ed w'=>ed = .returned (.tuple #[]) ∧ w'=w)
  (a:Option Addr) (c:Nat) (zs:List α) (hz:zs.length ≤ 1000000) :
  Tri Tryz.prog f #[.slice a zs.length c] (OwC e 1 a zs.length c (zs.map enc)) (fun v=>HP.and (v = .tuple #[]) (OwC e 1 a zs.length c ((zs.mergeSort le).map enc))):=by
 rintro w R h F s ⟨hl,hx⟩
 have hml:(zs.mergeSort le).length=zs.length:=List.length_mergeSort _
 by_cases hz0:zs.length=0
 ·have hnil:zs=[]:=List.eq_nil_of_length_eq_zero hz0
  subst hnil
  refine (h0 a c w).mono fun ed w' ⟨he,hw⟩=>⟨_,he,by rw [hw]; exact Same.refl _,R,h,PH.le.refl _,by rw [hw]; exact s,rfl,?_⟩
  rw [List.mergeSort_nil]
  exact ⟨hl,hx⟩
 rcases hx with ⟨_,h2,_⟩ | ⟨g,cur,rfl,hg,q1,q2,q3,q4⟩
 ·exact absurd h2 hz0
 have hw:=s.oh _ _ hg
 have hget : ∀ (j:Nat) (x:α),zs[j]? = some x → cur[j]? = some (enc x):=fun j x hj=>by
  have h3:(cur.toList.take (zs.length * 1))[j]? = some (enc x):=by rw [q4]; simp [hj]
  rw [List.getElem?_take] at h3
  split at h3
  ·simpa using h3
  ·cases h3
 have hH:Go.Sort.Holds enc w g 0 zs.toArray:=fun j hj=>by
  have hj':j < zs.length:=by simpa using hj
  have:=hget j zs[j] (List.getElem?_eq_getElem hj')
  refine ⟨?_,?_⟩
  ·rw [Nat.zero_add,cell_at hw,this]
   simp [hj']
  ·simp [World.frozen?,hw]
 refine (hs g 0 c zs w hH (by rcases Nat.lt_or_ge g w.heap.size with h | h; exact h; rw [Array.getElem?_eq_none h] at hw; cases hw) (by omega)).mono fun ed w' ⟨he,n,os,hw'⟩ => ?_
 have hlt:g < w.heap.size:=by rcases Nat.lt_or_ge g w.heap.size with h | h; exact h; rw [Array.getElem?_eq_none h] at hw; cases hw
 have hheap : ∀ k,k < w.heap.size → w'.heap[k]? = if g=k then (w.heap[k]?).map (Go.Sort.onCells (Go.Sort.putCells enc 0 (zs.mergeSort le).toArray)) else w.heap[k]? := fun k hk=>by
  rw [hw']
  simp only [Go.Sort.grow,Go.Sort.putRow,Go.Sort.mapBlock,Go.Sort.ahead]
  rw [Array.getElem?_append_left (by simpa using hk),Array.getElem?_modify]
 have hg':w'.heap[g]? = some (.cells (Go.Sort.putCells enc 0 (zs.mergeSort le).toArray cur) e (0,0)):=by
  rw [hheap g hlt,if_pos rfl,hw]; rfl
 have hgrown:w.grownBy w' (some g):=by
  refine ⟨by rw [hw']; rfl,by rw [hw']; rfl,by rw [hw']; rfl,by rw [hw']; simp [Go.Sort.grow,Go.Sort.putRow,Go.Sort.mapBlock,Go.Sort.ahead],fun k hk hne => ?_⟩
  rw [hheap k hk,if_neg (fun e=>hne (by rw [e]))]
 have s2:=Sat.grown s (row:=some g) (fun g2 hg2=>by cases hg2; rw [hg]; simp) hgrown hg' (.inl rfl)
 refine ⟨_,he,⟨hgrown.os,hgrown.tape,hgrown.output,hgrown.size⟩,R,_,PH.le.refl _,s2,rfl,by simp,.inr ⟨g,_,rfl,PH.one_self _ _,q1,q2,?_,?_⟩⟩
 ·simp [Go.Sort.putCells,q3]
 ·have hsz:zs.length ≤ cur.size:=by rw [q3]; omega
  refine List.ext_getElem? fun j => ?_
  rw [Nat.mul_one,List.getElem?_take]
  by_cases hj:j < zs.length
  ·rw [if_pos hj]
   have hjm:j < (zs.mergeSort le).length:=by omega
   simp [Go.Sort.putCells,hj,hjm,show j < cur.size by omega]
  ·rw [if_neg hj,List.getElem?_eq_none (by simp; omega)]
end Go.Proofs.YtdieogcemmnaaaaGreatDoor

namespace Go.Proofs.YtdieogcemmnaaaaGreatDoor.RX
set_option maxRecDepth 100000
-- maps.Keys[map[string]int,string,int]: ρ:=[.v m,.p mP]
def t_ksS:T :=
(.new
(.ret (.w (.a (.func 138 [(.v 2,0)]))) [(.a 0,.prop 1),(.b (.v 2),.cells [.val 0] 131)]))
theorem tree_ksS:tree Tryz.prog { opq:=[131],keep:=[75,136,194],link:=[(75,0)],opn:=true,rdf:=true } Tryz.f75 [.a (.val 0)] [(.a 0,.prop 1)] 2=t_ksS:=by kernel_rfl
def t_ks1S:T :=
(.op (.range 131 (.tmp 4)) 0 [(4,.w (.a (.val 3)))] [(.a 3,.prop 4)] [.n,.p,.p] (.w (.a (.ptr (.v 5) 0))) [(.b (.v 5),.prop 6),(.a 3,.prop 7)]
(.loop [.p,.p] [.p [(.b (.v 5),.prop 6)],.p [(.a 0,.prop 1)]]
(.op (.next (.tmp 5) false) 0 [(5,.w (.a (.ptr (.v 5) 0)))] [(.b (.v 5),.prop 8),(.a 3,.prop 7)] [.c,.v,.v,.p] (.nx 10 11 12) [(.b (.v 5),.prop 13),(.a 3,.prop 7)]
(.br (.v 10)
(.read (.entry (.tmp 5)) 0 [(5,.w (.a (.ptr (.v 5) 0)))] [(.b (.v 5),.prop 13),(.a 3,.prop 7)] [.s,.i] (.tup [.a (.str (.v 14)),.a (.int .i64 (.v 15))])
 (.callv 0 [.a (.str (.v 14))] [(.a 0,.prop 9)] [.c,.p] (.w (.a (.bool (.v 16)))) [(.a 0,.prop 17)]
(.br (.o1 .not (.v 16))
(.ret (.tup []) [(.a 0,.prop 17),(.b (.v 2),.cells [.val 3] 131),(.a 3,.prop 7)])
(.again 0 [.p [(.b (.v 5),.prop 13)],.p [(.a 0,.prop 17)]]))))
(.ret (.tup []) [(.a 0,.prop 9),(.b (.v 2),.cells [.val 3] 131),(.a 3,.prop 7)])))))
theorem tree_ks1S:tree Tryz.prog { opq:=[131],hv:=[(0,[.b (.v 5),.a 0])],keep:=[75,136,194],link:=[(75,0)],ent:=[(8,[9,3])],opn:=true,rdf:=true } Tryz.f138 [.a (.val 0),.a (.ptr (.v 2) 0)] [(.a 0,.prop 1),(.b (.v 2),.cells [.val 3] 131),(.a 3,.prop 4)] 5=t_ks1S:=by kernel_rfl
def t_apS:T :=
(.new
(.new
(.rangef (.val 4) [(.a 4,.prop 5)] [] [.a,.n,.n,.p] [.a (.v 0),.e (.o2 .nadd (.v 1) (.n 0)),.e (.o2 .nadd (.v 2) (.n 0)),.p [(.a 0,.prop 3)]] [.s] [.a (.str (.v 12))] []
(.new
(.op (.call ⟨.builtin .append,#[.tmp 8,.tmp 10],#[29,29]⟩) 29 [(8,.w (.a (.sl (.v 8) (.v 9) (.v 10)))),(10,.w (.a (.sl (.b (.v 13) 0) (.n 1) (.n 1))))] [(.a 8,.prop 11),(.b (.v 13),.cells [.str (.v 12)] 9)] [.a,.n,.n,.p] (.w (.a (.sl (.v 14) (.v 15) (.v 16)))) [(.a 14,.prop 17),(.b (.v 13),.cells [.str (.v 12)] 9)]
(.again 0 [.a (.v 14),.e (.o2 .nadd (.v 15) (.n 0)),.e (.o2 .nadd (.v 16) (.n 0)),.p [(.a 14,.prop 17)]])))
(.ret (.w (.a (.sl (.v 8) (.v 9) (.v 10)))) [(.a 4,.prop 5),(.a 8,.prop 11)]))))
theorem tree_apS:tree Tryz.prog { hv:=[(0,[.b (.v 6),.a 0])],keep:=[75,136,194],link:=[(75,0)],pty:=[(0,[9])],opn:=true,rdf:=true } Tryz.f194 [.a (.sl (.v 0) (.v 1) (.v 2)),.a (.val 4)] [(.a 0,.prop 3),(.a 4,.prop 5)] 6=t_apS:=by kernel_rfl
def t_coS:T :=
(.call 194 [.a (.sl .nil (.n 0) (.n 0)),.a (.val 0)] [(.a 0,.prop 1)] [.a,.n,.n,.p] (.w (.a (.sl (.v 2) (.v 3) (.v 4)))) [(.a 2,.prop 5),(.a 0,.prop 1)]
(.ret (.w (.a (.sl (.v 2) (.v 3) (.v 4)))) [(.a 0,.prop 1),(.a 2,.prop 5)]))
theorem tree_coS:tree Tryz.prog { keep:=[75,136,194],link:=[(75,0)],opn:=true,rdf:=true } Tryz.f136 [.a (.val 0)] [(.a 0,.prop 1)] 2=t_coS:=by kernel_rfl
def t_soS:T :=
(.call 136 [.a (.val 0)] [(.a 0,.prop 1)] [.a,.n,.n,.p] (.w (.a (.sl (.v 2) (.v 3) (.v 4)))) [(.a 2,.prop 5),(.a 0,.prop 1)]
(.call 137 [.a (.sl (.v 2) (.v 3) (.v 4))] [(.a 2,.prop 5)] [.p] (.tup []) [(.a 2,.prop 6)]
(.ret (.w (.a (.sl (.v 2) (.v 3) (.v 4)))) [(.a 0,.prop 1),(.a 2,.prop 6)])))
theorem tree_soS:tree Tryz.prog { keep:=[75,136,194],link:=[(75,0)],opn:=true,rdf:=true } Tryz.f74 [.a (.val 0)] [(.a 0,.prop 1)] 2=t_soS:=by kernel_rfl
def t_ksI:T :=
(.new
(.ret (.w (.a (.func 135 [(.v 2,0)]))) [(.a 0,.prop 1),(.b (.v 2),.cells [.val 0] 123)]))
theorem tree_ksI:tree Tryz.prog { opq:=[123],keep:=[72,133,191],link:=[(72,0)],opn:=true,rdf:=true } Tryz.f72 [.a (.val 0)] [(.a 0,.prop 1)] 2=t_ksI:=by kernel_rfl
def t_ks1I:T :=
(.op (.range 123 (.tmp 4)) 0 [(4,.w (.a (.val 3)))] [(.a 3,.prop 4)] [.n,.p,.p] (.w (.a (.ptr (.v 5) 0))) [(.b (.v 5),.prop 6),(.a 3,.prop 7)]
(.loop [.p,.p] [.p [(.b (.v 5),.prop 6)],.p [(.a 0,.prop 1)]]
(.op (.next (.tmp 5) false) 0 [(5,.w (.a (.ptr (.v 5) 0)))] [(.b (.v 5),.prop 8),(.a 3,.prop 7)] [.c,.v,.v,.p] (.nx 10 11 12) [(.b (.v 5),.prop 13),(.a 3,.prop 7)]
(.br (.v 10)
(.read (.entry (.tmp 5)) 0 [(5,.w (.a (.ptr (.v 5) 0)))] [(.b (.v 5),.prop 13),(.a 3,.prop 7)] [.i,.n] (.tup [.a (.int .i64 (.v 14)),.a (.ptr (.v 15) 0)])
 (.callv 0 [.a (.int .i64 (.v 14))] [(.a 0,.prop 9)] [.c,.p] (.w (.a (.bool (.v 16)))) [(.a 0,.prop 17)]
(.br (.o1 .not (.v 16))
(.ret (.tup []) [(.a 0,.prop 17),(.b (.v 2),.cells [.val 3] 123),(.a 3,.prop 7)])
(.again 0 [.p [(.b (.v 5),.prop 13)],.p [(.a 0,.prop 17)]]))))
(.ret (.tup []) [(.a 0,.prop 9),(.b (.v 2),.cells [.val 3] 123),(.a 3,.prop 7)])))))
theorem tree_ks1I:tree Tryz.prog { opq:=[123],hv:=[(0,[.b (.v 5),.a 0])],keep:=[72,133,191],link:=[(72,0)],ent:=[(8,[3,121])],opn:=true,rdf:=true } Tryz.f135 [.a (.val 0),.a (.ptr (.v 2) 0)] [(.a 0,.prop 1),(.b (.v 2),.cells [.val 3] 123),(.a 3,.prop 4)] 5=t_ks1I:=by kernel_rfl
def t_apI:T :=
(.new
(.new
(.rangef (.val 4) [(.a 4,.prop 5)] [] [.a,.n,.n,.p] [.a (.v 0),.e (.o2 .nadd (.v 1) (.n 0)),.e (.o2 .nadd (.v 2) (.n 0)),.p [(.a 0,.prop 3)]] [.i] [.a (.int .i64 (.v 12))] []
(.new
(.op (.call ⟨.builtin .append,#[.tmp 8,.tmp 10],#[89,89]⟩) 89 [(8,.w (.a (.sl (.v 8) (.v 9) (.v 10)))),(10,.w (.a (.sl (.b (.v 13) 0) (.n 1) (.n 1))))] [(.a 8,.prop 11),(.b (.v 13),.cells [.int .i64 (.v 12)] 3)] [.a,.n,.n,.p] (.w (.a (.sl (.v 14) (.v 15) (.v 16)))) [(.a 14,.prop 17),(.b (.v 13),.cells [.int .i64 (.v 12)] 3)]
(.again 0 [.a (.v 14),.e (.o2 .nadd (.v 15) (.n 0)),.e (.o2 .nadd (.v 16) (.n 0)),.p [(.a 14,.prop 17)]])))
(.ret (.w (.a (.sl (.v 8) (.v 9) (.v 10)))) [(.a 4,.prop 5),(.a 8,.prop 11)]))))
theorem tree_apI:tree Tryz.prog { hv:=[(0,[.b (.v 6),.a 0])],keep:=[72,133,191],link:=[(72,0)],pty:=[(0,[3])],opn:=true,rdf:=true } Tryz.f191 [.a (.sl (.v 0) (.v 1) (.v 2)),.a (.val 4)] [(.a 0,.prop 3),(.a 4,.prop 5)] 6=t_apI:=by kernel_rfl
def t_coI:T :=
(.call 191 [.a (.sl .nil (.n 0) (.n 0)),.a (.val 0)] [(.a 0,.prop 1)] [.a,.n,.n,.p] (.w (.a (.sl (.v 2) (.v 3) (.v 4)))) [(.a 2,.prop 5),(.a 0,.prop 1)]
(.ret (.w (.a (.sl (.v 2) (.v 3) (.v 4)))) [(.a 0,.prop 1),(.a 2,.prop 5)]))
theorem tree_coI:tree Tryz.prog { keep:=[72,133,191],link:=[(72,0)],opn:=true,rdf:=true } Tryz.f133 [.a (.val 0)] [(.a 0,.prop 1)] 2=t_coI:=by kernel_rfl
def t_soI:T :=
(.call 133 [.a (.val 0)] [(.a 0,.prop 1)] [.a,.n,.n,.p] (.w (.a (.sl (.v 2) (.v 3) (.v 4)))) [(.a 2,.prop 5),(.a 0,.prop 1)]
(.call 134 [.a (.sl (.v 2) (.v 3) (.v 4))] [(.a 2,.prop 5)] [.p] (.tup []) [(.a 2,.prop 6)]
(.ret (.w (.a (.sl (.v 2) (.v 3) (.v 4)))) [(.a 0,.prop 1),(.a 2,.prop 6)])))
theorem tree_soI:tree Tryz.prog { keep:=[72,133,191],link:=[(72,0)],opn:=true,rdf:=true } Tryz.f71 [.a (.val 0)] [(.a 0,.prop 1)] 2=t_soI:=by kernel_rfl
end Go.Proofs.YtdieogcemmnaaaaGreatDoor.RX

namespace Go.Proofs.YtdieogcemmnaaaaGreatDoor
set_option linter.unusedSimpArgs false
set_option linter.unusedVariables false
open Go.Proofs.YtdieogcemmnaaaaGreatDoor RX
set_option maxRecDepth 100000
def KBoxS (x:Nat) (m:Option Nat):HP:=HP.one x (.cells #[.map m] 131 (0,0))
theorem keysS_ok (m:Option Nat) (Q:HP):Tri Tryz.prog 75 #[.map m] Q
  (fun v=>HP.ex fun x=>HP.and (v = .func (.func 138) #[] #[.pointer (some ⟨x,0,none⟩)]) (HP.sep (KBoxS x m) Q)):=by
 refine tri_of_tree (ρ:=[.v (.map m),.p Q]) mixed Tryz.func75 tree_ksS ?_
 unfold t_ksS
 simp only [T.den,E.prop,E.den,RX.look,F1.app,F2.app,Uni.int_i,Uni.nat_n,Uni.bool_c,Uni.str_s,Uni.adr_a,Uni.val_v,Uni.hp_p,hden,cden,V.den,W.den,A.den,BR.den,SA.den,FV.den,capV,exs,exP,allP,Cur.app,List.map_cons,List.map_nil,List.cons_append,List.nil_append,List.drop_succ_cons,List.drop_zero,List.length_cons,List.length_nil,Nat.zero_add,Nat.reduceAdd,Int.neg_neg,Bool.not_not,List.append_nil,Nat.add_zero,List.getElem?_cons_zero,List.getElem?_cons_succ,Decidable.not_not,semW_eq,ne_eq,Nat.reduceEqDiff,not_false_eq_true]
 exact fun x => .of fun R h H=>⟨x,rfl,HP.sep_comm H⟩
theorem fgoS:Fgo Tryz.prog 138:=⟨_,Tryz.func138,by kernel_rfl,by kernel_rfl⟩
def prKS (ks ys:List (List UInt8)) (args:Array Value):HP:=HP.pure (∃ ys',mayK sE ks ys args ys')
theorem enc_injS {a b:(List UInt8)} (h:sE a=sE b):a=b:=by
 simpa [sE] using h
set_option maxHeartbeats 1000000 in
theorem seqS (x:Nat) (m:Option Nat) (l:AL (List UInt8)) (c:Nat) (Q:HP) (hI:MapI l c) (hv : ∀ y ∈ l,(fun v:Value => ∃ n:Int,v = .int .i64 n) y.2.1) (hm : ∀ mb,m=some mb → ∀ R h,Q.p R h → h mb=some (mapObj sE l c)) (h0:m=none → l=[]) :
  SeqTri Tryz.prog (.func (.func 138) #[] #[.pointer (some ⟨x,0,none⟩)]) (HP.sep (KBoxS x m) Q) (fun _=>HP.tt) (prKS (l.map (·.1))) (mayK sE (l.map (·.1))) (fun ys=>ys.Perm (l.map (·.1))) ([]:List (List UInt8)):=by
 refine ⟨_,_,rfl,fgoS,fun L Kp Jx hr => ?_⟩
 refine Tri.weak (A:=HP.sep (HP.sep HP.tt (Kp [])) (HP.sep (KBoxS x m) Q)) ?_ (fun R h H=>HP.sep_comm H) fun _ _ _ h=>h
 refine tri_of_tree (ρ:=[.v (.func (.yield L) #[] #[]),.p (HP.sep HP.tt (Kp [])),.n x,.v (.map m),.p Q]) mixed Tryz.func138 tree_ks1S ?_
 unfold t_ks1S
 simp only [T.den,E.prop,E.den,RX.look,F1.app,F2.app,Uni.int_i,Uni.nat_n,Uni.bool_c,Uni.str_s,Uni.adr_a,Uni.val_v,Uni.hp_p,hden,cden,V.den,W.den,A.den,BR.den,SA.den,FV.den,capV,exs,exP,allP,Cur.app,List.map_cons,List.map_nil,List.cons_append,List.nil_append,List.drop_succ_cons,List.drop_zero,List.length_cons,List.length_nil,Nat.zero_add,Nat.reduceAdd,Int.neg_neg,Bool.not_not,List.append_nil,Nat.add_zero,List.getElem?_cons_zero,List.getElem?_cons_succ,Decidable.not_not,semW_eq,semW_range,semW_next,semW_entry,ne_eq,Nat.reduceEqDiff,not_false_eq_true,oneC]
 have fin : ∀ (J Q':HP),HP.ent J (SeqPost (fun _=>HP.tt) Kp Jx (fun ys=>ys.Perm (l.map (·.1)))) → Q'=Q → HP.ent (HP.sep J (HP.sep (HP.one x (.cells #[.map m] 131)) Q'))
   (HP.sep (HP.sep (KBoxS x m) Q) (SeqPost (fun _=>HP.tt) Kp Jx (fun ys=>ys.Perm (l.map (·.1))))):=fun J Q' hJ hQ=>by
  subst hQ
  exact (hJ.sep _).trans (.of fun R h H=>HP.sep_comm H)
 cases m with
 | none =>
  have hl:l=[]:=h0 rfl
  refine (rang0_ok (Q:=Q) (show Tryz.prog.underlying 131=some (.map 9 3) by kernel_rfl)).weak (fun _ _ h=>h) ?_
  rintro v R h ⟨it,rfl,H⟩
  refine ⟨it,HP.one it (.mapIter none 0 #[] 0),Q,rfl,⟨fun Pi Pk=>Pi=HP.one it (.mapIter none 0 #[] 0) ∧ Pk=HP.sep HP.tt (Kp []),fun _ _=>Nat.zero,⟨rfl,rfl⟩,?_⟩,H⟩
  rintro _ _ ⟨rfl,rfl⟩
  refine next0_ok.weak (fun _ _ h=>h) ?_
  rintro v R h ⟨rfl,H⟩
  refine ⟨false,.tuple #[],.tuple #[],_,rfl,⟨fun h=>(by cases h),fun _=>fin _ _ (.of fun R h H=>⟨some [],?_,H⟩) rfl⟩,H⟩
  rw [hl]; exact List.Perm.refl _
 | some mb =>
  have hmb:=hm mb rfl
  refine (rangA_ok (Q:=Q) (enc:=sE) (l:=l) (c:=c) (show Tryz.prog.underlying 131=some (.map 9 3) by kernel_rfl) hmb).weak (fun _ _ h=>h) ?_
  rintro v R h ⟨it,rfl,H⟩
  let J:HP → HP → Nat → Prop:=fun Pi Pk N => ∃ (S:Array Nat) (ys:List (List UInt8)),Pi=HP.one it (.mapIter (some mb) c S c) ∧ HP.ent Pk (HP.sep HP.tt (Kp ys)) ∧ ys.Nodup ∧ (∀ k,k ∈ ys ↔ ∃ y ∈ l,y.1=k ∧ y.2.2 ∈ S) ∧ leftN l S=N
  refine ⟨it,HP.one it (.mapIter (some mb) c #[] c),Q,rfl,⟨fun Pi Pk => ∃ N,J Pi Pk N,fun Pi Pk=>leastN (J Pi Pk),⟨_,#[],[],rfl,.refl _,List.nodup_nil,fun k=>by simp,rfl⟩,?_⟩,H⟩
  clear H
  intro Pi Pk hJ
  have hJ':=leastN_spec hJ
  generalize hNe:leastN (J Pi Pk)=N at hJ'
  obtain ⟨S,ys,rfl,hP,hn,hy,hN⟩:=hJ'
  refine (nextA_ok (Q:=Q) hI.2 hmb).weak (fun _ _ h=>h) ?_
  rintro v R h ⟨e,he,H⟩
  rcases e with _ | y
  ·refine ⟨false,.tuple #[],.tuple #[],_,he.1,⟨fun h=>(by cases h),fun _=>fin _ _ (hP.trans (.of fun R h H=>⟨some ys,seen_all hn hI hy he.2,H⟩)) rfl⟩,H⟩
  ·obtain ⟨rfl,hyl,hyS⟩:=he
   obtain ⟨n,hn2⟩:=hv y hyl
   obtain ⟨hnot,hy2⟩:=seen_push hI hy hyl hyS
   have hnd:(ys ++ [y.1]).Nodup:=by
    rw [List.nodup_append]
    exact ⟨hn,by simp,fun a ha b hb=>by simp at hb; subst hb; exact fun e=>hnot (e ▸ ha)⟩
   have hlen:(ys ++ [y.1]).length ≤ (l.map (·.1)).length:=nodup_len hnd fun k hk=>by
    obtain ⟨z,hz,e,_⟩:=(hy2 k).1 hk
    exact List.mem_map.2 ⟨z,hz,e⟩
   have hmay:mayK sE (l.map (·.1)) ys #[sE y.1] (ys ++ [y.1]):=⟨y.1,rfl,rfl,hnd,hlen⟩
   have hent:=entry_ok (enc:=sE) (it:=it) (m:=mb) (c:=c) (S:=S) (x:=y) hI.2 hyl (A:=HP.sep (HP.one it (.mapIter (some mb) c (nextI S (some y)) c)) Q) (fun R h H=>HP.sep_left H) (fun R h H=>hmb _ _ (HP.sep_right H) |> fun h1=>by
    obtain ⟨_,_,_,_,l2,_,b2⟩:=H
    exact l2 _ _ (hmb _ _ b2))
   rw [hn2] at hent
   refine ⟨true,sE y.1,y.2.1,_,rfl,⟨fun _=>⟨y.1,n,hent,?_⟩,fun h=>(by simp at h)⟩,H⟩
   clear H
   refine (hr ys #[sE y.1] ⟨_,hmay⟩).conseq (K:=HP.tt) (hP.trans (.of fun R h H=>HP.sep_tt (HP.sep_pure H ⟨_,hmay⟩))) fun v => .of fun R h H => ?_
   obtain ⟨b',hv',hb⟩:=HP.sep_left H
   have hdec:leftN l (S.push y.2.2) < N:=by rw [← hN]; exact leftN_push hyl hyS
   cases b' with
   | true =>
    refine ⟨true,_,hv',⟨fun h=>absurd rfl h,fun _ => ?_⟩,hb⟩
    have hJ2:J (HP.one it (.mapIter (some mb) c (nextI S (some y)) c)) (HP.ex fun g'=>HP.and (mayK sE (l.map (·.1)) ys #[sE y.1] g') (HP.sep HP.tt (Kp g'))) (leftN l (S.push y.2.2)):=by
     refine ⟨S.push y.2.2,ys ++ [y.1],rfl,.of fun R h H => ?_,hnd,hy2,rfl⟩
     obtain ⟨g',⟨k',e1,e2,_⟩,H⟩:=H
     have:k'=y.1:=by
      have e3:sE y.1=sE k':=by simpa using e1
      exact (enc_injS e3).symm
     subst this
     subst e2
     exact H
    exact ⟨⟨_,hJ2⟩,Nat.lt_of_le_of_lt (leastN_le hJ2) (Nat.lt_of_lt_of_eq hdec hNe.symm)⟩
   | false =>
    exact ⟨false,Jx,hv',⟨fun _=>fin Jx Q (.of fun R h H=>⟨none,H⟩) rfl,fun h=>absurd h (by simp)⟩,hb⟩
theorem infoKS:(Tryz.prog.info? 9).map (fun i=>(i.zero,i.size,i.bytes))=some (some (.string .empty),1,16):=by kernel_rfl
theorem undKS:Tryz.prog.underlying 29=some (.slice 9):=by kernel_rfl
set_option maxHeartbeats 1000000 in
theorem appSeqS_ok (x:Nat) (m:Option Nat) (l:AL (List UInt8)) (c:Nat) (Q:HP) (hI:MapI l c) (hv : ∀ y ∈ l,(fun v:Value => ∃ n:Int,v = .int .i64 n) y.2.1) (hm : ∀ mb,m=some mb → ∀ R h,Q.p R h → h mb=some (mapObj sE l c)) (h0:m=none → l=[]) (hl:l.length ≤ 100000) :
  Tri Tryz.prog 194 #[.slice none 0 0,.func (.func 138) #[] #[.pointer (some ⟨x,0,none⟩)]] (HP.sep (KBoxS x m) Q)
   (fun v=>HP.ex fun ys:List (List UInt8)=>HP.ex fun a=>HP.ex fun cc=>HP.and (ys.Perm (l.map (·.1)) ∧ v = .slice a ys.length cc) (HP.sep (OwC 9 1 a ys.length cc (ys.map sE)) (HP.sep (KBoxS x m) Q))):=by
 refine Tri.weak (A:=HP.sep (OwC 9 1 none 0 0 []) (HP.sep (KBoxS x m) Q)) ?_ (fun R h H=>HP.sep_mono (HP.tt_sep H) (fun _ _=>OwC.nil _ _ _ _) fun _ h=>h) fun _ _ _ h=>h
 refine tri_of_tree (ρ:=[.a none,.n 0,.n 0,.p (OwC 9 1 none 0 0 []),.v (.func (.func 138) #[] #[.pointer (some ⟨x,0,none⟩)]),.p (HP.sep (KBoxS x m) Q)]) mixed Tryz.func194 tree_apS ?_
 unfold t_apS
 simp only [T.den,E.prop,E.den,RX.look,F1.app,F2.app,Uni.int_i,Uni.nat_n,Uni.bool_c,Uni.str_s,Uni.adr_a,Uni.val_v,Uni.hp_p,hden,cden,V.den,W.den,A.den,BR.den,SA.den,FV.den,capV,exs,exP,allP,Cur.app,List.map_cons,List.map_nil,List.cons_append,List.nil_append,List.drop_succ_cons,List.drop_zero,List.length_cons,List.length_nil,Nat.zero_add,Nat.reduceAdd,Int.neg_neg,Bool.not_not,List.append_nil,Nat.add_zero,List.getElem?_cons_zero,List.getElem?_cons_succ,Decidable.not_not,semW_eq,semW_append,ne_eq,Nat.reduceEqDiff,not_false_eq_true,oneC]
 intro _ _
 refine ⟨List (List UInt8),fun _=>HP.tt,prKS (l.map (·.1)),mayK sE (l.map (·.1)),fun ys=>ys.Perm (l.map (·.1)),[],fun ys a n cc P=>n=ys.length ∧ HP.ent P (OwC 9 1 a n cc (ys.map sE)),seqS x m l c Q hI hv hm h0,⟨rfl,.refl _⟩,?_,?_,?_⟩
 ·intro ys a n cc P _; rfl
 ·rintro ys args ⟨ys',k,rfl,rfl,hnd,hlen⟩ a n cc P ⟨rfl,hP⟩
  refine ⟨k,rfl,.of fun _ _ _=>trivial,fun eb => ?_⟩
  obtain ⟨i,hi,z1,z2,z3⟩:=info_parts infoKS
  have hyl:ys.length + 1 ≤ 100000:=by
   have h3:=hlen
   simp at h3
   omega
  have happ:=append_ok 29 29 9 i _ undKS hi z1 (by rw [z2]; rfl) (by omega) a ys.length cc (ys.map sE) (HP.one eb (.cells #[sE k] 9 (0,0))) ⟨eb,0,none⟩ 1 1 [sE k] (one_rd eb #[sE k] _) (by rw [z2]; rfl) (fun u hu=>by simp at hu; subst hu; rfl) (by unfold maxLen; omega) (by rw [z3]; omega)
  rw [z2] at happ
  refine (happ.conseq (K:=HP.tt) ((hP.sep _).trans (.of fun R h H=>HP.sep_tt H)) fun v => .of fun R h H => ?_)
  obtain ⟨a2,c2,rfl,H1⟩:=HP.sep_left H
  refine ⟨a2,ys.length + 1,c2,OwC 9 1 a2 (ys.length + 1) c2 ((ys ++ [k]).map sE),rfl,⟨ys ++ [k],⟨k,rfl,rfl,hnd,hlen⟩,by simp,.refl _⟩,?_⟩
  rw [List.map_append]
  exact H1
 ·rintro ys hp a n cc P ⟨rfl,hP⟩
  exact ((HP.ent.refl _).sep2 hP).trans (.of fun R h H=>⟨ys,a,cc,⟨hp,rfl⟩,HP.sep_comm H⟩)
set_option maxHeartbeats 1000000 in
theorem sortedS_ok (x:Nat) (m:Option Nat) (l:AL (List UInt8)) (c:Nat) (Q:HP) (hI:MapI l c) (hv : ∀ y ∈ l,(fun v:Value => ∃ n:Int,v = .int .i64 n) y.2.1) (hm : ∀ mb,m=some mb → ∀ R h,Q.p R h → h mb=some (mapObj sE l c)) (h0:m=none → l=[]) (hl:l.length ≤ 100000) :
  Tri Tryz.prog 74 #[.func (.func 138) #[] #[.pointer (some ⟨x,0,none⟩)]] (HP.sep (KBoxS x m) Q)
   (fun v=>HP.ex fun ys:List (List UInt8)=>HP.ex fun a=>HP.ex fun cc=>HP.and (ys.Perm (l.map (·.1)) ∧ v = .slice a ys.length cc) (HP.sep (OwC 9 1 a ys.length cc ((ys.mergeSort fun x y=>decide (x ≤ y)).map sE)) (HP.sep (KBoxS x m) Q))):=by
 have collect:Tri Tryz.prog 136 #[.func (.func 138) #[] #[.pointer (some ⟨x,0,none⟩)]] (HP.sep (KBoxS x m) Q)
   (fun v=>HP.ex fun ys:List (List UInt8)=>HP.ex fun a=>HP.ex fun cc=>HP.and (ys.Perm (l.map (·.1)) ∧ v = .slice a ys.length cc) (HP.sep (OwC 9 1 a ys.length cc (ys.map sE)) (HP.sep (KBoxS x m) Q))):=by
  refine tri_of_tree (ρ:=[.v (.func (.func 138) #[] #[.pointer (some ⟨x,0,none⟩)]),.p (HP.sep (KBoxS x m) Q)]) mixed Tryz.func136 tree_coS ?_
  unfold t_coS
  simp only [T.den,E.prop,E.den,RX.look,F1.app,F2.app,Uni.int_i,Uni.nat_n,Uni.bool_c,Uni.str_s,Uni.adr_a,Uni.val_v,Uni.hp_p,hden,cden,V.den,W.den,A.den,BR.den,SA.den,FV.den,capV,exs,exP,allP,Cur.app,List.map_cons,List.map_nil,List.cons_append,List.nil_append,List.drop_succ_cons,List.drop_zero,List.length_cons,List.length_nil,Nat.zero_add,Nat.reduceAdd,Int.neg_neg,Bool.not_not,List.append_nil,Nat.add_zero,List.getElem?_cons_zero,List.getElem?_cons_succ,Decidable.not_not,semW_eq,ne_eq,Nat.reduceEqDiff,not_false_eq_true,oneC]
  refine (appSeqS_ok x m l c Q hI hv hm h0 hl).weak (fun _ _ h=>h) ?_
  rintro v R h ⟨ys,a,cc,⟨hp,rfl⟩,H⟩
  exact ⟨a,ys.length,cc,OwC 9 1 a ys.length cc (ys.map sE),rfl,.of fun R h H=>⟨ys,a,cc,⟨hp,rfl⟩,HP.sep_comm H⟩,H⟩
 refine tri_of_tree (ρ:=[.v (.func (.func 138) #[] #[.pointer (some ⟨x,0,none⟩)]),.p (HP.sep (KBoxS x m) Q)]) mixed Tryz.func74 tree_soS ?_
 unfold t_soS
 simp only [T.den,E.prop,E.den,RX.look,F1.app,F2.app,Uni.int_i,Uni.nat_n,Uni.bool_c,Uni.str_s,Uni.adr_a,Uni.val_v,Uni.hp_p,hden,cden,V.den,W.den,A.den,BR.den,SA.den,FV.den,capV,exs,exP,allP,Cur.app,List.map_cons,List.map_nil,List.cons_append,List.nil_append,List.drop_succ_cons,List.drop_zero,List.length_cons,List.length_nil,Nat.zero_add,Nat.reduceAdd,Int.neg_neg,Bool.not_not,List.append_nil,Nat.add_zero,List.getElem?_cons_zero,List.getElem?_cons_succ,Decidable.not_not,semW_eq,ne_eq,Nat.reduceEqDiff,not_false_eq_true,oneC]
 refine collect.weak (fun _ _ h=>h) ?_
 rintro v R h ⟨ys,a,cc,⟨hp,rfl⟩,H⟩
 refine ⟨a,ys.length,cc,OwC 9 1 a ys.length cc (ys.map sE),rfl,?_,H⟩
 clear H
 have hyl:ys.length ≤ 100000:=by
  have:=hp.length_eq
  simp at this; omega
 refine (sortRow_ok (enc:=sE) (fun _=>rfl) (fun blk off cap zs w hH hb hz=>Tryz.slices_Sort_string blk off cap zs w hH hb hz) (fun p cap w=>Tryz.slices_Sort_string_none p cap w) a cc ys (by omega)).weak (fun _ _ h=>h) ?_
 rintro v R h ⟨rfl,H⟩
 exact ⟨OwC 9 1 a ys.length cc ((ys.mergeSort fun x y=>decide (x ≤ y)).map sE),rfl,.of fun R h H=>⟨ys,a,cc,⟨hp,rfl⟩,HP.sep_comm H⟩,H⟩
end Go.Proofs.YtdieogcemmnaaaaGreatDoor

namespace Go.Proofs.YtdieogcemmnaaaaGreatDoor
set_option linter.unusedSimpArgs false
set_option linter.unusedVariables false
open Go.Proofs.YtdieogcemmnaaaaGreatDoor RX
set_option maxRecDepth 100000
def KBoxI (x:Nat) (m:Option Nat):HP:=HP.one x (.cells #[.map m] 123 (0,0))
theorem keysI_ok (m:Option Nat) (Q:HP):Tri Tryz.prog 72 #[.map m] Q
  (fun v=>HP.ex fun x=>HP.and (v = .func (.func 135) #[] #[.pointer (some ⟨x,0,none⟩)]) (HP.sep (KBoxI x m) Q)):=by
 refine tri_of_tree (ρ:=[.v (.map m),.p Q]) mixed Tryz.func72 tree_ksI ?_
 unfold t_ksI
 simp only [T.den,E.prop,E.den,RX.look,F1.app,F2.app,Uni.int_i,Uni.nat_n,Uni.bool_c,Uni.str_s,Uni.adr_a,Uni.val_v,Uni.hp_p,hden,cden,V.den,W.den,A.den,BR.den,SA.den,FV.den,capV,exs,exP,allP,Cur.app,List.map_cons,List.map_nil,List.cons_append,List.nil_append,List.drop_succ_cons,List.drop_zero,List.length_cons,List.length_nil,Nat.zero_add,Nat.reduceAdd,Int.neg_neg,Bool.not_not,List.append_nil,Nat.add_zero,List.getElem?_cons_zero,List.getElem?_cons_succ,Decidable.not_not,semW_eq,ne_eq,Nat.reduceEqDiff,not_false_eq_true]
 exact fun x => .of fun R h H=>⟨x,rfl,HP.sep_comm H⟩
theorem fgoI:Fgo Tryz.prog 135:=⟨_,Tryz.func135,by kernel_rfl,by kernel_rfl⟩
def prKI (ks ys:List Int) (args:Array Value):HP:=HP.pure (∃ ys',mayK i64v ks ys args ys')
theorem enc_injI {a b:Int} (h:i64v a=i64v b):a=b:=by
 simpa [i64v] using h
set_option maxHeartbeats 1000000 in
theorem seqI (x:Nat) (m:Option Nat) (l:AL Int) (c:Nat) (Q:HP) (hI:MapI l c) (hv : ∀ y ∈ l,(fun v:Value => ∃ n:Nat,v = .pointer (some ⟨n,0,none⟩)) y.2.1) (hm : ∀ mb,m=some mb → ∀ R h,Q.p R h → h mb=some (mapObj i64v l c)) (h0:m=none → l=[]) :
  SeqTri Tryz.prog (.func (.func 135) #[] #[.pointer (some ⟨x,0,none⟩)]) (HP.sep (KBoxI x m) Q) (fun _=>HP.tt) (prKI (l.map (·.1))) (mayK i64v (l.map (·.1))) (fun ys=>ys.Perm (l.map (·.1))) ([]:List Int):=by
 refine ⟨_,_,rfl,fgoI,fun L Kp Jx hr => ?_⟩
 refine Tri.weak (A:=HP.sep (HP.sep HP.tt (Kp [])) (HP.sep (KBoxI x m) Q)) ?_ (fun R h H=>HP.sep_comm H) fun _ _ _ h=>h
 refine tri_of_tree (ρ:=[.v (.func (.yield L) #[] #[]),.p (HP.sep HP.tt (Kp [])),.n x,.v (.map m),.p Q]) mixed Tryz.func135 tree_ks1I ?_
 unfold t_ks1I
 simp only [T.den,E.prop,E.den,RX.look,F1.app,F2.app,Uni.int_i,Uni.nat_n,Uni.bool_c,Uni.str_s,Uni.adr_a,Uni.val_v,Uni.hp_p,hden,cden,V.den,W.den,A.den,BR.den,SA.den,FV.den,capV,exs,exP,allP,Cur.app,List.map_cons,List.map_nil,List.cons_append,List.nil_append,List.drop_succ_cons,List.drop_zero,List.length_cons,List.length_nil,Nat.zero_add,Nat.reduceAdd,Int.neg_neg,Bool.not_not,List.append_nil,Nat.add_zero,List.getElem?_cons_zero,List.getElem?_cons_succ,Decidable.not_not,semW_eq,semW_range,semW_next,semW_entry,ne_eq,Nat.reduceEqDiff,not_false_eq_true,oneC]
 have fin : ∀ (J Q':HP),HP.ent J (SeqPost (fun _=>HP.tt) Kp Jx (fun ys=>ys.Perm (l.map (·.1)))) → Q'=Q → HP.ent (HP.sep J (HP.sep (HP.one x (.cells #[.map m] 123)) Q'))
   (HP.sep (HP.sep (KBoxI x m) Q) (SeqPost (fun _=>HP.tt) Kp Jx (fun ys=>ys.Perm (l.map (·.1))))):=fun J Q' hJ hQ=>by
  subst hQ
  exact (hJ.sep _).trans (.of fun R h H=>HP.sep_comm H)
 cases m with
 | none =>
  have hl:l=[]:=h0 rfl
  refine (rang0_ok (Q:=Q) (show Tryz.prog.underlying 123=some (.map 3 121) by kernel_rfl)).weak (fun _ _ h=>h) ?_
  rintro v R h ⟨it,rfl,H⟩
  refine ⟨it,HP.one it (.mapIter none 0 #[] 0),Q,rfl,⟨fun Pi Pk=>Pi=HP.one it (.mapIter none 0 #[] 0) ∧ Pk=HP.sep HP.tt (Kp []),fun _ _=>Nat.zero,⟨rfl,rfl⟩,?_⟩,H⟩
  rintro _ _ ⟨rfl,rfl⟩
  refine next0_ok.weak (fun _ _ h=>h) ?_
  rintro v R h ⟨rfl,H⟩
  refine ⟨false,.tuple #[],.tuple #[],_,rfl,⟨fun h=>(by cases h),fun _=>fin _ _ (.of fun R h H=>⟨some [],?_,H⟩) rfl⟩,H⟩
  rw [hl]; exact List.Perm.refl _
 | some mb =>
  have hmb:=hm mb rfl
  refine (rangA_ok (Q:=Q) (enc:=i64v) (l:=l) (c:=c) (show Tryz.prog.underlying 123=some (.map 3 121) by kernel_rfl) hmb).weak (fun _ _ h=>h) ?_
  rintro v R h ⟨it,rfl,H⟩
  let J:HP → HP → Nat → Prop:=fun Pi Pk N => ∃ (S:Array Nat) (ys:List Int),Pi=HP.one it (.mapIter (some mb) c S c) ∧ HP.ent Pk (HP.sep HP.tt (Kp ys)) ∧ ys.Nodup ∧ (∀ k,k ∈ ys ↔ ∃ y ∈ l,y.1=k ∧ y.2.2 ∈ S) ∧ leftN l S=N
  refine ⟨it,HP.one it (.mapIter (some mb) c #[] c),Q,rfl,⟨fun Pi Pk => ∃ N,J Pi Pk N,fun Pi Pk=>leastN (J Pi Pk),⟨_,#[],[],rfl,.refl _,List.nodup_nil,fun k=>by simp,rfl⟩,?_⟩,H⟩
  clear H
  intro Pi Pk hJ
  have hJ':=leastN_spec hJ
  generalize hNe:leastN (J Pi Pk)=N at hJ'
  obtain ⟨S,ys,rfl,hP,hn,hy,hN⟩:=hJ'
  refine (nextA_ok (Q:=Q) hI.2 hmb).weak (fun _ _ h=>h) ?_
  rintro v R h ⟨e,he,H⟩
  rcases e with _ | y
  ·refine ⟨false,.tuple #[],.tuple #[],_,he.1,⟨fun h=>(by cases h),fun _=>fin _ _ (hP.trans (.of fun R h H=>⟨some ys,seen_all hn hI hy he.2,H⟩)) rfl⟩,H⟩
  ·obtain ⟨rfl,hyl,hyS⟩:=he
   obtain ⟨n,hn2⟩:=hv y hyl
   obtain ⟨hnot,hy2⟩:=seen_push hI hy hyl hyS
   have hnd:(ys ++ [y.1]).Nodup:=by
    rw [List.nodup_append]
    exact ⟨hn,by simp,fun a ha b hb=>by simp at hb; subst hb; exact fun e=>hnot (e ▸ ha)⟩
   have hlen:(ys ++ [y.1]).length ≤ (l.map (·.1)).length:=nodup_len hnd fun k hk=>by
    obtain ⟨z,hz,e,_⟩:=(hy2 k).1 hk
    exact List.mem_map.2 ⟨z,hz,e⟩
   have hmay:mayK i64v (l.map (·.1)) ys #[i64v y.1] (ys ++ [y.1]):=⟨y.1,rfl,rfl,hnd,hlen⟩
   have hent:=entry_ok (enc:=i64v) (it:=it) (m:=mb) (c:=c) (S:=S) (x:=y) hI.2 hyl (A:=HP.sep (HP.one it (.mapIter (some mb) c (nextI S (some y)) c)) Q) (fun R h H=>HP.sep_left H) (fun R h H=>hmb _ _ (HP.sep_right H) |> fun h1=>by
    obtain ⟨_,_,_,_,l2,_,b2⟩:=H
    exact l2 _ _ (hmb _ _ b2))
   rw [hn2] at hent
   refine ⟨true,i64v y.1,y.2.1,_,rfl,⟨fun _=>⟨y.1,n,hent,?_⟩,fun h=>(by simp at h)⟩,H⟩
   clear H
   refine (hr ys #[i64v y.1] ⟨_,hmay⟩).conseq (K:=HP.tt) (hP.trans (.of fun R h H=>HP.sep_tt (HP.sep_pure H ⟨_,hmay⟩))) fun v => .of fun R h H => ?_
   obtain ⟨b',hv',hb⟩:=HP.sep_left H
   have hdec:leftN l (S.push y.2.2) < N:=by rw [← hN]; exact leftN_push hyl hyS
   cases b' with
   | true =>
    refine ⟨true,_,hv',⟨fun h=>absurd rfl h,fun _ => ?_⟩,hb⟩
    have hJ2:J (HP.one it (.mapIter (some mb) c (nextI S (some y)) c)) (HP.ex fun g'=>HP.and (mayK i64v (l.map (·.1)) ys #[i64v y.1] g') (HP.sep HP.tt (Kp g'))) (leftN l (S.push y.2.2)):=by
     refine ⟨S.push y.2.2,ys ++ [y.1],rfl,.of fun R h H => ?_,hnd,hy2,rfl⟩
     obtain ⟨g',⟨k',e1,e2,_⟩,H⟩:=H
     have:k'=y.1:=by
      have e3:i64v y.1=i64v k':=by simpa using e1
      exact (enc_injI e3).symm
     subst this
     subst e2
     exact H
    exact ⟨⟨_,hJ2⟩,Nat.lt_of_le_of_lt (leastN_le hJ2) (Nat.lt_of_lt_of_eq hdec hNe.symm)⟩
   | false =>
    exact ⟨false,Jx,hv',⟨fun _=>fin Jx Q (.of fun R h H=>⟨none,H⟩) rfl,fun h=>absurd h (by simp)⟩,hb⟩
theorem infoKI:(Tryz.prog.info? 3).map (fun i=>(i.zero,i.size,i.bytes))=some (some (.int .i64 0),1,8):=by kernel_rfl
theorem undKI:Tryz.prog.underlying 89=some (.slice 3):=by kernel_rfl
set_option maxHeartbeats 1000000 in
theorem appSeqI_ok (x:Nat) (m:Option Nat) (l:AL Int) (c:Nat) (Q:HP) (hI:MapI l c) (hv : ∀ y ∈ l,(fun v:Value => ∃ n:Nat,v = .pointer (some ⟨n,0,none⟩)) y.2.1) (hm : ∀ mb,m=some mb → ∀ R h,Q.p R h → h mb=some (mapObj i64v l c)) (h0:m=none → l=[]) (hl:l.length ≤ 100000) :
  Tri Tryz.prog 191 #[.slice none 0 0,.func (.func 135) #[] #[.pointer (some ⟨x,0,none⟩)]] (HP.sep (KBoxI x m) Q)
   (fun v=>HP.ex fun ys:List Int=>HP.ex fun a=>HP.ex fun cc=>HP.and (ys.Perm (l.map (·.1)) ∧ v = .slice a ys.length cc) (HP.sep (OwC 3 1 a ys.length cc (ys.map i64v)) (HP.sep (KBoxI x m) Q))):=by
 refine Tri.weak (A:=HP.sep (OwC 3 1 none 0 0 []) (HP.sep (KBoxI x m) Q)) ?_ (fun R h H=>HP.sep_mono (HP.tt_sep H) (fun _ _=>OwC.nil _ _ _ _) fun _ h=>h) fun _ _ _ h=>h
 refine tri_of_tree (ρ:=[.a none,.n 0,.n 0,.p (OwC 3 1 none 0 0 []),.v (.func (.func 135) #[] #[.pointer (some ⟨x,0,none⟩)]),.p (HP.sep (KBoxI x m) Q)]) mixed Tryz.func191 tree_apI ?_
 unfold t_apI
 simp only [T.den,E.prop,E.den,RX.look,F1.app,F2.app,Uni.int_i,Uni.nat_n,Uni.bool_c,Uni.str_s,Uni.adr_a,Uni.val_v,Uni.hp_p,hden,cden,V.den,W.den,A.den,BR.den,SA.den,FV.den,capV,exs,exP,allP,Cur.app,List.map_cons,List.map_nil,List.cons_append,List.nil_append,List.drop_succ_cons,List.drop_zero,List.length_cons,List.length_nil,Nat.zero_add,Nat.reduceAdd,Int.neg_neg,Bool.not_not,List.append_nil,Nat.add_zero,List.getElem?_cons_zero,List.getElem?_cons_succ,Decidable.not_not,semW_eq,semW_append,ne_eq,Nat.reduceEqDiff,not_false_eq_true,oneC]
 intro _ _
 refine ⟨List Int,fun _=>HP.tt,prKI (l.map (·.1)),mayK i64v (l.map (·.1)),fun ys=>ys.Perm (l.map (·.1)),[],fun ys a n cc P=>n=ys.length ∧ HP.ent P (OwC 3 1 a n cc (ys.map i64v)),seqI x m l c Q hI hv hm h0,⟨rfl,.refl _⟩,?_,?_,?_⟩
 ·intro ys a n cc P _; rfl
 ·rintro ys args ⟨ys',k,rfl,rfl,hnd,hlen⟩ a n cc P ⟨rfl,hP⟩
  refine ⟨k,rfl,.of fun _ _ _=>trivial,fun eb => ?_⟩
  obtain ⟨i,hi,z1,z2,z3⟩:=info_parts infoKI
  have hyl:ys.length + 1 ≤ 100000:=by
   have h3:=hlen
   simp at h3
   omega
  have happ:=append_ok 89 89 3 i _ undKI hi z1 (by rw [z2]; rfl) (by omega) a ys.length cc (ys.map i64v) (HP.one eb (.cells #[i64v k] 3 (0,0))) ⟨eb,0,none⟩ 1 1 [i64v k] (one_rd eb #[i64v k] _) (by rw [z2]; rfl) (fun u hu=>by simp at hu; subst hu; rfl) (by unfold maxLen; omega) (by rw [z3]; omega)
  rw [z2] at happ
  refine (happ.conseq (K:=HP.tt) ((hP.sep _).trans (.of fun R h H=>HP.sep_tt H)) fun v => .of fun R h H => ?_)
  obtain ⟨a2,c2,rfl,H1⟩:=HP.sep_left H
  refine ⟨a2,ys.length + 1,c2,OwC 3 1 a2 (ys.length + 1) c2 ((ys ++ [k]).map i64v),rfl,⟨ys ++ [k],⟨k,rfl,rfl,hnd,hlen⟩,by simp,.refl _⟩,?_⟩
  rw [List.map_append]
  exact H1
 ·rintro ys hp a n cc P ⟨rfl,hP⟩
  exact ((HP.ent.refl _).sep2 hP).trans (.of fun R h H=>⟨ys,a,cc,⟨hp,rfl⟩,HP.sep_comm H⟩)
set_option maxHeartbeats 1000000 in
theorem sortedI_ok (x:Nat) (m:Option Nat) (l:AL Int) (c:Nat) (Q:HP) (hI:MapI l c) (hv : ∀ y ∈ l,(fun v:Value => ∃ n:Nat,v = .pointer (some ⟨n,0,none⟩)) y.2.1) (hm : ∀ mb,m=some mb → ∀ R h,Q.p R h → h mb=some (mapObj i64v l c)) (h0:m=none → l=[]) (hl:l.length ≤ 100000) :
  Tri Tryz.prog 71 #[.func (.func 135) #[] #[.pointer (some ⟨x,0,none⟩)]] (HP.sep (KBoxI x m) Q)
   (fun v=>HP.ex fun ys:List Int=>HP.ex fun a=>HP.ex fun cc=>HP.and (ys.Perm (l.map (·.1)) ∧ v = .slice a ys.length cc) (HP.sep (OwC 3 1 a ys.length cc ((ys.mergeSort fun x y=>decide (x ≤ y)).map i64v)) (HP.sep (KBoxI x m) Q))):=by
 have collect:Tri Tryz.prog 133 #[.func (.func 135) #[] #[.pointer (some ⟨x,0,none⟩)]] (HP.sep (KBoxI x m) Q)
   (fun v=>HP.ex fun ys:List Int=>HP.ex fun a=>HP.ex fun cc=>HP.and (ys.Perm (l.map (·.1)) ∧ v = .slice a ys.length cc) (HP.sep (OwC 3 1 a ys.length cc (ys.map i64v)) (HP.sep (KBoxI x m) Q))):=by
  refine tri_of_tree (ρ:=[.v (.func (.func 135) #[] #[.pointer (some ⟨x,0,none⟩)]),.p (HP.sep (KBoxI x m) Q)]) mixed Tryz.func133 tree_coI ?_
  unfold t_coI
  simp only [T.den,E.prop,E.den,RX.look,F1.app,F2.app,Uni.int_i,Uni.nat_n,Uni.bool_c,Uni.str_s,Uni.adr_a,Uni.val_v,Uni.hp_p,hden,cden,V.den,W.den,A.den,BR.den,SA.den,FV.den,capV,exs,exP,allP,Cur.app,List.map_cons,List.map_nil,List.cons_append,List.nil_append,List.drop_succ_cons,List.drop_zero,List.length_cons,List.length_nil,Nat.zero_add,Nat.reduceAdd,Int.neg_neg,Bool.not_not,List.append_nil,Nat.add_zero,List.getElem?_cons_zero,List.getElem?_cons_succ,Decidable.not_not,semW_eq,ne_eq,Nat.reduceEqDiff,not_false_eq_true,oneC]
  refine (appSeqI_ok x m l c Q hI hv hm h0 hl).weak (fun _ _ h=>h) ?_
  rintro v R h ⟨ys,a,cc,⟨hp,rfl⟩,H⟩
  exact ⟨a,ys.length,cc,OwC 3 1 a ys.length cc (ys.map i64v),rfl,.of fun R h H=>⟨ys,a,cc,⟨hp,rfl⟩,HP.sep_comm H⟩,H⟩
 refine tri_of_tree (ρ:=[.v (.func (.func 135) #[] #[.pointer (some ⟨x,0,none⟩)]),.p (HP.sep (KBoxI x m) Q)]) mixed Tryz.func71 tree_soI ?_
 unfold t_soI
 simp only [T.den,E.prop,E.den,RX.look,F1.app,F2.app,Uni.int_i,Uni.nat_n,Uni.bool_c,Uni.str_s,Uni.adr_a,Uni.val_v,Uni.hp_p,hden,cden,V.den,W.den,A.den,BR.den,SA.den,FV.den,capV,exs,exP,allP,Cur.app,List.map_cons,List.map_nil,List.cons_append,List.nil_append,List.drop_succ_cons,List.drop_zero,List.length_cons,List.length_nil,Nat.zero_add,Nat.reduceAdd,Int.neg_neg,Bool.not_not,List.append_nil,Nat.add_zero,List.getElem?_cons_zero,List.getElem?_cons_succ,Decidable.not_not,semW_eq,ne_eq,Nat.reduceEqDiff,not_false_eq_true,oneC]
 refine collect.weak (fun _ _ h=>h) ?_
 rintro v R h ⟨ys,a,cc,⟨hp,rfl⟩,H⟩
 refine ⟨a,ys.length,cc,OwC 3 1 a ys.length cc (ys.map i64v),rfl,?_,H⟩
 clear H
 have hyl:ys.length ≤ 100000:=by
  have:=hp.length_eq
  simp at this; omega
 refine (sortRow_ok (enc:=i64v) (fun _=>rfl) (fun blk off cap zs w hH hb hz=>Tryz.slices_Sort_int blk off cap zs w hH hb hz) (fun p cap w=>Tryz.slices_Sort_int_none p cap w) a cc ys (by omega)).weak (fun _ _ h=>h) ?_
 rintro v R h ⟨rfl,H⟩
 exact ⟨OwC 3 1 a ys.length cc ((ys.mergeSort fun x y=>decide (x ≤ y)).map i64v),rfl,.of fun R h H=>⟨ys,a,cc,⟨hp,rfl⟩,HP.sep_comm H⟩,H⟩
end Go.Proofs.YtdieogcemmnaaaaGreatDoor

namespace Go.Proofs.YtdieogcemmnaaaaGreatDoor.RX
set_option maxRecDepth 100000
-- tideline/tree.directory: ρ:=[]
def t_tDir:T :=
(.new
(.new
(.ret (.w (.a (.ptr (.v 1) 0))) [(.b (.v 1),.cells [.int .i64 (.i 1),.int .i64 (.i 1),.sl .nil (.n 0) (.n 0),.map (.v 0)] 133),(.b (.v 0),.emap)])))
theorem tree_tDir:tree Tryz.prog { opq:=[121],keep:=[132,127,128,129,69,70,67,19,73,75,72,71,74],link:=[(127,0),(128,0),(129,0),(75,0),(72,0)],opn:=true,rdf:=true,peek:=[121] } Tryz.f60 [] [] 0=t_tDir:=by kernel_rfl
def t_tNew:T :=
(.new
(.call 60 [] [] [.v,.p] (.w (.a (.val 1))) [(.a 1,.prop 2)]
(.op (.insert 123 (.tmp 1) (.const (.int .i64 0)) (.tmp 2)) 0 [(1,.w (.a (.map (.v 0)))),(2,.w (.a (.val 1)))] [(.b (.v 0),.emap),(.a 1,.prop 2)] [.p] (.tup []) [(.b (.v 0),.prop 3)]
(.new
(.ret (.w (.a (.ptr (.v 4) 0))) [(.b (.v 4),.cells [.map (.v 0)] 125),(.b (.v 0),.prop 3)])))))
theorem tree_tNew:tree Tryz.prog { opq:=[121],keep:=[132,127,128,129,69,70,67,19,73,75,72,71,74],link:=[(127,0),(128,0),(129,0),(75,0),(72,0)],opn:=true,rdf:=true,peek:=[121] } Tryz.f17 [] [] 0=t_tNew:=by kernel_rfl
def t_tFind:T :=
(.call 190 [.a (.str (.v 2))] [] [.a,.n,.n,.p,.i] (.tup [.a (.sl (.v 3) (.v 4) (.v 5)),.a (.int .i64 (.v 7))]) [(.a 3,.prop 6)]
(.br (.o1 .not (.o2 .eq (.v 7) (.i 0)))
(.ret (.tup [.a (.int .i64 (.i 0)),.a (.int .i64 (.v 7))]) [(.b (.v 0),.prop 1)])
(.loop [.i,.i,.i,.i] [.e (.o1 .neg (.o1 .neg (.i 0))),.e (.o1 .neg (.o1 .neg (.i 0))),.e (.o1 .neg (.o1 .neg (.i 0))),.e (.o1 .neg (.o1 .neg (.i 0)))]
(.br (.o2 .lt (.v 11) (.o1 .ofNat (.v 4)))
(.need (.o2 .le (.i 0) (.v 11))
(.need (.o1 .isSome (.v 3))
(.read (.load 9 (.tmp 26)) 9 [(26,.w (.a (.eptr 3 (.v 11) 1 0)))] [(.a 3,.prop 6)] [.s] (.w (.a (.str (.v 12))))
(.read (.load 123 (.tmp 30)) 123 [(30,.w (.a (.ptr (.v 0) 0)))] [(.b (.v 0),.prop 1)] [.n] (.w (.a (.map (.v 13))))
(.read (.lookup 123 (.tmp 31) (.tmp 32) false) 121 [(31,.w (.a (.map (.v 13)))),(32,.w (.a (.int .i64 (.v 10))))] [(.b (.v 0),.prop 1)] [.v] (.w (.a (.val 14)))
(.read (.nilCheck (.tmp 34)) 0 [(34,.w (.a (.val 14)))] [(.b (.v 0),.prop 1)] [.n] (.w (.a (.ptr (.v 15) 0)))
(.read (.load 3 (.tmp 36)) 3 [(36,.w (.a (.ptr (.v 15) 0)))] [(.b (.v 0),.prop 1)] [.i] (.w (.a (.int .i64 (.v 16))))
(.br (.o1 .not (.o2 .eq (.v 16) (.i 1)))
(.ret (.tup [.a (.int .i64 (.i 0)),.a (.int .i64 (.i 23))]) [(.b (.v 0),.prop 1)])
(.read (.nilCheck (.tmp 40)) 0 [(40,.w (.a (.val 14)))] [(.b (.v 0),.prop 1)] [.n] (.w (.a (.ptr (.v 17) 0)))
(.read (.load 131 (.tmp 42)) 131 [(42,.w (.a (.ptr (.v 17) 3)))] [(.b (.v 0),.prop 1)] [.n] (.w (.a (.map (.v 18))))
(.read (.lookup 131 (.tmp 43) (.tmp 44) true) 201 [(43,.w (.a (.map (.v 18)))),(44,.w (.a (.str (.v 12))))] [(.b (.v 0),.prop 1)] [.i,.c] (.tup [.a (.int .i64 (.v 19)),.a (.bool (.v 20))])
(.br (.o1 .not (.v 20))
(.ret (.tup [.a (.int .i64 (.i 0)),.a (.int .i64 (.i 21))]) [(.b (.v 0),.prop 1)])
(.need (.o1 (.inr .i64) (.o2 .add (.v 11) (.i 1)))
(.again 0 [.e (.o1 .neg (.o1 .neg (.v 8))),.e (.o1 .neg (.o1 .neg (.v 9))),.e (.o1 .neg (.o1 .neg (.v 19))),.e (.o1 .neg (.o1 .neg (.o2 .add (.v 11) (.i 1))))]))))))))))))))
(.ret (.tup [.a (.int .i64 (.v 10)),.a (.int .i64 (.i 0))]) [(.b (.v 0),.prop 1)])))))
theorem tree_tFind:tree Tryz.prog { opq:=[121],keep:=[132,127,128,129,69,70,67,19,73,75,72,71,74],link:=[(127,0),(128,0),(129,0),(75,0),(72,0)],opn:=true,rdf:=true,peek:=[121] } Tryz.f132 [.a (.ptr (.v 0) 0),.a (.str (.v 2))] [(.b (.v 0),.prop 1)] 3=t_tFind:=by kernel_rfl
def t_tPlace:T :=
(.call 189 [.a (.str (.v 2))] [] [.s,.s,.i] (.tup [.a (.str (.v 3)),.a (.str (.v 4)),.a (.int .i64 (.v 5))]) []
(.br (.o1 .not (.o2 .eq (.v 5) (.i 0)))
(.ret (.tup [.a .nilp,.a (.str (.s [])),.a (.int .i64 (.v 5))]) [(.b (.v 0),.prop 1)])
(.call 132 [.a (.ptr (.v 0) 0),.a (.str (.v 3))] [(.b (.v 0),.prop 1)] [.i,.i] (.tup [.a (.int .i64 (.v 6)),.a (.int .i64 (.v 7))]) [(.b (.v 0),.prop 1)]
(.br (.o1 .not (.o2 .eq (.v 7) (.i 0)))
(.ret (.tup [.a .nilp,.a (.str (.s [])),.a (.int .i64 (.v 7))]) [(.b (.v 0),.prop 1)])
(.read (.load 123 (.tmp 34)) 123 [(34,.w (.a (.ptr (.v 0) 0)))] [(.b (.v 0),.prop 1)] [.n] (.w (.a (.map (.v 8))))
(.read (.lookup 123 (.tmp 35) (.tmp 36) false) 121 [(35,.w (.a (.map (.v 8)))),(36,.w (.a (.int .i64 (.v 6))))] [(.b (.v 0),.prop 1)] [.v] (.w (.a (.val 9)))
(.read (.nilCheck (.tmp 38)) 0 [(38,.w (.a (.val 9)))] [(.b (.v 0),.prop 1)] [.n] (.w (.a (.ptr (.v 10) 0)))
(.read (.load 3 (.tmp 40)) 3 [(40,.w (.a (.ptr (.v 10) 0)))] [(.b (.v 0),.prop 1)] [.i] (.w (.a (.int .i64 (.v 11))))
(.br (.o1 .not (.o2 .eq (.v 11) (.i 1)))
(.ret (.tup [.a .nilp,.a (.str (.s [])),.a (.int .i64 (.i 23))]) [(.b (.v 0),.prop 1)])
(.read (.nilCheck (.tmp 44)) 0 [(44,.w (.a (.val 9)))] [(.b (.v 0),.prop 1)] [.n] (.w (.a (.ptr (.v 12) 0)))
(.read (.load 131 (.tmp 46)) 131 [(46,.w (.a (.ptr (.v 12) 3)))] [(.b (.v 0),.prop 1)] [.n] (.w (.a (.map (.v 13))))
(.read (.lookup 131 (.tmp 47) (.tmp 48) true) 201 [(47,.w (.a (.map (.v 13)))),(48,.w (.a (.str (.v 4))))] [(.b (.v 0),.prop 1)] [.i,.c] (.tup [.a (.int .i64 (.v 14)),.a (.bool (.v 15))])
(.br (.v 15)
(.ret (.tup [.a .nilp,.a (.str (.s [])),.a (.int .i64 (.i 22))]) [(.b (.v 0),.prop 1)])
(.ret (.tup [.a (.val 9),.a (.str (.v 4)),.a (.int .i64 (.i 0))]) [(.b (.v 0),.prop 1)]))))))))))))))
theorem tree_tPlace:tree Tryz.prog { opq:=[121],keep:=[132,127,128,129,69,70,67,19,73,75,72,71,74],link:=[(127,0),(128,0),(129,0),(75,0),(72,0)],opn:=true,rdf:=true,peek:=[121] } Tryz.f127 [.a (.ptr (.v 0) 0),.a (.str (.v 2))] [(.b (.v 0),.prop 1)] 3=t_tPlace:=by kernel_rfl
def t_tEntry:T :=
(.call 189 [.a (.str (.v 2))] [] [.s,.s,.i] (.tup [.a (.str (.v 3)),.a (.str (.v 4)),.a (.int .i64 (.v 5))]) []
(.br (.o1 .not (.o2 .eq (.v 5) (.i 0)))
(.ret (.tup [.a .nilp,.a (.str (.s [])),.a (.int .i64 (.i 0)),.a (.int .i64 (.v 5))]) [(.b (.v 0),.prop 1)])
(.call 132 [.a (.ptr (.v 0) 0),.a (.str (.v 2))] [(.b (.v 0),.prop 1)] [.i,.i] (.tup [.a (.int .i64 (.v 6)),.a (.int .i64 (.v 7))]) [(.b (.v 0),.prop 1)]
(.br (.o1 .not (.o2 .eq (.v 7) (.i 0)))
(.ret (.tup [.a .nilp,.a (.str (.s [])),.a (.int .i64 (.i 0)),.a (.int .i64 (.v 7))]) [(.b (.v 0),.prop 1)])
(.call 132 [.a (.ptr (.v 0) 0),.a (.str (.v 3))] [(.b (.v 0),.prop 1)] [.i,.i] (.tup [.a (.int .i64 (.v 8)),.a (.int .i64 (.v 9))]) [(.b (.v 0),.prop 1)]
(.br (.o1 .not (.o2 .eq (.v 9) (.i 0)))
(.ret (.tup [.a .nilp,.a (.str (.s [])),.a (.int .i64 (.i 0)),.a (.int .i64 (.v 9))]) [(.b (.v 0),.prop 1)])
(.read (.load 123 (.tmp 42)) 123 [(42,.w (.a (.ptr (.v 0) 0)))] [(.b (.v 0),.prop 1)] [.n] (.w (.a (.map (.v 10))))
(.read (.lookup 123 (.tmp 43) (.tmp 44) false) 121 [(43,.w (.a (.map (.v 10)))),(44,.w (.a (.int .i64 (.v 8))))] [(.b (.v 0),.prop 1)] [.v] (.w (.a (.val 11)))
(.ret (.tup [.a (.val 11),.a (.str (.v 4)),.a (.int .i64 (.v 6)),.a (.int .i64 (.i 0))]) [(.b (.v 0),.prop 1)])))))))))
theorem tree_tEntry:tree Tryz.prog { opq:=[121],keep:=[132,127,128,129,69,70,67,19,73,75,72,71,74],link:=[(127,0),(128,0),(129,0),(75,0),(72,0)],opn:=true,rdf:=true,peek:=[121] } Tryz.f128 [.a (.ptr (.v 0) 0),.a (.str (.v 2))] [(.b (.v 0),.prop 1)] 3=t_tEntry:=by kernel_rfl
def t_tFile:T :=
(.call 132 [.a (.ptr (.v 0) 0),.a (.str (.v 2))] [(.b (.v 0),.prop 1)] [.i,.i] (.tup [.a (.int .i64 (.v 3)),.a (.int .i64 (.v 4))]) [(.b (.v 0),.prop 1)]
(.br (.o1 .not (.o2 .eq (.v 4) (.i 0)))
(.ret (.tup [.a .nilp,.a (.int .i64 (.i 0)),.a (.int .i64 (.v 4))]) [(.b (.v 0),.prop 1)])
(.read (.load 123 (.tmp 21)) 123 [(21,.w (.a (.ptr (.v 0) 0)))] [(.b (.v 0),.prop 1)] [.n] (.w (.a (.map (.v 5))))
(.read (.lookup 123 (.tmp 22) (.tmp 23) false) 121 [(22,.w (.a (.map (.v 5)))),(23,.w (.a (.int .i64 (.v 3))))] [(.b (.v 0),.prop 1)] [.v] (.w (.a (.val 6)))
(.read (.nilCheck (.tmp 25)) 0 [(25,.w (.a (.val 6)))] [(.b (.v 0),.prop 1)] [.n] (.w (.a (.ptr (.v 7) 0)))
(.read (.load 3 (.tmp 27)) 3 [(27,.w (.a (.ptr (.v 7) 0)))] [(.b (.v 0),.prop 1)] [.i] (.w (.a (.int .i64 (.v 8))))
(.br (.o2 .eq (.v 8) (.i 1))
(.ret (.tup [.a .nilp,.a (.int .i64 (.i 0)),.a (.int .i64 (.i 24))]) [(.b (.v 0),.prop 1)])
(.ret (.tup [.a (.val 6),.a (.int .i64 (.v 3)),.a (.int .i64 (.i 0))]) [(.b (.v 0),.prop 1)]))))))))
theorem tree_tFile:tree Tryz.prog { opq:=[121],keep:=[132,127,128,129,69,70,67,19,73,75,72,71,74],link:=[(127,0),(128,0),(129,0),(75,0),(72,0)],opn:=true,rdf:=true,peek:=[121] } Tryz.f129 [.a (.ptr (.v 0) 0),.a (.str (.v 2))] [(.b (.v 0),.prop 1)] 3=t_tFile:=by kernel_rfl
def t_tMake:T :=
(.new
(.call 127 [.a (.ptr (.v 0) 0),.a (.str (.v 3))] [(.b (.v 0),.prop 1)] [.v,.p,.s,.i] (.tup [.a (.val 12),.a (.str (.v 14)),.a (.int .i64 (.v 15))]) [(.a 12,.prop 13),(.b (.v 0),.prop 1)]
(.br (.o1 .not (.o2 .eq (.v 15) (.i 0)))
(.ret (.w (.a (.int .i64 (.v 15)))) [(.b (.v 0),.prop 1),(.a 7,.prop 10)])
(.read (.load 123 (.tmp 22)) 123 [(22,.w (.a (.ptr (.v 0) 0)))] [(.b (.v 0),.prop 1)] [.n] (.w (.a (.map (.v 16))))
(.read (.call ⟨.builtin .len,#[.tmp 23],#[123]⟩) 3 [(23,.w (.a (.map (.v 16))))] [(.b (.v 0),.prop 1)] [.i] (.w (.a (.int .i64 (.v 17))))
(.br (.o2 .le (.i 64) (.v 17))
(.ret (.w (.a (.int .i64 (.i 27)))) [(.b (.v 0),.prop 1),(.a 7,.prop 10)])
(.loop [.i] [.e (.o1 .neg (.o1 .neg (.i 1)))]
(.read (.load 123 (.tmp 28)) 123 [(28,.w (.a (.ptr (.v 0) 0)))] [(.b (.v 0),.prop 1)] [.n] (.w (.a (.map (.v 19))))
(.read (.lookup 123 (.tmp 29) (.tmp 30) false) 121 [(29,.w (.a (.map (.v 19)))),(30,.w (.a (.int .i64 (.v 18))))] [(.b (.v 0),.prop 1)] [.v] (.w (.a (.val 20)))
(.read (.binOp .neq 121 (.tmp 31) (.const (.pointer none)) 121) 4 [(31,.w (.a (.val 20)))] [(.b (.v 0),.prop 1)] [.c] (.w (.a (.bool (.v 21))))
(.br (.v 21)
(.need (.o1 (.inr .i64) (.o2 .add (.v 18) (.i 1)))
(.again 0 [.e (.o1 .neg (.o1 .neg (.o2 .add (.v 18) (.i 1))))]))
(.br (.o2 .eq (.v 2) (.i 1))
(.read (.load 123 (.tmp 40)) 123 [(40,.w (.a (.ptr (.v 0) 0)))] [(.b (.v 0),.prop 1)] [.n] (.w (.a (.map (.v 22))))
(.call 60 [] [] [.v,.p] (.w (.a (.val 23))) [(.a 23,.prop 24)]
(.op (.mapUpdate 123 (.tmp 41) (.tmp 42) (.tmp 43)) 0 [(41,.w (.a (.map (.v 22)))),(42,.w (.a (.int .i64 (.v 18)))),(43,.w (.a (.val 23)))] [(.b (.v 0),.prop 1),(.a 23,.prop 24)] [.p] (.tup []) [(.b (.v 0),.prop 25)]
(.read (.nilCheck (.tmp 51)) 0 [(51,.w (.a (.val 12)))] [(.a 12,.prop 13),(.b (.v 0),.prop 25)] [.n] (.w (.a (.ptr (.v 26) 0)))
(.read (.load 131 (.tmp 53)) 131 [(53,.w (.a (.ptr (.v 26) 3)))] [(.a 12,.prop 13),(.b (.v 0),.prop 25)] [.n] (.w (.a (.map (.v 27))))
(.op (.mapUpdate 131 (.tmp 54) (.tmp 55) (.tmp 56)) 0 [(54,.w (.a (.map (.v 27)))),(55,.w (.a (.str (.v 14)))),(56,.w (.a (.int .i64 (.v 18))))] [(.a 12,.prop 13),(.b (.v 0),.prop 25)] [.p,.p] (.tup []) [(.a 12,.prop 28),(.b (.v 0),.prop 29)]
(.ret (.w (.a (.int .i64 (.i 0)))) [(.b (.v 0),.prop 29),(.a 7,.prop 10)])))))))
(.read (.load 123 (.tmp 46)) 123 [(46,.w (.a (.ptr (.v 0) 0)))] [(.b (.v 0),.prop 1)] [.n] (.w (.a (.map (.v 22))))
(.new
(.op (.mapUpdate 123 (.tmp 47) (.tmp 48) (.tmp 50)) 0 [(47,.w (.a (.map (.v 22)))),(48,.w (.a (.int .i64 (.v 18)))),(50,.w (.a (.ptr (.v 23) 0)))] [(.b (.v 0),.prop 1),(.b (.v 23),.cells [.int .i64 (.i 2),.int .i64 (.i 1),.sl .nil (.n 0) (.n 0),.nilm] 133)] [.p] (.tup []) [(.b (.v 0),.prop 24)]
(.read (.nilCheck (.tmp 51)) 0 [(51,.w (.a (.val 12)))] [(.a 12,.prop 13),(.b (.v 0),.prop 24)] [.n] (.w (.a (.ptr (.v 25) 0)))
(.read (.load 131 (.tmp 53)) 131 [(53,.w (.a (.ptr (.v 25) 3)))] [(.a 12,.prop 13),(.b (.v 0),.prop 24)] [.n] (.w (.a (.map (.v 26))))
(.op (.mapUpdate 131 (.tmp 54) (.tmp 55) (.tmp 56)) 0 [(54,.w (.a (.map (.v 26)))),(55,.w (.a (.str (.v 14)))),(56,.w (.a (.int .i64 (.v 18))))] [(.a 12,.prop 13),(.b (.v 0),.prop 24)] [.p,.p] (.tup []) [(.a 12,.prop 27),(.b (.v 0),.prop 28)]
(.ret (.w (.a (.int .i64 (.i 0)))) [(.b (.v 0),.prop 28),(.a 7,.prop 10)])))))))))))))))))))
theorem tree_tMake:tree Tryz.prog { opq:=[121],keep:=[132,127,128,129,69,70,67,19,73,75,72,71,74],link:=[(127,0),(128,0),(129,0),(75,0),(72,0)],opn:=true,rdf:=true,peek:=[121] } Tryz.f61 [.a (.ptr (.v 0) 0),.agg [.int .i64 (.v 2),.str (.v 3),.str (.v 4),.int .i64 (.v 5),.int .i64 (.v 6),.sl (.v 7) (.v 8) (.v 9)]] [(.b (.v 0),.prop 1),(.a 7,.prop 10)] 11=t_tMake:=by kernel_rfl
def t_tRmdir:T :=
(.new
(.call 128 [.a (.ptr (.v 0) 0),.a (.str (.v 3))] [(.b (.v 0),.prop 1)] [.v,.p,.s,.i,.i] (.tup [.a (.val 12),.a (.str (.v 14)),.a (.int .i64 (.v 15)),.a (.int .i64 (.v 16))]) [(.a 12,.prop 13),(.b (.v 0),.prop 1)]
(.br (.o1 .not (.o2 .eq (.v 16) (.i 0)))
(.ret (.w (.a (.int .i64 (.v 16)))) [(.b (.v 0),.prop 1),(.a 7,.prop 10)])
(.read (.load 123 (.tmp 24)) 123 [(24,.w (.a (.ptr (.v 0) 0)))] [(.b (.v 0),.prop 1)] [.n] (.w (.a (.map (.v 17))))
(.read (.lookup 123 (.tmp 25) (.tmp 26) false) 121 [(25,.w (.a (.map (.v 17)))),(26,.w (.a (.int .i64 (.v 15))))] [(.b (.v 0),.prop 1)] [.v] (.w (.a (.val 18)))
(.read (.nilCheck (.tmp 28)) 0 [(28,.w (.a (.val 18)))] [(.b (.v 0),.prop 1)] [.n] (.w (.a (.ptr (.v 19) 0)))
(.read (.load 3 (.tmp 30)) 3 [(30,.w (.a (.ptr (.v 19) 0)))] [(.b (.v 0),.prop 1)] [.i] (.w (.a (.int .i64 (.v 20))))
(.br (.o1 .not (.o2 .eq (.v 20) (.i 1)))
(.ret (.w (.a (.int .i64 (.i 23)))) [(.b (.v 0),.prop 1),(.a 7,.prop 10)])
(.read (.nilCheck (.tmp 33)) 0 [(33,.w (.a (.val 18)))] [(.b (.v 0),.prop 1)] [.n] (.w (.a (.ptr (.v 21) 0)))
(.read (.load 131 (.tmp 35)) 131 [(35,.w (.a (.ptr (.v 21) 3)))] [(.b (.v 0),.prop 1)] [.n] (.w (.a (.map (.v 22))))
(.read (.call ⟨.builtin .len,#[.tmp 36],#[131]⟩) 3 [(36,.w (.a (.map (.v 22))))] [(.b (.v 0),.prop 1)] [.i] (.w (.a (.int .i64 (.v 23))))
(.br (.o2 .lt (.i 0) (.v 23))
(.ret (.w (.a (.int .i64 (.i 25)))) [(.b (.v 0),.prop 1),(.a 7,.prop 10)])
(.read (.nilCheck (.tmp 39)) 0 [(39,.w (.a (.val 12)))] [(.a 12,.prop 13),(.b (.v 0),.prop 1)] [.n] (.w (.a (.ptr (.v 24) 0)))
(.read (.load 131 (.tmp 41)) 131 [(41,.w (.a (.ptr (.v 24) 3)))] [(.a 12,.prop 13),(.b (.v 0),.prop 1)] [.n] (.w (.a (.map (.v 25))))
(.op (.call ⟨.builtin .delete,#[.tmp 42,.tmp 43],#[131,9]⟩) 0 [(42,.w (.a (.map (.v 25)))),(43,.w (.a (.str (.v 14))))] [(.a 12,.prop 13),(.b (.v 0),.prop 1)] [.p,.p] (.tup []) [(.a 12,.prop 26),(.b (.v 0),.prop 27)]
(.read (.load 123 (.tmp 46)) 123 [(46,.w (.a (.ptr (.v 0) 0)))] [(.b (.v 0),.prop 27)] [.n] (.w (.a (.map (.v 28))))
(.op (.call ⟨.builtin .delete,#[.tmp 47,.tmp 48],#[123,3]⟩) 0 [(47,.w (.a (.map (.v 28)))),(48,.w (.a (.int .i64 (.v 15))))] [(.b (.v 0),.prop 27)] [.p] (.tup []) [(.b (.v 0),.prop 29)]
(.ret (.w (.a (.int .i64 (.i 0)))) [(.b (.v 0),.prop 29),(.a 7,.prop 10)]))))))))))))))))))
theorem tree_tRmdir:tree Tryz.prog { opq:=[121],keep:=[132,127,128,129,69,70,67,19,73,75,72,71,74],link:=[(127,0),(128,0),(129,0),(75,0),(72,0)],opn:=true,rdf:=true,peek:=[121] } Tryz.f62 [.a (.ptr (.v 0) 0),.agg [.int .i64 (.v 2),.str (.v 3),.str (.v 4),.int .i64 (.v 5),.int .i64 (.v 6),.sl (.v 7) (.v 8) (.v 9)]] [(.b (.v 0),.prop 1),(.a 7,.prop 10)] 11=t_tRmdir:=by kernel_rfl
def t_tUnlink:T :=
(.new
(.call 128 [.a (.ptr (.v 0) 0),.a (.str (.v 3))] [(.b (.v 0),.prop 1)] [.v,.p,.s,.i,.i] (.tup [.a (.val 12),.a (.str (.v 14)),.a (.int .i64 (.v 15)),.a (.int .i64 (.v 16))]) [(.a 12,.prop 13),(.b (.v 0),.prop 1)]
(.br (.o1 .not (.o2 .eq (.v 16) (.i 0)))
(.ret (.w (.a (.int .i64 (.v 16)))) [(.b (.v 0),.prop 1),(.a 7,.prop 10)])
(.read (.load 123 (.tmp 24)) 123 [(24,.w (.a (.ptr (.v 0) 0)))] [(.b (.v 0),.prop 1)] [.n] (.w (.a (.map (.v 17))))
(.read (.lookup 123 (.tmp 25) (.tmp 26) false) 121 [(25,.w (.a (.map (.v 17)))),(26,.w (.a (.int .i64 (.v 15))))] [(.b (.v 0),.prop 1)] [.v] (.w (.a (.val 18)))
(.read (.nilCheck (.tmp 28)) 0 [(28,.w (.a (.val 18)))] [(.b (.v 0),.prop 1)] [.n] (.w (.a (.ptr (.v 19) 0)))
(.read (.load 3 (.tmp 30)) 3 [(30,.w (.a (.ptr (.v 19) 0)))] [(.b (.v 0),.prop 1)] [.i] (.w (.a (.int .i64 (.v 20))))
(.br (.o2 .eq (.v 20) (.i 1))
(.ret (.w (.a (.int .i64 (.i 24)))) [(.b (.v 0),.prop 1),(.a 7,.prop 10)])
(.read (.nilCheck (.tmp 33)) 0 [(33,.w (.a (.val 12)))] [(.a 12,.prop 13),(.b (.v 0),.prop 1)] [.n] (.w (.a (.ptr (.v 21) 0)))
(.read (.load 131 (.tmp 35)) 131 [(35,.w (.a (.ptr (.v 21) 3)))] [(.a 12,.prop 13),(.b (.v 0),.prop 1)] [.n] (.w (.a (.map (.v 22))))
(.op (.call ⟨.builtin .delete,#[.tmp 36,.tmp 37],#[131,9]⟩) 0 [(36,.w (.a (.map (.v 22)))),(37,.w (.a (.str (.v 14))))] [(.a 12,.prop 13),(.b (.v 0),.prop 1)] [.p,.p] (.tup []) [(.a 12,.prop 23),(.b (.v 0),.prop 24)]
(.read (.nilCheck (.tmp 38)) 0 [(38,.w (.a (.val 18)))] [(.b (.v 0),.prop 24)] [.n] (.w (.a (.ptr (.v 25) 0)))
(.read (.load 3 (.tmp 40)) 3 [(40,.w (.a (.ptr (.v 25) 1)))] [(.b (.v 0),.prop 24)] [.i] (.w (.a (.int .i64 (.v 26))))
(.need (.o1 (.inr .i64) (.o2 .sub (.v 26) (.i 1)))
(.read (.nilCheck (.tmp 38)) 0 [(38,.w (.a (.val 18)))] [(.b (.v 0),.prop 24)] [.n] (.w (.a (.ptr (.v 27) 0)))
(.op (.store 3 (.tmp 44) (.tmp 42)) 0 [(44,.w (.a (.ptr (.v 27) 1))),(42,.w (.a (.int .i64 (.o2 .sub (.v 26) (.i 1)))))] [(.b (.v 0),.prop 24)] [.p] (.tup []) [(.b (.v 0),.prop 28)]
(.read (.nilCheck (.tmp 45)) 0 [(45,.w (.a (.val 18)))] [(.b (.v 0),.prop 28)] [.n] (.w (.a (.ptr (.v 29) 0)))
(.read (.load 3 (.tmp 47)) 3 [(47,.w (.a (.ptr (.v 29) 1)))] [(.b (.v 0),.prop 28)] [.i] (.w (.a (.int .i64 (.v 30))))
(.br (.o2 .eq (.v 30) (.i 0))
(.read (.load 123 (.tmp 52)) 123 [(52,.w (.a (.ptr (.v 0) 0)))] [(.b (.v 0),.prop 28)] [.n] (.w (.a (.map (.v 31))))
(.op (.call ⟨.builtin .delete,#[.tmp 53,.tmp 54],#[123,3]⟩) 0 [(53,.w (.a (.map (.v 31)))),(54,.w (.a (.int .i64 (.v 15))))] [(.b (.v 0),.prop 28)] [.p] (.tup []) [(.b (.v 0),.prop 32)]
(.ret (.w (.a (.int .i64 (.i 0)))) [(.b (.v 0),.prop 32),(.a 7,.prop 10)])))
(.ret (.w (.a (.int .i64 (.i 0)))) [(.b (.v 0),.prop 28),(.a 7,.prop 10)]))))))))))))))))))))
theorem tree_tUnlink:tree Tryz.prog { opq:=[121],keep:=[132,127,128,129,69,70,67,19,73,75,72,71,74],link:=[(127,0),(128,0),(129,0),(75,0),(72,0)],opn:=true,rdf:=true,peek:=[121] } Tryz.f63 [.a (.ptr (.v 0) 0),.agg [.int .i64 (.v 2),.str (.v 3),.str (.v 4),.int .i64 (.v 5),.int .i64 (.v 6),.sl (.v 7) (.v 8) (.v 9)]] [(.b (.v 0),.prop 1),(.a 7,.prop 10)] 11=t_tUnlink:=by kernel_rfl
def t_tLink:T :=
(.new
(.call 129 [.a (.ptr (.v 0) 0),.a (.str (.v 3))] [(.b (.v 0),.prop 1)] [.v,.p,.i,.i] (.tup [.a (.val 12),.a (.int .i64 (.v 14)),.a (.int .i64 (.v 15))]) [(.a 12,.prop 13),(.b (.v 0),.prop 1)]
(.br (.o1 .not (.o2 .eq (.v 15) (.i 0)))
(.ret (.w (.a (.int .i64 (.v 15)))) [(.b (.v 0),.prop 1),(.a 7,.prop 10)])
(.call 127 [.a (.ptr (.v 0) 0),.a (.str (.v 4))] [(.b (.v 0),.prop 1)] [.v,.p,.s,.i] (.tup [.a (.val 16),.a (.str (.v 18)),.a (.int .i64 (.v 19))]) [(.a 16,.prop 17),(.b (.v 0),.prop 1)]
(.br (.o1 .not (.o2 .eq (.v 19) (.i 0)))
(.ret (.w (.a (.int .i64 (.v 19)))) [(.b (.v 0),.prop 1),(.a 7,.prop 10)])
(.read (.nilCheck (.tmp 32)) 0 [(32,.w (.a (.val 16)))] [(.a 16,.prop 17),(.b (.v 0),.prop 1)] [.n] (.w (.a (.ptr (.v 20) 0)))
(.read (.load 131 (.tmp 34)) 131 [(34,.w (.a (.ptr (.v 20) 3)))] [(.a 16,.prop 17),(.b (.v 0),.prop 1)] [.n] (.w (.a (.map (.v 21))))
(.op (.mapUpdate 131 (.tmp 35) (.tmp 36) (.tmp 37)) 0 [(35,.w (.a (.map (.v 21)))),(36,.w (.a (.str (.v 18)))),(37,.w (.a (.int .i64 (.v 14))))] [(.a 16,.prop 17),(.b (.v 0),.prop 1)] [.p,.p] (.tup []) [(.a 16,.prop 22),(.b (.v 0),.prop 23)]
(.read (.nilCheck (.tmp 38)) 0 [(38,.w (.a (.val 12)))] [(.a 12,.prop 13),(.b (.v 0),.prop 23)] [.n] (.w (.a (.ptr (.v 24) 0)))
(.read (.load 3 (.tmp 40)) 3 [(40,.w (.a (.ptr (.v 24) 1)))] [(.a 12,.prop 13),(.b (.v 0),.prop 23)] [.i] (.w (.a (.int .i64 (.v 25))))
(.need (.o1 (.inr .i64) (.o2 .add (.v 25) (.i 1)))
(.read (.nilCheck (.tmp 38)) 0 [(38,.w (.a (.val 12)))] [(.a 12,.prop 13),(.b (.v 0),.prop 23)] [.n] (.w (.a (.ptr (.v 26) 0)))
(.op (.store 3 (.tmp 44) (.tmp 42)) 0 [(44,.w (.a (.ptr (.v 26) 1))),(42,.w (.a (.int .i64 (.o2 .add (.v 25) (.i 1)))))] [(.a 12,.prop 13),(.b (.v 0),.prop 23)] [.p,.p] (.tup []) [(.a 12,.prop 27),(.b (.v 0),.prop 28)]
(.ret (.w (.a (.int .i64 (.i 0)))) [(.b (.v 0),.prop 28),(.a 7,.prop 10)]))))))))))))))
theorem tree_tLink:tree Tryz.prog { opq:=[121],keep:=[132,127,128,129,69,70,67,19,73,75,72,71,74],link:=[(127,0),(128,0),(129,0),(75,0),(72,0)],opn:=true,rdf:=true,peek:=[121] } Tryz.f64 [.a (.ptr (.v 0) 0),.agg [.int .i64 (.v 2),.str (.v 3),.str (.v 4),.int .i64 (.v 5),.int .i64 (.v 6),.sl (.v 7) (.v 8) (.v 9)]] [(.b (.v 0),.prop 1),(.a 7,.prop 10)] 11=t_tLink:=by kernel_rfl
def t_tRename:T :=
(.new
(.call 128 [.a (.ptr (.v 0) 0),.a (.str (.v 3))] [(.b (.v 0),.prop 1)] [.v,.p,.s,.i,.i] (.tup [.a (.val 12),.a (.str (.v 14)),.a (.int .i64 (.v 15)),.a (.int .i64 (.v 16))]) [(.a 12,.prop 13),(.b (.v 0),.prop 1)]
(.br (.o1 .not (.o2 .eq (.v 16) (.i 0)))
(.ret (.w (.a (.int .i64 (.v 16)))) [(.b (.v 0),.prop 1),(.a 7,.prop 10)])
(.br (.o2 .seq (.v 4) (.v 3))
(.ret (.w (.a (.int .i64 (.i 0)))) [(.b (.v 0),.prop 1),(.a 7,.prop 10)])
(.call 130 [.a (.str (.v 4)),.a (.str (.v 3))] [] [.c] (.w (.a (.bool (.v 17)))) []
(.br (.v 17)
(.ret (.w (.a (.int .i64 (.i 26)))) [(.b (.v 0),.prop 1),(.a 7,.prop 10)])
(.call 127 [.a (.ptr (.v 0) 0),.a (.str (.v 4))] [(.b (.v 0),.prop 1)] [.v,.p,.s,.i] (.tup [.a (.val 18),.a (.str (.v 20)),.a (.int .i64 (.v 21))]) [(.a 18,.prop 19),(.b (.v 0),.prop 1)]
(.br (.o1 .not (.o2 .eq (.v 21) (.i 0)))
(.ret (.w (.a (.int .i64 (.v 21)))) [(.b (.v 0),.prop 1),(.a 7,.prop 10)])
(.read (.nilCheck (.tmp 44)) 0 [(44,.w (.a (.val 12)))] [(.a 12,.prop 13),(.b (.v 0),.prop 1)] [.n] (.w (.a (.ptr (.v 22) 0)))
(.read (.load 131 (.tmp 46)) 131 [(46,.w (.a (.ptr (.v 22) 3)))] [(.a 12,.prop 13),(.b (.v 0),.prop 1)] [.n] (.w (.a (.map (.v 23))))
(.op (.call ⟨.builtin .delete,#[.tmp 47,.tmp 48],#[131,9]⟩) 0 [(47,.w (.a (.map (.v 23)))),(48,.w (.a (.str (.v 14))))] [(.a 12,.prop 13),(.b (.v 0),.prop 1)] [.p,.p] (.tup []) [(.a 12,.prop 24),(.b (.v 0),.prop 25)]
(.read (.nilCheck (.tmp 49)) 0 [(49,.w (.a (.val 18)))] [(.a 18,.prop 19),(.b (.v 0),.prop 25)] [.n] (.w (.a (.ptr (.v 26) 0)))
(.read (.load 131 (.tmp 51)) 131 [(51,.w (.a (.ptr (.v 26) 3)))] [(.a 18,.prop 19),(.b (.v 0),.prop 25)] [.n] (.w (.a (.map (.v 27))))
(.op (.mapUpdate 131 (.tmp 52) (.tmp 53) (.tmp 54)) 0 [(52,.w (.a (.map (.v 27)))),(53,.w (.a (.str (.v 20)))),(54,.w (.a (.int .i64 (.v 15))))] [(.a 18,.prop 19),(.b (.v 0),.prop 25)] [.p,.p] (.tup []) [(.a 18,.prop 28),(.b (.v 0),.prop 29)]
(.ret (.w (.a (.int .i64 (.i 0)))) [(.b (.v 0),.prop 29),(.a 7,.prop 10)])))))))))))))))
theorem tree_tRename:tree Tryz.prog { opq:=[121],keep:=[132,127,128,129,69,70,67,19,73,75,72,71,74],link:=[(127,0),(128,0),(129,0),(75,0),(72,0)],opn:=true,rdf:=true,peek:=[121] } Tryz.f65 [.a (.ptr (.v 0) 0),.agg [.int .i64 (.v 2),.str (.v 3),.str (.v 4),.int .i64 (.v 5),.int .i64 (.v 6),.sl (.v 7) (.v 8) (.v 9)]] [(.b (.v 0),.prop 1),(.a 7,.prop 10)] 11=t_tRename:=by kernel_rfl
def t_tWrite:T :=
(.new
(.call 129 [.a (.ptr (.v 0) 0),.a (.str (.v 3))] [(.b (.v 0),.prop 1)] [.v,.p,.i,.i] (.tup [.a (.val 12),.a (.int .i64 (.v 14)),.a (.int .i64 (.v 15))]) [(.a 12,.prop 13),(.b (.v 0),.prop 1)]
(.br (.o1 .not (.o2 .eq (.v 15) (.i 0)))
(.ret (.w (.a (.int .i64 (.v 15)))) [(.b (.v 0),.prop 1),(.a 7,.prop 10)])
(.br (.o2 .lt (.v 5) (.i 0))
(.ret (.w (.a (.int .i64 (.i 1)))) [(.b (.v 0),.prop 1),(.a 7,.prop 10)])
(.br (.o2 .lt (.i 256) (.o1 .ofNat (.v 8)))
(.ret (.w (.a (.int .i64 (.i 1)))) [(.b (.v 0),.prop 1),(.a 7,.prop 10)])
(.need (.o1 (.inr .i64) (.o2 .sub (.i 512) (.o1 .ofNat (.v 8))))
(.br (.o2 .lt (.o2 .sub (.i 512) (.o1 .ofNat (.v 8))) (.v 5))
(.ret (.w (.a (.int .i64 (.i 27)))) [(.b (.v 0),.prop 1),(.a 7,.prop 10)])
(.br (.o2 .eq (.o1 .ofNat (.v 8)) (.i 0))
(.ret (.w (.a (.int .i64 (.i 0)))) [(.b (.v 0),.prop 1),(.a 7,.prop 10)])
(.read (.nilCheck (.tmp 40)) 0 [(40,.w (.a (.val 12)))] [(.a 12,.prop 13),(.b (.v 0),.prop 1)] [.n] (.w (.a (.ptr (.v 16) 0)))
(.read (.load 28 (.tmp 42)) 28 [(42,.w (.a (.ptr (.v 16) 2)))] [(.a 12,.prop 13),(.b (.v 0),.prop 1)] [.a,.n,.n] (.w (.a (.sl (.v 17) (.v 18) (.v 19))))
(.need (.o1 (.inr .i64) (.o2 .add (.v 5) (.o1 .ofNat (.v 8))))
(.call 131 [.a (.val 12),.a (.int .i64 (.o2 .mx (.o1 .ofNat (.v 18)) (.o2 .add (.v 5) (.o1 .ofNat (.v 8)))))] [(.a 12,.prop 13),(.b (.v 0),.prop 1)] [.p,.p] (.tup []) [(.a 12,.prop 20),(.b (.v 0),.prop 21)]
(.read (.nilCheck (.tmp 53)) 0 [(53,.w (.a (.val 12)))] [(.a 12,.prop 20),(.b (.v 0),.prop 21)] [.n] (.w (.a (.ptr (.v 22) 0)))
(.read (.load 28 (.tmp 55)) 28 [(55,.w (.a (.ptr (.v 22) 2)))] [(.a 12,.prop 20),(.b (.v 0),.prop 21)] [.a,.n,.n] (.w (.a (.sl (.v 23) (.v 24) (.v 25))))
(.read (.slice 28 (.tmp 56) (some (.tmp 58)) none none) 28 [(56,.w (.a (.sl (.v 23) (.v 24) (.v 25)))),(58,.w (.a (.int .i64 (.v 5))))] [(.a 12,.prop 20),(.b (.v 0),.prop 21)] [.a,.n,.n] (.w (.a (.sl (.v 26) (.v 27) (.v 28))))
(.op (.call ⟨.builtin .copy,#[.tmp 59,.tmp 61],#[28,28]⟩) 3 [(59,.w (.a (.sl (.v 26) (.v 27) (.v 28)))),(61,.w (.a (.sl (.v 7) (.v 8) (.v 9))))] [(.a 12,.prop 20),(.b (.v 0),.prop 21),(.a 7,.prop 10)] [.i,.p,.p] (.w (.a (.int .i64 (.v 29)))) [(.a 12,.prop 30),(.b (.v 0),.prop 31),(.a 7,.prop 10)]
(.ret (.w (.a (.int .i64 (.i 0)))) [(.b (.v 0),.prop 31),(.a 7,.prop 10)])))))))))))))))))
theorem tree_tWrite:tree Tryz.prog { opq:=[121],keep:=[132,127,128,129,69,70,67,19,73,75,72,71,74],link:=[(127,0),(128,0),(129,0),(75,0),(72,0)],opn:=true,rdf:=true,peek:=[121] } Tryz.f66 [.a (.ptr (.v 0) 0),.agg [.int .i64 (.v 2),.str (.v 3),.str (.v 4),.int .i64 (.v 5),.int .i64 (.v 6),.sl (.v 7) (.v 8) (.v 9)]] [(.b (.v 0),.prop 1),(.a 7,.prop 10)] 11=t_tWrite:=by kernel_rfl
def t_tResize:T :=
(.op (.makeSlice 28 (.tmp 5) (.tmp 5)) 28 [(5,.w (.a (.int .i64 (.v 2)))),(5,.w (.a (.int .i64 (.v 2))))] [] [.a,.n,.n,.p] (.w (.a (.sl (.v 3) (.v 4) (.v 5)))) [(.a 3,.prop 6)]
(.read (.load 28 (.tmp 10)) 28 [(10,.w (.a (.ptr (.v 0) 2)))] [(.b (.v 0),.prop 1)] [.a,.n,.n] (.w (.a (.sl (.v 7) (.v 8) (.v 9))))
(.op (.call ⟨.builtin .copy,#[.tmp 7,.tmp 11],#[28,28]⟩) 3 [(7,.w (.a (.sl (.v 3) (.v 4) (.v 5)))),(11,.w (.a (.sl (.v 7) (.v 8) (.v 9))))] [(.a 3,.prop 6),(.b (.v 0),.prop 1)] [.i,.p] (.w (.a (.int .i64 (.v 10)))) [(.a 3,.prop 11),(.b (.v 0),.prop 1)]
(.op (.store 28 (.tmp 16) (.tmp 14)) 0 [(16,.w (.a (.ptr (.v 0) 2))),(14,.w (.a (.sl (.v 3) (.v 4) (.v 5))))] [(.b (.v 0),.prop 1),(.a 3,.prop 11)] [.p] (.tup []) [(.b (.v 0),.prop 12)]
(.ret (.tup []) [(.b (.v 0),.prop 12)])))))
theorem tree_tResize:tree Tryz.prog { opq:=[121],keep:=[132,127,128,129,69,70,67,19,73,75,72,71,74],link:=[(127,0),(128,0),(129,0),(75,0),(72,0)],opn:=true,rdf:=true,peek:=[121] } Tryz.f131 [.a (.ptr (.v 0) 0),.a (.int .i64 (.v 2))] [(.b (.v 0),.prop 1)] 3=t_tResize:=by kernel_rfl
def t_tRead:T :=
(.new
(.new
(.call 129 [.a (.ptr (.v 0) 0),.a (.str (.v 3))] [(.b (.v 0),.prop 1)] [.v,.p,.i,.i] (.tup [.a (.val 13),.a (.int .i64 (.v 15)),.a (.int .i64 (.v 16))]) [(.a 13,.prop 14),(.b (.v 0),.prop 1)]
(.br (.o1 .not (.o2 .eq (.v 16) (.i 0)))
(.ret (.w (.agg [.int .i64 (.v 16),.int .i64 (.i 0),.int .i64 (.i 0),.int .i64 (.i 0),.sl .nil (.n 0) (.n 0),.sl .nil (.n 0) (.n 0)])) [(.b (.v 0),.prop 1),(.a 7,.prop 10)])
(.br (.o2 .lt (.v 5) (.i 0))
(.ret (.w (.agg [.int .i64 (.i 1),.int .i64 (.i 0),.int .i64 (.i 0),.int .i64 (.i 0),.sl .nil (.n 0) (.n 0),.sl .nil (.n 0) (.n 0)])) [(.b (.v 0),.prop 1),(.a 7,.prop 10)])
(.br (.o2 .lt (.v 6) (.i 0))
(.ret (.w (.agg [.int .i64 (.i 1),.int .i64 (.i 0),.int .i64 (.i 0),.int .i64 (.i 0),.sl .nil (.n 0) (.n 0),.sl .nil (.n 0) (.n 0)])) [(.b (.v 0),.prop 1),(.a 7,.prop 10)])
(.br (.o2 .lt (.i 256) (.v 6))
(.ret (.w (.agg [.int .i64 (.i 1),.int .i64 (.i 0),.int .i64 (.i 0),.int .i64 (.i 0),.sl .nil (.n 0) (.n 0),.sl .nil (.n 0) (.n 0)])) [(.b (.v 0),.prop 1),(.a 7,.prop 10)])
(.read (.nilCheck (.tmp 38)) 0 [(38,.w (.a (.val 13)))] [(.a 13,.prop 14),(.b (.v 0),.prop 1)] [.n] (.w (.a (.ptr (.v 17) 0)))
(.read (.load 28 (.tmp 40)) 28 [(40,.w (.a (.ptr (.v 17) 2)))] [(.a 13,.prop 14),(.b (.v 0),.prop 1)] [.a,.n,.n] (.w (.a (.sl (.v 18) (.v 19) (.v 20))))
(.need (.o1 (.inr .i64) (.o2 .add (.o2 .mn (.v 5) (.o1 .ofNat (.v 19))) (.v 6)))
(.read (.nilCheck (.tmp 48)) 0 [(48,.w (.a (.val 13)))] [(.a 13,.prop 14),(.b (.v 0),.prop 1)] [.n] (.w (.a (.ptr (.v 21) 0)))
(.read (.load 28 (.tmp 50)) 28 [(50,.w (.a (.ptr (.v 21) 2)))] [(.a 13,.prop 14),(.b (.v 0),.prop 1)] [.a,.n,.n] (.w (.a (.sl (.v 22) (.v 23) (.v 24))))
(.read (.nilCheck (.tmp 54)) 0 [(54,.w (.a (.val 13)))] [(.a 13,.prop 14),(.b (.v 0),.prop 1)] [.n] (.w (.a (.ptr (.v 25) 0)))
(.read (.load 28 (.tmp 56)) 28 [(56,.w (.a (.ptr (.v 25) 2)))] [(.a 13,.prop 14),(.b (.v 0),.prop 1)] [.a,.n,.n] (.w (.a (.sl (.v 26) (.v 27) (.v 28))))
(.read (.slice 28 (.tmp 57) (some (.tmp 58)) (some (.tmp 59)) none) 28 [(57,.w (.a (.sl (.v 26) (.v 27) (.v 28)))),(58,.w (.a (.int .i64 (.o2 .mn (.v 5) (.o1 .ofNat (.v 19)))))),(59,.w (.a (.int .i64 (.o2 .mn (.o2 .add (.o2 .mn (.v 5) (.o1 .ofNat (.v 19))) (.v 6)) (.o1 .ofNat (.v 23))))))] [(.a 13,.prop 14),(.b (.v 0),.prop 1)] [.a,.n,.n] (.w (.a (.sl (.v 29) (.v 30) (.v 31))))
(.call 73 [.a (.sl (.v 29) (.v 30) (.v 31))] [(.a 13,.prop 14),(.b (.v 0),.prop 1)] [.a,.n,.n,.p] (.w (.a (.sl (.v 32) (.v 33) (.v 34)))) [(.a 32,.prop 35),(.a 13,.prop 14),(.b (.v 0),.prop 1)]
(.ret (.w (.agg [.int .i64 (.i 0),.int .i64 (.i 0),.int .i64 (.i 0),.int .i64 (.i 0),.sl (.v 32) (.v 33) (.v 34),.sl .nil (.n 0) (.n 0)])) [(.b (.v 0),.prop 1),(.a 7,.prop 10),(.a 32,.prop 35)])))))))))))))))))
theorem tree_tRead:tree Tryz.prog { opq:=[121],keep:=[132,127,128,129,69,70,67,19,73,75,72,71,74],link:=[(127,0),(128,0),(129,0),(75,0),(72,0)],opn:=true,rdf:=true,peek:=[121] } Tryz.f67 [.a (.ptr (.v 0) 0),.agg [.int .i64 (.v 2),.str (.v 3),.str (.v 4),.int .i64 (.v 5),.int .i64 (.v 6),.sl (.v 7) (.v 8) (.v 9)]] [(.b (.v 0),.prop 1),(.a 7,.prop 10)] 11=t_tRead:=by kernel_rfl
def t_tCut:T :=
(.new
(.call 129 [.a (.ptr (.v 0) 0),.a (.str (.v 3))] [(.b (.v 0),.prop 1)] [.v,.p,.i,.i] (.tup [.a (.val 12),.a (.int .i64 (.v 14)),.a (.int .i64 (.v 15))]) [(.a 12,.prop 13),(.b (.v 0),.prop 1)]
(.br (.o1 .not (.o2 .eq (.v 15) (.i 0)))
(.ret (.w (.a (.int .i64 (.v 15)))) [(.b (.v 0),.prop 1),(.a 7,.prop 10)])
(.br (.o2 .lt (.v 6) (.i 0))
(.ret (.w (.a (.int .i64 (.i 1)))) [(.b (.v 0),.prop 1),(.a 7,.prop 10)])
(.br (.o2 .lt (.i 512) (.v 6))
(.ret (.w (.a (.int .i64 (.i 27)))) [(.b (.v 0),.prop 1),(.a 7,.prop 10)])
(.call 131 [.a (.val 12),.a (.int .i64 (.v 6))] [(.a 12,.prop 13),(.b (.v 0),.prop 1)] [.p,.p] (.tup []) [(.a 12,.prop 16),(.b (.v 0),.prop 17)]
(.ret (.w (.a (.int .i64 (.i 0)))) [(.b (.v 0),.prop 17),(.a 7,.prop 10)])))))))
theorem tree_tCut:tree Tryz.prog { opq:=[121],keep:=[132,127,128,129,69,70,67,19,73,75,72,71,74],link:=[(127,0),(128,0),(129,0),(75,0),(72,0)],opn:=true,rdf:=true,peek:=[121] } Tryz.f68 [.a (.ptr (.v 0) 0),.agg [.int .i64 (.v 2),.str (.v 3),.str (.v 4),.int .i64 (.v 5),.int .i64 (.v 6),.sl (.v 7) (.v 8) (.v 9)]] [(.b (.v 0),.prop 1),(.a 7,.prop 10)] 11=t_tCut:=by kernel_rfl
def t_tStat:T :=
(.new
(.new
(.call 132 [.a (.ptr (.v 0) 0),.a (.str (.v 3))] [(.b (.v 0),.prop 1)] [.i,.i] (.tup [.a (.int .i64 (.v 13)),.a (.int .i64 (.v 14))]) [(.b (.v 0),.prop 1)]
(.br (.o1 .not (.o2 .eq (.v 14) (.i 0)))
(.ret (.w (.agg [.int .i64 (.v 14),.int .i64 (.i 0),.int .i64 (.i 0),.int .i64 (.i 0),.sl .nil (.n 0) (.n 0),.sl .nil (.n 0) (.n 0)])) [(.b (.v 0),.prop 1),(.a 7,.prop 10)])
(.read (.load 123 (.tmp 22)) 123 [(22,.w (.a (.ptr (.v 0) 0)))] [(.b (.v 0),.prop 1)] [.n] (.w (.a (.map (.v 15))))
(.read (.lookup 123 (.tmp 23) (.tmp 24) false) 121 [(23,.w (.a (.map (.v 15)))),(24,.w (.a (.int .i64 (.v 13))))] [(.b (.v 0),.prop 1)] [.v] (.w (.a (.val 16)))
(.read (.nilCheck (.tmp 26)) 0 [(26,.w (.a (.val 16)))] [(.b (.v 0),.prop 1)] [.n] (.w (.a (.ptr (.v 17) 0)))
(.read (.load 28 (.tmp 28)) 28 [(28,.w (.a (.ptr (.v 17) 2)))] [(.b (.v 0),.prop 1)] [.a,.n,.n] (.w (.a (.sl (.v 18) (.v 19) (.v 20))))
(.read (.nilCheck (.tmp 31)) 0 [(31,.w (.a (.val 16)))] [(.b (.v 0),.prop 1)] [.n] (.w (.a (.ptr (.v 21) 0)))
(.read (.load 3 (.tmp 33)) 3 [(33,.w (.a (.ptr (.v 21) 0)))] [(.b (.v 0),.prop 1)] [.i] (.w (.a (.int .i64 (.v 22))))
(.br (.o2 .eq (.v 22) (.i 1))
(.read (.nilCheck (.tmp 36)) 0 [(36,.w (.a (.val 16)))] [(.b (.v 0),.prop 1)] [.n] (.w (.a (.ptr (.v 23) 0)))
(.read (.load 131 (.tmp 38)) 131 [(38,.w (.a (.ptr (.v 23) 3)))] [(.b (.v 0),.prop 1)] [.n] (.w (.a (.map (.v 24))))
(.read (.call ⟨.builtin .len,#[.tmp 39],#[131]⟩) 3 [(39,.w (.a (.map (.v 24))))] [(.b (.v 0),.prop 1)] [.i] (.w (.a (.int .i64 (.v 25))))
(.read (.nilCheck (.tmp 41)) 0 [(41,.w (.a (.val 16)))] [(.b (.v 0),.prop 1)] [.n] (.w (.a (.ptr (.v 26) 0)))
(.read (.load 3 (.tmp 43)) 3 [(43,.w (.a (.ptr (.v 26) 0)))] [(.b (.v 0),.prop 1)] [.i] (.w (.a (.int .i64 (.v 27))))
(.read (.nilCheck (.tmp 46)) 0 [(46,.w (.a (.val 16)))] [(.b (.v 0),.prop 1)] [.n] (.w (.a (.ptr (.v 28) 0)))
(.read (.load 3 (.tmp 48)) 3 [(48,.w (.a (.ptr (.v 28) 1)))] [(.b (.v 0),.prop 1)] [.i] (.w (.a (.int .i64 (.v 29))))
(.ret (.w (.agg [.int .i64 (.i 0),.int .i64 (.v 27),.int .i64 (.v 25),.int .i64 (.v 29),.sl .nil (.n 0) (.n 0),.sl .nil (.n 0) (.n 0)])) [(.b (.v 0),.prop 1),(.a 7,.prop 10)]))))))))
(.read (.nilCheck (.tmp 41)) 0 [(41,.w (.a (.val 16)))] [(.b (.v 0),.prop 1)] [.n] (.w (.a (.ptr (.v 23) 0)))
(.read (.load 3 (.tmp 43)) 3 [(43,.w (.a (.ptr (.v 23) 0)))] [(.b (.v 0),.prop 1)] [.i] (.w (.a (.int .i64 (.v 24))))
(.read (.nilCheck (.tmp 46)) 0 [(46,.w (.a (.val 16)))] [(.b (.v 0),.prop 1)] [.n] (.w (.a (.ptr (.v 25) 0)))
(.read (.load 3 (.tmp 48)) 3 [(48,.w (.a (.ptr (.v 25) 1)))] [(.b (.v 0),.prop 1)] [.i] (.w (.a (.int .i64 (.v 26))))
(.ret (.w (.agg [.int .i64 (.i 0),.int .i64 (.v 24),.int .i64 (.o1 .ofNat (.v 19)),.int .i64 (.v 26),.sl .nil (.n 0) (.n 0),.sl .nil (.n 0) (.n 0)])) [(.b (.v 0),.prop 1),(.a 7,.prop 10)]))))))))))))))))
theorem tree_tStat:tree Tryz.prog { opq:=[121],keep:=[132,127,128,129,69,70,67,19,73,75,72,71,74],link:=[(127,0),(128,0),(129,0),(75,0),(72,0)],opn:=true,rdf:=true,peek:=[121] } Tryz.f69 [.a (.ptr (.v 0) 0),.agg [.int .i64 (.v 2),.str (.v 3),.str (.v 4),.int .i64 (.v 5),.int .i64 (.v 6),.sl (.v 7) (.v 8) (.v 9)]] [(.b (.v 0),.prop 1),(.a 7,.prop 10)] 11=t_tStat:=by kernel_rfl
def t_tList:T :=
(.new
(.new
(.call 132 [.a (.ptr (.v 0) 0),.a (.str (.v 3))] [(.b (.v 0),.prop 1)] [.i,.i] (.tup [.a (.int .i64 (.v 13)),.a (.int .i64 (.v 14))]) [(.b (.v 0),.prop 1)]
(.br (.o1 .not (.o2 .eq (.v 14) (.i 0)))
(.ret (.w (.agg [.int .i64 (.v 14),.int .i64 (.i 0),.int .i64 (.i 0),.int .i64 (.i 0),.sl .nil (.n 0) (.n 0),.sl .nil (.n 0) (.n 0)])) [(.b (.v 0),.prop 1),(.a 7,.prop 10)])
(.read (.load 123 (.tmp 21)) 123 [(21,.w (.a (.ptr (.v 0) 0)))] [(.b (.v 0),.prop 1)] [.n] (.w (.a (.map (.v 15))))
(.read (.lookup 123 (.tmp 22) (.tmp 23) false) 121 [(22,.w (.a (.map (.v 15)))),(23,.w (.a (.int .i64 (.v 13))))] [(.b (.v 0),.prop 1)] [.v] (.w (.a (.val 16)))
(.read (.nilCheck (.tmp 25)) 0 [(25,.w (.a (.val 16)))] [(.b (.v 0),.prop 1)] [.n] (.w (.a (.ptr (.v 17) 0)))
(.read (.load 3 (.tmp 27)) 3 [(27,.w (.a (.ptr (.v 17) 0)))] [(.b (.v 0),.prop 1)] [.i] (.w (.a (.int .i64 (.v 18))))
(.br (.o1 .not (.o2 .eq (.v 18) (.i 1)))
(.ret (.w (.agg [.int .i64 (.i 23),.int .i64 (.i 0),.int .i64 (.i 0),.int .i64 (.i 0),.sl .nil (.n 0) (.n 0),.sl .nil (.n 0) (.n 0)])) [(.b (.v 0),.prop 1),(.a 7,.prop 10)])
(.read (.nilCheck (.tmp 31)) 0 [(31,.w (.a (.val 16)))] [(.b (.v 0),.prop 1)] [.n] (.w (.a (.ptr (.v 19) 0)))
(.read (.load 131 (.tmp 33)) 131 [(33,.w (.a (.ptr (.v 19) 3)))] [(.b (.v 0),.prop 1)] [.n] (.w (.a (.map (.v 20))))
(.call 75 [.a (.map (.v 20))] [(.b (.v 0),.prop 1)] [.v,.p] (.w (.a (.val 21))) [(.a 21,.prop 22),(.b (.v 0),.prop 1)]
(.call 74 [.a (.val 21)] [(.a 21,.prop 22),(.b (.v 0),.prop 1)] [.a,.n,.n,.p] (.w (.a (.sl (.v 23) (.v 24) (.v 25)))) [(.a 23,.prop 26),(.a 21,.prop 22),(.b (.v 0),.prop 1)]
(.ret (.w (.agg [.int .i64 (.i 0),.int .i64 (.i 0),.int .i64 (.i 0),.int .i64 (.i 0),.sl .nil (.n 0) (.n 0),.sl (.v 23) (.v 24) (.v 25)])) [(.b (.v 0),.prop 1),(.a 7,.prop 10),(.a 23,.prop 26)]))))))))))))))
theorem tree_tList:tree Tryz.prog { opq:=[121],keep:=[132,127,128,129,69,70,67,19,73,75,72,71,74],link:=[(127,0),(128,0),(129,0),(75,0),(72,0)],opn:=true,rdf:=true,peek:=[121] } Tryz.f70 [.a (.ptr (.v 0) 0),.agg [.int .i64 (.v 2),.str (.v 3),.str (.v 4),.int .i64 (.v 5),.int .i64 (.v 6),.sl (.v 7) (.v 8) (.v 9)]] [(.b (.v 0),.prop 1),(.a 7,.prop 10)] 11=t_tList:=by kernel_rfl
def t_tDo:T :=
(.new
(.new
(.br (.o2 .eq (.v 2) (.i 1))
(.call 61 [.a (.ptr (.v 0) 0),.agg [.int .i64 (.v 2),.str (.v 3),.str (.v 4),.int .i64 (.v 5),.int .i64 (.v 6),.sl (.v 7) (.v 8) (.v 9)]] [(.b (.v 0),.prop 1),(.a 7,.prop 10)] [.i,.p,.p] (.w (.a (.int .i64 (.v 13)))) [(.b (.v 0),.prop 14),(.a 7,.prop 15)]
(.ret (.w (.agg [.int .i64 (.v 13),.int .i64 (.i 0),.int .i64 (.i 0),.int .i64 (.i 0),.sl .nil (.n 0) (.n 0),.sl .nil (.n 0) (.n 0)])) [(.b (.v 0),.prop 14),(.a 7,.prop 15)]))
(.br (.o2 .eq (.v 2) (.i 3))
(.call 61 [.a (.ptr (.v 0) 0),.agg [.int .i64 (.v 2),.str (.v 3),.str (.v 4),.int .i64 (.v 5),.int .i64 (.v 6),.sl (.v 7) (.v 8) (.v 9)]] [(.b (.v 0),.prop 1),(.a 7,.prop 10)] [.i,.p,.p] (.w (.a (.int .i64 (.v 13)))) [(.b (.v 0),.prop 14),(.a 7,.prop 15)]
(.ret (.w (.agg [.int .i64 (.v 13),.int .i64 (.i 0),.int .i64 (.i 0),.int .i64 (.i 0),.sl .nil (.n 0) (.n 0),.sl .nil (.n 0) (.n 0)])) [(.b (.v 0),.prop 14),(.a 7,.prop 15)]))
(.br (.o2 .eq (.v 2) (.i 2))
(.call 62 [.a (.ptr (.v 0) 0),.agg [.int .i64 (.v 2),.str (.v 3),.str (.v 4),.int .i64 (.v 5),.int .i64 (.v 6),.sl (.v 7) (.v 8) (.v 9)]] [(.b (.v 0),.prop 1),(.a 7,.prop 10)] [.i,.p,.p] (.w (.a (.int .i64 (.v 13)))) [(.b (.v 0),.prop 14),(.a 7,.prop 15)]
(.ret (.w (.agg [.int .i64 (.v 13),.int .i64 (.i 0),.int .i64 (.i 0),.int .i64 (.i 0),.sl .nil (.n 0) (.n 0),.sl .nil (.n 0) (.n 0)])) [(.b (.v 0),.prop 14),(.a 7,.prop 15)]))
(.br (.o2 .eq (.v 2) (.i 4))
(.call 63 [.a (.ptr (.v 0) 0),.agg [.int .i64 (.v 2),.str (.v 3),.str (.v 4),.int .i64 (.v 5),.int .i64 (.v 6),.sl (.v 7) (.v 8) (.v 9)]] [(.b (.v 0),.prop 1),(.a 7,.prop 10)] [.i,.p,.p] (.w (.a (.int .i64 (.v 13)))) [(.b (.v 0),.prop 14),(.a 7,.prop 15)]
(.ret (.w (.agg [.int .i64 (.v 13),.int .i64 (.i 0),.int .i64 (.i 0),.int .i64 (.i 0),.sl .nil (.n 0) (.n 0),.sl .nil (.n 0) (.n 0)])) [(.b (.v 0),.prop 14),(.a 7,.prop 15)]))
(.br (.o2 .eq (.v 2) (.i 5))
(.call 64 [.a (.ptr (.v 0) 0),.agg [.int .i64 (.v 2),.str (.v 3),.str (.v 4),.int .i64 (.v 5),.int .i64 (.v 6),.sl (.v 7) (.v 8) (.v 9)]] [(.b (.v 0),.prop 1),(.a 7,.prop 10)] [.i,.p,.p] (.w (.a (.int .i64 (.v 13)))) [(.b (.v 0),.prop 14),(.a 7,.prop 15)]
(.ret (.w (.agg [.int .i64 (.v 13),.int .i64 (.i 0),.int .i64 (.i 0),.int .i64 (.i 0),.sl .nil (.n 0) (.n 0),.sl .nil (.n 0) (.n 0)])) [(.b (.v 0),.prop 14),(.a 7,.prop 15)]))
(.br (.o2 .eq (.v 2) (.i 6))
(.call 65 [.a (.ptr (.v 0) 0),.agg [.int .i64 (.v 2),.str (.v 3),.str (.v 4),.int .i64 (.v 5),.int .i64 (.v 6),.sl (.v 7) (.v 8) (.v 9)]] [(.b (.v 0),.prop 1),(.a 7,.prop 10)] [.i,.p,.p] (.w (.a (.int .i64 (.v 13)))) [(.b (.v 0),.prop 14),(.a 7,.prop 15)]
(.ret (.w (.agg [.int .i64 (.v 13),.int .i64 (.i 0),.int .i64 (.i 0),.int .i64 (.i 0),.sl .nil (.n 0) (.n 0),.sl .nil (.n 0) (.n 0)])) [(.b (.v 0),.prop 14),(.a 7,.prop 15)]))
(.br (.o2 .eq (.v 2) (.i 7))
(.call 66 [.a (.ptr (.v 0) 0),.agg [.int .i64 (.v 2),.str (.v 3),.str (.v 4),.int .i64 (.v 5),.int .i64 (.v 6),.sl (.v 7) (.v 8) (.v 9)]] [(.b (.v 0),.prop 1),(.a 7,.prop 10)] [.i,.p,.p] (.w (.a (.int .i64 (.v 13)))) [(.b (.v 0),.prop 14),(.a 7,.prop 15)]
(.ret (.w (.agg [.int .i64 (.v 13),.int .i64 (.i 0),.int .i64 (.i 0),.int .i64 (.i 0),.sl .nil (.n 0) (.n 0),.sl .nil (.n 0) (.n 0)])) [(.b (.v 0),.prop 14),(.a 7,.prop 15)]))
(.br (.o2 .eq (.v 2) (.i 8))
(.call 67 [.a (.ptr (.v 0) 0),.agg [.int .i64 (.v 2),.str (.v 3),.str (.v 4),.int .i64 (.v 5),.int .i64 (.v 6),.sl (.v 7) (.v 8) (.v 9)]] [(.b (.v 0),.prop 1),(.a 7,.prop 10)] [.i,.i,.i,.i,.a,.n,.n,.p,.a,.n,.n,.p] (.w (.agg [.int .i64 (.v 13),.int .i64 (.v 14),.int .i64 (.v 15),.int .i64 (.v 16),.sl (.v 17) (.v 18) (.v 19),.sl (.v 21) (.v 22) (.v 23)])) [(.a 17,.prop 20),(.a 21,.prop 24),(.b (.v 0),.prop 1),(.a 7,.prop 10)]
(.ret (.w (.agg [.int .i64 (.v 13),.int .i64 (.v 14),.int .i64 (.v 15),.int .i64 (.v 16),.sl (.v 17) (.v 18) (.v 19),.sl (.v 21) (.v 22) (.v 23)])) [(.b (.v 0),.prop 1),(.a 7,.prop 10),(.a 17,.prop 20),(.a 21,.prop 24)]))
(.br (.o2 .eq (.v 2) (.i 9))
(.call 68 [.a (.ptr (.v 0) 0),.agg [.int .i64 (.v 2),.str (.v 3),.str (.v 4),.int .i64 (.v 5),.int .i64 (.v 6),.sl (.v 7) (.v 8) (.v 9)]] [(.b (.v 0),.prop 1),(.a 7,.prop 10)] [.i,.p,.p] (.w (.a (.int .i64 (.v 13)))) [(.b (.v 0),.prop 14),(.a 7,.prop 15)]
(.ret (.w (.agg [.int .i64 (.v 13),.int .i64 (.i 0),.int .i64 (.i 0),.int .i64 (.i 0),.sl .nil (.n 0) (.n 0),.sl .nil (.n 0) (.n 0)])) [(.b (.v 0),.prop 14),(.a 7,.prop 15)]))
(.br (.o2 .eq (.v 2) (.i 10))
(.call 69 [.a (.ptr (.v 0) 0),.agg [.int .i64 (.v 2),.str (.v 3),.str (.v 4),.int .i64 (.v 5),.int .i64 (.v 6),.sl (.v 7) (.v 8) (.v 9)]] [(.b (.v 0),.prop 1),(.a 7,.prop 10)] [.i,.i,.i,.i,.a,.n,.n,.p,.a,.n,.n,.p] (.w (.agg [.int .i64 (.v 13),.int .i64 (.v 14),.int .i64 (.v 15),.int .i64 (.v 16),.sl (.v 17) (.v 18) (.v 19),.sl (.v 21) (.v 22) (.v 23)])) [(.a 17,.prop 20),(.a 21,.prop 24),(.b (.v 0),.prop 1),(.a 7,.prop 10)]
(.ret (.w (.agg [.int .i64 (.v 13),.int .i64 (.v 14),.int .i64 (.v 15),.int .i64 (.v 16),.sl (.v 17) (.v 18) (.v 19),.sl (.v 21) (.v 22) (.v 23)])) [(.b (.v 0),.prop 1),(.a 7,.prop 10),(.a 17,.prop 20),(.a 21,.prop 24)]))
(.br (.o2 .eq (.v 2) (.i 11))
(.call 70 [.a (.ptr (.v 0) 0),.agg [.int .i64 (.v 2),.str (.v 3),.str (.v 4),.int .i64 (.v 5),.int .i64 (.v 6),.sl (.v 7) (.v 8) (.v 9)]] [(.b (.v 0),.prop 1),(.a 7,.prop 10)] [.i,.i,.i,.i,.a,.n,.n,.p,.a,.n,.n,.p] (.w (.agg [.int .i64 (.v 13),.int .i64 (.v 14),.int .i64 (.v 15),.int .i64 (.v 16),.sl (.v 17) (.v 18) (.v 19),.sl (.v 21) (.v 22) (.v 23)])) [(.a 17,.prop 20),(.a 21,.prop 24),(.b (.v 0),.prop 1),(.a 7,.prop 10)]
(.ret (.w (.agg [.int .i64 (.v 13),.int .i64 (.v 14),.int .i64 (.v 15),.int .i64 (.v 16),.sl (.v 17) (.v 18) (.v 19),.sl (.v 21) (.v 22) (.v 23)])) [(.b (.v 0),.prop 1),(.a 7,.prop 10),(.a 17,.prop 20),(.a 21,.prop 24)]))
(.br (.o2 .eq (.v 2) (.i 12))
(.ret (.w (.agg [.int .i64 (.i 0),.int .i64 (.i 0),.int .i64 (.i 0),.int .i64 (.i 0),.sl .nil (.n 0) (.n 0),.sl .nil (.n 0) (.n 0)])) [(.b (.v 0),.prop 1),(.a 7,.prop 10)])
(.ret (.w (.agg [.int .i64 (.i 1),.int .i64 (.i 0),.int .i64 (.i 0),.int .i64 (.i 0),.sl .nil (.n 0) (.n 0),.sl .nil (.n 0) (.n 0)])) [(.b (.v 0),.prop 1),(.a 7,.prop 10)])))))))))))))))
theorem tree_tDo:tree Tryz.prog { opq:=[121],keep:=[132,127,128,129,69,70,67,19,73,75,72,71,74],link:=[(127,0),(128,0),(129,0),(75,0),(72,0)],opn:=true,rdf:=true,peek:=[121] } Tryz.f18 [.a (.ptr (.v 0) 0),.agg [.int .i64 (.v 2),.str (.v 3),.str (.v 4),.int .i64 (.v 5),.int .i64 (.v 6),.sl (.v 7) (.v 8) (.v 9)]] [(.b (.v 0),.prop 1),(.a 7,.prop 10)] 11=t_tDo:=by kernel_rfl
def t_tNodes:T :=
(.read (.load 123 (.tmp 12)) 123 [(12,.w (.a (.ptr (.v 0) 0)))] [(.b (.v 0),.prop 1)] [.n] (.w (.a (.map (.v 2))))
(.call 72 [.a (.map (.v 2))] [(.b (.v 0),.prop 1)] [.v,.p] (.w (.a (.val 3))) [(.a 3,.prop 4),(.b (.v 0),.prop 1)]
(.call 71 [.a (.val 3)] [(.a 3,.prop 4),(.b (.v 0),.prop 1)] [.a,.n,.n,.p] (.w (.a (.sl (.v 5) (.v 6) (.v 7)))) [(.a 5,.prop 8),(.a 3,.prop 4),(.b (.v 0),.prop 1)]
(.loop [.a,.n,.n,.p,.i] [.a .nil,.e (.o2 .nadd (.n 0) (.n 0)),.e (.o2 .nadd (.n 0) (.n 0)),.p [],.e (.o1 .neg (.o1 .neg (.i 0)))]
(.br (.o2 .lt (.v 13) (.o1 .ofNat (.v 6)))
(.need (.o2 .le (.i 0) (.v 13))
(.need (.o1 .isSome (.v 5))
(.read (.load 3 (.tmp 19)) 3 [(19,.w (.a (.eptr 5 (.v 13) 1 0)))] [(.a 5,.prop 8)] [.i] (.w (.a (.int .i64 (.v 14))))
(.read (.load 123 (.tmp 23)) 123 [(23,.w (.a (.ptr (.v 0) 0)))] [(.b (.v 0),.prop 1)] [.n] (.w (.a (.map (.v 15))))
(.read (.lookup 123 (.tmp 24) (.tmp 25) false) 121 [(24,.w (.a (.map (.v 15)))),(25,.w (.a (.int .i64 (.v 14))))] [(.b (.v 0),.prop 1)] [.v] (.w (.a (.val 16)))
(.join [.n,.i,.i,.i,.a,.n,.n,.a,.n,.n,.p,.p]
(.read (.nilCheck (.tmp 28)) 0 [(28,.w (.a (.val 16)))] [(.b (.v 0),.prop 1)] [.n] (.w (.a (.ptr (.v 17) 0)))
(.read (.load 3 (.tmp 30)) 3 [(30,.w (.a (.ptr (.v 17) 0)))] [(.b (.v 0),.prop 1)] [.i] (.w (.a (.int .i64 (.v 18))))
(.read (.nilCheck (.tmp 32)) 0 [(32,.w (.a (.val 16)))] [(.b (.v 0),.prop 1)] [.n] (.w (.a (.ptr (.v 19) 0)))
(.read (.load 3 (.tmp 34)) 3 [(34,.w (.a (.ptr (.v 19) 1)))] [(.b (.v 0),.prop 1)] [.i] (.w (.a (.int .i64 (.v 20))))
(.read (.nilCheck (.tmp 36)) 0 [(36,.w (.a (.val 16)))] [(.b (.v 0),.prop 1)] [.n] (.w (.a (.ptr (.v 21) 0)))
(.read (.load 28 (.tmp 38)) 28 [(38,.w (.a (.ptr (.v 21) 2)))] [(.b (.v 0),.prop 1)] [.a,.n,.n] (.w (.a (.sl (.v 22) (.v 23) (.v 24))))
  (.all
(.call 73 [.a (.sl (.v 22) (.v 23) (.v 24))] [(.b (.v 0),.prop 1)] [.a,.n,.n,.p] (.w (.a (.sl (.v 25) (.v 26) (.v 27)))) [(.a 25,.prop 28),(.b (.v 0),.prop 1)]
  (.all
(.new
(.again 0 [.n (.v 29),.e (.o1 .neg (.o1 .neg (.v 14))),.e (.o1 .neg (.o1 .neg (.v 18))),.e (.o1 .neg (.o1 .neg (.v 20))),.a (.v 25),.e (.o2 .nadd (.v 26) (.n 0)),.e (.o2 .nadd (.v 27) (.n 0)),.a .nil,.e (.o2 .nadd (.n 0) (.n 0)),.e (.o2 .nadd (.n 0) (.n 0)),.p [],.p [(.a 25,.prop 28)]]))
(.new
(.again 0 [.n (.v 29),.e (.o1 .neg (.o1 .neg (.v 14))),.e (.o1 .neg (.o1 .neg (.v 18))),.e (.o1 .neg (.o1 .neg (.v 20))),.a (.v 25),.e (.o2 .nadd (.v 26) (.n 0)),.e (.o2 .nadd (.v 27) (.n 0)),.a .nil,.e (.o2 .nadd (.n 0) (.n 0)),.e (.o2 .nadd (.n 0) (.n 0)),.p [],.p [(.a 25,.prop 28)]]))))
(.new
(.call 73 [.a (.sl (.v 22) (.v 23) (.v 24))] [(.b (.v 0),.prop 1)] [.a,.n,.n,.p] (.w (.a (.sl (.v 26) (.v 27) (.v 28)))) [(.a 26,.prop 29),(.b (.v 0),.prop 1)]
(.again 0 [.n (.v 25),.e (.o1 .neg (.o1 .neg (.v 14))),.e (.o1 .neg (.o1 .neg (.v 18))),.e (.o1 .neg (.o1 .neg (.v 20))),.a (.v 26),.e (.o2 .nadd (.v 27) (.n 0)),.e (.o2 .nadd (.v 28) (.n 0)),.a .nil,.e (.o2 .nadd (.n 0) (.n 0)),.e (.o2 .nadd (.n 0) (.n 0)),.p [],.p [(.a 26,.prop 29)]]))))))))))
(.read (.nilCheck (.tmp 42)) 0 [(42,.w (.a (.val 16)))] [(.b (.v 0),.prop 1)] [.n] (.w (.a (.ptr (.v 29) 0)))
(.read (.load 131 (.tmp 44)) 131 [(44,.w (.a (.ptr (.v 29) 3)))] [(.b (.v 0),.prop 1)] [.v] (.w (.a (.val 30)))
(.call 75 [.a (.val 30)] [(.b (.v 0),.prop 1)] [.v,.p] (.w (.a (.val 31))) [(.a 31,.prop 32),(.b (.v 0),.prop 1)]
(.call 74 [.a (.val 31)] [(.a 31,.prop 32),(.b (.v 0),.prop 1)] [.a,.n,.n,.p] (.w (.a (.sl (.v 33) (.v 34) (.v 35)))) [(.a 33,.prop 36),(.a 31,.prop 32),(.b (.v 0),.prop 1)]
(.loop [.i,.a,.n,.n,.p] [.e (.o1 .neg (.o1 .neg (.i 0))),.a (.v 24),.e (.o2 .nadd (.v 25) (.n 0)),.e (.o2 .nadd (.v 26) (.n 0)),.p [(.a 24,.prop 27)]]
(.br (.o2 .lt (.v 37) (.o1 .ofNat (.v 34)))
(.need (.o2 .le (.i 0) (.v 37))
(.need (.o1 .isSome (.v 33))
(.read (.load 9 (.tmp 51)) 9 [(51,.w (.a (.eptr 33 (.v 37) 1 0)))] [(.a 33,.prop 36)] [.s] (.w (.a (.str (.v 42))))
(.read (.nilCheck (.tmp 56)) 0 [(56,.w (.a (.val 16)))] [(.b (.v 0),.prop 1)] [.n] (.w (.a (.ptr (.v 43) 0)))
(.read (.load 131 (.tmp 58)) 131 [(58,.w (.a (.ptr (.v 43) 3)))] [(.b (.v 0),.prop 1)] [.v] (.w (.a (.val 44)))
(.read (.lookup 131 (.tmp 59) (.tmp 60) false) 3 [(59,.w (.a (.val 44))),(60,.w (.a (.str (.v 42))))] [(.b (.v 0),.prop 1)] [.i] (.w (.a (.int .i64 (.v 45))))
(.new
(.op (.call ⟨.builtin .append,#[.tmp 54,.tmp 63],#[41,41]⟩) 41 [(54,.w (.a (.sl (.v 38) (.v 39) (.v 40)))),(63,.w (.a (.sl (.b (.v 46) 0) (.n 1) (.n 1))))] [(.a 38,.prop 41),(.b (.v 46),.cells [.str (.v 42),.int .i64 (.v 45)] 140)] [.a,.n,.n,.p] (.w (.a (.sl (.v 47) (.v 48) (.v 49)))) [(.a 47,.prop 50)]
(.need (.o1 (.inr .i64) (.o2 .add (.v 37) (.i 1)))
(.again 0 [.e (.o1 .neg (.o1 .neg (.o2 .add (.v 37) (.i 1)))),.a (.v 47),.e (.o2 .nadd (.v 48) (.n 0)),.e (.o2 .nadd (.v 49) (.n 0)),.p [(.a 47,.prop 50)]]))))))))))
(.new
(.op (.call ⟨.builtin .append,#[.tmp 67,.tmp 69],#[36,36]⟩) 36 [(67,.w (.a (.sl (.v 9) (.v 10) (.v 11)))),(69,.w (.a (.sl (.b (.v 42) 0) (.n 1) (.n 1))))] [(.a 9,.prop 12),(.b (.v 42),.cells [.int .i64 (.v 18),.int .i64 (.v 19),.int .i64 (.v 20),.sl (.v 21) (.v 22) (.v 23),.sl (.v 38) (.v 39) (.v 40)] 43),(.a 21,.prop 28),(.a 38,.prop 41)] [.a,.n,.n,.p] (.w (.a (.sl (.v 43) (.v 44) (.v 45)))) [(.a 43,.prop 46)]
(.need (.o1 (.inr .i64) (.o2 .add (.v 13) (.i 1)))
(.again 1 [.a (.v 43),.e (.o2 .nadd (.v 44) (.n 0)),.e (.o2 .nadd (.v 45) (.n 0)),.p [(.a 43,.prop 46)],.e (.o1 .neg (.o1 .neg (.o2 .add (.v 13) (.i 1))))]))))))))))))))))
(.ret (.w (.a (.sl (.v 9) (.v 10) (.v 11)))) [(.b (.v 0),.prop 1),(.a 9,.prop 12)]))))))
theorem tree_tNodes:tree Tryz.prog { opq:=[121,131],hv:=[(2,[.b (.v 17),.a 24])],keep:=[132,127,128,129,69,70,67,19,73,75,72,71,74],link:=[(127,0),(128,0),(129,0),(75,0),(72,0)],opn:=true,rdf:=true,cel:=[(2,.b (.v 17),[4])],apa:=true,peek:=[121,131],jn:=[((27,17),some { ss:=[.n,.i,.i,.i,.a,.n,.n,.a,.n,.n,.p,.p],n:=29,tv:=[(27,none),(28,none),(29,none),(30,none),(31,none),(32,none),(33,none),(34,none),(35,none),(36,none),(37,none),(38,none),(39,none),(40,none),(41,none),(7,some (.w (.a (.ptr (.v 17) 0))))],h:=[(.b (.v 17),.cells [.int .i64 (.v 18),.int .i64 (.v 19),.int .i64 (.v 20),.sl (.v 21) (.v 22) (.v 23),.sl (.v 24) (.v 25) (.v 26)] 43),(.a 21,.prop 28),(.b (.v 0),.prop 1),(.a 5,.prop 8),(.a 3,.prop 4),(.a 9,.prop 12),(.a 24,.prop 27)],lk:=[] })] } Tryz.f19 [.a (.ptr (.v 0) 0)] [(.b (.v 0),.prop 1)] 2=t_tNodes:=by kernel_rfl
end Go.Proofs.YtdieogcemmnaaaaGreatDoor.RX

namespace Go.Proofs.YtdieogcemmnaaaaGreatDoor
open Go.Proofs.YtdieogcemmnaaaaGreatDoor RX
set_option maxRecDepth 100000
abbrev Nm:=List UInt8
structure Nd where
 num:Nat
 kind:Int
 links:Int
 data:List UInt8
 ents:List (Nm × Nat)
structure HN where
 p:Nd
 nb:Nat
 mb:Nat
 da:Option Addr
 dc:Nat
structure TS where
 mb:Nat
 ns:List HN
def TS.pub (t:TS):List Nd:=t.ns.map (·.p)
def lk:List (Nm × Nat) → Nm → Option Nat
 | [],_=>none
 | x :: r,k=>if k=x.1 then some x.2 else lk r k
def nodeAt (T:List Nd) (k:Nat):Option Nd:=T.find? fun n=>decide (n.num=k)
def hnAt (ns:List HN) (k:Nat):Option HN:=ns.find? fun x=>decide (x.p.num=k)
theorem nodeAt_pub (t:TS) (k:Nat):nodeAt t.pub k=(hnAt t.ns k).map (·.p):=by
 unfold nodeAt hnAt TS.pub
 rw [List.find?_map]; rfl
theorem hnAt_mem {ns:List HN} {k:Nat} {x:HN} (h:hnAt ns k=some x):x ∈ ns ∧ x.p.num=k:=by
 unfold hnAt at h
 exact ⟨List.mem_of_find?_eq_some h,by simpa using List.find?_some h⟩
def EntM (mb:Nat) (ents:List (Nm × Nat)):HP:=HP.ex fun l:AL Nm=>HP.ex fun c:Nat=>HP.and (MapI l c ∧ ∀ k,alFind k l=(lk ents k).map fun n=>Value.int .i64 n) (HP.one mb (mapObj sE l c))
def HN.mapo (x:HN):Option Nat:=if x.p.kind=1 then some x.mb else none
def NC (x:HN):HP:=HP.one x.nb (.cells #[.int .i64 x.p.kind,.int .i64 x.p.links,.slice x.da x.p.data.length x.dc,.map x.mapo] 133 (0,0))
def EntR (x:HN):HP:=if x.p.kind=1 then EntM x.mb x.p.ents else HP.pure (x.p.ents=[])
def NRep (x:HN):HP:=HP.sep (NC x) (HP.sep (OwB x.da x.p.data.length x.dc x.p.data) (EntR x))
def nodeV (ns:List HN) (k:Int):Option Value:=(ns.find? fun x=>decide ((x.p.num:Int)=k)).map fun x => .pointer (some ⟨x.nb,0,none⟩)
def TC (b:Nat) (t:TS):HP:=HP.one b (.cells #[.map (some t.mb)] 125 (0,0))
def NodM (t:TS):HP:=HP.ex fun l:AL Int=>HP.ex fun c:Nat=>HP.and (MapI l c ∧ ∀ k,alFind k l=nodeV t.ns k) (HP.one t.mb (mapObj i64v l c))
def TRep (b:Nat) (t:TS):HP:=HP.sep (TC b t) (HP.sep (NodM t) (sepN (t.ns.map NRep)))
theorem nodeV_at (ns:List HN) (k:Nat):nodeV ns k=(hnAt ns k).map fun x => .pointer (some ⟨x.nb,0,none⟩):=by
 unfold nodeV hnAt
 congr 2
 funext x
 rw [decide_eq_decide]; omega
theorem sepN_mem {l:List HP} {x:HP} (hx:x ∈ l) {R h:PH} (H:(sepN l).p R h):x.p R h:=by
 obtain ⟨k,hk,rfl⟩:=List.mem_iff_getElem.1 hx
 exact HP.sep_left (sepN_focus (List.getElem?_eq_getElem hk) H)
theorem rdAt {S:HP} {b:Nat} {cs:Array Value} {ty:TypeId} (hS : ∀ R h,S.p R h → h b=some (.cells cs ty (0,0))):Rd S (some ⟨b,0,none⟩) cs.toList:=fun w R h F s a j u hj=>by
 have hw:=s.oh _ _ (hS R h a)
 refine ⟨b,0,rfl,?_⟩
 rw [Nat.zero_add,cell_at hw]
 simpa using hj
theorem ld1 {S:HP} {b:Nat} {cs:Array Value} {ty t:TypeId} {d:TypeDesc} (hS : ∀ R h,S.p R h → h b=some (.cells cs ty (0,0))) (hd:Tryz.prog.underlying t=some d) (ha:aggT Tryz.prog t=false) (hz:szT Tryz.prog t=1) {k:Nat} {v:Value} (hv:cs.toList[k]? = some v) :
  ORead Tryz.prog (loadS t (.pointer (some ⟨b,k,none⟩))) S v:=by
 have:=load1_ok hd ha hz (rdAt hS) (k:=k) (off:=0) (v:=v) hv
 simpa [RX.addr_add] using this
variable {b:Nat} {t:TS} {x:HN}
theorem TRep.tc {R h:PH} (H:(TRep b t).p R h):h b=some (.cells #[.map (some t.mb)] 125 (0,0)):=HP.sep_left H
theorem TRep.node {R h:PH} (H:(TRep b t).p R h) (hx:x ∈ t.ns):(NRep x).p R h:=sepN_mem (List.mem_map.2 ⟨x,hx,rfl⟩) (HP.sep_right (HP.sep_right H))
theorem NRep.cells {R h:PH} (H:(NRep x).p R h):h x.nb=some (.cells #[.int .i64 x.p.kind,.int .i64 x.p.links,.slice x.da x.p.data.length x.dc,.map x.mapo] 133 (0,0)):=HP.sep_left H
theorem undNM:Tryz.prog.underlying 123=some (.map 3 121):=by kernel_rfl
theorem undEM:Tryz.prog.underlying 131=some (.map 9 3):=by kernel_rfl
theorem kInt':KeyEnc Tryz.prog 3 i64v:=int_enc undIb
theorem kStr':KeyEnc Tryz.prog 9 sE:=str_enc undStr
theorem infoNp:(Tryz.prog.info? 121).map (fun i=>(i.zero,i.size,i.bytes))=some (some (.pointer none),1,8):=by kernel_rfl
theorem ldNodes:ORead Tryz.prog (loadS 123 (.pointer (some ⟨b,0,none⟩))) (TRep b t) (.map (some t.mb)):=ld1 (fun R h H=>TRep.tc H) undNM (by kernel_rfl) (by kernel_rfl) rfl
theorem TRep.nmap {R h:PH} (H:(TRep b t).p R h) : ∃ l c,MapI l c ∧ (∀ k,alFind k l=nodeV t.ns k) ∧ h t.mb=some (mapObj i64v l c):=by
 obtain ⟨l,c,⟨h1,h2⟩,h3⟩:=HP.sep_left (HP.sep_right H)
 exact ⟨l,c,h1,h2,h3⟩
theorem lkNode (k:Nat):ORead Tryz.prog (lookS 123 (.map (some t.mb)) (.int .i64 k) false) (TRep b t) (.pointer ((hnAt t.ns k).map fun x=>⟨x.nb,0,none⟩)):=fun w R h F s H=>by
 obtain ⟨l,c,hI,hk,hh⟩:=TRep.nmap H
 obtain ⟨i,hi,z1,_,_⟩:=info_parts infoNp
 have hr:=look_ok (c:=c) (l:=l) kInt' undNM hi z1 (k:Int) false (r:=t.mb) (A:=HP.one t.mb (mapObj i64v l c)) (fun R h H=>H)
 have:=hr w R (PH.one t.mb (mapObj i64v l c)) PH.none' ⟨s.dRh.le (PH.le.refl _) (PH.one_le hh),PH.dj_none _,PH.dj_none _,s.oR,s.oh.le (PH.one_le hh),fun _ _ e=>(by cases e),s.gl⟩ (PH.one_self _ _)
 refine Eq.trans this ?_
 rw [hk,nodeV_at]
 cases hnAt t.ns k <;> rfl
theorem ldKind (hx:x ∈ t.ns):ORead Tryz.prog (loadS 3 (.pointer (some ⟨x.nb,0,none⟩))) (TRep b t) (.int .i64 x.p.kind):=ld1 (fun R h H=>NRep.cells (TRep.node H hx)) undIb aggI szI rfl
theorem ldLinks (hx:x ∈ t.ns):ORead Tryz.prog (loadS 3 (.pointer (some ⟨x.nb,1,none⟩))) (TRep b t) (.int .i64 x.p.links):=ld1 (fun R h H=>NRep.cells (TRep.node H hx)) undIb aggI szI rfl
theorem ldData (hx:x ∈ t.ns):ORead Tryz.prog (loadS 28 (.pointer (some ⟨x.nb,2,none⟩))) (TRep b t) (.slice x.da x.p.data.length x.dc):=ld1 (fun R h H=>NRep.cells (TRep.node H hx)) undB8 (by kernel_rfl) (by kernel_rfl) rfl
theorem ldEnts (hx:x ∈ t.ns):ORead Tryz.prog (loadS 131 (.pointer (some ⟨x.nb,3,none⟩))) (TRep b t) (.map x.mapo):=ld1 (fun R h H=>NRep.cells (TRep.node H hx)) undEM (by kernel_rfl) (by kernel_rfl) rfl
theorem NRep.emap {R h:PH} (H:(NRep x).p R h) (hd:x.p.kind=1) : ∃ l c,MapI l c ∧ (∀ k,alFind k l=(lk x.p.ents k).map fun n=>Value.int .i64 n) ∧ h x.mb=some (mapObj sE l c):=by
 have H1:=HP.sep_right (HP.sep_right H)
 unfold EntR at H1
 rw [if_pos hd] at H1
 obtain ⟨l,c,⟨h1,h2⟩,h3⟩:=H1
 exact ⟨l,c,h1,h2,h3⟩
theorem lkEnt2 (hx:x ∈ t.ns) (hd:x.p.kind=1) (nm:Nm):ORead Tryz.prog (lookS 131 (.map (some x.mb)) (sE nm) true) (TRep b t) (.tuple #[.int .i64 ((lk x.p.ents nm).getD 0:Nat),.bool (lk x.p.ents nm).isSome]):=fun w R h F s H=>by
 obtain ⟨l,c,hI,hk,hh⟩:=NRep.emap (TRep.node H hx) hd
 obtain ⟨i,hi,z1,_,_⟩:=info_parts infoInt
 have hr:=look_ok (c:=c) (l:=l) kStr' undEM hi z1 nm true (r:=x.mb) (A:=HP.one x.mb (mapObj sE l c)) (fun R h H=>H)
 have:=hr w R (PH.one x.mb (mapObj sE l c)) PH.none' ⟨s.dRh.le (PH.le.refl _) (PH.one_le hh),PH.dj_none _,PH.dj_none _,s.oR,s.oh.le (PH.one_le hh),fun _ _ e=>(by cases e),s.gl⟩ (PH.one_self _ _)
 refine Eq.trans this ?_
 rw [hk]
 cases lk x.p.ents nm <;> rfl
theorem lkEnt1 (hx:x ∈ t.ns) (hd:x.p.kind=1) (nm:Nm):ORead Tryz.prog (lookS 131 (.map (some x.mb)) (sE nm) false) (TRep b t) (.int .i64 ((lk x.p.ents nm).getD 0:Nat)):=fun w R h F s H=>by
 obtain ⟨l,c,hI,hk,hh⟩:=NRep.emap (TRep.node H hx) hd
 obtain ⟨i,hi,z1,_,_⟩:=info_parts infoInt
 have hr:=look_ok (c:=c) (l:=l) kStr' undEM hi z1 nm false (r:=x.mb) (A:=HP.one x.mb (mapObj sE l c)) (fun R h H=>H)
 have:=hr w R (PH.one x.mb (mapObj sE l c)) PH.none' ⟨s.dRh.le (PH.le.refl _) (PH.one_le hh),PH.dj_none _,PH.dj_none _,s.oR,s.oh.le (PH.one_le hh),fun _ _ e=>(by cases e),s.gl⟩ (PH.one_self _ _)
 refine Eq.trans this ?_
 rw [hk]
 cases lk x.p.ents nm <;> rfl
def lenS (t ty:TypeId) (x:Value):Sem Next:=do pure (.value (← Builtin.len_ #[t] ty #[x]))
theorem semW_len {t ty:TypeId} {i:Nat} {x:Value}:semW (.call ⟨.builtin .len,#[.tmp i],#[t]⟩) ty [(i,x)]=lenS t ty x:=by
 simp [semW,execOp,resolve,arW,invoke,builtin,lenS]
theorem lenMap {κ:Type} {enc:κ → Value} {t k e ty:TypeId} (ht:Tryz.prog.underlying t=some (.map k e)) {m c:Nat} {l:AL κ} {w:World} (hh:w.heap[m]? = some (mapObj enc l c)):(lenS t ty (.map (some m))).run Tryz.prog w = .ok (.value (.int .i64 l.length)) w:=by
 unfold mapObj at hh
 unfold lenS Builtin.len_
 simp [RX.run_underlying ht,getObj,Sem.run,hh,goInt]
theorem lk_keys (k:Nm) : ∀ ents:List (Nm × Nat),(lk ents k).isSome=true ↔ k ∈ ents.map (·.1)
 | []=>by simp [lk]
 | y :: r=>by
  unfold lk
  by_cases h:k=y.1
  ·simp [h]
  ·rw [if_neg h,lk_keys k r]; simp [h]
theorem al_perm {κ α:Type} [DecidableEq κ] {l:AL κ} {ks:List κ} (hn:(l.map (·.1)).Nodup) (hk:ks.Nodup) (f:κ → Option α) (h : ∀ k,(alFind k l).isSome=(f k).isSome) (hf : ∀ k,(f k).isSome=true ↔ k ∈ ks):(l.map (·.1)).Perm ks :=
 (List.perm_ext_iff_of_nodup hn hk).2 fun k=>by rw [← alFind_isSome,h,hf]
theorem EntM.len {mb:Nat} {ents:List (Nm × Nat)} (hn:(ents.map (·.1)).Nodup) {l:AL Nm} {c:Nat} (hI:MapI l c) (hk : ∀ k,alFind k l=(lk ents k).map fun n=>Value.int .i64 n):l.length=ents.length:=by
 have:=(al_perm hI.1 hn (lk ents) (fun k=>by rw [hk]; cases lk ents k <;> rfl) (fun k=>lk_keys k ents)).length_eq
 simpa using this
theorem lenEnts {ty:TypeId} (hx:x ∈ t.ns) (hd:x.p.kind=1) (hn:(x.p.ents.map (·.1)).Nodup):ORead Tryz.prog (lenS 131 ty (.map (some x.mb))) (TRep b t) (.int .i64 x.p.ents.length):=fun w R h F s H=>by
 obtain ⟨l,c,hI,hk,hh⟩:=NRep.emap (TRep.node H hx) hd
 rw [lenMap undEM (s.oh _ _ hh),EntM.len (mb:=0) hn hI hk]
theorem nums_len {l:AL Int} {c:Nat} {ns:List HN} (hI:MapI l c) (hk : ∀ k,alFind k l=nodeV ns k) (hn:(ns.map (·.p.num)).Nodup):l.length=ns.length:=by
 have:=(al_perm (ks:=ns.map fun x=>(x.p.num:Int)) hI.1 ?_ (nodeV ns) (fun k=>by rw [hk]) fun k => ?_).length_eq
 ·simpa using this
 ·have:(ns.map fun x=>(x.p.num:Int))=(ns.map (·.p.num)).map (fun n:Nat=>(n:Int)):=by simp
  rw [this]
  exact List.Pairwise.map _ (fun a b h e=>h (by exact_mod_cast e)) hn
 ·unfold nodeV
  rw [Option.isSome_map,List.find?_isSome]
  simp [List.mem_map]
theorem lenNodes {ty:TypeId} (hn:(t.ns.map (·.p.num)).Nodup):ORead Tryz.prog (lenS 123 ty (.map (some t.mb))) (TRep b t) (.int .i64 t.ns.length):=fun w R h F s H=>by
 obtain ⟨l,c,hI,hk,hh⟩:=TRep.nmap H
 rw [lenMap undNM (s.oh _ _ hh),nums_len hI hk hn]
theorem rdData (hx:x ∈ t.ns):RdL (TRep b t) x.da x.p.data.length (x.p.data.map u8v) :=
 have r:=RdL.ow 5 1 x.da x.p.data.length x.dc (x.p.data.map u8v)
 ⟨fun w R h F s H j u hj=>by
  have H1:=TRep.node H hx
  obtain ⟨h1,h2,d,l1,l2,_,H2⟩:=H1
  obtain ⟨h3,h4,d2,l3,l4,H3,_⟩:=H2
  exact r.rd w R h3 PH.none' ⟨s.dRh.le (PH.le.refl _) (l3.trans l2),PH.dj_none _,PH.dj_none _,s.oR,s.oh.le (l3.trans l2),fun _ _ e=>(by cases e),s.gl⟩ H3 j u hj,fun R h H e=>by
  exact r.none R h (HP.sep_left (HP.sep_right (TRep.node H hx))) e⟩
end Go.Proofs.YtdieogcemmnaaaaGreatDoor

namespace Go.Proofs.YtdieogcemmnaaaaGreatDoor
set_option linter.unusedSimpArgs false
set_option linter.unusedVariables false
open Go.Proofs.YtdieogcemmnaaaaGreatDoor RX
set_option maxRecDepth 100000
structure GoodN (B:Nat) (n:Nd):Prop where
 kind:n.kind=1 ∧ n.data=[] ∧ n.links=1 ∨ n.kind=2 ∧ n.ents=[]
 data:n.data.length ≤ 512
 lpos:0 < n.links
 lfew:n.links ≤ B
 efew:n.ents.length ≤ B
 sort:(n.ents.map (·.1)).Pairwise (· < ·)
 name : ∀ e ∈ n.ents,nameOk e.1=true ∧ e.2 ≠ 0
 num:n.num < 64
def cntE (l:List (Nm × Nat)) (k:Nat):Nat:=l.countP fun e=>decide (e.2=k)
def refs (T:List Nd) (k:Nat):Nat:=(T.map fun n=>cntE n.ents k).sum
structure TWf (B:Nat) (T:List Nd):Prop where
 sorted:(T.map (·.num)).Pairwise (· < ·)
 root : ∃ r,nodeAt T 0=some r ∧ r.kind=1
 good : ∀ n ∈ T,GoodN B n
 tgt : ∀ n ∈ T,∀ e ∈ n.ents,(nodeAt T e.2).isSome=true
 cnt : ∀ n ∈ T,n.num ≠ 0 → (refs T n.num:Int)=n.links
def walkS (T:List Nd):Nat → List Nm → Nat × Int
 | at',[]=>(at',0)
 | at',nm :: r=>match nodeAt T at' with
  | none=>(0,21)
  | some n=>if n.kind ≠ 1 then (0,23) else match lk n.ents nm with
   | none=>(0,21)
   | some k=>walkS T k r
def findS (T:List Nd) (s:Nm):Nat × Int:=match splitP s with
 | none=>(0,20)
 | some l=>walkS T 0 l
theorem lk_mem : ∀ {ents:List (Nm × Nat)} {k:Nm} {n:Nat},lk ents k=some n → (k,n) ∈ ents
 | [],_,_,h=>by cases h
 | y :: r,k,n,h=>by
  unfold lk at h
  split at h
  ·rename_i e; cases h; subst e; simp
  ·exact List.mem_cons_of_mem _ (lk_mem h)
theorem nodeAt_mem {T:List Nd} {k:Nat} {n:Nd} (h:nodeAt T k=some n):n ∈ T ∧ n.num=k:=by
 unfold nodeAt at h
 exact ⟨List.mem_of_find?_eq_some h,by simpa using List.find?_some h⟩
theorem walkS_some {B:Nat} {T:List Nd} (wf:TWf B T) : ∀ (l:List Nm) (a:Nat),(nodeAt T a).isSome=true → (nodeAt T (walkS T a l).1).isSome=true
 | [],a,h=>h
 | nm :: r,a,h=>by
  obtain ⟨n,hn⟩:=Option.isSome_iff_exists.1 h
  have h0:(nodeAt T 0).isSome=true:=by obtain ⟨q,hq,_⟩:=wf.root; rw [hq]; rfl
  unfold walkS
  rw [hn]
  simp only
  split
  ·exact h0
  ·split
   ·exact h0
   ·rename_i k hk
    exact walkS_some wf r k (wf.tgt n (nodeAt_mem hn).1 _ (lk_mem hk))
theorem findS_some {B:Nat} {T:List Nd} (wf:TWf B T) (s:Nm):(nodeAt T (findS T s).1).isSome=true:=by
 have h0:(nodeAt T 0).isSome=true:=by obtain ⟨q,hq,_⟩:=wf.root; rw [hq]; rfl
 unfold findS
 split
 ·exact h0
 ·exact walkS_some wf _ 0 h0
theorem hn_of {t:TS} {k:Nat} (h:(nodeAt t.pub k).isSome=true) : ∃ x,hnAt t.ns k=some x ∧ nodeAt t.pub k=some x.p ∧ x ∈ t.ns:=by
 rw [nodeAt_pub] at h ⊢
 rw [Option.isSome_map] at h
 obtain ⟨x,hx⟩:=Option.isSome_iff_exists.1 h
 exact ⟨x,hx,by rw [hx]; rfl,(hnAt_mem hx).1⟩
variable {b:Nat} {t:TS}
set_option maxHeartbeats 1000000 in
theorem tFind_ok {B:Nat} (wf:TWf B t.pub) (s:Nm):Tri Tryz.prog 132 #[.pointer (some ⟨b,0,none⟩),sE s] (TRep b t) (fun v=>HP.and (v = .tuple #[.int .i64 (findS t.pub s).1,.int .i64 (findS t.pub s).2]) (TRep b t)):=by
 refine tri_of_tree (ρ:=[.n b,.p (TRep b t),.s s]) mixed Tryz.func132 tree_tFind ?_
 unfold t_tFind
 simp only [T.den,E.prop,E.den,RX.look,F1.app,F2.app,Uni.int_i,Uni.nat_n,Uni.bool_c,Uni.str_s,Uni.adr_a,Uni.val_v,Uni.hp_p,hden,cden,V.den,W.den,A.den,BR.den,SA.den,FV.den,capV,exs,exP,allP,Cur.app,List.map_cons,List.map_nil,List.cons_append,List.nil_append,List.drop_succ_cons,List.drop_zero,List.length_cons,List.length_nil,Nat.zero_add,Nat.reduceAdd,Int.neg_neg,Bool.not_not,List.append_nil,Nat.add_zero,List.getElem?_cons_zero,List.getElem?_cons_succ,Decidable.not_not,semW_eq,semW_load,semW_lookup,semW_lookupC,semW_nil,ne_eq,Nat.reduceEqDiff,not_false_eq_true]
 refine (pSplit_ok s).weak (fun _ _ _=>trivial) ?_
 rintro v R h ⟨a,c,rfl,H⟩
 have hsome:((splitP s).getD []).length ≠ 0 → a.isSome=true:=fun hn=>OwC.some H (by omega)
 refine ⟨a,_,c,OwS a ((splitP s).getD []).length c ((splitP s).getD []),_,rfl,?_,H⟩
 clear H
 unfold findS
 cases hs:splitP s with
 | none=>exact ⟨fun _ => .of fun R h H=>⟨rfl,H⟩,fun h=>by simp at h⟩
 | some l =>
  refine ⟨fun h=>absurd (by rfl) h,fun _ => ?_⟩
  rw [hs] at hsome
  simp only [Option.getD_some] at hsome ⊢
  obtain ⟨hl8,_⟩:=splitP_len hs
  obtain ⟨res,hres⟩ : ∃ r,walkS t.pub 0 l=r:=⟨_,rfl⟩
  rw [hres]
  refine ⟨fun _ _ at' i => ∃ k a':Nat,i=k ∧ k ≤ l.length ∧ at'=a' ∧ walkS t.pub a' (l.drop k)=res ∧ (nodeAt t.pub a').isSome=true,fun _ _ _ i=>l.length - i.toNat,
   ⟨0,0,rfl,Nat.zero_le _,rfl,hres,by obtain ⟨q,hq,_⟩:=wf.root; rw [hq]; rfl⟩,?_⟩
  rintro _ _ _ _ ⟨k,a',rfl,hk,rfl,hw,hat⟩
  refine ⟨fun hlt=>⟨by omega,fun _=>⟨hsome (by omega),fun _ => ?_⟩⟩,fun hge => .of fun R h H=>⟨?_,H⟩⟩
  ·have hkl:k < l.length:=by omega
   obtain ⟨x,hx,hxp,hxm⟩:=hn_of hat
   have rd:RdL (OwS a l.length c l) a l.length (l.map sE):=RdL.ow _ _ _ _ _ _
   have hlk:=lkNode (b:=b) (t:=t) a'
   rw [hx] at hlk
   rw [List.drop_eq_getElem_cons hkl] at hw
   unfold walkS at hw
   rw [hxp] at hw
   simp only at hw
   refine ⟨l[k],loadStr rd.rd (List.getElem?_eq_getElem hkl),t.mb,ldNodes,.pointer (some ⟨x.nb,0,none⟩),hlk,x.nb,nilChk',x.p.kind,ldKind hxm,⟨fun hkd => .of fun R h H=>⟨?_,H⟩,fun hkd => ?_⟩⟩
   ·rw [if_pos hkd] at hw
    rw [← hw]; rfl
   ·have hkd':x.p.kind=1:=by simpa using hkd
    rw [if_neg (by simp [hkd'])] at hw
    have he:=ldEnts (b:=b) hxm
    have hmo:x.mapo=some x.mb:=by unfold HN.mapo; rw [if_pos hkd']
    rw [hmo] at he
    refine ⟨x.nb,nilChk',x.mb,he,((lk x.p.ents l[k]).getD 0:Nat),(lk x.p.ents l[k]).isSome,lkEnt2 hxm hkd' l[k],⟨fun hno => .of fun R h H=>⟨?_,H⟩,fun hyes => ?_⟩⟩
    ·have:lk x.p.ents l[k]=none:=by simpa using hno
     rw [this] at hw
     rw [← hw]; rfl
    ·obtain ⟨n,hn⟩:=Option.isSome_iff_exists.1 (show (lk x.p.ents l[k]).isSome=true by simpa using hyes)
     rw [hn] at hw ⊢
     exact ⟨inI64' _ (by omega) (by omega),fun _=>⟨⟨k + 1,n,by omega,by omega,rfl,hw,wf.tgt x.p (by rw [TS.pub]; exact List.mem_map.2 ⟨x,hxm,rfl⟩) _ (lk_mem hn)⟩,by first | omega | (dsimp only; omega)⟩⟩
  ·obtain rfl:k=l.length:=by omega
   rw [List.drop_length] at hw
   rw [← hw]; rfl
def parentS (s:Nm):Option (Nm × Nm):=match splitP s with
 | some (x :: r)=>some (joinP (x :: r).dropLast,(x :: r).getLast (by simp))
 | _=>none
theorem pParent' (s:Nm):Tri Tryz.prog 189 #[sE s] HP.tt (fun v=>HP.pure (v = .tuple #[sE ((parentS s).getD ([],[])).1,sE ((parentS s).getD ([],[])).2,.int .i64 (if (parentS s).isSome then 0 else 20)])):=by
 refine (pParent_ok s).weak (fun _ _ h=>h) ?_
 intro v R h e
 have e':v=_:=e
 show v=_
 rw [e']
 unfold parentS
 cases hs:splitP s with
 | none=>rfl
 | some l=>cases l with
  | nil=>rfl
  | cons x r=>rfl
def placeS (T:List Nd) (s:Nm):Nat × Nm × Int:=match parentS s with
 | none=>(0,[],20)
 | some (ab,nm)=>if (findS T ab).2 ≠ 0 then (0,[],(findS T ab).2) else match nodeAt T (findS T ab).1 with
  | none=>(0,[],1)
  | some n=>if n.kind ≠ 1 then (0,[],23) else if (lk n.ents nm).isSome=true then (0,[],22) else ((findS T ab).1,nm,0)
def ptrOf (ns:List HN) (k:Nat):Value := .pointer ((hnAt ns k).map fun x=>⟨x.nb,0,none⟩)
set_option maxHeartbeats 1000000 in
theorem tPlace_ok {B:Nat} (wf:TWf B t.pub) (s:Nm):Tri Tryz.prog 127 #[.pointer (some ⟨b,0,none⟩),sE s] (TRep b t)
  (fun v=>HP.and (v = .tuple #[if (placeS t.pub s).2.2=0 then ptrOf t.ns (placeS t.pub s).1 else .pointer none,sE (placeS t.pub s).2.1,.int .i64 (placeS t.pub s).2.2]) (TRep b t)):=by
 refine tri_of_tree (ρ:=[.n b,.p (TRep b t),.s s]) mixed Tryz.func127 tree_tPlace ?_
 unfold t_tPlace
 simp only [T.den,E.prop,E.den,RX.look,F1.app,F2.app,Uni.int_i,Uni.nat_n,Uni.bool_c,Uni.str_s,Uni.adr_a,Uni.val_v,Uni.hp_p,hden,cden,V.den,W.den,A.den,BR.den,SA.den,FV.den,capV,exs,exP,allP,Cur.app,List.map_cons,List.map_nil,List.cons_append,List.nil_append,List.drop_succ_cons,List.drop_zero,List.length_cons,List.length_nil,Nat.zero_add,Nat.reduceAdd,Int.neg_neg,Bool.not_not,List.append_nil,Nat.add_zero,List.getElem?_cons_zero,List.getElem?_cons_succ,Decidable.not_not,semW_eq,semW_load,semW_lookup,semW_lookupC,semW_nil,ne_eq,Nat.reduceEqDiff,not_false_eq_true]
 refine (pParent' s).weak (fun _ _ _=>trivial) ?_
 rintro v R h rfl
 refine ⟨_,_,_,rfl,?_,trivial⟩
 cases hs:parentS s with
 | none =>
  have e:placeS t.pub s=(0,[],20):=by simp [placeS,hs]
  exact ⟨fun _ => .of fun R h H=>⟨by rw [e]; rfl,H⟩,fun h=>by simp at h⟩
 | some q =>
  obtain ⟨ab,nm⟩:=q
  refine ⟨fun h=>absurd (by rfl) h,fun _ => ?_⟩
  simp only [Option.getD_some]
  refine (tFind_ok wf ab).weak (fun _ _ h=>h) ?_
  rintro v R h ⟨rfl,H⟩
  refine ⟨_,_,rfl,?_,H⟩
  clear H
  refine ⟨fun hc => .of fun R h H=>⟨?_,H⟩,fun hc => ?_⟩
  ·have hc':(findS t.pub ab).2 ≠ 0:=hc
   have e:placeS t.pub s=(0,[],(findS t.pub ab).2):=by simp [placeS,hs,hc']
   rw [e]; simp [hc',sE]
  have hc':(findS t.pub ab).2=0:=by simpa using hc
  obtain ⟨x,hx,hxp,hxm⟩:=hn_of (findS_some wf ab)
  have hlk:=lkNode (b:=b) (t:=t) (findS t.pub ab).1
  rw [hx] at hlk
  refine ⟨t.mb,ldNodes,.pointer (some ⟨x.nb,0,none⟩),hlk,x.nb,nilChk',x.p.kind,ldKind hxm,⟨fun hkd => .of fun R h H=>⟨?_,H⟩,fun hkd => ?_⟩⟩
  ·have e:placeS t.pub s=(0,[],23):=by simp [placeS,hs,hc',hxp,hkd]
   rw [e]; rfl
  have hkd':x.p.kind=1:=by simpa using hkd
  have he:=ldEnts (b:=b) hxm
  have hmo:x.mapo=some x.mb:=by unfold HN.mapo; rw [if_pos hkd']
  rw [hmo] at he
  refine ⟨x.nb,nilChk',x.mb,he,_,_,lkEnt2 hxm hkd' nm,⟨fun hyes => .of fun R h H=>⟨?_,H⟩,fun hno => .of fun R h H=>⟨?_,H⟩⟩⟩
  ·have e:placeS t.pub s=(0,[],22):=by
    unfold placeS; rw [hs]; simp only; rw [if_neg (by simp [hc']),hxp]; simp only; rw [if_neg (by simp [hkd']),if_pos hyes]
   rw [e]; rfl
  ·have e:placeS t.pub s=((findS t.pub ab).1,nm,0):=by
    unfold placeS; rw [hs]; simp only; rw [if_neg (by simp [hc']),hxp]; simp only; rw [if_neg (by simp [hkd']),if_neg hno]
   rw [e]
   simp only [if_true,ptrOf,hx]
   rfl
def entryS (T:List Nd) (s:Nm):Nat × Nm × Nat × Int:=match parentS s with
 | none=>(0,[],0,20)
 | some (ab,nm)=>if (findS T s).2 ≠ 0 then (0,[],0,(findS T s).2) else if (findS T ab).2 ≠ 0 then (0,[],0,(findS T ab).2) else ((findS T ab).1,nm,(findS T s).1,0)
set_option maxHeartbeats 1000000 in
theorem tEntry_ok {B:Nat} (wf:TWf B t.pub) (s:Nm):Tri Tryz.prog 128 #[.pointer (some ⟨b,0,none⟩),sE s] (TRep b t)
  (fun v=>HP.and (v = .tuple #[if (entryS t.pub s).2.2.2=0 then ptrOf t.ns (entryS t.pub s).1 else .pointer none,sE (entryS t.pub s).2.1,.int .i64 (entryS t.pub s).2.2.1,.int .i64 (entryS t.pub s).2.2.2]) (TRep b t)):=by
 refine tri_of_tree (ρ:=[.n b,.p (TRep b t),.s s]) mixed Tryz.func128 tree_tEntry ?_
 unfold t_tEntry
 simp only [T.den,E.prop,E.den,RX.look,F1.app,F2.app,Uni.int_i,Uni.nat_n,Uni.bool_c,Uni.str_s,Uni.adr_a,Uni.val_v,Uni.hp_p,hden,cden,V.den,W.den,A.den,BR.den,SA.den,FV.den,capV,exs,exP,allP,Cur.app,List.map_cons,List.map_nil,List.cons_append,List.nil_append,List.drop_succ_cons,List.drop_zero,List.length_cons,List.length_nil,Nat.zero_add,Nat.reduceAdd,Int.neg_neg,Bool.not_not,List.append_nil,Nat.add_zero,List.getElem?_cons_zero,List.getElem?_cons_succ,Decidable.not_not,semW_eq,semW_load,semW_lookup,semW_lookupC,ne_eq,Nat.reduceEqDiff,not_false_eq_true]
 refine (pParent' s).weak (fun _ _ _=>trivial) ?_
 rintro v R h rfl
 refine ⟨_,_,_,rfl,?_,trivial⟩
 cases hs:parentS s with
 | none =>
  have e:entryS t.pub s=(0,[],0,20):=by simp [entryS,hs]
  exact ⟨fun _ => .of fun R h H=>⟨by rw [e]; rfl,H⟩,fun h=>by simp at h⟩
 | some q =>
  obtain ⟨ab,nm⟩:=q
  refine ⟨fun h=>absurd (by rfl) h,fun _ => ?_⟩
  simp only [Option.getD_some]
  refine (tFind_ok wf s).weak (fun _ _ h=>h) ?_
  rintro v R h ⟨rfl,H⟩
  refine ⟨_,_,rfl,?_,H⟩
  clear H
  refine ⟨fun hc => .of fun R h H=>⟨?_,H⟩,fun hc => ?_⟩
  ·have hc':(findS t.pub s).2 ≠ 0:=hc
   have e:entryS t.pub s=(0,[],0,(findS t.pub s).2):=by simp [entryS,hs,hc']
   rw [e]; simp [hc',sE]
  have hc':(findS t.pub s).2=0:=by simpa using hc
  refine (tFind_ok wf ab).weak (fun _ _ h=>h) ?_
  rintro v R h ⟨rfl,H⟩
  refine ⟨_,_,rfl,?_,H⟩
  clear H
  refine ⟨fun hd => .of fun R h H=>⟨?_,H⟩,fun hd => ?_⟩
  ·have hd':(findS t.pub ab).2 ≠ 0:=hd
   have e:entryS t.pub s=(0,[],0,(findS t.pub ab).2):=by simp [entryS,hs,hc',hd']
   rw [e]; simp [hd',sE]
  have hd':(findS t.pub ab).2=0:=by simpa using hd
  have e:entryS t.pub s=((findS t.pub ab).1,nm,(findS t.pub s).1,0):=by simp [entryS,hs,hc',hd']
  obtain ⟨x,hx,hxp,hxm⟩:=hn_of (findS_some wf ab)
  have hlk:=lkNode (b:=b) (t:=t) (findS t.pub ab).1
  rw [hx] at hlk
  refine ⟨t.mb,ldNodes,.pointer (some ⟨x.nb,0,none⟩),hlk,.of fun R h H=>⟨?_,H⟩⟩
  rw [e]
  simp only [if_true,ptrOf,hx]
  rfl
def fileS (T:List Nd) (s:Nm):Nat × Int:=if (findS T s).2 ≠ 0 then (0,(findS T s).2) else match nodeAt T (findS T s).1 with
 | none=>(0,1)
 | some n=>if n.kind=1 then (0,24) else ((findS T s).1,0)
set_option maxHeartbeats 1000000 in
theorem tFile_ok {B:Nat} (wf:TWf B t.pub) (s:Nm):Tri Tryz.prog 129 #[.pointer (some ⟨b,0,none⟩),sE s] (TRep b t)
  (fun v=>HP.and (v = .tuple #[if (fileS t.pub s).2=0 then ptrOf t.ns (fileS t.pub s).1 else .pointer none,.int .i64 (fileS t.pub s).1,.int .i64 (fileS t.pub s).2]) (TRep b t)):=by
 refine tri_of_tree (ρ:=[.n b,.p (TRep b t),.s s]) mixed Tryz.func129 tree_tFile ?_
 unfold t_tFile
 simp only [T.den,E.prop,E.den,RX.look,F1.app,F2.app,Uni.int_i,Uni.nat_n,Uni.bool_c,Uni.str_s,Uni.adr_a,Uni.val_v,Uni.hp_p,hden,cden,V.den,W.den,A.den,BR.den,SA.den,FV.den,capV,exs,exP,allP,Cur.app,List.map_cons,List.map_nil,List.cons_append,List.nil_append,List.drop_succ_cons,List.drop_zero,List.length_cons,List.length_nil,Nat.zero_add,Nat.reduceAdd,Int.neg_neg,Bool.not_not,List.append_nil,Nat.add_zero,List.getElem?_cons_zero,List.getElem?_cons_succ,Decidable.not_not,semW_eq,semW_load,semW_lookup,semW_lookupC,semW_nil,ne_eq,Nat.reduceEqDiff,not_false_eq_true]
 refine (tFind_ok wf s).weak (fun _ _ h=>h) ?_
 rintro v R h ⟨rfl,H⟩
 refine ⟨_,_,rfl,?_,H⟩
 clear H
 refine ⟨fun hc => .of fun R h H=>⟨?_,H⟩,fun hc => ?_⟩
 ·have hc':(findS t.pub s).2 ≠ 0:=hc
  have e:fileS t.pub s=(0,(findS t.pub s).2):=by simp [fileS,hc']
  rw [e]; simp [hc']
 have hc':(findS t.pub s).2=0:=by simpa using hc
 obtain ⟨x,hx,hxp,hxm⟩:=hn_of (findS_some wf s)
 have hlk:=lkNode (b:=b) (t:=t) (findS t.pub s).1
 rw [hx] at hlk
 refine ⟨t.mb,ldNodes,.pointer (some ⟨x.nb,0,none⟩),hlk,x.nb,nilChk',x.p.kind,ldKind hxm,⟨fun hkd => .of fun R h H=>⟨?_,H⟩,fun hkd => .of fun R h H=>⟨?_,H⟩⟩⟩
 ·have e:fileS t.pub s=(0,24):=by simp [fileS,hc',hxp,hkd]
  rw [e]; rfl
 ·have e:fileS t.pub s=((findS t.pub s).1,0):=by simp [fileS,hc',hxp,hkd]
  rw [e]
  simp only [if_true,ptrOf,hx]
  rfl
end Go.Proofs.YtdieogcemmnaaaaGreatDoor

namespace Go.Proofs.YtdieogcemmnaaaaGreatDoor
open Go.Proofs.YtdieogcemmnaaaaGreatDoor RX
set_option maxRecDepth 100000
def putE (nm:Nm) (k:Nat):List (Nm × Nat) → List (Nm × Nat)
 | []=>[(nm,k)]
 | y :: r=>if y.1 < nm then y :: putE nm k r else (nm,k) :: y :: r
def dropE (nm:Nm) (l:List (Nm × Nat)):List (Nm × Nat):=l.filter fun y=>decide (y.1 ≠ nm)
theorem lk_put (nm:Nm) (k:Nat) (q:Nm) : ∀ l,lk (putE nm k l) q=if q=nm then some k else lk l q
 | []=>by simp [putE,lk]
 | y :: r=>by
  unfold putE
  split
  ·rename_i h
   have hne:y.1 ≠ nm:=fun e=>by rw [e] at h; exact List.lt_irrefl _ h
   simp only [lk]
   rw [lk_put nm k q r]
   by_cases e:q=y.1
   ·have:q ≠ nm:=fun e2=>hne (e.symm.trans e2)
    simp [e,hne]
   ·simp [e]
  ·simp only [lk]
theorem lk_drop (nm q:Nm) : ∀ l,lk (dropE nm l) q=if q=nm then none else lk l q
 | []=>by simp [dropE,lk]
 | y :: r=>by
  unfold dropE
  rw [List.filter_cons]
  have ih:=lk_drop nm q r
  unfold dropE at ih
  by_cases h:y.1=nm
  ·simp only [h,ne_eq,not_true_eq_false,decide_false,Bool.false_eq_true,if_false,ih,lk]
   by_cases e:q=nm <;> simp [e]
  ·simp only [ne_eq,h,not_false_eq_true,decide_true,if_true,lk,ih]
   by_cases e:q=y.1
   ·have:q ≠ nm:=fun e2=>h (e.symm.trans e2)
    simp [e,h]
   ·simp [e]
theorem EntM.put {mb:Nat} {ents:List (Nm × Nat)} (nm:Nm) (k:Nat):OTri Tryz.prog (updS 131 (.map (some mb)) (sE nm) (.int .i64 k)) (EntM mb ents) (fun v=>HP.and (v = .tuple #[]) (EntM mb (putE nm k ents))):=by
 refine OTri.exI fun l=>OTri.exI fun c=>OTri.pureI fun ⟨hI,hk⟩ => ?_
 refine (upd_ok (r:=mb) (l:=l) (c:=c) kStr' undEM nm (.int .i64 k)).weak (fun _ _ h=>h) ?_
 rintro v R h ⟨rfl,H⟩
 refine ⟨rfl,_,_,⟨hI.put nm (.int .i64 k),fun q => ?_⟩,H⟩
 rw [alFind_put,lk_put,hk]
 split <;> rfl
theorem EntM.del {mb:Nat} {ents:List (Nm × Nat)} (nm:Nm) (ts:Array TypeId) (ty:TypeId) (h0:ts[0]? = some 131):OTri Tryz.prog (delS ts ty (.map (some mb)) (sE nm)) (EntM mb ents) (fun v=>HP.and (v = .tuple #[]) (EntM mb (dropE nm ents))):=by
 refine OTri.exI fun l=>OTri.exI fun c=>OTri.pureI fun ⟨hI,hk⟩ => ?_
 refine (del_ok (r:=mb) (l:=l) (c:=c) (ty:=ty) kStr' undEM nm ts h0).weak (fun _ _ h=>h) ?_
 rintro v R h ⟨rfl,H⟩
 refine ⟨rfl,_,_,⟨hI.del nm,fun q => ?_⟩,H⟩
 rw [alFind_del _ _ _ hI.1,lk_drop,hk]
 split <;> rfl
variable {b:Nat} {t:TS} {x y:HN} {i:Nat}
def TS.setN (t:TS) (i:Nat) (y:HN):TS:={ t with ns:=t.ns.set i y }
def TRest (b:Nat) (t:TS) (i:Nat):HP:=HP.sep (TC b t) (HP.sep (NodM t) (sepN ((t.ns.map NRep).eraseIdx i)))
theorem TRep.focus (hi:t.ns[i]? = some x) {R h:PH} (H:(TRep b t).p R h):(HP.sep (NRep x) (TRest b t i)).p R h:=by
 have H1:(HP.sep (TC b t) (HP.sep (NodM t) (HP.sep (NRep x) (sepN ((t.ns.map NRep).eraseIdx i))))).p R h:=HP.sep_mono H (fun _ h=>h) fun y hy=>HP.sep_mono hy (fun _ h=>h) fun z hz=>sepN_focus (by simp [hi]) hz
 exact HP.pick [_,_,_,_] [2,0,1,3] (by decide) rfl H1
theorem nodeV_set (hi:t.ns[i]? = some x) (hn:y.p.num=x.p.num) (hb:y.nb=x.nb) (k:Int):nodeV (t.ns.set i y) k=nodeV t.ns k:=by
 have gen : ∀ ns:List HN,nodeV ns k=((ns.map fun x=>(x.p.num,x.nb)).find? fun z=>decide ((z.1:Int)=k)).map fun z => .pointer (some ⟨z.2,0,none⟩):=fun ns=>by
  unfold nodeV
  rw [List.find?_map,Option.map_map]; rfl
 rw [gen,gen,List.map_set]
 congr 2
 rw [hn,hb]
 refine List.ext_getElem? fun j => ?_
 rw [List.getElem?_set]
 split
 ·rename_i e; subst e
  rw [List.getElem?_map,hi]
  split
  ·rfl
  ·rename_i h; simp only [List.length_map] at h; exact absurd (List.getElem?_eq_some_iff.1 hi).1 h
 ·rfl
theorem TRep.unfocus (hi:t.ns[i]? = some x) (hn:y.p.num=x.p.num) (hb:y.nb=x.nb) {R h:PH} (H:(HP.sep (NRep y) (TRest b t i)).p R h):(TRep b (t.setN i y)).p R h:=by
 have hlt:i < (t.ns.map NRep).length:=by rw [List.length_map]; exact (List.getElem?_eq_some_iff.1 hi).1
 have H1:(HP.sep (TC b t) (HP.sep (NodM t) (HP.sep (NRep y) (sepN ((t.ns.map NRep).eraseIdx i))))).p R h:=HP.pick [_,_,_,_] [1,2,0,3] (by decide) rfl H
 refine HP.sep_mono H1 (fun _ h=>h) fun z hz=>HP.sep_mono hz ?_ fun q hq => ?_
 ·rintro q ⟨l,c,⟨h1,h2⟩,h3⟩
  exact ⟨l,c,⟨h1,fun k=>by rw [h2]; exact (nodeV_set hi hn hb k).symm⟩,h3⟩
 ·have:=sepN_unfocus hlt hq
  show (sepN ((t.ns.set i y).map NRep)).p R q
  rw [List.map_set]; exact this
theorem TRep.upd {s:Sem Next} {X:HP} {v0:Value} (hi:t.ns[i]? = some x) (hn:y.p.num=x.p.num) (hb:y.nb=x.nb) (o:OTri Tryz.prog s (HP.sep (NRep x) X) (fun v=>HP.and (v=v0) (NRep y))) :
  OTri Tryz.prog s (HP.sep (TRep b t) X) (fun v=>HP.and (v=v0) (TRep b (t.setN i y))):=by
 refine (o.frame (TRest b t i)).weak (fun R h H => ?_) ?_
 ·have H1:=HP.sep_assoc (HP.sep_mono H (fun _ h=>TRep.focus hi h) fun _ h=>h)
  exact HP.sep_assoc' (HP.pick [_,_,_] [0,2,1] (by decide) rfl H1)
 ·rintro v R h ⟨h1,h2,d,l1,l2,⟨e,H⟩,HR⟩
  exact ⟨e,TRep.unfocus hi hn hb ⟨h1,h2,d,l1,l2,H,HR⟩⟩
theorem TRep.upd1 {s:Sem Next} {v0:Value} (hi:t.ns[i]? = some x) (hn:y.p.num=x.p.num) (hb:y.nb=x.nb) (o:OTri Tryz.prog s (NRep x) (fun v=>HP.and (v=v0) (NRep y))) :
  OTri Tryz.prog s (TRep b t) (fun v=>HP.and (v=v0) (TRep b (t.setN i y))) :=
 (TRep.upd (X:=HP.tt) hi hn hb (o.weak (fun _ _ H=>HP.sep_left H) fun _ _ _ h=>h)).weak (fun _ _ H=>HP.sep_tt H) fun _ _ _ h=>h
def HN.setE (x:HN) (l:List (Nm × Nat)):HN:={ x with p:={ x.p with ents:=l } }
def HN.setL (x:HN) (n:Int):HN:={ x with p:={ x.p with links:=n } }
def HN.setD (x:HN) (a:Option Addr) (c:Nat) (l:List UInt8):HN:={ x with p:={ x.p with data:=l },da:=a,dc:=c }
theorem NRep.ents {l:List (Nm × Nat)} (hd:x.p.kind=1) {s:Sem Next} {v0:Value} (o:OTri Tryz.prog s (EntM x.mb x.p.ents) (fun v=>HP.and (v=v0) (EntM x.mb l))) :
  OTri Tryz.prog s (NRep x) (fun v=>HP.and (v=v0) (NRep (x.setE l))):=by
 refine (o.frame (HP.sep (NC x) (OwB x.da x.p.data.length x.dc x.p.data))).weak (fun R h H => ?_) ?_
 ·have e:EntR x=EntM x.mb x.p.ents:=by unfold EntR; rw [if_pos hd]
  have H1:(HP.sep (NC x) (HP.sep (OwB x.da x.p.data.length x.dc x.p.data) (EntM x.mb x.p.ents))).p R h:=by rw [← e]; exact H
  exact HP.pick [_,_,_] [2,0,1] (by decide) rfl H1
 ·rintro v R h ⟨h1,h2,d,l1,l2,⟨e,H⟩,HR⟩
  refine ⟨e,?_⟩
  have H1:(HP.sep (NC x) (HP.sep (OwB x.da x.p.data.length x.dc x.p.data) (EntM x.mb l))).p R h:=HP.pick [_,_,_] [1,2,0] (by decide) rfl ⟨h1,h2,d,l1,l2,H,HR⟩
  have e:EntR (x.setE l)=EntM x.mb l:=by unfold EntR; rw [if_pos (by exact hd)]; rfl
  unfold NRep
  rw [e]
  exact H1
theorem entPut (hi:t.ns[i]? = some x) (hd:x.p.kind=1) (nm:Nm) (k:Nat):OTri Tryz.prog (updS 131 (.map (some x.mb)) (sE nm) (.int .i64 k)) (TRep b t) (fun v=>HP.and (v = .tuple #[]) (TRep b (t.setN i (x.setE (putE nm k x.p.ents))))) :=
 TRep.upd1 hi rfl rfl (NRep.ents hd (EntM.put nm k))
theorem entDel (hi:t.ns[i]? = some x) (hd:x.p.kind=1) (nm:Nm) (ts:Array TypeId) (ty:TypeId) (h0:ts[0]? = some 131):OTri Tryz.prog (delS ts ty (.map (some x.mb)) (sE nm)) (TRep b t) (fun v=>HP.and (v = .tuple #[]) (TRep b (t.setN i (x.setE (dropE nm x.p.ents))))) :=
 TRep.upd1 hi rfl rfl (NRep.ents hd (EntM.del nm ts ty h0))
theorem NRep.store {tt':TypeId} {j:Nat} {v:Value} {n:Int} {p':Nd} {a:Option Addr} {c:Nat} {X:HP} (hz:(Tryz.prog.info? tt').map (·.size)=some 1) (h1:v.oneCell'=true) (hv:v.cells = #[v]) (hj:j < 4)
  (hnum:p'.num=x.p.num) (hk:p'.kind=x.p.kind) (he:p'.ents=x.p.ents)
  (hc:([.int .i64 x.p.kind,.int .i64 x.p.links,.slice x.da x.p.data.length x.dc,.map x.mapo].take j ++ [v] ++ [Value.int .i64 x.p.kind,.int .i64 x.p.links,.slice x.da x.p.data.length x.dc,.map x.mapo].drop (j + 1))=[.int .i64 p'.kind,.int .i64 p'.links,.slice a p'.data.length c,.map x.mapo])
  (hX : ∀ R h,(HP.sep (OwB x.da x.p.data.length x.dc x.p.data) X).p R h → (OwB a p'.data.length c p'.data).p R h) :
  OTri Tryz.prog (storeS tt' (.pointer (some ⟨x.nb,j,none⟩)) v) (HP.sep (NRep x) X) (fun u=>HP.and (u = .tuple #[]) (NRep { x with p:=p',da:=a,dc:=c })):=by
 obtain ⟨i,hi,hs⟩:=Option.map_eq_some_iff.1 hz
 have st:=storeOne_ok hi 133 x.nb #[.int .i64 x.p.kind,.int .i64 x.p.links,.slice x.da x.p.data.length x.dc,.map x.mapo] j v [v] (by simpa using hv) hs (by simp) (by simpa using h1) (by simp; omega) (by unfold maxLen; simp)
 refine (st.frame (HP.sep (HP.sep (OwB x.da x.p.data.length x.dc x.p.data) X) (EntR x))).weak (fun R h H => ?_) ?_
 ·have H1:=HP.sep_assoc (HP.sep_mono H (fun _ h=>HP.sep_assoc' h) fun _ h=>h)
  have H2:=HP.sep_assoc H1
  exact HP.sep_mono (HP.pick [_,_,_,_] [0,1,3,2] (by decide) rfl H2) (fun _ h=>h) fun y hy=>HP.sep_assoc' hy
 ·rintro u R h ⟨h1,h2,d,l1,l2,⟨e,H⟩,HR⟩
  refine ⟨e,?_⟩
  have H1:=HP.sep_mono (⟨h1,h2,d,l1,l2,H,HR⟩:(HP.sep _ _).p R h) (fun _ h=>h) fun y hy=>HP.sep_mono hy (fun z hz=>hX R z hz) fun _ h=>h
  have e1:EntR { x with p:=p',da:=a,dc:=c }=EntR x:=by unfold EntR; simp only [hk,he]
  have e2:NC { x with p:=p',da:=a,dc:=c }=HP.one x.nb (.cells #[.int .i64 p'.kind,.int .i64 p'.links,.slice a p'.data.length c,.map x.mapo] 133 (0,0)):=by
   unfold NC HN.mapo; simp only [hk]
  unfold NRep
  rw [e1,e2]
  rw [show (#[Value.int .i64 x.p.kind,.int .i64 x.p.links,.slice x.da x.p.data.length x.dc,.map x.mapo]:Array Value).toList=[.int .i64 x.p.kind,.int .i64 x.p.links,.slice x.da x.p.data.length x.dc,.map x.mapo] from rfl,show j + [v].length=j + 1 from rfl,hc] at H1
  exact H1
theorem linkStore (hi:t.ns[i]? = some x) (n:Int):OTri Tryz.prog (storeS 3 (.pointer (some ⟨x.nb,1,none⟩)) (.int .i64 n)) (TRep b t) (fun v=>HP.and (v = .tuple #[]) (TRep b (t.setN i (x.setL n)))) :=
 TRep.upd1 hi rfl rfl ((NRep.store (X:=HP.tt) (p':={ x.p with links:=n }) (a:=x.da) (c:=x.dc) (n:=0) (by kernel_rfl) rfl rfl (by decide) rfl rfl rfl rfl (fun R h H=>HP.sep_left H)).weak (fun _ _ H=>HP.sep_tt H) fun _ _ _ h=>h)
theorem dataStore (hi:t.ns[i]? = some x) (a:Option Addr) (c:Nat) (l:List UInt8):OTri Tryz.prog (storeS 28 (.pointer (some ⟨x.nb,2,none⟩)) (.slice a l.length c)) (HP.sep (TRep b t) (OwB a l.length c l)) (fun v=>HP.and (v = .tuple #[]) (TRep b (t.setN i (x.setD a c l)))) :=
 TRep.upd hi rfl rfl (NRep.store (p':={ x.p with data:=l }) (a:=a) (c:=c) (n:=0) (by kernel_rfl) rfl rfl (by decide) rfl rfl rfl rfl (fun R h H=>HP.sep_right H))
end Go.Proofs.YtdieogcemmnaaaaGreatDoor

namespace Go.Proofs.YtdieogcemmnaaaaGreatDoor
set_option linter.unusedSimpArgs false
set_option linter.unusedVariables false
open Go.Proofs.YtdieogcemmnaaaaGreatDoor RX
set_option maxRecDepth 100000
variable {b:Nat} {t:TS} {x y:HN} {i:Nat}
def insH (y:HN):List HN → List HN
 | []=>[y]
 | z :: r=>if z.p.num < y.p.num then z :: insH y r else y :: z :: r
def TS.insN (t:TS) (y:HN):TS:={ t with ns:=insH y t.ns }
def TS.dropN (t:TS) (k:Nat):TS:={ t with ns:=t.ns.filter fun z=>decide (z.p.num ≠ k) }
theorem insH_perm (y:HN) : ∀ ns,(insH y ns).Perm (y :: ns)
 | []=>List.Perm.refl _
 | z :: r=>by
  unfold insH
  split
  ·exact ((insH_perm y r).cons z).trans (List.Perm.swap y z r)
  ·exact List.Perm.refl _
theorem nodeV_ins (y:HN) (q:Int) : ∀ ns,nodeV (insH y ns) q=if q=y.p.num then some (.pointer (some ⟨y.nb,0,none⟩)) else nodeV ns q
 | []=>by
  unfold insH nodeV
  by_cases h:q=y.p.num
  ·subst h; simp
  ·simp [h,Ne.symm h]
 | z :: r=>by
  have ih:=nodeV_ins y q r
  unfold insH
  split
  ·rename_i h
   unfold nodeV at ih ⊢
   rw [List.find?_cons,List.find?_cons]
   by_cases e:(z.p.num:Int)=q
   ·have : ¬ q=y.p.num:=by omega
    simp [e,this]
   ·simp only [e,decide_false]
    exact ih
  ·unfold nodeV
   rw [List.find?_cons]
   by_cases e:q=y.p.num
   ·subst e; simp
   ·have : ¬ (y.p.num:Int)=q:=fun h=>e h.symm
    simp [e,this]
theorem nodeV_drop (k:Nat) (q:Int) : ∀ ns,nodeV (ns.filter fun z:HN=>decide (z.p.num ≠ k)) q=if q=k then none else nodeV ns q
 | []=>by simp [nodeV]
 | z :: r=>by
  have ih:=nodeV_drop k q r
  rw [List.filter_cons]
  by_cases h:z.p.num=k
  ·simp only [ne_eq,h,not_true_eq_false,decide_false,Bool.false_eq_true,if_false]
   simp only [ne_eq] at ih
   rw [ih]
   by_cases e:q=k
   ·simp [e]
   ·unfold nodeV
    rw [List.find?_cons]
    have : ¬ (z.p.num:Int)=q:=by omega
    simp [e,this]
  ·simp only [ne_eq,h,not_false_eq_true,decide_true,if_true]
   unfold nodeV at ih ⊢
   rw [List.find?_cons,List.find?_cons]
   by_cases e:(z.p.num:Int)=q
   ·have : ¬ q=k:=by omega
    simp [e,this]
   ·simp only [e,decide_false]
    simpa using ih
theorem nodePut (y:HN):OTri Tryz.prog (updS 123 (.map (some t.mb)) (.int .i64 y.p.num) (.pointer (some ⟨y.nb,0,none⟩))) (HP.sep (TRep b t) (NRep y)) (fun v=>HP.and (v = .tuple #[]) (TRep b (t.insN y))):=by
 have o:OTri Tryz.prog (updS 123 (.map (some t.mb)) (.int .i64 y.p.num) (.pointer (some ⟨y.nb,0,none⟩))) (NodM t) (fun v=>HP.and (v = .tuple #[]) (NodM (t.insN y))):=by
  refine OTri.exI fun l=>OTri.exI fun c=>OTri.pureI fun ⟨hI,hk⟩ => ?_
  refine (upd_ok (r:=t.mb) (l:=l) (c:=c) kInt' undNM (y.p.num:Int) (.pointer (some ⟨y.nb,0,none⟩))).weak (fun _ _ h=>h) ?_
  rintro v R h ⟨rfl,H⟩
  refine ⟨rfl,_,_,⟨hI.put (y.p.num:Int) _,fun q => ?_⟩,H⟩
  rw [alFind_put,hk]
  exact (nodeV_ins y q t.ns).symm
 refine (o.frame (HP.sep (TC b t) (HP.sep (sepN (t.ns.map NRep)) (NRep y)))).weak (fun R h H => ?_) ?_
 ·have H1:=HP.sep_assoc (HP.sep_mono H (fun _ h=>h) fun _ h=>h)
  have H2:(HP.sep (TC b t) (HP.sep (NodM t) (HP.sep (sepN (t.ns.map NRep)) (NRep y)))).p R h:=HP.sep_mono H1 (fun _ h=>h) fun z hz=>HP.sep_assoc hz
  exact HP.pick [_,_,_,_] [1,0,2,3] (by decide) rfl H2
 ·rintro v R h ⟨h1,h2,d,l1,l2,⟨e,H⟩,HR⟩
  refine ⟨e,?_⟩
  have H1:(HP.sep (TC b t) (HP.sep (NodM (t.insN y)) (HP.sep (sepN (t.ns.map NRep)) (NRep y)))).p R h:=HP.pick [_,_,_,_] [1,0,2,3] (by decide) rfl ⟨h1,h2,d,l1,l2,H,HR⟩
  refine HP.sep_mono H1 (fun _ h=>h) fun z hz=>HP.sep_mono hz (fun _ h=>h) fun q hq => ?_
  exact sepN_perm ((insH_perm y t.ns).symm.map NRep) (sepN_cons.2 (HP.sep_comm hq))
theorem sepN_filter (p:HN → Bool) : ∀ (l:List HN) {R h:PH},(sepN (l.map NRep)).p R h → (sepN ((l.filter p).map NRep)).p R h
 | [],_,_,H=>H
 | z :: r,R,h,H=>by
  have H1:=sepN_cons.1 H
  rw [List.filter_cons]
  split
  ·exact sepN_cons.2 (HP.sep_mono H1 (fun _ h=>h) fun q hq=>sepN_filter p r hq)
  ·exact sepN_filter p r (HP.sep_right H1)
theorem nodeDel (k:Nat) (ts:Array TypeId) (ty:TypeId) (h0:ts[0]? = some 123):OTri Tryz.prog (delS ts ty (.map (some t.mb)) (.int .i64 k)) (TRep b t) (fun v=>HP.and (v = .tuple #[]) (TRep b (t.dropN k))):=by
 have o:OTri Tryz.prog (delS ts ty (.map (some t.mb)) (.int .i64 k)) (NodM t) (fun v=>HP.and (v = .tuple #[]) (NodM (t.dropN k))):=by
  refine OTri.exI fun l=>OTri.exI fun c=>OTri.pureI fun ⟨hI,hk⟩ => ?_
  refine (del_ok (r:=t.mb) (l:=l) (c:=c) (ty:=ty) kInt' undNM (k:Int) ts h0).weak (fun _ _ h=>h) ?_
  rintro v R h ⟨rfl,H⟩
  refine ⟨rfl,_,_,⟨hI.del (k:Int),fun q => ?_⟩,H⟩
  rw [alFind_del _ _ _ hI.1,hk]
  exact (nodeV_drop k q t.ns).symm
 refine (o.frame (HP.sep (TC b t) (sepN (t.ns.map NRep)))).weak (fun R h H=>HP.pick [_,_,_] [1,0,2] (by decide) rfl H) ?_
 rintro v R h ⟨h1,h2,d,l1,l2,⟨e,H⟩,HR⟩
 refine ⟨e,?_⟩
 have H1:(HP.sep (TC b t) (HP.sep (NodM (t.dropN k)) (sepN (t.ns.map NRep)))).p R h:=HP.pick [_,_,_] [1,0,2] (by decide) rfl ⟨h1,h2,d,l1,l2,H,HR⟩
 exact HP.sep_mono H1 (fun _ h=>h) fun z hz=>HP.sep_mono hz (fun _ h=>h) fun q hq=>sepN_filter _ _ hq
theorem cpData (hi:t.ns[i]? = some x) {ty:TypeId} {o dl dc:Nat} {S:HP} {q:Option Addr} {m c2:Nat} {d:List UInt8} (hr:RdL S q m (d.map u8v)) (hl:d.length=m) (hm:m ≠ 0 → q.isSome=true) (hq:q=none → c2=0) (ha:x.da.isSome=true) (hfit:o + min m dl ≤ x.p.data.length) :
  OTri Tryz.prog (cpS #[28,28] ty (.slice (x.da.map fun z=>z.add o) dl dc) (.slice q m c2)) (HP.sep (TRep b t) S)
   (fun v=>HP.and (v = .int .i64 ((min m dl:Nat):Int)) (HP.sep (TRep b (t.setN i (x.setD x.da x.dc (x.p.data.take o ++ d.take (min m dl) ++ x.p.data.drop (o + min m dl))))) S)):=by
 obtain ⟨j,hj,h1,h2,h3⟩:=info_parts info8
 have cp:=cp_ok (sT:=28) (ty:=ty) undB8 hj h2 x.da x.p.data.length x.dc (x.p.data.map u8v) o dl dc S q m c2 (d.map u8v) hr (by simpa using hl) hm hq (u8v_one d) ha hfit
 have hlen:(x.p.data.take o ++ d.take (min m dl) ++ x.p.data.drop (o + min m dl)).length=x.p.data.length:=by
  simp only [List.length_append,List.length_take,List.length_drop,hl]; omega
 refine (cp.frame (HP.sep (TRest b t i) (HP.sep (NC x) (EntR x)))).weak (fun R h H => ?_) ?_
 ·have H1:=HP.sep_mono H (fun _ h=>TRep.focus hi h) fun _ h=>h
  have H2:(HP.sep (NC x) (HP.sep (OwB x.da x.p.data.length x.dc x.p.data) (HP.sep (EntR x) (HP.sep (TRest b t i) S)))).p R h:=by
   have:=HP.sep_assoc H1
   have:=HP.sep_assoc this
   exact HP.sep_mono this (fun _ h=>h) fun z hz=>HP.sep_assoc hz
  exact HP.sep_assoc' (HP.pick [_,_,_,_,_] [1,4,3,0,2] (by decide) rfl H2)
 ·rintro v R h ⟨k1,k2,kd,kl1,kl2,⟨e,H⟩,HR⟩
  refine ⟨e,?_⟩
  have H0:=HP.sep_assoc (⟨k1,k2,kd,kl1,kl2,H,HR⟩:(HP.sep _ _).p R h)
  have H1:=HP.pick [_,_,_,_,_] [3,0,4,2,1] (by decide) rfl H0
  rw [← List.map_take,← List.map_take,← List.map_drop,← List.map_append,← List.map_append] at H1
  have H2:=HP.sep_assoc' (HP.sep_mono H1 (fun _ h=>h) fun z hz=>HP.sep_assoc' hz)
  have H3:=HP.sep_assoc' H2
  refine HP.sep_mono H3 (fun z hz => ?_) fun _ h=>h
  refine TRep.unfocus hi (y:=x.setD x.da x.dc (x.p.data.take o ++ d.take (min m dl) ++ x.p.data.drop (o + min m dl))) rfl rfl (HP.sep_mono hz (fun w hw => ?_) fun _ h=>h)
  have e1:NC (x.setD x.da x.dc (x.p.data.take o ++ d.take (min m dl) ++ x.p.data.drop (o + min m dl)))=NC x:=by
   unfold NC HN.setD HN.mapo; simp only [hlen]
  have e2:EntR (x.setD x.da x.dc (x.p.data.take o ++ d.take (min m dl) ++ x.p.data.drop (o + min m dl)))=EntR x:=rfl
  unfold NRep
  rw [e1,e2]
  show (HP.sep (NC x) (HP.sep (OwB x.da (x.p.data.take o ++ d.take (min m dl) ++ x.p.data.drop (o + min m dl)).length x.dc _) (EntR x))).p R w
  rw [hlen]
  exact hw
def sizeD (l:List UInt8) (n:Nat):List UInt8:=l.take n ++ List.replicate (n - l.length) 0
theorem tResize_ok (hi:t.ns[i]? = some x) (n:Nat) (hn:n ≤ 100000):Tri Tryz.prog 131 #[.pointer (some ⟨x.nb,0,none⟩),.int .i64 n] (TRep b t) (fun v=>HP.ex fun a=>HP.ex fun c=>HP.and (v = .tuple #[] ∧ a.isSome=true) (TRep b (t.setN i (x.setD a c (sizeD x.p.data n))))):=by
 have hxm:x ∈ t.ns:=List.mem_of_getElem? hi
 refine Tri.fact (φ:=(x.p.data.length ≠ 0 → x.da.isSome=true) ∧ (x.da=none → x.dc=0)) (fun R h H => ?_) fun ⟨hsome,hnone⟩ => ?_
 ·have H1:=HP.sep_left (HP.sep_right (TRep.node H hxm))
  refine ⟨fun h=>OwC.some H1 (by omega),fun h => ?_⟩
  rcases H1.2 with ⟨_,_,h3⟩ | ⟨g,cur,h2,_⟩
  ·exact h3
  ·rw [h] at h2; cases h2
 refine tri_of_tree (ρ:=[.n x.nb,.p (TRep b t),.i n]) mixed Tryz.func131 tree_tResize ?_
 unfold t_tResize
 simp only [T.den,E.prop,E.den,RX.look,F1.app,F2.app,Uni.int_i,Uni.nat_n,Uni.bool_c,Uni.str_s,Uni.adr_a,Uni.val_v,Uni.hp_p,hden,cden,V.den,W.den,A.den,BR.den,SA.den,FV.den,capV,exs,exP,allP,Cur.app,List.map_cons,List.map_nil,List.cons_append,List.nil_append,List.drop_succ_cons,List.drop_zero,List.length_cons,List.length_nil,Nat.zero_add,Nat.reduceAdd,Int.neg_neg,Bool.not_not,List.append_nil,Nat.add_zero,List.getElem?_cons_zero,List.getElem?_cons_succ,Decidable.not_not,semW_eq,semW_load,semW_store,semW_storeC,ne_eq,Nat.reduceEqDiff,not_false_eq_true]
 obtain ⟨j,hj,z1,z2,z3⟩:=info_parts info8
 rw [semW_mk]
 refine (mk_ok undB8 hj z1 rfl z2 n (by rw [z3]; omega) (by unfold maxLen; omega) HP.tt).weak (fun _ _ h=>h) ?_
 rintro v R h ⟨g,rfl,H⟩
 have e0:List.replicate n (Value.int .u8 0)=(List.replicate n (0:UInt8)).map u8v:=by rw [List.map_replicate]; rfl
 rw [e0] at H
 refine ⟨some ⟨g,0,none⟩,n,n,OwB (some ⟨g,0,none⟩) n n (List.replicate n 0),rfl,⟨x.da,x.p.data.length,x.dc,ldData hxm,?_⟩,HP.sep_left H⟩
 clear H
 rw [semW_copy (by decide)]
 have cp:=cp_ok (sT:=28) (ty:=3) undB8 hj z2 (some ⟨g,0,none⟩) n n ((List.replicate n (0:UInt8)).map u8v) 0 n n (TRep b t) x.da x.p.data.length x.dc (x.p.data.map u8v) (rdData hxm) (by simp) hsome hnone (u8v_one _) rfl (by omega)
 simp only [Option.map_some,RX.addr_add,Nat.add_zero] at cp
 refine cp.weak (fun _ _ h=>h) ?_
 rintro v R h ⟨rfl,H⟩
 have e1:((List.replicate n (0:UInt8)).map u8v).take 0 ++ (x.p.data.map u8v).take (min x.p.data.length n) ++ ((List.replicate n (0:UInt8)).map u8v).drop (0 + min x.p.data.length n)=(sizeD x.p.data n).map u8v:=by
  unfold sizeD
  simp only [List.take_zero,List.nil_append,Nat.zero_add,← List.map_take,← List.map_drop,← List.map_append,List.drop_replicate]
  congr 2
  ·rcases Nat.le_total x.p.data.length n with h | h
   ·rw [Nat.min_eq_left h,List.take_of_length_le (Nat.le_refl _),List.take_of_length_le h]
   ·rw [Nat.min_eq_right h]
  ·congr 1; omega
 rw [e1] at H
 have hl:(sizeD x.p.data n).length=n:=by simp [sizeD]; omega
 refine ⟨_,OwB (some ⟨g,0,none⟩) n n (sizeD x.p.data n),rfl,?_,H⟩
 clear H
 have st:=dataStore (b:=b) hi (some ⟨g,0,none⟩) n (sizeD x.p.data n)
 rw [hl] at st
 refine st.weak (fun _ _ H=>H) ?_
 rintro v R h ⟨rfl,H⟩
 exact ⟨_,rfl,.of fun R h H=>⟨some ⟨g,0,none⟩,n,⟨trivial,rfl⟩,H⟩,H⟩
end Go.Proofs.YtdieogcemmnaaaaGreatDoor
