/- Texts of this claim, joined. No condition. -/
import Derived.Test.YtdieogcemmnaaaaGreatDoorJRJ1
import Derived.Test.YtdieogcemmnaaaaGreatDoorJRJ3
import Derived.Test.YtdieogcemmnaaaaGreatDoorJRJ4
import Derived.Test.YtdieogcemmnaaaaGreatDoorJRJ5
import Derived.Test.YtdieogcemmnaaaaGreatDoorJRJ6
import Derived.OpenShut
import Derived.ProofKit
import Derived.ShutString
import Derived.ChangeOld
import Derived.Below
import Derived.SizedLaws
import Derived.Lay
import Derived.LaidMore
import Derived.Test.YtdieogcemmnaaaaGreatDoorTie
import Derived.Test.YtdieogcemmnaaaaGreatDoorCards
import Derived.SevenTiedAt
set_option linter.unusedSimpArgs false
set_option linter.unusedVariables false
namespace Go.Proofs.YtdieogcemmnaaaaGreatDoor
set_option linter.unusedSimpArgs false
set_option linter.unusedVariables false
open Go.Proofs.YtdieogcemmnaaaaGreatDoor RX
set_option maxRecDepth 100000
theorem sameInts11_ok (a:Option Addr) (n c:Nat) (la:List Int) (b:Option Addr) (m d:Nat) (lb:List Int) (Sa Sb:HP) (hA:RdL Sa a n (la.map i64v)) (hB:RdL Sb b m (lb.map i64v)) (hla:la.length=n) (hlb:lb.length=m) (hn:n ≤ 1000000) :
  Tri Tryz.prog 49 #[.slice a n c,.slice b m d] (HP.sep Sa Sb) (fun v=>HP.and (v = .bool (decide (la=lb))) (HP.sep Sa Sb)):=by
 refine Tri.fact (φ:=(n ≠ 0 → a.isSome=true) ∧ (m ≠ 0 → b.isSome=true)) (fun R h H=>⟨hA.isSome (HP.sep_left H),hB.isSome (HP.sep_right H)⟩) fun ⟨ha,hb⟩ => ?_
 refine tri_of_tree (ρ:=[.a a,.n n,.n c,.p Sa,.a b,.n m,.n d,.p Sb]) mixed Tryz.func49 tree_sameInts11 ?_
 unfold t_sameInts11
 simp only [T.den,E.prop,E.den,RX.look,F1.app,F2.app,Uni.int_i,Uni.nat_n,Uni.bool_c,Uni.str_s,Uni.adr_a,Uni.val_v,Uni.hp_p,hden,cden,V.den,W.den,A.den,BR.den,SA.den,FV.den,capV,exs,exP,allP,Cur.app,List.map_cons,List.map_nil,List.cons_append,List.nil_append,List.drop_succ_cons,List.drop_zero,List.length_cons,List.length_nil,Nat.zero_add,Nat.reduceAdd,Int.neg_neg,Bool.not_not,List.append_nil,Nat.add_zero,List.getElem?_cons_zero,List.getElem?_cons_succ,Decidable.not_not,semW_eq,semW_load,ne_eq,Nat.reduceEqDiff,not_false_eq_true]
 refine ⟨fun h => .of fun R h' H=>⟨?_,H⟩,fun h => ?_⟩
 ·rw [decide_eq_false]
  intro e; subst e; omega
 have hnm:n=m:=by omega
 subst hnm
 refine ⟨fun _ i => ∃ k:Nat,i=k ∧ k ≤ n ∧ la.take k=lb.take k,fun _ i=>n - i.toNat,⟨0,rfl,Nat.zero_le _,rfl⟩,?_⟩
 rintro x _ ⟨k,rfl,hk,hpre⟩
 refine ⟨fun hlt=>⟨by omega,fun _=>⟨ha (by omega),fun _ => ?_⟩⟩,fun hge => .of fun R h' H=>⟨?_,H⟩⟩
 ·obtain ⟨x,hx⟩:=getN (l:=la) (k:=k) (by omega)
  obtain ⟨y,hy⟩:=getN (l:=lb) (k:=k) (by omega)
  have ra:ORead Tryz.prog (loadS 3 (.pointer (a.map fun y=>(y.add (k * 1)).add 0))) Sa (.int .i64 x):=load1_ok undIb aggI szI hA.rd (k:=k * 1) (off:=0) (by simp [hx,i64v])
  have rb:ORead Tryz.prog (loadS 3 (.pointer (b.map fun y=>(y.add (k * 1)).add 0))) Sb (.int .i64 y):=load1_ok undIb aggI szI hB.rd (k:=k * 1) (off:=0) (by simp [hy,i64v])
  refine ⟨x,ra,by omega,fun _=>⟨hb (by omega),fun _=>⟨y,rb,fun h1 => .of fun R h' H=>⟨?_,H⟩,fun h1=>⟨inI64D _ (by omega) (by omega),fun _=>⟨⟨k + 1,by omega,by omega,take_eq hx hy hpre (by simpa using h1)⟩,by dsimp only; omega⟩⟩⟩⟩⟩
  rw [decide_eq_false (get_ne hx hy h1)]
 ·have hke:k=n:=by omega
  subst hke
  rw [List.take_of_length_le (by omega),List.take_of_length_le (by omega)] at hpre
  rw [decide_eq_true hpre]
theorem one_int (b:Nat) (x:Int):RdL (HP.one b (.cells #[.int .i64 x] 3 (0,0))) (some ⟨b,0,none⟩) 1 ([x].map i64v):=⟨one_rd b #[.int .i64 x] 3,fun _ _ _ h=>by cases h⟩
def DeedE.hp (x:DeedE):HP:=HP.and (x.ans.names.length ≤ 1000000) (HP.both (RoB x.ca x.call.data.length x.call.data) (HP.both (RoB x.da x.ans.data.length x.ans.data) (RoS x.na x.ans.names.length x.ans.names)))
def kDeedP:PK DeedE where
 e:=88
 n:=17
 pos:=by decide
 vals:=DeedE.vals
 len:=DeedE.len
 one:=DeedE.one
 rep:=DeedE.hp
theorem deedAt {a:Option Addr} {n c:Nat} {es:List DeedE} {x:DeedE} (hx:x ∈ es) {R h:PH} (H:(PL kDeedP a n c es).p R h):x.hp.p R h:=sepN_mem (List.mem_map.2 ⟨x,hx,rfl⟩) (HP.sep_right H.2)
theorem DeedRd.pl {a:Option Addr} {n c:Nat} {es:List DeedE} (hl:es.length=n) (ha:n ≠ 0 → a.isSome=true) (hb : ∀ x ∈ es,x.ans.names.length ≤ 1000000):DeedRd (PL kDeedP a n c es) a n es where
 len:=hl
 is:=ha
 rd:=PL.rd (K:=kDeedP) a n c es
 cd x hx:=rdImp fun R h H=>(deedAt hx H).2.1
 ar x hx R h H:=⟨(deedAt hx H).2.2.1,(deedAt hx H).2.2.2⟩
 nb:=hb
theorem CellRd.pl {a:Option Addr} {n c:Nat} {es:List CellE} (hl:es.length=n) (ha:n ≠ 0 → a.isSome=true) (hb : ∀ x ∈ es,x.data.length ≤ x.dc ∧ (x.data.length ≠ 0 → x.da.isSome=true)):CellRd (PL kCellP a n c es) a n es where
 len:=hl
 is:=ha
 ld k x hx:=ldCellP hx
 rd x hx:=rdImp fun R h H=>(cellAt hx H).2
 le:=hb
theorem checkPL (ca:Option Addr) (cn cc:Nat) (ces:List CellE) (hcn:cn ≤ 1000) (a:Option Addr) (n c:Nat) (es:List DeedE) (hn:n ≤ 1000) (l:List Int) (hl:faultsS (es.map DeedE.p) (callsS ces)=l) :
  Tri Tryz.prog 47 #[.slice ca cn cc,.slice a n c] (HP.sep (PL kCellP ca cn cc ces) (PL kDeedP a n c es))
   (fun v=>HP.ex fun a'=>HP.ex fun c'=>HP.and (v = .slice a' l.length c') (HP.sep (OwI a' l.length c' l) (HP.sep (PL kCellP ca cn cc ces) (PL kDeedP a n c es)))):=by
 subst hl
 refine Tri.fact (φ:=(ces.length=cn ∧ (cn ≠ 0 → ca.isSome=true) ∧ ∀ x ∈ ces,x.data.length ≤ x.dc ∧ (x.data.length ≠ 0 → x.da.isSome=true)) ∧ es.length=n ∧ (n ≠ 0 → a.isSome=true) ∧ ∀ x ∈ es,x.ans.names.length ≤ 1000000)
  (fun R h H=>⟨⟨PL.len (HP.sep_left H),PL.isAt (HP.sep_left H),fun x hx=>(cellAt hx (HP.sep_left H)).1⟩,PL.len (HP.sep_right H),PL.isAt (HP.sep_right H),fun x hx=>(deedAt hx (HP.sep_right H)).1⟩) fun ⟨⟨h1,h2,h3⟩,h4,h5,h6⟩ => ?_
 refine (check_ok ca cn cc ces _ (CellRd.pl h1 h2 h3) hcn a n c es _ (DeedRd.pl h4 h5 h6) hn).weak (fun _ _ h=>h) ?_
 rintro v R h ⟨a',c',e,H⟩
 exact ⟨a',c',e,HP.pick [_,_,_] [2,0,1] (by decide) rfl H⟩
def logOf (k:Int) (x:CallP):LogM:=⟨1,0,0,k,0,-1,wrapS (callB x)⟩
def bytesOf (k:Int) (x:CallP):List UInt8:=wrapS (logB (logOf k x))
structure CallOk (x:CallP):Prop where
 k0:0 ≤ x.kind
 k1:x.kind ≤ 255
 p:x.path.length ≤ 300
 o:x.other.length ≤ 300
 d:x.data.length ≤ 600
 f:okI x.off
 n:okI x.n
theorem callOf_of {x:CallP} (h:CallOk x) (k:Nat) (hk:k ≤ 1000) (a:Option Addr) (c:Nat):callOf ⟨1,bytesOf k x,a,c⟩=some (idN k,x):=by
 have hp:=h.p; have ho:=h.o; have hd:=h.d
 have hl:(wrapS (callB x)).length ≤ 65506:=by
  rw [wrapS_len]; unfold callB; simp [lenB'_len,beN_len]; omega
 have hok:logOk (logOf k x)=true:=by
  unfold logOk logOf partOk
  simp
  omega
 unfold callOf
 rw [if_pos rfl]
 have e1:entD (bytesOf k x)=some (logOf k x):=log_round hok
 have e2:callD (logOf k x).pl=some x:=call_round h.k0 h.k1 hp ho (by omega) h.f.1 h.f.2 h.n.1 h.n.2
 simp only [e1,e2]
 rfl
theorem rDoRo {b B:Nat} {g:Nat → NodeE} {NS:List Nd} (hB:B ≤ 100000) (wf:TWf B NS) (hg:Rp g NS) (c:CallM) (hp:c.path.length ≤ 1000) (ho:c.other.length ≤ 1000) (S:HP) (d:List UInt8) (hd:CallD c S d) (hdl:c.dl ≤ 100000) {K:Int → Int → Int → Int → Option Addr → Nat → Nat → HP → Option Addr → Nat → Nat → HP → HP → Prop}
  (hK : ∀ g' da dc na nc,Rp g' (doC NS c d).1 → K (doC NS c d).2.err (doC NS c d).2.kind (doC NS c d).2.size (doC NS c d).2.links da (doC NS c d).2.data.length dc (RoB da (doC NS c d).2.data.length (doC NS c d).2.data) na (doC NS c d).2.names.length nc (RoS na (doC NS c d).2.names.length (doC NS c d).2.names) (RT b g')) :
  Tri Tryz.prog 23 #[.pointer (some ⟨b,0,none⟩),c.val] (HP.sep (RT b g) S) (fun v=>HP.ex fun e:Int=>HP.ex fun k:Int=>HP.ex fun s:Int=>HP.ex fun l:Int=>HP.ex fun da:Option Addr=>HP.ex fun dl:Nat=>HP.ex fun dc:Nat=>HP.ex fun dP:HP=>HP.ex fun na:Option Addr=>HP.ex fun nl:Nat=>HP.ex fun nc:Nat=>HP.ex fun nP:HP=>HP.ex fun tP:HP =>
   HP.and (v = .agg #[.int .i64 e,.int .i64 k,.int .i64 s,.int .i64 l,.slice da dl dc,.slice na nl nc]) (HP.and (K e k s l da dl dc dP na nl nc nP tP) (HP.sep dP (HP.sep nP (HP.sep tP S))))):=by
 refine (rDo_ok (b:=b) (off:=c.off) (n:=c.n) (dc:=c.dc) c.kind ⟨hB,wf,hg,hp,ho,hd.rd,hd.len,hdl,hd.some'⟩).post fun v => ?_
 rintro R h dj ⟨da,dc,na,nc,g',⟨rfl,h2⟩,H⟩
 obtain ⟨R1,h1,q1,q2,q3,q4,H1⟩:=((OwC.share _ _ _ _ _ _).sep2 ((OwC.share _ _ _ _ _ _).sep2 (HP.ent.refl (HP.sep (RT b g') S)))) R h dj H
 exact ⟨R1,h1,q1,q2,q3,q4,_,_,_,_,da,_,dc,_,na,_,nc,_,_,rfl,hK g' da dc na nc h2,H1⟩
theorem one_of_ow {e:TypeId} {b n:Nat} {xs:List Value} (hl:xs.length=n) {R h:PH} (H:(OwC e n (some ⟨b,0,none⟩) 1 1 xs).p R h):(HP.one b (.cells xs.toArray e (0,0))).p R h:=by
 rcases H.2 with ⟨h0,_⟩ | ⟨g,cur,e1,hg,_,_,q3,q4⟩
 ·cases h0
 ·cases e1
  show h b=_
  rw [hg]
  have:cur.toList=xs:=by rw [← q4,List.take_of_length_le (by rw [Array.length_toList,q3]; omega)]
  rw [← this]
theorem walk_time (T:List Nd) : ∀ (l:List Nm) (a:Nat),(walkS T a l).2 ≠ 30
 | [],a=>by unfold walkS; simp
 | nm :: r,a=>by
  unfold walkS
  repeat' split
  all_goals first | exact walk_time T r _ | simp
theorem find_time (T:List Nd) (s:Nm):(findS T s).2 ≠ 30:=by
 unfold findS
 split
 ·simp
 ·exact walk_time T _ _
theorem place_time (T:List Nd) (s:Nm):(placeS T s).2.2 ≠ 30:=by
 unfold placeS
 repeat' split
 all_goals first | exact find_time T _ | simp
theorem entry_time (T:List Nd) (s:Nm):(entryS T s).2.2.2 ≠ 30:=by
 unfold entryS
 repeat' split
 all_goals first | exact find_time T _ | simp
theorem file_time (T:List Nd) (s:Nm):(fileS T s).2 ≠ 30:=by
 unfold fileS
 repeat' split
 all_goals first | exact find_time T _ | simp
set_option maxHeartbeats 4000000 in
theorem doS_time {T:List Nd} {kind:Int} {p o:Nm} {off n:Int} {d:List UInt8}:(doS T kind p o off n d).2.err ≠ 30:=by
 have f1:=find_time T p
 have f2:=place_time T p
 have f3:=place_time T o
 have f4:=entry_time T p
 have f5:=file_time T p
 have mk:(makeS T kind p).2 ≠ 30:=by unfold makeS; (repeat' split) <;> first | (simp; done) | with_reducible exact f2
 have rm:(rmdirS T p).2 ≠ 30:=by unfold rmdirS; (repeat' split) <;> first | (simp; done) | with_reducible exact f4
 have ul:(unlinkS T p).2 ≠ 30:=by unfold unlinkS; (repeat' split) <;> first | (simp; done) | with_reducible exact f4
 have li:(linkS T p o).2 ≠ 30:=by unfold linkS; (repeat' split) <;> first | (simp; done) | with_reducible exact f5 | with_reducible exact f3
 have rn:(renameS T p o).2 ≠ 30:=by unfold renameS; (repeat' split) <;> first | (simp; done) | with_reducible exact f4 | with_reducible exact f3
 have wr:(writeS T p off d).2 ≠ 30:=by unfold writeS; (repeat' split) <;> first | (simp; done) | with_reducible exact f5
 have rd:(readS' T p off n).err ≠ 30:=by show (readS T p off n).1 ≠ 30; unfold readS; (repeat' split) <;> first | (simp; done) | with_reducible exact f5
 have ct:(cutS T p n).2 ≠ 30:=by unfold cutS; (repeat' split) <;> first | (simp; done) | with_reducible exact f5
 have st:(statS T p).err ≠ 30:=by unfold statS; (repeat' split) <;> first | (simp; done) | with_reducible exact f1
 have ls:(listS T p).err ≠ 30:=by unfold listS; (repeat' split) <;> first | (simp; done) | with_reducible exact f1
 unfold doS
 (repeat' split) <;> first | with_reducible assumption | (simp; done)
set_option maxHeartbeats 4000000 in
theorem doS_size {B:Nat} {T:List Nd} (hB:B ≤ 100000) (wf:TWf B T) {kind:Int} {p o:Nm} {off n:Int} {d:List UInt8}:0 ≤ (doS T kind p o off n d).2.size ∧ (doS T kind p o off n d).2.size ≤ 1000000:=by
 have st:0 ≤ (statS T p).size ∧ (statS T p).size ≤ 1000000:=by
  unfold statS
  split
  ·simp
  split
  ·simp
  ·rename_i x hx
   have h1:=(wf.at' hx).1.data
   have h2:=(wf.at' hx).1.efew
   simp only
   split <;> omega
 have ls:(listS T p).size=0:=by unfold listS; (repeat' split) <;> rfl
 have rd:(readS' T p off n).size=0:=rfl
 unfold doS
 (repeat' split) <;> first | with_reducible exact st | (rw [ls]; omega) | (rw [rd]; omega) | simp
theorem speaks21_ok:Tri Tryz.prog 45 #[] HP.tt (fun v=>HP.pure (v = .bool true)):=by
 refine tri_of_tree (ρ:=[]) mixed Tryz.func45 tree_speaks21 ?_
 unfold t_speaks21
 simp only [T.den,E.prop,E.den,RX.look,F1.app,F2.app,Uni.int_i,Uni.nat_n,Uni.bool_c,Uni.str_s,Uni.adr_a,Uni.val_v,Uni.hp_p,hden,cden,V.den,W.den,A.den,BR.den,SA.den,FV.den,capV,exs,exP,allP,Cur.app,List.map_cons,List.map_nil,List.cons_append,List.nil_append,List.drop_succ_cons,List.drop_zero,List.length_cons,List.length_nil,Nat.zero_add,Nat.reduceAdd,Int.neg_neg,Bool.not_not,List.append_nil,Nat.add_zero,List.getElem?_cons_zero,List.getElem?_cons_succ,Decidable.not_not,semW_eq,ne_eq,Nat.reduceEqDiff,not_false_eq_true]
 intro b
 let x:DeedE:=⟨(0,0,0),⟨0,[],[],0,0,[]⟩,none,0,0,3,⟨0,0,0,0,[],[]⟩,none,0,none,0⟩
 have e:faultsS [x.p] (callsS [])=[3]:=by
  have hl:lateS (jrun [x.p] js0 (callsS [])).first [x.p]=false:=by
   unfold lateS
   rw [@decide_eq_false_iff_not _ (Classical.propDecidable _)]
   rintro ⟨d,_,e,_,i,j,h,_⟩
   cases h
  unfold faultsS
  rw [hl]
  rfl
 refine (checkPL none 0 0 [] (by omega) (some ⟨b,0,none⟩) 1 1 [x] (by omega) [3] e).weak (fun R h H => ?_) ?_
 ·refine HP.sep_mono (HP.tt_sep H) (fun y _=>⟨rfl,HP.sep_tt (OwC.nil _ _ R y)⟩) fun y hy => ?_
  refine PL.lit (K:=kDeedP) b [x] (by decide) (HP.sep_mono (HP.sep_tt hy) (fun _ h=>h) fun z _ => ?_)
  exact ⟨by show (0:Nat) ≤ 1000000; omega,RoC.nil _ _ R z,RoC.nil _ _ R z,RoC.nil _ _ R z⟩
 rintro v R h ⟨a',c',rfl,H⟩
 refine ⟨a',1,c',OwI a' 1 c' [3],rfl,fun y => ?_,HP.sep_mono H (fun _ h=>h) fun z hz=>one_of_ow (n:=17) rfl (HP.sep_left (HP.sep_right hz).2)⟩
 clear H
 refine (sameInts11_ok a' 1 c' [3] (some ⟨y,0,none⟩) 1 1 [3] _ _ (RdL.ow _ _ _ _ _ _) (one_int y 3) rfl rfl (by omega)).weak (fun _ _ h=>h) ?_
 rintro v R h ⟨rfl,H⟩
 refine ⟨true,rfl,⟨fun _ => ?_,fun h=>absurd rfl h⟩,H⟩
 clear H
 refine (jNodes_ok none 0 0 [] HP.tt ⟨rfl,fun h=>absurd rfl h,fun k x h=>(by simp at h),fun x h=>(by cases h),fun x h=>(by cases h)⟩ (by omega)).weak (fun _ _ h=>h) ?_
 rintro v R h ⟨a2,c2,rfl,H⟩
 exact ⟨a2,_,c2,_,rfl,.of fun _ _ _=>rfl,HP.sep_right H⟩
end Go.Proofs.YtdieogcemmnaaaaGreatDoor

namespace Go.Proofs.YtdieogcemmnaaaaGreatDoor
set_option linter.unusedSimpArgs false
set_option linter.unusedVariables false
open Go.Proofs.YtdieogcemmnaaaaGreatDoor RX
set_option maxRecDepth 100000
def CallE.cp (x:CallE):CallP:=⟨x.kind,x.path,x.other,x.off,x.n,x.data⟩
theorem callRo {a:Option Addr} {n:Nat} {L:List CallE} {x:CallE} (hx:x ∈ L) {R h:PH} (H:(Ls kCall a n L).p R h):(RoB x.da x.data.length x.data).p R h:=(H.2.2 x hx).2.2.2.2.2.2
theorem callI {a:Option Addr} {n:Nat} {L:List CallE} {R h:PH} (H:(Ls kCall a n L).p R h) : ∀ x ∈ L,okI x.off ∧ okI x.n:=fun x hx=>⟨(H.2.2 x hx).2.2.2.1,(H.2.2 x hx).2.2.2.2.1⟩
theorem appDeed (a:Option Addr) (n c:Nat) (l:List DeedE) (q:Nat) (x:DeedE) (Q:HP) (hb:n ≤ 1000000000) :
  OTri Tryz.prog (appS 85 85 (.slice a n c) (.slice (some ⟨q,0,none⟩) 1 1)) (HP.sep (PL kDeedP a n c l) (HP.sep (HP.one q (.cells x.vals.toArray 88 (0,0))) (HP.sep x.hp Q)))
   (fun v=>HP.ex fun a'=>HP.ex fun c'=>HP.and (v = .slice a' (n + 1) c') (HP.sep (PL kDeedP a' (n + 1) c' (l ++ [x])) (HP.sep (HP.one q (.cells x.vals.toArray 88 (0,0))) Q))):=by
 obtain ⟨i,z,hi,hz,h1,h2,h3⟩:=infoD'
 exact PL.appK (K:=kDeedP) _ _ undDs hi hz h1 h2 (by omega) a n c l q x Q hb
theorem sepN_pers {α:Type} {f:α → HP} {R h:PH} : ∀ {l:List α},(∀ x ∈ l,∀ h',(f x).p R h') → (sepN (l.map f)).p R h
 | [],_=>trivial
 | x :: l,H=>sepN_cons.2 ⟨PH.none',h,PH.none_dj _,PH.none_le _,PH.le.refl _,H x (by simp) _,sepN_pers fun y hy=>H y (by simp [hy])⟩
theorem take_snoc {α:Type} {l:List α} {k:Nat} {x:α} (h:l[k]? = some x):l.take (k + 1)=l.take k ++ [x]:=by
 have hlt:=(List.getElem?_eq_some_iff.1 h).1
 rw [List.take_succ_eq_append_getElem hlt]
 rw [List.getElem?_eq_getElem hlt] at h
 rw [Option.some.inj h]
theorem trC_snoc {cs:List CallP} {k:Nat} {c:CallP} (h:cs[k]? = some c):trC (cs.take (k + 1))=nextT (trC (cs.take k)) c:=by
 rw [take_snoc h]; unfold trC; rw [List.foldl_append]; rfl
theorem modN (a:Int) (n:Nat) (hn:0 < n) : ∃ E:Nat,(bits .and .i64 a 65535).tmod (n:Int)=(E:Int) ∧ E < n:=by
 rw [andffff]
 have h0:0 ≤ a % 65536:=Int.emod_nonneg _ (by decide)
 refine ⟨((a % 65536).tmod n).toNat,?_,?_⟩
 ·rw [Int.toNat_of_nonneg (Int.tmod_nonneg _ h0)]
 ·have:=Int.tmod_lt_of_pos (a % 65536) (show (0:Int) < n by omega)
  have:=Int.tmod_nonneg n h0
  omega
end Go.Proofs.YtdieogcemmnaaaaGreatDoor

namespace Go.Proofs.YtdieogcemmnaaaaGreatDoor
open Go.Proofs.YtdieogcemmnaaaaGreatDoor RX
set_option maxRecDepth 100000
theorem flat_take' {α:Type} (f:α → List Value) (n:Nat) (hf : ∀ x,(f x).length=n) (l:List α) (j:Nat):(l.take j).flatMap f=(l.flatMap f).take (j * n):=by
 by_cases hj:j ≤ l.length
 ·have ht:l.flatMap f=(l.take j).flatMap f ++ (l.drop j).flatMap f:=by rw [← List.flatMap_append,List.take_append_drop]
  rw [ht,List.take_left' (by rw [flat_lenL f n hf,List.length_take,Nat.min_eq_left hj])]
 ·rw [List.take_of_length_le (by omega),List.take_of_length_le (by rw [flat_lenL f n hf]; exact Nat.mul_le_mul_right _ (by omega))]
theorem flat_drop' {α:Type} (f:α → List Value) (n:Nat) (hf : ∀ x,(f x).length=n) (l:List α) (j:Nat) (hj:j ≤ l.length):(l.drop j).flatMap f=(l.flatMap f).drop (j * n):=by
 have ht:l.flatMap f=(l.take j).flatMap f ++ (l.drop j).flatMap f:=by rw [← List.flatMap_append,List.take_append_drop]
 rw [ht,List.drop_left' (by rw [flat_lenL f n hf,List.length_take,Nat.min_eq_left hj])]
theorem flat_set' {α:Type} (f:α → List Value) (n:Nat) (hf : ∀ x,(f x).length=n) (l:List α) (k:Nat) (hk:k < l.length) (x:α):(l.set k x).flatMap f=(l.flatMap f).take (k * n) ++ f x ++ (l.flatMap f).drop (k * n + n):=by
 rw [List.set_eq_take_append_cons_drop,if_pos hk,List.flatMap_append,List.flatMap_cons,flat_take' f n hf,flat_drop' f n hf _ _ (by omega),List.append_assoc,Nat.add_mul,Nat.one_mul]
theorem stCell (a:Option Addr) (n c:Nat) (es:List CellE) (k:Nat) (hk:k < n) (x:CellE) (hx:x ∈ es) :
  OTri Tryz.prog (storeS 68 (.pointer (a.map fun y=>(y.add (k * 2)).add 0)) (.agg #[.int .i64 x.what,.slice x.da x.data.length x.dc])) (PL kCellP a n c es) (fun v=>HP.and (v = .tuple #[]) (PL kCellP a n c (es.set k x))):=by
 refine OTri.fact (φ:=es.length=n) (fun R h H=>PL.len H) fun hl => ?_
 obtain ⟨i,z,hi,h1,h2,h3,h4⟩:=info_pz infoCe
 refine ((store_ok hi 68 2 a n c (es.flatMap cellVs) (k * 2) 0 (.agg (cellVs x).toArray) (cellVs x) rfl (by rw [h3]; rfl) (Nat.succ_pos _) (kCellP.one x) (by show k * 2 + 0 + 2 ≤ n * 2; omega)).frame (sepN (es.map cellHp))).weak (fun R h H=>H.2) ?_
 intro v R h H
 obtain ⟨e,_⟩:=HP.sep_left H
 have hro : ∀ y ∈ es,∀ h',(cellHp y).p R h':=fun y hy h'=>cellHp_pers y R _ h' (sepN_mem (List.mem_map.2 ⟨y,hy,rfl⟩) (HP.sep_right H))
 refine ⟨e,by rw [List.length_set]; exact hl,⟨h,PH.none',PH.dj_none _,PH.le.refl _,PH.none_le _,?_,sepN_pers fun y hy => ?_⟩⟩
 ·have:=(HP.sep_left H).2
  rw [show (es.set k x).flatMap kCellP.vals=(es.flatMap cellVs).take (k * 2 + 0) ++ cellVs x ++ (es.flatMap cellVs).drop (k * 2 + 0 + (cellVs x).length) from flat_set' cellVs 2 (fun _=>rfl) es k (by omega) x]
  exact this
 ·rcases List.mem_or_eq_of_mem_set hy with h | h
  ·exact hro y h
  ·rw [h]; exact hro x hx
def DeedE.grow (x:DeedE):DeedE:={ x with ans:={ x.ans with size:=x.ans.size + 1 } }
theorem dvs_grow {es:List DeedE} {k:Nat} {x:DeedE} (hx:es[k]? = some x):dvs (es.set k x.grow)=(dvs es).take (k * 17 + 13) ++ [.int .i64 (x.ans.size + 1)] ++ (dvs es).drop (k * 17 + 13 + 1):=by
 have hk:=(List.getElem?_eq_some_iff.1 hx).1
 have hd:(dvs es).drop (k * 17)=x.vals ++ (dvs es).drop (k * 17 + 17):=by
  have h1:=flat_drop' DeedE.vals 17 DeedE.len es k (by omega)
  have h2:=flat_drop' DeedE.vals 17 DeedE.len es (k + 1) (by omega)
  rw [← h1,List.drop_eq_getElem_cons hk,List.flatMap_cons,h2]
  rw [List.getElem?_eq_getElem hk] at hx
  rw [Option.some.inj hx,show (k + 1) * 17=k * 17 + 17 by omega]
 have ht:(dvs es).take (k * 17 + 13)=(dvs es).take (k * 17) ++ x.vals.take 13:=by
  rw [List.take_add,hd,List.take_append_of_le_length (by rw [x.len]; omega)]
 have hr:(dvs es).drop (k * 17 + 13 + 1)=x.vals.drop 14 ++ (dvs es).drop (k * 17 + 17):=by
  rw [show k * 17 + 13 + 1=k * 17 + 14 by omega,← List.drop_drop,hd,List.drop_append_of_le_length (by rw [x.len]; omega)]
 rw [ht,hr,show dvs (es.set k x.grow)=(dvs es).take (k * 17) ++ x.grow.vals ++ (dvs es).drop (k * 17 + 17) from flat_set' DeedE.vals 17 DeedE.len es k hk x.grow]
 simp [DeedE.grow]
theorem stGrow (a:Option Addr) (n c:Nat) (es:List DeedE) (k:Nat) (x:DeedE) (hx:es[k]? = some x) :
  OTri Tryz.prog (storeS 3 (.pointer (a.map fun y=>(y.add (k * 17)).add 13)) (.int .i64 (x.ans.size + 1))) (PL kDeedP a n c es) (fun v=>HP.and (v = .tuple #[]) (PL kDeedP a n c (es.set k x.grow))):=by
 refine OTri.fact (φ:=es.length=n) (fun R h H=>PL.len H) fun hl => ?_
 have hk:=(List.getElem?_eq_some_iff.1 hx).1
 obtain ⟨i,hi,h1,h2,h3⟩:=info_parts infoInt
 refine ((store_ok hi 88 17 a n c (dvs es) (k * 17) 13 (.int .i64 (x.ans.size + 1)) [.int .i64 (x.ans.size + 1)] rfl (by rw [h2]; rfl) (Nat.succ_pos _) (fun v hv=>by simp at hv; subst hv; rfl) (by show k * 17 + 13 + 1 ≤ n * 17; omega)).frame (sepN (es.map DeedE.hp))).weak (fun R h H=>H.2) ?_
 intro v R h H
 obtain ⟨e,_⟩:=HP.sep_left H
 have hro : ∀ y ∈ es,∀ h',(y.hp).p R h':=fun y hy h'=>by
  have:=sepN_mem (List.mem_map.2 ⟨y,hy,rfl⟩) (HP.sep_right H)
  exact ⟨this.1,this.2.1,this.2.2.1,this.2.2.2⟩
 refine ⟨e,by rw [List.length_set]; exact hl,⟨h,PH.none',PH.dj_none _,PH.le.refl _,PH.none_le _,?_,sepN_pers fun y hy => ?_⟩⟩
 ·have:=(HP.sep_left H).2
  rw [show (es.set k x.grow).flatMap kDeedP.vals=_ from dvs_grow hx]
  exact this
 ·rcases List.mem_or_eq_of_mem_set hy with h | h
  ·exact hro y h
  ·rw [h]; exact hro x (List.mem_of_getElem? hx)
def junkE:CellE:=⟨2,[],none,0⟩
theorem junk_of:callOf junkE=none:=rfl
theorem appCell2 (a:Option Addr) (n c:Nat) (l:List CellE) (q:Nat) (d:List UInt8) (da:Option Addr) (dc:Nat) (h1:d.length ≤ dc) (h2:d.length ≠ 0 → da.isSome=true) (hb:n ≤ 1000000) :
  OTri Tryz.prog (appS 79 79 (.slice a n c) (.slice (some ⟨q,0,none⟩) 2 2)) (HP.sep (PL kCellP a n c l) (HP.sep (HP.one q (.cells #[.int .i64 2,.slice none 0 0,.int .i64 1,.slice da d.length dc] 68 (0,0))) (RoB da d.length d)))
   (fun v=>HP.ex fun a'=>HP.ex fun c'=>HP.and (v = .slice a' (n + 2) c') (HP.sep (PL kCellP a' (n + 2) c' (l ++ [junkE,⟨1,d,da,dc⟩])) (HP.sep (HP.one q (.cells #[.int .i64 2,.slice none 0 0,.int .i64 1,.slice da d.length dc] 68 (0,0))) (RoB da d.length d)))):=by
 refine OTri.fact (φ:=l.length=n) (fun R h H=>PL.len (HP.sep_left H)) fun hl => ?_
 obtain ⟨i,z,hi,i1,i2,i3,i4⟩:=info_pz infoCe
 have:=append_ok 79 79 68 i z undCs hi i1 (by rw [i2,i3]) (by omega) a n c (l.flatMap cellVs) (HP.one q (.cells #[.int .i64 2,.slice none 0 0,.int .i64 1,.slice da d.length dc] 68 (0,0))) ⟨q,0,none⟩ 2 2 [.int .i64 2,.slice none 0 0,.int .i64 1,.slice da d.length dc] (one_rd q _ _) (by rw [i3]; rfl)
  (fun u hu=>by simp only [List.mem_cons,List.not_mem_nil,or_false] at hu; rcases hu with rfl | rfl | rfl | rfl <;> rfl) (by unfold maxLen; omega) (by rw [i4]; omega)
 rw [i3] at this
 refine (this.frame (HP.sep (sepN (l.map cellHp)) (RoB da d.length d))).weak (fun R h H => ?_) ?_
 ·have H1:=HP.sep_assoc (HP.sep_mono H (fun _ h=>h.2) fun _ h=>h)
  exact HP.sep_assoc' (HP.pick [_,_,_,_] [0,2,1,3] (by decide) rfl H1)
 rintro v R h ⟨x1,x2,dj,l1,l2,⟨a',c',rfl,H1⟩,H2⟩
 have hro : ∀ y ∈ l ++ [junkE,⟨1,d,da,dc⟩],∀ h',(cellHp y).p R h':=fun y hy h'=>by
  rcases List.mem_append.1 hy with hy | hy
  ·exact cellHp_pers y R _ h' (sepN_mem (List.mem_map.2 ⟨y,hy,rfl⟩) (HP.sep_left H2))
  ·simp only [List.mem_cons,List.not_mem_nil,or_false] at hy
   rcases hy with rfl | rfl
   ·exact ⟨⟨Nat.le_refl _,fun h=>absurd rfl h⟩,RoC.nil _ _ R h'⟩
   ·have:=HP.sep_right H2
    exact ⟨⟨h1,h2⟩,this⟩
 refine ⟨a',c',rfl,?_⟩
 have H3:(HP.sep (HP.sep (OwC 68 2 a' (n + 2) c' (l.flatMap cellVs ++ [.int .i64 2,.slice none 0 0,.int .i64 1,.slice da d.length dc])) (HP.one q (.cells #[.int .i64 2,.slice none 0 0,.int .i64 1,.slice da d.length dc] 68 (0,0)))) (RoB da d.length d)).p R h:=⟨x1,x2,dj,l1,l2,H1,HP.sep_right H2⟩
 refine HP.sep_mono (HP.sep_assoc H3) (fun y hy=>⟨by simp [hl],?_⟩) fun _ h=>h
 have e:(l ++ [junkE,⟨1,d,da,dc⟩]).flatMap kCellP.vals=l.flatMap cellVs ++ [.int .i64 2,.slice none 0 0,.int .i64 1,.slice da d.length dc]:=by
  show (l ++ [junkE,⟨1,d,da,dc⟩]).flatMap cellVs=_
  simp [cellVs,junkE]
 rw [e]
 exact ⟨y,PH.none',PH.dj_none _,PH.le.refl _,PH.none_le _,hy,sepN_pers hro⟩
theorem checkRd (ca:Option Addr) (cn cc:Nat) (ces:List CellE) (P:HP) (cr:CellRd P ca cn ces) (hcn:cn ≤ 1000) (a:Option Addr) (n c:Nat) (es:List DeedE) (Q:HP) (dr:DeedRd Q a n es) (hn:n ≤ 1000) (l:List Int) (hl:faultsS (es.map DeedE.p) (callsS ces)=l) {K:Option Addr → Nat → Nat → HP → Prop} (hK : ∀ a' c',K a' l.length c' (OwI a' l.length c' l)) :
  Tri Tryz.prog 47 #[.slice ca cn cc,.slice a n c] (HP.sep P Q)
   (fun v=>HP.ex fun a'=>HP.ex fun n'=>HP.ex fun c'=>HP.ex fun p'=>HP.and (v = .slice a' n' c') (HP.and (K a' n' c' p') (HP.sep p' (HP.sep P Q)))):=by
 subst hl
 refine (check_ok ca cn cc ces P cr hcn a n c es Q dr hn).weak (fun _ _ h=>h) ?_
 rintro v R h ⟨a',c',e,H⟩
 exact ⟨a',_,c',_,e,hK a' c',HP.pick [_,_,_] [2,0,1] (by decide) rfl H⟩
theorem CellRd.at {ca:Option Addr} {cn cc:Nat} {ces:List CellE} {R h:PH} (H:(PL kCellP ca cn cc ces).p R h):CellRd (PL kCellP ca cn cc ces) ca cn ces:=CellRd.pl (PL.len H) (PL.isAt H) fun x hx=>(cellAt hx H).1
theorem DeedRd.at {a:Option Addr} {n c:Nat} {es:List DeedE} {R h:PH} (H:(PL kDeedP a n c es).p R h):DeedRd (PL kDeedP a n c es) a n es:=DeedRd.pl (PL.len H) (PL.isAt H) fun x hx=>(deedAt hx H).1
theorem CellRd.nil (P:HP) (a:Option Addr):CellRd P a 0 []:=⟨rfl,fun h=>absurd rfl h,fun k x h=>(by simp at h),fun x h=>(by cases h),fun x h=>(by cases h)⟩
theorem DeedRd.nil (P:HP) (a:Option Addr):DeedRd P a 0 []:=⟨rfl,fun h=>absurd rfl h,fun w R h F s a j u hj=>(by simp at hj),fun x h=>(by cases h),fun x h=>(by cases h),fun x h=>(by cases h)⟩
end Go.Proofs.YtdieogcemmnaaaaGreatDoor

namespace Go.Proofs.YtdieogcemmnaaaaGreatDoor
set_option linter.unusedSimpArgs false
set_option linter.unusedVariables false
open Go.Proofs.YtdieogcemmnaaaaGreatDoor RX
set_option maxRecDepth 100000
theorem swap_get {α:Type} {l:List α} {i k:Nat} {x y:α} (hx:l[i]? = some x) (hy:l[k]? = some y) (hik:i ≠ k):((l.set i y).set k x)[i]? = some y ∧ ((l.set i y).set k x)[k]? = some x ∧ ∀ j,j ≠ i → j ≠ k → ((l.set i y).set k x)[j]? = l[j]? := by
 have h1:=(List.getElem?_eq_some_iff.1 hx).1
 have h2:=(List.getElem?_eq_some_iff.1 hy).1
 refine ⟨?_,?_,fun j h3 h4 => ?_⟩
 ·rw [List.getElem?_set_ne (by omega),List.getElem?_set_self h1]
 ·rw [List.getElem?_set_self (by rw [List.length_set]; exact h2)]
 ·rw [List.getElem?_set_ne (by omega),List.getElem?_set_ne (by omega)]
structure Alt (ces:List CellE) (L:List (IdM × CallP)):Prop where
 len:ces.length=2 * L.length
 even : ∀ j,j < L.length → (ces[2 * j]?).bind callOf=none
 odd : ∀ j,j < L.length → (ces[2 * j + 1]?).bind callOf=L[j]?
theorem Alt.calls : ∀ {L:List (IdM × CallP)} {ces:List CellE},Alt ces L → callsS ces=L
 | [],ces,h=>by
  have:=h.len
  have e:ces=[]:=List.eq_nil_of_length_eq_zero (by simpa using this)
  rw [e]; rfl
 | y :: L,ces,h=>by
  match ces,h with
  | [],h=>have:=h.len; simp at this
  | [_],h=>have:=h.len; simp at this; omega
  | x :: z :: r,h =>
   have e0:callOf x=none:=by simpa using h.even 0 (by simp)
   have e1:callOf z=some y:=by simpa using h.odd 0 (by simp)
   have hr:Alt r L:=⟨by have:=h.len; simp at this; omega,fun j hj=>by
     have:=h.even (j + 1) (by simpa using hj)
     rwa [show 2 * (j + 1)=2 * j + 1 + 1 by omega,List.getElem?_cons_succ,List.getElem?_cons_succ] at this,fun j hj=>by
     have:=h.odd (j + 1) (by simpa using hj)
     rwa [show 2 * (j + 1) + 1=2 * j + 1 + 1 + 1 by omega,List.getElem?_cons_succ,List.getElem?_cons_succ,List.getElem?_cons_succ] at this⟩
   have ih:=hr.calls
   unfold callsS at ih ⊢
   rw [List.filterMap_cons_none e0,List.filterMap_cons_some e1,ih]
theorem Alt.snoc {ces:List CellE} {L:List (IdM × CallP)} (h:Alt ces L) {x z:CellE} {y:IdM × CallP} (hx:callOf x=none) (hz:callOf z=some y):Alt (ces ++ [x,z]) (L ++ [y]) where
 len:=by have:=h.len; simp; omega
 even j hj:=by
  rw [List.length_append,List.length_singleton] at hj
  rcases Nat.lt_or_eq_of_le (Nat.le_of_lt_succ hj) with h1 | h1
  ·rw [List.getElem?_append_left (by have:=h.len; omega)]; exact h.even j h1
  ·rw [List.getElem?_append_right (by have:=h.len; omega),show 2 * j - ces.length=0 by have:=h.len; omega]; exact hx
 odd j hj:=by
  rw [List.length_append,List.length_singleton] at hj
  rcases Nat.lt_or_eq_of_le (Nat.le_of_lt_succ hj) with h1 | h1
  ·rw [List.getElem?_append_left (by have:=h.len; omega),List.getElem?_append_left h1]; exact h.odd j h1
  ·rw [List.getElem?_append_right (by have:=h.len; omega),show 2 * j + 1 - ces.length=1 by have:=h.len; omega,List.getElem?_append_right (by omega),show j - L.length=0 by omega]; exact hz
theorem Alt.swap {ces:List CellE} {L:List (IdM × CallP)} (h:Alt ces L) {i k:Nat} {x y:CellE} {p q:IdM × CallP} (hx:ces[2 * i + 1]? = some x) (hy:ces[2 * k + 1]? = some y) (hp:L[i]? = some p) (hq:L[k]? = some q) (hik:i ≠ k):Alt ((ces.set (2 * i + 1) y).set (2 * k + 1) x) ((L.set i q).set k p):=by
 have hi:=(List.getElem?_eq_some_iff.1 hp).1
 have hk:=(List.getElem?_eq_some_iff.1 hq).1
 obtain ⟨s1,s2,s3⟩:=swap_get hx hy (by omega)
 obtain ⟨t1,t2,t3⟩:=swap_get hp hq hik
 have ox:callOf x=some p:=by have:=h.odd i hi; rw [hx,hp] at this; exact this
 have oy:callOf y=some q:=by have:=h.odd k hk; rw [hy,hq] at this; exact this
 refine ⟨by simpa using h.len,fun j hj => ?_,fun j hj => ?_⟩
 ·simp only [List.length_set] at hj
  rw [s3 _ (by omega) (by omega)]; exact h.even j hj
 ·simp only [List.length_set] at hj
  by_cases e1:j=i
  ·subst e1; rw [s1,t1]; exact oy
  by_cases e2:j=k
  ·subst e2; rw [s2,t2]; exact ox
  rw [s3 _ (by omega) (by omega),t3 _ e1 e2]; exact h.odd j hj
theorem swap_nodup {L:List (IdM × CallP)} (hn:(L.map (·.1)).Nodup) {i k:Nat} {p q:IdM × CallP} (hp:L[i]? = some p) (hq:L[k]? = some q) (hik:i ≠ k):(((L.set i q).set k p).map (·.1)).Nodup:=by
 obtain ⟨t1,t2,t3⟩:=swap_get hp hq hik
 have hu : ∀ (a b:Nat) (x y:IdM × CallP),L[a]? = some x → L[b]? = some y → x.1=y.1 → a=b:=fun a b x y ha hb e=>by
  obtain ⟨h1,rfl⟩:=List.getElem?_eq_some_iff.1 ha
  obtain ⟨h2,rfl⟩:=List.getElem?_eq_some_iff.1 hb
  have:=(List.getElem_inj (h₀:=by rw [List.length_map]; exact h1) (h₁:=by rw [List.length_map]; exact h2) hn).1 (by rw [List.getElem_map,List.getElem_map]; exact e)
  exact this
 let σ:Nat → Nat:=fun j=>if j=i then k else if j=k then i else j
 have hs : ∀ j,((L.set i q).set k p)[j]? = L[σ j]? := fun j=>by
  show _=L[if j=i then k else if j=k then i else j]?
  by_cases e1:j=i
  ·subst e1; rw [if_pos rfl,t1,hq]
  by_cases e2:j=k
  ·subst e2; rw [if_neg e1,if_pos rfl,t2,hp]
  rw [if_neg e1,if_neg e2,t3 _ e1 e2]
 have inj : ∀ a b,σ a=σ b → a=b:=fun a b h=>by
  have h':(if a=i then k else if a=k then i else a)=(if b=i then k else if b=k then i else b):=h
  split at h' <;> split at h' <;> (repeat' split at h') <;> omega
 refine nodup_get fun a b x ha hb => ?_
 rw [List.getElem?_map,hs] at ha hb
 cases h1:L[σ a]? with
 | none=>rw [h1] at ha; cases ha
 | some u =>
  cases h2:L[σ b]? with
  | none=>rw [h2] at hb; cases hb
  | some w =>
   rw [h1] at ha; rw [h2] at hb
   simp only [Option.map_some,Option.some.injEq] at ha hb
   exact inj a b (hu _ _ u w h1 h2 (by rw [ha,hb]))
theorem faults_len (ds:List DeedP) (L:List (IdM × CallP)):(faultsS ds L).length ≤ 5:=by
 have : ∀ a b c d e,(flagsL a b c d e).length ≤ 5:=by decide
 exact this _ _ _ _ _
theorem checkRs (ca:Option Addr) (cn cc:Nat) (ces:List CellE) (P:HP) (cr:CellRd P ca cn ces) (hcn:cn ≤ 1000) (a:Option Addr) (n c:Nat) (es:List DeedE) (Q:HP) (dr:DeedRd Q a n es) (hn:n ≤ 1000) (l:List Int) (hl:faultsS (es.map DeedE.p) (callsS ces)=l) {K:Option Addr → Nat → Nat → HP → Prop} (hK : ∀ a' c',(l.length ≠ 0 → a'.isSome=true) → K a' l.length c' (OwI a' l.length c' l)) :
  Tri Tryz.prog 47 #[.slice ca cn cc,.slice a n c] (HP.sep P Q)
   (fun v=>HP.ex fun a'=>HP.ex fun n'=>HP.ex fun c'=>HP.ex fun p'=>HP.and (v = .slice a' n' c') (HP.and (K a' n' c' p') (HP.sep p' (HP.sep P Q)))):=by
 subst hl
 refine (check_ok ca cn cc ces P cr hcn a n c es Q dr hn).weak (fun _ _ h=>h) ?_
 rintro v R h ⟨a',c',e,H⟩
 have H':=HP.pick [_,_,_] [2,0,1] (by decide) rfl H
 exact ⟨a',_,c',_,e,hK a' c' fun hn=>OwC.some (HP.sep_left H') (Nat.pos_of_ne_zero hn),H'⟩
theorem stCellX (a:Option Addr) (n c:Nat) (es:List CellE) (k:Nat) (hk:k < n) (x:CellE) :
  OTri Tryz.prog (storeS 68 (.pointer (a.map fun y=>(y.add (k * 2)).add 0)) (.agg #[.int .i64 x.what,.slice x.da x.data.length x.dc])) (HP.sep (cellHp x) (PL kCellP a n c es)) (fun v=>HP.and (v = .tuple #[]) (PL kCellP a n c (es.set k x))):=by
 refine OTri.fact (φ:=es.length=n) (fun R h H=>PL.len (HP.sep_right H)) fun hl => ?_
 obtain ⟨i,z,hi,h1,h2,h3,h4⟩:=info_pz infoCe
 refine ((store_ok hi 68 2 a n c (es.flatMap cellVs) (k * 2) 0 (.agg (cellVs x).toArray) (cellVs x) rfl (by rw [h3]; rfl) (Nat.succ_pos _) (kCellP.one x) (by show k * 2 + 0 + 2 ≤ n * 2; omega)).frame (HP.sep (sepN (es.map cellHp)) (cellHp x))).weak (fun R h H => ?_) ?_
 ·exact HP.sep_assoc (HP.sep_mono (HP.sep_comm H) (fun _ h=>h.2) fun _ h=>h)
 intro v R h H
 obtain ⟨e,_⟩:=HP.sep_left H
 have hro : ∀ y ∈ es,∀ h',(cellHp y).p R h':=fun y hy h'=>cellHp_pers y R _ h' (sepN_mem (List.mem_map.2 ⟨y,hy,rfl⟩) (HP.sep_left (HP.sep_right H)))
 have hxo : ∀ h',(cellHp x).p R h':=fun h'=>cellHp_pers x R _ h' (HP.sep_right (HP.sep_right H))
 refine ⟨e,by rw [List.length_set]; exact hl,⟨h,PH.none',PH.dj_none _,PH.le.refl _,PH.none_le _,?_,sepN_pers fun y hy => ?_⟩⟩
 ·have:=(HP.sep_left H).2
  rw [show (es.set k x).flatMap kCellP.vals=(es.flatMap cellVs).take (k * 2 + 0) ++ cellVs x ++ (es.flatMap cellVs).drop (k * 2 + 0 + (cellVs x).length) from flat_set' cellVs 2 (fun _=>rfl) es k (by omega) x]
  exact this
 ·rcases List.mem_or_eq_of_mem_set hy with h | h
  ·exact hro y h
  ·rw [h]; exact hxo
theorem stCellK (a:Option Addr) (n c:Nat) (es:List CellE) (k:Nat) (hk:k < n) (x:CellE) (hx:x ∈ es) (y:CellE) (hy:y ∈ es) :
  OTri Tryz.prog (storeS 68 (.pointer (a.map fun y=>(y.add (k * 2)).add 0)) (.agg #[.int .i64 x.what,.slice x.da x.data.length x.dc])) (PL kCellP a n c es) (fun v=>HP.and (v = .tuple #[]) (HP.sep (cellHp y) (PL kCellP a n c (es.set k x)))):=by
 refine ((stCell a n c es k hk x hx).frame (cellHp y)).weak (fun R h H=>⟨h,PH.none',PH.dj_none _,PH.le.refl _,PH.none_le _,H,cellHp_pers y R _ _ (cellAt hy H)⟩) ?_
 rintro v R h H
 obtain ⟨e,_⟩:=HP.sep_left H
 exact ⟨e,HP.sep_mono (HP.sep_comm H) (fun _ h=>h) fun _ h=>h.2⟩
set_option maxHeartbeats 8000000 in
theorem judgeRight_ok (a:Option Addr) (n c:Nat) (L:List CallE) (z y:Int):Tri Tryz.prog 12 #[.slice a n c,.int .i64 z,.int .i64 y] (Ls kCall a n L) (fun v=>HP.pure (v = .bool true)):=by
 refine Tri.fact (φ:=L.length=n ∧ (n ≠ 0 → a.isSome=true) ∧ dataAt L ∧ ∀ x ∈ L,okI x.off ∧ okI x.n) (fun R h H=>⟨H.1,fun hn=>Ls.some H hn,dataAt_of H,callI H⟩) fun ⟨hl,ha,hL,hI⟩ => ?_
 refine tri_of_tree (ρ:=[.a a,.n n,.n c,.p (Ls kCall a n L),.i z,.i y]) mixed Tryz.func12 tree_judgeRight ?_
 unfold t_judgeRight
 simp (maxSteps:=3000000) only [T.den,E.prop,E.den,RX.look,F1.app,F2.app,Uni.int_i,Uni.nat_n,Uni.bool_c,Uni.str_s,Uni.adr_a,Uni.val_v,Uni.hp_p,hden,cden,V.den,W.den,A.den,BR.den,SA.den,FV.den,capV,exs,exP,allP,Cur.app,List.map_cons,List.map_nil,List.cons_append,List.nil_append,List.drop_succ_cons,List.drop_zero,List.length_cons,List.length_nil,Nat.zero_add,Nat.reduceAdd,Int.neg_neg,Bool.not_not,List.append_nil,Nat.add_zero,List.getElem?_cons_zero,List.getElem?_cons_succ,Decidable.not_not,semW_eq,semW_load,semW_store,semW_storeC,semW_append,ne_eq,Nat.reduceEqDiff,not_false_eq_true]
 refine speaks21_ok.weak (fun _ _ _=>trivial) ?_
 rintro v R h rfl
 refine ⟨true,rfl,⟨fun h=>by simp at h,fun _ => ?_⟩,trivial⟩
 refine (great04_ok a n c L).weak (fun _ _ h=>h) ?_
 rintro v R h ⟨rfl,H⟩
 refine ⟨greatB L,rfl,⟨fun _ => .of fun R h H=>trivial,fun hg => ?_⟩,H⟩
 clear H
 refine ⟨fun _ => .of fun R h H=>trivial,fun h40 => ?_⟩
 have h40':n ≤ 40:=by omega
 refine rNew_ok.weak (fun _ _ h=>trivial) ?_
 rintro v R h ⟨b,rfl,H⟩
 refine ⟨b,RT b g0,rfl,?_,H⟩
 clear H
 intro b9 b10
 let cs:List CallP:=L.map CallE.cp
 have hcl:cs.length=n:=by show (L.map _).length=n; rw [List.length_map]; exact hl
 let be:Nat → Int:=fun k=>2 * (k:Int)
 let en:Nat → Int:=fun k=>2 * (k:Int) + 1
 have hbe : ∀ i j,i < cs.length → j < cs.length → en j < be i → j ≤ i:=fun i j hi hj h=>by
  have h':2 * (j:Int) + 1 < 2 * (i:Int):=h
  omega
 refine ⟨fun _ ca cn cc da dn dc i P19 P20 P21 => ∃ (k:Nat) (ces:List CellE) (es:List DeedE) (g:Nat → NodeE),i=k ∧ k ≤ n ∧ cn=2 * k ∧ k=dn ∧ Alt ces ((logL cs).take k) ∧ es.map DeedE.p=(dsL be en cs).take k ∧ Rp g (trC (cs.take k)) ∧ TWf (k + 1) (trC (cs.take k)) ∧ (k ≠ 0 → ca.isSome=true) ∧
  HP.ent P19 (PL kDeedP da k dc es) ∧ HP.ent P20 (PL kCellP ca (2 * k) cc ces) ∧ P21=RT b g ∧ CellRd P20 ca (2 * k) ces ∧ DeedRd P19 da k es ∧ (∀ j,j ≤ k → TWf (j + 1) (trC (cs.take j))) ∧ (k ≠ 0 → P19=PL kDeedP da k dc es ∧ P20=PL kCellP ca (2 * k) cc ces),fun _ _ _ _ _ _ _ i _ _ _=>n - i.toNat,⟨0,[],[],g0,rfl,Nat.zero_le _,rfl,rfl,⟨rfl,fun j hj=>(by simp at hj),fun j hj=>(by simp at hj)⟩,rfl,g0_rp,newT_wf,fun h=>absurd rfl h,.of fun R h H=>PL.zero (K:=kDeedP) b10 H,.of fun R h H=>PL.zero (K:=kCellP) b9 H,rfl,CellRd.nil _ _,DeedRd.nil _ _,fun j hj=>(by obtain rfl:j=0:=Nat.le_zero.1 hj; exact newT_wf),fun h=>absurd rfl h⟩,?_⟩
 rintro f0 ca _ cc da _ dc _ P19 P20 _ ⟨k,ces,es,g,rfl,hk,rfl,rfl,alt,hes,rp,wf,hca,hD,hC,rfl,crd,drd,hTW,hX⟩
 refine ⟨fun hlt=>⟨by omega,fun _=>⟨ha (by omega),fun _ => ?_⟩⟩,fun hge => ?_⟩
 ·obtain ⟨x,hx⟩ : ∃ x,L[k]? = some x:=⟨_,List.getElem?_eq_getElem (by omega)⟩
  have hxm:=List.mem_of_getElem? hx
  have hcx:cs[k]? = some x.cp:=by show (L.map _)[k]? = _; rw [List.getElem?_map,hx]; rfl
  have nxt:IntKind.i64.min ≤ (k:Int) + 1 ∧ (k:Int) + 1 ≤ IntKind.i64.max:=inI64D _ (by omega) (by omega)
  refine ⟨x.kind,x.path,x.other,x.off,x.n,x.da,x.data.length,x.dc,loadCall hx,fun q => ?_⟩
  refine ⟨fun _ => .of fun R h H=>trivial,fun g1=>⟨fun _ => .of fun R h H=>trivial,fun g2=>⟨fun _ => .of fun R h H=>trivial,fun g3=>⟨fun _ => .of fun R h H=>trivial,fun g4=>⟨fun _ => .of fun R h H=>trivial,fun g5=>fun qb => ?_⟩⟩⟩⟩⟩
  have cok:CallOk x.cp:=⟨by show 0 ≤ x.kind; omega,by show x.kind ≤ 255; omega,(great_x hg x hxm).1,(great_x hg x hxm).2.1,(great_x hg x hxm).2.2,(hI x hxm).1,(hI x hxm).2⟩
  have hlog:(logL cs)[k]? = some (idN k,x.cp):=by rw [logL_get,hcx]; rfl
  have hdk:(dsL be en cs)[k]? = some ⟨idN k,x.cp,be k,en k,ansOf (trC (cs.take k)) x.cp⟩:=by rw [dsL_get,hcx]; rfl
  refine ⟨fun a' n' c' P => ∃ w:CellE,n'=2 * k + 2 ∧ callOf w=some (idN k,x.cp) ∧ a'.isSome=true ∧ CellRd P a' (2 * k + 2) (ces ++ [junkE,w]) ∧ P=PL kCellP a' (2 * k + 2) c' (ces ++ [junkE,w]),?_,?_⟩
  ·have p1:=cok.p; have p2:=cok.o; have p3:=cok.d
   have hlen:(wrapS (callB x.cp)).length ≤ 10000000:=by
    rw [wrapS_len]; unfold callB; simp [lenB'_len,beN_len]; omega
   have sE : ∀ {K:Option Addr → Nat → Nat → HP → Prop},(∀ a1 c1,((wrapS (callB x.cp)).length ≠ 0 → a1.isSome=true) → K a1 (wrapS (callB x.cp)).length c1 (OwB a1 (wrapS (callB x.cp)).length c1 (wrapS (callB x.cp)))) → Tri Tryz.prog 46 #[.agg #[.int .i64 x.kind,.string ⟨x.path.toArray⟩,.string ⟨x.other.toArray⟩,.int .i64 x.off,.int .i64 x.n,.slice x.da x.data.length x.dc]] (Ls kCall a n L)
     (fun v=>HP.ex fun a'=>HP.ex fun n'=>HP.ex fun c'=>HP.ex fun p'=>HP.and (v = .slice a' n' c') (HP.and (K a' n' c' p') (HP.sep p' (Ls kCall a n L)))):=fun {K} hK=>by
    refine (r5Encode_ok x.cp x.da x.dc (Ls kCall a n L) (callD_of hL hxm).rd (hL x hxm) (by omega)).weak (fun _ _ h=>h) ?_
    rintro v R h ⟨a1,c1,rfl,H⟩
    exact ⟨a1,_,c1,_,rfl,hK a1 c1 fun hn=>OwC.some (HP.sep_left H) (Nat.pos_of_ne_zero hn),H⟩
   have sB : ∀ (a1:Option Addr) (c1:Nat) {K:Option Addr → Nat → Nat → HP → Prop},((wrapS (callB x.cp)).length ≠ 0 → a1.isSome=true) → (∀ a2 c2,(bytesOf k x.cp).length ≤ c2 → ((bytesOf k x.cp).length ≠ 0 → a2.isSome=true) → K a2 (bytesOf k x.cp).length c2 (RoB a2 (bytesOf k x.cp).length (bytesOf k x.cp))) →
     Tri Tryz.prog 39 #[.agg #[.int .i64 1,.int .i64 0,.int .i64 0,.int .i64 (k:Int),.int .i64 0,.int .i64 (-1),.slice a1 (wrapS (callB x.cp)).length c1]] (OwB a1 (wrapS (callB x.cp)).length c1 (wrapS (callB x.cp)))
     (fun v=>HP.ex fun a'=>HP.ex fun n'=>HP.ex fun c'=>HP.ex fun p'=>HP.and (v = .slice a' n' c') (HP.and (K a' n' c' p') (HP.sep p' (OwB a1 (wrapS (callB x.cp)).length c1 (wrapS (callB x.cp)))))):=fun a1 c1 K hs1 hK=>by
    refine (r7Bytes_ok (logOf k x.cp) a1 c1 _ (RdL.ow _ _ _ _ _ _) hs1 (by show (wrapS (callB x.cp)).length ≤ _; omega)).post fun v => ?_
    rintro R h d ⟨a2,c2,rfl,H⟩
    have hc2:=OwC.le (HP.sep_left H)
    have hs2:(bytesOf k x.cp).length ≠ 0 → a2.isSome=true:=fun hn=>OwC.some (HP.sep_left H) (Nat.pos_of_ne_zero hn)
    obtain ⟨R1,h1,q1,q2,q3,q4,H1⟩:=(HP.ent.sep (OwC.share _ _ _ _ _ _) _) R h d H
    exact ⟨R1,h1,q1,q2,q3,q4,a2,_,c2,_,rfl,hK a2 c2 hc2 hs2,H1⟩
   have sA : ∀ (qq:Nat) (a2:Option Addr) (c2:Nat) {K:Option Addr → Nat → Nat → HP → Prop},(bytesOf k x.cp).length ≤ c2 → ((bytesOf k x.cp).length ≠ 0 → a2.isSome=true) → (∀ a3 c3,(∃ w:CellE,2 * k + 2=2 * k + 2 ∧ callOf w=some (idN k,x.cp) ∧ a3.isSome=true ∧ CellRd (PL kCellP a3 (2 * k + 2) c3 (ces ++ [junkE,⟨1,bytesOf k x.cp,a2,c2⟩])) a3 (2 * k + 2) (ces ++ [junkE,w]) ∧ PL kCellP a3 (2 * k + 2) c3 (ces ++ [junkE,⟨1,bytesOf k x.cp,a2,c2⟩])=PL kCellP a3 (2 * k + 2) c3 (ces ++ [junkE,w])) → K a3 (2 * k + 2) c3 (PL kCellP a3 (2 * k + 2) c3 (ces ++ [junkE,⟨1,bytesOf k x.cp,a2,c2⟩]))) →
     OTri Tryz.prog (appS 79 79 (.slice ca (2 * k) cc) (.slice (some ⟨qq,0,none⟩) 2 2)) (HP.sep P20 (HP.sep (HP.one qq (.cells #[.int .i64 2,.slice none 0 0,.int .i64 1,.slice a2 (bytesOf k x.cp).length c2] 68 (0,0))) (RoB a2 (bytesOf k x.cp).length (bytesOf k x.cp))))
     (fun v=>HP.ex fun a'=>HP.ex fun n'=>HP.ex fun c'=>HP.ex fun p'=>HP.and (v = .slice a' n' c') (HP.and (K a' n' c' p') (HP.sep p' (HP.sep (HP.one qq (.cells #[.int .i64 2,.slice none 0 0,.int .i64 1,.slice a2 (bytesOf k x.cp).length c2] 68 (0,0))) (RoB a2 (bytesOf k x.cp).length (bytesOf k x.cp)))))):=fun qq a2 c2 K e1 e2 hK=>by
    refine OTri.preL ((appCell2 ca (2 * k) cc ces qq (bytesOf k x.cp) a2 c2 e1 e2 (by omega)).weak (fun _ _ h=>h) ?_) (hC.sep _)
    rintro v R h ⟨a3,c3,rfl,H⟩
    exact ⟨a3,_,c3,_,rfl,hK a3 c3 ⟨⟨1,bytesOf k x.cp,a2,c2⟩,rfl,callOf_of cok k (by omega) a2 c2,PL.isAt (HP.sep_left H) (Nat.succ_ne_zero _),CellRd.at (HP.sep_left H),rfl⟩,H⟩
   repeat' (first
    | with_reducible (intro (_:Nat))
    | with_reducible (refine And.intro ?_ ?_)
    | with_reducible (refine sE fun _ _ _ => ?_)
    | with_reducible (refine sB _ _ ‹_› fun _ _ _ _ => ?_)
    | with_reducible (refine sA _ _ _ ‹_› ‹_› fun _ _ h => ?_)
    | exact h
    | assumption
    | fail)
  rintro ca' _ cc' _ ⟨w,rfl,hw,hca',crd',rfl⟩
  refine ⟨inI64D _ (by omega) (by omega),fun _=>⟨inI64D _ (by omega) (by omega),fun _ => ?_⟩⟩
  have wf':TWf (k + 1 + 1) (trC (cs.take (k + 1))):=by rw [trC_snoc hcx]; exact wf.do (by omega) _ _ _ _ _ _
  have hnl:=(doS_len wf (by omega) (kind:=x.m.kind) (p:=x.m.path) (o:=x.m.other) (off:=x.m.off) (n:=x.m.n) (d:=x.data)).2
  refine rDoRo (by omega) wf rp x.m (by have:=cok.p; show x.path.length ≤ 1000; exact Nat.le_trans this (by decide)) (by have:=cok.o; show x.other.length ≤ 1000; exact Nat.le_trans this (by decide)) (Ls kCall a n L) x.data (callD_of hL hxm) (by have:=cok.d; show x.data.length ≤ 100000; exact Nat.le_trans this (by decide)) fun g' da2 dc2 na2 nc2 h2 => ?_
  have er:(doC (trC (cs.take k)) x.m x.data).2=ansOf (trC (cs.take k)) x.cp:=rfl
  have hnl':(ansOf (trC (cs.take k)) x.cp).names.length ≤ 1000000:=hnl
  rw [er]
  intro qd
  refine OTri.preL ((appDeed da _ dc es qd ⟨idN k,x.cp,x.da,x.dc,2 * (k:Int),2 * (k:Int) + 1,ansOf (trC (cs.take k)) x.cp,da2,dc2,na2,nc2⟩ (HP.sep (Ls kCall a n L) (HP.sep (RoB da2 (ansOf (trC (cs.take k)) x.cp).data.length (ansOf (trC (cs.take k)) x.cp).data) (RoS na2 (ansOf (trC (cs.take k)) x.cp).names.length (ansOf (trC (cs.take k)) x.cp).names))) (by omega)).weak (fun R h H=>HP.sep_mono H (fun _ h=>h) fun y hy=>HP.sep_mono hy (fun _ h=>h) fun u hu => ?_) ?_) (hD.sep _)
  ·have r0:=callRo hxm (HP.sep_left hu)
   have r1:=HP.sep_left (HP.sep_right hu)
   have r2:=HP.sep_right (HP.sep_right hu)
   exact ⟨PH.none',u,PH.none_dj _,PH.none_le _,PH.le.refl _,⟨hnl',r0,r1,r2⟩,hu⟩
  rintro v R h ⟨da3,dc3,rfl,H⟩
  have drd':=DeedRd.at (HP.sep_left H)
  refine ⟨da3,_,dc3,_,rfl,⟨nxt,fun _=>⟨⟨k + 1,_,_,g',by omega,by omega,by omega,rfl,?_,?_,?_,wf',fun _=>hca',.refl _,.refl _,rfl,crd',drd',fun j hj => ?_,fun _=>⟨rfl,rfl⟩⟩,by dsimp only; omega⟩⟩,H⟩
  ·rw [take_snoc hlog]; exact alt.snoc junk_of hw
  ·rw [List.map_append,hes,take_snoc hdk]; rfl
  ·rw [trC_snoc hcx]; exact h2
  ·rcases Nat.lt_or_eq_of_le hj with h | h
   ·exact hTW j (by omega)
   ·rw [h]; exact wf'
 obtain rfl:k=n:=by omega
 have hcs:cs.length=k:=hcl
 rw [List.take_of_length_le (by rw [logL_len]; omega)] at alt
 rw [List.take_of_length_le (by rw [dsL_len]; omega)] at hes
 rw [List.take_of_length_le (by omega)] at rp wf
 have hcal:=alt.calls
 have f0:faultsS (es.map DeedE.p) (callsS ces)=[]:=by
  rw [hes,hcal]
  exact faults_right hbe
 refine checkRd ca (2 * k) cc ces P20 crd (by omega) da k dc es P19 drd (by omega) [] f0 fun a1 c1=>⟨fun h=>absurd rfl h,fun _ => ?_⟩
 have htr:treeOf newT (callsS ces)=trC cs:=by
  rw [hcal]
  have:=logL_tree cs cs.length
  rw [List.take_of_length_le (by rw [logL_len]; exact Nat.le_refl _),List.take_of_length_le (Nat.le_refl _)] at this
  exact this
 refine (jNodes_ok ca (2 * k) cc ces P20 crd (by omega)).weak (fun _ _ h=>h) ?_
 rintro v R h ⟨a2,c2,rfl,H⟩
 rw [htr] at H ⊢
 obtain ⟨ns,hns,H⟩ : ∃ ns:List NodeE,ns.map (·.nd)=trC cs ∧ (HP.sep (Ls kNode a2 (trC cs).length ns) P20).p R h:=by
  obtain ⟨x1,x2,dj,l1,l2,H1,ns,hns,H2⟩:=H
  exact ⟨ns,hns,x2,x1,dj.symm,l2,l1,H2,H1⟩
 refine ⟨a2,_,c2,_,rfl,?_,H⟩
 clear H
 refine (rAll_ok wf rp).weak (fun _ _ h=>h) ?_
 rintro v R h ⟨a3,c3,ms,⟨rfl,hms⟩,H⟩
 refine ⟨a3,_,c3,_,rfl,?_,H⟩
 clear H
 have hfew:=few_nodes wf
 refine (sameNodes_ok a2 _ c2 ns a3 _ c3 ms (esBN (by omega) wf hns) (by omega)).weak (fun _ _ h=>h) ?_
 rintro v R h ⟨rfl,H⟩
 refine ⟨_,rfl,⟨fun h=>absurd (by rw [hns,hms]; simp) h,fun _=>⟨fun _ => .of fun R h H=>trivial,fun h2=>⟨by omega,fun hk0 => ?_⟩⟩⟩,H⟩
 clear H
 have hn0:k ≠ 0:=by omega
 obtain ⟨rfl,rfl⟩:=hX hn0
 obtain ⟨E,hE,hEn⟩:=modN z k (by omega)
 obtain ⟨F,hF,hFn⟩:=modN y k (by omega)
 rw [hE,hF]
 refine ⟨fun hEF => ?_,fun hEF => ?_⟩
 ·obtain ⟨d,hd⟩ : ∃ x,es[E]? = some x:=⟨_,List.getElem?_eq_getElem (by have:=drd.len; omega)⟩
  have hdm:=List.mem_of_getElem? hd
  have hdp:(dsL be en cs)[E]? = some d.p:=by rw [← hes,List.getElem?_map,hd]; rfl
  obtain ⟨ce,hce⟩ : ∃ x,cs[E]? = some x:=⟨_,List.getElem?_eq_getElem (by omega)⟩
  have hdp2:=hdp
  rw [dsL_get,hce] at hdp2
  have hdp3:DeedP.mk (idN E) ce (be E) (en E) (ansOf (trC (cs.take E)) ce)=d.p:=Option.some.inj hdp2
  have hans:d.ans=ansOf (trC (cs.take E)) ce:=(congrArg DeedP.ans hdp3).symm
  have hcall:d.p.call=ce:=(congrArg DeedP.call hdp3).symm
  have hen:d.p.en=en E:=(congrArg DeedP.en hdp3).symm
  have hwE:TWf (E + 1) (trC (cs.take E)):=hTW E (by omega)
  have hsz:=doS_size (by omega) hwE (kind:=ce.kind) (p:=ce.path) (o:=ce.other) (off:=ce.off) (n:=ce.n) (d:=ce.data)
  have hsz':0 ≤ d.ans.size ∧ d.ans.size ≤ 1000000:=by rw [hans]; exact hsz
  have hti:d.ans.err ≠ 30:=by rw [hans]; exact doS_time
  have hl1:ORead Tryz.prog (loadS 3 (.pointer (da.map fun y=>(y.add (E * 17)).add 13))) (PL kDeedP da k dc es) (.int .i64 d.ans.size) :=
   load1_ok undIb aggI szI (PL.rd (K:=kDeedP) da k dc es) (k:=E * 17) (off:=13) ((dvs_get hd (by decide)).trans rfl)
  refine ⟨by omega,fun _=>⟨by omega,fun _=>⟨drd.is hn0,fun _=>⟨d.ans.size,hl1,inI64D _ (by omega) (by omega),fun _ => ?_⟩⟩⟩⟩
  refine (stGrow da k dc es E d hd).weak (fun _ _ h=>h) ?_
  rintro v R h ⟨rfl,H⟩
  have drd':=DeedRd.at H
  refine ⟨_,rfl,?_,H⟩
  clear H
  have f4:faultsS ((es.set E d.grow).map DeedE.p) (callsS ces)=[4]:=by
   rw [hcal]
   have hgp:((es.set E d.grow).map DeedE.p)[E]? = some d.grow.p:=by
    rw [List.getElem?_map,List.getElem?_set_self (List.getElem?_eq_some_iff.1 hd).1]; rfl
   refine faults_wrong (be:=be) (en:=en) ⟨by rw [List.length_map,List.length_set,drd.len]; exact hcs.symm,fun j x hj => ?_⟩ hbe hgp ?_ ?_
   ·rw [List.getElem?_map] at hj
    by_cases e:j=E
    ·subst e
     rw [List.getElem?_set_self (List.getElem?_eq_some_iff.1 hd).1] at hj
     obtain rfl:=Option.some.inj hj
     exact (dsL_ok be en cs).at' j d.p hdp
    ·rw [List.getElem?_set_ne (fun h=>e h.symm),← List.getElem?_map,hes] at hj
     exact (dsL_ok be en cs).at' j x hj
   ·unfold DeedP.ansd
    rw [Bool.and_eq_true,decide_eq_true_eq,decide_eq_true_eq]
    refine ⟨?_,hti⟩
    show 0 ≤ d.p.en
    rw [hen]
    show (0:Int) ≤ 2 * (E:Int) + 1
    omega
   ·intro h
    have h':=congrArg AnsM.size h
    have h2:d.ans.size + 1=(ansOf (trC (cs.take E)) d.p.call).size:=h'
    rw [hcall,← hans] at h2
    omega
  refine checkRd ca (2 * k) cc ces _ crd (by omega) da k dc (es.set E d.grow) _ drd' (by omega) [4] f4 fun a4 c4 q3 => ?_
  refine (sameInts11_ok a4 1 c4 [4] (some ⟨q3,0,none⟩) 1 1 [4] _ _ (RdL.ow _ _ _ _ _ _) (one_int q3 4) rfl rfl (by omega)).weak (fun _ _ h=>h) ?_
  rintro v R h ⟨rfl,H⟩
  exact ⟨true,rfl,.of fun _ _ _=>rfl,H⟩
 ·have hne:E ≠ F:=fun e=>hEF (by rw [e])
  obtain ⟨ce,hce⟩ : ∃ x,cs[E]? = some x:=⟨_,List.getElem?_eq_getElem (by omega)⟩
  obtain ⟨cf,hcf⟩ : ∃ x,cs[F]? = some x:=⟨_,List.getElem?_eq_getElem (by omega)⟩
  have hcl2:ces.length=2 * k:=crd.len
  obtain ⟨x,hx⟩ : ∃ x,ces[2 * E + 1]? = some x:=⟨_,List.getElem?_eq_getElem (by omega)⟩
  obtain ⟨w,hw⟩ : ∃ x,ces[2 * F + 1]? = some x:=⟨_,List.getElem?_eq_getElem (by omega)⟩
  have hxm:=List.mem_of_getElem? hx
  have hwm:=List.mem_of_getElem? hw
  have tE:(2 * (E:Int) + 1).toNat=2 * E + 1:=by omega
  have tF:(2 * (F:Int) + 1).toNat=2 * F + 1:=by omega
  refine ⟨inI64D _ (by omega) (by omega),fun _=>⟨inI64D _ (by omega) (by omega),fun _=>⟨inI64D _ (by omega) (by omega),fun _=>⟨inI64D _ (by omega) (by omega),fun _=>⟨by omega,fun _=>⟨by omega,fun _=>⟨hca hn0,fun _ => ?_⟩⟩⟩⟩⟩⟩⟩
  rw [tE,tF]
  refine ⟨w.what,w.da,w.data.length,w.dc,ldCellP hw,by omega,fun _=>⟨by omega,fun _=>⟨x.what,x.da,x.data.length,x.dc,ldCellP hx,?_⟩⟩⟩
  refine (stCellK ca (2 * k) cc ces (2 * E + 1) (by omega) w hwm x hxm).weak (fun _ _ h=>h) ?_
  rintro v R h ⟨rfl,H⟩
  refine ⟨_,rfl,?_,H⟩
  clear H
  refine (stCellX ca (2 * k) cc (ces.set (2 * E + 1) w) (2 * F + 1) (by omega) x).weak (fun _ _ h=>h) ?_
  rintro v R h ⟨rfl,H⟩
  have crd2:=CellRd.at H
  refine ⟨_,rfl,?_,H⟩
  clear H
  have lE:(logL cs)[E]? = some (idN E,ce):=by rw [logL_get,hce]; rfl
  have lF:(logL cs)[F]? = some (idN F,cf):=by rw [logL_get,hcf]; rfl
  have alt2:=alt.swap hx hw lE lF hne
  have nd2:=swap_nodup (logL_nodup cs) lE lF hne
  obtain ⟨s1,s2,_⟩:=swap_get lE lF hne
  have hcal2:=alt2.calls
  have hd0 : ∀ (j:Nat) (c0:CallP),cs[j]? = some c0 → (dsL be en cs)[j]? = some ⟨idN j,c0,be j,en j,ansOf (trC (cs.take j)) c0⟩:=fun j c0 h=>by rw [dsL_get,h]; rfl
  have an0 : ∀ (j:Nat) (c0:CallP),(DeedP.mk (idN j) c0 (be j) (en j) (ansOf (trC (cs.take j)) c0)).ansd=true:=fun j c0=>by
   unfold DeedP.ansd
   rw [Bool.and_eq_true,decide_eq_true_eq,decide_eq_true_eq]
   refine ⟨?_,doS_time⟩
   show (0:Int) ≤ 2 * (j:Int) + 1
   omega
  obtain ⟨l,hl5⟩ : ∃ l,faultsS (es.map DeedE.p) (callsS ((ces.set (2 * E + 1) w).set (2 * F + 1) x))=l ++ [5]:=by
   rw [hes,hcal2]
   rcases Nat.lt_or_gt_of_ne hne with h | h
   ·exact faults_late (dsL_ok be en cs) nd2 (hd0 E ce hce) (hd0 F cf hcf) (an0 E ce) h (by show 2 * (E:Int) + 1 < 2 * (F:Int); omega) s2 s1
   ·exact faults_late (dsL_ok be en cs) nd2 (hd0 F cf hcf) (hd0 E ce hce) (an0 F cf) h (by show 2 * (F:Int) + 1 < 2 * (E:Int); omega) s1 s2
  have hl6:=faults_len (es.map DeedE.p) (callsS ((ces.set (2 * E + 1) w).set (2 * F + 1) x))
  rw [hl5] at hl6
  have hl7:(l ++ [5]).length=l.length + 1:=by simp
  refine checkRs ca (2 * k) cc _ _ crd2 (by omega) da k dc es _ drd (by omega) (l ++ [5]) hl5 fun a4 c4 hs4 => ?_
  have t5:(((l ++ [5]).length:Int) - 1).toNat=l.length:=by omega
  refine ⟨fun _=>⟨inI64D _ (by omega) (by omega),fun _=>⟨by omega,fun _=>⟨by omega,fun _=>⟨hs4 (by omega),fun _=>⟨5,?_,.of fun _ _ _=>rfl⟩⟩⟩⟩⟩,fun h=>absurd (by omega) h⟩
  rw [t5]
  exact load1_ok undIb aggI szI (RdL.ow _ _ _ _ _ _).rd (k:=l.length * 1) (off:=0) (by simp; rfl)
end Go.Proofs.YtdieogcemmnaaaaGreatDoor

namespace Go.Proofs.YtdieogcemmnaaaaGreatDoor
open Go.Proofs.YtdieogcemmnaaaaGreatDoor RX
open Go.ChangeShapes Go.WideShapes Go.ChangeAt Go.RowKit
set_option maxRecDepth 100000
theorem fours_name:Tryz.prog.globalNamed "tideline/check.fours" = some 0:=by kernel_rfl
theorem fours_type:(Tryz.prog.globals[(0:Nat)]?).map (·.type)=some 316:=by kernel_rfl
theorem cells32:Tryz.prog.cellsOf 243=1:=by kernel_rfl
theorem gr_of {w:World} {x:String × DataW Unit} {r:List (String × DataW Unit)} {ps:List MemPlace} (h:DataW.LaidVars Tryz.prog w (x :: ("tideline/check.fours",Rows.laid_tideline_check_fours) :: r) ps):GR (allOf w):=by
 obtain ⟨_,_,_,_,_,q1,_,_,_,_,h2,_⟩:=h
 obtain ⟨g,t,cs,fuel,p,q,hg,ht,hv,htr,_,_⟩:=h2
 rw [fours_name] at hg
 cases hg
 rw [fours_type] at ht
 cases ht
 unfold World.var? at hv
 rw [fours_name] at hv
 simp only [Option.bind_some] at hv
 obtain ⟨ty,fr,hh⟩ : ∃ ty fr,w.heap[(0:Nat)]? = some (.cells cs ty fr):=by
  split at hv
  ·rename_i c ty fr e; cases hv; exact ⟨ty,fr,e⟩
  ·cases hv
 refine ⟨cs,ty,fr,hh,fun i v hi => ?_⟩
 obtain ⟨xs,m,_,hx,hl,hn,hel⟩:=DataW.trod_array undF htr
 have hi16:i < 16:=(List.getElem?_eq_some_iff.1 hi).1
 have hd:xs.map (·.1)=fours.map fun n:Nat=>DataW.lit (.int .u32 ((n:Nat):Int)):=by
  have:=congrArg Prod.fst hx
  unfold Rows.laid_tideline_check_fours at this
  injection this with this
  exact this.symm
 have h1:=hel i hi16
 rw [cells32,Nat.mul_one] at h1
 have h3:(xs.map (·.1))[i]? = some (DataW.lit (.int .u32 (v:Int))):=by rw [hd,List.getElem?_map,hi]; rfl
 rw [List.getElem?_map] at h3
 obtain ⟨y,hy,hy2⟩:=Option.map_eq_some_iff.1 h3
 rw [hy] at h1
 obtain ⟨z,hz,hz2,_⟩:=DataW.trod_int und32 h1
 rw [hz2] at hy2
 have e:z=(v:Int):=by
  injection hy2 with e
  injection e
 subst e
 have h5:(List.take 1 (cs.toList.drop i))[0]? = some (Value.int .u32 (v:Int)):=by rw [hz]; rfl
 rw [List.getElem?_take,if_pos (by decide),List.getElem?_drop,Nat.add_zero] at h5
 simpa using h5
end Go.Proofs.YtdieogcemmnaaaaGreatDoor

namespace Go.Proofs.YtdieogcemmnaaaaGreatDoor
open Go.RowKit Go.ChangeShapes Go.WideShapes Go.Deep RX
set_option maxRecDepth 100000 in
theorem judgeRight_walk {H:Type} (enc:TypeId × Value → H) (base:Nat) (v0 v1 v2:Value) (w:World)
  (k0:Value.okWide Tryz.prog w .any base 22 v0) (h0 : ∃ d p,DataW.Trod enc Tryz.prog w 0 (fun _=>true) true 22 v0 d p ∧ Small Tryz.prog 22 d)
  (k1:Value.okWide Tryz.prog w .any base 3 v1) (h1 : ∃ d p,DataW.Trod enc Tryz.prog w 0 (fun _=>true) true 3 v1 d p ∧ Small Tryz.prog 3 d)
  (k2:Value.okWide Tryz.prog w .any base 3 v2) (h2 : ∃ d p,DataW.Trod enc Tryz.prog w 0 (fun _=>true) true 3 v2 d p ∧ Small Tryz.prog 3 d) (hG:GR (allOf w)) :
  Calls Tryz.prog 12 #[v0,v1,v2] w fun e w'=>e = .returned (.bool true) ∧ Below w.heap.size w w':=by
 obtain ⟨a0,l0,c0,rfl,b0,z0⟩:=slice_open kCallE Tryz.underlying22 (by kernel_rfl) (of_decide_eq_true (by kernel_rfl)) CallE.of_trod k0 h0
 obtain ⟨n1,rfl,r1⟩:=int_openR k1 h1
 obtain ⟨n2,rfl,r2⟩:=int_openR k2 h2
 exact Tri.run (judgeRight_ok a0 l0.length c0 l0 n1 n2) (z0 _) hG
end Go.Proofs.YtdieogcemmnaaaaGreatDoor

namespace Go.Proofs.YtdieogcemmnaaaaGreatDoor.judgeRight
open Go.ChangeShapes Go.WideShapes Go.ChangeAt Go.RowKit
set_option linter.unusedVariables false
theorem own:ownKnob Tryz.prog.godebug=none:=by kernel_rfl
theorem laidOut:laidOutB Tryz.prog=true:=by kernel_rfl
def laidL:List (String × DataW Unit):=[("unicode/utf8.acceptRanges",Rows.laid_unicode_utf8_acceptRanges),("tideline/check.fours",Rows.laid_tideline_check_fours),("unicode/utf8.first",Rows.laid_unicode_utf8_first)]
set_option maxRecDepth 100000 in
theorem plainL (w:World):laidMetH Tryz.prog laidL w=laidMet Tryz.prog laidL w:=MakeChecks.laidMetH_plain _ _ _ (by kernel_rfl)
set_option maxRecDepth 100000 in
theorem door_met (os:Os) (args:Array Value):laidMetH Tryz.prog laidL ((World.laidAll Tryz.prog os laidL).forCall (fun _ _=>0) ⟨#[],args,[]⟩).memory:=by
 rw [plainL]
 exact laidMet_laidAll _ (by kernel_rfl) (by kernel_rfl)
end Go.Proofs.YtdieogcemmnaaaaGreatDoor.judgeRight

namespace Go.Proofs.YtdieogcemmnaaaaGreatDoor.judgeRight
open Go.ChangeShapes Go.WideShapes Go.ChangeAt Go.RowKit
set_option linter.unusedVariables false
set_option maxRecDepth 100000 in
theorem lifted (os:Os) (started:os.Started) (H:Type) (enc:TypeId × Value → H) :
  ReturnsInHanded {} Tryz.checked os 12 .any (fun w args=>(Rows.judgeRightSpec.pre enc Tryz.prog Tryz.f12 [] false w args ∧ laidMetH Tryz.prog laidL w) ∧ sizedMet enc Tryz.prog Tryz.f12 (OpenSpec.ofChange Rows.judgeRightSpec) false w args) (Rows.judgeRightSpec.post enc Tryz.prog Tryz.f12 false true false false):=by
 refine returnsInHanded_of_change_and (C:=Tryz.checked) (X:=fun w _=>laidMetH Tryz.prog laidL w) (fun _ _ _ hh h=>h.of_heap hh) own started (by kernel_rfl) Tryz.func12
  (ChangeSpec.witness_shaped (enc:=enc) (C:=Tryz.checked) (os:=os) (X:=fun w _=>laidMetH Tryz.prog laidL w) false (World.laidAll Tryz.prog os laidL) #[.slice none 0 0,.int .i64 0,.int .i64 0] 8 (World.laidAll_os _ _ _) (World.shaped_of_ZipB (by kernel_rfl) (by kernel_rfl)) (by kernel_rfl) (by kernel_rfl) (by kernel_rfl) (door_met os _)) ?_
 intro W base args ds gs before hval0 hW hcnd hsz0 hX _
 have hG:GR (allOf W):=by rw [plainL] at hX; obtain ⟨_,hv,_⟩:=hX; exact gr_of hv
 have hval : ∀ (j:Nat) t v,Tryz.f12.params[j]? = some t → args[j]? = some v → Value.okWide Tryz.prog W .any base t v:=hval0
 have hW':=hW
 obtain ⟨p,q,hA0,hV,rfl,hfz,hnd⟩:=hW
 have hA:DataW.TrodAll enc Tryz.prog W 0 (fun _=>true) true Tryz.f12.params.toList args.toList ds p:=hA0
 have hsz:(DataW.weightsEach Tryz.prog (Tryz.f12.params.toList ++ Rows.judgeRightSpec.plain.varTypes Tryz.prog) (ds ++ gs)).all (· ≤ reachBytes)=true:=hsz0
 clear hsz0
 rw [Tryz.params12] at hA hval hsz
 obtain ⟨v0,vs0,d0,ds0,p0,q0,hargs,rfl,rfl,h0,r0⟩:=trodAll_cons hA
 obtain ⟨v1,vs1,d1,ds1,p1,q1,rfl,rfl,rfl,h1,r1⟩:=trodAll_cons r0
 obtain ⟨v2,vs2,d2,ds2,p2,q2,rfl,rfl,rfl,h2,r2⟩:=trodAll_cons r1
 obtain ⟨rfl,rfl,rfl⟩:=trodAll_nil r2
 obtain rfl:args = #[v0,v1,v2]:=by cases args; simp_all
 obtain ⟨rfl,rfl⟩:=trodVars_none hV
 have lt0 : ∀ x ∈ p0,x.block < W.heap.size:=by obtain ⟨m,hm⟩:=h0; exact DataW.trod_lt m _ _ _ hm
 have lt1 : ∀ x ∈ p1,x.block < W.heap.size:=by obtain ⟨m,hm⟩:=h1; exact DataW.trod_lt m _ _ _ hm
 have lt2 : ∀ x ∈ p2,x.block < W.heap.size:=by obtain ⟨m,hm⟩:=h2; exact DataW.trod_lt m _ _ _ hm
 refine (judgeRight_walk enc base v0 v1 v2 W (hval 0 22 v0 rfl rfl) ⟨_,_,h0,Small.arg hsz (j:=0) rfl rfl⟩ (hval 1 3 v1 rfl rfl) ⟨_,_,h1,Small.arg hsz (j:=1) rfl rfl⟩ (hval 2 3 v2 rfl rfl) ⟨_,_,h2,Small.arg hsz (j:=2) rfl rfl⟩ hG).mono fun e W' ⟨he,bel⟩ => ?_
 subst he
 exact ⟨_,rfl,_,_,_,[],_,[],hW',trodAll_mk1 (shut_bool Tryz.underlying4 _),(trodAll_cons_mk (Below.trod laidOut (by kernel_rfl) (of_decide_eq_true (by kernel_rfl)) h0 bel lt0) (trodAll_cons_mk (Below.trod laidOut (by kernel_rfl) (of_decide_eq_true (by kernel_rfl)) h1 bel lt1) (trodAll_cons_mk (Below.trod laidOut (by kernel_rfl) (of_decide_eq_true (by kernel_rfl)) h2 bel lt2) trodAll_mk0))),rfl,bel.frame _,fun h=>by cases h⟩
end Go.Proofs.YtdieogcemmnaaaaGreatDoor.judgeRight

namespace Go.Proofs.YtdieogcemmnaaaaGreatDoor.judgeRight
open Go.ChangeShapes Go.WideShapes Go.ChangeAt Go.RowKit
set_option linter.unusedVariables false
theorem and2 {a b:Bool} (h1:a=true) (h2:b=true):(a && b)=true:=by rw [h1,h2]; rfl
theorem c0:(fun (P:Program) (f:FuncId) (fn:Func) (s:ChangeSpec) (c:OpenClaim)=>(c.wf (OpenSpec.ofChange s):Bool)) Tryz.pinned.checked.prog 12 Tryz.f12 Rows.judgeRightSpec Rows.judgeRightRow=true:=by kernel_rfl
theorem c1:(fun (P:Program) (f:FuncId) (fn:Func) (s:ChangeSpec) (c:OpenClaim)=>(laidOutB P:Bool)) Tryz.pinned.checked.prog 12 Tryz.f12 Rows.judgeRightSpec Rows.judgeRightRow=true:=by kernel_rfl
theorem c2:(fun (P:Program) (f:FuncId) (fn:Func) (s:ChangeSpec) (c:OpenClaim)=>(mapsRowed P:Bool)) Tryz.pinned.checked.prog 12 Tryz.f12 Rows.judgeRightSpec Rows.judgeRightRow=true:=by kernel_rfl
theorem c3:(fun (P:Program) (f:FuncId) (fn:Func) (s:ChangeSpec) (c:OpenClaim)=>(fn.params.all (P.readableRec ·):Bool)) Tryz.pinned.checked.prog 12 Tryz.f12 Rows.judgeRightSpec Rows.judgeRightRow=true:=by kernel_rfl
theorem c4:(fun (P:Program) (f:FuncId) (fn:Func) (s:ChangeSpec) (c:OpenClaim)=>(namedTie P c.named s.vars:Bool)) Tryz.pinned.checked.prog 12 Tryz.f12 Rows.judgeRightSpec Rows.judgeRightRow=true:=by kernel_rfl
theorem c5:(fun (P:Program) (f:FuncId) (fn:Func) (s:ChangeSpec) (c:OpenClaim)=>((c.stops == []):Bool)) Tryz.pinned.checked.prog 12 Tryz.f12 Rows.judgeRightSpec Rows.judgeRightRow=true:=by kernel_rfl
theorem c6:(fun (P:Program) (f:FuncId) (fn:Func) (s:ChangeSpec) (c:OpenClaim)=>((P.stops == []):Bool)) Tryz.pinned.checked.prog 12 Tryz.f12 Rows.judgeRightSpec Rows.judgeRightRow=true:=by kernel_rfl
theorem c7:(fun (P:Program) (f:FuncId) (fn:Func) (s:ChangeSpec) (c:OpenClaim)=>((c.knobs == []):Bool)) Tryz.pinned.checked.prog 12 Tryz.f12 Rows.judgeRightSpec Rows.judgeRightRow=true:=by kernel_rfl
theorem c8:(fun (P:Program) (f:FuncId) (fn:Func) (s:ChangeSpec) (c:OpenClaim)=>((P.stopKnobs == []):Bool)) Tryz.pinned.checked.prog 12 Tryz.f12 Rows.judgeRightSpec Rows.judgeRightRow=true:=by kernel_rfl
theorem c9:(fun (P:Program) (f:FuncId) (fn:Func) (s:ChangeSpec) (c:OpenClaim)=>((c.inPlace == P.inPlace f):Bool)) Tryz.pinned.checked.prog 12 Tryz.f12 Rows.judgeRightSpec Rows.judgeRightRow=true:=by kernel_rfl
theorem c10:(fun (P:Program) (f:FuncId) (fn:Func) (s:ChangeSpec) (c:OpenClaim)=>((c.unfollowed == P.unfollowed f):Bool)) Tryz.pinned.checked.prog 12 Tryz.f12 Rows.judgeRightSpec Rows.judgeRightRow=true:=by kernel_rfl
theorem c11:(fun (P:Program) (f:FuncId) (fn:Func) (s:ChangeSpec) (c:OpenClaim)=>((c.recurses == P.recurses f):Bool)) Tryz.pinned.checked.prog 12 Tryz.f12 Rows.judgeRightSpec Rows.judgeRightRow=true:=by kernel_rfl
theorem c12:(fun (P:Program) (f:FuncId) (fn:Func) (s:ChangeSpec) (c:OpenClaim)=>((c.named == P.varsNamed f):Bool)) Tryz.pinned.checked.prog 12 Tryz.f12 Rows.judgeRightSpec Rows.judgeRightRow=true:=by kernel_rfl
theorem c13:(fun (P:Program) (f:FuncId) (fn:Func) (s:ChangeSpec) (c:OpenClaim)=>((c.maps == (fn.params.toList ++ s.plain.varTypes P).any (P.mapsRec ·)):Bool)) Tryz.pinned.checked.prog 12 Tryz.f12 Rows.judgeRightSpec Rows.judgeRightRow=true:=by kernel_rfl
theorem c14:(fun (P:Program) (f:FuncId) (fn:Func) (s:ChangeSpec) (c:OpenClaim)=>((c.ifaces == (fn.params.toList ++ s.plain.varTypes P).any (P.ifacesRec ·)):Bool)) Tryz.pinned.checked.prog 12 Tryz.f12 Rows.judgeRightSpec Rows.judgeRightRow=true:=by kernel_rfl
theorem c15:(fun (P:Program) (f:FuncId) (fn:Func) (s:ChangeSpec) (c:OpenClaim)=>((c.mapsOut == P.mapsAmong fn.resultTypes.toList):Bool)) Tryz.pinned.checked.prog 12 Tryz.f12 Rows.judgeRightSpec Rows.judgeRightRow=true:=by kernel_rfl
theorem c16:(fun (P:Program) (f:FuncId) (fn:Func) (s:ChangeSpec) (c:OpenClaim)=>((c.loops == (fn.params.toList ++ s.plain.varTypes P).any (P.loopsFrom ·)):Bool)) Tryz.pinned.checked.prog 12 Tryz.f12 Rows.judgeRightSpec Rows.judgeRightRow=true:=by kernel_rfl
theorem c17:(fun (P:Program) (f:FuncId) (fn:Func) (s:ChangeSpec) (c:OpenClaim)=>((c.wideKeys == (fn.params.toList ++ s.plain.varTypes P ++ fn.resultTypes.toList).any (P.wideKeysFrom ·)):Bool)) Tryz.pinned.checked.prog 12 Tryz.f12 Rows.judgeRightSpec Rows.judgeRightRow=true:=by kernel_rfl
theorem c18:(fun (P:Program) (f:FuncId) (fn:Func) (s:ChangeSpec) (c:OpenClaim)=>(s.vars.all (P.varReadable ·):Bool)) Tryz.pinned.checked.prog 12 Tryz.f12 Rows.judgeRightSpec Rows.judgeRightRow=true:=by kernel_rfl
theorem c19:(fun (P:Program) (f:FuncId) (fn:Func) (s:ChangeSpec) (c:OpenClaim)=>(fn.resultTypes.all (fun t=>P.readableRec t && decide (t < P.types.size)):Bool)) Tryz.pinned.checked.prog 12 Tryz.f12 Rows.judgeRightSpec Rows.judgeRightRow=true:=by kernel_rfl
theorem c20:(fun (P:Program) (f:FuncId) (fn:Func) (s:ChangeSpec) (c:OpenClaim)=>((c.ifacesOut == fn.resultTypes.toList.any (P.ifacesRec ·)):Bool)) Tryz.pinned.checked.prog 12 Tryz.f12 Rows.judgeRightSpec Rows.judgeRightRow=true:=by kernel_rfl
theorem c21:(fun (P:Program) (f:FuncId) (fn:Func) (s:ChangeSpec) (c:OpenClaim)=>((c.loopsOut == fn.resultTypes.toList.any (P.loopsFrom ·)):Bool)) Tryz.pinned.checked.prog 12 Tryz.f12 Rows.judgeRightSpec Rows.judgeRightRow=true:=by kernel_rfl
theorem c22:(fun (P:Program) (f:FuncId) (fn:Func) (s:ChangeSpec) (c:OpenClaim)=>((c.plainKeys == P.plainKeys):Bool)) Tryz.pinned.checked.prog 12 Tryz.f12 Rows.judgeRightSpec Rows.judgeRightRow=true:=by kernel_rfl
theorem c23:(fun (P:Program) (f:FuncId) (fn:Func) (s:ChangeSpec) (c:OpenClaim)=>(c.shortTexts.isNone:Bool)) Tryz.pinned.checked.prog 12 Tryz.f12 Rows.judgeRightSpec Rows.judgeRightRow=true:=by kernel_rfl
theorem c24:(fun (P:Program) (f:FuncId) (fn:Func) (s:ChangeSpec) (c:OpenClaim)=>(P.stopsHeard:Bool)) Tryz.pinned.checked.prog 12 Tryz.f12 Rows.judgeRightSpec Rows.judgeRightRow=true:=by kernel_rfl
theorem c25:(fun (P:Program) (f:FuncId) (fn:Func) (s:ChangeSpec) (c:OpenClaim)=>(P.mayEnter:Bool)) Tryz.pinned.checked.prog 12 Tryz.f12 Rows.judgeRightSpec Rows.judgeRightRow=true:=by kernel_rfl
theorem c26:(fun (P:Program) (f:FuncId) (fn:Func) (s:ChangeSpec) (c:OpenClaim)=>((c.lifted == P.liftsFinal):Bool)) Tryz.pinned.checked.prog 12 Tryz.f12 Rows.judgeRightSpec Rows.judgeRightRow=true:=by kernel_rfl
theorem c27:(fun (P:Program) (f:FuncId) (fn:Func) (s:ChangeSpec) (c:OpenClaim)=>((P.make == some c.make):Bool)) Tryz.pinned.checked.prog 12 Tryz.f12 Rows.judgeRightSpec Rows.judgeRightRow=true:=by kernel_rfl
theorem c28:(fun (P:Program) (f:FuncId) (fn:Func) (s:ChangeSpec) (c:OpenClaim)=>((c.kinds == (if c.domain.isEmpty then [] else fn.params.toList.map fun t=>match P.underlying t with | some (.int k)=>some k | _=>none)):Bool)) Tryz.pinned.checked.prog 12 Tryz.f12 Rows.judgeRightSpec Rows.judgeRightRow=true:=by kernel_rfl
theorem c29:(fun (P:Program) (f:FuncId) (fn:Func) (s:ChangeSpec) (c:OpenClaim)=>((c.pinned == c.pinnedBy):Bool)) Tryz.pinned.checked.prog 12 Tryz.f12 Rows.judgeRightSpec Rows.judgeRightRow=true:=by kernel_rfl
theorem c30:(fun (P:Program) (f:FuncId) (fn:Func) (s:ChangeSpec) (c:OpenClaim)=>((c.veiled == (fn.params.toList ++ s.plain.varTypes P ++ fn.resultTypes.toList).any (P.veiledRec ·)):Bool)) Tryz.pinned.checked.prog 12 Tryz.f12 Rows.judgeRightSpec Rows.judgeRightRow=true:=by kernel_rfl
theorem c31:(fun (P:Program) (f:FuncId) (fn:Func) (s:ChangeSpec) (c:OpenClaim)=>(c.veiledFits P fn.params.toList (fn.params.toList ++ s.plain.varTypes P ++ fn.resultTypes.toList):Bool)) Tryz.pinned.checked.prog 12 Tryz.f12 Rows.judgeRightSpec Rows.judgeRightRow=true:=by kernel_rfl
theorem inst:Tryz.f12.isInstance Tryz.pinned.checked.prog Rows.judgeRightRow.origin Rows.judgeRightRow.targs:=(of_decide_eq_true (by kernel_rfl))
theorem wrap:Tryz.f12.isWrapper Tryz.pinned.checked.prog Rows.judgeRightRow.wrapper Rows.judgeRightRow.mainSum:=by unfold Func.isWrapper; first | (rw [if_pos (by decide +kernel)]; kernel_rfl) | (rw [if_neg (by decide +kernel)]; exact ⟨rfl,rfl⟩)
theorem nmd:Tryz.pinned.checked.prog.funcNamed Rows.judgeRightRow.func=some 12:=by kernel_rfl
end Go.Proofs.YtdieogcemmnaaaaGreatDoor.judgeRight

namespace Go.Proofs.YtdieogcemmnaaaaGreatDoor.judgeRight
open Go.ChangeShapes Go.WideShapes Go.ChangeAt Go.RowKit
set_option linter.unusedVariables false
set_option maxRecDepth 100000 in
theorem closed:joinedFacts Tryz.pinned.checked.prog 12 Tryz.f12 Rows.judgeRightSpec Rows.judgeRightRow=true:=(and2 (and2 (and2 (and2 (and2 (and2 (and2 (and2 (and2 (and2 (and2 (and2 (and2 (and2 (and2 (and2 (and2 (and2 (and2 (and2 (and2 (and2 (and2 (and2 (and2 (and2 (and2 (and2 (and2 (and2 (and2 c0 c1) c2) c3) c4) c5) c6) c7) c8) c9) c10) c11) c12) c13) c14) c15) c16) c17) c18) c19) c20) c21) c22) c23) c24) c25) c26) c27) c28) c29) c30) c31)
theorem over:Rows.judgeRightRow.holds Tryz.pinned (OpenSpec.ofChange Rows.judgeRightSpec) :=
 OpenClaim.holds_of_wide 12 Tryz.f12 rfl rfl rfl rfl rfl rfl rfl ⟨rfl,rfl,rfl,rfl,rfl⟩ rfl rfl rfl rfl rfl nmd Tryz.func12 closed inst wrap (fun os started H enc _=>lifted os started H enc)
end Go.Proofs.YtdieogcemmnaaaaGreatDoor.judgeRight
