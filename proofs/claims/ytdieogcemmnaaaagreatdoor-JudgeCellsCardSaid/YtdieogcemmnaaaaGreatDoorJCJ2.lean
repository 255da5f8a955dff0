/- Texts of this claim, joined. No condition. -/
import Derived.Test.YtdieogcemmnaaaaGreatDoorJCJ1
import Derived.KernelRfl
import Derived.Lib.AppendZeros
import Derived.Shelf.Small.Bits
import Derived.Shelf.Small.Strs
import Derived.Shelf.Strconv.Itoa0
import Derived.Shelf.Strings.Search1
import Derived.Shelf.Strings.Search2
import Derived.Shelf.Strings.Search3
import Derived.Shelf.Strings.Count
import Derived.Shelf.LaysM
import Derived.Shelf.Strings.Shaped
import Derived.Shelf.Sort.Plain
import Derived.Shelf.Strings.Prefix
import Derived.Shelf.Unicode.DecodeSlow
import Derived.Shelf.Slices.In.SortNone
import Derived.Ground.SlgcProg
import Derived.Shelf.SlicesG.Cmp
import Derived.Test.YtdieogcemmnaaaaGreatDoorProg
import Derived.Laws.MakeOwn
import Derived.Laws.CopyRow
import Derived.Lib.IndexLaws
set_option linter.unusedSimpArgs false
set_option linter.unusedVariables false
namespace Go.Proofs.YtdieogcemmnaaaaGreatDoor
set_option linter.unusedSimpArgs false
set_option linter.unusedVariables false
open Go.Proofs.YtdieogcemmnaaaaGreatDoor RX
theorem AllD.get2 {R h:PH} : ∀ {xs:List PgRec} {ps:List Pg} (i:Nat) {p:Pg},(AllD xs ps).p R h → ps[i]? = some p → ∃ x,xs[i]? = some x ∧ x.is=p.is ∧ x.n=p.data.length ∧ p.data.length ≤ 140737488355328 ∧ (RoB x.a x.n p.data).p R h
 | [],[],i,p,_,hp=>by simp at hp
 | x :: xs,q :: ps,0,p,⟨h1,H⟩,hp=>by simp at hp; subst hp; exact ⟨x,rfl,h1.1,h1.2.1,h1.2.2,HP.sep_left H⟩
 | x :: xs,q :: ps,i + 1,p,⟨h1,H⟩,hp=>by
  obtain ⟨y,q1,q2,q3,q4⟩:=AllD.get2 (h:=h) i (AllD.any (HP.sep_right H)) (by simpa using hp)
  exact ⟨y,by simpa using q1,q2,q3,q4⟩
 | [],_ :: _,_,_,H,_=>H.elim
 | _ :: _,[],_,_,H,_=>H.elim
abbrev BRec:=Option Addr × Nat × Nat
def slV (x:BRec):Value := .slice x.1 x.2.1 x.2.2
def AllB:List BRec → List (List UInt8) → HP
 | [],[]=>HP.tt
 | x :: xs,l :: ls=>HP.and (x.2.1=l.length ∧ l.length ≤ 140737488355328) (HP.sep (RoB x.1 x.2.1 l) (AllB xs ls))
 | _,_=>HP.pure False
theorem AllB.any {R:PH} : ∀ {xs:List BRec} {ps:List (List UInt8)} {h h':PH},(AllB xs ps).p R h → (AllB xs ps).p R h'
 | [],[],_,_,_=>trivial
 | _ :: _,_ :: _,_,h',⟨q,H⟩=>⟨q,RoC.join (HP.sep_left H) (AllB.any (h':=h') (HP.sep_right H))⟩
 | [],_ :: _,_,_,H=>H
 | _ :: _,[],_,_,H=>H
theorem AllB.snoc {R h:PH} {x:BRec} {p:List UInt8} (hx:x.2.1=p.length ∧ p.length ≤ 140737488355328) (hr:(RoB x.1 x.2.1 p).p R h) : ∀ {xs:List BRec} {ps:List (List UInt8)},(AllB xs ps).p R h → (AllB (xs ++ [x]) (ps ++ [p])).p R h
 | [],[],_=>⟨hx,RoC.join hr (trivial:HP.tt.p R h)⟩
 | _ :: _,_ :: _,⟨q,H⟩=>⟨q,RoC.join (HP.sep_left H) (AllB.snoc hx hr (HP.sep_right H) |> AllB.any (h':=h))⟩
 | [],_ :: _,H=>H.elim
 | _ :: _,[],H=>H.elim
theorem AllB.get {R h:PH} : ∀ {xs:List BRec} {ps:List (List UInt8)} (i:Nat) {p:List UInt8},(AllB xs ps).p R h → ps[i]? = some p → ∃ x,xs[i]? = some x ∧ x.2.1=p.length ∧ p.length ≤ 140737488355328 ∧ (RoB x.1 x.2.1 p).p R h
 | [],[],i,p,_,hp=>by simp at hp
 | x :: xs,q :: ps,0,p,⟨h1,H⟩,hp=>by simp at hp; subst hp; exact ⟨x,rfl,h1.1,h1.2,HP.sep_left H⟩
 | x :: xs,q :: ps,i + 1,p,⟨h1,H⟩,hp=>by
  obtain ⟨y,q1,q2,q3,q4⟩:=AllB.get (h:=h) i (AllB.any (HP.sep_right H)) (by simpa using hp)
  exact ⟨y,by simpa using q1,q2,q3,q4⟩
 | [],_ :: _,_,_,H,_=>H.elim
 | _ :: _,[],_,_,H,_=>H.elim
def LL (a:Option Addr) (n c:Nat) (ls:List (List UInt8)):HP:=HP.ex fun xs=>HP.and (xs.length=ls.length ∧ n=ls.length) (HP.sep (OwC 28 1 a n c (xs.map slV)) (AllB xs ls))
theorem infoLL:(Tryz.prog.info? 28).map (fun i=>(i.zero,i.size,i.bytes))=some (some (.slice none 0 0),1,24):=by kernel_rfl
theorem undLL:Tryz.prog.underlying 214=some (.slice 28):=by kernel_rfl
theorem slV_one (xs:List BRec) : ∀ u ∈ xs.map slV,u.oneCell'=true:=fun u hu=>by
 obtain ⟨x,_,rfl⟩:=List.mem_map.1 hu; rfl
def wholes (ps:List Pg):List (List UInt8):=ps.filterMap fun p=>if p.is=1 then some p.data else none
theorem wholes_take (ps:List Pg) (k:Nat) (p:Pg) (h:ps[k]? = some p):wholes (ps.take (k + 1))=wholes (ps.take k) ++ (if p.is=1 then [p.data] else []):=by
 obtain ⟨hk,rfl⟩:=List.getElem?_eq_some_iff.1 h
 rw [List.take_succ_eq_append_getElem hk,wholes,List.filterMap_append]
 congr 1
 simp only [List.filterMap_cons,List.filterMap_nil]
 by_cases e:ps[k].is=1 <;> simp [e]
theorem wholes_pre (ps:List Pg) (k:Nat):wholes (ps.take k) <+: wholes ps:=by
 have:wholes ps=wholes (ps.take k) ++ wholes (ps.drop k):=by
  rw [wholes,wholes,wholes,← List.filterMap_append,List.take_append_drop]
 rw [this]; exact List.prefix_append _ _
def BoxD (bx b:Nat):HP:=HP.one bx (.cells #[.pointer (some ⟨b,0,none⟩)] 99)
theorem dWhole_ok (b:Nat) (D:HP):Tri Tryz.prog 178 #[.pointer (some ⟨b,0,none⟩)] D
  (fun v=>HP.ex fun bx=>HP.and (v = .func (.func 210) #[] #[.pointer (some ⟨bx,0,none⟩)]) (HP.sep (BoxD bx b) D)):=by
 refine tri_of_tree (ρ:=[.n b,.p D]) mixed Tryz.func178 tree_dWhole ?_
 unfold t_dWhole
 simp only [T.den,E.prop,E.den,RX.look,F1.app,F2.app,Uni.int_i,Uni.nat_n,Uni.bool_c,Uni.str_s,Uni.adr_a,Uni.val_v,Uni.hp_p,hden,cden,V.den,W.den,A.den,BR.den,SA.den,FV.den,capV,exs,exP,allP,Cur.app,List.map_cons,List.map_nil,List.cons_append,List.nil_append,List.drop_succ_cons,List.drop_zero,List.length_cons,List.length_nil,Nat.zero_add,Nat.reduceAdd,Int.neg_neg,Bool.not_not,List.append_nil,Nat.add_zero,List.getElem?_cons_zero,List.getElem?_cons_succ,Decidable.not_not]
 exact fun x => .of fun R h H=>⟨x,rfl,HP.sep_comm H⟩
def mayW (ps:List Pg) (ys:List (List UInt8)) (args:Array Value) (ys':List (List UInt8)):Prop := ∃ a n c l,args = #[.slice a n c] ∧ ys'=ys ++ [l] ∧ ys' <+: wholes ps
def prW (ps:List Pg) (ys:List (List UInt8)) (args:Array Value):HP:=HP.ex fun z:BRec × List UInt8=>HP.and (args = #[slV z.1] ∧ z.2.length=z.1.2.1 ∧ z.1.2.1 ≤ 140737488355328 ∧ ys ++ [z.2] <+: wholes ps) (RoB z.1.1 z.1.2.1 z.2)
theorem fgo_whole1:Fgo Tryz.prog 210:=⟨_,Tryz.func210,by kernel_rfl,by kernel_rfl⟩
theorem pre_one {α:Type} {ys W:List α} {x y:α} (h:ys ++ [x] <+: W) (h':ys ++ [y] <+: W):x=y:=by
 obtain ⟨t,ht⟩:=h
 obtain ⟨t',ht'⟩:=h'
 rw [← ht,List.append_assoc,List.append_assoc] at ht'
 have:=List.append_cancel_left ht'
 simpa using (List.cons.inj this).1.symm
theorem dWhole_seq (bx b:Nat) (room:Int) (ps:List Pg) (lasts:Nat):SeqTri Tryz.prog (.func (.func 210) #[] #[.pointer (some ⟨bx,0,none⟩)]) (HP.sep (BoxD bx b) (DvRep b room ps lasts)) (fun _=>HP.tt) (prW ps) (mayW ps) (fun ys=>ys=wholes ps) []:=by
 refine ⟨_,_,rfl,fgo_whole1,fun l K Jx hr => ?_⟩
 refine (Tri.ex (A:=fun da=>HP.ex fun dc=>HP.ex fun xs=>HP.and (DInv room ps lasts ∧ xs.length=ps.length) (HP.sep (HP.sep HP.tt (K [])) (HP.sep (BoxD bx b) (HP.sep (HP.one b (.cells #[.int .i64 room,.slice da ps.length dc,.int .i64 lasts] 207)) (HP.sep (OwC 209 2 da ps.length dc (pgCells xs)) (AllD xs ps))))))
  fun da=>Tri.ex fun dc=>Tri.ex fun xs=>Tri.pure fun hI => ?_).weak (fun R h H => ?_) fun _ _ _ h=>h
 rotate_left
 ·obtain ⟨h1,h2,d,l1,l2,hK,h3,h4,d2,l3,l4,hB,da,dc,xs,hI,H⟩:=HP.sep_comm H
  exact ⟨da,dc,xs,hI,h1,h2,d,l1,l2,hK,h3,h4,d2,l3,l4,hB,H⟩
 obtain ⟨hD,hxl⟩:=hI
 refine Tri.fact (φ:=(ps.length ≠ 0 → da.isSome=true) ∧ ∀ (k:Nat) (p:Pg),ps[k]? = some p → ∃ x:PgRec,xs[k]? = some x ∧ x.is=p.is ∧ x.n=p.data.length ∧ p.data.length ≤ 140737488355328) (fun R h H=>⟨fun hn=>OwC.some (HP.sep_left (HP.sep_right (HP.sep_right (HP.sep_right H)))) (by omega),fun k p hp=>by
  obtain ⟨x,q1,q2,q3,q4,_⟩:=AllD.get2 k (HP.sep_right (HP.sep_right (HP.sep_right (HP.sep_right H)))) hp
  exact ⟨x,q1,q2,q3,q4⟩⟩) fun ⟨hda,hall⟩ => ?_
 obtain ⟨pd,hpd⟩ : ∃ d,Tryz.prog.underlying 209=some d:=Option.isSome_iff_exists.1 (by kernel_rfl)
 refine tri_of_tree (ρ:=[.v (.func (.yield l) #[] #[]),.p (HP.sep HP.tt (K [])),.n bx,.n b,.i room,.a da,.n ps.length,.n dc,.p (HP.sep (OwC 209 2 da ps.length dc (pgCells xs)) (AllD xs ps)),.i lasts]) mixed Tryz.func210 tree_dWhole1 ?_
 unfold t_dWhole1
 simp only [T.den,E.prop,E.den,RX.look,F1.app,F2.app,Uni.int_i,Uni.nat_n,Uni.bool_c,Uni.str_s,Uni.adr_a,Uni.val_v,Uni.hp_p,hden,cden,V.den,W.den,A.den,BR.den,SA.den,FV.den,capV,exs,exP,allP,Cur.app,List.map_cons,List.map_nil,List.cons_append,List.nil_append,List.drop_succ_cons,List.drop_zero,List.length_cons,List.length_nil,Nat.zero_add,Nat.reduceAdd,Int.neg_neg,Bool.not_not,List.append_nil,Nat.add_zero,List.getElem?_cons_zero,List.getElem?_cons_succ,Decidable.not_not]
 have fin : ∀ J:HP,HP.ent J (SeqPost (fun _=>HP.tt) K Jx (fun ys=>ys=wholes ps)) → HP.ent (HP.sep J (HP.sep (HP.one bx (.cells #[.pointer (some ⟨b,0,none⟩)] 99)) (HP.sep (HP.one b (.cells #[.int .i64 room,.slice da ps.length dc,.int .i64 lasts] 207)) (HP.sep (OwC 209 2 da ps.length dc (pgCells xs)) (AllD xs ps)))))
   (HP.sep (HP.sep (BoxD bx b) (DvRep b room ps lasts)) (SeqPost (fun _=>HP.tt) K Jx (fun ys=>ys=wholes ps))):=fun J hJ =>
  (hJ.sep _).trans (.of fun R h H=>HP.sep_comm (HP.sep_mono H (fun _ h=>h) fun y hy=>HP.sep_mono hy (fun _ h=>h) fun z hz=>⟨da,dc,xs,⟨hD,hxl⟩,hz⟩))
 refine ⟨fun i P => ∃ k:Nat,i=k ∧ k ≤ ps.length ∧ HP.ent P (HP.sep HP.tt (K (wholes (ps.take k)))),fun i P=>ps.length - i.toNat,⟨0,rfl,Nat.zero_le _,HP.ent.refl _⟩,?_⟩
 rintro _ P ⟨k,rfl,hk,hP⟩
 refine ⟨fun hlt=>⟨by omega,fun _=>⟨hda (by omega),fun _ => ?_⟩⟩,fun hge => ?_⟩
 ·have hlt':k < ps.length:=by omega
  have hg:ps[k]? = some ps[k]:=List.getElem?_eq_getElem hlt'
  have hi64:IntKind.i64.min ≤ (k:Int) + 1 ∧ (k:Int) + 1 ≤ IntKind.i64.max:=inI64 _ (by omega) (by have:=hD.2.1; have:=hD.2.2.1; omega)
  obtain ⟨x,hx,x1,x2,x3⟩:=hall k _ hg
  have hnext:ps[k].is ≠ 1 → wholes (ps.take (k + 1))=wholes (ps.take k):=fun h=>by rw [wholes_take ps k _ hg,if_neg h,List.append_nil]
  have hnext1:ps[k].is=1 → wholes (ps.take (k + 1))=wholes (ps.take k) ++ [ps[k].data]:=fun h=>by rw [wholes_take ps k _ hg,if_pos h]
  refine ⟨x.is,x.a,x.n,x.c,?_,fun y => ?_⟩
  ·rw [semOf_load]
   simp only [T.den,E.prop,E.den,RX.look,F1.app,F2.app,Uni.int_i,Uni.nat_n,Uni.bool_c,Uni.str_s,Uni.adr_a,Uni.val_v,Uni.hp_p,hden,cden,V.den,W.den,A.den,BR.den,SA.den,FV.den,capV,exs,exP,allP,Cur.app,List.map_cons,List.map_nil,List.cons_append,List.nil_append,List.drop_succ_cons,List.drop_zero,List.length_cons,List.length_nil,Nat.zero_add,Nat.reduceAdd,Int.neg_neg,Bool.not_not,List.append_nil,Nat.add_zero,List.getElem?_cons_zero,List.getElem?_cons_succ,Decidable.not_not]
   rw [Int.toNat_natCast]
   obtain ⟨g1,g2⟩:=pgCells_get xs k _ hx
   refine loadN_ok (vs:=[.int .i64 x.is,.slice x.a x.n x.c]) hpd (by kernel_rfl) ((OwC.rd 209 2 da ps.length dc (pgCells xs)).left (B:=AllD xs ps)) (by kernel_rfl) (by simp) fun j v hj => ?_
   match j with
   | 0=>simp at hj; subst hj; simpa using g1
   | 1=>simp at hj; subst hj; simpa using g2
   | j + 2=>simp at hj
  ·rw [x1]
   refine ⟨fun h1 => ?_,fun h1=>⟨hi64,fun _=>⟨⟨k + 1,by omega,by omega,by rw [hnext h1]; exact hP⟩,by dsimp only; omega⟩⟩⟩
   have hpre:wholes (ps.take k) ++ [ps[k].data] <+: wholes ps:=by rw [← hnext1 h1]; exact wholes_pre ps _
   refine (hr (wholes (ps.take k)) #[.slice x.a x.n x.c] ⟨_,x.a,x.n,x.c,ps[k].data,rfl,rfl,hpre⟩).conseq (K:=HP.sep (OwC 209 2 da ps.length dc (pgCells xs)) (AllD xs ps)) ?_ ?_
   ·refine (hP.sep _).trans (.of fun R h H => ?_)
    have hA:=HP.sep_right (HP.sep_right H)
    obtain ⟨x',q1,_,_,_,q5⟩:=AllD.get2 k hA hg
    rw [hx] at q1
    cases q1
    refine HP.sep_mono H (fun y hy => ?_) fun _ h=>h
    exact HP.sep_mono (RoC.join (B:=HP.sep HP.tt (K (wholes (ps.take k)))) q5 hy) (fun z hz=>⟨((x.a,x.n,x.c),ps[k].data),⟨rfl,x2.symm,by dsimp only; omega,hpre⟩,hz⟩) fun _ h=>h
   ·refine fun v => .of fun R h ⟨h1',h2,dj,l1,l2,⟨b',hv,hb⟩,hC⟩ => ?_
    cases b' with
    | true => 
     refine ⟨true,HP.ex fun g'=>HP.and (mayW ps (wholes (ps.take k)) #[.slice x.a x.n x.c] g') (HP.sep HP.tt (K g')),hv,⟨fun h=>absurd rfl h,fun _=>⟨hi64,fun _=>⟨⟨k + 1,by omega,by omega,?_⟩,by dsimp only; omega⟩⟩⟩,h1',h2,dj,l1,l2,hb,hC⟩
     refine .of fun R h ⟨g',⟨_,_,_,l',_,hg1,hg2⟩,H⟩ => ?_
     subst hg1
     rw [hnext1 h1,pre_one hpre hg2]
     exact H
    | false => 
     exact ⟨false,Jx,hv,⟨fun _=>fin Jx (.of fun R h H=>⟨none,H⟩),fun h=>absurd h (by simp)⟩,h1',h2,dj,l1,l2,hb,hC⟩
 ·have hke:k=ps.length:=by omega
  subst hke
  rw [List.take_length] at hP
  exact fin P (hP.trans (.of fun R h H=>⟨some (wholes ps),rfl,H⟩))
theorem dPages_ok (b:Nat) (room:Int) (ps:List Pg) (lasts:Nat):Tri Tryz.prog 119 #[.pointer (some ⟨b,0,none⟩)] (DvRep b room ps lasts)
  (fun v=>HP.ex fun a=>HP.ex fun c=>HP.and (v = .slice a (wholes ps).length c ∧ DInv room ps lasts) (HP.sep (DvRep b room ps lasts) (LL a (wholes ps).length c (wholes ps)))):=by
 refine Tri.fact (φ:=DInv room ps lasts) (fun R h ⟨_,_,_,hI,_⟩=>hI.1) fun hD => ?_
 refine tri_of_tree (ρ:=[.n b,.p (DvRep b room ps lasts)]) mixed Tryz.func119 tree_dPages ?_
 unfold t_dPages
 simp only [T.den,E.prop,E.den,RX.look,F1.app,F2.app,Uni.int_i,Uni.nat_n,Uni.bool_c,Uni.str_s,Uni.adr_a,Uni.val_v,Uni.hp_p,hden,cden,V.den,W.den,A.den,BR.den,SA.den,FV.den,capV,exs,exP,allP,Cur.app,List.map_cons,List.map_nil,List.cons_append,List.nil_append,List.drop_succ_cons,List.drop_zero,List.length_cons,List.length_nil,Nat.zero_add,Nat.reduceAdd,Int.neg_neg,Bool.not_not,List.append_nil,Nat.add_zero,List.getElem?_cons_zero,List.getElem?_cons_succ,Decidable.not_not]
 intro ob
 refine (dWhole_ok b (DvRep b room ps lasts)).weak (fun _ _ h=>h) ?_
 rintro v R h ⟨bx,rfl,H⟩
 refine ⟨.func (.func 210) #[] #[.pointer (some ⟨bx,0,none⟩)],BoxD bx b,rfl,fun db => ?_,H⟩
 have hw:(wholes ps).length ≤ 65536:=by
  have h1:(wholes ps).length ≤ ps.length:=List.length_filterMap_le _ _
  have:=hD.2.1
  have:=hD.2.2.1
  omega
 refine ⟨List (List UInt8),fun _=>HP.tt,prW ps,mayW ps,fun ys=>ys=wholes ps,[],fun ys a n c P=>n=ys.length ∧ ys <+: wholes ps ∧ HP.ent P (LL a n c ys),dWhole_seq bx b room ps lasts,?_,?_,?_,?_⟩
 ·exact ⟨rfl,List.nil_prefix,.of fun R h _=>⟨[],⟨rfl,rfl⟩,OwC.nil _ _ R h |> HP.sep_tt⟩⟩
 ·intro ys a n c P _; rfl
 ·rintro ys args ⟨g',a0,n0,c0,l0,rfl,rfl,hpre⟩ a n c P ⟨rfl,hys,hP⟩
  refine ⟨a0,n0,c0,prW ps ys #[.slice a0 n0 c0],rfl,HP.ent.refl _,?_⟩
  refine Tri.ex (A:=fun z:BRec × List UInt8=>HP.and (#[Value.slice a0 n0 c0] = #[slV z.1] ∧ z.2.length=z.1.2.1 ∧ z.1.2.1 ≤ 140737488355328 ∧ ys ++ [z.2] <+: wholes ps) (RoB z.1.1 z.1.2.1 z.2)) fun z=>Tri.pure fun hz => ?_
  obtain ⟨⟨a1,n1,c1⟩,d1⟩:=z
  obtain ⟨hz1,hz2,hz3,hz4⟩:=hz
  simp only [slV,Array.mk.injEq,List.cons.injEq,Value.slice.injEq,and_true] at hz1
  obtain ⟨rfl,rfl,rfl⟩:=hz1
  simp only at hz2 hz3 hz4
  refine (cloneR_ok (RoB a0 n0 d1) a0 n0 c0 d1 (RdL.ro _ _ _ _) hz2 hz3).weak (fun _ _ h=>h) ?_
  rintro v R h ⟨a',c',rfl,H⟩
  refine ⟨a',n0,c',RoB a' n0 d1,RoB a0 n0 d1,rfl,fun eb => ?_,H⟩
  clear H
  rw [semOf_append (by decide)]
  simp only [T.den,E.prop,E.den,RX.look,F1.app,F2.app,Uni.int_i,Uni.nat_n,Uni.bool_c,Uni.str_s,Uni.adr_a,Uni.val_v,Uni.hp_p,hden,cden,V.den,W.den,A.den,BR.den,SA.den,FV.den,capV,exs,exP,allP,Cur.app,List.map_cons,List.map_nil,List.cons_append,List.nil_append,List.drop_succ_cons,List.drop_zero,List.length_cons,List.length_nil,Nat.zero_add,Nat.reduceAdd,Int.neg_neg,Bool.not_not,List.append_nil,Nat.add_zero,List.getElem?_cons_zero,List.getElem?_cons_succ,Decidable.not_not]
  obtain ⟨i,hi,z1,z2,z3⟩:=info_parts infoLL
  have hyl:ys.length + 1 ≤ 65536:=by
   have:=hz4.length_le
   simp at this
   omega
  refine (OTri.conseq (A:=HP.ex fun xs=>HP.and (xs.length=ys.length) (HP.sep (OwC 28 1 a ys.length c (xs.map slV)) (HP.sep (AllB xs ys) (HP.sep (HP.one eb (.cells #[.slice a' n0 c'] 28)) (RoB a' n0 d1))))) (K:=HP.tt) (OTri.exI fun xs=>OTri.pureI fun hx => ?_) ((hP.sep _).trans (.of fun R h ⟨h1,h2,d,l1,l2,⟨xs,hx,H⟩,H2⟩=>HP.sep_tt ⟨xs,hx.1,HP.sep_assoc ⟨h1,h2,d,l1,l2,H,H2⟩⟩)) fun v => .of fun _ _ H=>HP.sep_left H)
  have happ:=append_ok 214 214 28 i _ undLL hi z1 (by rw [z2]; rfl) (by omega) a ys.length c (xs.map slV) (HP.sep (AllB xs ys) (HP.sep (HP.one eb (.cells #[.slice a' n0 c'] 28)) (RoB a' n0 d1))) ⟨eb,0,none⟩ 1 1 [slV (a',n0,c')] ((one_rd eb _ _).left.right) (by rw [z2]; rfl) (fun u hu=>slV_one [(a',n0,c')] u (by simpa using hu)) (by unfold maxLen; omega) (by rw [z3]; omega)
  rw [z2] at happ
  refine happ.weak (fun _ _ h=>h) ?_
  rintro v R h ⟨a2,c2,rfl,H⟩
  have hro:=HP.sep_right (HP.sep_right (HP.sep_right H))
  have hall:=HP.sep_left (HP.sep_right H)
  refine ⟨a2,ys.length + 1,c2,LL a2 (ys.length + 1) c2 (ys ++ [d1]),rfl,⟨ys ++ [d1],⟨a0,n0,c0,d1,rfl,rfl,hz4⟩,by simp,hz4,HP.ent.refl _⟩,?_⟩
  refine HP.sep_mono H (fun y hy=>⟨xs ++ [(a',n0,c')],⟨by simp [hx],by simp⟩,?_⟩) fun y hy=>HP.sep_right hy
  refine HP.sep_comm (HP.sep_mono (HP.tt_sep hy) (fun q _=>AllB.any (AllB.snoc (x:=(a',n0,c')) (p:=d1) ⟨hz2.symm,by omega⟩ hro hall)) fun q hq => ?_)
  rw [List.map_append]; exact hq
 ·rintro _ rfl a n c P ⟨rfl,_,hP⟩
  refine ((HP.ent.refl (DvRep b room ps lasts)).sep2 hP).trans (.of fun R h H=>⟨a,c,⟨rfl,hD⟩,H⟩)
end Go.Proofs.YtdieogcemmnaaaaGreatDoor

namespace Go.Proofs.YtdieogcemmnaaaaGreatDoor
open Go.Proofs.YtdieogcemmnaaaaGreatDoor RX
section
variable {κ:Type} [DecidableEq κ] {enc:κ → Value} {r c:Nat} {l:AL κ}
theorem alPut_none (k:κ) (v:Value) (c:Nat) : ∀ l:AL κ,alFind k l=none → alPut k v c l=l ++ [(k,v,c)]
 | [],_=>rfl
 | x :: l,h=>by
  simp only [alFind] at h
  split at h
  ·cases h
  ·rename_i hk; simp [alPut,hk,alPut_none k v c l h]
theorem alPut_born (k:κ) (v:Value) (c:Nat) : ∀ l:AL κ,(alFind k l).isSome=true → (alPut k v c l).map (·.2.2)=l.map (·.2.2)
 | [],h=>by cases h
 | x :: l,h=>by
  simp only [alFind] at h
  simp only [alPut]
  split at h
  ·rename_i hk; simp [hk]
  ·rename_i hk; simp [hk,alPut_born k v c l h]
theorem MapI.nil (c:Nat):MapI ([]:AL κ) c:=⟨List.nodup_nil,Stamps.nil c⟩
theorem MapI.put (h:MapI l c) (k:κ) (v:Value):MapI (alPut k v c l) (alClock k l c):=by
 refine ⟨alPut_nodup k v c l h.1,?_⟩
 unfold alClock
 cases hf:alFind k l with
 | none =>
  rw [alPut_none k v c l hf]
  exact h.2.snoc k v
 | some u =>
  have hb:=alPut_born k v c l (by rw [hf]; rfl)
  refine ⟨fun x hx => ?_,by rw [hb]; exact h.2.nodup⟩
  have:x.2.2 ∈ (alPut k v c l).map (·.2.2):=List.mem_map.2 ⟨x,hx,rfl⟩
  rw [hb] at this
  obtain ⟨y,hy,e⟩:=List.mem_map.1 this
  rw [← e]
  exact h.2.low y hy
theorem alDel_sub (k:κ) : ∀ l:AL κ,(alDel k l).Sublist l
 | []=>List.Sublist.refl _
 | x :: l=>by
  simp only [alDel]
  split
  ·exact List.sublist_cons_self _ _
  ·exact (alDel_sub k l).cons_cons _
theorem MapI.del (h:MapI l c) (k:κ):MapI (alDel k l) c :=
 ⟨List.Nodup.sublist ((alDel_sub k l).map _) h.1,fun x hx=>h.2.low x ((alDel_sub k l).subset hx),List.Nodup.sublist ((alDel_sub k l).map _) h.2.nodup⟩
theorem alFind_del (k k':κ) : ∀ l:AL κ,(l.map (·.1)).Nodup → alFind k' (alDel k l)=if k'=k then none else alFind k' l
 | [],_=>by simp [alDel,alFind]
 | x :: l,h=>by
  simp only [List.map_cons,List.nodup_cons] at h
  simp only [alDel]
  split
  ·rename_i hk
   subst hk
   split
   ·rename_i e
    subst e
    exact alFind_none_of _ l fun y hy e=>h.1 (List.mem_map.2 ⟨y,hy,e⟩)
   ·rename_i e; simp [alFind,e]
  ·rename_i hk
   simp only [alFind]
   rw [alFind_del k k' l h.2]
   by_cases e:k'=x.1
   ·rw [if_pos e,if_pos e,if_neg (fun e2=>hk (by rw [← e2,e]))]
   ·rw [if_neg e,if_neg e]
def Pers {α:Type} (V:Value → α → HP):Prop := ∀ v x R h h',(V v x).p R h → (V v x).p R h'
def Vals {α:Type} (V:Value → α → HP) (l:AL κ) (f:κ → Option α):HP :=
 ⟨fun R h => ∀ k,match alFind k l,f k with
  | none,none=>True
  | some v,some x=>(V v x).p R h
  | _,_=>False,
  fun lR lh H k=>by
  have:=H k
  revert this
  cases alFind k l <;> cases f k <;> simp only [imp_self]
  exact fun p=>(V _ _).mono lR lh p⟩
variable {α:Type} {V:Value → α → HP} {f:κ → Option α}
def fput (f:κ → Option α) (k:κ) (x:Option α):κ → Option α:=fun k'=>if k'=k then x else f k'
theorem Vals.nil {R h:PH}:(Vals V ([]:AL κ) (fun _=>none)).p R h:=fun _=>trivial
theorem Vals.put {R h:PH} (H:(Vals V l f).p R h) (k:κ) (v:Value) (c:Nat) (x:α) (hv:(V v x).p R h):(Vals V (alPut k v c l) (fput f k (some x))).p R h:=fun k'=>by
 rw [alFind_put,fput]
 by_cases e:k'=k
 ·rw [if_pos e,if_pos e]; exact hv
 ·rw [if_neg e,if_neg e]; exact H k'
theorem Vals.del {R h:PH} (H:(Vals V l f).p R h) (hn:(l.map (·.1)).Nodup) (k:κ):(Vals V (alDel k l) (fput f k none)).p R h:=fun k'=>by
 rw [alFind_del _ _ _ hn,fput]
 by_cases e:k'=k
 ·rw [if_pos e,if_pos e]; trivial
 ·rw [if_neg e,if_neg e]; exact H k'
def MapH (V:Value → α → HP) (enc:κ → Value) (r:Nat) (f:κ → Option α) (l:AL κ) (c:Nat):HP:=HP.and (MapI l c) (HP.sep (HP.one r (mapObj enc l c)) (Vals V l f))
def MapE (V:Value → α → HP) (enc:κ → Value) (r:Nat) (f:κ → Option α):HP:=HP.ex fun l=>HP.ex fun c=>MapH V enc r f l c
theorem MapE.new (V:Value → α → HP) (enc:κ → Value) (r:Nat) {R h:PH} (H:(HP.one r (.map #[] 0)).p R h):(MapE V enc r (fun _=>none)).p R h :=
 ⟨[],0,MapI.nil 0,HP.sep_mono (HP.sep_tt H) (fun _ h=>h) fun _ _=>Vals.nil⟩
theorem MapH.at {R h:PH} (H:(MapH V enc r f l c).p R h):h r=some (mapObj enc l c):=HP.sep_left H.2
theorem MapH.yes {R h:PH} (H:(MapH V enc r f l c).p R h) (hV:Pers V) {k:κ} {x:α} (e:f k=some x) (h':PH) : ∃ v,alFind k l=some v ∧ (V v x).p R h':=by
 have:=HP.sep_right H.2 k
 rw [e] at this
 revert this
 cases alFind k l with
 | none=>exact fun h=>h.elim
 | some v=>exact fun h=>⟨v,rfl,hV _ _ _ _ _ h⟩
theorem MapH.no {R h:PH} (H:(MapH V enc r f l c).p R h) {k:κ} (e:f k=none):alFind k l=none:=by
 have:=HP.sep_right H.2 k
 rw [e] at this
 revert this
 cases alFind k l with
 | none=>exact fun _=>rfl
 | some v=>exact fun h=>h.elim
theorem MapH.put {kt et t:TypeId} (K:KeyEnc Tryz.prog kt enc) (ht:Tryz.prog.underlying t=some (.map kt et)) (hV:Pers V) (k:κ) (v:Value) (x:α) {A:HP} (hv : ∀ R h,A.p R h → (V v x).p R h) :
  OTri Tryz.prog (updS t (.map (some r)) (enc k) v) (HP.sep (MapH V enc r f l c) A) (fun z=>HP.and (z = .tuple #[]) (HP.sep (MapE V enc r (fput f k (some x))) A)):=by
 refine OTri.fact (φ:=MapI l c) (fun R h H=>(HP.sep_left H).1) fun hI => ?_
 refine ((upd_ok (r:=r) (l:=l) (c:=c) K ht k v).frame (HP.sep (Vals V l f) A)).weak (fun R h ⟨h1,h2,d,l1,l2,⟨_,H⟩,hA⟩=>HP.sep_assoc ⟨h1,h2,d,l1,l2,H,hA⟩) ?_
 rintro z R h ⟨h1,h2,d,l1,l2,⟨rfl,hone⟩,hrest⟩
 have hx:=hv _ _ (HP.sep_right hrest)
 refine ⟨rfl,HP.sep_mono (HP.sep_assoc' ⟨h1,h2,d,l1,l2,hone,hrest⟩) (fun y hy=>⟨_,_,hI.put k v,HP.sep_mono hy (fun _ h=>h) fun q hq=>Vals.put hq k v c x (hV _ _ _ _ _ hx)⟩) fun _ h=>h⟩
theorem MapH.del {kt et t:TypeId} (K:KeyEnc Tryz.prog kt enc) (ht:Tryz.prog.underlying t=some (.map kt et)) (k:κ) (ts:Array TypeId) (ty:TypeId) (h0:ts[0]? = some t) :
  OTri Tryz.prog (delS ts ty (.map (some r)) (enc k)) (MapH V enc r f l c) (fun z=>HP.and (z = .tuple #[]) (MapH V enc r (fput f k none) (alDel k l) c)):=by
 refine OTri.fact (φ:=MapI l c) (fun R h H=>H.1) fun hI => ?_
 refine ((del_ok (r:=r) (l:=l) (c:=c) (ty:=ty) K ht k ts h0).frame (Vals V l f)).weak (fun R h ⟨_,H⟩=>H) ?_
 rintro z R h ⟨h1,h2,d,l1,l2,⟨rfl,hone⟩,hrest⟩
 exact ⟨rfl,hI.del k,h1,h2,d,l1,l2,hone,Vals.del hrest hI.1 k⟩
end
end Go.Proofs.YtdieogcemmnaaaaGreatDoor

namespace Go.Proofs.YtdieogcemmnaaaaGreatDoor.RX
set_option maxRecDepth 100000
-- tideline/unit.number: ρ:=[.i n]
def t_number:T :=
(.br (.o2 .le (.i 0) (.v 0))
(.ret (.w (.a (.bool (.o2 .le (.v 0) (.i 2147483647))))) [])
(.ret (.w (.a (.bool (.c false)))) []))
theorem tree_number:tree Tryz.prog { absT:=[151,247],keep:=[179,181,182,99999,99999,211,212,187,99999,99999,186],turn:=[(185,[0])] } Tryz.f181 [.a (.int .i64 (.v 0))] [] 1=t_number:=by kernel_rfl
def t_proposal:T :=
(.new
(.br (.o2 .le (.i 1) (.v 0))
(.br (.o2 .le (.v 0) (.i 2147483647))
(.call 181 [.a (.int .i64 (.v 1))] [] [.c] (.w (.a (.bool (.v 4)))) []
(.br (.v 4)
(.call 181 [.a (.int .i64 (.v 2))] [] [.c] (.w (.a (.bool (.v 5)))) []
(.ret (.w (.a (.bool (.v 5)))) []))
(.ret (.w (.a (.bool (.c false)))) [])))
(.ret (.w (.a (.bool (.c false)))) []))
(.ret (.w (.a (.bool (.c false)))) [])))
theorem tree_proposal:tree Tryz.prog { absT:=[151,247],keep:=[179,181,182,99999,99999,211,212,187,99999,99999,186],turn:=[(185,[0])] } Tryz.f182 [.a (.int .i64 (.v 0)),.agg [.int .i64 (.v 1),.int .i64 (.v 2)]] [] 3=t_proposal:=by kernel_rfl
def t_address:T :=
(.br (.o2 .le (.i 0) (.v 0))
(.ret (.w (.a (.bool (.o2 .le (.v 0) (.i 4294967296))))) [])
(.ret (.w (.a (.bool (.c false)))) []))
theorem tree_address:tree Tryz.prog { absT:=[151,247],keep:=[179,181,182,99999,99999,211,212,187,99999,99999,186],turn:=[(185,[0])] } Tryz.f179 [.a (.int .i64 (.v 0))] [] 1=t_address:=by kernel_rfl
def t_uEpoch:T :=
(.ret (.w (.a (.int .i64 (.v 3)))) [(.b (.v 0),.cells [.ptr (.v 1) 0,.int .i64 (.v 3),.int .i64 (.v 4),.int .i64 (.v 5),.map (.v 6),.map (.v 8)] 213),(.b (.v 1),.prop 2),(.b (.v 6),.prop 7),(.b (.v 8),.prop 9)])
theorem tree_uEpoch:tree Tryz.prog { absT:=[151,247],keep:=[179,181,182,99999,99999,211,212,187,99999,99999,186],turn:=[(185,[0])] } Tryz.f187 [.a (.ptr (.v 0) 0)] [(.b (.v 0),.cells [.ptr (.v 1) 0,.int .i64 (.v 3),.int .i64 (.v 4),.int .i64 (.v 5),.map (.v 6),.map (.v 8)] 213),(.b (.v 1),.prop 2),(.b (.v 6),.prop 7),(.b (.v 8),.prop 9)] 10=t_uEpoch:=by kernel_rfl
def t_uReach:T :=
(.br (.o1 .not (.o2 .eq (.v 10) (.v 3)))
(.ret (.w (.a (.int .i64 (.i 8)))) [(.b (.v 0),.cells [.ptr (.v 1) 0,.int .i64 (.v 3),.int .i64 (.v 4),.int .i64 (.v 5),.map (.v 6),.map (.v 8)] 213),(.b (.v 1),.prop 2),(.b (.v 6),.prop 7),(.b (.v 8),.prop 9)])
(.call 179 [.a (.int .i64 (.v 11))] [] [.c] (.w (.a (.bool (.v 12)))) []
(.br (.o1 .not (.v 12))
(.ret (.w (.a (.int .i64 (.i 2)))) [(.b (.v 0),.cells [.ptr (.v 1) 0,.int .i64 (.v 3),.int .i64 (.v 4),.int .i64 (.v 5),.map (.v 6),.map (.v 8)] 213),(.b (.v 1),.prop 2),(.b (.v 6),.prop 7),(.b (.v 8),.prop 9)])
(.ret (.w (.a (.int .i64 (.i 0)))) [(.b (.v 0),.cells [.ptr (.v 1) 0,.int .i64 (.v 3),.int .i64 (.v 4),.int .i64 (.v 5),.map (.v 6),.map (.v 8)] 213),(.b (.v 1),.prop 2),(.b (.v 6),.prop 7),(.b (.v 8),.prop 9)]))))
theorem tree_uReach:tree Tryz.prog { absT:=[151,247],keep:=[179,181,182,99999,99999,211,212,187,99999,99999,186],turn:=[(185,[0])] } Tryz.f211 [.a (.ptr (.v 0) 0),.a (.int .i64 (.v 10)),.a (.int .i64 (.v 11))] [(.b (.v 0),.cells [.ptr (.v 1) 0,.int .i64 (.v 3),.int .i64 (.v 4),.int .i64 (.v 5),.map (.v 6),.map (.v 8)] 213),(.b (.v 1),.prop 2),(.b (.v 6),.prop 7),(.b (.v 8),.prop 9)] 12=t_uReach:=by kernel_rfl
def t_uPut:T :=
(.new
(.call 73 [.a (.sl (.v 12) (.v 13) (.v 14))] [(.a 12,.prop 15)] [.a,.n,.n,.p,.p] (.w (.a (.sl (.v 17) (.v 18) (.v 19)))) [(.a 17,.prop 20),(.a 12,.prop 21)]
(.op (.mapUpdate 210 (.tmp 9) (.tmp 10) (.tmp 16)) 0 [(9,.w (.a (.map (.v 6)))),(10,.w (.a (.int .i64 (.v 10)))),(16,.w (.agg [.int .i64 (.v 11),.sl (.v 17) (.v 18) (.v 19)]))] [(.b (.v 6),.prop 7),(.a 17,.prop 20)] [.p] (.tup []) [(.b (.v 6),.prop 22),(.a 17,.prop 20)]
(.need (.o1 (.inr .i64) (.o2 .add (.v 10) (.i 1)))
(.ret (.tup []) [(.b (.v 0),.cells [.ptr (.v 1) 0,.int .i64 (.v 3),.int .i64 (.v 4),.int .i64 (.o2 .mx (.v 5) (.o2 .add (.v 10) (.i 1))),.map (.v 6),.map (.v 8)] 213),(.b (.v 1),.prop 2),(.b (.v 6),.prop 22),(.b (.v 8),.prop 9),(.a 12,.prop 21)])))))
theorem tree_uPut:tree Tryz.prog { absT:=[151,247],keep:=[179,181,182,99999,99999,211,212,187,99999,99999,186],turn:=[(185,[0])] } Tryz.f180 [.a (.ptr (.v 0) 0),.a (.int .i64 (.v 10)),.agg [.int .i64 (.v 11),.sl (.v 12) (.v 13) (.v 14)]] [(.b (.v 0),.cells [.ptr (.v 1) 0,.int .i64 (.v 3),.int .i64 (.v 4),.int .i64 (.v 5),.map (.v 6),.map (.v 8)] 213),(.b (.v 1),.prop 2),(.b (.v 6),.prop 7),(.b (.v 8),.prop 9),(.a 12,.prop 15)] 16=t_uPut:=by kernel_rfl
def t_uCell:T :=
(.new
(.read (.lookup 210 (.tmp 12) (.tmp 13) true) 297 [(12,.w (.a (.map (.v 6)))),(13,.w (.a (.int .i64 (.v 10))))] [(.b (.v 6),.prop 7)] [.i,.a,.n,.n,.c] (.tup [.agg [.int .i64 (.v 12),.sl (.v 13) (.v 14) (.v 15)],.a (.bool (.v 16))])
(.new
(.call 73 [.a (.sl (.v 13) (.v 14) (.v 15))] [(.b (.v 6),.prop 7)] [.a,.n,.n,.p,.p] (.w (.a (.sl (.v 18) (.v 19) (.v 20)))) [(.a 18,.prop 21),(.b (.v 6),.prop 22)]
(.ret (.tup [.agg [.int .i64 (.v 12),.sl (.v 18) (.v 19) (.v 20)],.a (.bool (.v 16))]) [(.b (.v 0),.cells [.ptr (.v 1) 0,.int .i64 (.v 3),.int .i64 (.v 4),.int .i64 (.v 5),.map (.v 6),.map (.v 8)] 213),(.b (.v 1),.prop 2),(.b (.v 6),.prop 22),(.b (.v 8),.prop 9),(.a 18,.prop 21)])))))
theorem tree_uCell:tree Tryz.prog { absT:=[151,247],keep:=[179,181,182,99999,99999,211,212,187,99999,99999,186],turn:=[(185,[0])] } Tryz.f212 [.a (.ptr (.v 0) 0),.a (.int .i64 (.v 10))] [(.b (.v 0),.cells [.ptr (.v 1) 0,.int .i64 (.v 3),.int .i64 (.v 4),.int .i64 (.v 5),.map (.v 6),.map (.v 8)] 213),(.b (.v 1),.prop 2),(.b (.v 6),.prop 7),(.b (.v 8),.prop 9)] 11=t_uCell:=by kernel_rfl
def t_uProm:T :=
(.new
(.read (.lookup 211 (.tmp 10) (.tmp 11) false) 295 [(10,.w (.a (.map (.v 8)))),(11,.w (.a (.int .i64 (.v 10))))] [(.b (.v 8),.prop 9)] [.i,.i,.i,.i,.a,.n,.n] (.w (.agg [.int .i64 (.v 14),.int .i64 (.v 15),.int .i64 (.v 16),.int .i64 (.v 17),.sl (.v 18) (.v 19) (.v 20)]))
(.new
(.op (.mapUpdate 211 (.tmp 18) (.tmp 19) (.tmp 20)) 0 [(18,.w (.a (.map (.v 8)))),(19,.w (.a (.int .i64 (.v 10)))),(20,.w (.agg [.int .i64 (.v 11),.int .i64 (.v 12),.int .i64 (.v 16),.int .i64 (.v 17),.sl (.v 18) (.v 19) (.v 20)]))] [(.b (.v 8),.prop 9)] [.p] (.tup []) [(.b (.v 8),.prop 22)]
(.ret (.tup []) [(.b (.v 0),.cells [.ptr (.v 1) 0,.int .i64 (.v 3),.int .i64 (.v 4),.int .i64 (.v 5),.map (.v 6),.map (.v 8)] 213),(.b (.v 1),.prop 2),(.b (.v 6),.prop 7),(.b (.v 8),.prop 22)])))))
theorem tree_uProm:tree Tryz.prog { absT:=[151,247],keep:=[179,181,182,99999,99999,211,212,187,99999,99999,186],turn:=[(185,[0])] } Tryz.f183 [.a (.ptr (.v 0) 0),.a (.int .i64 (.v 10)),.agg [.int .i64 (.v 11),.int .i64 (.v 12)]] [(.b (.v 0),.cells [.ptr (.v 1) 0,.int .i64 (.v 3),.int .i64 (.v 4),.int .i64 (.v 5),.map (.v 6),.map (.v 8)] 213),(.b (.v 1),.prop 2),(.b (.v 6),.prop 7),(.b (.v 8),.prop 9)] 13=t_uProm:=by kernel_rfl
def t_uAcc:T :=
(.new
(.call 73 [.a (.sl (.v 13) (.v 14) (.v 15))] [(.a 13,.prop 16)] [.a,.n,.n,.p,.p] (.w (.a (.sl (.v 18) (.v 19) (.v 20)))) [(.a 18,.prop 21),(.a 13,.prop 22)]
(.op (.mapUpdate 211 (.tmp 11) (.tmp 12) (.tmp 17)) 0 [(11,.w (.a (.map (.v 8)))),(12,.w (.a (.int .i64 (.v 10)))),(17,.w (.agg [.int .i64 (.v 11),.int .i64 (.v 12),.int .i64 (.v 11),.int .i64 (.v 12),.sl (.v 18) (.v 19) (.v 20)]))] [(.b (.v 8),.prop 9),(.a 18,.prop 21)] [.p] (.tup []) [(.b (.v 8),.prop 23),(.a 18,.prop 21)]
(.ret (.tup []) [(.b (.v 0),.cells [.ptr (.v 1) 0,.int .i64 (.v 3),.int .i64 (.v 4),.int .i64 (.v 5),.map (.v 6),.map (.v 8)] 213),(.b (.v 1),.prop 2),(.b (.v 6),.prop 7),(.b (.v 8),.prop 23),(.a 13,.prop 22)]))))
theorem tree_uAcc:tree Tryz.prog { absT:=[151,247],keep:=[179,181,182,99999,99999,211,212,187,99999,99999,186],turn:=[(185,[0])] } Tryz.f184 [.a (.ptr (.v 0) 0),.a (.int .i64 (.v 10)),.agg [.int .i64 (.v 11),.int .i64 (.v 12)],.a (.sl (.v 13) (.v 14) (.v 15))] [(.b (.v 0),.cells [.ptr (.v 1) 0,.int .i64 (.v 3),.int .i64 (.v 4),.int .i64 (.v 5),.map (.v 6),.map (.v 8)] 213),(.b (.v 1),.prop 2),(.b (.v 6),.prop 7),(.b (.v 8),.prop 9),(.a 13,.prop 16)] 17=t_uAcc:=by kernel_rfl
def t_uFor1:T :=
(.new
(.ret (.w (.a (.bool (.o2 .lt (.v 0) (.v 11))))) [(.a 2,.prop 5),(.b (.v 6),.cells [.ptr (.v 7) 0] 113),(.b (.v 7),.cells [.ptr (.v 8) 0,.int .i64 (.v 10),.int .i64 (.v 11),.int .i64 (.v 12),.map (.v 13),.map (.v 15)] 213),(.b (.v 8),.prop 9),(.b (.v 13),.prop 14),(.b (.v 15),.prop 16)]))
theorem tree_uFor1:tree Tryz.prog { absT:=[151,247],keep:=[179,181,182,99999,99999,211,212,187,99999,99999,186],turn:=[(185,[0])] } Tryz.f186 [.a (.int .i64 (.v 0)),.agg [.int .i64 (.v 1),.sl (.v 2) (.v 3) (.v 4)],.a (.ptr (.v 6) 0)] [(.a 2,.prop 5),(.b (.v 6),.cells [.ptr (.v 7) 0] 113),(.b (.v 7),.cells [.ptr (.v 8) 0,.int .i64 (.v 10),.int .i64 (.v 11),.int .i64 (.v 12),.map (.v 13),.map (.v 15)] 213),(.b (.v 8),.prop 9),(.b (.v 13),.prop 14),(.b (.v 15),.prop 16)] 17=t_uFor1:=by kernel_rfl
def t_delF:T :=
(.op (.range 210 (.tmp 6)) 0 [(6,.w (.a (.map (.v 0))))] [(.b (.v 0),.prop 1)] [.n,.p,.p] (.w (.a (.ptr (.v 11) 0))) [(.b (.v 11),.prop 12),(.b (.v 0),.prop 13)]
(.loop [.p,.p] [.p [(.b (.v 11),.prop 12)],.p [(.b (.v 0),.prop 13)]]
(.op (.next (.tmp 7) false) 0 [(7,.w (.a (.ptr (.v 11) 0)))] [(.b (.v 11),.prop 14),(.b (.v 0),.prop 15)] [.c,.v,.v,.p] (.nx 16 17 18) [(.b (.v 11),.prop 19),(.b (.v 0),.prop 15)]
(.br (.v 16)
(.read (.entry (.tmp 7)) 0 [(7,.w (.a (.ptr (.v 11) 0)))] [(.b (.v 11),.prop 19),(.b (.v 0),.prop 15)] [.i,.i,.a,.n,.n] (.tup [.a (.int .i64 (.v 20)),.agg [.int .i64 (.v 21),.sl (.v 22) (.v 23) (.v 24)]])
(.new
(.call 186 [.a (.int .i64 (.v 20)),.agg [.int .i64 (.v 21),.sl (.v 22) (.v 23) (.v 24)],.a (.ptr (.v 2) 0)] [(.b (.v 0),.prop 15),(.b (.v 2),.cells [.ptr (.v 3) 0] 113),(.b (.v 3),.cells [.ptr (.v 4) 0,.int .i64 (.v 6),.int .i64 (.v 7),.int .i64 (.v 8),.map (.v 0),.map (.v 9)] 213),(.b (.v 4),.prop 5),(.b (.v 9),.prop 10)] [.c] (.w (.a (.bool (.v 26)))) [(.b (.v 0),.prop 15),(.b (.v 2),.cells [.ptr (.v 3) 0] 113),(.b (.v 3),.cells [.ptr (.v 4) 0,.int .i64 (.v 6),.int .i64 (.v 7),.int .i64 (.v 8),.map (.v 0),.map (.v 9)] 213),(.b (.v 4),.prop 5),(.b (.v 9),.prop 10)]
(.br (.v 26)
(.op (.call ⟨.builtin .delete,#[.tmp 17,.tmp 18],#[210,3]⟩) 0 [(17,.w (.a (.map (.v 0)))),(18,.w (.a (.int .i64 (.v 20))))] [(.b (.v 0),.prop 15)] [.p] (.tup []) [(.b (.v 0),.prop 27)]
(.again 0 [.p [(.b (.v 11),.prop 19)],.p [(.b (.v 0),.prop 27)]]))
(.again 0 [.p [(.b (.v 11),.prop 19)],.p [(.b (.v 0),.prop 15)]])))))
(.ret (.tup []) [(.b (.v 0),.prop 15),(.b (.v 2),.cells [.ptr (.v 3) 0] 113),(.b (.v 3),.cells [.ptr (.v 4) 0,.int .i64 (.v 6),.int .i64 (.v 7),.int .i64 (.v 8),.map (.v 0),.map (.v 9)] 213),(.b (.v 4),.prop 5),(.b (.v 9),.prop 10)])))))
theorem tree_delF:tree Tryz.prog { absT:=[151,247],hv:=[(0,[.b (.v 11),.b (.v 0)])],keep:=[179,181,182,99999,99999,211,212,187,99999,99999,186],ent:=[(10,[3,68])],turn:=[(185,[0])] } Tryz.f185 [.a (.map (.v 0)),.a (.func 186 [(.v 2,0)])] [(.b (.v 0),.prop 1),(.b (.v 2),.cells [.ptr (.v 3) 0] 113),(.b (.v 3),.cells [.ptr (.v 4) 0,.int .i64 (.v 6),.int .i64 (.v 7),.int .i64 (.v 8),.map (.v 0),.map (.v 9)] 213),(.b (.v 4),.prop 5),(.b (.v 9),.prop 10)] 11=t_delF:=by kernel_rfl
def t_uForget:T :=
(.new
(.call 185 [.a (.map (.v 6)),.a (.func 186 [(.v 10,0)])] [(.b (.v 6),.prop 7),(.b (.v 10),.cells [.ptr (.v 0) 0] 113),(.b (.v 0),.cells [.ptr (.v 1) 0,.int .i64 (.v 3),.int .i64 (.v 4),.int .i64 (.v 5),.map (.v 6),.map (.v 8)] 213),(.b (.v 1),.prop 2),(.b (.v 8),.prop 9)] [.p] (.tup []) [(.b (.v 6),.prop 11),(.b (.v 10),.cells [.ptr (.v 0) 0] 113),(.b (.v 0),.cells [.ptr (.v 1) 0,.int .i64 (.v 3),.int .i64 (.v 4),.int .i64 (.v 5),.map (.v 6),.map (.v 8)] 213),(.b (.v 1),.prop 2),(.b (.v 8),.prop 9)]
(.ret (.tup []) [(.b (.v 0),.cells [.ptr (.v 1) 0,.int .i64 (.v 3),.int .i64 (.v 4),.int .i64 (.v 5),.map (.v 6),.map (.v 8)] 213),(.b (.v 1),.prop 2),(.b (.v 6),.prop 11),(.b (.v 8),.prop 9)])))
theorem tree_uForget:tree Tryz.prog { absT:=[151,247],keep:=[179,181,182,99999,99999,211,212,187,99999,99999,186],turn:=[(185,[0])] } Tryz.f121 [.a (.ptr (.v 0) 0)] [(.b (.v 0),.cells [.ptr (.v 1) 0,.int .i64 (.v 3),.int .i64 (.v 4),.int .i64 (.v 5),.map (.v 6),.map (.v 8)] 213),(.b (.v 1),.prop 2),(.b (.v 6),.prop 7),(.b (.v 8),.prop 9)] 10=t_uForget:=by kernel_rfl
def t_uFollow:T :=
(.call 85 [.a (.sl (.v 10) (.v 11) (.v 12))] [(.a 10,.prop 13)] [.n,.p,.p] (.w (.a (.ptr (.v 14) 0))) [(.b (.v 14),.prop 15),(.a 10,.prop 16)]
(.call 156 [.a (.ptr (.v 14) 0)] [(.b (.v 14),.prop 15)] [.i,.p] (.w (.a (.int .u8 (.v 17)))) [(.b (.v 14),.prop 18)]
(.call 86 [.a (.ptr (.v 14) 0)] [(.b (.v 14),.prop 18)] [.i,.p] (.w (.a (.int .i64 (.v 19)))) [(.b (.v 14),.prop 20)]
(.br (.o2 .eq (.v 17) (.i 1))
(.call 157 [.a (.ptr (.v 14) 0),.a (.int .i64 (.i 65536))] [(.b (.v 14),.prop 20)] [.a,.n,.n,.p,.p] (.w (.a (.sl (.v 21) (.v 22) (.v 23)))) [(.a 21,.prop 24),(.b (.v 14),.prop 25)]
(.new
(.call 89 [.a (.ptr (.v 14) 0)] [(.b (.v 14),.prop 25)] [.i,.p] (.w (.a (.int .i64 (.v 27)))) [(.b (.v 14),.prop 28)]
(.br (.o1 .not (.o2 .eq (.v 27) (.i 0)))
(.ret (.w (.a (.bool (.c false)))) [(.b (.v 0),.cells [.ptr (.v 1) 0,.int .i64 (.v 3),.int .i64 (.v 4),.int .i64 (.v 5),.map (.v 6),.map (.v 8)] 213),(.b (.v 1),.prop 2),(.b (.v 6),.prop 7),(.b (.v 8),.prop 9),(.a 10,.prop 16)])
(.call 179 [.a (.int .i64 (.v 19))] [] [.c] (.w (.a (.bool (.v 29)))) []
(.br (.o1 .not (.v 29))
(.ret (.w (.a (.bool (.c false)))) [(.b (.v 0),.cells [.ptr (.v 1) 0,.int .i64 (.v 3),.int .i64 (.v 4),.int .i64 (.v 5),.map (.v 6),.map (.v 8)] 213),(.b (.v 1),.prop 2),(.b (.v 6),.prop 7),(.b (.v 8),.prop 9),(.a 10,.prop 16)])
(.call 180 [.a (.ptr (.v 0) 0),.a (.int .i64 (.v 19)),.agg [.int .i64 (.i 1),.sl (.v 21) (.v 22) (.v 23)]] [(.b (.v 0),.cells [.ptr (.v 1) 0,.int .i64 (.v 3),.int .i64 (.v 4),.int .i64 (.v 5),.map (.v 6),.map (.v 8)] 213),(.b (.v 1),.prop 2),(.b (.v 6),.prop 7),(.b (.v 8),.prop 9),(.a 21,.prop 24)] [.n,.p,.i,.i,.i,.n,.p,.n,.p,.p] (.tup []) [(.b (.v 0),.cells [.ptr (.v 30) 0,.int .i64 (.v 32),.int .i64 (.v 33),.int .i64 (.v 34),.map (.v 35),.map (.v 37)] 213),(.b (.v 30),.prop 31),(.b (.v 35),.prop 36),(.b (.v 37),.prop 38),(.a 21,.prop 39)]
(.ret (.w (.a (.bool (.c true)))) [(.b (.v 0),.cells [.ptr (.v 30) 0,.int .i64 (.v 32),.int .i64 (.v 33),.int .i64 (.v 34),.map (.v 35),.map (.v 37)] 213),(.b (.v 30),.prop 31),(.b (.v 35),.prop 36),(.b (.v 37),.prop 38),(.a 10,.prop 16)]))))))))
(.br (.o2 .eq (.v 17) (.i 2))
(.call 89 [.a (.ptr (.v 14) 0)] [(.b (.v 14),.prop 20)] [.i,.p] (.w (.a (.int .i64 (.v 21)))) [(.b (.v 14),.prop 22)]
(.br (.o1 .not (.o2 .eq (.v 21) (.i 0)))
(.ret (.w (.a (.bool (.c false)))) [(.b (.v 0),.cells [.ptr (.v 1) 0,.int .i64 (.v 3),.int .i64 (.v 4),.int .i64 (.v 5),.map (.v 6),.map (.v 8)] 213),(.b (.v 1),.prop 2),(.b (.v 6),.prop 7),(.b (.v 8),.prop 9),(.a 10,.prop 16)])
(.call 179 [.a (.int .i64 (.v 19))] [] [.c] (.w (.a (.bool (.v 23)))) []
(.br (.o1 .not (.v 23))
(.ret (.w (.a (.bool (.c false)))) [(.b (.v 0),.cells [.ptr (.v 1) 0,.int .i64 (.v 3),.int .i64 (.v 4),.int .i64 (.v 5),.map (.v 6),.map (.v 8)] 213),(.b (.v 1),.prop 2),(.b (.v 6),.prop 7),(.b (.v 8),.prop 9),(.a 10,.prop 16)])
(.call 180 [.a (.ptr (.v 0) 0),.a (.int .i64 (.v 19)),.agg [.int .i64 (.i 2),.sl .nil (.n 0) (.n 0)]] [(.b (.v 0),.cells [.ptr (.v 1) 0,.int .i64 (.v 3),.int .i64 (.v 4),.int .i64 (.v 5),.map (.v 6),.map (.v 8)] 213),(.b (.v 1),.prop 2),(.b (.v 6),.prop 7),(.b (.v 8),.prop 9)] [.n,.p,.i,.i,.i,.n,.p,.n,.p] (.tup []) [(.b (.v 0),.cells [.ptr (.v 24) 0,.int .i64 (.v 26),.int .i64 (.v 27),.int .i64 (.v 28),.map (.v 29),.map (.v 31)] 213),(.b (.v 24),.prop 25),(.b (.v 29),.prop 30),(.b (.v 31),.prop 32)]
(.ret (.w (.a (.bool (.c true)))) [(.b (.v 0),.cells [.ptr (.v 24) 0,.int .i64 (.v 26),.int .i64 (.v 27),.int .i64 (.v 28),.map (.v 29),.map (.v 31)] 213),(.b (.v 24),.prop 25),(.b (.v 29),.prop 30),(.b (.v 31),.prop 32),(.a 10,.prop 16)]))))))
(.br (.o2 .eq (.v 17) (.i 3))
(.call 89 [.a (.ptr (.v 14) 0)] [(.b (.v 14),.prop 20)] [.i,.p] (.w (.a (.int .i64 (.v 21)))) [(.b (.v 14),.prop 22)]
(.br (.o1 .not (.o2 .eq (.v 21) (.i 0)))
(.ret (.w (.a (.bool (.c false)))) [(.b (.v 0),.cells [.ptr (.v 1) 0,.int .i64 (.v 3),.int .i64 (.v 4),.int .i64 (.v 5),.map (.v 6),.map (.v 8)] 213),(.b (.v 1),.prop 2),(.b (.v 6),.prop 7),(.b (.v 8),.prop 9),(.a 10,.prop 16)])
(.call 179 [.a (.int .i64 (.v 19))] [] [.c] (.w (.a (.bool (.v 23)))) []
(.br (.o1 .not (.v 23))
(.ret (.w (.a (.bool (.c false)))) [(.b (.v 0),.cells [.ptr (.v 1) 0,.int .i64 (.v 3),.int .i64 (.v 4),.int .i64 (.v 5),.map (.v 6),.map (.v 8)] 213),(.b (.v 1),.prop 2),(.b (.v 6),.prop 7),(.b (.v 8),.prop 9),(.a 10,.prop 16)])
(.ret (.w (.a (.bool (.c true)))) [(.b (.v 0),.cells [.ptr (.v 1) 0,.int .i64 (.v 3),.int .i64 (.v 19),.int .i64 (.v 5),.map (.v 6),.map (.v 8)] 213),(.b (.v 1),.prop 2),(.b (.v 6),.prop 7),(.b (.v 8),.prop 9),(.a 10,.prop 16)])))))
(.br (.o2 .eq (.v 17) (.i 4))
(.call 89 [.a (.ptr (.v 14) 0)] [(.b (.v 14),.prop 20)] [.i,.p] (.w (.a (.int .i64 (.v 21)))) [(.b (.v 14),.prop 22)]
(.br (.o1 .not (.o2 .eq (.v 21) (.i 0)))
(.ret (.w (.a (.bool (.c false)))) [(.b (.v 0),.cells [.ptr (.v 1) 0,.int .i64 (.v 3),.int .i64 (.v 4),.int .i64 (.v 5),.map (.v 6),.map (.v 8)] 213),(.b (.v 1),.prop 2),(.b (.v 6),.prop 7),(.b (.v 8),.prop 9),(.a 10,.prop 16)])
(.call 181 [.a (.int .i64 (.v 19))] [] [.c] (.w (.a (.bool (.v 23)))) []
(.br (.o1 .not (.v 23))
(.ret (.w (.a (.bool (.c false)))) [(.b (.v 0),.cells [.ptr (.v 1) 0,.int .i64 (.v 3),.int .i64 (.v 4),.int .i64 (.v 5),.map (.v 6),.map (.v 8)] 213),(.b (.v 1),.prop 2),(.b (.v 6),.prop 7),(.b (.v 8),.prop 9),(.a 10,.prop 16)])
(.ret (.w (.a (.bool (.c true)))) [(.b (.v 0),.cells [.ptr (.v 1) 0,.int .i64 (.v 19),.int .i64 (.v 4),.int .i64 (.v 5),.map (.v 6),.map (.v 8)] 213),(.b (.v 1),.prop 2),(.b (.v 6),.prop 7),(.b (.v 8),.prop 9),(.a 10,.prop 16)])))))
(.br (.o2 .eq (.v 17) (.i 5))
(.call 86 [.a (.ptr (.v 14) 0)] [(.b (.v 14),.prop 20)] [.i,.p] (.w (.a (.int .i64 (.v 21)))) [(.b (.v 14),.prop 22)]
(.call 86 [.a (.ptr (.v 14) 0)] [(.b (.v 14),.prop 22)] [.i,.p] (.w (.a (.int .i64 (.v 23)))) [(.b (.v 14),.prop 24)]
(.new
(.call 89 [.a (.ptr (.v 14) 0)] [(.b (.v 14),.prop 24)] [.i,.p] (.w (.a (.int .i64 (.v 26)))) [(.b (.v 14),.prop 27)]
(.br (.o1 .not (.o2 .eq (.v 26) (.i 0)))
(.ret (.w (.a (.bool (.c false)))) [(.b (.v 0),.cells [.ptr (.v 1) 0,.int .i64 (.v 3),.int .i64 (.v 4),.int .i64 (.v 5),.map (.v 6),.map (.v 8)] 213),(.b (.v 1),.prop 2),(.b (.v 6),.prop 7),(.b (.v 8),.prop 9),(.a 10,.prop 16)])
(.call 182 [.a (.int .i64 (.v 19)),.agg [.int .i64 (.v 21),.int .i64 (.v 23)]] [] [.c] (.w (.a (.bool (.v 28)))) []
(.br (.o1 .not (.v 28))
(.ret (.w (.a (.bool (.c false)))) [(.b (.v 0),.cells [.ptr (.v 1) 0,.int .i64 (.v 3),.int .i64 (.v 4),.int .i64 (.v 5),.map (.v 6),.map (.v 8)] 213),(.b (.v 1),.prop 2),(.b (.v 6),.prop 7),(.b (.v 8),.prop 9),(.a 10,.prop 16)])
(.call 183 [.a (.ptr (.v 0) 0),.a (.int .i64 (.v 19)),.agg [.int .i64 (.v 21),.int .i64 (.v 23)]] [(.b (.v 0),.cells [.ptr (.v 1) 0,.int .i64 (.v 3),.int .i64 (.v 4),.int .i64 (.v 5),.map (.v 6),.map (.v 8)] 213),(.b (.v 1),.prop 2),(.b (.v 6),.prop 7),(.b (.v 8),.prop 9)] [.n,.p,.i,.i,.i,.n,.p,.n,.p] (.tup []) [(.b (.v 0),.cells [.ptr (.v 29) 0,.int .i64 (.v 31),.int .i64 (.v 32),.int .i64 (.v 33),.map (.v 34),.map (.v 36)] 213),(.b (.v 29),.prop 30),(.b (.v 34),.prop 35),(.b (.v 36),.prop 37)]
(.ret (.w (.a (.bool (.c true)))) [(.b (.v 0),.cells [.ptr (.v 29) 0,.int .i64 (.v 31),.int .i64 (.v 32),.int .i64 (.v 33),.map (.v 34),.map (.v 36)] 213),(.b (.v 29),.prop 30),(.b (.v 34),.prop 35),(.b (.v 36),.prop 37),(.a 10,.prop 16)])))))))))
(.br (.o2 .eq (.v 17) (.i 6))
(.call 86 [.a (.ptr (.v 14) 0)] [(.b (.v 14),.prop 20)] [.i,.p] (.w (.a (.int .i64 (.v 21)))) [(.b (.v 14),.prop 22)]
(.call 86 [.a (.ptr (.v 14) 0)] [(.b (.v 14),.prop 22)] [.i,.p] (.w (.a (.int .i64 (.v 23)))) [(.b (.v 14),.prop 24)]
(.new
(.call 157 [.a (.ptr (.v 14) 0),.a (.int .i64 (.i 1000))] [(.b (.v 14),.prop 24)] [.a,.n,.n,.p,.p] (.w (.a (.sl (.v 26) (.v 27) (.v 28)))) [(.a 26,.prop 29),(.b (.v 14),.prop 30)]
(.call 89 [.a (.ptr (.v 14) 0)] [(.b (.v 14),.prop 30)] [.i,.p] (.w (.a (.int .i64 (.v 31)))) [(.b (.v 14),.prop 32)]
(.br (.o1 .not (.o2 .eq (.v 31) (.i 0)))
(.ret (.w (.a (.bool (.c false)))) [(.b (.v 0),.cells [.ptr (.v 1) 0,.int .i64 (.v 3),.int .i64 (.v 4),.int .i64 (.v 5),.map (.v 6),.map (.v 8)] 213),(.b (.v 1),.prop 2),(.b (.v 6),.prop 7),(.b (.v 8),.prop 9),(.a 10,.prop 16)])
(.call 182 [.a (.int .i64 (.v 19)),.agg [.int .i64 (.v 21),.int .i64 (.v 23)]] [] [.c] (.w (.a (.bool (.v 33)))) []
(.br (.o1 .not (.v 33))
(.ret (.w (.a (.bool (.c false)))) [(.b (.v 0),.cells [.ptr (.v 1) 0,.int .i64 (.v 3),.int .i64 (.v 4),.int .i64 (.v 5),.map (.v 6),.map (.v 8)] 213),(.b (.v 1),.prop 2),(.b (.v 6),.prop 7),(.b (.v 8),.prop 9),(.a 10,.prop 16)])
(.call 184 [.a (.ptr (.v 0) 0),.a (.int .i64 (.v 19)),.agg [.int .i64 (.v 21),.int .i64 (.v 23)],.a (.sl (.v 26) (.v 27) (.v 28))] [(.b (.v 0),.cells [.ptr (.v 1) 0,.int .i64 (.v 3),.int .i64 (.v 4),.int .i64 (.v 5),.map (.v 6),.map (.v 8)] 213),(.b (.v 1),.prop 2),(.b (.v 6),.prop 7),(.b (.v 8),.prop 9),(.a 26,.prop 29)] [.n,.p,.i,.i,.i,.n,.p,.n,.p,.p] (.tup []) [(.b (.v 0),.cells [.ptr (.v 34) 0,.int .i64 (.v 36),.int .i64 (.v 37),.int .i64 (.v 38),.map (.v 39),.map (.v 41)] 213),(.b (.v 34),.prop 35),(.b (.v 39),.prop 40),(.b (.v 41),.prop 42),(.a 26,.prop 43)]
(.ret (.w (.a (.bool (.c true)))) [(.b (.v 0),.cells [.ptr (.v 34) 0,.int .i64 (.v 36),.int .i64 (.v 37),.int .i64 (.v 38),.map (.v 39),.map (.v 41)] 213),(.b (.v 34),.prop 35),(.b (.v 39),.prop 40),(.b (.v 41),.prop 42),(.a 10,.prop 16)]))))))))))
(.ret (.w (.a (.bool (.c false)))) [(.b (.v 0),.cells [.ptr (.v 1) 0,.int .i64 (.v 3),.int .i64 (.v 4),.int .i64 (.v 5),.map (.v 6),.map (.v 8)] 213),(.b (.v 1),.prop 2),(.b (.v 6),.prop 7),(.b (.v 8),.prop 9),(.a 10,.prop 16)]))))))))))
theorem tree_uFollow:tree Tryz.prog { absT:=[151,247],keep:=[179,181,182,99999,99999,211,212,187,99999,99999,186],turn:=[(185,[0])] } Tryz.f120 [.a (.ptr (.v 0) 0),.a (.sl (.v 10) (.v 11) (.v 12))] [(.b (.v 0),.cells [.ptr (.v 1) 0,.int .i64 (.v 3),.int .i64 (.v 4),.int .i64 (.v 5),.map (.v 6),.map (.v 8)] 213),(.b (.v 1),.prop 2),(.b (.v 6),.prop 7),(.b (.v 8),.prop 9),(.a 10,.prop 13)] 14=t_uFollow:=by kernel_rfl
def t_uOpen:T :=
(.new
(.new
(.new
(.call 119 [.a (.ptr (.v 0) 0)] [(.b (.v 0),.prop 1)] [.a,.n,.n,.p,.p] (.w (.a (.sl (.v 5) (.v 6) (.v 7)))) [(.a 5,.prop 8),(.b (.v 0),.prop 9)]
(.loop [.v,.p,.i,.i,.p,.p,.n,.i,.i,.i,.n,.n,.p,.p] [.v .nilp,.p [],.e (.o1 .neg (.o1 .neg (.i 0))),.e (.o1 .neg (.o1 .neg (.i 0))),.p [(.a 5,.prop 8)],.p [(.b (.v 0),.prop 9)],.n (.v 0),.e (.o1 .neg (.o1 .neg (.i 0))),.e (.o1 .neg (.o1 .neg (.i 0))),.e (.o1 .neg (.o1 .neg (.i 0))),.n (.v 2),.n (.v 3),.p [(.b (.v 3),.emap)],.p [(.b (.v 2),.emap)]]
(.br (.o2 .lt (.v 13) (.o1 .ofNat (.v 6)))
(.need (.o2 .le (.i 0) (.v 13))
(.need (.o1 .isSome (.v 5))
(.read (.load 28 (.tmp 17)) 28 [(17,.w (.a (.eptr 5 (.v 13) 1 0)))] [(.a 5,.prop 14)] [.a,.n,.n] (.w (.a (.sl (.v 24) (.v 25) (.v 26))))
(.call 120 [.a (.ptr (.v 4) 0),.a (.sl (.v 24) (.v 25) (.v 26))] [(.b (.v 4),.cells [.ptr (.v 16) 0,.int .i64 (.v 17),.int .i64 (.v 18),.int .i64 (.v 19),.map (.v 20),.map (.v 21)] 213),(.b (.v 16),.prop 15),(.b (.v 20),.prop 23),(.b (.v 21),.prop 22),(.a 5,.prop 14)] [.c,.n,.p,.i,.i,.i,.n,.p,.n,.p,.p] (.w (.a (.bool (.v 27)))) [(.b (.v 4),.cells [.ptr (.v 28) 0,.int .i64 (.v 30),.int .i64 (.v 31),.int .i64 (.v 32),.map (.v 33),.map (.v 35)] 213),(.b (.v 28),.prop 29),(.b (.v 33),.prop 34),(.b (.v 35),.prop 36),(.a 5,.prop 37)]
(.br (.o1 .not (.v 27))
(.ret (.tup [.a .nilp,.a (.int .i64 (.i 3))]) [])
(.need (.o1 (.inr .i64) (.o2 .add (.v 13) (.i 1)))
(.again 0 [.v (.val 10),.p [(.a 10,.prop 11)],.e (.o1 .neg (.o1 .neg (.v 12))),.e (.o1 .neg (.o1 .neg (.o2 .add (.v 13) (.i 1)))),.p [(.a 5,.prop 37)],.p [(.b (.v 28),.prop 29)],.n (.v 28),.e (.o1 .neg (.o1 .neg (.v 30))),.e (.o1 .neg (.o1 .neg (.v 31))),.e (.o1 .neg (.o1 .neg (.v 32))),.n (.v 33),.n (.v 35),.p [(.b (.v 35),.prop 36)],.p [(.b (.v 33),.prop 34)]])))))))
(.call 121 [.a (.ptr (.v 4) 0)] [(.b (.v 4),.cells [.ptr (.v 16) 0,.int .i64 (.v 17),.int .i64 (.v 18),.int .i64 (.v 19),.map (.v 20),.map (.v 21)] 213),(.b (.v 16),.prop 15),(.b (.v 20),.prop 23),(.b (.v 21),.prop 22)] [.n,.p,.i,.i,.i,.n,.p,.n,.p] (.tup []) [(.b (.v 4),.cells [.ptr (.v 24) 0,.int .i64 (.v 26),.int .i64 (.v 27),.int .i64 (.v 28),.map (.v 29),.map (.v 31)] 213),(.b (.v 24),.prop 25),(.b (.v 29),.prop 30),(.b (.v 31),.prop 32)]
(.ret (.tup [.a (.ptr (.v 4) 0),.a (.int .i64 (.i 0))]) [(.b (.v 4),.cells [.ptr (.v 24) 0,.int .i64 (.v 26),.int .i64 (.v 27),.int .i64 (.v 28),.map (.v 29),.map (.v 31)] 213),(.b (.v 24),.prop 25),(.b (.v 29),.prop 30),(.b (.v 31),.prop 32)]))))))))
theorem tree_uOpen:tree Tryz.prog { absT:=[151,247],hv:=[(0,[.a 5,.b (.v 0),.b (.v 4),.b (.v 3),.b (.v 2)])],keep:=[179,181,182,99999,99999,211,212,187,99999,99999,186],turn:=[(185,[0])] } Tryz.f55 [.a (.ptr (.v 0) 0)] [(.b (.v 0),.prop 1)] 2=t_uOpen:=by kernel_rfl
def t_uRead:T :=
(.new
(.call 211 [.a (.ptr (.v 0) 0),.a (.int .i64 (.v 10)),.a (.int .i64 (.v 11))] [(.b (.v 0),.cells [.ptr (.v 1) 0,.int .i64 (.v 3),.int .i64 (.v 4),.int .i64 (.v 5),.map (.v 6),.map (.v 8)] 213),(.b (.v 1),.prop 2),(.b (.v 6),.prop 7),(.b (.v 8),.prop 9)] [.i] (.w (.a (.int .i64 (.v 13)))) [(.b (.v 0),.cells [.ptr (.v 1) 0,.int .i64 (.v 3),.int .i64 (.v 4),.int .i64 (.v 5),.map (.v 6),.map (.v 8)] 213),(.b (.v 1),.prop 2),(.b (.v 6),.prop 7),(.b (.v 8),.prop 9)]
(.br (.o1 .not (.o2 .eq (.v 13) (.i 0)))
(.ret (.tup [.agg [.int .i64 (.i 0),.sl .nil (.n 0) (.n 0)],.a (.int .i64 (.v 13))]) [(.b (.v 0),.cells [.ptr (.v 1) 0,.int .i64 (.v 3),.int .i64 (.v 4),.int .i64 (.v 5),.map (.v 6),.map (.v 8)] 213),(.b (.v 1),.prop 2),(.b (.v 6),.prop 7),(.b (.v 8),.prop 9)])
(.br (.o2 .lt (.v 11) (.v 4))
(.ret (.tup [.agg [.int .i64 (.i 0),.sl .nil (.n 0) (.n 0)],.a (.int .i64 (.i 11))]) [(.b (.v 0),.cells [.ptr (.v 1) 0,.int .i64 (.v 3),.int .i64 (.v 4),.int .i64 (.v 5),.map (.v 6),.map (.v 8)] 213),(.b (.v 1),.prop 2),(.b (.v 6),.prop 7),(.b (.v 8),.prop 9)])
(.call 212 [.a (.ptr (.v 0) 0),.a (.int .i64 (.v 11))] [(.b (.v 0),.cells [.ptr (.v 1) 0,.int .i64 (.v 3),.int .i64 (.v 4),.int .i64 (.v 5),.map (.v 6),.map (.v 8)] 213),(.b (.v 1),.prop 2),(.b (.v 6),.prop 7),(.b (.v 8),.prop 9)] [.i,.a,.n,.n,.p,.c] (.tup [.agg [.int .i64 (.v 14),.sl (.v 15) (.v 16) (.v 17)],.a (.bool (.v 19))]) [(.a 15,.prop 18),(.b (.v 0),.cells [.ptr (.v 1) 0,.int .i64 (.v 3),.int .i64 (.v 4),.int .i64 (.v 5),.map (.v 6),.map (.v 8)] 213),(.b (.v 1),.prop 2),(.b (.v 6),.prop 7),(.b (.v 8),.prop 9)]
(.new
(.br (.o1 .not (.v 19))
(.ret (.tup [.agg [.int .i64 (.i 0),.sl .nil (.n 0) (.n 0)],.a (.int .i64 (.i 9))]) [(.b (.v 0),.cells [.ptr (.v 1) 0,.int .i64 (.v 3),.int .i64 (.v 4),.int .i64 (.v 5),.map (.v 6),.map (.v 8)] 213),(.b (.v 1),.prop 2),(.b (.v 6),.prop 7),(.b (.v 8),.prop 9)])
(.ret (.tup [.agg [.int .i64 (.v 14),.sl (.v 15) (.v 16) (.v 17)],.a (.int .i64 (.i 0))]) [(.b (.v 0),.cells [.ptr (.v 1) 0,.int .i64 (.v 3),.int .i64 (.v 4),.int .i64 (.v 5),.map (.v 6),.map (.v 8)] 213),(.b (.v 1),.prop 2),(.b (.v 6),.prop 7),(.b (.v 8),.prop 9),(.a 15,.prop 18)]))))))))
theorem tree_uRead:tree Tryz.prog { absT:=[151,247],keep:=[179,181,182,99999,99999,211,212,187,99999,99999,186],turn:=[(185,[0])] } Tryz.f188 [.a (.ptr (.v 0) 0),.a (.int .i64 (.v 10)),.a (.int .i64 (.v 11))] [(.b (.v 0),.cells [.ptr (.v 1) 0,.int .i64 (.v 3),.int .i64 (.v 4),.int .i64 (.v 5),.map (.v 6),.map (.v 8)] 213),(.b (.v 1),.prop 2),(.b (.v 6),.prop 7),(.b (.v 8),.prop 9)] 12=t_uRead:=by kernel_rfl
end Go.Proofs.YtdieogcemmnaaaaGreatDoor.RX

namespace Go.Proofs.YtdieogcemmnaaaaGreatDoor
set_option linter.unusedSimpArgs false
set_option linter.unusedVariables false
open Go.Proofs.YtdieogcemmnaaaaGreatDoor RX
def numOk (n:Int):Bool:=decide (0 ≤ n) && decide (n ≤ 2147483647)
def propOk (n r w:Int):Bool:=decide (1 ≤ n) && decide (n ≤ 2147483647) && numOk r && numOk w
def addrOk (n:Int):Bool:=decide (0 ≤ n) && decide (n ≤ 4294967296)
theorem unum_ok (n:Int):Tri Tryz.prog 181 #[.int .i64 n] HP.tt (fun v=>HP.and (v = .bool (numOk n)) HP.tt):=by
 refine tri_of_tree (ρ:=[.i n]) mixed Tryz.func181 tree_number ?_
 unfold t_number
 simp only [T.den,E.prop,E.den,RX.look,F1.app,F2.app,Uni.int_i,Uni.nat_n,Uni.bool_c,Uni.str_s,Uni.adr_a,Uni.val_v,Uni.hp_p,hden,cden,V.den,W.den,A.den,BR.den,SA.den,FV.den,capV,exs,exP,allP,Cur.app,List.map_cons,List.map_nil,List.cons_append,List.nil_append,List.drop_succ_cons,List.drop_zero,List.length_cons,List.length_nil,Nat.zero_add,Nat.reduceAdd,Int.neg_neg,Bool.not_not,List.append_nil,Nat.add_zero,List.getElem?_cons_zero,List.getElem?_cons_succ,Decidable.not_not]
 refine ⟨fun h => .of fun R h' _=>⟨?_,trivial⟩,fun h => .of fun R h' _=>⟨?_,trivial⟩⟩
 ·simp [numOk,h]; congr
 ·simp [numOk,h]
theorem uprop_ok (n r w:Int):Tri Tryz.prog 182 #[.int .i64 n,.agg #[.int .i64 r,.int .i64 w]] HP.tt (fun v=>HP.and (v = .bool (propOk n r w)) HP.tt):=by
 refine tri_of_tree (ρ:=[.i n,.i r,.i w]) mixed Tryz.func182 tree_proposal ?_
 unfold t_proposal
 simp only [T.den,E.prop,E.den,RX.look,F1.app,F2.app,Uni.int_i,Uni.nat_n,Uni.bool_c,Uni.str_s,Uni.adr_a,Uni.val_v,Uni.hp_p,hden,cden,V.den,W.den,A.den,BR.den,SA.den,FV.den,capV,exs,exP,allP,Cur.app,List.map_cons,List.map_nil,List.cons_append,List.nil_append,List.drop_succ_cons,List.drop_zero,List.length_cons,List.length_nil,Nat.zero_add,Nat.reduceAdd,Int.neg_neg,Bool.not_not,List.append_nil,Nat.add_zero,List.getElem?_cons_zero,List.getElem?_cons_succ,Decidable.not_not]
 refine fun x=>⟨fun h1=>⟨fun h2 => ?_,fun h2 => .of fun R h' _=>⟨?_,trivial⟩⟩,fun h1 => .of fun R h' _=>⟨?_,trivial⟩⟩
 ·refine (unum_ok r).weak (fun _ _ h=>h) ?_
  rintro v R h ⟨rfl,H⟩
  refine ⟨_,rfl,⟨fun h3 => ?_,fun h3 => .of fun R h' _=>⟨?_,trivial⟩⟩,H⟩
  ·refine (unum_ok w).weak (fun _ _ h=>h) ?_
   rintro v R h ⟨rfl,H⟩
   refine ⟨_,rfl,.of fun R h' _=>⟨?_,trivial⟩,H⟩
   simp [propOk,h1,h2,h3]
  ·simp only [Bool.not_eq_true] at h3; simp [propOk,h3]
 ·simp [propOk,h2]
 ·simp [propOk,h1]
theorem uaddr_ok (n:Int):Tri Tryz.prog 179 #[.int .i64 n] HP.tt (fun v=>HP.and (v = .bool (addrOk n)) HP.tt):=by
 refine tri_of_tree (ρ:=[.i n]) mixed Tryz.func179 tree_address ?_
 unfold t_address
 simp only [T.den,E.prop,E.den,RX.look,F1.app,F2.app,Uni.int_i,Uni.nat_n,Uni.bool_c,Uni.str_s,Uni.adr_a,Uni.val_v,Uni.hp_p,hden,cden,V.den,W.den,A.den,BR.den,SA.den,FV.den,capV,exs,exP,allP,Cur.app,List.map_cons,List.map_nil,List.cons_append,List.nil_append,List.drop_succ_cons,List.drop_zero,List.length_cons,List.length_nil,Nat.zero_add,Nat.reduceAdd,Int.neg_neg,Bool.not_not,List.append_nil,Nat.add_zero,List.getElem?_cons_zero,List.getElem?_cons_succ,Decidable.not_not]
 refine ⟨fun h => .of fun R h' _=>⟨?_,trivial⟩,fun h => .of fun R h' _=>⟨?_,trivial⟩⟩
 ·simp [addrOk,h]; congr
 ·simp [addrOk,h]
theorem Tri.pre {P:Program} {f:FuncId} {args:Array Value} {A A':HP} {B:Value → HP} (t:Tri P f args A B) (e:HP.ent A' A):Tri P f args A' B :=
 t.conseq (K:=HP.tt) (e.trans (.of fun _ _=>HP.sep_tt)) fun _ => .of fun _ _=>HP.sep_left
structure CellS where
 what:Int
 data:List UInt8
end Go.Proofs.YtdieogcemmnaaaaGreatDoor

namespace Go.Proofs.YtdieogcemmnaaaaGreatDoor
set_option linter.unusedSimpArgs false
set_option linter.unusedVariables false
open Go.Proofs.YtdieogcemmnaaaaGreatDoor RX
structure InstS where
 pr:Int
 pw:Int
 ar:Int
 aw:Int
 val:List UInt8
def CellV (v:Value) (x:CellS):HP:=HP.ex fun a=>HP.ex fun c=>HP.and (v = .agg #[.int .i64 x.what,.slice a x.data.length c] ∧ x.data.length ≤ 140737488355328) (RoB a x.data.length x.data)
def InstV (v:Value) (x:InstS):HP:=HP.ex fun a=>HP.ex fun c=>HP.and (v = .agg #[.int .i64 x.pr,.int .i64 x.pw,.int .i64 x.ar,.int .i64 x.aw,.slice a x.val.length c] ∧ x.val.length ≤ 140737488355328) (RoB a x.val.length x.val)
theorem cellV_pers:Pers CellV:=fun _ _ _ _ _ ⟨a,c,e,H⟩=>⟨a,c,e,H⟩
theorem instV_pers:Pers InstV:=fun _ _ _ _ _ ⟨a,c,e,H⟩=>⟨a,c,e,H⟩
def iE (n:Int):Value := .int .i64 n
theorem iK:KeyEnc Tryz.prog 3 iE:=int_enc (by kernel_rfl)
theorem undMc:Tryz.prog.underlying 210=some (.map 3 68):=by kernel_rfl
theorem undMi:Tryz.prog.underlying 211=some (.map 3 295):=by kernel_rfl
theorem infoC:(Tryz.prog.info? 68).map (fun i=>(i.zero,i.size,i.bytes))=some (some (.agg #[.int .i64 0,.slice none 0 0]),2,32):=by kernel_rfl
theorem infoI:(Tryz.prog.info? 295).map (fun i=>(i.zero,i.size,i.bytes))=some (some (.agg #[.int .i64 0,.int .i64 0,.int .i64 0,.int .i64 0,.slice none 0 0]),5,56):=by kernel_rfl
structure USt where
 epoch:Int
 low:Int
 top:Int
 cells:Int → Option CellS
 inst:Int → Option InstS
def UOne (ub bd mc mi:Nat) (s:USt):HP:=HP.one ub (.cells #[.pointer (some ⟨bd,0,none⟩),.int .i64 s.epoch,.int .i64 s.low,.int .i64 s.top,.map (some mc),.map (some mi)] 213)
def URep (ub bd:Nat) (D:HP) (s:USt):HP:=HP.ex fun mc=>HP.ex fun mi=>HP.sep (UOne ub bd mc mi s) (HP.sep D (HP.sep (MapE CellV iE mc s.cells) (MapE InstV iE mi s.inst)))
theorem URep.tri {f:FuncId} {args:Array Value} {ub bd:Nat} {D:HP} {s:USt} {B:Value → HP}
  (t : ∀ mc mi lc cc li ci,Tri Tryz.prog f args (HP.sep (UOne ub bd mc mi s) (HP.sep D (HP.sep (MapH CellV iE mc s.cells lc cc) (MapH InstV iE mi s.inst li ci)))) B):Tri Tryz.prog f args (URep ub bd D s) B:=by
 refine Tri.ex fun mc=>Tri.ex fun mi => ?_
 refine (Tri.ex (A:=fun lc=>HP.ex fun cc=>HP.ex fun li=>HP.ex fun ci=>HP.sep (UOne ub bd mc mi s) (HP.sep D (HP.sep (MapH CellV iE mc s.cells lc cc) (MapH InstV iE mi s.inst li ci)))) fun lc=>Tri.ex fun cc=>Tri.ex fun li=>Tri.ex fun ci=>t mc mi lc cc li ci).weak ?_ fun _ _ _ h=>h
 rintro R h ⟨h1,h2,d,l1,l2,H1,h3,h4,d2,l3,l4,H2,h5,h6,d3,l5,l6,⟨lc,cc,H3⟩,⟨li,ci,H4⟩⟩
 exact ⟨lc,cc,li,ci,h1,h2,d,l1,l2,H1,h3,h4,d2,l3,l4,H2,h5,h6,d3,l5,l6,H3,H4⟩
theorem URep.of {ub bd mc mi:Nat} {D:HP} {s:USt} {R h:PH} (H:(HP.sep (UOne ub bd mc mi s) (HP.sep D (HP.sep (MapE CellV iE mc s.cells) (MapE InstV iE mi s.inst)))).p R h):(URep ub bd D s).p R h:=⟨mc,mi,H⟩
theorem URep.ofH {ub bd mc mi:Nat} {D:HP} {s:USt} {lc:AL Int} {cc:Nat} {li:AL Int} {ci:Nat} {R h:PH} (H:(HP.sep (UOne ub bd mc mi s) (HP.sep D (HP.sep (MapH CellV iE mc s.cells lc cc) (MapH InstV iE mi s.inst li ci)))).p R h):(URep ub bd D s).p R h:=by
 obtain ⟨h1,h2,d,l1,l2,H1,h3,h4,d2,l3,l4,H2,h5,h6,d3,l5,l6,H3,H4⟩:=H
 exact ⟨mc,mi,h1,h2,d,l1,l2,H1,h3,h4,d2,l3,l4,H2,h5,h6,d3,l5,l6,⟨_,_,H3⟩,⟨_,_,H4⟩⟩
theorem uEpoch_ok (ub bd:Nat) (D:HP) (s:USt):Tri Tryz.prog 187 #[.pointer (some ⟨ub,0,none⟩)] (URep ub bd D s) (fun v=>HP.and (v = .int .i64 s.epoch) (URep ub bd D s)):=by
 refine URep.tri fun mc mi lc cc li ci => ?_
 refine tri_of_tree (ρ:=[.n ub,.n bd,.p D,.i s.epoch,.i s.low,.i s.top,.n mc,.p (MapH CellV iE mc s.cells lc cc),.n mi,.p (MapH InstV iE mi s.inst li ci)]) mixed Tryz.func187 tree_uEpoch ?_
 unfold t_uEpoch
 simp only [T.den,E.prop,E.den,RX.look,F1.app,F2.app,Uni.int_i,Uni.nat_n,Uni.bool_c,Uni.str_s,Uni.adr_a,Uni.val_v,Uni.hp_p,hden,cden,V.den,W.den,A.den,BR.den,SA.den,FV.den,capV,exs,exP,allP,Cur.app,List.map_cons,List.map_nil,List.cons_append,List.nil_append,List.drop_succ_cons,List.drop_zero,List.length_cons,List.length_nil,Nat.zero_add,Nat.reduceAdd,Int.neg_neg,Bool.not_not,List.append_nil,Nat.add_zero,List.getElem?_cons_zero,List.getElem?_cons_succ,Decidable.not_not]
 exact .of fun R h H=>⟨trivial,URep.ofH H⟩
def reachE (s:USt) (epoch at':Int):Int:=if epoch=s.epoch then (if addrOk at' then 0 else 2) else 8
theorem uReachRaw_ok (ub bd mc mi:Nat) (D C I:HP) (s:USt) (epoch at':Int):Tri Tryz.prog 211 #[.pointer (some ⟨ub,0,none⟩),.int .i64 epoch,.int .i64 at'] (HP.sep (UOne ub bd mc mi s) (HP.sep D (HP.sep C I)))
  (fun v=>HP.and (v = .int .i64 (reachE s epoch at')) (HP.sep (UOne ub bd mc mi s) (HP.sep D (HP.sep C I)))):=by
 refine tri_of_tree (ρ:=[.n ub,.n bd,.p D,.i s.epoch,.i s.low,.i s.top,.n mc,.p C,.n mi,.p I,.i epoch,.i at']) mixed Tryz.func211 tree_uReach ?_
 unfold t_uReach
 simp only [T.den,E.prop,E.den,RX.look,F1.app,F2.app,Uni.int_i,Uni.nat_n,Uni.bool_c,Uni.str_s,Uni.adr_a,Uni.val_v,Uni.hp_p,hden,cden,V.den,W.den,A.den,BR.den,SA.den,FV.den,capV,exs,exP,allP,Cur.app,List.map_cons,List.map_nil,List.cons_append,List.nil_append,List.drop_succ_cons,List.drop_zero,List.length_cons,List.length_nil,Nat.zero_add,Nat.reduceAdd,Int.neg_neg,Bool.not_not,List.append_nil,Nat.add_zero,List.getElem?_cons_zero,List.getElem?_cons_succ,Decidable.not_not]
 refine ⟨fun h => .of fun R y H=>⟨by rw [reachE,if_neg h],H⟩,fun h=>(uaddr_ok at').weak (fun _ _ h=>h) ?_⟩
 rintro v R y ⟨rfl,H⟩
 refine ⟨_,rfl,⟨fun h2 => .of fun R y H=>⟨by rw [reachE,if_pos h,if_neg h2],H⟩,fun h2 => .of fun R y H=>⟨by rw [reachE,if_pos h,if_pos h2],H⟩⟩,H⟩
theorem uPut_ok (ub bd mc mi:Nat) (D I:HP) (s:USt) (lc:AL Int) (cc:Nat) (at' what:Int) (a:Option Addr) (n c:Nat) (d:List UInt8) (S:HP) (hr:RdL S a n (d.map u8v)) (hl:d.length=n) (hb:n ≤ 140737488355328) (hat:addrOk at'=true) :
  Tri Tryz.prog 180 #[.pointer (some ⟨ub,0,none⟩),.int .i64 at',.agg #[.int .i64 what,.slice a n c]] (HP.sep (UOne ub bd mc mi s) (HP.sep D (HP.sep (MapH CellV iE mc s.cells lc cc) (HP.sep I S))))
  (fun v=>HP.and (v = .tuple #[]) (HP.sep (UOne ub bd mc mi { s with top:=max s.top (at' + 1) }) (HP.sep D (HP.sep (MapE CellV iE mc (fput s.cells at' (some ⟨what,d⟩))) (HP.sep I S))))):=by
 refine tri_of_tree (ρ:=[.n ub,.n bd,.p D,.i s.epoch,.i s.low,.i s.top,.n mc,.p (MapH CellV iE mc s.cells lc cc),.n mi,.p I,.i at',.i what,.a a,.n n,.n c,.p S]) mixed Tryz.func180 tree_uPut ?_
 unfold t_uPut
 simp only [T.den,E.prop,E.den,RX.look,F1.app,F2.app,Uni.int_i,Uni.nat_n,Uni.bool_c,Uni.str_s,Uni.adr_a,Uni.val_v,Uni.hp_p,hden,cden,V.den,W.den,A.den,BR.den,SA.den,FV.den,capV,exs,exP,allP,Cur.app,List.map_cons,List.map_nil,List.cons_append,List.nil_append,List.drop_succ_cons,List.drop_zero,List.length_cons,List.length_nil,Nat.zero_add,Nat.reduceAdd,Int.neg_neg,Bool.not_not,List.append_nil,Nat.add_zero,List.getElem?_cons_zero,List.getElem?_cons_succ,Decidable.not_not]
 intro x
 refine (cloneR_ok S a n c d hr hl hb).weak (fun _ _ h=>h) ?_
 rintro v R h ⟨a',c',rfl,H⟩
 refine ⟨a',n,c',RoB a' n d,S,rfl,?_,H⟩
 rw [semOf_update (by decide) (by decide) (by decide)]
 simp only [T.den,E.prop,E.den,RX.look,F1.app,F2.app,Uni.int_i,Uni.nat_n,Uni.bool_c,Uni.str_s,Uni.adr_a,Uni.val_v,Uni.hp_p,hden,cden,V.den,W.den,A.den,BR.den,SA.den,FV.den,capV,exs,exP,allP,Cur.app,List.map_cons,List.map_nil,List.cons_append,List.nil_append,List.drop_succ_cons,List.drop_zero,List.length_cons,List.length_nil,Nat.zero_add,Nat.reduceAdd,Int.neg_neg,Bool.not_not,List.append_nil,Nat.add_zero,List.getElem?_cons_zero,List.getElem?_cons_succ,Decidable.not_not]
 refine (MapH.put iK undMc cellV_pers at' _ ⟨what,d⟩ (fun R h H => ?_)).weak (fun _ _ h=>h) ?_
 ·subst hl
  exact ⟨a',c',⟨rfl,hb⟩,H⟩
 ·rintro v R h ⟨rfl,H⟩
  simp only [addrOk,Bool.and_eq_true,decide_eq_true_eq] at hat
  exact ⟨_,rfl,⟨inI64 _ (by omega) (by omega),fun _ => .of fun R h H=>⟨trivial,H⟩⟩,H⟩
theorem Rd.imp {S T:HP} {a:Option Addr} {xs:List Value} (r:Rd T a xs) (h : ∀ R x,S.p R x → T.p R x):Rd S a xs:=fun w R x F s p=>r w R x F s (h R x p)
theorem RdL.imp {S:HP} {a:Option Addr} {n:Nat} {l:List UInt8} (h : ∀ R x,S.p R x → (RoB a n l).p R x):RdL S a n (l.map u8v) :=
 ⟨Rd.imp (RdL.ro 1 a n (l.map u8v)).rd h,fun R x p=>(RdL.ro 1 a n (l.map u8v)).none R x (h R x p)⟩
theorem uCell_ok (ub bd mc mi:Nat) (D I:HP) (s:USt) (lc:AL Int) (cc:Nat) (at':Int) :
  Tri Tryz.prog 212 #[.pointer (some ⟨ub,0,none⟩),.int .i64 at'] (HP.sep (UOne ub bd mc mi s) (HP.sep D (HP.sep (MapH CellV iE mc s.cells lc cc) I)))
  (fun v=>HP.ex fun a=>HP.ex fun c=>HP.and (v = .tuple #[.agg #[.int .i64 ((s.cells at').getD ⟨0,[]⟩).what,.slice a ((s.cells at').getD ⟨0,[]⟩).data.length c],.bool (s.cells at').isSome]) (HP.sep (RoB a ((s.cells at').getD ⟨0,[]⟩).data.length ((s.cells at').getD ⟨0,[]⟩).data) (HP.sep (UOne ub bd mc mi s) (HP.sep D (HP.sep (MapH CellV iE mc s.cells lc cc) I))))):=by
 refine Tri.fact (φ := ∃ a c,(alFind at' lc).getD (.agg #[.int .i64 0,.slice none 0 0]) = .agg #[.int .i64 ((s.cells at').getD ⟨0,[]⟩).what,.slice a ((s.cells at').getD ⟨0,[]⟩).data.length c] ∧ (alFind at' lc).isSome=(s.cells at').isSome ∧ ((s.cells at').getD ⟨0,[]⟩).data.length ≤ 140737488355328 ∧
   ∀ R h,(MapH CellV iE mc s.cells lc cc).p R h → (RoB a ((s.cells at').getD ⟨0,[]⟩).data.length ((s.cells at').getD ⟨0,[]⟩).data).p R h) (fun R h H => ?_) ?_
 ·have HM:=HP.sep_left (HP.sep_right (HP.sep_right H))
  cases hc:s.cells at' with
  | none =>
   rw [MapH.no HM hc]
   exact ⟨none,0,rfl,rfl,by simp,fun _ _ _=>RoC.nil _ _ _ _⟩
  | some x =>
   obtain ⟨v,hv,a,c,⟨e,hb⟩,_⟩:=MapH.yes HM cellV_pers hc PH.none'
   rw [hv]
   refine ⟨a,c,e,rfl,hb,fun R2 h2 H2 => ?_⟩
   obtain ⟨v2,hv2,a2,c2,⟨e2,_⟩,hr⟩:=MapH.yes H2 cellV_pers hc h2
   rw [hv] at hv2
   cases hv2
   rw [e] at e2
   cases e2
   exact hr
 rintro ⟨a,c,hval,hsome,hb,hro⟩
 refine tri_of_tree (ρ:=[.n ub,.n bd,.p D,.i s.epoch,.i s.low,.i s.top,.n mc,.p (MapH CellV iE mc s.cells lc cc),.n mi,.p I,.i at']) mixed Tryz.func212 tree_uCell ?_
 unfold t_uCell
 simp only [T.den,E.prop,E.den,RX.look,F1.app,F2.app,Uni.int_i,Uni.nat_n,Uni.bool_c,Uni.str_s,Uni.adr_a,Uni.val_v,Uni.hp_p,hden,cden,V.den,W.den,A.den,BR.den,SA.den,FV.den,capV,exs,exP,allP,Cur.app,List.map_cons,List.map_nil,List.cons_append,List.nil_append,List.drop_succ_cons,List.drop_zero,List.length_cons,List.length_nil,Nat.zero_add,Nat.reduceAdd,Int.neg_neg,Bool.not_not,List.append_nil,Nat.add_zero,List.getElem?_cons_zero,List.getElem?_cons_succ,Decidable.not_not]
 intro x
 obtain ⟨i,hi,z1,_⟩:=info_parts infoC
 have hlook:=look_ok (r:=mc) (l:=lc) (c:=cc) iK undMc hi z1 at' true (A:=MapH CellV iE mc s.cells lc cc) (fun R h H=>MapH.at H)
 rw [if_pos rfl,hval,hsome] at hlook
 refine ⟨_,_,_,_,_,hlook,fun y => ?_⟩
 refine (cloneR_ok (MapH CellV iE mc s.cells lc cc) a _ c ((s.cells at').getD ⟨0,[]⟩).data (RdL.imp hro) rfl hb).weak (fun _ _ h=>h) ?_
 rintro v R h ⟨a',c',rfl,H⟩
 refine ⟨a',_,c',RoB a' ((s.cells at').getD ⟨0,[]⟩).data.length ((s.cells at').getD ⟨0,[]⟩).data,MapH CellV iE mc s.cells lc cc,rfl,.of fun R h H=>⟨a',c',rfl,?_⟩,H⟩
 refine RoC.join (HP.sep_right (HP.sep_right (HP.sep_right (HP.sep_right H)))) ?_
 exact HP.sep_mono H (fun _ h=>h) fun y hy=>HP.sep_mono hy (fun _ h=>h) fun z hz=>HP.sep_mono hz (fun _ h=>h) fun q hq=>HP.sep_left hq
end Go.Proofs.YtdieogcemmnaaaaGreatDoor

namespace Go.Proofs.YtdieogcemmnaaaaGreatDoor
set_option linter.unusedSimpArgs false
set_option linter.unusedVariables false
open Go.Proofs.YtdieogcemmnaaaaGreatDoor RX
theorem MapH.put1 {κ α:Type} [DecidableEq κ] {enc:κ → Value} {r c:Nat} {l:AL κ} {V:Value → α → HP} {f:κ → Option α} {kt et t:TypeId} (K:KeyEnc Tryz.prog kt enc) (ht:Tryz.prog.underlying t=some (.map kt et)) (hV:Pers V) (k:κ) (v:Value) (x:α) (hv : ∀ R h,(MapH V enc r f l c).p R h → (V v x).p R h) :
  OTri Tryz.prog (updS t (.map (some r)) (enc k) v) (MapH V enc r f l c) (fun z=>HP.and (z = .tuple #[]) (MapE V enc r (fput f k (some x)))) :=
 (MapH.put (r:=r) (l:=l) (c:=c) (f:=f) K ht hV k v x (A:=V v x) (fun _ _ h=>h)).weak (fun R h H=>⟨h,PH.none',PH.dj_none h,PH.le.refl _,PH.none_le _,H,hV _ _ _ _ _ (hv R h H)⟩) (fun z R h ⟨e,H⟩=>⟨e,HP.sep_left H⟩)
def zI:InstS:=⟨0,0,0,0,[]⟩
def instAt (s:USt) (n:Int):InstS:=(s.inst n).getD zI
theorem inst_look (mi:Nat) (s:USt) (li:AL Int) (ci:Nat) (n:Int) {R h:PH} (HM:(MapH InstV iE mi s.inst li ci).p R h) :
  ∃ a c,(alFind n li).getD (.agg #[.int .i64 0,.int .i64 0,.int .i64 0,.int .i64 0,.slice none 0 0]) = .agg #[.int .i64 (instAt s n).pr,.int .i64 (instAt s n).pw,.int .i64 (instAt s n).ar,.int .i64 (instAt s n).aw,.slice a (instAt s n).val.length c] ∧ (instAt s n).val.length ≤ 140737488355328 ∧
   ∀ R h,(MapH InstV iE mi s.inst li ci).p R h → (RoB a (instAt s n).val.length (instAt s n).val).p R h:=by
 unfold instAt
 cases hc:s.inst n with
 | none =>
  rw [MapH.no HM hc]
  exact ⟨none,0,rfl,by simp [zI],fun _ _ _=>RoC.nil _ _ _ _⟩
 | some x =>
  obtain ⟨v,hv,a,c,⟨e,hb⟩,_⟩:=MapH.yes HM instV_pers hc PH.none'
  rw [hv]
  refine ⟨a,c,e,hb,fun R2 h2 H2 => ?_⟩
  obtain ⟨v2,hv2,a2,c2,⟨e2,_⟩,hr⟩:=MapH.yes H2 instV_pers hc h2
  rw [hv] at hv2
  cases hv2
  rw [e] at e2
  cases e2
  exact hr
def promS (s:USt) (n r w:Int):USt:={ s with inst:=fput s.inst n (some { instAt s n with pr:=r,pw:=w }) }
theorem uProm_ok (ub bd mc mi:Nat) (D C:HP) (s:USt) (li:AL Int) (ci:Nat) (n r w:Int) :
  Tri Tryz.prog 183 #[.pointer (some ⟨ub,0,none⟩),.int .i64 n,.agg #[.int .i64 r,.int .i64 w]] (HP.sep (UOne ub bd mc mi s) (HP.sep D (HP.sep C (MapH InstV iE mi s.inst li ci))))
  (fun v=>HP.and (v = .tuple #[]) (HP.sep (UOne ub bd mc mi s) (HP.sep D (HP.sep C (MapE InstV iE mi (promS s n r w).inst))))):=by
 refine Tri.fact (fun R h H=>inst_look mi s li ci n (HP.sep_right (HP.sep_right (HP.sep_right H)))) ?_
 rintro ⟨a,c,hval,hb,hro⟩
 refine tri_of_tree (ρ:=[.n ub,.n bd,.p D,.i s.epoch,.i s.low,.i s.top,.n mc,.p C,.n mi,.p (MapH InstV iE mi s.inst li ci),.i n,.i r,.i w]) mixed Tryz.func183 tree_uProm ?_
 unfold t_uProm
 simp only [T.den,E.prop,E.den,RX.look,F1.app,F2.app,Uni.int_i,Uni.nat_n,Uni.bool_c,Uni.str_s,Uni.adr_a,Uni.val_v,Uni.hp_p,hden,cden,V.den,W.den,A.den,BR.den,SA.den,FV.den,capV,exs,exP,allP,Cur.app,List.map_cons,List.map_nil,List.cons_append,List.nil_append,List.drop_succ_cons,List.drop_zero,List.length_cons,List.length_nil,Nat.zero_add,Nat.reduceAdd,Int.neg_neg,Bool.not_not,List.append_nil,Nat.add_zero,List.getElem?_cons_zero,List.getElem?_cons_succ,Decidable.not_not]
 intro x
 obtain ⟨i,hi,z1,_⟩:=info_parts infoI
 have hlook:=look_ok (r:=mi) (l:=li) (c:=ci) iK undMi hi z1 n false (A:=MapH InstV iE mi s.inst li ci) (fun R h H=>MapH.at H)
 rw [if_neg (by decide),hval] at hlook
 refine ⟨_,_,_,_,_,_,_,hlook,fun y => ?_⟩
 rw [semOf_update (by decide) (by decide) (by decide)]
 simp only [T.den,E.prop,E.den,RX.look,F1.app,F2.app,Uni.int_i,Uni.nat_n,Uni.bool_c,Uni.str_s,Uni.adr_a,Uni.val_v,Uni.hp_p,hden,cden,V.den,W.den,A.den,BR.den,SA.den,FV.den,capV,exs,exP,allP,Cur.app,List.map_cons,List.map_nil,List.cons_append,List.nil_append,List.drop_succ_cons,List.drop_zero,List.length_cons,List.length_nil,Nat.zero_add,Nat.reduceAdd,Int.neg_neg,Bool.not_not,List.append_nil,Nat.add_zero,List.getElem?_cons_zero,List.getElem?_cons_succ,Decidable.not_not]
 refine (MapH.put1 iK undMi instV_pers n _ { instAt s n with pr:=r,pw:=w } (fun R h H=>⟨a,c,⟨rfl,hb⟩,hro R h H⟩)).weak (fun _ _ h=>h) ?_
 rintro v R h ⟨rfl,H⟩
 exact ⟨_,rfl,.of fun R h H=>⟨trivial,H⟩,H⟩
def accS (s:USt) (n r w:Int) (l:List UInt8):USt:={ s with inst:=fput s.inst n (some ⟨r,w,r,w,l⟩) }
theorem uAcc_ok (ub bd mc mi:Nat) (D C:HP) (s:USt) (li:AL Int) (ci:Nat) (n r w:Int) (a:Option Addr) (k c:Nat) (l:List UInt8) (S:HP) (hr:RdL S a k (l.map u8v)) (hl:l.length=k) (hb:k ≤ 140737488355328) :
  Tri Tryz.prog 184 #[.pointer (some ⟨ub,0,none⟩),.int .i64 n,.agg #[.int .i64 r,.int .i64 w],.slice a k c] (HP.sep (UOne ub bd mc mi s) (HP.sep D (HP.sep C (HP.sep (MapH InstV iE mi s.inst li ci) S))))
  (fun v=>HP.and (v = .tuple #[]) (HP.sep (UOne ub bd mc mi s) (HP.sep D (HP.sep C (HP.sep (MapE InstV iE mi (accS s n r w l).inst) S))))):=by
 refine tri_of_tree (ρ:=[.n ub,.n bd,.p D,.i s.epoch,.i s.low,.i s.top,.n mc,.p C,.n mi,.p (MapH InstV iE mi s.inst li ci),.i n,.i r,.i w,.a a,.n k,.n c,.p S]) mixed Tryz.func184 tree_uAcc ?_
 unfold t_uAcc
 simp only [T.den,E.prop,E.den,RX.look,F1.app,F2.app,Uni.int_i,Uni.nat_n,Uni.bool_c,Uni.str_s,Uni.adr_a,Uni.val_v,Uni.hp_p,hden,cden,V.den,W.den,A.den,BR.den,SA.den,FV.den,capV,exs,exP,allP,Cur.app,List.map_cons,List.map_nil,List.cons_append,List.nil_append,List.drop_succ_cons,List.drop_zero,List.length_cons,List.length_nil,Nat.zero_add,Nat.reduceAdd,Int.neg_neg,Bool.not_not,List.append_nil,Nat.add_zero,List.getElem?_cons_zero,List.getElem?_cons_succ,Decidable.not_not]
 intro x
 refine (cloneR_ok S a k c l hr hl hb).weak (fun _ _ h=>h) ?_
 rintro v R h ⟨a',c',rfl,H⟩
 refine ⟨a',k,c',RoB a' k l,S,rfl,?_,H⟩
 rw [semOf_update (by decide) (by decide) (by decide)]
 simp only [T.den,E.prop,E.den,RX.look,F1.app,F2.app,Uni.int_i,Uni.nat_n,Uni.bool_c,Uni.str_s,Uni.adr_a,Uni.val_v,Uni.hp_p,hden,cden,V.den,W.den,A.den,BR.den,SA.den,FV.den,capV,exs,exP,allP,Cur.app,List.map_cons,List.map_nil,List.cons_append,List.nil_append,List.drop_succ_cons,List.drop_zero,List.length_cons,List.length_nil,Nat.zero_add,Nat.reduceAdd,Int.neg_neg,Bool.not_not,List.append_nil,Nat.add_zero,List.getElem?_cons_zero,List.getElem?_cons_succ,Decidable.not_not]
 refine (MapH.put iK undMi instV_pers n _ ⟨r,w,r,w,l⟩ (fun R h H => ?_)).weak (fun _ _ h=>h) ?_
 ·subst hl
  exact ⟨a',c',⟨rfl,hb⟩,H⟩
 ·rintro v R h ⟨rfl,H⟩
  exact ⟨_,rfl,.of fun R h H=>⟨trivial,H⟩,H⟩
end Go.Proofs.YtdieogcemmnaaaaGreatDoor

namespace Go.Proofs.YtdieogcemmnaaaaGreatDoor
open Go.Proofs.YtdieogcemmnaaaaGreatDoor RX
theorem least {p:Nat → Prop} (h : ∃ n,p n) : ∃ m,p m ∧ ∀ n,p n → m ≤ n:=by
 obtain ⟨n,hn⟩:=h
 induction n using Nat.strongRecOn with
 | _ n ih =>
  by_cases hx : ∃ m,m < n ∧ p m
  ·obtain ⟨m,hm,hp⟩:=hx; exact ih m hm hp
  ·exact ⟨n,hn,fun m hp=>Nat.le_of_not_lt fun hlt=>hx ⟨m,hlt,hp⟩⟩
open Classical in
noncomputable def leastN (p:Nat → Prop):Nat:=if h : ∃ n,p n then Classical.choose (least h) else 0
theorem leastN_spec {p:Nat → Prop} (h : ∃ n,p n):p (leastN p):=by
 unfold leastN; rw [dif_pos h]; exact (Classical.choose_spec (least h)).1
theorem leastN_le {p:Nat → Prop} {n:Nat} (h:p n):leastN p ≤ n:=by
 unfold leastN; rw [dif_pos ⟨n,h⟩]; exact (Classical.choose_spec (least ⟨n,h⟩)).2 n h
theorem map_inj {α β:Type} (g:α → β) : ∀ {l:List α},(l.map g).Nodup → ∀ {x y:α},x ∈ l → y ∈ l → g x=g y → x=y
 | [],_,_,_,hx,_,_=>by cases hx
 | z :: l,h,x,y,hx,hy,e=>by
  simp only [List.map_cons,List.nodup_cons] at h
  rcases List.mem_cons.1 hx with rfl | hx2 <;> rcases List.mem_cons.1 hy with rfl | hy2
  ·rfl
  ·exact (h.1 (List.mem_map.2 ⟨y,hy2,e.symm⟩)).elim
  ·exact (h.1 (List.mem_map.2 ⟨x,hx2,e⟩)).elim
  ·exact map_inj g h.2 hx2 hy2 e
theorem stamp_push {κ:Type} {l:AL κ} {c:Nat} (hs:Stamps l c) {x y:κ × Value × Nat} {S:Array Nat} (hx:x ∈ l) (hy:y ∈ l) (h:y.2.2 ∈ S.push x.2.2):y=x ∨ y.2.2 ∈ S:=by
 rcases Array.mem_push.1 h with h | h
 ·exact .inr h
 ·exact .inl (map_inj (fun z:κ × Value × Nat=>z.2.2) hs.nodup hy hx h)
end Go.Proofs.YtdieogcemmnaaaaGreatDoor

namespace Go.Proofs.YtdieogcemmnaaaaGreatDoor
set_option linter.unusedSimpArgs false
set_option linter.unusedVariables false
open Go.Proofs.YtdieogcemmnaaaaGreatDoor RX
def Box (bx ub:Nat):HP:=HP.one bx (.cells #[.pointer (some ⟨ub,0,none⟩)] 113)
theorem uFor1_ok (bx ub bd mc mi:Nat) (D C I:HP) (s:USt) (k what:Int) (a:Option Addr) (n c:Nat) :
  Tri Tryz.prog 186 #[.int .i64 k,.agg #[.int .i64 what,.slice a n c],.pointer (some ⟨bx,0,none⟩)] (HP.sep (Box bx ub) (HP.sep (UOne ub bd mc mi s) (HP.sep D (HP.sep C I))))
  (fun v=>HP.and (v = .bool (decide (k < s.low))) (HP.sep (Box bx ub) (HP.sep (UOne ub bd mc mi s) (HP.sep D (HP.sep C I))))):=by
 refine Tri.weak (A:=HP.sep HP.tt (HP.sep (Box bx ub) (HP.sep (UOne ub bd mc mi s) (HP.sep D (HP.sep C I))))) ?_ (fun _ _ h=>HP.tt_sep h) (fun _ _ _ h=>h)
 refine tri_of_tree (ρ:=[.i k,.i what,.a a,.n n,.n c,.p HP.tt,.n bx,.n ub,.n bd,.p D,.i s.epoch,.i s.low,.i s.top,.n mc,.p C,.n mi,.p I]) mixed Tryz.func186 tree_uFor1 ?_
 unfold t_uFor1
 simp only [T.den,E.prop,E.den,RX.look,F1.app,F2.app,Uni.int_i,Uni.nat_n,Uni.bool_c,Uni.str_s,Uni.adr_a,Uni.val_v,Uni.hp_p,hden,cden,V.den,W.den,A.den,BR.den,SA.den,FV.den,capV,exs,exP,allP,Cur.app,List.map_cons,List.map_nil,List.cons_append,List.nil_append,List.drop_succ_cons,List.drop_zero,List.length_cons,List.length_nil,Nat.zero_add,Nat.reduceAdd,Int.neg_neg,Bool.not_not,List.append_nil,Nat.add_zero,List.getElem?_cons_zero,List.getElem?_cons_succ,Decidable.not_not]
 exact fun x => .of fun R h H=>⟨trivial,HP.sep_right H⟩
theorem uFor1C_ok (bx ub bd mc mi:Nat) (D C I:HP) (s:USt) (k what:Int) (a:Option Addr) (n c:Nat) :
  Tri Tryz.prog 186 #[.int .i64 k,.agg #[.int .i64 what,.slice a n c],.pointer (some ⟨bx,0,none⟩)] (HP.sep C (HP.sep (Box bx ub) (HP.sep (UOne ub bd mc mi s) (HP.sep D I))))
  (fun v=>HP.and (v = .bool (decide (k < s.low))) (HP.sep C (HP.sep (Box bx ub) (HP.sep (UOne ub bd mc mi s) (HP.sep D I))))) :=
 (uFor1_ok bx ub bd mc mi D C I s k what a n c).weak
  (fun R h H=>HP.sep_mono (HP.swap H) (fun _ h=>h) fun y hy=>HP.sep_mono (HP.swap hy) (fun _ h=>h) fun z hz=>HP.swap hz)
  (fun v R h ⟨e,H⟩=>⟨e,HP.swap (HP.sep_mono H (fun _ h=>h) fun y hy=>HP.swap (HP.sep_mono hy (fun _ h=>h) fun z hz=>HP.swap hz))⟩)
theorem next_map {κ α:Type} [DecidableEq κ] {enc:κ → Value} {m it c:Nat} {l:AL κ} {V:Value → α → HP} {f:κ → Option α} {S:Array Nat} {ty:TypeId} (hs:Stamps l c) :
  OTri Tryz.prog (nextS (.pointer (some ⟨it,0,none⟩)) ty) (HP.sep (HP.one it (.mapIter (some m) c S c)) (MapH V enc m f l c))
  (fun v=>HP.ex fun e=>HP.and (nextE enc l S v e) (HP.sep (HP.one it (.mapIter (some m) c (nextI S e) c)) (MapH V enc m f l c))):=by
 refine OTri.fact (φ:=MapI l c) (fun R h H=>(HP.sep_right H).1) fun hI => ?_
 refine ((next_ok (m:=m) (it:=it) (S:=S) (ty:=ty) (enc:=enc) hs).frame (Vals V l f)).weak (fun R h ⟨h1,h2,d,l1,l2,H1,⟨_,H2⟩⟩=>HP.sep_assoc' ⟨h1,h2,d,l1,l2,H1,H2⟩) ?_
 rintro v R h ⟨h1,h2,d,l1,l2,⟨e,he,H⟩,HV⟩
 exact ⟨e,he,HP.sep_mono (HP.sep_assoc ⟨h1,h2,d,l1,l2,H,HV⟩) (fun _ h=>h) fun y hy=>⟨hI,hy⟩⟩
theorem delF_ok (bx ub bd mc mi:Nat) (D I:HP) (s:USt) (lc:AL Int) (cc:Nat) :
  Tri Tryz.prog 185 #[.map (some mc),.func (.func 186) #[] #[.pointer (some ⟨bx,0,none⟩)]] (HP.sep (MapH CellV iE mc s.cells lc cc) (HP.sep (Box bx ub) (HP.sep (UOne ub bd mc mi s) (HP.sep D I))))
  (fun v=>HP.and (v = .tuple #[]) (HP.sep (MapE CellV iE mc (fun k=>if k < s.low then none else s.cells k)) (HP.sep (Box bx ub) (HP.sep (UOne ub bd mc mi s) (HP.sep D I))))):=by
 refine Tri.fact (φ:=MapI lc cc) (fun R h H=>(HP.sep_left H).1) fun hI0 => ?_
 refine tri_of_tree (ρ:=[.n mc,.p (MapH CellV iE mc s.cells lc cc),.n bx,.n ub,.n bd,.p D,.i s.epoch,.i s.low,.i s.top,.n mi,.p I]) mixed Tryz.func185 tree_delF ?_
 unfold t_delF
 simp only [T.den,E.prop,E.den,RX.look,F1.app,F2.app,Uni.int_i,Uni.nat_n,Uni.bool_c,Uni.str_s,Uni.adr_a,Uni.val_v,Uni.hp_p,hden,cden,V.den,W.den,A.den,BR.den,SA.den,FV.den,capV,exs,exP,allP,Cur.app,List.map_cons,List.map_nil,List.cons_append,List.nil_append,List.drop_succ_cons,List.drop_zero,List.length_cons,List.length_nil,Nat.zero_add,Nat.reduceAdd,Int.neg_neg,Bool.not_not,List.append_nil,Nat.add_zero,List.getElem?_cons_zero,List.getElem?_cons_succ,Decidable.not_not]
 rw [semOf_range]
 simp only [T.den,E.prop,E.den,RX.look,F1.app,F2.app,Uni.int_i,Uni.nat_n,Uni.bool_c,Uni.str_s,Uni.adr_a,Uni.val_v,Uni.hp_p,hden,cden,V.den,W.den,A.den,BR.den,SA.den,FV.den,capV,exs,exP,allP,Cur.app,List.map_cons,List.map_nil,List.cons_append,List.nil_append,List.drop_succ_cons,List.drop_zero,List.length_cons,List.length_nil,Nat.zero_add,Nat.reduceAdd,Int.neg_neg,Bool.not_not,List.append_nil,Nat.add_zero,List.getElem?_cons_zero,List.getElem?_cons_succ,Decidable.not_not]
 refine ((range_ok (m:=mc) (l:=lc) (c:=cc) (enc:=iE) undMc).frame (Vals CellV lc s.cells)).weak (fun R h H=>H.2) ?_
 rintro v R h ⟨h1,h2,d,l1,l2,⟨it,rfl,H⟩,HV⟩
 have Hst:(HP.sep (HP.one it (.mapIter (some mc) cc #[] cc)) (MapH CellV iE mc s.cells lc cc)).p R h:=HP.sep_mono (HP.sep_assoc ⟨h1,h2,d,l1,l2,H,HV⟩) (fun _ h=>h) fun y hy=>⟨hI0,hy⟩
 clear H HV d l1 l2
 let J:HP → HP → Nat → Prop:=fun Pi Pm N => ∃ (l:AL Int) (S:Array Nat) (f:Int → Option CellS),Pi=HP.one it (.mapIter (some mc) cc S cc) ∧ Pm=MapH CellV iE mc f l cc ∧ MapI l cc ∧ (∀ k,f k=s.cells k ∨ (k < s.low ∧ f k=none)) ∧ (∀ x ∈ l,x.2.2 ∈ S → ¬ x.1 < s.low) ∧ leftN l S=N
 refine ⟨it,_,_,rfl,⟨fun Pi Pm => ∃ N,J Pi Pm N,fun Pi Pm=>leastN (J Pi Pm),⟨_,lc,#[],s.cells,rfl,rfl,hI0,fun k => .inl rfl,fun x _ hx=>absurd hx (by simp),rfl⟩,?_⟩,Hst⟩
 intro Pi Pm hJ
 have hJ':=leastN_spec hJ
 generalize hNe:leastN (J Pi Pm)=N at hJ'
 obtain ⟨l,S,f,rfl,rfl,hI,hf,hS,hN⟩:=hJ'
 rw [semOf_next]
 simp only [T.den,E.prop,E.den,RX.look,F1.app,F2.app,Uni.int_i,Uni.nat_n,Uni.bool_c,Uni.str_s,Uni.adr_a,Uni.val_v,Uni.hp_p,hden,cden,V.den,W.den,A.den,BR.den,SA.den,FV.den,capV,exs,exP,allP,Cur.app,List.map_cons,List.map_nil,List.cons_append,List.nil_append,List.drop_succ_cons,List.drop_zero,List.length_cons,List.length_nil,Nat.zero_add,Nat.reduceAdd,Int.neg_neg,Bool.not_not,List.append_nil,Nat.add_zero,List.getElem?_cons_zero,List.getElem?_cons_succ,Decidable.not_not]
 refine (next_map hI.2).weak (fun _ _ h=>h) ?_
 rintro v R h ⟨e,he,H⟩
 rcases e with _ | x
 ·refine ⟨false,.tuple #[],.tuple #[],_,he.1,⟨fun h=>(by cases h),fun _=>HP.ent.of fun R h H=>⟨trivial,?_⟩⟩,H⟩
  refine HP.sep_mono H (fun y hy => ?_) fun _ h=>h
  have e:f=fun k=>if k < s.low then none else s.cells k:=funext fun k=>by
   by_cases hk:k < s.low
   ·rw [if_pos hk]
    cases hfk:f k with
    | none=>rfl
    | some z =>
     obtain ⟨v,hv,_⟩:=MapH.yes hy cellV_pers hfk y
     obtain ⟨b,hb⟩:=alFind_some_mem k l v hv
     exact absurd hk (hS _ hb (he.2 _ hb))
   ·rw [if_neg hk]
    exact (hf k).resolve_right fun h=>hk h.1
  rw [← e]
  exact ⟨l,cc,hy⟩
 ·obtain ⟨rfl,hx,hxS⟩:=he
  have Hm:=HP.sep_right H
  have hfind:alFind x.1 l=some x.2.1:=alFind_mem x.1 x.2.1 x.2.2 l hI.1 hx
  obtain ⟨z,a,c,hz,_⟩ : ∃ z a c,x.2.1 = .agg #[.int .i64 (CellS.what z),.slice a z.data.length c] ∧ f x.1=some z:=by
   cases hfk:f x.1 with
   | none=>rw [MapH.no Hm hfk] at hfind; cases hfind
   | some z =>
    obtain ⟨v,hv,a,c,⟨e,_⟩,_⟩:=MapH.yes Hm cellV_pers hfk h
    rw [hfind] at hv
    cases hv
    exact ⟨z,a,c,e,rfl⟩
  refine ⟨true,iE x.1,x.2.1,_,rfl,⟨fun _ => ?_,fun h=>by simp at h⟩,H⟩
  have hent:=entry_ok (enc:=iE) (it:=it) (m:=mc) (c:=cc) (S:=S) (x:=x) hI.2 hx (A:=HP.sep (HP.one it (.mapIter (some mc) cc (nextI S (some x)) cc)) (MapH CellV iE mc f l cc)) (fun R h H=>HP.sep_left H) (fun R h H=>MapH.at (HP.sep_right H))
  rw [hz] at hent
  refine ⟨x.1,_,_,_,_,hent,fun y => ?_⟩
  refine (uFor1C_ok bx ub bd mc mi D (MapH CellV iE mc f l cc) I s x.1 _ _ _ _).weak (fun _ _ h=>h) ?_
  rintro v R h ⟨rfl,H⟩
  refine ⟨_,rfl,⟨fun hlow => ?_,fun hlow => ?_⟩,H⟩
  ·rw [semOf_delete (by decide)]
   simp only [T.den,E.prop,E.den,RX.look,F1.app,F2.app,Uni.int_i,Uni.nat_n,Uni.bool_c,Uni.str_s,Uni.adr_a,Uni.val_v,Uni.hp_p,hden,cden,V.den,W.den,A.den,BR.den,SA.den,FV.den,capV,exs,exP,allP,Cur.app,List.map_cons,List.map_nil,List.cons_append,List.nil_append,List.drop_succ_cons,List.drop_zero,List.length_cons,List.length_nil,Nat.zero_add,Nat.reduceAdd,Int.neg_neg,Bool.not_not,List.append_nil,Nat.add_zero,List.getElem?_cons_zero,List.getElem?_cons_succ,Decidable.not_not]
   refine (MapH.del (r:=mc) (l:=l) (c:=cc) (f:=f) (V:=CellV) iK undMc x.1 #[210,3] 0 rfl).weak (fun _ _ h=>h) ?_
   rintro v R h ⟨rfl,H⟩
   have hJ2:J (HP.one it (.mapIter (some mc) cc (nextI S (some x)) cc)) (MapH CellV iE mc (fput f x.1 none) (alDel x.1 l) cc) (leftN (alDel x.1 l) (S.push x.2.2)):=by
    refine ⟨alDel x.1 l,S.push x.2.2,fput f x.1 none,rfl,rfl,hI.del x.1,fun k => ?_,fun y hy hyS => ?_,rfl⟩
    ·unfold fput
     by_cases e:k=x.1
     ·subst e; exact .inr ⟨by simpa using hlow,if_pos rfl⟩
     ·rw [if_neg e]; exact hf k
    ·have hyl:=(alDel_sub x.1 l).subset hy
     rcases stamp_push hI.2 hx hyl hyS with rfl | h
     ·have:=(alFind_isSome y.1 (alDel y.1 l)).2 (List.mem_map.2 ⟨y,hy,rfl⟩)
      rw [alFind_del _ _ _ hI.1,if_pos rfl] at this
      cases this
     ·exact hS y hyl h
   refine ⟨_,rfl,⟨⟨_,hJ2⟩,Nat.lt_of_le_of_lt (leastN_le hJ2) ?_⟩,H⟩
   rw [hNe,← hN]
   exact Nat.lt_of_le_of_lt (((alDel_sub x.1 l).filter _).length_le) (leftN_push hx hxS)
  ·have hJ2:J (HP.one it (.mapIter (some mc) cc (nextI S (some x)) cc)) (MapH CellV iE mc f l cc) (leftN l (S.push x.2.2)):=by
    refine ⟨l,S.push x.2.2,f,rfl,rfl,hI,hf,fun y hy hyS => ?_,rfl⟩
    rcases stamp_push hI.2 hx hy hyS with rfl | h
    ·simpa using hlow
    ·exact hS y hy h
   refine ⟨⟨_,hJ2⟩,Nat.lt_of_le_of_lt (leastN_le hJ2) ?_⟩
   rw [hNe,← hN]
   exact leftN_push hx hxS
end Go.Proofs.YtdieogcemmnaaaaGreatDoor

namespace Go.Proofs.YtdieogcemmnaaaaGreatDoor
set_option linter.unusedSimpArgs false
set_option linter.unusedVariables false
open Go.Proofs.YtdieogcemmnaaaaGreatDoor RX
def forgS (s:USt):USt:={ s with cells:=fun k=>if k < s.low then none else s.cells k }
theorem uForget_ok (ub bd mc mi:Nat) (D I:HP) (s:USt) (lc:AL Int) (cc:Nat) :
  Tri Tryz.prog 121 #[.pointer (some ⟨ub,0,none⟩)] (HP.sep (UOne ub bd mc mi s) (HP.sep D (HP.sep (MapH CellV iE mc s.cells lc cc) I)))
  (fun v=>HP.and (v = .tuple #[]) (HP.sep (UOne ub bd mc mi s) (HP.sep D (HP.sep (MapE CellV iE mc (forgS s).cells) I)))):=by
 refine tri_of_tree (ρ:=[.n ub,.n bd,.p D,.i s.epoch,.i s.low,.i s.top,.n mc,.p (MapH CellV iE mc s.cells lc cc),.n mi,.p I]) mixed Tryz.func121 tree_uForget ?_
 unfold t_uForget
 simp only [T.den,E.prop,E.den,RX.look,F1.app,F2.app,Uni.int_i,Uni.nat_n,Uni.bool_c,Uni.str_s,Uni.adr_a,Uni.val_v,Uni.hp_p,hden,cden,V.den,W.den,A.den,BR.den,SA.den,FV.den,capV,exs,exP,allP,Cur.app,List.map_cons,List.map_nil,List.cons_append,List.nil_append,List.drop_succ_cons,List.drop_zero,List.length_cons,List.length_nil,Nat.zero_add,Nat.reduceAdd,Int.neg_neg,Bool.not_not,List.append_nil,Nat.add_zero,List.getElem?_cons_zero,List.getElem?_cons_succ,Decidable.not_not]
 intro bx
 refine (delF_ok bx ub bd mc mi D I s lc cc).weak (fun _ _ h=>h) ?_
 rintro v R h ⟨rfl,H⟩
 exact ⟨_,rfl,.of fun R h H=>⟨trivial,H⟩,H⟩
def endedR (r:List UInt8 × Bool):Bool := !(r.2 || !r.1.isEmpty)
theorem endedR_no {r:List UInt8 × Bool} (h : ¬ (if r.2=true ∨ r.1 ≠ [] then (3:Int) else 0)=0):endedR r=false:=by
 obtain ⟨l,w⟩:=r
 cases w <;> cases l <;> simp_all [endedR]
theorem endedR_yes {r:List UInt8 × Bool} (h:(if r.2=true ∨ r.1 ≠ [] then (3:Int) else 0)=0):endedR r=true:=by
 obtain ⟨l,w⟩:=r
 cases w <;> cases l <;> simp_all [endedR]
theorem bytesR_len (s:List UInt8 × Bool) (most:Int):(bytesR s most).1.length ≤ 140737488355328:=by
 have h1:=takeR_len (toldR s most).2 (toldR s most).1
 have h2:(toldR s most).1 ≤ 4294967296:=by
  have:=numR_lt s 4
  unfold toldR
  split
  ·exact Nat.zero_le _
  ·split
   ·exact Nat.zero_le _
   ·simp only; omega
 unfold bytesR
 omega
def followS (s:USt) (b:List UInt8):Option USt :=
 let k:=numR (b,false) 1
 let n:=intOf64 (numR k.2 8).1
 let r:=(numR k.2 8).2
 match k.1 with
 | 1=>let d:=bytesR r 65536
  if endedR d.2 && addrOk n then some { s with cells:=fput s.cells n (some ⟨1,d.1⟩),top:=max s.top (n + 1) } else none
 | 2=>if endedR r && addrOk n then some { s with cells:=fput s.cells n (some ⟨2,[]⟩),top:=max s.top (n + 1) } else none
 | 3=>if endedR r && addrOk n then some { s with low:=n } else none
 | 4=>if endedR r && numOk n then some { s with epoch:=n } else none
 | 5=>let a:=numR r 8
  let c:=numR a.2 8
  if endedR c.2 && propOk n (intOf64 a.1) (intOf64 c.1) then some (promS s n (intOf64 a.1) (intOf64 c.1)) else none
 | 6=>let a:=numR r 8
  let c:=numR a.2 8
  let d:=bytesR c.2 1000
  if endedR d.2 && propOk n (intOf64 a.1) (intOf64 c.1) then some (accS s n (intOf64 a.1) (intOf64 c.1) d.1) else none
 | _=>none
theorem uFollow_ok (ub bd mc mi:Nat) (D:HP) (s:USt) (lc:AL Int) (cc:Nat) (li:AL Int) (ci:Nat) (a:Option Addr) (n c:Nat) (l:List UInt8) (S:HP) (hr:RdL S a n (l.map u8v)) (hl:l.length=n) (hb:n ≤ 140737488355328) :
  Tri Tryz.prog 120 #[.pointer (some ⟨ub,0,none⟩),.slice a n c] (HP.sep (UOne ub bd mc mi s) (HP.sep D (HP.sep (MapH CellV iE mc s.cells lc cc) (HP.sep (MapH InstV iE mi s.inst li ci) S))))
  (fun v=>HP.and (v = .bool (followS s l).isSome) (HP.sep (UOne ub bd mc mi ((followS s l).getD s)) (HP.sep D (HP.sep (MapE CellV iE mc ((followS s l).getD s).cells) (HP.sep (MapE InstV iE mi ((followS s l).getD s).inst) S))))):=by
 refine tri_of_tree (ρ:=[.n ub,.n bd,.p D,.i s.epoch,.i s.low,.i s.top,.n mc,.p (MapH CellV iE mc s.cells lc cc),.n mi,.p (MapH InstV iE mi s.inst li ci),.a a,.n n,.n c,.p S]) mixed Tryz.func120 tree_uFollow ?_
 unfold t_uFollow
 simp only [T.den,E.prop,E.den,RX.look,F1.app,F2.app,Uni.int_i,Uni.nat_n,Uni.bool_c,Uni.str_s,Uni.adr_a,Uni.val_v,Uni.hp_p,hden,cden,V.den,W.den,A.den,BR.den,SA.den,FV.den,capV,exs,exP,allP,Cur.app,List.map_cons,List.map_nil,List.cons_append,List.nil_append,List.drop_succ_cons,List.drop_zero,List.length_cons,List.length_nil,Nat.zero_add,Nat.reduceAdd,Int.neg_neg,Bool.not_not,List.append_nil,Nat.add_zero,List.getElem?_cons_zero,List.getElem?_cons_succ,Decidable.not_not]
 refine (rRead_ok a n c l S hr hl hb).weak (fun _ _ h=>h) ?_
 rintro v R h ⟨rb,rfl,H⟩
 refine ⟨rb,_,S,rfl,?_,HP.sep_comm H⟩
 refine (rByte_ok rb (l,false)).weak (fun _ _ h=>h) ?_
 rintro v R h ⟨rfl,H⟩
 refine ⟨_,_,rfl,?_,H⟩
 refine (rInt_ok rb _).weak (fun _ _ h=>h) ?_
 rintro v R h ⟨rfl,H⟩
 refine ⟨_,_,rfl,?_,H⟩
 clear H
 have hk:(numR (l,false) 1).1 < 256:=by simpa using numR_lt (l,false) 1
 have fail:followS s l=none → HP.ent (HP.sep (UOne ub bd mc mi s) (HP.sep D (HP.sep (MapH CellV iE mc s.cells lc cc) (HP.sep (MapH InstV iE mi s.inst li ci) S)))) (HP.and (Value.bool false=Value.bool (followS s l).isSome) (HP.sep (UOne ub bd mc mi ((followS s l).getD s)) (HP.sep D (HP.sep (MapE CellV iE mc ((followS s l).getD s).cells) (HP.sep (MapE InstV iE mi ((followS s l).getD s).inst) S))))):=fun e=>by
  rw [e]
  exact .of fun R h H=>⟨rfl,HP.sep_mono H (fun _ h=>h) fun y hy=>HP.sep_mono hy (fun _ h=>h) fun z hz=>HP.sep_mono hz (fun q hq=>⟨_,_,hq⟩) fun u hu=>HP.sep_mono hu (fun q hq=>⟨_,_,hq⟩) fun _ h=>h⟩
 generalize hkk:(numR (l,false) 1).1=k at hk
 have hmod:k % 256=k:=Nat.mod_eq_of_lt hk
 rw [hmod]
 refine ⟨fun h1 => ?_,fun h1=>⟨fun h2 => ?_,fun h2=>⟨fun h3 => ?_,fun h3=>⟨fun h4 => ?_,fun h4=>⟨fun h5 => ?_,fun h5=>⟨fun h6 => ?_,fun h6 => ?_⟩⟩⟩⟩⟩⟩
 ·have hk1:k=1:=by omega
  subst hk1
  refine (rBytes_ok rb _ 65536).weak (fun _ _ h=>h) ?_
  rintro v R h ⟨da,dc,rfl,H⟩
  refine ⟨da,_,dc,OwB da _ dc _,_,rfl,fun y => ?_,HP.sep_comm H⟩
  refine (rEnd_ok rb _).weak (fun _ _ h=>h) ?_
  rintro v R h ⟨rfl,H⟩
  refine ⟨_,_,rfl,⟨fun he=>fail ?_,fun he => ?_⟩,H⟩
  ·simp only [followS,hkk,endedR_no he]; rfl
  ·refine (uaddr_ok _).weak (fun _ _ h=>h) ?_
   rintro v R h ⟨rfl,H⟩
   refine ⟨_,rfl,⟨fun ha=>fail ?_,fun ha => ?_⟩,H⟩
   ·simp only [followS,hkk]; rw [if_neg (by simp [ha])]
   ·have e:followS s l=some { s with cells:=fput s.cells (intOf64 (numR (numR (l,false) 1).2 8).1) (some ⟨1,(bytesR (numR (numR (l,false) 1).2 8).2 65536).1⟩),top:=max s.top (intOf64 (numR (numR (l,false) 1).2 8).1 + 1) }:=by
     simp only [followS,hkk]; rw [if_pos (by rw [endedR_yes he,ha]; rfl)]
    rw [e]
    refine (uPut_ok ub bd mc mi D (MapH InstV iE mi s.inst li ci) s lc cc _ 1 da _ dc (bytesR (numR (numR (l,false) 1).2 8).2 65536).1 _ (RdL.ow _ 1 _ _ _ _) rfl (bytesR_len _ _) ha).weak (fun _ _ h=>h) ?_
    rintro v R h ⟨rfl,H⟩
    refine ⟨bd,D,s.epoch,s.low,_,mc,_,mi,MapH InstV iE mi s.inst li ci,_,rfl,.of fun R h H=>⟨rfl,?_⟩,H⟩
    exact HP.sep_mono H (fun _ h=>h) fun y hy=>HP.sep_mono hy (fun _ h=>h) fun z hz=>HP.sep_mono hz (fun _ h=>h) fun u hu=>HP.sep_mono hu (fun q hq=>⟨_,_,hq⟩) fun _ h=>h
 ·have hk2:k=2:=by omega
  subst hk2
  refine (rEnd_ok rb _).weak (fun _ _ h=>h) ?_
  rintro v R h ⟨rfl,H⟩
  refine ⟨_,_,rfl,⟨fun he=>fail ?_,fun he => ?_⟩,H⟩
  ·simp only [followS,hkk,endedR_no he]; rfl
  ·refine (uaddr_ok _).weak (fun _ _ h=>h) ?_
   rintro v R h ⟨rfl,H⟩
   refine ⟨_,rfl,⟨fun ha=>fail ?_,fun ha => ?_⟩,H⟩
   ·simp only [followS,hkk]; rw [if_neg (by simp [ha])]
   ·have e:followS s l=some { s with cells:=fput s.cells (intOf64 (numR (numR (l,false) 1).2 8).1) (some ⟨2,[]⟩),top:=max s.top (intOf64 (numR (numR (l,false) 1).2 8).1 + 1) }:=by
     simp only [followS,hkk]; rw [if_pos (by rw [endedR_yes he,ha]; rfl)]
    rw [e]
    refine (uPut_ok ub bd mc mi D (MapH InstV iE mi s.inst li ci) s lc cc _ 2 none 0 0 [] HP.tt ⟨fun _ _ _ _ _ _ _ _ hj=>by simp at hj,fun _ _ _ _=>rfl⟩ rfl (by omega) ha).weak (fun R h H=>HP.sep_mono H (fun _ h=>h) fun y hy=>HP.sep_mono hy (fun _ h=>h) fun z hz=>HP.sep_mono hz (fun _ h=>h) fun q hq=>HP.sep_tt hq) ?_
    rintro v R h ⟨rfl,H⟩
    refine ⟨bd,D,s.epoch,s.low,_,mc,_,mi,MapH InstV iE mi s.inst li ci,rfl,.of fun R h H=>⟨rfl,?_⟩,HP.sep_mono H (fun _ h=>h) fun y hy=>HP.sep_mono hy (fun _ h=>h) fun z hz=>HP.sep_mono hz (fun _ h=>h) fun q hq=>HP.sep_left hq⟩
    exact HP.sep_mono H (fun _ h=>h) fun y hy=>HP.sep_mono hy (fun _ h=>h) fun z hz=>HP.sep_mono hz (fun _ h=>h) fun u hu=>HP.sep_mono hu (fun q hq=>⟨_,_,hq⟩) fun _ h=>h
 ·have hk3:k=3:=by omega
  subst hk3
  refine (rEnd_ok rb _).weak (fun _ _ h=>h) ?_
  rintro v R h ⟨rfl,H⟩
  refine ⟨_,_,rfl,⟨fun he=>fail ?_,fun he => ?_⟩,H⟩
  ·simp only [followS,hkk,endedR_no he]; rfl
  ·refine (uaddr_ok _).weak (fun _ _ h=>h) ?_
   rintro v R h ⟨rfl,H⟩
   refine ⟨_,rfl,⟨fun ha=>fail ?_,fun ha => ?_⟩,H⟩
   ·simp only [followS,hkk]; rw [if_neg (by simp [ha])]
   ·have e:followS s l=some { s with low:=intOf64 (numR (numR (l,false) 1).2 8).1 }:=by
     simp only [followS,hkk]; rw [if_pos (by rw [endedR_yes he,ha]; rfl)]
    rw [e]
    exact .of fun R h H=>⟨rfl,HP.sep_mono H (fun _ h=>h) fun y hy=>HP.sep_mono hy (fun _ h=>h) fun z hz=>HP.sep_mono hz (fun q hq=>⟨_,_,hq⟩) fun u hu=>HP.sep_mono hu (fun q hq=>⟨_,_,hq⟩) fun _ h=>h⟩
 ·have hk3:k=4:=by omega
  subst hk3
  refine (rEnd_ok rb _).weak (fun _ _ h=>h) ?_
  rintro v R h ⟨rfl,H⟩
  refine ⟨_,_,rfl,⟨fun he=>fail ?_,fun he => ?_⟩,H⟩
  ·simp only [followS,hkk,endedR_no he]; rfl
  ·refine (unum_ok _).weak (fun _ _ h=>h) ?_
   rintro v R h ⟨rfl,H⟩
   refine ⟨_,rfl,⟨fun ha=>fail ?_,fun ha => ?_⟩,H⟩
   ·simp only [followS,hkk]; rw [if_neg (by simp [ha])]
   ·have e:followS s l=some { s with epoch:=intOf64 (numR (numR (l,false) 1).2 8).1 }:=by
     simp only [followS,hkk]; rw [if_pos (by rw [endedR_yes he,ha]; rfl)]
    rw [e]
    exact .of fun R h H=>⟨rfl,HP.sep_mono H (fun _ h=>h) fun y hy=>HP.sep_mono hy (fun _ h=>h) fun z hz=>HP.sep_mono hz (fun q hq=>⟨_,_,hq⟩) fun u hu=>HP.sep_mono hu (fun q hq=>⟨_,_,hq⟩) fun _ h=>h⟩
 ·have hk5:k=5:=by omega
  subst hk5
  refine (rInt_ok rb _).weak (fun _ _ h=>h) ?_
  rintro v R h ⟨rfl,H⟩
  refine ⟨_,_,rfl,?_,H⟩
  refine (rInt_ok rb _).weak (fun _ _ h=>h) ?_
  rintro v R h ⟨rfl,H⟩
  refine ⟨_,_,rfl,fun y => ?_,H⟩
  refine (rEnd_ok rb _).weak (fun _ _ h=>h) ?_
  rintro v R h ⟨rfl,H⟩
  refine ⟨_,_,rfl,⟨fun he=>fail ?_,fun he => ?_⟩,H⟩
  ·simp only [followS,hkk,endedR_no he]; rfl
  ·refine (uprop_ok _ _ _).weak (fun _ _ h=>h) ?_
   rintro v R h ⟨rfl,H⟩
   refine ⟨_,rfl,⟨fun ha=>fail ?_,fun ha => ?_⟩,H⟩
   ·simp only [followS,hkk]; rw [if_neg (by simp [ha])]
   ·have e:followS s l=some (promS s (intOf64 (numR (numR (l,false) 1).2 8).1) (intOf64 (numR (numR (numR (l,false) 1).2 8).2 8).1) (intOf64 (numR (numR (numR (numR (l,false) 1).2 8).2 8).2 8).1)):=by
     simp only [followS,hkk]; rw [if_pos (by rw [endedR_yes he,ha]; rfl)]
    rw [e]
    refine (uProm_ok ub bd mc mi D (MapH CellV iE mc s.cells lc cc) s li ci _ _ _).weak (fun _ _ h=>h) ?_
    rintro v R h ⟨rfl,H⟩
    refine ⟨bd,D,s.epoch,s.low,s.top,mc,MapH CellV iE mc s.cells lc cc,mi,_,rfl,.of fun R h H=>⟨rfl,?_⟩,H⟩
    exact HP.sep_mono H (fun _ h=>h) fun y hy=>HP.sep_mono hy (fun _ h=>h) fun z hz=>HP.sep_mono hz (fun q hq=>⟨_,_,hq⟩) fun _ h=>h
 ·have hk6:k=6:=by omega
  subst hk6
  refine (rInt_ok rb _).weak (fun _ _ h=>h) ?_
  rintro v R h ⟨rfl,H⟩
  refine ⟨_,_,rfl,?_,H⟩
  refine (rInt_ok rb _).weak (fun _ _ h=>h) ?_
  rintro v R h ⟨rfl,H⟩
  refine ⟨_,_,rfl,fun y => ?_,H⟩
  refine (rBytes_ok rb _ 1000).weak (fun _ _ h=>h) ?_
  rintro v R h ⟨da,dc,rfl,H⟩
  refine ⟨da,_,dc,OwB da _ dc _,_,rfl,?_,HP.sep_comm H⟩
  refine (rEnd_ok rb _).weak (fun _ _ h=>h) ?_
  rintro v R h ⟨rfl,H⟩
  refine ⟨_,_,rfl,⟨fun he=>fail ?_,fun he => ?_⟩,H⟩
  ·simp only [followS,hkk,endedR_no he]; rfl
  ·refine (uprop_ok _ _ _).weak (fun _ _ h=>h) ?_
   rintro v R h ⟨rfl,H⟩
   refine ⟨_,rfl,⟨fun ha=>fail ?_,fun ha => ?_⟩,H⟩
   ·simp only [followS,hkk]; rw [if_neg (by simp [ha])]
   ·have e:followS s l=some (accS s (intOf64 (numR (numR (l,false) 1).2 8).1) (intOf64 (numR (numR (numR (l,false) 1).2 8).2 8).1) (intOf64 (numR (numR (numR (numR (l,false) 1).2 8).2 8).2 8).1) (bytesR (numR (numR (numR (numR (l,false) 1).2 8).2 8).2 8).2 1000).1):=by
     simp only [followS,hkk]; rw [if_pos (by rw [endedR_yes he,ha]; rfl)]
    rw [e]
    refine (uAcc_ok ub bd mc mi D (MapH CellV iE mc s.cells lc cc) s li ci _ _ _ da _ dc _ _ (RdL.ow _ 1 _ _ _ _) rfl (bytesR_len _ _)).weak (fun _ _ h=>h) ?_
    rintro v R h ⟨rfl,H⟩
    refine ⟨bd,D,s.epoch,s.low,s.top,mc,MapH CellV iE mc s.cells lc cc,mi,_,_,rfl,.of fun R h H=>⟨rfl,?_⟩,H⟩
    exact HP.sep_mono H (fun _ h=>h) fun y hy=>HP.sep_mono hy (fun _ h=>h) fun z hz=>HP.sep_mono hz (fun q hq=>⟨_,_,hq⟩) fun _ h=>h
 ·refine fail ?_
  simp only [followS,hkk]
  split <;> first | rfl | omega
end Go.Proofs.YtdieogcemmnaaaaGreatDoor

namespace Go.Proofs.YtdieogcemmnaaaaGreatDoor
set_option linter.unusedSimpArgs false
set_option linter.unusedVariables false
open Go.Proofs.YtdieogcemmnaaaaGreatDoor RX
def ureadS (s:USt) (epoch at':Int):CellS × Int :=
 if reachE s epoch at' ≠ 0 then (⟨0,[]⟩,reachE s epoch at')
 else if at' < s.low then (⟨0,[]⟩,11)
 else match s.cells at' with
  | some x=>(x,0)
  | none=>(⟨0,[]⟩,9)
theorem uRead_ok (ub bd:Nat) (D:HP) (s:USt) (epoch at':Int) :
  Tri Tryz.prog 188 #[.pointer (some ⟨ub,0,none⟩),.int .i64 epoch,.int .i64 at'] (URep ub bd D s)
  (fun v=>HP.ex fun a=>HP.ex fun c=>HP.and (v = .tuple #[.agg #[.int .i64 (ureadS s epoch at').1.what,.slice a (ureadS s epoch at').1.data.length c],.int .i64 (ureadS s epoch at').2]) (HP.sep (URep ub bd D s) (RoB a (ureadS s epoch at').1.data.length (ureadS s epoch at').1.data))):=by
 refine URep.tri fun mc mi lc cc li ci => ?_
 refine tri_of_tree (ρ:=[.n ub,.n bd,.p D,.i s.epoch,.i s.low,.i s.top,.n mc,.p (MapH CellV iE mc s.cells lc cc),.n mi,.p (MapH InstV iE mi s.inst li ci),.i epoch,.i at']) mixed Tryz.func188 tree_uRead ?_
 unfold t_uRead
 simp only [T.den,E.prop,E.den,RX.look,F1.app,F2.app,Uni.int_i,Uni.nat_n,Uni.bool_c,Uni.str_s,Uni.adr_a,Uni.val_v,Uni.hp_p,hden,cden,V.den,W.den,A.den,BR.den,SA.den,FV.den,capV,exs,exP,allP,Cur.app,List.map_cons,List.map_nil,List.cons_append,List.nil_append,List.drop_succ_cons,List.drop_zero,List.length_cons,List.length_nil,Nat.zero_add,Nat.reduceAdd,Int.neg_neg,Bool.not_not,List.append_nil,Nat.add_zero,List.getElem?_cons_zero,List.getElem?_cons_succ,Decidable.not_not]
 intro x
 refine (uReachRaw_ok ub bd mc mi D _ _ s epoch at').weak (fun _ _ h=>h) ?_
 rintro v R h ⟨rfl,H⟩
 refine ⟨_,rfl,⟨fun h1 => .of fun R h H => ?_,fun h1=>⟨fun h2 => .of fun R h H => ?_,fun h2 => ?_⟩⟩,H⟩
 ·have e:ureadS s epoch at'=(⟨0,[]⟩,reachE s epoch at'):=if_pos h1
  rw [e]
  exact ⟨none,0,rfl,RoC.joinR (RoC.nil _ _ R h) (URep.ofH H)⟩
 ·have e:ureadS s epoch at'=(⟨0,[]⟩,11):=by unfold ureadS; rw [if_neg (by simpa using h1),if_pos h2]
  rw [e]
  exact ⟨none,0,rfl,RoC.joinR (RoC.nil _ _ R h) (URep.ofH H)⟩
 ·refine (uCell_ok ub bd mc mi D (MapH InstV iE mi s.inst li ci) s lc cc at').weak (fun _ _ h=>h) ?_
  rintro v R h ⟨a,c,rfl,H⟩
  have hu:(URep ub bd D s).p R h → True:=fun _=>trivial
  refine ⟨_,a,_,c,RoB a ((s.cells at').getD ⟨0,[]⟩).data.length ((s.cells at').getD ⟨0,[]⟩).data,_,rfl,fun y=>⟨fun hno => .of fun R h H => ?_,fun hyes => .of fun R h H => ?_⟩,H⟩
  ·have hc:s.cells at'=none:=by simpa using hno
   have e:ureadS s epoch at'=(⟨0,[]⟩,9):=by unfold ureadS; rw [if_neg (by simpa using h1),if_neg h2,hc]
   rw [e]
   exact ⟨none,0,rfl,RoC.joinR (RoC.nil _ _ R h) (URep.ofH H)⟩
  ·obtain ⟨z,hz⟩:=Option.isSome_iff_exists.1 hyes
   have e:ureadS s epoch at'=(z,0):=by unfold ureadS; rw [if_neg (by simpa using h1),if_neg h2,hz]
   rw [e]
   rw [hz] at H ⊢
   refine ⟨a,c,rfl,RoC.joinR (HP.sep_right (HP.sep_right (HP.sep_right (HP.sep_right H)))) (URep.ofH (HP.sep_mono H (fun _ h=>h) fun y hy=>HP.sep_mono hy (fun _ h=>h) fun u hu=>HP.sep_mono hu (fun _ h=>h) fun q hq=>HP.sep_left hq))⟩
end Go.Proofs.YtdieogcemmnaaaaGreatDoor

namespace Go.Proofs.YtdieogcemmnaaaaGreatDoor
open Go.Proofs.YtdieogcemmnaaaaGreatDoor RX
end Go.Proofs.YtdieogcemmnaaaaGreatDoor

namespace Go.Proofs.YtdieogcemmnaaaaGreatDoor
open Go.Proofs.YtdieogcemmnaaaaGreatDoor RX
end Go.Proofs.YtdieogcemmnaaaaGreatDoor

namespace Go.Proofs.YtdieogcemmnaaaaGreatDoor
open Go.Proofs.YtdieogcemmnaaaaGreatDoor RX
end Go.Proofs.YtdieogcemmnaaaaGreatDoor

namespace Go.Proofs.YtdieogcemmnaaaaGreatDoor
set_option linter.unusedSimpArgs false
set_option linter.unusedVariables false
open Go.Proofs.YtdieogcemmnaaaaGreatDoor RX
def s0:USt:=⟨0,0,0,fun _=>none,fun _=>none⟩
def foldS (s:USt):List (List UInt8) → Option USt
 | []=>some s
 | b :: r=>match followS s b with
  | some s'=>foldS s' r
  | none=>none
theorem foldS_app (s:USt) : ∀ (l m:List (List UInt8)),foldS s (l ++ m)=(foldS s l).bind fun s'=>foldS s' m
 | [],m=>rfl
 | b :: r,m=>by
  simp only [List.cons_append,foldS]
  cases followS s b with
  | none=>rfl
  | some s'=>exact foldS_app s' r m
theorem foldS_step {s s1:USt} {l:List (List UInt8)} (h:foldS s l=some s1) (k:Nat) (b:List UInt8) (hk:l[k]? = some b) : ∃ s2 s3,foldS s (l.take k)=some s2 ∧ followS s2 b=some s3 ∧ foldS s (l.take (k + 1))=some s3:=by
 obtain ⟨hlt,rfl⟩:=List.getElem?_eq_some_iff.1 hk
 have e:l=l.take (k + 1) ++ l.drop (k + 1):=(List.take_append_drop _ _).symm
 rw [e,foldS_app] at h
 cases h1:foldS s (l.take (k + 1)) with
 | none=>rw [h1] at h; cases h
 | some s3 =>
  have h1':=h1
  rw [List.take_succ_eq_append_getElem hlt,foldS_app] at h1'
  cases h2:foldS s (l.take k) with
  | none=>rw [h2] at h1'; cases h1'
  | some s2 =>
   rw [h2] at h1'
   simp only [Option.bind_some,foldS] at h1'
   split at h1'
   ·rename_i s' hs; cases h1'; exact ⟨s2,s3,rfl,hs,rfl⟩
   ·cases h1'
theorem triM {f:FuncId} {args:Array Value} {ub bd mc mi:Nat} {D S:HP} {s:USt} {B:Value → HP}
  (t : ∀ lc cc li ci,Tri Tryz.prog f args (HP.sep (UOne ub bd mc mi s) (HP.sep D (HP.sep (MapH CellV iE mc s.cells lc cc) (HP.sep (MapH InstV iE mi s.inst li ci) S)))) B):Tri Tryz.prog f args (HP.sep (UOne ub bd mc mi s) (HP.sep D (HP.sep (MapE CellV iE mc s.cells) (HP.sep (MapE InstV iE mi s.inst) S)))) B:=by
 refine (Tri.ex (A:=fun lc=>HP.ex fun cc=>HP.ex fun li=>HP.ex fun ci=>HP.sep (UOne ub bd mc mi s) (HP.sep D (HP.sep (MapH CellV iE mc s.cells lc cc) (HP.sep (MapH InstV iE mi s.inst li ci) S)))) fun lc=>Tri.ex fun cc=>Tri.ex fun li=>Tri.ex fun ci=>t lc cc li ci).weak ?_ fun _ _ _ h=>h
 rintro R h ⟨h1,h2,d,l1,l2,H1,h3,h4,d2,l3,l4,H2,h5,h6,d3,l5,l6,⟨lc,cc,H3⟩,h7,h8,d4,l7,l8,⟨li,ci,H4⟩,H5⟩
 exact ⟨lc,cc,li,ci,h1,h2,d,l1,l2,H1,h3,h4,d2,l3,l4,H2,h5,h6,d3,l5,l6,H3,h7,h8,d4,l7,l8,H4,H5⟩
theorem uOpen_ok (bd:Nat) (room:Int) (ps:List Pg) (lasts:Nat) (s1:USt) (hs:foldS s0 (wholes ps)=some s1) :
  Tri Tryz.prog 55 #[.pointer (some ⟨bd,0,none⟩)] (DvRep bd room ps lasts)
  (fun v=>HP.ex fun ub=>HP.and (v = .tuple #[.pointer (some ⟨ub,0,none⟩),.int .i64 0]) (URep ub bd (DvRep bd room ps lasts) (forgS s1))):=by
 refine tri_of_tree (ρ:=[.n bd,.p (DvRep bd room ps lasts)]) mixed Tryz.func55 tree_uOpen ?_
 unfold t_uOpen
 simp only [T.den,E.prop,E.den,RX.look,F1.app,F2.app,Uni.int_i,Uni.nat_n,Uni.bool_c,Uni.str_s,Uni.adr_a,Uni.val_v,Uni.hp_p,hden,cden,V.den,W.den,A.den,BR.den,SA.den,FV.den,capV,exs,exP,allP,Cur.app,List.map_cons,List.map_nil,List.cons_append,List.nil_append,List.drop_succ_cons,List.drop_zero,List.length_cons,List.length_nil,Nat.zero_add,Nat.reduceAdd,Int.neg_neg,Bool.not_not,List.append_nil,Nat.add_zero,List.getElem?_cons_zero,List.getElem?_cons_succ,Decidable.not_not]
 intro mc mi ub
 refine (dPages_ok bd room ps lasts).weak (fun _ _ h=>h) ?_
 rintro v R h ⟨a,c,⟨rfl,hD⟩,h1,h2,dj,l1,l2,HD,xs,⟨hx1,hx2⟩,HL⟩
 have hall : ∀ (k:Nat) (p:List UInt8),(wholes ps)[k]? = some p → ∃ x,xs[k]? = some x ∧ x.2.1=p.length ∧ p.length ≤ 140737488355328:=fun k p hp=>by
  obtain ⟨x,q1,q2,q3,_⟩:=AllB.get k (HP.sep_right HL) hp
  exact ⟨x,q1,q2,q3⟩
 have hsome:(wholes ps).length ≠ 0 → a.isSome=true:=fun hn=>OwC.some (HP.sep_left HL) (by omega)
 have hlen:(wholes ps).length ≤ 65536:=by
  have h1:(wholes ps).length ≤ ps.length:=List.length_filterMap_le _ _
  have:=hD.2.1
  have:=hD.2.2.1
  omega
 generalize hls:wholes ps=ls at *
 refine ⟨a,ls.length,c,HP.sep (OwC 28 1 a ls.length c (xs.map slV)) (AllB xs ls),DvRep bd room ps lasts,rfl,?_,h2,h1,dj.symm,l2,l1,HL,HD⟩
 clear HL HD dj l1 l2
 let J:Value → HP → Int → Int → HP → HP → Nat → Int → Int → Int → Nat → Nat → HP → HP → Prop:=fun _ _ _ i Pl D d ep lo tp m1 m2 PI PC => ∃ (k:Nat) (s:USt),i=k ∧ k ≤ ls.length ∧ foldS s0 (ls.take k)=some s ∧ ep=s.epoch ∧ lo=s.low ∧ tp=s.top ∧ m1=mc ∧ m2=mi ∧ d=bd ∧
  HP.ent Pl (HP.sep (OwC 28 1 a ls.length c (xs.map slV)) (AllB xs ls)) ∧ HP.ent D (DvRep bd room ps lasts) ∧ HP.ent PI (MapE InstV iE mi s.inst) ∧ HP.ent PC (MapE CellV iE mc s.cells)
 refine ⟨J,fun _ _ _ i _ _ _ _ _ _ _ _ _ _=>ls.length - i.toNat,⟨0,s0,rfl,Nat.zero_le _,rfl,rfl,rfl,rfl,rfl,rfl,rfl,HP.ent.refl _,HP.ent.refl _,.of fun R h H=>MapE.new _ _ _ H,.of fun R h H=>MapE.new _ _ _ H⟩,?_⟩
 rintro u0 p0 e0 i Pl D d ep lo tp m1 m2 PI PC ⟨k,s,rfl,hk,hf,rfl,rfl,rfl,rfl,rfl,rfl,hPl,hDD,hPI,hPC⟩
 refine ⟨fun hlt=>⟨by omega,fun _=>⟨hsome (by omega),fun _ => ?_⟩⟩,fun hge => ?_⟩
 ·have hlt':k < ls.length:=by omega
  have hg:ls[k]? = some ls[k]:=List.getElem?_eq_getElem hlt'
  obtain ⟨x,hx,x1,x2⟩:=hall k _ hg
  obtain ⟨s2,s3,g1,g2,g3⟩:=foldS_step hs k _ hg
  rw [hf] at g1
  cases g1
  refine ⟨x.1,x.2.1,x.2.2,?_,?_⟩
  ·rw [semOf_load]
   simp only [T.den,E.prop,E.den,RX.look,F1.app,F2.app,Uni.int_i,Uni.nat_n,Uni.bool_c,Uni.str_s,Uni.adr_a,Uni.val_v,Uni.hp_p,hden,cden,V.den,W.den,A.den,BR.den,SA.den,FV.den,capV,exs,exP,allP,Cur.app,List.map_cons,List.map_nil,List.cons_append,List.nil_append,List.drop_succ_cons,List.drop_zero,List.length_cons,List.length_nil,Nat.zero_add,Nat.reduceAdd,Int.neg_neg,Bool.not_not,List.append_nil,Nat.add_zero,List.getElem?_cons_zero,List.getElem?_cons_succ,Decidable.not_not]
   rw [Int.toNat_natCast]
   exact ORead.ent hPl (load1_ok und8 (by kernel_rfl) (by kernel_rfl) ((OwC.rd 28 1 a ls.length c (xs.map slV)).left (B:=AllB xs ls)) (k:=k * 1) (off:=0) (v:=slV x) (by simp [hx]))
  ·refine Tri.pre (A:=HP.sep (UOne ub d m1 m2 s) (HP.sep (DvRep d room ps lasts) (HP.sep (MapE CellV iE m1 s.cells) (HP.sep (MapE InstV iE m2 s.inst) (HP.sep (OwC 28 1 a ls.length c (xs.map slV)) (AllB xs ls)))))) ?_ ((HP.ent.refl _).sep2 (hDD.sep2 (hPC.sep2 (hPI.sep2 hPl))))
   refine triM fun lc cc li ci => ?_
   refine (uFollow_ok ub d m1 m2 (DvRep d room ps lasts) s lc cc li ci x.1 x.2.1 x.2.2 ls[k] (HP.sep (OwC 28 1 a ls.length c (xs.map slV)) (AllB xs ls)) (by
    rw [x1]
    exact RdL.imp fun R h H=>by
     obtain ⟨y,q1,q2,q3,q4⟩:=AllB.get k (HP.sep_right H) hg
     rw [hx] at q1
     cases q1
     rw [x1] at q4
     exact q4) x1.symm (by omega)).weak (fun _ _ h=>h) ?_
   rintro v R h ⟨rfl,H⟩
   rw [g2] at H
   simp only [Option.getD_some] at H
   refine ⟨true,d,DvRep d room ps lasts,s3.epoch,s3.low,s3.top,m1,MapE CellV iE m1 s3.cells,m2,MapE InstV iE m2 s3.inst,HP.sep (OwC 28 1 a ls.length c (xs.map slV)) (AllB xs ls),by rw [g2]; rfl,⟨fun h=>absurd rfl h,fun _=>⟨inI64 _ (by omega) (by omega),fun _=>⟨⟨k + 1,s3,by omega,by omega,g3,rfl,rfl,rfl,rfl,rfl,rfl,HP.ent.refl _,HP.ent.refl _,HP.ent.refl _,HP.ent.refl _⟩,by dsimp only; omega⟩⟩⟩,H⟩
 ·have hke:k=ls.length:=by omega
  subst hke
  rw [List.take_length,hs] at hf
  cases hf
  refine Tri.pre (A:=HP.sep (UOne ub d m1 m2 s1) (HP.sep (DvRep d room ps lasts) (HP.sep (MapE CellV iE m1 s1.cells) (MapE InstV iE m2 s1.inst)))) ?_ ((HP.ent.refl _).sep2 (hDD.sep2 (hPC.sep2 hPI)))
  refine (Tri.ex (A:=fun lc=>HP.ex fun cc=>HP.sep (UOne ub d m1 m2 s1) (HP.sep (DvRep d room ps lasts) (HP.sep (MapH CellV iE m1 s1.cells lc cc) (MapE InstV iE m2 s1.inst)))) fun lc=>Tri.ex fun cc => ?_).weak (fun R h ⟨h1,h2,d,l1,l2,H1,h3,h4,d2,l3,l4,H2,h5,h6,d3,l5,l6,⟨lc,cc,H3⟩,H4⟩=>⟨lc,cc,h1,h2,d,l1,l2,H1,h3,h4,d2,l3,l4,H2,h5,h6,d3,l5,l6,H3,H4⟩) fun _ _ _ h=>h
  refine (uForget_ok ub d m1 m2 _ (MapE InstV iE m2 s1.inst) s1 lc cc).weak (fun _ _ h=>h) ?_
  rintro v R h ⟨rfl,H⟩
  refine ⟨d,DvRep d room ps lasts,s1.epoch,s1.low,s1.top,m1,MapE CellV iE m1 (forgS s1).cells,m2,MapE InstV iE m2 s1.inst,rfl,.of fun R h H=>⟨ub,rfl,?_⟩,H⟩
  exact URep.of (s:=forgS s1) (mc:=m1) (mi:=m2) H
end Go.Proofs.YtdieogcemmnaaaaGreatDoor

namespace Go.Proofs.YtdieogcemmnaaaaGreatDoor
open Go.Proofs.YtdieogcemmnaaaaGreatDoor RX
theorem byteAt_val (v n j:Nat):(byteAt v n j).toNat=v / 256 ^ (n - 1 - j) % 256:=by
 unfold byteAt
 rw [UInt8.toNat_ofNat',Nat.pow_mul]
theorem beV_beNu (v n:Nat):beV (beN v n)=v % 256 ^ n:=by
 have key : ∀ j,j ≤ n → beV ((beN v n).take j)=v / 256 ^ (n - j) % 256 ^ j:=by
  intro j
  induction j with
  | zero=>intro _; simp [beV,Nat.mod_one]
  | succ j ih =>
   intro hj
   rw [beN_take v n j (by omega),beV_snoc,ih (by omega),byteAt_val]
   have e1:n - j=(n - 1 - j) + 1:=by omega
   have e2:n - (j + 1)=n - 1 - j:=by omega
   rw [e1,e2,Nat.pow_succ,← Nat.div_div_eq_div_mul]
   generalize v / 256 ^ (n - 1 - j)=q
   rw [Nat.pow_succ,Nat.mul_comm (256 ^ j) 256,Nat.mod_mul]
   omega
 have:=key n (Nat.le_refl _)
 rw [List.take_of_length_le (by rw [beN_len]; omega),Nat.sub_self,Nat.pow_zero,Nat.div_one] at this
 exact this
theorem numR_beN (v n:Nat) (r:List UInt8):numR (beN v n ++ r,false) n=(v % 256 ^ n,(r,false)):=by
 unfold numR takeR
 simp only [Bool.false_eq_true,if_false]
 rw [if_neg (by rw [List.length_append,beN_len]; omega)]
 have e1:(beN v n ++ r).take n=beN v n:=by rw [List.take_append_of_le_length (by rw [beN_len]; omega),List.take_of_length_le (by rw [beN_len]; omega)]
 have e2:(beN v n ++ r).drop n=r:=by rw [List.drop_append_of_le_length (by rw [beN_len]; omega),List.drop_of_length_le (by rw [beN_len]; omega),List.nil_append]
 rw [e1,e2,beV_beNu]
theorem wrap_num {n:Int} (h0:0 ≤ n) (h1:n ≤ 4294967296):(IntKind.u64.wrap n).toNat=n.toNat ∧ intOf64 n.toNat=n:=by
 constructor
 ·simp only [IntKind.wrap,IntKind.bits,IntKind.signed,Bool.false_and,Bool.false_eq_true,if_false]
  omega
 ·unfold intOf64
  rw [Int.toNat_of_nonneg h0]
  simp only [IntKind.wrap,IntKind.bits,IntKind.signed,Bool.true_and]
  have e:n % 2 ^ 64=n:=Int.emod_eq_of_lt h0 (by omega)
  split
  ·rename_i h
   have:=of_decide_eq_true h
   rw [e] at this
   omega
  ·exact e
theorem num8 {n:Int} (h0:0 ≤ n) (h1:n ≤ 4294967296) (r:List UInt8):numR (beN (IntKind.u64.wrap n).toNat 8 ++ r,false) 8=(n.toNat,(r,false)):=by
 rw [numR_beN,(wrap_num h0 h1).1]
 rw [Nat.mod_eq_of_lt (by omega)]
section
variable (s:USt)
theorem addr_iff {n:Int}:addrOk n=true ↔ 0 ≤ n ∧ n ≤ 4294967296:=by simp [addrOk]
theorem num_iff {n:Int}:numOk n=true ↔ 0 ≤ n ∧ n ≤ 2147483647:=by simp [numOk]
theorem prop_iff {n r w:Int}:propOk n r w=true ↔ (1 ≤ n ∧ n ≤ 2147483647) ∧ (0 ≤ r ∧ r ≤ 2147483647) ∧ (0 ≤ w ∧ w ≤ 2147483647):=by simp [propOk,numOk,and_assoc]
end
end Go.Proofs.YtdieogcemmnaaaaGreatDoor

namespace Go.Proofs.YtdieogcemmnaaaaGreatDoor.RX
set_option maxRecDepth 100000
-- tideline/check.More: ρ:=[.i sum,.a ba,.n bl,.n bc,.p bP]
def t_cMore:T :=
(.op (.unOp .xor 243 (.tmp 7)) 243 [(7,.w (.a (.int .u32 (.v 0))))] [] [.i] (.w (.a (.int .u32 (.v 5)))) []
(.loop [.i,.i] [.e (.o1 .neg (.o1 .neg (.v 5))),.e (.o1 .neg (.o1 .neg (.i 0)))]
(.br (.o2 .lt (.v 7) (.o1 .ofNat (.v 2)))
(.need (.o2 .le (.i 0) (.v 7))
(.need (.o1 .isSome (.v 1))
(.read (.load 5 (.tmp 13)) 5 [(13,.w (.a (.eptr 1 (.v 7) 1 0)))] [(.a 1,.prop 4)] [.i] (.w (.a (.int .u8 (.v 8))))
(.need (.o1 (.inr .u32) (.v 8))
(.loop [.i,.i] [.e (.o1 .neg (.o1 .neg (.o2 (.bit .xor .u32) (.v 6) (.v 8)))),.e (.o1 .neg (.o1 .neg (.i 0)))]
(.br (.o2 .lt (.v 10) (.i 2))
(.read (.indexAddr 316 (.global 0) (.tmp 24)) 0 [(24,.w (.a (.int .u32 (.o2 (.bit .and .u32) (.v 9) (.i 15)))))] [] [.v] (.w (.a (.val 11)))
(.read (.load 243 (.tmp 25)) 243 [(25,.w (.a (.val 11)))] [] [.i] (.w (.a (.int .u32 (.v 12))))
(.need (.o1 (.inr .i64) (.o2 .add (.v 10) (.i 1)))
(.again 0 [.e (.o1 .neg (.o1 .neg (.o2 (.bit .xor .u32) (.o2 (.shr .u32) (.v 9) (.i 4)) (.v 12)))),.e (.o1 .neg (.o1 .neg (.o2 .add (.v 10) (.i 1))))]))))
(.need (.o1 (.inr .i64) (.o2 .add (.v 7) (.i 1)))
(.again 1 [.e (.o1 .neg (.o1 .neg (.v 9))),.e (.o1 .neg (.o1 .neg (.o2 .add (.v 7) (.i 1))))]))))))))
(.op (.unOp .xor 243 (.tmp 30)) 243 [(30,.w (.a (.int .u32 (.v 6))))] [] [.i] (.w (.a (.int .u32 (.v 8)))) []
(.ret (.w (.a (.int .u32 (.v 8)))) [(.a 1,.prop 4)])))))
theorem tree_cMore:tree Tryz.prog { } Tryz.f200 [.a (.int .u32 (.v 0)),.a (.sl (.v 1) (.v 2) (.v 3))] [(.a 1,.prop 4)] 5=t_cMore:=by kernel_rfl
def t_cSum:T :=
(.call 200 [.a (.int .u32 (.i 0)),.a (.sl (.v 0) (.v 1) (.v 2))] [(.a 0,.prop 3)] [.i,.p] (.w (.a (.int .u32 (.v 4)))) [(.a 0,.prop 5)]
(.ret (.w (.a (.int .u32 (.v 4)))) [(.a 0,.prop 5)]))
theorem tree_cSum:tree Tryz.prog { } Tryz.f151 [.a (.sl (.v 0) (.v 1) (.v 2))] [(.a 0,.prop 3)] 4=t_cSum:=by kernel_rfl
def t_cUnwrap:T :=
(.need (.o1 (.inr .i64) (.o2 .sub (.o1 .ofNat (.v 1)) (.i 4)))
(.br (.o2 .lt (.o2 .sub (.o1 .ofNat (.v 1)) (.i 4)) (.i 0))
(.ret (.tup [.a (.sl .nil (.n 0) (.n 0)),.a (.int .i64 (.i 3))]) [(.a 0,.prop 3)])
(.read (.slice 28 (.tmp 11) (some (.const (.int .i64 0))) (some (.tmp 12)) (some (.tmp 13))) 28 [(11,.w (.a (.sl (.v 0) (.v 1) (.v 2)))),(12,.w (.a (.int .i64 (.o2 .sub (.o1 .ofNat (.v 1)) (.i 4))))),(13,.w (.a (.int .i64 (.o2 .sub (.o1 .ofNat (.v 1)) (.i 4)))))] [(.a 0,.prop 3)] [.a,.n,.n] (.w (.a (.sl (.v 4) (.v 5) (.v 6))))
(.read (.slice 28 (.tmp 15) (some (.tmp 16)) none none) 28 [(15,.w (.a (.sl (.v 0) (.v 1) (.v 2)))),(16,.w (.a (.int .i64 (.o2 .sub (.o1 .ofNat (.v 1)) (.i 4)))))] [(.a 0,.prop 3)] [.a,.n,.n] (.w (.a (.sl (.v 7) (.v 8) (.v 9))))
(.call 85 [.a (.sl (.v 7) (.v 8) (.v 9))] [(.a 0,.prop 3)] [.n,.p,.p] (.w (.a (.ptr (.v 10) 0))) [(.b (.v 10),.prop 11),(.a 0,.prop 12)]
(.call 153 [.a (.ptr (.v 10) 0),.a (.int .i64 (.i 4))] [(.b (.v 10),.prop 11)] [.i,.p] (.w (.a (.int .u64 (.v 13)))) [(.b (.v 10),.prop 14)]
(.call 151 [.a (.sl (.v 4) (.v 5) (.v 6))] [(.a 0,.prop 12)] [.i,.p] (.w (.a (.int .u32 (.v 15)))) [(.a 0,.prop 16)]
(.need (.o1 (.inr .u64) (.v 15))
(.br (.o1 .not (.o2 .eq (.v 13) (.v 15)))
(.ret (.tup [.a (.sl .nil (.n 0) (.n 0)),.a (.int .i64 (.i 3))]) [(.a 0,.prop 16)])
(.call 73 [.a (.sl (.v 4) (.v 5) (.v 6))] [(.a 0,.prop 16)] [.a,.n,.n,.p,.p] (.w (.a (.sl (.v 17) (.v 18) (.v 19)))) [(.a 17,.prop 20),(.a 0,.prop 21)]
(.ret (.tup [.a (.sl (.v 17) (.v 18) (.v 19)),.a (.int .i64 (.i 0))]) [(.a 0,.prop 21),(.a 17,.prop 20)])))))))))))
theorem tree_cUnwrap:tree Tryz.prog { } Tryz.f84 [.a (.sl (.v 0) (.v 1) (.v 2))] [(.a 0,.prop 3)] 4=t_cUnwrap:=by kernel_rfl
def t_grow8:T :=
(.br (.o2 .lt (.v 4) (.i 0))
(.op (.makeInterface 9 (.const (.string ⟨#[99,97,110,110,111,116,32,98,101,32,110,101,103,97,116,105,118,101]⟩))) 20 [] [] [.v,.p] (.w (.a (.val 5))) [(.a 5,.prop 6)]
(.op (.panic (.tmp 7)) 0 [(7,.w (.a (.val 5)))] [(.a 5,.prop 6)] [.p] (.tup []) [(.a 5,.prop 7)]
(.need (.o1 (.inr .i64) (.o2 .sub (.o1 .ofNat (.v 2)) (.o1 .ofNat (.v 1))))
(.need (.o1 (.inr .i64) (.o2 .sub (.v 4) (.o2 .sub (.o1 .ofNat (.v 2)) (.o1 .ofNat (.v 1)))))
(.br (.o2 .lt (.i 0) (.o2 .sub (.v 4) (.o2 .sub (.o1 .ofNat (.v 2)) (.o1 .ofNat (.v 1)))))
(.read (.slice 28 (.tmp 17) none (some (.tmp 19)) none) 28 [(17,.w (.a (.sl (.v 0) (.v 1) (.v 2)))),(19,.w (.a (.int .i64 (.o1 .ofNat (.v 2)))))] [(.a 0,.prop 3)] [.a,.n,.n] (.w (.a (.sl (.v 8) (.v 9) (.v 10))))
(.op (.call ⟨.builtin .append,#[.tmp 20,.tmp 21],#[28,3]⟩) 28 [(20,.w (.a (.sl (.v 8) (.v 9) (.v 10)))),(21,.w (.a (.int .i64 (.o2 .sub (.v 4) (.o2 .sub (.o1 .ofNat (.v 2)) (.o1 .ofNat (.v 1)))))))] [(.a 0,.prop 3)] [.a,.n,.n,.p,.p] (.w (.a (.sl (.v 11) (.v 12) (.v 13)))) [(.a 11,.prop 14),(.a 0,.prop 15)]
(.read (.slice 28 (.tmp 22) none (some (.tmp 24)) none) 28 [(22,.w (.a (.sl (.v 11) (.v 12) (.v 13)))),(24,.w (.a (.int .i64 (.o1 .ofNat (.v 1)))))] [(.a 11,.prop 14)] [.a,.n,.n] (.w (.a (.sl (.v 16) (.v 17) (.v 18))))
(.ret (.w (.a (.sl (.v 16) (.v 17) (.v 18)))) [(.a 0,.prop 15),(.a 11,.prop 14)]))))
(.ret (.w (.a (.sl (.v 0) (.v 1) (.v 2)))) [(.a 0,.prop 3)]))))))
(.need (.o1 (.inr .i64) (.o2 .sub (.o1 .ofNat (.v 2)) (.o1 .ofNat (.v 1))))
(.need (.o1 (.inr .i64) (.o2 .sub (.v 4) (.o2 .sub (.o1 .ofNat (.v 2)) (.o1 .ofNat (.v 1)))))
(.br (.o2 .lt (.i 0) (.o2 .sub (.v 4) (.o2 .sub (.o1 .ofNat (.v 2)) (.o1 .ofNat (.v 1)))))
(.read (.slice 28 (.tmp 17) none (some (.tmp 19)) none) 28 [(17,.w (.a (.sl (.v 0) (.v 1) (.v 2)))),(19,.w (.a (.int .i64 (.o1 .ofNat (.v 2)))))] [(.a 0,.prop 3)] [.a,.n,.n] (.w (.a (.sl (.v 5) (.v 6) (.v 7))))
(.op (.call ⟨.builtin .append,#[.tmp 20,.tmp 21],#[28,3]⟩) 28 [(20,.w (.a (.sl (.v 5) (.v 6) (.v 7)))),(21,.w (.a (.int .i64 (.o2 .sub (.v 4) (.o2 .sub (.o1 .ofNat (.v 2)) (.o1 .ofNat (.v 1)))))))] [(.a 0,.prop 3)] [.a,.n,.n,.p,.p] (.w (.a (.sl (.v 8) (.v 9) (.v 10)))) [(.a 8,.prop 11),(.a 0,.prop 12)]
(.read (.slice 28 (.tmp 22) none (some (.tmp 24)) none) 28 [(22,.w (.a (.sl (.v 8) (.v 9) (.v 10)))),(24,.w (.a (.int .i64 (.o1 .ofNat (.v 1)))))] [(.a 8,.prop 11)] [.a,.n,.n] (.w (.a (.sl (.v 13) (.v 14) (.v 15))))
(.ret (.w (.a (.sl (.v 13) (.v 14) (.v 15)))) [(.a 0,.prop 12),(.a 8,.prop 11)]))))
(.ret (.w (.a (.sl (.v 0) (.v 1) (.v 2)))) [(.a 0,.prop 3)])))))
theorem tree_grow8:tree Tryz.prog { opn:=true } Tryz.f201 [.a (.sl (.v 0) (.v 1) (.v 2)),.a (.int .i64 (.v 4))] [(.a 0,.prop 3)] 5=t_grow8:=by kernel_rfl
end Go.Proofs.YtdieogcemmnaaaaGreatDoor.RX

namespace Go.Proofs.YtdieogcemmnaaaaGreatDoor
set_option linter.unusedSimpArgs false
set_option linter.unusedVariables false
open Go.Proofs.YtdieogcemmnaaaaGreatDoor RX
set_option maxRecDepth 100000
def nib (s:Nat):Nat:=(s / 16) ^^^ (fours[s % 16]?.getD 0)
def nibs:Nat → Nat → Nat | 0,y=>y | k + 1,y=>nibs k (nib y)
def crcB (s:Nat) (b:UInt8):Nat:=nib (nib (s ^^^ b.toNat))
def crcS (s:Nat) (l:List UInt8):Nat:=l.foldl crcB s
def moreS (s:Nat) (l:List UInt8):Nat:=4294967295 ^^^ crcS (4294967295 ^^^ s) l
def sumS (l:List UInt8):Nat:=moreS 0 l
theorem xor32 {a b:Nat} (ha:a < 4294967296) (hb:b < 4294967296):a ^^^ b < 4294967296:=Nat.xor_lt_two_pow (n:=32) ha hb
theorem fours_lt (k:Nat):fours[k]?.getD 0 < 4294967296:=by
 by_cases h:k < 16
 ·have : ∀ k < 16,fours[k]?.getD 0 < 4294967296:=by decide
  exact this k h
 ·rw [List.getElem?_eq_none (by show 16 ≤ k; omega)]; decide
theorem nib_lt {s:Nat} (h:s < 4294967296):nib s < 4294967296:=xor32 (by omega) (fours_lt _)
theorem crcB_lt {s:Nat} (h:s < 4294967296) (b:UInt8):crcB s b < 4294967296:=nib_lt (nib_lt (xor32 h (by have:=b.toNat_lt; omega)))
theorem crcS_lt {s:Nat} (h:s < 4294967296) : ∀ l:List UInt8,crcS s l < 4294967296:=fun l=>by
 induction l generalizing s with
 | nil=>exact h
 | cons b l ih=>exact ih (crcB_lt h b)
theorem moreS_lt {s:Nat} (h:s < 4294967296) (l:List UInt8):moreS s l < 4294967296:=xor32 (by decide) (crcS_lt (xor32 (by decide) h) l)
theorem crcS_snoc (s:Nat) (l:List UInt8) (b:UInt8):crcS s (l ++ [b])=crcB (crcS s l) b:=by simp [crcS]
theorem wrap32 {x:Nat} (h:x < 4294967296):IntKind.u32.wrap (x:Int)=x:=wrap_in ⟨by simp [IntKind.min,IntKind.signed],by simp [IntKind.max,IntKind.signed,IntKind.bits]; omega⟩
theorem bxor32 {a b:Nat} (ha:a < 4294967296) (hb:b < 4294967296):bits .xor .u32 (a:Int) (b:Int)=((a ^^^ b:Nat):Int):=by
 have e:bits .xor .u32 (a:Int) (b:Int)=IntKind.u32.wrap ((BitVec.ofInt 32 (a:Int) ^^^ BitVec.ofInt 32 (b:Int)).toNat:Int):=rfl
 rw [e,BitVec.ofInt_natCast,BitVec.ofInt_natCast,BitVec.toNat_xor,BitVec.toNat_ofNat,BitVec.toNat_ofNat,Nat.mod_eq_of_lt ha,Nat.mod_eq_of_lt hb]
 exact wrap32 (xor32 ha hb)
theorem band32 {a:Nat} (ha:a < 4294967296):bits .and .u32 (a:Int) 15=((a % 16:Nat):Int):=by
 have e:bits .and .u32 (a:Int) ((15:Nat):Int)=IntKind.u32.wrap ((BitVec.ofInt 32 (a:Int) &&& BitVec.ofInt 32 ((15:Nat):Int)).toNat:Int):=rfl
 have e2:(((15:Nat):Int))=15:=rfl
 rw [← e2,e,BitVec.ofInt_natCast,BitVec.ofInt_natCast,BitVec.toNat_and,BitVec.toNat_ofNat,BitVec.toNat_ofNat,Nat.mod_eq_of_lt ha,Nat.mod_eq_of_lt (by decide),show (15:Nat)=2 ^ 4 - 1 by decide,Nat.and_two_pow_sub_one_eq_mod]
 exact wrap32 (by omega)
theorem shr32 (a:Nat):((a:Int).fdiv (2 ^ (min (4:Int).toNat IntKind.u32.bits)))=((a / 16:Nat):Int):=by
 rw [show min (4:Int).toNat IntKind.u32.bits=4 by decide,Int.fdiv_eq_ediv_of_nonneg _ (by decide)]
 simp
def u32v (x:Nat):Value := .int .u32 x
theorem fours_rd (A:HP):Rd A (some ⟨0,0,none⟩) (fours.map u32v):=fun w R h F s _ j u hj=>by
 obtain ⟨cur,ty,fr,e,hc⟩:=s.gl
 refine ⟨_,0,rfl,?_⟩
 rw [cell_at (s.oR _ _ e),Nat.zero_add]
 rw [List.getElem?_map] at hj
 cases hf:fours[j]? with
 | none=>rw [hf] at hj; cases hj
 | some x=>rw [hf] at hj; cases hj; exact hc j x hf
theorem cpl_ok {s:Nat} (hs:s < 4294967296) {i:Nat} {t ty:TypeId} (A:HP) :
  OTri Tryz.prog (semW (.unOp .xor t (.tmp i)) ty [(i,.int .u32 (s:Int))]) A (fun v=>HP.and (v = .int .u32 ((4294967295 ^^^ s:Nat):Int)) A):=fun w R h F st H=>by
 refine ⟨.value (.int .u32 ((4294967295 ^^^ s:Nat):Int)),_,w,?_,rfl,Same.refl w,R,h,PH.le.refl _,st,rfl,H⟩
 have e:bits .xor .u32 ((4294967295:Nat):Int) (s:Int)=((4294967295 ^^^ s:Nat):Int):=bxor32 (by decide) hs
 have e2:(if IntKind.u32.signed=true then -1 else IntKind.u32.max)=((4294967295:Nat):Int):=by decide
 simp only [semW,execOp,arW,List.find?_cons,beq_self_eq_true,Option.map_some,Option.getD_some,unary_xor,e2,intBits_xor,e]
 rfl
theorem undF:Tryz.prog.underlying 316=some (.array 16 243):=by kernel_rfl
theorem inf32:(Tryz.prog.info? 243).isSome=true:=by kernel_rfl
theorem sz32:szT Tryz.prog 243=1:=by kernel_rfl
theorem und32:Tryz.prog.underlying 243=some (.int .u32):=by kernel_rfl
theorem agg32:aggT Tryz.prog 243=false:=by kernel_rfl
theorem fours_ix {A:HP} {t:Nat} {ty:TypeId} {k:Nat} (hk:k < 16) :
  ORead Tryz.prog (semW (.indexAddr 316 (.global 0) (.tmp t)) ty [(t,.int .u32 (k:Int))]) A (.pointer (some ⟨0,k,none⟩)):=fun w R h F s _=>by
 obtain ⟨i,hi⟩:=Option.isSome_iff_exists.1 inf32
 simp only [semW,execOp,arW,List.find?_cons,beq_self_eq_true,Option.map_some,Option.getD_some]
 rw [Sem.run_bind,RX.run_indexAt_array undF hi (by omega) (by omega),sz32]
 simp [addr_add]
theorem fours_ld {A:HP} {k:Nat} (hk:k < 16):ORead Tryz.prog (loadS 243 (.pointer (some ⟨0,k,none⟩))) A (.int .u32 ((fours[k]?.getD 0:Nat):Int)):=by
 have hx:(fours.map u32v)[k]? = some (.int .u32 ((fours[k]?.getD 0:Nat):Int)):=by
  rw [List.getElem?_map]
  cases h:fours[k]? with
  | none=>rw [List.getElem?_eq_none_iff] at h; exact absurd h (by show ¬ 16 ≤ k; omega)
  | some x=>rfl
 have:=load1_ok und32 agg32 sz32 (fours_rd A) (k:=k) (off:=0) (by simpa using hx)
 simpa [addr_add] using this
theorem more_ok (s:Nat) (hs:s < 4294967296) (a:Option Addr) (n c:Nat) (l:List UInt8) (S:HP) (hr:RdL S a n (l.map u8v)) (hl:l.length=n) (ha:n ≠ 0 → a.isSome=true) (hb:n ≤ 140737488355328) :
  Tri Tryz.prog 200 #[.int .u32 s,.slice a n c] S (fun v=>HP.and (v = .int .u32 ((moreS s l:Nat):Int)) S):=by
 refine tri_of_tree (ρ:=[.i s,.a a,.n n,.n c,.p S]) mixed Tryz.func200 tree_cMore ?_
 unfold t_cMore
 simp only [T.den,E.prop,E.den,RX.look,F1.app,F2.app,Uni.int_i,Uni.nat_n,Uni.bool_c,Uni.str_s,Uni.adr_a,Uni.val_v,Uni.hp_p,hden,cden,V.den,W.den,A.den,BR.den,SA.den,FV.den,capV,exs,exP,allP,Cur.app,List.map_cons,List.map_nil,List.cons_append,List.nil_append,List.drop_succ_cons,List.drop_zero,List.length_cons,List.length_nil,Nat.zero_add,Nat.reduceAdd,Int.neg_neg,Bool.not_not,List.append_nil,Nat.add_zero,List.getElem?_cons_zero,List.getElem?_cons_succ,Decidable.not_not,semW_eq,semW_load,ne_eq,Nat.reduceEqDiff,not_false_eq_true]
 refine (cpl_ok hs _).weak (fun _ _ h=>h) ?_
 rintro v R h ⟨rfl,H⟩
 refine ⟨_,rfl,?_,H⟩
 have h0:4294967295 ^^^ s < 4294967296:=xor32 (by decide) hs
 refine ⟨fun x k => ∃ j:Nat,k=j ∧ j ≤ n ∧ x=((crcS (4294967295 ^^^ s) (l.take j):Nat):Int),fun _ k=>n - k.toNat,⟨0,rfl,Nat.zero_le _,rfl⟩,?_⟩
 rintro x k ⟨j,rfl,hj,rfl⟩
 have hc:=crcS_lt h0 (l.take j)
 refine ⟨fun hlt => ?_,fun hge => ?_⟩
 ·have hlt':j < l.length:=by omega
  refine ⟨by omega,fun _=>⟨ha (by omega),fun _=>⟨(l[j].toNat:Int),?_,?_⟩⟩⟩
  ·exact load1_ok und8b agg8 sz8 hr.rd (k:=(j:Int).toNat * 1) (off:=0) (v:=u8v l[j]) (by simp [List.getElem?_eq_getElem hlt'])
  ·have hb8:=l[j].toNat_lt
   refine ⟨⟨by simp [IntKind.min,IntKind.signed],by simp [IntKind.max,IntKind.signed,IntKind.bits]; omega⟩,fun _ => ?_⟩
   rw [bxor32 hc (by omega)]
   have hx0:crcS (4294967295 ^^^ s) (l.take j) ^^^ l[j].toNat < 4294967296:=xor32 hc (by omega)
   refine ⟨fun x k => ∃ i:Nat,k=i ∧ i ≤ 2 ∧ ∃ y:Nat,x=(y:Int) ∧ y < 4294967296 ∧ nibs (2 - i) y=crcB (crcS (4294967295 ^^^ s) (l.take j)) l[j],fun _ k=>2 - k.toNat,⟨0,rfl,by omega,_,rfl,hx0,rfl⟩,?_⟩
   rintro x k ⟨i,rfl,hi,y,rfl,hy,hn⟩
   refine ⟨fun h2 => ?_,fun h2 => ?_⟩
   ·have hk:y % 16 < 16:=by omega
    refine ⟨.pointer (some ⟨0,y % 16,none⟩),?_,((fours[y % 16]?.getD 0:Nat):Int),?_,inI64 _ (by omega) (by omega),fun _ => ?_⟩
    ·rw [band32 hy]; exact fours_ix hk
    ·exact fours_ld hk
    ·rw [shr32,bxor32 (by omega) (fours_lt _)]
     refine ⟨⟨i + 1,by omega,by omega,_,rfl,nib_lt hy,?_⟩,by dsimp only; omega⟩
     rw [← hn,show 2 - i=(2 - (i + 1)) + 1 by omega]; rfl
   ·obtain rfl:i=2:=by omega
    refine ⟨inI64 _ (by omega) (by omega),fun _=>⟨⟨j + 1,by omega,by omega,?_⟩,by dsimp only; omega⟩⟩
    rw [List.take_succ_eq_append_getElem hlt',crcS_snoc,← hn]; rfl
 ·obtain rfl:j=l.length:=by omega
  rw [List.take_length] at hc ⊢
  refine (cpl_ok hc _).weak (fun _ _ h=>h) ?_
  rintro v R h ⟨rfl,H⟩
  exact ⟨_,rfl,.of fun R h H=>⟨rfl,H⟩,H⟩
theorem sum_ok (a:Option Addr) (n c:Nat) (l:List UInt8) (S:HP) (hr:RdL S a n (l.map u8v)) (hl:l.length=n) (ha:n ≠ 0 → a.isSome=true) (hb:n ≤ 140737488355328) :
  Tri Tryz.prog 151 #[.slice a n c] S (fun v=>HP.and (v = .int .u32 ((sumS l:Nat):Int)) S):=by
 refine tri_of_tree (ρ:=[.a a,.n n,.n c,.p S]) mixed Tryz.func151 tree_cSum ?_
 unfold t_cSum
 simp only [T.den,E.prop,E.den,RX.look,F1.app,F2.app,Uni.int_i,Uni.nat_n,Uni.bool_c,Uni.str_s,Uni.adr_a,Uni.val_v,Uni.hp_p,hden,cden,V.den,W.den,A.den,BR.den,SA.den,FV.den,capV,exs,exP,allP,Cur.app,List.map_cons,List.map_nil,List.cons_append,List.nil_append,List.drop_succ_cons,List.drop_zero,List.length_cons,List.length_nil,Nat.zero_add,Nat.reduceAdd,Int.neg_neg,Bool.not_not,List.append_nil,Nat.add_zero,List.getElem?_cons_zero,List.getElem?_cons_succ,Decidable.not_not,semW_eq,ne_eq,Nat.reduceEqDiff,not_false_eq_true]
 refine (more_ok 0 (by decide) a n c l S hr hl ha hb).weak (fun _ _ h=>h) ?_
 rintro v R h ⟨rfl,H⟩
 exact ⟨_,S,rfl,.of fun R h H=>⟨rfl,H⟩,H⟩
end Go.Proofs.YtdieogcemmnaaaaGreatDoor

namespace Go.Proofs.YtdieogcemmnaaaaGreatDoor
set_option linter.unusedSimpArgs false
set_option linter.unusedVariables false
open Go.Proofs.YtdieogcemmnaaaaGreatDoor RX
set_option maxRecDepth 100000
def apzS (ts:Array TypeId) (ty:TypeId) (u v:Value):Sem Next:=do pure (.value (← Builtin.append_ ts ty #[u,v]))
theorem semW_apz {ts:Array TypeId} {ty:TypeId} {i j:Nat} {u v:Value} (h:i ≠ j):semW (.call ⟨.builtin .append,#[.tmp i,.tmp j],ts⟩) ty [(i,u),(j,v)]=apzS ts ty u v:=by
 have h':(i == j)=false:=by simpa using h
 simp [semW,execOp,resolve,arW,invoke,builtin,h',apzS]
theorem info8i:Tryz.prog.info? 5=some (Tryz.prog.info? 5).get! := by kernel_rfl
theorem undInt':Tryz.prog.underlying 3=some (.int .i64):=by kernel_rfl
theorem zc_len (z:Value) (n:Nat):(Builtin.zeroCells #[z] n).toList.length=n:=by simp [Builtin.zeroCells]
theorem zc_size (z:Value) (n:Nat):(Builtin.zeroCells #[z] n).size=n:=by simp [Builtin.zeroCells]
theorem zc_rep (z:Value) (n:Nat):(Builtin.zeroCells #[z] n).toList=List.replicate n z:=by
 refine List.ext_getElem (by simp [Builtin.zeroCells]) fun i h1 h2 => ?_
 simp [Builtin.zeroCells,Nat.mod_one]
theorem apz_ok {ty:TypeId} (m:Nat) (h0:0 < m) (hb:m ≤ 140737488355328) (A:HP) :
  OTri Tryz.prog (apzS #[28,3] ty (.slice none 0 0) (.int .i64 (m:Int))) A
   (fun v=>HP.ex fun x=>HP.ex fun c=>HP.and (v = .slice (some ⟨x,0,none⟩) m c) (HP.sep (OwB (some ⟨x,0,none⟩) m c (List.replicate m 0)) A)):=fun w R h F s a=>by
 obtain ⟨i,hi,h1,h2,h3⟩:=info_parts info8
 have hr:=Lib.run_append_nil_zeros (P:=Tryz.prog) w 28 3 ty 5 i (.int .u8 0) .i64 .i64 und8 undInt' hi h1 m h0 (by omega) (by omega) (by rw [h3]; omega)
 have s0:Sat w.drew R h F:=s.drew _
 obtain ⟨s1,d1⟩:=s0.alloc (.cells (Builtin.zeroCells (Value.int .u8 0).cells m ++ Builtin.zeroCells (Value.int .u8 0).cells (grownCap w m 0 5 - m)) 5 (0,0))
 have hc1:=grownCap_ge w m 0 5
 have hsame:Same w (w.drew.alloc (.cells (Builtin.zeroCells (Value.int .u8 0).cells m ++ Builtin.zeroCells (Value.int .u8 0).cells (grownCap w m 0 5 - m)) 5 (0,0))):=Same.trans (b:=w.drew) ⟨rfl,rfl,rfl,Nat.le_refl _⟩ (Same.alloc w.drew _)
 refine ⟨_,_,_,by unfold apzS; rw [Sem.run_bind,hr]; rfl,rfl,hsame,R,_,PH.le.refl _,s1,w.heap.size,_,rfl,_,_,d1,PH.un_left _ _,PH.un_right d1,⟨by simp,.inr ⟨_,_,rfl,PH.one_self _ _,hc1,grownCap_le_maxLen _ _ _ _ (by unfold maxLen; omega),?_,?_⟩⟩,a⟩
 ·rw [show (Value.int .u8 0).cells = #[.int .u8 0] from rfl,Array.size_append,zc_size,zc_size]; omega
 ·rw [show (Value.int .u8 0).cells = #[.int .u8 0] from rfl,Array.toList_append,Nat.mul_one,List.take_left' (zc_len _ _),zc_rep,List.map_replicate]; rfl
theorem grow8_ok (m:Nat) (hb:m ≤ 140737488355328) :
  Tri Tryz.prog 201 #[.slice none 0 0,.int .i64 (m:Int)] HP.tt (fun v=>HP.ex fun a=>HP.ex fun c=>HP.and (v = .slice a 0 c) (OwB a 0 c [])):=by
 refine tri_of_tree (ρ:=[.a none,.n 0,.n 0,.p HP.tt,.i m]) mixed Tryz.func201 tree_grow8 ?_
 unfold t_grow8
 simp only [T.den,E.prop,E.den,RX.look,F1.app,F2.app,Uni.int_i,Uni.nat_n,Uni.bool_c,Uni.str_s,Uni.adr_a,Uni.val_v,Uni.hp_p,hden,cden,V.den,W.den,A.den,BR.den,SA.den,FV.den,capV,exs,exP,allP,Cur.app,List.map_cons,List.map_nil,List.cons_append,List.nil_append,List.drop_succ_cons,List.drop_zero,List.length_cons,List.length_nil,Nat.zero_add,Nat.reduceAdd,Int.neg_neg,Bool.not_not,List.append_nil,Nat.add_zero,List.getElem?_cons_zero,List.getElem?_cons_succ,Decidable.not_not,semW_eq,semW_append,ne_eq,Nat.reduceEqDiff,not_false_eq_true]
 refine ⟨fun h=>absurd h (by omega),fun _=>⟨inI64 _ (by omega) (by omega),fun _=>⟨inI64 _ (by omega) (by omega),fun _=>⟨fun hm => ?_,fun hm => ?_⟩⟩⟩⟩
 ·refine ⟨none,0,0,?_,?_⟩
  ·rw [semW_slice]; exact slice_ok und8 info8i HP.tt none 0 0 none (some 0) none (Nat.le_refl _) (Nat.le_refl _) (Nat.le_refl _) (fun h=>by cases h)
  ·rw [semW_apz (by decide),show ((m:Int) - ((0:Nat) - (0:Nat):Int))=(m:Int) by omega]
   refine (apz_ok m (by omega) hb HP.tt).weak (fun _ _ h=>h) ?_
   rintro v R h ⟨x,c,rfl,H⟩
   have hle:=OwC.le (HP.sep_left H)
   refine ⟨some ⟨x,0,none⟩,m,c,OwB (some ⟨x,0,none⟩) m c (List.replicate m 0),HP.tt,rfl,⟨some ⟨x,0,none⟩,0,c,?_,?_⟩,H⟩
   ·rw [semW_slice]
    have h2:ORead Tryz.prog (sliceS 28 (.slice (some ⟨x,0,none⟩) m c) (iv none) (iv (some 0)) (iv none)) (OwB (some ⟨x,0,none⟩) m c (List.replicate m 0)) (.slice (some ⟨x,0,none⟩) 0 c):=by
     simpa [addr_add] using slice_ok und8 info8i (OwB (some ⟨x,0,none⟩) m c (List.replicate m 0)) (some ⟨x,0,none⟩) m c none (some 0) none (Nat.le_refl _) (Nat.zero_le _) (Nat.le_refl _) (fun h=>by cases h)
    exact h2
   ·refine .of fun R h H=>⟨some ⟨x,0,none⟩,c,rfl,?_⟩
    obtain ⟨hl,h'⟩:=HP.sep_right H
    rcases h' with ⟨e,_⟩ | ⟨g,cur,e,hg,q1,q2,q3,q4⟩
    ·cases e
    ·exact ⟨by simp,.inr ⟨g,cur,e,hg,Nat.zero_le _,q2,q3,by simp⟩⟩
 ·exact .of fun R h H=>⟨none,0,rfl,OwC.nil _ _ R h⟩
def unwrapS (l:List UInt8):Option (List UInt8):=if l.length < 4 then none else if beV (l.drop (l.length - 4))=sumS (l.take (l.length - 4)) then some (l.take (l.length - 4)) else none
theorem sumS_lt (l:List UInt8):sumS l < 4294967296:=moreS_lt (by decide) l
theorem RdL.subs {S:HP} {a:Option Addr} {n:Nat} {xs:List Value} (r:RdL S a n xs) (o k:Nat) (hk:o + k ≤ n) (z:Prop) [Decidable z] (hz:z → k=0):RdL S (if z then a else a.map fun x=>x.add o) k ((xs.drop o).take k) where
 rd w R h F s H j u hj:=by
  rw [List.getElem?_take] at hj
  split at hj
  ·rename_i hjk
   rw [List.getElem?_drop] at hj
   obtain ⟨g,off,rfl,hc⟩:=r.rd w R h F s H (o + j) u hj
   rw [if_neg (fun h=>by have:=hz h; omega)]
   refine ⟨g,off + o,by rw [Option.map_some,RX.addr_add],?_⟩
   rw [Nat.add_assoc]; exact hc
  ·cases hj
 none R h H e:=by
  split at e
  ·exact hz ‹_›
  ·have:=r.none R h H (by simpa using e); omega
theorem unwrap_ok (a:Option Addr) (n c:Nat) (l:List UInt8) (S:HP) (hr:RdL S a n (l.map u8v)) (hl:l.length=n) (hc:n ≤ c) (ha:n ≠ 0 → a.isSome=true) (hb:n ≤ 140737488355000) :
  Tri Tryz.prog 84 #[.slice a n c] S (fun v=>HP.ex fun a'=>HP.ex fun c'=>HP.and (v = .tuple #[.slice a' ((unwrapS l).getD []).length c',.int .i64 (if (unwrapS l).isSome then 0 else 3)])
   (HP.sep S (OwB a' ((unwrapS l).getD []).length c' ((unwrapS l).getD [])))):=by
 refine tri_of_tree (ρ:=[.a a,.n n,.n c,.p S]) mixed Tryz.func84 tree_cUnwrap ?_
 unfold t_cUnwrap
 simp only [T.den,E.prop,E.den,RX.look,F1.app,F2.app,Uni.int_i,Uni.nat_n,Uni.bool_c,Uni.str_s,Uni.adr_a,Uni.val_v,Uni.hp_p,hden,cden,V.den,W.den,A.den,BR.den,SA.den,FV.den,capV,exs,exP,allP,Cur.app,List.map_cons,List.map_nil,List.cons_append,List.nil_append,List.drop_succ_cons,List.drop_zero,List.length_cons,List.length_nil,Nat.zero_add,Nat.reduceAdd,Int.neg_neg,Bool.not_not,List.append_nil,Nat.add_zero,List.getElem?_cons_zero,List.getElem?_cons_succ,Decidable.not_not,semW_eq,ne_eq,Nat.reduceEqDiff,not_false_eq_true]
 subst hl
 have bad : ∀ R h,unwrapS l=none → S.p R h → (HP.ex fun a'=>HP.ex fun c'=>HP.and (Value.tuple #[.slice none 0 0,.int .i64 3] = .tuple #[.slice a' ((unwrapS l).getD []).length c',.int .i64 (if (unwrapS l).isSome then 0 else 3)])
   (HP.sep S (OwB a' ((unwrapS l).getD []).length c' ((unwrapS l).getD [])))).p R h:=fun R h e H=>by
  rw [e]; exact ⟨none,0,rfl,HP.sep_comm (HP.sep_mono (HP.tt_sep H) (fun y _=>OwC.nil _ _ R y) fun _ h=>h)⟩
 refine ⟨inI64 _ (by omega) (by omega),fun _=>⟨fun h4 => ?_,fun h4 => ?_⟩⟩
 ·exact .of fun R h H=>bad R h (by unfold unwrapS; rw [if_pos (by omega)]) H
 ·obtain ⟨m,hm⟩ : ∃ m,l.length=m + 4:=⟨l.length - 4,by omega⟩
  have em:((l.length:Int) - 4)=(m:Nat):=by omega
  rw [em]
  have r1:RdL S (if m=0 then a else a.map fun x=>x.add (0 * szT Tryz.prog 5)) m ((l.take m).map u8v):=by
   have:=hr.subs 0 m (by omega) (m=0) (fun h=>h)
   rw [Nat.zero_mul,List.map_take]; simpa using this
  have r2:RdL S (if c=m then a else a.map fun x=>x.add (m * szT Tryz.prog 5)) 4 ((l.drop m).map u8v):=by
   have:=hr.subs m 4 (by omega) (c=m) (fun h=>by omega)
   rw [sz8,Nat.mul_one,List.map_drop]
   rwa [List.take_of_length_le (by simp; omega)] at this
  have hA1:m ≠ 0 → (if m=0 then a else a.map fun x=>x.add (0 * szT Tryz.prog 5)).isSome=true:=fun h=>by
   rw [if_neg h,Option.isSome_map]; exact ha (by omega)
  have lt1:(l.take m).length=m:=by rw [List.length_take]; omega
  have lt2:(l.drop m).length=4:=by rw [List.length_drop]; omega
  refine ⟨(if m=0 then a else a.map fun x=>x.add (0 * szT Tryz.prog 5)),m,m,by rw [semW_slice]; exact slice_ok und8 info8i S a l.length c (some 0) (some m) (some m) (Nat.zero_le _) (Nat.le_refl _) (by show m ≤ c; omega) (fun _=>rfl),(if c=m then a else a.map fun x=>x.add (m * szT Tryz.prog 5)),4,c - m,?_,?_⟩
  ·rw [semW_slice]
   have:=slice_ok und8 info8i S a l.length c (some m) none none (by show m ≤ l.length; omega) (by show l.length ≤ c; omega) (Nat.le_refl _) (fun h=>by cases h)
   have e4:l.length - m=4:=by omega
   simp only [Option.getD_some,Option.getD_none,e4] at this
   exact this
  refine (rRead_ok _ 4 (c - m) (l.drop m) S r2 lt2 (by omega)).weak (fun _ _ h=>h) ?_
  rintro v R h ⟨b,rfl,H⟩
  refine ⟨b,_,S,rfl,?_,HP.sep_comm H⟩
  refine (rNumber_ok b (l.drop m,false) 4 (by omega)).weak (fun _ _ h=>h) ?_
  rintro v R h ⟨rfl,H⟩
  refine ⟨_,_,rfl,?_,H⟩
  refine (sum_ok _ m m (l.take m) S r1 lt1 hA1 (by omega)).weak (fun _ _ h=>h) ?_
  rintro v R h ⟨rfl,H⟩
  have hlt:=sumS_lt (l.take m)
  have hn:(numR (l.drop m,false) 4).1=beV (l.drop m):=by
   unfold numR takeR
   rw [if_neg (by simp),if_neg (by rw [lt2]; omega),List.take_of_length_le (by rw [lt2]; omega)]
  rw [hn]
  have hu:unwrapS l=if beV (l.drop m)=sumS (l.take m) then some (l.take m) else none:=by
   unfold unwrapS
   rw [if_neg (by omega),show l.length - 4=m by omega]
  refine ⟨_,S,rfl,⟨inU64 _ (by omega) (by omega),fun _=>⟨fun hne => ?_,fun he => ?_⟩⟩,H⟩
  ·exact .of fun R h H=>bad R h (by rw [hu,if_neg (by omega)]) H
  ·rw [if_pos (by omega)] at hu
   refine (clone8_ok S _ m m (l.take m) r1 lt1 (by omega)).weak (fun _ _ h=>h) ?_
   rintro v R h ⟨a',c',rfl,H⟩
   refine ⟨a',m,c',OwB a' m c' (l.take m),S,rfl,.of fun R h H => ?_,H⟩
   rw [hu]
   refine ⟨a',c',?_,?_⟩
   ·simp only [Option.getD_some,Option.isSome_some,if_true,lt1]
   ·simp only [Option.getD_some,lt1]; exact H
end Go.Proofs.YtdieogcemmnaaaaGreatDoor

namespace Go.Proofs.YtdieogcemmnaaaaGreatDoor
open Go.Proofs.YtdieogcemmnaaaaGreatDoor RX
def sE (l:List UInt8):Value := .string ⟨l.toArray⟩
theorem bytes_beq (a b:List UInt8):((⟨a.toArray⟩:ByteArray) == ⟨b.toArray⟩)=decide (a=b):=by
 have:((⟨a.toArray⟩:ByteArray) == ⟨b.toArray⟩)=(a.toArray == b.toArray):=rfl
 rw [this]
 by_cases h:a=b
 ·subst h; simp
 ·simp [h]
theorem str_enc {P:Program} {kt:TypeId} (h:P.underlying kt=some .string):KeyEnc P kt sE where
 check em k w:=by
  unfold Instr.checkKey
  simp [run_underlying h,sE]
 find k l w:=by
  unfold Instr.findKey
  have hn : ∀ (l:AL (List UInt8)) (i:Nat),Instr.findNow .string (sE k) (l.map (toE sE)) i=some (alIdx k l i):=by
   intro l
   induction l with
   | nil=>intro i; rfl
   | cons x l ih =>
    intro i
    simp only [List.map_cons,Instr.findNow,toE,sE,Instr.sameNow,alIdx,bytes_beq]
    by_cases e:k=x.1
    ·simp [e]
    ·simp only [decide_eq_false e,if_neg e]
     exact ih (i + 1)
  simp only [Sem.run_bind,run_underlying h,Result.andThen,hn,Sem.run_pure]
 bits k:=by simp [Instr.sameBits,sE,bytes_beq]
end Go.Proofs.YtdieogcemmnaaaaGreatDoor

namespace Go.Proofs
open Go.Shelf
def Tryz.lays137_ren:Go.Shelf.Ren:=⟨fun | 137=>238 | 217=>262 | 266=>272 | n=>n,fun | 9=>9 | 5=>5 | 3=>3 | n=>n,fun | n=>n⟩
theorem Tryz.lays137:Go.Proofs.Lays.n137 Tryz.prog Tryz.lays137_ren:={
 mixed:=by kernel_rfl
 f137:=Tryz.func238.trans (congrArg some (by kernel_rfl))
 f217:=Tryz.func262.trans (congrArg some (by kernel_rfl))
 f266:=Tryz.func272.trans (congrArg some (by kernel_rfl))
 t3:=Tryz.underlying3
 a3:=Tryz.isAgg3
 z3:=Tryz.sizeOf3
 v3:=Tryz.zeroValue3
 t5:=Tryz.underlying5
 a5:=Tryz.isAgg5
 z5:=Tryz.sizeOf5
 v5:=Tryz.zeroValue5
 t9:=Tryz.underlying9
 a9:=Tryz.isAgg9
 z9:=Tryz.sizeOf9
 v9:=Tryz.zeroValue9 }
open Go.RowKit in
theorem Tryz.strings_IndexByte (s:ByteArray) (c:Int) (w:World) :
  Calls Tryz.prog 238 #[.string s,.int .u8 c] w fun e w'=>e = .returned (.int .i64 (Lib.indexByte s.data.toList c.toNat.toUInt8)) ∧ w'=w:=Any.strings_IndexByte Tryz.lays137 s c w
def Tryz.lays143_ren:Go.Shelf.Ren:=⟨fun | 143=>269 | 219=>278 | 217=>262 | 225=>280 | 224=>281 | 267=>282 | 266=>272 | 314=>283 | n=>n,fun | 9=>9 | 3=>3 | 4=>4 | 5=>5 | 46=>283 | 146=>360 | 51=>243 | n=>n,fun | 1=>1 | n=>n⟩
theorem Tryz.lays143:Go.Proofs.Lays.n143 Tryz.prog Tryz.lays143_ren:={
 mixed:=by kernel_rfl
 f143:=Tryz.func269.trans (congrArg some (by kernel_rfl))
 f217:=Tryz.func262.trans (congrArg some (by kernel_rfl))
 f219:=Tryz.func278.trans (congrArg some (by kernel_rfl))
 f224:=Tryz.func281.trans (congrArg some (by kernel_rfl))
 f225:=Tryz.func280.trans (congrArg some (by kernel_rfl))
 f266:=Tryz.func272.trans (congrArg some (by kernel_rfl))
 f267:=Tryz.func282.trans (congrArg some (by kernel_rfl))
 f314:=Tryz.func283.trans (congrArg some (by kernel_rfl))
 t3:=Tryz.underlying3
 a3:=Tryz.isAgg3
 z3:=Tryz.sizeOf3
 v3:=Tryz.zeroValue3
 t4:=Tryz.underlying4
 a4:=Tryz.isAgg4
 z4:=Tryz.sizeOf4
 v4:=Tryz.zeroValue4
 t5:=Tryz.underlying5
 a5:=Tryz.isAgg5
 z5:=Tryz.sizeOf5
 v5:=Tryz.zeroValue5
 t9:=Tryz.underlying9
 a9:=Tryz.isAgg9
 z9:=Tryz.sizeOf9
 v9:=Tryz.zeroValue9
 t46:=Tryz.underlying283
 a46:=Tryz.isAgg283
 z46:=Tryz.sizeOf283
 v46:=Tryz.zeroValue283
 t51:=Tryz.underlying243
 a51:=Tryz.isAgg243
 z51:=Tryz.sizeOf243
 v51:=Tryz.zeroValue243
 t146:=Tryz.underlying360
 a146:=Tryz.isAgg360
 z146:=Tryz.sizeOf360
 v146:=Tryz.zeroValue360
 g1:=by kernel_rfl }
open Go.RowKit Go.Lib in
theorem Tryz.strings_Index_one (s:ByteArray) (c:UInt8) (w:World) :
  Calls Tryz.prog 269 #[.string s,.string ⟨#[c]⟩] w fun e w'=>e = .returned (.int .i64 (Lib.indexByte s.data.toList c)) ∧ w'=w:=Any.strings_Index_one Tryz.lays143 s c w
def Tryz.lays138_ren:Go.Shelf.Ren:=⟨fun | 138=>268 | 195=>275 | 218=>277 | 143=>269 | 219=>278 | 217=>262 | 225=>280 | 224=>281 | 267=>282 | 266=>272 | 314=>283 | n=>n,fun | 9=>9 | 3=>3 | 4=>4 | 5=>5 | 0=>0 | 46=>283 | 146=>360 | 51=>243 | n=>n,fun | 1=>1 | n=>n⟩
theorem Tryz.lays138:Go.Proofs.Lays.n138 Tryz.prog Tryz.lays138_ren:={
 mixed:=by kernel_rfl
 f138:=Tryz.func268.trans (congrArg some (by kernel_rfl))
 f143:=Tryz.func269.trans (congrArg some (by kernel_rfl))
 f195:=Tryz.func275.trans (congrArg some (by kernel_rfl))
 f217:=Tryz.func262.trans (congrArg some (by kernel_rfl))
 f218:=Tryz.func277.trans (congrArg some (by kernel_rfl))
 f219:=Tryz.func278.trans (congrArg some (by kernel_rfl))
 f224:=Tryz.func281.trans (congrArg some (by kernel_rfl))
 f225:=Tryz.func280.trans (congrArg some (by kernel_rfl))
 f266:=Tryz.func272.trans (congrArg some (by kernel_rfl))
 f267:=Tryz.func282.trans (congrArg some (by kernel_rfl))
 f314:=Tryz.func283.trans (congrArg some (by kernel_rfl))
 t0:=Tryz.underlying0
 a0:=Tryz.isAgg0
 z0:=Tryz.sizeOf0
 v0:=Tryz.zeroValue0
 t3:=Tryz.underlying3
 a3:=Tryz.isAgg3
 z3:=Tryz.sizeOf3
 v3:=Tryz.zeroValue3
 t4:=Tryz.underlying4
 a4:=Tryz.isAgg4
 z4:=Tryz.sizeOf4
 v4:=Tryz.zeroValue4
 t5:=Tryz.underlying5
 a5:=Tryz.isAgg5
 z5:=Tryz.sizeOf5
 v5:=Tryz.zeroValue5
 t9:=Tryz.underlying9
 a9:=Tryz.isAgg9
 z9:=Tryz.sizeOf9
 v9:=Tryz.zeroValue9
 t46:=Tryz.underlying283
 a46:=Tryz.isAgg283
 z46:=Tryz.sizeOf283
 v46:=Tryz.zeroValue283
 t51:=Tryz.underlying243
 a51:=Tryz.isAgg243
 z51:=Tryz.sizeOf243
 v51:=Tryz.zeroValue243
 t146:=Tryz.underlying360
 a146:=Tryz.isAgg360
 z146:=Tryz.sizeOf360
 v146:=Tryz.zeroValue360
 g1:=by kernel_rfl }
open Go.RowKit Go.Lib in
theorem Tryz.strings_Count_one (s:ByteArray) (c:UInt8) (w:World) :
  Calls Tryz.prog 268 #[.string s,.string ⟨#[c]⟩] w fun e w'=>e = .returned (.int .i64 (Lib.countByte s.data.toList c)) ∧ w'=w:=Any.strings_Count_one Tryz.lays138 s c w
def Tryz.lays189_ren:Go.Shelf.Ren:=⟨fun | 189=>134 | 125=>193 | 257=>192 | 128=>227 | 129=>228 | 294=>218 | 295=>219 | 296=>220 | 297=>221 | 298=>222 | 299=>223 | 216=>224 | 300=>225 | 301=>226 | 328=>253 | 329=>254 | 330=>255 | 331=>256 | 332=>257 | 215=>209 | 343=>270 | n=>n,fun | 28=>89 | 3=>3 | 46=>283 | 0=>0 | 51=>243 | 53=>172 | 4=>4 | 183=>303 | 182=>302 | 131=>201 | 5=>5 | 9=>9 | 218=>334 | 222=>338 | 228=>347 | 229=>76 | n=>n,fun | n=>n⟩
theorem Tryz.lays189:Go.Proofs.Lays.n189 Tryz.prog Tryz.lays189_ren:={
 mixed:=by kernel_rfl
 f125:=Tryz.func193.trans (congrArg some (by kernel_rfl))
 f128:=Tryz.func227.trans (congrArg some (by kernel_rfl))
 f129:=Tryz.func228.trans (congrArg some (by kernel_rfl))
 f189:=Tryz.func134.trans (congrArg some (by kernel_rfl))
 f215:=Tryz.func209.trans (congrArg some (by kernel_rfl))
 f216:=Tryz.func224.trans (congrArg some (by kernel_rfl))
 f257:=Tryz.func192.trans (congrArg some (by kernel_rfl))
 f294:=Tryz.func218.trans (congrArg some (by kernel_rfl))
 f295:=Tryz.func219.trans (congrArg some (by kernel_rfl))
 f296:=Tryz.func220.trans (congrArg some (by kernel_rfl))
 f297:=Tryz.func221.trans (congrArg some (by kernel_rfl))
 f298:=Tryz.func222.trans (congrArg some (by kernel_rfl))
 f299:=Tryz.func223.trans (congrArg some (by kernel_rfl))
 f300:=Tryz.func225.trans (congrArg some (by kernel_rfl))
 f301:=Tryz.func226.trans (congrArg some (by kernel_rfl))
 f328:=Tryz.func253.trans (congrArg some (by kernel_rfl))
 f329:=Tryz.func254.trans (congrArg some (by kernel_rfl))
 f330:=Tryz.func255.trans (congrArg some (by kernel_rfl))
 f331:=Tryz.func256.trans (congrArg some (by kernel_rfl))
 f332:=Tryz.func257.trans (congrArg some (by kernel_rfl))
 f343:=Tryz.func270.trans (congrArg some (by kernel_rfl))
 t0:=Tryz.underlying0
 a0:=Tryz.isAgg0
 z0:=Tryz.sizeOf0
 v0:=Tryz.zeroValue0
 t3:=Tryz.underlying3
 a3:=Tryz.isAgg3
 z3:=Tryz.sizeOf3
 v3:=Tryz.zeroValue3
 t4:=Tryz.underlying4
 a4:=Tryz.isAgg4
 z4:=Tryz.sizeOf4
 v4:=Tryz.zeroValue4
 t5:=Tryz.underlying5
 a5:=Tryz.isAgg5
 z5:=Tryz.sizeOf5
 v5:=Tryz.zeroValue5
 t9:=Tryz.underlying9
 a9:=Tryz.isAgg9
 z9:=Tryz.sizeOf9
 v9:=Tryz.zeroValue9
 t28:=Tryz.underlying89
 a28:=Tryz.isAgg89
 z28:=Tryz.sizeOf89
 v28:=Tryz.zeroValue89
 t46:=Tryz.underlying283
 a46:=Tryz.isAgg283
 z46:=Tryz.sizeOf283
 v46:=Tryz.zeroValue283
 t51:=Tryz.underlying243
 a51:=Tryz.isAgg243
 z51:=Tryz.sizeOf243
 v51:=Tryz.zeroValue243
 t53:=Tryz.underlying172
 a53:=Tryz.isAgg172
 z53:=Tryz.sizeOf172
 v53:=Tryz.zeroValue172
 t131:=Tryz.underlying201
 a131:=Tryz.isAgg201
 z131:=Tryz.sizeOf201
 v131:=Tryz.zeroValue201
 t182:=Tryz.underlying302
 a182:=Tryz.isAgg302
 z182:=Tryz.sizeOf302
 v182:=Tryz.zeroValue302
 t183:=Tryz.underlying303
 a183:=Tryz.isAgg303
 z183:=Tryz.sizeOf303
 v183:=Tryz.zeroValue303
 t218:=Tryz.underlying334
 a218:=Tryz.isAgg334
 z218:=Tryz.sizeOf334
 v218:=Tryz.zeroValue334
 t222:=Tryz.underlying338
 a222:=Tryz.isAgg338
 z222:=Tryz.sizeOf338
 v222:=Tryz.zeroValue338
 t228:=Tryz.underlying347
 a228:=Tryz.isAgg347
 z228:=Tryz.sizeOf347
 v228:=Tryz.zeroValue347
 t229:=Tryz.underlying76
 a229:=Tryz.isAgg76
 z229:=Tryz.sizeOf76
 v229:=Tryz.zeroValue76 }
open Go.Sort Go.RowKit in
theorem Tryz.slices_Sort_int (blk off cap:Nat) (zs:List Int) (w:World) (hH:Holds (Value.int .i64) w blk off zs.toArray) (hblk:blk < w.heap.size) (hsz:zs.length < 4611686018427387904) :
  Calls Tryz.prog 134 #[.slice (some ⟨blk,off,none⟩) zs.length cap] w fun e w' =>
   e = .returned (.tuple #[]) ∧ ∃ n os,w'=grow (putRow (Value.int .i64) (Sort.ahead w n) blk off (zs.mergeSort fun x y=>decide (x ≤ y)).toArray) os:=Any.slices_Sort_int Tryz.lays189 blk off cap zs w hH hblk hsz
def Tryz.lays190_ren:Go.Shelf.Ren:=⟨fun | 190=>137 | 125=>193 | 258=>195 | 128=>227 | 129=>228 | 302=>229 | 303=>230 | 304=>231 | 305=>232 | 306=>233 | 307=>234 | 308=>235 | 309=>236 | 310=>237 | 333=>258 | 329=>254 | 330=>255 | 334=>259 | 335=>260 | 336=>261 | 344=>271 | n=>n,fun | 31=>29 | 9=>9 | 3=>3 | 46=>283 | 0=>0 | 51=>243 | 53=>172 | 4=>4 | 183=>303 | 182=>302 | 131=>201 | 5=>5 | 218=>334 | 222=>338 | 228=>347 | 229=>76 | n=>n,fun | n=>n⟩
theorem Tryz.lays190:Go.Proofs.Lays.n190 Tryz.prog Tryz.lays190_ren:={
 mixed:=by kernel_rfl
 f125:=Tryz.func193.trans (congrArg some (by kernel_rfl))
 f128:=Tryz.func227.trans (congrArg some (by kernel_rfl))
 f129:=Tryz.func228.trans (congrArg some (by kernel_rfl))
 f190:=Tryz.func137.trans (congrArg some (by kernel_rfl))
 f258:=Tryz.func195.trans (congrArg some (by kernel_rfl))
 f302:=Tryz.func229.trans (congrArg some (by kernel_rfl))
 f303:=Tryz.func230.trans (congrArg some (by kernel_rfl))
 f304:=Tryz.func231.trans (congrArg some (by kernel_rfl))
 f305:=Tryz.func232.trans (congrArg some (by kernel_rfl))
 f306:=Tryz.func233.trans (congrArg some (by kernel_rfl))
 f307:=Tryz.func234.trans (congrArg some (by kernel_rfl))
 f308:=Tryz.func235.trans (congrArg some (by kernel_rfl))
 f309:=Tryz.func236.trans (congrArg some (by kernel_rfl))
 f310:=Tryz.func237.trans (congrArg some (by kernel_rfl))
 f329:=Tryz.func254.trans (congrArg some (by kernel_rfl))
 f330:=Tryz.func255.trans (congrArg some (by kernel_rfl))
 f333:=Tryz.func258.trans (congrArg some (by kernel_rfl))
 f334:=Tryz.func259.trans (congrArg some (by kernel_rfl))
 f335:=Tryz.func260.trans (congrArg some (by kernel_rfl))
 f336:=Tryz.func261.trans (congrArg some (by kernel_rfl))
 f344:=Tryz.func271.trans (congrArg some (by kernel_rfl))
 t0:=Tryz.underlying0
 a0:=Tryz.isAgg0
 z0:=Tryz.sizeOf0
 v0:=Tryz.zeroValue0
 t3:=Tryz.underlying3
 a3:=Tryz.isAgg3
 z3:=Tryz.sizeOf3
 v3:=Tryz.zeroValue3
 t4:=Tryz.underlying4
 a4:=Tryz.isAgg4
 z4:=Tryz.sizeOf4
 v4:=Tryz.zeroValue4
 t5:=Tryz.underlying5
 a5:=Tryz.isAgg5
 z5:=Tryz.sizeOf5
 v5:=Tryz.zeroValue5
 t9:=Tryz.underlying9
 a9:=Tryz.isAgg9
 z9:=Tryz.sizeOf9
 v9:=Tryz.zeroValue9
 t31:=Tryz.underlying29
 a31:=Tryz.isAgg29
 z31:=Tryz.sizeOf29
 v31:=Tryz.zeroValue29
 t46:=Tryz.underlying283
 a46:=Tryz.isAgg283
 z46:=Tryz.sizeOf283
 v46:=Tryz.zeroValue283
 t51:=Tryz.underlying243
 a51:=Tryz.isAgg243
 z51:=Tryz.sizeOf243
 v51:=Tryz.zeroValue243
 t53:=Tryz.underlying172
 a53:=Tryz.isAgg172
 z53:=Tryz.sizeOf172
 v53:=Tryz.zeroValue172
 t131:=Tryz.underlying201
 a131:=Tryz.isAgg201
 z131:=Tryz.sizeOf201
 v131:=Tryz.zeroValue201
 t182:=Tryz.underlying302
 a182:=Tryz.isAgg302
 z182:=Tryz.sizeOf302
 v182:=Tryz.zeroValue302
 t183:=Tryz.underlying303
 a183:=Tryz.isAgg303
 z183:=Tryz.sizeOf303
 v183:=Tryz.zeroValue303
 t218:=Tryz.underlying334
 a218:=Tryz.isAgg334
 z218:=Tryz.sizeOf334
 v218:=Tryz.zeroValue334
 t222:=Tryz.underlying338
 a222:=Tryz.isAgg338
 z222:=Tryz.sizeOf338
 v222:=Tryz.zeroValue338
 t228:=Tryz.underlying347
 a228:=Tryz.isAgg347
 z228:=Tryz.sizeOf347
 v228:=Tryz.zeroValue347
 t229:=Tryz.underlying76
 a229:=Tryz.isAgg76
 z229:=Tryz.sizeOf76
 v229:=Tryz.zeroValue76 }
open Go.Sort Go.RowKit in
theorem Tryz.slices_Sort_string (blk off cap:Nat) (ss:List (List UInt8)) (w:World) (hH:Holds encStr w blk off ss.toArray) (hblk:blk < w.heap.size) (hsz:ss.length < 4611686018427387904) :
  Calls Tryz.prog 137 #[.slice (some ⟨blk,off,none⟩) ss.length cap] w fun e w' =>
   e = .returned (.tuple #[]) ∧ ∃ n os,w'=grow (putRow encStr (Sort.ahead w n) blk off (ss.mergeSort fun x y=>decide (x ≤ y)).toArray) os:=Any.slices_Sort_string Tryz.lays190 blk off cap ss w hH hblk hsz
def Tryz.lays99_ren:Go.Shelf.Ren:=⟨fun | 99=>214 | 206=>250 | n=>n,fun | 9=>9 | 4=>4 | 3=>3 | n=>n,fun | n=>n⟩
theorem Tryz.lays99:Go.Proofs.Lays.n99 Tryz.prog Tryz.lays99_ren:={
 mixed:=by kernel_rfl
 f99:=Tryz.func214.trans (congrArg some (by kernel_rfl))
 f206:=Tryz.func250.trans (congrArg some (by kernel_rfl))
 t3:=Tryz.underlying3
 a3:=Tryz.isAgg3
 z3:=Tryz.sizeOf3
 v3:=Tryz.zeroValue3
 t4:=Tryz.underlying4
 a4:=Tryz.isAgg4
 z4:=Tryz.sizeOf4
 v4:=Tryz.zeroValue4
 t9:=Tryz.underlying9
 a9:=Tryz.isAgg9
 z9:=Tryz.sizeOf9
 v9:=Tryz.zeroValue9 }
open Go.RowKit Go.Lib in
theorem Tryz.strings_HasPrefix (s p:ByteArray) (w:World) :
  Calls Tryz.prog 214 #[.string s,.string p] w fun e w'=>e = .returned (.bool (Lib.hasPrefix s.data.toList p.data.toList)) ∧ w'=w:=Any.strings_HasPrefix Tryz.lays99 s p w
open Go.RowKit Go.Sort in
theorem Tryz.slices_Sort_string_none (p:Option Addr) (cap:Nat) (w:World) :
  Calls Tryz.prog 137 #[.slice p 0 cap] w fun e w'=>e = .returned (.tuple #[]) ∧ w'=w:=Any.slices_Sort_string_none Tryz.lays190 p cap w
open Go.RowKit Go.Sort in
theorem Tryz.slices_Sort_int_none (p:Option Addr) (cap:Nat) (w:World) :
  Calls Tryz.prog 134 #[.slice p 0 cap] w fun e w'=>e = .returned (.tuple #[]) ∧ w'=w:=Any.slices_Sort_int_none Tryz.lays189 p cap w
def Tryz.laysSlC25_f176_ren:Go.Shelf.Ren:=⟨fun | 5=>176 | 7=>209 | n=>n,fun | 22=>3 | 3=>3 | 4=>4 | n=>n,fun | n=>n⟩
theorem Tryz.laysSlC25_f176:Go.Proofs.SlLaysC2.n5 Tryz.prog Tryz.laysSlC25_f176_ren:={
 mixed:=by kernel_rfl
 f5:=⟨Tryz.f176.name,by decide,Tryz.func176.trans (congrArg some (by kernel_rfl))⟩
 f7:=⟨Tryz.f209.name,by decide,Tryz.func209.trans (congrArg some (by kernel_rfl))⟩
 t3:=Tryz.underlying3
 a3:=Tryz.isAgg3
 z3:=Tryz.sizeOf3
 v3:=Tryz.zeroValue3
 t4:=Tryz.underlying4
 a4:=Tryz.isAgg4
 z4:=Tryz.sizeOf4
 v4:=Tryz.zeroValue4
 t22:=Tryz.underlying3
 a22:=Tryz.isAgg3
 z22:=Tryz.sizeOf3
 v22:=Tryz.zeroValue3 }
open Go.Lib in
theorem Tryz.cmp_Compare_int (x y:Int) (w:World) :
  Calls Tryz.prog 176 #[.int .i64 x,.int .i64 y] w fun e w'=>e = .returned (.int .i64 (Lib.compareInt x y)) ∧ w'=w:=AnyG.cmp_Compare_int Tryz.laysSlC25_f176 x y w
end Go.Proofs

namespace Go.Proofs.YtdieogcemmnaaaaGreatDoor
open Go.Proofs.YtdieogcemmnaaaaGreatDoor RX
set_option maxRecDepth 100000
theorem Tri.ofCalls {P:Program} {f:FuncId} {args:Array Value} {v:Value} (A:HP) (h : ∀ w,Calls P f args w fun e w'=>e = .returned v ∧ w'=w):Tri P f args A (fun u=>HP.and (u=v) A):=fun w R x F s a =>
 (h w).mono fun _ _ ⟨he,hw⟩=>⟨v,he,by rw [hw]; exact Same.refl _,R,x,PH.le.refl _,by rw [hw]; exact s,rfl,a⟩
theorem hasPrefix_ok (s p:List UInt8) (A:HP):Tri Tryz.prog 214 #[sE s,sE p] A (fun v=>HP.and (v = .bool (p.isPrefixOf s)) A) :=
 Tri.ofCalls A fun w=>by
  have:=Tryz.strings_HasPrefix ⟨s.toArray⟩ ⟨p.toArray⟩ w
  exact this
theorem indexByte_ok (s:List UInt8) (c:Int) (A:HP):Tri Tryz.prog 238 #[sE s,.int .u8 c] A (fun v=>HP.and (v = .int .i64 (Lib.indexByte s c.toNat.toUInt8)) A) :=
 Tri.ofCalls A fun w=>by
  have:=Tryz.strings_IndexByte ⟨s.toArray⟩ c w
  exact this
theorem count1_ok (s:List UInt8) (c:UInt8) (A:HP):Tri Tryz.prog 268 #[sE s,sE [c]] A (fun v=>HP.and (v = .int .i64 (s.count c)) A) :=
 Tri.ofCalls A fun w=>by
  have:=Tryz.strings_Count_one ⟨s.toArray⟩ c w
  exact this
theorem index1_ok (s:List UInt8) (c:UInt8) (A:HP):Tri Tryz.prog 269 #[sE s,sE [c]] A (fun v=>HP.and (v = .int .i64 (Lib.indexByte s c)) A) :=
 Tri.ofCalls A fun w=>by
  have:=Tryz.strings_Index_one ⟨s.toArray⟩ c w
  exact this
def splitB (c:UInt8):List UInt8 → List (List UInt8)
 | []=>[[]]
 | b :: r=>if b=c then [] :: splitB c r else match splitB c r with
  | x :: q=>(b :: x) :: q
  | []=>[[b]]
theorem splitB_len (c:UInt8) : ∀ s,(splitB c s).length=s.count c + 1
 | []=>rfl
 | b :: r=>by
  have ih:=splitB_len c r
  unfold splitB
  by_cases h:b=c
  ·subst h; rw [if_pos rfl]; simp [ih]
  ·rw [if_neg h]
   cases hq:splitB c r with
   | nil=>rw [hq] at ih; simp at ih
   | cons x q=>rw [hq] at ih; simp at ih ⊢; rw [List.count_cons_of_ne h]; omega
theorem splitB_none {c:UInt8} : ∀ {s:List UInt8},s.count c=0 → splitB c s=[s]
 | [],_=>rfl
 | b :: r,h=>by
  have hb:b ≠ c:=fun e=>by subst e; simp at h
  rw [List.count_cons_of_ne hb] at h
  unfold splitB
  rw [if_neg hb,splitB_none h]
theorem idx_neg {s:List UInt8} {c:UInt8} (h:Lib.indexByte s c < 0):s.count c=0:=by
 have h1:Lib.indexByte s c = -1:=by have:=Lib.indexByte_ge s c; omega
 rw [List.count_eq_zero]
 intro hm
 obtain ⟨k,hk,e⟩:=List.mem_iff_getElem.1 hm
 exact Lib.indexByte_none h1 k (by rw [List.getElem?_eq_getElem hk,e])
theorem idx_neg_iff {s:List UInt8} {c:UInt8}:Lib.indexByte s c < 0 ↔ c ∉ s:=by
 constructor
 ·intro h; exact List.count_eq_zero.1 (idx_neg h)
 ·intro h
  rcases Int.lt_or_le (Lib.indexByte s c) 0 with h1 | h1
  ·exact h1
  ·obtain ⟨o,ho⟩ : ∃ o:Nat,Lib.indexByte s c=o:=⟨_,(Int.toNat_of_nonneg h1).symm⟩
   exact absurd (List.mem_of_getElem? (Lib.indexByte_some ho).1) h
theorem splitB_at {c:UInt8} : ∀ {s:List UInt8} {o:Nat},Lib.indexByte s c=o → splitB c s=s.take o :: splitB c (s.drop (o + 1)) ∧ o < s.length ∧ s.count c=(s.drop (o + 1)).count c + 1
 | [],o,h=>by unfold Lib.indexByte at h; omega
 | b :: r,o,h=>by
  unfold Lib.indexByte at h
  rw [show splitB c (b :: r)=if b=c then [] :: splitB c r else match splitB c r with
   | x :: q=>(b :: x) :: q
   | []=>[[b]] from rfl]
  by_cases hb:b=c
  ·subst hb
   rw [if_pos (by simp)] at h
   obtain rfl:o=0:=by omega
   rw [if_pos rfl]
   simp
  ·rw [if_neg (by simpa using hb)] at h
   split at h
   ·omega
   ·rename_i hq
    have h0:Lib.indexByte r c ≠ -1:=by simpa using hq
    have h00:=Lib.indexByte_ge r c
    obtain ⟨p,rfl⟩ : ∃ p,o=p + 1:=⟨o - 1,by omega⟩
    obtain ⟨h1,h2,h3⟩:=splitB_at (c:=c) (s:=r) (o:=p) (by omega)
    rw [if_neg hb,h1,List.count_cons_of_ne hb]
    simp only [List.take_succ_cons,List.drop_succ_cons,List.length_cons]
    exact ⟨trivial,by omega,h3⟩
abbrev OwS (a:Option Addr) (n c:Nat) (l:List (List UInt8)):HP:=OwC 9 1 a n c (l.map sE)
abbrev RoS (a:Option Addr) (n:Nat) (l:List (List UInt8)):HP:=RoC 1 a n (l.map sE)
theorem infoStr:(Tryz.prog.info? 9).map (fun i=>(i.zero,i.size,i.bytes))=some (some (.string .empty),1,16):=by kernel_rfl
theorem undSs:Tryz.prog.underlying 29=some (.slice 9):=by kernel_rfl
theorem undStr:Tryz.prog.underlying 9=some .string:=by kernel_rfl
theorem aggStr:aggT Tryz.prog 9=false:=by kernel_rfl
theorem szStr:szT Tryz.prog 9=1:=by kernel_rfl
def mkS (t:TypeId) (n c:Value):Sem Next:=do pure (.value (← Instr.makeSlice t n c))
theorem semW_mk {t ty:TypeId} {i:Nat} {u:Value}:semW (.makeSlice t (.tmp i) (.tmp i)) ty [(i,u),(i,u)]=mkS t u u:=by simp [semW,execOp,arW,mkS]
theorem made_rep (z:Value) (n:Nat):(madeCells #[z] n).toList=List.replicate n z:=by
 refine List.ext_getElem (by simp [madeCells]) fun i h1 h2 => ?_
 simp [madeCells,Nat.mod_one]
theorem mk_ok {t e:TypeId} {i:TypeInfo} {z:Value} (ht:Tryz.prog.underlying t=some (.slice e)) (hi:Tryz.prog.info? e=some i) (hz:i.zero=some z) (hzs:z.cells = #[z]) (hs:i.size=1) (n:Nat) (hb:i.bytes * n ≤ 281474976710656) (hm:n ≤ maxLen) (A:HP) :
  OTri Tryz.prog (mkS t (.int .i64 n) (.int .i64 n)) A (fun v=>HP.ex fun x=>HP.and (v = .slice (some ⟨x,0,none⟩) n n) (HP.sep (OwC e 1 (some ⟨x,0,none⟩) n n (List.replicate n z)) A)):=fun w R h F s a=>by
 have hr2:=run_make (P:=Tryz.prog) w t e i z ht hi hz .i64 .i64 n n (by omega) (Int.le_refl _) (by have:((i.bytes * n:Nat):Int) ≤ 281474976710656:=by omega
                                                                                                   rwa [Int.natCast_mul] at this) (by unfold maxLen at hm; omega)
 simp only [Int.toNat_natCast] at hr2
 obtain ⟨s1,d1⟩:=s.alloc (.cells (madeCells z.cells (n * i.size)) e)
 refine ⟨.value _,_,_,by unfold mkS; rw [Sem.run_bind,hr2]; rfl,rfl,Same.alloc w _,R,_,PH.le.refl _,s1,w.heap.size,rfl,_,_,d1,PH.un_left _ _,PH.un_right d1,⟨by simp,.inr ⟨_,_,rfl,PH.one_self _ _,Nat.le_refl _,hm,?_,?_⟩⟩,a⟩
 ·rw [hzs,hs]; simp [madeCells]
 ·rw [hzs,hs,made_rep]; simp
def cpS (ts:Array TypeId) (ty:TypeId) (u v:Value):Sem Next:=do pure (.value (← Builtin.copy_ ts ty #[u,v]))
theorem semW_copy {ts:Array TypeId} {ty:TypeId} {i j:Nat} {u v:Value} (h:i ≠ j):semW (.call ⟨.builtin .copy,#[.tmp i,.tmp j],ts⟩) ty [(i,u),(j,v)]=cpS ts ty u v:=by
 have h':(i == j)=false:=by simpa using h
 simp [semW,execOp,resolve,arW,invoke,builtin,h',cpS]
theorem cp_ok {dT sT ty e:TypeId} {i:TypeInfo} (hu:Tryz.prog.underlying dT=some (.slice e)) (hi:Tryz.prog.info? e=some i) (hs:i.size=1) (a:Option Addr) (n c:Nat) (xs:List Value) (o dl dc:Nat) (S:HP) (b:Option Addr) (m c2:Nat) (ys:List Value)
  (hr:RdL S b m ys) (hl:ys.length=m) (hm:m ≠ 0 → b.isSome=true) (hb0:b=none → c2=0) (h1 : ∀ v ∈ ys,v.oneCell'=true) (ha:a.isSome=true) (hfit:o + min m dl ≤ n) :
  OTri Tryz.prog (cpS #[dT,sT] ty (.slice (a.map fun x=>x.add o) dl dc) (.slice b m c2)) (HP.sep (OwC e 1 a n c xs) S)
   (fun v=>HP.and (v = .int .i64 ((min m dl:Nat):Int)) (HP.sep (OwC e 1 a n c (xs.take o ++ ys.take (min m dl) ++ xs.drop (o + min m dl))) S)):=by
 rintro w R h F s ⟨x1,x2,d,l1,l2,⟨hxl,hx⟩,hS⟩
 rcases hx with ⟨rfl,_⟩ | ⟨g,cur,rfl,hg,q1,q2,q3,q4⟩
 ·cases ha
 have hw:=s.oh _ _ (l1 _ _ hg)
 have hmin:(ys.take (min m dl)).length=min m dl:=by rw [List.length_take,hl]; omega
 have hsi:(Tryz.prog.info? e).map (·.size)=some 1:=by rw [hi]; simp [hs]
 have hcur:o + min m dl ≤ cur.size:=by rw [q3]; omega
 have key:(Builtin.copy_ #[dT,sT] ty #[.slice (some ⟨g,0 + o,none⟩) dl dc,.slice b m c2]).run Tryz.prog w = .ok (goInt ((min m dl:Nat):Int)) (w.setRow g (cur.toList.take o ++ ys.take (min m dl) ++ cur.toList.drop (o + min m dl)).toArray):=by
  rw [Nat.zero_add]
  cases b with
  | none =>
   have:m=0:=Classical.byContradiction fun hq=>by have:=hm hq; cases this
   subst this
   obtain rfl:=hb0 rfl
   have hrun:=run_copy_nil (P:=Tryz.prog) w dT sT ty e ⟨g,o,none⟩ dl dc hu (by rw [hsi]; rfl)
   rw [hrun]
   simp only [Nat.zero_min,Nat.add_zero,List.take_zero,List.append_nil,List.take_append_drop]
   congr 1
   rw [show cur.toList.toArray=cur by simp]
   exact (setRow_self w g cur e (0,0) hw).symm
  | some ad =>
   have:=run_copy_row (P:=Tryz.prog) w dT sT ty e g o dl dc ad m c2 cur e (ys.take (min m dl)) hu hsi hw hmin (fun j v hj => ?_) (by rw [hmin]; exact hcur) (fun v hv=>h1 v (List.mem_of_mem_take hv))
   ·rw [this,hmin]
   ·have hj2:ys[j]? = some v:=by
     rw [List.getElem?_take] at hj
     split at hj
     ·exact hj
     ·cases hj
    obtain ⟨g2,off,e2,hc⟩:=hr.rd w R x2 _ (s.cut d.symm l2 l1) hS j v hj2
    cases e2
    rw [addr_add]
    exact hc
 have hset : ∀ k,k ≠ g → (w.setRow g (cur.toList.take o ++ ys.take (min m dl) ++ cur.toList.drop (o + min m dl)).toArray).heap[k]? = w.heap[k]? := fun k hk=>setRow_other w g k _ hk
 have hhg:h g=some (.cells cur e (0,0)):=l1 _ _ hg
 have hnew:=setRow_heap w g cur (cur.toList.take o ++ ys.take (min m dl) ++ cur.toList.drop (o + min m dl)).toArray e (0,0) hw
 have s2:=s.turn (y := .cells (cur.toList.take o ++ ys.take (min m dl) ++ cur.toList.drop (o + min m dl)).toArray e (0,0)) hhg hset hnew
 have hx2g:x2 g=none:=(d g).resolve_left (by rw [hg]; simp)
 refine ⟨.value (goInt ((min m dl:Nat):Int)),goInt ((min m dl:Nat):Int),w.setRow g (cur.toList.take o ++ ys.take (min m dl) ++ cur.toList.drop (o + min m dl)).toArray,by unfold cpS; simp only [Option.map_some,addr_add]; rw [Sem.run_bind,key]; rfl,rfl,⟨rfl,rfl,rfl,by simp⟩,R,_,PH.le.refl _,s2,by simp [goInt],?_⟩
 refine ⟨PH.one g (.cells (cur.toList.take o ++ ys.take (min m dl) ++ cur.toList.drop (o + min m dl)).toArray e (0,0)),x2,fun k => ?_,PH.one_le (if_pos rfl),fun k y hk => ?_,⟨?_,.inr ⟨g,_,rfl,PH.one_self _ _,q1,q2,?_,?_⟩⟩,hS⟩
 ·by_cases e':k=g
  ·subst e'; exact .inr hx2g
  ·exact .inl (if_neg e')
 ·have:k ≠ g:=fun e'=>by subst e'; rw [hx2g] at hk; cases hk
  exact (if_neg this).trans (l2 _ _ hk)
 ·simp only [List.length_append,List.length_take,List.length_drop,hl,hxl]; omega
 ·simp only [List.size_toArray,List.length_append,List.length_take,List.length_drop,Array.length_toList,hl,q3]; omega
 ·subst q4
  simp only [List.take_append,List.length_append,List.length_take,Array.length_toList,List.take_take,List.drop_take,List.length_drop,hl]
  have m1:min o cur.size=o:=by omega
  have m2:min (n * 1) o=o:=by omega
  have m3:min o (n * 1)=o:=by omega
  have m4:min (n * 1 - o) (min m dl)=min m dl:=by omega
  have m5:min (min m dl) m=min m dl:=by omega
  rw [m1,m2,m3,m4,m5]
end Go.Proofs.YtdieogcemmnaaaaGreatDoor

namespace Go.Proofs.YtdieogcemmnaaaaGreatDoor.RX
set_option maxRecDepth 100000
-- tideline/path.Name: ρ:=[.s s]
def t_pName:T :=
(.br (.o2 .lt (.o1 .ofNat (.o1 .size (.v 0))) (.i 1))
(.ret (.w (.a (.bool (.c false)))) [])
(.br (.o2 .lt (.i 16) (.o1 .ofNat (.o1 .size (.v 0))))
(.ret (.w (.a (.bool (.c false)))) [])
(.br (.o2 .seq (.v 0) (.s [46]))
(.ret (.w (.a (.bool (.c false)))) [])
(.br (.o2 .seq (.v 0) (.s [46,46]))
(.ret (.w (.a (.bool (.c false)))) [])
(.call 238 [.a (.str (.v 0)),.a (.int .u8 (.i 47))] [] [.i] (.w (.a (.int .i64 (.v 1)))) []
(.br (.o2 .lt (.v 1) (.i 0))
(.call 238 [.a (.str (.v 0)),.a (.int .u8 (.i 0))] [] [.i] (.w (.a (.int .i64 (.v 2)))) []
(.ret (.w (.a (.bool (.o2 .lt (.v 2) (.i 0))))) []))
(.ret (.w (.a (.bool (.c false)))) [])))))))
theorem tree_pName:tree Tryz.prog { keep:=[205,190,189,130,213,216,217,252,169,215,238,214],opn:=true,rdf:=true } Tryz.f205 [.a (.str (.v 0))] [] 1=t_pName:=by kernel_rfl
def t_pSplit:T :=
(.br (.o2 .seq (.v 0) (.s [47]))
(.ret (.tup [.a (.sl .nil (.n 0) (.n 0)),.a (.int .i64 (.i 0))]) [])
(.br (.o2 .lt (.i 136) (.o1 .ofNat (.o1 .size (.v 0))))
(.ret (.tup [.a (.sl .nil (.n 0) (.n 0)),.a (.int .i64 (.i 20))]) [])
(.call 214 [.a (.str (.v 0)),.a (.str (.s [47]))] [] [.c] (.w (.a (.bool (.v 1)))) []
(.br (.o1 .not (.v 1))
(.ret (.tup [.a (.sl .nil (.n 0) (.n 0)),.a (.int .i64 (.i 20))]) [])
(.read (.slice 9 (.tmp 16) (some (.const (.int .i64 1))) none none) 9 [(16,.w (.a (.str (.v 0))))] [] [.s] (.w (.a (.str (.v 2))))
(.call 215 [.a (.str (.v 2)),.a (.str (.s [47]))] [] [.a,.n,.n,.p] (.w (.a (.sl (.v 3) (.v 4) (.v 5)))) [(.a 3,.prop 6)]
(.br (.o2 .lt (.i 8) (.o1 .ofNat (.v 4)))
(.ret (.tup [.a (.sl .nil (.n 0) (.n 0)),.a (.int .i64 (.i 20))]) [])
(.call 217 [.a (.sl (.v 3) (.v 4) (.v 5)),.a (.func 216 [])] [(.a 3,.prop 6)] [.c] (.w (.a (.bool (.v 7)))) [(.a 3,.prop 6)]
(.br (.v 7)
(.ret (.tup [.a (.sl .nil (.n 0) (.n 0)),.a (.int .i64 (.i 20))]) [])
(.ret (.tup [.a (.sl (.v 3) (.v 4) (.v 5)),.a (.int .i64 (.i 0))]) [(.a 3,.prop 6)]))))))))))
theorem tree_pSplit:tree Tryz.prog { keep:=[205,190,189,130,213,216,217,252,169,215,238,214],opn:=true,rdf:=true } Tryz.f190 [.a (.str (.v 0))] [] 1=t_pSplit:=by kernel_rfl
def t_pSplitC:T :=
(.call 205 [.a (.str (.v 0))] [] [.c] (.w (.a (.bool (.v 1)))) []
(.ret (.w (.a (.bool (.o1 .not (.v 1))))) []))
theorem tree_pSplitC:tree Tryz.prog { keep:=[205,190,189,130,213,216,217,252,169,215,238,214],opn:=true,rdf:=true } Tryz.f216 [.a (.str (.v 0))] [] 1=t_pSplitC:=by kernel_rfl
def t_sContainsF:T :=
(.call 252 [.a (.sl (.v 0) (.v 1) (.v 2)),.a (.val 4)] [(.a 0,.prop 3),(.a 4,.prop 5)] [.i] (.w (.a (.int .i64 (.v 6)))) [(.a 0,.prop 3),(.a 4,.prop 5)]
(.ret (.w (.a (.bool (.o2 .le (.i 0) (.v 6))))) [(.a 0,.prop 3),(.a 4,.prop 5)]))
theorem tree_sContainsF:tree Tryz.prog { keep:=[205,190,189,130,213,216,217,252,169,215,238,214],opn:=true,rdf:=true } Tryz.f217 [.a (.sl (.v 0) (.v 1) (.v 2)),.a (.val 4)] [(.a 0,.prop 3),(.a 4,.prop 5)] 6=t_sContainsF:=by kernel_rfl
def t_sIndexF:T :=
(.loop [.i,.i,.p] [.e (.o1 .neg (.o1 .neg (.i 0))),.e (.o1 .neg (.o1 .neg (.i 0))),.p [(.a 4,.prop 5)]]
(.br (.o2 .lt (.v 7) (.o1 .ofNat (.v 1)))
(.need (.o2 .le (.i 0) (.v 7))
(.need (.o1 .isSome (.v 0))
(.read (.load 9 (.tmp 14)) 9 [(14,.w (.a (.eptr 0 (.v 7) 1 0)))] [(.a 0,.prop 3)] [.s] (.w (.a (.str (.v 9))))
 (.callv 4 [.a (.str (.v 9))] [(.a 4,.prop 8)] [.c,.p] (.w (.a (.bool (.v 10)))) [(.a 4,.prop 11)]
(.br (.v 10)
(.ret (.w (.a (.int .i64 (.v 7)))) [(.a 0,.prop 3),(.a 4,.prop 11)])
(.need (.o1 (.inr .i64) (.o2 .add (.v 7) (.i 1)))
(.again 0 [.e (.o1 .neg (.o1 .neg (.v 6))),.e (.o1 .neg (.o1 .neg (.o2 .add (.v 7) (.i 1)))),.p [(.a 4,.prop 11)]])))))))
(.ret (.w (.a (.int .i64 (.i (-1))))) [(.a 0,.prop 3),(.a 4,.prop 8)])))
theorem tree_sIndexF:tree Tryz.prog { hv:=[(0,[.a 4])],keep:=[205,190,189,130,213,216,217,252,169,215,238,214],opn:=true,rdf:=true } Tryz.f252 [.a (.sl (.v 0) (.v 1) (.v 2)),.a (.val 4)] [(.a 0,.prop 3),(.a 4,.prop 5)] 6=t_sIndexF:=by kernel_rfl
def t_pJoin:T :=
(.br (.o2 .eq (.o1 .ofNat (.v 1)) (.i 0))
(.ret (.w (.a (.str (.s [47])))) [(.a 0,.prop 3)])
(.new
(.loop [.i,.p] [.e (.o1 .neg (.o1 .neg (.i 0))),.p [(.b (.v 4),.cells [.nilp,.sl .nil (.n 0) (.n 0)] 325)]]
(.br (.o2 .lt (.v 5) (.o1 .ofNat (.v 1)))
(.need (.o2 .le (.i 0) (.v 5))
(.need (.o1 .isSome (.v 0))
(.read (.load 9 (.tmp 13)) 9 [(13,.w (.a (.eptr 0 (.v 5) 1 0)))] [(.a 0,.prop 3)] [.s] (.w (.a (.str (.v 7))))
(.call 247 [.a (.ptr (.v 4) 0),.a (.int .u8 (.i 47))] [(.b (.v 4),.prop 6)] [.v,.p,.p] (.w (.a (.val 8))) [(.a 8,.prop 9),(.b (.v 4),.prop 10)]
(.call 248 [.a (.ptr (.v 4) 0),.a (.str (.v 7))] [(.b (.v 4),.prop 10)] [.i,.v,.p,.p] (.tup [.a (.int .i64 (.v 11)),.a (.val 12)]) [(.a 12,.prop 13),(.b (.v 4),.prop 14)]
(.need (.o1 (.inr .i64) (.o2 .add (.v 5) (.i 1)))
(.again 0 [.e (.o1 .neg (.o1 .neg (.o2 .add (.v 5) (.i 1)))),.p [(.b (.v 4),.prop 14)]])))))))
(.call 249 [.a (.ptr (.v 4) 0)] [(.b (.v 4),.prop 6)] [.s,.p] (.w (.a (.str (.v 7)))) [(.b (.v 4),.prop 8)]
(.ret (.w (.a (.str (.v 7)))) [(.a 0,.prop 3)]))))))
theorem tree_pJoin:tree Tryz.prog { absT:=[325],hv:=[(0,[.b (.v 4)])],keep:=[205,190,189,130,213,216,217,252,169,215,238,214],opn:=true,rdf:=true } Tryz.f213 [.a (.sl (.v 0) (.v 1) (.v 2))] [(.a 0,.prop 3)] 4=t_pJoin:=by kernel_rfl
def t_pParent:T :=
(.call 190 [.a (.str (.v 0))] [] [.a,.n,.n,.p,.i] (.tup [.a (.sl (.v 1) (.v 2) (.v 3)),.a (.int .i64 (.v 5))]) [(.a 1,.prop 4)]
(.br (.o1 .not (.o2 .eq (.v 5) (.i 0)))
(.ret (.tup [.a (.str (.s [])),.a (.str (.s [])),.a (.int .i64 (.i 20))]) [])
(.br (.o2 .eq (.o1 .ofNat (.v 2)) (.i 0))
(.ret (.tup [.a (.str (.s [])),.a (.str (.s [])),.a (.int .i64 (.i 20))]) [])
(.need (.o1 (.inr .i64) (.o2 .sub (.o1 .ofNat (.v 2)) (.i 1)))
(.read (.slice 29 (.tmp 22) none (some (.tmp 23)) none) 29 [(22,.w (.a (.sl (.v 1) (.v 2) (.v 3)))),(23,.w (.a (.int .i64 (.o2 .sub (.o1 .ofNat (.v 2)) (.i 1)))))] [(.a 1,.prop 4)] [.a,.n,.n] (.w (.a (.sl (.v 6) (.v 7) (.v 8))))
(.need (.o2 .le (.i 0) (.o2 .sub (.o1 .ofNat (.v 2)) (.i 1)))
(.need (.o2 .lt (.o2 .sub (.o1 .ofNat (.v 2)) (.i 1)) (.o1 .ofNat (.v 2)))
(.need (.o1 .isSome (.v 1))
(.read (.load 9 (.tmp 28)) 9 [(28,.w (.a (.eptr 1 (.o2 .sub (.o1 .ofNat (.v 2)) (.i 1)) 1 0)))] [(.a 1,.prop 4)] [.s] (.w (.a (.str (.v 9))))
(.call 213 [.a (.sl (.v 6) (.v 7) (.v 8))] [(.a 1,.prop 4)] [.s] (.w (.a (.str (.v 10)))) [(.a 1,.prop 4)]
(.ret (.tup [.a (.str (.v 10)),.a (.str (.v 9)),.a (.int .i64 (.i 0))]) [])))))))))))
theorem tree_pParent:tree Tryz.prog { keep:=[205,190,189,130,213,216,217,252,169,215,238,214],opn:=true,rdf:=true } Tryz.f189 [.a (.str (.v 0))] [] 1=t_pParent:=by kernel_rfl
def t_pInside:T :=
(.call 190 [.a (.str (.v 0))] [] [.a,.n,.n,.p,.i] (.tup [.a (.sl (.v 2) (.v 3) (.v 4)),.a (.int .i64 (.v 6))]) [(.a 2,.prop 5)]
(.br (.o1 .not (.o2 .eq (.v 6) (.i 0)))
(.ret (.w (.a (.bool (.c false)))) [])
(.call 190 [.a (.str (.v 1))] [] [.a,.n,.n,.p,.i] (.tup [.a (.sl (.v 7) (.v 8) (.v 9)),.a (.int .i64 (.v 11))]) [(.a 7,.prop 10)]
(.br (.o1 .not (.o2 .eq (.v 11) (.i 0)))
(.ret (.w (.a (.bool (.c false)))) [])
(.br (.o2 .le (.o1 .ofNat (.v 3)) (.o1 .ofNat (.v 8)))
(.ret (.w (.a (.bool (.c false)))) [])
(.read (.slice 29 (.tmp 30) none (some (.tmp 32)) none) 29 [(30,.w (.a (.sl (.v 2) (.v 3) (.v 4)))),(32,.w (.a (.int .i64 (.o1 .ofNat (.v 8)))))] [(.a 2,.prop 5)] [.a,.n,.n] (.w (.a (.sl (.v 12) (.v 13) (.v 14))))
(.call 169 [.a (.sl (.v 7) (.v 8) (.v 9)),.a (.sl (.v 12) (.v 13) (.v 14))] [(.a 7,.prop 10),(.a 2,.prop 5)] [.c] (.w (.a (.bool (.v 15)))) [(.a 7,.prop 10),(.a 2,.prop 5)]
(.ret (.w (.a (.bool (.v 15)))) []))))))))
theorem tree_pInside:tree Tryz.prog { keep:=[205,190,189,130,213,216,217,252,169,215,238,214],opn:=true,rdf:=true } Tryz.f130 [.a (.str (.v 0)),.a (.str (.v 1))] [] 2=t_pInside:=by kernel_rfl
def t_sEqual:T :=
(.br (.o1 .not (.o2 .eq (.o1 .ofNat (.v 1)) (.o1 .ofNat (.v 5))))
(.ret (.w (.a (.bool (.c false)))) [(.a 0,.prop 3),(.a 4,.prop 7)])
(.loop [.c,.i] [.e (.o1 .not (.o1 .not (.c false))),.e (.o1 .neg (.o1 .neg (.i 0)))]
(.br (.o2 .lt (.v 9) (.o1 .ofNat (.v 1)))
(.need (.o2 .le (.i 0) (.v 9))
(.need (.o1 .isSome (.v 0))
(.read (.load 9 (.tmp 18)) 9 [(18,.w (.a (.eptr 0 (.v 9) 1 0)))] [(.a 0,.prop 3)] [.s] (.w (.a (.str (.v 10))))
(.need (.o2 .lt (.v 9) (.o1 .ofNat (.v 5)))
(.need (.o1 .isSome (.v 4))
(.read (.load 9 (.tmp 22)) 9 [(22,.w (.a (.eptr 4 (.v 9) 1 0)))] [(.a 4,.prop 7)] [.s] (.w (.a (.str (.v 11))))
(.br (.o1 .not (.o2 .seq (.v 10) (.v 11)))
(.ret (.w (.a (.bool (.c false)))) [(.a 0,.prop 3),(.a 4,.prop 7)])
(.need (.o1 (.inr .i64) (.o2 .add (.v 9) (.i 1)))
(.again 0 [.e (.o1 .not (.o1 .not (.v 8))),.e (.o1 .neg (.o1 .neg (.o2 .add (.v 9) (.i 1))))])))))))))
(.ret (.w (.a (.bool (.c true)))) [(.a 0,.prop 3),(.a 4,.prop 7)]))))
theorem tree_sEqual:tree Tryz.prog { keep:=[205,190,189,130,213,216,217,252,169,215,238,214],opn:=true,rdf:=true } Tryz.f169 [.a (.sl (.v 0) (.v 1) (.v 2)),.a (.sl (.v 4) (.v 5) (.v 6))] [(.a 0,.prop 3),(.a 4,.prop 7)] 8=t_sEqual:=by kernel_rfl
def t_sSplit:T :=
(.call 251 [.a (.str (.v 0)),.a (.str (.v 1)),.a (.int .i64 (.i 0)),.a (.int .i64 (.i (-1)))] [] [.a,.n,.n,.p] (.w (.a (.sl (.v 2) (.v 3) (.v 4)))) [(.a 2,.prop 5)]
(.ret (.w (.a (.sl (.v 2) (.v 3) (.v 4)))) [(.a 2,.prop 5)]))
theorem tree_sSplit:tree Tryz.prog { keep:=[205,190,189,130,213,216,217,252,169,215,238,214],opn:=true,rdf:=true } Tryz.f215 [.a (.str (.v 0)),.a (.str (.v 1))] [] 2=t_sSplit:=by kernel_rfl
def t_sGenSplit:T :=
(.br (.o2 .eq (.v 3) (.i 0))
(.ret (.w (.a (.sl .nil (.n 0) (.n 0)))) [])
(.br (.o2 .seq (.v 1) (.s []))
(.call 267 [.a (.str (.v 0)),.a (.int .i64 (.v 3))] [] [.a,.n,.n,.p] (.w (.a (.sl (.v 4) (.v 5) (.v 6)))) [(.a 4,.prop 7)]
(.ret (.w (.a (.sl (.v 4) (.v 5) (.v 6)))) [(.a 4,.prop 7)]))
(.br (.o2 .lt (.v 3) (.i 0))
(.call 268 [.a (.str (.v 0)),.a (.str (.v 1))] [] [.i] (.w (.a (.int .i64 (.v 4)))) []
(.need (.o1 (.inr .i64) (.o2 .add (.v 4) (.i 1)))
(.need (.o1 (.inr .i64) (.o2 .add (.o1 .ofNat (.o1 .size (.v 0))) (.i 1)))
(.op (.makeSlice 29 (.tmp 30) (.tmp 30)) 29 [(30,.w (.a (.int .i64 (.o2 .mn (.o2 .add (.v 4) (.i 1)) (.o2 .add (.o1 .ofNat (.o1 .size (.v 0))) (.i 1)))))),(30,.w (.a (.int .i64 (.o2 .mn (.o2 .add (.v 4) (.i 1)) (.o2 .add (.o1 .ofNat (.o1 .size (.v 0))) (.i 1))))))] [] [.a,.n,.n,.p] (.w (.a (.sl (.v 5) (.v 6) (.v 7)))) [(.a 5,.prop 8)]
(.need (.o1 (.inr .i64) (.o2 .sub (.o2 .mn (.o2 .add (.v 4) (.i 1)) (.o2 .add (.o1 .ofNat (.o1 .size (.v 0))) (.i 1))) (.i 1)))
(.loop [.s,.i,.p] [.e (.o2 .cat (.v 0) (.s [])),.e (.o1 .neg (.o1 .neg (.i 0))),.p [(.a 5,.prop 8)]]
(.br (.o2 .lt (.v 10) (.o2 .sub (.o2 .mn (.o2 .add (.v 4) (.i 1)) (.o2 .add (.o1 .ofNat (.o1 .size (.v 0))) (.i 1))) (.i 1)))
(.call 269 [.a (.str (.v 9)),.a (.str (.v 1))] [] [.i] (.w (.a (.int .i64 (.v 12)))) []
(.br (.o2 .lt (.v 12) (.i 0))
(.need (.o2 .le (.i 0) (.v 10))
(.need (.o2 .lt (.v 10) (.o1 .ofNat (.v 6)))
(.need (.o1 .isSome (.v 5))
(.op (.store 9 (.tmp 61) (.tmp 60)) 0 [(61,.w (.a (.eptr 5 (.v 10) 1 0))),(60,.w (.a (.str (.v 9))))] [(.a 5,.prop 11)] [.p] (.tup []) [(.a 5,.prop 13)]
(.need (.o1 (.inr .i64) (.o2 .add (.v 10) (.i 1)))
(.read (.slice 29 (.tmp 62) none (some (.tmp 64)) none) 29 [(62,.w (.a (.sl (.v 5) (.v 6) (.v 7)))),(64,.w (.a (.int .i64 (.o2 .add (.v 10) (.i 1)))))] [(.a 5,.prop 13)] [.a,.n,.n] (.w (.a (.sl (.v 14) (.v 15) (.v 16))))
(.ret (.w (.a (.sl (.v 14) (.v 15) (.v 16)))) [(.a 5,.prop 13)])))))))
(.need (.o1 (.inr .i64) (.o2 .add (.v 12) (.v 2)))
(.read (.slice 9 (.tmp 44) none (some (.tmp 47)) none) 9 [(44,.w (.a (.str (.v 9)))),(47,.w (.a (.int .i64 (.o2 .add (.v 12) (.v 2)))))] [] [.s] (.w (.a (.str (.v 13))))
(.need (.o2 .le (.i 0) (.v 10))
(.need (.o2 .lt (.v 10) (.o1 .ofNat (.v 6)))
(.need (.o1 .isSome (.v 5))
(.op (.store 9 (.tmp 49) (.tmp 48)) 0 [(49,.w (.a (.eptr 5 (.v 10) 1 0))),(48,.w (.a (.str (.v 13))))] [(.a 5,.prop 11)] [.p] (.tup []) [(.a 5,.prop 14)]
(.need (.o1 (.inr .i64) (.o2 .add (.v 12) (.o1 .ofNat (.o1 .size (.v 1)))))
(.read (.slice 9 (.tmp 50) (some (.tmp 54)) none none) 9 [(50,.w (.a (.str (.v 9)))),(54,.w (.a (.int .i64 (.o2 .add (.v 12) (.o1 .ofNat (.o1 .size (.v 1)))))))] [] [.s] (.w (.a (.str (.v 15))))
(.need (.o1 (.inr .i64) (.o2 .add (.v 10) (.i 1)))
(.again 0 [.e (.o2 .cat (.v 15) (.s [])),.e (.o1 .neg (.o1 .neg (.o2 .add (.v 10) (.i 1)))),.p [(.a 5,.prop 14)]]))))))))))))
(.need (.o2 .le (.i 0) (.v 10))
(.need (.o2 .lt (.v 10) (.o1 .ofNat (.v 6)))
(.need (.o1 .isSome (.v 5))
(.op (.store 9 (.tmp 61) (.tmp 60)) 0 [(61,.w (.a (.eptr 5 (.v 10) 1 0))),(60,.w (.a (.str (.v 9))))] [(.a 5,.prop 11)] [.p] (.tup []) [(.a 5,.prop 12)]
(.need (.o1 (.inr .i64) (.o2 .add (.v 10) (.i 1)))
(.read (.slice 29 (.tmp 62) none (some (.tmp 64)) none) 29 [(62,.w (.a (.sl (.v 5) (.v 6) (.v 7)))),(64,.w (.a (.int .i64 (.o2 .add (.v 10) (.i 1)))))] [(.a 5,.prop 12)] [.a,.n,.n] (.w (.a (.sl (.v 13) (.v 14) (.v 15))))
(.ret (.w (.a (.sl (.v 13) (.v 14) (.v 15)))) [(.a 5,.prop 12)]))))))))))))))
(.need (.o1 (.inr .i64) (.o2 .add (.o1 .ofNat (.o1 .size (.v 0))) (.i 1)))
(.op (.makeSlice 29 (.tmp 30) (.tmp 30)) 29 [(30,.w (.a (.int .i64 (.o2 .mn (.v 3) (.o2 .add (.o1 .ofNat (.o1 .size (.v 0))) (.i 1)))))),(30,.w (.a (.int .i64 (.o2 .mn (.v 3) (.o2 .add (.o1 .ofNat (.o1 .size (.v 0))) (.i 1))))))] [] [.a,.n,.n,.p] (.w (.a (.sl (.v 4) (.v 5) (.v 6)))) [(.a 4,.prop 7)]
(.need (.o1 (.inr .i64) (.o2 .sub (.o2 .mn (.v 3) (.o2 .add (.o1 .ofNat (.o1 .size (.v 0))) (.i 1))) (.i 1)))
(.loop [.s,.i,.p] [.e (.o2 .cat (.v 0) (.s [])),.e (.o1 .neg (.o1 .neg (.i 0))),.p [(.a 4,.prop 7)]]
(.br (.o2 .lt (.v 9) (.o2 .sub (.o2 .mn (.v 3) (.o2 .add (.o1 .ofNat (.o1 .size (.v 0))) (.i 1))) (.i 1)))
(.call 269 [.a (.str (.v 8)),.a (.str (.v 1))] [] [.i] (.w (.a (.int .i64 (.v 11)))) []
(.br (.o2 .lt (.v 11) (.i 0))
(.need (.o2 .le (.i 0) (.v 9))
(.need (.o2 .lt (.v 9) (.o1 .ofNat (.v 5)))
(.need (.o1 .isSome (.v 4))
(.op (.store 9 (.tmp 61) (.tmp 60)) 0 [(61,.w (.a (.eptr 4 (.v 9) 1 0))),(60,.w (.a (.str (.v 8))))] [(.a 4,.prop 10)] [.p] (.tup []) [(.a 4,.prop 12)]
(.need (.o1 (.inr .i64) (.o2 .add (.v 9) (.i 1)))
(.read (.slice 29 (.tmp 62) none (some (.tmp 64)) none) 29 [(62,.w (.a (.sl (.v 4) (.v 5) (.v 6)))),(64,.w (.a (.int .i64 (.o2 .add (.v 9) (.i 1)))))] [(.a 4,.prop 12)] [.a,.n,.n] (.w (.a (.sl (.v 13) (.v 14) (.v 15))))
(.ret (.w (.a (.sl (.v 13) (.v 14) (.v 15)))) [(.a 4,.prop 12)])))))))
(.need (.o1 (.inr .i64) (.o2 .add (.v 11) (.v 2)))
(.read (.slice 9 (.tmp 44) none (some (.tmp 47)) none) 9 [(44,.w (.a (.str (.v 8)))),(47,.w (.a (.int .i64 (.o2 .add (.v 11) (.v 2)))))] [] [.s] (.w (.a (.str (.v 12))))
(.need (.o2 .le (.i 0) (.v 9))
(.need (.o2 .lt (.v 9) (.o1 .ofNat (.v 5)))
(.need (.o1 .isSome (.v 4))
(.op (.store 9 (.tmp 49) (.tmp 48)) 0 [(49,.w (.a (.eptr 4 (.v 9) 1 0))),(48,.w (.a (.str (.v 12))))] [(.a 4,.prop 10)] [.p] (.tup []) [(.a 4,.prop 13)]
(.need (.o1 (.inr .i64) (.o2 .add (.v 11) (.o1 .ofNat (.o1 .size (.v 1)))))
(.read (.slice 9 (.tmp 50) (some (.tmp 54)) none none) 9 [(50,.w (.a (.str (.v 8)))),(54,.w (.a (.int .i64 (.o2 .add (.v 11) (.o1 .ofNat (.o1 .size (.v 1)))))))] [] [.s] (.w (.a (.str (.v 14))))
(.need (.o1 (.inr .i64) (.o2 .add (.v 9) (.i 1)))
(.again 0 [.e (.o2 .cat (.v 14) (.s [])),.e (.o1 .neg (.o1 .neg (.o2 .add (.v 9) (.i 1)))),.p [(.a 4,.prop 13)]]))))))))))))
(.need (.o2 .le (.i 0) (.v 9))
(.need (.o2 .lt (.v 9) (.o1 .ofNat (.v 5)))
(.need (.o1 .isSome (.v 4))
(.op (.store 9 (.tmp 61) (.tmp 60)) 0 [(61,.w (.a (.eptr 4 (.v 9) 1 0))),(60,.w (.a (.str (.v 8))))] [(.a 4,.prop 10)] [.p] (.tup []) [(.a 4,.prop 11)]
(.need (.o1 (.inr .i64) (.o2 .add (.v 9) (.i 1)))
(.read (.slice 29 (.tmp 62) none (some (.tmp 64)) none) 29 [(62,.w (.a (.sl (.v 4) (.v 5) (.v 6)))),(64,.w (.a (.int .i64 (.o2 .add (.v 9) (.i 1)))))] [(.a 4,.prop 11)] [.a,.n,.n] (.w (.a (.sl (.v 12) (.v 13) (.v 14))))
(.ret (.w (.a (.sl (.v 12) (.v 13) (.v 14)))) [(.a 4,.prop 11)])))))))))))))))
theorem tree_sGenSplit:tree Tryz.prog { hv:=[(0,[.a 5,.a 4])],keep:=[205,190,189,130,213,216,217,252,169,215,238,214],opn:=true,rdf:=true } Tryz.f251 [.a (.str (.v 0)),.a (.str (.v 1)),.a (.int .i64 (.v 2)),.a (.int .i64 (.v 3))] [] 4=t_sGenSplit:=by kernel_rfl
def t_bWriteByte:T :=
(.call 266 [.a (.val 0)] [(.a 0,.prop 1)] [.p] (.tup []) [(.a 0,.prop 3)]
(.read (.nilCheck (.tmp 8)) 0 [(8,.w (.a (.val 0)))] [(.a 0,.prop 3)] [.n] (.w (.a (.ptr (.v 4) 0)))
(.read (.load 28 (.tmp 10)) 28 [(10,.w (.a (.ptr (.v 4) 1)))] [(.a 0,.prop 3)] [.a,.n,.n] (.w (.a (.sl (.v 5) (.v 6) (.v 7))))
(.new
(.op (.call ⟨.builtin .append,#[.tmp 11,.tmp 13],#[28,28]⟩) 28 [(11,.w (.a (.sl (.v 5) (.v 6) (.v 7)))),(13,.w (.a (.sl (.b (.v 8) 0) (.n 1) (.n 1))))] [(.a 0,.prop 3),(.b (.v 8),.cells [.int .u8 (.v 2)] 5)] [.a,.n,.n,.p,.p] (.w (.a (.sl (.v 9) (.v 10) (.v 11)))) [(.a 9,.prop 12),(.a 0,.prop 13),(.b (.v 8),.cells [.int .u8 (.v 2)] 5)]
(.read (.nilCheck (.tmp 7)) 0 [(7,.w (.a (.val 0)))] [(.a 0,.prop 13)] [.n] (.w (.a (.ptr (.v 14) 0)))
(.op (.store 28 (.tmp 16) (.tmp 14)) 0 [(16,.w (.a (.ptr (.v 14) 1))),(14,.w (.a (.sl (.v 9) (.v 10) (.v 11))))] [(.a 0,.prop 13),(.a 9,.prop 12)] [.p] (.tup []) [(.a 0,.prop 15)]
(.ret (.w (.a .nili)) [(.a 0,.prop 15)]))))))))
theorem tree_bWriteByte:tree Tryz.prog { opq:=[323],keep:=[205,190,189,130,213,216,217,252,169,215,238,214],opn:=true,rdf:=true } Tryz.f247 [.a (.val 0),.a (.int .u8 (.v 2))] [(.a 0,.prop 1)] 3=t_bWriteByte:=by kernel_rfl
def t_bWriteString:T :=
(.call 266 [.a (.val 0)] [(.a 0,.prop 1)] [.p] (.tup []) [(.a 0,.prop 3)]
(.read (.nilCheck (.tmp 9)) 0 [(9,.w (.a (.val 0)))] [(.a 0,.prop 3)] [.n] (.w (.a (.ptr (.v 4) 0)))
(.read (.load 28 (.tmp 11)) 28 [(11,.w (.a (.ptr (.v 4) 1)))] [(.a 0,.prop 3)] [.a,.n,.n] (.w (.a (.sl (.v 5) (.v 6) (.v 7))))
(.op (.call ⟨.builtin .append,#[.tmp 12,.tmp 13],#[28,9]⟩) 28 [(12,.w (.a (.sl (.v 5) (.v 6) (.v 7)))),(13,.w (.a (.str (.v 2))))] [(.a 0,.prop 3)] [.a,.n,.n,.p,.p] (.w (.a (.sl (.v 8) (.v 9) (.v 10)))) [(.a 8,.prop 11),(.a 0,.prop 12)]
(.read (.nilCheck (.tmp 8)) 0 [(8,.w (.a (.val 0)))] [(.a 0,.prop 12)] [.n] (.w (.a (.ptr (.v 13) 0)))
(.op (.store 28 (.tmp 16) (.tmp 14)) 0 [(16,.w (.a (.ptr (.v 13) 1))),(14,.w (.a (.sl (.v 8) (.v 9) (.v 10))))] [(.a 0,.prop 12),(.a 8,.prop 11)] [.p] (.tup []) [(.a 0,.prop 14)]
(.ret (.tup [.a (.int .i64 (.o1 .ofNat (.o1 .size (.v 2)))),.a .nili]) [(.a 0,.prop 14)])))))))
theorem tree_bWriteString:tree Tryz.prog { opq:=[323],keep:=[205,190,189,130,213,216,217,252,169,215,238,214],opn:=true,rdf:=true } Tryz.f248 [.a (.val 0),.a (.str (.v 2))] [(.a 0,.prop 1)] 3=t_bWriteString:=by kernel_rfl
def t_bString:T :=
(.join [.s,.p]
(.read (.load 28 (.tmp 5)) 28 [(5,.w (.a (.ptr (.v 0) 1)))] [(.b (.v 0),.prop 1)] [.a,.n,.n] (.w (.a (.sl (.v 2) (.v 3) (.v 4))))
 (.all
(.op (.call ⟨.builtin .unsafeSliceData,#[.tmp 6],#[28]⟩) 344 [(6,.w (.a (.sl (.v 2) (.v 3) (.v 4))))] [(.b (.v 0),.prop 1)] [.n,.p,.p] (.w (.a (.ptr (.v 5) 0))) [(.b (.v 5),.prop 6),(.b (.v 0),.prop 7)]
(.read (.load 28 (.tmp 10)) 28 [(10,.w (.a (.ptr (.v 0) 1)))] [(.b (.v 0),.prop 7)] [.a,.n,.n] (.w (.a (.sl (.v 8) (.v 9) (.v 10))))
(.op (.call ⟨.builtin .unsafeString,#[.tmp 7,.tmp 12],#[344,3]⟩) 9 [(7,.w (.a (.ptr (.v 5) 0))),(12,.w (.a (.int .i64 (.o1 .ofNat (.v 9)))))] [(.b (.v 5),.prop 6)] [.s,.p] (.w (.a (.str (.v 11)))) [(.b (.v 5),.prop 12)]
(.again 0 [.e (.o2 .cat (.v 11) (.s [])),.p [(.b (.v 0),.prop 7)]]))))
(.read (.load 28 (.tmp 10)) 28 [(10,.w (.a (.ptr (.v 0) 1)))] [(.b (.v 0),.prop 1)] [.a,.n,.n] (.w (.a (.sl (.v 5) (.v 6) (.v 7))))
(.op (.call ⟨.builtin .unsafeSliceData,#[.tmp 6],#[28]⟩) 344 [(6,.w (.a (.sl (.v 2) (.v 3) (.v 4))))] [(.b (.v 0),.prop 1)] [.n,.p,.p] (.w (.a (.ptr (.v 8) 0))) [(.b (.v 8),.prop 9),(.b (.v 0),.prop 10)]
(.op (.call ⟨.builtin .unsafeString,#[.tmp 7,.tmp 12],#[344,3]⟩) 9 [(7,.w (.a (.ptr (.v 8) 0))),(12,.w (.a (.int .i64 (.o1 .ofNat (.v 6)))))] [(.b (.v 8),.prop 9)] [.s,.p] (.w (.a (.str (.v 11)))) [(.b (.v 8),.prop 12)]
(.again 0 [.e (.o2 .cat (.v 11) (.s [])),.p [(.b (.v 0),.prop 10)]]))))))
(.ret (.w (.a (.str (.v 2)))) [(.b (.v 0),.prop 3)]))
theorem tree_bString:tree Tryz.prog { keep:=[205,190,189,130,213,216,217,252,169,215,238,214],opn:=true,rdf:=true,jn:=[((3,2),some { ss:=[.s,.p],n:=4,tv:=[(3,none),(4,none),(5,none),(6,none),(7,none),(8,none),(9,none),(10,none),(11,none),(12,none),(13,none),(2,some (.w (.a (.str (.v 2)))))],h:=[(.b (.v 0),.prop 3)],lk:=[] })] } Tryz.f249 [.a (.ptr (.v 0) 0)] [(.b (.v 0),.prop 1)] 2=t_bString:=by kernel_rfl
def t_bCopyCheck:T :=
(.read (.nilCheck (.tmp 2)) 0 [(2,.w (.a (.val 0)))] [(.a 0,.prop 1)] [.n] (.w (.a (.ptr (.v 2) 0)))
(.read (.load 323 (.tmp 4)) 323 [(4,.w (.a (.ptr (.v 2) 0)))] [(.a 0,.prop 1)] [.v] (.w (.a (.val 3)))
(.read (.binOp .eql 323 (.tmp 5) (.const (.pointer none)) 323) 4 [(5,.w (.a (.val 3)))] [(.a 0,.prop 1)] [.c] (.w (.a (.bool (.v 4))))
(.br (.v 4)
(.read (.convert 323 351 (.tmp 8)) 351 [(8,.w (.a (.val 0)))] [(.a 0,.prop 1)] [.v] (.w (.a (.val 5)))
(.op (.call ⟨.value (.func 274),#[.tmp 9],#[351]⟩) 351 [(9,.w (.a (.val 5)))] [(.a 0,.prop 1)] [.v,.p,.p] (.w (.a (.val 6))) [(.a 6,.prop 7),(.a 0,.prop 8)]
(.read (.convert 351 323 (.tmp 10)) 323 [(10,.w (.a (.val 6)))] [(.a 6,.prop 7),(.a 0,.prop 8)] [.v] (.w (.a (.val 9)))
(.read (.nilCheck (.tmp 7)) 0 [(7,.w (.a (.val 0)))] [(.a 0,.prop 8)] [.n] (.w (.a (.ptr (.v 10) 0)))
(.op (.store 323 (.tmp 13) (.tmp 11)) 0 [(13,.w (.a (.ptr (.v 10) 0))),(11,.w (.a (.val 9)))] [(.a 0,.prop 8),(.a 6,.prop 7)] [.p] (.tup []) [(.a 0,.prop 11)]
(.ret (.tup []) [(.a 0,.prop 11)]))))))
(.read (.nilCheck (.tmp 14)) 0 [(14,.w (.a (.val 0)))] [(.a 0,.prop 1)] [.n] (.w (.a (.ptr (.v 5) 0)))
(.read (.load 323 (.tmp 16)) 323 [(16,.w (.a (.ptr (.v 5) 0)))] [(.a 0,.prop 1)] [.v] (.w (.a (.val 6)))
(.read (.binOp .neq 323 (.tmp 17) (.tmp 18) 323) 4 [(17,.w (.a (.val 6))),(18,.w (.a (.val 0)))] [(.a 0,.prop 1)] [.c] (.w (.a (.bool (.v 7))))
(.br (.v 7)
(.fail 90)
(.ret (.tup []) [(.a 0,.prop 1)])))))))))
theorem tree_bCopyCheck:tree Tryz.prog { opq:=[323],keep:=[205,190,189,130,213,216,217,252,169,215,238,214],opn:=true,rdf:=true,peek:=[323] } Tryz.f266 [.a (.val 0)] [(.a 0,.prop 1)] 2=t_bCopyCheck:=by kernel_rfl
end Go.Proofs.YtdieogcemmnaaaaGreatDoor.RX
