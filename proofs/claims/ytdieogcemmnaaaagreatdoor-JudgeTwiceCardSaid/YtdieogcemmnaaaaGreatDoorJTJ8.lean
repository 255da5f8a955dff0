/- Texts of this claim, joined. No condition. -/
import Derived.Test.YtdieogcemmnaaaaGreatDoorJTJ1
import Derived.Test.YtdieogcemmnaaaaGreatDoorJTJ4
import Derived.Test.YtdieogcemmnaaaaGreatDoorJTJ7
import Derived.OpenShut
import Derived.ProofKit
import Derived.ShutString
import Derived.ChangeOld
import Derived.Below
import Derived.SizedLaws
import Derived.Lay
import Derived.LaidMore
import Derived.Test.YtdieogcemmnaaaaGreatDoorTie
import Derived.Test.YtdieogcemmnaaaaGreatDoorCards
import Derived.SevenTiedAt
set_option linter.unusedSimpArgs false
set_option linter.unusedVariables false
namespace Go.Proofs.YtdieogcemmnaaaaGreatDoor
set_option linter.unusedSimpArgs false
set_option linter.unusedVariables false
open Go.Proofs.YtdieogcemmnaaaaGreatDoor RX
set_option maxRecDepth 100000
def CallE.cp (x : CallE) : CallP := ⟨x.kind,x.path,x.other,x.off,x.n,x.data⟩
theorem callRo {a : Option Addr} {n : Nat} {L : List CallE} {x : CallE} (hx : x ∈ L) {R h : PH} (H : (Ls kCall a n L).p R h) : (RoB x.da x.data.length x.data).p R h := (H.2.2 x hx).2.2.2.2.2.2
theorem callI {a : Option Addr} {n : Nat} {L : List CallE} {R h : PH} (H : (Ls kCall a n L).p R h) : ∀ x ∈ L,okI x.off ∧ okI x.n := fun x hx => ⟨(H.2.2 x hx).2.2.2.1,(H.2.2 x hx).2.2.2.2.1⟩
theorem appDeed (a : Option Addr) (n c : Nat) (l : List DeedE) (q : Nat) (x : DeedE) (Q : HP) (hb : n ≤ 1000000000) :
  OTri Tryz.prog (appS 85 85 (.slice a n c) (.slice (some ⟨q,0,none⟩) 1 1)) (HP.sep (PL kDeedP a n c l) (HP.sep (HP.one q (.cells x.vals.toArray 88 (0,0))) (HP.sep x.hp Q)))
   (fun v => HP.ex fun a' => HP.ex fun c' => HP.and (v = .slice a' (n + 1) c') (HP.sep (PL kDeedP a' (n + 1) c' (l ++ [x])) (HP.sep (HP.one q (.cells x.vals.toArray 88 (0,0))) Q))) := by
 obtain ⟨i,z,hi,hz,h1,h2,h3⟩ := infoD'
 exact PL.appK (K := kDeedP) _ _ undDs hi hz h1 h2 (by omega) a n c l q x Q hb
theorem sepN_pers {α : Type} {f : α → HP} {R h : PH} : ∀ {l : List α},(∀ x ∈ l,∀ h',(f x).p R h') → (sepN (l.map f)).p R h
 | [],_ => trivial
 | x :: l,H => sepN_cons.2 ⟨PH.none',h,PH.none_dj _,PH.none_le _,PH.le.refl _,H x (by simp) _,sepN_pers fun y hy => H y (by simp [hy])⟩
theorem copyCells (b : Nat) (a : Option Addr) (n c : Nat) (es : List CellE) (hn : n ≠ 0) (hb : n ≤ 1000000) :
  OTri Tryz.prog (appS 79 79 (.slice (some ⟨b,0,none⟩) 0 0) (.slice a n c)) (HP.sep (HP.one b (.cells #[] 68 (0,0))) (PL kCellP a n c es))
   (fun v => HP.ex fun a' => HP.ex fun c' => HP.and (v = .slice a' n c') (HP.sep (PL kCellP a' n c' es) (PL kCellP a n c es))) := by
 refine OTri.fact (φ := es.length = n ∧ a.isSome = true) (fun R h H => ⟨PL.len (HP.sep_right H),PL.isAt (HP.sep_right H) hn⟩) fun ⟨hl,ha⟩ => ?_
 obtain ⟨ad,rfl⟩ := Option.isSome_iff_exists.1 ha
 obtain ⟨i,z,hi,h1,h2,h3,h4⟩ := info_pz infoCe
 have hk : (es.flatMap kCellP.vals).length = n * 2 := by rw [← hl]; exact flat_lenL kCellP.vals 2 kCellP.len es
 have := append_ok 79 79 68 i z undCs hi h1 (by rw [h2,h3]) (by omega) (some ⟨b,0,none⟩) 0 0 [] (PL kCellP (some ad) n c es) ad n c (es.flatMap kCellP.vals) (PL.rd (K := kCellP) (some ad) n c es) (by rw [hk,h3]) (fun u hu => by
  obtain ⟨x,_,hx⟩ := List.mem_flatMap.1 hu
  exact kCellP.one x u hx) (by unfold maxLen; omega) (by rw [h4]; omega)
 rw [h3] at this
 refine this.weak (fun R h H => HP.sep_mono H (fun y hy => ⟨rfl,.inr ⟨b,#[],rfl,hy,Nat.le_refl _,by unfold maxLen; omega,rfl,rfl⟩⟩) fun _ h => h) ?_
 rintro v R h ⟨a',c',rfl,H⟩
 rw [Nat.zero_add,List.nil_append] at H
 have hro : ∀ x ∈ es,∀ h',(cellHp x).p R h' := fun x hx h' => cellHp_pers x R _ h' (cellAt hx (HP.sep_right H))
 refine ⟨a',c',by rw [Nat.zero_add],HP.sep_mono H (fun y hy => ⟨hl,?_⟩) fun _ h => h⟩
 exact ⟨y,PH.none',PH.dj_none _,PH.le.refl _,PH.none_le _,hy,sepN_pers hro⟩
theorem appCellOf (a : Option Addr) (n c : Nat) (l : List CellE) (q : Nat) {x : CellE} (a2 : Option Addr) (n2 c2 : Nat) {es : List CellE} (hx : x ∈ es) (hb : n ≤ 1000000000) :
  OTri Tryz.prog (appS 79 79 (.slice a n c) (.slice (some ⟨q,0,none⟩) 1 1)) (HP.sep (PL kCellP a n c l) (HP.sep (HP.one q (.cells #[.int .i64 x.what,.slice x.da x.data.length x.dc] 68 (0,0))) (PL kCellP a2 n2 c2 es)))
   (fun v => HP.ex fun a' => HP.ex fun c' => HP.and (v = .slice a' (n + 1) c') (HP.sep (PL kCellP a' (n + 1) c' (l ++ [x])) (HP.sep (HP.one q (.cells #[.int .i64 x.what,.slice x.da x.data.length x.dc] 68 (0,0))) (PL kCellP a2 n2 c2 es)))) := by
 refine (appCell a n c l q x (PL kCellP a2 n2 c2 es) hb).weak (fun R h H => HP.sep_mono H (fun _ h => h) fun y hy => HP.sep_mono hy (fun _ h => h) fun z hz => ?_) fun _ _ _ h => h
 exact ⟨PH.none',z,PH.none_dj _,PH.none_le _,PH.le.refl _,cellHp_pers x R _ _ (cellAt hx hz),hz⟩
theorem appCellRo (a : Option Addr) (n c : Nat) (l : List CellE) (q : Nat) (w : Int) (d : List UInt8) (da : Option Addr) (dc : Nat) (h1 : d.length ≤ dc) (h2 : d.length ≠ 0 → da.isSome = true) (hb : n ≤ 1000000000) :
  OTri Tryz.prog (appS 79 79 (.slice a n c) (.slice (some ⟨q,0,none⟩) 1 1)) (HP.sep (PL kCellP a n c l) (HP.sep (HP.one q (.cells #[.int .i64 w,.slice da d.length dc] 68 (0,0))) (RoB da d.length d)))
   (fun v => HP.ex fun a' => HP.ex fun c' => HP.and (v = .slice a' (n + 1) c') (HP.sep (PL kCellP a' (n + 1) c' (l ++ [⟨w,d,da,dc⟩])) (HP.sep (HP.one q (.cells #[.int .i64 w,.slice da d.length dc] 68 (0,0))) (RoB da d.length d)))) :=
 (appCell a n c l q ⟨w,d,da,dc⟩ (RoB da d.length d) hb).weak (fun R h H => HP.sep_mono H (fun _ h => h) fun y hy => HP.sep_mono hy (fun _ h => h) fun z hz => ⟨PH.none',z,PH.none_dj _,PH.none_le _,PH.le.refl _,⟨⟨h1,h2⟩,hz⟩,hz⟩) fun _ _ _ h => h
theorem callsS_app (l m : List CellE) : callsS (l ++ m) = callsS l ++ callsS m := List.filterMap_append
theorem callsS_one {x : CellE} {y : IdM × CallP} (h : callOf x = some y) : callsS [x] = [y] := by unfold callsS; rw [List.filterMap_cons_some h]; rfl
theorem take_snoc {α : Type} {l : List α} {k : Nat} {x : α} (h : l[k]? = some x) : l.take (k + 1) = l.take k ++ [x] := by
 have hlt := (List.getElem?_eq_some_iff.1 h).1
 rw [List.take_succ_eq_append_getElem hlt]
 rw [List.getElem?_eq_getElem hlt] at h
 rw [Option.some.inj h]
theorem trC_snoc {cs : List CallP} {k : Nat} {c : CallP} (h : cs[k]? = some c) : trC (cs.take (k + 1)) = nextT (trC (cs.take k)) c := by
 rw [take_snoc h]; unfold trC; rw [List.foldl_append]; rfl
theorem modN (a : Int) (n : Nat) (hn : 0 < n) : ∃ E : Nat,(bits .and .i64 a 65535).tmod (n : Int) = (E : Int) ∧ E < n := by
 rw [andffff]
 have h0 : 0 ≤ a % 65536 := Int.emod_nonneg _ (by decide)
 refine ⟨((a % 65536).tmod n).toNat,?_,?_⟩
 ·rw [Int.toNat_of_nonneg (Int.tmod_nonneg _ h0)]
 ·have := Int.tmod_lt_of_pos (a % 65536) (show (0 : Int) < n by omega)
  have := Int.tmod_nonneg n h0
  omega
set_option maxHeartbeats 8000000 in
theorem judgeTwice_ok (a : Option Addr) (n c : Nat) (L : List CallE) (z : Int) : Tri Tryz.prog 13 #[.slice a n c,.int .i64 z] (Ls kCall a n L) (fun v => HP.pure (v = .bool true)) := by
 refine Tri.fact (φ := L.length = n ∧ (n ≠ 0 → a.isSome = true) ∧ dataAt L ∧ ∀ x ∈ L,okI x.off ∧ okI x.n) (fun R h H => ⟨H.1,fun hn => Ls.some H hn,dataAt_of H,callI H⟩) fun ⟨hl,ha,hL,hI⟩ => ?_
 refine tri_of_tree (ρ := [.a a,.n n,.n c,.p (Ls kCall a n L),.i z]) mixed Tryz.func13 tree_judgeTwice ?_
 unfold t_judgeTwice
 simp (maxSteps := 3000000) only [T.den,E.prop,E.den,RX.look,F1.app,F2.app,Uni.int_i,Uni.nat_n,Uni.bool_c,Uni.str_s,Uni.adr_a,Uni.val_v,Uni.hp_p,hden,cden,V.den,W.den,A.den,BR.den,SA.den,FV.den,capV,exs,exP,allP,Cur.app,List.map_cons,List.map_nil,List.cons_append,List.nil_append,List.drop_succ_cons,List.drop_zero,List.length_cons,List.length_nil,Nat.zero_add,Nat.reduceAdd,Int.neg_neg,Bool.not_not,List.append_nil,Nat.add_zero,List.getElem?_cons_zero,List.getElem?_cons_succ,Decidable.not_not,semW_eq,semW_load,semW_append,ne_eq,Nat.reduceEqDiff,not_false_eq_true]
 refine speaks21_ok.weak (fun _ _ _ => trivial) ?_
 rintro v R h rfl
 refine ⟨true,rfl,⟨fun h => by simp at h,fun _ => ?_⟩,trivial⟩
 refine (great04_ok a n c L).weak (fun _ _ h => h) ?_
 rintro v R h ⟨rfl,H⟩
 refine ⟨greatB L,rfl,⟨fun _ => .of fun R h H => trivial,fun hg => ?_⟩,H⟩
 clear H
 refine ⟨fun _ => .of fun R h H => trivial,fun h40 => ⟨fun _ => .of fun R h H => trivial,fun hn0 => ?_⟩⟩
 have h40' : n ≤ 40 := by omega
 have hn0' : 0 < n := by omega
 refine rNew_ok.weak (fun _ _ h => trivial) ?_
 rintro v R h ⟨b,rfl,H⟩
 refine ⟨b,RT b g0,rfl,?_,H⟩
 clear H
 intro b9 b10
 let cs : List CallP := L.map CallE.cp
 have hcl : cs.length = n := by show (L.map _).length = n; rw [List.length_map]; exact hl
 let be : Nat → Int := fun k => k
 let en : Nat → Int := fun _ => 2 * (n : Int)
 have hbe : ∀ i j,i < cs.length → j < cs.length → en j < be i → j ≤ i := fun i j hi hj h => by
  have h' : 2 * (n : Int) < (i : Int) := h
  omega
 refine ⟨fun _ ca cn cc da dn dc i P19 P20 P21 => ∃ (k : Nat) (ces : List CellE) (es : List DeedE) (g : Nat → NodeE),i = k ∧ k ≤ n ∧ k = cn ∧ k = dn ∧ ces.length = k ∧ callsS ces = (logL cs).take k ∧ (∀ j,j < k → (ces[j]?).bind callOf = (logL cs)[j]?) ∧ es.map DeedE.p = (dsL be en cs).take k ∧ Rp g (trC (cs.take k)) ∧ TWf (k + 1) (trC (cs.take k)) ∧ (k ≠ 0 → ca.isSome = true) ∧
  HP.ent P19 (PL kDeedP da k dc es) ∧ HP.ent P20 (PL kCellP ca k cc ces) ∧ P21 = RT b g ∧ (∀ (j : Nat) (x : CallE),j < k → L[j]? = some x → 0 ≤ x.kind ∧ x.kind ≤ 255) ∧ (k ≠ 0 → P19 = PL kDeedP da k dc es ∧ P20 = PL kCellP ca k cc ces),fun _ _ _ _ _ _ _ i _ _ _ => n - i.toNat,⟨0,[],[],g0,rfl,Nat.zero_le _,rfl,rfl,rfl,rfl,fun j hj => absurd hj (by omega),rfl,g0_rp,newT_wf,fun h => absurd rfl h,.of fun R h H => PL.zero (K := kDeedP) b10 H,.of fun R h H => PL.zero (K := kCellP) b9 H,rfl,fun j x hj => absurd hj (by omega),fun h => absurd rfl h⟩,?_⟩
 rintro f0 ca _ cc da _ dc _ P19 P20 _ ⟨k,ces,es,g,rfl,hk,rfl,rfl,hce,hcal,hat,hes,rp,wf,hca,hD,hC,rfl,hkd,hX⟩
 refine ⟨fun hlt => ⟨by omega,fun _ => ⟨ha (by omega),fun _ => ?_⟩⟩,fun hge => ?_⟩
 ·obtain ⟨x,hx⟩ : ∃ x,L[k]? = some x := ⟨_,List.getElem?_eq_getElem (by omega)⟩
  have hxm := List.mem_of_getElem? hx
  have hcx : cs[k]? = some x.cp := by show (L.map _)[k]? = _; rw [List.getElem?_map,hx]; rfl
  have nxt : IntKind.i64.min ≤ (k : Int) + 1 ∧ (k : Int) + 1 ≤ IntKind.i64.max := inI64D _ (by omega) (by omega)
  refine ⟨x.kind,x.path,x.other,x.off,x.n,x.da,x.data.length,x.dc,loadCall hx,fun q => ?_⟩
  refine ⟨fun _ => .of fun R h H => trivial,fun g1 => ⟨fun _ => .of fun R h H => trivial,fun g2 => ⟨fun _ => .of fun R h H => trivial,fun g3 => ⟨fun _ => .of fun R h H => trivial,fun g4 => ⟨fun _ => .of fun R h H => trivial,fun g5 => ?_⟩⟩⟩⟩⟩
  have cok : CallOk x.cp := ⟨by show 0 ≤ x.kind; omega,by show x.kind ≤ 255; omega,(great_x hg x hxm).1,(great_x hg x hxm).2.1,(great_x hg x hxm).2.2,(hI x hxm).1,(hI x hxm).2⟩
  have hlog : (logL cs)[k]? = some (idN k,x.cp) := by rw [logL_get,hcx]; rfl
  refine (entryOf_ok (k : Int) x.cp x.da x.dc (Ls kCall a n L) (callD_of hL hxm).rd (hL x hxm) ⟨cok.p,cok.o,cok.d⟩).weak (fun _ _ h => h) ?_
  rintro v R h ⟨a1,c1,⟨rfl,e1,e2⟩,H⟩
  refine ⟨1,a1,_,c1,_,rfl,fun qb => ?_,H⟩
  clear H
  have hof : callOf ⟨1,bytesOf k x.cp,a1,c1⟩ = some (idN k,x.cp) := callOf_of cok k (by omega) a1 c1
  refine OTri.preL ((appCellRo ca _ cc ces qb 1 (bytesOf k x.cp) a1 c1 e1 e2 (by omega)).weak (fun _ _ h => h) ?_) (hC.sep _)
  rintro v R h ⟨ca',cc',rfl,H⟩
  have hca' : ca'.isSome = true := PL.isAt (HP.sep_left H) (Nat.succ_ne_zero _)
  refine ⟨ca',_,cc',_,rfl,⟨fun da' dn' dc' Pd Pt => ∃ (es' : List DeedE) (g' : Nat → NodeE),dn' = k + 1 ∧ es'.map DeedE.p = (dsL be en cs).take (k + 1) ∧ Rp g' (trC (cs.take (k + 1))) ∧ TWf (k + 1 + 1) (trC (cs.take (k + 1))) ∧ Pd = PL kDeedP da' (k + 1) dc' es' ∧ Pt = RT b g',?_,?_⟩,H⟩
  ·clear H
   refine ⟨inI64D _ (by omega) (by omega),fun _ => ?_⟩
   have wf' : TWf (k + 1 + 1) (trC (cs.take (k + 1))) := by rw [trC_snoc hcx]; exact wf.do (by omega) _ _ _ _ _ _
   have hnl := (doS_len wf (by omega) (kind := x.m.kind) (p := x.m.path) (o := x.m.other) (off := x.m.off) (n := x.m.n) (d := x.data)).2
   have hdk : (dsL be en cs)[k]? = some ⟨idN k,x.cp,be k,en k,ansOf (trC (cs.take k)) x.cp⟩ := by rw [dsL_get,hcx]; rfl
   constructor <;>
   ·refine rDoRo (by omega) wf rp x.m (by have := cok.p; show x.path.length ≤ 1000; exact Nat.le_trans this (by decide)) (by have := cok.o; show x.other.length ≤ 1000; exact Nat.le_trans this (by decide)) (Ls kCall a n L) x.data (callD_of hL hxm) (by have := cok.d; show x.data.length ≤ 100000; exact Nat.le_trans this (by decide)) fun g' da2 dc2 na2 nc2 h2 => ?_
    have er : (doC (trC (cs.take k)) x.m x.data).2 = ansOf (trC (cs.take k)) x.cp := rfl
    have hnl' : (ansOf (trC (cs.take k)) x.cp).names.length ≤ 1000000 := hnl
    rw [er]
    intro qd
    refine OTri.preL ((appDeed da _ dc es qd ⟨idN k,x.cp,x.da,x.dc,k,2 * (n : Int),ansOf (trC (cs.take k)) x.cp,da2,dc2,na2,nc2⟩ (HP.sep (Ls kCall a n L) (HP.sep (RoB da2 (ansOf (trC (cs.take k)) x.cp).data.length (ansOf (trC (cs.take k)) x.cp).data) (RoS na2 (ansOf (trC (cs.take k)) x.cp).names.length (ansOf (trC (cs.take k)) x.cp).names))) (by omega)).weak (fun R h H => HP.sep_mono H (fun _ h => h) fun y hy => HP.sep_mono hy (fun _ h => h) fun u hu => ?_) ?_) (hD.sep _)
    ·have r0 := callRo hxm (HP.sep_left hu)
     have r1 := HP.sep_left (HP.sep_right hu)
     have r2 := HP.sep_right (HP.sep_right hu)
     exact ⟨PH.none',u,PH.none_dj _,PH.none_le _,PH.le.refl _,⟨hnl',r0,r1,r2⟩,hu⟩
    ·rintro v R h ⟨da3,dc3,rfl,H⟩
     refine ⟨da3,_,dc3,_,rfl,⟨_,g',rfl,?_,?_,wf',rfl,rfl⟩,H⟩
     ·rw [List.map_append,hes,take_snoc hdk]; rfl
     ·rw [trC_snoc hcx]; exact h2
  ·clear H
   rintro da' _ dc' _ _ ⟨es',g',rfl,hes',rp',wf',rfl,rfl⟩
   refine ⟨nxt,fun _ => ⟨⟨k + 1,ces ++ [⟨1,bytesOf k x.cp,a1,c1⟩],es',g',by omega,by omega,rfl,rfl,by simp [hce],?_,fun j hj => ?_,hes',rp',wf',fun _ => hca',.refl _,.refl _,rfl,fun j y hj hy => ?_,fun _ => ⟨rfl,rfl⟩⟩,by dsimp only; omega⟩⟩
   ·rw [callsS_app,hcal,callsS_one hof,take_snoc hlog]
   ·rcases Nat.lt_or_eq_of_le (Nat.le_of_lt_succ hj) with h | h
    ·rw [List.getElem?_append_left (by omega)]; exact hat j h
    ·subst h
     rw [List.getElem?_append_right (by omega),hce,Nat.sub_self,List.getElem?_cons_zero,hlog]
     exact hof
   ·rcases Nat.lt_or_eq_of_le (Nat.le_of_lt_succ hj) with h | h
    ·exact hkd j y h hy
    ·subst h; rw [hx] at hy; cases hy; exact ⟨by omega,by omega⟩
 obtain rfl : k = n := by omega
 obtain ⟨E,hE,hEn⟩ := modN z k hn0'
 rw [hE]
 have hcs : cs.length = k := hcl
 rw [List.take_of_length_le (by rw [logL_len]; omega)] at hcal
 rw [List.take_of_length_le (by rw [dsL_len]; omega)] at hes
 obtain ⟨xe,hxe⟩ : ∃ x,ces[E]? = some x := ⟨_,List.getElem?_eq_getElem (by omega)⟩
 obtain ⟨le,hle⟩ : ∃ x,L[E]? = some x := ⟨_,List.getElem?_eq_getElem (by omega)⟩
 have hxem := List.mem_of_getElem? hxe
 have hlem := List.mem_of_getElem? hle
 have hce' : cs[E]? = some le.cp := by show (L.map _)[E]? = _; rw [List.getElem?_map,hle]; rfl
 have hxof : callOf xe = some (idN E,le.cp) := by
  have := hat E hEn
  rw [hxe,logL_get,hce'] at this
  exact this
 have hn0n : k ≠ 0 := by omega
 have f1 : faultsS (es.map DeedE.p) (callsS (ces ++ [xe])) = [1] := by
  rw [hes,callsS_app,hcal,callsS_one hxof]
  exact faults_twice hbe hce'
 have f0 : faultsS (es.map DeedE.p) (callsS ces) = [] := by
  rw [hes,hcal]
  exact faults_right hbe
 obtain ⟨rfl,rfl⟩ := hX hn0n
 clear hD hC
 have ld := ldCellP (a := ca) (n := k) (c := cc) hxe
 have rdC : ∀ {A : HP},A = PL kCellP ca k cc ces → ORead Tryz.prog (loadS 68 (.pointer (ca.map fun y => (y.add (E * 2)).add 0))) A (.agg #[.int .i64 xe.what,.slice xe.da xe.data.length xe.dc]) := fun h => h ▸ ld
 have st1 : ∀ (q : Nat) {K : Option Addr → Nat → Nat → HP → Prop},(∀ a' c',K a' k c' (PL kCellP a' k c' ces)) → OTri Tryz.prog (appS 79 79 (.slice (some ⟨q,0,none⟩) 0 0) (.slice ca k cc)) (HP.sep (HP.one q (.cells #[] 68 (0,0))) (PL kCellP ca k cc ces))
   (fun v => HP.ex fun a' => HP.ex fun n' => HP.ex fun c' => HP.ex fun p' => HP.and (v = .slice a' n' c') (HP.and (K a' n' c' p') (HP.sep p' (PL kCellP ca k cc ces)))) := fun q K hK => by
  refine (copyCells q ca k cc ces hn0n (by omega)).weak (fun _ _ h => h) ?_
  rintro v R h ⟨a',c',rfl,H⟩
  exact ⟨a',k,c',_,rfl,hK a' c',H⟩
 have st2 : ∀ (q : Nat) (a1 : Option Addr) (c1 : Nat) {K : Option Addr → Nat → Nat → HP → Prop},(∀ a' c',K a' (k + 1) c' (PL kCellP a' (k + 1) c' (ces ++ [xe]))) → OTri Tryz.prog (appS 79 79 (.slice a1 k c1) (.slice (some ⟨q,0,none⟩) 1 1)) (HP.sep (PL kCellP a1 k c1 ces) (HP.sep (HP.one q (.cells #[.int .i64 xe.what,.slice xe.da xe.data.length xe.dc] 68 (0,0))) (PL kCellP ca k cc ces)))
   (fun v => HP.ex fun a' => HP.ex fun n' => HP.ex fun c' => HP.ex fun p' => HP.and (v = .slice a' n' c') (HP.and (K a' n' c' p') (HP.sep p' (HP.sep (HP.one q (.cells #[.int .i64 xe.what,.slice xe.da xe.data.length xe.dc] 68 (0,0))) (PL kCellP ca k cc ces))))) := fun q a1 c1 K hK => by
  refine (appCellOf a1 k c1 ces q ca k cc hxem (by omega)).weak (fun _ _ h => h) ?_
  rintro v R h ⟨a',c',rfl,H⟩
  exact ⟨a',k + 1,c',_,rfl,hK a' c',H⟩
 have st3 : ∀ (a1 : Option Addr) (c1 : Nat) (ls : List CellE) (n1 : Nat) (l : List Int) {K : Option Addr → Nat → Nat → HP → Prop},n1 ≤ 1000 → faultsS (es.map DeedE.p) (callsS ls) = l → (∀ a' c',K a' l.length c' (OwI a' l.length c' l)) → Tri Tryz.prog 47 #[.slice a1 n1 c1,.slice da k dc] (HP.sep (PL kCellP a1 n1 c1 ls) (PL kDeedP da k dc es))
   (fun v => HP.ex fun a' => HP.ex fun n' => HP.ex fun c' => HP.ex fun p' => HP.and (v = .slice a' n' c') (HP.and (K a' n' c' p') (HP.sep p' (HP.sep (PL kCellP a1 n1 c1 ls) (PL kDeedP da k dc es))))) := fun a1 c1 ls n1 l K h1 h2 hK => by
  refine (checkPL a1 n1 c1 ls h1 da k dc es (by omega) l h2).weak (fun _ _ h => h) ?_
  rintro v R h ⟨a',c',rfl,H⟩
  exact ⟨a',_,c',_,rfl,hK a' c',H⟩
 refine ⟨fun a1 n1 c1 P => n1 = 1 ∧ P = OwI a1 1 c1 [1],?_,?_⟩
 ·refine ⟨by omega,fun _ => ⟨by omega,fun _ => ⟨hca hn0n,fun _ => ?_⟩⟩⟩
  have fin : ∀ (a' : Option Addr) (c' : Nat),(1 : Nat) = 1 ∧ OwI a' 1 c' [1] = OwI a' 1 c' [1] := fun _ _ => ⟨rfl,rfl⟩
  repeat' (first
   | with_reducible (intro (_ : Nat))
   | with_reducible (refine And.intro ?_ ?_)
   | with_reducible (refine st1 _ fun _ _ => ?_)
   | with_reducible (refine st2 _ _ _ fun _ _ => ?_)
   | with_reducible (refine st3 _ _ _ _ [1] (by omega) f1 fun _ _ => ?_)
   | exact fin _ _
   | (refine ⟨xe.what,xe.da,xe.data.length,xe.dc,ld,?_⟩)
   | fail)
 rintro ta _ tc _ ⟨rfl,rfl⟩
 refine ⟨by omega,fun _ => ⟨by omega,fun _ => ⟨ha hn0n,fun _ => ⟨le.kind,le.path,le.other,le.off,le.n,le.da,le.data.length,le.dc,loadCall hle,fun q1 => ?_⟩⟩⟩⟩
 refine st1 q1 fun a1 c1 => ?_
 have cok : le.cp.path.length ≤ 300 ∧ le.cp.other.length ≤ 300 ∧ le.cp.data.length ≤ 600 := great_x hg le hlem
 refine (entryOf_ok (k : Int) le.cp le.da le.dc (Ls kCall a k L) (callD_of hL hlem).rd (hL le hlem) cok).weak (fun _ _ h => h) ?_
 rintro v R h ⟨a2,c2,⟨rfl,e1,e2⟩,H⟩
 refine ⟨1,a2,_,c2,_,rfl,fun q2 => ?_,H⟩
 clear H
 have hxk : CallOk le.cp := ⟨(hkd E le hEn hle).1,(hkd E le hEn hle).2,cok.1,cok.2.1,cok.2.2,(hI le hlem).1,(hI le hlem).2⟩
 have hof : callOf ⟨1,bytesOf k le.cp,a2,c2⟩ = some (idN k,le.cp) := callOf_of hxk k (by omega) a2 c2
 refine (appCellRo a1 _ c1 ces q2 1 (bytesOf k le.cp) a2 c2 e1 e2 (by omega)).weak (fun _ _ h => h) ?_
 rintro v R h ⟨a3,c3,rfl,H⟩
 refine ⟨a3,_,c3,_,rfl,?_,H⟩
 clear H
 have f2 : faultsS (es.map DeedE.p) (callsS (ces ++ [⟨1,bytesOf k le.cp,a2,c2⟩])) = [2] := by
  rw [hes,callsS_app,hcal,callsS_one hof,← hcs]
  exact faults_nobody hbe le.cp
 refine st3 a3 c3 _ _ [2] (by omega) f2 fun a4 c4 q3 => ?_
 refine (sameInts11_ok ta 1 tc [1] (some ⟨q3,0,none⟩) 1 1 [1] _ _ (RdL.ow _ _ _ _ _ _) (one_int q3 1) rfl rfl (by omega)).weak (fun _ _ h => h) ?_
 rintro v R h ⟨rfl,H⟩
 refine ⟨true,rfl,⟨fun _ q4 => ?_,fun h => absurd rfl h⟩,H⟩
 clear H
 refine (sameInts11_ok a4 1 c4 [2] (some ⟨q4,0,none⟩) 1 1 [2] _ _ (RdL.ow _ _ _ _ _ _) (one_int q4 2) rfl rfl (by omega)).weak (fun _ _ h => h) ?_
 rintro v R h ⟨rfl,H⟩
 refine ⟨true,rfl,⟨fun _ => ?_,fun h => absurd rfl h⟩,H⟩
 clear H
 exact st3 ca cc ces k [] (by omega) f0 fun a5 c5 => .of fun _ _ _ => rfl
end Go.Proofs.YtdieogcemmnaaaaGreatDoor

namespace Go.Proofs.YtdieogcemmnaaaaGreatDoor
open Go.Proofs.YtdieogcemmnaaaaGreatDoor RX
open Go.ChangeShapes Go.WideShapes Go.ChangeAt Go.RowKit
set_option maxRecDepth 100000
theorem fours_name : Tryz.prog.globalNamed "tideline/check.fours" = some 0 := by kernel_rfl
theorem fours_type : (Tryz.prog.globals[(0 : Nat)]?).map (·.type) = some 316 := by kernel_rfl
theorem cells32 : Tryz.prog.cellsOf 243 = 1 := by kernel_rfl
theorem gr_of {w : World} {x : String × DataW Unit} {r : List (String × DataW Unit)} {ps : List MemPlace} (h : DataW.LaidVars Tryz.prog w (x :: ("tideline/check.fours",Rows.laid_tideline_check_fours) :: r) ps) : GR (allOf w) := by
 obtain ⟨_,_,_,_,_,q1,_,_,_,_,h2,_⟩ := h
 obtain ⟨g,t,cs,fuel,p,q,hg,ht,hv,htr,_,_⟩ := h2
 rw [fours_name] at hg
 cases hg
 rw [fours_type] at ht
 cases ht
 unfold World.var? at hv
 rw [fours_name] at hv
 simp only [Option.bind_some] at hv
 obtain ⟨ty,fr,hh⟩ : ∃ ty fr,w.heap[(0 : Nat)]? = some (.cells cs ty fr) := by
  split at hv
  ·rename_i c ty fr e; cases hv; exact ⟨ty,fr,e⟩
  ·cases hv
 refine ⟨cs,ty,fr,hh,fun i v hi => ?_⟩
 obtain ⟨xs,m,_,hx,hl,hn,hel⟩ := DataW.trod_array undF htr
 have hi16 : i < 16 := (List.getElem?_eq_some_iff.1 hi).1
 have hd : xs.map (·.1) = fours.map fun n : Nat => DataW.lit (.int .u32 ((n : Nat) : Int)) := by
  have := congrArg Prod.fst hx
  unfold Rows.laid_tideline_check_fours at this
  injection this with this
  exact this.symm
 have h1 := hel i hi16
 rw [cells32,Nat.mul_one] at h1
 have h3 : (xs.map (·.1))[i]? = some (DataW.lit (.int .u32 (v : Int))) := by rw [hd,List.getElem?_map,hi]; rfl
 rw [List.getElem?_map] at h3
 obtain ⟨y,hy,hy2⟩ := Option.map_eq_some_iff.1 h3
 rw [hy] at h1
 obtain ⟨z,hz,hz2,_⟩ := DataW.trod_int und32 h1
 rw [hz2] at hy2
 have e : z = (v : Int) := by
  injection hy2 with e
  injection e
 subst e
 have h5 : (List.take 1 (cs.toList.drop i))[0]? = some (Value.int .u32 (v : Int)) := by rw [hz]; rfl
 rw [List.getElem?_take,if_pos (by decide),List.getElem?_drop,Nat.add_zero] at h5
 simpa using h5
end Go.Proofs.YtdieogcemmnaaaaGreatDoor

namespace Go.Proofs.YtdieogcemmnaaaaGreatDoor
open Go.RowKit Go.ChangeShapes Go.WideShapes Go.Deep RX
set_option maxRecDepth 100000 in
theorem judgeTwice_walk {H : Type} (enc : TypeId × Value → H) (base : Nat) (v0 v1 : Value) (w : World)
  (k0 : Value.okWide Tryz.prog w .any base 22 v0) (h0 : ∃ d p,DataW.Trod enc Tryz.prog w 0 (fun _ => true) true 22 v0 d p ∧ Small Tryz.prog 22 d)
  (k1 : Value.okWide Tryz.prog w .any base 3 v1) (h1 : ∃ d p,DataW.Trod enc Tryz.prog w 0 (fun _ => true) true 3 v1 d p ∧ Small Tryz.prog 3 d) (hG : GR (allOf w)) :
  Calls Tryz.prog 13 #[v0,v1] w fun e w' => e = .returned (.bool true) ∧ Below w.heap.size w w' := by
 obtain ⟨a0,l0,c0,rfl,b0,z0⟩ := slice_open kCallE Tryz.underlying22 (by kernel_rfl) (of_decide_eq_true (by kernel_rfl)) CallE.of_trod k0 h0
 obtain ⟨n1,rfl,r1⟩ := int_openR k1 h1
 exact Tri.run (judgeTwice_ok a0 l0.length c0 l0 n1) (z0 _) hG
end Go.Proofs.YtdieogcemmnaaaaGreatDoor

namespace Go.Proofs.YtdieogcemmnaaaaGreatDoor.judgeTwice
open Go.ChangeShapes Go.WideShapes Go.ChangeAt Go.RowKit
set_option linter.unusedVariables false
theorem own : ownKnob Tryz.prog.godebug = none := by kernel_rfl
theorem laidOut : laidOutB Tryz.prog = true := by kernel_rfl
def laidL : List (String × DataW Unit) := [("unicode/utf8.acceptRanges",Rows.laid_unicode_utf8_acceptRanges),("tideline/check.fours",Rows.laid_tideline_check_fours),("unicode/utf8.first",Rows.laid_unicode_utf8_first)]
set_option maxRecDepth 100000 in
theorem plainL (w : World) : laidMetH Tryz.prog laidL w = laidMet Tryz.prog laidL w := MakeChecks.laidMetH_plain _ _ _ (by kernel_rfl)
set_option maxRecDepth 100000 in
theorem door_met (os : Os) (args : Array Value) : laidMetH Tryz.prog laidL ((World.laidAll Tryz.prog os laidL).forCall (fun _ _ => 0) ⟨#[],args,[]⟩).memory := by
 rw [plainL]
 exact laidMet_laidAll _ (by kernel_rfl) (by kernel_rfl)
end Go.Proofs.YtdieogcemmnaaaaGreatDoor.judgeTwice

namespace Go.Proofs.YtdieogcemmnaaaaGreatDoor.judgeTwice
open Go.ChangeShapes Go.WideShapes Go.ChangeAt Go.RowKit
set_option linter.unusedVariables false
set_option maxRecDepth 100000 in
theorem lifted (os : Os) (started : os.Started) (H : Type) (enc : TypeId × Value → H) :
  ReturnsInHanded {} Tryz.checked os 13 .any (fun w args => (Rows.judgeTwiceSpec.pre enc Tryz.prog Tryz.f13 [] false w args ∧ laidMetH Tryz.prog laidL w) ∧ sizedMet enc Tryz.prog Tryz.f13 (OpenSpec.ofChange Rows.judgeTwiceSpec) false w args) (Rows.judgeTwiceSpec.post enc Tryz.prog Tryz.f13 false true false false) := by
 refine returnsInHanded_of_change_and (C := Tryz.checked) (X := fun w _ => laidMetH Tryz.prog laidL w) (fun _ _ _ hh h => h.of_heap hh) own started (by kernel_rfl) Tryz.func13
  (ChangeSpec.witness_shaped (enc := enc) (C := Tryz.checked) (os := os) (X := fun w _ => laidMetH Tryz.prog laidL w) false (World.laidAll Tryz.prog os laidL) #[.slice none 0 0,.int .i64 0] 8 (World.laidAll_os _ _ _) (World.shaped_of_ZipB (by kernel_rfl) (by kernel_rfl)) (by kernel_rfl) (by kernel_rfl) (by kernel_rfl) (door_met os _)) ?_
 intro W base args ds gs before hval0 hW hcnd hsz0 hX _
 have hG : GR (allOf W) := by rw [plainL] at hX; obtain ⟨_,hv,_⟩ := hX; exact gr_of hv
 have hval : ∀ (j : Nat) t v,Tryz.f13.params[j]? = some t → args[j]? = some v → Value.okWide Tryz.prog W .any base t v := hval0
 have hW' := hW
 obtain ⟨p,q,hA0,hV,rfl,hfz,hnd⟩ := hW
 have hA : DataW.TrodAll enc Tryz.prog W 0 (fun _ => true) true Tryz.f13.params.toList args.toList ds p := hA0
 have hsz : (DataW.weightsEach Tryz.prog (Tryz.f13.params.toList ++ Rows.judgeTwiceSpec.plain.varTypes Tryz.prog) (ds ++ gs)).all (· ≤ reachBytes) = true := hsz0
 clear hsz0
 rw [Tryz.params13] at hA hval hsz
 obtain ⟨v0,vs0,d0,ds0,p0,q0,hargs,rfl,rfl,h0,r0⟩ := trodAll_cons hA
 obtain ⟨v1,vs1,d1,ds1,p1,q1,rfl,rfl,rfl,h1,r1⟩ := trodAll_cons r0
 obtain ⟨rfl,rfl,rfl⟩ := trodAll_nil r1
 obtain rfl : args = #[v0,v1] := by cases args; simp_all
 obtain ⟨rfl,rfl⟩ := trodVars_none hV
 have lt0 : ∀ x ∈ p0,x.block < W.heap.size := by obtain ⟨m,hm⟩ := h0; exact DataW.trod_lt m _ _ _ hm
 have lt1 : ∀ x ∈ p1,x.block < W.heap.size := by obtain ⟨m,hm⟩ := h1; exact DataW.trod_lt m _ _ _ hm
 refine (judgeTwice_walk enc base v0 v1 W (hval 0 22 v0 rfl rfl) ⟨_,_,h0,Small.arg hsz (j := 0) rfl rfl⟩ (hval 1 3 v1 rfl rfl) ⟨_,_,h1,Small.arg hsz (j := 1) rfl rfl⟩ hG).mono fun e W' ⟨he,bel⟩ => ?_
 subst he
 exact ⟨_,rfl,_,_,_,[],_,[],hW',trodAll_mk1 (shut_bool Tryz.underlying4 _),(trodAll_cons_mk (Below.trod laidOut (by kernel_rfl) (of_decide_eq_true (by kernel_rfl)) h0 bel lt0) (trodAll_cons_mk (Below.trod laidOut (by kernel_rfl) (of_decide_eq_true (by kernel_rfl)) h1 bel lt1) trodAll_mk0)),rfl,bel.frame _,fun h => by cases h⟩
end Go.Proofs.YtdieogcemmnaaaaGreatDoor.judgeTwice

namespace Go.Proofs.YtdieogcemmnaaaaGreatDoor.judgeTwice
open Go.ChangeShapes Go.WideShapes Go.ChangeAt Go.RowKit
set_option linter.unusedVariables false
theorem and2 {a b : Bool} (h1 : a = true) (h2 : b = true) : (a && b) = true := by rw [h1,h2]; rfl
theorem c0 : (fun (P : Program) (f : FuncId) (fn : Func) (s : ChangeSpec) (c : OpenClaim) => (c.wf (OpenSpec.ofChange s) : Bool)) Tryz.pinned.checked.prog 13 Tryz.f13 Rows.judgeTwiceSpec Rows.judgeTwiceRow = true := by kernel_rfl
theorem c1 : (fun (P : Program) (f : FuncId) (fn : Func) (s : ChangeSpec) (c : OpenClaim) => (laidOutB P : Bool)) Tryz.pinned.checked.prog 13 Tryz.f13 Rows.judgeTwiceSpec Rows.judgeTwiceRow = true := by kernel_rfl
theorem c2 : (fun (P : Program) (f : FuncId) (fn : Func) (s : ChangeSpec) (c : OpenClaim) => (mapsRowed P : Bool)) Tryz.pinned.checked.prog 13 Tryz.f13 Rows.judgeTwiceSpec Rows.judgeTwiceRow = true := by kernel_rfl
theorem c3 : (fun (P : Program) (f : FuncId) (fn : Func) (s : ChangeSpec) (c : OpenClaim) => (fn.params.all (P.readableRec ·) : Bool)) Tryz.pinned.checked.prog 13 Tryz.f13 Rows.judgeTwiceSpec Rows.judgeTwiceRow = true := by kernel_rfl
theorem c4 : (fun (P : Program) (f : FuncId) (fn : Func) (s : ChangeSpec) (c : OpenClaim) => (namedTie P c.named s.vars : Bool)) Tryz.pinned.checked.prog 13 Tryz.f13 Rows.judgeTwiceSpec Rows.judgeTwiceRow = true := by kernel_rfl
theorem c5 : (fun (P : Program) (f : FuncId) (fn : Func) (s : ChangeSpec) (c : OpenClaim) => ((c.stops == []) : Bool)) Tryz.pinned.checked.prog 13 Tryz.f13 Rows.judgeTwiceSpec Rows.judgeTwiceRow = true := by kernel_rfl
theorem c6 : (fun (P : Program) (f : FuncId) (fn : Func) (s : ChangeSpec) (c : OpenClaim) => ((P.stops == []) : Bool)) Tryz.pinned.checked.prog 13 Tryz.f13 Rows.judgeTwiceSpec Rows.judgeTwiceRow = true := by kernel_rfl
theorem c7 : (fun (P : Program) (f : FuncId) (fn : Func) (s : ChangeSpec) (c : OpenClaim) => ((c.knobs == []) : Bool)) Tryz.pinned.checked.prog 13 Tryz.f13 Rows.judgeTwiceSpec Rows.judgeTwiceRow = true := by kernel_rfl
theorem c8 : (fun (P : Program) (f : FuncId) (fn : Func) (s : ChangeSpec) (c : OpenClaim) => ((P.stopKnobs == []) : Bool)) Tryz.pinned.checked.prog 13 Tryz.f13 Rows.judgeTwiceSpec Rows.judgeTwiceRow = true := by kernel_rfl
theorem c9 : (fun (P : Program) (f : FuncId) (fn : Func) (s : ChangeSpec) (c : OpenClaim) => ((c.inPlace == P.inPlace f) : Bool)) Tryz.pinned.checked.prog 13 Tryz.f13 Rows.judgeTwiceSpec Rows.judgeTwiceRow = true := by kernel_rfl
theorem c10 : (fun (P : Program) (f : FuncId) (fn : Func) (s : ChangeSpec) (c : OpenClaim) => ((c.unfollowed == P.unfollowed f) : Bool)) Tryz.pinned.checked.prog 13 Tryz.f13 Rows.judgeTwiceSpec Rows.judgeTwiceRow = true := by kernel_rfl
theorem c11 : (fun (P : Program) (f : FuncId) (fn : Func) (s : ChangeSpec) (c : OpenClaim) => ((c.recurses == P.recurses f) : Bool)) Tryz.pinned.checked.prog 13 Tryz.f13 Rows.judgeTwiceSpec Rows.judgeTwiceRow = true := by kernel_rfl
theorem c12 : (fun (P : Program) (f : FuncId) (fn : Func) (s : ChangeSpec) (c : OpenClaim) => ((c.named == P.varsNamed f) : Bool)) Tryz.pinned.checked.prog 13 Tryz.f13 Rows.judgeTwiceSpec Rows.judgeTwiceRow = true := by kernel_rfl
theorem c13 : (fun (P : Program) (f : FuncId) (fn : Func) (s : ChangeSpec) (c : OpenClaim) => ((c.maps == (fn.params.toList ++ s.plain.varTypes P).any (P.mapsRec ·)) : Bool)) Tryz.pinned.checked.prog 13 Tryz.f13 Rows.judgeTwiceSpec Rows.judgeTwiceRow = true := by kernel_rfl
theorem c14 : (fun (P : Program) (f : FuncId) (fn : Func) (s : ChangeSpec) (c : OpenClaim) => ((c.ifaces == (fn.params.toList ++ s.plain.varTypes P).any (P.ifacesRec ·)) : Bool)) Tryz.pinned.checked.prog 13 Tryz.f13 Rows.judgeTwiceSpec Rows.judgeTwiceRow = true := by kernel_rfl
theorem c15 : (fun (P : Program) (f : FuncId) (fn : Func) (s : ChangeSpec) (c : OpenClaim) => ((c.mapsOut == P.mapsAmong fn.resultTypes.toList) : Bool)) Tryz.pinned.checked.prog 13 Tryz.f13 Rows.judgeTwiceSpec Rows.judgeTwiceRow = true := by kernel_rfl
theorem c16 : (fun (P : Program) (f : FuncId) (fn : Func) (s : ChangeSpec) (c : OpenClaim) => ((c.loops == (fn.params.toList ++ s.plain.varTypes P).any (P.loopsFrom ·)) : Bool)) Tryz.pinned.checked.prog 13 Tryz.f13 Rows.judgeTwiceSpec Rows.judgeTwiceRow = true := by kernel_rfl
theorem c17 : (fun (P : Program) (f : FuncId) (fn : Func) (s : ChangeSpec) (c : OpenClaim) => ((c.wideKeys == (fn.params.toList ++ s.plain.varTypes P ++ fn.resultTypes.toList).any (P.wideKeysFrom ·)) : Bool)) Tryz.pinned.checked.prog 13 Tryz.f13 Rows.judgeTwiceSpec Rows.judgeTwiceRow = true := by kernel_rfl
theorem c18 : (fun (P : Program) (f : FuncId) (fn : Func) (s : ChangeSpec) (c : OpenClaim) => (s.vars.all (P.varReadable ·) : Bool)) Tryz.pinned.checked.prog 13 Tryz.f13 Rows.judgeTwiceSpec Rows.judgeTwiceRow = true := by kernel_rfl
theorem c19 : (fun (P : Program) (f : FuncId) (fn : Func) (s : ChangeSpec) (c : OpenClaim) => (fn.resultTypes.all (fun t => P.readableRec t && decide (t < P.types.size)) : Bool)) Tryz.pinned.checked.prog 13 Tryz.f13 Rows.judgeTwiceSpec Rows.judgeTwiceRow = true := by kernel_rfl
theorem c20 : (fun (P : Program) (f : FuncId) (fn : Func) (s : ChangeSpec) (c : OpenClaim) => ((c.ifacesOut == fn.resultTypes.toList.any (P.ifacesRec ·)) : Bool)) Tryz.pinned.checked.prog 13 Tryz.f13 Rows.judgeTwiceSpec Rows.judgeTwiceRow = true := by kernel_rfl
theorem c21 : (fun (P : Program) (f : FuncId) (fn : Func) (s : ChangeSpec) (c : OpenClaim) => ((c.loopsOut == fn.resultTypes.toList.any (P.loopsFrom ·)) : Bool)) Tryz.pinned.checked.prog 13 Tryz.f13 Rows.judgeTwiceSpec Rows.judgeTwiceRow = true := by kernel_rfl
theorem c22 : (fun (P : Program) (f : FuncId) (fn : Func) (s : ChangeSpec) (c : OpenClaim) => ((c.plainKeys == P.plainKeys) : Bool)) Tryz.pinned.checked.prog 13 Tryz.f13 Rows.judgeTwiceSpec Rows.judgeTwiceRow = true := by kernel_rfl
theorem c23 : (fun (P : Program) (f : FuncId) (fn : Func) (s : ChangeSpec) (c : OpenClaim) => (c.shortTexts.isNone : Bool)) Tryz.pinned.checked.prog 13 Tryz.f13 Rows.judgeTwiceSpec Rows.judgeTwiceRow = true := by kernel_rfl
theorem c24 : (fun (P : Program) (f : FuncId) (fn : Func) (s : ChangeSpec) (c : OpenClaim) => (P.stopsHeard : Bool)) Tryz.pinned.checked.prog 13 Tryz.f13 Rows.judgeTwiceSpec Rows.judgeTwiceRow = true := by kernel_rfl
theorem c25 : (fun (P : Program) (f : FuncId) (fn : Func) (s : ChangeSpec) (c : OpenClaim) => (P.mayEnter : Bool)) Tryz.pinned.checked.prog 13 Tryz.f13 Rows.judgeTwiceSpec Rows.judgeTwiceRow = true := by kernel_rfl
theorem c26 : (fun (P : Program) (f : FuncId) (fn : Func) (s : ChangeSpec) (c : OpenClaim) => ((c.lifted == P.liftsFinal) : Bool)) Tryz.pinned.checked.prog 13 Tryz.f13 Rows.judgeTwiceSpec Rows.judgeTwiceRow = true := by kernel_rfl
theorem c27 : (fun (P : Program) (f : FuncId) (fn : Func) (s : ChangeSpec) (c : OpenClaim) => ((P.make == some c.make) : Bool)) Tryz.pinned.checked.prog 13 Tryz.f13 Rows.judgeTwiceSpec Rows.judgeTwiceRow = true := by kernel_rfl
theorem c28 : (fun (P : Program) (f : FuncId) (fn : Func) (s : ChangeSpec) (c : OpenClaim) => ((c.kinds == (if c.domain.isEmpty then [] else fn.params.toList.map fun t => match P.underlying t with | some (.int k) => some k | _ => none)) : Bool)) Tryz.pinned.checked.prog 13 Tryz.f13 Rows.judgeTwiceSpec Rows.judgeTwiceRow = true := by kernel_rfl
theorem c29 : (fun (P : Program) (f : FuncId) (fn : Func) (s : ChangeSpec) (c : OpenClaim) => ((c.pinned == c.pinnedBy) : Bool)) Tryz.pinned.checked.prog 13 Tryz.f13 Rows.judgeTwiceSpec Rows.judgeTwiceRow = true := by kernel_rfl
theorem c30 : (fun (P : Program) (f : FuncId) (fn : Func) (s : ChangeSpec) (c : OpenClaim) => ((c.veiled == (fn.params.toList ++ s.plain.varTypes P ++ fn.resultTypes.toList).any (P.veiledRec ·)) : Bool)) Tryz.pinned.checked.prog 13 Tryz.f13 Rows.judgeTwiceSpec Rows.judgeTwiceRow = true := by kernel_rfl
theorem c31 : (fun (P : Program) (f : FuncId) (fn : Func) (s : ChangeSpec) (c : OpenClaim) => (c.veiledFits P fn.params.toList (fn.params.toList ++ s.plain.varTypes P ++ fn.resultTypes.toList) : Bool)) Tryz.pinned.checked.prog 13 Tryz.f13 Rows.judgeTwiceSpec Rows.judgeTwiceRow = true := by kernel_rfl
theorem inst : Tryz.f13.isInstance Tryz.pinned.checked.prog Rows.judgeTwiceRow.origin Rows.judgeTwiceRow.targs := (of_decide_eq_true (by kernel_rfl))
theorem wrap : Tryz.f13.isWrapper Tryz.pinned.checked.prog Rows.judgeTwiceRow.wrapper Rows.judgeTwiceRow.mainSum := by unfold Func.isWrapper; first | (rw [if_pos (by decide +kernel)]; kernel_rfl) | (rw [if_neg (by decide +kernel)]; exact ⟨rfl,rfl⟩)
theorem nmd : Tryz.pinned.checked.prog.funcNamed Rows.judgeTwiceRow.func = some 13 := by kernel_rfl
end Go.Proofs.YtdieogcemmnaaaaGreatDoor.judgeTwice

namespace Go.Proofs.YtdieogcemmnaaaaGreatDoor.judgeTwice
open Go.ChangeShapes Go.WideShapes Go.ChangeAt Go.RowKit
set_option linter.unusedVariables false
set_option maxRecDepth 100000 in
theorem closed : joinedFacts Tryz.pinned.checked.prog 13 Tryz.f13 Rows.judgeTwiceSpec Rows.judgeTwiceRow = true := (and2 (and2 (and2 (and2 (and2 (and2 (and2 (and2 (and2 (and2 (and2 (and2 (and2 (and2 (and2 (and2 (and2 (and2 (and2 (and2 (and2 (and2 (and2 (and2 (and2 (and2 (and2 (and2 (and2 (and2 (and2 c0 c1) c2) c3) c4) c5) c6) c7) c8) c9) c10) c11) c12) c13) c14) c15) c16) c17) c18) c19) c20) c21) c22) c23) c24) c25) c26) c27) c28) c29) c30) c31)
theorem over : Rows.judgeTwiceRow.holds Tryz.pinned (OpenSpec.ofChange Rows.judgeTwiceSpec) :=
 OpenClaim.holds_of_wide 13 Tryz.f13 rfl rfl rfl rfl rfl rfl rfl ⟨rfl,rfl,rfl,rfl,rfl⟩ rfl rfl rfl rfl rfl nmd Tryz.func13 closed inst wrap (fun os started H enc _ => lifted os started H enc)
end Go.Proofs.YtdieogcemmnaaaaGreatDoor.judgeTwice
