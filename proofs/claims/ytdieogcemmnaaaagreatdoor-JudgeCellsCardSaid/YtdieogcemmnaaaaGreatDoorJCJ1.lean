/- Texts of this claim, joined. No condition. -/
import Derived.Test.YtdieogcemmnaaaaGreatDoorJCJ0
import Derived.Maps.AppendAt
import Derived.Laws.AppendOwnNone
import Derived.KernelRfl
import Derived.Test.YtdieogcemmnaaaaGreatDoorRows
import Derived.WalkKit
import Derived.WalkSpells
import Derived.WalkSmall
import Derived.WalkLawsBesides
import Derived.RegionTactic
import Derived.BigRegion
import Derived.BigQuiet
import Derived.Deep.QuietTactic
import Derived.Deep.RegionHeld3
import Derived.Lib.Hide
import Derived.Maps.OwnSet
import Derived.Maps.OwnOps
import Derived.Laws.IdiomRangeMap
import Derived.Lib.BufferRead
import Derived.SizedLaws
import Derived.ProofKit
import Derived.OpenShut
import Derived.Deep.Slices
import Derived.Lib.SmallJoins
import Derived.Below
set_option linter.unusedSimpArgs false
set_option linter.unusedVariables false
namespace Go.Proofs.YtdieogcemmnaaaaGreatDoor.RX
open Go.Proofs.YtdieogcemmnaaaaGreatDoor
section
variable {P:Program} {post:Value → HP} {w0 w:World} {F R h:PH} {ρ:Env} {L:List (Env → Prop)} {s:S} {a:Act} {cfg:Cfg}
theorem oneC_self {v:Value} (h:v.oneCell'=true):oneC v=v:=by cases v <;> first | rfl | cases h
theorem okA_den {base:Nat} {fr:List FV} {x y:A} (h:okA base fr x y=true) {ρ ρ2:Env} (hl:ρ.length=base) (hp:ρ <+: ρ2):x.den (ρ ++ fr.map (FV.den ρ2))=y.den ρ2:=by
 obtain ⟨z,rfl⟩:=hp
 have hf : ∀ {j:Nat} {f:FV},base ≤ j → fr[j - base]? = some f → look (ρ ++ fr.map (FV.den (ρ ++ z))) j=f.den (ρ ++ z):=by
  intro j f hj hf
  have : ∀ (r:Env) (q:List FV) (i:Nat),q[i]? = some f → look (r ++ q.map (FV.den (ρ ++ z))) (r.length + i)=f.den (ρ ++ z):=by
   intro r
   induction r with
   | nil =>
    intro q
    induction q with
    | nil=>intro i hi; cases hi
    | cons u v ih=>intro i hi; cases i with
     | zero=>simp only [List.getElem?_cons_zero,Option.some.injEq] at hi; subst hi; rfl
     | succ i=>simp only [List.length_nil,Nat.zero_add,List.nil_append,List.map_cons,look] at ih ⊢; exact ih i (by simpa using hi)
   | cons u v ih =>
    intro q i hi
    simp only [List.length_cons,List.cons_append]
    rw [show v.length + 1 + i=(v.length + i) + 1 by omega]
    exact ih q i hi
  have:=this ρ fr (j - base) hf
  rwa [hl,show base + (j - base)=j by omega] at this
 unfold okA at h
 simp only [Bool.or_eq_true,Bool.and_eq_true,decide_eq_true_eq,Nat.blt_eq] at h
 rcases h with ⟨rfl,hb⟩ | h
 ·rw [← hl] at hb
  rw [A.app hb,A.app hb]
 ·split at h <;> first | (cases h; done) | simp only [Bool.and_eq_true,decide_eq_true_eq,Nat.blt_eq] at h
  ·obtain ⟨⟨h1,rfl⟩,h3⟩:=h
   simp only [A.den,E.den,hf h1 h3,FV.den,F1.app,Uni.int_i,Int.neg_neg]
  ·obtain ⟨h1,h3⟩:=h
   simp only [A.den,E.den,hf h1 h3,FV.den,F1.app,Uni.bool_c,Bool.not_not]
  ·obtain ⟨h1,h3⟩:=h
   simp only [A.den,E.den,hf h1 h3,FV.den,F2.app,Uni.str_s,List.append_nil]
  ·obtain ⟨⟨h1,rfl⟩,h3⟩:=h
   simp only [A.den,BR.den,hf h1 h3,FV.den,Uni.nat_n]
  ·obtain ⟨⟨⟨⟨⟨h1,h2⟩,h3⟩,h4⟩,h5⟩,h6⟩:=h
   simp only [A.den,SA.den,E.den,hf h1 h4,hf h2 h5,hf h3 h6,FV.den,F2.app,Uni.adr_a,Uni.nat_n,Nat.add_zero]
  ·obtain ⟨h1,h3⟩:=h
   simp only [A.den,BR.den,hf h1 h3,FV.den,Uni.nat_n]
  ·obtain ⟨h1,h3⟩:=h
   show oneC (look _ _).val=_
   rw [hf h1 h3]
   exact oneC_self (A.one _ _)
theorem okAs_den {base:Nat} {fr:List FV} : ∀ {x y:List A},okAs base fr x y=true → ∀ {ρ ρ2:Env},ρ.length=base → ρ <+: ρ2 → x.map (A.den (ρ ++ fr.map (FV.den ρ2)))=y.map (A.den ρ2)
 | [],[],_,_,_,_,_=>rfl
 | x :: r,y :: q,h,ρ,ρ2,hl,hp=>by
  simp only [okAs,Bool.and_eq_true] at h
  simp only [List.map_cons,okA_den h.1 hl hp,okAs_den h.2 hl hp]
 | [],_ :: _,h,_,_,_,_=>by cases h
 | _ :: _,[],h,_,_,_,_=>by cases h
theorem okW_den {base:Nat} {fr:List FV} {x y:W} (h:okW base fr x y=true) {ρ ρ2:Env} (hl:ρ.length=base) (hp:ρ <+: ρ2):x.den (ρ ++ fr.map (FV.den ρ2))=y.den ρ2:=by
 cases x <;> cases y <;> simp only [okW] at h <;> first | (cases h; done) | skip
 ·exact okA_den h hl hp
 ·simp only [W.den,okAs_den h hl hp]
theorem okT_len {base:Nat} {fr:List FV} : ∀ {x y:List (Option V)},okT base fr x y=true → x.length=y.length
 | [],[],_=>rfl
 | none :: r,y :: q,h=>by simp only [okT] at h; simp [okT_len h]
 | some (.w x) :: r,some (.w y) :: q,h=>by simp only [okT,Bool.and_eq_true] at h; simp [okT_len h.2]
 | some (.tup x) :: r,some (.tup y) :: q,h=>by simp only [okT,Bool.and_eq_true] at h; simp [okT_len h.2]
 | [],_ :: _,h=>by simp [okT] at h
 | some (.w _) :: _,[],h=>by simp [okT] at h
 | some (.tup _) :: _,[],h=>by simp [okT] at h
 | none :: _,[],h=>by simp [okT] at h
 | some (.w _) :: _,none :: _,h=>by simp [okT] at h
 | some (.tup _) :: _,none :: _,h=>by simp [okT] at h
 | some (.w _) :: _,some (.tup _) :: _,h=>by simp [okT] at h
 | some (.tup _) :: _,some (.w _) :: _,h=>by simp [okT] at h
theorem okT_den {base:Nat} {fr:List FV} : ∀ {x y:List (Option V)},okT base fr x y=true → ∀ {ρ ρ2:Env},ρ.length=base → ρ <+: ρ2 → ∀ (i:Nat) (v:V),x[i]? = some (some v) → ∃ u,y[i]? = some (some u) ∧ v.den (ρ ++ fr.map (FV.den ρ2))=u.den ρ2
 | [],_,_,_,_,_,_,i,v,hi=>by simp at hi
 | x :: r,[],h,_,_,_,_,_,_,_=>by have:=okT_len h; simp at this
 | x :: r,y :: q,h,ρ,ρ2,hl,hp,0,v,hi=>by
  simp only [List.getElem?_cons_zero,Option.some.injEq] at hi
  subst hi
  cases y with
  | none=>cases v <;> simp [okT] at h
  | some u =>
   refine ⟨u,rfl,?_⟩
   cases v <;> cases u <;> simp only [okT,Bool.and_eq_true,decide_eq_true_eq,Nat.blt_eq] at h <;> first | (cases h; done) | skip
   ·exact okW_den h.1 hl hp
   ·obtain ⟨⟨rfl,hb⟩,hrest⟩:=h
    obtain ⟨z,rfl⟩:=hp
    rename_i q0
    have hb':V.bel ρ.length (.tup q0)=true:=by rw [hl]; exact hb
    rw [V.app hb',V.app hb']
 | x :: r,y :: q,h,ρ,ρ2,hl,hp,i + 1,v,hi=>by
  simp only [List.getElem?_cons_succ] at hi ⊢
  have h':okT base fr r q=true:=by
   cases x with
   | none=>simpa [okT] using h
   | some x =>
    cases y with
    | none=>cases x <;> simp [okT] at h
    | some y=>cases x <;> cases y <;> simp only [okT,Bool.and_eq_true] at h <;> first | (cases h; done) | exact h.2
  exact okT_den h' hl hp i v hi
theorem look_fr {ρ ρ2:Env} {base:Nat} (hl:ρ.length=base) {fr:List FV} {j:Nat} {f:FV} (hj:base ≤ j) (hf:fr[j - base]? = some f):look (ρ ++ fr.map (FV.den ρ2)) j=f.den ρ2:=by
 have : ∀ (r:Env) (q:List FV) (i:Nat),q[i]? = some f → look (r ++ q.map (FV.den ρ2)) (r.length + i)=f.den ρ2:=by
  intro r
  induction r with
  | nil =>
   intro q
   induction q with
   | nil=>intro i hi; cases hi
   | cons u v ih=>intro i hi; cases i with
    | zero=>simp only [List.getElem?_cons_zero,Option.some.injEq] at hi; subst hi; rfl
    | succ i=>simp only [List.length_nil,Nat.zero_add,List.nil_append,List.map_cons,look] at ih ⊢; exact ih i (by simpa using hi)
  | cons u v ih =>
   intro q i hi
   simp only [List.length_cons,List.cons_append]
   rw [show v.length + 1 + i=(v.length + i) + 1 by omega]
   exact ih q i hi
 have:=this ρ fr (j - base) hf
 rwa [hl,show base + (j - base)=j by omega] at this
theorem partsH_den {base:Nat} {fr:List FV} {h0:Hp} : ∀ {m l:Hp},partsH base fr h0 m=some l → ∀ {ρ ρ2:Env},ρ.length=base → ρ <+: ρ2 → ∀ {R h:PH},(hden ρ2 l).p R h → (hden (ρ ++ fr.map (FV.den ρ2)) m).p R h
 | [],l,_,_,_,_,_,_,_,_=>trivial
 | (k,c) :: r,l,e,ρ,ρ2,hl,hp,R,h,H=>by
  simp only [partsH] at e
  split at e
  ·cases e
  ·rename_i q hq
   have ih : ∀ {x:PH},(hden ρ2 q).p R x → (hden (ρ ++ fr.map (FV.den ρ2)) r).p R x:=fun hx=>partsH_den hq hl hp hx
   have same : ∀ x:Key × C,(x.1.bel base && x.2.bel base)=true → cden (ρ ++ fr.map (FV.den ρ2)) x=cden ρ2 x:=fun x hb=>by
    obtain ⟨z,rfl⟩:=hp
    rw [← hl] at hb
    rw [cden_app hb,cden_app hb]
   split at e
   ·rename_i x ty
    split at e
    ·rename_i y hy
     cases e
     have hs:=List.find?_some hy
     simp only [Bool.and_eq_true] at hs
     obtain ⟨⟨hB,hk⟩,hc⟩:=hs
     have H1:=(hden_cons ρ2 y q R h).1 H
     refine (hden_cons _ _ _ _ _).2 (HP.sep_mono H1 (fun _ hh => ?_) fun _ hh=>ih hh)
     obtain ⟨yk,yc⟩:=y
     cases yc with
     | cells z ty' =>
      simp only [Bool.and_eq_true,decide_eq_true_eq,Nat.blt_eq] at hc
      obtain ⟨hz,rfl⟩:=hc
      cases k with
      | a j=>cases hB
      | b rr =>
       cases yk with
       | a j=>cases rr <;> simp [okK] at hk
       | b rr' =>
        simp only [cden] at hh ⊢
        rw [okAs_den hz hl hp]
        have:rr.den (ρ ++ fr.map (FV.den ρ2))=rr'.den ρ2:=by
         cases rr with
         | g n=>simp only [okK,decide_eq_true_eq,Nat.blt_eq] at hk; subst hk; rfl
         | v j =>
          simp only [okK] at hk
          split at hk
          ·rename_i hj
           have hk':fr[j - base]? = some (.n rr'):=by simpa using hk
           simp only [BR.den,look_fr hl hj hk',FV.den,Uni.nat_n]
          ·rename_i hj
           have hk':rr' = .v j:=by simpa using hk
           subst hk'
           obtain ⟨z',rfl⟩:=hp
           have hb:BR.bel ρ.length (.v j)=true:=by simp [BR.bel]; omega
           rw [BR.app hb,BR.app hb]
        rw [this]; exact hh
     | emap=>simp at hc
     | dfr=>simp at hc
     | prop j=>simp at hc
    ·cases e
   ·split at e
    ·rename_i hc
     cases e
     simp only [Bool.and_eq_true] at hc
     have H1:=(hden_cons ρ2 _ q R h).1 H
     refine (hden_cons _ _ _ _ _).2 (HP.sep_mono H1 (fun _ hh => ?_) fun _ hh=>ih hh)
     rw [same _ (by simp [hc.1,C.bel])]; exact hh
    ·cases e
   ·split at e
    ·rename_i hc
     cases e
     simp only [Bool.and_eq_true] at hc
     have H1:=(hden_cons ρ2 _ q R h).1 H
     refine (hden_cons _ _ _ _ _).2 (HP.sep_mono H1 (fun _ hh => ?_) fun _ hh=>ih hh)
     rw [same _ (by simp [hc.1,C.bel])]; exact hh
    ·cases e
   ·rename_i j
    split at e
    ·rename_i hj
     split at e
     ·rename_i f q' hf
      cases e
      have H1:=hden_app2.1 H
      refine (hden_cons _ _ _ _ _).2 (HP.sep_mono H1 (fun _ hh => ?_) fun _ hh=>ih hh)
      have:cden (ρ ++ fr.map (FV.den ρ2)) (k,.prop j)=hden ρ2 q':=by
       cases k <;> simp only [cden,look_fr hl hj hf,FV.den,Uni.hp_p]
      rw [this]; exact hh
     ·cases e
    ·rename_i hj
     split at e
     ·rename_i hc
      cases e
      simp only [Bool.and_eq_true] at hc
      have H1:=(hden_cons ρ2 _ q R h).1 H
      refine (hden_cons _ _ _ _ _).2 (HP.sep_mono H1 (fun _ hh => ?_) fun _ hh=>ih hh)
      rw [same _ (by simp [hc.1,C.bel]; omega)]; exact hh
     ·cases e
theorem okS_ok {hd:S} {ss:List So} {fr:List FV} {ρ ρ2:Env} {s:S} {base:Nat} (hl:ρ.length=base) (c:okS base ss hd s fr=true) (hp:ρ <+: ρ2) (ok:Ok ρ2 s a w0 w R h F) (hkn : ∀ x ∈ hd.kn,(x.1.den ρ).bool=x.2):Ok (ρ ++ fr.map (FV.den ρ2)) hd a w0 w R h F:=by
 subst hl
 simp only [okS,Bool.and_eq_true,decide_eq_true_eq,Nat.blt_eq] at c
 obtain ⟨⟨⟨⟨⟨⟨c1,c2⟩,c3⟩,c4⟩,c5⟩,c6⟩,c7,c8⟩:=c
 refine ⟨?_,⟨by rw [ok.tm.1,okT_len c1],fun i v hi => ?_⟩,by simp [c4,c5],fun x hx => ?_,?_,ok.sat,ok.same⟩
 ·rw [ok.dfr,← c7]
  obtain ⟨z,rfl⟩:=hp
  exact List.map_congr_left fun r hr=>by unfold markOf; rw [BR.app (List.all_eq_true.1 c8 r hr),BR.app (List.all_eq_true.1 c8 r hr)]
 ·obtain ⟨u,hu,he⟩:=okT_den c1 rfl hp i v hi
  rw [he]
  exact ok.tm.2 i u hu
 ·rw [E.app (List.all_eq_true.1 c6 x hx)]; exact hkn x hx
 ·split at c2
  ·rename_i l hl
   simp only [Bool.and_eq_true] at c2
   exact partsH_den hl rfl hp (hden_sub c2.1 (fun x hx=>by simpa using List.all_eq_true.1 c2.2 x hx) ok.hp)
  ·cases c2
def sorted:List So → Env → Prop
 | [],[]=>True
 | .n :: r,.n _ :: x=>sorted r x
 | .i :: r,.i _ :: x=>sorted r x
 | .c :: r,.c _ :: x=>sorted r x
 | .s :: r,.s _ :: x=>sorted r x
 | .a :: r,.a _ :: x=>sorted r x
 | .v :: r,.v _ :: x=>sorted r x
 | .p :: r,.p _ :: x=>sorted r x
 | _,_=>False
theorem allP_elim : ∀ {ss:List So} {ρ:Env} {f:Env → Prop} {xs:Env},allP ss ρ f → sorted ss xs → f (ρ ++ xs)
 | [],ρ,f,[],h,_=>by simpa [allP] using h
 | [],_,_,_ :: _,_,hs=>by simp [sorted] at hs
 | t :: r,ρ,f,[],_,hs=>by cases t <;> simp [sorted] at hs
 | .n :: r,ρ,f,.n x :: xs,h,hs | .i :: r,ρ,f,.i x :: xs,h,hs | .c :: r,ρ,f,.c x :: xs,h,hs | .s :: r,ρ,f,.s x :: xs,h,hs | .a :: r,ρ,f,.a x :: xs,h,hs | .v :: r,ρ,f,.v x :: xs,h,hs | .p :: r,ρ,f,.p x :: xs,h,hs=>by
  have:=allP_elim (h x) hs
  simpa using this
 | .n :: _,_,_,.i _ :: _,_,hs | .n :: _,_,_,.c _ :: _,_,hs | .n :: _,_,_,.s _ :: _,_,hs | .n :: _,_,_,.a _ :: _,_,hs | .n :: _,_,_,.v _ :: _,_,hs | .n :: _,_,_,.p _ :: _,_,hs
 | .i :: _,_,_,.n _ :: _,_,hs | .i :: _,_,_,.c _ :: _,_,hs | .i :: _,_,_,.s _ :: _,_,hs | .i :: _,_,_,.a _ :: _,_,hs | .i :: _,_,_,.v _ :: _,_,hs | .i :: _,_,_,.p _ :: _,_,hs
 | .c :: _,_,_,.n _ :: _,_,hs | .c :: _,_,_,.i _ :: _,_,hs | .c :: _,_,_,.s _ :: _,_,hs | .c :: _,_,_,.a _ :: _,_,hs | .c :: _,_,_,.v _ :: _,_,hs | .c :: _,_,_,.p _ :: _,_,hs
 | .s :: _,_,_,.n _ :: _,_,hs | .s :: _,_,_,.i _ :: _,_,hs | .s :: _,_,_,.c _ :: _,_,hs | .s :: _,_,_,.a _ :: _,_,hs | .s :: _,_,_,.v _ :: _,_,hs | .s :: _,_,_,.p _ :: _,_,hs
 | .a :: _,_,_,.n _ :: _,_,hs | .a :: _,_,_,.i _ :: _,_,hs | .a :: _,_,_,.c _ :: _,_,hs | .a :: _,_,_,.s _ :: _,_,hs | .a :: _,_,_,.v _ :: _,_,hs | .a :: _,_,_,.p _ :: _,_,hs
 | .v :: _,_,_,.n _ :: _,_,hs | .v :: _,_,_,.i _ :: _,_,hs | .v :: _,_,_,.c _ :: _,_,hs | .v :: _,_,_,.s _ :: _,_,hs | .v :: _,_,_,.a _ :: _,_,hs | .v :: _,_,_,.p _ :: _,_,hs
 | .p :: _,_,_,.n _ :: _,_,hs | .p :: _,_,_,.i _ :: _,_,hs | .p :: _,_,_,.c _ :: _,_,hs | .p :: _,_,_,.s _ :: _,_,hs | .p :: _,_,_,.a _ :: _,_,hs | .p :: _,_,_,.v _ :: _,_,hs=>by simp [sorted] at hs
theorem so_one {ρ:Env} (f:FV) {ss:List So} {xs:Env} (h:(FV.so f).length=1) (hs:sorted ss xs):sorted (FV.so f ++ ss) (f.den ρ :: xs):=by
 unfold FV.so at h ⊢
 split at h <;> simp at h <;> simpa [FV.den,E.den,F1.app,F2.app,sorted] using hs
theorem fr_sorted (ρ:Env) : ∀ {fr:List FV} {ss:List So},fr.flatMap FV.so=ss → fr.length=ss.length → sorted ss (fr.map (FV.den ρ))
 | [],ss,h,_=>by simp at h; subst h; trivial
 | f :: r,ss,h,hl=>by
  have hlen : ∀ q:List FV,(q.flatMap FV.so).length ≤ q.length:=fun q=>by
   induction q with
   | nil=>simp
   | cons g t ih =>
    simp only [List.flatMap_cons,List.length_append,List.length_cons]
    have:(FV.so g).length ≤ 1:=by unfold FV.so; split <;> simp
    omega
  have h1:(FV.so f).length=1:=by
   have:=hlen r
   subst h
   simp only [List.flatMap_cons,List.length_append,List.length_cons] at hl
   have:(FV.so f).length ≤ 1:=by unfold FV.so; split <;> simp
   omega
  subst h
  have hr:r.length=(r.flatMap FV.so).length:=by
   simp only [List.flatMap_cons,List.length_append,List.length_cons] at hl
   omega
  have ih:=fr_sorted ρ (fr:=r) rfl hr
  simp only [List.flatMap_cons,List.map_cons]
  exact so_one f h1 ih
end
end Go.Proofs.YtdieogcemmnaaaaGreatDoor.RX

namespace Go.Proofs.YtdieogcemmnaaaaGreatDoor.RX
open Go.Proofs.YtdieogcemmnaaaaGreatDoor
def Reach (c:Ctx) (K:Ex → S → T):Exit → Act → World → Prop
 | .normal,a,w=>Nx c (K .norm) a w
 | .exit id,a,w=>Nx c (K (.exit id)) a w
 | .ret,a,w=>Nx c (K .ret) a w
 | _,_,_=>False
section
variable {P:Program} {post:Value → HP} {w0:World} {F:PH} {cfg:Cfg}
theorem Reach.up {K:Ex → S → T} {ρ ρ':Env} {R R':PH} {L L':List (Env → Prop)} {e:Exit} {a:Act} {w:World} (p1:ρ <+: ρ') (p2:R.le R') (p3:L <:+ L') (n:Reach ⟨P,post,w0,F,ρ',R',L'⟩ K e a w):Reach ⟨P,post,w0,F,ρ,R,L⟩ K e a w:=by
 cases e <;> first | exact Nx.up p1 p2 p3 n | exact n
theorem hden_unfilter {ρ:Env} (q:Key × C → Bool) {l:Hp} {R h:PH} (H:(HP.sep (hden ρ (l.filter q)) (hden ρ (l.filter fun x => !q x))).p R h):(hden ρ l).p R h:=by
 induction l generalizing h with
 | nil=>trivial
 | cons x r ih =>
  rw [List.filter_cons,List.filter_cons] at H
  cases hq:q x with
  | true =>
   simp only [hq,if_true,Bool.not_true,Bool.false_eq_true,if_false] at H
   exact (hden_cons ρ x r R h).2 (HP.sep_mono (HP.sep_assoc (HP.sep_mono H (fun _ h=>(hden_cons ρ x _ _ _).1 h) fun _ h=>h)) (fun _ h=>h) fun _ h=>ih h)
  | false =>
   simp only [hq,Bool.false_eq_true,if_false,Bool.not_false,if_true] at H
   have H2:=HP.sep_comm H
   have H3:=HP.sep_assoc (HP.sep_mono H2 (fun _ h=>(hden_cons ρ x _ _ _).1 h) fun _ h=>h)
   exact (hden_cons ρ x r R h).2 (HP.sep_mono H3 (fun _ h=>h) fun _ h=>ih (HP.sep_comm h))
theorem okS_hp {hd:S} {ss:List So} {fr:List FV} {ρ ρ2:Env} {s:S} {base:Nat} {R h:PH} (hl:ρ.length=base) (c:okS base ss hd s fr=true) (hp:ρ <+: ρ2) (H:(hden ρ2 s.h).p R h):(hden (ρ ++ fr.map (FV.den ρ2)) hd.h).p R h:=by
 simp only [okS,Bool.and_eq_true,decide_eq_true_eq,Nat.blt_eq] at c
 have c2:=c.1.1.1.1.1.2
 split at c2
 ·rename_i l hl'
  simp only [Bool.and_eq_true] at c2
  exact partsH_den hl' hl hp (hden_sub c2.1 (fun x hx=>by simpa using List.all_eq_true.1 c2.2 x hx) H)
 ·cases c2
theorem okS_so {hd:S} {ss:List So} {fr:List FV} {s:S} {base:Nat} (c:okS base ss hd s fr=true) (ρ:Env):sorted ss (fr.map (FV.den ρ)) ∧ fr.length=ss.length ∧ hd.n=base + ss.length:=by
 simp only [okS,Bool.and_eq_true,decide_eq_true_eq,Nat.blt_eq] at c
 exact ⟨fr_sorted ρ c.1.1.1.1.2 c.1.1.1.2,c.1.1.1.2,c.1.1.2⟩
theorem sorted_len : ∀ {ss:List So} {xs:Env},sorted ss xs → xs.length=ss.length
 | [],[],_=>rfl
 | [],_ :: _,h=>by simp [sorted] at h
 | t :: r,[],h=>by cases t <;> simp [sorted] at h
 | t :: r,x :: xs,h=>by cases t <;> cases x <;> simp only [sorted] at h <;> first | (simp only [List.length_cons,sorted_len h]; done) | exact h.elim
theorem _root_.Go.Proofs.YtdieogcemmnaaaaGreatDoor.Sat.turnF {w:World} {R h F:PH} (s:Sat w R h F) {l:Nat} {x:Obj} (hb:F l=some x) (y:Obj):Sat (w.putObj l y) R h (fun k=>if k=l then some y else F k):=by
 have hR:R l=none:=(s.dRF l).resolve_right (by rw [hb]; simp)
 have hh:h l=none:=(s.dhF l).resolve_right (by rw [hb]; simp)
 have keep : ∀ g:PH,g.own w → g l=none → g.own (w.putObj l y):=fun g og gl k o e=>by
  rw [World.putObj_heap_other (fun e'=>by subst e'; rw [gl] at e; cases e)]; exact og k o e
 refine ⟨s.dRh,fun k => ?_,fun k => ?_,keep R s.oR hR,keep h s.oh hh,fun k o e => ?_,s.gl⟩
 ·by_cases e:k=l
  ·subst e; exact .inl hR
  ·simp only [e,if_false]; exact s.dRF k
 ·by_cases e:k=l
  ·subst e; exact .inl hh
  ·simp only [e,if_false]; exact s.dhF k
 ·by_cases e':k=l
  ·subst e'
   simp only [if_true] at e
   cases e
   exact World.putObj_heap_same (s.oF.lt hb)
  ·simp only [e',if_false] at e
   rw [World.putObj_heap_other e']; exact s.oF k o e
theorem _root_.Go.Proofs.YtdieogcemmnaaaaGreatDoor.Sat.unframe {w:World} {R h F G:PH} (s:Sat w R h F) {l:Nat} {x:Obj} (hb:F l=some x) (hG:G.le F) (hGl:G l=none):Sat w R (h.un (PH.one l x)) G ∧ h.dj (PH.one l x):=by
 have hR:R l=none:=(s.dRF l).resolve_right (by rw [hb]; simp)
 have hh:h l=none:=(s.dhF l).resolve_right (by rw [hb]; simp)
 have d1:h.dj (PH.one l x):=fun k=>by
  by_cases e:k=l
  ·subst e; exact .inl hh
  ·exact .inr (if_neg e)
 refine ⟨⟨(PH.dj_un s.dRh.symm (fun k => ?_)).symm,s.dRF.le (PH.le.refl _) hG,PH.dj_un (s.dhF.le (PH.le.refl _) hG) (fun k => ?_),s.oR,fun k o e => ?_,s.oF.le hG,s.gl⟩,d1⟩
 ·by_cases e:k=l
  ·subst e; exact .inr hR
  ·exact .inl (if_neg e)
 ·by_cases e:k=l
  ·subst e; exact .inr hGl
  ·exact .inl (if_neg e)
 ·rcases PH.un_some e with e | e
  ·exact s.oh k o e
  ·obtain ⟨rfl,rfl⟩:=PH.one_some e; exact s.oF _ _ hb
theorem Same.putObj (w:World) (l:Nat) (o:Obj):Same w (w.putObj l o):=⟨rfl,rfl,rfl,by simp⟩
theorem Tm.sets {ρ:Env} : ∀ (l:List (Tmp × W)) {t:List (Option V)} {a:Act},Tm ρ t a →
  Tm ρ (l.foldl (fun t x=>t.set x.1 (some (.w x.2))) t) { a with tmps:=(l.map fun x=>(x.1,x.2.den ρ)).foldl (fun ts x=>ts.setIfInBounds x.1 x.2) a.tmps }
 | [],_,_,h=>h
 | (d,x) :: r,t,a,h=>by
  have:=Tm.sets r (h.put d (.w x))
  simpa [Act.put,V.den] using this
theorem zip_args {ps:Array Tmp} {pvs:List W} {ρ:Env} {ts:Array Value}:(ps.zip (pvs.map (W.den ρ)).toArray).foldl (fun tmps (x:Tmp × Value)=>tmps.setIfInBounds x.1 x.2) ts=((ps.toList.zip pvs).map fun x=>(x.1,x.2.den ρ)).foldl (fun ts x=>ts.setIfInBounds x.1 x.2) ts:=by
 rw [← Array.foldl_toList]
 congr 1
 rw [Array.toList_zip]
 simp only
 rw [List.zip_map_right]
 exact List.map_congr_left fun x _=>rfl
theorem wpIn_loop_num {Fr:Fence} {n':Nat} {Q:Exit → Act → World → Prop} {c:Code} (I:Nat → Act → World → Prop)
  (round : ∀ n a w,I n a w → c.wpIn Fr n' P (Exit.then (fun a' w' => ∃ m,m < n ∧ I m a' w') Q) a w) : ∀ n a w,I n a w → (Code.loop c).wpIn Fr n' P Q a w:=by
 intro n₀ a₀ w₀ h₀ b k cs hro hb hr
 have key : ∀ n a w,I n a w → ∃ e a' w',Q e a' w' ∧ ArrivesIn (Machine.fenced P Fr) P (lone (b.atR a (.code c :: .inLoop c :: k)) cs w) b k cs e a' w':=by
  intro n
  induction n using Nat.strongRecOn with
  | _ n ih =>
   intro a w hI
   obtain ⟨e,a₁,w₁,hq,harr⟩:=round n a w hI b (.inLoop c :: k) cs hro hb hr
   cases e with
   | normal =>
    obtain ⟨m,hm,hI₁⟩:=hq
    obtain ⟨e₂,a₂,w₂,hq₂,harr₂⟩:=ih m hm a₁ w₁ hI₁
    exact ⟨e₂,a₂,w₂,hq₂,.of_steps (StepsIn.trans harr (.one (fenced_calm hb hr rfl) stepR_inLoop)) harr₂⟩
   | exit id=>exact ⟨_,a₁,w₁,hq,.pass (x := .inLoop c) rfl (fun _ _ => .inl (by simp)) harr⟩
   | goto l=>exact ⟨_,a₁,w₁,hq,.pass (x := .inLoop c) rfl (fun _ _ => .inl (by simp)) harr⟩
   | ret=>exact ⟨_,a₁,w₁,hq,.pass (x := .inLoop c) rfl (fun _ _ => .inl (by simp)) harr⟩
   | panic ch=>exact ⟨_,a₁,w₁,hq,.pass (x := .inLoop c) rfl (fun _ _ => .inl (by simp)) harr⟩
   | outgrown=>exact ⟨_,a₁,w₁,hq,.pass (x := .inLoop c) rfl (fun _ _ => .inl (by simp)) harr⟩
 obtain ⟨e,a',w',hq,harr⟩:=key n₀ a₀ w₀ h₀
 exact ⟨e,a',w',hq,.of_steps (.one (fenced_calm hb hr rfl) stepR_loop) harr⟩
def IH (P:Program) (cfg:Cfg) (post:Value → HP) (c:Code):Prop := ∀ {Fr:Fence} (_:WF Fr) {rd:Bool} (_:rd=false → Fr=Fence.wide) {w0:World} {F:PH} {K:Ex → S → T} {ρ:Env} {s:S} {a:Act} {w:World} {R h:PH} {L:List (Env → Prop)},Ok ρ s a w0 w R h F → L.length=s.dp → (exec P cfg rd c s K).den P post L ρ →
  c.wpIn Fr 0 P (Reach ⟨P,post,w0,F,ρ,R,L⟩ K) a w
set_option maxHeartbeats 1000000 in
theorem range_ok {g:Operand} {ps:Array Tmp} {asg b:Code} (iha:IH P cfg post asg) (ihb:IH P cfg post b) {K:Ex → S → T} {ρ:Env} {s:S} {a:Act} {w:World} {R h:PH} {L:List (Env → Prop)} (ok:Ok ρ s a w0 w R h F) (hl:L.length=s.dp)
  {gv:A} (hgv:evA s g=some gv) (hok:(rgOf P cfg s gv).ok gv false s ps.toList=true) (hd:(let r:=rgOf P cfg s gv
    T.new (.rangef gv r.c (r.hd.s.h.filter fun x=>r.shk.contains x.1) r.hd.ss r.fr r.pss r.pvs r.pch
     (exec P cfg true asg (r.round ps.toList) fun x sA=>match x with
      | .norm=>exec P cfg true b sA fun x s2=>match x with
       | .norm =>
        let fr2:=fitS r.s1.n r.hd.s (r.endS s2)
        if okS r.s1.n r.hd.ss r.hd.s (r.endS s2) fr2 then .again (s2.dp - r.hd.s.dp) fr2 else .all (.fail (8000 + s.blk)) (.ret (.tup []) (diffH r.s1.n fr2 s2.h r.hd.s.h))
       | x=>K x (r.leftS s2)
      | _ => .fail 84)
     (K .norm (r.doneS s)))).den P post L ρ) :
  (Code.rangeFunc g ps asg b).wpIn Fence.wide 0 P (Reach ⟨P,post,w0,F,ρ,R,L⟩ K) a w:=by
 have wfw:WF Fence.wide := .inl rfl
 refine wpIn_rangeFunc fun fn _ => ?_
 obtain ⟨γ,Sh,Pr,may,fin,g0,I,⟨f,caps,hgval,hfgo,htri⟩,hI0,hSh,hrnd,hfin⟩:=hd w.heap.size
 simp only [Rg.ok,Bool.not_false,Bool.true_and,Bool.and_eq_true,decide_eq_true_eq,Nat.blt_eq] at hok
 obtain ⟨⟨⟨⟨⟨⟨hgb,hcb0⟩,hsb⟩,hokS⟩,hhbel⟩,hpn⟩,hpl⟩:=hok
 have et:(rgOf P cfg s gv).hd.s.t=s.t:=rfl
 have ek:(rgOf P cfg s gv).hd.s.kn=s.kn:=rfl
 have ed:(rgOf P cfg s gv).hd.s.dp=s.dp + 1:=rfl
 have edf:(rgOf P cfg s gv).hd.s.df=[]:=rfl
 have es1:(rgOf P cfg s gv).s1={ s with n:=s.n + 1,h:=(.b (.v s.n),.dfr) :: s.h,df := .v s.n :: s.df }:=rfl
 have ec:(rgOf P cfg s gv).c=(rgOf P cfg s gv).s1.h.filter fun x=>(reach s.h s.lk 60 (keysA gv) []).contains x.1 && !(rgOf P cfg s gv).shk.contains x.1:=rfl
 have er:(rgOf P cfg s gv).rest=(rgOf P cfg s gv).s1.h.filter fun x => !((reach s.h s.lk 60 (keysA gv) []).contains x.1 && !(rgOf P cfg s gv).shk.contains x.1):=rfl
 generalize hr:rgOf P cfg s gv=r at *
 -- the two blocks
 let d:=w.heap.size
 let ρ1:Env:=ρ ++ [.n d]
 have hρ1:ρ1.length=s.n + 1:=by simp [ρ1,ok.len]
 have k1:Ok ρ1 { s with n:=s.n + 1 } a w0 w R h F:=ok.app hsb [.n d] (s.n + 1) rfl
 let rec0:Loop:={ state := .ready,pending:=none,fn,tmps:=a.tmps,params:=ps,assign:=asg,body:=b,defers:=d }
 let w1:=(w.alloc (.deferred (some []))).alloc (.loop rec0)
 let l:=d + 1
 have el:(w.alloc (.deferred (some []))).heap.size=l:=by rw [World.size_alloc]
 obtain ⟨sd,dd⟩:=ok.sat.alloc (.deferred (some []))
 have hpd:(hden ρ1 r.s1.h).p R ((PH.one d (.deferred (some []))).un h):=by
  rw [es1]
  refine (hden_cons _ _ _ _ _).2 ⟨PH.one d _,h,dd,PH.un_left _ _,PH.un_right dd,?_,k1.hp⟩
  show (PH.one d _) (BR.den ρ1 (.v s.n))=_
  have:BR.den ρ1 (.v s.n)=d:=by simp only [BR.den,ρ1]; rw [← ok.len,look_at]; rfl
  rw [this]; exact PH.one_self _ _
 obtain ⟨sl,dl⟩:=sd.alloc (.loop rec0)
 rw [el] at sl dl
 have hcut:=hden_filter (fun x=>(reach s.h s.lk 60 (keysA gv) []).contains x.1 && !r.shk.contains x.1) hpd
 rw [← ec,← er] at hcut
 have hrn:r.s1.n=s.n + 1:=by rw [es1]
 -- what a round begins with
 let Kx:γ → HP:=fun g=>HP.ex fun ys:Env=>HP.and (sorted r.hd.ss ys ∧ Cur.app r.hd.ss (I g) ys) (HP.sep (hden (ρ1 ++ ys) (r.hd.s.h.filter fun x => !r.shk.contains x.1)) (HP.one l (.loop rec0)))
 have toK : ∀ g ys R h,sorted r.hd.ss ys → Cur.app r.hd.ss (I g) ys → (HP.sep (hden (ρ1 ++ ys) r.hd.s.h) (HP.one l (.loop rec0))).p R h → (HP.sep (Sh g) (Kx g)).p R h:=fun g ys R h hso hI H=>by
  have e:=allP_elim (hSh g) hso
  rw [show ρ ++ [Uni.n w.heap.size]=ρ1 from rfl,List.drop_left] at e
  rw [e hI]
  exact HP.sep_mono (HP.sep_assoc (HP.sep_mono H (fun _ h=>hden_filter (fun x=>r.shk.contains x.1) h) fun _ h=>h)) (fun _ h=>h) fun _ h=>⟨ys,⟨hso,hI⟩,h⟩
 have ofK : ∀ g R h,(HP.sep (Sh g) (Kx g)).p R h → ∃ ys,sorted r.hd.ss ys ∧ Cur.app r.hd.ss (I g) ys ∧ (HP.sep (hden (ρ1 ++ ys) r.hd.s.h) (HP.one l (.loop rec0))).p R h:=fun g R h ⟨h1,h2,dj,l1,l2,hs,ys,⟨hso,hI⟩,hk⟩=>by
  have e:=allP_elim (hSh g) hso
  rw [show ρ ++ [Uni.n w.heap.size]=ρ1 from rfl,List.drop_left] at e
  rw [e hI] at hs
  exact ⟨ys,hso,hI,HP.sep_mono (HP.sep_assoc' ⟨h1,h2,dj,l1,l2,hs,hk⟩) (fun _ h=>hden_unfilter (fun x=>r.shk.contains x.1) h) fun _ h=>h⟩
 -- what a round that leaves the loop leaves
 let Jx:HP:=HP.ex fun z:(Code × Ex) × Env × S × List (Env → Prop)=>HP.and ((z.1=(.ret,.ret) ∨ ∃ id,z.1=(.exit id,.exit id)) ∧ ρ1 <+: z.2.1 ∧ z.2.1.length=z.2.2.1.n ∧ L <:+ z.2.2.2 ∧ z.2.2.2.length=z.2.2.1.dp ∧ (∀ x ∈ z.2.2.1.kn,(x.1.den z.2.1).bool=x.2) ∧ (K z.1.2 (r.leftS z.2.2.1)).den P post z.2.2.2 z.2.1)
  (HP.sep (hden z.2.1 z.2.2.1.h) (HP.one l (.loop { rec0 with state := .done,pending:=some z.1.1 })))
 have hround : ∀ g args,(∃ g',may g args g') → VTri P (.func (.yield l) #[] #[]) args (HP.sep (Pr g args) (HP.sep (Sh g) (Kx g))) (RndPost Sh Kx Jx (may g args)):=fun gg args hmay=>by
  refine .inr ⟨l,rfl,fun wr Rr hr0 Fr' satr hpre => ?_⟩
  obtain ⟨ha,hb0,dab,la,lb,hPr,hSK⟩:=hpre
  obtain ⟨ys,hso,hI,hH⟩:=ofK gg Rr hb0 hSK
  have hrr:=allP_elim (hrnd gg args hmay) hso
  rw [show ρ ++ [Uni.n w.heap.size]=ρ1 from rfl,List.drop_left] at hrr
  obtain ⟨zs,hzl,hargs,hent,hden2⟩:=exP_elim (hrr hI)
  obtain ⟨R2,h2,q1,q2,q3,q4,hS⟩:=hent.sep (HP.sep (hden (ρ1 ++ ys) r.hd.s.h) (HP.one l (.loop rec0))) Rr hr0 satr.dRh ⟨ha,hb0,dab,la,lb,hPr,hH⟩
  have satr2:=satr.ent q1 q2 q3 q4
  obtain ⟨hx,hlr,dx,lx,llr,hPH,hone⟩:=HP.sep_assoc' hS
  have sat3:=satr2.cut dx lx llr
  have hdjF:hlr.dj Fr':=satr2.dhF.le llr (PH.le.refl _)
  have hone':hlr l=some (.loop rec0):=hone
  have hFl:(hlr.un Fr') l=some (.loop rec0):=PH.un_left _ _ _ _ hone'
  have hFr'l:Fr' l=none:=(hdjF l).resolve_left (by rw [hone']; simp)
  have hleF:Fr'.le (hlr.un Fr'):=PH.un_right hdjF
  have hheap:wr.heap[l]? = some (.loop rec0):=sat3.oF _ _ hFl
  have hsz:args.size=rec0.params.size:=by
   rw [hargs]; simp [rec0,hpl]
  refine ⟨_,_,_,_,run_yield hheap hsz,?_⟩
  refine roundIn_of_wpIn trivial ?_
  have hys:(ρ1 ++ ys).length=r.hd.s.n:=by
   rw [List.length_append,hρ1,sorted_len hso,(okS_so hokS ρ1).2.2,hrn]
  have hbs:=hsb
  simp only [S.bel,Bool.and_eq_true] at hbs
  have okh:Ok (ρ1 ++ ys) r.hd.s { tmps:=a.tmps,defers:=[] } wr wr R2 hx (hlr.un Fr'):=by
   have tmb:(s.t.all fun | some v=>v.bel ρ.length | none=>true)=true:=by rw [ok.len]; exact hbs.1.1.1
   refine ⟨by rw [edf]; rfl,?_,hys,fun x hx => ?_,?_,sat3,Same.refl _⟩
   ·rw [et]
    have:=ok.tm.app tmb ([.n d] ++ ys)
    rw [← List.append_assoc] at this
    exact ⟨this.1,this.2⟩
   ·rw [ek] at hx
    have hb:=List.all_eq_true.1 hbs.2 x hx
    rw [← ok.len] at hb
    have:(x.1.den (ρ ++ ([.n d] ++ ys))).bool=x.2:=by rw [E.app hb]; exact ok.kn x hx
    rwa [← List.append_assoc] at this
   ·exact HP.sep_right hPH
  have okz:=okh.app hhbel zs r.pn (hpn.trans (by rw [hzl]))
  have okr:Ok (ρ1 ++ ys ++ zs) (r.round ps.toList) { tmps:=(rec0.params.zip args).foldl (fun tmps x=>tmps.setIfInBounds x.1 x.2) rec0.tmps,defers:=[] } wr wr R2 hx (hlr.un Fr'):=by
   refine ⟨okz.dfr,?_,okz.len,okz.kn,?_,sat3,Same.refl _⟩
   ·rw [hargs,zip_args]
    exact Tm.sets (ps.toList.zip r.pvs) okz.tm
   ·refine hden_app2.2 (HP.sep_mono hPH (fun _ h=>h) fun y hy => ?_)
    have hb:=hhbel
    simp only [S.bel,Bool.and_eq_true] at hb
    have hb2:hbel (ρ1 ++ ys).length r.hd.s.h=true:=by rw [hys]; exact hb.1.1.2
    rw [hden_app hb2]; exact hy
  refine wpIn_mono (iha (Fr:=Fence.wide.inRound l) (.inr ⟨l,rfl⟩) (rd:=true) (fun h=>by cases h) okr (by show _=r.hd.s.dp; rw [ed,List.length_cons,hl]) hden2) fun e a1 w3 rr => ?_
  cases e with
  | normal =>
   obtain ⟨ρ3,s3,R3,h3,L3,p1,p2,p3,p4,p5,p6⟩:=rr
   simp only at p1 p2 p3 p4 p5 p6
   refine ⟨_,run_beginRound (p5.sat.oF _ _ hFl) rfl,?_⟩
   have sat4:=p5.sat.turnF hFl (.loop { rec0 with state := .busy })
   have ok4:Ok ρ3 s3 a1 wr (w3.putObj l (.loop { rec0 with state := .busy })) R3 h3 _:=⟨p5.dfr,p5.tm,p5.len,p5.kn,p5.hp,sat4,p5.same.trans (Same.putObj _ _ _)⟩
   have hF4 : ∀ y:Obj,(fun k=>if k=l then some y else (hlr.un Fr') k) l=some y:=fun y=>if_pos rfl
   have hle4 : ∀ y:Obj,Fr'.le (fun k=>if k=l then some y else (hlr.un Fr') k):=fun y k o e=>by
    by_cases ek:k=l
    ·subst ek; rw [hFr'l] at e; cases e
    ·simp only [ek,if_false]; exact hleF k o e
   refine wpIn_mono (ihb (Fr:=Fence.wide.inRound l) (.inr ⟨l,rfl⟩) (rd:=true) (fun h=>by cases h) ok4 p4 p6) fun e a2 w5 rr => ?_
   have back : ∀ {ρ5 s5 R5 h5},Ok ρ5 s5 a2 wr w5 R5 h5 (fun k=>if k=l then some (.loop { rec0 with state := .busy }) else (hlr.un Fr') k) → ∀ y:Obj,Sat (w5.putObj l y) R5 (h5.un (PH.one l y)) Fr' ∧ h5.dj (PH.one l y):=fun ok5 y=>by
    have:=ok5.sat.turnF (hF4 _) y
    refine this.unframe (if_pos rfl) (fun k o e => ?_) hFr'l
    by_cases ek:k=l
    ·subst ek; rw [hFr'l] at e; cases e
    ·simp only [ek,if_false]; exact hleF k o e
   cases e with
   | normal =>
    obtain ⟨ρ5,s5,R5,h5,L5,q1',q2',q3',q4',q5',q6'⟩:=rr
    simp only at q1' q2' q3' q4' q5' q6'
    split at q6'
    ·rename_i hc2
     refine ⟨_,_,run_endRound none (q5'.sat.oF _ _ (hF4 _)),?_⟩
     obtain ⟨sat6,d6⟩:=back q5' (.loop { ({ rec0 with state := .busy }:Loop) with state:=if (none:Option Code).isNone then .ready else .done,pending:=none })
     refine ⟨_,rfl,q5'.same.trans (Same.putObj _ _ _),R5,_,q1.trans (p2.trans q2'),sat6,?_⟩
     obtain ⟨pre,hpre⟩:=p3.trans q3'
     have hlen:s5.dp - r.hd.s.dp=pre.length:=by
      have:L5.length=pre.length + (L.length + 1):=by rw [← hpre]; simp
      rw [ed]; omega
     have hget:L5[s5.dp - r.hd.s.dp]? = some (fun ys => ∃ g',may gg args g' ∧ Cur.app r.hd.ss (I g') ys):=by
      rw [hlen,← hpre,List.getElem?_append_right (Nat.le_refl _),Nat.sub_self]; rfl
     simp only [T.den,hget] at q6'
     obtain ⟨g',hmay',hI'⟩:=q6'
     have p15:ρ1 <+: ρ5:=List.IsPrefix.trans (show ρ1 <+: ρ1 ++ ys ++ zs from ⟨ys ++ zs,(List.append_assoc ..).symm⟩) (p1.trans q1')
     refine ⟨true,rfl,g',hmay',toK g' _ _ _ (okS_so hc2 ρ5).1 hI' ⟨h5,PH.one l _,d6,PH.un_left _ _,PH.un_right d6,?_,?_⟩⟩
     ·exact okS_hp (hρ1.trans hrn.symm) hc2 p15 q5'.hp
     ·exact PH.one_self _ _
    ·exact q6'.1.elim
   | ret =>
    obtain ⟨ρ5,s5,R5,h5,L5,q1',q2',q3',q4',q5',q6'⟩:=rr
    simp only at q1' q2' q3' q4' q5' q6'
    refine ⟨_,_,run_endRound (some .ret) (q5'.sat.oF _ _ (hF4 _)),?_⟩
    obtain ⟨sat6,d6⟩:=back q5' (.loop { ({ rec0 with state := .busy }:Loop) with state:=if (some Code.ret:Option Code).isNone then .ready else .done,pending:=some .ret })
    have p15:ρ1 <+: ρ5:=List.IsPrefix.trans (show ρ1 <+: ρ1 ++ ys ++ zs from ⟨ys ++ zs,(List.append_assoc ..).symm⟩) (p1.trans q1')
    refine ⟨_,rfl,q5'.same.trans (Same.putObj _ _ _),R5,_,q1.trans (p2.trans q2'),sat6,false,rfl,((.ret,.ret),ρ5,s5,L5),⟨.inl rfl,p15,q5'.len,(List.suffix_cons _ _).trans (p3.trans q3'),q4',q5'.kn,q6'⟩,h5,PH.one l _,d6,PH.un_left _ _,PH.un_right d6,q5'.hp,PH.one_self _ _⟩
   | exit id =>
    obtain ⟨ρ5,s5,R5,h5,L5,q1',q2',q3',q4',q5',q6'⟩:=rr
    simp only at q1' q2' q3' q4' q5' q6'
    refine ⟨_,_,run_endRound (some (.exit id)) (q5'.sat.oF _ _ (hF4 _)),?_⟩
    obtain ⟨sat6,d6⟩:=back q5' (.loop { ({ rec0 with state := .busy }:Loop) with state:=if (some (Code.exit id):Option Code).isNone then .ready else .done,pending:=some (.exit id) })
    have p15:ρ1 <+: ρ5:=List.IsPrefix.trans (show ρ1 <+: ρ1 ++ ys ++ zs from ⟨ys ++ zs,(List.append_assoc ..).symm⟩) (p1.trans q1')
    refine ⟨_,rfl,q5'.same.trans (Same.putObj _ _ _),R5,_,q1.trans (p2.trans q2'),sat6,false,rfl,((.exit id,.exit id),ρ5,s5,L5),⟨.inr ⟨id,rfl⟩,p15,q5'.len,(List.suffix_cons _ _).trans (p3.trans q3'),q4',q5'.kn,q6'⟩,h5,PH.one l _,d6,PH.un_left _ _,PH.un_right d6,q5'.hp,PH.one_self _ _⟩
   | goto t=>exact rr.elim
   | panic c=>exact rr.elim
   | outgrown=>exact rr.elim
  | ret=>obtain ⟨ρ3,s3,R3,h3,L3,p1,p2,p3,p4,p5,p6⟩:=rr; exact p6.elim
  | exit id=>obtain ⟨ρ3,s3,R3,h3,L3,p1,p2,p3,p4,p5,p6⟩:=rr; exact p6.elim
  | goto t=>exact rr.elim
  | panic c=>exact rr.elim
  | outgrown=>exact rr.elim
 -- the call
 have hpre:(HP.sep (hden ρ1 r.c) (HP.sep (Sh g0) (Kx g0))).p R ((PH.one l (.loop rec0)).un ((PH.one d (.deferred (some []))).un h)):=by
  have H0:(HP.sep (HP.one l (.loop rec0)) (HP.sep (hden ρ1 r.c) (hden ρ1 r.rest))).p R ((PH.one l (.loop rec0)).un ((PH.one d (.deferred (some []))).un h)) :=
   ⟨PH.one l _,_,dl,PH.un_left _ _,PH.un_right dl,PH.one_self _ _,hcut⟩
  refine HP.sep_mono (HP.sep_assoc (HP.sep_comm H0)) (fun _ h=>h) fun y hy => ?_
  exact toK g0 (r.fr.map (FV.den ρ1)) R y (okS_so hokS ρ1).1 hI0 (HP.sep_mono hy (fun _ h=>okS_hp (s:=r.start) (hρ1.trans hrn.symm) hokS (List.prefix_refl _) h) fun _ h=>h)
 have hfn:=hfgo
 obtain ⟨fnn,hfn1,hfn2,hfn3⟩:=hfn
 refine ⟨l,[{ target := .collected d,args := #[] }],w1,{ target := .fn (.func f) caps,args := #[.func (.yield l) #[] #[]] },w1,f,#[.func (.yield l) #[] #[]] ++ caps,w1,?_,?_,fun _ _=>trivial,?_,wfw.dep,?_⟩
 ·exact run_enterLoop_outer fn a.tmps ps asg b
 ·have hgd:a.eval g = .func (.func f) #[] caps:=by
   rw [evA_den ok.tm hgv]
   rw [← ok.len] at hgb
   rw [← A.app hgb [.n d]]
   exact hgval
  simp only [resolve,rangeCall,hgd,Sem.run_bind,Deferred.ofValue,Sem.run_pure,Result.andThen_ok]
  simp [Act.eval]
 ·simp only [invoke,callFunc,program,Sem.run_bind,Sem.run,Result.andThen_ok,hfn1,hfn3,hfn2,Bool.false_eq_true,if_false]
  rfl
 refine wfw.calls ((htri l Kx Jx hround w1 R _ F sl hpre).mono fun e w' ⟨v,he,sm,R',h',lR,sat',hpost⟩ => ?_)
 subst he
 have same':Same w0 w':=ok.same.trans ((Same.alloc w _).trans ((Same.alloc _ _).trans sm))
 have hdfr : ∀ x:Env,({ a with defers:=[({ target := .collected d,args := #[] }:Deferred)] ++ a.defers }:Act).defers=r.s1.df.map (markOf (ρ1 ++ x)):=fun x=>by
  rw [es1]
  simp only [List.map_cons,List.cons_append,List.nil_append]
  have e1:markOf (ρ1 ++ x) (.v s.n)={ target := .collected d,args := #[] }:=by
   simp only [markOf,BR.den,ρ1,List.append_assoc,List.cons_append,List.nil_append]
   rw [← ok.len,look_at]; rfl
  rw [e1,k1.dfr]
  congr 1
  have hb:=hsb
  simp only [S.bel,Bool.and_eq_true] at hb
  exact List.map_congr_left fun q hq=>by
   have:=List.all_eq_true.1 hb.1.2 q hq
   rw [← ok.len] at this
   unfold markOf
   simp only [ρ1,List.append_assoc]
   rw [BR.app this,BR.app this]
 have htm : ∀ x:Env,Tm (ρ1 ++ x) s.t { a with defers:=[({ target := .collected d,args := #[] }:Deferred)] ++ a.defers }:=fun x=>by
  have hb:=hsb
  simp only [S.bel,Bool.and_eq_true] at hb
  have tmb:(s.t.all fun | some v=>v.bel ρ.length | none=>true)=true:=by rw [ok.len]; exact hb.1.1.1
  have:=ok.tm.app tmb ([.n d] ++ x)
  rw [← List.append_assoc] at this
  exact ⟨this.1,this.2⟩
 have hcb : ∀ x:Env,hden (ρ1 ++ x) r.c=hden ρ1 r.c:=fun x=>hden_app (by rw [hρ1,← hrn]; exact hcb0) x
 obtain ⟨hc,hs,dcs,lc,ls,hC,o,ho⟩:=hpost
 -- the record is let go
 have drop : ∀ {A:HP} {o2:Loop} {R2},(HP.sep A (HP.one l (.loop o2))).p R' hs → R2=R' → ∀ y,∃ hA,A.p R' hA ∧ w'.heap[l]? = some (.loop o2) ∧ Sat (w'.putObj l y) R' (hc.un hA) F ∧ hc.dj hA:=fun H _ y=>by
  obtain ⟨hA,hL,dA,lA,lL,pA,pL⟩:=H
  have hLl:hL l=some (.loop _):=pL
  have hin:h' l=some (.loop _):=ls _ _ (lL _ _ hLl)
  have hcl:hc l=none:=(dcs l).resolve_right (by rw [lL _ _ hLl]; simp)
  have hAl:hA l=none:=(dA l).resolve_right (by rw [hLl]; simp)
  have heap:=sat'.oh _ _ hin
  refine ⟨hA,pA,heap,?_,dcs.le (PH.le.refl _) lA⟩
  have t:=sat'.turn (w':=w'.putObj l y) (y:=y) hin (fun k hk=>World.putObj_heap_other hk) (World.putObj_heap_same (sat'.oh.lt hin))
  have le:(hc.un hA).le (fun k=>if k=l then some y else h' k):=fun k o e=>by
   by_cases ek:k=l
   ·subst ek
    rcases PH.un_some e with e | e
    ·rw [hcl] at e; cases e
    ·rw [hAl] at e; cases e
   ·simp only [ek,if_false]
    rcases PH.un_some e with e | e
    ·exact lc _ _ e
    ·exact ls _ _ (lA _ _ e)
  exact ⟨t.dRh.le (PH.le.refl _) le,t.dRF,t.dhF.le le (PH.le.refl _),t.oR,t.oh.le le,t.oF,t.gl⟩
 cases o with
 | some gg =>
  obtain ⟨hf,hSK⟩:=ho
  obtain ⟨ys,hso,hI,hH⟩:=ofK gg R' hs hSK
  obtain ⟨hA,pA,heap,sat2,dA⟩:=drop hH rfl (.loop { rec0 with state := .exhausted })
  refine ⟨none,_,run_endLoop heap (by simp [rec0]),?_⟩
  have hden3:=allP_elim (hfin gg hf) hso
  rw [show ρ ++ [Uni.n w.heap.size]=ρ1 from rfl,List.drop_left] at hden3
  have hys:(ρ1 ++ ys).length=r.hd.s.n:=by
   rw [List.length_append,hρ1,sorted_len hso,(okS_so hokS ρ1).2.2,hrn]
  refine ⟨ρ1 ++ ys,r.doneS s,R',_,L,(List.prefix_append ρ _).trans (List.prefix_append _ _),lR,List.suffix_refl _,hl,⟨hdfr ys,by show Tm _ r.hd.s.t _; rw [et]; exact htm ys,hys,fun x hx => ?_,?_,sat2,same'.trans (Same.putObj _ _ _)⟩,hden3 hI⟩
  ·have hx':x ∈ s.kn:=by rw [← ek]; exact hx
   have hb:=hsb
   simp only [S.bel,Bool.and_eq_true] at hb
   have hb:=List.all_eq_true.1 hb.2 x hx'
   rw [← ok.len] at hb
   simp only [ρ1,List.append_assoc]
   rw [E.app hb]; exact ok.kn x hx'
  ·refine hden_app2.2 ⟨hc,hA,dA,PH.un_left _ _,PH.un_right dA,?_,pA⟩
   rw [hcb]; exact hC
 | none =>
  obtain ⟨⟨⟨code,x⟩,ρ5,s5,L5⟩,⟨hj,p15,q5len,q3,q4,q5kn,q6⟩,hH⟩:=ho
  simp only at hj p15 q5len q3 q4 q5kn q6 hH
  obtain ⟨hA,pA,heap,sat2,dA⟩:=drop hH rfl (.loop { rec0 with state := .exhausted,pending:=some code })
  refine ⟨some code,_,run_endLoop heap (by simp [rec0]),?_⟩
  obtain ⟨z5,hz5⟩:=p15
  have okl:Ok ρ5 (r.leftS s5) { a with defers:=[({ target := .collected d,args := #[] }:Deferred)] ++ a.defers } w0 (w'.putObj l (.loop { rec0 with state := .exhausted,pending:=some code })) R' (hc.un hA) F:=by
   refine ⟨by rw [← hz5]; exact hdfr z5,by show Tm ρ5 r.s1.t _; rw [es1,← hz5]; exact htm z5,q5len,q5kn,hden_app2.2 ⟨hc,hA,dA,PH.un_left _ _,PH.un_right dA,by rw [← hz5,hcb]; exact hC,pA⟩,sat2,same'.trans (Same.putObj _ _ _)⟩
  rcases hj with ⟨⟨⟩⟩ | ⟨id,⟨⟨⟩⟩⟩
  ·exact wpIn_ret ⟨ρ5,r.leftS s5,R',_,L5,(List.prefix_append ρ _).trans ⟨z5,hz5⟩,lR,q3,q4,okl,q6⟩
  ·exact wpIn_exit ⟨ρ5,r.leftS s5,R',_,L5,(List.prefix_append ρ _).trans ⟨z5,hz5⟩,lR,q3,q4,okl,q6⟩
theorem joinQ_ok {k:Nat × Nat} {run:S → (S → T) → T} {K:S → T} {ρ:Env} {s:S} {a:Act} {w:World} {R h:PH} {L:List (Env → Prop)} {G:Prop} (ok:Ok ρ s a w0 w R h F) (hl:L.length=s.dp)
  (hrun : ∀ (dp:Nat) (L':List (Env → Prop)) (K':S → T),L'.length=dp → (run { s with dp:=dp } K').den P post L' ρ → (∀ a w,Nx ⟨P,post,w0,F,ρ,R,L'⟩ K' a w → Nx ⟨P,post,w0,F,ρ,R,L⟩ K a w) → G)
  (hd:(joinQ cfg k s run K).den P post L ρ):G:=by
 unfold joinQ at hd
 split at hd
 ·rename_i j hj
  obtain ⟨I,hreg,hk⟩:=hd
  refine hrun (s.dp + 1) _ _ (by simp [hl]) hreg fun a' w' nx => ?_
  obtain ⟨ρ',s',R',h',L',p1,p2,p3,p4,p5,p6⟩:=nx
  dsimp only at p1 p2 p3 p4 p5 p6
  split at p6
  ·exact p6.1.elim
  ·rename_i hask
   rw [if_neg hask] at hk
   split at p6
   ·rename_i hc
    obtain ⟨pre,rfl⟩:=p3
    rw [List.length_append,List.length_cons] at p4
    have hd':s'.dp - (s.dp + 1)=pre.length:=by omega
    simp only [T.den,hd',List.getElem?_append_right (Nat.le_refl _),Nat.sub_self,List.getElem?_cons_zero] at p6
    have hso:=(okS_so hc ρ').1
    have hkk:=allP_elim hk hso
    rw [List.drop_left] at hkk
    have hokS:=okS_ok ok.len hc p1 p5 (fun x hx=>ok.kn x hx)
    exact ⟨_,j.toS s,R',h',L,List.prefix_append ρ _,p2,List.suffix_refl _,hl,hokS,hkk p6⟩
   ·exact p6.1.elim
 ·exact hrun s.dp L K hl hd fun _ _ n=>n
theorem stepR_scope {P:Program} {b:Frame} {a:Act} {k:List Item} {cs:List Frame} {w:World} {c:Code}:step P (lone (b.atR a (.code (.scope c) :: k)) cs w) = .next (lone (b.atR a (.code c :: .inScope c :: k)) cs w) :=
 step_lone_go (by simp [stepG,stepG.exec,Frame.atR])
theorem stepR_inScope {P:Program} {b:Frame} {a:Act} {k:List Item} {cs:List Frame} {w:World} {c:Code}:step P (lone (b.atR a (.inScope c :: k)) cs w) = .next (lone (b.atR a k) cs w) :=
 step_lone_go (by simp [stepG,stepG.exec,Frame.atR])
theorem wpIn_scope {P:Program} {F:Fence} {n:Nat} {Q:Exit → Act → World → Prop} {a:Act} {w:World} {c:Code} (h:c.wpIn F n P (fun e a w=>match e with | .goto _=>False | e=>Q e a w) a w):(Code.scope c).wpIn F n P Q a w:=by
 intro b k cs hro hb hr
 have h0:(lone (b.atR a (.code (.scope c) :: k)) cs w).fenced P F:=fenced_calm hb hr rfl
 obtain ⟨e,a₁,w₁,hq,harr⟩:=h b (.inScope c :: k) cs hro hb hr
 cases e with
 | normal=>exact ⟨.normal,a₁,w₁,hq,.head h0 stepR_scope (StepsIn.trans harr (.one (fenced_calm hb hr rfl) stepR_inScope))⟩
 | exit id =>
  have hx:exitTo id (.inScope c :: k)=exitTo id k:=by simp [exitTo]
  exact ⟨.exit id,a₁,w₁,hq,fun k' hk => .head h0 stepR_scope (harr.1 k' (by rw [hx]; exact hk)),
   fun hr' hk=>let ⟨k₁,h1,h2⟩:=harr.2 hr' (by rw [hx]; exact hk); ⟨k₁,h1,.head h0 stepR_scope h2⟩⟩
 | goto l=>exact hq.elim
 | ret=>exact ⟨_,a₁,w₁,hq,.of_steps (.one h0 stepR_scope) harr⟩
 | panic ch=>exact ⟨_,a₁,w₁,hq,.of_steps (.one h0 stepR_scope) harr⟩
 | outgrown=>exact ⟨_,a₁,w₁,hq,.of_steps (.one h0 stepR_scope) harr⟩
theorem exec_ok (hm:P.follows .mixedOrders=true) : ∀ (c:Code),IH P cfg post c:=by
 intro c
 induction c with
 | skip=>intro Fr wf rd hrd w0 F K ρ s a w R h L ok hl hd; exact wpIn_skip (Nx.mk ok hl hd)
 | exit id=>intro Fr wf rd hrd w0 F K ρ s a w R h L ok hl hd; exact wpIn_exit (Nx.mk ok hl hd)
 | ret=>intro Fr wf rd hrd w0 F K ρ s a w R h L ok hl hd; exact wpIn_ret (Nx.mk ok hl hd)
 | region id ops draw =>
  intro Fr wf rd hrd w0 F K ρ s a w R h L ok hl hd
  cases draw with
  | false =>
   simp only [exec] at hd
   split at hd
   ·rename_i hc
    exact wpIn_region_list (runL_ok wf (K:=fun s=>K .norm s) ops.toList (fun o ho=>Array.all_eq_true_iff_forall_mem.1 hc o (by simpa using ho)) ok hl hd fun a w n=>n)
   ·exact hd.elim
  | true =>
   simp only [exec] at hd
   split at hd
   ·rename_i hc
    simp only [Bool.and_eq_true] at hc
    have ok':Ok ρ s a w0 { w with drawn:=w.drawn + 1 } R h F:=⟨ok.dfr,ok.tm,ok.len,ok.kn,ok.hp,ok.sat.drew _,ok.same.trans (Same.drew w _)⟩
    refine joinQ_ok ok' hl (fun dp L' K' hl' hd' hK => ?_) hd
    have ok2:Ok ρ { s with dp:=dp } a w0 { w with drawn:=w.drawn + 1 } R h F:=⟨ok'.dfr,ok'.tm,ok'.len,ok'.kn,ok'.hp,ok'.sat,ok'.same⟩
    exact wpIn_region_any hm (wpAny_in wf (fun o ho=>Array.all_eq_true_iff_forall_mem.1 hc.2 o ho) (fun a w h=>h) _ _ _ _ (wpAnyL_any _ _ _ _ (runD_ok (K:=K') (ρ0:=ρ) (s:={ s with dp:=dp }) hc.1.1.1 (by rw [ok.len]; exact hc.1.1.2) hc.1.2 (fun c a w h=>h) ops.size (List.prefix_refl _) (fun x hx=>(List.mem_filter.1 hx).1) ok2 hl' hd' fun a w n=>hK a w n)))
   ·exact hd.elim
 | seq x y ihx ihy =>
  intro Fr wf rd hrd w0 F K ρ s a w R h L ok hl hd
  refine wpIn_seq (wpIn_mono (ihx wf hrd ok hl hd) fun e a' w' r => ?_)
  cases e <;> try (first | exact r | exact r.elim)
  obtain ⟨ρ',s',R',h',L',p1,p2,p3,p4,p5,p6⟩:=r
  exact wpIn_mono (ihy wf hrd p5 p4 p6) fun e a'' w'' r=>r.up p1 p2 p3
 | cond c x y ihx ihy =>
  intro Fr wf rd hrd w0 F K ρ s a w R h L ok hl hd
  simp only [exec] at hd
  split at hd
  ·rename_i e he
   obtain ⟨kn,ok',hh⟩:=brE_ok ok hd
   have hc:=evA_den ok.tm he
   refine wpIn_cond (t:=(e.den ρ).bool) hc ?_
   rcases hh with ⟨hb,hh⟩ | ⟨hb,hh⟩
   ·rw [hb]; exact ihx wf hrd ok' hl hh
   ·rw [hb]; exact ihy wf hrd ok' hl hh
  ·exact hd.elim
 | label l=>intro Fr wf rd hrd w0 F K ρ s a w R h L ok hl hd; exact wpIn_label (Nx.mk ok hl hd)
 | scope b ih =>
  intro Fr wf rd hrd w0 F K ρ s a w R h L ok hl hd
  refine wpIn_scope (wpIn_mono (ih wf hrd ok hl hd) fun e a' w' r => ?_)
  cases e <;> first | exact r | exact r.elim
 | block id b ih =>
  intro Fr wf rd hrd w0 F K ρ s a w R h L ok hl hd
  have ok':Ok ρ { s with blk:=id } a w0 w R h F:=⟨ok.dfr,ok.tm,ok.len,ok.kn,ok.hp,ok.sat,ok.same⟩
  refine wpIn_block (wpIn_mono (ih wf hrd ok' hl hd) fun e a' w' r => ?_)
  cases e <;> try (first | exact r | exact r.elim)
  rename_i i
  obtain ⟨ρ',s',R',h',L',p1,p2,p3,p4,p5,p6⟩:=r
  simp only [Exit.inBlock]
  simp only at p6
  split at p6
  ·rename_i hi
   rw [if_pos hi]
   exact ⟨ρ',s',R',h',L',p1,p2,p3,p4,p5,p6⟩
  ·rename_i hi
   rw [if_neg hi]
   exact ⟨ρ',s',R',h',L',p1,p2,p3,p4,p5,p6⟩
 | loop b ih =>
  intro Fr wf rd hrd w0 F K ρ s a w R h L ok hl hd
  simp only [exec] at hd
  split at hd
  ·rename_i hc
   simp only [Bool.and_eq_true,decide_eq_true_eq,Nat.blt_eq] at hc
   obtain ⟨⟨⟨hc,hbel⟩,hkn0⟩,hdp⟩:=hc
   obtain ⟨I,μ,hI0,hall⟩:=hd
   have hss:sorted (headOf cfg b s).ss ((fitS s.n (headOf cfg b s).s s).map (FV.den ρ)):=(okS_so hc ρ).1
   have hkn : ∀ x ∈ (headOf cfg b s).s.kn,(x.1.den ρ).bool=x.2:=by rw [hkn0]; exact ok.kn
   refine wpIn_loop_num (fun n a w => ∃ xs R' h',R.le R' ∧ sorted (headOf cfg b s).ss xs ∧ Cur.app _ I xs ∧ Cur.app _ μ xs=n ∧ Ok (ρ ++ xs) (headOf cfg b s).s a w0 w R' h' F) ?_ _ a w
    ⟨_,R,h,PH.le.refl _,hss,hI0,rfl,okS_ok ok.len hc (List.prefix_refl _) ok hkn⟩
   rintro n a w ⟨xs,R',h',lR,hso,hI,rfl,ok1⟩
   have hb:=allP_elim hall hso
   rw [List.drop_left] at hb
   have hb:=hb hI
   refine wpIn_mono (ih wf hrd ok1 (by simp [hdp,hl]) hb) fun e a' w' r => ?_
   cases e <;> try (first | exact Nx.up (List.prefix_append ρ xs) lR (List.suffix_cons _ _) r | exact r.elim)
   obtain ⟨ρ',s',R'',h'',L',p1,p2,p3,p4,p5,p6⟩:=r
   simp only at p6
   split at p6
   ·rename_i hc2
    have p1':=(List.prefix_append ρ xs).trans p1
    have hso2:sorted (headOf cfg b s).ss ((fitS s.n (headOf cfg b s).s s').map (FV.den ρ')):=(okS_so hc2 ρ').1
    obtain ⟨pre,rfl⟩:=p3
    simp only at p4 p6
    rw [List.length_append,List.length_cons] at p4
    have hd':s'.dp - (headOf cfg b s).s.dp=pre.length:=by rw [hdp]; omega
    simp only [T.den,hd',List.getElem?_append_right (Nat.le_refl _),Nat.sub_self,List.getElem?_cons_zero] at p6
    exact ⟨_,p6.2,(fitS s.n (headOf cfg b s).s s').map (FV.den ρ'),R'',h'',lR.trans p2,hso2,p6.1,rfl,okS_ok ok.len hc2 p1' p5 hkn⟩
   ·exact p6.1.elim
  ·exact hd.elim
 | rangeFunc g ps asg b iha ihb =>
  intro Fr wf rd hrd w0 F K ρ s a w R h L ok hl hd
  simp only [exec] at hd
  split at hd
  ·exact hd.elim
  rename_i gv hgv
  split at hd
  ·rename_i hok
   have hf:rd=false:=by cases rd with | false=>rfl | true=>simp [Rg.ok] at hok
   subst hf
   rw [hrd rfl]
   exact range_ok iha ihb ok hl hgv hok hd
  ·exact hd.1.elim
 | _=>intro Fr wf rd hrd w0 F K ρ s a w R h L ok hl hd; exact hd.elim
def resSem (tmps:Array Value):ResultVar → Sem Value
 | .tmp t=>pure (tmps.getD t undef)
 | .cell a t=>do loadVar t (← asAddr (tmps.getD a undef))
theorem resOf_run {ρ:Env} {s:S} {a:Act} {w:World} {R h:PH} (ok:Ok ρ s a w0 w R h F) {r:ResultVar} {x:W} (e:resOf P s r=some x):(resSem a.tmps r).run P w = .ok (x.den ρ) w:=by
 cases r with
 | tmp t =>
  simp only [resOf] at e
  split at e
  ·rename_i y hy
   cases e
   have:=ev_den ok.tm hy
   simp only [Act.eval] at this
   simp only [resSem,this,Sem.run_pure,V.den]
  ·cases e
 | cell ad t =>
  simp only [resOf] at e
  split at e
  ·rename_i r off hx
   split at e
   ·rename_i l ty hf
    have:=evA_den ok.tm hx
    simp only [Act.eval] at this
    have h1:=run_loadAt (P:=P) ok.sat (cden_cells (hden_mem (findC_mem hf) ok.hp)) e
    simp only [Instr.loadAt,Instr.sureAddr,Sem.run_bind,Sem.run_pure,Result.andThen_ok] at h1
    simp only [resSem,this,A.den,asAddr,Sem.run_bind,Sem.run_pure,Result.andThen_ok,h1]
   ·cases e
  ·cases e
theorem run_mapM_res {ρ:Env} {s:S} {a:Act} {w:World} {R h:PH} (ok:Ok ρ s a w0 w R h F) : ∀ {l:List ResultVar} {m:List W},mapM' (resOf P s) l=some m →
  (l.mapM (resSem a.tmps)).run P w = .ok (m.map (W.den ρ)) w
 | [],m,e=>by cases e; rfl
 | x :: r,m,e=>by
  simp only [mapM'] at e
  split at e
  ·rename_i y hy
   split at e
   ·rename_i q hq
    cases e
    rw [List.mapM_cons,Sem.run_bind,resOf_run ok hy]
    simp only [Result.andThen_ok,Sem.run_bind,run_mapM_res ok hq,Sem.run_pure,List.map_cons]
   ·cases e
  ·cases e
theorem results_eq (fn:Func) (tmps:Array Value):results fn tmps=(do
  let vs ← fn.results.mapM (resSem tmps)
  pure (if h:vs.size=1 then vs[0] else .tuple vs)):=by
 unfold results
 congr 1
theorem leave_ok {fn:Func} {ρ:Env} {s:S} {a:Act} {w:World} {R h:PH} {L:List (Env → Prop)} (ok:Ok ρ s a w0 w R h F) {ks:List Key} (hd:(leave P fn ks s).den P post L ρ) :
  ∃ v,(results fn a.tmps).run P w = .ok v w ∧ HP.ent (hden ρ s.h) (post v):=by
 have hlv : ∀ v:V,(leaveV v ks s).den P post L ρ → HP.ent (hden ρ s.h) (post (v.den ρ)):=fun v hv=>by
  unfold leaveV at hv
  simp only at hv
  split at hv
  ·rename_i hc
   exact (HP.ent.of fun _ _ H=>subH_den hc H).trans hv
  ·exact hv.elim
 unfold leave at hd
 have hres : ∀ m,mapM' (resOf P s) fn.results.toList=some m → (results fn a.tmps).run P w = .ok (if h:(m.map (W.den ρ)).toArray.size=1 then (m.map (W.den ρ)).toArray[0] else .tuple (m.map (W.den ρ)).toArray) w:=fun m hm=>by
  have h1:=run_mapM_res (P:=P) ok hm
  rw [results_eq,Array.mapM_eq_mapM_toList,Sem.run_bind]
  have h2:(List.toArray <$> List.mapM (resSem a.tmps) fn.results.toList:Sem (Array Value)).run P w = .ok (m.map (W.den ρ)).toArray w:=by
   show (List.mapM (resSem a.tmps) fn.results.toList >>= fun l=>pure l.toArray:Sem (Array Value)).run P w=_
   rw [Sem.run_bind,h1]; rfl
  rw [h2]
  rfl
 split at hd
 ·rename_i x hm
  exact ⟨_,hres _ hm,hlv _ hd⟩
 ·rename_i m hx hm
  refine ⟨_,hres _ hm,?_⟩
  have hne : ¬ (m.map (W.den ρ)).toArray.size=1:=fun e=>by
   simp only [List.size_toArray,List.length_map] at e
   obtain ⟨y,rfl⟩:=List.length_eq_one_iff.1 e
   exact hx y rfl
  rw [dif_neg hne]
  exact hlv _ hd
 ·exact hd.elim
theorem leaves_marks {fn:Func} {tmps:Array Value} {Rp:Ending → World → Prop} {ρ:Env} {R F:PH} : ∀ (df:List BR) {hp:Hp} {w:World} {h:PH},nodupR df=true → (df.all fun r=>hp.contains (.b r,.dfr))=true → Sat w R h F → (hden ρ hp).p R h →
  (∀ w' h',Same w w' → Sat w' R h' F → (hden ρ (hp.filter fun x => !isDf df x)).p R h' → ∃ v,(results fn tmps).run P w' = .ok v w' ∧ Rp (.returned v) w') → LeavesInM Fence.wide 0 P fn tmps Rp (df.map (markOf ρ)) .returning w
 | [],hp,w,h,_,_,s,p,hf=>by
  obtain ⟨v,h1,h2⟩:=hf w h (Same.refl w) s (by rw [List.filter_eq_self.2 (fun _ _=>by simp [isDf])]; exact p)
  exact ⟨v,h1,h2⟩
 | r :: rest,hp,w,h,hn,ha,s,p,hf=>by
  simp only [nodupR,Bool.and_eq_true,Bool.not_eq_true',List.all_cons] at hn ha
  have hmem:(Key.b r,C.dfr) ∈ hp:=by simpa using ha.1
  obtain ⟨h1,h2,d,l1,l2,p1,p2⟩:=hden_filter (fun x=>decide (x=(Key.b r,C.dfr))) p
  have hc:h1 (r.den ρ)=some (.deferred (some [])):=hden_mem (x:=(Key.b r,C.dfr)) (List.mem_filter.2 ⟨hmem,by simp⟩) p1
  have hh:h (r.den ρ)=some (.deferred (some [])):=l1 _ _ hc
  have h2n:h2 (r.den ρ)=none:=(d _).resolve_left (by rw [hc]; simp)
  have t:=s.turn (w':=w.putObj (r.den ρ) (.deferred none)) (y := .deferred none) hh (fun k hk=>World.putObj_heap_other hk) (World.putObj_heap_same (s.oh.lt hh))
  have le:h2.le (fun k=>if k=r.den ρ then some (.deferred none) else h k):=fun k o e=>by
   by_cases ek:k=r.den ρ
   ·subst ek; rw [h2n] at e; cases e
   ·simp only [ek,if_false]; exact l2 _ _ e
  have s2:Sat (w.putObj (r.den ρ) (.deferred none)) R h2 F:=⟨t.dRh.le (PH.le.refl _) le,t.dRF,t.dhF.le le (PH.le.refl _),t.oR,t.oh.le le,t.oF,t.gl⟩
  refine ⟨by simp,.inl ⟨r.den ρ,_,rfl,run_takeDeferred (s.oh _ _ hh),leaves_marks rest hn.2 ?_ s2 p2 fun w' h' sm s3 p3=>hf w' h' ((Same.putObj _ _ _).trans sm) s3 ?_⟩⟩
  ·refine List.all_eq_true.2 fun q hq => ?_
   have hne:q ≠ r:=fun e=>by subst e; simp at hn; exact hn.1 hq
   have:=List.all_eq_true.1 ha.2 q hq
   simp only [List.contains_eq_mem,decide_eq_true_eq,Nat.blt_eq] at this ⊢
   exact List.mem_filter.2 ⟨this,by simp [hne]⟩
  ·rw [List.filter_filter] at p3
   have e:(fun x => !isDf (r :: rest) x)=fun x:Key × C=>(!isDf rest x && !decide (x=(Key.b r,C.dfr))):=funext fun x=>by
    simp only [isDf,List.any_cons,Bool.not_or,Bool.and_comm]
   rw [e]
   exact p3
theorem tri_of_tree (hm:P.follows .mixedOrders=true) {f:FuncId} {fn:Func} (hf:P.funcs[f]? = some fn) {args:List W} {h0:Hp} {ρ:Env} {t:T} (ht:tree P cfg fn args h0 ρ.length=t) (hd:t.den P post [] ρ) :
  Tri P f (args.map (W.den ρ)).toArray (hden ρ h0) post:=by
 intro w R h F s hp
 subst ht
 unfold tree at hd
 split at hd
 ·rename_i c hc
  refine (callsIn_wide (n:=0)).1 (callsIn_of_wp_marks hf hc trivial ?_)
  have hargs : ∀ (i:Nat) (v:V),(args.map (fun w=>some (V.w w)) ++ List.replicate (fn.ntmps - args.length) (some (V.tup [])))[i]? = some (some v) →
    ((args.map (W.den ρ)).toArray ++ Array.replicate (fn.ntmps - (args.map (W.den ρ)).toArray.size) undef)[i]? = some (v.den ρ):=fun i v hi=>by
   rw [List.getElem?_append] at hi
   rw [Array.getElem?_append]
   simp only [List.length_map,List.size_toArray] at hi ⊢
   split at hi
   ·rename_i hlt
    rw [if_pos hlt]
    simp only [List.getElem?_map,Option.map_eq_some_iff,Option.some.injEq] at hi
    obtain ⟨x,hx,rfl⟩:=hi
    simp [hx,V.den]
   ·rename_i hlt
    rw [if_neg hlt]
    rw [List.getElem?_replicate] at hi
    rw [Array.getElem?_replicate]
    split at hi
    ·rename_i hlt2
     rw [if_pos hlt2]
     simp only [Option.some.injEq] at hi
     subst hi
     rfl
    ·cases hi
  have ok:Ok ρ ⟨args.map (fun w=>some (.w w)) ++ List.replicate (fn.ntmps - args.length) (some (.tup [])),h0,ρ.length,[],[],0,0,[]⟩ { tmps:=(args.map (W.den ρ)).toArray ++ Array.replicate (fn.ntmps - (args.map (W.den ρ)).toArray.size) undef,defers:=[] } w w R h F :=
   ⟨rfl,⟨by simp,hargs⟩,rfl,(fun x hx=>by cases hx),hp,s,Same.refl w⟩
  have fin : ∀ (K:S → T) (a':Act) (w':World),(∀ s,K s=leaveD P fn (h0.map (·.1) ++ outK cfg (h0.map (·.1)) s ++ resK P cfg fn s) s) → Nx ⟨P,post,w,F,ρ,R,[]⟩ K a' w' →
    LeavesInM Fence.wide 0 P fn a'.tmps (fun e w'' => ∃ v,e = .returned v ∧ Same w w'' ∧ ∃ R' h',R.le R' ∧ Sat w'' R' h' F ∧ (post v).p R' h') a'.defers .returning w':=fun K a' w' hK r=>by
   obtain ⟨ρ',s',R',h',L',p1,p2,p3,p4,p5,p6⟩:=r
   simp only at p1 p2 p3 p4 p5 p6
   rw [hK] at p6
   unfold leaveD at p6
   split at p6
   ·rename_i hdf
    simp only [dfOk,Bool.and_eq_true] at hdf
    rw [p5.dfr]
    refine leaves_marks s'.df hdf.1 hdf.2 p5.sat p5.hp fun w'' h'' sm sat p => ?_
    have ok2:Ok ρ' (leaveS s') { a' with defers:=[] } w w'' R' h'' F:=⟨rfl,⟨p5.tm.1,p5.tm.2⟩,p5.len,p5.kn,p,sat,p5.same.trans sm⟩
    obtain ⟨v,hv,he⟩:=leave_ok ok2 p6
    obtain ⟨R2,h2,q1,q2,q3,q4,q5⟩:=he R' h'' sat.dRh p
    exact ⟨v,hv,v,rfl,ok2.same,R2,h2,p2.trans q1,sat.ent q1 q2 q3 q4,q5⟩
   ·exact p6.elim
  refine wpIn_mono (exec_ok hm c (.inl rfl) (rd:=false) (fun _=>rfl) ok rfl hd) fun e a' w' r => ?_
  cases e <;> try exact r.elim
  ·exact fin _ a' w' (fun _=>rfl) r
  ·obtain ⟨ρ',s',R',h',L',p1,p2,p3,p4,p5,p6⟩:=r
   exact p6.elim
  ·exact fin _ a' w' (fun _=>rfl) r
 ·exact hd.elim
end
end Go.Proofs.YtdieogcemmnaaaaGreatDoor.RX

namespace Go.Proofs.YtdieogcemmnaaaaGreatDoor
open Go.Proofs.YtdieogcemmnaaaaGreatDoor RX
theorem mixed:Tryz.prog.follows .mixedOrders=true:=by kernel_rfl
def OwC (e:TypeId) (size:Nat) (a:Option Addr) (n c:Nat) (xs:List Value):HP :=
 ⟨fun _ h=>xs.length=n * size ∧ ((a=none ∧ n=0 ∧ c=0) ∨ ∃ g cur,a=some ⟨g,0,none⟩ ∧ h g=some (.cells cur e (0,0)) ∧ n ≤ c ∧ c ≤ maxLen ∧ cur.size=c * size ∧ cur.toList.take (n * size)=xs),
  fun _ l ⟨h1,h2⟩=>⟨h1,h2.imp id fun ⟨g,cur,h3,h4,h5⟩=>⟨g,cur,h3,l _ _ h4,h5⟩⟩⟩
def RoC (size:Nat) (a:Option Addr) (n:Nat) (xs:List Value):HP :=
 ⟨fun R _=>xs.length=n * size ∧ (n ≠ 0 → ∃ g off cur ty fr,a=some ⟨g,off,none⟩ ∧ R g=some (.cells cur ty fr) ∧ (cur.toList.drop off).take xs.length=xs),
  fun l _ ⟨h1,h2⟩=>⟨h1,fun hn=>let ⟨g,off,cur,ty,fr,h3,h4,h5⟩:=h2 hn; ⟨g,off,cur,ty,fr,h3,l _ _ h4,h5⟩⟩⟩
def Rd (S:HP) (a:Option Addr) (xs:List Value):Prop := ∀ w R h F,Sat w R h F → S.p R h → ∀ (j:Nat) (u:Value),xs[j]? = some u → ∃ g off,a=some ⟨g,off,none⟩ ∧ w.cell? ⟨g,off + j,none⟩=some u
theorem cell_at {w:World} {g:Nat} {cur:Array Value} {ty:TypeId} {fr:Nat × Nat} (h:w.heap[g]? = some (.cells cur ty fr)) (k:Nat):w.cell? ⟨g,k,none⟩=cur[k]? := by
 unfold World.cell?; rw [h]; rfl
theorem OwC.rd (e:TypeId) (size:Nat) (a:Option Addr) (n c:Nat) (xs:List Value):Rd (OwC e size a n c xs) a xs:=by
 rintro w R h F s ⟨hl,hh⟩ j u hj
 rcases hh with ⟨_,rfl,_⟩ | ⟨g,cur,rfl,hg,h1,h2,h3,rfl⟩
 ·rw [List.getElem?_eq_none (by rw [hl]; omega)] at hj; cases hj
 ·refine ⟨g,0,rfl,?_⟩
  rw [cell_at (s.oh _ _ hg)]
  rw [List.getElem?_take] at hj
  split at hj
  ·simpa using hj
  ·cases hj
theorem RoC.rd (size:Nat) (a:Option Addr) (n:Nat) (xs:List Value):Rd (RoC size a n xs) a xs:=by
 rintro w R h F s ⟨hl,hh⟩ j u hj
 have hn:n ≠ 0:=fun e=>by subst e; rw [List.getElem?_eq_none (by rw [hl]; omega)] at hj; cases hj
 obtain ⟨g,off,cur,ty,fr,rfl,hR,hc⟩:=hh hn
 refine ⟨g,off,rfl,?_⟩
 rw [cell_at (s.oR _ _ hR)]
 rw [← hc,List.getElem?_take] at hj
 split at hj
 ·rw [List.getElem?_drop] at hj; simpa using hj
 ·cases hj
theorem one_rd (g:Nat) (cs:Array Value) (ty:TypeId):Rd (HP.one g (.cells cs ty (0,0))) (some ⟨g,0,none⟩) cs.toList:=fun w R h F s hg j u hj=>by
 refine ⟨g,0,rfl,?_⟩
 rw [cell_at (s.oh _ _ hg)]
 simpa using hj
theorem Rd.left {A B:HP} {a:Option Addr} {xs:List Value} (r:Rd A a xs):Rd (HP.sep A B) a xs:=fun w R h F s ⟨h1,h2,d,l1,l2,p,_⟩=>r w R h1 _ (s.cut d l1 l2) p
theorem Rd.right {A B:HP} {a:Option Addr} {xs:List Value} (r:Rd B a xs):Rd (HP.sep A B) a xs:=fun w R h F s ⟨h1,h2,d,l1,l2,_,p⟩=>r w R h2 _ (s.cut d.symm l2 l1) p
theorem OwC.share (e:TypeId) (size:Nat) (a:Option Addr) (n c:Nat) (xs:List Value):HP.ent (OwC e size a n c xs) (RoC size a n xs):=by
 rintro R h d ⟨hl,hh⟩
 rcases hh with ⟨rfl,rfl,_⟩ | ⟨g,cur,rfl,hg,h1,h2,h3,rfl⟩
 ·exact ⟨R,h,PH.le.refl _,d,PH.le.refl _,fun _ _ e => .inl e,hl,fun hn=>absurd rfl hn⟩
 ·obtain ⟨R',h',q1,q2,q3,q4,q5⟩:=HP.ent.share g (.cells cur e (0,0)) R h d hg
  exact ⟨R',h',q1,q2,q3,q4,hl,fun _=>⟨g,0,cur,e,(0,0),rfl,q5,by rw [List.drop_zero,hl]⟩⟩
theorem OwC.nil (e:TypeId) (size:Nat) : ∀ R h,(OwC e size none 0 0 []).p R h:=fun _ _=>⟨by simp,.inl ⟨rfl,rfl,rfl⟩⟩
theorem RoC.nil (size:Nat) (a:Option Addr) : ∀ R h,(RoC size a 0 []).p R h:=fun _ _=>⟨by simp,fun h=>absurd rfl h⟩
theorem OwC.len {e:TypeId} {size:Nat} {a:Option Addr} {n c:Nat} {xs:List Value} {R h:PH} (H:(OwC e size a n c xs).p R h):xs.length=n * size:=H.1
theorem OwC.le {e:TypeId} {size:Nat} {a:Option Addr} {n c:Nat} {xs:List Value} {R h:PH} (H:(OwC e size a n c xs).p R h):n ≤ c:=by
 rcases H.2 with ⟨_,e1,e2⟩ | ⟨g,cur,_,_,h1,_⟩
 ·omega
 ·exact h1
theorem RoC.some {size:Nat} {a:Option Addr} {n:Nat} {xs:List Value} {R h:PH} (H:(RoC size a n xs).p R h) (hn:0 < n):a.isSome=true:=by
 obtain ⟨g,off,_,_,_,rfl,_⟩:=H.2 (by omega); rfl
theorem OwC.some {e:TypeId} {size:Nat} {a:Option Addr} {n c:Nat} {xs:List Value} {R h:PH} (H:(OwC e size a n c xs).p R h) (hn:0 < n):a.isSome=true:=by
 rcases H.2 with ⟨_,e1,_⟩ | ⟨g,_,rfl,_⟩
 ·omega
 ·rfl
theorem Sat.grown {w w':World} {R h F:PH} (s:Sat w R h F) {row:Option Nat} (hrow : ∀ g,row=some g → h g ≠ none) (hg:w.grownBy w' row) {g':Nat} {o:Obj} (ho:w'.heap[g']? = some o) (hn:row=some g' ∨ w.heap.size ≤ g') :
  Sat w' R (PH.one g' o) F:=by
 have hR:R g'=none:=by
  rcases hn with e | e
  ·exact (s.dRh g').resolve_right (hrow g' e)
  ·cases hq:R g' with
   | none=>rfl
   | some y=>have:=s.oR.lt hq; omega
 have hF:F g'=none:=by
  rcases hn with e | e
  ·exact (s.dhF g').resolve_left (hrow g' e)
  ·cases hq:F g' with
   | none=>rfl
   | some y=>have:=s.oF.lt hq; omega
 have kept : ∀ g:PH,g.own w → (∀ k,row=some k → g k=none) → g.own w':=fun g og gd k y e=>by
  rw [hg.block k (og.lt e) (fun e'=>by rw [gd k e'.symm] at e; cases e)]; exact og k y e
 refine ⟨fun k => ?_,s.dRF,fun k => ?_,kept R s.oR fun k e=>(s.dRh k).resolve_right (hrow k e),fun k y e => ?_,kept F s.oF fun k e=>(s.dhF k).resolve_left (hrow k e),s.gl⟩
 ·by_cases e:k=g'
  ·subst e; exact .inl hR
  ·exact .inr (if_neg e)
 ·by_cases e:k=g'
  ·subst e; exact .inr hF
  ·exact .inl (if_neg e)
 ·obtain ⟨rfl,rfl⟩:=PH.one_some e; exact ho
theorem RoC.join {size:Nat} {a:Option Addr} {n:Nat} {xs:List Value} {B:HP} {R h h':PH} (H:(RoC size a n xs).p R h) (K:B.p R h'):(HP.sep (RoC size a n xs) B).p R h':=⟨PH.none',h',PH.none_dj _,PH.none_le _,PH.le.refl _,H,K⟩
theorem RoC.joinR {size:Nat} {a:Option Addr} {n:Nat} {xs:List Value} {B:HP} {R h h':PH} (H:(RoC size a n xs).p R h) (K:B.p R h'):(HP.sep B (RoC size a n xs)).p R h':=HP.sep_comm (RoC.join H K)
def appS (t ty:TypeId) (u v:Value):Sem Next:=do pure (.value (← Builtin.append_ #[t,t] ty #[u,v]))
theorem semOf_append {ρ:Env} {i j:Nat} {t ty:TypeId} {u v:V} (h:i ≠ j):semOf ρ (.call ⟨.builtin .append,#[.tmp i,.tmp j],#[t,t]⟩) ty [(i,u),(j,v)]=appS t ty (u.den ρ) (v.den ρ):=by
 have h':(i == j)=false:=by simpa using h
 simp [semOf,execOp,resolve,arEval,invoke,builtin,h',appS]
theorem append_ok (t ty e:TypeId) (i:TypeInfo) (z:Value) (ht:Tryz.prog.underlying t=some (.slice e)) (hi:Tryz.prog.info? e=some i) (hz:i.zero=some z) (hzs:z.cells.size=i.size) (hsz:0 < i.size)
  (a:Option Addr) (n c:Nat) (xs:List Value) (S:HP) (ad:Addr) (m c2:Nat) (news:List Value) (hr:Rd S (some ad) news) (hl:news.length=m * i.size) (h1 : ∀ u ∈ news,u.oneCell'=true)
  (h63:n + m ≤ maxLen) (hb:(n + m) * i.bytes ≤ 140737488355328) :
  OTri Tryz.prog (appS t ty (.slice a n c) (.slice (some ad) m c2)) (HP.sep (OwC e i.size a n c xs) S)
   (fun v=>HP.ex fun a'=>HP.ex fun c'=>HP.and (v = .slice a' (n + m) c') (HP.sep (OwC e i.size a' (n + m) c' (xs ++ news)) S)):=by
 rintro w R h F s ⟨x1,x2,d,l1,l2,⟨hxl,hx⟩,hS⟩
 have hown:w.ownsRow 0 e i.size (.slice a n c) n xs:=by
  refine ⟨hxl,?_⟩
  rcases hx with ⟨rfl,rfl,rfl⟩ | ⟨g,cur,rfl,hg,q⟩
  ·exact .inl ⟨rfl,rfl⟩
  ·exact .inr ⟨g,c,cur,rfl,Nat.zero_le _,s.oh _ _ (l1 _ _ hg),q⟩
 have hrd:=hr w R x2 _ (s.cut d.symm l2 l1) hS
 have hnews : ∀ j u,news[j]? = some u → w.cell? (ad.add j)=some u:=fun j u hj=>by
  obtain ⟨g,off,e1,e2⟩:=hrd j u hj
  cases e1
  rw [addr_add]; exact e2
 obtain ⟨v',w',hrun,ho',hg,hnil,hblk⟩:=run_append_own_at (P:=Tryz.prog) w 0 t ty e i z i.size i.bytes ht hi hz rfl rfl hzs hsz (.slice a n c) n xs hown ad m c2 news hl hnews h1 h63 hb (Nat.zero_le _)
 obtain ⟨hl',hsh⟩:=ho'
 have hS':Same w w':=⟨hg.os,hg.tape,hg.output,hg.size⟩
 have s1:=s.cut d l1 l2
 have hdF:x2.dj F:=s.dhF.le l2 (PH.le.refl _)
 rcases hsh with ⟨rfl,h0⟩ | ⟨g',cap,cur,rfl,_,hcell,q1,q2,q3,q4⟩
 ·have hn0:n=0:=by omega
  have hm0:m=0:=by omega
  have e1:=hnil.1 rfl
  cases e1.1
  have hsame : ∀ k,k < w.heap.size → w'.heap[k]? = w.heap[k]? := fun k hk=>hg.block k hk (by simp [Value.ownBlock])
  have own' : ∀ g:PH,g.own w → g.own w':=fun g og k y e=>by rw [hsame k (og.lt e)]; exact og k y e
  refine ⟨_,_,w',by unfold appS; rw [Sem.run_bind,hrun]; rfl,rfl,hS',R,x1.un x2,PH.le.refl _,⟨(PH.dj_un (s.dRh.le (PH.le.refl _) l1).symm (s.dRh.le (PH.le.refl _) l2).symm).symm,s.dRF,PH.dj_un (s.dhF.le l1 (PH.le.refl _)) hdF,own' _ s.oR,own' _ (s.oh.le (PH.un_le l1 l2)),own' _ s.oF,s.gl⟩,none,0,?_,x1,x2,d,PH.un_left _ _,PH.un_right d,?_,hS⟩
  ·rw [hn0,hm0]
  ·exact ⟨hl',.inl ⟨rfl,by omega,rfl⟩⟩
 ·have s2:=Sat.grown s1 (row:=(Value.slice a n c).ownBlock) (fun g hgr=>by
   rcases hx with ⟨rfl,_⟩ | ⟨g0,cur0,rfl,hg0,_⟩
   ·cases hgr
   ·cases hgr; rw [hg0]; simp) hg hcell (by
    rcases hblk with e | e
    ·exact .inl e.symm
    ·cases e; exact .inr (Nat.le_refl _))
  obtain ⟨s3,d3⟩:=s2.join hdF
  exact ⟨_,_,w',by unfold appS; rw [Sem.run_bind,hrun]; rfl,rfl,hS',R,_,PH.le.refl _,s3,some ⟨g',0,none⟩,cap,rfl,PH.one g' (.cells cur e (0,0)),x2,d3,PH.un_left _ _,PH.un_right d3,⟨hl',.inr ⟨g',cur,rfl,PH.one_self _ _,q1,q2,q3,q4⟩⟩,hS⟩
def loadS (t:TypeId) (p:Value):Sem Next:=do pure (.value (← Instr.loadAt t p))
theorem semOf_load {ρ:Env} {i:Nat} {t ty:TypeId} {u:V}:semOf ρ (.load t (.tmp i)) ty [(i,u)]=loadS t (u.den ρ):=by
 simp [semOf,execOp,arEval,loadS]
theorem run_loadS {w:World} {t:TypeId} {g off:Nat} {d:TypeDesc} (hd:Tryz.prog.underlying t=some d) (vs:List Value) (hz:szT Tryz.prog t=vs.length) (hv : ∀ j v,vs[j]? = some v → w.cell? ⟨g,off + j,none⟩=some v) :
  (loadS t (.pointer (some ⟨g,off,none⟩))).run Tryz.prog w = .ok (.value (if aggT Tryz.prog t then .agg vs.toArray else (vs[0]?).getD undef)) w ∨ (aggT Tryz.prog t=false ∧ vs.length ≠ 1):=by
 obtain ⟨i,hi⟩:=underlying_info hd
 by_cases ha:aggT Tryz.prog t=true
 ·left
  unfold loadS
  rw [Sem.run_bind]
  simp only [Instr.loadAt,Instr.sureAddr,Sem.run_bind,Sem.run_pure,Result.andThen_ok,loadVar,RX.run_isAgg hd,ha,if_true,RX.run_sizeOf hi,hz,RX.run_loadCells vs hv]
 ·have ha':aggT Tryz.prog t=false:=by simpa using ha
  by_cases hl:vs.length=1
  ·left
   obtain ⟨v,rfl⟩:=List.length_eq_one_iff.1 hl
   have h0:=hv 0 v rfl
   rw [Nat.add_zero] at h0
   unfold loadS
   rw [Sem.run_bind]
   simp only [Instr.loadAt,Instr.sureAddr,Sem.run_bind,Sem.run_pure,Result.andThen_ok,loadVar,RX.run_isAgg hd,ha',Bool.false_eq_true,if_false,RX.run_load h0]
   rfl
  ·exact .inr ⟨ha',hl⟩
theorem load1_ok {t:TypeId} {d:TypeDesc} (hd:Tryz.prog.underlying t=some d) (ha:aggT Tryz.prog t=false) (hz:szT Tryz.prog t=1) {S:HP} {a:Option Addr} {xs:List Value} (hr:Rd S a xs) {k off:Nat} {v:Value} (hk:xs[k + off]? = some v) :
  ORead Tryz.prog (loadS t (.pointer (a.map fun x=>(x.add k).add off))) S v:=fun w R h F s hS=>by
 obtain ⟨g,o,rfl,hc⟩:=hr w R h F s hS (k + off) v hk
 simp only [Option.map_some,addr_add]
 rcases run_loadS (w:=w) (g:=g) (off:=o + k + off) hd [v] (by simpa using hz) (fun j u hj=>by
  cases j with
  | zero=>simp only [List.getElem?_cons_zero,Option.some.injEq] at hj; subst hj; rw [show o + k + off + 0=o + (k + off) by omega]; exact hc
  | succ j=>simp at hj) with e | e
 ·rw [e,ha]; rfl
 ·simp at e
theorem loadN_ok {t:TypeId} {d:TypeDesc} (hd:Tryz.prog.underlying t=some d) (ha:aggT Tryz.prog t=true) {S:HP} {a:Option Addr} {xs:List Value} (hr:Rd S a xs) {k off:Nat} {vs:List Value} (hz:szT Tryz.prog t=vs.length) (hp:0 < vs.length) (hk : ∀ j v,vs[j]? = some v → xs[k + off + j]? = some v) :
  ORead Tryz.prog (loadS t (.pointer (a.map fun x=>(x.add k).add off))) S (.agg vs.toArray):=fun w R h F s hS=>by
 obtain ⟨v0,hv0⟩ : ∃ v,vs[0]? = some v:=⟨vs[0],by simp [hp]⟩
 obtain ⟨g,o,rfl,_⟩:=hr w R h F s hS (k + off + 0) v0 (hk 0 v0 hv0)
 simp only [Option.map_some,addr_add]
 rcases run_loadS (w:=w) (g:=g) (off:=o + k + off) hd vs hz (fun j u hj=>by
  obtain ⟨g',o',e,hc⟩:=hr w R h F s hS (k + off + j) u (hk j u hj)
  cases e
  rw [show o + k + off + j=o + (k + off + j) by omega]; exact hc) with e | e
 ·rw [e,ha]; rfl
 ·rw [ha] at e; exact absurd e.1 (by simp)
def sliceS (t:TypeId) (x:Value) (lo hi mx:Option Value):Sem Next:=do pure (.value (← Instr.sliceAt t x lo hi mx))
def iv (x:Option Nat):Option Value:=x.map fun n => .int .i64 (n:Int)
theorem run_bound {w:World} {n y:Nat} {c:BoundsCode} (h:n ≤ y):(Instr.sliceBound (.int .i64 (n:Int)) y c).run Tryz.prog w = .ok n w:=by
 have:(0:Int) ≤ n ∧ (n:Int) ≤ y:=⟨by omega,by omega⟩
 simp [Instr.sliceBound,asIntOf,this]
theorem slice_ok {t e:TypeId} (ht:Tryz.prog.underlying t=some (.slice e)) {i:TypeInfo} (hi:Tryz.prog.info? e=some i) (S:HP) (a:Option Addr) (n c:Nat) (lo hi' mx:Option Nat) (h1:lo.getD 0 ≤ hi'.getD n) (h2:hi'.getD n ≤ mx.getD c) (h3:mx.getD c ≤ c) (h4:mx.isSome=true → hi'.isSome=true) :
  ORead Tryz.prog (sliceS t (.slice a n c) (iv lo) (iv hi') (iv mx)) S (.slice (if mx.getD c=lo.getD 0 then a else a.map (·.add (lo.getD 0 * szT Tryz.prog e))) (hi'.getD n - lo.getD 0) (mx.getD c - lo.getD 0)):=fun w R h F s hS=>by
 unfold sliceS
 rw [Sem.run_bind]
 have hb:(Instr.sliceBounds true n c (iv lo) (iv hi') (iv mx)).run Tryz.prog w = .ok (lo.getD 0,hi'.getD n,mx.getD c) w:=by
  unfold Instr.sliceBounds iv
  cases mx <;> cases hi' <;> cases lo <;> simp only [Option.getD_some,Option.getD_none,Option.isSome_some,Option.isSome_none] at h1 h2 h3 h4 <;> first | (have h5:=h4 trivial; cases h5; done) | simp [Sem.run_bind,run_bound h1,run_bound h2,run_bound h3,run_bound (Nat.zero_le _)]
 have:(Instr.sliceAt t (.slice a n c) (iv lo) (iv hi') (iv mx)).run Tryz.prog w = .ok (.slice (if mx.getD c=lo.getD 0 then a else a.map (·.add (lo.getD 0 * szT Tryz.prog e))) (hi'.getD n - lo.getD 0) (mx.getD c - lo.getD 0)) w:=by
  simp only [Instr.sliceAt,Instr.slice,Sem.run_bind,RX.run_underlying ht,Result.andThen_ok,hb,RX.run_sizeOf hi,Sem.run_pure]
 rw [this]; rfl
theorem RoC.sub {size:Nat} {a:Option Addr} {n:Nat} {xs:List Value} {R h:PH} (H:(RoC size a n xs).p R h) (lo hi c:Nat) (h1:lo ≤ hi) (h2:hi ≤ n) (h3:hi ≤ c) :
  (RoC size (if c=lo then a else a.map (·.add (lo * size))) (hi - lo) ((xs.drop (lo * size)).take ((hi - lo) * size))).p R h:=by
 obtain ⟨hl,hh⟩:=H
 have hlen:((xs.drop (lo * size)).take ((hi - lo) * size)).length=(hi - lo) * size:=by
  rw [List.length_take,List.length_drop,hl,← Nat.sub_mul]
  exact Nat.min_eq_left (Nat.mul_le_mul_right _ (by omega))
 refine ⟨hlen,fun hn => ?_⟩
 obtain ⟨g,off,cur,ty,fr,rfl,hR,hc⟩:=hh (by omega)
 rw [if_neg (by omega)]
 simp only [Option.map_some,addr_add]
 refine ⟨g,off + lo * size,cur,ty,fr,rfl,hR,?_⟩
 rw [hlen,← hc,List.drop_take,List.drop_drop,List.take_take,hl]
 congr 1
 rw [← Nat.sub_mul]
 exact (Nat.min_eq_left (Nat.mul_le_mul_right _ (by omega))).symm
def storeS (t:TypeId) (p x:Value):Sem Next:=do Instr.storeAt t p x; pure .skip
theorem store_ok {t:TypeId} {i:TypeInfo} (hi:Tryz.prog.info? t=some i) (e:TypeId) (size:Nat) (a:Option Addr) (n c:Nat) (xs:List Value) (k off:Nat) (x:Value) (vs:List Value) (hx:x.cells=vs.toArray) (hz:i.size=vs.length) (hp:0 < vs.length) (h1 : ∀ v ∈ vs,v.oneCell'=true) (hk:k + off + vs.length ≤ n * size) :
  OTri Tryz.prog (storeS t (.pointer (a.map fun x=>(x.add k).add off)) x) (OwC e size a n c xs) (fun v=>HP.and (v = .tuple #[]) (OwC e size a n c (xs.take (k + off) ++ vs ++ xs.drop (k + off + vs.length)))):=by
 rintro w R h F s ⟨hl,hh⟩
 rcases hh with ⟨_,rfl,_⟩ | ⟨g,cur,rfl,hg,q1,q2,q3,q4⟩
 ·rw [Nat.zero_mul] at hk; omega
 ·have hw:=s.oh _ _ hg
  simp only [Option.map_some,addr_add]
  have hsz:n * size ≤ cur.size:=by rw [q3]; exact Nat.mul_le_mul_right _ q1
  have hst:=run_storeCells_at (P:=Tryz.prog) g (0 + k + off) e vs 0 cur w hw (by omega) h1
  have hrun:(storeS t (.pointer (some ⟨g,0 + k + off,none⟩)) x).run Tryz.prog w = .ok .skip (w.setRow g (cur.toList.take (0 + k + off + 0) ++ vs ++ cur.toList.drop (0 + k + off + 0 + vs.length)).toArray):=by
   unfold storeS
   simp only [Instr.storeAt,Instr.sureAddr,Sem.run_bind,Sem.run_pure,Result.andThen_ok,storeVar,RX.run_sizeOf hi,hx,List.size_toArray,szT,hi,hz,ne_eq,not_true_eq_false,if_false,hst]
  refine ⟨.skip,_,_,hrun,rfl,⟨rfl,rfl,rfl,by simp⟩,R,_,PH.le.refl _,s.turn (y := .cells (cur.toList.take (0 + k + off + 0) ++ vs ++ cur.toList.drop (0 + k + off + 0 + vs.length)).toArray e (0,0)) hg (fun j hj=>setRow_other w g j _ hj) (setRow_heap w g cur _ e (0,0) hw),rfl,?_,.inr ⟨g,_,rfl,if_pos rfl,q1,q2,?_,?_⟩⟩
  ·simp only [List.length_append,List.length_take,List.length_drop,hl]
   omega
  ·simp only [List.size_toArray,List.length_append,List.length_take,List.length_drop,Array.length_toList]
   omega
  ·subst q4
   have e1:(0 + k + off + 0)=k + off:=by omega
   rw [e1]
   simp only [List.take_append,List.length_append,List.length_take,Array.length_toList,List.take_take,List.drop_take,List.length_drop]
   have m1:min (k + off) cur.size=k + off:=by omega
   have m2:min (n * size) (k + off)=k + off:=by omega
   have m3:min (k + off) (n * size)=k + off:=by omega
   rw [m1,m2,m3,List.take_of_length_le (by omega:vs.length ≤ n * size - (k + off))]
end Go.Proofs.YtdieogcemmnaaaaGreatDoor

namespace Go.Proofs.YtdieogcemmnaaaaGreatDoor
open Go.RowKit
theorem hp_drew (w:World) (g:Nat):w.drew.heap[g]? = w.heap[g]? := rfl
section
variable {P:Program} {ops:Array Oper} {rest:List Oper} {o:Oper} {a:Act} {w:World} {Q:Exit → Act → World → Prop}
end
end Go.Proofs.YtdieogcemmnaaaaGreatDoor

namespace Go.Proofs.YtdieogcemmnaaaaGreatDoor
open Go.RowKit
def World.setObj (w:World) (r:Nat) (o:Obj):World:={ w with heap:=w.heap.setIfInBounds r o }
theorem hp_setObj (w:World) (r g:Nat) (o:Obj) (h:r < w.heap.size):(World.setObj w r o).heap[g]? = if r=g then some o else w.heap[g]? := by
 simp only [World.setObj,Array.getElem?_setIfInBounds]
 split
 ·rename_i e; subst e; simp
 ·rfl
theorem size_setObj (w:World) (r:Nat) (o:Obj):(World.setObj w r o).heap.size=w.heap.size:=by simp [World.setObj]
section
variable {κ:Type} [DecidableEq κ]
abbrev AL (κ:Type):=List (κ × Value × Nat)
def toE (enc:κ → Value) (x:κ × Value × Nat):MapEntry:={ key:=enc x.1,val:=x.2.1,born:=x.2.2 }
def mapObj (enc:κ → Value) (l:AL κ) (c:Nat):Obj := .map (l.map (toE enc)).toArray c
def alIdx (k:κ):AL κ → Nat → Option (Nat × Value)
 | [],_=>none
 | x :: l,i=>if k=x.1 then some (i,x.2.1) else alIdx k l (i + 1)
def alFind (k:κ):AL κ → Option Value
 | []=>none
 | x :: l=>if k=x.1 then some x.2.1 else alFind k l
def alPut (k:κ) (v:Value) (c:Nat):AL κ → AL κ
 | []=>[(k,v,c)]
 | x :: l=>if k=x.1 then (k,v,x.2.2) :: l else x :: alPut k v c l
def alDel (k:κ):AL κ → AL κ
 | []=>[]
 | x :: l=>if k=x.1 then l else x :: alDel k l
def alClock (k:κ) (l:AL κ) (c:Nat):Nat:=if (alFind k l).isSome then c else c + 1
theorem alIdx_find (k:κ) : ∀ (l:AL κ) (i:Nat),(alIdx k l i).map (·.2)=alFind k l
 | [],_=>rfl
 | x :: l,i=>by unfold alIdx alFind; split; rfl; exact alIdx_find k l (i + 1)
theorem alIdx_some (k:κ) : ∀ (l:AL κ) (i j:Nat) (v:Value),alIdx k l i=some (j,v) → ∃ m b,j=i + m ∧ l[m]? = some (k,v,b) ∧ ∀ (u:Value) (c:Nat),alPut k u c l=l.set m (k,u,b) ∧ alDel k l=l.eraseIdx m
 | [],_,_,_,h=>by cases h
 | x :: l,i,j,v,h=>by
  unfold alIdx at h
  split at h
  ·rename_i e
   obtain ⟨k',v',b⟩:=x
   simp only at e; subst e
   injection h with h; injection h with h1 h2; subst h1; subst h2
   exact ⟨0,b,rfl,rfl,fun u c=>by simp [alPut,alDel]⟩
  ·rename_i e
   obtain ⟨m,b,h1,h2,h3⟩:=alIdx_some k l _ _ _ h
   refine ⟨m + 1,b,by omega,by simpa using h2,fun u c => ?_⟩
   unfold alPut alDel
   rw [if_neg e,if_neg e,(h3 u c).1,(h3 u c).2]
   exact ⟨rfl,rfl⟩
theorem alIdx_none (k:κ) : ∀ (l:AL κ) (i:Nat),alIdx k l i=none → ∀ (u:Value) (c:Nat),alPut k u c l=l ++ [(k,u,c)] ∧ alDel k l=l
 | [],_,_,_,_=>⟨rfl,rfl⟩
 | x :: l,i,h,u,c=>by
  unfold alIdx at h
  split at h
  ·cases h
  ·rename_i e
   unfold alPut alDel
   rw [if_neg e,if_neg e,(alIdx_none k l _ h u c).1,(alIdx_none k l _ h u c).2]
   exact ⟨rfl,rfl⟩
theorem alFind_put (k k':κ) (v:Value) (c:Nat) : ∀ l:AL κ,alFind k' (alPut k v c l)=if k'=k then some v else alFind k' l
 | []=>by simp [alPut,alFind]
 | x :: l=>by
  unfold alPut
  split
  ·rename_i e; subst e
   by_cases h:k'=x.1 <;> simp [alFind,h]
  ·rename_i e
   unfold alFind
   rw [alFind_put k k' v c l]
   by_cases h:k'=x.1
   ·have:k' ≠ k:=fun h'=>e (h'.symm.trans h)
    simp [h,Ne.symm e]
   ·simp [h]
theorem alFind_none_of (k:κ) : ∀ l:AL κ,(∀ x ∈ l,x.1 ≠ k) → alFind k l=none
 | [],_=>rfl
 | x :: l,h=>by
  unfold alFind
  rw [if_neg (fun e=>h x (by simp) e.symm),alFind_none_of k l (fun y hy=>h y (by simp [hy]))]
theorem alFind_some_mem (k:κ) : ∀ (l:AL κ) (v:Value),alFind k l=some v → ∃ b,(k,v,b) ∈ l
 | [],_,h=>by cases h
 | x :: l,v,h=>by
  unfold alFind at h
  split at h
  ·rename_i e
   obtain ⟨k',v',b⟩:=x
   simp only at e; subst e
   injection h with h; subst h
   exact ⟨b,by simp⟩
  ·obtain ⟨b,hb⟩:=alFind_some_mem k l v h
   exact ⟨b,by simp [hb]⟩
theorem alFind_mem (k:κ) (v:Value) (b:Nat) : ∀ (l:AL κ),(l.map (·.1)).Nodup → (k,v,b) ∈ l → alFind k l=some v
 | [],_,h=>by cases h
 | x :: l,hn,h=>by
  unfold alFind
  rw [List.map_cons,List.nodup_cons] at hn
  rcases List.mem_cons.1 h with h | h
  ·subst h; simp
  ·have:k ≠ x.1:=fun e=>hn.1 (by rw [← e]; exact List.mem_map.2 ⟨_,h,rfl⟩)
   rw [if_neg this,alFind_mem k v b l hn.2 h]
theorem alPut_keys (k:κ) (v:Value) (c:Nat) : ∀ l:AL κ,(alPut k v c l).map (·.1)=if (alFind k l).isSome then l.map (·.1) else l.map (·.1) ++ [k]
 | []=>by simp [alPut,alFind]
 | x :: l=>by
  unfold alPut alFind
  by_cases h:k=x.1
  ·simp [h]
  ·rw [if_neg h,if_neg h,List.map_cons,alPut_keys k v c l]
   split <;> simp
theorem alFind_isSome (k:κ) : ∀ l:AL κ,(alFind k l).isSome=true ↔ k ∈ l.map (·.1)
 | []=>by simp [alFind]
 | x :: l=>by
  unfold alFind
  by_cases h:k=x.1
  ·simp [h]
  ·rw [if_neg h,alFind_isSome k l]; simp [h]
theorem alPut_nodup (k:κ) (v:Value) (c:Nat) (l:AL κ) (h:(l.map (·.1)).Nodup):((alPut k v c l).map (·.1)).Nodup:=by
 rw [alPut_keys]
 split
 ·exact h
 ·rename_i hn
  rw [alFind_isSome] at hn
  rw [List.nodup_append]
  exact ⟨h,by simp,fun a ha b hb=>by simp at hb; subst hb; exact fun e=>hn (e ▸ ha)⟩
structure KeyEnc (P:Program) (kt:TypeId) (enc:κ → Value):Prop where
 check : ∀ (em:Bool) (k:κ) (w:World),(Instr.checkKey em 10000 kt (enc k)).run P w = .ok () w
 find : ∀ (k:κ) (l:AL κ) (w:World),(Instr.findKey kt (enc k) (l.map (toE enc))).run P w = .ok (alIdx k l 0) w
 bits : ∀ k,Instr.sameBits 10000 (enc k) (enc k)=true
theorem run_getObj_map {P:Program} {w:World} {r:Nat} {es:Array MapEntry} {c:Nat} (h:w.heap[r]? = some (.map es c)):(getObj r).run P w = .ok (.map es c) w:=by
 simp [getObj,Sem.run,h]
theorem run_setObj_map {P:Program} {w:World} {r:Nat} {es:Array MapEntry} {c:Nat} (o:Obj) (h:w.heap[r]? = some (.map es c)):(setObj r o).run P w = .ok () (World.setObj w r o):=by
 simp [Go.setObj,Sem.run,h,World.setObj]
theorem run_mapUpdate_raw {P:Program} {w:World} {kt et t:TypeId} {enc:κ → Value} (K:KeyEnc P kt enc) (ht:P.underlying t=some (.map kt et)) {r:Nat} {l:AL κ} {c:Nat}
  (hb:w.heap[r]? = some (mapObj enc l c)) (k:κ) (v:Value) :
  (Instr.mapUpdate t (.map (some r)) (enc k) v).run P w = .ok () (World.setObj w r (mapObj enc (alPut k v c l) (alClock k l c))):=by
 unfold mapObj at hb
 unfold Instr.mapUpdate
 simp only [Sem.run_bind,run_underlying ht,Result.andThen,run_getObj_map hb,K.check,K.find]
 have hf:=alIdx_find k l 0
 cases hi:alIdx k l 0 with
 | none =>
  rw [hi] at hf
  simp only [run_setObj_map _ hb,alClock,← hf,(alIdx_none k l 0 hi v c).1]
  simp [mapObj,toE]
 | some p =>
  obtain ⟨j,u⟩:=p
  rw [hi] at hf
  obtain ⟨m,b,h1,h2,h3⟩:=alIdx_some k l 0 j u hi
  obtain rfl:j=m:=by omega
  have hm:((l.map (toE enc)).toArray[j]?.map (·.key)).getD (enc k)=enc k:=by
   simp [h2,toE]
  simp only [hm,Instr.keyThatStays,K.bits,if_true,Sem.run_bind,Sem.run_pure,Result.andThen,run_setObj_map _ hb,alClock,← hf,(h3 v c).1]
  simp only [mapObj,Option.map_some,Option.isSome_some,if_true]
  congr 3
  apply Array.ext_getElem?
  intro i
  have hj:j < l.length:=by
   rcases Nat.lt_or_ge j l.length with h | h
   ·exact h
   ·rw [List.getElem?_eq_none h] at h2; cases h2
  simp only [Array.getElem?_modify,List.getElem?_toArray,List.getElem?_map,List.getElem?_set]
  by_cases e:j=i
  ·subst e; rw [if_pos rfl,if_pos hj,h2]; simp [toE]
  ·simp [e]
theorem run_lookup_raw {P:Program} {w:World} {kt et t:TypeId} {enc:κ → Value} (K:KeyEnc P kt enc) (ht:P.underlying t=some (.map kt et)) {r:Nat} {l:AL κ} {c:Nat}
  (hb:w.heap[r]? = some (mapObj enc l c)) (k:κ) (z:Value) (hz:(zeroValue et).run P w = .ok z w) (ok:Bool) :
  (Instr.lookup t (.map (some r)) (enc k) ok).run P w = .ok (if ok then .tuple #[(alFind k l).getD z,.bool (alFind k l).isSome] else (alFind k l).getD z) w:=by
 unfold mapObj at hb
 unfold Instr.lookup
 simp only [Sem.run_bind,run_underlying ht,Result.andThen,run_getObj_map hb,Sem.run_pure,K.check,K.find]
 have hf:=alIdx_find k l 0
 cases hi:alIdx k l 0 with
 | none=>rw [hi] at hf; simp [← hf,hz,Result.andThen]
 | some p=>rw [hi] at hf; simp [← hf]
theorem eraseIdx_map' {α β:Type} (f:α → β) : ∀ (l:List α) (i:Nat),(l.map f).eraseIdx i=(l.eraseIdx i).map f
 | [],_=>by simp
 | _ :: _,0=>rfl
 | x :: l,i + 1=>by simp [eraseIdx_map' f l i]
theorem run_delete_raw {P:Program} {w:World} {kt et t:TypeId} {enc:κ → Value} (K:KeyEnc P kt enc) (ht:P.underlying t=some (.map kt et)) {r:Nat} {l:AL κ} {c:Nat}
  (hb:w.heap[r]? = some (mapObj enc l c)) (k:κ) (ts:Array TypeId) (ty:TypeId) (h0:ts[0]? = some t) :
  (Builtin.delete_ ts ty #[.map (some r),enc k]).run P w = .ok (.tuple #[]) (World.setObj w r (mapObj enc (alDel k l) c)):=by
 unfold mapObj at hb
 unfold Builtin.delete_
 simp only [h0,List.getElem?_toArray,List.getElem?_cons_zero,List.getElem?_cons_succ,Sem.run_bind,run_underlying ht,Result.andThen,run_getObj_map hb,K.check,K.find]
 cases hi:alIdx k l 0 with
 | none =>
  simp only [(alIdx_none k l 0 hi .nilFunc 0).2]
  rw [Sem.run_bind,run_setObj_map _ hb]
  rfl
 | some p =>
  obtain ⟨j,u⟩:=p
  obtain ⟨m,b,h1,h2,h3⟩:=alIdx_some k l 0 j u hi
  obtain rfl:j=m:=by omega
  simp only [(h3 .nilFunc 0).2]
  rw [Sem.run_bind,run_setObj_map _ hb]
  simp only [mapObj,Result.andThen_ok,Sem.run_pure]
  congr 3
  have hj:j < l.length:=by
   rcases Nat.lt_or_ge j l.length with h | h
   ·exact h
   ·rw [List.getElem?_eq_none h] at h2; cases h2
  simp [Array.eraseIdxIfInBounds,hj,eraseIdx_map']
end
theorem int_enc {P:Program} {kt:TypeId} {ik:IntKind} (h:P.underlying kt=some (.int ik)):KeyEnc P kt (fun n:Int=>Value.int ik n) where
 check em k w:=by
  unfold Instr.checkKey
  simp [run_underlying h]
 find k l w:=by
  unfold Instr.findKey
  have hn : ∀ (l:AL Int) (i:Nat),Instr.findNow (.int ik) (.int ik k) (l.map (toE fun n:Int=>Value.int ik n)) i=some (alIdx k l i):=by
   intro l
   induction l with
   | nil=>intro i; rfl
   | cons x l ih =>
    intro i
    simp only [List.map_cons,Instr.findNow,toE,Instr.sameNow,if_true,alIdx]
    by_cases e:k=x.1
    ·simp [e]
    ·have:(k == x.1)=false:=by simpa using e
     simp only [this,if_neg e]
     exact ih (i + 1)
  simp only [Sem.run_bind,run_underlying h,Result.andThen,hn,Sem.run_pure]
 bits k:=by simp [Instr.sameBits]
section
variable {P:Program} {ops:Array Oper} {rest:List Oper} {o:Oper} {a:Act} {w:World} {Q:Exit → Act → World → Prop} {κ:Type} [DecidableEq κ]
end
end Go.Proofs.YtdieogcemmnaaaaGreatDoor

namespace Go.Proofs.YtdieogcemmnaaaaGreatDoor
open Go.RowKit
set_option linter.unusedSectionVars false
section
variable {P:Program} {κ:Type} [DecidableEq κ] {enc:κ → Value}
structure Stamps (l:AL κ) (c:Nat):Prop where
 low : ∀ x ∈ l,x.2.2 < c
 nodup:(l.map (·.2.2)).Nodup
theorem Stamps.nil (c:Nat):Stamps ([]:AL κ) c:=⟨(fun x h=>by cases h),List.nodup_nil⟩
theorem Stamps.snoc {l:AL κ} {c:Nat} (h:Stamps l c) (k:κ) (v:Value):Stamps (l ++ [(k,v,c)]) (c + 1):=by
 refine ⟨fun x hx => ?_,?_⟩
 ·rcases List.mem_append.1 hx with hx | hx
  ·have:=h.low x hx; omega
  ·simp at hx; subst hx; simp
 ·rw [List.map_append,List.nodup_append]
  refine ⟨h.nodup,by simp,fun a ha b hb => ?_⟩
  simp at hb
  subst hb
  obtain ⟨x,hx,rfl⟩:=List.mem_map.1 ha
  have:=h.low x hx
  omega
theorem run_next_raw {w:World} {it m c:Nat} {S:Array Nat} {l:AL κ} (ty:TypeId) (hit:w.heap[it]? = some (.mapIter (some m) c S c)) (hm:w.heap[m]? = some (mapObj enc l c)) (hs:Stamps l c) :
  ((∀ x ∈ l,x.2.2 ∈ S) ∧ (Instr.next (.pointer (some ⟨it,0,none⟩)) false ty).run P w = .ok (.tuple #[.bool false]) w) ∨
  ∃ x ∈ l,x.2.2 ∉ S ∧ ∃ w1,(w1=w ∨ w1=w.drew) ∧ (Instr.next (.pointer (some ⟨it,0,none⟩)) false ty).run P w = .ok (.tuple #[.bool true,enc x.1,x.2.1]) (World.setObj w1 it (.mapIter (some m) c (S.push x.2.2) c)):=by
 unfold mapObj at hm
 have hold : ∀ x ∈ (l.map (toE enc)).toArray.toList,x.born < c:=fun x hx=>by
  simp only at hx
  obtain ⟨y,hy,rfl⟩:=List.mem_map.1 hx
  exact hs.low y hy
 have htest:=next_test_false S (l.map (toE enc)).toArray c c hold (Nat.le_refl _)
 have hset : ∀ (w1:World) (o:Obj),(w1=w ∨ w1=w.drew) → (setObj it o).run P w1 = .ok () (World.setObj w1 it o):=fun w1 o hw=>by
  rcases hw with rfl | rfl <;> simp [Go.setObj,Sem.run,hit,World.setObj,hp_drew]
 have hmemL : ∀ x ∈ (Array.filter (fun e => !S.contains e.born) (l.map (toE enc)).toArray).toList,∃ y ∈ l,x=toE enc y ∧ y.2.2 ∉ S:=fun x hx=>by
  simp at hx
  obtain ⟨⟨a,b,d,hy,rfl⟩,h2⟩:=hx
  exact ⟨(a,b,d),hy,rfl,by simpa [toE] using h2⟩
 have hallL:(Array.filter (fun e => !S.contains e.born) (l.map (toE enc)).toArray).size=0 → ∀ y ∈ l,y.2.2 ∈ S:=fun h0 y hy=>by
  have h1:=Array.eq_empty_of_size_eq_zero h0
  rw [Array.filter_eq_empty_iff] at h1
  have:=h1 (a:=toE enc y) (by simp; exact ⟨_,_,_,hy,rfl⟩)
  simpa [toE] using this
 simp only [Instr.next,getObj,Sem.run_bind,Sem.run,hit,hm,Result.andThen,htest,Bool.false_eq_true,if_false]
 have hmem : ∀ x ∈ (Array.filter (fun e => !S.contains e.born) (l.map (toE enc)).toArray).toList,x.born < c:=fun x hx=>hold x (by simp at hx ⊢; exact hx.1)
 generalize Array.filter (fun e => !S.contains e.born) (l.map (toE enc)).toArray=L at hmem hmemL hallL ⊢
 have e1:L.filter (fun x=>decide (x.born < c))=L:=Array.filter_eq_self.2 (fun x hx=>by simpa using hmem x (by simpa using hx))
 have e2:L.filter (fun x=>decide (x.born ≥ c)) = #[]:=by
  rw [Array.filter_eq_empty_iff]
  intro x hx
  have:=hmem x (by simpa using hx)
  simp
  omega
 simp only [e1,e2,Array.append_empty]
 by_cases h0:L.size=0
 ·left
  refine ⟨hallL h0,?_⟩
  have:L = #[]:=Array.eq_empty_of_size_eq_zero h0
  subst this
  simp [choose,Sem.run,Question.forced]
 ·right
  have hne:L.isEmpty=false:=by simp [Array.isEmpty,h0]
  simp only [hne,Bool.false_eq_true,if_false,Array.empty_append,Array.size_map]
  have hch : ∃ (j:Nat) (w1:World),j < L.size ∧ (w1=w ∨ w1=w.drew) ∧ (choose (Question.mapNext L.size)).run P w = .ok j w1:=by
   by_cases hf:L.size ≤ 1
   ·exact ⟨0,w,by omega,.inl rfl,by simp [choose,Sem.run,Question.forced,hf]⟩
   ·exact ⟨_,w.drew,Nat.mod_lt _ (by omega),.inr rfl,by
     simp only [choose,Sem.run,Question.forced,decide_eq_true_eq,hf,if_false,Question.cut]
     rfl⟩
  obtain ⟨j,w1,hj,hal,hrun⟩:=hch
  obtain ⟨y,hy,hLj,hyS⟩:=hmemL L[j] (by simp)
  refine ⟨y,hy,hyS,w1,hal,?_⟩
  simp only [hrun,Array.getElem?_map,Array.getElem?_eq_getElem hj,Option.map_some,Sem.run_bind,hLj,toE]
  rw [hset w1 _ hal]
  rfl
theorem run_entry_raw {w:World} {it m c:Nat} {S:Array Nat} {l:AL κ} {x:κ × Value × Nat} (hit:w.heap[it]? = some (.mapIter (some m) c (S.push x.2.2) c)) (hm:w.heap[m]? = some (mapObj enc l c)) (hs:Stamps l c) (hx:x ∈ l) :
  (Instr.entry (.pointer (some ⟨it,0,none⟩))).run P w = .ok (.tuple #[enc x.1,x.2.1]) w:=by
 unfold mapObj at hm
 have hf:(l.map (toE enc)).toArray.find? (·.born == x.2.2)=some (toE enc x):=by
  rw [← Array.find?_toList]
  exact find_born (toE enc x) (l.map (toE enc)) (by rw [List.map_map]; exact hs.nodup) (List.mem_map.2 ⟨x,hx,rfl⟩)
 simp only [Instr.entry,getObj,Sem.run_bind,Sem.run,hit,hm,Result.andThen,Array.back?_push,bne_self_eq_false,Bool.false_eq_true,if_false,hf]
 rfl
theorem run_range_raw {w:World} {t k e:TypeId} {m c:Nat} {l:AL κ} (ht:P.underlying t=some (.map k e)) (hb:w.heap[m]? = some (mapObj enc l c)) :
  (Instr.range t (.map (some m))).run P w = .ok (.pointer (some ⟨w.heap.size,0,none⟩)) (w.alloc (.mapIter (some m) c #[] c)) :=
 run_range_map w t k e m _ c ht hb
end
def leftN {κ:Type} (l:AL κ) (S:Array Nat):Nat:=(l.filter fun x => !S.contains x.2.2).length
theorem leftN_push {κ:Type} {l:AL κ} {S:Array Nat} {x:κ × Value × Nat} (hx:x ∈ l) (hS:x.2.2 ∉ S):leftN l (S.push x.2.2) < leftN l S:=by
 unfold leftN
 refine filter_lt (fun y:κ × Value × Nat => !S.contains y.2.2) (fun y => !(S.push x.2.2).contains y.2.2) ?_ x ?_ ?_ l hx
 ·intro y hy
  simp only [Array.contains_push,Bool.not_or,Bool.and_eq_true] at hy
  exact hy.1
 ·simpa using hS
 ·simp
section
variable {P:Program} {ops:Array Oper} {rest:List Oper} {o:Oper} {a:Act} {w:World} {Q:Exit → Act → World → Prop} {κ:Type} [DecidableEq κ] {enc:κ → Value}
end
end Go.Proofs.YtdieogcemmnaaaaGreatDoor

namespace Go.Proofs.YtdieogcemmnaaaaGreatDoor
open Go.Proofs.YtdieogcemmnaaaaGreatDoor RX
section
variable {κ:Type} [DecidableEq κ] {enc:κ → Value} {kt et t ty:TypeId} {r m it c:Nat} {l:AL κ} {S:Array Nat}
def MapI (l:AL κ) (c:Nat):Prop:=(l.map (·.1)).Nodup ∧ Stamps l c
def lookS (t:TypeId) (m k:Value) (ok:Bool):Sem Next:=do pure (.value (← Instr.lookup t m k ok))
theorem run_zeroV {w:World} {i:TypeInfo} {z:Value} (hi:Tryz.prog.info? et=some i) (hz:i.zero=some z):(zeroValue et).run Tryz.prog w = .ok z w:=by
 unfold zeroValue
 simp only [Sem.run_bind,RX.run_typeInfo hi,Result.andThen_ok,hz]
 rfl
theorem look_ok (K:KeyEnc Tryz.prog kt enc) (ht:Tryz.prog.underlying t=some (.map kt et)) {i:TypeInfo} {z:Value} (hi:Tryz.prog.info? et=some i) (hz:i.zero=some z) (k:κ) (ok:Bool) {A:HP} (hA : ∀ R h,A.p R h → h r=some (mapObj enc l c)) :
  ORead Tryz.prog (lookS t (.map (some r)) (enc k) ok) A (if ok then .tuple #[(alFind k l).getD z,.bool (alFind k l).isSome] else (alFind k l).getD z):=fun w R h F s a=>by
 unfold lookS
 rw [Sem.run_bind,run_lookup_raw K ht (s.oh _ _ (hA R h a)) k z (run_zeroV hi hz) ok]
 rfl
theorem Sat.setObj {w:World} {R h F:PH} (s:Sat w R h F) {b:Nat} {x y:Obj} (hb:h b=some x):Sat (World.setObj w b y) R (fun k=>if k=b then some y else h k) F :=
 s.turn hb (fun k hk=>by rw [hp_setObj _ _ _ _ (s.oh.lt hb),if_neg (fun e=>hk e.symm)]) (by rw [hp_setObj _ _ _ _ (s.oh.lt hb),if_pos rfl])
theorem Same.setObj (w:World) (b:Nat) (y:Obj):Same w (World.setObj w b y):=⟨rfl,rfl,rfl,by rw [size_setObj]; omega⟩
def updS (t:TypeId) (m k v:Value):Sem Next:=do Instr.mapUpdate t m k v; pure .skip
theorem semOf_update {ρ:Env} {i j q:Nat} {u v x:V} (h:i ≠ j) (h2:i ≠ q) (h3:j ≠ q):semOf ρ (.mapUpdate t (.tmp i) (.tmp j) (.tmp q)) ty [(i,u),(j,v),(q,x)]=updS t (u.den ρ) (v.den ρ) (x.den ρ):=by
 have h':(i == j)=false:=by simpa using h
 have h2':(i == q)=false:=by simpa using h2
 have h3':(j == q)=false:=by simpa using h3
 simp [semOf,execOp,arEval,h',h2',h3',updS]
theorem upd_ok (K:KeyEnc Tryz.prog kt enc) (ht:Tryz.prog.underlying t=some (.map kt et)) (k:κ) (v:Value) :
  OTri Tryz.prog (updS t (.map (some r)) (enc k) v) (HP.one r (mapObj enc l c)) (fun x=>HP.and (x = .tuple #[]) (HP.one r (mapObj enc (alPut k v c l) (alClock k l c)))):=fun w R h F s a=>by
 refine ⟨.skip,_,_,by unfold updS; rw [Sem.run_bind,run_mapUpdate_raw K ht (s.oh _ _ a) k v]; rfl,rfl,Same.setObj _ _ _,R,_,PH.le.refl _,s.setObj a,rfl,if_pos rfl⟩
def delS (ts:Array TypeId) (ty:TypeId) (u v:Value):Sem Next:=do pure (.value (← Builtin.delete_ ts ty #[u,v]))
theorem semOf_delete {ρ:Env} {i j:Nat} {u v:V} {ts:Array TypeId} (h:i ≠ j):semOf ρ (.call ⟨.builtin .delete,#[.tmp i,.tmp j],ts⟩) ty [(i,u),(j,v)]=delS ts ty (u.den ρ) (v.den ρ):=by
 have h':(i == j)=false:=by simpa using h
 simp [semOf,execOp,resolve,arEval,invoke,builtin,h',delS]
theorem del_ok (K:KeyEnc Tryz.prog kt enc) (ht:Tryz.prog.underlying t=some (.map kt et)) (k:κ) (ts:Array TypeId) (h0:ts[0]? = some t) :
  OTri Tryz.prog (delS ts ty (.map (some r)) (enc k)) (HP.one r (mapObj enc l c)) (fun x=>HP.and (x = .tuple #[]) (HP.one r (mapObj enc (alDel k l) c))):=fun w R h F s a=>by
 refine ⟨.value _,_,_,by unfold delS; rw [Sem.run_bind,run_delete_raw K ht (s.oh _ _ a) k ts ty h0]; rfl,rfl,Same.setObj _ _ _,R,_,PH.le.refl _,s.setObj a,rfl,if_pos rfl⟩
def rangS (t:TypeId) (m:Value):Sem Next:=do pure (.value (← Instr.range t m))
theorem semOf_range {ρ:Env} {i:Nat} {u:V}:semOf ρ (.range t (.tmp i)) ty [(i,u)]=rangS t (u.den ρ):=by
 simp [semOf,execOp,arEval,rangS]
theorem range_ok {k e:TypeId} (ht:Tryz.prog.underlying t=some (.map k e)) :
  OTri Tryz.prog (rangS t (.map (some m))) (HP.one m (mapObj enc l c)) (fun v=>HP.ex fun it=>HP.and (v = .pointer (some ⟨it,0,none⟩)) (HP.sep (HP.one it (.mapIter (some m) c #[] c)) (HP.one m (mapObj enc l c)))):=fun w R h F s a=>by
 obtain ⟨s2,d2⟩:=s.alloc (.mapIter (some m) c #[] c)
 refine ⟨.value _,_,_,by unfold rangS; rw [Sem.run_bind,run_range_raw ht (s.oh _ _ a)]; rfl,rfl,Same.alloc _ _,R,_,PH.le.refl _,s2,w.heap.size,rfl,_,h,d2,PH.un_left _ _,PH.un_right d2,PH.one_self _ _,a⟩
def nextS (x:Value) (ty:TypeId):Sem Next:=do pure (.value (← Instr.next x false ty))
theorem semOf_next {ρ:Env} {i:Nat} {u:V}:semOf ρ (.next (.tmp i) false) ty [(i,u)]=nextS (u.den ρ) ty:=by
 simp [semOf,execOp,arEval,nextS]
def nextE (enc:κ → Value) (l:AL κ) (S:Array Nat) (v:Value):Option (κ × Value × Nat) → Prop
 | none=>v = .tuple #[.bool false] ∧ ∀ x ∈ l,x.2.2 ∈ S
 | some x=>v = .tuple #[.bool true,enc x.1,x.2.1] ∧ x ∈ l ∧ x.2.2 ∉ S
def nextI (S:Array Nat):Option (κ × Value × Nat) → Array Nat
 | none=>S
 | some x=>S.push x.2.2
theorem next_ok (hs:Stamps l c):OTri Tryz.prog (nextS (.pointer (some ⟨it,0,none⟩)) ty) (HP.sep (HP.one it (.mapIter (some m) c S c)) (HP.one m (mapObj enc l c)))
  (fun v=>HP.ex fun e=>HP.and (nextE enc l S v e) (HP.sep (HP.one it (.mapIter (some m) c (nextI S e) c)) (HP.one m (mapObj enc l c)))):=fun w R h F s a=>by
 have a1:=HP.sep_left a
 have a2:=HP.sep_right a
 have hne:m ≠ it:=by
  obtain ⟨h1,h2,d,_,_,b1,b2⟩:=a
  intro e
  subst e
  rcases d m with e | e
  ·rw [show h1 m=some _ from b1] at e; cases e
  ·rw [show h2 m=some _ from b2] at e; cases e
 rcases run_next_raw (P:=Tryz.prog) ty (s.oh _ _ a1) (s.oh _ _ a2) hs with ⟨hall,hrun⟩ | ⟨x,hx,hS,w1,hw1,hrun⟩
 ·exact ⟨.value _,_,w,by unfold nextS; rw [Sem.run_bind,hrun]; rfl,rfl,Same.refl _,R,h,PH.le.refl _,s,none,⟨rfl,hall⟩,a⟩
 ·have s1:Sat w1 R h F ∧ Same w w1:=by
   rcases hw1 with rfl | rfl
   ·exact ⟨s,Same.refl _⟩
   ·exact ⟨s.drew _,Same.drew w _⟩
  refine ⟨.value _,_,_,by unfold nextS; rw [Sem.run_bind,hrun]; rfl,rfl,s1.2.trans (Same.setObj _ _ _),R,_,PH.le.refl _,s1.1.setObj a1,some x,⟨rfl,hx,hS⟩,PH.one it _,PH.one m (mapObj enc l c),fun k => ?_,PH.one_le (if_pos rfl),PH.one_le ?_,PH.one_self _ _,PH.one_self _ _⟩
  ·by_cases e:k=it
   ·subst e; exact .inr (if_neg (fun e=>hne e.symm))
   ·exact .inl (if_neg e)
  ·exact (if_neg hne).trans a2
def entS (x:Value):Sem Next:=do pure (.value (← Instr.entry x))
theorem entry_ok {x:κ × Value × Nat} (hs:Stamps l c) (hx:x ∈ l) {A:HP} (h1 : ∀ R h,A.p R h → h it=some (.mapIter (some m) c (S.push x.2.2) c)) (h2 : ∀ R h,A.p R h → h m=some (mapObj enc l c)) :
  ORead Tryz.prog (entS (.pointer (some ⟨it,0,none⟩))) A (.tuple #[enc x.1,x.2.1]):=fun w R h F s a=>by
 unfold entS
 rw [Sem.run_bind,run_entry_raw (P:=Tryz.prog) (s.oh _ _ (h1 R h a)) (s.oh _ _ (h2 R h a)) hs hx]
 rfl
end
end Go.Proofs.YtdieogcemmnaaaaGreatDoor

namespace Go.Proofs.YtdieogcemmnaaaaGreatDoor
open Go.Proofs.YtdieogcemmnaaaaGreatDoor RX
def arW (ar:List (Nat × Value)):Operand → Value
 | .tmp t=>match ar.find? (·.1 == t) with
  | some x=>x.2
  | none=>undef
 | .const v=>v
 | .global g => .pointer (some ⟨g,0,none⟩)
 | .func f => .func (.func f) #[] #[]
def semW (o:Op) (ty:TypeId) (ar:List (Nat × Value)):Sem Next:=execOp (arW ar) { dst:=none,op:=o,type:=ty,pos := "",after := #[],guard:=none }
theorem find_map (ρ:Env) (t:Nat) : ∀ ar:List (Nat × V),(ar.map fun x=>(x.1,x.2.den ρ)).find? (·.1 == t)=(ar.find? (·.1 == t)).map fun x=>(x.1,x.2.den ρ)
 | []=>rfl
 | x :: r=>by
  simp only [List.map_cons,List.find?_cons]
  cases x.1 == t <;> simp [find_map ρ t r]
theorem semW_eq {ρ:Env} {o:Op} {ty:TypeId} {ar:List (Nat × V)}:semOf ρ o ty ar=semW o ty (ar.map fun x=>(x.1,x.2.den ρ)):=by
 have h:arEval ρ ar=arW (ar.map fun x=>(x.1,x.2.den ρ)):=by
  funext x
  cases x with
  | tmp t =>
   simp only [arEval,arW,find_map]
   cases ar.find? (·.1 == t) <;> rfl
  | const v=>rfl
  | global g=>rfl
  | func f=>rfl
 unfold semOf semW
 rw [h]
section
variable {t ty:TypeId} {i j q:Nat} {u v x:Value}
theorem semW_load:semW (.load t (.tmp i)) ty [(i,u)]=loadS t u:=by simp [semW,execOp,arW,loadS]
theorem semW_store (h:i ≠ j):semW (.store t (.tmp i) (.tmp j)) ty [(i,u),(j,v)]=storeS t u v:=by
 have h':(i == j)=false:=by simpa using h
 simp [semW,execOp,arW,h',storeS]
theorem semW_storeC:semW (.store t (.tmp i) (.const v)) ty [(i,u)]=storeS t u v:=by simp [semW,execOp,arW,storeS]
theorem semW_append (h:i ≠ j):semW (.call ⟨.builtin .append,#[.tmp i,.tmp j],#[t,t]⟩) ty [(i,u),(j,v)]=appS t ty u v:=by
 have h':(i == j)=false:=by simpa using h
 simp [semW,execOp,resolve,arW,invoke,builtin,h',appS]
theorem semW_lookup {ok:Bool} (h:i ≠ j):semW (.lookup t (.tmp i) (.tmp j) ok) ty [(i,u),(j,v)]=lookS t u v ok:=by
 have h':(i == j)=false:=by simpa using h
 simp [semW,execOp,arW,h',lookS]
theorem semW_lookupC {ok:Bool} {k:Value}:semW (.lookup t (.tmp i) (.const k) ok) ty [(i,u)]=lookS t u k ok:=by
 simp [semW,execOp,arW,lookS]
theorem semW_update (h:i ≠ j) (h2:i ≠ q) (h3:j ≠ q):semW (.mapUpdate t (.tmp i) (.tmp j) (.tmp q)) ty [(i,u),(j,v),(q,x)]=updS t u v x:=by
 have h':(i == j)=false:=by simpa using h
 have h2':(i == q)=false:=by simpa using h2
 have h3':(j == q)=false:=by simpa using h3
 simp [semW,execOp,arW,h',h2',h3',updS]
theorem semW_updateC {k:Value} (h:i ≠ j):semW (.mapUpdate t (.tmp i) (.tmp j) (.const k)) ty [(i,u),(j,v)]=updS t u v k:=by
 have h':(i == j)=false:=by simpa using h
 simp [semW,execOp,arW,h',updS]
theorem semW_updateK {k:Value} (h:i ≠ j):semW (.mapUpdate t (.tmp i) (.const k) (.tmp j)) ty [(i,u),(j,v)]=updS t u k v:=by
 have h':(i == j)=false:=by simpa using h
 simp [semW,execOp,arW,h',updS]
theorem semW_delete {ts:Array TypeId} (h:i ≠ j):semW (.call ⟨.builtin .delete,#[.tmp i,.tmp j],ts⟩) ty [(i,u),(j,v)]=delS ts ty u v:=by
 have h':(i == j)=false:=by simpa using h
 simp [semW,execOp,resolve,arW,invoke,builtin,h',delS]
theorem semW_range:semW (.range t (.tmp i)) ty [(i,u)]=rangS t u:=by simp [semW,execOp,arW,rangS]
theorem semW_next:semW (.next (.tmp i) false) ty [(i,u)]=nextS u ty:=by simp [semW,execOp,arW,nextS]
theorem semW_entry:semW (.entry (.tmp i)) ty [(i,u)]=entS u:=by simp [semW,execOp,arW,entS]
theorem semW_slice {lo hi mx:Option Operand} {y:Operand} {ar:List (Nat × Value)}:semW (.slice t y lo hi mx) ty ar=sliceS t (arW ar y) (lo.map (arW ar)) (hi.map (arW ar)) (mx.map (arW ar)):=rfl
def nilS (u:Value):Sem Next:=semW (.nilCheck (.tmp 0)) 0 [(0,u)]
theorem semW_nil:semW (.nilCheck (.tmp i)) ty [(i,u)]=nilS u:=by simp [nilS,semW,execOp,arW]
end
end Go.Proofs.YtdieogcemmnaaaaGreatDoor

namespace Go.Proofs.YtdieogcemmnaaaaGreatDoor.RX
set_option maxRecDepth 100000
-- slices.Clone[[]byte,byte]: ρ:=[.a sa,.n sl,.n sc,.p sP]
def t_clone8:T :=
(.br (.o1 .not (.o1 .isSome (.v 0)))
(.ret (.w (.a (.sl .nil (.n 0) (.n 0)))) [(.a 0,.prop 3)])
(.new
(.op (.call ⟨.builtin .append,#[.tmp 5,.tmp 6],#[28,28]⟩) 28 [(5,.w (.a (.sl (.b (.v 4) 0) (.n 0) (.n 0)))),(6,.w (.a (.sl (.v 0) (.v 1) (.v 2))))] [(.b (.v 4),.cells [] 5),(.a 0,.prop 3)] [.a,.n,.n,.p] (.w (.a (.sl (.v 5) (.v 6) (.v 7)))) [(.a 5,.prop 8),(.a 0,.prop 3)]
(.ret (.w (.a (.sl (.v 5) (.v 6) (.v 7)))) [(.a 0,.prop 3),(.a 5,.prop 8)]))))
theorem tree_clone8:tree Tryz.prog { } Tryz.f73 [.a (.sl (.v 0) (.v 1) (.v 2))] [(.a 0,.prop 3)] 4=t_clone8:=by kernel_rfl
def t_width:T :=
(.ret (.w (.a (.int .i64 (.o2 .mn (.o2 .mx (.v 0) (.i 0)) (.i 8))))) [])
theorem tree_width:tree Tryz.prog { } Tryz.f199 [.a (.int .i64 (.v 0))] [] 1=t_width:=by kernel_rfl
end Go.Proofs.YtdieogcemmnaaaaGreatDoor.RX

namespace Go.Proofs.YtdieogcemmnaaaaGreatDoor
set_option linter.unusedSimpArgs false
set_option linter.unusedVariables false
open Go.Proofs.YtdieogcemmnaaaaGreatDoor RX
def u8v (b:UInt8):Value := .int .u8 b.toNat
theorem u8v_one (l:List UInt8) : ∀ u ∈ l.map u8v,u.oneCell'=true:=fun u hu=>by
 obtain ⟨b,_,rfl⟩:=List.mem_map.1 hu; rfl
abbrev OwB (a:Option Addr) (n c:Nat) (l:List UInt8):HP:=OwC 5 1 a n c (l.map u8v)
abbrev RoB (a:Option Addr) (n:Nat) (l:List UInt8):HP:=RoC 1 a n (l.map u8v)
structure RdL (S:HP) (a:Option Addr) (n:Nat) (xs:List Value):Prop where
 rd:Rd S a xs
 none : ∀ R h,S.p R h → a=none → n=0
theorem RdL.ro (size:Nat) (a:Option Addr) (n:Nat) (xs:List Value):RdL (RoC size a n xs) a n xs :=
 ⟨RoC.rd size a n xs,fun R h H e=>Classical.byContradiction fun hn=>by subst e; have:=RoC.some H (by omega); cases this⟩
theorem RdL.ow (e:TypeId) (size:Nat) (a:Option Addr) (n c:Nat) (xs:List Value):RdL (OwC e size a n c xs) a n xs :=
 ⟨OwC.rd e size a n c xs,fun R h H e=>Classical.byContradiction fun hn=>by subst e; have:=OwC.some H (by omega); cases this⟩
theorem info8:(Tryz.prog.info? 5).map (fun i=>(i.zero,i.size,i.bytes))=some (some (.int .u8 0),1,1):=by kernel_rfl
theorem und8:Tryz.prog.underlying 28=some (.slice 5):=by kernel_rfl
theorem append8 (a:Option Addr) (n c:Nat) (l:List UInt8) (S:HP) (b:Option Addr) (m c2:Nat) (q:List UInt8) (hr:RdL S b m (q.map u8v)) (hm:q.length=m) (hb0:m ≠ 0 → b.isSome=true) (hb:n + m ≤ 140737488355328) :
  OTri Tryz.prog (appS 28 28 (.slice a n c) (.slice b m c2)) (HP.sep (OwB a n c l) S)
   (fun v=>HP.ex fun a'=>HP.ex fun c'=>HP.and (v = .slice a' (n + m) c') (HP.sep (OwB a' (n + m) c' (l ++ q)) S)):=by
 obtain ⟨i,hi,h1,h2,h3⟩:=info_parts info8
 cases b with
 | some ad =>
  have:=append_ok 28 28 5 i (.int .u8 0) und8 hi h1 (by rw [h2]; rfl) (by omega) a n c (l.map u8v) S ad m c2 (q.map u8v) hr.rd (by simp [hm,h2]) (u8v_one q) (by unfold maxLen; omega) (by rw [h3]; omega)
  rw [h2] at this
  simp only [OwB,List.map_append]
  exact this
 | none =>
  have hm0:m=0:=Classical.byContradiction fun h=>by have:=hb0 h; cases this
  subst hm0
  obtain rfl:q=[]:=List.eq_nil_of_length_eq_zero hm
  rintro w R h F s ⟨x1,x2,d,l1,l2,H,hS⟩
  have H0:=H
  obtain ⟨hxl,hx⟩:=H
  have hnc:n ≤ c:=by
   rcases hx with ⟨_,rfl,rfl⟩ | ⟨g,cur,_,_,hnc,_⟩
   ·exact Nat.le_refl _
   ·exact hnc
  refine ⟨.value (.slice a n c),_,w,?_,rfl,Same.refl w,R,h,PH.le.refl _,s,a,c,rfl,x1,x2,d,l1,l2,by rw [List.append_nil]; exact H0,hS⟩
  cases a <;> simp [appS,Builtin.append_,run_underlying und8,sizeOf,typeInfo,hi,h2,Builtin.lenOf,Builtin.firstCells,hnc,storeCells]
theorem clone8_ok (S:HP) (a:Option Addr) (n c:Nat) (l:List UInt8) (hr:RdL S a n (l.map u8v)) (hl:l.length=n) (hb:n ≤ 140737488355328) :
  Tri Tryz.prog 73 #[.slice a n c] S (fun v=>HP.ex fun a'=>HP.ex fun c'=>HP.and (v = .slice a' n c') (HP.sep (OwB a' n c' l) S)):=by
 refine tri_of_tree (ρ:=[.a a,.n n,.n c,.p S]) mixed Tryz.func73 tree_clone8 ?_
 unfold t_clone8
 simp only [T.den,E.prop,E.den,RX.look,F1.app,F2.app,Uni.int_i,Uni.nat_n,Uni.bool_c,Uni.str_s,Uni.adr_a,Uni.val_v,Uni.hp_p,hden,cden,V.den,W.den,A.den,BR.den,SA.den,FV.den,capV,exs,exP,allP,Cur.app,List.map_cons,List.map_nil,List.cons_append,List.nil_append,List.drop_succ_cons,List.drop_zero,List.length_cons,List.length_nil,Nat.zero_add,Nat.reduceAdd,Int.neg_neg,Bool.not_not,List.append_nil,Nat.add_zero,List.getElem?_cons_zero,List.getElem?_cons_succ,Decidable.not_not]
 refine ⟨fun ha => .of fun R h H => ?_,fun ha x => ?_⟩
 ·have hn:n=0:=hr.none R h H (by simpa using ha)
  subst hn
  obtain rfl:l=[]:=List.eq_nil_of_length_eq_zero hl
  exact ⟨none,0,rfl,HP.tt_sep H |> fun H=>HP.sep_mono H (fun x _=>OwC.nil _ _ R x) fun _ h=>h⟩
 ·rw [semOf_append (by decide)]
  simp only [T.den,E.prop,E.den,RX.look,F1.app,F2.app,Uni.int_i,Uni.nat_n,Uni.bool_c,Uni.str_s,Uni.adr_a,Uni.val_v,Uni.hp_p,hden,cden,V.den,W.den,A.den,BR.den,SA.den,FV.den,capV,exs,exP,allP,Cur.app,List.map_cons,List.map_nil,List.cons_append,List.nil_append,List.drop_succ_cons,List.drop_zero,List.length_cons,List.length_nil,Nat.zero_add,Nat.reduceAdd,Int.neg_neg,Bool.not_not,List.append_nil,Nat.add_zero,List.getElem?_cons_zero,List.getElem?_cons_succ,Decidable.not_not]
  have:=append8 (some ⟨x,0,none⟩) 0 0 [] S a n c l hr hl (fun _=>by simpa [Option.isSome_iff_ne_none] using ha) (by omega)
  refine this.weak (fun R h H=>HP.sep_mono H (fun y hy=>⟨rfl,.inr ⟨x,#[],rfl,hy,Nat.le_refl _,by unfold maxLen; omega,rfl,rfl⟩⟩) fun _ h=>h) ?_
  rintro v R h ⟨a',c',rfl,H⟩
  rw [Nat.zero_add,List.nil_append] at H
  exact ⟨a',n,c',OwB a' n c' l,by rw [Nat.zero_add],.of fun R' h' H'=>⟨a',c',rfl,HP.sep_comm H'⟩,H⟩
theorem cloneR_ok (S:HP) (a:Option Addr) (n c:Nat) (l:List UInt8) (hr:RdL S a n (l.map u8v)) (hl:l.length=n) (hb:n ≤ 140737488355328) :
  Tri Tryz.prog 73 #[.slice a n c] S (fun v=>HP.ex fun a'=>HP.ex fun c'=>HP.and (v = .slice a' n c') (HP.sep (RoB a' n l) S)) :=
 (clone8_ok S a n c l hr hl hb).post fun v=>fun R h d ⟨a',c',e,H⟩=>by
  obtain ⟨R1,h1,q1,q2,q3,q4,H1⟩:=(HP.ent.sep (OwC.share _ _ _ _ _ _) S) R h d H
  exact ⟨R1,h1,q1,q2,q3,q4,a',c',e,H1⟩
theorem width_ok (n:Int) (S:HP):Tri Tryz.prog 199 #[.int .i64 n] S (fun v=>HP.and (v = .int .i64 (min (max n 0) 8)) S):=by
 have:Tri Tryz.prog 199 #[.int .i64 n] HP.tt (fun v=>HP.pure (v = .int .i64 (min (max n 0) 8))):=by
  refine tri_of_tree (ρ:=[.i n]) mixed Tryz.func199 tree_width ?_
  unfold t_width
  simp only [T.den,E.prop,E.den,RX.look,F1.app,F2.app,Uni.int_i,Uni.nat_n,Uni.bool_c,Uni.str_s,Uni.adr_a,Uni.val_v,Uni.hp_p,hden,cden,V.den,W.den,A.den,BR.den,SA.den,FV.den,capV,exs,exP,allP,Cur.app,List.map_cons,List.map_nil,List.cons_append,List.nil_append,List.drop_succ_cons,List.drop_zero,List.length_cons,List.length_nil,Nat.zero_add,Nat.reduceAdd,Int.neg_neg,Bool.not_not,List.append_nil,Nat.add_zero,List.getElem?_cons_zero,List.getElem?_cons_succ,Decidable.not_not]
  exact .of fun _ _ _=>trivial
 exact (this.frame S).weak (fun _ _ H=>HP.tt_sep H) fun v R h H=>⟨HP.sep_left H,HP.sep_right H⟩
def byteAt (v n j:Nat):UInt8:=UInt8.ofNat (v / 2 ^ (8 * (n - 1 - j)))
def beN (v n:Nat):List UInt8:=(List.range n).map (byteAt v n)
theorem beN_take (v n j:Nat) (hj:j < n):(beN v n).take (j + 1)=(beN v n).take j ++ [byteAt v n j]:=by
 rw [List.take_succ_eq_append_getElem (by simpa [beN] using hj)]
 congr 2
 simp [beN]
theorem beN_len (v n:Nat):(beN v n).length=n:=by simp [beN]
end Go.Proofs.YtdieogcemmnaaaaGreatDoor

namespace Go.Proofs.YtdieogcemmnaaaaGreatDoor
def sepN:List HP → HP
 | []=>HP.tt
 | [x]=>x
 | x :: y :: r=>HP.sep x (sepN (y :: r))
theorem sepN_cons {x:HP} {r:List HP} {R h:PH}:(sepN (x :: r)).p R h ↔ (HP.sep x (sepN r)).p R h:=by
 cases r with
 | nil=>exact ⟨fun H=>HP.sep_tt H,fun H=>HP.sep_left H⟩
 | cons y q=>exact Iff.rfl
theorem sepN_perm {l m:List HP} (p:l.Perm m) : ∀ {R h:PH},(sepN l).p R h → (sepN m).p R h:=by
 induction p with
 | nil=>exact fun H=>H
 | cons x _ ih=>exact fun H=>sepN_cons.2 (HP.sep_mono (sepN_cons.1 H) (fun _ h=>h) fun _ h=>ih h)
 | swap x y r =>
  exact fun H=>sepN_cons.2 (HP.sep_mono (HP.swap (HP.sep_mono (sepN_cons.1 H) (fun _ h=>h) fun _ h=>sepN_cons.1 h)) (fun _ h=>h) fun _ h=>sepN_cons.2 h)
 | trans _ _ ih1 ih2=>exact fun H=>ih2 (ih1 H)
theorem sepN_sub (f:Nat → HP) : ∀ (S' S:List Nat) {R h:PH},S'.Nodup → (∀ i ∈ S',i ∈ S) → (sepN (S.map f)).p R h → (sepN (S'.map f)).p R h
 | [],_,_,_,_,_,_=>trivial
 | i :: r,S,R,h,hn,hs,H=>by
  have hp:(S.map f).Perm (f i :: (S.erase i).map f):=((List.perm_cons_erase (hs i (List.mem_cons_self ..))).map f)
  have H1:=sepN_cons.1 (sepN_perm hp H)
  rw [List.nodup_cons] at hn
  exact sepN_cons.2 (HP.sep_mono H1 (fun _ h=>h) fun _ h=>sepN_sub f r (S.erase i) hn.2 (fun j hj=>(List.mem_erase_of_ne (fun e=>hn.1 (by rw [← e]; exact hj))).2 (hs j (List.mem_cons_of_mem _ hj))) h)
theorem HP.pick (l:List HP) (idx:List Nat) (hn:idx.Nodup) (hb:idx.all (fun i=>decide (i < l.length))=true) {R h:PH} (H:(sepN l).p R h):(sepN (idx.map fun i=>l.getD i HP.tt)).p R h:=by
 refine sepN_sub (fun i=>l.getD i HP.tt) idx (List.range l.length) hn (fun i hi=>List.mem_range.2 (by simpa using List.all_eq_true.1 hb i hi)) ?_
 have e:(List.range l.length).map (fun i=>l.getD i HP.tt)=l:=by
  apply List.ext_getElem
  ·simp
  ·intro i h1 h2
   simp at h1
   simp [h1]
 rw [e]; exact H
theorem sepN_app {l m:List HP} {R h:PH}:(sepN (l ++ m)).p R h ↔ (HP.sep (sepN l) (sepN m)).p R h:=by
 induction l generalizing h with
 | nil=>exact ⟨fun H=>HP.tt_sep H,fun H=>HP.sep_right H⟩
 | cons x r ih =>
  rw [List.cons_append,sepN_cons]
  constructor
  ·intro H
   exact HP.sep_mono (HP.sep_assoc' (HP.sep_mono H (fun _ h=>h) fun _ h=>ih.1 h)) (fun _ h=>sepN_cons.2 h) fun _ h=>h
  ·intro H
   exact HP.sep_mono (HP.sep_assoc (HP.sep_mono H (fun _ h=>sepN_cons.1 h) fun _ h=>h)) (fun _ h=>h) fun _ h=>ih.2 h
end Go.Proofs.YtdieogcemmnaaaaGreatDoor

namespace Go.Proofs.YtdieogcemmnaaaaGreatDoor
open Go.Proofs.YtdieogcemmnaaaaGreatDoor RX
set_option maxRecDepth 100000
def i64v (i:Int):Value := .int .i64 i
theorem i64v_one (l:List Int) : ∀ u ∈ l.map i64v,u.oneCell'=true:=fun u hu=>by
 obtain ⟨b,_,rfl⟩:=List.mem_map.1 hu; rfl
abbrev OwI (a:Option Addr) (n c:Nat) (l:List Int):HP:=OwC 3 1 a n c (l.map i64v)
theorem infoInt:(Tryz.prog.info? 3).map (fun i=>(i.zero,i.size,i.bytes))=some (some (.int .i64 0),1,8):=by kernel_rfl
theorem undI:Tryz.prog.underlying 89=some (.slice 3):=by kernel_rfl
theorem undIb:Tryz.prog.underlying 3=some (.int .i64):=by kernel_rfl
theorem aggI:aggT Tryz.prog 3=false:=by kernel_rfl
theorem szI:szT Tryz.prog 3=1:=by kernel_rfl
theorem appendI (a:Option Addr) (n c:Nat) (l:List Int) (S:HP) (ad:Addr) (m c2:Nat) (q:List Int) (hr:Rd S (some ad) (q.map i64v)) (hm:q.length=m) (hb:n + m ≤ 1000000000) :
  OTri Tryz.prog (appS 89 89 (.slice a n c) (.slice (some ad) m c2)) (HP.sep (OwI a n c l) S)
   (fun v=>HP.ex fun a'=>HP.ex fun c'=>HP.and (v = .slice a' (n + m) c') (HP.sep (OwI a' (n + m) c' (l ++ q)) S)):=by
 obtain ⟨i,hi,h1,h2,h3⟩:=info_parts infoInt
 have:=append_ok 89 89 3 i (.int .i64 0) undI hi h1 (by rw [h2]; rfl) (by omega) a n c (l.map i64v) S ad m c2 (q.map i64v) hr (by simp [hm,h2]) (i64v_one q) (by unfold maxLen; omega) (by rw [h3]; omega)
 rw [h2] at this
 simp only [OwI,List.map_append]
 exact this
theorem conv_ok {ρ:Env} {i:Nat} {x:V} {S:HP} {a:Option Addr} {n c:Nat} {l:List UInt8} (hx:x.den ρ = .slice a n c) (hr:RdL S a n (l.map u8v)) (hl:l.length=n) :
  ORead Tryz.prog (semOf ρ (.convert 28 9 (.tmp i)) 9 [(i,x)]) S (.string ⟨l.toArray⟩):=fun w R h F s hS=>by
 subst hl
 have hc:(convert 28 9 (.slice a l.length c)).run Tryz.prog w = .ok (.string ⟨l.toArray⟩) w:=by
  cases a with
  | none =>
   have h0:l.length=0:=hr.none R h hS rfl
   rw [h0,List.length_eq_zero_iff.1 h0]
   exact Lib.run_convert_nil_bytes w _ _ 5 0 Tryz.underlying28 Tryz.underlying5 Tryz.underlying9
  | some y =>
   refine run_convert_bytes_back w _ _ 5 y c l Tryz.underlying28 Tryz.underlying5 Tryz.underlying9 (fun j hj => ?_)
   obtain ⟨g,off,e1,e2⟩:=hr.rd w R h F s hS j (u8v l[j]) (by simp [hj])
   cases e1
   rw [addr_add,e2]
   rfl
 have:(semOf ρ (.convert 28 9 (.tmp i)) 9 [(i,x)]).run Tryz.prog w = .ok (.value (.string ⟨l.toArray⟩)) w:=by
  simp [semOf,execOp,arEval,hx,Sem.run_bind,hc]
 exact this
theorem storeOne_ok {t:TypeId} {i:TypeInfo} (hi:Tryz.prog.info? t=some i) (e:TypeId) (b:Nat) (cs:Array Value) (off:Nat) (x:Value) (vs:List Value) (hx:x.cells=vs.toArray) (hz:i.size=vs.length) (hp:0 < vs.length) (h1 : ∀ v ∈ vs,v.oneCell'=true) (hk:off + vs.length ≤ cs.size) (hm:1 ≤ maxLen) :
  OTri Tryz.prog (storeS t (.pointer (some ⟨b,off,none⟩)) x) (HP.one b (.cells cs e (0,0))) (fun v=>HP.and (v = .tuple #[]) (HP.one b (.cells (cs.toList.take off ++ vs ++ cs.toList.drop (off + vs.length)).toArray e (0,0)))):=by
 have:=store_ok hi e cs.size (some ⟨b,0,none⟩) 1 1 cs.toList 0 off x vs hx hz hp h1 (by omega)
 simp only [Option.map_some,addr_add,Nat.zero_add] at this
 refine this.weak (fun R h H=>⟨by simp,.inr ⟨b,cs,rfl,H,Nat.le_refl _,hm,by omega,by rw [Nat.one_mul]; exact List.take_of_length_le (by simp)⟩⟩) fun v R h ⟨rfl,hl,H⟩=>⟨rfl,?_⟩
 rcases H with ⟨h0,_⟩ | ⟨g,cur,e1,hg,q1,q2,q3,q4⟩
 ·cases h0
 ·cases e1
  show h b=_
  rw [hg]
  have:cur.toList=cs.toList.take off ++ vs ++ cs.toList.drop (off + vs.length):=by
   rw [← q4,List.take_of_length_le (by rw [Array.length_toList,q3]; omega)]
  rw [← this]
theorem perm_focus {α:Type} : ∀ (l:List α) (k:Nat) (x:α),l[k]? = some x → (x :: l.eraseIdx k).Perm l
 | y :: l,0,x,h=>by simp at h; subst h; exact List.Perm.refl _
 | y :: l,k + 1,x,h=>by
  have:=perm_focus l k x (by simpa using h)
  exact (List.Perm.swap y x _).trans (this.cons y)
 | [],_,_,h=>by simp at h
theorem sepN_focus {l:List HP} {k:Nat} {x:HP} (hk:l[k]? = some x) {R h:PH} (H:(sepN l).p R h):(HP.sep x (sepN (l.eraseIdx k))).p R h :=
 sepN_cons.1 (sepN_perm (perm_focus l k x hk).symm H)
theorem sepN_unfocus {l:List HP} {k:Nat} {x:HP} (hk:k < l.length) {R h:PH} (H:(HP.sep x (sepN (l.eraseIdx k))).p R h):(sepN (l.set k x)).p R h:=by
 have:=perm_focus (l.set k x) k x (by simp [hk])
 rw [List.eraseIdx_set_eq] at this
 exact sepN_perm this (sepN_cons.2 H)
theorem OTri.ofRead {P:Program} {s:Sem Next} {A:HP} {B:Value → HP} {v:Value} (r:ORead P s A v) (post : ∀ R h,A.p R h → (B v).p R h):OTri P s A B:=fun w R h F st a=>⟨.value v,v,w,r w R h F st a,rfl,Same.refl w,R,h,PH.le.refl _,st,post R h a⟩
theorem OTri.exI {o:Sem Next} {α:Type} {A:α → HP} {B:Value → HP} (t : ∀ x,OTri Tryz.prog o (A x) B):OTri Tryz.prog o (HP.ex A) B:=fun w R h F s ⟨x,a⟩=>t x w R h F s a
theorem OTri.pureI {o:Sem Next} {A:HP} {B:Value → HP} {φ:Prop} (t:φ → OTri Tryz.prog o A B):OTri Tryz.prog o (HP.and φ A) B:=fun w R h F s a=>t a.1 w R h F s a.2
end Go.Proofs.YtdieogcemmnaaaaGreatDoor

namespace Go.Proofs.YtdieogcemmnaaaaGreatDoor
theorem weights_mem_all {H:Type} {P:Program} {e:TypeId} : ∀ {l:List (DataW H)} {d:DataW H},d ∈ l → ∀ n ∈ d.weights P e,n ∈ DataW.weightsAll P e l
 | x :: l,d,h,n,hn=>by
  unfold DataW.weightsAll
  rcases List.mem_cons.1 h with h | h
  ·subst h; exact List.mem_append.2 (.inl hn)
  ·exact List.mem_append.2 (.inr (weights_mem_all h n hn))
def Small {H:Type} (P:Program) (t:TypeId) (d:DataW H):Prop := ∀ n ∈ d.weights P t,n ≤ reachBytes
section
variable {H:Type} {P:Program} {t e:TypeId}
theorem Small.arg {ts:List TypeId} {ds:List (DataW H)} (h:(DataW.weightsEach P ts ds).all (· ≤ reachBytes)=true) {j:Nat} {d:DataW H} (ht:ts[j]? = some t) (hd:ds[j]? = some d):Small P t d:=fun n hn=>by
 have:=List.all_eq_true.1 h n (DataW.weights_mem_each ht hd n hn)
 simpa using this
theorem Small.elem {elems spare:List (DataW H)} (h:Small P t (.slice elems spare)) (hu:P.underlying t=some (.slice e)) {d:DataW H} (hd:d ∈ elems):Small P e d:=fun n hn=>by
 refine h n ?_
 simp only [DataW.weights,hu]
 exact List.mem_cons_of_mem _ (List.mem_append.2 (.inl (weights_mem_all hd n hn)))
theorem Small.part {fs:Array Field} {parts:List (DataW H)} (h:Small P t (.agg parts)) (hu:P.underlying t=some (.struct fs)) {i:Nat} {f:Field} {d:DataW H} (hf:fs[i]? = some f) (hd:parts[i]? = some d):Small P f.type d:=fun n hn=>by
 refine h n ?_
 simp only [DataW.weights,hu]
 exact DataW.weights_mem_each (by rw [List.getElem?_map,Array.getElem?_toList,hf]; rfl) hd n hn
theorem Small.len {elems spare:List (DataW H)} (h:Small P t (.slice elems spare)) (hu:P.underlying t=some (.slice e)):(elems.length + spare.length) * P.bytesOf e ≤ reachBytes:=by
 refine h _ ?_
 simp [DataW.weights,hu]
end
end Go.Proofs.YtdieogcemmnaaaaGreatDoor

namespace Go.Proofs.YtdieogcemmnaaaaGreatDoor
open Go.RowKit Go.ChangeShapes Go.WideShapes Go.Deep
def allOf (w:World):PH:=fun k=>w.heap[k]?
theorem allOf_sat (w:World) (g:GR (allOf w)):Sat w (allOf w) PH.none' PH.none':=⟨PH.dj_none _,PH.dj_none _,PH.dj_none _,fun _ _ e=>e,fun _ _ e=>(by cases e),fun _ _ e=>(by cases e),g⟩
theorem Tri.run {P:Program} {f:FuncId} {args:Array Value} {A:HP} {u:Value} (t:Tri P f args A (fun v=>HP.pure (v=u))) {w:World} (hA:A.p (allOf w) PH.none') (g:GR (allOf w):=by exact True.intro):Calls P f args w fun e w'=>e = .returned u ∧ Below w.heap.size w w':=by
 refine (t w (allOf w) PH.none' PH.none' (allOf_sat w g) hA).mono fun e w' ⟨v,he,sm,R',h',lR,s,hv⟩ => ?_
 have hv':v=u:=hv
 refine ⟨by rw [he,hv'],sm.os,sm.tape,sm.output,sm.size,fun k hk => ?_⟩
 obtain ⟨o,ho⟩ : ∃ o,w.heap[k]? = some o:=⟨w.heap[k],by simp [hk]⟩
 rw [ho]
 exact s.oR _ _ (lR _ _ ho)
section
variable {H:Type} {enc:TypeId × Value → H} {P:Program} {w:World} {base:Nat} {spare:Nat → Bool} {held:Bool}
theorem addr_plain {w:World} {a:Addr} {i:Nat} {v:Value} (h:w.cell? (a.add i)=some v):a.add i=⟨a.block,a.off + i,none⟩ ∧ w.cell? ⟨a.block,a.off + i,none⟩=some v ∧ a.block < w.heap.size:=by
 have key:a.add i=⟨a.block,a.off + i,none⟩:=by
  unfold Addr.add
  split
  ·rename_i e; subst e
   rw [Addr.add_zero'] at h
   obtain ⟨b,o,s⟩:=a
   cases s with
   | none=>rfl
   | some s=>simp [World.cell?] at h; split at h <;> simp_all
  ·rfl
 rw [key] at h
 exact ⟨key,h,block_lt_of_cell (a:=⟨a.block,a.off + i,none⟩) h⟩
theorem spot_none {a:Addr} {v:Value} (h:w.cell? a=some v):a.spot=none:=by
 unfold World.cell? at h
 split at h
 ·split at h
  ·cases h
  ·rename_i hh; simpa using hh
 ·cases h
theorem take1 {cs:List Value} {i:Nat} {v:Value} (h:(cs.drop i).take 1=[v]):cs[i]? = some v:=by
 have:=congrArg List.head? h
 rw [List.head?_take,if_neg (by decide),List.head?_drop] at this
 simpa using this
theorem take1' {cs:List Value} {i:Nat} {v:Value} (h:cs[i]? = some v):(cs.drop i).take 1=[v]:=by
 have hi:i < cs.length:=(List.getElem?_eq_some_iff.1 h).1
 rw [List.drop_eq_getElem_cons hi,List.take_succ_cons,List.take_zero]
 rw [List.getElem?_eq_getElem hi] at h
 injection h with h
 rw [h]
theorem field_int {t:TypeId} {k:IntKind} {cs:List Value} {n i c:Nat} {xs:List (DataW H × List MemPlace)} {j:Nat} (hu:P.underlying t=some (.int k)) (hj:j < xs.length) (hc:c=1)
  (h:DataW.trod enc P w base spare held n t ((cs.drop i).take c)=xs[j]?) : ∃ x,cs[i]? = some (.int k x) ∧ (Lit.int k x).wf=true:=by
 subst hc
 rw [List.getElem?_eq_getElem hj] at h
 obtain ⟨x,h1,_,h2⟩:=DataW.trod_int hu h
 exact ⟨x,take1 h1,h2⟩
theorem field_slice {t e:TypeId} {cs:List Value} {n i c:Nat} {xs:List (DataW H × List MemPlace)} {j:Nat} (hu:P.underlying t=some (.slice e)) (hj:j < xs.length) (hc:c=1)
  (h:DataW.trod enc P w base spare held n t ((cs.drop i).take c)=xs[j]?) : ∃ a l k,cs[i]? = some (.slice a l k):=by
 subst hc
 rw [List.getElem?_eq_getElem hj] at h
 obtain ⟨a,l,k,h1⟩:=Go.Joins.slice_form hu h
 exact ⟨a,l,k,take1 h1⟩
theorem roC_of {size:Nat} {g off:Nat} {len:Nat} {xs:List Value} (hs:0 < size) (hl:xs.length=len * size) (hx : ∀ i v,xs[i]? = some v → w.cell? ⟨g,off + i,none⟩=some v) {h:PH}:(RoC size (some ⟨g,off,none⟩) len xs).p (allOf w) h:=by
 refine ⟨hl,fun hn => ?_⟩
 have hpos:0 < xs.length:=by rw [hl]; exact Nat.mul_pos (by omega) hs
 have h0:=hx 0 xs[0] (List.getElem?_eq_getElem hpos)
 have hobj : ∃ cur ty fr,w.heap[g]? = some (.cells cur ty fr):=by
  unfold World.cell? at h0
  cases hg:w.heap[g]? with
  | none=>simp [hg] at h0
  | some o=>cases o <;> simp [hg] at h0 ⊢
 obtain ⟨cur,ty,fr,hg⟩:=hobj
 refine ⟨g,off,cur,ty,fr,rfl,hg,List.ext_getElem? fun i => ?_⟩
 rw [List.getElem?_take]
 split
 ·rename_i hi
  have hxi:=hx i xs[i] (List.getElem?_eq_getElem hi)
  rw [cell_at hg] at hxi
  rw [List.getElem?_drop,List.getElem?_eq_getElem hi]
  simpa using hxi
 ·rename_i hi
  rw [List.getElem?_eq_none (by omega)]
theorem bytes_of_trod {fuel:Nat} {v:Value} {x:DataW H × List MemPlace} (h:DataW.trod enc Tryz.prog w 0 (fun _=>true) true fuel 28 [v]=some x) (hs:Small Tryz.prog 28 x.1) :
  ∃ (a:Option Addr) (l:List UInt8) (c:Nat),v = .slice a l.length c ∧ l.length ≤ 140737488355328 ∧ ∀ h,(RoB a l.length l).p (allOf w) h:=by
 rcases open_slice1 Tryz.underlying28 (by kernel_rfl) h with ⟨hcs,hx⟩ | ⟨a,len,cap,m,n,V,D,Pl,hcs,_,hl,_,hm,hx0,hx⟩
 ·simp at hcs
  subst hcs
  exact ⟨none,[],0,rfl,by simp,fun h=>RoC.nil _ _ _ _⟩
 ·simp at hcs
  subst hcs
  have hlm:len ≤ m:=by rw [hm]; simp only [if_true]; exact hl
  have hx' : ∀ i,i < len → ∃ q:UInt8,w.cell? (a.add i)=some (u8v q):=fun i hi=>by
   obtain ⟨h1,h2⟩:=hx i (by omega)
   obtain ⟨q,hq,_,hw⟩:=DataW.trod_int Tryz.underlying5 h2
   simp at hq
   simp only [Lit.wf,Bool.and_eq_true,decide_eq_true_eq] at hw
   have h0:(0:Int) ≤ q:=hw.1
   have h255:q ≤ 255:=hw.2
   refine ⟨UInt8.ofNat q.toNat,?_⟩
   rw [h1,hq]
   have e:((UInt8.ofNat q.toNat).toNat:Int)=q:=by
    rw [UInt8.toNat_ofNat']
    omega
   unfold u8v
   rw [e]
  obtain ⟨z,hz⟩:=choose_lt (p:=fun i q=>w.cell? (a.add i)=some (u8v q)) hx'
  have hb:len ≤ 140737488355328:=by
   rw [hx0] at hs
   have:=hs.len Tryz.underlying28
   have hb:Tryz.prog.bytesOf 5=1:=by kernel_rfl
   rw [hb] at this
   unfold reachBytes at this
   simp at this
   omega
  have hlen:((List.range len).map z).length=len:=by simp
  refine ⟨some a,(List.range len).map z,cap,by rw [hlen],by rw [hlen]; exact hb,fun h => ?_⟩
  rw [hlen]
  by_cases h0:len=0
  ·subst h0; exact RoC.nil _ _ _ _
  ·have hsp:a.spot=none:=by
    have:=hz 0 (by omega)
    rw [Addr.add_zero'] at this
    exact spot_none this
   obtain ⟨g,off,sp⟩:=a
   simp only at hsp
   subst hsp
   refine roC_of (by decide) (by simp) fun i v hv => ?_
   have hi:i < len:=by have:=(List.getElem?_eq_some_iff.1 hv).1; simpa using this
   have:=(addr_plain (hz i hi)).2.1
   rw [this]
   simp [hi] at hv
   rw [← hv]
set_option maxRecDepth 100000 in
theorem int_open {H:Type} (_enc:TypeId × Value → H) (base:Nat) (v:Value) (w:World) (hv:Value.okWide Tryz.prog w .any base 3 v) : ∃ n,v = .int .i64 n:=by
 simp only [Value.okWide,Tryz.underlying3,Cell.okWide] at hv
 unfold Cell.ok at hv
 rw [Tryz.underlying3] at hv
 cases v <;> first | exact hv.elim | exact ⟨_,by rw [hv.1]⟩
end
end Go.Proofs.YtdieogcemmnaaaaGreatDoor

namespace Go.Proofs.YtdieogcemmnaaaaGreatDoor
open Go.RowKit Go.ChangeShapes Go.WideShapes Go.Deep RX
set_option maxRecDepth 100000
def okI (x:Int):Prop := -9223372036854775808 ≤ x ∧ x ≤ 9223372036854775807
def HP.both (A B:HP):HP:=⟨fun R h=>A.p R h ∧ B.p R h,fun l l' ⟨a,b⟩=>⟨A.mono l l' a,B.mono l l' b⟩⟩
structure Kind (α:Type) where
 n:Nat
 pos:0 < n
 vals:α → List Value
 len : ∀ x,(vals x).length=n
 hp:α → HP
 pers : ∀ x R h h',(hp x).p R h → (hp x).p R h'
theorem Rd.impR {S T:HP} {a:Option Addr} {xs:List Value} (r:Rd T a xs) (h : ∀ R x,S.p R x → T.p R x):Rd S a xs:=fun w R x F s p=>r w R x F s (h R x p)
section
variable {α:Type}
def Ls (K:Kind α) (a:Option Addr) (n:Nat) (l:List α):HP :=
 ⟨fun R h=>l.length=n ∧ (RoC K.n a n (l.flatMap K.vals)).p R h ∧ ∀ x ∈ l,(K.hp x).p R h,
  fun lR lh ⟨h0,h1,h2⟩=>⟨h0,(RoC _ _ _ _).mono lR lh h1,fun x hx=>(K.hp x).mono lR lh (h2 x hx)⟩⟩
theorem Ls.pers {K:Kind α} {a:Option Addr} {n:Nat} {l:List α} {R h:PH} (h':PH) (H:(Ls K a n l).p R h):(Ls K a n l).p R h':=⟨H.1,H.2.1,fun x hx=>K.pers x _ _ _ (H.2.2 x hx)⟩
theorem Ls.rd {K:Kind α} {a:Option Addr} {n:Nat} {l:List α}:Rd (Ls K a n l) a (l.flatMap K.vals):=Rd.impR (RoC.rd K.n a n (l.flatMap K.vals)) fun _ _ H=>H.2.1
theorem flat_getL (f:α → List Value) (w:Nat) (hw : ∀ x,(f x).length=w) : ∀ (l:List α) (k j:Nat) (x:α),l[k]? = some x → j < w → (l.flatMap f)[k * w + j]? = (f x)[j]?
 | [],k,j,x,h,_=>by simp at h
 | y :: r,0,j,x,h,hj=>by
  simp at h; subst h
  rw [List.flatMap_cons,Nat.zero_mul,Nat.zero_add,List.getElem?_append_left (by rw [hw]; exact hj)]
 | y :: r,k + 1,j,x,h,hj=>by
  rw [List.flatMap_cons,List.getElem?_append_right (by rw [hw,Nat.succ_mul]; omega),hw,show (k + 1) * w + j - w=k * w + j by rw [Nat.succ_mul]; omega]
  exact flat_getL f w hw r k j x (by simpa using h) hj
theorem flat_lenL (f:α → List Value) (w:Nat) (hw : ∀ x,(f x).length=w) : ∀ l:List α,(l.flatMap f).length=l.length * w
 | []=>by simp
 | x :: l=>by rw [List.flatMap_cons,List.length_append,hw,flat_lenL f w hw l,List.length_cons,Nat.succ_mul,Nat.add_comm]
theorem Ls.load {K:Kind α} {t:TypeId} {d:TypeDesc} (hd:Tryz.prog.underlying t=some d) (ha:aggT Tryz.prog t=true) (hz:szT Tryz.prog t=K.n) {a:Option Addr} {n:Nat} {l:List α} {k:Nat} {x:α} (hk:l[k]? = some x) :
  ORead Tryz.prog (loadS t (.pointer (a.map fun y=>(y.add (k * K.n)).add 0))) (Ls K a n l) (.agg (K.vals x).toArray):=by
 refine loadN_ok (vs:=K.vals x) hd ha (Ls.rd (K:=K)) (k:=k * K.n) (off:=0) (by rw [K.len]; exact hz) (by rw [K.len]; exact K.pos) fun j v hj => ?_
 have hlt:j < K.n:=by
  have:=(List.getElem?_eq_some_iff.1 hj).1
  rw [K.len] at this; exact this
 rw [Nat.add_zero,flat_getL K.vals K.n K.len l k j x hk hlt]
 exact hj
theorem Ls.load1 {K:Kind α} {t:TypeId} {d:TypeDesc} (hd:Tryz.prog.underlying t=some d) (ha:aggT Tryz.prog t=false) (hz:szT Tryz.prog t=1) {a:Option Addr} {n:Nat} {l:List α} {k off:Nat} {x:α} {v:Value} (hk:l[k]? = some x) (hv:(K.vals x)[off]? = some v) :
  ORead Tryz.prog (loadS t (.pointer (a.map fun y=>(y.add (k * K.n)).add off))) (Ls K a n l) v:=by
 refine load1_ok hd ha hz (Ls.rd (K:=K)) (k:=k * K.n) (off:=off) ?_
 have hlt:off < K.n:=by
  have:=(List.getElem?_eq_some_iff.1 hv).1
  rw [K.len] at this; exact this
 rw [flat_getL K.vals K.n K.len l k off x hk hlt]
 exact hv
end
section
variable {H:Type} {enc:TypeId × Value → H} {w:World} {α:Type}
theorem slice_of_trod [Inhabited α] (K:Kind α) {t e:TypeId} (hu:Tryz.prog.underlying t=some (.slice e)) (hn:Tryz.prog.cellsOf e=K.n) (hb:1 ≤ Tryz.prog.bytesOf e)
  (el : ∀ {cs:List Value} {n:Nat} {x:DataW H × List MemPlace},DataW.trod enc Tryz.prog w 0 (fun _=>true) true n e cs=some x → Small Tryz.prog e x.1 → ∃ m:α,cs=K.vals m ∧ ∀ h,(K.hp m).p (allOf w) h)
  {fuel:Nat} {v:Value} {x:DataW H × List MemPlace} (h:DataW.trod enc Tryz.prog w 0 (fun _=>true) true fuel t [v]=some x) (hs:Small Tryz.prog t x.1) :
  ∃ (a:Option Addr) (l:List α) (c:Nat),v = .slice a l.length c ∧ l.length ≤ 140737488355328 ∧ ∀ h,(Ls K a l.length l).p (allOf w) h:=by
 rcases open_slice hu h with ⟨hcs,_⟩ | ⟨a,len,cap,m,n,D,Pl,hcs,_,hl,hmax,hm,hxx,hx⟩
 ·simp at hcs
  subst hcs
  exact ⟨none,[],0,rfl,by simp,fun h=>⟨rfl,RoC.nil _ _ _ _,fun x hx=>by cases hx⟩⟩
 ·simp at hcs
  subst hcs
  rw [hn] at hx
  have hlm:len ≤ m:=by rw [hm]; simp only [if_true]; exact hl
  rw [hxx] at hs
  have hbl:len ≤ 140737488355328:=by
   have:=hs.len hu
   unfold reachBytes at this
   simp at this
   have h2:(len + (m - len)) * 1 ≤ (len + (m - len)) * Tryz.prog.bytesOf e:=Nat.mul_le_mul_left _ hb
   omega
  have hx' : ∀ i,i < len → ∃ q:α,(∀ j,j < K.n → w.cell? (a.add (i * K.n + j))=(K.vals q)[j]?) ∧ ∀ h,(K.hp q).p (allOf w) h:=fun i hi=>by
   obtain ⟨cs',h1,h2⟩:=hx i (by omega)
   obtain ⟨q,rfl,hr⟩:=el h2 (hs.elem hu (List.mem_map.2 ⟨i,List.mem_range.2 hi,rfl⟩))
   obtain ⟨_,_,hc⟩:=World.cells?_some h1
   refine ⟨q,fun j hj => ?_,hr⟩
   rw [← add_add,hc j hj]
  obtain ⟨ra,hra⟩:=choose_lt (p:=fun i (q:α)=>(∀ j,j < K.n → w.cell? (a.add (i * K.n + j))=(K.vals q)[j]?) ∧ ∀ h,(K.hp q).p (allOf w) h) hx'
  have hlen:((List.range len).map ra).length=len:=by simp
  refine ⟨some a,(List.range len).map ra,cap,by rw [hlen],by rw [hlen]; exact hbl,fun h=>⟨rfl,?_,fun x hx => ?_⟩⟩
  ·rw [hlen]
   by_cases h0:len=0
   ·subst h0; exact RoC.nil _ _ _ _
   ·have hsp:a.spot=none:=by
     have h1:=(hra 0 (by omega)).1 0 K.pos
     rw [Nat.zero_mul,Nat.add_zero,Addr.add_zero',List.getElem?_eq_getElem (by rw [K.len]; exact K.pos)] at h1
     exact spot_none h1
    obtain ⟨g,off,sp⟩:=a
    simp only at hsp
    subst hsp
    have hlen2:(((List.range len).map ra).flatMap K.vals).length=len * K.n:=by rw [flat_lenL K.vals K.n K.len,hlen]
    refine roC_of K.pos hlen2 fun i v hv => ?_
    have hi:i < len * K.n:=by have:=(List.getElem?_eq_some_iff.1 hv).1; rw [hlen2] at this; exact this
    have hk:i / K.n < len:=Nat.div_lt_of_lt_mul (by rw [Nat.mul_comm]; exact hi)
    have hj:i % K.n < K.n:=Nat.mod_lt _ K.pos
    have e:i=(i / K.n) * K.n + i % K.n:=by rw [Nat.mul_comm]; exact (Nat.div_add_mod i K.n).symm
    have hg:((List.range len).map ra)[i / K.n]? = some (ra (i / K.n)):=by simp [hk]
    have h1:=flat_getL K.vals K.n K.len _ (i / K.n) (i % K.n) _ hg hj
    rw [← e] at h1
    have h2:=(hra (i / K.n) hk).1 (i % K.n) hj
    rw [← e] at h2
    rw [h1] at hv
    rw [hv] at h2
    exact (addr_plain h2).2.1
  ·obtain ⟨i,hi,rfl⟩:=List.mem_map.1 hx
   exact (hra i (List.mem_range.1 hi)).2 h
theorem slice_open [Inhabited α] (K:Kind α) {t e:TypeId} (hu:Tryz.prog.underlying t=some (.slice e)) (hn:Tryz.prog.cellsOf e=K.n) (hb:1 ≤ Tryz.prog.bytesOf e)
  (el : ∀ {cs:List Value} {n:Nat} {x:DataW H × List MemPlace},DataW.trod enc Tryz.prog w 0 (fun _=>true) true n e cs=some x → Small Tryz.prog e x.1 → ∃ m:α,cs=K.vals m ∧ ∀ h,(K.hp m).p (allOf w) h)
  {base:Nat} {v:Value} (hv:Value.okWide Tryz.prog w .any base t v) (h : ∃ d p,DataW.Trod enc Tryz.prog w 0 (fun _=>true) true t v d p ∧ Small Tryz.prog t d) :
  ∃ (a:Option Addr) (l:List α) (c:Nat),v = .slice a l.length c ∧ l.length ≤ 140737488355328 ∧ ∀ h,(Ls K a l.length l).p (allOf w) h:=by
 obtain ⟨b,len,cap,rfl⟩:=okWide_slice hu hv
 obtain ⟨d,p,⟨fuel,hf⟩,hsm⟩:=h
 exact slice_of_trod K hu hn hb el hf hsm
theorem int_wf {x:Int} (h:(Lit.int IntKind.i64 x).wf=true):okI x:=by
 have h2:(decide (IntKind.i64.min ≤ x) && decide (x ≤ IntKind.i64.max))=true:=h
 rw [Bool.and_eq_true] at h2
 exact ⟨of_decide_eq_true h2.1,of_decide_eq_true h2.2⟩
theorem int_openR {base:Nat} {v:Value} (hv:Value.okWide Tryz.prog w .any base 3 v) (h : ∃ d p,DataW.Trod enc Tryz.prog w 0 (fun _=>true) true 3 v d p ∧ Small Tryz.prog 3 d) : ∃ n,v = .int .i64 n ∧ okI n:=by
 obtain ⟨n,rfl⟩:=int_open enc base v w hv
 obtain ⟨d,p,⟨fuel,hf⟩,_⟩:=h
 obtain ⟨x,hx,_,hw⟩:=DataW.trod_int Tryz.underlying3 hf
 simp [Value.cells] at hx
 subst hx
 exact ⟨n,rfl,int_wf hw⟩
end
end Go.Proofs.YtdieogcemmnaaaaGreatDoor

namespace Go.Proofs.YtdieogcemmnaaaaGreatDoor
open Go.Proofs.YtdieogcemmnaaaaGreatDoor RX
structure PK (α:Type) where
 e:TypeId
 n:Nat
 pos:0 < n
 vals:α → List Value
 len : ∀ x,(vals x).length=n
 one : ∀ x,∀ u ∈ vals x,u.oneCell'=true
 rep:α → HP
section
variable {α:Type} (K:PK α)
def PL (a:Option Addr) (n c:Nat) (l:List α):HP:=HP.and (l.length=n) (HP.sep (OwC K.e K.n a n c (l.flatMap K.vals)) (sepN (l.map K.rep)))
def PRest (a:Option Addr) (n c:Nat) (l:List α) (k:Nat):HP:=HP.and (l.length=n) (HP.sep (OwC K.e K.n a n c (l.flatMap K.vals)) (sepN ((l.map K.rep).eraseIdx k)))
variable {K}
theorem PL.isAt {a:Option Addr} {n c:Nat} {l:List α} {R h:PH} (H:(PL K a n c l).p R h) (hn:n ≠ 0):a.isSome=true:=OwC.some (HP.sep_left H.2) (by omega)
theorem PL.len {a:Option Addr} {n c:Nat} {l:List α} {R h:PH} (H:(PL K a n c l).p R h):l.length=n:=H.1
theorem PL.zero (x:Nat) {R h:PH} (H:(HP.one x (.cells #[] K.e (0,0))).p R h):(PL K (some ⟨x,0,none⟩) 0 0 []).p R h :=
 ⟨rfl,HP.sep_tt ⟨by simp,.inr ⟨x,#[],rfl,H,Nat.le_refl _,by unfold maxLen; omega,by simp,by simp⟩⟩⟩
theorem PL.lit (x:Nat) (l:List α) (hb:l.length ≤ 1000) {R h:PH} (H:(HP.sep (HP.one x (.cells (l.flatMap K.vals).toArray K.e (0,0))) (sepN (l.map K.rep))).p R h):(PL K (some ⟨x,0,none⟩) l.length l.length l).p R h:=by
 refine ⟨rfl,HP.sep_mono H (fun y hy=>⟨flat_lenL K.vals K.n K.len l,.inr ⟨x,_,rfl,hy,Nat.le_refl _,by unfold maxLen; omega,?_,?_⟩⟩) fun _ h=>h⟩
 ·rw [List.size_toArray]; exact flat_lenL K.vals K.n K.len l
 ·show (l.flatMap K.vals).take _=_
  rw [← flat_lenL K.vals K.n K.len l,List.take_length]
theorem PL.app (t ty:TypeId) {i:TypeInfo} {z:Value} (ht:Tryz.prog.underlying t=some (.slice K.e)) (hi:Tryz.prog.info? K.e=some i) (hz:i.zero=some z) (hzs:z.cells.size=i.size) (hs:i.size=K.n) (hby:i.bytes ≤ 1000)
  (a:Option Addr) (n c:Nat) (l:List α) (b:Nat) (x:α) (Q:HP) (hb:n ≤ 1000000000) :
  OTri Tryz.prog (appS t ty (.slice a n c) (.slice (some ⟨b,0,none⟩) 1 1)) (HP.sep (PL K a n c l) (HP.sep (HP.one b (.cells (K.vals x).toArray K.e (0,0))) (HP.sep (K.rep x) Q)))
   (fun v=>HP.ex fun a'=>HP.ex fun c'=>HP.and (v = .slice a' (n + 1) c') (HP.sep (PL K a' (n + 1) c' (l ++ [x])) Q)):=by
 have hr:=one_rd b (K.vals x).toArray K.e
 have hbn:(n + 1) * i.bytes ≤ 140737488355328:=by
  have:=Nat.mul_le_mul (show n + 1 ≤ 1000000001 by omega) hby
  omega
 have:=append_ok t ty K.e i z ht hi hz hzs (by rw [hs]; exact K.pos) a n c (l.flatMap K.vals) (HP.one b (.cells (K.vals x).toArray K.e (0,0))) ⟨b,0,none⟩ 1 1 (K.vals x) (by simpa using hr) (by rw [K.len,hs,Nat.one_mul]) (K.one x) (by unfold maxLen; omega) hbn
 rw [hs] at this
 refine OTri.fact (φ:=l.length=n) (fun R h H=>(HP.sep_left H).1) fun hl => ?_
 refine (this.frame (HP.sep (sepN (l.map K.rep)) (HP.sep (K.rep x) Q))).weak (fun R h H => ?_) ?_
 ·have H1:=HP.sep_assoc (HP.sep_mono H (fun _ h=>h.2) fun _ h=>h)
  exact HP.sep_assoc' (HP.pick [_,_,_,_,_] [0,2,1,3,4] (by decide) rfl H1)
 ·rintro v R h ⟨h1,h2,d,l1,l2,⟨a',c',rfl,H⟩,HU⟩
  refine ⟨a',c',rfl,?_⟩
  have H1:=HP.sep_assoc ⟨h1,h2,d,l1,l2,H,HU⟩
  have H2:(HP.sep (OwC K.e K.n a' (n + 1) c' (l.flatMap K.vals ++ K.vals x)) (HP.sep (sepN (l.map K.rep)) (HP.sep (K.rep x) Q))).p R h:=HP.sep_mono H1 (fun _ h=>h) fun y hy=>HP.sep_right hy
  have e:(l ++ [x]).map K.rep=l.map K.rep ++ [K.rep x]:=by simp
  have H3:(HP.sep (OwC K.e K.n a' (n + 1) c' (l.flatMap K.vals ++ K.vals x)) (HP.sep (sepN ((l ++ [x]).map K.rep)) Q)).p R h:=HP.sep_mono H2 (fun _ h=>h) fun y hy=>by
   have:=HP.sep_assoc' hy
   rw [e]
   exact HP.sep_mono this (fun z hz=>(sepN_app (l:=l.map K.rep) (m:=[K.rep x])).2 hz) fun _ h=>h
  have H4:=HP.sep_assoc' H3
  refine HP.sep_mono H4 (fun y hy=>⟨by simp [hl],?_⟩) fun _ h=>h
  have e2:(l ++ [x]).flatMap K.vals=l.flatMap K.vals ++ K.vals x:=by simp
  rw [e2]
  exact hy
theorem PL.rd (a:Option Addr) (n c:Nat) (l:List α):Rd (PL K a n c l) a (l.flatMap K.vals):=Rd.impR (Rd.left (B:=sepN (l.map K.rep)) (OwC.rd K.e K.n a n c (l.flatMap K.vals))) fun R h H=>H.2
theorem PL.focus {a:Option Addr} {n c:Nat} {l:List α} {k:Nat} {x:α} (hk:l[k]? = some x) {R h:PH} (H:(PL K a n c l).p R h):(HP.sep (K.rep x) (PRest K a n c l k)).p R h:=by
 have H1:=HP.sep_mono H.2 (fun _ h=>h) fun y hy=>sepN_focus (k:=k) (x:=K.rep x) (by simp [hk]) hy
 exact HP.sep_mono (HP.swap H1) (fun _ h=>h) fun y hy=>⟨H.1,hy⟩
theorem PL.load1 {d:TypeDesc} (hd:Tryz.prog.underlying K.e=some d) (ha:aggT Tryz.prog K.e=false) (hz:szT Tryz.prog K.e=1) (hn:K.n=1) {a:Option Addr} {n c:Nat} {l:List α} {k:Nat} {x:α} {v0:Value} (hv:K.vals x=[v0]) (hk:l[k]? = some x) :
  OTri Tryz.prog (loadS K.e (.pointer (a.map fun y=>(y.add (k * 1)).add 0))) (PL K a n c l) (fun v=>HP.and (v=v0) (HP.sep (K.rep x) (PRest K a n c l k))):=by
 refine OTri.ofRead (load1_ok hd ha hz (PL.rd a n c l) (k:=k * 1) (off:=0) (v:=v0) ?_) fun R h H=>⟨rfl,PL.focus hk H⟩
 have:=flat_getL K.vals K.n K.len l k 0 x hk (by omega)
 rw [hn,hv] at this
 exact this
theorem flat_set {f:α → List Value} {l:List α} {k:Nat} {x y:α} (hk:l[k]? = some x) (e:f y=f x):(l.set k y).flatMap f=l.flatMap f:=by
 have hlt:k < l.length:=(List.getElem?_eq_some_iff.1 hk).1
 have:(l.set k y).map f=l.map f:=by
  rw [List.map_set,e]
  refine List.ext_getElem? fun j => ?_
  rw [List.getElem?_set]
  split
  ·rename_i hj; subst hj; rw [if_pos (by simpa using hlt),List.getElem?_map,hk]; rfl
  ·rfl
 rw [List.flatMap_def,List.flatMap_def,this]
theorem PL.join {a:Option Addr} {n c:Nat} {l:List α} {k:Nat} {x y:α} (hk:l[k]? = some x) (e:K.vals y=K.vals x) {R h:PH} (H:(HP.sep (PRest K a n c l k) (K.rep y)).p R h):(PL K a n c (l.set k y)).p R h:=by
 have hlt:k < l.length:=(List.getElem?_eq_some_iff.1 hk).1
 obtain ⟨h1,h2,d,l1,l2,⟨hn,H⟩,HU⟩:=H
 refine ⟨by simp [hn],?_⟩
 have H1:=HP.sep_assoc ⟨h1,h2,d,l1,l2,H,HU⟩
 refine HP.sep_mono H1 (fun z hz=>by rw [flat_set hk e]; exact hz) fun z hz => ?_
 rw [List.map_set]
 exact sepN_unfocus (by simpa using hlt) (HP.sep_comm hz)
end
end Go.Proofs.YtdieogcemmnaaaaGreatDoor

namespace Go.Proofs.YtdieogcemmnaaaaGreatDoor.RX
set_option maxRecDepth 100000
-- tideline/tidelineref09.number: ρ:=[.i n]
def t_qNumber:T :=
(.br (.o2 .le (.i 0) (.v 0))
(.ret (.w (.a (.bool (.o2 .le (.v 0) (.i 2147483647))))) [])
(.ret (.w (.a (.bool (.c false)))) []))
theorem tree_qNumber:tree Tryz.prog { keep:=[126,58,124,99999,125,123,57,99999,99999,99999,117,99999] } Tryz.f117 [.a (.int .i64 (.v 0))] [] 1=t_qNumber:=by kernel_rfl
def t_qLast:T :=
(.need (.o1 (.inr .i64) (.o2 .sub (.o1 .ofNat (.v 2)) (.i 1)))
(.loop [.i,.i] [.e (.o1 .neg (.o1 .neg (.i 0))),.e (.o1 .neg (.o1 .neg (.o2 .sub (.o1 .ofNat (.v 2)) (.i 1))))]
(.br (.o2 .le (.i 0) (.v 8))
(.need (.o2 .lt (.v 8) (.o1 .ofNat (.v 2)))
(.need (.o1 .isSome (.v 1))
(.read (.load 3 (.tmp 22)) 3 [(22,.w (.a (.eptr 1 (.v 8) 5 0)))] [(.a 1,.prop 4)] [.i] (.w (.a (.int .i64 (.v 9))))
(.br (.o2 .eq (.v 9) (.v 6))
(.read (.load 3 (.tmp 32)) 3 [(32,.w (.a (.eptr 1 (.v 8) 5 1)))] [(.a 1,.prop 4)] [.i] (.w (.a (.int .i64 (.v 10))))
(.ret (.w (.a (.int .i64 (.v 10)))) [(.b (.v 0),.cells [.sl (.v 1) (.v 2) (.v 3),.int .i64 (.v 5)] 104),(.a 1,.prop 4)]))
(.need (.o1 (.inr .i64) (.o2 .sub (.v 8) (.i 1)))
(.again 0 [.e (.o1 .neg (.o1 .neg (.v 7))),.e (.o1 .neg (.o1 .neg (.o2 .sub (.v 8) (.i 1))))]))))))
(.ret (.w (.a (.int .i64 (.i 0)))) [(.b (.v 0),.cells [.sl (.v 1) (.v 2) (.v 3),.int .i64 (.v 5)] 104),(.a 1,.prop 4)]))))
theorem tree_qLast:tree Tryz.prog { keep:=[126,58,124,99999,125,123,57,99999,99999,99999,117,99999] } Tryz.f126 [.a (.ptr (.v 0) 0),.a (.int .i64 (.v 6))] [(.b (.v 0),.cells [.sl (.v 1) (.v 2) (.v 3),.int .i64 (.v 5)] 104),(.a 1,.prop 4)] 7=t_qLast:=by kernel_rfl
def t_qEpoch:T :=
(.call 126 [.a (.ptr (.v 0) 0),.a (.int .i64 (.i 4))] [(.b (.v 0),.prop 1)] [.i] (.w (.a (.int .i64 (.v 2)))) [(.b (.v 0),.prop 1)]
(.ret (.w (.a (.int .i64 (.v 2)))) [(.b (.v 0),.prop 1)]))
theorem tree_qEpoch:tree Tryz.prog { keep:=[126,58,124,99999,125,123,57,99999,99999,99999,117,99999] } Tryz.f58 [.a (.ptr (.v 0) 0)] [(.b (.v 0),.prop 1)] 2=t_qEpoch:=by kernel_rfl
def t_qLow:T :=
(.call 126 [.a (.ptr (.v 0) 0),.a (.int .i64 (.i 3))] [(.b (.v 0),.prop 1)] [.i] (.w (.a (.int .i64 (.v 2)))) [(.b (.v 0),.prop 1)]
(.ret (.w (.a (.int .i64 (.v 2)))) [(.b (.v 0),.prop 1)]))
theorem tree_qLow:tree Tryz.prog { keep:=[126,58,124,99999,125,123,57,99999,99999,99999,117,99999] } Tryz.f124 [.a (.ptr (.v 0) 0)] [(.b (.v 0),.prop 1)] 2=t_qLow:=by kernel_rfl
def t_qCell:T :=
(.new
(.need (.o1 (.inr .i64) (.o2 .sub (.o1 .ofNat (.v 2)) (.i 1)))
(.loop [.i] [.e (.o1 .neg (.o1 .neg (.o2 .sub (.o1 .ofNat (.v 2)) (.i 1))))]
(.br (.o2 .le (.i 0) (.v 8))
(.need (.o2 .lt (.v 8) (.o1 .ofNat (.v 2)))
(.need (.o1 .isSome (.v 1))
(.read (.load 108 (.tmp 22)) 108 [(22,.w (.a (.eptr 1 (.v 8) 5 0)))] [(.a 1,.prop 4)] [.i,.i,.i,.i,.a,.n,.n] (.w (.agg [.int .i64 (.v 9),.int .i64 (.v 10),.int .i64 (.v 11),.int .i64 (.v 12),.sl (.v 13) (.v 14) (.v 15)]))
(.new
(.br (.o2 .le (.v 9) (.i 2))
(.br (.o2 .eq (.v 10) (.v 6))
(.ret (.w (.agg [.int .i64 (.v 9),.sl (.v 13) (.v 14) (.v 15)])) [(.b (.v 0),.cells [.sl (.v 1) (.v 2) (.v 3),.int .i64 (.v 5)] 104),(.a 1,.prop 4)])
(.need (.o1 (.inr .i64) (.o2 .sub (.v 8) (.i 1)))
(.again 0 [.e (.o1 .neg (.o1 .neg (.o2 .sub (.v 8) (.i 1))))])))
(.need (.o1 (.inr .i64) (.o2 .sub (.v 8) (.i 1)))
(.again 0 [.e (.o1 .neg (.o1 .neg (.o2 .sub (.v 8) (.i 1))))])))))))
(.ret (.w (.agg [.int .i64 (.i 0),.sl .nil (.n 0) (.n 0)])) [(.b (.v 0),.cells [.sl (.v 1) (.v 2) (.v 3),.int .i64 (.v 5)] 104),(.a 1,.prop 4)])))))
theorem tree_qCell:tree Tryz.prog { keep:=[126,58,124,99999,125,123,57,99999,99999,99999,117,99999] } Tryz.f125 [.a (.ptr (.v 0) 0),.a (.int .i64 (.v 6))] [(.b (.v 0),.cells [.sl (.v 1) (.v 2) (.v 3),.int .i64 (.v 5)] 104),(.a 1,.prop 4)] 7=t_qCell:=by kernel_rfl
def t_qAsk:T :=
(.call 58 [.a (.ptr (.v 0) 0)] [(.b (.v 0),.prop 1)] [.i] (.w (.a (.int .i64 (.v 4)))) [(.b (.v 0),.prop 1)]
(.br (.o1 .not (.o2 .eq (.v 2) (.v 4)))
(.ret (.w (.a (.int .i64 (.i 8)))) [(.b (.v 0),.prop 1)])
(.br (.o2 .lt (.v 3) (.i 0))
(.ret (.w (.a (.int .i64 (.i 2)))) [(.b (.v 0),.prop 1)])
(.br (.o2 .lt (.i 4294967296) (.v 3))
(.ret (.w (.a (.int .i64 (.i 2)))) [(.b (.v 0),.prop 1)])
(.ret (.w (.a (.int .i64 (.i 0)))) [(.b (.v 0),.prop 1)])))))
theorem tree_qAsk:tree Tryz.prog { keep:=[126,58,124,99999,125,123,57,99999,99999,99999,117,99999] } Tryz.f123 [.a (.ptr (.v 0) 0),.a (.int .i64 (.v 2)),.a (.int .i64 (.v 3))] [(.b (.v 0),.prop 1)] 4=t_qAsk:=by kernel_rfl
def t_qRead9:T :=
(.new
(.call 123 [.a (.ptr (.v 0) 0),.a (.int .i64 (.v 2)),.a (.int .i64 (.v 3))] [(.b (.v 0),.prop 1)] [.i] (.w (.a (.int .i64 (.v 5)))) [(.b (.v 0),.prop 1)]
(.br (.o1 .not (.o2 .eq (.v 5) (.i 0)))
(.ret (.tup [.agg [.int .i64 (.i 0),.sl .nil (.n 0) (.n 0)],.a (.int .i64 (.v 5))]) [(.b (.v 0),.prop 1)])
(.call 124 [.a (.ptr (.v 0) 0)] [(.b (.v 0),.prop 1)] [.i] (.w (.a (.int .i64 (.v 6)))) [(.b (.v 0),.prop 1)]
(.br (.o2 .lt (.v 3) (.v 6))
(.ret (.tup [.agg [.int .i64 (.i 0),.sl .nil (.n 0) (.n 0)],.a (.int .i64 (.i 11))]) [(.b (.v 0),.prop 1)])
(.call 125 [.a (.ptr (.v 0) 0),.a (.int .i64 (.v 3))] [(.b (.v 0),.prop 1)] [.i,.a,.n,.n,.p] (.w (.agg [.int .i64 (.v 7),.sl (.v 8) (.v 9) (.v 10)])) [(.a 8,.prop 11),(.b (.v 0),.prop 1)]
(.new
(.br (.o2 .eq (.v 7) (.i 0))
(.ret (.tup [.agg [.int .i64 (.v 7),.sl (.v 8) (.v 9) (.v 10)],.a (.int .i64 (.i 9))]) [(.b (.v 0),.prop 1),(.a 8,.prop 11)])
(.ret (.tup [.agg [.int .i64 (.v 7),.sl (.v 8) (.v 9) (.v 10)],.a (.int .i64 (.i 0))]) [(.b (.v 0),.prop 1),(.a 8,.prop 11)])))))))))
theorem tree_qRead9:tree Tryz.prog { keep:=[126,58,124,99999,125,123,57,99999,99999,99999,117,99999] } Tryz.f57 [.a (.ptr (.v 0) 0),.a (.int .i64 (.v 2)),.a (.int .i64 (.v 3))] [(.b (.v 0),.prop 1)] 4=t_qRead9:=by kernel_rfl
end Go.Proofs.YtdieogcemmnaaaaGreatDoor.RX

namespace Go.Proofs.YtdieogcemmnaaaaGreatDoor.RX
set_option maxRecDepth 100000
-- tideline/octet.Read: ρ:=[.a ba,.n bl,.n bc,.p bP]
def t_rRead:T :=
(.call 73 [.a (.sl (.v 0) (.v 1) (.v 2))] [(.a 0,.prop 3)] [.a,.n,.n,.p,.p] (.w (.a (.sl (.v 4) (.v 5) (.v 6)))) [(.a 4,.prop 7),(.a 0,.prop 8)]
(.new
(.ret (.w (.a (.ptr (.v 9) 0))) [(.a 0,.prop 8),(.b (.v 9),.cells [.sl (.v 4) (.v 5) (.v 6),.bool (.c false)] 247),(.a 4,.prop 7)])))
theorem tree_rRead:tree Tryz.prog { } Tryz.f85 [.a (.sl (.v 0) (.v 1) (.v 2))] [(.a 0,.prop 3)] 4=t_rRead:=by kernel_rfl
def t_rFail:T :=
(.ret (.tup []) [(.b (.v 0),.cells [.sl .nil (.n 0) (.n 0),.bool (.c true)] 247),(.a 1,.prop 4)])
theorem tree_rFail:tree Tryz.prog { } Tryz.f203 [.a (.ptr (.v 0) 0)] [(.b (.v 0),.cells [.sl (.v 1) (.v 2) (.v 3),.bool (.v 5)] 247),(.a 1,.prop 4)] 6=t_rFail:=by kernel_rfl
def t_rTake:T :=
(.br (.v 5)
(.ret (.w (.a (.sl .nil (.n 0) (.n 0)))) [(.b (.v 0),.cells [.sl (.v 1) (.v 2) (.v 3),.bool (.v 5)] 247),(.a 1,.prop 4)])
(.br (.o2 .lt (.o1 .ofNat (.v 2)) (.v 6))
(.call 203 [.a (.ptr (.v 0) 0)] [(.b (.v 0),.cells [.sl (.v 1) (.v 2) (.v 3),.bool (.v 5)] 247),(.a 1,.prop 4)] [.a,.n,.n,.p,.c] (.tup []) [(.b (.v 0),.cells [.sl (.v 7) (.v 8) (.v 9),.bool (.v 11)] 247),(.a 7,.prop 10)]
(.ret (.w (.a (.sl .nil (.n 0) (.n 0)))) [(.b (.v 0),.cells [.sl (.v 7) (.v 8) (.v 9),.bool (.v 11)] 247),(.a 7,.prop 10)]))
(.read (.slice 28 (.tmp 22) (some (.const (.int .i64 0))) (some (.tmp 23)) (some (.tmp 24))) 28 [(22,.w (.a (.sl (.v 1) (.v 2) (.v 3)))),(23,.w (.a (.int .i64 (.v 6)))),(24,.w (.a (.int .i64 (.v 6))))] [(.a 1,.prop 4)] [.a,.n,.n] (.w (.a (.sl (.v 7) (.v 8) (.v 9))))
(.read (.slice 28 (.tmp 30) (some (.tmp 31)) none none) 28 [(30,.w (.a (.sl (.v 1) (.v 2) (.v 3)))),(31,.w (.a (.int .i64 (.v 6))))] [(.a 1,.prop 4)] [.a,.n,.n] (.w (.a (.sl (.v 10) (.v 11) (.v 12))))
(.ret (.w (.a (.sl (.v 7) (.v 8) (.v 9)))) [(.b (.v 0),.cells [.sl (.v 10) (.v 11) (.v 12),.bool (.v 5)] 247),(.a 1,.prop 4)])))))
theorem tree_rTake:tree Tryz.prog { } Tryz.f202 [.a (.ptr (.v 0) 0),.a (.int .i64 (.v 6))] [(.b (.v 0),.cells [.sl (.v 1) (.v 2) (.v 3),.bool (.v 5)] 247),(.a 1,.prop 4)] 7=t_rTake:=by kernel_rfl
def t_rNumber:T :=
(.call 199 [.a (.int .i64 (.v 2))] [] [.i] (.w (.a (.int .i64 (.v 3)))) []
(.call 202 [.a (.ptr (.v 0) 0),.a (.int .i64 (.v 3))] [(.b (.v 0),.prop 1)] [.a,.n,.n,.p,.p] (.w (.a (.sl (.v 4) (.v 5) (.v 6)))) [(.a 4,.prop 7),(.b (.v 0),.prop 8)]
(.loop [.i,.i] [.e (.o1 .neg (.o1 .neg (.i 0))),.e (.o1 .neg (.o1 .neg (.i 0)))]
(.br (.o2 .lt (.v 10) (.o1 .ofNat (.v 5)))
(.need (.o2 .le (.i 0) (.v 10))
(.need (.o1 .isSome (.v 4))
(.read (.load 5 (.tmp 15)) 5 [(15,.w (.a (.eptr 4 (.v 10) 1 0)))] [(.a 4,.prop 7)] [.i] (.w (.a (.int .u8 (.v 11))))
(.need (.o1 (.inr .u64) (.v 11))
(.need (.o1 (.inr .i64) (.o2 .add (.v 10) (.i 1)))
(.again 0 [.e (.o1 .neg (.o1 .neg (.o2 (.bit .or .u64) (.o2 (.shl .u64) (.v 9) (.i 8)) (.v 11)))),.e (.o1 .neg (.o1 .neg (.o2 .add (.v 10) (.i 1))))]))))))
(.ret (.w (.a (.int .u64 (.v 9)))) [(.b (.v 0),.prop 8)])))))
theorem tree_rNumber:tree Tryz.prog { } Tryz.f153 [.a (.ptr (.v 0) 0),.a (.int .i64 (.v 2))] [(.b (.v 0),.prop 1)] 3=t_rNumber:=by kernel_rfl
def t_rTold:T :=
(.call 153 [.a (.ptr (.v 0) 0),.a (.int .i64 (.i 4))] [(.b (.v 0),.cells [.sl (.v 1) (.v 2) (.v 3),.bool (.v 5)] 247),(.a 1,.prop 4)] [.i,.a,.n,.n,.p,.c] (.w (.a (.int .u64 (.v 7)))) [(.b (.v 0),.cells [.sl (.v 8) (.v 9) (.v 10),.bool (.v 12)] 247),(.a 8,.prop 11)]
(.br (.v 12)
(.ret (.w (.a (.int .i64 (.i 0)))) [(.b (.v 0),.cells [.sl (.v 8) (.v 9) (.v 10),.bool (.v 12)] 247),(.a 8,.prop 11)])
(.br (.o2 .lt (.v 6) (.o1 (.wrap .i64) (.v 7)))
(.call 203 [.a (.ptr (.v 0) 0)] [(.b (.v 0),.cells [.sl (.v 8) (.v 9) (.v 10),.bool (.v 12)] 247),(.a 8,.prop 11)] [.a,.n,.n,.p,.c] (.tup []) [(.b (.v 0),.cells [.sl (.v 13) (.v 14) (.v 15),.bool (.v 17)] 247),(.a 13,.prop 16)]
(.ret (.w (.a (.int .i64 (.i 0)))) [(.b (.v 0),.cells [.sl (.v 13) (.v 14) (.v 15),.bool (.v 17)] 247),(.a 13,.prop 16)]))
(.ret (.w (.a (.int .i64 (.o1 (.wrap .i64) (.v 7))))) [(.b (.v 0),.cells [.sl (.v 8) (.v 9) (.v 10),.bool (.v 12)] 247),(.a 8,.prop 11)]))))
theorem tree_rTold:tree Tryz.prog { } Tryz.f154 [.a (.ptr (.v 0) 0),.a (.int .i64 (.v 6))] [(.b (.v 0),.cells [.sl (.v 1) (.v 2) (.v 3),.bool (.v 5)] 247),(.a 1,.prop 4)] 7=t_rTold:=by kernel_rfl
def t_rByte:T :=
(.call 153 [.a (.ptr (.v 0) 0),.a (.int .i64 (.i 1))] [(.b (.v 0),.prop 1)] [.i,.p] (.w (.a (.int .u64 (.v 2)))) [(.b (.v 0),.prop 3)]
(.ret (.w (.a (.int .u8 (.o1 (.wrap .u8) (.v 2))))) [(.b (.v 0),.prop 3)]))
theorem tree_rByte:tree Tryz.prog { } Tryz.f156 [.a (.ptr (.v 0) 0)] [(.b (.v 0),.prop 1)] 2=t_rByte:=by kernel_rfl
def t_rInt:T :=
(.call 153 [.a (.ptr (.v 0) 0),.a (.int .i64 (.i 8))] [(.b (.v 0),.prop 1)] [.i,.p] (.w (.a (.int .u64 (.v 2)))) [(.b (.v 0),.prop 3)]
(.ret (.w (.a (.int .i64 (.o1 (.wrap .i64) (.v 2))))) [(.b (.v 0),.prop 3)]))
theorem tree_rInt:tree Tryz.prog { } Tryz.f86 [.a (.ptr (.v 0) 0)] [(.b (.v 0),.prop 1)] 2=t_rInt:=by kernel_rfl
def t_rBytes:T :=
(.call 154 [.a (.ptr (.v 0) 0),.a (.int .i64 (.v 2))] [(.b (.v 0),.prop 1)] [.i,.p] (.w (.a (.int .i64 (.v 3)))) [(.b (.v 0),.prop 4)]
(.call 202 [.a (.ptr (.v 0) 0),.a (.int .i64 (.v 3))] [(.b (.v 0),.prop 4)] [.a,.n,.n,.p,.p] (.w (.a (.sl (.v 5) (.v 6) (.v 7)))) [(.a 5,.prop 8),(.b (.v 0),.prop 9)]
(.call 73 [.a (.sl (.v 5) (.v 6) (.v 7))] [(.a 5,.prop 8)] [.a,.n,.n,.p,.p] (.w (.a (.sl (.v 10) (.v 11) (.v 12)))) [(.a 10,.prop 13),(.a 5,.prop 14)]
(.ret (.w (.a (.sl (.v 10) (.v 11) (.v 12)))) [(.b (.v 0),.prop 9),(.a 10,.prop 13)]))))
theorem tree_rBytes:tree Tryz.prog { } Tryz.f157 [.a (.ptr (.v 0) 0),.a (.int .i64 (.v 2))] [(.b (.v 0),.prop 1)] 3=t_rBytes:=by kernel_rfl
def t_rEnd:T :=
(.br (.v 5)
(.ret (.w (.a (.int .i64 (.i 3)))) [(.b (.v 0),.cells [.sl (.v 1) (.v 2) (.v 3),.bool (.v 5)] 247),(.a 1,.prop 4)])
(.br (.o2 .lt (.i 0) (.o1 .ofNat (.v 2)))
(.ret (.w (.a (.int .i64 (.i 3)))) [(.b (.v 0),.cells [.sl (.v 1) (.v 2) (.v 3),.bool (.v 5)] 247),(.a 1,.prop 4)])
(.ret (.w (.a (.int .i64 (.i 0)))) [(.b (.v 0),.cells [.sl (.v 1) (.v 2) (.v 3),.bool (.v 5)] 247),(.a 1,.prop 4)])))
theorem tree_rEnd:tree Tryz.prog { } Tryz.f89 [.a (.ptr (.v 0) 0)] [(.b (.v 0),.cells [.sl (.v 1) (.v 2) (.v 3),.bool (.v 5)] 247),(.a 1,.prop 4)] 6=t_rEnd:=by kernel_rfl
end Go.Proofs.YtdieogcemmnaaaaGreatDoor.RX

namespace Go.Proofs.YtdieogcemmnaaaaGreatDoor
set_option linter.unusedSimpArgs false
set_option linter.unusedVariables false
open Go.Proofs.YtdieogcemmnaaaaGreatDoor RX
def RRep (b:Nat) (s:List UInt8 × Bool):HP:=HP.ex fun a=>HP.ex fun c=>HP.and (s.1.length ≤ c ∧ s.1.length ≤ 140737488355328) (HP.sep (HP.one b (.cells #[.slice a s.1.length c,.bool s.2] 247)) (RoB a s.1.length s.1))
theorem rFail_ok (b:Nat) (s:List UInt8 × Bool):Tri Tryz.prog 203 #[.pointer (some ⟨b,0,none⟩)] (RRep b s) (fun v=>HP.and (v = .tuple #[]) (RRep b ([],true))):=by
 refine Tri.ex fun a=>Tri.ex fun c=>Tri.pure fun _ => ?_
 refine tri_of_tree (ρ:=[.n b,.a a,.n s.1.length,.n c,.p (RoB a s.1.length s.1),.c s.2]) mixed Tryz.func203 tree_rFail ?_
 unfold t_rFail
 simp only [T.den,E.prop,E.den,RX.look,F1.app,F2.app,Uni.int_i,Uni.nat_n,Uni.bool_c,Uni.str_s,Uni.adr_a,Uni.val_v,Uni.hp_p,hden,cden,V.den,W.den,A.den,BR.den,SA.den,FV.den,capV,exs,exP,allP,Cur.app,List.map_cons,List.map_nil,List.cons_append,List.nil_append,List.drop_succ_cons,List.drop_zero,List.length_cons,List.length_nil,Nat.zero_add,Nat.reduceAdd,Int.neg_neg,Bool.not_not,List.append_nil,Nat.add_zero,List.getElem?_cons_zero,List.getElem?_cons_succ,Decidable.not_not]
 exact .of fun R h H=>⟨trivial,none,0,⟨by simp,by simp⟩,HP.sep_mono H (fun _ h=>h) fun _ _=>RoC.nil _ _ _ _⟩
def takeR (s:List UInt8 × Bool) (n:Nat):List UInt8 × (List UInt8 × Bool):=if s.2 then ([],s) else if s.1.length < n then ([],([],true)) else (s.1.take n,(s.1.drop n,false))
theorem sz8:szT Tryz.prog 5=1:=by kernel_rfl
theorem rTake_ok (b:Nat) (s:List UInt8 × Bool) (n:Nat):Tri Tryz.prog 202 #[.pointer (some ⟨b,0,none⟩),.int .i64 n] (RRep b s)
  (fun v=>HP.ex fun a=>HP.ex fun c=>HP.and (v = .slice a (takeR s n).1.length c) (HP.sep (RoB a (takeR s n).1.length (takeR s n).1) (RRep b (takeR s n).2))):=by
 obtain ⟨l,wr⟩:=s
 refine Tri.ex fun a=>Tri.ex fun c=>Tri.pure fun hc => ?_
 simp only at hc
 refine tri_of_tree (ρ:=[.n b,.a a,.n l.length,.n c,.p (RoB a l.length l),.c wr,.i n]) mixed Tryz.func202 tree_rTake ?_
 unfold t_rTake
 simp only [T.den,E.prop,E.den,RX.look,F1.app,F2.app,Uni.int_i,Uni.nat_n,Uni.bool_c,Uni.str_s,Uni.adr_a,Uni.val_v,Uni.hp_p,hden,cden,V.den,W.den,A.den,BR.den,SA.den,FV.den,capV,exs,exP,allP,Cur.app,List.map_cons,List.map_nil,List.cons_append,List.nil_append,List.drop_succ_cons,List.drop_zero,List.length_cons,List.length_nil,Nat.zero_add,Nat.reduceAdd,Int.neg_neg,Bool.not_not,List.append_nil,Nat.add_zero,List.getElem?_cons_zero,List.getElem?_cons_succ,Decidable.not_not]
 refine ⟨fun h1 => .of fun R h H => ?_,fun h1=>⟨fun h2 => ?_,fun h2 => ?_⟩⟩
 ·subst h1
  simp only [takeR,if_true]
  exact ⟨none,0,rfl,RoC.join (RoC.nil _ _ R h) ⟨a,c,hc,H⟩⟩
 ·have e:takeR (l,wr) n=([],([],true)):=by simp only [takeR]; rw [if_neg h1,if_pos (by omega)]
  rw [e]
  refine (rFail_ok b (l,wr)).weak (fun R h H=>⟨a,c,hc,H⟩) ?_
  rintro v R h ⟨rfl,a',c',hc',H⟩
  refine ⟨a',_,c',RoB a' 0 [],true,rfl,.of fun R h H=>⟨none,0,rfl,RoC.join (RoC.nil _ _ R h) ⟨a',c',hc',H⟩⟩,H⟩
 ·have hn:n ≤ l.length:=by omega
  have hw:wr=false:=by simpa using h1
  have e:takeR (l,wr) n=(l.take n,(l.drop n,false)):=by simp only [takeR]; rw [if_neg h1,if_neg (by omega)]
  rw [e]
  obtain ⟨i,hi,_⟩:=info_parts info8
  have s1:=slice_ok und8 hi (RoB a l.length l) a l.length c (some 0) (some n) (some n) (Nat.zero_le _) (Nat.le_refl _) (by simp; omega) (fun _=>rfl)
  have s2:=slice_ok und8 hi (RoB a l.length l) a l.length c (some n) none none hn hc.1 (Nat.le_refl _) (fun h=>by cases h)
  refine ⟨_,_,_,s1,_,_,_,s2,?_⟩
  simp only [Option.getD_some,Option.getD_none,Nat.sub_zero,sz8,Nat.mul_one,Nat.zero_mul]
  refine .of fun R h H => ?_
  have hro:=HP.sep_right H
  have r1:=RoC.sub hro 0 n n (Nat.zero_le _) hn (Nat.le_refl _)
  have r2:=RoC.sub hro n l.length c hn (Nat.le_refl _) hc.1
  simp only [Nat.sub_zero,Nat.mul_one,Nat.zero_mul,List.drop_zero,← List.map_take,← List.map_drop] at r1 r2
  rw [List.take_of_length_le (by simp)] at r2
  have e1:(l.take n).length=n:=by simp [hn]
  have e2:(l.drop n).length=l.length - n:=by simp
  rw [← e2] at r2
  refine ⟨if n=0 then a else Option.map (fun x=>x.add 0) a,n,by rw [e1],?_⟩
  rw [e1]
  refine RoC.join r1 ⟨_,c - n,⟨by simp only [e2]; omega,by simp only [e2]; omega⟩,RoC.joinR r2 ?_⟩
  have:=HP.sep_left H
  simp only [e2]
  rw [hw] at this
  exact this
def beV (l:List UInt8):Nat:=l.foldl (fun v b=>v * 256 + b.toNat) 0
theorem beV_snoc (l:List UInt8) (b:UInt8):beV (l ++ [b])=beV l * 256 + b.toNat:=by simp [beV]
theorem beV_lt (l:List UInt8):beV l < 256 ^ l.length:=by
 have key : ∀ (l:List UInt8) (v:Nat),l.foldl (fun v (b:UInt8)=>v * 256 + b.toNat) v < (v + 1) * 256 ^ l.length:=by
  intro l
  induction l with
  | nil=>intro v; simp
  | cons b r ih =>
   intro v
   have hb:=b.toNat_lt
   have h1:=ih (v * 256 + b.toNat)
   have h2:(v * 256 + b.toNat + 1) * 256 ^ r.length ≤ (v + 1) * 256 * 256 ^ r.length:=Nat.mul_le_mul_right _ (by omega)
   simp only [List.foldl_cons,List.length_cons,Nat.pow_succ]
   rw [Nat.mul_comm (256 ^ r.length) 256,← Nat.mul_assoc]
   omega
 simpa [beV] using key l 0
def numR (s:List UInt8 × Bool) (n:Nat):Nat × (List UInt8 × Bool):=(beV (takeR s n).1,(takeR s n).2)
theorem takeR_len (s:List UInt8 × Bool) (n:Nat):(takeR s n).1.length ≤ n:=by
 unfold takeR; split
 ·simp
 ·split <;> simp; omega
theorem or_step (v:Nat) (b:UInt8) (hv:v < 2 ^ 56):bits .or .u64 (IntKind.u64.wrap ((v:Int) * 2 ^ (min (8:Int).toNat IntKind.u64.bits))) (b.toNat:Int)=((v * 256 + b.toNat:Nat):Int):=by
 have hb:=b.toNat_lt
 have e1:IntKind.u64.wrap ((v:Int) * 2 ^ (min (8:Int).toNat IntKind.u64.bits))=((v * 256:Nat):Int):=by
  have:(v:Int) * 2 ^ (min (8:Int).toNat IntKind.u64.bits)=((v * 256:Nat):Int):=by
   simp [IntKind.bits]
  rw [this]
  exact wrap_in ⟨by simp [IntKind.min,IntKind.signed]; omega,by simp [IntKind.max,IntKind.signed,IntKind.bits]; omega⟩
 rw [e1]
 have e2:(v * 256 ||| b.toNat)=v * 256 + b.toNat:=by
  have:=Nat.shiftLeft_add_eq_or_of_lt (a:=v) (b:=b.toNat) (i:=8) (by omega)
  rw [Nat.shiftLeft_eq] at this
  exact this.symm
 show IntKind.u64.wrap ((BitVec.ofInt 64 ((v * 256:Nat):Int) ||| BitVec.ofInt 64 (b.toNat:Int)).toNat:Int)=_
 rw [BitVec.ofInt_natCast,BitVec.ofInt_natCast,BitVec.toNat_or,BitVec.toNat_ofNat,BitVec.toNat_ofNat,Nat.mod_eq_of_lt (by omega),Nat.mod_eq_of_lt (by omega),e2]
 exact wrap_in ⟨by simp [IntKind.min,IntKind.signed]; omega,by simp [IntKind.max,IntKind.signed,IntKind.bits]; omega⟩
theorem inI64 (x:Int) (h1 : -9223372036854775808 ≤ x) (h2:x ≤ 9223372036854775807):IntKind.i64.min ≤ x ∧ x ≤ IntKind.i64.max:=by
 simp [IntKind.min,IntKind.max,IntKind.signed,IntKind.bits]; omega
theorem inU64 (x:Int) (h1:0 ≤ x) (h2:x ≤ 18446744073709551615):IntKind.u64.min ≤ x ∧ x ≤ IntKind.u64.max:=by
 simp [IntKind.min,IntKind.max,IntKind.signed,IntKind.bits]; omega
theorem und8b:Tryz.prog.underlying 5=some (.int .u8):=by kernel_rfl
theorem agg8:aggT Tryz.prog 5=false:=by kernel_rfl
theorem rNumber_ok (b:Nat) (s:List UInt8 × Bool) (n:Nat) (hn:n ≤ 8):Tri Tryz.prog 153 #[.pointer (some ⟨b,0,none⟩),.int .i64 n] (RRep b s)
  (fun v=>HP.and (v = .int .u64 ((numR s n).1:Nat)) (RRep b (numR s n).2)):=by
 refine tri_of_tree (ρ:=[.n b,.p (RRep b s),.i n]) mixed Tryz.func153 tree_rNumber ?_
 unfold t_rNumber
 simp only [T.den,E.prop,E.den,RX.look,F1.app,F2.app,Uni.int_i,Uni.nat_n,Uni.bool_c,Uni.str_s,Uni.adr_a,Uni.val_v,Uni.hp_p,hden,cden,V.den,W.den,A.den,BR.den,SA.den,FV.den,capV,exs,exP,allP,Cur.app,List.map_cons,List.map_nil,List.cons_append,List.nil_append,List.drop_succ_cons,List.drop_zero,List.length_cons,List.length_nil,Nat.zero_add,Nat.reduceAdd,Int.neg_neg,Bool.not_not,List.append_nil,Nat.add_zero,List.getElem?_cons_zero,List.getElem?_cons_succ,Decidable.not_not]
 refine (width_ok n HP.tt).weak (fun _ _ h=>h) ?_
 rintro r R h ⟨rfl,H⟩
 refine ⟨min (max n 0) 8,rfl,?_,H⟩
 rw [show min (max (n:Int) 0) 8=n by omega]
 refine (rTake_ok b s n).weak (fun _ _ h=>h) ?_
 rintro r R h ⟨a,c,rfl,H⟩
 have hlen:=takeR_len s n
 have ha:0 < (takeR s n).1.length → a.isSome=true:=fun h=>RoC.some (HP.sep_left H) h
 refine ⟨a,_,c,RoB a _ (takeR s n).1,RRep b (takeR s n).2,rfl,?_,H⟩
 have hpow:256 ^ (takeR s n).1.length ≤ 256 ^ 8:=Nat.pow_le_pow_right (by decide) (by omega)
 unfold numR
 generalize (takeR s n).1=l at *
 generalize (takeR s n).2=s' at *
 refine ⟨fun v i => ∃ k:Nat,i=k ∧ k ≤ l.length ∧ v=((beV (l.take k):Nat):Int),fun v i=>l.length - i.toNat,⟨0,rfl,Nat.zero_le _,rfl⟩,?_⟩
 rintro v i ⟨k,rfl,hk,rfl⟩
 refine ⟨fun hlt=>⟨by omega,fun _ => ?_⟩,fun hge => ?_⟩
 ·have hlt':k < l.length:=by omega
  have hb8:=l[k].toNat_lt
  have hget:l[k]? = some l[k]:=List.getElem?_eq_getElem hlt'
  have hk8:beV (l.take k) < 2 ^ 56:=by
   have h1:=beV_lt (l.take k)
   rw [List.length_take,Nat.min_eq_left hk] at h1
   have h2:256 ^ k ≤ 256 ^ 7:=Nat.pow_le_pow_right (by decide) (by omega)
   have h3:(256:Nat) ^ 7=2 ^ 56:=by decide
   omega
  refine ⟨ha (by omega),fun _=>⟨(l[k].toNat:Int),?_,inU64 _ (by omega) (by omega),fun _=>⟨inI64 _ (by omega) (by omega),fun _=>⟨⟨k + 1,by omega,hlt',?_⟩,by dsimp only; omega⟩⟩⟩⟩
  ·exact load1_ok und8b agg8 sz8 (RoC.rd 1 a _ (l.map u8v)) (k:=(k:Int).toNat * 1) (off:=0) (v:=u8v l[k]) (by simp [hget])
  ·rw [or_step _ _ hk8,List.take_succ_eq_append_getElem hlt',beV_snoc]
 ·have:k=l.length:=by omega
  subst this
  rw [List.take_length]
  exact .of fun R h H=>⟨rfl,H⟩
theorem wrap8 (v:Nat):IntKind.u8.wrap (v:Int)=((v % 256:Nat):Int):=by
 simp only [IntKind.wrap,IntKind.bits,IntKind.signed,Bool.false_and,Bool.false_eq_true,if_false]
 omega
theorem rByte_ok (b:Nat) (s:List UInt8 × Bool):Tri Tryz.prog 156 #[.pointer (some ⟨b,0,none⟩)] (RRep b s) (fun v=>HP.and (v = .int .u8 (((numR s 1).1 % 256:Nat):Int)) (RRep b (numR s 1).2)):=by
 refine tri_of_tree (ρ:=[.n b,.p (RRep b s)]) mixed Tryz.func156 tree_rByte ?_
 unfold t_rByte
 simp only [T.den,E.prop,E.den,RX.look,F1.app,F2.app,Uni.int_i,Uni.nat_n,Uni.bool_c,Uni.str_s,Uni.adr_a,Uni.val_v,Uni.hp_p,hden,cden,V.den,W.den,A.den,BR.den,SA.den,FV.den,capV,exs,exP,allP,Cur.app,List.map_cons,List.map_nil,List.cons_append,List.nil_append,List.drop_succ_cons,List.drop_zero,List.length_cons,List.length_nil,Nat.zero_add,Nat.reduceAdd,Int.neg_neg,Bool.not_not,List.append_nil,Nat.add_zero,List.getElem?_cons_zero,List.getElem?_cons_succ,Decidable.not_not]
 refine (rNumber_ok b s 1 (by omega)).weak (fun _ _ h=>h) ?_
 rintro v R h ⟨rfl,H⟩
 exact ⟨_,_,rfl,.of fun R h H=>⟨by rw [wrap8],H⟩,H⟩
def intOf64 (v:Nat):Int:=IntKind.i64.wrap (v:Int)
theorem rInt_ok (b:Nat) (s:List UInt8 × Bool):Tri Tryz.prog 86 #[.pointer (some ⟨b,0,none⟩)] (RRep b s) (fun v=>HP.and (v = .int .i64 (intOf64 (numR s 8).1)) (RRep b (numR s 8).2)):=by
 refine tri_of_tree (ρ:=[.n b,.p (RRep b s)]) mixed Tryz.func86 tree_rInt ?_
 unfold t_rInt
 simp only [T.den,E.prop,E.den,RX.look,F1.app,F2.app,Uni.int_i,Uni.nat_n,Uni.bool_c,Uni.str_s,Uni.adr_a,Uni.val_v,Uni.hp_p,hden,cden,V.den,W.den,A.den,BR.den,SA.den,FV.den,capV,exs,exP,allP,Cur.app,List.map_cons,List.map_nil,List.cons_append,List.nil_append,List.drop_succ_cons,List.drop_zero,List.length_cons,List.length_nil,Nat.zero_add,Nat.reduceAdd,Int.neg_neg,Bool.not_not,List.append_nil,Nat.add_zero,List.getElem?_cons_zero,List.getElem?_cons_succ,Decidable.not_not]
 refine (rNumber_ok b s 8 (by omega)).weak (fun _ _ h=>h) ?_
 rintro v R h ⟨rfl,H⟩
 exact ⟨_,_,rfl,.of fun R h H=>⟨rfl,H⟩,H⟩
def toldR (s:List UInt8 × Bool) (most:Int):Nat × (List UInt8 × Bool) :=
 if (numR s 4).2.2 then (0,(numR s 4).2) else if most < (numR s 4).1 then (0,([],true)) else ((numR s 4).1,(numR s 4).2)
theorem numR_lt (s:List UInt8 × Bool) (n:Nat):(numR s n).1 < 256 ^ n :=
 Nat.lt_of_lt_of_le (beV_lt _) (Nat.pow_le_pow_right (by decide) (takeR_len s n))
theorem rTold_ok (b:Nat) (s:List UInt8 × Bool) (most:Int):Tri Tryz.prog 154 #[.pointer (some ⟨b,0,none⟩),.int .i64 most] (RRep b s) (fun v=>HP.and (v = .int .i64 ((toldR s most).1:Nat)) (RRep b (toldR s most).2)):=by
 have hlt:=numR_lt s 4
 refine Tri.ex fun a=>Tri.ex fun c=>Tri.pure fun hc => ?_
 refine tri_of_tree (ρ:=[.n b,.a a,.n s.1.length,.n c,.p (RoB a s.1.length s.1),.c s.2,.i most]) mixed Tryz.func154 tree_rTold ?_
 unfold t_rTold
 simp only [T.den,E.prop,E.den,RX.look,F1.app,F2.app,Uni.int_i,Uni.nat_n,Uni.bool_c,Uni.str_s,Uni.adr_a,Uni.val_v,Uni.hp_p,hden,cden,V.den,W.den,A.den,BR.den,SA.den,FV.den,capV,exs,exP,allP,Cur.app,List.map_cons,List.map_nil,List.cons_append,List.nil_append,List.drop_succ_cons,List.drop_zero,List.length_cons,List.length_nil,Nat.zero_add,Nat.reduceAdd,Int.neg_neg,Bool.not_not,List.append_nil,Nat.add_zero,List.getElem?_cons_zero,List.getElem?_cons_succ,Decidable.not_not]
 refine (rNumber_ok b s 4 (by omega)).weak (fun R h H=>⟨a,c,hc,H⟩) ?_
 rintro v R h ⟨rfl,a',c',hc',H⟩
 unfold toldR
 generalize (numR s 4).1=x at *
 generalize (numR s 4).2=s' at *
 obtain ⟨l',w'⟩:=s'
 refine ⟨_,a',_,c',RoB a' l'.length l',w',rfl,?_,H⟩
 have e:IntKind.i64.wrap (x:Int)=x:=wrap_in (inI64 _ (by omega) (by omega))
 rw [e]
 refine ⟨fun h1 => .of fun R h H => ?_,fun h1=>⟨fun h2 => ?_,fun h2 => .of fun R h H => ?_⟩⟩
 ·simp only [h1,if_true]
  subst h1
  exact ⟨rfl,a',c',hc',H⟩
 ·rw [if_neg h1,if_pos h2]
  refine (rFail_ok b (l',w')).weak (fun R h H=>⟨a',c',hc',H⟩) ?_
  rintro v R h ⟨rfl,a2,c2,hc2,H⟩
  exact ⟨a2,_,c2,RoB a2 _ [],true,rfl,.of fun R h H=>⟨rfl,a2,c2,hc2,H⟩,H⟩
 ·rw [if_neg h1,if_neg h2]
  exact ⟨rfl,a',c',hc',H⟩
def bytesR (s:List UInt8 × Bool) (most:Int):List UInt8 × (List UInt8 × Bool):=takeR (toldR s most).2 (toldR s most).1
theorem rBytes_ok (b:Nat) (s:List UInt8 × Bool) (most:Int):Tri Tryz.prog 157 #[.pointer (some ⟨b,0,none⟩),.int .i64 most] (RRep b s)
  (fun v=>HP.ex fun a=>HP.ex fun c=>HP.and (v = .slice a (bytesR s most).1.length c) (HP.sep (RRep b (bytesR s most).2) (OwB a (bytesR s most).1.length c (bytesR s most).1))):=by
 refine tri_of_tree (ρ:=[.n b,.p (RRep b s),.i most]) mixed Tryz.func157 tree_rBytes ?_
 unfold t_rBytes
 simp only [T.den,E.prop,E.den,RX.look,F1.app,F2.app,Uni.int_i,Uni.nat_n,Uni.bool_c,Uni.str_s,Uni.adr_a,Uni.val_v,Uni.hp_p,hden,cden,V.den,W.den,A.den,BR.den,SA.den,FV.den,capV,exs,exP,allP,Cur.app,List.map_cons,List.map_nil,List.cons_append,List.nil_append,List.drop_succ_cons,List.drop_zero,List.length_cons,List.length_nil,Nat.zero_add,Nat.reduceAdd,Int.neg_neg,Bool.not_not,List.append_nil,Nat.add_zero,List.getElem?_cons_zero,List.getElem?_cons_succ,Decidable.not_not]
 refine (rTold_ok b s most).weak (fun _ _ h=>h) ?_
 rintro v R h ⟨rfl,H⟩
 refine ⟨_,RRep b (toldR s most).2,rfl,?_,H⟩
 refine (rTake_ok b _ _).weak (fun _ _ h=>h) ?_
 rintro v R h ⟨a,c,rfl,H⟩
 have hlen:(bytesR s most).1.length ≤ 140737488355328:=by
  have h1:=takeR_len (toldR s most).2 (toldR s most).1
  have h2:(toldR s most).1 < 256 ^ 4:=by
   have:=numR_lt s 4
   unfold toldR; split
   ·simp
   ·split
    ·simp
    ·exact this
  have h3:(256:Nat) ^ 4=4294967296:=by decide
  unfold bytesR
  omega
 refine ⟨a,_,c,RoB a _ (bytesR s most).1,RRep b (bytesR s most).2,rfl,?_,H⟩
 refine (clone8_ok _ a _ c (bytesR s most).1 (RdL.ro _ _ _ _) rfl hlen).weak (fun _ _ h=>h) ?_
 rintro v R h ⟨a',c',rfl,H⟩
 exact ⟨a',_,c',OwB a' _ c' _,RoB a _ (bytesR s most).1,rfl,.of fun R h H=>⟨a',c',rfl,H⟩,H⟩
theorem rEnd_ok (b:Nat) (s:List UInt8 × Bool):Tri Tryz.prog 89 #[.pointer (some ⟨b,0,none⟩)] (RRep b s) (fun v=>HP.and (v = .int .i64 (if s.2=true ∨ s.1 ≠ [] then 3 else 0)) (RRep b s)):=by
 obtain ⟨l,w⟩:=s
 refine Tri.ex fun a=>Tri.ex fun c=>Tri.pure fun hc => ?_
 refine tri_of_tree (ρ:=[.n b,.a a,.n l.length,.n c,.p (RoB a l.length l),.c w]) mixed Tryz.func89 tree_rEnd ?_
 unfold t_rEnd
 simp only [T.den,E.prop,E.den,RX.look,F1.app,F2.app,Uni.int_i,Uni.nat_n,Uni.bool_c,Uni.str_s,Uni.adr_a,Uni.val_v,Uni.hp_p,hden,cden,V.den,W.den,A.den,BR.den,SA.den,FV.den,capV,exs,exP,allP,Cur.app,List.map_cons,List.map_nil,List.cons_append,List.nil_append,List.drop_succ_cons,List.drop_zero,List.length_cons,List.length_nil,Nat.zero_add,Nat.reduceAdd,Int.neg_neg,Bool.not_not,List.append_nil,Nat.add_zero,List.getElem?_cons_zero,List.getElem?_cons_succ,Decidable.not_not]
 refine ⟨fun h1 => .of fun R h H=>⟨?_,a,c,hc,H⟩,fun h1=>⟨fun h2 => .of fun R h H=>⟨?_,a,c,hc,H⟩,fun h2 => .of fun R h H=>⟨?_,a,c,hc,H⟩⟩⟩
 ·rw [if_pos (.inl h1)]
 ·rw [if_pos (.inr (fun e=>by subst e; simp at h2))]
 ·rw [if_neg (fun e=>e.elim h1 fun e=>h2 (by have:=List.length_pos_iff.2 e; omega))]
theorem rRead_ok (a:Option Addr) (n c:Nat) (l:List UInt8) (S:HP) (hr:RdL S a n (l.map u8v)) (hl:l.length=n) (hb:n ≤ 140737488355328) :
  Tri Tryz.prog 85 #[.slice a n c] S (fun v=>HP.ex fun b=>HP.and (v = .pointer (some ⟨b,0,none⟩)) (HP.sep S (RRep b (l,false)))):=by
 refine tri_of_tree (ρ:=[.a a,.n n,.n c,.p S]) mixed Tryz.func85 tree_rRead ?_
 unfold t_rRead
 simp only [T.den,E.prop,E.den,RX.look,F1.app,F2.app,Uni.int_i,Uni.nat_n,Uni.bool_c,Uni.str_s,Uni.adr_a,Uni.val_v,Uni.hp_p,hden,cden,V.den,W.den,A.den,BR.den,SA.den,FV.den,capV,exs,exP,allP,Cur.app,List.map_cons,List.map_nil,List.cons_append,List.nil_append,List.drop_succ_cons,List.drop_zero,List.length_cons,List.length_nil,Nat.zero_add,Nat.reduceAdd,Int.neg_neg,Bool.not_not,List.append_nil,Nat.add_zero,List.getElem?_cons_zero,List.getElem?_cons_succ,Decidable.not_not]
 refine (clone8_ok S a n c l hr hl hb).weak (fun _ _ h=>h) ?_
 rintro v R h ⟨a',c',rfl,H⟩
 refine ⟨a',_,c',OwB a' n c' l,S,rfl,fun x => ?_,H⟩
 subst hl
 rintro R h d H
 have hle:=OwC.le (HP.sep_right (HP.sep_right H))
 refine ((HP.ent.sep2 (HP.ent.refl S) (HP.ent.sep2 (HP.ent.refl _) (OwC.share 5 1 a' l.length c' (l.map u8v)))).trans ?_) R h d H
 refine .of fun R h H=>⟨x,rfl,HP.sep_mono H (fun _ h=>h) fun y hy => ?_⟩
 exact ⟨a',c',⟨hle,hb⟩,hy⟩
end Go.Proofs.YtdieogcemmnaaaaGreatDoor

namespace Go.Proofs.YtdieogcemmnaaaaGreatDoor.RX
set_option maxRecDepth 100000
-- tideline/device.New: ρ:=[.i pages]
def t_dNew:T :=
(.br (.o2 .lt (.v 0) (.i 1))
(.ret (.tup [.a .nilp,.a (.int .i64 (.i 2))]) [])
(.br (.o2 .lt (.i 65536) (.v 0))
(.ret (.tup [.a .nilp,.a (.int .i64 (.i 2))]) [])
(.new
(.ret (.tup [.a (.ptr (.v 1) 0),.a (.int .i64 (.i 0))]) [(.b (.v 1),.cells [.int .i64 (.v 0),.sl .nil (.n 0) (.n 0),.int .i64 (.i 0)] 207)]))))
theorem tree_dNew:tree Tryz.prog { } Tryz.f51 [.a (.int .i64 (.v 0))] [] 1=t_dNew:=by kernel_rfl
def t_dFree:T :=
(.need (.o1 (.inr .i64) (.o2 .sub (.v 1) (.o1 .ofNat (.v 3))))
(.ret (.w (.a (.int .i64 (.o2 .sub (.v 1) (.o1 .ofNat (.v 3)))))) [(.b (.v 0),.cells [.int .i64 (.v 1),.sl (.v 2) (.v 3) (.v 4),.int .i64 (.v 6)] 207),(.a 2,.prop 5)]))
theorem tree_dFree:tree Tryz.prog { } Tryz.f118 [.a (.ptr (.v 0) 0)] [(.b (.v 0),.cells [.int .i64 (.v 1),.sl (.v 2) (.v 3) (.v 4),.int .i64 (.v 6)] 207),(.a 2,.prop 5)] 7=t_dFree:=by kernel_rfl
def t_dAppend:T :=
(.call 118 [.a (.ptr (.v 0) 0)] [(.b (.v 0),.cells [.int .i64 (.v 1),.sl (.v 2) (.v 3) (.v 4),.int .i64 (.v 6)] 207),(.a 2,.prop 5)] [.i] (.w (.a (.int .i64 (.v 11)))) [(.b (.v 0),.cells [.int .i64 (.v 1),.sl (.v 2) (.v 3) (.v 4),.int .i64 (.v 6)] 207),(.a 2,.prop 5)]
(.br (.o2 .eq (.v 11) (.i 0))
(.ret (.w (.a (.int .i64 (.i 4)))) [(.b (.v 0),.cells [.int .i64 (.v 1),.sl (.v 2) (.v 3) (.v 4),.int .i64 (.v 6)] 207),(.a 2,.prop 5),(.a 7,.prop 10)])
(.call 73 [.a (.sl (.v 7) (.v 8) (.v 9))] [(.a 7,.prop 10)] [.a,.n,.n,.p,.p] (.w (.a (.sl (.v 12) (.v 13) (.v 14)))) [(.a 12,.prop 15),(.a 7,.prop 16)]
(.new
(.op (.call ⟨.builtin .append,#[.tmp 12,.tmp 16],#[205,205]⟩) 205 [(12,.w (.a (.sl (.v 2) (.v 3) (.v 4)))),(16,.w (.a (.sl (.b (.v 17) 0) (.n 1) (.n 1))))] [(.a 2,.prop 5),(.b (.v 17),.cells [.int .i64 (.i 1),.sl (.v 12) (.v 13) (.v 14)] 209),(.a 12,.prop 15)] [.a,.n,.n,.p] (.w (.a (.sl (.v 18) (.v 19) (.v 20)))) [(.a 18,.prop 21),(.b (.v 17),.cells [.int .i64 (.i 1),.sl (.v 12) (.v 13) (.v 14)] 209),(.a 12,.prop 15)]
(.ret (.w (.a (.int .i64 (.i 0)))) [(.b (.v 0),.cells [.int .i64 (.v 1),.sl (.v 18) (.v 19) (.v 20),.int .i64 (.v 6)] 207),(.a 18,.prop 21),(.a 7,.prop 16)]))))))
theorem tree_dAppend:tree Tryz.prog { keep:=[118] } Tryz.f54 [.a (.ptr (.v 0) 0),.a (.sl (.v 7) (.v 8) (.v 9))] [(.b (.v 0),.cells [.int .i64 (.v 1),.sl (.v 2) (.v 3) (.v 4),.int .i64 (.v 6)] 207),(.a 2,.prop 5),(.a 7,.prop 10)] 11=t_dAppend:=by kernel_rfl
def t_dWhole:T :=
(.new
(.ret (.w (.a (.func 210 [(.v 2,0)]))) [(.b (.v 0),.prop 1),(.b (.v 2),.cells [.ptr (.v 0) 0] 99)]))
theorem tree_dWhole:tree Tryz.prog { } Tryz.f178 [.a (.ptr (.v 0) 0)] [(.b (.v 0),.prop 1)] 2=t_dWhole:=by kernel_rfl
def t_dWhole1:T :=
(.loop [.i,.p] [.e (.o1 .neg (.o1 .neg (.i 0))),.p [(.a 0,.prop 1)]]
(.br (.o2 .lt (.v 10) (.o1 .ofNat (.v 6)))
(.need (.o2 .le (.i 0) (.v 10))
(.need (.o1 .isSome (.v 5))
(.read (.load 209 (.tmp 12)) 209 [(12,.w (.a (.eptr 5 (.v 10) 2 0)))] [(.a 5,.prop 8)] [.i,.a,.n,.n] (.w (.agg [.int .i64 (.v 12),.sl (.v 13) (.v 14) (.v 15)]))
(.new
(.br (.o2 .eq (.v 12) (.i 1))
  (.callv 0 [.a (.sl (.v 13) (.v 14) (.v 15))] [(.a 0,.prop 11),(.a 5,.prop 8)] [.c,.p] (.w (.a (.bool (.v 17)))) [(.a 0,.prop 18),(.a 5,.prop 8)]
(.br (.o1 .not (.v 17))
(.ret (.tup []) [(.a 0,.prop 18),(.b (.v 2),.cells [.ptr (.v 3) 0] 99),(.b (.v 3),.cells [.int .i64 (.v 4),.sl (.v 5) (.v 6) (.v 7),.int .i64 (.v 9)] 207),(.a 5,.prop 8)])
(.need (.o1 (.inr .i64) (.o2 .add (.v 10) (.i 1)))
(.again 0 [.e (.o1 .neg (.o1 .neg (.o2 .add (.v 10) (.i 1)))),.p [(.a 0,.prop 18)]]))))
(.need (.o1 (.inr .i64) (.o2 .add (.v 10) (.i 1)))
(.again 0 [.e (.o1 .neg (.o1 .neg (.o2 .add (.v 10) (.i 1)))),.p [(.a 0,.prop 11)]])))))))
(.ret (.tup []) [(.a 0,.prop 11),(.b (.v 2),.cells [.ptr (.v 3) 0] 99),(.b (.v 3),.cells [.int .i64 (.v 4),.sl (.v 5) (.v 6) (.v 7),.int .i64 (.v 9)] 207),(.a 5,.prop 8)])))
theorem tree_dWhole1:tree Tryz.prog { hv:=[(0,[.a 0])] } Tryz.f210 [.a (.val 0),.a (.ptr (.v 2) 0)] [(.a 0,.prop 1),(.b (.v 2),.cells [.ptr (.v 3) 0] 99),(.b (.v 3),.cells [.int .i64 (.v 4),.sl (.v 5) (.v 6) (.v 7),.int .i64 (.v 9)] 207),(.a 5,.prop 8)] 10=t_dWhole1:=by kernel_rfl
def t_dPages:T :=
(.new
(.call 178 [.a (.ptr (.v 0) 0)] [(.b (.v 0),.prop 1)] [.v,.p] (.w (.a (.val 3))) [(.a 3,.prop 4),(.b (.v 0),.prop 1)]
(.new
(.rangef (.val 3) [(.a 3,.prop 4),(.b (.v 0),.prop 1)] [] [.a,.n,.n,.p] [.a .nil,.e (.o2 .nadd (.n 0) (.n 0)),.e (.o2 .nadd (.n 0) (.n 0)),.p []] [.a,.n,.n,.p] [.a (.sl (.v 10) (.v 11) (.v 12))] [(.a 10,.prop 13)]
(.call 73 [.a (.sl (.v 10) (.v 11) (.v 12))] [(.a 10,.prop 13)] [.a,.n,.n,.p,.p] (.w (.a (.sl (.v 14) (.v 15) (.v 16)))) [(.a 14,.prop 17),(.a 10,.prop 18)]
(.new
(.op (.call ⟨.builtin .append,#[.tmp 8,.tmp 11],#[214,214]⟩) 214 [(8,.w (.a (.sl (.v 6) (.v 7) (.v 8)))),(11,.w (.a (.sl (.b (.v 19) 0) (.n 1) (.n 1))))] [(.a 6,.prop 9),(.b (.v 19),.cells [.sl (.v 14) (.v 15) (.v 16)] 28),(.a 14,.prop 17)] [.a,.n,.n,.p] (.w (.a (.sl (.v 20) (.v 21) (.v 22)))) [(.a 20,.prop 23),(.b (.v 19),.cells [.sl (.v 14) (.v 15) (.v 16)] 28),(.a 14,.prop 17)]
(.again 0 [.a (.v 20),.e (.o2 .nadd (.v 21) (.n 0)),.e (.o2 .nadd (.v 22) (.n 0)),.p [(.a 20,.prop 23)]]))))
(.ret (.w (.a (.sl (.v 6) (.v 7) (.v 8)))) [(.b (.v 0),.prop 1),(.a 6,.prop 9)])))))
theorem tree_dPages:tree Tryz.prog { hv:=[(0,[.b (.v 2)])],keep:=[178],link:=[(178,0)],pty:=[(0,[28])] } Tryz.f119 [.a (.ptr (.v 0) 0)] [(.b (.v 0),.prop 1)] 2=t_dPages:=by kernel_rfl
end Go.Proofs.YtdieogcemmnaaaaGreatDoor.RX

namespace Go.Proofs.YtdieogcemmnaaaaGreatDoor
set_option linter.unusedSimpArgs false
set_option linter.unusedVariables false
open Go.Proofs.YtdieogcemmnaaaaGreatDoor RX
structure Pg where
 is:Int
 data:List UInt8
structure PgRec where
 is:Int
 a:Option Addr
 n:Nat
 c:Nat
def PgRec.vals (x:PgRec):List Value:=[.int .i64 x.is,.slice x.a x.n x.c]
def pgCells (xs:List PgRec):List Value:=xs.flatMap PgRec.vals
def AllD:List PgRec → List Pg → HP
 | [],[]=>HP.tt
 | x :: xs,p :: ps=>HP.and (x.is=p.is ∧ x.n=p.data.length ∧ p.data.length ≤ 140737488355328) (HP.sep (RoB x.a x.n p.data) (AllD xs ps))
 | _,_=>HP.pure False
theorem AllD.any {R:PH} : ∀ {xs:List PgRec} {ps:List Pg} {h h':PH},(AllD xs ps).p R h → (AllD xs ps).p R h'
 | [],[],_,_,_=>trivial
 | _ :: _,_ :: _,_,h',⟨q,H⟩=>⟨q,RoC.join (HP.sep_left H) (AllD.any (h':=h') (HP.sep_right H))⟩
 | [],_ :: _,_,_,H=>H
 | _ :: _,[],_,_,H=>H
theorem AllD.snoc {R h:PH} {x:PgRec} {p:Pg} (hx:x.is=p.is ∧ x.n=p.data.length ∧ p.data.length ≤ 140737488355328) (hr:(RoB x.a x.n p.data).p R h) : ∀ {xs:List PgRec} {ps:List Pg},(AllD xs ps).p R h → (AllD (xs ++ [x]) (ps ++ [p])).p R h
 | [],[],_=>⟨hx,RoC.join hr (trivial:HP.tt.p R h)⟩
 | _ :: _,_ :: _,⟨q,H⟩=>⟨q,RoC.join (HP.sep_left H) (AllD.snoc hx hr (HP.sep_right H) |> AllD.any (h':=h))⟩
 | [],_ :: _,H=>H.elim
 | _ :: _,[],H=>H.elim
def DInv (room:Int) (ps:List Pg) (lasts:Nat):Prop:=0 ≤ room ∧ room ≤ 65536 ∧ (ps.length:Int) ≤ room ∧ lasts ≤ ps.length
def DvRep (b:Nat) (room:Int) (ps:List Pg) (lasts:Nat):HP:=HP.ex fun a=>HP.ex fun c=>HP.ex fun xs=>HP.and (DInv room ps lasts ∧ xs.length=ps.length) (HP.sep (HP.one b (.cells #[.int .i64 room,.slice a ps.length c,.int .i64 lasts] 207)) (HP.sep (OwC 209 2 a ps.length c (pgCells xs)) (AllD xs ps)))
theorem dFree_ok (b:Nat) (room:Int) (a:Option Addr) (n c:Nat) (S:HP) (lasts:Int) (h1 : -100000 ≤ room - n) (h2:room - n ≤ 100000) :
  Tri Tryz.prog 118 #[.pointer (some ⟨b,0,none⟩)] (HP.sep (HP.one b (.cells #[.int .i64 room,.slice a n c,.int .i64 lasts] 207)) S)
   (fun v=>HP.and (v = .int .i64 (room - n)) (HP.sep (HP.one b (.cells #[.int .i64 room,.slice a n c,.int .i64 lasts] 207)) S)):=by
 refine tri_of_tree (ρ:=[.n b,.i room,.a a,.n n,.n c,.p S,.i lasts]) mixed Tryz.func118 tree_dFree ?_
 unfold t_dFree
 simp only [T.den,E.prop,E.den,RX.look,F1.app,F2.app,Uni.int_i,Uni.nat_n,Uni.bool_c,Uni.str_s,Uni.adr_a,Uni.val_v,Uni.hp_p,hden,cden,V.den,W.den,A.den,BR.den,SA.den,FV.den,capV,exs,exP,allP,Cur.app,List.map_cons,List.map_nil,List.cons_append,List.nil_append,List.drop_succ_cons,List.drop_zero,List.length_cons,List.length_nil,Nat.zero_add,Nat.reduceAdd,Int.neg_neg,Bool.not_not,List.append_nil,Nat.add_zero,List.getElem?_cons_zero,List.getElem?_cons_succ,Decidable.not_not]
 exact ⟨inI64 _ (by omega) (by omega),fun _ => .of fun _ _ H=>⟨trivial,H⟩⟩
theorem dNew_ok (n:Int) (h1:1 ≤ n) (h2:n ≤ 65536):Tri Tryz.prog 51 #[.int .i64 n] HP.tt (fun v=>HP.ex fun b=>HP.and (v = .tuple #[.pointer (some ⟨b,0,none⟩),.int .i64 0]) (DvRep b n [] 0)):=by
 refine tri_of_tree (ρ:=[.i n]) mixed Tryz.func51 tree_dNew ?_
 unfold t_dNew
 simp only [T.den,E.prop,E.den,RX.look,F1.app,F2.app,Uni.int_i,Uni.nat_n,Uni.bool_c,Uni.str_s,Uni.adr_a,Uni.val_v,Uni.hp_p,hden,cden,V.den,W.den,A.den,BR.den,SA.den,FV.den,capV,exs,exP,allP,Cur.app,List.map_cons,List.map_nil,List.cons_append,List.nil_append,List.drop_succ_cons,List.drop_zero,List.length_cons,List.length_nil,Nat.zero_add,Nat.reduceAdd,Int.neg_neg,Bool.not_not,List.append_nil,Nat.add_zero,List.getElem?_cons_zero,List.getElem?_cons_succ,Decidable.not_not]
 refine ⟨fun h=>absurd h (by omega),fun _=>⟨fun h=>absurd h (by omega),fun _ x => .of fun R h H => ?_⟩⟩
 exact ⟨x,rfl,none,0,[],⟨⟨by omega,by omega,by simp; omega,by simp⟩,rfl⟩,HP.sep_mono (HP.sep_tt H) (fun _ h=>h) fun y _=>HP.sep_tt (OwC.nil _ _ R y)⟩
theorem infoP:(Tryz.prog.info? 209).map (fun i=>(i.zero,i.size,i.bytes))=some (some (.agg #[.int .i64 0,.slice none 0 0]),2,32):=by kernel_rfl
theorem undP:Tryz.prog.underlying 205=some (.slice 209):=by kernel_rfl
theorem pgCells_one (xs:List PgRec) : ∀ u ∈ pgCells xs,u.oneCell'=true:=fun u hu=>by
 obtain ⟨x,_,hx⟩:=List.mem_flatMap.1 hu
 simp only [PgRec.vals,List.mem_cons,List.not_mem_nil,or_false] at hx
 rcases hx with rfl | rfl <;> rfl
def putPg (room:Int) (ps:List Pg) (p:Pg):Int × List Pg:=if room=ps.length then (4,ps) else (0,ps ++ [p])
theorem dAppend_ok (b:Nat) (room:Int) (ps:List Pg) (lasts:Nat) (a:Option Addr) (n c:Nat) (l:List UInt8) (S:HP) (hr:RdL S a n (l.map u8v)) (hl:l.length=n) (hb:n ≤ 140737488355328) :
  Tri Tryz.prog 54 #[.pointer (some ⟨b,0,none⟩),.slice a n c] (HP.sep (DvRep b room ps lasts) S) (fun v=>HP.and (v = .int .i64 (putPg room ps ⟨1,l⟩).1) (HP.sep (DvRep b room (putPg room ps ⟨1,l⟩).2 lasts) S)):=by
 refine (Tri.ex (A:=fun da=>HP.ex fun dc=>HP.ex fun xs=>HP.and (DInv room ps lasts ∧ xs.length=ps.length) (HP.sep (HP.one b (.cells #[.int .i64 room,.slice da ps.length dc,.int .i64 lasts] 207)) (HP.sep (HP.sep (OwC 209 2 da ps.length dc (pgCells xs)) (AllD xs ps)) S)))
  fun da=>Tri.ex fun dc=>Tri.ex fun xs=>Tri.pure fun hI => ?_).weak (fun R h ⟨h1,h2,d,l1,l2,⟨da,dc,xs,hI,H⟩,hS⟩=>⟨da,dc,xs,hI,HP.sep_assoc ⟨h1,h2,d,l1,l2,H,hS⟩⟩) fun _ _ _ h=>h
 obtain ⟨⟨i1,i2,i3,i4⟩,hxl⟩:=hI
 refine tri_of_tree (ρ:=[.n b,.i room,.a da,.n ps.length,.n dc,.p (HP.sep (OwC 209 2 da ps.length dc (pgCells xs)) (AllD xs ps)),.i lasts,.a a,.n n,.n c,.p S]) mixed Tryz.func54 tree_dAppend ?_
 unfold t_dAppend
 simp only [T.den,E.prop,E.den,RX.look,F1.app,F2.app,Uni.int_i,Uni.nat_n,Uni.bool_c,Uni.str_s,Uni.adr_a,Uni.val_v,Uni.hp_p,hden,cden,V.den,W.den,A.den,BR.den,SA.den,FV.den,capV,exs,exP,allP,Cur.app,List.map_cons,List.map_nil,List.cons_append,List.nil_append,List.drop_succ_cons,List.drop_zero,List.length_cons,List.length_nil,Nat.zero_add,Nat.reduceAdd,Int.neg_neg,Bool.not_not,List.append_nil,Nat.add_zero,List.getElem?_cons_zero,List.getElem?_cons_succ,Decidable.not_not]
 refine (dFree_ok b room da ps.length dc _ lasts (by omega) (by omega)).weak (fun _ _ h=>h) ?_
 rintro v R h ⟨rfl,H⟩
 refine ⟨_,rfl,⟨fun hz => .of fun R h H => ?_,fun hz => ?_⟩,H⟩
 ·have e:putPg room ps ⟨1,l⟩=(4,ps):=if_pos (by omega)
  rw [e]
  exact ⟨rfl,HP.sep_mono (HP.sep_assoc' H) (fun y hy=>⟨da,dc,xs,⟨⟨i1,i2,i3,i4⟩,hxl⟩,hy⟩) fun _ h=>h⟩
 ·have e:putPg room ps ⟨1,l⟩=(0,ps ++ [⟨1,l⟩]):=if_neg (by omega)
  rw [e]
  refine (cloneR_ok S a n c l hr hl hb).weak (fun _ _ h=>h) ?_
  rintro v R h ⟨a',c',rfl,H⟩
  refine ⟨a',n,c',RoB a' n l,S,rfl,fun y => ?_,H⟩
  rw [semOf_append (by decide)]
  simp only [T.den,E.prop,E.den,RX.look,F1.app,F2.app,Uni.int_i,Uni.nat_n,Uni.bool_c,Uni.str_s,Uni.adr_a,Uni.val_v,Uni.hp_p,hden,cden,V.den,W.den,A.den,BR.den,SA.den,FV.den,capV,exs,exP,allP,Cur.app,List.map_cons,List.map_nil,List.cons_append,List.nil_append,List.drop_succ_cons,List.drop_zero,List.length_cons,List.length_nil,Nat.zero_add,Nat.reduceAdd,Int.neg_neg,Bool.not_not,List.append_nil,Nat.add_zero,List.getElem?_cons_zero,List.getElem?_cons_succ,Decidable.not_not]
  obtain ⟨i,hi,z1,z2,z3⟩:=info_parts infoP
  have happ:=append_ok 205 205 209 i _ undP hi z1 (by rw [z2]; rfl) (by omega) da ps.length dc (pgCells xs) (HP.sep (AllD xs ps) (HP.sep (HP.one y (.cells #[.int .i64 1,.slice a' n c'] 209)) (RoB a' n l))) ⟨y,0,none⟩ 1 1 (PgRec.vals ⟨1,a',n,c'⟩) ((one_rd y _ _).left.right) (by rw [z2]; rfl) (fun u hu=>pgCells_one [⟨1,a',n,c'⟩] u (by simpa [pgCells] using hu)) (by unfold maxLen; omega) (by rw [z3]; omega)
  rw [z2] at happ
  refine happ.weak (fun R h H=>HP.sep_assoc H) ?_
  rintro v R h ⟨a2,c2,rfl,H⟩
  have hcells:pgCells xs ++ PgRec.vals ⟨1,a',n,c'⟩=pgCells (xs ++ [⟨1,a',n,c'⟩]):=by simp [pgCells]
  rw [hcells] at H
  refine ⟨a2,_,c2,HP.sep (OwC 209 2 a2 (ps.length + 1) c2 (pgCells (xs ++ [⟨1,a',n,c'⟩]))) (AllD (xs ++ [⟨1,a',n,c'⟩]) (ps ++ [⟨1,l⟩])),rfl,.of fun R h H=>⟨trivial,?_⟩,?_⟩
  ·have hlen:ps.length + 1=(ps ++ [(⟨1,l⟩:Pg)]).length:=by simp
   rw [hlen] at H
   refine HP.sep_mono (HP.sep_assoc' H) (fun y hy=>⟨a2,c2,_,⟨⟨i1,i2,by simp; omega,by simp; omega⟩,by simp [hxl]⟩,hy⟩) fun _ h=>h
  ·have hall:=HP.sep_left (HP.sep_right H)
   have hro:=HP.sep_right (HP.sep_right (HP.sep_right H))
   have hnew : ∀ z,(AllD (xs ++ [⟨1,a',n,c'⟩]) (ps ++ [⟨1,l⟩])).p R z:=fun z=>AllD.any (AllD.snoc (x:=⟨1,a',n,c'⟩) (p:=⟨1,l⟩) ⟨rfl,hl.symm,by simp only; omega⟩ hro hall)
   refine HP.sep_mono H (fun z hz=>HP.sep_mono (HP.sep_tt hz) (fun _ h=>h) fun z _=>hnew z) fun z hz=>HP.sep_right hz
theorem pgCells_get (xs:List PgRec) : ∀ (j:Nat) (x:PgRec),xs[j]? = some x → (pgCells xs)[j * 2]? = some (.int .i64 x.is) ∧ (pgCells xs)[j * 2 + 1]? = some (.slice x.a x.n x.c):=by
 induction xs with
 | nil=>intro j x h; simp at h
 | cons y r ih =>
  intro j x h
  cases j with
  | zero=>simp at h; subst h; simp [pgCells,PgRec.vals]
  | succ j =>
   obtain ⟨h1,h2⟩:=ih j x (by simpa using h)
   simp only [pgCells,List.flatMap_cons] at h1 h2 ⊢
   have e1:(j + 1) * 2=j * 2 + 2:=by omega
   rw [e1]
   exact ⟨by simpa [PgRec.vals] using h1,by simpa [PgRec.vals] using h2⟩
def Pages (da:Option Addr) (dc n:Nat) (q:List Pg):HP:=HP.ex fun xs=>HP.and (xs.length=q.length) (HP.sep (OwC 209 2 da n dc (pgCells xs)) (AllD xs q))
end Go.Proofs.YtdieogcemmnaaaaGreatDoor
