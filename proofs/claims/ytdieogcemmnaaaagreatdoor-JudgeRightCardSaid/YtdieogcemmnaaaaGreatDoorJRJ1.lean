/- Texts of this claim, joined. No condition. -/
import Derived.Test.YtdieogcemmnaaaaGreatDoorJRJ0
import Derived.Maps.AppendAt
import Derived.Laws.AppendOwnNone
import Derived.KernelRfl
import Derived.Test.YtdieogcemmnaaaaGreatDoorRows
import Derived.WalkKit
import Derived.WalkSpells
import Derived.WalkSmall
import Derived.WalkLawsBesides
import Derived.RegionTactic
import Derived.BigRegion
import Derived.BigQuiet
import Derived.Deep.QuietTactic
import Derived.Deep.RegionHeld3
import Derived.Lib.Hide
import Derived.Maps.OwnSet
import Derived.Maps.OwnOps
import Derived.Laws.IdiomRangeMap
import Derived.ChangeKeysEq
import Derived.Laws.StructEq
import Derived.Lib.BufferRead
import Derived.Lib.AppendZeros
import Derived.Shelf.Small.Bits
import Derived.Shelf.Small.Strs
import Derived.Shelf.Strconv.Itoa0
import Derived.Shelf.Strings.Search1
import Derived.Shelf.Strings.Search2
import Derived.Shelf.Strings.Search3
import Derived.Shelf.Strings.Count
import Derived.Shelf.LaysM
import Derived.Shelf.Strings.Shaped
import Derived.Shelf.Sort.Plain
import Derived.Shelf.Strings.Prefix
import Derived.Shelf.Unicode.DecodeSlow
import Derived.Shelf.Slices.In.SortNone
import Derived.Ground.SlgcProg
import Derived.Shelf.SlicesG.Cmp
import Derived.Test.YtdieogcemmnaaaaGreatDoorProg
import Derived.Laws.MakeOwn
import Derived.Laws.CopyRow
import Derived.Lib.IndexLaws
set_option linter.unusedSimpArgs false
set_option linter.unusedVariables false
namespace Go.Proofs.YtdieogcemmnaaaaGreatDoor.RX
open Go.Proofs.YtdieogcemmnaaaaGreatDoor
section
variable {P:Program} {post:Value → HP} {w0 w:World} {F R h:PH} {ρ:Env} {L:List (Env → Prop)} {s:S} {a:Act} {cfg:Cfg}
theorem oneC_self {v:Value} (h:v.oneCell'=true):oneC v=v:=by cases v <;> first | rfl | cases h
theorem okA_den {base:Nat} {fr:List FV} {x y:A} (h:okA base fr x y=true) {ρ ρ2:Env} (hl:ρ.length=base) (hp:ρ <+: ρ2):x.den (ρ ++ fr.map (FV.den ρ2))=y.den ρ2:=by
 obtain ⟨z,rfl⟩:=hp
 have hf : ∀ {j:Nat} {f:FV},base ≤ j → fr[j - base]? = some f → look (ρ ++ fr.map (FV.den (ρ ++ z))) j=f.den (ρ ++ z):=by
  intro j f hj hf
  have : ∀ (r:Env) (q:List FV) (i:Nat),q[i]? = some f → look (r ++ q.map (FV.den (ρ ++ z))) (r.length + i)=f.den (ρ ++ z):=by
   intro r
   induction r with
   | nil =>
    intro q
    induction q with
    | nil=>intro i hi; cases hi
    | cons u v ih=>intro i hi; cases i with
     | zero=>simp only [List.getElem?_cons_zero,Option.some.injEq] at hi; subst hi; rfl
     | succ i=>simp only [List.length_nil,Nat.zero_add,List.nil_append,List.map_cons,look] at ih ⊢; exact ih i (by simpa using hi)
   | cons u v ih =>
    intro q i hi
    simp only [List.length_cons,List.cons_append]
    rw [show v.length + 1 + i=(v.length + i) + 1 by omega]
    exact ih q i hi
  have:=this ρ fr (j - base) hf
  rwa [hl,show base + (j - base)=j by omega] at this
 unfold okA at h
 simp only [Bool.or_eq_true,Bool.and_eq_true,decide_eq_true_eq,Nat.blt_eq] at h
 rcases h with ⟨rfl,hb⟩ | h
 ·rw [← hl] at hb
  rw [A.app hb,A.app hb]
 ·split at h <;> first | (cases h; done) | simp only [Bool.and_eq_true,decide_eq_true_eq,Nat.blt_eq] at h
  ·obtain ⟨⟨h1,rfl⟩,h3⟩:=h
   simp only [A.den,E.den,hf h1 h3,FV.den,F1.app,Uni.int_i,Int.neg_neg]
  ·obtain ⟨h1,h3⟩:=h
   simp only [A.den,E.den,hf h1 h3,FV.den,F1.app,Uni.bool_c,Bool.not_not]
  ·obtain ⟨h1,h3⟩:=h
   simp only [A.den,E.den,hf h1 h3,FV.den,F2.app,Uni.str_s,List.append_nil]
  ·obtain ⟨⟨h1,rfl⟩,h3⟩:=h
   simp only [A.den,BR.den,hf h1 h3,FV.den,Uni.nat_n]
  ·obtain ⟨⟨⟨⟨⟨h1,h2⟩,h3⟩,h4⟩,h5⟩,h6⟩:=h
   simp only [A.den,SA.den,E.den,hf h1 h4,hf h2 h5,hf h3 h6,FV.den,F2.app,Uni.adr_a,Uni.nat_n,Nat.add_zero]
  ·obtain ⟨h1,h3⟩:=h
   simp only [A.den,BR.den,hf h1 h3,FV.den,Uni.nat_n]
  ·obtain ⟨h1,h3⟩:=h
   show oneC (look _ _).val=_
   rw [hf h1 h3]
   exact oneC_self (A.one _ _)
theorem okAs_den {base:Nat} {fr:List FV} : ∀ {x y:List A},okAs base fr x y=true → ∀ {ρ ρ2:Env},ρ.length=base → ρ <+: ρ2 → x.map (A.den (ρ ++ fr.map (FV.den ρ2)))=y.map (A.den ρ2)
 | [],[],_,_,_,_,_=>rfl
 | x :: r,y :: q,h,ρ,ρ2,hl,hp=>by
  simp only [okAs,Bool.and_eq_true] at h
  simp only [List.map_cons,okA_den h.1 hl hp,okAs_den h.2 hl hp]
 | [],_ :: _,h,_,_,_,_=>by cases h
 | _ :: _,[],h,_,_,_,_=>by cases h
theorem okW_den {base:Nat} {fr:List FV} {x y:W} (h:okW base fr x y=true) {ρ ρ2:Env} (hl:ρ.length=base) (hp:ρ <+: ρ2):x.den (ρ ++ fr.map (FV.den ρ2))=y.den ρ2:=by
 cases x <;> cases y <;> simp only [okW] at h <;> first | (cases h; done) | skip
 ·exact okA_den h hl hp
 ·simp only [W.den,okAs_den h hl hp]
theorem okT_len {base:Nat} {fr:List FV} : ∀ {x y:List (Option V)},okT base fr x y=true → x.length=y.length
 | [],[],_=>rfl
 | none :: r,y :: q,h=>by simp only [okT] at h; simp [okT_len h]
 | some (.w x) :: r,some (.w y) :: q,h=>by simp only [okT,Bool.and_eq_true] at h; simp [okT_len h.2]
 | some (.tup x) :: r,some (.tup y) :: q,h=>by simp only [okT,Bool.and_eq_true] at h; simp [okT_len h.2]
 | [],_ :: _,h=>by simp [okT] at h
 | some (.w _) :: _,[],h=>by simp [okT] at h
 | some (.tup _) :: _,[],h=>by simp [okT] at h
 | none :: _,[],h=>by simp [okT] at h
 | some (.w _) :: _,none :: _,h=>by simp [okT] at h
 | some (.tup _) :: _,none :: _,h=>by simp [okT] at h
 | some (.w _) :: _,some (.tup _) :: _,h=>by simp [okT] at h
 | some (.tup _) :: _,some (.w _) :: _,h=>by simp [okT] at h
theorem okT_den {base:Nat} {fr:List FV} : ∀ {x y:List (Option V)},okT base fr x y=true → ∀ {ρ ρ2:Env},ρ.length=base → ρ <+: ρ2 → ∀ (i:Nat) (v:V),x[i]? = some (some v) → ∃ u,y[i]? = some (some u) ∧ v.den (ρ ++ fr.map (FV.den ρ2))=u.den ρ2
 | [],_,_,_,_,_,_,i,v,hi=>by simp at hi
 | x :: r,[],h,_,_,_,_,_,_,_=>by have:=okT_len h; simp at this
 | x :: r,y :: q,h,ρ,ρ2,hl,hp,0,v,hi=>by
  simp only [List.getElem?_cons_zero,Option.some.injEq] at hi
  subst hi
  cases y with
  | none=>cases v <;> simp [okT] at h
  | some u =>
   refine ⟨u,rfl,?_⟩
   cases v <;> cases u <;> simp only [okT,Bool.and_eq_true,decide_eq_true_eq,Nat.blt_eq] at h <;> first | (cases h; done) | skip
   ·exact okW_den h.1 hl hp
   ·obtain ⟨⟨rfl,hb⟩,hrest⟩:=h
    obtain ⟨z,rfl⟩:=hp
    rename_i q0
    have hb':V.bel ρ.length (.tup q0)=true:=by rw [hl]; exact hb
    rw [V.app hb',V.app hb']
 | x :: r,y :: q,h,ρ,ρ2,hl,hp,i + 1,v,hi=>by
  simp only [List.getElem?_cons_succ] at hi ⊢
  have h':okT base fr r q=true:=by
   cases x with
   | none=>simpa [okT] using h
   | some x =>
    cases y with
    | none=>cases x <;> simp [okT] at h
    | some y=>cases x <;> cases y <;> simp only [okT,Bool.and_eq_true] at h <;> first | (cases h; done) | exact h.2
  exact okT_den h' hl hp i v hi
theorem look_fr {ρ ρ2:Env} {base:Nat} (hl:ρ.length=base) {fr:List FV} {j:Nat} {f:FV} (hj:base ≤ j) (hf:fr[j - base]? = some f):look (ρ ++ fr.map (FV.den ρ2)) j=f.den ρ2:=by
 have : ∀ (r:Env) (q:List FV) (i:Nat),q[i]? = some f → look (r ++ q.map (FV.den ρ2)) (r.length + i)=f.den ρ2:=by
  intro r
  induction r with
  | nil =>
   intro q
   induction q with
   | nil=>intro i hi; cases hi
   | cons u v ih=>intro i hi; cases i with
    | zero=>simp only [List.getElem?_cons_zero,Option.some.injEq] at hi; subst hi; rfl
    | succ i=>simp only [List.length_nil,Nat.zero_add,List.nil_append,List.map_cons,look] at ih ⊢; exact ih i (by simpa using hi)
  | cons u v ih =>
   intro q i hi
   simp only [List.length_cons,List.cons_append]
   rw [show v.length + 1 + i=(v.length + i) + 1 by omega]
   exact ih q i hi
 have:=this ρ fr (j - base) hf
 rwa [hl,show base + (j - base)=j by omega] at this
theorem partsH_den {base:Nat} {fr:List FV} {h0:Hp} : ∀ {m l:Hp},partsH base fr h0 m=some l → ∀ {ρ ρ2:Env},ρ.length=base → ρ <+: ρ2 → ∀ {R h:PH},(hden ρ2 l).p R h → (hden (ρ ++ fr.map (FV.den ρ2)) m).p R h
 | [],l,_,_,_,_,_,_,_,_=>trivial
 | (k,c) :: r,l,e,ρ,ρ2,hl,hp,R,h,H=>by
  simp only [partsH] at e
  split at e
  ·cases e
  ·rename_i q hq
   have ih : ∀ {x:PH},(hden ρ2 q).p R x → (hden (ρ ++ fr.map (FV.den ρ2)) r).p R x:=fun hx=>partsH_den hq hl hp hx
   have same : ∀ x:Key × C,(x.1.bel base && x.2.bel base)=true → cden (ρ ++ fr.map (FV.den ρ2)) x=cden ρ2 x:=fun x hb=>by
    obtain ⟨z,rfl⟩:=hp
    rw [← hl] at hb
    rw [cden_app hb,cden_app hb]
   split at e
   ·rename_i x ty
    split at e
    ·rename_i y hy
     cases e
     have hs:=List.find?_some hy
     simp only [Bool.and_eq_true] at hs
     obtain ⟨⟨hB,hk⟩,hc⟩:=hs
     have H1:=(hden_cons ρ2 y q R h).1 H
     refine (hden_cons _ _ _ _ _).2 (HP.sep_mono H1 (fun _ hh => ?_) fun _ hh=>ih hh)
     obtain ⟨yk,yc⟩:=y
     cases yc with
     | cells z ty' =>
      simp only [Bool.and_eq_true,decide_eq_true_eq,Nat.blt_eq] at hc
      obtain ⟨hz,rfl⟩:=hc
      cases k with
      | a j=>cases hB
      | b rr =>
       cases yk with
       | a j=>cases rr <;> simp [okK] at hk
       | b rr' =>
        simp only [cden] at hh ⊢
        rw [okAs_den hz hl hp]
        have:rr.den (ρ ++ fr.map (FV.den ρ2))=rr'.den ρ2:=by
         cases rr with
         | g n=>simp only [okK,decide_eq_true_eq,Nat.blt_eq] at hk; subst hk; rfl
         | v j =>
          simp only [okK] at hk
          split at hk
          ·rename_i hj
           have hk':fr[j - base]? = some (.n rr'):=by simpa using hk
           simp only [BR.den,look_fr hl hj hk',FV.den,Uni.nat_n]
          ·rename_i hj
           have hk':rr' = .v j:=by simpa using hk
           subst hk'
           obtain ⟨z',rfl⟩:=hp
           have hb:BR.bel ρ.length (.v j)=true:=by simp [BR.bel]; omega
           rw [BR.app hb,BR.app hb]
        rw [this]; exact hh
     | emap=>simp at hc
     | dfr=>simp at hc
     | prop j=>simp at hc
    ·cases e
   ·split at e
    ·rename_i hc
     cases e
     simp only [Bool.and_eq_true] at hc
     have H1:=(hden_cons ρ2 _ q R h).1 H
     refine (hden_cons _ _ _ _ _).2 (HP.sep_mono H1 (fun _ hh => ?_) fun _ hh=>ih hh)
     rw [same _ (by simp [hc.1,C.bel])]; exact hh
    ·cases e
   ·split at e
    ·rename_i hc
     cases e
     simp only [Bool.and_eq_true] at hc
     have H1:=(hden_cons ρ2 _ q R h).1 H
     refine (hden_cons _ _ _ _ _).2 (HP.sep_mono H1 (fun _ hh => ?_) fun _ hh=>ih hh)
     rw [same _ (by simp [hc.1,C.bel])]; exact hh
    ·cases e
   ·rename_i j
    split at e
    ·rename_i hj
     split at e
     ·rename_i f q' hf
      cases e
      have H1:=hden_app2.1 H
      refine (hden_cons _ _ _ _ _).2 (HP.sep_mono H1 (fun _ hh => ?_) fun _ hh=>ih hh)
      have:cden (ρ ++ fr.map (FV.den ρ2)) (k,.prop j)=hden ρ2 q':=by
       cases k <;> simp only [cden,look_fr hl hj hf,FV.den,Uni.hp_p]
      rw [this]; exact hh
     ·cases e
    ·rename_i hj
     split at e
     ·rename_i hc
      cases e
      simp only [Bool.and_eq_true] at hc
      have H1:=(hden_cons ρ2 _ q R h).1 H
      refine (hden_cons _ _ _ _ _).2 (HP.sep_mono H1 (fun _ hh => ?_) fun _ hh=>ih hh)
      rw [same _ (by simp [hc.1,C.bel]; omega)]; exact hh
     ·cases e
theorem okS_ok {hd:S} {ss:List So} {fr:List FV} {ρ ρ2:Env} {s:S} {base:Nat} (hl:ρ.length=base) (c:okS base ss hd s fr=true) (hp:ρ <+: ρ2) (ok:Ok ρ2 s a w0 w R h F) (hkn : ∀ x ∈ hd.kn,(x.1.den ρ).bool=x.2):Ok (ρ ++ fr.map (FV.den ρ2)) hd a w0 w R h F:=by
 subst hl
 simp only [okS,Bool.and_eq_true,decide_eq_true_eq,Nat.blt_eq] at c
 obtain ⟨⟨⟨⟨⟨⟨c1,c2⟩,c3⟩,c4⟩,c5⟩,c6⟩,c7,c8⟩:=c
 refine ⟨?_,⟨by rw [ok.tm.1,okT_len c1],fun i v hi => ?_⟩,by simp [c4,c5],fun x hx => ?_,?_,ok.sat,ok.same⟩
 ·rw [ok.dfr,← c7]
  obtain ⟨z,rfl⟩:=hp
  exact List.map_congr_left fun r hr=>by unfold markOf; rw [BR.app (List.all_eq_true.1 c8 r hr),BR.app (List.all_eq_true.1 c8 r hr)]
 ·obtain ⟨u,hu,he⟩:=okT_den c1 rfl hp i v hi
  rw [he]
  exact ok.tm.2 i u hu
 ·rw [E.app (List.all_eq_true.1 c6 x hx)]; exact hkn x hx
 ·split at c2
  ·rename_i l hl
   simp only [Bool.and_eq_true] at c2
   exact partsH_den hl rfl hp (hden_sub c2.1 (fun x hx=>by simpa using List.all_eq_true.1 c2.2 x hx) ok.hp)
  ·cases c2
def sorted:List So → Env → Prop
 | [],[]=>True
 | .n :: r,.n _ :: x=>sorted r x
 | .i :: r,.i _ :: x=>sorted r x
 | .c :: r,.c _ :: x=>sorted r x
 | .s :: r,.s _ :: x=>sorted r x
 | .a :: r,.a _ :: x=>sorted r x
 | .v :: r,.v _ :: x=>sorted r x
 | .p :: r,.p _ :: x=>sorted r x
 | _,_=>False
theorem allP_elim : ∀ {ss:List So} {ρ:Env} {f:Env → Prop} {xs:Env},allP ss ρ f → sorted ss xs → f (ρ ++ xs)
 | [],ρ,f,[],h,_=>by simpa [allP] using h
 | [],_,_,_ :: _,_,hs=>by simp [sorted] at hs
 | t :: r,ρ,f,[],_,hs=>by cases t <;> simp [sorted] at hs
 | .n :: r,ρ,f,.n x :: xs,h,hs | .i :: r,ρ,f,.i x :: xs,h,hs | .c :: r,ρ,f,.c x :: xs,h,hs | .s :: r,ρ,f,.s x :: xs,h,hs | .a :: r,ρ,f,.a x :: xs,h,hs | .v :: r,ρ,f,.v x :: xs,h,hs | .p :: r,ρ,f,.p x :: xs,h,hs=>by
  have:=allP_elim (h x) hs
  simpa using this
 | .n :: _,_,_,.i _ :: _,_,hs | .n :: _,_,_,.c _ :: _,_,hs | .n :: _,_,_,.s _ :: _,_,hs | .n :: _,_,_,.a _ :: _,_,hs | .n :: _,_,_,.v _ :: _,_,hs | .n :: _,_,_,.p _ :: _,_,hs
 | .i :: _,_,_,.n _ :: _,_,hs | .i :: _,_,_,.c _ :: _,_,hs | .i :: _,_,_,.s _ :: _,_,hs | .i :: _,_,_,.a _ :: _,_,hs | .i :: _,_,_,.v _ :: _,_,hs | .i :: _,_,_,.p _ :: _,_,hs
 | .c :: _,_,_,.n _ :: _,_,hs | .c :: _,_,_,.i _ :: _,_,hs | .c :: _,_,_,.s _ :: _,_,hs | .c :: _,_,_,.a _ :: _,_,hs | .c :: _,_,_,.v _ :: _,_,hs | .c :: _,_,_,.p _ :: _,_,hs
 | .s :: _,_,_,.n _ :: _,_,hs | .s :: _,_,_,.i _ :: _,_,hs | .s :: _,_,_,.c _ :: _,_,hs | .s :: _,_,_,.a _ :: _,_,hs | .s :: _,_,_,.v _ :: _,_,hs | .s :: _,_,_,.p _ :: _,_,hs
 | .a :: _,_,_,.n _ :: _,_,hs | .a :: _,_,_,.i _ :: _,_,hs | .a :: _,_,_,.c _ :: _,_,hs | .a :: _,_,_,.s _ :: _,_,hs | .a :: _,_,_,.v _ :: _,_,hs | .a :: _,_,_,.p _ :: _,_,hs
 | .v :: _,_,_,.n _ :: _,_,hs | .v :: _,_,_,.i _ :: _,_,hs | .v :: _,_,_,.c _ :: _,_,hs | .v :: _,_,_,.s _ :: _,_,hs | .v :: _,_,_,.a _ :: _,_,hs | .v :: _,_,_,.p _ :: _,_,hs
 | .p :: _,_,_,.n _ :: _,_,hs | .p :: _,_,_,.i _ :: _,_,hs | .p :: _,_,_,.c _ :: _,_,hs | .p :: _,_,_,.s _ :: _,_,hs | .p :: _,_,_,.a _ :: _,_,hs | .p :: _,_,_,.v _ :: _,_,hs=>by simp [sorted] at hs
theorem so_one {ρ:Env} (f:FV) {ss:List So} {xs:Env} (h:(FV.so f).length=1) (hs:sorted ss xs):sorted (FV.so f ++ ss) (f.den ρ :: xs):=by
 unfold FV.so at h ⊢
 split at h <;> simp at h <;> simpa [FV.den,E.den,F1.app,F2.app,sorted] using hs
theorem fr_sorted (ρ:Env) : ∀ {fr:List FV} {ss:List So},fr.flatMap FV.so=ss → fr.length=ss.length → sorted ss (fr.map (FV.den ρ))
 | [],ss,h,_=>by simp at h; subst h; trivial
 | f :: r,ss,h,hl=>by
  have hlen : ∀ q:List FV,(q.flatMap FV.so).length ≤ q.length:=fun q=>by
   induction q with
   | nil=>simp
   | cons g t ih =>
    simp only [List.flatMap_cons,List.length_append,List.length_cons]
    have:(FV.so g).length ≤ 1:=by unfold FV.so; split <;> simp
    omega
  have h1:(FV.so f).length=1:=by
   have:=hlen r
   subst h
   simp only [List.flatMap_cons,List.length_append,List.length_cons] at hl
   have:(FV.so f).length ≤ 1:=by unfold FV.so; split <;> simp
   omega
  subst h
  have hr:r.length=(r.flatMap FV.so).length:=by
   simp only [List.flatMap_cons,List.length_append,List.length_cons] at hl
   omega
  have ih:=fr_sorted ρ (fr:=r) rfl hr
  simp only [List.flatMap_cons,List.map_cons]
  exact so_one f h1 ih
end
end Go.Proofs.YtdieogcemmnaaaaGreatDoor.RX

namespace Go.Proofs.YtdieogcemmnaaaaGreatDoor.RX
open Go.Proofs.YtdieogcemmnaaaaGreatDoor
def Reach (c:Ctx) (K:Ex → S → T):Exit → Act → World → Prop
 | .normal,a,w=>Nx c (K .norm) a w
 | .exit id,a,w=>Nx c (K (.exit id)) a w
 | .ret,a,w=>Nx c (K .ret) a w
 | _,_,_=>False
section
variable {P:Program} {post:Value → HP} {w0:World} {F:PH} {cfg:Cfg}
theorem Reach.up {K:Ex → S → T} {ρ ρ':Env} {R R':PH} {L L':List (Env → Prop)} {e:Exit} {a:Act} {w:World} (p1:ρ <+: ρ') (p2:R.le R') (p3:L <:+ L') (n:Reach ⟨P,post,w0,F,ρ',R',L'⟩ K e a w):Reach ⟨P,post,w0,F,ρ,R,L⟩ K e a w:=by
 cases e <;> first | exact Nx.up p1 p2 p3 n | exact n
theorem hden_unfilter {ρ:Env} (q:Key × C → Bool) {l:Hp} {R h:PH} (H:(HP.sep (hden ρ (l.filter q)) (hden ρ (l.filter fun x => !q x))).p R h):(hden ρ l).p R h:=by
 induction l generalizing h with
 | nil=>trivial
 | cons x r ih =>
  rw [List.filter_cons,List.filter_cons] at H
  cases hq:q x with
  | true =>
   simp only [hq,if_true,Bool.not_true,Bool.false_eq_true,if_false] at H
   exact (hden_cons ρ x r R h).2 (HP.sep_mono (HP.sep_assoc (HP.sep_mono H (fun _ h=>(hden_cons ρ x _ _ _).1 h) fun _ h=>h)) (fun _ h=>h) fun _ h=>ih h)
  | false =>
   simp only [hq,Bool.false_eq_true,if_false,Bool.not_false,if_true] at H
   have H2:=HP.sep_comm H
   have H3:=HP.sep_assoc (HP.sep_mono H2 (fun _ h=>(hden_cons ρ x _ _ _).1 h) fun _ h=>h)
   exact (hden_cons ρ x r R h).2 (HP.sep_mono H3 (fun _ h=>h) fun _ h=>ih (HP.sep_comm h))
theorem okS_hp {hd:S} {ss:List So} {fr:List FV} {ρ ρ2:Env} {s:S} {base:Nat} {R h:PH} (hl:ρ.length=base) (c:okS base ss hd s fr=true) (hp:ρ <+: ρ2) (H:(hden ρ2 s.h).p R h):(hden (ρ ++ fr.map (FV.den ρ2)) hd.h).p R h:=by
 simp only [okS,Bool.and_eq_true,decide_eq_true_eq,Nat.blt_eq] at c
 have c2:=c.1.1.1.1.1.2
 split at c2
 ·rename_i l hl'
  simp only [Bool.and_eq_true] at c2
  exact partsH_den hl' hl hp (hden_sub c2.1 (fun x hx=>by simpa using List.all_eq_true.1 c2.2 x hx) H)
 ·cases c2
theorem okS_so {hd:S} {ss:List So} {fr:List FV} {s:S} {base:Nat} (c:okS base ss hd s fr=true) (ρ:Env):sorted ss (fr.map (FV.den ρ)) ∧ fr.length=ss.length ∧ hd.n=base + ss.length:=by
 simp only [okS,Bool.and_eq_true,decide_eq_true_eq,Nat.blt_eq] at c
 exact ⟨fr_sorted ρ c.1.1.1.1.2 c.1.1.1.2,c.1.1.1.2,c.1.1.2⟩
theorem sorted_len : ∀ {ss:List So} {xs:Env},sorted ss xs → xs.length=ss.length
 | [],[],_=>rfl
 | [],_ :: _,h=>by simp [sorted] at h
 | t :: r,[],h=>by cases t <;> simp [sorted] at h
 | t :: r,x :: xs,h=>by cases t <;> cases x <;> simp only [sorted] at h <;> first | (simp only [List.length_cons,sorted_len h]; done) | exact h.elim
theorem _root_.Go.Proofs.YtdieogcemmnaaaaGreatDoor.Sat.turnF {w:World} {R h F:PH} (s:Sat w R h F) {l:Nat} {x:Obj} (hb:F l=some x) (y:Obj):Sat (w.putObj l y) R h (fun k=>if k=l then some y else F k):=by
 have hR:R l=none:=(s.dRF l).resolve_right (by rw [hb]; simp)
 have hh:h l=none:=(s.dhF l).resolve_right (by rw [hb]; simp)
 have keep : ∀ g:PH,g.own w → g l=none → g.own (w.putObj l y):=fun g og gl k o e=>by
  rw [World.putObj_heap_other (fun e'=>by subst e'; rw [gl] at e; cases e)]; exact og k o e
 refine ⟨s.dRh,fun k => ?_,fun k => ?_,keep R s.oR hR,keep h s.oh hh,fun k o e => ?_,s.gl⟩
 ·by_cases e:k=l
  ·subst e; exact .inl hR
  ·simp only [e,if_false]; exact s.dRF k
 ·by_cases e:k=l
  ·subst e; exact .inl hh
  ·simp only [e,if_false]; exact s.dhF k
 ·by_cases e':k=l
  ·subst e'
   simp only [if_true] at e
   cases e
   exact World.putObj_heap_same (s.oF.lt hb)
  ·simp only [e',if_false] at e
   rw [World.putObj_heap_other e']; exact s.oF k o e
theorem _root_.Go.Proofs.YtdieogcemmnaaaaGreatDoor.Sat.unframe {w:World} {R h F G:PH} (s:Sat w R h F) {l:Nat} {x:Obj} (hb:F l=some x) (hG:G.le F) (hGl:G l=none):Sat w R (h.un (PH.one l x)) G ∧ h.dj (PH.one l x):=by
 have hR:R l=none:=(s.dRF l).resolve_right (by rw [hb]; simp)
 have hh:h l=none:=(s.dhF l).resolve_right (by rw [hb]; simp)
 have d1:h.dj (PH.one l x):=fun k=>by
  by_cases e:k=l
  ·subst e; exact .inl hh
  ·exact .inr (if_neg e)
 refine ⟨⟨(PH.dj_un s.dRh.symm (fun k => ?_)).symm,s.dRF.le (PH.le.refl _) hG,PH.dj_un (s.dhF.le (PH.le.refl _) hG) (fun k => ?_),s.oR,fun k o e => ?_,s.oF.le hG,s.gl⟩,d1⟩
 ·by_cases e:k=l
  ·subst e; exact .inr hR
  ·exact .inl (if_neg e)
 ·by_cases e:k=l
  ·subst e; exact .inr hGl
  ·exact .inl (if_neg e)
 ·rcases PH.un_some e with e | e
  ·exact s.oh k o e
  ·obtain ⟨rfl,rfl⟩:=PH.one_some e; exact s.oF _ _ hb
theorem Same.putObj (w:World) (l:Nat) (o:Obj):Same w (w.putObj l o):=⟨rfl,rfl,rfl,by simp⟩
theorem Tm.sets {ρ:Env} : ∀ (l:List (Tmp × W)) {t:List (Option V)} {a:Act},Tm ρ t a →
  Tm ρ (l.foldl (fun t x=>t.set x.1 (some (.w x.2))) t) { a with tmps:=(l.map fun x=>(x.1,x.2.den ρ)).foldl (fun ts x=>ts.setIfInBounds x.1 x.2) a.tmps }
 | [],_,_,h=>h
 | (d,x) :: r,t,a,h=>by
  have:=Tm.sets r (h.put d (.w x))
  simpa [Act.put,V.den] using this
theorem zip_args {ps:Array Tmp} {pvs:List W} {ρ:Env} {ts:Array Value}:(ps.zip (pvs.map (W.den ρ)).toArray).foldl (fun tmps (x:Tmp × Value)=>tmps.setIfInBounds x.1 x.2) ts=((ps.toList.zip pvs).map fun x=>(x.1,x.2.den ρ)).foldl (fun ts x=>ts.setIfInBounds x.1 x.2) ts:=by
 rw [← Array.foldl_toList]
 congr 1
 rw [Array.toList_zip]
 simp only
 rw [List.zip_map_right]
 exact List.map_congr_left fun x _=>rfl
theorem wpIn_loop_num {Fr:Fence} {n':Nat} {Q:Exit → Act → World → Prop} {c:Code} (I:Nat → Act → World → Prop)
  (round : ∀ n a w,I n a w → c.wpIn Fr n' P (Exit.then (fun a' w' => ∃ m,m < n ∧ I m a' w') Q) a w) : ∀ n a w,I n a w → (Code.loop c).wpIn Fr n' P Q a w:=by
 intro n₀ a₀ w₀ h₀ b k cs hro hb hr
 have key : ∀ n a w,I n a w → ∃ e a' w',Q e a' w' ∧ ArrivesIn (Machine.fenced P Fr) P (lone (b.atR a (.code c :: .inLoop c :: k)) cs w) b k cs e a' w':=by
  intro n
  induction n using Nat.strongRecOn with
  | _ n ih =>
   intro a w hI
   obtain ⟨e,a₁,w₁,hq,harr⟩:=round n a w hI b (.inLoop c :: k) cs hro hb hr
   cases e with
   | normal =>
    obtain ⟨m,hm,hI₁⟩:=hq
    obtain ⟨e₂,a₂,w₂,hq₂,harr₂⟩:=ih m hm a₁ w₁ hI₁
    exact ⟨e₂,a₂,w₂,hq₂,.of_steps (StepsIn.trans harr (.one (fenced_calm hb hr rfl) stepR_inLoop)) harr₂⟩
   | exit id=>exact ⟨_,a₁,w₁,hq,.pass (x := .inLoop c) rfl (fun _ _ => .inl (by simp)) harr⟩
   | goto l=>exact ⟨_,a₁,w₁,hq,.pass (x := .inLoop c) rfl (fun _ _ => .inl (by simp)) harr⟩
   | ret=>exact ⟨_,a₁,w₁,hq,.pass (x := .inLoop c) rfl (fun _ _ => .inl (by simp)) harr⟩
   | panic ch=>exact ⟨_,a₁,w₁,hq,.pass (x := .inLoop c) rfl (fun _ _ => .inl (by simp)) harr⟩
   | outgrown=>exact ⟨_,a₁,w₁,hq,.pass (x := .inLoop c) rfl (fun _ _ => .inl (by simp)) harr⟩
 obtain ⟨e,a',w',hq,harr⟩:=key n₀ a₀ w₀ h₀
 exact ⟨e,a',w',hq,.of_steps (.one (fenced_calm hb hr rfl) stepR_loop) harr⟩
def IH (P:Program) (cfg:Cfg) (post:Value → HP) (c:Code):Prop := ∀ {Fr:Fence} (_:WF Fr) {rd:Bool} (_:rd=false → Fr=Fence.wide) {w0:World} {F:PH} {K:Ex → S → T} {ρ:Env} {s:S} {a:Act} {w:World} {R h:PH} {L:List (Env → Prop)},Ok ρ s a w0 w R h F → L.length=s.dp → (exec P cfg rd c s K).den P post L ρ →
  c.wpIn Fr 0 P (Reach ⟨P,post,w0,F,ρ,R,L⟩ K) a w
set_option maxHeartbeats 1000000 in
theorem range_ok {g:Operand} {ps:Array Tmp} {asg b:Code} (iha:IH P cfg post asg) (ihb:IH P cfg post b) {K:Ex → S → T} {ρ:Env} {s:S} {a:Act} {w:World} {R h:PH} {L:List (Env → Prop)} (ok:Ok ρ s a w0 w R h F) (hl:L.length=s.dp)
  {gv:A} (hgv:evA s g=some gv) (hok:(rgOf P cfg s gv).ok gv false s ps.toList=true) (hd:(let r:=rgOf P cfg s gv
    T.new (.rangef gv r.c (r.hd.s.h.filter fun x=>r.shk.contains x.1) r.hd.ss r.fr r.pss r.pvs r.pch
     (exec P cfg true asg (r.round ps.toList) fun x sA=>match x with
      | .norm=>exec P cfg true b sA fun x s2=>match x with
       | .norm =>
        let fr2:=fitS r.s1.n r.hd.s (r.endS s2)
        if okS r.s1.n r.hd.ss r.hd.s (r.endS s2) fr2 then .again (s2.dp - r.hd.s.dp) fr2 else .all (.fail (8000 + s.blk)) (.ret (.tup []) (diffH r.s1.n fr2 s2.h r.hd.s.h))
       | x=>K x (r.leftS s2)
      | _ => .fail 84)
     (K .norm (r.doneS s)))).den P post L ρ) :
  (Code.rangeFunc g ps asg b).wpIn Fence.wide 0 P (Reach ⟨P,post,w0,F,ρ,R,L⟩ K) a w:=by
 have wfw:WF Fence.wide := .inl rfl
 refine wpIn_rangeFunc fun fn _ => ?_
 obtain ⟨γ,Sh,Pr,may,fin,g0,I,⟨f,caps,hgval,hfgo,htri⟩,hI0,hSh,hrnd,hfin⟩:=hd w.heap.size
 simp only [Rg.ok,Bool.not_false,Bool.true_and,Bool.and_eq_true,decide_eq_true_eq,Nat.blt_eq] at hok
 obtain ⟨⟨⟨⟨⟨⟨hgb,hcb0⟩,hsb⟩,hokS⟩,hhbel⟩,hpn⟩,hpl⟩:=hok
 have et:(rgOf P cfg s gv).hd.s.t=s.t:=rfl
 have ek:(rgOf P cfg s gv).hd.s.kn=s.kn:=rfl
 have ed:(rgOf P cfg s gv).hd.s.dp=s.dp + 1:=rfl
 have edf:(rgOf P cfg s gv).hd.s.df=[]:=rfl
 have es1:(rgOf P cfg s gv).s1={ s with n:=s.n + 1,h:=(.b (.v s.n),.dfr) :: s.h,df := .v s.n :: s.df }:=rfl
 have ec:(rgOf P cfg s gv).c=(rgOf P cfg s gv).s1.h.filter fun x=>(reach s.h s.lk 60 (keysA gv) []).contains x.1 && !(rgOf P cfg s gv).shk.contains x.1:=rfl
 have er:(rgOf P cfg s gv).rest=(rgOf P cfg s gv).s1.h.filter fun x => !((reach s.h s.lk 60 (keysA gv) []).contains x.1 && !(rgOf P cfg s gv).shk.contains x.1):=rfl
 generalize hr:rgOf P cfg s gv=r at *
 -- the two blocks
 let d:=w.heap.size
 let ρ1:Env:=ρ ++ [.n d]
 have hρ1:ρ1.length=s.n + 1:=by simp [ρ1,ok.len]
 have k1:Ok ρ1 { s with n:=s.n + 1 } a w0 w R h F:=ok.app hsb [.n d] (s.n + 1) rfl
 let rec0:Loop:={ state := .ready,pending:=none,fn,tmps:=a.tmps,params:=ps,assign:=asg,body:=b,defers:=d }
 let w1:=(w.alloc (.deferred (some []))).alloc (.loop rec0)
 let l:=d + 1
 have el:(w.alloc (.deferred (some []))).heap.size=l:=by rw [World.size_alloc]
 obtain ⟨sd,dd⟩:=ok.sat.alloc (.deferred (some []))
 have hpd:(hden ρ1 r.s1.h).p R ((PH.one d (.deferred (some []))).un h):=by
  rw [es1]
  refine (hden_cons _ _ _ _ _).2 ⟨PH.one d _,h,dd,PH.un_left _ _,PH.un_right dd,?_,k1.hp⟩
  show (PH.one d _) (BR.den ρ1 (.v s.n))=_
  have:BR.den ρ1 (.v s.n)=d:=by simp only [BR.den,ρ1]; rw [← ok.len,look_at]; rfl
  rw [this]; exact PH.one_self _ _
 obtain ⟨sl,dl⟩:=sd.alloc (.loop rec0)
 rw [el] at sl dl
 have hcut:=hden_filter (fun x=>(reach s.h s.lk 60 (keysA gv) []).contains x.1 && !r.shk.contains x.1) hpd
 rw [← ec,← er] at hcut
 have hrn:r.s1.n=s.n + 1:=by rw [es1]
 -- what a round begins with
 let Kx:γ → HP:=fun g=>HP.ex fun ys:Env=>HP.and (sorted r.hd.ss ys ∧ Cur.app r.hd.ss (I g) ys) (HP.sep (hden (ρ1 ++ ys) (r.hd.s.h.filter fun x => !r.shk.contains x.1)) (HP.one l (.loop rec0)))
 have toK : ∀ g ys R h,sorted r.hd.ss ys → Cur.app r.hd.ss (I g) ys → (HP.sep (hden (ρ1 ++ ys) r.hd.s.h) (HP.one l (.loop rec0))).p R h → (HP.sep (Sh g) (Kx g)).p R h:=fun g ys R h hso hI H=>by
  have e:=allP_elim (hSh g) hso
  rw [show ρ ++ [Uni.n w.heap.size]=ρ1 from rfl,List.drop_left] at e
  rw [e hI]
  exact HP.sep_mono (HP.sep_assoc (HP.sep_mono H (fun _ h=>hden_filter (fun x=>r.shk.contains x.1) h) fun _ h=>h)) (fun _ h=>h) fun _ h=>⟨ys,⟨hso,hI⟩,h⟩
 have ofK : ∀ g R h,(HP.sep (Sh g) (Kx g)).p R h → ∃ ys,sorted r.hd.ss ys ∧ Cur.app r.hd.ss (I g) ys ∧ (HP.sep (hden (ρ1 ++ ys) r.hd.s.h) (HP.one l (.loop rec0))).p R h:=fun g R h ⟨h1,h2,dj,l1,l2,hs,ys,⟨hso,hI⟩,hk⟩=>by
  have e:=allP_elim (hSh g) hso
  rw [show ρ ++ [Uni.n w.heap.size]=ρ1 from rfl,List.drop_left] at e
  rw [e hI] at hs
  exact ⟨ys,hso,hI,HP.sep_mono (HP.sep_assoc' ⟨h1,h2,dj,l1,l2,hs,hk⟩) (fun _ h=>hden_unfilter (fun x=>r.shk.contains x.1) h) fun _ h=>h⟩
 -- what a round that leaves the loop leaves
 let Jx:HP:=HP.ex fun z:(Code × Ex) × Env × S × List (Env → Prop)=>HP.and ((z.1=(.ret,.ret) ∨ ∃ id,z.1=(.exit id,.exit id)) ∧ ρ1 <+: z.2.1 ∧ z.2.1.length=z.2.2.1.n ∧ L <:+ z.2.2.2 ∧ z.2.2.2.length=z.2.2.1.dp ∧ (∀ x ∈ z.2.2.1.kn,(x.1.den z.2.1).bool=x.2) ∧ (K z.1.2 (r.leftS z.2.2.1)).den P post z.2.2.2 z.2.1)
  (HP.sep (hden z.2.1 z.2.2.1.h) (HP.one l (.loop { rec0 with state := .done,pending:=some z.1.1 })))
 have hround : ∀ g args,(∃ g',may g args g') → VTri P (.func (.yield l) #[] #[]) args (HP.sep (Pr g args) (HP.sep (Sh g) (Kx g))) (RndPost Sh Kx Jx (may g args)):=fun gg args hmay=>by
  refine .inr ⟨l,rfl,fun wr Rr hr0 Fr' satr hpre => ?_⟩
  obtain ⟨ha,hb0,dab,la,lb,hPr,hSK⟩:=hpre
  obtain ⟨ys,hso,hI,hH⟩:=ofK gg Rr hb0 hSK
  have hrr:=allP_elim (hrnd gg args hmay) hso
  rw [show ρ ++ [Uni.n w.heap.size]=ρ1 from rfl,List.drop_left] at hrr
  obtain ⟨zs,hzl,hargs,hent,hden2⟩:=exP_elim (hrr hI)
  obtain ⟨R2,h2,q1,q2,q3,q4,hS⟩:=hent.sep (HP.sep (hden (ρ1 ++ ys) r.hd.s.h) (HP.one l (.loop rec0))) Rr hr0 satr.dRh ⟨ha,hb0,dab,la,lb,hPr,hH⟩
  have satr2:=satr.ent q1 q2 q3 q4
  obtain ⟨hx,hlr,dx,lx,llr,hPH,hone⟩:=HP.sep_assoc' hS
  have sat3:=satr2.cut dx lx llr
  have hdjF:hlr.dj Fr':=satr2.dhF.le llr (PH.le.refl _)
  have hone':hlr l=some (.loop rec0):=hone
  have hFl:(hlr.un Fr') l=some (.loop rec0):=PH.un_left _ _ _ _ hone'
  have hFr'l:Fr' l=none:=(hdjF l).resolve_left (by rw [hone']; simp)
  have hleF:Fr'.le (hlr.un Fr'):=PH.un_right hdjF
  have hheap:wr.heap[l]? = some (.loop rec0):=sat3.oF _ _ hFl
  have hsz:args.size=rec0.params.size:=by
   rw [hargs]; simp [rec0,hpl]
  refine ⟨_,_,_,_,run_yield hheap hsz,?_⟩
  refine roundIn_of_wpIn trivial ?_
  have hys:(ρ1 ++ ys).length=r.hd.s.n:=by
   rw [List.length_append,hρ1,sorted_len hso,(okS_so hokS ρ1).2.2,hrn]
  have hbs:=hsb
  simp only [S.bel,Bool.and_eq_true] at hbs
  have okh:Ok (ρ1 ++ ys) r.hd.s { tmps:=a.tmps,defers:=[] } wr wr R2 hx (hlr.un Fr'):=by
   have tmb:(s.t.all fun | some v=>v.bel ρ.length | none=>true)=true:=by rw [ok.len]; exact hbs.1.1.1
   refine ⟨by rw [edf]; rfl,?_,hys,fun x hx => ?_,?_,sat3,Same.refl _⟩
   ·rw [et]
    have:=ok.tm.app tmb ([.n d] ++ ys)
    rw [← List.append_assoc] at this
    exact ⟨this.1,this.2⟩
   ·rw [ek] at hx
    have hb:=List.all_eq_true.1 hbs.2 x hx
    rw [← ok.len] at hb
    have:(x.1.den (ρ ++ ([.n d] ++ ys))).bool=x.2:=by rw [E.app hb]; exact ok.kn x hx
    rwa [← List.append_assoc] at this
   ·exact HP.sep_right hPH
  have okz:=okh.app hhbel zs r.pn (hpn.trans (by rw [hzl]))
  have okr:Ok (ρ1 ++ ys ++ zs) (r.round ps.toList) { tmps:=(rec0.params.zip args).foldl (fun tmps x=>tmps.setIfInBounds x.1 x.2) rec0.tmps,defers:=[] } wr wr R2 hx (hlr.un Fr'):=by
   refine ⟨okz.dfr,?_,okz.len,okz.kn,?_,sat3,Same.refl _⟩
   ·rw [hargs,zip_args]
    exact Tm.sets (ps.toList.zip r.pvs) okz.tm
   ·refine hden_app2.2 (HP.sep_mono hPH (fun _ h=>h) fun y hy => ?_)
    have hb:=hhbel
    simp only [S.bel,Bool.and_eq_true] at hb
    have hb2:hbel (ρ1 ++ ys).length r.hd.s.h=true:=by rw [hys]; exact hb.1.1.2
    rw [hden_app hb2]; exact hy
  refine wpIn_mono (iha (Fr:=Fence.wide.inRound l) (.inr ⟨l,rfl⟩) (rd:=true) (fun h=>by cases h) okr (by show _=r.hd.s.dp; rw [ed,List.length_cons,hl]) hden2) fun e a1 w3 rr => ?_
  cases e with
  | normal =>
   obtain ⟨ρ3,s3,R3,h3,L3,p1,p2,p3,p4,p5,p6⟩:=rr
   simp only at p1 p2 p3 p4 p5 p6
   refine ⟨_,run_beginRound (p5.sat.oF _ _ hFl) rfl,?_⟩
   have sat4:=p5.sat.turnF hFl (.loop { rec0 with state := .busy })
   have ok4:Ok ρ3 s3 a1 wr (w3.putObj l (.loop { rec0 with state := .busy })) R3 h3 _:=⟨p5.dfr,p5.tm,p5.len,p5.kn,p5.hp,sat4,p5.same.trans (Same.putObj _ _ _)⟩
   have hF4 : ∀ y:Obj,(fun k=>if k=l then some y else (hlr.un Fr') k) l=some y:=fun y=>if_pos rfl
   have hle4 : ∀ y:Obj,Fr'.le (fun k=>if k=l then some y else (hlr.un Fr') k):=fun y k o e=>by
    by_cases ek:k=l
    ·subst ek; rw [hFr'l] at e; cases e
    ·simp only [ek,if_false]; exact hleF k o e
   refine wpIn_mono (ihb (Fr:=Fence.wide.inRound l) (.inr ⟨l,rfl⟩) (rd:=true) (fun h=>by cases h) ok4 p4 p6) fun e a2 w5 rr => ?_
   have back : ∀ {ρ5 s5 R5 h5},Ok ρ5 s5 a2 wr w5 R5 h5 (fun k=>if k=l then some (.loop { rec0 with state := .busy }) else (hlr.un Fr') k) → ∀ y:Obj,Sat (w5.putObj l y) R5 (h5.un (PH.one l y)) Fr' ∧ h5.dj (PH.one l y):=fun ok5 y=>by
    have:=ok5.sat.turnF (hF4 _) y
    refine this.unframe (if_pos rfl) (fun k o e => ?_) hFr'l
    by_cases ek:k=l
    ·subst ek; rw [hFr'l] at e; cases e
    ·simp only [ek,if_false]; exact hleF k o e
   cases e with
   | normal =>
    obtain ⟨ρ5,s5,R5,h5,L5,q1',q2',q3',q4',q5',q6'⟩:=rr
    simp only at q1' q2' q3' q4' q5' q6'
    split at q6'
    ·rename_i hc2
     refine ⟨_,_,run_endRound none (q5'.sat.oF _ _ (hF4 _)),?_⟩
     obtain ⟨sat6,d6⟩:=back q5' (.loop { ({ rec0 with state := .busy }:Loop) with state:=if (none:Option Code).isNone then .ready else .done,pending:=none })
     refine ⟨_,rfl,q5'.same.trans (Same.putObj _ _ _),R5,_,q1.trans (p2.trans q2'),sat6,?_⟩
     obtain ⟨pre,hpre⟩:=p3.trans q3'
     have hlen:s5.dp - r.hd.s.dp=pre.length:=by
      have:L5.length=pre.length + (L.length + 1):=by rw [← hpre]; simp
      rw [ed]; omega
     have hget:L5[s5.dp - r.hd.s.dp]? = some (fun ys => ∃ g',may gg args g' ∧ Cur.app r.hd.ss (I g') ys):=by
      rw [hlen,← hpre,List.getElem?_append_right (Nat.le_refl _),Nat.sub_self]; rfl
     simp only [T.den,hget] at q6'
     obtain ⟨g',hmay',hI'⟩:=q6'
     have p15:ρ1 <+: ρ5:=List.IsPrefix.trans (show ρ1 <+: ρ1 ++ ys ++ zs from ⟨ys ++ zs,(List.append_assoc ..).symm⟩) (p1.trans q1')
     refine ⟨true,rfl,g',hmay',toK g' _ _ _ (okS_so hc2 ρ5).1 hI' ⟨h5,PH.one l _,d6,PH.un_left _ _,PH.un_right d6,?_,?_⟩⟩
     ·exact okS_hp (hρ1.trans hrn.symm) hc2 p15 q5'.hp
     ·exact PH.one_self _ _
    ·exact q6'.1.elim
   | ret =>
    obtain ⟨ρ5,s5,R5,h5,L5,q1',q2',q3',q4',q5',q6'⟩:=rr
    simp only at q1' q2' q3' q4' q5' q6'
    refine ⟨_,_,run_endRound (some .ret) (q5'.sat.oF _ _ (hF4 _)),?_⟩
    obtain ⟨sat6,d6⟩:=back q5' (.loop { ({ rec0 with state := .busy }:Loop) with state:=if (some Code.ret:Option Code).isNone then .ready else .done,pending:=some .ret })
    have p15:ρ1 <+: ρ5:=List.IsPrefix.trans (show ρ1 <+: ρ1 ++ ys ++ zs from ⟨ys ++ zs,(List.append_assoc ..).symm⟩) (p1.trans q1')
    refine ⟨_,rfl,q5'.same.trans (Same.putObj _ _ _),R5,_,q1.trans (p2.trans q2'),sat6,false,rfl,((.ret,.ret),ρ5,s5,L5),⟨.inl rfl,p15,q5'.len,(List.suffix_cons _ _).trans (p3.trans q3'),q4',q5'.kn,q6'⟩,h5,PH.one l _,d6,PH.un_left _ _,PH.un_right d6,q5'.hp,PH.one_self _ _⟩
   | exit id =>
    obtain ⟨ρ5,s5,R5,h5,L5,q1',q2',q3',q4',q5',q6'⟩:=rr
    simp only at q1' q2' q3' q4' q5' q6'
    refine ⟨_,_,run_endRound (some (.exit id)) (q5'.sat.oF _ _ (hF4 _)),?_⟩
    obtain ⟨sat6,d6⟩:=back q5' (.loop { ({ rec0 with state := .busy }:Loop) with state:=if (some (Code.exit id):Option Code).isNone then .ready else .done,pending:=some (.exit id) })
    have p15:ρ1 <+: ρ5:=List.IsPrefix.trans (show ρ1 <+: ρ1 ++ ys ++ zs from ⟨ys ++ zs,(List.append_assoc ..).symm⟩) (p1.trans q1')
    refine ⟨_,rfl,q5'.same.trans (Same.putObj _ _ _),R5,_,q1.trans (p2.trans q2'),sat6,false,rfl,((.exit id,.exit id),ρ5,s5,L5),⟨.inr ⟨id,rfl⟩,p15,q5'.len,(List.suffix_cons _ _).trans (p3.trans q3'),q4',q5'.kn,q6'⟩,h5,PH.one l _,d6,PH.un_left _ _,PH.un_right d6,q5'.hp,PH.one_self _ _⟩
   | goto t=>exact rr.elim
   | panic c=>exact rr.elim
   | outgrown=>exact rr.elim
  | ret=>obtain ⟨ρ3,s3,R3,h3,L3,p1,p2,p3,p4,p5,p6⟩:=rr; exact p6.elim
  | exit id=>obtain ⟨ρ3,s3,R3,h3,L3,p1,p2,p3,p4,p5,p6⟩:=rr; exact p6.elim
  | goto t=>exact rr.elim
  | panic c=>exact rr.elim
  | outgrown=>exact rr.elim
 -- the call
 have hpre:(HP.sep (hden ρ1 r.c) (HP.sep (Sh g0) (Kx g0))).p R ((PH.one l (.loop rec0)).un ((PH.one d (.deferred (some []))).un h)):=by
  have H0:(HP.sep (HP.one l (.loop rec0)) (HP.sep (hden ρ1 r.c) (hden ρ1 r.rest))).p R ((PH.one l (.loop rec0)).un ((PH.one d (.deferred (some []))).un h)) :=
   ⟨PH.one l _,_,dl,PH.un_left _ _,PH.un_right dl,PH.one_self _ _,hcut⟩
  refine HP.sep_mono (HP.sep_assoc (HP.sep_comm H0)) (fun _ h=>h) fun y hy => ?_
  exact toK g0 (r.fr.map (FV.den ρ1)) R y (okS_so hokS ρ1).1 hI0 (HP.sep_mono hy (fun _ h=>okS_hp (s:=r.start) (hρ1.trans hrn.symm) hokS (List.prefix_refl _) h) fun _ h=>h)
 have hfn:=hfgo
 obtain ⟨fnn,hfn1,hfn2,hfn3⟩:=hfn
 refine ⟨l,[{ target := .collected d,args := #[] }],w1,{ target := .fn (.func f) caps,args := #[.func (.yield l) #[] #[]] },w1,f,#[.func (.yield l) #[] #[]] ++ caps,w1,?_,?_,fun _ _=>trivial,?_,wfw.dep,?_⟩
 ·exact run_enterLoop_outer fn a.tmps ps asg b
 ·have hgd:a.eval g = .func (.func f) #[] caps:=by
   rw [evA_den ok.tm hgv]
   rw [← ok.len] at hgb
   rw [← A.app hgb [.n d]]
   exact hgval
  simp only [resolve,rangeCall,hgd,Sem.run_bind,Deferred.ofValue,Sem.run_pure,Result.andThen_ok]
  simp [Act.eval]
 ·simp only [invoke,callFunc,program,Sem.run_bind,Sem.run,Result.andThen_ok,hfn1,hfn3,hfn2,Bool.false_eq_true,if_false]
  rfl
 refine wfw.calls ((htri l Kx Jx hround w1 R _ F sl hpre).mono fun e w' ⟨v,he,sm,R',h',lR,sat',hpost⟩ => ?_)
 subst he
 have same':Same w0 w':=ok.same.trans ((Same.alloc w _).trans ((Same.alloc _ _).trans sm))
 have hdfr : ∀ x:Env,({ a with defers:=[({ target := .collected d,args := #[] }:Deferred)] ++ a.defers }:Act).defers=r.s1.df.map (markOf (ρ1 ++ x)):=fun x=>by
  rw [es1]
  simp only [List.map_cons,List.cons_append,List.nil_append]
  have e1:markOf (ρ1 ++ x) (.v s.n)={ target := .collected d,args := #[] }:=by
   simp only [markOf,BR.den,ρ1,List.append_assoc,List.cons_append,List.nil_append]
   rw [← ok.len,look_at]; rfl
  rw [e1,k1.dfr]
  congr 1
  have hb:=hsb
  simp only [S.bel,Bool.and_eq_true] at hb
  exact List.map_congr_left fun q hq=>by
   have:=List.all_eq_true.1 hb.1.2 q hq
   rw [← ok.len] at this
   unfold markOf
   simp only [ρ1,List.append_assoc]
   rw [BR.app this,BR.app this]
 have htm : ∀ x:Env,Tm (ρ1 ++ x) s.t { a with defers:=[({ target := .collected d,args := #[] }:Deferred)] ++ a.defers }:=fun x=>by
  have hb:=hsb
  simp only [S.bel,Bool.and_eq_true] at hb
  have tmb:(s.t.all fun | some v=>v.bel ρ.length | none=>true)=true:=by rw [ok.len]; exact hb.1.1.1
  have:=ok.tm.app tmb ([.n d] ++ x)
  rw [← List.append_assoc] at this
  exact ⟨this.1,this.2⟩
 have hcb : ∀ x:Env,hden (ρ1 ++ x) r.c=hden ρ1 r.c:=fun x=>hden_app (by rw [hρ1,← hrn]; exact hcb0) x
 obtain ⟨hc,hs,dcs,lc,ls,hC,o,ho⟩:=hpost
 -- the record is let go
 have drop : ∀ {A:HP} {o2:Loop} {R2},(HP.sep A (HP.one l (.loop o2))).p R' hs → R2=R' → ∀ y,∃ hA,A.p R' hA ∧ w'.heap[l]? = some (.loop o2) ∧ Sat (w'.putObj l y) R' (hc.un hA) F ∧ hc.dj hA:=fun H _ y=>by
  obtain ⟨hA,hL,dA,lA,lL,pA,pL⟩:=H
  have hLl:hL l=some (.loop _):=pL
  have hin:h' l=some (.loop _):=ls _ _ (lL _ _ hLl)
  have hcl:hc l=none:=(dcs l).resolve_right (by rw [lL _ _ hLl]; simp)
  have hAl:hA l=none:=(dA l).resolve_right (by rw [hLl]; simp)
  have heap:=sat'.oh _ _ hin
  refine ⟨hA,pA,heap,?_,dcs.le (PH.le.refl _) lA⟩
  have t:=sat'.turn (w':=w'.putObj l y) (y:=y) hin (fun k hk=>World.putObj_heap_other hk) (World.putObj_heap_same (sat'.oh.lt hin))
  have le:(hc.un hA).le (fun k=>if k=l then some y else h' k):=fun k o e=>by
   by_cases ek:k=l
   ·subst ek
    rcases PH.un_some e with e | e
    ·rw [hcl] at e; cases e
    ·rw [hAl] at e; cases e
   ·simp only [ek,if_false]
    rcases PH.un_some e with e | e
    ·exact lc _ _ e
    ·exact ls _ _ (lA _ _ e)
  exact ⟨t.dRh.le (PH.le.refl _) le,t.dRF,t.dhF.le le (PH.le.refl _),t.oR,t.oh.le le,t.oF,t.gl⟩
 cases o with
 | some gg =>
  obtain ⟨hf,hSK⟩:=ho
  obtain ⟨ys,hso,hI,hH⟩:=ofK gg R' hs hSK
  obtain ⟨hA,pA,heap,sat2,dA⟩:=drop hH rfl (.loop { rec0 with state := .exhausted })
  refine ⟨none,_,run_endLoop heap (by simp [rec0]),?_⟩
  have hden3:=allP_elim (hfin gg hf) hso
  rw [show ρ ++ [Uni.n w.heap.size]=ρ1 from rfl,List.drop_left] at hden3
  have hys:(ρ1 ++ ys).length=r.hd.s.n:=by
   rw [List.length_append,hρ1,sorted_len hso,(okS_so hokS ρ1).2.2,hrn]
  refine ⟨ρ1 ++ ys,r.doneS s,R',_,L,(List.prefix_append ρ _).trans (List.prefix_append _ _),lR,List.suffix_refl _,hl,⟨hdfr ys,by show Tm _ r.hd.s.t _; rw [et]; exact htm ys,hys,fun x hx => ?_,?_,sat2,same'.trans (Same.putObj _ _ _)⟩,hden3 hI⟩
  ·have hx':x ∈ s.kn:=by rw [← ek]; exact hx
   have hb:=hsb
   simp only [S.bel,Bool.and_eq_true] at hb
   have hb:=List.all_eq_true.1 hb.2 x hx'
   rw [← ok.len] at hb
   simp only [ρ1,List.append_assoc]
   rw [E.app hb]; exact ok.kn x hx'
  ·refine hden_app2.2 ⟨hc,hA,dA,PH.un_left _ _,PH.un_right dA,?_,pA⟩
   rw [hcb]; exact hC
 | none =>
  obtain ⟨⟨⟨code,x⟩,ρ5,s5,L5⟩,⟨hj,p15,q5len,q3,q4,q5kn,q6⟩,hH⟩:=ho
  simp only at hj p15 q5len q3 q4 q5kn q6 hH
  obtain ⟨hA,pA,heap,sat2,dA⟩:=drop hH rfl (.loop { rec0 with state := .exhausted,pending:=some code })
  refine ⟨some code,_,run_endLoop heap (by simp [rec0]),?_⟩
  obtain ⟨z5,hz5⟩:=p15
  have okl:Ok ρ5 (r.leftS s5) { a with defers:=[({ target := .collected d,args := #[] }:Deferred)] ++ a.defers } w0 (w'.putObj l (.loop { rec0 with state := .exhausted,pending:=some code })) R' (hc.un hA) F:=by
   refine ⟨by rw [← hz5]; exact hdfr z5,by show Tm ρ5 r.s1.t _; rw [es1,← hz5]; exact htm z5,q5len,q5kn,hden_app2.2 ⟨hc,hA,dA,PH.un_left _ _,PH.un_right dA,by rw [← hz5,hcb]; exact hC,pA⟩,sat2,same'.trans (Same.putObj _ _ _)⟩
  rcases hj with ⟨⟨⟩⟩ | ⟨id,⟨⟨⟩⟩⟩
  ·exact wpIn_ret ⟨ρ5,r.leftS s5,R',_,L5,(List.prefix_append ρ _).trans ⟨z5,hz5⟩,lR,q3,q4,okl,q6⟩
  ·exact wpIn_exit ⟨ρ5,r.leftS s5,R',_,L5,(List.prefix_append ρ _).trans ⟨z5,hz5⟩,lR,q3,q4,okl,q6⟩
theorem joinQ_ok {k:Nat × Nat} {run:S → (S → T) → T} {K:S → T} {ρ:Env} {s:S} {a:Act} {w:World} {R h:PH} {L:List (Env → Prop)} {G:Prop} (ok:Ok ρ s a w0 w R h F) (hl:L.length=s.dp)
  (hrun : ∀ (dp:Nat) (L':List (Env → Prop)) (K':S → T),L'.length=dp → (run { s with dp:=dp } K').den P post L' ρ → (∀ a w,Nx ⟨P,post,w0,F,ρ,R,L'⟩ K' a w → Nx ⟨P,post,w0,F,ρ,R,L⟩ K a w) → G)
  (hd:(joinQ cfg k s run K).den P post L ρ):G:=by
 unfold joinQ at hd
 split at hd
 ·rename_i j hj
  obtain ⟨I,hreg,hk⟩:=hd
  refine hrun (s.dp + 1) _ _ (by simp [hl]) hreg fun a' w' nx => ?_
  obtain ⟨ρ',s',R',h',L',p1,p2,p3,p4,p5,p6⟩:=nx
  dsimp only at p1 p2 p3 p4 p5 p6
  split at p6
  ·exact p6.1.elim
  ·rename_i hask
   rw [if_neg hask] at hk
   split at p6
   ·rename_i hc
    obtain ⟨pre,rfl⟩:=p3
    rw [List.length_append,List.length_cons] at p4
    have hd':s'.dp - (s.dp + 1)=pre.length:=by omega
    simp only [T.den,hd',List.getElem?_append_right (Nat.le_refl _),Nat.sub_self,List.getElem?_cons_zero] at p6
    have hso:=(okS_so hc ρ').1
    have hkk:=allP_elim hk hso
    rw [List.drop_left] at hkk
    have hokS:=okS_ok ok.len hc p1 p5 (fun x hx=>ok.kn x hx)
    exact ⟨_,j.toS s,R',h',L,List.prefix_append ρ _,p2,List.suffix_refl _,hl,hokS,hkk p6⟩
   ·exact p6.1.elim
 ·exact hrun s.dp L K hl hd fun _ _ n=>n
theorem stepR_scope {P:Program} {b:Frame} {a:Act} {k:List Item} {cs:List Frame} {w:World} {c:Code}:step P (lone (b.atR a (.code (.scope c) :: k)) cs w) = .next (lone (b.atR a (.code c :: .inScope c :: k)) cs w) :=
 step_lone_go (by simp [stepG,stepG.exec,Frame.atR])
theorem stepR_inScope {P:Program} {b:Frame} {a:Act} {k:List Item} {cs:List Frame} {w:World} {c:Code}:step P (lone (b.atR a (.inScope c :: k)) cs w) = .next (lone (b.atR a k) cs w) :=
 step_lone_go (by simp [stepG,stepG.exec,Frame.atR])
theorem wpIn_scope {P:Program} {F:Fence} {n:Nat} {Q:Exit → Act → World → Prop} {a:Act} {w:World} {c:Code} (h:c.wpIn F n P (fun e a w=>match e with | .goto _=>False | e=>Q e a w) a w):(Code.scope c).wpIn F n P Q a w:=by
 intro b k cs hro hb hr
 have h0:(lone (b.atR a (.code (.scope c) :: k)) cs w).fenced P F:=fenced_calm hb hr rfl
 obtain ⟨e,a₁,w₁,hq,harr⟩:=h b (.inScope c :: k) cs hro hb hr
 cases e with
 | normal=>exact ⟨.normal,a₁,w₁,hq,.head h0 stepR_scope (StepsIn.trans harr (.one (fenced_calm hb hr rfl) stepR_inScope))⟩
 | exit id =>
  have hx:exitTo id (.inScope c :: k)=exitTo id k:=by simp [exitTo]
  exact ⟨.exit id,a₁,w₁,hq,fun k' hk => .head h0 stepR_scope (harr.1 k' (by rw [hx]; exact hk)),
   fun hr' hk=>let ⟨k₁,h1,h2⟩:=harr.2 hr' (by rw [hx]; exact hk); ⟨k₁,h1,.head h0 stepR_scope h2⟩⟩
 | goto l=>exact hq.elim
 | ret=>exact ⟨_,a₁,w₁,hq,.of_steps (.one h0 stepR_scope) harr⟩
 | panic ch=>exact ⟨_,a₁,w₁,hq,.of_steps (.one h0 stepR_scope) harr⟩
 | outgrown=>exact ⟨_,a₁,w₁,hq,.of_steps (.one h0 stepR_scope) harr⟩
theorem exec_ok (hm:P.follows .mixedOrders=true) : ∀ (c:Code),IH P cfg post c:=by
 intro c
 induction c with
 | skip=>intro Fr wf rd hrd w0 F K ρ s a w R h L ok hl hd; exact wpIn_skip (Nx.mk ok hl hd)
 | exit id=>intro Fr wf rd hrd w0 F K ρ s a w R h L ok hl hd; exact wpIn_exit (Nx.mk ok hl hd)
 | ret=>intro Fr wf rd hrd w0 F K ρ s a w R h L ok hl hd; exact wpIn_ret (Nx.mk ok hl hd)
 | region id ops draw =>
  intro Fr wf rd hrd w0 F K ρ s a w R h L ok hl hd
  cases draw with
  | false =>
   simp only [exec] at hd
   split at hd
   ·rename_i hc
    exact wpIn_region_list (runL_ok wf (K:=fun s=>K .norm s) ops.toList (fun o ho=>Array.all_eq_true_iff_forall_mem.1 hc o (by simpa using ho)) ok hl hd fun a w n=>n)
   ·exact hd.elim
  | true =>
   simp only [exec] at hd
   split at hd
   ·rename_i hc
    simp only [Bool.and_eq_true] at hc
    have ok':Ok ρ s a w0 { w with drawn:=w.drawn + 1 } R h F:=⟨ok.dfr,ok.tm,ok.len,ok.kn,ok.hp,ok.sat.drew _,ok.same.trans (Same.drew w _)⟩
    refine joinQ_ok ok' hl (fun dp L' K' hl' hd' hK => ?_) hd
    have ok2:Ok ρ { s with dp:=dp } a w0 { w with drawn:=w.drawn + 1 } R h F:=⟨ok'.dfr,ok'.tm,ok'.len,ok'.kn,ok'.hp,ok'.sat,ok'.same⟩
    exact wpIn_region_any hm (wpAny_in wf (fun o ho=>Array.all_eq_true_iff_forall_mem.1 hc.2 o ho) (fun a w h=>h) _ _ _ _ (wpAnyL_any _ _ _ _ (runD_ok (K:=K') (ρ0:=ρ) (s:={ s with dp:=dp }) hc.1.1.1 (by rw [ok.len]; exact hc.1.1.2) hc.1.2 (fun c a w h=>h) ops.size (List.prefix_refl _) (fun x hx=>(List.mem_filter.1 hx).1) ok2 hl' hd' fun a w n=>hK a w n)))
   ·exact hd.elim
 | seq x y ihx ihy =>
  intro Fr wf rd hrd w0 F K ρ s a w R h L ok hl hd
  refine wpIn_seq (wpIn_mono (ihx wf hrd ok hl hd) fun e a' w' r => ?_)
  cases e <;> try (first | exact r | exact r.elim)
  obtain ⟨ρ',s',R',h',L',p1,p2,p3,p4,p5,p6⟩:=r
  exact wpIn_mono (ihy wf hrd p5 p4 p6) fun e a'' w'' r=>r.up p1 p2 p3
 | cond c x y ihx ihy =>
  intro Fr wf rd hrd w0 F K ρ s a w R h L ok hl hd
  simp only [exec] at hd
  split at hd
  ·rename_i e he
   obtain ⟨kn,ok',hh⟩:=brE_ok ok hd
   have hc:=evA_den ok.tm he
   refine wpIn_cond (t:=(e.den ρ).bool) hc ?_
   rcases hh with ⟨hb,hh⟩ | ⟨hb,hh⟩
   ·rw [hb]; exact ihx wf hrd ok' hl hh
   ·rw [hb]; exact ihy wf hrd ok' hl hh
  ·exact hd.elim
 | label l=>intro Fr wf rd hrd w0 F K ρ s a w R h L ok hl hd; exact wpIn_label (Nx.mk ok hl hd)
 | scope b ih =>
  intro Fr wf rd hrd w0 F K ρ s a w R h L ok hl hd
  refine wpIn_scope (wpIn_mono (ih wf hrd ok hl hd) fun e a' w' r => ?_)
  cases e <;> first | exact r | exact r.elim
 | block id b ih =>
  intro Fr wf rd hrd w0 F K ρ s a w R h L ok hl hd
  have ok':Ok ρ { s with blk:=id } a w0 w R h F:=⟨ok.dfr,ok.tm,ok.len,ok.kn,ok.hp,ok.sat,ok.same⟩
  refine wpIn_block (wpIn_mono (ih wf hrd ok' hl hd) fun e a' w' r => ?_)
  cases e <;> try (first | exact r | exact r.elim)
  rename_i i
  obtain ⟨ρ',s',R',h',L',p1,p2,p3,p4,p5,p6⟩:=r
  simp only [Exit.inBlock]
  simp only at p6
  split at p6
  ·rename_i hi
   rw [if_pos hi]
   exact ⟨ρ',s',R',h',L',p1,p2,p3,p4,p5,p6⟩
  ·rename_i hi
   rw [if_neg hi]
   exact ⟨ρ',s',R',h',L',p1,p2,p3,p4,p5,p6⟩
 | loop b ih =>
  intro Fr wf rd hrd w0 F K ρ s a w R h L ok hl hd
  simp only [exec] at hd
  split at hd
  ·rename_i hc
   simp only [Bool.and_eq_true,decide_eq_true_eq,Nat.blt_eq] at hc
   obtain ⟨⟨⟨hc,hbel⟩,hkn0⟩,hdp⟩:=hc
   obtain ⟨I,μ,hI0,hall⟩:=hd
   have hss:sorted (headOf cfg b s).ss ((fitS s.n (headOf cfg b s).s s).map (FV.den ρ)):=(okS_so hc ρ).1
   have hkn : ∀ x ∈ (headOf cfg b s).s.kn,(x.1.den ρ).bool=x.2:=by rw [hkn0]; exact ok.kn
   refine wpIn_loop_num (fun n a w => ∃ xs R' h',R.le R' ∧ sorted (headOf cfg b s).ss xs ∧ Cur.app _ I xs ∧ Cur.app _ μ xs=n ∧ Ok (ρ ++ xs) (headOf cfg b s).s a w0 w R' h' F) ?_ _ a w
    ⟨_,R,h,PH.le.refl _,hss,hI0,rfl,okS_ok ok.len hc (List.prefix_refl _) ok hkn⟩
   rintro n a w ⟨xs,R',h',lR,hso,hI,rfl,ok1⟩
   have hb:=allP_elim hall hso
   rw [List.drop_left] at hb
   have hb:=hb hI
   refine wpIn_mono (ih wf hrd ok1 (by simp [hdp,hl]) hb) fun e a' w' r => ?_
   cases e <;> try (first | exact Nx.up (List.prefix_append ρ xs) lR (List.suffix_cons _ _) r | exact r.elim)
   obtain ⟨ρ',s',R'',h'',L',p1,p2,p3,p4,p5,p6⟩:=r
   simp only at p6
   split at p6
   ·rename_i hc2
    have p1':=(List.prefix_append ρ xs).trans p1
    have hso2:sorted (headOf cfg b s).ss ((fitS s.n (headOf cfg b s).s s').map (FV.den ρ')):=(okS_so hc2 ρ').1
    obtain ⟨pre,rfl⟩:=p3
    simp only at p4 p6
    rw [List.length_append,List.length_cons] at p4
    have hd':s'.dp - (headOf cfg b s).s.dp=pre.length:=by rw [hdp]; omega
    simp only [T.den,hd',List.getElem?_append_right (Nat.le_refl _),Nat.sub_self,List.getElem?_cons_zero] at p6
    exact ⟨_,p6.2,(fitS s.n (headOf cfg b s).s s').map (FV.den ρ'),R'',h'',lR.trans p2,hso2,p6.1,rfl,okS_ok ok.len hc2 p1' p5 hkn⟩
   ·exact p6.1.elim
  ·exact hd.elim
 | rangeFunc g ps asg b iha ihb =>
  intro Fr wf rd hrd w0 F K ρ s a w R h L ok hl hd
  simp only [exec] at hd
  split at hd
  ·exact hd.elim
  rename_i gv hgv
  split at hd
  ·rename_i hok
   have hf:rd=false:=by cases rd with | false=>rfl | true=>simp [Rg.ok] at hok
   subst hf
   rw [hrd rfl]
   exact range_ok iha ihb ok hl hgv hok hd
  ·exact hd.1.elim
 | _=>intro Fr wf rd hrd w0 F K ρ s a w R h L ok hl hd; exact hd.elim
def resSem (tmps:Array Value):ResultVar → Sem Value
 | .tmp t=>pure (tmps.getD t undef)
 | .cell a t=>do loadVar t (← asAddr (tmps.getD a undef))
theorem resOf_run {ρ:Env} {s:S} {a:Act} {w:World} {R h:PH} (ok:Ok ρ s a w0 w R h F) {r:ResultVar} {x:W} (e:resOf P s r=some x):(resSem a.tmps r).run P w = .ok (x.den ρ) w:=by
 cases r with
 | tmp t =>
  simp only [resOf] at e
  split at e
  ·rename_i y hy
   cases e
   have:=ev_den ok.tm hy
   simp only [Act.eval] at this
   simp only [resSem,this,Sem.run_pure,V.den]
  ·cases e
 | cell ad t =>
  simp only [resOf] at e
  split at e
  ·rename_i r off hx
   split at e
   ·rename_i l ty hf
    have:=evA_den ok.tm hx
    simp only [Act.eval] at this
    have h1:=run_loadAt (P:=P) ok.sat (cden_cells (hden_mem (findC_mem hf) ok.hp)) e
    simp only [Instr.loadAt,Instr.sureAddr,Sem.run_bind,Sem.run_pure,Result.andThen_ok] at h1
    simp only [resSem,this,A.den,asAddr,Sem.run_bind,Sem.run_pure,Result.andThen_ok,h1]
   ·cases e
  ·cases e
theorem run_mapM_res {ρ:Env} {s:S} {a:Act} {w:World} {R h:PH} (ok:Ok ρ s a w0 w R h F) : ∀ {l:List ResultVar} {m:List W},mapM' (resOf P s) l=some m →
  (l.mapM (resSem a.tmps)).run P w = .ok (m.map (W.den ρ)) w
 | [],m,e=>by cases e; rfl
 | x :: r,m,e=>by
  simp only [mapM'] at e
  split at e
  ·rename_i y hy
   split at e
   ·rename_i q hq
    cases e
    rw [List.mapM_cons,Sem.run_bind,resOf_run ok hy]
    simp only [Result.andThen_ok,Sem.run_bind,run_mapM_res ok hq,Sem.run_pure,List.map_cons]
   ·cases e
  ·cases e
theorem results_eq (fn:Func) (tmps:Array Value):results fn tmps=(do
  let vs ← fn.results.mapM (resSem tmps)
  pure (if h:vs.size=1 then vs[0] else .tuple vs)):=by
 unfold results
 congr 1
theorem leave_ok {fn:Func} {ρ:Env} {s:S} {a:Act} {w:World} {R h:PH} {L:List (Env → Prop)} (ok:Ok ρ s a w0 w R h F) {ks:List Key} (hd:(leave P fn ks s).den P post L ρ) :
  ∃ v,(results fn a.tmps).run P w = .ok v w ∧ HP.ent (hden ρ s.h) (post v):=by
 have hlv : ∀ v:V,(leaveV v ks s).den P post L ρ → HP.ent (hden ρ s.h) (post (v.den ρ)):=fun v hv=>by
  unfold leaveV at hv
  simp only at hv
  split at hv
  ·rename_i hc
   exact (HP.ent.of fun _ _ H=>subH_den hc H).trans hv
  ·exact hv.elim
 unfold leave at hd
 have hres : ∀ m,mapM' (resOf P s) fn.results.toList=some m → (results fn a.tmps).run P w = .ok (if h:(m.map (W.den ρ)).toArray.size=1 then (m.map (W.den ρ)).toArray[0] else .tuple (m.map (W.den ρ)).toArray) w:=fun m hm=>by
  have h1:=run_mapM_res (P:=P) ok hm
  rw [results_eq,Array.mapM_eq_mapM_toList,Sem.run_bind]
  have h2:(List.toArray <$> List.mapM (resSem a.tmps) fn.results.toList:Sem (Array Value)).run P w = .ok (m.map (W.den ρ)).toArray w:=by
   show (List.mapM (resSem a.tmps) fn.results.toList >>= fun l=>pure l.toArray:Sem (Array Value)).run P w=_
   rw [Sem.run_bind,h1]; rfl
  rw [h2]
  rfl
 split at hd
 ·rename_i x hm
  exact ⟨_,hres _ hm,hlv _ hd⟩
 ·rename_i m hx hm
  refine ⟨_,hres _ hm,?_⟩
  have hne : ¬ (m.map (W.den ρ)).toArray.size=1:=fun e=>by
   simp only [List.size_toArray,List.length_map] at e
   obtain ⟨y,rfl⟩:=List.length_eq_one_iff.1 e
   exact hx y rfl
  rw [dif_neg hne]
  exact hlv _ hd
 ·exact hd.elim
theorem leaves_marks {fn:Func} {tmps:Array Value} {Rp:Ending → World → Prop} {ρ:Env} {R F:PH} : ∀ (df:List BR) {hp:Hp} {w:World} {h:PH},nodupR df=true → (df.all fun r=>hp.contains (.b r,.dfr))=true → Sat w R h F → (hden ρ hp).p R h →
  (∀ w' h',Same w w' → Sat w' R h' F → (hden ρ (hp.filter fun x => !isDf df x)).p R h' → ∃ v,(results fn tmps).run P w' = .ok v w' ∧ Rp (.returned v) w') → LeavesInM Fence.wide 0 P fn tmps Rp (df.map (markOf ρ)) .returning w
 | [],hp,w,h,_,_,s,p,hf=>by
  obtain ⟨v,h1,h2⟩:=hf w h (Same.refl w) s (by rw [List.filter_eq_self.2 (fun _ _=>by simp [isDf])]; exact p)
  exact ⟨v,h1,h2⟩
 | r :: rest,hp,w,h,hn,ha,s,p,hf=>by
  simp only [nodupR,Bool.and_eq_true,Bool.not_eq_true',List.all_cons] at hn ha
  have hmem:(Key.b r,C.dfr) ∈ hp:=by simpa using ha.1
  obtain ⟨h1,h2,d,l1,l2,p1,p2⟩:=hden_filter (fun x=>decide (x=(Key.b r,C.dfr))) p
  have hc:h1 (r.den ρ)=some (.deferred (some [])):=hden_mem (x:=(Key.b r,C.dfr)) (List.mem_filter.2 ⟨hmem,by simp⟩) p1
  have hh:h (r.den ρ)=some (.deferred (some [])):=l1 _ _ hc
  have h2n:h2 (r.den ρ)=none:=(d _).resolve_left (by rw [hc]; simp)
  have t:=s.turn (w':=w.putObj (r.den ρ) (.deferred none)) (y := .deferred none) hh (fun k hk=>World.putObj_heap_other hk) (World.putObj_heap_same (s.oh.lt hh))
  have le:h2.le (fun k=>if k=r.den ρ then some (.deferred none) else h k):=fun k o e=>by
   by_cases ek:k=r.den ρ
   ·subst ek; rw [h2n] at e; cases e
   ·simp only [ek,if_false]; exact l2 _ _ e
  have s2:Sat (w.putObj (r.den ρ) (.deferred none)) R h2 F:=⟨t.dRh.le (PH.le.refl _) le,t.dRF,t.dhF.le le (PH.le.refl _),t.oR,t.oh.le le,t.oF,t.gl⟩
  refine ⟨by simp,.inl ⟨r.den ρ,_,rfl,run_takeDeferred (s.oh _ _ hh),leaves_marks rest hn.2 ?_ s2 p2 fun w' h' sm s3 p3=>hf w' h' ((Same.putObj _ _ _).trans sm) s3 ?_⟩⟩
  ·refine List.all_eq_true.2 fun q hq => ?_
   have hne:q ≠ r:=fun e=>by subst e; simp at hn; exact hn.1 hq
   have:=List.all_eq_true.1 ha.2 q hq
   simp only [List.contains_eq_mem,decide_eq_true_eq,Nat.blt_eq] at this ⊢
   exact List.mem_filter.2 ⟨this,by simp [hne]⟩
  ·rw [List.filter_filter] at p3
   have e:(fun x => !isDf (r :: rest) x)=fun x:Key × C=>(!isDf rest x && !decide (x=(Key.b r,C.dfr))):=funext fun x=>by
    simp only [isDf,List.any_cons,Bool.not_or,Bool.and_comm]
   rw [e]
   exact p3
theorem tri_of_tree (hm:P.follows .mixedOrders=true) {f:FuncId} {fn:Func} (hf:P.funcs[f]? = some fn) {args:List W} {h0:Hp} {ρ:Env} {t:T} (ht:tree P cfg fn args h0 ρ.length=t) (hd:t.den P post [] ρ) :
  Tri P f (args.map (W.den ρ)).toArray (hden ρ h0) post:=by
 intro w R h F s hp
 subst ht
 unfold tree at hd
 split at hd
 ·rename_i c hc
  refine (callsIn_wide (n:=0)).1 (callsIn_of_wp_marks hf hc trivial ?_)
  have hargs : ∀ (i:Nat) (v:V),(args.map (fun w=>some (V.w w)) ++ List.replicate (fn.ntmps - args.length) (some (V.tup [])))[i]? = some (some v) →
    ((args.map (W.den ρ)).toArray ++ Array.replicate (fn.ntmps - (args.map (W.den ρ)).toArray.size) undef)[i]? = some (v.den ρ):=fun i v hi=>by
   rw [List.getElem?_append] at hi
   rw [Array.getElem?_append]
   simp only [List.length_map,List.size_toArray] at hi ⊢
   split at hi
   ·rename_i hlt
    rw [if_pos hlt]
    simp only [List.getElem?_map,Option.map_eq_some_iff,Option.some.injEq] at hi
    obtain ⟨x,hx,rfl⟩:=hi
    simp [hx,V.den]
   ·rename_i hlt
    rw [if_neg hlt]
    rw [List.getElem?_replicate] at hi
    rw [Array.getElem?_replicate]
    split at hi
    ·rename_i hlt2
     rw [if_pos hlt2]
     simp only [Option.some.injEq] at hi
     subst hi
     rfl
    ·cases hi
  have ok:Ok ρ ⟨args.map (fun w=>some (.w w)) ++ List.replicate (fn.ntmps - args.length) (some (.tup [])),h0,ρ.length,[],[],0,0,[]⟩ { tmps:=(args.map (W.den ρ)).toArray ++ Array.replicate (fn.ntmps - (args.map (W.den ρ)).toArray.size) undef,defers:=[] } w w R h F :=
   ⟨rfl,⟨by simp,hargs⟩,rfl,(fun x hx=>by cases hx),hp,s,Same.refl w⟩
  have fin : ∀ (K:S → T) (a':Act) (w':World),(∀ s,K s=leaveD P fn (h0.map (·.1) ++ outK cfg (h0.map (·.1)) s ++ resK P cfg fn s) s) → Nx ⟨P,post,w,F,ρ,R,[]⟩ K a' w' →
    LeavesInM Fence.wide 0 P fn a'.tmps (fun e w'' => ∃ v,e = .returned v ∧ Same w w'' ∧ ∃ R' h',R.le R' ∧ Sat w'' R' h' F ∧ (post v).p R' h') a'.defers .returning w':=fun K a' w' hK r=>by
   obtain ⟨ρ',s',R',h',L',p1,p2,p3,p4,p5,p6⟩:=r
   simp only at p1 p2 p3 p4 p5 p6
   rw [hK] at p6
   unfold leaveD at p6
   split at p6
   ·rename_i hdf
    simp only [dfOk,Bool.and_eq_true] at hdf
    rw [p5.dfr]
    refine leaves_marks s'.df hdf.1 hdf.2 p5.sat p5.hp fun w'' h'' sm sat p => ?_
    have ok2:Ok ρ' (leaveS s') { a' with defers:=[] } w w'' R' h'' F:=⟨rfl,⟨p5.tm.1,p5.tm.2⟩,p5.len,p5.kn,p,sat,p5.same.trans sm⟩
    obtain ⟨v,hv,he⟩:=leave_ok ok2 p6
    obtain ⟨R2,h2,q1,q2,q3,q4,q5⟩:=he R' h'' sat.dRh p
    exact ⟨v,hv,v,rfl,ok2.same,R2,h2,p2.trans q1,sat.ent q1 q2 q3 q4,q5⟩
   ·exact p6.elim
  refine wpIn_mono (exec_ok hm c (.inl rfl) (rd:=false) (fun _=>rfl) ok rfl hd) fun e a' w' r => ?_
  cases e <;> try exact r.elim
  ·exact fin _ a' w' (fun _=>rfl) r
  ·obtain ⟨ρ',s',R',h',L',p1,p2,p3,p4,p5,p6⟩:=r
   exact p6.elim
  ·exact fin _ a' w' (fun _=>rfl) r
 ·exact hd.elim
end
end Go.Proofs.YtdieogcemmnaaaaGreatDoor.RX

namespace Go.Proofs.YtdieogcemmnaaaaGreatDoor
open Go.Proofs.YtdieogcemmnaaaaGreatDoor RX
theorem mixed:Tryz.prog.follows .mixedOrders=true:=by kernel_rfl
def OwC (e:TypeId) (size:Nat) (a:Option Addr) (n c:Nat) (xs:List Value):HP :=
 ⟨fun _ h=>xs.length=n * size ∧ ((a=none ∧ n=0 ∧ c=0) ∨ ∃ g cur,a=some ⟨g,0,none⟩ ∧ h g=some (.cells cur e (0,0)) ∧ n ≤ c ∧ c ≤ maxLen ∧ cur.size=c * size ∧ cur.toList.take (n * size)=xs),
  fun _ l ⟨h1,h2⟩=>⟨h1,h2.imp id fun ⟨g,cur,h3,h4,h5⟩=>⟨g,cur,h3,l _ _ h4,h5⟩⟩⟩
def RoC (size:Nat) (a:Option Addr) (n:Nat) (xs:List Value):HP :=
 ⟨fun R _=>xs.length=n * size ∧ (n ≠ 0 → ∃ g off cur ty fr,a=some ⟨g,off,none⟩ ∧ R g=some (.cells cur ty fr) ∧ (cur.toList.drop off).take xs.length=xs),
  fun l _ ⟨h1,h2⟩=>⟨h1,fun hn=>let ⟨g,off,cur,ty,fr,h3,h4,h5⟩:=h2 hn; ⟨g,off,cur,ty,fr,h3,l _ _ h4,h5⟩⟩⟩
def Rd (S:HP) (a:Option Addr) (xs:List Value):Prop := ∀ w R h F,Sat w R h F → S.p R h → ∀ (j:Nat) (u:Value),xs[j]? = some u → ∃ g off,a=some ⟨g,off,none⟩ ∧ w.cell? ⟨g,off + j,none⟩=some u
theorem cell_at {w:World} {g:Nat} {cur:Array Value} {ty:TypeId} {fr:Nat × Nat} (h:w.heap[g]? = some (.cells cur ty fr)) (k:Nat):w.cell? ⟨g,k,none⟩=cur[k]? := by
 unfold World.cell?; rw [h]; rfl
theorem OwC.rd (e:TypeId) (size:Nat) (a:Option Addr) (n c:Nat) (xs:List Value):Rd (OwC e size a n c xs) a xs:=by
 rintro w R h F s ⟨hl,hh⟩ j u hj
 rcases hh with ⟨_,rfl,_⟩ | ⟨g,cur,rfl,hg,h1,h2,h3,rfl⟩
 ·rw [List.getElem?_eq_none (by rw [hl]; omega)] at hj; cases hj
 ·refine ⟨g,0,rfl,?_⟩
  rw [cell_at (s.oh _ _ hg)]
  rw [List.getElem?_take] at hj
  split at hj
  ·simpa using hj
  ·cases hj
theorem RoC.rd (size:Nat) (a:Option Addr) (n:Nat) (xs:List Value):Rd (RoC size a n xs) a xs:=by
 rintro w R h F s ⟨hl,hh⟩ j u hj
 have hn:n ≠ 0:=fun e=>by subst e; rw [List.getElem?_eq_none (by rw [hl]; omega)] at hj; cases hj
 obtain ⟨g,off,cur,ty,fr,rfl,hR,hc⟩:=hh hn
 refine ⟨g,off,rfl,?_⟩
 rw [cell_at (s.oR _ _ hR)]
 rw [← hc,List.getElem?_take] at hj
 split at hj
 ·rw [List.getElem?_drop] at hj; simpa using hj
 ·cases hj
theorem one_rd (g:Nat) (cs:Array Value) (ty:TypeId):Rd (HP.one g (.cells cs ty (0,0))) (some ⟨g,0,none⟩) cs.toList:=fun w R h F s hg j u hj=>by
 refine ⟨g,0,rfl,?_⟩
 rw [cell_at (s.oh _ _ hg)]
 simpa using hj
theorem Rd.left {A B:HP} {a:Option Addr} {xs:List Value} (r:Rd A a xs):Rd (HP.sep A B) a xs:=fun w R h F s ⟨h1,h2,d,l1,l2,p,_⟩=>r w R h1 _ (s.cut d l1 l2) p
theorem Rd.right {A B:HP} {a:Option Addr} {xs:List Value} (r:Rd B a xs):Rd (HP.sep A B) a xs:=fun w R h F s ⟨h1,h2,d,l1,l2,_,p⟩=>r w R h2 _ (s.cut d.symm l2 l1) p
theorem OwC.share (e:TypeId) (size:Nat) (a:Option Addr) (n c:Nat) (xs:List Value):HP.ent (OwC e size a n c xs) (RoC size a n xs):=by
 rintro R h d ⟨hl,hh⟩
 rcases hh with ⟨rfl,rfl,_⟩ | ⟨g,cur,rfl,hg,h1,h2,h3,rfl⟩
 ·exact ⟨R,h,PH.le.refl _,d,PH.le.refl _,fun _ _ e => .inl e,hl,fun hn=>absurd rfl hn⟩
 ·obtain ⟨R',h',q1,q2,q3,q4,q5⟩:=HP.ent.share g (.cells cur e (0,0)) R h d hg
  exact ⟨R',h',q1,q2,q3,q4,hl,fun _=>⟨g,0,cur,e,(0,0),rfl,q5,by rw [List.drop_zero,hl]⟩⟩
theorem OwC.nil (e:TypeId) (size:Nat) : ∀ R h,(OwC e size none 0 0 []).p R h:=fun _ _=>⟨by simp,.inl ⟨rfl,rfl,rfl⟩⟩
theorem RoC.nil (size:Nat) (a:Option Addr) : ∀ R h,(RoC size a 0 []).p R h:=fun _ _=>⟨by simp,fun h=>absurd rfl h⟩
theorem OwC.len {e:TypeId} {size:Nat} {a:Option Addr} {n c:Nat} {xs:List Value} {R h:PH} (H:(OwC e size a n c xs).p R h):xs.length=n * size:=H.1
theorem OwC.le {e:TypeId} {size:Nat} {a:Option Addr} {n c:Nat} {xs:List Value} {R h:PH} (H:(OwC e size a n c xs).p R h):n ≤ c:=by
 rcases H.2 with ⟨_,e1,e2⟩ | ⟨g,cur,_,_,h1,_⟩
 ·omega
 ·exact h1
theorem RoC.some {size:Nat} {a:Option Addr} {n:Nat} {xs:List Value} {R h:PH} (H:(RoC size a n xs).p R h) (hn:0 < n):a.isSome=true:=by
 obtain ⟨g,off,_,_,_,rfl,_⟩:=H.2 (by omega); rfl
theorem OwC.some {e:TypeId} {size:Nat} {a:Option Addr} {n c:Nat} {xs:List Value} {R h:PH} (H:(OwC e size a n c xs).p R h) (hn:0 < n):a.isSome=true:=by
 rcases H.2 with ⟨_,e1,_⟩ | ⟨g,_,rfl,_⟩
 ·omega
 ·rfl
theorem Sat.grown {w w':World} {R h F:PH} (s:Sat w R h F) {row:Option Nat} (hrow : ∀ g,row=some g → h g ≠ none) (hg:w.grownBy w' row) {g':Nat} {o:Obj} (ho:w'.heap[g']? = some o) (hn:row=some g' ∨ w.heap.size ≤ g') :
  Sat w' R (PH.one g' o) F:=by
 have hR:R g'=none:=by
  rcases hn with e | e
  ·exact (s.dRh g').resolve_right (hrow g' e)
  ·cases hq:R g' with
   | none=>rfl
   | some y=>have:=s.oR.lt hq; omega
 have hF:F g'=none:=by
  rcases hn with e | e
  ·exact (s.dhF g').resolve_left (hrow g' e)
  ·cases hq:F g' with
   | none=>rfl
   | some y=>have:=s.oF.lt hq; omega
 have kept : ∀ g:PH,g.own w → (∀ k,row=some k → g k=none) → g.own w':=fun g og gd k y e=>by
  rw [hg.block k (og.lt e) (fun e'=>by rw [gd k e'.symm] at e; cases e)]; exact og k y e
 refine ⟨fun k => ?_,s.dRF,fun k => ?_,kept R s.oR fun k e=>(s.dRh k).resolve_right (hrow k e),fun k y e => ?_,kept F s.oF fun k e=>(s.dhF k).resolve_left (hrow k e),s.gl⟩
 ·by_cases e:k=g'
  ·subst e; exact .inl hR
  ·exact .inr (if_neg e)
 ·by_cases e:k=g'
  ·subst e; exact .inr hF
  ·exact .inl (if_neg e)
 ·obtain ⟨rfl,rfl⟩:=PH.one_some e; exact ho
theorem RoC.join {size:Nat} {a:Option Addr} {n:Nat} {xs:List Value} {B:HP} {R h h':PH} (H:(RoC size a n xs).p R h) (K:B.p R h'):(HP.sep (RoC size a n xs) B).p R h':=⟨PH.none',h',PH.none_dj _,PH.none_le _,PH.le.refl _,H,K⟩
theorem RoC.joinR {size:Nat} {a:Option Addr} {n:Nat} {xs:List Value} {B:HP} {R h h':PH} (H:(RoC size a n xs).p R h) (K:B.p R h'):(HP.sep B (RoC size a n xs)).p R h':=HP.sep_comm (RoC.join H K)
def appS (t ty:TypeId) (u v:Value):Sem Next:=do pure (.value (← Builtin.append_ #[t,t] ty #[u,v]))
theorem semOf_append {ρ:Env} {i j:Nat} {t ty:TypeId} {u v:V} (h:i ≠ j):semOf ρ (.call ⟨.builtin .append,#[.tmp i,.tmp j],#[t,t]⟩) ty [(i,u),(j,v)]=appS t ty (u.den ρ) (v.den ρ):=by
 have h':(i == j)=false:=by simpa using h
 simp [semOf,execOp,resolve,arEval,invoke,builtin,h',appS]
theorem append_ok (t ty e:TypeId) (i:TypeInfo) (z:Value) (ht:Tryz.prog.underlying t=some (.slice e)) (hi:Tryz.prog.info? e=some i) (hz:i.zero=some z) (hzs:z.cells.size=i.size) (hsz:0 < i.size)
  (a:Option Addr) (n c:Nat) (xs:List Value) (S:HP) (ad:Addr) (m c2:Nat) (news:List Value) (hr:Rd S (some ad) news) (hl:news.length=m * i.size) (h1 : ∀ u ∈ news,u.oneCell'=true)
  (h63:n + m ≤ maxLen) (hb:(n + m) * i.bytes ≤ 140737488355328) :
  OTri Tryz.prog (appS t ty (.slice a n c) (.slice (some ad) m c2)) (HP.sep (OwC e i.size a n c xs) S)
   (fun v=>HP.ex fun a'=>HP.ex fun c'=>HP.and (v = .slice a' (n + m) c') (HP.sep (OwC e i.size a' (n + m) c' (xs ++ news)) S)):=by
 rintro w R h F s ⟨x1,x2,d,l1,l2,⟨hxl,hx⟩,hS⟩
 have hown:w.ownsRow 0 e i.size (.slice a n c) n xs:=by
  refine ⟨hxl,?_⟩
  rcases hx with ⟨rfl,rfl,rfl⟩ | ⟨g,cur,rfl,hg,q⟩
  ·exact .inl ⟨rfl,rfl⟩
  ·exact .inr ⟨g,c,cur,rfl,Nat.zero_le _,s.oh _ _ (l1 _ _ hg),q⟩
 have hrd:=hr w R x2 _ (s.cut d.symm l2 l1) hS
 have hnews : ∀ j u,news[j]? = some u → w.cell? (ad.add j)=some u:=fun j u hj=>by
  obtain ⟨g,off,e1,e2⟩:=hrd j u hj
  cases e1
  rw [addr_add]; exact e2
 obtain ⟨v',w',hrun,ho',hg,hnil,hblk⟩:=run_append_own_at (P:=Tryz.prog) w 0 t ty e i z i.size i.bytes ht hi hz rfl rfl hzs hsz (.slice a n c) n xs hown ad m c2 news hl hnews h1 h63 hb (Nat.zero_le _)
 obtain ⟨hl',hsh⟩:=ho'
 have hS':Same w w':=⟨hg.os,hg.tape,hg.output,hg.size⟩
 have s1:=s.cut d l1 l2
 have hdF:x2.dj F:=s.dhF.le l2 (PH.le.refl _)
 rcases hsh with ⟨rfl,h0⟩ | ⟨g',cap,cur,rfl,_,hcell,q1,q2,q3,q4⟩
 ·have hn0:n=0:=by omega
  have hm0:m=0:=by omega
  have e1:=hnil.1 rfl
  cases e1.1
  have hsame : ∀ k,k < w.heap.size → w'.heap[k]? = w.heap[k]? := fun k hk=>hg.block k hk (by simp [Value.ownBlock])
  have own' : ∀ g:PH,g.own w → g.own w':=fun g og k y e=>by rw [hsame k (og.lt e)]; exact og k y e
  refine ⟨_,_,w',by unfold appS; rw [Sem.run_bind,hrun]; rfl,rfl,hS',R,x1.un x2,PH.le.refl _,⟨(PH.dj_un (s.dRh.le (PH.le.refl _) l1).symm (s.dRh.le (PH.le.refl _) l2).symm).symm,s.dRF,PH.dj_un (s.dhF.le l1 (PH.le.refl _)) hdF,own' _ s.oR,own' _ (s.oh.le (PH.un_le l1 l2)),own' _ s.oF,s.gl⟩,none,0,?_,x1,x2,d,PH.un_left _ _,PH.un_right d,?_,hS⟩
  ·rw [hn0,hm0]
  ·exact ⟨hl',.inl ⟨rfl,by omega,rfl⟩⟩
 ·have s2:=Sat.grown s1 (row:=(Value.slice a n c).ownBlock) (fun g hgr=>by
   rcases hx with ⟨rfl,_⟩ | ⟨g0,cur0,rfl,hg0,_⟩
   ·cases hgr
   ·cases hgr; rw [hg0]; simp) hg hcell (by
    rcases hblk with e | e
    ·exact .inl e.symm
    ·cases e; exact .inr (Nat.le_refl _))
  obtain ⟨s3,d3⟩:=s2.join hdF
  exact ⟨_,_,w',by unfold appS; rw [Sem.run_bind,hrun]; rfl,rfl,hS',R,_,PH.le.refl _,s3,some ⟨g',0,none⟩,cap,rfl,PH.one g' (.cells cur e (0,0)),x2,d3,PH.un_left _ _,PH.un_right d3,⟨hl',.inr ⟨g',cur,rfl,PH.one_self _ _,q1,q2,q3,q4⟩⟩,hS⟩
def loadS (t:TypeId) (p:Value):Sem Next:=do pure (.value (← Instr.loadAt t p))
theorem run_loadS {w:World} {t:TypeId} {g off:Nat} {d:TypeDesc} (hd:Tryz.prog.underlying t=some d) (vs:List Value) (hz:szT Tryz.prog t=vs.length) (hv : ∀ j v,vs[j]? = some v → w.cell? ⟨g,off + j,none⟩=some v) :
  (loadS t (.pointer (some ⟨g,off,none⟩))).run Tryz.prog w = .ok (.value (if aggT Tryz.prog t then .agg vs.toArray else (vs[0]?).getD undef)) w ∨ (aggT Tryz.prog t=false ∧ vs.length ≠ 1):=by
 obtain ⟨i,hi⟩:=underlying_info hd
 by_cases ha:aggT Tryz.prog t=true
 ·left
  unfold loadS
  rw [Sem.run_bind]
  simp only [Instr.loadAt,Instr.sureAddr,Sem.run_bind,Sem.run_pure,Result.andThen_ok,loadVar,RX.run_isAgg hd,ha,if_true,RX.run_sizeOf hi,hz,RX.run_loadCells vs hv]
 ·have ha':aggT Tryz.prog t=false:=by simpa using ha
  by_cases hl:vs.length=1
  ·left
   obtain ⟨v,rfl⟩:=List.length_eq_one_iff.1 hl
   have h0:=hv 0 v rfl
   rw [Nat.add_zero] at h0
   unfold loadS
   rw [Sem.run_bind]
   simp only [Instr.loadAt,Instr.sureAddr,Sem.run_bind,Sem.run_pure,Result.andThen_ok,loadVar,RX.run_isAgg hd,ha',Bool.false_eq_true,if_false,RX.run_load h0]
   rfl
  ·exact .inr ⟨ha',hl⟩
theorem load1_ok {t:TypeId} {d:TypeDesc} (hd:Tryz.prog.underlying t=some d) (ha:aggT Tryz.prog t=false) (hz:szT Tryz.prog t=1) {S:HP} {a:Option Addr} {xs:List Value} (hr:Rd S a xs) {k off:Nat} {v:Value} (hk:xs[k + off]? = some v) :
  ORead Tryz.prog (loadS t (.pointer (a.map fun x=>(x.add k).add off))) S v:=fun w R h F s hS=>by
 obtain ⟨g,o,rfl,hc⟩:=hr w R h F s hS (k + off) v hk
 simp only [Option.map_some,addr_add]
 rcases run_loadS (w:=w) (g:=g) (off:=o + k + off) hd [v] (by simpa using hz) (fun j u hj=>by
  cases j with
  | zero=>simp only [List.getElem?_cons_zero,Option.some.injEq] at hj; subst hj; rw [show o + k + off + 0=o + (k + off) by omega]; exact hc
  | succ j=>simp at hj) with e | e
 ·rw [e,ha]; rfl
 ·simp at e
theorem loadN_ok {t:TypeId} {d:TypeDesc} (hd:Tryz.prog.underlying t=some d) (ha:aggT Tryz.prog t=true) {S:HP} {a:Option Addr} {xs:List Value} (hr:Rd S a xs) {k off:Nat} {vs:List Value} (hz:szT Tryz.prog t=vs.length) (hp:0 < vs.length) (hk : ∀ j v,vs[j]? = some v → xs[k + off + j]? = some v) :
  ORead Tryz.prog (loadS t (.pointer (a.map fun x=>(x.add k).add off))) S (.agg vs.toArray):=fun w R h F s hS=>by
 obtain ⟨v0,hv0⟩ : ∃ v,vs[0]? = some v:=⟨vs[0],by simp [hp]⟩
 obtain ⟨g,o,rfl,_⟩:=hr w R h F s hS (k + off + 0) v0 (hk 0 v0 hv0)
 simp only [Option.map_some,addr_add]
 rcases run_loadS (w:=w) (g:=g) (off:=o + k + off) hd vs hz (fun j u hj=>by
  obtain ⟨g',o',e,hc⟩:=hr w R h F s hS (k + off + j) u (hk j u hj)
  cases e
  rw [show o + k + off + j=o + (k + off + j) by omega]; exact hc) with e | e
 ·rw [e,ha]; rfl
 ·rw [ha] at e; exact absurd e.1 (by simp)
def sliceS (t:TypeId) (x:Value) (lo hi mx:Option Value):Sem Next:=do pure (.value (← Instr.sliceAt t x lo hi mx))
def iv (x:Option Nat):Option Value:=x.map fun n => .int .i64 (n:Int)
theorem run_bound {w:World} {n y:Nat} {c:BoundsCode} (h:n ≤ y):(Instr.sliceBound (.int .i64 (n:Int)) y c).run Tryz.prog w = .ok n w:=by
 have:(0:Int) ≤ n ∧ (n:Int) ≤ y:=⟨by omega,by omega⟩
 simp [Instr.sliceBound,asIntOf,this]
theorem slice_ok {t e:TypeId} (ht:Tryz.prog.underlying t=some (.slice e)) {i:TypeInfo} (hi:Tryz.prog.info? e=some i) (S:HP) (a:Option Addr) (n c:Nat) (lo hi' mx:Option Nat) (h1:lo.getD 0 ≤ hi'.getD n) (h2:hi'.getD n ≤ mx.getD c) (h3:mx.getD c ≤ c) (h4:mx.isSome=true → hi'.isSome=true) :
  ORead Tryz.prog (sliceS t (.slice a n c) (iv lo) (iv hi') (iv mx)) S (.slice (if mx.getD c=lo.getD 0 then a else a.map (·.add (lo.getD 0 * szT Tryz.prog e))) (hi'.getD n - lo.getD 0) (mx.getD c - lo.getD 0)):=fun w R h F s hS=>by
 unfold sliceS
 rw [Sem.run_bind]
 have hb:(Instr.sliceBounds true n c (iv lo) (iv hi') (iv mx)).run Tryz.prog w = .ok (lo.getD 0,hi'.getD n,mx.getD c) w:=by
  unfold Instr.sliceBounds iv
  cases mx <;> cases hi' <;> cases lo <;> simp only [Option.getD_some,Option.getD_none,Option.isSome_some,Option.isSome_none] at h1 h2 h3 h4 <;> first | (have h5:=h4 trivial; cases h5; done) | simp [Sem.run_bind,run_bound h1,run_bound h2,run_bound h3,run_bound (Nat.zero_le _)]
 have:(Instr.sliceAt t (.slice a n c) (iv lo) (iv hi') (iv mx)).run Tryz.prog w = .ok (.slice (if mx.getD c=lo.getD 0 then a else a.map (·.add (lo.getD 0 * szT Tryz.prog e))) (hi'.getD n - lo.getD 0) (mx.getD c - lo.getD 0)) w:=by
  simp only [Instr.sliceAt,Instr.slice,Sem.run_bind,RX.run_underlying ht,Result.andThen_ok,hb,RX.run_sizeOf hi,Sem.run_pure]
 rw [this]; rfl
theorem RoC.sub {size:Nat} {a:Option Addr} {n:Nat} {xs:List Value} {R h:PH} (H:(RoC size a n xs).p R h) (lo hi c:Nat) (h1:lo ≤ hi) (h2:hi ≤ n) (h3:hi ≤ c) :
  (RoC size (if c=lo then a else a.map (·.add (lo * size))) (hi - lo) ((xs.drop (lo * size)).take ((hi - lo) * size))).p R h:=by
 obtain ⟨hl,hh⟩:=H
 have hlen:((xs.drop (lo * size)).take ((hi - lo) * size)).length=(hi - lo) * size:=by
  rw [List.length_take,List.length_drop,hl,← Nat.sub_mul]
  exact Nat.min_eq_left (Nat.mul_le_mul_right _ (by omega))
 refine ⟨hlen,fun hn => ?_⟩
 obtain ⟨g,off,cur,ty,fr,rfl,hR,hc⟩:=hh (by omega)
 rw [if_neg (by omega)]
 simp only [Option.map_some,addr_add]
 refine ⟨g,off + lo * size,cur,ty,fr,rfl,hR,?_⟩
 rw [hlen,← hc,List.drop_take,List.drop_drop,List.take_take,hl]
 congr 1
 rw [← Nat.sub_mul]
 exact (Nat.min_eq_left (Nat.mul_le_mul_right _ (by omega))).symm
def storeS (t:TypeId) (p x:Value):Sem Next:=do Instr.storeAt t p x; pure .skip
theorem store_ok {t:TypeId} {i:TypeInfo} (hi:Tryz.prog.info? t=some i) (e:TypeId) (size:Nat) (a:Option Addr) (n c:Nat) (xs:List Value) (k off:Nat) (x:Value) (vs:List Value) (hx:x.cells=vs.toArray) (hz:i.size=vs.length) (hp:0 < vs.length) (h1 : ∀ v ∈ vs,v.oneCell'=true) (hk:k + off + vs.length ≤ n * size) :
  OTri Tryz.prog (storeS t (.pointer (a.map fun x=>(x.add k).add off)) x) (OwC e size a n c xs) (fun v=>HP.and (v = .tuple #[]) (OwC e size a n c (xs.take (k + off) ++ vs ++ xs.drop (k + off + vs.length)))):=by
 rintro w R h F s ⟨hl,hh⟩
 rcases hh with ⟨_,rfl,_⟩ | ⟨g,cur,rfl,hg,q1,q2,q3,q4⟩
 ·rw [Nat.zero_mul] at hk; omega
 ·have hw:=s.oh _ _ hg
  simp only [Option.map_some,addr_add]
  have hsz:n * size ≤ cur.size:=by rw [q3]; exact Nat.mul_le_mul_right _ q1
  have hst:=run_storeCells_at (P:=Tryz.prog) g (0 + k + off) e vs 0 cur w hw (by omega) h1
  have hrun:(storeS t (.pointer (some ⟨g,0 + k + off,none⟩)) x).run Tryz.prog w = .ok .skip (w.setRow g (cur.toList.take (0 + k + off + 0) ++ vs ++ cur.toList.drop (0 + k + off + 0 + vs.length)).toArray):=by
   unfold storeS
   simp only [Instr.storeAt,Instr.sureAddr,Sem.run_bind,Sem.run_pure,Result.andThen_ok,storeVar,RX.run_sizeOf hi,hx,List.size_toArray,szT,hi,hz,ne_eq,not_true_eq_false,if_false,hst]
  refine ⟨.skip,_,_,hrun,rfl,⟨rfl,rfl,rfl,by simp⟩,R,_,PH.le.refl _,s.turn (y := .cells (cur.toList.take (0 + k + off + 0) ++ vs ++ cur.toList.drop (0 + k + off + 0 + vs.length)).toArray e (0,0)) hg (fun j hj=>setRow_other w g j _ hj) (setRow_heap w g cur _ e (0,0) hw),rfl,?_,.inr ⟨g,_,rfl,if_pos rfl,q1,q2,?_,?_⟩⟩
  ·simp only [List.length_append,List.length_take,List.length_drop,hl]
   omega
  ·simp only [List.size_toArray,List.length_append,List.length_take,List.length_drop,Array.length_toList]
   omega
  ·subst q4
   have e1:(0 + k + off + 0)=k + off:=by omega
   rw [e1]
   simp only [List.take_append,List.length_append,List.length_take,Array.length_toList,List.take_take,List.drop_take,List.length_drop]
   have m1:min (k + off) cur.size=k + off:=by omega
   have m2:min (n * size) (k + off)=k + off:=by omega
   have m3:min (k + off) (n * size)=k + off:=by omega
   rw [m1,m2,m3,List.take_of_length_le (by omega:vs.length ≤ n * size - (k + off))]
end Go.Proofs.YtdieogcemmnaaaaGreatDoor

namespace Go.Proofs.YtdieogcemmnaaaaGreatDoor
open Go.RowKit
theorem hp_drew (w:World) (g:Nat):w.drew.heap[g]? = w.heap[g]? := rfl
section
variable {P:Program} {ops:Array Oper} {rest:List Oper} {o:Oper} {a:Act} {w:World} {Q:Exit → Act → World → Prop}
end
theorem bits_mask_i64 (x:Int) (j:Nat) (hj:j ≤ 62):bits .and .i64 x (2 ^ j - 1)=x % 2 ^ j:=by
 have hp:(2:Int) ^ j - 1=((2 ^ j - 1:Nat):Int):=by
  have:=Nat.one_le_two_pow (n:=j)
  rw [Int.ofNat_sub this]; simp
 have hlt:(2:Nat) ^ j ≤ 2 ^ 62:=Nat.pow_le_pow_right (by decide) hj
 have h1:(BitVec.ofInt 64 ((2:Int) ^ j - 1)).toNat=2 ^ j - 1:=by
  rw [hp,BitVec.ofInt_natCast,BitVec.toNat_ofNat,Nat.mod_eq_of_lt (by omega)]
 have h2:(BitVec.ofInt 64 x &&& BitVec.ofInt 64 ((2:Int) ^ j - 1)).toNat=(BitVec.ofInt 64 x).toNat % 2 ^ j:=by
  rw [BitVec.toNat_and,h1,Nat.and_two_pow_sub_one_eq_mod]
 have h3:((BitVec.ofInt 64 x).toNat:Int)=x % 2 ^ 64:=by
  rw [BitVec.toNat_ofInt]
  have:(0:Int) ≤ x % 2 ^ 64:=Int.emod_nonneg _ (by decide)
  omega
 have h4:(((BitVec.ofInt 64 x).toNat % 2 ^ j:Nat):Int)=x % 2 ^ j:=by
  rw [Int.natCast_emod,h3,Int.natCast_pow]
  exact Int.emod_emod_of_dvd x (by
   refine ⟨2 ^ (64 - j),?_⟩
   have e:(64:Nat)=j + (64 - j):=by omega
   have:=Int.pow_add (2:Int) j (64 - j)
   rw [← e] at this
   exact this)
 have h5:bits .and .i64 x (2 ^ j - 1)=IntKind.i64.wrap ((BitVec.ofInt 64 x &&& BitVec.ofInt 64 ((2:Int) ^ j - 1)).toNat:Int):=rfl
 rw [h5,h2,h4,IntKind.wrap_i64]
 have e1:(0:Int) ≤ x % 2 ^ j:=Int.emod_nonneg _ (by have:=Int.pow_pos (n:=2) (m:=j) (by decide); omega)
 have e2:x % 2 ^ j < 2 ^ j:=Int.emod_lt_of_pos _ (Int.pow_pos (by decide))
 have e3:((2:Int) ^ j) ≤ 2 ^ 62:=by
  have:=Int.ofNat_le.2 hlt
  simpa using this
 omega
theorem andffff (x:Int):bits .and .i64 x 65535=x % 65536:=bits_mask_i64 x 16 (by decide)
end Go.Proofs.YtdieogcemmnaaaaGreatDoor

namespace Go.Proofs.YtdieogcemmnaaaaGreatDoor
open Go.RowKit
def World.setObj (w:World) (r:Nat) (o:Obj):World:={ w with heap:=w.heap.setIfInBounds r o }
theorem hp_setObj (w:World) (r g:Nat) (o:Obj) (h:r < w.heap.size):(World.setObj w r o).heap[g]? = if r=g then some o else w.heap[g]? := by
 simp only [World.setObj,Array.getElem?_setIfInBounds]
 split
 ·rename_i e; subst e; simp
 ·rfl
theorem size_setObj (w:World) (r:Nat) (o:Obj):(World.setObj w r o).heap.size=w.heap.size:=by simp [World.setObj]
section
variable {κ:Type} [DecidableEq κ]
abbrev AL (κ:Type):=List (κ × Value × Nat)
def toE (enc:κ → Value) (x:κ × Value × Nat):MapEntry:={ key:=enc x.1,val:=x.2.1,born:=x.2.2 }
def mapObj (enc:κ → Value) (l:AL κ) (c:Nat):Obj := .map (l.map (toE enc)).toArray c
def alIdx (k:κ):AL κ → Nat → Option (Nat × Value)
 | [],_=>none
 | x :: l,i=>if k=x.1 then some (i,x.2.1) else alIdx k l (i + 1)
def alFind (k:κ):AL κ → Option Value
 | []=>none
 | x :: l=>if k=x.1 then some x.2.1 else alFind k l
def alPut (k:κ) (v:Value) (c:Nat):AL κ → AL κ
 | []=>[(k,v,c)]
 | x :: l=>if k=x.1 then (k,v,x.2.2) :: l else x :: alPut k v c l
def alDel (k:κ):AL κ → AL κ
 | []=>[]
 | x :: l=>if k=x.1 then l else x :: alDel k l
def alClock (k:κ) (l:AL κ) (c:Nat):Nat:=if (alFind k l).isSome then c else c + 1
theorem alIdx_find (k:κ) : ∀ (l:AL κ) (i:Nat),(alIdx k l i).map (·.2)=alFind k l
 | [],_=>rfl
 | x :: l,i=>by unfold alIdx alFind; split; rfl; exact alIdx_find k l (i + 1)
theorem alIdx_some (k:κ) : ∀ (l:AL κ) (i j:Nat) (v:Value),alIdx k l i=some (j,v) → ∃ m b,j=i + m ∧ l[m]? = some (k,v,b) ∧ ∀ (u:Value) (c:Nat),alPut k u c l=l.set m (k,u,b) ∧ alDel k l=l.eraseIdx m
 | [],_,_,_,h=>by cases h
 | x :: l,i,j,v,h=>by
  unfold alIdx at h
  split at h
  ·rename_i e
   obtain ⟨k',v',b⟩:=x
   simp only at e; subst e
   injection h with h; injection h with h1 h2; subst h1; subst h2
   exact ⟨0,b,rfl,rfl,fun u c=>by simp [alPut,alDel]⟩
  ·rename_i e
   obtain ⟨m,b,h1,h2,h3⟩:=alIdx_some k l _ _ _ h
   refine ⟨m + 1,b,by omega,by simpa using h2,fun u c => ?_⟩
   unfold alPut alDel
   rw [if_neg e,if_neg e,(h3 u c).1,(h3 u c).2]
   exact ⟨rfl,rfl⟩
theorem alIdx_none (k:κ) : ∀ (l:AL κ) (i:Nat),alIdx k l i=none → ∀ (u:Value) (c:Nat),alPut k u c l=l ++ [(k,u,c)] ∧ alDel k l=l
 | [],_,_,_,_=>⟨rfl,rfl⟩
 | x :: l,i,h,u,c=>by
  unfold alIdx at h
  split at h
  ·cases h
  ·rename_i e
   unfold alPut alDel
   rw [if_neg e,if_neg e,(alIdx_none k l _ h u c).1,(alIdx_none k l _ h u c).2]
   exact ⟨rfl,rfl⟩
theorem alFind_put (k k':κ) (v:Value) (c:Nat) : ∀ l:AL κ,alFind k' (alPut k v c l)=if k'=k then some v else alFind k' l
 | []=>by simp [alPut,alFind]
 | x :: l=>by
  unfold alPut
  split
  ·rename_i e; subst e
   by_cases h:k'=x.1 <;> simp [alFind,h]
  ·rename_i e
   unfold alFind
   rw [alFind_put k k' v c l]
   by_cases h:k'=x.1
   ·have:k' ≠ k:=fun h'=>e (h'.symm.trans h)
    simp [h,Ne.symm e]
   ·simp [h]
theorem alFind_none_of (k:κ) : ∀ l:AL κ,(∀ x ∈ l,x.1 ≠ k) → alFind k l=none
 | [],_=>rfl
 | x :: l,h=>by
  unfold alFind
  rw [if_neg (fun e=>h x (by simp) e.symm),alFind_none_of k l (fun y hy=>h y (by simp [hy]))]
theorem alFind_mem (k:κ) (v:Value) (b:Nat) : ∀ (l:AL κ),(l.map (·.1)).Nodup → (k,v,b) ∈ l → alFind k l=some v
 | [],_,h=>by cases h
 | x :: l,hn,h=>by
  unfold alFind
  rw [List.map_cons,List.nodup_cons] at hn
  rcases List.mem_cons.1 h with h | h
  ·subst h; simp
  ·have:k ≠ x.1:=fun e=>hn.1 (by rw [← e]; exact List.mem_map.2 ⟨_,h,rfl⟩)
   rw [if_neg this,alFind_mem k v b l hn.2 h]
theorem alPut_keys (k:κ) (v:Value) (c:Nat) : ∀ l:AL κ,(alPut k v c l).map (·.1)=if (alFind k l).isSome then l.map (·.1) else l.map (·.1) ++ [k]
 | []=>by simp [alPut,alFind]
 | x :: l=>by
  unfold alPut alFind
  by_cases h:k=x.1
  ·simp [h]
  ·rw [if_neg h,if_neg h,List.map_cons,alPut_keys k v c l]
   split <;> simp
theorem alFind_isSome (k:κ) : ∀ l:AL κ,(alFind k l).isSome=true ↔ k ∈ l.map (·.1)
 | []=>by simp [alFind]
 | x :: l=>by
  unfold alFind
  by_cases h:k=x.1
  ·simp [h]
  ·rw [if_neg h,alFind_isSome k l]; simp [h]
theorem alPut_nodup (k:κ) (v:Value) (c:Nat) (l:AL κ) (h:(l.map (·.1)).Nodup):((alPut k v c l).map (·.1)).Nodup:=by
 rw [alPut_keys]
 split
 ·exact h
 ·rename_i hn
  rw [alFind_isSome] at hn
  rw [List.nodup_append]
  exact ⟨h,by simp,fun a ha b hb=>by simp at hb; subst hb; exact fun e=>hn (e ▸ ha)⟩
structure KeyEnc (P:Program) (kt:TypeId) (enc:κ → Value):Prop where
 check : ∀ (em:Bool) (k:κ) (w:World),(Instr.checkKey em 10000 kt (enc k)).run P w = .ok () w
 find : ∀ (k:κ) (l:AL κ) (w:World),(Instr.findKey kt (enc k) (l.map (toE enc))).run P w = .ok (alIdx k l 0) w
 bits : ∀ k,Instr.sameBits 10000 (enc k) (enc k)=true
theorem run_getObj_map {P:Program} {w:World} {r:Nat} {es:Array MapEntry} {c:Nat} (h:w.heap[r]? = some (.map es c)):(getObj r).run P w = .ok (.map es c) w:=by
 simp [getObj,Sem.run,h]
theorem run_setObj_map {P:Program} {w:World} {r:Nat} {es:Array MapEntry} {c:Nat} (o:Obj) (h:w.heap[r]? = some (.map es c)):(setObj r o).run P w = .ok () (World.setObj w r o):=by
 simp [Go.setObj,Sem.run,h,World.setObj]
theorem run_mapUpdate_raw {P:Program} {w:World} {kt et t:TypeId} {enc:κ → Value} (K:KeyEnc P kt enc) (ht:P.underlying t=some (.map kt et)) {r:Nat} {l:AL κ} {c:Nat}
  (hb:w.heap[r]? = some (mapObj enc l c)) (k:κ) (v:Value) :
  (Instr.mapUpdate t (.map (some r)) (enc k) v).run P w = .ok () (World.setObj w r (mapObj enc (alPut k v c l) (alClock k l c))):=by
 unfold mapObj at hb
 unfold Instr.mapUpdate
 simp only [Sem.run_bind,run_underlying ht,Result.andThen,run_getObj_map hb,K.check,K.find]
 have hf:=alIdx_find k l 0
 cases hi:alIdx k l 0 with
 | none =>
  rw [hi] at hf
  simp only [run_setObj_map _ hb,alClock,← hf,(alIdx_none k l 0 hi v c).1]
  simp [mapObj,toE]
 | some p =>
  obtain ⟨j,u⟩:=p
  rw [hi] at hf
  obtain ⟨m,b,h1,h2,h3⟩:=alIdx_some k l 0 j u hi
  obtain rfl:j=m:=by omega
  have hm:((l.map (toE enc)).toArray[j]?.map (·.key)).getD (enc k)=enc k:=by
   simp [h2,toE]
  simp only [hm,Instr.keyThatStays,K.bits,if_true,Sem.run_bind,Sem.run_pure,Result.andThen,run_setObj_map _ hb,alClock,← hf,(h3 v c).1]
  simp only [mapObj,Option.map_some,Option.isSome_some,if_true]
  congr 3
  apply Array.ext_getElem?
  intro i
  have hj:j < l.length:=by
   rcases Nat.lt_or_ge j l.length with h | h
   ·exact h
   ·rw [List.getElem?_eq_none h] at h2; cases h2
  simp only [Array.getElem?_modify,List.getElem?_toArray,List.getElem?_map,List.getElem?_set]
  by_cases e:j=i
  ·subst e; rw [if_pos rfl,if_pos hj,h2]; simp [toE]
  ·simp [e]
theorem run_lookup_raw {P:Program} {w:World} {kt et t:TypeId} {enc:κ → Value} (K:KeyEnc P kt enc) (ht:P.underlying t=some (.map kt et)) {r:Nat} {l:AL κ} {c:Nat}
  (hb:w.heap[r]? = some (mapObj enc l c)) (k:κ) (z:Value) (hz:(zeroValue et).run P w = .ok z w) (ok:Bool) :
  (Instr.lookup t (.map (some r)) (enc k) ok).run P w = .ok (if ok then .tuple #[(alFind k l).getD z,.bool (alFind k l).isSome] else (alFind k l).getD z) w:=by
 unfold mapObj at hb
 unfold Instr.lookup
 simp only [Sem.run_bind,run_underlying ht,Result.andThen,run_getObj_map hb,Sem.run_pure,K.check,K.find]
 have hf:=alIdx_find k l 0
 cases hi:alIdx k l 0 with
 | none=>rw [hi] at hf; simp [← hf,hz,Result.andThen]
 | some p=>rw [hi] at hf; simp [← hf]
theorem eraseIdx_map' {α β:Type} (f:α → β) : ∀ (l:List α) (i:Nat),(l.map f).eraseIdx i=(l.eraseIdx i).map f
 | [],_=>by simp
 | _ :: _,0=>rfl
 | x :: l,i + 1=>by simp [eraseIdx_map' f l i]
theorem run_delete_raw {P:Program} {w:World} {kt et t:TypeId} {enc:κ → Value} (K:KeyEnc P kt enc) (ht:P.underlying t=some (.map kt et)) {r:Nat} {l:AL κ} {c:Nat}
  (hb:w.heap[r]? = some (mapObj enc l c)) (k:κ) (ts:Array TypeId) (ty:TypeId) (h0:ts[0]? = some t) :
  (Builtin.delete_ ts ty #[.map (some r),enc k]).run P w = .ok (.tuple #[]) (World.setObj w r (mapObj enc (alDel k l) c)):=by
 unfold mapObj at hb
 unfold Builtin.delete_
 simp only [h0,List.getElem?_toArray,List.getElem?_cons_zero,List.getElem?_cons_succ,Sem.run_bind,run_underlying ht,Result.andThen,run_getObj_map hb,K.check,K.find]
 cases hi:alIdx k l 0 with
 | none =>
  simp only [(alIdx_none k l 0 hi .nilFunc 0).2]
  rw [Sem.run_bind,run_setObj_map _ hb]
  rfl
 | some p =>
  obtain ⟨j,u⟩:=p
  obtain ⟨m,b,h1,h2,h3⟩:=alIdx_some k l 0 j u hi
  obtain rfl:j=m:=by omega
  simp only [(h3 .nilFunc 0).2]
  rw [Sem.run_bind,run_setObj_map _ hb]
  simp only [mapObj,Result.andThen_ok,Sem.run_pure]
  congr 3
  have hj:j < l.length:=by
   rcases Nat.lt_or_ge j l.length with h | h
   ·exact h
   ·rw [List.getElem?_eq_none h] at h2; cases h2
  simp [Array.eraseIdxIfInBounds,hj,eraseIdx_map']
end
theorem int_enc {P:Program} {kt:TypeId} {ik:IntKind} (h:P.underlying kt=some (.int ik)):KeyEnc P kt (fun n:Int=>Value.int ik n) where
 check em k w:=by
  unfold Instr.checkKey
  simp [run_underlying h]
 find k l w:=by
  unfold Instr.findKey
  have hn : ∀ (l:AL Int) (i:Nat),Instr.findNow (.int ik) (.int ik k) (l.map (toE fun n:Int=>Value.int ik n)) i=some (alIdx k l i):=by
   intro l
   induction l with
   | nil=>intro i; rfl
   | cons x l ih =>
    intro i
    simp only [List.map_cons,Instr.findNow,toE,Instr.sameNow,if_true,alIdx]
    by_cases e:k=x.1
    ·simp [e]
    ·have:(k == x.1)=false:=by simpa using e
     simp only [this,if_neg e]
     exact ih (i + 1)
  simp only [Sem.run_bind,run_underlying h,Result.andThen,hn,Sem.run_pure]
 bits k:=by simp [Instr.sameBits]
section
variable {P:Program} {ops:Array Oper} {rest:List Oper} {o:Oper} {a:Act} {w:World} {Q:Exit → Act → World → Prop} {κ:Type} [DecidableEq κ]
end
end Go.Proofs.YtdieogcemmnaaaaGreatDoor

namespace Go.Proofs.YtdieogcemmnaaaaGreatDoor
open Go.RowKit
set_option linter.unusedSectionVars false
section
variable {P:Program} {κ:Type} [DecidableEq κ] {enc:κ → Value}
structure Stamps (l:AL κ) (c:Nat):Prop where
 low : ∀ x ∈ l,x.2.2 < c
 nodup:(l.map (·.2.2)).Nodup
theorem Stamps.nil (c:Nat):Stamps ([]:AL κ) c:=⟨(fun x h=>by cases h),List.nodup_nil⟩
theorem Stamps.snoc {l:AL κ} {c:Nat} (h:Stamps l c) (k:κ) (v:Value):Stamps (l ++ [(k,v,c)]) (c + 1):=by
 refine ⟨fun x hx => ?_,?_⟩
 ·rcases List.mem_append.1 hx with hx | hx
  ·have:=h.low x hx; omega
  ·simp at hx; subst hx; simp
 ·rw [List.map_append,List.nodup_append]
  refine ⟨h.nodup,by simp,fun a ha b hb => ?_⟩
  simp at hb
  subst hb
  obtain ⟨x,hx,rfl⟩:=List.mem_map.1 ha
  have:=h.low x hx
  omega
theorem run_next_raw {w:World} {it m c:Nat} {S:Array Nat} {l:AL κ} (ty:TypeId) (hit:w.heap[it]? = some (.mapIter (some m) c S c)) (hm:w.heap[m]? = some (mapObj enc l c)) (hs:Stamps l c) :
  ((∀ x ∈ l,x.2.2 ∈ S) ∧ (Instr.next (.pointer (some ⟨it,0,none⟩)) false ty).run P w = .ok (.tuple #[.bool false]) w) ∨
  ∃ x ∈ l,x.2.2 ∉ S ∧ ∃ w1,(w1=w ∨ w1=w.drew) ∧ (Instr.next (.pointer (some ⟨it,0,none⟩)) false ty).run P w = .ok (.tuple #[.bool true,enc x.1,x.2.1]) (World.setObj w1 it (.mapIter (some m) c (S.push x.2.2) c)):=by
 unfold mapObj at hm
 have hold : ∀ x ∈ (l.map (toE enc)).toArray.toList,x.born < c:=fun x hx=>by
  simp only at hx
  obtain ⟨y,hy,rfl⟩:=List.mem_map.1 hx
  exact hs.low y hy
 have htest:=next_test_false S (l.map (toE enc)).toArray c c hold (Nat.le_refl _)
 have hset : ∀ (w1:World) (o:Obj),(w1=w ∨ w1=w.drew) → (setObj it o).run P w1 = .ok () (World.setObj w1 it o):=fun w1 o hw=>by
  rcases hw with rfl | rfl <;> simp [Go.setObj,Sem.run,hit,World.setObj,hp_drew]
 have hmemL : ∀ x ∈ (Array.filter (fun e => !S.contains e.born) (l.map (toE enc)).toArray).toList,∃ y ∈ l,x=toE enc y ∧ y.2.2 ∉ S:=fun x hx=>by
  simp at hx
  obtain ⟨⟨a,b,d,hy,rfl⟩,h2⟩:=hx
  exact ⟨(a,b,d),hy,rfl,by simpa [toE] using h2⟩
 have hallL:(Array.filter (fun e => !S.contains e.born) (l.map (toE enc)).toArray).size=0 → ∀ y ∈ l,y.2.2 ∈ S:=fun h0 y hy=>by
  have h1:=Array.eq_empty_of_size_eq_zero h0
  rw [Array.filter_eq_empty_iff] at h1
  have:=h1 (a:=toE enc y) (by simp; exact ⟨_,_,_,hy,rfl⟩)
  simpa [toE] using this
 simp only [Instr.next,getObj,Sem.run_bind,Sem.run,hit,hm,Result.andThen,htest,Bool.false_eq_true,if_false]
 have hmem : ∀ x ∈ (Array.filter (fun e => !S.contains e.born) (l.map (toE enc)).toArray).toList,x.born < c:=fun x hx=>hold x (by simp at hx ⊢; exact hx.1)
 generalize Array.filter (fun e => !S.contains e.born) (l.map (toE enc)).toArray=L at hmem hmemL hallL ⊢
 have e1:L.filter (fun x=>decide (x.born < c))=L:=Array.filter_eq_self.2 (fun x hx=>by simpa using hmem x (by simpa using hx))
 have e2:L.filter (fun x=>decide (x.born ≥ c)) = #[]:=by
  rw [Array.filter_eq_empty_iff]
  intro x hx
  have:=hmem x (by simpa using hx)
  simp
  omega
 simp only [e1,e2,Array.append_empty]
 by_cases h0:L.size=0
 ·left
  refine ⟨hallL h0,?_⟩
  have:L = #[]:=Array.eq_empty_of_size_eq_zero h0
  subst this
  simp [choose,Sem.run,Question.forced]
 ·right
  have hne:L.isEmpty=false:=by simp [Array.isEmpty,h0]
  simp only [hne,Bool.false_eq_true,if_false,Array.empty_append,Array.size_map]
  have hch : ∃ (j:Nat) (w1:World),j < L.size ∧ (w1=w ∨ w1=w.drew) ∧ (choose (Question.mapNext L.size)).run P w = .ok j w1:=by
   by_cases hf:L.size ≤ 1
   ·exact ⟨0,w,by omega,.inl rfl,by simp [choose,Sem.run,Question.forced,hf]⟩
   ·exact ⟨_,w.drew,Nat.mod_lt _ (by omega),.inr rfl,by
     simp only [choose,Sem.run,Question.forced,decide_eq_true_eq,hf,if_false,Question.cut]
     rfl⟩
  obtain ⟨j,w1,hj,hal,hrun⟩:=hch
  obtain ⟨y,hy,hLj,hyS⟩:=hmemL L[j] (by simp)
  refine ⟨y,hy,hyS,w1,hal,?_⟩
  simp only [hrun,Array.getElem?_map,Array.getElem?_eq_getElem hj,Option.map_some,Sem.run_bind,hLj,toE]
  rw [hset w1 _ hal]
  rfl
theorem run_entry_raw {w:World} {it m c:Nat} {S:Array Nat} {l:AL κ} {x:κ × Value × Nat} (hit:w.heap[it]? = some (.mapIter (some m) c (S.push x.2.2) c)) (hm:w.heap[m]? = some (mapObj enc l c)) (hs:Stamps l c) (hx:x ∈ l) :
  (Instr.entry (.pointer (some ⟨it,0,none⟩))).run P w = .ok (.tuple #[enc x.1,x.2.1]) w:=by
 unfold mapObj at hm
 have hf:(l.map (toE enc)).toArray.find? (·.born == x.2.2)=some (toE enc x):=by
  rw [← Array.find?_toList]
  exact find_born (toE enc x) (l.map (toE enc)) (by rw [List.map_map]; exact hs.nodup) (List.mem_map.2 ⟨x,hx,rfl⟩)
 simp only [Instr.entry,getObj,Sem.run_bind,Sem.run,hit,hm,Result.andThen,Array.back?_push,bne_self_eq_false,Bool.false_eq_true,if_false,hf]
 rfl
theorem run_range_raw {w:World} {t k e:TypeId} {m c:Nat} {l:AL κ} (ht:P.underlying t=some (.map k e)) (hb:w.heap[m]? = some (mapObj enc l c)) :
  (Instr.range t (.map (some m))).run P w = .ok (.pointer (some ⟨w.heap.size,0,none⟩)) (w.alloc (.mapIter (some m) c #[] c)) :=
 run_range_map w t k e m _ c ht hb
end
def leftN {κ:Type} (l:AL κ) (S:Array Nat):Nat:=(l.filter fun x => !S.contains x.2.2).length
theorem leftN_push {κ:Type} {l:AL κ} {S:Array Nat} {x:κ × Value × Nat} (hx:x ∈ l) (hS:x.2.2 ∉ S):leftN l (S.push x.2.2) < leftN l S:=by
 unfold leftN
 refine filter_lt (fun y:κ × Value × Nat => !S.contains y.2.2) (fun y => !(S.push x.2.2).contains y.2.2) ?_ x ?_ ?_ l hx
 ·intro y hy
  simp only [Array.contains_push,Bool.not_or,Bool.and_eq_true] at hy
  exact hy.1
 ·simpa using hS
 ·simp
section
variable {P:Program} {ops:Array Oper} {rest:List Oper} {o:Oper} {a:Act} {w:World} {Q:Exit → Act → World → Prop} {κ:Type} [DecidableEq κ] {enc:κ → Value}
end
end Go.Proofs.YtdieogcemmnaaaaGreatDoor

namespace Go.Proofs.YtdieogcemmnaaaaGreatDoor
open Go.Proofs.YtdieogcemmnaaaaGreatDoor RX
section
variable {κ:Type} [DecidableEq κ] {enc:κ → Value} {kt et t ty:TypeId} {r m it c:Nat} {l:AL κ} {S:Array Nat}
def MapI (l:AL κ) (c:Nat):Prop:=(l.map (·.1)).Nodup ∧ Stamps l c
def lookS (t:TypeId) (m k:Value) (ok:Bool):Sem Next:=do pure (.value (← Instr.lookup t m k ok))
theorem run_zeroV {w:World} {i:TypeInfo} {z:Value} (hi:Tryz.prog.info? et=some i) (hz:i.zero=some z):(zeroValue et).run Tryz.prog w = .ok z w:=by
 unfold zeroValue
 simp only [Sem.run_bind,RX.run_typeInfo hi,Result.andThen_ok,hz]
 rfl
theorem look_ok (K:KeyEnc Tryz.prog kt enc) (ht:Tryz.prog.underlying t=some (.map kt et)) {i:TypeInfo} {z:Value} (hi:Tryz.prog.info? et=some i) (hz:i.zero=some z) (k:κ) (ok:Bool) {A:HP} (hA : ∀ R h,A.p R h → h r=some (mapObj enc l c)) :
  ORead Tryz.prog (lookS t (.map (some r)) (enc k) ok) A (if ok then .tuple #[(alFind k l).getD z,.bool (alFind k l).isSome] else (alFind k l).getD z):=fun w R h F s a=>by
 unfold lookS
 rw [Sem.run_bind,run_lookup_raw K ht (s.oh _ _ (hA R h a)) k z (run_zeroV hi hz) ok]
 rfl
theorem Sat.setObj {w:World} {R h F:PH} (s:Sat w R h F) {b:Nat} {x y:Obj} (hb:h b=some x):Sat (World.setObj w b y) R (fun k=>if k=b then some y else h k) F :=
 s.turn hb (fun k hk=>by rw [hp_setObj _ _ _ _ (s.oh.lt hb),if_neg (fun e=>hk e.symm)]) (by rw [hp_setObj _ _ _ _ (s.oh.lt hb),if_pos rfl])
theorem Same.setObj (w:World) (b:Nat) (y:Obj):Same w (World.setObj w b y):=⟨rfl,rfl,rfl,by rw [size_setObj]; omega⟩
def updS (t:TypeId) (m k v:Value):Sem Next:=do Instr.mapUpdate t m k v; pure .skip
theorem upd_ok (K:KeyEnc Tryz.prog kt enc) (ht:Tryz.prog.underlying t=some (.map kt et)) (k:κ) (v:Value) :
  OTri Tryz.prog (updS t (.map (some r)) (enc k) v) (HP.one r (mapObj enc l c)) (fun x=>HP.and (x = .tuple #[]) (HP.one r (mapObj enc (alPut k v c l) (alClock k l c)))):=fun w R h F s a=>by
 refine ⟨.skip,_,_,by unfold updS; rw [Sem.run_bind,run_mapUpdate_raw K ht (s.oh _ _ a) k v]; rfl,rfl,Same.setObj _ _ _,R,_,PH.le.refl _,s.setObj a,rfl,if_pos rfl⟩
def delS (ts:Array TypeId) (ty:TypeId) (u v:Value):Sem Next:=do pure (.value (← Builtin.delete_ ts ty #[u,v]))
theorem del_ok (K:KeyEnc Tryz.prog kt enc) (ht:Tryz.prog.underlying t=some (.map kt et)) (k:κ) (ts:Array TypeId) (h0:ts[0]? = some t) :
  OTri Tryz.prog (delS ts ty (.map (some r)) (enc k)) (HP.one r (mapObj enc l c)) (fun x=>HP.and (x = .tuple #[]) (HP.one r (mapObj enc (alDel k l) c))):=fun w R h F s a=>by
 refine ⟨.value _,_,_,by unfold delS; rw [Sem.run_bind,run_delete_raw K ht (s.oh _ _ a) k ts ty h0]; rfl,rfl,Same.setObj _ _ _,R,_,PH.le.refl _,s.setObj a,rfl,if_pos rfl⟩
def rangS (t:TypeId) (m:Value):Sem Next:=do pure (.value (← Instr.range t m))
theorem range_ok {k e:TypeId} (ht:Tryz.prog.underlying t=some (.map k e)) :
  OTri Tryz.prog (rangS t (.map (some m))) (HP.one m (mapObj enc l c)) (fun v=>HP.ex fun it=>HP.and (v = .pointer (some ⟨it,0,none⟩)) (HP.sep (HP.one it (.mapIter (some m) c #[] c)) (HP.one m (mapObj enc l c)))):=fun w R h F s a=>by
 obtain ⟨s2,d2⟩:=s.alloc (.mapIter (some m) c #[] c)
 refine ⟨.value _,_,_,by unfold rangS; rw [Sem.run_bind,run_range_raw ht (s.oh _ _ a)]; rfl,rfl,Same.alloc _ _,R,_,PH.le.refl _,s2,w.heap.size,rfl,_,h,d2,PH.un_left _ _,PH.un_right d2,PH.one_self _ _,a⟩
def nextS (x:Value) (ty:TypeId):Sem Next:=do pure (.value (← Instr.next x false ty))
def nextE (enc:κ → Value) (l:AL κ) (S:Array Nat) (v:Value):Option (κ × Value × Nat) → Prop
 | none=>v = .tuple #[.bool false] ∧ ∀ x ∈ l,x.2.2 ∈ S
 | some x=>v = .tuple #[.bool true,enc x.1,x.2.1] ∧ x ∈ l ∧ x.2.2 ∉ S
def nextI (S:Array Nat):Option (κ × Value × Nat) → Array Nat
 | none=>S
 | some x=>S.push x.2.2
def entS (x:Value):Sem Next:=do pure (.value (← Instr.entry x))
theorem entry_ok {x:κ × Value × Nat} (hs:Stamps l c) (hx:x ∈ l) {A:HP} (h1 : ∀ R h,A.p R h → h it=some (.mapIter (some m) c (S.push x.2.2) c)) (h2 : ∀ R h,A.p R h → h m=some (mapObj enc l c)) :
  ORead Tryz.prog (entS (.pointer (some ⟨it,0,none⟩))) A (.tuple #[enc x.1,x.2.1]):=fun w R h F s a=>by
 unfold entS
 rw [Sem.run_bind,run_entry_raw (P:=Tryz.prog) (s.oh _ _ (h1 R h a)) (s.oh _ _ (h2 R h a)) hs hx]
 rfl
end
end Go.Proofs.YtdieogcemmnaaaaGreatDoor

namespace Go.Proofs.YtdieogcemmnaaaaGreatDoor
open Go.RowKit
section
variable {P:Program} {κ:Type} [DecidableEq κ]
theorem asking_enc {kt:TypeId} {enc:κ → Value} {d:TypeDesc} (hd:P.underlying kt=some d) (hn : ∀ a b,Instr.sameNow d a b=none)
  (check : ∀ (em:Bool) (k:κ) (w:World),(Instr.checkKey em 10000 kt (enc k)).run P w = .ok () w)
  (heq : ∀ (k k':κ) (w:World),(Op.equal kt (enc k) (enc k')).run P w = .ok (decide (k=k')) w)
  (bits : ∀ k,Instr.sameBits 10000 (enc k) (enc k)=true):KeyEnc P kt enc where
 check:=check
 bits:=bits
 find k l w:=by
  have hask : ∀ (l:AL κ) (i:Nat),(Instr.findAsking kt (enc k) (l.map (toE enc)) i).run P w = .ok (alIdx k l i) w:=by
   intro l
   induction l with
   | nil=>intro i; simp [Instr.findAsking,alIdx]
   | cons x l ih =>
    intro i
    simp only [List.map_cons,Instr.findAsking,Sem.run_bind,toE,heq,Result.andThen_ok,alIdx]
    by_cases e:k=x.1
    ·simp [e]
    ·simp only [e,decide_false,Bool.false_eq_true,if_false]
     exact ih (i + 1)
  unfold Instr.findKey
  cases l with
  | nil=>simp [run_underlying hd,Instr.findNow,alIdx]
  | cons x l =>
   have hf:Instr.findNow d (enc k) ((x :: l).map (toE enc)) 0=none:=by
    simp [Instr.findNow,hn]
   simp only [Sem.run_bind,run_underlying hd,Result.andThen_ok,hf]
   exact hask (x :: l) 0
end
section
variable {P:Program} {ops:Array Oper} {rest:List Oper} {o:Oper} {a:Act} {w:World} {Q:Exit → Act → World → Prop}
end
end Go.Proofs.YtdieogcemmnaaaaGreatDoor

namespace Go.Proofs.YtdieogcemmnaaaaGreatDoor
open Go.Proofs.YtdieogcemmnaaaaGreatDoor RX
set_option maxRecDepth 100000
abbrev IdM:=Int × Int × Int
def idV (k:IdM):Value := .agg #[.int .i64 k.1,.int .i64 k.2.1,.int .i64 k.2.2]
theorem run_part_int {P:Program} {w:World} {e:TypeId} {k:IntKind} (he:P.underlying e=some (.int k)) (cs:Array Value) (i:Nat) (v:Value) (hv:cs[i]? = some v):(part e cs i).run P w = .ok v w:=by
 have hagg:(isAgg e).run P w = .ok false w:=by
  unfold isAgg
  rw [Sem.run_bind,run_underlying he]
  rfl
 simp [part,hagg,hv]
theorem idFs:(Tryz.prog.fieldsOf 57).toList.map (fun f=>(decide (f.name = "_"),f.type,f.offset))=[(false,3,0),(false,3,1),(false,3,2)]:=by kernel_rfl
theorem idFs' : ∃ f0 f1 f2:Field,(Tryz.prog.fieldsOf 57).toList=[f0,f1,f2] ∧ (f0.name ≠ "_" ∧ f0.type=3 ∧ f0.offset=0) ∧ (f1.name ≠ "_" ∧ f1.type=3 ∧ f1.offset=1) ∧ (f2.name ≠ "_" ∧ f2.type=3 ∧ f2.offset=2):=by
 have h:=idFs
 obtain ⟨f0,r0,e0,h0,h⟩:=List.map_eq_cons_iff.1 h
 obtain ⟨f1,r1,e1,h1,h⟩:=List.map_eq_cons_iff.1 h
 obtain ⟨f2,r2,e2,h2,h⟩:=List.map_eq_cons_iff.1 h
 have e3:=List.map_eq_nil_iff.1 h
 subst e3 e2 e1
 simp only [Prod.mk.injEq,decide_eq_false_iff_not] at h0 h1 h2
 exact ⟨f0,f1,f2,e0,h0,h1,h2⟩
theorem undIdT:Tryz.prog.underlying 57=some (.struct (Tryz.prog.fieldsOf 57)):=by kernel_rfl
theorem heldId:Tryz.prog.stoodInHeld 57=false:=by kernel_rfl
theorem undIn:Tryz.prog.underlying 3=some (.int .i64):=by kernel_rfl
theorem idK:KeyEnc Tryz.prog 57 idV:=by
 obtain ⟨f0,f1,f2,hf,⟨n0,t0,o0⟩,⟨n1,t1,o1⟩,n2,t2,o2⟩:=idFs'
 have hck : ∀ (em:Bool) (n:Int) (m:Nat) (w:World),(Instr.checkKey em (m + 1) 3 (.int .i64 n)).run Tryz.prog w = .ok () w:=by
  intro em n m w
  unfold Instr.checkKey
  simp [run_underlying undIn]
 have q0 : ∀ (a b c:Int) (w:World),(part 3 #[.int .i64 a,.int .i64 b,.int .i64 c] 0).run Tryz.prog w = .ok (.int .i64 a) w:=fun a b c w=>run_part_int undIn _ 0 _ rfl
 have q1 : ∀ (a b c:Int) (w:World),(part 3 #[.int .i64 a,.int .i64 b,.int .i64 c] 1).run Tryz.prog w = .ok (.int .i64 b) w:=fun a b c w=>run_part_int undIn _ 1 _ rfl
 have q2 : ∀ (a b c:Int) (w:World),(part 3 #[.int .i64 a,.int .i64 b,.int .i64 c] 2).run Tryz.prog w = .ok (.int .i64 c) w:=fun a b c w=>run_part_int undIn _ 2 _ rfl
 have he : ∀ (a b:Int) (w:World),(Op.equalIn 9999 3 (.int .i64 a) (.int .i64 b)).run Tryz.prog w = .ok (a == b) w:=fun a b w=>run_equalIn_int w 9998 _ _ _ _ _ undIn
 refine asking_enc undIdT (fun a b=>rfl) ?_ ?_ ?_
 ·rintro em ⟨a,b,c⟩ w
  unfold Instr.checkKey idV
  simp only [Sem.run_bind,run_underlying undIdT,Result.andThen_ok]
  rw [← Array.forIn_toList,hf]
  simp only [List.forIn_cons,List.forIn_nil,Sem.run_bind,n0,n1,n2,t0,t1,t2,o0,o1,o2,ne_eq,not_false_eq_true,if_true,q0,q1,q2,Result.andThen_ok,hck em _ 9998 w,Sem.run_pure]
 ·rintro ⟨a,b,c⟩ ⟨x,y,z⟩ w
  unfold Op.equal idV
  rw [show Op.maxDepth=9998 + 1 + 1 from rfl,run_equalIn_struct w _ _ _ _ undIdT heldId,hf]
  simp only [Op.eqFields,n0,n1,n2,t0,t1,t2,o0,o1,o2,ne_eq,not_false_eq_true,if_true,Sem.run_bind,q0,q1,q2,Result.andThen_ok,run_equalIn_int w _ _ _ _ _ _ undIn]
  by_cases h1:a=x
  ·by_cases h2:b=y
   ·by_cases h3:c=z
    ·simp [h1,h2,h3,q1,q2,he]
    ·simp [h1,h2,h3,q1,q2,he]
   ·simp [h1,h2,q1,he]
  ·simp [h1]
 ·intro k
  simp [idV,Instr.sameBits]
end Go.Proofs.YtdieogcemmnaaaaGreatDoor

namespace Go.Proofs.YtdieogcemmnaaaaGreatDoor.RX
set_option maxRecDepth 100000
-- slices.Clone[[]byte,byte]: ρ:=[.a sa,.n sl,.n sc,.p sP]
def t_clone8:T :=
(.br (.o1 .not (.o1 .isSome (.v 0)))
(.ret (.w (.a (.sl .nil (.n 0) (.n 0)))) [(.a 0,.prop 3)])
(.new
(.op (.call ⟨.builtin .append,#[.tmp 5,.tmp 6],#[28,28]⟩) 28 [(5,.w (.a (.sl (.b (.v 4) 0) (.n 0) (.n 0)))),(6,.w (.a (.sl (.v 0) (.v 1) (.v 2))))] [(.b (.v 4),.cells [] 5),(.a 0,.prop 3)] [.a,.n,.n,.p] (.w (.a (.sl (.v 5) (.v 6) (.v 7)))) [(.a 5,.prop 8),(.a 0,.prop 3)]
(.ret (.w (.a (.sl (.v 5) (.v 6) (.v 7)))) [(.a 0,.prop 3),(.a 5,.prop 8)]))))
theorem tree_clone8:tree Tryz.prog { } Tryz.f73 [.a (.sl (.v 0) (.v 1) (.v 2))] [(.a 0,.prop 3)] 4=t_clone8:=by kernel_rfl
def t_width:T :=
(.ret (.w (.a (.int .i64 (.o2 .mn (.o2 .mx (.v 0) (.i 0)) (.i 8))))) [])
theorem tree_width:tree Tryz.prog { } Tryz.f199 [.a (.int .i64 (.v 0))] [] 1=t_width:=by kernel_rfl
end Go.Proofs.YtdieogcemmnaaaaGreatDoor.RX

namespace Go.Proofs.YtdieogcemmnaaaaGreatDoor
set_option linter.unusedSimpArgs false
set_option linter.unusedVariables false
open Go.Proofs.YtdieogcemmnaaaaGreatDoor RX
def u8v (b:UInt8):Value := .int .u8 b.toNat
theorem u8v_one (l:List UInt8) : ∀ u ∈ l.map u8v,u.oneCell'=true:=fun u hu=>by
 obtain ⟨b,_,rfl⟩:=List.mem_map.1 hu; rfl
abbrev OwB (a:Option Addr) (n c:Nat) (l:List UInt8):HP:=OwC 5 1 a n c (l.map u8v)
abbrev RoB (a:Option Addr) (n:Nat) (l:List UInt8):HP:=RoC 1 a n (l.map u8v)
structure RdL (S:HP) (a:Option Addr) (n:Nat) (xs:List Value):Prop where
 rd:Rd S a xs
 none : ∀ R h,S.p R h → a=none → n=0
theorem RdL.ro (size:Nat) (a:Option Addr) (n:Nat) (xs:List Value):RdL (RoC size a n xs) a n xs :=
 ⟨RoC.rd size a n xs,fun R h H e=>Classical.byContradiction fun hn=>by subst e; have:=RoC.some H (by omega); cases this⟩
theorem RdL.ow (e:TypeId) (size:Nat) (a:Option Addr) (n c:Nat) (xs:List Value):RdL (OwC e size a n c xs) a n xs :=
 ⟨OwC.rd e size a n c xs,fun R h H e=>Classical.byContradiction fun hn=>by subst e; have:=OwC.some H (by omega); cases this⟩
theorem info8:(Tryz.prog.info? 5).map (fun i=>(i.zero,i.size,i.bytes))=some (some (.int .u8 0),1,1):=by kernel_rfl
theorem und8:Tryz.prog.underlying 28=some (.slice 5):=by kernel_rfl
theorem append8 (a:Option Addr) (n c:Nat) (l:List UInt8) (S:HP) (b:Option Addr) (m c2:Nat) (q:List UInt8) (hr:RdL S b m (q.map u8v)) (hm:q.length=m) (hb0:m ≠ 0 → b.isSome=true) (hb:n + m ≤ 140737488355328) :
  OTri Tryz.prog (appS 28 28 (.slice a n c) (.slice b m c2)) (HP.sep (OwB a n c l) S)
   (fun v=>HP.ex fun a'=>HP.ex fun c'=>HP.and (v = .slice a' (n + m) c') (HP.sep (OwB a' (n + m) c' (l ++ q)) S)):=by
 obtain ⟨i,hi,h1,h2,h3⟩:=info_parts info8
 cases b with
 | some ad =>
  have:=append_ok 28 28 5 i (.int .u8 0) und8 hi h1 (by rw [h2]; rfl) (by omega) a n c (l.map u8v) S ad m c2 (q.map u8v) hr.rd (by simp [hm,h2]) (u8v_one q) (by unfold maxLen; omega) (by rw [h3]; omega)
  rw [h2] at this
  simp only [OwB,List.map_append]
  exact this
 | none =>
  have hm0:m=0:=Classical.byContradiction fun h=>by have:=hb0 h; cases this
  subst hm0
  obtain rfl:q=[]:=List.eq_nil_of_length_eq_zero hm
  rintro w R h F s ⟨x1,x2,d,l1,l2,H,hS⟩
  have H0:=H
  obtain ⟨hxl,hx⟩:=H
  have hnc:n ≤ c:=by
   rcases hx with ⟨_,rfl,rfl⟩ | ⟨g,cur,_,_,hnc,_⟩
   ·exact Nat.le_refl _
   ·exact hnc
  refine ⟨.value (.slice a n c),_,w,?_,rfl,Same.refl w,R,h,PH.le.refl _,s,a,c,rfl,x1,x2,d,l1,l2,by rw [List.append_nil]; exact H0,hS⟩
  cases a <;> simp [appS,Builtin.append_,run_underlying und8,sizeOf,typeInfo,hi,h2,Builtin.lenOf,Builtin.firstCells,hnc,storeCells]
theorem clone8_ok (S:HP) (a:Option Addr) (n c:Nat) (l:List UInt8) (hr:RdL S a n (l.map u8v)) (hl:l.length=n) (hb:n ≤ 140737488355328) :
  Tri Tryz.prog 73 #[.slice a n c] S (fun v=>HP.ex fun a'=>HP.ex fun c'=>HP.and (v = .slice a' n c') (HP.sep (OwB a' n c' l) S)):=by
 refine tri_of_tree (ρ:=[.a a,.n n,.n c,.p S]) mixed Tryz.func73 tree_clone8 ?_
 unfold t_clone8
 simp only [T.den,E.prop,E.den,RX.look,F1.app,F2.app,Uni.int_i,Uni.nat_n,Uni.bool_c,Uni.str_s,Uni.adr_a,Uni.val_v,Uni.hp_p,hden,cden,V.den,W.den,A.den,BR.den,SA.den,FV.den,capV,exs,exP,allP,Cur.app,List.map_cons,List.map_nil,List.cons_append,List.nil_append,List.drop_succ_cons,List.drop_zero,List.length_cons,List.length_nil,Nat.zero_add,Nat.reduceAdd,Int.neg_neg,Bool.not_not,List.append_nil,Nat.add_zero,List.getElem?_cons_zero,List.getElem?_cons_succ,Decidable.not_not]
 refine ⟨fun ha => .of fun R h H => ?_,fun ha x => ?_⟩
 ·have hn:n=0:=hr.none R h H (by simpa using ha)
  subst hn
  obtain rfl:l=[]:=List.eq_nil_of_length_eq_zero hl
  exact ⟨none,0,rfl,HP.tt_sep H |> fun H=>HP.sep_mono H (fun x _=>OwC.nil _ _ R x) fun _ h=>h⟩
 ·rw [semOf_append (by decide)]
  simp only [T.den,E.prop,E.den,RX.look,F1.app,F2.app,Uni.int_i,Uni.nat_n,Uni.bool_c,Uni.str_s,Uni.adr_a,Uni.val_v,Uni.hp_p,hden,cden,V.den,W.den,A.den,BR.den,SA.den,FV.den,capV,exs,exP,allP,Cur.app,List.map_cons,List.map_nil,List.cons_append,List.nil_append,List.drop_succ_cons,List.drop_zero,List.length_cons,List.length_nil,Nat.zero_add,Nat.reduceAdd,Int.neg_neg,Bool.not_not,List.append_nil,Nat.add_zero,List.getElem?_cons_zero,List.getElem?_cons_succ,Decidable.not_not]
  have:=append8 (some ⟨x,0,none⟩) 0 0 [] S a n c l hr hl (fun _=>by simpa [Option.isSome_iff_ne_none] using ha) (by omega)
  refine this.weak (fun R h H=>HP.sep_mono H (fun y hy=>⟨rfl,.inr ⟨x,#[],rfl,hy,Nat.le_refl _,by unfold maxLen; omega,rfl,rfl⟩⟩) fun _ h=>h) ?_
  rintro v R h ⟨a',c',rfl,H⟩
  rw [Nat.zero_add,List.nil_append] at H
  exact ⟨a',n,c',OwB a' n c' l,by rw [Nat.zero_add],.of fun R' h' H'=>⟨a',c',rfl,HP.sep_comm H'⟩,H⟩
theorem width_ok (n:Int) (S:HP):Tri Tryz.prog 199 #[.int .i64 n] S (fun v=>HP.and (v = .int .i64 (min (max n 0) 8)) S):=by
 have:Tri Tryz.prog 199 #[.int .i64 n] HP.tt (fun v=>HP.pure (v = .int .i64 (min (max n 0) 8))):=by
  refine tri_of_tree (ρ:=[.i n]) mixed Tryz.func199 tree_width ?_
  unfold t_width
  simp only [T.den,E.prop,E.den,RX.look,F1.app,F2.app,Uni.int_i,Uni.nat_n,Uni.bool_c,Uni.str_s,Uni.adr_a,Uni.val_v,Uni.hp_p,hden,cden,V.den,W.den,A.den,BR.den,SA.den,FV.den,capV,exs,exP,allP,Cur.app,List.map_cons,List.map_nil,List.cons_append,List.nil_append,List.drop_succ_cons,List.drop_zero,List.length_cons,List.length_nil,Nat.zero_add,Nat.reduceAdd,Int.neg_neg,Bool.not_not,List.append_nil,Nat.add_zero,List.getElem?_cons_zero,List.getElem?_cons_succ,Decidable.not_not]
  exact .of fun _ _ _=>trivial
 exact (this.frame S).weak (fun _ _ H=>HP.tt_sep H) fun v R h H=>⟨HP.sep_left H,HP.sep_right H⟩
def byteAt (v n j:Nat):UInt8:=UInt8.ofNat (v / 2 ^ (8 * (n - 1 - j)))
def beN (v n:Nat):List UInt8:=(List.range n).map (byteAt v n)
theorem beN_take (v n j:Nat) (hj:j < n):(beN v n).take (j + 1)=(beN v n).take j ++ [byteAt v n j]:=by
 rw [List.take_succ_eq_append_getElem (by simpa [beN] using hj)]
 congr 2
 simp [beN]
theorem beN_len (v n:Nat):(beN v n).length=n:=by simp [beN]
end Go.Proofs.YtdieogcemmnaaaaGreatDoor

namespace Go.Proofs.YtdieogcemmnaaaaGreatDoor.RX
set_option maxRecDepth 100000
-- tideline/octet.Read: ρ:=[.a ba,.n bl,.n bc,.p bP]
def t_rRead:T :=
(.call 73 [.a (.sl (.v 0) (.v 1) (.v 2))] [(.a 0,.prop 3)] [.a,.n,.n,.p,.p] (.w (.a (.sl (.v 4) (.v 5) (.v 6)))) [(.a 4,.prop 7),(.a 0,.prop 8)]
(.new
(.ret (.w (.a (.ptr (.v 9) 0))) [(.a 0,.prop 8),(.b (.v 9),.cells [.sl (.v 4) (.v 5) (.v 6),.bool (.c false)] 247),(.a 4,.prop 7)])))
theorem tree_rRead:tree Tryz.prog { } Tryz.f85 [.a (.sl (.v 0) (.v 1) (.v 2))] [(.a 0,.prop 3)] 4=t_rRead:=by kernel_rfl
def t_rFail:T :=
(.ret (.tup []) [(.b (.v 0),.cells [.sl .nil (.n 0) (.n 0),.bool (.c true)] 247),(.a 1,.prop 4)])
theorem tree_rFail:tree Tryz.prog { } Tryz.f203 [.a (.ptr (.v 0) 0)] [(.b (.v 0),.cells [.sl (.v 1) (.v 2) (.v 3),.bool (.v 5)] 247),(.a 1,.prop 4)] 6=t_rFail:=by kernel_rfl
def t_rTake:T :=
(.br (.v 5)
(.ret (.w (.a (.sl .nil (.n 0) (.n 0)))) [(.b (.v 0),.cells [.sl (.v 1) (.v 2) (.v 3),.bool (.v 5)] 247),(.a 1,.prop 4)])
(.br (.o2 .lt (.o1 .ofNat (.v 2)) (.v 6))
(.call 203 [.a (.ptr (.v 0) 0)] [(.b (.v 0),.cells [.sl (.v 1) (.v 2) (.v 3),.bool (.v 5)] 247),(.a 1,.prop 4)] [.a,.n,.n,.p,.c] (.tup []) [(.b (.v 0),.cells [.sl (.v 7) (.v 8) (.v 9),.bool (.v 11)] 247),(.a 7,.prop 10)]
(.ret (.w (.a (.sl .nil (.n 0) (.n 0)))) [(.b (.v 0),.cells [.sl (.v 7) (.v 8) (.v 9),.bool (.v 11)] 247),(.a 7,.prop 10)]))
(.read (.slice 28 (.tmp 22) (some (.const (.int .i64 0))) (some (.tmp 23)) (some (.tmp 24))) 28 [(22,.w (.a (.sl (.v 1) (.v 2) (.v 3)))),(23,.w (.a (.int .i64 (.v 6)))),(24,.w (.a (.int .i64 (.v 6))))] [(.a 1,.prop 4)] [.a,.n,.n] (.w (.a (.sl (.v 7) (.v 8) (.v 9))))
(.read (.slice 28 (.tmp 30) (some (.tmp 31)) none none) 28 [(30,.w (.a (.sl (.v 1) (.v 2) (.v 3)))),(31,.w (.a (.int .i64 (.v 6))))] [(.a 1,.prop 4)] [.a,.n,.n] (.w (.a (.sl (.v 10) (.v 11) (.v 12))))
(.ret (.w (.a (.sl (.v 7) (.v 8) (.v 9)))) [(.b (.v 0),.cells [.sl (.v 10) (.v 11) (.v 12),.bool (.v 5)] 247),(.a 1,.prop 4)])))))
theorem tree_rTake:tree Tryz.prog { } Tryz.f202 [.a (.ptr (.v 0) 0),.a (.int .i64 (.v 6))] [(.b (.v 0),.cells [.sl (.v 1) (.v 2) (.v 3),.bool (.v 5)] 247),(.a 1,.prop 4)] 7=t_rTake:=by kernel_rfl
def t_rNumber:T :=
(.call 199 [.a (.int .i64 (.v 2))] [] [.i] (.w (.a (.int .i64 (.v 3)))) []
(.call 202 [.a (.ptr (.v 0) 0),.a (.int .i64 (.v 3))] [(.b (.v 0),.prop 1)] [.a,.n,.n,.p,.p] (.w (.a (.sl (.v 4) (.v 5) (.v 6)))) [(.a 4,.prop 7),(.b (.v 0),.prop 8)]
(.loop [.i,.i] [.e (.o1 .neg (.o1 .neg (.i 0))),.e (.o1 .neg (.o1 .neg (.i 0)))]
(.br (.o2 .lt (.v 10) (.o1 .ofNat (.v 5)))
(.need (.o2 .le (.i 0) (.v 10))
(.need (.o1 .isSome (.v 4))
(.read (.load 5 (.tmp 15)) 5 [(15,.w (.a (.eptr 4 (.v 10) 1 0)))] [(.a 4,.prop 7)] [.i] (.w (.a (.int .u8 (.v 11))))
(.need (.o1 (.inr .u64) (.v 11))
(.need (.o1 (.inr .i64) (.o2 .add (.v 10) (.i 1)))
(.again 0 [.e (.o1 .neg (.o1 .neg (.o2 (.bit .or .u64) (.o2 (.shl .u64) (.v 9) (.i 8)) (.v 11)))),.e (.o1 .neg (.o1 .neg (.o2 .add (.v 10) (.i 1))))]))))))
(.ret (.w (.a (.int .u64 (.v 9)))) [(.b (.v 0),.prop 8)])))))
theorem tree_rNumber:tree Tryz.prog { } Tryz.f153 [.a (.ptr (.v 0) 0),.a (.int .i64 (.v 2))] [(.b (.v 0),.prop 1)] 3=t_rNumber:=by kernel_rfl
def t_rTold:T :=
(.call 153 [.a (.ptr (.v 0) 0),.a (.int .i64 (.i 4))] [(.b (.v 0),.cells [.sl (.v 1) (.v 2) (.v 3),.bool (.v 5)] 247),(.a 1,.prop 4)] [.i,.a,.n,.n,.p,.c] (.w (.a (.int .u64 (.v 7)))) [(.b (.v 0),.cells [.sl (.v 8) (.v 9) (.v 10),.bool (.v 12)] 247),(.a 8,.prop 11)]
(.br (.v 12)
(.ret (.w (.a (.int .i64 (.i 0)))) [(.b (.v 0),.cells [.sl (.v 8) (.v 9) (.v 10),.bool (.v 12)] 247),(.a 8,.prop 11)])
(.br (.o2 .lt (.v 6) (.o1 (.wrap .i64) (.v 7)))
(.call 203 [.a (.ptr (.v 0) 0)] [(.b (.v 0),.cells [.sl (.v 8) (.v 9) (.v 10),.bool (.v 12)] 247),(.a 8,.prop 11)] [.a,.n,.n,.p,.c] (.tup []) [(.b (.v 0),.cells [.sl (.v 13) (.v 14) (.v 15),.bool (.v 17)] 247),(.a 13,.prop 16)]
(.ret (.w (.a (.int .i64 (.i 0)))) [(.b (.v 0),.cells [.sl (.v 13) (.v 14) (.v 15),.bool (.v 17)] 247),(.a 13,.prop 16)]))
(.ret (.w (.a (.int .i64 (.o1 (.wrap .i64) (.v 7))))) [(.b (.v 0),.cells [.sl (.v 8) (.v 9) (.v 10),.bool (.v 12)] 247),(.a 8,.prop 11)]))))
theorem tree_rTold:tree Tryz.prog { } Tryz.f154 [.a (.ptr (.v 0) 0),.a (.int .i64 (.v 6))] [(.b (.v 0),.cells [.sl (.v 1) (.v 2) (.v 3),.bool (.v 5)] 247),(.a 1,.prop 4)] 7=t_rTold:=by kernel_rfl
def t_rByte:T :=
(.call 153 [.a (.ptr (.v 0) 0),.a (.int .i64 (.i 1))] [(.b (.v 0),.prop 1)] [.i,.p] (.w (.a (.int .u64 (.v 2)))) [(.b (.v 0),.prop 3)]
(.ret (.w (.a (.int .u8 (.o1 (.wrap .u8) (.v 2))))) [(.b (.v 0),.prop 3)]))
theorem tree_rByte:tree Tryz.prog { } Tryz.f156 [.a (.ptr (.v 0) 0)] [(.b (.v 0),.prop 1)] 2=t_rByte:=by kernel_rfl
def t_rInt:T :=
(.call 153 [.a (.ptr (.v 0) 0),.a (.int .i64 (.i 8))] [(.b (.v 0),.prop 1)] [.i,.p] (.w (.a (.int .u64 (.v 2)))) [(.b (.v 0),.prop 3)]
(.ret (.w (.a (.int .i64 (.o1 (.wrap .i64) (.v 2))))) [(.b (.v 0),.prop 3)]))
theorem tree_rInt:tree Tryz.prog { } Tryz.f86 [.a (.ptr (.v 0) 0)] [(.b (.v 0),.prop 1)] 2=t_rInt:=by kernel_rfl
def t_rBytes:T :=
(.call 154 [.a (.ptr (.v 0) 0),.a (.int .i64 (.v 2))] [(.b (.v 0),.prop 1)] [.i,.p] (.w (.a (.int .i64 (.v 3)))) [(.b (.v 0),.prop 4)]
(.call 202 [.a (.ptr (.v 0) 0),.a (.int .i64 (.v 3))] [(.b (.v 0),.prop 4)] [.a,.n,.n,.p,.p] (.w (.a (.sl (.v 5) (.v 6) (.v 7)))) [(.a 5,.prop 8),(.b (.v 0),.prop 9)]
(.call 73 [.a (.sl (.v 5) (.v 6) (.v 7))] [(.a 5,.prop 8)] [.a,.n,.n,.p,.p] (.w (.a (.sl (.v 10) (.v 11) (.v 12)))) [(.a 10,.prop 13),(.a 5,.prop 14)]
(.ret (.w (.a (.sl (.v 10) (.v 11) (.v 12)))) [(.b (.v 0),.prop 9),(.a 10,.prop 13)]))))
theorem tree_rBytes:tree Tryz.prog { } Tryz.f157 [.a (.ptr (.v 0) 0),.a (.int .i64 (.v 2))] [(.b (.v 0),.prop 1)] 3=t_rBytes:=by kernel_rfl
def t_rEnd:T :=
(.br (.v 5)
(.ret (.w (.a (.int .i64 (.i 3)))) [(.b (.v 0),.cells [.sl (.v 1) (.v 2) (.v 3),.bool (.v 5)] 247),(.a 1,.prop 4)])
(.br (.o2 .lt (.i 0) (.o1 .ofNat (.v 2)))
(.ret (.w (.a (.int .i64 (.i 3)))) [(.b (.v 0),.cells [.sl (.v 1) (.v 2) (.v 3),.bool (.v 5)] 247),(.a 1,.prop 4)])
(.ret (.w (.a (.int .i64 (.i 0)))) [(.b (.v 0),.cells [.sl (.v 1) (.v 2) (.v 3),.bool (.v 5)] 247),(.a 1,.prop 4)])))
theorem tree_rEnd:tree Tryz.prog { } Tryz.f89 [.a (.ptr (.v 0) 0)] [(.b (.v 0),.cells [.sl (.v 1) (.v 2) (.v 3),.bool (.v 5)] 247),(.a 1,.prop 4)] 6=t_rEnd:=by kernel_rfl
end Go.Proofs.YtdieogcemmnaaaaGreatDoor.RX

namespace Go.Proofs.YtdieogcemmnaaaaGreatDoor
set_option linter.unusedSimpArgs false
set_option linter.unusedVariables false
open Go.Proofs.YtdieogcemmnaaaaGreatDoor RX
def RRep (b:Nat) (s:List UInt8 × Bool):HP:=HP.ex fun a=>HP.ex fun c=>HP.and (s.1.length ≤ c ∧ s.1.length ≤ 140737488355328) (HP.sep (HP.one b (.cells #[.slice a s.1.length c,.bool s.2] 247)) (RoB a s.1.length s.1))
theorem rFail_ok (b:Nat) (s:List UInt8 × Bool):Tri Tryz.prog 203 #[.pointer (some ⟨b,0,none⟩)] (RRep b s) (fun v=>HP.and (v = .tuple #[]) (RRep b ([],true))):=by
 refine Tri.ex fun a=>Tri.ex fun c=>Tri.pure fun _ => ?_
 refine tri_of_tree (ρ:=[.n b,.a a,.n s.1.length,.n c,.p (RoB a s.1.length s.1),.c s.2]) mixed Tryz.func203 tree_rFail ?_
 unfold t_rFail
 simp only [T.den,E.prop,E.den,RX.look,F1.app,F2.app,Uni.int_i,Uni.nat_n,Uni.bool_c,Uni.str_s,Uni.adr_a,Uni.val_v,Uni.hp_p,hden,cden,V.den,W.den,A.den,BR.den,SA.den,FV.den,capV,exs,exP,allP,Cur.app,List.map_cons,List.map_nil,List.cons_append,List.nil_append,List.drop_succ_cons,List.drop_zero,List.length_cons,List.length_nil,Nat.zero_add,Nat.reduceAdd,Int.neg_neg,Bool.not_not,List.append_nil,Nat.add_zero,List.getElem?_cons_zero,List.getElem?_cons_succ,Decidable.not_not]
 exact .of fun R h H=>⟨trivial,none,0,⟨by simp,by simp⟩,HP.sep_mono H (fun _ h=>h) fun _ _=>RoC.nil _ _ _ _⟩
def takeR (s:List UInt8 × Bool) (n:Nat):List UInt8 × (List UInt8 × Bool):=if s.2 then ([],s) else if s.1.length < n then ([],([],true)) else (s.1.take n,(s.1.drop n,false))
theorem sz8:szT Tryz.prog 5=1:=by kernel_rfl
theorem rTake_ok (b:Nat) (s:List UInt8 × Bool) (n:Nat):Tri Tryz.prog 202 #[.pointer (some ⟨b,0,none⟩),.int .i64 n] (RRep b s)
  (fun v=>HP.ex fun a=>HP.ex fun c=>HP.and (v = .slice a (takeR s n).1.length c) (HP.sep (RoB a (takeR s n).1.length (takeR s n).1) (RRep b (takeR s n).2))):=by
 obtain ⟨l,wr⟩:=s
 refine Tri.ex fun a=>Tri.ex fun c=>Tri.pure fun hc => ?_
 simp only at hc
 refine tri_of_tree (ρ:=[.n b,.a a,.n l.length,.n c,.p (RoB a l.length l),.c wr,.i n]) mixed Tryz.func202 tree_rTake ?_
 unfold t_rTake
 simp only [T.den,E.prop,E.den,RX.look,F1.app,F2.app,Uni.int_i,Uni.nat_n,Uni.bool_c,Uni.str_s,Uni.adr_a,Uni.val_v,Uni.hp_p,hden,cden,V.den,W.den,A.den,BR.den,SA.den,FV.den,capV,exs,exP,allP,Cur.app,List.map_cons,List.map_nil,List.cons_append,List.nil_append,List.drop_succ_cons,List.drop_zero,List.length_cons,List.length_nil,Nat.zero_add,Nat.reduceAdd,Int.neg_neg,Bool.not_not,List.append_nil,Nat.add_zero,List.getElem?_cons_zero,List.getElem?_cons_succ,Decidable.not_not]
 refine ⟨fun h1 => .of fun R h H => ?_,fun h1=>⟨fun h2 => ?_,fun h2 => ?_⟩⟩
 ·subst h1
  simp only [takeR,if_true]
  exact ⟨none,0,rfl,RoC.join (RoC.nil _ _ R h) ⟨a,c,hc,H⟩⟩
 ·have e:takeR (l,wr) n=([],([],true)):=by simp only [takeR]; rw [if_neg h1,if_pos (by omega)]
  rw [e]
  refine (rFail_ok b (l,wr)).weak (fun R h H=>⟨a,c,hc,H⟩) ?_
  rintro v R h ⟨rfl,a',c',hc',H⟩
  refine ⟨a',_,c',RoB a' 0 [],true,rfl,.of fun R h H=>⟨none,0,rfl,RoC.join (RoC.nil _ _ R h) ⟨a',c',hc',H⟩⟩,H⟩
 ·have hn:n ≤ l.length:=by omega
  have hw:wr=false:=by simpa using h1
  have e:takeR (l,wr) n=(l.take n,(l.drop n,false)):=by simp only [takeR]; rw [if_neg h1,if_neg (by omega)]
  rw [e]
  obtain ⟨i,hi,_⟩:=info_parts info8
  have s1:=slice_ok und8 hi (RoB a l.length l) a l.length c (some 0) (some n) (some n) (Nat.zero_le _) (Nat.le_refl _) (by simp; omega) (fun _=>rfl)
  have s2:=slice_ok und8 hi (RoB a l.length l) a l.length c (some n) none none hn hc.1 (Nat.le_refl _) (fun h=>by cases h)
  refine ⟨_,_,_,s1,_,_,_,s2,?_⟩
  simp only [Option.getD_some,Option.getD_none,Nat.sub_zero,sz8,Nat.mul_one,Nat.zero_mul]
  refine .of fun R h H => ?_
  have hro:=HP.sep_right H
  have r1:=RoC.sub hro 0 n n (Nat.zero_le _) hn (Nat.le_refl _)
  have r2:=RoC.sub hro n l.length c hn (Nat.le_refl _) hc.1
  simp only [Nat.sub_zero,Nat.mul_one,Nat.zero_mul,List.drop_zero,← List.map_take,← List.map_drop] at r1 r2
  rw [List.take_of_length_le (by simp)] at r2
  have e1:(l.take n).length=n:=by simp [hn]
  have e2:(l.drop n).length=l.length - n:=by simp
  rw [← e2] at r2
  refine ⟨if n=0 then a else Option.map (fun x=>x.add 0) a,n,by rw [e1],?_⟩
  rw [e1]
  refine RoC.join r1 ⟨_,c - n,⟨by simp only [e2]; omega,by simp only [e2]; omega⟩,RoC.joinR r2 ?_⟩
  have:=HP.sep_left H
  simp only [e2]
  rw [hw] at this
  exact this
def beV (l:List UInt8):Nat:=l.foldl (fun v b=>v * 256 + b.toNat) 0
theorem beV_snoc (l:List UInt8) (b:UInt8):beV (l ++ [b])=beV l * 256 + b.toNat:=by simp [beV]
theorem beV_lt (l:List UInt8):beV l < 256 ^ l.length:=by
 have key : ∀ (l:List UInt8) (v:Nat),l.foldl (fun v (b:UInt8)=>v * 256 + b.toNat) v < (v + 1) * 256 ^ l.length:=by
  intro l
  induction l with
  | nil=>intro v; simp
  | cons b r ih =>
   intro v
   have hb:=b.toNat_lt
   have h1:=ih (v * 256 + b.toNat)
   have h2:(v * 256 + b.toNat + 1) * 256 ^ r.length ≤ (v + 1) * 256 * 256 ^ r.length:=Nat.mul_le_mul_right _ (by omega)
   simp only [List.foldl_cons,List.length_cons,Nat.pow_succ]
   rw [Nat.mul_comm (256 ^ r.length) 256,← Nat.mul_assoc]
   omega
 simpa [beV] using key l 0
def numR (s:List UInt8 × Bool) (n:Nat):Nat × (List UInt8 × Bool):=(beV (takeR s n).1,(takeR s n).2)
theorem takeR_len (s:List UInt8 × Bool) (n:Nat):(takeR s n).1.length ≤ n:=by
 unfold takeR; split
 ·simp
 ·split <;> simp; omega
theorem or_step (v:Nat) (b:UInt8) (hv:v < 2 ^ 56):bits .or .u64 (IntKind.u64.wrap ((v:Int) * 2 ^ (min (8:Int).toNat IntKind.u64.bits))) (b.toNat:Int)=((v * 256 + b.toNat:Nat):Int):=by
 have hb:=b.toNat_lt
 have e1:IntKind.u64.wrap ((v:Int) * 2 ^ (min (8:Int).toNat IntKind.u64.bits))=((v * 256:Nat):Int):=by
  have:(v:Int) * 2 ^ (min (8:Int).toNat IntKind.u64.bits)=((v * 256:Nat):Int):=by
   simp [IntKind.bits]
  rw [this]
  exact wrap_in ⟨by simp [IntKind.min,IntKind.signed]; omega,by simp [IntKind.max,IntKind.signed,IntKind.bits]; omega⟩
 rw [e1]
 have e2:(v * 256 ||| b.toNat)=v * 256 + b.toNat:=by
  have:=Nat.shiftLeft_add_eq_or_of_lt (a:=v) (b:=b.toNat) (i:=8) (by omega)
  rw [Nat.shiftLeft_eq] at this
  exact this.symm
 show IntKind.u64.wrap ((BitVec.ofInt 64 ((v * 256:Nat):Int) ||| BitVec.ofInt 64 (b.toNat:Int)).toNat:Int)=_
 rw [BitVec.ofInt_natCast,BitVec.ofInt_natCast,BitVec.toNat_or,BitVec.toNat_ofNat,BitVec.toNat_ofNat,Nat.mod_eq_of_lt (by omega),Nat.mod_eq_of_lt (by omega),e2]
 exact wrap_in ⟨by simp [IntKind.min,IntKind.signed]; omega,by simp [IntKind.max,IntKind.signed,IntKind.bits]; omega⟩
theorem inI64 (x:Int) (h1 : -9223372036854775808 ≤ x) (h2:x ≤ 9223372036854775807):IntKind.i64.min ≤ x ∧ x ≤ IntKind.i64.max:=by
 simp [IntKind.min,IntKind.max,IntKind.signed,IntKind.bits]; omega
theorem inU64 (x:Int) (h1:0 ≤ x) (h2:x ≤ 18446744073709551615):IntKind.u64.min ≤ x ∧ x ≤ IntKind.u64.max:=by
 simp [IntKind.min,IntKind.max,IntKind.signed,IntKind.bits]; omega
theorem und8b:Tryz.prog.underlying 5=some (.int .u8):=by kernel_rfl
theorem agg8:aggT Tryz.prog 5=false:=by kernel_rfl
theorem rNumber_ok (b:Nat) (s:List UInt8 × Bool) (n:Nat) (hn:n ≤ 8):Tri Tryz.prog 153 #[.pointer (some ⟨b,0,none⟩),.int .i64 n] (RRep b s)
  (fun v=>HP.and (v = .int .u64 ((numR s n).1:Nat)) (RRep b (numR s n).2)):=by
 refine tri_of_tree (ρ:=[.n b,.p (RRep b s),.i n]) mixed Tryz.func153 tree_rNumber ?_
 unfold t_rNumber
 simp only [T.den,E.prop,E.den,RX.look,F1.app,F2.app,Uni.int_i,Uni.nat_n,Uni.bool_c,Uni.str_s,Uni.adr_a,Uni.val_v,Uni.hp_p,hden,cden,V.den,W.den,A.den,BR.den,SA.den,FV.den,capV,exs,exP,allP,Cur.app,List.map_cons,List.map_nil,List.cons_append,List.nil_append,List.drop_succ_cons,List.drop_zero,List.length_cons,List.length_nil,Nat.zero_add,Nat.reduceAdd,Int.neg_neg,Bool.not_not,List.append_nil,Nat.add_zero,List.getElem?_cons_zero,List.getElem?_cons_succ,Decidable.not_not]
 refine (width_ok n HP.tt).weak (fun _ _ h=>h) ?_
 rintro r R h ⟨rfl,H⟩
 refine ⟨min (max n 0) 8,rfl,?_,H⟩
 rw [show min (max (n:Int) 0) 8=n by omega]
 refine (rTake_ok b s n).weak (fun _ _ h=>h) ?_
 rintro r R h ⟨a,c,rfl,H⟩
 have hlen:=takeR_len s n
 have ha:0 < (takeR s n).1.length → a.isSome=true:=fun h=>RoC.some (HP.sep_left H) h
 refine ⟨a,_,c,RoB a _ (takeR s n).1,RRep b (takeR s n).2,rfl,?_,H⟩
 have hpow:256 ^ (takeR s n).1.length ≤ 256 ^ 8:=Nat.pow_le_pow_right (by decide) (by omega)
 unfold numR
 generalize (takeR s n).1=l at *
 generalize (takeR s n).2=s' at *
 refine ⟨fun v i => ∃ k:Nat,i=k ∧ k ≤ l.length ∧ v=((beV (l.take k):Nat):Int),fun v i=>l.length - i.toNat,⟨0,rfl,Nat.zero_le _,rfl⟩,?_⟩
 rintro v i ⟨k,rfl,hk,rfl⟩
 refine ⟨fun hlt=>⟨by omega,fun _ => ?_⟩,fun hge => ?_⟩
 ·have hlt':k < l.length:=by omega
  have hb8:=l[k].toNat_lt
  have hget:l[k]? = some l[k]:=List.getElem?_eq_getElem hlt'
  have hk8:beV (l.take k) < 2 ^ 56:=by
   have h1:=beV_lt (l.take k)
   rw [List.length_take,Nat.min_eq_left hk] at h1
   have h2:256 ^ k ≤ 256 ^ 7:=Nat.pow_le_pow_right (by decide) (by omega)
   have h3:(256:Nat) ^ 7=2 ^ 56:=by decide
   omega
  refine ⟨ha (by omega),fun _=>⟨(l[k].toNat:Int),?_,inU64 _ (by omega) (by omega),fun _=>⟨inI64 _ (by omega) (by omega),fun _=>⟨⟨k + 1,by omega,hlt',?_⟩,by dsimp only; omega⟩⟩⟩⟩
  ·exact load1_ok und8b agg8 sz8 (RoC.rd 1 a _ (l.map u8v)) (k:=(k:Int).toNat * 1) (off:=0) (v:=u8v l[k]) (by simp [hget])
  ·rw [or_step _ _ hk8,List.take_succ_eq_append_getElem hlt',beV_snoc]
 ·have:k=l.length:=by omega
  subst this
  rw [List.take_length]
  exact .of fun R h H=>⟨rfl,H⟩
theorem wrap8 (v:Nat):IntKind.u8.wrap (v:Int)=((v % 256:Nat):Int):=by
 simp only [IntKind.wrap,IntKind.bits,IntKind.signed,Bool.false_and,Bool.false_eq_true,if_false]
 omega
theorem rByte_ok (b:Nat) (s:List UInt8 × Bool):Tri Tryz.prog 156 #[.pointer (some ⟨b,0,none⟩)] (RRep b s) (fun v=>HP.and (v = .int .u8 (((numR s 1).1 % 256:Nat):Int)) (RRep b (numR s 1).2)):=by
 refine tri_of_tree (ρ:=[.n b,.p (RRep b s)]) mixed Tryz.func156 tree_rByte ?_
 unfold t_rByte
 simp only [T.den,E.prop,E.den,RX.look,F1.app,F2.app,Uni.int_i,Uni.nat_n,Uni.bool_c,Uni.str_s,Uni.adr_a,Uni.val_v,Uni.hp_p,hden,cden,V.den,W.den,A.den,BR.den,SA.den,FV.den,capV,exs,exP,allP,Cur.app,List.map_cons,List.map_nil,List.cons_append,List.nil_append,List.drop_succ_cons,List.drop_zero,List.length_cons,List.length_nil,Nat.zero_add,Nat.reduceAdd,Int.neg_neg,Bool.not_not,List.append_nil,Nat.add_zero,List.getElem?_cons_zero,List.getElem?_cons_succ,Decidable.not_not]
 refine (rNumber_ok b s 1 (by omega)).weak (fun _ _ h=>h) ?_
 rintro v R h ⟨rfl,H⟩
 exact ⟨_,_,rfl,.of fun R h H=>⟨by rw [wrap8],H⟩,H⟩
def intOf64 (v:Nat):Int:=IntKind.i64.wrap (v:Int)
theorem rInt_ok (b:Nat) (s:List UInt8 × Bool):Tri Tryz.prog 86 #[.pointer (some ⟨b,0,none⟩)] (RRep b s) (fun v=>HP.and (v = .int .i64 (intOf64 (numR s 8).1)) (RRep b (numR s 8).2)):=by
 refine tri_of_tree (ρ:=[.n b,.p (RRep b s)]) mixed Tryz.func86 tree_rInt ?_
 unfold t_rInt
 simp only [T.den,E.prop,E.den,RX.look,F1.app,F2.app,Uni.int_i,Uni.nat_n,Uni.bool_c,Uni.str_s,Uni.adr_a,Uni.val_v,Uni.hp_p,hden,cden,V.den,W.den,A.den,BR.den,SA.den,FV.den,capV,exs,exP,allP,Cur.app,List.map_cons,List.map_nil,List.cons_append,List.nil_append,List.drop_succ_cons,List.drop_zero,List.length_cons,List.length_nil,Nat.zero_add,Nat.reduceAdd,Int.neg_neg,Bool.not_not,List.append_nil,Nat.add_zero,List.getElem?_cons_zero,List.getElem?_cons_succ,Decidable.not_not]
 refine (rNumber_ok b s 8 (by omega)).weak (fun _ _ h=>h) ?_
 rintro v R h ⟨rfl,H⟩
 exact ⟨_,_,rfl,.of fun R h H=>⟨rfl,H⟩,H⟩
def toldR (s:List UInt8 × Bool) (most:Int):Nat × (List UInt8 × Bool) :=
 if (numR s 4).2.2 then (0,(numR s 4).2) else if most < (numR s 4).1 then (0,([],true)) else ((numR s 4).1,(numR s 4).2)
theorem numR_lt (s:List UInt8 × Bool) (n:Nat):(numR s n).1 < 256 ^ n :=
 Nat.lt_of_lt_of_le (beV_lt _) (Nat.pow_le_pow_right (by decide) (takeR_len s n))
theorem rTold_ok (b:Nat) (s:List UInt8 × Bool) (most:Int):Tri Tryz.prog 154 #[.pointer (some ⟨b,0,none⟩),.int .i64 most] (RRep b s) (fun v=>HP.and (v = .int .i64 ((toldR s most).1:Nat)) (RRep b (toldR s most).2)):=by
 have hlt:=numR_lt s 4
 refine Tri.ex fun a=>Tri.ex fun c=>Tri.pure fun hc => ?_
 refine tri_of_tree (ρ:=[.n b,.a a,.n s.1.length,.n c,.p (RoB a s.1.length s.1),.c s.2,.i most]) mixed Tryz.func154 tree_rTold ?_
 unfold t_rTold
 simp only [T.den,E.prop,E.den,RX.look,F1.app,F2.app,Uni.int_i,Uni.nat_n,Uni.bool_c,Uni.str_s,Uni.adr_a,Uni.val_v,Uni.hp_p,hden,cden,V.den,W.den,A.den,BR.den,SA.den,FV.den,capV,exs,exP,allP,Cur.app,List.map_cons,List.map_nil,List.cons_append,List.nil_append,List.drop_succ_cons,List.drop_zero,List.length_cons,List.length_nil,Nat.zero_add,Nat.reduceAdd,Int.neg_neg,Bool.not_not,List.append_nil,Nat.add_zero,List.getElem?_cons_zero,List.getElem?_cons_succ,Decidable.not_not]
 refine (rNumber_ok b s 4 (by omega)).weak (fun R h H=>⟨a,c,hc,H⟩) ?_
 rintro v R h ⟨rfl,a',c',hc',H⟩
 unfold toldR
 generalize (numR s 4).1=x at *
 generalize (numR s 4).2=s' at *
 obtain ⟨l',w'⟩:=s'
 refine ⟨_,a',_,c',RoB a' l'.length l',w',rfl,?_,H⟩
 have e:IntKind.i64.wrap (x:Int)=x:=wrap_in (inI64 _ (by omega) (by omega))
 rw [e]
 refine ⟨fun h1 => .of fun R h H => ?_,fun h1=>⟨fun h2 => ?_,fun h2 => .of fun R h H => ?_⟩⟩
 ·simp only [h1,if_true]
  subst h1
  exact ⟨rfl,a',c',hc',H⟩
 ·rw [if_neg h1,if_pos h2]
  refine (rFail_ok b (l',w')).weak (fun R h H=>⟨a',c',hc',H⟩) ?_
  rintro v R h ⟨rfl,a2,c2,hc2,H⟩
  exact ⟨a2,_,c2,RoB a2 _ [],true,rfl,.of fun R h H=>⟨rfl,a2,c2,hc2,H⟩,H⟩
 ·rw [if_neg h1,if_neg h2]
  exact ⟨rfl,a',c',hc',H⟩
def bytesR (s:List UInt8 × Bool) (most:Int):List UInt8 × (List UInt8 × Bool):=takeR (toldR s most).2 (toldR s most).1
theorem rBytes_ok (b:Nat) (s:List UInt8 × Bool) (most:Int):Tri Tryz.prog 157 #[.pointer (some ⟨b,0,none⟩),.int .i64 most] (RRep b s)
  (fun v=>HP.ex fun a=>HP.ex fun c=>HP.and (v = .slice a (bytesR s most).1.length c) (HP.sep (RRep b (bytesR s most).2) (OwB a (bytesR s most).1.length c (bytesR s most).1))):=by
 refine tri_of_tree (ρ:=[.n b,.p (RRep b s),.i most]) mixed Tryz.func157 tree_rBytes ?_
 unfold t_rBytes
 simp only [T.den,E.prop,E.den,RX.look,F1.app,F2.app,Uni.int_i,Uni.nat_n,Uni.bool_c,Uni.str_s,Uni.adr_a,Uni.val_v,Uni.hp_p,hden,cden,V.den,W.den,A.den,BR.den,SA.den,FV.den,capV,exs,exP,allP,Cur.app,List.map_cons,List.map_nil,List.cons_append,List.nil_append,List.drop_succ_cons,List.drop_zero,List.length_cons,List.length_nil,Nat.zero_add,Nat.reduceAdd,Int.neg_neg,Bool.not_not,List.append_nil,Nat.add_zero,List.getElem?_cons_zero,List.getElem?_cons_succ,Decidable.not_not]
 refine (rTold_ok b s most).weak (fun _ _ h=>h) ?_
 rintro v R h ⟨rfl,H⟩
 refine ⟨_,RRep b (toldR s most).2,rfl,?_,H⟩
 refine (rTake_ok b _ _).weak (fun _ _ h=>h) ?_
 rintro v R h ⟨a,c,rfl,H⟩
 have hlen:(bytesR s most).1.length ≤ 140737488355328:=by
  have h1:=takeR_len (toldR s most).2 (toldR s most).1
  have h2:(toldR s most).1 < 256 ^ 4:=by
   have:=numR_lt s 4
   unfold toldR; split
   ·simp
   ·split
    ·simp
    ·exact this
  have h3:(256:Nat) ^ 4=4294967296:=by decide
  unfold bytesR
  omega
 refine ⟨a,_,c,RoB a _ (bytesR s most).1,RRep b (bytesR s most).2,rfl,?_,H⟩
 refine (clone8_ok _ a _ c (bytesR s most).1 (RdL.ro _ _ _ _) rfl hlen).weak (fun _ _ h=>h) ?_
 rintro v R h ⟨a',c',rfl,H⟩
 exact ⟨a',_,c',OwB a' _ c' _,RoB a _ (bytesR s most).1,rfl,.of fun R h H=>⟨a',c',rfl,H⟩,H⟩
theorem rEnd_ok (b:Nat) (s:List UInt8 × Bool):Tri Tryz.prog 89 #[.pointer (some ⟨b,0,none⟩)] (RRep b s) (fun v=>HP.and (v = .int .i64 (if s.2=true ∨ s.1 ≠ [] then 3 else 0)) (RRep b s)):=by
 obtain ⟨l,w⟩:=s
 refine Tri.ex fun a=>Tri.ex fun c=>Tri.pure fun hc => ?_
 refine tri_of_tree (ρ:=[.n b,.a a,.n l.length,.n c,.p (RoB a l.length l),.c w]) mixed Tryz.func89 tree_rEnd ?_
 unfold t_rEnd
 simp only [T.den,E.prop,E.den,RX.look,F1.app,F2.app,Uni.int_i,Uni.nat_n,Uni.bool_c,Uni.str_s,Uni.adr_a,Uni.val_v,Uni.hp_p,hden,cden,V.den,W.den,A.den,BR.den,SA.den,FV.den,capV,exs,exP,allP,Cur.app,List.map_cons,List.map_nil,List.cons_append,List.nil_append,List.drop_succ_cons,List.drop_zero,List.length_cons,List.length_nil,Nat.zero_add,Nat.reduceAdd,Int.neg_neg,Bool.not_not,List.append_nil,Nat.add_zero,List.getElem?_cons_zero,List.getElem?_cons_succ,Decidable.not_not]
 refine ⟨fun h1 => .of fun R h H=>⟨?_,a,c,hc,H⟩,fun h1=>⟨fun h2 => .of fun R h H=>⟨?_,a,c,hc,H⟩,fun h2 => .of fun R h H=>⟨?_,a,c,hc,H⟩⟩⟩
 ·rw [if_pos (.inl h1)]
 ·rw [if_pos (.inr (fun e=>by subst e; simp at h2))]
 ·rw [if_neg (fun e=>e.elim h1 fun e=>h2 (by have:=List.length_pos_iff.2 e; omega))]
theorem rRead_ok (a:Option Addr) (n c:Nat) (l:List UInt8) (S:HP) (hr:RdL S a n (l.map u8v)) (hl:l.length=n) (hb:n ≤ 140737488355328) :
  Tri Tryz.prog 85 #[.slice a n c] S (fun v=>HP.ex fun b=>HP.and (v = .pointer (some ⟨b,0,none⟩)) (HP.sep S (RRep b (l,false)))):=by
 refine tri_of_tree (ρ:=[.a a,.n n,.n c,.p S]) mixed Tryz.func85 tree_rRead ?_
 unfold t_rRead
 simp only [T.den,E.prop,E.den,RX.look,F1.app,F2.app,Uni.int_i,Uni.nat_n,Uni.bool_c,Uni.str_s,Uni.adr_a,Uni.val_v,Uni.hp_p,hden,cden,V.den,W.den,A.den,BR.den,SA.den,FV.den,capV,exs,exP,allP,Cur.app,List.map_cons,List.map_nil,List.cons_append,List.nil_append,List.drop_succ_cons,List.drop_zero,List.length_cons,List.length_nil,Nat.zero_add,Nat.reduceAdd,Int.neg_neg,Bool.not_not,List.append_nil,Nat.add_zero,List.getElem?_cons_zero,List.getElem?_cons_succ,Decidable.not_not]
 refine (clone8_ok S a n c l hr hl hb).weak (fun _ _ h=>h) ?_
 rintro v R h ⟨a',c',rfl,H⟩
 refine ⟨a',_,c',OwB a' n c' l,S,rfl,fun x => ?_,H⟩
 subst hl
 rintro R h d H
 have hle:=OwC.le (HP.sep_right (HP.sep_right H))
 refine ((HP.ent.sep2 (HP.ent.refl S) (HP.ent.sep2 (HP.ent.refl _) (OwC.share 5 1 a' l.length c' (l.map u8v)))).trans ?_) R h d H
 refine .of fun R h H=>⟨x,rfl,HP.sep_mono H (fun _ h=>h) fun y hy => ?_⟩
 exact ⟨a',c',⟨hle,hb⟩,hy⟩
end Go.Proofs.YtdieogcemmnaaaaGreatDoor

namespace Go.Proofs.YtdieogcemmnaaaaGreatDoor
open Go.Proofs.YtdieogcemmnaaaaGreatDoor RX
def arW (ar:List (Nat × Value)):Operand → Value
 | .tmp t=>match ar.find? (·.1 == t) with
  | some x=>x.2
  | none=>undef
 | .const v=>v
 | .global g => .pointer (some ⟨g,0,none⟩)
 | .func f => .func (.func f) #[] #[]
def semW (o:Op) (ty:TypeId) (ar:List (Nat × Value)):Sem Next:=execOp (arW ar) { dst:=none,op:=o,type:=ty,pos := "",after := #[],guard:=none }
theorem find_map (ρ:Env) (t:Nat) : ∀ ar:List (Nat × V),(ar.map fun x=>(x.1,x.2.den ρ)).find? (·.1 == t)=(ar.find? (·.1 == t)).map fun x=>(x.1,x.2.den ρ)
 | []=>rfl
 | x :: r=>by
  simp only [List.map_cons,List.find?_cons]
  cases x.1 == t <;> simp [find_map ρ t r]
theorem semW_eq {ρ:Env} {o:Op} {ty:TypeId} {ar:List (Nat × V)}:semOf ρ o ty ar=semW o ty (ar.map fun x=>(x.1,x.2.den ρ)):=by
 have h:arEval ρ ar=arW (ar.map fun x=>(x.1,x.2.den ρ)):=by
  funext x
  cases x with
  | tmp t =>
   simp only [arEval,arW,find_map]
   cases ar.find? (·.1 == t) <;> rfl
  | const v=>rfl
  | global g=>rfl
  | func f=>rfl
 unfold semOf semW
 rw [h]
section
variable {t ty:TypeId} {i j q:Nat} {u v x:Value}
theorem semW_load:semW (.load t (.tmp i)) ty [(i,u)]=loadS t u:=by simp [semW,execOp,arW,loadS]
theorem semW_store (h:i ≠ j):semW (.store t (.tmp i) (.tmp j)) ty [(i,u),(j,v)]=storeS t u v:=by
 have h':(i == j)=false:=by simpa using h
 simp [semW,execOp,arW,h',storeS]
theorem semW_storeC:semW (.store t (.tmp i) (.const v)) ty [(i,u)]=storeS t u v:=by simp [semW,execOp,arW,storeS]
theorem semW_append (h:i ≠ j):semW (.call ⟨.builtin .append,#[.tmp i,.tmp j],#[t,t]⟩) ty [(i,u),(j,v)]=appS t ty u v:=by
 have h':(i == j)=false:=by simpa using h
 simp [semW,execOp,resolve,arW,invoke,builtin,h',appS]
theorem semW_lookup {ok:Bool} (h:i ≠ j):semW (.lookup t (.tmp i) (.tmp j) ok) ty [(i,u),(j,v)]=lookS t u v ok:=by
 have h':(i == j)=false:=by simpa using h
 simp [semW,execOp,arW,h',lookS]
theorem semW_lookupC {ok:Bool} {k:Value}:semW (.lookup t (.tmp i) (.const k) ok) ty [(i,u)]=lookS t u k ok:=by
 simp [semW,execOp,arW,lookS]
theorem semW_update (h:i ≠ j) (h2:i ≠ q) (h3:j ≠ q):semW (.mapUpdate t (.tmp i) (.tmp j) (.tmp q)) ty [(i,u),(j,v),(q,x)]=updS t u v x:=by
 have h':(i == j)=false:=by simpa using h
 have h2':(i == q)=false:=by simpa using h2
 have h3':(j == q)=false:=by simpa using h3
 simp [semW,execOp,arW,h',h2',h3',updS]
theorem semW_updateC {k:Value} (h:i ≠ j):semW (.mapUpdate t (.tmp i) (.tmp j) (.const k)) ty [(i,u),(j,v)]=updS t u v k:=by
 have h':(i == j)=false:=by simpa using h
 simp [semW,execOp,arW,h',updS]
theorem semW_updateK {k:Value} (h:i ≠ j):semW (.mapUpdate t (.tmp i) (.const k) (.tmp j)) ty [(i,u),(j,v)]=updS t u k v:=by
 have h':(i == j)=false:=by simpa using h
 simp [semW,execOp,arW,h',updS]
theorem semW_delete {ts:Array TypeId} (h:i ≠ j):semW (.call ⟨.builtin .delete,#[.tmp i,.tmp j],ts⟩) ty [(i,u),(j,v)]=delS ts ty u v:=by
 have h':(i == j)=false:=by simpa using h
 simp [semW,execOp,resolve,arW,invoke,builtin,h',delS]
theorem semW_range:semW (.range t (.tmp i)) ty [(i,u)]=rangS t u:=by simp [semW,execOp,arW,rangS]
theorem semW_next:semW (.next (.tmp i) false) ty [(i,u)]=nextS u ty:=by simp [semW,execOp,arW,nextS]
theorem semW_entry:semW (.entry (.tmp i)) ty [(i,u)]=entS u:=by simp [semW,execOp,arW,entS]
theorem semW_slice {lo hi mx:Option Operand} {y:Operand} {ar:List (Nat × Value)}:semW (.slice t y lo hi mx) ty ar=sliceS t (arW ar y) (lo.map (arW ar)) (hi.map (arW ar)) (mx.map (arW ar)):=rfl
def nilS (u:Value):Sem Next:=semW (.nilCheck (.tmp 0)) 0 [(0,u)]
theorem semW_nil:semW (.nilCheck (.tmp i)) ty [(i,u)]=nilS u:=by simp [nilS,semW,execOp,arW]
end
end Go.Proofs.YtdieogcemmnaaaaGreatDoor

namespace Go.Proofs.YtdieogcemmnaaaaGreatDoor.RX
set_option maxRecDepth 100000
-- tideline/check.More: ρ:=[.i sum,.a ba,.n bl,.n bc,.p bP]
def t_cMore:T :=
(.op (.unOp .xor 243 (.tmp 7)) 243 [(7,.w (.a (.int .u32 (.v 0))))] [] [.i] (.w (.a (.int .u32 (.v 5)))) []
(.loop [.i,.i] [.e (.o1 .neg (.o1 .neg (.v 5))),.e (.o1 .neg (.o1 .neg (.i 0)))]
(.br (.o2 .lt (.v 7) (.o1 .ofNat (.v 2)))
(.need (.o2 .le (.i 0) (.v 7))
(.need (.o1 .isSome (.v 1))
(.read (.load 5 (.tmp 13)) 5 [(13,.w (.a (.eptr 1 (.v 7) 1 0)))] [(.a 1,.prop 4)] [.i] (.w (.a (.int .u8 (.v 8))))
(.need (.o1 (.inr .u32) (.v 8))
(.loop [.i,.i] [.e (.o1 .neg (.o1 .neg (.o2 (.bit .xor .u32) (.v 6) (.v 8)))),.e (.o1 .neg (.o1 .neg (.i 0)))]
(.br (.o2 .lt (.v 10) (.i 2))
(.read (.indexAddr 316 (.global 0) (.tmp 24)) 0 [(24,.w (.a (.int .u32 (.o2 (.bit .and .u32) (.v 9) (.i 15)))))] [] [.v] (.w (.a (.val 11)))
(.read (.load 243 (.tmp 25)) 243 [(25,.w (.a (.val 11)))] [] [.i] (.w (.a (.int .u32 (.v 12))))
(.need (.o1 (.inr .i64) (.o2 .add (.v 10) (.i 1)))
(.again 0 [.e (.o1 .neg (.o1 .neg (.o2 (.bit .xor .u32) (.o2 (.shr .u32) (.v 9) (.i 4)) (.v 12)))),.e (.o1 .neg (.o1 .neg (.o2 .add (.v 10) (.i 1))))]))))
(.need (.o1 (.inr .i64) (.o2 .add (.v 7) (.i 1)))
(.again 1 [.e (.o1 .neg (.o1 .neg (.v 9))),.e (.o1 .neg (.o1 .neg (.o2 .add (.v 7) (.i 1))))]))))))))
(.op (.unOp .xor 243 (.tmp 30)) 243 [(30,.w (.a (.int .u32 (.v 6))))] [] [.i] (.w (.a (.int .u32 (.v 8)))) []
(.ret (.w (.a (.int .u32 (.v 8)))) [(.a 1,.prop 4)])))))
theorem tree_cMore:tree Tryz.prog { } Tryz.f200 [.a (.int .u32 (.v 0)),.a (.sl (.v 1) (.v 2) (.v 3))] [(.a 1,.prop 4)] 5=t_cMore:=by kernel_rfl
def t_cSum:T :=
(.call 200 [.a (.int .u32 (.i 0)),.a (.sl (.v 0) (.v 1) (.v 2))] [(.a 0,.prop 3)] [.i,.p] (.w (.a (.int .u32 (.v 4)))) [(.a 0,.prop 5)]
(.ret (.w (.a (.int .u32 (.v 4)))) [(.a 0,.prop 5)]))
theorem tree_cSum:tree Tryz.prog { } Tryz.f151 [.a (.sl (.v 0) (.v 1) (.v 2))] [(.a 0,.prop 3)] 4=t_cSum:=by kernel_rfl
def t_cUnwrap:T :=
(.need (.o1 (.inr .i64) (.o2 .sub (.o1 .ofNat (.v 1)) (.i 4)))
(.br (.o2 .lt (.o2 .sub (.o1 .ofNat (.v 1)) (.i 4)) (.i 0))
(.ret (.tup [.a (.sl .nil (.n 0) (.n 0)),.a (.int .i64 (.i 3))]) [(.a 0,.prop 3)])
(.read (.slice 28 (.tmp 11) (some (.const (.int .i64 0))) (some (.tmp 12)) (some (.tmp 13))) 28 [(11,.w (.a (.sl (.v 0) (.v 1) (.v 2)))),(12,.w (.a (.int .i64 (.o2 .sub (.o1 .ofNat (.v 1)) (.i 4))))),(13,.w (.a (.int .i64 (.o2 .sub (.o1 .ofNat (.v 1)) (.i 4)))))] [(.a 0,.prop 3)] [.a,.n,.n] (.w (.a (.sl (.v 4) (.v 5) (.v 6))))
(.read (.slice 28 (.tmp 15) (some (.tmp 16)) none none) 28 [(15,.w (.a (.sl (.v 0) (.v 1) (.v 2)))),(16,.w (.a (.int .i64 (.o2 .sub (.o1 .ofNat (.v 1)) (.i 4)))))] [(.a 0,.prop 3)] [.a,.n,.n] (.w (.a (.sl (.v 7) (.v 8) (.v 9))))
(.call 85 [.a (.sl (.v 7) (.v 8) (.v 9))] [(.a 0,.prop 3)] [.n,.p,.p] (.w (.a (.ptr (.v 10) 0))) [(.b (.v 10),.prop 11),(.a 0,.prop 12)]
(.call 153 [.a (.ptr (.v 10) 0),.a (.int .i64 (.i 4))] [(.b (.v 10),.prop 11)] [.i,.p] (.w (.a (.int .u64 (.v 13)))) [(.b (.v 10),.prop 14)]
(.call 151 [.a (.sl (.v 4) (.v 5) (.v 6))] [(.a 0,.prop 12)] [.i,.p] (.w (.a (.int .u32 (.v 15)))) [(.a 0,.prop 16)]
(.need (.o1 (.inr .u64) (.v 15))
(.br (.o1 .not (.o2 .eq (.v 13) (.v 15)))
(.ret (.tup [.a (.sl .nil (.n 0) (.n 0)),.a (.int .i64 (.i 3))]) [(.a 0,.prop 16)])
(.call 73 [.a (.sl (.v 4) (.v 5) (.v 6))] [(.a 0,.prop 16)] [.a,.n,.n,.p,.p] (.w (.a (.sl (.v 17) (.v 18) (.v 19)))) [(.a 17,.prop 20),(.a 0,.prop 21)]
(.ret (.tup [.a (.sl (.v 17) (.v 18) (.v 19)),.a (.int .i64 (.i 0))]) [(.a 0,.prop 21),(.a 17,.prop 20)])))))))))))
theorem tree_cUnwrap:tree Tryz.prog { } Tryz.f84 [.a (.sl (.v 0) (.v 1) (.v 2))] [(.a 0,.prop 3)] 4=t_cUnwrap:=by kernel_rfl
def t_grow8:T :=
(.br (.o2 .lt (.v 4) (.i 0))
(.op (.makeInterface 9 (.const (.string ⟨#[99,97,110,110,111,116,32,98,101,32,110,101,103,97,116,105,118,101]⟩))) 20 [] [] [.v,.p] (.w (.a (.val 5))) [(.a 5,.prop 6)]
(.op (.panic (.tmp 7)) 0 [(7,.w (.a (.val 5)))] [(.a 5,.prop 6)] [.p] (.tup []) [(.a 5,.prop 7)]
(.need (.o1 (.inr .i64) (.o2 .sub (.o1 .ofNat (.v 2)) (.o1 .ofNat (.v 1))))
(.need (.o1 (.inr .i64) (.o2 .sub (.v 4) (.o2 .sub (.o1 .ofNat (.v 2)) (.o1 .ofNat (.v 1)))))
(.br (.o2 .lt (.i 0) (.o2 .sub (.v 4) (.o2 .sub (.o1 .ofNat (.v 2)) (.o1 .ofNat (.v 1)))))
(.read (.slice 28 (.tmp 17) none (some (.tmp 19)) none) 28 [(17,.w (.a (.sl (.v 0) (.v 1) (.v 2)))),(19,.w (.a (.int .i64 (.o1 .ofNat (.v 2)))))] [(.a 0,.prop 3)] [.a,.n,.n] (.w (.a (.sl (.v 8) (.v 9) (.v 10))))
(.op (.call ⟨.builtin .append,#[.tmp 20,.tmp 21],#[28,3]⟩) 28 [(20,.w (.a (.sl (.v 8) (.v 9) (.v 10)))),(21,.w (.a (.int .i64 (.o2 .sub (.v 4) (.o2 .sub (.o1 .ofNat (.v 2)) (.o1 .ofNat (.v 1)))))))] [(.a 0,.prop 3)] [.a,.n,.n,.p,.p] (.w (.a (.sl (.v 11) (.v 12) (.v 13)))) [(.a 11,.prop 14),(.a 0,.prop 15)]
(.read (.slice 28 (.tmp 22) none (some (.tmp 24)) none) 28 [(22,.w (.a (.sl (.v 11) (.v 12) (.v 13)))),(24,.w (.a (.int .i64 (.o1 .ofNat (.v 1)))))] [(.a 11,.prop 14)] [.a,.n,.n] (.w (.a (.sl (.v 16) (.v 17) (.v 18))))
(.ret (.w (.a (.sl (.v 16) (.v 17) (.v 18)))) [(.a 0,.prop 15),(.a 11,.prop 14)]))))
(.ret (.w (.a (.sl (.v 0) (.v 1) (.v 2)))) [(.a 0,.prop 3)]))))))
(.need (.o1 (.inr .i64) (.o2 .sub (.o1 .ofNat (.v 2)) (.o1 .ofNat (.v 1))))
(.need (.o1 (.inr .i64) (.o2 .sub (.v 4) (.o2 .sub (.o1 .ofNat (.v 2)) (.o1 .ofNat (.v 1)))))
(.br (.o2 .lt (.i 0) (.o2 .sub (.v 4) (.o2 .sub (.o1 .ofNat (.v 2)) (.o1 .ofNat (.v 1)))))
(.read (.slice 28 (.tmp 17) none (some (.tmp 19)) none) 28 [(17,.w (.a (.sl (.v 0) (.v 1) (.v 2)))),(19,.w (.a (.int .i64 (.o1 .ofNat (.v 2)))))] [(.a 0,.prop 3)] [.a,.n,.n] (.w (.a (.sl (.v 5) (.v 6) (.v 7))))
(.op (.call ⟨.builtin .append,#[.tmp 20,.tmp 21],#[28,3]⟩) 28 [(20,.w (.a (.sl (.v 5) (.v 6) (.v 7)))),(21,.w (.a (.int .i64 (.o2 .sub (.v 4) (.o2 .sub (.o1 .ofNat (.v 2)) (.o1 .ofNat (.v 1)))))))] [(.a 0,.prop 3)] [.a,.n,.n,.p,.p] (.w (.a (.sl (.v 8) (.v 9) (.v 10)))) [(.a 8,.prop 11),(.a 0,.prop 12)]
(.read (.slice 28 (.tmp 22) none (some (.tmp 24)) none) 28 [(22,.w (.a (.sl (.v 8) (.v 9) (.v 10)))),(24,.w (.a (.int .i64 (.o1 .ofNat (.v 1)))))] [(.a 8,.prop 11)] [.a,.n,.n] (.w (.a (.sl (.v 13) (.v 14) (.v 15))))
(.ret (.w (.a (.sl (.v 13) (.v 14) (.v 15)))) [(.a 0,.prop 12),(.a 8,.prop 11)]))))
(.ret (.w (.a (.sl (.v 0) (.v 1) (.v 2)))) [(.a 0,.prop 3)])))))
theorem tree_grow8:tree Tryz.prog { opn:=true } Tryz.f201 [.a (.sl (.v 0) (.v 1) (.v 2)),.a (.int .i64 (.v 4))] [(.a 0,.prop 3)] 5=t_grow8:=by kernel_rfl
end Go.Proofs.YtdieogcemmnaaaaGreatDoor.RX

namespace Go.Proofs.YtdieogcemmnaaaaGreatDoor
set_option linter.unusedSimpArgs false
set_option linter.unusedVariables false
open Go.Proofs.YtdieogcemmnaaaaGreatDoor RX
set_option maxRecDepth 100000
def nib (s:Nat):Nat:=(s / 16) ^^^ (fours[s % 16]?.getD 0)
def nibs:Nat → Nat → Nat | 0,y=>y | k + 1,y=>nibs k (nib y)
def crcB (s:Nat) (b:UInt8):Nat:=nib (nib (s ^^^ b.toNat))
def crcS (s:Nat) (l:List UInt8):Nat:=l.foldl crcB s
def moreS (s:Nat) (l:List UInt8):Nat:=4294967295 ^^^ crcS (4294967295 ^^^ s) l
def sumS (l:List UInt8):Nat:=moreS 0 l
theorem xor32 {a b:Nat} (ha:a < 4294967296) (hb:b < 4294967296):a ^^^ b < 4294967296:=Nat.xor_lt_two_pow (n:=32) ha hb
theorem fours_lt (k:Nat):fours[k]?.getD 0 < 4294967296:=by
 by_cases h:k < 16
 ·have : ∀ k < 16,fours[k]?.getD 0 < 4294967296:=by decide
  exact this k h
 ·rw [List.getElem?_eq_none (by show 16 ≤ k; omega)]; decide
theorem nib_lt {s:Nat} (h:s < 4294967296):nib s < 4294967296:=xor32 (by omega) (fours_lt _)
theorem crcB_lt {s:Nat} (h:s < 4294967296) (b:UInt8):crcB s b < 4294967296:=nib_lt (nib_lt (xor32 h (by have:=b.toNat_lt; omega)))
theorem crcS_lt {s:Nat} (h:s < 4294967296) : ∀ l:List UInt8,crcS s l < 4294967296:=fun l=>by
 induction l generalizing s with
 | nil=>exact h
 | cons b l ih=>exact ih (crcB_lt h b)
theorem moreS_lt {s:Nat} (h:s < 4294967296) (l:List UInt8):moreS s l < 4294967296:=xor32 (by decide) (crcS_lt (xor32 (by decide) h) l)
theorem crcS_snoc (s:Nat) (l:List UInt8) (b:UInt8):crcS s (l ++ [b])=crcB (crcS s l) b:=by simp [crcS]
theorem wrap32 {x:Nat} (h:x < 4294967296):IntKind.u32.wrap (x:Int)=x:=wrap_in ⟨by simp [IntKind.min,IntKind.signed],by simp [IntKind.max,IntKind.signed,IntKind.bits]; omega⟩
theorem bxor32 {a b:Nat} (ha:a < 4294967296) (hb:b < 4294967296):bits .xor .u32 (a:Int) (b:Int)=((a ^^^ b:Nat):Int):=by
 have e:bits .xor .u32 (a:Int) (b:Int)=IntKind.u32.wrap ((BitVec.ofInt 32 (a:Int) ^^^ BitVec.ofInt 32 (b:Int)).toNat:Int):=rfl
 rw [e,BitVec.ofInt_natCast,BitVec.ofInt_natCast,BitVec.toNat_xor,BitVec.toNat_ofNat,BitVec.toNat_ofNat,Nat.mod_eq_of_lt ha,Nat.mod_eq_of_lt hb]
 exact wrap32 (xor32 ha hb)
theorem band32 {a:Nat} (ha:a < 4294967296):bits .and .u32 (a:Int) 15=((a % 16:Nat):Int):=by
 have e:bits .and .u32 (a:Int) ((15:Nat):Int)=IntKind.u32.wrap ((BitVec.ofInt 32 (a:Int) &&& BitVec.ofInt 32 ((15:Nat):Int)).toNat:Int):=rfl
 have e2:(((15:Nat):Int))=15:=rfl
 rw [← e2,e,BitVec.ofInt_natCast,BitVec.ofInt_natCast,BitVec.toNat_and,BitVec.toNat_ofNat,BitVec.toNat_ofNat,Nat.mod_eq_of_lt ha,Nat.mod_eq_of_lt (by decide),show (15:Nat)=2 ^ 4 - 1 by decide,Nat.and_two_pow_sub_one_eq_mod]
 exact wrap32 (by omega)
theorem shr32 (a:Nat):((a:Int).fdiv (2 ^ (min (4:Int).toNat IntKind.u32.bits)))=((a / 16:Nat):Int):=by
 rw [show min (4:Int).toNat IntKind.u32.bits=4 by decide,Int.fdiv_eq_ediv_of_nonneg _ (by decide)]
 simp
def u32v (x:Nat):Value := .int .u32 x
theorem fours_rd (A:HP):Rd A (some ⟨0,0,none⟩) (fours.map u32v):=fun w R h F s _ j u hj=>by
 obtain ⟨cur,ty,fr,e,hc⟩:=s.gl
 refine ⟨_,0,rfl,?_⟩
 rw [cell_at (s.oR _ _ e),Nat.zero_add]
 rw [List.getElem?_map] at hj
 cases hf:fours[j]? with
 | none=>rw [hf] at hj; cases hj
 | some x=>rw [hf] at hj; cases hj; exact hc j x hf
theorem cpl_ok {s:Nat} (hs:s < 4294967296) {i:Nat} {t ty:TypeId} (A:HP) :
  OTri Tryz.prog (semW (.unOp .xor t (.tmp i)) ty [(i,.int .u32 (s:Int))]) A (fun v=>HP.and (v = .int .u32 ((4294967295 ^^^ s:Nat):Int)) A):=fun w R h F st H=>by
 refine ⟨.value (.int .u32 ((4294967295 ^^^ s:Nat):Int)),_,w,?_,rfl,Same.refl w,R,h,PH.le.refl _,st,rfl,H⟩
 have e:bits .xor .u32 ((4294967295:Nat):Int) (s:Int)=((4294967295 ^^^ s:Nat):Int):=bxor32 (by decide) hs
 have e2:(if IntKind.u32.signed=true then -1 else IntKind.u32.max)=((4294967295:Nat):Int):=by decide
 simp only [semW,execOp,arW,List.find?_cons,beq_self_eq_true,Option.map_some,Option.getD_some,unary_xor,e2,intBits_xor,e]
 rfl
theorem undF:Tryz.prog.underlying 316=some (.array 16 243):=by kernel_rfl
theorem inf32:(Tryz.prog.info? 243).isSome=true:=by kernel_rfl
theorem sz32:szT Tryz.prog 243=1:=by kernel_rfl
theorem und32:Tryz.prog.underlying 243=some (.int .u32):=by kernel_rfl
theorem agg32:aggT Tryz.prog 243=false:=by kernel_rfl
theorem fours_ix {A:HP} {t:Nat} {ty:TypeId} {k:Nat} (hk:k < 16) :
  ORead Tryz.prog (semW (.indexAddr 316 (.global 0) (.tmp t)) ty [(t,.int .u32 (k:Int))]) A (.pointer (some ⟨0,k,none⟩)):=fun w R h F s _=>by
 obtain ⟨i,hi⟩:=Option.isSome_iff_exists.1 inf32
 simp only [semW,execOp,arW,List.find?_cons,beq_self_eq_true,Option.map_some,Option.getD_some]
 rw [Sem.run_bind,RX.run_indexAt_array undF hi (by omega) (by omega),sz32]
 simp [addr_add]
theorem fours_ld {A:HP} {k:Nat} (hk:k < 16):ORead Tryz.prog (loadS 243 (.pointer (some ⟨0,k,none⟩))) A (.int .u32 ((fours[k]?.getD 0:Nat):Int)):=by
 have hx:(fours.map u32v)[k]? = some (.int .u32 ((fours[k]?.getD 0:Nat):Int)):=by
  rw [List.getElem?_map]
  cases h:fours[k]? with
  | none=>rw [List.getElem?_eq_none_iff] at h; exact absurd h (by show ¬ 16 ≤ k; omega)
  | some x=>rfl
 have:=load1_ok und32 agg32 sz32 (fours_rd A) (k:=k) (off:=0) (by simpa using hx)
 simpa [addr_add] using this
theorem more_ok (s:Nat) (hs:s < 4294967296) (a:Option Addr) (n c:Nat) (l:List UInt8) (S:HP) (hr:RdL S a n (l.map u8v)) (hl:l.length=n) (ha:n ≠ 0 → a.isSome=true) (hb:n ≤ 140737488355328) :
  Tri Tryz.prog 200 #[.int .u32 s,.slice a n c] S (fun v=>HP.and (v = .int .u32 ((moreS s l:Nat):Int)) S):=by
 refine tri_of_tree (ρ:=[.i s,.a a,.n n,.n c,.p S]) mixed Tryz.func200 tree_cMore ?_
 unfold t_cMore
 simp only [T.den,E.prop,E.den,RX.look,F1.app,F2.app,Uni.int_i,Uni.nat_n,Uni.bool_c,Uni.str_s,Uni.adr_a,Uni.val_v,Uni.hp_p,hden,cden,V.den,W.den,A.den,BR.den,SA.den,FV.den,capV,exs,exP,allP,Cur.app,List.map_cons,List.map_nil,List.cons_append,List.nil_append,List.drop_succ_cons,List.drop_zero,List.length_cons,List.length_nil,Nat.zero_add,Nat.reduceAdd,Int.neg_neg,Bool.not_not,List.append_nil,Nat.add_zero,List.getElem?_cons_zero,List.getElem?_cons_succ,Decidable.not_not,semW_eq,semW_load,ne_eq,Nat.reduceEqDiff,not_false_eq_true]
 refine (cpl_ok hs _).weak (fun _ _ h=>h) ?_
 rintro v R h ⟨rfl,H⟩
 refine ⟨_,rfl,?_,H⟩
 have h0:4294967295 ^^^ s < 4294967296:=xor32 (by decide) hs
 refine ⟨fun x k => ∃ j:Nat,k=j ∧ j ≤ n ∧ x=((crcS (4294967295 ^^^ s) (l.take j):Nat):Int),fun _ k=>n - k.toNat,⟨0,rfl,Nat.zero_le _,rfl⟩,?_⟩
 rintro x k ⟨j,rfl,hj,rfl⟩
 have hc:=crcS_lt h0 (l.take j)
 refine ⟨fun hlt => ?_,fun hge => ?_⟩
 ·have hlt':j < l.length:=by omega
  refine ⟨by omega,fun _=>⟨ha (by omega),fun _=>⟨(l[j].toNat:Int),?_,?_⟩⟩⟩
  ·exact load1_ok und8b agg8 sz8 hr.rd (k:=(j:Int).toNat * 1) (off:=0) (v:=u8v l[j]) (by simp [List.getElem?_eq_getElem hlt'])
  ·have hb8:=l[j].toNat_lt
   refine ⟨⟨by simp [IntKind.min,IntKind.signed],by simp [IntKind.max,IntKind.signed,IntKind.bits]; omega⟩,fun _ => ?_⟩
   rw [bxor32 hc (by omega)]
   have hx0:crcS (4294967295 ^^^ s) (l.take j) ^^^ l[j].toNat < 4294967296:=xor32 hc (by omega)
   refine ⟨fun x k => ∃ i:Nat,k=i ∧ i ≤ 2 ∧ ∃ y:Nat,x=(y:Int) ∧ y < 4294967296 ∧ nibs (2 - i) y=crcB (crcS (4294967295 ^^^ s) (l.take j)) l[j],fun _ k=>2 - k.toNat,⟨0,rfl,by omega,_,rfl,hx0,rfl⟩,?_⟩
   rintro x k ⟨i,rfl,hi,y,rfl,hy,hn⟩
   refine ⟨fun h2 => ?_,fun h2 => ?_⟩
   ·have hk:y % 16 < 16:=by omega
    refine ⟨.pointer (some ⟨0,y % 16,none⟩),?_,((fours[y % 16]?.getD 0:Nat):Int),?_,inI64 _ (by omega) (by omega),fun _ => ?_⟩
    ·rw [band32 hy]; exact fours_ix hk
    ·exact fours_ld hk
    ·rw [shr32,bxor32 (by omega) (fours_lt _)]
     refine ⟨⟨i + 1,by omega,by omega,_,rfl,nib_lt hy,?_⟩,by dsimp only; omega⟩
     rw [← hn,show 2 - i=(2 - (i + 1)) + 1 by omega]; rfl
   ·obtain rfl:i=2:=by omega
    refine ⟨inI64 _ (by omega) (by omega),fun _=>⟨⟨j + 1,by omega,by omega,?_⟩,by dsimp only; omega⟩⟩
    rw [List.take_succ_eq_append_getElem hlt',crcS_snoc,← hn]; rfl
 ·obtain rfl:j=l.length:=by omega
  rw [List.take_length] at hc ⊢
  refine (cpl_ok hc _).weak (fun _ _ h=>h) ?_
  rintro v R h ⟨rfl,H⟩
  exact ⟨_,rfl,.of fun R h H=>⟨rfl,H⟩,H⟩
theorem sum_ok (a:Option Addr) (n c:Nat) (l:List UInt8) (S:HP) (hr:RdL S a n (l.map u8v)) (hl:l.length=n) (ha:n ≠ 0 → a.isSome=true) (hb:n ≤ 140737488355328) :
  Tri Tryz.prog 151 #[.slice a n c] S (fun v=>HP.and (v = .int .u32 ((sumS l:Nat):Int)) S):=by
 refine tri_of_tree (ρ:=[.a a,.n n,.n c,.p S]) mixed Tryz.func151 tree_cSum ?_
 unfold t_cSum
 simp only [T.den,E.prop,E.den,RX.look,F1.app,F2.app,Uni.int_i,Uni.nat_n,Uni.bool_c,Uni.str_s,Uni.adr_a,Uni.val_v,Uni.hp_p,hden,cden,V.den,W.den,A.den,BR.den,SA.den,FV.den,capV,exs,exP,allP,Cur.app,List.map_cons,List.map_nil,List.cons_append,List.nil_append,List.drop_succ_cons,List.drop_zero,List.length_cons,List.length_nil,Nat.zero_add,Nat.reduceAdd,Int.neg_neg,Bool.not_not,List.append_nil,Nat.add_zero,List.getElem?_cons_zero,List.getElem?_cons_succ,Decidable.not_not,semW_eq,ne_eq,Nat.reduceEqDiff,not_false_eq_true]
 refine (more_ok 0 (by decide) a n c l S hr hl ha hb).weak (fun _ _ h=>h) ?_
 rintro v R h ⟨rfl,H⟩
 exact ⟨_,S,rfl,.of fun R h H=>⟨rfl,H⟩,H⟩
end Go.Proofs.YtdieogcemmnaaaaGreatDoor

namespace Go.Proofs.YtdieogcemmnaaaaGreatDoor
def sepN:List HP → HP
 | []=>HP.tt
 | [x]=>x
 | x :: y :: r=>HP.sep x (sepN (y :: r))
theorem sepN_cons {x:HP} {r:List HP} {R h:PH}:(sepN (x :: r)).p R h ↔ (HP.sep x (sepN r)).p R h:=by
 cases r with
 | nil=>exact ⟨fun H=>HP.sep_tt H,fun H=>HP.sep_left H⟩
 | cons y q=>exact Iff.rfl
theorem sepN_perm {l m:List HP} (p:l.Perm m) : ∀ {R h:PH},(sepN l).p R h → (sepN m).p R h:=by
 induction p with
 | nil=>exact fun H=>H
 | cons x _ ih=>exact fun H=>sepN_cons.2 (HP.sep_mono (sepN_cons.1 H) (fun _ h=>h) fun _ h=>ih h)
 | swap x y r =>
  exact fun H=>sepN_cons.2 (HP.sep_mono (HP.swap (HP.sep_mono (sepN_cons.1 H) (fun _ h=>h) fun _ h=>sepN_cons.1 h)) (fun _ h=>h) fun _ h=>sepN_cons.2 h)
 | trans _ _ ih1 ih2=>exact fun H=>ih2 (ih1 H)
theorem sepN_sub (f:Nat → HP) : ∀ (S' S:List Nat) {R h:PH},S'.Nodup → (∀ i ∈ S',i ∈ S) → (sepN (S.map f)).p R h → (sepN (S'.map f)).p R h
 | [],_,_,_,_,_,_=>trivial
 | i :: r,S,R,h,hn,hs,H=>by
  have hp:(S.map f).Perm (f i :: (S.erase i).map f):=((List.perm_cons_erase (hs i (List.mem_cons_self ..))).map f)
  have H1:=sepN_cons.1 (sepN_perm hp H)
  rw [List.nodup_cons] at hn
  exact sepN_cons.2 (HP.sep_mono H1 (fun _ h=>h) fun _ h=>sepN_sub f r (S.erase i) hn.2 (fun j hj=>(List.mem_erase_of_ne (fun e=>hn.1 (by rw [← e]; exact hj))).2 (hs j (List.mem_cons_of_mem _ hj))) h)
theorem HP.pick (l:List HP) (idx:List Nat) (hn:idx.Nodup) (hb:idx.all (fun i=>decide (i < l.length))=true) {R h:PH} (H:(sepN l).p R h):(sepN (idx.map fun i=>l.getD i HP.tt)).p R h:=by
 refine sepN_sub (fun i=>l.getD i HP.tt) idx (List.range l.length) hn (fun i hi=>List.mem_range.2 (by simpa using List.all_eq_true.1 hb i hi)) ?_
 have e:(List.range l.length).map (fun i=>l.getD i HP.tt)=l:=by
  apply List.ext_getElem
  ·simp
  ·intro i h1 h2
   simp at h1
   simp [h1]
 rw [e]; exact H
theorem sepN_app {l m:List HP} {R h:PH}:(sepN (l ++ m)).p R h ↔ (HP.sep (sepN l) (sepN m)).p R h:=by
 induction l generalizing h with
 | nil=>exact ⟨fun H=>HP.tt_sep H,fun H=>HP.sep_right H⟩
 | cons x r ih =>
  rw [List.cons_append,sepN_cons]
  constructor
  ·intro H
   exact HP.sep_mono (HP.sep_assoc' (HP.sep_mono H (fun _ h=>h) fun _ h=>ih.1 h)) (fun _ h=>sepN_cons.2 h) fun _ h=>h
  ·intro H
   exact HP.sep_mono (HP.sep_assoc (HP.sep_mono H (fun _ h=>sepN_cons.1 h) fun _ h=>h)) (fun _ h=>h) fun _ h=>ih.2 h
end Go.Proofs.YtdieogcemmnaaaaGreatDoor

namespace Go.Proofs.YtdieogcemmnaaaaGreatDoor
open Go.Proofs.YtdieogcemmnaaaaGreatDoor RX
set_option maxRecDepth 100000
def i64v (i:Int):Value := .int .i64 i
theorem i64v_one (l:List Int) : ∀ u ∈ l.map i64v,u.oneCell'=true:=fun u hu=>by
 obtain ⟨b,_,rfl⟩:=List.mem_map.1 hu; rfl
abbrev OwI (a:Option Addr) (n c:Nat) (l:List Int):HP:=OwC 3 1 a n c (l.map i64v)
theorem infoInt:(Tryz.prog.info? 3).map (fun i=>(i.zero,i.size,i.bytes))=some (some (.int .i64 0),1,8):=by kernel_rfl
theorem undI:Tryz.prog.underlying 89=some (.slice 3):=by kernel_rfl
theorem undIb:Tryz.prog.underlying 3=some (.int .i64):=by kernel_rfl
theorem aggI:aggT Tryz.prog 3=false:=by kernel_rfl
theorem szI:szT Tryz.prog 3=1:=by kernel_rfl
theorem appendI (a:Option Addr) (n c:Nat) (l:List Int) (S:HP) (ad:Addr) (m c2:Nat) (q:List Int) (hr:Rd S (some ad) (q.map i64v)) (hm:q.length=m) (hb:n + m ≤ 1000000000) :
  OTri Tryz.prog (appS 89 89 (.slice a n c) (.slice (some ad) m c2)) (HP.sep (OwI a n c l) S)
   (fun v=>HP.ex fun a'=>HP.ex fun c'=>HP.and (v = .slice a' (n + m) c') (HP.sep (OwI a' (n + m) c' (l ++ q)) S)):=by
 obtain ⟨i,hi,h1,h2,h3⟩:=info_parts infoInt
 have:=append_ok 89 89 3 i (.int .i64 0) undI hi h1 (by rw [h2]; rfl) (by omega) a n c (l.map i64v) S ad m c2 (q.map i64v) hr (by simp [hm,h2]) (i64v_one q) (by unfold maxLen; omega) (by rw [h3]; omega)
 rw [h2] at this
 simp only [OwI,List.map_append]
 exact this
theorem conv_ok {ρ:Env} {i:Nat} {x:V} {S:HP} {a:Option Addr} {n c:Nat} {l:List UInt8} (hx:x.den ρ = .slice a n c) (hr:RdL S a n (l.map u8v)) (hl:l.length=n) :
  ORead Tryz.prog (semOf ρ (.convert 28 9 (.tmp i)) 9 [(i,x)]) S (.string ⟨l.toArray⟩):=fun w R h F s hS=>by
 subst hl
 have hc:(convert 28 9 (.slice a l.length c)).run Tryz.prog w = .ok (.string ⟨l.toArray⟩) w:=by
  cases a with
  | none =>
   have h0:l.length=0:=hr.none R h hS rfl
   rw [h0,List.length_eq_zero_iff.1 h0]
   exact Lib.run_convert_nil_bytes w _ _ 5 0 Tryz.underlying28 Tryz.underlying5 Tryz.underlying9
  | some y =>
   refine run_convert_bytes_back w _ _ 5 y c l Tryz.underlying28 Tryz.underlying5 Tryz.underlying9 (fun j hj => ?_)
   obtain ⟨g,off,e1,e2⟩:=hr.rd w R h F s hS j (u8v l[j]) (by simp [hj])
   cases e1
   rw [addr_add,e2]
   rfl
 have:(semOf ρ (.convert 28 9 (.tmp i)) 9 [(i,x)]).run Tryz.prog w = .ok (.value (.string ⟨l.toArray⟩)) w:=by
  simp [semOf,execOp,arEval,hx,Sem.run_bind,hc]
 exact this
theorem storeOne_ok {t:TypeId} {i:TypeInfo} (hi:Tryz.prog.info? t=some i) (e:TypeId) (b:Nat) (cs:Array Value) (off:Nat) (x:Value) (vs:List Value) (hx:x.cells=vs.toArray) (hz:i.size=vs.length) (hp:0 < vs.length) (h1 : ∀ v ∈ vs,v.oneCell'=true) (hk:off + vs.length ≤ cs.size) (hm:1 ≤ maxLen) :
  OTri Tryz.prog (storeS t (.pointer (some ⟨b,off,none⟩)) x) (HP.one b (.cells cs e (0,0))) (fun v=>HP.and (v = .tuple #[]) (HP.one b (.cells (cs.toList.take off ++ vs ++ cs.toList.drop (off + vs.length)).toArray e (0,0)))):=by
 have:=store_ok hi e cs.size (some ⟨b,0,none⟩) 1 1 cs.toList 0 off x vs hx hz hp h1 (by omega)
 simp only [Option.map_some,addr_add,Nat.zero_add] at this
 refine this.weak (fun R h H=>⟨by simp,.inr ⟨b,cs,rfl,H,Nat.le_refl _,hm,by omega,by rw [Nat.one_mul]; exact List.take_of_length_le (by simp)⟩⟩) fun v R h ⟨rfl,hl,H⟩=>⟨rfl,?_⟩
 rcases H with ⟨h0,_⟩ | ⟨g,cur,e1,hg,q1,q2,q3,q4⟩
 ·cases h0
 ·cases e1
  show h b=_
  rw [hg]
  have:cur.toList=cs.toList.take off ++ vs ++ cs.toList.drop (off + vs.length):=by
   rw [← q4,List.take_of_length_le (by rw [Array.length_toList,q3]; omega)]
  rw [← this]
theorem perm_focus {α:Type} : ∀ (l:List α) (k:Nat) (x:α),l[k]? = some x → (x :: l.eraseIdx k).Perm l
 | y :: l,0,x,h=>by simp at h; subst h; exact List.Perm.refl _
 | y :: l,k + 1,x,h=>by
  have:=perm_focus l k x (by simpa using h)
  exact (List.Perm.swap y x _).trans (this.cons y)
 | [],_,_,h=>by simp at h
theorem sepN_focus {l:List HP} {k:Nat} {x:HP} (hk:l[k]? = some x) {R h:PH} (H:(sepN l).p R h):(HP.sep x (sepN (l.eraseIdx k))).p R h :=
 sepN_cons.1 (sepN_perm (perm_focus l k x hk).symm H)
theorem sepN_unfocus {l:List HP} {k:Nat} {x:HP} (hk:k < l.length) {R h:PH} (H:(HP.sep x (sepN (l.eraseIdx k))).p R h):(sepN (l.set k x)).p R h:=by
 have:=perm_focus (l.set k x) k x (by simp [hk])
 rw [List.eraseIdx_set_eq] at this
 exact sepN_perm this (sepN_cons.2 H)
theorem OTri.ofRead {P:Program} {s:Sem Next} {A:HP} {B:Value → HP} {v:Value} (r:ORead P s A v) (post : ∀ R h,A.p R h → (B v).p R h):OTri P s A B:=fun w R h F st a=>⟨.value v,v,w,r w R h F st a,rfl,Same.refl w,R,h,PH.le.refl _,st,post R h a⟩
theorem OTri.exI {o:Sem Next} {α:Type} {A:α → HP} {B:Value → HP} (t : ∀ x,OTri Tryz.prog o (A x) B):OTri Tryz.prog o (HP.ex A) B:=fun w R h F s ⟨x,a⟩=>t x w R h F s a
theorem OTri.pureI {o:Sem Next} {A:HP} {B:Value → HP} {φ:Prop} (t:φ → OTri Tryz.prog o A B):OTri Tryz.prog o (HP.and φ A) B:=fun w R h F s a=>t a.1 w R h F s a.2
end Go.Proofs.YtdieogcemmnaaaaGreatDoor

namespace Go.Proofs.YtdieogcemmnaaaaGreatDoor
set_option linter.unusedSimpArgs false
set_option linter.unusedVariables false
open Go.Proofs.YtdieogcemmnaaaaGreatDoor RX
set_option maxRecDepth 100000
def apzS (ts:Array TypeId) (ty:TypeId) (u v:Value):Sem Next:=do pure (.value (← Builtin.append_ ts ty #[u,v]))
theorem semW_apz {ts:Array TypeId} {ty:TypeId} {i j:Nat} {u v:Value} (h:i ≠ j):semW (.call ⟨.builtin .append,#[.tmp i,.tmp j],ts⟩) ty [(i,u),(j,v)]=apzS ts ty u v:=by
 have h':(i == j)=false:=by simpa using h
 simp [semW,execOp,resolve,arW,invoke,builtin,h',apzS]
theorem info8i:Tryz.prog.info? 5=some (Tryz.prog.info? 5).get! := by kernel_rfl
theorem undInt':Tryz.prog.underlying 3=some (.int .i64):=by kernel_rfl
theorem zc_len (z:Value) (n:Nat):(Builtin.zeroCells #[z] n).toList.length=n:=by simp [Builtin.zeroCells]
theorem zc_size (z:Value) (n:Nat):(Builtin.zeroCells #[z] n).size=n:=by simp [Builtin.zeroCells]
theorem zc_rep (z:Value) (n:Nat):(Builtin.zeroCells #[z] n).toList=List.replicate n z:=by
 refine List.ext_getElem (by simp [Builtin.zeroCells]) fun i h1 h2 => ?_
 simp [Builtin.zeroCells,Nat.mod_one]
theorem apz_ok {ty:TypeId} (m:Nat) (h0:0 < m) (hb:m ≤ 140737488355328) (A:HP) :
  OTri Tryz.prog (apzS #[28,3] ty (.slice none 0 0) (.int .i64 (m:Int))) A
   (fun v=>HP.ex fun x=>HP.ex fun c=>HP.and (v = .slice (some ⟨x,0,none⟩) m c) (HP.sep (OwB (some ⟨x,0,none⟩) m c (List.replicate m 0)) A)):=fun w R h F s a=>by
 obtain ⟨i,hi,h1,h2,h3⟩:=info_parts info8
 have hr:=Lib.run_append_nil_zeros (P:=Tryz.prog) w 28 3 ty 5 i (.int .u8 0) .i64 .i64 und8 undInt' hi h1 m h0 (by omega) (by omega) (by rw [h3]; omega)
 have s0:Sat w.drew R h F:=s.drew _
 obtain ⟨s1,d1⟩:=s0.alloc (.cells (Builtin.zeroCells (Value.int .u8 0).cells m ++ Builtin.zeroCells (Value.int .u8 0).cells (grownCap w m 0 5 - m)) 5 (0,0))
 have hc1:=grownCap_ge w m 0 5
 have hsame:Same w (w.drew.alloc (.cells (Builtin.zeroCells (Value.int .u8 0).cells m ++ Builtin.zeroCells (Value.int .u8 0).cells (grownCap w m 0 5 - m)) 5 (0,0))):=Same.trans (b:=w.drew) ⟨rfl,rfl,rfl,Nat.le_refl _⟩ (Same.alloc w.drew _)
 refine ⟨_,_,_,by unfold apzS; rw [Sem.run_bind,hr]; rfl,rfl,hsame,R,_,PH.le.refl _,s1,w.heap.size,_,rfl,_,_,d1,PH.un_left _ _,PH.un_right d1,⟨by simp,.inr ⟨_,_,rfl,PH.one_self _ _,hc1,grownCap_le_maxLen _ _ _ _ (by unfold maxLen; omega),?_,?_⟩⟩,a⟩
 ·rw [show (Value.int .u8 0).cells = #[.int .u8 0] from rfl,Array.size_append,zc_size,zc_size]; omega
 ·rw [show (Value.int .u8 0).cells = #[.int .u8 0] from rfl,Array.toList_append,Nat.mul_one,List.take_left' (zc_len _ _),zc_rep,List.map_replicate]; rfl
theorem grow8_ok (m:Nat) (hb:m ≤ 140737488355328) :
  Tri Tryz.prog 201 #[.slice none 0 0,.int .i64 (m:Int)] HP.tt (fun v=>HP.ex fun a=>HP.ex fun c=>HP.and (v = .slice a 0 c) (OwB a 0 c [])):=by
 refine tri_of_tree (ρ:=[.a none,.n 0,.n 0,.p HP.tt,.i m]) mixed Tryz.func201 tree_grow8 ?_
 unfold t_grow8
 simp only [T.den,E.prop,E.den,RX.look,F1.app,F2.app,Uni.int_i,Uni.nat_n,Uni.bool_c,Uni.str_s,Uni.adr_a,Uni.val_v,Uni.hp_p,hden,cden,V.den,W.den,A.den,BR.den,SA.den,FV.den,capV,exs,exP,allP,Cur.app,List.map_cons,List.map_nil,List.cons_append,List.nil_append,List.drop_succ_cons,List.drop_zero,List.length_cons,List.length_nil,Nat.zero_add,Nat.reduceAdd,Int.neg_neg,Bool.not_not,List.append_nil,Nat.add_zero,List.getElem?_cons_zero,List.getElem?_cons_succ,Decidable.not_not,semW_eq,semW_append,ne_eq,Nat.reduceEqDiff,not_false_eq_true]
 refine ⟨fun h=>absurd h (by omega),fun _=>⟨inI64 _ (by omega) (by omega),fun _=>⟨inI64 _ (by omega) (by omega),fun _=>⟨fun hm => ?_,fun hm => ?_⟩⟩⟩⟩
 ·refine ⟨none,0,0,?_,?_⟩
  ·rw [semW_slice]; exact slice_ok und8 info8i HP.tt none 0 0 none (some 0) none (Nat.le_refl _) (Nat.le_refl _) (Nat.le_refl _) (fun h=>by cases h)
  ·rw [semW_apz (by decide),show ((m:Int) - ((0:Nat) - (0:Nat):Int))=(m:Int) by omega]
   refine (apz_ok m (by omega) hb HP.tt).weak (fun _ _ h=>h) ?_
   rintro v R h ⟨x,c,rfl,H⟩
   have hle:=OwC.le (HP.sep_left H)
   refine ⟨some ⟨x,0,none⟩,m,c,OwB (some ⟨x,0,none⟩) m c (List.replicate m 0),HP.tt,rfl,⟨some ⟨x,0,none⟩,0,c,?_,?_⟩,H⟩
   ·rw [semW_slice]
    have h2:ORead Tryz.prog (sliceS 28 (.slice (some ⟨x,0,none⟩) m c) (iv none) (iv (some 0)) (iv none)) (OwB (some ⟨x,0,none⟩) m c (List.replicate m 0)) (.slice (some ⟨x,0,none⟩) 0 c):=by
     simpa [addr_add] using slice_ok und8 info8i (OwB (some ⟨x,0,none⟩) m c (List.replicate m 0)) (some ⟨x,0,none⟩) m c none (some 0) none (Nat.le_refl _) (Nat.zero_le _) (Nat.le_refl _) (fun h=>by cases h)
    exact h2
   ·refine .of fun R h H=>⟨some ⟨x,0,none⟩,c,rfl,?_⟩
    obtain ⟨hl,h'⟩:=HP.sep_right H
    rcases h' with ⟨e,_⟩ | ⟨g,cur,e,hg,q1,q2,q3,q4⟩
    ·cases e
    ·exact ⟨by simp,.inr ⟨g,cur,e,hg,Nat.zero_le _,q2,q3,by simp⟩⟩
 ·exact .of fun R h H=>⟨none,0,rfl,OwC.nil _ _ R h⟩
def wrapS (l:List UInt8):List UInt8:=l ++ beN (sumS l) 4
def unwrapS (l:List UInt8):Option (List UInt8):=if l.length < 4 then none else if beV (l.drop (l.length - 4))=sumS (l.take (l.length - 4)) then some (l.take (l.length - 4)) else none
theorem wrapS_len (l:List UInt8):(wrapS l).length=l.length + 4:=by simp [wrapS,beN_len]
theorem sumS_lt (l:List UInt8):sumS l < 4294967296:=moreS_lt (by decide) l
theorem RdL.subs {S:HP} {a:Option Addr} {n:Nat} {xs:List Value} (r:RdL S a n xs) (o k:Nat) (hk:o + k ≤ n) (z:Prop) [Decidable z] (hz:z → k=0):RdL S (if z then a else a.map fun x=>x.add o) k ((xs.drop o).take k) where
 rd w R h F s H j u hj:=by
  rw [List.getElem?_take] at hj
  split at hj
  ·rename_i hjk
   rw [List.getElem?_drop] at hj
   obtain ⟨g,off,rfl,hc⟩:=r.rd w R h F s H (o + j) u hj
   rw [if_neg (fun h=>by have:=hz h; omega)]
   refine ⟨g,off + o,by rw [Option.map_some,RX.addr_add],?_⟩
   rw [Nat.add_assoc]; exact hc
  ·cases hj
 none R h H e:=by
  split at e
  ·exact hz ‹_›
  ·have:=r.none R h H (by simpa using e); omega
theorem unwrap_ok (a:Option Addr) (n c:Nat) (l:List UInt8) (S:HP) (hr:RdL S a n (l.map u8v)) (hl:l.length=n) (hc:n ≤ c) (ha:n ≠ 0 → a.isSome=true) (hb:n ≤ 140737488355000) :
  Tri Tryz.prog 84 #[.slice a n c] S (fun v=>HP.ex fun a'=>HP.ex fun c'=>HP.and (v = .tuple #[.slice a' ((unwrapS l).getD []).length c',.int .i64 (if (unwrapS l).isSome then 0 else 3)])
   (HP.sep S (OwB a' ((unwrapS l).getD []).length c' ((unwrapS l).getD [])))):=by
 refine tri_of_tree (ρ:=[.a a,.n n,.n c,.p S]) mixed Tryz.func84 tree_cUnwrap ?_
 unfold t_cUnwrap
 simp only [T.den,E.prop,E.den,RX.look,F1.app,F2.app,Uni.int_i,Uni.nat_n,Uni.bool_c,Uni.str_s,Uni.adr_a,Uni.val_v,Uni.hp_p,hden,cden,V.den,W.den,A.den,BR.den,SA.den,FV.den,capV,exs,exP,allP,Cur.app,List.map_cons,List.map_nil,List.cons_append,List.nil_append,List.drop_succ_cons,List.drop_zero,List.length_cons,List.length_nil,Nat.zero_add,Nat.reduceAdd,Int.neg_neg,Bool.not_not,List.append_nil,Nat.add_zero,List.getElem?_cons_zero,List.getElem?_cons_succ,Decidable.not_not,semW_eq,ne_eq,Nat.reduceEqDiff,not_false_eq_true]
 subst hl
 have bad : ∀ R h,unwrapS l=none → S.p R h → (HP.ex fun a'=>HP.ex fun c'=>HP.and (Value.tuple #[.slice none 0 0,.int .i64 3] = .tuple #[.slice a' ((unwrapS l).getD []).length c',.int .i64 (if (unwrapS l).isSome then 0 else 3)])
   (HP.sep S (OwB a' ((unwrapS l).getD []).length c' ((unwrapS l).getD [])))).p R h:=fun R h e H=>by
  rw [e]; exact ⟨none,0,rfl,HP.sep_comm (HP.sep_mono (HP.tt_sep H) (fun y _=>OwC.nil _ _ R y) fun _ h=>h)⟩
 refine ⟨inI64 _ (by omega) (by omega),fun _=>⟨fun h4 => ?_,fun h4 => ?_⟩⟩
 ·exact .of fun R h H=>bad R h (by unfold unwrapS; rw [if_pos (by omega)]) H
 ·obtain ⟨m,hm⟩ : ∃ m,l.length=m + 4:=⟨l.length - 4,by omega⟩
  have em:((l.length:Int) - 4)=(m:Nat):=by omega
  rw [em]
  have r1:RdL S (if m=0 then a else a.map fun x=>x.add (0 * szT Tryz.prog 5)) m ((l.take m).map u8v):=by
   have:=hr.subs 0 m (by omega) (m=0) (fun h=>h)
   rw [Nat.zero_mul,List.map_take]; simpa using this
  have r2:RdL S (if c=m then a else a.map fun x=>x.add (m * szT Tryz.prog 5)) 4 ((l.drop m).map u8v):=by
   have:=hr.subs m 4 (by omega) (c=m) (fun h=>by omega)
   rw [sz8,Nat.mul_one,List.map_drop]
   rwa [List.take_of_length_le (by simp; omega)] at this
  have hA1:m ≠ 0 → (if m=0 then a else a.map fun x=>x.add (0 * szT Tryz.prog 5)).isSome=true:=fun h=>by
   rw [if_neg h,Option.isSome_map]; exact ha (by omega)
  have lt1:(l.take m).length=m:=by rw [List.length_take]; omega
  have lt2:(l.drop m).length=4:=by rw [List.length_drop]; omega
  refine ⟨(if m=0 then a else a.map fun x=>x.add (0 * szT Tryz.prog 5)),m,m,by rw [semW_slice]; exact slice_ok und8 info8i S a l.length c (some 0) (some m) (some m) (Nat.zero_le _) (Nat.le_refl _) (by show m ≤ c; omega) (fun _=>rfl),(if c=m then a else a.map fun x=>x.add (m * szT Tryz.prog 5)),4,c - m,?_,?_⟩
  ·rw [semW_slice]
   have:=slice_ok und8 info8i S a l.length c (some m) none none (by show m ≤ l.length; omega) (by show l.length ≤ c; omega) (Nat.le_refl _) (fun h=>by cases h)
   have e4:l.length - m=4:=by omega
   simp only [Option.getD_some,Option.getD_none,e4] at this
   exact this
  refine (rRead_ok _ 4 (c - m) (l.drop m) S r2 lt2 (by omega)).weak (fun _ _ h=>h) ?_
  rintro v R h ⟨b,rfl,H⟩
  refine ⟨b,_,S,rfl,?_,HP.sep_comm H⟩
  refine (rNumber_ok b (l.drop m,false) 4 (by omega)).weak (fun _ _ h=>h) ?_
  rintro v R h ⟨rfl,H⟩
  refine ⟨_,_,rfl,?_,H⟩
  refine (sum_ok _ m m (l.take m) S r1 lt1 hA1 (by omega)).weak (fun _ _ h=>h) ?_
  rintro v R h ⟨rfl,H⟩
  have hlt:=sumS_lt (l.take m)
  have hn:(numR (l.drop m,false) 4).1=beV (l.drop m):=by
   unfold numR takeR
   rw [if_neg (by simp),if_neg (by rw [lt2]; omega),List.take_of_length_le (by rw [lt2]; omega)]
  rw [hn]
  have hu:unwrapS l=if beV (l.drop m)=sumS (l.take m) then some (l.take m) else none:=by
   unfold unwrapS
   rw [if_neg (by omega),show l.length - 4=m by omega]
  refine ⟨_,S,rfl,⟨inU64 _ (by omega) (by omega),fun _=>⟨fun hne => ?_,fun he => ?_⟩⟩,H⟩
  ·exact .of fun R h H=>bad R h (by rw [hu,if_neg (by omega)]) H
  ·rw [if_pos (by omega)] at hu
   refine (clone8_ok S _ m m (l.take m) r1 lt1 (by omega)).weak (fun _ _ h=>h) ?_
   rintro v R h ⟨a',c',rfl,H⟩
   refine ⟨a',m,c',OwB a' m c' (l.take m),S,rfl,.of fun R h H => ?_,H⟩
   rw [hu]
   refine ⟨a',c',?_,?_⟩
   ·simp only [Option.getD_some,Option.isSome_some,if_true,lt1]
   ·simp only [Option.getD_some,lt1]; exact H
end Go.Proofs.YtdieogcemmnaaaaGreatDoor

namespace Go.Proofs.YtdieogcemmnaaaaGreatDoor
open Go.Proofs.YtdieogcemmnaaaaGreatDoor RX
def sE (l:List UInt8):Value := .string ⟨l.toArray⟩
theorem bytes_beq (a b:List UInt8):((⟨a.toArray⟩:ByteArray) == ⟨b.toArray⟩)=decide (a=b):=by
 have:((⟨a.toArray⟩:ByteArray) == ⟨b.toArray⟩)=(a.toArray == b.toArray):=rfl
 rw [this]
 by_cases h:a=b
 ·subst h; simp
 ·simp [h]
theorem str_enc {P:Program} {kt:TypeId} (h:P.underlying kt=some .string):KeyEnc P kt sE where
 check em k w:=by
  unfold Instr.checkKey
  simp [run_underlying h,sE]
 find k l w:=by
  unfold Instr.findKey
  have hn : ∀ (l:AL (List UInt8)) (i:Nat),Instr.findNow .string (sE k) (l.map (toE sE)) i=some (alIdx k l i):=by
   intro l
   induction l with
   | nil=>intro i; rfl
   | cons x l ih =>
    intro i
    simp only [List.map_cons,Instr.findNow,toE,sE,Instr.sameNow,alIdx,bytes_beq]
    by_cases e:k=x.1
    ·simp [e]
    ·simp only [decide_eq_false e,if_neg e]
     exact ih (i + 1)
  simp only [Sem.run_bind,run_underlying h,Result.andThen,hn,Sem.run_pure]
 bits k:=by simp [Instr.sameBits,sE,bytes_beq]
end Go.Proofs.YtdieogcemmnaaaaGreatDoor

namespace Go.Proofs
open Go.Shelf
def Tryz.lays137_ren:Go.Shelf.Ren:=⟨fun | 137=>238 | 217=>262 | 266=>272 | n=>n,fun | 9=>9 | 5=>5 | 3=>3 | n=>n,fun | n=>n⟩
theorem Tryz.lays137:Go.Proofs.Lays.n137 Tryz.prog Tryz.lays137_ren:={
 mixed:=by kernel_rfl
 f137:=Tryz.func238.trans (congrArg some (by kernel_rfl))
 f217:=Tryz.func262.trans (congrArg some (by kernel_rfl))
 f266:=Tryz.func272.trans (congrArg some (by kernel_rfl))
 t3:=Tryz.underlying3
 a3:=Tryz.isAgg3
 z3:=Tryz.sizeOf3
 v3:=Tryz.zeroValue3
 t5:=Tryz.underlying5
 a5:=Tryz.isAgg5
 z5:=Tryz.sizeOf5
 v5:=Tryz.zeroValue5
 t9:=Tryz.underlying9
 a9:=Tryz.isAgg9
 z9:=Tryz.sizeOf9
 v9:=Tryz.zeroValue9 }
open Go.RowKit in
theorem Tryz.strings_IndexByte (s:ByteArray) (c:Int) (w:World) :
  Calls Tryz.prog 238 #[.string s,.int .u8 c] w fun e w'=>e = .returned (.int .i64 (Lib.indexByte s.data.toList c.toNat.toUInt8)) ∧ w'=w:=Any.strings_IndexByte Tryz.lays137 s c w
def Tryz.lays143_ren:Go.Shelf.Ren:=⟨fun | 143=>269 | 219=>278 | 217=>262 | 225=>280 | 224=>281 | 267=>282 | 266=>272 | 314=>283 | n=>n,fun | 9=>9 | 3=>3 | 4=>4 | 5=>5 | 46=>283 | 146=>360 | 51=>243 | n=>n,fun | 1=>1 | n=>n⟩
theorem Tryz.lays143:Go.Proofs.Lays.n143 Tryz.prog Tryz.lays143_ren:={
 mixed:=by kernel_rfl
 f143:=Tryz.func269.trans (congrArg some (by kernel_rfl))
 f217:=Tryz.func262.trans (congrArg some (by kernel_rfl))
 f219:=Tryz.func278.trans (congrArg some (by kernel_rfl))
 f224:=Tryz.func281.trans (congrArg some (by kernel_rfl))
 f225:=Tryz.func280.trans (congrArg some (by kernel_rfl))
 f266:=Tryz.func272.trans (congrArg some (by kernel_rfl))
 f267:=Tryz.func282.trans (congrArg some (by kernel_rfl))
 f314:=Tryz.func283.trans (congrArg some (by kernel_rfl))
 t3:=Tryz.underlying3
 a3:=Tryz.isAgg3
 z3:=Tryz.sizeOf3
 v3:=Tryz.zeroValue3
 t4:=Tryz.underlying4
 a4:=Tryz.isAgg4
 z4:=Tryz.sizeOf4
 v4:=Tryz.zeroValue4
 t5:=Tryz.underlying5
 a5:=Tryz.isAgg5
 z5:=Tryz.sizeOf5
 v5:=Tryz.zeroValue5
 t9:=Tryz.underlying9
 a9:=Tryz.isAgg9
 z9:=Tryz.sizeOf9
 v9:=Tryz.zeroValue9
 t46:=Tryz.underlying283
 a46:=Tryz.isAgg283
 z46:=Tryz.sizeOf283
 v46:=Tryz.zeroValue283
 t51:=Tryz.underlying243
 a51:=Tryz.isAgg243
 z51:=Tryz.sizeOf243
 v51:=Tryz.zeroValue243
 t146:=Tryz.underlying360
 a146:=Tryz.isAgg360
 z146:=Tryz.sizeOf360
 v146:=Tryz.zeroValue360
 g1:=by kernel_rfl }
open Go.RowKit Go.Lib in
theorem Tryz.strings_Index_one (s:ByteArray) (c:UInt8) (w:World) :
  Calls Tryz.prog 269 #[.string s,.string ⟨#[c]⟩] w fun e w'=>e = .returned (.int .i64 (Lib.indexByte s.data.toList c)) ∧ w'=w:=Any.strings_Index_one Tryz.lays143 s c w
def Tryz.lays138_ren:Go.Shelf.Ren:=⟨fun | 138=>268 | 195=>275 | 218=>277 | 143=>269 | 219=>278 | 217=>262 | 225=>280 | 224=>281 | 267=>282 | 266=>272 | 314=>283 | n=>n,fun | 9=>9 | 3=>3 | 4=>4 | 5=>5 | 0=>0 | 46=>283 | 146=>360 | 51=>243 | n=>n,fun | 1=>1 | n=>n⟩
theorem Tryz.lays138:Go.Proofs.Lays.n138 Tryz.prog Tryz.lays138_ren:={
 mixed:=by kernel_rfl
 f138:=Tryz.func268.trans (congrArg some (by kernel_rfl))
 f143:=Tryz.func269.trans (congrArg some (by kernel_rfl))
 f195:=Tryz.func275.trans (congrArg some (by kernel_rfl))
 f217:=Tryz.func262.trans (congrArg some (by kernel_rfl))
 f218:=Tryz.func277.trans (congrArg some (by kernel_rfl))
 f219:=Tryz.func278.trans (congrArg some (by kernel_rfl))
 f224:=Tryz.func281.trans (congrArg some (by kernel_rfl))
 f225:=Tryz.func280.trans (congrArg some (by kernel_rfl))
 f266:=Tryz.func272.trans (congrArg some (by kernel_rfl))
 f267:=Tryz.func282.trans (congrArg some (by kernel_rfl))
 f314:=Tryz.func283.trans (congrArg some (by kernel_rfl))
 t0:=Tryz.underlying0
 a0:=Tryz.isAgg0
 z0:=Tryz.sizeOf0
 v0:=Tryz.zeroValue0
 t3:=Tryz.underlying3
 a3:=Tryz.isAgg3
 z3:=Tryz.sizeOf3
 v3:=Tryz.zeroValue3
 t4:=Tryz.underlying4
 a4:=Tryz.isAgg4
 z4:=Tryz.sizeOf4
 v4:=Tryz.zeroValue4
 t5:=Tryz.underlying5
 a5:=Tryz.isAgg5
 z5:=Tryz.sizeOf5
 v5:=Tryz.zeroValue5
 t9:=Tryz.underlying9
 a9:=Tryz.isAgg9
 z9:=Tryz.sizeOf9
 v9:=Tryz.zeroValue9
 t46:=Tryz.underlying283
 a46:=Tryz.isAgg283
 z46:=Tryz.sizeOf283
 v46:=Tryz.zeroValue283
 t51:=Tryz.underlying243
 a51:=Tryz.isAgg243
 z51:=Tryz.sizeOf243
 v51:=Tryz.zeroValue243
 t146:=Tryz.underlying360
 a146:=Tryz.isAgg360
 z146:=Tryz.sizeOf360
 v146:=Tryz.zeroValue360
 g1:=by kernel_rfl }
open Go.RowKit Go.Lib in
theorem Tryz.strings_Count_one (s:ByteArray) (c:UInt8) (w:World) :
  Calls Tryz.prog 268 #[.string s,.string ⟨#[c]⟩] w fun e w'=>e = .returned (.int .i64 (Lib.countByte s.data.toList c)) ∧ w'=w:=Any.strings_Count_one Tryz.lays138 s c w
def Tryz.lays189_ren:Go.Shelf.Ren:=⟨fun | 189=>134 | 125=>193 | 257=>192 | 128=>227 | 129=>228 | 294=>218 | 295=>219 | 296=>220 | 297=>221 | 298=>222 | 299=>223 | 216=>224 | 300=>225 | 301=>226 | 328=>253 | 329=>254 | 330=>255 | 331=>256 | 332=>257 | 215=>209 | 343=>270 | n=>n,fun | 28=>89 | 3=>3 | 46=>283 | 0=>0 | 51=>243 | 53=>172 | 4=>4 | 183=>303 | 182=>302 | 131=>201 | 5=>5 | 9=>9 | 218=>334 | 222=>338 | 228=>347 | 229=>76 | n=>n,fun | n=>n⟩
theorem Tryz.lays189:Go.Proofs.Lays.n189 Tryz.prog Tryz.lays189_ren:={
 mixed:=by kernel_rfl
 f125:=Tryz.func193.trans (congrArg some (by kernel_rfl))
 f128:=Tryz.func227.trans (congrArg some (by kernel_rfl))
 f129:=Tryz.func228.trans (congrArg some (by kernel_rfl))
 f189:=Tryz.func134.trans (congrArg some (by kernel_rfl))
 f215:=Tryz.func209.trans (congrArg some (by kernel_rfl))
 f216:=Tryz.func224.trans (congrArg some (by kernel_rfl))
 f257:=Tryz.func192.trans (congrArg some (by kernel_rfl))
 f294:=Tryz.func218.trans (congrArg some (by kernel_rfl))
 f295:=Tryz.func219.trans (congrArg some (by kernel_rfl))
 f296:=Tryz.func220.trans (congrArg some (by kernel_rfl))
 f297:=Tryz.func221.trans (congrArg some (by kernel_rfl))
 f298:=Tryz.func222.trans (congrArg some (by kernel_rfl))
 f299:=Tryz.func223.trans (congrArg some (by kernel_rfl))
 f300:=Tryz.func225.trans (congrArg some (by kernel_rfl))
 f301:=Tryz.func226.trans (congrArg some (by kernel_rfl))
 f328:=Tryz.func253.trans (congrArg some (by kernel_rfl))
 f329:=Tryz.func254.trans (congrArg some (by kernel_rfl))
 f330:=Tryz.func255.trans (congrArg some (by kernel_rfl))
 f331:=Tryz.func256.trans (congrArg some (by kernel_rfl))
 f332:=Tryz.func257.trans (congrArg some (by kernel_rfl))
 f343:=Tryz.func270.trans (congrArg some (by kernel_rfl))
 t0:=Tryz.underlying0
 a0:=Tryz.isAgg0
 z0:=Tryz.sizeOf0
 v0:=Tryz.zeroValue0
 t3:=Tryz.underlying3
 a3:=Tryz.isAgg3
 z3:=Tryz.sizeOf3
 v3:=Tryz.zeroValue3
 t4:=Tryz.underlying4
 a4:=Tryz.isAgg4
 z4:=Tryz.sizeOf4
 v4:=Tryz.zeroValue4
 t5:=Tryz.underlying5
 a5:=Tryz.isAgg5
 z5:=Tryz.sizeOf5
 v5:=Tryz.zeroValue5
 t9:=Tryz.underlying9
 a9:=Tryz.isAgg9
 z9:=Tryz.sizeOf9
 v9:=Tryz.zeroValue9
 t28:=Tryz.underlying89
 a28:=Tryz.isAgg89
 z28:=Tryz.sizeOf89
 v28:=Tryz.zeroValue89
 t46:=Tryz.underlying283
 a46:=Tryz.isAgg283
 z46:=Tryz.sizeOf283
 v46:=Tryz.zeroValue283
 t51:=Tryz.underlying243
 a51:=Tryz.isAgg243
 z51:=Tryz.sizeOf243
 v51:=Tryz.zeroValue243
 t53:=Tryz.underlying172
 a53:=Tryz.isAgg172
 z53:=Tryz.sizeOf172
 v53:=Tryz.zeroValue172
 t131:=Tryz.underlying201
 a131:=Tryz.isAgg201
 z131:=Tryz.sizeOf201
 v131:=Tryz.zeroValue201
 t182:=Tryz.underlying302
 a182:=Tryz.isAgg302
 z182:=Tryz.sizeOf302
 v182:=Tryz.zeroValue302
 t183:=Tryz.underlying303
 a183:=Tryz.isAgg303
 z183:=Tryz.sizeOf303
 v183:=Tryz.zeroValue303
 t218:=Tryz.underlying334
 a218:=Tryz.isAgg334
 z218:=Tryz.sizeOf334
 v218:=Tryz.zeroValue334
 t222:=Tryz.underlying338
 a222:=Tryz.isAgg338
 z222:=Tryz.sizeOf338
 v222:=Tryz.zeroValue338
 t228:=Tryz.underlying347
 a228:=Tryz.isAgg347
 z228:=Tryz.sizeOf347
 v228:=Tryz.zeroValue347
 t229:=Tryz.underlying76
 a229:=Tryz.isAgg76
 z229:=Tryz.sizeOf76
 v229:=Tryz.zeroValue76 }
open Go.Sort Go.RowKit in
theorem Tryz.slices_Sort_int (blk off cap:Nat) (zs:List Int) (w:World) (hH:Holds (Value.int .i64) w blk off zs.toArray) (hblk:blk < w.heap.size) (hsz:zs.length < 4611686018427387904) :
  Calls Tryz.prog 134 #[.slice (some ⟨blk,off,none⟩) zs.length cap] w fun e w' =>
   e = .returned (.tuple #[]) ∧ ∃ n os,w'=grow (putRow (Value.int .i64) (Sort.ahead w n) blk off (zs.mergeSort fun x y=>decide (x ≤ y)).toArray) os:=Any.slices_Sort_int Tryz.lays189 blk off cap zs w hH hblk hsz
def Tryz.lays190_ren:Go.Shelf.Ren:=⟨fun | 190=>137 | 125=>193 | 258=>195 | 128=>227 | 129=>228 | 302=>229 | 303=>230 | 304=>231 | 305=>232 | 306=>233 | 307=>234 | 308=>235 | 309=>236 | 310=>237 | 333=>258 | 329=>254 | 330=>255 | 334=>259 | 335=>260 | 336=>261 | 344=>271 | n=>n,fun | 31=>29 | 9=>9 | 3=>3 | 46=>283 | 0=>0 | 51=>243 | 53=>172 | 4=>4 | 183=>303 | 182=>302 | 131=>201 | 5=>5 | 218=>334 | 222=>338 | 228=>347 | 229=>76 | n=>n,fun | n=>n⟩
theorem Tryz.lays190:Go.Proofs.Lays.n190 Tryz.prog Tryz.lays190_ren:={
 mixed:=by kernel_rfl
 f125:=Tryz.func193.trans (congrArg some (by kernel_rfl))
 f128:=Tryz.func227.trans (congrArg some (by kernel_rfl))
 f129:=Tryz.func228.trans (congrArg some (by kernel_rfl))
 f190:=Tryz.func137.trans (congrArg some (by kernel_rfl))
 f258:=Tryz.func195.trans (congrArg some (by kernel_rfl))
 f302:=Tryz.func229.trans (congrArg some (by kernel_rfl))
 f303:=Tryz.func230.trans (congrArg some (by kernel_rfl))
 f304:=Tryz.func231.trans (congrArg some (by kernel_rfl))
 f305:=Tryz.func232.trans (congrArg some (by kernel_rfl))
 f306:=Tryz.func233.trans (congrArg some (by kernel_rfl))
 f307:=Tryz.func234.trans (congrArg some (by kernel_rfl))
 f308:=Tryz.func235.trans (congrArg some (by kernel_rfl))
 f309:=Tryz.func236.trans (congrArg some (by kernel_rfl))
 f310:=Tryz.func237.trans (congrArg some (by kernel_rfl))
 f329:=Tryz.func254.trans (congrArg some (by kernel_rfl))
 f330:=Tryz.func255.trans (congrArg some (by kernel_rfl))
 f333:=Tryz.func258.trans (congrArg some (by kernel_rfl))
 f334:=Tryz.func259.trans (congrArg some (by kernel_rfl))
 f335:=Tryz.func260.trans (congrArg some (by kernel_rfl))
 f336:=Tryz.func261.trans (congrArg some (by kernel_rfl))
 f344:=Tryz.func271.trans (congrArg some (by kernel_rfl))
 t0:=Tryz.underlying0
 a0:=Tryz.isAgg0
 z0:=Tryz.sizeOf0
 v0:=Tryz.zeroValue0
 t3:=Tryz.underlying3
 a3:=Tryz.isAgg3
 z3:=Tryz.sizeOf3
 v3:=Tryz.zeroValue3
 t4:=Tryz.underlying4
 a4:=Tryz.isAgg4
 z4:=Tryz.sizeOf4
 v4:=Tryz.zeroValue4
 t5:=Tryz.underlying5
 a5:=Tryz.isAgg5
 z5:=Tryz.sizeOf5
 v5:=Tryz.zeroValue5
 t9:=Tryz.underlying9
 a9:=Tryz.isAgg9
 z9:=Tryz.sizeOf9
 v9:=Tryz.zeroValue9
 t31:=Tryz.underlying29
 a31:=Tryz.isAgg29
 z31:=Tryz.sizeOf29
 v31:=Tryz.zeroValue29
 t46:=Tryz.underlying283
 a46:=Tryz.isAgg283
 z46:=Tryz.sizeOf283
 v46:=Tryz.zeroValue283
 t51:=Tryz.underlying243
 a51:=Tryz.isAgg243
 z51:=Tryz.sizeOf243
 v51:=Tryz.zeroValue243
 t53:=Tryz.underlying172
 a53:=Tryz.isAgg172
 z53:=Tryz.sizeOf172
 v53:=Tryz.zeroValue172
 t131:=Tryz.underlying201
 a131:=Tryz.isAgg201
 z131:=Tryz.sizeOf201
 v131:=Tryz.zeroValue201
 t182:=Tryz.underlying302
 a182:=Tryz.isAgg302
 z182:=Tryz.sizeOf302
 v182:=Tryz.zeroValue302
 t183:=Tryz.underlying303
 a183:=Tryz.isAgg303
 z183:=Tryz.sizeOf303
 v183:=Tryz.zeroValue303
 t218:=Tryz.underlying334
 a218:=Tryz.isAgg334
 z218:=Tryz.sizeOf334
 v218:=Tryz.zeroValue334
 t222:=Tryz.underlying338
 a222:=Tryz.isAgg338
 z222:=Tryz.sizeOf338
 v222:=Tryz.zeroValue338
 t228:=Tryz.underlying347
 a228:=Tryz.isAgg347
 z228:=Tryz.sizeOf347
 v228:=Tryz.zeroValue347
 t229:=Tryz.underlying76
 a229:=Tryz.isAgg76
 z229:=Tryz.sizeOf76
 v229:=Tryz.zeroValue76 }
open Go.Sort Go.RowKit in
theorem Tryz.slices_Sort_string (blk off cap:Nat) (ss:List (List UInt8)) (w:World) (hH:Holds encStr w blk off ss.toArray) (hblk:blk < w.heap.size) (hsz:ss.length < 4611686018427387904) :
  Calls Tryz.prog 137 #[.slice (some ⟨blk,off,none⟩) ss.length cap] w fun e w' =>
   e = .returned (.tuple #[]) ∧ ∃ n os,w'=grow (putRow encStr (Sort.ahead w n) blk off (ss.mergeSort fun x y=>decide (x ≤ y)).toArray) os:=Any.slices_Sort_string Tryz.lays190 blk off cap ss w hH hblk hsz
def Tryz.lays99_ren:Go.Shelf.Ren:=⟨fun | 99=>214 | 206=>250 | n=>n,fun | 9=>9 | 4=>4 | 3=>3 | n=>n,fun | n=>n⟩
theorem Tryz.lays99:Go.Proofs.Lays.n99 Tryz.prog Tryz.lays99_ren:={
 mixed:=by kernel_rfl
 f99:=Tryz.func214.trans (congrArg some (by kernel_rfl))
 f206:=Tryz.func250.trans (congrArg some (by kernel_rfl))
 t3:=Tryz.underlying3
 a3:=Tryz.isAgg3
 z3:=Tryz.sizeOf3
 v3:=Tryz.zeroValue3
 t4:=Tryz.underlying4
 a4:=Tryz.isAgg4
 z4:=Tryz.sizeOf4
 v4:=Tryz.zeroValue4
 t9:=Tryz.underlying9
 a9:=Tryz.isAgg9
 z9:=Tryz.sizeOf9
 v9:=Tryz.zeroValue9 }
open Go.RowKit Go.Lib in
theorem Tryz.strings_HasPrefix (s p:ByteArray) (w:World) :
  Calls Tryz.prog 214 #[.string s,.string p] w fun e w'=>e = .returned (.bool (Lib.hasPrefix s.data.toList p.data.toList)) ∧ w'=w:=Any.strings_HasPrefix Tryz.lays99 s p w
open Go.RowKit Go.Sort in
theorem Tryz.slices_Sort_string_none (p:Option Addr) (cap:Nat) (w:World) :
  Calls Tryz.prog 137 #[.slice p 0 cap] w fun e w'=>e = .returned (.tuple #[]) ∧ w'=w:=Any.slices_Sort_string_none Tryz.lays190 p cap w
open Go.RowKit Go.Sort in
theorem Tryz.slices_Sort_int_none (p:Option Addr) (cap:Nat) (w:World) :
  Calls Tryz.prog 134 #[.slice p 0 cap] w fun e w'=>e = .returned (.tuple #[]) ∧ w'=w:=Any.slices_Sort_int_none Tryz.lays189 p cap w
def Tryz.laysSlC25_f176_ren:Go.Shelf.Ren:=⟨fun | 5=>176 | 7=>209 | n=>n,fun | 22=>3 | 3=>3 | 4=>4 | n=>n,fun | n=>n⟩
theorem Tryz.laysSlC25_f176:Go.Proofs.SlLaysC2.n5 Tryz.prog Tryz.laysSlC25_f176_ren:={
 mixed:=by kernel_rfl
 f5:=⟨Tryz.f176.name,by decide,Tryz.func176.trans (congrArg some (by kernel_rfl))⟩
 f7:=⟨Tryz.f209.name,by decide,Tryz.func209.trans (congrArg some (by kernel_rfl))⟩
 t3:=Tryz.underlying3
 a3:=Tryz.isAgg3
 z3:=Tryz.sizeOf3
 v3:=Tryz.zeroValue3
 t4:=Tryz.underlying4
 a4:=Tryz.isAgg4
 z4:=Tryz.sizeOf4
 v4:=Tryz.zeroValue4
 t22:=Tryz.underlying3
 a22:=Tryz.isAgg3
 z22:=Tryz.sizeOf3
 v22:=Tryz.zeroValue3 }
open Go.Lib in
theorem Tryz.cmp_Compare_int (x y:Int) (w:World) :
  Calls Tryz.prog 176 #[.int .i64 x,.int .i64 y] w fun e w'=>e = .returned (.int .i64 (Lib.compareInt x y)) ∧ w'=w:=AnyG.cmp_Compare_int Tryz.laysSlC25_f176 x y w
end Go.Proofs

namespace Go.Proofs.YtdieogcemmnaaaaGreatDoor
open Go.Proofs.YtdieogcemmnaaaaGreatDoor RX
set_option maxRecDepth 100000
theorem Tri.ofCalls {P:Program} {f:FuncId} {args:Array Value} {v:Value} (A:HP) (h : ∀ w,Calls P f args w fun e w'=>e = .returned v ∧ w'=w):Tri P f args A (fun u=>HP.and (u=v) A):=fun w R x F s a =>
 (h w).mono fun _ _ ⟨he,hw⟩=>⟨v,he,by rw [hw]; exact Same.refl _,R,x,PH.le.refl _,by rw [hw]; exact s,rfl,a⟩
theorem hasPrefix_ok (s p:List UInt8) (A:HP):Tri Tryz.prog 214 #[sE s,sE p] A (fun v=>HP.and (v = .bool (p.isPrefixOf s)) A) :=
 Tri.ofCalls A fun w=>by
  have:=Tryz.strings_HasPrefix ⟨s.toArray⟩ ⟨p.toArray⟩ w
  exact this
theorem indexByte_ok (s:List UInt8) (c:Int) (A:HP):Tri Tryz.prog 238 #[sE s,.int .u8 c] A (fun v=>HP.and (v = .int .i64 (Lib.indexByte s c.toNat.toUInt8)) A) :=
 Tri.ofCalls A fun w=>by
  have:=Tryz.strings_IndexByte ⟨s.toArray⟩ c w
  exact this
theorem count1_ok (s:List UInt8) (c:UInt8) (A:HP):Tri Tryz.prog 268 #[sE s,sE [c]] A (fun v=>HP.and (v = .int .i64 (s.count c)) A) :=
 Tri.ofCalls A fun w=>by
  have:=Tryz.strings_Count_one ⟨s.toArray⟩ c w
  exact this
theorem index1_ok (s:List UInt8) (c:UInt8) (A:HP):Tri Tryz.prog 269 #[sE s,sE [c]] A (fun v=>HP.and (v = .int .i64 (Lib.indexByte s c)) A) :=
 Tri.ofCalls A fun w=>by
  have:=Tryz.strings_Index_one ⟨s.toArray⟩ c w
  exact this
def splitB (c:UInt8):List UInt8 → List (List UInt8)
 | []=>[[]]
 | b :: r=>if b=c then [] :: splitB c r else match splitB c r with
  | x :: q=>(b :: x) :: q
  | []=>[[b]]
theorem splitB_len (c:UInt8) : ∀ s,(splitB c s).length=s.count c + 1
 | []=>rfl
 | b :: r=>by
  have ih:=splitB_len c r
  unfold splitB
  by_cases h:b=c
  ·subst h; rw [if_pos rfl]; simp [ih]
  ·rw [if_neg h]
   cases hq:splitB c r with
   | nil=>rw [hq] at ih; simp at ih
   | cons x q=>rw [hq] at ih; simp at ih ⊢; rw [List.count_cons_of_ne h]; omega
theorem splitB_none {c:UInt8} : ∀ {s:List UInt8},s.count c=0 → splitB c s=[s]
 | [],_=>rfl
 | b :: r,h=>by
  have hb:b ≠ c:=fun e=>by subst e; simp at h
  rw [List.count_cons_of_ne hb] at h
  unfold splitB
  rw [if_neg hb,splitB_none h]
theorem idx_neg {s:List UInt8} {c:UInt8} (h:Lib.indexByte s c < 0):s.count c=0:=by
 have h1:Lib.indexByte s c = -1:=by have:=Lib.indexByte_ge s c; omega
 rw [List.count_eq_zero]
 intro hm
 obtain ⟨k,hk,e⟩:=List.mem_iff_getElem.1 hm
 exact Lib.indexByte_none h1 k (by rw [List.getElem?_eq_getElem hk,e])
theorem idx_neg_iff {s:List UInt8} {c:UInt8}:Lib.indexByte s c < 0 ↔ c ∉ s:=by
 constructor
 ·intro h; exact List.count_eq_zero.1 (idx_neg h)
 ·intro h
  rcases Int.lt_or_le (Lib.indexByte s c) 0 with h1 | h1
  ·exact h1
  ·obtain ⟨o,ho⟩ : ∃ o:Nat,Lib.indexByte s c=o:=⟨_,(Int.toNat_of_nonneg h1).symm⟩
   exact absurd (List.mem_of_getElem? (Lib.indexByte_some ho).1) h
theorem splitB_at {c:UInt8} : ∀ {s:List UInt8} {o:Nat},Lib.indexByte s c=o → splitB c s=s.take o :: splitB c (s.drop (o + 1)) ∧ o < s.length ∧ s.count c=(s.drop (o + 1)).count c + 1
 | [],o,h=>by unfold Lib.indexByte at h; omega
 | b :: r,o,h=>by
  unfold Lib.indexByte at h
  rw [show splitB c (b :: r)=if b=c then [] :: splitB c r else match splitB c r with
   | x :: q=>(b :: x) :: q
   | []=>[[b]] from rfl]
  by_cases hb:b=c
  ·subst hb
   rw [if_pos (by simp)] at h
   obtain rfl:o=0:=by omega
   rw [if_pos rfl]
   simp
  ·rw [if_neg (by simpa using hb)] at h
   split at h
   ·omega
   ·rename_i hq
    have h0:Lib.indexByte r c ≠ -1:=by simpa using hq
    have h00:=Lib.indexByte_ge r c
    obtain ⟨p,rfl⟩ : ∃ p,o=p + 1:=⟨o - 1,by omega⟩
    obtain ⟨h1,h2,h3⟩:=splitB_at (c:=c) (s:=r) (o:=p) (by omega)
    rw [if_neg hb,h1,List.count_cons_of_ne hb]
    simp only [List.take_succ_cons,List.drop_succ_cons,List.length_cons]
    exact ⟨trivial,by omega,h3⟩
abbrev OwS (a:Option Addr) (n c:Nat) (l:List (List UInt8)):HP:=OwC 9 1 a n c (l.map sE)
abbrev RoS (a:Option Addr) (n:Nat) (l:List (List UInt8)):HP:=RoC 1 a n (l.map sE)
theorem infoStr:(Tryz.prog.info? 9).map (fun i=>(i.zero,i.size,i.bytes))=some (some (.string .empty),1,16):=by kernel_rfl
theorem undSs:Tryz.prog.underlying 29=some (.slice 9):=by kernel_rfl
theorem undStr:Tryz.prog.underlying 9=some .string:=by kernel_rfl
theorem aggStr:aggT Tryz.prog 9=false:=by kernel_rfl
theorem szStr:szT Tryz.prog 9=1:=by kernel_rfl
def mkS (t:TypeId) (n c:Value):Sem Next:=do pure (.value (← Instr.makeSlice t n c))
theorem semW_mk {t ty:TypeId} {i:Nat} {u:Value}:semW (.makeSlice t (.tmp i) (.tmp i)) ty [(i,u),(i,u)]=mkS t u u:=by simp [semW,execOp,arW,mkS]
theorem made_rep (z:Value) (n:Nat):(madeCells #[z] n).toList=List.replicate n z:=by
 refine List.ext_getElem (by simp [madeCells]) fun i h1 h2 => ?_
 simp [madeCells,Nat.mod_one]
theorem mk_ok {t e:TypeId} {i:TypeInfo} {z:Value} (ht:Tryz.prog.underlying t=some (.slice e)) (hi:Tryz.prog.info? e=some i) (hz:i.zero=some z) (hzs:z.cells = #[z]) (hs:i.size=1) (n:Nat) (hb:i.bytes * n ≤ 281474976710656) (hm:n ≤ maxLen) (A:HP) :
  OTri Tryz.prog (mkS t (.int .i64 n) (.int .i64 n)) A (fun v=>HP.ex fun x=>HP.and (v = .slice (some ⟨x,0,none⟩) n n) (HP.sep (OwC e 1 (some ⟨x,0,none⟩) n n (List.replicate n z)) A)):=fun w R h F s a=>by
 have hr2:=run_make (P:=Tryz.prog) w t e i z ht hi hz .i64 .i64 n n (by omega) (Int.le_refl _) (by have:((i.bytes * n:Nat):Int) ≤ 281474976710656:=by omega
                                                                                                   rwa [Int.natCast_mul] at this) (by unfold maxLen at hm; omega)
 simp only [Int.toNat_natCast] at hr2
 obtain ⟨s1,d1⟩:=s.alloc (.cells (madeCells z.cells (n * i.size)) e)
 refine ⟨.value _,_,_,by unfold mkS; rw [Sem.run_bind,hr2]; rfl,rfl,Same.alloc w _,R,_,PH.le.refl _,s1,w.heap.size,rfl,_,_,d1,PH.un_left _ _,PH.un_right d1,⟨by simp,.inr ⟨_,_,rfl,PH.one_self _ _,Nat.le_refl _,hm,?_,?_⟩⟩,a⟩
 ·rw [hzs,hs]; simp [madeCells]
 ·rw [hzs,hs,made_rep]; simp
def cpS (ts:Array TypeId) (ty:TypeId) (u v:Value):Sem Next:=do pure (.value (← Builtin.copy_ ts ty #[u,v]))
theorem semW_copy {ts:Array TypeId} {ty:TypeId} {i j:Nat} {u v:Value} (h:i ≠ j):semW (.call ⟨.builtin .copy,#[.tmp i,.tmp j],ts⟩) ty [(i,u),(j,v)]=cpS ts ty u v:=by
 have h':(i == j)=false:=by simpa using h
 simp [semW,execOp,resolve,arW,invoke,builtin,h',cpS]
theorem cp_ok {dT sT ty e:TypeId} {i:TypeInfo} (hu:Tryz.prog.underlying dT=some (.slice e)) (hi:Tryz.prog.info? e=some i) (hs:i.size=1) (a:Option Addr) (n c:Nat) (xs:List Value) (o dl dc:Nat) (S:HP) (b:Option Addr) (m c2:Nat) (ys:List Value)
  (hr:RdL S b m ys) (hl:ys.length=m) (hm:m ≠ 0 → b.isSome=true) (hb0:b=none → c2=0) (h1 : ∀ v ∈ ys,v.oneCell'=true) (ha:a.isSome=true) (hfit:o + min m dl ≤ n) :
  OTri Tryz.prog (cpS #[dT,sT] ty (.slice (a.map fun x=>x.add o) dl dc) (.slice b m c2)) (HP.sep (OwC e 1 a n c xs) S)
   (fun v=>HP.and (v = .int .i64 ((min m dl:Nat):Int)) (HP.sep (OwC e 1 a n c (xs.take o ++ ys.take (min m dl) ++ xs.drop (o + min m dl))) S)):=by
 rintro w R h F s ⟨x1,x2,d,l1,l2,⟨hxl,hx⟩,hS⟩
 rcases hx with ⟨rfl,_⟩ | ⟨g,cur,rfl,hg,q1,q2,q3,q4⟩
 ·cases ha
 have hw:=s.oh _ _ (l1 _ _ hg)
 have hmin:(ys.take (min m dl)).length=min m dl:=by rw [List.length_take,hl]; omega
 have hsi:(Tryz.prog.info? e).map (·.size)=some 1:=by rw [hi]; simp [hs]
 have hcur:o + min m dl ≤ cur.size:=by rw [q3]; omega
 have key:(Builtin.copy_ #[dT,sT] ty #[.slice (some ⟨g,0 + o,none⟩) dl dc,.slice b m c2]).run Tryz.prog w = .ok (goInt ((min m dl:Nat):Int)) (w.setRow g (cur.toList.take o ++ ys.take (min m dl) ++ cur.toList.drop (o + min m dl)).toArray):=by
  rw [Nat.zero_add]
  cases b with
  | none =>
   have:m=0:=Classical.byContradiction fun hq=>by have:=hm hq; cases this
   subst this
   obtain rfl:=hb0 rfl
   have hrun:=run_copy_nil (P:=Tryz.prog) w dT sT ty e ⟨g,o,none⟩ dl dc hu (by rw [hsi]; rfl)
   rw [hrun]
   simp only [Nat.zero_min,Nat.add_zero,List.take_zero,List.append_nil,List.take_append_drop]
   congr 1
   rw [show cur.toList.toArray=cur by simp]
   exact (setRow_self w g cur e (0,0) hw).symm
  | some ad =>
   have:=run_copy_row (P:=Tryz.prog) w dT sT ty e g o dl dc ad m c2 cur e (ys.take (min m dl)) hu hsi hw hmin (fun j v hj => ?_) (by rw [hmin]; exact hcur) (fun v hv=>h1 v (List.mem_of_mem_take hv))
   ·rw [this,hmin]
   ·have hj2:ys[j]? = some v:=by
     rw [List.getElem?_take] at hj
     split at hj
     ·exact hj
     ·cases hj
    obtain ⟨g2,off,e2,hc⟩:=hr.rd w R x2 _ (s.cut d.symm l2 l1) hS j v hj2
    cases e2
    rw [addr_add]
    exact hc
 have hset : ∀ k,k ≠ g → (w.setRow g (cur.toList.take o ++ ys.take (min m dl) ++ cur.toList.drop (o + min m dl)).toArray).heap[k]? = w.heap[k]? := fun k hk=>setRow_other w g k _ hk
 have hhg:h g=some (.cells cur e (0,0)):=l1 _ _ hg
 have hnew:=setRow_heap w g cur (cur.toList.take o ++ ys.take (min m dl) ++ cur.toList.drop (o + min m dl)).toArray e (0,0) hw
 have s2:=s.turn (y := .cells (cur.toList.take o ++ ys.take (min m dl) ++ cur.toList.drop (o + min m dl)).toArray e (0,0)) hhg hset hnew
 have hx2g:x2 g=none:=(d g).resolve_left (by rw [hg]; simp)
 refine ⟨.value (goInt ((min m dl:Nat):Int)),goInt ((min m dl:Nat):Int),w.setRow g (cur.toList.take o ++ ys.take (min m dl) ++ cur.toList.drop (o + min m dl)).toArray,by unfold cpS; simp only [Option.map_some,addr_add]; rw [Sem.run_bind,key]; rfl,rfl,⟨rfl,rfl,rfl,by simp⟩,R,_,PH.le.refl _,s2,by simp [goInt],?_⟩
 refine ⟨PH.one g (.cells (cur.toList.take o ++ ys.take (min m dl) ++ cur.toList.drop (o + min m dl)).toArray e (0,0)),x2,fun k => ?_,PH.one_le (if_pos rfl),fun k y hk => ?_,⟨?_,.inr ⟨g,_,rfl,PH.one_self _ _,q1,q2,?_,?_⟩⟩,hS⟩
 ·by_cases e':k=g
  ·subst e'; exact .inr hx2g
  ·exact .inl (if_neg e')
 ·have:k ≠ g:=fun e'=>by subst e'; rw [hx2g] at hk; cases hk
  exact (if_neg this).trans (l2 _ _ hk)
 ·simp only [List.length_append,List.length_take,List.length_drop,hl,hxl]; omega
 ·simp only [List.size_toArray,List.length_append,List.length_take,List.length_drop,Array.length_toList,hl,q3]; omega
 ·subst q4
  simp only [List.take_append,List.length_append,List.length_take,Array.length_toList,List.take_take,List.drop_take,List.length_drop,hl]
  have m1:min o cur.size=o:=by omega
  have m2:min (n * 1) o=o:=by omega
  have m3:min o (n * 1)=o:=by omega
  have m4:min (n * 1 - o) (min m dl)=min m dl:=by omega
  have m5:min (min m dl) m=min m dl:=by omega
  rw [m1,m2,m3,m4,m5]
end Go.Proofs.YtdieogcemmnaaaaGreatDoor
