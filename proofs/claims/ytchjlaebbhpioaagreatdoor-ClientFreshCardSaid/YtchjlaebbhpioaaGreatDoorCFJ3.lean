/- Texts of this claim, joined. No condition. -/
import Derived.Test.YtchjlaebbhpioaaGreatDoorCFJ1
import Derived.Test.YtchjlaebbhpioaaGreatDoorCFJ2
import Derived.KernelRfl
import Derived.Shelf.Strings.Builder1
import Derived.Shelf.Small.Bits
import Derived.Shelf.Small.Strs
import Derived.Shelf.Small.Wraps
import Derived.Shelf.Strings.BuilderF
import Derived.Shelf.Strings.BuilderK
import Derived.Shelf.Strconv.Itoa0
import Derived.Shelf.Strings.Search1
import Derived.Shelf.Strings.Search2
import Derived.Shelf.Strings.Search3
import Derived.Shelf.Strings.Count
import Derived.Shelf.LaysM
import Derived.Shelf.Strings.Shaped
import Derived.Shelf.Sort.Plain
import Derived.Shelf.Strings.Prefix
import Derived.Shelf.Slices.Turned
import Derived.Shelf.Slices.Equal
import Derived.Ground.Names2Prog
import Derived.Shelf.Slices.Clone
import Derived.Shelf.Slices.CompactI
import Derived.Shelf.Slices.SearchI
import Derived.Shelf.Slices.Cells
import Derived.Shelf.Slices.In.SortNone
import Derived.Shelf.Slices.Empties2
import Derived.Ground.SlgnProg
import Derived.Shelf.SlicesE.Clone
import Derived.Shelf.Bytes.Small
import Derived.Test.YtchjlaebbhpioaaGreatDoorProg
import Derived.Laws.CopyRow
import Derived.Lib.IndexLaws
import Derived.Lib.Builder
import Derived.Lib.UnsafeStr
import Derived.Laws.Externs
import Derived.Lib.AppendStr
import Derived.Sort.Row
import Derived.Sort.Grow
set_option linter.unusedSimpArgs false
set_option linter.unusedVariables false
namespace Go.Proofs.YtchjlaebbhpioaaGreatDoor
open HP (aE aA aj tt aD ai au ae aC ak aW ah Az)
open _root_.Go.Proofs.Tryz (prog)
set_option maxRecDepth 100000
section
open RX
theorem eY.qD{f}{args:dI}{b}{g}{K}{B}
 (t:∀va vc mp,BOk g->az prog f args (aj (jV b g va vc mp) (aj (bE va g.val.length g.val) (aj (jB mp g.bH) K))) B):az prog f args (aj (eY b g) K) B:=by
 refine(az.ex (A:=λva=>aE λvc=>aE λmp=>aA (BOk g) (aj (jV b g va vc mp) (aj (bE va g.val.length g.val) (aj (jB mp g.bH) K)))) λva=>az.ex λvc=>az.ex λmp=>az.pure λh=>t va vc mp h).aK (λR h H=>?_) λ_ _ _ h=>h;obtain⟨h1,h2,d,l1,l2,⟨va,vc,mp,hB,H⟩,HK⟩:=H;exact⟨va,vc,mp,hB,ae (au ⟨h1,h2,d,l1,l2,H,HK⟩) (λ_ h=>h) λy hy=>au hy⟩
theorem uW b g va vc mp P f:az prog 216 #[pt b,an f] (aj (jV b g va vc mp) (aj P (jB mp g.bH)))
 (λv=>aA (v=.bool (jh g f)) (aj (jV b g va vc mp) (aj P (jB mp g.bH)))):=by
 refine(az.ex (A:=λl=>aE λcl=>aA (l.map (·.1)=g.bH.map (·.1)) (aj (jV b g va vc mp) (aj P (aH rc iE mp (dW g.bH 0) l cl)))) λl=>az.ex λcl=>az.pure λhk=>?_).aK (λR h H=>?_) λ_ _ _ h=>h
 ·exact(Rl b g va vc mp P f l cl).wk λv R h ⟨e,H⟩=>⟨e,ae H (λ_ h=>h) λy hy=>ae hy (λ_ h=>h) λz hz=>⟨l,cl,hk,hz⟩⟩
 ·obtain⟨h1,h2,e1,l1,l2,HO,h3,h4,e2,l3,l4,HP',⟨l,cl,hk,HM⟩⟩:=H;exact⟨l,cl,hk,h1,h2,e1,l1,l2,HO,h3,h4,e2,l3,l4,HP',HM⟩
def Dw(g:lq)(f e:Int):lq:=
 if g.phase=2/\jh g f=true then(if(dJ g f ⟨decide (e=0),0,0,[]⟩).2=true then{(dJ g f ⟨decide (e=0),0,0,[]⟩).1 with phase:=3}else(dJ g f ⟨decide (e=0),0,0,[]⟩).1)else g
theorem yd{g}{f}(h:jh g f=true):hasB g.bH f=false:=by
 unfold jh at h;rw[Bool.and_eq_true]at h;simpa using h.2
theorem tB g f x:(dJ g f x).1.val=g.val:=by unfold dJ;split<;>(try split)<;>rfl
theorem BM{g} f x(h:BOk g):BOk (dJ g f x).1:=by
 obtain⟨h1,h2,h3,h4,h5⟩:=h;unfold dJ;split
 ·exact⟨h1,h2,by show 0<=g.dk+1;omega,by show g.dk+1<=((g.bH++[(f,x)]).length:Int);simp;omega,h5⟩
 ·split<;>exact⟨h1,h2,h3,by show g.dk<=((g.bH++[(f,x)]).length:Int);simp;omega,h5⟩
theorem F9 b g f e(hlen:g.bH.length<=100000):az prog 147 #[pt b,an f,an e] (eY b g) (λv=>aA (v=cE) (eY b (Dw g f e))):=by
 refine(eY.qD (K:=tt) λva vc mp hB=>?_).aK (λR h H=>aD H) λ_ _ _ h=>h;refine az.aK (A:=aj (jV b g va vc mp) (aj (bE va g.val.length g.val) (jB mp g.bH))) ?_ (λR h H=>ae H (λ_ h=>h) λy hy=>ae hy (λ_ h=>h) λz hz=>ai hz) λ_ _ _ h=>h;refine ao (ρ:=[.n b,.i g.acc,.i g.lf,.i g.cS,.a va,.n g.val.length,.n vc,.p (bE va g.val.length g.val),.i g.phase,.n mp,.p (jB mp g.bH),.i g.dk,.i f,.i e]) {aF:=nI} [(.ptr 0 0),12,13] zl 14 ?_;have same:Dw g f e=g->HP.aT (aj (jV b g va vc mp) (aj (bE va g.val.length g.val) (jB mp g.bH))) (aA True (eY b (Dw g f e))):=λh=>.of λR y H=>⟨trivial,by rw[h];exact⟨va,vc,mp,hB,H⟩⟩;refine⟨λh1=>same (aq λh=>h1 h.1),λh1=>?_⟩;refine(uW b g va vc mp (bE va g.val.length g.val) f).wk ?_;rintro v R h ⟨rfl,H⟩;refine⟨_,rfl,⟨λh2=>same (aq λh=>h2 h.2),λh2=>?_⟩,H⟩;clear H;have hT:=BM f ⟨decide (e=0),0,0,[]⟩ hB;have hv:=tB g f ⟨decide (e=0),0,0,[]⟩;have aia:Dw g f e=if(dJ g f ⟨decide (e=0),0,0,[]⟩).2=true then{(dJ g f ⟨decide (e=0),0,0,[]⟩).1 with phase:=3}else(dJ g f ⟨decide (e=0),0,0,[]⟩).1:=aB ⟨h1,h2⟩
 refine(BL b g va vc mp (bE va g.val.length g.val) f ⟨decide (e=0),0,0,[]⟩ 0 none 0 (by simp) (yd h2) hlen hB).aK (λR h H=>ae H (λ_ h=>h) λy hy=>ae hy (λ_ h=>h) λz hz=>j6 (rZ none:(bE none 0 []).p R z) hz) ?_;rw[aia];clear aia same;revert hT hv;generalize dJ g f ⟨decide (e=0),0,0,[]⟩=T;intro hT hv;rintro v R h ⟨rfl,H⟩;rw[<-hv]at H;refine⟨T.2,T.1.acc,T.1.lf,T.1.cS,va,T.1.val.length,vc,bE va T.1.val.length T.1.val,T.1.phase,mp,jB mp T.1.bH,T.1.dk,rfl,⟨λh=>.of λR y H=>⟨trivial,?_⟩,λh=>.of λR y H=>⟨trivial,?_⟩⟩,ae H (λ_ h=>h) λy hy=>ae hy (λ_ h=>h) λz hz=>ai hz⟩
 ·rw[aB h];exact⟨va,vc,mp,hT,H⟩
 ·rw[aq h];exact⟨va,vc,mp,hT,H⟩
def nJ(r w:Int)(l:ax)(e:Int):BA:=if e=0 then⟨true,r,w,l⟩else⟨false,0,0,[]⟩
def rh(g:lq)(f r w:Int)(l:ax)(e:Int)(g':lq):Prop:=
 if g.phase=1/\jh g f=true then
  (if(dJ g f (nJ r w l e)).2=true then ∃val,si (dW (dJ g f (nJ r w l e)).1.bH 0) g.val val/\g'={(dJ g f (nJ r w l e)).1 with val:=val,phase:=2,bH:=[],dk:=0}else g'=(dJ g f (nJ r w l e)).1)
 else g'=g
theorem si.le{L}{v0 v}(h:si (dW L 0) v0 v)(h0:v0.length<=140737488355328)(hL:∀x∈L,x.2.val.length<=140737488355328):v.length<=140737488355328:=by
 have aux:∀(L:List (Int×BA)) (i k:Int) (x:uh),dW L i k=some x->∃y∈L,y.2.val=x.val:=λL=>by
  induction L with
  |nil=>intro i k x h;cases h
  |cons y L ih=>
   intro i k x h;simp only[dW]at h;split at h
   ·cases h;exact⟨y,by simp,rfl⟩
   ·obtain⟨z,hz,e⟩:=ih (i+1) k x h;exact⟨z,List.mem_cons_of_mem _ hz,e⟩
 rcases h with⟨_,rfl⟩|⟨k,x,hx,_,rfl,_⟩
 ·exact h0
 ·obtain⟨y,hy,e⟩:=aux L 0 k x hx;rw[<-e];exact hL y hy
theorem jB.new mp{R h}(H:(HP.one mp (.map #[] 0)).p R h):(jB mp []).p R h:=
 ⟨[],0,rfl,fC.nil 0,ae (aD H) (λ_ h=>h) λ_ _ _=>trivial⟩
theorem Ga b g(f r w e:Int)(a:aG)(c:Nat)(l:ax)(hl:l.length<=140737488355328)(hL:∀x∈g.bH,x.2.val.length<=140737488355328)(hlen:g.bH.length<=100000):
 az prog 146 #[pt b,an f,.agg #[an r,an w],.slice a l.length c,an e] (aj (eY b g) (bE a l.length l)) (λv=>aE λg'=>aA (v=cE/\rh g f r w l e g') (eY b g')):=by
 refine eY.qD λva vc mp hB=>?_;refine ao (ρ:=[.n b,.i g.acc,.i g.lf,.i g.cS,.a va,.n g.val.length,.n vc,.p (bE va g.val.length g.val),.i g.phase,.n mp,.p (jB mp g.bH),.i g.dk,.i f,.i r,.i w,.a a,.n l.length,.n c,.p (bE a l.length l),.i e]) {aF:=nI} [(.ptr 0 0),12,(.agg [13,14]),(.s 15),19] ah3 20 ?_;intro _;have same:¬(g.phase=1/\jh g f=true)->HP.aT (aj (jV b g va vc mp) (aj (bE va g.val.length g.val) (aj (jB mp g.bH) (bE a l.length l)))) (aE λg'=>aA (True/\rh g f r w l e g') (eY b g')):=λh=>.of λR y H=>⟨g,⟨trivial,by unfold rh;rw[aq h]⟩,va,vc,mp,hB,ae H (λ_ h=>h) λy hy=>ae hy (λ_ h=>h) λz hz=>ai hz⟩;refine⟨λh1=>same (λh=>h1 h.1),λh1=>?_⟩;refine(uW b g va vc mp (bE va g.val.length g.val) f).wk ?_;rintro v R h ⟨rfl,H⟩;refine⟨_,rfl,⟨λh2=>same (λh=>h2 h.2),λh2 _=>⟨λh3=>?_,λh3=>?_⟩⟩,H⟩
 ·clear H;refine(gi (bE a l.length l) a l.length c l (bX.ro _ _ _ _) rfl hl).wk ?_;rintro v R h ⟨a2,c2,rfl,H⟩;refine⟨a2,_,c2,bE a2 l.length l,rfl,?_,H⟩;clear H same;subst h3;have hx:nJ r w l 0=⟨true,r,w,l⟩:=aB rfl;have hP:∀g',(if(dJ g f ⟨true,r,w,l⟩).2=true then ∃val,si (dW (dJ g f ⟨true,r,w,l⟩).1.bH 0) g.val val/\g'={(dJ g f ⟨true,r,w,l⟩).1 with val:=val,phase:=2,bH:=[],dk:=0}else g'=(dJ g f ⟨true,r,w,l⟩).1)->rh g f r w l 0 g':=λg' h=>by unfold rh;rw[aB ⟨h1,h2⟩,hx];exact h
  have hT:=BM f ⟨true,r,w,l⟩ hB;have hv:=tB g f ⟨true,r,w,l⟩;refine(BL b g va vc mp (bE va g.val.length g.val) f ⟨true,r,w,l⟩ 0 a2 c2 hl (yd h2) hlen hB).wk ?_
  have I7:∀x∈(dJ g f ⟨true,r,w,l⟩).1.bH,x.2.val.length<=140737488355328:=λx hx=>by
   have:(dJ g f ⟨true,r,w,l⟩).1.bH=g.bH++[(f,⟨true,r,w,l⟩)]:=by unfold dJ;split<;>(try split)<;>rfl
   rw[this]at hx;rcases List.mem_append.1 hx with hx|hx
   ·exact hL x hx
   ·obtain rfl:=List.mem_singleton.1 hx;exact hl
  revert hT hv hP I7;generalize dJ g f ⟨true,r,w,l⟩=T;intro hP hT hv I7;rintro v R h ⟨rfl,H⟩;rw[<-hv]at H;refine⟨T.2,T.1.acc,T.1.lf,T.1.cS,va,T.1.val.length,vc,bE va T.1.val.length T.1.val,T.1.phase,mp,jB mp T.1.bH,T.1.dk,bE a2 l.length l,rfl,⟨λh=>?_,λh=>.of λR y H=>⟨T.1,⟨trivial,hP _ (by rw[aq h])⟩,va,vc,mp,hT,ae H (λ_ h=>h) λy hy=>ae hy (λ_ h=>h) λz hz=>ai hz⟩⟩,H⟩;clear H;refine(Mb b T.1 va vc mp hT).wk ?_;rintro v R y ⟨val,Mc,Tt,⟨rfl,hch⟩,H⟩;refine⟨T.1.acc,T.1.lf,T.1.cS,Mc,val.length,Tt,bE Mc val.length val,T.1.phase,mp,jB mp T.1.bH,T.1.dk,rfl,λnb=>.of λR y H=>?_,H⟩;rw[hv]at hch;have h0:g.val.length<=140737488355328:=hB.2.2.2.2;have v8:=hch.le h0 I7;refine⟨{T.1 with val:=val,phase:=2,bH:=[],dk:=0},⟨trivial,hP _ (by rw[aB h];exact⟨val,hch,rfl⟩)⟩,Mc,Tt,nb,⟨hT.1,hT.2.1,Int.le_refl _,Int.le_refl _,v8⟩,ae H (λ_ h=>h) λy hy=>ae hy (λ_ h=>h) λz hz=>?_⟩;exact jB.new nb (ai hz)
 ·clear H same;have hx:nJ r w l e=⟨decide (e=0),0,0,[]⟩:=by unfold nJ;rw[aq h3,decide_eq_false h3]
  have hno:(dJ g f ⟨decide (e=0),0,0,[]⟩).2=false:=by
   unfold dJ;rw[aq (show ¬decide (e=0)=true by rw[decide_eq_false h3];decide)];split<;>rfl
  have hP:∀g',g'=(dJ g f ⟨decide (e=0),0,0,[]⟩).1->rh g f r w l e g':=λg' h=>by unfold rh;rw[aB ⟨h1,h2⟩,hx,aq (by rw[hno];decide)];exact h
  have hT:=BM f ⟨decide (e=0),0,0,[]⟩ hB;have hv:=tB g f ⟨decide (e=0),0,0,[]⟩;refine(BL b g va vc mp (bE va g.val.length g.val) f ⟨decide (e=0),0,0,[]⟩ 0 none 0 (by simp) (yd h2) hlen hB).aK (λR h H=>ae H (λ_ h=>h) λy hy=>ae hy (λ_ h=>h) λz hz=>j6 (rZ none:(bE none 0 []).p R h) hz) ?_;clear hx;revert hno hP hT hv;generalize dJ g f ⟨decide (e=0),0,0,[]⟩=T;intro hno hP hT hv;rintro v R h ⟨rfl,H⟩;rw[<-hv]at H;exact⟨T.2,T.1.acc,T.1.lf,T.1.cS,va,T.1.val.length,vc,bE va T.1.val.length T.1.val,T.1.phase,mp,jB mp T.1.bH,T.1.dk,rfl,⟨λh=>absurd h (by rw[hno];decide),λh=>.of λR y H=>⟨T.1,⟨trivial,hP _ rfl⟩,va,vc,mp,hT,ae H (λ_ h=>h) λy hy=>ae hy (λ_ h=>h) λz hz=>ai hz⟩⟩,ae H (λ_ h=>h) λy hy=>ae hy (λ_ h=>h) λz hz=>ai hz⟩
def o9(acc lf cS:Int)(l:ax):lq:=⟨max acc 1,lf,cS,l,1,[],0⟩
theorem tC acc lf cS(ha:acc<=10000) S a n c(l:ax)(hr:bX S a n (l.map eX))(hl:l.length=n)(hb:n<=140737488355328):
 az prog 149 #[an acc,.agg #[an lf,an cS],.slice a n c] S (λv=>aE λb=>aA (v=pt b) (aj S (eY b (o9 acc lf cS l)))):=by
 refine ao (ρ:=[.i acc,.i lf,.i cS,.a a,.n n,.n c,.p S]) {aF:=nI} [0,(.agg [1,2]),(.s 3)] [(3,6)] 7 ?_
 have iW:∀(a':aG) (c' mp b:Nat),HP.aT (aj S (aj (HP.one b (.cells #[an (max acc 1),an lf,an cS,.slice a' n c',an 1,.map (some mp),an 0] 286 (0,0))) (aj (bE a' n l) (HP.one mp (.map #[] 0)))))
  (aE λb'=>aA (pt b=pt b') (aj S (eY b' (o9 acc lf cS l)))):=λa' c' mp b=>.of λR y H=>⟨b,rfl,ae H (λ_ h=>h) λz hz=>⟨a',c',mp,⟨by show 1<=max acc 1;omega,by show max acc 1<=10000;omega,Int.le_refl _,Int.le_refl _,by show l.length<=_;omega⟩,by
  subst hl;exact ae hz (λ_ h=>h) λu hu=>ae hu (λ_ h=>h) λq hq=>jB.new mp hq⟩⟩
 intro _;refine⟨?_,λmp=>?_⟩
 ·refine(gi S a n c l hr hl hb).wk ?_;rintro v R h ⟨a',c',rfl,H⟩;exact⟨a',n,c',bE a' n l,rfl,λmp b=>iW a' c' mp b,H⟩
 ·refine(gi S a n c l hr hl hb).wk ?_;rintro v R h ⟨a',c',rfl,H⟩;exact⟨a',n,c',bE a' n l,rfl,λb=>iW a' c' mp b,H⟩
theorem Md b g:az prog 148 #[pt b] (eY b g) (λv=>aA (v=an g.phase) (eY b g)):=
 (eY.qD (K:=tt) λva vc mp hB=>(Rj b g va vc mp (bE va g.val.length g.val) (aj (jB mp g.bH) tt)).wk (B':=λv=>aA (v=an g.phase) (eY b g)) λv R h ⟨e,H⟩=>
   ⟨e,va,vc,mp,hB,ae H (λ_ h=>h) λy hy=>ae hy (λ_ h=>h) λz hz=>ai hz⟩).aK (λR h H=>aD H) λ_ _ _ h=>h
theorem I8 b g:az prog 151 #[pt b] (eY b g) (λv=>aA (v=.agg #[an g.lf,an g.cS]) (eY b g)):=
 (eY.qD (K:=tt) λva vc mp hB=>(L9 b g va vc mp (bE va g.val.length g.val) (aj (jB mp g.bH) tt)).wk (B':=λv=>aA (v=.agg #[an g.lf,an g.cS]) (eY b g)) λv R h ⟨e,H⟩=>
   ⟨e,va,vc,mp,hB,ae H (λ_ h=>h) λy hy=>ae hy (λ_ h=>h) λz hz=>ai hz⟩).aK (λR h H=>aD H) λ_ _ _ h=>h
theorem Me b g:az prog 153 #[pt b] (eY b g) (λv=>aE λa=>aE λc=>aA (v=.slice a g.val.length c) (aj (bE a g.val.length g.val) (eY b g))):=
 (eY.qD (K:=tt) λva vc mp hB=>(Rk b g va vc mp (aj (jB mp g.bH) tt) hB.2.2.2.2).wk (B':=λv=>aE λa=>aE λc=>aA (v=.slice a g.val.length c) (aj (bE a g.val.length g.val) (eY b g))) λv R h ⟨a,c,e,H⟩=>
   ⟨a,c,e,ae H (λ_ h=>h) λy hy=>⟨va,vc,mp,hB,ae hy (λ_ h=>h) λz hz=>ae hz (λ_ h=>h) λq hq=>ai hq⟩⟩).aK (λR h H=>aD H) λ_ _ _ h=>h
theorem Mf b g f:az prog 216 #[pt b,an f] (eY b g) (λv=>aA (v=.bool (jh g f)) (eY b g)):=
 (eY.qD (K:=tt) λva vc mp hB=>((uW b g va vc mp (bE va g.val.length g.val) f).frame tt).aK (λR h H=>aC (ae H (λ_ h=>h) λy hy=>aC hy)) (B':=λv=>aA (v=.bool (jh g f)) (eY b g)) λv R h H=>by
   obtain⟨e,H⟩:=ai H;exact⟨e,va,vc,mp,hB,H⟩).aK (λR h H=>aD H) λ_ _ _ h=>h
end
namespace RX
def kj:=(({aF:=[162,163,99999,154,212,249,213,143,79,144,148,151,153,216,251,223,277,99999,78]}:jo).aF)
abbrev aib:Hp:=[(8,11),(14,17),((.b 22),(.cells [23,24,25,(.bool 26),27,28,29,30,(.s 31),35,36,(.s 37),41,42,43,44] 64)),(31,34),(37,40)]
abbrev ui:Hp:=[(.b 0,1)]
abbrev aic:List A:=[2,3,4,(.bool 5),6,7,8,9,(.s 10),14,15,(.s 16),20,21,22,23]
abbrev O1:Hp:=[(.b 0,1),(10,13),(16,19)]
abbrev BN:List W:=[(.ptr 0 0)]
abbrev aid:List So:=[.i,.i,.i,.c,.i,.i,.i,.i,.a,.n,.n,.p,.i,.i,.a,.n,.n,.p,.i,.i,.i,.i]
abbrev Gb:List W:=[(.ptr 0 0),(.agg aic)]
abbrev VJ:List A:=[9,10,11,(.bool 12),13,14,15,16,(.s 17),21,22,(.s 23),27,28,29,30]
abbrev uX:Hp:=[(.b 3,4)]
abbrev VK:Hp:=[(0,3),((.b 4),(.cells [5] 3))]
def zp:T:=
(.call 251 [.s 0,5] [(0,3)] [.c] (.bool 6) [(0,3)]
(.ret (.bool 6) VK))
theorem BO:tree prog {fk:=[160],aF:=kj,dN:=true,dv:=true,ck:=[160]} Tryz.f278 [.s 0,.ptr 4 0] VK 6=zp:=by kernel_rfl
def I9:T:=
(.ld 3 6 (.ptr 3 4) uX [.i] 5
(.br (.eq 5 (.i 4))
(.ld 3 14 (.ptr 3 23) uX [.i] 6
(.call 154 [.ptr 3 0] uX [.i] 7 uX
(.om 0 [.agg [.k 0,.k 7,.k 0,.F,.k 9,7,6,.k 0,.z,.k 0,.k 0,.z,.k 0,.k 0,.k 0,.k 0]] [(0,1)] [.c,.p] (.bool 8) [(0,9)]
(.ret (.gY []) [(0,9),(.b 2,.cells [.ptr 3 0] 85),(.b 3,4)]))))
(.loop [.i,.p] [.z (.i 0),.p [(0,1)]]
(.br (.lt 6 (.i 7))
(.call 212 [.ptr 3 0,6] uX [.c] (.bool 8) uX
(.br 8
(.call 213 [.ptr 3 0,6] uX aid (.agg VJ) [(17,20),(23,26),(.b 3,4)]
(.om 0 [.agg VJ] [(0,7),(17,20),(23,26)] [.c,.p] (.bool 31) [(0,32),(17,20),(23,26)]
(.br (.not 31)
(.ret (.gY []) [(0,32),(.b 2,.cells [.ptr 3 0] 85),(.b 3,4)])
(.rg (.add 6 (.i 1))
(.again 0 [.z (.add 6 (.i 1)),.p [(0,32)]])))))
(.rg (.add 6 (.i 1))
(.again 0 [.z (.add 6 (.i 1)),.p [(0,7)]]))))
(.ret (.gY []) [(0,7),(.b 2,.cells [.ptr 3 0] 85),(.b 3,4)])))))
theorem Ja:tree prog {fk:=[160],hv:=[(0,[.a 0])],aF:=kj,dN:=true,dv:=true,ck:=[160]} Tryz.f211 [.val 0,.ptr 2 0] [(0,1),(.b 2,.cells [.ptr 3 0] 85),(.b 3,4)] 5=I9:=by kernel_rfl
end RX
section
open RX
structure cg where
 old:rx
 cL:Int
 cS:Int
 st:Int
 bV:Nat->Bool
 there:Nat->Bool
 own:ax
 prop:Option lq
 aQ:rx
 tail:Int
structure Gc where
 oa:aG
 oc:Nat
 mm:List ky
 wa:aG
 wc:Nat
 pv:aG
 pa:aG
 pc:Nat
 iG:List ky
def jC(g:cg)(r:Gc):List Value:=[an g.old.ep,.slice r.oa r.mm.length r.oc,an g.cL,an g.cS,an g.st]++(Q8 g.bV++(Q8 g.there++[.slice r.wa g.own.length r.wc,.pointer r.pv,an g.aQ.ep,.slice r.pa r.iG.length r.pc,an g.tail]))
theorem BP g r:(jC g r).length=24:=by simp[jC,eM]
theorem VL g r{k}(h:k<7):(jC g r)[5+k]? =some (.bool (g.bV k)):=by
 unfold jC;rw[List.getElem?_append_right (by simp),List.getElem?_append_left (by rw[eM];simp;omega)];rw[<-qM g.bV h];congr 1;simp
theorem Mg g r{k}(h:k<7):(jC g r)[12+k]? =some (.bool (g.there k)):=by
 unfold jC;rw[List.getElem?_append_right (by simp;omega),List.getElem?_append_right (by rw[eM];simp;omega),List.getElem?_append_left (by rw[eM,eM];simp;omega)];rw[<-qM g.there h];congr 1;rw[eM];simp;omega
theorem Gd g r{k}(h:k<7) b:(jC g r).set (5+k) (.bool b)=jC {g with bV:=fh g.bV k b} r:=by
 unfold jC;rw[List.set_append_right _ _ (by simp),List.set_append_left _ _ (by rw[eM];simp;omega)];simp only[List.length_cons,List.length_nil,Nat.zero_add,Nat.add_sub_cancel_left];rw[F6 _ h]
theorem BQ g r{k}(h:k<7) b:(jC g r).set (12+k) (.bool b)=jC {g with there:=fh g.there k b} r:=by
 unfold jC;rw[List.set_append_right _ _ (by simp;omega),List.set_append_right _ _ (by rw[eM];simp;omega),List.set_append_left _ _ (by rw[eM,eM];simp;omega)];rw[eM];simp only[List.length_cons,List.length_nil];rw[show 12+k - (0+1+1+1+1+1) - 7=k by omega,F6 _ h]
def uj(pv:aG):Option lq->HP
 |none=>HP.pure (pv=none)
 |some s=>aE λpb=>aA (pv=some ⟨pb,0,none⟩) (eY pb s)
def wE(g:cg)(r:Gc):HP:=HP.both (Ls ip r.oa r.mm.length r.mm) (HP.both (bE r.wa g.own.length g.own) (Ls ip r.pa r.iG.length r.iG))
structure KU(g:cg)(r:Gc):Prop where
 o:r.mm.map (·.l)=g.old.ch
 p:r.iG.map (·.l)=g.aQ.ch
 ob:r.mm.length<=1000/\∀x∈r.mm,x.l.length<=1000000
 pb:r.iG.length<=1000/\∀x∈r.iG,x.l.length<=1000000
 wb:g.own.length<=1000000
def zS(b:Nat)(g:cg)(r:Gc):HP:=HP.one b (.cells (jC g r).toArray 162 (0,0))
def aO(b:Nat)(g:cg)(r:Gc):HP:=aA (KU g r) (aj (zS b g r) (aj (uj r.pv g.prop) (wE g r)))
def jD(b:Nat)(g:cg):HP:=aE λr=>aO b g r
theorem wE.iF{g}{r}{R h} h'(H:(wE g r).p R h):(wE g r).p R h':=⟨Ls.iF h' H.1,H.2.1,Ls.iF h' H.2.2⟩
section
variable {b:Nat}{g:cg}{r:Gc}
theorem aO.ro{R h}(H:(aO b g r).p R h):(wE g r).p R h:=ah (ah H.2)
theorem VM{t}{d}(hd:prog.underlying t=some d)(ha:gZ prog t=false)(hz:iA prog t=1){k}{v}(hk:(jC g r)[k]? =some v):
 aM prog (bO t (.pointer (some ⟨b,k,none⟩))) (aO b g r) v:=
 aM.aT (.of λR h H=>H.2) (Zu (Q:=aj (uj r.pv g.prop) (wE g r)) hd ha hz (by simpa using hk))
theorem sj{k}{x}(hk:(jC g r)[k]? =some (an x)):aM prog (bO 3 (.pointer (some ⟨b,k,none⟩))) (aO b g r) (an x):=VM rV Dj Oz hk
theorem acr{k}{x y}(hk:(jC g r)[k]? =some x)(Ed:(jC g r)[k+1]? =some y):aM prog (bO 34 (.pointer (some ⟨b,k,none⟩))) (aO b g r) (.agg #[x,y]):=by
 obtain⟨d,hd⟩:∃d,prog.underlying 34=some d:=Option.isSome_iff_exists.1 (by kernel_rfl);refine aM.aT (.of λR h H=>H.2) (aeb (Q:=aj (uj r.pv g.prop) (wE g r)) (vs:=[x,y]) hd (by kernel_rfl) (by kernel_rfl) (by simp) λj v hj=>?_)
 match j with
 |0=>simp at hj;subst hj;simpa using hk
 |1=>simp at hj;subst hj;simpa using Ed
 |j+2=>simp at hj
theorem aie:prog.underlying 160=some (.pointer 286):=by kernel_rfl
theorem aif:gZ prog 160=false:=by kernel_rfl
theorem amZ:iA prog 160=1:=by kernel_rfl
theorem zT:aM prog (bO 160 (.pointer (some ⟨b,20,none⟩))) (aO b g r) (eD (.pointer r.pv)):=VM aie aif amZ rfl
theorem ZT:aM prog (bO 37 (.pointer (some ⟨b,19,none⟩))) (aO b g r) (.slice r.wa g.own.length r.wc):=VM qB OS ZA rfl
theorem am0{k}{v}(hk:(jC g r)[k]? =some v):aM prog (bO 32 (.pointer (some ⟨b,k,none⟩))) (aO b g r) v:=VM IV (by kernel_rfl) (by kernel_rfl) hk
theorem VN{k}(h:k<7):aM prog (bO 4 (.pointer (some ⟨b,5+k,none⟩))) (aO b g r) (.bool (g.bV k)):=VM IP IQ zN (VL g r h)
theorem aSt{t}{i}(hi:prog.info? t=some i)(hz:i.size=1){k}(hk:k<24){x}(hx:x.cells= #[x])(h1:x.oneCell'=true){g'}{r'}(uN:(jC g r).set k x=jC g' r')(hok:KU g r->KU g' r') Q
 (iY:∀R h,KU g r->(aj (aj (uj r.pv g.prop) (wE g r)) Q).p R h->(aj (uj r'.pv g'.prop) (wE g' r')).p R h):
 aR prog (cv t (.pointer (some ⟨b,k,none⟩)) x) (aj (aO b g r) Q) (λv=>aA (v=cE) (aO b g' r')):=by
 refine aR.cM (φ:=KU g r) (λR h H=>(ai H).1) λhro=>?_;refine(Zv (cs':=(jC g' r').toArray) (e:=162) hi hz (k:=k) (cs:=(jC g r).toArray) hx h1 (by simp[BP];exact hk) (by rw[<-uN];simp) (aj (aj (uj r.pv g.prop) (wE g r)) Q)).aK (λR h H=>au (ae H (λ_ h=>h.2) λ_ h=>h)) ?_;rintro v R h ⟨e,H⟩;exact⟨e,hok hro,ae H (λ_ h=>h) λy hy=>iY R y hro hy⟩
theorem aig{t}{i}(hi:prog.info? t=some i)(hz:i.size=1){k}(hk:k<24){x}(hx:x.cells= #[x])(h1:x.oneCell'=true){g'}(uN:(jC g r).set k x=jC g' r)(hok:KU g r->KU g' r)(hp:g'.prop=g.prop)(hw:g'.own=g.own):
 aR prog (cv t (.pointer (some ⟨b,k,none⟩)) x) (aO b g r) (λv=>aA (v=cE) (aO b g' r)):=
 (aSt (Q:=tt) hi hz hk hx h1 uN hok (λR h _ H=>by
   have:=ai H;unfold wE at*;rw[hp,hw];exact this)).aK (λR h H=>aD H) λ_ _ _ h=>h
theorem ZU{k}(hk:k<24){x}{g'}(uN:(jC g r).set k (an x)=jC g' r)(ho:g'.old=g.old)(G7:g'.aQ.ch=g.aQ.ch)(hp:g'.prop=g.prop)(hw:g'.own=g.own):
 aR prog (cv 3 (.pointer (some ⟨b,k,none⟩)) (an x)) (aO b g r) (λv=>aA (v=cE) (aO b g' r)):=by
 obtain⟨i,hi,z1,z2,z3⟩:=info_parts jS;exact aig hi z2 hk rfl rfl uN (λh=>⟨by rw[ho];exact h.o,by rw[G7];exact h.p,h.ob,h.pb,by rw[hw];exact h.wb⟩) hp hw
theorem aih{k}(hk:k<24){x}{g'}(uN:(jC g r).set k (.bool x)=jC g' r)(ho:g'.old=g.old)(G7:g'.aQ=g.aQ)(hp:g'.prop=g.prop)(hw:g'.own=g.own):
 aR prog (cv 4 (.pointer (some ⟨b,k,none⟩)) (.bool x)) (aO b g r) (λv=>aA (v=cE) (aO b g' r)):=by
 obtain⟨i,hi,z1,z2,z3⟩:=info_parts L0;exact aig hi z2 hk rfl rfl uN (λh=>⟨by rw[ho];exact h.o,by rw[G7];exact h.p,h.ob,h.pb,by rw[hw];exact h.wb⟩) hp hw
theorem BS{f}{args:Value->dI}{s}{B:Value->HP}{K}(hp:g.prop=some s)(t:∀pb,az prog f (args (pt pb)) (aj (eY pb s) K) (λv=>aj (B v) (eY pb s))):
 az prog f (args (eD (.pointer r.pv))) (aj (aO b g r) K) (λv=>aj (B v) (aO b g r)):=by
 refine(az.ex (A:=λpb=>aA (r.pv=some ⟨pb,0,none⟩/\KU g r) (aj (aj (eY pb s) K) (aj (zS b g r) (wE g r)))) λpb=>az.pure λ⟨e,hok⟩=>?_).aK (λR h H=>?_) λ_ _ _ h=>h
 ·rw[e];refine((t pb).frame (aj (zS b g r) (wE g r))).wk λv R h H=>?_;have H1:=au H;refine ae H1 (λ_ h=>h) λy hy=>⟨hok,?_⟩;have H2:=HP.pick [eY pb s,zS b g r,wE g r] [1,0,2] (by decide) rfl hy;refine ae H2 (λ_ h=>h) λz hz=>ae hz (λw hw=>?_) λ_ h=>h;rw[hp,e];exact⟨pb,rfl,hw⟩
 ·obtain⟨h1,h2,d,l1,l2,⟨hok,H⟩,HK⟩:=H;rw[hp]at H;obtain⟨h3,h4,d2,l3,l4,HO,h5,h6,d3,l5,l6,⟨pb,e,HB⟩,HR⟩:=H;refine⟨pb,⟨e,hok⟩,?_⟩;have H9:(aj (aj (zS b g r) (aj (eY pb s) (wE g r))) K).p R h:=⟨h1,h2,d,l1,l2,⟨h3,h4,d2,l3,l4,HO,h5,h6,d3,l5,l6,HB,HR⟩,HK⟩;have H10:=ae (au H9) (λ_ h=>h) λy hy=>au hy;exact aC (HP.pick [zS b g r,eY pb s,wE g r,K] [1,3,0,2] (by decide) rfl H10)
theorem ye{f}{args:Value->dI}{s}{φ:Value->Prop}(hp:g.prop=some s)(t:∀pb,az prog f (args (pt pb)) (eY pb s) (λv=>aA (φ v) (eY pb s))):
 az prog f (args (eD (.pointer r.pv))) (aO b g r) (λv=>aA (φ v) (aO b g r)):=
 (BS (B:=λv=>HP.pure (φ v)) (K:=tt) hp λpb=>(t pb).aK (λR h H=>ai H) λv R h ⟨e,H⟩=>Az H e).aK (λR h H=>aD H) λv R h H=>⟨ai H,ah H⟩
theorem yf{s}(hp:g.prop=some s):az prog 148 #[eD (.pointer r.pv)] (aO b g r) (λv=>aA (v=an s.phase) (aO b g r)):=ye (args:=λp=> #[p]) hp λpb=>Md pb s
theorem uY{s}(hp:g.prop=some s):az prog 151 #[eD (.pointer r.pv)] (aO b g r) (λv=>aA (v=.agg #[an s.lf,an s.cS]) (aO b g r)):=ye (args:=λp=> #[p]) hp λpb=>I8 pb s
theorem Mh{s}(hp:g.prop=some s) u:az prog 216 #[eD (.pointer r.pv),an u] (aO b g r) (λv=>aA (v=.bool (jh s u)) (aO b g r)):=ye (args:=λp=> #[p,an u]) hp λpb=>Mf pb s u
theorem Rn{s}(hp:g.prop=some s):az prog 153 #[eD (.pointer r.pv)] (aO b g r) (λv=>aE λa=>aE λc=>aA (v=.slice a s.val.length c) (aj (bE a s.val.length s.val) (aO b g r))):=
 (BS (args:=λp=> #[p]) (B:=λv=>aE λa=>aE λc=>aA (v=.slice a s.val.length c) (bE a s.val.length s.val)) (K:=tt) hp λpb=>(Me pb s).aK (λR h H=>ai H) λv R h ⟨a,c,e,H⟩=>ae H (λ_ h=>⟨a,c,e,h⟩) λ_ h=>h).aK (λR h H=>aD H) λv R h ⟨h1,h2,d,l1,l2,⟨a,c,e,H1⟩,H2⟩=>⟨a,c,e,h1,h2,d,l1,l2,H1,H2⟩
theorem Ro:az prog 162 #[pt b] (aO b g r) (λv=>aA (v=an g.st) (aO b g r)):=by
 refine ao (ρ:=[.n b,.p (aO b g r)]) {fk:=[160],aF:=kj,dN:=true,dv:=true,ck:=[160]} BN ui 2 ?_;exact⟨g.st,sj rfl,.of λR h H=>⟨rfl,H⟩⟩
theorem np(h0:0<=g.old.ep)(h1:g.old.ep<=2147483647):az prog 154 #[pt b] (aO b g r) (λv=>aA (v=an (g.old.ep+1)) (aO b g r)):=by
 refine ao (ρ:=[.n b,.p (aO b g r)]) {fk:=[160],aF:=kj,dN:=true,dv:=true,ck:=[160]} BN ui 2 ?_;exact⟨g.old.ep,sj rfl,bh _ (by omega) (by omega),λ_=>.of λR h H=>⟨rfl,H⟩⟩
theorem aii:xC prog 278:=⟨_,Tryz.func278,by kernel_rfl,by kernel_rfl⟩
def p8(p:rx)(u:Int):Bool:=p.ch.any λc=>decide (u∈c)
theorem Jb u:az prog 249 #[pt b,an u] (aO b g r) (λv=>aA (v=.bool (p8 g.aQ u)) (aO b g r)):=by
 refine az.cM (φ:=KU g r) (λR h H=>H.1) λhok=>?_;refine ao (ρ:=[.n b,.p (aO b g r),.i u]) {fk:=[160],aF:=kj,dN:=true,dv:=true,ck:=[160]} [(.ptr 0 0),2] ui 3 ?_;intro x;refine⟨r.pa,r.iG.length,r.pc,am0 rfl,?_⟩;refine(Du (aO b g r) (HP.one x (.cells #[an u] 3 (0,0))) r.pa r.iG.length r.pc r.iG (λR h H=>(aO.ro H).2.2) (by have:=hok.pb.1;omega) (.func (.func 278) #[] #[pt x]) rfl (λy=>decide (u∈y.l)) λy hy=>?_).wk ?_
 ·refine .inl ⟨_,_,rfl,aii,?_⟩;refine(cC (ρ:=[.a y.a,.n y.l.length,.n y.c,.p (aO b g r),.n x,.i u]) (post:=λv=>aA (v=.bool (decide (u∈y.l))) (aj (aO b g r) (HP.one x (.cells #[an u] 3 (0,0))))) mixed Tryz.func278 BO ?_).aK (λR h H=>ak H) λv R h ⟨e,H⟩=>⟨e,ak H⟩;unfold zp;refine Iz ?_;refine(ww (aO b g r) y.a y.l.length y.c y.l (.of λR h H=>(aO.ro H).2.2.2.2 y hy) rfl (by have:=hok.pb.2 y hy;omega) u).wk ?_;rintro v R h ⟨rfl,H⟩;exact⟨_,rfl,.of λR h H=>⟨rfl,H⟩,H⟩
 ·rintro v R h ⟨rfl,H⟩;refine⟨_,rfl,.of λR h H=>⟨?_,?_⟩,H⟩
  ·congr 1;unfold p8;rw[<-hok.p,List.any_map];rfl
  ·first|exact H|exact ai H
def iH(g:cg)(u:Nat):Bool:=
 if g.st=1 then decide ((u:Int)<g.cL)&& !g.bV u
 else if g.st=2 then(match g.prop with|some s=>jh s u|none=>false)
 else if g.st=3 then !g.bV u&&p8 g.aQ u
 else false
theorem Rq(u:Nat)(hu:u<7)(hp:g.st=2->g.prop.isSome=true):az prog 212 #[pt b,an u] (aO b g r) (λv=>aA (v=.bool (iH g u)) (aO b g r)):=by
 refine ao (ρ:=[.n b,.p (aO b g r),.i u]) {fk:=[160],aF:=kj,dN:=true,dv:=true,ck:=[160]} [(.ptr 0 0),2] ui 3 ?_
 try simp only[p7,ne_eq,Nat.reduceEqDiff,not_false_eq_true]
 refine⟨g.st,sj rfl,λh1=>⟨g.cL,sj rfl,λh2=>?_,λh2=>?_⟩,λh1=>⟨λh2=>?_,λh2=>⟨λh3=>?_,λh3=>?_⟩⟩⟩
 ·refine⟨.pointer (some ⟨b,5+u,none⟩),Bx uf zj zN rfl hu,g.bV u,VN hu,.of λR h H=>⟨?_,H⟩⟩;simp only[iH,aB h1,decide_eq_true h2,Bool.true_and]
 ·refine .of λR h H=>⟨?_,H⟩;simp only[iH,aB h1,decide_eq_false h2,Bool.false_and]
 ·obtain⟨s,hs⟩:=Option.isSome_iff_exists.1 (hp h2);refine⟨.pointer r.pv,zT,?_⟩;refine(Mh hs u).wk ?_;rintro v R h ⟨rfl,H⟩;refine⟨_,rfl,.of λR h H=>⟨?_,H⟩,H⟩;simp only[iH,aq h1,aB h2,hs]
 ·refine⟨.pointer (some ⟨b,5+u,none⟩),Bx uf zj zN rfl hu,g.bV u,VN hu,λh4=>?_,λh4=>?_⟩
  ·refine(Jb u).wk ?_;rintro v R h ⟨rfl,H⟩;refine⟨_,rfl,.of λR h H=>⟨?_,H⟩,H⟩;simp only[iH,aq h1,aq h2,aB h3];have:g.bV u=false:=by simpa using h4
   rw[this];rfl
  ·refine .of λR h H=>⟨?_,H⟩;simp only[iH,aq h1,aq h2,aB h3];have:g.bV u=true:=by simpa using h4
   rw[this];rfl
 ·refine .of λR h H=>⟨?_,H⟩;simp only[iH,aq h1,aq h2,aq h3]
def iI(g:cg)(u:Nat):MS:=
 if g.st=2 then(match g.prop with
  |some s=>⟨0,u,0,false,if s.phase=2 then 7 else 6,g.old.ep+1,g.old.ep+1,zC,s.lf,s.cS,if s.phase=2 then s.val else[],0,0,0,0⟩
  |none=>⟨0,u,0,false,4,g.old.ep+1,0,zC,0,0,[],0,0,0,0⟩)
 else⟨0,u,0,false,4,g.old.ep+1,0,zC,0,0,[],0,0,0,0⟩
theorem ZV(u:Nat)(h0:0<=g.old.ep)(h1:g.old.ep<=2147483647)(hp:g.st=2->g.prop.isSome=true)(hs:∀s,g.prop=some s->s.val.length<=140737488355328):
 az prog 213 #[pt b,an u] (aO b g r) (λv=>aE λva=>aE λvc=>aA (v=.agg ((iI g u).ee none 0 va vc).aJ) (aj ((iI g u).cI va) (aO b g r))):=by
 refine ao (ρ:=[.n b,.p (aO b g r),.i u]) {fk:=[160],aF:=kj,dN:=true,dv:=true,ck:=[160]} [(.ptr 0 0),2] ui 3 ?_;intro _;refine(np h0 h1).wk ?_;rintro v R h ⟨rfl,H⟩;refine⟨_,rfl,λ_=>⟨g.st,sj rfl,λh2=>⟨.pointer r.pv,zT,?_⟩,λh2=>.of λR h H=>⟨none,0,?_,?_⟩⟩,H⟩
 ·obtain⟨s,hsp⟩:=Option.isSome_iff_exists.1 (hp h2)
  have ea:iI g u=⟨0,u,0,false,if s.phase=2 then 7 else 6,g.old.ep+1,g.old.ep+1,zC,s.lf,s.cS,if s.phase=2 then s.val else[],0,0,0,0⟩:=by
   unfold iI;rw[aB h2,hsp]
  clear H;refine(np h0 h1).wk ?_;rintro v R h ⟨rfl,H⟩;refine⟨_,rfl,?_,H⟩;refine(uY hsp).wk ?_;rintro v R h ⟨rfl,H⟩;refine⟨_,_,rfl,⟨.pointer r.pv,zT,?_⟩,H⟩;refine(yf hsp).wk ?_;rintro v R h ⟨rfl,H⟩;refine⟨_,rfl,⟨λh3=>⟨.pointer r.pv,zT,?_⟩,λh3=>.of λR h H=>⟨none,0,?_,?_⟩⟩,H⟩
  ·clear H;refine(Rn hsp).wk ?_;rintro v R h ⟨a1,c1,rfl,H⟩;refine⟨a1,_,c1,bE a1 s.val.length s.val,rfl,?_,H⟩;clear H;refine(gi (bE a1 s.val.length s.val) a1 s.val.length c1 s.val (bX.ro _ _ _ _) rfl (hs s hsp)).wk ?_;rintro v R h ⟨a2,c2,rfl,H⟩;refine⟨a2,_,c2,bE a2 s.val.length s.val,_,rfl,.of λR h H=>⟨a2,c2,?_,?_⟩,H⟩
   ·rw[ea];simp only[aB h3];rfl
   ·rw[ea];simp only[aB h3];exact ak H
  ·rw[ea];simp only[aq h3];rfl
  ·rw[ea];simp only[aq h3];exact bN.join (rZ none:(bE none 0 []).p R h) H
 ·unfold iI;rw[aq h2];rfl
 ·unfold iI;rw[aq h2];exact bN.join (rZ none:(bE none 0 []).p R h) H
end
structure p9 where
 m:MS
 ca:aG
 cc:Nat
 va:aG
 vc:Nat
abbrev p9.aJ(x:p9):dI:=(x.m.ee x.ca x.cc x.va x.vc).aJ
def Ge:o5 p9:=⟨16,by decide,λx=>x.aJ.toList,λ_=>rfl,λx=>HP.both (x.m.cW x.ca) (x.m.cI x.va),λ_ _ _ _ H=>H⟩
theorem Gf:∀x,∀u∈Ge.aJ x,u.oneCell'=true:=λx u hu=>by
 simp only[Ge,p9.aJ,MR.aJ,List.mem_cons,List.not_mem_nil,or_false]at hu;rcases hu with h|h|h|h|h|h|h|h|h|h|h|h|h|h|h|h<;>(subst h;rfl)
abbrev eI:PK p9:=Zt Ge 64 Gf
theorem aer:(prog.info? 64).map (λi=>(i.zero.map (λz=>z.cells.size),i.zero.isSome,i.size,i.bytes))=some (some 16,true,16,160):=by kernel_rfl
theorem O2:∃i z,prog.info? 64=some i/\i.zero=some z/\z.cells.size=i.size/\i.size=16/\i.bytes=160:=by
 obtain⟨Um,hi,hz⟩:=Option.map_eq_some_iff.1 aer;simp only[Prod.mk.injEq,Option.map_eq_some_iff]at hz;obtain⟨⟨z,YH,To⟩,_,Tp,Zm⟩:=hz;exact⟨Um,z,hi,YH,by rw[To,Tp],Tp,Zm⟩
theorem Mi:prog.underlying 57=some (.slice 64):=by kernel_rfl
theorem aij:gZ prog 64=true:=by kernel_rfl
theorem am3:iA prog 64=16:=by kernel_rfl
theorem aik{S}{a}{n}{l}(hS:∀R h,S.p R h->(Ls Ge a n l).p R h){k:Nat}{x}(hk:l[k]? =some x):
 aM prog (bO 64 (.pointer (a.map λy=>(y.add ((k:Int).toNat*16)).add 0))) S (.agg x.aJ):=by
 obtain⟨d,hd⟩:∃d,prog.underlying 64=some d:=Option.isSome_iff_exists.1 (by kernel_rfl);have:=aM.aT (.of hS) (Ls.load (K:=Ge) hd aij am3 hk);simpa[Ge]using this
set_option maxHeartbeats 1000000 in
theorem Mj S Q a n c l(hS:∀R h,S.p R h->(Ls Ge a n l).p R h)(hn:n<=1000000000) fv(h1:eD fv=fv)(p:p9->Bool)
 (hf:∀x∈l,jG prog fv #[.agg x.aJ] (aj Q S) λv=>aA (v=.bool (p x)) (aj Q S)):
 az prog 142 #[.slice a n c,fv] (aj S Q) (λv=>aE λr:Int=>aA (v=an r/\(0<=r↔l.any p=true)) (aj S Q)):=by
 refine az.cM (φ:=l.length=n/\(n≠0->a.isSome=true)) (λR h H=>⟨(hS R _ (ai H)).1,λhn=>bN.some (hS R _ (ai H)).2.1 (by omega)⟩) λ⟨hl,hs⟩=>?_;have:=cC (ρ:=[.a a,.n n,.n c,.p S,.v fv,.p Q]) mixed Tryz.func142 (t:=xY) (post:=λv=>aE λr:Int=>aA (v=an r/\(0<=r↔l.any p=true)) (aj S Q)) F4 ?_
 ·simpa[W.den,RX.A.den,SA.den,E.den,RX.look,h1,cT,jH]using this
 unfold xY;refine Iz ?_
 try simp only[h1,ne_eq,Nat.reduceEqDiff,not_false_eq_true]
 refine⟨λ_ i P=>∃k:Nat,i=k/\k<=n/\Q=P/\∀(j:Nat) (x:p9),j<k->l[j]? =some x->p x=false,λ_ i _=>n - i.toNat,⟨0,rfl,Nat.zero_le _,rfl,λq x h=>by omega⟩,?_⟩;rintro _ _ _ ⟨k,rfl,hk,rfl,hall⟩;refine⟨λhlt=>⟨by omega,λ_=>⟨hs (by omega),λ_=>?_⟩⟩,λlH=>.of λR h H=>⟨-1,⟨rfl,?_⟩,H⟩⟩
 ·have ki:k<l.length:=by omega
  obtain⟨x,hx⟩:∃x,l[k]? =some x:=⟨l[k],List.getElem?_eq_getElem ki⟩;refine⟨x.m.fr,x.m.to,x.m.num,x.m.bV,x.m.kind,x.m.ep,x.m.at',x.m.cell.what,x.ca,x.m.cell.data.length,x.cc,x.m.br,x.m.bw,x.va,x.m.val.length,x.vc,x.m.err,x.m.tail,x.m.low,x.m.back,aik hS hx,?_⟩;refine(hf x (List.mem_of_getElem? hx)).wk ?_;rintro v R h ⟨rfl,H⟩;refine⟨p x,Q,rfl,⟨λhp=>.of λR h H=>⟨k,⟨rfl,⟨λ_=>List.any_eq_true.2 ⟨x,List.mem_of_getElem? hx,hp⟩,λ_=>by omega⟩⟩,H⟩,λhp=>⟨bh _ (by omega) (by omega),λ_=>⟨⟨k+1,by omega,by omega,rfl,λq y hq hy=>?_⟩,by dsimp only;omega⟩⟩⟩,H⟩;rcases Nat.lt_or_ge q k with h|h
  ·exact hall q y h hy
  ·obtain rfl:q=k:=by omega
   rw[hx]at hy;cases hy;simpa using hp
 ·refine⟨λh=>by omega,λh=>?_⟩;obtain⟨x,hx,hp⟩:=List.any_eq_true.1 h;obtain⟨q,hq,rfl⟩:=List.mem_iff_getElem.1 hx;have:=hall q l[q] (by omega) (List.getElem?_eq_getElem hq);rw[hp]at this;cases this
theorem uk S Q a n c l(hS:∀R h,S.p R h->(Ls Ge a n l).p R h)(hn:n<=1000000000) fv(h1:eD fv=fv) p
 (hf:∀x∈l,jG prog fv #[.agg x.aJ] (aj Q S) λv=>aA (v=.bool (p x)) (aj Q S)):
 az prog 78 #[.slice a n c,fv] (aj S Q) (λv=>aA (v=.bool (l.any p)) (aj S Q)):=by
 have:=cC (ρ:=[.a a,.n n,.n c,.p S,.v fv,.p Q]) mixed Tryz.func78 (t:=qL) (post:=λv=>aA (v=.bool (l.any p)) (aj S Q)) zQ ?_
 ·simpa[W.den,RX.A.den,SA.den,E.den,RX.look,h1,cT,jH]using this
 unfold qL;refine Iz ?_
 try simp only[h1,ne_eq,Nat.reduceEqDiff,not_false_eq_true]
 refine(Mj S Q a n c l hS hn fv h1 p hf).wk ?_;rintro v R h ⟨r,⟨rfl,xF⟩,H⟩;refine⟨r,S,Q,rfl,.of λR h H=>⟨?_,H⟩,H⟩;congr 1;rw[Bool.eq_iff_iff,decide_eq_true_eq];exact xF
def pe(g:cg):MS:=⟨0,7,0,false,9,g.old.ep+1,g.tail,zC,0,0,[],0,0,0,0⟩
def dF(g:cg):List MS:=if g.st=4 then[pe g]else((List.range 7).filter (iH g)).map (iI g)
theorem VO p{u m}(hu:u<m)(h:p u=true):((List.range m).filter p)[((List.range u).filter p).length]? =some u:=by
 have e:List.range m=List.range u++u::(List.range' (u+1) (m - u - 1)):=by
  rw[List.range_eq_range',List.range_eq_range',show u::List.range' (u+1) (m - u - 1)=List.range' u (m - u)from by
   rw[show m - u=(m - u - 1)+1 by omega,List.range'_succ];simp]
  rw[show List.range' u (m - u)=List.range' (0+1*u) (m - u) by simp,List.range'_append];congr 1;omega
 rw[e,List.filter_append,List.getElem?_append_right (Nat.le_refl _),Nat.sub_self,List.filter_cons,aB h];rfl
theorem tD p u:((List.range (u+1)).filter p).length=((List.range u).filter p).length+if p u=true then 1 else 0:=by
 rw[List.range_succ,List.filter_append,List.length_append];congr 1
 by_cases h:p u=true<;>simp[h]
section
variable {b:Nat}{g:cg}{r:Gc}
def Rs(x b:Nat):HP:=HP.one x (.cells #[pt b] 85 (0,0))
def aes(g:cg)(k:Nat)(args:dI)(k':Nat):Prop:=∃m va vc,(dF g)[k]? =some m/\args= #[.agg (m.ee none 0 va vc).aJ]/\k'=k+1
def prA(g:cg)(k:Nat)(args:dI):HP:=aE λm:MS=>aE λva=>aE λvc=>aA ((dF g)[k]? =some m/\args= #[.agg (m.ee none 0 va vc).aJ]) (m.cI va)
theorem ail:xC prog 211:=⟨_,Tryz.func211,by kernel_rfl,by kernel_rfl⟩
structure ri(g:cg):Prop where
 e0:0<=g.old.ep
 e1:g.old.ep<=2147483647
 p2:g.st=2->g.prop.isSome=true
 vl:∀s,g.prop=some s->s.val.length<=100000000
theorem Jc(hs:ri g) x:xH prog (.func (.func 211) #[] #[pt x]) (aj (Rs x b) (aO b g r)) (λ_:Nat=>tt) (prA g) (aes g) (λk=>k=(dF g).length) 0:=by
 refine⟨_,_,rfl,ail,λl K Jx hr=>?_⟩;refine(cC (ρ:=[.v (.func (.yield l) #[] #[]),.p (K 0),.n x,.n b,.p (aO b g r)]) mixed Tryz.func211 Ja ?_).aK (λR h H=>?_) λ_ _ _ h=>h;rotate_left
 ·exact HP.pick [Rs x b,aO b g r,tt,K 0] [3,0,1] (by decide) rfl (au H)
 unfold I9;refine Iz ?_
 have iW:∀J:HP,HP.aT J (jp (λ_:Nat=>tt) K Jx (λk=>k=(dF g).length))->HP.aT (aj J (aj (HP.one x (.cells #[pt b] 85 (0,0))) (aO b g r))) (aj (aj (Rs x b) (aO b g r)) (jp (λ_:Nat=>tt) K Jx (λk=>k=(dF g).length))):=λJ hJ=>
  (HP.aT.of λR h H=>ak H).trans (HP.aT.gX (.refl _) hJ)
 have done:∀k,k=(dF g).length->HP.aT (K k) (jp (λ_:Nat=>tt) K Jx (λk=>k=(dF g).length)):=λk hk=>.of λR h H=>⟨some k,hk,aW H⟩;refine⟨g.st,sj rfl,λh4=>?_,λh4=>?_⟩
 ·have hL:dF g=[pe g]:=aB h4;refine⟨g.tail,sj rfl,?_⟩;refine(np hs.e0 hs.e1).wk ?_;rintro v R h ⟨rfl,H⟩;refine⟨_,rfl,?_,H⟩;clear H;have hm:(dF g)[0]? =some (pe g):=by rw[hL];rfl
  refine(hr 0 #[.agg ((pe g).ee none 0 none 0).aJ] ⟨1,pe g,none,0,hm,rfl,rfl⟩).bv (K:=tt) (.of λR h H=>aD ?_) λv=>.of λR h H=>?_
  ·refine⟨PH.cV,h,PH.eL _,PH.dB _,PH.le.refl _,⟨pe g,none,0,⟨hm,rfl⟩,bN.nil _ _ _ _⟩,aW H⟩
  ·obtain⟨b',rfl,hb⟩:=ai H;cases b' with
   |true=>
    obtain⟨g',⟨_,_,_,_,_,rfl⟩,H2⟩:=hb;exact⟨true,K 1,rfl,iW _ (done 1 (by rw[hL];rfl)),ah H2⟩
   |false=>exact⟨false,Jx,rfl,iW _ (.of λR h H=>⟨none,H⟩),hb⟩
 ·have hL:dF g=((List.range 7).filter (iH g)).map (iI g):=aq h4;refine⟨λi p=>∃u:Nat,i=u/\u<=7/\p=K ((List.range u).filter (iH g)).length,λi _=>7 - i.toNat,⟨0,rfl,Nat.zero_le _,rfl⟩,?_⟩;rintro _ _ ⟨u,rfl,hu,rfl⟩;refine⟨λhlt=>?_,λlH=>?_⟩
  ·have hu7:u<7:=by omega
   refine(Rq u hu7 hs.p2).wk ?_;rintro v R h ⟨rfl,H⟩;refine⟨_,rfl,⟨λha=>?_,λha=>⟨bh _ (by omega) (by omega),λ_=>⟨⟨u+1,by omega,by omega,?_⟩,by dsimp only;omega⟩⟩⟩,H⟩
   ·clear H;have hm:(dF g)[((List.range u).filter (iH g)).length]? =some (iI g u):=by rw[hL,List.getElem?_map,VO _ hu7 ha];rfl
    refine(ZV u hs.e0 hs.e1 hs.p2 λs h=>by have:=hs.vl s h;omega).wk ?_;rintro v R h ⟨va,vc,rfl,H⟩;refine⟨(iI g u).fr,(iI g u).to,(iI g u).num,(iI g u).bV,(iI g u).kind,(iI g u).ep,(iI g u).at',(iI g u).cell.what,none,(iI g u).cell.data.length,0,tt,(iI g u).br,(iI g u).bw,va,(iI g u).val.length,vc,(iI g u).cI va,(iI g u).err,(iI g u).tail,(iI g u).low,(iI g u).back,rfl,?_,aW H⟩;clear H;refine(hr _ #[.agg ((iI g u).ee none 0 va vc).aJ] ⟨_,iI g u,va,vc,hm,rfl,rfl⟩).bv (K:=aj tt ((iI g u).cI va)) (.of λR h H=>?_) λv=>.of λR h H=>?_
    ·have hv0:((iI g u).cI va).p R h:=ah (ah H);have hv:∀h',((iI g u).cI va).p R h':=λ_=>hv0;exact ae H (λy hy=>⟨PH.cV,y,PH.eL _,PH.dB _,PH.le.refl _,⟨iI g u,va,vc,⟨hm,rfl⟩,hv _⟩,aW hy⟩) λ_ h=>h
    ·obtain⟨h1,h2,dd,l1,l2,⟨b',rfl,hb⟩,HV⟩:=H;cases b' with
     |true=>
      obtain⟨g',⟨_,_,_,_,_,rfl⟩,H2⟩:=hb;refine⟨true,_,rfl,⟨λh=>absurd rfl h,λ_=>⟨bh _ (by omega) (by omega),λ_=>⟨⟨u+1,by omega,by omega,?_⟩,by dsimp only;omega⟩⟩⟩,h1,h2,dd,l1,l2,ah H2,HV⟩;rw[tD,aB ha]
     |false=>exact⟨false,Jx,rfl,⟨λ_=>iW _ (.of λR h H=>⟨none,H⟩),λh=>by cases h⟩,h1,h2,dd,l1,l2,hb,HV⟩
   ·rw[tD,aq ha];rfl
  ·obtain rfl:u=7:=by omega
   exact iW _ (done _ (by rw[hL,List.length_map]))
theorem Jd:az prog 143 #[pt b] (aO b g r) (λv=>aE λx=>aA (v=.func (.func 211) #[] #[pt x]) (aj (Rs x b) (aO b g r))):=by
 refine ao (ρ:=[.n b,.p (aO b g r)]) {fk:=[160],aF:=kj,dN:=true,dv:=true,ck:=[160]} BN ui 2 ?_;exact λx=>.of λR h H=>⟨x,rfl,ak H⟩
theorem aet{m:MS}{va Mc}{vc Tt}(h:(#[.agg (m.ee none 0 va vc).aJ]:dI)= #[.agg (m.ee none 0 Mc Tt).aJ]):va=Mc/\vc=Tt:=by
 simp[MR.aJ]at h;exact h
theorem El g:(dF g).length<=7:=by
 unfold dF;split
 ·simp
 ·rw[List.length_map];have:=List.length_filter_le (iH g) (List.range 7)
  rwa [List.length_range]at this
set_option maxHeartbeats 1000000 in
theorem Em(hs:ri g):az prog 79 #[pt b] (aO b g r) (λv=>aE λa=>aE λc=>aE λes:List p9=>aA (v=.slice a es.length c/\es.map (·.m)=dF g) (aj (PL eI a es.length c es) (aO b g r))):=by
 refine ao (ρ:=[.n b,.p (aO b g r)]) {fk:=[160],hv:=[(0,[(.b 2)])],aF:=kj,link:=[(143,0)],YA:=[(0,[64])],dN:=true,dv:=true,ck:=[160]} BN ui 2 ?_;intro _;refine Jd.wk ?_;rintro v R h ⟨x,rfl,H⟩;refine⟨.func (.func 211) #[] #[pt x],Rs x b,rfl,λ_=>?_,H⟩;clear H;obtain⟨i,z,hi,h1,h2,h3,h4⟩:=O2;refine⟨Nat,λ_=>tt,prA g,aes g,λk=>k=(dF g).length,0,λk a n c q=>∃es:List p9,n=es.length/\es.map (·.m)=(dF g).take k/\k<=(dF g).length/\HP.aT q (PL eI a n c es),Jc hs x,?_,?_,?_,?_⟩
 ·exact⟨[],rfl,rfl,Nat.zero_le _,.of λR h _=>wd _ R h⟩
 ·intros;rfl
 ·rintro k args ⟨k',m,va,vc,hm,rfl,rfl⟩ a n c q ⟨es,rfl,he,hk,hq⟩;have ki:k<(dF g).length:=(List.getElem?_eq_some_iff.1 hm).1;have h7:=El g
  have Ts:es.length=k:=by
   have:=congrArg List.length he;simp at this;omega
  refine⟨m.fr,m.to,m.num,m.bV,m.kind,m.ep,m.at',m.cell.what,none,m.cell.data.length,0,bE none 0 [],m.br,m.bw,va,m.val.length,vc,m.cI va,m.err,m.tail,m.low,m.back,rfl,.of λR h H=>?_,λ_ e=>?_⟩
  ·obtain⟨m',Mc,Tt,⟨hm',ha⟩,H⟩:=H;rw[hm]at hm';cases hm';obtain⟨rfl,rfl⟩:=aet ha;exact bN.join (rZ none:(bE none 0 []).p R h) H
  ·have am6:m.cell=zC:=by
    have:m∈dF g:=List.mem_of_getElem? hm;unfold dF at this;split at this
    ·obtain rfl:=List.mem_singleton.1 this;rfl
    ·obtain⟨u,_,rfl⟩:=List.mem_map.1 this;unfold iI;split
     ·split<;>rfl
     ·rfl
   have rE:m.cell.data=[]:=by rw[am6];rfl
   refine(Vb (K:=eI) 57 57 Mi hi h1 h2 h3 (by rw[h4];decide) a es.length c es e ⟨m,none,0,va,vc⟩ (aj (bE none 0 []) (m.cI va)) (by omega)).bv (K:=tt) ((hq.aj _).trans (.of λR h H=>aD (ae H (λ_ h=>h) λy hy=>ae hy (λ_ h=>h) λz hz=>?_))) λv=>.of λR h H=>?_
   ·exact⟨PH.cV,z,PH.eL _,PH.dB _,PH.le.refl _,⟨by rw[show(⟨m,none,0,va,vc⟩:p9).m.cW (⟨m,none,0,va,vc⟩:p9).ca=bE none m.cell.data.length m.cell.data from rfl,rE];exact rZ none,(ah hz:(m.cI va).p R _)⟩,hz⟩
   ·obtain⟨a',c',rfl,H2⟩:=ai H;refine⟨a',es.length+1,c',PL eI a' (es.length+1) c' (es++[⟨m,none,0,va,vc⟩]),rfl,⟨k+1,⟨m,va,vc,hm,rfl,rfl⟩,es++[⟨m,none,0,va,vc⟩],by simp,?_,ki,.refl _⟩,H2⟩;rw[List.take_succ_eq_append_getElem ki,List.map_append,he];rw[List.getElem?_eq_getElem ki]at hm;rw[Option.some.inj hm];rfl
 ·rintro k rfl a n c q ⟨es,rfl,he,hk,hq⟩;rw[List.take_length]at he;exact((HP.aT.refl _).gX hq).trans (.of λR h H=>⟨a,c,es,⟨rfl,he⟩,ak H⟩)
theorem BT(hs:ri g):az prog 144 #[pt b] (aO b g r) (λv=>aA (v=.bool (decide (dF g=[]))) (aO b g r)):=by
 refine ao (ρ:=[.n b,.p (aO b g r)]) {fk:=[160],aF:=kj,link:=[(143,0)],YA:=[(0,[64])],dN:=true,dv:=true,ck:=[160]} BN ui 2 ?_;intro _;refine Jd.wk ?_;rintro v R h ⟨x,rfl,H⟩;refine⟨.func (.func 211) #[] #[pt x],Rs x b,rfl,λ_=>?_,H⟩;clear H;refine⟨Nat,λ_=>tt,prA g,aes g,λk=>k=(dF g).length,0,λk=>k=0,Jc hs x,rfl,λ_ _=>rfl,?_,?_⟩
 ·rintro k args ⟨k',m,va,vc,hm,rfl,rfl⟩ rfl;refine⟨m.fr,m.to,m.num,m.bV,m.kind,m.ep,m.at',m.cell.what,none,m.cell.data.length,0,bE none 0 [],m.br,m.bw,va,m.val.length,vc,tt,m.err,m.tail,m.low,m.back,rfl,.of λR h H=>?_,.of λR h H=>⟨?_,?_⟩⟩
  ·exact aD (rZ none)
  ·rw[decide_eq_false];intro e;rw[e]at hm;cases hm
  ·first|exact H|exact ai H
 ·intro k hk h0;refine .of λR h H=>⟨?_,?_⟩
  ·rw[decide_eq_true];exact List.eq_nil_of_length_eq_zero (by rw[<-hk];exact h0)
  ·first|exact H|exact ai H
end
end
namespace RX
-- adX.am7[[]cH/api.ZW,cH/api.ZW]:no yg gU
-- cH/ZX.arJ:no yg gU
-- cH/ZX.New:no yg gU
-- (*cH/ZX.Net).Put:no yg gU
-- (*cH/ZX.Net).Len:no yg gU
-- (*cH/ZX.Net).place:no yg gU
-- (*cH/ZX.Net).arK:no yg gU
-- (*cH/ZX.Net).arL:no yg gU
-- (*cH/ZX.Net).am8:no yg gU
-- (*cH/ZX.Net).am8$1:no yg gU
-- (*cH/ZX.Net).All:no yg gU
-- cH/rpc.right:no yg gU
-- cH/rpc.ana:no yg gU
-- (*cH/UU.anb).arM:no yg gU
-- cH/rpc.akR:ρ:=[.i aev,.i ain,.i ZY,.c acs,.i aew,.i act,.i aio,.i Tu,.a Rt,.n Ru,.n Rv,.p Rw,.i Mk,.i Rx,.a ZZ,.n Z0,.n Z1,.p Z2,.i agi,.i aex,.i agj,.i aey,.i Z3,.i aez,.i VP,.c YJ,.i Z4,.i YK,.i aeA,.i O3,.a Ml,.n Mm,.n Mn,.p Mo,.i Je,.i Mp,.a VQ,.n VR,.n VS,.p VT,.i acu,.i Z5,.i acv,.i Z6]
abbrev aip:Hp:=[(8,11),(14,17),(30,33),(36,39)]
end RX
section
open RX
theorem VU:(prog.info? 64).bind (·.zero)=some (.agg (gS.ee none 0 none 0).aJ):=by kernel_rfl
def sE(l:ax):Value:=.string ⟨l.toArray⟩
theorem bytes_beq(a b:ax):((⟨a.toArray⟩:ByteArray)==⟨b.toArray⟩)=decide (a=b):=by
 have:((⟨a.toArray⟩:ByteArray)==⟨b.toArray⟩)=(a.toArray==b.toArray):=rfl;rw[this]
 by_cases h:a=b
 ·subst h;simp
 ·simp[h]
theorem Z7{P}{kt}(h:P.underlying kt=some .string):jA P kt sE where
 check em k w:=by
  unfold Instr.checkKey;simp[run_underlying h,sE]
 find k l w:=by
  unfold Instr.findKey
  have hn:∀(l:AL ax) (i:Nat),Instr.findNow .string (sE k) (l.map (vR sE)) i=some (kI k l i):=by
   intro l
   induction l with
   |nil=>intro i;rfl
   |cons x l ih=>
    intro i;simp only[List.map_cons,Instr.findNow,vR,sE,Instr.sameNow,kI,bytes_beq]
    by_cases e:k=x.1
    ·simp[e]
    ·simp only[decide_eq_false e,aq e];exact ih (i+1)
  simp only[Sem.run_bind,run_underlying h,Result.andThen,hn,Sem.run_pure]
 bits k:=by simp[Instr.sameBits,sE,bytes_beq]
end
end Go.Proofs.YtchjlaebbhpioaaGreatDoor
namespace Go.Proofs
open Go.Shelf
def Jf:Go.Shelf.Ren:=⟨λ|137=>236|217=>265|266=>292|n=>n,λ|9=>9|5=>5|3=>3|n=>n,λ|n=>n⟩
theorem Z8:Go.Proofs.Lays.n137 Tryz.prog Jf:={
 mixed:=by kernel_rfl
 f137:=Tryz.func236.trans (congrArg some (by kernel_rfl))
 f217:=Tryz.func265.trans (congrArg some (by kernel_rfl))
 f266:=Tryz.func292.trans (congrArg some (by kernel_rfl))
 t3:=Tryz.underlying3
 a3:=Tryz.isAgg3
 z3:=Tryz.sizeOf3
 v3:=Tryz.zeroValue3
 t5:=Tryz.underlying5
 a5:=Tryz.isAgg5
 z5:=Tryz.sizeOf5
 v5:=Tryz.zeroValue5
 t9:=Tryz.underlying9
 a9:=Tryz.isAgg9
 z9:=Tryz.sizeOf9
 v9:=Tryz.zeroValue9}
open Go.RowKit in
theorem Tryz.strings_IndexByte s c w:
 Calls Tryz.prog 236 #[.string s,.int .u8 c] w λe w'=>e=.returned (.int .i64 (Lib.indexByte s.data.toList c.toNat.toUInt8))/\w'=w:=Any.strings_IndexByte Z8 s c w
def Jg:Go.Shelf.Ren:=⟨λ|143=>264|219=>291|217=>265|225=>313|224=>314|267=>315|266=>292|314=>323|n=>n,λ|9=>9|3=>3|4=>4|5=>5|46=>80|146=>373|51=>143|n=>n,λ|1=>1|n=>n⟩
theorem Z9:Go.Proofs.Lays.n143 Tryz.prog Jg:={
 mixed:=by kernel_rfl
 f143:=Tryz.func264.trans (congrArg some (by kernel_rfl))
 f217:=Tryz.func265.trans (congrArg some (by kernel_rfl))
 f219:=Tryz.func291.trans (congrArg some (by kernel_rfl))
 f224:=Tryz.func314.trans (congrArg some (by kernel_rfl))
 f225:=Tryz.func313.trans (congrArg some (by kernel_rfl))
 f266:=Tryz.func292.trans (congrArg some (by kernel_rfl))
 f267:=Tryz.func315.trans (congrArg some (by kernel_rfl))
 f314:=Tryz.func323.trans (congrArg some (by kernel_rfl))
 t3:=Tryz.underlying3
 a3:=Tryz.isAgg3
 z3:=Tryz.sizeOf3
 v3:=Tryz.zeroValue3
 t4:=Tryz.underlying4
 a4:=Tryz.isAgg4
 z4:=Tryz.sizeOf4
 v4:=Tryz.zeroValue4
 t5:=Tryz.underlying5
 a5:=Tryz.isAgg5
 z5:=Tryz.sizeOf5
 v5:=Tryz.zeroValue5
 t9:=Tryz.underlying9
 a9:=Tryz.isAgg9
 z9:=Tryz.sizeOf9
 v9:=Tryz.zeroValue9
 t46:=Tryz.underlying80
 a46:=Tryz.isAgg80
 z46:=Tryz.sizeOf80
 v46:=Tryz.zeroValue80
 t51:=Tryz.underlying143
 a51:=Tryz.isAgg143
 z51:=Tryz.sizeOf143
 v51:=Tryz.zeroValue143
 t146:=Tryz.underlying373
 a146:=Tryz.isAgg373
 z146:=Tryz.sizeOf373
 v146:=Tryz.zeroValue373
 g1:=by kernel_rfl}
open Go.RowKit Go.Lib in
theorem Tryz.strings_Index_one s c w:
 Calls Tryz.prog 264 #[.string s,.string ⟨#[c]⟩] w λe w'=>e=.returned (.int .i64 (Lib.indexByte s.data.toList c))/\w'=w:=Any.strings_Index_one Z9 s c w
def Jh:Go.Shelf.Ren:=⟨λ|138=>263|195=>288|218=>290|143=>264|219=>291|217=>265|225=>313|224=>314|267=>315|266=>292|314=>323|n=>n,λ|9=>9|3=>3|4=>4|5=>5|0=>0|46=>80|146=>373|51=>143|n=>n,λ|1=>1|n=>n⟩
theorem aaa:Go.Proofs.Lays.n138 Tryz.prog Jh:={
 mixed:=by kernel_rfl
 f138:=Tryz.func263.trans (congrArg some (by kernel_rfl))
 f143:=Tryz.func264.trans (congrArg some (by kernel_rfl))
 f195:=Tryz.func288.trans (congrArg some (by kernel_rfl))
 f217:=Tryz.func265.trans (congrArg some (by kernel_rfl))
 f218:=Tryz.func290.trans (congrArg some (by kernel_rfl))
 f219:=Tryz.func291.trans (congrArg some (by kernel_rfl))
 f224:=Tryz.func314.trans (congrArg some (by kernel_rfl))
 f225:=Tryz.func313.trans (congrArg some (by kernel_rfl))
 f266:=Tryz.func292.trans (congrArg some (by kernel_rfl))
 f267:=Tryz.func315.trans (congrArg some (by kernel_rfl))
 f314:=Tryz.func323.trans (congrArg some (by kernel_rfl))
 t0:=Tryz.underlying0
 a0:=Tryz.isAgg0
 z0:=Tryz.sizeOf0
 v0:=Tryz.zeroValue0
 t3:=Tryz.underlying3
 a3:=Tryz.isAgg3
 z3:=Tryz.sizeOf3
 v3:=Tryz.zeroValue3
 t4:=Tryz.underlying4
 a4:=Tryz.isAgg4
 z4:=Tryz.sizeOf4
 v4:=Tryz.zeroValue4
 t5:=Tryz.underlying5
 a5:=Tryz.isAgg5
 z5:=Tryz.sizeOf5
 v5:=Tryz.zeroValue5
 t9:=Tryz.underlying9
 a9:=Tryz.isAgg9
 z9:=Tryz.sizeOf9
 v9:=Tryz.zeroValue9
 t46:=Tryz.underlying80
 a46:=Tryz.isAgg80
 z46:=Tryz.sizeOf80
 v46:=Tryz.zeroValue80
 t51:=Tryz.underlying143
 a51:=Tryz.isAgg143
 z51:=Tryz.sizeOf143
 v51:=Tryz.zeroValue143
 t146:=Tryz.underlying373
 a146:=Tryz.isAgg373
 z146:=Tryz.sizeOf373
 v146:=Tryz.zeroValue373
 g1:=by kernel_rfl}
open Go.RowKit Go.Lib in
theorem Tryz.strings_Count_one s c w:
 Calls Tryz.prog 263 #[.string s,.string ⟨#[c]⟩] w λe w'=>e=.returned (.int .i64 (Lib.countByte s.data.toList c))/\w'=w:=Any.strings_Count_one aaa s c w
def Ji:Go.Shelf.Ren:=⟨λ|189=>70|125=>119|257=>118|128=>197|129=>198|294=>188|295=>189|296=>190|297=>191|298=>192|299=>193|216=>194|300=>195|301=>196|328=>238|329=>239|330=>240|331=>241|332=>242|215=>243|343=>266|n=>n,λ|28=>23|3=>3|46=>80|0=>0|51=>143|53=>190|4=>4|183=>264|182=>263|131=>269|5=>5|9=>9|218=>305|222=>309|228=>330|229=>96|n=>n,λ|n=>n⟩
theorem O4:Go.Proofs.Lays.n189 Tryz.prog Ji:={
 mixed:=by kernel_rfl
 f125:=Tryz.func119.trans (congrArg some (by kernel_rfl))
 f128:=Tryz.func197.trans (congrArg some (by kernel_rfl))
 f129:=Tryz.func198.trans (congrArg some (by kernel_rfl))
 f189:=Tryz.func70.trans (congrArg some (by kernel_rfl))
 f215:=Tryz.func243.trans (congrArg some (by kernel_rfl))
 f216:=Tryz.func194.trans (congrArg some (by kernel_rfl))
 f257:=Tryz.func118.trans (congrArg some (by kernel_rfl))
 f294:=Tryz.func188.trans (congrArg some (by kernel_rfl))
 f295:=Tryz.func189.trans (congrArg some (by kernel_rfl))
 f296:=Tryz.func190.trans (congrArg some (by kernel_rfl))
 f297:=Tryz.func191.trans (congrArg some (by kernel_rfl))
 f298:=Tryz.func192.trans (congrArg some (by kernel_rfl))
 f299:=Tryz.func193.trans (congrArg some (by kernel_rfl))
 f300:=Tryz.func195.trans (congrArg some (by kernel_rfl))
 f301:=Tryz.func196.trans (congrArg some (by kernel_rfl))
 f328:=Tryz.func238.trans (congrArg some (by kernel_rfl))
 f329:=Tryz.func239.trans (congrArg some (by kernel_rfl))
 f330:=Tryz.func240.trans (congrArg some (by kernel_rfl))
 f331:=Tryz.func241.trans (congrArg some (by kernel_rfl))
 f332:=Tryz.func242.trans (congrArg some (by kernel_rfl))
 f343:=Tryz.func266.trans (congrArg some (by kernel_rfl))
 t0:=Tryz.underlying0
 a0:=Tryz.isAgg0
 z0:=Tryz.sizeOf0
 v0:=Tryz.zeroValue0
 t3:=Tryz.underlying3
 a3:=Tryz.isAgg3
 z3:=Tryz.sizeOf3
 v3:=Tryz.zeroValue3
 t4:=Tryz.underlying4
 a4:=Tryz.isAgg4
 z4:=Tryz.sizeOf4
 v4:=Tryz.zeroValue4
 t5:=Tryz.underlying5
 a5:=Tryz.isAgg5
 z5:=Tryz.sizeOf5
 v5:=Tryz.zeroValue5
 t9:=Tryz.underlying9
 a9:=Tryz.isAgg9
 z9:=Tryz.sizeOf9
 v9:=Tryz.zeroValue9
 t28:=Tryz.underlying23
 a28:=Tryz.isAgg23
 z28:=Tryz.sizeOf23
 v28:=Tryz.zeroValue23
 t46:=Tryz.underlying80
 a46:=Tryz.isAgg80
 z46:=Tryz.sizeOf80
 v46:=Tryz.zeroValue80
 t51:=Tryz.underlying143
 a51:=Tryz.isAgg143
 z51:=Tryz.sizeOf143
 v51:=Tryz.zeroValue143
 t53:=Tryz.underlying190
 a53:=Tryz.isAgg190
 z53:=Tryz.sizeOf190
 v53:=Tryz.zeroValue190
 t131:=Tryz.underlying269
 a131:=Tryz.isAgg269
 z131:=Tryz.sizeOf269
 v131:=Tryz.zeroValue269
 t182:=Tryz.underlying263
 a182:=Tryz.isAgg263
 z182:=Tryz.sizeOf263
 v182:=Tryz.zeroValue263
 t183:=Tryz.underlying264
 a183:=Tryz.isAgg264
 z183:=Tryz.sizeOf264
 v183:=Tryz.zeroValue264
 t218:=Tryz.underlying305
 a218:=Tryz.isAgg305
 z218:=Tryz.sizeOf305
 v218:=Tryz.zeroValue305
 t222:=Tryz.underlying309
 a222:=Tryz.isAgg309
 z222:=Tryz.sizeOf309
 v222:=Tryz.zeroValue309
 t228:=Tryz.underlying330
 a228:=Tryz.isAgg330
 z228:=Tryz.sizeOf330
 v228:=Tryz.zeroValue330
 t229:=Tryz.underlying96
 a229:=Tryz.isAgg96
 z229:=Tryz.sizeOf96
 v229:=Tryz.zeroValue96}
open Go.Sort Go.RowKit in
theorem Tryz.slices_Sort_int blk off cap(zs:List Int) w(hH:Holds (Value.int .i64) w blk off zs.toArray)(hblk:blk<w.heap.size)(hsz:zs.length<4611686018427387904):
 Calls Tryz.prog 70 #[.slice (some ⟨blk,off,none⟩) zs.length cap] w λe w'=>
  e=.returned (.tuple #[])/\∃n os,w'=grow (putRow (Value.int .i64) (Sort.ahead w n) blk off (zs.mergeSort λx y=>decide (x<=y)).toArray) os:=Any.slices_Sort_int O4 blk off cap zs w hH hblk hsz
def Jj:Go.Shelf.Ren:=⟨λ|190=>202|125=>119|258=>246|128=>197|129=>198|302=>267|303=>268|304=>269|305=>270|306=>271|307=>272|308=>273|309=>274|310=>275|333=>293|329=>239|330=>240|334=>294|335=>295|336=>296|344=>316|n=>n,λ|31=>45|9=>9|3=>3|46=>80|0=>0|51=>143|53=>190|4=>4|183=>264|182=>263|131=>269|5=>5|218=>305|222=>309|228=>330|229=>96|n=>n,λ|n=>n⟩
theorem O5:Go.Proofs.Lays.n190 Tryz.prog Jj:={
 mixed:=by kernel_rfl
 f125:=Tryz.func119.trans (congrArg some (by kernel_rfl))
 f128:=Tryz.func197.trans (congrArg some (by kernel_rfl))
 f129:=Tryz.func198.trans (congrArg some (by kernel_rfl))
 f190:=Tryz.func202.trans (congrArg some (by kernel_rfl))
 f258:=Tryz.func246.trans (congrArg some (by kernel_rfl))
 f302:=Tryz.func267.trans (congrArg some (by kernel_rfl))
 f303:=Tryz.func268.trans (congrArg some (by kernel_rfl))
 f304:=Tryz.func269.trans (congrArg some (by kernel_rfl))
 f305:=Tryz.func270.trans (congrArg some (by kernel_rfl))
 f306:=Tryz.func271.trans (congrArg some (by kernel_rfl))
 f307:=Tryz.func272.trans (congrArg some (by kernel_rfl))
 f308:=Tryz.func273.trans (congrArg some (by kernel_rfl))
 f309:=Tryz.func274.trans (congrArg some (by kernel_rfl))
 f310:=Tryz.func275.trans (congrArg some (by kernel_rfl))
 f329:=Tryz.func239.trans (congrArg some (by kernel_rfl))
 f330:=Tryz.func240.trans (congrArg some (by kernel_rfl))
 f333:=Tryz.func293.trans (congrArg some (by kernel_rfl))
 f334:=Tryz.func294.trans (congrArg some (by kernel_rfl))
 f335:=Tryz.func295.trans (congrArg some (by kernel_rfl))
 f336:=Tryz.func296.trans (congrArg some (by kernel_rfl))
 f344:=Tryz.func316.trans (congrArg some (by kernel_rfl))
 t0:=Tryz.underlying0
 a0:=Tryz.isAgg0
 z0:=Tryz.sizeOf0
 v0:=Tryz.zeroValue0
 t3:=Tryz.underlying3
 a3:=Tryz.isAgg3
 z3:=Tryz.sizeOf3
 v3:=Tryz.zeroValue3
 t4:=Tryz.underlying4
 a4:=Tryz.isAgg4
 z4:=Tryz.sizeOf4
 v4:=Tryz.zeroValue4
 t5:=Tryz.underlying5
 a5:=Tryz.isAgg5
 z5:=Tryz.sizeOf5
 v5:=Tryz.zeroValue5
 t9:=Tryz.underlying9
 a9:=Tryz.isAgg9
 z9:=Tryz.sizeOf9
 v9:=Tryz.zeroValue9
 t31:=Tryz.underlying45
 a31:=Tryz.isAgg45
 z31:=Tryz.sizeOf45
 v31:=Tryz.zeroValue45
 t46:=Tryz.underlying80
 a46:=Tryz.isAgg80
 z46:=Tryz.sizeOf80
 v46:=Tryz.zeroValue80
 t51:=Tryz.underlying143
 a51:=Tryz.isAgg143
 z51:=Tryz.sizeOf143
 v51:=Tryz.zeroValue143
 t53:=Tryz.underlying190
 a53:=Tryz.isAgg190
 z53:=Tryz.sizeOf190
 v53:=Tryz.zeroValue190
 t131:=Tryz.underlying269
 a131:=Tryz.isAgg269
 z131:=Tryz.sizeOf269
 v131:=Tryz.zeroValue269
 t182:=Tryz.underlying263
 a182:=Tryz.isAgg263
 z182:=Tryz.sizeOf263
 v182:=Tryz.zeroValue263
 t183:=Tryz.underlying264
 a183:=Tryz.isAgg264
 z183:=Tryz.sizeOf264
 v183:=Tryz.zeroValue264
 t218:=Tryz.underlying305
 a218:=Tryz.isAgg305
 z218:=Tryz.sizeOf305
 v218:=Tryz.zeroValue305
 t222:=Tryz.underlying309
 a222:=Tryz.isAgg309
 z222:=Tryz.sizeOf309
 v222:=Tryz.zeroValue309
 t228:=Tryz.underlying330
 a228:=Tryz.isAgg330
 z228:=Tryz.sizeOf330
 v228:=Tryz.zeroValue330
 t229:=Tryz.underlying96
 a229:=Tryz.isAgg96
 z229:=Tryz.sizeOf96
 v229:=Tryz.zeroValue96}
open Go.Sort Go.RowKit in
theorem Tryz.slices_Sort_string blk off cap(ss:List (List UInt8)) w(hH:Holds encStr w blk off ss.toArray)(hblk:blk<w.heap.size)(hsz:ss.length<4611686018427387904):
 Calls Tryz.prog 202 #[.slice (some ⟨blk,off,none⟩) ss.length cap] w λe w'=>
  e=.returned (.tuple #[])/\∃n os,w'=grow (putRow encStr (Sort.ahead w n) blk off (ss.mergeSort λx y=>decide (x<=y)).toArray) os:=Any.slices_Sort_string O5 blk off cap ss w hH hblk hsz
def Mq:Go.Shelf.Ren:=⟨λ|99=>181|206=>234|n=>n,λ|9=>9|4=>4|3=>3|n=>n,λ|n=>n⟩
theorem aeB:Go.Proofs.Lays.n99 Tryz.prog Mq:={
 mixed:=by kernel_rfl
 f99:=Tryz.func181.trans (congrArg some (by kernel_rfl))
 f206:=Tryz.func234.trans (congrArg some (by kernel_rfl))
 t3:=Tryz.underlying3
 a3:=Tryz.isAgg3
 z3:=Tryz.sizeOf3
 v3:=Tryz.zeroValue3
 t4:=Tryz.underlying4
 a4:=Tryz.isAgg4
 z4:=Tryz.sizeOf4
 v4:=Tryz.zeroValue4
 t9:=Tryz.underlying9
 a9:=Tryz.isAgg9
 z9:=Tryz.sizeOf9
 v9:=Tryz.zeroValue9}
open Go.RowKit Go.Lib in
theorem Tryz.strings_HasPrefix s p w:
 Calls Tryz.prog 181 #[.string s,.string p] w λe w'=>e=.returned (.bool (Lib.hasPrefix s.data.toList p.data.toList))/\w'=w:=Any.strings_HasPrefix aeB s p w
open Go.RowKit Go.Sort in
theorem Tryz.slices_Sort_string_none p cap w:
 Calls Tryz.prog 202 #[.slice p 0 cap] w λe w'=>e=.returned (.tuple #[])/\w'=w:=Any.slices_Sort_string_none O5 p cap w
open Go.RowKit Go.Sort in
theorem Tryz.slices_Sort_int_none p cap w:
 Calls Tryz.prog 70 #[.slice p 0 cap] w λe w'=>e=.returned (.tuple #[])/\w'=w:=Any.slices_Sort_int_none O4 p cap w
end Go.Proofs
namespace Go.Proofs.YtchjlaebbhpioaaGreatDoor
open HP (aE aA aj tt aD ai au ae aC ak aW ah Az)
open _root_.Go.Proofs.Tryz (prog)
set_option maxRecDepth 100000
section
open RX
theorem Ag{P}{f}{args:dI}{v} A(h:∀w,Calls P f args w λe w'=>e=.returned v/\w'=w):az P f args A (λu=>aA (u=v) A):=λw R x F s a=>
 (h w).mono λ_ _ ⟨he,hw⟩=>⟨v,he,by rw[hw];exact Same.refl _,R,x,PH.le.refl _,by rw[hw];exact s,rfl,a⟩
theorem Gg s p A:az prog 181 #[sE s,sE p] A (λv=>aA (v=.bool (p.isPrefixOf s)) A):=
 Ag A λw=>by
  have:=Tryz.strings_HasPrefix ⟨s.toArray⟩ ⟨p.toArray⟩ w;exact this
theorem wF s c A:az prog 236 #[sE s,.int .u8 c] A (λv=>aA (v=an (Lib.indexByte s c.toNat.toUInt8)) A):=
 Ag A λw=>by
  have:=Tryz.strings_IndexByte ⟨s.toArray⟩ c w;exact this
theorem Ry s c A:az prog 263 #[sE s,sE [c]] A (λv=>aA (v=an (s.count c)) A):=
 Ag A λw=>by
  have:=Tryz.strings_Count_one ⟨s.toArray⟩ c w;exact this
theorem Rz s c A:az prog 264 #[sE s,sE [c]] A (λv=>aA (v=an (Lib.indexByte s c)) A):=
 Ag A λw=>by
  have:=Tryz.strings_Index_one ⟨s.toArray⟩ c w;exact this
def cx(c:UInt8):ax->List ax
 |[]=>[[]]
 |b::r=>if b=c then[]::cx c r else match cx c r with
  |x::q=>(b::x)::q
  |[]=>[[b]]
theorem BU c:∀s,(cx c s).length=s.count c+1
 |[]=>rfl
 |b::r=>by
  have ih:=BU c r;unfold cx
  by_cases h:b=c
  ·subst h;rw[aB rfl];simp[ih]
  ·rw[aq h];cases hq:cx c r with
   |nil=>rw[hq]at ih;simp at ih
   |cons x q=>rw[hq]at ih;simp at ih⊢;rw[List.count_cons_of_ne h];omega
theorem sr{c}:∀ {s:ax},s.count c=0->cx c s=[s]
 |[],_=>rfl
 |b::r,h=>by
  have hb:b≠c:=λe=>by subst e;simp at h
  rw[List.count_cons_of_ne hb]at h;unfold cx;rw[aq hb,sr h]
theorem O6{s:ax}{c}(h:Lib.indexByte s c<0):s.count c=0:=by
 have h1:Lib.indexByte s c= -1:=by have:=Lib.indexByte_ge s c;omega
 rw[List.count_eq_zero];intro hm;obtain⟨k,hk,e⟩:=List.mem_iff_getElem.1 hm;exact Lib.indexByte_none h1 k (by rw[List.getElem?_eq_getElem hk,e])
theorem su{s:ax}{c}:Lib.indexByte s c<0↔c∉s:=by
 constructor
 ·intro h;exact List.count_eq_zero.1 (O6 h)
 ·intro h;rcases Int.lt_or_le (Lib.indexByte s c) 0 with h1|h1
  ·exact h1
  ·obtain⟨o,ho⟩:∃o:Nat,Lib.indexByte s c=o:=⟨_,(Int.toNat_of_nonneg h1).symm⟩;exact absurd (List.mem_of_getElem? (Lib.indexByte_some ho).1) h
theorem En{c}:∀ {s:ax} {o:Nat},Lib.indexByte s c=o->cx c s=s.take o::cx c (s.drop (o+1))/\o<s.length/\s.count c=(s.drop (o+1)).count c+1
 |[],o,h=>by unfold Lib.indexByte at h;omega
 |b::r,o,h=>by
  unfold Lib.indexByte at h
  rw[show cx c (b::r)=if b=c then[]::cx c r else match cx c r with
   |x::q=>(b::x)::q
   |[]=>[[b]]from rfl]
  by_cases hb:b=c
  ·subst hb;rw[aB (by simp)]at h;obtain rfl:o=0:=by omega
   rw[aB rfl];simp
  ·rw[aq (by simpa using hb)]at h;split at h
   ·omega
   ·rename_i hq;have h0:Lib.indexByte r c≠ -1:=by simpa using hq
    have h00:=Lib.indexByte_ge r c;obtain⟨p,rfl⟩:∃p,o=p+1:=⟨o - 1,by omega⟩;obtain⟨h1,h2,h3⟩:=En (c:=c) (s:=r) (o:=p) (by omega);rw[aq hb,h1,List.count_cons_of_ne hb];simp only[List.take_succ_cons,List.drop_succ_cons,List.length_cons];exact⟨trivial,by omega,h3⟩
theorem aeC(l:List ax):∀u∈l.map sE,u.oneCell'=true:=λu hu=>by
 obtain⟨b,_,rfl⟩:=List.mem_map.1 hu;rfl
abbrev sv(a:aG)(n c:Nat)(l:List ax):HP:=bY 9 1 a n c (l.map sE)
abbrev zU(a:aG)(n:Nat)(l:List ax):HP:=bN 1 a n (l.map sE)
theorem wG:(prog.info? 9).map (λi=>(i.zero,i.size,i.bytes))=some (some (.string .empty),1,16):=by kernel_rfl
theorem Jk:prog.underlying 45=some (.slice 9):=by kernel_rfl
theorem sx:prog.underlying 9=some .string:=by kernel_rfl
theorem aeD:gZ prog 9=false:=by kernel_rfl
theorem aiq:iA prog 9=1:=by kernel_rfl
def cpS(ts:Array TypeId)(ty:TypeId)(u v:Value):Sem Next:=do pure (.value (<-Builtin.copy_ ts ty #[u,v]))
theorem Eo{ts}{ty}{i j:Nat}{u v}(h:i≠j):bZ (.call ⟨.builtin .copy,#[.tmp i,.tmp j],ts⟩) ty [(i,u),(j,v)]=cpS ts ty u v:=by
 have h':(i==j)=false:=by simpa using h
 simp[bZ,execOp,resolve,lW,invoke,builtin,h',cpS]
theorem acw{dT sT ty e}{i}(hu:prog.underlying dT=some (.slice e))(hi:prog.info? e=some i)(hs:i.size=1) a n c(xs:List Value)(o dl dc:Nat)(S:HP)(b:aG)(m c2:Nat)(ys:List Value)
 (hr:bX S b m ys) (hl:ys.length=m) (hm:m≠0->b.isSome=true) (YB:b=none->c2=0) (h1:∀v∈ys,v.oneCell'=true) (ha:a.isSome=true) (hfit:o+min m dl<=n):
 aR prog (cpS #[dT,sT] ty (.slice (a.map λx=>x.add o) dl dc) (.slice b m c2)) (aj (bY e 1 a n c xs) S)
  (λv=>aA (v=an ((min m dl:Nat):Int)) (aj (bY e 1 a n c (xs.take o++ys.take (min m dl)++xs.drop (o+min m dl))) S)):=by
 rintro w R h F s ⟨x1,x2,d,l1,l2,⟨lj,hx⟩,hS⟩;rcases hx with⟨rfl,_⟩|⟨g,cur,rfl,hg,q1,q2,q3,q4⟩
 ·cases ha
 have hw:=s.oh _ _ (l1 _ _ hg);have Mr:(ys.take (min m dl)).length=min m dl:=by rw[List.length_take,hl];omega
 have hsi:(prog.info? e).map (·.size)=some 1:=by rw[hi];simp[hs]
 have anc:o+min m dl<=cur.size:=by rw[q3];omega
 have key:(Builtin.copy_ #[dT,sT] ty #[.slice (some ⟨g,0+o,none⟩) dl dc,.slice b m c2]).run prog w=.ok (goInt ((min m dl:Nat):Int)) (w.setRow g (cur.toList.take o++ys.take (min m dl)++cur.toList.drop (o+min m dl)).toArray):=by
  rw[Nat.zero_add];cases b with
  |none=>
   have:m=0:=Classical.byContradiction λhq=>by have:=hm hq;cases this
   subst this;obtain rfl:=YB rfl;have fg:=run_copy_nil (P:=prog) w dT sT ty e ⟨g,o,none⟩ dl dc hu (by rw[hsi];rfl);rw[fg];simp only[Nat.zero_min,Nat.add_zero,List.take_zero,List.append_nil,List.take_append_drop];congr 1;rw[show cur.toList.toArray=cur by simp];exact(setRow_self w g cur e (0,0) hw).symm
  |some ad=>
   have:=run_copy_row (P:=prog) w dT sT ty e g o dl dc ad m c2 cur e (ys.take (min m dl)) hu hsi hw Mr (λj v hj=>?_) (by rw[Mr];exact anc) (λv hv=>h1 v (List.mem_of_mem_take hv))
   ·rw[this,Mr]
   ·have hj2:ys[j]? =some v:=by
     rw[List.getElem?_take]at hj;split at hj
     ·exact hj
     ·cases hj
    obtain⟨g2,off,e2,hc⟩:=hr.rd w R x2 _ (s.cut d.symm l2 l1) hS j v hj2;cases e2;rw[addr_add];exact hc
 have uN:∀k,k≠g->(w.setRow g (cur.toList.take o++ys.take (min m dl)++cur.toList.drop (o+min m dl)).toArray).heap[k]? =w.heap[k]? :=λk hk=>setRow_other w g k _ hk;have hhg:h g=some (.cells cur e (0,0)):=l1 _ _ hg;have lp:=setRow_heap w g cur (cur.toList.take o++ys.take (min m dl)++cur.toList.drop (o+min m dl)).toArray e (0,0) hw;have s2:=s.bU (y:=.cells (cur.toList.take o++ys.take (min m dl)++cur.toList.drop (o+min m dl)).toArray e (0,0)) hhg uN lp;have ais:x2 g=none:=(d g).resolve_left (by rw[hg];simp);refine⟨.value (goInt ((min m dl:Nat):Int)),goInt ((min m dl:Nat):Int),w.setRow g (cur.toList.take o++ys.take (min m dl)++cur.toList.drop (o+min m dl)).toArray,by unfold cpS;simp only[Option.map_some,addr_add];rw[Sem.run_bind,key];rfl,rfl,⟨rfl,rfl,rfl,by simp⟩,R,_,PH.le.refl _,s2,by simp[goInt],?_⟩;refine⟨PH.one g (.cells (cur.toList.take o++ys.take (min m dl)++cur.toList.drop (o+min m dl)).toArray e (0,0)),x2,λk=>?_,PH.oT (aB rfl),λk y hk=>?_,⟨?_,.inr ⟨g,_,rfl,PH.cX _ _,q1,q2,?_,?_⟩⟩,hS⟩
 ·by_cases e':k=g
  ·subst e';exact .inr ais
  ·exact .inl (aq e')
 ·have:k≠g:=λe'=>by subst e';rw[ais]at hk;cases hk
  exact(aq this).trans (l2 _ _ hk)
 ·simp only[List.length_append,List.length_take,List.length_drop,hl,lj];omega
 ·simp only[List.size_toArray,List.length_append,List.length_take,List.length_drop,Array.length_toList,hl,q3];omega
 ·subst q4;simp only[List.take_append,List.length_append,List.length_take,Array.length_toList,List.take_take,List.drop_take,List.length_drop,hl];have m1:min o cur.size=o:=by omega
  have m2:min (n*1) o=o:=by omega
  have m3:min o (n*1)=o:=by omega
  have m4:min (n*1 - o) (min m dl)=min m dl:=by omega
  have m5:min (min m dl) m=min m dl:=by omega
  rw[m1,m2,m3,m4,m5]
end
namespace RX
def jW:=(({aF:=[184,113,324,320,326,183,185,237,325,182,236,181]}:jo).aF)
abbrev Ms:Hp:=[(0,1)]
abbrev VV:Hp:=[(0,3)]
abbrev BV:Hp:=[(0,3),(4,5)]
abbrev aeE:Hp:=[(0,3),(4,7)]
abbrev Gh:List W:=[(.str 0)]
abbrev aeF:Hp:=[(.b 0,1)]
def qO:T:=
(.call 237 [.s 0,.val 4] BV [.i] 6 BV
(.ret (.bool (.le (.i 0) 6)) BV))
theorem zV:tree prog {aF:=jW,dN:=true,dv:=true} Tryz.f185 [.s 0,.val 4] BV 6=qO:=by kernel_rfl
def yh:T:=
(.loop [.i,.i,.p] [.z (.i 0),.z (.i 0),.p [(4,5)]]
(.br (.lt 7 (.of 1))
(.need (.le (.i 0) 7)
(.need (.is 0)
(.ld 9 14 (.mz 0 7 1 0) VV [.s] (.str 9)
(.om 4 [.str 9] [(4,8)] [.c,.p] (.bool 10) [(4,11)]
(.br 10
(.ret 7 [(0,3),(4,11)])
(.rg (.add 7 (.i 1))
(.again 0 [.z 6,.z (.add 7 (.i 1)),.p [(4,11)]])))))))
(.ret (.k (-1)) [(0,3),(4,8)])))
theorem Gi:tree prog {hv:=[(0,[.a 4])],aF:=jW,dN:=true,dv:=true} Tryz.f237 [.s 0,.val 4] BV 6=yh:=by kernel_rfl
end RX
section
open Go.Lib RX
theorem _root_.Go.Proofs.YtchjlaebbhpioaaGreatDoor.aM.imp{P:Program}{s:Sem Next}{A A':HP}{v:Value}(r:aM P s A v)(f:∀R h,A'.p R h->A.p R h):aM P s A' v:=λw R h F st a=>r w R h F st (f R h a)
theorem yi{i:Nat}{ty u t e}(hg:prog.eqGuardType prog.depth t=false)(hu:prog.underlying t=some (.pointer e)){p:aG}{A:HP}:aM prog (bZ (.binOp .eql t (.tmp i) (.const (.pointer none)) u) ty [(i,.pointer p)]) A (.bool (!p.isSome)):=λw R hh F s _=>by
 have he:(Op.equal t (.pointer p) (.pointer none)).run prog w=.ok (!p.isSome) w:=RX.gh λn=>by cases p<;>simp[Op.equalIn,RX.run_underlying hu]
 simp only[bZ,execOp,lW,List.find?_cons,beq_self_eq_true];simp[eqGuard,binOp,hg,program,Sem.run_bind,Result.andThen,he]
theorem Gj{i:Nat}{ty u t e}(hg:prog.eqGuardType prog.depth t=false)(hu:prog.underlying t=some (.pointer e)){p:aG}{A:HP}:aM prog (bZ (.binOp .neq t (.tmp i) (.const (.pointer none)) u) ty [(i,.pointer p)]) A (.bool p.isSome):=λw R hh F s _=>by
 have he:(Op.equal t (.pointer p) (.pointer none)).run prog w=.ok (!p.isSome) w:=RX.gh λn=>by cases p<;>simp[Op.equalIn,RX.run_underlying hu]
 simp only[bZ,execOp,lW,List.find?_cons,beq_self_eq_true];simp[eqGuard,binOp,hg,program,Sem.run_bind,Result.andThen,he]
theorem bK{p}{A}:aM prog (QS (.pointer (some p))) A (.pointer (some p)):=λw R hh F s _=>by
 simp[QS,bZ,execOp,lW]
theorem VW:prog.eqGuardType prog.depth 379=false:=by kernel_rfl
theorem Jl:prog.underlying 379=some (.pointer 381):=by kernel_rfl
theorem acx:prog.underlying 389=some .unsafePointer:=by kernel_rfl
theorem BW:prog.underlying 37=some (.slice 5):=by kernel_rfl
def BC(b:Nat)(p:aG)(a:aG)(n c:Nat):HP:=HP.one b (.cells #[.pointer p,.slice a n c] 381 (0,0))
def kN(b:Nat)(l:ax):HP:=aE λp=>aE λa=>aE λc=>aA (p=none\/p=some ⟨b,0,none⟩) (aj (BC b p a l.length c) (dS a l.length c l))
theorem kN.new b{R h}(H:(HP.one b (.cells #[.pointer none,.slice none 0 0] 381 (0,0))).p R h):(kN b []).p R h:=
 ⟨none,none,0,.inl rfl,ak (ae (aW H) (λ_ _=>bY.nil _ _ _ _) λ_ h=>h)⟩
theorem acy{b}{p a}{n c}{K}:aM prog (bO 379 (pt b)) (aj (BC b p a n c) K) (.pointer p):=by
 have:=cU (t:=379) Jl (by kernel_rfl) (by kernel_rfl) (Rd.left (B:=K) (eQ b #[.pointer p,.slice a n c] 381)) (k:=0) (off:=0) (v:=.pointer p) rfl;simpa[BC,Addr.add_zero']using this
theorem Gk{b}{p a}{n c}{K}:aM prog (bO 37 (.pointer (some ⟨b,1,none⟩))) (aj (BC b p a n c) K) (.slice a n c):=by
 have:=cU (t:=37) BW (by kernel_rfl) (by kernel_rfl) (Rd.left (B:=K) (eQ b #[.pointer p,.slice a n c] 381)) (k:=1) (off:=0) (v:=.slice a n c) rfl;simpa[BC,RX.addr_add]using this
theorem Gl:(prog.info? 381).map (·.size)=some 2:=by kernel_rfl
theorem aab:liesAt prog prog.depth 381 (2 / prog.cellsOf 381) 0 381 1=true:=by kernel_rfl
def yj(s d:TypeId)(u:Value):Sem Next:=do pure (.value (<-convert s d u))
theorem zq{s d ty}{i:Nat}{u}:bZ (.convert s d (.tmp i)) ty [(i,u)]=yj s d u:=by simp[bZ,execOp,lW,yj]
theorem BC.shape{b}{p a}{n c}{w}{R h F}(s:Sat w R h F)(H:(BC b p a n c).p R h):w.shape? b=some (381,2):=by
 have:=s.oh _ _ H;simp[World.shape?,this]
theorem VX{b}{p a}{n c}{K}:aM prog (yj 379 389 (pt b)) (aj (BC b p a n c) K) (pt b):=λw R h F s H=>by
 obtain⟨j,hj,hjs⟩:=Option.map_eq_some_iff.1 Gl;have:=Lib.run_to_unsafe (P:=prog) (w:=w) ⟨b,0,none⟩ Jl acx hj (by rw[hjs];decide) (BC.shape s (ai H)) (by decide:(0:Nat)<2);unfold yj;rw[Sem.run_bind,this];rfl
theorem Mt{b}{p a}{n c}{K}:aM prog (yj 389 379 (pt b)) (aj (BC b p a n c) K) (pt b):=λw R h F s H=>by
 obtain⟨j,hj,hjs⟩:=Option.map_eq_some_iff.1 Gl;have:=Lib.run_from_unsafe (P:=prog) (w:=w) ⟨b,0,none⟩ acx Jl hj (BC.shape s (ai H)) aab;unfold yj;rw[Sem.run_bind,this];rfl
theorem ait{i:Nat}{x} A:aR prog (bZ (.call ⟨.value (.func 331),#[.tmp i],#[389]⟩) 389 [(i,x)]) A (λv=>aA (v=x) A):=λw R h F s a=>by
 have hr:(callFunc 331 #[x]).run prog w=.ok (.value x) w:=by
  rw[run_callFunc_extern Tryz.func331 (by kernel_rfl) (by kernel_rfl) (by kernel_rfl) (e:=Extern.AbiNoEscape.same) (by kernel_rfl)];rw[Lib.run_noEscape];rfl
 refine⟨.value x,x,w,?_,rfl,Same.refl w,R,h,PH.le.refl _,s,rfl,a⟩;rw[<-hr];simp[bZ,execOp,resolve,lW,invoke,Deferred.ofValue]
theorem aeG{b}{p a}{n c}(q:aG):aR prog (cv 379 (pt b) (.pointer q)) (BC b p a n c) (λv=>aA (v=cE) (BC b q a n c)):=by
 obtain⟨i,hi⟩:∃i,prog.info? 379=some i:=Option.isSome_iff_exists.1 (by kernel_rfl)
 have hz:i.size=1:=by
  have:(prog.info? 379).map (·.size)=some 1:=by kernel_rfl
  rw[hi]at this;simpa using this
 exact g9 hi 381 b #[.pointer p,.slice a n c] 0 (.pointer q) [.pointer q] rfl hz (by simp) (by simp[Value.oneCell']) (by simp) (by unfold maxLen;simp)
theorem VY{b}{p a}{n c}(a':aG) n' c':aR prog (cv 37 (.pointer (some ⟨b,1,none⟩)) (.slice a' n' c')) (BC b p a n c) (λv=>aA (v=cE) (BC b p a' n' c')):=by
 obtain⟨i,hi⟩:∃i,prog.info? 37=some i:=Option.isSome_iff_exists.1 (by kernel_rfl)
 have hz:i.size=1:=by
  have:(prog.info? 37).map (·.size)=some 1:=by kernel_rfl
  rw[hi]at this;simpa using this
 exact g9 hi 381 b #[.pointer p,.slice a n c] 1 (.slice a' n' c') [.slice a' n' c'] rfl hz (by simp) (by simp[Value.oneCell']) (by simp) (by unfold maxLen;simp)
theorem wH b l:az prog 330 #[pt b] (kN b l) (λv=>aA (v=cE) (kN b l)):=by
 refine az.ex λp=>az.ex λa=>az.ex λc=>?_;refine az.cM (φ:=p=none\/p=some ⟨b,0,none⟩) (λR h H=>H.1) λhp=>?_;refine az.aK (A:=aj (BC b p a l.length c) (dS a l.length c l)) ?_ (λ_ _ h=>h.2) λ_ _ _ h=>h;refine ao (ρ:=[.v (pt b),.p (aj (BC b p a l.length c) (dS a l.length c l))]) {fk:=[379],aF:=jW,dN:=true,dv:=true,ck:=[379]} [(.val 0)] Ms 2 ?_
 try simp only[eD,ne_eq,Nat.reduceEqDiff,not_false_eq_true]
 refine⟨b,bK,.pointer p,acy,!p.isSome,yi VW Jl,λh=>?_,λh=>?_⟩
 ·refine⟨pt b,by rw[zq];exact VX,?_⟩;refine(ait (aj (BC b p a l.length c) (dS a l.length c l))).wk ?_;rintro v R hh ⟨rfl,H⟩;refine⟨pt b,tt,aj (BC b p a l.length c) (dS a l.length c l),rfl,⟨pt b,?_,b,bK,?_⟩,aW H⟩
  ·rw[zq];exact Mt.imp λ_ _ H=>ah H
  ·refine((aeG (some ⟨b,0,none⟩)).frame (dS a l.length c l)).aK (λ_ _ H=>ai H) ?_;rintro v R hh ⟨h1,h2,d,l1,l2,⟨rfl,hc⟩,ho⟩;refine⟨kN b l,rfl,.of λR h H=>⟨trivial,H⟩,some ⟨b,0,none⟩,a,c,.inr rfl,h1,h2,d,l1,l2,hc,ho⟩
 ·have hp':p=some ⟨b,0,none⟩:=by
   rcases hp with rfl|rfl
   ·simp at h
   ·rfl
  subst hp';refine⟨b,bK,pt b,acy,false,?_,λh=>by simp at h,λ_=>.of λR h H=>⟨trivial,_,_,_,.inr rfl,H⟩⟩;intro w R h F s H;obtain⟨j,hj,_⟩:=Option.map_eq_some_iff.1 Gl;have:=Lib.run_neq_ptr_same (P:=prog) (w:=w) ⟨b,0,none⟩ Jl hj;simp only[bZ,execOp,lW,List.find?_cons,beq_self_eq_true];simp[eqGuard,VW,program,Sem.run_bind,Result.andThen,this]
def BX(t u ty:TypeId)(x y:Value):Sem Next:=do pure (.value (<-Builtin.append_ #[t,u] ty #[x,y]))
theorem Jm{t u ty}{i j:Nat}{x y}(h:i≠j):bZ (.call ⟨.builtin .append,#[.tmp i,.tmp j],#[t,u]⟩) ty [(i,x),(j,y)]=BX t u ty x y:=by
 have h':(i==j)=false:=by simpa using h
 simp[bZ,execOp,resolve,lW,invoke,builtin,h',BX]
theorem strCells_eq(l:ax):strCells ⟨l.toArray⟩=l.map eX:=by simp[strCells,eX]
theorem Mu{w} ty v n xs(hown:w.ownsRow 0 5 1 v n xs) s(hb:n+s.size<=140737488355328):
 ∃v' w',(Builtin.append_ #[37,9] ty #[v,.string s]).run prog w=.ok v' w'/\w'.ownsRow 0 5 1 v' (n+s.size) (xs++strCells s)/\w.grownBy w' v.ownBlock/\
  (v'=.slice none 0 0↔v=.slice none 0 0/\s.size=0)/\(v'.ownBlock=v.ownBlock\/v'.ownBlock=some w.heap.size):=by
 obtain⟨i,hi,h1,h2,h3⟩:=info_parts yY;have h63:n+s.size<=maxLen:=by unfold maxLen;omega
 have lj:xs.length=n:=by simpa using hown.1
 obtain⟨v',w',hr,ho,hg,hn⟩:=run_append_own_string (P:=prog) w 0 37 9 ty 5 i qB sx hi h1 h2 h3 v n xs hown s h63 hb (Nat.zero_le _);refine⟨v',w',hr,ho,hg,hn,?_⟩;rcases hown.2 with⟨rfl,rfl⟩|⟨g,cap,cur,rfl,_,hgg,hnc,hcm,Tl,apS⟩
 ·by_cases hm:s.size=0
  ·have:=hn.2 ⟨rfl,hm⟩;subst this;exact .inl rfl
  ·have xF:=run_append_nil_string (P:=prog) w 37 9 ty 5 i (.int .u8 0) qB sx hi h1 s (by omega) (by omega) (by rw[h3];omega);rw[hr]at xF;cases xF;exact .inr rfl
 ·by_cases hroom:n+s.size<=cap
  ·have xF:=run_append_room_string (P:=prog) w 37 9 ty 5 i qB sx hi h2 g n cap cur hgg s hroom (by omega);rw[hr]at xF;cases xF;exact .inl rfl
  ·have holds:∀j u,xs[j]? =some u->w.cell? ((⟨g,0,none⟩:Addr).add j)=some u:=hown.cells (g:=g) rfl;have xF:=run_append_grow_string (P:=prog) w 37 9 ty 5 i (.int .u8 0) qB sx hi h1 ⟨g,0,none⟩ n cap xs (by rw[h2];simpa using lj) holds s (by omega) (by omega) (by rw[h3];exact growslice_fits (by omega) (by omega));rw[hr]at xF;cases xF;exact .inr rfl
theorem Gm ty(a:aG) n c l q S(hb:n+q.length<=140737488355328):
 aR prog (BX 37 9 ty (.slice a n c) (sE q)) (aj (dS a n c l) S)
  (λv=>aE λa'=>aE λc'=>aA (v=.slice a' (n+q.length) c') (aj (dS a' (n+q.length) c' (l++q)) S)):=by
 rintro w R h F s ⟨x1,x2,d,l1,l2,⟨lj,hx⟩,hS⟩
 have hown:w.ownsRow 0 5 1 (.slice a n c) n (l.map eX):=by
  refine⟨lj,?_⟩;rcases hx with⟨rfl,rfl,rfl⟩|⟨g,cur,rfl,hg,q⟩
  ·exact .inl ⟨rfl,rfl⟩
  ·exact .inr ⟨g,c,cur,rfl,Nat.zero_le _,s.oh _ _ (l1 _ _ hg),q⟩
 obtain⟨v',w',fg,ho',hg,xP,hblk⟩:=Mu ty (.slice a n c) n (l.map eX) hown ⟨q.toArray⟩ hb;rw[strCells_eq,<-List.map_append]at ho';have hsz:(⟨q.toArray⟩:ByteArray).size=q.length:=rfl;rw[hsz]at ho' xP;obtain⟨tZ,hsh⟩:=ho';have hS':Same w w':=⟨hg.os,hg.tape,hg.output,hg.size⟩;have s1:=s.cut d l1 l2;have hdF:x2.dj F:=s.xG.le l2 (PH.le.refl _);rcases hsh with⟨rfl,h0⟩|⟨g',cap,cur,rfl,_,hcell,q1,q2,q3,q4⟩
 ·have YF:n=0:=by omega
  have Zc:q.length=0:=by omega
  have e1:=xP.1 rfl;cases e1.1;have vO:∀k,k<w.heap.size->w'.heap[k]? =w.heap[k]? :=λk hk=>hg.block k hk (by simp[Value.ownBlock]);have Lw:∀g:PH,g.own w->g.own w':=λg og k y e=>by rw[vO k (og.lt e)];exact og k y e
  refine⟨_,_,w',by unfold BX sE;rw[Sem.run_bind,fg];rfl,rfl,hS',R,x1.un x2,PH.le.refl _,⟨(PH.ol (s.uz.le (PH.le.refl _) l1).symm (s.uz.le (PH.le.refl _) l2).symm).symm,s.He,PH.ol (s.xG.le l1 (PH.le.refl _)) hdF,Lw _ s.oR,Lw _ (s.oh.le (PH.N0 l1 l2)),Lw _ s.oF,s.gl⟩,none,0,?_,x1,x2,d,PH.dC _ _,PH.cP d,?_,hS⟩
  ·rw[YF,Zc]
  ·exact⟨tZ,.inl ⟨rfl,by omega,rfl⟩⟩
 ·have s2:=Sat.grown s1 (row:=(Value.slice a n c).ownBlock) (λg hgr=>by
   rcases hx with⟨rfl,_⟩|⟨g0,amp,rfl,hg0,_⟩
   ·cases hgr
   ·cases hgr;rw[hg0];simp) hg hcell (by
    rcases hblk with e|e
    ·exact .inl e.symm
    ·cases e;exact .inr (Nat.le_refl _))
  obtain⟨s3,d3⟩:=s2.join hdF;exact⟨_,_,w',by unfold BX sE;rw[Sem.run_bind,fg];rfl,rfl,hS',R,_,PH.le.refl _,s3,some ⟨g',0,none⟩,cap,rfl,PH.one g' (.cells cur 5 (0,0)),x2,d3,PH.dC _ _,PH.cP d3,⟨tZ,.inr ⟨g',cur,rfl,PH.cX _ _,q1,q2,q3,q4⟩⟩,hS⟩
theorem VZ{b}{p a a':aG}{n c n' c'}{l}{B}(hp:p=none\/p=some ⟨b,0,none⟩)(hn:n'=l.length)(post:∀R h,(kN b l).p R h->(B (cE)).p R h):
 aR prog (cv 37 (.pointer (some ⟨b,1,none⟩)) (.slice a' n' c')) (aj (BC b p a n c) (dS a' n' c' l)) B:=by
 subst hn;refine((VY (p:=p) (a:=a) (n:=n) (c:=c) a' l.length c').frame (dS a' l.length c' l)).wk ?_;rintro v R hh ⟨h1,h2,d,l1,l2,⟨rfl,hc⟩,ho⟩;exact post _ _ ⟨p,a',c',hp,h1,h2,d,l1,l2,hc,ho⟩
theorem RA b l x(hb:l.length<=100000):az prog 327 #[pt b,.int .u8 x.toNat] (kN b l) (λv=>aA (v=.nilIface) (kN b (l++[x]))):=by
 refine ao (ρ:=[.v (pt b),.p (kN b l),.i x.toNat]) {fk:=[379],aF:=jW,dN:=true,dv:=true} [(.val 0),(.a (.int .u8 2))] Ms 3 ?_
 try simp only[eD,ne_eq,Nat.reduceEqDiff,not_false_eq_true]
 refine(wH b l).wk ?_;rintro v R h ⟨rfl,p,a,c,hp,H⟩;refine⟨aj (BC b p a l.length c) (dS a l.length c l),rfl,⟨b,bK,a,l.length,c,Gk,λy=>?_⟩,H⟩;clear H;have ap:=oB a l.length c l (HP.one y (.cells #[.int .u8 x.toNat] 5 (0,0))) (some ⟨y,0,none⟩) 1 1 [x] ⟨eQ y #[.int .u8 x.toNat] 5,λR h H hq=>by cases hq⟩ rfl (λ_=>rfl) (by omega);refine(ap.frame (BC b p a l.length c)).aK (λR h H=>?_) ?_
 ·exact ak (au H)
 ·rintro v R h ⟨h1,h2,d,l1,l2,⟨a',c',rfl,H⟩,hBC⟩;refine⟨a',l.length+1,c',dS a' (l.length+1) c' (l++[x]),BC b p a l.length c,rfl,⟨b,bK,?_⟩,HP.pick [_,_,_] [0,2,1] (by decide) rfl (au ⟨h1,h2,d,l1,l2,H,hBC⟩)⟩;exact VZ hp (by simp) λR h H=>⟨kN b (l++[x]),rfl,.of λR h H=>⟨trivial,H⟩,H⟩
theorem Jn b l q(hb:l.length+q.length<=100000):az prog 328 #[pt b,sE q] (kN b l) (λv=>aA (v=.tuple #[an q.length,.nilIface]) (kN b (l++q))):=by
 refine ao (ρ:=[.v (pt b),.p (kN b l),.s q]) {fk:=[379],aF:=jW,dN:=true,dv:=true} [(.val 0),(.str 2)] Ms 3 ?_
 try simp only[eD,ne_eq,Nat.reduceEqDiff,not_false_eq_true]
 refine(wH b l).wk ?_;rintro v R h ⟨rfl,p,a,c,hp,H⟩;refine⟨aj (BC b p a l.length c) (dS a l.length c l),rfl,⟨b,bK,a,l.length,c,Gk,?_⟩,H⟩;clear H;rw[Jm (by decide)];refine(Gm 37 a l.length c l q (BC b p a l.length c) (by omega)).aK (λ_ _ H=>ak H) ?_;rintro v R h ⟨a',c',rfl,H⟩;refine⟨a',l.length+q.length,c',dS a' (l.length+q.length) c' (l++q),BC b p a l.length c,rfl,⟨b,bK,?_⟩,H⟩;exact VZ hp (by simp) λR h H=>⟨kN b (l++q),rfl,.of λR h H=>⟨trivial,H⟩,H⟩
def aac(ts:Array TypeId)(ty:TypeId)(x:Value):Sem Next:=do pure (.value (<-Builtin.unsafeSliceData_ ts ty #[x]))
theorem Jo{ts}{ty}{i:Nat}{x}:bZ (.call ⟨.builtin .unsafeSliceData,#[.tmp i],ts⟩) ty [(i,x)]=aac ts ty x:=by
 simp[bZ,execOp,resolve,lW,invoke,builtin,aac]
def aad(ts:Array TypeId)(ty:TypeId)(x y:Value):Sem Next:=do pure (.value (<-Builtin.unsafeString_ ts ty #[x,y]))
theorem Jp{ts}{ty}{i j:Nat}{x y}(h:i≠j):bZ (.call ⟨.builtin .unsafeString,#[.tmp i,.tmp j],ts⟩) ty [(i,x),(j,y)]=aad ts ty x y:=by
 have h':(i==j)=false:=by simpa using h
 simp[bZ,execOp,resolve,lW,invoke,builtin,h',aad]
theorem V1 ts ty g n c(hc:c≠0) A:aR prog (aac ts ty (.slice (some ⟨g,0,none⟩) n c)) A (λv=>aA (v=pt g) A):=
 aR.FE (v:=pt g) (λw R h F s a=>by
  unfold aac;rw[Sem.run_bind,run_unsafeSliceData_row w ts ty ⟨g,0,none⟩ n c hc];rfl) λR h H=>⟨rfl,H⟩
theorem aiv:prog.underlying 388=some (.pointer 5):=by kernel_rfl
theorem aeH:prog.cellsOf 5=1:=by kernel_rfl
theorem wJ{w:World}{g k n}(hk:k≠g):(w.freeze ⟨g,0,none⟩ n).heap[k]? =w.heap[k]? :=by
 unfold World.freeze;split
 ·rfl
 ·simp only[Array.getElem?_modify];rw[aq (Ne.symm hk)]
theorem Jq w g n:Same w (w.freeze ⟨g,0,none⟩ n):=by
 unfold World.freeze;split
 ·exact Same.refl w
 ·exact⟨rfl,rfl,rfl,by simp⟩
theorem V2 it ty g c(l:ax)(h0:l≠[]):aR prog (aad #[388,it] ty (pt g) (an l.length)) (dS (some ⟨g,0,none⟩) l.length c l) (λv=>aA (v=sE l) tt):=by
 rintro w R h F s ⟨hl,hx⟩;rcases hx with⟨h1,_⟩|⟨g',cur,e,hg,q1,q2,q3,q4⟩
 ·cases h1
 cases e;have hw:=s.oh _ _ hg
 have fg:=run_unsafeString_row (P:=prog) w 388 it ty 5 aiv aeH g cur.size (by simp[World.shape?,hw]) l h0 (by omega) (by unfold maxLen at q2;omega) (λj x hj=>by
  rw[RX.addr_add,mV hw];have:(cur.toList.take (l.length*1))[0+j]? =some (eX x):=by rw[q4];simp[hj]
  rw[List.getElem?_take]at this;split at this
  ·simpa[eX]using this
  ·cases this)
 refine⟨.value (sE l),sE l,w.freeze ⟨g,0,none⟩ l.length,by unfold aad;rw[Sem.run_bind,fg];rfl,rfl,Jq w g _,R,PH.cV,PH.le.refl _,⟨PH.eC _,s.He,PH.eL _,?_,(by intro k o e;cases e),?_,s.gl⟩,rfl,trivial⟩
 ·intro k o hk;have:k≠g:=λe=>by subst e;rcases s.uz k with h1|h1<;>simp_all
  rw[wJ this];exact s.oR k o hk
 ·intro k o hk;have:k≠g:=λe=>by subst e;rcases s.xG k with h1|h1<;>simp_all
  rw[wJ this];exact s.oF k o hk
set_option maxHeartbeats 1000000 in
theorem Mv b(l:ax)(h0:l≠[]):az prog 329 #[pt b] (kN b l) (λv=>aA (v=sE l) tt):=by
 refine az.ex λp=>az.ex λa=>az.ex λc=>?_;refine az.aK (A:=aj (BC b p a l.length c) (dS a l.length c l)) ?_ (λ_ _ h=>h.2) λ_ _ _ h=>h;have hl:l.length≠0:=by simpa using h0
 refine az.cM (φ:=(∃g,a=some ⟨g,0,none⟩)/\c≠0) (λR h H=>?_) ?_
 ·rcases(ah H).2 with⟨_,h1,_⟩|⟨g,cur,rfl,_,h1,_⟩
  ·exact absurd h1 hl
  ·exact⟨⟨g,rfl⟩,by omega⟩
 rintro⟨⟨g,rfl⟩,hc⟩;refine ao (ρ:=[.n b,.p (aj (BC b p (some ⟨g,0,none⟩) l.length c) (dS (some ⟨g,0,none⟩) l.length c l))]) {aF:=jW,dN:=true,dv:=true,jn:=[((3,2),some {ss:=[.s,.p],n:=4,tv:=[(3,none),(4,none),(5,none),(6,none),(7,none),(8,none),(9,none),(10,none),(11,none),(12,none),(13,none),(2,some (.str 2))],h:=[(.b 0,3)],lk:=[]})]} [(.ptr 0 0)] aeF 2 ?_;have ld:∀K:HP,aM prog (bO 37 (.pointer (some ⟨b,1,none⟩))) (aj (BC b p (some ⟨g,0,none⟩) l.length c) K) (.slice (some ⟨g,0,none⟩) l.length c):=λK=>Gk;have Vq:aM prog (bO 37 (.pointer (some ⟨b,1,none⟩))) (BC b p (some ⟨g,0,none⟩) l.length c) (.slice (some ⟨g,0,none⟩) l.length c):=(ld tt).imp λ_ _ H=>aD H;refine⟨λs P=>s=l,⟨some ⟨g,0,none⟩,l.length,c,ld _,?_,some ⟨g,0,none⟩,l.length,c,ld _,?_⟩,?_⟩
 ·rw[Jo];refine(V1 _ _ g l.length c hc (aj (BC b p (some ⟨g,0,none⟩) l.length c) (dS (some ⟨g,0,none⟩) l.length c l))).wk ?_;rintro v R h ⟨rfl,H⟩;refine⟨g,dS (some ⟨g,0,none⟩) l.length c l,BC b p (some ⟨g,0,none⟩) l.length c,rfl,⟨some ⟨g,0,none⟩,l.length,c,Vq,?_⟩,ak H⟩;rw[Jp (by decide)];refine(V2 _ _ g c l h0).wk ?_;rintro v R h ⟨rfl,H⟩;exact⟨l,tt,rfl,by simp[RX.look],H⟩
 ·rw[Jo];refine(V1 _ _ g l.length c hc (aj (BC b p (some ⟨g,0,none⟩) l.length c) (dS (some ⟨g,0,none⟩) l.length c l))).wk ?_;rintro v R h ⟨rfl,H⟩;refine⟨g,dS (some ⟨g,0,none⟩) l.length c l,BC b p (some ⟨g,0,none⟩) l.length c,rfl,?_,ak H⟩;rw[Jp (by decide)];refine(V2 _ _ g c l h0).wk ?_;rintro v R h ⟨rfl,H⟩;exact⟨l,tt,rfl,by simp[RX.look],H⟩
 ·rintro s P rfl;exact .of λR h H=>⟨rfl,trivial⟩
end
section
open RX
def dm(s:ax):Bool:=decide (1<=s.length)&&decide (s.length<=16)&&decide (s≠[46])&&decide (s≠[46,46])&&decide ((47:UInt8)∉s)&&decide ((0:UInt8)∉s)
def bW(s:ax):Option (List ax):=
 if s=[47]then some []else match s with
 |b::r=>if b=47 then(let l:=cx 47 r;if l.length<=8/\l.all dm=true then some l else none)else none
 |[]=>none
def ir(l:List ax):ax:=l.flatMap λx=>47::x
def zr(l:List ax):ax:=if l=[]then[47]else ir l
theorem zt c:∀s:ax,(cx c s).flatMap (λx=>c::x)=c::s
 |[]=>rfl
 |b::r=>by
  have ih:=zt c r;unfold cx
  by_cases h:b=c
  ·subst h;rw[aB rfl];simp[ih]
  ·rw[aq h];cases hq:cx c r with
   |nil=>rw[hq]at ih;simp at ih
   |cons x q=>rw[hq]at ih;simp at ih⊢;exact ih
theorem Jr s Q:az prog 184 #[sE s] Q (λv=>aA (v=.bool (dm s)) Q):=by
 refine(show az prog 184 #[sE s] tt (λv=>aA (v=.bool (dm s)) tt)from ?_).bv (K:=Q) (.of λR h H=>aW H) λv=>.of λR h ⟨h1,h2,d,l1,l2,⟨e,_⟩,H⟩=>⟨e,Q.mono (PH.le.refl _) l2 H⟩;refine ao (ρ:=[.s s]) {aF:=jW,dN:=true,dv:=true} Gh [] 1 ?_;refine⟨λh=>.of λR h' H=>⟨?_,trivial⟩,λh1=>⟨λh=>.of λR h' H=>⟨?_,trivial⟩,λh2=>⟨λh=>.of λR h' H=>⟨?_,trivial⟩,λh3=>⟨λh=>.of λR h' H=>⟨?_,trivial⟩,λh4=>?_⟩⟩⟩⟩
 ·have:¬(1<=s.length):=by omega
  simp[dm,this]
 ·have:¬(s.length<=16):=by omega
  simp[dm,this]
 ·simp[dm,h]
 ·simp[dm,h]
 refine(wF s 47 tt).wk ?_;rintro v R h ⟨rfl,H⟩;refine⟨Lib.indexByte s 47,rfl,⟨λhlt=>?_,λlH=>.of λR h H=>⟨?_,trivial⟩⟩,H⟩
 ·refine(wF s 0 tt).wk ?_;rintro v R h ⟨rfl,H⟩;refine⟨Lib.indexByte s 0,rfl,.of λR h H=>⟨?_,trivial⟩,H⟩;have e1:(47:UInt8)∉s:=su.1 hlt;have q1:1<=s.length:=by omega
  have q2:s.length<=16:=by omega
  simp only[dm,q1,q2,h3,h4,e1,ne_eq,not_false_eq_true,decide_true,Bool.and_self,Bool.true_and,Value.bool.injEq];rw[decide_eq_decide];exact su
 ·have e1:(47:UInt8)∈s:=Classical.byContradiction λh=>lH (su.2 h);simp[dm,e1]
theorem BY s lo hi(h1:lo.getD 0<=hi.getD s.length)(h2:hi.getD s.length<=s.length) Q:
 aM prog (i6 9 (sE s) (iv lo) (iv hi) none) Q (sE ((s.take (hi.getD s.length)).drop (lo.getD 0))):=λw R h F st a=>by
 have e:(⟨s.toArray⟩:ByteArray).extract (lo.getD 0) (hi.getD s.length)=⟨((s.take (hi.getD s.length)).drop (lo.getD 0)).toArray⟩:=by
  have:((⟨s.toArray⟩:ByteArray).extract (lo.getD 0) (hi.getD s.length)).data=(((s.take (hi.getD s.length)).drop (lo.getD 0)).toArray):=by
   rw[ByteArray.data_extract];apply Array.ext';simp[List.drop_take]
  cases hq:(⟨s.toArray⟩:ByteArray).extract (lo.getD 0) (hi.getD s.length);rw[hq]at this;simp only at this;rw[this]
 have hs:(⟨s.toArray⟩:ByteArray).size=s.length:=rfl;unfold i6 Instr.sliceAt Instr.slice sE;cases lo<;>cases hi<;>simp only[Option.getD_some,Option.getD_none]at h1 h2 e⊢ <;>simp[iv,RX.run_underlying sx,Instr.sliceBounds,hs,pO,h1,h2,e]
theorem O7{α:Type}{l}{k}(h:l.length=k) x y(r:List α):(l++y::r).set k x=l++x::r:=by
 subst h;simp[List.set_append]
theorem Gn{t e}{i}(ht:prog.underlying t=some (.slice e))(hi:prog.info? e=some i) S(a:aG) n c k(hk:k<=n)(hn:n<=c):
 aM prog (i6 t (.slice a n c) none (some (an k)) none) S (.slice a k c):=by
 have:=gp ht hi S a n c none (some k) none (Nat.zero_le _) (by simp;omega) (Nat.le_refl _) (λh=>by cases h);have e1:(a.map λx=>x.add 0)=a:=by cases a<;>simp[Addr.add_zero']
 simpa[iv,e1]using this
theorem eU x(h1: -9223372036854775808<=x)(h2:x<=9223372036854775807):IntKind.i64.min<=x/\x<=IntKind.i64.max:=⟨h1,h2⟩
theorem Js{a}{n c}{l}{k} x(hk:k<n){P}(hP:HP.aT P (sv a n c l)){B}(post:∀R h,(sv a n c (l.set k x)).p R h->(B (cE)).p R h):
 aR prog (cv 9 (.pointer (a.map λy=>(y.add (k*1)).add 0)) (sE x)) P B:=by
 obtain⟨i,hi,h1,h2,h3⟩:=info_parts wG;have:=pP (t:=9) hi 9 1 a n c (l.map sE) (k*1) 0 (sE x) [sE x] rfl (by rw[h2];rfl) (by simp) (by simp[sE,Value.oneCell']) (by simp;omega);refine(aR.cM (φ:=l.length=n) (λR h H=>by have:=H.1;simpa using this) λhl=>?_:aR _ _ (sv a n c l) B).bv (K:=tt) (hP.trans (.of λR h H=>aD H)) λv=>.of λR h H=>ai H;refine this.wk ?_;rintro v R h ⟨rfl,H⟩;refine post R h ?_
 have e:(l.map sE).take (k*1+0)++[sE x]++(l.map sE).drop (k*1+0+[sE x].length)=(l.set k x).map sE:=by
  rw[List.map_set,List.set_eq_take_append_cons_drop,aB (by simp;omega)];simp
 rw[e]at H;exact H
set_option maxHeartbeats 1000000 in
theorem Jt s(hs:s.length<=1000):az prog 235 #[sE s,sE [47],an 0,an (-1)] tt (λv=>aE λa=>aE λc=>aA (v=.slice a (cx 47 s).length c) (sv a (cx 47 s).length c (cx 47 s))):=by
 refine ao (ρ:=[.s s,.s [47],.i 0,.i (-1)]) {hv:=[(0,[(.a 5),(.a 4)])],aF:=jW,dN:=true,dv:=true} [(.str 0),(.str 1),2,3] [] 4 ?_;have hlen:=BU 47 s;have hcl:s.count 47<=s.length:=List.count_le_length;refine⟨λh=>absurd h (by decide),λ_=>⟨λh=>absurd h (by decide),λ_=>⟨λ_=>?_,λh=>absurd h (by decide)⟩⟩⟩;refine(Ry s 47 tt).wk ?_;rintro v R h ⟨rfl,H⟩;refine⟨s.count 47,rfl,⟨eU _ (by omega) (by omega),λ_=>⟨eU _ (by omega) (by omega),λ_=>?_⟩⟩,H⟩;clear H;rw[FR];generalize hN:s.count 47=N at*;have Mr:min ((N:Int)+1) ((s.length:Int)+1)=((N+1:Nat):Int):=by omega
 simp only[Mr];obtain⟨i0,hi0,z1,z2,z3⟩:=info_parts wG;refine(Vd Jk hi0 z1 rfl z2 (N+1) (by rw[z3];omega) (by unfold maxLen;omega) tt).wk ?_;rintro v R h ⟨x,rfl,H⟩;refine⟨some ⟨x,0,none⟩,N+1,N+1,sv (some ⟨x,0,none⟩) (N+1) (N+1) (List.replicate (N+1) []),rfl,⟨eU _ (by omega) (by omega),λ_=>?_⟩,?_⟩
 ·clear H
  refine⟨λs' i P=>∃(k:Nat) (done:List ax),i=k/\k<=N/\done.length=k/\cx 47 s=done++cx 47 s'/\s'.count 47=N - k/\s'.length<=1000/\HP.aT P (sv (some ⟨x,0,none⟩) (N+1) (N+1) (done++List.replicate (N+1 - k) [])),
   λ_ i _=>N - i.toNat,⟨0,[],rfl,Nat.zero_le _,rfl,rfl,by omega,hs,.refl _⟩,?_⟩
  rintro s' _ P ⟨k,done,rfl,hk,hd,hsp,hc,vz,hP⟩;refine⟨λhlt=>?_,λlH=>?_⟩
  ·refine(Rz s' 47 tt).wk ?_;rintro v R h ⟨rfl,H⟩;refine⟨Lib.indexByte s' 47,rfl,⟨λane=>?_,λhnn=>?_⟩,H⟩
   ·have:=O6 ane;omega
   ·clear H;obtain⟨o,ho⟩:∃o:Nat,Lib.indexByte s' 47=o:=⟨_,(Int.toNat_of_nonneg (by omega)).symm⟩;rw[ho];obtain⟨q1,q2,q3⟩:=En ho;simp only[Int.add_zero,Int.toNat_natCast];refine⟨eU _ (by omega) (by omega),λ_=>⟨s'.take o,BY s' none (some o) (Nat.zero_le _) (by simp;omega) tt,by omega,λ_=>⟨by omega,λ_=>⟨rfl,λ_=>?_⟩⟩⟩⟩;refine Js (k:=k) (s'.take o) (by omega) hP λR h H=>?_;refine⟨_,rfl,⟨eU _ (by simp;omega) (by simp;omega),λ_=>⟨s'.drop (o+1),?_,eU _ (by omega) (by omega),λ_=>?_⟩⟩,H⟩
    ·have:=BY s' (some (o+1)) none (by simp;omega) (by simp) tt;simp only[Option.getD_none,List.take_length]at this;exact this
    ·refine⟨⟨k+1,done++[s'.take o],by omega,by omega,by simp[hd],by rw[hsp,q1];simp,by omega,by simp;omega,.of λR h H=>?_⟩,by first|omega|(dsimp only;omega)⟩
     have e:(done++List.replicate (N+1 - k) []).set k (s'.take o)=done++[s'.take o]++List.replicate (N+1 - (k+1)) []:=by
      obtain⟨m,hm⟩:∃m,N+1 - k=m+1:=⟨N - k,by omega⟩;rw[hm,show N+1 - (k+1)=m by omega,List.replicate_succ,O7 hd];simp
     rw[<-e];exact H
  ·obtain rfl:k=N:=by omega
   have h0:s'.count 47=0:=by omega
   rw[sr h0]at hsp;simp only[Int.toNat_natCast];refine⟨by omega,λ_=>⟨by omega,λ_=>⟨rfl,λ_=>?_⟩⟩⟩;refine Js (k:=k) s' (by omega) hP λR h H=>?_;refine⟨_,rfl,⟨eU _ (by omega) (by omega),λ_=>⟨some ⟨x,0,none⟩,k+1,k+1,?_,.of λR h H=>?_⟩⟩,H⟩
   ·exact Gn Jk hi0 _ _ _ _ (k+1) (Nat.le_refl _) (Nat.le_refl _)
   ·have e:(done++List.replicate (k+1 - k) []).set k s'=cx 47 s:=by
     rw[hsp,show k+1 - k=1 by omega];exact O7 hd s' [] []
    rw[e]at H;exact⟨some ⟨x,0,none⟩,k+1,by rw[hlen],by rw[hlen];exact H⟩
 ·have e:(List.replicate (N+1) (Value.string ByteArray.empty))=(List.replicate (N+1) ([]:ax)).map sE:=by
   rw[List.map_replicate];rfl
  rw[e]at H;exact ai H
theorem RB s(hs:s.length<=1000):az prog 182 #[sE s,sE [47]] tt (λv=>aE λa=>aE λc=>aA (v=.slice a (cx 47 s).length c) (sv a (cx 47 s).length c (cx 47 s))):=by
 refine ao (ρ:=[.s s,.s [47]]) {aF:=jW,dN:=true,dv:=true} [(.str 0),(.str 1)] [] 2 ?_;refine(Jt s hs).aK (λ_ _ _=>trivial) ?_;rintro v R h ⟨a,c,rfl,H⟩;exact⟨a,_,c,sv a (cx 47 s).length c (cx 47 s),rfl,.of λR h H=>⟨a,c,rfl,H⟩,H⟩
theorem oI{S}{a}{l:List ax}{k}{x}(r:Rd S a (l.map sE))(hk:l[k]? =some x):
 aM prog (bO 9 (.pointer (a.map λy=>(y.add (k*1)).add 0))) S (sE x):=
 cU sx aeD aiq r (k:=k*1) (off:=0) (by simp[hk])
set_option maxHeartbeats 1000000 in
theorem Mw S a n c(l:List ax)(hr:bX S a n (l.map sE))(hl:l.length=n)(hn:n<=100000) fv(h1:eD fv=fv)(p:ax->Bool)
 (hf:∀x,jG prog fv #[sE x] tt λv=>aA (v=.bool (p x)) tt):
 az prog 237 #[.slice a n c,fv] S (λv=>aE λr:Int=>aA (v=an r/\(0<=r↔l.any p=true)) S):=by
 refine az.bv (K:=tt) (A:=aj S tt) (B:=λv=>aE λr:Int=>aA (v=an r/\(0<=r↔l.any p=true)) (aj S tt)) ?_ (.of λR h H=>aD (aD H)) λv=>.of λR h H=>by
  obtain⟨r,e,H⟩:=ai H;exact⟨r,e,ai H⟩
 refine az.cM (φ:=a=none->n=0) (λR h H=>hr.none R _ (ai H)) λxP=>?_;have:=cC (ρ:=[.a a,.n n,.n c,.p S,.v fv,.p tt]) mixed Tryz.func237 (t:=yh) (post:=λv=>aE λr:Int=>aA (v=an r/\(0<=r↔l.any p=true)) (aj S tt)) Gi ?_
 ·simpa[W.den,RX.A.den,SA.den,E.den,RX.look,h1,cT,jH]using this
 unfold yh;refine Iz ?_;refine⟨λ_ i P=>∃k:Nat,i=k/\k<=n/\P=tt/\∀q x,q<k->l[q]? =some x->p x=false,λ_ i _=>n - i.toNat,⟨0,rfl,Nat.zero_le _,rfl,λq x h=>by omega⟩,?_⟩;rintro _ _ _ ⟨k,rfl,hk,rfl,hall⟩;refine⟨λhlt=>⟨by omega,λ_=>⟨?_,λ_=>?_⟩⟩,λlH=>.of λR h H=>⟨-1,⟨rfl,?_⟩,H⟩⟩
 ·cases a with
  |none=>have:=xP rfl;omega
  |some _=>rfl
 ·have ki:k<l.length:=by omega
  refine⟨l[k],oI hr.rd (List.getElem?_eq_getElem ki),?_⟩;refine(hf l[k]).aK (λ_ _ _=>trivial) ?_;rintro v R h ⟨rfl,H⟩;refine⟨p l[k],tt,rfl,⟨λhp=>.of λR h H=>⟨k,⟨rfl,?_⟩,H⟩,λhp=>⟨eU _ (by omega) (by omega),λ_=>⟨⟨k+1,by omega,by omega,rfl,λq x hq hx=>?_⟩,by first|omega|(dsimp only;omega)⟩⟩⟩,H⟩
  ·refine⟨λ_=>List.any_eq_true.2 ⟨l[k],List.getElem_mem ki,hp⟩,λ_=>by omega⟩
  ·rcases Nat.lt_or_ge q k with h|h
   ·exact hall q x h hx
   ·obtain rfl:q=k:=by omega
    rw[List.getElem?_eq_getElem ki]at hx;cases hx;simpa using hp
 ·refine⟨λh=>by omega,λh=>?_⟩;obtain⟨x,hx,hp⟩:=List.any_eq_true.1 h;obtain⟨q,hq,rfl⟩:=List.mem_iff_getElem.1 hx;have:=hall q l[q] (by omega) (List.getElem?_eq_getElem hq);rw[hp]at this;cases this
theorem Dx S a n c(l:List ax)(hr:bX S a n (l.map sE))(hl:l.length=n)(hn:n<=100000) fv(h1:eD fv=fv) p
 (hf:∀x,jG prog fv #[sE x] tt λv=>aA (v=.bool (p x)) tt):
 az prog 185 #[.slice a n c,fv] S (λv=>aA (v=.bool (l.any p)) S):=by
 refine az.bv (K:=tt) (A:=aj S tt) (B:=λv=>aA (v=.bool (l.any p)) (aj S tt)) ?_ (.of λR h H=>aD (aD H)) λv=>.of λR h H=>by
  obtain⟨e,H⟩:=ai H;exact⟨e,ai H⟩
 have:=cC (ρ:=[.a a,.n n,.n c,.p S,.v fv,.p tt]) mixed Tryz.func185 (t:=qO) (post:=λv=>aA (v=.bool (l.any p)) (aj S tt)) zV ?_
 ·simpa[W.den,RX.A.den,SA.den,E.den,RX.look,h1,cT,jH]using this
 unfold qO;refine Iz ?_
 try simp only[h1,ne_eq,Nat.reduceEqDiff,not_false_eq_true]
 refine((Mw S a n c l hr hl hn fv h1 p hf).frame tt).wk ?_;rintro v R h ⟨x1,x2,d,l1,l2,⟨r,⟨rfl,xF⟩,H⟩,H2⟩;refine⟨r,rfl,.of λR h H=>⟨?_,H⟩,x1,x2,d,l1,l2,H,H2⟩;congr 1;cases hq:l.any p
 ·rw[hq]at xF;simp at xF⊢;omega
 ·rw[hq]at xF;simp at xF⊢;omega
theorem aeI x:jG prog (.func (.func 183) #[] #[]) #[sE x] tt λv=>aA (v=.bool (!dm x)) tt:=by
 refine .inl ⟨183,#[],rfl,⟨_,Tryz.func183,by kernel_rfl,by kernel_rfl⟩,?_⟩;refine ao (ρ:=[.s x]) {aF:=jW,dN:=true,dv:=true} Gh [] 1 ?_;refine(Jr x tt).wk ?_;rintro v R h ⟨rfl,H⟩;exact⟨dm x,rfl,.of λR h H=>⟨rfl,H⟩,H⟩
theorem ji{s}{l}(h:bW s=some l):l.length<=8/\∀x∈l,dm x=true:=by
 unfold bW at h;split at h
 ·cases h;simp
 ·split at h
  ·split at h
   ·simp only at h;split at h
    ·rename_i hq;cases h;exact⟨hq.1,λx hx=>List.all_eq_true.1 hq.2 x hx⟩
    ·cases h
   ·cases h
  ·cases h
theorem BZ{x}(h:dm x=true):1<=x.length/\x.length<=16:=by
 simp only[dm,Bool.and_eq_true,decide_eq_true_eq]at h;exact⟨h.1.1.1.1.1,h.1.1.1.1.2⟩
theorem yl:∀ {l:List ax},(∀x∈l,dm x=true)->(ir l).length<=17*l.length
 |[],_=>by simp[ir]
 |x::r,h=>by
  have h1:=BZ (h x (by simp));have ih:=yl (l:=r) λy hy=>h y (by simp[hy]);simp only[ir,List.flatMap_cons,List.length_append,List.length_cons]at ih⊢;omega
set_option maxHeartbeats 1000000 in
theorem qa s:az prog 113 #[sE s] tt (λv=>aE λa=>aE λc=>aA (v=.tuple #[.slice a ((bW s).getD []).length c,an (if(bW s).isSome then 0 else 20)]) (sv a ((bW s).getD []).length c ((bW s).getD []))):=by
 refine ao (ρ:=[.s s]) {aF:=jW,dN:=true,dv:=true} Gh [] 1 ?_
 have bad:∀R h,bW s=none->(aE λa=>aE λc=>aA ((Value.tuple #[.slice none 0 0,an 20])=.tuple #[.slice a ((bW s).getD []).length c,an (if(bW s).isSome then 0 else 20)]) (sv a ((bW s).getD []).length c ((bW s).getD []))).p R h:=λR h e=>by
  rw[e];exact⟨none,0,rfl,bY.nil _ _ R h⟩
 refine⟨λh=>.of λR h' H=>?_,λh1=>⟨λh=>.of λR h' H=>bad R h' ?_,λh2=>?_⟩⟩
 ·have e:bW s=some []:=by unfold bW;rw[aB h]
  rw[e];exact⟨none,0,rfl,bY.nil _ _ R h'⟩
 ·cases e:bW s with
  |none=>rfl
  |some l=>
   exfalso;obtain⟨q1,q2⟩:=ji e;have q3:=yl q2;unfold bW at e;rw[aq h1]at e;split at e
   ·split at e
    ·rename_i b r hb;simp only at e;split at e
     ·cases e;have:=zt 47 r;unfold ir at q3;rw[this]at q3;simp at h q3 q1;omega
     ·cases e
    ·cases e
   ·cases e
 refine(Gg s [47] tt).wk ?_;rintro v R h ⟨rfl,H⟩;refine⟨([47]:ax).isPrefixOf s,rfl,⟨λhp=>.of λR h H=>bad R h ?_,λhp=>?_⟩,H⟩
 ·unfold bW;rw[aq h1];cases s with
  |nil=>rfl
  |cons b r=>
   have:¬b=47:=λe=>by subst e;simp at hp
   simp only[this,if_false]
 ·clear H
  obtain⟨r,rfl⟩:∃r,s=47::r:=by
   cases s with
   |nil=>simp at hp
   |cons b r=>
    have:b=47:=by
     simp[List.isPrefixOf]at hp;exact hp.symm
    exact⟨r,by rw[this]⟩
  have hl:r.length<=1000:=by simp at h2;omega
  have hsl:=BY (47::r) (some 1) none (by simp) (by simp) tt;simp only[Option.getD_some,Option.getD_none,List.take_length,List.drop_succ_cons,List.drop_zero]at hsl;refine⟨r,hsl,?_⟩;refine(RB r hl).wk ?_;rintro v R h ⟨a,c,rfl,H⟩
  have es:bW (47::r)=if(cx 47 r).length<=8/\(cx 47 r).all dm=true then some (cx 47 r)else none:=by
   unfold bW;rw[aq h1];simp
  refine⟨a,_,c,sv a (cx 47 r).length c (cx 47 r),rfl,⟨λh8=>.of λR h H=>bad R h ?_,λh8=>?_⟩,H⟩
  ·rw[es,aq (λq=>by omega)]
  clear H;refine az.cM (φ:=a=none->(cx 47 r).length=0) (λR h H=>(ow _ _ _ _ _ _).none R h H) λxP=>?_;refine(Dx (sv a (cx 47 r).length c (cx 47 r)) a _ c (cx 47 r) (ow _ _ _ _ _ _) rfl (by omega) (.func (.func 183) #[] #[]) rfl (λx=> !dm x) aeI).wk ?_;rintro v R h ⟨rfl,H⟩;refine⟨(cx 47 r).any λx=> !dm x,rfl,⟨λhb=>.of λR h H=>bad R h ?_,λhb=>.of λR h H=>?_⟩,H⟩
  ·rw[es,aq];rintro⟨_,q⟩;obtain⟨x,hx,OM⟩:=List.any_eq_true.1 hb;rw[List.all_eq_true.1 q x hx]at OM;cases OM
  ·have e:bW (47::r)=some (cx 47 r):=by
    have hall:(cx 47 r).all dm=true:=List.all_eq_true.2 λx hx=>by
     cases hq:dm x with
     |true=>rfl
     |false=>exact absurd (List.any_eq_true.2 ⟨x,hx,by simp[hq]⟩) hb
    rw[es,aB ⟨by omega,hall⟩]
   rw[e];exact⟨a,c,rfl,H⟩
theorem RC l x:ir (l++[x])=ir l++[47]++x:=by simp[ir]
set_option maxHeartbeats 1000000 in
theorem V3 S a n c l(hr:bX S a n (l.map sE))(hl:l.length=n)(hn:n<=8)(hok:∀x∈l,dm x=true):
 az prog 326 #[.slice a n c] S (λv=>aA (v=sE (zr l)) S):=by
 refine az.cM (φ:=a=none->n=0) (λR h H=>hr.none R _ H) λxP=>?_;refine ao (ρ:=[.a a,.n n,.n c,.p S]) {iS:=[381],hv:=[(0,[(.b 4)])],aF:=jW,dN:=true,dv:=true} [(.s 0)] VV 4 ?_;refine⟨λh=>.of λR h' H=>⟨?_,H⟩,λh0 b=>?_⟩
 ·have:l=[]:=List.eq_nil_of_length_eq_zero (by omega);rw[this];rfl
 have hne:l≠[]:=λe=>by subst e;simp at hl;omega
 have aiw:∀k,k<=n->(ir (l.take k)).length<=17*k:=λk hk=>by
  have:=yl (l:=l.take k) λx hx=>hok x (List.mem_of_mem_take hx);rw[List.length_take]at this;omega
 refine⟨λi P=>∃k:Nat,i=k/\k<=n/\HP.aT P (kN b (ir (l.take k))),λi _=>n - i.toNat,⟨0,rfl,Nat.zero_le _,.of λR h H=>kN.new b H⟩,?_⟩;rintro _ P ⟨k,rfl,hk,hP⟩;refine⟨λhlt=>⟨by omega,λ_=>⟨?_,λ_=>?_⟩⟩,λlH=>?_⟩
 ·cases a with
  |none=>have:=xP rfl;omega
  |some _=>rfl
 ·have ki:k<l.length:=by omega
  have hx:=BZ (hok l[k] (List.getElem_mem ki));have hb:=aiw k hk;refine⟨l[k],oI hr.rd (List.getElem?_eq_getElem ki),?_⟩;refine(RA b (ir (l.take k)) 47 (by omega)).bv (K:=tt) (hP.trans (.of λR h H=>aD H)) λv=>.of λR h H=>?_;obtain⟨rfl,H1⟩:=ai H;refine⟨.nilIface,tt,kN b (ir (l.take k)++[47]),rfl,?_,aW H1⟩;clear H H1;refine(Jn b (ir (l.take k)++[47]) l[k] (by simp;omega)).wk ?_;rintro v R h ⟨rfl,H⟩;refine⟨l[k].length,.nilIface,tt,kN b (ir (l.take k)++[47]++l[k]),rfl,⟨eU _ (by omega) (by omega),λ_=>⟨⟨k+1,by omega,by omega,.of λR h H=>?_⟩,by first|omega|(dsimp only;omega)⟩⟩,aW H⟩;rw[List.take_succ_eq_append_getElem ki,RC];exact H
 ·obtain rfl:k=n:=by omega
  rw[List.take_of_length_le (by omega)]at hP
  have hj:ir l≠[]:=by
   cases l with
   |nil=>exact absurd rfl hne
   |cons x r=>simp[ir]
  refine(Mv b (ir l) hj).bv (K:=tt) (hP.trans (.of λR h H=>aD H)) λv=>.of λR h H=>?_;obtain⟨rfl,H1⟩:=ai H;refine⟨ir l,tt,rfl,.of λR h H=>⟨?_,H⟩,H1⟩;simp[zr,hne,sE]
theorem bX.cut{S}{a}{n k}{xs}(r:bX S a n xs)(hk:k<=n):bX S a k (xs.take k):=
 ⟨λw R h F s H j u hj=>r.rd w R h F s H j u (by
   rw[List.getElem?_take]at hj;split at hj
   ·exact hj
   ·cases hj),λR h H e=>by have:=r.none R h H e;omega⟩
set_option maxHeartbeats 1000000 in
theorem Mx s:az prog 324 #[sE s] tt (λv=>HP.pure (v=match bW s with
 |some (x::r)=>.tuple #[sE (zr (x::r).dropLast),sE ((x::r).getLast (by simp)),.int .i64 0]
 |_=>.tuple #[sE [],sE [],.int .i64 20])):=by
 refine ao (ρ:=[.s s]) {aF:=jW,dN:=true,dv:=true} Gh [] 1 ?_;refine(qa s).wk ?_;rintro v R h ⟨a,c,rfl,H⟩;have kL:((bW s).getD []).length≠0->a.isSome=true:=λhn=>bY.some H (by omega);have hle:((bW s).getD []).length<=c:=bY.le H;refine⟨a,_,c,sv a ((bW s).getD []).length c ((bW s).getD []),_,rfl,?_,H⟩;clear H;cases hs:bW s with
 |none=>exact⟨λ_=>.of λR h H=>rfl,λh=>by simp at h⟩
 |some l=>
  refine⟨λh=>absurd (by rfl) h,λ_=>⟨λh=>.of λR h' H=>?_,λh0=>?_⟩⟩
  ·simp at h;subst h;rfl
  rw[hs]at kL hle;simp only[Option.getD_some]at h0 kL hle⊢;obtain⟨hl8,hok⟩:=ji hs;have hlen:0<l.length:=by omega
  obtain⟨i,hi,_⟩:=info_parts wG;obtain⟨m,hm⟩:∃m:Nat,l.length=m+1:=⟨l.length - 1,by omega⟩;have e1:(l.length:Int) - 1=(m:Nat):=by omega
  have rd:bX (sv a l.length c l) a l.length (l.map sE):=ow _ _ _ _ _ _
  have hg:l[m]? =some (l.getLast (by intro e;subst e;simp at hlen)):=by
   rw[List.getLast_eq_getElem,List.getElem?_eq_getElem (by omega)];congr 1;simp[hm]
  have hdl:l.dropLast=l.take m:=by rw[List.dropLast_eq_take,hm];rfl
  refine⟨eU _ (by omega) (by omega),λ_=>⟨a,m,c,?_,by omega,λ_=>⟨by omega,λ_=>⟨kL (by omega),λ_=>⟨l.getLast (by intro e;subst e;simp at hlen),?_,?_⟩⟩⟩⟩⟩
  ·rw[e1];exact Gn Jk hi _ a l.length c m (by omega) hle
  ·rw[e1];exact oI rd.rd hg
  ·have rd2:bX (sv a l.length c l) a m ((l.take m).map sE):=by
    have:=rd.cut (k:=m) (by omega)
    rwa [<-List.map_take]at this
   refine(V3 (sv a l.length c l) a m c (l.take m) rd2 (by simp;omega) (by omega) λx hx=>hok x (List.mem_of_mem_take hx)).wk ?_;rintro v R h ⟨rfl,H⟩;refine⟨zr (l.take m),rfl,.of λR h H=>?_,H⟩;cases l with
   |nil=>simp at hlen
   |cons x r=>
    show _=_;simp only[hdl];rfl
theorem RD S1 S2 a n c l(b:aG)(m d:Nat)(q:List ax)(h1:bX S1 a n (l.map sE))(h2:bX S2 b m (q.map sE))(hl:l.length=n)(hq:q.length=m)(hn:n<=100000):
 az prog 325 #[.slice a n c,.slice b m d] (aj S1 S2) (λv=>aA (v=.bool (decide (l=q))) (aj S1 S2)):=by
 refine az.cM (φ:=(a=none->n=0)/\(b=none->m=0)) (λR h H=>⟨h1.none R _ (ai H),h2.none R _ (ah H)⟩) λ⟨n1,n2⟩=>?_;refine ao (ρ:=[.a a,.n n,.n c,.p S1,.a b,.n m,.n d,.p S2]) {aF:=jW,dN:=true,dv:=true} [(.s 0),(.s 4)] aeE 8 ?_;refine⟨λh=>.of λR h' H=>⟨?_,H⟩,λh0=>?_⟩
 ·have:l≠q:=λe=>by subst e;omega
  rw[decide_eq_false this]
 have hnm:n=m:=by omega
 refine⟨λ_ i=>∃k:Nat,i=k/\k<=n/\l.take k=q.take k,λ_ i=>n - i.toNat,⟨0,rfl,Nat.zero_le _,rfl⟩,?_⟩;rintro _ _ ⟨k,rfl,hk,he⟩;refine⟨λhlt=>⟨by omega,λ_=>⟨?_,λ_=>?_⟩⟩,λlH=>.of λR h H=>⟨?_,H⟩⟩
 ·cases a with
  |none=>have:=n1 rfl;omega
  |some _=>rfl
 ·have ki:k<l.length:=by omega
  have hkq:k<q.length:=by omega
  refine⟨l[k],oI h1.rd (List.getElem?_eq_getElem ki),by omega,λ_=>⟨?_,λ_=>⟨q[k],oI h2.rd (List.getElem?_eq_getElem hkq),?_⟩⟩⟩
  ·cases b with
   |none=>have:=n2 rfl;omega
   |some _=>rfl
  refine⟨λhne=>.of λR h H=>⟨?_,H⟩,λheq=>⟨eU _ (by omega) (by omega),λ_=>⟨⟨k+1,by omega,by omega,?_⟩,by first|omega|(dsimp only;omega)⟩⟩⟩
  ·have:l≠q:=λe=>by subst e;exact hne rfl
   rw[decide_eq_false this]
  ·rw[List.take_succ_eq_append_getElem ki,List.take_succ_eq_append_getElem hkq,he];have:l[k]=q[k]:=heq;rw[this]
 ·obtain rfl:k=n:=by omega
  rw[List.take_of_length_le (by omega),List.take_of_length_le (by omega)]at he;rw[decide_eq_true he]
def kO(s o:ax):Bool:=match bW s,bW o with
 |some l,some q=>decide (q.length<l.length)&&decide (q=l.take q.length)
 |_,_=>false
set_option maxHeartbeats 1000000 in
theorem My s o:az prog 320 #[sE s,sE o] tt (λv=>HP.pure (v=.bool (kO s o))):=by
 refine ao (ρ:=[.s s,.s o]) {aF:=jW,dN:=true,dv:=true} [(.str 0),(.str 1)] [] 2 ?_;refine(qa s).wk ?_;rintro v R h ⟨a,c,rfl,H⟩;have hle:((bW s).getD []).length<=c:=bY.le H;refine⟨a,_,c,sv a ((bW s).getD []).length c ((bW s).getD []),_,rfl,?_,H⟩;clear H;cases hs:bW s with
 |none=>exact⟨λ_=>.of λR h H=>(by simp[HP.pure,kO,hs]),λh=>by simp at h⟩
 |some l=>
  refine⟨λh=>absurd (by rfl) h,λ_=>?_⟩;rw[hs]at hle;simp only[Option.getD_some]at hle⊢;obtain⟨hl8,_⟩:=ji hs;refine(qa o).wk ?_;rintro v R h ⟨b,d,rfl,H⟩;refine⟨b,_,d,sv b ((bW o).getD []).length d ((bW o).getD []),_,rfl,?_,H⟩;clear H;cases ho:bW o with
  |none=>exact⟨λ_=>.of λR h H=>(by simp[HP.pure,kO,hs,ho]),λh=>by simp at h⟩
  |some q=>
   simp only[Option.getD_some];obtain⟨hq8,_⟩:=ji ho;refine⟨λh=>absurd (by rfl) h,λ_=>⟨λh=>.of λR h' H=>?_,λh0=>?_⟩⟩
   ·have:¬q.length<l.length:=by omega
    simp[HP.pure,kO,hs,ho,this]
   ·obtain⟨i,hi,_⟩:=info_parts wG;have rd:bX (sv a l.length c l) a l.length (l.map sE):=ow _ _ _ _ _ _;refine⟨a,q.length,c,Gn Jk hi _ a l.length c q.length (by omega) hle,?_⟩
    have rd2:bX (sv a l.length c l) a q.length ((l.take q.length).map sE):=by
     have:=rd.cut (k:=q.length) (by omega)
     rwa [<-List.map_take]at this
    refine(RD (sv b q.length d q) (sv a l.length c l) b q.length d q a q.length c (l.take q.length) (ow _ _ _ _ _ _) rd2 rfl (by simp;omega) (by omega)).wk ?_;rintro v R h ⟨rfl,H⟩;refine⟨_,rfl,.of λR h H=>?_,H⟩;have:q.length<l.length:=by omega
    simp[HP.pure,kO,hs,ho,this]
section
variable {κ:Type}[DecidableEq κ]{enc:κ->Value}{m c:Nat}{l:AL κ}{Q:HP}
theorem wK{t k e}(ht:prog.underlying t=some (.map k e))(hm:∀R h,Q.p R h->h m=some (aX enc l c)):
 aR prog (q9 t (.map (some m))) Q (λv=>aE λit=>aA (v=pt it) (aj (HP.one it (.mapIter (some m) c #[] c)) Q)):=λw R h F s a=>by
 obtain⟨s2,d2⟩:=s.alloc (.mapIter (some m) c #[] c);refine⟨.value _,_,_,by unfold q9;rw[Sem.run_bind,t8 ht (s.oh _ _ (hm R h a))];rfl,rfl,Same.alloc _ _,R,_,PH.le.refl _,s2,w.heap.size,rfl,_,h,d2,PH.dC _ _,PH.cP d2,PH.cX _ _,a⟩
theorem Ju{t k e}(ht:prog.underlying t=some (.map k e)):
 aR prog (q9 t (.map none)) Q (λv=>aE λit=>aA (v=pt it) (aj (HP.one it (.mapIter none 0 #[] 0)) Q)):=λw R h F s a=>by
 obtain⟨s2,d2⟩:=s.alloc (.mapIter none 0 #[] 0);refine⟨.value _,_,w.alloc (.mapIter none 0 #[] 0),?_,rfl,Same.alloc _ _,R,_,PH.le.refl _,s2,w.heap.size,rfl,_,h,d2,PH.dC _ _,PH.cP d2,PH.cX _ _,a⟩;unfold q9 Instr.range;simp[RX.run_underlying ht,newObj];rfl
theorem Jv{it}{ty}:aR prog (oD (pt it) ty) (aj (HP.one it (.mapIter none 0 #[] 0)) Q) (λv=>aA (v=.tuple #[.bool false]) (aj (HP.one it (.mapIter none 0 #[] 0)) Q)):=
 aR.FE (v:=.tuple #[.bool false]) (λw R h F s a=>by
  have hh:=s.oh _ _ (ai a);unfold oD Instr.next
  simp[getObj,Sem.run,hh]) λR h H=>⟨rfl,H⟩
theorem wL{it}{S}{ty}(hs:ja l c)(hm:∀R h,Q.p R h->h m=some (aX enc l c)):
 aR prog (oD (pt it) ty) (aj (HP.one it (.mapIter (some m) c S c)) Q)
 (λv=>aE λe=>aA (Iv enc l S v e) (aj (HP.one it (.mapIter (some m) c (gR S e) c)) Q)):=λw R h F s a=>by
 have a1:=ai a;have a2:=hm _ _ (ah a);rcases vT (P:=prog) ty (s.oh _ _ a1) (s.oh _ _ a2) hs with⟨hall,fg⟩|⟨x,hx,hS,w1,Tq,fg⟩
 ·exact⟨.value _,_,w,by unfold oD;rw[Sem.run_bind,fg];rfl,rfl,Same.refl _,R,h,PH.le.refl _,s,none,⟨rfl,hall⟩,a⟩
 ·have s1:Sat w1 R h F/\Same w w1:=by
   rcases Tq with rfl|rfl
   ·exact⟨s,Same.refl _⟩
   ·exact⟨s.drew _,Same.drew w _⟩
  obtain⟨h1,h2,d,l1,l2,b1,b2⟩:=a;have aix:h2 it=none:=(d it).resolve_left (by rw[show h1 it=some _ from b1];simp);refine⟨.value _,_,_,by unfold oD;rw[Sem.run_bind,fg];rfl,rfl,s1.2.trans (Same.setObj _ _ _),R,_,PH.le.refl _,s1.1.setObj a1,some x,⟨rfl,hx,hS⟩,PH.one it _,h2,λk=>?_,PH.oT (aB rfl),λk y hk=>?_,PH.cX _ _,b2⟩
  ·by_cases e:k=it
   ·subst e;exact .inr aix
   ·exact .inl (aq e)
  ·have:k≠it:=λe=>by subst e;rw[aix]at hk;cases hk
   exact(aq this).trans (l2 _ _ hk)
end
section
variable {κ:Type}{c:Nat}{l:AL κ}
theorem Ep(hI:fC l c){S:Array Nat}{ys}(hy:∀k,k∈ys↔∃x∈l,x.1=k/\x.2.2∈S){x}(hx:x∈l)(hS:x.2.2∉S):
 x.1∉ys/\∀k,k∈ys++[x.1]↔∃y∈l,y.1=k/\y.2.2∈S.push x.2.2:=by
 refine⟨λh=>?_,λk=>?_⟩
 ·obtain⟨y,tg,e,QG⟩:=(hy _).1 h;have:=map_inj (λz:κ×Value×Nat=>z.1) hI.1 tg hx e;subst this;exact hS QG
 ·rw[List.mem_append,hy];constructor
  ·rintro(⟨y,h1,h2,h3⟩|h)
   ·exact⟨y,h1,h2,Array.mem_push.2 (.inl h3)⟩
   ·simp at h;subst h;exact⟨x,hx,rfl,Array.mem_push.2 (.inr rfl)⟩
  ·rintro⟨y,h1,h2,h3⟩;rcases jf hI.2 hx h1 h3 with rfl|h
   ·exact .inr (by simp[h2])
   ·exact .inl ⟨y,h1,h2,h⟩
theorem Jw{S:Array Nat}{ys:List κ}(hn:ys.Nodup)(hI:fC l c)(hy:∀k,k∈ys↔∃x∈l,x.1=k/\x.2.2∈S)(hall:∀x∈l,x.2.2∈S):ys.Perm (l.map (·.1)):=by
 refine(List.perm_ext_iff_of_nodup hn hI.1).2 λk=>?_;rw[hy,List.mem_map];exact⟨λ⟨x,h1,h2,_⟩=>⟨x,h1,h2⟩,λ⟨x,h1,h2⟩=>⟨x,h1,h2,hall x h1⟩⟩
end
def Dy{κ:Type}(enc:κ->Value)(ks:List κ)(ys:List κ)(args:dI)(Tn:List κ):Prop:=∃k,args= #[enc k]/\Tn=ys++[k]/\Tn.Nodup/\Tn.length<=ks.length
theorem ym{κ:Type}[DecidableEq κ]:∀ {ys ks:List κ},ys.Nodup->(∀k∈ys,k∈ks)->ys.length<=ks.length
 |[],_,_,_=>Nat.zero_le _
 |y::ys,ks,hn,h=>by
  obtain⟨h1,h2⟩:=List.nodup_cons.1 hn;have:=ym (ks:=ks.erase y) h2 λk hk=>(List.mem_erase_of_ne (λe=>by subst e;exact h1 hk)).2 (h k (by simp[hk]));have hy:y∈ks:=h y (by simp);rw[List.length_erase_of_mem hy]at this;have:=List.length_pos_of_mem hy;simp;omega
theorem uZ{α:Type}[Inhabited α]{enc}{e}{f}{le}(h1:∀x,(enc x).oneCell'=true)
 (hs:∀(blk off cap:Nat) (zs:List α) (w:World),Go.Sort.Holds enc w blk off zs.toArray->blk<w.heap.size->zs.length<4611686018427387904->Calls prog f #[.slice (some ⟨blk,off,none⟩) zs.length cap] w λed w'=>ed=.returned (cE)/\∃n os,w'=Go.Sort.grow (Go.Sort.putRow enc (Go.Sort.ahead w n) blk off (zs.mergeSort le).toArray) os)
 (h0:∀(p:aG) (cap:Nat) (w:World),Calls prog f #[.slice p 0 cap] w λed w'=>ed=.returned (cE)/\w'=w)
 (a:aG)  c (zs:List α) (hz:zs.length<=1000000):
 az prog f #[.slice a zs.length c] (bY e 1 a zs.length c (zs.map enc)) (λv=>aA (v=cE) (bY e 1 a zs.length c ((zs.mergeSort le).map enc))):=by
 rintro w R h F s ⟨hl,hx⟩;have hml:(zs.mergeSort le).length=zs.length:=List.length_mergeSort _
 by_cases YH:zs.length=0
 ·have xP:zs=[]:=List.eq_nil_of_length_eq_zero YH;subst xP;refine(h0 a c w).mono λed w' ⟨he,hw⟩=>⟨_,he,by rw[hw];exact Same.refl _,R,h,PH.le.refl _,by rw[hw];exact s,rfl,?_⟩;rw[List.mergeSort_nil];exact⟨hl,hx⟩
 rcases hx with⟨_,h2,_⟩|⟨g,cur,rfl,hg,q1,q2,q3,q4⟩
 ·exact absurd h2 YH
 have hw:=s.oh _ _ hg
 have xO:∀(j:Nat) (x:α),zs[j]? =some x->cur[j]? =some (enc x):=λj x hj=>by
  have h3:(cur.toList.take (zs.length*1))[j]? =some (enc x):=by rw[q4];simp[hj]
  rw[List.getElem?_take]at h3;split at h3
  ·simpa using h3
  ·cases h3
 have hH:Go.Sort.Holds enc w g 0 zs.toArray:=λj hj=>by
  have hj':j<zs.length:=by simpa using hj
  have:=xO j zs[j] (List.getElem?_eq_getElem hj');refine⟨?_,?_⟩
  ·rw[Nat.zero_add,mV hw,this];simp[hj']
  ·simp[World.frozen?,hw]
 refine(hs g 0 c zs w hH (by rcases Nat.lt_or_ge g w.heap.size with h|h;exact h;rw[Array.getElem?_eq_none h]at hw;cases hw) (by omega)).mono λed w' ⟨he,n,os,UA⟩=>?_;have hlt:g<w.heap.size:=by rcases Nat.lt_or_ge g w.heap.size with h|h;exact h;rw[Array.getElem?_eq_none h]at hw;cases hw
 have Oy:∀k,k<w.heap.size->w'.heap[k]? =if g=k then(w.heap[k]?).map (Go.Sort.onCells (Go.Sort.putCells enc 0 (zs.mergeSort le).toArray))else w.heap[k]? :=λk hk=>by
  rw[UA];simp only[Go.Sort.grow,Go.Sort.putRow,Go.Sort.mapBlock,Go.Sort.ahead];rw[Array.getElem?_append_left (by simpa using hk),Array.getElem?_modify]
 have hg':w'.heap[g]? =some (.cells (Go.Sort.putCells enc 0 (zs.mergeSort le).toArray cur) e (0,0)):=by
  rw[Oy g hlt,aB rfl,hw];rfl
 have B0:w.grownBy w' (some g):=by
  refine⟨by rw[UA];rfl,by rw[UA];rfl,by rw[UA];rfl,by rw[UA];simp[Go.Sort.grow,Go.Sort.putRow,Go.Sort.mapBlock,Go.Sort.ahead],λk hk hne=>?_⟩;rw[Oy k hk,aq (λe=>hne (by rw[e]))]
 have s2:=Sat.grown s (row:=some g) (λg2 hg2=>by cases hg2;rw[hg];simp) B0 hg' (.inl rfl);refine⟨_,he,⟨B0.os,B0.tape,B0.output,B0.size⟩,R,_,PH.le.refl _,s2,rfl,by simp,.inr ⟨g,_,rfl,PH.cX _ _,q1,q2,?_,?_⟩⟩
 ·simp[Go.Sort.putCells,q3]
 ·have hsz:zs.length<=cur.size:=by rw[q3];omega
  refine List.ext_getElem? λj=>?_;rw[Nat.mul_one,List.getElem?_take]
  by_cases hj:j<zs.length
  ·rw[aB hj];have Hb:j<(zs.mergeSort le).length:=by omega
   simp[Go.Sort.putCells,hj,Hb,show j<cur.size by omega]
  ·rw[aq hj,List.getElem?_eq_none (by simp;omega)]
end
namespace RX
-- maps.arQ[map[string]int,string,int]:ρ:=[.v m,.p mP]
abbrev Er:Hp:=[(0,1)]
abbrev Es:List W:=[(.val 0)]
end RX
section
open RX
def lz(x:Nat)(m:Option Nat):HP:=HP.one x (.cells #[.map m] 208 (0,0))
theorem Jy m Q:az prog 123 #[.map m] Q
 (λv=>aE λx=>aA (v=.func (.func 203) #[] #[pt x]) (aj (lz x m) Q)):=by
 refine ao (ρ:=[.v (.map m),.p Q]) {fk:=[208],aF:=[123,201,245],link:=[(123,0)],dN:=true,dv:=true} Es Er 2 ?_;exact λx=>.of λR h H=>⟨x,rfl,ak H⟩
theorem ang:xC prog 203:=⟨_,Tryz.func203,by kernel_rfl,by kernel_rfl⟩
def aiy(ks ys:List ax)(args:dI):HP:=HP.pure (∃Tn,Dy sE ks ys args Tn)
theorem V4{a b}(h:sE a=sE b):a=b:=by
 simpa[sE]using h
set_option maxHeartbeats 1000000 in
theorem anh x m l c Q(hI:fC l c)(hv:∀y∈l,(λv:Value=>∃n:Int,v=an n) y.2.1)(hm:∀mb,m=some mb->∀R h,Q.p R h->h mb=some (aX sE l c))(h0:m=none->l=[]):
 xH prog (.func (.func 203) #[] #[pt x]) (aj (lz x m) Q) (λ_=>tt) (aiy (l.map (·.1))) (Dy sE (l.map (·.1))) (λys=>ys.Perm (l.map (·.1))) ([]:List ax):=by
 refine⟨_,_,rfl,ang,λL Kp Jx hr=>?_⟩;refine az.aK (A:=aj (aj tt (Kp [])) (aj (lz x m) Q)) ?_ (λR h H=>ak H) λ_ _ _ h=>h;refine ao (ρ:=[.v (.func (.yield L) #[] #[]),.p (aj tt (Kp [])),.n x,.v (.map m),.p Q]) {fk:=[208],hv:=[(0,[(.b 5),(.a 0)])],aF:=[123,201,245],link:=[(123,0)],aT:=[(8,[9,3])],dN:=true,dv:=true} [(.val 0),(.ptr 2 0)] [(0,1),((.b 2),(.cells [(.val 3)] 208)),(3,4)] 5 ?_
 try simp only[eD,ne_eq,Nat.reduceEqDiff,not_false_eq_true]
 have iW:∀(J Q':HP),HP.aT J (jp (λ_=>tt) Kp Jx (λys=>ys.Perm (l.map (·.1))))->Q'=Q->HP.aT (aj J (aj (HP.one x (.cells #[.map m] 208)) Q'))
  (aj (aj (lz x m) Q) (jp (λ_=>tt) Kp Jx (λys=>ys.Perm (l.map (·.1))))):=λJ Q' hJ hQ=>by
  subst hQ;exact(hJ.aj _).trans (.of λR h H=>ak H)
 cases m with
 |none=>
  have hl:l=[]:=h0 rfl;refine(Ju (Q:=Q) (show prog.underlying 208=some (.map 9 3) by kernel_rfl)).wk ?_;rintro v R h ⟨it,rfl,H⟩;refine⟨it,HP.one it (.mapIter none 0 #[] 0),Q,rfl,⟨λPi Pk=>Pi=HP.one it (.mapIter none 0 #[] 0)/\Pk=aj tt (Kp []),λ_ _=>Nat.zero,⟨rfl,rfl⟩,?_⟩,H⟩;rintro _ _ ⟨rfl,rfl⟩;refine Jv.wk ?_;rintro v R h ⟨rfl,H⟩;refine⟨false,cE,cE,_,rfl,⟨λh=>(by cases h),λ_=>iW _ _ (.of λR h H=>⟨some [],?_,H⟩) rfl⟩,H⟩;rw[hl];exact List.Perm.refl _
 |some mb=>
  have hmb:=hm mb rfl;refine(wK (Q:=Q) (enc:=sE) (l:=l) (c:=c) (show prog.underlying 208=some (.map 9 3) by kernel_rfl) hmb).wk ?_;rintro v R h ⟨it,rfl,H⟩
  let J:HP->HP->Nat->Prop:=λPi Pk N=>∃(S:Array Nat) (ys:List ax),Pi=HP.one it (.mapIter (some mb) c S c)/\HP.aT Pk (aj tt (Kp ys))/\ys.Nodup/\(∀k,k∈ys↔∃y∈l,y.1=k/\y.2.2∈S)/\kJ l S=N
  refine⟨it,HP.one it (.mapIter (some mb) c #[] c),Q,rfl,⟨λPi Pk=>∃N,J Pi Pk N,λPi Pk=>cY (J Pi Pk),⟨_,#[],[],rfl,.refl _,List.nodup_nil,λk=>by simp,rfl⟩,?_⟩,H⟩;clear H;intro Pi Pk hJ;have IF:=gr hJ;generalize IG:cY (J Pi Pk)=N at IF;obtain⟨S,ys,rfl,hP,hn,hy,hN⟩:=IF;refine(wL (Q:=Q) hI.2 hmb).wk ?_;rintro v R h ⟨e,he,H⟩;rcases e with _|y
  ·refine⟨false,cE,cE,_,he.1,⟨λh=>(by cases h),λ_=>iW _ _ (hP.trans (.of λR h H=>⟨some ys,Jw hn hI hy he.2,H⟩)) rfl⟩,H⟩
  ·obtain⟨rfl,tg,FG⟩:=he;obtain⟨n,Un⟩:=hv y tg;obtain⟨Dd,U5⟩:=Ep hI hy tg FG
   have iZ:(ys++[y.1]).Nodup:=by
    rw[List.nodup_append];exact⟨hn,by simp,λa ha b hb=>by simp at hb;subst hb;exact λe=>Dd (e▸ha)⟩
   have hlen:(ys++[y.1]).length<=(l.map (·.1)).length:=ym iZ λk hk=>by
    obtain⟨z,hz,e,_⟩:=(U5 k).1 hk;exact List.mem_map.2 ⟨z,hz,e⟩
   have A9:Dy sE (l.map (·.1)) ys #[sE y.1] (ys++[y.1]):=⟨y.1,rfl,rfl,iZ,hlen⟩
   have kE:=nA (enc:=sE) (it:=it) (m:=mb) (c:=c) (S:=S) (x:=y) hI.2 tg (A:=aj (HP.one it (.mapIter (some mb) c (gR S (some y)) c)) Q) (λR h H=>ai H) (λR h H=>hmb _ _ (ah H)|>λh1=>by
    obtain⟨_,_,_,_,l2,_,b2⟩:=H;exact l2 _ _ (hmb _ _ b2))
   rw[Un]at kE;refine⟨true,sE y.1,y.2.1,_,rfl,⟨λ_=>⟨y.1,n,kE,?_⟩,λh=>(by simp at h)⟩,H⟩;clear H;refine(hr ys #[sE y.1] ⟨_,A9⟩).bv (K:=tt) (hP.trans (.of λR h H=>aD (Az H ⟨_,A9⟩))) λv=>.of λR h H=>?_;obtain⟨b',C6,hb⟩:=ai H;have I3:kJ l (S.push y.2.2)<N:=by rw[<-hN];exact jU tg FG
   cases b' with
   |true=>
    refine⟨true,_,C6,⟨λh=>absurd rfl h,λ_=>?_⟩,hb⟩
    have Bq:J (HP.one it (.mapIter (some mb) c (gR S (some y)) c)) (aE λg'=>aA (Dy sE (l.map (·.1)) ys #[sE y.1] g') (aj tt (Kp g'))) (kJ l (S.push y.2.2)):=by
     refine⟨S.push y.2.2,ys++[y.1],rfl,.of λR h H=>?_,iZ,U5,rfl⟩;obtain⟨g',⟨k',e1,e2,_⟩,H⟩:=H
     have:k'=y.1:=by
      have e3:sE y.1=sE k':=by simpa using e1
      exact(V4 e3).symm
     subst this;subst e2;exact H
    exact⟨⟨_,Bq⟩,Nat.lt_of_le_of_lt (gm Bq) (Nat.lt_of_lt_of_eq I3 IG.symm)⟩
   |false=>
    exact⟨false,Jx,C6,⟨λ_=>iW Jx Q (.of λR h H=>⟨none,H⟩) rfl,λh=>absurd h (by simp)⟩,hb⟩
theorem aeK:(prog.info? 9).map (λi=>(i.zero,i.size,i.bytes))=some (some (.string .empty),1,16):=by kernel_rfl
theorem aiz:prog.underlying 45=some (.slice 9):=by kernel_rfl
set_option maxHeartbeats 1000000 in
theorem Mz x m l c Q(hI:fC l c)(hv:∀y∈l,(λv:Value=>∃n:Int,v=an n) y.2.1)(hm:∀mb,m=some mb->∀R h,Q.p R h->h mb=some (aX sE l c))(h0:m=none->l=[])(hl:l.length<=100000):
 az prog 245 #[.slice none 0 0,.func (.func 203) #[] #[pt x]] (aj (lz x m) Q)
  (λv=>aE λys:List ax=>aE λa=>aE λcc=>aA (ys.Perm (l.map (·.1))/\v=.slice a ys.length cc) (aj (bY 9 1 a ys.length cc (ys.map sE)) (aj (lz x m) Q))):=by
 refine az.aK (A:=aj (bY 9 1 none 0 0 []) (aj (lz x m) Q)) ?_ (λR h H=>ae (aW H) (λ_ _=>bY.nil _ _ _ _) λ_ h=>h) λ_ _ _ h=>h;refine ao (ρ:=[.a none,.n 0,.n 0,.p (bY 9 1 none 0 0 []),.v (.func (.func 203) #[] #[pt x]),.p (aj (lz x m) Q)]) {hv:=[(0,[(.b 6),(.a 0)])],aF:=[123,201,245],link:=[(123,0)],YA:=[(0,[9])],dN:=true,dv:=true} [(.s 0),(.val 4)] [(0,3),(4,5)] 6 ?_
 try simp only[eD,ne_eq,Nat.reduceEqDiff,not_false_eq_true]
 intro _ _;refine⟨List ax,λ_=>tt,aiy (l.map (·.1)),Dy sE (l.map (·.1)),λys=>ys.Perm (l.map (·.1)),[],λys a n cc P=>n=ys.length/\HP.aT P (bY 9 1 a n cc (ys.map sE)),anh x m l c Q hI hv hm h0,⟨rfl,.refl _⟩,?_,?_,?_⟩
 ·intro ys a n cc P _;rfl
 ·rintro ys args ⟨Tn,k,rfl,rfl,iZ,hlen⟩ a n cc P ⟨rfl,hP⟩;refine⟨k,rfl,.of λ_ _ _=>trivial,λeb=>?_⟩;obtain⟨i,hi,z1,z2,z3⟩:=info_parts aeK
  have tg:ys.length+1<=100000:=by
   have h3:=hlen;simp at h3;omega
  have Be:=fy 45 45 9 i _ aiz hi z1 (by rw[z2];rfl) (by omega) a ys.length cc (ys.map sE) (HP.one eb (.cells #[sE k] 9 (0,0))) ⟨eb,0,none⟩ 1 1 [sE k] (eQ eb #[sE k] _) (by rw[z2];rfl) (λu hu=>by simp at hu;subst hu;rfl) (by unfold maxLen;omega) (by rw[z3];omega);rw[z2]at Be;refine(Be.bv (K:=tt) ((hP.aj _).trans (.of λR h H=>aD H)) λv=>.of λR h H=>?_);obtain⟨a2,c2,rfl,H1⟩:=ai H;refine⟨a2,ys.length+1,c2,bY 9 1 a2 (ys.length+1) c2 ((ys++[k]).map sE),rfl,⟨ys++[k],⟨k,rfl,rfl,iZ,hlen⟩,by simp,.refl _⟩,?_⟩;rw[List.map_append];exact H1
 ·rintro ys hp a n cc P ⟨rfl,hP⟩;exact((HP.aT.refl _).gX hP).trans (.of λR h H=>⟨ys,a,cc,⟨hp,rfl⟩,ak H⟩)
set_option maxHeartbeats 1000000 in
theorem B1 x m l c Q(hI:fC l c)(hv:∀y∈l,(λv:Value=>∃n:Int,v=an n) y.2.1)(hm:∀mb,m=some mb->∀R h,Q.p R h->h mb=some (aX sE l c))(h0:m=none->l=[])(hl:l.length<=100000):
 az prog 122 #[.func (.func 203) #[] #[pt x]] (aj (lz x m) Q)
  (λv=>aE λys:List ax=>aE λa=>aE λcc=>aA (ys.Perm (l.map (·.1))/\v=.slice a ys.length cc) (aj (bY 9 1 a ys.length cc ((ys.mergeSort λx y=>decide (x<=y)).map sE)) (aj (lz x m) Q))):=by
 have collect:az prog 201 #[.func (.func 203) #[] #[pt x]] (aj (lz x m) Q)
  (λv=>aE λys:List ax=>aE λa=>aE λcc=>aA (ys.Perm (l.map (·.1))/\v=.slice a ys.length cc) (aj (bY 9 1 a ys.length cc (ys.map sE)) (aj (lz x m) Q))):=by
  refine ao (ρ:=[.v (.func (.func 203) #[] #[pt x]),.p (aj (lz x m) Q)]) {aF:=[123,201,245],link:=[(123,0)],dN:=true,dv:=true} Es Er 2 ?_
  try simp only[eD,ne_eq,Nat.reduceEqDiff,not_false_eq_true]
  refine(Mz x m l c Q hI hv hm h0 hl).wk ?_;rintro v R h ⟨ys,a,cc,⟨hp,rfl⟩,H⟩;exact⟨a,ys.length,cc,bY 9 1 a ys.length cc (ys.map sE),rfl,.of λR h H=>⟨ys,a,cc,⟨hp,rfl⟩,ak H⟩,H⟩
 refine ao (ρ:=[.v (.func (.func 203) #[] #[pt x]),.p (aj (lz x m) Q)]) {aF:=[123,201,245],link:=[(123,0)],dN:=true,dv:=true} Es Er 2 ?_
 try simp only[eD,ne_eq,Nat.reduceEqDiff,not_false_eq_true]
 refine collect.wk ?_;rintro v R h ⟨ys,a,cc,⟨hp,rfl⟩,H⟩;refine⟨a,ys.length,cc,bY 9 1 a ys.length cc (ys.map sE),rfl,?_,H⟩;clear H
 have tg:ys.length<=100000:=by
  have:=hp.length_eq;simp at this;omega
 refine(uZ (enc:=sE) (λ_=>rfl) (λblk off cap zs w hH hb hz=>Tryz.slices_Sort_string blk off cap zs w hH hb hz) (λp cap w=>Tryz.slices_Sort_string_none p cap w) a cc ys (by omega)).wk ?_;rintro v R h ⟨rfl,H⟩;exact⟨bY 9 1 a ys.length cc ((ys.mergeSort λx y=>decide (x<=y)).map sE),rfl,.of λR h H=>⟨ys,a,cc,⟨hp,rfl⟩,ak H⟩,H⟩
def mo(x:Nat)(m:Option Nat):HP:=HP.one x (.cells #[.map m] 185 (0,0))
theorem V5 m Q:az prog 121 #[.map m] Q
 (λv=>aE λx=>aA (v=.func (.func 200) #[] #[pt x]) (aj (mo x m) Q)):=by
 refine ao (ρ:=[.v (.map m),.p Q]) {fk:=[185],aF:=[121,199,244],link:=[(121,0)],dN:=true,dv:=true} Es Er 2 ?_;exact λx=>.of λR h H=>⟨x,rfl,ak H⟩
theorem ani:xC prog 200:=⟨_,Tryz.func200,by kernel_rfl,by kernel_rfl⟩
def aiA(ks ys:List Int)(args:dI):HP:=HP.pure (∃Tn,Dy cr ks ys args Tn)
theorem V6{a b}(h:cr a=cr b):a=b:=by
 simpa[cr]using h
set_option maxHeartbeats 1000000 in
theorem anj x m l c Q(hI:fC l c)(hv:∀y∈l,(λv:Value=>∃n:Nat,v=pt n) y.2.1)(hm:∀mb,m=some mb->∀R h,Q.p R h->h mb=some (aX cr l c))(h0:m=none->l=[]):
 xH prog (.func (.func 200) #[] #[pt x]) (aj (mo x m) Q) (λ_=>tt) (aiA (l.map (·.1))) (Dy cr (l.map (·.1))) (λys=>ys.Perm (l.map (·.1))) ([]:List Int):=by
 refine⟨_,_,rfl,ani,λL Kp Jx hr=>?_⟩;refine az.aK (A:=aj (aj tt (Kp [])) (aj (mo x m) Q)) ?_ (λR h H=>ak H) λ_ _ _ h=>h;refine ao (ρ:=[.v (.func (.yield L) #[] #[]),.p (aj tt (Kp [])),.n x,.v (.map m),.p Q]) {fk:=[185],hv:=[(0,[(.b 5),(.a 0)])],aF:=[121,199,244],link:=[(121,0)],aT:=[(8,[3,183])],dN:=true,dv:=true} [(.val 0),(.ptr 2 0)] [(0,1),((.b 2),(.cells [(.val 3)] 185)),(3,4)] 5 ?_
 try simp only[eD,ne_eq,Nat.reduceEqDiff,not_false_eq_true]
 have iW:∀(J Q':HP),HP.aT J (jp (λ_=>tt) Kp Jx (λys=>ys.Perm (l.map (·.1))))->Q'=Q->HP.aT (aj J (aj (HP.one x (.cells #[.map m] 185)) Q'))
  (aj (aj (mo x m) Q) (jp (λ_=>tt) Kp Jx (λys=>ys.Perm (l.map (·.1))))):=λJ Q' hJ hQ=>by
  subst hQ;exact(hJ.aj _).trans (.of λR h H=>ak H)
 cases m with
 |none=>
  have hl:l=[]:=h0 rfl;refine(Ju (Q:=Q) (show prog.underlying 185=some (.map 3 183) by kernel_rfl)).wk ?_;rintro v R h ⟨it,rfl,H⟩;refine⟨it,HP.one it (.mapIter none 0 #[] 0),Q,rfl,⟨λPi Pk=>Pi=HP.one it (.mapIter none 0 #[] 0)/\Pk=aj tt (Kp []),λ_ _=>Nat.zero,⟨rfl,rfl⟩,?_⟩,H⟩;rintro _ _ ⟨rfl,rfl⟩;refine Jv.wk ?_;rintro v R h ⟨rfl,H⟩;refine⟨false,cE,cE,_,rfl,⟨λh=>(by cases h),λ_=>iW _ _ (.of λR h H=>⟨some [],?_,H⟩) rfl⟩,H⟩;rw[hl];exact List.Perm.refl _
 |some mb=>
  have hmb:=hm mb rfl;refine(wK (Q:=Q) (enc:=cr) (l:=l) (c:=c) (show prog.underlying 185=some (.map 3 183) by kernel_rfl) hmb).wk ?_;rintro v R h ⟨it,rfl,H⟩
  let J:HP->HP->Nat->Prop:=λPi Pk N=>∃(S:Array Nat) (ys:List Int),Pi=HP.one it (.mapIter (some mb) c S c)/\HP.aT Pk (aj tt (Kp ys))/\ys.Nodup/\(∀k,k∈ys↔∃y∈l,y.1=k/\y.2.2∈S)/\kJ l S=N
  refine⟨it,HP.one it (.mapIter (some mb) c #[] c),Q,rfl,⟨λPi Pk=>∃N,J Pi Pk N,λPi Pk=>cY (J Pi Pk),⟨_,#[],[],rfl,.refl _,List.nodup_nil,λk=>by simp,rfl⟩,?_⟩,H⟩;clear H;intro Pi Pk hJ;have IF:=gr hJ;generalize IG:cY (J Pi Pk)=N at IF;obtain⟨S,ys,rfl,hP,hn,hy,hN⟩:=IF;refine(wL (Q:=Q) hI.2 hmb).wk ?_;rintro v R h ⟨e,he,H⟩;rcases e with _|y
  ·refine⟨false,cE,cE,_,he.1,⟨λh=>(by cases h),λ_=>iW _ _ (hP.trans (.of λR h H=>⟨some ys,Jw hn hI hy he.2,H⟩)) rfl⟩,H⟩
  ·obtain⟨rfl,tg,FG⟩:=he;obtain⟨n,Un⟩:=hv y tg;obtain⟨Dd,U5⟩:=Ep hI hy tg FG
   have iZ:(ys++[y.1]).Nodup:=by
    rw[List.nodup_append];exact⟨hn,by simp,λa ha b hb=>by simp at hb;subst hb;exact λe=>Dd (e▸ha)⟩
   have hlen:(ys++[y.1]).length<=(l.map (·.1)).length:=ym iZ λk hk=>by
    obtain⟨z,hz,e,_⟩:=(U5 k).1 hk;exact List.mem_map.2 ⟨z,hz,e⟩
   have A9:Dy cr (l.map (·.1)) ys #[cr y.1] (ys++[y.1]):=⟨y.1,rfl,rfl,iZ,hlen⟩
   have kE:=nA (enc:=cr) (it:=it) (m:=mb) (c:=c) (S:=S) (x:=y) hI.2 tg (A:=aj (HP.one it (.mapIter (some mb) c (gR S (some y)) c)) Q) (λR h H=>ai H) (λR h H=>hmb _ _ (ah H)|>λh1=>by
    obtain⟨_,_,_,_,l2,_,b2⟩:=H;exact l2 _ _ (hmb _ _ b2))
   rw[Un]at kE;refine⟨true,cr y.1,y.2.1,_,rfl,⟨λ_=>⟨y.1,n,kE,?_⟩,λh=>(by simp at h)⟩,H⟩;clear H;refine(hr ys #[cr y.1] ⟨_,A9⟩).bv (K:=tt) (hP.trans (.of λR h H=>aD (Az H ⟨_,A9⟩))) λv=>.of λR h H=>?_;obtain⟨b',C6,hb⟩:=ai H;have I3:kJ l (S.push y.2.2)<N:=by rw[<-hN];exact jU tg FG
   cases b' with
   |true=>
    refine⟨true,_,C6,⟨λh=>absurd rfl h,λ_=>?_⟩,hb⟩
    have Bq:J (HP.one it (.mapIter (some mb) c (gR S (some y)) c)) (aE λg'=>aA (Dy cr (l.map (·.1)) ys #[cr y.1] g') (aj tt (Kp g'))) (kJ l (S.push y.2.2)):=by
     refine⟨S.push y.2.2,ys++[y.1],rfl,.of λR h H=>?_,iZ,U5,rfl⟩;obtain⟨g',⟨k',e1,e2,_⟩,H⟩:=H
     have:k'=y.1:=by
      have e3:cr y.1=cr k':=by simpa using e1
      exact(V6 e3).symm
     subst this;subst e2;exact H
    exact⟨⟨_,Bq⟩,Nat.lt_of_le_of_lt (gm Bq) (Nat.lt_of_lt_of_eq I3 IG.symm)⟩
   |false=>
    exact⟨false,Jx,C6,⟨λ_=>iW Jx Q (.of λR h H=>⟨none,H⟩) rfl,λh=>absurd h (by simp)⟩,hb⟩
theorem aeL:(prog.info? 3).map (λi=>(i.zero,i.size,i.bytes))=some (some (an 0),1,8):=by kernel_rfl
theorem aiB:prog.underlying 23=some (.slice 3):=by kernel_rfl
set_option maxHeartbeats 1000000 in
theorem MA x m l c Q(hI:fC l c)(hv:∀y∈l,(λv:Value=>∃n:Nat,v=pt n) y.2.1)(hm:∀mb,m=some mb->∀R h,Q.p R h->h mb=some (aX cr l c))(h0:m=none->l=[])(hl:l.length<=100000):
 az prog 244 #[.slice none 0 0,.func (.func 200) #[] #[pt x]] (aj (mo x m) Q)
  (λv=>aE λys:List Int=>aE λa=>aE λcc=>aA (ys.Perm (l.map (·.1))/\v=.slice a ys.length cc) (aj (bY 3 1 a ys.length cc (ys.map cr)) (aj (mo x m) Q))):=by
 refine az.aK (A:=aj (bY 3 1 none 0 0 []) (aj (mo x m) Q)) ?_ (λR h H=>ae (aW H) (λ_ _=>bY.nil _ _ _ _) λ_ h=>h) λ_ _ _ h=>h;refine ao (ρ:=[.a none,.n 0,.n 0,.p (bY 3 1 none 0 0 []),.v (.func (.func 200) #[] #[pt x]),.p (aj (mo x m) Q)]) {hv:=[(0,[(.b 6),(.a 0)])],aF:=[121,199,244],link:=[(121,0)],YA:=[(0,[3])],dN:=true,dv:=true} [(.s 0),(.val 4)] [(0,3),(4,5)] 6 ?_
 try simp only[eD,ne_eq,Nat.reduceEqDiff,not_false_eq_true]
 intro _ _;refine⟨List Int,λ_=>tt,aiA (l.map (·.1)),Dy cr (l.map (·.1)),λys=>ys.Perm (l.map (·.1)),[],λys a n cc P=>n=ys.length/\HP.aT P (bY 3 1 a n cc (ys.map cr)),anj x m l c Q hI hv hm h0,⟨rfl,.refl _⟩,?_,?_,?_⟩
 ·intro ys a n cc P _;rfl
 ·rintro ys args ⟨Tn,k,rfl,rfl,iZ,hlen⟩ a n cc P ⟨rfl,hP⟩;refine⟨k,rfl,.of λ_ _ _=>trivial,λeb=>?_⟩;obtain⟨i,hi,z1,z2,z3⟩:=info_parts aeL
  have tg:ys.length+1<=100000:=by
   have h3:=hlen;simp at h3;omega
  have Be:=fy 23 23 3 i _ aiB hi z1 (by rw[z2];rfl) (by omega) a ys.length cc (ys.map cr) (HP.one eb (.cells #[cr k] 3 (0,0))) ⟨eb,0,none⟩ 1 1 [cr k] (eQ eb #[cr k] _) (by rw[z2];rfl) (λu hu=>by simp at hu;subst hu;rfl) (by unfold maxLen;omega) (by rw[z3];omega);rw[z2]at Be;refine(Be.bv (K:=tt) ((hP.aj _).trans (.of λR h H=>aD H)) λv=>.of λR h H=>?_);obtain⟨a2,c2,rfl,H1⟩:=ai H;refine⟨a2,ys.length+1,c2,bY 3 1 a2 (ys.length+1) c2 ((ys++[k]).map cr),rfl,⟨ys++[k],⟨k,rfl,rfl,iZ,hlen⟩,by simp,.refl _⟩,?_⟩;rw[List.map_append];exact H1
 ·rintro ys hp a n cc P ⟨rfl,hP⟩;exact((HP.aT.refl _).gX hP).trans (.of λR h H=>⟨ys,a,cc,⟨hp,rfl⟩,ak H⟩)
set_option maxHeartbeats 1000000 in
theorem MB x m l c Q(hI:fC l c)(hv:∀y∈l,(λv:Value=>∃n:Nat,v=pt n) y.2.1)(hm:∀mb,m=some mb->∀R h,Q.p R h->h mb=some (aX cr l c))(h0:m=none->l=[])(hl:l.length<=100000):
 az prog 120 #[.func (.func 200) #[] #[pt x]] (aj (mo x m) Q)
  (λv=>aE λys:List Int=>aE λa=>aE λcc=>aA (ys.Perm (l.map (·.1))/\v=.slice a ys.length cc) (aj (bY 3 1 a ys.length cc ((ys.mergeSort λx y=>decide (x<=y)).map cr)) (aj (mo x m) Q))):=by
 have collect:az prog 199 #[.func (.func 200) #[] #[pt x]] (aj (mo x m) Q)
  (λv=>aE λys:List Int=>aE λa=>aE λcc=>aA (ys.Perm (l.map (·.1))/\v=.slice a ys.length cc) (aj (bY 3 1 a ys.length cc (ys.map cr)) (aj (mo x m) Q))):=by
  refine ao (ρ:=[.v (.func (.func 200) #[] #[pt x]),.p (aj (mo x m) Q)]) {aF:=[121,199,244],link:=[(121,0)],dN:=true,dv:=true} Es Er 2 ?_
  try simp only[eD,ne_eq,Nat.reduceEqDiff,not_false_eq_true]
  refine(MA x m l c Q hI hv hm h0 hl).wk ?_;rintro v R h ⟨ys,a,cc,⟨hp,rfl⟩,H⟩;exact⟨a,ys.length,cc,bY 3 1 a ys.length cc (ys.map cr),rfl,.of λR h H=>⟨ys,a,cc,⟨hp,rfl⟩,ak H⟩,H⟩
 refine ao (ρ:=[.v (.func (.func 200) #[] #[pt x]),.p (aj (mo x m) Q)]) {aF:=[121,199,244],link:=[(121,0)],dN:=true,dv:=true} Es Er 2 ?_
 try simp only[eD,ne_eq,Nat.reduceEqDiff,not_false_eq_true]
 refine collect.wk ?_;rintro v R h ⟨ys,a,cc,⟨hp,rfl⟩,H⟩;refine⟨a,ys.length,cc,bY 3 1 a ys.length cc (ys.map cr),rfl,?_,H⟩;clear H
 have tg:ys.length<=100000:=by
  have:=hp.length_eq;simp at this;omega
 refine(uZ (enc:=cr) (λ_=>rfl) (λblk off cap zs w hH hb hz=>Tryz.slices_Sort_int blk off cap zs w hH hb hz) (λp cap w=>Tryz.slices_Sort_int_none p cap w) a cc ys (by omega)).wk ?_;rintro v R h ⟨rfl,H⟩;exact⟨bY 3 1 a ys.length cc ((ys.mergeSort λx y=>decide (x<=y)).map cr),rfl,.of λR h H=>⟨ys,a,cc,⟨hp,rfl⟩,ak H⟩,H⟩
end
namespace RX
def ii:=(({aF:=[322,317,318,319,306,307,304,72,98,123,121,120,122]}:jo).aF)
def ij:=(({link:=[(317,0),(318,0),(319,0),(123,0),(121,0)]}:jo).link)
abbrev nK:List W:=[(.ptr 0 0),(.agg [2,(.str 3),(.str 4),5,6,(.s 7)])]
abbrev yo:Hp:=[(.b 0,1)]
abbrev nL:Hp:=[(.b 0,1),(7,10)]
abbrev Ah:List W:=[(.ptr 0 0),(.str 2)]
end RX
section
open RX
abbrev Nm:=ax
structure Nd where
 num:Nat
 kind:Int
 bo:Int
 data:ax
 ay:List (Nm×Nat)
structure HN where
 p:Nd
 nb:Nat
 mb:Nat
 da:aG
 dc:Nat
structure TS where
 mb:Nat
 ns:List HN
def TS.aS(t:TS):List Nd:=t.ns.map (·.p)
def lk:List (Nm×Nat)->Nm->Option Nat
 |[],_=>none
 |x::r,k=>if k=x.1 then some x.2 else lk r k
def nodeAt(T:List Nd)(k:Nat):Option Nd:=T.find? λn=>decide (n.num=k)
def pf(ns:List HN)(k:Nat):Option HN:=ns.find? λx=>decide (x.p.num=k)
theorem jX(t:TS) k:nodeAt t.aS k=(pf t.ns k).map (·.p):=by
 unfold nodeAt pf TS.aS;rw[List.find?_map];rfl
theorem sy{ns}{k}{x}(h:pf ns k=some x):x∈ns/\x.p.num=k:=by
 unfold pf at h;exact⟨List.mem_of_find?_eq_some h,by simpa using List.find?_some h⟩
def mD(mb:Nat)(ay:List (Nm×Nat)):HP:=aE λl:AL Nm=>aE λc:Nat=>aA (fC l c/\∀k,aY k l=(lk ay k).map λn=>Value.int .i64 n) (HP.one mb (aX sE l c))
def HN.gK(x:HN):Option Nat:=if x.p.kind=1 then some x.mb else none
def NC(x:HN):HP:=HP.one x.nb (.cells #[.int .i64 x.p.kind,.int .i64 x.p.bo,.slice x.da x.p.data.length x.dc,.map x.gK] 210 (0,0))
def sB(x:HN):HP:=if x.p.kind=1 then mD x.mb x.p.ay else HP.pure (x.p.ay=[])
def dK(x:HN):HP:=aj (NC x) (aj (dS x.da x.p.data.length x.dc x.p.data) (sB x))
def fT(ns:List HN)(k:Int):Option Value:=(ns.find? λx=>decide ((x.p.num:Int)=k)).map λx=>pt x.nb
def TC(b:Nat)(t:TS):HP:=HP.one b (.cells #[.map (some t.mb)] 187 (0,0))
def wO(t:TS):HP:=aE λl:AL Int=>aE λc:Nat=>aA (fC l c/\∀k,aY k l=fT t.ns k) (HP.one t.mb (aX cr l c))
def aU(b:Nat)(t:TS):HP:=aj (TC b t) (aj (wO t) (cw (t.ns.map dK)))
theorem V7 ns(k:Nat):fT ns k=(pf ns k).map λx=>pt x.nb:=by
 unfold fT pf;congr 2;funext x;rw[decide_eq_decide];omega
theorem B2{l}{x}(hx:x∈l){R h}(H:(cw l).p R h):x.p R h:=by
 obtain⟨k,hk,rfl⟩:=List.mem_iff_getElem.1 hx;exact ai (nz (List.getElem?_eq_getElem hk) H)
theorem ank{S}{b}{cs:dI}{ty}(hS:∀R h,S.p R h->h b=some (.cells cs ty (0,0))):Rd S (some ⟨b,0,none⟩) cs.toList:=λw R h F s a j u hj=>by
 have hw:=s.oh _ _ (hS R h a);refine⟨b,0,rfl,?_⟩;rw[Nat.zero_add,mV hw];simpa using hj
theorem Vq{S}{b}{cs:dI}{ty t}{d}(hS:∀R h,S.p R h->h b=some (.cells cs ty (0,0)))(hd:prog.underlying t=some d)(ha:gZ prog t=false)(hz:iA prog t=1){k}{v}(hv:cs.toList[k]? =some v):
 aM prog (bO t (.pointer (some ⟨b,k,none⟩))) S v:=by
 have:=cU hd ha hz (ank hS) (k:=k) (off:=0) (v:=v) hv;simpa[RX.addr_add]using this
variable {b:Nat}{t:TS}{x:HN}
theorem aU.tc{R h}(H:(aU b t).p R h):h b=some (.cells #[.map (some t.mb)] 187 (0,0)):=ai H
theorem aU.node{R h}(H:(aU b t).p R h)(hx:x∈t.ns):(dK x).p R h:=B2 (List.mem_map.2 ⟨x,hx,rfl⟩) (ah (ah H))
theorem dK.cells{R h}(H:(dK x).p R h):h x.nb=some (.cells #[.int .i64 x.p.kind,.int .i64 x.p.bo,.slice x.da x.p.data.length x.dc,.map x.gK] 210 (0,0)):=ai H
theorem zu:prog.underlying 185=some (.map 3 183):=by kernel_rfl
theorem wP:prog.underlying 208=some (.map 9 3):=by kernel_rfl
theorem B3:jA prog 3 cr:=OE rV
theorem Jz:jA prog 9 sE:=Z7 sx
theorem MC:(prog.info? 183).map (λi=>(i.zero,i.size,i.bytes))=some (some (.pointer none),1,8):=by kernel_rfl
theorem fq:aM prog (bO 185 (pt b)) (aU b t) (.map (some t.mb)):=Vq (λR h H=>aU.tc H) zu (by kernel_rfl) (by kernel_rfl) rfl
theorem aaf{R h}(H:(aU b t).p R h):∃l c,fC l c/\(∀k,aY k l=fT t.ns k)/\h t.mb=some (aX cr l c):=by
 obtain⟨l,c,⟨h1,h2⟩,h3⟩:=ai (ah H);exact⟨l,c,h1,h2,h3⟩
theorem mE(k:Nat):aM prog (mM 185 (.map (some t.mb)) (.int .i64 k) false) (aU b t) (.pointer ((pf t.ns k).map λx=>⟨x.nb,0,none⟩)):=λw R h F s H=>by
 obtain⟨l,c,hI,hk,hh⟩:=aaf H;obtain⟨i,hi,z1,_,_⟩:=info_parts MC;have hr:=iO (c:=c) (l:=l) B3 zu hi z1 (k:Int) false (r:=t.mb) (A:=HP.one t.mb (aX cr l c)) (λR h H=>H);have:=hr w R (PH.one t.mb (aX cr l c)) PH.cV ⟨s.uz.le (PH.le.refl _) (PH.oT hh),PH.eC _,PH.eC _,s.oR,s.oh.le (PH.oT hh),λ_ _ e=>(by cases e),s.gl⟩ (PH.cX _ _);refine Eq.trans this ?_;rw[hk,V7];cases pf t.ns k<;>rfl
theorem mF(hx:x∈t.ns):aM prog (bO 3 (pt x.nb)) (aU b t) (.int .i64 x.p.kind):=Vq (λR h H=>dK.cells (aU.node H hx)) rV Dj Oz rfl
theorem oJ(hx:x∈t.ns):aM prog (bO 3 (.pointer (some ⟨x.nb,1,none⟩))) (aU b t) (.int .i64 x.p.bo):=Vq (λR h H=>dK.cells (aU.node H hx)) rV Dj Oz rfl
theorem sC(hx:x∈t.ns):aM prog (bO 37 (.pointer (some ⟨x.nb,2,none⟩))) (aU b t) (.slice x.da x.p.data.length x.dc):=Vq (λR h H=>dK.cells (aU.node H hx)) BW (by kernel_rfl) (by kernel_rfl) rfl
theorem pj(hx:x∈t.ns):aM prog (bO 208 (.pointer (some ⟨x.nb,3,none⟩))) (aU b t) (.map x.gK):=Vq (λR h H=>dK.cells (aU.node H hx)) wP (by kernel_rfl) (by kernel_rfl) rfl
theorem dK.vB{R h}(H:(dK x).p R h)(hd:x.p.kind=1):∃l c,fC l c/\(∀k,aY k l=(lk x.p.ay k).map λn=>Value.int .i64 n)/\h x.mb=some (aX sE l c):=by
 have H1:=ah (ah H);unfold sB at H1;rw[aB hd]at H1;obtain⟨l,c,⟨h1,h2⟩,h3⟩:=H1;exact⟨l,c,h1,h2,h3⟩
theorem V8(hx:x∈t.ns)(hd:x.p.kind=1)(nm:Nm):aM prog (mM 208 (.map (some x.mb)) (sE nm) true) (aU b t) (.tuple #[.int .i64 ((lk x.p.ay nm).getD 0:Nat),.bool (lk x.p.ay nm).isSome]):=λw R h F s H=>by
 obtain⟨l,c,hI,hk,hh⟩:=dK.vB (aU.node H hx) hd;obtain⟨i,hi,z1,_,_⟩:=info_parts jS;have hr:=iO (c:=c) (l:=l) Jz wP hi z1 nm true (r:=x.mb) (A:=HP.one x.mb (aX sE l c)) (λR h H=>H);have:=hr w R (PH.one x.mb (aX sE l c)) PH.cV ⟨s.uz.le (PH.le.refl _) (PH.oT hh),PH.eC _,PH.eC _,s.oR,s.oh.le (PH.oT hh),λ_ _ e=>(by cases e),s.gl⟩ (PH.cX _ _);refine Eq.trans this ?_;rw[hk];cases lk x.p.ay nm<;>rfl
theorem aeM(hx:x∈t.ns)(hd:x.p.kind=1)(nm:Nm):aM prog (mM 208 (.map (some x.mb)) (sE nm) false) (aU b t) (.int .i64 ((lk x.p.ay nm).getD 0:Nat)):=λw R h F s H=>by
 obtain⟨l,c,hI,hk,hh⟩:=dK.vB (aU.node H hx) hd;obtain⟨i,hi,z1,_,_⟩:=info_parts jS;have hr:=iO (c:=c) (l:=l) Jz wP hi z1 nm false (r:=x.mb) (A:=HP.one x.mb (aX sE l c)) (λR h H=>H);have:=hr w R (PH.one x.mb (aX sE l c)) PH.cV ⟨s.uz.le (PH.le.refl _) (PH.oT hh),PH.eC _,PH.eC _,s.oR,s.oh.le (PH.oT hh),λ_ _ e=>(by cases e),s.gl⟩ (PH.cX _ _);refine Eq.trans this ?_;rw[hk];cases lk x.p.ay nm<;>rfl
def RE(t ty:TypeId)(x:Value):Sem Next:=do pure (.value (<-Builtin.len_ #[t] ty #[x]))
theorem B4{t ty}{i:Nat}{x}:bZ (.call ⟨.builtin .len,#[.tmp i],#[t]⟩) ty [(i,x)]=RE t ty x:=by
 simp[bZ,execOp,resolve,lW,invoke,builtin,RE]
theorem V9{κ:Type}{enc}{t k e ty}(ht:prog.underlying t=some (.map k e)){m c}{l:AL κ}{w}(hh:w.heap[m]? =some (aX enc l c)):(RE t ty (.map (some m))).run prog w=.ok (.value (.int .i64 l.length)) w:=by
 unfold aX at hh;unfold RE Builtin.len_;simp[RX.run_underlying ht,getObj,Sem.run,hh,goInt]
theorem Ai(k:Nm):∀ay:List (Nm×Nat),(lk ay k).isSome=true↔k∈ay.map (·.1)
 |[]=>by simp[lk]
 |y::r=>by
  unfold lk
  by_cases h:k=y.1
  ·simp[h]
  ·rw[aq h,Ai k r];simp[h]
theorem Aj{κ α:Type}[DecidableEq κ]{l}{ks}(hn:(l.map (·.1)).Nodup)(hk:ks.Nodup)(f:κ->Option α)(h:∀k,(aY k l).isSome=(f k).isSome)(hf:∀k,(f k).isSome=true↔k∈ks):(l.map (·.1)).Perm ks:=
 (List.perm_ext_iff_of_nodup hn hk).2 λk=>by rw[<-gH,h,hf]
theorem mD.len{mb:Nat}{ay}(hn:(ay.map (·.1)).Nodup){l}{c}(hI:fC l c)(hk:∀k,aY k l=(lk ay k).map λn=>Value.int .i64 n):l.length=ay.length:=by
 have:=(Aj hI.1 hn (lk ay) (λk=>by rw[hk];cases lk ay k<;>rfl) (λk=>Ai k ay)).length_eq;simpa using this
theorem O8{ty}(hx:x∈t.ns)(hd:x.p.kind=1)(hn:(x.p.ay.map (·.1)).Nodup):aM prog (RE 208 ty (.map (some x.mb))) (aU b t) (.int .i64 x.p.ay.length):=λw R h F s H=>by
 obtain⟨l,c,hI,hk,hh⟩:=dK.vB (aU.node H hx) hd;rw[V9 wP (s.oh _ _ hh),mD.len (mb:=0) hn hI hk]
theorem Wa{l}{c}{ns}(hI:fC l c)(hk:∀k,aY k l=fT ns k)(hn:(ns.map (·.p.num)).Nodup):l.length=ns.length:=by
 have:=(Aj (ks:=ns.map λx=>(x.p.num:Int)) hI.1 ?_ (fT ns) (λk=>by rw[hk]) λk=>?_).length_eq
 ·simpa using this
 ·have:(ns.map λx=>(x.p.num:Int))=(ns.map (·.p.num)).map (λn:Nat=>(n:Int)):=by simp
  rw[this];exact List.Pairwise.map _ (λa b h e=>h (by exact_mod_cast e)) hn
 ·unfold fT;rw[Option.isSome_map,List.find?_isSome];simp[List.mem_map]
theorem Wb{ty}(hn:(t.ns.map (·.p.num)).Nodup):aM prog (RE 185 ty (.map (some t.mb))) (aU b t) (.int .i64 t.ns.length):=λw R h F s H=>by
 obtain⟨l,c,hI,hk,hh⟩:=aaf H;rw[V9 zu (s.oh _ _ hh),Wa hI hk hn]
theorem Gp(hx:x∈t.ns):bX (aU b t) x.da x.p.data.length (x.p.data.map eX):=
 have r:=ow 5 1 x.da x.p.data.length x.dc (x.p.data.map eX)
 ⟨λw R h F s H j u hj=>by
   have H1:=aU.node H hx;obtain⟨h1,h2,d,l1,l2,_,H2⟩:=H1;obtain⟨h3,h4,d2,l3,l4,H3,_⟩:=H2;exact r.rd w R h3 PH.cV ⟨s.uz.le (PH.le.refl _) (l3.trans l2),PH.eC _,PH.eC _,s.oR,s.oh.le (l3.trans l2),λ_ _ e=>(by cases e),s.gl⟩ H3 j u hj,λR h H e=>by
   exact r.none R h (ai (ah (aU.node H hx))) e⟩
end
section
open RX
structure iu(B:Nat)(n:Nd):Prop where
 kind:n.kind=1/\n.data=[]/\n.bo=1\/n.kind=2/\n.ay=[]
 data:n.data.length<=512
 yp:0<n.bo
 yq:n.bo<=B
 qP:n.ay.length<=B
 sort:(n.ay.map (·.1)).Pairwise (· < ·)
 name:∀e∈n.ay,dm e.1=true/\e.2≠0
 num:n.num<64
def dQ(l:List (Nm×Nat))(k:Nat):Nat:=l.countP λe=>decide (e.2=k)
def refs(T:List Nd)(k:Nat):Nat:=(T.map λn=>dQ n.ay k).sum
structure ey(B:Nat)(T:List Nd):Prop where
 sorted:(T.map (·.num)).Pairwise (· < ·)
 root:∃r,nodeAt T 0=some r/\r.kind=1
 jY:∀n∈T,iu B n
 u6:∀n∈T,∀e∈n.ay,(nodeAt T e.2).isSome=true
 B5:∀n∈T,n.num≠0->(refs T n.num:Int)=n.bo
def dL(T:List Nd):Nat->List Nm->Nat×Int
 |at',[]=>(at',0)
 |at',nm::r=>match nodeAt T at' with
  |none=>(0,21)
  |some n=>if n.kind≠1 then(0,23)else match lk n.ay nm with
   |none=>(0,21)
   |some k=>dL T k r
def bG(T:List Nd)(s:Nm):Nat×Int:=match bW s with
 |none=>(0,20)
 |some l=>dL T 0 l
theorem gL:∀ {ay:List (Nm×Nat)} {k:Nm} {n:Nat},lk ay k=some n->(k,n)∈ay
 |[],_,_,h=>by cases h
 |y::r,k,n,h=>by
  unfold lk at h;split at h
  ·rename_i e;cases h;subst e;simp
  ·exact List.mem_cons_of_mem _ (gL h)
theorem bI{T}{k}{n}(h:nodeAt T k=some n):n∈T/\n.num=k:=by
 unfold nodeAt at h;exact⟨List.mem_of_find?_eq_some h,by simpa using List.find?_some h⟩
theorem B6{B}{T}(wf:ey B T):∀(l:List Nm) (a:Nat),(nodeAt T a).isSome=true->(nodeAt T (dL T a l).1).isSome=true
 |[],a,h=>h
 |nm::r,a,h=>by
  obtain⟨n,hn⟩:=Option.isSome_iff_exists.1 h;have h0:(nodeAt T 0).isSome=true:=by obtain⟨q,hq,_⟩:=wf.root;rw[hq];rfl
  unfold dL;rw[hn];simp only;split
  ·exact h0
  ·split
   ·exact h0
   ·rename_i k hk;exact B6 wf r k (wf.u6 n (bI hn).1 _ (gL hk))
theorem nM{B}{T}(wf:ey B T) s:(nodeAt T (bG T s).1).isSome=true:=by
 have h0:(nodeAt T 0).isSome=true:=by obtain⟨q,hq,_⟩:=wf.root;rw[hq];rfl
 unfold bG;split
 ·exact h0
 ·exact B6 wf _ 0 h0
theorem zv{t:TS}{k}(h:(nodeAt t.aS k).isSome=true):∃x,pf t.ns k=some x/\nodeAt t.aS k=some x.p/\x∈t.ns:=by
 rw[jX]at h⊢;rw[Option.isSome_map]at h;obtain⟨x,hx⟩:=Option.isSome_iff_exists.1 h;exact⟨x,hx,by rw[hx];rfl,(sy hx).1⟩
variable {b:Nat}{t:TS}
set_option maxHeartbeats 1000000 in
theorem qb{B}(wf:ey B t.aS)(s:Nm):az prog 322 #[pt b,sE s] (aU b t) (λv=>aA (v=.tuple #[.int .i64 (bG t.aS s).1,.int .i64 (bG t.aS s).2]) (aU b t)):=by
 refine ao (ρ:=[.n b,.p (aU b t),.s s]) {fk:=[183],aF:=ii,link:=ij,dN:=true,dv:=true,ck:=[183]} Ah yo 3 ?_;refine(qa s).aK (λ_ _ _=>trivial) ?_;rintro v R h ⟨a,c,rfl,H⟩;have kL:((bW s).getD []).length≠0->a.isSome=true:=λhn=>bY.some H (by omega);refine⟨a,_,c,sv a ((bW s).getD []).length c ((bW s).getD []),_,rfl,?_,H⟩;clear H;unfold bG;cases hs:bW s with
 |none=>exact⟨λ_=>.of λR h H=>⟨rfl,H⟩,λh=>by simp at h⟩
 |some l=>
  refine⟨λh=>absurd (by rfl) h,λ_=>?_⟩;rw[hs]at kL;simp only[Option.getD_some]at kL⊢;obtain⟨hl8,_⟩:=ji hs;obtain⟨res,UL⟩:∃r,dL t.aS 0 l=r:=⟨_,rfl⟩;rw[UL]
  refine⟨λ_ _ at' i=>∃k a':Nat,i=k/\k<=l.length/\at'=a'/\dL t.aS a' (l.drop k)=res/\(nodeAt t.aS a').isSome=true,λ_ _ _ i=>l.length - i.toNat,
   ⟨0,0,rfl,Nat.zero_le _,rfl,UL,by obtain⟨q,hq,_⟩:=wf.root;rw[hq];rfl⟩,?_⟩
  rintro _ _ _ _ ⟨k,a',rfl,hk,rfl,hw,pV⟩;refine⟨λhlt=>⟨by omega,λ_=>⟨kL (by omega),λ_=>?_⟩⟩,λlH=>.of λR h H=>⟨?_,H⟩⟩
  ·have ki:k<l.length:=by omega
   obtain⟨x,hx,yr,kM⟩:=zv pV;have rd:bX (sv a l.length c l) a l.length (l.map sE):=ow _ _ _ _ _ _;have iV:=mE (b:=b) (t:=t) a';rw[hx]at iV;rw[List.drop_eq_getElem_cons ki]at hw;unfold dL at hw;rw[yr]at hw;simp only at hw;refine⟨l[k],oI rd.rd (List.getElem?_eq_getElem ki),t.mb,fq,pt x.nb,iV,x.nb,bK,x.p.kind,mF kM,⟨λHc=>.of λR h H=>⟨?_,H⟩,λHc=>?_⟩⟩
   ·rw[aB Hc]at hw;rw[<-hw];rfl
   ·have JA:x.p.kind=1:=by simpa using Hc
    rw[aq (by simp[JA])]at hw;have he:=pj (b:=b) kM;have Dz:x.gK=some x.mb:=by unfold HN.gK;rw[aB JA]
    rw[Dz]at he;refine⟨x.nb,bK,x.mb,he,((lk x.p.ay l[k]).getD 0:Nat),(lk x.p.ay l[k]).isSome,V8 kM JA l[k],⟨λhno=>.of λR h H=>⟨?_,H⟩,λLO=>?_⟩⟩
    ·have:lk x.p.ay l[k]=none:=by simpa using hno
     rw[this]at hw;rw[<-hw];rfl
    ·obtain⟨n,hn⟩:=Option.isSome_iff_exists.1 (show(lk x.p.ay l[k]).isSome=true by simpa using LO);rw[hn]at hw⊢;exact⟨eU _ (by omega) (by omega),λ_=>⟨⟨k+1,n,by omega,by omega,rfl,hw,wf.u6 x.p (by rw[TS.aS];exact List.mem_map.2 ⟨x,kM,rfl⟩) _ (gL hn)⟩,by first|omega|(dsimp only;omega)⟩⟩
  ·obtain rfl:k=l.length:=by omega
   rw[List.drop_length]at hw;rw[<-hw];rfl
def gw(s:Nm):Option (Nm×Nm):=match bW s with
 |some (x::r)=>some (zr (x::r).dropLast,(x::r).getLast (by simp))
 |_=>none
theorem JB(s:Nm):az prog 324 #[sE s] tt (λv=>HP.pure (v=.tuple #[sE ((gw s).getD ([],[])).1,sE ((gw s).getD ([],[])).2,.int .i64 (if(gw s).isSome then 0 else 20)])):=by
 refine(Mx s).wk ?_;intro v R h e;have e':v=_:=e;show v=_;rw[e'];unfold gw;cases hs:bW s with
 |none=>rfl
 |some l=>cases l with
  |nil=>rfl
  |cons x r=>rfl
def bj(T:List Nd)(s:Nm):Nat×Nm×Int:=match gw s with
 |none=>(0,[],20)
 |some (ab,nm)=>if(bG T ab).2≠0 then(0,[],(bG T ab).2)else match nodeAt T (bG T ab).1 with
  |none=>(0,[],1)
  |some n=>if n.kind≠1 then(0,[],23)else if(lk n.ay nm).isSome=true then(0,[],22)else((bG T ab).1,nm,0)
def ul(ns:List HN)(k:Nat):Value:=.pointer ((pf ns k).map λx=>⟨x.nb,0,none⟩)
set_option maxHeartbeats 1000000 in
theorem yt{B}(wf:ey B t.aS)(s:Nm):az prog 317 #[pt b,sE s] (aU b t)
 (λv=>aA (v=.tuple #[if(bj t.aS s).2.2=0 then ul t.ns (bj t.aS s).1 else .pointer none,sE (bj t.aS s).2.1,.int .i64 (bj t.aS s).2.2]) (aU b t)):=by
 refine ao (ρ:=[.n b,.p (aU b t),.s s]) {fk:=[183],aF:=ii,link:=ij,dN:=true,dv:=true,ck:=[183]} Ah yo 3 ?_;refine(JB s).aK (λ_ _ _=>trivial) ?_;rintro v R h rfl;refine⟨_,_,_,rfl,?_,trivial⟩;cases hs:gw s with
 |none=>
  have e:bj t.aS s=(0,[],20):=by simp[bj,hs]
  exact⟨λ_=>.of λR h H=>⟨by rw[e];rfl,H⟩,λh=>by simp at h⟩
 |some q=>
  obtain⟨ab,nm⟩:=q;refine⟨λh=>absurd (by rfl) h,λ_=>?_⟩;simp only[Option.getD_some];refine(qb wf ab).wk ?_;rintro v R h ⟨rfl,H⟩;refine⟨_,_,rfl,?_,H⟩;clear H;refine⟨λhc=>.of λR h H=>⟨?_,H⟩,λhc=>?_⟩
  ·have rF:(bG t.aS ab).2≠0:=hc;have e:bj t.aS s=(0,[],(bG t.aS ab).2):=by simp[bj,hs,rF]
   rw[e];simp[rF,sE]
  have rF:(bG t.aS ab).2=0:=by simpa using hc
  obtain⟨x,hx,yr,kM⟩:=zv (nM wf ab);have iV:=mE (b:=b) (t:=t) (bG t.aS ab).1;rw[hx]at iV;refine⟨t.mb,fq,pt x.nb,iV,x.nb,bK,x.p.kind,mF kM,⟨λHc=>.of λR h H=>⟨?_,H⟩,λHc=>?_⟩⟩
  ·have e:bj t.aS s=(0,[],23):=by simp[bj,hs,rF,yr,Hc]
   rw[e];rfl
  have JA:x.p.kind=1:=by simpa using Hc
  have he:=pj (b:=b) kM;have Dz:x.gK=some x.mb:=by unfold HN.gK;rw[aB JA]
  rw[Dz]at he;refine⟨x.nb,bK,x.mb,he,_,_,V8 kM JA nm,⟨λLO=>.of λR h H=>⟨?_,H⟩,λhno=>.of λR h H=>⟨?_,H⟩⟩⟩
  ·have e:bj t.aS s=(0,[],22):=by
    unfold bj;rw[hs];simp only;rw[aq (by simp[rF]),yr];simp only;rw[aq (by simp[JA]),aB LO]
   rw[e];rfl
  ·have e:bj t.aS s=((bG t.aS ab).1,nm,0):=by
    unfold bj;rw[hs];simp only;rw[aq (by simp[rF]),yr];simp only;rw[aq (by simp[JA]),aq hno]
   rw[e];simp only[if_true,ul,hx];rfl
def aV(T:List Nd)(s:Nm):Nat×Nm×Nat×Int:=match gw s with
 |none=>(0,[],0,20)
 |some (ab,nm)=>if(bG T s).2≠0 then(0,[],0,(bG T s).2)else if(bG T ab).2≠0 then(0,[],0,(bG T ab).2)else((bG T ab).1,nm,(bG T s).1,0)
set_option maxHeartbeats 1000000 in
theorem yu{B}(wf:ey B t.aS)(s:Nm):az prog 318 #[pt b,sE s] (aU b t)
 (λv=>aA (v=.tuple #[if(aV t.aS s).2.2.2=0 then ul t.ns (aV t.aS s).1 else .pointer none,sE (aV t.aS s).2.1,.int .i64 (aV t.aS s).2.2.1,.int .i64 (aV t.aS s).2.2.2]) (aU b t)):=by
 refine ao (ρ:=[.n b,.p (aU b t),.s s]) {fk:=[183],aF:=ii,link:=ij,dN:=true,dv:=true,ck:=[183]} Ah yo 3 ?_;refine(JB s).aK (λ_ _ _=>trivial) ?_;rintro v R h rfl;refine⟨_,_,_,rfl,?_,trivial⟩;cases hs:gw s with
 |none=>
  have e:aV t.aS s=(0,[],0,20):=by simp[aV,hs]
  exact⟨λ_=>.of λR h H=>⟨by rw[e];rfl,H⟩,λh=>by simp at h⟩
 |some q=>
  obtain⟨ab,nm⟩:=q;refine⟨λh=>absurd (by rfl) h,λ_=>?_⟩;simp only[Option.getD_some];refine(qb wf s).wk ?_;rintro v R h ⟨rfl,H⟩;refine⟨_,_,rfl,?_,H⟩;clear H;refine⟨λhc=>.of λR h H=>⟨?_,H⟩,λhc=>?_⟩
  ·have rF:(bG t.aS s).2≠0:=hc;have e:aV t.aS s=(0,[],0,(bG t.aS s).2):=by simp[aV,hs,rF]
   rw[e];simp[rF,sE]
  have rF:(bG t.aS s).2=0:=by simpa using hc
  refine(qb wf ab).wk ?_;rintro v R h ⟨rfl,H⟩;refine⟨_,_,rfl,?_,H⟩;clear H;refine⟨λhd=>.of λR h H=>⟨?_,H⟩,λhd=>?_⟩
  ·have C7:(bG t.aS ab).2≠0:=hd;have e:aV t.aS s=(0,[],0,(bG t.aS ab).2):=by simp[aV,hs,rF,C7]
   rw[e];simp[C7,sE]
  have C7:(bG t.aS ab).2=0:=by simpa using hd
  have e:aV t.aS s=((bG t.aS ab).1,nm,(bG t.aS s).1,0):=by simp[aV,hs,rF,C7]
  obtain⟨x,hx,yr,kM⟩:=zv (nM wf ab);have iV:=mE (b:=b) (t:=t) (bG t.aS ab).1;rw[hx]at iV;refine⟨t.mb,fq,pt x.nb,iV,.of λR h H=>⟨?_,H⟩⟩;rw[e];simp only[if_true,ul,hx];rfl
def dy(T:List Nd)(s:Nm):Nat×Int:=if(bG T s).2≠0 then(0,(bG T s).2)else match nodeAt T (bG T s).1 with
 |none=>(0,1)
 |some n=>if n.kind=1 then(0,24)else((bG T s).1,0)
set_option maxHeartbeats 1000000 in
theorem wQ{B}(wf:ey B t.aS)(s:Nm):az prog 319 #[pt b,sE s] (aU b t)
 (λv=>aA (v=.tuple #[if(dy t.aS s).2=0 then ul t.ns (dy t.aS s).1 else .pointer none,.int .i64 (dy t.aS s).1,.int .i64 (dy t.aS s).2]) (aU b t)):=by
 refine ao (ρ:=[.n b,.p (aU b t),.s s]) {fk:=[183],aF:=ii,link:=ij,dN:=true,dv:=true,ck:=[183]} Ah yo 3 ?_;refine(qb wf s).wk ?_;rintro v R h ⟨rfl,H⟩;refine⟨_,_,rfl,?_,H⟩;clear H;refine⟨λhc=>.of λR h H=>⟨?_,H⟩,λhc=>?_⟩
 ·have rF:(bG t.aS s).2≠0:=hc;have e:dy t.aS s=(0,(bG t.aS s).2):=by simp[dy,rF]
  rw[e];simp[rF]
 have rF:(bG t.aS s).2=0:=by simpa using hc
 obtain⟨x,hx,yr,kM⟩:=zv (nM wf s);have iV:=mE (b:=b) (t:=t) (bG t.aS s).1;rw[hx]at iV;refine⟨t.mb,fq,pt x.nb,iV,x.nb,bK,x.p.kind,mF kM,⟨λHc=>.of λR h H=>⟨?_,H⟩,λHc=>.of λR h H=>⟨?_,H⟩⟩⟩
 ·have e:dy t.aS s=(0,24):=by simp[dy,rF,yr,Hc]
  rw[e];rfl
 ·have e:dy t.aS s=((bG t.aS s).1,0):=by simp[dy,rF,yr,Hc]
  rw[e];simp only[if_true,ul,hx];rfl
end
section
open RX
def de(nm:Nm)(k:Nat):List (Nm×Nat)->List (Nm×Nat)
 |[]=>[(nm,k)]
 |y::r=>if y.1<nm then y::de nm k r else(nm,k)::y::r
def bb(nm:Nm)(l:List (Nm×Nat)):List (Nm×Nat):=l.filter λy=>decide (y.1≠nm)
theorem sD nm k q:∀l,lk (de nm k l) q=if q=nm then some k else lk l q
 |[]=>by simp[de,lk]
 |y::r=>by
  unfold de;split
  ·rename_i h;have hne:y.1≠nm:=λe=>by rw[e]at h;exact List.lt_irrefl _ h
   simp only[lk];rw[sD nm k q r]
   by_cases e:q=y.1
   ·have:q≠nm:=λe2=>hne (e.symm.trans e2);simp[e,hne]
   ·simp[e]
  ·simp only[lk]
theorem oL nm q:∀l,lk (bb nm l) q=if q=nm then none else lk l q
 |[]=>by simp[bb,lk]
 |y::r=>by
  unfold bb;rw[List.filter_cons];have ih:=oL nm q r;unfold bb at ih
  by_cases h:y.1=nm
  ·simp only[h,ne_eq,not_true_eq_false,decide_false,Bool.false_eq_true,if_false,ih,lk]
   by_cases e:q=nm<;>simp[e]
  ·simp only[ne_eq,h,not_false_eq_true,decide_true,if_true,lk,ih]
   by_cases e:q=y.1
   ·have:q≠nm:=λe2=>h (e.symm.trans e2);simp[e,h]
   ·simp[e]
theorem mD.put{mb}{ay}(nm:Nm)(k:Nat):aR prog (kK 208 (.map (some mb)) (sE nm) (.int .i64 k)) (mD mb ay) (λv=>aA (v=.tuple #[]) (mD mb (de nm k ay))):=by
 refine Lx λl=>Lx λc=>yZ λ⟨hI,hk⟩=>?_;refine(o6 (r:=mb) (l:=l) (c:=c) Jz wP nm (.int .i64 k)).wk ?_;rintro v R h ⟨rfl,H⟩;refine⟨rfl,_,_,⟨hI.put nm (.int .i64 k),λq=>?_⟩,H⟩;rw[i7,sD,hk];split<;>rfl
theorem mD.OF{mb}{ay}(nm:Nm) ts ty(h0:ts[0]? =some 208):aR prog (xR ts ty (.map (some mb)) (sE nm)) (mD mb ay) (λv=>aA (v=.tuple #[]) (mD mb (bb nm ay))):=by
 refine Lx λl=>Lx λc=>yZ λ⟨hI,hk⟩=>?_;refine(LH (r:=mb) (l:=l) (c:=c) (ty:=ty) Jz wP nm ts h0).wk ?_;rintro v R h ⟨rfl,H⟩;refine⟨rfl,_,_,⟨hI.OF nm,λq=>?_⟩,H⟩;rw[lJ _ _ _ hI.1,oL,hk];split<;>rfl
variable {b:Nat}{t:TS}{x y:HN}{i:Nat}
def TS.jj(t:TS)(i:Nat)(y:HN):TS:={t with ns:=t.ns.set i y}
def JC(b:Nat)(t:TS)(i:Nat):HP:=aj (TC b t) (aj (wO t) (cw ((t.ns.map dK).eraseIdx i)))
theorem aU.jK(hi:t.ns[i]? =some x){R h}(H:(aU b t).p R h):(aj (dK x) (JC b t i)).p R h:=by
 have H1:(aj (TC b t) (aj (wO t) (aj (dK x) (cw ((t.ns.map dK).eraseIdx i))))).p R h:=ae H (λ_ h=>h) λy hy=>ae hy (λ_ h=>h) λz hz=>nz (by simp[hi]) hz;exact HP.pick [_,_,_,_] [2,0,1,3] (by decide) rfl H1
theorem RG(hi:t.ns[i]? =some x)(hn:y.p.num=x.p.num)(hb:y.nb=x.nb) k:fT (t.ns.set i y) k=fT t.ns k:=by
 have gen:∀ns:List HN,fT ns k=((ns.map λx=>(x.p.num,x.nb)).find? λz=>decide ((z.1:Int)=k)).map λz=>pt z.2:=λns=>by
  unfold fT;rw[List.find?_map,Option.map_map];rfl
 rw[gen,gen,List.map_set];congr 2;rw[hn,hb];refine List.ext_getElem? λj=>?_;rw[List.getElem?_set];split
 ·rename_i e;subst e;rw[List.getElem?_map,hi];split
  ·rfl
  ·rename_i h;simp only[List.length_map]at h;exact absurd (List.getElem?_eq_some_iff.1 hi).1 h
 ·rfl
theorem aU.lX(hi:t.ns[i]? =some x)(hn:y.p.num=x.p.num)(hb:y.nb=x.nb){R h}(H:(aj (dK y) (JC b t i)).p R h):(aU b (t.jj i y)).p R h:=by
 have hlt:i<(t.ns.map dK).length:=by rw[List.length_map];exact(List.getElem?_eq_some_iff.1 hi).1
 have H1:(aj (TC b t) (aj (wO t) (aj (dK y) (cw ((t.ns.map dK).eraseIdx i))))).p R h:=HP.pick [_,_,_,_] [1,2,0,3] (by decide) rfl H;refine ae H1 (λ_ h=>h) λz hz=>ae hz ?_ λq hq=>?_
 ·rintro q ⟨l,c,⟨h1,h2⟩,h3⟩;exact⟨l,c,⟨h1,λk=>by rw[h2];exact(RG hi hn hb k).symm⟩,h3⟩
 ·have:=kG hlt hq;show(cw ((t.ns.set i y).map dK)).p R q;rw[List.map_set];exact this
theorem upd{s}{X}{v0}(hi:t.ns[i]? =some x)(hn:y.p.num=x.p.num)(hb:y.nb=x.nb)(o:aR prog s (aj (dK x) X) (λv=>aA (v=v0) (dK y))):
 aR prog s (aj (aU b t) X) (λv=>aA (v=v0) (aU b (t.jj i y))):=by
 refine(o.frame (JC b t i)).aK (λR h H=>?_) ?_
 ·have H1:=au (ae H (λ_ h=>aU.jK hi h) λ_ h=>h);exact aC (HP.pick [_,_,_] [0,2,1] (by decide) rfl H1)
 ·rintro v R h ⟨h1,h2,d,l1,l2,⟨e,H⟩,HR⟩;exact⟨e,aU.lX hi hn hb ⟨h1,h2,d,l1,l2,H,HR⟩⟩
theorem aeN{s}{v0}(hi:t.ns[i]? =some x)(hn:y.p.num=x.p.num)(hb:y.nb=x.nb)(o:aR prog s (dK x) (λv=>aA (v=v0) (dK y))):
 aR prog s (aU b t) (λv=>aA (v=v0) (aU b (t.jj i y))):=
 (upd (X:=tt) hi hn hb (o.aK (λ_ _ H=>ai H) λ_ _ _ h=>h)).aK (λ_ _ H=>aD H) λ_ _ _ h=>h
def HN.n7(x:HN)(l:List (Nm×Nat)):HN:={x with p:={x.p with ay:=l}}
def HN.Wc(x:HN)(n:Int):HN:={x with p:={x.p with bo:=n}}
def HN.DA(x:HN)(a:aG)(c:Nat)(l:ax):HN:={x with p:={x.p with data:=l},da:=a,dc:=c}
theorem dK.ay{l}(hd:x.p.kind=1){s}{v0}(o:aR prog s (mD x.mb x.p.ay) (λv=>aA (v=v0) (mD x.mb l))):
 aR prog s (dK x) (λv=>aA (v=v0) (dK (x.n7 l))):=by
 refine(o.frame (aj (NC x) (dS x.da x.p.data.length x.dc x.p.data))).aK (λR h H=>?_) ?_
 ·have e:sB x=mD x.mb x.p.ay:=by unfold sB;rw[aB hd]
  have H1:(aj (NC x) (aj (dS x.da x.p.data.length x.dc x.p.data) (mD x.mb x.p.ay))).p R h:=by rw[<-e];exact H
  exact HP.pick [_,_,_] [2,0,1] (by decide) rfl H1
 ·rintro v R h ⟨h1,h2,d,l1,l2,⟨e,H⟩,HR⟩;refine⟨e,?_⟩;have H1:(aj (NC x) (aj (dS x.da x.p.data.length x.dc x.p.data) (mD x.mb l))).p R h:=HP.pick [_,_,_] [1,2,0] (by decide) rfl ⟨h1,h2,d,l1,l2,H,HR⟩;have e:sB (x.n7 l)=mD x.mb l:=by unfold sB;rw[aB (by exact hd)];rfl
  unfold dK;rw[e];exact H1
theorem aeO(hi:t.ns[i]? =some x)(hd:x.p.kind=1)(nm:Nm)(k:Nat):aR prog (kK 208 (.map (some x.mb)) (sE nm) (.int .i64 k)) (aU b t) (λv=>aA (v=.tuple #[]) (aU b (t.jj i (x.n7 (de nm k x.p.ay))))):=
 aeN hi rfl rfl (dK.ay hd (mD.put nm k))
theorem aeP(hi:t.ns[i]? =some x)(hd:x.p.kind=1)(nm:Nm) ts ty(h0:ts[0]? =some 208):aR prog (xR ts ty (.map (some x.mb)) (sE nm)) (aU b t) (λv=>aA (v=.tuple #[]) (aU b (t.jj i (x.n7 (bb nm x.p.ay))))):=
 aeN hi rfl rfl (dK.ay hd (mD.OF nm ts ty h0))
theorem dK.store{tt'}{j}{v}{n:Int}{p'}{a}{c}{X}(hz:(prog.info? tt').map (·.size)=some 1)(h1:v.oneCell'=true)(hv:v.cells= #[v])(hj:j<4)
 (DB:p'.num=x.p.num) (hk:p'.kind=x.p.kind) (he:p'.ay=x.p.ay)
 (hc:([.int .i64 x.p.kind,.int .i64 x.p.bo,.slice x.da x.p.data.length x.dc,.map x.gK].take j++[v]++[Value.int .i64 x.p.kind,.int .i64 x.p.bo,.slice x.da x.p.data.length x.dc,.map x.gK].drop (j+1))=[.int .i64 p'.kind,.int .i64 p'.bo,.slice a p'.data.length c,.map x.gK])
 (hX:∀R h,(aj (dS x.da x.p.data.length x.dc x.p.data) X).p R h->(dS a p'.data.length c p'.data).p R h):
 aR prog (cv tt' (.pointer (some ⟨x.nb,j,none⟩)) v) (aj (dK x) X) (λu=>aA (u=.tuple #[]) (dK {x with p:=p',da:=a,dc:=c})):=by
 obtain⟨i,hi,hs⟩:=Option.map_eq_some_iff.1 hz;have st:=g9 hi 210 x.nb #[.int .i64 x.p.kind,.int .i64 x.p.bo,.slice x.da x.p.data.length x.dc,.map x.gK] j v [v] (by simpa using hv) hs (by simp) (by simpa using h1) (by simp;omega) (by unfold maxLen;simp);refine(st.frame (aj (aj (dS x.da x.p.data.length x.dc x.p.data) X) (sB x))).aK (λR h H=>?_) ?_
 ·have H1:=au (ae H (λ_ h=>aC h) λ_ h=>h);have H2:=au H1;exact ae (HP.pick [_,_,_,_] [0,1,3,2] (by decide) rfl H2) (λ_ h=>h) λy hy=>aC hy
 ·rintro u R h ⟨h1,h2,d,l1,l2,⟨e,H⟩,HR⟩;refine⟨e,?_⟩;have H1:=ae (⟨h1,h2,d,l1,l2,H,HR⟩:(aj _ _).p R h) (λ_ h=>h) λy hy=>ae hy (λz hz=>hX R z hz) λ_ h=>h;have e1:sB {x with p:=p',da:=a,dc:=c}=sB x:=by unfold sB;simp only[hk,he]
  have e2:NC {x with p:=p',da:=a,dc:=c}=HP.one x.nb (.cells #[.int .i64 p'.kind,.int .i64 p'.bo,.slice a p'.data.length c,.map x.gK] 210 (0,0)):=by
   unfold NC HN.gK;simp only[hk]
  unfold dK;rw[e1,e2];rw[show(#[Value.int .i64 x.p.kind,.int .i64 x.p.bo,.slice x.da x.p.data.length x.dc,.map x.gK]:dI).toList=[.int .i64 x.p.kind,.int .i64 x.p.bo,.slice x.da x.p.data.length x.dc,.map x.gK]from rfl,show j+[v].length=j+1 from rfl,hc]at H1;exact H1
theorem Et(hi:t.ns[i]? =some x) n:aR prog (cv 3 (.pointer (some ⟨x.nb,1,none⟩)) (.int .i64 n)) (aU b t) (λv=>aA (v=.tuple #[]) (aU b (t.jj i (x.Wc n)))):=
 aeN hi rfl rfl ((dK.store (X:=tt) (p':={x.p with bo:=n}) (a:=x.da) (c:=x.dc) (n:=0) (by kernel_rfl) rfl rfl (by decide) rfl rfl rfl rfl (λR h H=>ai H)).aK (λ_ _ H=>aD H) λ_ _ _ h=>h)
theorem RH(hi:t.ns[i]? =some x)(a:aG) c l:aR prog (cv 37 (.pointer (some ⟨x.nb,2,none⟩)) (.slice a l.length c)) (aj (aU b t) (dS a l.length c l)) (λv=>aA (v=.tuple #[]) (aU b (t.jj i (x.DA a c l)))):=
 upd hi rfl rfl (dK.store (p':={x.p with data:=l}) (a:=a) (c:=c) (n:=0) (by kernel_rfl) rfl rfl (by decide) rfl rfl rfl rfl (λR h H=>ah H))
end
section
open RX
variable {b:Nat}{t:TS}{x y:HN}{i:Nat}
def wR(y:HN):List HN->List HN
 |[]=>[y]
 |z::r=>if z.p.num<y.p.num then z::wR y r else y::z::r
def TS.Gq(t:TS)(y:HN):TS:={t with ns:=wR y t.ns}
def TS.JD(t:TS)(k:Nat):TS:={t with ns:=t.ns.filter λz=>decide (z.p.num≠k)}
theorem qc(y:HN):∀ns,(wR y ns).Perm (y::ns)
 |[]=>List.Perm.refl _
 |z::r=>by
  unfold wR;split
  ·exact((qc y r).cons z).trans (List.Perm.swap y z r)
  ·exact List.Perm.refl _
theorem yv y q:∀ns,fT (wR y ns) q=if q=y.p.num then some (pt y.nb)else fT ns q
 |[]=>by
  unfold wR fT
  by_cases h:q=y.p.num
  ·subst h;simp
  ·simp[h,Ne.symm h]
 |z::r=>by
  have ih:=yv y q r;unfold wR;split
  ·rename_i h;unfold fT at ih⊢;rw[List.find?_cons,List.find?_cons]
   by_cases e:(z.p.num:Int)=q
   ·have:¬q=y.p.num:=by omega
    simp[e,this]
   ·simp only[e,decide_false];exact ih
  ·unfold fT;rw[List.find?_cons]
   by_cases e:q=y.p.num
   ·subst e;simp
   ·have:¬(y.p.num:Int)=q:=λh=>e h.symm;simp[e,this]
theorem B7(k:Nat) q:∀ns,fT (ns.filter λz:HN=>decide (z.p.num≠k)) q=if q=k then none else fT ns q
 |[]=>by simp[fT]
 |z::r=>by
  have ih:=B7 k q r;rw[List.filter_cons]
  by_cases h:z.p.num=k
  ·simp only[ne_eq,h,not_true_eq_false,decide_false,Bool.false_eq_true,if_false];simp only[ne_eq]at ih;rw[ih]
   by_cases e:q=k
   ·simp[e]
   ·unfold fT;rw[List.find?_cons];have:¬(z.p.num:Int)=q:=by omega
    simp[e,this]
  ·simp only[ne_eq,h,not_false_eq_true,decide_true,if_true];unfold fT at ih⊢;rw[List.find?_cons,List.find?_cons]
   by_cases e:(z.p.num:Int)=q
   ·have:¬q=k:=by omega
    simp[e,this]
   ·simp only[e,decide_false];simpa using ih
theorem O9 y:aR prog (kK 185 (.map (some t.mb)) (.int .i64 y.p.num) (pt y.nb)) (aj (aU b t) (dK y)) (λv=>aA (v=.tuple #[]) (aU b (t.Gq y))):=by
 have o:aR prog (kK 185 (.map (some t.mb)) (.int .i64 y.p.num) (pt y.nb)) (wO t) (λv=>aA (v=.tuple #[]) (wO (t.Gq y))):=by
  refine Lx λl=>Lx λc=>yZ λ⟨hI,hk⟩=>?_;refine(o6 (r:=t.mb) (l:=l) (c:=c) B3 zu (y.p.num:Int) (pt y.nb)).wk ?_;rintro v R h ⟨rfl,H⟩;refine⟨rfl,_,_,⟨hI.put (y.p.num:Int) _,λq=>?_⟩,H⟩;rw[i7,hk];exact(yv y q t.ns).symm
 refine(o.frame (aj (TC b t) (aj (cw (t.ns.map dK)) (dK y)))).aK (λR h H=>?_) ?_
 ·have H1:=au (ae H (λ_ h=>h) λ_ h=>h);have H2:(aj (TC b t) (aj (wO t) (aj (cw (t.ns.map dK)) (dK y)))).p R h:=ae H1 (λ_ h=>h) λz hz=>au hz;exact HP.pick [_,_,_,_] [1,0,2,3] (by decide) rfl H2
 ·rintro v R h ⟨h1,h2,d,l1,l2,⟨e,H⟩,HR⟩;refine⟨e,?_⟩;have H1:(aj (TC b t) (aj (wO (t.Gq y)) (aj (cw (t.ns.map dK)) (dK y)))).p R h:=HP.pick [_,_,_,_] [1,0,2,3] (by decide) rfl ⟨h1,h2,d,l1,l2,H,HR⟩;refine ae H1 (λ_ h=>h) λz hz=>ae hz (λ_ h=>h) λq hq=>?_;exact pR ((qc y t.ns).symm.map dK) (cQ.2 (ak hq))
theorem sF p:∀(l:List HN) {R h:PH},(cw (l.map dK)).p R h->(cw ((l.filter p).map dK)).p R h
 |[],_,_,H=>H
 |z::r,R,h,H=>by
  have H1:=cQ.1 H;rw[List.filter_cons];split
  ·exact cQ.2 (ae H1 (λ_ h=>h) λq hq=>sF p r hq)
  ·exact sF p r (ah H1)
theorem Pa(k:Nat) ts ty(h0:ts[0]? =some 185):aR prog (xR ts ty (.map (some t.mb)) (.int .i64 k)) (aU b t) (λv=>aA (v=.tuple #[]) (aU b (t.JD k))):=by
 have o:aR prog (xR ts ty (.map (some t.mb)) (.int .i64 k)) (wO t) (λv=>aA (v=.tuple #[]) (wO (t.JD k))):=by
  refine Lx λl=>Lx λc=>yZ λ⟨hI,hk⟩=>?_;refine(LH (r:=t.mb) (l:=l) (c:=c) (ty:=ty) B3 zu (k:Int) ts h0).wk ?_;rintro v R h ⟨rfl,H⟩;refine⟨rfl,_,_,⟨hI.OF (k:Int),λq=>?_⟩,H⟩;rw[lJ _ _ _ hI.1,hk];exact(B7 k q t.ns).symm
 refine(o.frame (aj (TC b t) (cw (t.ns.map dK)))).aK (λR h H=>HP.pick [_,_,_] [1,0,2] (by decide) rfl H) ?_;rintro v R h ⟨h1,h2,d,l1,l2,⟨e,H⟩,HR⟩;refine⟨e,?_⟩;have H1:(aj (TC b t) (aj (wO (t.JD k)) (cw (t.ns.map dK)))).p R h:=HP.pick [_,_,_] [1,0,2] (by decide) rfl ⟨h1,h2,d,l1,l2,H,HR⟩;exact ae H1 (λ_ h=>h) λz hz=>ae hz (λ_ h=>h) λq hq=>sF _ _ hq
theorem aeQ(hi:t.ns[i]? =some x){ty}{o dl dc}{S}{q}{m c2}{d:ax}(hr:bX S q m (d.map eX))(hl:d.length=m)(hm:m≠0->q.isSome=true)(hq:q=none->c2=0)(ha:x.da.isSome=true)(hfit:o+min m dl<=x.p.data.length):
 aR prog (cpS #[37,37] ty (.slice (x.da.map λz=>z.add o) dl dc) (.slice q m c2)) (aj (aU b t) S)
  (λv=>aA (v=.int .i64 ((min m dl:Nat):Int)) (aj (aU b (t.jj i (x.DA x.da x.dc (x.p.data.take o++d.take (min m dl)++x.p.data.drop (o+min m dl))))) S)):=by
 obtain⟨j,hj,h1,h2,h3⟩:=info_parts yY;have cp:=acw (sT:=37) (ty:=ty) BW hj h2 x.da x.p.data.length x.dc (x.p.data.map eX) o dl dc S q m c2 (d.map eX) hr (by simpa using hl) hm hq (FC d) ha hfit
 have hlen:(x.p.data.take o++d.take (min m dl)++x.p.data.drop (o+min m dl)).length=x.p.data.length:=by
  simp only[List.length_append,List.length_take,List.length_drop,hl];omega
 refine(cp.frame (aj (JC b t i) (aj (NC x) (sB x)))).aK (λR h H=>?_) ?_
 ·have H1:=ae H (λ_ h=>aU.jK hi h) λ_ h=>h
  have H2:(aj (NC x) (aj (dS x.da x.p.data.length x.dc x.p.data) (aj (sB x) (aj (JC b t i) S)))).p R h:=by
   have:=au H1;have:=au this;exact ae this (λ_ h=>h) λz hz=>au hz
  exact aC (HP.pick [_,_,_,_,_] [1,4,3,0,2] (by decide) rfl H2)
 ·rintro v R h ⟨k1,k2,kd,kl1,kl2,⟨e,H⟩,HR⟩;refine⟨e,?_⟩;have H0:=au (⟨k1,k2,kd,kl1,kl2,H,HR⟩:(aj _ _).p R h);have H1:=HP.pick [_,_,_,_,_] [3,0,4,2,1] (by decide) rfl H0;rw[<-List.map_take,<-List.map_take,<-List.map_drop,<-List.map_append,<-List.map_append]at H1;have H2:=aC (ae H1 (λ_ h=>h) λz hz=>aC hz);have H3:=aC H2;refine ae H3 (λz hz=>?_) λ_ h=>h;refine aU.lX hi (y:=x.DA x.da x.dc (x.p.data.take o++d.take (min m dl)++x.p.data.drop (o+min m dl))) rfl rfl (ae hz (λw hw=>?_) λ_ h=>h)
  have e1:NC (x.DA x.da x.dc (x.p.data.take o++d.take (min m dl)++x.p.data.drop (o+min m dl)))=NC x:=by
   unfold NC HN.DA HN.gK;simp only[hlen]
  have e2:sB (x.DA x.da x.dc (x.p.data.take o++d.take (min m dl)++x.p.data.drop (o+min m dl)))=sB x:=rfl;unfold dK;rw[e1,e2];show(aj (NC x) (aj (dS x.da (x.p.data.take o++d.take (min m dl)++x.p.data.drop (o+min m dl)).length x.dc _) (sB x))).p R w;rw[hlen];exact hw
def nN(l:ax)(n:Nat):ax:=l.take n++List.replicate (n - l.length) 0
theorem B8(hi:t.ns[i]? =some x)(n:Nat)(hn:n<=100000):az prog 321 #[pt x.nb,.int .i64 n] (aU b t) (λv=>aE λa=>aE λc=>aA (v=.tuple #[]/\a.isSome=true) (aU b (t.jj i (x.DA a c (nN x.p.data n))))):=by
 have kM:x∈t.ns:=List.mem_of_getElem? hi;refine az.cM (φ:=(x.p.data.length≠0->x.da.isSome=true)/\(x.da=none->x.dc=0)) (λR h H=>?_) λ⟨kL,yV⟩=>?_
 ·have H1:=ai (ah (aU.node H kM));refine⟨λh=>bY.some H1 (by omega),λh=>?_⟩;rcases H1.2 with⟨_,_,h3⟩|⟨g,cur,h2,_⟩
  ·exact h3
  ·rw[h]at h2;cases h2
 refine ao (ρ:=[.n x.nb,.p (aU b t),.i n]) {fk:=[183],aF:=ii,link:=ij,dN:=true,dv:=true,ck:=[183]} [(.ptr 0 0),2] yo 3 ?_;obtain⟨j,hj,z1,z2,z3⟩:=info_parts yY;rw[FR];refine(Vd BW hj z1 rfl z2 n (by rw[z3];omega) (by unfold maxLen;omega) tt).wk ?_;rintro v R h ⟨g,rfl,H⟩;have e0:List.replicate n (Value.int .u8 0)=(List.replicate n (0:UInt8)).map eX:=by rw[List.map_replicate];rfl
 rw[e0]at H;refine⟨some ⟨g,0,none⟩,n,n,dS (some ⟨g,0,none⟩) n n (List.replicate n 0),rfl,⟨x.da,x.p.data.length,x.dc,sC kM,?_⟩,ai H⟩;clear H;rw[Eo (by decide)];have cp:=acw (sT:=37) (ty:=3) BW hj z2 (some ⟨g,0,none⟩) n n ((List.replicate n (0:UInt8)).map eX) 0 n n (aU b t) x.da x.p.data.length x.dc (x.p.data.map eX) (Gp kM) (by simp) kL yV (FC _) rfl (by omega);simp only[Option.map_some,RX.addr_add,Nat.add_zero]at cp;refine cp.wk ?_;rintro v R h ⟨rfl,H⟩
 have e1:((List.replicate n (0:UInt8)).map eX).take 0++(x.p.data.map eX).take (min x.p.data.length n)++((List.replicate n (0:UInt8)).map eX).drop (0+min x.p.data.length n)=(nN x.p.data n).map eX:=by
  unfold nN;simp only[List.take_zero,List.nil_append,Nat.zero_add,<-List.map_take,<-List.map_drop,<-List.map_append,List.drop_replicate];congr 2
  ·rcases Nat.le_total x.p.data.length n with h|h
   ·rw[Nat.min_eq_left h,List.take_of_length_le (Nat.le_refl _),List.take_of_length_le h]
   ·rw[Nat.min_eq_right h]
  ·congr 1;omega
 rw[e1]at H;have hl:(nN x.p.data n).length=n:=by simp[nN];omega
 refine⟨_,dS (some ⟨g,0,none⟩) n n (nN x.p.data n),rfl,?_,H⟩;clear H;have st:=RH (b:=b) hi (some ⟨g,0,none⟩) n (nN x.p.data n);rw[hl]at st;refine st.aK (λ_ _ H=>H) ?_;rintro v R h ⟨rfl,H⟩;exact⟨_,rfl,.of λR h H=>⟨some ⟨g,0,none⟩,n,⟨trivial,rfl⟩,H⟩,H⟩
end
section
open RX
theorem MD{x}(h:(47:UInt8)∉x)(r:ax):cx 47 (x++47::r)=x::cx 47 r:=by
 induction x with
 |nil=>simp[cx]
 |cons b q ih=>
  simp only[List.mem_cons,not_or]at h;rw[List.cons_append]
  conv=>lhs;unfold cx
  rw[aq (Ne.symm h.1),ih h.2]
theorem ME{x}(h:(47:UInt8)∉x):cx 47 x=[x]:=sr (List.count_eq_zero.2 h)
theorem wS:∀(l:List ax) (x:ax),(47:UInt8)∉x->(∀y∈l,(47:UInt8)∉y)->cx 47 (x++ir l)=x::l
 |[],x,h,_=>by simp[ir,ME h]
 |y::r,x,h,hl=>by
  have:ir (y::r)=47::(y++ir r):=by simp[ir]
  rw[this,MD h,wS r y (hl y (by simp)) (λz hz=>hl z (by simp[hz]))]
theorem wT{x}(h:dm x=true):(47:UInt8)∉x/\x≠[]:=by
 unfold dm at h;simp only[Bool.and_eq_true,decide_eq_true_eq]at h;refine⟨h.1.2,λe=>?_⟩;subst e;simp at h
theorem JE{l}(h:∀x∈l,dm x=true)(h8:l.length<=8):bW (zr l)=some l:=by
 cases l with
 |nil=>rfl
 |cons x r=>
  have e:zr (x::r)=47::(x++ir r):=by simp[zr,ir]
  have hx:=wT (h x (by simp));rw[e];unfold bW
  rw[aq (by
   intro q;injection q with _ q;exact hx.2 (List.append_eq_nil_iff.1 q).1)]
  simp only[if_true];rw[wS r x hx.1 (λy hy=>(wT (h y (by simp[hy]))).1)];rw[aB ⟨h8,by rw[List.all_eq_true];exact h⟩]
theorem mZ{s ab nm}(h:gw s=some (ab,nm)):∃l,bW s=some (l++[nm])/\bW ab=some l:=by
 unfold gw at h;split at h
 ·rename_i x r hs;obtain⟨h8,hok⟩:=ji hs;simp only[Option.some.injEq,Prod.mk.injEq]at h;refine⟨(x::r).dropLast,?_,?_⟩
  ·rw[hs,<-h.2,List.dropLast_concat_getLast]
  ·rw[<-h.1];exact JE (λy hy=>hok y (List.dropLast_subset _ hy)) (by rw[List.length_dropLast];omega)
 ·cases h
theorem Eu T a nm r:dL T a (nm::r)=match nodeAt T a with
 |none=>(0,21)
 |some n=>if n.kind≠1 then(0,23)else match lk n.ay nm with
  |none=>(0,21)
  |some k=>dL T k r:=rfl
theorem tE{T:List Nd}:∀(l m:List Nm) (a:Nat),dL T a (l++m)=if(dL T a l).2=0 then dL T (dL T a l).1 m else dL T a l
 |[],m,a=>by simp[dL]
 |nm::r,m,a=>by
  rw[List.cons_append,Eu,Eu T a nm r];cases nodeAt T a with
  |none=>simp
  |some n=>
   simp only;split
   ·simp
   ·cases lk n.ay nm with
    |none=>simp
    |some k=>exact tE r m k
theorem gx{T}{s:Nm}{l:List Nm}(h:bW s=some l):bG T s=dL T 0 l:=by unfold bG;rw[h]
theorem MF{T}{s ab nm}(h:gw s=some (ab,nm)):bG T s=if(bG T ab).2=0 then dL T (bG T ab).1 [nm]else bG T ab:=by
 obtain⟨l,h1,h2⟩:=mZ h;rw[gx h1,gx h2,tE]
theorem B9{T}{a k}{nm}(h:dL T a [nm]=(k,0)):∃n,nodeAt T a=some n/\n.kind=1/\lk n.ay nm=some k:=by
 unfold dL at h;split at h
 ·simp at h
 ·rename_i n hn;split at h
  ·simp at h
  ·rename_i hk;split at h
   ·simp at h
   ·rename_i j hj;simp only[dL,Prod.mk.injEq,and_true]at h;subst h;exact⟨n,hn,by simpa using hk,hj⟩
theorem Wd{T}{s ab nm}(h:gw s=some (ab,nm))(h0:(bG T s).2=0):(bG T ab).2=0/\∃n,nodeAt T (bG T ab).1=some n/\n.kind=1/\lk n.ay nm=some (bG T s).1:=by
 have e:=MF (T:=T) h
 by_cases hc:(bG T ab).2=0
 ·rw[aB hc]at e;refine⟨hc,B9 (k:=(bG T s).1) ?_⟩;rw[<-e,<-h0]
 ·rw[aq hc]at e;rw[e]at h0;exact absurd h0 hc
def bL(T:List Nd)(k:Nat)(f:Nd->Nd):List Nd:=T.map λn=>if n.num=k then f n else n
def lr(T:List Nd)(k:Nat):List Nd:=T.filter λn=>decide (n.num≠k)
def mG(y:Nd):List Nd->List Nd
 |[]=>[y]
 |z::r=>if z.num<y.num then z::mG y r else y::z::r
def fE(g:List (Nm×Nat)->List (Nm×Nat))(n:Nd):Nd:={n with ay:=g n.ay}
def fL(d:Int)(n:Nd):Nd:={n with bo:=n.bo+d}
def fD(g:ax->ax)(n:Nd):Nd:={n with data:=g n.data}
theorem eV{l:List Nat}(h:l.Pairwise (· < ·)):l.Nodup:=h.imp λh=>by omega
theorem d7{T}{k}{f}(hf:∀n,(f n).num=n.num):(bL T k f).map (·.num)=T.map (·.num):=by
 unfold bL;rw[List.map_map];refine List.map_congr_left λn _=>?_;simp only[Function.comp];split
 ·exact hf n
 ·rfl
theorem cG{T}{k}{f}(hf:∀n,(f n).num=n.num) j:nodeAt (bL T k f) j=if j=k then(nodeAt T k).map f else nodeAt T j:=by
 unfold nodeAt bL;rw[List.find?_map]
 have e:((λn:Nd=>decide (n.num=j))∘λn:Nd=>if n.num=k then f n else n)=λn:Nd=>decide (n.num=j):=by
  funext n;simp only[Function.comp];split
  ·rw[hf]
  ·rfl
 rw[e];cases hq:T.find? λn=>decide (n.num=j)with
 |none=>
  split
  ·rename_i h;subst h;rw[hq];rfl
  ·rfl
 |some n=>
  have hn:n.num=j:=by simpa using List.find?_some hq
  split
  ·rename_i h;subst h;rw[hq];simp[hn]
  ·rename_i h;simp[hn,h]
theorem Ca{T}{k} j:nodeAt (lr T k) j=if j=k then none else nodeAt T j:=by
 induction T with
 |nil=>simp[lr,nodeAt]
 |cons z r ih=>
  unfold lr at ih⊢;rw[List.filter_cons];unfold nodeAt at ih⊢
  by_cases h:z.num=k
  ·simp only[ne_eq,h,not_true_eq_false,decide_false,Bool.false_eq_true,if_false,List.find?_cons];simp only[ne_eq]at ih;rw[ih]
   by_cases e:j=k
   ·simp[e]
   ·simp[e,Ne.symm e]
  ·simp only[ne_eq,h,not_false_eq_true,decide_true,if_true,List.find?_cons]
   by_cases e:z.num=j
   ·have:¬j=k:=by omega
    simp[e,this]
   ·simp only[e,decide_false];simpa using ih
theorem lN{y} j:∀T:List Nd,nodeAt (mG y T) j=if j=y.num then some y else nodeAt T j
 |[]=>by
  unfold mG nodeAt
  by_cases h:j=y.num
  ·subst h;simp
  ·simp[h,Ne.symm h]
 |z::r=>by
  have ih:=lN (y:=y) j r;unfold mG;split
  ·rename_i h;unfold nodeAt at ih⊢;rw[List.find?_cons,List.find?_cons]
   by_cases e:z.num=j
   ·have:¬j=y.num:=by omega
    simp[e,this]
   ·simp only[e,decide_false];exact ih
  ·unfold nodeAt;rw[List.find?_cons]
   by_cases e:j=y.num
   ·subst e;simp
   ·simp[e,Ne.symm e]
theorem Cb{y n:Nd}:∀ {T:List Nd},n∈mG y T↔n=y\/n∈T
 |[]=>by simp[mG]
 |z::r=>by
  unfold mG;split
  ·rw[List.mem_cons,Cb,List.mem_cons];constructor
   ·rintro(h|h|h)<;>simp[h]
   ·rintro(h|h|h)<;>simp[h]
  ·simp
theorem sG{y}:∀ {T:List Nd},(T.map (·.num)).Pairwise (· < ·)->(∀n∈T,n.num≠y.num)->((mG y T).map (·.num)).Pairwise (· < ·)
 |[],_,_=>by simp[mG]
 |z::r,h,hn=>by
  rw[List.map_cons,List.pairwise_cons]at h;unfold mG;split
  ·rename_i hl;rw[List.map_cons,List.pairwise_cons];refine⟨λa ha=>?_,sG h.2 λn hm=>hn n (by simp[hm])⟩;obtain⟨n,hm,rfl⟩:=List.mem_map.1 ha;rcases Cb.1 hm with rfl|hm
   ·exact hl
   ·exact h.1 _ (List.mem_map.2 ⟨n,hm,rfl⟩)
  ·rename_i hl;have:=hn z (by simp);rw[List.map_cons,List.pairwise_cons];refine⟨λa ha=>?_,by rw[List.map_cons,List.pairwise_cons];exact h⟩;rw[List.map_cons,List.mem_cons]at ha;rcases ha with rfl|ha
   ·omega
   ·have:=h.1 a ha;omega
theorem JF{T}{k}(h:(T.map (·.num)).Pairwise (· < ·)):((lr T k).map (·.num)).Pairwise (· < ·):=h.sublist (List.filter_sublist.map _)
theorem fi{T}(h:(T.map (·.num)).Nodup){n}(hn:n∈T):nodeAt T n.num=some n:=by
 have h1:(nodeAt T n.num).isSome=true:=by unfold nodeAt;rw[List.find?_isSome];exact⟨n,hn,by simp⟩
 obtain⟨m,hm⟩:=Option.isSome_iff_exists.1 h1;obtain⟨h2,h3⟩:=bI hm;rw[hm,map_inj (λn:Nd=>n.num) h h2 hn h3]
theorem iD n r k:refs (n::r) k=dQ n.ay k+refs r k:=by simp[refs]
theorem RI{T}{a}{f}(h:∀n∈T,n.num≠a):bL T a f=T:=by
 unfold bL
 conv=>rhs;rw[<-List.map_id T]
 refine List.map_congr_left λn hn=>?_;rw[aq (h n hn)];rfl
theorem RJ{T}{a}(h:∀n∈T,n.num≠a):lr T a=T:=by
 unfold lr;rw[List.filter_eq_self];intro n hn;simpa using h n hn
theorem kP{f}{a}{x} k:∀ {T:List Nd},(T.map (·.num)).Nodup->nodeAt T a=some x->refs (bL T a f) k+dQ x.ay k=refs T k+dQ (f x).ay k
 |[],_,h=>by cases h
 |n::r,hn,h=>by
  rw[List.map_cons,List.nodup_cons]at hn;have hr:bL (n::r) a f=(if n.num=a then f n else n)::bL r a f:=rfl;unfold nodeAt at h;rw[List.find?_cons]at h;rw[hr,iD,iD]
  by_cases e:n.num=a
  ·simp only[e,decide_true,Option.some.injEq]at h;subst h;rw[aB e,RI λm hm q=>hn.1 (List.mem_map.2 ⟨m,hm,q.trans e.symm⟩)];omega
  ·simp only[e,decide_false]at h;rw[aq e];have:=kP (f:=f) k hn.2 h;omega
theorem JG{a}{x} k:∀ {T:List Nd},(T.map (·.num)).Nodup->nodeAt T a=some x->refs (lr T a) k+dQ x.ay k=refs T k
 |[],_,h=>by cases h
 |n::r,hn,h=>by
  rw[List.map_cons,List.nodup_cons]at hn
  have hr:lr (n::r) a=if n.num=a then lr r a else n::lr r a:=by
   unfold lr;rw[List.filter_cons]
   by_cases e:n.num=a<;>simp[e]
  unfold nodeAt at h;rw[List.find?_cons]at h;rw[hr,iD]
  by_cases e:n.num=a
  ·simp only[e,decide_true,Option.some.injEq]at h;subst h;rw[aB e,RJ λm hm q=>hn.1 (List.mem_map.2 ⟨m,hm,q.trans e.symm⟩)];omega
  ·simp only[e,decide_false]at h;rw[aq e,iD];have:=JG k hn.2 h;omega
theorem JI(y:Nd)(k:Nat):∀T:List Nd,refs (mG y T) k=refs T k+dQ y.ay k
 |[]=>by simp[mG,refs]
 |z::r=>by
  unfold mG;split
  ·rw[iD,iD,JI y k r];omega
  ·rw[iD,iD];omega
theorem wU nm j k:∀l,dQ (de nm j l) k=dQ l k+if j=k then 1 else 0
 |[]=>by simp[de,dQ,List.countP_cons]
 |y::r=>by
  have ih:=wU nm j k r;unfold de;unfold dQ at ih⊢;split
  ·rw[List.countP_cons,List.countP_cons,ih];omega
  ·rw[List.countP_cons,List.countP_cons];simp
theorem qd{nm}{j} k:∀ {l:List (Nm×Nat)},(l.map (·.1)).Nodup->lk l nm=some j->dQ (bb nm l) k+(if j=k then 1 else 0)=dQ l k
 |[],_,h=>by cases h
 |y::r,hn,h=>by
  rw[List.map_cons,List.nodup_cons]at hn;unfold lk at h;unfold bb;rw[List.filter_cons]
  by_cases e:nm=y.1
  ·rw[aB e]at h;cases h
   have:(r.filter λz=>decide (z.1≠nm))=r:=by
    rw[List.filter_eq_self];intro z hz;simp only[ne_eq,decide_not,Bool.not_eq_eq_eq_not,Bool.not_true,decide_eq_false_iff_not];intro q;exact hn.1 (List.mem_map.2 ⟨z,hz,q.trans e⟩)
   rw[aq (by simp[e]),this];unfold dQ;rw[List.countP_cons];simp
  ·rw[aq e]at h;have ih:=qd k hn.2 h;unfold dQ bb at ih;rw[aB (by simpa using Ne.symm e)];unfold dQ;rw[List.countP_cons,List.countP_cons];omega
theorem nO{l:List (Nm×Nat)}(h:(l.map (·.1)).Pairwise (· < ·)):(l.map (·.1)).Nodup:=h.imp λ{a b} h e=>by subst e;exact List.lt_irrefl _ h
theorem qe{nm:Nm}{k:Nat}{e:Nm×Nat}:∀ {l},e∈de nm k l↔e=(nm,k)\/e∈l
 |[]=>by simp[de]
 |z::r=>by
  unfold de;split
  ·rw[List.mem_cons,qe,List.mem_cons];constructor
   ·rintro(h|h|h)<;>simp[h]
   ·rintro(h|h|h)<;>simp[h]
  ·simp
theorem JJ(nm:Nm)(k:Nat):∀l,(de nm k l).length=l.length+1
 |[]=>rfl
 |z::r=>by
  unfold de;split
  ·simp[JJ nm k r]
  ·rfl
theorem aiC{a b:Nm}(h:¬a<b)(hn:a≠b):b<a:=by
 exact Classical.byContradiction λh2=>hn (List.le_antisymm (List.not_lt.1 h2) (List.not_lt.1 h))
theorem zw{nm}{k}:∀ {l:List (Nm×Nat)},(l.map (·.1)).Pairwise (· < ·)->lk l nm=none->((de nm k l).map (·.1)).Pairwise (· < ·)
 |[],_,_=>by simp[de]
 |z::r,h,hn=>by
  rw[List.map_cons,List.pairwise_cons]at h;unfold lk at hn;split at hn
  ·cases hn
  ·rename_i hne;unfold de;split
   ·rename_i hl;rw[List.map_cons,List.pairwise_cons];refine⟨λa ha=>?_,zw h.2 hn⟩;obtain⟨e,he,rfl⟩:=List.mem_map.1 ha;rcases qe.1 he with rfl|he
    ·exact hl
    ·exact h.1 _ (List.mem_map.2 ⟨e,he,rfl⟩)
   ·rename_i hl;have hz:=aiC hl (Ne.symm hne);rw[List.map_cons,List.pairwise_cons];refine⟨λa ha=>?_,by rw[List.map_cons,List.pairwise_cons];exact h⟩;rw[List.map_cons,List.mem_cons]at ha;rcases ha with rfl|ha
    ·exact hz
    ·exact List.lt_trans hz (h.1 a ha)
theorem Gr{nm}{l}(h:(l.map (·.1)).Pairwise (· < ·)):((bb nm l).map (·.1)).Pairwise (· < ·):=h.sublist (List.filter_sublist.map _)
end
end Go.Proofs.YtchjlaebbhpioaaGreatDoor
