/- A run's tree, shown, is a contract of the function. No condition. -/
import Derived.Test.YtmibmjehjagmbaaSndK
namespace Go.Proofs.Ytmibmjehjagmbaa.RX
open Go.Proofs.Ytmibmjehjagmbaa

def Reach (c : Ctx) (K : Ex → S → T) : Exit → Act → World → Prop
  | .normal, a, w => Nx c (K .norm) a w
  | .exit id, a, w => Nx c (K (.exit id)) a w
  | .ret, a, w => Nx c (K .ret) a w
  | _, _, _ => False

section
variable {P : Program} {post : Value → HP} {w0 : World} {F : PH} {cfg : Cfg}

theorem Reach.up {K : Ex → S → T} {ρ ρ' : Env} {R R' : PH} {L L' : List (Env → Prop)} {e : Exit} {a : Act} {w : World} (p1 : ρ <+: ρ') (p2 : R.le R') (p3 : L <:+ L') (n : Reach ⟨P, post, w0, F, ρ', R', L'⟩ K e a w) : Reach ⟨P, post, w0, F, ρ, R, L⟩ K e a w := by
  cases e <;> first | exact Nx.up p1 p2 p3 n | exact n

theorem hden_unfilter {ρ : Env} (q : Key × C → Bool) {l : Hp} {R h : PH} (H : (HP.sep (hden ρ (l.filter q)) (hden ρ (l.filter fun x => !q x))).p R h) : (hden ρ l).p R h := by
  induction l generalizing h with
  | nil => trivial
  | cons x r ih =>
    rw [List.filter_cons, List.filter_cons] at H
    cases hq : q x with
    | true =>
      simp only [hq, if_true, Bool.not_true, Bool.false_eq_true, if_false] at H
      exact (hden_cons ρ x r R h).2 (HP.sep_mono (HP.sep_assoc (HP.sep_mono H (fun _ h => (hden_cons ρ x _ _ _).1 h) fun _ h => h)) (fun _ h => h) fun _ h => ih h)
    | false =>
      simp only [hq, Bool.false_eq_true, if_false, Bool.not_false, if_true] at H
      have H2 := HP.sep_comm H
      have H3 := HP.sep_assoc (HP.sep_mono H2 (fun _ h => (hden_cons ρ x _ _ _).1 h) fun _ h => h)
      exact (hden_cons ρ x r R h).2 (HP.sep_mono H3 (fun _ h => h) fun _ h => ih (HP.sep_comm h))
theorem okS_hp {hd : S} {ss : List So} {fr : List FV} {ρ ρ2 : Env} {s : S} {base : Nat} {R h : PH} (hl : ρ.length = base) (c : okS base ss hd s fr = true) (hp : ρ <+: ρ2) (H : (hden ρ2 s.h).p R h) : (hden (ρ ++ fr.map (FV.den ρ2)) hd.h).p R h := by
  simp only [okS, Bool.and_eq_true, decide_eq_true_eq] at c
  have c2 := c.1.1.1.1.1.2
  split at c2
  · rename_i l hl'
    simp only [Bool.and_eq_true] at c2
    exact partsH_den hl' hl hp (hden_sub c2.1 (fun x hx => by simpa using List.all_eq_true.1 c2.2 x hx) H)
  · cases c2
theorem okS_so {hd : S} {ss : List So} {fr : List FV} {s : S} {base : Nat} (c : okS base ss hd s fr = true) (ρ : Env) : sorted ss (fr.map (FV.den ρ)) ∧ fr.length = ss.length ∧ hd.n = base + ss.length := by
  simp only [okS, Bool.and_eq_true, decide_eq_true_eq] at c
  exact ⟨fr_sorted ρ c.1.1.1.1.2 c.1.1.1.2, c.1.1.1.2, c.1.1.2⟩
theorem sorted_len : ∀ {ss : List So} {xs : Env}, sorted ss xs → xs.length = ss.length
  | [], [], _ => rfl
  | [], _ :: _, h => by simp [sorted] at h
  | t :: r, [], h => by cases t <;> simp [sorted] at h
  | t :: r, x :: xs, h => by cases t <;> cases x <;> simp only [sorted] at h <;> first | (simp only [List.length_cons, sorted_len h]; done) | exact h.elim
/-- A block of what is let alone turns. -/
theorem _root_.Go.Proofs.Ytmibmjehjagmbaa.Sat.turnF {w : World} {R h F : PH} (s : Sat w R h F) {l : Nat} {x : Obj} (hb : F l = some x) (y : Obj) : Sat (w.putObj l y) R h (fun k => if k = l then some y else F k) := by
  have hR : R l = none := (s.dRF l).resolve_right (by rw [hb]; simp)
  have hh : h l = none := (s.dhF l).resolve_right (by rw [hb]; simp)
  have keep : ∀ g : PH, g.own w → g l = none → g.own (w.putObj l y) := fun g og gl k o e => by
    rw [World.putObj_heap_other (fun e' => by subst e'; rw [gl] at e; cases e)]; exact og k o e
  refine ⟨s.dRh, fun k => ?_, fun k => ?_, keep R s.oR hR, keep h s.oh hh, fun k o e => ?_⟩
  · by_cases e : k = l
    · subst e; exact .inl hR
    · simp only [e, if_false]; exact s.dRF k
  · by_cases e : k = l
    · subst e; exact .inl hh
    · simp only [e, if_false]; exact s.dhF k
  · by_cases e' : k = l
    · subst e'
      simp only [if_true] at e
      cases e
      exact World.putObj_heap_same (s.oF.lt hb)
    · simp only [e', if_false] at e
      rw [World.putObj_heap_other e']; exact s.oF k o e
/-- .. and is taken back. -/
theorem _root_.Go.Proofs.Ytmibmjehjagmbaa.Sat.unframe {w : World} {R h F G : PH} (s : Sat w R h F) {l : Nat} {x : Obj} (hb : F l = some x) (hG : G.le F) (hGl : G l = none) : Sat w R (h.un (PH.one l x)) G ∧ h.dj (PH.one l x) := by
  have hR : R l = none := (s.dRF l).resolve_right (by rw [hb]; simp)
  have hh : h l = none := (s.dhF l).resolve_right (by rw [hb]; simp)
  have d1 : h.dj (PH.one l x) := fun k => by
    by_cases e : k = l
    · subst e; exact .inl hh
    · exact .inr (if_neg e)
  refine ⟨⟨(PH.dj_un s.dRh.symm (fun k => ?_)).symm, s.dRF.le (PH.le.refl _) hG, PH.dj_un (s.dhF.le (PH.le.refl _) hG) (fun k => ?_), s.oR, fun k o e => ?_, s.oF.le hG⟩, d1⟩
  · by_cases e : k = l
    · subst e; exact .inr hR
    · exact .inl (if_neg e)
  · by_cases e : k = l
    · subst e; exact .inr hGl
    · exact .inl (if_neg e)
  · rcases PH.un_some e with e | e
    · exact s.oh k o e
    · obtain ⟨rfl, rfl⟩ := PH.one_some e; exact s.oF _ _ hb
theorem Same.putObj (w : World) (l : Nat) (o : Obj) : Same w (w.putObj l o) := ⟨rfl, rfl, rfl, by simp⟩
theorem Tm.sets {ρ : Env} : ∀ (l : List (Tmp × W)) {t : List (Option V)} {a : Act}, Tm ρ t a →
    Tm ρ (l.foldl (fun t x => t.set x.1 (some (.w x.2))) t) { a with tmps := (l.map fun x => (x.1, x.2.den ρ)).foldl (fun ts x => ts.setIfInBounds x.1 x.2) a.tmps }
  | [], _, _, h => h
  | (d, x) :: r, t, a, h => by
    have := Tm.sets r (h.put d (.w x))
    simpa [Act.put, V.den] using this
theorem zip_args {ps : Array Tmp} {pvs : List W} {ρ : Env} {ts : Array Value} : (ps.zip (pvs.map (W.den ρ)).toArray).foldl (fun tmps (x : Tmp × Value) => tmps.setIfInBounds x.1 x.2) ts = ((ps.toList.zip pvs).map fun x => (x.1, x.2.den ρ)).foldl (fun ts x => ts.setIfInBounds x.1 x.2) ts := by
  rw [← Array.foldl_toList]
  congr 1
  rw [Array.toList_zip]
  simp only
  rw [List.zip_map_right]
  exact List.map_congr_left fun x _ => rfl

/-- A loop by a relation that a measure numbers. -/
theorem wpIn_loop_num {Fr : Fence} {n' : Nat} {Q : Exit → Act → World → Prop} {c : Code} (I : Nat → Act → World → Prop)
    (round : ∀ n a w, I n a w → c.wpIn Fr n' P (Exit.then (fun a' w' => ∃ m, m < n ∧ I m a' w') Q) a w) : ∀ n a w, I n a w → (Code.loop c).wpIn Fr n' P Q a w := by
  intro n₀ a₀ w₀ h₀ b k cs hro hb hr
  have key : ∀ n a w, I n a w → ∃ e a' w', Q e a' w' ∧ ArrivesIn (Machine.fenced P Fr) P (lone (b.atR a (.code c :: .inLoop c :: k)) cs w) b k cs e a' w' := by
    intro n
    induction n using Nat.strongRecOn with
    | _ n ih =>
      intro a w hI
      obtain ⟨e, a₁, w₁, hq, harr⟩ := round n a w hI b (.inLoop c :: k) cs hro hb hr
      cases e with
      | normal =>
        obtain ⟨m, hm, hI₁⟩ := hq
        obtain ⟨e₂, a₂, w₂, hq₂, harr₂⟩ := ih m hm a₁ w₁ hI₁
        exact ⟨e₂, a₂, w₂, hq₂, .of_steps (StepsIn.trans harr (.one (fenced_calm hb hr rfl) stepR_inLoop)) harr₂⟩
      | exit id => exact ⟨_, a₁, w₁, hq, .pass (x := .inLoop c) rfl (fun _ _ => .inl (by simp)) harr⟩
      | goto l => exact ⟨_, a₁, w₁, hq, .pass (x := .inLoop c) rfl (fun _ _ => .inl (by simp)) harr⟩
      | ret => exact ⟨_, a₁, w₁, hq, .pass (x := .inLoop c) rfl (fun _ _ => .inl (by simp)) harr⟩
      | panic ch => exact ⟨_, a₁, w₁, hq, .pass (x := .inLoop c) rfl (fun _ _ => .inl (by simp)) harr⟩
      | outgrown => exact ⟨_, a₁, w₁, hq, .pass (x := .inLoop c) rfl (fun _ _ => .inl (by simp)) harr⟩
  obtain ⟨e, a', w', hq, harr⟩ := key n₀ a₀ w₀ h₀
  exact ⟨e, a', w', hq, .of_steps (.one (fenced_calm hb hr rfl) stepR_loop) harr⟩

def IH (P : Program) (cfg : Cfg) (post : Value → HP) (c : Code) : Prop := ∀ {Fr : Fence} (_ : WF Fr) {rd : Bool} (_ : rd = false → Fr = Fence.wide) {w0 : World} {F : PH} {K : Ex → S → T} {ρ : Env} {s : S} {a : Act} {w : World} {R h : PH} {L : List (Env → Prop)}, Ok ρ s a w0 w R h F → L.length = s.dp → (exec P cfg rd c s K).den P post L ρ →
    c.wpIn Fr 0 P (Reach ⟨P, post, w0, F, ρ, R, L⟩ K) a w
set_option maxHeartbeats 1000000 in
theorem range_ok {g : Operand} {ps : Array Tmp} {asg b : Code} (iha : IH P cfg post asg) (ihb : IH P cfg post b) {K : Ex → S → T} {ρ : Env} {s : S} {a : Act} {w : World} {R h : PH} {L : List (Env → Prop)} (ok : Ok ρ s a w0 w R h F) (hl : L.length = s.dp)
    {gv : A} (hgv : evA s g = some gv) (hok : (rgOf P cfg s gv).ok gv false s ps.toList = true) (hd : (let r := rgOf P cfg s gv
        T.new (.rangef gv r.c (r.hd.s.h.filter fun x => r.shk.contains x.1) r.hd.ss r.fr r.pss r.pvs r.pch
          (exec P cfg true asg (r.round ps.toList) fun x sA => match x with
            | .norm => exec P cfg true b sA fun x s2 => match x with
              | .norm =>
                let fr2 := fitS r.s1.n r.hd.s (r.endS s2)
                if okS r.s1.n r.hd.ss r.hd.s (r.endS s2) fr2 then .again (s2.dp - r.hd.s.dp) fr2 else .all (.fail (8000 + s.blk)) (.ret (.tup []) (diffH r.s1.n fr2 s2.h r.hd.s.h))
              | x => K x (r.leftS s2)
            | _ => .fail 84)
          (K .norm (r.doneS s)))).den P post L ρ) :
    (Code.rangeFunc g ps asg b).wpIn Fence.wide 0 P (Reach ⟨P, post, w0, F, ρ, R, L⟩ K) a w := by
  have wfw : WF Fence.wide := .inl rfl
  refine wpIn_rangeFunc fun fn _ => ?_
  obtain ⟨γ, Sh, Pr, may, fin, g0, I, ⟨f, caps, hgval, hfgo, htri⟩, hI0, hSh, hrnd, hfin⟩ := hd w.heap.size
  simp only [Rg.ok, Bool.not_false, Bool.true_and, Bool.and_eq_true, decide_eq_true_eq] at hok
  obtain ⟨⟨⟨⟨⟨⟨hgb, hcb0⟩, hsb⟩, hokS⟩, hhbel⟩, hpn⟩, hpl⟩ := hok
  have et : (rgOf P cfg s gv).hd.s.t = s.t := rfl
  have ek : (rgOf P cfg s gv).hd.s.kn = s.kn := rfl
  have ed : (rgOf P cfg s gv).hd.s.dp = s.dp + 1 := rfl
  have edf : (rgOf P cfg s gv).hd.s.df = [] := rfl
  have es1 : (rgOf P cfg s gv).s1 = { s with n := s.n + 1, h := (.b (.v s.n), .dfr) :: s.h, df := .v s.n :: s.df } := rfl
  have ec : (rgOf P cfg s gv).c = (rgOf P cfg s gv).s1.h.filter fun x => (reach s.h s.lk 60 (keysA gv) []).contains x.1 && !(rgOf P cfg s gv).shk.contains x.1 := rfl
  have er : (rgOf P cfg s gv).rest = (rgOf P cfg s gv).s1.h.filter fun x => !((reach s.h s.lk 60 (keysA gv) []).contains x.1 && !(rgOf P cfg s gv).shk.contains x.1) := rfl
  generalize hr : rgOf P cfg s gv = r at *
  -- the two blocks
  let d := w.heap.size
  let ρ1 : Env := ρ ++ [.n d]
  have hρ1 : ρ1.length = s.n + 1 := by simp [ρ1, ok.len]
  have k1 : Ok ρ1 { s with n := s.n + 1 } a w0 w R h F := ok.app hsb [.n d] (s.n + 1) rfl
  let rec0 : Loop := { state := .ready, pending := none, fn, tmps := a.tmps, params := ps, assign := asg, body := b, defers := d }
  let w1 := (w.alloc (.deferred (some []))).alloc (.loop rec0)
  let l := d + 1
  have el : (w.alloc (.deferred (some []))).heap.size = l := by rw [World.size_alloc]
  obtain ⟨sd, dd⟩ := ok.sat.alloc (.deferred (some []))
  have hpd : (hden ρ1 r.s1.h).p R ((PH.one d (.deferred (some []))).un h) := by
    rw [es1]
    refine (hden_cons _ _ _ _ _).2 ⟨PH.one d _, h, dd, PH.un_left _ _, PH.un_right dd, ?_, k1.hp⟩
    show (PH.one d _) (BR.den ρ1 (.v s.n)) = _
    have : BR.den ρ1 (.v s.n) = d := by simp only [BR.den, ρ1]; rw [← ok.len, look_at]; rfl
    rw [this]; exact PH.one_self _ _
  obtain ⟨sl, dl⟩ := sd.alloc (.loop rec0)
  rw [el] at sl dl
  have hcut := hden_filter (fun x => (reach s.h s.lk 60 (keysA gv) []).contains x.1 && !r.shk.contains x.1) hpd
  rw [← ec, ← er] at hcut
  have hrn : r.s1.n = s.n + 1 := by rw [es1]
  -- what a round begins with
  let Kx : γ → HP := fun g => HP.ex fun ys : Env => HP.and (sorted r.hd.ss ys ∧ Cur.app r.hd.ss (I g) ys) (HP.sep (hden (ρ1 ++ ys) (r.hd.s.h.filter fun x => !r.shk.contains x.1)) (HP.one l (.loop rec0)))
  have toK : ∀ g ys R h, sorted r.hd.ss ys → Cur.app r.hd.ss (I g) ys → (HP.sep (hden (ρ1 ++ ys) r.hd.s.h) (HP.one l (.loop rec0))).p R h → (HP.sep (Sh g) (Kx g)).p R h := fun g ys R h hso hI H => by
    have e := allP_elim (hSh g) hso
    rw [show ρ ++ [Uni.n w.heap.size] = ρ1 from rfl, List.drop_left] at e
    rw [e hI]
    exact HP.sep_mono (HP.sep_assoc (HP.sep_mono H (fun _ h => hden_filter (fun x => r.shk.contains x.1) h) fun _ h => h)) (fun _ h => h) fun _ h => ⟨ys, ⟨hso, hI⟩, h⟩
  have ofK : ∀ g R h, (HP.sep (Sh g) (Kx g)).p R h → ∃ ys, sorted r.hd.ss ys ∧ Cur.app r.hd.ss (I g) ys ∧ (HP.sep (hden (ρ1 ++ ys) r.hd.s.h) (HP.one l (.loop rec0))).p R h := fun g R h ⟨h1, h2, dj, l1, l2, hs, ys, ⟨hso, hI⟩, hk⟩ => by
    have e := allP_elim (hSh g) hso
    rw [show ρ ++ [Uni.n w.heap.size] = ρ1 from rfl, List.drop_left] at e
    rw [e hI] at hs
    exact ⟨ys, hso, hI, HP.sep_mono (HP.sep_assoc' ⟨h1, h2, dj, l1, l2, hs, hk⟩) (fun _ h => hden_unfilter (fun x => r.shk.contains x.1) h) fun _ h => h⟩
  -- what a round that leaves the loop leaves
  let Jx : HP := HP.ex fun z : (Code × Ex) × Env × S × List (Env → Prop) => HP.and ((z.1 = (.ret, .ret) ∨ ∃ id, z.1 = (.exit id, .exit id)) ∧ ρ1 <+: z.2.1 ∧ z.2.1.length = z.2.2.1.n ∧ L <:+ z.2.2.2 ∧ z.2.2.2.length = z.2.2.1.dp ∧ (∀ x ∈ z.2.2.1.kn, (x.1.den z.2.1).bool = x.2) ∧ (K z.1.2 (r.leftS z.2.2.1)).den P post z.2.2.2 z.2.1)
    (HP.sep (hden z.2.1 z.2.2.1.h) (HP.one l (.loop { rec0 with state := .done, pending := some z.1.1 })))
  have hround : ∀ g args, (∃ g', may g args g') → VTri P (.func (.yield l) #[] #[]) args (HP.sep (Pr g args) (HP.sep (Sh g) (Kx g))) (RndPost Sh Kx Jx (may g args)) := fun gg args hmay => by
    refine .inr ⟨l, rfl, fun wr Rr hr0 Fr' satr hpre => ?_⟩
    obtain ⟨ha, hb0, dab, la, lb, hPr, hSK⟩ := hpre
    obtain ⟨ys, hso, hI, hH⟩ := ofK gg Rr hb0 hSK
    have hrr := allP_elim (hrnd gg args hmay) hso
    rw [show ρ ++ [Uni.n w.heap.size] = ρ1 from rfl, List.drop_left] at hrr
    obtain ⟨zs, hzl, hargs, hent, hden2⟩ := exP_elim (hrr hI)
    obtain ⟨R2, h2, q1, q2, q3, q4, hS⟩ := hent.sep (HP.sep (hden (ρ1 ++ ys) r.hd.s.h) (HP.one l (.loop rec0))) Rr hr0 satr.dRh ⟨ha, hb0, dab, la, lb, hPr, hH⟩
    have satr2 := satr.ent q2 q3 q4
    obtain ⟨hx, hlr, dx, lx, llr, hPH, hone⟩ := HP.sep_assoc' hS
    have sat3 := satr2.cut dx lx llr
    have hdjF : hlr.dj Fr' := satr2.dhF.le llr (PH.le.refl _)
    have hone' : hlr l = some (.loop rec0) := hone
    have hFl : (hlr.un Fr') l = some (.loop rec0) := PH.un_left _ _ _ _ hone'
    have hFr'l : Fr' l = none := (hdjF l).resolve_left (by rw [hone']; simp)
    have hleF : Fr'.le (hlr.un Fr') := PH.un_right hdjF
    have hheap : wr.heap[l]? = some (.loop rec0) := sat3.oF _ _ hFl
    have hsz : args.size = rec0.params.size := by
      rw [hargs]; simp [rec0, hpl]
    refine ⟨_, _, _, _, run_yield hheap hsz, ?_⟩
    refine roundIn_of_wpIn trivial ?_
    have hys : (ρ1 ++ ys).length = r.hd.s.n := by
      rw [List.length_append, hρ1, sorted_len hso, (okS_so hokS ρ1).2.2, hrn]
    have hbs := hsb
    simp only [S.bel, Bool.and_eq_true] at hbs
    have okh : Ok (ρ1 ++ ys) r.hd.s { tmps := a.tmps, defers := [] } wr wr R2 hx (hlr.un Fr') := by
      have tmb : (s.t.all fun | some v => v.bel ρ.length | none => true) = true := by rw [ok.len]; exact hbs.1.1.1
      refine ⟨by rw [edf]; rfl, ?_, hys, fun x hx => ?_, ?_, sat3, Same.refl _⟩
      · rw [et]
        have := ok.tm.app tmb ([.n d] ++ ys)
        rw [← List.append_assoc] at this
        exact ⟨this.1, this.2⟩
      · rw [ek] at hx
        have hb := List.all_eq_true.1 hbs.2 x hx
        rw [← ok.len] at hb
        have : (x.1.den (ρ ++ ([.n d] ++ ys))).bool = x.2 := by rw [E.app hb]; exact ok.kn x hx
        rwa [← List.append_assoc] at this
      · exact HP.sep_right hPH
    have okz := okh.app hhbel zs r.pn (hpn.trans (by rw [hzl]))
    have okr : Ok (ρ1 ++ ys ++ zs) (r.round ps.toList) { tmps := (rec0.params.zip args).foldl (fun tmps x => tmps.setIfInBounds x.1 x.2) rec0.tmps, defers := [] } wr wr R2 hx (hlr.un Fr') := by
      refine ⟨okz.dfr, ?_, okz.len, okz.kn, ?_, sat3, Same.refl _⟩
      · rw [hargs, zip_args]
        exact Tm.sets (ps.toList.zip r.pvs) okz.tm
      · refine hden_app2.2 (HP.sep_mono hPH (fun _ h => h) fun y hy => ?_)
        have hb := hhbel
        simp only [S.bel, Bool.and_eq_true] at hb
        have hb2 : hbel (ρ1 ++ ys).length r.hd.s.h = true := by rw [hys]; exact hb.1.1.2
        rw [hden_app hb2]; exact hy
    refine wpIn_mono (iha (Fr := Fence.wide.inRound l) (.inr ⟨l, rfl⟩) (rd := true) (fun h => by cases h) okr (by show _ = r.hd.s.dp; rw [ed, List.length_cons, hl]) hden2) fun e a1 w3 rr => ?_
    cases e with
    | normal =>
      obtain ⟨ρ3, s3, R3, h3, L3, p1, p2, p3, p4, p5, p6⟩ := rr
      simp only at p1 p2 p3 p4 p5 p6
      refine ⟨_, run_beginRound (p5.sat.oF _ _ hFl) rfl, ?_⟩
      have sat4 := p5.sat.turnF hFl (.loop { rec0 with state := .busy })
      have ok4 : Ok ρ3 s3 a1 wr (w3.putObj l (.loop { rec0 with state := .busy })) R3 h3 _ := ⟨p5.dfr, p5.tm, p5.len, p5.kn, p5.hp, sat4, p5.same.trans (Same.putObj _ _ _)⟩
      have hF4 : ∀ y : Obj, (fun k => if k = l then some y else (hlr.un Fr') k) l = some y := fun y => if_pos rfl
      have hle4 : ∀ y : Obj, Fr'.le (fun k => if k = l then some y else (hlr.un Fr') k) := fun y k o e => by
        by_cases ek : k = l
        · subst ek; rw [hFr'l] at e; cases e
        · simp only [ek, if_false]; exact hleF k o e
      refine wpIn_mono (ihb (Fr := Fence.wide.inRound l) (.inr ⟨l, rfl⟩) (rd := true) (fun h => by cases h) ok4 p4 p6) fun e a2 w5 rr => ?_
      have back : ∀ {ρ5 s5 R5 h5}, Ok ρ5 s5 a2 wr w5 R5 h5 (fun k => if k = l then some (.loop { rec0 with state := .busy }) else (hlr.un Fr') k) → ∀ y : Obj, Sat (w5.putObj l y) R5 (h5.un (PH.one l y)) Fr' ∧ h5.dj (PH.one l y) := fun ok5 y => by
        have := ok5.sat.turnF (hF4 _) y
        refine this.unframe (if_pos rfl) (fun k o e => ?_) hFr'l
        by_cases ek : k = l
        · subst ek; rw [hFr'l] at e; cases e
        · simp only [ek, if_false]; exact hleF k o e
      cases e with
      | normal =>
        obtain ⟨ρ5, s5, R5, h5, L5, q1', q2', q3', q4', q5', q6'⟩ := rr
        simp only at q1' q2' q3' q4' q5' q6'
        split at q6'
        · rename_i hc2
          refine ⟨_, _, run_endRound none (q5'.sat.oF _ _ (hF4 _)), ?_⟩
          obtain ⟨sat6, d6⟩ := back q5' (.loop { ({ rec0 with state := .busy } : Loop) with state := if (none : Option Code).isNone then .ready else .done, pending := none })
          refine ⟨_, rfl, q5'.same.trans (Same.putObj _ _ _), R5, _, q1.trans (p2.trans q2'), sat6, ?_⟩
          obtain ⟨pre, hpre⟩ := p3.trans q3'
          have hlen : s5.dp - r.hd.s.dp = pre.length := by
            have : L5.length = pre.length + (L.length + 1) := by rw [← hpre]; simp
            rw [ed]; omega
          have hget : L5[s5.dp - r.hd.s.dp]? = some (fun ys => ∃ g', may gg args g' ∧ Cur.app r.hd.ss (I g') ys) := by
            rw [hlen, ← hpre, List.getElem?_append_right (Nat.le_refl _), Nat.sub_self]; rfl
          simp only [T.den, hget] at q6'
          obtain ⟨g', hmay', hI'⟩ := q6'
          have p15 : ρ1 <+: ρ5 := List.IsPrefix.trans (show ρ1 <+: ρ1 ++ ys ++ zs from ⟨ys ++ zs, (List.append_assoc ..).symm⟩) (p1.trans q1')
          refine ⟨true, rfl, g', hmay', toK g' _ _ _ (okS_so hc2 ρ5).1 hI' ⟨h5, PH.one l _, d6, PH.un_left _ _, PH.un_right d6, ?_, ?_⟩⟩
          · exact okS_hp (hρ1.trans hrn.symm) hc2 p15 q5'.hp
          · exact PH.one_self _ _
        · exact q6'.1.elim
      | ret =>
        obtain ⟨ρ5, s5, R5, h5, L5, q1', q2', q3', q4', q5', q6'⟩ := rr
        simp only at q1' q2' q3' q4' q5' q6'
        refine ⟨_, _, run_endRound (some .ret) (q5'.sat.oF _ _ (hF4 _)), ?_⟩
        obtain ⟨sat6, d6⟩ := back q5' (.loop { ({ rec0 with state := .busy } : Loop) with state := if (some Code.ret : Option Code).isNone then .ready else .done, pending := some .ret })
        have p15 : ρ1 <+: ρ5 := List.IsPrefix.trans (show ρ1 <+: ρ1 ++ ys ++ zs from ⟨ys ++ zs, (List.append_assoc ..).symm⟩) (p1.trans q1')
        refine ⟨_, rfl, q5'.same.trans (Same.putObj _ _ _), R5, _, q1.trans (p2.trans q2'), sat6, false, rfl, ((.ret, .ret), ρ5, s5, L5), ⟨.inl rfl, p15, q5'.len, (List.suffix_cons _ _).trans (p3.trans q3'), q4', q5'.kn, q6'⟩, h5, PH.one l _, d6, PH.un_left _ _, PH.un_right d6, q5'.hp, PH.one_self _ _⟩
      | exit id =>
        obtain ⟨ρ5, s5, R5, h5, L5, q1', q2', q3', q4', q5', q6'⟩ := rr
        simp only at q1' q2' q3' q4' q5' q6'
        refine ⟨_, _, run_endRound (some (.exit id)) (q5'.sat.oF _ _ (hF4 _)), ?_⟩
        obtain ⟨sat6, d6⟩ := back q5' (.loop { ({ rec0 with state := .busy } : Loop) with state := if (some (Code.exit id) : Option Code).isNone then .ready else .done, pending := some (.exit id) })
        have p15 : ρ1 <+: ρ5 := List.IsPrefix.trans (show ρ1 <+: ρ1 ++ ys ++ zs from ⟨ys ++ zs, (List.append_assoc ..).symm⟩) (p1.trans q1')
        refine ⟨_, rfl, q5'.same.trans (Same.putObj _ _ _), R5, _, q1.trans (p2.trans q2'), sat6, false, rfl, ((.exit id, .exit id), ρ5, s5, L5), ⟨.inr ⟨id, rfl⟩, p15, q5'.len, (List.suffix_cons _ _).trans (p3.trans q3'), q4', q5'.kn, q6'⟩, h5, PH.one l _, d6, PH.un_left _ _, PH.un_right d6, q5'.hp, PH.one_self _ _⟩
      | goto t => exact rr.elim
      | panic c => exact rr.elim
      | outgrown => exact rr.elim
    | ret => obtain ⟨ρ3, s3, R3, h3, L3, p1, p2, p3, p4, p5, p6⟩ := rr; exact p6.elim
    | exit id => obtain ⟨ρ3, s3, R3, h3, L3, p1, p2, p3, p4, p5, p6⟩ := rr; exact p6.elim
    | goto t => exact rr.elim
    | panic c => exact rr.elim
    | outgrown => exact rr.elim
  -- the call
  have hpre : (HP.sep (hden ρ1 r.c) (HP.sep (Sh g0) (Kx g0))).p R ((PH.one l (.loop rec0)).un ((PH.one d (.deferred (some []))).un h)) := by
    have H0 : (HP.sep (HP.one l (.loop rec0)) (HP.sep (hden ρ1 r.c) (hden ρ1 r.rest))).p R ((PH.one l (.loop rec0)).un ((PH.one d (.deferred (some []))).un h)) :=
      ⟨PH.one l _, _, dl, PH.un_left _ _, PH.un_right dl, PH.one_self _ _, hcut⟩
    refine HP.sep_mono (HP.sep_assoc (HP.sep_comm H0)) (fun _ h => h) fun y hy => ?_
    exact toK g0 (r.fr.map (FV.den ρ1)) R y (okS_so hokS ρ1).1 hI0 (HP.sep_mono hy (fun _ h => okS_hp (s := r.start) (hρ1.trans hrn.symm) hokS (List.prefix_refl _) h) fun _ h => h)
  have hfn := hfgo
  obtain ⟨fnn, hfn1, hfn2, hfn3⟩ := hfn
  refine ⟨l, [{ target := .collected d, args := #[] }], w1, { target := .fn (.func f) caps, args := #[.func (.yield l) #[] #[]] }, w1, f, #[.func (.yield l) #[] #[]] ++ caps, w1, ?_, ?_, fun _ _ => trivial, ?_, wfw.dep, ?_⟩
  · exact run_enterLoop_outer fn a.tmps ps asg b
  · have hgd : a.eval g = .func (.func f) #[] caps := by
      rw [evA_den ok.tm hgv]
      rw [← ok.len] at hgb
      rw [← A.app hgb [.n d]]
      exact hgval
    simp only [resolve, rangeCall, hgd, Sem.run_bind, Deferred.ofValue, Sem.run_pure, Result.andThen_ok]
    simp [Act.eval]
  · simp only [invoke, callFunc, program, Sem.run_bind, Sem.run, Result.andThen_ok, hfn1, hfn3, hfn2, Bool.false_eq_true, if_false]
    rfl
  refine wfw.calls ((htri l Kx Jx hround w1 R _ F sl hpre).mono fun e w' ⟨v, he, sm, R', h', lR, sat', hpost⟩ => ?_)
  subst he
  have same' : Same w0 w' := ok.same.trans ((Same.alloc w _).trans ((Same.alloc _ _).trans sm))
  have hdfr : ∀ x : Env, ({ a with defers := [({ target := .collected d, args := #[] } : Deferred)] ++ a.defers } : Act).defers = r.s1.df.map (markOf (ρ1 ++ x)) := fun x => by
    rw [es1]
    simp only [List.map_cons, List.cons_append, List.nil_append]
    have e1 : markOf (ρ1 ++ x) (.v s.n) = { target := .collected d, args := #[] } := by
      simp only [markOf, BR.den, ρ1, List.append_assoc, List.cons_append, List.nil_append]
      rw [← ok.len, look_at]; rfl
    rw [e1, k1.dfr]
    congr 1
    have hb := hsb
    simp only [S.bel, Bool.and_eq_true] at hb
    exact List.map_congr_left fun q hq => by
      have := List.all_eq_true.1 hb.1.2 q hq
      rw [← ok.len] at this
      unfold markOf
      simp only [ρ1, List.append_assoc]
      rw [BR.app this, BR.app this]
  have htm : ∀ x : Env, Tm (ρ1 ++ x) s.t { a with defers := [({ target := .collected d, args := #[] } : Deferred)] ++ a.defers } := fun x => by
    have hb := hsb
    simp only [S.bel, Bool.and_eq_true] at hb
    have tmb : (s.t.all fun | some v => v.bel ρ.length | none => true) = true := by rw [ok.len]; exact hb.1.1.1
    have := ok.tm.app tmb ([.n d] ++ x)
    rw [← List.append_assoc] at this
    exact ⟨this.1, this.2⟩
  have hcb : ∀ x : Env, hden (ρ1 ++ x) r.c = hden ρ1 r.c := fun x => hden_app (by rw [hρ1, ← hrn]; exact hcb0) x
  obtain ⟨hc, hs, dcs, lc, ls, hC, o, ho⟩ := hpost
  -- the record is let go
  have drop : ∀ {A : HP} {o2 : Loop} {R2}, (HP.sep A (HP.one l (.loop o2))).p R' hs → R2 = R' → ∀ y, ∃ hA, A.p R' hA ∧ w'.heap[l]? = some (.loop o2) ∧ Sat (w'.putObj l y) R' (hc.un hA) F ∧ hc.dj hA := fun H _ y => by
    obtain ⟨hA, hL, dA, lA, lL, pA, pL⟩ := H
    have hLl : hL l = some (.loop _) := pL
    have hin : h' l = some (.loop _) := ls _ _ (lL _ _ hLl)
    have hcl : hc l = none := (dcs l).resolve_right (by rw [lL _ _ hLl]; simp)
    have hAl : hA l = none := (dA l).resolve_right (by rw [hLl]; simp)
    have heap := sat'.oh _ _ hin
    refine ⟨hA, pA, heap, ?_, dcs.le (PH.le.refl _) lA⟩
    have t := sat'.turn (w' := w'.putObj l y) (y := y) hin (fun k hk => World.putObj_heap_other hk) (World.putObj_heap_same (sat'.oh.lt hin))
    have le : (hc.un hA).le (fun k => if k = l then some y else h' k) := fun k o e => by
      by_cases ek : k = l
      · subst ek
        rcases PH.un_some e with e | e
        · rw [hcl] at e; cases e
        · rw [hAl] at e; cases e
      · simp only [ek, if_false]
        rcases PH.un_some e with e | e
        · exact lc _ _ e
        · exact ls _ _ (lA _ _ e)
    exact ⟨t.dRh.le (PH.le.refl _) le, t.dRF, t.dhF.le le (PH.le.refl _), t.oR, t.oh.le le, t.oF⟩
  cases o with
  | some gg =>
    obtain ⟨hf, hSK⟩ := ho
    obtain ⟨ys, hso, hI, hH⟩ := ofK gg R' hs hSK
    obtain ⟨hA, pA, heap, sat2, dA⟩ := drop hH rfl (.loop { rec0 with state := .exhausted })
    refine ⟨none, _, run_endLoop heap (by simp [rec0]), ?_⟩
    have hden3 := allP_elim (hfin gg hf) hso
    rw [show ρ ++ [Uni.n w.heap.size] = ρ1 from rfl, List.drop_left] at hden3
    have hys : (ρ1 ++ ys).length = r.hd.s.n := by
      rw [List.length_append, hρ1, sorted_len hso, (okS_so hokS ρ1).2.2, hrn]
    refine ⟨ρ1 ++ ys, r.doneS s, R', _, L, (List.prefix_append ρ _).trans (List.prefix_append _ _), lR, List.suffix_refl _, hl, ⟨hdfr ys, by show Tm _ r.hd.s.t _; rw [et]; exact htm ys, hys, fun x hx => ?_, ?_, sat2, same'.trans (Same.putObj _ _ _)⟩, hden3 hI⟩
    · have hx' : x ∈ s.kn := by rw [← ek]; exact hx
      have hb := hsb
      simp only [S.bel, Bool.and_eq_true] at hb
      have hb := List.all_eq_true.1 hb.2 x hx'
      rw [← ok.len] at hb
      simp only [ρ1, List.append_assoc]
      rw [E.app hb]; exact ok.kn x hx'
    · refine hden_app2.2 ⟨hc, hA, dA, PH.un_left _ _, PH.un_right dA, ?_, pA⟩
      rw [hcb]; exact hC
  | none =>
    obtain ⟨⟨⟨code, x⟩, ρ5, s5, L5⟩, ⟨hj, p15, q5len, q3, q4, q5kn, q6⟩, hH⟩ := ho
    simp only at hj p15 q5len q3 q4 q5kn q6 hH
    obtain ⟨hA, pA, heap, sat2, dA⟩ := drop hH rfl (.loop { rec0 with state := .exhausted, pending := some code })
    refine ⟨some code, _, run_endLoop heap (by simp [rec0]), ?_⟩
    obtain ⟨z5, hz5⟩ := p15
    have okl : Ok ρ5 (r.leftS s5) { a with defers := [({ target := .collected d, args := #[] } : Deferred)] ++ a.defers } w0 (w'.putObj l (.loop { rec0 with state := .exhausted, pending := some code })) R' (hc.un hA) F := by
      refine ⟨by rw [← hz5]; exact hdfr z5, by show Tm ρ5 r.s1.t _; rw [es1, ← hz5]; exact htm z5, q5len, q5kn, hden_app2.2 ⟨hc, hA, dA, PH.un_left _ _, PH.un_right dA, by rw [← hz5, hcb]; exact hC, pA⟩, sat2, same'.trans (Same.putObj _ _ _)⟩
    rcases hj with ⟨⟨⟩⟩ | ⟨id, ⟨⟨⟩⟩⟩
    · exact wpIn_ret ⟨ρ5, r.leftS s5, R', _, L5, (List.prefix_append ρ _).trans ⟨z5, hz5⟩, lR, q3, q4, okl, q6⟩
    · exact wpIn_exit ⟨ρ5, r.leftS s5, R', _, L5, (List.prefix_append ρ _).trans ⟨z5, hz5⟩, lR, q3, q4, okl, q6⟩
theorem exec_ok (hm : P.follows .mixedOrders = true) : ∀ (c : Code), IH P cfg post c := by
  intro c
  induction c with
  | skip => intro Fr wf rd hrd w0 F K ρ s a w R h L ok hl hd; exact wpIn_skip (Nx.mk ok hl hd)
  | exit id => intro Fr wf rd hrd w0 F K ρ s a w R h L ok hl hd; exact wpIn_exit (Nx.mk ok hl hd)
  | ret => intro Fr wf rd hrd w0 F K ρ s a w R h L ok hl hd; exact wpIn_ret (Nx.mk ok hl hd)
  | region id ops draw =>
    intro Fr wf rd hrd w0 F K ρ s a w R h L ok hl hd
    cases draw with
    | false =>
      simp only [exec] at hd
      split at hd
      · rename_i hc
        exact wpIn_region_list (runL_ok wf (K := fun s => K .norm s) ops.toList (fun o ho => Array.all_eq_true_iff_forall_mem.1 hc o (by simpa using ho)) ok hl hd fun a w n => n)
      · exact hd.elim
    | true =>
      simp only [exec] at hd
      split at hd
      · rename_i hc
        simp only [Bool.and_eq_true] at hc
        have ok' : Ok ρ s a w0 { w with drawn := w.drawn + 1 } R h F := ⟨ok.dfr, ok.tm, ok.len, ok.kn, ok.hp, ok.sat.drew _, ok.same.trans (Same.drew w _)⟩
        exact wpIn_region_any hm (wpAny_in wf (fun o ho => Array.all_eq_true_iff_forall_mem.1 hc.2 o ho) (fun a w h => h) _ _ _ _ (wpAnyL_any _ _ _ _ (runD_ok (K := fun s => K .norm s) (ρ0 := ρ) hc.1.1.1 (by rw [ok.len]; exact hc.1.1.2) hc.1.2 (fun c a w h => h) ops.size (List.prefix_refl _) (fun x hx => (List.mem_filter.1 hx).1) ok' hl hd fun a w n => n)))
      · exact hd.elim
  | seq x y ihx ihy =>
    intro Fr wf rd hrd w0 F K ρ s a w R h L ok hl hd
    refine wpIn_seq (wpIn_mono (ihx wf hrd ok hl hd) fun e a' w' r => ?_)
    cases e <;> try (first | exact r | exact r.elim)
    obtain ⟨ρ', s', R', h', L', p1, p2, p3, p4, p5, p6⟩ := r
    exact wpIn_mono (ihy wf hrd p5 p4 p6) fun e a'' w'' r => r.up p1 p2 p3
  | cond c x y ihx ihy =>
    intro Fr wf rd hrd w0 F K ρ s a w R h L ok hl hd
    simp only [exec] at hd
    split at hd
    · rename_i e he
      obtain ⟨kn, ok', hh⟩ := brE_ok ok hd
      have hc := evA_den ok.tm he
      refine wpIn_cond (t := (e.den ρ).bool) hc ?_
      rcases hh with ⟨hb, hh⟩ | ⟨hb, hh⟩
      · rw [hb]; exact ihx wf hrd ok' hl hh
      · rw [hb]; exact ihy wf hrd ok' hl hh
    · exact hd.elim
  | block id b ih =>
    intro Fr wf rd hrd w0 F K ρ s a w R h L ok hl hd
    have ok' : Ok ρ { s with blk := id } a w0 w R h F := ⟨ok.dfr, ok.tm, ok.len, ok.kn, ok.hp, ok.sat, ok.same⟩
    refine wpIn_block (wpIn_mono (ih wf hrd ok' hl hd) fun e a' w' r => ?_)
    cases e <;> try (first | exact r | exact r.elim)
    rename_i i
    obtain ⟨ρ', s', R', h', L', p1, p2, p3, p4, p5, p6⟩ := r
    simp only [Exit.inBlock]
    simp only at p6
    split at p6
    · rename_i hi
      rw [if_pos hi]
      exact ⟨ρ', s', R', h', L', p1, p2, p3, p4, p5, p6⟩
    · rename_i hi
      rw [if_neg hi]
      exact ⟨ρ', s', R', h', L', p1, p2, p3, p4, p5, p6⟩
  | loop b ih =>
    intro Fr wf rd hrd w0 F K ρ s a w R h L ok hl hd
    simp only [exec] at hd
    split at hd
    · rename_i hc
      simp only [Bool.and_eq_true, decide_eq_true_eq] at hc
      obtain ⟨⟨⟨hc, hbel⟩, hkn0⟩, hdp⟩ := hc
      obtain ⟨I, μ, hI0, hall⟩ := hd
      have hss : sorted (headOf cfg b s).ss ((fitS s.n (headOf cfg b s).s s).map (FV.den ρ)) := (okS_so hc ρ).1
      have hkn : ∀ x ∈ (headOf cfg b s).s.kn, (x.1.den ρ).bool = x.2 := by rw [hkn0]; exact ok.kn
      refine wpIn_loop_num (fun n a w => ∃ xs R' h', R.le R' ∧ sorted (headOf cfg b s).ss xs ∧ Cur.app _ I xs ∧ Cur.app _ μ xs = n ∧ Ok (ρ ++ xs) (headOf cfg b s).s a w0 w R' h' F) ?_ _ a w
        ⟨_, R, h, PH.le.refl _, hss, hI0, rfl, okS_ok ok.len hc (List.prefix_refl _) ok hkn⟩
      rintro n a w ⟨xs, R', h', lR, hso, hI, rfl, ok1⟩
      have hb := allP_elim hall hso
      rw [List.drop_left] at hb
      have hb := hb hI
      refine wpIn_mono (ih wf hrd ok1 (by simp [hdp, hl]) hb) fun e a' w' r => ?_
      cases e <;> try (first | exact Nx.up (List.prefix_append ρ xs) lR (List.suffix_cons _ _) r | exact r.elim)
      obtain ⟨ρ', s', R'', h'', L', p1, p2, p3, p4, p5, p6⟩ := r
      simp only at p6
      split at p6
      · rename_i hc2
        have p1' := (List.prefix_append ρ xs).trans p1
        have hso2 : sorted (headOf cfg b s).ss ((fitS s.n (headOf cfg b s).s s').map (FV.den ρ')) := (okS_so hc2 ρ').1
        obtain ⟨pre, rfl⟩ := p3
        simp only at p4 p6
        rw [List.length_append, List.length_cons] at p4
        have hd' : s'.dp - (headOf cfg b s).s.dp = pre.length := by rw [hdp]; omega
        simp only [T.den, hd', List.getElem?_append_right (Nat.le_refl _), Nat.sub_self, List.getElem?_cons_zero] at p6
        exact ⟨_, p6.2, (fitS s.n (headOf cfg b s).s s').map (FV.den ρ'), R'', h'', lR.trans p2, hso2, p6.1, rfl, okS_ok ok.len hc2 p1' p5 hkn⟩
      · exact p6.1.elim
    · exact hd.elim
  | rangeFunc g ps asg b iha ihb =>
    intro Fr wf rd hrd w0 F K ρ s a w R h L ok hl hd
    simp only [exec] at hd
    split at hd
    · exact hd.elim
    rename_i gv hgv
    split at hd
    · rename_i hok
      have hf : rd = false := by cases rd with | false => rfl | true => simp [Rg.ok] at hok
      subst hf
      rw [hrd rfl]
      exact range_ok iha ihb ok hl hgv hok hd
    · exact hd.1.elim
  | _ => intro Fr wf rd hrd w0 F K ρ s a w R h L ok hl hd; exact hd.elim

def resSem (tmps : Array Value) : ResultVar → Sem Value
  | .tmp t => pure (tmps.getD t undef)
  | .cell a t => do loadVar t (← asAddr (tmps.getD a undef))
theorem resOf_run {ρ : Env} {s : S} {a : Act} {w : World} {R h : PH} (ok : Ok ρ s a w0 w R h F) {r : ResultVar} {x : W} (e : resOf P s r = some x) : (resSem a.tmps r).run P w = .ok (x.den ρ) w := by
  cases r with
  | tmp t =>
    simp only [resOf] at e
    split at e
    · rename_i y hy
      cases e
      have := ev_den ok.tm hy
      simp only [Act.eval] at this
      simp only [resSem, this, Sem.run_pure, V.den]
    · cases e
  | cell ad t =>
    simp only [resOf] at e
    split at e
    · rename_i r off hx
      split at e
      · rename_i l ty hf
        have := evA_den ok.tm hx
        simp only [Act.eval] at this
        have h1 := run_loadAt (P := P) ok.sat (cden_cells (hden_mem (findC_mem hf) ok.hp)) e
        simp only [Instr.loadAt, Instr.sureAddr, Sem.run_bind, Sem.run_pure, Result.andThen_ok] at h1
        simp only [resSem, this, A.den, asAddr, Sem.run_bind, Sem.run_pure, Result.andThen_ok, h1]
      · cases e
    · cases e
theorem run_mapM_res {ρ : Env} {s : S} {a : Act} {w : World} {R h : PH} (ok : Ok ρ s a w0 w R h F) : ∀ {l : List ResultVar} {m : List W}, mapM' (resOf P s) l = some m →
    (l.mapM (resSem a.tmps)).run P w = .ok (m.map (W.den ρ)) w
  | [], m, e => by cases e; rfl
  | x :: r, m, e => by
    simp only [mapM'] at e
    split at e
    · rename_i y hy
      split at e
      · rename_i q hq
        cases e
        rw [List.mapM_cons, Sem.run_bind, resOf_run ok hy]
        simp only [Result.andThen_ok, Sem.run_bind, run_mapM_res ok hq, Sem.run_pure, List.map_cons]
      · cases e
    · cases e
theorem results_eq (fn : Func) (tmps : Array Value) : results fn tmps = (do
    let vs ← fn.results.mapM (resSem tmps)
    pure (if h : vs.size = 1 then vs[0] else .tuple vs)) := by
  unfold results
  congr 1
theorem leave_ok {fn : Func} {ρ : Env} {s : S} {a : Act} {w : World} {R h : PH} {L : List (Env → Prop)} (ok : Ok ρ s a w0 w R h F) {ks : List Key} (hd : (leave P fn ks s).den P post L ρ) :
    ∃ v, (results fn a.tmps).run P w = .ok v w ∧ HP.ent (hden ρ s.h) (post v) := by
  have hlv : ∀ v : V, (leaveV v ks s).den P post L ρ → HP.ent (hden ρ s.h) (post (v.den ρ)) := fun v hv => by
    unfold leaveV at hv
    simp only at hv
    split at hv
    · rename_i hc
      exact (HP.ent.of fun _ _ H => subH_den hc H).trans hv
    · exact hv.elim
  unfold leave at hd
  have hres : ∀ m, mapM' (resOf P s) fn.results.toList = some m → (results fn a.tmps).run P w = .ok (if h : (m.map (W.den ρ)).toArray.size = 1 then (m.map (W.den ρ)).toArray[0] else .tuple (m.map (W.den ρ)).toArray) w := fun m hm => by
    have h1 := run_mapM_res (P := P) ok hm
    rw [results_eq, Array.mapM_eq_mapM_toList, Sem.run_bind]
    have h2 : (List.toArray <$> List.mapM (resSem a.tmps) fn.results.toList : Sem (Array Value)).run P w = .ok (m.map (W.den ρ)).toArray w := by
      show (List.mapM (resSem a.tmps) fn.results.toList >>= fun l => pure l.toArray : Sem (Array Value)).run P w = _
      rw [Sem.run_bind, h1]; rfl
    rw [h2]
    rfl
  split at hd
  · rename_i x hm
    exact ⟨_, hres _ hm, hlv _ hd⟩
  · rename_i m hx hm
    refine ⟨_, hres _ hm, ?_⟩
    have hne : ¬ (m.map (W.den ρ)).toArray.size = 1 := fun e => by
      simp only [List.size_toArray, List.length_map] at e
      obtain ⟨y, rfl⟩ := List.length_eq_one_iff.1 e
      exact hx y rfl
    rw [dif_neg hne]
    exact hlv _ hd
  · exact hd.elim

theorem leaves_marks {fn : Func} {tmps : Array Value} {Rp : Ending → World → Prop} {ρ : Env} {R F : PH} : ∀ (df : List BR) {hp : Hp} {w : World} {h : PH}, nodupR df = true → (df.all fun r => hp.contains (.b r, .dfr)) = true → Sat w R h F → (hden ρ hp).p R h →
    (∀ w' h', Same w w' → Sat w' R h' F → (hden ρ (hp.filter fun x => !isDf df x)).p R h' → ∃ v, (results fn tmps).run P w' = .ok v w' ∧ Rp (.returned v) w') → LeavesInM Fence.wide 0 P fn tmps Rp (df.map (markOf ρ)) .returning w
  | [], hp, w, h, _, _, s, p, hf => by
    obtain ⟨v, h1, h2⟩ := hf w h (Same.refl w) s (by rw [List.filter_eq_self.2 (fun _ _ => by simp [isDf])]; exact p)
    exact ⟨v, h1, h2⟩
  | r :: rest, hp, w, h, hn, ha, s, p, hf => by
    simp only [nodupR, Bool.and_eq_true, Bool.not_eq_true', List.all_cons] at hn ha
    have hmem : (Key.b r, C.dfr) ∈ hp := by simpa using ha.1
    obtain ⟨h1, h2, d, l1, l2, p1, p2⟩ := hden_filter (fun x => decide (x = (Key.b r, C.dfr))) p
    have hc : h1 (r.den ρ) = some (.deferred (some [])) := hden_mem (x := (Key.b r, C.dfr)) (List.mem_filter.2 ⟨hmem, by simp⟩) p1
    have hh : h (r.den ρ) = some (.deferred (some [])) := l1 _ _ hc
    have h2n : h2 (r.den ρ) = none := (d _).resolve_left (by rw [hc]; simp)
    have t := s.turn (w' := w.putObj (r.den ρ) (.deferred none)) (y := .deferred none) hh (fun k hk => World.putObj_heap_other hk) (World.putObj_heap_same (s.oh.lt hh))
    have le : h2.le (fun k => if k = r.den ρ then some (.deferred none) else h k) := fun k o e => by
      by_cases ek : k = r.den ρ
      · subst ek; rw [h2n] at e; cases e
      · simp only [ek, if_false]; exact l2 _ _ e
    have s2 : Sat (w.putObj (r.den ρ) (.deferred none)) R h2 F := ⟨t.dRh.le (PH.le.refl _) le, t.dRF, t.dhF.le le (PH.le.refl _), t.oR, t.oh.le le, t.oF⟩
    refine ⟨by simp, .inl ⟨r.den ρ, _, rfl, run_takeDeferred (s.oh _ _ hh), leaves_marks rest hn.2 ?_ s2 p2 fun w' h' sm s3 p3 => hf w' h' ((Same.putObj _ _ _).trans sm) s3 ?_⟩⟩
    · refine List.all_eq_true.2 fun q hq => ?_
      have hne : q ≠ r := fun e => by subst e; simp at hn; exact hn.1 hq
      have := List.all_eq_true.1 ha.2 q hq
      simp only [List.contains_eq_mem, decide_eq_true_eq] at this ⊢
      exact List.mem_filter.2 ⟨this, by simp [hne]⟩
    · rw [List.filter_filter] at p3
      have e : (fun x => !isDf (r :: rest) x) = fun x : Key × C => (!isDf rest x && !decide (x = (Key.b r, C.dfr))) := funext fun x => by
        simp only [isDf, List.any_cons, Bool.not_or, Bool.and_comm]
      rw [e]
      exact p3

/-- **A tree that is shown is a contract.** -/
theorem tri_of_tree (hm : P.follows .mixedOrders = true) {f : FuncId} {fn : Func} (hf : P.funcs[f]? = some fn) {args : List W} {h0 : Hp} {ρ : Env} {t : T} (ht : tree P cfg fn args h0 ρ.length = t) (hd : t.den P post [] ρ) :
    Tri P f (args.map (W.den ρ)).toArray (hden ρ h0) post := by
  intro w R h F s hp
  subst ht
  unfold tree at hd
  split at hd
  · rename_i c hc
    refine (callsIn_wide (n := 0)).1 (callsIn_of_wp_marks hf hc trivial ?_)
    have hargs : ∀ (i : Nat) (v : V), (args.map (fun w => some (V.w w)) ++ List.replicate (fn.ntmps - args.length) (some (V.tup [])))[i]? = some (some v) →
        ((args.map (W.den ρ)).toArray ++ Array.replicate (fn.ntmps - (args.map (W.den ρ)).toArray.size) undef)[i]? = some (v.den ρ) := fun i v hi => by
      rw [List.getElem?_append] at hi
      rw [Array.getElem?_append]
      simp only [List.length_map, List.size_toArray] at hi ⊢
      split at hi
      · rename_i hlt
        rw [if_pos hlt]
        simp only [List.getElem?_map, Option.map_eq_some_iff, Option.some.injEq] at hi
        obtain ⟨x, hx, rfl⟩ := hi
        simp [hx, V.den]
      · rename_i hlt
        rw [if_neg hlt]
        rw [List.getElem?_replicate] at hi
        rw [Array.getElem?_replicate]
        split at hi
        · rename_i hlt2
          rw [if_pos hlt2]
          simp only [Option.some.injEq] at hi
          subst hi
          rfl
        · cases hi
    have ok : Ok ρ ⟨args.map (fun w => some (.w w)) ++ List.replicate (fn.ntmps - args.length) (some (.tup [])), h0, ρ.length, [], [], 0, 0, []⟩ { tmps := (args.map (W.den ρ)).toArray ++ Array.replicate (fn.ntmps - (args.map (W.den ρ)).toArray.size) undef, defers := [] } w w R h F :=
      ⟨rfl, ⟨by simp, hargs⟩, rfl, (fun x hx => by cases hx), hp, s, Same.refl w⟩
    have fin : ∀ (K : S → T) (a' : Act) (w' : World), (∀ s, K s = leaveD P fn (h0.map (·.1)) s) → Nx ⟨P, post, w, F, ρ, R, []⟩ K a' w' →
        LeavesInM Fence.wide 0 P fn a'.tmps (fun e w'' => ∃ v, e = .returned v ∧ Same w w'' ∧ ∃ R' h', R.le R' ∧ Sat w'' R' h' F ∧ (post v).p R' h') a'.defers .returning w' := fun K a' w' hK r => by
      obtain ⟨ρ', s', R', h', L', p1, p2, p3, p4, p5, p6⟩ := r
      simp only at p1 p2 p3 p4 p5 p6
      rw [hK] at p6
      unfold leaveD at p6
      split at p6
      · rename_i hdf
        simp only [dfOk, Bool.and_eq_true] at hdf
        rw [p5.dfr]
        refine leaves_marks s'.df hdf.1 hdf.2 p5.sat p5.hp fun w'' h'' sm sat p => ?_
        have ok2 : Ok ρ' (leaveS s') { a' with defers := [] } w w'' R' h'' F := ⟨rfl, ⟨p5.tm.1, p5.tm.2⟩, p5.len, p5.kn, p, sat, p5.same.trans sm⟩
        obtain ⟨v, hv, he⟩ := leave_ok ok2 p6
        obtain ⟨R2, h2, q1, q2, q3, q4, q5⟩ := he R' h'' sat.dRh p
        exact ⟨v, hv, v, rfl, ok2.same, R2, h2, p2.trans q1, sat.ent q2 q3 q4, q5⟩
      · exact p6.elim
    refine wpIn_mono (exec_ok hm c (.inl rfl) (rd := false) (fun _ => rfl) ok rfl hd) fun e a' w' r => ?_
    cases e <;> try exact r.elim
    · exact fin _ a' w' (fun _ => rfl) r
    · obtain ⟨ρ', s', R', h', L', p1, p2, p3, p4, p5, p6⟩ := r
      exact p6.elim
    · exact fin _ a' w' (fun _ => rfl) r
  · exact hd.elim
end
end Go.Proofs.Ytmibmjehjagmbaa.RX
