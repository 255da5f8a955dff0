/- A run's steps mean what they say: guards, regions. No condition. -/
import Derived.Test.YtmibmjehjagmbaaSndI
import Derived.OrdersIn
import Derived.OwnWalkIn
namespace Go.Proofs.Ytmibmjehjagmbaa.RX
open Go.Proofs.Ytmibmjehjagmbaa

section
variable {P : Program} {post : Value → HP} {w0 w : World} {F R h : PH} {ρ : Env} {L : List (Env → Prop)} {s : S} {a : Act} {cfg : Cfg} {Q : Exit → Act → World → Prop} {ops : Array Oper}

theorem evA_tmp (tm : Tm ρ s.t a) {d : Tmp} {x : A} (h : evA s (.tmp d) = some x) : a.tmps[d]? = some (x.den ρ) := by
  unfold evA at h
  split at h
  · rename_i y hy
    cases h
    simp only [ev] at hy
    split at hy
    · rename_i o ho
      subst hy
      exact tm.2 d _ ho
    · cases hy
  · cases h
theorem guardO_ok {o : Oper} {run skip : S → T} (ok : Ok ρ s a w0 w R h F) (hd : (guardO ops s o run skip).den P post L ρ) :
    ∃ kn, Ok ρ { s with kn := kn } a w0 w R h F ∧ ((Region.wanted o (yielded ops a.tmps) = true ∧ (run { s with kn := kn }).den P post L ρ) ∨ (Region.wanted o (yielded ops a.tmps) = false ∧ (skip { s with kn := kn }).den P post L ρ)) := by
  unfold guardO at hd
  split at hd
  · rename_i hg
    exact ⟨s.kn, ok, .inl ⟨by simp [Region.wanted, hg], hd⟩⟩
  · rename_i j want hg
    split at hd
    · exact hd.elim
    · rename_i d hj
      split at hd
      · rename_i hnone
        have ht := ok.tm.2 d _ hnone
        have hy : yielded ops a.tmps j = none := by
          unfold yielded
          rw [hj]
          simp only [Option.bind_some, ht, V.den, List.map_nil]
        refine ⟨s.kn, ok, .inr ⟨?_, hd⟩⟩
        simp only [Region.wanted, hg, hy]
        rfl
      · split at hd
        · rename_i e he
          obtain ⟨kn, ok', hh⟩ := brE_ok ok hd
          have ht := evA_tmp ok.tm he
          have hy : yielded ops a.tmps j = some (e.den ρ).bool := by
            unfold yielded
            rw [hj]
            simp only [Option.bind_some, ht, A.den]
          refine ⟨kn, ok', ?_⟩
          simp only [Region.wanted, hg, hy]
          rcases hh with ⟨hb, hh⟩ | ⟨hb, hh⟩ <;> rw [hb] <;> cases want <;> simp only [if_true, Bool.false_eq_true, if_false] at hh
          · exact .inr ⟨rfl, hh⟩
          · exact .inl ⟨rfl, hh⟩
          · exact .inl ⟨rfl, hh⟩
          · exact .inr ⟨rfl, hh⟩
        · exact hd.elim
theorem Nx.up {K : S → T} {ρ' : Env} {R' : PH} {L' : List (Env → Prop)} {a' : Act} {w' : World} (p1 : ρ <+: ρ') (p2 : R.le R') (p3 : L <:+ L') (n : Nx ⟨P, post, w0, F, ρ', R', L'⟩ K a' w') : Nx ⟨P, post, w0, F, ρ, R, L⟩ K a' w' :=
  n.mono rfl rfl rfl rfl p1 p2 p3 fun _ => rfl

/-- A fence that lets all in, in a round or not. -/
def WF (Fr : Fence) : Prop := Fr = Fence.wide ∨ ∃ l, Fr = Fence.wide.inRound l
theorem WF.fn {Fr : Fence} (h : WF Fr) (f : FuncId) : Fr.fn f := by rcases h with rfl | ⟨l, rfl⟩ <;> trivial
theorem WF.dep {Fr : Fence} (h : WF Fr) : Fr.depth.isSome = true → 1 ≤ 0 := by rcases h with rfl | ⟨l, rfl⟩ <;> (intro h; cases h)
theorem WF.calls {Fr : Fence} (h : WF Fr) {n : Nat} {f : FuncId} {args : Array Value} {w : World} {Z : Ending → World → Prop} (c : Calls P f args w Z) : CallsIn Fr n P f args w Z := by
  have c' : CallsIn Fence.wide n P f args w Z := callsIn_wide.2 c
  rcases h with rfl | ⟨l, rfl⟩
  · exact c'
  · exact c'
theorem WF.rows {Fr : Fence} (h : WF Fr) {n : Nat} {row : String} {args : Array Value} {w : World} {Z : Value → World → Prop} (c : Rows P row args w Z) : RowsIn Fr n P row args w Z := by
  have c' : RowsIn Fence.wide n P row args w Z := fun fr cs _ => let ⟨v, w', r, s⟩ := c fr cs; ⟨v, w', r, stepsIn_wide.2 s⟩
  rcases h with rfl | ⟨l, rfl⟩
  · exact c'
  · exact c'
theorem WF.round {Fr : Fence} (h : WF Fr) {n l : Nat} {f : FuncId} {tmps : Array Value} {asg body : Code} {w : World} {Z : Ending → World → Prop} (c : RoundIn Fence.wide 0 P l f tmps asg body w Z) : RoundIn Fr n P l f tmps asg body w Z := by
  have c' : RoundIn Fence.wide n P l f tmps asg body w Z := ⟨trivial, fun fr cs _ => c.2 fr cs (room_wide _)⟩
  rcases h with rfl | ⟨l, rfl⟩
  · exact c'
  · exact c'
theorem notDefer_ne {o : Oper} (h : notDefer o.op = true) : ∀ c, o.op ≠ .defer c := fun c e => by rw [e] at h; cases h
theorem opIn {Fr : Fence} (wf : WF Fr) {o : Oper} (hnd : notDefer o.op = true) {nx : Act → World → Prop} (h : o.wp P a w nx Q) : o.wpIn Fr 0 P a w nx Q := by
  refine ⟨fun f _ => wf.fn f, ?_⟩
  rw [Oper.semAt_plain Fr _ _ (notDefer_ne hnd)]
  unfold Oper.wp at h
  generalize (execOp a.eval o).run P w = r at h ⊢
  cases r with
  | ok x w' =>
    cases x <;> simp only [Oper.upon] at h <;> simp only [Oper.uponIn] <;> first
      | exact h
      | exact ⟨wf.dep, wf.calls h⟩
      | exact ⟨wf.dep, wf.rows h⟩
      | exact h.elim
  | halt x w' => cases x <;> simp only [Oper.upon] at h <;> simp only [Oper.uponIn] <;> exact h
theorem wpAny_in {Fr : Fence} (wf : WF Fr) (hnd : ∀ o ∈ ops, notDefer o.op = true) (hQ : ∀ a w, ¬ Q .outgrown a w) : ∀ (fuel : Nat) (listed : Array Bool) (a : Act) (w : World), wpAny P .any ops Q fuel listed a w → wpAnyIn Fr 0 P .any ops Q fuel listed a w
  | 0, _, _, _, h => h
  | fuel + 1, listed, a, w, h => ⟨h.1, fun i hi => by
    have h1 := h.2 i hi
    unfold wpOp at h1
    unfold wpOpIn
    split at h1
    · rename_i e; rw [e]; exact wpAny_in wf hnd hQ fuel _ a w h1
    · rename_i o e
      rw [e]
      simp only
      split at h1
      · rename_i hw
        rw [if_pos hw]
        rcases h1 with h1 | ⟨_, a', w', h1⟩
        · exact Oper.wpIn_mono (fun a' w' => wpAny_in wf hnd hQ fuel _ a' w') (opIn wf (hnd o (Array.mem_of_getElem? e)) h1)
        · exact (hQ _ _ h1).elim
      · rename_i hw
        rw [if_neg hw]
        exact ⟨fun f _ => wf.fn f, wpAny_in wf hnd hQ fuel _ _ _ h1⟩⟩
theorem callvOf_spec {o : Oper} {v : Nat} {ws : List W} (h : callvOf s o = some (v, ws)) : ∃ c x, o.op = .call c ∧ c.callee = .value x ∧ evA s x = some (.val v) ∧ mapM' (evW s) c.args.toList = some ws := by
  unfold callvOf at h
  split at h
  · rename_i c ho
    split at h
    · rename_i x hc
      split at h
      · rename_i k q hx hw
        cases h
        exact ⟨c, x, ho, hc, hx, hw⟩
      · cases h
    · cases h
  · cases h
theorem VTri.op {Fr : Fence} (wf : WF Fr) {o : Oper} {c : Call} {x : Operand} {fv : Value} {args : Array Value} {A : HP} {B : Value → HP} (t : VTri P fv args A B) (ho : o.op = .call c) (hc : c.callee = .value x) (hx : a.eval x = oneC fv) (harg : c.args.map a.eval = args)
    (s1 : Sat w R h F) (p1 : A.p R h) {nx : Act → World → Prop} (hn : ∀ v' w' R' h', Same w w' → R.le R' → Sat w' R' h' F → (B v').p R' h' → nx (a.put o.dst v') w') : o.wpIn Fr 0 P a w nx Q := by
  refine ⟨fun f _ => wf.fn f, ?_⟩
  rw [Oper.semAt_plain Fr _ _ (fun d e => by rw [ho] at e; cases e)]
  rcases t with ⟨f, caps, rfl, ⟨fn, hfn, hbody, hname⟩, t⟩ | ⟨l, rfl, t⟩
  · have hrun : (execOp a.eval o).run P w = .ok (.enter f (args ++ caps)) w := by
      simp only [execOp, ho, resolve, hc, harg, Sem.run_bind, hx, oneC, Deferred.ofValue, Sem.run_pure, Result.andThen_ok, invoke, callFunc, program, Sem.run, hfn, hname, hbody, Bool.false_eq_true, if_false, Array.empty_append]
    rw [hrun, Oper.uponIn_enter]
    refine ⟨wf.dep, wf.calls ((t w R h _ s1 p1).mono fun e w' ⟨v', he, sm, R', h1', lR, s2, hB⟩ => ?_)⟩
    subst he
    exact hn v' w' R' h1' sm lR s2 hB
  · obtain ⟨fn, tmps, asg, body, hy, hr⟩ := t w R h _ s1 p1
    have hrun : (execOp a.eval o).run P w = .ok (.round l fn tmps asg body) w := by
      simp only [execOp, ho, resolve, hc, harg, Sem.run_bind, hx, oneC, Deferred.ofValue, Sem.run_pure, Result.andThen_ok, invoke, Array.empty_append]
      exact hy
    rw [hrun, Oper.uponIn_round]
    refine ⟨wf.dep, wf.round (hr.mono fun e w' ⟨v', he, sm, R', h1', lR, s2, hB⟩ => ?_)⟩
    subst he
    exact hn v' w' R' h1' sm lR s2 hB
theorem callV_ok {Fr : Fence} (wf : WF Fr) {o : Oper} {K : S → T} {v : Nat} {ws : List W} (hv : callvOf s o = some (v, ws)) (ok : Ok ρ s a w0 w R h F) (hl : L.length = s.dp) (hd : (callV P cfg s o v ws K).den P post L ρ) :
    o.wpIn Fr 0 P a w (Nx ⟨P, post, w0, F, ρ, R, L⟩ K) Q := by
  obtain ⟨c, x, ho, hc, hx, hw⟩ := callvOf_spec hv
  have harg : c.args.map a.eval = (ws.map (W.den ρ)).toArray := by
    rw [← mapW_den ok.tm hw]; cases c.args; simp
  unfold callV at hd
  simp only at hd
  split at hd
  · exact hd.elim
  rename_i hsub
  simp only [Bool.not_eq_true', Bool.not_eq_false] at hsub
  split at hd
  · rename_i hb
    simp only [Bool.and_eq_true, decide_eq_true_eq] at hb
    obtain ⟨hb, hn⟩ := hb
    obtain ⟨h1, h2, s1, d1, p1, p2⟩ := ok.hand (fun x => (reach s.h s.lk 60 (Key.a v :: cfg.vt ++ ws.flatMap fun x => x.list.flatMap keysA) []).contains x.1)
    refine VTri.op wf hd ho hc (evA_den ok.tm hx) harg s1 (subH_den hsub p1) fun v' w' R' h1' sm lR s2 hB => ?_
    obtain ⟨xs, hxl, hv', hk, hnb⟩ := exs_elim hB
    rw [hv']
    refine ⟨_, _, R', h1'.un h2, L, List.prefix_append ρ xs, lR, List.suffix_refl _, ?_, ok.back (lk := s.lk) hb sm s2 d1 lR (hn.trans (by rw [hxl])) (fun x hx => (List.mem_filter.1 hx).1) p2 hnb _ _, hk⟩
    cases o.dst <;> exact hl
  · exact hd.elim
theorem stepV_ok {Fr : Fence} (wf : WF Fr) {o : Oper} (hnd : notDefer o.op = true) {K : S → T} (ok : Ok ρ s a w0 w R h F) (hl : L.length = s.dp) (hd : (stepV P cfg s o K).den P post L ρ) :
    o.wpIn Fr 0 P a w (Nx ⟨P, post, w0, F, ρ, R, L⟩ K) Q := by
  unfold stepV at hd
  split at hd
  · rename_i v ws hv
    exact callV_ok wf hv ok hl hd
  · exact opIn wf hnd (stepO_ok ok hl hd)
theorem runL_ok {Fr : Fence} (wf : WF Fr) {K : S → T} : ∀ (l : List Oper), (∀ o ∈ l, notDefer o.op = true) → ∀ {ρ : Env} {s : S} {a : Act} {w : World} {R h : PH} {L : List (Env → Prop)}, Ok ρ s a w0 w R h F → L.length = s.dp → (runL P cfg ops l s K).den P post L ρ →
    (∀ a w, Nx ⟨P, post, w0, F, ρ, R, L⟩ K a w → Q .normal a w) → wpListIn Fr 0 P ops Q l a w := by
  intro l
  induction l with
  | nil => intro _ ρ s a w R h L ok hl hd hQ; exact hQ a w (Nx.mk ok hl hd)
  | cons o r ih =>
    intro hnd ρ s a w R h L ok hl hd hQ
    obtain ⟨kn, ok', hh⟩ := guardO_ok ok hd
    simp only [wpListIn]
    rcases hh with ⟨hw, hh⟩ | ⟨hw, hh⟩
    · rw [if_pos hw]
      refine Oper.wpIn_mono (fun a' w' n => ?_) (stepV_ok wf (hnd o (List.mem_cons_self ..)) ok' (by exact hl) hh)
      obtain ⟨ρ', s', R', h', L', p1, p2, p3, p4, p5, p6⟩ := n
      exact ih (fun o ho => hnd o (List.mem_cons_of_mem _ ho)) p5 p4 p6 fun a'' w'' n => hQ a'' w'' (n.up p1 p2 p3)
    · rw [if_neg (by rw [hw]; simp)]
      exact ⟨fun f _ => wf.fn f, ih (fun o ho => hnd o (List.mem_cons_of_mem _ ho)) (ok'.put o.dst (.tup [])) (by rw [dp_put]; exact hl) hh hQ⟩

theorem allT_den {f : Nat → T} : ∀ {l : List Nat}, (allT f l).den P post L ρ → ∀ i ∈ l, (f i).den P post L ρ
  | [], _, i, hi => by cases hi
  | [x], h, i, hi => by
    cases hi with
    | head => exact h
    | tail _ hi => cases hi
  | x :: y :: r, h, i, hi => by
    cases hi with
    | head => exact h.1
    | tail _ hi => exact allT_den h.2 i hi
theorem firstFree_spec {tk : List (List Key)} {h0 : Hp} {listed : Array Bool} {D : List Nat} : ∀ {l : List Nat} {i : Nat} {o : Oper}, firstFree P ops tk h0 listed s l = some (i, o, D) → i ∈ l ∧ ops[i]? = some o ∧ Region.free .any ops listed i = true ∧ depOk ops listed tk i D = true
  | [], _, _, h => by cases h
  | x :: r, i, o, h => by
    simp only [firstFree] at h
    split at h
    · cases h
    · rename_i o' ho
      have rest : firstFree P ops tk h0 listed s r = some (i, o, D) → i ∈ x :: r ∧ ops[i]? = some o ∧ Region.free .any ops listed i = true ∧ depOk ops listed tk i D = true := fun h => by
        obtain ⟨h1, h2⟩ := firstFree_spec h
        exact ⟨List.mem_cons_of_mem _ h1, h2⟩
      split at h
      · rename_i hf
        split at h
        · rename_i hc
          cases h
          simp only [Bool.and_eq_true] at hc
          exact ⟨List.mem_cons_self .., ho, hf, hc.1⟩
        · split at h
          · rename_i hc
            cases h
            simp only [Bool.and_eq_true] at hc
            exact ⟨List.mem_cons_self .., ho, hf, hc.1⟩
          · exact rest h
      · exact rest h

/-- Whatever order is picked, and a condition that hangs on what has come up holds behind every operation. -/
def wpAnyL (P : Program) (ops : Array Oper) (Q : Exit → Act → World → Prop) (S : Array Bool → World → Prop) : Nat → Array Bool → Act → World → Prop
  | 0, listed, a, w => Region.ready .any ops listed = [] ∧ Q .normal a w
  | fuel + 1, listed, a, w => (Region.ready .any ops listed = [] → Q .normal a w) ∧
    ∀ i ∈ Region.ready .any ops listed, wpOp P ops Q i (fun a' w' => S (listed.setIfInBounds i true) w' ∧ wpAnyL P ops Q S fuel (listed.setIfInBounds i true) a' w') a w
theorem wpAnyL_any {Sc : Array Bool → World → Prop} : ∀ (fuel : Nat) (listed : Array Bool) (a : Act) (w : World), wpAnyL P ops Q Sc fuel listed a w → wpAny P .any ops Q fuel listed a w
  | 0, _, _, _, h => h
  | fuel + 1, _, _, _, h => ⟨h.1, fun i hi => wpOp_mono (fun a' w' h' => wpAnyL_any fuel _ a' w' h'.2) (h.2 i hi)⟩
theorem wpAnyL_done {Sc : Array Bool → World → Prop} {listed : Array Bool} {a : Act} {w : World} (hr : Region.ready .any ops listed = []) (h : Q .normal a w) : ∀ fuel, wpAnyL P ops Q Sc fuel listed a w
  | 0 => ⟨hr, h⟩
  | _ + 1 => ⟨fun _ => h, by rw [hr]; simp⟩
/-- An operation that only reads may be taken first, if what it reads holds till it comes up. -/
theorem wpAnyL_first {Sc : Array Bool → World → Prop} {Si : World → Prop} {Inv : Array Bool → Prop} {i : Nat} {oi : Oper} {v : Value} (hi : ops[i]? = some oi) (hsel : Region.noSelect ops = true) (hQ : ∀ c a w, ¬ Q (.panic c) a w)
    (h1 : ∀ l w, Sc (l.setIfInBounds i true) w → Sc l w) (h2 : ∀ l w, Inv l → Sc l w → Si w) (h3 : ∀ l j, Inv l → i ∈ Region.ready .any ops l → j ∈ Region.ready .any ops l → j ≠ i → Inv (l.setIfInBounds j true)) :
    ∀ (fuel : Nat) (listed : Array Bool) (a : Act) (w : World),
      (∀ j oj, ops[j]? = some oj → j ≠ i → listed.getD j true = false → (∀ e ∈ oj.after, Region.binds .any e = true → e.on ≠ i) → oi.apart ops oj = true) →
      i ∈ Region.ready .any ops listed → Inv listed → YieldsIf P ops Si oi v a → Sc listed w →
      wpAnyL P ops Q Sc fuel (listed.setIfInBounds i true) (a.put oi.dst v) w → Sc (listed.setIfInBounds i true) w → wpAnyL P ops Q Sc (fuel + 1) listed a w := by
  intro fuel
  induction fuel with
  | zero =>
    intro listed a w _ hr hI hy hS H hSi
    refine ⟨fun h => (by rw [h] at hr; cases hr), fun j hj => ?_⟩
    by_cases hji : j = i
    · subst hji; exact hy.wpOp hi (h2 _ _ hI hS) ⟨hSi, H⟩
    · have := ready_mono hj hji
      rw [H.1] at this
      cases this
  | succ fuel ih =>
    intro listed a w hfree hr hI hy hS H hSi
    refine ⟨fun h => (by rw [h] at hr; cases hr), fun j hj => ?_⟩
    by_cases hji : j = i
    · subst hji; exact hy.wpOp hi (h2 _ _ hI hS) ⟨hSi, H⟩
    · have hj' := H.2 j (ready_mono hj hji)
      obtain ⟨hjun, oj, hoj, hall⟩ := mem_ready.1 hj
      have hun := (mem_ready.1 hr).1
      have hnot : ∀ e ∈ oj.after, Region.binds .any e = true → e.on ≠ i := fun e he hb heq => by
        have q1 := hall e he hb
        rw [heq] at q1
        rcases Nat.lt_or_ge i listed.size with h' | h'
        · simp [h'] at hun q1; rw [hun] at q1; cases q1
        · simp [Array.getElem?_eq_none h'] at q1
      have q2 := wpOp_putIf hoj (hfree j oj hoj hji hjun hnot) (fun cs b => Region.noSelect_spec hsel i oi cs b hi) (fun cs b => Region.noSelect_spec hsel j oj cs b hoj) (fun c a w h => absurd h (hQ c _ w)) hy hj'
      have hfree' : ∀ k ok, ops[k]? = some ok → k ≠ i → (listed.setIfInBounds j true).getD k true = false → (∀ e ∈ ok.after, Region.binds .any e = true → e.on ≠ i) → oi.apart ops ok = true := fun k ok hk hki hun' hno => by
        refine hfree k ok hk hki ?_ hno
        by_cases hjk : j = k
        · subst hjk; exact hjun
        · rw [getD_set_ne true hjk] at hun'; exact hun'
      refine wpOp_mono (fun a' w' q3 => ?_) q2
      obtain ⟨q3, q4, q5⟩ := q3
      rw [Array.setIfInBounds_comm _ _ (Ne.symm hji)] at q4 q5
      exact ⟨h1 _ _ q4, ih (listed.setIfInBounds j true) a' w' hfree' (ready_mono hr (Ne.symm hji)) (h3 _ _ hI hr hj hji) q3 (h1 _ _ q4) q5 q4⟩

/-- What a drawn region's worlds keep. -/
def Kept (ρ : Env) (stab : Hp) (w : World) : Prop := ∃ R h F, Sat w R h F ∧ (hden ρ stab).p R h
theorem nodup_filter {l : Hp} (q : Key × C → Bool) (h : nodupH l = true) : nodupH (l.filter q) = true := by
  induction l with
  | nil => rfl
  | cons x r ih =>
    simp only [nodupH, Bool.and_eq_true, Bool.not_eq_true', List.contains_eq_mem, decide_eq_false_iff_not] at h
    rw [List.filter_cons]
    split
    · simp only [nodupH, Bool.and_eq_true, Bool.not_eq_true', List.contains_eq_mem, decide_eq_false_iff_not]
      exact ⟨fun hx => h.1 (List.mem_filter.1 hx).1, ih h.2⟩
    · exact ih h.2
theorem Kept.sub {ρ : Env} {l m : Hp} {w : World} (hn : nodupH m = true) (hs : ∀ x ∈ m, x ∈ l) : Kept ρ l w → Kept ρ m w := fun ⟨R, h, F, s, p⟩ => ⟨R, h, F, s, hden_sub hn hs p⟩
theorem getD_set {listed : Array Bool} {i j : Nat} (h : (listed.setIfInBounds i true).getD j false = true) : j = i ∨ listed.getD j false = true := by
  by_cases hij : i = j
  · exact .inl hij.symm
  · rw [getD_set_ne false hij] at h; exact .inr h
theorem stabAt_set {tk : List (List Key)} {h0 : Hp} {listed : Array Bool} {i : Nat} (hi : tk.getD i [] = []) {x : Key × C} (hx : x ∈ stabAt ops tk h0 listed) : x ∈ stabAt ops tk h0 (listed.setIfInBounds i true) := by
  obtain ⟨h1, h2⟩ := List.mem_filter.1 hx
  refine List.mem_filter.2 ⟨h1, List.all_eq_true.2 fun j hj => ?_⟩
  have := List.all_eq_true.1 h2 j hj
  by_cases hij : i = j
  · subst hij; rw [hi]; simp
  · rw [getD_set_ne false hij]; exact this
theorem splitG_ok {K : S → T} : ∀ (l : List Nat) {s : S}, Ok ρ s a w0 w R h F → (splitG ops l s K).den P post L ρ → ∃ kn, Ok ρ { s with kn := kn } a w0 w R h F ∧ (K { s with kn := kn }).den P post L ρ
  | [], s, ok, hd => ⟨s.kn, ok, hd⟩
  | i :: r, s, ok, hd => by
    simp only [splitG] at hd
    split at hd
    · obtain ⟨kn, ok', hh⟩ := brE_ok ok hd
      rcases hh with ⟨_, hh⟩ | ⟨_, hh⟩
      · obtain ⟨kn2, ok2, h2⟩ := splitG_ok r ok' hh
        exact ⟨kn2, ok2, h2⟩
      · obtain ⟨kn2, ok2, h2⟩ := splitG_ok r ok' hh
        exact ⟨kn2, ok2, h2⟩
    · exact splitG_ok r ok hd
set_option maxHeartbeats 800000 in
theorem runD_ok {K : S → T} {tk : List (List Key)} {h0 : Hp} {ρ0 : Env} (hn : nodupH h0 = true) (hb : hbel ρ0.length h0 = true) (hsel : Region.noSelect ops = true) (hp : ∀ c a w, ¬ Q (.panic c) a w) :
    ∀ (fuel : Nat) {listed : Array Bool} {ρ : Env} {s : S} {a : Act} {w : World} {R h : PH} {L : List (Env → Prop)}, ρ0 <+: ρ → (∀ x ∈ stabAt ops tk h0 listed, x ∈ s.h) → Ok ρ s a w0 w R h F → L.length = s.dp → (runD P cfg ops tk h0 fuel listed s K).den P post L ρ →
      (∀ a w, Nx ⟨P, post, w0, F, ρ, R, L⟩ K a w → Q .normal a w) → wpAnyL P ops Q (fun l => Kept ρ0 (stabAt ops tk h0 l)) fuel listed a w := by
  have hbf : ∀ q : Key × C → Bool, hbel ρ0.length (h0.filter q) = true := fun q => List.all_eq_true.2 fun x hx => List.all_eq_true.1 hb x (List.mem_filter.1 hx).1
  have up : ∀ {ρ : Env} {w : World} (q : Key × C → Bool), ρ0 <+: ρ → (Kept ρ (h0.filter q) w ↔ Kept ρ0 (h0.filter q) w) := fun q hpre => by
    obtain ⟨x, rfl⟩ := hpre
    unfold Kept
    rw [hden_app (hbf q)]
  have okk : ∀ {ρ : Env} {s : S} {a : Act} {w : World} {R h : PH} {l : Array Bool}, ρ0 <+: ρ → (∀ x ∈ stabAt ops tk h0 l, x ∈ s.h) → Ok ρ s a w0 w R h F → Kept ρ0 (stabAt ops tk h0 l) w := fun hpre hst ok =>
    (up _ hpre).1 ⟨_, _, _, ok.sat, hden_sub (nodup_filter _ hn) hst ok.hp⟩
  intro fuel
  induction fuel with
  | zero =>
    intro listed ρ s a w R h L hpre hst ok hl hd hQ
    simp only [runD] at hd
    split at hd
    · rename_i hr; exact ⟨hr, hQ a w (Nx.mk ok hl hd)⟩
    · exact hd.elim
  | succ fuel ih =>
    intro listed ρ s a w R h L hpre hst ok hl hd hQ
    simp only [runD] at hd
    split at hd
    · rename_i hr; exact wpAnyL_done hr (hQ a w (Nx.mk ok hl hd)) _
    · rename_i hr
      suffices key : ∀ {s : S}, (∀ x ∈ stabAt ops tk h0 listed, x ∈ s.h) → Ok ρ s a w0 w R h F → L.length = s.dp → (stepD P cfg ops tk h0 listed (Region.ready .any ops listed) (fun l s => runD P cfg ops tk h0 fuel l s K) s).den P post L ρ → wpAnyL P ops Q (fun l => Kept ρ0 (stabAt ops tk h0 l)) (fuel + 1) listed a w by
        split at hd
        · exact key hst ok hl hd
        · obtain ⟨kn, ok', hd'⟩ := splitG_ok _ ok hd
          exact key (s := { s with kn := kn }) hst ok' hl hd'
      clear hd hst ok hl s
      intro s hst ok hl hd
      have hS := okk hpre hst ok
      unfold stepD at hd
      split at hd
      · rename_i i o D hf
        obtain ⟨hi, ho, hfree, hdep⟩ := firstFree_spec hf
        simp only [depOk, Bool.and_eq_true, Bool.not_eq_true', decide_eq_true_eq] at hdep
        obtain ⟨⟨hDi, htk⟩, hD⟩ := hdep
        obtain ⟨kn, ok', hh⟩ := guardO_ok ok hd
        have hst' : ∀ x ∈ stabAt ops tk h0 (listed.setIfInBounds i true), x ∈ s.h := fun x hx => hst x (by
          obtain ⟨q1, q2⟩ := List.mem_filter.1 hx
          refine List.mem_filter.2 ⟨q1, List.all_eq_true.2 fun j hj => ?_⟩
          have := List.all_eq_true.1 q2 j hj
          by_cases hij : i = j
          · subst hij; rw [htk]; simp
          · rw [getD_set_ne false hij] at this; exact this)
        have hS' : Kept ρ0 (stabAt ops tk h0 (listed.setIfInBounds i true)) w := okk hpre hst' ok
        have a1 : ∀ l w, Kept ρ0 (stabAt ops tk h0 (l.setIfInBounds i true)) w → Kept ρ0 (stabAt ops tk h0 l) w := fun l w q =>
          Kept.sub (l := stabAt ops tk h0 (l.setIfInBounds i true)) (m := stabAt ops tk h0 l) (nodup_filter _ hn) (fun x hx => stabAt_set htk hx) q
        have a2 : ∀ l w, (∀ j ∈ D, l.getD j true = false) → Kept ρ0 (stabAt ops tk h0 l) w → Kept ρ0 (stabBut ops tk h0 D) w := fun l w hI q =>
          Kept.sub (l := stabAt ops tk h0 l) (m := stabBut ops tk h0 D) (nodup_filter _ hn) (fun x hx => by
            obtain ⟨q1, q2⟩ := List.mem_filter.1 hx
            refine List.mem_filter.2 ⟨q1, List.all_eq_true.2 fun j hj => ?_⟩
            have q3 := List.all_eq_true.1 q2 j hj
            by_cases hjD : j ∈ D
            · have := hI j hjD
              have e : l.getD j false = false := by
                cases hq : l[j]? with
                | none => simp [hq]
                | some b => simp [hq] at this ⊢; exact this
              rw [e]; rfl
            · have : D.contains j = false := by simpa using hjD
              rw [this] at q3
              simp only [Bool.false_or] at q3
              rw [q3]; simp) q
        have a3 : ∀ (l : Array Bool) (j : Nat), (∀ j ∈ D, l.getD j true = false) → i ∈ Region.ready .any ops l → j ∈ Region.ready .any ops l → j ≠ i → (∀ k ∈ D, (l.setIfInBounds j true).getD k true = false) := fun l j hI hri hrj hji k hk => by
          have hne : k ≠ j := fun e => by
            subst e
            have hDk := List.all_eq_true.1 hD k hk
            simp only [Bool.and_eq_true] at hDk
            obtain ⟨_, hDk⟩ := hDk
            obtain ⟨_, oj, hoj, hall⟩ := mem_ready.1 hrj
            rw [hoj] at hDk
            simp only [Array.any_eq_true'] at hDk
            obtain ⟨e, he, hDk⟩ := hDk
            simp only [Bool.and_eq_true, Bool.or_eq_true, beq_iff_eq] at hDk
            have q := hall e he hDk.1
            have un : l.getD e.on true = false := by
              rcases hDk.2 with e1 | e1
              · rw [e1]; exact (mem_ready.1 hri).1
              · exact hI e.on (by simpa using e1)
            cases hq : l[e.on]? with
            | none => simp [hq] at un
            | some b => simp [hq] at un q; rw [un] at q; cases q
          rw [getD_set_ne true (Ne.symm hne)]
          exact hI k hk
        have a4 : ∀ j ∈ D, listed.getD j true = false := fun j hj => by
          have := List.all_eq_true.1 hD j hj
          simp only [Bool.and_eq_true, Bool.not_eq_true'] at this
          exact this.1
        have take : ∀ (v : Value), YieldsIf P ops (Kept ρ0 (stabBut ops tk h0 D)) o v a → wpAnyL P ops Q (fun l => Kept ρ0 (stabAt ops tk h0 l)) fuel (listed.setIfInBounds i true) (a.put o.dst v) w → wpAnyL P ops Q (fun l => Kept ρ0 (stabAt ops tk h0 l)) (fuel + 1) listed a w := fun v hy H =>
          wpAnyL_first (Sc := fun l => Kept ρ0 (stabAt ops tk h0 l)) (Si := Kept ρ0 (stabBut ops tk h0 D)) (Inv := fun l => ∀ j ∈ D, l.getD j true = false) ho hsel hp a1 a2 a3 fuel listed a w (Region.free_spec ho hfree) hi a4 hy hS H hS'
        rcases hh with ⟨hw, hh⟩ | ⟨hw, hh⟩
        · simp only at hh
          split at hh
          · rename_i es v hpo
            obtain ⟨kn2, ok2, hes, hk⟩ := needs_ok ok' hh
            have hnext := ih hpre (by cases o.dst <;> exact hst') (ok2.put o.dst v) (by rw [dp_put]; exact hl) hk hQ
            refine take (v.den ρ) (.inl ⟨hw, fun w' hw' => ?_⟩) hnext
            obtain ⟨R1, x1, F1, s1, p1⟩ := (up _ hpre).2 hw'
            exact pureOp_run hpo ok'.tm ok'.kn ⟨R1, x1, F1, s1, p1⟩ hes
          · exact hh.elim
        · have hnext := ih hpre (by cases o.dst <;> exact hst') (ok'.put o.dst (.tup [])) (by rw [dp_put]; exact hl) hh hQ
          exact take undef (.inr ⟨hw, rfl⟩) hnext
      · refine ⟨fun h0 => absurd h0 hr, fun i hi => ?_⟩
        have hone := allT_den hd i hi
        unfold wpOp
        split at hone
        · exact hone.elim
        · rename_i o ho
          rw [ho]
          simp only
          obtain ⟨kn, ok', hh⟩ := guardO_ok ok hone
          rcases hh with ⟨hw, hh⟩ | ⟨hw, hh⟩
          · rw [if_pos hw]
            refine .inl (Oper.wp_mono (fun a' w' n => ?_) (stepO_ok ok' (by exact hl) hh))
            obtain ⟨ρ', s', R', h', L', p1, p2, p3, p4, p5, p6⟩ := n
            simp only at p6
            split at p6
            · rename_i hc
              have hst' : ∀ x ∈ stabAt ops tk h0 (listed.setIfInBounds i true), x ∈ s'.h := fun x hx => by simpa using List.all_eq_true.1 hc x hx
              exact ⟨okk (hpre.trans p1) hst' p5, ih (hpre.trans p1) hst' p5 p4 p6 fun a'' w'' n => hQ a'' w'' (n.up p1 p2 p3)⟩
            · exact p6.elim
          · rw [if_neg (by rw [hw]; simp)]
            have hst' : ∀ x ∈ stabAt ops tk h0 (listed.setIfInBounds i true), x ∈ s.h := fun x hx => hst x (by
              obtain ⟨q1, q2⟩ := List.mem_filter.1 hx
              refine List.mem_filter.2 ⟨q1, List.all_eq_true.2 fun j hj => ?_⟩
              have := List.all_eq_true.1 q2 j hj
              by_cases hij : i = j
              · subst hij
                simp only [Bool.or_eq_true, Bool.not_eq_true'] at this ⊢
                exact .inl (by
                  have := (mem_ready.1 hi).1
                  cases hq : listed[i]? with
                  | none => simp [hq]
                  | some b => simp [hq] at this ⊢; exact this)
              · rw [getD_set_ne false hij] at this; exact this)
            exact ⟨okk hpre hst' ok, ih hpre (by cases o.dst <;> exact hst') (ok'.put o.dst (.tup [])) (by rw [dp_put]; exact hl) hh hQ⟩
end
end Go.Proofs.Ytmibmjehjagmbaa.RX
