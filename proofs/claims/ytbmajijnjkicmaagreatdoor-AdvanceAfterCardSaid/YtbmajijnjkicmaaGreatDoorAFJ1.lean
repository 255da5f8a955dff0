/- Texts of this claim, joined. No condition. -/
import Derived.Test.YtbmajijnjkicmaaGreatDoorAFJ0
import Derived.OrdersIn
import Derived.OwnWalkIn
import Derived.Maps.AppendAt
import Derived.Laws.AppendOwnNone
import Derived.KernelRfl
import Derived.Test.YtbmajijnjkicmaaGreatDoorRows
import Derived.WalkKit
import Derived.WalkSpells
import Derived.WalkSmall
import Derived.WalkLawsBesides
import Derived.RegionTactic
import Derived.BigRegion
import Derived.BigQuiet
import Derived.Deep.QuietTactic
import Derived.Deep.RegionHeld3
import Derived.Lib.Hide
import Derived.Maps.OwnSet
import Derived.Maps.OwnOps
import Derived.Laws.IdiomRangeMap
import Derived.Laws.StructEq
import Derived.Lib.BufferRead
set_option linter.unusedSimpArgs false
set_option linter.unusedVariables false

namespace Go.Proofs.YtbmajijnjkicmaaGreatDoor.RX
open Go.Proofs.YtbmajijnjkicmaaGreatDoor

section
variable {P : Program} {post : Value → HP} {w0 w : World} {F R h : PH} {ρ : Env} {L : List (Env → Prop)} {s : S} {a : Act} {cfg : Cfg} {Q : Exit → Act → World → Prop} {ops : Array Oper}

theorem evA_tmp (tm : Tm ρ s.t a) {d : Tmp} {x : A} (h : evA s (.tmp d) = some x) : a.tmps[d]? = some (x.den ρ) := by
  unfold evA at h
  split at h
  · rename_i y hy
    cases h
    simp only [ev] at hy
    split at hy
    · rename_i o ho
      subst hy
      exact tm.2 d _ ho
    · cases hy
  · cases h
theorem guardO_ok {o : Oper} {run skip : S → T} (ok : Ok ρ s a w0 w R h F) (hd : (guardO ops s o run skip).den P post L ρ) :
    ∃ kn, Ok ρ { s with kn := kn } a w0 w R h F ∧ ((Region.wanted o (yielded ops a.tmps) = true ∧ (run { s with kn := kn }).den P post L ρ) ∨ (Region.wanted o (yielded ops a.tmps) = false ∧ (skip { s with kn := kn }).den P post L ρ)) := by
  unfold guardO at hd
  split at hd
  · rename_i hg
    exact ⟨s.kn, ok, .inl ⟨by simp [Region.wanted, hg], hd⟩⟩
  · rename_i j want hg
    split at hd
    · exact hd.elim
    · rename_i d hj
      split at hd
      · rename_i hnone
        have ht := ok.tm.2 d _ hnone
        have hy : yielded ops a.tmps j = none := by
          unfold yielded
          rw [hj]
          simp only [Option.bind_some, ht, V.den, List.map_nil]
        refine ⟨s.kn, ok, .inr ⟨?_, hd⟩⟩
        simp only [Region.wanted, hg, hy]
        rfl
      · split at hd
        · rename_i e he
          obtain ⟨kn, ok', hh⟩ := brE_ok ok hd
          have ht := evA_tmp ok.tm he
          have hy : yielded ops a.tmps j = some (e.den ρ).bool := by
            unfold yielded
            rw [hj]
            simp only [Option.bind_some, ht, A.den]
          refine ⟨kn, ok', ?_⟩
          simp only [Region.wanted, hg, hy]
          rcases hh with ⟨hb, hh⟩ | ⟨hb, hh⟩ <;> rw [hb] <;> cases want <;> simp only [if_true, Bool.false_eq_true, if_false] at hh
          · exact .inr ⟨rfl, hh⟩
          · exact .inl ⟨rfl, hh⟩
          · exact .inl ⟨rfl, hh⟩
          · exact .inr ⟨rfl, hh⟩
        · exact hd.elim
theorem Nx.up {K : S → T} {ρ' : Env} {R' : PH} {L' : List (Env → Prop)} {a' : Act} {w' : World} (p1 : ρ <+: ρ') (p2 : R.le R') (p3 : L <:+ L') (n : Nx ⟨P, post, w0, F, ρ', R', L'⟩ K a' w') : Nx ⟨P, post, w0, F, ρ, R, L⟩ K a' w' :=
  n.mono rfl rfl rfl rfl p1 p2 p3 fun _ => rfl

def WF (Fr : Fence) : Prop := Fr = Fence.wide ∨ ∃ l, Fr = Fence.wide.inRound l
theorem WF.fn {Fr : Fence} (h : WF Fr) (f : FuncId) : Fr.fn f := by rcases h with rfl | ⟨l, rfl⟩ <;> trivial
theorem WF.dep {Fr : Fence} (h : WF Fr) : Fr.depth.isSome = true → 1 ≤ 0 := by rcases h with rfl | ⟨l, rfl⟩ <;> (intro h; cases h)
theorem WF.calls {Fr : Fence} (h : WF Fr) {n : Nat} {f : FuncId} {args : Array Value} {w : World} {Z : Ending → World → Prop} (c : Calls P f args w Z) : CallsIn Fr n P f args w Z := by
  have c' : CallsIn Fence.wide n P f args w Z := callsIn_wide.2 c
  rcases h with rfl | ⟨l, rfl⟩
  · exact c'
  · exact c'
theorem WF.rows {Fr : Fence} (h : WF Fr) {n : Nat} {row : String} {args : Array Value} {w : World} {Z : Value → World → Prop} (c : Rows P row args w Z) : RowsIn Fr n P row args w Z := by
  have c' : RowsIn Fence.wide n P row args w Z := fun fr cs _ => let ⟨v, w', r, s⟩ := c fr cs; ⟨v, w', r, stepsIn_wide.2 s⟩
  rcases h with rfl | ⟨l, rfl⟩
  · exact c'
  · exact c'
theorem WF.round {Fr : Fence} (h : WF Fr) {n l : Nat} {f : FuncId} {tmps : Array Value} {asg body : Code} {w : World} {Z : Ending → World → Prop} (c : RoundIn Fence.wide 0 P l f tmps asg body w Z) : RoundIn Fr n P l f tmps asg body w Z := by
  have c' : RoundIn Fence.wide n P l f tmps asg body w Z := ⟨trivial, fun fr cs _ => c.2 fr cs (room_wide _)⟩
  rcases h with rfl | ⟨l, rfl⟩
  · exact c'
  · exact c'
theorem notDefer_ne {o : Oper} (h : notDefer o.op = true) : ∀ c, o.op ≠ .defer c := fun c e => by rw [e] at h; cases h
theorem opIn {Fr : Fence} (wf : WF Fr) {o : Oper} (hnd : notDefer o.op = true) {nx : Act → World → Prop} (h : o.wp P a w nx Q) : o.wpIn Fr 0 P a w nx Q := by
  refine ⟨fun f _ => wf.fn f, ?_⟩
  rw [Oper.semAt_plain Fr _ _ (notDefer_ne hnd)]
  unfold Oper.wp at h
  generalize (execOp a.eval o).run P w = r at h ⊢
  cases r with
  | ok x w' =>
    cases x <;> simp only [Oper.upon] at h <;> simp only [Oper.uponIn] <;> first
      | exact h
      | exact ⟨wf.dep, wf.calls h⟩
      | exact ⟨wf.dep, wf.rows h⟩
      | exact h.elim
  | halt x w' => cases x <;> simp only [Oper.upon] at h <;> simp only [Oper.uponIn] <;> exact h
theorem callvOf_spec {o : Oper} {v : Nat} {ws : List W} (h : callvOf s o = some (v, ws)) : ∃ c x, o.op = .call c ∧ c.callee = .value x ∧ evA s x = some (.val v) ∧ mapM' (evW s) c.args.toList = some ws := by
  unfold callvOf at h
  split at h
  · rename_i c ho
    split at h
    · rename_i x hc
      split at h
      · rename_i k q hx hw
        cases h
        exact ⟨c, x, ho, hc, hx, hw⟩
      · cases h
    · cases h
  · cases h
theorem VTri.op {Fr : Fence} (wf : WF Fr) {o : Oper} {c : Call} {x : Operand} {fv : Value} {args : Array Value} {A : HP} {B : Value → HP} (t : VTri P fv args A B) (ho : o.op = .call c) (hc : c.callee = .value x) (hx : a.eval x = oneC fv) (harg : c.args.map a.eval = args)
    (s1 : Sat w R h F) (p1 : A.p R h) {nx : Act → World → Prop} (hn : ∀ v' w' R' h', Same w w' → R.le R' → Sat w' R' h' F → (B v').p R' h' → nx (a.put o.dst v') w') : o.wpIn Fr 0 P a w nx Q := by
  refine ⟨fun f _ => wf.fn f, ?_⟩
  rw [Oper.semAt_plain Fr _ _ (fun d e => by rw [ho] at e; cases e)]
  rcases t with ⟨f, caps, rfl, ⟨fn, hfn, hbody, hname⟩, t⟩ | ⟨l, rfl, t⟩
  · have hrun : (execOp a.eval o).run P w = .ok (.enter f (args ++ caps)) w := by
      simp only [execOp, ho, resolve, hc, harg, Sem.run_bind, hx, oneC, Deferred.ofValue, Sem.run_pure, Result.andThen_ok, invoke, callFunc, program, Sem.run, hfn, hname, hbody, Bool.false_eq_true, if_false, Array.empty_append]
    rw [hrun, Oper.uponIn_enter]
    refine ⟨wf.dep, wf.calls ((t w R h _ s1 p1).mono fun e w' ⟨v', he, sm, R', h1', lR, s2, hB⟩ => ?_)⟩
    subst he
    exact hn v' w' R' h1' sm lR s2 hB
  · obtain ⟨fn, tmps, asg, body, hy, hr⟩ := t w R h _ s1 p1
    have hrun : (execOp a.eval o).run P w = .ok (.round l fn tmps asg body) w := by
      simp only [execOp, ho, resolve, hc, harg, Sem.run_bind, hx, oneC, Deferred.ofValue, Sem.run_pure, Result.andThen_ok, invoke, Array.empty_append]
      exact hy
    rw [hrun, Oper.uponIn_round]
    refine ⟨wf.dep, wf.round (hr.mono fun e w' ⟨v', he, sm, R', h1', lR, s2, hB⟩ => ?_)⟩
    subst he
    exact hn v' w' R' h1' sm lR s2 hB
theorem callV_ok {Fr : Fence} (wf : WF Fr) {o : Oper} {K : S → T} {v : Nat} {ws : List W} (hv : callvOf s o = some (v, ws)) (ok : Ok ρ s a w0 w R h F) (hl : L.length = s.dp) (hd : (callV P cfg s o v ws K).den P post L ρ) :
    o.wpIn Fr 0 P a w (Nx ⟨P, post, w0, F, ρ, R, L⟩ K) Q := by
  obtain ⟨c, x, ho, hc, hx, hw⟩ := callvOf_spec hv
  have harg : c.args.map a.eval = (ws.map (W.den ρ)).toArray := by
    rw [← mapW_den ok.tm hw]; cases c.args; simp
  unfold callV at hd
  simp only at hd
  split at hd
  · exact hd.elim
  rename_i hsub
  simp only [Bool.not_eq_true', Bool.not_eq_false] at hsub
  split at hd
  · rename_i hb
    simp only [Bool.and_eq_true, decide_eq_true_eq, Nat.blt_eq] at hb
    obtain ⟨hb, hn⟩ := hb
    obtain ⟨h1, h2, s1, d1, p1, p2⟩ := ok.hand (fun x => (reach s.h s.lk 60 (Key.a v :: cfg.vt ++ ws.flatMap fun x => x.list.flatMap keysA) []).contains x.1)
    refine VTri.op wf hd ho hc (evA_den ok.tm hx) harg s1 (subH_den hsub p1) fun v' w' R' h1' sm lR s2 hB => ?_
    obtain ⟨xs, hxl, hv', hk, hnb⟩ := exs_elim hB
    rw [hv']
    refine ⟨_, _, R', h1'.un h2, L, List.prefix_append ρ xs, lR, List.suffix_refl _, ?_, ok.back (lk := s.lk) hb sm s2 d1 lR (hn.trans (by rw [hxl])) (fun x hx => (List.mem_filter.1 hx).1) p2 hnb _ _, hk⟩
    cases o.dst <;> exact hl
  · exact hd.elim
theorem stepV_ok {Fr : Fence} (wf : WF Fr) {o : Oper} (hnd : notDefer o.op = true) {K : S → T} (ok : Ok ρ s a w0 w R h F) (hl : L.length = s.dp) (hd : (stepV P cfg s o K).den P post L ρ) :
    o.wpIn Fr 0 P a w (Nx ⟨P, post, w0, F, ρ, R, L⟩ K) Q := by
  unfold stepV at hd
  split at hd
  · rename_i v ws hv
    exact callV_ok wf hv ok hl hd
  · exact opIn wf hnd (stepO_ok ok hl hd)
theorem runL_ok {Fr : Fence} (wf : WF Fr) {K : S → T} : ∀ (l : List Oper), (∀ o ∈ l, notDefer o.op = true) → ∀ {ρ : Env} {s : S} {a : Act} {w : World} {R h : PH} {L : List (Env → Prop)}, Ok ρ s a w0 w R h F → L.length = s.dp → (runL P cfg ops l s K).den P post L ρ →
    (∀ a w, Nx ⟨P, post, w0, F, ρ, R, L⟩ K a w → Q .normal a w) → wpListIn Fr 0 P ops Q l a w := by
  intro l
  induction l with
  | nil => intro _ ρ s a w R h L ok hl hd hQ; exact hQ a w (Nx.mk ok hl hd)
  | cons o r ih =>
    intro hnd ρ s a w R h L ok hl hd hQ
    obtain ⟨kn, ok', hh⟩ := guardO_ok ok hd
    simp only [wpListIn]
    rcases hh with ⟨hw, hh⟩ | ⟨hw, hh⟩
    · rw [if_pos hw]
      refine Oper.wpIn_mono (fun a' w' n => ?_) (stepV_ok wf (hnd o (List.mem_cons_self ..)) ok' (by exact hl) hh)
      obtain ⟨ρ', s', R', h', L', p1, p2, p3, p4, p5, p6⟩ := n
      exact ih (fun o ho => hnd o (List.mem_cons_of_mem _ ho)) p5 p4 p6 fun a'' w'' n => hQ a'' w'' (n.up p1 p2 p3)
    · rw [if_neg (by rw [hw]; simp)]
      exact ⟨fun f _ => wf.fn f, ih (fun o ho => hnd o (List.mem_cons_of_mem _ ho)) (ok'.put o.dst (.tup [])) (by rw [dp_put]; exact hl) hh hQ⟩

theorem allT_den {f : Nat → T} : ∀ {l : List Nat}, (allT f l).den P post L ρ → ∀ i ∈ l, (f i).den P post L ρ
  | [], _, i, hi => by cases hi
  | [x], h, i, hi => by
    cases hi with
    | head => exact h
    | tail _ hi => cases hi
  | x :: y :: r, h, i, hi => by
    cases hi with
    | head => exact h.1
    | tail _ hi => exact allT_den h.2 i hi
theorem firstFree_spec {tk : List (List Key)} {h0 : Hp} {listed : Array Bool} {D : List Nat} : ∀ {l : List Nat} {i : Nat} {o : Oper}, firstFree P cfg ops tk h0 listed s l = some (i, o, D) → i ∈ l ∧ ops[i]? = some o ∧ Region.free .any ops listed i = true ∧ depOk ops listed tk i D = true
  | [], _, _, h => by cases h
  | x :: r, i, o, h => by
    simp only [firstFree] at h
    split at h
    · cases h
    · rename_i o' ho
      have rest : firstFree P cfg ops tk h0 listed s r = some (i, o, D) → i ∈ x :: r ∧ ops[i]? = some o ∧ Region.free .any ops listed i = true ∧ depOk ops listed tk i D = true := fun h => by
        obtain ⟨h1, h2⟩ := firstFree_spec h
        exact ⟨List.mem_cons_of_mem _ h1, h2⟩
      split at h
      · rename_i hf
        split at h
        · rename_i hc
          cases h
          simp only [Bool.and_eq_true] at hc
          exact ⟨List.mem_cons_self .., ho, hf, hc.1⟩
        · split at h
          · rename_i hc
            cases h
            simp only [Bool.and_eq_true] at hc
            exact ⟨List.mem_cons_self .., ho, hf, hc.1⟩
          · exact rest h
      · exact rest h

theorem yields_in {Fr : Fence} (wf : WF Fr) {Si : World → Prop} {i : Nat} {o : Oper} {v : Value} (hi : ops[i]? = some o) (hnd : notDefer o.op = true) (hy : YieldsIf P ops Si o v a)
    {K : Act → World → Prop} (hS : Si w) (h : K (a.put o.dst v) w) : wpOpIn Fr 0 P ops Q i K a w := by
  unfold wpOpIn
  simp only [hi]
  rcases hy with ⟨hw, hv⟩ | ⟨hw, rfl⟩
  · simp only [hw, if_true]
    refine ⟨fun f _ => wf.fn f, ?_⟩
    rw [Oper.semAt_plain Fr _ _ (notDefer_ne hnd), hv w hS]
    simp only [Oper.uponIn]
    exact h
  · simp only [hw, Bool.false_eq_true, if_false]
    exact ⟨fun f _ => wf.fn f, h⟩
theorem putIf_in {Fr : Fence} (wf : WF Fr) {Si : World → Prop} {j : Nat} {oi oj : Oper} {v : Value} (hj : ops[j]? = some oj) (hnd : notDefer oj.op = true) (hap : oi.apart ops oj = true)
    (hsi : ∀ cs b, oi.op ≠ .select cs b) (hsj : ∀ cs b, oj.op ≠ .select cs b)
    (hQ : ∀ c a w, Q (.panic c) (a.put oi.dst v) w → Q (.panic c) a w) {K : Act → World → Prop}
    (hy : YieldsIf P ops Si oi v a) (h : wpOpIn Fr 0 P ops Q j K (a.put oi.dst v) w) :
    wpOpIn Fr 0 P ops Q j (fun a' w' => YieldsIf P ops Si oi v a' ∧ K (a'.put oi.dst v) w') a w := by
  obtain ⟨h1, h2, h3⟩ := Oper.apart_spec hap
  have keep : ∀ (a : Act), YieldsIf P ops Si oi v a → ∀ u, YieldsIf P ops Si oi v (a.put oj.dst u) := fun a hy u =>
    hy.of_same (execOp_put oi hsi a oj.dst u h3) (wanted_put oi a oj.dst u h3)
  unfold wpOpIn at *
  simp only [hj] at *
  rw [wanted_put oj a oi.dst v h1] at h
  split
  · rename_i hw
    simp only [hw, if_true] at h
    refine ⟨fun f _ => wf.fn f, ?_⟩
    have h := h.2
    rw [Oper.semAt_plain Fr _ _ (notDefer_ne hnd), execOp_put oj hsj a oi.dst v h1] at h
    rw [Oper.semAt_plain Fr _ _ (notDefer_ne hnd)]
    generalize (execOp a.eval oj).run P w = r at *
    cases r with
    | ok x w' =>
      cases x <;> simp only [Oper.uponIn] at h ⊢
      case value u => exact ⟨keep a hy u, by rw [← Act.put_comm a v u h2]; exact h⟩
      case skip => exact ⟨keep a hy _, by rw [← Act.put_comm a v undef h2]; exact h⟩
      case defer d =>
        refine ⟨(hy.of_same rfl rfl : YieldsIf P ops Si oi v { a with defers := d :: a.defers }).of_same (execOp_put oi hsi _ oj.dst _ h3) (wanted_put oi _ oj.dst _ h3), ?_⟩
        rw [← Act.put_comm _ v undef h2, ← Act.put_defers]
        exact h
      case enter f args =>
        refine ⟨h.1, CallsIn.mono h.2 fun e w'' he => ?_⟩
        cases e with
        | returned u => exact ⟨keep a hy u, by rw [← Act.put_comm a v u h2]; exact he⟩
        | panicked c => exact hQ _ _ _ he
        | outgrown => exact he
      case row row args => exact ⟨h.1, RowsIn.mono h.2 fun u w'' he => ⟨keep a hy u, by rw [← Act.put_comm a v u h2]; exact he⟩⟩
      case round l f tmps assign body =>
        refine ⟨h.1, RoundIn.mono h.2 fun e w'' he => ?_⟩
        cases e with
        | returned u => exact ⟨keep a hy u, by rw [← Act.put_comm a v u h2]; exact he⟩
        | panicked c => exact hQ _ _ _ he
        | outgrown => exact he
    | halt x w' =>
      cases x <;> simp only [Oper.uponIn] at h ⊢
      case panic u => exact hQ _ _ _ h
  · rename_i hw
    simp only [hw] at h
    exact ⟨fun f _ => wf.fn f, keep a hy _, by rw [← Act.put_comm a v undef h2]; exact h.2⟩
def wpAnyL (Fr : Fence) (P : Program) (ops : Array Oper) (Q : Exit → Act → World → Prop) (S : Array Bool → World → Prop) : Nat → Array Bool → Act → World → Prop
  | 0, listed, a, w => Region.ready .any ops listed = [] ∧ Q .normal a w
  | fuel + 1, listed, a, w => (Region.ready .any ops listed = [] → Q .normal a w) ∧
    ∀ i ∈ Region.ready .any ops listed, wpOpIn Fr 0 P ops Q i (fun a' w' => S (listed.setIfInBounds i true) w' ∧ wpAnyL Fr P ops Q S fuel (listed.setIfInBounds i true) a' w') a w
theorem wpAnyL_any {Fr : Fence} {Sc : Array Bool → World → Prop} : ∀ (fuel : Nat) (listed : Array Bool) (a : Act) (w : World), wpAnyL Fr P ops Q Sc fuel listed a w → wpAnyIn Fr 0 P .any ops Q fuel listed a w
  | 0, _, _, _, h => h
  | fuel + 1, _, _, _, h => ⟨h.1, fun i hi => wpOpIn_mono (fun a' w' h' => wpAnyL_any fuel _ a' w' h'.2) (h.2 i hi)⟩
theorem wpAnyL_done {Fr : Fence} {Sc : Array Bool → World → Prop} {listed : Array Bool} {a : Act} {w : World} (hr : Region.ready .any ops listed = []) (h : Q .normal a w) : ∀ fuel, wpAnyL Fr P ops Q Sc fuel listed a w
  | 0 => ⟨hr, h⟩
  | _ + 1 => ⟨fun _ => h, by rw [hr]; simp⟩
theorem wpAnyL_first {Fr : Fence} (wf : WF Fr) (hnd : ∀ o ∈ ops, notDefer o.op = true) {Sc : Array Bool → World → Prop} {Si : World → Prop} {Inv : Array Bool → Prop} {i : Nat} {oi : Oper} {v : Value} (hi : ops[i]? = some oi) (hsel : Region.noSelect ops = true) (hQ : ∀ c a w, ¬ Q (.panic c) a w)
    (h1 : ∀ l w, Sc (l.setIfInBounds i true) w → Sc l w) (h2 : ∀ l w, Inv l → Sc l w → Si w) (h3 : ∀ l j, Inv l → i ∈ Region.ready .any ops l → j ∈ Region.ready .any ops l → j ≠ i → Inv (l.setIfInBounds j true)) :
    ∀ (fuel : Nat) (listed : Array Bool) (a : Act) (w : World),
      (∀ j oj, ops[j]? = some oj → j ≠ i → listed.getD j true = false → (∀ e ∈ oj.after, Region.binds .any e = true → e.on ≠ i) → oi.apart ops oj = true) →
      i ∈ Region.ready .any ops listed → Inv listed → YieldsIf P ops Si oi v a → Sc listed w →
      wpAnyL Fr P ops Q Sc fuel (listed.setIfInBounds i true) (a.put oi.dst v) w → Sc (listed.setIfInBounds i true) w → wpAnyL Fr P ops Q Sc (fuel + 1) listed a w := by
  intro fuel
  induction fuel with
  | zero =>
    intro listed a w _ hr hI hy hS H hSi
    refine ⟨fun h => (by rw [h] at hr; cases hr), fun j hj => ?_⟩
    by_cases hji : j = i
    · subst hji; exact yields_in wf hi (hnd _ (Array.mem_of_getElem? hi)) hy (h2 _ _ hI hS) ⟨hSi, H⟩
    · have := ready_mono hj hji
      rw [H.1] at this
      cases this
  | succ fuel ih =>
    intro listed a w hfree hr hI hy hS H hSi
    refine ⟨fun h => (by rw [h] at hr; cases hr), fun j hj => ?_⟩
    by_cases hji : j = i
    · subst hji; exact yields_in wf hi (hnd _ (Array.mem_of_getElem? hi)) hy (h2 _ _ hI hS) ⟨hSi, H⟩
    · have hj' := H.2 j (ready_mono hj hji)
      obtain ⟨hjun, oj, hoj, hall⟩ := mem_ready.1 hj
      have hun := (mem_ready.1 hr).1
      have hnot : ∀ e ∈ oj.after, Region.binds .any e = true → e.on ≠ i := fun e he hb heq => by
        have q1 := hall e he hb
        rw [heq] at q1
        rcases Nat.lt_or_ge i listed.size with h' | h'
        · simp [h'] at hun q1; rw [hun] at q1; cases q1
        · simp [Array.getElem?_eq_none h'] at q1
      have q2 := putIf_in wf hoj (hnd _ (Array.mem_of_getElem? hoj)) (hfree j oj hoj hji hjun hnot) (fun cs b => Region.noSelect_spec hsel i oi cs b hi) (fun cs b => Region.noSelect_spec hsel j oj cs b hoj) (fun c a w h => absurd h (hQ c _ w)) hy hj'
      have hfree' : ∀ k ok, ops[k]? = some ok → k ≠ i → (listed.setIfInBounds j true).getD k true = false → (∀ e ∈ ok.after, Region.binds .any e = true → e.on ≠ i) → oi.apart ops ok = true := fun k ok hk hki hun' hno => by
        refine hfree k ok hk hki ?_ hno
        by_cases hjk : j = k
        · subst hjk; exact hjun
        · rw [getD_set_ne true hjk] at hun'; exact hun'
      refine wpOpIn_mono (fun a' w' q3 => ?_) q2
      obtain ⟨q3, q4, q5⟩ := q3
      rw [Array.setIfInBounds_comm _ _ (Ne.symm hji)] at q4 q5
      exact ⟨h1 _ _ q4, ih (listed.setIfInBounds j true) a' w' hfree' (ready_mono hr (Ne.symm hji)) (h3 _ _ hI hr hj hji) q3 (h1 _ _ q4) q5 q4⟩

def Kept (ρ : Env) (stab : Hp) (w : World) : Prop := ∃ R h F, Sat w R h F ∧ (hden ρ stab).p R h
theorem nodup_filter {l : Hp} (q : Key × C → Bool) (h : nodupH l = true) : nodupH (l.filter q) = true := by
  induction l with
  | nil => rfl
  | cons x r ih =>
    simp only [nodupH, Bool.and_eq_true, Bool.not_eq_true', List.contains_eq_mem, decide_eq_false_iff_not] at h
    rw [List.filter_cons]
    split
    · simp only [nodupH, Bool.and_eq_true, Bool.not_eq_true', List.contains_eq_mem, decide_eq_false_iff_not]
      exact ⟨fun hx => h.1 (List.mem_filter.1 hx).1, ih h.2⟩
    · exact ih h.2
theorem Kept.sub {ρ : Env} {l m : Hp} {w : World} (hn : nodupH m = true) (hs : ∀ x ∈ m, x ∈ l) : Kept ρ l w → Kept ρ m w := fun ⟨R, h, F, s, p⟩ => ⟨R, h, F, s, hden_sub hn hs p⟩
theorem stabAt_set {tk : List (List Key)} {h0 : Hp} {listed : Array Bool} {i : Nat} (hi : tk.getD i [] = []) {x : Key × C} (hx : x ∈ stabAt ops tk h0 listed) : x ∈ stabAt ops tk h0 (listed.setIfInBounds i true) := by
  obtain ⟨h1, h2⟩ := List.mem_filter.1 hx
  refine List.mem_filter.2 ⟨h1, List.all_eq_true.2 fun j hj => ?_⟩
  have := List.all_eq_true.1 h2 j hj
  by_cases hij : i = j
  · subst hij; rw [hi]; simp
  · rw [getD_set_ne false hij]; exact this
theorem splitG_ok {K : S → T} : ∀ (l : List Nat) {s : S}, Ok ρ s a w0 w R h F → (splitG ops l s K).den P post L ρ → ∃ kn, Ok ρ { s with kn := kn } a w0 w R h F ∧ (K { s with kn := kn }).den P post L ρ
  | [], s, ok, hd => ⟨s.kn, ok, hd⟩
  | i :: r, s, ok, hd => by
    simp only [splitG] at hd
    split at hd
    · obtain ⟨kn, ok', hh⟩ := brE_ok ok hd
      rcases hh with ⟨_, hh⟩ | ⟨_, hh⟩
      · obtain ⟨kn2, ok2, h2⟩ := splitG_ok r ok' hh
        exact ⟨kn2, ok2, h2⟩
      · obtain ⟨kn2, ok2, h2⟩ := splitG_ok r ok' hh
        exact ⟨kn2, ok2, h2⟩
    · exact splitG_ok r ok hd
set_option maxHeartbeats 800000 in
theorem runD_ok {Fr : Fence} (wf : WF Fr) (hnd : ∀ o ∈ ops, notDefer o.op = true) {K : S → T} {tk : List (List Key)} {h0 : Hp} {ρ0 : Env} (hn : nodupH h0 = true) (hb : hbel ρ0.length h0 = true) (hsel : Region.noSelect ops = true) (hp : ∀ c a w, ¬ Q (.panic c) a w) :
    ∀ (fuel : Nat) {listed : Array Bool} {ρ : Env} {s : S} {a : Act} {w : World} {R h : PH} {L : List (Env → Prop)}, ρ0 <+: ρ → (∀ x ∈ stabAt ops tk h0 listed, x ∈ s.h) → Ok ρ s a w0 w R h F → L.length = s.dp → (runD P cfg ops tk h0 fuel listed s K).den P post L ρ →
      (∀ a w, Nx ⟨P, post, w0, F, ρ, R, L⟩ K a w → Q .normal a w) → wpAnyL Fr P ops Q (fun l => Kept ρ0 (stabAt ops tk h0 l)) fuel listed a w := by
  have hbf : ∀ q : Key × C → Bool, hbel ρ0.length (h0.filter q) = true := fun q => List.all_eq_true.2 fun x hx => List.all_eq_true.1 hb x (List.mem_filter.1 hx).1
  have up : ∀ {ρ : Env} {w : World} (q : Key × C → Bool), ρ0 <+: ρ → (Kept ρ (h0.filter q) w ↔ Kept ρ0 (h0.filter q) w) := fun q hpre => by
    obtain ⟨x, rfl⟩ := hpre
    unfold Kept
    rw [hden_app (hbf q)]
  have okk : ∀ {ρ : Env} {s : S} {a : Act} {w : World} {R h : PH} {l : Array Bool}, ρ0 <+: ρ → (∀ x ∈ stabAt ops tk h0 l, x ∈ s.h) → Ok ρ s a w0 w R h F → Kept ρ0 (stabAt ops tk h0 l) w := fun hpre hst ok =>
    (up _ hpre).1 ⟨_, _, _, ok.sat, hden_sub (nodup_filter _ hn) hst ok.hp⟩
  intro fuel
  induction fuel with
  | zero =>
    intro listed ρ s a w R h L hpre hst ok hl hd hQ
    simp only [runD] at hd
    split at hd
    · rename_i hr; exact ⟨hr, hQ a w (Nx.mk ok hl hd)⟩
    · exact hd.elim
  | succ fuel ih =>
    intro listed ρ s a w R h L hpre hst ok hl hd hQ
    simp only [runD] at hd
    split at hd
    · rename_i hr; exact wpAnyL_done hr (hQ a w (Nx.mk ok hl hd)) _
    · rename_i hr
      suffices key : ∀ {s : S}, (∀ x ∈ stabAt ops tk h0 listed, x ∈ s.h) → Ok ρ s a w0 w R h F → L.length = s.dp → (stepD P cfg ops tk h0 listed (Region.ready .any ops listed) (fun l s => runD P cfg ops tk h0 fuel l s K) s).den P post L ρ → wpAnyL Fr P ops Q (fun l => Kept ρ0 (stabAt ops tk h0 l)) (fuel + 1) listed a w by
        split at hd
        · exact key hst ok hl hd
        · obtain ⟨kn, ok', hd'⟩ := splitG_ok _ ok hd
          exact key (s := { s with kn := kn }) hst ok' hl hd'
      clear hd hst ok hl s
      intro s hst ok hl hd
      have hS := okk hpre hst ok
      unfold stepD at hd
      split at hd
      · rename_i i o D hf
        obtain ⟨hi, ho, hfree, hdep⟩ := firstFree_spec hf
        simp only [depOk, Bool.and_eq_true, Bool.not_eq_true', decide_eq_true_eq, Nat.blt_eq] at hdep
        obtain ⟨⟨hDi, htk⟩, hD⟩ := hdep
        obtain ⟨kn, ok', hh⟩ := guardO_ok ok hd
        have hst' : ∀ x ∈ stabAt ops tk h0 (listed.setIfInBounds i true), x ∈ s.h := fun x hx => hst x (by
          obtain ⟨q1, q2⟩ := List.mem_filter.1 hx
          refine List.mem_filter.2 ⟨q1, List.all_eq_true.2 fun j hj => ?_⟩
          have := List.all_eq_true.1 q2 j hj
          by_cases hij : i = j
          · subst hij; rw [htk]; simp
          · rw [getD_set_ne false hij] at this; exact this)
        have hS' : Kept ρ0 (stabAt ops tk h0 (listed.setIfInBounds i true)) w := okk hpre hst' ok
        have a1 : ∀ l w, Kept ρ0 (stabAt ops tk h0 (l.setIfInBounds i true)) w → Kept ρ0 (stabAt ops tk h0 l) w := fun l w q =>
          Kept.sub (l := stabAt ops tk h0 (l.setIfInBounds i true)) (m := stabAt ops tk h0 l) (nodup_filter _ hn) (fun x hx => stabAt_set htk hx) q
        have a2 : ∀ l w, (∀ j ∈ D, l.getD j true = false) → Kept ρ0 (stabAt ops tk h0 l) w → Kept ρ0 (stabBut ops tk h0 D) w := fun l w hI q =>
          Kept.sub (l := stabAt ops tk h0 l) (m := stabBut ops tk h0 D) (nodup_filter _ hn) (fun x hx => by
            obtain ⟨q1, q2⟩ := List.mem_filter.1 hx
            refine List.mem_filter.2 ⟨q1, List.all_eq_true.2 fun j hj => ?_⟩
            have q3 := List.all_eq_true.1 q2 j hj
            by_cases hjD : j ∈ D
            · have := hI j hjD
              have e : l.getD j false = false := by
                cases hq : l[j]? with
                | none => simp [hq]
                | some b => simp [hq] at this ⊢; exact this
              rw [e]; rfl
            · have : D.contains j = false := by simpa using hjD
              rw [this] at q3
              simp only [Bool.false_or] at q3
              rw [q3]; simp) q
        have a3 : ∀ (l : Array Bool) (j : Nat), (∀ j ∈ D, l.getD j true = false) → i ∈ Region.ready .any ops l → j ∈ Region.ready .any ops l → j ≠ i → (∀ k ∈ D, (l.setIfInBounds j true).getD k true = false) := fun l j hI hri hrj hji k hk => by
          have hne : k ≠ j := fun e => by
            subst e
            have hDk := List.all_eq_true.1 hD k hk
            simp only [Bool.and_eq_true] at hDk
            obtain ⟨_, hDk⟩ := hDk
            obtain ⟨_, oj, hoj, hall⟩ := mem_ready.1 hrj
            rw [hoj] at hDk
            simp only [Array.any_eq_true'] at hDk
            obtain ⟨e, he, hDk⟩ := hDk
            simp only [Bool.and_eq_true, Bool.or_eq_true, beq_iff_eq] at hDk
            have q := hall e he hDk.1
            have un : l.getD e.on true = false := by
              rcases hDk.2 with e1 | e1
              · rw [e1]; exact (mem_ready.1 hri).1
              · exact hI e.on (by simpa using e1)
            cases hq : l[e.on]? with
            | none => simp [hq] at un
            | some b => simp [hq] at un q; rw [un] at q; cases q
          rw [getD_set_ne true (Ne.symm hne)]
          exact hI k hk
        have a4 : ∀ j ∈ D, listed.getD j true = false := fun j hj => by
          have := List.all_eq_true.1 hD j hj
          simp only [Bool.and_eq_true, Bool.not_eq_true'] at this
          exact this.1
        have take : ∀ (v : Value), YieldsIf P ops (Kept ρ0 (stabBut ops tk h0 D)) o v a → wpAnyL Fr P ops Q (fun l => Kept ρ0 (stabAt ops tk h0 l)) fuel (listed.setIfInBounds i true) (a.put o.dst v) w → wpAnyL Fr P ops Q (fun l => Kept ρ0 (stabAt ops tk h0 l)) (fuel + 1) listed a w := fun v hy H =>
          wpAnyL_first wf hnd (Sc := fun l => Kept ρ0 (stabAt ops tk h0 l)) (Si := Kept ρ0 (stabBut ops tk h0 D)) (Inv := fun l => ∀ j ∈ D, l.getD j true = false) ho hsel hp a1 a2 a3 fuel listed a w (Region.free_spec ho hfree) hi a4 hy hS H hS'
        rcases hh with ⟨hw, hh⟩ | ⟨hw, hh⟩
        · simp only at hh
          split at hh
          · rename_i es v hpo
            obtain ⟨kn2, ok2, hes, hk⟩ := needs_ok ok' hh
            have hnext := ih hpre (by cases o.dst <;> exact hst') (ok2.put o.dst v) (by rw [dp_put]; exact hl) hk hQ
            refine take (v.den ρ) (.inl ⟨hw, fun w' hw' => ?_⟩) hnext
            obtain ⟨R1, x1, F1, s1, p1⟩ := (up _ hpre).2 hw'
            exact pureOp_run hpo ok'.tm ok'.kn ⟨R1, x1, F1, s1, p1⟩ hes
          · split at hh
            · rename_i ar cons r hrc
              unfold readC at hrc
              split at hrc
              · rename_i hc
                simp only [Bool.and_eq_true, Bool.not_eq_true'] at hc
                split at hrc
                · cases hrc
                · rename_i ar' har
                  simp only at hrc
                  split at hrc
                  · rename_i hb
                    cases hrc
                    simp only [Bool.and_eq_true, decide_eq_true_eq] at hb
                    obtain ⟨⟨⟨hnd, hsb⟩, hbel'⟩, hrn⟩ := hb
                    obtain ⟨xs, hxl, hr, hk⟩ := exP_elim hh
                    have hsem := semOf_eq ok'.tm hc.2 har
                    have k1 := ok'.app hbel' xs _ (hrn.trans (by rw [hxl]))
                    have k2 : Ok (ρ ++ xs) { s with kn := kn, n := (resRS P cfg { s with kn := kn } o).n, lk := linksOf o.op { s with kn := kn } s.n (resRS P cfg { s with kn := kn } o).v ++ s.lk } a w0 w R h F := ⟨k1.dfr, k1.tm, k1.len, k1.kn, k1.hp, k1.sat, k1.same⟩
                    have hnext := ih (hpre.trans (List.prefix_append ρ xs)) (by cases o.dst <;> exact hst') (k2.put o.dst _) (by rw [dp_put]; exact hl) hk fun a'' w'' n => hQ a'' w'' (n.up (List.prefix_append ρ xs) (PH.le.refl _) (List.suffix_refl _))
                    refine take _ (.inl ⟨hw, fun w' hw' => ?_⟩) hnext
                    obtain ⟨R1, x1, F1, s1, p1⟩ := (up _ hpre).2 hw'
                    rw [hsem]
                    exact hr w' R1 x1 F1 s1 (hden_sub hnd (fun x hx => List.contains_iff_mem.1 (List.all_eq_true.1 hsb x hx)) p1)
                  · cases hrc
              · cases hrc
            · exact hh.elim
        · have hnext := ih hpre (by cases o.dst <;> exact hst') (ok'.put o.dst (.tup [])) (by rw [dp_put]; exact hl) hh hQ
          exact take undef (.inr ⟨hw, rfl⟩) hnext
      · refine ⟨fun h0 => absurd h0 hr, fun i hi => ?_⟩
        have hone := allT_den hd i hi
        unfold wpOpIn
        split at hone
        · exact hone.elim
        · rename_i o ho
          rw [ho]
          simp only
          obtain ⟨kn, ok', hh⟩ := guardO_ok ok hone
          rcases hh with ⟨hw, hh⟩ | ⟨hw, hh⟩
          · rw [if_pos hw]
            refine Oper.wpIn_mono (fun a' w' n => ?_) (stepV_ok wf (hnd _ (Array.mem_of_getElem? ho)) ok' (by exact hl) hh)
            obtain ⟨ρ', s', R', h', L', p1, p2, p3, p4, p5, p6⟩ := n
            simp only at p6
            split at p6
            · rename_i hc
              have hst' : ∀ x ∈ stabAt ops tk h0 (listed.setIfInBounds i true), x ∈ s'.h := fun x hx => by simpa using List.all_eq_true.1 hc x hx
              exact ⟨okk (hpre.trans p1) hst' p5, ih (hpre.trans p1) hst' p5 p4 p6 fun a'' w'' n => hQ a'' w'' (n.up p1 p2 p3)⟩
            · exact p6.elim
          · rw [if_neg (by rw [hw]; simp)]
            have hst' : ∀ x ∈ stabAt ops tk h0 (listed.setIfInBounds i true), x ∈ s.h := fun x hx => hst x (by
              obtain ⟨q1, q2⟩ := List.mem_filter.1 hx
              refine List.mem_filter.2 ⟨q1, List.all_eq_true.2 fun j hj => ?_⟩
              have := List.all_eq_true.1 q2 j hj
              by_cases hij : i = j
              · subst hij
                simp only [Bool.or_eq_true, Bool.not_eq_true'] at this ⊢
                exact .inl (by
                  have := (mem_ready.1 hi).1
                  cases hq : listed[i]? with
                  | none => simp [hq]
                  | some b => simp [hq] at this ⊢; exact this)
              · rw [getD_set_ne false hij] at this; exact this)
            exact ⟨fun f _ => wf.fn f, okk hpre hst' ok, ih hpre (by cases o.dst <;> exact hst') (ok'.put o.dst (.tup [])) (by rw [dp_put]; exact hl) hh hQ⟩
end
end Go.Proofs.YtbmajijnjkicmaaGreatDoor.RX



namespace Go.Proofs.YtbmajijnjkicmaaGreatDoor.RX
open Go.Proofs.YtbmajijnjkicmaaGreatDoor

section
variable {P : Program} {post : Value → HP} {w0 w : World} {F R h : PH} {ρ : Env} {L : List (Env → Prop)} {s : S} {a : Act} {cfg : Cfg}


theorem oneC_self {v : Value} (h : v.oneCell' = true) : oneC v = v := by cases v <;> first | rfl | cases h
theorem okA_den {base : Nat} {fr : List FV} {x y : A} (h : okA base fr x y = true) {ρ ρ2 : Env} (hl : ρ.length = base) (hp : ρ <+: ρ2) : x.den (ρ ++ fr.map (FV.den ρ2)) = y.den ρ2 := by
  obtain ⟨z, rfl⟩ := hp
  have hf : ∀ {j : Nat} {f : FV}, base ≤ j → fr[j - base]? = some f → look (ρ ++ fr.map (FV.den (ρ ++ z))) j = f.den (ρ ++ z) := by
    intro j f hj hf
    have : ∀ (r : Env) (q : List FV) (i : Nat), q[i]? = some f → look (r ++ q.map (FV.den (ρ ++ z))) (r.length + i) = f.den (ρ ++ z) := by
      intro r
      induction r with
      | nil =>
        intro q
        induction q with
        | nil => intro i hi; cases hi
        | cons u v ih => intro i hi; cases i with
          | zero => simp only [List.getElem?_cons_zero, Option.some.injEq] at hi; subst hi; rfl
          | succ i => simp only [List.length_nil, Nat.zero_add, List.nil_append, List.map_cons, look] at ih ⊢; exact ih i (by simpa using hi)
      | cons u v ih =>
        intro q i hi
        simp only [List.length_cons, List.cons_append]
        rw [show v.length + 1 + i = (v.length + i) + 1 by omega]
        exact ih q i hi
    have := this ρ fr (j - base) hf
    rwa [hl, show base + (j - base) = j by omega] at this
  unfold okA at h
  simp only [Bool.or_eq_true, Bool.and_eq_true, decide_eq_true_eq, Nat.blt_eq] at h
  rcases h with ⟨rfl, hb⟩ | h
  · rw [← hl] at hb
    rw [A.app hb, A.app hb]
  · split at h <;> first | (cases h; done) | simp only [Bool.and_eq_true, decide_eq_true_eq, Nat.blt_eq] at h
    · obtain ⟨⟨h1, rfl⟩, h3⟩ := h
      simp only [A.den, E.den, hf h1 h3, FV.den, F1.app, Uni.int_i, Int.neg_neg]
    · obtain ⟨h1, h3⟩ := h
      simp only [A.den, E.den, hf h1 h3, FV.den, F1.app, Uni.bool_c, Bool.not_not]
    · obtain ⟨h1, h3⟩ := h
      simp only [A.den, E.den, hf h1 h3, FV.den, F2.app, Uni.str_s, List.append_nil]
    · obtain ⟨⟨h1, rfl⟩, h3⟩ := h
      simp only [A.den, BR.den, hf h1 h3, FV.den, Uni.nat_n]
    · obtain ⟨⟨⟨⟨⟨h1, h2⟩, h3⟩, h4⟩, h5⟩, h6⟩ := h
      simp only [A.den, SA.den, E.den, hf h1 h4, hf h2 h5, hf h3 h6, FV.den, F2.app, Uni.adr_a, Uni.nat_n, Nat.add_zero]
    · obtain ⟨h1, h3⟩ := h
      simp only [A.den, BR.den, hf h1 h3, FV.den, Uni.nat_n]
    · obtain ⟨h1, h3⟩ := h
      show oneC (look _ _).val = _
      rw [hf h1 h3]
      exact oneC_self (A.one _ _)
theorem okAs_den {base : Nat} {fr : List FV} : ∀ {x y : List A}, okAs base fr x y = true → ∀ {ρ ρ2 : Env}, ρ.length = base → ρ <+: ρ2 → x.map (A.den (ρ ++ fr.map (FV.den ρ2))) = y.map (A.den ρ2)
  | [], [], _, _, _, _, _ => rfl
  | x :: r, y :: q, h, ρ, ρ2, hl, hp => by
    simp only [okAs, Bool.and_eq_true] at h
    simp only [List.map_cons, okA_den h.1 hl hp, okAs_den h.2 hl hp]
  | [], _ :: _, h, _, _, _, _ => by cases h
  | _ :: _, [], h, _, _, _, _ => by cases h
theorem okW_den {base : Nat} {fr : List FV} {x y : W} (h : okW base fr x y = true) {ρ ρ2 : Env} (hl : ρ.length = base) (hp : ρ <+: ρ2) : x.den (ρ ++ fr.map (FV.den ρ2)) = y.den ρ2 := by
  cases x <;> cases y <;> simp only [okW] at h <;> first | (cases h; done) | skip
  · exact okA_den h hl hp
  · simp only [W.den, okAs_den h hl hp]
theorem okT_len {base : Nat} {fr : List FV} : ∀ {x y : List (Option V)}, okT base fr x y = true → x.length = y.length
  | [], [], _ => rfl
  | none :: r, y :: q, h => by simp only [okT] at h; simp [okT_len h]
  | some (.w x) :: r, some (.w y) :: q, h => by simp only [okT, Bool.and_eq_true] at h; simp [okT_len h.2]
  | some (.tup x) :: r, some (.tup y) :: q, h => by simp only [okT, Bool.and_eq_true] at h; simp [okT_len h.2]
  | [], _ :: _, h => by simp [okT] at h
  | some (.w _) :: _, [], h => by simp [okT] at h
  | some (.tup _) :: _, [], h => by simp [okT] at h
  | none :: _, [], h => by simp [okT] at h
  | some (.w _) :: _, none :: _, h => by simp [okT] at h
  | some (.tup _) :: _, none :: _, h => by simp [okT] at h
  | some (.w _) :: _, some (.tup _) :: _, h => by simp [okT] at h
  | some (.tup _) :: _, some (.w _) :: _, h => by simp [okT] at h
theorem okT_den {base : Nat} {fr : List FV} : ∀ {x y : List (Option V)}, okT base fr x y = true → ∀ {ρ ρ2 : Env}, ρ.length = base → ρ <+: ρ2 → ∀ (i : Nat) (v : V), x[i]? = some (some v) → ∃ u, y[i]? = some (some u) ∧ v.den (ρ ++ fr.map (FV.den ρ2)) = u.den ρ2
  | [], _, _, _, _, _, _, i, v, hi => by simp at hi
  | x :: r, [], h, _, _, _, _, _, _, _ => by have := okT_len h; simp at this
  | x :: r, y :: q, h, ρ, ρ2, hl, hp, 0, v, hi => by
    simp only [List.getElem?_cons_zero, Option.some.injEq] at hi
    subst hi
    cases y with
    | none => cases v <;> simp [okT] at h
    | some u =>
      refine ⟨u, rfl, ?_⟩
      cases v <;> cases u <;> simp only [okT, Bool.and_eq_true, decide_eq_true_eq, Nat.blt_eq] at h <;> first | (cases h; done) | skip
      · exact okW_den h.1 hl hp
      · obtain ⟨⟨rfl, hb⟩, hrest⟩ := h
        obtain ⟨z, rfl⟩ := hp
        rename_i q0
        have hb' : V.bel ρ.length (.tup q0) = true := by rw [hl]; exact hb
        rw [V.app hb', V.app hb']
  | x :: r, y :: q, h, ρ, ρ2, hl, hp, i + 1, v, hi => by
    simp only [List.getElem?_cons_succ] at hi ⊢
    have h' : okT base fr r q = true := by
      cases x with
      | none => simpa [okT] using h
      | some x =>
        cases y with
        | none => cases x <;> simp [okT] at h
        | some y => cases x <;> cases y <;> simp only [okT, Bool.and_eq_true] at h <;> first | (cases h; done) | exact h.2
    exact okT_den h' hl hp i v hi
theorem look_fr {ρ ρ2 : Env} {base : Nat} (hl : ρ.length = base) {fr : List FV} {j : Nat} {f : FV} (hj : base ≤ j) (hf : fr[j - base]? = some f) : look (ρ ++ fr.map (FV.den ρ2)) j = f.den ρ2 := by
  have : ∀ (r : Env) (q : List FV) (i : Nat), q[i]? = some f → look (r ++ q.map (FV.den ρ2)) (r.length + i) = f.den ρ2 := by
    intro r
    induction r with
    | nil =>
      intro q
      induction q with
      | nil => intro i hi; cases hi
      | cons u v ih => intro i hi; cases i with
        | zero => simp only [List.getElem?_cons_zero, Option.some.injEq] at hi; subst hi; rfl
        | succ i => simp only [List.length_nil, Nat.zero_add, List.nil_append, List.map_cons, look] at ih ⊢; exact ih i (by simpa using hi)
    | cons u v ih =>
      intro q i hi
      simp only [List.length_cons, List.cons_append]
      rw [show v.length + 1 + i = (v.length + i) + 1 by omega]
      exact ih q i hi
  have := this ρ fr (j - base) hf
  rwa [hl, show base + (j - base) = j by omega] at this
theorem partsH_den {base : Nat} {fr : List FV} {h0 : Hp} : ∀ {m l : Hp}, partsH base fr h0 m = some l → ∀ {ρ ρ2 : Env}, ρ.length = base → ρ <+: ρ2 → ∀ {R h : PH}, (hden ρ2 l).p R h → (hden (ρ ++ fr.map (FV.den ρ2)) m).p R h
  | [], l, _, _, _, _, _, _, _, _ => trivial
  | (k, c) :: r, l, e, ρ, ρ2, hl, hp, R, h, H => by
    simp only [partsH] at e
    split at e
    · cases e
    · rename_i q hq
      have ih : ∀ {x : PH}, (hden ρ2 q).p R x → (hden (ρ ++ fr.map (FV.den ρ2)) r).p R x := fun hx => partsH_den hq hl hp hx
      have same : ∀ x : Key × C, (x.1.bel base && x.2.bel base) = true → cden (ρ ++ fr.map (FV.den ρ2)) x = cden ρ2 x := fun x hb => by
        obtain ⟨z, rfl⟩ := hp
        rw [← hl] at hb
        rw [cden_app hb, cden_app hb]
      split at e
      · rename_i x ty
        split at e
        · rename_i y hy
          cases e
          have hs := List.find?_some hy
          simp only [Bool.and_eq_true] at hs
          obtain ⟨⟨hB, hk⟩, hc⟩ := hs
          have H1 := (hden_cons ρ2 y q R h).1 H
          refine (hden_cons _ _ _ _ _).2 (HP.sep_mono H1 (fun _ hh => ?_) fun _ hh => ih hh)
          obtain ⟨yk, yc⟩ := y
          cases yc with
          | cells z ty' =>
            simp only [Bool.and_eq_true, decide_eq_true_eq, Nat.blt_eq] at hc
            obtain ⟨hz, rfl⟩ := hc
            cases k with
            | a j => cases hB
            | b rr =>
              cases yk with
              | a j => cases rr <;> simp [okK] at hk
              | b rr' =>
                simp only [cden] at hh ⊢
                rw [okAs_den hz hl hp]
                have : rr.den (ρ ++ fr.map (FV.den ρ2)) = rr'.den ρ2 := by
                  cases rr with
                  | g n => simp only [okK, decide_eq_true_eq, Nat.blt_eq] at hk; subst hk; rfl
                  | v j =>
                    simp only [okK] at hk
                    split at hk
                    · rename_i hj
                      have hk' : fr[j - base]? = some (.n rr') := by simpa using hk
                      simp only [BR.den, look_fr hl hj hk', FV.den, Uni.nat_n]
                    · rename_i hj
                      have hk' : rr' = .v j := by simpa using hk
                      subst hk'
                      obtain ⟨z', rfl⟩ := hp
                      have hb : BR.bel ρ.length (.v j) = true := by simp [BR.bel]; omega
                      rw [BR.app hb, BR.app hb]
                rw [this]; exact hh
          | emap => simp at hc
          | dfr => simp at hc
          | prop j => simp at hc
        · cases e
      · split at e
        · rename_i hc
          cases e
          simp only [Bool.and_eq_true] at hc
          have H1 := (hden_cons ρ2 _ q R h).1 H
          refine (hden_cons _ _ _ _ _).2 (HP.sep_mono H1 (fun _ hh => ?_) fun _ hh => ih hh)
          rw [same _ (by simp [hc.1, C.bel])]; exact hh
        · cases e
      · split at e
        · rename_i hc
          cases e
          simp only [Bool.and_eq_true] at hc
          have H1 := (hden_cons ρ2 _ q R h).1 H
          refine (hden_cons _ _ _ _ _).2 (HP.sep_mono H1 (fun _ hh => ?_) fun _ hh => ih hh)
          rw [same _ (by simp [hc.1, C.bel])]; exact hh
        · cases e
      · rename_i j
        split at e
        · rename_i hj
          split at e
          · rename_i f q' hf
            cases e
            have H1 := hden_app2.1 H
            refine (hden_cons _ _ _ _ _).2 (HP.sep_mono H1 (fun _ hh => ?_) fun _ hh => ih hh)
            have : cden (ρ ++ fr.map (FV.den ρ2)) (k, .prop j) = hden ρ2 q' := by
              cases k <;> simp only [cden, look_fr hl hj hf, FV.den, Uni.hp_p]
            rw [this]; exact hh
          · cases e
        · rename_i hj
          split at e
          · rename_i hc
            cases e
            simp only [Bool.and_eq_true] at hc
            have H1 := (hden_cons ρ2 _ q R h).1 H
            refine (hden_cons _ _ _ _ _).2 (HP.sep_mono H1 (fun _ hh => ?_) fun _ hh => ih hh)
            rw [same _ (by simp [hc.1, C.bel]; omega)]; exact hh
          · cases e
theorem okS_ok {hd : S} {ss : List So} {fr : List FV} {ρ ρ2 : Env} {s : S} {base : Nat} (hl : ρ.length = base) (c : okS base ss hd s fr = true) (hp : ρ <+: ρ2) (ok : Ok ρ2 s a w0 w R h F) (hkn : ∀ x ∈ hd.kn, (x.1.den ρ).bool = x.2) : Ok (ρ ++ fr.map (FV.den ρ2)) hd a w0 w R h F := by
  subst hl
  simp only [okS, Bool.and_eq_true, decide_eq_true_eq, Nat.blt_eq] at c
  obtain ⟨⟨⟨⟨⟨⟨c1, c2⟩, c3⟩, c4⟩, c5⟩, c6⟩, c7, c8⟩ := c
  refine ⟨?_, ⟨by rw [ok.tm.1, okT_len c1], fun i v hi => ?_⟩, by simp [c4, c5], fun x hx => ?_, ?_, ok.sat, ok.same⟩
  · rw [ok.dfr, ← c7]
    obtain ⟨z, rfl⟩ := hp
    exact List.map_congr_left fun r hr => by unfold markOf; rw [BR.app (List.all_eq_true.1 c8 r hr), BR.app (List.all_eq_true.1 c8 r hr)]
  · obtain ⟨u, hu, he⟩ := okT_den c1 rfl hp i v hi
    rw [he]
    exact ok.tm.2 i u hu
  · rw [E.app (List.all_eq_true.1 c6 x hx)]; exact hkn x hx
  · split at c2
    · rename_i l hl
      simp only [Bool.and_eq_true] at c2
      exact partsH_den hl rfl hp (hden_sub c2.1 (fun x hx => by simpa using List.all_eq_true.1 c2.2 x hx) ok.hp)
    · cases c2
def sorted : List So → Env → Prop
  | [], [] => True
  | .n :: r, .n _ :: x => sorted r x
  | .i :: r, .i _ :: x => sorted r x
  | .c :: r, .c _ :: x => sorted r x
  | .s :: r, .s _ :: x => sorted r x
  | .a :: r, .a _ :: x => sorted r x
  | .v :: r, .v _ :: x => sorted r x
  | .p :: r, .p _ :: x => sorted r x
  | _, _ => False
theorem allP_elim : ∀ {ss : List So} {ρ : Env} {f : Env → Prop} {xs : Env}, allP ss ρ f → sorted ss xs → f (ρ ++ xs)
  | [], ρ, f, [], h, _ => by simpa [allP] using h
  | [], _, _, _ :: _, _, hs => by simp [sorted] at hs
  | t :: r, ρ, f, [], _, hs => by cases t <;> simp [sorted] at hs
  | .n :: r, ρ, f, .n x :: xs, h, hs | .i :: r, ρ, f, .i x :: xs, h, hs | .c :: r, ρ, f, .c x :: xs, h, hs | .s :: r, ρ, f, .s x :: xs, h, hs | .a :: r, ρ, f, .a x :: xs, h, hs | .v :: r, ρ, f, .v x :: xs, h, hs | .p :: r, ρ, f, .p x :: xs, h, hs => by
    have := allP_elim (h x) hs
    simpa using this
  | .n :: _, _, _, .i _ :: _, _, hs | .n :: _, _, _, .c _ :: _, _, hs | .n :: _, _, _, .s _ :: _, _, hs | .n :: _, _, _, .a _ :: _, _, hs | .n :: _, _, _, .v _ :: _, _, hs | .n :: _, _, _, .p _ :: _, _, hs
  | .i :: _, _, _, .n _ :: _, _, hs | .i :: _, _, _, .c _ :: _, _, hs | .i :: _, _, _, .s _ :: _, _, hs | .i :: _, _, _, .a _ :: _, _, hs | .i :: _, _, _, .v _ :: _, _, hs | .i :: _, _, _, .p _ :: _, _, hs
  | .c :: _, _, _, .n _ :: _, _, hs | .c :: _, _, _, .i _ :: _, _, hs | .c :: _, _, _, .s _ :: _, _, hs | .c :: _, _, _, .a _ :: _, _, hs | .c :: _, _, _, .v _ :: _, _, hs | .c :: _, _, _, .p _ :: _, _, hs
  | .s :: _, _, _, .n _ :: _, _, hs | .s :: _, _, _, .i _ :: _, _, hs | .s :: _, _, _, .c _ :: _, _, hs | .s :: _, _, _, .a _ :: _, _, hs | .s :: _, _, _, .v _ :: _, _, hs | .s :: _, _, _, .p _ :: _, _, hs
  | .a :: _, _, _, .n _ :: _, _, hs | .a :: _, _, _, .i _ :: _, _, hs | .a :: _, _, _, .c _ :: _, _, hs | .a :: _, _, _, .s _ :: _, _, hs | .a :: _, _, _, .v _ :: _, _, hs | .a :: _, _, _, .p _ :: _, _, hs
  | .v :: _, _, _, .n _ :: _, _, hs | .v :: _, _, _, .i _ :: _, _, hs | .v :: _, _, _, .c _ :: _, _, hs | .v :: _, _, _, .s _ :: _, _, hs | .v :: _, _, _, .a _ :: _, _, hs | .v :: _, _, _, .p _ :: _, _, hs
  | .p :: _, _, _, .n _ :: _, _, hs | .p :: _, _, _, .i _ :: _, _, hs | .p :: _, _, _, .c _ :: _, _, hs | .p :: _, _, _, .s _ :: _, _, hs | .p :: _, _, _, .a _ :: _, _, hs | .p :: _, _, _, .v _ :: _, _, hs => by simp [sorted] at hs
theorem so_one {ρ : Env} (f : FV) {ss : List So} {xs : Env} (h : (FV.so f).length = 1) (hs : sorted ss xs) : sorted (FV.so f ++ ss) (f.den ρ :: xs) := by
  unfold FV.so at h ⊢
  split at h <;> simp at h <;> simpa [FV.den, E.den, F1.app, F2.app, sorted] using hs
theorem fr_sorted (ρ : Env) : ∀ {fr : List FV} {ss : List So}, fr.flatMap FV.so = ss → fr.length = ss.length → sorted ss (fr.map (FV.den ρ))
  | [], ss, h, _ => by simp at h; subst h; trivial
  | f :: r, ss, h, hl => by
    have hlen : ∀ q : List FV, (q.flatMap FV.so).length ≤ q.length := fun q => by
      induction q with
      | nil => simp
      | cons g t ih =>
        simp only [List.flatMap_cons, List.length_append, List.length_cons]
        have : (FV.so g).length ≤ 1 := by unfold FV.so; split <;> simp
        omega
    have h1 : (FV.so f).length = 1 := by
      have := hlen r
      subst h
      simp only [List.flatMap_cons, List.length_append, List.length_cons] at hl
      have : (FV.so f).length ≤ 1 := by unfold FV.so; split <;> simp
      omega
    subst h
    have hr : r.length = (r.flatMap FV.so).length := by
      simp only [List.flatMap_cons, List.length_append, List.length_cons] at hl
      omega
    have ih := fr_sorted ρ (fr := r) rfl hr
    simp only [List.flatMap_cons, List.map_cons]
    exact so_one f h1 ih
end
end Go.Proofs.YtbmajijnjkicmaaGreatDoor.RX



namespace Go.Proofs.YtbmajijnjkicmaaGreatDoor.RX
open Go.Proofs.YtbmajijnjkicmaaGreatDoor

def Reach (c : Ctx) (K : Ex → S → T) : Exit → Act → World → Prop
  | .normal, a, w => Nx c (K .norm) a w
  | .exit id, a, w => Nx c (K (.exit id)) a w
  | .ret, a, w => Nx c (K .ret) a w
  | _, _, _ => False

section
variable {P : Program} {post : Value → HP} {w0 : World} {F : PH} {cfg : Cfg}

theorem Reach.up {K : Ex → S → T} {ρ ρ' : Env} {R R' : PH} {L L' : List (Env → Prop)} {e : Exit} {a : Act} {w : World} (p1 : ρ <+: ρ') (p2 : R.le R') (p3 : L <:+ L') (n : Reach ⟨P, post, w0, F, ρ', R', L'⟩ K e a w) : Reach ⟨P, post, w0, F, ρ, R, L⟩ K e a w := by
  cases e <;> first | exact Nx.up p1 p2 p3 n | exact n

theorem hden_unfilter {ρ : Env} (q : Key × C → Bool) {l : Hp} {R h : PH} (H : (HP.sep (hden ρ (l.filter q)) (hden ρ (l.filter fun x => !q x))).p R h) : (hden ρ l).p R h := by
  induction l generalizing h with
  | nil => trivial
  | cons x r ih =>
    rw [List.filter_cons, List.filter_cons] at H
    cases hq : q x with
    | true =>
      simp only [hq, if_true, Bool.not_true, Bool.false_eq_true, if_false] at H
      exact (hden_cons ρ x r R h).2 (HP.sep_mono (HP.sep_assoc (HP.sep_mono H (fun _ h => (hden_cons ρ x _ _ _).1 h) fun _ h => h)) (fun _ h => h) fun _ h => ih h)
    | false =>
      simp only [hq, Bool.false_eq_true, if_false, Bool.not_false, if_true] at H
      have H2 := HP.sep_comm H
      have H3 := HP.sep_assoc (HP.sep_mono H2 (fun _ h => (hden_cons ρ x _ _ _).1 h) fun _ h => h)
      exact (hden_cons ρ x r R h).2 (HP.sep_mono H3 (fun _ h => h) fun _ h => ih (HP.sep_comm h))
theorem okS_hp {hd : S} {ss : List So} {fr : List FV} {ρ ρ2 : Env} {s : S} {base : Nat} {R h : PH} (hl : ρ.length = base) (c : okS base ss hd s fr = true) (hp : ρ <+: ρ2) (H : (hden ρ2 s.h).p R h) : (hden (ρ ++ fr.map (FV.den ρ2)) hd.h).p R h := by
  simp only [okS, Bool.and_eq_true, decide_eq_true_eq, Nat.blt_eq] at c
  have c2 := c.1.1.1.1.1.2
  split at c2
  · rename_i l hl'
    simp only [Bool.and_eq_true] at c2
    exact partsH_den hl' hl hp (hden_sub c2.1 (fun x hx => by simpa using List.all_eq_true.1 c2.2 x hx) H)
  · cases c2
theorem okS_so {hd : S} {ss : List So} {fr : List FV} {s : S} {base : Nat} (c : okS base ss hd s fr = true) (ρ : Env) : sorted ss (fr.map (FV.den ρ)) ∧ fr.length = ss.length ∧ hd.n = base + ss.length := by
  simp only [okS, Bool.and_eq_true, decide_eq_true_eq, Nat.blt_eq] at c
  exact ⟨fr_sorted ρ c.1.1.1.1.2 c.1.1.1.2, c.1.1.1.2, c.1.1.2⟩
theorem sorted_len : ∀ {ss : List So} {xs : Env}, sorted ss xs → xs.length = ss.length
  | [], [], _ => rfl
  | [], _ :: _, h => by simp [sorted] at h
  | t :: r, [], h => by cases t <;> simp [sorted] at h
  | t :: r, x :: xs, h => by cases t <;> cases x <;> simp only [sorted] at h <;> first | (simp only [List.length_cons, sorted_len h]; done) | exact h.elim
theorem _root_.Go.Proofs.YtbmajijnjkicmaaGreatDoor.Sat.turnF {w : World} {R h F : PH} (s : Sat w R h F) {l : Nat} {x : Obj} (hb : F l = some x) (y : Obj) : Sat (w.putObj l y) R h (fun k => if k = l then some y else F k) := by
  have hR : R l = none := (s.dRF l).resolve_right (by rw [hb]; simp)
  have hh : h l = none := (s.dhF l).resolve_right (by rw [hb]; simp)
  have keep : ∀ g : PH, g.own w → g l = none → g.own (w.putObj l y) := fun g og gl k o e => by
    rw [World.putObj_heap_other (fun e' => by subst e'; rw [gl] at e; cases e)]; exact og k o e
  refine ⟨s.dRh, fun k => ?_, fun k => ?_, keep R s.oR hR, keep h s.oh hh, fun k o e => ?_, s.gl⟩
  · by_cases e : k = l
    · subst e; exact .inl hR
    · simp only [e, if_false]; exact s.dRF k
  · by_cases e : k = l
    · subst e; exact .inl hh
    · simp only [e, if_false]; exact s.dhF k
  · by_cases e' : k = l
    · subst e'
      simp only [if_true] at e
      cases e
      exact World.putObj_heap_same (s.oF.lt hb)
    · simp only [e', if_false] at e
      rw [World.putObj_heap_other e']; exact s.oF k o e
theorem _root_.Go.Proofs.YtbmajijnjkicmaaGreatDoor.Sat.unframe {w : World} {R h F G : PH} (s : Sat w R h F) {l : Nat} {x : Obj} (hb : F l = some x) (hG : G.le F) (hGl : G l = none) : Sat w R (h.un (PH.one l x)) G ∧ h.dj (PH.one l x) := by
  have hR : R l = none := (s.dRF l).resolve_right (by rw [hb]; simp)
  have hh : h l = none := (s.dhF l).resolve_right (by rw [hb]; simp)
  have d1 : h.dj (PH.one l x) := fun k => by
    by_cases e : k = l
    · subst e; exact .inl hh
    · exact .inr (if_neg e)
  refine ⟨⟨(PH.dj_un s.dRh.symm (fun k => ?_)).symm, s.dRF.le (PH.le.refl _) hG, PH.dj_un (s.dhF.le (PH.le.refl _) hG) (fun k => ?_), s.oR, fun k o e => ?_, s.oF.le hG, s.gl⟩, d1⟩
  · by_cases e : k = l
    · subst e; exact .inr hR
    · exact .inl (if_neg e)
  · by_cases e : k = l
    · subst e; exact .inr hGl
    · exact .inl (if_neg e)
  · rcases PH.un_some e with e | e
    · exact s.oh k o e
    · obtain ⟨rfl, rfl⟩ := PH.one_some e; exact s.oF _ _ hb
theorem Same.putObj (w : World) (l : Nat) (o : Obj) : Same w (w.putObj l o) := ⟨rfl, rfl, rfl, by simp⟩
theorem Tm.sets {ρ : Env} : ∀ (l : List (Tmp × W)) {t : List (Option V)} {a : Act}, Tm ρ t a →
    Tm ρ (l.foldl (fun t x => t.set x.1 (some (.w x.2))) t) { a with tmps := (l.map fun x => (x.1, x.2.den ρ)).foldl (fun ts x => ts.setIfInBounds x.1 x.2) a.tmps }
  | [], _, _, h => h
  | (d, x) :: r, t, a, h => by
    have := Tm.sets r (h.put d (.w x))
    simpa [Act.put, V.den] using this
theorem zip_args {ps : Array Tmp} {pvs : List W} {ρ : Env} {ts : Array Value} : (ps.zip (pvs.map (W.den ρ)).toArray).foldl (fun tmps (x : Tmp × Value) => tmps.setIfInBounds x.1 x.2) ts = ((ps.toList.zip pvs).map fun x => (x.1, x.2.den ρ)).foldl (fun ts x => ts.setIfInBounds x.1 x.2) ts := by
  rw [← Array.foldl_toList]
  congr 1
  rw [Array.toList_zip]
  simp only
  rw [List.zip_map_right]
  exact List.map_congr_left fun x _ => rfl

theorem wpIn_loop_num {Fr : Fence} {n' : Nat} {Q : Exit → Act → World → Prop} {c : Code} (I : Nat → Act → World → Prop)
    (round : ∀ n a w, I n a w → c.wpIn Fr n' P (Exit.then (fun a' w' => ∃ m, m < n ∧ I m a' w') Q) a w) : ∀ n a w, I n a w → (Code.loop c).wpIn Fr n' P Q a w := by
  intro n₀ a₀ w₀ h₀ b k cs hro hb hr
  have key : ∀ n a w, I n a w → ∃ e a' w', Q e a' w' ∧ ArrivesIn (Machine.fenced P Fr) P (lone (b.atR a (.code c :: .inLoop c :: k)) cs w) b k cs e a' w' := by
    intro n
    induction n using Nat.strongRecOn with
    | _ n ih =>
      intro a w hI
      obtain ⟨e, a₁, w₁, hq, harr⟩ := round n a w hI b (.inLoop c :: k) cs hro hb hr
      cases e with
      | normal =>
        obtain ⟨m, hm, hI₁⟩ := hq
        obtain ⟨e₂, a₂, w₂, hq₂, harr₂⟩ := ih m hm a₁ w₁ hI₁
        exact ⟨e₂, a₂, w₂, hq₂, .of_steps (StepsIn.trans harr (.one (fenced_calm hb hr rfl) stepR_inLoop)) harr₂⟩
      | exit id => exact ⟨_, a₁, w₁, hq, .pass (x := .inLoop c) rfl (fun _ _ => .inl (by simp)) harr⟩
      | goto l => exact ⟨_, a₁, w₁, hq, .pass (x := .inLoop c) rfl (fun _ _ => .inl (by simp)) harr⟩
      | ret => exact ⟨_, a₁, w₁, hq, .pass (x := .inLoop c) rfl (fun _ _ => .inl (by simp)) harr⟩
      | panic ch => exact ⟨_, a₁, w₁, hq, .pass (x := .inLoop c) rfl (fun _ _ => .inl (by simp)) harr⟩
      | outgrown => exact ⟨_, a₁, w₁, hq, .pass (x := .inLoop c) rfl (fun _ _ => .inl (by simp)) harr⟩
  obtain ⟨e, a', w', hq, harr⟩ := key n₀ a₀ w₀ h₀
  exact ⟨e, a', w', hq, .of_steps (.one (fenced_calm hb hr rfl) stepR_loop) harr⟩

def IH (P : Program) (cfg : Cfg) (post : Value → HP) (c : Code) : Prop := ∀ {Fr : Fence} (_ : WF Fr) {rd : Bool} (_ : rd = false → Fr = Fence.wide) {w0 : World} {F : PH} {K : Ex → S → T} {ρ : Env} {s : S} {a : Act} {w : World} {R h : PH} {L : List (Env → Prop)}, Ok ρ s a w0 w R h F → L.length = s.dp → (exec P cfg rd c s K).den P post L ρ →
    c.wpIn Fr 0 P (Reach ⟨P, post, w0, F, ρ, R, L⟩ K) a w
set_option maxHeartbeats 1000000 in
theorem range_ok {g : Operand} {ps : Array Tmp} {asg b : Code} (iha : IH P cfg post asg) (ihb : IH P cfg post b) {K : Ex → S → T} {ρ : Env} {s : S} {a : Act} {w : World} {R h : PH} {L : List (Env → Prop)} (ok : Ok ρ s a w0 w R h F) (hl : L.length = s.dp)
    {gv : A} (hgv : evA s g = some gv) (hok : (rgOf P cfg s gv).ok gv false s ps.toList = true) (hd : (let r := rgOf P cfg s gv
        T.new (.rangef gv r.c (r.hd.s.h.filter fun x => r.shk.contains x.1) r.hd.ss r.fr r.pss r.pvs r.pch
          (exec P cfg true asg (r.round ps.toList) fun x sA => match x with
            | .norm => exec P cfg true b sA fun x s2 => match x with
              | .norm =>
                let fr2 := fitS r.s1.n r.hd.s (r.endS s2)
                if okS r.s1.n r.hd.ss r.hd.s (r.endS s2) fr2 then .again (s2.dp - r.hd.s.dp) fr2 else .all (.fail (8000 + s.blk)) (.ret (.tup []) (diffH r.s1.n fr2 s2.h r.hd.s.h))
              | x => K x (r.leftS s2)
            | _ => .fail 84)
          (K .norm (r.doneS s)))).den P post L ρ) :
    (Code.rangeFunc g ps asg b).wpIn Fence.wide 0 P (Reach ⟨P, post, w0, F, ρ, R, L⟩ K) a w := by
  have wfw : WF Fence.wide := .inl rfl
  refine wpIn_rangeFunc fun fn _ => ?_
  obtain ⟨γ, Sh, Pr, may, fin, g0, I, ⟨f, caps, hgval, hfgo, htri⟩, hI0, hSh, hrnd, hfin⟩ := hd w.heap.size
  simp only [Rg.ok, Bool.not_false, Bool.true_and, Bool.and_eq_true, decide_eq_true_eq, Nat.blt_eq] at hok
  obtain ⟨⟨⟨⟨⟨⟨hgb, hcb0⟩, hsb⟩, hokS⟩, hhbel⟩, hpn⟩, hpl⟩ := hok
  have et : (rgOf P cfg s gv).hd.s.t = s.t := rfl
  have ek : (rgOf P cfg s gv).hd.s.kn = s.kn := rfl
  have ed : (rgOf P cfg s gv).hd.s.dp = s.dp + 1 := rfl
  have edf : (rgOf P cfg s gv).hd.s.df = [] := rfl
  have es1 : (rgOf P cfg s gv).s1 = { s with n := s.n + 1, h := (.b (.v s.n), .dfr) :: s.h, df := .v s.n :: s.df } := rfl
  have ec : (rgOf P cfg s gv).c = (rgOf P cfg s gv).s1.h.filter fun x => (reach s.h s.lk 60 (keysA gv) []).contains x.1 && !(rgOf P cfg s gv).shk.contains x.1 := rfl
  have er : (rgOf P cfg s gv).rest = (rgOf P cfg s gv).s1.h.filter fun x => !((reach s.h s.lk 60 (keysA gv) []).contains x.1 && !(rgOf P cfg s gv).shk.contains x.1) := rfl
  generalize hr : rgOf P cfg s gv = r at *
  -- the two blocks
  let d := w.heap.size
  let ρ1 : Env := ρ ++ [.n d]
  have hρ1 : ρ1.length = s.n + 1 := by simp [ρ1, ok.len]
  have k1 : Ok ρ1 { s with n := s.n + 1 } a w0 w R h F := ok.app hsb [.n d] (s.n + 1) rfl
  let rec0 : Loop := { state := .ready, pending := none, fn, tmps := a.tmps, params := ps, assign := asg, body := b, defers := d }
  let w1 := (w.alloc (.deferred (some []))).alloc (.loop rec0)
  let l := d + 1
  have el : (w.alloc (.deferred (some []))).heap.size = l := by rw [World.size_alloc]
  obtain ⟨sd, dd⟩ := ok.sat.alloc (.deferred (some []))
  have hpd : (hden ρ1 r.s1.h).p R ((PH.one d (.deferred (some []))).un h) := by
    rw [es1]
    refine (hden_cons _ _ _ _ _).2 ⟨PH.one d _, h, dd, PH.un_left _ _, PH.un_right dd, ?_, k1.hp⟩
    show (PH.one d _) (BR.den ρ1 (.v s.n)) = _
    have : BR.den ρ1 (.v s.n) = d := by simp only [BR.den, ρ1]; rw [← ok.len, look_at]; rfl
    rw [this]; exact PH.one_self _ _
  obtain ⟨sl, dl⟩ := sd.alloc (.loop rec0)
  rw [el] at sl dl
  have hcut := hden_filter (fun x => (reach s.h s.lk 60 (keysA gv) []).contains x.1 && !r.shk.contains x.1) hpd
  rw [← ec, ← er] at hcut
  have hrn : r.s1.n = s.n + 1 := by rw [es1]
  -- what a round begins with
  let Kx : γ → HP := fun g => HP.ex fun ys : Env => HP.and (sorted r.hd.ss ys ∧ Cur.app r.hd.ss (I g) ys) (HP.sep (hden (ρ1 ++ ys) (r.hd.s.h.filter fun x => !r.shk.contains x.1)) (HP.one l (.loop rec0)))
  have toK : ∀ g ys R h, sorted r.hd.ss ys → Cur.app r.hd.ss (I g) ys → (HP.sep (hden (ρ1 ++ ys) r.hd.s.h) (HP.one l (.loop rec0))).p R h → (HP.sep (Sh g) (Kx g)).p R h := fun g ys R h hso hI H => by
    have e := allP_elim (hSh g) hso
    rw [show ρ ++ [Uni.n w.heap.size] = ρ1 from rfl, List.drop_left] at e
    rw [e hI]
    exact HP.sep_mono (HP.sep_assoc (HP.sep_mono H (fun _ h => hden_filter (fun x => r.shk.contains x.1) h) fun _ h => h)) (fun _ h => h) fun _ h => ⟨ys, ⟨hso, hI⟩, h⟩
  have ofK : ∀ g R h, (HP.sep (Sh g) (Kx g)).p R h → ∃ ys, sorted r.hd.ss ys ∧ Cur.app r.hd.ss (I g) ys ∧ (HP.sep (hden (ρ1 ++ ys) r.hd.s.h) (HP.one l (.loop rec0))).p R h := fun g R h ⟨h1, h2, dj, l1, l2, hs, ys, ⟨hso, hI⟩, hk⟩ => by
    have e := allP_elim (hSh g) hso
    rw [show ρ ++ [Uni.n w.heap.size] = ρ1 from rfl, List.drop_left] at e
    rw [e hI] at hs
    exact ⟨ys, hso, hI, HP.sep_mono (HP.sep_assoc' ⟨h1, h2, dj, l1, l2, hs, hk⟩) (fun _ h => hden_unfilter (fun x => r.shk.contains x.1) h) fun _ h => h⟩
  -- what a round that leaves the loop leaves
  let Jx : HP := HP.ex fun z : (Code × Ex) × Env × S × List (Env → Prop) => HP.and ((z.1 = (.ret, .ret) ∨ ∃ id, z.1 = (.exit id, .exit id)) ∧ ρ1 <+: z.2.1 ∧ z.2.1.length = z.2.2.1.n ∧ L <:+ z.2.2.2 ∧ z.2.2.2.length = z.2.2.1.dp ∧ (∀ x ∈ z.2.2.1.kn, (x.1.den z.2.1).bool = x.2) ∧ (K z.1.2 (r.leftS z.2.2.1)).den P post z.2.2.2 z.2.1)
    (HP.sep (hden z.2.1 z.2.2.1.h) (HP.one l (.loop { rec0 with state := .done, pending := some z.1.1 })))
  have hround : ∀ g args, (∃ g', may g args g') → VTri P (.func (.yield l) #[] #[]) args (HP.sep (Pr g args) (HP.sep (Sh g) (Kx g))) (RndPost Sh Kx Jx (may g args)) := fun gg args hmay => by
    refine .inr ⟨l, rfl, fun wr Rr hr0 Fr' satr hpre => ?_⟩
    obtain ⟨ha, hb0, dab, la, lb, hPr, hSK⟩ := hpre
    obtain ⟨ys, hso, hI, hH⟩ := ofK gg Rr hb0 hSK
    have hrr := allP_elim (hrnd gg args hmay) hso
    rw [show ρ ++ [Uni.n w.heap.size] = ρ1 from rfl, List.drop_left] at hrr
    obtain ⟨zs, hzl, hargs, hent, hden2⟩ := exP_elim (hrr hI)
    obtain ⟨R2, h2, q1, q2, q3, q4, hS⟩ := hent.sep (HP.sep (hden (ρ1 ++ ys) r.hd.s.h) (HP.one l (.loop rec0))) Rr hr0 satr.dRh ⟨ha, hb0, dab, la, lb, hPr, hH⟩
    have satr2 := satr.ent q1 q2 q3 q4
    obtain ⟨hx, hlr, dx, lx, llr, hPH, hone⟩ := HP.sep_assoc' hS
    have sat3 := satr2.cut dx lx llr
    have hdjF : hlr.dj Fr' := satr2.dhF.le llr (PH.le.refl _)
    have hone' : hlr l = some (.loop rec0) := hone
    have hFl : (hlr.un Fr') l = some (.loop rec0) := PH.un_left _ _ _ _ hone'
    have hFr'l : Fr' l = none := (hdjF l).resolve_left (by rw [hone']; simp)
    have hleF : Fr'.le (hlr.un Fr') := PH.un_right hdjF
    have hheap : wr.heap[l]? = some (.loop rec0) := sat3.oF _ _ hFl
    have hsz : args.size = rec0.params.size := by
      rw [hargs]; simp [rec0, hpl]
    refine ⟨_, _, _, _, run_yield hheap hsz, ?_⟩
    refine roundIn_of_wpIn trivial ?_
    have hys : (ρ1 ++ ys).length = r.hd.s.n := by
      rw [List.length_append, hρ1, sorted_len hso, (okS_so hokS ρ1).2.2, hrn]
    have hbs := hsb
    simp only [S.bel, Bool.and_eq_true] at hbs
    have okh : Ok (ρ1 ++ ys) r.hd.s { tmps := a.tmps, defers := [] } wr wr R2 hx (hlr.un Fr') := by
      have tmb : (s.t.all fun | some v => v.bel ρ.length | none => true) = true := by rw [ok.len]; exact hbs.1.1.1
      refine ⟨by rw [edf]; rfl, ?_, hys, fun x hx => ?_, ?_, sat3, Same.refl _⟩
      · rw [et]
        have := ok.tm.app tmb ([.n d] ++ ys)
        rw [← List.append_assoc] at this
        exact ⟨this.1, this.2⟩
      · rw [ek] at hx
        have hb := List.all_eq_true.1 hbs.2 x hx
        rw [← ok.len] at hb
        have : (x.1.den (ρ ++ ([.n d] ++ ys))).bool = x.2 := by rw [E.app hb]; exact ok.kn x hx
        rwa [← List.append_assoc] at this
      · exact HP.sep_right hPH
    have okz := okh.app hhbel zs r.pn (hpn.trans (by rw [hzl]))
    have okr : Ok (ρ1 ++ ys ++ zs) (r.round ps.toList) { tmps := (rec0.params.zip args).foldl (fun tmps x => tmps.setIfInBounds x.1 x.2) rec0.tmps, defers := [] } wr wr R2 hx (hlr.un Fr') := by
      refine ⟨okz.dfr, ?_, okz.len, okz.kn, ?_, sat3, Same.refl _⟩
      · rw [hargs, zip_args]
        exact Tm.sets (ps.toList.zip r.pvs) okz.tm
      · refine hden_app2.2 (HP.sep_mono hPH (fun _ h => h) fun y hy => ?_)
        have hb := hhbel
        simp only [S.bel, Bool.and_eq_true] at hb
        have hb2 : hbel (ρ1 ++ ys).length r.hd.s.h = true := by rw [hys]; exact hb.1.1.2
        rw [hden_app hb2]; exact hy
    refine wpIn_mono (iha (Fr := Fence.wide.inRound l) (.inr ⟨l, rfl⟩) (rd := true) (fun h => by cases h) okr (by show _ = r.hd.s.dp; rw [ed, List.length_cons, hl]) hden2) fun e a1 w3 rr => ?_
    cases e with
    | normal =>
      obtain ⟨ρ3, s3, R3, h3, L3, p1, p2, p3, p4, p5, p6⟩ := rr
      simp only at p1 p2 p3 p4 p5 p6
      refine ⟨_, run_beginRound (p5.sat.oF _ _ hFl) rfl, ?_⟩
      have sat4 := p5.sat.turnF hFl (.loop { rec0 with state := .busy })
      have ok4 : Ok ρ3 s3 a1 wr (w3.putObj l (.loop { rec0 with state := .busy })) R3 h3 _ := ⟨p5.dfr, p5.tm, p5.len, p5.kn, p5.hp, sat4, p5.same.trans (Same.putObj _ _ _)⟩
      have hF4 : ∀ y : Obj, (fun k => if k = l then some y else (hlr.un Fr') k) l = some y := fun y => if_pos rfl
      have hle4 : ∀ y : Obj, Fr'.le (fun k => if k = l then some y else (hlr.un Fr') k) := fun y k o e => by
        by_cases ek : k = l
        · subst ek; rw [hFr'l] at e; cases e
        · simp only [ek, if_false]; exact hleF k o e
      refine wpIn_mono (ihb (Fr := Fence.wide.inRound l) (.inr ⟨l, rfl⟩) (rd := true) (fun h => by cases h) ok4 p4 p6) fun e a2 w5 rr => ?_
      have back : ∀ {ρ5 s5 R5 h5}, Ok ρ5 s5 a2 wr w5 R5 h5 (fun k => if k = l then some (.loop { rec0 with state := .busy }) else (hlr.un Fr') k) → ∀ y : Obj, Sat (w5.putObj l y) R5 (h5.un (PH.one l y)) Fr' ∧ h5.dj (PH.one l y) := fun ok5 y => by
        have := ok5.sat.turnF (hF4 _) y
        refine this.unframe (if_pos rfl) (fun k o e => ?_) hFr'l
        by_cases ek : k = l
        · subst ek; rw [hFr'l] at e; cases e
        · simp only [ek, if_false]; exact hleF k o e
      cases e with
      | normal =>
        obtain ⟨ρ5, s5, R5, h5, L5, q1', q2', q3', q4', q5', q6'⟩ := rr
        simp only at q1' q2' q3' q4' q5' q6'
        split at q6'
        · rename_i hc2
          refine ⟨_, _, run_endRound none (q5'.sat.oF _ _ (hF4 _)), ?_⟩
          obtain ⟨sat6, d6⟩ := back q5' (.loop { ({ rec0 with state := .busy } : Loop) with state := if (none : Option Code).isNone then .ready else .done, pending := none })
          refine ⟨_, rfl, q5'.same.trans (Same.putObj _ _ _), R5, _, q1.trans (p2.trans q2'), sat6, ?_⟩
          obtain ⟨pre, hpre⟩ := p3.trans q3'
          have hlen : s5.dp - r.hd.s.dp = pre.length := by
            have : L5.length = pre.length + (L.length + 1) := by rw [← hpre]; simp
            rw [ed]; omega
          have hget : L5[s5.dp - r.hd.s.dp]? = some (fun ys => ∃ g', may gg args g' ∧ Cur.app r.hd.ss (I g') ys) := by
            rw [hlen, ← hpre, List.getElem?_append_right (Nat.le_refl _), Nat.sub_self]; rfl
          simp only [T.den, hget] at q6'
          obtain ⟨g', hmay', hI'⟩ := q6'
          have p15 : ρ1 <+: ρ5 := List.IsPrefix.trans (show ρ1 <+: ρ1 ++ ys ++ zs from ⟨ys ++ zs, (List.append_assoc ..).symm⟩) (p1.trans q1')
          refine ⟨true, rfl, g', hmay', toK g' _ _ _ (okS_so hc2 ρ5).1 hI' ⟨h5, PH.one l _, d6, PH.un_left _ _, PH.un_right d6, ?_, ?_⟩⟩
          · exact okS_hp (hρ1.trans hrn.symm) hc2 p15 q5'.hp
          · exact PH.one_self _ _
        · exact q6'.1.elim
      | ret =>
        obtain ⟨ρ5, s5, R5, h5, L5, q1', q2', q3', q4', q5', q6'⟩ := rr
        simp only at q1' q2' q3' q4' q5' q6'
        refine ⟨_, _, run_endRound (some .ret) (q5'.sat.oF _ _ (hF4 _)), ?_⟩
        obtain ⟨sat6, d6⟩ := back q5' (.loop { ({ rec0 with state := .busy } : Loop) with state := if (some Code.ret : Option Code).isNone then .ready else .done, pending := some .ret })
        have p15 : ρ1 <+: ρ5 := List.IsPrefix.trans (show ρ1 <+: ρ1 ++ ys ++ zs from ⟨ys ++ zs, (List.append_assoc ..).symm⟩) (p1.trans q1')
        refine ⟨_, rfl, q5'.same.trans (Same.putObj _ _ _), R5, _, q1.trans (p2.trans q2'), sat6, false, rfl, ((.ret, .ret), ρ5, s5, L5), ⟨.inl rfl, p15, q5'.len, (List.suffix_cons _ _).trans (p3.trans q3'), q4', q5'.kn, q6'⟩, h5, PH.one l _, d6, PH.un_left _ _, PH.un_right d6, q5'.hp, PH.one_self _ _⟩
      | exit id =>
        obtain ⟨ρ5, s5, R5, h5, L5, q1', q2', q3', q4', q5', q6'⟩ := rr
        simp only at q1' q2' q3' q4' q5' q6'
        refine ⟨_, _, run_endRound (some (.exit id)) (q5'.sat.oF _ _ (hF4 _)), ?_⟩
        obtain ⟨sat6, d6⟩ := back q5' (.loop { ({ rec0 with state := .busy } : Loop) with state := if (some (Code.exit id) : Option Code).isNone then .ready else .done, pending := some (.exit id) })
        have p15 : ρ1 <+: ρ5 := List.IsPrefix.trans (show ρ1 <+: ρ1 ++ ys ++ zs from ⟨ys ++ zs, (List.append_assoc ..).symm⟩) (p1.trans q1')
        refine ⟨_, rfl, q5'.same.trans (Same.putObj _ _ _), R5, _, q1.trans (p2.trans q2'), sat6, false, rfl, ((.exit id, .exit id), ρ5, s5, L5), ⟨.inr ⟨id, rfl⟩, p15, q5'.len, (List.suffix_cons _ _).trans (p3.trans q3'), q4', q5'.kn, q6'⟩, h5, PH.one l _, d6, PH.un_left _ _, PH.un_right d6, q5'.hp, PH.one_self _ _⟩
      | goto t => exact rr.elim
      | panic c => exact rr.elim
      | outgrown => exact rr.elim
    | ret => obtain ⟨ρ3, s3, R3, h3, L3, p1, p2, p3, p4, p5, p6⟩ := rr; exact p6.elim
    | exit id => obtain ⟨ρ3, s3, R3, h3, L3, p1, p2, p3, p4, p5, p6⟩ := rr; exact p6.elim
    | goto t => exact rr.elim
    | panic c => exact rr.elim
    | outgrown => exact rr.elim
  -- the call
  have hpre : (HP.sep (hden ρ1 r.c) (HP.sep (Sh g0) (Kx g0))).p R ((PH.one l (.loop rec0)).un ((PH.one d (.deferred (some []))).un h)) := by
    have H0 : (HP.sep (HP.one l (.loop rec0)) (HP.sep (hden ρ1 r.c) (hden ρ1 r.rest))).p R ((PH.one l (.loop rec0)).un ((PH.one d (.deferred (some []))).un h)) :=
      ⟨PH.one l _, _, dl, PH.un_left _ _, PH.un_right dl, PH.one_self _ _, hcut⟩
    refine HP.sep_mono (HP.sep_assoc (HP.sep_comm H0)) (fun _ h => h) fun y hy => ?_
    exact toK g0 (r.fr.map (FV.den ρ1)) R y (okS_so hokS ρ1).1 hI0 (HP.sep_mono hy (fun _ h => okS_hp (s := r.start) (hρ1.trans hrn.symm) hokS (List.prefix_refl _) h) fun _ h => h)
  have hfn := hfgo
  obtain ⟨fnn, hfn1, hfn2, hfn3⟩ := hfn
  refine ⟨l, [{ target := .collected d, args := #[] }], w1, { target := .fn (.func f) caps, args := #[.func (.yield l) #[] #[]] }, w1, f, #[.func (.yield l) #[] #[]] ++ caps, w1, ?_, ?_, fun _ _ => trivial, ?_, wfw.dep, ?_⟩
  · exact run_enterLoop_outer fn a.tmps ps asg b
  · have hgd : a.eval g = .func (.func f) #[] caps := by
      rw [evA_den ok.tm hgv]
      rw [← ok.len] at hgb
      rw [← A.app hgb [.n d]]
      exact hgval
    simp only [resolve, rangeCall, hgd, Sem.run_bind, Deferred.ofValue, Sem.run_pure, Result.andThen_ok]
    simp [Act.eval]
  · simp only [invoke, callFunc, program, Sem.run_bind, Sem.run, Result.andThen_ok, hfn1, hfn3, hfn2, Bool.false_eq_true, if_false]
    rfl
  refine wfw.calls ((htri l Kx Jx hround w1 R _ F sl hpre).mono fun e w' ⟨v, he, sm, R', h', lR, sat', hpost⟩ => ?_)
  subst he
  have same' : Same w0 w' := ok.same.trans ((Same.alloc w _).trans ((Same.alloc _ _).trans sm))
  have hdfr : ∀ x : Env, ({ a with defers := [({ target := .collected d, args := #[] } : Deferred)] ++ a.defers } : Act).defers = r.s1.df.map (markOf (ρ1 ++ x)) := fun x => by
    rw [es1]
    simp only [List.map_cons, List.cons_append, List.nil_append]
    have e1 : markOf (ρ1 ++ x) (.v s.n) = { target := .collected d, args := #[] } := by
      simp only [markOf, BR.den, ρ1, List.append_assoc, List.cons_append, List.nil_append]
      rw [← ok.len, look_at]; rfl
    rw [e1, k1.dfr]
    congr 1
    have hb := hsb
    simp only [S.bel, Bool.and_eq_true] at hb
    exact List.map_congr_left fun q hq => by
      have := List.all_eq_true.1 hb.1.2 q hq
      rw [← ok.len] at this
      unfold markOf
      simp only [ρ1, List.append_assoc]
      rw [BR.app this, BR.app this]
  have htm : ∀ x : Env, Tm (ρ1 ++ x) s.t { a with defers := [({ target := .collected d, args := #[] } : Deferred)] ++ a.defers } := fun x => by
    have hb := hsb
    simp only [S.bel, Bool.and_eq_true] at hb
    have tmb : (s.t.all fun | some v => v.bel ρ.length | none => true) = true := by rw [ok.len]; exact hb.1.1.1
    have := ok.tm.app tmb ([.n d] ++ x)
    rw [← List.append_assoc] at this
    exact ⟨this.1, this.2⟩
  have hcb : ∀ x : Env, hden (ρ1 ++ x) r.c = hden ρ1 r.c := fun x => hden_app (by rw [hρ1, ← hrn]; exact hcb0) x
  obtain ⟨hc, hs, dcs, lc, ls, hC, o, ho⟩ := hpost
  -- the record is let go
  have drop : ∀ {A : HP} {o2 : Loop} {R2}, (HP.sep A (HP.one l (.loop o2))).p R' hs → R2 = R' → ∀ y, ∃ hA, A.p R' hA ∧ w'.heap[l]? = some (.loop o2) ∧ Sat (w'.putObj l y) R' (hc.un hA) F ∧ hc.dj hA := fun H _ y => by
    obtain ⟨hA, hL, dA, lA, lL, pA, pL⟩ := H
    have hLl : hL l = some (.loop _) := pL
    have hin : h' l = some (.loop _) := ls _ _ (lL _ _ hLl)
    have hcl : hc l = none := (dcs l).resolve_right (by rw [lL _ _ hLl]; simp)
    have hAl : hA l = none := (dA l).resolve_right (by rw [hLl]; simp)
    have heap := sat'.oh _ _ hin
    refine ⟨hA, pA, heap, ?_, dcs.le (PH.le.refl _) lA⟩
    have t := sat'.turn (w' := w'.putObj l y) (y := y) hin (fun k hk => World.putObj_heap_other hk) (World.putObj_heap_same (sat'.oh.lt hin))
    have le : (hc.un hA).le (fun k => if k = l then some y else h' k) := fun k o e => by
      by_cases ek : k = l
      · subst ek
        rcases PH.un_some e with e | e
        · rw [hcl] at e; cases e
        · rw [hAl] at e; cases e
      · simp only [ek, if_false]
        rcases PH.un_some e with e | e
        · exact lc _ _ e
        · exact ls _ _ (lA _ _ e)
    exact ⟨t.dRh.le (PH.le.refl _) le, t.dRF, t.dhF.le le (PH.le.refl _), t.oR, t.oh.le le, t.oF, t.gl⟩
  cases o with
  | some gg =>
    obtain ⟨hf, hSK⟩ := ho
    obtain ⟨ys, hso, hI, hH⟩ := ofK gg R' hs hSK
    obtain ⟨hA, pA, heap, sat2, dA⟩ := drop hH rfl (.loop { rec0 with state := .exhausted })
    refine ⟨none, _, run_endLoop heap (by simp [rec0]), ?_⟩
    have hden3 := allP_elim (hfin gg hf) hso
    rw [show ρ ++ [Uni.n w.heap.size] = ρ1 from rfl, List.drop_left] at hden3
    have hys : (ρ1 ++ ys).length = r.hd.s.n := by
      rw [List.length_append, hρ1, sorted_len hso, (okS_so hokS ρ1).2.2, hrn]
    refine ⟨ρ1 ++ ys, r.doneS s, R', _, L, (List.prefix_append ρ _).trans (List.prefix_append _ _), lR, List.suffix_refl _, hl, ⟨hdfr ys, by show Tm _ r.hd.s.t _; rw [et]; exact htm ys, hys, fun x hx => ?_, ?_, sat2, same'.trans (Same.putObj _ _ _)⟩, hden3 hI⟩
    · have hx' : x ∈ s.kn := by rw [← ek]; exact hx
      have hb := hsb
      simp only [S.bel, Bool.and_eq_true] at hb
      have hb := List.all_eq_true.1 hb.2 x hx'
      rw [← ok.len] at hb
      simp only [ρ1, List.append_assoc]
      rw [E.app hb]; exact ok.kn x hx'
    · refine hden_app2.2 ⟨hc, hA, dA, PH.un_left _ _, PH.un_right dA, ?_, pA⟩
      rw [hcb]; exact hC
  | none =>
    obtain ⟨⟨⟨code, x⟩, ρ5, s5, L5⟩, ⟨hj, p15, q5len, q3, q4, q5kn, q6⟩, hH⟩ := ho
    simp only at hj p15 q5len q3 q4 q5kn q6 hH
    obtain ⟨hA, pA, heap, sat2, dA⟩ := drop hH rfl (.loop { rec0 with state := .exhausted, pending := some code })
    refine ⟨some code, _, run_endLoop heap (by simp [rec0]), ?_⟩
    obtain ⟨z5, hz5⟩ := p15
    have okl : Ok ρ5 (r.leftS s5) { a with defers := [({ target := .collected d, args := #[] } : Deferred)] ++ a.defers } w0 (w'.putObj l (.loop { rec0 with state := .exhausted, pending := some code })) R' (hc.un hA) F := by
      refine ⟨by rw [← hz5]; exact hdfr z5, by show Tm ρ5 r.s1.t _; rw [es1, ← hz5]; exact htm z5, q5len, q5kn, hden_app2.2 ⟨hc, hA, dA, PH.un_left _ _, PH.un_right dA, by rw [← hz5, hcb]; exact hC, pA⟩, sat2, same'.trans (Same.putObj _ _ _)⟩
    rcases hj with ⟨⟨⟩⟩ | ⟨id, ⟨⟨⟩⟩⟩
    · exact wpIn_ret ⟨ρ5, r.leftS s5, R', _, L5, (List.prefix_append ρ _).trans ⟨z5, hz5⟩, lR, q3, q4, okl, q6⟩
    · exact wpIn_exit ⟨ρ5, r.leftS s5, R', _, L5, (List.prefix_append ρ _).trans ⟨z5, hz5⟩, lR, q3, q4, okl, q6⟩
theorem joinQ_ok {k : Nat × Nat} {run : S → (S → T) → T} {K : S → T} {ρ : Env} {s : S} {a : Act} {w : World} {R h : PH} {L : List (Env → Prop)} {G : Prop} (ok : Ok ρ s a w0 w R h F) (hl : L.length = s.dp)
    (hrun : ∀ (dp : Nat) (L' : List (Env → Prop)) (K' : S → T), L'.length = dp → L <:+ L' → (run { s with dp := dp } K').den P post L' ρ → (∀ a w, Nx ⟨P, post, w0, F, ρ, R, L'⟩ K' a w → Nx ⟨P, post, w0, F, ρ, R, L⟩ K a w) → G)
    (hd : (joinQ cfg k s run K).den P post L ρ) : G := by
  unfold joinQ at hd
  split at hd
  · rename_i j hj
    obtain ⟨I, hreg, hk⟩ := hd
    refine hrun (s.dp + 1) _ _ (by simp [hl]) (List.suffix_cons _ _) hreg fun a' w' nx => ?_
    obtain ⟨ρ', s', R', h', L', p1, p2, p3, p4, p5, p6⟩ := nx
    dsimp only at p1 p2 p3 p4 p5 p6
    split at p6
    · exact p6.1.elim
    · rename_i hask
      rw [if_neg hask] at hk
      split at p6
      · rename_i hc
        obtain ⟨pre, rfl⟩ := p3
        rw [List.length_append, List.length_cons] at p4
        have hd' : s'.dp - (s.dp + 1) = pre.length := by omega
        simp only [T.den, hd', List.getElem?_append_right (Nat.le_refl _), Nat.sub_self, List.getElem?_cons_zero] at p6
        have hso := (okS_so hc ρ').1
        have hkk := allP_elim hk hso
        rw [List.drop_left] at hkk
        have hokS := okS_ok ok.len hc p1 p5 (fun x hx => ok.kn x hx)
        exact ⟨_, j.toS s, R', h', L, List.prefix_append ρ _, p2, List.suffix_refl _, hl, hokS, hkk p6⟩
      · exact p6.1.elim
  · exact hrun s.dp L K hl (List.suffix_refl _) hd fun _ _ n => n
theorem stepR_scope {P : Program} {b : Frame} {a : Act} {k : List Item} {cs : List Frame} {w : World} {c : Code} : step P (lone (b.atR a (.code (.scope c) :: k)) cs w) = .next (lone (b.atR a (.code c :: .inScope c :: k)) cs w) :=
  step_lone_go (by simp [stepG, stepG.exec, Frame.atR])
theorem stepR_inScope {P : Program} {b : Frame} {a : Act} {k : List Item} {cs : List Frame} {w : World} {c : Code} : step P (lone (b.atR a (.inScope c :: k)) cs w) = .next (lone (b.atR a k) cs w) :=
  step_lone_go (by simp [stepG, stepG.exec, Frame.atR])
theorem wpIn_scope {P : Program} {F : Fence} {n : Nat} {Q : Exit → Act → World → Prop} {a : Act} {w : World} {c : Code} (h : c.wpIn F n P (fun e a w => match e with | .goto _ => False | e => Q e a w) a w) : (Code.scope c).wpIn F n P Q a w := by
  intro b k cs hro hb hr
  have h0 : (lone (b.atR a (.code (.scope c) :: k)) cs w).fenced P F := fenced_calm hb hr rfl
  obtain ⟨e, a₁, w₁, hq, harr⟩ := h b (.inScope c :: k) cs hro hb hr
  cases e with
  | normal => exact ⟨.normal, a₁, w₁, hq, .head h0 stepR_scope (StepsIn.trans harr (.one (fenced_calm hb hr rfl) stepR_inScope))⟩
  | exit id =>
    have hx : exitTo id (.inScope c :: k) = exitTo id k := by simp [exitTo]
    exact ⟨.exit id, a₁, w₁, hq, fun k' hk => .head h0 stepR_scope (harr.1 k' (by rw [hx]; exact hk)),
      fun hr' hk => let ⟨k₁, h1, h2⟩ := harr.2 hr' (by rw [hx]; exact hk); ⟨k₁, h1, .head h0 stepR_scope h2⟩⟩
  | goto l => exact hq.elim
  | ret => exact ⟨_, a₁, w₁, hq, .of_steps (.one h0 stepR_scope) harr⟩
  | panic ch => exact ⟨_, a₁, w₁, hq, .of_steps (.one h0 stepR_scope) harr⟩
  | outgrown => exact ⟨_, a₁, w₁, hq, .of_steps (.one h0 stepR_scope) harr⟩
theorem exec_ok (hm : P.follows .mixedOrders = true) : ∀ (c : Code), IH P cfg post c := by
  intro c
  induction c with
  | skip => intro Fr wf rd hrd w0 F K ρ s a w R h L ok hl hd; exact wpIn_skip (Nx.mk ok hl hd)
  | exit id => intro Fr wf rd hrd w0 F K ρ s a w R h L ok hl hd; exact wpIn_exit (Nx.mk ok hl hd)
  | ret => intro Fr wf rd hrd w0 F K ρ s a w R h L ok hl hd; exact wpIn_ret (Nx.mk ok hl hd)
  | region id ops draw =>
    intro Fr wf rd hrd w0 F K ρ s a w R h L ok hl hd
    cases draw with
    | false =>
      simp only [exec] at hd
      split at hd
      · rename_i hc
        split at hd
        · refine joinQ_ok ok hl (fun dp L' K' hl' _ hd' hK => ?_) hd
          have ok2 : Ok ρ { s with dp := dp } a w0 w R h F := ⟨ok.dfr, ok.tm, ok.len, ok.kn, ok.hp, ok.sat, ok.same⟩
          exact wpIn_region_list (runL_ok wf (K := K') ops.toList (fun o ho => Array.all_eq_true_iff_forall_mem.1 hc o (by simpa using ho)) ok2 hl' hd' fun a w n => hK a w n)
        · exact wpIn_region_list (runL_ok wf (K := fun s => K .norm s) ops.toList (fun o ho => Array.all_eq_true_iff_forall_mem.1 hc o (by simpa using ho)) ok hl hd fun a w n => n)
      · exact hd.elim
    | true =>
      simp only [exec] at hd
      split at hd
      · rename_i hc
        simp only [Bool.and_eq_true] at hc
        have ok' : Ok ρ s a w0 { w with drawn := w.drawn + 1 } R h F := ⟨ok.dfr, ok.tm, ok.len, ok.kn, ok.hp, ok.sat.drew _, ok.same.trans (Same.drew w _)⟩
        refine joinQ_ok ok' hl (fun dp L' K' hl' _ hd' hK => ?_) hd
        have ok2 : Ok ρ { s with dp := dp } a w0 { w with drawn := w.drawn + 1 } R h F := ⟨ok'.dfr, ok'.tm, ok'.len, ok'.kn, ok'.hp, ok'.sat, ok'.same⟩
        exact wpIn_region_any hm (wpAnyL_any _ _ _ _ (runD_ok wf (fun o ho => Array.all_eq_true_iff_forall_mem.1 hc.2 o ho) (K := K') (ρ0 := ρ) (s := { s with dp := dp }) hc.1.1.1 (by rw [ok.len]; exact hc.1.1.2) hc.1.2 (fun c a w h => h) ops.size (List.prefix_refl _) (fun x hx => (List.mem_filter.1 hx).1) ok2 hl' hd' fun a w n => hK a w n))
      · exact hd.elim
  | seq x y ihx ihy =>
    intro Fr wf rd hrd w0 F K ρ s a w R h L ok hl hd
    refine wpIn_seq (wpIn_mono (ihx wf hrd ok hl hd) fun e a' w' r => ?_)
    cases e <;> try (first | exact r | exact r.elim)
    obtain ⟨ρ', s', R', h', L', p1, p2, p3, p4, p5, p6⟩ := r
    exact wpIn_mono (ihy wf hrd p5 p4 p6) fun e a'' w'' r => r.up p1 p2 p3
  | cond c x y ihx ihy =>
    intro Fr wf rd hrd w0 F K ρ s a w R h L ok hl hd
    simp only [exec] at hd
    split at hd
    · rename_i e he
      have hc := evA_den ok.tm he
      refine joinQ_ok ok hl (fun dp L' K' hl' hs' hd' hK => ?_) hd
      have ok1 : Ok ρ { s with dp := dp } a w0 w R h F := ⟨ok.dfr, ok.tm, ok.len, ok.kn, ok.hp, ok.sat, ok.same⟩
      obtain ⟨kn, ok', hh⟩ := brE_ok ok1 hd'
      refine wpIn_cond (t := (e.den ρ).bool) hc ?_
      rcases hh with ⟨hb, hh⟩ | ⟨hb, hh⟩
      · rw [hb]
        refine wpIn_mono (ihx wf hrd ok' hl' hh) fun ex a' w' r => ?_
        cases ex <;> first | exact hK _ _ r | exact Nx.up (List.prefix_refl _) (PH.le.refl _) hs' r | exact r.elim
      · rw [hb]
        refine wpIn_mono (ihy wf hrd ok' hl' hh) fun ex a' w' r => ?_
        cases ex <;> first | exact hK _ _ r | exact Nx.up (List.prefix_refl _) (PH.le.refl _) hs' r | exact r.elim
    · exact hd.elim
  | label l => intro Fr wf rd hrd w0 F K ρ s a w R h L ok hl hd; exact wpIn_label (Nx.mk ok hl hd)
  | scope b ih =>
    intro Fr wf rd hrd w0 F K ρ s a w R h L ok hl hd
    refine wpIn_scope (wpIn_mono (ih wf hrd ok hl hd) fun e a' w' r => ?_)
    cases e <;> first | exact r | exact r.elim
  | block id b ih =>
    intro Fr wf rd hrd w0 F K ρ s a w R h L ok hl hd
    simp only [exec] at hd
    refine joinQ_ok ok hl (fun dp L' K' hl' hs' hd' hK => ?_) hd
    have ok' : Ok ρ { s with dp := dp, blk := id } a w0 w R h F := ⟨ok.dfr, ok.tm, ok.len, ok.kn, ok.hp, ok.sat, ok.same⟩
    refine wpIn_block (wpIn_mono (ih wf hrd ok' hl' hd') fun e a' w' r => ?_)
    cases e with
    | exit i =>
      simp only [Exit.inBlock]
      by_cases hi : i = id
      · subst hi
        rw [if_pos rfl]
        obtain ⟨ρ', s', R', h', L'', p1, p2, p3, p4, p5, p6⟩ := r
        simp only [if_true] at p6
        exact hK _ _ ⟨ρ', s', R', h', L'', p1, p2, p3, p4, p5, p6⟩
      · rw [if_neg hi]
        obtain ⟨ρ', s', R', h', L'', p1, p2, p3, p4, p5, p6⟩ := r
        simp only [if_neg hi] at p6
        exact Nx.up (List.prefix_refl _) (PH.le.refl _) hs' ⟨ρ', s', R', h', L'', p1, p2, p3, p4, p5, p6⟩
    | normal => exact hK _ _ r
    | ret => exact Nx.up (List.prefix_refl _) (PH.le.refl _) hs' r
    | _ => exact r.elim
  | loop b ih =>
    intro Fr wf rd hrd w0 F K ρ s a w R h L ok hl hd
    simp only [exec] at hd
    split at hd
    · rename_i hc
      simp only [Bool.and_eq_true, decide_eq_true_eq, Nat.blt_eq] at hc
      obtain ⟨⟨⟨hc, hbel⟩, hkn0⟩, hdp⟩ := hc
      obtain ⟨I, μ, hI0, hall⟩ := hd
      have hss : sorted (headOf cfg b s).ss ((fitS s.n (headOf cfg b s).s s).map (FV.den ρ)) := (okS_so hc ρ).1
      have hkn : ∀ x ∈ (headOf cfg b s).s.kn, (x.1.den ρ).bool = x.2 := by rw [hkn0]; exact ok.kn
      refine wpIn_loop_num (fun n a w => ∃ xs R' h', R.le R' ∧ sorted (headOf cfg b s).ss xs ∧ Cur.app _ I xs ∧ Cur.app _ μ xs = n ∧ Ok (ρ ++ xs) (headOf cfg b s).s a w0 w R' h' F) ?_ _ a w
        ⟨_, R, h, PH.le.refl _, hss, hI0, rfl, okS_ok ok.len hc (List.prefix_refl _) ok hkn⟩
      rintro n a w ⟨xs, R', h', lR, hso, hI, rfl, ok1⟩
      have hb := allP_elim hall hso
      rw [List.drop_left] at hb
      have hb := hb hI
      refine wpIn_mono (ih wf hrd ok1 (by simp [hdp, hl]) hb) fun e a' w' r => ?_
      cases e <;> try (first | exact Nx.up (List.prefix_append ρ xs) lR (List.suffix_cons _ _) r | exact r.elim)
      obtain ⟨ρ', s', R'', h'', L', p1, p2, p3, p4, p5, p6⟩ := r
      simp only at p6
      split at p6
      · rename_i hc2
        have p1' := (List.prefix_append ρ xs).trans p1
        have hso2 : sorted (headOf cfg b s).ss ((fitS s.n (headOf cfg b s).s s').map (FV.den ρ')) := (okS_so hc2 ρ').1
        obtain ⟨pre, rfl⟩ := p3
        simp only at p4 p6
        rw [List.length_append, List.length_cons] at p4
        have hd' : s'.dp - (headOf cfg b s).s.dp = pre.length := by rw [hdp]; omega
        simp only [T.den, hd', List.getElem?_append_right (Nat.le_refl _), Nat.sub_self, List.getElem?_cons_zero] at p6
        exact ⟨_, p6.2, (fitS s.n (headOf cfg b s).s s').map (FV.den ρ'), R'', h'', lR.trans p2, hso2, p6.1, rfl, okS_ok ok.len hc2 p1' p5 hkn⟩
      · exact p6.1.elim
    · exact hd.elim
  | rangeFunc g ps asg b iha ihb =>
    intro Fr wf rd hrd w0 F K ρ s a w R h L ok hl hd
    simp only [exec] at hd
    split at hd
    · exact hd.elim
    rename_i gv hgv
    split at hd
    · rename_i hok
      have hf : rd = false := by cases rd with | false => rfl | true => simp [Rg.ok] at hok
      subst hf
      rw [hrd rfl]
      exact range_ok iha ihb ok hl hgv hok hd
    · exact hd.1.elim
  | _ => intro Fr wf rd hrd w0 F K ρ s a w R h L ok hl hd; exact hd.elim

def resSem (tmps : Array Value) : ResultVar → Sem Value
  | .tmp t => pure (tmps.getD t undef)
  | .cell a t => do loadVar t (← asAddr (tmps.getD a undef))
theorem resOf_run {ρ : Env} {s : S} {a : Act} {w : World} {R h : PH} (ok : Ok ρ s a w0 w R h F) {r : ResultVar} {x : W} (e : resOf P s r = some x) : (resSem a.tmps r).run P w = .ok (x.den ρ) w := by
  cases r with
  | tmp t =>
    simp only [resOf] at e
    split at e
    · rename_i y hy
      cases e
      have := ev_den ok.tm hy
      simp only [Act.eval] at this
      simp only [resSem, this, Sem.run_pure, V.den]
    · cases e
  | cell ad t =>
    simp only [resOf] at e
    split at e
    · rename_i r off hx
      split at e
      · rename_i l ty hf
        have := evA_den ok.tm hx
        simp only [Act.eval] at this
        have h1 := run_loadAt (P := P) ok.sat (cden_cells (hden_mem (findC_mem hf) ok.hp)) e
        simp only [Instr.loadAt, Instr.sureAddr, Sem.run_bind, Sem.run_pure, Result.andThen_ok] at h1
        simp only [resSem, this, A.den, asAddr, Sem.run_bind, Sem.run_pure, Result.andThen_ok, h1]
      · cases e
    · cases e
theorem run_mapM_res {ρ : Env} {s : S} {a : Act} {w : World} {R h : PH} (ok : Ok ρ s a w0 w R h F) : ∀ {l : List ResultVar} {m : List W}, mapM' (resOf P s) l = some m →
    (l.mapM (resSem a.tmps)).run P w = .ok (m.map (W.den ρ)) w
  | [], m, e => by cases e; rfl
  | x :: r, m, e => by
    simp only [mapM'] at e
    split at e
    · rename_i y hy
      split at e
      · rename_i q hq
        cases e
        rw [List.mapM_cons, Sem.run_bind, resOf_run ok hy]
        simp only [Result.andThen_ok, Sem.run_bind, run_mapM_res ok hq, Sem.run_pure, List.map_cons]
      · cases e
    · cases e
theorem results_eq (fn : Func) (tmps : Array Value) : results fn tmps = (do
    let vs ← fn.results.mapM (resSem tmps)
    pure (if h : vs.size = 1 then vs[0] else .tuple vs)) := by
  unfold results
  congr 1
theorem leave_ok {fn : Func} {ρ : Env} {s : S} {a : Act} {w : World} {R h : PH} {L : List (Env → Prop)} (ok : Ok ρ s a w0 w R h F) {ks : List Key} (hd : (leave P fn ks s).den P post L ρ) :
    ∃ v, (results fn a.tmps).run P w = .ok v w ∧ HP.ent (hden ρ s.h) (post v) := by
  have hlv : ∀ v : V, (leaveV v ks s).den P post L ρ → HP.ent (hden ρ s.h) (post (v.den ρ)) := fun v hv => by
    unfold leaveV at hv
    simp only at hv
    split at hv
    · rename_i hc
      exact (HP.ent.of fun _ _ H => subH_den hc H).trans hv
    · exact hv.elim
  unfold leave at hd
  have hres : ∀ m, mapM' (resOf P s) fn.results.toList = some m → (results fn a.tmps).run P w = .ok (if h : (m.map (W.den ρ)).toArray.size = 1 then (m.map (W.den ρ)).toArray[0] else .tuple (m.map (W.den ρ)).toArray) w := fun m hm => by
    have h1 := run_mapM_res (P := P) ok hm
    rw [results_eq, Array.mapM_eq_mapM_toList, Sem.run_bind]
    have h2 : (List.toArray <$> List.mapM (resSem a.tmps) fn.results.toList : Sem (Array Value)).run P w = .ok (m.map (W.den ρ)).toArray w := by
      show (List.mapM (resSem a.tmps) fn.results.toList >>= fun l => pure l.toArray : Sem (Array Value)).run P w = _
      rw [Sem.run_bind, h1]; rfl
    rw [h2]
    rfl
  split at hd
  · rename_i x hm
    exact ⟨_, hres _ hm, hlv _ hd⟩
  · rename_i m hx hm
    refine ⟨_, hres _ hm, ?_⟩
    have hne : ¬ (m.map (W.den ρ)).toArray.size = 1 := fun e => by
      simp only [List.size_toArray, List.length_map] at e
      obtain ⟨y, rfl⟩ := List.length_eq_one_iff.1 e
      exact hx y rfl
    rw [dif_neg hne]
    exact hlv _ hd
  · exact hd.elim

theorem leaves_marks {fn : Func} {tmps : Array Value} {Rp : Ending → World → Prop} {ρ : Env} {R F : PH} : ∀ (df : List BR) {hp : Hp} {w : World} {h : PH}, nodupR df = true → (df.all fun r => hp.contains (.b r, .dfr)) = true → Sat w R h F → (hden ρ hp).p R h →
    (∀ w' h', Same w w' → Sat w' R h' F → (hden ρ (hp.filter fun x => !isDf df x)).p R h' → ∃ v, (results fn tmps).run P w' = .ok v w' ∧ Rp (.returned v) w') → LeavesInM Fence.wide 0 P fn tmps Rp (df.map (markOf ρ)) .returning w
  | [], hp, w, h, _, _, s, p, hf => by
    obtain ⟨v, h1, h2⟩ := hf w h (Same.refl w) s (by rw [List.filter_eq_self.2 (fun _ _ => by simp [isDf])]; exact p)
    exact ⟨v, h1, h2⟩
  | r :: rest, hp, w, h, hn, ha, s, p, hf => by
    simp only [nodupR, Bool.and_eq_true, Bool.not_eq_true', List.all_cons] at hn ha
    have hmem : (Key.b r, C.dfr) ∈ hp := by simpa using ha.1
    obtain ⟨h1, h2, d, l1, l2, p1, p2⟩ := hden_filter (fun x => decide (x = (Key.b r, C.dfr))) p
    have hc : h1 (r.den ρ) = some (.deferred (some [])) := hden_mem (x := (Key.b r, C.dfr)) (List.mem_filter.2 ⟨hmem, by simp⟩) p1
    have hh : h (r.den ρ) = some (.deferred (some [])) := l1 _ _ hc
    have h2n : h2 (r.den ρ) = none := (d _).resolve_left (by rw [hc]; simp)
    have t := s.turn (w' := w.putObj (r.den ρ) (.deferred none)) (y := .deferred none) hh (fun k hk => World.putObj_heap_other hk) (World.putObj_heap_same (s.oh.lt hh))
    have le : h2.le (fun k => if k = r.den ρ then some (.deferred none) else h k) := fun k o e => by
      by_cases ek : k = r.den ρ
      · subst ek; rw [h2n] at e; cases e
      · simp only [ek, if_false]; exact l2 _ _ e
    have s2 : Sat (w.putObj (r.den ρ) (.deferred none)) R h2 F := ⟨t.dRh.le (PH.le.refl _) le, t.dRF, t.dhF.le le (PH.le.refl _), t.oR, t.oh.le le, t.oF, t.gl⟩
    refine ⟨by simp, .inl ⟨r.den ρ, _, rfl, run_takeDeferred (s.oh _ _ hh), leaves_marks rest hn.2 ?_ s2 p2 fun w' h' sm s3 p3 => hf w' h' ((Same.putObj _ _ _).trans sm) s3 ?_⟩⟩
    · refine List.all_eq_true.2 fun q hq => ?_
      have hne : q ≠ r := fun e => by subst e; simp at hn; exact hn.1 hq
      have := List.all_eq_true.1 ha.2 q hq
      simp only [List.contains_eq_mem, decide_eq_true_eq, Nat.blt_eq] at this ⊢
      exact List.mem_filter.2 ⟨this, by simp [hne]⟩
    · rw [List.filter_filter] at p3
      have e : (fun x => !isDf (r :: rest) x) = fun x : Key × C => (!isDf rest x && !decide (x = (Key.b r, C.dfr))) := funext fun x => by
        simp only [isDf, List.any_cons, Bool.not_or, Bool.and_comm]
      rw [e]
      exact p3

theorem tri_of_tree (hm : P.follows .mixedOrders = true) {f : FuncId} {fn : Func} (hf : P.funcs[f]? = some fn) {args : List W} {h0 : Hp} {ρ : Env} {t : T} (ht : tree P cfg fn args h0 ρ.length = t) (hd : t.den P post [] ρ) :
    Tri P f (args.map (W.den ρ)).toArray (hden ρ h0) post := by
  intro w R h F s hp
  subst ht
  unfold tree at hd
  split at hd
  · rename_i c hc
    refine (callsIn_wide (n := 0)).1 (callsIn_of_wp_marks hf hc trivial ?_)
    have hargs : ∀ (i : Nat) (v : V), (args.map (fun w => some (V.w w)) ++ List.replicate (fn.ntmps - args.length) (some (V.tup [])))[i]? = some (some v) →
        ((args.map (W.den ρ)).toArray ++ Array.replicate (fn.ntmps - (args.map (W.den ρ)).toArray.size) undef)[i]? = some (v.den ρ) := fun i v hi => by
      rw [List.getElem?_append] at hi
      rw [Array.getElem?_append]
      simp only [List.length_map, List.size_toArray] at hi ⊢
      split at hi
      · rename_i hlt
        rw [if_pos hlt]
        simp only [List.getElem?_map, Option.map_eq_some_iff, Option.some.injEq] at hi
        obtain ⟨x, hx, rfl⟩ := hi
        simp [hx, V.den]
      · rename_i hlt
        rw [if_neg hlt]
        rw [List.getElem?_replicate] at hi
        rw [Array.getElem?_replicate]
        split at hi
        · rename_i hlt2
          rw [if_pos hlt2]
          simp only [Option.some.injEq] at hi
          subst hi
          rfl
        · cases hi
    have ok : Ok ρ ⟨args.map (fun w => some (.w w)) ++ List.replicate (fn.ntmps - args.length) (some (.tup [])), h0, ρ.length, [], [], 0, 0, []⟩ { tmps := (args.map (W.den ρ)).toArray ++ Array.replicate (fn.ntmps - (args.map (W.den ρ)).toArray.size) undef, defers := [] } w w R h F :=
      ⟨rfl, ⟨by simp, hargs⟩, rfl, (fun x hx => by cases hx), hp, s, Same.refl w⟩
    have fin : ∀ (K : S → T) (a' : Act) (w' : World), (∀ s, K s = leaveD P fn (h0.map (·.1) ++ outK cfg (h0.map (·.1)) s ++ resK P cfg fn s) s) → Nx ⟨P, post, w, F, ρ, R, []⟩ K a' w' →
        LeavesInM Fence.wide 0 P fn a'.tmps (fun e w'' => ∃ v, e = .returned v ∧ Same w w'' ∧ ∃ R' h', R.le R' ∧ Sat w'' R' h' F ∧ (post v).p R' h') a'.defers .returning w' := fun K a' w' hK r => by
      obtain ⟨ρ', s', R', h', L', p1, p2, p3, p4, p5, p6⟩ := r
      simp only at p1 p2 p3 p4 p5 p6
      rw [hK] at p6
      unfold leaveD at p6
      split at p6
      · rename_i hdf
        simp only [dfOk, Bool.and_eq_true] at hdf
        rw [p5.dfr]
        refine leaves_marks s'.df hdf.1 hdf.2 p5.sat p5.hp fun w'' h'' sm sat p => ?_
        have ok2 : Ok ρ' (leaveS s') { a' with defers := [] } w w'' R' h'' F := ⟨rfl, ⟨p5.tm.1, p5.tm.2⟩, p5.len, p5.kn, p, sat, p5.same.trans sm⟩
        obtain ⟨v, hv, he⟩ := leave_ok ok2 p6
        obtain ⟨R2, h2, q1, q2, q3, q4, q5⟩ := he R' h'' sat.dRh p
        exact ⟨v, hv, v, rfl, ok2.same, R2, h2, p2.trans q1, sat.ent q1 q2 q3 q4, q5⟩
      · exact p6.elim
    refine wpIn_mono (exec_ok hm c (.inl rfl) (rd := false) (fun _ => rfl) ok rfl hd) fun e a' w' r => ?_
    cases e <;> try exact r.elim
    · exact fin _ a' w' (fun _ => rfl) r
    · obtain ⟨ρ', s', R', h', L', p1, p2, p3, p4, p5, p6⟩ := r
      exact p6.elim
    · exact fin _ a' w' (fun _ => rfl) r
  · exact hd.elim
end
end Go.Proofs.YtbmajijnjkicmaaGreatDoor.RX



namespace Go.Proofs.YtbmajijnjkicmaaGreatDoor
open Go.Proofs.YtbmajijnjkicmaaGreatDoor RX

theorem mixed : Tryz.prog.follows .mixedOrders = true := by kernel_rfl

def OwC (e : TypeId) (size : Nat) (a : Option Addr) (n c : Nat) (xs : List Value) : HP :=
  ⟨fun _ h => xs.length = n * size ∧ ((a = none ∧ n = 0 ∧ c = 0) ∨ ∃ g cur, a = some ⟨g, 0, none⟩ ∧ h g = some (.cells cur e (0, 0)) ∧ n ≤ c ∧ c ≤ maxLen ∧ cur.size = c * size ∧ cur.toList.take (n * size) = xs),
   fun _ l ⟨h1, h2⟩ => ⟨h1, h2.imp id fun ⟨g, cur, h3, h4, h5⟩ => ⟨g, cur, h3, l _ _ h4, h5⟩⟩⟩
def RoC (size : Nat) (a : Option Addr) (n : Nat) (xs : List Value) : HP :=
  ⟨fun R _ => xs.length = n * size ∧ (n ≠ 0 → ∃ g off cur ty fr, a = some ⟨g, off, none⟩ ∧ R g = some (.cells cur ty fr) ∧ (cur.toList.drop off).take xs.length = xs),
   fun l _ ⟨h1, h2⟩ => ⟨h1, fun hn => let ⟨g, off, cur, ty, fr, h3, h4, h5⟩ := h2 hn; ⟨g, off, cur, ty, fr, h3, l _ _ h4, h5⟩⟩⟩
def Rd (S : HP) (a : Option Addr) (xs : List Value) : Prop := ∀ w R h F, Sat w R h F → S.p R h → ∀ (j : Nat) (u : Value), xs[j]? = some u → ∃ g off, a = some ⟨g, off, none⟩ ∧ w.cell? ⟨g, off + j, none⟩ = some u

theorem cell_at {w : World} {g : Nat} {cur : Array Value} {ty : TypeId} {fr : Nat × Nat} (h : w.heap[g]? = some (.cells cur ty fr)) (k : Nat) : w.cell? ⟨g, k, none⟩ = cur[k]? := by
  unfold World.cell?; rw [h]; rfl
theorem OwC.rd (e : TypeId) (size : Nat) (a : Option Addr) (n c : Nat) (xs : List Value) : Rd (OwC e size a n c xs) a xs := by
  rintro w R h F s ⟨hl, hh⟩ j u hj
  rcases hh with ⟨_, rfl, _⟩ | ⟨g, cur, rfl, hg, h1, h2, h3, rfl⟩
  · rw [List.getElem?_eq_none (by rw [hl]; omega)] at hj; cases hj
  · refine ⟨g, 0, rfl, ?_⟩
    rw [cell_at (s.oh _ _ hg)]
    rw [List.getElem?_take] at hj
    split at hj
    · simpa using hj
    · cases hj
theorem RoC.rd (size : Nat) (a : Option Addr) (n : Nat) (xs : List Value) : Rd (RoC size a n xs) a xs := by
  rintro w R h F s ⟨hl, hh⟩ j u hj
  have hn : n ≠ 0 := fun e => by subst e; rw [List.getElem?_eq_none (by rw [hl]; omega)] at hj; cases hj
  obtain ⟨g, off, cur, ty, fr, rfl, hR, hc⟩ := hh hn
  refine ⟨g, off, rfl, ?_⟩
  rw [cell_at (s.oR _ _ hR)]
  rw [← hc, List.getElem?_take] at hj
  split at hj
  · rw [List.getElem?_drop] at hj; simpa using hj
  · cases hj
theorem one_rd (g : Nat) (cs : Array Value) (ty : TypeId) : Rd (HP.one g (.cells cs ty (0, 0))) (some ⟨g, 0, none⟩) cs.toList := fun w R h F s hg j u hj => by
  refine ⟨g, 0, rfl, ?_⟩
  rw [cell_at (s.oh _ _ hg)]
  simpa using hj
theorem Rd.left {A B : HP} {a : Option Addr} {xs : List Value} (r : Rd A a xs) : Rd (HP.sep A B) a xs := fun w R h F s ⟨h1, h2, d, l1, l2, p, _⟩ => r w R h1 _ (s.cut d l1 l2) p
theorem Rd.right {A B : HP} {a : Option Addr} {xs : List Value} (r : Rd B a xs) : Rd (HP.sep A B) a xs := fun w R h F s ⟨h1, h2, d, l1, l2, _, p⟩ => r w R h2 _ (s.cut d.symm l2 l1) p
theorem OwC.share (e : TypeId) (size : Nat) (a : Option Addr) (n c : Nat) (xs : List Value) : HP.ent (OwC e size a n c xs) (RoC size a n xs) := by
  rintro R h d ⟨hl, hh⟩
  rcases hh with ⟨rfl, rfl, _⟩ | ⟨g, cur, rfl, hg, h1, h2, h3, rfl⟩
  · exact ⟨R, h, PH.le.refl _, d, PH.le.refl _, fun _ _ e => .inl e, hl, fun hn => absurd rfl hn⟩
  · obtain ⟨R', h', q1, q2, q3, q4, q5⟩ := HP.ent.share g (.cells cur e (0, 0)) R h d hg
    exact ⟨R', h', q1, q2, q3, q4, hl, fun _ => ⟨g, 0, cur, e, (0, 0), rfl, q5, by rw [List.drop_zero, hl]⟩⟩
theorem OwC.nil (e : TypeId) (size : Nat) : ∀ R h, (OwC e size none 0 0 []).p R h := fun _ _ => ⟨by simp, .inl ⟨rfl, rfl, rfl⟩⟩
theorem RoC.nil (size : Nat) (a : Option Addr) : ∀ R h, (RoC size a 0 []).p R h := fun _ _ => ⟨by simp, fun h => absurd rfl h⟩
theorem OwC.len {e : TypeId} {size : Nat} {a : Option Addr} {n c : Nat} {xs : List Value} {R h : PH} (H : (OwC e size a n c xs).p R h) : xs.length = n * size := H.1
theorem OwC.le {e : TypeId} {size : Nat} {a : Option Addr} {n c : Nat} {xs : List Value} {R h : PH} (H : (OwC e size a n c xs).p R h) : n ≤ c := by
  rcases H.2 with ⟨_, e1, e2⟩ | ⟨g, cur, _, _, h1, _⟩
  · omega
  · exact h1
theorem RoC.some {size : Nat} {a : Option Addr} {n : Nat} {xs : List Value} {R h : PH} (H : (RoC size a n xs).p R h) (hn : 0 < n) : a.isSome = true := by
  obtain ⟨g, off, _, _, _, rfl, _⟩ := H.2 (by omega); rfl
theorem OwC.some {e : TypeId} {size : Nat} {a : Option Addr} {n c : Nat} {xs : List Value} {R h : PH} (H : (OwC e size a n c xs).p R h) (hn : 0 < n) : a.isSome = true := by
  rcases H.2 with ⟨_, e1, _⟩ | ⟨g, _, rfl, _⟩
  · omega
  · rfl

theorem Sat.grown {w w' : World} {R h F : PH} (s : Sat w R h F) {row : Option Nat} (hrow : ∀ g, row = some g → h g ≠ none) (hg : w.grownBy w' row) {g' : Nat} {o : Obj} (ho : w'.heap[g']? = some o) (hn : row = some g' ∨ w.heap.size ≤ g') :
    Sat w' R (PH.one g' o) F := by
  have hR : R g' = none := by
    rcases hn with e | e
    · exact (s.dRh g').resolve_right (hrow g' e)
    · cases hq : R g' with
      | none => rfl
      | some y => have := s.oR.lt hq; omega
  have hF : F g' = none := by
    rcases hn with e | e
    · exact (s.dhF g').resolve_left (hrow g' e)
    · cases hq : F g' with
      | none => rfl
      | some y => have := s.oF.lt hq; omega
  have kept : ∀ g : PH, g.own w → (∀ k, row = some k → g k = none) → g.own w' := fun g og gd k y e => by
    rw [hg.block k (og.lt e) (fun e' => by rw [gd k e'.symm] at e; cases e)]; exact og k y e
  refine ⟨fun k => ?_, s.dRF, fun k => ?_, kept R s.oR fun k e => (s.dRh k).resolve_right (hrow k e), fun k y e => ?_, kept F s.oF fun k e => (s.dhF k).resolve_left (hrow k e), s.gl⟩
  · by_cases e : k = g'
    · subst e; exact .inl hR
    · exact .inr (if_neg e)
  · by_cases e : k = g'
    · subst e; exact .inr hF
    · exact .inl (if_neg e)
  · obtain ⟨rfl, rfl⟩ := PH.one_some e; exact ho
theorem RoC.join {size : Nat} {a : Option Addr} {n : Nat} {xs : List Value} {B : HP} {R h h' : PH} (H : (RoC size a n xs).p R h) (K : B.p R h') : (HP.sep (RoC size a n xs) B).p R h' := ⟨PH.none', h', PH.none_dj _, PH.none_le _, PH.le.refl _, H, K⟩
theorem RoC.joinR {size : Nat} {a : Option Addr} {n : Nat} {xs : List Value} {B : HP} {R h h' : PH} (H : (RoC size a n xs).p R h) (K : B.p R h') : (HP.sep B (RoC size a n xs)).p R h' := HP.sep_comm (RoC.join H K)
def appS (t ty : TypeId) (u v : Value) : Sem Next := do pure (.value (← Builtin.append_ #[t, t] ty #[u, v]))
theorem semOf_append {ρ : Env} {i j : Nat} {t ty : TypeId} {u v : V} (h : i ≠ j) : semOf ρ (.call ⟨.builtin .append, #[.tmp i, .tmp j], #[t, t]⟩) ty [(i, u), (j, v)] = appS t ty (u.den ρ) (v.den ρ) := by
  have h' : (i == j) = false := by simpa using h
  simp [semOf, execOp, resolve, arEval, invoke, builtin, h', appS]
theorem append_ok (t ty e : TypeId) (i : TypeInfo) (z : Value) (ht : Tryz.prog.underlying t = some (.slice e)) (hi : Tryz.prog.info? e = some i) (hz : i.zero = some z) (hzs : z.cells.size = i.size) (hsz : 0 < i.size)
    (a : Option Addr) (n c : Nat) (xs : List Value) (S : HP) (ad : Addr) (m c2 : Nat) (news : List Value) (hr : Rd S (some ad) news) (hl : news.length = m * i.size) (h1 : ∀ u ∈ news, u.oneCell' = true)
    (h63 : n + m ≤ maxLen) (hb : (n + m) * i.bytes ≤ 140737488355328) :
    OTri Tryz.prog (appS t ty (.slice a n c) (.slice (some ad) m c2)) (HP.sep (OwC e i.size a n c xs) S)
      (fun v => HP.ex fun a' => HP.ex fun c' => HP.and (v = .slice a' (n + m) c') (HP.sep (OwC e i.size a' (n + m) c' (xs ++ news)) S)) := by
  rintro w R h F s ⟨x1, x2, d, l1, l2, ⟨hxl, hx⟩, hS⟩
  have hown : w.ownsRow 0 e i.size (.slice a n c) n xs := by
    refine ⟨hxl, ?_⟩
    rcases hx with ⟨rfl, rfl, rfl⟩ | ⟨g, cur, rfl, hg, q⟩
    · exact .inl ⟨rfl, rfl⟩
    · exact .inr ⟨g, c, cur, rfl, Nat.zero_le _, s.oh _ _ (l1 _ _ hg), q⟩
  have hrd := hr w R x2 _ (s.cut d.symm l2 l1) hS
  have hnews : ∀ j u, news[j]? = some u → w.cell? (ad.add j) = some u := fun j u hj => by
    obtain ⟨g, off, e1, e2⟩ := hrd j u hj
    cases e1
    rw [addr_add]; exact e2
  obtain ⟨v', w', hrun, ho', hg, hnil, hblk⟩ := run_append_own_at (P := Tryz.prog) w 0 t ty e i z i.size i.bytes ht hi hz rfl rfl hzs hsz (.slice a n c) n xs hown ad m c2 news hl hnews h1 h63 hb (Nat.zero_le _)
  obtain ⟨hl', hsh⟩ := ho'
  have hS' : Same w w' := ⟨hg.os, hg.tape, hg.output, hg.size⟩
  have s1 := s.cut d l1 l2
  have hdF : x2.dj F := s.dhF.le l2 (PH.le.refl _)
  rcases hsh with ⟨rfl, h0⟩ | ⟨g', cap, cur, rfl, _, hcell, q1, q2, q3, q4⟩
  · have hn0 : n = 0 := by omega
    have hm0 : m = 0 := by omega
    have e1 := hnil.1 rfl
    cases e1.1
    have hsame : ∀ k, k < w.heap.size → w'.heap[k]? = w.heap[k]? := fun k hk => hg.block k hk (by simp [Value.ownBlock])
    have own' : ∀ g : PH, g.own w → g.own w' := fun g og k y e => by rw [hsame k (og.lt e)]; exact og k y e
    refine ⟨_, _, w', by unfold appS; rw [Sem.run_bind, hrun]; rfl, rfl, hS', R, x1.un x2, PH.le.refl _, ⟨(PH.dj_un (s.dRh.le (PH.le.refl _) l1).symm (s.dRh.le (PH.le.refl _) l2).symm).symm, s.dRF, PH.dj_un (s.dhF.le l1 (PH.le.refl _)) hdF, own' _ s.oR, own' _ (s.oh.le (PH.un_le l1 l2)), own' _ s.oF, s.gl⟩, none, 0, ?_, x1, x2, d, PH.un_left _ _, PH.un_right d, ?_, hS⟩
    · rw [hn0, hm0]
    · exact ⟨hl', .inl ⟨rfl, by omega, rfl⟩⟩
  · have s2 := Sat.grown s1 (row := (Value.slice a n c).ownBlock) (fun g hgr => by
      rcases hx with ⟨rfl, _⟩ | ⟨g0, cur0, rfl, hg0, _⟩
      · cases hgr
      · cases hgr; rw [hg0]; simp) hg hcell (by
        rcases hblk with e | e
        · exact .inl e.symm
        · cases e; exact .inr (Nat.le_refl _))
    obtain ⟨s3, d3⟩ := s2.join hdF
    exact ⟨_, _, w', by unfold appS; rw [Sem.run_bind, hrun]; rfl, rfl, hS', R, _, PH.le.refl _, s3, some ⟨g', 0, none⟩, cap, rfl, PH.one g' (.cells cur e (0, 0)), x2, d3, PH.un_left _ _, PH.un_right d3, ⟨hl', .inr ⟨g', cur, rfl, PH.one_self _ _, q1, q2, q3, q4⟩⟩, hS⟩

def loadS (t : TypeId) (p : Value) : Sem Next := do pure (.value (← Instr.loadAt t p))
theorem semOf_load {ρ : Env} {i : Nat} {t ty : TypeId} {u : V} : semOf ρ (.load t (.tmp i)) ty [(i, u)] = loadS t (u.den ρ) := by
  simp [semOf, execOp, arEval, loadS]
theorem run_loadS {w : World} {t : TypeId} {g off : Nat} {d : TypeDesc} (hd : Tryz.prog.underlying t = some d) (vs : List Value) (hz : szT Tryz.prog t = vs.length) (hv : ∀ j v, vs[j]? = some v → w.cell? ⟨g, off + j, none⟩ = some v) :
    (loadS t (.pointer (some ⟨g, off, none⟩))).run Tryz.prog w = .ok (.value (if aggT Tryz.prog t then .agg vs.toArray else (vs[0]?).getD undef)) w ∨ (aggT Tryz.prog t = false ∧ vs.length ≠ 1) := by
  obtain ⟨i, hi⟩ := underlying_info hd
  by_cases ha : aggT Tryz.prog t = true
  · left
    unfold loadS
    rw [Sem.run_bind]
    simp only [Instr.loadAt, Instr.sureAddr, Sem.run_bind, Sem.run_pure, Result.andThen_ok, loadVar, RX.run_isAgg hd, ha, if_true, RX.run_sizeOf hi, hz, RX.run_loadCells vs hv]
  · have ha' : aggT Tryz.prog t = false := by simpa using ha
    by_cases hl : vs.length = 1
    · left
      obtain ⟨v, rfl⟩ := List.length_eq_one_iff.1 hl
      have h0 := hv 0 v rfl
      rw [Nat.add_zero] at h0
      unfold loadS
      rw [Sem.run_bind]
      simp only [Instr.loadAt, Instr.sureAddr, Sem.run_bind, Sem.run_pure, Result.andThen_ok, loadVar, RX.run_isAgg hd, ha', Bool.false_eq_true, if_false, RX.run_load h0]
      rfl
    · exact .inr ⟨ha', hl⟩
theorem load1_ok {t : TypeId} {d : TypeDesc} (hd : Tryz.prog.underlying t = some d) (ha : aggT Tryz.prog t = false) (hz : szT Tryz.prog t = 1) {S : HP} {a : Option Addr} {xs : List Value} (hr : Rd S a xs) {k off : Nat} {v : Value} (hk : xs[k + off]? = some v) :
    ORead Tryz.prog (loadS t (.pointer (a.map fun x => (x.add k).add off))) S v := fun w R h F s hS => by
  obtain ⟨g, o, rfl, hc⟩ := hr w R h F s hS (k + off) v hk
  simp only [Option.map_some, addr_add]
  rcases run_loadS (w := w) (g := g) (off := o + k + off) hd [v] (by simpa using hz) (fun j u hj => by
    cases j with
    | zero => simp only [List.getElem?_cons_zero, Option.some.injEq] at hj; subst hj; rw [show o + k + off + 0 = o + (k + off) by omega]; exact hc
    | succ j => simp at hj) with e | e
  · rw [e, ha]; rfl
  · simp at e
theorem loadN_ok {t : TypeId} {d : TypeDesc} (hd : Tryz.prog.underlying t = some d) (ha : aggT Tryz.prog t = true) {S : HP} {a : Option Addr} {xs : List Value} (hr : Rd S a xs) {k off : Nat} {vs : List Value} (hz : szT Tryz.prog t = vs.length) (hp : 0 < vs.length) (hk : ∀ j v, vs[j]? = some v → xs[k + off + j]? = some v) :
    ORead Tryz.prog (loadS t (.pointer (a.map fun x => (x.add k).add off))) S (.agg vs.toArray) := fun w R h F s hS => by
  obtain ⟨v0, hv0⟩ : ∃ v, vs[0]? = some v := ⟨vs[0], by simp [hp]⟩
  obtain ⟨g, o, rfl, _⟩ := hr w R h F s hS (k + off + 0) v0 (hk 0 v0 hv0)
  simp only [Option.map_some, addr_add]
  rcases run_loadS (w := w) (g := g) (off := o + k + off) hd vs hz (fun j u hj => by
    obtain ⟨g', o', e, hc⟩ := hr w R h F s hS (k + off + j) u (hk j u hj)
    cases e
    rw [show o + k + off + j = o + (k + off + j) by omega]; exact hc) with e | e
  · rw [e, ha]; rfl
  · rw [ha] at e; exact absurd e.1 (by simp)

def sliceS (t : TypeId) (x : Value) (lo hi mx : Option Value) : Sem Next := do pure (.value (← Instr.sliceAt t x lo hi mx))
def iv (x : Option Nat) : Option Value := x.map fun n => .int .i64 (n : Int)
theorem run_bound {w : World} {n y : Nat} {c : BoundsCode} (h : n ≤ y) : (Instr.sliceBound (.int .i64 (n : Int)) y c).run Tryz.prog w = .ok n w := by
  have : (0 : Int) ≤ n ∧ (n : Int) ≤ y := ⟨by omega, by omega⟩
  simp [Instr.sliceBound, asIntOf, this]
theorem slice_ok {t e : TypeId} (ht : Tryz.prog.underlying t = some (.slice e)) {i : TypeInfo} (hi : Tryz.prog.info? e = some i) (S : HP) (a : Option Addr) (n c : Nat) (lo hi' mx : Option Nat) (h1 : lo.getD 0 ≤ hi'.getD n) (h2 : hi'.getD n ≤ mx.getD c) (h3 : mx.getD c ≤ c) (h4 : mx.isSome = true → hi'.isSome = true) :
    ORead Tryz.prog (sliceS t (.slice a n c) (iv lo) (iv hi') (iv mx)) S (.slice (if mx.getD c = lo.getD 0 then a else a.map (·.add (lo.getD 0 * szT Tryz.prog e))) (hi'.getD n - lo.getD 0) (mx.getD c - lo.getD 0)) := fun w R h F s hS => by
  unfold sliceS
  rw [Sem.run_bind]
  have hb : (Instr.sliceBounds true n c (iv lo) (iv hi') (iv mx)).run Tryz.prog w = .ok (lo.getD 0, hi'.getD n, mx.getD c) w := by
    unfold Instr.sliceBounds iv
    cases mx <;> cases hi' <;> cases lo <;> simp only [Option.getD_some, Option.getD_none, Option.isSome_some, Option.isSome_none] at h1 h2 h3 h4 <;> first | (have h5 := h4 trivial; cases h5; done) | simp [Sem.run_bind, run_bound h1, run_bound h2, run_bound h3, run_bound (Nat.zero_le _)]
  have : (Instr.sliceAt t (.slice a n c) (iv lo) (iv hi') (iv mx)).run Tryz.prog w = .ok (.slice (if mx.getD c = lo.getD 0 then a else a.map (·.add (lo.getD 0 * szT Tryz.prog e))) (hi'.getD n - lo.getD 0) (mx.getD c - lo.getD 0)) w := by
    simp only [Instr.sliceAt, Instr.slice, Sem.run_bind, RX.run_underlying ht, Result.andThen_ok, hb, RX.run_sizeOf hi, Sem.run_pure]
  rw [this]; rfl
theorem RoC.sub {size : Nat} {a : Option Addr} {n : Nat} {xs : List Value} {R h : PH} (H : (RoC size a n xs).p R h) (lo hi c : Nat) (h1 : lo ≤ hi) (h2 : hi ≤ n) (h3 : hi ≤ c) :
    (RoC size (if c = lo then a else a.map (·.add (lo * size))) (hi - lo) ((xs.drop (lo * size)).take ((hi - lo) * size))).p R h := by
  obtain ⟨hl, hh⟩ := H
  have hlen : ((xs.drop (lo * size)).take ((hi - lo) * size)).length = (hi - lo) * size := by
    rw [List.length_take, List.length_drop, hl, ← Nat.sub_mul]
    exact Nat.min_eq_left (Nat.mul_le_mul_right _ (by omega))
  refine ⟨hlen, fun hn => ?_⟩
  obtain ⟨g, off, cur, ty, fr, rfl, hR, hc⟩ := hh (by omega)
  rw [if_neg (by omega)]
  simp only [Option.map_some, addr_add]
  refine ⟨g, off + lo * size, cur, ty, fr, rfl, hR, ?_⟩
  rw [hlen, ← hc, List.drop_take, List.drop_drop, List.take_take, hl]
  congr 1
  rw [← Nat.sub_mul]
  exact (Nat.min_eq_left (Nat.mul_le_mul_right _ (by omega))).symm

def storeS (t : TypeId) (p x : Value) : Sem Next := do Instr.storeAt t p x; pure .skip
theorem store_ok {t : TypeId} {i : TypeInfo} (hi : Tryz.prog.info? t = some i) (e : TypeId) (size : Nat) (a : Option Addr) (n c : Nat) (xs : List Value) (k off : Nat) (x : Value) (vs : List Value) (hx : x.cells = vs.toArray) (hz : i.size = vs.length) (hp : 0 < vs.length) (h1 : ∀ v ∈ vs, v.oneCell' = true) (hk : k + off + vs.length ≤ n * size) :
    OTri Tryz.prog (storeS t (.pointer (a.map fun x => (x.add k).add off)) x) (OwC e size a n c xs) (fun v => HP.and (v = .tuple #[]) (OwC e size a n c (xs.take (k + off) ++ vs ++ xs.drop (k + off + vs.length)))) := by
  rintro w R h F s ⟨hl, hh⟩
  rcases hh with ⟨_, rfl, _⟩ | ⟨g, cur, rfl, hg, q1, q2, q3, q4⟩
  · rw [Nat.zero_mul] at hk; omega
  · have hw := s.oh _ _ hg
    simp only [Option.map_some, addr_add]
    have hsz : n * size ≤ cur.size := by rw [q3]; exact Nat.mul_le_mul_right _ q1
    have hst := run_storeCells_at (P := Tryz.prog) g (0 + k + off) e vs 0 cur w hw (by omega) h1
    have hrun : (storeS t (.pointer (some ⟨g, 0 + k + off, none⟩)) x).run Tryz.prog w = .ok .skip (w.setRow g (cur.toList.take (0 + k + off + 0) ++ vs ++ cur.toList.drop (0 + k + off + 0 + vs.length)).toArray) := by
      unfold storeS
      simp only [Instr.storeAt, Instr.sureAddr, Sem.run_bind, Sem.run_pure, Result.andThen_ok, storeVar, RX.run_sizeOf hi, hx, List.size_toArray, szT, hi, hz, ne_eq, not_true_eq_false, if_false, hst]
    refine ⟨.skip, _, _, hrun, rfl, ⟨rfl, rfl, rfl, by simp⟩, R, _, PH.le.refl _, s.turn (y := .cells (cur.toList.take (0 + k + off + 0) ++ vs ++ cur.toList.drop (0 + k + off + 0 + vs.length)).toArray e (0, 0)) hg (fun j hj => setRow_other w g j _ hj) (setRow_heap w g cur _ e (0, 0) hw), rfl, ?_, .inr ⟨g, _, rfl, if_pos rfl, q1, q2, ?_, ?_⟩⟩
    · simp only [List.length_append, List.length_take, List.length_drop, hl]
      omega
    · simp only [List.size_toArray, List.length_append, List.length_take, List.length_drop, Array.length_toList]
      omega
    · subst q4
      have e1 : (0 + k + off + 0) = k + off := by omega
      rw [e1]
      simp only [List.take_append, List.length_append, List.length_take, Array.length_toList, List.take_take, List.drop_take, List.length_drop]
      have m1 : min (k + off) cur.size = k + off := by omega
      have m2 : min (n * size) (k + off) = k + off := by omega
      have m3 : min (k + off) (n * size) = k + off := by omega
      rw [m1, m2, m3, List.take_of_length_le (by omega : vs.length ≤ n * size - (k + off))]
end Go.Proofs.YtbmajijnjkicmaaGreatDoor



namespace Go.Proofs.YtbmajijnjkicmaaGreatDoor.RX
set_option maxRecDepth 100000
-- slices.Clone[[]byte,byte]: ρ := [.a sa, .n sl, .n sc, .p sP]
def t_clone8 : T :=
(.br (.o1 .not (.o1 .isSome (.v 0)))
(.ret (.w (.a (.sl .nil (.n 0) (.n 0)))) [(.a 0, .prop 3)])
(.new
(.op (.call ⟨.builtin .append, #[.tmp 5, .tmp 6], #[35, 35]⟩) 35 [(5, .w (.a (.sl (.b (.v 4) 0) (.n 0) (.n 0)))), (6, .w (.a (.sl (.v 0) (.v 1) (.v 2))))] [(.b (.v 4), .cells [] 5), (.a 0, .prop 3)] [.a, .n, .n, .p] (.w (.a (.sl (.v 5) (.v 6) (.v 7)))) [(.a 5, .prop 8), (.a 0, .prop 3)]
(.ret (.w (.a (.sl (.v 5) (.v 6) (.v 7)))) [(.a 0, .prop 3), (.a 5, .prop 8)]))))
theorem tree_clone8 : tree Tryz.prog { } Tryz.f74 [.a (.sl (.v 0) (.v 1) (.v 2))] [(.a 0, .prop 3)] 4 = t_clone8 := by kernel_rfl
def t_wByte : T :=
(.new
(.op (.call ⟨.builtin .append, #[.tmp 8, .tmp 10], #[35, 35]⟩) 35 [(8, .w (.a (.sl (.v 1) (.v 2) (.v 3)))), (10, .w (.a (.sl (.b (.v 6) 0) (.n 1) (.n 1))))] [(.a 1, .prop 4), (.b (.v 6), .cells [.int .u8 (.v 5)] 5)] [.a, .n, .n, .p] (.w (.a (.sl (.v 7) (.v 8) (.v 9)))) [(.a 7, .prop 10), (.b (.v 6), .cells [.int .u8 (.v 5)] 5)]
(.ret (.tup []) [(.b (.v 0), .cells [.sl (.v 7) (.v 8) (.v 9)] 169), (.a 7, .prop 10)])))
theorem tree_wByte : tree Tryz.prog { } Tryz.f127 [.a (.ptr (.v 0) 0), .a (.int .u8 (.v 5))] [(.b (.v 0), .cells [.sl (.v 1) (.v 2) (.v 3)] 169), (.a 1, .prop 4)] 6 = t_wByte := by kernel_rfl
def t_width : T :=
(.ret (.w (.a (.int .i64 (.o2 .mn (.o2 .mx (.v 0) (.i 0)) (.i 8))))) [])
theorem tree_width : tree Tryz.prog { } Tryz.f139 [.a (.int .i64 (.v 0))] [] 1 = t_width := by kernel_rfl
def t_wNumber : T :=
(.call 139 [.a (.int .i64 (.v 3))] [] [.i] (.w (.a (.int .i64 (.v 4)))) []
(.loop [.i, .p] [.e (.o1 .neg (.o1 .neg (.i 0))), .p [(.b (.v 0), .prop 1)]]
(.br (.o2 .lt (.v 5) (.v 4))
(.need (.o1 (.inr .i64) (.o2 .sub (.v 4) (.i 1)))
(.need (.o1 (.inr .i64) (.o2 .sub (.o2 .sub (.v 4) (.i 1)) (.v 5)))
(.need (.o1 (.inr .i64) (.o2 .mul (.i 8) (.o2 .sub (.o2 .sub (.v 4) (.i 1)) (.v 5))))
(.need (.o2 .le (.i 0) (.o2 .mul (.i 8) (.o2 .sub (.o2 .sub (.v 4) (.i 1)) (.v 5))))
(.call 127 [.a (.ptr (.v 0) 0), .a (.int .u8 (.o1 (.wrap .u8) (.o2 (.shr .u64) (.v 2) (.o2 .mul (.i 8) (.o2 .sub (.o2 .sub (.v 4) (.i 1)) (.v 5))))))] [(.b (.v 0), .prop 6)] [.p] (.tup []) [(.b (.v 0), .prop 7)]
(.need (.o1 (.inr .i64) (.o2 .add (.v 5) (.i 1)))
(.again 0 [.e (.o1 .neg (.o1 .neg (.o2 .add (.v 5) (.i 1)))), .p [(.b (.v 0), .prop 7)]])))))))
(.ret (.tup []) [(.b (.v 0), .prop 6)]))))
theorem tree_wNumber : tree Tryz.prog { hv := [(0, [.b (.v 0)])] } Tryz.f122 [.a (.ptr (.v 0) 0), .a (.int .u64 (.v 2)), .a (.int .i64 (.v 3))] [(.b (.v 0), .prop 1)] 4 = t_wNumber := by kernel_rfl
def t_wBytes : T :=
(.call 122 [.a (.ptr (.v 0) 0), .a (.int .u64 (.o1 (.wrap .u64) (.o1 .ofNat (.v 6)))), .a (.int .i64 (.i 4))] [(.b (.v 0), .cells [.sl (.v 1) (.v 2) (.v 3)] 169), (.a 1, .prop 4)] [.a, .n, .n, .p] (.tup []) [(.b (.v 0), .cells [.sl (.v 9) (.v 10) (.v 11)] 169), (.a 9, .prop 12)]
(.op (.call ⟨.builtin .append, #[.tmp 13, .tmp 14], #[35, 35]⟩) 35 [(13, .w (.a (.sl (.v 9) (.v 10) (.v 11)))), (14, .w (.a (.sl (.v 5) (.v 6) (.v 7))))] [(.a 9, .prop 12), (.a 5, .prop 8)] [.a, .n, .n, .p] (.w (.a (.sl (.v 13) (.v 14) (.v 15)))) [(.a 13, .prop 16), (.a 5, .prop 8)]
(.ret (.tup []) [(.b (.v 0), .cells [.sl (.v 13) (.v 14) (.v 15)] 169), (.a 13, .prop 16), (.a 5, .prop 8)])))
theorem tree_wBytes : tree Tryz.prog { } Tryz.f79 [.a (.ptr (.v 0) 0), .a (.sl (.v 5) (.v 6) (.v 7))] [(.b (.v 0), .cells [.sl (.v 1) (.v 2) (.v 3)] 169), (.a 1, .prop 4), (.a 5, .prop 8)] 9 = t_wBytes := by kernel_rfl
def t_wOut : T :=
(.call 74 [.a (.sl (.v 1) (.v 2) (.v 3))] [(.a 1, .prop 4)] [.a, .n, .n, .p, .p] (.w (.a (.sl (.v 5) (.v 6) (.v 7)))) [(.a 5, .prop 8), (.a 1, .prop 9)]
(.ret (.w (.a (.sl (.v 5) (.v 6) (.v 7)))) [(.b (.v 0), .cells [.sl (.v 1) (.v 2) (.v 3)] 169), (.a 1, .prop 9), (.a 5, .prop 8)]))
theorem tree_wOut : tree Tryz.prog { } Tryz.f78 [.a (.ptr (.v 0) 0)] [(.b (.v 0), .cells [.sl (.v 1) (.v 2) (.v 3)] 169), (.a 1, .prop 4)] 5 = t_wOut := by kernel_rfl
end Go.Proofs.YtbmajijnjkicmaaGreatDoor.RX



namespace Go.Proofs.YtbmajijnjkicmaaGreatDoor
set_option linter.unusedSimpArgs false
set_option linter.unusedVariables false
open Go.Proofs.YtbmajijnjkicmaaGreatDoor RX

def u8v (b : UInt8) : Value := .int .u8 b.toNat
theorem u8v_one (l : List UInt8) : ∀ u ∈ l.map u8v, u.oneCell' = true := fun u hu => by
  obtain ⟨b, _, rfl⟩ := List.mem_map.1 hu; rfl
abbrev OwB (a : Option Addr) (n c : Nat) (l : List UInt8) : HP := OwC 5 1 a n c (l.map u8v)
abbrev RoB (a : Option Addr) (n : Nat) (l : List UInt8) : HP := RoC 1 a n (l.map u8v)
structure RdL (S : HP) (a : Option Addr) (n : Nat) (xs : List Value) : Prop where
  rd : Rd S a xs
  none : ∀ R h, S.p R h → a = none → n = 0
theorem RdL.ro (size : Nat) (a : Option Addr) (n : Nat) (xs : List Value) : RdL (RoC size a n xs) a n xs :=
  ⟨RoC.rd size a n xs, fun R h H e => Classical.byContradiction fun hn => by subst e; have := RoC.some H (by omega); cases this⟩
theorem RdL.ow (e : TypeId) (size : Nat) (a : Option Addr) (n c : Nat) (xs : List Value) : RdL (OwC e size a n c xs) a n xs :=
  ⟨OwC.rd e size a n c xs, fun R h H e => Classical.byContradiction fun hn => by subst e; have := OwC.some H (by omega); cases this⟩

theorem info8 : (Tryz.prog.info? 5).map (fun i => (i.zero, i.size, i.bytes)) = some (some (.int .u8 0), 1, 1) := by kernel_rfl
theorem und8 : Tryz.prog.underlying 35 = some (.slice 5) := by kernel_rfl
theorem append8 (a : Option Addr) (n c : Nat) (l : List UInt8) (S : HP) (b : Option Addr) (m c2 : Nat) (q : List UInt8) (hr : RdL S b m (q.map u8v)) (hm : q.length = m) (hb0 : m ≠ 0 → b.isSome = true) (hb : n + m ≤ 140737488355328) :
    OTri Tryz.prog (appS 35 35 (.slice a n c) (.slice b m c2)) (HP.sep (OwB a n c l) S)
      (fun v => HP.ex fun a' => HP.ex fun c' => HP.and (v = .slice a' (n + m) c') (HP.sep (OwB a' (n + m) c' (l ++ q)) S)) := by
  obtain ⟨i, hi, h1, h2, h3⟩ := info_parts info8
  cases b with
  | some ad =>
    have := append_ok 35 35 5 i (.int .u8 0) und8 hi h1 (by rw [h2]; rfl) (by omega) a n c (l.map u8v) S ad m c2 (q.map u8v) hr.rd (by simp [hm, h2]) (u8v_one q) (by unfold maxLen; omega) (by rw [h3]; omega)
    rw [h2] at this
    simp only [OwB, List.map_append]
    exact this
  | none =>
    have hm0 : m = 0 := Classical.byContradiction fun h => by have := hb0 h; cases this
    subst hm0
    obtain rfl : q = [] := List.eq_nil_of_length_eq_zero hm
    rintro w R h F s ⟨x1, x2, d, l1, l2, H, hS⟩
    have H0 := H
    obtain ⟨hxl, hx⟩ := H
    have hnc : n ≤ c := by
      rcases hx with ⟨_, rfl, rfl⟩ | ⟨g, cur, _, _, hnc, _⟩
      · exact Nat.le_refl _
      · exact hnc
    refine ⟨.value (.slice a n c), _, w, ?_, rfl, Same.refl w, R, h, PH.le.refl _, s, a, c, rfl, x1, x2, d, l1, l2, by rw [List.append_nil]; exact H0, hS⟩
    cases a <;> simp [appS, Builtin.append_, run_underlying und8, sizeOf, typeInfo, hi, h2, Builtin.lenOf, Builtin.firstCells, hnc, storeCells]
theorem clone8_ok (S : HP) (a : Option Addr) (n c : Nat) (l : List UInt8) (hr : RdL S a n (l.map u8v)) (hl : l.length = n) (hb : n ≤ 140737488355328) :
    Tri Tryz.prog 74 #[.slice a n c] S (fun v => HP.ex fun a' => HP.ex fun c' => HP.and (v = .slice a' n c') (HP.sep (OwB a' n c' l) S)) := by
  refine tri_of_tree (ρ := [.a a, .n n, .n c, .p S]) mixed Tryz.func74 tree_clone8 ?_
  unfold t_clone8
  simp only [T.den, E.prop, E.den, RX.look, F1.app, F2.app, Uni.int_i, Uni.nat_n, Uni.bool_c, Uni.str_s, Uni.adr_a, Uni.val_v, Uni.hp_p, hden, cden, V.den, W.den, A.den, BR.den, SA.den, FV.den, capV, exs, exP, allP, Cur.app, List.map_cons, List.map_nil, List.cons_append, List.nil_append, List.drop_succ_cons, List.drop_zero, List.length_cons, List.length_nil, Nat.zero_add, Nat.reduceAdd, Int.neg_neg, Bool.not_not, List.append_nil, Nat.add_zero, List.getElem?_cons_zero, List.getElem?_cons_succ, Decidable.not_not]
  refine ⟨fun ha => .of fun R h H => ?_, fun ha x => ?_⟩
  · have hn : n = 0 := hr.none R h H (by simpa using ha)
    subst hn
    obtain rfl : l = [] := List.eq_nil_of_length_eq_zero hl
    exact ⟨none, 0, rfl, HP.tt_sep H |> fun H => HP.sep_mono H (fun x _ => OwC.nil _ _ R x) fun _ h => h⟩
  · rw [semOf_append (by decide)]
    simp only [T.den, E.prop, E.den, RX.look, F1.app, F2.app, Uni.int_i, Uni.nat_n, Uni.bool_c, Uni.str_s, Uni.adr_a, Uni.val_v, Uni.hp_p, hden, cden, V.den, W.den, A.den, BR.den, SA.den, FV.den, capV, exs, exP, allP, Cur.app, List.map_cons, List.map_nil, List.cons_append, List.nil_append, List.drop_succ_cons, List.drop_zero, List.length_cons, List.length_nil, Nat.zero_add, Nat.reduceAdd, Int.neg_neg, Bool.not_not, List.append_nil, Nat.add_zero, List.getElem?_cons_zero, List.getElem?_cons_succ, Decidable.not_not]
    have := append8 (some ⟨x, 0, none⟩) 0 0 [] S a n c l hr hl (fun _ => by simpa [Option.isSome_iff_ne_none] using ha) (by omega)
    refine this.weak (fun R h H => HP.sep_mono H (fun y hy => ⟨rfl, .inr ⟨x, #[], rfl, hy, Nat.le_refl _, by unfold maxLen; omega, rfl, rfl⟩⟩) fun _ h => h) ?_
    rintro v R h ⟨a', c', rfl, H⟩
    rw [Nat.zero_add, List.nil_append] at H
    exact ⟨a', n, c', OwB a' n c' l, by rw [Nat.zero_add], .of fun R' h' H' => ⟨a', c', rfl, HP.sep_comm H'⟩, H⟩

theorem cloneR_ok (S : HP) (a : Option Addr) (n c : Nat) (l : List UInt8) (hr : RdL S a n (l.map u8v)) (hl : l.length = n) (hb : n ≤ 140737488355328) :
    Tri Tryz.prog 74 #[.slice a n c] S (fun v => HP.ex fun a' => HP.ex fun c' => HP.and (v = .slice a' n c') (HP.sep (RoB a' n l) S)) :=
  (clone8_ok S a n c l hr hl hb).post fun v => fun R h d ⟨a', c', e, H⟩ => by
    obtain ⟨R1, h1, q1, q2, q3, q4, H1⟩ := (HP.ent.sep (OwC.share _ _ _ _ _ _) S) R h d H
    exact ⟨R1, h1, q1, q2, q3, q4, a', c', e, H1⟩

def WRep (b : Nat) (l : List UInt8) : HP := HP.ex fun a => HP.ex fun c => HP.sep (HP.one b (.cells #[.slice a l.length c] 169)) (OwB a l.length c l)
theorem width_ok (n : Int) (S : HP) : Tri Tryz.prog 139 #[.int .i64 n] S (fun v => HP.and (v = .int .i64 (min (max n 0) 8)) S) := by
  have : Tri Tryz.prog 139 #[.int .i64 n] HP.tt (fun v => HP.pure (v = .int .i64 (min (max n 0) 8))) := by
    refine tri_of_tree (ρ := [.i n]) mixed Tryz.func139 tree_width ?_
    unfold t_width
    simp only [T.den, E.prop, E.den, RX.look, F1.app, F2.app, Uni.int_i, Uni.nat_n, Uni.bool_c, Uni.str_s, Uni.adr_a, Uni.val_v, Uni.hp_p, hden, cden, V.den, W.den, A.den, BR.den, SA.den, FV.den, capV, exs, exP, allP, Cur.app, List.map_cons, List.map_nil, List.cons_append, List.nil_append, List.drop_succ_cons, List.drop_zero, List.length_cons, List.length_nil, Nat.zero_add, Nat.reduceAdd, Int.neg_neg, Bool.not_not, List.append_nil, Nat.add_zero, List.getElem?_cons_zero, List.getElem?_cons_succ, Decidable.not_not]
    exact .of fun _ _ _ => trivial
  exact (this.frame S).weak (fun _ _ H => HP.tt_sep H) fun v R h H => ⟨HP.sep_left H, HP.sep_right H⟩
theorem wByte_ok (b : Nat) (l : List UInt8) (x : UInt8) (hb : l.length < 140737488355328) :
    Tri Tryz.prog 127 #[.pointer (some ⟨b, 0, none⟩), .int .u8 x.toNat] (WRep b l) (fun v => HP.and (v = .tuple #[]) (WRep b (l ++ [x]))) := by
  unfold WRep
  refine Tri.ex fun a => Tri.ex fun c => ?_
  refine tri_of_tree (ρ := [.n b, .a a, .n l.length, .n c, .p (OwB a l.length c l), .i x.toNat]) mixed Tryz.func127 tree_wByte ?_
  unfold t_wByte
  simp only [T.den, E.prop, E.den, RX.look, F1.app, F2.app, Uni.int_i, Uni.nat_n, Uni.bool_c, Uni.str_s, Uni.adr_a, Uni.val_v, Uni.hp_p, hden, cden, V.den, W.den, A.den, BR.den, SA.den, FV.den, capV, exs, exP, allP, Cur.app, List.map_cons, List.map_nil, List.cons_append, List.nil_append, List.drop_succ_cons, List.drop_zero, List.length_cons, List.length_nil, Nat.zero_add, Nat.reduceAdd, Int.neg_neg, Bool.not_not, List.append_nil, Nat.add_zero, List.getElem?_cons_zero, List.getElem?_cons_succ, Decidable.not_not]
  intro y
  rw [semOf_append (by decide)]
  simp only [T.den, E.prop, E.den, RX.look, F1.app, F2.app, Uni.int_i, Uni.nat_n, Uni.bool_c, Uni.str_s, Uni.adr_a, Uni.val_v, Uni.hp_p, hden, cden, V.den, W.den, A.den, BR.den, SA.den, FV.den, capV, exs, exP, allP, Cur.app, List.map_cons, List.map_nil, List.cons_append, List.nil_append, List.drop_succ_cons, List.drop_zero, List.length_cons, List.length_nil, Nat.zero_add, Nat.reduceAdd, Int.neg_neg, Bool.not_not, List.append_nil, Nat.add_zero, List.getElem?_cons_zero, List.getElem?_cons_succ, Decidable.not_not]
  refine (append8 a l.length c l _ (some ⟨y, 0, none⟩) 1 1 [x] ⟨one_rd y #[u8v x] _, fun _ _ _ e => by cases e⟩ rfl (fun _ => rfl) (by omega)).weak (fun _ _ h => h) ?_
  rintro v R h ⟨a', c', rfl, H⟩
  refine ⟨a', l.length + 1, c', OwB a' (l.length + 1) c' (l ++ [x]), rfl, .of fun R h H => ⟨trivial, a', c', ?_⟩, H⟩
  rw [List.length_append]; exact H

def byteAt (v n j : Nat) : UInt8 := UInt8.ofNat (v / 2 ^ (8 * (n - 1 - j)))
def beN (v n : Nat) : List UInt8 := (List.range n).map (byteAt v n)
theorem byteAt_wrap (v n j : Nat) (hj : j < n) (hn : n ≤ 8) : IntKind.u8.wrap ((v : Int).fdiv (2 ^ (min (8 * ((n : Int) - 1 - (j : Int))).toNat IntKind.u64.bits))) = ((byteAt v n j).toNat : Int) := by
  have e1 : (8 * ((n : Int) - 1 - (j : Int))).toNat = 8 * (n - 1 - j) := by omega
  rw [e1, Nat.min_eq_left (by simp [IntKind.bits]; omega)]
  have e2 : ((v : Int).fdiv (2 ^ (8 * (n - 1 - j)))) = ((v / 2 ^ (8 * (n - 1 - j)) : Nat) : Int) := by
    rw [Int.fdiv_eq_ediv_of_nonneg _ (Int.pow_nonneg (by decide))]
    simp
  rw [e2]
  simp only [IntKind.wrap, IntKind.bits, IntKind.signed, byteAt, UInt8.toNat_ofNat', Bool.false_and, Bool.false_eq_true, if_false]
  omega
theorem beN_take (v n j : Nat) (hj : j < n) : (beN v n).take (j + 1) = (beN v n).take j ++ [byteAt v n j] := by
  rw [List.take_succ_eq_append_getElem (by simpa [beN] using hj)]
  congr 2
  simp [beN]
theorem beN_len (v n : Nat) : (beN v n).length = n := by simp [beN]
theorem wNumber_ok (b : Nat) (l : List UInt8) (v : Nat) (n : Nat) (hn : n ≤ 8) (hb : l.length + 8 < 140737488355328) :
    Tri Tryz.prog 122 #[.pointer (some ⟨b, 0, none⟩), .int .u64 v, .int .i64 n] (WRep b l) (fun r => HP.and (r = .tuple #[]) (WRep b (l ++ beN v n))) := by
  refine tri_of_tree (ρ := [.n b, .p (WRep b l), .i v, .i n]) mixed Tryz.func122 tree_wNumber ?_
  unfold t_wNumber
  simp only [T.den, E.prop, E.den, RX.look, F1.app, F2.app, Uni.int_i, Uni.nat_n, Uni.bool_c, Uni.str_s, Uni.adr_a, Uni.val_v, Uni.hp_p, hden, cden, V.den, W.den, A.den, BR.den, SA.den, FV.den, capV, exs, exP, allP, Cur.app, List.map_cons, List.map_nil, List.cons_append, List.nil_append, List.drop_succ_cons, List.drop_zero, List.length_cons, List.length_nil, Nat.zero_add, Nat.reduceAdd, Int.neg_neg, Bool.not_not, List.append_nil, Nat.add_zero, List.getElem?_cons_zero, List.getElem?_cons_succ, Decidable.not_not]
  refine (width_ok n HP.tt).weak (fun _ _ h => h) ?_
  rintro r R h ⟨rfl, H⟩
  refine ⟨min (max n 0) 8, rfl, ?_, H⟩
  rw [show min (max (n : Int) 0) 8 = n by omega]
  refine ⟨fun k p => ∃ i : Nat, k = i ∧ i ≤ n ∧ HP.ent p (WRep b (l ++ (beN v n).take i)), fun k p => n - k.toNat, ⟨0, rfl, Nat.zero_le _, by simpa using HP.ent.refl _⟩, ?_⟩
  rintro k p ⟨i, rfl, hi, hp⟩
  refine ⟨fun hlt => ?_, fun hge => ?_⟩
  · have hlt' : i < n := by omega
    have r : ∀ x : Int, -100 ≤ x → x ≤ 100 → IntKind.i64.min ≤ x ∧ x ≤ IntKind.i64.max := fun x h1 h2 => by simp [IntKind.min, IntKind.max, IntKind.signed, IntKind.bits]; omega
    refine ⟨r _ (by omega) (by omega), fun _ => ⟨r _ (by omega) (by omega), fun _ => ⟨r _ (by omega) (by omega), fun _ => ⟨by omega, fun _ => ?_⟩⟩⟩⟩
    rw [byteAt_wrap v n i hlt' hn]
    refine (wByte_ok b _ (byteAt v n i) (by simp [beN_len]; omega)).conseq (hp.trans (.of fun _ _ => HP.sep_tt)) fun r => .of fun R h H => ?_
    obtain ⟨rfl, H2⟩ := HP.sep_left H
    refine ⟨WRep b (l ++ (beN v n).take i ++ [byteAt v n i]), rfl, ⟨r _ (by omega) (by omega), fun _ => ?_⟩, H2⟩
    refine ⟨⟨i + 1, by omega, hlt', ?_⟩, by dsimp only; omega⟩
    rw [beN_take v n i hlt', ← List.append_assoc]
    exact HP.ent.refl _
  · have : i = n := by omega
    subst this
    refine hp.trans (.of fun R h H => ⟨trivial, ?_⟩)
    rw [List.take_of_length_le (by rw [beN_len]; exact Nat.le_refl _)] at H
    exact H
theorem wBytes_ok (b : Nat) (l : List UInt8) (a : Option Addr) (n c : Nat) (q : List UInt8) (S : HP) (hr : RdL S a n (q.map u8v)) (hq : q.length = n) (hs : n ≠ 0 → a.isSome = true) (hb : l.length + n + 100 < 140737488355328) :
    Tri Tryz.prog 79 #[.pointer (some ⟨b, 0, none⟩), .slice a n c] (HP.sep (WRep b l) S) (fun r => HP.and (r = .tuple #[]) (HP.sep (WRep b (l ++ beN n 4 ++ q)) S)) := by
  unfold WRep
  refine (Tri.ex (A := fun wa => HP.ex fun wc => HP.sep (HP.sep (HP.one b (.cells #[.slice wa l.length wc] 169)) (OwB wa l.length wc l)) S) fun wa => Tri.ex fun wc => ?_).weak (fun R h ⟨h1, h2, d, l1, l2, ⟨wa, wc, H⟩, hS⟩ => ⟨wa, wc, h1, h2, d, l1, l2, H, hS⟩) fun _ _ _ h => h
  refine (tri_of_tree (ρ := [.n b, .a wa, .n l.length, .n wc, .p (OwB wa l.length wc l), .a a, .n n, .n c, .p S]) mixed Tryz.func79 tree_wBytes ?_).weak (fun _ _ => HP.sep_assoc) fun _ _ _ h => h
  unfold t_wBytes
  simp only [T.den, E.prop, E.den, RX.look, F1.app, F2.app, Uni.int_i, Uni.nat_n, Uni.bool_c, Uni.str_s, Uni.adr_a, Uni.val_v, Uni.hp_p, hden, cden, V.den, W.den, A.den, BR.den, SA.den, FV.den, capV, exs, exP, allP, Cur.app, List.map_cons, List.map_nil, List.cons_append, List.nil_append, List.drop_succ_cons, List.drop_zero, List.length_cons, List.length_nil, Nat.zero_add, Nat.reduceAdd, Int.neg_neg, Bool.not_not, List.append_nil, Nat.add_zero, List.getElem?_cons_zero, List.getElem?_cons_succ, Decidable.not_not]
  have hw : IntKind.u64.wrap (n : Int) = n := wrap_in ⟨by simp [IntKind.min, IntKind.signed], by simp [IntKind.max, IntKind.signed, IntKind.bits]; omega⟩
  rw [hw]
  refine (wNumber_ok b l n 4 (by omega) (by omega)).weak (fun R h H => ⟨wa, wc, H⟩) ?_
  rintro r R h ⟨rfl, xa, xc, H⟩
  refine ⟨xa, _, xc, OwB xa (l ++ beN n 4).length xc (l ++ beN n 4), rfl, ?_, H⟩
  rw [semOf_append (by decide)]
  simp only [T.den, E.prop, E.den, RX.look, F1.app, F2.app, Uni.int_i, Uni.nat_n, Uni.bool_c, Uni.str_s, Uni.adr_a, Uni.val_v, Uni.hp_p, hden, cden, V.den, W.den, A.den, BR.den, SA.den, FV.den, capV, exs, exP, allP, Cur.app, List.map_cons, List.map_nil, List.cons_append, List.nil_append, List.drop_succ_cons, List.drop_zero, List.length_cons, List.length_nil, Nat.zero_add, Nat.reduceAdd, Int.neg_neg, Bool.not_not, List.append_nil, Nat.add_zero, List.getElem?_cons_zero, List.getElem?_cons_succ, Decidable.not_not]
  refine (append8 xa _ xc (l ++ beN n 4) S a n c q hr hq hs (by simp [beN_len]; omega)).weak (fun _ _ h => h) ?_
  rintro v R h ⟨a', c', rfl, H⟩
  refine ⟨a', _, c', OwB a' _ c' _, rfl, .of fun R h H => ⟨trivial, ?_⟩, H⟩
  have e : (l ++ beN n 4).length + n = (l ++ beN n 4 ++ q).length := by simp [hq]; omega
  rw [e] at H
  exact HP.sep_mono (HP.sep_assoc' H) (fun _ h => ⟨a', c', h⟩) fun _ h => h
theorem wOut_ok (b : Nat) (l : List UInt8) (hb : l.length < 140737488355328) :
    Tri Tryz.prog 78 #[.pointer (some ⟨b, 0, none⟩)] (WRep b l) (fun v => HP.ex fun a' => HP.ex fun c' => HP.and (v = .slice a' l.length c') (HP.sep (WRep b l) (OwB a' l.length c' l))) := by
  unfold WRep
  refine Tri.ex fun wa => Tri.ex fun wc => ?_
  refine tri_of_tree (ρ := [.n b, .a wa, .n l.length, .n wc, .p (OwB wa l.length wc l)]) mixed Tryz.func78 tree_wOut ?_
  unfold t_wOut
  simp only [T.den, E.prop, E.den, RX.look, F1.app, F2.app, Uni.int_i, Uni.nat_n, Uni.bool_c, Uni.str_s, Uni.adr_a, Uni.val_v, Uni.hp_p, hden, cden, V.den, W.den, A.den, BR.den, SA.den, FV.den, capV, exs, exP, allP, Cur.app, List.map_cons, List.map_nil, List.cons_append, List.nil_append, List.drop_succ_cons, List.drop_zero, List.length_cons, List.length_nil, Nat.zero_add, Nat.reduceAdd, Int.neg_neg, Bool.not_not, List.append_nil, Nat.add_zero, List.getElem?_cons_zero, List.getElem?_cons_succ, Decidable.not_not]
  refine (clone8_ok _ wa _ wc l (RdL.ow _ _ _ _ _ _) rfl (by omega)).weak (fun _ _ h => h) ?_
  rintro v R h ⟨a', c', rfl, H⟩
  exact ⟨a', _, c', OwB a' _ c' l, OwB wa l.length wc l, rfl, .of fun R h H => ⟨a', c', rfl, HP.sep_mono (HP.sep_assoc' H) (fun _ h => ⟨wa, wc, h⟩) fun _ h => h⟩, H⟩
end Go.Proofs.YtbmajijnjkicmaaGreatDoor



namespace Go.Proofs.YtbmajijnjkicmaaGreatDoor
open Go.RowKit

theorem hp_drew (w : World) (g : Nat) : w.drew.heap[g]? = w.heap[g]? := rfl
section
variable {P : Program} {ops : Array Oper} {rest : List Oper} {o : Oper} {a : Act} {w : World} {Q : Exit → Act → World → Prop}

end

theorem bits_mask_i64 (x : Int) (j : Nat) (hj : j ≤ 62) : bits .and .i64 x (2 ^ j - 1) = x % 2 ^ j := by
  have hp : (2 : Int) ^ j - 1 = ((2 ^ j - 1 : Nat) : Int) := by
    have := Nat.one_le_two_pow (n := j)
    rw [Int.ofNat_sub this]; simp
  have hlt : (2 : Nat) ^ j ≤ 2 ^ 62 := Nat.pow_le_pow_right (by decide) hj
  have h1 : (BitVec.ofInt 64 ((2 : Int) ^ j - 1)).toNat = 2 ^ j - 1 := by
    rw [hp, BitVec.ofInt_natCast, BitVec.toNat_ofNat, Nat.mod_eq_of_lt (by omega)]
  have h2 : (BitVec.ofInt 64 x &&& BitVec.ofInt 64 ((2 : Int) ^ j - 1)).toNat = (BitVec.ofInt 64 x).toNat % 2 ^ j := by
    rw [BitVec.toNat_and, h1, Nat.and_two_pow_sub_one_eq_mod]
  have h3 : ((BitVec.ofInt 64 x).toNat : Int) = x % 2 ^ 64 := by
    rw [BitVec.toNat_ofInt]
    have : (0 : Int) ≤ x % 2 ^ 64 := Int.emod_nonneg _ (by decide)
    omega
  have h4 : (((BitVec.ofInt 64 x).toNat % 2 ^ j : Nat) : Int) = x % 2 ^ j := by
    rw [Int.natCast_emod, h3, Int.natCast_pow]
    exact Int.emod_emod_of_dvd x (by
      refine ⟨2 ^ (64 - j), ?_⟩
      have e : (64 : Nat) = j + (64 - j) := by omega
      have := Int.pow_add (2 : Int) j (64 - j)
      rw [← e] at this
      exact this)
  have h5 : bits .and .i64 x (2 ^ j - 1) = IntKind.i64.wrap ((BitVec.ofInt 64 x &&& BitVec.ofInt 64 ((2 : Int) ^ j - 1)).toNat : Int) := rfl
  rw [h5, h2, h4, IntKind.wrap_i64]
  have e1 : (0 : Int) ≤ x % 2 ^ j := Int.emod_nonneg _ (by have := Int.pow_pos (n := 2) (m := j) (by decide); omega)
  have e2 : x % 2 ^ j < 2 ^ j := Int.emod_lt_of_pos _ (Int.pow_pos (by decide))
  have e3 : ((2 : Int) ^ j) ≤ 2 ^ 62 := by
    have := Int.ofNat_le.2 hlt
    simpa using this
  omega
theorem and3 (x : Int) : bits .and .i64 x 3 = x % 4 := bits_mask_i64 x 2 (by decide)
end Go.Proofs.YtbmajijnjkicmaaGreatDoor



namespace Go.Proofs.YtbmajijnjkicmaaGreatDoor
open Go.RowKit

def World.setObj (w : World) (r : Nat) (o : Obj) : World := { w with heap := w.heap.setIfInBounds r o }
theorem hp_setObj (w : World) (r g : Nat) (o : Obj) (h : r < w.heap.size) : (World.setObj w r o).heap[g]? = if r = g then some o else w.heap[g]? := by
  simp only [World.setObj, Array.getElem?_setIfInBounds]
  split
  · rename_i e; subst e; simp
  · rfl
theorem size_setObj (w : World) (r : Nat) (o : Obj) : (World.setObj w r o).heap.size = w.heap.size := by simp [World.setObj]
section
variable {κ : Type} [DecidableEq κ]

abbrev AL (κ : Type) := List (κ × Value × Nat)
def toE (enc : κ → Value) (x : κ × Value × Nat) : MapEntry := { key := enc x.1, val := x.2.1, born := x.2.2 }
def mapObj (enc : κ → Value) (l : AL κ) (c : Nat) : Obj := .map (l.map (toE enc)).toArray c

def alIdx (k : κ) : AL κ → Nat → Option (Nat × Value)
  | [], _ => none
  | x :: l, i => if k = x.1 then some (i, x.2.1) else alIdx k l (i + 1)
def alFind (k : κ) : AL κ → Option Value
  | [] => none
  | x :: l => if k = x.1 then some x.2.1 else alFind k l
def alPut (k : κ) (v : Value) (c : Nat) : AL κ → AL κ
  | [] => [(k, v, c)]
  | x :: l => if k = x.1 then (k, v, x.2.2) :: l else x :: alPut k v c l
def alDel (k : κ) : AL κ → AL κ
  | [] => []
  | x :: l => if k = x.1 then l else x :: alDel k l
def alClock (k : κ) (l : AL κ) (c : Nat) : Nat := if (alFind k l).isSome then c else c + 1

theorem alIdx_find (k : κ) : ∀ (l : AL κ) (i : Nat), (alIdx k l i).map (·.2) = alFind k l
  | [], _ => rfl
  | x :: l, i => by unfold alIdx alFind; split; rfl; exact alIdx_find k l (i + 1)

theorem alIdx_some (k : κ) : ∀ (l : AL κ) (i j : Nat) (v : Value), alIdx k l i = some (j, v) → ∃ m b, j = i + m ∧ l[m]? = some (k, v, b) ∧ ∀ (u : Value) (c : Nat), alPut k u c l = l.set m (k, u, b) ∧ alDel k l = l.eraseIdx m
  | [], _, _, _, h => by cases h
  | x :: l, i, j, v, h => by
    unfold alIdx at h
    split at h
    · rename_i e
      obtain ⟨k', v', b⟩ := x
      simp only at e; subst e
      injection h with h; injection h with h1 h2; subst h1; subst h2
      exact ⟨0, b, rfl, rfl, fun u c => by simp [alPut, alDel]⟩
    · rename_i e
      obtain ⟨m, b, h1, h2, h3⟩ := alIdx_some k l _ _ _ h
      refine ⟨m + 1, b, by omega, by simpa using h2, fun u c => ?_⟩
      unfold alPut alDel
      rw [if_neg e, if_neg e, (h3 u c).1, (h3 u c).2]
      exact ⟨rfl, rfl⟩

theorem alIdx_none (k : κ) : ∀ (l : AL κ) (i : Nat), alIdx k l i = none → ∀ (u : Value) (c : Nat), alPut k u c l = l ++ [(k, u, c)] ∧ alDel k l = l
  | [], _, _, _, _ => ⟨rfl, rfl⟩
  | x :: l, i, h, u, c => by
    unfold alIdx at h
    split at h
    · cases h
    · rename_i e
      unfold alPut alDel
      rw [if_neg e, if_neg e, (alIdx_none k l _ h u c).1, (alIdx_none k l _ h u c).2]
      exact ⟨rfl, rfl⟩

theorem alFind_put (k k' : κ) (v : Value) (c : Nat) : ∀ l : AL κ, alFind k' (alPut k v c l) = if k' = k then some v else alFind k' l
  | [] => by simp [alPut, alFind]
  | x :: l => by
    unfold alPut
    split
    · rename_i e; subst e
      by_cases h : k' = x.1 <;> simp [alFind, h]
    · rename_i e
      unfold alFind
      rw [alFind_put k k' v c l]
      by_cases h : k' = x.1
      · have : k' ≠ k := fun h' => e (h'.symm.trans h)
        simp [h, Ne.symm e]
      · simp [h]

theorem alFind_none_of (k : κ) : ∀ l : AL κ, (∀ x ∈ l, x.1 ≠ k) → alFind k l = none
  | [], _ => rfl
  | x :: l, h => by
    unfold alFind
    rw [if_neg (fun e => h x (by simp) e.symm), alFind_none_of k l (fun y hy => h y (by simp [hy]))]

theorem alFind_some_mem (k : κ) : ∀ (l : AL κ) (v : Value), alFind k l = some v → ∃ b, (k, v, b) ∈ l
  | [], _, h => by cases h
  | x :: l, v, h => by
    unfold alFind at h
    split at h
    · rename_i e
      obtain ⟨k', v', b⟩ := x
      simp only at e; subst e
      injection h with h; subst h
      exact ⟨b, by simp⟩
    · obtain ⟨b, hb⟩ := alFind_some_mem k l v h
      exact ⟨b, by simp [hb]⟩

theorem alFind_mem (k : κ) (v : Value) (b : Nat) : ∀ (l : AL κ), (l.map (·.1)).Nodup → (k, v, b) ∈ l → alFind k l = some v
  | [], _, h => by cases h
  | x :: l, hn, h => by
    unfold alFind
    rw [List.map_cons, List.nodup_cons] at hn
    rcases List.mem_cons.1 h with h | h
    · subst h; simp
    · have : k ≠ x.1 := fun e => hn.1 (by rw [← e]; exact List.mem_map.2 ⟨_, h, rfl⟩)
      rw [if_neg this, alFind_mem k v b l hn.2 h]

theorem alPut_keys (k : κ) (v : Value) (c : Nat) : ∀ l : AL κ, (alPut k v c l).map (·.1) = if (alFind k l).isSome then l.map (·.1) else l.map (·.1) ++ [k]
  | [] => by simp [alPut, alFind]
  | x :: l => by
    unfold alPut alFind
    by_cases h : k = x.1
    · simp [h]
    · rw [if_neg h, if_neg h, List.map_cons, alPut_keys k v c l]
      split <;> simp

theorem alFind_isSome (k : κ) : ∀ l : AL κ, (alFind k l).isSome = true ↔ k ∈ l.map (·.1)
  | [] => by simp [alFind]
  | x :: l => by
    unfold alFind
    by_cases h : k = x.1
    · simp [h]
    · rw [if_neg h, alFind_isSome k l]; simp [h]

theorem alPut_nodup (k : κ) (v : Value) (c : Nat) (l : AL κ) (h : (l.map (·.1)).Nodup) : ((alPut k v c l).map (·.1)).Nodup := by
  rw [alPut_keys]
  split
  · exact h
  · rename_i hn
    rw [alFind_isSome] at hn
    rw [List.nodup_append]
    exact ⟨h, by simp, fun a ha b hb => by simp at hb; subst hb; exact fun e => hn (e ▸ ha)⟩

structure KeyEnc (P : Program) (kt : TypeId) (enc : κ → Value) : Prop where
  check : ∀ (em : Bool) (k : κ) (w : World), (Instr.checkKey em 10000 kt (enc k)).run P w = .ok () w
  find : ∀ (k : κ) (l : AL κ) (w : World), (Instr.findKey kt (enc k) (l.map (toE enc))).run P w = .ok (alIdx k l 0) w
  bits : ∀ k, Instr.sameBits 10000 (enc k) (enc k) = true

theorem run_getObj_map {P : Program} {w : World} {r : Nat} {es : Array MapEntry} {c : Nat} (h : w.heap[r]? = some (.map es c)) : (getObj r).run P w = .ok (.map es c) w := by
  simp [getObj, Sem.run, h]
theorem run_setObj_map {P : Program} {w : World} {r : Nat} {es : Array MapEntry} {c : Nat} (o : Obj) (h : w.heap[r]? = some (.map es c)) : (setObj r o).run P w = .ok () (World.setObj w r o) := by
  simp [Go.setObj, Sem.run, h, World.setObj]

theorem run_mapUpdate_raw {P : Program} {w : World} {kt et t : TypeId} {enc : κ → Value} (K : KeyEnc P kt enc) (ht : P.underlying t = some (.map kt et)) {r : Nat} {l : AL κ} {c : Nat}
    (hb : w.heap[r]? = some (mapObj enc l c)) (k : κ) (v : Value) :
    (Instr.mapUpdate t (.map (some r)) (enc k) v).run P w = .ok () (World.setObj w r (mapObj enc (alPut k v c l) (alClock k l c))) := by
  unfold mapObj at hb
  unfold Instr.mapUpdate
  simp only [Sem.run_bind, run_underlying ht, Result.andThen, run_getObj_map hb, K.check, K.find]
  have hf := alIdx_find k l 0
  cases hi : alIdx k l 0 with
  | none =>
    rw [hi] at hf
    simp only [run_setObj_map _ hb, alClock, ← hf, (alIdx_none k l 0 hi v c).1]
    simp [mapObj, toE]
  | some p =>
    obtain ⟨j, u⟩ := p
    rw [hi] at hf
    obtain ⟨m, b, h1, h2, h3⟩ := alIdx_some k l 0 j u hi
    obtain rfl : j = m := by omega
    have hm : ((l.map (toE enc)).toArray[j]?.map (·.key)).getD (enc k) = enc k := by
      simp [h2, toE]
    simp only [hm, Instr.keyThatStays, K.bits, if_true, Sem.run_bind, Sem.run_pure, Result.andThen, run_setObj_map _ hb, alClock, ← hf, (h3 v c).1]
    simp only [mapObj, Option.map_some, Option.isSome_some, if_true]
    congr 3
    apply Array.ext_getElem?
    intro i
    have hj : j < l.length := by
      rcases Nat.lt_or_ge j l.length with h | h
      · exact h
      · rw [List.getElem?_eq_none h] at h2; cases h2
    simp only [Array.getElem?_modify, List.getElem?_toArray, List.getElem?_map, List.getElem?_set]
    by_cases e : j = i
    · subst e; rw [if_pos rfl, if_pos hj, h2]; simp [toE]
    · simp [e]

theorem run_lookup_raw {P : Program} {w : World} {kt et t : TypeId} {enc : κ → Value} (K : KeyEnc P kt enc) (ht : P.underlying t = some (.map kt et)) {r : Nat} {l : AL κ} {c : Nat}
    (hb : w.heap[r]? = some (mapObj enc l c)) (k : κ) (z : Value) (hz : (zeroValue et).run P w = .ok z w) (ok : Bool) :
    (Instr.lookup t (.map (some r)) (enc k) ok).run P w = .ok (if ok then .tuple #[(alFind k l).getD z, .bool (alFind k l).isSome] else (alFind k l).getD z) w := by
  unfold mapObj at hb
  unfold Instr.lookup
  simp only [Sem.run_bind, run_underlying ht, Result.andThen, run_getObj_map hb, Sem.run_pure, K.check, K.find]
  have hf := alIdx_find k l 0
  cases hi : alIdx k l 0 with
  | none => rw [hi] at hf; simp [← hf, hz, Result.andThen]
  | some p => rw [hi] at hf; simp [← hf]

theorem eraseIdx_map' {α β : Type} (f : α → β) : ∀ (l : List α) (i : Nat), (l.map f).eraseIdx i = (l.eraseIdx i).map f
  | [], _ => by simp
  | _ :: _, 0 => rfl
  | x :: l, i + 1 => by simp [eraseIdx_map' f l i]
theorem run_delete_raw {P : Program} {w : World} {kt et t : TypeId} {enc : κ → Value} (K : KeyEnc P kt enc) (ht : P.underlying t = some (.map kt et)) {r : Nat} {l : AL κ} {c : Nat}
    (hb : w.heap[r]? = some (mapObj enc l c)) (k : κ) (ts : Array TypeId) (ty : TypeId) (h0 : ts[0]? = some t) :
    (Builtin.delete_ ts ty #[.map (some r), enc k]).run P w = .ok (.tuple #[]) (World.setObj w r (mapObj enc (alDel k l) c)) := by
  unfold mapObj at hb
  unfold Builtin.delete_
  simp only [h0, List.getElem?_toArray, List.getElem?_cons_zero, List.getElem?_cons_succ, Sem.run_bind, run_underlying ht, Result.andThen, run_getObj_map hb, K.check, K.find]
  cases hi : alIdx k l 0 with
  | none =>
    simp only [(alIdx_none k l 0 hi .nilFunc 0).2]
    rw [Sem.run_bind, run_setObj_map _ hb]
    rfl
  | some p =>
    obtain ⟨j, u⟩ := p
    obtain ⟨m, b, h1, h2, h3⟩ := alIdx_some k l 0 j u hi
    obtain rfl : j = m := by omega
    simp only [(h3 .nilFunc 0).2]
    rw [Sem.run_bind, run_setObj_map _ hb]
    simp only [mapObj, Result.andThen_ok, Sem.run_pure]
    congr 3
    have hj : j < l.length := by
      rcases Nat.lt_or_ge j l.length with h | h
      · exact h
      · rw [List.getElem?_eq_none h] at h2; cases h2
    simp [Array.eraseIdxIfInBounds, hj, eraseIdx_map']
end

theorem int_enc {P : Program} {kt : TypeId} {ik : IntKind} (h : P.underlying kt = some (.int ik)) : KeyEnc P kt (fun n : Int => Value.int ik n) where
  check em k w := by
    unfold Instr.checkKey
    simp [run_underlying h]
  find k l w := by
    unfold Instr.findKey
    have hn : ∀ (l : AL Int) (i : Nat), Instr.findNow (.int ik) (.int ik k) (l.map (toE fun n : Int => Value.int ik n)) i = some (alIdx k l i) := by
      intro l
      induction l with
      | nil => intro i; rfl
      | cons x l ih =>
        intro i
        simp only [List.map_cons, Instr.findNow, toE, Instr.sameNow, if_true, alIdx]
        by_cases e : k = x.1
        · simp [e]
        · have : (k == x.1) = false := by simpa using e
          simp only [this, if_neg e]
          exact ih (i + 1)
    simp only [Sem.run_bind, run_underlying h, Result.andThen, hn, Sem.run_pure]
  bits k := by simp [Instr.sameBits]

section
variable {P : Program} {ops : Array Oper} {rest : List Oper} {o : Oper} {a : Act} {w : World} {Q : Exit → Act → World → Prop} {κ : Type} [DecidableEq κ]

end

end Go.Proofs.YtbmajijnjkicmaaGreatDoor



namespace Go.Proofs.YtbmajijnjkicmaaGreatDoor
open Go.RowKit

set_option linter.unusedSectionVars false
section
variable {P : Program} {κ : Type} [DecidableEq κ] {enc : κ → Value}

structure Stamps (l : AL κ) (c : Nat) : Prop where
  low : ∀ x ∈ l, x.2.2 < c
  nodup : (l.map (·.2.2)).Nodup

theorem Stamps.nil (c : Nat) : Stamps ([] : AL κ) c := ⟨(fun x h => by cases h), List.nodup_nil⟩
theorem Stamps.snoc {l : AL κ} {c : Nat} (h : Stamps l c) (k : κ) (v : Value) : Stamps (l ++ [(k, v, c)]) (c + 1) := by
  refine ⟨fun x hx => ?_, ?_⟩
  · rcases List.mem_append.1 hx with hx | hx
    · have := h.low x hx; omega
    · simp at hx; subst hx; simp
  · rw [List.map_append, List.nodup_append]
    refine ⟨h.nodup, by simp, fun a ha b hb => ?_⟩
    simp at hb
    subst hb
    obtain ⟨x, hx, rfl⟩ := List.mem_map.1 ha
    have := h.low x hx
    omega

theorem run_next_raw {w : World} {it m c : Nat} {S : Array Nat} {l : AL κ} (ty : TypeId) (hit : w.heap[it]? = some (.mapIter (some m) c S c)) (hm : w.heap[m]? = some (mapObj enc l c)) (hs : Stamps l c) :
    ((∀ x ∈ l, x.2.2 ∈ S) ∧ (Instr.next (.pointer (some ⟨it, 0, none⟩)) false ty).run P w = .ok (.tuple #[.bool false]) w) ∨
    ∃ x ∈ l, x.2.2 ∉ S ∧ ∃ w1, (w1 = w ∨ w1 = w.drew) ∧ (Instr.next (.pointer (some ⟨it, 0, none⟩)) false ty).run P w = .ok (.tuple #[.bool true, enc x.1, x.2.1]) (World.setObj w1 it (.mapIter (some m) c (S.push x.2.2) c)) := by
  unfold mapObj at hm
  have hold : ∀ x ∈ (l.map (toE enc)).toArray.toList, x.born < c := fun x hx => by
    simp only at hx
    obtain ⟨y, hy, rfl⟩ := List.mem_map.1 hx
    exact hs.low y hy
  have htest := next_test_false S (l.map (toE enc)).toArray c c hold (Nat.le_refl _)
  have hset : ∀ (w1 : World) (o : Obj), (w1 = w ∨ w1 = w.drew) → (setObj it o).run P w1 = .ok () (World.setObj w1 it o) := fun w1 o hw => by
    rcases hw with rfl | rfl <;> simp [Go.setObj, Sem.run, hit, World.setObj, hp_drew]
  have hmemL : ∀ x ∈ (Array.filter (fun e => !S.contains e.born) (l.map (toE enc)).toArray).toList, ∃ y ∈ l, x = toE enc y ∧ y.2.2 ∉ S := fun x hx => by
    simp at hx
    obtain ⟨⟨a, b, d, hy, rfl⟩, h2⟩ := hx
    exact ⟨(a, b, d), hy, rfl, by simpa [toE] using h2⟩
  have hallL : (Array.filter (fun e => !S.contains e.born) (l.map (toE enc)).toArray).size = 0 → ∀ y ∈ l, y.2.2 ∈ S := fun h0 y hy => by
    have h1 := Array.eq_empty_of_size_eq_zero h0
    rw [Array.filter_eq_empty_iff] at h1
    have := h1 (a := toE enc y) (by simp; exact ⟨_, _, _, hy, rfl⟩)
    simpa [toE] using this
  simp only [Instr.next, getObj, Sem.run_bind, Sem.run, hit, hm, Result.andThen, htest, Bool.false_eq_true, if_false]
  have hmem : ∀ x ∈ (Array.filter (fun e => !S.contains e.born) (l.map (toE enc)).toArray).toList, x.born < c := fun x hx => hold x (by simp at hx ⊢; exact hx.1)
  generalize Array.filter (fun e => !S.contains e.born) (l.map (toE enc)).toArray = L at hmem hmemL hallL ⊢
  have e1 : L.filter (fun x => decide (x.born < c)) = L := Array.filter_eq_self.2 (fun x hx => by simpa using hmem x (by simpa using hx))
  have e2 : L.filter (fun x => decide (x.born ≥ c)) = #[] := by
    rw [Array.filter_eq_empty_iff]
    intro x hx
    have := hmem x (by simpa using hx)
    simp
    omega
  simp only [e1, e2, Array.append_empty]
  by_cases h0 : L.size = 0
  · left
    refine ⟨hallL h0, ?_⟩
    have : L = #[] := Array.eq_empty_of_size_eq_zero h0
    subst this
    simp [choose, Sem.run, Question.forced]
  · right
    have hne : L.isEmpty = false := by simp [Array.isEmpty, h0]
    simp only [hne, Bool.false_eq_true, if_false, Array.empty_append, Array.size_map]
    have hch : ∃ (j : Nat) (w1 : World), j < L.size ∧ (w1 = w ∨ w1 = w.drew) ∧ (choose (Question.mapNext L.size)).run P w = .ok j w1 := by
      by_cases hf : L.size ≤ 1
      · exact ⟨0, w, by omega, .inl rfl, by simp [choose, Sem.run, Question.forced, hf]⟩
      · exact ⟨_, w.drew, Nat.mod_lt _ (by omega), .inr rfl, by
          simp only [choose, Sem.run, Question.forced, decide_eq_true_eq, hf, if_false, Question.cut]
          rfl⟩
    obtain ⟨j, w1, hj, hal, hrun⟩ := hch
    obtain ⟨y, hy, hLj, hyS⟩ := hmemL L[j] (by simp)
    refine ⟨y, hy, hyS, w1, hal, ?_⟩
    simp only [hrun, Array.getElem?_map, Array.getElem?_eq_getElem hj, Option.map_some, Sem.run_bind, hLj, toE]
    rw [hset w1 _ hal]
    rfl

theorem run_entry_raw {w : World} {it m c : Nat} {S : Array Nat} {l : AL κ} {x : κ × Value × Nat} (hit : w.heap[it]? = some (.mapIter (some m) c (S.push x.2.2) c)) (hm : w.heap[m]? = some (mapObj enc l c)) (hs : Stamps l c) (hx : x ∈ l) :
    (Instr.entry (.pointer (some ⟨it, 0, none⟩))).run P w = .ok (.tuple #[enc x.1, x.2.1]) w := by
  unfold mapObj at hm
  have hf : (l.map (toE enc)).toArray.find? (·.born == x.2.2) = some (toE enc x) := by
    rw [← Array.find?_toList]
    exact find_born (toE enc x) (l.map (toE enc)) (by rw [List.map_map]; exact hs.nodup) (List.mem_map.2 ⟨x, hx, rfl⟩)
  simp only [Instr.entry, getObj, Sem.run_bind, Sem.run, hit, hm, Result.andThen, Array.back?_push, bne_self_eq_false, Bool.false_eq_true, if_false, hf]
  rfl

theorem run_range_raw {w : World} {t k e : TypeId} {m c : Nat} {l : AL κ} (ht : P.underlying t = some (.map k e)) (hb : w.heap[m]? = some (mapObj enc l c)) :
    (Instr.range t (.map (some m))).run P w = .ok (.pointer (some ⟨w.heap.size, 0, none⟩)) (w.alloc (.mapIter (some m) c #[] c)) :=
  run_range_map w t k e m _ c ht hb
end

def leftN {κ : Type} (l : AL κ) (S : Array Nat) : Nat := (l.filter fun x => !S.contains x.2.2).length
theorem leftN_push {κ : Type} {l : AL κ} {S : Array Nat} {x : κ × Value × Nat} (hx : x ∈ l) (hS : x.2.2 ∉ S) : leftN l (S.push x.2.2) < leftN l S := by
  unfold leftN
  refine filter_lt (fun y : κ × Value × Nat => !S.contains y.2.2) (fun y => !(S.push x.2.2).contains y.2.2) ?_ x ?_ ?_ l hx
  · intro y hy
    simp only [Array.contains_push, Bool.not_or, Bool.and_eq_true] at hy
    exact hy.1
  · simpa using hS
  · simp
section
variable {P : Program} {ops : Array Oper} {rest : List Oper} {o : Oper} {a : Act} {w : World} {Q : Exit → Act → World → Prop} {κ : Type} [DecidableEq κ] {enc : κ → Value}
end
end Go.Proofs.YtbmajijnjkicmaaGreatDoor



namespace Go.Proofs.YtbmajijnjkicmaaGreatDoor
open Go.Proofs.YtbmajijnjkicmaaGreatDoor RX

section
variable {κ : Type} [DecidableEq κ] {enc : κ → Value} {kt et t ty : TypeId} {r m it c : Nat} {l : AL κ} {S : Array Nat}

def MapI (l : AL κ) (c : Nat) : Prop := (l.map (·.1)).Nodup ∧ Stamps l c
def lookS (t : TypeId) (m k : Value) (ok : Bool) : Sem Next := do pure (.value (← Instr.lookup t m k ok))
theorem semOf_lookup {ρ : Env} {i j : Nat} {u v : V} {ok : Bool} (h : i ≠ j) : semOf ρ (.lookup t (.tmp i) (.tmp j) ok) ty [(i, u), (j, v)] = lookS t (u.den ρ) (v.den ρ) ok := by
  have h' : (i == j) = false := by simpa using h
  simp [semOf, execOp, arEval, h', lookS]
theorem run_zeroV {w : World} {i : TypeInfo} {z : Value} (hi : Tryz.prog.info? et = some i) (hz : i.zero = some z) : (zeroValue et).run Tryz.prog w = .ok z w := by
  unfold zeroValue
  simp only [Sem.run_bind, RX.run_typeInfo hi, Result.andThen_ok, hz]
  rfl
theorem look_ok (K : KeyEnc Tryz.prog kt enc) (ht : Tryz.prog.underlying t = some (.map kt et)) {i : TypeInfo} {z : Value} (hi : Tryz.prog.info? et = some i) (hz : i.zero = some z) (k : κ) (ok : Bool) {A : HP} (hA : ∀ R h, A.p R h → h r = some (mapObj enc l c)) :
    ORead Tryz.prog (lookS t (.map (some r)) (enc k) ok) A (if ok then .tuple #[(alFind k l).getD z, .bool (alFind k l).isSome] else (alFind k l).getD z) := fun w R h F s a => by
  unfold lookS
  rw [Sem.run_bind, run_lookup_raw K ht (s.oh _ _ (hA R h a)) k z (run_zeroV hi hz) ok]
  rfl
theorem Sat.setObj {w : World} {R h F : PH} (s : Sat w R h F) {b : Nat} {x y : Obj} (hb : h b = some x) : Sat (World.setObj w b y) R (fun k => if k = b then some y else h k) F :=
  s.turn hb (fun k hk => by rw [hp_setObj _ _ _ _ (s.oh.lt hb), if_neg (fun e => hk e.symm)]) (by rw [hp_setObj _ _ _ _ (s.oh.lt hb), if_pos rfl])
theorem Same.setObj (w : World) (b : Nat) (y : Obj) : Same w (World.setObj w b y) := ⟨rfl, rfl, rfl, by rw [size_setObj]; omega⟩
def updS (t : TypeId) (m k v : Value) : Sem Next := do Instr.mapUpdate t m k v; pure .skip
theorem semOf_update {ρ : Env} {i j q : Nat} {u v x : V} (h : i ≠ j) (h2 : i ≠ q) (h3 : j ≠ q) : semOf ρ (.mapUpdate t (.tmp i) (.tmp j) (.tmp q)) ty [(i, u), (j, v), (q, x)] = updS t (u.den ρ) (v.den ρ) (x.den ρ) := by
  have h' : (i == j) = false := by simpa using h
  have h2' : (i == q) = false := by simpa using h2
  have h3' : (j == q) = false := by simpa using h3
  simp [semOf, execOp, arEval, h', h2', h3', updS]
theorem upd_ok (K : KeyEnc Tryz.prog kt enc) (ht : Tryz.prog.underlying t = some (.map kt et)) (k : κ) (v : Value) :
    OTri Tryz.prog (updS t (.map (some r)) (enc k) v) (HP.one r (mapObj enc l c)) (fun x => HP.and (x = .tuple #[]) (HP.one r (mapObj enc (alPut k v c l) (alClock k l c)))) := fun w R h F s a => by
  refine ⟨.skip, _, _, by unfold updS; rw [Sem.run_bind, run_mapUpdate_raw K ht (s.oh _ _ a) k v]; rfl, rfl, Same.setObj _ _ _, R, _, PH.le.refl _, s.setObj a, rfl, if_pos rfl⟩
def delS (ts : Array TypeId) (ty : TypeId) (u v : Value) : Sem Next := do pure (.value (← Builtin.delete_ ts ty #[u, v]))
theorem semOf_delete {ρ : Env} {i j : Nat} {u v : V} {ts : Array TypeId} (h : i ≠ j) : semOf ρ (.call ⟨.builtin .delete, #[.tmp i, .tmp j], ts⟩) ty [(i, u), (j, v)] = delS ts ty (u.den ρ) (v.den ρ) := by
  have h' : (i == j) = false := by simpa using h
  simp [semOf, execOp, resolve, arEval, invoke, builtin, h', delS]
theorem del_ok (K : KeyEnc Tryz.prog kt enc) (ht : Tryz.prog.underlying t = some (.map kt et)) (k : κ) (ts : Array TypeId) (h0 : ts[0]? = some t) :
    OTri Tryz.prog (delS ts ty (.map (some r)) (enc k)) (HP.one r (mapObj enc l c)) (fun x => HP.and (x = .tuple #[]) (HP.one r (mapObj enc (alDel k l) c))) := fun w R h F s a => by
  refine ⟨.value _, _, _, by unfold delS; rw [Sem.run_bind, run_delete_raw K ht (s.oh _ _ a) k ts ty h0]; rfl, rfl, Same.setObj _ _ _, R, _, PH.le.refl _, s.setObj a, rfl, if_pos rfl⟩
def rangS (t : TypeId) (m : Value) : Sem Next := do pure (.value (← Instr.range t m))
theorem semOf_range {ρ : Env} {i : Nat} {u : V} : semOf ρ (.range t (.tmp i)) ty [(i, u)] = rangS t (u.den ρ) := by
  simp [semOf, execOp, arEval, rangS]
theorem range_ok {k e : TypeId} (ht : Tryz.prog.underlying t = some (.map k e)) :
    OTri Tryz.prog (rangS t (.map (some m))) (HP.one m (mapObj enc l c)) (fun v => HP.ex fun it => HP.and (v = .pointer (some ⟨it, 0, none⟩)) (HP.sep (HP.one it (.mapIter (some m) c #[] c)) (HP.one m (mapObj enc l c)))) := fun w R h F s a => by
  obtain ⟨s2, d2⟩ := s.alloc (.mapIter (some m) c #[] c)
  refine ⟨.value _, _, _, by unfold rangS; rw [Sem.run_bind, run_range_raw ht (s.oh _ _ a)]; rfl, rfl, Same.alloc _ _, R, _, PH.le.refl _, s2, w.heap.size, rfl, _, h, d2, PH.un_left _ _, PH.un_right d2, PH.one_self _ _, a⟩
def nextS (x : Value) (ty : TypeId) : Sem Next := do pure (.value (← Instr.next x false ty))
theorem semOf_next {ρ : Env} {i : Nat} {u : V} : semOf ρ (.next (.tmp i) false) ty [(i, u)] = nextS (u.den ρ) ty := by
  simp [semOf, execOp, arEval, nextS]
def nextE (enc : κ → Value) (l : AL κ) (S : Array Nat) (v : Value) : Option (κ × Value × Nat) → Prop
  | none => v = .tuple #[.bool false] ∧ ∀ x ∈ l, x.2.2 ∈ S
  | some x => v = .tuple #[.bool true, enc x.1, x.2.1] ∧ x ∈ l ∧ x.2.2 ∉ S
def nextI (S : Array Nat) : Option (κ × Value × Nat) → Array Nat
  | none => S
  | some x => S.push x.2.2
theorem next_ok (hs : Stamps l c) : OTri Tryz.prog (nextS (.pointer (some ⟨it, 0, none⟩)) ty) (HP.sep (HP.one it (.mapIter (some m) c S c)) (HP.one m (mapObj enc l c)))
    (fun v => HP.ex fun e => HP.and (nextE enc l S v e) (HP.sep (HP.one it (.mapIter (some m) c (nextI S e) c)) (HP.one m (mapObj enc l c)))) := fun w R h F s a => by
  have a1 := HP.sep_left a
  have a2 := HP.sep_right a
  have hne : m ≠ it := by
    obtain ⟨h1, h2, d, _, _, b1, b2⟩ := a
    intro e
    subst e
    rcases d m with e | e
    · rw [show h1 m = some _ from b1] at e; cases e
    · rw [show h2 m = some _ from b2] at e; cases e
  rcases run_next_raw (P := Tryz.prog) ty (s.oh _ _ a1) (s.oh _ _ a2) hs with ⟨hall, hrun⟩ | ⟨x, hx, hS, w1, hw1, hrun⟩
  · exact ⟨.value _, _, w, by unfold nextS; rw [Sem.run_bind, hrun]; rfl, rfl, Same.refl _, R, h, PH.le.refl _, s, none, ⟨rfl, hall⟩, a⟩
  · have s1 : Sat w1 R h F ∧ Same w w1 := by
      rcases hw1 with rfl | rfl
      · exact ⟨s, Same.refl _⟩
      · exact ⟨s.drew _, Same.drew w _⟩
    refine ⟨.value _, _, _, by unfold nextS; rw [Sem.run_bind, hrun]; rfl, rfl, s1.2.trans (Same.setObj _ _ _), R, _, PH.le.refl _, s1.1.setObj a1, some x, ⟨rfl, hx, hS⟩, PH.one it _, PH.one m (mapObj enc l c), fun k => ?_, PH.one_le (if_pos rfl), PH.one_le ?_, PH.one_self _ _, PH.one_self _ _⟩
    · by_cases e : k = it
      · subst e; exact .inr (if_neg (fun e => hne e.symm))
      · exact .inl (if_neg e)
    · exact (if_neg hne).trans a2
def entS (x : Value) : Sem Next := do pure (.value (← Instr.entry x))
theorem entry_ok {x : κ × Value × Nat} (hs : Stamps l c) (hx : x ∈ l) {A : HP} (h1 : ∀ R h, A.p R h → h it = some (.mapIter (some m) c (S.push x.2.2) c)) (h2 : ∀ R h, A.p R h → h m = some (mapObj enc l c)) :
    ORead Tryz.prog (entS (.pointer (some ⟨it, 0, none⟩))) A (.tuple #[enc x.1, x.2.1]) := fun w R h F s a => by
  unfold entS
  rw [Sem.run_bind, run_entry_raw (P := Tryz.prog) (s.oh _ _ (h1 R h a)) (s.oh _ _ (h2 R h a)) hs hx]
  rfl
end
end Go.Proofs.YtbmajijnjkicmaaGreatDoor



namespace Go.Proofs.YtbmajijnjkicmaaGreatDoor
open Go.Proofs.YtbmajijnjkicmaaGreatDoor RX

def arW (ar : List (Nat × Value)) : Operand → Value
  | .tmp t => match ar.find? (·.1 == t) with
    | some x => x.2
    | none => undef
  | .const v => v
  | .global g => .pointer (some ⟨g, 0, none⟩)
  | .func f => .func (.func f) #[] #[]
def semW (o : Op) (ty : TypeId) (ar : List (Nat × Value)) : Sem Next := execOp (arW ar) { dst := none, op := o, type := ty, pos := "", after := #[], guard := none }
theorem find_map (ρ : Env) (t : Nat) : ∀ ar : List (Nat × V), (ar.map fun x => (x.1, x.2.den ρ)).find? (·.1 == t) = (ar.find? (·.1 == t)).map fun x => (x.1, x.2.den ρ)
  | [] => rfl
  | x :: r => by
    simp only [List.map_cons, List.find?_cons]
    cases x.1 == t <;> simp [find_map ρ t r]
theorem semW_eq {ρ : Env} {o : Op} {ty : TypeId} {ar : List (Nat × V)} : semOf ρ o ty ar = semW o ty (ar.map fun x => (x.1, x.2.den ρ)) := by
  have h : arEval ρ ar = arW (ar.map fun x => (x.1, x.2.den ρ)) := by
    funext x
    cases x with
    | tmp t =>
      simp only [arEval, arW, find_map]
      cases ar.find? (·.1 == t) <;> rfl
    | const v => rfl
    | global g => rfl
    | func f => rfl
  unfold semOf semW
  rw [h]
section
variable {t ty : TypeId} {i j q : Nat} {u v x : Value}
theorem semW_load : semW (.load t (.tmp i)) ty [(i, u)] = loadS t u := by simp [semW, execOp, arW, loadS]
theorem semW_store (h : i ≠ j) : semW (.store t (.tmp i) (.tmp j)) ty [(i, u), (j, v)] = storeS t u v := by
  have h' : (i == j) = false := by simpa using h
  simp [semW, execOp, arW, h', storeS]
theorem semW_storeC : semW (.store t (.tmp i) (.const v)) ty [(i, u)] = storeS t u v := by simp [semW, execOp, arW, storeS]
theorem semW_append (h : i ≠ j) : semW (.call ⟨.builtin .append, #[.tmp i, .tmp j], #[t, t]⟩) ty [(i, u), (j, v)] = appS t ty u v := by
  have h' : (i == j) = false := by simpa using h
  simp [semW, execOp, resolve, arW, invoke, builtin, h', appS]
theorem semW_lookup {ok : Bool} (h : i ≠ j) : semW (.lookup t (.tmp i) (.tmp j) ok) ty [(i, u), (j, v)] = lookS t u v ok := by
  have h' : (i == j) = false := by simpa using h
  simp [semW, execOp, arW, h', lookS]
theorem semW_lookupC {ok : Bool} {k : Value} : semW (.lookup t (.tmp i) (.const k) ok) ty [(i, u)] = lookS t u k ok := by
  simp [semW, execOp, arW, lookS]
theorem semW_update (h : i ≠ j) (h2 : i ≠ q) (h3 : j ≠ q) : semW (.mapUpdate t (.tmp i) (.tmp j) (.tmp q)) ty [(i, u), (j, v), (q, x)] = updS t u v x := by
  have h' : (i == j) = false := by simpa using h
  have h2' : (i == q) = false := by simpa using h2
  have h3' : (j == q) = false := by simpa using h3
  simp [semW, execOp, arW, h', h2', h3', updS]
theorem semW_updateC {k : Value} (h : i ≠ j) : semW (.mapUpdate t (.tmp i) (.tmp j) (.const k)) ty [(i, u), (j, v)] = updS t u v k := by
  have h' : (i == j) = false := by simpa using h
  simp [semW, execOp, arW, h', updS]
theorem semW_updateK {k : Value} (h : i ≠ j) : semW (.mapUpdate t (.tmp i) (.const k) (.tmp j)) ty [(i, u), (j, v)] = updS t u k v := by
  have h' : (i == j) = false := by simpa using h
  simp [semW, execOp, arW, h', updS]
theorem semW_delete {ts : Array TypeId} (h : i ≠ j) : semW (.call ⟨.builtin .delete, #[.tmp i, .tmp j], ts⟩) ty [(i, u), (j, v)] = delS ts ty u v := by
  have h' : (i == j) = false := by simpa using h
  simp [semW, execOp, resolve, arW, invoke, builtin, h', delS]
theorem semW_range : semW (.range t (.tmp i)) ty [(i, u)] = rangS t u := by simp [semW, execOp, arW, rangS]
theorem semW_next : semW (.next (.tmp i) false) ty [(i, u)] = nextS u ty := by simp [semW, execOp, arW, nextS]
theorem semW_entry : semW (.entry (.tmp i)) ty [(i, u)] = entS u := by simp [semW, execOp, arW, entS]
theorem semW_slice {lo hi mx : Option Operand} {y : Operand} {ar : List (Nat × Value)} : semW (.slice t y lo hi mx) ty ar = sliceS t (arW ar y) (lo.map (arW ar)) (hi.map (arW ar)) (mx.map (arW ar)) := rfl
def nilS (u : Value) : Sem Next := semW (.nilCheck (.tmp 0)) 0 [(0, u)]
theorem semW_nil : semW (.nilCheck (.tmp i)) ty [(i, u)] = nilS u := by simp [nilS, semW, execOp, arW]
end
end Go.Proofs.YtbmajijnjkicmaaGreatDoor



namespace Go.Proofs.YtbmajijnjkicmaaGreatDoor
open Go.Proofs.YtbmajijnjkicmaaGreatDoor RX

section
variable {κ : Type} [DecidableEq κ] {enc : κ → Value} {r c : Nat} {l : AL κ}

theorem alPut_none (k : κ) (v : Value) (c : Nat) : ∀ l : AL κ, alFind k l = none → alPut k v c l = l ++ [(k, v, c)]
  | [], _ => rfl
  | x :: l, h => by
    simp only [alFind] at h
    split at h
    · cases h
    · rename_i hk; simp [alPut, hk, alPut_none k v c l h]
theorem alPut_born (k : κ) (v : Value) (c : Nat) : ∀ l : AL κ, (alFind k l).isSome = true → (alPut k v c l).map (·.2.2) = l.map (·.2.2)
  | [], h => by cases h
  | x :: l, h => by
    simp only [alFind] at h
    simp only [alPut]
    split at h
    · rename_i hk; simp [hk]
    · rename_i hk; simp [hk, alPut_born k v c l h]
theorem MapI.nil (c : Nat) : MapI ([] : AL κ) c := ⟨List.nodup_nil, Stamps.nil c⟩
theorem MapI.put (h : MapI l c) (k : κ) (v : Value) : MapI (alPut k v c l) (alClock k l c) := by
  refine ⟨alPut_nodup k v c l h.1, ?_⟩
  unfold alClock
  cases hf : alFind k l with
  | none =>
    rw [alPut_none k v c l hf]
    exact h.2.snoc k v
  | some u =>
    have hb := alPut_born k v c l (by rw [hf]; rfl)
    refine ⟨fun x hx => ?_, by rw [hb]; exact h.2.nodup⟩
    have : x.2.2 ∈ (alPut k v c l).map (·.2.2) := List.mem_map.2 ⟨x, hx, rfl⟩
    rw [hb] at this
    obtain ⟨y, hy, e⟩ := List.mem_map.1 this
    rw [← e]
    exact h.2.low y hy
theorem alDel_sub (k : κ) : ∀ l : AL κ, (alDel k l).Sublist l
  | [] => List.Sublist.refl _
  | x :: l => by
    simp only [alDel]
    split
    · exact List.sublist_cons_self _ _
    · exact (alDel_sub k l).cons_cons _
theorem MapI.del (h : MapI l c) (k : κ) : MapI (alDel k l) c :=
  ⟨List.Nodup.sublist ((alDel_sub k l).map _) h.1, fun x hx => h.2.low x ((alDel_sub k l).subset hx), List.Nodup.sublist ((alDel_sub k l).map _) h.2.nodup⟩
theorem alFind_del (k k' : κ) : ∀ l : AL κ, (l.map (·.1)).Nodup → alFind k' (alDel k l) = if k' = k then none else alFind k' l
  | [], _ => by simp [alDel, alFind]
  | x :: l, h => by
    simp only [List.map_cons, List.nodup_cons] at h
    simp only [alDel]
    split
    · rename_i hk
      subst hk
      split
      · rename_i e
        subst e
        exact alFind_none_of _ l fun y hy e => h.1 (List.mem_map.2 ⟨y, hy, e⟩)
      · rename_i e; simp [alFind, e]
    · rename_i hk
      simp only [alFind]
      rw [alFind_del k k' l h.2]
      by_cases e : k' = x.1
      · rw [if_pos e, if_pos e, if_neg (fun e2 => hk (by rw [← e2, e]))]
      · rw [if_neg e, if_neg e]

def Pers {α : Type} (V : Value → α → HP) : Prop := ∀ v x R h h', (V v x).p R h → (V v x).p R h'
def Vals {α : Type} (V : Value → α → HP) (l : AL κ) (f : κ → Option α) : HP :=
  ⟨fun R h => ∀ k, match alFind k l, f k with
    | none, none => True
    | some v, some x => (V v x).p R h
    | _, _ => False,
   fun lR lh H k => by
    have := H k
    revert this
    cases alFind k l <;> cases f k <;> simp only [imp_self]
    exact fun p => (V _ _).mono lR lh p⟩
variable {α : Type} {V : Value → α → HP} {f : κ → Option α}
def fput (f : κ → Option α) (k : κ) (x : Option α) : κ → Option α := fun k' => if k' = k then x else f k'
theorem Vals.nil {R h : PH} : (Vals V ([] : AL κ) (fun _ => none)).p R h := fun _ => trivial
theorem Vals.put {R h : PH} (H : (Vals V l f).p R h) (k : κ) (v : Value) (c : Nat) (x : α) (hv : (V v x).p R h) : (Vals V (alPut k v c l) (fput f k (some x))).p R h := fun k' => by
  rw [alFind_put, fput]
  by_cases e : k' = k
  · rw [if_pos e, if_pos e]; exact hv
  · rw [if_neg e, if_neg e]; exact H k'
theorem Vals.del {R h : PH} (H : (Vals V l f).p R h) (hn : (l.map (·.1)).Nodup) (k : κ) : (Vals V (alDel k l) (fput f k none)).p R h := fun k' => by
  rw [alFind_del _ _ _ hn, fput]
  by_cases e : k' = k
  · rw [if_pos e, if_pos e]; trivial
  · rw [if_neg e, if_neg e]; exact H k'
def MapH (V : Value → α → HP) (enc : κ → Value) (r : Nat) (f : κ → Option α) (l : AL κ) (c : Nat) : HP := HP.and (MapI l c) (HP.sep (HP.one r (mapObj enc l c)) (Vals V l f))
def MapE (V : Value → α → HP) (enc : κ → Value) (r : Nat) (f : κ → Option α) : HP := HP.ex fun l => HP.ex fun c => MapH V enc r f l c
theorem MapE.new (V : Value → α → HP) (enc : κ → Value) (r : Nat) {R h : PH} (H : (HP.one r (.map #[] 0)).p R h) : (MapE V enc r (fun _ => none)).p R h :=
  ⟨[], 0, MapI.nil 0, HP.sep_mono (HP.sep_tt H) (fun _ h => h) fun _ _ => Vals.nil⟩
theorem MapH.at {R h : PH} (H : (MapH V enc r f l c).p R h) : h r = some (mapObj enc l c) := HP.sep_left H.2
theorem MapH.yes {R h : PH} (H : (MapH V enc r f l c).p R h) (hV : Pers V) {k : κ} {x : α} (e : f k = some x) (h' : PH) : ∃ v, alFind k l = some v ∧ (V v x).p R h' := by
  have := HP.sep_right H.2 k
  rw [e] at this
  revert this
  cases alFind k l with
  | none => exact fun h => h.elim
  | some v => exact fun h => ⟨v, rfl, hV _ _ _ _ _ h⟩
theorem MapH.no {R h : PH} (H : (MapH V enc r f l c).p R h) {k : κ} (e : f k = none) : alFind k l = none := by
  have := HP.sep_right H.2 k
  rw [e] at this
  revert this
  cases alFind k l with
  | none => exact fun _ => rfl
  | some v => exact fun h => h.elim
theorem MapH.put {kt et t : TypeId} (K : KeyEnc Tryz.prog kt enc) (ht : Tryz.prog.underlying t = some (.map kt et)) (hV : Pers V) (k : κ) (v : Value) (x : α) {A : HP} (hv : ∀ R h, A.p R h → (V v x).p R h) :
    OTri Tryz.prog (updS t (.map (some r)) (enc k) v) (HP.sep (MapH V enc r f l c) A) (fun z => HP.and (z = .tuple #[]) (HP.sep (MapE V enc r (fput f k (some x))) A)) := by
  refine OTri.fact (φ := MapI l c) (fun R h H => (HP.sep_left H).1) fun hI => ?_
  refine ((upd_ok (r := r) (l := l) (c := c) K ht k v).frame (HP.sep (Vals V l f) A)).weak (fun R h ⟨h1, h2, d, l1, l2, ⟨_, H⟩, hA⟩ => HP.sep_assoc ⟨h1, h2, d, l1, l2, H, hA⟩) ?_
  rintro z R h ⟨h1, h2, d, l1, l2, ⟨rfl, hone⟩, hrest⟩
  have hx := hv _ _ (HP.sep_right hrest)
  refine ⟨rfl, HP.sep_mono (HP.sep_assoc' ⟨h1, h2, d, l1, l2, hone, hrest⟩) (fun y hy => ⟨_, _, hI.put k v, HP.sep_mono hy (fun _ h => h) fun q hq => Vals.put hq k v c x (hV _ _ _ _ _ hx)⟩) fun _ h => h⟩
theorem MapH.del {kt et t : TypeId} (K : KeyEnc Tryz.prog kt enc) (ht : Tryz.prog.underlying t = some (.map kt et)) (k : κ) (ts : Array TypeId) (ty : TypeId) (h0 : ts[0]? = some t) :
    OTri Tryz.prog (delS ts ty (.map (some r)) (enc k)) (MapH V enc r f l c) (fun z => HP.and (z = .tuple #[]) (MapH V enc r (fput f k none) (alDel k l) c)) := by
  refine OTri.fact (φ := MapI l c) (fun R h H => H.1) fun hI => ?_
  refine ((del_ok (r := r) (l := l) (c := c) (ty := ty) K ht k ts h0).frame (Vals V l f)).weak (fun R h ⟨_, H⟩ => H) ?_
  rintro z R h ⟨h1, h2, d, l1, l2, ⟨rfl, hone⟩, hrest⟩
  exact ⟨rfl, hI.del k, h1, h2, d, l1, l2, hone, Vals.del hrest hI.1 k⟩
end
theorem next_map {κ α : Type} [DecidableEq κ] {enc : κ → Value} {m it c : Nat} {l : AL κ} {V : Value → α → HP} {f : κ → Option α} {S : Array Nat} {ty : TypeId} (hs : Stamps l c) :
    OTri Tryz.prog (nextS (.pointer (some ⟨it, 0, none⟩)) ty) (HP.sep (HP.one it (.mapIter (some m) c S c)) (MapH V enc m f l c))
    (fun v => HP.ex fun e => HP.and (nextE enc l S v e) (HP.sep (HP.one it (.mapIter (some m) c (nextI S e) c)) (MapH V enc m f l c))) := by
  refine OTri.fact (φ := MapI l c) (fun R h H => (HP.sep_right H).1) fun hI => ?_
  refine ((next_ok (m := m) (it := it) (S := S) (ty := ty) (enc := enc) hs).frame (Vals V l f)).weak (fun R h ⟨h1, h2, d, l1, l2, H1, ⟨_, H2⟩⟩ => HP.sep_assoc' ⟨h1, h2, d, l1, l2, H1, H2⟩) ?_
  rintro v R h ⟨h1, h2, d, l1, l2, ⟨e, he, H⟩, HV⟩
  exact ⟨e, he, HP.sep_mono (HP.sep_assoc ⟨h1, h2, d, l1, l2, H, HV⟩) (fun _ h => h) fun y hy => ⟨hI, hy⟩⟩
end Go.Proofs.YtbmajijnjkicmaaGreatDoor



namespace Go.Proofs.YtbmajijnjkicmaaGreatDoor
open Go.Proofs.YtbmajijnjkicmaaGreatDoor RX
set_option maxRecDepth 100000

def iE (n : Int) : Value := .int .i64 n
theorem iK : KeyEnc Tryz.prog 3 iE := int_enc (by kernel_rfl)
structure CellS where
  what : Int
  data : List UInt8
def zC : CellS := ⟨0, []⟩
structure MR where
  fr : Int
  to : Int
  num : Int
  rep : Bool
  kind : Int
  ep : Int
  at' : Int
  what : Int
  ca : Option Addr
  cn : Nat
  cc : Nat
  br : Int
  bw : Int
  va : Option Addr
  vn : Nat
  vc : Nat
  err : Int
  tail : Int
  low : Int
  back : Int
abbrev MR.vals (m : MR) : Array Value := #[.int .i64 m.fr, .int .i64 m.to, .int .i64 m.num, .bool m.rep, .int .i64 m.kind, .int .i64 m.ep, .int .i64 m.at', .int .i64 m.what, .slice m.ca m.cn m.cc, .int .i64 m.br, .int .i64 m.bw, .slice m.va m.vn m.vc, .int .i64 m.err, .int .i64 m.tail, .int .i64 m.low, .int .i64 m.back]
abbrev MOne (b : Nat) (m : MR) : HP := HP.one b (.cells m.vals 41)
structure MS where
  fr : Int
  to : Int
  num : Int
  rep : Bool
  kind : Int
  ep : Int
  at' : Int
  cell : CellS
  br : Int
  bw : Int
  val : List UInt8
  err : Int
  tail : Int
  low : Int
  back : Int
abbrev MS.raw (m : MS) (ca : Option Addr) (cc : Nat) (va : Option Addr) (vc : Nat) : MR := ⟨m.fr, m.to, m.num, m.rep, m.kind, m.ep, m.at', m.cell.what, ca, m.cell.data.length, cc, m.br, m.bw, va, m.val.length, vc, m.err, m.tail, m.low, m.back⟩
abbrev MS.Dro (m : MS) (ca : Option Addr) : HP := RoB ca m.cell.data.length m.cell.data
abbrev MS.Vro (m : MS) (va : Option Addr) : HP := RoB va m.val.length m.val
def repS (m : MS) : MS := ⟨m.to, m.fr, m.num, true, m.kind, m.ep, m.at', zC, 0, 0, [], 0, 0, 0, 0⟩
def zMS : MS := ⟨0, 0, 0, false, 0, 0, 0, zC, 0, 0, [], 0, 0, 0, 0⟩
theorem part1 {w : World} {t : TypeId} (ht : Tryz.prog.underlying t = some (.int .i64)) (cs : Array Value) (off : Nat) (v : Value) (h : cs[off]? = some v) : (part t cs off).run Tryz.prog w = .ok v w := by
  have ha : aggT Tryz.prog t = false := by unfold aggT; rw [ht]
  simp only [part, Sem.run_bind, RX.run_isAgg ht, Result.andThen_ok, ha, Bool.false_eq_true, if_false, h]
  rfl
theorem run_equal_int {w : World} {t : TypeId} (ht : Tryz.prog.underlying t = some (.int .i64)) (n : Nat) (a b : Int) : (Op.equalIn (n + 1) t (.int .i64 a) (.int .i64 b)).run Tryz.prog w = .ok (decide (a = b)) w := by
  simp only [Op.equalIn, Sem.run_bind, RX.run_underlying ht, Result.andThen_ok, if_true, Sem.run_pure]
  rfl
theorem run_ballot_eq {w : World} (r q r' q' : Int) : (Op.equal 39 (.agg #[.int .i64 r, .int .i64 q]) (.agg #[.int .i64 r', .int .i64 q'])).run Tryz.prog w = .ok (decide (r = r') && decide (q = q')) w := by
  have hs : Tryz.prog.stoodInHeld 39 = false := by kernel_rfl
  have hi : Tryz.prog.underlying 3 = some (.int .i64) := by kernel_rfl
  have e2 : ∀ n, (Op.equalIn (n + 2) 39 (.agg #[.int .i64 r, .int .i64 q]) (.agg #[.int .i64 r', .int .i64 q'])).run Tryz.prog w = .ok (decide (r = r') && decide (q = q')) w := fun n => by
    rw [Op.equalIn]
    simp only [Sem.run_bind, RX.run_underlying Tryz.underlying39, Result.andThen_ok]
    simp [program, Sem.run, hs, Result.andThen]
    have p0 : ∀ a b : Int, Sem.run Tryz.prog (part 3 #[Value.int IntKind.i64 a, Value.int IntKind.i64 b] 0) w = .ok (.int .i64 a) w := fun a b => part1 hi _ _ _ rfl
    have p1 : ∀ a b : Int, Sem.run Tryz.prog (part 3 #[Value.int IntKind.i64 a, Value.int IntKind.i64 b] 1) w = .ok (.int .i64 b) w := fun a b => part1 hi _ _ _ rfl
    simp only [p0, run_equal_int hi]
    by_cases h1 : r = r'
    · simp [h1, Sem.run_bind, p1, run_equal_int hi]
      by_cases h2 : q = q'
      · simp [h2]
      · simp [h2]
    · simp [h1]
  exact e2 9998
theorem semOf_eqB {ρ : Env} {i j : Nat} {ty u : TypeId} {x y : V} (h : i ≠ j) {r q r' q' : Int} (hx : x.den ρ = .agg #[.int .i64 r, .int .i64 q]) (hy : y.den ρ = .agg #[.int .i64 r', .int .i64 q']) {A : HP} :
    ORead Tryz.prog (semOf ρ (.binOp .eql 39 (.tmp i) (.tmp j) u) ty [(i, x), (j, y)]) A (.bool (decide (r = r') && decide (q = q'))) := fun w R hh F s _ => by
  have h' : (i == j) = false := by simpa using h
  have hg : Tryz.prog.eqGuardType Tryz.prog.depth 39 = false := by kernel_rfl
  simp only [semOf, execOp, arEval, List.find?_cons, beq_self_eq_true, h', hx, hy]
  simp [eqGuard, binOp, hg, program, Sem.run_bind, Sem.run, Result.andThen, run_ballot_eq]
theorem eqBW {i j : Nat} {ty u : TypeId} (h : i ≠ j) {r q r' q' : Int} {A : HP} :
    ORead Tryz.prog (semW (.binOp .eql 39 (.tmp i) (.tmp j) u) ty [(i, .agg #[.int .i64 r, .int .i64 q]), (j, .agg #[.int .i64 r', .int .i64 q'])]) A (.bool (decide (r = r') && decide (q = q'))) := by
  have := semOf_eqB (ρ := [.i r, .i q, .i r', .i q']) (i := i) (j := j) (ty := ty) (u := u) (x := .w (.agg [.int .i64 (.v 0), .int .i64 (.v 1)])) (y := .w (.agg [.int .i64 (.v 2), .int .i64 (.v 3)])) h (A := A) rfl rfl
  rw [semW_eq] at this
  exact this
theorem RoB0 (a : Option Addr) {R h : PH} : (RoB a 0 []).p R h := RoC.nil 1 a R h
theorem semOf_neqB {ρ : Env} {i j : Nat} {ty u : TypeId} {x y : V} (h : i ≠ j) {r q r' q' : Int} (hx : x.den ρ = .agg #[.int .i64 r, .int .i64 q]) (hy : y.den ρ = .agg #[.int .i64 r', .int .i64 q']) {A : HP} :
    ORead Tryz.prog (semOf ρ (.binOp .neq 39 (.tmp i) (.tmp j) u) ty [(i, x), (j, y)]) A (.bool (!(decide (r = r') && decide (q = q')))) := fun w R hh F s _ => by
  have h' : (i == j) = false := by simpa using h
  have hg : Tryz.prog.eqGuardType Tryz.prog.depth 39 = false := by kernel_rfl
  simp only [semOf, execOp, arEval, List.find?_cons, beq_self_eq_true, h', hx, hy]
  simp [eqGuard, binOp, hg, program, Sem.run_bind, Sem.run, Result.andThen, run_ballot_eq]
theorem neqBW {i j : Nat} {ty u : TypeId} (h : i ≠ j) {r q r' q' : Int} {A : HP} :
    ORead Tryz.prog (semW (.binOp .neq 39 (.tmp i) (.tmp j) u) ty [(i, .agg #[.int .i64 r, .int .i64 q]), (j, .agg #[.int .i64 r', .int .i64 q'])]) A (.bool (!(decide (r = r') && decide (q = q')))) := by
  have := semOf_neqB (ρ := [.i r, .i q, .i r', .i q']) (i := i) (j := j) (ty := ty) (u := u) (x := .w (.agg [.int .i64 (.v 0), .int .i64 (.v 1)])) (y := .w (.agg [.int .i64 (.v 2), .int .i64 (.v 3)])) h (A := A) rfl rfl
  rw [semW_eq] at this
  exact this
end Go.Proofs.YtbmajijnjkicmaaGreatDoor



namespace Go.Proofs.YtbmajijnjkicmaaGreatDoor
open Go.Proofs.YtbmajijnjkicmaaGreatDoor RX

theorem least {p : Nat → Prop} (h : ∃ n, p n) : ∃ m, p m ∧ ∀ n, p n → m ≤ n := by
  obtain ⟨n, hn⟩ := h
  induction n using Nat.strongRecOn with
  | _ n ih =>
    by_cases hx : ∃ m, m < n ∧ p m
    · obtain ⟨m, hm, hp⟩ := hx; exact ih m hm hp
    · exact ⟨n, hn, fun m hp => Nat.le_of_not_lt fun hlt => hx ⟨m, hlt, hp⟩⟩
open Classical in
noncomputable def leastN (p : Nat → Prop) : Nat := if h : ∃ n, p n then Classical.choose (least h) else 0
theorem leastN_spec {p : Nat → Prop} (h : ∃ n, p n) : p (leastN p) := by
  unfold leastN; rw [dif_pos h]; exact (Classical.choose_spec (least h)).1
theorem leastN_le {p : Nat → Prop} {n : Nat} (h : p n) : leastN p ≤ n := by
  unfold leastN; rw [dif_pos ⟨n, h⟩]; exact (Classical.choose_spec (least ⟨n, h⟩)).2 n h
theorem map_inj {α β : Type} (g : α → β) : ∀ {l : List α}, (l.map g).Nodup → ∀ {x y : α}, x ∈ l → y ∈ l → g x = g y → x = y
  | [], _, _, _, hx, _, _ => by cases hx
  | z :: l, h, x, y, hx, hy, e => by
    simp only [List.map_cons, List.nodup_cons] at h
    rcases List.mem_cons.1 hx with rfl | hx2 <;> rcases List.mem_cons.1 hy with rfl | hy2
    · rfl
    · exact (h.1 (List.mem_map.2 ⟨y, hy2, e.symm⟩)).elim
    · exact (h.1 (List.mem_map.2 ⟨x, hx2, e⟩)).elim
    · exact map_inj g h.2 hx2 hy2 e
theorem stamp_push {κ : Type} {l : AL κ} {c : Nat} (hs : Stamps l c) {x y : κ × Value × Nat} {S : Array Nat} (hx : x ∈ l) (hy : y ∈ l) (h : y.2.2 ∈ S.push x.2.2) : y = x ∨ y.2.2 ∈ S := by
  rcases Array.mem_push.1 h with h | h
  · exact .inr h
  · exact .inl (map_inj (fun z : κ × Value × Nat => z.2.2) hs.nodup hy hx h)
end Go.Proofs.YtbmajijnjkicmaaGreatDoor



namespace Go.Proofs.YtbmajijnjkicmaaGreatDoor

def sepN : List HP → HP
  | [] => HP.tt
  | [x] => x
  | x :: y :: r => HP.sep x (sepN (y :: r))
theorem sepN_cons {x : HP} {r : List HP} {R h : PH} : (sepN (x :: r)).p R h ↔ (HP.sep x (sepN r)).p R h := by
  cases r with
  | nil => exact ⟨fun H => HP.sep_tt H, fun H => HP.sep_left H⟩
  | cons y q => exact Iff.rfl
theorem sepN_perm {l m : List HP} (p : l.Perm m) : ∀ {R h : PH}, (sepN l).p R h → (sepN m).p R h := by
  induction p with
  | nil => exact fun H => H
  | cons x _ ih => exact fun H => sepN_cons.2 (HP.sep_mono (sepN_cons.1 H) (fun _ h => h) fun _ h => ih h)
  | swap x y r =>
    exact fun H => sepN_cons.2 (HP.sep_mono (HP.swap (HP.sep_mono (sepN_cons.1 H) (fun _ h => h) fun _ h => sepN_cons.1 h)) (fun _ h => h) fun _ h => sepN_cons.2 h)
  | trans _ _ ih1 ih2 => exact fun H => ih2 (ih1 H)
theorem sepN_sub (f : Nat → HP) : ∀ (S' S : List Nat) {R h : PH}, S'.Nodup → (∀ i ∈ S', i ∈ S) → (sepN (S.map f)).p R h → (sepN (S'.map f)).p R h
  | [], _, _, _, _, _, _ => trivial
  | i :: r, S, R, h, hn, hs, H => by
    have hp : (S.map f).Perm (f i :: (S.erase i).map f) := ((List.perm_cons_erase (hs i (List.mem_cons_self ..))).map f)
    have H1 := sepN_cons.1 (sepN_perm hp H)
    rw [List.nodup_cons] at hn
    exact sepN_cons.2 (HP.sep_mono H1 (fun _ h => h) fun _ h => sepN_sub f r (S.erase i) hn.2 (fun j hj => (List.mem_erase_of_ne (fun e => hn.1 (by rw [← e]; exact hj))).2 (hs j (List.mem_cons_of_mem _ hj))) h)
theorem HP.pick (l : List HP) (idx : List Nat) (hn : idx.Nodup) (hb : idx.all (fun i => decide (i < l.length)) = true) {R h : PH} (H : (sepN l).p R h) : (sepN (idx.map fun i => l.getD i HP.tt)).p R h := by
  refine sepN_sub (fun i => l.getD i HP.tt) idx (List.range l.length) hn (fun i hi => List.mem_range.2 (by simpa using List.all_eq_true.1 hb i hi)) ?_
  have e : (List.range l.length).map (fun i => l.getD i HP.tt) = l := by
    apply List.ext_getElem
    · simp
    · intro i h1 h2
      simp at h1
      simp [h1]
  rw [e]; exact H
theorem sepN_app {l m : List HP} {R h : PH} : (sepN (l ++ m)).p R h ↔ (HP.sep (sepN l) (sepN m)).p R h := by
  induction l generalizing h with
  | nil => exact ⟨fun H => HP.tt_sep H, fun H => HP.sep_right H⟩
  | cons x r ih =>
    rw [List.cons_append, sepN_cons]
    constructor
    · intro H
      exact HP.sep_mono (HP.sep_assoc' (HP.sep_mono H (fun _ h => h) fun _ h => ih.1 h)) (fun _ h => sepN_cons.2 h) fun _ h => h
    · intro H
      exact HP.sep_mono (HP.sep_assoc (HP.sep_mono H (fun _ h => sepN_cons.1 h) fun _ h => h)) (fun _ h => h) fun _ h => ih.2 h
end Go.Proofs.YtbmajijnjkicmaaGreatDoor



namespace Go.Proofs.YtbmajijnjkicmaaGreatDoor
open Go.Proofs.YtbmajijnjkicmaaGreatDoor RX
set_option maxRecDepth 100000

def i64v (i : Int) : Value := .int .i64 i
theorem i64v_one (l : List Int) : ∀ u ∈ l.map i64v, u.oneCell' = true := fun u hu => by
  obtain ⟨b, _, rfl⟩ := List.mem_map.1 hu; rfl
abbrev OwI (a : Option Addr) (n c : Nat) (l : List Int) : HP := OwC 3 1 a n c (l.map i64v)
abbrev RoI (a : Option Addr) (n : Nat) (l : List Int) : HP := RoC 1 a n (l.map i64v)
theorem infoInt : (Tryz.prog.info? 3).map (fun i => (i.zero, i.size, i.bytes)) = some (some (.int .i64 0), 1, 8) := by kernel_rfl
theorem undI : Tryz.prog.underlying 60 = some (.slice 3) := by kernel_rfl
theorem undIb : Tryz.prog.underlying 3 = some (.int .i64) := by kernel_rfl
theorem aggI : aggT Tryz.prog 3 = false := by kernel_rfl
theorem szI : szT Tryz.prog 3 = 1 := by kernel_rfl
theorem appendI (a : Option Addr) (n c : Nat) (l : List Int) (S : HP) (ad : Addr) (m c2 : Nat) (q : List Int) (hr : Rd S (some ad) (q.map i64v)) (hm : q.length = m) (hb : n + m ≤ 1000000000) :
    OTri Tryz.prog (appS 60 60 (.slice a n c) (.slice (some ad) m c2)) (HP.sep (OwI a n c l) S)
      (fun v => HP.ex fun a' => HP.ex fun c' => HP.and (v = .slice a' (n + m) c') (HP.sep (OwI a' (n + m) c' (l ++ q)) S)) := by
  obtain ⟨i, hi, h1, h2, h3⟩ := info_parts infoInt
  have := append_ok 60 60 3 i (.int .i64 0) undI hi h1 (by rw [h2]; rfl) (by omega) a n c (l.map i64v) S ad m c2 (q.map i64v) hr (by simp [hm, h2]) (i64v_one q) (by unfold maxLen; omega) (by rw [h3]; omega)
  rw [h2] at this
  simp only [OwI, List.map_append]
  exact this
theorem storeOne_ok {t : TypeId} {i : TypeInfo} (hi : Tryz.prog.info? t = some i) (e : TypeId) (b : Nat) (cs : Array Value) (off : Nat) (x : Value) (vs : List Value) (hx : x.cells = vs.toArray) (hz : i.size = vs.length) (hp : 0 < vs.length) (h1 : ∀ v ∈ vs, v.oneCell' = true) (hk : off + vs.length ≤ cs.size) (hm : 1 ≤ maxLen) :
    OTri Tryz.prog (storeS t (.pointer (some ⟨b, off, none⟩)) x) (HP.one b (.cells cs e (0, 0))) (fun v => HP.and (v = .tuple #[]) (HP.one b (.cells (cs.toList.take off ++ vs ++ cs.toList.drop (off + vs.length)).toArray e (0, 0)))) := by
  have := store_ok hi e cs.size (some ⟨b, 0, none⟩) 1 1 cs.toList 0 off x vs hx hz hp h1 (by omega)
  simp only [Option.map_some, addr_add, Nat.zero_add] at this
  refine this.weak (fun R h H => ⟨by simp, .inr ⟨b, cs, rfl, H, Nat.le_refl _, hm, by omega, by rw [Nat.one_mul]; exact List.take_of_length_le (by simp)⟩⟩) fun v R h ⟨rfl, hl, H⟩ => ⟨rfl, ?_⟩
  rcases H with ⟨h0, _⟩ | ⟨g, cur, e1, hg, q1, q2, q3, q4⟩
  · cases h0
  · cases e1
    show h b = _
    rw [hg]
    have : cur.toList = cs.toList.take off ++ vs ++ cs.toList.drop (off + vs.length) := by
      rw [← q4, List.take_of_length_le (by rw [Array.length_toList, q3]; omega)]
    rw [← this]
theorem perm_focus {α : Type} : ∀ (l : List α) (k : Nat) (x : α), l[k]? = some x → (x :: l.eraseIdx k).Perm l
  | y :: l, 0, x, h => by simp at h; subst h; exact List.Perm.refl _
  | y :: l, k + 1, x, h => by
    have := perm_focus l k x (by simpa using h)
    exact (List.Perm.swap y x _).trans (this.cons y)
  | [], _, _, h => by simp at h
theorem sepN_focus {l : List HP} {k : Nat} {x : HP} (hk : l[k]? = some x) {R h : PH} (H : (sepN l).p R h) : (HP.sep x (sepN (l.eraseIdx k))).p R h :=
  sepN_cons.1 (sepN_perm (perm_focus l k x hk).symm H)
theorem sepN_unfocus {l : List HP} {k : Nat} {x : HP} (hk : k < l.length) {R h : PH} (H : (HP.sep x (sepN (l.eraseIdx k))).p R h) : (sepN (l.set k x)).p R h := by
  have := perm_focus (l.set k x) k x (by simp [hk])
  rw [List.eraseIdx_set_eq] at this
  exact sepN_perm this (sepN_cons.2 H)
theorem OTri.ofRead {P : Program} {s : Sem Next} {A : HP} {B : Value → HP} {v : Value} (r : ORead P s A v) (post : ∀ R h, A.p R h → (B v).p R h) : OTri P s A B := fun w R h F st a => ⟨.value v, v, w, r w R h F st a, rfl, Same.refl w, R, h, PH.le.refl _, st, post R h a⟩
theorem OTri.exI {o : Sem Next} {α : Type} {A : α → HP} {B : Value → HP} (t : ∀ x, OTri Tryz.prog o (A x) B) : OTri Tryz.prog o (HP.ex A) B := fun w R h F s ⟨x, a⟩ => t x w R h F s a
theorem OTri.pureI {o : Sem Next} {A : HP} {B : Value → HP} {φ : Prop} (t : φ → OTri Tryz.prog o A B) : OTri Tryz.prog o (HP.and φ A) B := fun w R h F s a => t a.1 w R h F s a.2
end Go.Proofs.YtbmajijnjkicmaaGreatDoor



namespace Go.Proofs.YtbmajijnjkicmaaGreatDoor.RX
set_option maxRecDepth 100000
-- tideline/octet.Read: ρ := [.a ba, .n bl, .n bc, .p bP]
def t_rRead : T :=
(.call 74 [.a (.sl (.v 0) (.v 1) (.v 2))] [(.a 0, .prop 3)] [.a, .n, .n, .p, .p] (.w (.a (.sl (.v 4) (.v 5) (.v 6)))) [(.a 4, .prop 7), (.a 0, .prop 8)]
(.new
(.ret (.w (.a (.ptr (.v 9) 0))) [(.a 0, .prop 8), (.b (.v 9), .cells [.sl (.v 4) (.v 5) (.v 6), .bool (.c false)] 179), (.a 4, .prop 7)])))
theorem tree_rRead : tree Tryz.prog { } Tryz.f81 [.a (.sl (.v 0) (.v 1) (.v 2))] [(.a 0, .prop 3)] 4 = t_rRead := by kernel_rfl
def t_rFail : T :=
(.ret (.tup []) [(.b (.v 0), .cells [.sl .nil (.n 0) (.n 0), .bool (.c true)] 179), (.a 1, .prop 4)])
theorem tree_rFail : tree Tryz.prog { } Tryz.f143 [.a (.ptr (.v 0) 0)] [(.b (.v 0), .cells [.sl (.v 1) (.v 2) (.v 3), .bool (.v 5)] 179), (.a 1, .prop 4)] 6 = t_rFail := by kernel_rfl
def t_rTake : T :=
(.br (.v 5)
(.ret (.w (.a (.sl .nil (.n 0) (.n 0)))) [(.b (.v 0), .cells [.sl (.v 1) (.v 2) (.v 3), .bool (.v 5)] 179), (.a 1, .prop 4)])
(.br (.o2 .lt (.o1 .ofNat (.v 2)) (.v 6))
(.call 143 [.a (.ptr (.v 0) 0)] [(.b (.v 0), .cells [.sl (.v 1) (.v 2) (.v 3), .bool (.v 5)] 179), (.a 1, .prop 4)] [.a, .n, .n, .p, .c] (.tup []) [(.b (.v 0), .cells [.sl (.v 7) (.v 8) (.v 9), .bool (.v 11)] 179), (.a 7, .prop 10)]
(.ret (.w (.a (.sl .nil (.n 0) (.n 0)))) [(.b (.v 0), .cells [.sl (.v 7) (.v 8) (.v 9), .bool (.v 11)] 179), (.a 7, .prop 10)]))
(.read (.slice 35 (.tmp 22) (some (.const (.int .i64 0))) (some (.tmp 23)) (some (.tmp 24))) 35 [(22, .w (.a (.sl (.v 1) (.v 2) (.v 3)))), (23, .w (.a (.int .i64 (.v 6)))), (24, .w (.a (.int .i64 (.v 6))))] [(.a 1, .prop 4)] [.a, .n, .n] (.w (.a (.sl (.v 7) (.v 8) (.v 9))))
(.read (.slice 35 (.tmp 30) (some (.tmp 31)) none none) 35 [(30, .w (.a (.sl (.v 1) (.v 2) (.v 3)))), (31, .w (.a (.int .i64 (.v 6))))] [(.a 1, .prop 4)] [.a, .n, .n] (.w (.a (.sl (.v 10) (.v 11) (.v 12))))
(.ret (.w (.a (.sl (.v 7) (.v 8) (.v 9)))) [(.b (.v 0), .cells [.sl (.v 10) (.v 11) (.v 12), .bool (.v 5)] 179), (.a 1, .prop 4)])))))
theorem tree_rTake : tree Tryz.prog { } Tryz.f131 [.a (.ptr (.v 0) 0), .a (.int .i64 (.v 6))] [(.b (.v 0), .cells [.sl (.v 1) (.v 2) (.v 3), .bool (.v 5)] 179), (.a 1, .prop 4)] 7 = t_rTake := by kernel_rfl
def t_rNumber : T :=
(.call 139 [.a (.int .i64 (.v 2))] [] [.i] (.w (.a (.int .i64 (.v 3)))) []
(.call 131 [.a (.ptr (.v 0) 0), .a (.int .i64 (.v 3))] [(.b (.v 0), .prop 1)] [.a, .n, .n, .p, .p] (.w (.a (.sl (.v 4) (.v 5) (.v 6)))) [(.a 4, .prop 7), (.b (.v 0), .prop 8)]
(.loop [.i, .i] [.e (.o1 .neg (.o1 .neg (.i 0))), .e (.o1 .neg (.o1 .neg (.i 0)))]
(.br (.o2 .lt (.v 10) (.o1 .ofNat (.v 5)))
(.need (.o2 .le (.i 0) (.v 10))
(.need (.o1 .isSome (.v 4))
(.read (.load 5 (.tmp 15)) 5 [(15, .w (.a (.eptr 4 (.v 10) 1 0)))] [(.a 4, .prop 7)] [.i] (.w (.a (.int .u8 (.v 11))))
(.need (.o1 (.inr .u64) (.v 11))
(.need (.o1 (.inr .i64) (.o2 .add (.v 10) (.i 1)))
(.again 0 [.e (.o1 .neg (.o1 .neg (.o2 (.bit .or .u64) (.o2 (.shl .u64) (.v 9) (.i 8)) (.v 11)))), .e (.o1 .neg (.o1 .neg (.o2 .add (.v 10) (.i 1))))]))))))
(.ret (.w (.a (.int .u64 (.v 9)))) [(.b (.v 0), .prop 8)])))))
theorem tree_rNumber : tree Tryz.prog { } Tryz.f114 [.a (.ptr (.v 0) 0), .a (.int .i64 (.v 2))] [(.b (.v 0), .prop 1)] 3 = t_rNumber := by kernel_rfl
def t_rTold : T :=
(.call 114 [.a (.ptr (.v 0) 0), .a (.int .i64 (.i 4))] [(.b (.v 0), .cells [.sl (.v 1) (.v 2) (.v 3), .bool (.v 5)] 179), (.a 1, .prop 4)] [.i, .a, .n, .n, .p, .c] (.w (.a (.int .u64 (.v 7)))) [(.b (.v 0), .cells [.sl (.v 8) (.v 9) (.v 10), .bool (.v 12)] 179), (.a 8, .prop 11)]
(.br (.v 12)
(.ret (.w (.a (.int .i64 (.i 0)))) [(.b (.v 0), .cells [.sl (.v 8) (.v 9) (.v 10), .bool (.v 12)] 179), (.a 8, .prop 11)])
(.br (.o2 .lt (.v 6) (.o1 (.wrap .i64) (.v 7)))
(.call 143 [.a (.ptr (.v 0) 0)] [(.b (.v 0), .cells [.sl (.v 8) (.v 9) (.v 10), .bool (.v 12)] 179), (.a 8, .prop 11)] [.a, .n, .n, .p, .c] (.tup []) [(.b (.v 0), .cells [.sl (.v 13) (.v 14) (.v 15), .bool (.v 17)] 179), (.a 13, .prop 16)]
(.ret (.w (.a (.int .i64 (.i 0)))) [(.b (.v 0), .cells [.sl (.v 13) (.v 14) (.v 15), .bool (.v 17)] 179), (.a 13, .prop 16)]))
(.ret (.w (.a (.int .i64 (.o1 (.wrap .i64) (.v 7))))) [(.b (.v 0), .cells [.sl (.v 8) (.v 9) (.v 10), .bool (.v 12)] 179), (.a 8, .prop 11)]))))
theorem tree_rTold : tree Tryz.prog { } Tryz.f132 [.a (.ptr (.v 0) 0), .a (.int .i64 (.v 6))] [(.b (.v 0), .cells [.sl (.v 1) (.v 2) (.v 3), .bool (.v 5)] 179), (.a 1, .prop 4)] 7 = t_rTold := by kernel_rfl
def t_rByte : T :=
(.call 114 [.a (.ptr (.v 0) 0), .a (.int .i64 (.i 1))] [(.b (.v 0), .prop 1)] [.i, .p] (.w (.a (.int .u64 (.v 2)))) [(.b (.v 0), .prop 3)]
(.ret (.w (.a (.int .u8 (.o1 (.wrap .u8) (.v 2))))) [(.b (.v 0), .prop 3)]))
theorem tree_rByte : tree Tryz.prog { } Tryz.f82 [.a (.ptr (.v 0) 0)] [(.b (.v 0), .prop 1)] 2 = t_rByte := by kernel_rfl
def t_rInt : T :=
(.call 114 [.a (.ptr (.v 0) 0), .a (.int .i64 (.i 8))] [(.b (.v 0), .prop 1)] [.i, .p] (.w (.a (.int .u64 (.v 2)))) [(.b (.v 0), .prop 3)]
(.ret (.w (.a (.int .i64 (.o1 (.wrap .i64) (.v 2))))) [(.b (.v 0), .prop 3)]))
theorem tree_rInt : tree Tryz.prog { } Tryz.f83 [.a (.ptr (.v 0) 0)] [(.b (.v 0), .prop 1)] 2 = t_rInt := by kernel_rfl
def t_rBytes : T :=
(.call 132 [.a (.ptr (.v 0) 0), .a (.int .i64 (.v 2))] [(.b (.v 0), .prop 1)] [.i, .p] (.w (.a (.int .i64 (.v 3)))) [(.b (.v 0), .prop 4)]
(.call 131 [.a (.ptr (.v 0) 0), .a (.int .i64 (.v 3))] [(.b (.v 0), .prop 4)] [.a, .n, .n, .p, .p] (.w (.a (.sl (.v 5) (.v 6) (.v 7)))) [(.a 5, .prop 8), (.b (.v 0), .prop 9)]
(.call 74 [.a (.sl (.v 5) (.v 6) (.v 7))] [(.a 5, .prop 8)] [.a, .n, .n, .p, .p] (.w (.a (.sl (.v 10) (.v 11) (.v 12)))) [(.a 10, .prop 13), (.a 5, .prop 14)]
(.ret (.w (.a (.sl (.v 10) (.v 11) (.v 12)))) [(.b (.v 0), .prop 9), (.a 10, .prop 13)]))))
theorem tree_rBytes : tree Tryz.prog { } Tryz.f84 [.a (.ptr (.v 0) 0), .a (.int .i64 (.v 2))] [(.b (.v 0), .prop 1)] 3 = t_rBytes := by kernel_rfl
def t_rEnd : T :=
(.br (.v 5)
(.ret (.w (.a (.int .i64 (.i 3)))) [(.b (.v 0), .cells [.sl (.v 1) (.v 2) (.v 3), .bool (.v 5)] 179), (.a 1, .prop 4)])
(.br (.o2 .lt (.i 0) (.o1 .ofNat (.v 2)))
(.ret (.w (.a (.int .i64 (.i 3)))) [(.b (.v 0), .cells [.sl (.v 1) (.v 2) (.v 3), .bool (.v 5)] 179), (.a 1, .prop 4)])
(.ret (.w (.a (.int .i64 (.i 0)))) [(.b (.v 0), .cells [.sl (.v 1) (.v 2) (.v 3), .bool (.v 5)] 179), (.a 1, .prop 4)])))
theorem tree_rEnd : tree Tryz.prog { } Tryz.f85 [.a (.ptr (.v 0) 0)] [(.b (.v 0), .cells [.sl (.v 1) (.v 2) (.v 3), .bool (.v 5)] 179), (.a 1, .prop 4)] 6 = t_rEnd := by kernel_rfl
end Go.Proofs.YtbmajijnjkicmaaGreatDoor.RX

