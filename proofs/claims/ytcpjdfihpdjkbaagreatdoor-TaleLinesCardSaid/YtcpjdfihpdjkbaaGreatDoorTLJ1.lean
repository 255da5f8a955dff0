/- Texts of this claim, joined. No condition. -/
import Derived.Test.YtcpjdfihpdjkbaaGreatDoorTLJ0
import Derived.OrdersIn
import Derived.OwnWalkIn
import Derived.Maps.AppendAt
import Derived.Laws.AppendOwnNone
import Derived.KernelRfl
import Derived.Lib.BufferRead
import Derived.Test.YtcpjdfihpdjkbaaGreatDoorRows
import Derived.WalkKit
import Derived.WalkSpells
import Derived.WalkSmall
import Derived.WalkLawsBesides
import Derived.RegionTactic
import Derived.BigRegion
import Derived.BigQuiet
import Derived.Deep.QuietTactic
import Derived.Deep.RegionHeld3
import Derived.Lib.Hide
import Derived.Maps.OwnSet
import Derived.Maps.OwnOps
import Derived.Laws.IdiomRangeMap
import Derived.Shelf.Strings.Builder1
import Derived.Shelf.Strings.Builder2
import Derived.Shelf.Strings.OnBuilder
import Derived.Shelf.Small.Strs
import Derived.Shelf.Utf8.RuneCount
import Derived.Shelf.Strconv.Atoi
import Derived.Shelf.Strconv.Itoa0
import Derived.Shelf.Strconv.Itoa1
import Derived.Shelf.LaysM
import Derived.Shelf.Strconv.Itoa2
import Derived.Shelf.Strconv.Itoa3
import Derived.Shelf.Strconv.AtoiErrFast
import Derived.Shelf.Strconv.ParseIntEmpty
import Derived.Shelf.Strconv.AtoiFail
import Derived.Shelf.Strconv.Clone
import Derived.Shelf.Strconv.SyntaxError
import Derived.Shelf.LaysC
import Derived.Shelf.Strconv.ToError
import Derived.Shelf.Strconv.Lower
import Derived.Shelf.Strconv.ParseUint10
import Derived.Shelf.Strconv.ParseUint10Empty
import Derived.Shelf.Strconv.ParseUint10Any
import Derived.Shelf.Strconv.ParseInt10
import Derived.Shelf.Strconv.AtoiLong
import Derived.Shelf.Strconv.AtoiInnerAll
import Derived.Shelf.Strconv.RangeError
import Derived.Shelf.Strconv.ToErrorRange
import Derived.Shelf.Strconv.AtoiAll
import Derived.Shelf.Strconv.ErrVarAll
import Derived.Shelf.Strings.Search1
import Derived.Shelf.Strings.Search2
import Derived.Shelf.Strings.Search3
import Derived.Shelf.Strings.Count
import Derived.Shelf.Strings.Shaped
import Derived.Shelf.Strings.Split
import Derived.Shelf.Strings.SplitShaped
import Derived.Shelf.Unicode.Decode
import Derived.Shelf.Strings.RuneCount
import Derived.Shelf.Strings.Explode
import Derived.Shelf.Unicode.DecodeSlow
import Derived.Shelf.Unicode.DecodeAny
import Derived.Test.YtcpjdfihpdjkbaaGreatDoorProg
import Derived.SizedLaws
import Derived.ProofKit
import Derived.OpenShut
import Derived.Deep.Slices
import Derived.Lib.SmallJoins
import Derived.Below
import Derived.Laws.MakeOwn
import Derived.Laws.CopyRow
import Derived.Lib.IndexLaws
set_option linter.unusedSimpArgs false
set_option linter.unusedVariables false

namespace Go.Proofs.YtcpjdfihpdjkbaaGreatDoor.RX
open Go.Proofs.YtcpjdfihpdjkbaaGreatDoor

section
variable {P : Program} {post : Value → HP} {w0 w : World} {F R h : PH} {ρ : Env} {L : List (Env → Prop)} {s : S} {a : Act} {cfg : Cfg} {Q : Exit → Act → World → Prop} {ops : Array Oper}

theorem evA_tmp (tm : Tm ρ s.t a) {d : Tmp} {x : A} (h : evA s (.tmp d) = some x) : a.tmps[d]? = some (x.den ρ) := by
  unfold evA at h
  split at h
  · rename_i y hy
    cases h
    simp only [ev] at hy
    split at hy
    · rename_i o ho
      subst hy
      exact tm.2 d _ ho
    · cases hy
  · cases h
theorem guardO_ok {o : Oper} {run skip : S → T} (ok : Ok ρ s a w0 w R h F) (hd : (guardO ops s o run skip).den P post L ρ) :
    ∃ kn, Ok ρ { s with kn := kn } a w0 w R h F ∧ ((Region.wanted o (yielded ops a.tmps) = true ∧ (run { s with kn := kn }).den P post L ρ) ∨ (Region.wanted o (yielded ops a.tmps) = false ∧ (skip { s with kn := kn }).den P post L ρ)) := by
  unfold guardO at hd
  split at hd
  · rename_i hg
    exact ⟨s.kn, ok, .inl ⟨by simp [Region.wanted, hg], hd⟩⟩
  · rename_i j want hg
    split at hd
    · exact hd.elim
    · rename_i d hj
      split at hd
      · rename_i hnone
        have ht := ok.tm.2 d _ hnone
        have hy : yielded ops a.tmps j = none := by
          unfold yielded
          rw [hj]
          simp only [Option.bind_some, ht, V.den, List.map_nil]
        refine ⟨s.kn, ok, .inr ⟨?_, hd⟩⟩
        simp only [Region.wanted, hg, hy]
        rfl
      · split at hd
        · rename_i e he
          obtain ⟨kn, ok', hh⟩ := brE_ok ok hd
          have ht := evA_tmp ok.tm he
          have hy : yielded ops a.tmps j = some (e.den ρ).bool := by
            unfold yielded
            rw [hj]
            simp only [Option.bind_some, ht, A.den]
          refine ⟨kn, ok', ?_⟩
          simp only [Region.wanted, hg, hy]
          rcases hh with ⟨hb, hh⟩ | ⟨hb, hh⟩ <;> rw [hb] <;> cases want <;> simp only [if_true, Bool.false_eq_true, if_false] at hh
          · exact .inr ⟨rfl, hh⟩
          · exact .inl ⟨rfl, hh⟩
          · exact .inl ⟨rfl, hh⟩
          · exact .inr ⟨rfl, hh⟩
        · exact hd.elim
theorem Nx.up {K : S → T} {ρ' : Env} {R' : PH} {L' : List (Env → Prop)} {a' : Act} {w' : World} (p1 : ρ <+: ρ') (p2 : R.le R') (p3 : L <:+ L') (n : Nx ⟨P, post, w0, F, ρ', R', L'⟩ K a' w') : Nx ⟨P, post, w0, F, ρ, R, L⟩ K a' w' :=
  n.mono rfl rfl rfl rfl p1 p2 p3 fun _ => rfl

def WF (Fr : Fence) : Prop := Fr = Fence.wide ∨ ∃ l, Fr = Fence.wide.inRound l
theorem WF.fn {Fr : Fence} (h : WF Fr) (f : FuncId) : Fr.fn f := by rcases h with rfl | ⟨l, rfl⟩ <;> trivial
theorem WF.dep {Fr : Fence} (h : WF Fr) : Fr.depth.isSome = true → 1 ≤ 0 := by rcases h with rfl | ⟨l, rfl⟩ <;> (intro h; cases h)
theorem WF.calls {Fr : Fence} (h : WF Fr) {n : Nat} {f : FuncId} {args : Array Value} {w : World} {Z : Ending → World → Prop} (c : Calls P f args w Z) : CallsIn Fr n P f args w Z := by
  have c' : CallsIn Fence.wide n P f args w Z := callsIn_wide.2 c
  rcases h with rfl | ⟨l, rfl⟩
  · exact c'
  · exact c'
theorem WF.rows {Fr : Fence} (h : WF Fr) {n : Nat} {row : String} {args : Array Value} {w : World} {Z : Value → World → Prop} (c : Rows P row args w Z) : RowsIn Fr n P row args w Z := by
  have c' : RowsIn Fence.wide n P row args w Z := fun fr cs _ => let ⟨v, w', r, s⟩ := c fr cs; ⟨v, w', r, stepsIn_wide.2 s⟩
  rcases h with rfl | ⟨l, rfl⟩
  · exact c'
  · exact c'
theorem WF.round {Fr : Fence} (h : WF Fr) {n l : Nat} {f : FuncId} {tmps : Array Value} {asg body : Code} {w : World} {Z : Ending → World → Prop} (c : RoundIn Fence.wide 0 P l f tmps asg body w Z) : RoundIn Fr n P l f tmps asg body w Z := by
  have c' : RoundIn Fence.wide n P l f tmps asg body w Z := ⟨trivial, fun fr cs _ => c.2 fr cs (room_wide _)⟩
  rcases h with rfl | ⟨l, rfl⟩
  · exact c'
  · exact c'
theorem notDefer_ne {o : Oper} (h : notDefer o.op = true) : ∀ c, o.op ≠ .defer c := fun c e => by rw [e] at h; cases h
theorem opIn {Fr : Fence} (wf : WF Fr) {o : Oper} (hnd : notDefer o.op = true) {nx : Act → World → Prop} (h : o.wp P a w nx Q) : o.wpIn Fr 0 P a w nx Q := by
  refine ⟨fun f _ => wf.fn f, ?_⟩
  rw [Oper.semAt_plain Fr _ _ (notDefer_ne hnd)]
  unfold Oper.wp at h
  generalize (execOp a.eval o).run P w = r at h ⊢
  cases r with
  | ok x w' =>
    cases x <;> simp only [Oper.upon] at h <;> simp only [Oper.uponIn] <;> first
      | exact h
      | exact ⟨wf.dep, wf.calls h⟩
      | exact ⟨wf.dep, wf.rows h⟩
      | exact h.elim
  | halt x w' => cases x <;> simp only [Oper.upon] at h <;> simp only [Oper.uponIn] <;> exact h
theorem callvOf_spec {o : Oper} {v : Nat} {ws : List W} (h : callvOf s o = some (v, ws)) : ∃ c x, o.op = .call c ∧ c.callee = .value x ∧ evA s x = some (.val v) ∧ mapM' (evW s) c.args.toList = some ws := by
  unfold callvOf at h
  split at h
  · rename_i c ho
    split at h
    · rename_i x hc
      split at h
      · rename_i k q hx hw
        cases h
        exact ⟨c, x, ho, hc, hx, hw⟩
      · cases h
    · cases h
  · cases h
theorem VTri.op {Fr : Fence} (wf : WF Fr) {o : Oper} {c : Call} {x : Operand} {fv : Value} {args : Array Value} {A : HP} {B : Value → HP} (t : VTri P fv args A B) (ho : o.op = .call c) (hc : c.callee = .value x) (hx : a.eval x = oneC fv) (harg : c.args.map a.eval = args)
    (s1 : Sat w R h F) (p1 : A.p R h) {nx : Act → World → Prop} (hn : ∀ v' w' R' h', Same w w' → R.le R' → Sat w' R' h' F → (B v').p R' h' → nx (a.put o.dst v') w') : o.wpIn Fr 0 P a w nx Q := by
  refine ⟨fun f _ => wf.fn f, ?_⟩
  rw [Oper.semAt_plain Fr _ _ (fun d e => by rw [ho] at e; cases e)]
  rcases t with ⟨f, caps, rfl, ⟨fn, hfn, hbody, hname⟩, t⟩ | ⟨l, rfl, t⟩
  · have hrun : (execOp a.eval o).run P w = .ok (.enter f (args ++ caps)) w := by
      simp only [execOp, ho, resolve, hc, harg, Sem.run_bind, hx, oneC, Deferred.ofValue, Sem.run_pure, Result.andThen_ok, invoke, callFunc, program, Sem.run, hfn, hname, hbody, Bool.false_eq_true, if_false, Array.empty_append]
    rw [hrun, Oper.uponIn_enter]
    refine ⟨wf.dep, wf.calls ((t w R h _ s1 p1).mono fun e w' ⟨v', he, sm, R', h1', lR, s2, hB⟩ => ?_)⟩
    subst he
    exact hn v' w' R' h1' sm lR s2 hB
  · obtain ⟨fn, tmps, asg, body, hy, hr⟩ := t w R h _ s1 p1
    have hrun : (execOp a.eval o).run P w = .ok (.round l fn tmps asg body) w := by
      simp only [execOp, ho, resolve, hc, harg, Sem.run_bind, hx, oneC, Deferred.ofValue, Sem.run_pure, Result.andThen_ok, invoke, Array.empty_append]
      exact hy
    rw [hrun, Oper.uponIn_round]
    refine ⟨wf.dep, wf.round (hr.mono fun e w' ⟨v', he, sm, R', h1', lR, s2, hB⟩ => ?_)⟩
    subst he
    exact hn v' w' R' h1' sm lR s2 hB
theorem callV_ok {Fr : Fence} (wf : WF Fr) {o : Oper} {K : S → T} {v : Nat} {ws : List W} (hv : callvOf s o = some (v, ws)) (ok : Ok ρ s a w0 w R h F) (hl : L.length = s.dp) (hd : (callV P cfg s o v ws K).den P post L ρ) :
    o.wpIn Fr 0 P a w (Nx ⟨P, post, w0, F, ρ, R, L⟩ K) Q := by
  obtain ⟨c, x, ho, hc, hx, hw⟩ := callvOf_spec hv
  have harg : c.args.map a.eval = (ws.map (W.den ρ)).toArray := by
    rw [← mapW_den ok.tm hw]; cases c.args; simp
  unfold callV at hd
  simp only at hd
  split at hd
  · exact hd.elim
  rename_i hsub
  simp only [Bool.not_eq_true', Bool.not_eq_false] at hsub
  split at hd
  · rename_i hb
    simp only [Bool.and_eq_true, decide_eq_true_eq, Nat.blt_eq] at hb
    obtain ⟨hb, hn⟩ := hb
    obtain ⟨h1, h2, s1, d1, p1, p2⟩ := ok.hand (fun x => (reach s.h s.lk 60 (Key.a v :: cfg.vt ++ ws.flatMap fun x => x.list.flatMap keysA) []).contains x.1)
    refine VTri.op wf hd ho hc (evA_den ok.tm hx) harg s1 (subH_den hsub p1) fun v' w' R' h1' sm lR s2 hB => ?_
    obtain ⟨xs, hxl, hv', hk, hnb⟩ := exs_elim hB
    rw [hv']
    refine ⟨_, _, R', h1'.un h2, L, List.prefix_append ρ xs, lR, List.suffix_refl _, ?_, ok.back (lk := _) hb sm s2 d1 lR (hn.trans (by rw [hxl])) (fun x hx => (List.mem_filter.1 hx).1) p2 hnb _ _, hk⟩
    cases o.dst <;> exact hl
  · exact hd.elim
theorem callmOf_spec {o : Oper} {v : Nat} {name : String} {ws : List W} (h : callmOf s o = some (v, name, ws)) : ∃ c x, o.op = .call c ∧ c.callee = .invoke x name ∧ evA s x = some (.val v) ∧ mapM' (evW s) c.args.toList = some ws := by
  unfold callmOf at h
  split at h
  · rename_i c ho
    split at h
    · rename_i x nm hc
      split at h
      · rename_i k q hx hw
        cases h
        exact ⟨c, x, ho, hc, hx, hw⟩
      · cases h
    · cases h
  · cases h
theorem extract_one (x : Value) (l : Array Value) : (#[x] ++ l).extract 1 (#[x] ++ l).size = l := by
  apply Array.ext'
  rw [Array.toList_extract]
  simp
  exact List.take_of_length_le (Nat.le_of_eq Array.length_toList)
theorem MTri.op {Fr : Fence} (wf : WF Fr) {o : Oper} {c : Call} {x : Operand} {fv : Value} {name : String} {args : Array Value} {A : HP} {B : Value → HP} (t : MTri P fv name args A B) (ho : o.op = .call c) (hc : c.callee = .invoke x name) (hx : a.eval x = oneC fv) (harg : c.args.map a.eval = args)
    (s1 : Sat w R h F) (p1 : A.p R h) {nx : Act → World → Prop} (hn : ∀ v' w' R' h', Same w w' → R.le R' → Sat w' R' h' F → (B v').p R' h' → nx (a.put o.dst v') w') : o.wpIn Fr 0 P a w nx Q := by
  refine ⟨fun f _ => wf.fn f, ?_⟩
  rw [Oper.semAt_plain Fr _ _ (fun d e => by rw [ho] at e; cases e)]
  obtain ⟨ty, y, f, r, rfl, hm, ⟨fn, hfn, hbody, hname⟩, t⟩ := t
  have hrun : (execOp a.eval o).run P w = .ok (.enter f (#[r] ++ args)) w := by
    have h0 : (#[Value.iface ty y] ++ args)[0]? = some (.iface ty y) := by rw [Array.getElem?_append_left (by simp)]; rfl
    simp only [execOp, ho, resolve, hc, harg, Sem.run_bind, hx, oneC, Sem.run_pure, Result.andThen_ok, invoke, h0, extract_one, callMethod, program, Sem.run, hm, callFunc, hfn, hname, hbody, Bool.false_eq_true, if_false]
  rw [hrun, Oper.uponIn_enter]
  refine ⟨wf.dep, wf.calls ((t w R h _ s1 p1).mono fun e w' ⟨v', he, sm, R', h1', lR, s2, hB⟩ => ?_)⟩
  subst he
  exact hn v' w' R' h1' sm lR s2 hB
theorem callM_ok {Fr : Fence} (wf : WF Fr) {o : Oper} {K : S → T} {v : Nat} {name : String} {ws : List W} (hv : callmOf s o = some (v, name, ws)) (ok : Ok ρ s a w0 w R h F) (hl : L.length = s.dp) (hd : (callM P cfg s o v name ws K).den P post L ρ) :
    o.wpIn Fr 0 P a w (Nx ⟨P, post, w0, F, ρ, R, L⟩ K) Q := by
  obtain ⟨c, x, ho, hc, hx, hw⟩ := callmOf_spec hv
  have harg : c.args.map a.eval = (ws.map (W.den ρ)).toArray := by
    rw [← mapW_den ok.tm hw]; cases c.args; simp
  unfold callM at hd
  simp only at hd
  split at hd
  · exact hd.elim
  rename_i hsub
  simp only [Bool.not_eq_true', Bool.not_eq_false] at hsub
  split at hd
  · rename_i hb
    simp only [Bool.and_eq_true, decide_eq_true_eq, Nat.blt_eq] at hb
    obtain ⟨hb, hn⟩ := hb
    obtain ⟨h1, h2, s1, d1, p1, p2⟩ := ok.hand (fun x => (reach s.h s.lk 60 (Key.a v :: cfg.vt ++ ws.flatMap fun x => x.list.flatMap keysA) []).contains x.1)
    refine MTri.op wf hd ho hc (evA_den ok.tm hx) harg s1 (subH_den hsub p1) fun v' w' R' h1' sm lR s2 hB => ?_
    obtain ⟨xs, hxl, hv', hk, hnb⟩ := exs_elim hB
    rw [hv']
    refine ⟨_, _, R', h1'.un h2, L, List.prefix_append ρ xs, lR, List.suffix_refl _, ?_, ok.back (lk := _) hb sm s2 d1 lR (hn.trans (by rw [hxl])) (fun x hx => (List.mem_filter.1 hx).1) p2 hnb _ _, hk⟩
    cases o.dst <;> exact hl
  · exact hd.elim
theorem stepV_ok {Fr : Fence} (wf : WF Fr) {o : Oper} (hnd : notDefer o.op = true) {K : S → T} (ok : Ok ρ s a w0 w R h F) (hl : L.length = s.dp) (hd : (stepV P cfg s o K).den P post L ρ) :
    o.wpIn Fr 0 P a w (Nx ⟨P, post, w0, F, ρ, R, L⟩ K) Q := by
  unfold stepV at hd
  split at hd
  · rename_i v ws hv
    exact callV_ok wf hv ok hl hd
  · split at hd
    · rename_i v name ws hv
      exact callM_ok wf hv ok hl hd
    · exact opIn wf hnd (stepO_ok ok hl hd)
theorem runL_ok {Fr : Fence} (wf : WF Fr) {K : S → T} : ∀ (l : List Oper), (∀ o ∈ l, notDefer o.op = true) → ∀ {ρ : Env} {s : S} {a : Act} {w : World} {R h : PH} {L : List (Env → Prop)}, Ok ρ s a w0 w R h F → L.length = s.dp → (runL P cfg ops l s K).den P post L ρ →
    (∀ a w, Nx ⟨P, post, w0, F, ρ, R, L⟩ K a w → Q .normal a w) → wpListIn Fr 0 P ops Q l a w := by
  intro l
  induction l with
  | nil => intro _ ρ s a w R h L ok hl hd hQ; exact hQ a w (Nx.mk ok hl hd)
  | cons o r ih =>
    intro hnd ρ s a w R h L ok hl hd hQ
    obtain ⟨kn, ok', hh⟩ := guardO_ok ok hd
    simp only [wpListIn]
    rcases hh with ⟨hw, hh⟩ | ⟨hw, hh⟩
    · rw [if_pos hw]
      refine Oper.wpIn_mono (fun a' w' n => ?_) (stepV_ok wf (hnd o (List.mem_cons_self ..)) ok' (by exact hl) hh)
      obtain ⟨ρ', s', R', h', L', p1, p2, p3, p4, p5, p6⟩ := n
      exact ih (fun o ho => hnd o (List.mem_cons_of_mem _ ho)) p5 p4 p6 fun a'' w'' n => hQ a'' w'' (n.up p1 p2 p3)
    · rw [if_neg (by rw [hw]; simp)]
      exact ⟨fun f _ => wf.fn f, ih (fun o ho => hnd o (List.mem_cons_of_mem _ ho)) (ok'.put o.dst (.tup [])) (by rw [dp_put]; exact hl) hh hQ⟩

theorem allT_den {f : Nat → T} : ∀ {l : List Nat}, (allT f l).den P post L ρ → ∀ i ∈ l, (f i).den P post L ρ
  | [], _, i, hi => by cases hi
  | [x], h, i, hi => by
    cases hi with
    | head => exact h
    | tail _ hi => cases hi
  | x :: y :: r, h, i, hi => by
    cases hi with
    | head => exact h.1
    | tail _ hi => exact allT_den h.2 i hi
theorem firstFree_spec {tk : List (List Key)} {h0 : Hp} {listed : Array Bool} {D : List Nat} : ∀ {l : List Nat} {i : Nat} {o : Oper}, firstFree P cfg ops tk h0 listed s l = some (i, o, D) → i ∈ l ∧ ops[i]? = some o ∧ Region.free .any ops listed i = true ∧ depOk ops listed tk i D = true
  | [], _, _, h => by cases h
  | x :: r, i, o, h => by
    simp only [firstFree] at h
    split at h
    · cases h
    · rename_i o' ho
      have rest : firstFree P cfg ops tk h0 listed s r = some (i, o, D) → i ∈ x :: r ∧ ops[i]? = some o ∧ Region.free .any ops listed i = true ∧ depOk ops listed tk i D = true := fun h => by
        obtain ⟨h1, h2⟩ := firstFree_spec h
        exact ⟨List.mem_cons_of_mem _ h1, h2⟩
      split at h
      · rename_i hf
        split at h
        · rename_i hc
          cases h
          simp only [Bool.and_eq_true] at hc
          exact ⟨List.mem_cons_self .., ho, hf, hc.1⟩
        · split at h
          · rename_i hc
            cases h
            simp only [Bool.and_eq_true] at hc
            exact ⟨List.mem_cons_self .., ho, hf, hc.1⟩
          · exact rest h
      · exact rest h

theorem yields_in {Fr : Fence} (wf : WF Fr) {Si : World → Prop} {i : Nat} {o : Oper} {v : Value} (hi : ops[i]? = some o) (hnd : notDefer o.op = true) (hy : YieldsIf P ops Si o v a)
    {K : Act → World → Prop} (hS : Si w) (h : K (a.put o.dst v) w) : wpOpIn Fr 0 P ops Q i K a w := by
  unfold wpOpIn
  simp only [hi]
  rcases hy with ⟨hw, hv⟩ | ⟨hw, rfl⟩
  · simp only [hw, if_true]
    refine ⟨fun f _ => wf.fn f, ?_⟩
    rw [Oper.semAt_plain Fr _ _ (notDefer_ne hnd), hv w hS]
    simp only [Oper.uponIn]
    exact h
  · simp only [hw, Bool.false_eq_true, if_false]
    exact ⟨fun f _ => wf.fn f, h⟩
theorem putIf_in {Fr : Fence} (wf : WF Fr) {Si : World → Prop} {j : Nat} {oi oj : Oper} {v : Value} (hj : ops[j]? = some oj) (hnd : notDefer oj.op = true) (hap : oi.apart ops oj = true)
    (hsi : ∀ cs b, oi.op ≠ .select cs b) (hsj : ∀ cs b, oj.op ≠ .select cs b)
    (hQ : ∀ c a w, Q (.panic c) (a.put oi.dst v) w → Q (.panic c) a w) {K : Act → World → Prop}
    (hy : YieldsIf P ops Si oi v a) (h : wpOpIn Fr 0 P ops Q j K (a.put oi.dst v) w) :
    wpOpIn Fr 0 P ops Q j (fun a' w' => YieldsIf P ops Si oi v a' ∧ K (a'.put oi.dst v) w') a w := by
  obtain ⟨h1, h2, h3⟩ := Oper.apart_spec hap
  have keep : ∀ (a : Act), YieldsIf P ops Si oi v a → ∀ u, YieldsIf P ops Si oi v (a.put oj.dst u) := fun a hy u =>
    hy.of_same (execOp_put oi hsi a oj.dst u h3) (wanted_put oi a oj.dst u h3)
  unfold wpOpIn at *
  simp only [hj] at *
  rw [wanted_put oj a oi.dst v h1] at h
  split
  · rename_i hw
    simp only [hw, if_true] at h
    refine ⟨fun f _ => wf.fn f, ?_⟩
    have h := h.2
    rw [Oper.semAt_plain Fr _ _ (notDefer_ne hnd), execOp_put oj hsj a oi.dst v h1] at h
    rw [Oper.semAt_plain Fr _ _ (notDefer_ne hnd)]
    generalize (execOp a.eval oj).run P w = r at *
    cases r with
    | ok x w' =>
      cases x <;> simp only [Oper.uponIn] at h ⊢
      case value u => exact ⟨keep a hy u, by rw [← Act.put_comm a v u h2]; exact h⟩
      case skip => exact ⟨keep a hy _, by rw [← Act.put_comm a v undef h2]; exact h⟩
      case defer d =>
        refine ⟨(hy.of_same rfl rfl : YieldsIf P ops Si oi v { a with defers := d :: a.defers }).of_same (execOp_put oi hsi _ oj.dst _ h3) (wanted_put oi _ oj.dst _ h3), ?_⟩
        rw [← Act.put_comm _ v undef h2, ← Act.put_defers]
        exact h
      case enter f args =>
        refine ⟨h.1, CallsIn.mono h.2 fun e w'' he => ?_⟩
        cases e with
        | returned u => exact ⟨keep a hy u, by rw [← Act.put_comm a v u h2]; exact he⟩
        | panicked c => exact hQ _ _ _ he
        | outgrown => exact he
      case row row args => exact ⟨h.1, RowsIn.mono h.2 fun u w'' he => ⟨keep a hy u, by rw [← Act.put_comm a v u h2]; exact he⟩⟩
      case round l f tmps assign body =>
        refine ⟨h.1, RoundIn.mono h.2 fun e w'' he => ?_⟩
        cases e with
        | returned u => exact ⟨keep a hy u, by rw [← Act.put_comm a v u h2]; exact he⟩
        | panicked c => exact hQ _ _ _ he
        | outgrown => exact he
    | halt x w' =>
      cases x <;> simp only [Oper.uponIn] at h ⊢
      case panic u => exact hQ _ _ _ h
  · rename_i hw
    simp only [hw] at h
    exact ⟨fun f _ => wf.fn f, keep a hy _, by rw [← Act.put_comm a v undef h2]; exact h.2⟩
def wpAnyL (Fr : Fence) (P : Program) (ops : Array Oper) (Q : Exit → Act → World → Prop) (S : Array Bool → World → Prop) : Nat → Array Bool → Act → World → Prop
  | 0, listed, a, w => Region.ready .any ops listed = [] ∧ Q .normal a w
  | fuel + 1, listed, a, w => (Region.ready .any ops listed = [] → Q .normal a w) ∧
    ∀ i ∈ Region.ready .any ops listed, wpOpIn Fr 0 P ops Q i (fun a' w' => S (listed.setIfInBounds i true) w' ∧ wpAnyL Fr P ops Q S fuel (listed.setIfInBounds i true) a' w') a w
theorem wpAnyL_any {Fr : Fence} {Sc : Array Bool → World → Prop} : ∀ (fuel : Nat) (listed : Array Bool) (a : Act) (w : World), wpAnyL Fr P ops Q Sc fuel listed a w → wpAnyIn Fr 0 P .any ops Q fuel listed a w
  | 0, _, _, _, h => h
  | fuel + 1, _, _, _, h => ⟨h.1, fun i hi => wpOpIn_mono (fun a' w' h' => wpAnyL_any fuel _ a' w' h'.2) (h.2 i hi)⟩
theorem wpAnyL_done {Fr : Fence} {Sc : Array Bool → World → Prop} {listed : Array Bool} {a : Act} {w : World} (hr : Region.ready .any ops listed = []) (h : Q .normal a w) : ∀ fuel, wpAnyL Fr P ops Q Sc fuel listed a w
  | 0 => ⟨hr, h⟩
  | _ + 1 => ⟨fun _ => h, by rw [hr]; simp⟩
theorem wpAnyL_first {Fr : Fence} (wf : WF Fr) (hnd : ∀ o ∈ ops, notDefer o.op = true) {Sc : Array Bool → World → Prop} {Si : World → Prop} {Inv : Array Bool → Prop} {i : Nat} {oi : Oper} {v : Value} (hi : ops[i]? = some oi) (hsel : Region.noSelect ops = true) (hQ : ∀ c a w, ¬ Q (.panic c) a w)
    (h1 : ∀ l w, Sc (l.setIfInBounds i true) w → Sc l w) (h2 : ∀ l w, Inv l → Sc l w → Si w) (h3 : ∀ l j, Inv l → i ∈ Region.ready .any ops l → j ∈ Region.ready .any ops l → j ≠ i → Inv (l.setIfInBounds j true)) :
    ∀ (fuel : Nat) (listed : Array Bool) (a : Act) (w : World),
      (∀ j oj, ops[j]? = some oj → j ≠ i → listed.getD j true = false → (∀ e ∈ oj.after, Region.binds .any e = true → e.on ≠ i) → oi.apart ops oj = true) →
      i ∈ Region.ready .any ops listed → Inv listed → YieldsIf P ops Si oi v a → Sc listed w →
      wpAnyL Fr P ops Q Sc fuel (listed.setIfInBounds i true) (a.put oi.dst v) w → Sc (listed.setIfInBounds i true) w → wpAnyL Fr P ops Q Sc (fuel + 1) listed a w := by
  intro fuel
  induction fuel with
  | zero =>
    intro listed a w _ hr hI hy hS H hSi
    refine ⟨fun h => (by rw [h] at hr; cases hr), fun j hj => ?_⟩
    by_cases hji : j = i
    · subst hji; exact yields_in wf hi (hnd _ (Array.mem_of_getElem? hi)) hy (h2 _ _ hI hS) ⟨hSi, H⟩
    · have := ready_mono hj hji
      rw [H.1] at this
      cases this
  | succ fuel ih =>
    intro listed a w hfree hr hI hy hS H hSi
    refine ⟨fun h => (by rw [h] at hr; cases hr), fun j hj => ?_⟩
    by_cases hji : j = i
    · subst hji; exact yields_in wf hi (hnd _ (Array.mem_of_getElem? hi)) hy (h2 _ _ hI hS) ⟨hSi, H⟩
    · have hj' := H.2 j (ready_mono hj hji)
      obtain ⟨hjun, oj, hoj, hall⟩ := mem_ready.1 hj
      have hun := (mem_ready.1 hr).1
      have hnot : ∀ e ∈ oj.after, Region.binds .any e = true → e.on ≠ i := fun e he hb heq => by
        have q1 := hall e he hb
        rw [heq] at q1
        rcases Nat.lt_or_ge i listed.size with h' | h'
        · simp [h'] at hun q1; rw [hun] at q1; cases q1
        · simp [Array.getElem?_eq_none h'] at q1
      have q2 := putIf_in wf hoj (hnd _ (Array.mem_of_getElem? hoj)) (hfree j oj hoj hji hjun hnot) (fun cs b => Region.noSelect_spec hsel i oi cs b hi) (fun cs b => Region.noSelect_spec hsel j oj cs b hoj) (fun c a w h => absurd h (hQ c _ w)) hy hj'
      have hfree' : ∀ k ok, ops[k]? = some ok → k ≠ i → (listed.setIfInBounds j true).getD k true = false → (∀ e ∈ ok.after, Region.binds .any e = true → e.on ≠ i) → oi.apart ops ok = true := fun k ok hk hki hun' hno => by
        refine hfree k ok hk hki ?_ hno
        by_cases hjk : j = k
        · subst hjk; exact hjun
        · rw [getD_set_ne true hjk] at hun'; exact hun'
      refine wpOpIn_mono (fun a' w' q3 => ?_) q2
      obtain ⟨q3, q4, q5⟩ := q3
      rw [Array.setIfInBounds_comm _ _ (Ne.symm hji)] at q4 q5
      exact ⟨h1 _ _ q4, ih (listed.setIfInBounds j true) a' w' hfree' (ready_mono hr (Ne.symm hji)) (h3 _ _ hI hr hj hji) q3 (h1 _ _ q4) q5 q4⟩

def Kept (ρ : Env) (stab : Hp) (w : World) : Prop := ∃ R h F, Sat w R h F ∧ (hden ρ stab).p R h
theorem nodup_filter {l : Hp} (q : Key × C → Bool) (h : nodupH l = true) : nodupH (l.filter q) = true := by
  induction l with
  | nil => rfl
  | cons x r ih =>
    simp only [nodupH, Bool.and_eq_true, Bool.not_eq_true', List.contains_eq_mem, decide_eq_false_iff_not] at h
    rw [List.filter_cons]
    split
    · simp only [nodupH, Bool.and_eq_true, Bool.not_eq_true', List.contains_eq_mem, decide_eq_false_iff_not]
      exact ⟨fun hx => h.1 (List.mem_filter.1 hx).1, ih h.2⟩
    · exact ih h.2
theorem Kept.sub {ρ : Env} {l m : Hp} {w : World} (hn : nodupH m = true) (hs : ∀ x ∈ m, x ∈ l) : Kept ρ l w → Kept ρ m w := fun ⟨R, h, F, s, p⟩ => ⟨R, h, F, s, hden_sub hn hs p⟩
theorem stabAt_set {tk : List (List Key)} {h0 : Hp} {listed : Array Bool} {i : Nat} (hi : tk.getD i [] = []) {x : Key × C} (hx : x ∈ stabAt ops tk h0 listed) : x ∈ stabAt ops tk h0 (listed.setIfInBounds i true) := by
  obtain ⟨h1, h2⟩ := List.mem_filter.1 hx
  refine List.mem_filter.2 ⟨h1, List.all_eq_true.2 fun j hj => ?_⟩
  have := List.all_eq_true.1 h2 j hj
  by_cases hij : i = j
  · subst hij; rw [hi]; simp
  · rw [getD_set_ne false hij]; exact this
theorem splitG_ok {K : S → T} : ∀ (l : List Nat) {s : S}, Ok ρ s a w0 w R h F → (splitG ops l s K).den P post L ρ → ∃ kn, Ok ρ { s with kn := kn } a w0 w R h F ∧ (K { s with kn := kn }).den P post L ρ
  | [], s, ok, hd => ⟨s.kn, ok, hd⟩
  | i :: r, s, ok, hd => by
    simp only [splitG] at hd
    split at hd
    · obtain ⟨kn, ok', hh⟩ := brE_ok ok hd
      rcases hh with ⟨_, hh⟩ | ⟨_, hh⟩
      · obtain ⟨kn2, ok2, h2⟩ := splitG_ok r ok' hh
        exact ⟨kn2, ok2, h2⟩
      · obtain ⟨kn2, ok2, h2⟩ := splitG_ok r ok' hh
        exact ⟨kn2, ok2, h2⟩
    · exact splitG_ok r ok hd
set_option maxHeartbeats 800000 in
theorem runD_ok {Fr : Fence} (wf : WF Fr) (hnd : ∀ o ∈ ops, notDefer o.op = true) {K : S → T} {tk : List (List Key)} {h0 : Hp} {ρ0 : Env} (hn : nodupH h0 = true) (hb : hbel ρ0.length h0 = true) (hsel : Region.noSelect ops = true) (hp : ∀ c a w, ¬ Q (.panic c) a w) :
    ∀ (fuel : Nat) {listed : Array Bool} {ρ : Env} {s : S} {a : Act} {w : World} {R h : PH} {L : List (Env → Prop)}, ρ0 <+: ρ → (∀ x ∈ stabAt ops tk h0 listed, x ∈ s.h) → Ok ρ s a w0 w R h F → L.length = s.dp → (runD P cfg ops tk h0 fuel listed s K).den P post L ρ →
      (∀ a w, Nx ⟨P, post, w0, F, ρ, R, L⟩ K a w → Q .normal a w) → wpAnyL Fr P ops Q (fun l => Kept ρ0 (stabAt ops tk h0 l)) fuel listed a w := by
  have hbf : ∀ q : Key × C → Bool, hbel ρ0.length (h0.filter q) = true := fun q => List.all_eq_true.2 fun x hx => List.all_eq_true.1 hb x (List.mem_filter.1 hx).1
  have up : ∀ {ρ : Env} {w : World} (q : Key × C → Bool), ρ0 <+: ρ → (Kept ρ (h0.filter q) w ↔ Kept ρ0 (h0.filter q) w) := fun q hpre => by
    obtain ⟨x, rfl⟩ := hpre
    unfold Kept
    rw [hden_app (hbf q)]
  have okk : ∀ {ρ : Env} {s : S} {a : Act} {w : World} {R h : PH} {l : Array Bool}, ρ0 <+: ρ → (∀ x ∈ stabAt ops tk h0 l, x ∈ s.h) → Ok ρ s a w0 w R h F → Kept ρ0 (stabAt ops tk h0 l) w := fun hpre hst ok =>
    (up _ hpre).1 ⟨_, _, _, ok.sat, hden_sub (nodup_filter _ hn) hst ok.hp⟩
  intro fuel
  induction fuel with
  | zero =>
    intro listed ρ s a w R h L hpre hst ok hl hd hQ
    simp only [runD] at hd
    split at hd
    · rename_i hr; exact ⟨hr, hQ a w (Nx.mk ok hl hd)⟩
    · exact hd.elim
  | succ fuel ih =>
    intro listed ρ s a w R h L hpre hst ok hl hd hQ
    simp only [runD] at hd
    split at hd
    · rename_i hr; exact wpAnyL_done hr (hQ a w (Nx.mk ok hl hd)) _
    · rename_i hr
      suffices key : ∀ {s : S}, (∀ x ∈ stabAt ops tk h0 listed, x ∈ s.h) → Ok ρ s a w0 w R h F → L.length = s.dp → (stepD P cfg ops tk h0 listed (Region.ready .any ops listed) (fun l s => runD P cfg ops tk h0 fuel l s K) s).den P post L ρ → wpAnyL Fr P ops Q (fun l => Kept ρ0 (stabAt ops tk h0 l)) (fuel + 1) listed a w by
        split at hd
        · exact key hst ok hl hd
        · obtain ⟨kn, ok', hd'⟩ := splitG_ok _ ok hd
          exact key (s := { s with kn := kn }) hst ok' hl hd'
      clear hd hst ok hl s
      intro s hst ok hl hd
      have hS := okk hpre hst ok
      unfold stepD at hd
      split at hd
      · rename_i i o D hf
        obtain ⟨hi, ho, hfree, hdep⟩ := firstFree_spec hf
        simp only [depOk, Bool.and_eq_true, Bool.not_eq_true', decide_eq_true_eq, Nat.blt_eq] at hdep
        obtain ⟨⟨hDi, htk⟩, hD⟩ := hdep
        obtain ⟨kn, ok', hh⟩ := guardO_ok ok hd
        have hst' : ∀ x ∈ stabAt ops tk h0 (listed.setIfInBounds i true), x ∈ s.h := fun x hx => hst x (by
          obtain ⟨q1, q2⟩ := List.mem_filter.1 hx
          refine List.mem_filter.2 ⟨q1, List.all_eq_true.2 fun j hj => ?_⟩
          have := List.all_eq_true.1 q2 j hj
          by_cases hij : i = j
          · subst hij; rw [htk]; simp
          · rw [getD_set_ne false hij] at this; exact this)
        have hS' : Kept ρ0 (stabAt ops tk h0 (listed.setIfInBounds i true)) w := okk hpre hst' ok
        have a1 : ∀ l w, Kept ρ0 (stabAt ops tk h0 (l.setIfInBounds i true)) w → Kept ρ0 (stabAt ops tk h0 l) w := fun l w q =>
          Kept.sub (l := stabAt ops tk h0 (l.setIfInBounds i true)) (m := stabAt ops tk h0 l) (nodup_filter _ hn) (fun x hx => stabAt_set htk hx) q
        have a2 : ∀ l w, (∀ j ∈ D, l.getD j true = false) → Kept ρ0 (stabAt ops tk h0 l) w → Kept ρ0 (stabBut ops tk h0 D) w := fun l w hI q =>
          Kept.sub (l := stabAt ops tk h0 l) (m := stabBut ops tk h0 D) (nodup_filter _ hn) (fun x hx => by
            obtain ⟨q1, q2⟩ := List.mem_filter.1 hx
            refine List.mem_filter.2 ⟨q1, List.all_eq_true.2 fun j hj => ?_⟩
            have q3 := List.all_eq_true.1 q2 j hj
            by_cases hjD : j ∈ D
            · have := hI j hjD
              have e : l.getD j false = false := by
                cases hq : l[j]? with
                | none => simp [hq]
                | some b => simp [hq] at this ⊢; exact this
              rw [e]; rfl
            · have : D.contains j = false := by simpa using hjD
              rw [this] at q3
              simp only [Bool.false_or] at q3
              rw [q3]; simp) q
        have a3 : ∀ (l : Array Bool) (j : Nat), (∀ j ∈ D, l.getD j true = false) → i ∈ Region.ready .any ops l → j ∈ Region.ready .any ops l → j ≠ i → (∀ k ∈ D, (l.setIfInBounds j true).getD k true = false) := fun l j hI hri hrj hji k hk => by
          have hne : k ≠ j := fun e => by
            subst e
            have hDk := List.all_eq_true.1 hD k hk
            simp only [Bool.and_eq_true] at hDk
            obtain ⟨_, hDk⟩ := hDk
            obtain ⟨_, oj, hoj, hall⟩ := mem_ready.1 hrj
            rw [hoj] at hDk
            simp only [Array.any_eq_true'] at hDk
            obtain ⟨e, he, hDk⟩ := hDk
            simp only [Bool.and_eq_true, Bool.or_eq_true, beq_iff_eq] at hDk
            have q := hall e he hDk.1
            have un : l.getD e.on true = false := by
              rcases hDk.2 with e1 | e1
              · rw [e1]; exact (mem_ready.1 hri).1
              · exact hI e.on (by simpa using e1)
            cases hq : l[e.on]? with
            | none => simp [hq] at un
            | some b => simp [hq] at un q; rw [un] at q; cases q
          rw [getD_set_ne true (Ne.symm hne)]
          exact hI k hk
        have a4 : ∀ j ∈ D, listed.getD j true = false := fun j hj => by
          have := List.all_eq_true.1 hD j hj
          simp only [Bool.and_eq_true, Bool.not_eq_true'] at this
          exact this.1
        have take : ∀ (v : Value), YieldsIf P ops (Kept ρ0 (stabBut ops tk h0 D)) o v a → wpAnyL Fr P ops Q (fun l => Kept ρ0 (stabAt ops tk h0 l)) fuel (listed.setIfInBounds i true) (a.put o.dst v) w → wpAnyL Fr P ops Q (fun l => Kept ρ0 (stabAt ops tk h0 l)) (fuel + 1) listed a w := fun v hy H =>
          wpAnyL_first wf hnd (Sc := fun l => Kept ρ0 (stabAt ops tk h0 l)) (Si := Kept ρ0 (stabBut ops tk h0 D)) (Inv := fun l => ∀ j ∈ D, l.getD j true = false) ho hsel hp a1 a2 a3 fuel listed a w (Region.free_spec ho hfree) hi a4 hy hS H hS'
        rcases hh with ⟨hw, hh⟩ | ⟨hw, hh⟩
        · simp only at hh
          split at hh
          · rename_i es v hpo
            obtain ⟨kn2, ok2, hes, hk⟩ := needs_ok ok' hh
            have hnext := ih hpre (by cases o.dst <;> exact hst') (ok2.put o.dst v) (by rw [dp_put]; exact hl) hk hQ
            refine take (v.den ρ) (.inl ⟨hw, fun w' hw' => ?_⟩) hnext
            obtain ⟨R1, x1, F1, s1, p1⟩ := (up _ hpre).2 hw'
            exact pureOp_run hpo ok'.tm ok'.kn ⟨R1, x1, F1, s1, p1⟩ hes
          · split at hh
            · rename_i ar cons r hrc
              unfold readC at hrc
              split at hrc
              · rename_i hc
                simp only [Bool.and_eq_true, Bool.not_eq_true'] at hc
                split at hrc
                · cases hrc
                · rename_i ar' har
                  simp only at hrc
                  split at hrc
                  · rename_i hb
                    cases hrc
                    simp only [Bool.and_eq_true, decide_eq_true_eq] at hb
                    obtain ⟨⟨⟨hnd, hsb⟩, hbel'⟩, hrn⟩ := hb
                    obtain ⟨xs, hxl, hr, hk⟩ := exP_elim hh
                    have hsem := semOf_eq ok'.tm hc.2 har
                    have k1 := ok'.app hbel' xs _ (hrn.trans (by rw [hxl]))
                    have k2 : Ok (ρ ++ xs) { s with kn := kn, n := (resRS P cfg { s with kn := kn } o).n, lk := linksOf o.op { s with kn := kn } s.n (resRS P cfg { s with kn := kn } o).v ++ s.lk } a w0 w R h F := ⟨k1.dfr, k1.tm, k1.len, k1.kn, k1.hp, k1.sat, k1.same⟩
                    have hnext := ih (hpre.trans (List.prefix_append ρ xs)) (by cases o.dst <;> exact hst') (k2.put o.dst _) (by rw [dp_put]; exact hl) hk fun a'' w'' n => hQ a'' w'' (n.up (List.prefix_append ρ xs) (PH.le.refl _) (List.suffix_refl _))
                    refine take _ (.inl ⟨hw, fun w' hw' => ?_⟩) hnext
                    obtain ⟨R1, x1, F1, s1, p1⟩ := (up _ hpre).2 hw'
                    rw [hsem]
                    exact hr w' R1 x1 F1 s1 (hden_sub hnd (fun x hx => List.contains_iff_mem.1 (List.all_eq_true.1 hsb x hx)) p1)
                  · cases hrc
              · cases hrc
            · exact hh.elim
        · have hnext := ih hpre (by cases o.dst <;> exact hst') (ok'.put o.dst (.tup [])) (by rw [dp_put]; exact hl) hh hQ
          exact take undef (.inr ⟨hw, rfl⟩) hnext
      · refine ⟨fun h0 => absurd h0 hr, fun i hi => ?_⟩
        have hone := allT_den hd i hi
        unfold wpOpIn
        split at hone
        · exact hone.elim
        · rename_i o ho
          rw [ho]
          simp only
          obtain ⟨kn, ok', hh⟩ := guardO_ok ok hone
          rcases hh with ⟨hw, hh⟩ | ⟨hw, hh⟩
          · rw [if_pos hw]
            refine Oper.wpIn_mono (fun a' w' n => ?_) (stepV_ok wf (hnd _ (Array.mem_of_getElem? ho)) ok' (by exact hl) hh)
            obtain ⟨ρ', s', R', h', L', p1, p2, p3, p4, p5, p6⟩ := n
            simp only at p6
            split at p6
            · rename_i hc
              have hst' : ∀ x ∈ stabAt ops tk h0 (listed.setIfInBounds i true), x ∈ s'.h := fun x hx => by simpa using List.all_eq_true.1 hc x hx
              exact ⟨okk (hpre.trans p1) hst' p5, ih (hpre.trans p1) hst' p5 p4 p6 fun a'' w'' n => hQ a'' w'' (n.up p1 p2 p3)⟩
            · exact p6.elim
          · rw [if_neg (by rw [hw]; simp)]
            have hst' : ∀ x ∈ stabAt ops tk h0 (listed.setIfInBounds i true), x ∈ s.h := fun x hx => hst x (by
              obtain ⟨q1, q2⟩ := List.mem_filter.1 hx
              refine List.mem_filter.2 ⟨q1, List.all_eq_true.2 fun j hj => ?_⟩
              have := List.all_eq_true.1 q2 j hj
              by_cases hij : i = j
              · subst hij
                simp only [Bool.or_eq_true, Bool.not_eq_true'] at this ⊢
                exact .inl (by
                  have := (mem_ready.1 hi).1
                  cases hq : listed[i]? with
                  | none => simp [hq]
                  | some b => simp [hq] at this ⊢; exact this)
              · rw [getD_set_ne false hij] at this; exact this)
            exact ⟨fun f _ => wf.fn f, okk hpre hst' ok, ih hpre (by cases o.dst <;> exact hst') (ok'.put o.dst (.tup [])) (by rw [dp_put]; exact hl) hh hQ⟩
end
end Go.Proofs.YtcpjdfihpdjkbaaGreatDoor.RX



namespace Go.Proofs.YtcpjdfihpdjkbaaGreatDoor.RX
open Go.Proofs.YtcpjdfihpdjkbaaGreatDoor

section
variable {P : Program} {post : Value → HP} {w0 w : World} {F R h : PH} {ρ : Env} {L : List (Env → Prop)} {s : S} {a : Act} {cfg : Cfg}


theorem oneC_self {v : Value} (h : v.oneCell' = true) : oneC v = v := by cases v <;> first | rfl | cases h
theorem okA_den {base : Nat} {fr : List FV} {x y : A} (h : okA base fr x y = true) {ρ ρ2 : Env} (hl : ρ.length = base) (hp : ρ <+: ρ2) : x.den (ρ ++ fr.map (FV.den ρ2)) = y.den ρ2 := by
  obtain ⟨z, rfl⟩ := hp
  have hf : ∀ {j : Nat} {f : FV}, base ≤ j → fr[j - base]? = some f → look (ρ ++ fr.map (FV.den (ρ ++ z))) j = f.den (ρ ++ z) := by
    intro j f hj hf
    have : ∀ (r : Env) (q : List FV) (i : Nat), q[i]? = some f → look (r ++ q.map (FV.den (ρ ++ z))) (r.length + i) = f.den (ρ ++ z) := by
      intro r
      induction r with
      | nil =>
        intro q
        induction q with
        | nil => intro i hi; cases hi
        | cons u v ih => intro i hi; cases i with
          | zero => simp only [List.getElem?_cons_zero, Option.some.injEq] at hi; subst hi; rfl
          | succ i => simp only [List.length_nil, Nat.zero_add, List.nil_append, List.map_cons, look] at ih ⊢; exact ih i (by simpa using hi)
      | cons u v ih =>
        intro q i hi
        simp only [List.length_cons, List.cons_append]
        rw [show v.length + 1 + i = (v.length + i) + 1 by omega]
        exact ih q i hi
    have := this ρ fr (j - base) hf
    rwa [hl, show base + (j - base) = j by omega] at this
  unfold okA at h
  simp only [Bool.or_eq_true, Bool.and_eq_true, decide_eq_true_eq, Nat.blt_eq] at h
  rcases h with ⟨rfl, hb⟩ | h
  · rw [← hl] at hb
    rw [A.app hb, A.app hb]
  · split at h <;> first | (cases h; done) | simp only [Bool.and_eq_true, decide_eq_true_eq, Nat.blt_eq] at h
    · obtain ⟨⟨h1, rfl⟩, h3⟩ := h
      simp only [A.den, E.den, hf h1 h3, FV.den, F1.app, Uni.int_i, Int.neg_neg]
    · obtain ⟨h1, h3⟩ := h
      simp only [A.den, E.den, hf h1 h3, FV.den, F1.app, Uni.bool_c, Bool.not_not]
    · obtain ⟨h1, h3⟩ := h
      simp only [A.den, E.den, hf h1 h3, FV.den, F2.app, Uni.str_s, List.append_nil]
    · obtain ⟨⟨h1, rfl⟩, h3⟩ := h
      simp only [A.den, BR.den, hf h1 h3, FV.den, Uni.nat_n]
    · obtain ⟨⟨⟨⟨⟨h1, h2⟩, h3⟩, h4⟩, h5⟩, h6⟩ := h
      simp only [A.den, SA.den, E.den, hf h1 h4, hf h2 h5, hf h3 h6, FV.den, F2.app, Uni.adr_a, Uni.nat_n, Nat.add_zero]
    · obtain ⟨h1, h3⟩ := h
      simp only [A.den, BR.den, hf h1 h3, FV.den, Uni.nat_n]
    · obtain ⟨h1, h3⟩ := h
      show oneC (look _ _).val = _
      rw [hf h1 h3]
      exact oneC_self (A.one _ _)
theorem okAs_den {base : Nat} {fr : List FV} : ∀ {x y : List A}, okAs base fr x y = true → ∀ {ρ ρ2 : Env}, ρ.length = base → ρ <+: ρ2 → x.map (A.den (ρ ++ fr.map (FV.den ρ2))) = y.map (A.den ρ2)
  | [], [], _, _, _, _, _ => rfl
  | x :: r, y :: q, h, ρ, ρ2, hl, hp => by
    simp only [okAs, Bool.and_eq_true] at h
    simp only [List.map_cons, okA_den h.1 hl hp, okAs_den h.2 hl hp]
  | [], _ :: _, h, _, _, _, _ => by cases h
  | _ :: _, [], h, _, _, _, _ => by cases h
theorem okW_den {base : Nat} {fr : List FV} {x y : W} (h : okW base fr x y = true) {ρ ρ2 : Env} (hl : ρ.length = base) (hp : ρ <+: ρ2) : x.den (ρ ++ fr.map (FV.den ρ2)) = y.den ρ2 := by
  cases x <;> cases y <;> simp only [okW] at h <;> first | (cases h; done) | skip
  · exact okA_den h hl hp
  · simp only [W.den, okAs_den h hl hp]
theorem okT_len {base : Nat} {fr : List FV} : ∀ {x y : List (Option V)}, okT base fr x y = true → x.length = y.length
  | [], [], _ => rfl
  | none :: r, y :: q, h => by simp only [okT] at h; simp [okT_len h]
  | some (.w x) :: r, some (.w y) :: q, h => by simp only [okT, Bool.and_eq_true] at h; simp [okT_len h.2]
  | some (.tup x) :: r, some (.tup y) :: q, h => by simp only [okT, Bool.and_eq_true] at h; simp [okT_len h.2]
  | [], _ :: _, h => by simp [okT] at h
  | some (.w _) :: _, [], h => by simp [okT] at h
  | some (.tup _) :: _, [], h => by simp [okT] at h
  | none :: _, [], h => by simp [okT] at h
  | some (.w _) :: _, none :: _, h => by simp [okT] at h
  | some (.tup _) :: _, none :: _, h => by simp [okT] at h
  | some (.w _) :: _, some (.tup _) :: _, h => by simp [okT] at h
  | some (.tup _) :: _, some (.w _) :: _, h => by simp [okT] at h
theorem okT_den {base : Nat} {fr : List FV} : ∀ {x y : List (Option V)}, okT base fr x y = true → ∀ {ρ ρ2 : Env}, ρ.length = base → ρ <+: ρ2 → ∀ (i : Nat) (v : V), x[i]? = some (some v) → ∃ u, y[i]? = some (some u) ∧ v.den (ρ ++ fr.map (FV.den ρ2)) = u.den ρ2
  | [], _, _, _, _, _, _, i, v, hi => by simp at hi
  | x :: r, [], h, _, _, _, _, _, _, _ => by have := okT_len h; simp at this
  | x :: r, y :: q, h, ρ, ρ2, hl, hp, 0, v, hi => by
    simp only [List.getElem?_cons_zero, Option.some.injEq] at hi
    subst hi
    cases y with
    | none => cases v <;> simp [okT] at h
    | some u =>
      refine ⟨u, rfl, ?_⟩
      cases v <;> cases u <;> simp only [okT, Bool.and_eq_true, decide_eq_true_eq, Nat.blt_eq] at h <;> first | (cases h; done) | skip
      · exact okW_den h.1 hl hp
      · obtain ⟨⟨rfl, hb⟩, hrest⟩ := h
        obtain ⟨z, rfl⟩ := hp
        rename_i q0
        have hb' : V.bel ρ.length (.tup q0) = true := by rw [hl]; exact hb
        rw [V.app hb', V.app hb']
  | x :: r, y :: q, h, ρ, ρ2, hl, hp, i + 1, v, hi => by
    simp only [List.getElem?_cons_succ] at hi ⊢
    have h' : okT base fr r q = true := by
      cases x with
      | none => simpa [okT] using h
      | some x =>
        cases y with
        | none => cases x <;> simp [okT] at h
        | some y => cases x <;> cases y <;> simp only [okT, Bool.and_eq_true] at h <;> first | (cases h; done) | exact h.2
    exact okT_den h' hl hp i v hi
theorem look_fr {ρ ρ2 : Env} {base : Nat} (hl : ρ.length = base) {fr : List FV} {j : Nat} {f : FV} (hj : base ≤ j) (hf : fr[j - base]? = some f) : look (ρ ++ fr.map (FV.den ρ2)) j = f.den ρ2 := by
  have : ∀ (r : Env) (q : List FV) (i : Nat), q[i]? = some f → look (r ++ q.map (FV.den ρ2)) (r.length + i) = f.den ρ2 := by
    intro r
    induction r with
    | nil =>
      intro q
      induction q with
      | nil => intro i hi; cases hi
      | cons u v ih => intro i hi; cases i with
        | zero => simp only [List.getElem?_cons_zero, Option.some.injEq] at hi; subst hi; rfl
        | succ i => simp only [List.length_nil, Nat.zero_add, List.nil_append, List.map_cons, look] at ih ⊢; exact ih i (by simpa using hi)
    | cons u v ih =>
      intro q i hi
      simp only [List.length_cons, List.cons_append]
      rw [show v.length + 1 + i = (v.length + i) + 1 by omega]
      exact ih q i hi
  have := this ρ fr (j - base) hf
  rwa [hl, show base + (j - base) = j by omega] at this
theorem partsH_den {base : Nat} {fr : List FV} {h0 : Hp} : ∀ {m l : Hp}, partsH base fr h0 m = some l → ∀ {ρ ρ2 : Env}, ρ.length = base → ρ <+: ρ2 → ∀ {R h : PH}, (hden ρ2 l).p R h → (hden (ρ ++ fr.map (FV.den ρ2)) m).p R h
  | [], l, _, _, _, _, _, _, _, _ => trivial
  | (k, c) :: r, l, e, ρ, ρ2, hl, hp, R, h, H => by
    simp only [partsH] at e
    split at e
    · cases e
    · rename_i q hq
      have ih : ∀ {x : PH}, (hden ρ2 q).p R x → (hden (ρ ++ fr.map (FV.den ρ2)) r).p R x := fun hx => partsH_den hq hl hp hx
      have same : ∀ x : Key × C, (x.1.bel base && x.2.bel base) = true → cden (ρ ++ fr.map (FV.den ρ2)) x = cden ρ2 x := fun x hb => by
        obtain ⟨z, rfl⟩ := hp
        rw [← hl] at hb
        rw [cden_app hb, cden_app hb]
      split at e
      · rename_i x ty
        split at e
        · rename_i y hy
          cases e
          have hs := List.find?_some hy
          simp only [Bool.and_eq_true] at hs
          obtain ⟨⟨hB, hk⟩, hc⟩ := hs
          have H1 := (hden_cons ρ2 y q R h).1 H
          refine (hden_cons _ _ _ _ _).2 (HP.sep_mono H1 (fun _ hh => ?_) fun _ hh => ih hh)
          obtain ⟨yk, yc⟩ := y
          cases yc with
          | cells z ty' =>
            simp only [Bool.and_eq_true, decide_eq_true_eq, Nat.blt_eq] at hc
            obtain ⟨hz, rfl⟩ := hc
            cases k with
            | a j => cases hB
            | b rr =>
              cases yk with
              | a j => cases rr <;> simp [okK] at hk
              | b rr' =>
                simp only [cden] at hh ⊢
                rw [okAs_den hz hl hp]
                have : rr.den (ρ ++ fr.map (FV.den ρ2)) = rr'.den ρ2 := by
                  cases rr with
                  | g n => simp only [okK, decide_eq_true_eq, Nat.blt_eq] at hk; subst hk; rfl
                  | v j =>
                    simp only [okK] at hk
                    split at hk
                    · rename_i hj
                      have hk' : fr[j - base]? = some (.n rr') := by simpa using hk
                      simp only [BR.den, look_fr hl hj hk', FV.den, Uni.nat_n]
                    · rename_i hj
                      have hk' : rr' = .v j := by simpa using hk
                      subst hk'
                      obtain ⟨z', rfl⟩ := hp
                      have hb : BR.bel ρ.length (.v j) = true := by simp [BR.bel]; omega
                      rw [BR.app hb, BR.app hb]
                rw [this]; exact hh
          | emap => simp at hc
          | dfr => simp at hc
          | prop j => simp at hc
        · cases e
      · split at e
        · rename_i hc
          cases e
          simp only [Bool.and_eq_true] at hc
          have H1 := (hden_cons ρ2 _ q R h).1 H
          refine (hden_cons _ _ _ _ _).2 (HP.sep_mono H1 (fun _ hh => ?_) fun _ hh => ih hh)
          rw [same _ (by simp [hc.1, C.bel])]; exact hh
        · cases e
      · split at e
        · rename_i hc
          cases e
          simp only [Bool.and_eq_true] at hc
          have H1 := (hden_cons ρ2 _ q R h).1 H
          refine (hden_cons _ _ _ _ _).2 (HP.sep_mono H1 (fun _ hh => ?_) fun _ hh => ih hh)
          rw [same _ (by simp [hc.1, C.bel])]; exact hh
        · cases e
      · rename_i j
        split at e
        · rename_i hj
          split at e
          · rename_i f q' hf
            cases e
            have H1 := hden_app2.1 H
            refine (hden_cons _ _ _ _ _).2 (HP.sep_mono H1 (fun _ hh => ?_) fun _ hh => ih hh)
            have : cden (ρ ++ fr.map (FV.den ρ2)) (k, .prop j) = hden ρ2 q' := by
              cases k <;> simp only [cden, look_fr hl hj hf, FV.den, Uni.hp_p]
            rw [this]; exact hh
          · cases e
        · rename_i hj
          split at e
          · rename_i hc
            cases e
            simp only [Bool.and_eq_true] at hc
            have H1 := (hden_cons ρ2 _ q R h).1 H
            refine (hden_cons _ _ _ _ _).2 (HP.sep_mono H1 (fun _ hh => ?_) fun _ hh => ih hh)
            rw [same _ (by simp [hc.1, C.bel]; omega)]; exact hh
          · cases e
theorem okS_ok {hd : S} {ss : List So} {fr : List FV} {ρ ρ2 : Env} {s : S} {base : Nat} (hl : ρ.length = base) (c : okS base ss hd s fr = true) (hp : ρ <+: ρ2) (ok : Ok ρ2 s a w0 w R h F) (hkn : ∀ x ∈ hd.kn, (x.1.den ρ).bool = x.2) : Ok (ρ ++ fr.map (FV.den ρ2)) hd a w0 w R h F := by
  subst hl
  simp only [okS, Bool.and_eq_true, decide_eq_true_eq, Nat.blt_eq] at c
  obtain ⟨⟨⟨⟨⟨⟨c1, c2⟩, c3⟩, c4⟩, c5⟩, c6⟩, c7, c8⟩ := c
  refine ⟨?_, ⟨by rw [ok.tm.1, okT_len c1], fun i v hi => ?_⟩, by simp [c4, c5], fun x hx => ?_, ?_, ok.sat, ok.same⟩
  · rw [ok.dfr, ← c7]
    obtain ⟨z, rfl⟩ := hp
    exact List.map_congr_left fun r hr => by unfold markOf; rw [BR.app (List.all_eq_true.1 c8 r hr), BR.app (List.all_eq_true.1 c8 r hr)]
  · obtain ⟨u, hu, he⟩ := okT_den c1 rfl hp i v hi
    rw [he]
    exact ok.tm.2 i u hu
  · rw [E.app (List.all_eq_true.1 c6 x hx)]; exact hkn x hx
  · split at c2
    · rename_i l hl
      simp only [Bool.and_eq_true] at c2
      exact partsH_den hl rfl hp (hden_sub c2.1 (fun x hx => by simpa using List.all_eq_true.1 c2.2 x hx) ok.hp)
    · cases c2
def sorted : List So → Env → Prop
  | [], [] => True
  | .n :: r, .n _ :: x => sorted r x
  | .i :: r, .i _ :: x => sorted r x
  | .c :: r, .c _ :: x => sorted r x
  | .s :: r, .s _ :: x => sorted r x
  | .a :: r, .a _ :: x => sorted r x
  | .v :: r, .v _ :: x => sorted r x
  | .p :: r, .p _ :: x => sorted r x
  | _, _ => False
theorem allP_elim : ∀ {ss : List So} {ρ : Env} {f : Env → Prop} {xs : Env}, allP ss ρ f → sorted ss xs → f (ρ ++ xs)
  | [], ρ, f, [], h, _ => by simpa [allP] using h
  | [], _, _, _ :: _, _, hs => by simp [sorted] at hs
  | t :: r, ρ, f, [], _, hs => by cases t <;> simp [sorted] at hs
  | .n :: r, ρ, f, .n x :: xs, h, hs | .i :: r, ρ, f, .i x :: xs, h, hs | .c :: r, ρ, f, .c x :: xs, h, hs | .s :: r, ρ, f, .s x :: xs, h, hs | .a :: r, ρ, f, .a x :: xs, h, hs | .v :: r, ρ, f, .v x :: xs, h, hs | .p :: r, ρ, f, .p x :: xs, h, hs => by
    have := allP_elim (h x) hs
    simpa using this
  | .n :: _, _, _, .i _ :: _, _, hs | .n :: _, _, _, .c _ :: _, _, hs | .n :: _, _, _, .s _ :: _, _, hs | .n :: _, _, _, .a _ :: _, _, hs | .n :: _, _, _, .v _ :: _, _, hs | .n :: _, _, _, .p _ :: _, _, hs
  | .i :: _, _, _, .n _ :: _, _, hs | .i :: _, _, _, .c _ :: _, _, hs | .i :: _, _, _, .s _ :: _, _, hs | .i :: _, _, _, .a _ :: _, _, hs | .i :: _, _, _, .v _ :: _, _, hs | .i :: _, _, _, .p _ :: _, _, hs
  | .c :: _, _, _, .n _ :: _, _, hs | .c :: _, _, _, .i _ :: _, _, hs | .c :: _, _, _, .s _ :: _, _, hs | .c :: _, _, _, .a _ :: _, _, hs | .c :: _, _, _, .v _ :: _, _, hs | .c :: _, _, _, .p _ :: _, _, hs
  | .s :: _, _, _, .n _ :: _, _, hs | .s :: _, _, _, .i _ :: _, _, hs | .s :: _, _, _, .c _ :: _, _, hs | .s :: _, _, _, .a _ :: _, _, hs | .s :: _, _, _, .v _ :: _, _, hs | .s :: _, _, _, .p _ :: _, _, hs
  | .a :: _, _, _, .n _ :: _, _, hs | .a :: _, _, _, .i _ :: _, _, hs | .a :: _, _, _, .c _ :: _, _, hs | .a :: _, _, _, .s _ :: _, _, hs | .a :: _, _, _, .v _ :: _, _, hs | .a :: _, _, _, .p _ :: _, _, hs
  | .v :: _, _, _, .n _ :: _, _, hs | .v :: _, _, _, .i _ :: _, _, hs | .v :: _, _, _, .c _ :: _, _, hs | .v :: _, _, _, .s _ :: _, _, hs | .v :: _, _, _, .a _ :: _, _, hs | .v :: _, _, _, .p _ :: _, _, hs
  | .p :: _, _, _, .n _ :: _, _, hs | .p :: _, _, _, .i _ :: _, _, hs | .p :: _, _, _, .c _ :: _, _, hs | .p :: _, _, _, .s _ :: _, _, hs | .p :: _, _, _, .a _ :: _, _, hs | .p :: _, _, _, .v _ :: _, _, hs => by simp [sorted] at hs
theorem so_one {ρ : Env} (f : FV) {ss : List So} {xs : Env} (h : (FV.so f).length = 1) (hs : sorted ss xs) : sorted (FV.so f ++ ss) (f.den ρ :: xs) := by
  unfold FV.so at h ⊢
  split at h <;> simp at h <;> simpa [FV.den, E.den, F1.app, F2.app, sorted] using hs
theorem fr_sorted (ρ : Env) : ∀ {fr : List FV} {ss : List So}, fr.flatMap FV.so = ss → fr.length = ss.length → sorted ss (fr.map (FV.den ρ))
  | [], ss, h, _ => by simp at h; subst h; trivial
  | f :: r, ss, h, hl => by
    have hlen : ∀ q : List FV, (q.flatMap FV.so).length ≤ q.length := fun q => by
      induction q with
      | nil => simp
      | cons g t ih =>
        simp only [List.flatMap_cons, List.length_append, List.length_cons]
        have : (FV.so g).length ≤ 1 := by unfold FV.so; split <;> simp
        omega
    have h1 : (FV.so f).length = 1 := by
      have := hlen r
      subst h
      simp only [List.flatMap_cons, List.length_append, List.length_cons] at hl
      have : (FV.so f).length ≤ 1 := by unfold FV.so; split <;> simp
      omega
    subst h
    have hr : r.length = (r.flatMap FV.so).length := by
      simp only [List.flatMap_cons, List.length_append, List.length_cons] at hl
      omega
    have ih := fr_sorted ρ (fr := r) rfl hr
    simp only [List.flatMap_cons, List.map_cons]
    exact so_one f h1 ih
end
end Go.Proofs.YtcpjdfihpdjkbaaGreatDoor.RX



namespace Go.Proofs.YtcpjdfihpdjkbaaGreatDoor.RX
open Go.Proofs.YtcpjdfihpdjkbaaGreatDoor

def Reach (c : Ctx) (K : Ex → S → T) : Exit → Act → World → Prop
  | .normal, a, w => Nx c (K .norm) a w
  | .exit id, a, w => Nx c (K (.exit id)) a w
  | .ret, a, w => Nx c (K .ret) a w
  | _, _, _ => False

section
variable {P : Program} {post : Value → HP} {w0 : World} {F : PH} {cfg : Cfg}

theorem Reach.up {K : Ex → S → T} {ρ ρ' : Env} {R R' : PH} {L L' : List (Env → Prop)} {e : Exit} {a : Act} {w : World} (p1 : ρ <+: ρ') (p2 : R.le R') (p3 : L <:+ L') (n : Reach ⟨P, post, w0, F, ρ', R', L'⟩ K e a w) : Reach ⟨P, post, w0, F, ρ, R, L⟩ K e a w := by
  cases e <;> first | exact Nx.up p1 p2 p3 n | exact n

theorem hden_unfilter {ρ : Env} (q : Key × C → Bool) {l : Hp} {R h : PH} (H : (HP.sep (hden ρ (l.filter q)) (hden ρ (l.filter fun x => !q x))).p R h) : (hden ρ l).p R h := by
  induction l generalizing h with
  | nil => trivial
  | cons x r ih =>
    rw [List.filter_cons, List.filter_cons] at H
    cases hq : q x with
    | true =>
      simp only [hq, if_true, Bool.not_true, Bool.false_eq_true, if_false] at H
      exact (hden_cons ρ x r R h).2 (HP.sep_mono (HP.sep_assoc (HP.sep_mono H (fun _ h => (hden_cons ρ x _ _ _).1 h) fun _ h => h)) (fun _ h => h) fun _ h => ih h)
    | false =>
      simp only [hq, Bool.false_eq_true, if_false, Bool.not_false, if_true] at H
      have H2 := HP.sep_comm H
      have H3 := HP.sep_assoc (HP.sep_mono H2 (fun _ h => (hden_cons ρ x _ _ _).1 h) fun _ h => h)
      exact (hden_cons ρ x r R h).2 (HP.sep_mono H3 (fun _ h => h) fun _ h => ih (HP.sep_comm h))
theorem okS_hp {hd : S} {ss : List So} {fr : List FV} {ρ ρ2 : Env} {s : S} {base : Nat} {R h : PH} (hl : ρ.length = base) (c : okS base ss hd s fr = true) (hp : ρ <+: ρ2) (H : (hden ρ2 s.h).p R h) : (hden (ρ ++ fr.map (FV.den ρ2)) hd.h).p R h := by
  simp only [okS, Bool.and_eq_true, decide_eq_true_eq, Nat.blt_eq] at c
  have c2 := c.1.1.1.1.1.2
  split at c2
  · rename_i l hl'
    simp only [Bool.and_eq_true] at c2
    exact partsH_den hl' hl hp (hden_sub c2.1 (fun x hx => by simpa using List.all_eq_true.1 c2.2 x hx) H)
  · cases c2
theorem okS_so {hd : S} {ss : List So} {fr : List FV} {s : S} {base : Nat} (c : okS base ss hd s fr = true) (ρ : Env) : sorted ss (fr.map (FV.den ρ)) ∧ fr.length = ss.length ∧ hd.n = base + ss.length := by
  simp only [okS, Bool.and_eq_true, decide_eq_true_eq, Nat.blt_eq] at c
  exact ⟨fr_sorted ρ c.1.1.1.1.2 c.1.1.1.2, c.1.1.1.2, c.1.1.2⟩
theorem sorted_len : ∀ {ss : List So} {xs : Env}, sorted ss xs → xs.length = ss.length
  | [], [], _ => rfl
  | [], _ :: _, h => by simp [sorted] at h
  | t :: r, [], h => by cases t <;> simp [sorted] at h
  | t :: r, x :: xs, h => by cases t <;> cases x <;> simp only [sorted] at h <;> first | (simp only [List.length_cons, sorted_len h]; done) | exact h.elim
theorem _root_.Go.Proofs.YtcpjdfihpdjkbaaGreatDoor.Sat.turnF {w : World} {R h F : PH} (s : Sat w R h F) {l : Nat} {x : Obj} (hb : F l = some x) (y : Obj) : Sat (w.putObj l y) R h (fun k => if k = l then some y else F k) := by
  have hR : R l = none := (s.dRF l).resolve_right (by rw [hb]; simp)
  have hh : h l = none := (s.dhF l).resolve_right (by rw [hb]; simp)
  have keep : ∀ g : PH, g.own w → g l = none → g.own (w.putObj l y) := fun g og gl k o e => by
    rw [World.putObj_heap_other (fun e' => by subst e'; rw [gl] at e; cases e)]; exact og k o e
  refine ⟨s.dRh, fun k => ?_, fun k => ?_, keep R s.oR hR, keep h s.oh hh, fun k o e => ?_, s.gl⟩
  · by_cases e : k = l
    · subst e; exact .inl hR
    · simp only [e, if_false]; exact s.dRF k
  · by_cases e : k = l
    · subst e; exact .inl hh
    · simp only [e, if_false]; exact s.dhF k
  · by_cases e' : k = l
    · subst e'
      simp only [if_true] at e
      cases e
      exact World.putObj_heap_same (s.oF.lt hb)
    · simp only [e', if_false] at e
      rw [World.putObj_heap_other e']; exact s.oF k o e
theorem _root_.Go.Proofs.YtcpjdfihpdjkbaaGreatDoor.Sat.unframe {w : World} {R h F G : PH} (s : Sat w R h F) {l : Nat} {x : Obj} (hb : F l = some x) (hG : G.le F) (hGl : G l = none) : Sat w R (h.un (PH.one l x)) G ∧ h.dj (PH.one l x) := by
  have hR : R l = none := (s.dRF l).resolve_right (by rw [hb]; simp)
  have hh : h l = none := (s.dhF l).resolve_right (by rw [hb]; simp)
  have d1 : h.dj (PH.one l x) := fun k => by
    by_cases e : k = l
    · subst e; exact .inl hh
    · exact .inr (if_neg e)
  refine ⟨⟨(PH.dj_un s.dRh.symm (fun k => ?_)).symm, s.dRF.le (PH.le.refl _) hG, PH.dj_un (s.dhF.le (PH.le.refl _) hG) (fun k => ?_), s.oR, fun k o e => ?_, s.oF.le hG, s.gl⟩, d1⟩
  · by_cases e : k = l
    · subst e; exact .inr hR
    · exact .inl (if_neg e)
  · by_cases e : k = l
    · subst e; exact .inr hGl
    · exact .inl (if_neg e)
  · rcases PH.un_some e with e | e
    · exact s.oh k o e
    · obtain ⟨rfl, rfl⟩ := PH.one_some e; exact s.oF _ _ hb
theorem Same.putObj (w : World) (l : Nat) (o : Obj) : Same w (w.putObj l o) := ⟨rfl, rfl, rfl, by simp⟩
theorem Tm.sets {ρ : Env} : ∀ (l : List (Tmp × W)) {t : List (Option V)} {a : Act}, Tm ρ t a →
    Tm ρ (l.foldl (fun t x => t.set x.1 (some (.w x.2))) t) { a with tmps := (l.map fun x => (x.1, x.2.den ρ)).foldl (fun ts x => ts.setIfInBounds x.1 x.2) a.tmps }
  | [], _, _, h => h
  | (d, x) :: r, t, a, h => by
    have := Tm.sets r (h.put d (.w x))
    simpa [Act.put, V.den] using this
theorem zip_args {ps : Array Tmp} {pvs : List W} {ρ : Env} {ts : Array Value} : (ps.zip (pvs.map (W.den ρ)).toArray).foldl (fun tmps (x : Tmp × Value) => tmps.setIfInBounds x.1 x.2) ts = ((ps.toList.zip pvs).map fun x => (x.1, x.2.den ρ)).foldl (fun ts x => ts.setIfInBounds x.1 x.2) ts := by
  rw [← Array.foldl_toList]
  congr 1
  rw [Array.toList_zip]
  simp only
  rw [List.zip_map_right]
  exact List.map_congr_left fun x _ => rfl

theorem wpIn_loop_num {Fr : Fence} {n' : Nat} {Q : Exit → Act → World → Prop} {c : Code} (I : Nat → Act → World → Prop)
    (round : ∀ n a w, I n a w → c.wpIn Fr n' P (Exit.then (fun a' w' => ∃ m, m < n ∧ I m a' w') Q) a w) : ∀ n a w, I n a w → (Code.loop c).wpIn Fr n' P Q a w := by
  intro n₀ a₀ w₀ h₀ b k cs hro hb hr
  have key : ∀ n a w, I n a w → ∃ e a' w', Q e a' w' ∧ ArrivesIn (Machine.fenced P Fr) P (lone (b.atR a (.code c :: .inLoop c :: k)) cs w) b k cs e a' w' := by
    intro n
    induction n using Nat.strongRecOn with
    | _ n ih =>
      intro a w hI
      obtain ⟨e, a₁, w₁, hq, harr⟩ := round n a w hI b (.inLoop c :: k) cs hro hb hr
      cases e with
      | normal =>
        obtain ⟨m, hm, hI₁⟩ := hq
        obtain ⟨e₂, a₂, w₂, hq₂, harr₂⟩ := ih m hm a₁ w₁ hI₁
        exact ⟨e₂, a₂, w₂, hq₂, .of_steps (StepsIn.trans harr (.one (fenced_calm hb hr rfl) stepR_inLoop)) harr₂⟩
      | exit id => exact ⟨_, a₁, w₁, hq, .pass (x := .inLoop c) rfl (fun _ _ => .inl (by simp)) harr⟩
      | goto l => exact ⟨_, a₁, w₁, hq, .pass (x := .inLoop c) rfl (fun _ _ => .inl (by simp)) harr⟩
      | ret => exact ⟨_, a₁, w₁, hq, .pass (x := .inLoop c) rfl (fun _ _ => .inl (by simp)) harr⟩
      | panic ch => exact ⟨_, a₁, w₁, hq, .pass (x := .inLoop c) rfl (fun _ _ => .inl (by simp)) harr⟩
      | outgrown => exact ⟨_, a₁, w₁, hq, .pass (x := .inLoop c) rfl (fun _ _ => .inl (by simp)) harr⟩
  obtain ⟨e, a', w', hq, harr⟩ := key n₀ a₀ w₀ h₀
  exact ⟨e, a', w', hq, .of_steps (.one (fenced_calm hb hr rfl) stepR_loop) harr⟩

def IH (P : Program) (cfg : Cfg) (post : Value → HP) (c : Code) : Prop := ∀ {Fr : Fence} (_ : WF Fr) {rd : Bool} (_ : rd = false → Fr = Fence.wide) {w0 : World} {F : PH} {K : Ex → S → T} {ρ : Env} {s : S} {a : Act} {w : World} {R h : PH} {L : List (Env → Prop)}, Ok ρ s a w0 w R h F → L.length = s.dp → (exec P cfg rd c s K).den P post L ρ →
    c.wpIn Fr 0 P (Reach ⟨P, post, w0, F, ρ, R, L⟩ K) a w
set_option maxHeartbeats 1000000 in
theorem range_ok {g : Operand} {ps : Array Tmp} {asg b : Code} (iha : IH P cfg post asg) (ihb : IH P cfg post b) {K : Ex → S → T} {ρ : Env} {s : S} {a : Act} {w : World} {R h : PH} {L : List (Env → Prop)} (ok : Ok ρ s a w0 w R h F) (hl : L.length = s.dp)
    {gv : A} (hgv : evA s g = some gv) (hok : (rgOf P cfg s gv).ok gv false s ps.toList = true) (hd : (let r := rgOf P cfg s gv
        T.new (.rangef gv r.c (r.hd.s.h.filter fun x => r.shk.contains x.1) r.hd.ss r.fr r.pss r.pvs r.pch
          (exec P cfg true asg (r.round ps.toList) fun x sA => match x with
            | .norm => exec P cfg true b sA fun x s2 => match x with
              | .norm =>
                let fr2 := fitS r.s1.n r.hd.s (r.endS s2)
                if okS r.s1.n r.hd.ss r.hd.s (r.endS s2) fr2 then .again (s2.dp - r.hd.s.dp) fr2 else .all (.fail (8000 + s.blk)) (.ret (.tup []) (diffH r.s1.n fr2 s2.h r.hd.s.h))
              | x => K x (r.leftS s2)
            | _ => .fail 84)
          (K .norm (r.doneS s)))).den P post L ρ) :
    (Code.rangeFunc g ps asg b).wpIn Fence.wide 0 P (Reach ⟨P, post, w0, F, ρ, R, L⟩ K) a w := by
  have wfw : WF Fence.wide := .inl rfl
  refine wpIn_rangeFunc fun fn _ => ?_
  obtain ⟨γ, Sh, Pr, may, fin, g0, I, ⟨f, caps, hgval, hfgo, htri⟩, hI0, hSh, hrnd, hfin⟩ := hd w.heap.size
  simp only [Rg.ok, Bool.not_false, Bool.true_and, Bool.and_eq_true, decide_eq_true_eq, Nat.blt_eq] at hok
  obtain ⟨⟨⟨⟨⟨⟨hgb, hcb0⟩, hsb⟩, hokS⟩, hhbel⟩, hpn⟩, hpl⟩ := hok
  have et : (rgOf P cfg s gv).hd.s.t = s.t := rfl
  have ek : (rgOf P cfg s gv).hd.s.kn = s.kn := rfl
  have ed : (rgOf P cfg s gv).hd.s.dp = s.dp + 1 := rfl
  have edf : (rgOf P cfg s gv).hd.s.df = [] := rfl
  have es1 : (rgOf P cfg s gv).s1 = { s with n := s.n + 1, h := (.b (.v s.n), .dfr) :: s.h, df := .v s.n :: s.df } := rfl
  have ec : (rgOf P cfg s gv).c = (rgOf P cfg s gv).s1.h.filter fun x => (reach s.h s.lk 60 (keysA gv) []).contains x.1 && !(rgOf P cfg s gv).shk.contains x.1 := rfl
  have er : (rgOf P cfg s gv).rest = (rgOf P cfg s gv).s1.h.filter fun x => !((reach s.h s.lk 60 (keysA gv) []).contains x.1 && !(rgOf P cfg s gv).shk.contains x.1) := rfl
  generalize hr : rgOf P cfg s gv = r at *
  -- the two blocks
  let d := w.heap.size
  let ρ1 : Env := ρ ++ [.n d]
  have hρ1 : ρ1.length = s.n + 1 := by simp [ρ1, ok.len]
  have k1 : Ok ρ1 { s with n := s.n + 1 } a w0 w R h F := ok.app hsb [.n d] (s.n + 1) rfl
  let rec0 : Loop := { state := .ready, pending := none, fn, tmps := a.tmps, params := ps, assign := asg, body := b, defers := d }
  let w1 := (w.alloc (.deferred (some []))).alloc (.loop rec0)
  let l := d + 1
  have el : (w.alloc (.deferred (some []))).heap.size = l := by rw [World.size_alloc]
  obtain ⟨sd, dd⟩ := ok.sat.alloc (.deferred (some []))
  have hpd : (hden ρ1 r.s1.h).p R ((PH.one d (.deferred (some []))).un h) := by
    rw [es1]
    refine (hden_cons _ _ _ _ _).2 ⟨PH.one d _, h, dd, PH.un_left _ _, PH.un_right dd, ?_, k1.hp⟩
    show (PH.one d _) (BR.den ρ1 (.v s.n)) = _
    have : BR.den ρ1 (.v s.n) = d := by simp only [BR.den, ρ1]; rw [← ok.len, look_at]; rfl
    rw [this]; exact PH.one_self _ _
  obtain ⟨sl, dl⟩ := sd.alloc (.loop rec0)
  rw [el] at sl dl
  have hcut := hden_filter (fun x => (reach s.h s.lk 60 (keysA gv) []).contains x.1 && !r.shk.contains x.1) hpd
  rw [← ec, ← er] at hcut
  have hrn : r.s1.n = s.n + 1 := by rw [es1]
  -- what a round begins with
  let Kx : γ → HP := fun g => HP.ex fun ys : Env => HP.and (sorted r.hd.ss ys ∧ Cur.app r.hd.ss (I g) ys) (HP.sep (hden (ρ1 ++ ys) (r.hd.s.h.filter fun x => !r.shk.contains x.1)) (HP.one l (.loop rec0)))
  have toK : ∀ g ys R h, sorted r.hd.ss ys → Cur.app r.hd.ss (I g) ys → (HP.sep (hden (ρ1 ++ ys) r.hd.s.h) (HP.one l (.loop rec0))).p R h → (HP.sep (Sh g) (Kx g)).p R h := fun g ys R h hso hI H => by
    have e := allP_elim (hSh g) hso
    rw [show ρ ++ [Uni.n w.heap.size] = ρ1 from rfl, List.drop_left] at e
    rw [e hI]
    exact HP.sep_mono (HP.sep_assoc (HP.sep_mono H (fun _ h => hden_filter (fun x => r.shk.contains x.1) h) fun _ h => h)) (fun _ h => h) fun _ h => ⟨ys, ⟨hso, hI⟩, h⟩
  have ofK : ∀ g R h, (HP.sep (Sh g) (Kx g)).p R h → ∃ ys, sorted r.hd.ss ys ∧ Cur.app r.hd.ss (I g) ys ∧ (HP.sep (hden (ρ1 ++ ys) r.hd.s.h) (HP.one l (.loop rec0))).p R h := fun g R h ⟨h1, h2, dj, l1, l2, hs, ys, ⟨hso, hI⟩, hk⟩ => by
    have e := allP_elim (hSh g) hso
    rw [show ρ ++ [Uni.n w.heap.size] = ρ1 from rfl, List.drop_left] at e
    rw [e hI] at hs
    exact ⟨ys, hso, hI, HP.sep_mono (HP.sep_assoc' ⟨h1, h2, dj, l1, l2, hs, hk⟩) (fun _ h => hden_unfilter (fun x => r.shk.contains x.1) h) fun _ h => h⟩
  -- what a round that leaves the loop leaves
  let Jx : HP := HP.ex fun z : (Code × Ex) × Env × S × List (Env → Prop) => HP.and ((z.1 = (.ret, .ret) ∨ ∃ id, z.1 = (.exit id, .exit id)) ∧ ρ1 <+: z.2.1 ∧ z.2.1.length = z.2.2.1.n ∧ L <:+ z.2.2.2 ∧ z.2.2.2.length = z.2.2.1.dp ∧ (∀ x ∈ z.2.2.1.kn, (x.1.den z.2.1).bool = x.2) ∧ (K z.1.2 (r.leftS z.2.2.1)).den P post z.2.2.2 z.2.1)
    (HP.sep (hden z.2.1 z.2.2.1.h) (HP.one l (.loop { rec0 with state := .done, pending := some z.1.1 })))
  have hround : ∀ g args, (∃ g', may g args g') → VTri P (.func (.yield l) #[] #[]) args (HP.sep (Pr g args) (HP.sep (Sh g) (Kx g))) (RndPost Sh Kx Jx (may g args)) := fun gg args hmay => by
    refine .inr ⟨l, rfl, fun wr Rr hr0 Fr' satr hpre => ?_⟩
    obtain ⟨ha, hb0, dab, la, lb, hPr, hSK⟩ := hpre
    obtain ⟨ys, hso, hI, hH⟩ := ofK gg Rr hb0 hSK
    have hrr := allP_elim (hrnd gg args hmay) hso
    rw [show ρ ++ [Uni.n w.heap.size] = ρ1 from rfl, List.drop_left] at hrr
    obtain ⟨zs, hzl, hargs, hent, hden2⟩ := exP_elim (hrr hI)
    obtain ⟨R2, h2, q1, q2, q3, q4, hS⟩ := hent.sep (HP.sep (hden (ρ1 ++ ys) r.hd.s.h) (HP.one l (.loop rec0))) Rr hr0 satr.dRh ⟨ha, hb0, dab, la, lb, hPr, hH⟩
    have satr2 := satr.ent q1 q2 q3 q4
    obtain ⟨hx, hlr, dx, lx, llr, hPH, hone⟩ := HP.sep_assoc' hS
    have sat3 := satr2.cut dx lx llr
    have hdjF : hlr.dj Fr' := satr2.dhF.le llr (PH.le.refl _)
    have hone' : hlr l = some (.loop rec0) := hone
    have hFl : (hlr.un Fr') l = some (.loop rec0) := PH.un_left _ _ _ _ hone'
    have hFr'l : Fr' l = none := (hdjF l).resolve_left (by rw [hone']; simp)
    have hleF : Fr'.le (hlr.un Fr') := PH.un_right hdjF
    have hheap : wr.heap[l]? = some (.loop rec0) := sat3.oF _ _ hFl
    have hsz : args.size = rec0.params.size := by
      rw [hargs]; simp [rec0, hpl]
    refine ⟨_, _, _, _, run_yield hheap hsz, ?_⟩
    refine roundIn_of_wpIn trivial ?_
    have hys : (ρ1 ++ ys).length = r.hd.s.n := by
      rw [List.length_append, hρ1, sorted_len hso, (okS_so hokS ρ1).2.2, hrn]
    have hbs := hsb
    simp only [S.bel, Bool.and_eq_true] at hbs
    have okh : Ok (ρ1 ++ ys) r.hd.s { tmps := a.tmps, defers := [] } wr wr R2 hx (hlr.un Fr') := by
      have tmb : (s.t.all fun | some v => v.bel ρ.length | none => true) = true := by rw [ok.len]; exact hbs.1.1.1
      refine ⟨by rw [edf]; rfl, ?_, hys, fun x hx => ?_, ?_, sat3, Same.refl _⟩
      · rw [et]
        have := ok.tm.app tmb ([.n d] ++ ys)
        rw [← List.append_assoc] at this
        exact ⟨this.1, this.2⟩
      · rw [ek] at hx
        have hb := List.all_eq_true.1 hbs.2 x hx
        rw [← ok.len] at hb
        have : (x.1.den (ρ ++ ([.n d] ++ ys))).bool = x.2 := by rw [E.app hb]; exact ok.kn x hx
        rwa [← List.append_assoc] at this
      · exact HP.sep_right hPH
    have okz := okh.app hhbel zs r.pn (hpn.trans (by rw [hzl]))
    have okr : Ok (ρ1 ++ ys ++ zs) (r.round ps.toList) { tmps := (rec0.params.zip args).foldl (fun tmps x => tmps.setIfInBounds x.1 x.2) rec0.tmps, defers := [] } wr wr R2 hx (hlr.un Fr') := by
      refine ⟨okz.dfr, ?_, okz.len, okz.kn, ?_, sat3, Same.refl _⟩
      · rw [hargs, zip_args]
        exact Tm.sets (ps.toList.zip r.pvs) okz.tm
      · refine hden_app2.2 (HP.sep_mono hPH (fun _ h => h) fun y hy => ?_)
        have hb := hhbel
        simp only [S.bel, Bool.and_eq_true] at hb
        have hb2 : hbel (ρ1 ++ ys).length r.hd.s.h = true := by rw [hys]; exact hb.1.1.2
        rw [hden_app hb2]; exact hy
    refine wpIn_mono (iha (Fr := Fence.wide.inRound l) (.inr ⟨l, rfl⟩) (rd := true) (fun h => by cases h) okr (by show _ = r.hd.s.dp; rw [ed, List.length_cons, hl]) hden2) fun e a1 w3 rr => ?_
    cases e with
    | normal =>
      obtain ⟨ρ3, s3, R3, h3, L3, p1, p2, p3, p4, p5, p6⟩ := rr
      simp only at p1 p2 p3 p4 p5 p6
      refine ⟨_, run_beginRound (p5.sat.oF _ _ hFl) rfl, ?_⟩
      have sat4 := p5.sat.turnF hFl (.loop { rec0 with state := .busy })
      have ok4 : Ok ρ3 s3 a1 wr (w3.putObj l (.loop { rec0 with state := .busy })) R3 h3 _ := ⟨p5.dfr, p5.tm, p5.len, p5.kn, p5.hp, sat4, p5.same.trans (Same.putObj _ _ _)⟩
      have hF4 : ∀ y : Obj, (fun k => if k = l then some y else (hlr.un Fr') k) l = some y := fun y => if_pos rfl
      have hle4 : ∀ y : Obj, Fr'.le (fun k => if k = l then some y else (hlr.un Fr') k) := fun y k o e => by
        by_cases ek : k = l
        · subst ek; rw [hFr'l] at e; cases e
        · simp only [ek, if_false]; exact hleF k o e
      refine wpIn_mono (ihb (Fr := Fence.wide.inRound l) (.inr ⟨l, rfl⟩) (rd := true) (fun h => by cases h) ok4 p4 p6) fun e a2 w5 rr => ?_
      have back : ∀ {ρ5 s5 R5 h5}, Ok ρ5 s5 a2 wr w5 R5 h5 (fun k => if k = l then some (.loop { rec0 with state := .busy }) else (hlr.un Fr') k) → ∀ y : Obj, Sat (w5.putObj l y) R5 (h5.un (PH.one l y)) Fr' ∧ h5.dj (PH.one l y) := fun ok5 y => by
        have := ok5.sat.turnF (hF4 _) y
        refine this.unframe (if_pos rfl) (fun k o e => ?_) hFr'l
        by_cases ek : k = l
        · subst ek; rw [hFr'l] at e; cases e
        · simp only [ek, if_false]; exact hleF k o e
      cases e with
      | normal =>
        obtain ⟨ρ5, s5, R5, h5, L5, q1', q2', q3', q4', q5', q6'⟩ := rr
        simp only at q1' q2' q3' q4' q5' q6'
        split at q6'
        · rename_i hc2
          refine ⟨_, _, run_endRound none (q5'.sat.oF _ _ (hF4 _)), ?_⟩
          obtain ⟨sat6, d6⟩ := back q5' (.loop { ({ rec0 with state := .busy } : Loop) with state := if (none : Option Code).isNone then .ready else .done, pending := none })
          refine ⟨_, rfl, q5'.same.trans (Same.putObj _ _ _), R5, _, q1.trans (p2.trans q2'), sat6, ?_⟩
          obtain ⟨pre, hpre⟩ := p3.trans q3'
          have hlen : s5.dp - r.hd.s.dp = pre.length := by
            have : L5.length = pre.length + (L.length + 1) := by rw [← hpre]; simp
            rw [ed]; omega
          have hget : L5[s5.dp - r.hd.s.dp]? = some (fun ys => ∃ g', may gg args g' ∧ Cur.app r.hd.ss (I g') ys) := by
            rw [hlen, ← hpre, List.getElem?_append_right (Nat.le_refl _), Nat.sub_self]; rfl
          simp only [T.den, hget] at q6'
          obtain ⟨g', hmay', hI'⟩ := q6'
          have p15 : ρ1 <+: ρ5 := List.IsPrefix.trans (show ρ1 <+: ρ1 ++ ys ++ zs from ⟨ys ++ zs, (List.append_assoc ..).symm⟩) (p1.trans q1')
          refine ⟨true, rfl, g', hmay', toK g' _ _ _ (okS_so hc2 ρ5).1 hI' ⟨h5, PH.one l _, d6, PH.un_left _ _, PH.un_right d6, ?_, ?_⟩⟩
          · exact okS_hp (hρ1.trans hrn.symm) hc2 p15 q5'.hp
          · exact PH.one_self _ _
        · exact q6'.1.elim
      | ret =>
        obtain ⟨ρ5, s5, R5, h5, L5, q1', q2', q3', q4', q5', q6'⟩ := rr
        simp only at q1' q2' q3' q4' q5' q6'
        refine ⟨_, _, run_endRound (some .ret) (q5'.sat.oF _ _ (hF4 _)), ?_⟩
        obtain ⟨sat6, d6⟩ := back q5' (.loop { ({ rec0 with state := .busy } : Loop) with state := if (some Code.ret : Option Code).isNone then .ready else .done, pending := some .ret })
        have p15 : ρ1 <+: ρ5 := List.IsPrefix.trans (show ρ1 <+: ρ1 ++ ys ++ zs from ⟨ys ++ zs, (List.append_assoc ..).symm⟩) (p1.trans q1')
        refine ⟨_, rfl, q5'.same.trans (Same.putObj _ _ _), R5, _, q1.trans (p2.trans q2'), sat6, false, rfl, ((.ret, .ret), ρ5, s5, L5), ⟨.inl rfl, p15, q5'.len, (List.suffix_cons _ _).trans (p3.trans q3'), q4', q5'.kn, q6'⟩, h5, PH.one l _, d6, PH.un_left _ _, PH.un_right d6, q5'.hp, PH.one_self _ _⟩
      | exit id =>
        obtain ⟨ρ5, s5, R5, h5, L5, q1', q2', q3', q4', q5', q6'⟩ := rr
        simp only at q1' q2' q3' q4' q5' q6'
        refine ⟨_, _, run_endRound (some (.exit id)) (q5'.sat.oF _ _ (hF4 _)), ?_⟩
        obtain ⟨sat6, d6⟩ := back q5' (.loop { ({ rec0 with state := .busy } : Loop) with state := if (some (Code.exit id) : Option Code).isNone then .ready else .done, pending := some (.exit id) })
        have p15 : ρ1 <+: ρ5 := List.IsPrefix.trans (show ρ1 <+: ρ1 ++ ys ++ zs from ⟨ys ++ zs, (List.append_assoc ..).symm⟩) (p1.trans q1')
        refine ⟨_, rfl, q5'.same.trans (Same.putObj _ _ _), R5, _, q1.trans (p2.trans q2'), sat6, false, rfl, ((.exit id, .exit id), ρ5, s5, L5), ⟨.inr ⟨id, rfl⟩, p15, q5'.len, (List.suffix_cons _ _).trans (p3.trans q3'), q4', q5'.kn, q6'⟩, h5, PH.one l _, d6, PH.un_left _ _, PH.un_right d6, q5'.hp, PH.one_self _ _⟩
      | goto t => exact rr.elim
      | panic c => exact rr.elim
      | outgrown => exact rr.elim
    | ret => obtain ⟨ρ3, s3, R3, h3, L3, p1, p2, p3, p4, p5, p6⟩ := rr; exact p6.elim
    | exit id => obtain ⟨ρ3, s3, R3, h3, L3, p1, p2, p3, p4, p5, p6⟩ := rr; exact p6.elim
    | goto t => exact rr.elim
    | panic c => exact rr.elim
    | outgrown => exact rr.elim
  -- the call
  have hpre : (HP.sep (hden ρ1 r.c) (HP.sep (Sh g0) (Kx g0))).p R ((PH.one l (.loop rec0)).un ((PH.one d (.deferred (some []))).un h)) := by
    have H0 : (HP.sep (HP.one l (.loop rec0)) (HP.sep (hden ρ1 r.c) (hden ρ1 r.rest))).p R ((PH.one l (.loop rec0)).un ((PH.one d (.deferred (some []))).un h)) :=
      ⟨PH.one l _, _, dl, PH.un_left _ _, PH.un_right dl, PH.one_self _ _, hcut⟩
    refine HP.sep_mono (HP.sep_assoc (HP.sep_comm H0)) (fun _ h => h) fun y hy => ?_
    exact toK g0 (r.fr.map (FV.den ρ1)) R y (okS_so hokS ρ1).1 hI0 (HP.sep_mono hy (fun _ h => okS_hp (s := r.start) (hρ1.trans hrn.symm) hokS (List.prefix_refl _) h) fun _ h => h)
  have hfn := hfgo
  obtain ⟨fnn, hfn1, hfn2, hfn3⟩ := hfn
  refine ⟨l, [{ target := .collected d, args := #[] }], w1, { target := .fn (.func f) caps, args := #[.func (.yield l) #[] #[]] }, w1, f, #[.func (.yield l) #[] #[]] ++ caps, w1, ?_, ?_, fun _ _ => trivial, ?_, wfw.dep, ?_⟩
  · exact run_enterLoop_outer fn a.tmps ps asg b
  · have hgd : a.eval g = .func (.func f) #[] caps := by
      rw [evA_den ok.tm hgv]
      rw [← ok.len] at hgb
      rw [← A.app hgb [.n d]]
      exact hgval
    simp only [resolve, rangeCall, hgd, Sem.run_bind, Deferred.ofValue, Sem.run_pure, Result.andThen_ok]
    simp [Act.eval]
  · simp only [invoke, callFunc, program, Sem.run_bind, Sem.run, Result.andThen_ok, hfn1, hfn3, hfn2, Bool.false_eq_true, if_false]
    rfl
  refine wfw.calls ((htri l Kx Jx hround w1 R _ F sl hpre).mono fun e w' ⟨v, he, sm, R', h', lR, sat', hpost⟩ => ?_)
  subst he
  have same' : Same w0 w' := ok.same.trans ((Same.alloc w _).trans ((Same.alloc _ _).trans sm))
  have hdfr : ∀ x : Env, ({ a with defers := [({ target := .collected d, args := #[] } : Deferred)] ++ a.defers } : Act).defers = r.s1.df.map (markOf (ρ1 ++ x)) := fun x => by
    rw [es1]
    simp only [List.map_cons, List.cons_append, List.nil_append]
    have e1 : markOf (ρ1 ++ x) (.v s.n) = { target := .collected d, args := #[] } := by
      simp only [markOf, BR.den, ρ1, List.append_assoc, List.cons_append, List.nil_append]
      rw [← ok.len, look_at]; rfl
    rw [e1, k1.dfr]
    congr 1
    have hb := hsb
    simp only [S.bel, Bool.and_eq_true] at hb
    exact List.map_congr_left fun q hq => by
      have := List.all_eq_true.1 hb.1.2 q hq
      rw [← ok.len] at this
      unfold markOf
      simp only [ρ1, List.append_assoc]
      rw [BR.app this, BR.app this]
  have htm : ∀ x : Env, Tm (ρ1 ++ x) s.t { a with defers := [({ target := .collected d, args := #[] } : Deferred)] ++ a.defers } := fun x => by
    have hb := hsb
    simp only [S.bel, Bool.and_eq_true] at hb
    have tmb : (s.t.all fun | some v => v.bel ρ.length | none => true) = true := by rw [ok.len]; exact hb.1.1.1
    have := ok.tm.app tmb ([.n d] ++ x)
    rw [← List.append_assoc] at this
    exact ⟨this.1, this.2⟩
  have hcb : ∀ x : Env, hden (ρ1 ++ x) r.c = hden ρ1 r.c := fun x => hden_app (by rw [hρ1, ← hrn]; exact hcb0) x
  obtain ⟨hc, hs, dcs, lc, ls, hC, o, ho⟩ := hpost
  -- the record is let go
  have drop : ∀ {A : HP} {o2 : Loop} {R2}, (HP.sep A (HP.one l (.loop o2))).p R' hs → R2 = R' → ∀ y, ∃ hA, A.p R' hA ∧ w'.heap[l]? = some (.loop o2) ∧ Sat (w'.putObj l y) R' (hc.un hA) F ∧ hc.dj hA := fun H _ y => by
    obtain ⟨hA, hL, dA, lA, lL, pA, pL⟩ := H
    have hLl : hL l = some (.loop _) := pL
    have hin : h' l = some (.loop _) := ls _ _ (lL _ _ hLl)
    have hcl : hc l = none := (dcs l).resolve_right (by rw [lL _ _ hLl]; simp)
    have hAl : hA l = none := (dA l).resolve_right (by rw [hLl]; simp)
    have heap := sat'.oh _ _ hin
    refine ⟨hA, pA, heap, ?_, dcs.le (PH.le.refl _) lA⟩
    have t := sat'.turn (w' := w'.putObj l y) (y := y) hin (fun k hk => World.putObj_heap_other hk) (World.putObj_heap_same (sat'.oh.lt hin))
    have le : (hc.un hA).le (fun k => if k = l then some y else h' k) := fun k o e => by
      by_cases ek : k = l
      · subst ek
        rcases PH.un_some e with e | e
        · rw [hcl] at e; cases e
        · rw [hAl] at e; cases e
      · simp only [ek, if_false]
        rcases PH.un_some e with e | e
        · exact lc _ _ e
        · exact ls _ _ (lA _ _ e)
    exact ⟨t.dRh.le (PH.le.refl _) le, t.dRF, t.dhF.le le (PH.le.refl _), t.oR, t.oh.le le, t.oF, t.gl⟩
  cases o with
  | some gg =>
    obtain ⟨hf, hSK⟩ := ho
    obtain ⟨ys, hso, hI, hH⟩ := ofK gg R' hs hSK
    obtain ⟨hA, pA, heap, sat2, dA⟩ := drop hH rfl (.loop { rec0 with state := .exhausted })
    refine ⟨none, _, run_endLoop heap (by simp [rec0]), ?_⟩
    have hden3 := allP_elim (hfin gg hf) hso
    rw [show ρ ++ [Uni.n w.heap.size] = ρ1 from rfl, List.drop_left] at hden3
    have hys : (ρ1 ++ ys).length = r.hd.s.n := by
      rw [List.length_append, hρ1, sorted_len hso, (okS_so hokS ρ1).2.2, hrn]
    refine ⟨ρ1 ++ ys, r.doneS s, R', _, L, (List.prefix_append ρ _).trans (List.prefix_append _ _), lR, List.suffix_refl _, hl, ⟨hdfr ys, by show Tm _ r.hd.s.t _; rw [et]; exact htm ys, hys, fun x hx => ?_, ?_, sat2, same'.trans (Same.putObj _ _ _)⟩, hden3 hI⟩
    · have hx' : x ∈ s.kn := by rw [← ek]; exact hx
      have hb := hsb
      simp only [S.bel, Bool.and_eq_true] at hb
      have hb := List.all_eq_true.1 hb.2 x hx'
      rw [← ok.len] at hb
      simp only [ρ1, List.append_assoc]
      rw [E.app hb]; exact ok.kn x hx'
    · refine hden_app2.2 ⟨hc, hA, dA, PH.un_left _ _, PH.un_right dA, ?_, pA⟩
      rw [hcb]; exact hC
  | none =>
    obtain ⟨⟨⟨code, x⟩, ρ5, s5, L5⟩, ⟨hj, p15, q5len, q3, q4, q5kn, q6⟩, hH⟩ := ho
    simp only at hj p15 q5len q3 q4 q5kn q6 hH
    obtain ⟨hA, pA, heap, sat2, dA⟩ := drop hH rfl (.loop { rec0 with state := .exhausted, pending := some code })
    refine ⟨some code, _, run_endLoop heap (by simp [rec0]), ?_⟩
    obtain ⟨z5, hz5⟩ := p15
    have okl : Ok ρ5 (r.leftS s5) { a with defers := [({ target := .collected d, args := #[] } : Deferred)] ++ a.defers } w0 (w'.putObj l (.loop { rec0 with state := .exhausted, pending := some code })) R' (hc.un hA) F := by
      refine ⟨by rw [← hz5]; exact hdfr z5, by show Tm ρ5 r.s1.t _; rw [es1, ← hz5]; exact htm z5, q5len, q5kn, hden_app2.2 ⟨hc, hA, dA, PH.un_left _ _, PH.un_right dA, by rw [← hz5, hcb]; exact hC, pA⟩, sat2, same'.trans (Same.putObj _ _ _)⟩
    rcases hj with ⟨⟨⟩⟩ | ⟨id, ⟨⟨⟩⟩⟩
    · exact wpIn_ret ⟨ρ5, r.leftS s5, R', _, L5, (List.prefix_append ρ _).trans ⟨z5, hz5⟩, lR, q3, q4, okl, q6⟩
    · exact wpIn_exit ⟨ρ5, r.leftS s5, R', _, L5, (List.prefix_append ρ _).trans ⟨z5, hz5⟩, lR, q3, q4, okl, q6⟩
theorem joinQ_ok {k : Nat × Nat} {run : S → (S → T) → T} {K : S → T} {ρ : Env} {s : S} {a : Act} {w : World} {R h : PH} {L : List (Env → Prop)} {G : Prop} (ok : Ok ρ s a w0 w R h F) (hl : L.length = s.dp)
    (hrun : ∀ (dp : Nat) (L' : List (Env → Prop)) (K' : S → T), L'.length = dp → L <:+ L' → (run { s with dp := dp } K').den P post L' ρ → (∀ a w, Nx ⟨P, post, w0, F, ρ, R, L'⟩ K' a w → Nx ⟨P, post, w0, F, ρ, R, L⟩ K a w) → G)
    (hd : (joinQ cfg k s run K).den P post L ρ) : G := by
  unfold joinQ at hd
  split at hd
  · rename_i j hj
    obtain ⟨I, hreg, hk⟩ := hd
    refine hrun (s.dp + 1) _ _ (by simp [hl]) (List.suffix_cons _ _) hreg fun a' w' nx => ?_
    obtain ⟨ρ', s', R', h', L', p1, p2, p3, p4, p5, p6⟩ := nx
    dsimp only at p1 p2 p3 p4 p5 p6
    split at p6
    · exact p6.1.elim
    · rename_i hask
      rw [if_neg hask] at hk
      split at p6
      · rename_i hc
        obtain ⟨pre, rfl⟩ := p3
        rw [List.length_append, List.length_cons] at p4
        have hd' : s'.dp - (s.dp + 1) = pre.length := by omega
        simp only [T.den, hd', List.getElem?_append_right (Nat.le_refl _), Nat.sub_self, List.getElem?_cons_zero] at p6
        have hso := (okS_so hc ρ').1
        have hkk := allP_elim hk hso
        rw [List.drop_left] at hkk
        have hokS := okS_ok ok.len hc p1 p5 (fun x hx => ok.kn x hx)
        exact ⟨_, j.toS s, R', h', L, List.prefix_append ρ _, p2, List.suffix_refl _, hl, hokS, hkk p6⟩
      · exact p6.1.elim
  · exact hrun s.dp L K hl (List.suffix_refl _) hd fun _ _ n => n
theorem stepR_scope {P : Program} {b : Frame} {a : Act} {k : List Item} {cs : List Frame} {w : World} {c : Code} : step P (lone (b.atR a (.code (.scope c) :: k)) cs w) = .next (lone (b.atR a (.code c :: .inScope c :: k)) cs w) :=
  step_lone_go (by simp [stepG, stepG.exec, Frame.atR])
theorem stepR_inScope {P : Program} {b : Frame} {a : Act} {k : List Item} {cs : List Frame} {w : World} {c : Code} : step P (lone (b.atR a (.inScope c :: k)) cs w) = .next (lone (b.atR a k) cs w) :=
  step_lone_go (by simp [stepG, stepG.exec, Frame.atR])
theorem wpIn_scope {P : Program} {F : Fence} {n : Nat} {Q : Exit → Act → World → Prop} {a : Act} {w : World} {c : Code} (h : c.wpIn F n P (fun e a w => match e with | .goto _ => False | e => Q e a w) a w) : (Code.scope c).wpIn F n P Q a w := by
  intro b k cs hro hb hr
  have h0 : (lone (b.atR a (.code (.scope c) :: k)) cs w).fenced P F := fenced_calm hb hr rfl
  obtain ⟨e, a₁, w₁, hq, harr⟩ := h b (.inScope c :: k) cs hro hb hr
  cases e with
  | normal => exact ⟨.normal, a₁, w₁, hq, .head h0 stepR_scope (StepsIn.trans harr (.one (fenced_calm hb hr rfl) stepR_inScope))⟩
  | exit id =>
    have hx : exitTo id (.inScope c :: k) = exitTo id k := by simp [exitTo]
    exact ⟨.exit id, a₁, w₁, hq, fun k' hk => .head h0 stepR_scope (harr.1 k' (by rw [hx]; exact hk)),
      fun hr' hk => let ⟨k₁, h1, h2⟩ := harr.2 hr' (by rw [hx]; exact hk); ⟨k₁, h1, .head h0 stepR_scope h2⟩⟩
  | goto l => exact hq.elim
  | ret => exact ⟨_, a₁, w₁, hq, .of_steps (.one h0 stepR_scope) harr⟩
  | panic ch => exact ⟨_, a₁, w₁, hq, .of_steps (.one h0 stepR_scope) harr⟩
  | outgrown => exact ⟨_, a₁, w₁, hq, .of_steps (.one h0 stepR_scope) harr⟩
theorem exec_ok (hm : P.follows .mixedOrders = true) : ∀ (c : Code), IH P cfg post c := by
  intro c
  induction c with
  | skip => intro Fr wf rd hrd w0 F K ρ s a w R h L ok hl hd; exact wpIn_skip (Nx.mk ok hl hd)
  | exit id => intro Fr wf rd hrd w0 F K ρ s a w R h L ok hl hd; exact wpIn_exit (Nx.mk ok hl hd)
  | ret => intro Fr wf rd hrd w0 F K ρ s a w R h L ok hl hd; exact wpIn_ret (Nx.mk ok hl hd)
  | region id ops draw =>
    intro Fr wf rd hrd w0 F K ρ s a w R h L ok hl hd
    cases draw with
    | false =>
      simp only [exec] at hd
      split at hd
      · rename_i hc
        split at hd
        · refine joinQ_ok ok hl (fun dp L' K' hl' _ hd' hK => ?_) hd
          have ok2 : Ok ρ { s with dp := dp } a w0 w R h F := ⟨ok.dfr, ok.tm, ok.len, ok.kn, ok.hp, ok.sat, ok.same⟩
          exact wpIn_region_list (runL_ok wf (K := K') ops.toList (fun o ho => Array.all_eq_true_iff_forall_mem.1 hc o (by simpa using ho)) ok2 hl' hd' fun a w n => hK a w n)
        · exact wpIn_region_list (runL_ok wf (K := fun s => K .norm s) ops.toList (fun o ho => Array.all_eq_true_iff_forall_mem.1 hc o (by simpa using ho)) ok hl hd fun a w n => n)
      · exact hd.elim
    | true =>
      simp only [exec] at hd
      split at hd
      · rename_i hc
        simp only [Bool.and_eq_true] at hc
        have ok' : Ok ρ s a w0 { w with drawn := w.drawn + 1 } R h F := ⟨ok.dfr, ok.tm, ok.len, ok.kn, ok.hp, ok.sat.drew _, ok.same.trans (Same.drew w _)⟩
        refine joinQ_ok ok' hl (fun dp L' K' hl' _ hd' hK => ?_) hd
        have ok2 : Ok ρ { s with dp := dp } a w0 { w with drawn := w.drawn + 1 } R h F := ⟨ok'.dfr, ok'.tm, ok'.len, ok'.kn, ok'.hp, ok'.sat, ok'.same⟩
        exact wpIn_region_any hm (wpAnyL_any _ _ _ _ (runD_ok wf (fun o ho => Array.all_eq_true_iff_forall_mem.1 hc.2 o ho) (K := K') (ρ0 := ρ) (s := { s with dp := dp }) hc.1.1.1 (by rw [ok.len]; exact hc.1.1.2) hc.1.2 (fun c a w h => h) ops.size (List.prefix_refl _) (fun x hx => (List.mem_filter.1 hx).1) ok2 hl' hd' fun a w n => hK a w n))
      · exact hd.elim
  | seq x y ihx ihy =>
    intro Fr wf rd hrd w0 F K ρ s a w R h L ok hl hd
    refine wpIn_seq (wpIn_mono (ihx wf hrd ok hl hd) fun e a' w' r => ?_)
    cases e <;> try (first | exact r | exact r.elim)
    obtain ⟨ρ', s', R', h', L', p1, p2, p3, p4, p5, p6⟩ := r
    exact wpIn_mono (ihy wf hrd p5 p4 p6) fun e a'' w'' r => r.up p1 p2 p3
  | cond c x y ihx ihy =>
    intro Fr wf rd hrd w0 F K ρ s a w R h L ok hl hd
    simp only [exec] at hd
    split at hd
    · rename_i e he
      have hc := evA_den ok.tm he
      refine joinQ_ok ok hl (fun dp L' K' hl' hs' hd' hK => ?_) hd
      have ok1 : Ok ρ { s with dp := dp } a w0 w R h F := ⟨ok.dfr, ok.tm, ok.len, ok.kn, ok.hp, ok.sat, ok.same⟩
      obtain ⟨kn, ok', hh⟩ := brE_ok ok1 hd'
      refine wpIn_cond (t := (e.den ρ).bool) hc ?_
      rcases hh with ⟨hb, hh⟩ | ⟨hb, hh⟩
      · rw [hb]
        refine wpIn_mono (ihx wf hrd ok' hl' hh) fun ex a' w' r => ?_
        cases ex <;> first | exact hK _ _ r | exact Nx.up (List.prefix_refl _) (PH.le.refl _) hs' r | exact r.elim
      · rw [hb]
        refine wpIn_mono (ihy wf hrd ok' hl' hh) fun ex a' w' r => ?_
        cases ex <;> first | exact hK _ _ r | exact Nx.up (List.prefix_refl _) (PH.le.refl _) hs' r | exact r.elim
    · exact hd.elim
  | label l => intro Fr wf rd hrd w0 F K ρ s a w R h L ok hl hd; exact wpIn_label (Nx.mk ok hl hd)
  | scope b ih =>
    intro Fr wf rd hrd w0 F K ρ s a w R h L ok hl hd
    refine wpIn_scope (wpIn_mono (ih wf hrd ok hl hd) fun e a' w' r => ?_)
    cases e <;> first | exact r | exact r.elim
  | block id b ih =>
    intro Fr wf rd hrd w0 F K ρ s a w R h L ok hl hd
    simp only [exec] at hd
    refine joinQ_ok ok hl (fun dp L' K' hl' hs' hd' hK => ?_) hd
    have ok' : Ok ρ { s with dp := dp, blk := id } a w0 w R h F := ⟨ok.dfr, ok.tm, ok.len, ok.kn, ok.hp, ok.sat, ok.same⟩
    refine wpIn_block (wpIn_mono (ih wf hrd ok' hl' hd') fun e a' w' r => ?_)
    cases e with
    | exit i =>
      simp only [Exit.inBlock]
      by_cases hi : i = id
      · subst hi
        rw [if_pos rfl]
        obtain ⟨ρ', s', R', h', L'', p1, p2, p3, p4, p5, p6⟩ := r
        simp only [if_true] at p6
        exact hK _ _ ⟨ρ', s', R', h', L'', p1, p2, p3, p4, p5, p6⟩
      · rw [if_neg hi]
        obtain ⟨ρ', s', R', h', L'', p1, p2, p3, p4, p5, p6⟩ := r
        simp only [if_neg hi] at p6
        exact Nx.up (List.prefix_refl _) (PH.le.refl _) hs' ⟨ρ', s', R', h', L'', p1, p2, p3, p4, p5, p6⟩
    | normal => exact hK _ _ r
    | ret => exact Nx.up (List.prefix_refl _) (PH.le.refl _) hs' r
    | _ => exact r.elim
  | loop b ih =>
    intro Fr wf rd hrd w0 F K ρ s a w R h L ok hl hd
    simp only [exec] at hd
    split at hd
    · rename_i hc
      simp only [Bool.and_eq_true, decide_eq_true_eq, Nat.blt_eq] at hc
      obtain ⟨⟨⟨hc, hbel⟩, hkn0⟩, hdp⟩ := hc
      obtain ⟨I, μ, hI0, hall⟩ := hd
      have hss : sorted (headOf cfg b s).ss ((fitS s.n (headOf cfg b s).s s).map (FV.den ρ)) := (okS_so hc ρ).1
      have hkn : ∀ x ∈ (headOf cfg b s).s.kn, (x.1.den ρ).bool = x.2 := by rw [hkn0]; exact ok.kn
      refine wpIn_loop_num (fun n a w => ∃ xs R' h', R.le R' ∧ sorted (headOf cfg b s).ss xs ∧ Cur.app _ I xs ∧ Cur.app _ μ xs = n ∧ Ok (ρ ++ xs) (headOf cfg b s).s a w0 w R' h' F) ?_ _ a w
        ⟨_, R, h, PH.le.refl _, hss, hI0, rfl, okS_ok ok.len hc (List.prefix_refl _) ok hkn⟩
      rintro n a w ⟨xs, R', h', lR, hso, hI, rfl, ok1⟩
      have hb := allP_elim hall hso
      rw [List.drop_left] at hb
      have hb := hb hI
      refine wpIn_mono (ih wf hrd ok1 (by simp [hdp, hl]) hb) fun e a' w' r => ?_
      cases e <;> try (first | exact Nx.up (List.prefix_append ρ xs) lR (List.suffix_cons _ _) r | exact r.elim)
      obtain ⟨ρ', s', R'', h'', L', p1, p2, p3, p4, p5, p6⟩ := r
      simp only at p6
      split at p6
      · rename_i hc2
        have p1' := (List.prefix_append ρ xs).trans p1
        have hso2 : sorted (headOf cfg b s).ss ((fitS s.n (headOf cfg b s).s s').map (FV.den ρ')) := (okS_so hc2 ρ').1
        obtain ⟨pre, rfl⟩ := p3
        simp only at p4 p6
        rw [List.length_append, List.length_cons] at p4
        have hd' : s'.dp - (headOf cfg b s).s.dp = pre.length := by rw [hdp]; omega
        simp only [T.den, hd', List.getElem?_append_right (Nat.le_refl _), Nat.sub_self, List.getElem?_cons_zero] at p6
        exact ⟨_, p6.2, (fitS s.n (headOf cfg b s).s s').map (FV.den ρ'), R'', h'', lR.trans p2, hso2, p6.1, rfl, okS_ok ok.len hc2 p1' p5 hkn⟩
      · exact p6.1.elim
    · exact hd.elim
  | rangeFunc g ps asg b iha ihb =>
    intro Fr wf rd hrd w0 F K ρ s a w R h L ok hl hd
    simp only [exec] at hd
    split at hd
    · exact hd.elim
    rename_i gv hgv
    split at hd
    · rename_i hok
      have hf : rd = false := by cases rd with | false => rfl | true => simp [Rg.ok] at hok
      subst hf
      rw [hrd rfl]
      exact range_ok iha ihb ok hl hgv hok hd
    · exact hd.1.elim
  | _ => intro Fr wf rd hrd w0 F K ρ s a w R h L ok hl hd; exact hd.elim

def resSem (tmps : Array Value) : ResultVar → Sem Value
  | .tmp t => pure (tmps.getD t undef)
  | .cell a t => do loadVar t (← asAddr (tmps.getD a undef))
theorem resOf_run {ρ : Env} {s : S} {a : Act} {w : World} {R h : PH} (ok : Ok ρ s a w0 w R h F) {r : ResultVar} {x : W} (e : resOf P s r = some x) : (resSem a.tmps r).run P w = .ok (x.den ρ) w := by
  cases r with
  | tmp t =>
    simp only [resOf] at e
    split at e
    · rename_i y hy
      cases e
      have := ev_den ok.tm hy
      simp only [Act.eval] at this
      simp only [resSem, this, Sem.run_pure, V.den]
    · cases e
  | cell ad t =>
    simp only [resOf] at e
    split at e
    · rename_i r off hx
      split at e
      · rename_i l ty hf
        have := evA_den ok.tm hx
        simp only [Act.eval] at this
        have h1 := run_loadAt (P := P) ok.sat (cden_cells (hden_mem (findC_mem hf) ok.hp)) e
        simp only [Instr.loadAt, Instr.sureAddr, Sem.run_bind, Sem.run_pure, Result.andThen_ok] at h1
        simp only [resSem, this, A.den, asAddr, Sem.run_bind, Sem.run_pure, Result.andThen_ok, h1]
      · cases e
    · cases e
theorem run_mapM_res {ρ : Env} {s : S} {a : Act} {w : World} {R h : PH} (ok : Ok ρ s a w0 w R h F) : ∀ {l : List ResultVar} {m : List W}, mapM' (resOf P s) l = some m →
    (l.mapM (resSem a.tmps)).run P w = .ok (m.map (W.den ρ)) w
  | [], m, e => by cases e; rfl
  | x :: r, m, e => by
    simp only [mapM'] at e
    split at e
    · rename_i y hy
      split at e
      · rename_i q hq
        cases e
        rw [List.mapM_cons, Sem.run_bind, resOf_run ok hy]
        simp only [Result.andThen_ok, Sem.run_bind, run_mapM_res ok hq, Sem.run_pure, List.map_cons]
      · cases e
    · cases e
theorem results_eq (fn : Func) (tmps : Array Value) : results fn tmps = (do
    let vs ← fn.results.mapM (resSem tmps)
    pure (if h : vs.size = 1 then vs[0] else .tuple vs)) := by
  unfold results
  congr 1
theorem leave_ok {fn : Func} {ρ : Env} {s : S} {a : Act} {w : World} {R h : PH} {L : List (Env → Prop)} (ok : Ok ρ s a w0 w R h F) {ks : List Key} (hd : (leave P fn ks s).den P post L ρ) :
    ∃ v, (results fn a.tmps).run P w = .ok v w ∧ HP.ent (hden ρ s.h) (post v) := by
  have hlv : ∀ v : V, (leaveV v ks s).den P post L ρ → HP.ent (hden ρ s.h) (post (v.den ρ)) := fun v hv => by
    unfold leaveV at hv
    simp only at hv
    split at hv
    · rename_i hc
      exact (HP.ent.of fun _ _ H => subH_den hc H).trans hv
    · exact hv.elim
  unfold leave at hd
  have hres : ∀ m, mapM' (resOf P s) fn.results.toList = some m → (results fn a.tmps).run P w = .ok (if h : (m.map (W.den ρ)).toArray.size = 1 then (m.map (W.den ρ)).toArray[0] else .tuple (m.map (W.den ρ)).toArray) w := fun m hm => by
    have h1 := run_mapM_res (P := P) ok hm
    rw [results_eq, Array.mapM_eq_mapM_toList, Sem.run_bind]
    have h2 : (List.toArray <$> List.mapM (resSem a.tmps) fn.results.toList : Sem (Array Value)).run P w = .ok (m.map (W.den ρ)).toArray w := by
      show (List.mapM (resSem a.tmps) fn.results.toList >>= fun l => pure l.toArray : Sem (Array Value)).run P w = _
      rw [Sem.run_bind, h1]; rfl
    rw [h2]
    rfl
  split at hd
  · rename_i x hm
    exact ⟨_, hres _ hm, hlv _ hd⟩
  · rename_i m hx hm
    refine ⟨_, hres _ hm, ?_⟩
    have hne : ¬ (m.map (W.den ρ)).toArray.size = 1 := fun e => by
      simp only [List.size_toArray, List.length_map] at e
      obtain ⟨y, rfl⟩ := List.length_eq_one_iff.1 e
      exact hx y rfl
    rw [dif_neg hne]
    exact hlv _ hd
  · exact hd.elim

theorem leaves_marks {fn : Func} {tmps : Array Value} {Rp : Ending → World → Prop} {ρ : Env} {R F : PH} : ∀ (df : List BR) {hp : Hp} {w : World} {h : PH}, nodupR df = true → (df.all fun r => hp.contains (.b r, .dfr)) = true → Sat w R h F → (hden ρ hp).p R h →
    (∀ w' h', Same w w' → Sat w' R h' F → (hden ρ (hp.filter fun x => !isDf df x)).p R h' → ∃ v, (results fn tmps).run P w' = .ok v w' ∧ Rp (.returned v) w') → LeavesInM Fence.wide 0 P fn tmps Rp (df.map (markOf ρ)) .returning w
  | [], hp, w, h, _, _, s, p, hf => by
    obtain ⟨v, h1, h2⟩ := hf w h (Same.refl w) s (by rw [List.filter_eq_self.2 (fun _ _ => by simp [isDf])]; exact p)
    exact ⟨v, h1, h2⟩
  | r :: rest, hp, w, h, hn, ha, s, p, hf => by
    simp only [nodupR, Bool.and_eq_true, Bool.not_eq_true', List.all_cons] at hn ha
    have hmem : (Key.b r, C.dfr) ∈ hp := by simpa using ha.1
    obtain ⟨h1, h2, d, l1, l2, p1, p2⟩ := hden_filter (fun x => decide (x = (Key.b r, C.dfr))) p
    have hc : h1 (r.den ρ) = some (.deferred (some [])) := hden_mem (x := (Key.b r, C.dfr)) (List.mem_filter.2 ⟨hmem, by simp⟩) p1
    have hh : h (r.den ρ) = some (.deferred (some [])) := l1 _ _ hc
    have h2n : h2 (r.den ρ) = none := (d _).resolve_left (by rw [hc]; simp)
    have t := s.turn (w' := w.putObj (r.den ρ) (.deferred none)) (y := .deferred none) hh (fun k hk => World.putObj_heap_other hk) (World.putObj_heap_same (s.oh.lt hh))
    have le : h2.le (fun k => if k = r.den ρ then some (.deferred none) else h k) := fun k o e => by
      by_cases ek : k = r.den ρ
      · subst ek; rw [h2n] at e; cases e
      · simp only [ek, if_false]; exact l2 _ _ e
    have s2 : Sat (w.putObj (r.den ρ) (.deferred none)) R h2 F := ⟨t.dRh.le (PH.le.refl _) le, t.dRF, t.dhF.le le (PH.le.refl _), t.oR, t.oh.le le, t.oF, t.gl⟩
    refine ⟨by simp, .inl ⟨r.den ρ, _, rfl, run_takeDeferred (s.oh _ _ hh), leaves_marks rest hn.2 ?_ s2 p2 fun w' h' sm s3 p3 => hf w' h' ((Same.putObj _ _ _).trans sm) s3 ?_⟩⟩
    · refine List.all_eq_true.2 fun q hq => ?_
      have hne : q ≠ r := fun e => by subst e; simp at hn; exact hn.1 hq
      have := List.all_eq_true.1 ha.2 q hq
      simp only [List.contains_eq_mem, decide_eq_true_eq, Nat.blt_eq] at this ⊢
      exact List.mem_filter.2 ⟨this, by simp [hne]⟩
    · rw [List.filter_filter] at p3
      have e : (fun x => !isDf (r :: rest) x) = fun x : Key × C => (!isDf rest x && !decide (x = (Key.b r, C.dfr))) := funext fun x => by
        simp only [isDf, List.any_cons, Bool.not_or, Bool.and_comm]
      rw [e]
      exact p3

theorem tri_of_tree (hm : P.follows .mixedOrders = true) {f : FuncId} {fn : Func} (hf : P.funcs[f]? = some fn) {args : List W} {h0 : Hp} {ρ : Env} {t : T} (ht : tree P cfg fn args h0 ρ.length = t) (hd : t.den P post [] ρ) :
    Tri P f (args.map (W.den ρ)).toArray (hden ρ h0) post := by
  intro w R h F s hp
  subst ht
  unfold tree at hd
  split at hd
  · rename_i c hc
    refine (callsIn_wide (n := 0)).1 (callsIn_of_wp_marks hf hc trivial ?_)
    have hargs : ∀ (i : Nat) (v : V), (args.map (fun w => some (V.w w)) ++ List.replicate (fn.ntmps - args.length) (some (V.tup [])))[i]? = some (some v) →
        ((args.map (W.den ρ)).toArray ++ Array.replicate (fn.ntmps - (args.map (W.den ρ)).toArray.size) undef)[i]? = some (v.den ρ) := fun i v hi => by
      rw [List.getElem?_append] at hi
      rw [Array.getElem?_append]
      simp only [List.length_map, List.size_toArray] at hi ⊢
      split at hi
      · rename_i hlt
        rw [if_pos hlt]
        simp only [List.getElem?_map, Option.map_eq_some_iff, Option.some.injEq] at hi
        obtain ⟨x, hx, rfl⟩ := hi
        simp [hx, V.den]
      · rename_i hlt
        rw [if_neg hlt]
        rw [List.getElem?_replicate] at hi
        rw [Array.getElem?_replicate]
        split at hi
        · rename_i hlt2
          rw [if_pos hlt2]
          simp only [Option.some.injEq] at hi
          subst hi
          rfl
        · cases hi
    have ok : Ok ρ ⟨args.map (fun w => some (.w w)) ++ List.replicate (fn.ntmps - args.length) (some (.tup [])), h0, ρ.length, [], [], 0, 0, []⟩ { tmps := (args.map (W.den ρ)).toArray ++ Array.replicate (fn.ntmps - (args.map (W.den ρ)).toArray.size) undef, defers := [] } w w R h F :=
      ⟨rfl, ⟨by simp, hargs⟩, rfl, (fun x hx => by cases hx), hp, s, Same.refl w⟩
    have fin : ∀ (K : S → T) (a' : Act) (w' : World), (∀ s, K s = leaveD P fn (h0.map (·.1) ++ outK cfg (h0.map (·.1)) s ++ resK P cfg fn s) s) → Nx ⟨P, post, w, F, ρ, R, []⟩ K a' w' →
        LeavesInM Fence.wide 0 P fn a'.tmps (fun e w'' => ∃ v, e = .returned v ∧ Same w w'' ∧ ∃ R' h', R.le R' ∧ Sat w'' R' h' F ∧ (post v).p R' h') a'.defers .returning w' := fun K a' w' hK r => by
      obtain ⟨ρ', s', R', h', L', p1, p2, p3, p4, p5, p6⟩ := r
      simp only at p1 p2 p3 p4 p5 p6
      rw [hK] at p6
      unfold leaveD at p6
      split at p6
      · rename_i hdf
        simp only [dfOk, Bool.and_eq_true] at hdf
        rw [p5.dfr]
        refine leaves_marks s'.df hdf.1 hdf.2 p5.sat p5.hp fun w'' h'' sm sat p => ?_
        have ok2 : Ok ρ' (leaveS s') { a' with defers := [] } w w'' R' h'' F := ⟨rfl, ⟨p5.tm.1, p5.tm.2⟩, p5.len, p5.kn, p, sat, p5.same.trans sm⟩
        obtain ⟨v, hv, he⟩ := leave_ok ok2 p6
        obtain ⟨R2, h2, q1, q2, q3, q4, q5⟩ := he R' h'' sat.dRh p
        exact ⟨v, hv, v, rfl, ok2.same, R2, h2, p2.trans q1, sat.ent q1 q2 q3 q4, q5⟩
      · exact p6.elim
    refine wpIn_mono (exec_ok hm c (.inl rfl) (rd := false) (fun _ => rfl) ok rfl hd) fun e a' w' r => ?_
    cases e <;> try exact r.elim
    · exact fin _ a' w' (fun _ => rfl) r
    · obtain ⟨ρ', s', R', h', L', p1, p2, p3, p4, p5, p6⟩ := r
      exact p6.elim
    · exact fin _ a' w' (fun _ => rfl) r
  · exact hd.elim
end
end Go.Proofs.YtcpjdfihpdjkbaaGreatDoor.RX



namespace Go.Proofs.YtcpjdfihpdjkbaaGreatDoor
open Go.Proofs.YtcpjdfihpdjkbaaGreatDoor RX

theorem mixed : Tryz.prog.follows .mixedOrders = true := by kernel_rfl

def OwC (e : TypeId) (size : Nat) (a : Option Addr) (n c : Nat) (xs : List Value) : HP :=
  ⟨fun _ h => xs.length = n * size ∧ ((a = none ∧ n = 0 ∧ c = 0) ∨ ∃ g cur, a = some ⟨g, 0, none⟩ ∧ h g = some (.cells cur e (0, 0)) ∧ n ≤ c ∧ c ≤ maxLen ∧ cur.size = c * size ∧ cur.toList.take (n * size) = xs),
   fun _ l ⟨h1, h2⟩ => ⟨h1, h2.imp id fun ⟨g, cur, h3, h4, h5⟩ => ⟨g, cur, h3, l _ _ h4, h5⟩⟩⟩
def RoC (size : Nat) (a : Option Addr) (n : Nat) (xs : List Value) : HP :=
  ⟨fun R _ => xs.length = n * size ∧ (n ≠ 0 → ∃ g off cur ty fr, a = some ⟨g, off, none⟩ ∧ R g = some (.cells cur ty fr) ∧ (cur.toList.drop off).take xs.length = xs),
   fun l _ ⟨h1, h2⟩ => ⟨h1, fun hn => let ⟨g, off, cur, ty, fr, h3, h4, h5⟩ := h2 hn; ⟨g, off, cur, ty, fr, h3, l _ _ h4, h5⟩⟩⟩
def Rd (S : HP) (a : Option Addr) (xs : List Value) : Prop := ∀ w R h F, Sat w R h F → S.p R h → ∀ (j : Nat) (u : Value), xs[j]? = some u → ∃ g off, a = some ⟨g, off, none⟩ ∧ w.cell? ⟨g, off + j, none⟩ = some u

theorem cell_at {w : World} {g : Nat} {cur : Array Value} {ty : TypeId} {fr : Nat × Nat} (h : w.heap[g]? = some (.cells cur ty fr)) (k : Nat) : w.cell? ⟨g, k, none⟩ = cur[k]? := by
  unfold World.cell?; rw [h]; rfl
theorem OwC.rd (e : TypeId) (size : Nat) (a : Option Addr) (n c : Nat) (xs : List Value) : Rd (OwC e size a n c xs) a xs := by
  rintro w R h F s ⟨hl, hh⟩ j u hj
  rcases hh with ⟨_, rfl, _⟩ | ⟨g, cur, rfl, hg, h1, h2, h3, rfl⟩
  · rw [List.getElem?_eq_none (by rw [hl]; omega)] at hj; cases hj
  · refine ⟨g, 0, rfl, ?_⟩
    rw [cell_at (s.oh _ _ hg)]
    rw [List.getElem?_take] at hj
    split at hj
    · simpa using hj
    · cases hj
theorem RoC.rd (size : Nat) (a : Option Addr) (n : Nat) (xs : List Value) : Rd (RoC size a n xs) a xs := by
  rintro w R h F s ⟨hl, hh⟩ j u hj
  have hn : n ≠ 0 := fun e => by subst e; rw [List.getElem?_eq_none (by rw [hl]; omega)] at hj; cases hj
  obtain ⟨g, off, cur, ty, fr, rfl, hR, hc⟩ := hh hn
  refine ⟨g, off, rfl, ?_⟩
  rw [cell_at (s.oR _ _ hR)]
  rw [← hc, List.getElem?_take] at hj
  split at hj
  · rw [List.getElem?_drop] at hj; simpa using hj
  · cases hj
theorem one_rd (g : Nat) (cs : Array Value) (ty : TypeId) : Rd (HP.one g (.cells cs ty (0, 0))) (some ⟨g, 0, none⟩) cs.toList := fun w R h F s hg j u hj => by
  refine ⟨g, 0, rfl, ?_⟩
  rw [cell_at (s.oh _ _ hg)]
  simpa using hj
theorem Rd.left {A B : HP} {a : Option Addr} {xs : List Value} (r : Rd A a xs) : Rd (HP.sep A B) a xs := fun w R h F s ⟨h1, h2, d, l1, l2, p, _⟩ => r w R h1 _ (s.cut d l1 l2) p
theorem OwC.share (e : TypeId) (size : Nat) (a : Option Addr) (n c : Nat) (xs : List Value) : HP.ent (OwC e size a n c xs) (RoC size a n xs) := by
  rintro R h d ⟨hl, hh⟩
  rcases hh with ⟨rfl, rfl, _⟩ | ⟨g, cur, rfl, hg, h1, h2, h3, rfl⟩
  · exact ⟨R, h, PH.le.refl _, d, PH.le.refl _, fun _ _ e => .inl e, hl, fun hn => absurd rfl hn⟩
  · obtain ⟨R', h', q1, q2, q3, q4, q5⟩ := HP.ent.share g (.cells cur e (0, 0)) R h d hg
    exact ⟨R', h', q1, q2, q3, q4, hl, fun _ => ⟨g, 0, cur, e, (0, 0), rfl, q5, by rw [List.drop_zero, hl]⟩⟩
theorem OwC.nil (e : TypeId) (size : Nat) : ∀ R h, (OwC e size none 0 0 []).p R h := fun _ _ => ⟨by simp, .inl ⟨rfl, rfl, rfl⟩⟩
theorem RoC.nil (size : Nat) (a : Option Addr) : ∀ R h, (RoC size a 0 []).p R h := fun _ _ => ⟨by simp, fun h => absurd rfl h⟩
theorem RoC.some {size : Nat} {a : Option Addr} {n : Nat} {xs : List Value} {R h : PH} (H : (RoC size a n xs).p R h) (hn : 0 < n) : a.isSome = true := by
  obtain ⟨g, off, _, _, _, rfl, _⟩ := H.2 (by omega); rfl
theorem OwC.some {e : TypeId} {size : Nat} {a : Option Addr} {n c : Nat} {xs : List Value} {R h : PH} (H : (OwC e size a n c xs).p R h) (hn : 0 < n) : a.isSome = true := by
  rcases H.2 with ⟨_, e1, _⟩ | ⟨g, _, rfl, _⟩
  · omega
  · rfl

theorem Sat.grown {w w' : World} {R h F : PH} (s : Sat w R h F) {row : Option Nat} (hrow : ∀ g, row = some g → h g ≠ none) (hg : w.grownBy w' row) {g' : Nat} {o : Obj} (ho : w'.heap[g']? = some o) (hn : row = some g' ∨ w.heap.size ≤ g') :
    Sat w' R (PH.one g' o) F := by
  have hR : R g' = none := by
    rcases hn with e | e
    · exact (s.dRh g').resolve_right (hrow g' e)
    · cases hq : R g' with
      | none => rfl
      | some y => have := s.oR.lt hq; omega
  have hF : F g' = none := by
    rcases hn with e | e
    · exact (s.dhF g').resolve_left (hrow g' e)
    · cases hq : F g' with
      | none => rfl
      | some y => have := s.oF.lt hq; omega
  have kept : ∀ g : PH, g.own w → (∀ k, row = some k → g k = none) → g.own w' := fun g og gd k y e => by
    rw [hg.block k (og.lt e) (fun e' => by rw [gd k e'.symm] at e; cases e)]; exact og k y e
  refine ⟨fun k => ?_, s.dRF, fun k => ?_, kept R s.oR fun k e => (s.dRh k).resolve_right (hrow k e), fun k y e => ?_, kept F s.oF fun k e => (s.dhF k).resolve_left (hrow k e), s.gl⟩
  · by_cases e : k = g'
    · subst e; exact .inl hR
    · exact .inr (if_neg e)
  · by_cases e : k = g'
    · subst e; exact .inr hF
    · exact .inl (if_neg e)
  · obtain ⟨rfl, rfl⟩ := PH.one_some e; exact ho
def appS (t ty : TypeId) (u v : Value) : Sem Next := do pure (.value (← Builtin.append_ #[t, t] ty #[u, v]))
theorem append_ok (t ty e : TypeId) (i : TypeInfo) (z : Value) (ht : Tryz.prog.underlying t = some (.slice e)) (hi : Tryz.prog.info? e = some i) (hz : i.zero = some z) (hzs : z.cells.size = i.size) (hsz : 0 < i.size)
    (a : Option Addr) (n c : Nat) (xs : List Value) (S : HP) (ad : Addr) (m c2 : Nat) (news : List Value) (hr : Rd S (some ad) news) (hl : news.length = m * i.size) (h1 : ∀ u ∈ news, u.oneCell' = true)
    (h63 : n + m ≤ maxLen) (hb : (n + m) * i.bytes ≤ 140737488355328) :
    OTri Tryz.prog (appS t ty (.slice a n c) (.slice (some ad) m c2)) (HP.sep (OwC e i.size a n c xs) S)
      (fun v => HP.ex fun a' => HP.ex fun c' => HP.and (v = .slice a' (n + m) c') (HP.sep (OwC e i.size a' (n + m) c' (xs ++ news)) S)) := by
  rintro w R h F s ⟨x1, x2, d, l1, l2, ⟨hxl, hx⟩, hS⟩
  have hown : w.ownsRow 0 e i.size (.slice a n c) n xs := by
    refine ⟨hxl, ?_⟩
    rcases hx with ⟨rfl, rfl, rfl⟩ | ⟨g, cur, rfl, hg, q⟩
    · exact .inl ⟨rfl, rfl⟩
    · exact .inr ⟨g, c, cur, rfl, Nat.zero_le _, s.oh _ _ (l1 _ _ hg), q⟩
  have hrd := hr w R x2 _ (s.cut d.symm l2 l1) hS
  have hnews : ∀ j u, news[j]? = some u → w.cell? (ad.add j) = some u := fun j u hj => by
    obtain ⟨g, off, e1, e2⟩ := hrd j u hj
    cases e1
    rw [addr_add]; exact e2
  obtain ⟨v', w', hrun, ho', hg, hnil, hblk⟩ := run_append_own_at (P := Tryz.prog) w 0 t ty e i z i.size i.bytes ht hi hz rfl rfl hzs hsz (.slice a n c) n xs hown ad m c2 news hl hnews h1 h63 hb (Nat.zero_le _)
  obtain ⟨hl', hsh⟩ := ho'
  have hS' : Same w w' := ⟨hg.os, hg.tape, hg.output, hg.size⟩
  have s1 := s.cut d l1 l2
  have hdF : x2.dj F := s.dhF.le l2 (PH.le.refl _)
  rcases hsh with ⟨rfl, h0⟩ | ⟨g', cap, cur, rfl, _, hcell, q1, q2, q3, q4⟩
  · have hn0 : n = 0 := by omega
    have hm0 : m = 0 := by omega
    have e1 := hnil.1 rfl
    cases e1.1
    have hsame : ∀ k, k < w.heap.size → w'.heap[k]? = w.heap[k]? := fun k hk => hg.block k hk (by simp [Value.ownBlock])
    have own' : ∀ g : PH, g.own w → g.own w' := fun g og k y e => by rw [hsame k (og.lt e)]; exact og k y e
    refine ⟨_, _, w', by unfold appS; rw [Sem.run_bind, hrun]; rfl, rfl, hS', R, x1.un x2, PH.le.refl _, ⟨(PH.dj_un (s.dRh.le (PH.le.refl _) l1).symm (s.dRh.le (PH.le.refl _) l2).symm).symm, s.dRF, PH.dj_un (s.dhF.le l1 (PH.le.refl _)) hdF, own' _ s.oR, own' _ (s.oh.le (PH.un_le l1 l2)), own' _ s.oF, s.gl⟩, none, 0, ?_, x1, x2, d, PH.un_left _ _, PH.un_right d, ?_, hS⟩
    · rw [hn0, hm0]
    · exact ⟨hl', .inl ⟨rfl, by omega, rfl⟩⟩
  · have s2 := Sat.grown s1 (row := (Value.slice a n c).ownBlock) (fun g hgr => by
      rcases hx with ⟨rfl, _⟩ | ⟨g0, cur0, rfl, hg0, _⟩
      · cases hgr
      · cases hgr; rw [hg0]; simp) hg hcell (by
        rcases hblk with e | e
        · exact .inl e.symm
        · cases e; exact .inr (Nat.le_refl _))
    obtain ⟨s3, d3⟩ := s2.join hdF
    exact ⟨_, _, w', by unfold appS; rw [Sem.run_bind, hrun]; rfl, rfl, hS', R, _, PH.le.refl _, s3, some ⟨g', 0, none⟩, cap, rfl, PH.one g' (.cells cur e (0, 0)), x2, d3, PH.un_left _ _, PH.un_right d3, ⟨hl', .inr ⟨g', cur, rfl, PH.one_self _ _, q1, q2, q3, q4⟩⟩, hS⟩

def loadS (t : TypeId) (p : Value) : Sem Next := do pure (.value (← Instr.loadAt t p))
theorem run_loadS {w : World} {t : TypeId} {g off : Nat} {d : TypeDesc} (hd : Tryz.prog.underlying t = some d) (vs : List Value) (hz : szT Tryz.prog t = vs.length) (hv : ∀ j v, vs[j]? = some v → w.cell? ⟨g, off + j, none⟩ = some v) :
    (loadS t (.pointer (some ⟨g, off, none⟩))).run Tryz.prog w = .ok (.value (if aggT Tryz.prog t then .agg vs.toArray else (vs[0]?).getD undef)) w ∨ (aggT Tryz.prog t = false ∧ vs.length ≠ 1) := by
  obtain ⟨i, hi⟩ := underlying_info hd
  by_cases ha : aggT Tryz.prog t = true
  · left
    unfold loadS
    rw [Sem.run_bind]
    simp only [Instr.loadAt, Instr.sureAddr, Sem.run_bind, Sem.run_pure, Result.andThen_ok, loadVar, RX.run_isAgg hd, ha, if_true, RX.run_sizeOf hi, hz, RX.run_loadCells vs hv]
  · have ha' : aggT Tryz.prog t = false := by simpa using ha
    by_cases hl : vs.length = 1
    · left
      obtain ⟨v, rfl⟩ := List.length_eq_one_iff.1 hl
      have h0 := hv 0 v rfl
      rw [Nat.add_zero] at h0
      unfold loadS
      rw [Sem.run_bind]
      simp only [Instr.loadAt, Instr.sureAddr, Sem.run_bind, Sem.run_pure, Result.andThen_ok, loadVar, RX.run_isAgg hd, ha', Bool.false_eq_true, if_false, RX.run_load h0]
      rfl
    · exact .inr ⟨ha', hl⟩
theorem load1_ok {t : TypeId} {d : TypeDesc} (hd : Tryz.prog.underlying t = some d) (ha : aggT Tryz.prog t = false) (hz : szT Tryz.prog t = 1) {S : HP} {a : Option Addr} {xs : List Value} (hr : Rd S a xs) {k off : Nat} {v : Value} (hk : xs[k + off]? = some v) :
    ORead Tryz.prog (loadS t (.pointer (a.map fun x => (x.add k).add off))) S v := fun w R h F s hS => by
  obtain ⟨g, o, rfl, hc⟩ := hr w R h F s hS (k + off) v hk
  simp only [Option.map_some, addr_add]
  rcases run_loadS (w := w) (g := g) (off := o + k + off) hd [v] (by simpa using hz) (fun j u hj => by
    cases j with
    | zero => simp only [List.getElem?_cons_zero, Option.some.injEq] at hj; subst hj; rw [show o + k + off + 0 = o + (k + off) by omega]; exact hc
    | succ j => simp at hj) with e | e
  · rw [e, ha]; rfl
  · simp at e
theorem loadN_ok {t : TypeId} {d : TypeDesc} (hd : Tryz.prog.underlying t = some d) (ha : aggT Tryz.prog t = true) {S : HP} {a : Option Addr} {xs : List Value} (hr : Rd S a xs) {k off : Nat} {vs : List Value} (hz : szT Tryz.prog t = vs.length) (hp : 0 < vs.length) (hk : ∀ j v, vs[j]? = some v → xs[k + off + j]? = some v) :
    ORead Tryz.prog (loadS t (.pointer (a.map fun x => (x.add k).add off))) S (.agg vs.toArray) := fun w R h F s hS => by
  obtain ⟨v0, hv0⟩ : ∃ v, vs[0]? = some v := ⟨vs[0], by simp [hp]⟩
  obtain ⟨g, o, rfl, _⟩ := hr w R h F s hS (k + off + 0) v0 (hk 0 v0 hv0)
  simp only [Option.map_some, addr_add]
  rcases run_loadS (w := w) (g := g) (off := o + k + off) hd vs hz (fun j u hj => by
    obtain ⟨g', o', e, hc⟩ := hr w R h F s hS (k + off + j) u (hk j u hj)
    cases e
    rw [show o + k + off + j = o + (k + off + j) by omega]; exact hc) with e | e
  · rw [e, ha]; rfl
  · rw [ha] at e; exact absurd e.1 (by simp)

def sliceS (t : TypeId) (x : Value) (lo hi mx : Option Value) : Sem Next := do pure (.value (← Instr.sliceAt t x lo hi mx))
def iv (x : Option Nat) : Option Value := x.map fun n => .int .i64 (n : Int)
theorem run_bound {w : World} {n y : Nat} {c : BoundsCode} (h : n ≤ y) : (Instr.sliceBound (.int .i64 (n : Int)) y c).run Tryz.prog w = .ok n w := by
  have : (0 : Int) ≤ n ∧ (n : Int) ≤ y := ⟨by omega, by omega⟩
  simp [Instr.sliceBound, asIntOf, this]
theorem slice_ok {t e : TypeId} (ht : Tryz.prog.underlying t = some (.slice e)) {i : TypeInfo} (hi : Tryz.prog.info? e = some i) (S : HP) (a : Option Addr) (n c : Nat) (lo hi' mx : Option Nat) (h1 : lo.getD 0 ≤ hi'.getD n) (h2 : hi'.getD n ≤ mx.getD c) (h3 : mx.getD c ≤ c) (h4 : mx.isSome = true → hi'.isSome = true) :
    ORead Tryz.prog (sliceS t (.slice a n c) (iv lo) (iv hi') (iv mx)) S (.slice (if mx.getD c = lo.getD 0 then a else a.map (·.add (lo.getD 0 * szT Tryz.prog e))) (hi'.getD n - lo.getD 0) (mx.getD c - lo.getD 0)) := fun w R h F s hS => by
  unfold sliceS
  rw [Sem.run_bind]
  have hb : (Instr.sliceBounds true n c (iv lo) (iv hi') (iv mx)).run Tryz.prog w = .ok (lo.getD 0, hi'.getD n, mx.getD c) w := by
    unfold Instr.sliceBounds iv
    cases mx <;> cases hi' <;> cases lo <;> simp only [Option.getD_some, Option.getD_none, Option.isSome_some, Option.isSome_none] at h1 h2 h3 h4 <;> first | (have h5 := h4 trivial; cases h5; done) | simp [Sem.run_bind, run_bound h1, run_bound h2, run_bound h3, run_bound (Nat.zero_le _)]
  have : (Instr.sliceAt t (.slice a n c) (iv lo) (iv hi') (iv mx)).run Tryz.prog w = .ok (.slice (if mx.getD c = lo.getD 0 then a else a.map (·.add (lo.getD 0 * szT Tryz.prog e))) (hi'.getD n - lo.getD 0) (mx.getD c - lo.getD 0)) w := by
    simp only [Instr.sliceAt, Instr.slice, Sem.run_bind, RX.run_underlying ht, Result.andThen_ok, hb, RX.run_sizeOf hi, Sem.run_pure]
  rw [this]; rfl

def storeS (t : TypeId) (p x : Value) : Sem Next := do Instr.storeAt t p x; pure .skip
theorem store_ok {t : TypeId} {i : TypeInfo} (hi : Tryz.prog.info? t = some i) (e : TypeId) (size : Nat) (a : Option Addr) (n c : Nat) (xs : List Value) (k off : Nat) (x : Value) (vs : List Value) (hx : x.cells = vs.toArray) (hz : i.size = vs.length) (hp : 0 < vs.length) (h1 : ∀ v ∈ vs, v.oneCell' = true) (hk : k + off + vs.length ≤ n * size) :
    OTri Tryz.prog (storeS t (.pointer (a.map fun x => (x.add k).add off)) x) (OwC e size a n c xs) (fun v => HP.and (v = .tuple #[]) (OwC e size a n c (xs.take (k + off) ++ vs ++ xs.drop (k + off + vs.length)))) := by
  rintro w R h F s ⟨hl, hh⟩
  rcases hh with ⟨_, rfl, _⟩ | ⟨g, cur, rfl, hg, q1, q2, q3, q4⟩
  · rw [Nat.zero_mul] at hk; omega
  · have hw := s.oh _ _ hg
    simp only [Option.map_some, addr_add]
    have hsz : n * size ≤ cur.size := by rw [q3]; exact Nat.mul_le_mul_right _ q1
    have hst := run_storeCells_at (P := Tryz.prog) g (0 + k + off) e vs 0 cur w hw (by omega) h1
    have hrun : (storeS t (.pointer (some ⟨g, 0 + k + off, none⟩)) x).run Tryz.prog w = .ok .skip (w.setRow g (cur.toList.take (0 + k + off + 0) ++ vs ++ cur.toList.drop (0 + k + off + 0 + vs.length)).toArray) := by
      unfold storeS
      simp only [Instr.storeAt, Instr.sureAddr, Sem.run_bind, Sem.run_pure, Result.andThen_ok, storeVar, RX.run_sizeOf hi, hx, List.size_toArray, szT, hi, hz, ne_eq, not_true_eq_false, if_false, hst]
    refine ⟨.skip, _, _, hrun, rfl, ⟨rfl, rfl, rfl, by simp⟩, R, _, PH.le.refl _, s.turn (y := .cells (cur.toList.take (0 + k + off + 0) ++ vs ++ cur.toList.drop (0 + k + off + 0 + vs.length)).toArray e (0, 0)) hg (fun j hj => setRow_other w g j _ hj) (setRow_heap w g cur _ e (0, 0) hw), rfl, ?_, .inr ⟨g, _, rfl, if_pos rfl, q1, q2, ?_, ?_⟩⟩
    · simp only [List.length_append, List.length_take, List.length_drop, hl]
      omega
    · simp only [List.size_toArray, List.length_append, List.length_take, List.length_drop, Array.length_toList]
      omega
    · subst q4
      have e1 : (0 + k + off + 0) = k + off := by omega
      rw [e1]
      simp only [List.take_append, List.length_append, List.length_take, Array.length_toList, List.take_take, List.drop_take, List.length_drop]
      have m1 : min (k + off) cur.size = k + off := by omega
      have m2 : min (n * size) (k + off) = k + off := by omega
      have m3 : min (k + off) (n * size) = k + off := by omega
      rw [m1, m2, m3, List.take_of_length_le (by omega : vs.length ≤ n * size - (k + off))]
end Go.Proofs.YtcpjdfihpdjkbaaGreatDoor



namespace Go.Proofs.YtcpjdfihpdjkbaaGreatDoor.RX
set_option maxRecDepth 100000
-- slices.Clone[[]byte,byte]: no such function
-- (*tideline/octet.Writer).Byte: no such function
-- tideline/octet.width: no such function
-- (*tideline/octet.Writer).Number: no such function
-- (*tideline/octet.Writer).Bytes: no such function
-- (*tideline/octet.Writer).Out: no such function
end Go.Proofs.YtcpjdfihpdjkbaaGreatDoor.RX



namespace Go.Proofs.YtcpjdfihpdjkbaaGreatDoor
open Go.Proofs.YtcpjdfihpdjkbaaGreatDoor RX

def u8v (b : UInt8) : Value := .int .u8 b.toNat
theorem u8v_one (l : List UInt8) : ∀ u ∈ l.map u8v, u.oneCell' = true := fun u hu => by
  obtain ⟨b, _, rfl⟩ := List.mem_map.1 hu; rfl
abbrev OwB (a : Option Addr) (n c : Nat) (l : List UInt8) : HP := OwC 5 1 a n c (l.map u8v)
abbrev RoB (a : Option Addr) (n : Nat) (l : List UInt8) : HP := RoC 1 a n (l.map u8v)
structure RdL (S : HP) (a : Option Addr) (n : Nat) (xs : List Value) : Prop where
  rd : Rd S a xs
  none : ∀ R h, S.p R h → a = none → n = 0
theorem RdL.ro (size : Nat) (a : Option Addr) (n : Nat) (xs : List Value) : RdL (RoC size a n xs) a n xs :=
  ⟨RoC.rd size a n xs, fun R h H e => Classical.byContradiction fun hn => by subst e; have := RoC.some H (by omega); cases this⟩
theorem RdL.ow (e : TypeId) (size : Nat) (a : Option Addr) (n c : Nat) (xs : List Value) : RdL (OwC e size a n c xs) a n xs :=
  ⟨OwC.rd e size a n c xs, fun R h H e => Classical.byContradiction fun hn => by subst e; have := OwC.some H (by omega); cases this⟩

theorem info8 : (Tryz.prog.info? 5).map (fun i => (i.zero, i.size, i.bytes)) = some (some (.int .u8 0), 1, 1) := by kernel_rfl
theorem und8 : Tryz.prog.underlying 22 = some (.slice 5) := by kernel_rfl
theorem append8 (a : Option Addr) (n c : Nat) (l : List UInt8) (S : HP) (b : Option Addr) (m c2 : Nat) (q : List UInt8) (hr : RdL S b m (q.map u8v)) (hm : q.length = m) (hb0 : m ≠ 0 → b.isSome = true) (hb : n + m ≤ 140737488355328) :
    OTri Tryz.prog (appS 22 22 (.slice a n c) (.slice b m c2)) (HP.sep (OwB a n c l) S)
      (fun v => HP.ex fun a' => HP.ex fun c' => HP.and (v = .slice a' (n + m) c') (HP.sep (OwB a' (n + m) c' (l ++ q)) S)) := by
  obtain ⟨i, hi, h1, h2, h3⟩ := info_parts info8
  cases b with
  | some ad =>
    have := append_ok 22 22 5 i (.int .u8 0) und8 hi h1 (by rw [h2]; rfl) (by omega) a n c (l.map u8v) S ad m c2 (q.map u8v) hr.rd (by simp [hm, h2]) (u8v_one q) (by unfold maxLen; omega) (by rw [h3]; omega)
    rw [h2] at this
    simp only [OwB, List.map_append]
    exact this
  | none =>
    have hm0 : m = 0 := Classical.byContradiction fun h => by have := hb0 h; cases this
    subst hm0
    obtain rfl : q = [] := List.eq_nil_of_length_eq_zero hm
    rintro w R h F s ⟨x1, x2, d, l1, l2, H, hS⟩
    have H0 := H
    obtain ⟨hxl, hx⟩ := H
    have hnc : n ≤ c := by
      rcases hx with ⟨_, rfl, rfl⟩ | ⟨g, cur, _, _, hnc, _⟩
      · exact Nat.le_refl _
      · exact hnc
    refine ⟨.value (.slice a n c), _, w, ?_, rfl, Same.refl w, R, h, PH.le.refl _, s, a, c, rfl, x1, x2, d, l1, l2, by rw [List.append_nil]; exact H0, hS⟩
    cases a <;> simp [appS, Builtin.append_, run_underlying und8, sizeOf, typeInfo, hi, h2, Builtin.lenOf, Builtin.firstCells, hnc, storeCells]
end Go.Proofs.YtcpjdfihpdjkbaaGreatDoor



namespace Go.Proofs.YtcpjdfihpdjkbaaGreatDoor

def sepN : List HP → HP
  | [] => HP.tt
  | [x] => x
  | x :: y :: r => HP.sep x (sepN (y :: r))
theorem sepN_cons {x : HP} {r : List HP} {R h : PH} : (sepN (x :: r)).p R h ↔ (HP.sep x (sepN r)).p R h := by
  cases r with
  | nil => exact ⟨fun H => HP.sep_tt H, fun H => HP.sep_left H⟩
  | cons y q => exact Iff.rfl
theorem sepN_perm {l m : List HP} (p : l.Perm m) : ∀ {R h : PH}, (sepN l).p R h → (sepN m).p R h := by
  induction p with
  | nil => exact fun H => H
  | cons x _ ih => exact fun H => sepN_cons.2 (HP.sep_mono (sepN_cons.1 H) (fun _ h => h) fun _ h => ih h)
  | swap x y r =>
    exact fun H => sepN_cons.2 (HP.sep_mono (HP.swap (HP.sep_mono (sepN_cons.1 H) (fun _ h => h) fun _ h => sepN_cons.1 h)) (fun _ h => h) fun _ h => sepN_cons.2 h)
  | trans _ _ ih1 ih2 => exact fun H => ih2 (ih1 H)
theorem sepN_sub (f : Nat → HP) : ∀ (S' S : List Nat) {R h : PH}, S'.Nodup → (∀ i ∈ S', i ∈ S) → (sepN (S.map f)).p R h → (sepN (S'.map f)).p R h
  | [], _, _, _, _, _, _ => trivial
  | i :: r, S, R, h, hn, hs, H => by
    have hp : (S.map f).Perm (f i :: (S.erase i).map f) := ((List.perm_cons_erase (hs i (List.mem_cons_self ..))).map f)
    have H1 := sepN_cons.1 (sepN_perm hp H)
    rw [List.nodup_cons] at hn
    exact sepN_cons.2 (HP.sep_mono H1 (fun _ h => h) fun _ h => sepN_sub f r (S.erase i) hn.2 (fun j hj => (List.mem_erase_of_ne (fun e => hn.1 (by rw [← e]; exact hj))).2 (hs j (List.mem_cons_of_mem _ hj))) h)
theorem HP.pick (l : List HP) (idx : List Nat) (hn : idx.Nodup) (hb : idx.all (fun i => decide (i < l.length)) = true) {R h : PH} (H : (sepN l).p R h) : (sepN (idx.map fun i => l.getD i HP.tt)).p R h := by
  refine sepN_sub (fun i => l.getD i HP.tt) idx (List.range l.length) hn (fun i hi => List.mem_range.2 (by simpa using List.all_eq_true.1 hb i hi)) ?_
  have e : (List.range l.length).map (fun i => l.getD i HP.tt) = l := by
    apply List.ext_getElem
    · simp
    · intro i h1 h2
      simp at h1
      simp [h1]
  rw [e]; exact H
end Go.Proofs.YtcpjdfihpdjkbaaGreatDoor



namespace Go.Proofs.YtcpjdfihpdjkbaaGreatDoor
open Go.Proofs.YtcpjdfihpdjkbaaGreatDoor RX
set_option maxRecDepth 100000

theorem infoInt : (Tryz.prog.info? 3).map (fun i => (i.zero, i.size, i.bytes)) = some (some (.int .i64 0), 1, 8) := by kernel_rfl
theorem undIb : Tryz.prog.underlying 3 = some (.int .i64) := by kernel_rfl
theorem aggI : aggT Tryz.prog 3 = false := by kernel_rfl
theorem szI : szT Tryz.prog 3 = 1 := by kernel_rfl
theorem conv_ok {ρ : Env} {i : Nat} {x : V} {S : HP} {a : Option Addr} {n c : Nat} {l : List UInt8} (hx : x.den ρ = .slice a n c) (hr : RdL S a n (l.map u8v)) (hl : l.length = n) :
    ORead Tryz.prog (semOf ρ (.convert 22 9 (.tmp i)) 9 [(i, x)]) S (.string ⟨l.toArray⟩) := fun w R h F s hS => by
  subst hl
  have hc : (convert 22 9 (.slice a l.length c)).run Tryz.prog w = .ok (.string ⟨l.toArray⟩) w := by
    cases a with
    | none =>
      have h0 : l.length = 0 := hr.none R h hS rfl
      rw [h0, List.length_eq_zero_iff.1 h0]
      exact Lib.run_convert_nil_bytes w _ _ 5 0 Tryz.underlying22 Tryz.underlying5 Tryz.underlying9
    | some y =>
      refine run_convert_bytes_back w _ _ 5 y c l Tryz.underlying22 Tryz.underlying5 Tryz.underlying9 (fun j hj => ?_)
      obtain ⟨g, off, e1, e2⟩ := hr.rd w R h F s hS j (u8v l[j]) (by simp [hj])
      cases e1
      rw [addr_add, e2]
      rfl
  have : (semOf ρ (.convert 22 9 (.tmp i)) 9 [(i, x)]).run Tryz.prog w = .ok (.value (.string ⟨l.toArray⟩)) w := by
    simp [semOf, execOp, arEval, hx, Sem.run_bind, hc]
  exact this
theorem storeOne_ok {t : TypeId} {i : TypeInfo} (hi : Tryz.prog.info? t = some i) (e : TypeId) (b : Nat) (cs : Array Value) (off : Nat) (x : Value) (vs : List Value) (hx : x.cells = vs.toArray) (hz : i.size = vs.length) (hp : 0 < vs.length) (h1 : ∀ v ∈ vs, v.oneCell' = true) (hk : off + vs.length ≤ cs.size) (hm : 1 ≤ maxLen) :
    OTri Tryz.prog (storeS t (.pointer (some ⟨b, off, none⟩)) x) (HP.one b (.cells cs e (0, 0))) (fun v => HP.and (v = .tuple #[]) (HP.one b (.cells (cs.toList.take off ++ vs ++ cs.toList.drop (off + vs.length)).toArray e (0, 0)))) := by
  have := store_ok hi e cs.size (some ⟨b, 0, none⟩) 1 1 cs.toList 0 off x vs hx hz hp h1 (by omega)
  simp only [Option.map_some, addr_add, Nat.zero_add] at this
  refine this.weak (fun R h H => ⟨by simp, .inr ⟨b, cs, rfl, H, Nat.le_refl _, hm, by omega, by rw [Nat.one_mul]; exact List.take_of_length_le (by simp)⟩⟩) fun v R h ⟨rfl, hl, H⟩ => ⟨rfl, ?_⟩
  rcases H with ⟨h0, _⟩ | ⟨g, cur, e1, hg, q1, q2, q3, q4⟩
  · cases h0
  · cases e1
    show h b = _
    rw [hg]
    have : cur.toList = cs.toList.take off ++ vs ++ cs.toList.drop (off + vs.length) := by
      rw [← q4, List.take_of_length_le (by rw [Array.length_toList, q3]; omega)]
    rw [← this]
theorem OTri.ofRead {P : Program} {s : Sem Next} {A : HP} {B : Value → HP} {v : Value} (r : ORead P s A v) (post : ∀ R h, A.p R h → (B v).p R h) : OTri P s A B := fun w R h F st a => ⟨.value v, v, w, r w R h F st a, rfl, Same.refl w, R, h, PH.le.refl _, st, post R h a⟩
end Go.Proofs.YtcpjdfihpdjkbaaGreatDoor



namespace Go.Proofs.YtcpjdfihpdjkbaaGreatDoor
open Go.RowKit

section
variable {P : Program} {ops : Array Oper} {rest : List Oper} {o : Oper} {a : Act} {w : World} {Q : Exit → Act → World → Prop}

end

end Go.Proofs.YtcpjdfihpdjkbaaGreatDoor



namespace Go.Proofs.YtcpjdfihpdjkbaaGreatDoor
open Go.RowKit

section
variable {κ : Type} [DecidableEq κ]

abbrev AL (κ : Type) := List (κ × Value × Nat)
def toE (enc : κ → Value) (x : κ × Value × Nat) : MapEntry := { key := enc x.1, val := x.2.1, born := x.2.2 }
def mapObj (enc : κ → Value) (l : AL κ) (c : Nat) : Obj := .map (l.map (toE enc)).toArray c

end

section
variable {P : Program} {ops : Array Oper} {rest : List Oper} {o : Oper} {a : Act} {w : World} {Q : Exit → Act → World → Prop} {κ : Type} [DecidableEq κ]

end

end Go.Proofs.YtcpjdfihpdjkbaaGreatDoor



namespace Go.Proofs.YtcpjdfihpdjkbaaGreatDoor
open Go.RowKit

set_option linter.unusedSectionVars false
section
variable {P : Program} {κ : Type} [DecidableEq κ] {enc : κ → Value}

theorem run_range_raw {w : World} {t k e : TypeId} {m c : Nat} {l : AL κ} (ht : P.underlying t = some (.map k e)) (hb : w.heap[m]? = some (mapObj enc l c)) :
    (Instr.range t (.map (some m))).run P w = .ok (.pointer (some ⟨w.heap.size, 0, none⟩)) (w.alloc (.mapIter (some m) c #[] c)) :=
  run_range_map w t k e m _ c ht hb
end

section
variable {P : Program} {ops : Array Oper} {rest : List Oper} {o : Oper} {a : Act} {w : World} {Q : Exit → Act → World → Prop} {κ : Type} [DecidableEq κ] {enc : κ → Value}
end
end Go.Proofs.YtcpjdfihpdjkbaaGreatDoor



namespace Go.Proofs.YtcpjdfihpdjkbaaGreatDoor
open Go.Proofs.YtcpjdfihpdjkbaaGreatDoor RX

section
variable {κ : Type} [DecidableEq κ] {enc : κ → Value} {kt et t ty : TypeId} {r m it c : Nat} {l : AL κ} {S : Array Nat}

def lookS (t : TypeId) (m k : Value) (ok : Bool) : Sem Next := do pure (.value (← Instr.lookup t m k ok))
def updS (t : TypeId) (m k v : Value) : Sem Next := do Instr.mapUpdate t m k v; pure .skip
def delS (ts : Array TypeId) (ty : TypeId) (u v : Value) : Sem Next := do pure (.value (← Builtin.delete_ ts ty #[u, v]))
def rangS (t : TypeId) (m : Value) : Sem Next := do pure (.value (← Instr.range t m))
theorem range_ok {k e : TypeId} (ht : Tryz.prog.underlying t = some (.map k e)) :
    OTri Tryz.prog (rangS t (.map (some m))) (HP.one m (mapObj enc l c)) (fun v => HP.ex fun it => HP.and (v = .pointer (some ⟨it, 0, none⟩)) (HP.sep (HP.one it (.mapIter (some m) c #[] c)) (HP.one m (mapObj enc l c)))) := fun w R h F s a => by
  obtain ⟨s2, d2⟩ := s.alloc (.mapIter (some m) c #[] c)
  refine ⟨.value _, _, _, by unfold rangS; rw [Sem.run_bind, run_range_raw ht (s.oh _ _ a)]; rfl, rfl, Same.alloc _ _, R, _, PH.le.refl _, s2, w.heap.size, rfl, _, h, d2, PH.un_left _ _, PH.un_right d2, PH.one_self _ _, a⟩
def nextS (x : Value) (ty : TypeId) : Sem Next := do pure (.value (← Instr.next x false ty))
def entS (x : Value) : Sem Next := do pure (.value (← Instr.entry x))
end
end Go.Proofs.YtcpjdfihpdjkbaaGreatDoor



namespace Go.Proofs.YtcpjdfihpdjkbaaGreatDoor
open Go.Proofs.YtcpjdfihpdjkbaaGreatDoor RX

def arW (ar : List (Nat × Value)) : Operand → Value
  | .tmp t => match ar.find? (·.1 == t) with
    | some x => x.2
    | none => undef
  | .const v => v
  | .global g => .pointer (some ⟨g, 0, none⟩)
  | .func f => .func (.func f) #[] #[]
def semW (o : Op) (ty : TypeId) (ar : List (Nat × Value)) : Sem Next := execOp (arW ar) { dst := none, op := o, type := ty, pos := "", after := #[], guard := none }
theorem find_map (ρ : Env) (t : Nat) : ∀ ar : List (Nat × V), (ar.map fun x => (x.1, x.2.den ρ)).find? (·.1 == t) = (ar.find? (·.1 == t)).map fun x => (x.1, x.2.den ρ)
  | [] => rfl
  | x :: r => by
    simp only [List.map_cons, List.find?_cons]
    cases x.1 == t <;> simp [find_map ρ t r]
theorem semW_eq {ρ : Env} {o : Op} {ty : TypeId} {ar : List (Nat × V)} : semOf ρ o ty ar = semW o ty (ar.map fun x => (x.1, x.2.den ρ)) := by
  have h : arEval ρ ar = arW (ar.map fun x => (x.1, x.2.den ρ)) := by
    funext x
    cases x with
    | tmp t =>
      simp only [arEval, arW, find_map]
      cases ar.find? (·.1 == t) <;> rfl
    | const v => rfl
    | global g => rfl
    | func f => rfl
  unfold semOf semW
  rw [h]
section
variable {t ty : TypeId} {i j q : Nat} {u v x : Value}
theorem semW_load : semW (.load t (.tmp i)) ty [(i, u)] = loadS t u := by simp [semW, execOp, arW, loadS]
theorem semW_store (h : i ≠ j) : semW (.store t (.tmp i) (.tmp j)) ty [(i, u), (j, v)] = storeS t u v := by
  have h' : (i == j) = false := by simpa using h
  simp [semW, execOp, arW, h', storeS]
theorem semW_storeC : semW (.store t (.tmp i) (.const v)) ty [(i, u)] = storeS t u v := by simp [semW, execOp, arW, storeS]
theorem semW_append (h : i ≠ j) : semW (.call ⟨.builtin .append, #[.tmp i, .tmp j], #[t, t]⟩) ty [(i, u), (j, v)] = appS t ty u v := by
  have h' : (i == j) = false := by simpa using h
  simp [semW, execOp, resolve, arW, invoke, builtin, h', appS]
theorem semW_lookup {ok : Bool} (h : i ≠ j) : semW (.lookup t (.tmp i) (.tmp j) ok) ty [(i, u), (j, v)] = lookS t u v ok := by
  have h' : (i == j) = false := by simpa using h
  simp [semW, execOp, arW, h', lookS]
theorem semW_lookupC {ok : Bool} {k : Value} : semW (.lookup t (.tmp i) (.const k) ok) ty [(i, u)] = lookS t u k ok := by
  simp [semW, execOp, arW, lookS]
theorem semW_update (h : i ≠ j) (h2 : i ≠ q) (h3 : j ≠ q) : semW (.mapUpdate t (.tmp i) (.tmp j) (.tmp q)) ty [(i, u), (j, v), (q, x)] = updS t u v x := by
  have h' : (i == j) = false := by simpa using h
  have h2' : (i == q) = false := by simpa using h2
  have h3' : (j == q) = false := by simpa using h3
  simp [semW, execOp, arW, h', h2', h3', updS]
theorem semW_updateC {k : Value} (h : i ≠ j) : semW (.mapUpdate t (.tmp i) (.tmp j) (.const k)) ty [(i, u), (j, v)] = updS t u v k := by
  have h' : (i == j) = false := by simpa using h
  simp [semW, execOp, arW, h', updS]
theorem semW_updateK {k : Value} (h : i ≠ j) : semW (.mapUpdate t (.tmp i) (.const k) (.tmp j)) ty [(i, u), (j, v)] = updS t u k v := by
  have h' : (i == j) = false := by simpa using h
  simp [semW, execOp, arW, h', updS]
theorem semW_delete {ts : Array TypeId} (h : i ≠ j) : semW (.call ⟨.builtin .delete, #[.tmp i, .tmp j], ts⟩) ty [(i, u), (j, v)] = delS ts ty u v := by
  have h' : (i == j) = false := by simpa using h
  simp [semW, execOp, resolve, arW, invoke, builtin, h', delS]
theorem semW_range : semW (.range t (.tmp i)) ty [(i, u)] = rangS t u := by simp [semW, execOp, arW, rangS]
theorem semW_next : semW (.next (.tmp i) false) ty [(i, u)] = nextS u ty := by simp [semW, execOp, arW, nextS]
theorem semW_entry : semW (.entry (.tmp i)) ty [(i, u)] = entS u := by simp [semW, execOp, arW, entS]
theorem semW_slice {lo hi mx : Option Operand} {y : Operand} {ar : List (Nat × Value)} : semW (.slice t y lo hi mx) ty ar = sliceS t (arW ar y) (lo.map (arW ar)) (hi.map (arW ar)) (mx.map (arW ar)) := rfl
def nilS (u : Value) : Sem Next := semW (.nilCheck (.tmp 0)) 0 [(0, u)]
theorem semW_nil : semW (.nilCheck (.tmp i)) ty [(i, u)] = nilS u := by simp [nilS, semW, execOp, arW]
end
end Go.Proofs.YtcpjdfihpdjkbaaGreatDoor



namespace Go.Proofs.YtcpjdfihpdjkbaaGreatDoor
open Go.Proofs.YtcpjdfihpdjkbaaGreatDoor RX

def sE (l : List UInt8) : Value := .string ⟨l.toArray⟩
end Go.Proofs.YtcpjdfihpdjkbaaGreatDoor



namespace Go.Proofs
open Go.Shelf
def Tryz.lays156_ren : Go.Shelf.Ren := ⟨fun | 156 => 14 | 165 => 29 | 166 => 30 | 169 => 31 | 240 => 47 | 241 => 48 | 276 => 57 | 277 => 58 | n => n, fun | 31 => 30 | 9 => 9 | 3 => 3 | 4 => 4 | 0 => 0 | 20 => 20 | 72 => 71 | 76 => 75 | 70 => 69 | 37 => 22 | 75 => 74 | 127 => 96 | 164 => 106 | 5 => 5 | 80 => 77 | n => n, fun | n => n⟩
theorem Tryz.lays156 : Go.Proofs.Lays.n156 Tryz.prog Tryz.lays156_ren := {
  mixed := by kernel_rfl
  f156 := Tryz.func14.trans (congrArg some (by kernel_rfl))
  f165 := Tryz.func29.trans (congrArg some (by kernel_rfl))
  f166 := Tryz.func30.trans (congrArg some (by kernel_rfl))
  f169 := Tryz.func31.trans (congrArg some (by kernel_rfl))
  f240 := Tryz.func47.trans (congrArg some (by kernel_rfl))
  f241 := Tryz.func48.trans (congrArg some (by kernel_rfl))
  f276 := Tryz.func57.trans (congrArg some (by kernel_rfl))
  f277 := Tryz.func58.trans (congrArg some (by kernel_rfl))
  t0 := Tryz.underlying0
  a0 := Tryz.isAgg0
  z0 := Tryz.sizeOf0
  v0 := Tryz.zeroValue0
  t3 := Tryz.underlying3
  a3 := Tryz.isAgg3
  z3 := Tryz.sizeOf3
  v3 := Tryz.zeroValue3
  t4 := Tryz.underlying4
  a4 := Tryz.isAgg4
  z4 := Tryz.sizeOf4
  v4 := Tryz.zeroValue4
  t9 := Tryz.underlying9
  a9 := Tryz.isAgg9
  z9 := Tryz.sizeOf9
  v9 := Tryz.zeroValue9
  t20 := Tryz.underlying20
  a20 := Tryz.isAgg20
  z20 := Tryz.sizeOf20
  v20 := Tryz.zeroValue20
  t31 := Tryz.underlying30
  a31 := Tryz.isAgg30
  z31 := Tryz.sizeOf30
  v31 := Tryz.zeroValue30
  t37 := Tryz.underlying22
  a37 := Tryz.isAgg22
  z37 := Tryz.sizeOf22
  v37 := Tryz.zeroValue22
  t70 := Tryz.underlying69
  a70 := Tryz.isAgg69
  z70 := Tryz.sizeOf69
  v70 := Tryz.zeroValue69
  t72 := Tryz.underlying71
  a72 := Tryz.isAgg71
  z72 := Tryz.sizeOf71
  v72 := Tryz.zeroValue71
  t75 := Tryz.underlying74
  a75 := Tryz.isAgg74
  z75 := Tryz.sizeOf74
  v75 := Tryz.zeroValue74
  t76 := Tryz.underlying75
  a76 := Tryz.isAgg75
  z76 := Tryz.sizeOf75
  v76 := Tryz.zeroValue75
  t127 := Tryz.underlying96
  a127 := Tryz.isAgg96
  z127 := Tryz.sizeOf96
  v127 := Tryz.zeroValue96
  t164 := Tryz.underlying106
  a164 := Tryz.isAgg106
  z164 := Tryz.sizeOf106
  v164 := Tryz.zeroValue106 }
theorem Tryz.Builder_Extra_156 : Builder.Extra Tryz.prog Tryz.lays156_ren := {
  sizeBuilder := by kernel_rfl
  liesBuilder := by kernel_rfl
  t5 := Tryz.underlying5
  a5 := Tryz.isAgg5
  z5 := Tryz.sizeOf5
  v5 := Tryz.zeroValue5
  infoByte := by kernel_rfl
  cellsByte := by kernel_rfl
  sizeByte := by kernel_rfl
  neB5 := by decide }
open Go.RowKit in
theorem Tryz.strings_Join (bk o c : Nat) (xs : List ByteArray) (sep : ByteArray) (w : World) (hcells : ∀ (j : Nat) x, xs[j]? = some x → w.cell? ⟨bk, o + j, none⟩ = some (.string x)) (hbk : bk < w.heap.size) (hN : xs.length ≤ 140737488355328) (hcap : xs.length ≤ c) (hlen : (Lib.join (xs.map (·.data.toList)) sep.data.toList).length ≤ 140737488355328) :
    Calls Tryz.prog 14 #[.slice (some ⟨bk, o, none⟩) xs.length c, .string sep] w fun e w' => e = .returned (.string ⟨(Lib.join (xs.map (·.data.toList)) sep.data.toList).toArray⟩) ∧ Below w.heap.size w w' := Any.strings_Join Tryz.lays156 Tryz.Builder_Extra_156 bk o c xs sep w hcells hbk hN hcap hlen
def Tryz.lays137_ren : Go.Shelf.Ren := ⟨fun | 137 => 56 | 217 => 69 | 266 => 84 | n => n, fun | 9 => 9 | 5 => 5 | 3 => 3 | n => n, fun | n => n⟩
theorem Tryz.lays137 : Go.Proofs.Lays.n137 Tryz.prog Tryz.lays137_ren := {
  mixed := by kernel_rfl
  f137 := Tryz.func56.trans (congrArg some (by kernel_rfl))
  f217 := Tryz.func69.trans (congrArg some (by kernel_rfl))
  f266 := Tryz.func84.trans (congrArg some (by kernel_rfl))
  t3 := Tryz.underlying3
  a3 := Tryz.isAgg3
  z3 := Tryz.sizeOf3
  v3 := Tryz.zeroValue3
  t5 := Tryz.underlying5
  a5 := Tryz.isAgg5
  z5 := Tryz.sizeOf5
  v5 := Tryz.zeroValue5
  t9 := Tryz.underlying9
  a9 := Tryz.isAgg9
  z9 := Tryz.sizeOf9
  v9 := Tryz.zeroValue9 }
open Go.RowKit in
theorem Tryz.strings_IndexByte (s : ByteArray) (c : Int) (w : World) :
    Calls Tryz.prog 56 #[.string s, .int .u8 c] w fun e w' => e = .returned (.int .i64 (Lib.indexByte s.data.toList c.toNat.toUInt8)) ∧ w' = w := Any.strings_IndexByte Tryz.lays137 s c w
def Tryz.laysM171_ren : Go.Shelf.Ren := ⟨fun | 171 => 16 | 243 => 33 | 246 => 52 | 283 => 63 | 284 => 64 | 285 => 65 | 286 => 66 | 129 => 75 | 317 => 74 | 318 => 76 | 319 => 77 | 320 => 78 | 337 => 86 | 338 => 87 | n => n, fun | 3 => 3 | 9 => 9 | 2 => 2 | 4 => 4 | 171 => 112 | 0 => 0 | 53 => 81 | 37 => 22 | 5 => 5 | 173 => 115 | 212 => 120 | 51 => 121 | 20 => 20 | 213 => 122 | 46 => 80 | 232 => 143 | 233 => 144 | n => n, fun | 17 => 1 | 18 => 6 | 19 => 7 | n => n⟩
theorem Tryz.laysM171 : Go.Proofs.LaysM.n171 Tryz.prog Tryz.laysM171_ren := {
  mixed := by kernel_rfl
  f129 := Tryz.func75.trans (congrArg some (by kernel_rfl))
  f171 := Tryz.func16.trans (congrArg some (by kernel_rfl))
  f243 := Tryz.func33.trans (congrArg some (by kernel_rfl))
  f246 := Tryz.func52.trans (congrArg some (by kernel_rfl))
  f283 := Tryz.func63.trans (congrArg some (by kernel_rfl))
  f284 := Tryz.func64.trans (congrArg some (by kernel_rfl))
  f285 := Tryz.func65.trans (congrArg some (by kernel_rfl))
  f286 := Tryz.func66.trans (congrArg some (by kernel_rfl))
  f317 := Tryz.func74.trans (congrArg some (by kernel_rfl))
  f318 := Tryz.func76.trans (congrArg some (by kernel_rfl))
  f319 := Tryz.func77.trans (congrArg some (by kernel_rfl))
  f320 := Tryz.func78.trans (congrArg some (by kernel_rfl))
  f337 := Tryz.func86.trans (congrArg some (by kernel_rfl))
  f338 := Tryz.func87.trans (congrArg some (by kernel_rfl))
  t0 := Tryz.underlying0
  a0 := Tryz.isAgg0
  z0 := Tryz.sizeOf0
  v0 := Tryz.zeroValue0
  t2 := Tryz.underlying2
  a2 := Tryz.isAgg2
  z2 := Tryz.sizeOf2
  v2 := Tryz.zeroValue2
  t3 := Tryz.underlying3
  a3 := Tryz.isAgg3
  z3 := Tryz.sizeOf3
  v3 := Tryz.zeroValue3
  t4 := Tryz.underlying4
  a4 := Tryz.isAgg4
  z4 := Tryz.sizeOf4
  v4 := Tryz.zeroValue4
  t5 := Tryz.underlying5
  a5 := Tryz.isAgg5
  z5 := Tryz.sizeOf5
  v5 := Tryz.zeroValue5
  t9 := Tryz.underlying9
  a9 := Tryz.isAgg9
  z9 := Tryz.sizeOf9
  v9 := Tryz.zeroValue9
  t20 := Tryz.underlying20
  a20 := Tryz.isAgg20
  z20 := Tryz.sizeOf20
  v20 := Tryz.zeroValue20
  t37 := Tryz.underlying22
  a37 := Tryz.isAgg22
  z37 := Tryz.sizeOf22
  v37 := Tryz.zeroValue22
  t46 := Tryz.underlying80
  a46 := Tryz.isAgg80
  z46 := Tryz.sizeOf80
  v46 := Tryz.zeroValue80
  t51 := Tryz.underlying121
  a51 := Tryz.isAgg121
  z51 := Tryz.sizeOf121
  v51 := Tryz.zeroValue121
  t53 := Tryz.underlying81
  a53 := Tryz.isAgg81
  z53 := Tryz.sizeOf81
  v53 := Tryz.zeroValue81
  t171 := Tryz.underlying112
  a171 := Tryz.isAgg112
  z171 := Tryz.sizeOf112
  v171 := Tryz.zeroValue112
  t173 := Tryz.underlying115
  a173 := Tryz.isAgg115
  z173 := Tryz.sizeOf115
  v173 := Tryz.zeroValue115
  t212 := Tryz.underlying120
  a212 := Tryz.isAgg120
  z212 := Tryz.sizeOf120
  v212 := Tryz.zeroValue120
  t213 := Tryz.underlying122
  a213 := Tryz.isAgg122
  z213 := Tryz.sizeOf122
  t232 := Tryz.underlying143
  a232 := Tryz.isAgg143
  z232 := Tryz.sizeOf143
  v232 := Tryz.zeroValue143
  t233 := Tryz.underlying144
  a233 := Tryz.isAgg144
  z233 := Tryz.sizeOf144
  v233 := Tryz.zeroValue144
  g17 := by kernel_rfl
  g18 := by kernel_rfl
  g19 := by kernel_rfl
  i0 := by kernel_rfl
  i2 := by kernel_rfl
  i3 := by kernel_rfl
  i4 := by kernel_rfl
  i5 := by kernel_rfl
  i9 := by kernel_rfl
  i20 := by kernel_rfl
  i37 := by kernel_rfl
  i46 := by kernel_rfl
  i51 := by kernel_rfl
  i53 := by kernel_rfl
  i171 := by kernel_rfl
  i173 := by kernel_rfl
  i212 := by kernel_rfl
  i232 := by kernel_rfl
  i233 := by kernel_rfl
  m17 := by kernel_rfl
  m18 := by kernel_rfl
  m19 := by kernel_rfl }
open Go.RowKit Go.Sort Go.Lib in
theorem Tryz.strconv_Itoa (n : Int) (h0 : -9223372036854775808 ≤ n) (h1 : n ≤ 9223372036854775807) (w : World) (htab : Lib.TabIs Tryz.prog w "internal/strconv.uint64pow10" .u64 Lib.pow10Tab) :
    Calls Tryz.prog 16 #[.int .i64 n] w fun e w' => e = .returned (.string ⟨(Lib.itoa n).toArray⟩) ∧ ∃ k os, w' = grow (w.drewN k) os := Any.strconv_Itoa Tryz.laysM171 n h0 h1 w htab
def Tryz.laysC172_ren : Go.Shelf.Ren := ⟨fun | 172 => 53 | 244 => 67 | 245 => 68 | 247 => 79 | 279 => 80 | 280 => 81 | 281 => 82 | 282 => 83 | 287 => 88 | 316 => 89 | 171 => 16 | 205 => 90 | 321 => 91 | 322 => 92 | 243 => 33 | 246 => 52 | 283 => 63 | 284 => 64 | 285 => 65 | 286 => 66 | 129 => 75 | 317 => 74 | 318 => 76 | 319 => 77 | 320 => 78 | 337 => 86 | 338 => 87 | n => n, fun | 9 => 9 | 3 => 3 | 75 => 74 | 76 => 75 | 4 => 4 | 5 => 5 | 167 => 125 | 37 => 22 | 0 => 0 | 85 => 126 | 2 => 2 | 168 => 128 | 53 => 81 | 175 => 138 | 46 => 80 | 210 => 141 | 127 => 96 | 145 => 149 | 143 => 147 | 21 => 21 | 171 => 112 | 173 => 115 | 212 => 120 | 51 => 121 | 20 => 20 | 213 => 122 | 232 => 143 | 233 => 144 | 80 => 77 | n => n, fun | 15 => 4 | 16 => 5 | 17 => 1 | 18 => 6 | 19 => 7 | n => n⟩
theorem Tryz.laysC172 : Go.Proofs.LaysC.n172 Tryz.prog Tryz.laysC172_ren := {
  mixed := by kernel_rfl
  f129 := Tryz.func75.trans (congrArg some (by kernel_rfl))
  f171 := Tryz.func16.trans (congrArg some (by kernel_rfl))
  f172 := Tryz.func53.trans (congrArg some (by kernel_rfl))
  f205 := Tryz.func90.trans (congrArg some (by kernel_rfl))
  f243 := Tryz.func33.trans (congrArg some (by kernel_rfl))
  f244 := Tryz.func67.trans (congrArg some (by kernel_rfl))
  f245 := Tryz.func68.trans (congrArg some (by kernel_rfl))
  f246 := Tryz.func52.trans (congrArg some (by kernel_rfl))
  f247 := Tryz.func79.trans (congrArg some (by kernel_rfl))
  f279 := Tryz.func80.trans (congrArg some (by kernel_rfl))
  f280 := Tryz.func81.trans (congrArg some (by kernel_rfl))
  f281 := Tryz.func82.trans (congrArg some (by kernel_rfl))
  f282 := Tryz.func83.trans (congrArg some (by kernel_rfl))
  f283 := Tryz.func63.trans (congrArg some (by kernel_rfl))
  f284 := Tryz.func64.trans (congrArg some (by kernel_rfl))
  f285 := Tryz.func65.trans (congrArg some (by kernel_rfl))
  f286 := Tryz.func66.trans (congrArg some (by kernel_rfl))
  f287 := Tryz.func88.trans (congrArg some (by kernel_rfl))
  f316 := Tryz.func89.trans (congrArg some (by kernel_rfl))
  f317 := Tryz.func74.trans (congrArg some (by kernel_rfl))
  f318 := Tryz.func76.trans (congrArg some (by kernel_rfl))
  f319 := Tryz.func77.trans (congrArg some (by kernel_rfl))
  f320 := Tryz.func78.trans (congrArg some (by kernel_rfl))
  f321 := Tryz.func91.trans (congrArg some (by kernel_rfl))
  f322 := Tryz.func92.trans (congrArg some (by kernel_rfl))
  f337 := Tryz.func86.trans (congrArg some (by kernel_rfl))
  f338 := Tryz.func87.trans (congrArg some (by kernel_rfl))
  t0 := Tryz.underlying0
  a0 := Tryz.isAgg0
  z0 := Tryz.sizeOf0
  v0 := Tryz.zeroValue0
  t2 := Tryz.underlying2
  a2 := Tryz.isAgg2
  z2 := Tryz.sizeOf2
  v2 := Tryz.zeroValue2
  t3 := Tryz.underlying3
  a3 := Tryz.isAgg3
  z3 := Tryz.sizeOf3
  v3 := Tryz.zeroValue3
  t4 := Tryz.underlying4
  a4 := Tryz.isAgg4
  z4 := Tryz.sizeOf4
  v4 := Tryz.zeroValue4
  t5 := Tryz.underlying5
  a5 := Tryz.isAgg5
  z5 := Tryz.sizeOf5
  v5 := Tryz.zeroValue5
  t9 := Tryz.underlying9
  a9 := Tryz.isAgg9
  z9 := Tryz.sizeOf9
  v9 := Tryz.zeroValue9
  t20 := Tryz.underlying20
  a20 := Tryz.isAgg20
  z20 := Tryz.sizeOf20
  v20 := Tryz.zeroValue20
  t21 := Tryz.underlying21
  a21 := Tryz.isAgg21
  z21 := Tryz.sizeOf21
  v21 := Tryz.zeroValue21
  t37 := Tryz.underlying22
  a37 := Tryz.isAgg22
  z37 := Tryz.sizeOf22
  v37 := Tryz.zeroValue22
  t46 := Tryz.underlying80
  a46 := Tryz.isAgg80
  z46 := Tryz.sizeOf80
  v46 := Tryz.zeroValue80
  t51 := Tryz.underlying121
  a51 := Tryz.isAgg121
  z51 := Tryz.sizeOf121
  v51 := Tryz.zeroValue121
  t53 := Tryz.underlying81
  a53 := Tryz.isAgg81
  z53 := Tryz.sizeOf81
  v53 := Tryz.zeroValue81
  t75 := Tryz.underlying74
  a75 := Tryz.isAgg74
  z75 := Tryz.sizeOf74
  v75 := Tryz.zeroValue74
  t76 := Tryz.underlying75
  a76 := Tryz.isAgg75
  z76 := Tryz.sizeOf75
  v76 := Tryz.zeroValue75
  t85 := Tryz.underlying126
  a85 := Tryz.isAgg126
  z85 := Tryz.sizeOf126
  v85 := Tryz.zeroValue126
  t127 := Tryz.underlying96
  a127 := Tryz.isAgg96
  z127 := Tryz.sizeOf96
  v127 := Tryz.zeroValue96
  t143 := Tryz.underlying147
  a143 := Tryz.isAgg147
  z143 := Tryz.sizeOf147
  v143 := Tryz.zeroValue147
  t145 := Tryz.underlying149
  a145 := Tryz.isAgg149
  z145 := Tryz.sizeOf149
  v145 := Tryz.zeroValue149
  t167 := Tryz.underlying125
  a167 := Tryz.isAgg125
  z167 := Tryz.sizeOf125
  v167 := Tryz.zeroValue125
  t168 := Tryz.underlying128
  a168 := Tryz.isAgg128
  z168 := Tryz.sizeOf128
  v168 := Tryz.zeroValue128
  t171 := Tryz.underlying112
  a171 := Tryz.isAgg112
  z171 := Tryz.sizeOf112
  v171 := Tryz.zeroValue112
  t173 := Tryz.underlying115
  a173 := Tryz.isAgg115
  z173 := Tryz.sizeOf115
  v173 := Tryz.zeroValue115
  t175 := Tryz.underlying138
  a175 := Tryz.isAgg138
  z175 := Tryz.sizeOf138
  v175 := Tryz.zeroValue138
  t210 := Tryz.underlying141
  a210 := Tryz.isAgg141
  z210 := Tryz.sizeOf141
  v210 := Tryz.zeroValue141
  t212 := Tryz.underlying120
  a212 := Tryz.isAgg120
  z212 := Tryz.sizeOf120
  v212 := Tryz.zeroValue120
  t213 := Tryz.underlying122
  a213 := Tryz.isAgg122
  z213 := Tryz.sizeOf122
  t232 := Tryz.underlying143
  a232 := Tryz.isAgg143
  z232 := Tryz.sizeOf143
  v232 := Tryz.zeroValue143
  t233 := Tryz.underlying144
  a233 := Tryz.isAgg144
  z233 := Tryz.sizeOf144
  v233 := Tryz.zeroValue144
  g15 := by kernel_rfl
  g16 := by kernel_rfl
  g17 := by kernel_rfl
  g18 := by kernel_rfl
  g19 := by kernel_rfl
  t80 := Tryz.underlying77
  a80 := Tryz.isAgg77
  z80 := Tryz.sizeOf77
  v80 := Tryz.zeroValue77
  i0 := by kernel_rfl
  i2 := by kernel_rfl
  i3 := by kernel_rfl
  i4 := by kernel_rfl
  i5 := by kernel_rfl
  i9 := by kernel_rfl
  i20 := by kernel_rfl
  i21 := by kernel_rfl
  i37 := by kernel_rfl
  i46 := by kernel_rfl
  i51 := by kernel_rfl
  i53 := by kernel_rfl
  i75 := by kernel_rfl
  i76 := by kernel_rfl
  i80 := by kernel_rfl
  i85 := by kernel_rfl
  i127 := by kernel_rfl
  i143 := by kernel_rfl
  i145 := by kernel_rfl
  i167 := by kernel_rfl
  i168 := by kernel_rfl
  i171 := by kernel_rfl
  i173 := by kernel_rfl
  i175 := by kernel_rfl
  i210 := by kernel_rfl
  i212 := by kernel_rfl
  i232 := by kernel_rfl
  i233 := by kernel_rfl
  m15 := by kernel_rfl
  m16 := by kernel_rfl
  m17 := by kernel_rfl
  m18 := by kernel_rfl
  m19 := by kernel_rfl
  c0 := by kernel_rfl
  c2 := by kernel_rfl
  c3 := by kernel_rfl
  c4 := by kernel_rfl
  c5 := by kernel_rfl
  c9 := by kernel_rfl
  c20 := by kernel_rfl
  c21 := by kernel_rfl
  c37 := by kernel_rfl
  c46 := by kernel_rfl
  c51 := by kernel_rfl
  c53 := by kernel_rfl
  c75 := by kernel_rfl
  c76 := by kernel_rfl
  c80 := by kernel_rfl
  c85 := by kernel_rfl
  c127 := by kernel_rfl
  c143 := by kernel_rfl
  c145 := by kernel_rfl
  c167 := by kernel_rfl
  c168 := by kernel_rfl
  c171 := by kernel_rfl
  c173 := by kernel_rfl
  c175 := by kernel_rfl
  c210 := by kernel_rfl
  c212 := by kernel_rfl
  c213 := by kernel_rfl
  c232 := by kernel_rfl
  c233 := by kernel_rfl }
open Go.RowKit in
theorem Tryz.strconv_Atoi_ok (s : ByteArray) (hmax : s.size ≤ 9223372036854775806) (v : Int) (h : Lib.atoiAll s.data.toList = .ok v) (w : World) :
    Calls Tryz.prog 53 #[.string s] w fun e w' => e = .returned (.tuple #[.int .i64 v, .nilIface]) ∧ (w' = w ∨ ∃ t, w' = Lib.bytesWorld w 5 t) := Any.strconv_Atoi_ok Tryz.laysC172 s hmax v h w
open Go.RowKit in
theorem Tryz.strconv_Atoi_syntax_var (s : ByteArray) (hlim : s.size ≤ 281474976710656) (h : Lib.atoiAll s.data.toList = Lib.atoiAll []) (tp : TypeId) (p : Value) (w : World) (hvar : w.var? Tryz.prog "strconv.ErrSyntax" = some #[.iface tp p]) :
    Calls Tryz.prog 53 #[.string s] w fun e w' => ∃ N, e = .returned (.tuple #[.int .i64 0, .iface 128 (.pointer (some ⟨N, 0, none⟩))]) ∧ w.heap.size ≤ N ∧ w'.heap[N]? = some (.cells #[.string ⟨#[65, 116, 111, 105]⟩, .string s, .iface tp p] 141 (0, 0)) ∧ Below w.heap.size w w' := Any.strconv_Atoi_syntax_var Tryz.laysC172 s hlim h tp p w hvar
open Go.RowKit in
theorem Tryz.strconv_Atoi_range_var (s : ByteArray) (hlim : s.size ≤ 281474976710656) (h : Lib.atoiAll s.data.toList = .range) (tp : TypeId) (p : Value) (w : World) (hvar : w.var? Tryz.prog "strconv.ErrRange" = some #[.iface tp p]) :
    Calls Tryz.prog 53 #[.string s] w fun e w' => ∃ N, e = .returned (.tuple #[.int .i64 (Lib.atoiSat s.data.toList), .iface 128 (.pointer (some ⟨N, 0, none⟩))]) ∧ w.heap.size ≤ N ∧ w'.heap[N]? = some (.cells #[.string ⟨#[65, 116, 111, 105]⟩, .string s, .iface tp p] 141 (0, 0)) ∧ Below w.heap.size w w' := Any.strconv_Atoi_range_var Tryz.laysC172 s hlim h tp p w hvar
def Tryz.lays143_ren : Go.Shelf.Ren := ⟨fun | 143 => 51 | 219 => 62 | 217 => 69 | 225 => 71 | 224 => 72 | 267 => 73 | 266 => 84 | 314 => 85 | n => n, fun | 9 => 9 | 3 => 3 | 4 => 4 | 5 => 5 | 46 => 80 | 146 => 135 | 51 => 121 | n => n, fun | 1 => 0 | n => n⟩
theorem Tryz.lays143 : Go.Proofs.Lays.n143 Tryz.prog Tryz.lays143_ren := {
  mixed := by kernel_rfl
  f143 := Tryz.func51.trans (congrArg some (by kernel_rfl))
  f217 := Tryz.func69.trans (congrArg some (by kernel_rfl))
  f219 := Tryz.func62.trans (congrArg some (by kernel_rfl))
  f224 := Tryz.func72.trans (congrArg some (by kernel_rfl))
  f225 := Tryz.func71.trans (congrArg some (by kernel_rfl))
  f266 := Tryz.func84.trans (congrArg some (by kernel_rfl))
  f267 := Tryz.func73.trans (congrArg some (by kernel_rfl))
  f314 := Tryz.func85.trans (congrArg some (by kernel_rfl))
  t3 := Tryz.underlying3
  a3 := Tryz.isAgg3
  z3 := Tryz.sizeOf3
  v3 := Tryz.zeroValue3
  t4 := Tryz.underlying4
  a4 := Tryz.isAgg4
  z4 := Tryz.sizeOf4
  v4 := Tryz.zeroValue4
  t5 := Tryz.underlying5
  a5 := Tryz.isAgg5
  z5 := Tryz.sizeOf5
  v5 := Tryz.zeroValue5
  t9 := Tryz.underlying9
  a9 := Tryz.isAgg9
  z9 := Tryz.sizeOf9
  v9 := Tryz.zeroValue9
  t46 := Tryz.underlying80
  a46 := Tryz.isAgg80
  z46 := Tryz.sizeOf80
  v46 := Tryz.zeroValue80
  t51 := Tryz.underlying121
  a51 := Tryz.isAgg121
  z51 := Tryz.sizeOf121
  v51 := Tryz.zeroValue121
  t146 := Tryz.underlying135
  a146 := Tryz.isAgg135
  z146 := Tryz.sizeOf135
  v146 := Tryz.zeroValue135
  g1 := by kernel_rfl }
open Go.RowKit Go.Lib in
theorem Tryz.strings_Index_one (s : ByteArray) (c : UInt8) (w : World) :
    Calls Tryz.prog 51 #[.string s, .string ⟨#[c]⟩] w fun e w' => e = .returned (.int .i64 (Lib.indexByte s.data.toList c)) ∧ w' = w := Any.strings_Index_one Tryz.lays143 s c w
def Tryz.lays138_ren : Go.Shelf.Ren := ⟨fun | 138 => 50 | 195 => 59 | 218 => 61 | 143 => 51 | 219 => 62 | 217 => 69 | 225 => 71 | 224 => 72 | 267 => 73 | 266 => 84 | 314 => 85 | n => n, fun | 9 => 9 | 3 => 3 | 4 => 4 | 5 => 5 | 0 => 0 | 46 => 80 | 146 => 135 | 51 => 121 | n => n, fun | 1 => 0 | n => n⟩
theorem Tryz.lays138 : Go.Proofs.Lays.n138 Tryz.prog Tryz.lays138_ren := {
  mixed := by kernel_rfl
  f138 := Tryz.func50.trans (congrArg some (by kernel_rfl))
  f143 := Tryz.func51.trans (congrArg some (by kernel_rfl))
  f195 := Tryz.func59.trans (congrArg some (by kernel_rfl))
  f217 := Tryz.func69.trans (congrArg some (by kernel_rfl))
  f218 := Tryz.func61.trans (congrArg some (by kernel_rfl))
  f219 := Tryz.func62.trans (congrArg some (by kernel_rfl))
  f224 := Tryz.func72.trans (congrArg some (by kernel_rfl))
  f225 := Tryz.func71.trans (congrArg some (by kernel_rfl))
  f266 := Tryz.func84.trans (congrArg some (by kernel_rfl))
  f267 := Tryz.func73.trans (congrArg some (by kernel_rfl))
  f314 := Tryz.func85.trans (congrArg some (by kernel_rfl))
  t0 := Tryz.underlying0
  a0 := Tryz.isAgg0
  z0 := Tryz.sizeOf0
  v0 := Tryz.zeroValue0
  t3 := Tryz.underlying3
  a3 := Tryz.isAgg3
  z3 := Tryz.sizeOf3
  v3 := Tryz.zeroValue3
  t4 := Tryz.underlying4
  a4 := Tryz.isAgg4
  z4 := Tryz.sizeOf4
  v4 := Tryz.zeroValue4
  t5 := Tryz.underlying5
  a5 := Tryz.isAgg5
  z5 := Tryz.sizeOf5
  v5 := Tryz.zeroValue5
  t9 := Tryz.underlying9
  a9 := Tryz.isAgg9
  z9 := Tryz.sizeOf9
  v9 := Tryz.zeroValue9
  t46 := Tryz.underlying80
  a46 := Tryz.isAgg80
  z46 := Tryz.sizeOf80
  v46 := Tryz.zeroValue80
  t51 := Tryz.underlying121
  a51 := Tryz.isAgg121
  z51 := Tryz.sizeOf121
  v51 := Tryz.zeroValue121
  t146 := Tryz.underlying135
  a146 := Tryz.isAgg135
  z146 := Tryz.sizeOf135
  v146 := Tryz.zeroValue135
  g1 := by kernel_rfl }
open Go.RowKit Go.Lib in
theorem Tryz.strings_Count_one (s : ByteArray) (c : UInt8) (w : World) :
    Calls Tryz.prog 50 #[.string s, .string ⟨#[c]⟩] w fun e w' => e = .returned (.int .i64 (Lib.countByte s.data.toList c)) ∧ w' = w := Any.strings_Count_one Tryz.lays138 s c w
end Go.Proofs



namespace Go.Proofs.YtcpjdfihpdjkbaaGreatDoor

theorem weights_mem_all {H : Type} {P : Program} {e : TypeId} : ∀ {l : List (DataW H)} {d : DataW H}, d ∈ l → ∀ n ∈ d.weights P e, n ∈ DataW.weightsAll P e l
  | x :: l, d, h, n, hn => by
    unfold DataW.weightsAll
    rcases List.mem_cons.1 h with h | h
    · subst h; exact List.mem_append.2 (.inl hn)
    · exact List.mem_append.2 (.inr (weights_mem_all h n hn))

def Small {H : Type} (P : Program) (t : TypeId) (d : DataW H) : Prop := ∀ n ∈ d.weights P t, n ≤ reachBytes

section
variable {H : Type} {P : Program} {t e : TypeId}
theorem Small.arg {ts : List TypeId} {ds : List (DataW H)} (h : (DataW.weightsEach P ts ds).all (· ≤ reachBytes) = true) {j : Nat} {d : DataW H} (ht : ts[j]? = some t) (hd : ds[j]? = some d) : Small P t d := fun n hn => by
  have := List.all_eq_true.1 h n (DataW.weights_mem_each ht hd n hn)
  simpa using this
theorem Small.elem {elems spare : List (DataW H)} (h : Small P t (.slice elems spare)) (hu : P.underlying t = some (.slice e)) {d : DataW H} (hd : d ∈ elems) : Small P e d := fun n hn => by
  refine h n ?_
  simp only [DataW.weights, hu]
  exact List.mem_cons_of_mem _ (List.mem_append.2 (.inl (weights_mem_all hd n hn)))
theorem Small.part {fs : Array Field} {parts : List (DataW H)} (h : Small P t (.agg parts)) (hu : P.underlying t = some (.struct fs)) {i : Nat} {f : Field} {d : DataW H} (hf : fs[i]? = some f) (hd : parts[i]? = some d) : Small P f.type d := fun n hn => by
  refine h n ?_
  simp only [DataW.weights, hu]
  exact DataW.weights_mem_each (by rw [List.getElem?_map, Array.getElem?_toList, hf]; rfl) hd n hn
theorem Small.len {elems spare : List (DataW H)} (h : Small P t (.slice elems spare)) (hu : P.underlying t = some (.slice e)) : (elems.length + spare.length) * P.bytesOf e ≤ reachBytes := by
  refine h _ ?_
  simp [DataW.weights, hu]
end
end Go.Proofs.YtcpjdfihpdjkbaaGreatDoor



namespace Go.Proofs.YtcpjdfihpdjkbaaGreatDoor
open Go.RowKit Go.ChangeShapes Go.WideShapes Go.Deep

def allOf (w : World) : PH := fun k => w.heap[k]?
theorem allOf_sat (w : World) (g : GR (allOf w)) : Sat w (allOf w) PH.none' PH.none' := ⟨PH.dj_none _, PH.dj_none _, PH.dj_none _, fun _ _ e => e, fun _ _ e => (by cases e), fun _ _ e => (by cases e), g⟩
theorem Tri.run {P : Program} {f : FuncId} {args : Array Value} {A : HP} {u : Value} (t : Tri P f args A (fun v => HP.pure (v = u))) {w : World} (hA : A.p (allOf w) PH.none') (g : GR (allOf w) := by exact True.intro) : Calls P f args w fun e w' => e = .returned u ∧ Below w.heap.size w w' := by
  refine (t w (allOf w) PH.none' PH.none' (allOf_sat w g) hA).mono fun e w' ⟨v, he, sm, R', h', lR, s, hv⟩ => ?_
  have hv' : v = u := hv
  refine ⟨by rw [he, hv'], sm.os, sm.tape, sm.output, sm.size, fun k hk => ?_⟩
  obtain ⟨o, ho⟩ : ∃ o, w.heap[k]? = some o := ⟨w.heap[k], by simp [hk]⟩
  rw [ho]
  exact s.oR _ _ (lR _ _ ho)
section
variable {H : Type} {enc : TypeId × Value → H} {P : Program} {w : World} {base : Nat} {spare : Nat → Bool} {held : Bool}
theorem addr_plain {w : World} {a : Addr} {i : Nat} {v : Value} (h : w.cell? (a.add i) = some v) : a.add i = ⟨a.block, a.off + i, none⟩ ∧ w.cell? ⟨a.block, a.off + i, none⟩ = some v ∧ a.block < w.heap.size := by
  have key : a.add i = ⟨a.block, a.off + i, none⟩ := by
    unfold Addr.add
    split
    · rename_i e; subst e
      rw [Addr.add_zero'] at h
      obtain ⟨b, o, s⟩ := a
      cases s with
      | none => rfl
      | some s => simp [World.cell?] at h; split at h <;> simp_all
    · rfl
  rw [key] at h
  exact ⟨key, h, block_lt_of_cell (a := ⟨a.block, a.off + i, none⟩) h⟩
theorem spot_none {a : Addr} {v : Value} (h : w.cell? a = some v) : a.spot = none := by
  unfold World.cell? at h
  split at h
  · split at h
    · cases h
    · rename_i hh; simpa using hh
  · cases h
theorem take1 {cs : List Value} {i : Nat} {v : Value} (h : (cs.drop i).take 1 = [v]) : cs[i]? = some v := by
  have := congrArg List.head? h
  rw [List.head?_take, if_neg (by decide), List.head?_drop] at this
  simpa using this
theorem take1' {cs : List Value} {i : Nat} {v : Value} (h : cs[i]? = some v) : (cs.drop i).take 1 = [v] := by
  have hi : i < cs.length := (List.getElem?_eq_some_iff.1 h).1
  rw [List.drop_eq_getElem_cons hi, List.take_succ_cons, List.take_zero]
  rw [List.getElem?_eq_getElem hi] at h
  injection h with h
  rw [h]
theorem field_int {t : TypeId} {k : IntKind} {cs : List Value} {n i c : Nat} {xs : List (DataW H × List MemPlace)} {j : Nat} (hu : P.underlying t = some (.int k)) (hj : j < xs.length) (hc : c = 1)
    (h : DataW.trod enc P w base spare held n t ((cs.drop i).take c) = xs[j]?) : ∃ x, cs[i]? = some (.int k x) ∧ (Lit.int k x).wf = true := by
  subst hc
  rw [List.getElem?_eq_getElem hj] at h
  obtain ⟨x, h1, _, h2⟩ := DataW.trod_int hu h
  exact ⟨x, take1 h1, h2⟩
theorem field_bool {t : TypeId} {cs : List Value} {n i c : Nat} {xs : List (DataW H × List MemPlace)} {j : Nat} (hu : P.underlying t = some .bool) (hj : j < xs.length) (hc : c = 1)
    (h : DataW.trod enc P w base spare held n t ((cs.drop i).take c) = xs[j]?) : ∃ x, cs[i]? = some (.bool x) := by
  subst hc
  rw [List.getElem?_eq_getElem hj] at h
  obtain ⟨x, h1, _⟩ := DataW.trod_bool hu h
  exact ⟨x, take1 h1⟩
theorem field_slice {t e : TypeId} {cs : List Value} {n i c : Nat} {xs : List (DataW H × List MemPlace)} {j : Nat} (hu : P.underlying t = some (.slice e)) (hj : j < xs.length) (hc : c = 1)
    (h : DataW.trod enc P w base spare held n t ((cs.drop i).take c) = xs[j]?) : ∃ a l k, cs[i]? = some (.slice a l k) := by
  subst hc
  rw [List.getElem?_eq_getElem hj] at h
  obtain ⟨a, l, k, h1⟩ := Go.Joins.slice_form hu h
  exact ⟨a, l, k, take1 h1⟩
theorem roC_of {size : Nat} {g off : Nat} {len : Nat} {xs : List Value} (hs : 0 < size) (hl : xs.length = len * size) (hx : ∀ i v, xs[i]? = some v → w.cell? ⟨g, off + i, none⟩ = some v) {h : PH} : (RoC size (some ⟨g, off, none⟩) len xs).p (allOf w) h := by
  refine ⟨hl, fun hn => ?_⟩
  have hpos : 0 < xs.length := by rw [hl]; exact Nat.mul_pos (by omega) hs
  have h0 := hx 0 xs[0] (List.getElem?_eq_getElem hpos)
  have hobj : ∃ cur ty fr, w.heap[g]? = some (.cells cur ty fr) := by
    unfold World.cell? at h0
    cases hg : w.heap[g]? with
    | none => simp [hg] at h0
    | some o => cases o <;> simp [hg] at h0 ⊢
  obtain ⟨cur, ty, fr, hg⟩ := hobj
  refine ⟨g, off, cur, ty, fr, rfl, hg, List.ext_getElem? fun i => ?_⟩
  rw [List.getElem?_take]
  split
  · rename_i hi
    have hxi := hx i xs[i] (List.getElem?_eq_getElem hi)
    rw [cell_at hg] at hxi
    rw [List.getElem?_drop, List.getElem?_eq_getElem hi]
    simpa using hxi
  · rename_i hi
    rw [List.getElem?_eq_none (by omega)]
theorem bytes_of_trod {fuel : Nat} {v : Value} {x : DataW H × List MemPlace} (h : DataW.trod enc Tryz.prog w 0 (fun _ => true) true fuel 22 [v] = some x) (hs : Small Tryz.prog 22 x.1) :
    ∃ (a : Option Addr) (l : List UInt8) (c : Nat), v = .slice a l.length c ∧ l.length ≤ 140737488355328 ∧ ∀ h, (RoB a l.length l).p (allOf w) h := by
  rcases open_slice1 Tryz.underlying22 (by kernel_rfl) h with ⟨hcs, hx⟩ | ⟨a, len, cap, m, n, V, D, Pl, hcs, _, hl, _, hm, hx0, hx⟩
  · simp at hcs
    subst hcs
    exact ⟨none, [], 0, rfl, by simp, fun h => RoC.nil _ _ _ _⟩
  · simp at hcs
    subst hcs
    have hlm : len ≤ m := by rw [hm]; simp only [if_true]; exact hl
    have hx' : ∀ i, i < len → ∃ q : UInt8, w.cell? (a.add i) = some (u8v q) := fun i hi => by
      obtain ⟨h1, h2⟩ := hx i (by omega)
      obtain ⟨q, hq, _, hw⟩ := DataW.trod_int Tryz.underlying5 h2
      simp at hq
      simp only [Lit.wf, Bool.and_eq_true, decide_eq_true_eq] at hw
      have h0 : (0 : Int) ≤ q := hw.1
      have h255 : q ≤ 255 := hw.2
      refine ⟨UInt8.ofNat q.toNat, ?_⟩
      rw [h1, hq]
      have e : ((UInt8.ofNat q.toNat).toNat : Int) = q := by
        rw [UInt8.toNat_ofNat']
        omega
      unfold u8v
      rw [e]
    obtain ⟨z, hz⟩ := choose_lt (p := fun i q => w.cell? (a.add i) = some (u8v q)) hx'
    have hb : len ≤ 140737488355328 := by
      rw [hx0] at hs
      have := hs.len Tryz.underlying22
      have hb : Tryz.prog.bytesOf 5 = 1 := by kernel_rfl
      rw [hb] at this
      unfold reachBytes at this
      simp at this
      omega
    have hlen : ((List.range len).map z).length = len := by simp
    refine ⟨some a, (List.range len).map z, cap, by rw [hlen], by rw [hlen]; exact hb, fun h => ?_⟩
    rw [hlen]
    by_cases h0 : len = 0
    · subst h0; exact RoC.nil _ _ _ _
    · have hsp : a.spot = none := by
        have := hz 0 (by omega)
        rw [Addr.add_zero'] at this
        exact spot_none this
      obtain ⟨g, off, sp⟩ := a
      simp only at hsp
      subst hsp
      refine roC_of (by decide) (by simp) fun i v hv => ?_
      have hi : i < len := by have := (List.getElem?_eq_some_iff.1 hv).1; simpa using this
      have := (addr_plain (hz i hi)).2.1
      rw [this]
      simp [hi] at hv
      rw [← hv]
end
end Go.Proofs.YtcpjdfihpdjkbaaGreatDoor



namespace Go.Proofs.YtcpjdfihpdjkbaaGreatDoor
open Go.RowKit Go.ChangeShapes Go.WideShapes Go.Deep RX
set_option maxRecDepth 100000

def okI (x : Int) : Prop := -9223372036854775808 ≤ x ∧ x ≤ 9223372036854775807
def HP.both (A B : HP) : HP := ⟨fun R h => A.p R h ∧ B.p R h, fun l l' ⟨a, b⟩ => ⟨A.mono l l' a, B.mono l l' b⟩⟩
structure Kind (α : Type) where
  n : Nat
  pos : 0 < n
  vals : α → List Value
  len : ∀ x, (vals x).length = n
  hp : α → HP
  pers : ∀ x R h h', (hp x).p R h → (hp x).p R h'
theorem Rd.impR {S T : HP} {a : Option Addr} {xs : List Value} (r : Rd T a xs) (h : ∀ R x, S.p R x → T.p R x) : Rd S a xs := fun w R x F s p => r w R x F s (h R x p)
section
variable {α : Type}
def Ls (K : Kind α) (a : Option Addr) (n : Nat) (l : List α) : HP :=
  ⟨fun R h => l.length = n ∧ (RoC K.n a n (l.flatMap K.vals)).p R h ∧ ∀ x ∈ l, (K.hp x).p R h,
   fun lR lh ⟨h0, h1, h2⟩ => ⟨h0, (RoC _ _ _ _).mono lR lh h1, fun x hx => (K.hp x).mono lR lh (h2 x hx)⟩⟩
theorem Ls.pers {K : Kind α} {a : Option Addr} {n : Nat} {l : List α} {R h : PH} (h' : PH) (H : (Ls K a n l).p R h) : (Ls K a n l).p R h' := ⟨H.1, H.2.1, fun x hx => K.pers x _ _ _ (H.2.2 x hx)⟩
theorem flat_getL (f : α → List Value) (w : Nat) (hw : ∀ x, (f x).length = w) : ∀ (l : List α) (k j : Nat) (x : α), l[k]? = some x → j < w → (l.flatMap f)[k * w + j]? = (f x)[j]?
  | [], k, j, x, h, _ => by simp at h
  | y :: r, 0, j, x, h, hj => by
    simp at h; subst h
    rw [List.flatMap_cons, Nat.zero_mul, Nat.zero_add, List.getElem?_append_left (by rw [hw]; exact hj)]
  | y :: r, k + 1, j, x, h, hj => by
    rw [List.flatMap_cons, List.getElem?_append_right (by rw [hw, Nat.succ_mul]; omega), hw, show (k + 1) * w + j - w = k * w + j by rw [Nat.succ_mul]; omega]
    exact flat_getL f w hw r k j x (by simpa using h) hj
theorem flat_lenL (f : α → List Value) (w : Nat) (hw : ∀ x, (f x).length = w) : ∀ l : List α, (l.flatMap f).length = l.length * w
  | [] => by simp
  | x :: l => by rw [List.flatMap_cons, List.length_append, hw, flat_lenL f w hw l, List.length_cons, Nat.succ_mul, Nat.add_comm]
end
section
variable {H : Type} {enc : TypeId × Value → H} {w : World} {α : Type}
theorem slice_of_trod [Inhabited α] (K : Kind α) {t e : TypeId} (hu : Tryz.prog.underlying t = some (.slice e)) (hn : Tryz.prog.cellsOf e = K.n) (hb : 1 ≤ Tryz.prog.bytesOf e)
    (el : ∀ {cs : List Value} {n : Nat} {x : DataW H × List MemPlace}, DataW.trod enc Tryz.prog w 0 (fun _ => true) true n e cs = some x → Small Tryz.prog e x.1 → ∃ m : α, cs = K.vals m ∧ ∀ h, (K.hp m).p (allOf w) h)
    {fuel : Nat} {v : Value} {x : DataW H × List MemPlace} (h : DataW.trod enc Tryz.prog w 0 (fun _ => true) true fuel t [v] = some x) (hs : Small Tryz.prog t x.1) :
    ∃ (a : Option Addr) (l : List α) (c : Nat), v = .slice a l.length c ∧ l.length ≤ 140737488355328 ∧ ∀ h, (Ls K a l.length l).p (allOf w) h := by
  rcases open_slice hu h with ⟨hcs, _⟩ | ⟨a, len, cap, m, n, D, Pl, hcs, _, hl, hmax, hm, hxx, hx⟩
  · simp at hcs
    subst hcs
    exact ⟨none, [], 0, rfl, by simp, fun h => ⟨rfl, RoC.nil _ _ _ _, fun x hx => by cases hx⟩⟩
  · simp at hcs
    subst hcs
    rw [hn] at hx
    have hlm : len ≤ m := by rw [hm]; simp only [if_true]; exact hl
    rw [hxx] at hs
    have hbl : len ≤ 140737488355328 := by
      have := hs.len hu
      unfold reachBytes at this
      simp at this
      have h2 : (len + (m - len)) * 1 ≤ (len + (m - len)) * Tryz.prog.bytesOf e := Nat.mul_le_mul_left _ hb
      omega
    have hx' : ∀ i, i < len → ∃ q : α, (∀ j, j < K.n → w.cell? (a.add (i * K.n + j)) = (K.vals q)[j]?) ∧ ∀ h, (K.hp q).p (allOf w) h := fun i hi => by
      obtain ⟨cs', h1, h2⟩ := hx i (by omega)
      obtain ⟨q, rfl, hr⟩ := el h2 (hs.elem hu (List.mem_map.2 ⟨i, List.mem_range.2 hi, rfl⟩))
      obtain ⟨_, _, hc⟩ := World.cells?_some h1
      refine ⟨q, fun j hj => ?_, hr⟩
      rw [← add_add, hc j hj]
    obtain ⟨ra, hra⟩ := choose_lt (p := fun i (q : α) => (∀ j, j < K.n → w.cell? (a.add (i * K.n + j)) = (K.vals q)[j]?) ∧ ∀ h, (K.hp q).p (allOf w) h) hx'
    have hlen : ((List.range len).map ra).length = len := by simp
    refine ⟨some a, (List.range len).map ra, cap, by rw [hlen], by rw [hlen]; exact hbl, fun h => ⟨rfl, ?_, fun x hx => ?_⟩⟩
    · rw [hlen]
      by_cases h0 : len = 0
      · subst h0; exact RoC.nil _ _ _ _
      · have hsp : a.spot = none := by
          have h1 := (hra 0 (by omega)).1 0 K.pos
          rw [Nat.zero_mul, Nat.add_zero, Addr.add_zero', List.getElem?_eq_getElem (by rw [K.len]; exact K.pos)] at h1
          exact spot_none h1
        obtain ⟨g, off, sp⟩ := a
        simp only at hsp
        subst hsp
        have hlen2 : (((List.range len).map ra).flatMap K.vals).length = len * K.n := by rw [flat_lenL K.vals K.n K.len, hlen]
        refine roC_of K.pos hlen2 fun i v hv => ?_
        have hi : i < len * K.n := by have := (List.getElem?_eq_some_iff.1 hv).1; rw [hlen2] at this; exact this
        have hk : i / K.n < len := Nat.div_lt_of_lt_mul (by rw [Nat.mul_comm]; exact hi)
        have hj : i % K.n < K.n := Nat.mod_lt _ K.pos
        have e : i = (i / K.n) * K.n + i % K.n := by rw [Nat.mul_comm]; exact (Nat.div_add_mod i K.n).symm
        have hg : ((List.range len).map ra)[i / K.n]? = some (ra (i / K.n)) := by simp [hk]
        have h1 := flat_getL K.vals K.n K.len _ (i / K.n) (i % K.n) _ hg hj
        rw [← e] at h1
        have h2 := (hra (i / K.n) hk).1 (i % K.n) hj
        rw [← e] at h2
        rw [h1] at hv
        rw [hv] at h2
        exact (addr_plain h2).2.1
    · obtain ⟨i, hi, rfl⟩ := List.mem_map.1 hx
      exact (hra i (List.mem_range.1 hi)).2 h
theorem struct_open (K : Kind α) {t : TypeId} {fs : Array Field} (hu : Tryz.prog.underlying t = some (.struct fs))
    (el : ∀ {cs : List Value} {n : Nat} {x : DataW H × List MemPlace}, DataW.trod enc Tryz.prog w 0 (fun _ => true) true n t cs = some x → Small Tryz.prog t x.1 → ∃ m : α, cs = K.vals m ∧ ∀ h, (K.hp m).p (allOf w) h)
    {base : Nat} {v : Value} (hv : Value.okWide Tryz.prog w .any base t v) (h : ∃ d p, DataW.Trod enc Tryz.prog w 0 (fun _ => true) true t v d p ∧ Small Tryz.prog t d) :
    ∃ m : α, v = .agg (K.vals m).toArray ∧ ∀ h, (K.hp m).p (allOf w) h := by
  obtain ⟨d, p, ⟨fuel, hf⟩, hsm⟩ := h
  unfold Value.okWide at hv
  rw [hu] at hv
  obtain ⟨cs, rfl, _, _⟩ := hv
  obtain ⟨m, h1, h2⟩ := el hf hsm
  refine ⟨m, ?_, h2⟩
  have e : cs.toList = K.vals m := h1
  rw [← e]
theorem field_str {t : TypeId} {cs : List Value} {n i c : Nat} {xs : List (DataW H × List MemPlace)} {j : Nat} (hu : Tryz.prog.underlying t = some .string) (hj : j < xs.length) (hc : c = 1)
    (h : DataW.trod enc Tryz.prog w 0 (fun _ => true) true n t ((cs.drop i).take c) = xs[j]?) : ∃ x : List UInt8, cs[i]? = some (.string ⟨x.toArray⟩) ∧ x.length ≤ 9223372036854775807 := by
  subst hc
  rw [List.getElem?_eq_getElem hj] at h
  obtain ⟨s, h1, _, h2⟩ := DataW.trod_string hu h
  refine ⟨s.data.toList, by rw [take1 h1], ?_⟩
  exact Nat.le_trans (Nat.le_of_eq (Array.length_toList)) h2
theorem int_wf {x : Int} (h : (Lit.int IntKind.i64 x).wf = true) : okI x := by
  have h2 : (decide (IntKind.i64.min ≤ x) && decide (x ≤ IntKind.i64.max)) = true := h
  rw [Bool.and_eq_true] at h2
  exact ⟨of_decide_eq_true h2.1, of_decide_eq_true h2.2⟩
end
end Go.Proofs.YtcpjdfihpdjkbaaGreatDoor



namespace Go.Proofs.YtcpjdfihpdjkbaaGreatDoor
open Go.Proofs.YtcpjdfihpdjkbaaGreatDoor RX

structure PK (α : Type) where
  e : TypeId
  n : Nat
  pos : 0 < n
  vals : α → List Value
  len : ∀ x, (vals x).length = n
  one : ∀ x, ∀ u ∈ vals x, u.oneCell' = true
  rep : α → HP
section
variable {α : Type} (K : PK α)
variable {K}
end
end Go.Proofs.YtcpjdfihpdjkbaaGreatDoor



namespace Go.Proofs.YtcpjdfihpdjkbaaGreatDoor
open Go.Proofs.YtcpjdfihpdjkbaaGreatDoor RX
set_option maxRecDepth 100000

section
variable {α : Type}
end


theorem ldB1 {t e : TypeId} {d : TypeDesc} (hd : Tryz.prog.underlying t = some d) (ha : aggT Tryz.prog t = false) (hz : szT Tryz.prog t = 1) {b k : Nat} {cs : Array Value} {v : Value} (hk : cs.toList[k]? = some v) {Q : HP} :
    ORead Tryz.prog (loadS t (.pointer (some ⟨b, k, none⟩))) (HP.sep (HP.one b (.cells cs e (0, 0))) Q) v := by
  have := load1_ok hd ha hz (Rd.left (B := Q) (one_rd b cs e)) (k := k) (off := 0) (v := v) hk
  simpa [addr_add] using this
theorem ldBN {t e : TypeId} {d : TypeDesc} (hd : Tryz.prog.underlying t = some d) (ha : aggT Tryz.prog t = true) {b k : Nat} {cs : Array Value} {vs : List Value} (hz : szT Tryz.prog t = vs.length) (hp : 0 < vs.length) (hk : ∀ j v, vs[j]? = some v → cs.toList[k + j]? = some v) {Q : HP} :
    ORead Tryz.prog (loadS t (.pointer (some ⟨b, k, none⟩))) (HP.sep (HP.one b (.cells cs e (0, 0))) Q) (.agg vs.toArray) := by
  have := loadN_ok hd ha (Rd.left (B := Q) (one_rd b cs e)) (k := k) (off := 0) hz hp (fun j v hj => by rw [Nat.add_zero]; exact hk j v hj)
  simpa [addr_add] using this
theorem stB1 {t e : TypeId} {i : TypeInfo} (hi : Tryz.prog.info? t = some i) (hz : i.size = 1) {b k : Nat} {cs cs' : Array Value} {x : Value} (hx : x.cells = #[x]) (h1 : x.oneCell' = true) (hk : k < cs.size) (hc : cs' = cs.setIfInBounds k x) (Q : HP) :
    OTri Tryz.prog (storeS t (.pointer (some ⟨b, k, none⟩)) x) (HP.sep (HP.one b (.cells cs e (0, 0))) Q) (fun v => HP.and (v = .tuple #[]) (HP.sep (HP.one b (.cells cs' e (0, 0))) Q)) := by
  have := storeOne_ok hi e b cs k x [x] (by rw [hx]) (by simp [hz]) (by simp) (by simpa using h1) (by simp; omega) (by unfold maxLen; omega)
  have ec : (cs.toList.take k ++ [x] ++ cs.toList.drop (k + [x].length)).toArray = cs' := by
    rw [hc]
    apply Array.ext'
    rw [Array.toList_setIfInBounds, List.set_eq_take_append_cons_drop, if_pos (by simpa using hk)]
    simp
  rw [ec] at this
  refine (this.frame Q).weak (fun _ _ h => h) ?_
  rintro v R h ⟨h1, h2, d, l1, l2, ⟨rfl, H⟩, HU⟩
  exact ⟨rfl, h1, h2, d, l1, l2, H, HU⟩

def mkS (t : TypeId) (n c : Value) : Sem Next := do pure (.value (← Instr.makeSlice t n c))
theorem semW_mk {t ty : TypeId} {i : Nat} {u : Value} : semW (.makeSlice t (.tmp i) (.tmp i)) ty [(i, u), (i, u)] = mkS t u u := by simp [semW, execOp, arW, mkS]
theorem made_rep (z : Value) (n : Nat) : (madeCells #[z] n).toList = List.replicate n z := by
  refine List.ext_getElem (by simp [madeCells]) fun i h1 h2 => ?_
  simp [madeCells, Nat.mod_one]
theorem mk_ok {t e : TypeId} {i : TypeInfo} {z : Value} (ht : Tryz.prog.underlying t = some (.slice e)) (hi : Tryz.prog.info? e = some i) (hz : i.zero = some z) (hzs : z.cells = #[z]) (hs : i.size = 1) (n : Nat) (hb : i.bytes * n ≤ 281474976710656) (hm : n ≤ maxLen) (A : HP) :
    OTri Tryz.prog (mkS t (.int .i64 n) (.int .i64 n)) A (fun v => HP.ex fun x => HP.and (v = .slice (some ⟨x, 0, none⟩) n n) (HP.sep (OwC e 1 (some ⟨x, 0, none⟩) n n (List.replicate n z)) A)) := fun w R h F s a => by
  have hr2 := run_make (P := Tryz.prog) w t e i z ht hi hz .i64 .i64 n n (by omega) (Int.le_refl _) (by have : ((i.bytes * n : Nat) : Int) ≤ 281474976710656 := by omega
                                                                                                        rwa [Int.natCast_mul] at this) (by unfold maxLen at hm; omega)
  simp only [Int.toNat_natCast] at hr2
  obtain ⟨s1, d1⟩ := s.alloc (.cells (madeCells z.cells (n * i.size)) e)
  refine ⟨.value _, _, _, by unfold mkS; rw [Sem.run_bind, hr2]; rfl, rfl, Same.alloc w _, R, _, PH.le.refl _, s1, w.heap.size, rfl, _, _, d1, PH.un_left _ _, PH.un_right d1, ⟨by simp, .inr ⟨_, _, rfl, PH.one_self _ _, Nat.le_refl _, hm, ?_, ?_⟩⟩, a⟩
  · rw [hzs, hs]; simp [madeCells]
  · rw [hzs, hs, made_rep]; simp
end Go.Proofs.YtcpjdfihpdjkbaaGreatDoor



namespace Go.Proofs.YtcpjdfihpdjkbaaGreatDoor
open Go.Proofs.YtcpjdfihpdjkbaaGreatDoor RX
set_option maxRecDepth 100000

theorem Tri.ofCalls {P : Program} {f : FuncId} {args : Array Value} {v : Value} (A : HP) (h : ∀ w, Calls P f args w fun e w' => e = .returned v ∧ w' = w) : Tri P f args A (fun u => HP.and (u = v) A) := fun w R x F s a =>
  (h w).mono fun _ _ ⟨he, hw⟩ => ⟨v, he, by rw [hw]; exact Same.refl _, R, x, PH.le.refl _, by rw [hw]; exact s, rfl, a⟩
theorem indexByte_ok (s : List UInt8) (c : Int) (A : HP) : Tri Tryz.prog 56 #[sE s, .int .u8 c] A (fun v => HP.and (v = .int .i64 (Lib.indexByte s c.toNat.toUInt8)) A) :=
  Tri.ofCalls A fun w => by
    have := Tryz.strings_IndexByte ⟨s.toArray⟩ c w
    exact this
theorem count1_ok (s : List UInt8) (c : UInt8) (A : HP) : Tri Tryz.prog 50 #[sE s, sE [c]] A (fun v => HP.and (v = .int .i64 (s.count c)) A) :=
  Tri.ofCalls A fun w => by
    have := Tryz.strings_Count_one ⟨s.toArray⟩ c w
    exact this
theorem index1_ok (s : List UInt8) (c : UInt8) (A : HP) : Tri Tryz.prog 51 #[sE s, sE [c]] A (fun v => HP.and (v = .int .i64 (Lib.indexByte s c)) A) :=
  Tri.ofCalls A fun w => by
    have := Tryz.strings_Index_one ⟨s.toArray⟩ c w
    exact this

def splitB (c : UInt8) : List UInt8 → List (List UInt8)
  | [] => [[]]
  | b :: r => if b = c then [] :: splitB c r else match splitB c r with
    | x :: q => (b :: x) :: q
    | [] => [[b]]
theorem splitB_len (c : UInt8) : ∀ s, (splitB c s).length = s.count c + 1
  | [] => rfl
  | b :: r => by
    have ih := splitB_len c r
    unfold splitB
    by_cases h : b = c
    · subst h; rw [if_pos rfl]; simp [ih]
    · rw [if_neg h]
      cases hq : splitB c r with
      | nil => rw [hq] at ih; simp at ih
      | cons x q => rw [hq] at ih; simp at ih ⊢; rw [List.count_cons_of_ne h]; omega
theorem splitB_none {c : UInt8} : ∀ {s : List UInt8}, s.count c = 0 → splitB c s = [s]
  | [], _ => rfl
  | b :: r, h => by
    have hb : b ≠ c := fun e => by subst e; simp at h
    rw [List.count_cons_of_ne hb] at h
    unfold splitB
    rw [if_neg hb, splitB_none h]
theorem idx_neg {s : List UInt8} {c : UInt8} (h : Lib.indexByte s c < 0) : s.count c = 0 := by
  have h1 : Lib.indexByte s c = -1 := by have := Lib.indexByte_ge s c; omega
  rw [List.count_eq_zero]
  intro hm
  obtain ⟨k, hk, e⟩ := List.mem_iff_getElem.1 hm
  exact Lib.indexByte_none h1 k (by rw [List.getElem?_eq_getElem hk, e])
theorem splitB_at {c : UInt8} : ∀ {s : List UInt8} {o : Nat}, Lib.indexByte s c = o → splitB c s = s.take o :: splitB c (s.drop (o + 1)) ∧ o < s.length ∧ s.count c = (s.drop (o + 1)).count c + 1
  | [], o, h => by unfold Lib.indexByte at h; omega
  | b :: r, o, h => by
    unfold Lib.indexByte at h
    rw [show splitB c (b :: r) = if b = c then [] :: splitB c r else match splitB c r with
      | x :: q => (b :: x) :: q
      | [] => [[b]] from rfl]
    by_cases hb : b = c
    · subst hb
      rw [if_pos (by simp)] at h
      obtain rfl : o = 0 := by omega
      rw [if_pos rfl]
      simp
    · rw [if_neg (by simpa using hb)] at h
      split at h
      · omega
      · rename_i hq
        have h0 : Lib.indexByte r c ≠ -1 := by simpa using hq
        have h00 := Lib.indexByte_ge r c
        obtain ⟨p, rfl⟩ : ∃ p, o = p + 1 := ⟨o - 1, by omega⟩
        obtain ⟨h1, h2, h3⟩ := splitB_at (c := c) (s := r) (o := p) (by omega)
        rw [if_neg hb, h1, List.count_cons_of_ne hb]
        simp only [List.take_succ_cons, List.drop_succ_cons, List.length_cons]
        exact ⟨trivial, by omega, h3⟩


abbrev OwS (a : Option Addr) (n c : Nat) (l : List (List UInt8)) : HP := OwC 9 1 a n c (l.map sE)
theorem infoStr : (Tryz.prog.info? 9).map (fun i => (i.zero, i.size, i.bytes)) = some (some (.string .empty), 1, 16) := by kernel_rfl
theorem undSs : Tryz.prog.underlying 30 = some (.slice 9) := by kernel_rfl
theorem undStr : Tryz.prog.underlying 9 = some .string := by kernel_rfl
theorem aggStr : aggT Tryz.prog 9 = false := by kernel_rfl
theorem szStr : szT Tryz.prog 9 = 1 := by kernel_rfl
end Go.Proofs.YtcpjdfihpdjkbaaGreatDoor



namespace Go.Proofs.YtcpjdfihpdjkbaaGreatDoor.RX
set_option maxRecDepth 100000
-- tideline/path.Name: no such function
-- tideline/path.Split: no such function
-- tideline/path.Split$1: no such function
-- slices.ContainsFunc[[]string,string]: no such function
-- slices.IndexFunc[[]string,string]: no such function
-- tideline/path.Join: no such function
-- tideline/path.Parent: no such function
-- tideline/path.Inside: no such function
-- slices.Equal[[]string,string]: no such function
-- strings.Split: ρ := [.s s, .s sep]
def t_sSplit : T :=
(.call 32 [.a (.str (.v 0)), .a (.str (.v 1)), .a (.int .i64 (.i 0)), .a (.int .i64 (.i (-1)))] [] [.a, .n, .n, .p] (.w (.a (.sl (.v 2) (.v 3) (.v 4)))) [(.a 2, .prop 5)]
(.ret (.w (.a (.sl (.v 2) (.v 3) (.v 4)))) [(.a 2, .prop 5)]))
theorem tree_sSplit : tree Tryz.prog { keep := [99999, 99999, 99999, 99999, 99999, 99999, 99999, 99999, 99999, 15, 56, 99999], opn := true, rdf := true } Tryz.f15 [.a (.str (.v 0)), .a (.str (.v 1))] [] 2 = t_sSplit := by kernel_rfl
def t_sGenSplit : T :=
(.br (.o2 .eq (.v 3) (.i 0))
(.ret (.w (.a (.sl .nil (.n 0) (.n 0)))) [])
(.br (.o2 .seq (.v 1) (.s []))
(.call 49 [.a (.str (.v 0)), .a (.int .i64 (.v 3))] [] [.a, .n, .n, .p] (.w (.a (.sl (.v 4) (.v 5) (.v 6)))) [(.a 4, .prop 7)]
(.ret (.w (.a (.sl (.v 4) (.v 5) (.v 6)))) [(.a 4, .prop 7)]))
(.br (.o2 .lt (.v 3) (.i 0))
(.call 50 [.a (.str (.v 0)), .a (.str (.v 1))] [] [.i] (.w (.a (.int .i64 (.v 4)))) []
(.need (.o1 (.inr .i64) (.o2 .add (.v 4) (.i 1)))
(.need (.o1 (.inr .i64) (.o2 .add (.o1 .ofNat (.o1 .size (.v 0))) (.i 1)))
(.op (.makeSlice 30 (.tmp 30) (.tmp 30)) 30 [(30, .w (.a (.int .i64 (.o2 .mn (.o2 .add (.v 4) (.i 1)) (.o2 .add (.o1 .ofNat (.o1 .size (.v 0))) (.i 1)))))), (30, .w (.a (.int .i64 (.o2 .mn (.o2 .add (.v 4) (.i 1)) (.o2 .add (.o1 .ofNat (.o1 .size (.v 0))) (.i 1))))))] [] [.a, .n, .n, .p] (.w (.a (.sl (.v 5) (.v 6) (.v 7)))) [(.a 5, .prop 8)]
(.need (.o1 (.inr .i64) (.o2 .sub (.o2 .mn (.o2 .add (.v 4) (.i 1)) (.o2 .add (.o1 .ofNat (.o1 .size (.v 0))) (.i 1))) (.i 1)))
(.loop [.s, .i, .p] [.e (.o2 .cat (.v 0) (.s [])), .e (.o1 .neg (.o1 .neg (.i 0))), .p [(.a 5, .prop 8)]]
(.br (.o2 .lt (.v 10) (.o2 .sub (.o2 .mn (.o2 .add (.v 4) (.i 1)) (.o2 .add (.o1 .ofNat (.o1 .size (.v 0))) (.i 1))) (.i 1)))
(.call 51 [.a (.str (.v 9)), .a (.str (.v 1))] [] [.i] (.w (.a (.int .i64 (.v 12)))) []
(.br (.o2 .lt (.v 12) (.i 0))
(.need (.o2 .le (.i 0) (.v 10))
(.need (.o2 .lt (.v 10) (.o1 .ofNat (.v 6)))
(.need (.o1 .isSome (.v 5))
(.op (.store 9 (.tmp 61) (.tmp 60)) 0 [(61, .w (.a (.eptr 5 (.v 10) 1 0))), (60, .w (.a (.str (.v 9))))] [(.a 5, .prop 11)] [.p] (.tup []) [(.a 5, .prop 13)]
(.need (.o1 (.inr .i64) (.o2 .add (.v 10) (.i 1)))
(.read (.slice 30 (.tmp 62) none (some (.tmp 64)) none) 30 [(62, .w (.a (.sl (.v 5) (.v 6) (.v 7)))), (64, .w (.a (.int .i64 (.o2 .add (.v 10) (.i 1)))))] [(.a 5, .prop 13)] [.a, .n, .n] (.w (.a (.sl (.v 14) (.v 15) (.v 16))))
(.ret (.w (.a (.sl (.v 14) (.v 15) (.v 16)))) [(.a 5, .prop 13)])))))))
(.need (.o1 (.inr .i64) (.o2 .add (.v 12) (.v 2)))
(.read (.slice 9 (.tmp 44) none (some (.tmp 47)) none) 9 [(44, .w (.a (.str (.v 9)))), (47, .w (.a (.int .i64 (.o2 .add (.v 12) (.v 2)))))] [] [.s] (.w (.a (.str (.v 13))))
(.need (.o2 .le (.i 0) (.v 10))
(.need (.o2 .lt (.v 10) (.o1 .ofNat (.v 6)))
(.need (.o1 .isSome (.v 5))
(.op (.store 9 (.tmp 49) (.tmp 48)) 0 [(49, .w (.a (.eptr 5 (.v 10) 1 0))), (48, .w (.a (.str (.v 13))))] [(.a 5, .prop 11)] [.p] (.tup []) [(.a 5, .prop 14)]
(.need (.o1 (.inr .i64) (.o2 .add (.v 12) (.o1 .ofNat (.o1 .size (.v 1)))))
(.read (.slice 9 (.tmp 50) (some (.tmp 54)) none none) 9 [(50, .w (.a (.str (.v 9)))), (54, .w (.a (.int .i64 (.o2 .add (.v 12) (.o1 .ofNat (.o1 .size (.v 1)))))))] [] [.s] (.w (.a (.str (.v 15))))
(.need (.o1 (.inr .i64) (.o2 .add (.v 10) (.i 1)))
(.again 0 [.e (.o2 .cat (.v 15) (.s [])), .e (.o1 .neg (.o1 .neg (.o2 .add (.v 10) (.i 1)))), .p [(.a 5, .prop 14)]]))))))))))))
(.need (.o2 .le (.i 0) (.v 10))
(.need (.o2 .lt (.v 10) (.o1 .ofNat (.v 6)))
(.need (.o1 .isSome (.v 5))
(.op (.store 9 (.tmp 61) (.tmp 60)) 0 [(61, .w (.a (.eptr 5 (.v 10) 1 0))), (60, .w (.a (.str (.v 9))))] [(.a 5, .prop 11)] [.p] (.tup []) [(.a 5, .prop 12)]
(.need (.o1 (.inr .i64) (.o2 .add (.v 10) (.i 1)))
(.read (.slice 30 (.tmp 62) none (some (.tmp 64)) none) 30 [(62, .w (.a (.sl (.v 5) (.v 6) (.v 7)))), (64, .w (.a (.int .i64 (.o2 .add (.v 10) (.i 1)))))] [(.a 5, .prop 12)] [.a, .n, .n] (.w (.a (.sl (.v 13) (.v 14) (.v 15))))
(.ret (.w (.a (.sl (.v 13) (.v 14) (.v 15)))) [(.a 5, .prop 12)]))))))))))))))
(.need (.o1 (.inr .i64) (.o2 .add (.o1 .ofNat (.o1 .size (.v 0))) (.i 1)))
(.op (.makeSlice 30 (.tmp 30) (.tmp 30)) 30 [(30, .w (.a (.int .i64 (.o2 .mn (.v 3) (.o2 .add (.o1 .ofNat (.o1 .size (.v 0))) (.i 1)))))), (30, .w (.a (.int .i64 (.o2 .mn (.v 3) (.o2 .add (.o1 .ofNat (.o1 .size (.v 0))) (.i 1))))))] [] [.a, .n, .n, .p] (.w (.a (.sl (.v 4) (.v 5) (.v 6)))) [(.a 4, .prop 7)]
(.need (.o1 (.inr .i64) (.o2 .sub (.o2 .mn (.v 3) (.o2 .add (.o1 .ofNat (.o1 .size (.v 0))) (.i 1))) (.i 1)))
(.loop [.s, .i, .p] [.e (.o2 .cat (.v 0) (.s [])), .e (.o1 .neg (.o1 .neg (.i 0))), .p [(.a 4, .prop 7)]]
(.br (.o2 .lt (.v 9) (.o2 .sub (.o2 .mn (.v 3) (.o2 .add (.o1 .ofNat (.o1 .size (.v 0))) (.i 1))) (.i 1)))
(.call 51 [.a (.str (.v 8)), .a (.str (.v 1))] [] [.i] (.w (.a (.int .i64 (.v 11)))) []
(.br (.o2 .lt (.v 11) (.i 0))
(.need (.o2 .le (.i 0) (.v 9))
(.need (.o2 .lt (.v 9) (.o1 .ofNat (.v 5)))
(.need (.o1 .isSome (.v 4))
(.op (.store 9 (.tmp 61) (.tmp 60)) 0 [(61, .w (.a (.eptr 4 (.v 9) 1 0))), (60, .w (.a (.str (.v 8))))] [(.a 4, .prop 10)] [.p] (.tup []) [(.a 4, .prop 12)]
(.need (.o1 (.inr .i64) (.o2 .add (.v 9) (.i 1)))
(.read (.slice 30 (.tmp 62) none (some (.tmp 64)) none) 30 [(62, .w (.a (.sl (.v 4) (.v 5) (.v 6)))), (64, .w (.a (.int .i64 (.o2 .add (.v 9) (.i 1)))))] [(.a 4, .prop 12)] [.a, .n, .n] (.w (.a (.sl (.v 13) (.v 14) (.v 15))))
(.ret (.w (.a (.sl (.v 13) (.v 14) (.v 15)))) [(.a 4, .prop 12)])))))))
(.need (.o1 (.inr .i64) (.o2 .add (.v 11) (.v 2)))
(.read (.slice 9 (.tmp 44) none (some (.tmp 47)) none) 9 [(44, .w (.a (.str (.v 8)))), (47, .w (.a (.int .i64 (.o2 .add (.v 11) (.v 2)))))] [] [.s] (.w (.a (.str (.v 12))))
(.need (.o2 .le (.i 0) (.v 9))
(.need (.o2 .lt (.v 9) (.o1 .ofNat (.v 5)))
(.need (.o1 .isSome (.v 4))
(.op (.store 9 (.tmp 49) (.tmp 48)) 0 [(49, .w (.a (.eptr 4 (.v 9) 1 0))), (48, .w (.a (.str (.v 12))))] [(.a 4, .prop 10)] [.p] (.tup []) [(.a 4, .prop 13)]
(.need (.o1 (.inr .i64) (.o2 .add (.v 11) (.o1 .ofNat (.o1 .size (.v 1)))))
(.read (.slice 9 (.tmp 50) (some (.tmp 54)) none none) 9 [(50, .w (.a (.str (.v 8)))), (54, .w (.a (.int .i64 (.o2 .add (.v 11) (.o1 .ofNat (.o1 .size (.v 1)))))))] [] [.s] (.w (.a (.str (.v 14))))
(.need (.o1 (.inr .i64) (.o2 .add (.v 9) (.i 1)))
(.again 0 [.e (.o2 .cat (.v 14) (.s [])), .e (.o1 .neg (.o1 .neg (.o2 .add (.v 9) (.i 1)))), .p [(.a 4, .prop 13)]]))))))))))))
(.need (.o2 .le (.i 0) (.v 9))
(.need (.o2 .lt (.v 9) (.o1 .ofNat (.v 5)))
(.need (.o1 .isSome (.v 4))
(.op (.store 9 (.tmp 61) (.tmp 60)) 0 [(61, .w (.a (.eptr 4 (.v 9) 1 0))), (60, .w (.a (.str (.v 8))))] [(.a 4, .prop 10)] [.p] (.tup []) [(.a 4, .prop 11)]
(.need (.o1 (.inr .i64) (.o2 .add (.v 9) (.i 1)))
(.read (.slice 30 (.tmp 62) none (some (.tmp 64)) none) 30 [(62, .w (.a (.sl (.v 4) (.v 5) (.v 6)))), (64, .w (.a (.int .i64 (.o2 .add (.v 9) (.i 1)))))] [(.a 4, .prop 11)] [.a, .n, .n] (.w (.a (.sl (.v 12) (.v 13) (.v 14))))
(.ret (.w (.a (.sl (.v 12) (.v 13) (.v 14)))) [(.a 4, .prop 11)])))))))))))))))
theorem tree_sGenSplit : tree Tryz.prog { hv := [(0, [.a 5, .a 4])], keep := [99999, 99999, 99999, 99999, 99999, 99999, 99999, 99999, 99999, 15, 56, 99999], opn := true, rdf := true } Tryz.f32 [.a (.str (.v 0)), .a (.str (.v 1)), .a (.int .i64 (.v 2)), .a (.int .i64 (.v 3))] [] 4 = t_sGenSplit := by kernel_rfl
def t_bWriteByte : T :=
(.call 47 [.a (.val 0)] [(.a 0, .prop 1)] [.p] (.tup []) [(.a 0, .prop 3)]
(.read (.nilCheck (.tmp 8)) 0 [(8, .w (.a (.val 0)))] [(.a 0, .prop 3)] [.n] (.w (.a (.ptr (.v 4) 0)))
(.read (.load 22 (.tmp 10)) 22 [(10, .w (.a (.ptr (.v 4) 1)))] [(.a 0, .prop 3)] [.a, .n, .n] (.w (.a (.sl (.v 5) (.v 6) (.v 7))))
(.new
(.op (.call ⟨.builtin .append, #[.tmp 11, .tmp 13], #[22, 22]⟩) 22 [(11, .w (.a (.sl (.v 5) (.v 6) (.v 7)))), (13, .w (.a (.sl (.b (.v 8) 0) (.n 1) (.n 1))))] [(.a 0, .prop 3), (.b (.v 8), .cells [.int .u8 (.v 2)] 5)] [.a, .n, .n, .p, .p] (.w (.a (.sl (.v 9) (.v 10) (.v 11)))) [(.a 9, .prop 12), (.a 0, .prop 13), (.b (.v 8), .cells [.int .u8 (.v 2)] 5)]
(.read (.nilCheck (.tmp 7)) 0 [(7, .w (.a (.val 0)))] [(.a 0, .prop 13)] [.n] (.w (.a (.ptr (.v 14) 0)))
(.op (.store 22 (.tmp 16) (.tmp 14)) 0 [(16, .w (.a (.ptr (.v 14) 1))), (14, .w (.a (.sl (.v 9) (.v 10) (.v 11))))] [(.a 0, .prop 13), (.a 9, .prop 12)] [.p] (.tup []) [(.a 0, .prop 15)]
(.ret (.w (.a .nili)) [(.a 0, .prop 15)]))))))))
theorem tree_bWriteByte : tree Tryz.prog { opq := [69], keep := [99999, 99999, 99999, 99999, 99999, 99999, 99999, 99999, 99999, 15, 56, 99999], opn := true, rdf := true } Tryz.f34 [.a (.val 0), .a (.int .u8 (.v 2))] [(.a 0, .prop 1)] 3 = t_bWriteByte := by kernel_rfl
def t_bString : T :=
(.join [.s, .p]
(.read (.load 22 (.tmp 5)) 22 [(5, .w (.a (.ptr (.v 0) 1)))] [(.b (.v 0), .prop 1)] [.a, .n, .n] (.w (.a (.sl (.v 2) (.v 3) (.v 4))))
 (.all
(.op (.call ⟨.builtin .unsafeSliceData, #[.tmp 6], #[22]⟩) 96 [(6, .w (.a (.sl (.v 2) (.v 3) (.v 4))))] [(.b (.v 0), .prop 1)] [.n, .p, .p] (.w (.a (.ptr (.v 5) 0))) [(.b (.v 5), .prop 6), (.b (.v 0), .prop 7)]
(.read (.load 22 (.tmp 10)) 22 [(10, .w (.a (.ptr (.v 0) 1)))] [(.b (.v 0), .prop 7)] [.a, .n, .n] (.w (.a (.sl (.v 8) (.v 9) (.v 10))))
(.op (.call ⟨.builtin .unsafeString, #[.tmp 7, .tmp 12], #[96, 3]⟩) 9 [(7, .w (.a (.ptr (.v 5) 0))), (12, .w (.a (.int .i64 (.o1 .ofNat (.v 9)))))] [(.b (.v 5), .prop 6)] [.s, .p] (.w (.a (.str (.v 11)))) [(.b (.v 5), .prop 12)]
(.again 0 [.e (.o2 .cat (.v 11) (.s [])), .p [(.b (.v 0), .prop 7)]]))))
(.read (.load 22 (.tmp 10)) 22 [(10, .w (.a (.ptr (.v 0) 1)))] [(.b (.v 0), .prop 1)] [.a, .n, .n] (.w (.a (.sl (.v 5) (.v 6) (.v 7))))
(.op (.call ⟨.builtin .unsafeSliceData, #[.tmp 6], #[22]⟩) 96 [(6, .w (.a (.sl (.v 2) (.v 3) (.v 4))))] [(.b (.v 0), .prop 1)] [.n, .p, .p] (.w (.a (.ptr (.v 8) 0))) [(.b (.v 8), .prop 9), (.b (.v 0), .prop 10)]
(.op (.call ⟨.builtin .unsafeString, #[.tmp 7, .tmp 12], #[96, 3]⟩) 9 [(7, .w (.a (.ptr (.v 8) 0))), (12, .w (.a (.int .i64 (.o1 .ofNat (.v 6)))))] [(.b (.v 8), .prop 9)] [.s, .p] (.w (.a (.str (.v 11)))) [(.b (.v 8), .prop 12)]
(.again 0 [.e (.o2 .cat (.v 11) (.s [])), .p [(.b (.v 0), .prop 10)]]))))))
(.ret (.w (.a (.str (.v 2)))) [(.b (.v 0), .prop 3)]))
theorem tree_bString : tree Tryz.prog { keep := [99999, 99999, 99999, 99999, 99999, 99999, 99999, 99999, 99999, 15, 56, 99999], opn := true, rdf := true, jn := [((3, 2), some { ss := [.s, .p], n := 4, tv := [(3, none), (4, none), (5, none), (6, none), (7, none), (8, none), (9, none), (10, none), (11, none), (12, none), (13, none), (2, some (.w (.a (.str (.v 2)))))], h := [(.b (.v 0), .prop 3)], lk := [] })] } Tryz.f31 [.a (.ptr (.v 0) 0)] [(.b (.v 0), .prop 1)] 2 = t_bString := by kernel_rfl
def t_bCopyCheck : T :=
(.read (.nilCheck (.tmp 2)) 0 [(2, .w (.a (.val 0)))] [(.a 0, .prop 1)] [.n] (.w (.a (.ptr (.v 2) 0)))
(.read (.load 69 (.tmp 4)) 69 [(4, .w (.a (.ptr (.v 2) 0)))] [(.a 0, .prop 1)] [.v] (.w (.a (.val 3)))
(.read (.binOp .eql 69 (.tmp 5) (.const (.pointer none)) 69) 4 [(5, .w (.a (.val 3)))] [(.a 0, .prop 1)] [.c] (.w (.a (.bool (.v 4))))
(.br (.v 4)
(.read (.convert 69 106 (.tmp 8)) 106 [(8, .w (.a (.val 0)))] [(.a 0, .prop 1)] [.v] (.w (.a (.val 5)))
(.op (.call ⟨.value (.func 57), #[.tmp 9], #[106]⟩) 106 [(9, .w (.a (.val 5)))] [(.a 0, .prop 1)] [.v, .p, .p] (.w (.a (.val 6))) [(.a 6, .prop 7), (.a 0, .prop 8)]
(.read (.convert 106 69 (.tmp 10)) 69 [(10, .w (.a (.val 6)))] [(.a 6, .prop 7), (.a 0, .prop 8)] [.v] (.w (.a (.val 9)))
(.read (.nilCheck (.tmp 7)) 0 [(7, .w (.a (.val 0)))] [(.a 0, .prop 8)] [.n] (.w (.a (.ptr (.v 10) 0)))
(.op (.store 69 (.tmp 13) (.tmp 11)) 0 [(13, .w (.a (.ptr (.v 10) 0))), (11, .w (.a (.val 9)))] [(.a 0, .prop 8), (.a 6, .prop 7)] [.p] (.tup []) [(.a 0, .prop 11)]
(.ret (.tup []) [(.a 0, .prop 11)]))))))
(.read (.nilCheck (.tmp 14)) 0 [(14, .w (.a (.val 0)))] [(.a 0, .prop 1)] [.n] (.w (.a (.ptr (.v 5) 0)))
(.read (.load 69 (.tmp 16)) 69 [(16, .w (.a (.ptr (.v 5) 0)))] [(.a 0, .prop 1)] [.v] (.w (.a (.val 6)))
(.read (.binOp .neq 69 (.tmp 17) (.tmp 18) 69) 4 [(17, .w (.a (.val 6))), (18, .w (.a (.val 0)))] [(.a 0, .prop 1)] [.c] (.w (.a (.bool (.v 7))))
(.br (.v 7)
(.fail 90)
(.ret (.tup []) [(.a 0, .prop 1)])))))))))
theorem tree_bCopyCheck : tree Tryz.prog { opq := [69], keep := [99999, 99999, 99999, 99999, 99999, 99999, 99999, 99999, 99999, 15, 56, 99999], opn := true, rdf := true, peek := [69] } Tryz.f47 [.a (.val 0)] [(.a 0, .prop 1)] 2 = t_bCopyCheck := by kernel_rfl
end Go.Proofs.YtcpjdfihpdjkbaaGreatDoor.RX

