/- A run's steps mean what they say: calls, operations by a contract of their own, stores. No condition. -/
import Derived.Test.YtmibmjehjagmbaaSndF
namespace Go.Proofs.Ytmibmjehjagmbaa.RX
open Go.Proofs.Ytmibmjehjagmbaa

section
variable {P : Program} {post : Value → HP} {w0 w : World} {F R h : PH} {ρ : Env} {L : List (Env → Prop)} {s : S} {a : Act}

theorem execOp_only (f : Operand → Value) (d : Option Tmp) (op : Op) (ty : TypeId) (p : String) (af : Array Edge) (g : Option (Nat × Bool)) :
    execOp f ⟨d, op, ty, p, af, g⟩ = execOp f ⟨none, op, ty, "", #[], none⟩ := by cases op <;> rfl
theorem arOf_den (tm : Tm ρ s.t a) : ∀ {ts : List Tmp} {ar : List (Nat × V)}, arOf s ts = some ar → ∀ t ∈ ts, arEval ρ ar (.tmp t) = a.eval (.tmp t)
  | [], _, _, t, ht => by cases ht
  | x :: r, ar, e, t, ht => by
    simp only [arOf] at e
    split at e
    · rename_i v hv
      simp only [Option.map_eq_some_iff] at e
      obtain ⟨l, hl, rfl⟩ := e
      have hx := ev_den tm hv
      by_cases hxt : x = t
      · subst hxt
        rw [hx]
        simp [arEval]
      · have ht' : t ∈ r := by
          cases ht with
          | head => exact absurd rfl hxt
          | tail _ h => exact h
        rw [← arOf_den tm hl t ht']
        have : (x == t) = false := by simpa using hxt
        simp [arEval, this]
    · cases e
theorem semOf_eq {o : Oper} {ar : List (Nat × V)} (tm : Tm ρ s.t a) (hs : isSel o.op = false) (e : arOf s (opTmps o.op) = some ar) : execOp a.eval o = semOf ρ o.op o.type ar := by
  obtain ⟨d, op, ty, p, af, g⟩ := o
  unfold semOf
  rw [execOp_only a.eval d op ty p af g]
  refine execOp_congr _ (fun cs b hh => ?_) fun x hx => ?_
  · simp only at hh hs
    subst hh
    cases hs
  · cases x with
    | tmp t =>
      refine (arOf_den tm e t ?_).symm
      unfold opTmps
      exact List.mem_filterMap.2 ⟨.tmp t, by simpa using hx, rfl⟩
    | _ => rfl

/-- Some of the heap is handed over, and something else comes back. -/
theorem Ok.hand (ok : Ok ρ s a w0 w R h F) (q : Key × C → Bool) : ∃ h1 h2, Sat w R h1 (h2.un F) ∧ h2.dj F ∧ (hden ρ (s.h.filter q)).p R h1 ∧ (hden ρ (s.h.filter fun x => !q x)).p R h2 := by
  obtain ⟨h1, h2, d, l1, l2, a1, a2⟩ := hden_filter q ok.hp
  exact ⟨h1, h2, ok.sat.cut d l1 l2, ok.sat.dhF.le l2 (PH.le.refl _), a1, a2⟩
theorem Ok.back (ok : Ok ρ s a w0 w R h F) (hb : s.bel = true) {w' : World} {R' h1 h2 : PH} (sm : Same w w') (s1 : Sat w' R' h1 (h2.un F)) (d : h2.dj F) (lR : R.le R') {xs : Env} {n : Nat} (hn : n = s.n + xs.length) {nb rest : Hp} {lk : List (Nat × Key)}
    (hr : ∀ x ∈ rest, x ∈ s.h) (p2 : (hden ρ rest).p R h2) (p1 : (hden (ρ ++ xs) nb).p R' h1) (dst : Option Tmp) (v : V) :
    Ok (ρ ++ xs) ({ s with n := n, h := nb ++ rest, lk := lk }.put dst v) (a.put dst (v.den (ρ ++ xs))) w0 w' R' (h1.un h2) F := by
  have hb0 := hb
  simp only [S.bel, Bool.and_eq_true] at hb
  have hrest : hbel ρ.length rest = true := List.all_eq_true.2 fun x hx => by
    have := List.all_eq_true.1 hb.1.1.2 x (hr x hx)
    rw [ok.len]; exact this
  obtain ⟨s2, d12⟩ := s1.join d
  have k1 := ok.app hb0 xs n hn
  have k2 : Ok (ρ ++ xs) { s with n := n, h := nb ++ rest, lk := lk } a w0 w' R' (h1.un h2) F :=
    ⟨k1.dfr, k1.tm, k1.len, k1.kn, hden_app2.2 ⟨h1, h2, d12, PH.un_left _ _, PH.un_right d12, p1, by rw [hden_app hrest]; exact (hden ρ rest).mono lR (PH.le.refl _) p2⟩, s2, ok.same.trans sm⟩
  exact k2.put dst v

theorem subH_den {m l : Hp} (c : subH m l = true) {R h : PH} (H : (hden ρ l).p R h) : (hden ρ m).p R h := by
  simp only [subH, Bool.and_eq_true] at c
  exact hden_sub c.1 (fun x hx => by simpa using List.all_eq_true.1 c.2 x hx) H
theorem genOp_ok {cfg : Cfg} {o : Oper} {K : S → T} {Q : Exit → Act → World → Prop} (ok : Ok ρ s a w0 w R h F) (hl : L.length = s.dp) (hd : (genOp P cfg s o K).den P post L ρ) :
    o.wp P a w (Nx ⟨P, post, w0, F, ρ, R, L⟩ K) Q := by
  unfold genOp at hd
  split at hd
  · exact hd.elim
  rename_i hsel
  have hsel' : isSel o.op = false := by simpa using hsel
  split at hd
  · exact hd.elim
  rename_i ar har
  have hsem := semOf_eq ok.tm hsel' har
  unfold Oper.wp
  rw [hsem]
  simp only at hd
  split at hd
  · exact hd.elim
  rename_i hsub
  simp only [Bool.not_eq_true', Bool.not_eq_false] at hsub
  split at hd
  · split at hd
    · rename_i hb
      simp only [Bool.and_eq_true, decide_eq_true_eq] at hb
      obtain ⟨xs, hxl, hr, hk⟩ := exP_elim hd
      obtain ⟨h1, h2, s1, d1, p1, p2⟩ := ok.hand (fun x => (reach s.h s.lk 60 (ar.flatMap fun x => keysV x.2) []).contains x.1)
      rw [hr w R h1 _ s1 (subH_den hsub p1)]
      have k1 := ok.app hb.1 xs _ (hb.2.trans (by rw [hxl]))
      have k2 : Ok (ρ ++ xs) { s with n := (resR P cfg s.n o).n, lk := linksOf o.op s s.n (resR P cfg s.n o).v ++ s.lk } a w0 w R h F := ⟨k1.dfr, k1.tm, k1.len, k1.kn, k1.hp, k1.sat, k1.same⟩
      refine ⟨ρ ++ xs, _, R, h, L, List.prefix_append ρ xs, PH.le.refl _, List.suffix_refl _, ?_, k2.put _ _, hk⟩
      cases o.dst <;> exact hl
    · exact hd.elim
  · split at hd
    · rename_i hb
      simp only [Bool.and_eq_true, decide_eq_true_eq] at hb
      obtain ⟨hb, hn⟩ := hb
      obtain ⟨h1, h2, s1, d1, p1, p2⟩ := ok.hand (fun x => (reach s.h s.lk 60 (ar.flatMap fun x => keysV x.2) []).contains x.1)
      obtain ⟨nx, v, w', hrun, hout, sm, R', h1', lR, s2, hB⟩ := hd w R h1 _ s1 (subH_den hsub p1)
      obtain ⟨xs, hxl, hv, hk, hnb⟩ := exs_elim hB
      rw [hrun]
      have key : Nx ⟨P, post, w0, F, ρ, R, L⟩ K (a.put o.dst v) w' := by
        rw [hv]
        refine ⟨_, _, R', h1'.un h2, L, List.prefix_append ρ xs, lR, List.suffix_refl _, ?_, ok.back hb sm s2 d1 lR ?_ (fun x hx => (List.mem_filter.1 hx).1) p2 hnb _ _, hk⟩
        · cases o.dst <;> exact hl
        · rw [hxl]; exact hn
      cases nx <;> simp only [outOf] at hout <;> first | (cases hout; done) | skip
      · cases hout; exact key
      · cases hout; exact key
    · exact hd.elim
theorem mapW_den (tm : Tm ρ s.t a) : ∀ {l : List Operand} {ws : List W}, mapM' (evW s) l = some ws → l.map a.eval = ws.map (W.den ρ)
  | [], ws, e => by cases e; rfl
  | x :: r, ws, e => by
    simp only [mapM'] at e
    split at e
    · rename_i y hy
      split at e
      · rename_i q hq; cases e; simp [evW_den tm hy, mapW_den tm hq]
      · cases e
    · cases e
theorem callF_ok {cfg : Cfg} {o : Oper} {K : S → T} {Q : Exit → Act → World → Prop} {f : FuncId} {args : List W} (ok : Ok ρ s a w0 w R h F) (hl : L.length = s.dp) (hd : (callF P cfg s o f args K).den P post L ρ)
    (hx : (execOp a.eval o).run P w = (callFunc f (args.map (W.den ρ)).toArray).run P w) : o.wp P a w (Nx ⟨P, post, w0, F, ρ, R, L⟩ K) Q := by
  unfold callF at hd
  split at hd
  · exact hd.elim
  rename_i fn hfn
  simp only at hd
  split at hd
  · exact hd.elim
  rename_i hsub
  simp only [Bool.not_eq_true', Bool.not_eq_false] at hsub
  split at hd
  · rename_i hb
    simp only [Bool.and_eq_true, decide_eq_true_eq] at hb
    obtain ⟨⟨⟨⟨hb, hbody⟩, hname⟩, hn1⟩, hn2⟩ := hb
    have hrun : (callFunc f (args.map (W.den ρ)).toArray).run P w = .ok (.enter f (args.map (W.den ρ)).toArray) w := by
      have hnb : fn.body.isNone = false := by cases hq : fn.body <;> simp_all
      have hnn : (fn.name == "runtime.NumGoroutine") = false := by simpa using hname
      simp only [callFunc, program, Sem.run_bind, Sem.run, Result.andThen_ok, hfn, hnn, hnb, Bool.false_eq_true, if_false]
      rfl
    unfold Oper.wp
    rw [hx, hrun, Oper.upon_enter]
    obtain ⟨h1, h2, s1, d1, p1, p2⟩ := ok.hand (fun x => (reach s.h s.lk 60 (args.flatMap fun x => x.list.flatMap keysA) []).contains x.1)
    split at hd
    · refine (hd w R h1 _ s1 (subH_den hsub p1)).mono fun e w' ⟨v, he, sm, R', h1', lR, s2, hB⟩ => ?_
      obtain ⟨xs, hxl, hv, hk, hnb⟩ := exs_elim hB
      subst he
      simp only
      rw [hv]
      refine ⟨_, _, R', h1'.un h2, L, List.prefix_append ρ xs, lR, List.suffix_refl _, ?_, ok.back (lk := callLinks cfg f args (shR P cfg true s.n fn.resultTypes.toList).v ++ s.lk) hb sm s2 d1 lR (hn1.trans (by rw [hxl])) (fun x hx => (List.mem_filter.1 hx).1) p2 hnb o.dst _, hk⟩
      cases o.dst <;> exact hl
    · refine (hd w R h1 _ s1 (subH_den hsub p1)).mono fun e w' ⟨v, he, sm, R', h1', lR, s2, hB⟩ => ?_
      obtain ⟨xs, hxl, hv, hk, hnb⟩ := exs_elim hB
      subst he
      simp only
      rw [hv]
      refine ⟨_, _, R', h1'.un h2, L, List.prefix_append ρ xs, lR, List.suffix_refl _, ?_, ok.back (lk := callLinks cfg f args (shR P cfg true s.n fn.resultTypes.toList).v ++ s.lk) hb sm s2 d1 lR (hn2.trans (by rw [hxl])) (fun x hx => (List.mem_filter.1 hx).1) p2 hnb o.dst _, hk⟩
      cases o.dst <;> exact hl
  · exact hd.elim
end
end Go.Proofs.Ytmibmjehjagmbaa.RX
