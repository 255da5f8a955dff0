/- The terms of a run mean what they say: every operation that changes nothing. No condition. -/
import Derived.Test.YtmibmjehjagmbaaSndD
namespace Go.Proofs.Ytmibmjehjagmbaa.RX
open Go.Proofs.Ytmibmjehjagmbaa

theorem exec_value {P : Program} {w : World} {s : Sem Value} {v : Value} (h : s.run P w = .ok v w) : (do pure (.value (← s)) : Sem Next).run P w = .ok (.value v) w := by
  rw [Sem.run_bind, h]; rfl
theorem isSome_known {ρ : Env} {s : S} {k : Nat} (kn : ∀ x ∈ s.kn, (x.1.den ρ).bool = x.2) (h : knows s.kn (.o1 .isSome (.v k)) = some true) : ∃ a, (look ρ k).adr = some a := by
  have := knows_den kn h
  simp only [E.den, F1.app, Uni.bool_c] at this
  exact Option.isSome_iff_exists.1 this
theorem natLit_eq {e : E} {i : Nat} (h : natLit e = some i) : e = .i (i : Int) := by
  unfold natLit at h
  split at h
  · split at h
    · cases h
      congr 1
      omega
    · cases h
  · cases h
theorem lenN_eq {e : E} {i : Nat} (h : lenN e = some i) : e = .n i := by
  unfold lenN at h
  split at h
  · cases h; rfl
  · cases h

section
variable {P : Program} {w : World} {ρ : Env}
theorem run_indexAt_slice {t el : TypeId} (ht : P.underlying t = some (.slice el)) {i : TypeInfo} (hi : P.info? el = some i) {b : Addr} {len cap : Nat} {k : IntKind} {x : Int} (h0 : 0 ≤ x) (h1 : x < len) :
    (Instr.indexAt t (.slice (some b) len cap) (.int k x)).run P w = .ok (.pointer (some (b.add (x.toNat * szT P el)))) w := by
  have hx : 0 ≤ x ∧ x < (len : Int) := ⟨h0, h1⟩
  simp [Instr.indexAt, asIntOf, Sem.run_bind, run_underlying ht, hx, run_sizeOf hi]
theorem run_indexAt_array {t el : TypeId} {n : Nat} (ht : P.underlying t = some (.array n el)) {i : TypeInfo} (hi : P.info? el = some i) {b : Addr} {k : IntKind} {x : Int} (h0 : 0 ≤ x) (h1 : x < n) :
    (Instr.indexAt t (.pointer (some b)) (.int k x)).run P w = .ok (.pointer (some (b.add (x.toNat * szT P el)))) w := by
  have hx : 0 ≤ x ∧ x < (n : Int) := ⟨h0, h1⟩
  simp [Instr.indexAt, asIntOf, Sem.run_bind, run_underlying ht, hx, run_sizeOf hi, Instr.sureAddr]
theorem run_fieldAt {t : TypeId} {fs : Array Field} (ht : P.underlying t = some (.struct fs)) {f : Nat} {fd : Field} (hf : fs[f]? = some fd) (hz : szT P fd.type ≠ 0) {b : Addr} :
    (Instr.fieldAt t (.pointer (some b)) f).run P w = .ok (.pointer (some (b.add fd.offset))) w := by
  cases hi : P.info? fd.type with
  | none => simp [szT, hi] at hz
  | some i => simp [Instr.fieldAt, Sem.run_bind, run_underlying ht, hf, Instr.sureAddr, fieldPlace, run_sizeOf hi, hz]
theorem run_loadAt {t : TypeId} {r : BR} {off : Nat} {l : List A} {ty : TypeId} {x : W} {R h F : PH} (sat : Sat w R h F) (hc : h (r.den ρ) = some (.cells (l.map (A.den ρ)).toArray ty (0, 0))) (hp : partA P t l off = some x) :
    (Instr.loadAt t (.pointer (some ⟨r.den ρ, off, none⟩))).run P w = .ok (x.den ρ) w := by
  have hcell := cells_at sat hc
  unfold partA at hp
  split at hp
  · cases hp
  · rename_i d hd
    obtain ⟨i, hi⟩ := underlying_info hd
    simp only [Instr.loadAt, Instr.sureAddr, Sem.run_bind, Sem.run_pure, Result.andThen_ok, loadVar, run_isAgg hd]
    split at hp
    · rename_i ha
      split at hp
      · rename_i hl
        cases hp
        have hlen : ((l.map (A.den ρ)).drop off |>.take (szT P t)).length = szT P t := by simp; omega
        have hr := run_loadCells (P := P) (w := w) (b := r.den ρ) (off := off) ((l.map (A.den ρ)).drop off |>.take (szT P t)) (fun j v hj => by
          rw [hcell]
          rw [List.getElem?_take] at hj
          split at hj
          · rw [List.getElem?_drop] at hj
            simpa using hj
          · cases hj)
        rw [hlen] at hr
        simp only [ha, if_true, Sem.run_bind, run_sizeOf hi, Result.andThen_ok, hr, Sem.run_pure, W.den, List.map_take, List.map_drop]
      · cases hp
    · rename_i ha
      have ha' : aggT P t = false := by simpa using ha
      simp only [Option.map_eq_some_iff] at hp
      obtain ⟨y, hy, rfl⟩ := hp
      simp only [ha', Bool.false_eq_true, if_false]
      refine run_load ?_
      rw [hcell]
      simp [hy, W.den]
end

theorem pureMF_run {P : Program} {w : World} {ρ : Env} {s : S} {a : Act} {fn : Fn} {first caps : Array Operand} {dst : Option Tmp} {ty : TypeId} {pos : String} {after : Array Edge} {guard : Option (Nat × Bool)} {es : List E} {v : V}
    (h : pureMF s fn first caps = some (es, v)) (tm : Tm ρ s.t a) : (execOp a.eval ⟨dst, .makeFunc fn first caps, ty, pos, after, guard⟩).run P w = .ok (.value (v.den ρ)) w := by
  unfold pureMF at h
  split at h
  · rename_i hf
    split at h
    · rename_i vs hv
      simp only [Option.map_eq_some_iff] at h
      obtain ⟨u, hu, h⟩ := h
      cases h
      refine exec_value ?_
      have e1 := mapM'_eq hv
      have e2 := mapM'_eq hu
      have key : ∀ (l : List Operand) (vs : List V) (cs : List (BR × Nat)), l.map (ev s) = vs.map some → vs.map capOf = cs.map some → l.map a.eval = cs.map (capV ρ) := by
        intro l
        induction l with
        | nil => intro vs cs h1 h2; cases vs with
          | nil => cases cs with
            | nil => rfl
            | cons _ _ => cases h2
          | cons _ _ => cases h1
        | cons x r ih => intro vs cs h1 h2; cases vs with
          | nil => cases h1
          | cons y q => cases cs with
            | nil => cases h2
            | cons c m =>
              simp only [List.map_cons, List.cons.injEq] at h1 h2 ⊢
              refine ⟨?_, ih q m h1.2 h2.2⟩
              rw [ev_den tm h1.1]
              have := h2.1
              unfold capOf at this
              split at this
              · cases this; rfl
              · cases this
      have e3 := key caps.toList vs u e1 e2
      have hf' : first = #[] := by
        cases first; simp_all
      subst hf'
      simp only [Instr.makeFunc, Sem.run_pure, V.den, W.den, A.den]
      rw [← e3]
      cases caps
      simp
    · cases h
  · cases h
theorem pureIx_run {P : Program} {w : World} {ρ : Env} {s : S} {a : Act} {t : TypeId} {x ix : Operand} {dst : Option Tmp} {ty : TypeId} {pos : String} {after : Array Edge} {guard : Option (Nat × Bool)} {es : List E} {v : V}
    (h : pureIx P s t x ix = some (es, v)) (tm : Tm ρ s.t a) (hn : ∀ e ∈ es, e.prop ρ) : (execOp a.eval ⟨dst, .indexAddr t x ix, ty, pos, after, guard⟩).run P w = .ok (.value (v.den ρ)) w := by
  unfold pureIx at h
  split at h
  · rename_i el k len _ _ e hd hx hi
    split at h
    · rename_i hs
      obtain ⟨inf, hinf⟩ := Option.isSome_iff_exists.1 hs
      cases h
      have h0 := need1_mem hn
      have h1 := h0.1
      rw [cmpE_prop] at h1
      have h2 := h0.2 _ (List.mem_cons_self ..)
      have h3 := h0.2 _ (List.mem_cons_of_mem _ (List.mem_cons_self ..))
      have h3' : ∃ b, (look ρ k).adr = some b := Option.isSome_iff_exists.1 (prop_bool h3)
      obtain ⟨b, hb⟩ := h3'
      refine exec_value ?_
      rw [evA_den tm hx, evA_den tm hi]
      simp only [A.den, SA.den, hb, V.den, W.den, Option.map_some]
      rw [run_indexAt_slice hd hinf (show (0 : Int) ≤ (e.den ρ).int from h1) (show (e.den ρ).int < (((len.den ρ).nat : Nat) : Int) from h2)]
      simp [Addr.add]
    · cases h
  · rename_i el r off len _ _ e hd hx hi
    split at h
    · rename_i i n hn1 hn2
      split at h
      · rename_i hs
        obtain ⟨inf, hinf⟩ := Option.isSome_iff_exists.1 hs.2
        cases h
        obtain rfl := natLit_eq hn1
        obtain rfl := lenN_eq hn2
        refine exec_value ?_
        rw [evA_den tm hx, evA_den tm hi]
        simp only [A.den, SA.den, E.den, Uni.int_i, Uni.nat_n, V.den, W.den]
        rw [run_indexAt_slice hd hinf (by omega) (by omega)]
        simp [addr_add]
      · cases h
    · cases h
  · rename_i n el r off _ e hd hx hi
    split at h
    · rename_i i hn1
      split at h
      · rename_i hs
        obtain ⟨inf, hinf⟩ := Option.isSome_iff_exists.1 hs.2
        cases h
        obtain rfl := natLit_eq hn1
        refine exec_value ?_
        rw [evA_den tm hx, evA_den tm hi]
        simp only [A.den, E.den, Uni.int_i, V.den, W.den]
        rw [run_indexAt_array hd hinf (by omega) (by omega)]
        simp [addr_add]
      · cases h
    · cases h
  · cases h
theorem pureCall_run {P : Program} {w : World} {ρ : Env} {s : S} {a : Act} {c : Call} {dst : Option Tmp} {ty : TypeId} {pos : String} {after : Array Edge} {guard : Option (Nat × Bool)} {es : List E} {v : V}
    (h : pureCall P s c = some (es, v)) (tm : Tm ρ s.t a) : (execOp a.eval ⟨dst, .call c, ty, pos, after, guard⟩).run P w = .ok (.value (v.den ρ)) w := by
  obtain ⟨callee, args, argTypes⟩ := c
  unfold pureCall at h
  split at h
  · rename_i x t h1 h2 h3
    simp only at h1 h2 h3
    subst h1
    obtain rfl : args = #[x] := by cases args; simp_all
    obtain rfl : argTypes = #[t] := by cases argTypes; simp_all
    unfold pureLen at h
    split at h
    · rename_i hd hx
      cases h
      simp only [execOp, resolve, Sem.run_bind, Sem.run_pure, Result.andThen_ok, invoke, builtin, List.map_toArray, List.map_cons, List.map_nil, evA_den tm hx, A.den]
      simp only [Builtin.len_, List.getElem?_toArray, List.getElem?_cons_zero, Sem.run_bind, run_underlying hd, Result.andThen_ok, Sem.run_pure, goInt, V.den, W.den, A.den]
      congr 3
      split <;> simp_all [E.den, F1.app]
    · rename_i hd hx
      cases h
      simp only [execOp, resolve, Sem.run_bind, Sem.run_pure, Result.andThen_ok, invoke, builtin, List.map_toArray, List.map_cons, List.map_nil, evA_den tm hx, A.den]
      simp only [Builtin.len_, List.getElem?_toArray, List.getElem?_cons_zero, Sem.run_bind, run_underlying hd, Result.andThen_ok, Sem.run_pure, goInt, V.den, W.den, A.den, ByteArray.size, List.size_toArray]
      congr 3
      split <;> simp_all [E.den, F1.app]
    · rename_i hd hx
      cases h
      simp only [execOp, resolve, Sem.run_bind, Sem.run_pure, Result.andThen_ok, invoke, builtin, List.map_toArray, List.map_cons, List.map_nil, evA_den tm hx, A.den]
      simp only [Builtin.len_, List.getElem?_toArray, List.getElem?_cons_zero, Sem.run_bind, run_underlying hd, Result.andThen_ok, Sem.run_pure, goInt, V.den, W.den, A.den, E.den, Uni.int_i]
    · cases h
  · rename_i x t h1 h2 h3
    simp only at h1 h2 h3
    subst h1
    obtain rfl : args = #[x] := by cases args; simp_all
    obtain rfl : argTypes = #[t] := by cases argTypes; simp_all
    unfold pureCap at h
    split at h
    · rename_i hd hx
      cases h
      simp only [execOp, resolve, Sem.run_bind, Sem.run_pure, Result.andThen_ok, invoke, builtin, List.map_toArray, List.map_cons, List.map_nil, evA_den tm hx, A.den]
      simp [Builtin.cap_, Sem.run_bind, run_underlying hd, goInt, V.den, W.den, A.den, E.den, F1.app]
    · cases h
  · rename_i x y h1 h2
    simp only at h1 h2
    subst h1
    obtain rfl : args = #[x, y] := by cases args; simp_all
    unfold pureMx at h
    split at h
    · rename_i k a _ k' b hx hy
      split at h
      · rename_i hk
        subst hk
        cases h
        simp only [execOp, resolve, Sem.run_bind, Sem.run_pure, Result.andThen_ok, invoke, builtin, List.map_toArray, List.map_cons, List.map_nil, evA_den tm hx, evA_den tm hy, A.den]
        simp only [Builtin.max_, List.foldlM_cons, List.foldlM_nil, Builtin.max2, Sem.run_bind, Sem.run_pure, Result.andThen_ok, V.den, W.den, A.den, E.den, F2.app, Uni.int_i]
        congr 3
        split <;> omega
      · cases h
    · cases h
  · rename_i x y h1 h2
    simp only at h1 h2
    subst h1
    obtain rfl : args = #[x, y] := by cases args; simp_all
    unfold pureMx at h
    split at h
    · rename_i k a _ k' b hx hy
      split at h
      · rename_i hk
        subst hk
        cases h
        simp only [execOp, resolve, Sem.run_bind, Sem.run_pure, Result.andThen_ok, invoke, builtin, List.map_toArray, List.map_cons, List.map_nil, evA_den tm hx, evA_den tm hy, A.den]
        simp only [Builtin.min_, List.foldlM_cons, List.foldlM_nil, Builtin.min2, Sem.run_bind, Sem.run_pure, Result.andThen_ok, V.den, W.den, A.den, E.den, F2.app, Uni.int_i]
        congr 3
        split <;> omega
      · cases h
    · cases h
  · cases h
theorem pureOp_run {P : Program} {w : World} {ρ : Env} {s : S} {a : Act} {o : Oper} {es : List E} {v : V} (h : pureOp P s o.op = some (es, v)) (tm : Tm ρ s.t a) (kn : ∀ x ∈ s.kn, (x.1.den ρ).bool = x.2)
    (hs : ∃ R h F, Sat w R h F ∧ (hden ρ s.h).p R h) (hn : ∀ e ∈ es, e.prop ρ) : (execOp a.eval o).run P w = .ok (.value (v.den ρ)) w := by
  obtain ⟨R, H, F, sat, hp⟩ := hs
  obtain ⟨dst, op, ty, pos, after, guard⟩ := o
  simp only at h
  unfold pureOp at h
  split at h
  · -- move
    simp only [Option.map_eq_some_iff] at h
    obtain ⟨u, hu, h⟩ := h
    cases h
    simp only [execOp, ev_den tm hu, Sem.run_pure]
  · simp only [Option.map_eq_some_iff] at h
    obtain ⟨u, hu, h⟩ := h
    cases h
    simp only [execOp, ev_den tm hu, Sem.run_pure]
  · -- pick
    split at h
    · rename_i c x y e hc
      have hcd := evA_den tm hc
      split at h
      · rename_i hk
        have := knows_den kn hk
        simp only [Option.map_eq_some_iff] at h
        obtain ⟨u, hu, h⟩ := h
        cases h
        simp only [execOp, hcd, A.den, asBool, Sem.run_bind, Sem.run_pure, Result.andThen_ok, this, if_true, ev_den tm hu]
      · rename_i hk
        have := knows_den kn hk
        simp only [Option.map_eq_some_iff] at h
        obtain ⟨u, hu, h⟩ := h
        cases h
        simp only [execOp, hcd, A.den, asBool, Sem.run_bind, Sem.run_pure, Result.andThen_ok, this, Bool.false_eq_true, if_false, ev_den tm hu]
      · split at h
        · rename_i p q hx hy
          cases h
          simp only [execOp, hcd, A.den, asBool, Sem.run_bind, Sem.run_pure, Result.andThen_ok, evA_den tm hx, evA_den tm hy, V.den, W.den]
          congr 2
          have hpe : ((pickE e p q).den ρ).bool = if (e.den ρ).bool then (p.den ρ).bool else (q.den ρ).bool := by
            unfold pickE
            split <;> simp only [E.den, F2.app, Uni.bool_c, noT_den] <;> cases (e.den ρ).bool <;> simp
          rw [hpe]
          split <;> rfl
        · cases h
    · cases h
  · -- nilCheck
    split at h
    · rename_i hx
      cases h
      simp only [execOp, ev_den tm hx, V.den, W.den, A.den, Sem.run_pure]
    · rename_i hx
      cases h
      simp only [execOp, ev_den tm hx, V.den, W.den, A.den, Sem.run_pure]
    · rename_i hx
      split at h
      · rename_i hk
        cases h
        obtain ⟨b, hb⟩ := isSome_known kn hk
        simp only [execOp, ev_den tm hx, V.den, W.den, A.den, hb, Option.map_some, Sem.run_pure]
      · cases h
    · cases h
  · -- fieldAddr
    split at h
    · rename_i hd
      split at h
      · rename_i fd hf
        split at h
        · cases h
        · rename_i hz
          split at h
          · rename_i hx
            cases h
            refine exec_value ?_
            rw [evA_den tm hx]
            simp only [A.den, run_fieldAt hd hf hz, addr_add, V.den, W.den]
          · rename_i hx
            split at h
            · rename_i hk
              cases h
              obtain ⟨b, hb⟩ := isSome_known kn hk
              refine exec_value ?_
              rw [evA_den tm hx]
              simp only [A.den, hb, Option.map_some, run_fieldAt hd hf hz, V.den, W.den]
              congr 3
              unfold Addr.add
              repeat' split
              all_goals simp_all <;> omega
            · cases h
          · cases h
      · cases h
    · cases h
  · -- field
    split at h
    · rename_i hd
      split at h
      · rename_i fd hf
        split at h
        · rename_i hx
          simp only [Option.map_eq_some_iff] at h
          obtain ⟨u, hu, h⟩ := h
          cases h
          refine exec_value ?_
          rw [evW_den tm hx]
          simp only [Instr.field, Sem.run_bind, run_underlying hd, Result.andThen_ok, hf, W.den, asAgg, Sem.run_pure, run_part hu, V.den]
        · cases h
      · cases h
    · cases h
  · -- extract
    split at h
    · rename_i hx
      simp only [Option.map_eq_some_iff] at h
      obtain ⟨u, hu, h⟩ := h
      cases h
      refine exec_value ?_
      rw [ev_den tm hx]
      simp only [V.den, Instr.extract, List.getElem?_toArray, List.getElem?_map, hu, Option.map_some, Sem.run_pure]
    · rename_i hx
      split at h
      · rename_i hi0
        cases h
        subst hi0
        refine exec_value ?_
        rw [ev_den tm hx]
        simp only [V.den, W.den, A.den, E.den]
        cases (look ρ _).bool <;> simp [Instr.extract]
      · cases h
    · cases h
  · -- load
    split at h
    · rename_i hx
      split at h
      · rename_i hf
        simp only [Option.map_eq_some_iff] at h
        obtain ⟨u, hu, h⟩ := h
        cases h
        refine exec_value ?_
        rw [evA_den tm hx]
        simp only [A.den, V.den]
        exact run_loadAt sat (cden_cells (hden_mem (findC_mem hf) hp)) hu
      · cases h
    · cases h
  · -- binOp
    split at h
    · rename_i hx hy
      simp only [Option.map_eq_some_iff] at h
      obtain ⟨u, hu, h⟩ := h
      cases h
      refine exec_value ?_
      rw [evA_den tm hx, evA_den tm hy]
      exact binA_run hu hn _ _
    · cases h
  · -- not
    split at h
    · rename_i hx
      cases h
      refine exec_value ?_
      rw [evA_den tm hx]
      simp only [A.den, Op.unary, Sem.run_pure, V.den, W.den, noT_den]
    · cases h
  · -- neg
    split at h
    · rename_i hx
      simp only [Option.map_eq_some_iff] at h
      obtain ⟨u, hu, h⟩ := h
      cases h
      refine exec_value ?_
      rw [evA_den tm hx]
      have := binInt_run (P := P) (w := w) (t := 0) hu hn
      simp only [binOp, E.den, Uni.int_i] at this
      simpa only [A.den, Op.unary, V.den, W.den, ne_eq, not_true_eq_false, if_false] using this
    · cases h
  · -- convert
    split at h
    · rename_i hs hd hx
      split at h
      · split at h
        · cases h
          refine exec_value ?_
          rw [evA_den tm hx]
          have := rng_prop (need1_mem hn).1
          simp [convert, Sem.run_bind, run_underlying hs, run_underlying hd, A.den, Conv.intToInt, wrap_in this, V.den, W.den]
        · cases h
          refine exec_value ?_
          rw [evA_den tm hx]
          simp [convert, Sem.run_bind, run_underlying hs, run_underlying hd, A.den, Conv.intToInt, V.den, W.den, E.den, F1.app]
      · cases h
    · rename_i hs hd hx
      cases h
      refine exec_value ?_
      rw [evA_den tm hx]
      simp [convert, Sem.run_bind, run_underlying hs, run_underlying hd, A.den, V.den, W.den]
    · cases h
  · exact pureMF_run h tm
  · exact pureIx_run h tm hn
  · exact pureCall_run h tm
  · cases h
end Go.Proofs.Ytmibmjehjagmbaa.RX
