/- A run's steps mean what they say: every operation that turns something. No condition. -/
import Derived.Test.YtmibmjehjagmbaaSndH
namespace Go.Proofs.Ytmibmjehjagmbaa.RX
open Go.Proofs.Ytmibmjehjagmbaa

section
variable {P : Program} {post : Value → HP} {w0 w : World} {F R h : PH} {ρ : Env} {L : List (Env → Prop)} {s : S} {a : Act} {cfg : Cfg} {o : Oper} {K : S → T} {Q : Exit → Act → World → Prop}

theorem wp_value {v : Value} {w' : World} {nx : Act → World → Prop} (hr : (execOp a.eval o).run P w = .ok (.value v) w') (h : nx (a.put o.dst v) w') : o.wp P a w nx Q := by
  unfold Oper.wp; rw [hr]; exact h
theorem wp_skip' {w' : World} {nx : Act → World → Prop} (hr : (execOp a.eval o).run P w = .ok .skip w') (h : nx (a.put o.dst undef) w') : o.wp P a w nx Q := by
  unfold Oper.wp; rw [hr]; exact h
theorem dp_put (s : S) (d : Option Tmp) (v : V) : (s.put d v).dp = s.dp := by cases d <;> rfl

theorem newB_cells {d : Option Tmp} {l : List A} {ty : TypeId} {v : BR → A} (ok : Ok ρ s a w0 w R h F) (hl : L.length = s.dp) (hd : (newB s d (.cells l ty) v K).den P post L ρ)
    (vv : Nat → Value) (hv : ∀ x : Nat, (v (.v s.n)).den (ρ ++ [.n x]) = vv x) :
    Nx ⟨P, post, w0, F, ρ, R, L⟩ K (a.put d (vv w.heap.size)) (w.alloc (.cells (l.map (A.den ρ)).toArray ty)) := by
  have hd0 := hd
  unfold newB at hd0
  split at hd0
  · rename_i hb
    simp only [Bool.and_eq_true] at hb
    refine newB_ok ok hl hd _ (fun x => ?_) vv hv
    simp only [cden, BR.den]
    rw [← ok.len, look_at, As.eq_app ok.len hb.2]
    rfl
  · exact hd0.elim

theorem storeRow {r : BR} {l : List A} {ty : TypeId} {off : Nat} {t : TypeId} {x : W} (ok : Ok ρ s a w0 w R h F) (hw : x.list.length = szT P t) (hi : (P.info? t).isSome = true) (ho : off + x.list.length ≤ l.length)
    (hu : (s.h.filter fun x => decide (x.1 = .b r)) = [(.b r, .cells l ty)]) :
    ∃ w' h', (Instr.storeAt t (.pointer (some ⟨r.den ρ, off, none⟩)) (x.den ρ)).run P w = .ok () w' ∧
      Ok ρ { s with h := (.b r, .cells (l.take off ++ x.list ++ l.drop (off + x.list.length)) ty) :: delC s.h (.b r) } a w0 w' R h' F := by
  obtain ⟨h1, h2, d, l1, l2, a1, a2⟩ := hden_filter (fun x => decide (x.1 = Key.b r)) ok.hp
  rw [hu] at a1
  have e1 : h1 (r.den ρ) = some (.cells (l.map (A.den ρ)).toArray ty (0, 0)) := a1
  have eh := l1 _ _ e1
  have ew := ok.sat.oh _ _ eh
  obtain ⟨inf, hinf⟩ := Option.isSome_iff_exists.1 hi
  have hst := run_storeCells_at (P := P) (r.den ρ) off ty (x.list.map (A.den ρ)) 0 (l.map (A.den ρ)).toArray w ew (by simpa using ho) (fun v hv => by
    obtain ⟨y, _, rfl⟩ := List.mem_map.1 hv; exact A.one ρ y)
  simp only [Nat.add_zero, List.length_map] at hst
  have hrun : (Instr.storeAt t (.pointer (some ⟨r.den ρ, off, none⟩)) (x.den ρ)).run P w = .ok () (w.setRow (r.den ρ) ((l.take off ++ x.list ++ l.drop (off + x.list.length)).map (A.den ρ)).toArray) := by
    simp only [Instr.storeAt, Instr.sureAddr, Sem.run_bind, Sem.run_pure, Result.andThen_ok, storeVar, run_sizeOf hinf, W.cells, List.size_toArray, List.length_map, hw, ne_eq, not_true_eq_false, if_false, hst]
    congr 2
    simp [List.map_take, List.map_drop]
  have s2 := ok.sat.turn (w' := w.setRow (r.den ρ) ((l.take off ++ x.list ++ l.drop (off + x.list.length)).map (A.den ρ)).toArray) (y := .cells ((l.take off ++ x.list ++ l.drop (off + x.list.length)).map (A.den ρ)).toArray ty (0, 0)) eh
    (fun k hk => setRow_other w _ k _ hk) (setRow_heap w _ _ _ ty (0, 0) ew)
  refine ⟨_, _, hrun, ⟨ok.dfr, ok.tm, ok.len, ok.kn, ?_, s2, ok.same.trans ⟨rfl, rfl, rfl, by simp⟩⟩⟩
  refine (hden_cons _ _ _ _ _).2 ⟨PH.one (r.den ρ) (.cells ((l.take off ++ x.list ++ l.drop (off + x.list.length)).map (A.den ρ)).toArray ty (0, 0)), h2, fun k => ?_, fun k o e => ?_, fun k o e => ?_, PH.one_self _ _, a2⟩
  · by_cases e : k = r.den ρ
    · subst e
      exact .inr ((d _).resolve_left (by rw [e1]; simp))
    · exact .inl (if_neg e)
  · obtain ⟨rfl, rfl⟩ := PH.one_some e; exact if_pos rfl
  · have hne : k ≠ r.den ρ := fun e' => by
      subst e'
      rcases d (r.den ρ) with e' | e'
      · rw [e1] at e'; cases e'
      · rw [e] at e'; cases e'
    simp only [hne, if_false]
    exact l2 k o e

theorem effStore_ok {t : TypeId} {ad x : Operand} (ok : Ok ρ s a w0 w R h F) (hl : L.length = s.dp) (ho : o.op = .store t ad x) (hd : (effStore P cfg s o t ad x K).den P post L ρ) :
    o.wp P a w (Nx ⟨P, post, w0, F, ρ, R, L⟩ K) Q := by
  unfold effStore at hd
  split at hd
  · rename_i r off y hx hy
    split at hd
    · rename_i l ty hf
      split at hd
      · rename_i hc
        obtain ⟨w', h', hr, ok'⟩ := storeRow ok hc.1 hc.2.1 hc.2.2.1 hc.2.2.2
        refine wp_skip' (w' := w') ?_ ?_
        · simp only [execOp, ho, evA_den ok.tm hx, A.den, evW_den ok.tm hy, Sem.run_bind, hr, Result.andThen_ok, Sem.run_pure]
        · exact ⟨ρ, _, R, h', L, List.prefix_refl _, PH.le.refl _, List.suffix_refl _, by rw [dp_put]; exact hl, ok'.put o.dst (.tup []), hd⟩
      · exact hd.elim
    · exact genOp_ok ok hl hd
  · exact genOp_ok ok hl hd
theorem effPick_ok {c x y : Operand} (ok : Ok ρ s a w0 w R h F) (hl : L.length = s.dp) (ho : o.op = .pick c x y) (hd : (effPick s o c x y K).den P post L ρ) :
    o.wp P a w (Nx ⟨P, post, w0, F, ρ, R, L⟩ K) Q := by
  unfold effPick at hd
  split at hd
  · rename_i e hc
    have hcd := evA_den ok.tm hc
    obtain ⟨kn, ok', h1⟩ := brE_ok ok hd
    rcases h1 with ⟨he, h1⟩ | ⟨he, h1⟩
    · split at h1
      · rename_i v hv
        refine wp_value (v := v.den ρ) (w' := w) ?_ ?_
        · simp only [execOp, ho, hcd, A.den, asBool, Sem.run_bind, Sem.run_pure, Result.andThen_ok, he, if_true]
          rw [ev_den ok'.tm hv]
        · exact ⟨ρ, _, R, h, L, List.prefix_refl _, PH.le.refl _, List.suffix_refl _, by rw [dp_put]; exact hl, ok'.put o.dst v, h1⟩
      · exact h1.elim
    · split at h1
      · rename_i v hv
        refine wp_value (v := v.den ρ) (w' := w) ?_ ?_
        · simp only [execOp, ho, hcd, A.den, asBool, Sem.run_bind, Sem.run_pure, Result.andThen_ok, he, Bool.false_eq_true, if_false]
          rw [ev_den ok'.tm hv]
        · exact ⟨ρ, _, R, h, L, List.prefix_refl _, PH.le.refl _, List.suffix_refl _, by rw [dp_put]; exact hl, ok'.put o.dst v, h1⟩
      · exact h1.elim
  · exact hd.elim
theorem places_eq {fs : List Field} (hi : ∀ f ∈ fs, (P.info? f.type).isSome = true) : fs.mapM (fun f => (P.info? f.type).map fun i => (f.offset, i.size)) = some (fs.map fun f => (f.offset, szT P f.type)) := by
  induction fs with
  | nil => rfl
  | cons f r ih =>
    obtain ⟨i, hi'⟩ := Option.isSome_iff_exists.1 (hi f (List.mem_cons_self ..))
    simp [List.mapM_cons, hi', ih fun g hg => hi g (List.mem_cons_of_mem _ hg), szT]
theorem zeroL_info {t : TypeId} {l : List A} (h : zeroL P t = some l) (ρ : Env) : ∃ i v, P.info? t = some i ∧ i.zero = some v ∧ v.cells = (l.map (A.den ρ)).toArray := by
  unfold zeroL at h
  split at h
  · rename_i i hi
    split at h
    · rename_i v hv
      simp only [Option.map_eq_some_iff] at h
      obtain ⟨x, hx, rfl⟩ := h
      exact ⟨i, v, hi, hv, ofVals_list hx ρ⟩
    · cases h
  · cases h
theorem effBuild_ok {t : TypeId} {parts : Array (Nat × Operand)} (ok : Ok ρ s a w0 w R h F) (hl : L.length = s.dp) (ho : o.op = .build t parts) (hd : (effBuild P s o t parts K).den P post L ρ) :
    o.wp P a w (Nx ⟨P, post, w0, F, ρ, R, L⟩ K) Q := by
  have fin : ∀ l : List A, P.built t (parts.map fun (i, x) => (i, a.eval x)).toList = some (l.map (A.den ρ)).toArray → (K (s.put o.dst (.w (.agg l)))).den P post L ρ → o.wp P a w (Nx ⟨P, post, w0, F, ρ, R, L⟩ K) Q := fun l hb hk => by
    refine wp_value (v := (V.w (.agg l)).den ρ) (w' := w) ?_ ⟨ρ, _, R, h, L, List.prefix_refl _, PH.le.refl _, List.suffix_refl _, by rw [dp_put]; exact hl, ok.put o.dst _, hk⟩
    simp only [execOp, ho]
    exact exec_value (run_build w t _ _ hb)
  have hparts : ∀ ps, partsOf s parts.toList = some ps → (parts.map fun (i, x) => (i, a.eval x)).toList = ps.map fun x => (x.1, x.2.den ρ) := fun ps hp => by
    rw [← partsOf_den ok.tm hp]; simp
  unfold effBuild at hd
  split at hd
  · rename_i fs hu
    split at hd
    · rename_i z ps hz hp
      split at hd
      · rename_i hi
        split at hd
        · rename_i l hf
          refine fin l ?_ hd
          obtain ⟨it, v, h1, h2, h3⟩ := zeroL_info hz ρ
          unfold Program.built
          rw [h1, hu]
          simp only [h2]
          rw [places_eq (fun f hf => by
            have := Array.all_eq_true_iff_forall_mem.1 hi f (by simpa using hf)
            exact this)]
          simp only [h3, hparts ps hp]
          rw [← fillA_eq hf]
          congr 1
          funext i
          simp
        · exact hd.elim
      · exact hd.elim
    · exact hd.elim
  · rename_i n el hu
    split at hd
    · rename_i z ps hz hp
      split at hd
      · rename_i hi
        split at hd
        · rename_i l hf
          refine fin l ?_ hd
          obtain ⟨it, v, h1, h2, h3⟩ := zeroL_info hz ρ
          obtain ⟨ie, hie⟩ := Option.isSome_iff_exists.1 hi
          unfold Program.built
          rw [h1, hu]
          simp only [h2, hie]
          simp only [h3, hparts ps hp]
          rw [← fillA_eq hf]
          simp only [szT, hie]
        · exact hd.elim
      · exact hd.elim
    · exact hd.elim
  · exact hd.elim
theorem repL_get {α : Type} [Inhabited α] (z : List α) (n : Nat) : ∀ i, i < n * z.length → (repL n z)[i]? = some (z[i % z.length]!) := by
  induction n with
  | zero => intro i hi; simp at hi
  | succ n ih =>
    intro i hi
    simp only [repL]
    by_cases h : i < z.length
    · rw [List.getElem?_append_left h, Nat.mod_eq_of_lt h]
      simp [h]
    · have hz : 0 < z.length := by
        rcases Nat.eq_zero_or_pos z.length with e | e
        · rw [e] at hi; simp at hi
        · exact e
      rw [List.getElem?_append_right (by omega), ih (i - z.length) (by rw [Nat.succ_mul] at hi; omega)]
      rw [show i % z.length = (i - z.length) % z.length by rw [Nat.mod_eq_sub_mod (by omega)]]
theorem repL_length {α : Type} (z : List α) (n : Nat) : (repL n z).length = n * z.length := by
  induction n with
  | zero => simp [repL]
  | succ n ih => simp [repL, ih, Nat.succ_mul]; omega
theorem rep_eq (z : List Value) (n : Nat) : (repL n z).toArray = (Array.range (n * z.length)).map (z.toArray[· % z.toArray.size]!) := by
  apply Array.ext_getElem?
  intro i
  by_cases h : i < n * z.length
  · rw [List.getElem?_toArray, repL_get z n i h]
    simp [h]
  · rw [List.getElem?_toArray, List.getElem?_eq_none (by rw [repL_length]; omega), Array.getElem?_eq_none (by simpa using h)]
theorem repL_map {α β : Type} (f : α → β) (z : List α) (n : Nat) : (repL n z).map f = repL n (z.map f) := by
  induction n with
  | zero => rfl
  | succ n ih => simp [repL, ih]
theorem effSlice_ok {t : TypeId} {len : Nat} {parts : Array (Nat × Operand)} (ok : Ok ρ s a w0 w R h F) (hl : L.length = s.dp) (ho : o.op = .buildSlice t len parts) (hd : (effSlice P s o t len parts K).den P post L ρ) :
    o.wp P a w (Nx ⟨P, post, w0, F, ρ, R, L⟩ K) Q := by
  unfold effSlice at hd
  split at hd
  · rename_i el hu
    split at hd
    · rename_i z ps hz hp
      split at hd
      · rename_i hi
        obtain ⟨hi, hzl⟩ := hi
        obtain ⟨ie, hie⟩ := Option.isSome_iff_exists.1 hi
        split at hd
        · rename_i l hf
          split at hd
          · rename_i hle
            have hn := newB_cells ok hl hd (fun x => .slice (some ⟨x, 0, none⟩) len len) (fun x => by
              simp only [A.den, SA.den, BR.den, E.den, Uni.nat_n]
              rw [← ok.len, look_at]; rfl)
            refine wp_value (v := .slice (some ⟨w.heap.size, 0, none⟩) len len) (w' := w.alloc (.cells (l.map (A.den ρ)).toArray el)) ?_ hn
            simp only [execOp, ho]
            rw [Sem.run_bind]
            have hpd : (parts.map fun (x : Nat × Operand) => (x.1, a.eval x.2)).toList = ps.map fun x => (x.1, x.2.den ρ) := by
              rw [← partsOf_den ok.tm hp]; simp
            have hfe := fillA_eq (ρ := ρ) hf
            have hle' : ¬ len * szT P el > 2 ^ 24 := by simpa using hle
            have hnewrow : ∀ c : Array Value, (newRow el c).run P w = .ok ⟨w.heap.size, 0, none⟩ (w.alloc (.cells c el)) := fun c => by
              simp only [newRow, newObj, Sem.run_bind, Sem.run, Result.andThen_ok, Sem.run_pure]; rfl
            have hrun : (Instr.buildSlice t len (parts.map fun (x : Nat × Operand) => (x.1, a.eval x.2))).run P w = .ok (.slice (some ⟨w.heap.size, 0, none⟩) len len) (w.alloc (.cells (l.map (A.den ρ)).toArray el)) := by
              by_cases h0 : len * szT P el = 0
              · rw [if_pos h0] at hz
                cases hz
                have hrep : (repL len ([] : List A)) = [] := by
                  apply List.eq_nil_of_length_eq_zero; rw [repL_length]; simp
                rw [hrep] at hfe
                simp only [Instr.buildSlice, Sem.run_bind, run_underlying hu, Result.andThen_ok, run_sizeOf hie, h0, gt_iff_lt, Nat.not_lt_zero, if_false, if_true, Sem.run_pure, hpd]
                have e0 : (Array.range 0).map (fun i => (#[] : Array Value)[i % (#[] : Array Value).size]!) = #[] := by simp
                rw [e0]
                simp only [List.map_nil] at hfe
                rw [hfe]
                simp only [Sem.run_bind, hnewrow, Result.andThen_ok, Sem.run_pure]
              · rw [if_neg h0] at hz
                obtain ⟨v, hzr, hzc⟩ := run_zero (P := P) (w := w) hz ρ
                have hzl' : z.length = szT P el := hzl.resolve_left h0
                rw [repL_map, rep_eq, List.length_map, hzl'] at hfe
                simp only [Instr.buildSlice, Sem.run_bind, run_underlying hu, Result.andThen_ok, run_sizeOf hie, h0, hle', if_false, hzr, Sem.run_pure, hpd, hzc]
                rw [hfe]
                simp only [Sem.run_bind, hnewrow, Result.andThen_ok, Sem.run_pure]
            rw [hrun]
            rfl
          · exact hd.elim
        · exact hd.elim
      · exact hd.elim
    · exact hd.elim
  · exact hd.elim
theorem effCall_ok {c : Call} (ok : Ok ρ s a w0 w R h F) (hl : L.length = s.dp) (ho : o.op = .call c) (hd : (effCall P cfg s o c K).den P post L ρ) : o.wp P a w (Nx ⟨P, post, w0, F, ρ, R, L⟩ K) Q := by
  have harg : ∀ ws, mapM' (evW s) c.args.toList = some ws → c.args.map a.eval = (ws.map (W.den ρ)).toArray := fun ws hw => by
    rw [← mapW_den ok.tm hw]; cases c.args; simp
  unfold effCall at hd
  split at hd
  · rename_i f hc
    split at hd
    · rename_i ws hw
      split at hd
      · rename_i fn hfn
        split at hd
        · refine callF_ok ok hl hd ?_
          simp only [execOp, ho, resolve, hc, harg ws hw, Sem.run_bind, Act.eval, Deferred.ofValue, Sem.run_pure, Result.andThen_ok, invoke]
          simp
        · exact genOp_ok ok hl hd
      · exact hd.elim
    · exact hd.elim
  · rename_i x hx hc
    split at hd
    · rename_i f cs ws hf hw
      refine callF_ok ok hl hd ?_
      simp only [execOp, ho, resolve, hc, harg ws hw, Sem.run_bind, evA_den ok.tm hf, A.den, Deferred.ofValue, Sem.run_pure, Result.andThen_ok, invoke]
      congr 2
      simp only [List.map_append, List.map_map]
      apply Array.toList_inj.1
      simp
      intro p r _
      rfl
    · exact hd.elim
  · exact genOp_ok ok hl hd
theorem effOp_ok (ok : Ok ρ s a w0 w R h F) (hl : L.length = s.dp) (hd : (effOp P cfg s o K).den P post L ρ) : o.wp P a w (Nx ⟨P, post, w0, F, ρ, R, L⟩ K) Q := by
  unfold effOp at hd
  split at hd
  · rename_i e ho
    split at hd
    · rename_i l hz
      have hn := newB_cells ok hl hd (fun x => .pointer (some ⟨x, 0, none⟩)) (fun x => by
        simp only [A.den, BR.den]
        rw [← ok.len, look_at]; rfl)
      refine wp_value (v := .pointer (some ⟨w.heap.size, 0, none⟩)) ?_ hn
      obtain ⟨v, hzr, hzc⟩ := run_zero (P := P) (w := w) hz ρ
      simp only [execOp, ho, Instr.alloc, Sem.run_bind, hzr, Result.andThen_ok, run_newVar, hzc, Sem.run_pure]
    · exact hd.elim
  · rename_i e x ho
    split at hd
    · rename_i y hy
      have hn := newB_cells ok hl hd (fun x => .pointer (some ⟨x, 0, none⟩)) (fun x => by
        simp only [A.den, BR.den]
        rw [← ok.len, look_at]; rfl)
      refine wp_value (v := .pointer (some ⟨w.heap.size, 0, none⟩)) ?_ hn
      simp only [execOp, ho, Instr.box, Sem.run_bind, evW_den ok.tm hy, run_newVar, W.cells, Result.andThen_ok, Sem.run_pure]
    · exact hd.elim
  · rename_i t ho
    have hn := newB_ok ok hl hd (.map #[] 0) (fun x => by
      simp only [cden, BR.den]
      rw [← ok.len, look_at]; rfl) (fun x => .map (some x)) (fun x => by
        simp only [A.den, BR.den]
        rw [← ok.len, look_at]; rfl)
    refine wp_value (v := .map (some w.heap.size)) ?_ hn
    simp only [execOp, ho, Option.map_none, Instr.makeMap, newObj, Sem.run_bind, Sem.run, Result.andThen_ok, Sem.run_pure]
    rfl
  · rename_i t parts ho; exact effBuild_ok ok hl ho hd
  · rename_i t len parts ho; exact effSlice_ok ok hl ho hd
  · rename_i t ad x ho; exact effStore_ok ok hl ho hd
  · rename_i c x y ho; exact effPick_ok ok hl ho hd
  · rename_i c ho; exact effCall_ok ok hl ho hd
  · exact genOp_ok ok hl hd
theorem stepO_ok (ok : Ok ρ s a w0 w R h F) (hl : L.length = s.dp) (hd : (stepO P cfg s o K).den P post L ρ) : o.wp P a w (Nx ⟨P, post, w0, F, ρ, R, L⟩ K) Q := by
  unfold stepO at hd
  split at hd
  · rename_i es v hp
    obtain ⟨kn, ok', hes, hk⟩ := needs_ok ok hd
    exact wp_value (pureOp_run hp ok.tm ok.kn ⟨R, h, F, ok.sat, ok.hp⟩ hes) ⟨ρ, _, R, h, L, List.prefix_refl _, PH.le.refl _, List.suffix_refl _, by rw [dp_put]; exact hl, ok'.put o.dst v, hk⟩
  · exact effOp_ok ok hl hd
end
end Go.Proofs.Ytmibmjehjagmbaa.RX
