/- Contracts of the unit: Accept and Promise. No condition. -/
import Derived.Test.YtmibmjehjagmbaaUnitH
namespace Go.Proofs.Ytmibmjehjagmbaa
set_option linter.unusedSimpArgs false
set_option linter.unusedVariables false
open Go.Proofs.Ytmibmjehjagmbaa RX

theorem OTri.ofRead {P : Program} {s : Sem Next} {A : HP} {B : Value → HP} {v : Value} (r : ORead P s A v) (post : ∀ R h, A.p R h → (B v).p R h) : OTri P s A B := fun w R h F st a => ⟨.value v, v, w, r w R h F st a, rfl, Same.refl w, R, h, PH.le.refl _, st, post R h a⟩
def neqS (t : TypeId) (u v : Value) : Sem Next := do pure (.value (← binOp .neq t u v))
theorem part1 {w : World} {t : TypeId} (ht : Try.prog.underlying t = some (.int .i64)) (cs : Array Value) (off : Nat) (v : Value) (h : cs[off]? = some v) : (part t cs off).run Try.prog w = .ok v w := by
  have ha : aggT Try.prog t = false := by unfold aggT; rw [ht]
  simp only [part, Sem.run_bind, RX.run_isAgg ht, Result.andThen_ok, ha, Bool.false_eq_true, if_false, h]
  rfl
theorem run_equal_int {w : World} {t : TypeId} (ht : Try.prog.underlying t = some (.int .i64)) (n : Nat) (a b : Int) : (Op.equalIn (n + 1) t (.int .i64 a) (.int .i64 b)).run Try.prog w = .ok (decide (a = b)) w := by
  simp only [Op.equalIn, Sem.run_bind, RX.run_underlying ht, Result.andThen_ok, if_true, Sem.run_pure]
  rfl
theorem run_ballot_eq {w : World} (r q r' q' : Int) : (Op.equal 34 (.agg #[.int .i64 r, .int .i64 q]) (.agg #[.int .i64 r', .int .i64 q'])).run Try.prog w = .ok (decide (r = r') && decide (q = q')) w := by
  have hs : Try.prog.stoodInHeld 34 = false := by kernel_rfl
  have hi : Try.prog.underlying 3 = some (.int .i64) := by kernel_rfl
  have e2 : ∀ n, (Op.equalIn (n + 2) 34 (.agg #[.int .i64 r, .int .i64 q]) (.agg #[.int .i64 r', .int .i64 q'])).run Try.prog w = .ok (decide (r = r') && decide (q = q')) w := fun n => by
    rw [Op.equalIn]
    simp only [Sem.run_bind, RX.run_underlying Try.underlying34, Result.andThen_ok]
    simp [program, Sem.run, hs, Result.andThen]
    have p0 : ∀ a b : Int, Sem.run Try.prog (part 3 #[Value.int IntKind.i64 a, Value.int IntKind.i64 b] 0) w = .ok (.int .i64 a) w := fun a b => part1 hi _ _ _ rfl
    have p1 : ∀ a b : Int, Sem.run Try.prog (part 3 #[Value.int IntKind.i64 a, Value.int IntKind.i64 b] 1) w = .ok (.int .i64 b) w := fun a b => part1 hi _ _ _ rfl
    simp only [p0, run_equal_int hi]
    by_cases h1 : r = r'
    · simp [h1, Sem.run_bind, p1, run_equal_int hi]
      by_cases h2 : q = q'
      · simp [h2]
      · simp [h2]
    · simp [h1]
  exact e2 9998
theorem semOf_neqB {ρ : Env} {i j : Nat} {ty u : TypeId} {x y : V} (h : i ≠ j) {r q r' q' : Int} (hx : x.den ρ = .agg #[.int .i64 r, .int .i64 q]) (hy : y.den ρ = .agg #[.int .i64 r', .int .i64 q']) {A : HP} :
    ORead Try.prog (semOf ρ (.binOp .neq 34 (.tmp i) (.tmp j) u) ty [(i, x), (j, y)]) A (.bool (!(decide (r = r') && decide (q = q')))) := fun w R hh F s _ => by
  have h' : (i == j) = false := by simpa using h
  have hg : Try.prog.eqGuardType Try.prog.depth 34 = false := by kernel_rfl
  simp only [semOf, execOp, arEval, List.find?_cons, beq_self_eq_true, h', hx, hy]
  simp [eqGuard, binOp, hg, program, Sem.run_bind, Sem.run, Result.andThen, run_ballot_eq]
def acceptS (room : Int) (s : USt) (ps : List Pg) (n r w : Int) (l : List UInt8) : Int × USt × List Pg :=
  if propOk n r w = false then (1, s, ps)
  else if 1000 < l.length then (1, s, ps)
  else if lessB r w (instAt s n).pr (instAt s n).pw = true then (7, s, ps)
  else lastS room s ps (pageL 6 [n, r, w] ++ beN l.length 4 ++ l) (accS s n r w l)
set_option maxRecDepth 100000 in
theorem uAccept_ok (ub bd : Nat) (room : Int) (s : USt) (ps : List Pg) (n r w : Int) (a : Option Addr) (k c : Nat) (l : List UInt8) (S : HP) (hr : RdL S a k (l.map u8v)) (hl : l.length = k) (ha : k ≠ 0 → a.isSome = true) :
    Tri Try.prog 29 #[.pointer (some ⟨ub, 0, none⟩), .int .i64 n, .agg #[.int .i64 r, .int .i64 w], .slice a k c] (HP.sep (UD ub bd room s ps) S)
    (fun v => HP.and (v = .int .i64 (acceptS room s ps n r w l).1) (HP.sep (UD ub bd room (acceptS room s ps n r w l).2.1 (acceptS room s ps n r w l).2.2) S)) := by
  refine URep.triS fun mc mi lc cc li ci => ?_
  refine Tri.fact (fun R h H => inst_look mi s li ci n (HP.sep_left (HP.sep_right (HP.sep_right (HP.sep_right H))))) ?_
  rintro ⟨va, vc, hval, hb, hro⟩
  refine tri_of_tree (ρ := [.n ub, .n bd, .p (DRep bd room ps ps.length), .i s.epoch, .i s.low, .i s.top, .n mc, .p (MapH CellV iE mc s.cells lc cc), .n mi, .p (MapH InstV iE mi s.inst li ci), .i n, .i r, .i w, .a a, .n k, .n c, .p S]) mixed Try.func29 tree_uAccept ?_
  unfold t_uAccept
  simp only [T.den, E.prop, E.den, RX.look, F1.app, F2.app, Uni.int_i, Uni.nat_n, Uni.bool_c, Uni.str_s, Uni.adr_a, Uni.val_v, Uni.hp_p, hden, cden, V.den, W.den, A.den, BR.den, SA.den, FV.den, capV, exs, exP, allP, Cur.app, List.map_cons, List.map_nil, List.cons_append, List.nil_append, List.drop_succ_cons, List.drop_zero, List.length_cons, List.length_nil, Nat.zero_add, Nat.reduceAdd, Int.neg_neg, Bool.not_not, List.append_nil, Nat.add_zero, List.getElem?_cons_zero, List.getElem?_cons_succ, Decidable.not_not]
  intro x
  refine (uprop_ok n r w).weak (fun _ _ h => h) ?_
  rintro v R h ⟨rfl, H⟩
  refine ⟨_, rfl, ⟨fun h1 => .of fun R h H => ?_, fun h1 => ⟨fun h2 => .of fun R h H => ?_, fun h2 => ?_⟩⟩, H⟩
  · have e : acceptS room s ps n r w l = (1, s, ps) := if_pos (by simpa using h1)
    rw [e]; exact ⟨rfl, UD.ofS H⟩
  · have e : acceptS room s ps n r w l = (1, s, ps) := by unfold acceptS; rw [if_neg (by simpa using h1), if_pos (by omega)]
    rw [e]; exact ⟨rfl, UD.ofS H⟩
  obtain ⟨i, hi, z1, _⟩ := info_parts infoI
  have hlook := look_ok (r := mi) (l := li) (c := ci) iK undMi hi z1 n false (A := MapH InstV iE mi s.inst li ci) (fun R h H => MapH.at H)
  rw [if_neg (by decide), hval] at hlook
  refine ⟨_, _, _, _, _, _, _, hlook, ?_⟩
  refine (uless_ok r w (instAt s n).pr (instAt s n).pw).weak (fun _ _ h => h) ?_
  rintro v R h ⟨rfl, H⟩
  refine ⟨_, rfl, ⟨fun h3 => .of fun R h H => ?_, fun h3 y => ?_⟩, H⟩
  · have e : acceptS room s ps n r w l = (7, s, ps) := by unfold acceptS; rw [if_neg (by simpa using h1), if_neg (by omega), if_pos h3]
    rw [e]; exact ⟨rfl, UD.ofS H⟩
  have e : acceptS room s ps n r w l = lastS room s ps (pageL 6 [n, r, w] ++ beN l.length 4 ++ l) (accS s n r w l) := by unfold acceptS; rw [if_neg (by simpa using h1), if_neg (by omega), if_neg h3]
  rw [e]
  clear H
  refine (upage_ok 6 (some ⟨y, 0, none⟩) 3 3 [n, r, w] _ (one_rd y #[.int .i64 n, .int .i64 r, .int .i64 w] _) rfl (fun _ => rfl) (by omega)).weak (fun _ _ h => h) ?_
  rintro v R h ⟨b, rfl, H⟩
  refine ⟨b, WRep b (pageL 6 [n, r, w]), n, r, w, rfl, ?_, HP.sep_comm H⟩
  refine (wBytes_ok b (pageL 6 [n, r, w]) a k c l S hr hl ha (by rw [pageL_len]; simp only [List.length_cons, List.length_nil]; omega)).weak (fun _ _ h => h) ?_
  rintro v R h ⟨rfl, H⟩
  refine ⟨WRep b (pageL 6 [n, r, w] ++ beN k 4 ++ l), S, rfl, ?_, H⟩
  have hlen : (pageL 6 [n, r, w] ++ beN k 4 ++ l).length ≤ 140737488355328 := by
    rw [List.length_append, List.length_append, pageL_len, beN_len]; simp; omega
  refine (wOut_ok b _ (by rw [List.length_append, List.length_append, pageL_len, beN_len]; simp only [List.length_cons, List.length_nil]; omega)).weak (fun _ _ h => h) ?_
  rintro v R h ⟨pa, pc, rfl, H⟩
  refine ⟨pa, _, pc, OwB pa (pageL 6 [n, r, w] ++ beN k 4 ++ l).length pc (pageL 6 [n, r, w] ++ beN k 4 ++ l), _, rfl, ?_, HP.sep_comm H⟩
  rw [hl]
  refine (uLastU_ok ub bd mc mi room ps _ _ s pa _ pc (pageL 6 [n, r, w] ++ beN k 4 ++ l) _ (RdL.ow _ 1 _ _ _ _) rfl hlen).weak (fun _ _ h => h) ?_
  rintro v R h ⟨full, ⟨rfl, hf⟩, H⟩
  cases full with
  | true =>
    rw [lastS_full (hf.1 rfl)]
    exact ⟨4, bd, DRep bd room ps ps.length, s.epoch, s.low, s.top, mc, MapH CellV iE mc s.cells lc cc, mi, MapH InstV iE mi s.inst li ci, _, rfl, ⟨fun _ => .of fun R h H => ⟨rfl, UD.ofS H⟩, fun h => absurd h (by decide)⟩, H⟩
  | false =>
    rw [lastS_room (fun h => by have := hf.2 h; cases this)]
    refine ⟨0, bd, DRep bd room (ps ++ [pgW (pageL 6 [n, r, w] ++ beN k 4 ++ l)]) (ps ++ [pgW (pageL 6 [n, r, w] ++ beN k 4 ++ l)]).length, s.epoch, s.low, s.top, mc, MapH CellV iE mc s.cells lc cc, mi, MapH InstV iE mi s.inst li ci, OwB pa (pageL 6 [n, r, w] ++ beN k 4 ++ l).length pc (pageL 6 [n, r, w] ++ beN k 4 ++ l), rfl, ⟨fun h => absurd rfl h, fun _ => ?_⟩, H⟩
    refine (uAcc_ok ub bd mc mi _ (MapH CellV iE mc s.cells lc cc) s li ci n r w a k c l S hr hl (by omega)).weak (fun _ _ h => h) ?_
    rintro v R h ⟨rfl, H⟩
    refine ⟨bd, DRep bd room (ps ++ [pgW (pageL 6 [n, r, w] ++ beN k 4 ++ l)]) (ps ++ [pgW (pageL 6 [n, r, w] ++ beN k 4 ++ l)]).length, s.epoch, s.low, s.top, mc, MapH CellV iE mc s.cells lc cc, mi, MapE InstV iE mi (accS s n r w l).inst, S, rfl, .of fun R h H => ⟨rfl, ?_⟩, H⟩
    exact URep.ofS (s := accS s n r w l) (mc := mc) (mi := mi) (HP.sep_mono H (fun _ h => h) fun y hy => HP.sep_mono hy (fun _ h => h) fun z hz => HP.sep_mono hz (fun q hq => ⟨_, _, hq⟩) fun _ h => h)
/-- What Promise tells: the accepted ballot, the value, the error; and what is there then. -/
def promiseS (room : Int) (s : USt) (ps : List Pg) (n r w : Int) : Int × Int × List UInt8 × Int × USt × List Pg :=
  if propOk n r w = false then (0, 0, [], 1, s, ps)
  else if lessB r w (instAt s n).pr (instAt s n).pw = true then (0, 0, [], 7, s, ps)
  else if r = (instAt s n).pr ∧ w = (instAt s n).pw then ((instAt s n).ar, (instAt s n).aw, (instAt s n).val, 0, s, ps)
  else if room = ps.length then (0, 0, [], 4, s, ps)
  else ((instAt s n).ar, (instAt s n).aw, (instAt s n).val, 0, promS s n r w, ps ++ [pgW (pageL 5 [n, r, w])])
set_option maxRecDepth 100000 in
theorem uPromise_ok (ub bd : Nat) (room : Int) (s : USt) (ps : List Pg) (n r w : Int) :
    Tri Try.prog 26 #[.pointer (some ⟨ub, 0, none⟩), .int .i64 n, .agg #[.int .i64 r, .int .i64 w]] (UD ub bd room s ps)
    (fun v => HP.ex fun a => HP.ex fun c => HP.and (v = .tuple #[.agg #[.int .i64 (promiseS room s ps n r w).1, .int .i64 (promiseS room s ps n r w).2.1], .slice a (promiseS room s ps n r w).2.2.1.length c, .int .i64 (promiseS room s ps n r w).2.2.2.1])
      (HP.sep (UD ub bd room (promiseS room s ps n r w).2.2.2.2.1 (promiseS room s ps n r w).2.2.2.2.2) (RoB a (promiseS room s ps n r w).2.2.1.length (promiseS room s ps n r w).2.2.1))) := by
  refine URep.tri fun mc mi lc cc li ci => ?_
  refine Tri.fact (fun R h H => inst_look mi s li ci n (HP.sep_right (HP.sep_right (HP.sep_right H)))) ?_
  rintro ⟨va, vc, hval, hb, hro⟩
  refine tri_of_tree (ρ := [.n ub, .n bd, .p (DRep bd room ps ps.length), .i s.epoch, .i s.low, .i s.top, .n mc, .p (MapH CellV iE mc s.cells lc cc), .n mi, .p (MapH InstV iE mi s.inst li ci), .i n, .i r, .i w]) mixed Try.func26 tree_uPromise ?_
  unfold t_uPromise
  simp only [T.den, E.prop, E.den, RX.look, F1.app, F2.app, Uni.int_i, Uni.nat_n, Uni.bool_c, Uni.str_s, Uni.adr_a, Uni.val_v, Uni.hp_p, hden, cden, V.den, W.den, A.den, BR.den, SA.den, FV.den, capV, exs, exP, allP, Cur.app, List.map_cons, List.map_nil, List.cons_append, List.nil_append, List.drop_succ_cons, List.drop_zero, List.length_cons, List.length_nil, Nat.zero_add, Nat.reduceAdd, Int.neg_neg, Bool.not_not, List.append_nil, Nat.add_zero, List.getElem?_cons_zero, List.getElem?_cons_succ, Decidable.not_not]
  intro x y
  refine (uprop_ok n r w).weak (fun _ _ h => h) ?_
  rintro v R h ⟨rfl, H⟩
  refine ⟨_, rfl, ⟨fun h1 => .of fun R h H => ?_, fun h1 => ?_⟩, H⟩
  · have e : promiseS room s ps n r w = (0, 0, [], 1, s, ps) := if_pos (by simpa using h1)
    rw [e]; exact ⟨none, 0, rfl, RoC.joinR (RoC.nil _ _ R h) (UD.ofH H)⟩
  obtain ⟨i, hi, z1, _⟩ := info_parts infoI
  have hlook := look_ok (r := mi) (l := li) (c := ci) iK undMi hi z1 n false (A := MapH InstV iE mi s.inst li ci) (fun R h H => MapH.at H)
  rw [if_neg (by decide), hval] at hlook
  rw [semOf_lookup (by decide)]
  simp only [T.den, E.prop, E.den, RX.look, F1.app, F2.app, Uni.int_i, Uni.nat_n, Uni.bool_c, Uni.str_s, Uni.adr_a, Uni.val_v, Uni.hp_p, hden, cden, V.den, W.den, A.den, BR.den, SA.den, FV.den, capV, exs, exP, allP, Cur.app, List.map_cons, List.map_nil, List.cons_append, List.nil_append, List.drop_succ_cons, List.drop_zero, List.length_cons, List.length_nil, Nat.zero_add, Nat.reduceAdd, Int.neg_neg, Bool.not_not, List.append_nil, Nat.add_zero, List.getElem?_cons_zero, List.getElem?_cons_succ, Decidable.not_not]
  refine OTri.ofRead hlook fun R h H => ⟨(instAt s n).pr, (instAt s n).pw, (instAt s n).ar, (instAt s n).aw, va, (instAt s n).val.length, vc, RoB va (instAt s n).val.length (instAt s n).val, MapH InstV iE mi s.inst li ci, rfl, fun z => ?_, RoC.join (hro R h H) H⟩
  clear H
  refine (uless_ok r w (instAt s n).pr (instAt s n).pw).weak (fun _ _ h => h) ?_
  rintro v R h ⟨rfl, H⟩
  refine ⟨_, rfl, ⟨fun h3 => .of fun R h H => ?_, fun h3 => ?_⟩, H⟩
  · have e : promiseS room s ps n r w = (0, 0, [], 7, s, ps) := by unfold promiseS; rw [if_neg (by simpa using h1), if_pos h3]
    rw [e]; exact ⟨none, 0, rfl, RoC.joinR (RoC.nil _ _ R h) (UD.ofH H)⟩
  clear H
  refine ⟨_, semOf_neqB (r := r) (q := w) (r' := (instAt s n).pr) (q' := (instAt s n).pw) (by decide) rfl rfl, fun hne => fun y2 => ?_, fun heq => ?_⟩
  · have hne' : ¬ (r = (instAt s n).pr ∧ w = (instAt s n).pw) := by
      simp only [Bool.not_eq_true', Bool.and_eq_false_iff, decide_eq_false_iff_not] at hne
      rintro ⟨h1, h2⟩
      rcases hne with h | h
      · exact h h1
      · exact h h2
    refine (upage_ok 5 (some ⟨y2, 0, none⟩) 3 3 [n, r, w] _ (one_rd y2 #[.int .i64 n, .int .i64 r, .int .i64 w] _) rfl (fun _ => rfl) (by omega)).weak (fun _ _ h => h) ?_
    rintro v R h ⟨b, rfl, H⟩
    refine ⟨b, WRep b (pageL 5 [n, r, w]), n, r, w, rfl, ?_, HP.sep_comm H⟩
    refine (wOut_ok b (pageL 5 [n, r, w]) (by rw [pageL_len]; simp)).weak (fun _ _ h => h) ?_
    rintro v R h ⟨pa, pc, rfl, H⟩
    refine ⟨pa, _, pc, OwB pa (pageL 5 [n, r, w]).length pc (pageL 5 [n, r, w]), _, rfl, ?_, HP.sep_comm H⟩
    refine (uLastU_ok ub bd mc mi room ps _ _ s pa _ pc (pageL 5 [n, r, w]) _ (RdL.ow _ 1 _ _ _ _) rfl (by rw [pageL_len]; simp)).weak (fun _ _ h => h) ?_
    rintro v R h ⟨full, ⟨rfl, hf⟩, H⟩
    cases full with
    | true =>
      have e : promiseS room s ps n r w = (0, 0, [], 4, s, ps) := by unfold promiseS; rw [if_neg (by simpa using h1), if_neg h3, if_neg hne', if_pos (hf.1 rfl)]
      rw [e]
      exact ⟨4, bd, DRep bd room ps ps.length, s.epoch, s.low, s.top, mc, MapH CellV iE mc s.cells lc cc, mi, MapH InstV iE mi s.inst li ci, _, rfl, ⟨fun _ => .of fun R h H => ⟨none, 0, rfl, RoC.joinR (RoC.nil _ _ R h) (UD.ofH H)⟩, fun h => absurd h (by decide)⟩, H⟩
    | false =>
      have e : promiseS room s ps n r w = ((instAt s n).ar, (instAt s n).aw, (instAt s n).val, 0, promS s n r w, ps ++ [pgW (pageL 5 [n, r, w])]) := by unfold promiseS; rw [if_neg (by simpa using h1), if_neg h3, if_neg hne', if_neg (fun h => by have := hf.2 h; cases this)]
      rw [e]
      refine ⟨0, bd, DRep bd room (ps ++ [pgW (pageL 5 [n, r, w])]) (ps ++ [pgW (pageL 5 [n, r, w])]).length, s.epoch, s.low, s.top, mc, MapH CellV iE mc s.cells lc cc, mi, MapH InstV iE mi s.inst li ci, OwB pa (pageL 5 [n, r, w]).length pc (pageL 5 [n, r, w]), rfl, ⟨fun h => absurd rfl h, fun _ => ?_⟩, H⟩
      refine (uProm_ok ub bd mc mi _ (MapH CellV iE mc s.cells lc cc) s li ci n r w).weak (fun _ _ h => h) ?_
      rintro v R h ⟨rfl, H⟩
      refine ⟨bd, DRep bd room (ps ++ [pgW (pageL 5 [n, r, w])]) (ps ++ [pgW (pageL 5 [n, r, w])]).length, s.epoch, s.low, s.top, mc, MapH CellV iE mc s.cells lc cc, mi, MapE InstV iE mi (promS s n r w).inst, rfl, ?_, H⟩
      refine (cloneR_ok (RoB va (instAt s n).val.length (instAt s n).val) va _ vc (instAt s n).val (RdL.ro _ _ _ _) rfl hb).weak (fun _ _ h => h) ?_
      rintro v R h ⟨ca, cc', rfl, H⟩
      refine ⟨ca, _, cc', RoB ca (instAt s n).val.length (instAt s n).val, _, rfl, .of fun R h H => ⟨ca, cc', rfl, ?_⟩, H⟩
      exact URep.ofS (s := promS s n r w) (mc := mc) (mi := mi) (HP.sep_mono H (fun _ h => h) fun y hy => HP.sep_mono hy (fun _ h => h) fun z hz => HP.sep_mono hz (fun q hq => ⟨_, _, hq⟩) fun _ h => h)
  · have heq' : r = (instAt s n).pr ∧ w = (instAt s n).pw := by simpa using heq
    have e : promiseS room s ps n r w = ((instAt s n).ar, (instAt s n).aw, (instAt s n).val, 0, s, ps) := by unfold promiseS; rw [if_neg (by simpa using h1), if_neg h3, if_pos heq']
    rw [e]
    refine (cloneR_ok (HP.sep (RoB va (instAt s n).val.length (instAt s n).val) (MapH InstV iE mi s.inst li ci)) va _ vc (instAt s n).val ⟨(RdL.ro 1 va _ _).rd.left, fun R h H => (RdL.ro 1 va _ _).none R h (HP.sep_left H)⟩ rfl hb).weak (fun _ _ h => h) ?_
    rintro v R h ⟨ca, cc', rfl, H⟩
    refine ⟨ca, _, cc', RoB ca (instAt s n).val.length (instAt s n).val, RoB va (instAt s n).val.length (instAt s n).val, MapH InstV iE mi s.inst li ci, rfl, .of fun R h H => ⟨ca, cc', rfl, UD.ofS H⟩, H⟩
end Go.Proofs.Ytmibmjehjagmbaa
