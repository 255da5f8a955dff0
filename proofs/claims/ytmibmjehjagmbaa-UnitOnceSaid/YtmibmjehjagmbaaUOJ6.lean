/- Texts of this claim, joined: RefE, In09, TrLaw09, LawU, LawV, LawW, UnitOW. No condition. -/
import Derived.Test.YtmibmjehjagmbaaUOJ1
import Derived.Test.YtmibmjehjagmbaaUOJ3
import Derived.Test.YtmibmjehjagmbaaUOJ5
import Derived.KernelRfl
set_option linter.unusedSimpArgs false
set_option linter.unusedVariables false
/- The document's unit: contracts of Write, Promise, Accept, Tail. No condition. -/
namespace Go.Proofs.Ytmibmjehjagmbaa
set_option linter.unusedSimpArgs false
set_option linter.unusedVariables false
open Go.Proofs.Ytmibmjehjagmbaa RX
set_option maxRecDepth 100000

theorem neqBW {i j : Nat} {ty u : TypeId} (h : i ≠ j) {r q r' q' : Int} {A : HP} :
    ORead Try.prog (semW (.binOp .neq 34 (.tmp i) (.tmp j) u) ty [(i, .agg #[.int .i64 r, .int .i64 q]), (j, .agg #[.int .i64 r', .int .i64 q'])]) A (.bool (!(decide (r = r') && decide (q = q')))) := by
  have := semOf_neqB (ρ := [.i r, .i q, .i r', .i q']) (i := i) (j := j) (ty := ty) (u := u) (x := .w (.agg [.int .i64 (.v 0), .int .i64 (.v 1)])) (y := .w (.agg [.int .i64 (.v 2), .int .i64 (.v 3)])) h (A := A) rfl rfl
  rw [semW_eq] at this
  exact this
section
variable (rb : Nat) (room : Int) (pgs : List RPg)
def writeR (l : List RPg) (epoch at' : Int) (x : CellS) : (CellS × Int) × List RPg :=
  if askR l epoch at' ≠ 0 then ((⟨0, []⟩, askR l epoch at'), l)
  else if (x.what ≠ 1 ∧ x.what ≠ 2) ∨ (x.what = 1 ∧ 65536 < x.data.length) ∨ (x.what = 2 ∧ 0 < x.data.length) then ((⟨0, []⟩, 1), l)
  else if (readR l epoch at').2 = 11 then ((⟨0, []⟩, 11), l)
  else if (readR l epoch at').2 = 0 then (((readR l epoch at').1, 10), l)
  else ((⟨0, []⟩, (addR room l ⟨x.what, at', 0, 0, x.data⟩).1), (addR room l ⟨x.what, at', 0, 0, x.data⟩).2)
set_option maxHeartbeats 2000000 in
theorem qWrite_ok (hroom : room ≤ 1000000) (epoch at' what : Int) (xa : Option Addr) (xc : Nat) (d : List UInt8) (hd : d.length ≤ 140737488355328) (hxa : d.length ≠ 0 → xa.isSome = true) :
    Tri Try.prog 61 #[.pointer (some ⟨rb, 0, none⟩), .int .i64 epoch, .int .i64 at', .agg #[.int .i64 what, .slice xa d.length xc]] (HP.sep (RU rb room pgs) (RoB xa d.length d))
    (fun v => HP.ex fun ya => HP.ex fun yc => HP.and (v = .tuple #[.agg #[.int .i64 (writeR room pgs epoch at' ⟨what, d⟩).1.1.what, .slice ya (writeR room pgs epoch at' ⟨what, d⟩).1.1.data.length yc], .int .i64 (writeR room pgs epoch at' ⟨what, d⟩).1.2] ∧ (writeR room pgs epoch at' ⟨what, d⟩).1.1.data.length ≤ 140737488355328)
      (HP.sep (RoB ya (writeR room pgs epoch at' ⟨what, d⟩).1.1.data.length (writeR room pgs epoch at' ⟨what, d⟩).1.1.data) (HP.sep (RU rb room (writeR room pgs epoch at' ⟨what, d⟩).2) (RoB xa d.length d)))) := by
  refine tri_of_tree (ρ := [.n rb, .p (RU rb room pgs), .i epoch, .i at', .i what, .a xa, .n d.length, .n xc, .p (RoB xa d.length d)]) mixed Try.func61 tree_qWrite9 ?_
  unfold t_qWrite9
  simp only [T.den, E.prop, E.den, RX.look, F1.app, F2.app, Uni.int_i, Uni.nat_n, Uni.bool_c, Uni.str_s, Uni.adr_a, Uni.val_v, Uni.hp_p, hden, cden, V.den, W.den, A.den, BR.den, SA.den, FV.den, capV, exs, exP, allP, Cur.app, List.map_cons, List.map_nil, List.cons_append, List.nil_append, List.drop_succ_cons, List.drop_zero, List.length_cons, List.length_nil, Nat.zero_add, Nat.reduceAdd, Int.neg_neg, Bool.not_not, List.append_nil, Nat.add_zero, List.getElem?_cons_zero, List.getElem?_cons_succ, Decidable.not_not, semW_eq, semW_load, semW_store, semW_storeC, semW_append, semW_lookup, semW_lookupC, semW_update, semW_updateC, semW_updateK, semW_delete, semW_range, semW_next, semW_entry, semW_nil, ne_eq, Nat.reduceEqDiff, not_false_eq_true]
  intro _ _
  refine (qAsk_ok rb room pgs epoch at').weak (fun _ _ h => h) ?_
  rintro v R h ⟨rfl, H⟩
  refine ⟨_, rfl, ?_, H⟩
  clear H
  have lone : ∀ e, writeR room pgs epoch at' ⟨what, d⟩ = ((⟨0, []⟩, e), pgs) → ∀ R h, (HP.sep (RU rb room pgs) (RoB xa d.length d)).p R h → (HP.ex fun ya => HP.ex fun yc => HP.and (Value.tuple #[.agg #[.int .i64 0, .slice none 0 0], .int .i64 e] = .tuple #[.agg #[.int .i64 (writeR room pgs epoch at' ⟨what, d⟩).1.1.what, .slice ya (writeR room pgs epoch at' ⟨what, d⟩).1.1.data.length yc], .int .i64 (writeR room pgs epoch at' ⟨what, d⟩).1.2] ∧ (writeR room pgs epoch at' ⟨what, d⟩).1.1.data.length ≤ 140737488355328) (HP.sep (RoB ya (writeR room pgs epoch at' ⟨what, d⟩).1.1.data.length (writeR room pgs epoch at' ⟨what, d⟩).1.1.data) (HP.sep (RU rb room (writeR room pgs epoch at' ⟨what, d⟩).2) (RoB xa d.length d)))).p R h := fun e he R h H => by
    rw [he]
    exact ⟨none, 0, ⟨rfl, by simp⟩, RoC.join (RoB0 none : (RoB none 0 []).p R h) H⟩
  refine ⟨fun h1 => .of fun R h H => lone _ (by unfold writeR; rw [if_pos h1]) R h H, fun h1 => ?_⟩
  have h1' : ¬ askR pgs epoch at' ≠ 0 := by simpa using h1
  have bad : ((what ≠ 1 ∧ what ≠ 2) ∨ (what = 1 ∧ 65536 < d.length) ∨ (what = 2 ∧ 0 < d.length)) → writeR room pgs epoch at' ⟨what, d⟩ = ((⟨0, []⟩, 1), pgs) := fun hb => by unfold writeR; rw [if_neg h1', if_pos hb]
  have good : ¬ ((what ≠ 1 ∧ what ≠ 2) ∨ (what = 1 ∧ 65536 < d.length) ∨ (what = 2 ∧ 0 < d.length)) → writeR room pgs epoch at' ⟨what, d⟩ = if (readR pgs epoch at').2 = 11 then ((⟨0, []⟩, 11), pgs) else if (readR pgs epoch at').2 = 0 then (((readR pgs epoch at').1, 10), pgs) else ((⟨0, []⟩, (addR room pgs ⟨what, at', 0, 0, d⟩).1), (addR room pgs ⟨what, at', 0, 0, d⟩).2) := fun hb => by unfold writeR; rw [if_neg h1', if_neg hb]
  have rdk := qRead_ok rb room pgs epoch at'
  have add := fun a' c' => qAdd_ok rb room pgs hroom ⟨what, at', 0, 0, d⟩ a' c' hd
  repeat' (first
    | intro (_ : Nat)
    | refine And.intro ?_ ?_
    | intro (hb : (_ : Int) = _)
    | intro (hb : ¬ (_ : Int) = _)
    | intro (hb : (_ : Int) < _)
    | intro (hb : ¬ (_ : Int) < _)
    | exact .of fun R h H => lone _ (bad (by omega)) R h H
    | (refine rdk.weak (fun _ _ h => h) ?_
       rintro v R h ⟨ya, yc, ⟨rfl, hyb⟩, H⟩
       refine ⟨_, ya, _, yc, RoB ya _ _, _, rfl, ?_, H⟩
       clear H
       have hg := good (by omega))
    | exact .of fun R h H => (by rw [hb]; exact lone _ (by rw [hg, if_pos hb]) R h H)
    | exact .of fun R h H => (by
        have e : writeR room pgs epoch at' ⟨what, d⟩ = (((readR pgs epoch at').1, 10), pgs) := by rw [hg, if_neg (by assumption), if_pos hb]
        rw [e]
        exact ⟨ya, yc, ⟨rfl, hyb⟩, HP.pick [_, _, _] [2, 0, 1] (by decide) rfl H⟩)
    | (refine (appE _ xa _ xc d (RoB xa d.length d) (RdL.ro _ _ _ _) rfl hxa hd).weak (fun _ _ h => h) ?_
       rintro v R h ⟨a', c', rfl, H⟩
       refine ⟨a', _, c', RoB a' d.length d, rfl, ?_, H⟩
       clear H)
    | (refine (add a' c').weak (fun _ _ h => h) ?_
       rintro v R h ⟨rfl, H⟩
       refine ⟨_, RU rb room (addR room pgs ⟨what, at', 0, 0, d⟩).2, RoB a' d.length d, rfl, .of fun R h H => ?_, H⟩
       have e : writeR room pgs epoch at' ⟨what, d⟩ = ((⟨0, []⟩, (addR room pgs ⟨what, at', 0, 0, d⟩).1), (addR room pgs ⟨what, at', 0, 0, d⟩).2) := by rw [hg, if_neg (by assumption), if_neg (by assumption)]
       rw [e]
       exact ⟨none, 0, ⟨rfl, by simp⟩, RoC.join (RoB0 none : (RoB none 0 []).p R h) H⟩)
    | fail)
def promiseR (l : List RPg) (n r w : Int) : ((Int × Int) × List UInt8 × Int) × List RPg :=
  if propOk n r w = false then (((0, 0), [], 1), l)
  else if lessR r w (promU n l).1 (promU n l).2 = true then (((0, 0), [], 7), l)
  else if r = (promU n l).1 ∧ w = (promU n l).2 then (((accU n l).1, (accU n l).2, 0), l)
  else if (addR room l ⟨5, n, r, w, []⟩).1 ≠ 0 then (((0, 0), [], (addR room l ⟨5, n, r, w, []⟩).1), (addR room l ⟨5, n, r, w, []⟩).2)
  else (((accU n (addR room l ⟨5, n, r, w, []⟩).2).1, (accU n (addR room l ⟨5, n, r, w, []⟩).2).2, 0), (addR room l ⟨5, n, r, w, []⟩).2)
set_option maxHeartbeats 2000000 in
theorem qPromise_ok (hroom : room ≤ 1000000) (n r w : Int) :
    Tri Try.prog 67 #[.pointer (some ⟨rb, 0, none⟩), .int .i64 n, .agg #[.int .i64 r, .int .i64 w]] (RU rb room pgs)
    (fun v => HP.ex fun ya => HP.ex fun yc => HP.and (v = .tuple #[.agg #[.int .i64 (promiseR room pgs n r w).1.1.1, .int .i64 (promiseR room pgs n r w).1.1.2], .slice ya (promiseR room pgs n r w).1.2.1.length yc, .int .i64 (promiseR room pgs n r w).1.2.2] ∧ (promiseR room pgs n r w).1.2.1.length ≤ 140737488355328)
      (HP.sep (RU rb room (promiseR room pgs n r w).2) (RoB ya (promiseR room pgs n r w).1.2.1.length (promiseR room pgs n r w).1.2.1))) := by
  refine tri_of_tree (ρ := [.n rb, .p (RU rb room pgs), .i n, .i r, .i w]) mixed Try.func67 tree_qPromise ?_
  unfold t_qPromise
  simp only [T.den, E.prop, E.den, RX.look, F1.app, F2.app, Uni.int_i, Uni.nat_n, Uni.bool_c, Uni.str_s, Uni.adr_a, Uni.val_v, Uni.hp_p, hden, cden, V.den, W.den, A.den, BR.den, SA.den, FV.den, capV, exs, exP, allP, Cur.app, List.map_cons, List.map_nil, List.cons_append, List.nil_append, List.drop_succ_cons, List.drop_zero, List.length_cons, List.length_nil, Nat.zero_add, Nat.reduceAdd, Int.neg_neg, Bool.not_not, List.append_nil, Nat.add_zero, List.getElem?_cons_zero, List.getElem?_cons_succ, Decidable.not_not, semW_eq, semW_load, semW_store, semW_storeC, semW_append, semW_lookup, semW_lookupC, semW_update, semW_updateC, semW_updateK, semW_delete, semW_range, semW_next, semW_entry, semW_nil, ne_eq, Nat.reduceEqDiff, not_false_eq_true]
  intro _ _
  refine (qMay_ok n r w).weak (fun _ _ h => h) ?_
  rintro v R h rfl
  refine ⟨_, rfl, ⟨fun h1 => .of fun R h H => ?_, fun h1 => ?_⟩, trivial⟩
  · have e : promiseR room pgs n r w = (((0, 0), [], 1), pgs) := by unfold promiseR; rw [if_pos (by simpa using h1)]
    rw [e]
    exact ⟨none, 0, ⟨rfl, by simp⟩, RoC.joinR (RoB0 none : (RoB none 0 []).p R h) H⟩
  refine (qPromised_ok rb room pgs n).weak (fun _ _ h => h) ?_
  rintro v R h ⟨rfl, H⟩
  refine ⟨_, _, rfl, ?_, H⟩
  clear H
  refine (qLess_ok r w _ _).weak (fun _ _ h => h) ?_
  rintro v R h rfl
  refine ⟨_, rfl, ⟨fun h2 => .of fun R h H => ?_, fun h2 => ?_⟩, trivial⟩
  · have e : promiseR room pgs n r w = (((0, 0), [], 7), pgs) := by unfold promiseR; rw [if_neg (by simpa using h1), if_pos h2]
    rw [e]
    exact ⟨none, 0, ⟨rfl, by simp⟩, RoC.joinR (RoB0 none : (RoB none 0 []).p R h) H⟩
  refine (qPromised_ok rb room pgs n).weak (fun _ _ h => h) ?_
  rintro v R h ⟨rfl, H⟩
  refine ⟨_, _, rfl, ⟨_, neqBW (by decide), ⟨fun h3 => ?_, fun h3 => ?_⟩⟩, H⟩
  · clear H
    have h3' : ¬ (r = (promU n pgs).1 ∧ w = (promU n pgs).2) := by
      rintro ⟨e1, e2⟩
      rw [decide_eq_true e1, decide_eq_true e2] at h3
      exact absurd h3 (by decide)
    have e0 : promiseR room pgs n r w = if (addR room pgs ⟨5, n, r, w, []⟩).1 ≠ 0 then (((0, 0), [], (addR room pgs ⟨5, n, r, w, []⟩).1), (addR room pgs ⟨5, n, r, w, []⟩).2) else (((accU n (addR room pgs ⟨5, n, r, w, []⟩).2).1, (accU n (addR room pgs ⟨5, n, r, w, []⟩).2).2, 0), (addR room pgs ⟨5, n, r, w, []⟩).2) := by
      unfold promiseR; rw [if_neg (by simpa using h1), if_neg h2, if_neg h3']
    refine (qAddN_ok rb room pgs hroom ⟨5, n, r, w, []⟩ rfl).weak (fun _ _ h => h) ?_
    rintro v R h ⟨rfl, H⟩
    refine ⟨_, RU rb room (addR room pgs ⟨5, n, r, w, []⟩).2, rfl, ⟨fun h4 => .of fun R h H => ?_, fun h4 => ?_⟩, H⟩
    · rw [e0, if_pos h4]
      exact ⟨none, 0, ⟨rfl, by simp⟩, RoC.joinR (RoB0 none : (RoB none 0 []).p R h) H⟩
    clear H
    refine (qAccepted_ok rb room _ n).weak (fun _ _ h => h) ?_
    rintro v R h ⟨ya, yc, ⟨rfl, hb⟩, H⟩
    refine ⟨_, _, ya, _, yc, RoB ya _ _, rfl, fun _ => .of fun R h H => ?_, H⟩
    rw [e0, if_neg (by simpa using h4)]
    exact ⟨ya, yc, ⟨rfl, hb⟩, H⟩
  · clear H
    have h3' : r = (promU n pgs).1 ∧ w = (promU n pgs).2 := by simpa using h3
    refine (qAccepted_ok rb room pgs n).weak (fun _ _ h => h) ?_
    rintro v R h ⟨ya, yc, ⟨rfl, hb⟩, H⟩
    refine ⟨_, _, ya, _, yc, RoB ya _ _, rfl, fun _ => .of fun R h H => ?_, H⟩
    have e : promiseR room pgs n r w = (((accU n pgs).1, (accU n pgs).2, 0), pgs) := by unfold promiseR; rw [if_neg (by simpa using h1), if_neg h2, if_pos h3']
    rw [e]
    exact ⟨ya, yc, ⟨rfl, hb⟩, H⟩
def acceptR (l : List RPg) (n r w : Int) (d : List UInt8) : Int × List RPg :=
  if propOk n r w = false ∨ 1000 < d.length then (1, l) else if lessR r w (promU n l).1 (promU n l).2 = true then (7, l) else addR room l ⟨6, n, r, w, d⟩
theorem qAccept_ok (hroom : room ≤ 1000000) (n r w : Int) (xa : Option Addr) (xc : Nat) (d : List UInt8) (hd : d.length ≤ 140737488355328) (hxa : d.length ≠ 0 → xa.isSome = true) :
    Tri Try.prog 69 #[.pointer (some ⟨rb, 0, none⟩), .int .i64 n, .agg #[.int .i64 r, .int .i64 w], .slice xa d.length xc] (HP.sep (RU rb room pgs) (RoB xa d.length d))
    (fun v => HP.and (v = .int .i64 (acceptR room pgs n r w d).1) (HP.sep (RU rb room (acceptR room pgs n r w d).2) (RoB xa d.length d))) := by
  refine tri_of_tree (ρ := [.n rb, .p (RU rb room pgs), .i n, .i r, .i w, .a xa, .n d.length, .n xc, .p (RoB xa d.length d)]) mixed Try.func69 tree_qAccept ?_
  unfold t_qAccept
  simp only [T.den, E.prop, E.den, RX.look, F1.app, F2.app, Uni.int_i, Uni.nat_n, Uni.bool_c, Uni.str_s, Uni.adr_a, Uni.val_v, Uni.hp_p, hden, cden, V.den, W.den, A.den, BR.den, SA.den, FV.den, capV, exs, exP, allP, Cur.app, List.map_cons, List.map_nil, List.cons_append, List.nil_append, List.drop_succ_cons, List.drop_zero, List.length_cons, List.length_nil, Nat.zero_add, Nat.reduceAdd, Int.neg_neg, Bool.not_not, List.append_nil, Nat.add_zero, List.getElem?_cons_zero, List.getElem?_cons_succ, Decidable.not_not, semW_eq, semW_load, semW_store, semW_storeC, semW_append, semW_lookup, semW_lookupC, semW_update, semW_updateC, semW_updateK, semW_delete, semW_range, semW_next, semW_entry, semW_nil, ne_eq, Nat.reduceEqDiff, not_false_eq_true]
  intro _
  refine (qMay_ok n r w).weak (fun _ _ h => h) ?_
  rintro v R h rfl
  refine ⟨_, rfl, ⟨fun h1 => .of fun R h H => ?_, fun h1 => ⟨fun h2 => .of fun R h H => ?_, fun h2 => ?_⟩⟩, trivial⟩
  · have e : acceptR room pgs n r w d = (1, pgs) := by unfold acceptR; rw [if_pos (.inl (by simpa using h1))]
    rw [e]; exact ⟨rfl, H⟩
  · have e : acceptR room pgs n r w d = (1, pgs) := by unfold acceptR; rw [if_pos (.inr (by omega))]
    rw [e]; exact ⟨rfl, H⟩
  have e0 : acceptR room pgs n r w d = if lessR r w (promU n pgs).1 (promU n pgs).2 = true then (7, pgs) else addR room pgs ⟨6, n, r, w, d⟩ := by
    unfold acceptR
    rw [if_neg]
    rintro (h | h)
    · rw [h] at h1; cases h1
    · omega
  refine (qPromised_ok rb room pgs n).weak (fun _ _ h => h) ?_
  rintro v R h ⟨rfl, H⟩
  refine ⟨_, _, rfl, ?_, H⟩
  clear H
  refine (qLess_ok r w _ _).weak (fun _ _ h => h) ?_
  rintro v R h rfl
  refine ⟨_, rfl, ⟨fun h3 => .of fun R h H => ?_, fun h3 z => ?_⟩, trivial⟩
  · rw [e0, if_pos h3]; exact ⟨rfl, H⟩
  refine (appE z xa _ xc d (RoB xa d.length d) (RdL.ro _ _ _ _) rfl hxa hd).weak (fun _ _ h => h) ?_
  rintro v R h ⟨a', c', rfl, H⟩
  refine ⟨a', _, c', RoB a' d.length d, rfl, ?_, H⟩
  clear H
  refine (qAdd_ok rb room pgs hroom ⟨6, n, r, w, d⟩ a' c' hd).weak (fun _ _ h => h) ?_
  rintro v R h ⟨rfl, H⟩
  refine ⟨_, RU rb room (addR room pgs ⟨6, n, r, w, d⟩).2, RoB a' d.length d, rfl, .of fun R h H => ?_, H⟩
  rw [e0, if_neg h3]; exact ⟨rfl, H⟩
end
end Go.Proofs.Ytmibmjehjagmbaa

/- What comes into law 9. No condition. -/
namespace Go.Proofs.Ytmibmjehjagmbaa
open Go.RowKit Go.ChangeShapes Go.WideShapes Go.Deep RX
set_option maxRecDepth 100000
set_option linter.unusedVariables false
set_option linter.unusedSimpArgs false

structure Call09 where
  what : Int
  epoch : Int
  at_ : Int
  cell_what : Int
  cell_data : List UInt8
  cell_dataa : Option Addr
  cell_datac : Nat
  br_r : Int
  br_w : Int
abbrev Call09.vals (x : Call09) : List Value := [.int .i64 x.what, .int .i64 x.epoch, .int .i64 x.at_, .int .i64 x.cell_what, .slice x.cell_dataa x.cell_data.length x.cell_datac, .int .i64 x.br_r, .int .i64 x.br_w]
def Call09.hp (x : Call09) : HP := HP.both (HP.pure (okI x.what)) (HP.both (HP.pure (okI x.epoch)) (HP.both (HP.pure (okI x.at_)) (HP.both (HP.pure (okI x.cell_what)) (HP.both (HP.and (x.cell_data.length ≤ 140737488355328) (RoB x.cell_dataa x.cell_data.length x.cell_data)) (HP.both (HP.pure (okI x.br_r)) (HP.pure (okI x.br_w)))))))
theorem Call09.pers (x : Call09) (R h h' : PH) (H : (x.hp).p R h) : (x.hp).p R h' := ⟨H.1, ⟨H.2.1, ⟨H.2.2.1, ⟨H.2.2.2.1, ⟨H.2.2.2.2.1, ⟨H.2.2.2.2.2.1, H.2.2.2.2.2.2⟩⟩⟩⟩⟩⟩
instance : Inhabited Call09 := ⟨⟨0, 0, 0, 0, [], none, 0, 0, 0⟩⟩
def kCall09 : Kind Call09 := ⟨7, by decide, Call09.vals, fun _ => rfl, Call09.hp, Call09.pers⟩
theorem Call09.of_trod {H : Type} {enc : TypeId × Value → H} {w : World} {cs : List Value} {n : Nat} {x : DataW H × List MemPlace} (h : DataW.trod enc Try.prog w 0 (fun _ => true) true n 36 cs = some x) (hs : Small Try.prog 36 x.1) : ∃ m : Call09, cs = kCall09.vals m ∧ ∀ h, (kCall09.hp m).p (allOf w) h := by
  obtain ⟨xs0, n0, _, hx0, hl0, hxl0, hf0⟩ := DataW.trod_struct Try.underlying36 h
  replace hxl0 : xs0.length = 5 := hxl0
  have hs0 : Small Try.prog 36 (.agg (xs0.map (·.1))) := by
    have e := hx0
    first | (subst e; exact hs) | (rw [e] at hs; exact hs) | (have e2 := congrArg Prod.fst e; rw [← e2]; exact hs) | (rw [← e]; exact hs)
  obtain ⟨c0, e0, w0⟩ := field_int Try.underlying3 (show 0 < xs0.length by omega) (by kernel_rfl) (hf0 0 _ rfl)
  obtain ⟨c1, e1, w1⟩ := field_int Try.underlying3 (show 1 < xs0.length by omega) (by kernel_rfl) (hf0 1 _ rfl)
  obtain ⟨c2, e2, w2⟩ := field_int Try.underlying3 (show 2 < xs0.length by omega) (by kernel_rfl) (hf0 2 _ rfl)
  have g0_3 := hf0 3 _ rfl
  rw [List.getElem?_eq_getElem (show 3 < xs0.length by omega)] at g0_3
  have hp0_3 : Small Try.prog 32 xs0[3].1 := Small.part (i := 3) hs0 Try.underlying36 rfl (by rw [List.getElem?_map, List.getElem?_eq_getElem (show 3 < xs0.length by omega)]; rfl)
  obtain ⟨xs1, n1, _, hx1, hl1, hxl1, hf1⟩ := DataW.trod_struct Try.underlying32 g0_3
  replace hxl1 : xs1.length = 2 := hxl1
  have hs1 : Small Try.prog 32 (.agg (xs1.map (·.1))) := by
    have e := hx1
    first | (subst e; exact hp0_3) | (rw [e] at hp0_3; exact hp0_3) | (have e2 := congrArg Prod.fst e; rw [← e2]; exact hp0_3) | (rw [← e]; exact hp0_3)
  obtain ⟨c3, e3, w3⟩ := field_int Try.underlying3 (show 0 < xs1.length by omega) (by kernel_rfl) (hf1 0 _ rfl)
  rw [List.getElem?_take_of_lt (of_decide_eq_true (by kernel_rfl)), List.getElem?_drop] at e3
  obtain ⟨a4, l4, k4, e4⟩ := field_slice Try.underlying30 (show 1 < xs1.length by omega) (by kernel_rfl) (hf1 1 _ rfl)
  have q4 := hf1 1 _ rfl
  rw [List.getElem?_eq_getElem (show 1 < xs1.length by omega)] at q4
  have g4 : DataW.trod enc Try.prog w 0 (fun _ => true) true n1 30 [.slice a4 l4 k4] = some xs1[1] := by
    rw [← take1' e4]
    exact q4
  have s4 : Small Try.prog 30 xs1[1].1 := Small.part (i := 1) hs1 Try.underlying32 rfl (by rw [List.getElem?_map, List.getElem?_eq_getElem (show 1 < xs1.length by omega)]; rfl)
  obtain ⟨b4, d4, m4, r4, y4, z4⟩ := bytes_of_trod g4 s4
  simp only [Value.slice.injEq] at r4
  obtain ⟨rfl, rfl, rfl⟩ := r4
  rw [List.getElem?_take_of_lt (of_decide_eq_true (by kernel_rfl)), List.getElem?_drop] at e4
  have g0_4 := hf0 4 _ rfl
  rw [List.getElem?_eq_getElem (show 4 < xs0.length by omega)] at g0_4
  have hp0_4 : Small Try.prog 34 xs0[4].1 := Small.part (i := 4) hs0 Try.underlying36 rfl (by rw [List.getElem?_map, List.getElem?_eq_getElem (show 4 < xs0.length by omega)]; rfl)
  obtain ⟨xs2, n2, _, hx2, hl2, hxl2, hf2⟩ := DataW.trod_struct Try.underlying34 g0_4
  replace hxl2 : xs2.length = 2 := hxl2
  have hs2 : Small Try.prog 34 (.agg (xs2.map (·.1))) := by
    have e := hx2
    first | (subst e; exact hp0_4) | (rw [e] at hp0_4; exact hp0_4) | (have e2 := congrArg Prod.fst e; rw [← e2]; exact hp0_4) | (rw [← e]; exact hp0_4)
  obtain ⟨c5, e5, w5⟩ := field_int Try.underlying3 (show 0 < xs2.length by omega) (by kernel_rfl) (hf2 0 _ rfl)
  rw [List.getElem?_take_of_lt (of_decide_eq_true (by kernel_rfl)), List.getElem?_drop] at e5
  obtain ⟨c6, e6, w6⟩ := field_int Try.underlying3 (show 1 < xs2.length by omega) (by kernel_rfl) (hf2 1 _ rfl)
  rw [List.getElem?_take_of_lt (of_decide_eq_true (by kernel_rfl)), List.getElem?_drop] at e6
  have hlen : cs.length = 7 := hl0.trans (by kernel_rfl)
  refine ⟨⟨c0, c1, c2, c3, d4, a4, k4, c5, c6⟩, ?_, fun hh => ⟨int_wf w0, ⟨int_wf w1, ⟨int_wf w2, ⟨int_wf w3, ⟨⟨y4, z4 hh⟩, ⟨int_wf w5, int_wf w6⟩⟩⟩⟩⟩⟩⟩
  clear h hl0 hf0 hl1 hf1 hl2 hf2 g0_3 q4 g4 s4 g0_4
  revert e0 e1 e2 e3 e4 e5 e6
  match cs, hlen with
  | [u0, u1, u2, u3, u4, u5, u6], _ =>
    intro e0
    obtain rfl : u0 = .int _ c0 := Option.some.inj e0
    intro e1
    obtain rfl : u1 = .int _ c1 := Option.some.inj e1
    intro e2
    obtain rfl : u2 = .int _ c2 := Option.some.inj e2
    intro e3
    obtain rfl : u3 = .int _ c3 := Option.some.inj e3
    intro e4
    obtain rfl : u4 = .slice a4 d4.length k4 := Option.some.inj e4
    intro e5
    obtain rfl : u5 = .int _ c5 := Option.some.inj e5
    intro e6
    obtain rfl : u6 = .int _ c6 := Option.some.inj e6
    rfl
theorem Call09.load {a : Option Addr} {n : Nat} {l : List Call09} {k : Nat} {x : Call09} (hk : l[k]? = some x) : ORead Try.prog (loadS 36 (.pointer (a.map fun y => (y.add ((k : Int).toNat * 7)).add 0))) (Ls kCall09 a n l) (.agg x.vals.toArray) := by
  obtain ⟨d, hd⟩ : ∃ d, Try.prog.underlying 36 = some d := Option.isSome_iff_exists.1 (by kernel_rfl)
  exact Ls.load (K := kCall09) hd (by kernel_rfl) (by kernel_rfl) hk

end Go.Proofs.Ytmibmjehjagmbaa

/- Trees of functions, printed by rx.lean. No condition. -/
namespace Go.Proofs.Ytmibmjehjagmbaa.RX
set_option maxRecDepth 100000
-- tideline/tidelinelaw09.laid: ρ := [.i size]
def t_laid09 : T :=
(.call 23 [(.a (.int .i64 (.v 0)))] [] [.n, .p, .i] (.tup [(.a (.ptr (.v 1) 0)), (.a (.int .i64 (.v 3)))]) [((.b (.v 1)), (.prop 2))]
(.br (.o1 .not (.o2 .eq (.v 3) (.i 0)))
 (.ret (.tup [(.a .nilp), (.a .nilp)]) [])
 (.call 17 [(.a (.ptr (.v 1) 0))] [((.b (.v 1)), (.prop 2))] [.n, .p, .i, .p] (.tup [(.a (.ptr (.v 4) 0)), (.a (.int .i64 (.v 6)))]) [((.b (.v 4)), (.prop 5)), ((.b (.v 1)), (.prop 7))]
 (.br (.o1 .not (.o2 .eq (.v 6) (.i 0)))
  (.ret (.tup [(.a (.ptr (.v 1) 0)), (.a .nilp)]) [((.b (.v 1)), (.prop 7))])
  (.ret (.tup [(.a (.ptr (.v 1) 0)), (.a (.ptr (.v 4) 0))]) [((.b (.v 1)), (.prop 7)), ((.b (.v 4)), (.prop 5))])))))
theorem tree_laid09 : tree Try.prog { absT := [], opq := [], hv := [], keep := [87, 37, 39, 41, 109, 107, 62, 112, 111, 110, 133, 113, 19, 20, 38, 40, 21, 68, 14, 34], link := [(17, 0)], ent := [], turn := [(18, [100, 1]), (57, [100]), (29, [100]), (61, [0]), (69, [0]), (16, [0])], shr := [], vt := [], mkd := [], rlink := [(15, 1, 0)], pty := [], outl := true, stay := [], snk := [] } Try.f15 [(.a (.int .i64 (.v 0)))] [] 1 = t_laid09 := by kernel_rfl
-- tideline/tidelinelaw09.speaks: ρ := []
def t_speaks09 : T :=
(.call 15 [(.a (.int .i64 (.i 9)))] [] [.n, .p, .n, .p] (.tup [(.a (.ptr (.v 0) 0)), (.a (.ptr (.v 2) 0))]) [((.b (.v 0)), (.prop 1)), ((.b (.v 2)), (.prop 3))]
(.call 57 [(.a (.ptr (.v 2) 0)), (.a (.int .i64 (.i 0))), (.a (.int .i64 (.i 3))), (.agg [(.int .i64 (.i 2)), (.sl .nil (.n 0) (.n 0))])] [((.b (.v 2)), (.prop 3)), ((.b (.v 0)), (.prop 1))] [.i, .a, .n, .n, .p, .i, .p, .p] (.tup [(.agg [(.int .i64 (.v 4)), (.sl (.v 5) (.v 6) (.v 7))]), (.a (.int .i64 (.v 9)))]) [((.a 5), (.prop 8)), ((.b (.v 2)), (.prop 10)), ((.b (.v 0)), (.prop 11))]
(.new
(.new
(.call 57 [(.a (.ptr (.v 2) 0)), (.a (.int .i64 (.i 0))), (.a (.int .i64 (.i 3))), (.agg [(.int .i64 (.i 1)), (.sl (.b (.v 13) 0) (.n 1) (.n 1))])] [((.b (.v 2)), (.prop 10)), ((.b (.v 0)), (.prop 11)), ((.b (.v 13)), (.cells [(.int .u8 (.i 1))] 5))] [.i, .a, .n, .n, .p, .i, .p, .p] (.tup [(.agg [(.int .i64 (.v 14)), (.sl (.v 15) (.v 16) (.v 17))]), (.a (.int .i64 (.v 19)))]) [((.a 15), (.prop 18)), ((.b (.v 2)), (.prop 20)), ((.b (.v 0)), (.prop 21)), ((.b (.v 13)), (.cells [(.int .u8 (.i 1))] 5))]
(.new
(.br (.o2 .eq (.v 9) (.i 0))
 (.br (.o2 .eq (.v 19) (.i 10))
  (.br (.o2 .eq (.v 14) (.i 2))
   (.call 40 [(.a (.ptr (.v 2) 0))] [((.b (.v 2)), (.prop 20)), ((.b (.v 0)), (.prop 21))] [.i] (.w (.a (.int .i64 (.v 23)))) [((.b (.v 2)), (.prop 20)), ((.b (.v 0)), (.prop 21))]
   (.ret (.w (.a (.bool (.o2 .eq (.v 23) (.i 4))))) []))
   (.ret (.w (.a (.bool (.c false)))) []))
  (.ret (.w (.a (.bool (.c false)))) []))
 (.ret (.w (.a (.bool (.c false)))) []))))))))
theorem tree_speaks09 : tree Try.prog { absT := [], opq := [], hv := [], keep := [87, 37, 39, 41, 109, 107, 62, 112, 111, 110, 133, 113, 19, 20, 38, 40, 21, 68, 14, 34], link := [(17, 0)], ent := [], turn := [(18, [100, 1]), (57, [100]), (29, [100]), (61, [0]), (69, [0]), (16, [0])], shr := [], vt := [], mkd := [], rlink := [(15, 1, 0)], pty := [], outl := true, stay := [], snk := [] } Try.f13 [] [] 0 = t_speaks09 := by kernel_rfl
-- tideline/tidelinelaw09.great: ρ := [.a callsa, .n callsl, .n callsc, .p callsP]
def t_great09 : T :=
(.br (.o2 .lt (.i 60) (.o1 .ofNat (.v 1)))
 (.ret (.w (.a (.bool (.c true)))) [((.a 0), (.prop 3))])
 (.loop [.c, .i] [(.e (.o1 .not (.o1 .not (.c false)))), (.e (.o1 .neg (.o1 .neg (.i 0))))]
  (.br (.o2 .lt (.v 5) (.o1 .ofNat (.v 1)))
   (.need (.o2 .le (.i 0) (.v 5))
   (.need (.o1 .isSome (.v 0))
   (.read (.load 36 (.tmp 12)) 36 [(12, (.w (.a (.eptr 0 (.v 5) 7 0))))] [((.a 0), (.prop 3))] [.i, .i, .i, .i, .a, .n, .n, .i, .i] (.w (.agg [(.int .i64 (.v 6)), (.int .i64 (.v 7)), (.int .i64 (.v 8)), (.int .i64 (.v 9)), (.sl (.v 10) (.v 11) (.v 12)), (.int .i64 (.v 13)), (.int .i64 (.v 14))]))
   (.new
   (.br (.o2 .lt (.i 2000) (.o1 .ofNat (.v 11)))
    (.ret (.w (.a (.bool (.c true)))) [((.a 0), (.prop 3))])
    (.need (.o1 (.inr .i64) (.o2 .add (.v 5) (.i 1)))
    (.again 0 [(.e (.o1 .not (.o1 .not (.v 4)))), (.e (.o1 .neg (.o1 .neg (.o2 .add (.v 5) (.i 1)))))])))))))
   (.ret (.w (.a (.bool (.c false)))) [((.a 0), (.prop 3))]))))
theorem tree_great09 : tree Try.prog { absT := [], opq := [], hv := [], keep := [87, 37, 39, 41, 109, 107, 62, 112, 111, 110, 133, 113, 19, 20, 38, 40, 21, 68, 14, 34], link := [(17, 0)], ent := [], turn := [(18, [100, 1]), (57, [100]), (29, [100]), (61, [0]), (69, [0]), (16, [0])], shr := [], vt := [], mkd := [], rlink := [(15, 1, 0)], pty := [], outl := true, stay := [], snk := [] } Try.f14 [(.a (.sl (.v 0) (.v 1) (.v 2)))] [((.a 0), (.prop 3))] 4 = t_great09 := by kernel_rfl
-- tideline/tidelinelaw09.call: ρ := [.n u, .p uP, .n r, .p rP, .i c_What, .i c_Epoch, .i c_At, .i c_Cell_What, .a c_Cell_Dataa, .n c_Cell_Datal, .n c_Cell_Datac, .p c_Cell_DataP, .i c_Ballot_Round, .i c_Ballot_Who]
def t_call09 : T :=
(.new
(.br (.o2 .eq (.v 4) (.i 0))
 (.call 57 [(.a (.ptr (.v 0) 0)), (.a (.int .i64 (.v 5))), (.a (.int .i64 (.v 6))), (.agg [(.int .i64 (.v 7)), (.sl (.v 8) (.v 9) (.v 10))])] [((.b (.v 0)), (.prop 1)), ((.a 8), (.prop 11))] [.i, .a, .n, .n, .p, .i, .p] (.tup [(.agg [(.int .i64 (.v 15)), (.sl (.v 16) (.v 17) (.v 18))]), (.a (.int .i64 (.v 20)))]) [((.a 16), (.prop 19)), ((.b (.v 0)), (.prop 21)), ((.a 8), (.prop 11))]
 (.new
 (.call 61 [(.a (.ptr (.v 2) 0)), (.a (.int .i64 (.v 5))), (.a (.int .i64 (.v 6))), (.agg [(.int .i64 (.v 7)), (.sl (.v 8) (.v 9) (.v 10))])] [((.b (.v 2)), (.prop 3)), ((.a 8), (.prop 11))] [.i, .a, .n, .n, .p, .i, .p] (.tup [(.agg [(.int .i64 (.v 23)), (.sl (.v 24) (.v 25) (.v 26))]), (.a (.int .i64 (.v 28)))]) [((.a 24), (.prop 27)), ((.b (.v 2)), (.prop 29)), ((.a 8), (.prop 11))]
 (.new
 (.br (.o2 .eq (.v 20) (.v 28))
  (.call 21 [(.agg [(.int .i64 (.v 15)), (.sl (.v 16) (.v 17) (.v 18))]), (.agg [(.int .i64 (.v 23)), (.sl (.v 24) (.v 25) (.v 26))])] [((.a 16), (.prop 19)), ((.a 24), (.prop 27))] [.c] (.w (.a (.bool (.v 31)))) [((.a 16), (.prop 19)), ((.a 24), (.prop 27))]
  (.ret (.w (.a (.bool (.v 31)))) [((.b (.v 0)), (.prop 21)), ((.b (.v 2)), (.prop 29)), ((.a 8), (.prop 11))]))
  (.ret (.w (.a (.bool (.c false)))) [((.b (.v 0)), (.prop 21)), ((.b (.v 2)), (.prop 29)), ((.a 8), (.prop 11))]))))))
 (.br (.o2 .eq (.v 4) (.i 1))
  (.call 19 [(.a (.ptr (.v 0) 0)), (.a (.int .i64 (.v 5))), (.a (.int .i64 (.v 6)))] [((.b (.v 0)), (.prop 1))] [.i, .a, .n, .n, .p, .i] (.tup [(.agg [(.int .i64 (.v 15)), (.sl (.v 16) (.v 17) (.v 18))]), (.a (.int .i64 (.v 20)))]) [((.a 16), (.prop 19)), ((.b (.v 0)), (.prop 1))]
  (.new
  (.call 62 [(.a (.ptr (.v 2) 0)), (.a (.int .i64 (.v 5))), (.a (.int .i64 (.v 6)))] [((.b (.v 2)), (.prop 3))] [.i, .a, .n, .n, .p, .i] (.tup [(.agg [(.int .i64 (.v 22)), (.sl (.v 23) (.v 24) (.v 25))]), (.a (.int .i64 (.v 27)))]) [((.a 23), (.prop 26)), ((.b (.v 2)), (.prop 3))]
  (.new
  (.br (.o2 .eq (.v 20) (.v 27))
   (.call 21 [(.agg [(.int .i64 (.v 15)), (.sl (.v 16) (.v 17) (.v 18))]), (.agg [(.int .i64 (.v 22)), (.sl (.v 23) (.v 24) (.v 25))])] [((.a 16), (.prop 19)), ((.a 23), (.prop 26))] [.c] (.w (.a (.bool (.v 29)))) [((.a 16), (.prop 19)), ((.a 23), (.prop 26))]
   (.ret (.w (.a (.bool (.v 29)))) [((.b (.v 0)), (.prop 1)), ((.b (.v 2)), (.prop 3)), ((.a 8), (.prop 11))]))
   (.ret (.w (.a (.bool (.c false)))) [((.b (.v 0)), (.prop 1)), ((.b (.v 2)), (.prop 3)), ((.a 8), (.prop 11))]))))))
  (.br (.o2 .eq (.v 4) (.i 2))
   (.call 63 [(.a (.ptr (.v 0) 0)), (.a (.int .i64 (.v 5))), (.a (.int .i64 (.v 6)))] [((.b (.v 0)), (.prop 1))] [.i, .p] (.w (.a (.int .i64 (.v 15)))) [((.b (.v 0)), (.prop 16))]
   (.call 64 [(.a (.ptr (.v 2) 0)), (.a (.int .i64 (.v 5))), (.a (.int .i64 (.v 6)))] [((.b (.v 2)), (.prop 3))] [.i, .p] (.w (.a (.int .i64 (.v 17)))) [((.b (.v 2)), (.prop 18))]
   (.ret (.w (.a (.bool (.o2 .eq (.v 15) (.v 17))))) [((.b (.v 0)), (.prop 16)), ((.b (.v 2)), (.prop 18)), ((.a 8), (.prop 11))])))
   (.br (.o2 .eq (.v 4) (.i 3))
    (.call 65 [(.a (.ptr (.v 0) 0)), (.a (.int .i64 (.v 5)))] [((.b (.v 0)), (.prop 1))] [.i, .p] (.w (.a (.int .i64 (.v 15)))) [((.b (.v 0)), (.prop 16))]
    (.call 66 [(.a (.ptr (.v 2) 0)), (.a (.int .i64 (.v 5)))] [((.b (.v 2)), (.prop 3))] [.i, .p] (.w (.a (.int .i64 (.v 17)))) [((.b (.v 2)), (.prop 18))]
    (.ret (.w (.a (.bool (.o2 .eq (.v 15) (.v 17))))) [((.b (.v 0)), (.prop 16)), ((.b (.v 2)), (.prop 18)), ((.a 8), (.prop 11))])))
    (.br (.o2 .eq (.v 4) (.i 4))
     (.call 26 [(.a (.ptr (.v 0) 0)), (.a (.int .i64 (.v 6))), (.agg [(.int .i64 (.v 12)), (.int .i64 (.v 13))])] [((.b (.v 0)), (.prop 1))] [.i, .i, .a, .n, .n, .p, .i, .p] (.tup [(.agg [(.int .i64 (.v 15)), (.int .i64 (.v 16))]), (.a (.sl (.v 17) (.v 18) (.v 19))), (.a (.int .i64 (.v 21)))]) [((.a 17), (.prop 20)), ((.b (.v 0)), (.prop 22))]
     (.new
     (.call 67 [(.a (.ptr (.v 2) 0)), (.a (.int .i64 (.v 6))), (.agg [(.int .i64 (.v 12)), (.int .i64 (.v 13))])] [((.b (.v 2)), (.prop 3))] [.i, .i, .a, .n, .n, .p, .i, .p] (.tup [(.agg [(.int .i64 (.v 24)), (.int .i64 (.v 25))]), (.a (.sl (.v 26) (.v 27) (.v 28))), (.a (.int .i64 (.v 30)))]) [((.a 26), (.prop 29)), ((.b (.v 2)), (.prop 31))]
     (.new
     (.br (.o2 .eq (.v 21) (.v 30))
      (.read (.binOp .eql 34 (.tmp 135) (.tmp 136) 34) 4 [(135, (.w (.agg [(.int .i64 (.v 15)), (.int .i64 (.v 16))]))), (136, (.w (.agg [(.int .i64 (.v 24)), (.int .i64 (.v 25))])))] [] [.c] (.w (.a (.bool (.v 33))))
      (.br (.v 33)
       (.call 68 [(.a (.sl (.v 17) (.v 18) (.v 19))), (.a (.sl (.v 26) (.v 27) (.v 28)))] [((.a 17), (.prop 20)), ((.a 26), (.prop 29))] [.c] (.w (.a (.bool (.v 34)))) [((.a 17), (.prop 20)), ((.a 26), (.prop 29))]
       (.ret (.w (.a (.bool (.v 34)))) [((.b (.v 0)), (.prop 22)), ((.b (.v 2)), (.prop 31)), ((.a 8), (.prop 11))]))
       (.ret (.w (.a (.bool (.c false)))) [((.b (.v 0)), (.prop 22)), ((.b (.v 2)), (.prop 31)), ((.a 8), (.prop 11))])))
      (.ret (.w (.a (.bool (.c false)))) [((.b (.v 0)), (.prop 22)), ((.b (.v 2)), (.prop 31)), ((.a 8), (.prop 11))]))))))
     (.call 29 [(.a (.ptr (.v 0) 0)), (.a (.int .i64 (.v 6))), (.agg [(.int .i64 (.v 12)), (.int .i64 (.v 13))]), (.a (.sl (.v 8) (.v 9) (.v 10)))] [((.b (.v 0)), (.prop 1)), ((.a 8), (.prop 11))] [.i, .p] (.w (.a (.int .i64 (.v 15)))) [((.b (.v 0)), (.prop 16)), ((.a 8), (.prop 11))]
     (.call 69 [(.a (.ptr (.v 2) 0)), (.a (.int .i64 (.v 6))), (.agg [(.int .i64 (.v 12)), (.int .i64 (.v 13))]), (.a (.sl (.v 8) (.v 9) (.v 10)))] [((.b (.v 2)), (.prop 3)), ((.a 8), (.prop 11))] [.i, .p] (.w (.a (.int .i64 (.v 17)))) [((.b (.v 2)), (.prop 18)), ((.a 8), (.prop 11))]
     (.ret (.w (.a (.bool (.o2 .eq (.v 15) (.v 17))))) [((.b (.v 0)), (.prop 16)), ((.b (.v 2)), (.prop 18)), ((.a 8), (.prop 11))])))))))))
theorem tree_call09 : tree Try.prog { absT := [], opq := [], hv := [], keep := [87, 37, 39, 41, 109, 107, 62, 112, 111, 110, 133, 113, 19, 20, 38, 40, 21, 68, 14, 34], link := [(17, 0)], ent := [], turn := [(18, [100, 1]), (57, [100]), (29, [100]), (61, [0]), (69, [0]), (16, [0])], shr := [], vt := [], mkd := [], rlink := [(15, 1, 0)], pty := [], outl := true, stay := [], snk := [] } Try.f18 [(.a (.ptr (.v 0) 0)), (.a (.ptr (.v 2) 0)), (.agg [(.int .i64 (.v 4)), (.int .i64 (.v 5)), (.int .i64 (.v 6)), (.int .i64 (.v 7)), (.sl (.v 8) (.v 9) (.v 10)), (.int .i64 (.v 12)), (.int .i64 (.v 13))])] [((.b (.v 0)), (.prop 1)), ((.b (.v 2)), (.prop 3)), ((.a 8), (.prop 11))] 14 = t_call09 := by kernel_rfl
-- tideline/tidelinelaw09.UnitOnce: ρ := [.a callsa, .n callsl, .n callsc, .p callsP, .i at]
def t_unitOnce : T :=
(.call 13 [] [] [.c] (.w (.a (.bool (.v 5)))) []
(.br (.o1 .not (.v 5))
 (.ret (.w (.a (.bool (.c false)))) [((.a 0), (.prop 3))])
 (.call 14 [(.a (.sl (.v 0) (.v 1) (.v 2)))] [((.a 0), (.prop 3))] [.c] (.w (.a (.bool (.v 6)))) [((.a 0), (.prop 3))]
 (.br (.v 6)
  (.ret (.w (.a (.bool (.c true)))) [((.a 0), (.prop 3))])
  (.call 15 [(.a (.int .i64 (.i 100)))] [] [.n, .p, .n, .p] (.tup [(.a (.ptr (.v 7) 0)), (.a (.ptr (.v 9) 0))]) [((.b (.v 7)), (.prop 8)), ((.b (.v 9)), (.prop 10))]
  (.loop [.c, .n, .v, .p, .i, .p, .p] [(.e (.o1 .not (.o1 .not (.c false)))), (.n (.v 9)), (.v .nilp), (.p []), (.e (.o1 .neg (.o1 .neg (.i 0)))), (.p [((.b (.v 7)), (.prop 8))]), (.p [((.b (.v 9)), (.prop 10))])]
   (.br (.o2 .lt (.v 15) (.o1 .ofNat (.v 1)))
    (.need (.o2 .le (.i 0) (.v 15))
    (.need (.o1 .isSome (.v 0))
    (.read (.load 36 (.tmp 28)) 36 [(28, (.w (.a (.eptr 0 (.v 15) 7 0))))] [((.a 0), (.prop 3))] [.i, .i, .i, .i, .a, .n, .n, .i, .i] (.w (.agg [(.int .i64 (.v 18)), (.int .i64 (.v 19)), (.int .i64 (.v 20)), (.int .i64 (.v 21)), (.sl (.v 22) (.v 23) (.v 24)), (.int .i64 (.v 25)), (.int .i64 (.v 26))]))
    (.new
    (.br (.o2 .lt (.v 18) (.i 0))
     (.call 16 [(.a (.ptr (.v 7) 0)), (.a (.sl (.v 22) (.v 23) (.v 24)))] [((.b (.v 7)), (.prop 16)), ((.a 0), (.prop 3))] [.p] (.tup []) [((.b (.v 7)), (.prop 28)), ((.a 0), (.prop 3))]
     (.call 17 [(.a (.ptr (.v 7) 0))] [((.b (.v 7)), (.prop 28))] [.n, .p, .i, .p] (.tup [(.a (.ptr (.v 29) 0)), (.a (.int .i64 (.v 31)))]) [((.b (.v 29)), (.prop 30)), ((.b (.v 7)), (.prop 32))]
     (.br (.o1 .not (.o2 .eq (.v 31) (.i 0)))
      (.ret (.w (.a (.bool (.c false)))) [((.a 0), (.prop 3))])
      (.call 20 [(.a (.ptr (.v 29) 0))] [((.b (.v 29)), (.prop 30)), ((.b (.v 7)), (.prop 32))] [.i] (.w (.a (.int .i64 (.v 33)))) [((.b (.v 29)), (.prop 30)), ((.b (.v 7)), (.prop 32))]
      (.call 19 [(.a (.ptr (.v 29) 0)), (.a (.int .i64 (.v 33))), (.a (.int .i64 (.v 4)))] [((.b (.v 29)), (.prop 30)), ((.b (.v 7)), (.prop 32))] [.i, .a, .n, .n, .p, .i] (.tup [(.agg [(.int .i64 (.v 34)), (.sl (.v 35) (.v 36) (.v 37))]), (.a (.int .i64 (.v 39)))]) [((.a 35), (.prop 38)), ((.b (.v 29)), (.prop 30)), ((.b (.v 7)), (.prop 32))]
      (.new
      (.read (.binOp .neq 29 (.tmp 68) (.const (.pointer none)) 29) 4 [(68, (.w (.a (.val 13))))] [((.a 13), (.prop 14))] [.c] (.w (.a (.bool (.v 41))))
      (.br (.v 41)
       (.br (.o1 .not (.o2 .eq (.v 39) (.i 11)))
        (.br (.o1 .not (.o2 .eq (.v 39) (.i 0)))
         (.ret (.w (.a (.bool (.c false)))) [((.a 0), (.prop 3))])
         (.read (.nilCheck (.tmp 79)) 0 [(79, (.w (.a (.val 13))))] [((.a 13), (.prop 14))] [] (.w (.a (.val 13)))
         (.read (.load 32 (.tmp 80)) 32 [(80, (.w (.a (.val 13))))] [((.a 13), (.prop 14))] [.i, .a, .n, .n] (.w (.agg [(.int .i64 (.v 42)), (.sl (.v 43) (.v 44) (.v 45))]))
         (.call 21 [(.agg [(.int .i64 (.v 34)), (.sl (.v 35) (.v 36) (.v 37))]), (.agg [(.int .i64 (.v 42)), (.sl (.v 43) (.v 44) (.v 45))])] [((.a 35), (.prop 38)), ((.a 13), (.prop 14))] [.c] (.w (.a (.bool (.v 46)))) [((.a 35), (.prop 38)), ((.a 13), (.prop 14))]
         (.br (.o1 .not (.v 46))
          (.ret (.w (.a (.bool (.c false)))) [((.a 0), (.prop 3))])
          (.read (.binOp .eql 29 (.tmp 89) (.const (.pointer none)) 29) 4 [(89, (.w (.a (.val 13))))] [((.a 13), (.prop 14))] [.c] (.w (.a (.bool (.v 47))))
          (.br (.v 47)
           (.need (.o1 (.inr .i64) (.o2 .add (.v 15) (.i 1)))
           (.again 0 [(.e (.o1 .not (.o1 .not (.v 11)))), (.n (.v 29)), (.v (.ptr (.v 40) 0)), (.p [((.b (.v 40)), (.cells [(.int .i64 (.v 34)), (.sl (.v 35) (.v 36) (.v 37))] 32)), ((.a 35), (.prop 38))]), (.e (.o1 .neg (.o1 .neg (.o2 .add (.v 15) (.i 1))))), (.p [((.b (.v 7)), (.prop 32))]), (.p [((.b (.v 29)), (.prop 30))])]))
           (.need (.o1 (.inr .i64) (.o2 .add (.v 15) (.i 1)))
           (.again 0 [(.e (.o1 .not (.o1 .not (.v 11)))), (.n (.v 29)), (.v (.val 13)), (.p [((.a 13), (.prop 14))]), (.e (.o1 .neg (.o1 .neg (.o2 .add (.v 15) (.i 1))))), (.p [((.b (.v 7)), (.prop 32))]), (.p [((.b (.v 29)), (.prop 30))])])))))))))
        (.br (.o2 .eq (.v 39) (.i 0))
         (.read (.binOp .eql 29 (.tmp 89) (.const (.pointer none)) 29) 4 [(89, (.w (.a (.val 13))))] [((.a 13), (.prop 14))] [.c] (.w (.a (.bool (.v 42))))
         (.br (.v 42)
          (.need (.o1 (.inr .i64) (.o2 .add (.v 15) (.i 1)))
          (.again 0 [(.e (.o1 .not (.o1 .not (.v 11)))), (.n (.v 29)), (.v (.ptr (.v 40) 0)), (.p [((.b (.v 40)), (.cells [(.int .i64 (.v 34)), (.sl (.v 35) (.v 36) (.v 37))] 32)), ((.a 35), (.prop 38))]), (.e (.o1 .neg (.o1 .neg (.o2 .add (.v 15) (.i 1))))), (.p [((.b (.v 7)), (.prop 32))]), (.p [((.b (.v 29)), (.prop 30))])]))
          (.need (.o1 (.inr .i64) (.o2 .add (.v 15) (.i 1)))
          (.again 0 [(.e (.o1 .not (.o1 .not (.v 11)))), (.n (.v 29)), (.v (.val 13)), (.p [((.a 13), (.prop 14))]), (.e (.o1 .neg (.o1 .neg (.o2 .add (.v 15) (.i 1))))), (.p [((.b (.v 7)), (.prop 32))]), (.p [((.b (.v 29)), (.prop 30))])]))))
         (.need (.o1 (.inr .i64) (.o2 .add (.v 15) (.i 1)))
         (.again 0 [(.e (.o1 .not (.o1 .not (.v 11)))), (.n (.v 29)), (.v (.val 13)), (.p [((.a 13), (.prop 14))]), (.e (.o1 .neg (.o1 .neg (.o2 .add (.v 15) (.i 1))))), (.p [((.b (.v 7)), (.prop 32))]), (.p [((.b (.v 29)), (.prop 30))])]))))
       (.br (.o2 .eq (.v 39) (.i 0))
        (.read (.binOp .eql 29 (.tmp 89) (.const (.pointer none)) 29) 4 [(89, (.w (.a (.val 13))))] [((.a 13), (.prop 14))] [.c] (.w (.a (.bool (.v 42))))
        (.br (.v 42)
         (.need (.o1 (.inr .i64) (.o2 .add (.v 15) (.i 1)))
         (.again 0 [(.e (.o1 .not (.o1 .not (.v 11)))), (.n (.v 29)), (.v (.ptr (.v 40) 0)), (.p [((.b (.v 40)), (.cells [(.int .i64 (.v 34)), (.sl (.v 35) (.v 36) (.v 37))] 32)), ((.a 35), (.prop 38))]), (.e (.o1 .neg (.o1 .neg (.o2 .add (.v 15) (.i 1))))), (.p [((.b (.v 7)), (.prop 32))]), (.p [((.b (.v 29)), (.prop 30))])]))
         (.need (.o1 (.inr .i64) (.o2 .add (.v 15) (.i 1)))
         (.again 0 [(.e (.o1 .not (.o1 .not (.v 11)))), (.n (.v 29)), (.v (.val 13)), (.p [((.a 13), (.prop 14))]), (.e (.o1 .neg (.o1 .neg (.o2 .add (.v 15) (.i 1))))), (.p [((.b (.v 7)), (.prop 32))]), (.p [((.b (.v 29)), (.prop 30))])]))))
        (.need (.o1 (.inr .i64) (.o2 .add (.v 15) (.i 1)))
        (.again 0 [(.e (.o1 .not (.o1 .not (.v 11)))), (.n (.v 29)), (.v (.val 13)), (.p [((.a 13), (.prop 14))]), (.e (.o1 .neg (.o1 .neg (.o2 .add (.v 15) (.i 1))))), (.p [((.b (.v 7)), (.prop 32))]), (.p [((.b (.v 29)), (.prop 30))])])))))))))))
     (.br (.o2 .lt (.i 5) (.v 18))
      (.call 16 [(.a (.ptr (.v 7) 0)), (.a (.sl (.v 22) (.v 23) (.v 24)))] [((.b (.v 7)), (.prop 16)), ((.a 0), (.prop 3))] [.p] (.tup []) [((.b (.v 7)), (.prop 28)), ((.a 0), (.prop 3))]
      (.call 17 [(.a (.ptr (.v 7) 0))] [((.b (.v 7)), (.prop 28))] [.n, .p, .i, .p] (.tup [(.a (.ptr (.v 29) 0)), (.a (.int .i64 (.v 31)))]) [((.b (.v 29)), (.prop 30)), ((.b (.v 7)), (.prop 32))]
      (.br (.o1 .not (.o2 .eq (.v 31) (.i 0)))
       (.ret (.w (.a (.bool (.c false)))) [((.a 0), (.prop 3))])
       (.call 20 [(.a (.ptr (.v 29) 0))] [((.b (.v 29)), (.prop 30)), ((.b (.v 7)), (.prop 32))] [.i] (.w (.a (.int .i64 (.v 33)))) [((.b (.v 29)), (.prop 30)), ((.b (.v 7)), (.prop 32))]
       (.call 19 [(.a (.ptr (.v 29) 0)), (.a (.int .i64 (.v 33))), (.a (.int .i64 (.v 4)))] [((.b (.v 29)), (.prop 30)), ((.b (.v 7)), (.prop 32))] [.i, .a, .n, .n, .p, .i] (.tup [(.agg [(.int .i64 (.v 34)), (.sl (.v 35) (.v 36) (.v 37))]), (.a (.int .i64 (.v 39)))]) [((.a 35), (.prop 38)), ((.b (.v 29)), (.prop 30)), ((.b (.v 7)), (.prop 32))]
       (.new
       (.read (.binOp .neq 29 (.tmp 68) (.const (.pointer none)) 29) 4 [(68, (.w (.a (.val 13))))] [((.a 13), (.prop 14))] [.c] (.w (.a (.bool (.v 41))))
       (.br (.v 41)
        (.br (.o1 .not (.o2 .eq (.v 39) (.i 11)))
         (.br (.o1 .not (.o2 .eq (.v 39) (.i 0)))
          (.ret (.w (.a (.bool (.c false)))) [((.a 0), (.prop 3))])
          (.read (.nilCheck (.tmp 79)) 0 [(79, (.w (.a (.val 13))))] [((.a 13), (.prop 14))] [] (.w (.a (.val 13)))
          (.read (.load 32 (.tmp 80)) 32 [(80, (.w (.a (.val 13))))] [((.a 13), (.prop 14))] [.i, .a, .n, .n] (.w (.agg [(.int .i64 (.v 42)), (.sl (.v 43) (.v 44) (.v 45))]))
          (.call 21 [(.agg [(.int .i64 (.v 34)), (.sl (.v 35) (.v 36) (.v 37))]), (.agg [(.int .i64 (.v 42)), (.sl (.v 43) (.v 44) (.v 45))])] [((.a 35), (.prop 38)), ((.a 13), (.prop 14))] [.c] (.w (.a (.bool (.v 46)))) [((.a 35), (.prop 38)), ((.a 13), (.prop 14))]
          (.br (.o1 .not (.v 46))
           (.ret (.w (.a (.bool (.c false)))) [((.a 0), (.prop 3))])
           (.read (.binOp .eql 29 (.tmp 89) (.const (.pointer none)) 29) 4 [(89, (.w (.a (.val 13))))] [((.a 13), (.prop 14))] [.c] (.w (.a (.bool (.v 47))))
           (.br (.v 47)
            (.need (.o1 (.inr .i64) (.o2 .add (.v 15) (.i 1)))
            (.again 0 [(.e (.o1 .not (.o1 .not (.v 11)))), (.n (.v 29)), (.v (.ptr (.v 40) 0)), (.p [((.b (.v 40)), (.cells [(.int .i64 (.v 34)), (.sl (.v 35) (.v 36) (.v 37))] 32)), ((.a 35), (.prop 38))]), (.e (.o1 .neg (.o1 .neg (.o2 .add (.v 15) (.i 1))))), (.p [((.b (.v 7)), (.prop 32))]), (.p [((.b (.v 29)), (.prop 30))])]))
            (.need (.o1 (.inr .i64) (.o2 .add (.v 15) (.i 1)))
            (.again 0 [(.e (.o1 .not (.o1 .not (.v 11)))), (.n (.v 29)), (.v (.val 13)), (.p [((.a 13), (.prop 14))]), (.e (.o1 .neg (.o1 .neg (.o2 .add (.v 15) (.i 1))))), (.p [((.b (.v 7)), (.prop 32))]), (.p [((.b (.v 29)), (.prop 30))])])))))))))
         (.br (.o2 .eq (.v 39) (.i 0))
          (.read (.binOp .eql 29 (.tmp 89) (.const (.pointer none)) 29) 4 [(89, (.w (.a (.val 13))))] [((.a 13), (.prop 14))] [.c] (.w (.a (.bool (.v 42))))
          (.br (.v 42)
           (.need (.o1 (.inr .i64) (.o2 .add (.v 15) (.i 1)))
           (.again 0 [(.e (.o1 .not (.o1 .not (.v 11)))), (.n (.v 29)), (.v (.ptr (.v 40) 0)), (.p [((.b (.v 40)), (.cells [(.int .i64 (.v 34)), (.sl (.v 35) (.v 36) (.v 37))] 32)), ((.a 35), (.prop 38))]), (.e (.o1 .neg (.o1 .neg (.o2 .add (.v 15) (.i 1))))), (.p [((.b (.v 7)), (.prop 32))]), (.p [((.b (.v 29)), (.prop 30))])]))
           (.need (.o1 (.inr .i64) (.o2 .add (.v 15) (.i 1)))
           (.again 0 [(.e (.o1 .not (.o1 .not (.v 11)))), (.n (.v 29)), (.v (.val 13)), (.p [((.a 13), (.prop 14))]), (.e (.o1 .neg (.o1 .neg (.o2 .add (.v 15) (.i 1))))), (.p [((.b (.v 7)), (.prop 32))]), (.p [((.b (.v 29)), (.prop 30))])]))))
          (.need (.o1 (.inr .i64) (.o2 .add (.v 15) (.i 1)))
          (.again 0 [(.e (.o1 .not (.o1 .not (.v 11)))), (.n (.v 29)), (.v (.val 13)), (.p [((.a 13), (.prop 14))]), (.e (.o1 .neg (.o1 .neg (.o2 .add (.v 15) (.i 1))))), (.p [((.b (.v 7)), (.prop 32))]), (.p [((.b (.v 29)), (.prop 30))])]))))
        (.br (.o2 .eq (.v 39) (.i 0))
         (.read (.binOp .eql 29 (.tmp 89) (.const (.pointer none)) 29) 4 [(89, (.w (.a (.val 13))))] [((.a 13), (.prop 14))] [.c] (.w (.a (.bool (.v 42))))
         (.br (.v 42)
          (.need (.o1 (.inr .i64) (.o2 .add (.v 15) (.i 1)))
          (.again 0 [(.e (.o1 .not (.o1 .not (.v 11)))), (.n (.v 29)), (.v (.ptr (.v 40) 0)), (.p [((.b (.v 40)), (.cells [(.int .i64 (.v 34)), (.sl (.v 35) (.v 36) (.v 37))] 32)), ((.a 35), (.prop 38))]), (.e (.o1 .neg (.o1 .neg (.o2 .add (.v 15) (.i 1))))), (.p [((.b (.v 7)), (.prop 32))]), (.p [((.b (.v 29)), (.prop 30))])]))
          (.need (.o1 (.inr .i64) (.o2 .add (.v 15) (.i 1)))
          (.again 0 [(.e (.o1 .not (.o1 .not (.v 11)))), (.n (.v 29)), (.v (.val 13)), (.p [((.a 13), (.prop 14))]), (.e (.o1 .neg (.o1 .neg (.o2 .add (.v 15) (.i 1))))), (.p [((.b (.v 7)), (.prop 32))]), (.p [((.b (.v 29)), (.prop 30))])]))))
         (.need (.o1 (.inr .i64) (.o2 .add (.v 15) (.i 1)))
         (.again 0 [(.e (.o1 .not (.o1 .not (.v 11)))), (.n (.v 29)), (.v (.val 13)), (.p [((.a 13), (.prop 14))]), (.e (.o1 .neg (.o1 .neg (.o2 .add (.v 15) (.i 1))))), (.p [((.b (.v 7)), (.prop 32))]), (.p [((.b (.v 29)), (.prop 30))])])))))))))))
      (.new
      (.call 18 [(.a (.ptr (.v 12) 0)), (.a (.ptr (.v 28) 0)), (.agg [(.int .i64 (.v 18)), (.int .i64 (.v 19)), (.int .i64 (.v 20)), (.int .i64 (.v 21)), (.sl (.v 22) (.v 23) (.v 24)), (.int .i64 (.v 25)), (.int .i64 (.v 26))])] [((.b (.v 12)), (.prop 17)), ((.b (.v 7)), (.prop 16)), ((.b (.v 28)), (.cells [(.sl .nil (.n 0) (.n 0)), (.int .i64 (.i 100))] 45)), ((.a 0), (.prop 3))] [.c, .p, .p, .a, .n, .n, .p, .i] (.w (.a (.bool (.v 29)))) [((.b (.v 12)), (.prop 30)), ((.b (.v 7)), (.prop 31)), ((.b (.v 28)), (.cells [(.sl (.v 32) (.v 33) (.v 34)), (.int .i64 (.v 36))] 45)), ((.a 32), (.prop 35)), ((.a 0), (.prop 3))]
      (.call 20 [(.a (.ptr (.v 12) 0))] [((.b (.v 12)), (.prop 30)), ((.b (.v 7)), (.prop 31))] [.i] (.w (.a (.int .i64 (.v 37)))) [((.b (.v 12)), (.prop 30)), ((.b (.v 7)), (.prop 31))]
      (.call 19 [(.a (.ptr (.v 12) 0)), (.a (.int .i64 (.v 37))), (.a (.int .i64 (.v 4)))] [((.b (.v 12)), (.prop 30)), ((.b (.v 7)), (.prop 31))] [.i, .a, .n, .n, .p, .i] (.tup [(.agg [(.int .i64 (.v 38)), (.sl (.v 39) (.v 40) (.v 41))]), (.a (.int .i64 (.v 43)))]) [((.a 39), (.prop 42)), ((.b (.v 12)), (.prop 30)), ((.b (.v 7)), (.prop 31))]
      (.new
      (.read (.binOp .neq 29 (.tmp 68) (.const (.pointer none)) 29) 4 [(68, (.w (.a (.val 13))))] [((.a 13), (.prop 14))] [.c] (.w (.a (.bool (.v 45))))
      (.br (.v 45)
       (.br (.o1 .not (.o2 .eq (.v 43) (.i 11)))
        (.br (.o1 .not (.o2 .eq (.v 43) (.i 0)))
         (.ret (.w (.a (.bool (.c false)))) [((.a 0), (.prop 3))])
         (.read (.nilCheck (.tmp 79)) 0 [(79, (.w (.a (.val 13))))] [((.a 13), (.prop 14))] [] (.w (.a (.val 13)))
         (.read (.load 32 (.tmp 80)) 32 [(80, (.w (.a (.val 13))))] [((.a 13), (.prop 14))] [.i, .a, .n, .n] (.w (.agg [(.int .i64 (.v 46)), (.sl (.v 47) (.v 48) (.v 49))]))
         (.call 21 [(.agg [(.int .i64 (.v 38)), (.sl (.v 39) (.v 40) (.v 41))]), (.agg [(.int .i64 (.v 46)), (.sl (.v 47) (.v 48) (.v 49))])] [((.a 39), (.prop 42)), ((.a 13), (.prop 14))] [.c] (.w (.a (.bool (.v 50)))) [((.a 39), (.prop 42)), ((.a 13), (.prop 14))]
         (.br (.o1 .not (.v 50))
          (.ret (.w (.a (.bool (.c false)))) [((.a 0), (.prop 3))])
          (.read (.binOp .eql 29 (.tmp 89) (.const (.pointer none)) 29) 4 [(89, (.w (.a (.val 13))))] [((.a 13), (.prop 14))] [.c] (.w (.a (.bool (.v 51))))
          (.br (.v 51)
           (.need (.o1 (.inr .i64) (.o2 .add (.v 15) (.i 1)))
           (.again 0 [(.e (.o1 .not (.o1 .not (.v 11)))), (.n (.v 12)), (.v (.ptr (.v 44) 0)), (.p [((.b (.v 44)), (.cells [(.int .i64 (.v 38)), (.sl (.v 39) (.v 40) (.v 41))] 32)), ((.a 39), (.prop 42))]), (.e (.o1 .neg (.o1 .neg (.o2 .add (.v 15) (.i 1))))), (.p [((.b (.v 7)), (.prop 31))]), (.p [((.b (.v 12)), (.prop 30))])]))
           (.need (.o1 (.inr .i64) (.o2 .add (.v 15) (.i 1)))
           (.again 0 [(.e (.o1 .not (.o1 .not (.v 11)))), (.n (.v 12)), (.v (.val 13)), (.p [((.a 13), (.prop 14))]), (.e (.o1 .neg (.o1 .neg (.o2 .add (.v 15) (.i 1))))), (.p [((.b (.v 7)), (.prop 31))]), (.p [((.b (.v 12)), (.prop 30))])])))))))))
        (.br (.o2 .eq (.v 43) (.i 0))
         (.read (.binOp .eql 29 (.tmp 89) (.const (.pointer none)) 29) 4 [(89, (.w (.a (.val 13))))] [((.a 13), (.prop 14))] [.c] (.w (.a (.bool (.v 46))))
         (.br (.v 46)
          (.need (.o1 (.inr .i64) (.o2 .add (.v 15) (.i 1)))
          (.again 0 [(.e (.o1 .not (.o1 .not (.v 11)))), (.n (.v 12)), (.v (.ptr (.v 44) 0)), (.p [((.b (.v 44)), (.cells [(.int .i64 (.v 38)), (.sl (.v 39) (.v 40) (.v 41))] 32)), ((.a 39), (.prop 42))]), (.e (.o1 .neg (.o1 .neg (.o2 .add (.v 15) (.i 1))))), (.p [((.b (.v 7)), (.prop 31))]), (.p [((.b (.v 12)), (.prop 30))])]))
          (.need (.o1 (.inr .i64) (.o2 .add (.v 15) (.i 1)))
          (.again 0 [(.e (.o1 .not (.o1 .not (.v 11)))), (.n (.v 12)), (.v (.val 13)), (.p [((.a 13), (.prop 14))]), (.e (.o1 .neg (.o1 .neg (.o2 .add (.v 15) (.i 1))))), (.p [((.b (.v 7)), (.prop 31))]), (.p [((.b (.v 12)), (.prop 30))])]))))
         (.need (.o1 (.inr .i64) (.o2 .add (.v 15) (.i 1)))
         (.again 0 [(.e (.o1 .not (.o1 .not (.v 11)))), (.n (.v 12)), (.v (.val 13)), (.p [((.a 13), (.prop 14))]), (.e (.o1 .neg (.o1 .neg (.o2 .add (.v 15) (.i 1))))), (.p [((.b (.v 7)), (.prop 31))]), (.p [((.b (.v 12)), (.prop 30))])]))))
       (.br (.o2 .eq (.v 43) (.i 0))
        (.read (.binOp .eql 29 (.tmp 89) (.const (.pointer none)) 29) 4 [(89, (.w (.a (.val 13))))] [((.a 13), (.prop 14))] [.c] (.w (.a (.bool (.v 46))))
        (.br (.v 46)
         (.need (.o1 (.inr .i64) (.o2 .add (.v 15) (.i 1)))
         (.again 0 [(.e (.o1 .not (.o1 .not (.v 11)))), (.n (.v 12)), (.v (.ptr (.v 44) 0)), (.p [((.b (.v 44)), (.cells [(.int .i64 (.v 38)), (.sl (.v 39) (.v 40) (.v 41))] 32)), ((.a 39), (.prop 42))]), (.e (.o1 .neg (.o1 .neg (.o2 .add (.v 15) (.i 1))))), (.p [((.b (.v 7)), (.prop 31))]), (.p [((.b (.v 12)), (.prop 30))])]))
         (.need (.o1 (.inr .i64) (.o2 .add (.v 15) (.i 1)))
         (.again 0 [(.e (.o1 .not (.o1 .not (.v 11)))), (.n (.v 12)), (.v (.val 13)), (.p [((.a 13), (.prop 14))]), (.e (.o1 .neg (.o1 .neg (.o2 .add (.v 15) (.i 1))))), (.p [((.b (.v 7)), (.prop 31))]), (.p [((.b (.v 12)), (.prop 30))])]))))
        (.need (.o1 (.inr .i64) (.o2 .add (.v 15) (.i 1)))
        (.again 0 [(.e (.o1 .not (.o1 .not (.v 11)))), (.n (.v 12)), (.v (.val 13)), (.p [((.a 13), (.prop 14))]), (.e (.o1 .neg (.o1 .neg (.o2 .add (.v 15) (.i 1))))), (.p [((.b (.v 7)), (.prop 31))]), (.p [((.b (.v 12)), (.prop 30))])]))))))))))))))))
    (.ret (.w (.a (.bool (.c true)))) [((.a 0), (.prop 3))]))))))))
theorem tree_unitOnce : tree Try.prog { absT := [], opq := [29], hv := [(0, [(.b (.v 9)), (.b (.v 7))])], keep := [87, 37, 39, 41, 109, 107, 62, 112, 111, 110, 133, 113, 19, 20, 38, 40, 21, 68, 14, 34], link := [(17, 0)], ent := [], turn := [(18, [100, 1]), (57, [100]), (29, [100]), (61, [0]), (69, [0]), (16, [0])], shr := [], vt := [], mkd := [], rlink := [(15, 1, 0)], pty := [], outl := true, stay := [], snk := [] } Try.f3 [(.a (.sl (.v 0) (.v 1) (.v 2))), (.a (.int .i64 (.v 4)))] [((.a 0), (.prop 3))] 5 = t_unitOnce := by kernel_rfl
end Go.Proofs.Ytmibmjehjagmbaa.RX

/- Law 9: its helpers, as contracts. No condition. -/
namespace Go.Proofs.Ytmibmjehjagmbaa
set_option linter.unusedSimpArgs false
set_option linter.unusedVariables false
open Go.Proofs.Ytmibmjehjagmbaa RX
set_option maxRecDepth 100000

/-- A unit without its device. -/
def UH (ub bd : Nat) (s : USt) : HP := HP.ex fun mc => HP.ex fun mi => HP.sep (UOne ub bd mc mi s) (HP.sep (MapE CellV iE mc s.cells) (MapE InstV iE mi s.inst))
theorem UH.join {ub bd : Nat} {s : USt} {D : HP} {R h : PH} (H : (HP.sep (UH ub bd s) D).p R h) : (URep ub bd D s).p R h := by
  obtain ⟨h1, h2, d, l1, l2, ⟨mc, mi, H1⟩, H2⟩ := H
  have := HP.sep_assoc ⟨h1, h2, d, l1, l2, H1, H2⟩
  refine ⟨mc, mi, HP.pick [_, _, _, _] [0, 3, 1, 2] (by decide) rfl (HP.sep_mono this (fun _ h => h) fun _ hy => HP.sep_assoc hy)⟩
theorem UH.split {ub bd : Nat} {s : USt} {D : HP} {R h : PH} (H : (URep ub bd D s).p R h) : (HP.sep (UH ub bd s) D).p R h := by
  obtain ⟨mc, mi, H⟩ := H
  have H1 : (HP.sep (UOne ub bd mc mi s) (HP.sep (MapE CellV iE mc s.cells) (HP.sep (MapE InstV iE mi s.inst) D))).p R h := HP.pick [_, _, _, _] [0, 2, 3, 1] (by decide) rfl H
  have H2 := HP.sep_assoc' (HP.sep_mono H1 (fun _ h => h) fun _ hy => HP.sep_assoc' hy)
  exact HP.sep_mono H2 (fun y hy => ⟨mc, mi, hy⟩) fun _ h => h
theorem laid09_ok (n : Int) (h1 : 1 ≤ n) (h2 : n ≤ 1000) : Tri Try.prog 15 #[.int .i64 n] HP.tt
    (fun v => HP.ex fun bd => HP.ex fun ub => HP.and (v = .tuple #[.pointer (some ⟨bd, 0, none⟩), .pointer (some ⟨ub, 0, none⟩)]) (HP.sep (DRep bd n [] 0) (UH ub bd s0))) := by
  refine tri_of_tree (ρ := [.i n]) mixed Try.func15 tree_laid09 ?_
  unfold t_laid09
  simp only [T.den, E.prop, E.den, RX.look, F1.app, F2.app, Uni.int_i, Uni.nat_n, Uni.bool_c, Uni.str_s, Uni.adr_a, Uni.val_v, Uni.hp_p, hden, cden, V.den, W.den, A.den, BR.den, SA.den, FV.den, capV, exs, exP, allP, Cur.app, List.map_cons, List.map_nil, List.cons_append, List.nil_append, List.drop_succ_cons, List.drop_zero, List.length_cons, List.length_nil, Nat.zero_add, Nat.reduceAdd, Int.neg_neg, Bool.not_not, List.append_nil, Nat.add_zero, List.getElem?_cons_zero, List.getElem?_cons_succ, Decidable.not_not, semW_eq, semW_load, semW_store, semW_storeC, semW_append, semW_lookup, semW_lookupC, semW_update, semW_updateC, semW_updateK, semW_delete, semW_range, semW_next, semW_entry, semW_nil, ne_eq, Nat.reduceEqDiff, not_false_eq_true]
  refine (dNew_ok n (by omega) (by omega)).weak (fun _ _ h => h) ?_
  rintro v R h ⟨bd, rfl, H⟩
  refine ⟨bd, DRep bd n [] 0, 0, rfl, ⟨fun h => absurd rfl h, fun _ => ?_⟩, H⟩
  clear H
  refine (uOpen_ok bd n [] 0 s0 rfl).weak (fun _ _ h => h) ?_
  rintro v R h ⟨ub, rfl, H⟩
  rw [forg0] at H
  exact ⟨ub, UH ub bd s0, 0, DRep bd n [] 0, rfl, ⟨fun h => absurd rfl h, fun _ => .of fun R h H => ⟨bd, ub, rfl, H⟩⟩, UH.split H⟩
theorem speaks09_ok : Tri Try.prog 13 #[] HP.tt (fun v => HP.pure (v = .bool true)) := by
  refine tri_of_tree (ρ := []) mixed Try.func13 tree_speaks09 ?_
  unfold t_speaks09
  simp only [T.den, E.prop, E.den, RX.look, F1.app, F2.app, Uni.int_i, Uni.nat_n, Uni.bool_c, Uni.str_s, Uni.adr_a, Uni.val_v, Uni.hp_p, hden, cden, V.den, W.den, A.den, BR.den, SA.den, FV.den, capV, exs, exP, allP, Cur.app, List.map_cons, List.map_nil, List.cons_append, List.nil_append, List.drop_succ_cons, List.drop_zero, List.length_cons, List.length_nil, Nat.zero_add, Nat.reduceAdd, Int.neg_neg, Bool.not_not, List.append_nil, Nat.add_zero, List.getElem?_cons_zero, List.getElem?_cons_succ, Decidable.not_not, semW_eq, semW_load, semW_store, semW_storeC, semW_append, semW_lookup, semW_lookupC, semW_update, semW_updateC, semW_updateK, semW_delete, semW_range, semW_next, semW_entry, semW_nil, ne_eq, Nat.reduceEqDiff, not_false_eq_true]
  refine (laid09_ok 9 (by decide) (by decide)).weak (fun _ _ h => h) ?_
  rintro v R h ⟨bd, ub, rfl, H⟩
  refine ⟨bd, DRep bd 9 [] 0, ub, UH ub bd s0, rfl, ?_, H⟩
  clear H
  have e1 : writeS 9 s0 [] 0 3 ⟨2, []⟩ = (zC, 0, putS s0 3 ⟨2, []⟩, [pgW (cellL 3 ⟨2, []⟩)]) := by kernel_rfl
  refine (uWrite_ok ub bd 9 s0 [] 0 3 2 none 0 0 [] (RoB none 0 []) (RdL.ro _ _ _ _) rfl (fun h => absurd rfl h)).weak (fun R h H => RoC.joinR (RoB0 none : (RoB none 0 []).p R h) (UH.join H)) ?_
  rw [e1]
  dsimp only
  rintro v R h ⟨a, c, rfl, H⟩
  refine ⟨_, a, _, c, RoB a 0 [], _, UH ub bd (putS s0 3 ⟨2, []⟩), DRep bd 9 [pgW (cellL 3 ⟨2, []⟩)] 1, rfl, fun _ b => ?_, HP.sep_mono H (fun _ h => h) fun y hy => UH.split (HP.sep_left hy)⟩
  clear H
  have e2 : writeS 9 (putS s0 3 ⟨2, []⟩) [pgW (cellL 3 ⟨2, []⟩)] 0 3 ⟨1, [1]⟩ = (⟨2, []⟩, 10, putS s0 3 ⟨2, []⟩, [pgW (cellL 3 ⟨2, []⟩)]) := by kernel_rfl
  refine (uWrite_ok ub bd 9 (putS s0 3 ⟨2, []⟩) [pgW (cellL 3 ⟨2, []⟩)] 0 3 1 (some ⟨b, 0, none⟩) 1 1 [1] (HP.one b (.cells #[.int .u8 1] 5 (0, 0))) ⟨one_rd b #[.int .u8 1] _, fun _ _ _ e => by cases e⟩ rfl (fun _ => rfl)).weak (fun R h H => HP.sep_mono (HP.sep_assoc' H) (fun y hy => UH.join hy) fun _ h => h) ?_
  rw [e2]
  dsimp only
  rintro v R h ⟨a2, c2, rfl, H⟩
  refine ⟨_, a2, _, c2, RoB a2 0 [], _, UH ub bd (putS s0 3 ⟨2, []⟩), DRep bd 9 [pgW (cellL 3 ⟨2, []⟩)] 1, rfl, fun _ => ⟨fun _ => ⟨fun _ => ⟨fun _ => ?_, fun h => absurd rfl h⟩, fun h => absurd rfl h⟩, fun h => absurd rfl h⟩, HP.sep_mono H (fun _ h => h) fun y hy => HP.sep_assoc (HP.sep_mono hy (fun z hz => UH.split hz) fun _ h => h)⟩
  clear H
  refine (uTail_ok ub bd (DRep bd 9 [pgW (cellL 3 ⟨2, []⟩)] 1) (putS s0 3 ⟨2, []⟩)).weak (fun R h H => UH.join H) ?_
  rintro v R h ⟨rfl, H⟩
  exact ⟨_, rfl, .of fun R h H => (by show _ = _; rfl), UH.split H⟩
theorem great09_ok (a : Option Addr) (c : Nat) (l : List Call09) : Tri Try.prog 14 #[.slice a l.length c] (Ls kCall09 a l.length l) (fun v => HP.ex fun g => HP.and (v = .bool g ∧ (g = false → l.length ≤ 60 ∧ ∀ x ∈ l, x.cell_data.length ≤ 2000)) (Ls kCall09 a l.length l)) := by
  refine Tri.fact (φ := l.length ≠ 0 → a.isSome = true) (fun R h H hn => RoC.some H.2.1 (by omega)) fun ha => ?_
  refine tri_of_tree (ρ := [.a a, .n l.length, .n c, .p (Ls kCall09 a l.length l)]) mixed Try.func14 tree_great09 ?_
  unfold t_great09
  simp only [T.den, E.prop, E.den, RX.look, F1.app, F2.app, Uni.int_i, Uni.nat_n, Uni.bool_c, Uni.str_s, Uni.adr_a, Uni.val_v, Uni.hp_p, hden, cden, V.den, W.den, A.den, BR.den, SA.den, FV.den, capV, exs, exP, allP, Cur.app, List.map_cons, List.map_nil, List.cons_append, List.nil_append, List.drop_succ_cons, List.drop_zero, List.length_cons, List.length_nil, Nat.zero_add, Nat.reduceAdd, Int.neg_neg, Bool.not_not, List.append_nil, Nat.add_zero, List.getElem?_cons_zero, List.getElem?_cons_succ, Decidable.not_not, semW_eq, semW_load, semW_store, semW_storeC, semW_append, semW_lookup, semW_lookupC, semW_update, semW_updateC, semW_updateK, semW_delete, semW_range, semW_next, semW_entry, semW_nil, ne_eq, Nat.reduceEqDiff, not_false_eq_true]
  refine ⟨fun h => .of fun R h H => ⟨true, ⟨rfl, fun e => by cases e⟩, H⟩, fun h60 => ?_⟩
  refine ⟨fun _ i => ∃ k : Nat, i = k ∧ k ≤ l.length ∧ ∀ j x, j < k → l[j]? = some x → x.cell_data.length ≤ 2000, fun _ i => l.length - i.toNat, ⟨0, rfl, Nat.zero_le _, fun j x h => by omega⟩, ?_⟩
  rintro _ _ ⟨k, rfl, hk, hall⟩
  refine ⟨fun hlt => ⟨by omega, fun _ => ⟨ha (by omega), fun _ => ?_⟩⟩, fun hge => .of fun R h H => ⟨false, ⟨rfl, fun _ => ⟨by omega, fun x hx => ?_⟩⟩, H⟩⟩
  · have hkl : k < l.length := by omega
    have hg : l[k]? = some l[k] := List.getElem?_eq_getElem hkl
    generalize l[k] = x at hg
    refine ⟨_, _, _, _, _, _, _, _, _, Call09.load (a := a) (n := l.length) hg, fun _ => ⟨fun _ => .of fun R h H => ⟨true, ⟨rfl, fun e => by cases e⟩, H⟩, fun h2 => ⟨inI64 _ (by omega) (by omega), fun _ => ⟨⟨k + 1, by omega, by omega, fun j y hj hy => ?_⟩, by dsimp only; omega⟩⟩⟩⟩
    rcases Nat.lt_or_ge j k with h | h
    · exact hall j y h hy
    · obtain rfl : j = k := by omega
      rw [hg] at hy; cases hy; omega
  · obtain ⟨j, hj⟩ := List.getElem?_of_mem hx
    exact hall j x (by have := (List.getElem?_eq_some_iff.1 hj).1; omega) hj
/-- What a call makes of a unit. -/
def callS (room : Int) (s : USt) (ps : List Pg) (c : Call09) : USt × List Pg :=
  if c.what = 0 then (writeS room s ps c.epoch c.at_ ⟨c.cell_what, c.cell_data⟩).2.2
  else if c.what = 1 then (s, ps)
  else if c.what = 2 then (trimS room s ps c.epoch c.at_).2
  else if c.what = 3 then (sealS room s ps c.epoch).2
  else if c.what = 4 then (promiseS room s ps c.at_ c.br_r c.br_w).2.2.2.2
  else (acceptS room s ps c.at_ c.br_r c.br_w c.cell_data).2
def callR (room : Int) (l : List RPg) (c : Call09) : List RPg :=
  if c.what = 0 then (writeR room l c.epoch c.at_ ⟨c.cell_what, c.cell_data⟩).2
  else if c.what = 1 then l
  else if c.what = 2 then (trimR room l c.epoch c.at_).2
  else if c.what = 3 then (sealR room l c.epoch).2
  else if c.what = 4 then (promiseR room l c.at_ c.br_r c.br_w).2
  else (acceptR room l c.at_ c.br_r c.br_w c.cell_data).2
/-- Whether both answer alike. -/
def callB (room : Int) (s : USt) (ps : List Pg) (l : List RPg) (c : Call09) : Bool :=
  if c.what = 0 then decide ((writeS room s ps c.epoch c.at_ ⟨c.cell_what, c.cell_data⟩).2.1 = (writeR room l c.epoch c.at_ ⟨c.cell_what, c.cell_data⟩).1.2) && decide ((writeS room s ps c.epoch c.at_ ⟨c.cell_what, c.cell_data⟩).1.what = (writeR room l c.epoch c.at_ ⟨c.cell_what, c.cell_data⟩).1.1.what ∧ (writeS room s ps c.epoch c.at_ ⟨c.cell_what, c.cell_data⟩).1.data = (writeR room l c.epoch c.at_ ⟨c.cell_what, c.cell_data⟩).1.1.data)
  else if c.what = 1 then decide ((readS s c.epoch c.at_).2 = (readR l c.epoch c.at_).2) && decide ((readS s c.epoch c.at_).1.what = (readR l c.epoch c.at_).1.what ∧ (readS s c.epoch c.at_).1.data = (readR l c.epoch c.at_).1.data)
  else if c.what = 2 then decide ((trimS room s ps c.epoch c.at_).1 = (trimR room l c.epoch c.at_).1)
  else if c.what = 3 then decide ((sealS room s ps c.epoch).1 = (sealR room l c.epoch).1)
  else if c.what = 4 then decide ((promiseS room s ps c.at_ c.br_r c.br_w).2.2.2.1 = (promiseR room l c.at_ c.br_r c.br_w).1.2.2) && (decide ((promiseS room s ps c.at_ c.br_r c.br_w).1 = (promiseR room l c.at_ c.br_r c.br_w).1.1.1) && decide ((promiseS room s ps c.at_ c.br_r c.br_w).2.1 = (promiseR room l c.at_ c.br_r c.br_w).1.1.2)) && decide ((promiseS room s ps c.at_ c.br_r c.br_w).2.2.1 = (promiseR room l c.at_ c.br_r c.br_w).1.2.1)
  else decide ((acceptS room s ps c.at_ c.br_r c.br_w c.cell_data).1 = (acceptR room l c.at_ c.br_r c.br_w c.cell_data).1)
theorem eqBW {i j : Nat} {ty u : TypeId} (h : i ≠ j) {r q r' q' : Int} {A : HP} :
    ORead Try.prog (semW (.binOp .eql 34 (.tmp i) (.tmp j) u) ty [(i, .agg #[.int .i64 r, .int .i64 q]), (j, .agg #[.int .i64 r', .int .i64 q'])]) A (.bool (decide (r = r') && decide (q = q'))) := by
  have := semOf_eqB (ρ := [.i r, .i q, .i r', .i q']) (i := i) (j := j) (ty := ty) (u := u) (x := .w (.agg [.int .i64 (.v 0), .int .i64 (.v 1)])) (y := .w (.agg [.int .i64 (.v 2), .int .i64 (.v 3)])) h (A := A) rfl rfl
  rw [semW_eq] at this
  exact this
theorem writeS_bnd {room : Int} {s : USt} {ps : List Pg} {epoch at' : Int} {x : CellS} (hb : Bnd s) : (writeS room s ps epoch at' x).1.data.length ≤ 140737488355328 := by
  have z : zC.data.length ≤ 140737488355328 := by simp [zC]
  unfold writeS
  split
  · exact z
  split
  · exact z
  split
  · exact z
  split
  · rename_i c e; exact hb.1 _ _ e
  · exact z
theorem readS_bnd {s : USt} {epoch at' : Int} (hb : Bnd s) : (readS s epoch at').1.data.length ≤ 140737488355328 := by
  unfold readS
  split
  · simp
  split
  · simp
  split
  · rename_i c e; exact hb.1 _ _ e
  · simp
theorem promiseS_bnd {room : Int} {s : USt} {ps : List Pg} {n r w : Int} (hb : Bnd s) : (promiseS room s ps n r w).2.2.1.length ≤ 140737488355328 := by
  have hi : (instAt s n).val.length ≤ 140737488355328 := by
    unfold instAt
    cases e : s.inst n with
    | none => simp [zI]
    | some x => exact hb.2 _ _ e
  unfold promiseS
  split
  · simp
  split
  · simp
  split
  · exact hi
  split
  · simp
  · exact hi
end Go.Proofs.Ytmibmjehjagmbaa

/- Law 9: a call, told exactly. No condition. -/
namespace Go.Proofs.Ytmibmjehjagmbaa
set_option linter.unusedSimpArgs false
set_option linter.unusedVariables false
open Go.Proofs.Ytmibmjehjagmbaa RX
set_option maxRecDepth 100000

set_option maxHeartbeats 4000000 in
theorem call09_ok (ub bd rb : Nat) (room : Int) (s : USt) (ps : List Pg) (l : List RPg) (c : Call09) (hroom : room ≤ 1000000) (hd : c.cell_data.length ≤ 140737488355328) :
    Tri Try.prog 18 #[.pointer (some ⟨ub, 0, none⟩), .pointer (some ⟨rb, 0, none⟩), .agg c.vals.toArray] (HP.sep (UD ub bd room s ps) (HP.sep (RU rb room l) (RoB c.cell_dataa c.cell_data.length c.cell_data)))
    (fun v => HP.and (v = .bool (callB room s ps l c)) (HP.sep (UD ub bd room (callS room s ps c).1 (callS room s ps c).2) (HP.sep (RU rb room (callR room l c)) (RoB c.cell_dataa c.cell_data.length c.cell_data)))) := by
  refine Tri.fact (φ := Bnd s ∧ (c.cell_data.length ≠ 0 → c.cell_dataa.isSome = true)) (fun R h H => ⟨UD.bnd (HP.sep_left H), fun hn => RoC.some (HP.sep_right (HP.sep_right H)) (by omega)⟩) fun ⟨hb, hda⟩ => ?_
  refine tri_of_tree (ρ := [.n ub, .p (UD ub bd room s ps), .n rb, .p (RU rb room l), .i c.what, .i c.epoch, .i c.at_, .i c.cell_what, .a c.cell_dataa, .n c.cell_data.length, .n c.cell_datac, .p (RoB c.cell_dataa c.cell_data.length c.cell_data), .i c.br_r, .i c.br_w]) mixed Try.func18 tree_call09 ?_
  unfold t_call09
  simp only [T.den, E.prop, E.den, RX.look, F1.app, F2.app, Uni.int_i, Uni.nat_n, Uni.bool_c, Uni.str_s, Uni.adr_a, Uni.val_v, Uni.hp_p, hden, cden, V.den, W.den, A.den, BR.den, SA.den, FV.den, capV, exs, exP, allP, Cur.app, List.map_cons, List.map_nil, List.cons_append, List.nil_append, List.drop_succ_cons, List.drop_zero, List.length_cons, List.length_nil, Nat.zero_add, Nat.reduceAdd, Int.neg_neg, Bool.not_not, List.append_nil, Nat.add_zero, List.getElem?_cons_zero, List.getElem?_cons_succ, Decidable.not_not, semW_eq, semW_load, semW_store, semW_storeC, semW_append, semW_lookup, semW_lookupC, semW_update, semW_updateC, semW_updateK, semW_delete, semW_range, semW_next, semW_entry, semW_nil, ne_eq, Nat.reduceEqDiff, not_false_eq_true]
  intro _
  refine ⟨fun h0 => ?_, fun h0 => ⟨fun h1 => ?_, fun h1 => ⟨fun h2 => ?_, fun h2 => ⟨fun h3 => ?_, fun h3 => ⟨fun h4 => ?_, fun h4 => ?_⟩⟩⟩⟩⟩
  · have eS : callS room s ps c = (writeS room s ps c.epoch c.at_ ⟨c.cell_what, c.cell_data⟩).2.2 := if_pos h0
    have eR : callR room l c = (writeR room l c.epoch c.at_ ⟨c.cell_what, c.cell_data⟩).2 := if_pos h0
    have eB : callB room s ps l c = _ := if_pos h0
    rw [eS, eR, eB]
    have bnd := writeS_bnd (room := room) (ps := ps) (epoch := c.epoch) (at' := c.at_) (x := ⟨c.cell_what, c.cell_data⟩) hb
    refine (uWrite_ok ub bd room s ps c.epoch c.at_ c.cell_what c.cell_dataa _ c.cell_datac c.cell_data (RoB c.cell_dataa c.cell_data.length c.cell_data) (RdL.ro _ _ _ _) rfl hda).weak (fun _ _ h => h) ?_
    rintro v R h ⟨a, cc, rfl, H⟩
    generalize writeS room s ps c.epoch c.at_ ⟨c.cell_what, c.cell_data⟩ = W at *
    refine ⟨_, a, _, cc, RoB a W.1.data.length W.1.data, _, UD ub bd room W.2.2.1 W.2.2.2, rfl, fun _ => ?_, H⟩
    clear H
    refine (qWrite_ok rb room l hroom c.epoch c.at_ c.cell_what c.cell_dataa c.cell_datac c.cell_data hd hda).weak (fun _ _ h => h) ?_
    rintro v R h ⟨a2, c2, ⟨rfl, hb2⟩, H⟩
    generalize writeR room l c.epoch c.at_ ⟨c.cell_what, c.cell_data⟩ = Q at *
    refine ⟨_, a2, _, c2, RoB a2 Q.1.1.data.length Q.1.1.data, _, RU rb room Q.2, rfl, fun _ => ⟨fun he => ?_, fun he => .of fun R h H => ⟨by rw [decide_eq_false he]; rfl, H⟩⟩, H⟩
    clear H
    refine (sameCell_ok W.1.what a _ cc W.1.data Q.1.1.what a2 _ c2 Q.1.1.data (RoB a W.1.data.length W.1.data) (RoB a2 Q.1.1.data.length Q.1.1.data) (RdL.ro _ _ _ _) (RdL.ro _ _ _ _) rfl rfl bnd).weak (fun _ _ h => h) ?_
    rintro v R h ⟨rfl, H⟩
    exact ⟨_, rfl, .of fun R h H => ⟨by rw [decide_eq_true he, Bool.true_and], H⟩, H⟩
  · have eS : callS room s ps c = (s, ps) := by unfold callS; rw [if_neg h0, if_pos h1]
    have eR : callR room l c = l := by unfold callR; rw [if_neg h0, if_pos h1]
    have eB : callB room s ps l c = _ := (if_neg h0).trans (if_pos h1)
    rw [eS, eR, eB]
    have bnd := readS_bnd (epoch := c.epoch) (at' := c.at_) hb
    refine (uRead_ok ub bd (DRep bd room ps ps.length) s c.epoch c.at_).weak (fun _ _ h => h) ?_
    rintro v R h ⟨a, cc, rfl, H⟩
    generalize readS s c.epoch c.at_ = W at *
    refine ⟨_, a, _, cc, RoB a W.1.data.length W.1.data, _, rfl, fun _ => ?_, HP.sep_comm H⟩
    clear H
    refine (qRead_ok rb room l c.epoch c.at_).weak (fun _ _ h => h) ?_
    rintro v R h ⟨a2, c2, ⟨rfl, hb2⟩, H⟩
    generalize readR l c.epoch c.at_ = Q at *
    refine ⟨_, a2, _, c2, RoB a2 Q.1.data.length Q.1.data, _, rfl, fun _ => ⟨fun he => ?_, fun he => .of fun R h H => ⟨by rw [decide_eq_false he]; rfl, H⟩⟩, H⟩
    clear H
    refine (sameCell_ok W.1.what a _ cc W.1.data Q.1.what a2 _ c2 Q.1.data (RoB a W.1.data.length W.1.data) (RoB a2 Q.1.data.length Q.1.data) (RdL.ro _ _ _ _) (RdL.ro _ _ _ _) rfl rfl bnd).weak (fun _ _ h => h) ?_
    rintro v R h ⟨rfl, H⟩
    exact ⟨_, rfl, .of fun R h H => ⟨by rw [decide_eq_true he, Bool.true_and], H⟩, H⟩
  · have eS : callS room s ps c = (trimS room s ps c.epoch c.at_).2 := by unfold callS; rw [if_neg h0, if_neg h1, if_pos h2]
    have eR : callR room l c = (trimR room l c.epoch c.at_).2 := by unfold callR; rw [if_neg h0, if_neg h1, if_pos h2]
    have eB : callB room s ps l c = _ := (if_neg h0).trans ((if_neg h1).trans (if_pos h2))
    rw [eS, eR, eB]
    refine (uTrim_ok ub bd room s ps c.epoch c.at_).weak (fun _ _ h => h) ?_
    rintro v R h ⟨rfl, H⟩
    refine ⟨_, UD ub bd room (trimS room s ps c.epoch c.at_).2.1 (trimS room s ps c.epoch c.at_).2.2, rfl, ?_, H⟩
    clear H
    refine (qTrim_ok rb room l hroom c.epoch c.at_).weak (fun _ _ h => h) ?_
    rintro v R h ⟨rfl, H⟩
    exact ⟨_, RU rb room (trimR room l c.epoch c.at_).2, rfl, .of fun R h H => ⟨rfl, H⟩, H⟩
  · have eS : callS room s ps c = (sealS room s ps c.epoch).2 := by unfold callS; rw [if_neg h0, if_neg h1, if_neg h2, if_pos h3]
    have eR : callR room l c = (sealR room l c.epoch).2 := by unfold callR; rw [if_neg h0, if_neg h1, if_neg h2, if_pos h3]
    have eB : callB room s ps l c = _ := (if_neg h0).trans ((if_neg h1).trans ((if_neg h2).trans (if_pos h3)))
    rw [eS, eR, eB]
    refine (uSeal_ok ub bd room s ps c.epoch).weak (fun _ _ h => h) ?_
    rintro v R h ⟨rfl, H⟩
    refine ⟨_, UD ub bd room (sealS room s ps c.epoch).2.1 (sealS room s ps c.epoch).2.2, rfl, ?_, H⟩
    clear H
    refine (qSeal_ok rb room l hroom c.epoch).weak (fun _ _ h => h) ?_
    rintro v R h ⟨rfl, H⟩
    exact ⟨_, RU rb room (sealR room l c.epoch).2, rfl, .of fun R h H => ⟨rfl, H⟩, H⟩
  · have eS : callS room s ps c = (promiseS room s ps c.at_ c.br_r c.br_w).2.2.2.2 := by unfold callS; rw [if_neg h0, if_neg h1, if_neg h2, if_neg h3, if_pos h4]
    have eR : callR room l c = (promiseR room l c.at_ c.br_r c.br_w).2 := by unfold callR; rw [if_neg h0, if_neg h1, if_neg h2, if_neg h3, if_pos h4]
    have eB : callB room s ps l c = _ := (if_neg h0).trans ((if_neg h1).trans ((if_neg h2).trans ((if_neg h3).trans (if_pos h4))))
    rw [eS, eR, eB]
    have bnd := promiseS_bnd (room := room) (ps := ps) (n := c.at_) (r := c.br_r) (w := c.br_w) hb
    refine (uPromise_ok ub bd room s ps c.at_ c.br_r c.br_w).weak (fun _ _ h => h) ?_
    rintro v R h ⟨a, cc, rfl, H⟩
    generalize promiseS room s ps c.at_ c.br_r c.br_w = W at *
    refine ⟨_, _, a, _, cc, RoB a W.2.2.1.length W.2.2.1, _, UD ub bd room W.2.2.2.2.1 W.2.2.2.2.2, rfl, fun _ => ?_, HP.sep_comm H⟩
    clear H
    refine (qPromise_ok rb room l hroom c.at_ c.br_r c.br_w).weak (fun _ _ h => h) ?_
    rintro v R h ⟨a2, c2, ⟨rfl, hb2⟩, H⟩
    generalize promiseR room l c.at_ c.br_r c.br_w = Q at *
    refine ⟨_, _, a2, _, c2, RoB a2 Q.1.2.1.length Q.1.2.1, _, RU rb room Q.2, rfl, fun _ => ⟨fun he => ⟨_, eqBW (by decide), ⟨fun hbb => ?_, fun hbb => .of fun R h H => ⟨by rw [(by simpa using hbb : (decide (W.1 = Q.1.1.1) && decide (W.2.1 = Q.1.1.2)) = false)]; simp, H⟩⟩⟩, fun he => .of fun R h H => ⟨by rw [decide_eq_false he]; rfl, H⟩⟩, HP.sep_comm H⟩
    clear H
    refine (same01_ok a _ cc W.2.2.1 a2 _ c2 Q.1.2.1 (RoB a W.2.2.1.length W.2.2.1) (RoB a2 Q.1.2.1.length Q.1.2.1) (RdL.ro _ _ _ _) (RdL.ro _ _ _ _) rfl rfl bnd).weak (fun _ _ h => h) ?_
    rintro v R h ⟨rfl, H⟩
    exact ⟨_, rfl, .of fun R h H => ⟨by rw [decide_eq_true he, hbb]; rfl, H⟩, H⟩
  · have eS : callS room s ps c = (acceptS room s ps c.at_ c.br_r c.br_w c.cell_data).2 := by unfold callS; rw [if_neg h0, if_neg h1, if_neg h2, if_neg h3, if_neg h4]
    have eR : callR room l c = (acceptR room l c.at_ c.br_r c.br_w c.cell_data).2 := by unfold callR; rw [if_neg h0, if_neg h1, if_neg h2, if_neg h3, if_neg h4]
    have eB : callB room s ps l c = _ := (if_neg h0).trans ((if_neg h1).trans ((if_neg h2).trans ((if_neg h3).trans (if_neg h4))))
    rw [eS, eR, eB]
    refine (uAccept_ok ub bd room s ps c.at_ c.br_r c.br_w c.cell_dataa _ c.cell_datac c.cell_data (RoB c.cell_dataa c.cell_data.length c.cell_data) (RdL.ro _ _ _ _) rfl hda).weak (fun _ _ h => h) ?_
    rintro v R h ⟨rfl, H⟩
    refine ⟨_, UD ub bd room (acceptS room s ps c.at_ c.br_r c.br_w c.cell_data).2.1 (acceptS room s ps c.at_ c.br_r c.br_w c.cell_data).2.2, rfl, ?_, H⟩
    clear H
    refine (qAccept_ok rb room l hroom c.at_ c.br_r c.br_w c.cell_dataa c.cell_datac c.cell_data hd hda).weak (fun _ _ h => h) ?_
    rintro v R h ⟨rfl, H⟩
    exact ⟨_, RU rb room (acceptR room l c.at_ c.br_r c.br_w c.cell_data).2, rfl, .of fun R h H => ⟨rfl, H⟩, H⟩
theorem inv9_call {room : Int} {s : USt} {ps : List Pg} (h : Inv9 s ps) (c : Call09) : Inv9 (callS room s ps c).1 (callS room s ps c).2 := by
  unfold callS
  repeat' split
  · exact inv9_write h _ _ _
  · exact h
  · exact inv9_trim h _ _
  · exact inv9_seal h _
  · exact inv9_promise h _ _ _
  · exact inv9_accept h _ _ _ _
theorem stays_call {room : Int} {s : USt} {ps : List Pg} {a : Int} {y : CellS} (h : Stays a y s) (c : Call09) : Stays a y (callS room s ps c).1 := by
  unfold callS
  repeat' split
  · exact stays_write h _ _ _
  · exact h
  · exact stays_trim h _ _
  · show Stays a y (sealS room s ps c.epoch).2.1
    unfold sealS lastS
    repeat' split
    all_goals exact h
  · show Stays a y (promiseS room s ps c.at_ c.br_r c.br_w).2.2.2.2.1
    unfold promiseS
    repeat' split
    all_goals exact h
  · show Stays a y (acceptS room s ps c.at_ c.br_r c.br_w c.cell_data).2.1
    unfold acceptS lastS
    repeat' split
    all_goals exact h
end Go.Proofs.Ytmibmjehjagmbaa

/- UnitOnce, over what came in as assertions. No condition. -/
namespace Go.Proofs.Ytmibmjehjagmbaa
set_option linter.unusedSimpArgs false
set_option linter.unusedVariables false
open Go.Proofs.Ytmibmjehjagmbaa RX
set_option maxRecDepth 100000

theorem crash_same {ps : List Pg} (picks : List UInt8) (h : ∀ p ∈ ps, p.is = 1) : crashPs picks ps ps.length = ps := by
  unfold crashPs
  rw [Nat.sub_self]
  show ps.take (trimN ps ps.length) = ps
  have e : trimN ps ps.length = ps.length := by
    cases hl : ps.length with
    | zero => rfl
    | succ n =>
      have hg : ps[n]? = some ps[n] := List.getElem?_eq_getElem (by omega)
      simp only [trimN, hg]
      rw [if_neg]
      rw [h _ (List.getElem_mem (by omega))]
      decide
  rw [e, List.take_length]
theorem joinPers {A L : HP} {R h : PH} (H : A.p R h) (hL : ∀ h', L.p R h') : (HP.sep A L).p R h := ⟨h, PH.none', PH.dj_none h, PH.le.refl _, PH.none_le _, H, hL _⟩
/-- A pointer to a cell of its own, or nil. -/
abbrev HadC := Option (Nat × Option Addr × Nat × CellS)
def hadP (h : HadC) : Option Addr := h.map fun x => ⟨x.1, 0, none⟩
def hadHp (h : HadC) : HP := match h with
  | some (b, xa, xc, x) => HP.sep (HP.one b (.cells #[.int .i64 x.what, .slice xa x.data.length xc] 32 (0, 0))) (RoB xa x.data.length x.data)
  | none => HP.tt
theorem read_stays {s : USt} {a : Int} {x : CellS} (ha : addrOk a = true) (h : Stays a x s) : (readS s s.epoch a).2 = 11 ∨ ((readS s s.epoch a).2 = 0 ∧ (readS s s.epoch a).1 = x) := by
  have r0 : reachE s s.epoch a = 0 := by unfold reachE; rw [if_pos rfl, if_pos ha]
  unfold readS
  rw [if_neg (by simp [r0])]
  split
  · exact .inl rfl
  · rename_i hl
    rcases h with h | h
    · exact absurd h hl
    · rw [h]; exact .inr ⟨rfl, rfl⟩
theorem read_new {s : USt} {a : Int} (h : (readS s s.epoch a).2 = 0) : addrOk a = true ∧ Stays a (readS s s.epoch a).1 s := by
  unfold readS at h ⊢
  split at h
  · rename_i hr; exact absurd h hr
  · rename_i hr
    rw [if_neg hr]
    split at h
    · cases h
    · rename_i hl
      rw [if_neg hl]
      split at h
      · rename_i x hx
        exact ⟨(reach0 (by simpa using hr)).2, .inr hx⟩
      · cases h
set_option maxHeartbeats 4000000 in
theorem unitOnce_ok (a : Option Addr) (c : Nat) (l : List Call09) (hlen : ∀ x ∈ l, x.cell_data.length ≤ 140737488355328) (at' : Int) :
    Tri Try.prog 3 #[.slice a l.length c, .int .i64 at'] (Ls kCall09 a l.length l) (fun v => HP.pure (v = .bool true)) := by
  refine Tri.fact (φ := l.length ≠ 0 → a.isSome = true) (fun R h H hn => RoC.some H.2.1 (by omega)) fun ha => ?_
  refine tri_of_tree (ρ := [.a a, .n l.length, .n c, .p (Ls kCall09 a l.length l), .i at']) mixed Try.func3 tree_unitOnce ?_
  unfold t_unitOnce
  simp (maxSteps := 3000000) only [T.den, E.prop, E.den, RX.look, F1.app, F2.app, Uni.int_i, Uni.nat_n, Uni.bool_c, Uni.str_s, Uni.adr_a, Uni.val_v, Uni.hp_p, hden, cden, V.den, W.den, A.den, BR.den, SA.den, FV.den, capV, exs, exP, allP, Cur.app, List.map_cons, List.map_nil, List.cons_append, List.nil_append, List.drop_succ_cons, List.drop_zero, List.length_cons, List.length_nil, Nat.zero_add, Nat.reduceAdd, Int.neg_neg, Bool.not_not, List.append_nil, Nat.add_zero, List.getElem?_cons_zero, List.getElem?_cons_succ, Decidable.not_not, semW_eq, semW_load, semW_store, semW_storeC, semW_append, semW_lookup, semW_lookupC, semW_update, semW_updateC, semW_updateK, semW_delete, semW_range, semW_next, semW_entry, semW_nil, ne_eq, Nat.reduceEqDiff, not_false_eq_true]
  refine speaks09_ok.weak (fun _ _ _ => trivial) ?_
  rintro v R h rfl
  refine ⟨true, rfl, ⟨fun h => absurd rfl h, fun _ => ?_⟩, trivial⟩
  refine (great09_ok a c l).weak (fun _ _ h => h) ?_
  rintro v R h ⟨g, ⟨rfl, hg⟩, H⟩
  refine ⟨g, rfl, ⟨fun _ => .of fun R h H => trivial, fun hgf => ?_⟩, H⟩
  have h60 := (hg (by simpa using hgf)).1
  clear H
  refine (laid09_ok 100 (by decide) (by decide)).weak (fun _ _ _ => trivial) ?_
  rintro v R h ⟨bd, ub, rfl, H⟩
  refine ⟨bd, DRep bd 100 [] 0, ub, UH ub bd s0, rfl, ?_, H⟩
  clear H
  refine ⟨fun _ u had Hh i Dd U => ∃ (k : Nat) (s : USt) (ps : List Pg) (hd : HadC), i = k ∧ k ≤ l.length ∧ had = .pointer (hadP hd) ∧ Hh = hadHp hd ∧ Dd = DRep bd 100 ps ps.length ∧ U = UH u bd s ∧ Inv9 s ps ∧ ∀ x, hd = some x → addrOk at' = true ∧ Stays at' x.2.2.2 s, fun _ _ _ _ i _ _ => l.length - i.toNat,
    ⟨0, s0, [], none, rfl, Nat.zero_le _, rfl, rfl, rfl, rfl, inv9_new, fun x hx => by cases hx⟩, ?_⟩
  rintro _ u _ _ _ _ _ ⟨k, s, ps, hd, rfl, hk, rfl, rfl, rfl, rfl, hI, hS⟩
  refine ⟨fun hlt => ⟨by omega, fun _ => ⟨ha (by omega), fun _ => ?_⟩⟩, fun _ => .of fun R h H => trivial⟩
  have hkl : k < l.length := by omega
  have hgk : l[k]? = some l[k] := List.getElem?_eq_getElem hkl
  have hxl := hlen _ (List.getElem_mem hkl)
  generalize l[k] = x at hgk hxl
  have inK : IntKind.i64.min ≤ (k : Int) + 1 ∧ (k : Int) + 1 ≤ IntKind.i64.max := inI64 _ (by omega) (by omega)
  have meas : l.length - ((k : Int) + 1).toNat < l.length - (k : Int).toNat := by omega
  have rX : RdL (Ls kCall09 a l.length l) x.cell_dataa x.cell_data.length (x.cell_data.map u8v) := RdL.imp fun R y H => (H.2.2 x (List.mem_of_getElem? hgk)).2.2.2.2.1.2
  have next : ∀ (u' : Nat) (s' : USt) (ps' : List Pg) (hd' : HadC), Inv9 s' ps' → (∀ x, hd' = some x → addrOk at' = true ∧ Stays at' x.2.2.2 s') →
      ∃ (k' : Nat) (s'' : USt) (ps'' : List Pg) (hd'' : HadC), (k : Int) + 1 = k' ∧ k' ≤ l.length ∧ Value.pointer (hadP hd') = .pointer (hadP hd'') ∧ hadHp hd' = hadHp hd'' ∧ DRep bd 100 ps' ps'.length = DRep bd 100 ps'' ps''.length ∧ UH u' bd s' = UH u' bd s'' ∧ Inv9 s'' ps'' ∧ ∀ x, hd'' = some x → addrOk at' = true ∧ Stays at' x.2.2.2 s'' := fun u' s' ps' hd' h1 h2 => ⟨k + 1, s', ps', hd', by omega, by omega, rfl, rfl, rfl, rfl, h1, h2⟩
  refine ⟨_, _, _, _, _, _, _, _, _, Call09.load (a := a) (n := l.length) hgk, fun _ => ?_⟩
  have crash : ∀ (B : Value → HP), (∀ R h, (HP.sep (DRep bd 100 ps ps.length) (Ls kCall09 a l.length l)).p R h → (B (.tuple #[])).p R h) → Tri Try.prog 16 #[.pointer (some ⟨bd, 0, none⟩), .slice x.cell_dataa x.cell_data.length x.cell_datac] (HP.sep (DRep bd 100 ps ps.length) (Ls kCall09 a l.length l)) B := fun B hB => by
    refine Tri.fact (φ := x.cell_data.length ≠ 0 → x.cell_dataa.isSome = true) (fun R h H hn => RoC.some ((HP.sep_right H).2.2 x (List.mem_of_getElem? hgk)).2.2.2.2.1.2 (by omega)) fun hxa => ?_
    refine (dCrash_ok bd 100 ps ps.length x.cell_dataa _ x.cell_datac x.cell_data (Ls kCall09 a l.length l) rX rfl hxa hxl).weak (fun _ _ h => h) ?_
    rintro v R h ⟨rfl, H⟩
    rw [crash_same _ hI.2.1] at H
    exact hB R h H
  have opens : ∀ (B : Value → HP), (∀ u' R h, (HP.sep (UH u' bd s) (DRep bd 100 ps ps.length)).p R h → (B (.tuple #[.pointer (some ⟨u', 0, none⟩), .int .i64 0])).p R h) → Tri Try.prog 17 #[.pointer (some ⟨bd, 0, none⟩)] (DRep bd 100 ps ps.length) B := fun B hB => by
    obtain ⟨⟨s1, h1, h2⟩, _⟩ := hI
    refine (uOpen_ok bd 100 ps ps.length s1 h1).weak (fun _ _ h => h) ?_
    rintro v R h ⟨u', rfl, H⟩
    rw [h2] at H
    exact hB u' R h (UH.split H)
  have called : ∀ (rb : Nat) (B : Value → HP), (∀ bb a' n' c' P' R h, (HP.sep (UH u bd (callS 100 s ps x).1) (HP.sep (DRep bd 100 (callS 100 s ps x).2 (callS 100 s ps x).2.length) (HP.sep (HP.one rb (.cells #[.slice a' n' c', .int .i64 100] 45 (0, 0))) (HP.sep P' (Ls kCall09 a l.length l))))).p R h → (B (.bool bb)).p R h) →
      Tri Try.prog 18 #[.pointer (some ⟨u, 0, none⟩), .pointer (some ⟨rb, 0, none⟩), .agg x.vals.toArray] (HP.sep (UH u bd s) (HP.sep (DRep bd 100 ps ps.length) (HP.sep (HP.one rb (.cells #[.slice none 0 0, .int .i64 100] 45 (0, 0))) (Ls kCall09 a l.length l)))) B := fun rb B hB => by
    refine ((call09_ok u bd rb 100 s ps [] x (by decide) hxl).frame (Ls kCall09 a l.length l)).weak (fun R h H => ?_) ?_
    · have hL : ∀ h', (Ls kCall09 a l.length l).p R h' := fun h' => Ls.pers h' (HP.sep_right (HP.sep_right (HP.sep_right H)))
      refine joinPers ?_ hL
      refine HP.sep_mono (HP.sep_assoc' H) (fun y hy => UH.join hy) fun y hy => ?_
      refine RoC.joinR (B := RU rb 100 []) ((hL y).2.2 x (List.mem_of_getElem? hgk)).2.2.2.2.1.2 ?_
      exact RU.of (a := none) (c := 0) (es := []) rfl (by decide) rfl (HP.sep_mono hy (fun _ h => h) fun z _ => ⟨rfl, HP.sep_tt (OwC.nil _ _ _ _)⟩)
    · rintro v R h ⟨h1, h2, d, l1, l2, ⟨rfl, H⟩, HL⟩
      have H1 := HP.sep_assoc ⟨h1, h2, d, l1, l2, H, HL⟩
      obtain ⟨g1, g2, d2, m1, m2, HU, HR⟩ := H1
      obtain ⟨g3, g4, d3, m3, m4, ⟨g5, g6, d4, m5, m6, ⟨a', c', es, _, HRU⟩, _⟩, HL2⟩ := HP.sep_mono HR (fun _ h => h) fun _ h => h
      refine hB _ a' (callR 100 [] x).length c' (PL kPg a' (callR 100 [] x).length c' es) R h ?_
      have H2 : (HP.sep (UD u bd 100 (callS 100 s ps x).1 (callS 100 s ps x).2) (HP.sep (HP.sep (ROne rb a' (callR 100 [] x).length c' 100) (PL kPg a' (callR 100 [] x).length c' es)) (Ls kCall09 a l.length l))).p R h :=
        ⟨g1, g2, d2, m1, m2, HU, g3, g4, d3, m3, m4, HP.mono _ (PH.le.refl _) m5 HRU, HL2⟩
      exact HP.sep_assoc (HP.sep_mono H2 (fun y hy => UH.split hy) fun y hy => HP.sep_assoc hy)
  refine ⟨fun hw => ?_, fun hw => ⟨fun hw5 => ?_, fun hw5 rb => ?_⟩⟩
  · refine crash _ fun R h H => ⟨DRep bd 100 ps ps.length, rfl, ?_, H⟩
    clear H
    refine opens _ fun u' R h H => ⟨u', UH u' bd s, 0, DRep bd 100 ps ps.length, rfl, ⟨fun h => absurd rfl h, fun _ => ?_⟩, H⟩
    clear H
    clear crash opens called
    revert hI hS
    generalize s = s'
    generalize ps = ps'
    intro hI' hS'
    refine Tri.fact (φ := Bnd s') (fun R h H => UD.bnd (ub := u') (bd := bd) (room := 100) (ps := ps') (UH.join H)) fun hbn => ?_
    have bnd := readS_bnd (epoch := s'.epoch) (at' := at') hbn
    have hnew := read_new (s := s') (a := at')
    refine (uEpoch_ok u' bd (DRep bd 100 ps' ps'.length) s').weak (fun R h H => UH.join H) ?_
    rintro v R h ⟨rfl, H⟩
    refine ⟨_, rfl, ?_, UH.split H⟩
    clear H
    refine (uRead_ok u' bd (DRep bd 100 ps' ps'.length) s' s'.epoch at').weak (fun R h H => UH.join H) ?_
    rintro v R h ⟨ra, rc, rfl, H⟩
    have hst : ∀ x, hd = some x → (readS s' s'.epoch at').2 = 11 ∨ ((readS s' s'.epoch at').2 = 0 ∧ (readS s' s'.epoch at').1 = x.2.2.2) := fun x hx => read_stays (hS' x hx).1 (hS' x hx).2
    generalize readS s' s'.epoch at' = rv at *
    refine ⟨_, ra, _, rc, RoB ra rv.1.data.length rv.1.data, _, rfl, fun nb => ?_, HP.sep_mono (HP.sep_comm H) (fun _ h => h) fun y hy => UH.split hy⟩
    clear H
    have hn1 := next u' s' ps' hd hI' hS'
    rcases hd with _ | ⟨hb, xa, xc, z⟩
    · have hn2 : rv.2 = 0 → _ := fun h0 => next u' s' ps' (some (nb, ra, rc, rv.1)) hI' fun y hy => by cases hy; exact hnew h0
      have hinit : hadP (none : HadC) = none := rfl
      repeat' (first
        | refine ⟨false, neqNil (p := none), fun hc => absurd hc (by decide), fun _ => ?_⟩
        | refine ⟨true, eqNil (p := none), fun _ => ?_, fun hc => absurd rfl hc⟩
        | refine And.intro (fun (h0 : rv.2 = 0) => ?_) fun _ => ⟨inK, fun _ => ⟨hn1, meas⟩⟩
        | exact ⟨inK, fun _ => ⟨hn2 h0, meas⟩⟩
        | fail)
    · have h2 := hst _ rfl
      repeat' (first
        | refine ⟨true, neqNil (p := some ⟨hb, 0, none⟩), fun _ => ?_, fun hc => absurd rfl hc⟩
        | refine ⟨false, eqNil (p := some ⟨hb, 0, none⟩), fun hc => absurd hc (by decide), fun _ => ⟨inK, fun _ => ⟨hn1, meas⟩⟩⟩
        | refine And.intro (fun (h11 : ¬ rv.2 = 11) => And.intro (fun (hne : ¬ rv.2 = 0) => absurd (h2.resolve_left h11).1 hne) fun _ => ?_) (fun (h11 : rv.2 = 11) => And.intro (fun (h0 : rv.2 = 0) => ?_) fun _ => ⟨inK, fun _ => ⟨hn1, meas⟩⟩)
        | (exfalso; omega)
        | refine ⟨nilChk (p := ⟨hb, 0, none⟩), ?_⟩
        | refine ⟨_, _, _, _, loadCell (b := hb) rfl, ?_⟩
        | (refine (sameCell_ok rv.1.what ra _ rc rv.1.data z.what xa _ xc z.data (RoB ra rv.1.data.length rv.1.data) (HP.sep (HP.one hb (.cells #[.int .i64 z.what, .slice xa z.data.length xc] 32 (0, 0))) (RoB xa z.data.length z.data)) (RdL.ro _ _ _ _) (RdL.imp fun R h H => HP.sep_right H) rfl rfl bnd).weak (fun _ _ h => h) ?_
           rintro v R h ⟨rfl, H⟩
           have hz : rv.1 = z := (h2.resolve_left h11).2
           refine ⟨true, by rw [decide_eq_true (by rw [hz]; exact ⟨rfl, rfl⟩)], ⟨fun h => absurd rfl h, fun _ => ?_⟩, H⟩
           clear H)
        | fail)
  · refine crash _ fun R h H => ⟨DRep bd 100 ps ps.length, rfl, ?_, H⟩
    clear H
    refine opens _ fun u' R h H => ⟨u', UH u' bd s, 0, DRep bd 100 ps ps.length, rfl, ⟨fun h => absurd rfl h, fun _ => ?_⟩, H⟩
    clear H
    clear crash opens called
    revert hI hS
    generalize s = s'
    generalize ps = ps'
    intro hI' hS'
    refine Tri.fact (φ := Bnd s') (fun R h H => UD.bnd (ub := u') (bd := bd) (room := 100) (ps := ps') (UH.join H)) fun hbn => ?_
    have bnd := readS_bnd (epoch := s'.epoch) (at' := at') hbn
    have hnew := read_new (s := s') (a := at')
    refine (uEpoch_ok u' bd (DRep bd 100 ps' ps'.length) s').weak (fun R h H => UH.join H) ?_
    rintro v R h ⟨rfl, H⟩
    refine ⟨_, rfl, ?_, UH.split H⟩
    clear H
    refine (uRead_ok u' bd (DRep bd 100 ps' ps'.length) s' s'.epoch at').weak (fun R h H => UH.join H) ?_
    rintro v R h ⟨ra, rc, rfl, H⟩
    have hst : ∀ x, hd = some x → (readS s' s'.epoch at').2 = 11 ∨ ((readS s' s'.epoch at').2 = 0 ∧ (readS s' s'.epoch at').1 = x.2.2.2) := fun x hx => read_stays (hS' x hx).1 (hS' x hx).2
    generalize readS s' s'.epoch at' = rv at *
    refine ⟨_, ra, _, rc, RoB ra rv.1.data.length rv.1.data, _, rfl, fun nb => ?_, HP.sep_mono (HP.sep_comm H) (fun _ h => h) fun y hy => UH.split hy⟩
    clear H
    have hn1 := next u' s' ps' hd hI' hS'
    rcases hd with _ | ⟨hb, xa, xc, z⟩
    · have hn2 : rv.2 = 0 → _ := fun h0 => next u' s' ps' (some (nb, ra, rc, rv.1)) hI' fun y hy => by cases hy; exact hnew h0
      have hinit : hadP (none : HadC) = none := rfl
      repeat' (first
        | refine ⟨false, neqNil (p := none), fun hc => absurd hc (by decide), fun _ => ?_⟩
        | refine ⟨true, eqNil (p := none), fun _ => ?_, fun hc => absurd rfl hc⟩
        | refine And.intro (fun (h0 : rv.2 = 0) => ?_) fun _ => ⟨inK, fun _ => ⟨hn1, meas⟩⟩
        | exact ⟨inK, fun _ => ⟨hn2 h0, meas⟩⟩
        | fail)
    · have h2 := hst _ rfl
      repeat' (first
        | refine ⟨true, neqNil (p := some ⟨hb, 0, none⟩), fun _ => ?_, fun hc => absurd rfl hc⟩
        | refine ⟨false, eqNil (p := some ⟨hb, 0, none⟩), fun hc => absurd hc (by decide), fun _ => ⟨inK, fun _ => ⟨hn1, meas⟩⟩⟩
        | refine And.intro (fun (h11 : ¬ rv.2 = 11) => And.intro (fun (hne : ¬ rv.2 = 0) => absurd (h2.resolve_left h11).1 hne) fun _ => ?_) (fun (h11 : rv.2 = 11) => And.intro (fun (h0 : rv.2 = 0) => ?_) fun _ => ⟨inK, fun _ => ⟨hn1, meas⟩⟩)
        | (exfalso; omega)
        | refine ⟨nilChk (p := ⟨hb, 0, none⟩), ?_⟩
        | refine ⟨_, _, _, _, loadCell (b := hb) rfl, ?_⟩
        | (refine (sameCell_ok rv.1.what ra _ rc rv.1.data z.what xa _ xc z.data (RoB ra rv.1.data.length rv.1.data) (HP.sep (HP.one hb (.cells #[.int .i64 z.what, .slice xa z.data.length xc] 32 (0, 0))) (RoB xa z.data.length z.data)) (RdL.ro _ _ _ _) (RdL.imp fun R h H => HP.sep_right H) rfl rfl bnd).weak (fun _ _ h => h) ?_
           rintro v R h ⟨rfl, H⟩
           have hz : rv.1 = z := (h2.resolve_left h11).2
           refine ⟨true, by rw [decide_eq_true (by rw [hz]; exact ⟨rfl, rfl⟩)], ⟨fun h => absurd rfl h, fun _ => ?_⟩, H⟩
           clear H)
        | fail)
  · refine called rb _ fun bb a' n' c' P' R h H => ⟨bb, UH u bd (callS 100 s ps x).1, DRep bd 100 (callS 100 s ps x).2 (callS 100 s ps x).2.length, a', n', c', P', 100, rfl, ?_, H⟩
    clear H
    clear crash opens called
    have hI' := inv9_call (room := 100) hI x
    have hS' : ∀ y, hd = some y → addrOk at' = true ∧ Stays at' y.2.2.2 (callS 100 s ps x).1 := fun y hy => ⟨(hS y hy).1, stays_call (hS y hy).2 x⟩
    clear hI hS
    generalize (callS 100 s ps x).1 = s' at *
    generalize (callS 100 s ps x).2 = ps' at *
    generalize u = u' at *
    refine Tri.fact (φ := Bnd s') (fun R h H => UD.bnd (ub := u') (bd := bd) (room := 100) (ps := ps') (UH.join H)) fun hbn => ?_
    have bnd := readS_bnd (epoch := s'.epoch) (at' := at') hbn
    have hnew := read_new (s := s') (a := at')
    refine (uEpoch_ok u' bd (DRep bd 100 ps' ps'.length) s').weak (fun R h H => UH.join H) ?_
    rintro v R h ⟨rfl, H⟩
    refine ⟨_, rfl, ?_, UH.split H⟩
    clear H
    refine (uRead_ok u' bd (DRep bd 100 ps' ps'.length) s' s'.epoch at').weak (fun R h H => UH.join H) ?_
    rintro v R h ⟨ra, rc, rfl, H⟩
    have hst : ∀ x, hd = some x → (readS s' s'.epoch at').2 = 11 ∨ ((readS s' s'.epoch at').2 = 0 ∧ (readS s' s'.epoch at').1 = x.2.2.2) := fun x hx => read_stays (hS' x hx).1 (hS' x hx).2
    generalize readS s' s'.epoch at' = rv at *
    refine ⟨_, ra, _, rc, RoB ra rv.1.data.length rv.1.data, _, rfl, fun nb => ?_, HP.sep_mono (HP.sep_comm H) (fun _ h => h) fun y hy => UH.split hy⟩
    clear H
    have hn1 := next u' s' ps' hd hI' hS'
    rcases hd with _ | ⟨hb, xa, xc, z⟩
    · have hn2 : rv.2 = 0 → _ := fun h0 => next u' s' ps' (some (nb, ra, rc, rv.1)) hI' fun y hy => by cases hy; exact hnew h0
      have hinit : hadP (none : HadC) = none := rfl
      repeat' (first
        | refine ⟨false, neqNil (p := none), fun hc => absurd hc (by decide), fun _ => ?_⟩
        | refine ⟨true, eqNil (p := none), fun _ => ?_, fun hc => absurd rfl hc⟩
        | refine And.intro (fun (h0 : rv.2 = 0) => ?_) fun _ => ⟨inK, fun _ => ⟨hn1, meas⟩⟩
        | exact ⟨inK, fun _ => ⟨hn2 h0, meas⟩⟩
        | fail)
    · have h2 := hst _ rfl
      repeat' (first
        | refine ⟨true, neqNil (p := some ⟨hb, 0, none⟩), fun _ => ?_, fun hc => absurd rfl hc⟩
        | refine ⟨false, eqNil (p := some ⟨hb, 0, none⟩), fun hc => absurd hc (by decide), fun _ => ⟨inK, fun _ => ⟨hn1, meas⟩⟩⟩
        | refine And.intro (fun (h11 : ¬ rv.2 = 11) => And.intro (fun (hne : ¬ rv.2 = 0) => absurd (h2.resolve_left h11).1 hne) fun _ => ?_) (fun (h11 : rv.2 = 11) => And.intro (fun (h0 : rv.2 = 0) => ?_) fun _ => ⟨inK, fun _ => ⟨hn1, meas⟩⟩)
        | (exfalso; omega)
        | refine ⟨nilChk (p := ⟨hb, 0, none⟩), ?_⟩
        | refine ⟨_, _, _, _, loadCell (b := hb) rfl, ?_⟩
        | (refine (sameCell_ok rv.1.what ra _ rc rv.1.data z.what xa _ xc z.data (RoB ra rv.1.data.length rv.1.data) (HP.sep (HP.one hb (.cells #[.int .i64 z.what, .slice xa z.data.length xc] 32 (0, 0))) (RoB xa z.data.length z.data)) (RdL.ro _ _ _ _) (RdL.imp fun R h H => HP.sep_right H) rfl rfl bnd).weak (fun _ _ h => h) ?_
           rintro v R h ⟨rfl, H⟩
           have hz : rv.1 = z := (h2.resolve_left h11).2
           refine ⟨true, by rw [decide_eq_true (by rw [hz]; exact ⟨rfl, rfl⟩)], ⟨fun h => absurd rfl h, fun _ => ?_⟩, H⟩
           clear H)
        | fail)
end Go.Proofs.Ytmibmjehjagmbaa

/- What comes into UnitOnce, and its walk. No condition. -/
namespace Go.Proofs.Ytmibmjehjagmbaa
open Go.RowKit Go.ChangeShapes Go.WideShapes Go.Deep RX

set_option maxRecDepth 100000 in
theorem unitOnce_walk {H : Type} (enc : TypeId × Value → H) (base : Nat) (v0 v1 : Value) (w : World)
    (k0 : Value.okWide Try.prog w .any base 22 v0) (h0 : ∃ d p, DataW.Trod enc Try.prog w 0 (fun _ => true) true 22 v0 d p ∧ Small Try.prog 22 d)
    (k1 : Value.okWide Try.prog w .any base 3 v1) (h1 : ∃ d p, DataW.Trod enc Try.prog w 0 (fun _ => true) true 3 v1 d p ∧ Small Try.prog 3 d) :
    Calls Try.prog 3 #[v0, v1] w fun e w' => e = .returned (.bool true) ∧ Below w.heap.size w w' := by
  obtain ⟨a0, l0, c0, rfl, b0, z0⟩ := slice_open kCall09 Try.underlying22 (by kernel_rfl) (of_decide_eq_true (by kernel_rfl)) Call09.of_trod k0 h0
  obtain ⟨n1, rfl, r1⟩ := int_openR k1 h1
  exact Tri.run (unitOnce_ok a0 c0 l0 (fun x hx => ((z0 PH.none').2.2 x hx).2.2.2.2.1.1) n1) (z0 _)
end Go.Proofs.Ytmibmjehjagmbaa
