/- Texts of this claim, joined: RefD, RefE, In09, TrLaw09, LawU, LawV, Whole, NilP, LawW, TrLaw9W, WholeA, WholeB, WholeC, UnitWW. No condition. -/
import Derived.Test.YtmibmjehjagmbaaUWJ1
import Derived.Test.YtmibmjehjagmbaaUWJ3
import Derived.Test.YtmibmjehjagmbaaUWJ5
import Derived.KernelRfl
set_option linter.unusedSimpArgs false
set_option linter.unusedVariables false
/- The document's unit: contracts of its calls. No condition. -/
namespace Go.Proofs.Ytmibmjehjagmbaa
set_option linter.unusedSimpArgs false
set_option linter.unusedVariables false
open Go.Proofs.Ytmibmjehjagmbaa RX
set_option maxRecDepth 100000

section
variable (rb : Nat) (room : Int) (pgs : List RPg)
def trimR (l : List RPg) (epoch low : Int) : Int × List RPg := if askR l epoch low ≠ 0 then (askR l epoch low, l) else if low ≤ lastR l 3 then (0, l) else addR room l ⟨3, low, 0, 0, []⟩
theorem qTrim_ok (hroom : room ≤ 1000000) (epoch low : Int) : Tri Try.prog 64 #[.pointer (some ⟨rb, 0, none⟩), .int .i64 epoch, .int .i64 low] (RU rb room pgs) (fun v => HP.and (v = .int .i64 (trimR room pgs epoch low).1) (RU rb room (trimR room pgs epoch low).2)) := by
  refine tri_of_tree (ρ := [.n rb, .p (RU rb room pgs), .i epoch, .i low]) mixed Try.func64 tree_qTrim ?_
  unfold t_qTrim
  simp only [T.den, E.prop, E.den, RX.look, F1.app, F2.app, Uni.int_i, Uni.nat_n, Uni.bool_c, Uni.str_s, Uni.adr_a, Uni.val_v, Uni.hp_p, hden, cden, V.den, W.den, A.den, BR.den, SA.den, FV.den, capV, exs, exP, allP, Cur.app, List.map_cons, List.map_nil, List.cons_append, List.nil_append, List.drop_succ_cons, List.drop_zero, List.length_cons, List.length_nil, Nat.zero_add, Nat.reduceAdd, Int.neg_neg, Bool.not_not, List.append_nil, Nat.add_zero, List.getElem?_cons_zero, List.getElem?_cons_succ, Decidable.not_not, semW_eq, semW_load, semW_store, semW_storeC, semW_append, semW_lookup, semW_lookupC, semW_update, semW_updateC, semW_updateK, semW_delete, semW_range, semW_next, semW_entry, semW_nil, ne_eq, Nat.reduceEqDiff, not_false_eq_true]
  refine (qAsk_ok rb room pgs epoch low).weak (fun _ _ h => h) ?_
  rintro v R h ⟨rfl, H⟩
  refine ⟨_, rfl, ⟨fun h1 => .of fun R h H => ?_, fun h1 => ?_⟩, H⟩
  · unfold trimR; rw [if_pos h1]; exact ⟨rfl, H⟩
  clear H
  refine (qLow_ok rb room pgs).weak (fun _ _ h => h) ?_
  rintro v R h ⟨rfl, H⟩
  refine ⟨_, rfl, ⟨fun h2 => .of fun R h H => ?_, fun h2 => ?_⟩, H⟩
  · unfold trimR; rw [if_neg (by simpa using h1), if_pos h2]; exact ⟨by rw [show askR pgs epoch low = 0 by simpa using h1], H⟩
  clear H
  refine (qAddN_ok rb room pgs hroom ⟨3, low, 0, 0, []⟩ rfl).weak (fun _ _ h => h) ?_
  rintro v R h ⟨rfl, H⟩
  refine ⟨_, RU rb room (addR room pgs ⟨3, low, 0, 0, []⟩).2, rfl, .of fun R h H => ?_, H⟩
  unfold trimR; rw [if_neg (by simpa using h1), if_neg h2]; exact ⟨rfl, H⟩
def sealR (l : List RPg) (epoch : Int) : Int × List RPg := if epoch ≤ lastR l 4 then (8, l) else if 2147483647 < epoch then (1, l) else addR room l ⟨4, epoch, 0, 0, []⟩
theorem qSeal_ok (hroom : room ≤ 1000000) (epoch : Int) : Tri Try.prog 66 #[.pointer (some ⟨rb, 0, none⟩), .int .i64 epoch] (RU rb room pgs) (fun v => HP.and (v = .int .i64 (sealR room pgs epoch).1) (RU rb room (sealR room pgs epoch).2)) := by
  refine tri_of_tree (ρ := [.n rb, .p (RU rb room pgs), .i epoch]) mixed Try.func66 tree_qSeal ?_
  unfold t_qSeal
  simp only [T.den, E.prop, E.den, RX.look, F1.app, F2.app, Uni.int_i, Uni.nat_n, Uni.bool_c, Uni.str_s, Uni.adr_a, Uni.val_v, Uni.hp_p, hden, cden, V.den, W.den, A.den, BR.den, SA.den, FV.den, capV, exs, exP, allP, Cur.app, List.map_cons, List.map_nil, List.cons_append, List.nil_append, List.drop_succ_cons, List.drop_zero, List.length_cons, List.length_nil, Nat.zero_add, Nat.reduceAdd, Int.neg_neg, Bool.not_not, List.append_nil, Nat.add_zero, List.getElem?_cons_zero, List.getElem?_cons_succ, Decidable.not_not, semW_eq, semW_load, semW_store, semW_storeC, semW_append, semW_lookup, semW_lookupC, semW_update, semW_updateC, semW_updateK, semW_delete, semW_range, semW_next, semW_entry, semW_nil, ne_eq, Nat.reduceEqDiff, not_false_eq_true]
  refine (qEpoch_ok rb room pgs).weak (fun _ _ h => h) ?_
  rintro v R h ⟨rfl, H⟩
  refine ⟨_, rfl, ⟨fun h1 => .of fun R h H => ?_, fun h1 => ⟨fun h2 => .of fun R h H => ?_, fun h2 => ?_⟩⟩, H⟩
  · unfold sealR; rw [if_pos h1]; exact ⟨rfl, H⟩
  · unfold sealR; rw [if_neg h1, if_pos h2]; exact ⟨rfl, H⟩
  clear H
  refine (qAddN_ok rb room pgs hroom ⟨4, epoch, 0, 0, []⟩ rfl).weak (fun _ _ h => h) ?_
  rintro v R h ⟨rfl, H⟩
  refine ⟨_, RU rb room (addR room pgs ⟨4, epoch, 0, 0, []⟩).2, rfl, .of fun R h H => ?_, H⟩
  unfold sealR; rw [if_neg h1, if_neg h2]; exact ⟨rfl, H⟩
theorem accU_bnd {n : Int} {es : List PgE} {pgs : List RPg} (he : es.map PgE.pg = pgs) (h : ∀ x ∈ es, x.pg.bytes.length ≤ 140737488355328) : ∀ k, (accU n (pgs.take k)).2.length ≤ 140737488355328
  | 0 => by simp [accU]
  | k + 1 => by
    by_cases hk : k < pgs.length
    · obtain ⟨x, hx, hg⟩ := pgAt he hk
      unfold accU
      rw [take_succ_foldl _ _ _ _ _ hg]
      split
      · exact h x (List.mem_of_getElem? hx)
      · exact accU_bnd (n := n) he h k
    · rw [List.take_of_length_le (by omega)]
      have := accU_bnd (n := n) he h k
      rw [List.take_of_length_le (by omega)] at this
      exact this
theorem qAccepted_ok (n : Int) : Tri Try.prog 113 #[.pointer (some ⟨rb, 0, none⟩), .int .i64 n] (RU rb room pgs)
    (fun v => HP.ex fun xa => HP.ex fun xc => HP.and (v = .tuple #[.agg #[.int .i64 (accU n pgs).1.1, .int .i64 (accU n pgs).1.2], .slice xa (accU n pgs).2.length xc] ∧ (accU n pgs).2.length ≤ 140737488355328) (HP.sep (RoB xa (accU n pgs).2.length (accU n pgs).2) (RU rb room pgs))) := by
  refine RU.tri fun a c es he hb ha => ?_
  refine Tri.fact (φ := ∀ x ∈ es, x.pg.bytes.length ≤ 140737488355328) (fun R h H x hx => ?_) fun hbn => ?_
  · obtain ⟨k, hk⟩ := List.getElem?_of_mem hx
    exact (pgRo hk (HP.sep_right H)).1
  refine tri_of_tree (ρ := rRho rb a pgs.length c es room ++ [.i n]) mixed Try.func113 tree_qAccepted ?_
  unfold t_qAccepted
  simp only [T.den, E.prop, E.den, RX.look, F1.app, F2.app, Uni.int_i, Uni.nat_n, Uni.bool_c, Uni.str_s, Uni.adr_a, Uni.val_v, Uni.hp_p, hden, cden, V.den, W.den, A.den, BR.den, SA.den, FV.den, capV, exs, exP, allP, Cur.app, List.map_cons, List.map_nil, List.cons_append, List.nil_append, List.drop_succ_cons, List.drop_zero, List.length_cons, List.length_nil, Nat.zero_add, Nat.reduceAdd, Int.neg_neg, Bool.not_not, List.append_nil, Nat.add_zero, List.getElem?_cons_zero, List.getElem?_cons_succ, Decidable.not_not, semW_eq, semW_load, semW_store, semW_storeC, semW_append, semW_lookup, semW_lookupC, semW_update, semW_updateC, semW_updateK, semW_delete, semW_range, semW_next, semW_entry, semW_nil, ne_eq, Nat.reduceEqDiff, not_false_eq_true]
  intro _ _ vb
  refine ⟨fun va vn vc i P p q => ∃ k : Nat, i = k ∧ k ≤ pgs.length ∧ (p, q) = (accU n (pgs.take k)).1 ∧ vn = (accU n (pgs.take k)).2.length ∧ HP.ent P (RoB va (accU n (pgs.take k)).2.length (accU n (pgs.take k)).2), fun _ _ _ i _ _ _ => pgs.length - i.toNat, ⟨0, rfl, Nat.zero_le _, rfl, rfl, .of fun R h _ => RoC.nil _ _ _ _⟩, ?_⟩
  rintro va vn vc _ P p q ⟨k, rfl, hk, hpq, rfl, hP⟩
  refine ⟨fun h0 => ⟨by omega, fun _ => ⟨ha (by omega), fun _ => ?_⟩⟩, fun h0 => ?_⟩
  · obtain ⟨x, hx, hg⟩ := pgAt he (show k < pgs.length by omega)
    have st := take_succ_foldl (fun b (x : RPg) => if x.kind = 6 ∧ x.n = n then ((x.r, x.w), x.bytes) else b) ((0, 0), []) pgs k x.pg hg
    have next : ¬ (x.pg.kind = 6 ∧ x.pg.n = n) → ∃ k' : Nat, (k : Int) + 1 = k' ∧ k' ≤ pgs.length ∧ (p, q) = (accU n (pgs.take k')).1 ∧ (accU n (pgs.take k)).2.length = (accU n (pgs.take k')).2.length ∧ HP.ent P (RoB va (accU n (pgs.take k')).2.length (accU n (pgs.take k')).2) := fun hno => by
      have e : accU n (pgs.take (k + 1)) = accU n (pgs.take k) := by unfold accU; rw [st, if_neg hno]
      exact ⟨k + 1, by omega, by omega, by rw [e]; exact hpq, by rw [e], by rw [e]; exact hP⟩
    refine ⟨_, loadPg1 undIb aggI szI hx (off := 0) rfl, ⟨fun h6 => ⟨_, loadPg1 undIb aggI szI hx (off := 1) rfl, ⟨fun hn => ⟨_, _, loadPgB hx, fun z => ?_⟩, fun hn => ⟨inI64 _ (by omega) (by omega), fun _ => ⟨next (fun e => hn e.2), by dsimp only; omega⟩⟩⟩⟩, fun h6 => ⟨inI64 _ (by omega) (by omega), fun _ => ⟨next (fun e => h6 e.1), by dsimp only; omega⟩⟩⟩⟩
    have e : accU n (pgs.take (k + 1)) = ((x.pg.r, x.pg.w), x.pg.bytes) := by unfold accU; rw [st, if_pos ⟨h6, hn⟩]
    obtain ⟨d30, hd30⟩ : ∃ d, Try.prog.underlying 30 = some d := Option.isSome_iff_exists.1 (by kernel_rfl)
    have rX : RdL (PL kPg a pgs.length c es) x.a x.pg.bytes.length (x.pg.bytes.map u8v) := RdL.imp fun R h H => (pgRo hx H).2 h
    refine ⟨x.a, x.pg.bytes.length, x.c, loadPg1 hd30 (by kernel_rfl) (by kernel_rfl) hx (off := 4) rfl, ?_⟩
    refine OTri.fact (φ := x.pg.bytes.length ≠ 0 → x.a.isSome = true) (fun R h H h0 => RoC.some ((pgRo hx (HP.sep_right H)).2 h) (by omega)) fun hxa => ?_
    refine (appE z x.a _ x.c x.pg.bytes (PL kPg a pgs.length c es) rX rfl hxa (hbn x (List.mem_of_getElem? hx))).weak (fun _ _ h => h) ?_
    rintro v R h ⟨a', c', rfl, H⟩
    exact ⟨a', _, c', RoB a' x.pg.bytes.length x.pg.bytes, rfl, ⟨inI64 _ (by omega) (by omega), fun _ => ⟨⟨k + 1, by omega, by omega, by rw [e], by rw [e], by rw [e]; exact .refl _⟩, by dsimp only; omega⟩⟩, H⟩
  · have hbA := accU_bnd (n := n) he hbn k
    obtain rfl : k = pgs.length := by omega
    rw [List.take_length] at hpq hP hbA ⊢
    refine (HP.ent.sep2 (.refl _) (HP.ent.sep2 (.refl _) hP)).trans (.of fun R h H => ⟨va, vc, ⟨by rw [← hpq], hbA⟩, ?_⟩)
    exact RoC.join (HP.sep_right (HP.sep_right H)) (RU.of he hb rfl (HP.sep_left (HP.sep_assoc' H)))
end
end Go.Proofs.Ytmibmjehjagmbaa

/- The document's unit: contracts of Write, Promise, Accept, Tail. No condition. -/
namespace Go.Proofs.Ytmibmjehjagmbaa
set_option linter.unusedSimpArgs false
set_option linter.unusedVariables false
open Go.Proofs.Ytmibmjehjagmbaa RX
set_option maxRecDepth 100000

theorem neqBW {i j : Nat} {ty u : TypeId} (h : i ≠ j) {r q r' q' : Int} {A : HP} :
    ORead Try.prog (semW (.binOp .neq 34 (.tmp i) (.tmp j) u) ty [(i, .agg #[.int .i64 r, .int .i64 q]), (j, .agg #[.int .i64 r', .int .i64 q'])]) A (.bool (!(decide (r = r') && decide (q = q')))) := by
  have := semOf_neqB (ρ := [.i r, .i q, .i r', .i q']) (i := i) (j := j) (ty := ty) (u := u) (x := .w (.agg [.int .i64 (.v 0), .int .i64 (.v 1)])) (y := .w (.agg [.int .i64 (.v 2), .int .i64 (.v 3)])) h (A := A) rfl rfl
  rw [semW_eq] at this
  exact this
section
variable (rb : Nat) (room : Int) (pgs : List RPg)
def writeR (l : List RPg) (epoch at' : Int) (x : CellS) : (CellS × Int) × List RPg :=
  if askR l epoch at' ≠ 0 then ((⟨0, []⟩, askR l epoch at'), l)
  else if (x.what ≠ 1 ∧ x.what ≠ 2) ∨ (x.what = 1 ∧ 65536 < x.data.length) ∨ (x.what = 2 ∧ 0 < x.data.length) then ((⟨0, []⟩, 1), l)
  else if (readR l epoch at').2 = 11 then ((⟨0, []⟩, 11), l)
  else if (readR l epoch at').2 = 0 then (((readR l epoch at').1, 10), l)
  else ((⟨0, []⟩, (addR room l ⟨x.what, at', 0, 0, x.data⟩).1), (addR room l ⟨x.what, at', 0, 0, x.data⟩).2)
set_option maxHeartbeats 2000000 in
theorem qWrite_ok (hroom : room ≤ 1000000) (epoch at' what : Int) (xa : Option Addr) (xc : Nat) (d : List UInt8) (hd : d.length ≤ 140737488355328) (hxa : d.length ≠ 0 → xa.isSome = true) :
    Tri Try.prog 61 #[.pointer (some ⟨rb, 0, none⟩), .int .i64 epoch, .int .i64 at', .agg #[.int .i64 what, .slice xa d.length xc]] (HP.sep (RU rb room pgs) (RoB xa d.length d))
    (fun v => HP.ex fun ya => HP.ex fun yc => HP.and (v = .tuple #[.agg #[.int .i64 (writeR room pgs epoch at' ⟨what, d⟩).1.1.what, .slice ya (writeR room pgs epoch at' ⟨what, d⟩).1.1.data.length yc], .int .i64 (writeR room pgs epoch at' ⟨what, d⟩).1.2] ∧ (writeR room pgs epoch at' ⟨what, d⟩).1.1.data.length ≤ 140737488355328)
      (HP.sep (RoB ya (writeR room pgs epoch at' ⟨what, d⟩).1.1.data.length (writeR room pgs epoch at' ⟨what, d⟩).1.1.data) (HP.sep (RU rb room (writeR room pgs epoch at' ⟨what, d⟩).2) (RoB xa d.length d)))) := by
  refine tri_of_tree (ρ := [.n rb, .p (RU rb room pgs), .i epoch, .i at', .i what, .a xa, .n d.length, .n xc, .p (RoB xa d.length d)]) mixed Try.func61 tree_qWrite9 ?_
  unfold t_qWrite9
  simp only [T.den, E.prop, E.den, RX.look, F1.app, F2.app, Uni.int_i, Uni.nat_n, Uni.bool_c, Uni.str_s, Uni.adr_a, Uni.val_v, Uni.hp_p, hden, cden, V.den, W.den, A.den, BR.den, SA.den, FV.den, capV, exs, exP, allP, Cur.app, List.map_cons, List.map_nil, List.cons_append, List.nil_append, List.drop_succ_cons, List.drop_zero, List.length_cons, List.length_nil, Nat.zero_add, Nat.reduceAdd, Int.neg_neg, Bool.not_not, List.append_nil, Nat.add_zero, List.getElem?_cons_zero, List.getElem?_cons_succ, Decidable.not_not, semW_eq, semW_load, semW_store, semW_storeC, semW_append, semW_lookup, semW_lookupC, semW_update, semW_updateC, semW_updateK, semW_delete, semW_range, semW_next, semW_entry, semW_nil, ne_eq, Nat.reduceEqDiff, not_false_eq_true]
  intro _ _
  refine (qAsk_ok rb room pgs epoch at').weak (fun _ _ h => h) ?_
  rintro v R h ⟨rfl, H⟩
  refine ⟨_, rfl, ?_, H⟩
  clear H
  have lone : ∀ e, writeR room pgs epoch at' ⟨what, d⟩ = ((⟨0, []⟩, e), pgs) → ∀ R h, (HP.sep (RU rb room pgs) (RoB xa d.length d)).p R h → (HP.ex fun ya => HP.ex fun yc => HP.and (Value.tuple #[.agg #[.int .i64 0, .slice none 0 0], .int .i64 e] = .tuple #[.agg #[.int .i64 (writeR room pgs epoch at' ⟨what, d⟩).1.1.what, .slice ya (writeR room pgs epoch at' ⟨what, d⟩).1.1.data.length yc], .int .i64 (writeR room pgs epoch at' ⟨what, d⟩).1.2] ∧ (writeR room pgs epoch at' ⟨what, d⟩).1.1.data.length ≤ 140737488355328) (HP.sep (RoB ya (writeR room pgs epoch at' ⟨what, d⟩).1.1.data.length (writeR room pgs epoch at' ⟨what, d⟩).1.1.data) (HP.sep (RU rb room (writeR room pgs epoch at' ⟨what, d⟩).2) (RoB xa d.length d)))).p R h := fun e he R h H => by
    rw [he]
    exact ⟨none, 0, ⟨rfl, by simp⟩, RoC.join (RoB0 none : (RoB none 0 []).p R h) H⟩
  refine ⟨fun h1 => .of fun R h H => lone _ (by unfold writeR; rw [if_pos h1]) R h H, fun h1 => ?_⟩
  have h1' : ¬ askR pgs epoch at' ≠ 0 := by simpa using h1
  have bad : ((what ≠ 1 ∧ what ≠ 2) ∨ (what = 1 ∧ 65536 < d.length) ∨ (what = 2 ∧ 0 < d.length)) → writeR room pgs epoch at' ⟨what, d⟩ = ((⟨0, []⟩, 1), pgs) := fun hb => by unfold writeR; rw [if_neg h1', if_pos hb]
  have good : ¬ ((what ≠ 1 ∧ what ≠ 2) ∨ (what = 1 ∧ 65536 < d.length) ∨ (what = 2 ∧ 0 < d.length)) → writeR room pgs epoch at' ⟨what, d⟩ = if (readR pgs epoch at').2 = 11 then ((⟨0, []⟩, 11), pgs) else if (readR pgs epoch at').2 = 0 then (((readR pgs epoch at').1, 10), pgs) else ((⟨0, []⟩, (addR room pgs ⟨what, at', 0, 0, d⟩).1), (addR room pgs ⟨what, at', 0, 0, d⟩).2) := fun hb => by unfold writeR; rw [if_neg h1', if_neg hb]
  have rdk := qRead_ok rb room pgs epoch at'
  have add := fun a' c' => qAdd_ok rb room pgs hroom ⟨what, at', 0, 0, d⟩ a' c' hd
  repeat' (first
    | intro (_ : Nat)
    | refine And.intro ?_ ?_
    | intro (hb : (_ : Int) = _)
    | intro (hb : ¬ (_ : Int) = _)
    | intro (hb : (_ : Int) < _)
    | intro (hb : ¬ (_ : Int) < _)
    | exact .of fun R h H => lone _ (bad (by omega)) R h H
    | (refine rdk.weak (fun _ _ h => h) ?_
       rintro v R h ⟨ya, yc, ⟨rfl, hyb⟩, H⟩
       refine ⟨_, ya, _, yc, RoB ya _ _, _, rfl, ?_, H⟩
       clear H
       have hg := good (by omega))
    | exact .of fun R h H => (by rw [hb]; exact lone _ (by rw [hg, if_pos hb]) R h H)
    | exact .of fun R h H => (by
        have e : writeR room pgs epoch at' ⟨what, d⟩ = (((readR pgs epoch at').1, 10), pgs) := by rw [hg, if_neg (by assumption), if_pos hb]
        rw [e]
        exact ⟨ya, yc, ⟨rfl, hyb⟩, HP.pick [_, _, _] [2, 0, 1] (by decide) rfl H⟩)
    | (refine (appE _ xa _ xc d (RoB xa d.length d) (RdL.ro _ _ _ _) rfl hxa hd).weak (fun _ _ h => h) ?_
       rintro v R h ⟨a', c', rfl, H⟩
       refine ⟨a', _, c', RoB a' d.length d, rfl, ?_, H⟩
       clear H)
    | (refine (add a' c').weak (fun _ _ h => h) ?_
       rintro v R h ⟨rfl, H⟩
       refine ⟨_, RU rb room (addR room pgs ⟨what, at', 0, 0, d⟩).2, RoB a' d.length d, rfl, .of fun R h H => ?_, H⟩
       have e : writeR room pgs epoch at' ⟨what, d⟩ = ((⟨0, []⟩, (addR room pgs ⟨what, at', 0, 0, d⟩).1), (addR room pgs ⟨what, at', 0, 0, d⟩).2) := by rw [hg, if_neg (by assumption), if_neg (by assumption)]
       rw [e]
       exact ⟨none, 0, ⟨rfl, by simp⟩, RoC.join (RoB0 none : (RoB none 0 []).p R h) H⟩)
    | fail)
def promiseR (l : List RPg) (n r w : Int) : ((Int × Int) × List UInt8 × Int) × List RPg :=
  if propOk n r w = false then (((0, 0), [], 1), l)
  else if lessR r w (promU n l).1 (promU n l).2 = true then (((0, 0), [], 7), l)
  else if r = (promU n l).1 ∧ w = (promU n l).2 then (((accU n l).1, (accU n l).2, 0), l)
  else if (addR room l ⟨5, n, r, w, []⟩).1 ≠ 0 then (((0, 0), [], (addR room l ⟨5, n, r, w, []⟩).1), (addR room l ⟨5, n, r, w, []⟩).2)
  else (((accU n (addR room l ⟨5, n, r, w, []⟩).2).1, (accU n (addR room l ⟨5, n, r, w, []⟩).2).2, 0), (addR room l ⟨5, n, r, w, []⟩).2)
set_option maxHeartbeats 2000000 in
theorem qPromise_ok (hroom : room ≤ 1000000) (n r w : Int) :
    Tri Try.prog 67 #[.pointer (some ⟨rb, 0, none⟩), .int .i64 n, .agg #[.int .i64 r, .int .i64 w]] (RU rb room pgs)
    (fun v => HP.ex fun ya => HP.ex fun yc => HP.and (v = .tuple #[.agg #[.int .i64 (promiseR room pgs n r w).1.1.1, .int .i64 (promiseR room pgs n r w).1.1.2], .slice ya (promiseR room pgs n r w).1.2.1.length yc, .int .i64 (promiseR room pgs n r w).1.2.2] ∧ (promiseR room pgs n r w).1.2.1.length ≤ 140737488355328)
      (HP.sep (RU rb room (promiseR room pgs n r w).2) (RoB ya (promiseR room pgs n r w).1.2.1.length (promiseR room pgs n r w).1.2.1))) := by
  refine tri_of_tree (ρ := [.n rb, .p (RU rb room pgs), .i n, .i r, .i w]) mixed Try.func67 tree_qPromise ?_
  unfold t_qPromise
  simp only [T.den, E.prop, E.den, RX.look, F1.app, F2.app, Uni.int_i, Uni.nat_n, Uni.bool_c, Uni.str_s, Uni.adr_a, Uni.val_v, Uni.hp_p, hden, cden, V.den, W.den, A.den, BR.den, SA.den, FV.den, capV, exs, exP, allP, Cur.app, List.map_cons, List.map_nil, List.cons_append, List.nil_append, List.drop_succ_cons, List.drop_zero, List.length_cons, List.length_nil, Nat.zero_add, Nat.reduceAdd, Int.neg_neg, Bool.not_not, List.append_nil, Nat.add_zero, List.getElem?_cons_zero, List.getElem?_cons_succ, Decidable.not_not, semW_eq, semW_load, semW_store, semW_storeC, semW_append, semW_lookup, semW_lookupC, semW_update, semW_updateC, semW_updateK, semW_delete, semW_range, semW_next, semW_entry, semW_nil, ne_eq, Nat.reduceEqDiff, not_false_eq_true]
  intro _ _
  refine (qMay_ok n r w).weak (fun _ _ h => h) ?_
  rintro v R h rfl
  refine ⟨_, rfl, ⟨fun h1 => .of fun R h H => ?_, fun h1 => ?_⟩, trivial⟩
  · have e : promiseR room pgs n r w = (((0, 0), [], 1), pgs) := by unfold promiseR; rw [if_pos (by simpa using h1)]
    rw [e]
    exact ⟨none, 0, ⟨rfl, by simp⟩, RoC.joinR (RoB0 none : (RoB none 0 []).p R h) H⟩
  refine (qPromised_ok rb room pgs n).weak (fun _ _ h => h) ?_
  rintro v R h ⟨rfl, H⟩
  refine ⟨_, _, rfl, ?_, H⟩
  clear H
  refine (qLess_ok r w _ _).weak (fun _ _ h => h) ?_
  rintro v R h rfl
  refine ⟨_, rfl, ⟨fun h2 => .of fun R h H => ?_, fun h2 => ?_⟩, trivial⟩
  · have e : promiseR room pgs n r w = (((0, 0), [], 7), pgs) := by unfold promiseR; rw [if_neg (by simpa using h1), if_pos h2]
    rw [e]
    exact ⟨none, 0, ⟨rfl, by simp⟩, RoC.joinR (RoB0 none : (RoB none 0 []).p R h) H⟩
  refine (qPromised_ok rb room pgs n).weak (fun _ _ h => h) ?_
  rintro v R h ⟨rfl, H⟩
  refine ⟨_, _, rfl, ⟨_, neqBW (by decide), ⟨fun h3 => ?_, fun h3 => ?_⟩⟩, H⟩
  · clear H
    have h3' : ¬ (r = (promU n pgs).1 ∧ w = (promU n pgs).2) := by
      rintro ⟨e1, e2⟩
      rw [decide_eq_true e1, decide_eq_true e2] at h3
      exact absurd h3 (by decide)
    have e0 : promiseR room pgs n r w = if (addR room pgs ⟨5, n, r, w, []⟩).1 ≠ 0 then (((0, 0), [], (addR room pgs ⟨5, n, r, w, []⟩).1), (addR room pgs ⟨5, n, r, w, []⟩).2) else (((accU n (addR room pgs ⟨5, n, r, w, []⟩).2).1, (accU n (addR room pgs ⟨5, n, r, w, []⟩).2).2, 0), (addR room pgs ⟨5, n, r, w, []⟩).2) := by
      unfold promiseR; rw [if_neg (by simpa using h1), if_neg h2, if_neg h3']
    refine (qAddN_ok rb room pgs hroom ⟨5, n, r, w, []⟩ rfl).weak (fun _ _ h => h) ?_
    rintro v R h ⟨rfl, H⟩
    refine ⟨_, RU rb room (addR room pgs ⟨5, n, r, w, []⟩).2, rfl, ⟨fun h4 => .of fun R h H => ?_, fun h4 => ?_⟩, H⟩
    · rw [e0, if_pos h4]
      exact ⟨none, 0, ⟨rfl, by simp⟩, RoC.joinR (RoB0 none : (RoB none 0 []).p R h) H⟩
    clear H
    refine (qAccepted_ok rb room _ n).weak (fun _ _ h => h) ?_
    rintro v R h ⟨ya, yc, ⟨rfl, hb⟩, H⟩
    refine ⟨_, _, ya, _, yc, RoB ya _ _, rfl, fun _ => .of fun R h H => ?_, H⟩
    rw [e0, if_neg (by simpa using h4)]
    exact ⟨ya, yc, ⟨rfl, hb⟩, H⟩
  · clear H
    have h3' : r = (promU n pgs).1 ∧ w = (promU n pgs).2 := by simpa using h3
    refine (qAccepted_ok rb room pgs n).weak (fun _ _ h => h) ?_
    rintro v R h ⟨ya, yc, ⟨rfl, hb⟩, H⟩
    refine ⟨_, _, ya, _, yc, RoB ya _ _, rfl, fun _ => .of fun R h H => ?_, H⟩
    have e : promiseR room pgs n r w = (((accU n pgs).1, (accU n pgs).2, 0), pgs) := by unfold promiseR; rw [if_neg (by simpa using h1), if_neg h2, if_pos h3']
    rw [e]
    exact ⟨ya, yc, ⟨rfl, hb⟩, H⟩
def acceptR (l : List RPg) (n r w : Int) (d : List UInt8) : Int × List RPg :=
  if propOk n r w = false ∨ 1000 < d.length then (1, l) else if lessR r w (promU n l).1 (promU n l).2 = true then (7, l) else addR room l ⟨6, n, r, w, d⟩
theorem qAccept_ok (hroom : room ≤ 1000000) (n r w : Int) (xa : Option Addr) (xc : Nat) (d : List UInt8) (hd : d.length ≤ 140737488355328) (hxa : d.length ≠ 0 → xa.isSome = true) :
    Tri Try.prog 69 #[.pointer (some ⟨rb, 0, none⟩), .int .i64 n, .agg #[.int .i64 r, .int .i64 w], .slice xa d.length xc] (HP.sep (RU rb room pgs) (RoB xa d.length d))
    (fun v => HP.and (v = .int .i64 (acceptR room pgs n r w d).1) (HP.sep (RU rb room (acceptR room pgs n r w d).2) (RoB xa d.length d))) := by
  refine tri_of_tree (ρ := [.n rb, .p (RU rb room pgs), .i n, .i r, .i w, .a xa, .n d.length, .n xc, .p (RoB xa d.length d)]) mixed Try.func69 tree_qAccept ?_
  unfold t_qAccept
  simp only [T.den, E.prop, E.den, RX.look, F1.app, F2.app, Uni.int_i, Uni.nat_n, Uni.bool_c, Uni.str_s, Uni.adr_a, Uni.val_v, Uni.hp_p, hden, cden, V.den, W.den, A.den, BR.den, SA.den, FV.den, capV, exs, exP, allP, Cur.app, List.map_cons, List.map_nil, List.cons_append, List.nil_append, List.drop_succ_cons, List.drop_zero, List.length_cons, List.length_nil, Nat.zero_add, Nat.reduceAdd, Int.neg_neg, Bool.not_not, List.append_nil, Nat.add_zero, List.getElem?_cons_zero, List.getElem?_cons_succ, Decidable.not_not, semW_eq, semW_load, semW_store, semW_storeC, semW_append, semW_lookup, semW_lookupC, semW_update, semW_updateC, semW_updateK, semW_delete, semW_range, semW_next, semW_entry, semW_nil, ne_eq, Nat.reduceEqDiff, not_false_eq_true]
  intro _
  refine (qMay_ok n r w).weak (fun _ _ h => h) ?_
  rintro v R h rfl
  refine ⟨_, rfl, ⟨fun h1 => .of fun R h H => ?_, fun h1 => ⟨fun h2 => .of fun R h H => ?_, fun h2 => ?_⟩⟩, trivial⟩
  · have e : acceptR room pgs n r w d = (1, pgs) := by unfold acceptR; rw [if_pos (.inl (by simpa using h1))]
    rw [e]; exact ⟨rfl, H⟩
  · have e : acceptR room pgs n r w d = (1, pgs) := by unfold acceptR; rw [if_pos (.inr (by omega))]
    rw [e]; exact ⟨rfl, H⟩
  have e0 : acceptR room pgs n r w d = if lessR r w (promU n pgs).1 (promU n pgs).2 = true then (7, pgs) else addR room pgs ⟨6, n, r, w, d⟩ := by
    unfold acceptR
    rw [if_neg]
    rintro (h | h)
    · rw [h] at h1; cases h1
    · omega
  refine (qPromised_ok rb room pgs n).weak (fun _ _ h => h) ?_
  rintro v R h ⟨rfl, H⟩
  refine ⟨_, _, rfl, ?_, H⟩
  clear H
  refine (qLess_ok r w _ _).weak (fun _ _ h => h) ?_
  rintro v R h rfl
  refine ⟨_, rfl, ⟨fun h3 => .of fun R h H => ?_, fun h3 z => ?_⟩, trivial⟩
  · rw [e0, if_pos h3]; exact ⟨rfl, H⟩
  refine (appE z xa _ xc d (RoB xa d.length d) (RdL.ro _ _ _ _) rfl hxa hd).weak (fun _ _ h => h) ?_
  rintro v R h ⟨a', c', rfl, H⟩
  refine ⟨a', _, c', RoB a' d.length d, rfl, ?_, H⟩
  clear H
  refine (qAdd_ok rb room pgs hroom ⟨6, n, r, w, d⟩ a' c' hd).weak (fun _ _ h => h) ?_
  rintro v R h ⟨rfl, H⟩
  refine ⟨_, RU rb room (addR room pgs ⟨6, n, r, w, d⟩).2, RoB a' d.length d, rfl, .of fun R h H => ?_, H⟩
  rw [e0, if_neg h3]; exact ⟨rfl, H⟩
end
end Go.Proofs.Ytmibmjehjagmbaa

/- What comes into law 9. No condition. -/
namespace Go.Proofs.Ytmibmjehjagmbaa
open Go.RowKit Go.ChangeShapes Go.WideShapes Go.Deep RX
set_option maxRecDepth 100000
set_option linter.unusedVariables false
set_option linter.unusedSimpArgs false

structure Call09 where
  what : Int
  epoch : Int
  at_ : Int
  cell_what : Int
  cell_data : List UInt8
  cell_dataa : Option Addr
  cell_datac : Nat
  br_r : Int
  br_w : Int
abbrev Call09.vals (x : Call09) : List Value := [.int .i64 x.what, .int .i64 x.epoch, .int .i64 x.at_, .int .i64 x.cell_what, .slice x.cell_dataa x.cell_data.length x.cell_datac, .int .i64 x.br_r, .int .i64 x.br_w]
def Call09.hp (x : Call09) : HP := HP.both (HP.pure (okI x.what)) (HP.both (HP.pure (okI x.epoch)) (HP.both (HP.pure (okI x.at_)) (HP.both (HP.pure (okI x.cell_what)) (HP.both (HP.and (x.cell_data.length ≤ 140737488355328) (RoB x.cell_dataa x.cell_data.length x.cell_data)) (HP.both (HP.pure (okI x.br_r)) (HP.pure (okI x.br_w)))))))
theorem Call09.pers (x : Call09) (R h h' : PH) (H : (x.hp).p R h) : (x.hp).p R h' := ⟨H.1, ⟨H.2.1, ⟨H.2.2.1, ⟨H.2.2.2.1, ⟨H.2.2.2.2.1, ⟨H.2.2.2.2.2.1, H.2.2.2.2.2.2⟩⟩⟩⟩⟩⟩
instance : Inhabited Call09 := ⟨⟨0, 0, 0, 0, [], none, 0, 0, 0⟩⟩
def kCall09 : Kind Call09 := ⟨7, by decide, Call09.vals, fun _ => rfl, Call09.hp, Call09.pers⟩
theorem Call09.of_trod {H : Type} {enc : TypeId × Value → H} {w : World} {cs : List Value} {n : Nat} {x : DataW H × List MemPlace} (h : DataW.trod enc Try.prog w 0 (fun _ => true) true n 36 cs = some x) (hs : Small Try.prog 36 x.1) : ∃ m : Call09, cs = kCall09.vals m ∧ ∀ h, (kCall09.hp m).p (allOf w) h := by
  obtain ⟨xs0, n0, _, hx0, hl0, hxl0, hf0⟩ := DataW.trod_struct Try.underlying36 h
  replace hxl0 : xs0.length = 5 := hxl0
  have hs0 : Small Try.prog 36 (.agg (xs0.map (·.1))) := by
    have e := hx0
    first | (subst e; exact hs) | (rw [e] at hs; exact hs) | (have e2 := congrArg Prod.fst e; rw [← e2]; exact hs) | (rw [← e]; exact hs)
  obtain ⟨c0, e0, w0⟩ := field_int Try.underlying3 (show 0 < xs0.length by omega) (by kernel_rfl) (hf0 0 _ rfl)
  obtain ⟨c1, e1, w1⟩ := field_int Try.underlying3 (show 1 < xs0.length by omega) (by kernel_rfl) (hf0 1 _ rfl)
  obtain ⟨c2, e2, w2⟩ := field_int Try.underlying3 (show 2 < xs0.length by omega) (by kernel_rfl) (hf0 2 _ rfl)
  have g0_3 := hf0 3 _ rfl
  rw [List.getElem?_eq_getElem (show 3 < xs0.length by omega)] at g0_3
  have hp0_3 : Small Try.prog 32 xs0[3].1 := Small.part (i := 3) hs0 Try.underlying36 rfl (by rw [List.getElem?_map, List.getElem?_eq_getElem (show 3 < xs0.length by omega)]; rfl)
  obtain ⟨xs1, n1, _, hx1, hl1, hxl1, hf1⟩ := DataW.trod_struct Try.underlying32 g0_3
  replace hxl1 : xs1.length = 2 := hxl1
  have hs1 : Small Try.prog 32 (.agg (xs1.map (·.1))) := by
    have e := hx1
    first | (subst e; exact hp0_3) | (rw [e] at hp0_3; exact hp0_3) | (have e2 := congrArg Prod.fst e; rw [← e2]; exact hp0_3) | (rw [← e]; exact hp0_3)
  obtain ⟨c3, e3, w3⟩ := field_int Try.underlying3 (show 0 < xs1.length by omega) (by kernel_rfl) (hf1 0 _ rfl)
  rw [List.getElem?_take_of_lt (of_decide_eq_true (by kernel_rfl)), List.getElem?_drop] at e3
  obtain ⟨a4, l4, k4, e4⟩ := field_slice Try.underlying30 (show 1 < xs1.length by omega) (by kernel_rfl) (hf1 1 _ rfl)
  have q4 := hf1 1 _ rfl
  rw [List.getElem?_eq_getElem (show 1 < xs1.length by omega)] at q4
  have g4 : DataW.trod enc Try.prog w 0 (fun _ => true) true n1 30 [.slice a4 l4 k4] = some xs1[1] := by
    rw [← take1' e4]
    exact q4
  have s4 : Small Try.prog 30 xs1[1].1 := Small.part (i := 1) hs1 Try.underlying32 rfl (by rw [List.getElem?_map, List.getElem?_eq_getElem (show 1 < xs1.length by omega)]; rfl)
  obtain ⟨b4, d4, m4, r4, y4, z4⟩ := bytes_of_trod g4 s4
  simp only [Value.slice.injEq] at r4
  obtain ⟨rfl, rfl, rfl⟩ := r4
  rw [List.getElem?_take_of_lt (of_decide_eq_true (by kernel_rfl)), List.getElem?_drop] at e4
  have g0_4 := hf0 4 _ rfl
  rw [List.getElem?_eq_getElem (show 4 < xs0.length by omega)] at g0_4
  have hp0_4 : Small Try.prog 34 xs0[4].1 := Small.part (i := 4) hs0 Try.underlying36 rfl (by rw [List.getElem?_map, List.getElem?_eq_getElem (show 4 < xs0.length by omega)]; rfl)
  obtain ⟨xs2, n2, _, hx2, hl2, hxl2, hf2⟩ := DataW.trod_struct Try.underlying34 g0_4
  replace hxl2 : xs2.length = 2 := hxl2
  have hs2 : Small Try.prog 34 (.agg (xs2.map (·.1))) := by
    have e := hx2
    first | (subst e; exact hp0_4) | (rw [e] at hp0_4; exact hp0_4) | (have e2 := congrArg Prod.fst e; rw [← e2]; exact hp0_4) | (rw [← e]; exact hp0_4)
  obtain ⟨c5, e5, w5⟩ := field_int Try.underlying3 (show 0 < xs2.length by omega) (by kernel_rfl) (hf2 0 _ rfl)
  rw [List.getElem?_take_of_lt (of_decide_eq_true (by kernel_rfl)), List.getElem?_drop] at e5
  obtain ⟨c6, e6, w6⟩ := field_int Try.underlying3 (show 1 < xs2.length by omega) (by kernel_rfl) (hf2 1 _ rfl)
  rw [List.getElem?_take_of_lt (of_decide_eq_true (by kernel_rfl)), List.getElem?_drop] at e6
  have hlen : cs.length = 7 := hl0.trans (by kernel_rfl)
  refine ⟨⟨c0, c1, c2, c3, d4, a4, k4, c5, c6⟩, ?_, fun hh => ⟨int_wf w0, ⟨int_wf w1, ⟨int_wf w2, ⟨int_wf w3, ⟨⟨y4, z4 hh⟩, ⟨int_wf w5, int_wf w6⟩⟩⟩⟩⟩⟩⟩
  clear h hl0 hf0 hl1 hf1 hl2 hf2 g0_3 q4 g4 s4 g0_4
  revert e0 e1 e2 e3 e4 e5 e6
  match cs, hlen with
  | [u0, u1, u2, u3, u4, u5, u6], _ =>
    intro e0
    obtain rfl : u0 = .int _ c0 := Option.some.inj e0
    intro e1
    obtain rfl : u1 = .int _ c1 := Option.some.inj e1
    intro e2
    obtain rfl : u2 = .int _ c2 := Option.some.inj e2
    intro e3
    obtain rfl : u3 = .int _ c3 := Option.some.inj e3
    intro e4
    obtain rfl : u4 = .slice a4 d4.length k4 := Option.some.inj e4
    intro e5
    obtain rfl : u5 = .int _ c5 := Option.some.inj e5
    intro e6
    obtain rfl : u6 = .int _ c6 := Option.some.inj e6
    rfl
theorem Call09.load {a : Option Addr} {n : Nat} {l : List Call09} {k : Nat} {x : Call09} (hk : l[k]? = some x) : ORead Try.prog (loadS 36 (.pointer (a.map fun y => (y.add ((k : Int).toNat * 7)).add 0))) (Ls kCall09 a n l) (.agg x.vals.toArray) := by
  obtain ⟨d, hd⟩ : ∃ d, Try.prog.underlying 36 = some d := Option.isSome_iff_exists.1 (by kernel_rfl)
  exact Ls.load (K := kCall09) hd (by kernel_rfl) (by kernel_rfl) hk

end Go.Proofs.Ytmibmjehjagmbaa

/- Trees of functions, printed by rx.lean. No condition. -/
namespace Go.Proofs.Ytmibmjehjagmbaa.RX
set_option maxRecDepth 100000
-- tideline/tidelinelaw09.laid: ρ := [.i size]
def t_laid09 : T :=
(.call 23 [(.a (.int .i64 (.v 0)))] [] [.n, .p, .i] (.tup [(.a (.ptr (.v 1) 0)), (.a (.int .i64 (.v 3)))]) [((.b (.v 1)), (.prop 2))]
(.br (.o1 .not (.o2 .eq (.v 3) (.i 0)))
 (.ret (.tup [(.a .nilp), (.a .nilp)]) [])
 (.call 17 [(.a (.ptr (.v 1) 0))] [((.b (.v 1)), (.prop 2))] [.n, .p, .i, .p] (.tup [(.a (.ptr (.v 4) 0)), (.a (.int .i64 (.v 6)))]) [((.b (.v 4)), (.prop 5)), ((.b (.v 1)), (.prop 7))]
 (.br (.o1 .not (.o2 .eq (.v 6) (.i 0)))
  (.ret (.tup [(.a (.ptr (.v 1) 0)), (.a .nilp)]) [((.b (.v 1)), (.prop 7))])
  (.ret (.tup [(.a (.ptr (.v 1) 0)), (.a (.ptr (.v 4) 0))]) [((.b (.v 1)), (.prop 7)), ((.b (.v 4)), (.prop 5))])))))
theorem tree_laid09 : tree Try.prog { absT := [], opq := [], hv := [], keep := [87, 37, 39, 41, 109, 107, 62, 112, 111, 110, 133, 113, 19, 20, 38, 40, 21, 68, 14, 34], link := [(17, 0)], ent := [], turn := [(18, [100, 1]), (57, [100]), (29, [100]), (61, [0]), (69, [0]), (16, [0])], shr := [], vt := [], mkd := [], rlink := [(15, 1, 0)], pty := [], outl := true, stay := [], snk := [] } Try.f15 [(.a (.int .i64 (.v 0)))] [] 1 = t_laid09 := by kernel_rfl
-- tideline/tidelinelaw09.speaks: ρ := []
def t_speaks09 : T :=
(.call 15 [(.a (.int .i64 (.i 9)))] [] [.n, .p, .n, .p] (.tup [(.a (.ptr (.v 0) 0)), (.a (.ptr (.v 2) 0))]) [((.b (.v 0)), (.prop 1)), ((.b (.v 2)), (.prop 3))]
(.call 57 [(.a (.ptr (.v 2) 0)), (.a (.int .i64 (.i 0))), (.a (.int .i64 (.i 3))), (.agg [(.int .i64 (.i 2)), (.sl .nil (.n 0) (.n 0))])] [((.b (.v 2)), (.prop 3)), ((.b (.v 0)), (.prop 1))] [.i, .a, .n, .n, .p, .i, .p, .p] (.tup [(.agg [(.int .i64 (.v 4)), (.sl (.v 5) (.v 6) (.v 7))]), (.a (.int .i64 (.v 9)))]) [((.a 5), (.prop 8)), ((.b (.v 2)), (.prop 10)), ((.b (.v 0)), (.prop 11))]
(.new
(.new
(.call 57 [(.a (.ptr (.v 2) 0)), (.a (.int .i64 (.i 0))), (.a (.int .i64 (.i 3))), (.agg [(.int .i64 (.i 1)), (.sl (.b (.v 13) 0) (.n 1) (.n 1))])] [((.b (.v 2)), (.prop 10)), ((.b (.v 0)), (.prop 11)), ((.b (.v 13)), (.cells [(.int .u8 (.i 1))] 5))] [.i, .a, .n, .n, .p, .i, .p, .p] (.tup [(.agg [(.int .i64 (.v 14)), (.sl (.v 15) (.v 16) (.v 17))]), (.a (.int .i64 (.v 19)))]) [((.a 15), (.prop 18)), ((.b (.v 2)), (.prop 20)), ((.b (.v 0)), (.prop 21)), ((.b (.v 13)), (.cells [(.int .u8 (.i 1))] 5))]
(.new
(.br (.o2 .eq (.v 9) (.i 0))
 (.br (.o2 .eq (.v 19) (.i 10))
  (.br (.o2 .eq (.v 14) (.i 2))
   (.call 40 [(.a (.ptr (.v 2) 0))] [((.b (.v 2)), (.prop 20)), ((.b (.v 0)), (.prop 21))] [.i] (.w (.a (.int .i64 (.v 23)))) [((.b (.v 2)), (.prop 20)), ((.b (.v 0)), (.prop 21))]
   (.ret (.w (.a (.bool (.o2 .eq (.v 23) (.i 4))))) []))
   (.ret (.w (.a (.bool (.c false)))) []))
  (.ret (.w (.a (.bool (.c false)))) []))
 (.ret (.w (.a (.bool (.c false)))) []))))))))
theorem tree_speaks09 : tree Try.prog { absT := [], opq := [], hv := [], keep := [87, 37, 39, 41, 109, 107, 62, 112, 111, 110, 133, 113, 19, 20, 38, 40, 21, 68, 14, 34], link := [(17, 0)], ent := [], turn := [(18, [100, 1]), (57, [100]), (29, [100]), (61, [0]), (69, [0]), (16, [0])], shr := [], vt := [], mkd := [], rlink := [(15, 1, 0)], pty := [], outl := true, stay := [], snk := [] } Try.f13 [] [] 0 = t_speaks09 := by kernel_rfl
-- tideline/tidelinelaw09.great: ρ := [.a callsa, .n callsl, .n callsc, .p callsP]
def t_great09 : T :=
(.br (.o2 .lt (.i 60) (.o1 .ofNat (.v 1)))
 (.ret (.w (.a (.bool (.c true)))) [((.a 0), (.prop 3))])
 (.loop [.c, .i] [(.e (.o1 .not (.o1 .not (.c false)))), (.e (.o1 .neg (.o1 .neg (.i 0))))]
  (.br (.o2 .lt (.v 5) (.o1 .ofNat (.v 1)))
   (.need (.o2 .le (.i 0) (.v 5))
   (.need (.o1 .isSome (.v 0))
   (.read (.load 36 (.tmp 12)) 36 [(12, (.w (.a (.eptr 0 (.v 5) 7 0))))] [((.a 0), (.prop 3))] [.i, .i, .i, .i, .a, .n, .n, .i, .i] (.w (.agg [(.int .i64 (.v 6)), (.int .i64 (.v 7)), (.int .i64 (.v 8)), (.int .i64 (.v 9)), (.sl (.v 10) (.v 11) (.v 12)), (.int .i64 (.v 13)), (.int .i64 (.v 14))]))
   (.new
   (.br (.o2 .lt (.i 2000) (.o1 .ofNat (.v 11)))
    (.ret (.w (.a (.bool (.c true)))) [((.a 0), (.prop 3))])
    (.need (.o1 (.inr .i64) (.o2 .add (.v 5) (.i 1)))
    (.again 0 [(.e (.o1 .not (.o1 .not (.v 4)))), (.e (.o1 .neg (.o1 .neg (.o2 .add (.v 5) (.i 1)))))])))))))
   (.ret (.w (.a (.bool (.c false)))) [((.a 0), (.prop 3))]))))
theorem tree_great09 : tree Try.prog { absT := [], opq := [], hv := [], keep := [87, 37, 39, 41, 109, 107, 62, 112, 111, 110, 133, 113, 19, 20, 38, 40, 21, 68, 14, 34], link := [(17, 0)], ent := [], turn := [(18, [100, 1]), (57, [100]), (29, [100]), (61, [0]), (69, [0]), (16, [0])], shr := [], vt := [], mkd := [], rlink := [(15, 1, 0)], pty := [], outl := true, stay := [], snk := [] } Try.f14 [(.a (.sl (.v 0) (.v 1) (.v 2)))] [((.a 0), (.prop 3))] 4 = t_great09 := by kernel_rfl
-- tideline/tidelinelaw09.call: ρ := [.n u, .p uP, .n r, .p rP, .i c_What, .i c_Epoch, .i c_At, .i c_Cell_What, .a c_Cell_Dataa, .n c_Cell_Datal, .n c_Cell_Datac, .p c_Cell_DataP, .i c_Ballot_Round, .i c_Ballot_Who]
def t_call09 : T :=
(.new
(.br (.o2 .eq (.v 4) (.i 0))
 (.call 57 [(.a (.ptr (.v 0) 0)), (.a (.int .i64 (.v 5))), (.a (.int .i64 (.v 6))), (.agg [(.int .i64 (.v 7)), (.sl (.v 8) (.v 9) (.v 10))])] [((.b (.v 0)), (.prop 1)), ((.a 8), (.prop 11))] [.i, .a, .n, .n, .p, .i, .p] (.tup [(.agg [(.int .i64 (.v 15)), (.sl (.v 16) (.v 17) (.v 18))]), (.a (.int .i64 (.v 20)))]) [((.a 16), (.prop 19)), ((.b (.v 0)), (.prop 21)), ((.a 8), (.prop 11))]
 (.new
 (.call 61 [(.a (.ptr (.v 2) 0)), (.a (.int .i64 (.v 5))), (.a (.int .i64 (.v 6))), (.agg [(.int .i64 (.v 7)), (.sl (.v 8) (.v 9) (.v 10))])] [((.b (.v 2)), (.prop 3)), ((.a 8), (.prop 11))] [.i, .a, .n, .n, .p, .i, .p] (.tup [(.agg [(.int .i64 (.v 23)), (.sl (.v 24) (.v 25) (.v 26))]), (.a (.int .i64 (.v 28)))]) [((.a 24), (.prop 27)), ((.b (.v 2)), (.prop 29)), ((.a 8), (.prop 11))]
 (.new
 (.br (.o2 .eq (.v 20) (.v 28))
  (.call 21 [(.agg [(.int .i64 (.v 15)), (.sl (.v 16) (.v 17) (.v 18))]), (.agg [(.int .i64 (.v 23)), (.sl (.v 24) (.v 25) (.v 26))])] [((.a 16), (.prop 19)), ((.a 24), (.prop 27))] [.c] (.w (.a (.bool (.v 31)))) [((.a 16), (.prop 19)), ((.a 24), (.prop 27))]
  (.ret (.w (.a (.bool (.v 31)))) [((.b (.v 0)), (.prop 21)), ((.b (.v 2)), (.prop 29)), ((.a 8), (.prop 11))]))
  (.ret (.w (.a (.bool (.c false)))) [((.b (.v 0)), (.prop 21)), ((.b (.v 2)), (.prop 29)), ((.a 8), (.prop 11))]))))))
 (.br (.o2 .eq (.v 4) (.i 1))
  (.call 19 [(.a (.ptr (.v 0) 0)), (.a (.int .i64 (.v 5))), (.a (.int .i64 (.v 6)))] [((.b (.v 0)), (.prop 1))] [.i, .a, .n, .n, .p, .i] (.tup [(.agg [(.int .i64 (.v 15)), (.sl (.v 16) (.v 17) (.v 18))]), (.a (.int .i64 (.v 20)))]) [((.a 16), (.prop 19)), ((.b (.v 0)), (.prop 1))]
  (.new
  (.call 62 [(.a (.ptr (.v 2) 0)), (.a (.int .i64 (.v 5))), (.a (.int .i64 (.v 6)))] [((.b (.v 2)), (.prop 3))] [.i, .a, .n, .n, .p, .i] (.tup [(.agg [(.int .i64 (.v 22)), (.sl (.v 23) (.v 24) (.v 25))]), (.a (.int .i64 (.v 27)))]) [((.a 23), (.prop 26)), ((.b (.v 2)), (.prop 3))]
  (.new
  (.br (.o2 .eq (.v 20) (.v 27))
   (.call 21 [(.agg [(.int .i64 (.v 15)), (.sl (.v 16) (.v 17) (.v 18))]), (.agg [(.int .i64 (.v 22)), (.sl (.v 23) (.v 24) (.v 25))])] [((.a 16), (.prop 19)), ((.a 23), (.prop 26))] [.c] (.w (.a (.bool (.v 29)))) [((.a 16), (.prop 19)), ((.a 23), (.prop 26))]
   (.ret (.w (.a (.bool (.v 29)))) [((.b (.v 0)), (.prop 1)), ((.b (.v 2)), (.prop 3)), ((.a 8), (.prop 11))]))
   (.ret (.w (.a (.bool (.c false)))) [((.b (.v 0)), (.prop 1)), ((.b (.v 2)), (.prop 3)), ((.a 8), (.prop 11))]))))))
  (.br (.o2 .eq (.v 4) (.i 2))
   (.call 63 [(.a (.ptr (.v 0) 0)), (.a (.int .i64 (.v 5))), (.a (.int .i64 (.v 6)))] [((.b (.v 0)), (.prop 1))] [.i, .p] (.w (.a (.int .i64 (.v 15)))) [((.b (.v 0)), (.prop 16))]
   (.call 64 [(.a (.ptr (.v 2) 0)), (.a (.int .i64 (.v 5))), (.a (.int .i64 (.v 6)))] [((.b (.v 2)), (.prop 3))] [.i, .p] (.w (.a (.int .i64 (.v 17)))) [((.b (.v 2)), (.prop 18))]
   (.ret (.w (.a (.bool (.o2 .eq (.v 15) (.v 17))))) [((.b (.v 0)), (.prop 16)), ((.b (.v 2)), (.prop 18)), ((.a 8), (.prop 11))])))
   (.br (.o2 .eq (.v 4) (.i 3))
    (.call 65 [(.a (.ptr (.v 0) 0)), (.a (.int .i64 (.v 5)))] [((.b (.v 0)), (.prop 1))] [.i, .p] (.w (.a (.int .i64 (.v 15)))) [((.b (.v 0)), (.prop 16))]
    (.call 66 [(.a (.ptr (.v 2) 0)), (.a (.int .i64 (.v 5)))] [((.b (.v 2)), (.prop 3))] [.i, .p] (.w (.a (.int .i64 (.v 17)))) [((.b (.v 2)), (.prop 18))]
    (.ret (.w (.a (.bool (.o2 .eq (.v 15) (.v 17))))) [((.b (.v 0)), (.prop 16)), ((.b (.v 2)), (.prop 18)), ((.a 8), (.prop 11))])))
    (.br (.o2 .eq (.v 4) (.i 4))
     (.call 26 [(.a (.ptr (.v 0) 0)), (.a (.int .i64 (.v 6))), (.agg [(.int .i64 (.v 12)), (.int .i64 (.v 13))])] [((.b (.v 0)), (.prop 1))] [.i, .i, .a, .n, .n, .p, .i, .p] (.tup [(.agg [(.int .i64 (.v 15)), (.int .i64 (.v 16))]), (.a (.sl (.v 17) (.v 18) (.v 19))), (.a (.int .i64 (.v 21)))]) [((.a 17), (.prop 20)), ((.b (.v 0)), (.prop 22))]
     (.new
     (.call 67 [(.a (.ptr (.v 2) 0)), (.a (.int .i64 (.v 6))), (.agg [(.int .i64 (.v 12)), (.int .i64 (.v 13))])] [((.b (.v 2)), (.prop 3))] [.i, .i, .a, .n, .n, .p, .i, .p] (.tup [(.agg [(.int .i64 (.v 24)), (.int .i64 (.v 25))]), (.a (.sl (.v 26) (.v 27) (.v 28))), (.a (.int .i64 (.v 30)))]) [((.a 26), (.prop 29)), ((.b (.v 2)), (.prop 31))]
     (.new
     (.br (.o2 .eq (.v 21) (.v 30))
      (.read (.binOp .eql 34 (.tmp 135) (.tmp 136) 34) 4 [(135, (.w (.agg [(.int .i64 (.v 15)), (.int .i64 (.v 16))]))), (136, (.w (.agg [(.int .i64 (.v 24)), (.int .i64 (.v 25))])))] [] [.c] (.w (.a (.bool (.v 33))))
      (.br (.v 33)
       (.call 68 [(.a (.sl (.v 17) (.v 18) (.v 19))), (.a (.sl (.v 26) (.v 27) (.v 28)))] [((.a 17), (.prop 20)), ((.a 26), (.prop 29))] [.c] (.w (.a (.bool (.v 34)))) [((.a 17), (.prop 20)), ((.a 26), (.prop 29))]
       (.ret (.w (.a (.bool (.v 34)))) [((.b (.v 0)), (.prop 22)), ((.b (.v 2)), (.prop 31)), ((.a 8), (.prop 11))]))
       (.ret (.w (.a (.bool (.c false)))) [((.b (.v 0)), (.prop 22)), ((.b (.v 2)), (.prop 31)), ((.a 8), (.prop 11))])))
      (.ret (.w (.a (.bool (.c false)))) [((.b (.v 0)), (.prop 22)), ((.b (.v 2)), (.prop 31)), ((.a 8), (.prop 11))]))))))
     (.call 29 [(.a (.ptr (.v 0) 0)), (.a (.int .i64 (.v 6))), (.agg [(.int .i64 (.v 12)), (.int .i64 (.v 13))]), (.a (.sl (.v 8) (.v 9) (.v 10)))] [((.b (.v 0)), (.prop 1)), ((.a 8), (.prop 11))] [.i, .p] (.w (.a (.int .i64 (.v 15)))) [((.b (.v 0)), (.prop 16)), ((.a 8), (.prop 11))]
     (.call 69 [(.a (.ptr (.v 2) 0)), (.a (.int .i64 (.v 6))), (.agg [(.int .i64 (.v 12)), (.int .i64 (.v 13))]), (.a (.sl (.v 8) (.v 9) (.v 10)))] [((.b (.v 2)), (.prop 3)), ((.a 8), (.prop 11))] [.i, .p] (.w (.a (.int .i64 (.v 17)))) [((.b (.v 2)), (.prop 18)), ((.a 8), (.prop 11))]
     (.ret (.w (.a (.bool (.o2 .eq (.v 15) (.v 17))))) [((.b (.v 0)), (.prop 16)), ((.b (.v 2)), (.prop 18)), ((.a 8), (.prop 11))])))))))))
theorem tree_call09 : tree Try.prog { absT := [], opq := [], hv := [], keep := [87, 37, 39, 41, 109, 107, 62, 112, 111, 110, 133, 113, 19, 20, 38, 40, 21, 68, 14, 34], link := [(17, 0)], ent := [], turn := [(18, [100, 1]), (57, [100]), (29, [100]), (61, [0]), (69, [0]), (16, [0])], shr := [], vt := [], mkd := [], rlink := [(15, 1, 0)], pty := [], outl := true, stay := [], snk := [] } Try.f18 [(.a (.ptr (.v 0) 0)), (.a (.ptr (.v 2) 0)), (.agg [(.int .i64 (.v 4)), (.int .i64 (.v 5)), (.int .i64 (.v 6)), (.int .i64 (.v 7)), (.sl (.v 8) (.v 9) (.v 10)), (.int .i64 (.v 12)), (.int .i64 (.v 13))])] [((.b (.v 0)), (.prop 1)), ((.b (.v 2)), (.prop 3)), ((.a 8), (.prop 11))] 14 = t_call09 := by kernel_rfl
-- tideline/tidelinelaw09.UnitOnce: ρ := [.a callsa, .n callsl, .n callsc, .p callsP, .i at]
def t_unitOnce : T :=
(.call 13 [] [] [.c] (.w (.a (.bool (.v 5)))) []
(.br (.o1 .not (.v 5))
 (.ret (.w (.a (.bool (.c false)))) [((.a 0), (.prop 3))])
 (.call 14 [(.a (.sl (.v 0) (.v 1) (.v 2)))] [((.a 0), (.prop 3))] [.c] (.w (.a (.bool (.v 6)))) [((.a 0), (.prop 3))]
 (.br (.v 6)
  (.ret (.w (.a (.bool (.c true)))) [((.a 0), (.prop 3))])
  (.call 15 [(.a (.int .i64 (.i 100)))] [] [.n, .p, .n, .p] (.tup [(.a (.ptr (.v 7) 0)), (.a (.ptr (.v 9) 0))]) [((.b (.v 7)), (.prop 8)), ((.b (.v 9)), (.prop 10))]
  (.loop [.c, .n, .v, .p, .i, .p, .p] [(.e (.o1 .not (.o1 .not (.c false)))), (.n (.v 9)), (.v .nilp), (.p []), (.e (.o1 .neg (.o1 .neg (.i 0)))), (.p [((.b (.v 7)), (.prop 8))]), (.p [((.b (.v 9)), (.prop 10))])]
   (.br (.o2 .lt (.v 15) (.o1 .ofNat (.v 1)))
    (.need (.o2 .le (.i 0) (.v 15))
    (.need (.o1 .isSome (.v 0))
    (.read (.load 36 (.tmp 28)) 36 [(28, (.w (.a (.eptr 0 (.v 15) 7 0))))] [((.a 0), (.prop 3))] [.i, .i, .i, .i, .a, .n, .n, .i, .i] (.w (.agg [(.int .i64 (.v 18)), (.int .i64 (.v 19)), (.int .i64 (.v 20)), (.int .i64 (.v 21)), (.sl (.v 22) (.v 23) (.v 24)), (.int .i64 (.v 25)), (.int .i64 (.v 26))]))
    (.new
    (.br (.o2 .lt (.v 18) (.i 0))
     (.call 16 [(.a (.ptr (.v 7) 0)), (.a (.sl (.v 22) (.v 23) (.v 24)))] [((.b (.v 7)), (.prop 16)), ((.a 0), (.prop 3))] [.p] (.tup []) [((.b (.v 7)), (.prop 28)), ((.a 0), (.prop 3))]
     (.call 17 [(.a (.ptr (.v 7) 0))] [((.b (.v 7)), (.prop 28))] [.n, .p, .i, .p] (.tup [(.a (.ptr (.v 29) 0)), (.a (.int .i64 (.v 31)))]) [((.b (.v 29)), (.prop 30)), ((.b (.v 7)), (.prop 32))]
     (.br (.o1 .not (.o2 .eq (.v 31) (.i 0)))
      (.ret (.w (.a (.bool (.c false)))) [((.a 0), (.prop 3))])
      (.call 20 [(.a (.ptr (.v 29) 0))] [((.b (.v 29)), (.prop 30)), ((.b (.v 7)), (.prop 32))] [.i] (.w (.a (.int .i64 (.v 33)))) [((.b (.v 29)), (.prop 30)), ((.b (.v 7)), (.prop 32))]
      (.call 19 [(.a (.ptr (.v 29) 0)), (.a (.int .i64 (.v 33))), (.a (.int .i64 (.v 4)))] [((.b (.v 29)), (.prop 30)), ((.b (.v 7)), (.prop 32))] [.i, .a, .n, .n, .p, .i] (.tup [(.agg [(.int .i64 (.v 34)), (.sl (.v 35) (.v 36) (.v 37))]), (.a (.int .i64 (.v 39)))]) [((.a 35), (.prop 38)), ((.b (.v 29)), (.prop 30)), ((.b (.v 7)), (.prop 32))]
      (.new
      (.read (.binOp .neq 29 (.tmp 68) (.const (.pointer none)) 29) 4 [(68, (.w (.a (.val 13))))] [((.a 13), (.prop 14))] [.c] (.w (.a (.bool (.v 41))))
      (.br (.v 41)
       (.br (.o1 .not (.o2 .eq (.v 39) (.i 11)))
        (.br (.o1 .not (.o2 .eq (.v 39) (.i 0)))
         (.ret (.w (.a (.bool (.c false)))) [((.a 0), (.prop 3))])
         (.read (.nilCheck (.tmp 79)) 0 [(79, (.w (.a (.val 13))))] [((.a 13), (.prop 14))] [] (.w (.a (.val 13)))
         (.read (.load 32 (.tmp 80)) 32 [(80, (.w (.a (.val 13))))] [((.a 13), (.prop 14))] [.i, .a, .n, .n] (.w (.agg [(.int .i64 (.v 42)), (.sl (.v 43) (.v 44) (.v 45))]))
         (.call 21 [(.agg [(.int .i64 (.v 34)), (.sl (.v 35) (.v 36) (.v 37))]), (.agg [(.int .i64 (.v 42)), (.sl (.v 43) (.v 44) (.v 45))])] [((.a 35), (.prop 38)), ((.a 13), (.prop 14))] [.c] (.w (.a (.bool (.v 46)))) [((.a 35), (.prop 38)), ((.a 13), (.prop 14))]
         (.br (.o1 .not (.v 46))
          (.ret (.w (.a (.bool (.c false)))) [((.a 0), (.prop 3))])
          (.read (.binOp .eql 29 (.tmp 89) (.const (.pointer none)) 29) 4 [(89, (.w (.a (.val 13))))] [((.a 13), (.prop 14))] [.c] (.w (.a (.bool (.v 47))))
          (.br (.v 47)
           (.need (.o1 (.inr .i64) (.o2 .add (.v 15) (.i 1)))
           (.again 0 [(.e (.o1 .not (.o1 .not (.v 11)))), (.n (.v 29)), (.v (.ptr (.v 40) 0)), (.p [((.b (.v 40)), (.cells [(.int .i64 (.v 34)), (.sl (.v 35) (.v 36) (.v 37))] 32)), ((.a 35), (.prop 38))]), (.e (.o1 .neg (.o1 .neg (.o2 .add (.v 15) (.i 1))))), (.p [((.b (.v 7)), (.prop 32))]), (.p [((.b (.v 29)), (.prop 30))])]))
           (.need (.o1 (.inr .i64) (.o2 .add (.v 15) (.i 1)))
           (.again 0 [(.e (.o1 .not (.o1 .not (.v 11)))), (.n (.v 29)), (.v (.val 13)), (.p [((.a 13), (.prop 14))]), (.e (.o1 .neg (.o1 .neg (.o2 .add (.v 15) (.i 1))))), (.p [((.b (.v 7)), (.prop 32))]), (.p [((.b (.v 29)), (.prop 30))])])))))))))
        (.br (.o2 .eq (.v 39) (.i 0))
         (.read (.binOp .eql 29 (.tmp 89) (.const (.pointer none)) 29) 4 [(89, (.w (.a (.val 13))))] [((.a 13), (.prop 14))] [.c] (.w (.a (.bool (.v 42))))
         (.br (.v 42)
          (.need (.o1 (.inr .i64) (.o2 .add (.v 15) (.i 1)))
          (.again 0 [(.e (.o1 .not (.o1 .not (.v 11)))), (.n (.v 29)), (.v (.ptr (.v 40) 0)), (.p [((.b (.v 40)), (.cells [(.int .i64 (.v 34)), (.sl (.v 35) (.v 36) (.v 37))] 32)), ((.a 35), (.prop 38))]), (.e (.o1 .neg (.o1 .neg (.o2 .add (.v 15) (.i 1))))), (.p [((.b (.v 7)), (.prop 32))]), (.p [((.b (.v 29)), (.prop 30))])]))
          (.need (.o1 (.inr .i64) (.o2 .add (.v 15) (.i 1)))
          (.again 0 [(.e (.o1 .not (.o1 .not (.v 11)))), (.n (.v 29)), (.v (.val 13)), (.p [((.a 13), (.prop 14))]), (.e (.o1 .neg (.o1 .neg (.o2 .add (.v 15) (.i 1))))), (.p [((.b (.v 7)), (.prop 32))]), (.p [((.b (.v 29)), (.prop 30))])]))))
         (.need (.o1 (.inr .i64) (.o2 .add (.v 15) (.i 1)))
         (.again 0 [(.e (.o1 .not (.o1 .not (.v 11)))), (.n (.v 29)), (.v (.val 13)), (.p [((.a 13), (.prop 14))]), (.e (.o1 .neg (.o1 .neg (.o2 .add (.v 15) (.i 1))))), (.p [((.b (.v 7)), (.prop 32))]), (.p [((.b (.v 29)), (.prop 30))])]))))
       (.br (.o2 .eq (.v 39) (.i 0))
        (.read (.binOp .eql 29 (.tmp 89) (.const (.pointer none)) 29) 4 [(89, (.w (.a (.val 13))))] [((.a 13), (.prop 14))] [.c] (.w (.a (.bool (.v 42))))
        (.br (.v 42)
         (.need (.o1 (.inr .i64) (.o2 .add (.v 15) (.i 1)))
         (.again 0 [(.e (.o1 .not (.o1 .not (.v 11)))), (.n (.v 29)), (.v (.ptr (.v 40) 0)), (.p [((.b (.v 40)), (.cells [(.int .i64 (.v 34)), (.sl (.v 35) (.v 36) (.v 37))] 32)), ((.a 35), (.prop 38))]), (.e (.o1 .neg (.o1 .neg (.o2 .add (.v 15) (.i 1))))), (.p [((.b (.v 7)), (.prop 32))]), (.p [((.b (.v 29)), (.prop 30))])]))
         (.need (.o1 (.inr .i64) (.o2 .add (.v 15) (.i 1)))
         (.again 0 [(.e (.o1 .not (.o1 .not (.v 11)))), (.n (.v 29)), (.v (.val 13)), (.p [((.a 13), (.prop 14))]), (.e (.o1 .neg (.o1 .neg (.o2 .add (.v 15) (.i 1))))), (.p [((.b (.v 7)), (.prop 32))]), (.p [((.b (.v 29)), (.prop 30))])]))))
        (.need (.o1 (.inr .i64) (.o2 .add (.v 15) (.i 1)))
        (.again 0 [(.e (.o1 .not (.o1 .not (.v 11)))), (.n (.v 29)), (.v (.val 13)), (.p [((.a 13), (.prop 14))]), (.e (.o1 .neg (.o1 .neg (.o2 .add (.v 15) (.i 1))))), (.p [((.b (.v 7)), (.prop 32))]), (.p [((.b (.v 29)), (.prop 30))])])))))))))))
     (.br (.o2 .lt (.i 5) (.v 18))
      (.call 16 [(.a (.ptr (.v 7) 0)), (.a (.sl (.v 22) (.v 23) (.v 24)))] [((.b (.v 7)), (.prop 16)), ((.a 0), (.prop 3))] [.p] (.tup []) [((.b (.v 7)), (.prop 28)), ((.a 0), (.prop 3))]
      (.call 17 [(.a (.ptr (.v 7) 0))] [((.b (.v 7)), (.prop 28))] [.n, .p, .i, .p] (.tup [(.a (.ptr (.v 29) 0)), (.a (.int .i64 (.v 31)))]) [((.b (.v 29)), (.prop 30)), ((.b (.v 7)), (.prop 32))]
      (.br (.o1 .not (.o2 .eq (.v 31) (.i 0)))
       (.ret (.w (.a (.bool (.c false)))) [((.a 0), (.prop 3))])
       (.call 20 [(.a (.ptr (.v 29) 0))] [((.b (.v 29)), (.prop 30)), ((.b (.v 7)), (.prop 32))] [.i] (.w (.a (.int .i64 (.v 33)))) [((.b (.v 29)), (.prop 30)), ((.b (.v 7)), (.prop 32))]
       (.call 19 [(.a (.ptr (.v 29) 0)), (.a (.int .i64 (.v 33))), (.a (.int .i64 (.v 4)))] [((.b (.v 29)), (.prop 30)), ((.b (.v 7)), (.prop 32))] [.i, .a, .n, .n, .p, .i] (.tup [(.agg [(.int .i64 (.v 34)), (.sl (.v 35) (.v 36) (.v 37))]), (.a (.int .i64 (.v 39)))]) [((.a 35), (.prop 38)), ((.b (.v 29)), (.prop 30)), ((.b (.v 7)), (.prop 32))]
       (.new
       (.read (.binOp .neq 29 (.tmp 68) (.const (.pointer none)) 29) 4 [(68, (.w (.a (.val 13))))] [((.a 13), (.prop 14))] [.c] (.w (.a (.bool (.v 41))))
       (.br (.v 41)
        (.br (.o1 .not (.o2 .eq (.v 39) (.i 11)))
         (.br (.o1 .not (.o2 .eq (.v 39) (.i 0)))
          (.ret (.w (.a (.bool (.c false)))) [((.a 0), (.prop 3))])
          (.read (.nilCheck (.tmp 79)) 0 [(79, (.w (.a (.val 13))))] [((.a 13), (.prop 14))] [] (.w (.a (.val 13)))
          (.read (.load 32 (.tmp 80)) 32 [(80, (.w (.a (.val 13))))] [((.a 13), (.prop 14))] [.i, .a, .n, .n] (.w (.agg [(.int .i64 (.v 42)), (.sl (.v 43) (.v 44) (.v 45))]))
          (.call 21 [(.agg [(.int .i64 (.v 34)), (.sl (.v 35) (.v 36) (.v 37))]), (.agg [(.int .i64 (.v 42)), (.sl (.v 43) (.v 44) (.v 45))])] [((.a 35), (.prop 38)), ((.a 13), (.prop 14))] [.c] (.w (.a (.bool (.v 46)))) [((.a 35), (.prop 38)), ((.a 13), (.prop 14))]
          (.br (.o1 .not (.v 46))
           (.ret (.w (.a (.bool (.c false)))) [((.a 0), (.prop 3))])
           (.read (.binOp .eql 29 (.tmp 89) (.const (.pointer none)) 29) 4 [(89, (.w (.a (.val 13))))] [((.a 13), (.prop 14))] [.c] (.w (.a (.bool (.v 47))))
           (.br (.v 47)
            (.need (.o1 (.inr .i64) (.o2 .add (.v 15) (.i 1)))
            (.again 0 [(.e (.o1 .not (.o1 .not (.v 11)))), (.n (.v 29)), (.v (.ptr (.v 40) 0)), (.p [((.b (.v 40)), (.cells [(.int .i64 (.v 34)), (.sl (.v 35) (.v 36) (.v 37))] 32)), ((.a 35), (.prop 38))]), (.e (.o1 .neg (.o1 .neg (.o2 .add (.v 15) (.i 1))))), (.p [((.b (.v 7)), (.prop 32))]), (.p [((.b (.v 29)), (.prop 30))])]))
            (.need (.o1 (.inr .i64) (.o2 .add (.v 15) (.i 1)))
            (.again 0 [(.e (.o1 .not (.o1 .not (.v 11)))), (.n (.v 29)), (.v (.val 13)), (.p [((.a 13), (.prop 14))]), (.e (.o1 .neg (.o1 .neg (.o2 .add (.v 15) (.i 1))))), (.p [((.b (.v 7)), (.prop 32))]), (.p [((.b (.v 29)), (.prop 30))])])))))))))
         (.br (.o2 .eq (.v 39) (.i 0))
          (.read (.binOp .eql 29 (.tmp 89) (.const (.pointer none)) 29) 4 [(89, (.w (.a (.val 13))))] [((.a 13), (.prop 14))] [.c] (.w (.a (.bool (.v 42))))
          (.br (.v 42)
           (.need (.o1 (.inr .i64) (.o2 .add (.v 15) (.i 1)))
           (.again 0 [(.e (.o1 .not (.o1 .not (.v 11)))), (.n (.v 29)), (.v (.ptr (.v 40) 0)), (.p [((.b (.v 40)), (.cells [(.int .i64 (.v 34)), (.sl (.v 35) (.v 36) (.v 37))] 32)), ((.a 35), (.prop 38))]), (.e (.o1 .neg (.o1 .neg (.o2 .add (.v 15) (.i 1))))), (.p [((.b (.v 7)), (.prop 32))]), (.p [((.b (.v 29)), (.prop 30))])]))
           (.need (.o1 (.inr .i64) (.o2 .add (.v 15) (.i 1)))
           (.again 0 [(.e (.o1 .not (.o1 .not (.v 11)))), (.n (.v 29)), (.v (.val 13)), (.p [((.a 13), (.prop 14))]), (.e (.o1 .neg (.o1 .neg (.o2 .add (.v 15) (.i 1))))), (.p [((.b (.v 7)), (.prop 32))]), (.p [((.b (.v 29)), (.prop 30))])]))))
          (.need (.o1 (.inr .i64) (.o2 .add (.v 15) (.i 1)))
          (.again 0 [(.e (.o1 .not (.o1 .not (.v 11)))), (.n (.v 29)), (.v (.val 13)), (.p [((.a 13), (.prop 14))]), (.e (.o1 .neg (.o1 .neg (.o2 .add (.v 15) (.i 1))))), (.p [((.b (.v 7)), (.prop 32))]), (.p [((.b (.v 29)), (.prop 30))])]))))
        (.br (.o2 .eq (.v 39) (.i 0))
         (.read (.binOp .eql 29 (.tmp 89) (.const (.pointer none)) 29) 4 [(89, (.w (.a (.val 13))))] [((.a 13), (.prop 14))] [.c] (.w (.a (.bool (.v 42))))
         (.br (.v 42)
          (.need (.o1 (.inr .i64) (.o2 .add (.v 15) (.i 1)))
          (.again 0 [(.e (.o1 .not (.o1 .not (.v 11)))), (.n (.v 29)), (.v (.ptr (.v 40) 0)), (.p [((.b (.v 40)), (.cells [(.int .i64 (.v 34)), (.sl (.v 35) (.v 36) (.v 37))] 32)), ((.a 35), (.prop 38))]), (.e (.o1 .neg (.o1 .neg (.o2 .add (.v 15) (.i 1))))), (.p [((.b (.v 7)), (.prop 32))]), (.p [((.b (.v 29)), (.prop 30))])]))
          (.need (.o1 (.inr .i64) (.o2 .add (.v 15) (.i 1)))
          (.again 0 [(.e (.o1 .not (.o1 .not (.v 11)))), (.n (.v 29)), (.v (.val 13)), (.p [((.a 13), (.prop 14))]), (.e (.o1 .neg (.o1 .neg (.o2 .add (.v 15) (.i 1))))), (.p [((.b (.v 7)), (.prop 32))]), (.p [((.b (.v 29)), (.prop 30))])]))))
         (.need (.o1 (.inr .i64) (.o2 .add (.v 15) (.i 1)))
         (.again 0 [(.e (.o1 .not (.o1 .not (.v 11)))), (.n (.v 29)), (.v (.val 13)), (.p [((.a 13), (.prop 14))]), (.e (.o1 .neg (.o1 .neg (.o2 .add (.v 15) (.i 1))))), (.p [((.b (.v 7)), (.prop 32))]), (.p [((.b (.v 29)), (.prop 30))])])))))))))))
      (.new
      (.call 18 [(.a (.ptr (.v 12) 0)), (.a (.ptr (.v 28) 0)), (.agg [(.int .i64 (.v 18)), (.int .i64 (.v 19)), (.int .i64 (.v 20)), (.int .i64 (.v 21)), (.sl (.v 22) (.v 23) (.v 24)), (.int .i64 (.v 25)), (.int .i64 (.v 26))])] [((.b (.v 12)), (.prop 17)), ((.b (.v 7)), (.prop 16)), ((.b (.v 28)), (.cells [(.sl .nil (.n 0) (.n 0)), (.int .i64 (.i 100))] 45)), ((.a 0), (.prop 3))] [.c, .p, .p, .a, .n, .n, .p, .i] (.w (.a (.bool (.v 29)))) [((.b (.v 12)), (.prop 30)), ((.b (.v 7)), (.prop 31)), ((.b (.v 28)), (.cells [(.sl (.v 32) (.v 33) (.v 34)), (.int .i64 (.v 36))] 45)), ((.a 32), (.prop 35)), ((.a 0), (.prop 3))]
      (.call 20 [(.a (.ptr (.v 12) 0))] [((.b (.v 12)), (.prop 30)), ((.b (.v 7)), (.prop 31))] [.i] (.w (.a (.int .i64 (.v 37)))) [((.b (.v 12)), (.prop 30)), ((.b (.v 7)), (.prop 31))]
      (.call 19 [(.a (.ptr (.v 12) 0)), (.a (.int .i64 (.v 37))), (.a (.int .i64 (.v 4)))] [((.b (.v 12)), (.prop 30)), ((.b (.v 7)), (.prop 31))] [.i, .a, .n, .n, .p, .i] (.tup [(.agg [(.int .i64 (.v 38)), (.sl (.v 39) (.v 40) (.v 41))]), (.a (.int .i64 (.v 43)))]) [((.a 39), (.prop 42)), ((.b (.v 12)), (.prop 30)), ((.b (.v 7)), (.prop 31))]
      (.new
      (.read (.binOp .neq 29 (.tmp 68) (.const (.pointer none)) 29) 4 [(68, (.w (.a (.val 13))))] [((.a 13), (.prop 14))] [.c] (.w (.a (.bool (.v 45))))
      (.br (.v 45)
       (.br (.o1 .not (.o2 .eq (.v 43) (.i 11)))
        (.br (.o1 .not (.o2 .eq (.v 43) (.i 0)))
         (.ret (.w (.a (.bool (.c false)))) [((.a 0), (.prop 3))])
         (.read (.nilCheck (.tmp 79)) 0 [(79, (.w (.a (.val 13))))] [((.a 13), (.prop 14))] [] (.w (.a (.val 13)))
         (.read (.load 32 (.tmp 80)) 32 [(80, (.w (.a (.val 13))))] [((.a 13), (.prop 14))] [.i, .a, .n, .n] (.w (.agg [(.int .i64 (.v 46)), (.sl (.v 47) (.v 48) (.v 49))]))
         (.call 21 [(.agg [(.int .i64 (.v 38)), (.sl (.v 39) (.v 40) (.v 41))]), (.agg [(.int .i64 (.v 46)), (.sl (.v 47) (.v 48) (.v 49))])] [((.a 39), (.prop 42)), ((.a 13), (.prop 14))] [.c] (.w (.a (.bool (.v 50)))) [((.a 39), (.prop 42)), ((.a 13), (.prop 14))]
         (.br (.o1 .not (.v 50))
          (.ret (.w (.a (.bool (.c false)))) [((.a 0), (.prop 3))])
          (.read (.binOp .eql 29 (.tmp 89) (.const (.pointer none)) 29) 4 [(89, (.w (.a (.val 13))))] [((.a 13), (.prop 14))] [.c] (.w (.a (.bool (.v 51))))
          (.br (.v 51)
           (.need (.o1 (.inr .i64) (.o2 .add (.v 15) (.i 1)))
           (.again 0 [(.e (.o1 .not (.o1 .not (.v 11)))), (.n (.v 12)), (.v (.ptr (.v 44) 0)), (.p [((.b (.v 44)), (.cells [(.int .i64 (.v 38)), (.sl (.v 39) (.v 40) (.v 41))] 32)), ((.a 39), (.prop 42))]), (.e (.o1 .neg (.o1 .neg (.o2 .add (.v 15) (.i 1))))), (.p [((.b (.v 7)), (.prop 31))]), (.p [((.b (.v 12)), (.prop 30))])]))
           (.need (.o1 (.inr .i64) (.o2 .add (.v 15) (.i 1)))
           (.again 0 [(.e (.o1 .not (.o1 .not (.v 11)))), (.n (.v 12)), (.v (.val 13)), (.p [((.a 13), (.prop 14))]), (.e (.o1 .neg (.o1 .neg (.o2 .add (.v 15) (.i 1))))), (.p [((.b (.v 7)), (.prop 31))]), (.p [((.b (.v 12)), (.prop 30))])])))))))))
        (.br (.o2 .eq (.v 43) (.i 0))
         (.read (.binOp .eql 29 (.tmp 89) (.const (.pointer none)) 29) 4 [(89, (.w (.a (.val 13))))] [((.a 13), (.prop 14))] [.c] (.w (.a (.bool (.v 46))))
         (.br (.v 46)
          (.need (.o1 (.inr .i64) (.o2 .add (.v 15) (.i 1)))
          (.again 0 [(.e (.o1 .not (.o1 .not (.v 11)))), (.n (.v 12)), (.v (.ptr (.v 44) 0)), (.p [((.b (.v 44)), (.cells [(.int .i64 (.v 38)), (.sl (.v 39) (.v 40) (.v 41))] 32)), ((.a 39), (.prop 42))]), (.e (.o1 .neg (.o1 .neg (.o2 .add (.v 15) (.i 1))))), (.p [((.b (.v 7)), (.prop 31))]), (.p [((.b (.v 12)), (.prop 30))])]))
          (.need (.o1 (.inr .i64) (.o2 .add (.v 15) (.i 1)))
          (.again 0 [(.e (.o1 .not (.o1 .not (.v 11)))), (.n (.v 12)), (.v (.val 13)), (.p [((.a 13), (.prop 14))]), (.e (.o1 .neg (.o1 .neg (.o2 .add (.v 15) (.i 1))))), (.p [((.b (.v 7)), (.prop 31))]), (.p [((.b (.v 12)), (.prop 30))])]))))
         (.need (.o1 (.inr .i64) (.o2 .add (.v 15) (.i 1)))
         (.again 0 [(.e (.o1 .not (.o1 .not (.v 11)))), (.n (.v 12)), (.v (.val 13)), (.p [((.a 13), (.prop 14))]), (.e (.o1 .neg (.o1 .neg (.o2 .add (.v 15) (.i 1))))), (.p [((.b (.v 7)), (.prop 31))]), (.p [((.b (.v 12)), (.prop 30))])]))))
       (.br (.o2 .eq (.v 43) (.i 0))
        (.read (.binOp .eql 29 (.tmp 89) (.const (.pointer none)) 29) 4 [(89, (.w (.a (.val 13))))] [((.a 13), (.prop 14))] [.c] (.w (.a (.bool (.v 46))))
        (.br (.v 46)
         (.need (.o1 (.inr .i64) (.o2 .add (.v 15) (.i 1)))
         (.again 0 [(.e (.o1 .not (.o1 .not (.v 11)))), (.n (.v 12)), (.v (.ptr (.v 44) 0)), (.p [((.b (.v 44)), (.cells [(.int .i64 (.v 38)), (.sl (.v 39) (.v 40) (.v 41))] 32)), ((.a 39), (.prop 42))]), (.e (.o1 .neg (.o1 .neg (.o2 .add (.v 15) (.i 1))))), (.p [((.b (.v 7)), (.prop 31))]), (.p [((.b (.v 12)), (.prop 30))])]))
         (.need (.o1 (.inr .i64) (.o2 .add (.v 15) (.i 1)))
         (.again 0 [(.e (.o1 .not (.o1 .not (.v 11)))), (.n (.v 12)), (.v (.val 13)), (.p [((.a 13), (.prop 14))]), (.e (.o1 .neg (.o1 .neg (.o2 .add (.v 15) (.i 1))))), (.p [((.b (.v 7)), (.prop 31))]), (.p [((.b (.v 12)), (.prop 30))])]))))
        (.need (.o1 (.inr .i64) (.o2 .add (.v 15) (.i 1)))
        (.again 0 [(.e (.o1 .not (.o1 .not (.v 11)))), (.n (.v 12)), (.v (.val 13)), (.p [((.a 13), (.prop 14))]), (.e (.o1 .neg (.o1 .neg (.o2 .add (.v 15) (.i 1))))), (.p [((.b (.v 7)), (.prop 31))]), (.p [((.b (.v 12)), (.prop 30))])]))))))))))))))))
    (.ret (.w (.a (.bool (.c true)))) [((.a 0), (.prop 3))]))))))))
theorem tree_unitOnce : tree Try.prog { absT := [], opq := [29], hv := [(0, [(.b (.v 9)), (.b (.v 7))])], keep := [87, 37, 39, 41, 109, 107, 62, 112, 111, 110, 133, 113, 19, 20, 38, 40, 21, 68, 14, 34], link := [(17, 0)], ent := [], turn := [(18, [100, 1]), (57, [100]), (29, [100]), (61, [0]), (69, [0]), (16, [0])], shr := [], vt := [], mkd := [], rlink := [(15, 1, 0)], pty := [], outl := true, stay := [], snk := [] } Try.f3 [(.a (.sl (.v 0) (.v 1) (.v 2))), (.a (.int .i64 (.v 4)))] [((.a 0), (.prop 3))] 5 = t_unitOnce := by kernel_rfl
end Go.Proofs.Ytmibmjehjagmbaa.RX

/- Law 9: its helpers, as contracts. No condition. -/
namespace Go.Proofs.Ytmibmjehjagmbaa
set_option linter.unusedSimpArgs false
set_option linter.unusedVariables false
open Go.Proofs.Ytmibmjehjagmbaa RX
set_option maxRecDepth 100000

/-- A unit without its device. -/
def UH (ub bd : Nat) (s : USt) : HP := HP.ex fun mc => HP.ex fun mi => HP.sep (UOne ub bd mc mi s) (HP.sep (MapE CellV iE mc s.cells) (MapE InstV iE mi s.inst))
theorem UH.join {ub bd : Nat} {s : USt} {D : HP} {R h : PH} (H : (HP.sep (UH ub bd s) D).p R h) : (URep ub bd D s).p R h := by
  obtain ⟨h1, h2, d, l1, l2, ⟨mc, mi, H1⟩, H2⟩ := H
  have := HP.sep_assoc ⟨h1, h2, d, l1, l2, H1, H2⟩
  refine ⟨mc, mi, HP.pick [_, _, _, _] [0, 3, 1, 2] (by decide) rfl (HP.sep_mono this (fun _ h => h) fun _ hy => HP.sep_assoc hy)⟩
theorem UH.split {ub bd : Nat} {s : USt} {D : HP} {R h : PH} (H : (URep ub bd D s).p R h) : (HP.sep (UH ub bd s) D).p R h := by
  obtain ⟨mc, mi, H⟩ := H
  have H1 : (HP.sep (UOne ub bd mc mi s) (HP.sep (MapE CellV iE mc s.cells) (HP.sep (MapE InstV iE mi s.inst) D))).p R h := HP.pick [_, _, _, _] [0, 2, 3, 1] (by decide) rfl H
  have H2 := HP.sep_assoc' (HP.sep_mono H1 (fun _ h => h) fun _ hy => HP.sep_assoc' hy)
  exact HP.sep_mono H2 (fun y hy => ⟨mc, mi, hy⟩) fun _ h => h
theorem laid09_ok (n : Int) (h1 : 1 ≤ n) (h2 : n ≤ 1000) : Tri Try.prog 15 #[.int .i64 n] HP.tt
    (fun v => HP.ex fun bd => HP.ex fun ub => HP.and (v = .tuple #[.pointer (some ⟨bd, 0, none⟩), .pointer (some ⟨ub, 0, none⟩)]) (HP.sep (DRep bd n [] 0) (UH ub bd s0))) := by
  refine tri_of_tree (ρ := [.i n]) mixed Try.func15 tree_laid09 ?_
  unfold t_laid09
  simp only [T.den, E.prop, E.den, RX.look, F1.app, F2.app, Uni.int_i, Uni.nat_n, Uni.bool_c, Uni.str_s, Uni.adr_a, Uni.val_v, Uni.hp_p, hden, cden, V.den, W.den, A.den, BR.den, SA.den, FV.den, capV, exs, exP, allP, Cur.app, List.map_cons, List.map_nil, List.cons_append, List.nil_append, List.drop_succ_cons, List.drop_zero, List.length_cons, List.length_nil, Nat.zero_add, Nat.reduceAdd, Int.neg_neg, Bool.not_not, List.append_nil, Nat.add_zero, List.getElem?_cons_zero, List.getElem?_cons_succ, Decidable.not_not, semW_eq, semW_load, semW_store, semW_storeC, semW_append, semW_lookup, semW_lookupC, semW_update, semW_updateC, semW_updateK, semW_delete, semW_range, semW_next, semW_entry, semW_nil, ne_eq, Nat.reduceEqDiff, not_false_eq_true]
  refine (dNew_ok n (by omega) (by omega)).weak (fun _ _ h => h) ?_
  rintro v R h ⟨bd, rfl, H⟩
  refine ⟨bd, DRep bd n [] 0, 0, rfl, ⟨fun h => absurd rfl h, fun _ => ?_⟩, H⟩
  clear H
  refine (uOpen_ok bd n [] 0 s0 rfl).weak (fun _ _ h => h) ?_
  rintro v R h ⟨ub, rfl, H⟩
  rw [forg0] at H
  exact ⟨ub, UH ub bd s0, 0, DRep bd n [] 0, rfl, ⟨fun h => absurd rfl h, fun _ => .of fun R h H => ⟨bd, ub, rfl, H⟩⟩, UH.split H⟩
theorem speaks09_ok : Tri Try.prog 13 #[] HP.tt (fun v => HP.pure (v = .bool true)) := by
  refine tri_of_tree (ρ := []) mixed Try.func13 tree_speaks09 ?_
  unfold t_speaks09
  simp only [T.den, E.prop, E.den, RX.look, F1.app, F2.app, Uni.int_i, Uni.nat_n, Uni.bool_c, Uni.str_s, Uni.adr_a, Uni.val_v, Uni.hp_p, hden, cden, V.den, W.den, A.den, BR.den, SA.den, FV.den, capV, exs, exP, allP, Cur.app, List.map_cons, List.map_nil, List.cons_append, List.nil_append, List.drop_succ_cons, List.drop_zero, List.length_cons, List.length_nil, Nat.zero_add, Nat.reduceAdd, Int.neg_neg, Bool.not_not, List.append_nil, Nat.add_zero, List.getElem?_cons_zero, List.getElem?_cons_succ, Decidable.not_not, semW_eq, semW_load, semW_store, semW_storeC, semW_append, semW_lookup, semW_lookupC, semW_update, semW_updateC, semW_updateK, semW_delete, semW_range, semW_next, semW_entry, semW_nil, ne_eq, Nat.reduceEqDiff, not_false_eq_true]
  refine (laid09_ok 9 (by decide) (by decide)).weak (fun _ _ h => h) ?_
  rintro v R h ⟨bd, ub, rfl, H⟩
  refine ⟨bd, DRep bd 9 [] 0, ub, UH ub bd s0, rfl, ?_, H⟩
  clear H
  have e1 : writeS 9 s0 [] 0 3 ⟨2, []⟩ = (zC, 0, putS s0 3 ⟨2, []⟩, [pgW (cellL 3 ⟨2, []⟩)]) := by kernel_rfl
  refine (uWrite_ok ub bd 9 s0 [] 0 3 2 none 0 0 [] (RoB none 0 []) (RdL.ro _ _ _ _) rfl (fun h => absurd rfl h)).weak (fun R h H => RoC.joinR (RoB0 none : (RoB none 0 []).p R h) (UH.join H)) ?_
  rw [e1]
  dsimp only
  rintro v R h ⟨a, c, rfl, H⟩
  refine ⟨_, a, _, c, RoB a 0 [], _, UH ub bd (putS s0 3 ⟨2, []⟩), DRep bd 9 [pgW (cellL 3 ⟨2, []⟩)] 1, rfl, fun _ b => ?_, HP.sep_mono H (fun _ h => h) fun y hy => UH.split (HP.sep_left hy)⟩
  clear H
  have e2 : writeS 9 (putS s0 3 ⟨2, []⟩) [pgW (cellL 3 ⟨2, []⟩)] 0 3 ⟨1, [1]⟩ = (⟨2, []⟩, 10, putS s0 3 ⟨2, []⟩, [pgW (cellL 3 ⟨2, []⟩)]) := by kernel_rfl
  refine (uWrite_ok ub bd 9 (putS s0 3 ⟨2, []⟩) [pgW (cellL 3 ⟨2, []⟩)] 0 3 1 (some ⟨b, 0, none⟩) 1 1 [1] (HP.one b (.cells #[.int .u8 1] 5 (0, 0))) ⟨one_rd b #[.int .u8 1] _, fun _ _ _ e => by cases e⟩ rfl (fun _ => rfl)).weak (fun R h H => HP.sep_mono (HP.sep_assoc' H) (fun y hy => UH.join hy) fun _ h => h) ?_
  rw [e2]
  dsimp only
  rintro v R h ⟨a2, c2, rfl, H⟩
  refine ⟨_, a2, _, c2, RoB a2 0 [], _, UH ub bd (putS s0 3 ⟨2, []⟩), DRep bd 9 [pgW (cellL 3 ⟨2, []⟩)] 1, rfl, fun _ => ⟨fun _ => ⟨fun _ => ⟨fun _ => ?_, fun h => absurd rfl h⟩, fun h => absurd rfl h⟩, fun h => absurd rfl h⟩, HP.sep_mono H (fun _ h => h) fun y hy => HP.sep_assoc (HP.sep_mono hy (fun z hz => UH.split hz) fun _ h => h)⟩
  clear H
  refine (uTail_ok ub bd (DRep bd 9 [pgW (cellL 3 ⟨2, []⟩)] 1) (putS s0 3 ⟨2, []⟩)).weak (fun R h H => UH.join H) ?_
  rintro v R h ⟨rfl, H⟩
  exact ⟨_, rfl, .of fun R h H => (by show _ = _; rfl), UH.split H⟩
theorem great09_ok (a : Option Addr) (c : Nat) (l : List Call09) : Tri Try.prog 14 #[.slice a l.length c] (Ls kCall09 a l.length l) (fun v => HP.ex fun g => HP.and (v = .bool g ∧ (g = false → l.length ≤ 60 ∧ ∀ x ∈ l, x.cell_data.length ≤ 2000)) (Ls kCall09 a l.length l)) := by
  refine Tri.fact (φ := l.length ≠ 0 → a.isSome = true) (fun R h H hn => RoC.some H.2.1 (by omega)) fun ha => ?_
  refine tri_of_tree (ρ := [.a a, .n l.length, .n c, .p (Ls kCall09 a l.length l)]) mixed Try.func14 tree_great09 ?_
  unfold t_great09
  simp only [T.den, E.prop, E.den, RX.look, F1.app, F2.app, Uni.int_i, Uni.nat_n, Uni.bool_c, Uni.str_s, Uni.adr_a, Uni.val_v, Uni.hp_p, hden, cden, V.den, W.den, A.den, BR.den, SA.den, FV.den, capV, exs, exP, allP, Cur.app, List.map_cons, List.map_nil, List.cons_append, List.nil_append, List.drop_succ_cons, List.drop_zero, List.length_cons, List.length_nil, Nat.zero_add, Nat.reduceAdd, Int.neg_neg, Bool.not_not, List.append_nil, Nat.add_zero, List.getElem?_cons_zero, List.getElem?_cons_succ, Decidable.not_not, semW_eq, semW_load, semW_store, semW_storeC, semW_append, semW_lookup, semW_lookupC, semW_update, semW_updateC, semW_updateK, semW_delete, semW_range, semW_next, semW_entry, semW_nil, ne_eq, Nat.reduceEqDiff, not_false_eq_true]
  refine ⟨fun h => .of fun R h H => ⟨true, ⟨rfl, fun e => by cases e⟩, H⟩, fun h60 => ?_⟩
  refine ⟨fun _ i => ∃ k : Nat, i = k ∧ k ≤ l.length ∧ ∀ j x, j < k → l[j]? = some x → x.cell_data.length ≤ 2000, fun _ i => l.length - i.toNat, ⟨0, rfl, Nat.zero_le _, fun j x h => by omega⟩, ?_⟩
  rintro _ _ ⟨k, rfl, hk, hall⟩
  refine ⟨fun hlt => ⟨by omega, fun _ => ⟨ha (by omega), fun _ => ?_⟩⟩, fun hge => .of fun R h H => ⟨false, ⟨rfl, fun _ => ⟨by omega, fun x hx => ?_⟩⟩, H⟩⟩
  · have hkl : k < l.length := by omega
    have hg : l[k]? = some l[k] := List.getElem?_eq_getElem hkl
    generalize l[k] = x at hg
    refine ⟨_, _, _, _, _, _, _, _, _, Call09.load (a := a) (n := l.length) hg, fun _ => ⟨fun _ => .of fun R h H => ⟨true, ⟨rfl, fun e => by cases e⟩, H⟩, fun h2 => ⟨inI64 _ (by omega) (by omega), fun _ => ⟨⟨k + 1, by omega, by omega, fun j y hj hy => ?_⟩, by dsimp only; omega⟩⟩⟩⟩
    rcases Nat.lt_or_ge j k with h | h
    · exact hall j y h hy
    · obtain rfl : j = k := by omega
      rw [hg] at hy; cases hy; omega
  · obtain ⟨j, hj⟩ := List.getElem?_of_mem hx
    exact hall j x (by have := (List.getElem?_eq_some_iff.1 hj).1; omega) hj
/-- What a call makes of a unit. -/
def callS (room : Int) (s : USt) (ps : List Pg) (c : Call09) : USt × List Pg :=
  if c.what = 0 then (writeS room s ps c.epoch c.at_ ⟨c.cell_what, c.cell_data⟩).2.2
  else if c.what = 1 then (s, ps)
  else if c.what = 2 then (trimS room s ps c.epoch c.at_).2
  else if c.what = 3 then (sealS room s ps c.epoch).2
  else if c.what = 4 then (promiseS room s ps c.at_ c.br_r c.br_w).2.2.2.2
  else (acceptS room s ps c.at_ c.br_r c.br_w c.cell_data).2
def callR (room : Int) (l : List RPg) (c : Call09) : List RPg :=
  if c.what = 0 then (writeR room l c.epoch c.at_ ⟨c.cell_what, c.cell_data⟩).2
  else if c.what = 1 then l
  else if c.what = 2 then (trimR room l c.epoch c.at_).2
  else if c.what = 3 then (sealR room l c.epoch).2
  else if c.what = 4 then (promiseR room l c.at_ c.br_r c.br_w).2
  else (acceptR room l c.at_ c.br_r c.br_w c.cell_data).2
/-- Whether both answer alike. -/
def callB (room : Int) (s : USt) (ps : List Pg) (l : List RPg) (c : Call09) : Bool :=
  if c.what = 0 then decide ((writeS room s ps c.epoch c.at_ ⟨c.cell_what, c.cell_data⟩).2.1 = (writeR room l c.epoch c.at_ ⟨c.cell_what, c.cell_data⟩).1.2) && decide ((writeS room s ps c.epoch c.at_ ⟨c.cell_what, c.cell_data⟩).1.what = (writeR room l c.epoch c.at_ ⟨c.cell_what, c.cell_data⟩).1.1.what ∧ (writeS room s ps c.epoch c.at_ ⟨c.cell_what, c.cell_data⟩).1.data = (writeR room l c.epoch c.at_ ⟨c.cell_what, c.cell_data⟩).1.1.data)
  else if c.what = 1 then decide ((readS s c.epoch c.at_).2 = (readR l c.epoch c.at_).2) && decide ((readS s c.epoch c.at_).1.what = (readR l c.epoch c.at_).1.what ∧ (readS s c.epoch c.at_).1.data = (readR l c.epoch c.at_).1.data)
  else if c.what = 2 then decide ((trimS room s ps c.epoch c.at_).1 = (trimR room l c.epoch c.at_).1)
  else if c.what = 3 then decide ((sealS room s ps c.epoch).1 = (sealR room l c.epoch).1)
  else if c.what = 4 then decide ((promiseS room s ps c.at_ c.br_r c.br_w).2.2.2.1 = (promiseR room l c.at_ c.br_r c.br_w).1.2.2) && (decide ((promiseS room s ps c.at_ c.br_r c.br_w).1 = (promiseR room l c.at_ c.br_r c.br_w).1.1.1) && decide ((promiseS room s ps c.at_ c.br_r c.br_w).2.1 = (promiseR room l c.at_ c.br_r c.br_w).1.1.2)) && decide ((promiseS room s ps c.at_ c.br_r c.br_w).2.2.1 = (promiseR room l c.at_ c.br_r c.br_w).1.2.1)
  else decide ((acceptS room s ps c.at_ c.br_r c.br_w c.cell_data).1 = (acceptR room l c.at_ c.br_r c.br_w c.cell_data).1)
theorem eqBW {i j : Nat} {ty u : TypeId} (h : i ≠ j) {r q r' q' : Int} {A : HP} :
    ORead Try.prog (semW (.binOp .eql 34 (.tmp i) (.tmp j) u) ty [(i, .agg #[.int .i64 r, .int .i64 q]), (j, .agg #[.int .i64 r', .int .i64 q'])]) A (.bool (decide (r = r') && decide (q = q'))) := by
  have := semOf_eqB (ρ := [.i r, .i q, .i r', .i q']) (i := i) (j := j) (ty := ty) (u := u) (x := .w (.agg [.int .i64 (.v 0), .int .i64 (.v 1)])) (y := .w (.agg [.int .i64 (.v 2), .int .i64 (.v 3)])) h (A := A) rfl rfl
  rw [semW_eq] at this
  exact this
theorem writeS_bnd {room : Int} {s : USt} {ps : List Pg} {epoch at' : Int} {x : CellS} (hb : Bnd s) : (writeS room s ps epoch at' x).1.data.length ≤ 140737488355328 := by
  have z : zC.data.length ≤ 140737488355328 := by simp [zC]
  unfold writeS
  split
  · exact z
  split
  · exact z
  split
  · exact z
  split
  · rename_i c e; exact hb.1 _ _ e
  · exact z
theorem readS_bnd {s : USt} {epoch at' : Int} (hb : Bnd s) : (readS s epoch at').1.data.length ≤ 140737488355328 := by
  unfold readS
  split
  · simp
  split
  · simp
  split
  · rename_i c e; exact hb.1 _ _ e
  · simp
theorem promiseS_bnd {room : Int} {s : USt} {ps : List Pg} {n r w : Int} (hb : Bnd s) : (promiseS room s ps n r w).2.2.1.length ≤ 140737488355328 := by
  have hi : (instAt s n).val.length ≤ 140737488355328 := by
    unfold instAt
    cases e : s.inst n with
    | none => simp [zI]
    | some x => exact hb.2 _ _ e
  unfold promiseS
  split
  · simp
  split
  · simp
  split
  · exact hi
  split
  · simp
  · exact hi
end Go.Proofs.Ytmibmjehjagmbaa

/- Law 9: a call, told exactly. No condition. -/
namespace Go.Proofs.Ytmibmjehjagmbaa
set_option linter.unusedSimpArgs false
set_option linter.unusedVariables false
open Go.Proofs.Ytmibmjehjagmbaa RX
set_option maxRecDepth 100000

set_option maxHeartbeats 4000000 in
theorem call09_ok (ub bd rb : Nat) (room : Int) (s : USt) (ps : List Pg) (l : List RPg) (c : Call09) (hroom : room ≤ 1000000) (hd : c.cell_data.length ≤ 140737488355328) :
    Tri Try.prog 18 #[.pointer (some ⟨ub, 0, none⟩), .pointer (some ⟨rb, 0, none⟩), .agg c.vals.toArray] (HP.sep (UD ub bd room s ps) (HP.sep (RU rb room l) (RoB c.cell_dataa c.cell_data.length c.cell_data)))
    (fun v => HP.and (v = .bool (callB room s ps l c)) (HP.sep (UD ub bd room (callS room s ps c).1 (callS room s ps c).2) (HP.sep (RU rb room (callR room l c)) (RoB c.cell_dataa c.cell_data.length c.cell_data)))) := by
  refine Tri.fact (φ := Bnd s ∧ (c.cell_data.length ≠ 0 → c.cell_dataa.isSome = true)) (fun R h H => ⟨UD.bnd (HP.sep_left H), fun hn => RoC.some (HP.sep_right (HP.sep_right H)) (by omega)⟩) fun ⟨hb, hda⟩ => ?_
  refine tri_of_tree (ρ := [.n ub, .p (UD ub bd room s ps), .n rb, .p (RU rb room l), .i c.what, .i c.epoch, .i c.at_, .i c.cell_what, .a c.cell_dataa, .n c.cell_data.length, .n c.cell_datac, .p (RoB c.cell_dataa c.cell_data.length c.cell_data), .i c.br_r, .i c.br_w]) mixed Try.func18 tree_call09 ?_
  unfold t_call09
  simp only [T.den, E.prop, E.den, RX.look, F1.app, F2.app, Uni.int_i, Uni.nat_n, Uni.bool_c, Uni.str_s, Uni.adr_a, Uni.val_v, Uni.hp_p, hden, cden, V.den, W.den, A.den, BR.den, SA.den, FV.den, capV, exs, exP, allP, Cur.app, List.map_cons, List.map_nil, List.cons_append, List.nil_append, List.drop_succ_cons, List.drop_zero, List.length_cons, List.length_nil, Nat.zero_add, Nat.reduceAdd, Int.neg_neg, Bool.not_not, List.append_nil, Nat.add_zero, List.getElem?_cons_zero, List.getElem?_cons_succ, Decidable.not_not, semW_eq, semW_load, semW_store, semW_storeC, semW_append, semW_lookup, semW_lookupC, semW_update, semW_updateC, semW_updateK, semW_delete, semW_range, semW_next, semW_entry, semW_nil, ne_eq, Nat.reduceEqDiff, not_false_eq_true]
  intro _
  refine ⟨fun h0 => ?_, fun h0 => ⟨fun h1 => ?_, fun h1 => ⟨fun h2 => ?_, fun h2 => ⟨fun h3 => ?_, fun h3 => ⟨fun h4 => ?_, fun h4 => ?_⟩⟩⟩⟩⟩
  · have eS : callS room s ps c = (writeS room s ps c.epoch c.at_ ⟨c.cell_what, c.cell_data⟩).2.2 := if_pos h0
    have eR : callR room l c = (writeR room l c.epoch c.at_ ⟨c.cell_what, c.cell_data⟩).2 := if_pos h0
    have eB : callB room s ps l c = _ := if_pos h0
    rw [eS, eR, eB]
    have bnd := writeS_bnd (room := room) (ps := ps) (epoch := c.epoch) (at' := c.at_) (x := ⟨c.cell_what, c.cell_data⟩) hb
    refine (uWrite_ok ub bd room s ps c.epoch c.at_ c.cell_what c.cell_dataa _ c.cell_datac c.cell_data (RoB c.cell_dataa c.cell_data.length c.cell_data) (RdL.ro _ _ _ _) rfl hda).weak (fun _ _ h => h) ?_
    rintro v R h ⟨a, cc, rfl, H⟩
    generalize writeS room s ps c.epoch c.at_ ⟨c.cell_what, c.cell_data⟩ = W at *
    refine ⟨_, a, _, cc, RoB a W.1.data.length W.1.data, _, UD ub bd room W.2.2.1 W.2.2.2, rfl, fun _ => ?_, H⟩
    clear H
    refine (qWrite_ok rb room l hroom c.epoch c.at_ c.cell_what c.cell_dataa c.cell_datac c.cell_data hd hda).weak (fun _ _ h => h) ?_
    rintro v R h ⟨a2, c2, ⟨rfl, hb2⟩, H⟩
    generalize writeR room l c.epoch c.at_ ⟨c.cell_what, c.cell_data⟩ = Q at *
    refine ⟨_, a2, _, c2, RoB a2 Q.1.1.data.length Q.1.1.data, _, RU rb room Q.2, rfl, fun _ => ⟨fun he => ?_, fun he => .of fun R h H => ⟨by rw [decide_eq_false he]; rfl, H⟩⟩, H⟩
    clear H
    refine (sameCell_ok W.1.what a _ cc W.1.data Q.1.1.what a2 _ c2 Q.1.1.data (RoB a W.1.data.length W.1.data) (RoB a2 Q.1.1.data.length Q.1.1.data) (RdL.ro _ _ _ _) (RdL.ro _ _ _ _) rfl rfl bnd).weak (fun _ _ h => h) ?_
    rintro v R h ⟨rfl, H⟩
    exact ⟨_, rfl, .of fun R h H => ⟨by rw [decide_eq_true he, Bool.true_and], H⟩, H⟩
  · have eS : callS room s ps c = (s, ps) := by unfold callS; rw [if_neg h0, if_pos h1]
    have eR : callR room l c = l := by unfold callR; rw [if_neg h0, if_pos h1]
    have eB : callB room s ps l c = _ := (if_neg h0).trans (if_pos h1)
    rw [eS, eR, eB]
    have bnd := readS_bnd (epoch := c.epoch) (at' := c.at_) hb
    refine (uRead_ok ub bd (DRep bd room ps ps.length) s c.epoch c.at_).weak (fun _ _ h => h) ?_
    rintro v R h ⟨a, cc, rfl, H⟩
    generalize readS s c.epoch c.at_ = W at *
    refine ⟨_, a, _, cc, RoB a W.1.data.length W.1.data, _, rfl, fun _ => ?_, HP.sep_comm H⟩
    clear H
    refine (qRead_ok rb room l c.epoch c.at_).weak (fun _ _ h => h) ?_
    rintro v R h ⟨a2, c2, ⟨rfl, hb2⟩, H⟩
    generalize readR l c.epoch c.at_ = Q at *
    refine ⟨_, a2, _, c2, RoB a2 Q.1.data.length Q.1.data, _, rfl, fun _ => ⟨fun he => ?_, fun he => .of fun R h H => ⟨by rw [decide_eq_false he]; rfl, H⟩⟩, H⟩
    clear H
    refine (sameCell_ok W.1.what a _ cc W.1.data Q.1.what a2 _ c2 Q.1.data (RoB a W.1.data.length W.1.data) (RoB a2 Q.1.data.length Q.1.data) (RdL.ro _ _ _ _) (RdL.ro _ _ _ _) rfl rfl bnd).weak (fun _ _ h => h) ?_
    rintro v R h ⟨rfl, H⟩
    exact ⟨_, rfl, .of fun R h H => ⟨by rw [decide_eq_true he, Bool.true_and], H⟩, H⟩
  · have eS : callS room s ps c = (trimS room s ps c.epoch c.at_).2 := by unfold callS; rw [if_neg h0, if_neg h1, if_pos h2]
    have eR : callR room l c = (trimR room l c.epoch c.at_).2 := by unfold callR; rw [if_neg h0, if_neg h1, if_pos h2]
    have eB : callB room s ps l c = _ := (if_neg h0).trans ((if_neg h1).trans (if_pos h2))
    rw [eS, eR, eB]
    refine (uTrim_ok ub bd room s ps c.epoch c.at_).weak (fun _ _ h => h) ?_
    rintro v R h ⟨rfl, H⟩
    refine ⟨_, UD ub bd room (trimS room s ps c.epoch c.at_).2.1 (trimS room s ps c.epoch c.at_).2.2, rfl, ?_, H⟩
    clear H
    refine (qTrim_ok rb room l hroom c.epoch c.at_).weak (fun _ _ h => h) ?_
    rintro v R h ⟨rfl, H⟩
    exact ⟨_, RU rb room (trimR room l c.epoch c.at_).2, rfl, .of fun R h H => ⟨rfl, H⟩, H⟩
  · have eS : callS room s ps c = (sealS room s ps c.epoch).2 := by unfold callS; rw [if_neg h0, if_neg h1, if_neg h2, if_pos h3]
    have eR : callR room l c = (sealR room l c.epoch).2 := by unfold callR; rw [if_neg h0, if_neg h1, if_neg h2, if_pos h3]
    have eB : callB room s ps l c = _ := (if_neg h0).trans ((if_neg h1).trans ((if_neg h2).trans (if_pos h3)))
    rw [eS, eR, eB]
    refine (uSeal_ok ub bd room s ps c.epoch).weak (fun _ _ h => h) ?_
    rintro v R h ⟨rfl, H⟩
    refine ⟨_, UD ub bd room (sealS room s ps c.epoch).2.1 (sealS room s ps c.epoch).2.2, rfl, ?_, H⟩
    clear H
    refine (qSeal_ok rb room l hroom c.epoch).weak (fun _ _ h => h) ?_
    rintro v R h ⟨rfl, H⟩
    exact ⟨_, RU rb room (sealR room l c.epoch).2, rfl, .of fun R h H => ⟨rfl, H⟩, H⟩
  · have eS : callS room s ps c = (promiseS room s ps c.at_ c.br_r c.br_w).2.2.2.2 := by unfold callS; rw [if_neg h0, if_neg h1, if_neg h2, if_neg h3, if_pos h4]
    have eR : callR room l c = (promiseR room l c.at_ c.br_r c.br_w).2 := by unfold callR; rw [if_neg h0, if_neg h1, if_neg h2, if_neg h3, if_pos h4]
    have eB : callB room s ps l c = _ := (if_neg h0).trans ((if_neg h1).trans ((if_neg h2).trans ((if_neg h3).trans (if_pos h4))))
    rw [eS, eR, eB]
    have bnd := promiseS_bnd (room := room) (ps := ps) (n := c.at_) (r := c.br_r) (w := c.br_w) hb
    refine (uPromise_ok ub bd room s ps c.at_ c.br_r c.br_w).weak (fun _ _ h => h) ?_
    rintro v R h ⟨a, cc, rfl, H⟩
    generalize promiseS room s ps c.at_ c.br_r c.br_w = W at *
    refine ⟨_, _, a, _, cc, RoB a W.2.2.1.length W.2.2.1, _, UD ub bd room W.2.2.2.2.1 W.2.2.2.2.2, rfl, fun _ => ?_, HP.sep_comm H⟩
    clear H
    refine (qPromise_ok rb room l hroom c.at_ c.br_r c.br_w).weak (fun _ _ h => h) ?_
    rintro v R h ⟨a2, c2, ⟨rfl, hb2⟩, H⟩
    generalize promiseR room l c.at_ c.br_r c.br_w = Q at *
    refine ⟨_, _, a2, _, c2, RoB a2 Q.1.2.1.length Q.1.2.1, _, RU rb room Q.2, rfl, fun _ => ⟨fun he => ⟨_, eqBW (by decide), ⟨fun hbb => ?_, fun hbb => .of fun R h H => ⟨by rw [(by simpa using hbb : (decide (W.1 = Q.1.1.1) && decide (W.2.1 = Q.1.1.2)) = false)]; simp, H⟩⟩⟩, fun he => .of fun R h H => ⟨by rw [decide_eq_false he]; rfl, H⟩⟩, HP.sep_comm H⟩
    clear H
    refine (same01_ok a _ cc W.2.2.1 a2 _ c2 Q.1.2.1 (RoB a W.2.2.1.length W.2.2.1) (RoB a2 Q.1.2.1.length Q.1.2.1) (RdL.ro _ _ _ _) (RdL.ro _ _ _ _) rfl rfl bnd).weak (fun _ _ h => h) ?_
    rintro v R h ⟨rfl, H⟩
    exact ⟨_, rfl, .of fun R h H => ⟨by rw [decide_eq_true he, hbb]; rfl, H⟩, H⟩
  · have eS : callS room s ps c = (acceptS room s ps c.at_ c.br_r c.br_w c.cell_data).2 := by unfold callS; rw [if_neg h0, if_neg h1, if_neg h2, if_neg h3, if_neg h4]
    have eR : callR room l c = (acceptR room l c.at_ c.br_r c.br_w c.cell_data).2 := by unfold callR; rw [if_neg h0, if_neg h1, if_neg h2, if_neg h3, if_neg h4]
    have eB : callB room s ps l c = _ := (if_neg h0).trans ((if_neg h1).trans ((if_neg h2).trans ((if_neg h3).trans (if_neg h4))))
    rw [eS, eR, eB]
    refine (uAccept_ok ub bd room s ps c.at_ c.br_r c.br_w c.cell_dataa _ c.cell_datac c.cell_data (RoB c.cell_dataa c.cell_data.length c.cell_data) (RdL.ro _ _ _ _) rfl hda).weak (fun _ _ h => h) ?_
    rintro v R h ⟨rfl, H⟩
    refine ⟨_, UD ub bd room (acceptS room s ps c.at_ c.br_r c.br_w c.cell_data).2.1 (acceptS room s ps c.at_ c.br_r c.br_w c.cell_data).2.2, rfl, ?_, H⟩
    clear H
    refine (qAccept_ok rb room l hroom c.at_ c.br_r c.br_w c.cell_dataa c.cell_datac c.cell_data hd hda).weak (fun _ _ h => h) ?_
    rintro v R h ⟨rfl, H⟩
    exact ⟨_, RU rb room (acceptR room l c.at_ c.br_r c.br_w c.cell_data).2, rfl, .of fun R h H => ⟨rfl, H⟩, H⟩
theorem inv9_call {room : Int} {s : USt} {ps : List Pg} (h : Inv9 s ps) (c : Call09) : Inv9 (callS room s ps c).1 (callS room s ps c).2 := by
  unfold callS
  repeat' split
  · exact inv9_write h _ _ _
  · exact h
  · exact inv9_trim h _ _
  · exact inv9_seal h _
  · exact inv9_promise h _ _ _
  · exact inv9_accept h _ _ _ _
theorem stays_call {room : Int} {s : USt} {ps : List Pg} {a : Int} {y : CellS} (h : Stays a y s) (c : Call09) : Stays a y (callS room s ps c).1 := by
  unfold callS
  repeat' split
  · exact stays_write h _ _ _
  · exact h
  · exact stays_trim h _ _
  · show Stays a y (sealS room s ps c.epoch).2.1
    unfold sealS lastS
    repeat' split
    all_goals exact h
  · show Stays a y (promiseS room s ps c.at_ c.br_r c.br_w).2.2.2.2.1
    unfold promiseS
    repeat' split
    all_goals exact h
  · show Stays a y (acceptS room s ps c.at_ c.br_r c.br_w c.cell_data).2.1
    unfold acceptS lastS
    repeat' split
    all_goals exact h
end Go.Proofs.Ytmibmjehjagmbaa

/- The unit and the document's unit answer alike: no program in sight. No condition. -/
namespace Go.Proofs.Ytmibmjehjagmbaa
open Go.Proofs.Ytmibmjehjagmbaa RX

theorem findU_app (p : RPg → Bool) (l : List RPg) (x : RPg) : ∀ k, k ≤ l.length → findU p (l ++ [x]) k = findU p l k
  | 0, _ => rfl
  | k + 1, hk => by
    simp only [findU]
    rw [List.getElem?_append_left (by omega), findU_app p l x k (by omega)]
theorem findU_snoc (p : RPg → Bool) (l : List RPg) (x : RPg) : findU p (l ++ [x]) (l ++ [x]).length = if p x then some x else findU p l l.length := by
  have hg : (l ++ [x])[l.length]? = some x := by simp
  rw [List.length_append, List.length_singleton, findU_step hg, findU_app p l x l.length (Nat.le_refl _)]
theorem lastR_snoc (l : List RPg) (x : RPg) (kind : Int) : lastR (l ++ [x]) kind = if x.kind = kind then x.n else lastR l kind := by
  unfold lastR
  rw [findU_snoc]
  by_cases h : x.kind = kind
  · rw [if_pos (by simpa using h), if_pos h]; rfl
  · rw [if_neg (by simpa using h), if_neg h]
def findC9 (l : List RPg) (a : Int) : Option CellS := (findU (fun x => decide (x.kind ≤ 2) && decide (x.n = a)) l l.length).map fun x => ⟨x.kind, x.bytes⟩
theorem cellR_eq (l : List RPg) (a : Int) : cellR l a = (findC9 l a).getD ⟨0, []⟩ := rfl
theorem findC9_snoc (l : List RPg) (x : RPg) (a : Int) : findC9 (l ++ [x]) a = if x.kind ≤ 2 ∧ x.n = a then some ⟨x.kind, x.bytes⟩ else findC9 l a := by
  unfold findC9
  rw [findU_snoc]
  by_cases h : x.kind ≤ 2 ∧ x.n = a
  · rw [if_pos (by simpa using h), if_pos h]; rfl
  · rw [if_neg (by simpa using h), if_neg h]
theorem promU_snoc (n : Int) (l : List RPg) (x : RPg) : promU n (l ++ [x]) = if 5 ≤ x.kind ∧ x.n = n then (x.r, x.w) else promU n l := by
  unfold promU; rw [List.foldl_append]; rfl
theorem accU_snoc (n : Int) (l : List RPg) (x : RPg) : accU n (l ++ [x]) = if x.kind = 6 ∧ x.n = n then ((x.r, x.w), x.bytes) else accU n l := by
  unfold accU; rw [List.foldl_append]; rfl
def topU (l : List RPg) : Int := l.foldl (fun m x => if x.kind ≤ 2 then max m (x.n + 1) else m) 0
theorem topU_snoc (l : List RPg) (x : RPg) : topU (l ++ [x]) = if x.kind ≤ 2 then max (topU l) (x.n + 1) else topU l := by
  unfold topU; rw [List.foldl_append]; rfl
/-- A unit and the document's unit are alike. -/
structure Rel9 (room : Int) (s : USt) (ps : List Pg) (l : List RPg) : Prop where
  len : ps.length = l.length
  room : (l.length : Int) ≤ room
  nums : ∀ x ∈ l, x.kind ≤ 2 → 0 ≤ x.n ∧ x.n ≤ 4294967296
  kinds : ∀ a x, findC9 l a = some x → x.what ≠ 0
  epoch : s.epoch = lastR l 4
  low : s.low = lastR l 3
  top : s.top = topU l
  cells : ∀ a, s.low ≤ a → s.cells a = findC9 l a
  prom : ∀ n, ((instAt s n).pr, (instAt s n).pw) = promU n l
  acc : ∀ n, (((instAt s n).ar, (instAt s n).aw), (instAt s n).val) = accU n l
theorem rel9_new (room : Int) (h : 0 ≤ room) : Rel9 room s0 [] [] := ⟨rfl, by simpa using h, (fun x h => by cases h), (fun a x h => by cases h), rfl, rfl, rfl, fun _ _ => rfl, fun _ => rfl, fun _ => rfl⟩
section
variable {room : Int} {s : USt} {ps : List Pg} {l : List RPg}
theorem Rel9.reach (h : Rel9 room s ps l) (epoch a : Int) : reachE s epoch a = askR l epoch a := by
  unfold reachE askR
  rw [h.epoch]
  by_cases he : epoch = lastR l 4
  · have e1 : (if epoch ≠ lastR l 4 then (8 : Int) else if a < 0 ∨ 4294967296 < a then 2 else 0) = if a < 0 ∨ 4294967296 < a then 2 else 0 := if_neg (fun e => e he)
    rw [e1, if_pos he]
    by_cases ha : addrOk a = true
    · rw [if_pos ha, if_neg (by simp [addrOk] at ha; omega)]
    · rw [if_neg ha, if_pos (by simp [addrOk] at ha; omega)]
  · rw [if_neg he, if_pos he]
theorem Rel9.read (h : Rel9 room s ps l) (epoch a : Int) : readS s epoch a = readR l epoch a := by
  unfold readS readR
  rw [h.reach, h.low]
  split
  · rfl
  split
  · rfl
  · rename_i hl
    rw [h.cells a (by rw [h.low]; omega), cellR_eq]
    cases hc : findC9 l a with
    | none => rfl
    | some x =>
      have := h.kinds a x hc
      show (x, 0) = if x.what = 0 then (x, 9) else (x, 0)
      rw [if_neg this]
theorem Rel9.full (h : Rel9 room s ps l) : room = ps.length ↔ room ≤ l.length := by
  have := h.len; have := h.room
  omega
theorem Rel9.page (h : Rel9 room s ps l) (hf : ¬ room ≤ l.length) {s' : USt} {p : Pg} {x : RPg} (hk : x.kind ≠ 0) (hm : x.kind ≤ 2 → 0 ≤ x.n ∧ x.n ≤ 4294967296) (he : s'.epoch = if x.kind = 4 then x.n else s.epoch) (hl : s'.low = if x.kind = 3 then x.n else s.low) (ht : s'.top = if x.kind ≤ 2 then max s.top (x.n + 1) else s.top)
    (hc : ∀ a, s'.low ≤ a → s'.cells a = if x.kind ≤ 2 ∧ x.n = a then some ⟨x.kind, x.bytes⟩ else findC9 l a)
    (hp : ∀ n, ((instAt s' n).pr, (instAt s' n).pw) = if 5 ≤ x.kind ∧ x.n = n then (x.r, x.w) else ((instAt s n).pr, (instAt s n).pw))
    (ha : ∀ n, (((instAt s' n).ar, (instAt s' n).aw), (instAt s' n).val) = if x.kind = 6 ∧ x.n = n then ((x.r, x.w), x.bytes) else (((instAt s n).ar, (instAt s n).aw), (instAt s n).val)) : Rel9 room s' (ps ++ [p]) (l ++ [x]) := by
  refine ⟨by simp [h.len], by simp; omega, fun y hy hy2 => ?_, fun a y hy => ?_, ?_, ?_, ?_, fun a hla => ?_, fun n => ?_, fun n => ?_⟩
  · rcases List.mem_append.1 hy with hy | hy
    · exact h.nums y hy hy2
    · obtain rfl : y = x := by simpa using hy
      exact hm hy2
  · rw [findC9_snoc] at hy
    split at hy
    · cases hy; exact hk
    · exact h.kinds a y hy
  · rw [he, lastR_snoc, h.epoch]
  · rw [hl, lastR_snoc, h.low]
  · rw [ht, topU_snoc, h.top]
  · rw [hc a hla, findC9_snoc]
  · rw [hp n, promU_snoc, h.prom n]
  · rw [ha n, accU_snoc, h.acc n]
theorem stand_bad (w : Int) (d : List UInt8) : standB w d.length = false ↔ ((w ≠ 1 ∧ w ≠ 2) ∨ (w = 1 ∧ 65536 < d.length) ∨ (w = 2 ∧ 0 < d.length)) := by
  unfold standB
  by_cases h1 : w = 1
  · subst h1; simp; omega
  · by_cases h2 : w = 2
    · subst h2; simp; exact ⟨fun h => List.length_pos_iff.2 h, fun h => List.length_pos_iff.1 h⟩
    · simp [h1, h2]
theorem Rel9.write (h : Rel9 room s ps l) (epoch a : Int) (x : CellS) :
    ((writeS room s ps epoch a x).1, (writeS room s ps epoch a x).2.1) = (writeR room l epoch a x).1 ∧ Rel9 room (writeS room s ps epoch a x).2.2.1 (writeS room s ps epoch a x).2.2.2 (writeR room l epoch a x).2 := by
  unfold writeS writeR
  rw [h.reach]
  by_cases h1 : askR l epoch a ≠ 0
  · rw [if_pos h1, if_pos h1]; exact ⟨rfl, h⟩
  rw [if_neg h1, if_neg h1]
  have h1' : askR l epoch a = 0 := by simpa using h1
  by_cases h2 : standB x.what x.data.length = false
  · rw [if_pos h2, if_pos ((stand_bad _ _).1 h2)]; exact ⟨rfl, h⟩
  rw [if_neg h2, if_neg (fun e => h2 ((stand_bad _ _).2 e))]
  by_cases h3 : a < s.low
  · rw [if_pos h3, if_pos (by unfold readR; rw [if_neg (by simpa using h1'), if_pos (by rw [← h.low]; exact h3)])]
    exact ⟨rfl, h⟩
  have h3' : ¬ a < lastR l 3 := by rw [← h.low]; exact h3
  have hrd : readR l epoch a = if (cellR l a).what = 0 then (cellR l a, 9) else (cellR l a, 0) := by unfold readR; rw [if_neg (by simpa using h1'), if_neg h3']
  rw [if_neg h3, hrd, h.cells a (by omega), cellR_eq]
  cases hc : findC9 l a with
  | some y =>
    have hy := h.kinds a y hc
    simp only [Option.getD_some]
    rw [if_neg hy, if_neg (by simp), if_pos rfl]
    exact ⟨rfl, h⟩
  | none =>
    simp only [Option.getD_none, if_true]
    rw [if_neg (by simp), if_neg (by simp)]
    unfold addR lastS
    by_cases hf : room ≤ l.length
    · rw [if_pos hf, if_pos (h.full.2 hf)]; exact ⟨rfl, h⟩
    · rw [if_neg hf, if_neg (fun e => hf (h.full.1 e))]
      have hw : x.what = 1 ∨ x.what = 2 := by
        unfold standB at h2
        by_cases e1 : x.what = 1
        · exact .inl e1
        · by_cases e2 : x.what = 2
          · exact .inr e2
          · simp [e1, e2] at h2
      refine ⟨rfl, h.page hf ?_ ?_ ?_ ?_ ?_ ?_ ?_ ?_⟩
      · show x.what ≠ 0; omega
      · intro _
        show 0 ≤ a ∧ a ≤ 4294967296
        unfold askR at h1'
        split at h1'
        · cases h1'
        split at h1'
        · cases h1'
        · omega
      · show s.epoch = if x.what = 4 then a else s.epoch
        rw [if_neg (by omega)]
      · show s.low = if x.what = 3 then a else s.low
        rw [if_neg (by omega)]
      · show max s.top (a + 1) = if x.what ≤ 2 then max s.top (a + 1) else s.top
        rw [if_pos (by omega)]
      · intro b hb
        show (if b = a then some x else s.cells b) = if x.what ≤ 2 ∧ a = b then some ⟨x.what, x.data⟩ else findC9 l b
        by_cases e : b = a
        · rw [if_pos e, if_pos ⟨by omega, e.symm⟩]
        · rw [if_neg e, if_neg (fun e' => e e'.2.symm)]
          exact h.cells b hb
      · intro n
        show _ = if 5 ≤ x.what ∧ a = n then _ else _
        rw [if_neg (by omega)]; rfl
      · intro n
        show _ = if x.what = 6 ∧ a = n then _ else _
        rw [if_neg (by omega)]; rfl
theorem Rel9.trim (h : Rel9 room s ps l) (epoch low : Int) : (trimS room s ps epoch low).1 = (trimR room l epoch low).1 ∧ Rel9 room (trimS room s ps epoch low).2.1 (trimS room s ps epoch low).2.2 (trimR room l epoch low).2 := by
  unfold trimS trimR
  rw [h.reach, h.low]
  split
  · exact ⟨rfl, h⟩
  split
  · exact ⟨rfl, h⟩
  rename_i hlow
  unfold addR lastS
  by_cases hf : room ≤ l.length
  · rw [if_pos hf, if_pos (h.full.2 hf)]; exact ⟨rfl, h⟩
  · rw [if_neg hf, if_neg (fun e => hf (h.full.1 e))]
    refine ⟨rfl, h.page hf (by simp) (fun e => absurd e (by simp)) rfl rfl rfl (fun b hb => ?_) (fun n => rfl) (fun n => rfl)⟩
    have hb' : low ≤ b := hb
    show (if b < low then none else s.cells b) = if (3 : Int) ≤ 2 ∧ low = b then _ else findC9 l b
    rw [if_neg (by omega), if_neg (by omega)]
    exact h.cells b (by rw [h.low]; omega)
theorem Rel9.seal_ (h : Rel9 room s ps l) (epoch : Int) : (sealS room s ps epoch).1 = (sealR room l epoch).1 ∧ Rel9 room (sealS room s ps epoch).2.1 (sealS room s ps epoch).2.2 (sealR room l epoch).2 := by
  unfold sealS sealR
  rw [h.epoch]
  split
  · exact ⟨rfl, h⟩
  split
  · exact ⟨rfl, h⟩
  unfold addR lastS
  by_cases hf : room ≤ l.length
  · rw [if_pos hf, if_pos (h.full.2 hf)]; exact ⟨rfl, h⟩
  · rw [if_neg hf, if_neg (fun e => hf (h.full.1 e))]
    refine ⟨rfl, h.page hf (by simp) (fun e => absurd e (by simp)) rfl rfl rfl (fun b hb => ?_) (fun n => rfl) (fun n => rfl)⟩
    show s.cells b = if (4 : Int) ≤ 2 ∧ epoch = b then _ else findC9 l b
    rw [if_neg (by omega)]
    exact h.cells b hb
theorem less_eq (a b c d : Int) : lessB a b c d = lessR a b c d := by
  unfold lessB lessR
  by_cases h : a = c
  · subst h; simp
  · simp [h]
theorem Rel9.promise (h : Rel9 room s ps l) (n r w : Int) :
    (((promiseS room s ps n r w).1, (promiseS room s ps n r w).2.1), (promiseS room s ps n r w).2.2.1, (promiseS room s ps n r w).2.2.2.1) = (promiseR room l n r w).1 ∧ Rel9 room (promiseS room s ps n r w).2.2.2.2.1 (promiseS room s ps n r w).2.2.2.2.2 (promiseR room l n r w).2 := by
  have hp := h.prom n
  have ha := h.acc n
  have p1 : (instAt s n).pr = (promU n l).1 := congrArg Prod.fst hp
  have p2 : (instAt s n).pw = (promU n l).2 := congrArg Prod.snd hp
  unfold promiseS promiseR
  rw [less_eq, p1, p2]
  split
  · exact ⟨rfl, h⟩
  split
  · exact ⟨rfl, h⟩
  split
  · exact ⟨by rw [← ha], h⟩
  rename_i hne
  unfold addR
  by_cases hf : room ≤ l.length
  · rw [if_pos hf, if_pos (h.full.2 hf), if_pos (by simp)]; exact ⟨rfl, h⟩
  · rw [if_neg hf, if_neg (fun e => hf (h.full.1 e)), if_neg (by simp)]
    have e6 : accU n (l ++ [⟨5, n, r, w, []⟩]) = accU n l := by rw [accU_snoc, if_neg (by simp)]
    refine ⟨by rw [e6, ← ha], h.page hf (by simp) (fun e => absurd e (by simp)) rfl rfl rfl (fun b hb => ?_) (fun m => ?_) (fun m => ?_)⟩
    · show s.cells b = if (5 : Int) ≤ 2 ∧ n = b then _ else findC9 l b
      rw [if_neg (by omega)]
      exact h.cells b hb
    · show ((instAt (promS s n r w) m).pr, (instAt (promS s n r w) m).pw) = if (5 : Int) ≤ 5 ∧ n = m then (r, w) else _
      by_cases e : n = m
      · subst e; simp [instAt, promS, fput]
      · rw [if_neg (fun e' => e e'.2)]
        have : ¬ m = n := fun e' => e e'.symm
        simp [instAt, promS, fput, this]
    · show (((instAt (promS s n r w) m).ar, (instAt (promS s n r w) m).aw), (instAt (promS s n r w) m).val) = if (5 : Int) = 6 ∧ n = m then _ else _
      rw [if_neg (by omega)]
      by_cases e : m = n
      · subst e; simp [instAt, promS, fput]
      · simp [instAt, promS, fput, e]
theorem Rel9.accept (h : Rel9 room s ps l) (n r w : Int) (d : List UInt8) : (acceptS room s ps n r w d).1 = (acceptR room l n r w d).1 ∧ Rel9 room (acceptS room s ps n r w d).2.1 (acceptS room s ps n r w d).2.2 (acceptR room l n r w d).2 := by
  have hp := h.prom n
  have p1 : (instAt s n).pr = (promU n l).1 := congrArg Prod.fst hp
  have p2 : (instAt s n).pw = (promU n l).2 := congrArg Prod.snd hp
  unfold acceptS acceptR
  rw [less_eq, p1, p2]
  by_cases h1 : propOk n r w = false
  · rw [if_pos h1, if_pos (.inl h1)]; exact ⟨rfl, h⟩
  by_cases h2 : 1000 < d.length
  · rw [if_neg h1, if_pos h2, if_pos (.inr h2)]; exact ⟨rfl, h⟩
  have h3 : ¬ (propOk n r w = false ∨ 1000 < d.length) := fun e => e.elim h1 h2
  rw [if_neg h1, if_neg h2, if_neg h3]
  split
  · exact ⟨rfl, h⟩
  unfold addR lastS
  by_cases hf : room ≤ l.length
  · rw [if_pos hf, if_pos (h.full.2 hf)]; exact ⟨rfl, h⟩
  · rw [if_neg hf, if_neg (fun e => hf (h.full.1 e))]
    refine ⟨rfl, h.page hf (by simp) (fun e => absurd e (by simp)) rfl rfl rfl (fun b hb => ?_) (fun m => ?_) (fun m => ?_)⟩
    · show s.cells b = if (6 : Int) ≤ 2 ∧ n = b then _ else findC9 l b
      rw [if_neg (by omega)]
      exact h.cells b hb
    · show ((instAt (accS s n r w d) m).pr, (instAt (accS s n r w d) m).pw) = if (5 : Int) ≤ 6 ∧ n = m then (r, w) else _
      by_cases e : n = m
      · subst e; simp [instAt, accS, fput]
      · rw [if_neg (fun e' => e e'.2)]
        have : ¬ m = n := fun e' => e e'.symm
        simp [instAt, accS, fput, this]
    · show (((instAt (accS s n r w d) m).ar, (instAt (accS s n r w d) m).aw), (instAt (accS s n r w d) m).val) = if (6 : Int) = 6 ∧ n = m then ((r, w), d) else _
      by_cases e : n = m
      · subst e; simp [instAt, accS, fput]
      · rw [if_neg (fun e' => e e'.2)]
        have : ¬ m = n := fun e' => e e'.symm
        simp [instAt, accS, fput, this]
/-- A call is answered alike, and leaves both alike. -/
theorem Rel9.call (h : Rel9 room s ps l) (c : Call09) : callB room s ps l c = true ∧ Rel9 room (callS room s ps c).1 (callS room s ps c).2 (callR room l c) := by
  unfold callB callS callR
  split
  · obtain ⟨e, g⟩ := h.write c.epoch c.at_ ⟨c.cell_what, c.cell_data⟩
    refine ⟨?_, g⟩
    rw [← e]; simp
  split
  · refine ⟨?_, h⟩
    rw [h.read]; simp
  split
  · obtain ⟨e, g⟩ := h.trim c.epoch c.at_
    exact ⟨by rw [e]; simp, g⟩
  split
  · obtain ⟨e, g⟩ := h.seal_ c.epoch
    exact ⟨by rw [e]; simp, g⟩
  split
  · obtain ⟨e, g⟩ := h.promise c.at_ c.br_r c.br_w
    refine ⟨?_, g⟩
    rw [← e]; simp
  · obtain ⟨e, g⟩ := h.accept c.at_ c.br_r c.br_w c.cell_data
    exact ⟨by rw [e]; simp, g⟩
end
end Go.Proofs.Ytmibmjehjagmbaa

/- Pointers to cells that may be nil. No condition. -/
namespace Go.Proofs.Ytmibmjehjagmbaa
open Go.Proofs.Ytmibmjehjagmbaa RX

theorem neqNil {i : Nat} {ty u : TypeId} {p : Option Addr} {A : HP} : ORead Try.prog (semW (.binOp .neq 29 (.tmp i) (.const (.pointer none)) u) ty [(i, .pointer p)]) A (.bool p.isSome) := fun w R hh F s _ => by
  have hg : Try.prog.eqGuardType Try.prog.depth 29 = false := by kernel_rfl
  have hu : Try.prog.underlying 29 = some (.pointer 32) := by kernel_rfl
  have he : (Op.equal 29 (.pointer p) (.pointer none)).run Try.prog w = .ok (!p.isSome) w := RX.run_equal fun n => by cases p <;> simp [Op.equalIn, RX.run_underlying hu]
  simp only [semW, execOp, arW, List.find?_cons, beq_self_eq_true]
  simp [eqGuard, binOp, hg, program, Sem.run_bind, Result.andThen, he]
theorem nilChk {p : Addr} {A : HP} : ORead Try.prog (nilS (.pointer (some p))) A (.pointer (some p)) := fun w R hh F s _ => by
  simp [nilS, semW, execOp, arW]
theorem loadCell {b : Nat} {cs : Array Value} {K : HP} (hc : cs.toList.length = 2) : ORead Try.prog (loadS 32 (.pointer (some ⟨b, 0, none⟩))) (HP.sep (HP.one b (.cells cs 32 (0, 0))) K) (.agg cs) := by
  obtain ⟨d, hd⟩ : ∃ d, Try.prog.underlying 32 = some d := Option.isSome_iff_exists.1 (by kernel_rfl)
  have := loadN_ok (vs := cs.toList) hd (by kernel_rfl) (Rd.left (B := K) (one_rd b cs 32)) (k := 0) (off := 0) (by rw [hc]; kernel_rfl) (by omega) fun j v hj => by simpa using hj
  simpa [Addr.add_zero'] using this
theorem eqNil {i : Nat} {ty u : TypeId} {p : Option Addr} {A : HP} : ORead Try.prog (semW (.binOp .eql 29 (.tmp i) (.const (.pointer none)) u) ty [(i, .pointer p)]) A (.bool (!p.isSome)) := fun w R hh F s _ => by
  have hg : Try.prog.eqGuardType Try.prog.depth 29 = false := by kernel_rfl
  have hu : Try.prog.underlying 29 = some (.pointer 32) := by kernel_rfl
  have he : (Op.equal 29 (.pointer p) (.pointer none)).run Try.prog w = .ok (!p.isSome) w := RX.run_equal fun n => by cases p <;> simp [Op.equalIn, RX.run_underlying hu]
  simp only [semW, execOp, arW, List.find?_cons, beq_self_eq_true]
  simp [eqGuard, binOp, hg, program, Sem.run_bind, Result.andThen, he]
end Go.Proofs.Ytmibmjehjagmbaa

/- UnitOnce, over what came in as assertions. No condition. -/
namespace Go.Proofs.Ytmibmjehjagmbaa
set_option linter.unusedSimpArgs false
set_option linter.unusedVariables false
open Go.Proofs.Ytmibmjehjagmbaa RX
set_option maxRecDepth 100000

theorem crash_same {ps : List Pg} (picks : List UInt8) (h : ∀ p ∈ ps, p.is = 1) : crashPs picks ps ps.length = ps := by
  unfold crashPs
  rw [Nat.sub_self]
  show ps.take (trimN ps ps.length) = ps
  have e : trimN ps ps.length = ps.length := by
    cases hl : ps.length with
    | zero => rfl
    | succ n =>
      have hg : ps[n]? = some ps[n] := List.getElem?_eq_getElem (by omega)
      simp only [trimN, hg]
      rw [if_neg]
      rw [h _ (List.getElem_mem (by omega))]
      decide
  rw [e, List.take_length]
theorem joinPers {A L : HP} {R h : PH} (H : A.p R h) (hL : ∀ h', L.p R h') : (HP.sep A L).p R h := ⟨h, PH.none', PH.dj_none h, PH.le.refl _, PH.none_le _, H, hL _⟩
/-- A pointer to a cell of its own, or nil. -/
abbrev HadC := Option (Nat × Option Addr × Nat × CellS)
def hadP (h : HadC) : Option Addr := h.map fun x => ⟨x.1, 0, none⟩
def hadHp (h : HadC) : HP := match h with
  | some (b, xa, xc, x) => HP.sep (HP.one b (.cells #[.int .i64 x.what, .slice xa x.data.length xc] 32 (0, 0))) (RoB xa x.data.length x.data)
  | none => HP.tt
theorem read_stays {s : USt} {a : Int} {x : CellS} (ha : addrOk a = true) (h : Stays a x s) : (readS s s.epoch a).2 = 11 ∨ ((readS s s.epoch a).2 = 0 ∧ (readS s s.epoch a).1 = x) := by
  have r0 : reachE s s.epoch a = 0 := by unfold reachE; rw [if_pos rfl, if_pos ha]
  unfold readS
  rw [if_neg (by simp [r0])]
  split
  · exact .inl rfl
  · rename_i hl
    rcases h with h | h
    · exact absurd h hl
    · rw [h]; exact .inr ⟨rfl, rfl⟩
theorem read_new {s : USt} {a : Int} (h : (readS s s.epoch a).2 = 0) : addrOk a = true ∧ Stays a (readS s s.epoch a).1 s := by
  unfold readS at h ⊢
  split at h
  · rename_i hr; exact absurd h hr
  · rename_i hr
    rw [if_neg hr]
    split at h
    · cases h
    · rename_i hl
      rw [if_neg hl]
      split at h
      · rename_i x hx
        exact ⟨(reach0 (by simpa using hr)).2, .inr hx⟩
      · cases h
set_option maxHeartbeats 4000000 in
theorem unitOnce_ok (a : Option Addr) (c : Nat) (l : List Call09) (hlen : ∀ x ∈ l, x.cell_data.length ≤ 140737488355328) (at' : Int) :
    Tri Try.prog 3 #[.slice a l.length c, .int .i64 at'] (Ls kCall09 a l.length l) (fun v => HP.pure (v = .bool true)) := by
  refine Tri.fact (φ := l.length ≠ 0 → a.isSome = true) (fun R h H hn => RoC.some H.2.1 (by omega)) fun ha => ?_
  refine tri_of_tree (ρ := [.a a, .n l.length, .n c, .p (Ls kCall09 a l.length l), .i at']) mixed Try.func3 tree_unitOnce ?_
  unfold t_unitOnce
  simp (maxSteps := 3000000) only [T.den, E.prop, E.den, RX.look, F1.app, F2.app, Uni.int_i, Uni.nat_n, Uni.bool_c, Uni.str_s, Uni.adr_a, Uni.val_v, Uni.hp_p, hden, cden, V.den, W.den, A.den, BR.den, SA.den, FV.den, capV, exs, exP, allP, Cur.app, List.map_cons, List.map_nil, List.cons_append, List.nil_append, List.drop_succ_cons, List.drop_zero, List.length_cons, List.length_nil, Nat.zero_add, Nat.reduceAdd, Int.neg_neg, Bool.not_not, List.append_nil, Nat.add_zero, List.getElem?_cons_zero, List.getElem?_cons_succ, Decidable.not_not, semW_eq, semW_load, semW_store, semW_storeC, semW_append, semW_lookup, semW_lookupC, semW_update, semW_updateC, semW_updateK, semW_delete, semW_range, semW_next, semW_entry, semW_nil, ne_eq, Nat.reduceEqDiff, not_false_eq_true]
  refine speaks09_ok.weak (fun _ _ _ => trivial) ?_
  rintro v R h rfl
  refine ⟨true, rfl, ⟨fun h => absurd rfl h, fun _ => ?_⟩, trivial⟩
  refine (great09_ok a c l).weak (fun _ _ h => h) ?_
  rintro v R h ⟨g, ⟨rfl, hg⟩, H⟩
  refine ⟨g, rfl, ⟨fun _ => .of fun R h H => trivial, fun hgf => ?_⟩, H⟩
  have h60 := (hg (by simpa using hgf)).1
  clear H
  refine (laid09_ok 100 (by decide) (by decide)).weak (fun _ _ _ => trivial) ?_
  rintro v R h ⟨bd, ub, rfl, H⟩
  refine ⟨bd, DRep bd 100 [] 0, ub, UH ub bd s0, rfl, ?_, H⟩
  clear H
  refine ⟨fun _ u had Hh i Dd U => ∃ (k : Nat) (s : USt) (ps : List Pg) (hd : HadC), i = k ∧ k ≤ l.length ∧ had = .pointer (hadP hd) ∧ Hh = hadHp hd ∧ Dd = DRep bd 100 ps ps.length ∧ U = UH u bd s ∧ Inv9 s ps ∧ ∀ x, hd = some x → addrOk at' = true ∧ Stays at' x.2.2.2 s, fun _ _ _ _ i _ _ => l.length - i.toNat,
    ⟨0, s0, [], none, rfl, Nat.zero_le _, rfl, rfl, rfl, rfl, inv9_new, fun x hx => by cases hx⟩, ?_⟩
  rintro _ u _ _ _ _ _ ⟨k, s, ps, hd, rfl, hk, rfl, rfl, rfl, rfl, hI, hS⟩
  refine ⟨fun hlt => ⟨by omega, fun _ => ⟨ha (by omega), fun _ => ?_⟩⟩, fun _ => .of fun R h H => trivial⟩
  have hkl : k < l.length := by omega
  have hgk : l[k]? = some l[k] := List.getElem?_eq_getElem hkl
  have hxl := hlen _ (List.getElem_mem hkl)
  generalize l[k] = x at hgk hxl
  have inK : IntKind.i64.min ≤ (k : Int) + 1 ∧ (k : Int) + 1 ≤ IntKind.i64.max := inI64 _ (by omega) (by omega)
  have meas : l.length - ((k : Int) + 1).toNat < l.length - (k : Int).toNat := by omega
  have rX : RdL (Ls kCall09 a l.length l) x.cell_dataa x.cell_data.length (x.cell_data.map u8v) := RdL.imp fun R y H => (H.2.2 x (List.mem_of_getElem? hgk)).2.2.2.2.1.2
  have next : ∀ (u' : Nat) (s' : USt) (ps' : List Pg) (hd' : HadC), Inv9 s' ps' → (∀ x, hd' = some x → addrOk at' = true ∧ Stays at' x.2.2.2 s') →
      ∃ (k' : Nat) (s'' : USt) (ps'' : List Pg) (hd'' : HadC), (k : Int) + 1 = k' ∧ k' ≤ l.length ∧ Value.pointer (hadP hd') = .pointer (hadP hd'') ∧ hadHp hd' = hadHp hd'' ∧ DRep bd 100 ps' ps'.length = DRep bd 100 ps'' ps''.length ∧ UH u' bd s' = UH u' bd s'' ∧ Inv9 s'' ps'' ∧ ∀ x, hd'' = some x → addrOk at' = true ∧ Stays at' x.2.2.2 s'' := fun u' s' ps' hd' h1 h2 => ⟨k + 1, s', ps', hd', by omega, by omega, rfl, rfl, rfl, rfl, h1, h2⟩
  refine ⟨_, _, _, _, _, _, _, _, _, Call09.load (a := a) (n := l.length) hgk, fun _ => ?_⟩
  have crash : ∀ (B : Value → HP), (∀ R h, (HP.sep (DRep bd 100 ps ps.length) (Ls kCall09 a l.length l)).p R h → (B (.tuple #[])).p R h) → Tri Try.prog 16 #[.pointer (some ⟨bd, 0, none⟩), .slice x.cell_dataa x.cell_data.length x.cell_datac] (HP.sep (DRep bd 100 ps ps.length) (Ls kCall09 a l.length l)) B := fun B hB => by
    refine Tri.fact (φ := x.cell_data.length ≠ 0 → x.cell_dataa.isSome = true) (fun R h H hn => RoC.some ((HP.sep_right H).2.2 x (List.mem_of_getElem? hgk)).2.2.2.2.1.2 (by omega)) fun hxa => ?_
    refine (dCrash_ok bd 100 ps ps.length x.cell_dataa _ x.cell_datac x.cell_data (Ls kCall09 a l.length l) rX rfl hxa hxl).weak (fun _ _ h => h) ?_
    rintro v R h ⟨rfl, H⟩
    rw [crash_same _ hI.2.1] at H
    exact hB R h H
  have opens : ∀ (B : Value → HP), (∀ u' R h, (HP.sep (UH u' bd s) (DRep bd 100 ps ps.length)).p R h → (B (.tuple #[.pointer (some ⟨u', 0, none⟩), .int .i64 0])).p R h) → Tri Try.prog 17 #[.pointer (some ⟨bd, 0, none⟩)] (DRep bd 100 ps ps.length) B := fun B hB => by
    obtain ⟨⟨s1, h1, h2⟩, _⟩ := hI
    refine (uOpen_ok bd 100 ps ps.length s1 h1).weak (fun _ _ h => h) ?_
    rintro v R h ⟨u', rfl, H⟩
    rw [h2] at H
    exact hB u' R h (UH.split H)
  have called : ∀ (rb : Nat) (B : Value → HP), (∀ bb a' n' c' P' R h, (HP.sep (UH u bd (callS 100 s ps x).1) (HP.sep (DRep bd 100 (callS 100 s ps x).2 (callS 100 s ps x).2.length) (HP.sep (HP.one rb (.cells #[.slice a' n' c', .int .i64 100] 45 (0, 0))) (HP.sep P' (Ls kCall09 a l.length l))))).p R h → (B (.bool bb)).p R h) →
      Tri Try.prog 18 #[.pointer (some ⟨u, 0, none⟩), .pointer (some ⟨rb, 0, none⟩), .agg x.vals.toArray] (HP.sep (UH u bd s) (HP.sep (DRep bd 100 ps ps.length) (HP.sep (HP.one rb (.cells #[.slice none 0 0, .int .i64 100] 45 (0, 0))) (Ls kCall09 a l.length l)))) B := fun rb B hB => by
    refine ((call09_ok u bd rb 100 s ps [] x (by decide) hxl).frame (Ls kCall09 a l.length l)).weak (fun R h H => ?_) ?_
    · have hL : ∀ h', (Ls kCall09 a l.length l).p R h' := fun h' => Ls.pers h' (HP.sep_right (HP.sep_right (HP.sep_right H)))
      refine joinPers ?_ hL
      refine HP.sep_mono (HP.sep_assoc' H) (fun y hy => UH.join hy) fun y hy => ?_
      refine RoC.joinR (B := RU rb 100 []) ((hL y).2.2 x (List.mem_of_getElem? hgk)).2.2.2.2.1.2 ?_
      exact RU.of (a := none) (c := 0) (es := []) rfl (by decide) rfl (HP.sep_mono hy (fun _ h => h) fun z _ => ⟨rfl, HP.sep_tt (OwC.nil _ _ _ _)⟩)
    · rintro v R h ⟨h1, h2, d, l1, l2, ⟨rfl, H⟩, HL⟩
      have H1 := HP.sep_assoc ⟨h1, h2, d, l1, l2, H, HL⟩
      obtain ⟨g1, g2, d2, m1, m2, HU, HR⟩ := H1
      obtain ⟨g3, g4, d3, m3, m4, ⟨g5, g6, d4, m5, m6, ⟨a', c', es, _, HRU⟩, _⟩, HL2⟩ := HP.sep_mono HR (fun _ h => h) fun _ h => h
      refine hB _ a' (callR 100 [] x).length c' (PL kPg a' (callR 100 [] x).length c' es) R h ?_
      have H2 : (HP.sep (UD u bd 100 (callS 100 s ps x).1 (callS 100 s ps x).2) (HP.sep (HP.sep (ROne rb a' (callR 100 [] x).length c' 100) (PL kPg a' (callR 100 [] x).length c' es)) (Ls kCall09 a l.length l))).p R h :=
        ⟨g1, g2, d2, m1, m2, HU, g3, g4, d3, m3, m4, HP.mono _ (PH.le.refl _) m5 HRU, HL2⟩
      exact HP.sep_assoc (HP.sep_mono H2 (fun y hy => UH.split hy) fun y hy => HP.sep_assoc hy)
  refine ⟨fun hw => ?_, fun hw => ⟨fun hw5 => ?_, fun hw5 rb => ?_⟩⟩
  · refine crash _ fun R h H => ⟨DRep bd 100 ps ps.length, rfl, ?_, H⟩
    clear H
    refine opens _ fun u' R h H => ⟨u', UH u' bd s, 0, DRep bd 100 ps ps.length, rfl, ⟨fun h => absurd rfl h, fun _ => ?_⟩, H⟩
    clear H
    clear crash opens called
    revert hI hS
    generalize s = s'
    generalize ps = ps'
    intro hI' hS'
    refine Tri.fact (φ := Bnd s') (fun R h H => UD.bnd (ub := u') (bd := bd) (room := 100) (ps := ps') (UH.join H)) fun hbn => ?_
    have bnd := readS_bnd (epoch := s'.epoch) (at' := at') hbn
    have hnew := read_new (s := s') (a := at')
    refine (uEpoch_ok u' bd (DRep bd 100 ps' ps'.length) s').weak (fun R h H => UH.join H) ?_
    rintro v R h ⟨rfl, H⟩
    refine ⟨_, rfl, ?_, UH.split H⟩
    clear H
    refine (uRead_ok u' bd (DRep bd 100 ps' ps'.length) s' s'.epoch at').weak (fun R h H => UH.join H) ?_
    rintro v R h ⟨ra, rc, rfl, H⟩
    have hst : ∀ x, hd = some x → (readS s' s'.epoch at').2 = 11 ∨ ((readS s' s'.epoch at').2 = 0 ∧ (readS s' s'.epoch at').1 = x.2.2.2) := fun x hx => read_stays (hS' x hx).1 (hS' x hx).2
    generalize readS s' s'.epoch at' = rv at *
    refine ⟨_, ra, _, rc, RoB ra rv.1.data.length rv.1.data, _, rfl, fun nb => ?_, HP.sep_mono (HP.sep_comm H) (fun _ h => h) fun y hy => UH.split hy⟩
    clear H
    have hn1 := next u' s' ps' hd hI' hS'
    rcases hd with _ | ⟨hb, xa, xc, z⟩
    · have hn2 : rv.2 = 0 → _ := fun h0 => next u' s' ps' (some (nb, ra, rc, rv.1)) hI' fun y hy => by cases hy; exact hnew h0
      have hinit : hadP (none : HadC) = none := rfl
      repeat' (first
        | refine ⟨false, neqNil (p := none), fun hc => absurd hc (by decide), fun _ => ?_⟩
        | refine ⟨true, eqNil (p := none), fun _ => ?_, fun hc => absurd rfl hc⟩
        | refine And.intro (fun (h0 : rv.2 = 0) => ?_) fun _ => ⟨inK, fun _ => ⟨hn1, meas⟩⟩
        | exact ⟨inK, fun _ => ⟨hn2 h0, meas⟩⟩
        | fail)
    · have h2 := hst _ rfl
      repeat' (first
        | refine ⟨true, neqNil (p := some ⟨hb, 0, none⟩), fun _ => ?_, fun hc => absurd rfl hc⟩
        | refine ⟨false, eqNil (p := some ⟨hb, 0, none⟩), fun hc => absurd hc (by decide), fun _ => ⟨inK, fun _ => ⟨hn1, meas⟩⟩⟩
        | refine And.intro (fun (h11 : ¬ rv.2 = 11) => And.intro (fun (hne : ¬ rv.2 = 0) => absurd (h2.resolve_left h11).1 hne) fun _ => ?_) (fun (h11 : rv.2 = 11) => And.intro (fun (h0 : rv.2 = 0) => ?_) fun _ => ⟨inK, fun _ => ⟨hn1, meas⟩⟩)
        | (exfalso; omega)
        | refine ⟨nilChk (p := ⟨hb, 0, none⟩), ?_⟩
        | refine ⟨_, _, _, _, loadCell (b := hb) rfl, ?_⟩
        | (refine (sameCell_ok rv.1.what ra _ rc rv.1.data z.what xa _ xc z.data (RoB ra rv.1.data.length rv.1.data) (HP.sep (HP.one hb (.cells #[.int .i64 z.what, .slice xa z.data.length xc] 32 (0, 0))) (RoB xa z.data.length z.data)) (RdL.ro _ _ _ _) (RdL.imp fun R h H => HP.sep_right H) rfl rfl bnd).weak (fun _ _ h => h) ?_
           rintro v R h ⟨rfl, H⟩
           have hz : rv.1 = z := (h2.resolve_left h11).2
           refine ⟨true, by rw [decide_eq_true (by rw [hz]; exact ⟨rfl, rfl⟩)], ⟨fun h => absurd rfl h, fun _ => ?_⟩, H⟩
           clear H)
        | fail)
  · refine crash _ fun R h H => ⟨DRep bd 100 ps ps.length, rfl, ?_, H⟩
    clear H
    refine opens _ fun u' R h H => ⟨u', UH u' bd s, 0, DRep bd 100 ps ps.length, rfl, ⟨fun h => absurd rfl h, fun _ => ?_⟩, H⟩
    clear H
    clear crash opens called
    revert hI hS
    generalize s = s'
    generalize ps = ps'
    intro hI' hS'
    refine Tri.fact (φ := Bnd s') (fun R h H => UD.bnd (ub := u') (bd := bd) (room := 100) (ps := ps') (UH.join H)) fun hbn => ?_
    have bnd := readS_bnd (epoch := s'.epoch) (at' := at') hbn
    have hnew := read_new (s := s') (a := at')
    refine (uEpoch_ok u' bd (DRep bd 100 ps' ps'.length) s').weak (fun R h H => UH.join H) ?_
    rintro v R h ⟨rfl, H⟩
    refine ⟨_, rfl, ?_, UH.split H⟩
    clear H
    refine (uRead_ok u' bd (DRep bd 100 ps' ps'.length) s' s'.epoch at').weak (fun R h H => UH.join H) ?_
    rintro v R h ⟨ra, rc, rfl, H⟩
    have hst : ∀ x, hd = some x → (readS s' s'.epoch at').2 = 11 ∨ ((readS s' s'.epoch at').2 = 0 ∧ (readS s' s'.epoch at').1 = x.2.2.2) := fun x hx => read_stays (hS' x hx).1 (hS' x hx).2
    generalize readS s' s'.epoch at' = rv at *
    refine ⟨_, ra, _, rc, RoB ra rv.1.data.length rv.1.data, _, rfl, fun nb => ?_, HP.sep_mono (HP.sep_comm H) (fun _ h => h) fun y hy => UH.split hy⟩
    clear H
    have hn1 := next u' s' ps' hd hI' hS'
    rcases hd with _ | ⟨hb, xa, xc, z⟩
    · have hn2 : rv.2 = 0 → _ := fun h0 => next u' s' ps' (some (nb, ra, rc, rv.1)) hI' fun y hy => by cases hy; exact hnew h0
      have hinit : hadP (none : HadC) = none := rfl
      repeat' (first
        | refine ⟨false, neqNil (p := none), fun hc => absurd hc (by decide), fun _ => ?_⟩
        | refine ⟨true, eqNil (p := none), fun _ => ?_, fun hc => absurd rfl hc⟩
        | refine And.intro (fun (h0 : rv.2 = 0) => ?_) fun _ => ⟨inK, fun _ => ⟨hn1, meas⟩⟩
        | exact ⟨inK, fun _ => ⟨hn2 h0, meas⟩⟩
        | fail)
    · have h2 := hst _ rfl
      repeat' (first
        | refine ⟨true, neqNil (p := some ⟨hb, 0, none⟩), fun _ => ?_, fun hc => absurd rfl hc⟩
        | refine ⟨false, eqNil (p := some ⟨hb, 0, none⟩), fun hc => absurd hc (by decide), fun _ => ⟨inK, fun _ => ⟨hn1, meas⟩⟩⟩
        | refine And.intro (fun (h11 : ¬ rv.2 = 11) => And.intro (fun (hne : ¬ rv.2 = 0) => absurd (h2.resolve_left h11).1 hne) fun _ => ?_) (fun (h11 : rv.2 = 11) => And.intro (fun (h0 : rv.2 = 0) => ?_) fun _ => ⟨inK, fun _ => ⟨hn1, meas⟩⟩)
        | (exfalso; omega)
        | refine ⟨nilChk (p := ⟨hb, 0, none⟩), ?_⟩
        | refine ⟨_, _, _, _, loadCell (b := hb) rfl, ?_⟩
        | (refine (sameCell_ok rv.1.what ra _ rc rv.1.data z.what xa _ xc z.data (RoB ra rv.1.data.length rv.1.data) (HP.sep (HP.one hb (.cells #[.int .i64 z.what, .slice xa z.data.length xc] 32 (0, 0))) (RoB xa z.data.length z.data)) (RdL.ro _ _ _ _) (RdL.imp fun R h H => HP.sep_right H) rfl rfl bnd).weak (fun _ _ h => h) ?_
           rintro v R h ⟨rfl, H⟩
           have hz : rv.1 = z := (h2.resolve_left h11).2
           refine ⟨true, by rw [decide_eq_true (by rw [hz]; exact ⟨rfl, rfl⟩)], ⟨fun h => absurd rfl h, fun _ => ?_⟩, H⟩
           clear H)
        | fail)
  · refine called rb _ fun bb a' n' c' P' R h H => ⟨bb, UH u bd (callS 100 s ps x).1, DRep bd 100 (callS 100 s ps x).2 (callS 100 s ps x).2.length, a', n', c', P', 100, rfl, ?_, H⟩
    clear H
    clear crash opens called
    have hI' := inv9_call (room := 100) hI x
    have hS' : ∀ y, hd = some y → addrOk at' = true ∧ Stays at' y.2.2.2 (callS 100 s ps x).1 := fun y hy => ⟨(hS y hy).1, stays_call (hS y hy).2 x⟩
    clear hI hS
    generalize (callS 100 s ps x).1 = s' at *
    generalize (callS 100 s ps x).2 = ps' at *
    generalize u = u' at *
    refine Tri.fact (φ := Bnd s') (fun R h H => UD.bnd (ub := u') (bd := bd) (room := 100) (ps := ps') (UH.join H)) fun hbn => ?_
    have bnd := readS_bnd (epoch := s'.epoch) (at' := at') hbn
    have hnew := read_new (s := s') (a := at')
    refine (uEpoch_ok u' bd (DRep bd 100 ps' ps'.length) s').weak (fun R h H => UH.join H) ?_
    rintro v R h ⟨rfl, H⟩
    refine ⟨_, rfl, ?_, UH.split H⟩
    clear H
    refine (uRead_ok u' bd (DRep bd 100 ps' ps'.length) s' s'.epoch at').weak (fun R h H => UH.join H) ?_
    rintro v R h ⟨ra, rc, rfl, H⟩
    have hst : ∀ x, hd = some x → (readS s' s'.epoch at').2 = 11 ∨ ((readS s' s'.epoch at').2 = 0 ∧ (readS s' s'.epoch at').1 = x.2.2.2) := fun x hx => read_stays (hS' x hx).1 (hS' x hx).2
    generalize readS s' s'.epoch at' = rv at *
    refine ⟨_, ra, _, rc, RoB ra rv.1.data.length rv.1.data, _, rfl, fun nb => ?_, HP.sep_mono (HP.sep_comm H) (fun _ h => h) fun y hy => UH.split hy⟩
    clear H
    have hn1 := next u' s' ps' hd hI' hS'
    rcases hd with _ | ⟨hb, xa, xc, z⟩
    · have hn2 : rv.2 = 0 → _ := fun h0 => next u' s' ps' (some (nb, ra, rc, rv.1)) hI' fun y hy => by cases hy; exact hnew h0
      have hinit : hadP (none : HadC) = none := rfl
      repeat' (first
        | refine ⟨false, neqNil (p := none), fun hc => absurd hc (by decide), fun _ => ?_⟩
        | refine ⟨true, eqNil (p := none), fun _ => ?_, fun hc => absurd rfl hc⟩
        | refine And.intro (fun (h0 : rv.2 = 0) => ?_) fun _ => ⟨inK, fun _ => ⟨hn1, meas⟩⟩
        | exact ⟨inK, fun _ => ⟨hn2 h0, meas⟩⟩
        | fail)
    · have h2 := hst _ rfl
      repeat' (first
        | refine ⟨true, neqNil (p := some ⟨hb, 0, none⟩), fun _ => ?_, fun hc => absurd rfl hc⟩
        | refine ⟨false, eqNil (p := some ⟨hb, 0, none⟩), fun hc => absurd hc (by decide), fun _ => ⟨inK, fun _ => ⟨hn1, meas⟩⟩⟩
        | refine And.intro (fun (h11 : ¬ rv.2 = 11) => And.intro (fun (hne : ¬ rv.2 = 0) => absurd (h2.resolve_left h11).1 hne) fun _ => ?_) (fun (h11 : rv.2 = 11) => And.intro (fun (h0 : rv.2 = 0) => ?_) fun _ => ⟨inK, fun _ => ⟨hn1, meas⟩⟩)
        | (exfalso; omega)
        | refine ⟨nilChk (p := ⟨hb, 0, none⟩), ?_⟩
        | refine ⟨_, _, _, _, loadCell (b := hb) rfl, ?_⟩
        | (refine (sameCell_ok rv.1.what ra _ rc rv.1.data z.what xa _ xc z.data (RoB ra rv.1.data.length rv.1.data) (HP.sep (HP.one hb (.cells #[.int .i64 z.what, .slice xa z.data.length xc] 32 (0, 0))) (RoB xa z.data.length z.data)) (RdL.ro _ _ _ _) (RdL.imp fun R h H => HP.sep_right H) rfl rfl bnd).weak (fun _ _ h => h) ?_
           rintro v R h ⟨rfl, H⟩
           have hz : rv.1 = z := (h2.resolve_left h11).2
           refine ⟨true, by rw [decide_eq_true (by rw [hz]; exact ⟨rfl, rfl⟩)], ⟨fun h => absurd rfl h, fun _ => ?_⟩, H⟩
           clear H)
        | fail)
end Go.Proofs.Ytmibmjehjagmbaa

/- Trees of functions, printed by rx.lean. No condition. -/
namespace Go.Proofs.Ytmibmjehjagmbaa.RX
set_option maxRecDepth 100000
-- tideline/tidelinelaw09.UnitWhole: ρ := [.a callsa, .n callsl, .n callsc, .p callsP, .i last_What, .i last_Epoch, .i last_At, .i last_Cell_What, .a last_Cell_Dataa, .n last_Cell_Datal, .n last_Cell_Datac, .p last_Cell_DataP, .i last_Ballot_Round, .i last_Ballot_Who, .i pick]
def t_unitWhole : T :=
(.new
(.call 13 [] [] [.c] (.w (.a (.bool (.v 16)))) []
(.br (.o1 .not (.v 16))
 (.ret (.w (.a (.bool (.c false)))) [((.a 0), (.prop 3)), ((.a 8), (.prop 11))])
 (.call 14 [(.a (.sl (.v 0) (.v 1) (.v 2)))] [((.a 0), (.prop 3))] [.c] (.w (.a (.bool (.v 17)))) [((.a 0), (.prop 3))]
 (.br (.v 17)
  (.ret (.w (.a (.bool (.c true)))) [((.a 0), (.prop 3)), ((.a 8), (.prop 11))])
  (.new
  (.call 14 [(.a (.sl (.b (.v 18) 0) (.n 1) (.n 1)))] [((.b (.v 18)), (.cells [(.int .i64 (.v 4)), (.int .i64 (.v 5)), (.int .i64 (.v 6)), (.int .i64 (.v 7)), (.sl (.v 8) (.v 9) (.v 10)), (.int .i64 (.v 12)), (.int .i64 (.v 13))] 36)), ((.a 8), (.prop 11))] [.c] (.w (.a (.bool (.v 19)))) [((.b (.v 18)), (.cells [(.int .i64 (.v 4)), (.int .i64 (.v 5)), (.int .i64 (.v 6)), (.int .i64 (.v 7)), (.sl (.v 8) (.v 9) (.v 10)), (.int .i64 (.v 12)), (.int .i64 (.v 13))] 36)), ((.a 8), (.prop 11))]
  (.br (.v 19)
   (.ret (.w (.a (.bool (.c true)))) [((.a 0), (.prop 3)), ((.a 8), (.prop 11))])
   (.br (.o2 .lt (.v 4) (.i 0))
    (.ret (.w (.a (.bool (.c true)))) [((.a 0), (.prop 3)), ((.a 8), (.prop 11))])
    (.br (.o2 .lt (.i 5) (.v 4))
     (.ret (.w (.a (.bool (.c true)))) [((.a 0), (.prop 3)), ((.a 8), (.prop 11))])
     (.call 15 [(.a (.int .i64 (.i 100)))] [] [.n, .p, .n, .p] (.tup [(.a (.ptr (.v 20) 0)), (.a (.ptr (.v 22) 0))]) [((.b (.v 20)), (.prop 21)), ((.b (.v 22)), (.prop 23))]
     (.new
     (.loop [.c, .i, .a, .n, .n, .p, .i, .p, .p, .p] [(.e (.o1 .not (.o1 .not (.c false)))), (.e (.o1 .neg (.o1 .neg (.i 0)))), (.a .nil), (.e (.o2 .nadd (.n 0) (.n 0))), (.e (.o2 .nadd (.n 0) (.n 0))), (.p []), (.e (.o1 .neg (.o1 .neg (.i 100)))), (.p [((.b (.v 20)), (.prop 21))]), (.p [((.b (.v 22)), (.prop 23))]), (.p [((.a 0), (.prop 3))])]
      (.br (.o2 .lt (.v 26) (.o1 .ofNat (.v 1)))
       (.need (.o2 .le (.i 0) (.v 26))
       (.need (.o1 .isSome (.v 0))
       (.read (.load 36 (.tmp 51)) 36 [(51, (.w (.a (.eptr 0 (.v 26) 7 0))))] [((.a 0), (.prop 34))] [.i, .i, .i, .i, .a, .n, .n, .i, .i] (.w (.agg [(.int .i64 (.v 35)), (.int .i64 (.v 36)), (.int .i64 (.v 37)), (.int .i64 (.v 38)), (.sl (.v 39) (.v 40) (.v 41)), (.int .i64 (.v 42)), (.int .i64 (.v 43))]))
       (.new
       (.br (.o2 .le (.i 0) (.v 35))
        (.br (.o2 .le (.v 35) (.i 5))
         (.call 18 [(.a (.ptr (.v 22) 0)), (.a (.ptr (.v 24) 0)), (.agg [(.int .i64 (.v 35)), (.int .i64 (.v 36)), (.int .i64 (.v 37)), (.int .i64 (.v 38)), (.sl (.v 39) (.v 40) (.v 41)), (.int .i64 (.v 42)), (.int .i64 (.v 43))])] [((.b (.v 22)), (.prop 33)), ((.b (.v 20)), (.prop 32)), ((.b (.v 24)), (.cells [(.sl (.v 27) (.v 28) (.v 29)), (.int .i64 (.v 31))] 45)), ((.a 27), (.prop 30)), ((.a 0), (.prop 34))] [.c, .p, .p, .a, .n, .n, .p, .i, .p] (.w (.a (.bool (.v 45)))) [((.b (.v 22)), (.prop 46)), ((.b (.v 20)), (.prop 47)), ((.b (.v 24)), (.cells [(.sl (.v 48) (.v 49) (.v 50)), (.int .i64 (.v 52))] 45)), ((.a 48), (.prop 51)), ((.a 0), (.prop 53))]
         (.br (.o1 .not (.v 45))
          (.ret (.w (.a (.bool (.c false)))) [((.a 0), (.prop 53)), ((.a 8), (.prop 11))])
          (.need (.o1 (.inr .i64) (.o2 .add (.v 26) (.i 1)))
          (.again 0 [(.e (.o1 .not (.o1 .not (.v 25)))), (.e (.o1 .neg (.o1 .neg (.o2 .add (.v 26) (.i 1))))), (.a (.v 48)), (.e (.o2 .nadd (.v 49) (.n 0))), (.e (.o2 .nadd (.v 50) (.n 0))), (.p [((.a 48), (.prop 51))]), (.e (.o1 .neg (.o1 .neg (.v 52)))), (.p [((.b (.v 20)), (.prop 47))]), (.p [((.b (.v 22)), (.prop 46))]), (.p [((.a 0), (.prop 53))])]))))
         (.need (.o1 (.inr .i64) (.o2 .add (.v 26) (.i 1)))
         (.again 0 [(.e (.o1 .not (.o1 .not (.v 25)))), (.e (.o1 .neg (.o1 .neg (.o2 .add (.v 26) (.i 1))))), (.a (.v 27)), (.e (.o2 .nadd (.v 28) (.n 0))), (.e (.o2 .nadd (.v 29) (.n 0))), (.p [((.a 27), (.prop 30))]), (.e (.o1 .neg (.o1 .neg (.v 31)))), (.p [((.b (.v 20)), (.prop 32))]), (.p [((.b (.v 22)), (.prop 33))]), (.p [((.a 0), (.prop 34))])])))
        (.need (.o1 (.inr .i64) (.o2 .add (.v 26) (.i 1)))
        (.again 0 [(.e (.o1 .not (.o1 .not (.v 25)))), (.e (.o1 .neg (.o1 .neg (.o2 .add (.v 26) (.i 1))))), (.a (.v 27)), (.e (.o2 .nadd (.v 28) (.n 0))), (.e (.o2 .nadd (.v 29) (.n 0))), (.p [((.a 27), (.prop 30))]), (.e (.o1 .neg (.o1 .neg (.v 31)))), (.p [((.b (.v 20)), (.prop 32))]), (.p [((.b (.v 22)), (.prop 33))]), (.p [((.a 0), (.prop 34))])])))))))
       (.call 33 [(.a (.ptr (.v 20) 0))] [((.b (.v 20)), (.prop 32))] [.n, .p, .p] (.w (.a (.ptr (.v 35) 0))) [((.b (.v 35)), (.prop 36)), ((.b (.v 20)), (.prop 37))]
       (.call 18 [(.a (.ptr (.v 22) 0)), (.a (.ptr (.v 24) 0)), (.agg [(.int .i64 (.v 4)), (.int .i64 (.v 5)), (.int .i64 (.v 6)), (.int .i64 (.v 7)), (.sl (.v 8) (.v 9) (.v 10)), (.int .i64 (.v 12)), (.int .i64 (.v 13))])] [((.b (.v 22)), (.prop 33)), ((.b (.v 20)), (.prop 37)), ((.b (.v 24)), (.cells [(.sl (.v 27) (.v 28) (.v 29)), (.int .i64 (.v 31))] 45)), ((.a 27), (.prop 30)), ((.a 8), (.prop 11))] [.c, .p, .p, .a, .n, .n, .p, .i, .p] (.w (.a (.bool (.v 38)))) [((.b (.v 22)), (.prop 39)), ((.b (.v 20)), (.prop 40)), ((.b (.v 24)), (.cells [(.sl (.v 41) (.v 42) (.v 43)), (.int .i64 (.v 45))] 45)), ((.a 41), (.prop 44)), ((.a 8), (.prop 46))]
       (.br (.o1 .not (.v 38))
        (.ret (.w (.a (.bool (.c false)))) [((.a 0), (.prop 34)), ((.a 8), (.prop 46))])
        (.call 34 [(.a (.ptr (.v 20) 0))] [((.b (.v 20)), (.prop 40))] [.a, .n, .n, .p] (.w (.a (.sl (.v 47) (.v 48) (.v 49)))) [((.a 47), (.prop 50)), ((.b (.v 20)), (.prop 40))]
        (.loop [.i, .p] [(.e (.o1 .neg (.o1 .neg (.o1 .ofNat (.v 28))))), (.p [((.b (.v 35)), (.prop 36))])]
         (.br (.o2 .lt (.v 51) (.o1 .ofNat (.v 48)))
          (.need (.o2 .le (.i 0) (.v 51))
          (.need (.o1 .isSome (.v 47))
          (.read (.load 30 (.tmp 93)) 30 [(93, (.w (.a (.eptr 47 (.v 51) 1 0))))] [((.a 47), (.prop 50))] [.a, .n, .n] (.w (.a (.sl (.v 53) (.v 54) (.v 55))))
          (.call 35 [(.a (.ptr (.v 35) 0)), (.a (.sl (.v 53) (.v 54) (.v 55)))] [((.b (.v 35)), (.prop 52)), ((.a 47), (.prop 50))] [.i, .p] (.w (.a (.int .i64 (.v 56)))) [((.b (.v 35)), (.prop 57)), ((.a 47), (.prop 50))]
          (.need (.o1 (.inr .i64) (.o2 .add (.v 51) (.i 1)))
          (.again 0 [(.e (.o1 .neg (.o1 .neg (.o2 .add (.v 51) (.i 1))))), (.p [((.b (.v 35)), (.prop 57))])]))))))
          (.new
          (.call 16 [(.a (.ptr (.v 35) 0)), (.a (.sl (.b (.v 53) 0) (.n 1) (.n 1)))] [((.b (.v 35)), (.prop 52)), ((.b (.v 53)), (.cells [(.int .u8 (.v 14))] 5))] [.p] (.tup []) [((.b (.v 35)), (.prop 54)), ((.b (.v 53)), (.cells [(.int .u8 (.v 14))] 5))]
          (.call 17 [(.a (.ptr (.v 35) 0))] [((.b (.v 35)), (.prop 54))] [.n, .p, .i, .p] (.tup [(.a (.ptr (.v 55) 0)), (.a (.int .i64 (.v 57)))]) [((.b (.v 55)), (.prop 56)), ((.b (.v 35)), (.prop 58))]
          (.new
          (.br (.o1 .not (.o2 .eq (.v 57) (.i 0)))
           (.ret (.w (.a (.bool (.c false)))) [((.a 0), (.prop 34)), ((.a 8), (.prop 46))])
           (.read (.slice 43 (.tmp 114) none (some (.tmp 115)) none) 43 [(114, (.w (.a (.sl (.v 41) (.v 42) (.v 43))))), (115, (.w (.a (.int .i64 (.o1 .ofNat (.v 28))))))] [((.a 41), (.prop 44))] [.a, .n, .n] (.w (.a (.sl (.v 60) (.v 61) (.v 62))))
           (.new
           (.br (.o2 .eq (.o2 .rem (.v 14) (.i 3)) (.i 1))
            (.call 36 [(.a (.ptr (.v 24) 0)), (.a (.ptr (.v 59) 0))] [((.b (.v 24)), (.cells [(.sl (.v 41) (.v 42) (.v 43)), (.int .i64 (.v 45))] 45)), ((.a 41), (.prop 44)), ((.b (.v 59)), (.cells [(.ptr (.v 55) 0)] 26)), ((.b (.v 55)), (.prop 56)), ((.b (.v 35)), (.prop 58))] [.c, .a, .n, .n, .p, .i, .n, .p] (.w (.a (.bool (.v 64)))) [((.b (.v 24)), (.cells [(.sl (.v 65) (.v 66) (.v 67)), (.int .i64 (.v 69))] 45)), ((.a 65), (.prop 68)), ((.b (.v 59)), (.cells [(.ptr (.v 70) 0)] 26)), ((.b (.v 70)), (.prop 71))]
            (.ret (.w (.a (.bool (.v 64)))) [((.a 0), (.prop 34)), ((.a 8), (.prop 46))]))
            (.call 36 [(.a (.ptr (.v 63) 0)), (.a (.ptr (.v 59) 0))] [((.b (.v 63)), (.cells [(.sl (.v 60) (.v 61) (.v 62)), (.int .i64 (.i 0))] 45)), ((.a 41), (.prop 44)), ((.b (.v 59)), (.cells [(.ptr (.v 55) 0)] 26)), ((.b (.v 55)), (.prop 56)), ((.b (.v 35)), (.prop 58))] [.c, .a, .n, .n, .p, .i, .n, .p] (.w (.a (.bool (.v 64)))) [((.b (.v 63)), (.cells [(.sl (.v 65) (.v 66) (.v 67)), (.int .i64 (.v 69))] 45)), ((.a 65), (.prop 68)), ((.b (.v 59)), (.cells [(.ptr (.v 70) 0)] 26)), ((.b (.v 70)), (.prop 71))]
            (.ret (.w (.a (.bool (.v 64)))) [((.a 0), (.prop 34)), ((.a 8), (.prop 46))]))))))))))))))))))))))))))))))
theorem tree_unitWhole : tree Try.prog { absT := [], opq := [], hv := [(0, [(.b (.v 24)), (.b (.v 20)), (.b (.v 22)), (.a 0)]), (2, [(.b (.v 35))])], keep := [87, 37, 39, 41, 109, 107, 62, 112, 111, 110, 133, 113, 19, 20, 38, 40, 21, 68, 14, 34], link := [(17, 0)], ent := [], turn := [(57, [100]), (29, [100]), (61, [0]), (69, [0]), (16, [0]), (35, [0])], shr := [], vt := [], mkd := [], rlink := [(15, 1, 0)], pty := [], outl := true, stay := [], snk := [] } Try.f6 [(.a (.sl (.v 0) (.v 1) (.v 2))), (.agg [(.int .i64 (.v 4)), (.int .i64 (.v 5)), (.int .i64 (.v 6)), (.int .i64 (.v 7)), (.sl (.v 8) (.v 9) (.v 10)), (.int .i64 (.v 12)), (.int .i64 (.v 13))]), (.a (.int .u8 (.v 14)))] [((.a 0), (.prop 3)), ((.a 8), (.prop 11))] 15 = t_unitWhole := by kernel_rfl
-- tideline/tidelinelaw09.UnitWhole$1: ρ := [.n w, .p wP, .n x, .n x, .p xP]
def t_isW : T :=
(.call 20 [(.a (.ptr (.v 3) 0))] [((.b (.v 3)), (.prop 4))] [.i] (.w (.a (.int .i64 (.v 5)))) [((.b (.v 3)), (.prop 4))]
(.call 37 [(.a (.ptr (.v 0) 0))] [((.b (.v 0)), (.prop 1))] [.i] (.w (.a (.int .i64 (.v 6)))) [((.b (.v 0)), (.prop 1))]
(.br (.o2 .eq (.v 5) (.v 6))
 (.call 38 [(.a (.ptr (.v 3) 0))] [((.b (.v 3)), (.prop 4))] [.i] (.w (.a (.int .i64 (.v 7)))) [((.b (.v 3)), (.prop 4))]
 (.call 39 [(.a (.ptr (.v 0) 0))] [((.b (.v 0)), (.prop 1))] [.i] (.w (.a (.int .i64 (.v 8)))) [((.b (.v 0)), (.prop 1))]
 (.br (.o2 .eq (.v 7) (.v 8))
  (.call 40 [(.a (.ptr (.v 3) 0))] [((.b (.v 3)), (.prop 4))] [.i] (.w (.a (.int .i64 (.v 9)))) [((.b (.v 3)), (.prop 4))]
  (.call 41 [(.a (.ptr (.v 0) 0))] [((.b (.v 0)), (.prop 1))] [.i] (.w (.a (.int .i64 (.v 10)))) [((.b (.v 0)), (.prop 1))]
  (.ret (.w (.a (.bool (.o2 .eq (.v 9) (.v 10))))) [((.b (.v 0)), (.prop 1)), ((.b (.v 2)), (.cells [(.ptr (.v 3) 0)] 26)), ((.b (.v 3)), (.prop 4))])))
  (.ret (.w (.a (.bool (.c false)))) [((.b (.v 0)), (.prop 1)), ((.b (.v 2)), (.cells [(.ptr (.v 3) 0)] 26)), ((.b (.v 3)), (.prop 4))]))))
 (.ret (.w (.a (.bool (.c false)))) [((.b (.v 0)), (.prop 1)), ((.b (.v 2)), (.cells [(.ptr (.v 3) 0)] 26)), ((.b (.v 3)), (.prop 4))]))))
theorem tree_isW : tree Try.prog { absT := [], opq := [], hv := [], keep := [87, 37, 39, 41, 109, 107, 62, 112, 111, 110, 133, 113, 19, 20, 38, 40, 21, 68, 14, 34], link := [(17, 0)], ent := [], turn := [(57, [100]), (29, [100]), (61, [0]), (69, [0]), (16, [0]), (35, [0])], shr := [], vt := [], mkd := [], rlink := [(15, 1, 0)], pty := [], outl := true, stay := [], snk := [] } Try.f36 [(.a (.ptr (.v 0) 0)), (.a (.ptr (.v 2) 0))] [((.b (.v 0)), (.prop 1)), ((.b (.v 2)), (.cells [(.ptr (.v 3) 0)] 26)), ((.b (.v 3)), (.prop 4))] 5 = t_isW := by kernel_rfl
end Go.Proofs.Ytmibmjehjagmbaa.RX

/- UnitWhole's helpers, as contracts. No condition. -/
namespace Go.Proofs.Ytmibmjehjagmbaa
set_option linter.unusedSimpArgs false
set_option linter.unusedVariables false
open Go.Proofs.Ytmibmjehjagmbaa RX
set_option maxRecDepth 100000

def tailF (m : Int) (x : RPg) : Int := if x.kind ≤ 2 then max m (x.n + 1) else m
def tailR (l : List RPg) : Int := l.foldl tailF (lastR l 3)
theorem tailF_max (m k : Int) (x : RPg) : tailF (max m k) x = max (tailF m x) k := by unfold tailF; split <;> omega
theorem fold_max (k : Int) : ∀ (l : List RPg) (m : Int), l.foldl tailF (max m k) = max (l.foldl tailF m) k
  | [], _ => rfl
  | x :: l, m => by
    simp only [List.foldl_cons]
    rw [tailF_max, fold_max k l]
theorem tailR_eq {l : List RPg} (h : 0 ≤ lastR l 3) : tailR l = max (topU l) (lastR l 3) := by
  have := fold_max (lastR l 3) l 0
  have e : max 0 (lastR l 3) = lastR l 3 := by omega
  rw [e] at this
  exact this
theorem fold_take {l : List RPg} {k : Nat} {x : RPg} (h : l[k]? = some x) (m : Int) : (l.take (k + 1)).foldl tailF m = tailF ((l.take k).foldl tailF m) x := by
  rw [List.take_add_one, h, List.foldl_append]; rfl
section
variable (rb : Nat) (room : Int) (pgs : List RPg)
abbrev RUraw (rb : Nat) (room : Int) (a : Option Addr) (n c : Nat) (es : List PgE) : HP := HP.sep (ROne rb a n c room) (PL kPg a n c es)
theorem qLastRaw_ok (kind : Int) {a : Option Addr} {c : Nat} {es : List PgE} (he : es.map PgE.pg = pgs) (hb : pgs.length ≤ 1000000) (ha : pgs.length ≠ 0 → a.isSome = true) : Tri Try.prog 87 #[.pointer (some ⟨rb, 0, none⟩), .int .i64 kind] (RUraw rb room a pgs.length c es) (fun v => HP.and (v = .int .i64 (lastR pgs kind)) (RUraw rb room a pgs.length c es)) := by
  refine tri_of_tree (ρ := rRho rb a pgs.length c es room ++ [.i kind]) mixed Try.func87 tree_qLast ?_
  unfold t_qLast
  simp only [T.den, E.prop, E.den, RX.look, F1.app, F2.app, Uni.int_i, Uni.nat_n, Uni.bool_c, Uni.str_s, Uni.adr_a, Uni.val_v, Uni.hp_p, hden, cden, V.den, W.den, A.den, BR.den, SA.den, FV.den, capV, exs, exP, allP, Cur.app, List.map_cons, List.map_nil, List.cons_append, List.nil_append, List.drop_succ_cons, List.drop_zero, List.length_cons, List.length_nil, Nat.zero_add, Nat.reduceAdd, Int.neg_neg, Bool.not_not, List.append_nil, Nat.add_zero, List.getElem?_cons_zero, List.getElem?_cons_succ, Decidable.not_not, semW_eq, semW_load, semW_store, semW_storeC, semW_append, semW_lookup, semW_lookupC, semW_update, semW_updateC, semW_updateK, semW_delete, semW_range, semW_next, semW_entry, semW_nil, ne_eq, Nat.reduceEqDiff, not_false_eq_true]
  refine ⟨inI64 _ (by omega) (by omega), fun _ => ?_⟩
  refine ⟨fun _ i => ∃ k : Nat, i = (k : Int) - 1 ∧ k ≤ pgs.length ∧ findU (fun x => decide (x.kind = kind)) pgs pgs.length = findU (fun x => decide (x.kind = kind)) pgs k, fun _ i => (i + 1).toNat, ⟨pgs.length, rfl, Nat.le_refl _, rfl⟩, ?_⟩
  rintro _ _ ⟨k, rfl, hk, hf⟩
  refine ⟨fun h0 => ⟨by omega, fun _ => ⟨ha (by omega), fun _ => ?_⟩⟩, fun h0 => .of fun R h H => ⟨?_, H⟩⟩
  · obtain ⟨j, rfl⟩ : ∃ j, k = j + 1 := ⟨k - 1, by omega⟩
    obtain ⟨x, hx, hg⟩ := pgAt he (show j < pgs.length by omega)
    have e1 : ((((j + 1 : Nat) : Int) - 1).toNat) = j := by omega
    rw [e1]
    refine ⟨_, loadPg1 undIb aggI szI hx (off := 0) rfl, ⟨fun hy => ⟨_, loadPg1 undIb aggI szI hx (off := 1) rfl, .of fun R h H => ⟨?_, H⟩⟩, fun hn => ⟨inI64 _ (by omega) (by omega), fun _ => ⟨⟨j, by omega, by omega, ?_⟩, by dsimp only; omega⟩⟩⟩⟩
    · unfold lastR
      rw [hf, findU_step hg, if_pos (by simpa using hy)]
      rfl
    · rw [hf, findU_step hg, if_neg (by simpa using hn)]
  · obtain rfl : k = 0 := by omega
    unfold lastR
    rw [hf]
    rfl
theorem qLowRaw_ok {a : Option Addr} {c : Nat} {es : List PgE} (he : es.map PgE.pg = pgs) (hb : pgs.length ≤ 1000000) (ha : pgs.length ≠ 0 → a.isSome = true) : Tri Try.prog 39 #[.pointer (some ⟨rb, 0, none⟩)] (RUraw rb room a pgs.length c es) (fun v => HP.and (v = .int .i64 (lastR pgs 3)) (RUraw rb room a pgs.length c es)) := by
  refine tri_of_tree (ρ := [.n rb, .p (RUraw rb room a pgs.length c es)]) mixed Try.func39 tree_qLow ?_
  unfold t_qLow
  simp only [T.den, E.prop, E.den, RX.look, F1.app, F2.app, Uni.int_i, Uni.nat_n, Uni.bool_c, Uni.str_s, Uni.adr_a, Uni.val_v, Uni.hp_p, hden, cden, V.den, W.den, A.den, BR.den, SA.den, FV.den, capV, exs, exP, allP, Cur.app, List.map_cons, List.map_nil, List.cons_append, List.nil_append, List.drop_succ_cons, List.drop_zero, List.length_cons, List.length_nil, Nat.zero_add, Nat.reduceAdd, Int.neg_neg, Bool.not_not, List.append_nil, Nat.add_zero, List.getElem?_cons_zero, List.getElem?_cons_succ, Decidable.not_not, semW_eq, semW_load, semW_store, semW_storeC, semW_append, semW_lookup, semW_lookupC, semW_update, semW_updateC, semW_updateK, semW_delete, semW_range, semW_next, semW_entry, semW_nil, ne_eq, Nat.reduceEqDiff, not_false_eq_true]
  refine (qLastRaw_ok rb room pgs 3 he hb ha).weak (fun _ _ h => h) ?_
  rintro v R h ⟨rfl, H⟩
  exact ⟨_, rfl, .of fun R h H => ⟨rfl, H⟩, H⟩
theorem qTail_ok (hn : ∀ x ∈ pgs, x.kind ≤ 2 → 0 ≤ x.n ∧ x.n ≤ 4294967296) : Tri Try.prog 41 #[.pointer (some ⟨rb, 0, none⟩)] (RU rb room pgs) (fun v => HP.and (v = .int .i64 (tailR pgs)) (RU rb room pgs)) := by
  refine RU.tri fun a c es he hb ha => ?_
  refine tri_of_tree (ρ := rRho rb a pgs.length c es room) mixed Try.func41 tree_qTail ?_
  unfold t_qTail
  simp only [T.den, E.prop, E.den, RX.look, F1.app, F2.app, Uni.int_i, Uni.nat_n, Uni.bool_c, Uni.str_s, Uni.adr_a, Uni.val_v, Uni.hp_p, hden, cden, V.den, W.den, A.den, BR.den, SA.den, FV.den, capV, exs, exP, allP, Cur.app, List.map_cons, List.map_nil, List.cons_append, List.nil_append, List.drop_succ_cons, List.drop_zero, List.length_cons, List.length_nil, Nat.zero_add, Nat.reduceAdd, Int.neg_neg, Bool.not_not, List.append_nil, Nat.add_zero, List.getElem?_cons_zero, List.getElem?_cons_succ, Decidable.not_not, semW_eq, semW_load, semW_store, semW_storeC, semW_append, semW_lookup, semW_lookupC, semW_update, semW_updateC, semW_updateK, semW_delete, semW_range, semW_next, semW_entry, semW_nil, ne_eq, Nat.reduceEqDiff, not_false_eq_true]
  refine (qLowRaw_ok rb room pgs he hb ha).weak (fun _ _ h => h) ?_
  rintro v R h ⟨rfl, H⟩
  refine ⟨_, rfl, ?_, H⟩
  clear H
  refine ⟨fun m i => ∃ k : Nat, i = k ∧ k ≤ pgs.length ∧ m = (pgs.take k).foldl tailF (lastR pgs 3), fun _ i => pgs.length - i.toNat, ⟨0, rfl, Nat.zero_le _, rfl⟩, ?_⟩
  rintro _ _ ⟨k, rfl, hk, rfl⟩
  refine ⟨fun h0 => ⟨by omega, fun _ => ⟨ha (by omega), fun _ => ?_⟩⟩, fun h0 => .of fun R h H => ⟨?_, RU.of he hb rfl H⟩⟩
  · obtain ⟨x, hx, hg⟩ := pgAt he (show k < pgs.length by omega)
    have hm := hn _ (List.mem_of_getElem? hg)
    have e1 : (k : Int).toNat = k := by omega
    rw [e1]
    have hs := fold_take hg (lastR pgs 3)
    refine ⟨_, loadPg1 undIb aggI szI hx (off := 0) rfl, ⟨fun hy => ⟨_, loadPg1 undIb aggI szI hx (off := 1) rfl, ?_⟩, fun hy => ⟨inI64 _ (by omega) (by omega), fun _ => ⟨⟨k + 1, by omega, by omega, ?_⟩, by dsimp only; omega⟩⟩⟩⟩
    · have hb2 := hm hy
      refine ⟨inI64 _ (by omega) (by omega), fun _ => ⟨inI64 _ (by omega) (by omega), fun _ => ⟨⟨k + 1, by omega, by omega, ?_⟩, by dsimp only; omega⟩⟩⟩
      rw [hs]; unfold tailF; rw [if_pos hy]
    · rw [hs]; unfold tailF; rw [if_neg hy]
  · obtain rfl : k = pgs.length := by omega
    rw [List.take_length]; rfl
end
theorem cloneP_ok (S : HP) (a : Option Addr) (n c : Nat) (xs : List PgRec) (hr : RdL S a n (pgCells xs)) (hl : xs.length = n) (hb : n ≤ 1000000) :
    Tri Try.prog 84 #[.slice a n c] S (fun v => HP.ex fun a' => HP.ex fun c' => HP.and (v = .slice a' n c') (HP.sep (OwC 110 2 a' n c' (pgCells xs)) S)) := by
  refine tri_of_tree (ρ := [.a a, .n n, .n c, .p S]) mixed Try.func84 tree_cloneP ?_
  unfold t_cloneP
  simp only [T.den, E.prop, E.den, RX.look, F1.app, F2.app, Uni.int_i, Uni.nat_n, Uni.bool_c, Uni.str_s, Uni.adr_a, Uni.val_v, Uni.hp_p, hden, cden, V.den, W.den, A.den, BR.den, SA.den, FV.den, capV, exs, exP, allP, Cur.app, List.map_cons, List.map_nil, List.cons_append, List.nil_append, List.drop_succ_cons, List.drop_zero, List.length_cons, List.length_nil, Nat.zero_add, Nat.reduceAdd, Int.neg_neg, Bool.not_not, List.append_nil, Nat.add_zero, List.getElem?_cons_zero, List.getElem?_cons_succ, Decidable.not_not, semW_eq, semW_load, semW_store, semW_storeC, semW_append, semW_lookup, semW_lookupC, semW_update, semW_updateC, semW_updateK, semW_delete, semW_range, semW_next, semW_entry, semW_nil, ne_eq, Nat.reduceEqDiff, not_false_eq_true]
  refine ⟨fun ha => .of fun R h H => ?_, fun ha x => ?_⟩
  · have hn : n = 0 := hr.none R h H (by simpa using ha)
    subst hn
    obtain rfl : xs = [] := List.eq_nil_of_length_eq_zero hl
    exact ⟨none, 0, rfl, HP.tt_sep H |> fun H => HP.sep_mono H (fun x _ => OwC.nil _ _ R x) fun _ h => h⟩
  · cases a with
    | none => simp at ha
    | some ad =>
      obtain ⟨i, hi, z1, z2, z3⟩ := info_parts infoP
      have happ := append_ok 106 106 110 i _ undP hi z1 (by rw [z2]; rfl) (by omega) (some ⟨x, 0, none⟩) 0 0 [] S ad n c (pgCells xs) hr.rd (by rw [z2, pgCells_len, hl]) (pgCells_one xs) (by unfold maxLen; omega) (by rw [z3]; omega)
      rw [z2] at happ
      refine happ.weak (fun R h H => HP.sep_mono H (fun y hy => ⟨rfl, .inr ⟨x, #[], rfl, hy, Nat.le_refl _, by unfold maxLen; omega, rfl, rfl⟩⟩) fun _ h => h) ?_
      rintro v R h ⟨a', c', rfl, H⟩
      rw [Nat.zero_add, List.nil_append] at H
      exact ⟨a', n, c', OwC 110 2 a' n c' (pgCells xs), by rw [Nat.zero_add], .of fun R' h' H' => ⟨a', c', rfl, HP.sep_comm H'⟩, H⟩
/-- Another device with the same pages, all of which last. -/
theorem dTwin_ok (b : Nat) (room : Int) (ps : List Pg) (lasts : Nat) : Tri Try.prog 33 #[.pointer (some ⟨b, 0, none⟩)] (DRep b room ps lasts)
    (fun v => HP.ex fun b' => HP.and (v = .pointer (some ⟨b', 0, none⟩)) (HP.sep (DRep b' room ps ps.length) (DRep b room ps lasts))) := by
  refine DRep.tri fun a c xs hI hx => ?_
  have h1 := hI.2.1; have h2 := hI.2.2.1
  refine tri_of_tree (ρ := [.n b, .i room, .a a, .n ps.length, .n c, .p (HP.sep (OwC 110 2 a ps.length c (pgCells xs)) (AllD xs ps)), .i lasts]) mixed Try.func33 tree_dTwin ?_
  unfold t_dTwin
  simp only [T.den, E.prop, E.den, RX.look, F1.app, F2.app, Uni.int_i, Uni.nat_n, Uni.bool_c, Uni.str_s, Uni.adr_a, Uni.val_v, Uni.hp_p, hden, cden, V.den, W.den, A.den, BR.den, SA.den, FV.den, capV, exs, exP, allP, Cur.app, List.map_cons, List.map_nil, List.cons_append, List.nil_append, List.drop_succ_cons, List.drop_zero, List.length_cons, List.length_nil, Nat.zero_add, Nat.reduceAdd, Int.neg_neg, Bool.not_not, List.append_nil, Nat.add_zero, List.getElem?_cons_zero, List.getElem?_cons_succ, Decidable.not_not, semW_eq, semW_load, semW_store, semW_storeC, semW_append, semW_lookup, semW_lookupC, semW_update, semW_updateC, semW_updateK, semW_delete, semW_range, semW_next, semW_entry, semW_nil, ne_eq, Nat.reduceEqDiff, not_false_eq_true]
  refine (cloneP_ok (HP.sep (OwC 110 2 a ps.length c (pgCells xs)) (AllD xs ps)) a ps.length c xs ⟨(OwC.rd _ _ _ _ _ _).left, fun R h H e => (RdL.ow 110 2 a ps.length c (pgCells xs)).none R _ (HP.sep_left H) e⟩ hx (by omega)).weak (fun _ _ h => h) ?_
  rintro v R h ⟨a', c', rfl, H⟩
  refine ⟨a', ps.length, c', HP.sep (OwC 110 2 a' ps.length c' (pgCells xs)) (AllD xs ps), HP.sep (OwC 110 2 a ps.length c (pgCells xs)) (AllD xs ps), rfl, fun b' => .of fun R h H => ?_, ?_⟩
  · have hall : ∀ z, (AllD xs ps).p R z := fun z => AllD.any (HP.sep_right (HP.sep_left (HP.sep_right H)))
    refine ⟨b', rfl, ?_⟩
    have H1 := HP.pick [_, _, _, _] [2, 3, 0, 1] (by decide) rfl (HP.sep_mono H (fun _ h => h) fun y hy => HP.sep_mono hy (fun _ h => h) fun z hz => hz)
    refine HP.sep_mono (HP.sep_assoc' H1) (fun y hy => ⟨a', c', xs, ⟨⟨hI.1, hI.2.1, hI.2.2.1, Nat.le_refl _⟩, hx⟩, hy⟩) fun y hy => ⟨a, c, xs, ⟨hI, hx⟩, hy⟩
  · have hall : ∀ z, (AllD xs ps).p R z := fun z => AllD.any (HP.sep_right (HP.sep_right H))
    exact HP.sep_mono H (fun y hy => joinPers hy hall) fun _ h => h
theorem isW_ok (rb xb ub bd : Nat) (room : Int) (pgs : List RPg) (s : USt) (D : HP) (hn : ∀ x ∈ pgs, x.kind ≤ 2 → 0 ≤ x.n ∧ x.n ≤ 4294967296) :
    Tri Try.prog 36 #[.pointer (some ⟨rb, 0, none⟩), .pointer (some ⟨xb, 0, none⟩)] (HP.sep (RU rb room pgs) (HP.sep (HP.one xb (.cells #[.pointer (some ⟨ub, 0, none⟩)] 26 (0, 0))) (URep ub bd D s)))
      (fun v => HP.and (v = .bool (decide (s.epoch = lastR pgs 4) && (decide (s.low = lastR pgs 3) && decide (max s.top s.low = tailR pgs)))) (HP.sep (RU rb room pgs) (HP.sep (HP.one xb (.cells #[.pointer (some ⟨ub, 0, none⟩)] 26 (0, 0))) (URep ub bd D s)))) := by
  refine tri_of_tree (ρ := [.n rb, .p (RU rb room pgs), .n xb, .n ub, .p (URep ub bd D s)]) mixed Try.func36 tree_isW ?_
  unfold t_isW
  simp only [T.den, E.prop, E.den, RX.look, F1.app, F2.app, Uni.int_i, Uni.nat_n, Uni.bool_c, Uni.str_s, Uni.adr_a, Uni.val_v, Uni.hp_p, hden, cden, V.den, W.den, A.den, BR.den, SA.den, FV.den, capV, exs, exP, allP, Cur.app, List.map_cons, List.map_nil, List.cons_append, List.nil_append, List.drop_succ_cons, List.drop_zero, List.length_cons, List.length_nil, Nat.zero_add, Nat.reduceAdd, Int.neg_neg, Bool.not_not, List.append_nil, Nat.add_zero, List.getElem?_cons_zero, List.getElem?_cons_succ, Decidable.not_not, semW_eq, semW_load, semW_store, semW_storeC, semW_append, semW_lookup, semW_lookupC, semW_update, semW_updateC, semW_updateK, semW_delete, semW_range, semW_next, semW_entry, semW_nil, ne_eq, Nat.reduceEqDiff, not_false_eq_true]
  refine (uEpoch_ok ub bd D s).weak (fun _ _ h => h) ?_
  rintro v R h ⟨rfl, H⟩
  refine ⟨_, rfl, ?_, H⟩
  clear H
  refine (qEpoch_ok rb room pgs).weak (fun _ _ h => h) ?_
  rintro v R h ⟨rfl, H⟩
  refine ⟨_, rfl, ⟨fun h1 => ?_, fun h1 => .of fun R h H => ⟨by simp [h1], H⟩⟩, H⟩
  clear H
  refine (uLow_ok ub bd D s).weak (fun _ _ h => h) ?_
  rintro v R h ⟨rfl, H⟩
  refine ⟨_, rfl, ?_, H⟩
  clear H
  refine (qLow_ok rb room pgs).weak (fun _ _ h => h) ?_
  rintro v R h ⟨rfl, H⟩
  refine ⟨_, rfl, ⟨fun h2 => ?_, fun h2 => .of fun R h H => ⟨by simp [h2], H⟩⟩, H⟩
  clear H
  refine (uTail_ok ub bd D s).weak (fun _ _ h => h) ?_
  rintro v R h ⟨rfl, H⟩
  refine ⟨_, rfl, ?_, H⟩
  clear H
  refine (qTail_ok rb room pgs hn).weak (fun _ _ h => h) ?_
  rintro v R h ⟨rfl, H⟩
  exact ⟨_, rfl, .of fun R h H => ⟨by simp [h1, h2], H⟩, H⟩
end Go.Proofs.Ytmibmjehjagmbaa

/- UnitWhole: the plain law of a crash behind one call. No condition. -/
namespace Go.Proofs.Ytmibmjehjagmbaa
open Go.Proofs.Ytmibmjehjagmbaa RX
set_option maxRecDepth 100000

theorem lastS_pages (room : Int) (s : USt) (ps : List Pg) (b : List UInt8) (s' : USt) : (lastS room s ps b s').2.2 = ps ∨ (lastS room s ps b s').2.2 = ps ++ [⟨1, b⟩] := by
  unfold lastS; split
  · exact .inl rfl
  · exact .inr rfl
theorem callS_pages (room : Int) (s : USt) (ps : List Pg) (c : Call09) : (callS room s ps c).2 = ps ∨ ∃ b, (callS room s ps c).2 = ps ++ [⟨1, b⟩] := by
  have L : ∀ b s', (lastS room s ps b s').2.2 = ps ∨ ∃ b', (lastS room s ps b s').2.2 = ps ++ [⟨1, b'⟩] := fun b s' => (lastS_pages room s ps b s').imp id fun e => ⟨b, e⟩
  unfold callS
  split
  · unfold writeS
    repeat' (first | exact .inl rfl | exact L _ _ | split)
  split
  · exact .inl rfl
  split
  · unfold trimS
    repeat' (first | exact .inl rfl | exact L _ _ | split)
  split
  · unfold sealS
    repeat' (first | exact .inl rfl | exact L _ _ | split)
  split
  · unfold promiseS
    repeat' (first | exact .inl rfl | exact L _ _ | exact .inr ⟨_, rfl⟩ | split)
  · unfold acceptS
    repeat' (first | exact .inl rfl | exact L _ _ | split)
theorem addR_pages (room : Int) (l : List RPg) (x : RPg) : (addR room l x).2 = l ∨ ∃ y, (addR room l x).2 = l ++ [y] := by
  unfold addR; split
  · exact .inl rfl
  · exact .inr ⟨_, rfl⟩
theorem callR_pages (room : Int) (l : List RPg) (c : Call09) : (callR room l c) = l ∨ ∃ y, (callR room l c) = l ++ [y] := by
  unfold callR
  split
  · unfold writeR
    repeat' (first | exact .inl rfl | exact addR_pages _ _ _ | split)
  split
  · exact .inl rfl
  split
  · unfold trimR
    repeat' (first | exact .inl rfl | exact addR_pages _ _ _ | split)
  split
  · unfold sealR
    repeat' (first | exact .inl rfl | exact addR_pages _ _ _ | split)
  split
  · unfold promiseR
    repeat' (first | exact .inl rfl | exact addR_pages _ _ _ | split)
  · unfold acceptR
    repeat' (first | exact .inl rfl | exact addR_pages _ _ _ | split)
theorem callR_take (room : Int) (l : List RPg) (c : Call09) : (callR room l c).take l.length = l ∧ l.length ≤ (callR room l c).length := by
  rcases callR_pages room l c with e | ⟨y, e⟩
  · rw [e]; exact ⟨List.take_length, Nat.le_refl _⟩
  · rw [e]; exact ⟨by simp, by simp⟩
theorem pick_one (p : UInt8) (i : Nat) : pickOf [p] i = p.toNat % 3 := by
  unfold pickOf
  simp [Nat.mod_one]
theorem trim_whole {q : List Pg} (h : ∀ p ∈ q, p.is = 1) : trimN q q.length = q.length := by
  cases hl : q.length with
  | zero => rfl
  | succ n =>
    have hg : q[n]? = some q[n] := List.getElem?_eq_getElem (by omega)
    simp only [trimN, hg]
    rw [if_neg]
    rw [h _ (List.getElem_mem (by omega))]
    decide
theorem wholes_app (a b : List Pg) : wholes (a ++ b) = wholes a ++ wholes b := by unfold wholes; simp
theorem crash_one (ps : List Pg) (h : ∀ p ∈ ps, p.is = 1) (b : List UInt8) (k : UInt8) : wholes (crashPs [k] (ps ++ [⟨1, b⟩]) ps.length) = if k.toNat % 3 = 1 then wholes (ps ++ [⟨1, b⟩]) else wholes ps := by
  unfold crashPs
  have e1 : (ps ++ [(⟨1, b⟩ : Pg)]).length - ps.length = 1 := by simp
  rw [e1]
  have eK : crashK [k] (ps ++ [⟨1, b⟩]) ps.length 1 = ps ++ [crashPg [k] 0 ⟨1, b⟩] := by
    simp only [crashK, Nat.add_zero]
    rw [List.getElem?_append_right (Nat.le_refl _), Nat.sub_self]
    show (ps ++ [(⟨1, b⟩ : Pg)]).set ps.length (crashPg [k] 0 ⟨1, b⟩) = _
    rw [List.set_append_right _ _ (Nat.le_refl _), Nat.sub_self]
    rfl
  show wholes ((crashK [k] (ps ++ [⟨1, b⟩]) ps.length 1).take (trimN _ _)) = _
  rw [eK]
  unfold crashPg
  rw [pick_one]
  have tr : ∀ x : Pg, x.is ≠ 0 → trimN (ps ++ [x]) (ps ++ [x]).length = ps.length + 1 := fun x hx => by
    rw [List.length_append, List.length_singleton]
    simp only [trimN]
    rw [List.getElem?_append_right (Nat.le_refl _), Nat.sub_self]
    exact if_neg hx
  by_cases h0 : k.toNat % 3 = 0
  · rw [if_pos h0, if_neg (by omega)]
    have e0 : trimN (ps ++ [(⟨0, []⟩ : Pg)]) (ps ++ [(⟨0, []⟩ : Pg)]).length = ps.length := by
      rw [List.length_append, List.length_singleton]
      simp only [trimN]
      rw [List.getElem?_append_right (Nat.le_refl _), Nat.sub_self]
      show (if (0 : Int) = 0 then trimN (ps ++ [(⟨0, []⟩ : Pg)]) ps.length else _) = _
      rw [if_pos rfl]
      cases hl : ps.length with
      | zero => rfl
      | succ n =>
        have hg : (ps ++ [(⟨0, []⟩ : Pg)])[n]? = some ps[n] := by rw [List.getElem?_append_left (by omega)]; exact List.getElem?_eq_getElem (by omega)
        simp only [trimN, hg]
        rw [if_neg]
        rw [h _ (List.getElem_mem (by omega))]
        decide
    rw [e0, List.take_left']
    rfl
  · rw [if_neg h0]
    by_cases h2 : k.toNat % 3 = 2
    · rw [if_pos h2, if_neg (by omega), tr _ (by decide), List.take_of_length_le (by simp), wholes_app]
      show wholes ps ++ [] = _
      rw [List.append_nil]
    · rw [if_neg h2, if_pos (by omega), tr _ (by show (1 : Int) ≠ 0; decide), List.take_of_length_le (by simp)]
theorem whole_crash {s : USt} {ps : List Pg} (h : Inv9 s ps) (c : Call09) (k : UInt8) :
    ∃ s1, foldS s0 (wholes (crashPs [k] (callS 100 s ps c).2 ps.length)) = some s1 ∧ forgS s1 = if k.toNat % 3 = 1 then (callS 100 s ps c).1 else s := by
  have h2 := inv9_call (room := 100) h c
  obtain ⟨⟨s1, f1, g1⟩, w1, _⟩ := h
  obtain ⟨⟨s2, f2, g2⟩, w2, _⟩ := h2
  rcases callS_pages 100 s ps c with e | ⟨b, e⟩
  · rw [e] at f2 ⊢
    rw [crash_same _ w1]
    refine ⟨s1, f1, ?_⟩
    rw [f1] at f2
    cases f2
    rw [← g2, ← g1]; simp
  · rw [e] at f2 ⊢
    rw [crash_one ps w1]
    by_cases hk : k.toNat % 3 = 1
    · rw [if_pos hk, if_pos hk]; exact ⟨s2, f2, g2⟩
    · rw [if_neg hk, if_neg hk]; exact ⟨s1, f1, g1⟩
end Go.Proofs.Ytmibmjehjagmbaa

/- UnitWhole, over what came in as assertions. No condition. -/
namespace Go.Proofs.Ytmibmjehjagmbaa
set_option linter.unusedSimpArgs false
set_option linter.unusedVariables false
open Go.Proofs.Ytmibmjehjagmbaa RX
set_option maxRecDepth 100000

theorem great1_ok (b : Nat) (Q : HP) (x : Call09) : Tri Try.prog 14 #[.slice (some ⟨b, 0, none⟩) 1 1] (HP.sep (HP.one b (.cells x.vals.toArray 36 (0, 0))) Q)
    (fun v => HP.ex fun g => HP.and (v = .bool g ∧ (g = false → x.cell_data.length ≤ 2000)) (HP.sep (HP.one b (.cells x.vals.toArray 36 (0, 0))) Q)) := by
  refine tri_of_tree (ρ := [.a (some ⟨b, 0, none⟩), .n 1, .n 1, .p (HP.sep (HP.one b (.cells x.vals.toArray 36 (0, 0))) Q)]) mixed Try.func14 tree_great09 ?_
  unfold t_great09
  simp only [T.den, E.prop, E.den, RX.look, F1.app, F2.app, Uni.int_i, Uni.nat_n, Uni.bool_c, Uni.str_s, Uni.adr_a, Uni.val_v, Uni.hp_p, hden, cden, V.den, W.den, A.den, BR.den, SA.den, FV.den, capV, exs, exP, allP, Cur.app, List.map_cons, List.map_nil, List.cons_append, List.nil_append, List.drop_succ_cons, List.drop_zero, List.length_cons, List.length_nil, Nat.zero_add, Nat.reduceAdd, Int.neg_neg, Bool.not_not, List.append_nil, Nat.add_zero, List.getElem?_cons_zero, List.getElem?_cons_succ, Decidable.not_not, semW_eq, semW_load, semW_store, semW_storeC, semW_append, semW_lookup, semW_lookupC, semW_update, semW_updateC, semW_updateK, semW_delete, semW_range, semW_next, semW_entry, semW_nil, ne_eq, Nat.reduceEqDiff, not_false_eq_true]
  have hld : ORead Try.prog (loadS 36 (.pointer ((some ⟨b, 0, none⟩ : Option Addr).map fun y => (y.add (0 * 7)).add 0))) (HP.sep (HP.one b (.cells x.vals.toArray 36 (0, 0))) Q) (.agg x.vals.toArray) := by
    obtain ⟨d, hd⟩ : ∃ d, Try.prog.underlying 36 = some d := Option.isSome_iff_exists.1 (by kernel_rfl)
    exact loadN_ok (vs := x.vals) hd (by kernel_rfl) (Rd.left (B := Q) (one_rd b x.vals.toArray 36)) (k := 0 * 7) (off := 0) (by kernel_rfl) (by simp) fun j v hj => by simpa using hj
  refine ⟨fun h => absurd h (by decide), fun _ => ?_⟩
  refine ⟨fun _ i => (i = 0) ∨ (i = 1 ∧ x.cell_data.length ≤ 2000), fun _ i => 1 - i.toNat, .inl rfl, ?_⟩
  rintro _ _ (rfl | ⟨rfl, h2⟩)
  · refine ⟨fun _ => ⟨by omega, fun _ => ⟨rfl, fun _ => ?_⟩⟩, fun h => absurd (by decide) h⟩
    refine ⟨_, _, _, _, _, _, _, _, _, hld, fun _ => ⟨fun _ => .of fun R h H => ⟨true, ⟨rfl, fun e => by cases e⟩, H⟩, fun h2 => ⟨inI64 _ (by omega) (by omega), fun _ => ⟨.inr ⟨rfl, by omega⟩, by show 1 - ((0 : Int) + 1).toNat < 1 - (0 : Int).toNat; decide⟩⟩⟩⟩
  · exact ⟨fun h => absurd h (by decide), fun _ => .of fun R h H => ⟨false, ⟨rfl, fun _ => h2⟩, H⟩⟩
theorem semW_slhi {i j : Nat} {t ty : TypeId} {u v : Value} (h : i ≠ j) : semW (.slice t (.tmp i) none (some (.tmp j)) none) ty [(i, u), (j, v)] = sliceS t u none (some v) none := by
  have hb : (i == j) = false := by simpa using h
  simp [semW, execOp, arW, sliceS, List.find?, hb]
theorem flat_takeK : ∀ (l : List PgE) (j : Nat), (l.take j).flatMap kPg.vals = (l.flatMap kPg.vals).take (j * 5)
  | [], j => by simp
  | x :: l, 0 => by simp
  | x :: l, j + 1 => by
    simp only [List.take_succ_cons, List.flatMap_cons]
    have e : (j + 1) * 5 = (kPg.vals x).length + j * 5 := by
      have e5 : (kPg.vals x).length = 5 := kPg.len x
      rw [e5]; omega
    rw [flat_takeK l j, e, List.take_length_add_append]
theorem PLtake {a : Option Addr} {n c : Nat} {l : List PgE} {R h : PH} (H : (PL kPg a n c l).p R h) (j : Nat) (hj : j ≤ n) (k : Nat) (hk : k = 0) : (PL kPg (if c = 0 then a else a.map (·.add k)) j c (l.take j)).p R h := by
  refine ⟨by rw [List.length_take, H.1]; omega, HP.sep_mono H.2 (fun y hy => ?_) fun y hy => ?_⟩
  · rw [flat_takeK]
    exact OwC.shrink hy j hj k hk
  · have e : l.map kPg.rep = (l.take j).map kPg.rep ++ (l.drop j).map kPg.rep := by rw [← List.map_append, List.take_append_drop]
    rw [e] at hy
    exact HP.sep_left (sepN_app.1 hy)
theorem is_true {room : Int} {s : USt} {ps : List Pg} {rl : List RPg} (hI : Inv9 s ps) (hR : Rel9 room s ps rl) : (decide (s.epoch = lastR rl 4) && (decide (s.low = lastR rl 3) && decide (max s.top s.low = tailR rl))) = true := by
  have h0 : 0 ≤ lastR rl 3 := by rw [← hR.low]; exact hI.2.2.2
  rw [decide_eq_true hR.epoch, decide_eq_true hR.low, decide_eq_true (by rw [tailR_eq h0, ← hR.top, ← hR.low])]
  rfl
theorem wholes_all {ps : List Pg} (h : ∀ p ∈ ps, p.is = 1) : wholes ps = ps.map Pg.data := by
  induction ps with
  | nil => rfl
  | cons p r ih =>
    have e : wholes (p :: r) = p.data :: wholes r := by
      show List.filterMap _ (p :: r) = _
      rw [List.filterMap_cons_some (b := p.data) (by rw [if_pos (h p (by simp))])]
      rfl
    rw [e, ih fun q hq => h q (List.mem_cons_of_mem _ hq)]
    rfl
theorem called_ok (u bd rb : Nat) (s : USt) (ps : List Pg) (rl : List RPg) (a' : Option Addr) (c' : Nat) (es : List PgE) (he : es.map PgE.pg = rl) (P : HP) (hP : ∀ R h, P.p R h → (PL kPg a' rl.length c' es).p R h) (x : Call09) (hxl : x.cell_data.length ≤ 140737488355328) (L : HP) (hL : ∀ R h h', L.p R h → L.p R h') (hro : ∀ R h, L.p R h → (RoB x.cell_dataa x.cell_data.length x.cell_data).p R h) (hb : rl.length ≤ 1000000) :
    Tri Try.prog 18 #[.pointer (some ⟨u, 0, none⟩), .pointer (some ⟨rb, 0, none⟩), .agg x.vals.toArray] (HP.sep (UH u bd s) (HP.sep (DRep bd 100 ps ps.length) (HP.sep (HP.one rb (.cells #[.slice a' rl.length c', .int .i64 100] 45 (0, 0))) (HP.sep P L))))
      (fun v => HP.ex fun a2 => HP.ex fun c2 => HP.ex fun es2 => HP.and (v = .bool (callB 100 s ps rl x) ∧ es2.map PgE.pg = callR 100 rl x) (HP.sep (UH u bd (callS 100 s ps x).1) (HP.sep (DRep bd 100 (callS 100 s ps x).2 (callS 100 s ps x).2.length) (HP.sep (HP.one rb (.cells #[.slice a2 (callR 100 rl x).length c2, .int .i64 100] 45 (0, 0))) (HP.sep (PL kPg a2 (callR 100 rl x).length c2 es2) L))))) := by
  refine ((call09_ok u bd rb 100 s ps rl x (by decide) hxl).frame L).weak (fun R h H => ?_) ?_
  · have hL0 : L.p R h := HP.sep_right (HP.sep_right (HP.sep_right (HP.sep_right H)))
    have hL' : ∀ h', L.p R h' := fun h' => hL R _ h' hL0
    refine joinPers ?_ hL'
    refine HP.sep_mono (HP.sep_assoc' H) (fun y hy => UH.join hy) fun y hy => ?_
    refine RoC.joinR (B := RU rb 100 rl) (hro R y (hL' y)) ?_
    exact RU.of (a := a') (c := c') (es := es) he hb rfl (HP.sep_mono hy (fun _ h => h) fun z hz => hP R z (HP.sep_left hz))
  · rintro v R h ⟨h1, h2, d, l1, l2, ⟨rfl, H⟩, HL⟩
    have H1 := HP.sep_assoc ⟨h1, h2, d, l1, l2, H, HL⟩
    obtain ⟨g1, g2, d2, m1, m2, HU, HR⟩ := H1
    obtain ⟨g3, g4, d3, m3, m4, ⟨g5, g6, d4, m5, m6, ⟨a2, c2, es2, he2, HRU⟩, _⟩, HL2⟩ := HR
    have H2 : (HP.sep (UD u bd 100 (callS 100 s ps x).1 (callS 100 s ps x).2) (HP.sep (HP.sep (ROne rb a2 (callR 100 rl x).length c2 100) (PL kPg a2 (callR 100 rl x).length c2 es2)) L)).p R h :=
      ⟨g1, g2, d2, m1, m2, HU, g3, g4, d3, m3, m4, HP.mono _ (PH.le.refl _) m5 HRU, HL2⟩
    exact ⟨a2, c2, es2, ⟨rfl, he2.1⟩, HP.sep_assoc (HP.sep_mono H2 (fun y hy => UH.split hy) fun y hy => HP.sep_assoc hy)⟩
set_option maxHeartbeats 4000000 in
theorem unitWhole_ok (a : Option Addr) (c : Nat) (l : List Call09) (hlen : ∀ x ∈ l, x.cell_data.length ≤ 140737488355328) (y : Call09) (hy : y.cell_data.length ≤ 140737488355328) (pk : UInt8) :
    Tri Try.prog 6 #[.slice a l.length c, .agg y.vals.toArray, .int .u8 pk.toNat] (HP.sep (Ls kCall09 a l.length l) (RoB y.cell_dataa y.cell_data.length y.cell_data)) (fun v => HP.pure (v = .bool true)) := by
  refine Tri.fact (φ := l.length ≠ 0 → a.isSome = true) (fun R h H hn => RoC.some (HP.sep_left H).2.1 (by omega)) fun ha => ?_
  refine tri_of_tree (ρ := [.a a, .n l.length, .n c, .p (Ls kCall09 a l.length l), .i y.what, .i y.epoch, .i y.at_, .i y.cell_what, .a y.cell_dataa, .n y.cell_data.length, .n y.cell_datac, .p (RoB y.cell_dataa y.cell_data.length y.cell_data), .i y.br_r, .i y.br_w, .i pk.toNat]) mixed Try.func6 tree_unitWhole ?_
  unfold t_unitWhole
  simp (maxSteps := 3000000) only [T.den, E.prop, E.den, RX.look, F1.app, F2.app, Uni.int_i, Uni.nat_n, Uni.bool_c, Uni.str_s, Uni.adr_a, Uni.val_v, Uni.hp_p, hden, cden, V.den, W.den, A.den, BR.den, SA.den, FV.den, capV, exs, exP, allP, Cur.app, List.map_cons, List.map_nil, List.cons_append, List.nil_append, List.drop_succ_cons, List.drop_zero, List.length_cons, List.length_nil, Nat.zero_add, Nat.reduceAdd, Int.neg_neg, Bool.not_not, List.append_nil, Nat.add_zero, List.getElem?_cons_zero, List.getElem?_cons_succ, Decidable.not_not, semW_eq, semW_load, semW_store, semW_storeC, semW_append, semW_lookup, semW_lookupC, semW_update, semW_updateC, semW_updateK, semW_delete, semW_range, semW_next, semW_entry, semW_nil, ne_eq, Nat.reduceEqDiff, not_false_eq_true]
  intro _
  refine speaks09_ok.weak (fun _ _ _ => trivial) ?_
  rintro v R h rfl
  refine ⟨true, rfl, ⟨fun h => absurd rfl h, fun _ => ?_⟩, trivial⟩
  refine (great09_ok a c l).weak (fun _ _ h => h) ?_
  rintro v R h ⟨g, ⟨rfl, hg⟩, H⟩
  refine ⟨g, rfl, ⟨fun _ => .of fun R h H => trivial, fun hgf => ?_⟩, H⟩
  have h60 := (hg (by simpa using hgf)).1
  clear H
  intro bq
  refine (great1_ok bq (RoB y.cell_dataa y.cell_data.length y.cell_data) y).weak (fun _ _ h => h) ?_
  rintro v R h ⟨g2, ⟨rfl, hg2⟩, H⟩
  refine ⟨g2, rfl, ⟨fun _ => .of fun R h H => trivial, fun hgf2 => ?_⟩, H⟩
  clear H
  refine ⟨fun _ => .of fun R h H => trivial, fun hw0 => ⟨fun _ => .of fun R h H => trivial, fun hw5 => ?_⟩⟩
  refine (laid09_ok 100 (by decide) (by decide)).weak (fun _ _ _ => trivial) ?_
  rintro v R h ⟨bd, ub, rfl, H⟩
  refine ⟨bd, DRep bd 100 [] 0, ub, UH ub bd s0, rfl, ?_, H⟩
  clear H
  intro rb
  refine ⟨fun _ i a' n' c' P rm Dd U L => ∃ (k : Nat) (s : USt) (ps : List Pg) (rl : List RPg) (es : List PgE), i = k ∧ k ≤ l.length ∧ n' = rl.length ∧ (∀ R h, P.p R h → (PL kPg a' rl.length c' es).p R h) ∧ es.map PgE.pg = rl ∧ rm = 100 ∧ Dd = DRep bd 100 ps ps.length ∧ U = UH ub bd s ∧ L = Ls kCall09 a l.length l ∧ Inv9 s ps ∧ Rel9 100 s ps rl, fun _ i _ _ _ _ _ _ _ _ => l.length - i.toNat,
    ⟨0, s0, [], [], [], rfl, Nat.zero_le _, rfl, fun R h _ => ⟨rfl, HP.sep_tt (OwC.nil _ _ _ _)⟩, rfl, rfl, rfl, rfl, rfl, inv9_new, rel9_new 100 (by decide)⟩, ?_⟩
  rintro _ _ a' _ c' P _ _ _ _ ⟨k, s, ps, rl, es, rfl, hk, rfl, hP, he, rfl, rfl, rfl, rfl, hI, hR⟩
  have hrl : rl.length ≤ 1000000 := by have := hR.room; omega
  refine ⟨fun hlt => ⟨by omega, fun _ => ⟨ha (by omega), fun _ => ?_⟩⟩, fun hge => ?_⟩
  · have hkl : k < l.length := by omega
    have hgk : l[k]? = some l[k] := List.getElem?_eq_getElem hkl
    have hxl := hlen _ (List.getElem_mem hkl)
    generalize l[k] = x at hgk hxl
    have inK : IntKind.i64.min ≤ (k : Int) + 1 ∧ (k : Int) + 1 ≤ IntKind.i64.max := inI64 _ (by omega) (by omega)
    have meas : l.length - ((k : Int) + 1).toNat < l.length - (k : Int).toNat := by omega
    refine ⟨_, _, _, _, _, _, _, _, _, Call09.load (a := a) (n := l.length) hgk, fun _ => ⟨fun hw => ⟨fun hw5 => ?_, fun _ => ⟨inK, fun _ => ⟨⟨k + 1, s, ps, rl, es, by omega, by omega, rfl, hP, he, rfl, rfl, rfl, rfl, hI, hR⟩, meas⟩⟩⟩, fun _ => ⟨inK, fun _ => ⟨⟨k + 1, s, ps, rl, es, by omega, by omega, rfl, hP, he, rfl, rfl, rfl, rfl, hI, hR⟩, meas⟩⟩⟩⟩
    refine (called_ok ub bd rb s ps rl a' c' es he P hP x hxl (Ls kCall09 a l.length l) (fun R h h' H => Ls.pers h' H) (fun R h H => (H.2.2 x (List.mem_of_getElem? hgk)).2.2.2.2.1.2) hrl).weak (fun _ _ h => h) ?_
    rintro v R h ⟨a2, c2, es2, ⟨rfl, he2⟩, H⟩
    obtain ⟨cb, hR2⟩ := hR.call x
    refine ⟨_, UH ub bd (callS 100 s ps x).1, DRep bd 100 (callS 100 s ps x).2 (callS 100 s ps x).2.length, a2, (callR 100 rl x).length, c2, PL kPg a2 (callR 100 rl x).length c2 es2, 100, Ls kCall09 a l.length l, rfl, ⟨fun hb => absurd cb hb, fun _ => ⟨inK, fun _ => ⟨⟨k + 1, _, _, _, es2, by omega, by omega, rfl, fun _ _ h => h, he2, rfl, rfl, rfl, rfl, inv9_call hI x, hR2⟩, meas⟩⟩⟩, H⟩
  · refine (dTwin_ok bd 100 ps ps.length).weak (fun _ _ h => h) ?_
    rintro v R h ⟨bb, rfl, H⟩
    refine ⟨bb, DRep bb 100 ps ps.length, DRep bd 100 ps ps.length, rfl, ?_, H⟩
    clear H
    refine (called_ok ub bd rb s ps rl a' c' es he P hP y hy (RoB y.cell_dataa y.cell_data.length y.cell_data) (fun R h h' H => HP.sep_left (RoC.join (B := HP.tt) (h' := h') H trivial)) (fun _ _ h => h) hrl).weak (fun _ _ h => h) ?_
    rintro v R h ⟨a2, c2, es2, ⟨rfl, he2⟩, H⟩
    obtain ⟨cb, hR2⟩ := hR.call y
    have hI2 := inv9_call (room := 100) hI y
    have hc2 : (callR 100 rl y).length ≤ c2 := OwC.le (HP.sep_left (HP.sep_left (HP.sep_right (HP.sep_right (HP.sep_right H)))).2)
    refine ⟨_, UH ub bd (callS 100 s ps y).1, DRep bd 100 (callS 100 s ps y).2 (callS 100 s ps y).2.length, a2, (callR 100 rl y).length, c2, PL kPg a2 (callR 100 rl y).length c2 es2, 100, RoB y.cell_dataa y.cell_data.length y.cell_data, rfl, ⟨fun hb => absurd cb hb, fun _ => ?_⟩, H⟩
    clear H
    refine (dPages_ok bd 100 (callS 100 s ps y).2 _).weak (fun _ _ h => h) ?_
    rintro v R h ⟨pa, pc, ⟨rfl, hD⟩, H⟩
    have wc := whole_crash hI y pk
    have hw2 := hI2.2.1
    have hrm := hR2.room
    have hln := hR2.len
    have hl1 := hR.len
    have hpp : (callS 100 s ps y).2.take ps.length = ps ∧ ps.length ≤ (callS 100 s ps y).2.length := by
      rcases callS_pages 100 s ps y with e | ⟨b, e⟩
      · rw [e]; exact ⟨List.take_length, Nat.le_refl _⟩
      · rw [e]; exact ⟨by simp, by simp⟩
    have hct := callR_take 100 rl y
    have it1 := is_true hI hR
    have it2 := is_true hI2 hR2
    have hn1 := hR.nums
    have hn2 := hR2.nums
    clear hI2 cb hR2
    generalize (callS 100 s ps y).1 = s2 at *
    generalize (callS 100 s ps y).2 = ps2 at *
    generalize callR 100 rl y = rl2 at *
    have hwl : (wholes ps2).length = ps2.length := by rw [wholes_all hw2, List.length_map]
    have hwd : ∀ (j : Nat) (p : Pg), ps2[j]? = some p → (wholes ps2)[j]? = some p.data := fun j p hj => by rw [wholes_all hw2, List.getElem?_map, hj]; rfl
    obtain ⟨g1, g2, dd, m1, m2, HD, xs, hxs, HX⟩ := H
    have hpa : (wholes ps2).length ≠ 0 → pa.isSome = true := fun h => OwC.some (HP.sep_left HX) (by omega)
    have hrec : ∀ (j : Nat) (d : List UInt8), (wholes ps2)[j]? = some d → ∃ x, xs[j]? = some x ∧ x.2.1 = d.length ∧ d.length ≤ 140737488355328 := fun j d hj => by
      obtain ⟨x, q1, q2, q3, _⟩ := AllB.get j (HP.sep_right HX) hj
      exact ⟨x, q1, q2, q3⟩
    refine ⟨pa, _, pc, HP.sep (OwC 30 1 pa (wholes ps2).length pc (xs.map slV)) (AllB xs (wholes ps2)), rfl, ?_, HP.sep_comm ⟨g1, g2, dd, m1, m2, HD, HX⟩⟩
    clear HX HD
    refine ⟨fun i D => ∃ j : Nat, i = j ∧ ps.length ≤ j ∧ j ≤ ps2.length ∧ D = DRep bb 100 (ps2.take j) ps.length, fun i _ => ps2.length - i.toNat, ⟨ps.length, by rw [hl1], Nat.le_refl _, hpp.2, by rw [hpp.1]⟩, ?_⟩
    rintro _ _ ⟨j, rfl, hj1, hj2, rfl⟩
    refine ⟨fun hlt => ⟨by omega, fun _ => ⟨hpa (by omega), fun _ => ?_⟩⟩, fun hge2 bk => ?_⟩
    · have hjl : j < ps2.length := by omega
      have hgj : ps2[j]? = some ps2[j] := List.getElem?_eq_getElem hjl
      have his := hw2 _ (List.getElem_mem hjl)
      have htk : ps2.take (j + 1) = ps2.take j ++ [ps2[j]] := by rw [List.take_add_one, hgj]; rfl
      generalize ps2[j] = p at hgj his htk
      obtain ⟨xr, hx, hxn, hxb⟩ := hrec j p.data (hwd j p hgj)
      have hld : ORead Try.prog (loadS 30 (.pointer (pa.map fun a => (a.add ((j : Int).toNat * 1)).add 0))) (HP.sep (OwC 30 1 pa (wholes ps2).length pc (xs.map slV)) (AllB xs (wholes ps2))) (.slice xr.1 xr.2.1 xr.2.2) := by
        obtain ⟨d, hd⟩ : ∃ d, Try.prog.underlying 30 = some d := Option.isSome_iff_exists.1 (by kernel_rfl)
        have e1 : (j : Int).toNat = j := by omega
        rw [e1]
        exact load1_ok hd (by kernel_rfl) (by kernel_rfl) (Rd.left (B := AllB xs (wholes ps2)) (OwC.rd 30 1 pa (wholes ps2).length pc (xs.map slV))) (k := j * 1) (off := 0) (by rw [Nat.mul_one, Nat.add_zero, List.getElem?_map, hx]; rfl)
      refine ⟨_, _, _, hld, ?_⟩
      refine (dAppend_ok bb 100 (ps2.take j) ps.length xr.1 xr.2.1 xr.2.2 p.data _ (RdL.imp fun R z H => ?_) hxn.symm (by omega)).weak (fun _ _ h => h) ?_
      · obtain ⟨x', q1, _, _, q4⟩ := AllB.get j (HP.sep_right H) (hwd j p hgj)
        rw [hx] at q1; cases q1
        exact q4
      · have ep : putPg 100 (ps2.take j) ⟨1, p.data⟩ = (0, ps2.take (j + 1)) := by
          unfold putPg
          rw [if_neg (by rw [List.length_take]; omega), htk]
          congr 3
          cases p; cases his; rfl
        rw [ep]
        rintro v R h ⟨rfl, H⟩
        exact ⟨0, DRep bb 100 (ps2.take (j + 1)) ps.length, rfl, ⟨inI64 _ (by omega) (by omega), fun _ => ⟨⟨j + 1, by omega, by omega, by omega, rfl⟩, by dsimp only; omega⟩⟩, H⟩
    · have ej : j = ps2.length := by omega
      rw [ej, List.take_length]
      refine (dCrash_ok bb 100 ps2 ps.length (some ⟨bk, 0, none⟩) 1 1 [pk] (HP.one bk (.cells #[.int .u8 pk.toNat] 5 (0, 0))) ⟨one_rd bk #[.int .u8 pk.toNat] _, fun _ _ _ e => by cases e⟩ rfl (fun _ => rfl) (by decide)).weak (fun _ _ h => h) ?_
      rintro v R h ⟨rfl, H⟩
      refine ⟨DRep bb 100 (crashPs [pk] ps2 ps.length) (crashPs [pk] ps2 ps.length).length, rfl, ?_, H⟩
      clear H
      obtain ⟨s1, f1, f2⟩ := wc
      refine (uOpen_ok bb 100 (crashPs [pk] ps2 ps.length) _ s1 f1).weak (fun _ _ h => h) ?_
      rw [f2]
      rintro v R h ⟨ux, rfl, H⟩
      refine ⟨ux, UH ux bb (if pk.toNat % 3 = 1 then s2 else s), 0, DRep bb 100 (crashPs [pk] ps2 ps.length) (crashPs [pk] ps2 ps.length).length, rfl, fun xb => ⟨fun h => absurd rfl h, fun _ => ?_⟩, UH.split H⟩
      clear H
      obtain ⟨i, hi, z1, z2, z3⟩ := info_parts infoPg
      have hsl := slice_ok undPgs hi (PL kPg a2 rl2.length c2 es2) a2 rl2.length c2 none (some rl.length) none (Nat.zero_le _) (by simp only [Option.getD_some, Option.getD_none]; omega) (Nat.le_refl _) (fun h => by cases h)
      simp only [Option.getD_some, Option.getD_none, Nat.sub_zero] at hsl
      rw [semW_slhi (by decide)]
      have htm : ((pk.toNat : Int).tmod 3) = ((pk.toNat % 3 : Nat) : Int) := rfl
      refine ⟨_, _, _, hsl, fun ob => ⟨fun h1 => ?_, fun h1 => ?_⟩⟩
      · have h1' : pk.toNat % 3 = 1 := by omega
        rw [if_pos h1']
        refine (isW_ok rb xb ux bb 100 rl2 s2 (DRep bb 100 (crashPs [pk] ps2 ps.length) (crashPs [pk] ps2 ps.length).length) hn2).weak (fun R h H => HP.sep_mono (HP.sep_assoc' H) (fun z hz => RU.of he2 (by omega) rfl hz) fun z hz => HP.sep_mono hz (fun _ h => h) fun u hu => UH.join hu) ?_
        rw [it2]
        rintro v R h ⟨rfl, u1, u2, du, n1, n2, ⟨a3, c3, es3, he3, HRU⟩, HX⟩
        exact ⟨true, a3, _, c3, PL kPg a3 rl2.length c3 es3, 100, ux, URep ux bb (DRep bb 100 (crashPs [pk] ps2 ps.length) (crashPs [pk] ps2 ps.length).length) s2, rfl, .of fun R h H => rfl, HP.sep_assoc ⟨u1, u2, du, n1, n2, HRU, HX⟩⟩
      · have h1' : ¬ pk.toNat % 3 = 1 := by omega
        rw [if_neg h1']
        have he3 : (es2.take rl.length).map PgE.pg = rl := by rw [List.map_take, he2]; exact hct.1
        refine (isW_ok ob xb ux bb 0 rl s (DRep bb 100 (crashPs [pk] ps2 ps.length) (crashPs [pk] ps2 ps.length).length) hn1).weak (fun R h H => HP.sep_mono (HP.sep_assoc' H) (fun z hz => RU.of he3 (by omega) rfl (HP.sep_mono hz (fun _ h => h) fun u hu => PLtake hu rl.length hct.2 _ (Nat.zero_mul _))) fun z hz => HP.sep_mono hz (fun _ h => h) fun u hu => UH.join hu) ?_
        rw [it1]
        rintro v R h ⟨rfl, u1, u2, du, n1, n2, ⟨a3, c3, es3, he4, HRU⟩, HX⟩
        exact ⟨true, a3, _, c3, PL kPg a3 rl.length c3 es3, 0, ux, URep ux bb (DRep bb 100 (crashPs [pk] ps2 ps.length) (crashPs [pk] ps2 ps.length).length) s, rfl, .of fun R h H => rfl, HP.sep_assoc ⟨u1, u2, du, n1, n2, HRU, HX⟩⟩
end Go.Proofs.Ytmibmjehjagmbaa

/- What comes into UnitWhole, and its walk. No condition. -/
namespace Go.Proofs.Ytmibmjehjagmbaa
open Go.RowKit Go.ChangeShapes Go.WideShapes Go.Deep RX
set_option maxRecDepth 100000

theorem u8_wf {x : Int} (h : (Lit.int IntKind.u8 x).wf = true) : ∃ b : UInt8, x = b.toNat := by
  have h2 : (decide (IntKind.u8.min ≤ x) && decide (x ≤ IntKind.u8.max)) = true := h
  rw [Bool.and_eq_true] at h2
  have h3 : (0 : Int) ≤ x := of_decide_eq_true h2.1
  have h4 : x ≤ (255 : Int) := of_decide_eq_true h2.2
  refine ⟨UInt8.ofNat x.toNat, ?_⟩
  rw [UInt8.toNat_ofNat']
  omega
theorem u8_open (base : Nat) (v : Value) (w : World) (hv : Value.okWide Try.prog w .any base 5 v) : ∃ n, v = .int .u8 n := by
  simp only [Value.okWide, Try.underlying5, Cell.okWide] at hv
  unfold Cell.ok at hv
  rw [Try.underlying5] at hv
  cases v <;> first | exact hv.elim | exact ⟨_, by rw [hv.1]⟩
/-- A parameter that is a byte. -/
theorem u8_openR {H : Type} {enc : TypeId × Value → H} {w : World} {base : Nat} {v : Value} (hv : Value.okWide Try.prog w .any base 5 v) (h : ∃ d p, DataW.Trod enc Try.prog w 0 (fun _ => true) true 5 v d p ∧ Small Try.prog 5 d) : ∃ b : UInt8, v = .int .u8 b.toNat := by
  obtain ⟨n, rfl⟩ := u8_open base v w hv
  obtain ⟨d, p, ⟨fuel, hf⟩, _⟩ := h
  obtain ⟨x, hx, _, hw⟩ := DataW.trod_int Try.underlying5 hf
  simp [Value.cells] at hx
  subst hx
  obtain ⟨b, hb⟩ := u8_wf hw
  exact ⟨b, by rw [hb]⟩
set_option maxRecDepth 100000 in
theorem unitWhole_walk {H : Type} (enc : TypeId × Value → H) (base : Nat) (v0 v1 v2 : Value) (w : World)
    (k0 : Value.okWide Try.prog w .any base 22 v0) (h0 : ∃ d p, DataW.Trod enc Try.prog w 0 (fun _ => true) true 22 v0 d p ∧ Small Try.prog 22 d)
    (k1 : Value.okWide Try.prog w .any base 36 v1) (h1 : ∃ d p, DataW.Trod enc Try.prog w 0 (fun _ => true) true 36 v1 d p ∧ Small Try.prog 36 d)
    (k2 : Value.okWide Try.prog w .any base 5 v2) (h2 : ∃ d p, DataW.Trod enc Try.prog w 0 (fun _ => true) true 5 v2 d p ∧ Small Try.prog 5 d) :
    Calls Try.prog 6 #[v0, v1, v2] w fun e w' => e = .returned (.bool true) ∧ Below w.heap.size w w' := by
  obtain ⟨a0, l0, c0, rfl, b0, z0⟩ := slice_open kCall09 Try.underlying22 (by kernel_rfl) (of_decide_eq_true (by kernel_rfl)) Call09.of_trod k0 h0
  obtain ⟨m1, rfl, z1⟩ := struct_open kCall09 Try.underlying36 Call09.of_trod k1 h1
  obtain ⟨n2, rfl⟩ := u8_openR k2 h2
  exact Tri.run (unitWhole_ok a0 c0 l0 (fun x hx => ((z0 PH.none').2.2 x hx).2.2.2.2.1.1) m1 ((z1 PH.none').2.2.2.2.1.1) n2) (joinPers (z0 _) (fun h => (z1 h).2.2.2.2.1.2))
end Go.Proofs.Ytmibmjehjagmbaa
