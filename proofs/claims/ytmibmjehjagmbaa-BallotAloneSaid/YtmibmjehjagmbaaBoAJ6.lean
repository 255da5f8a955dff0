/- Texts of this claim, joined: RefD, RefE, In09, TrLaw09, LawU, TrBal, BaA, BaB, BaC, BaD, Pax. No condition. -/
import Derived.Test.YtmibmjehjagmbaaBoAJ1
import Derived.Test.YtmibmjehjagmbaaBoAJ3
import Derived.Test.YtmibmjehjagmbaaBoAJ5
import Derived.KernelRfl
set_option linter.unusedSimpArgs false
set_option linter.unusedVariables false
/- The document's unit: contracts of its calls. No condition. -/
namespace Go.Proofs.Ytmibmjehjagmbaa
set_option linter.unusedSimpArgs false
set_option linter.unusedVariables false
open Go.Proofs.Ytmibmjehjagmbaa RX
set_option maxRecDepth 100000

section
variable (rb : Nat) (room : Int) (pgs : List RPg)
def trimR (l : List RPg) (epoch low : Int) : Int × List RPg := if askR l epoch low ≠ 0 then (askR l epoch low, l) else if low ≤ lastR l 3 then (0, l) else addR room l ⟨3, low, 0, 0, []⟩
theorem qTrim_ok (hroom : room ≤ 1000000) (epoch low : Int) : Tri Try.prog 64 #[.pointer (some ⟨rb, 0, none⟩), .int .i64 epoch, .int .i64 low] (RU rb room pgs) (fun v => HP.and (v = .int .i64 (trimR room pgs epoch low).1) (RU rb room (trimR room pgs epoch low).2)) := by
  refine tri_of_tree (ρ := [.n rb, .p (RU rb room pgs), .i epoch, .i low]) mixed Try.func64 tree_qTrim ?_
  unfold t_qTrim
  simp only [T.den, E.prop, E.den, RX.look, F1.app, F2.app, Uni.int_i, Uni.nat_n, Uni.bool_c, Uni.str_s, Uni.adr_a, Uni.val_v, Uni.hp_p, hden, cden, V.den, W.den, A.den, BR.den, SA.den, FV.den, capV, exs, exP, allP, Cur.app, List.map_cons, List.map_nil, List.cons_append, List.nil_append, List.drop_succ_cons, List.drop_zero, List.length_cons, List.length_nil, Nat.zero_add, Nat.reduceAdd, Int.neg_neg, Bool.not_not, List.append_nil, Nat.add_zero, List.getElem?_cons_zero, List.getElem?_cons_succ, Decidable.not_not, semW_eq, semW_load, semW_store, semW_storeC, semW_append, semW_lookup, semW_lookupC, semW_update, semW_updateC, semW_updateK, semW_delete, semW_range, semW_next, semW_entry, semW_nil, ne_eq, Nat.reduceEqDiff, not_false_eq_true]
  refine (qAsk_ok rb room pgs epoch low).weak (fun _ _ h => h) ?_
  rintro v R h ⟨rfl, H⟩
  refine ⟨_, rfl, ⟨fun h1 => .of fun R h H => ?_, fun h1 => ?_⟩, H⟩
  · unfold trimR; rw [if_pos h1]; exact ⟨rfl, H⟩
  clear H
  refine (qLow_ok rb room pgs).weak (fun _ _ h => h) ?_
  rintro v R h ⟨rfl, H⟩
  refine ⟨_, rfl, ⟨fun h2 => .of fun R h H => ?_, fun h2 => ?_⟩, H⟩
  · unfold trimR; rw [if_neg (by simpa using h1), if_pos h2]; exact ⟨by rw [show askR pgs epoch low = 0 by simpa using h1], H⟩
  clear H
  refine (qAddN_ok rb room pgs hroom ⟨3, low, 0, 0, []⟩ rfl).weak (fun _ _ h => h) ?_
  rintro v R h ⟨rfl, H⟩
  refine ⟨_, RU rb room (addR room pgs ⟨3, low, 0, 0, []⟩).2, rfl, .of fun R h H => ?_, H⟩
  unfold trimR; rw [if_neg (by simpa using h1), if_neg h2]; exact ⟨rfl, H⟩
def sealR (l : List RPg) (epoch : Int) : Int × List RPg := if epoch ≤ lastR l 4 then (8, l) else if 2147483647 < epoch then (1, l) else addR room l ⟨4, epoch, 0, 0, []⟩
theorem qSeal_ok (hroom : room ≤ 1000000) (epoch : Int) : Tri Try.prog 66 #[.pointer (some ⟨rb, 0, none⟩), .int .i64 epoch] (RU rb room pgs) (fun v => HP.and (v = .int .i64 (sealR room pgs epoch).1) (RU rb room (sealR room pgs epoch).2)) := by
  refine tri_of_tree (ρ := [.n rb, .p (RU rb room pgs), .i epoch]) mixed Try.func66 tree_qSeal ?_
  unfold t_qSeal
  simp only [T.den, E.prop, E.den, RX.look, F1.app, F2.app, Uni.int_i, Uni.nat_n, Uni.bool_c, Uni.str_s, Uni.adr_a, Uni.val_v, Uni.hp_p, hden, cden, V.den, W.den, A.den, BR.den, SA.den, FV.den, capV, exs, exP, allP, Cur.app, List.map_cons, List.map_nil, List.cons_append, List.nil_append, List.drop_succ_cons, List.drop_zero, List.length_cons, List.length_nil, Nat.zero_add, Nat.reduceAdd, Int.neg_neg, Bool.not_not, List.append_nil, Nat.add_zero, List.getElem?_cons_zero, List.getElem?_cons_succ, Decidable.not_not, semW_eq, semW_load, semW_store, semW_storeC, semW_append, semW_lookup, semW_lookupC, semW_update, semW_updateC, semW_updateK, semW_delete, semW_range, semW_next, semW_entry, semW_nil, ne_eq, Nat.reduceEqDiff, not_false_eq_true]
  refine (qEpoch_ok rb room pgs).weak (fun _ _ h => h) ?_
  rintro v R h ⟨rfl, H⟩
  refine ⟨_, rfl, ⟨fun h1 => .of fun R h H => ?_, fun h1 => ⟨fun h2 => .of fun R h H => ?_, fun h2 => ?_⟩⟩, H⟩
  · unfold sealR; rw [if_pos h1]; exact ⟨rfl, H⟩
  · unfold sealR; rw [if_neg h1, if_pos h2]; exact ⟨rfl, H⟩
  clear H
  refine (qAddN_ok rb room pgs hroom ⟨4, epoch, 0, 0, []⟩ rfl).weak (fun _ _ h => h) ?_
  rintro v R h ⟨rfl, H⟩
  refine ⟨_, RU rb room (addR room pgs ⟨4, epoch, 0, 0, []⟩).2, rfl, .of fun R h H => ?_, H⟩
  unfold sealR; rw [if_neg h1, if_neg h2]; exact ⟨rfl, H⟩
theorem accU_bnd {n : Int} {es : List PgE} {pgs : List RPg} (he : es.map PgE.pg = pgs) (h : ∀ x ∈ es, x.pg.bytes.length ≤ 140737488355328) : ∀ k, (accU n (pgs.take k)).2.length ≤ 140737488355328
  | 0 => by simp [accU]
  | k + 1 => by
    by_cases hk : k < pgs.length
    · obtain ⟨x, hx, hg⟩ := pgAt he hk
      unfold accU
      rw [take_succ_foldl _ _ _ _ _ hg]
      split
      · exact h x (List.mem_of_getElem? hx)
      · exact accU_bnd (n := n) he h k
    · rw [List.take_of_length_le (by omega)]
      have := accU_bnd (n := n) he h k
      rw [List.take_of_length_le (by omega)] at this
      exact this
theorem qAccepted_ok (n : Int) : Tri Try.prog 113 #[.pointer (some ⟨rb, 0, none⟩), .int .i64 n] (RU rb room pgs)
    (fun v => HP.ex fun xa => HP.ex fun xc => HP.and (v = .tuple #[.agg #[.int .i64 (accU n pgs).1.1, .int .i64 (accU n pgs).1.2], .slice xa (accU n pgs).2.length xc] ∧ (accU n pgs).2.length ≤ 140737488355328) (HP.sep (RoB xa (accU n pgs).2.length (accU n pgs).2) (RU rb room pgs))) := by
  refine RU.tri fun a c es he hb ha => ?_
  refine Tri.fact (φ := ∀ x ∈ es, x.pg.bytes.length ≤ 140737488355328) (fun R h H x hx => ?_) fun hbn => ?_
  · obtain ⟨k, hk⟩ := List.getElem?_of_mem hx
    exact (pgRo hk (HP.sep_right H)).1
  refine tri_of_tree (ρ := rRho rb a pgs.length c es room ++ [.i n]) mixed Try.func113 tree_qAccepted ?_
  unfold t_qAccepted
  simp only [T.den, E.prop, E.den, RX.look, F1.app, F2.app, Uni.int_i, Uni.nat_n, Uni.bool_c, Uni.str_s, Uni.adr_a, Uni.val_v, Uni.hp_p, hden, cden, V.den, W.den, A.den, BR.den, SA.den, FV.den, capV, exs, exP, allP, Cur.app, List.map_cons, List.map_nil, List.cons_append, List.nil_append, List.drop_succ_cons, List.drop_zero, List.length_cons, List.length_nil, Nat.zero_add, Nat.reduceAdd, Int.neg_neg, Bool.not_not, List.append_nil, Nat.add_zero, List.getElem?_cons_zero, List.getElem?_cons_succ, Decidable.not_not, semW_eq, semW_load, semW_store, semW_storeC, semW_append, semW_lookup, semW_lookupC, semW_update, semW_updateC, semW_updateK, semW_delete, semW_range, semW_next, semW_entry, semW_nil, ne_eq, Nat.reduceEqDiff, not_false_eq_true]
  intro _ _ vb
  refine ⟨fun va vn vc i P p q => ∃ k : Nat, i = k ∧ k ≤ pgs.length ∧ (p, q) = (accU n (pgs.take k)).1 ∧ vn = (accU n (pgs.take k)).2.length ∧ HP.ent P (RoB va (accU n (pgs.take k)).2.length (accU n (pgs.take k)).2), fun _ _ _ i _ _ _ => pgs.length - i.toNat, ⟨0, rfl, Nat.zero_le _, rfl, rfl, .of fun R h _ => RoC.nil _ _ _ _⟩, ?_⟩
  rintro va vn vc _ P p q ⟨k, rfl, hk, hpq, rfl, hP⟩
  refine ⟨fun h0 => ⟨by omega, fun _ => ⟨ha (by omega), fun _ => ?_⟩⟩, fun h0 => ?_⟩
  · obtain ⟨x, hx, hg⟩ := pgAt he (show k < pgs.length by omega)
    have st := take_succ_foldl (fun b (x : RPg) => if x.kind = 6 ∧ x.n = n then ((x.r, x.w), x.bytes) else b) ((0, 0), []) pgs k x.pg hg
    have next : ¬ (x.pg.kind = 6 ∧ x.pg.n = n) → ∃ k' : Nat, (k : Int) + 1 = k' ∧ k' ≤ pgs.length ∧ (p, q) = (accU n (pgs.take k')).1 ∧ (accU n (pgs.take k)).2.length = (accU n (pgs.take k')).2.length ∧ HP.ent P (RoB va (accU n (pgs.take k')).2.length (accU n (pgs.take k')).2) := fun hno => by
      have e : accU n (pgs.take (k + 1)) = accU n (pgs.take k) := by unfold accU; rw [st, if_neg hno]
      exact ⟨k + 1, by omega, by omega, by rw [e]; exact hpq, by rw [e], by rw [e]; exact hP⟩
    refine ⟨_, loadPg1 undIb aggI szI hx (off := 0) rfl, ⟨fun h6 => ⟨_, loadPg1 undIb aggI szI hx (off := 1) rfl, ⟨fun hn => ⟨_, _, loadPgB hx, fun z => ?_⟩, fun hn => ⟨inI64 _ (by omega) (by omega), fun _ => ⟨next (fun e => hn e.2), by dsimp only; omega⟩⟩⟩⟩, fun h6 => ⟨inI64 _ (by omega) (by omega), fun _ => ⟨next (fun e => h6 e.1), by dsimp only; omega⟩⟩⟩⟩
    have e : accU n (pgs.take (k + 1)) = ((x.pg.r, x.pg.w), x.pg.bytes) := by unfold accU; rw [st, if_pos ⟨h6, hn⟩]
    obtain ⟨d30, hd30⟩ : ∃ d, Try.prog.underlying 30 = some d := Option.isSome_iff_exists.1 (by kernel_rfl)
    have rX : RdL (PL kPg a pgs.length c es) x.a x.pg.bytes.length (x.pg.bytes.map u8v) := RdL.imp fun R h H => (pgRo hx H).2 h
    refine ⟨x.a, x.pg.bytes.length, x.c, loadPg1 hd30 (by kernel_rfl) (by kernel_rfl) hx (off := 4) rfl, ?_⟩
    refine OTri.fact (φ := x.pg.bytes.length ≠ 0 → x.a.isSome = true) (fun R h H h0 => RoC.some ((pgRo hx (HP.sep_right H)).2 h) (by omega)) fun hxa => ?_
    refine (appE z x.a _ x.c x.pg.bytes (PL kPg a pgs.length c es) rX rfl hxa (hbn x (List.mem_of_getElem? hx))).weak (fun _ _ h => h) ?_
    rintro v R h ⟨a', c', rfl, H⟩
    exact ⟨a', _, c', RoB a' x.pg.bytes.length x.pg.bytes, rfl, ⟨inI64 _ (by omega) (by omega), fun _ => ⟨⟨k + 1, by omega, by omega, by rw [e], by rw [e], by rw [e]; exact .refl _⟩, by dsimp only; omega⟩⟩, H⟩
  · have hbA := accU_bnd (n := n) he hbn k
    obtain rfl : k = pgs.length := by omega
    rw [List.take_length] at hpq hP hbA ⊢
    refine (HP.ent.sep2 (.refl _) (HP.ent.sep2 (.refl _) hP)).trans (.of fun R h H => ⟨va, vc, ⟨by rw [← hpq], hbA⟩, ?_⟩)
    exact RoC.join (HP.sep_right (HP.sep_right H)) (RU.of he hb rfl (HP.sep_left (HP.sep_assoc' H)))
end
end Go.Proofs.Ytmibmjehjagmbaa

/- The document's unit: contracts of Write, Promise, Accept, Tail. No condition. -/
namespace Go.Proofs.Ytmibmjehjagmbaa
set_option linter.unusedSimpArgs false
set_option linter.unusedVariables false
open Go.Proofs.Ytmibmjehjagmbaa RX
set_option maxRecDepth 100000

theorem neqBW {i j : Nat} {ty u : TypeId} (h : i ≠ j) {r q r' q' : Int} {A : HP} :
    ORead Try.prog (semW (.binOp .neq 34 (.tmp i) (.tmp j) u) ty [(i, .agg #[.int .i64 r, .int .i64 q]), (j, .agg #[.int .i64 r', .int .i64 q'])]) A (.bool (!(decide (r = r') && decide (q = q')))) := by
  have := semOf_neqB (ρ := [.i r, .i q, .i r', .i q']) (i := i) (j := j) (ty := ty) (u := u) (x := .w (.agg [.int .i64 (.v 0), .int .i64 (.v 1)])) (y := .w (.agg [.int .i64 (.v 2), .int .i64 (.v 3)])) h (A := A) rfl rfl
  rw [semW_eq] at this
  exact this
section
variable (rb : Nat) (room : Int) (pgs : List RPg)
def writeR (l : List RPg) (epoch at' : Int) (x : CellS) : (CellS × Int) × List RPg :=
  if askR l epoch at' ≠ 0 then ((⟨0, []⟩, askR l epoch at'), l)
  else if (x.what ≠ 1 ∧ x.what ≠ 2) ∨ (x.what = 1 ∧ 65536 < x.data.length) ∨ (x.what = 2 ∧ 0 < x.data.length) then ((⟨0, []⟩, 1), l)
  else if (readR l epoch at').2 = 11 then ((⟨0, []⟩, 11), l)
  else if (readR l epoch at').2 = 0 then (((readR l epoch at').1, 10), l)
  else ((⟨0, []⟩, (addR room l ⟨x.what, at', 0, 0, x.data⟩).1), (addR room l ⟨x.what, at', 0, 0, x.data⟩).2)
set_option maxHeartbeats 2000000 in
theorem qWrite_ok (hroom : room ≤ 1000000) (epoch at' what : Int) (xa : Option Addr) (xc : Nat) (d : List UInt8) (hd : d.length ≤ 140737488355328) (hxa : d.length ≠ 0 → xa.isSome = true) :
    Tri Try.prog 61 #[.pointer (some ⟨rb, 0, none⟩), .int .i64 epoch, .int .i64 at', .agg #[.int .i64 what, .slice xa d.length xc]] (HP.sep (RU rb room pgs) (RoB xa d.length d))
    (fun v => HP.ex fun ya => HP.ex fun yc => HP.and (v = .tuple #[.agg #[.int .i64 (writeR room pgs epoch at' ⟨what, d⟩).1.1.what, .slice ya (writeR room pgs epoch at' ⟨what, d⟩).1.1.data.length yc], .int .i64 (writeR room pgs epoch at' ⟨what, d⟩).1.2] ∧ (writeR room pgs epoch at' ⟨what, d⟩).1.1.data.length ≤ 140737488355328)
      (HP.sep (RoB ya (writeR room pgs epoch at' ⟨what, d⟩).1.1.data.length (writeR room pgs epoch at' ⟨what, d⟩).1.1.data) (HP.sep (RU rb room (writeR room pgs epoch at' ⟨what, d⟩).2) (RoB xa d.length d)))) := by
  refine tri_of_tree (ρ := [.n rb, .p (RU rb room pgs), .i epoch, .i at', .i what, .a xa, .n d.length, .n xc, .p (RoB xa d.length d)]) mixed Try.func61 tree_qWrite9 ?_
  unfold t_qWrite9
  simp only [T.den, E.prop, E.den, RX.look, F1.app, F2.app, Uni.int_i, Uni.nat_n, Uni.bool_c, Uni.str_s, Uni.adr_a, Uni.val_v, Uni.hp_p, hden, cden, V.den, W.den, A.den, BR.den, SA.den, FV.den, capV, exs, exP, allP, Cur.app, List.map_cons, List.map_nil, List.cons_append, List.nil_append, List.drop_succ_cons, List.drop_zero, List.length_cons, List.length_nil, Nat.zero_add, Nat.reduceAdd, Int.neg_neg, Bool.not_not, List.append_nil, Nat.add_zero, List.getElem?_cons_zero, List.getElem?_cons_succ, Decidable.not_not, semW_eq, semW_load, semW_store, semW_storeC, semW_append, semW_lookup, semW_lookupC, semW_update, semW_updateC, semW_updateK, semW_delete, semW_range, semW_next, semW_entry, semW_nil, ne_eq, Nat.reduceEqDiff, not_false_eq_true]
  intro _ _
  refine (qAsk_ok rb room pgs epoch at').weak (fun _ _ h => h) ?_
  rintro v R h ⟨rfl, H⟩
  refine ⟨_, rfl, ?_, H⟩
  clear H
  have lone : ∀ e, writeR room pgs epoch at' ⟨what, d⟩ = ((⟨0, []⟩, e), pgs) → ∀ R h, (HP.sep (RU rb room pgs) (RoB xa d.length d)).p R h → (HP.ex fun ya => HP.ex fun yc => HP.and (Value.tuple #[.agg #[.int .i64 0, .slice none 0 0], .int .i64 e] = .tuple #[.agg #[.int .i64 (writeR room pgs epoch at' ⟨what, d⟩).1.1.what, .slice ya (writeR room pgs epoch at' ⟨what, d⟩).1.1.data.length yc], .int .i64 (writeR room pgs epoch at' ⟨what, d⟩).1.2] ∧ (writeR room pgs epoch at' ⟨what, d⟩).1.1.data.length ≤ 140737488355328) (HP.sep (RoB ya (writeR room pgs epoch at' ⟨what, d⟩).1.1.data.length (writeR room pgs epoch at' ⟨what, d⟩).1.1.data) (HP.sep (RU rb room (writeR room pgs epoch at' ⟨what, d⟩).2) (RoB xa d.length d)))).p R h := fun e he R h H => by
    rw [he]
    exact ⟨none, 0, ⟨rfl, by simp⟩, RoC.join (RoB0 none : (RoB none 0 []).p R h) H⟩
  refine ⟨fun h1 => .of fun R h H => lone _ (by unfold writeR; rw [if_pos h1]) R h H, fun h1 => ?_⟩
  have h1' : ¬ askR pgs epoch at' ≠ 0 := by simpa using h1
  have bad : ((what ≠ 1 ∧ what ≠ 2) ∨ (what = 1 ∧ 65536 < d.length) ∨ (what = 2 ∧ 0 < d.length)) → writeR room pgs epoch at' ⟨what, d⟩ = ((⟨0, []⟩, 1), pgs) := fun hb => by unfold writeR; rw [if_neg h1', if_pos hb]
  have good : ¬ ((what ≠ 1 ∧ what ≠ 2) ∨ (what = 1 ∧ 65536 < d.length) ∨ (what = 2 ∧ 0 < d.length)) → writeR room pgs epoch at' ⟨what, d⟩ = if (readR pgs epoch at').2 = 11 then ((⟨0, []⟩, 11), pgs) else if (readR pgs epoch at').2 = 0 then (((readR pgs epoch at').1, 10), pgs) else ((⟨0, []⟩, (addR room pgs ⟨what, at', 0, 0, d⟩).1), (addR room pgs ⟨what, at', 0, 0, d⟩).2) := fun hb => by unfold writeR; rw [if_neg h1', if_neg hb]
  have rdk := qRead_ok rb room pgs epoch at'
  have add := fun a' c' => qAdd_ok rb room pgs hroom ⟨what, at', 0, 0, d⟩ a' c' hd
  repeat' (first
    | intro (_ : Nat)
    | refine And.intro ?_ ?_
    | intro (hb : (_ : Int) = _)
    | intro (hb : ¬ (_ : Int) = _)
    | intro (hb : (_ : Int) < _)
    | intro (hb : ¬ (_ : Int) < _)
    | exact .of fun R h H => lone _ (bad (by omega)) R h H
    | (refine rdk.weak (fun _ _ h => h) ?_
       rintro v R h ⟨ya, yc, ⟨rfl, hyb⟩, H⟩
       refine ⟨_, ya, _, yc, RoB ya _ _, _, rfl, ?_, H⟩
       clear H
       have hg := good (by omega))
    | exact .of fun R h H => (by rw [hb]; exact lone _ (by rw [hg, if_pos hb]) R h H)
    | exact .of fun R h H => (by
        have e : writeR room pgs epoch at' ⟨what, d⟩ = (((readR pgs epoch at').1, 10), pgs) := by rw [hg, if_neg (by assumption), if_pos hb]
        rw [e]
        exact ⟨ya, yc, ⟨rfl, hyb⟩, HP.pick [_, _, _] [2, 0, 1] (by decide) rfl H⟩)
    | (refine (appE _ xa _ xc d (RoB xa d.length d) (RdL.ro _ _ _ _) rfl hxa hd).weak (fun _ _ h => h) ?_
       rintro v R h ⟨a', c', rfl, H⟩
       refine ⟨a', _, c', RoB a' d.length d, rfl, ?_, H⟩
       clear H)
    | (refine (add a' c').weak (fun _ _ h => h) ?_
       rintro v R h ⟨rfl, H⟩
       refine ⟨_, RU rb room (addR room pgs ⟨what, at', 0, 0, d⟩).2, RoB a' d.length d, rfl, .of fun R h H => ?_, H⟩
       have e : writeR room pgs epoch at' ⟨what, d⟩ = ((⟨0, []⟩, (addR room pgs ⟨what, at', 0, 0, d⟩).1), (addR room pgs ⟨what, at', 0, 0, d⟩).2) := by rw [hg, if_neg (by assumption), if_neg (by assumption)]
       rw [e]
       exact ⟨none, 0, ⟨rfl, by simp⟩, RoC.join (RoB0 none : (RoB none 0 []).p R h) H⟩)
    | fail)
def promiseR (l : List RPg) (n r w : Int) : ((Int × Int) × List UInt8 × Int) × List RPg :=
  if propOk n r w = false then (((0, 0), [], 1), l)
  else if lessR r w (promU n l).1 (promU n l).2 = true then (((0, 0), [], 7), l)
  else if r = (promU n l).1 ∧ w = (promU n l).2 then (((accU n l).1, (accU n l).2, 0), l)
  else if (addR room l ⟨5, n, r, w, []⟩).1 ≠ 0 then (((0, 0), [], (addR room l ⟨5, n, r, w, []⟩).1), (addR room l ⟨5, n, r, w, []⟩).2)
  else (((accU n (addR room l ⟨5, n, r, w, []⟩).2).1, (accU n (addR room l ⟨5, n, r, w, []⟩).2).2, 0), (addR room l ⟨5, n, r, w, []⟩).2)
set_option maxHeartbeats 2000000 in
theorem qPromise_ok (hroom : room ≤ 1000000) (n r w : Int) :
    Tri Try.prog 67 #[.pointer (some ⟨rb, 0, none⟩), .int .i64 n, .agg #[.int .i64 r, .int .i64 w]] (RU rb room pgs)
    (fun v => HP.ex fun ya => HP.ex fun yc => HP.and (v = .tuple #[.agg #[.int .i64 (promiseR room pgs n r w).1.1.1, .int .i64 (promiseR room pgs n r w).1.1.2], .slice ya (promiseR room pgs n r w).1.2.1.length yc, .int .i64 (promiseR room pgs n r w).1.2.2] ∧ (promiseR room pgs n r w).1.2.1.length ≤ 140737488355328)
      (HP.sep (RU rb room (promiseR room pgs n r w).2) (RoB ya (promiseR room pgs n r w).1.2.1.length (promiseR room pgs n r w).1.2.1))) := by
  refine tri_of_tree (ρ := [.n rb, .p (RU rb room pgs), .i n, .i r, .i w]) mixed Try.func67 tree_qPromise ?_
  unfold t_qPromise
  simp only [T.den, E.prop, E.den, RX.look, F1.app, F2.app, Uni.int_i, Uni.nat_n, Uni.bool_c, Uni.str_s, Uni.adr_a, Uni.val_v, Uni.hp_p, hden, cden, V.den, W.den, A.den, BR.den, SA.den, FV.den, capV, exs, exP, allP, Cur.app, List.map_cons, List.map_nil, List.cons_append, List.nil_append, List.drop_succ_cons, List.drop_zero, List.length_cons, List.length_nil, Nat.zero_add, Nat.reduceAdd, Int.neg_neg, Bool.not_not, List.append_nil, Nat.add_zero, List.getElem?_cons_zero, List.getElem?_cons_succ, Decidable.not_not, semW_eq, semW_load, semW_store, semW_storeC, semW_append, semW_lookup, semW_lookupC, semW_update, semW_updateC, semW_updateK, semW_delete, semW_range, semW_next, semW_entry, semW_nil, ne_eq, Nat.reduceEqDiff, not_false_eq_true]
  intro _ _
  refine (qMay_ok n r w).weak (fun _ _ h => h) ?_
  rintro v R h rfl
  refine ⟨_, rfl, ⟨fun h1 => .of fun R h H => ?_, fun h1 => ?_⟩, trivial⟩
  · have e : promiseR room pgs n r w = (((0, 0), [], 1), pgs) := by unfold promiseR; rw [if_pos (by simpa using h1)]
    rw [e]
    exact ⟨none, 0, ⟨rfl, by simp⟩, RoC.joinR (RoB0 none : (RoB none 0 []).p R h) H⟩
  refine (qPromised_ok rb room pgs n).weak (fun _ _ h => h) ?_
  rintro v R h ⟨rfl, H⟩
  refine ⟨_, _, rfl, ?_, H⟩
  clear H
  refine (qLess_ok r w _ _).weak (fun _ _ h => h) ?_
  rintro v R h rfl
  refine ⟨_, rfl, ⟨fun h2 => .of fun R h H => ?_, fun h2 => ?_⟩, trivial⟩
  · have e : promiseR room pgs n r w = (((0, 0), [], 7), pgs) := by unfold promiseR; rw [if_neg (by simpa using h1), if_pos h2]
    rw [e]
    exact ⟨none, 0, ⟨rfl, by simp⟩, RoC.joinR (RoB0 none : (RoB none 0 []).p R h) H⟩
  refine (qPromised_ok rb room pgs n).weak (fun _ _ h => h) ?_
  rintro v R h ⟨rfl, H⟩
  refine ⟨_, _, rfl, ⟨_, neqBW (by decide), ⟨fun h3 => ?_, fun h3 => ?_⟩⟩, H⟩
  · clear H
    have h3' : ¬ (r = (promU n pgs).1 ∧ w = (promU n pgs).2) := by
      rintro ⟨e1, e2⟩
      rw [decide_eq_true e1, decide_eq_true e2] at h3
      exact absurd h3 (by decide)
    have e0 : promiseR room pgs n r w = if (addR room pgs ⟨5, n, r, w, []⟩).1 ≠ 0 then (((0, 0), [], (addR room pgs ⟨5, n, r, w, []⟩).1), (addR room pgs ⟨5, n, r, w, []⟩).2) else (((accU n (addR room pgs ⟨5, n, r, w, []⟩).2).1, (accU n (addR room pgs ⟨5, n, r, w, []⟩).2).2, 0), (addR room pgs ⟨5, n, r, w, []⟩).2) := by
      unfold promiseR; rw [if_neg (by simpa using h1), if_neg h2, if_neg h3']
    refine (qAddN_ok rb room pgs hroom ⟨5, n, r, w, []⟩ rfl).weak (fun _ _ h => h) ?_
    rintro v R h ⟨rfl, H⟩
    refine ⟨_, RU rb room (addR room pgs ⟨5, n, r, w, []⟩).2, rfl, ⟨fun h4 => .of fun R h H => ?_, fun h4 => ?_⟩, H⟩
    · rw [e0, if_pos h4]
      exact ⟨none, 0, ⟨rfl, by simp⟩, RoC.joinR (RoB0 none : (RoB none 0 []).p R h) H⟩
    clear H
    refine (qAccepted_ok rb room _ n).weak (fun _ _ h => h) ?_
    rintro v R h ⟨ya, yc, ⟨rfl, hb⟩, H⟩
    refine ⟨_, _, ya, _, yc, RoB ya _ _, rfl, fun _ => .of fun R h H => ?_, H⟩
    rw [e0, if_neg (by simpa using h4)]
    exact ⟨ya, yc, ⟨rfl, hb⟩, H⟩
  · clear H
    have h3' : r = (promU n pgs).1 ∧ w = (promU n pgs).2 := by simpa using h3
    refine (qAccepted_ok rb room pgs n).weak (fun _ _ h => h) ?_
    rintro v R h ⟨ya, yc, ⟨rfl, hb⟩, H⟩
    refine ⟨_, _, ya, _, yc, RoB ya _ _, rfl, fun _ => .of fun R h H => ?_, H⟩
    have e : promiseR room pgs n r w = (((accU n pgs).1, (accU n pgs).2, 0), pgs) := by unfold promiseR; rw [if_neg (by simpa using h1), if_neg h2, if_pos h3']
    rw [e]
    exact ⟨ya, yc, ⟨rfl, hb⟩, H⟩
def acceptR (l : List RPg) (n r w : Int) (d : List UInt8) : Int × List RPg :=
  if propOk n r w = false ∨ 1000 < d.length then (1, l) else if lessR r w (promU n l).1 (promU n l).2 = true then (7, l) else addR room l ⟨6, n, r, w, d⟩
theorem qAccept_ok (hroom : room ≤ 1000000) (n r w : Int) (xa : Option Addr) (xc : Nat) (d : List UInt8) (hd : d.length ≤ 140737488355328) (hxa : d.length ≠ 0 → xa.isSome = true) :
    Tri Try.prog 69 #[.pointer (some ⟨rb, 0, none⟩), .int .i64 n, .agg #[.int .i64 r, .int .i64 w], .slice xa d.length xc] (HP.sep (RU rb room pgs) (RoB xa d.length d))
    (fun v => HP.and (v = .int .i64 (acceptR room pgs n r w d).1) (HP.sep (RU rb room (acceptR room pgs n r w d).2) (RoB xa d.length d))) := by
  refine tri_of_tree (ρ := [.n rb, .p (RU rb room pgs), .i n, .i r, .i w, .a xa, .n d.length, .n xc, .p (RoB xa d.length d)]) mixed Try.func69 tree_qAccept ?_
  unfold t_qAccept
  simp only [T.den, E.prop, E.den, RX.look, F1.app, F2.app, Uni.int_i, Uni.nat_n, Uni.bool_c, Uni.str_s, Uni.adr_a, Uni.val_v, Uni.hp_p, hden, cden, V.den, W.den, A.den, BR.den, SA.den, FV.den, capV, exs, exP, allP, Cur.app, List.map_cons, List.map_nil, List.cons_append, List.nil_append, List.drop_succ_cons, List.drop_zero, List.length_cons, List.length_nil, Nat.zero_add, Nat.reduceAdd, Int.neg_neg, Bool.not_not, List.append_nil, Nat.add_zero, List.getElem?_cons_zero, List.getElem?_cons_succ, Decidable.not_not, semW_eq, semW_load, semW_store, semW_storeC, semW_append, semW_lookup, semW_lookupC, semW_update, semW_updateC, semW_updateK, semW_delete, semW_range, semW_next, semW_entry, semW_nil, ne_eq, Nat.reduceEqDiff, not_false_eq_true]
  intro _
  refine (qMay_ok n r w).weak (fun _ _ h => h) ?_
  rintro v R h rfl
  refine ⟨_, rfl, ⟨fun h1 => .of fun R h H => ?_, fun h1 => ⟨fun h2 => .of fun R h H => ?_, fun h2 => ?_⟩⟩, trivial⟩
  · have e : acceptR room pgs n r w d = (1, pgs) := by unfold acceptR; rw [if_pos (.inl (by simpa using h1))]
    rw [e]; exact ⟨rfl, H⟩
  · have e : acceptR room pgs n r w d = (1, pgs) := by unfold acceptR; rw [if_pos (.inr (by omega))]
    rw [e]; exact ⟨rfl, H⟩
  have e0 : acceptR room pgs n r w d = if lessR r w (promU n pgs).1 (promU n pgs).2 = true then (7, pgs) else addR room pgs ⟨6, n, r, w, d⟩ := by
    unfold acceptR
    rw [if_neg]
    rintro (h | h)
    · rw [h] at h1; cases h1
    · omega
  refine (qPromised_ok rb room pgs n).weak (fun _ _ h => h) ?_
  rintro v R h ⟨rfl, H⟩
  refine ⟨_, _, rfl, ?_, H⟩
  clear H
  refine (qLess_ok r w _ _).weak (fun _ _ h => h) ?_
  rintro v R h rfl
  refine ⟨_, rfl, ⟨fun h3 => .of fun R h H => ?_, fun h3 z => ?_⟩, trivial⟩
  · rw [e0, if_pos h3]; exact ⟨rfl, H⟩
  refine (appE z xa _ xc d (RoB xa d.length d) (RdL.ro _ _ _ _) rfl hxa hd).weak (fun _ _ h => h) ?_
  rintro v R h ⟨a', c', rfl, H⟩
  refine ⟨a', _, c', RoB a' d.length d, rfl, ?_, H⟩
  clear H
  refine (qAdd_ok rb room pgs hroom ⟨6, n, r, w, d⟩ a' c' hd).weak (fun _ _ h => h) ?_
  rintro v R h ⟨rfl, H⟩
  refine ⟨_, RU rb room (addR room pgs ⟨6, n, r, w, d⟩).2, RoB a' d.length d, rfl, .of fun R h H => ?_, H⟩
  rw [e0, if_neg h3]; exact ⟨rfl, H⟩
end
end Go.Proofs.Ytmibmjehjagmbaa

/- What comes into law 9. No condition. -/
namespace Go.Proofs.Ytmibmjehjagmbaa
open Go.RowKit Go.ChangeShapes Go.WideShapes Go.Deep RX
set_option maxRecDepth 100000
set_option linter.unusedVariables false
set_option linter.unusedSimpArgs false

structure Call09 where
  what : Int
  epoch : Int
  at_ : Int
  cell_what : Int
  cell_data : List UInt8
  cell_dataa : Option Addr
  cell_datac : Nat
  br_r : Int
  br_w : Int
abbrev Call09.vals (x : Call09) : List Value := [.int .i64 x.what, .int .i64 x.epoch, .int .i64 x.at_, .int .i64 x.cell_what, .slice x.cell_dataa x.cell_data.length x.cell_datac, .int .i64 x.br_r, .int .i64 x.br_w]
def Call09.hp (x : Call09) : HP := HP.both (HP.pure (okI x.what)) (HP.both (HP.pure (okI x.epoch)) (HP.both (HP.pure (okI x.at_)) (HP.both (HP.pure (okI x.cell_what)) (HP.both (HP.and (x.cell_data.length ≤ 140737488355328) (RoB x.cell_dataa x.cell_data.length x.cell_data)) (HP.both (HP.pure (okI x.br_r)) (HP.pure (okI x.br_w)))))))
theorem Call09.pers (x : Call09) (R h h' : PH) (H : (x.hp).p R h) : (x.hp).p R h' := ⟨H.1, ⟨H.2.1, ⟨H.2.2.1, ⟨H.2.2.2.1, ⟨H.2.2.2.2.1, ⟨H.2.2.2.2.2.1, H.2.2.2.2.2.2⟩⟩⟩⟩⟩⟩
instance : Inhabited Call09 := ⟨⟨0, 0, 0, 0, [], none, 0, 0, 0⟩⟩
def kCall09 : Kind Call09 := ⟨7, by decide, Call09.vals, fun _ => rfl, Call09.hp, Call09.pers⟩
theorem Call09.of_trod {H : Type} {enc : TypeId × Value → H} {w : World} {cs : List Value} {n : Nat} {x : DataW H × List MemPlace} (h : DataW.trod enc Try.prog w 0 (fun _ => true) true n 36 cs = some x) (hs : Small Try.prog 36 x.1) : ∃ m : Call09, cs = kCall09.vals m ∧ ∀ h, (kCall09.hp m).p (allOf w) h := by
  obtain ⟨xs0, n0, _, hx0, hl0, hxl0, hf0⟩ := DataW.trod_struct Try.underlying36 h
  replace hxl0 : xs0.length = 5 := hxl0
  have hs0 : Small Try.prog 36 (.agg (xs0.map (·.1))) := by
    have e := hx0
    first | (subst e; exact hs) | (rw [e] at hs; exact hs) | (have e2 := congrArg Prod.fst e; rw [← e2]; exact hs) | (rw [← e]; exact hs)
  obtain ⟨c0, e0, w0⟩ := field_int Try.underlying3 (show 0 < xs0.length by omega) (by kernel_rfl) (hf0 0 _ rfl)
  obtain ⟨c1, e1, w1⟩ := field_int Try.underlying3 (show 1 < xs0.length by omega) (by kernel_rfl) (hf0 1 _ rfl)
  obtain ⟨c2, e2, w2⟩ := field_int Try.underlying3 (show 2 < xs0.length by omega) (by kernel_rfl) (hf0 2 _ rfl)
  have g0_3 := hf0 3 _ rfl
  rw [List.getElem?_eq_getElem (show 3 < xs0.length by omega)] at g0_3
  have hp0_3 : Small Try.prog 32 xs0[3].1 := Small.part (i := 3) hs0 Try.underlying36 rfl (by rw [List.getElem?_map, List.getElem?_eq_getElem (show 3 < xs0.length by omega)]; rfl)
  obtain ⟨xs1, n1, _, hx1, hl1, hxl1, hf1⟩ := DataW.trod_struct Try.underlying32 g0_3
  replace hxl1 : xs1.length = 2 := hxl1
  have hs1 : Small Try.prog 32 (.agg (xs1.map (·.1))) := by
    have e := hx1
    first | (subst e; exact hp0_3) | (rw [e] at hp0_3; exact hp0_3) | (have e2 := congrArg Prod.fst e; rw [← e2]; exact hp0_3) | (rw [← e]; exact hp0_3)
  obtain ⟨c3, e3, w3⟩ := field_int Try.underlying3 (show 0 < xs1.length by omega) (by kernel_rfl) (hf1 0 _ rfl)
  rw [List.getElem?_take_of_lt (of_decide_eq_true (by kernel_rfl)), List.getElem?_drop] at e3
  obtain ⟨a4, l4, k4, e4⟩ := field_slice Try.underlying30 (show 1 < xs1.length by omega) (by kernel_rfl) (hf1 1 _ rfl)
  have q4 := hf1 1 _ rfl
  rw [List.getElem?_eq_getElem (show 1 < xs1.length by omega)] at q4
  have g4 : DataW.trod enc Try.prog w 0 (fun _ => true) true n1 30 [.slice a4 l4 k4] = some xs1[1] := by
    rw [← take1' e4]
    exact q4
  have s4 : Small Try.prog 30 xs1[1].1 := Small.part (i := 1) hs1 Try.underlying32 rfl (by rw [List.getElem?_map, List.getElem?_eq_getElem (show 1 < xs1.length by omega)]; rfl)
  obtain ⟨b4, d4, m4, r4, y4, z4⟩ := bytes_of_trod g4 s4
  simp only [Value.slice.injEq] at r4
  obtain ⟨rfl, rfl, rfl⟩ := r4
  rw [List.getElem?_take_of_lt (of_decide_eq_true (by kernel_rfl)), List.getElem?_drop] at e4
  have g0_4 := hf0 4 _ rfl
  rw [List.getElem?_eq_getElem (show 4 < xs0.length by omega)] at g0_4
  have hp0_4 : Small Try.prog 34 xs0[4].1 := Small.part (i := 4) hs0 Try.underlying36 rfl (by rw [List.getElem?_map, List.getElem?_eq_getElem (show 4 < xs0.length by omega)]; rfl)
  obtain ⟨xs2, n2, _, hx2, hl2, hxl2, hf2⟩ := DataW.trod_struct Try.underlying34 g0_4
  replace hxl2 : xs2.length = 2 := hxl2
  have hs2 : Small Try.prog 34 (.agg (xs2.map (·.1))) := by
    have e := hx2
    first | (subst e; exact hp0_4) | (rw [e] at hp0_4; exact hp0_4) | (have e2 := congrArg Prod.fst e; rw [← e2]; exact hp0_4) | (rw [← e]; exact hp0_4)
  obtain ⟨c5, e5, w5⟩ := field_int Try.underlying3 (show 0 < xs2.length by omega) (by kernel_rfl) (hf2 0 _ rfl)
  rw [List.getElem?_take_of_lt (of_decide_eq_true (by kernel_rfl)), List.getElem?_drop] at e5
  obtain ⟨c6, e6, w6⟩ := field_int Try.underlying3 (show 1 < xs2.length by omega) (by kernel_rfl) (hf2 1 _ rfl)
  rw [List.getElem?_take_of_lt (of_decide_eq_true (by kernel_rfl)), List.getElem?_drop] at e6
  have hlen : cs.length = 7 := hl0.trans (by kernel_rfl)
  refine ⟨⟨c0, c1, c2, c3, d4, a4, k4, c5, c6⟩, ?_, fun hh => ⟨int_wf w0, ⟨int_wf w1, ⟨int_wf w2, ⟨int_wf w3, ⟨⟨y4, z4 hh⟩, ⟨int_wf w5, int_wf w6⟩⟩⟩⟩⟩⟩⟩
  clear h hl0 hf0 hl1 hf1 hl2 hf2 g0_3 q4 g4 s4 g0_4
  revert e0 e1 e2 e3 e4 e5 e6
  match cs, hlen with
  | [u0, u1, u2, u3, u4, u5, u6], _ =>
    intro e0
    obtain rfl : u0 = .int _ c0 := Option.some.inj e0
    intro e1
    obtain rfl : u1 = .int _ c1 := Option.some.inj e1
    intro e2
    obtain rfl : u2 = .int _ c2 := Option.some.inj e2
    intro e3
    obtain rfl : u3 = .int _ c3 := Option.some.inj e3
    intro e4
    obtain rfl : u4 = .slice a4 d4.length k4 := Option.some.inj e4
    intro e5
    obtain rfl : u5 = .int _ c5 := Option.some.inj e5
    intro e6
    obtain rfl : u6 = .int _ c6 := Option.some.inj e6
    rfl
theorem Call09.load {a : Option Addr} {n : Nat} {l : List Call09} {k : Nat} {x : Call09} (hk : l[k]? = some x) : ORead Try.prog (loadS 36 (.pointer (a.map fun y => (y.add ((k : Int).toNat * 7)).add 0))) (Ls kCall09 a n l) (.agg x.vals.toArray) := by
  obtain ⟨d, hd⟩ : ∃ d, Try.prog.underlying 36 = some d := Option.isSome_iff_exists.1 (by kernel_rfl)
  exact Ls.load (K := kCall09) hd (by kernel_rfl) (by kernel_rfl) hk

end Go.Proofs.Ytmibmjehjagmbaa

/- Trees of functions, printed by rx.lean. No condition. -/
namespace Go.Proofs.Ytmibmjehjagmbaa.RX
set_option maxRecDepth 100000
-- tideline/tidelinelaw09.laid: ρ := [.i size]
def t_laid09 : T :=
(.call 23 [(.a (.int .i64 (.v 0)))] [] [.n, .p, .i] (.tup [(.a (.ptr (.v 1) 0)), (.a (.int .i64 (.v 3)))]) [((.b (.v 1)), (.prop 2))]
(.br (.o1 .not (.o2 .eq (.v 3) (.i 0)))
 (.ret (.tup [(.a .nilp), (.a .nilp)]) [])
 (.call 17 [(.a (.ptr (.v 1) 0))] [((.b (.v 1)), (.prop 2))] [.n, .p, .i, .p] (.tup [(.a (.ptr (.v 4) 0)), (.a (.int .i64 (.v 6)))]) [((.b (.v 4)), (.prop 5)), ((.b (.v 1)), (.prop 7))]
 (.br (.o1 .not (.o2 .eq (.v 6) (.i 0)))
  (.ret (.tup [(.a (.ptr (.v 1) 0)), (.a .nilp)]) [((.b (.v 1)), (.prop 7))])
  (.ret (.tup [(.a (.ptr (.v 1) 0)), (.a (.ptr (.v 4) 0))]) [((.b (.v 1)), (.prop 7)), ((.b (.v 4)), (.prop 5))])))))
theorem tree_laid09 : tree Try.prog { absT := [], opq := [], hv := [], keep := [87, 37, 39, 41, 109, 107, 62, 112, 111, 110, 133, 113, 19, 20, 38, 40, 21, 68, 14, 34], link := [(17, 0)], ent := [], turn := [(18, [100, 1]), (57, [100]), (29, [100]), (61, [0]), (69, [0]), (16, [0])], shr := [], vt := [], mkd := [], rlink := [(15, 1, 0)], pty := [], outl := true, stay := [], snk := [] } Try.f15 [(.a (.int .i64 (.v 0)))] [] 1 = t_laid09 := by kernel_rfl
-- tideline/tidelinelaw09.speaks: ρ := []
def t_speaks09 : T :=
(.call 15 [(.a (.int .i64 (.i 9)))] [] [.n, .p, .n, .p] (.tup [(.a (.ptr (.v 0) 0)), (.a (.ptr (.v 2) 0))]) [((.b (.v 0)), (.prop 1)), ((.b (.v 2)), (.prop 3))]
(.call 57 [(.a (.ptr (.v 2) 0)), (.a (.int .i64 (.i 0))), (.a (.int .i64 (.i 3))), (.agg [(.int .i64 (.i 2)), (.sl .nil (.n 0) (.n 0))])] [((.b (.v 2)), (.prop 3)), ((.b (.v 0)), (.prop 1))] [.i, .a, .n, .n, .p, .i, .p, .p] (.tup [(.agg [(.int .i64 (.v 4)), (.sl (.v 5) (.v 6) (.v 7))]), (.a (.int .i64 (.v 9)))]) [((.a 5), (.prop 8)), ((.b (.v 2)), (.prop 10)), ((.b (.v 0)), (.prop 11))]
(.new
(.new
(.call 57 [(.a (.ptr (.v 2) 0)), (.a (.int .i64 (.i 0))), (.a (.int .i64 (.i 3))), (.agg [(.int .i64 (.i 1)), (.sl (.b (.v 13) 0) (.n 1) (.n 1))])] [((.b (.v 2)), (.prop 10)), ((.b (.v 0)), (.prop 11)), ((.b (.v 13)), (.cells [(.int .u8 (.i 1))] 5))] [.i, .a, .n, .n, .p, .i, .p, .p] (.tup [(.agg [(.int .i64 (.v 14)), (.sl (.v 15) (.v 16) (.v 17))]), (.a (.int .i64 (.v 19)))]) [((.a 15), (.prop 18)), ((.b (.v 2)), (.prop 20)), ((.b (.v 0)), (.prop 21)), ((.b (.v 13)), (.cells [(.int .u8 (.i 1))] 5))]
(.new
(.br (.o2 .eq (.v 9) (.i 0))
 (.br (.o2 .eq (.v 19) (.i 10))
  (.br (.o2 .eq (.v 14) (.i 2))
   (.call 40 [(.a (.ptr (.v 2) 0))] [((.b (.v 2)), (.prop 20)), ((.b (.v 0)), (.prop 21))] [.i] (.w (.a (.int .i64 (.v 23)))) [((.b (.v 2)), (.prop 20)), ((.b (.v 0)), (.prop 21))]
   (.ret (.w (.a (.bool (.o2 .eq (.v 23) (.i 4))))) []))
   (.ret (.w (.a (.bool (.c false)))) []))
  (.ret (.w (.a (.bool (.c false)))) []))
 (.ret (.w (.a (.bool (.c false)))) []))))))))
theorem tree_speaks09 : tree Try.prog { absT := [], opq := [], hv := [], keep := [87, 37, 39, 41, 109, 107, 62, 112, 111, 110, 133, 113, 19, 20, 38, 40, 21, 68, 14, 34], link := [(17, 0)], ent := [], turn := [(18, [100, 1]), (57, [100]), (29, [100]), (61, [0]), (69, [0]), (16, [0])], shr := [], vt := [], mkd := [], rlink := [(15, 1, 0)], pty := [], outl := true, stay := [], snk := [] } Try.f13 [] [] 0 = t_speaks09 := by kernel_rfl
-- tideline/tidelinelaw09.great: ρ := [.a callsa, .n callsl, .n callsc, .p callsP]
def t_great09 : T :=
(.br (.o2 .lt (.i 60) (.o1 .ofNat (.v 1)))
 (.ret (.w (.a (.bool (.c true)))) [((.a 0), (.prop 3))])
 (.loop [.c, .i] [(.e (.o1 .not (.o1 .not (.c false)))), (.e (.o1 .neg (.o1 .neg (.i 0))))]
  (.br (.o2 .lt (.v 5) (.o1 .ofNat (.v 1)))
   (.need (.o2 .le (.i 0) (.v 5))
   (.need (.o1 .isSome (.v 0))
   (.read (.load 36 (.tmp 12)) 36 [(12, (.w (.a (.eptr 0 (.v 5) 7 0))))] [((.a 0), (.prop 3))] [.i, .i, .i, .i, .a, .n, .n, .i, .i] (.w (.agg [(.int .i64 (.v 6)), (.int .i64 (.v 7)), (.int .i64 (.v 8)), (.int .i64 (.v 9)), (.sl (.v 10) (.v 11) (.v 12)), (.int .i64 (.v 13)), (.int .i64 (.v 14))]))
   (.new
   (.br (.o2 .lt (.i 2000) (.o1 .ofNat (.v 11)))
    (.ret (.w (.a (.bool (.c true)))) [((.a 0), (.prop 3))])
    (.need (.o1 (.inr .i64) (.o2 .add (.v 5) (.i 1)))
    (.again 0 [(.e (.o1 .not (.o1 .not (.v 4)))), (.e (.o1 .neg (.o1 .neg (.o2 .add (.v 5) (.i 1)))))])))))))
   (.ret (.w (.a (.bool (.c false)))) [((.a 0), (.prop 3))]))))
theorem tree_great09 : tree Try.prog { absT := [], opq := [], hv := [], keep := [87, 37, 39, 41, 109, 107, 62, 112, 111, 110, 133, 113, 19, 20, 38, 40, 21, 68, 14, 34], link := [(17, 0)], ent := [], turn := [(18, [100, 1]), (57, [100]), (29, [100]), (61, [0]), (69, [0]), (16, [0])], shr := [], vt := [], mkd := [], rlink := [(15, 1, 0)], pty := [], outl := true, stay := [], snk := [] } Try.f14 [(.a (.sl (.v 0) (.v 1) (.v 2)))] [((.a 0), (.prop 3))] 4 = t_great09 := by kernel_rfl
-- tideline/tidelinelaw09.call: ρ := [.n u, .p uP, .n r, .p rP, .i c_What, .i c_Epoch, .i c_At, .i c_Cell_What, .a c_Cell_Dataa, .n c_Cell_Datal, .n c_Cell_Datac, .p c_Cell_DataP, .i c_Ballot_Round, .i c_Ballot_Who]
def t_call09 : T :=
(.new
(.br (.o2 .eq (.v 4) (.i 0))
 (.call 57 [(.a (.ptr (.v 0) 0)), (.a (.int .i64 (.v 5))), (.a (.int .i64 (.v 6))), (.agg [(.int .i64 (.v 7)), (.sl (.v 8) (.v 9) (.v 10))])] [((.b (.v 0)), (.prop 1)), ((.a 8), (.prop 11))] [.i, .a, .n, .n, .p, .i, .p] (.tup [(.agg [(.int .i64 (.v 15)), (.sl (.v 16) (.v 17) (.v 18))]), (.a (.int .i64 (.v 20)))]) [((.a 16), (.prop 19)), ((.b (.v 0)), (.prop 21)), ((.a 8), (.prop 11))]
 (.new
 (.call 61 [(.a (.ptr (.v 2) 0)), (.a (.int .i64 (.v 5))), (.a (.int .i64 (.v 6))), (.agg [(.int .i64 (.v 7)), (.sl (.v 8) (.v 9) (.v 10))])] [((.b (.v 2)), (.prop 3)), ((.a 8), (.prop 11))] [.i, .a, .n, .n, .p, .i, .p] (.tup [(.agg [(.int .i64 (.v 23)), (.sl (.v 24) (.v 25) (.v 26))]), (.a (.int .i64 (.v 28)))]) [((.a 24), (.prop 27)), ((.b (.v 2)), (.prop 29)), ((.a 8), (.prop 11))]
 (.new
 (.br (.o2 .eq (.v 20) (.v 28))
  (.call 21 [(.agg [(.int .i64 (.v 15)), (.sl (.v 16) (.v 17) (.v 18))]), (.agg [(.int .i64 (.v 23)), (.sl (.v 24) (.v 25) (.v 26))])] [((.a 16), (.prop 19)), ((.a 24), (.prop 27))] [.c] (.w (.a (.bool (.v 31)))) [((.a 16), (.prop 19)), ((.a 24), (.prop 27))]
  (.ret (.w (.a (.bool (.v 31)))) [((.b (.v 0)), (.prop 21)), ((.b (.v 2)), (.prop 29)), ((.a 8), (.prop 11))]))
  (.ret (.w (.a (.bool (.c false)))) [((.b (.v 0)), (.prop 21)), ((.b (.v 2)), (.prop 29)), ((.a 8), (.prop 11))]))))))
 (.br (.o2 .eq (.v 4) (.i 1))
  (.call 19 [(.a (.ptr (.v 0) 0)), (.a (.int .i64 (.v 5))), (.a (.int .i64 (.v 6)))] [((.b (.v 0)), (.prop 1))] [.i, .a, .n, .n, .p, .i] (.tup [(.agg [(.int .i64 (.v 15)), (.sl (.v 16) (.v 17) (.v 18))]), (.a (.int .i64 (.v 20)))]) [((.a 16), (.prop 19)), ((.b (.v 0)), (.prop 1))]
  (.new
  (.call 62 [(.a (.ptr (.v 2) 0)), (.a (.int .i64 (.v 5))), (.a (.int .i64 (.v 6)))] [((.b (.v 2)), (.prop 3))] [.i, .a, .n, .n, .p, .i] (.tup [(.agg [(.int .i64 (.v 22)), (.sl (.v 23) (.v 24) (.v 25))]), (.a (.int .i64 (.v 27)))]) [((.a 23), (.prop 26)), ((.b (.v 2)), (.prop 3))]
  (.new
  (.br (.o2 .eq (.v 20) (.v 27))
   (.call 21 [(.agg [(.int .i64 (.v 15)), (.sl (.v 16) (.v 17) (.v 18))]), (.agg [(.int .i64 (.v 22)), (.sl (.v 23) (.v 24) (.v 25))])] [((.a 16), (.prop 19)), ((.a 23), (.prop 26))] [.c] (.w (.a (.bool (.v 29)))) [((.a 16), (.prop 19)), ((.a 23), (.prop 26))]
   (.ret (.w (.a (.bool (.v 29)))) [((.b (.v 0)), (.prop 1)), ((.b (.v 2)), (.prop 3)), ((.a 8), (.prop 11))]))
   (.ret (.w (.a (.bool (.c false)))) [((.b (.v 0)), (.prop 1)), ((.b (.v 2)), (.prop 3)), ((.a 8), (.prop 11))]))))))
  (.br (.o2 .eq (.v 4) (.i 2))
   (.call 63 [(.a (.ptr (.v 0) 0)), (.a (.int .i64 (.v 5))), (.a (.int .i64 (.v 6)))] [((.b (.v 0)), (.prop 1))] [.i, .p] (.w (.a (.int .i64 (.v 15)))) [((.b (.v 0)), (.prop 16))]
   (.call 64 [(.a (.ptr (.v 2) 0)), (.a (.int .i64 (.v 5))), (.a (.int .i64 (.v 6)))] [((.b (.v 2)), (.prop 3))] [.i, .p] (.w (.a (.int .i64 (.v 17)))) [((.b (.v 2)), (.prop 18))]
   (.ret (.w (.a (.bool (.o2 .eq (.v 15) (.v 17))))) [((.b (.v 0)), (.prop 16)), ((.b (.v 2)), (.prop 18)), ((.a 8), (.prop 11))])))
   (.br (.o2 .eq (.v 4) (.i 3))
    (.call 65 [(.a (.ptr (.v 0) 0)), (.a (.int .i64 (.v 5)))] [((.b (.v 0)), (.prop 1))] [.i, .p] (.w (.a (.int .i64 (.v 15)))) [((.b (.v 0)), (.prop 16))]
    (.call 66 [(.a (.ptr (.v 2) 0)), (.a (.int .i64 (.v 5)))] [((.b (.v 2)), (.prop 3))] [.i, .p] (.w (.a (.int .i64 (.v 17)))) [((.b (.v 2)), (.prop 18))]
    (.ret (.w (.a (.bool (.o2 .eq (.v 15) (.v 17))))) [((.b (.v 0)), (.prop 16)), ((.b (.v 2)), (.prop 18)), ((.a 8), (.prop 11))])))
    (.br (.o2 .eq (.v 4) (.i 4))
     (.call 26 [(.a (.ptr (.v 0) 0)), (.a (.int .i64 (.v 6))), (.agg [(.int .i64 (.v 12)), (.int .i64 (.v 13))])] [((.b (.v 0)), (.prop 1))] [.i, .i, .a, .n, .n, .p, .i, .p] (.tup [(.agg [(.int .i64 (.v 15)), (.int .i64 (.v 16))]), (.a (.sl (.v 17) (.v 18) (.v 19))), (.a (.int .i64 (.v 21)))]) [((.a 17), (.prop 20)), ((.b (.v 0)), (.prop 22))]
     (.new
     (.call 67 [(.a (.ptr (.v 2) 0)), (.a (.int .i64 (.v 6))), (.agg [(.int .i64 (.v 12)), (.int .i64 (.v 13))])] [((.b (.v 2)), (.prop 3))] [.i, .i, .a, .n, .n, .p, .i, .p] (.tup [(.agg [(.int .i64 (.v 24)), (.int .i64 (.v 25))]), (.a (.sl (.v 26) (.v 27) (.v 28))), (.a (.int .i64 (.v 30)))]) [((.a 26), (.prop 29)), ((.b (.v 2)), (.prop 31))]
     (.new
     (.br (.o2 .eq (.v 21) (.v 30))
      (.read (.binOp .eql 34 (.tmp 135) (.tmp 136) 34) 4 [(135, (.w (.agg [(.int .i64 (.v 15)), (.int .i64 (.v 16))]))), (136, (.w (.agg [(.int .i64 (.v 24)), (.int .i64 (.v 25))])))] [] [.c] (.w (.a (.bool (.v 33))))
      (.br (.v 33)
       (.call 68 [(.a (.sl (.v 17) (.v 18) (.v 19))), (.a (.sl (.v 26) (.v 27) (.v 28)))] [((.a 17), (.prop 20)), ((.a 26), (.prop 29))] [.c] (.w (.a (.bool (.v 34)))) [((.a 17), (.prop 20)), ((.a 26), (.prop 29))]
       (.ret (.w (.a (.bool (.v 34)))) [((.b (.v 0)), (.prop 22)), ((.b (.v 2)), (.prop 31)), ((.a 8), (.prop 11))]))
       (.ret (.w (.a (.bool (.c false)))) [((.b (.v 0)), (.prop 22)), ((.b (.v 2)), (.prop 31)), ((.a 8), (.prop 11))])))
      (.ret (.w (.a (.bool (.c false)))) [((.b (.v 0)), (.prop 22)), ((.b (.v 2)), (.prop 31)), ((.a 8), (.prop 11))]))))))
     (.call 29 [(.a (.ptr (.v 0) 0)), (.a (.int .i64 (.v 6))), (.agg [(.int .i64 (.v 12)), (.int .i64 (.v 13))]), (.a (.sl (.v 8) (.v 9) (.v 10)))] [((.b (.v 0)), (.prop 1)), ((.a 8), (.prop 11))] [.i, .p] (.w (.a (.int .i64 (.v 15)))) [((.b (.v 0)), (.prop 16)), ((.a 8), (.prop 11))]
     (.call 69 [(.a (.ptr (.v 2) 0)), (.a (.int .i64 (.v 6))), (.agg [(.int .i64 (.v 12)), (.int .i64 (.v 13))]), (.a (.sl (.v 8) (.v 9) (.v 10)))] [((.b (.v 2)), (.prop 3)), ((.a 8), (.prop 11))] [.i, .p] (.w (.a (.int .i64 (.v 17)))) [((.b (.v 2)), (.prop 18)), ((.a 8), (.prop 11))]
     (.ret (.w (.a (.bool (.o2 .eq (.v 15) (.v 17))))) [((.b (.v 0)), (.prop 16)), ((.b (.v 2)), (.prop 18)), ((.a 8), (.prop 11))])))))))))
theorem tree_call09 : tree Try.prog { absT := [], opq := [], hv := [], keep := [87, 37, 39, 41, 109, 107, 62, 112, 111, 110, 133, 113, 19, 20, 38, 40, 21, 68, 14, 34], link := [(17, 0)], ent := [], turn := [(18, [100, 1]), (57, [100]), (29, [100]), (61, [0]), (69, [0]), (16, [0])], shr := [], vt := [], mkd := [], rlink := [(15, 1, 0)], pty := [], outl := true, stay := [], snk := [] } Try.f18 [(.a (.ptr (.v 0) 0)), (.a (.ptr (.v 2) 0)), (.agg [(.int .i64 (.v 4)), (.int .i64 (.v 5)), (.int .i64 (.v 6)), (.int .i64 (.v 7)), (.sl (.v 8) (.v 9) (.v 10)), (.int .i64 (.v 12)), (.int .i64 (.v 13))])] [((.b (.v 0)), (.prop 1)), ((.b (.v 2)), (.prop 3)), ((.a 8), (.prop 11))] 14 = t_call09 := by kernel_rfl
-- tideline/tidelinelaw09.UnitOnce: ρ := [.a callsa, .n callsl, .n callsc, .p callsP, .i at]
def t_unitOnce : T :=
(.call 13 [] [] [.c] (.w (.a (.bool (.v 5)))) []
(.br (.o1 .not (.v 5))
 (.ret (.w (.a (.bool (.c false)))) [((.a 0), (.prop 3))])
 (.call 14 [(.a (.sl (.v 0) (.v 1) (.v 2)))] [((.a 0), (.prop 3))] [.c] (.w (.a (.bool (.v 6)))) [((.a 0), (.prop 3))]
 (.br (.v 6)
  (.ret (.w (.a (.bool (.c true)))) [((.a 0), (.prop 3))])
  (.call 15 [(.a (.int .i64 (.i 100)))] [] [.n, .p, .n, .p] (.tup [(.a (.ptr (.v 7) 0)), (.a (.ptr (.v 9) 0))]) [((.b (.v 7)), (.prop 8)), ((.b (.v 9)), (.prop 10))]
  (.loop [.c, .n, .v, .p, .i, .p, .p] [(.e (.o1 .not (.o1 .not (.c false)))), (.n (.v 9)), (.v .nilp), (.p []), (.e (.o1 .neg (.o1 .neg (.i 0)))), (.p [((.b (.v 7)), (.prop 8))]), (.p [((.b (.v 9)), (.prop 10))])]
   (.br (.o2 .lt (.v 15) (.o1 .ofNat (.v 1)))
    (.need (.o2 .le (.i 0) (.v 15))
    (.need (.o1 .isSome (.v 0))
    (.read (.load 36 (.tmp 28)) 36 [(28, (.w (.a (.eptr 0 (.v 15) 7 0))))] [((.a 0), (.prop 3))] [.i, .i, .i, .i, .a, .n, .n, .i, .i] (.w (.agg [(.int .i64 (.v 18)), (.int .i64 (.v 19)), (.int .i64 (.v 20)), (.int .i64 (.v 21)), (.sl (.v 22) (.v 23) (.v 24)), (.int .i64 (.v 25)), (.int .i64 (.v 26))]))
    (.new
    (.br (.o2 .lt (.v 18) (.i 0))
     (.call 16 [(.a (.ptr (.v 7) 0)), (.a (.sl (.v 22) (.v 23) (.v 24)))] [((.b (.v 7)), (.prop 16)), ((.a 0), (.prop 3))] [.p] (.tup []) [((.b (.v 7)), (.prop 28)), ((.a 0), (.prop 3))]
     (.call 17 [(.a (.ptr (.v 7) 0))] [((.b (.v 7)), (.prop 28))] [.n, .p, .i, .p] (.tup [(.a (.ptr (.v 29) 0)), (.a (.int .i64 (.v 31)))]) [((.b (.v 29)), (.prop 30)), ((.b (.v 7)), (.prop 32))]
     (.br (.o1 .not (.o2 .eq (.v 31) (.i 0)))
      (.ret (.w (.a (.bool (.c false)))) [((.a 0), (.prop 3))])
      (.call 20 [(.a (.ptr (.v 29) 0))] [((.b (.v 29)), (.prop 30)), ((.b (.v 7)), (.prop 32))] [.i] (.w (.a (.int .i64 (.v 33)))) [((.b (.v 29)), (.prop 30)), ((.b (.v 7)), (.prop 32))]
      (.call 19 [(.a (.ptr (.v 29) 0)), (.a (.int .i64 (.v 33))), (.a (.int .i64 (.v 4)))] [((.b (.v 29)), (.prop 30)), ((.b (.v 7)), (.prop 32))] [.i, .a, .n, .n, .p, .i] (.tup [(.agg [(.int .i64 (.v 34)), (.sl (.v 35) (.v 36) (.v 37))]), (.a (.int .i64 (.v 39)))]) [((.a 35), (.prop 38)), ((.b (.v 29)), (.prop 30)), ((.b (.v 7)), (.prop 32))]
      (.new
      (.read (.binOp .neq 29 (.tmp 68) (.const (.pointer none)) 29) 4 [(68, (.w (.a (.val 13))))] [((.a 13), (.prop 14))] [.c] (.w (.a (.bool (.v 41))))
      (.br (.v 41)
       (.br (.o1 .not (.o2 .eq (.v 39) (.i 11)))
        (.br (.o1 .not (.o2 .eq (.v 39) (.i 0)))
         (.ret (.w (.a (.bool (.c false)))) [((.a 0), (.prop 3))])
         (.read (.nilCheck (.tmp 79)) 0 [(79, (.w (.a (.val 13))))] [((.a 13), (.prop 14))] [] (.w (.a (.val 13)))
         (.read (.load 32 (.tmp 80)) 32 [(80, (.w (.a (.val 13))))] [((.a 13), (.prop 14))] [.i, .a, .n, .n] (.w (.agg [(.int .i64 (.v 42)), (.sl (.v 43) (.v 44) (.v 45))]))
         (.call 21 [(.agg [(.int .i64 (.v 34)), (.sl (.v 35) (.v 36) (.v 37))]), (.agg [(.int .i64 (.v 42)), (.sl (.v 43) (.v 44) (.v 45))])] [((.a 35), (.prop 38)), ((.a 13), (.prop 14))] [.c] (.w (.a (.bool (.v 46)))) [((.a 35), (.prop 38)), ((.a 13), (.prop 14))]
         (.br (.o1 .not (.v 46))
          (.ret (.w (.a (.bool (.c false)))) [((.a 0), (.prop 3))])
          (.read (.binOp .eql 29 (.tmp 89) (.const (.pointer none)) 29) 4 [(89, (.w (.a (.val 13))))] [((.a 13), (.prop 14))] [.c] (.w (.a (.bool (.v 47))))
          (.br (.v 47)
           (.need (.o1 (.inr .i64) (.o2 .add (.v 15) (.i 1)))
           (.again 0 [(.e (.o1 .not (.o1 .not (.v 11)))), (.n (.v 29)), (.v (.ptr (.v 40) 0)), (.p [((.b (.v 40)), (.cells [(.int .i64 (.v 34)), (.sl (.v 35) (.v 36) (.v 37))] 32)), ((.a 35), (.prop 38))]), (.e (.o1 .neg (.o1 .neg (.o2 .add (.v 15) (.i 1))))), (.p [((.b (.v 7)), (.prop 32))]), (.p [((.b (.v 29)), (.prop 30))])]))
           (.need (.o1 (.inr .i64) (.o2 .add (.v 15) (.i 1)))
           (.again 0 [(.e (.o1 .not (.o1 .not (.v 11)))), (.n (.v 29)), (.v (.val 13)), (.p [((.a 13), (.prop 14))]), (.e (.o1 .neg (.o1 .neg (.o2 .add (.v 15) (.i 1))))), (.p [((.b (.v 7)), (.prop 32))]), (.p [((.b (.v 29)), (.prop 30))])])))))))))
        (.br (.o2 .eq (.v 39) (.i 0))
         (.read (.binOp .eql 29 (.tmp 89) (.const (.pointer none)) 29) 4 [(89, (.w (.a (.val 13))))] [((.a 13), (.prop 14))] [.c] (.w (.a (.bool (.v 42))))
         (.br (.v 42)
          (.need (.o1 (.inr .i64) (.o2 .add (.v 15) (.i 1)))
          (.again 0 [(.e (.o1 .not (.o1 .not (.v 11)))), (.n (.v 29)), (.v (.ptr (.v 40) 0)), (.p [((.b (.v 40)), (.cells [(.int .i64 (.v 34)), (.sl (.v 35) (.v 36) (.v 37))] 32)), ((.a 35), (.prop 38))]), (.e (.o1 .neg (.o1 .neg (.o2 .add (.v 15) (.i 1))))), (.p [((.b (.v 7)), (.prop 32))]), (.p [((.b (.v 29)), (.prop 30))])]))
          (.need (.o1 (.inr .i64) (.o2 .add (.v 15) (.i 1)))
          (.again 0 [(.e (.o1 .not (.o1 .not (.v 11)))), (.n (.v 29)), (.v (.val 13)), (.p [((.a 13), (.prop 14))]), (.e (.o1 .neg (.o1 .neg (.o2 .add (.v 15) (.i 1))))), (.p [((.b (.v 7)), (.prop 32))]), (.p [((.b (.v 29)), (.prop 30))])]))))
         (.need (.o1 (.inr .i64) (.o2 .add (.v 15) (.i 1)))
         (.again 0 [(.e (.o1 .not (.o1 .not (.v 11)))), (.n (.v 29)), (.v (.val 13)), (.p [((.a 13), (.prop 14))]), (.e (.o1 .neg (.o1 .neg (.o2 .add (.v 15) (.i 1))))), (.p [((.b (.v 7)), (.prop 32))]), (.p [((.b (.v 29)), (.prop 30))])]))))
       (.br (.o2 .eq (.v 39) (.i 0))
        (.read (.binOp .eql 29 (.tmp 89) (.const (.pointer none)) 29) 4 [(89, (.w (.a (.val 13))))] [((.a 13), (.prop 14))] [.c] (.w (.a (.bool (.v 42))))
        (.br (.v 42)
         (.need (.o1 (.inr .i64) (.o2 .add (.v 15) (.i 1)))
         (.again 0 [(.e (.o1 .not (.o1 .not (.v 11)))), (.n (.v 29)), (.v (.ptr (.v 40) 0)), (.p [((.b (.v 40)), (.cells [(.int .i64 (.v 34)), (.sl (.v 35) (.v 36) (.v 37))] 32)), ((.a 35), (.prop 38))]), (.e (.o1 .neg (.o1 .neg (.o2 .add (.v 15) (.i 1))))), (.p [((.b (.v 7)), (.prop 32))]), (.p [((.b (.v 29)), (.prop 30))])]))
         (.need (.o1 (.inr .i64) (.o2 .add (.v 15) (.i 1)))
         (.again 0 [(.e (.o1 .not (.o1 .not (.v 11)))), (.n (.v 29)), (.v (.val 13)), (.p [((.a 13), (.prop 14))]), (.e (.o1 .neg (.o1 .neg (.o2 .add (.v 15) (.i 1))))), (.p [((.b (.v 7)), (.prop 32))]), (.p [((.b (.v 29)), (.prop 30))])]))))
        (.need (.o1 (.inr .i64) (.o2 .add (.v 15) (.i 1)))
        (.again 0 [(.e (.o1 .not (.o1 .not (.v 11)))), (.n (.v 29)), (.v (.val 13)), (.p [((.a 13), (.prop 14))]), (.e (.o1 .neg (.o1 .neg (.o2 .add (.v 15) (.i 1))))), (.p [((.b (.v 7)), (.prop 32))]), (.p [((.b (.v 29)), (.prop 30))])])))))))))))
     (.br (.o2 .lt (.i 5) (.v 18))
      (.call 16 [(.a (.ptr (.v 7) 0)), (.a (.sl (.v 22) (.v 23) (.v 24)))] [((.b (.v 7)), (.prop 16)), ((.a 0), (.prop 3))] [.p] (.tup []) [((.b (.v 7)), (.prop 28)), ((.a 0), (.prop 3))]
      (.call 17 [(.a (.ptr (.v 7) 0))] [((.b (.v 7)), (.prop 28))] [.n, .p, .i, .p] (.tup [(.a (.ptr (.v 29) 0)), (.a (.int .i64 (.v 31)))]) [((.b (.v 29)), (.prop 30)), ((.b (.v 7)), (.prop 32))]
      (.br (.o1 .not (.o2 .eq (.v 31) (.i 0)))
       (.ret (.w (.a (.bool (.c false)))) [((.a 0), (.prop 3))])
       (.call 20 [(.a (.ptr (.v 29) 0))] [((.b (.v 29)), (.prop 30)), ((.b (.v 7)), (.prop 32))] [.i] (.w (.a (.int .i64 (.v 33)))) [((.b (.v 29)), (.prop 30)), ((.b (.v 7)), (.prop 32))]
       (.call 19 [(.a (.ptr (.v 29) 0)), (.a (.int .i64 (.v 33))), (.a (.int .i64 (.v 4)))] [((.b (.v 29)), (.prop 30)), ((.b (.v 7)), (.prop 32))] [.i, .a, .n, .n, .p, .i] (.tup [(.agg [(.int .i64 (.v 34)), (.sl (.v 35) (.v 36) (.v 37))]), (.a (.int .i64 (.v 39)))]) [((.a 35), (.prop 38)), ((.b (.v 29)), (.prop 30)), ((.b (.v 7)), (.prop 32))]
       (.new
       (.read (.binOp .neq 29 (.tmp 68) (.const (.pointer none)) 29) 4 [(68, (.w (.a (.val 13))))] [((.a 13), (.prop 14))] [.c] (.w (.a (.bool (.v 41))))
       (.br (.v 41)
        (.br (.o1 .not (.o2 .eq (.v 39) (.i 11)))
         (.br (.o1 .not (.o2 .eq (.v 39) (.i 0)))
          (.ret (.w (.a (.bool (.c false)))) [((.a 0), (.prop 3))])
          (.read (.nilCheck (.tmp 79)) 0 [(79, (.w (.a (.val 13))))] [((.a 13), (.prop 14))] [] (.w (.a (.val 13)))
          (.read (.load 32 (.tmp 80)) 32 [(80, (.w (.a (.val 13))))] [((.a 13), (.prop 14))] [.i, .a, .n, .n] (.w (.agg [(.int .i64 (.v 42)), (.sl (.v 43) (.v 44) (.v 45))]))
          (.call 21 [(.agg [(.int .i64 (.v 34)), (.sl (.v 35) (.v 36) (.v 37))]), (.agg [(.int .i64 (.v 42)), (.sl (.v 43) (.v 44) (.v 45))])] [((.a 35), (.prop 38)), ((.a 13), (.prop 14))] [.c] (.w (.a (.bool (.v 46)))) [((.a 35), (.prop 38)), ((.a 13), (.prop 14))]
          (.br (.o1 .not (.v 46))
           (.ret (.w (.a (.bool (.c false)))) [((.a 0), (.prop 3))])
           (.read (.binOp .eql 29 (.tmp 89) (.const (.pointer none)) 29) 4 [(89, (.w (.a (.val 13))))] [((.a 13), (.prop 14))] [.c] (.w (.a (.bool (.v 47))))
           (.br (.v 47)
            (.need (.o1 (.inr .i64) (.o2 .add (.v 15) (.i 1)))
            (.again 0 [(.e (.o1 .not (.o1 .not (.v 11)))), (.n (.v 29)), (.v (.ptr (.v 40) 0)), (.p [((.b (.v 40)), (.cells [(.int .i64 (.v 34)), (.sl (.v 35) (.v 36) (.v 37))] 32)), ((.a 35), (.prop 38))]), (.e (.o1 .neg (.o1 .neg (.o2 .add (.v 15) (.i 1))))), (.p [((.b (.v 7)), (.prop 32))]), (.p [((.b (.v 29)), (.prop 30))])]))
            (.need (.o1 (.inr .i64) (.o2 .add (.v 15) (.i 1)))
            (.again 0 [(.e (.o1 .not (.o1 .not (.v 11)))), (.n (.v 29)), (.v (.val 13)), (.p [((.a 13), (.prop 14))]), (.e (.o1 .neg (.o1 .neg (.o2 .add (.v 15) (.i 1))))), (.p [((.b (.v 7)), (.prop 32))]), (.p [((.b (.v 29)), (.prop 30))])])))))))))
         (.br (.o2 .eq (.v 39) (.i 0))
          (.read (.binOp .eql 29 (.tmp 89) (.const (.pointer none)) 29) 4 [(89, (.w (.a (.val 13))))] [((.a 13), (.prop 14))] [.c] (.w (.a (.bool (.v 42))))
          (.br (.v 42)
           (.need (.o1 (.inr .i64) (.o2 .add (.v 15) (.i 1)))
           (.again 0 [(.e (.o1 .not (.o1 .not (.v 11)))), (.n (.v 29)), (.v (.ptr (.v 40) 0)), (.p [((.b (.v 40)), (.cells [(.int .i64 (.v 34)), (.sl (.v 35) (.v 36) (.v 37))] 32)), ((.a 35), (.prop 38))]), (.e (.o1 .neg (.o1 .neg (.o2 .add (.v 15) (.i 1))))), (.p [((.b (.v 7)), (.prop 32))]), (.p [((.b (.v 29)), (.prop 30))])]))
           (.need (.o1 (.inr .i64) (.o2 .add (.v 15) (.i 1)))
           (.again 0 [(.e (.o1 .not (.o1 .not (.v 11)))), (.n (.v 29)), (.v (.val 13)), (.p [((.a 13), (.prop 14))]), (.e (.o1 .neg (.o1 .neg (.o2 .add (.v 15) (.i 1))))), (.p [((.b (.v 7)), (.prop 32))]), (.p [((.b (.v 29)), (.prop 30))])]))))
          (.need (.o1 (.inr .i64) (.o2 .add (.v 15) (.i 1)))
          (.again 0 [(.e (.o1 .not (.o1 .not (.v 11)))), (.n (.v 29)), (.v (.val 13)), (.p [((.a 13), (.prop 14))]), (.e (.o1 .neg (.o1 .neg (.o2 .add (.v 15) (.i 1))))), (.p [((.b (.v 7)), (.prop 32))]), (.p [((.b (.v 29)), (.prop 30))])]))))
        (.br (.o2 .eq (.v 39) (.i 0))
         (.read (.binOp .eql 29 (.tmp 89) (.const (.pointer none)) 29) 4 [(89, (.w (.a (.val 13))))] [((.a 13), (.prop 14))] [.c] (.w (.a (.bool (.v 42))))
         (.br (.v 42)
          (.need (.o1 (.inr .i64) (.o2 .add (.v 15) (.i 1)))
          (.again 0 [(.e (.o1 .not (.o1 .not (.v 11)))), (.n (.v 29)), (.v (.ptr (.v 40) 0)), (.p [((.b (.v 40)), (.cells [(.int .i64 (.v 34)), (.sl (.v 35) (.v 36) (.v 37))] 32)), ((.a 35), (.prop 38))]), (.e (.o1 .neg (.o1 .neg (.o2 .add (.v 15) (.i 1))))), (.p [((.b (.v 7)), (.prop 32))]), (.p [((.b (.v 29)), (.prop 30))])]))
          (.need (.o1 (.inr .i64) (.o2 .add (.v 15) (.i 1)))
          (.again 0 [(.e (.o1 .not (.o1 .not (.v 11)))), (.n (.v 29)), (.v (.val 13)), (.p [((.a 13), (.prop 14))]), (.e (.o1 .neg (.o1 .neg (.o2 .add (.v 15) (.i 1))))), (.p [((.b (.v 7)), (.prop 32))]), (.p [((.b (.v 29)), (.prop 30))])]))))
         (.need (.o1 (.inr .i64) (.o2 .add (.v 15) (.i 1)))
         (.again 0 [(.e (.o1 .not (.o1 .not (.v 11)))), (.n (.v 29)), (.v (.val 13)), (.p [((.a 13), (.prop 14))]), (.e (.o1 .neg (.o1 .neg (.o2 .add (.v 15) (.i 1))))), (.p [((.b (.v 7)), (.prop 32))]), (.p [((.b (.v 29)), (.prop 30))])])))))))))))
      (.new
      (.call 18 [(.a (.ptr (.v 12) 0)), (.a (.ptr (.v 28) 0)), (.agg [(.int .i64 (.v 18)), (.int .i64 (.v 19)), (.int .i64 (.v 20)), (.int .i64 (.v 21)), (.sl (.v 22) (.v 23) (.v 24)), (.int .i64 (.v 25)), (.int .i64 (.v 26))])] [((.b (.v 12)), (.prop 17)), ((.b (.v 7)), (.prop 16)), ((.b (.v 28)), (.cells [(.sl .nil (.n 0) (.n 0)), (.int .i64 (.i 100))] 45)), ((.a 0), (.prop 3))] [.c, .p, .p, .a, .n, .n, .p, .i] (.w (.a (.bool (.v 29)))) [((.b (.v 12)), (.prop 30)), ((.b (.v 7)), (.prop 31)), ((.b (.v 28)), (.cells [(.sl (.v 32) (.v 33) (.v 34)), (.int .i64 (.v 36))] 45)), ((.a 32), (.prop 35)), ((.a 0), (.prop 3))]
      (.call 20 [(.a (.ptr (.v 12) 0))] [((.b (.v 12)), (.prop 30)), ((.b (.v 7)), (.prop 31))] [.i] (.w (.a (.int .i64 (.v 37)))) [((.b (.v 12)), (.prop 30)), ((.b (.v 7)), (.prop 31))]
      (.call 19 [(.a (.ptr (.v 12) 0)), (.a (.int .i64 (.v 37))), (.a (.int .i64 (.v 4)))] [((.b (.v 12)), (.prop 30)), ((.b (.v 7)), (.prop 31))] [.i, .a, .n, .n, .p, .i] (.tup [(.agg [(.int .i64 (.v 38)), (.sl (.v 39) (.v 40) (.v 41))]), (.a (.int .i64 (.v 43)))]) [((.a 39), (.prop 42)), ((.b (.v 12)), (.prop 30)), ((.b (.v 7)), (.prop 31))]
      (.new
      (.read (.binOp .neq 29 (.tmp 68) (.const (.pointer none)) 29) 4 [(68, (.w (.a (.val 13))))] [((.a 13), (.prop 14))] [.c] (.w (.a (.bool (.v 45))))
      (.br (.v 45)
       (.br (.o1 .not (.o2 .eq (.v 43) (.i 11)))
        (.br (.o1 .not (.o2 .eq (.v 43) (.i 0)))
         (.ret (.w (.a (.bool (.c false)))) [((.a 0), (.prop 3))])
         (.read (.nilCheck (.tmp 79)) 0 [(79, (.w (.a (.val 13))))] [((.a 13), (.prop 14))] [] (.w (.a (.val 13)))
         (.read (.load 32 (.tmp 80)) 32 [(80, (.w (.a (.val 13))))] [((.a 13), (.prop 14))] [.i, .a, .n, .n] (.w (.agg [(.int .i64 (.v 46)), (.sl (.v 47) (.v 48) (.v 49))]))
         (.call 21 [(.agg [(.int .i64 (.v 38)), (.sl (.v 39) (.v 40) (.v 41))]), (.agg [(.int .i64 (.v 46)), (.sl (.v 47) (.v 48) (.v 49))])] [((.a 39), (.prop 42)), ((.a 13), (.prop 14))] [.c] (.w (.a (.bool (.v 50)))) [((.a 39), (.prop 42)), ((.a 13), (.prop 14))]
         (.br (.o1 .not (.v 50))
          (.ret (.w (.a (.bool (.c false)))) [((.a 0), (.prop 3))])
          (.read (.binOp .eql 29 (.tmp 89) (.const (.pointer none)) 29) 4 [(89, (.w (.a (.val 13))))] [((.a 13), (.prop 14))] [.c] (.w (.a (.bool (.v 51))))
          (.br (.v 51)
           (.need (.o1 (.inr .i64) (.o2 .add (.v 15) (.i 1)))
           (.again 0 [(.e (.o1 .not (.o1 .not (.v 11)))), (.n (.v 12)), (.v (.ptr (.v 44) 0)), (.p [((.b (.v 44)), (.cells [(.int .i64 (.v 38)), (.sl (.v 39) (.v 40) (.v 41))] 32)), ((.a 39), (.prop 42))]), (.e (.o1 .neg (.o1 .neg (.o2 .add (.v 15) (.i 1))))), (.p [((.b (.v 7)), (.prop 31))]), (.p [((.b (.v 12)), (.prop 30))])]))
           (.need (.o1 (.inr .i64) (.o2 .add (.v 15) (.i 1)))
           (.again 0 [(.e (.o1 .not (.o1 .not (.v 11)))), (.n (.v 12)), (.v (.val 13)), (.p [((.a 13), (.prop 14))]), (.e (.o1 .neg (.o1 .neg (.o2 .add (.v 15) (.i 1))))), (.p [((.b (.v 7)), (.prop 31))]), (.p [((.b (.v 12)), (.prop 30))])])))))))))
        (.br (.o2 .eq (.v 43) (.i 0))
         (.read (.binOp .eql 29 (.tmp 89) (.const (.pointer none)) 29) 4 [(89, (.w (.a (.val 13))))] [((.a 13), (.prop 14))] [.c] (.w (.a (.bool (.v 46))))
         (.br (.v 46)
          (.need (.o1 (.inr .i64) (.o2 .add (.v 15) (.i 1)))
          (.again 0 [(.e (.o1 .not (.o1 .not (.v 11)))), (.n (.v 12)), (.v (.ptr (.v 44) 0)), (.p [((.b (.v 44)), (.cells [(.int .i64 (.v 38)), (.sl (.v 39) (.v 40) (.v 41))] 32)), ((.a 39), (.prop 42))]), (.e (.o1 .neg (.o1 .neg (.o2 .add (.v 15) (.i 1))))), (.p [((.b (.v 7)), (.prop 31))]), (.p [((.b (.v 12)), (.prop 30))])]))
          (.need (.o1 (.inr .i64) (.o2 .add (.v 15) (.i 1)))
          (.again 0 [(.e (.o1 .not (.o1 .not (.v 11)))), (.n (.v 12)), (.v (.val 13)), (.p [((.a 13), (.prop 14))]), (.e (.o1 .neg (.o1 .neg (.o2 .add (.v 15) (.i 1))))), (.p [((.b (.v 7)), (.prop 31))]), (.p [((.b (.v 12)), (.prop 30))])]))))
         (.need (.o1 (.inr .i64) (.o2 .add (.v 15) (.i 1)))
         (.again 0 [(.e (.o1 .not (.o1 .not (.v 11)))), (.n (.v 12)), (.v (.val 13)), (.p [((.a 13), (.prop 14))]), (.e (.o1 .neg (.o1 .neg (.o2 .add (.v 15) (.i 1))))), (.p [((.b (.v 7)), (.prop 31))]), (.p [((.b (.v 12)), (.prop 30))])]))))
       (.br (.o2 .eq (.v 43) (.i 0))
        (.read (.binOp .eql 29 (.tmp 89) (.const (.pointer none)) 29) 4 [(89, (.w (.a (.val 13))))] [((.a 13), (.prop 14))] [.c] (.w (.a (.bool (.v 46))))
        (.br (.v 46)
         (.need (.o1 (.inr .i64) (.o2 .add (.v 15) (.i 1)))
         (.again 0 [(.e (.o1 .not (.o1 .not (.v 11)))), (.n (.v 12)), (.v (.ptr (.v 44) 0)), (.p [((.b (.v 44)), (.cells [(.int .i64 (.v 38)), (.sl (.v 39) (.v 40) (.v 41))] 32)), ((.a 39), (.prop 42))]), (.e (.o1 .neg (.o1 .neg (.o2 .add (.v 15) (.i 1))))), (.p [((.b (.v 7)), (.prop 31))]), (.p [((.b (.v 12)), (.prop 30))])]))
         (.need (.o1 (.inr .i64) (.o2 .add (.v 15) (.i 1)))
         (.again 0 [(.e (.o1 .not (.o1 .not (.v 11)))), (.n (.v 12)), (.v (.val 13)), (.p [((.a 13), (.prop 14))]), (.e (.o1 .neg (.o1 .neg (.o2 .add (.v 15) (.i 1))))), (.p [((.b (.v 7)), (.prop 31))]), (.p [((.b (.v 12)), (.prop 30))])]))))
        (.need (.o1 (.inr .i64) (.o2 .add (.v 15) (.i 1)))
        (.again 0 [(.e (.o1 .not (.o1 .not (.v 11)))), (.n (.v 12)), (.v (.val 13)), (.p [((.a 13), (.prop 14))]), (.e (.o1 .neg (.o1 .neg (.o2 .add (.v 15) (.i 1))))), (.p [((.b (.v 7)), (.prop 31))]), (.p [((.b (.v 12)), (.prop 30))])]))))))))))))))))
    (.ret (.w (.a (.bool (.c true)))) [((.a 0), (.prop 3))]))))))))
theorem tree_unitOnce : tree Try.prog { absT := [], opq := [29], hv := [(0, [(.b (.v 9)), (.b (.v 7))])], keep := [87, 37, 39, 41, 109, 107, 62, 112, 111, 110, 133, 113, 19, 20, 38, 40, 21, 68, 14, 34], link := [(17, 0)], ent := [], turn := [(18, [100, 1]), (57, [100]), (29, [100]), (61, [0]), (69, [0]), (16, [0])], shr := [], vt := [], mkd := [], rlink := [(15, 1, 0)], pty := [], outl := true, stay := [], snk := [] } Try.f3 [(.a (.sl (.v 0) (.v 1) (.v 2))), (.a (.int .i64 (.v 4)))] [((.a 0), (.prop 3))] 5 = t_unitOnce := by kernel_rfl
end Go.Proofs.Ytmibmjehjagmbaa.RX

/- Law 9: its helpers, as contracts. No condition. -/
namespace Go.Proofs.Ytmibmjehjagmbaa
set_option linter.unusedSimpArgs false
set_option linter.unusedVariables false
open Go.Proofs.Ytmibmjehjagmbaa RX
set_option maxRecDepth 100000

/-- A unit without its device. -/
def UH (ub bd : Nat) (s : USt) : HP := HP.ex fun mc => HP.ex fun mi => HP.sep (UOne ub bd mc mi s) (HP.sep (MapE CellV iE mc s.cells) (MapE InstV iE mi s.inst))
theorem UH.join {ub bd : Nat} {s : USt} {D : HP} {R h : PH} (H : (HP.sep (UH ub bd s) D).p R h) : (URep ub bd D s).p R h := by
  obtain ⟨h1, h2, d, l1, l2, ⟨mc, mi, H1⟩, H2⟩ := H
  have := HP.sep_assoc ⟨h1, h2, d, l1, l2, H1, H2⟩
  refine ⟨mc, mi, HP.pick [_, _, _, _] [0, 3, 1, 2] (by decide) rfl (HP.sep_mono this (fun _ h => h) fun _ hy => HP.sep_assoc hy)⟩
theorem UH.split {ub bd : Nat} {s : USt} {D : HP} {R h : PH} (H : (URep ub bd D s).p R h) : (HP.sep (UH ub bd s) D).p R h := by
  obtain ⟨mc, mi, H⟩ := H
  have H1 : (HP.sep (UOne ub bd mc mi s) (HP.sep (MapE CellV iE mc s.cells) (HP.sep (MapE InstV iE mi s.inst) D))).p R h := HP.pick [_, _, _, _] [0, 2, 3, 1] (by decide) rfl H
  have H2 := HP.sep_assoc' (HP.sep_mono H1 (fun _ h => h) fun _ hy => HP.sep_assoc' hy)
  exact HP.sep_mono H2 (fun y hy => ⟨mc, mi, hy⟩) fun _ h => h
theorem laid09_ok (n : Int) (h1 : 1 ≤ n) (h2 : n ≤ 1000) : Tri Try.prog 15 #[.int .i64 n] HP.tt
    (fun v => HP.ex fun bd => HP.ex fun ub => HP.and (v = .tuple #[.pointer (some ⟨bd, 0, none⟩), .pointer (some ⟨ub, 0, none⟩)]) (HP.sep (DRep bd n [] 0) (UH ub bd s0))) := by
  refine tri_of_tree (ρ := [.i n]) mixed Try.func15 tree_laid09 ?_
  unfold t_laid09
  simp only [T.den, E.prop, E.den, RX.look, F1.app, F2.app, Uni.int_i, Uni.nat_n, Uni.bool_c, Uni.str_s, Uni.adr_a, Uni.val_v, Uni.hp_p, hden, cden, V.den, W.den, A.den, BR.den, SA.den, FV.den, capV, exs, exP, allP, Cur.app, List.map_cons, List.map_nil, List.cons_append, List.nil_append, List.drop_succ_cons, List.drop_zero, List.length_cons, List.length_nil, Nat.zero_add, Nat.reduceAdd, Int.neg_neg, Bool.not_not, List.append_nil, Nat.add_zero, List.getElem?_cons_zero, List.getElem?_cons_succ, Decidable.not_not, semW_eq, semW_load, semW_store, semW_storeC, semW_append, semW_lookup, semW_lookupC, semW_update, semW_updateC, semW_updateK, semW_delete, semW_range, semW_next, semW_entry, semW_nil, ne_eq, Nat.reduceEqDiff, not_false_eq_true]
  refine (dNew_ok n (by omega) (by omega)).weak (fun _ _ h => h) ?_
  rintro v R h ⟨bd, rfl, H⟩
  refine ⟨bd, DRep bd n [] 0, 0, rfl, ⟨fun h => absurd rfl h, fun _ => ?_⟩, H⟩
  clear H
  refine (uOpen_ok bd n [] 0 s0 rfl).weak (fun _ _ h => h) ?_
  rintro v R h ⟨ub, rfl, H⟩
  rw [forg0] at H
  exact ⟨ub, UH ub bd s0, 0, DRep bd n [] 0, rfl, ⟨fun h => absurd rfl h, fun _ => .of fun R h H => ⟨bd, ub, rfl, H⟩⟩, UH.split H⟩
theorem speaks09_ok : Tri Try.prog 13 #[] HP.tt (fun v => HP.pure (v = .bool true)) := by
  refine tri_of_tree (ρ := []) mixed Try.func13 tree_speaks09 ?_
  unfold t_speaks09
  simp only [T.den, E.prop, E.den, RX.look, F1.app, F2.app, Uni.int_i, Uni.nat_n, Uni.bool_c, Uni.str_s, Uni.adr_a, Uni.val_v, Uni.hp_p, hden, cden, V.den, W.den, A.den, BR.den, SA.den, FV.den, capV, exs, exP, allP, Cur.app, List.map_cons, List.map_nil, List.cons_append, List.nil_append, List.drop_succ_cons, List.drop_zero, List.length_cons, List.length_nil, Nat.zero_add, Nat.reduceAdd, Int.neg_neg, Bool.not_not, List.append_nil, Nat.add_zero, List.getElem?_cons_zero, List.getElem?_cons_succ, Decidable.not_not, semW_eq, semW_load, semW_store, semW_storeC, semW_append, semW_lookup, semW_lookupC, semW_update, semW_updateC, semW_updateK, semW_delete, semW_range, semW_next, semW_entry, semW_nil, ne_eq, Nat.reduceEqDiff, not_false_eq_true]
  refine (laid09_ok 9 (by decide) (by decide)).weak (fun _ _ h => h) ?_
  rintro v R h ⟨bd, ub, rfl, H⟩
  refine ⟨bd, DRep bd 9 [] 0, ub, UH ub bd s0, rfl, ?_, H⟩
  clear H
  have e1 : writeS 9 s0 [] 0 3 ⟨2, []⟩ = (zC, 0, putS s0 3 ⟨2, []⟩, [pgW (cellL 3 ⟨2, []⟩)]) := by kernel_rfl
  refine (uWrite_ok ub bd 9 s0 [] 0 3 2 none 0 0 [] (RoB none 0 []) (RdL.ro _ _ _ _) rfl (fun h => absurd rfl h)).weak (fun R h H => RoC.joinR (RoB0 none : (RoB none 0 []).p R h) (UH.join H)) ?_
  rw [e1]
  dsimp only
  rintro v R h ⟨a, c, rfl, H⟩
  refine ⟨_, a, _, c, RoB a 0 [], _, UH ub bd (putS s0 3 ⟨2, []⟩), DRep bd 9 [pgW (cellL 3 ⟨2, []⟩)] 1, rfl, fun _ b => ?_, HP.sep_mono H (fun _ h => h) fun y hy => UH.split (HP.sep_left hy)⟩
  clear H
  have e2 : writeS 9 (putS s0 3 ⟨2, []⟩) [pgW (cellL 3 ⟨2, []⟩)] 0 3 ⟨1, [1]⟩ = (⟨2, []⟩, 10, putS s0 3 ⟨2, []⟩, [pgW (cellL 3 ⟨2, []⟩)]) := by kernel_rfl
  refine (uWrite_ok ub bd 9 (putS s0 3 ⟨2, []⟩) [pgW (cellL 3 ⟨2, []⟩)] 0 3 1 (some ⟨b, 0, none⟩) 1 1 [1] (HP.one b (.cells #[.int .u8 1] 5 (0, 0))) ⟨one_rd b #[.int .u8 1] _, fun _ _ _ e => by cases e⟩ rfl (fun _ => rfl)).weak (fun R h H => HP.sep_mono (HP.sep_assoc' H) (fun y hy => UH.join hy) fun _ h => h) ?_
  rw [e2]
  dsimp only
  rintro v R h ⟨a2, c2, rfl, H⟩
  refine ⟨_, a2, _, c2, RoB a2 0 [], _, UH ub bd (putS s0 3 ⟨2, []⟩), DRep bd 9 [pgW (cellL 3 ⟨2, []⟩)] 1, rfl, fun _ => ⟨fun _ => ⟨fun _ => ⟨fun _ => ?_, fun h => absurd rfl h⟩, fun h => absurd rfl h⟩, fun h => absurd rfl h⟩, HP.sep_mono H (fun _ h => h) fun y hy => HP.sep_assoc (HP.sep_mono hy (fun z hz => UH.split hz) fun _ h => h)⟩
  clear H
  refine (uTail_ok ub bd (DRep bd 9 [pgW (cellL 3 ⟨2, []⟩)] 1) (putS s0 3 ⟨2, []⟩)).weak (fun R h H => UH.join H) ?_
  rintro v R h ⟨rfl, H⟩
  exact ⟨_, rfl, .of fun R h H => (by show _ = _; rfl), UH.split H⟩
theorem great09_ok (a : Option Addr) (c : Nat) (l : List Call09) : Tri Try.prog 14 #[.slice a l.length c] (Ls kCall09 a l.length l) (fun v => HP.ex fun g => HP.and (v = .bool g ∧ (g = false → l.length ≤ 60 ∧ ∀ x ∈ l, x.cell_data.length ≤ 2000)) (Ls kCall09 a l.length l)) := by
  refine Tri.fact (φ := l.length ≠ 0 → a.isSome = true) (fun R h H hn => RoC.some H.2.1 (by omega)) fun ha => ?_
  refine tri_of_tree (ρ := [.a a, .n l.length, .n c, .p (Ls kCall09 a l.length l)]) mixed Try.func14 tree_great09 ?_
  unfold t_great09
  simp only [T.den, E.prop, E.den, RX.look, F1.app, F2.app, Uni.int_i, Uni.nat_n, Uni.bool_c, Uni.str_s, Uni.adr_a, Uni.val_v, Uni.hp_p, hden, cden, V.den, W.den, A.den, BR.den, SA.den, FV.den, capV, exs, exP, allP, Cur.app, List.map_cons, List.map_nil, List.cons_append, List.nil_append, List.drop_succ_cons, List.drop_zero, List.length_cons, List.length_nil, Nat.zero_add, Nat.reduceAdd, Int.neg_neg, Bool.not_not, List.append_nil, Nat.add_zero, List.getElem?_cons_zero, List.getElem?_cons_succ, Decidable.not_not, semW_eq, semW_load, semW_store, semW_storeC, semW_append, semW_lookup, semW_lookupC, semW_update, semW_updateC, semW_updateK, semW_delete, semW_range, semW_next, semW_entry, semW_nil, ne_eq, Nat.reduceEqDiff, not_false_eq_true]
  refine ⟨fun h => .of fun R h H => ⟨true, ⟨rfl, fun e => by cases e⟩, H⟩, fun h60 => ?_⟩
  refine ⟨fun _ i => ∃ k : Nat, i = k ∧ k ≤ l.length ∧ ∀ j x, j < k → l[j]? = some x → x.cell_data.length ≤ 2000, fun _ i => l.length - i.toNat, ⟨0, rfl, Nat.zero_le _, fun j x h => by omega⟩, ?_⟩
  rintro _ _ ⟨k, rfl, hk, hall⟩
  refine ⟨fun hlt => ⟨by omega, fun _ => ⟨ha (by omega), fun _ => ?_⟩⟩, fun hge => .of fun R h H => ⟨false, ⟨rfl, fun _ => ⟨by omega, fun x hx => ?_⟩⟩, H⟩⟩
  · have hkl : k < l.length := by omega
    have hg : l[k]? = some l[k] := List.getElem?_eq_getElem hkl
    generalize l[k] = x at hg
    refine ⟨_, _, _, _, _, _, _, _, _, Call09.load (a := a) (n := l.length) hg, fun _ => ⟨fun _ => .of fun R h H => ⟨true, ⟨rfl, fun e => by cases e⟩, H⟩, fun h2 => ⟨inI64 _ (by omega) (by omega), fun _ => ⟨⟨k + 1, by omega, by omega, fun j y hj hy => ?_⟩, by dsimp only; omega⟩⟩⟩⟩
    rcases Nat.lt_or_ge j k with h | h
    · exact hall j y h hy
    · obtain rfl : j = k := by omega
      rw [hg] at hy; cases hy; omega
  · obtain ⟨j, hj⟩ := List.getElem?_of_mem hx
    exact hall j x (by have := (List.getElem?_eq_some_iff.1 hj).1; omega) hj
/-- What a call makes of a unit. -/
def callS (room : Int) (s : USt) (ps : List Pg) (c : Call09) : USt × List Pg :=
  if c.what = 0 then (writeS room s ps c.epoch c.at_ ⟨c.cell_what, c.cell_data⟩).2.2
  else if c.what = 1 then (s, ps)
  else if c.what = 2 then (trimS room s ps c.epoch c.at_).2
  else if c.what = 3 then (sealS room s ps c.epoch).2
  else if c.what = 4 then (promiseS room s ps c.at_ c.br_r c.br_w).2.2.2.2
  else (acceptS room s ps c.at_ c.br_r c.br_w c.cell_data).2
def callR (room : Int) (l : List RPg) (c : Call09) : List RPg :=
  if c.what = 0 then (writeR room l c.epoch c.at_ ⟨c.cell_what, c.cell_data⟩).2
  else if c.what = 1 then l
  else if c.what = 2 then (trimR room l c.epoch c.at_).2
  else if c.what = 3 then (sealR room l c.epoch).2
  else if c.what = 4 then (promiseR room l c.at_ c.br_r c.br_w).2
  else (acceptR room l c.at_ c.br_r c.br_w c.cell_data).2
/-- Whether both answer alike. -/
def callB (room : Int) (s : USt) (ps : List Pg) (l : List RPg) (c : Call09) : Bool :=
  if c.what = 0 then decide ((writeS room s ps c.epoch c.at_ ⟨c.cell_what, c.cell_data⟩).2.1 = (writeR room l c.epoch c.at_ ⟨c.cell_what, c.cell_data⟩).1.2) && decide ((writeS room s ps c.epoch c.at_ ⟨c.cell_what, c.cell_data⟩).1.what = (writeR room l c.epoch c.at_ ⟨c.cell_what, c.cell_data⟩).1.1.what ∧ (writeS room s ps c.epoch c.at_ ⟨c.cell_what, c.cell_data⟩).1.data = (writeR room l c.epoch c.at_ ⟨c.cell_what, c.cell_data⟩).1.1.data)
  else if c.what = 1 then decide ((readS s c.epoch c.at_).2 = (readR l c.epoch c.at_).2) && decide ((readS s c.epoch c.at_).1.what = (readR l c.epoch c.at_).1.what ∧ (readS s c.epoch c.at_).1.data = (readR l c.epoch c.at_).1.data)
  else if c.what = 2 then decide ((trimS room s ps c.epoch c.at_).1 = (trimR room l c.epoch c.at_).1)
  else if c.what = 3 then decide ((sealS room s ps c.epoch).1 = (sealR room l c.epoch).1)
  else if c.what = 4 then decide ((promiseS room s ps c.at_ c.br_r c.br_w).2.2.2.1 = (promiseR room l c.at_ c.br_r c.br_w).1.2.2) && (decide ((promiseS room s ps c.at_ c.br_r c.br_w).1 = (promiseR room l c.at_ c.br_r c.br_w).1.1.1) && decide ((promiseS room s ps c.at_ c.br_r c.br_w).2.1 = (promiseR room l c.at_ c.br_r c.br_w).1.1.2)) && decide ((promiseS room s ps c.at_ c.br_r c.br_w).2.2.1 = (promiseR room l c.at_ c.br_r c.br_w).1.2.1)
  else decide ((acceptS room s ps c.at_ c.br_r c.br_w c.cell_data).1 = (acceptR room l c.at_ c.br_r c.br_w c.cell_data).1)
theorem eqBW {i j : Nat} {ty u : TypeId} (h : i ≠ j) {r q r' q' : Int} {A : HP} :
    ORead Try.prog (semW (.binOp .eql 34 (.tmp i) (.tmp j) u) ty [(i, .agg #[.int .i64 r, .int .i64 q]), (j, .agg #[.int .i64 r', .int .i64 q'])]) A (.bool (decide (r = r') && decide (q = q'))) := by
  have := semOf_eqB (ρ := [.i r, .i q, .i r', .i q']) (i := i) (j := j) (ty := ty) (u := u) (x := .w (.agg [.int .i64 (.v 0), .int .i64 (.v 1)])) (y := .w (.agg [.int .i64 (.v 2), .int .i64 (.v 3)])) h (A := A) rfl rfl
  rw [semW_eq] at this
  exact this
theorem writeS_bnd {room : Int} {s : USt} {ps : List Pg} {epoch at' : Int} {x : CellS} (hb : Bnd s) : (writeS room s ps epoch at' x).1.data.length ≤ 140737488355328 := by
  have z : zC.data.length ≤ 140737488355328 := by simp [zC]
  unfold writeS
  split
  · exact z
  split
  · exact z
  split
  · exact z
  split
  · rename_i c e; exact hb.1 _ _ e
  · exact z
theorem readS_bnd {s : USt} {epoch at' : Int} (hb : Bnd s) : (readS s epoch at').1.data.length ≤ 140737488355328 := by
  unfold readS
  split
  · simp
  split
  · simp
  split
  · rename_i c e; exact hb.1 _ _ e
  · simp
theorem promiseS_bnd {room : Int} {s : USt} {ps : List Pg} {n r w : Int} (hb : Bnd s) : (promiseS room s ps n r w).2.2.1.length ≤ 140737488355328 := by
  have hi : (instAt s n).val.length ≤ 140737488355328 := by
    unfold instAt
    cases e : s.inst n with
    | none => simp [zI]
    | some x => exact hb.2 _ _ e
  unfold promiseS
  split
  · simp
  split
  · simp
  split
  · exact hi
  split
  · simp
  · exact hi
end Go.Proofs.Ytmibmjehjagmbaa

/- Trees of functions, printed by rx.lean. No condition. -/
namespace Go.Proofs.Ytmibmjehjagmbaa.RX
set_option maxRecDepth 100000
-- cmp.isNaN[int]: ρ := [.i x]
def t_bIsNaN : T :=
(.ret (.w (.a (.bool (.o1 .not (.o2 .eq (.v 0) (.v 0)))))) [])
theorem tree_bIsNaN : tree Try.prog { absT := [], opq := [], hv := [], keep := [25, 27, 30, 116, 79, 72, 117, 135, 136, 139], link := [], ent := [], turn := [], shr := [], vt := [], mkd := [], rlink := [], pty := [], outl := false, stay := [], snk := [] } Try.f139 [(.a (.int .i64 (.v 0)))] [] 1 = t_bIsNaN := by kernel_rfl
-- cmp.Compare[int]: ρ := [.i x, .i y]
def t_bCompare : T :=
(.call 139 [(.a (.int .i64 (.v 0)))] [] [.c] (.w (.a (.bool (.v 2)))) []
(.call 139 [(.a (.int .i64 (.v 1)))] [] [.c] (.w (.a (.bool (.v 3)))) []
(.br (.v 2)
 (.br (.v 3)
  (.ret (.w (.a (.int .i64 (.i 0)))) [])
  (.ret (.w (.a (.int .i64 (.i (-1))))) []))
 (.br (.v 3)
  (.ret (.w (.a (.int .i64 (.i 1)))) [])
  (.br (.o2 .lt (.v 0) (.v 1))
   (.ret (.w (.a (.int .i64 (.i (-1))))) [])
   (.br (.o2 .lt (.v 1) (.v 0))
    (.ret (.w (.a (.int .i64 (.i 1)))) [])
    (.ret (.w (.a (.int .i64 (.i 0)))) [])))))))
theorem tree_bCompare : tree Try.prog { absT := [], opq := [], hv := [], keep := [25, 27, 30, 116, 79, 72, 117, 135, 136, 139], link := [], ent := [], turn := [], shr := [], vt := [], mkd := [], rlink := [], pty := [], outl := false, stay := [], snk := [] } Try.f135 [(.a (.int .i64 (.v 0))), (.a (.int .i64 (.v 1)))] [] 2 = t_bCompare := by kernel_rfl
-- cmp.Or[int]: ρ := [.a valsa, .n valsl, .n valsc, .p valsP]
def t_bOr : T :=
(.loop [.i, .i] [(.e (.o1 .neg (.o1 .neg (.i 0)))), (.e (.o1 .neg (.o1 .neg (.i 0))))]
 (.br (.o2 .lt (.v 5) (.o1 .ofNat (.v 1)))
  (.need (.o2 .le (.i 0) (.v 5))
  (.need (.o1 .isSome (.v 0))
  (.read (.load 3 (.tmp 10)) 3 [(10, (.w (.a (.eptr 0 (.v 5) 1 0))))] [((.a 0), (.prop 3))] [.i] (.w (.a (.int .i64 (.v 6))))
  (.br (.o1 .not (.o2 .eq (.v 6) (.i 0)))
   (.ret (.w (.a (.int .i64 (.v 6)))) [((.a 0), (.prop 3))])
   (.need (.o1 (.inr .i64) (.o2 .add (.v 5) (.i 1)))
   (.again 0 [(.e (.o1 .neg (.o1 .neg (.v 4)))), (.e (.o1 .neg (.o1 .neg (.o2 .add (.v 5) (.i 1)))))]))))))
  (.ret (.w (.a (.int .i64 (.i 0)))) [((.a 0), (.prop 3))])))
theorem tree_bOr : tree Try.prog { absT := [], opq := [], hv := [], keep := [25, 27, 30, 116, 79, 72, 117, 135, 136, 139], link := [], ent := [], turn := [], shr := [], vt := [], mkd := [], rlink := [], pty := [], outl := false, stay := [], snk := [] } Try.f136 [(.a (.sl (.v 0) (.v 1) (.v 2)))] [((.a 0), (.prop 3))] 4 = t_bOr := by kernel_rfl
-- tideline/ballot.ahead: ρ := [.i a_turn, .c a_ok, .i a_accepted_Round, .i a_accepted_Who, .a a_valuea, .n a_valuel, .n a_valuec, .p a_valueP, .i other_turn, .c other_ok, .i other_accepted_Round, .i other_accepted_Who, .a other_valuea, .n other_valuel, .n other_valuec, .p other_valueP]
def t_bAhead : T :=
(.new
(.new
(.read (.binOp .eql 34 (.tmp 7) (.tmp 9) 34) 4 [(7, (.w (.agg [(.int .i64 (.v 2)), (.int .i64 (.v 3))]))), (9, (.w (.agg [(.int .i64 (.v 10)), (.int .i64 (.v 11))])))] [] [.c] (.w (.a (.bool (.v 18))))
(.br (.v 18)
 (.ret (.w (.a (.bool (.o2 .lt (.v 0) (.v 8))))) [((.a 4), (.prop 7)), ((.a 12), (.prop 15))])
 (.call 135 [(.a (.int .i64 (.v 2))), (.a (.int .i64 (.v 10)))] [] [.i] (.w (.a (.int .i64 (.v 19)))) []
 (.call 135 [(.a (.int .i64 (.v 3))), (.a (.int .i64 (.v 11)))] [] [.i] (.w (.a (.int .i64 (.v 20)))) []
 (.new
 (.call 136 [(.a (.sl (.b (.v 21) 0) (.n 2) (.n 2)))] [((.b (.v 21)), (.cells [(.int .i64 (.v 19)), (.int .i64 (.v 20))] 3))] [.i] (.w (.a (.int .i64 (.v 22)))) [((.b (.v 21)), (.cells [(.int .i64 (.v 19)), (.int .i64 (.v 20))] 3))]
 (.ret (.w (.a (.bool (.o2 .lt (.i 0) (.v 22))))) [((.a 4), (.prop 7)), ((.a 12), (.prop 15))])))))))))
theorem tree_bAhead : tree Try.prog { absT := [], opq := [], hv := [], keep := [25, 27, 30, 116, 79, 72, 117, 135, 136, 139], link := [], ent := [], turn := [], shr := [], vt := [], mkd := [], rlink := [], pty := [], outl := false, stay := [], snk := [] } Try.f117 [(.agg [(.int .i64 (.v 0)), (.bool (.v 1)), (.int .i64 (.v 2)), (.int .i64 (.v 3)), (.sl (.v 4) (.v 5) (.v 6))]), (.agg [(.int .i64 (.v 8)), (.bool (.v 9)), (.int .i64 (.v 10)), (.int .i64 (.v 11)), (.sl (.v 12) (.v 13) (.v 14))])] [((.a 4), (.prop 7)), ((.a 12), (.prop 15))] 16 = t_bAhead := by kernel_rfl
-- tideline/ballot.Start: ρ := [.i acceptors, .i b_Round, .i b_Who, .a valuea, .n valuel, .n valuec, .p valueP]
def t_bStart : T :=
(.new
(.all
 (.call 72 [(.a (.sl (.v 3) (.v 4) (.v 5)))] [((.a 3), (.prop 6))] [.a, .n, .n, .p] (.w (.a (.sl (.v 8) (.v 9) (.v 10)))) [((.a 8), (.prop 11)), ((.a 3), (.prop 6))]
 (.new
 (.new
 (.ret (.w (.a (.ptr (.v 13) 0))) [((.a 3), (.prop 6)), ((.b (.v 13)), (.cells [(.int .i64 (.o2 .mx (.v 0) (.i 1))), (.int .i64 (.v 1)), (.int .i64 (.v 2)), (.sl (.v 8) (.v 9) (.v 10)), (.int .i64 (.i 1)), (.map (.v 12)), (.int .i64 (.i 0))] 130)), ((.a 8), (.prop 11)), ((.b (.v 12)), .emap)]))))
 (.new
 (.call 72 [(.a (.sl (.v 3) (.v 4) (.v 5)))] [((.a 3), (.prop 6))] [.a, .n, .n, .p] (.w (.a (.sl (.v 9) (.v 10) (.v 11)))) [((.a 9), (.prop 12)), ((.a 3), (.prop 6))]
 (.new
 (.ret (.w (.a (.ptr (.v 13) 0))) [((.a 3), (.prop 6)), ((.b (.v 13)), (.cells [(.int .i64 (.o2 .mx (.v 0) (.i 1))), (.int .i64 (.v 1)), (.int .i64 (.v 2)), (.sl (.v 9) (.v 10) (.v 11)), (.int .i64 (.i 1)), (.map (.v 8)), (.int .i64 (.i 0))] 130)), ((.a 9), (.prop 12)), ((.b (.v 8)), .emap)]))))))
theorem tree_bStart : tree Try.prog { absT := [], opq := [], hv := [], keep := [25, 27, 30, 116, 79, 72, 117, 135, 136, 139], link := [], ent := [], turn := [], shr := [], vt := [], mkd := [], rlink := [], pty := [], outl := false, stay := [], snk := [] } Try.f24 [(.a (.int .i64 (.v 0))), (.agg [(.int .i64 (.v 1)), (.int .i64 (.v 2))]), (.a (.sl (.v 3) (.v 4) (.v 5)))] [((.a 3), (.prop 6))] 7 = t_bStart := by kernel_rfl
-- (*tideline/ballot.Proposer).Phase: ρ := [.n p, .i p_acceptors, .i p_ballot_Round, .i p_ballot_Who, .a p_valuea, .n p_valuel, .n p_valuec, .p p_valueP, .i p_phase, .n p_answers, .p p_answersP, .i p_agreed]
def t_bPhase : T :=
(.ret (.w (.a (.int .i64 (.v 8)))) [((.b (.v 0)), (.cells [(.int .i64 (.v 1)), (.int .i64 (.v 2)), (.int .i64 (.v 3)), (.sl (.v 4) (.v 5) (.v 6)), (.int .i64 (.v 8)), (.map (.v 9)), (.int .i64 (.v 11))] 130)), ((.a 4), (.prop 7)), ((.b (.v 9)), (.prop 10))])
theorem tree_bPhase : tree Try.prog { absT := [], opq := [], hv := [], keep := [25, 27, 30, 116, 79, 72, 117, 135, 136, 139], link := [], ent := [], turn := [], shr := [], vt := [], mkd := [], rlink := [], pty := [], outl := false, stay := [], snk := [] } Try.f25 [(.a (.ptr (.v 0) 0))] [((.b (.v 0)), (.cells [(.int .i64 (.v 1)), (.int .i64 (.v 2)), (.int .i64 (.v 3)), (.sl (.v 4) (.v 5) (.v 6)), (.int .i64 (.v 8)), (.map (.v 9)), (.int .i64 (.v 11))] 130)), ((.a 4), (.prop 7)), ((.b (.v 9)), (.prop 10))] 12 = t_bPhase := by kernel_rfl
-- (*tideline/ballot.Proposer).Ballot: ρ := [.n p, .i p_acceptors, .i p_ballot_Round, .i p_ballot_Who, .a p_valuea, .n p_valuel, .n p_valuec, .p p_valueP, .i p_phase, .n p_answers, .p p_answersP, .i p_agreed]
def t_bBallot : T :=
(.new
(.ret (.w (.agg [(.int .i64 (.v 2)), (.int .i64 (.v 3))])) [((.b (.v 0)), (.cells [(.int .i64 (.v 1)), (.int .i64 (.v 2)), (.int .i64 (.v 3)), (.sl (.v 4) (.v 5) (.v 6)), (.int .i64 (.v 8)), (.map (.v 9)), (.int .i64 (.v 11))] 130)), ((.a 4), (.prop 7)), ((.b (.v 9)), (.prop 10))]))
theorem tree_bBallot : tree Try.prog { absT := [], opq := [], hv := [], keep := [25, 27, 30, 116, 79, 72, 117, 135, 136, 139], link := [], ent := [], turn := [], shr := [], vt := [], mkd := [], rlink := [], pty := [], outl := false, stay := [], snk := [] } Try.f27 [(.a (.ptr (.v 0) 0))] [((.b (.v 0)), (.cells [(.int .i64 (.v 1)), (.int .i64 (.v 2)), (.int .i64 (.v 3)), (.sl (.v 4) (.v 5) (.v 6)), (.int .i64 (.v 8)), (.map (.v 9)), (.int .i64 (.v 11))] 130)), ((.a 4), (.prop 7)), ((.b (.v 9)), (.prop 10))] 12 = t_bBallot := by kernel_rfl
-- (*tideline/ballot.Proposer).Value: ρ := [.n p, .i p_acceptors, .i p_ballot_Round, .i p_ballot_Who, .a p_valuea, .n p_valuel, .n p_valuec, .p p_valueP, .i p_phase, .n p_answers, .p p_answersP, .i p_agreed]
def t_bValue : T :=
(.call 72 [(.a (.sl (.v 4) (.v 5) (.v 6)))] [((.a 4), (.prop 7))] [.a, .n, .n, .p] (.w (.a (.sl (.v 12) (.v 13) (.v 14)))) [((.a 12), (.prop 15)), ((.a 4), (.prop 7))]
(.ret (.w (.a (.sl (.v 12) (.v 13) (.v 14)))) [((.b (.v 0)), (.cells [(.int .i64 (.v 1)), (.int .i64 (.v 2)), (.int .i64 (.v 3)), (.sl (.v 4) (.v 5) (.v 6)), (.int .i64 (.v 8)), (.map (.v 9)), (.int .i64 (.v 11))] 130)), ((.a 4), (.prop 7)), ((.b (.v 9)), (.prop 10)), ((.a 12), (.prop 15))]))
theorem tree_bValue : tree Try.prog { absT := [], opq := [], hv := [], keep := [25, 27, 30, 116, 79, 72, 117, 135, 136, 139], link := [], ent := [], turn := [], shr := [], vt := [], mkd := [], rlink := [], pty := [], outl := false, stay := [], snk := [] } Try.f30 [(.a (.ptr (.v 0) 0))] [((.b (.v 0)), (.cells [(.int .i64 (.v 1)), (.int .i64 (.v 2)), (.int .i64 (.v 3)), (.sl (.v 4) (.v 5) (.v 6)), (.int .i64 (.v 8)), (.map (.v 9)), (.int .i64 (.v 11))] 130)), ((.a 4), (.prop 7)), ((.b (.v 9)), (.prop 10))] 12 = t_bValue := by kernel_rfl
-- (*tideline/ballot.Proposer).most: ρ := [.n p, .i p_acceptors, .i p_ballot_Round, .i p_ballot_Who, .a p_valuea, .n p_valuel, .n p_valuec, .p p_valueP, .i p_phase, .n p_answers, .p p_answersP, .i p_agreed, .i n]
def t_bMost : T :=
(.need (.o1 (.inr .i64) (.o2 .quo (.v 1) (.i 2)))
(.ret (.w (.a (.bool (.o2 .lt (.o2 .quo (.v 1) (.i 2)) (.v 12))))) [((.b (.v 0)), (.cells [(.int .i64 (.v 1)), (.int .i64 (.v 2)), (.int .i64 (.v 3)), (.sl (.v 4) (.v 5) (.v 6)), (.int .i64 (.v 8)), (.map (.v 9)), (.int .i64 (.v 11))] 130)), ((.a 4), (.prop 7)), ((.b (.v 9)), (.prop 10))]))
theorem tree_bMost : tree Try.prog { absT := [], opq := [], hv := [], keep := [25, 27, 30, 116, 79, 72, 117, 135, 136, 139], link := [], ent := [], turn := [], shr := [], vt := [], mkd := [], rlink := [], pty := [], outl := false, stay := [], snk := [] } Try.f116 [(.a (.ptr (.v 0) 0)), (.a (.int .i64 (.v 12)))] [((.b (.v 0)), (.cells [(.int .i64 (.v 1)), (.int .i64 (.v 2)), (.int .i64 (.v 3)), (.sl (.v 4) (.v 5) (.v 6)), (.int .i64 (.v 8)), (.map (.v 9)), (.int .i64 (.v 11))] 130)), ((.a 4), (.prop 7)), ((.b (.v 9)), (.prop 10))] 13 = t_bMost := by kernel_rfl
-- (*tideline/ballot.Proposer).Asked: ρ := [.n p, .i p_acceptors, .i p_ballot_Round, .i p_ballot_Who, .a p_valuea, .n p_valuel, .n p_valuec, .p p_valueP, .i p_phase, .n p_answers, .p p_answersP, .i p_agreed, .i from]
def t_bAsked : T :=
(.br (.o1 .not (.o2 .eq (.v 8) (.i 1)))
 (.br (.o1 .not (.o2 .eq (.v 8) (.i 2)))
  (.ret (.w (.a (.bool (.c false)))) [((.b (.v 0)), (.cells [(.int .i64 (.v 1)), (.int .i64 (.v 2)), (.int .i64 (.v 3)), (.sl (.v 4) (.v 5) (.v 6)), (.int .i64 (.v 8)), (.map (.v 9)), (.int .i64 (.v 11))] 130)), ((.a 4), (.prop 7)), ((.b (.v 9)), (.prop 10))])
  (.br (.o2 .lt (.v 12) (.i 0))
   (.ret (.w (.a (.bool (.c false)))) [((.b (.v 0)), (.cells [(.int .i64 (.v 1)), (.int .i64 (.v 2)), (.int .i64 (.v 3)), (.sl (.v 4) (.v 5) (.v 6)), (.int .i64 (.v 8)), (.map (.v 9)), (.int .i64 (.v 11))] 130)), ((.a 4), (.prop 7)), ((.b (.v 9)), (.prop 10))])
   (.br (.o2 .le (.v 1) (.v 12))
    (.ret (.w (.a (.bool (.c false)))) [((.b (.v 0)), (.cells [(.int .i64 (.v 1)), (.int .i64 (.v 2)), (.int .i64 (.v 3)), (.sl (.v 4) (.v 5) (.v 6)), (.int .i64 (.v 8)), (.map (.v 9)), (.int .i64 (.v 11))] 130)), ((.a 4), (.prop 7)), ((.b (.v 9)), (.prop 10))])
    (.read (.lookup 128 (.tmp 33) (.tmp 34) true) 179 [(33, (.w (.a (.map (.v 9))))), (34, (.w (.a (.int .i64 (.v 12)))))] [((.b (.v 9)), (.prop 10))] [.i, .c, .i, .i, .a, .n, .n, .c] (.tup [(.agg [(.int .i64 (.v 13)), (.bool (.v 14)), (.int .i64 (.v 15)), (.int .i64 (.v 16)), (.sl (.v 17) (.v 18) (.v 19))]), (.a (.bool (.v 20)))])
    (.new
    (.ret (.w (.a (.bool (.o1 .not (.v 20))))) [((.b (.v 0)), (.cells [(.int .i64 (.v 1)), (.int .i64 (.v 2)), (.int .i64 (.v 3)), (.sl (.v 4) (.v 5) (.v 6)), (.int .i64 (.v 8)), (.map (.v 9)), (.int .i64 (.v 11))] 130)), ((.a 4), (.prop 7)), ((.b (.v 9)), (.prop 10))]))))))
 (.br (.o2 .lt (.v 12) (.i 0))
  (.ret (.w (.a (.bool (.c false)))) [((.b (.v 0)), (.cells [(.int .i64 (.v 1)), (.int .i64 (.v 2)), (.int .i64 (.v 3)), (.sl (.v 4) (.v 5) (.v 6)), (.int .i64 (.v 8)), (.map (.v 9)), (.int .i64 (.v 11))] 130)), ((.a 4), (.prop 7)), ((.b (.v 9)), (.prop 10))])
  (.br (.o2 .le (.v 1) (.v 12))
   (.ret (.w (.a (.bool (.c false)))) [((.b (.v 0)), (.cells [(.int .i64 (.v 1)), (.int .i64 (.v 2)), (.int .i64 (.v 3)), (.sl (.v 4) (.v 5) (.v 6)), (.int .i64 (.v 8)), (.map (.v 9)), (.int .i64 (.v 11))] 130)), ((.a 4), (.prop 7)), ((.b (.v 9)), (.prop 10))])
   (.read (.lookup 128 (.tmp 33) (.tmp 34) true) 179 [(33, (.w (.a (.map (.v 9))))), (34, (.w (.a (.int .i64 (.v 12)))))] [((.b (.v 9)), (.prop 10))] [.i, .c, .i, .i, .a, .n, .n, .c] (.tup [(.agg [(.int .i64 (.v 13)), (.bool (.v 14)), (.int .i64 (.v 15)), (.int .i64 (.v 16)), (.sl (.v 17) (.v 18) (.v 19))]), (.a (.bool (.v 20)))])
   (.new
   (.ret (.w (.a (.bool (.o1 .not (.v 20))))) [((.b (.v 0)), (.cells [(.int .i64 (.v 1)), (.int .i64 (.v 2)), (.int .i64 (.v 3)), (.sl (.v 4) (.v 5) (.v 6)), (.int .i64 (.v 8)), (.map (.v 9)), (.int .i64 (.v 11))] 130)), ((.a 4), (.prop 7)), ((.b (.v 9)), (.prop 10))]))))))
theorem tree_bAsked : tree Try.prog { absT := [], opq := [], hv := [], keep := [25, 27, 30, 116, 79, 72, 117, 135, 136, 139], link := [], ent := [], turn := [], shr := [], vt := [], mkd := [], rlink := [], pty := [], outl := false, stay := [], snk := [] } Try.f79 [(.a (.ptr (.v 0) 0)), (.a (.int .i64 (.v 12)))] [((.b (.v 0)), (.cells [(.int .i64 (.v 1)), (.int .i64 (.v 2)), (.int .i64 (.v 3)), (.sl (.v 4) (.v 5) (.v 6)), (.int .i64 (.v 8)), (.map (.v 9)), (.int .i64 (.v 11))] 130)), ((.a 4), (.prop 7)), ((.b (.v 9)), (.prop 10))] 13 = t_bAsked := by kernel_rfl
-- (*tideline/ballot.Proposer).take: ρ := [.n p, .i p_acceptors, .i p_ballot_Round, .i p_ballot_Who, .a p_valuea, .n p_valuel, .n p_valuec, .p p_valueP, .i p_phase, .n p_answers, .p p_answersP, .i p_agreed, .i from, .i a_turn, .c a_ok, .i a_accepted_Round, .i a_accepted_Who, .a a_valuea, .n a_valuel, .n a_valuec, .p a_valueP]
def t_bTake : T :=
(.new
(.read (.call ⟨.builtin .len, #[(.tmp 11)], #[128]⟩) 3 [(11, (.w (.a (.map (.v 9)))))] [((.b (.v 9)), (.prop 10))] [.i] (.w (.a (.int .i64 (.v 22))))
(.op (.mapUpdate 128 (.tmp 17) (.tmp 18) (.tmp 19)) 0 [(17, (.w (.a (.map (.v 9))))), (18, (.w (.a (.int .i64 (.v 12))))), (19, (.w (.agg [(.int .i64 (.v 22)), (.bool (.v 14)), (.int .i64 (.v 15)), (.int .i64 (.v 16)), (.sl (.v 17) (.v 18) (.v 19))])))] [((.b (.v 9)), (.prop 10)), ((.a 17), (.prop 20))] [.p] (.tup []) [((.b (.v 9)), (.prop 23)), ((.a 17), (.prop 20))]
(.br (.v 14)
 (.need (.o1 (.inr .i64) (.o2 .add (.v 11) (.i 1)))
 (.call 116 [(.a (.ptr (.v 0) 0)), (.a (.int .i64 (.o2 .add (.v 11) (.i 1))))] [((.b (.v 0)), (.cells [(.int .i64 (.v 1)), (.int .i64 (.v 2)), (.int .i64 (.v 3)), (.sl (.v 4) (.v 5) (.v 6)), (.int .i64 (.v 8)), (.map (.v 9)), (.int .i64 (.o2 .add (.v 11) (.i 1)))] 130)), ((.a 4), (.prop 7)), ((.b (.v 9)), (.prop 23))] [.c] (.w (.a (.bool (.v 24)))) [((.b (.v 0)), (.cells [(.int .i64 (.v 1)), (.int .i64 (.v 2)), (.int .i64 (.v 3)), (.sl (.v 4) (.v 5) (.v 6)), (.int .i64 (.v 8)), (.map (.v 9)), (.int .i64 (.o2 .add (.v 11) (.i 1)))] 130)), ((.a 4), (.prop 7)), ((.b (.v 9)), (.prop 23))]
 (.ret (.w (.a (.bool (.v 24)))) [((.b (.v 0)), (.cells [(.int .i64 (.v 1)), (.int .i64 (.v 2)), (.int .i64 (.v 3)), (.sl (.v 4) (.v 5) (.v 6)), (.int .i64 (.v 8)), (.map (.v 9)), (.int .i64 (.o2 .add (.v 11) (.i 1)))] 130)), ((.a 4), (.prop 7)), ((.b (.v 9)), (.prop 23)), ((.a 17), (.prop 20))])))
 (.read (.call ⟨.builtin .len, #[(.tmp 38)], #[128]⟩) 3 [(38, (.w (.a (.map (.v 9)))))] [((.b (.v 9)), (.prop 23))] [.i] (.w (.a (.int .i64 (.v 24))))
 (.need (.o1 (.inr .i64) (.o2 .sub (.v 24) (.v 11)))
 (.need (.o1 (.inr .i64) (.o2 .sub (.v 1) (.o2 .sub (.v 24) (.v 11))))
 (.call 116 [(.a (.ptr (.v 0) 0)), (.a (.int .i64 (.o2 .sub (.v 1) (.o2 .sub (.v 24) (.v 11)))))] [((.b (.v 0)), (.cells [(.int .i64 (.v 1)), (.int .i64 (.v 2)), (.int .i64 (.v 3)), (.sl (.v 4) (.v 5) (.v 6)), (.int .i64 (.v 8)), (.map (.v 9)), (.int .i64 (.v 11))] 130)), ((.a 4), (.prop 7)), ((.b (.v 9)), (.prop 23))] [.c] (.w (.a (.bool (.v 25)))) [((.b (.v 0)), (.cells [(.int .i64 (.v 1)), (.int .i64 (.v 2)), (.int .i64 (.v 3)), (.sl (.v 4) (.v 5) (.v 6)), (.int .i64 (.v 8)), (.map (.v 9)), (.int .i64 (.v 11))] 130)), ((.a 4), (.prop 7)), ((.b (.v 9)), (.prop 23))]
 (.br (.o1 .not (.v 25))
  (.ret (.w (.a (.bool (.c false)))) [((.b (.v 0)), (.cells [(.int .i64 (.v 1)), (.int .i64 (.v 2)), (.int .i64 (.v 3)), (.sl (.v 4) (.v 5) (.v 6)), (.int .i64 (.i 4)), (.map (.v 9)), (.int .i64 (.v 11))] 130)), ((.a 4), (.prop 7)), ((.b (.v 9)), (.prop 23)), ((.a 17), (.prop 20))])
  (.ret (.w (.a (.bool (.c false)))) [((.b (.v 0)), (.cells [(.int .i64 (.v 1)), (.int .i64 (.v 2)), (.int .i64 (.v 3)), (.sl (.v 4) (.v 5) (.v 6)), (.int .i64 (.v 8)), (.map (.v 9)), (.int .i64 (.v 11))] 130)), ((.a 4), (.prop 7)), ((.b (.v 9)), (.prop 23)), ((.a 17), (.prop 20))]))))))))))
theorem tree_bTake : tree Try.prog { absT := [], opq := [], hv := [], keep := [25, 27, 30, 116, 79, 72, 117, 135, 136, 139], link := [], ent := [], turn := [], shr := [], vt := [], mkd := [], rlink := [], pty := [], outl := false, stay := [], snk := [] } Try.f80 [(.a (.ptr (.v 0) 0)), (.a (.int .i64 (.v 12))), (.agg [(.int .i64 (.v 13)), (.bool (.v 14)), (.int .i64 (.v 15)), (.int .i64 (.v 16)), (.sl (.v 17) (.v 18) (.v 19))])] [((.b (.v 0)), (.cells [(.int .i64 (.v 1)), (.int .i64 (.v 2)), (.int .i64 (.v 3)), (.sl (.v 4) (.v 5) (.v 6)), (.int .i64 (.v 8)), (.map (.v 9)), (.int .i64 (.v 11))] 130)), ((.a 4), (.prop 7)), ((.b (.v 9)), (.prop 10)), ((.a 17), (.prop 20))] 21 = t_bTake := by kernel_rfl
-- (*tideline/ballot.Proposer).Accepted: ρ := [.n p, .i p_acceptors, .i p_ballot_Round, .i p_ballot_Who, .a p_valuea, .n p_valuel, .n p_valuec, .p p_valueP, .i p_phase, .n p_answers, .p p_answersP, .i p_agreed, .i from, .i e]
def t_bAccepted : T :=
(.br (.o1 .not (.o2 .eq (.v 8) (.i 2)))
 (.ret (.tup []) [((.b (.v 0)), (.cells [(.int .i64 (.v 1)), (.int .i64 (.v 2)), (.int .i64 (.v 3)), (.sl (.v 4) (.v 5) (.v 6)), (.int .i64 (.v 8)), (.map (.v 9)), (.int .i64 (.v 11))] 130)), ((.a 4), (.prop 7)), ((.b (.v 9)), (.prop 10))])
 (.call 79 [(.a (.ptr (.v 0) 0)), (.a (.int .i64 (.v 12)))] [((.b (.v 0)), (.cells [(.int .i64 (.v 1)), (.int .i64 (.v 2)), (.int .i64 (.v 3)), (.sl (.v 4) (.v 5) (.v 6)), (.int .i64 (.v 8)), (.map (.v 9)), (.int .i64 (.v 11))] 130)), ((.a 4), (.prop 7)), ((.b (.v 9)), (.prop 10))] [.c] (.w (.a (.bool (.v 14)))) [((.b (.v 0)), (.cells [(.int .i64 (.v 1)), (.int .i64 (.v 2)), (.int .i64 (.v 3)), (.sl (.v 4) (.v 5) (.v 6)), (.int .i64 (.v 8)), (.map (.v 9)), (.int .i64 (.v 11))] 130)), ((.a 4), (.prop 7)), ((.b (.v 9)), (.prop 10))]
 (.br (.o1 .not (.v 14))
  (.ret (.tup []) [((.b (.v 0)), (.cells [(.int .i64 (.v 1)), (.int .i64 (.v 2)), (.int .i64 (.v 3)), (.sl (.v 4) (.v 5) (.v 6)), (.int .i64 (.v 8)), (.map (.v 9)), (.int .i64 (.v 11))] 130)), ((.a 4), (.prop 7)), ((.b (.v 9)), (.prop 10))])
  (.call 80 [(.a (.ptr (.v 0) 0)), (.a (.int .i64 (.v 12))), (.agg [(.int .i64 (.i 0)), (.bool (.o2 .eq (.v 13) (.i 0))), (.int .i64 (.i 0)), (.int .i64 (.i 0)), (.sl .nil (.n 0) (.n 0))])] [((.b (.v 0)), (.cells [(.int .i64 (.v 1)), (.int .i64 (.v 2)), (.int .i64 (.v 3)), (.sl (.v 4) (.v 5) (.v 6)), (.int .i64 (.v 8)), (.map (.v 9)), (.int .i64 (.v 11))] 130)), ((.a 4), (.prop 7)), ((.b (.v 9)), (.prop 10))] [.c, .i, .i, .i, .a, .n, .n, .p, .i, .n, .p, .i] (.w (.a (.bool (.v 15)))) [((.b (.v 0)), (.cells [(.int .i64 (.v 16)), (.int .i64 (.v 17)), (.int .i64 (.v 18)), (.sl (.v 19) (.v 20) (.v 21)), (.int .i64 (.v 23)), (.map (.v 24)), (.int .i64 (.v 26))] 130)), ((.a 19), (.prop 22)), ((.b (.v 24)), (.prop 25))]
  (.br (.v 15)
   (.ret (.tup []) [((.b (.v 0)), (.cells [(.int .i64 (.v 16)), (.int .i64 (.v 17)), (.int .i64 (.v 18)), (.sl (.v 19) (.v 20) (.v 21)), (.int .i64 (.i 3)), (.map (.v 24)), (.int .i64 (.v 26))] 130)), ((.a 19), (.prop 22)), ((.b (.v 24)), (.prop 25))])
   (.ret (.tup []) [((.b (.v 0)), (.cells [(.int .i64 (.v 16)), (.int .i64 (.v 17)), (.int .i64 (.v 18)), (.sl (.v 19) (.v 20) (.v 21)), (.int .i64 (.v 23)), (.map (.v 24)), (.int .i64 (.v 26))] 130)), ((.a 19), (.prop 22)), ((.b (.v 24)), (.prop 25))]))))))
theorem tree_bAccepted : tree Try.prog { absT := [], opq := [], hv := [], keep := [25, 27, 30, 116, 79, 72, 117, 135, 136, 139], link := [], ent := [], turn := [], shr := [], vt := [], mkd := [], rlink := [], pty := [], outl := false, stay := [], snk := [] } Try.f31 [(.a (.ptr (.v 0) 0)), (.a (.int .i64 (.v 12))), (.a (.int .i64 (.v 13)))] [((.b (.v 0)), (.cells [(.int .i64 (.v 1)), (.int .i64 (.v 2)), (.int .i64 (.v 3)), (.sl (.v 4) (.v 5) (.v 6)), (.int .i64 (.v 8)), (.map (.v 9)), (.int .i64 (.v 11))] 130)), ((.a 4), (.prop 7)), ((.b (.v 9)), (.prop 10))] 14 = t_bAccepted := by kernel_rfl
-- (*tideline/ballot.Proposer).Promised: ρ := [.n p, .i p_acceptors, .i p_ballot_Round, .i p_ballot_Who, .a p_valuea, .n p_valuel, .n p_valuec, .p p_valueP, .i p_phase, .n p_answers, .p p_answersP, .i p_agreed, .i from, .i accepted_Round, .i accepted_Who, .a valuea, .n valuel, .n valuec, .p valueP, .i e]
def t_bPromised : T :=
(.new
(.br (.o1 .not (.o2 .eq (.v 8) (.i 1)))
 (.ret (.tup []) [((.b (.v 0)), (.cells [(.int .i64 (.v 1)), (.int .i64 (.v 2)), (.int .i64 (.v 3)), (.sl (.v 4) (.v 5) (.v 6)), (.int .i64 (.v 8)), (.map (.v 9)), (.int .i64 (.v 11))] 130)), ((.a 4), (.prop 7)), ((.b (.v 9)), (.prop 10)), ((.a 15), (.prop 18))])
 (.call 79 [(.a (.ptr (.v 0) 0)), (.a (.int .i64 (.v 12)))] [((.b (.v 0)), (.cells [(.int .i64 (.v 1)), (.int .i64 (.v 2)), (.int .i64 (.v 3)), (.sl (.v 4) (.v 5) (.v 6)), (.int .i64 (.v 8)), (.map (.v 9)), (.int .i64 (.v 11))] 130)), ((.a 4), (.prop 7)), ((.b (.v 9)), (.prop 10))] [.c] (.w (.a (.bool (.v 21)))) [((.b (.v 0)), (.cells [(.int .i64 (.v 1)), (.int .i64 (.v 2)), (.int .i64 (.v 3)), (.sl (.v 4) (.v 5) (.v 6)), (.int .i64 (.v 8)), (.map (.v 9)), (.int .i64 (.v 11))] 130)), ((.a 4), (.prop 7)), ((.b (.v 9)), (.prop 10))]
 (.br (.o1 .not (.v 21))
  (.ret (.tup []) [((.b (.v 0)), (.cells [(.int .i64 (.v 1)), (.int .i64 (.v 2)), (.int .i64 (.v 3)), (.sl (.v 4) (.v 5) (.v 6)), (.int .i64 (.v 8)), (.map (.v 9)), (.int .i64 (.v 11))] 130)), ((.a 4), (.prop 7)), ((.b (.v 9)), (.prop 10)), ((.a 15), (.prop 18))])
  (.new
  (.br (.o2 .eq (.v 19) (.i 0))
   (.call 72 [(.a (.sl (.v 15) (.v 16) (.v 17)))] [((.a 15), (.prop 18))] [.a, .n, .n, .p] (.w (.a (.sl (.v 23) (.v 24) (.v 25)))) [((.a 23), (.prop 26)), ((.a 15), (.prop 18))]
   (.call 80 [(.a (.ptr (.v 0) 0)), (.a (.int .i64 (.v 12))), (.agg [(.int .i64 (.i 0)), (.bool (.o2 .eq (.v 19) (.i 0))), (.int .i64 (.v 13)), (.int .i64 (.v 14)), (.sl (.v 23) (.v 24) (.v 25))])] [((.b (.v 0)), (.cells [(.int .i64 (.v 1)), (.int .i64 (.v 2)), (.int .i64 (.v 3)), (.sl (.v 4) (.v 5) (.v 6)), (.int .i64 (.v 8)), (.map (.v 9)), (.int .i64 (.v 11))] 130)), ((.a 4), (.prop 7)), ((.b (.v 9)), (.prop 10)), ((.a 23), (.prop 26))] [.c, .i, .i, .i, .a, .n, .n, .p, .i, .n, .p, .i, .p] (.w (.a (.bool (.v 27)))) [((.b (.v 0)), (.cells [(.int .i64 (.v 28)), (.int .i64 (.v 29)), (.int .i64 (.v 30)), (.sl (.v 31) (.v 32) (.v 33)), (.int .i64 (.v 35)), (.map (.v 36)), (.int .i64 (.v 38))] 130)), ((.a 31), (.prop 34)), ((.b (.v 36)), (.prop 37)), ((.a 23), (.prop 39))]
   (.br (.v 27)
    (.call 81 [(.a (.ptr (.v 0) 0))] [((.b (.v 0)), (.cells [(.int .i64 (.v 28)), (.int .i64 (.v 29)), (.int .i64 (.v 30)), (.sl (.v 31) (.v 32) (.v 33)), (.int .i64 (.v 35)), (.map (.v 36)), (.int .i64 (.v 38))] 130)), ((.a 31), (.prop 34)), ((.b (.v 36)), (.prop 37))] [.i, .i, .i, .a, .n, .n, .p, .i, .n, .p, .i] (.tup []) [((.b (.v 0)), (.cells [(.int .i64 (.v 40)), (.int .i64 (.v 41)), (.int .i64 (.v 42)), (.sl (.v 43) (.v 44) (.v 45)), (.int .i64 (.v 47)), (.map (.v 48)), (.int .i64 (.v 50))] 130)), ((.a 43), (.prop 46)), ((.b (.v 48)), (.prop 49))]
    (.new
    (.ret (.tup []) [((.b (.v 0)), (.cells [(.int .i64 (.v 40)), (.int .i64 (.v 41)), (.int .i64 (.v 42)), (.sl (.v 43) (.v 44) (.v 45)), (.int .i64 (.i 2)), (.map (.v 51)), (.int .i64 (.i 0))] 130)), ((.a 43), (.prop 46)), ((.b (.v 51)), .emap), ((.a 15), (.prop 18))])))
    (.ret (.tup []) [((.b (.v 0)), (.cells [(.int .i64 (.v 28)), (.int .i64 (.v 29)), (.int .i64 (.v 30)), (.sl (.v 31) (.v 32) (.v 33)), (.int .i64 (.v 35)), (.map (.v 36)), (.int .i64 (.v 38))] 130)), ((.a 31), (.prop 34)), ((.b (.v 36)), (.prop 37)), ((.a 15), (.prop 18))]))))
   (.call 80 [(.a (.ptr (.v 0) 0)), (.a (.int .i64 (.v 12))), (.agg [(.int .i64 (.i 0)), (.bool (.o2 .eq (.v 19) (.i 0))), (.int .i64 (.i 0)), (.int .i64 (.i 0)), (.sl .nil (.n 0) (.n 0))])] [((.b (.v 0)), (.cells [(.int .i64 (.v 1)), (.int .i64 (.v 2)), (.int .i64 (.v 3)), (.sl (.v 4) (.v 5) (.v 6)), (.int .i64 (.v 8)), (.map (.v 9)), (.int .i64 (.v 11))] 130)), ((.a 4), (.prop 7)), ((.b (.v 9)), (.prop 10))] [.c, .i, .i, .i, .a, .n, .n, .p, .i, .n, .p, .i] (.w (.a (.bool (.v 23)))) [((.b (.v 0)), (.cells [(.int .i64 (.v 24)), (.int .i64 (.v 25)), (.int .i64 (.v 26)), (.sl (.v 27) (.v 28) (.v 29)), (.int .i64 (.v 31)), (.map (.v 32)), (.int .i64 (.v 34))] 130)), ((.a 27), (.prop 30)), ((.b (.v 32)), (.prop 33))]
   (.br (.v 23)
    (.call 81 [(.a (.ptr (.v 0) 0))] [((.b (.v 0)), (.cells [(.int .i64 (.v 24)), (.int .i64 (.v 25)), (.int .i64 (.v 26)), (.sl (.v 27) (.v 28) (.v 29)), (.int .i64 (.v 31)), (.map (.v 32)), (.int .i64 (.v 34))] 130)), ((.a 27), (.prop 30)), ((.b (.v 32)), (.prop 33))] [.i, .i, .i, .a, .n, .n, .p, .i, .n, .p, .i] (.tup []) [((.b (.v 0)), (.cells [(.int .i64 (.v 35)), (.int .i64 (.v 36)), (.int .i64 (.v 37)), (.sl (.v 38) (.v 39) (.v 40)), (.int .i64 (.v 42)), (.map (.v 43)), (.int .i64 (.v 45))] 130)), ((.a 38), (.prop 41)), ((.b (.v 43)), (.prop 44))]
    (.new
    (.ret (.tup []) [((.b (.v 0)), (.cells [(.int .i64 (.v 35)), (.int .i64 (.v 36)), (.int .i64 (.v 37)), (.sl (.v 38) (.v 39) (.v 40)), (.int .i64 (.i 2)), (.map (.v 46)), (.int .i64 (.i 0))] 130)), ((.a 38), (.prop 41)), ((.b (.v 46)), .emap), ((.a 15), (.prop 18))])))
    (.ret (.tup []) [((.b (.v 0)), (.cells [(.int .i64 (.v 24)), (.int .i64 (.v 25)), (.int .i64 (.v 26)), (.sl (.v 27) (.v 28) (.v 29)), (.int .i64 (.v 31)), (.map (.v 32)), (.int .i64 (.v 34))] 130)), ((.a 27), (.prop 30)), ((.b (.v 32)), (.prop 33)), ((.a 15), (.prop 18))])))))))))
theorem tree_bPromised : tree Try.prog { absT := [], opq := [], hv := [], keep := [25, 27, 30, 116, 79, 72, 117, 135, 136, 139], link := [], ent := [], turn := [], shr := [], vt := [], mkd := [], rlink := [], pty := [], outl := false, stay := [], snk := [] } Try.f28 [(.a (.ptr (.v 0) 0)), (.a (.int .i64 (.v 12))), (.agg [(.int .i64 (.v 13)), (.int .i64 (.v 14))]), (.a (.sl (.v 15) (.v 16) (.v 17))), (.a (.int .i64 (.v 19)))] [((.b (.v 0)), (.cells [(.int .i64 (.v 1)), (.int .i64 (.v 2)), (.int .i64 (.v 3)), (.sl (.v 4) (.v 5) (.v 6)), (.int .i64 (.v 8)), (.map (.v 9)), (.int .i64 (.v 11))] 130)), ((.a 4), (.prop 7)), ((.b (.v 9)), (.prop 10)), ((.a 15), (.prop 18))] 20 = t_bPromised := by kernel_rfl
-- (*tideline/ballot.Proposer).choose: ρ := [.n p, .i p_acceptors, .i p_ballot_Round, .i p_ballot_Who, .a p_valuea, .n p_valuel, .n p_valuec, .p p_valueP, .i p_phase, .n p_answers, .p p_answersP, .i p_agreed]
def t_bChoose : T :=
(.new
(.op (.range 128 (.tmp 8)) 0 [(8, (.w (.a (.map (.v 9)))))] [((.b (.v 9)), (.prop 10))] [.n, .p, .p] (.w (.a (.ptr (.v 13) 0))) [((.b (.v 13)), (.prop 14)), ((.b (.v 9)), (.prop 15))]
(.loop [.p, .p, .i, .c, .i, .i, .a, .n, .n, .p] [(.p [((.b (.v 13)), (.prop 14))]), (.p [((.b (.v 9)), (.prop 15))]), (.e (.o1 .neg (.o1 .neg (.i 0)))), (.e (.o1 .not (.o1 .not (.c false)))), (.e (.o1 .neg (.o1 .neg (.i 0)))), (.e (.o1 .neg (.o1 .neg (.i 0)))), (.a .nil), (.e (.o2 .nadd (.n 0) (.n 0))), (.e (.o2 .nadd (.n 0) (.n 0))), (.p [])]
 (.op (.next (.tmp 9) false) 0 [(9, (.w (.a (.ptr (.v 13) 0))))] [((.b (.v 13)), (.prop 16)), ((.b (.v 9)), (.prop 17))] [.c, .v, .v, .p] (.nx 26 27 28) [((.b (.v 13)), (.prop 29)), ((.b (.v 9)), (.prop 17))]
 (.br (.v 26)
  (.op (.entry (.tmp 9)) 0 [(9, (.w (.a (.ptr (.v 13) 0))))] [((.b (.v 13)), (.prop 29)), ((.b (.v 9)), (.prop 17))] [.i, .i, .c, .i, .i, .a, .n, .n, .p, .p, .p] (.tup [(.a (.int .i64 (.v 30))), (.agg [(.int .i64 (.v 31)), (.bool (.v 32)), (.int .i64 (.v 33)), (.int .i64 (.v 34)), (.sl (.v 35) (.v 36) (.v 37))])]) [((.a 35), (.prop 38)), ((.b (.v 13)), (.prop 39)), ((.b (.v 9)), (.prop 40))]
  (.new
  (.br (.o1 .not (.v 32))
   (.again 0 [(.p [((.b (.v 13)), (.prop 39))]), (.p [((.b (.v 9)), (.prop 40))]), (.e (.o1 .neg (.o1 .neg (.v 18)))), (.e (.o1 .not (.o1 .not (.v 19)))), (.e (.o1 .neg (.o1 .neg (.v 20)))), (.e (.o1 .neg (.o1 .neg (.v 21)))), (.a (.v 22)), (.e (.o2 .nadd (.v 23) (.n 0))), (.e (.o2 .nadd (.v 24) (.n 0))), (.p [((.a 22), (.prop 25))])])
   (.read (.binOp .eql 34 (.tmp 19) (.tmp 20) 34) 4 [(19, (.w (.agg [(.int .i64 (.v 33)), (.int .i64 (.v 34))]))), (20, (.w (.agg [(.int .i64 (.i 0)), (.int .i64 (.i 0))])))] [] [.c] (.w (.a (.bool (.v 42))))
   (.br (.v 42)
    (.again 0 [(.p [((.b (.v 13)), (.prop 39))]), (.p [((.b (.v 9)), (.prop 40))]), (.e (.o1 .neg (.o1 .neg (.v 18)))), (.e (.o1 .not (.o1 .not (.v 19)))), (.e (.o1 .neg (.o1 .neg (.v 20)))), (.e (.o1 .neg (.o1 .neg (.v 21)))), (.a (.v 22)), (.e (.o2 .nadd (.v 23) (.n 0))), (.e (.o2 .nadd (.v 24) (.n 0))), (.p [((.a 22), (.prop 25))])])
    (.read (.binOp .eql 34 (.tmp 24) (.tmp 25) 34) 4 [(24, (.w (.agg [(.int .i64 (.v 20)), (.int .i64 (.v 21))]))), (25, (.w (.agg [(.int .i64 (.i 0)), (.int .i64 (.i 0))])))] [] [.c] (.w (.a (.bool (.v 43))))
    (.br (.v 43)
     (.again 0 [(.p [((.b (.v 13)), (.prop 39))]), (.p [((.b (.v 9)), (.prop 40))]), (.e (.o1 .neg (.o1 .neg (.v 31)))), (.e (.o1 .not (.o1 .not (.v 32)))), (.e (.o1 .neg (.o1 .neg (.v 33)))), (.e (.o1 .neg (.o1 .neg (.v 34)))), (.a (.v 35)), (.e (.o2 .nadd (.v 36) (.n 0))), (.e (.o2 .nadd (.v 37) (.n 0))), (.p [((.a 35), (.prop 38))])])
     (.call 117 [(.agg [(.int .i64 (.v 31)), (.bool (.v 32)), (.int .i64 (.v 33)), (.int .i64 (.v 34)), (.sl (.v 35) (.v 36) (.v 37))]), (.agg [(.int .i64 (.v 18)), (.bool (.v 19)), (.int .i64 (.v 20)), (.int .i64 (.v 21)), (.sl (.v 22) (.v 23) (.v 24))])] [((.a 35), (.prop 38)), ((.b (.v 9)), (.prop 40)), ((.a 22), (.prop 25))] [.c] (.w (.a (.bool (.v 44)))) [((.a 35), (.prop 38)), ((.b (.v 9)), (.prop 40)), ((.a 22), (.prop 25))]
     (.br (.v 44)
      (.again 0 [(.p [((.b (.v 13)), (.prop 39))]), (.p [((.b (.v 9)), (.prop 40))]), (.e (.o1 .neg (.o1 .neg (.v 31)))), (.e (.o1 .not (.o1 .not (.v 32)))), (.e (.o1 .neg (.o1 .neg (.v 33)))), (.e (.o1 .neg (.o1 .neg (.v 34)))), (.a (.v 35)), (.e (.o2 .nadd (.v 36) (.n 0))), (.e (.o2 .nadd (.v 37) (.n 0))), (.p [((.a 35), (.prop 38))])])
      (.again 0 [(.p [((.b (.v 13)), (.prop 39))]), (.p [((.b (.v 9)), (.prop 40))]), (.e (.o1 .neg (.o1 .neg (.v 18)))), (.e (.o1 .not (.o1 .not (.v 19)))), (.e (.o1 .neg (.o1 .neg (.v 20)))), (.e (.o1 .neg (.o1 .neg (.v 21)))), (.a (.v 22)), (.e (.o2 .nadd (.v 23) (.n 0))), (.e (.o2 .nadd (.v 24) (.n 0))), (.p [((.a 22), (.prop 25))])]))))))))))
  (.read (.binOp .neq 34 (.tmp 34) (.tmp 35) 34) 4 [(34, (.w (.agg [(.int .i64 (.v 20)), (.int .i64 (.v 21))]))), (35, (.w (.agg [(.int .i64 (.i 0)), (.int .i64 (.i 0))])))] [] [.c] (.w (.a (.bool (.v 30))))
  (.br (.v 30)
   (.ret (.tup []) [((.b (.v 0)), (.cells [(.int .i64 (.v 1)), (.int .i64 (.v 2)), (.int .i64 (.v 3)), (.sl (.v 22) (.v 23) (.v 24)), (.int .i64 (.v 8)), (.map (.v 9)), (.int .i64 (.v 11))] 130)), ((.a 22), (.prop 25)), ((.b (.v 9)), (.prop 17)), ((.a 4), (.prop 7))])
   (.ret (.tup []) [((.b (.v 0)), (.cells [(.int .i64 (.v 1)), (.int .i64 (.v 2)), (.int .i64 (.v 3)), (.sl (.v 4) (.v 5) (.v 6)), (.int .i64 (.v 8)), (.map (.v 9)), (.int .i64 (.v 11))] 130)), ((.a 4), (.prop 7)), ((.b (.v 9)), (.prop 17))]))))))))
theorem tree_bChoose : tree Try.prog { absT := [], opq := [], hv := [(0, [(.b (.v 13)), (.b (.v 9)), (.b (.v 12))])], keep := [25, 27, 30, 116, 79, 72, 117, 135, 136, 139], link := [], ent := [(12, [3, 140])], turn := [], shr := [], vt := [], mkd := [12], rlink := [], pty := [], outl := false, stay := [], snk := [] } Try.f81 [(.a (.ptr (.v 0) 0))] [((.b (.v 0)), (.cells [(.int .i64 (.v 1)), (.int .i64 (.v 2)), (.int .i64 (.v 3)), (.sl (.v 4) (.v 5) (.v 6)), (.int .i64 (.v 8)), (.map (.v 9)), (.int .i64 (.v 11))] 130)), ((.a 4), (.prop 7)), ((.b (.v 9)), (.prop 10))] 12 = t_bChoose := by kernel_rfl
end Go.Proofs.Ytmibmjehjagmbaa.RX

/- A proposer: its small functions, as contracts. No condition. -/
namespace Go.Proofs.Ytmibmjehjagmbaa
set_option linter.unusedSimpArgs false
set_option linter.unusedVariables false
open Go.Proofs.Ytmibmjehjagmbaa RX
set_option maxRecDepth 100000

theorem bIsNaN_ok (x : Int) : Tri Try.prog 139 #[.int .i64 x] HP.tt (fun v => HP.pure (v = .bool false)) := by
  refine tri_of_tree (ρ := [.i x]) mixed Try.func139 tree_bIsNaN ?_
  unfold t_bIsNaN
  simp only [T.den, E.prop, E.den, RX.look, F1.app, F2.app, Uni.int_i, Uni.nat_n, Uni.bool_c, Uni.str_s, Uni.adr_a, Uni.val_v, Uni.hp_p, hden, cden, V.den, W.den, A.den, BR.den, SA.den, FV.den, capV, exs, exP, allP, Cur.app, List.map_cons, List.map_nil, List.cons_append, List.nil_append, List.drop_succ_cons, List.drop_zero, List.length_cons, List.length_nil, Nat.zero_add, Nat.reduceAdd, Int.neg_neg, Bool.not_not, List.append_nil, Nat.add_zero, List.getElem?_cons_zero, List.getElem?_cons_succ, Decidable.not_not, semW_eq, semW_load, semW_store, semW_storeC, semW_append, semW_lookup, semW_lookupC, semW_update, semW_updateC, semW_updateK, semW_delete, semW_range, semW_next, semW_entry, semW_nil, ne_eq, Nat.reduceEqDiff, not_false_eq_true]
  exact .of fun R h H => by simp [HP.pure]
def cmpB (x y : Int) : Int := if x < y then -1 else if y < x then 1 else 0
theorem bCompare_ok (x y : Int) : Tri Try.prog 135 #[.int .i64 x, .int .i64 y] HP.tt (fun v => HP.pure (v = .int .i64 (cmpB x y))) := by
  refine tri_of_tree (ρ := [.i x, .i y]) mixed Try.func135 tree_bCompare ?_
  unfold t_bCompare
  simp only [T.den, E.prop, E.den, RX.look, F1.app, F2.app, Uni.int_i, Uni.nat_n, Uni.bool_c, Uni.str_s, Uni.adr_a, Uni.val_v, Uni.hp_p, hden, cden, V.den, W.den, A.den, BR.den, SA.den, FV.den, capV, exs, exP, allP, Cur.app, List.map_cons, List.map_nil, List.cons_append, List.nil_append, List.drop_succ_cons, List.drop_zero, List.length_cons, List.length_nil, Nat.zero_add, Nat.reduceAdd, Int.neg_neg, Bool.not_not, List.append_nil, Nat.add_zero, List.getElem?_cons_zero, List.getElem?_cons_succ, Decidable.not_not, semW_eq, semW_load, semW_store, semW_storeC, semW_append, semW_lookup, semW_lookupC, semW_update, semW_updateC, semW_updateK, semW_delete, semW_range, semW_next, semW_entry, semW_nil, ne_eq, Nat.reduceEqDiff, not_false_eq_true]
  refine (bIsNaN_ok x).weak (fun _ _ _ => trivial) ?_
  rintro v R h rfl
  refine ⟨_, rfl, ?_, trivial⟩
  refine (bIsNaN_ok y).weak (fun _ _ _ => trivial) ?_
  rintro v R h rfl
  refine ⟨_, rfl, ⟨fun e => absurd e (by decide), fun _ => ⟨fun e => absurd e (by decide), fun _ => ⟨fun h1 => .of fun R h H => ?_, fun h1 => ⟨fun h2 => .of fun R h H => ?_, fun h2 => .of fun R h H => ?_⟩⟩⟩⟩, trivial⟩
  · show _ = _; rw [cmpB, if_pos h1]
  · show _ = _; rw [cmpB, if_neg h1, if_pos h2]
  · show _ = _; rw [cmpB, if_neg h1, if_neg h2]
theorem bOr_ok (b : Nat) (x y : Int) : Tri Try.prog 136 #[.slice (some ⟨b, 0, none⟩) 2 2] (HP.one b (.cells #[.int .i64 x, .int .i64 y] 3 (0, 0)))
    (fun v => HP.and (v = .int .i64 (if x = 0 then y else x)) (HP.one b (.cells #[.int .i64 x, .int .i64 y] 3 (0, 0)))) := by
  refine tri_of_tree (ρ := [.a (some ⟨b, 0, none⟩), .n 2, .n 2, .p (HP.one b (.cells #[.int .i64 x, .int .i64 y] 3 (0, 0)))]) mixed Try.func136 tree_bOr ?_
  unfold t_bOr
  simp only [T.den, E.prop, E.den, RX.look, F1.app, F2.app, Uni.int_i, Uni.nat_n, Uni.bool_c, Uni.str_s, Uni.adr_a, Uni.val_v, Uni.hp_p, hden, cden, V.den, W.den, A.den, BR.den, SA.den, FV.den, capV, exs, exP, allP, Cur.app, List.map_cons, List.map_nil, List.cons_append, List.nil_append, List.drop_succ_cons, List.drop_zero, List.length_cons, List.length_nil, Nat.zero_add, Nat.reduceAdd, Int.neg_neg, Bool.not_not, List.append_nil, Nat.add_zero, List.getElem?_cons_zero, List.getElem?_cons_succ, Decidable.not_not, semW_eq, semW_load, semW_store, semW_storeC, semW_append, semW_lookup, semW_lookupC, semW_update, semW_updateC, semW_updateK, semW_delete, semW_range, semW_next, semW_entry, semW_nil, ne_eq, Nat.reduceEqDiff, not_false_eq_true]
  have ld : ∀ (k : Nat) (u : Int), [Value.int .i64 x, .int .i64 y][k]? = some (.int .i64 u) → ORead Try.prog (loadS 3 (.pointer ((some ⟨b, 0, none⟩ : Option Addr).map fun q => (q.add (k * 1)).add 0))) (HP.one b (.cells #[.int .i64 x, .int .i64 y] 3 (0, 0))) (.int .i64 u) := fun k u hk => by
    obtain ⟨d, hd⟩ : ∃ d, Try.prog.underlying 3 = some d := Option.isSome_iff_exists.1 (by kernel_rfl)
    exact load1_ok hd (by kernel_rfl) (by kernel_rfl) (one_rd b #[.int .i64 x, .int .i64 y] 3) (k := k * 1) (off := 0) (by rw [Nat.mul_one, Nat.add_zero]; exact hk)
  refine ⟨fun _ i => i = 0 ∨ (i = 1 ∧ x = 0) ∨ (i = 2 ∧ x = 0 ∧ y = 0), fun _ i => 2 - i.toNat, .inl rfl, ?_⟩
  rintro _ _ (rfl | ⟨rfl, hx⟩ | ⟨rfl, hx, hy⟩)
  · refine ⟨fun _ => ⟨by omega, fun _ => ⟨rfl, fun _ => ⟨_, ld 0 x rfl, fun h0 => .of fun R h H => ⟨by rw [if_neg h0], H⟩, fun h0 => ⟨inI64 _ (by omega) (by omega), fun _ => ⟨.inr (.inl ⟨rfl, by simpa using h0⟩), by show 2 - ((0 : Int) + 1).toNat < 2 - (0 : Int).toNat; decide⟩⟩⟩⟩⟩, fun h => absurd (by decide) h⟩
  · refine ⟨fun _ => ⟨by omega, fun _ => ⟨rfl, fun _ => ⟨_, ld 1 y rfl, fun h0 => .of fun R h H => ⟨by rw [if_pos hx], H⟩, fun h0 => ⟨inI64 _ (by omega) (by omega), fun _ => ⟨.inr (.inr ⟨rfl, hx, by simpa using h0⟩), by show 2 - ((1 : Int) + 1).toNat < 2 - (1 : Int).toNat; decide⟩⟩⟩⟩⟩, fun h => absurd (by decide) h⟩
  · exact ⟨fun h => absurd h (by decide), fun _ => .of fun R h H => ⟨by rw [if_pos hx, hy], H⟩⟩
/-- An answer: of which turn, whether it is OK, the ballot that it tells, and the value. -/
structure AnB where
  turn : Int
  ok : Bool
  r : Int
  w : Int
  val : List UInt8
def aheadW (a b : AnB) : Bool := if a.r = b.r ∧ a.w = b.w then decide (a.turn < b.turn) else decide (b.r < a.r ∨ (a.r = b.r ∧ b.w < a.w))
abbrev AnB.vals (x : AnB) (a : Option Addr) (c : Nat) : Array Value := #[.int .i64 x.turn, .bool x.ok, .int .i64 x.r, .int .i64 x.w, .slice a x.val.length c]
theorem bAhead_ok (P Q : HP) (x y : AnB) (a b : Option Addr) (c d : Nat) : Tri Try.prog 117 #[.agg (x.vals a c), .agg (y.vals b d)] (HP.sep P Q) (fun v => HP.and (v = .bool (aheadW x y)) (HP.sep P Q)) := by
  refine tri_of_tree (ρ := [.i x.turn, .c x.ok, .i x.r, .i x.w, .a a, .n x.val.length, .n c, .p P, .i y.turn, .c y.ok, .i y.r, .i y.w, .a b, .n y.val.length, .n d, .p Q]) mixed Try.func117 tree_bAhead ?_
  unfold t_bAhead
  simp only [T.den, E.prop, E.den, RX.look, F1.app, F2.app, Uni.int_i, Uni.nat_n, Uni.bool_c, Uni.str_s, Uni.adr_a, Uni.val_v, Uni.hp_p, hden, cden, V.den, W.den, A.den, BR.den, SA.den, FV.den, capV, exs, exP, allP, Cur.app, List.map_cons, List.map_nil, List.cons_append, List.nil_append, List.drop_succ_cons, List.drop_zero, List.length_cons, List.length_nil, Nat.zero_add, Nat.reduceAdd, Int.neg_neg, Bool.not_not, List.append_nil, Nat.add_zero, List.getElem?_cons_zero, List.getElem?_cons_succ, Decidable.not_not, semW_eq, semW_load, semW_store, semW_storeC, semW_append, semW_lookup, semW_lookupC, semW_update, semW_updateC, semW_updateK, semW_delete, semW_range, semW_next, semW_entry, semW_nil, ne_eq, Nat.reduceEqDiff, not_false_eq_true]
  intro _ _
  refine ⟨_, eqBW (by decide), fun h => .of fun R h' H => ⟨?_, H⟩, fun h => ?_⟩
  · unfold aheadW
    rw [if_pos (by simpa using h)]
  · have hne : ¬ (x.r = y.r ∧ x.w = y.w) := by simpa using h
    refine (bCompare_ok x.r y.r).weak (fun _ _ _ => trivial) ?_
    rintro v R h rfl
    refine ⟨_, rfl, ?_, trivial⟩
    refine (bCompare_ok x.w y.w).weak (fun _ _ _ => trivial) ?_
    rintro v R h rfl
    refine ⟨_, rfl, fun b' => ?_, trivial⟩
    refine (bOr_ok b' _ _).weak (fun _ _ h => h) ?_
    rintro v R h ⟨rfl, H⟩
    refine ⟨_, rfl, .of fun R h H => ⟨?_, H⟩, H⟩
    unfold aheadW
    rw [if_neg hne]
    congr 1
    rw [decide_eq_decide]
    unfold cmpB
    by_cases h1 : x.r < y.r
    · rw [if_pos h1, if_neg (by decide)]; omega
    · by_cases h2 : y.r < x.r
      · rw [if_neg h1, if_pos h2, if_neg (by decide)]; omega
      · rw [if_neg h1, if_neg h2, if_pos rfl]
        by_cases h3 : x.w < y.w
        · rw [if_pos h3]; omega
        · by_cases h4 : y.w < x.w
          · rw [if_neg h3, if_pos h4]; omega
          · rw [if_neg h3, if_neg h4]; omega
end Go.Proofs.Ytmibmjehjagmbaa

/- A proposer: what it holds, and what reads it. No condition. -/
namespace Go.Proofs.Ytmibmjehjagmbaa
set_option linter.unusedSimpArgs false
set_option linter.unusedVariables false
open Go.Proofs.Ytmibmjehjagmbaa RX
set_option maxRecDepth 100000

structure BA where
  ok : Bool
  r : Int
  w : Int
  val : List UInt8
structure BSt where
  acc : Int
  rnd : Int
  who : Int
  val : List UInt8
  phase : Int
  ans : List (Int × BA)
  agreed : Int
abbrev BA.at_ (x : BA) (i : Int) : AnB := ⟨i, x.ok, x.r, x.w, x.val⟩
/-- What a value in the map stands for. -/
def AnV (v : Value) (x : AnB) : HP := HP.ex fun a => HP.ex fun c => HP.and (v = .agg (x.vals a c) ∧ x.val.length ≤ 140737488355328) (RoB a x.val.length x.val)
theorem AnV.pers : Pers AnV := fun _ _ _ _ _ ⟨a, c, e, H⟩ => ⟨a, c, e, HP.sep_left (RoC.join (B := HP.tt) H trivial)⟩
/-- The answer of somebody, with its turn. -/
def ansF : List (Int × BA) → Int → Int → Option AnB
  | [], _, _ => none
  | x :: L, i, k => if k = x.1 then some (x.2.at_ i) else ansF L (i + 1) k
theorem ansF_none {k : Int} : ∀ {L : List (Int × BA)} {i : Int}, ansF L i k = none ↔ k ∉ L.map (·.1)
  | [], _ => by simp [ansF]
  | x :: L, i => by
    simp only [ansF, List.map_cons, List.mem_cons, not_or]
    by_cases h : k = x.1
    · simp [h]
    · rw [if_neg h, ansF_none]; simp [h]
theorem ansF_app (x : BA) (f : Int) : ∀ (L : List (Int × BA)) (i : Int), f ∉ L.map (·.1) → ∀ k, ansF (L ++ [(f, x)]) i k = if k = f then some (x.at_ (i + L.length)) else ansF L i k
  | [], i, _, k => by simp [ansF]
  | y :: L, i, h, k => by
    simp only [List.map_cons, List.mem_cons, not_or] at h
    simp only [List.cons_append, ansF]
    rw [ansF_app x f L (i + 1) h.2 k]
    by_cases e : k = y.1
    · rw [if_pos e, if_neg (fun e2 => h.1 (e2.symm.trans e)), if_pos e]
    · rw [if_neg e, if_neg e]
      have : i + 1 + (L.length : Int) = i + ((y :: L).length : Nat) := by simp; omega
      rw [this]
/-- A proposer's map of answers. -/
def MapA (mp : Nat) (L : List (Int × BA)) : HP := HP.ex fun l => HP.ex fun c => HP.and (l.map (·.1) = L.map (·.1)) (MapH AnV iE mp (ansF L 0) l c)
theorem infoAn : (Try.prog.info? 140).map (fun i => (i.zero, i.size, i.bytes)) = some (some (.agg #[.int .i64 0, .bool false, .int .i64 0, .int .i64 0, .slice none 0 0]), 5, 56) := by kernel_rfl
theorem undMpA : Try.prog.underlying 128 = some (.map 3 140) := by kernel_rfl
theorem lenM_ok {i r c : Nat} {ty : TypeId} {l : AL Int} {A : HP} (hA : ∀ R h, A.p R h → h r = some (mapObj iE l c)) :
    ORead Try.prog (semW (.call ⟨.builtin .len, #[.tmp i], #[128]⟩) ty [(i, .map (some r))]) A (.int .i64 l.length) := fun w R h F s a => by
  have hg : w.heap[r]? = some (.map (l.map (toE iE)).toArray c) := s.oh _ _ (hA R h a)
  have e : (Builtin.len_ #[128] ty #[.map (some r)]).run Try.prog w = .ok (.int .i64 l.length) w := by
    simp only [Builtin.len_, List.getElem?_toArray, List.getElem?_cons_zero, Sem.run_bind, RX.run_underlying undMpA, Result.andThen_ok, run_getObj_map hg, Sem.run_pure, goInt, List.size_toArray, List.length_map]
  have e2 : semW (.call ⟨.builtin .len, #[.tmp i], #[128]⟩) ty [(i, .map (some r))] = (do pure (.value (← Builtin.len_ #[128] ty #[.map (some r)]))) := by simp [semW, execOp, resolve, arW, invoke, builtin]
  rw [e2, Sem.run_bind, e]
  rfl
abbrev POne (b : Nat) (g : BSt) (va : Option Addr) (vc mp : Nat) : HP := HP.one b (.cells #[.int .i64 g.acc, .int .i64 g.rnd, .int .i64 g.who, .slice va g.val.length vc, .int .i64 g.phase, .map (some mp), .int .i64 g.agreed] 130 (0, 0))
def BOk (g : BSt) : Prop := 1 ≤ g.acc ∧ g.acc ≤ 10000 ∧ 0 ≤ g.agreed ∧ g.agreed ≤ g.ans.length ∧ g.val.length ≤ 140737488355328
def BRep (b : Nat) (g : BSt) : HP := HP.ex fun va => HP.ex fun vc => HP.ex fun mp => HP.and (BOk g) (HP.sep (POne b g va vc mp) (HP.sep (RoB va g.val.length g.val) (MapA mp g.ans)))
section
variable (b : Nat) (g : BSt) (va : Option Addr) (vc mp : Nat) (P Q : HP)
theorem bPhase_ok : Tri Try.prog 25 #[.pointer (some ⟨b, 0, none⟩)] (HP.sep (POne b g va vc mp) (HP.sep P Q)) (fun v => HP.and (v = .int .i64 g.phase) (HP.sep (POne b g va vc mp) (HP.sep P Q))) := by
  refine tri_of_tree (ρ := [.n b, .i g.acc, .i g.rnd, .i g.who, .a va, .n g.val.length, .n vc, .p P, .i g.phase, .n mp, .p Q, .i g.agreed]) mixed Try.func25 tree_bPhase ?_
  unfold t_bPhase
  simp only [T.den, E.prop, E.den, RX.look, F1.app, F2.app, Uni.int_i, Uni.nat_n, Uni.bool_c, Uni.str_s, Uni.adr_a, Uni.val_v, Uni.hp_p, hden, cden, V.den, W.den, A.den, BR.den, SA.den, FV.den, capV, exs, exP, allP, Cur.app, List.map_cons, List.map_nil, List.cons_append, List.nil_append, List.drop_succ_cons, List.drop_zero, List.length_cons, List.length_nil, Nat.zero_add, Nat.reduceAdd, Int.neg_neg, Bool.not_not, List.append_nil, Nat.add_zero, List.getElem?_cons_zero, List.getElem?_cons_succ, Decidable.not_not, semW_eq, semW_load, semW_store, semW_storeC, semW_append, semW_lookup, semW_lookupC, semW_update, semW_updateC, semW_updateK, semW_delete, semW_range, semW_next, semW_entry, semW_nil, ne_eq, Nat.reduceEqDiff, not_false_eq_true]
  exact .of fun R h H => ⟨trivial, H⟩
theorem bBallot_ok : Tri Try.prog 27 #[.pointer (some ⟨b, 0, none⟩)] (HP.sep (POne b g va vc mp) (HP.sep P Q)) (fun v => HP.and (v = .agg #[.int .i64 g.rnd, .int .i64 g.who]) (HP.sep (POne b g va vc mp) (HP.sep P Q))) := by
  refine tri_of_tree (ρ := [.n b, .i g.acc, .i g.rnd, .i g.who, .a va, .n g.val.length, .n vc, .p P, .i g.phase, .n mp, .p Q, .i g.agreed]) mixed Try.func27 tree_bBallot ?_
  unfold t_bBallot
  simp only [T.den, E.prop, E.den, RX.look, F1.app, F2.app, Uni.int_i, Uni.nat_n, Uni.bool_c, Uni.str_s, Uni.adr_a, Uni.val_v, Uni.hp_p, hden, cden, V.den, W.den, A.den, BR.den, SA.den, FV.den, capV, exs, exP, allP, Cur.app, List.map_cons, List.map_nil, List.cons_append, List.nil_append, List.drop_succ_cons, List.drop_zero, List.length_cons, List.length_nil, Nat.zero_add, Nat.reduceAdd, Int.neg_neg, Bool.not_not, List.append_nil, Nat.add_zero, List.getElem?_cons_zero, List.getElem?_cons_succ, Decidable.not_not, semW_eq, semW_load, semW_store, semW_storeC, semW_append, semW_lookup, semW_lookupC, semW_update, semW_updateC, semW_updateK, semW_delete, semW_range, semW_next, semW_entry, semW_nil, ne_eq, Nat.reduceEqDiff, not_false_eq_true]
  exact fun _ => .of fun R h H => ⟨trivial, H⟩
def mostB (acc n : Int) : Bool := decide (acc.tdiv 2 < n)
theorem bMost_ok (n : Int) (hr : 0 ≤ g.acc ∧ g.acc ≤ 1000000) : Tri Try.prog 116 #[.pointer (some ⟨b, 0, none⟩), .int .i64 n] (HP.sep (POne b g va vc mp) (HP.sep P Q)) (fun v => HP.and (v = .bool (mostB g.acc n)) (HP.sep (POne b g va vc mp) (HP.sep P Q))) := by
  refine tri_of_tree (ρ := [.n b, .i g.acc, .i g.rnd, .i g.who, .a va, .n g.val.length, .n vc, .p P, .i g.phase, .n mp, .p Q, .i g.agreed, .i n]) mixed Try.func116 tree_bMost ?_
  unfold t_bMost
  simp only [T.den, E.prop, E.den, RX.look, F1.app, F2.app, Uni.int_i, Uni.nat_n, Uni.bool_c, Uni.str_s, Uni.adr_a, Uni.val_v, Uni.hp_p, hden, cden, V.den, W.den, A.den, BR.den, SA.den, FV.den, capV, exs, exP, allP, Cur.app, List.map_cons, List.map_nil, List.cons_append, List.nil_append, List.drop_succ_cons, List.drop_zero, List.length_cons, List.length_nil, Nat.zero_add, Nat.reduceAdd, Int.neg_neg, Bool.not_not, List.append_nil, Nat.add_zero, List.getElem?_cons_zero, List.getElem?_cons_succ, Decidable.not_not, semW_eq, semW_load, semW_store, semW_storeC, semW_append, semW_lookup, semW_lookupC, semW_update, semW_updateC, semW_updateK, semW_delete, semW_range, semW_next, semW_entry, semW_nil, ne_eq, Nat.reduceEqDiff, not_false_eq_true]
  have hq : g.acc.tdiv 2 = g.acc / 2 := Int.tdiv_eq_ediv_of_nonneg hr.1
  refine ⟨inI64 _ (by rw [hq]; omega) (by rw [hq]; omega), fun _ => .of fun R h H => ⟨rfl, H⟩⟩
theorem bValue_ok (hb : g.val.length ≤ 140737488355328) : Tri Try.prog 30 #[.pointer (some ⟨b, 0, none⟩)] (HP.sep (POne b g va vc mp) (HP.sep (RoB va g.val.length g.val) Q))
    (fun v => HP.ex fun a => HP.ex fun c => HP.and (v = .slice a g.val.length c) (HP.sep (RoB a g.val.length g.val) (HP.sep (POne b g va vc mp) (HP.sep (RoB va g.val.length g.val) Q)))) := by
  refine tri_of_tree (ρ := [.n b, .i g.acc, .i g.rnd, .i g.who, .a va, .n g.val.length, .n vc, .p (RoB va g.val.length g.val), .i g.phase, .n mp, .p Q, .i g.agreed]) mixed Try.func30 tree_bValue ?_
  unfold t_bValue
  simp only [T.den, E.prop, E.den, RX.look, F1.app, F2.app, Uni.int_i, Uni.nat_n, Uni.bool_c, Uni.str_s, Uni.adr_a, Uni.val_v, Uni.hp_p, hden, cden, V.den, W.den, A.den, BR.den, SA.den, FV.den, capV, exs, exP, allP, Cur.app, List.map_cons, List.map_nil, List.cons_append, List.nil_append, List.drop_succ_cons, List.drop_zero, List.length_cons, List.length_nil, Nat.zero_add, Nat.reduceAdd, Int.neg_neg, Bool.not_not, List.append_nil, Nat.add_zero, List.getElem?_cons_zero, List.getElem?_cons_succ, Decidable.not_not, semW_eq, semW_load, semW_store, semW_storeC, semW_append, semW_lookup, semW_lookupC, semW_update, semW_updateC, semW_updateK, semW_delete, semW_range, semW_next, semW_entry, semW_nil, ne_eq, Nat.reduceEqDiff, not_false_eq_true]
  refine (cloneR_ok (RoB va g.val.length g.val) va g.val.length vc g.val (RdL.ro _ _ _ _) rfl hb).weak (fun _ _ h => h) ?_
  rintro v R h ⟨a, c, rfl, H⟩
  refine ⟨a, _, c, RoB a g.val.length g.val, rfl, .of fun R h H => ⟨a, c, rfl, ?_⟩, H⟩
  exact HP.pick [_, _, _, _] [3, 0, 1, 2] (by decide) rfl H
def hasB (L : List (Int × BA)) (f : Int) : Bool := decide (f ∈ L.map (·.1))
def askedB (g : BSt) (f : Int) : Bool := decide ((g.phase = 1 ∨ g.phase = 2) ∧ 0 ≤ f ∧ f < g.acc) && !hasB g.ans f
theorem MapH.shape {mp c : Nat} {L : List (Int × BA)} {l : AL Int} {R h : PH} (H : (MapH AnV iE mp (ansF L 0) l c).p R h) : ∀ k v, alFind k l = some v → ∃ (x : AnB) (a : Option Addr) (d : Nat), v = .agg (x.vals a d) := fun k v hk => by
  have := HP.sep_right H.2 k
  rw [hk] at this
  revert this
  cases ansF L 0 k with
  | none => exact fun h => h.elim
  | some x => exact fun ⟨a, d, e, _⟩ => ⟨x, a, d, e.1⟩
theorem MapH.some_iff {mp c : Nat} {L : List (Int × BA)} {l : AL Int} {R h : PH} (H : (MapH AnV iE mp (ansF L 0) l c).p R h) (k : Int) : (alFind k l).isSome = hasB L k := by
  have := HP.sep_right H.2 k
  unfold hasB
  cases hf : ansF L 0 k with
  | none =>
    rw [hf] at this
    rw [decide_eq_false (ansF_none.1 hf)]
    revert this
    cases alFind k l with
    | none => exact fun _ => rfl
    | some v => exact fun h => h.elim
  | some x =>
    rw [hf] at this
    have hm : k ∈ L.map (·.1) := Classical.byContradiction fun hn => by rw [ansF_none.2 hn] at hf; cases hf
    rw [decide_eq_true hm]
    revert this
    cases alFind k l with
    | none => exact fun h => h.elim
    | some v => exact fun _ => rfl
theorem bAsked_ok (f : Int) (l : AL Int) (cl : Nat) : Tri Try.prog 79 #[.pointer (some ⟨b, 0, none⟩), .int .i64 f] (HP.sep (POne b g va vc mp) (HP.sep P (MapH AnV iE mp (ansF g.ans 0) l cl)))
    (fun v => HP.and (v = .bool (askedB g f)) (HP.sep (POne b g va vc mp) (HP.sep P (MapH AnV iE mp (ansF g.ans 0) l cl)))) := by
  refine Tri.fact (φ := (∀ k v, alFind k l = some v → ∃ (x : AnB) (a : Option Addr) (d : Nat), v = .agg (x.vals a d)) ∧ (alFind f l).isSome = hasB g.ans f) (fun R h H => ⟨MapH.shape (HP.sep_right (HP.sep_right H)), MapH.some_iff (HP.sep_right (HP.sep_right H)) f⟩) fun ⟨hsh, hs⟩ => ?_
  refine tri_of_tree (ρ := [.n b, .i g.acc, .i g.rnd, .i g.who, .a va, .n g.val.length, .n vc, .p P, .i g.phase, .n mp, .p (MapH AnV iE mp (ansF g.ans 0) l cl), .i g.agreed, .i f]) mixed Try.func79 tree_bAsked ?_
  unfold t_bAsked
  simp only [T.den, E.prop, E.den, RX.look, F1.app, F2.app, Uni.int_i, Uni.nat_n, Uni.bool_c, Uni.str_s, Uni.adr_a, Uni.val_v, Uni.hp_p, hden, cden, V.den, W.den, A.den, BR.den, SA.den, FV.den, capV, exs, exP, allP, Cur.app, List.map_cons, List.map_nil, List.cons_append, List.nil_append, List.drop_succ_cons, List.drop_zero, List.length_cons, List.length_nil, Nat.zero_add, Nat.reduceAdd, Int.neg_neg, Bool.not_not, List.append_nil, Nat.add_zero, List.getElem?_cons_zero, List.getElem?_cons_succ, Decidable.not_not, semW_eq, semW_load, semW_store, semW_storeC, semW_append, semW_lookup, semW_lookupC, semW_update, semW_updateC, semW_updateK, semW_delete, semW_range, semW_next, semW_entry, semW_nil, ne_eq, Nat.reduceEqDiff, not_false_eq_true]
  obtain ⟨i, hi, z1, z2, z3⟩ := info_parts infoAn
  have hlk := look_ok (r := mp) (l := l) (c := cl) iK undMpA hi z1 f true (A := MapH AnV iE mp (ansF g.ans 0) l cl) fun R h H => MapH.at H
  have hlook : ∃ (x : AnB) (a : Option Addr) (d : Nat), ORead Try.prog (lookS 128 (.map (some mp)) (.int .i64 f) true) (MapH AnV iE mp (ansF g.ans 0) l cl) (.tuple #[.agg (x.vals a d), .bool (hasB g.ans f)]) := by
    rw [hs] at hlk
    cases hf : alFind f l with
    | none => rw [hf] at hlk; exact ⟨⟨0, false, 0, 0, []⟩, none, 0, hlk⟩
    | some v => obtain ⟨x, a, d, rfl⟩ := hsh f v hf; rw [hf] at hlk; exact ⟨x, a, d, hlk⟩
  obtain ⟨x, a, d, hl⟩ := hlook
  unfold askedB
  have no : ¬ ((g.phase = 1 ∨ g.phase = 2) ∧ 0 ≤ f ∧ f < g.acc) → HP.ent (HP.sep (POne b g va vc mp) (HP.sep P (MapH AnV iE mp (ansF g.ans 0) l cl))) (HP.and (Value.bool false = Value.bool (decide ((g.phase = 1 ∨ g.phase = 2) ∧ 0 ≤ f ∧ f < g.acc) && !hasB g.ans f)) (HP.sep (POne b g va vc mp) (HP.sep P (MapH AnV iE mp (ansF g.ans 0) l cl)))) := fun hn => .of fun R h H => ⟨by rw [decide_eq_false hn]; rfl, H⟩
  have yes : ((g.phase = 1 ∨ g.phase = 2) ∧ 0 ≤ f ∧ f < g.acc) → HP.ent (HP.sep (POne b g va vc mp) (HP.sep P (MapH AnV iE mp (ansF g.ans 0) l cl))) (HP.and (Value.bool (!hasB g.ans f) = Value.bool (decide ((g.phase = 1 ∨ g.phase = 2) ∧ 0 ≤ f ∧ f < g.acc) && !hasB g.ans f)) (HP.sep (POne b g va vc mp) (HP.sep P (MapH AnV iE mp (ansF g.ans 0) l cl)))) := fun hn => .of fun R h H => ⟨by rw [decide_eq_true hn]; simp, H⟩
  have yes' : ((g.phase = 1 ∨ g.phase = 2) ∧ 0 ≤ f ∧ f < g.acc) → HP.ent (HP.sep (POne b g va vc mp) (HP.sep P (MapH AnV iE mp (ansF g.ans 0) l cl))) (HP.and (Value.bool (decide (¬ hasB g.ans f = true)) = Value.bool (decide ((g.phase = 1 ∨ g.phase = 2) ∧ 0 ≤ f ∧ f < g.acc) && !hasB g.ans f)) (HP.sep (POne b g va vc mp) (HP.sep P (MapH AnV iE mp (ansF g.ans 0) l cl)))) := fun hn => .of fun R h H => ⟨by rw [decide_eq_true hn]; simp, H⟩
  refine ⟨fun h1 => ⟨fun h2 => no (by omega), fun h2 => ⟨fun h3 => no (by omega), fun h3 => ⟨fun h4 => no (by omega), fun h4 => ⟨_, _, _, _, _, _, _, _, hl, fun _ => ?_⟩⟩⟩⟩, fun h1 => ⟨fun h3 => no (by omega), fun h3 => ⟨fun h4 => no (by omega), fun h4 => ⟨_, _, _, _, _, _, _, _, hl, fun _ => ?_⟩⟩⟩⟩
  · first | exact yes (by omega) | exact yes' (by omega)
  · first | exact yes (by omega) | exact yes' (by omega)
theorem MapA.put {l : AL Int} {cl : Nat} {L : List (Int × BA)} (hk : l.map (·.1) = L.map (·.1)) {f : Int} (hf : f ∉ L.map (·.1)) (x : BA) (a : Option Addr) (d : Nat) (hx : x.val.length ≤ 140737488355328) :
    OTri Try.prog (updS 128 (.map (some mp)) (.int .i64 f) (.agg ((x.at_ L.length).vals a d))) (HP.sep (MapH AnV iE mp (ansF L 0) l cl) (RoB a x.val.length x.val)) (fun z => HP.and (z = .tuple #[]) (HP.sep (MapA mp (L ++ [(f, x)])) (RoB a x.val.length x.val))) := by
  refine OTri.fact (φ := MapI l cl ∧ alFind f l = none) (fun R h H => ⟨(HP.sep_left H).1, MapH.no (HP.sep_left H) (ansF_none.2 hf)⟩) fun ⟨hI, hn⟩ => ?_
  refine ((upd_ok (r := mp) (l := l) (c := cl) iK undMpA f (.agg ((x.at_ L.length).vals a d))).frame (HP.sep (Vals AnV l (ansF L 0)) (RoB a x.val.length x.val))).weak (fun R h ⟨h1, h2, d, l1, l2, ⟨_, H⟩, hA⟩ => HP.sep_assoc ⟨h1, h2, d, l1, l2, H, hA⟩) ?_
  rintro z R h ⟨h1, h2, dd, l1, l2, ⟨rfl, hone⟩, hrest⟩
  have hro := HP.sep_right hrest
  have hv : ∀ q, (AnV (.agg ((x.at_ L.length).vals a d)) (x.at_ L.length)).p R q := fun q => AnV.pers _ _ _ _ _ ⟨a, d, ⟨rfl, hx⟩, hro⟩
  have hF : fput (ansF L 0) f (some (x.at_ L.length)) = ansF (L ++ [(f, x)]) 0 := by
    funext k
    rw [ansF_app x f L 0 hf k, fput, Int.zero_add]
  refine ⟨rfl, HP.sep_mono (HP.sep_assoc' ⟨h1, h2, dd, l1, l2, hone, hrest⟩) (fun y hy => ⟨_, _, ?_, hI.put f _, HP.sep_mono hy (fun _ h => h) fun q hq => ?_⟩) fun _ h => h⟩
  · rw [alPut_none _ _ _ _ hn, List.map_append, List.map_append, hk]; rfl
  · rw [← hF]
    exact Vals.put hq f _ cl _ (hv q)
theorem lenA_ok {i mp : Nat} {ty : TypeId} {L : List (Int × BA)} : ORead Try.prog (semW (.call ⟨.builtin .len, #[.tmp i], #[128]⟩) ty [(i, .map (some mp))]) (MapA mp L) (.int .i64 L.length) := fun w R h F s ⟨l, c, hk, H⟩ => by
  have e : l.length = L.length := by simpa using congrArg List.length hk
  rw [← e]
  exact lenM_ok (A := MapH AnV iE mp (ansF L 0) l c) (fun R h H => MapH.at H) w R h F s H
def takeB (g : BSt) (f : Int) (x : BA) : BSt × Bool :=
  if x.ok = true then ({ g with ans := g.ans ++ [(f, x)], agreed := g.agreed + 1 }, mostB g.acc (g.agreed + 1))
  else if mostB g.acc (g.acc - (g.ans.length + 1 - g.agreed)) = true then ({ g with ans := g.ans ++ [(f, x)] }, false)
  else ({ g with ans := g.ans ++ [(f, x)], phase := 4 }, false)
theorem bTake_ok (f : Int) (x : BA) (t0 : Int) (a : Option Addr) (d : Nat) (hx : x.val.length ≤ 140737488355328) (hf : hasB g.ans f = false) (hlen : g.ans.length ≤ 100000) (hB : BOk g) :
    Tri Try.prog 80 #[.pointer (some ⟨b, 0, none⟩), .int .i64 f, .agg ((x.at_ t0).vals a d)] (HP.sep (POne b g va vc mp) (HP.sep P (HP.sep (MapA mp g.ans) (RoB a x.val.length x.val))))
      (fun v => HP.and (v = .bool (takeB g f x).2) (HP.sep (POne b (takeB g f x).1 va vc mp) (HP.sep P (HP.sep (MapA mp (takeB g f x).1.ans) (RoB a x.val.length x.val))))) := by
  obtain ⟨b1, b2, b3, b4, b5⟩ := hB
  have hfm : f ∉ g.ans.map (·.1) := by unfold hasB at hf; simpa using hf
  refine (Tri.ex (A := fun l => HP.ex fun cl => HP.and (l.map (·.1) = g.ans.map (·.1)) (HP.sep (POne b g va vc mp) (HP.sep P (HP.sep (MapH AnV iE mp (ansF g.ans 0) l cl) (RoB a x.val.length x.val))))) fun l => Tri.ex fun cl => Tri.pure fun hk => ?_).weak (fun R h H => ?_) fun _ _ _ h => h
  · refine tri_of_tree (ρ := [.n b, .i g.acc, .i g.rnd, .i g.who, .a va, .n g.val.length, .n vc, .p P, .i g.phase, .n mp, .p (MapH AnV iE mp (ansF g.ans 0) l cl), .i g.agreed, .i f, .i t0, .c x.ok, .i x.r, .i x.w, .a a, .n x.val.length, .n d, .p (RoB a x.val.length x.val)]) mixed Try.func80 tree_bTake ?_
    unfold t_bTake
    simp only [T.den, E.prop, E.den, RX.look, F1.app, F2.app, Uni.int_i, Uni.nat_n, Uni.bool_c, Uni.str_s, Uni.adr_a, Uni.val_v, Uni.hp_p, hden, cden, V.den, W.den, A.den, BR.den, SA.den, FV.den, capV, exs, exP, allP, Cur.app, List.map_cons, List.map_nil, List.cons_append, List.nil_append, List.drop_succ_cons, List.drop_zero, List.length_cons, List.length_nil, Nat.zero_add, Nat.reduceAdd, Int.neg_neg, Bool.not_not, List.append_nil, Nat.add_zero, List.getElem?_cons_zero, List.getElem?_cons_succ, Decidable.not_not, semW_eq, semW_load, semW_store, semW_storeC, semW_append, semW_lookup, semW_lookupC, semW_update, semW_updateC, semW_updateK, semW_delete, semW_range, semW_next, semW_entry, semW_nil, ne_eq, Nat.reduceEqDiff, not_false_eq_true]
    intro _
    have hln : l.length = g.ans.length := by simpa using congrArg List.length hk
    refine ⟨g.ans.length, by rw [← hln]; exact lenM_ok fun R h H => MapH.at H, ?_⟩
    refine (MapA.put mp hk hfm x a d hx).weak (fun _ _ h => h) ?_
    rintro v R h ⟨rfl, H⟩
    refine ⟨MapA mp (g.ans ++ [(f, x)]), rfl, ⟨fun h1 => ⟨inI64 _ (by omega) (by omega), fun _ => ?_⟩, fun h1 => ⟨_, lenA_ok, ?_⟩⟩, H⟩
    · refine (bMost_ok b { g with ans := g.ans ++ [(f, x)], agreed := g.agreed + 1 } va vc mp P (MapA mp (g.ans ++ [(f, x)])) (g.agreed + 1) ⟨by show 0 ≤ g.acc; omega, by show g.acc ≤ 1000000; omega⟩).weak (fun _ _ h => h) ?_
      rintro v R h ⟨rfl, H⟩
      refine ⟨_, rfl, .of fun R h H => ?_, H⟩
      have e : takeB g f x = ({ g with ans := g.ans ++ [(f, x)], agreed := g.agreed + 1 }, mostB g.acc (g.agreed + 1)) := if_pos h1
      rw [e]
      exact ⟨rfl, H⟩
    · have el : ((g.ans ++ [(f, x)]).length : Int) = g.ans.length + 1 := by simp
      rw [el]
      refine ⟨inI64 _ (by omega) (by omega), fun _ => ⟨inI64 _ (by omega) (by omega), fun _ => ?_⟩⟩
      refine (bMost_ok b { g with ans := g.ans ++ [(f, x)] } va vc mp P (MapA mp (g.ans ++ [(f, x)])) _ ⟨by show 0 ≤ g.acc; omega, by show g.acc ≤ 1000000; omega⟩).weak (fun _ _ h => h) ?_
      rintro v R h ⟨rfl, H⟩
      refine ⟨_, rfl, ⟨fun h2 => .of fun R h H => ?_, fun h2 => .of fun R h H => ?_⟩, H⟩
      · have e : takeB g f x = ({ g with ans := g.ans ++ [(f, x)], phase := 4 }, false) := by unfold takeB; rw [if_neg h1]; exact if_neg h2
        rw [e]
        exact ⟨rfl, H⟩
      · have e : takeB g f x = ({ g with ans := g.ans ++ [(f, x)] }, false) := by unfold takeB; rw [if_neg h1]; exact if_pos h2
        rw [e]
        exact ⟨rfl, H⟩
  · obtain ⟨h1, h2, e1, l1, l2, HO, h3, h4, e2, l3, l4, HP', h5, h6, e3, l5, l6, ⟨l, cl, hk, HM⟩, HR⟩ := H
    exact ⟨l, cl, hk, h1, h2, e1, l1, l2, HO, h3, h4, e2, l3, l4, HP', h5, h6, e3, l5, l6, HM, HR⟩
end
end Go.Proofs.Ytmibmjehjagmbaa

/- A proposer chooses a value. No condition. -/
namespace Go.Proofs.Ytmibmjehjagmbaa
set_option linter.unusedSimpArgs false
set_option linter.unusedVariables false
open Go.Proofs.Ytmibmjehjagmbaa RX
set_option maxRecDepth 100000

def candA (x : AnB) : Prop := x.ok = true ∧ ¬ (x.r = 0 ∧ x.w = 0)
def lessA (x y : AnB) : Prop := x.r < y.r ∨ (x.r = y.r ∧ x.w < y.w)
/-- The best of those that were seen. -/
def BestA (F : Int → Option AnB) (l : AL Int) (S : Array Nat) (x : AnB) : Prop :=
  (x.r = 0 ∧ x.w = 0 ∧ ∀ z ∈ l, z.2.2 ∈ S → ∀ y, F z.1 = some y → ¬ candA y) ∨
  (candA x ∧ (∃ k, F k = some x) ∧ ∀ z ∈ l, z.2.2 ∈ S → ∀ y, F z.1 = some y → candA y → ¬ lessA x y)
/-- What the value is then: that of the greatest ballot that was told, if there was one. -/
def ChoseB (F : Int → Option AnB) (v0 v : List UInt8) : Prop :=
  ((∀ k y, F k = some y → ¬ candA y) ∧ v = v0) ∨ ∃ k x, F k = some x ∧ candA x ∧ v = x.val ∧ ∀ k' y, F k' = some y → candA y → ¬ lessA x y
theorem BestA.skip {F : Int → Option AnB} {l : AL Int} {c : Nat} (hs : Stamps l c) {S : Array Nat} {x y : AnB} {z : Int × Value × Nat} (hz : z ∈ l) (hy : F z.1 = some y) (h : BestA F l S x) (hn : candA y → candA x ∧ ¬ lessA x y) : BestA F l (S.push z.2.2) x := by
  rcases h with ⟨r0, w0, hno⟩ | ⟨hc, hex, hmax⟩
  · refine .inl ⟨r0, w0, fun q hq hqs y' hy' hc' => ?_⟩
    rcases stamp_push hs hz hq hqs with rfl | hqs
    · rw [hy] at hy'; cases hy'
      exact (hn hc').1.2 ⟨r0, w0⟩
    · exact hno q hq hqs y' hy' hc'
  · refine .inr ⟨hc, hex, fun q hq hqs y' hy' hc' => ?_⟩
    rcases stamp_push hs hz hq hqs with rfl | hqs
    · rw [hy] at hy'; cases hy'
      exact (hn hc').2
    · exact hmax q hq hqs y' hy' hc'
theorem BestA.take {F : Int → Option AnB} {l : AL Int} {c : Nat} (hs : Stamps l c) {S : Array Nat} {x y : AnB} {z : Int × Value × Nat} (hz : z ∈ l) (hy : F z.1 = some y) (h : BestA F l S x) (hc : candA y) (hn : (x.r = 0 ∧ x.w = 0) ∨ ¬ lessA y x) : BestA F l (S.push z.2.2) y := by
  refine .inr ⟨hc, ⟨z.1, hy⟩, fun q hq hqs y' hy' hc' => ?_⟩
  rcases stamp_push hs hz hq hqs with rfl | hqs
  · rw [hy] at hy'; cases hy'
    unfold lessA; omega
  · rcases h with ⟨r0, w0, hno⟩ | ⟨hcx, _, hmax⟩
    · exact absurd hc' (hno q hq hqs y' hy')
    · have h1 := hmax q hq hqs y' hy' hc'
      have h2 := hn.resolve_left hcx.2
      unfold lessA at *
      omega
theorem aheadW_yes {y x : AnB} (h : aheadW y x = true) : ¬ lessA y x := by
  unfold aheadW at h
  unfold lessA
  split at h
  · omega
  · have := of_decide_eq_true h; omega
theorem aheadW_no {y x : AnB} (h : ¬ aheadW y x = true) : ¬ lessA x y := by
  unfold aheadW at h
  unfold lessA
  split at h
  · omega
  · have h2 : ¬ (x.r < y.r ∨ (y.r = x.r ∧ x.w < y.w)) := fun e => h (decide_eq_true e)
    omega
set_option maxHeartbeats 2000000 in
theorem bChoose_ok (b : Nat) (g : BSt) (va : Option Addr) (vc mp : Nat) (hB : BOk g) :
    Tri Try.prog 81 #[.pointer (some ⟨b, 0, none⟩)] (HP.sep (POne b g va vc mp) (HP.sep (RoB va g.val.length g.val) (MapA mp g.ans)))
      (fun v => HP.ex fun val => HP.ex fun va' => HP.ex fun vc' => HP.and (v = .tuple #[] ∧ ChoseB (ansF g.ans 0) g.val val) (HP.sep (POne b { g with val := val } va' vc' mp) (HP.sep (RoB va' val.length val) (MapA mp g.ans)))) := by
  refine (Tri.ex (A := fun l => HP.ex fun cl => HP.and (l.map (·.1) = g.ans.map (·.1)) (HP.sep (POne b g va vc mp) (HP.sep (RoB va g.val.length g.val) (MapH AnV iE mp (ansF g.ans 0) l cl)))) fun l => Tri.ex fun cl => Tri.pure fun hk => ?_).weak (fun R h H => ?_) fun _ _ _ h => h
  · refine Tri.fact (φ := MapI l cl) (fun R h H => (HP.sep_right (HP.sep_right H)).1) fun hI => ?_
    refine tri_of_tree (ρ := [.n b, .i g.acc, .i g.rnd, .i g.who, .a va, .n g.val.length, .n vc, .p (RoB va g.val.length g.val), .i g.phase, .n mp, .p (MapH AnV iE mp (ansF g.ans 0) l cl), .i g.agreed]) mixed Try.func81 tree_bChoose ?_
    unfold t_bChoose
    simp only [T.den, E.prop, E.den, RX.look, F1.app, F2.app, Uni.int_i, Uni.nat_n, Uni.bool_c, Uni.str_s, Uni.adr_a, Uni.val_v, Uni.hp_p, hden, cden, V.den, W.den, A.den, BR.den, SA.den, FV.den, capV, exs, exP, allP, Cur.app, List.map_cons, List.map_nil, List.cons_append, List.nil_append, List.drop_succ_cons, List.drop_zero, List.length_cons, List.length_nil, Nat.zero_add, Nat.reduceAdd, Int.neg_neg, Bool.not_not, List.append_nil, Nat.add_zero, List.getElem?_cons_zero, List.getElem?_cons_succ, Decidable.not_not, semW_eq, semW_load, semW_store, semW_storeC, semW_append, semW_lookup, semW_lookupC, semW_update, semW_updateC, semW_updateK, semW_delete, semW_range, semW_next, semW_entry, semW_nil, ne_eq, Nat.reduceEqDiff, not_false_eq_true]
    intro _
    refine ((range_ok (m := mp) (l := l) (c := cl) (enc := iE) undMpA).frame (Vals AnV l (ansF g.ans 0))).weak (fun R h H => H.2) ?_
    rintro v R h ⟨h1, h2, d, l1, l2, ⟨it, rfl, H⟩, HV⟩
    have Hst : (HP.sep (HP.one it (.mapIter (some mp) cl #[] cl)) (MapH AnV iE mp (ansF g.ans 0) l cl)).p R h := HP.sep_mono (HP.sep_assoc ⟨h1, h2, d, l1, l2, H, HV⟩) (fun _ h => h) fun y hy => ⟨hI, hy⟩
    clear H HV d l1 l2
    let J : HP → HP → Int → Bool → Int → Int → Option Addr → Nat → Nat → HP → Nat → Prop := fun Pi Pm t ok r w ba bn _ Pb N => ∃ (S : Array Nat) (x : AnB), Pi = HP.one it (.mapIter (some mp) cl S cl) ∧ Pm = MapH AnV iE mp (ansF g.ans 0) l cl ∧ t = x.turn ∧ ok = x.ok ∧ r = x.r ∧ w = x.w ∧ bn = x.val.length ∧ (∀ R h, Pb.p R h → (RoB ba x.val.length x.val).p R h) ∧ BestA (ansF g.ans 0) l S x ∧ leftN l S = N
    refine ⟨it, _, _, rfl, ⟨fun Pi Pm t ok r w ba bn bc Pb => ∃ N, J Pi Pm t ok r w ba bn bc Pb N, fun Pi Pm t ok r w ba bn bc Pb => leastN (J Pi Pm t ok r w ba bn bc Pb), ⟨_, #[], ⟨0, false, 0, 0, []⟩, rfl, rfl, rfl, rfl, rfl, rfl, rfl, fun R h _ => RoB0 none, .inl ⟨rfl, rfl, fun z _ hz => absurd hz (by simp)⟩, rfl⟩, ?_⟩, Hst⟩
    intro Pi Pm t ok r w ba bn bc Pb hJ
    have hJ' := leastN_spec hJ
    generalize hNe : leastN (J Pi Pm t ok r w ba bn bc Pb) = N at hJ'
    obtain ⟨S, x, rfl, rfl, rfl, rfl, rfl, rfl, rfl, hPb, hbest, hN⟩ := hJ'
    clear hJ
    refine (next_map hI.2).weak (fun _ _ h => h) ?_
    rintro v R h ⟨e, he, H⟩
    rcases e with _ | z
    · refine ⟨false, .tuple #[], .tuple #[], _, he.1, ⟨fun h => (by cases h), fun _ => ?_⟩, H⟩
      clear H
      have seen : ∀ k y, ansF g.ans 0 k = some y → ∃ q ∈ l, q.1 = k ∧ q.2.2 ∈ S := fun k y hy => by
        have hm : k ∈ g.ans.map (·.1) := Classical.byContradiction fun hn => by rw [ansF_none.2 hn] at hy; cases hy
        rw [← hk] at hm
        obtain ⟨q, hq, rfl⟩ := List.mem_map.1 hm
        exact ⟨q, hq, rfl, he.2 q hq⟩
      have hiff : (!(decide (x.r = 0) && decide (x.w = 0))) = true ↔ ¬ (x.r = 0 ∧ x.w = 0) := by
        by_cases e1 : x.r = 0 <;> by_cases e2 : x.w = 0 <;> simp [e1, e2]
      refine ⟨_, neqBW (by decide), fun h1 => .of fun R h H => ?_, fun h1 => .of fun R h H => ?_⟩
      · rcases hbest with ⟨r0, w0, _⟩ | ⟨hc, ⟨k0, hk0⟩, hmax⟩
        · exact absurd ⟨r0, w0⟩ (hiff.1 h1)
        · refine ⟨x.val, ba, bc, ⟨trivial, .inr ⟨k0, x, hk0, hc, rfl, fun k' y hy hcy => ?_⟩⟩, HP.sep_mono H (fun _ h => h) fun z hz => HP.sep_mono hz (fun u hu => hPb R u hu) fun u hu => ⟨l, cl, hk, HP.sep_left hu⟩⟩
          obtain ⟨q, hq, rfl, hqs⟩ := seen k' y hy
          exact hmax q hq hqs y hy hcy
      · rcases hbest with ⟨r0, w0, hno⟩ | ⟨hc, _, _⟩
        · refine ⟨g.val, va, vc, ⟨trivial, .inl ⟨fun k' y hy => ?_, rfl⟩⟩, HP.sep_mono H (fun _ h => h) fun z hz => HP.sep_mono hz (fun _ h => h) fun u hu => ⟨l, cl, hk, hu⟩⟩
          obtain ⟨q, hq, rfl, hqs⟩ := seen k' y hy
          exact hno q hq hqs y hy
        · exact absurd (hiff.2 hc.2) h1
    · obtain ⟨rfl, hz, hzS⟩ := he
      have hfind : alFind z.1 l = some z.2.1 := alFind_mem z.1 z.2.1 z.2.2 l hI.1 hz
      obtain ⟨y, hy, a, c, hv⟩ : ∃ y, ansF g.ans 0 z.1 = some y ∧ ∃ a c, z.2.1 = .agg (y.vals a c) := by
        have Hm := HP.sep_right H
        cases hfk : ansF g.ans 0 z.1 with
        | none => rw [MapH.no Hm hfk] at hfind; cases hfind
        | some y =>
          obtain ⟨v, hv, a, c, ⟨e, _⟩, _⟩ := MapH.yes Hm AnV.pers hfk h
          rw [hfind] at hv; cases hv
          exact ⟨y, rfl, a, c, e⟩
      refine ⟨true, iE z.1, z.2.1, _, rfl, ⟨fun _ => ?_, fun h => by simp at h⟩, H⟩
      clear H
      have hent := entry_ok (enc := iE) (it := it) (m := mp) (c := cl) (S := S) (x := z) hI.2 hz (A := HP.sep (HP.one it (.mapIter (some mp) cl (nextI S (some z)) cl)) (MapH AnV iE mp (ansF g.ans 0) l cl)) (fun R h H => HP.sep_left H) (fun R h H => MapH.at (HP.sep_right H))
      rw [hv] at hent
      have fin : ∀ (x' : AnB) (ba' : Option Addr) (bc' : Nat) (Pb' : HP), (∀ R h, Pb'.p R h → (RoB ba' x'.val.length x'.val).p R h) → BestA (ansF g.ans 0) l (S.push z.2.2) x' →
          (∃ N, J (HP.one it (.mapIter (some mp) cl (nextI S (some z)) cl)) (MapH AnV iE mp (ansF g.ans 0) l cl) x'.turn x'.ok x'.r x'.w ba' x'.val.length bc' Pb' N) ∧ leastN (J (HP.one it (.mapIter (some mp) cl (nextI S (some z)) cl)) (MapH AnV iE mp (ansF g.ans 0) l cl) x'.turn x'.ok x'.r x'.w ba' x'.val.length bc' Pb') < leastN (J (HP.one it (.mapIter (some mp) cl S cl)) (MapH AnV iE mp (ansF g.ans 0) l cl) x.turn x.ok x.r x.w ba x.val.length bc Pb) := fun x' ba' bc' Pb' h1 h2 => by
        have hJ2 : J (HP.one it (.mapIter (some mp) cl (nextI S (some z)) cl)) (MapH AnV iE mp (ansF g.ans 0) l cl) x'.turn x'.ok x'.r x'.w ba' x'.val.length bc' Pb' (leftN l (S.push z.2.2)) := ⟨S.push z.2.2, x', rfl, rfl, rfl, rfl, rfl, rfl, rfl, h1, h2, rfl⟩
        exact ⟨⟨_, hJ2⟩, Nat.lt_of_le_of_lt (leastN_le hJ2) (by rw [hNe, ← hN]; exact leftN_push hz hzS)⟩
      refine OTri.ofRead hent fun R' h' H' => ⟨z.1, y.turn, y.ok, y.r, y.w, a, y.val.length, c, RoB a y.val.length y.val, HP.one it (.mapIter (some mp) cl (nextI S (some z)) cl), MapH AnV iE mp (ansF g.ans 0) l cl, rfl, fun nb => ?_, ?_⟩
      · refine ⟨fun h1 => fin x ba bc Pb hPb (hbest.skip hI.2 hz hy fun hc => absurd hc.1 h1), fun h1 => ⟨_, eqBW (by decide), fun h2 => ?_, fun h2 => ⟨_, eqBW (by decide), fun h3 => ?_, fun h3 => ?_⟩⟩⟩
        · exact fin x ba bc Pb hPb (hbest.skip hI.2 hz hy fun hc => absurd (by simpa using h2) hc.2)
        · exact fin y a c _ (fun _ _ h => h) (hbest.take hI.2 hz hy ⟨h1, by simpa using h2⟩ (.inl (by simpa using h3)))
        · have hcx : candA x := by
            rcases hbest with ⟨r0, w0, _⟩ | ⟨hc, _⟩
            · exact absurd (by simp [r0, w0]) h3
            · exact hc
          have hcy : candA y := ⟨h1, by simpa using h2⟩
          refine (bAhead_ok (RoB a y.val.length y.val) (HP.sep (MapH AnV iE mp (ansF g.ans 0) l cl) Pb) y x a ba c bc).weak (fun _ _ h => h) ?_
          rintro v R h ⟨rfl, H⟩
          exact ⟨_, rfl, ⟨fun h4 => fin y a c _ (fun _ _ h => h) (hbest.take hI.2 hz hy hcy (.inr (aheadW_yes h4))), fun h4 => fin x ba bc Pb hPb (hbest.skip hI.2 hz hy fun _ => ⟨hcx, aheadW_no h4⟩)⟩, H⟩
      · obtain ⟨v, hv', a', c', ⟨e, _⟩, hro⟩ := MapH.yes (HP.sep_right H') AnV.pers hy h'
        rw [hfind, hv] at hv'
        cases hv'
        simp only [Value.agg.injEq, Array.mk.injEq, List.cons.injEq, Value.slice.injEq, and_true, true_and] at e
        obtain ⟨rfl, rfl⟩ := e
        exact RoC.join hro H'
  · obtain ⟨h1, h2, e1, l1, l2, HO, h3, h4, e2, l3, l4, HP', ⟨l, cl, hk, HM⟩⟩ := H
    exact ⟨l, cl, hk, h1, h2, e1, l1, l2, HO, h3, h4, e2, l3, l4, HP', HM⟩
end Go.Proofs.Ytmibmjehjagmbaa

/- A proposer: what it takes. No condition. -/
namespace Go.Proofs.Ytmibmjehjagmbaa
set_option linter.unusedSimpArgs false
set_option linter.unusedVariables false
open Go.Proofs.Ytmibmjehjagmbaa RX
set_option maxRecDepth 100000

theorem BRep.tri {f : FuncId} {args : Array Value} {b : Nat} {g : BSt} {K : HP} {B : Value → HP}
    (t : ∀ va vc mp, BOk g → Tri Try.prog f args (HP.sep (POne b g va vc mp) (HP.sep (RoB va g.val.length g.val) (HP.sep (MapA mp g.ans) K))) B) : Tri Try.prog f args (HP.sep (BRep b g) K) B := by
  refine (Tri.ex (A := fun va => HP.ex fun vc => HP.ex fun mp => HP.and (BOk g) (HP.sep (POne b g va vc mp) (HP.sep (RoB va g.val.length g.val) (HP.sep (MapA mp g.ans) K)))) fun va => Tri.ex fun vc => Tri.ex fun mp => Tri.pure fun h => t va vc mp h).weak (fun R h H => ?_) fun _ _ _ h => h
  obtain ⟨h1, h2, d, l1, l2, ⟨va, vc, mp, hB, H⟩, HK⟩ := H
  exact ⟨va, vc, mp, hB, HP.sep_mono (HP.sep_assoc ⟨h1, h2, d, l1, l2, H, HK⟩) (fun _ h => h) fun y hy => HP.sep_assoc hy⟩
theorem bAskedA_ok (b : Nat) (g : BSt) (va : Option Addr) (vc mp : Nat) (P : HP) (f : Int) : Tri Try.prog 79 #[.pointer (some ⟨b, 0, none⟩), .int .i64 f] (HP.sep (POne b g va vc mp) (HP.sep P (MapA mp g.ans)))
    (fun v => HP.and (v = .bool (askedB g f)) (HP.sep (POne b g va vc mp) (HP.sep P (MapA mp g.ans)))) := by
  refine (Tri.ex (A := fun l => HP.ex fun cl => HP.and (l.map (·.1) = g.ans.map (·.1)) (HP.sep (POne b g va vc mp) (HP.sep P (MapH AnV iE mp (ansF g.ans 0) l cl)))) fun l => Tri.ex fun cl => Tri.pure fun hk => ?_).weak (fun R h H => ?_) fun _ _ _ h => h
  · exact (bAsked_ok b g va vc mp P f l cl).weak (fun _ _ h => h) fun v R h ⟨e, H⟩ => ⟨e, HP.sep_mono H (fun _ h => h) fun y hy => HP.sep_mono hy (fun _ h => h) fun z hz => ⟨l, cl, hk, hz⟩⟩
  · obtain ⟨h1, h2, e1, l1, l2, HO, h3, h4, e2, l3, l4, HP', ⟨l, cl, hk, HM⟩⟩ := H
    exact ⟨l, cl, hk, h1, h2, e1, l1, l2, HO, h3, h4, e2, l3, l4, HP', HM⟩
def accB (g : BSt) (f e : Int) : BSt :=
  if g.phase = 2 ∧ askedB g f = true then (if (takeB g f ⟨decide (e = 0), 0, 0, []⟩).2 = true then { (takeB g f ⟨decide (e = 0), 0, 0, []⟩).1 with phase := 3 } else (takeB g f ⟨decide (e = 0), 0, 0, []⟩).1) else g
theorem asked_has {g : BSt} {f : Int} (h : askedB g f = true) : hasB g.ans f = false := by
  unfold askedB at h
  rw [Bool.and_eq_true] at h
  simpa using h.2
theorem takeB_val (g : BSt) (f : Int) (x : BA) : (takeB g f x).1.val = g.val := by unfold takeB; split <;> (try split) <;> rfl
theorem takeB_ok {g : BSt} (f : Int) (x : BA) (h : BOk g) : BOk (takeB g f x).1 := by
  obtain ⟨h1, h2, h3, h4, h5⟩ := h
  unfold takeB
  split
  · exact ⟨h1, h2, by show 0 ≤ g.agreed + 1; omega, by show g.agreed + 1 ≤ ((g.ans ++ [(f, x)]).length : Int); simp; omega, h5⟩
  · split <;> exact ⟨h1, h2, h3, by show g.agreed ≤ ((g.ans ++ [(f, x)]).length : Int); simp; omega, h5⟩
theorem bAccepted_ok (b : Nat) (g : BSt) (f e : Int) (hlen : g.ans.length ≤ 100000) : Tri Try.prog 31 #[.pointer (some ⟨b, 0, none⟩), .int .i64 f, .int .i64 e] (BRep b g) (fun v => HP.and (v = .tuple #[]) (BRep b (accB g f e))) := by
  refine (BRep.tri (K := HP.tt) fun va vc mp hB => ?_).weak (fun R h H => HP.sep_tt H) fun _ _ _ h => h
  refine Tri.weak (A := HP.sep (POne b g va vc mp) (HP.sep (RoB va g.val.length g.val) (MapA mp g.ans))) ?_ (fun R h H => HP.sep_mono H (fun _ h => h) fun y hy => HP.sep_mono hy (fun _ h => h) fun z hz => HP.sep_left hz) fun _ _ _ h => h
  refine tri_of_tree (ρ := [.n b, .i g.acc, .i g.rnd, .i g.who, .a va, .n g.val.length, .n vc, .p (RoB va g.val.length g.val), .i g.phase, .n mp, .p (MapA mp g.ans), .i g.agreed, .i f, .i e]) mixed Try.func31 tree_bAccepted ?_
  unfold t_bAccepted
  simp only [T.den, E.prop, E.den, RX.look, F1.app, F2.app, Uni.int_i, Uni.nat_n, Uni.bool_c, Uni.str_s, Uni.adr_a, Uni.val_v, Uni.hp_p, hden, cden, V.den, W.den, A.den, BR.den, SA.den, FV.den, capV, exs, exP, allP, Cur.app, List.map_cons, List.map_nil, List.cons_append, List.nil_append, List.drop_succ_cons, List.drop_zero, List.length_cons, List.length_nil, Nat.zero_add, Nat.reduceAdd, Int.neg_neg, Bool.not_not, List.append_nil, Nat.add_zero, List.getElem?_cons_zero, List.getElem?_cons_succ, Decidable.not_not, semW_eq, semW_load, semW_store, semW_storeC, semW_append, semW_lookup, semW_lookupC, semW_update, semW_updateC, semW_updateK, semW_delete, semW_range, semW_next, semW_entry, semW_nil, ne_eq, Nat.reduceEqDiff, not_false_eq_true]
  have same : accB g f e = g → HP.ent (HP.sep (POne b g va vc mp) (HP.sep (RoB va g.val.length g.val) (MapA mp g.ans))) (HP.and True (BRep b (accB g f e))) := fun h => .of fun R y H => ⟨trivial, by rw [h]; exact ⟨va, vc, mp, hB, H⟩⟩
  refine ⟨fun h1 => same (if_neg fun h => h1 h.1), fun h1 => ?_⟩
  refine (bAskedA_ok b g va vc mp (RoB va g.val.length g.val) f).weak (fun _ _ h => h) ?_
  rintro v R h ⟨rfl, H⟩
  refine ⟨_, rfl, ⟨fun h2 => same (if_neg fun h => h2 h.2), fun h2 => ?_⟩, H⟩
  clear H
  have hT := takeB_ok f ⟨decide (e = 0), 0, 0, []⟩ hB
  have hv := takeB_val g f ⟨decide (e = 0), 0, 0, []⟩
  have hacc : accB g f e = if (takeB g f ⟨decide (e = 0), 0, 0, []⟩).2 = true then { (takeB g f ⟨decide (e = 0), 0, 0, []⟩).1 with phase := 3 } else (takeB g f ⟨decide (e = 0), 0, 0, []⟩).1 := if_pos ⟨h1, h2⟩
  refine (bTake_ok b g va vc mp (RoB va g.val.length g.val) f ⟨decide (e = 0), 0, 0, []⟩ 0 none 0 (by simp) (asked_has h2) hlen hB).weak (fun R h H => HP.sep_mono H (fun _ h => h) fun y hy => HP.sep_mono hy (fun _ h => h) fun z hz => RoC.joinR (RoB0 none : (RoB none 0 []).p R z) hz) ?_
  rw [hacc]
  clear hacc same
  revert hT hv
  generalize takeB g f ⟨decide (e = 0), 0, 0, []⟩ = T
  intro hT hv
  rintro v R h ⟨rfl, H⟩
  rw [← hv] at H
  refine ⟨T.2, T.1.acc, T.1.rnd, T.1.who, va, T.1.val.length, vc, RoB va T.1.val.length T.1.val, T.1.phase, mp, MapA mp T.1.ans, T.1.agreed, rfl, ⟨fun h => .of fun R y H => ⟨trivial, ?_⟩, fun h => .of fun R y H => ⟨trivial, ?_⟩⟩, HP.sep_mono H (fun _ h => h) fun y hy => HP.sep_mono hy (fun _ h => h) fun z hz => HP.sep_left hz⟩
  · rw [if_pos h]; exact ⟨va, vc, mp, hT, H⟩
  · rw [if_neg h]; exact ⟨va, vc, mp, hT, H⟩
/-- What an answer to the ballot is noted as. -/
def promA (r w : Int) (l : List UInt8) (e : Int) : BA := if e = 0 then ⟨true, r, w, l⟩ else ⟨false, 0, 0, []⟩
/-- What a proposer may be behind an answer to its ballot. -/
def PromB (g : BSt) (f r w : Int) (l : List UInt8) (e : Int) (g' : BSt) : Prop :=
  if g.phase = 1 ∧ askedB g f = true then
    (if (takeB g f (promA r w l e)).2 = true then ∃ val, ChoseB (ansF (takeB g f (promA r w l e)).1.ans 0) g.val val ∧ g' = { (takeB g f (promA r w l e)).1 with val := val, phase := 2, ans := [], agreed := 0 } else g' = (takeB g f (promA r w l e)).1)
  else g' = g
theorem ChoseB.le {L : List (Int × BA)} {v0 v : List UInt8} (h : ChoseB (ansF L 0) v0 v) (h0 : v0.length ≤ 140737488355328) (hL : ∀ x ∈ L, x.2.val.length ≤ 140737488355328) : v.length ≤ 140737488355328 := by
  have aux : ∀ (L : List (Int × BA)) (i k : Int) (x : AnB), ansF L i k = some x → ∃ y ∈ L, y.2.val = x.val := fun L => by
    induction L with
    | nil => intro i k x h; cases h
    | cons y L ih =>
      intro i k x h
      simp only [ansF] at h
      split at h
      · cases h; exact ⟨y, by simp, rfl⟩
      · obtain ⟨z, hz, e⟩ := ih (i + 1) k x h; exact ⟨z, List.mem_cons_of_mem _ hz, e⟩
  rcases h with ⟨_, rfl⟩ | ⟨k, x, hx, _, rfl, _⟩
  · exact h0
  · obtain ⟨y, hy, e⟩ := aux L 0 k x hx
    rw [← e]; exact hL y hy
theorem MapA.new (mp : Nat) {R h : PH} (H : (HP.one mp (.map #[] 0)).p R h) : (MapA mp []).p R h :=
  ⟨[], 0, rfl, MapI.nil 0, HP.sep_mono (HP.sep_tt H) (fun _ h => h) fun _ _ _ => trivial⟩
theorem bPromised_ok (b : Nat) (g : BSt) (f r w e : Int) (a : Option Addr) (c : Nat) (l : List UInt8) (hl : l.length ≤ 140737488355328) (hL : ∀ x ∈ g.ans, x.2.val.length ≤ 140737488355328) (hlen : g.ans.length ≤ 100000) :
    Tri Try.prog 28 #[.pointer (some ⟨b, 0, none⟩), .int .i64 f, .agg #[.int .i64 r, .int .i64 w], .slice a l.length c, .int .i64 e] (HP.sep (BRep b g) (RoB a l.length l)) (fun v => HP.ex fun g' => HP.and (v = .tuple #[] ∧ PromB g f r w l e g') (BRep b g')) := by
  refine BRep.tri fun va vc mp hB => ?_
  refine tri_of_tree (ρ := [.n b, .i g.acc, .i g.rnd, .i g.who, .a va, .n g.val.length, .n vc, .p (RoB va g.val.length g.val), .i g.phase, .n mp, .p (MapA mp g.ans), .i g.agreed, .i f, .i r, .i w, .a a, .n l.length, .n c, .p (RoB a l.length l), .i e]) mixed Try.func28 tree_bPromised ?_
  unfold t_bPromised
  simp only [T.den, E.prop, E.den, RX.look, F1.app, F2.app, Uni.int_i, Uni.nat_n, Uni.bool_c, Uni.str_s, Uni.adr_a, Uni.val_v, Uni.hp_p, hden, cden, V.den, W.den, A.den, BR.den, SA.den, FV.den, capV, exs, exP, allP, Cur.app, List.map_cons, List.map_nil, List.cons_append, List.nil_append, List.drop_succ_cons, List.drop_zero, List.length_cons, List.length_nil, Nat.zero_add, Nat.reduceAdd, Int.neg_neg, Bool.not_not, List.append_nil, Nat.add_zero, List.getElem?_cons_zero, List.getElem?_cons_succ, Decidable.not_not, semW_eq, semW_load, semW_store, semW_storeC, semW_append, semW_lookup, semW_lookupC, semW_update, semW_updateC, semW_updateK, semW_delete, semW_range, semW_next, semW_entry, semW_nil, ne_eq, Nat.reduceEqDiff, not_false_eq_true]
  intro _
  have same : ¬ (g.phase = 1 ∧ askedB g f = true) → HP.ent (HP.sep (POne b g va vc mp) (HP.sep (RoB va g.val.length g.val) (HP.sep (MapA mp g.ans) (RoB a l.length l)))) (HP.ex fun g' => HP.and (True ∧ PromB g f r w l e g') (BRep b g')) := fun h => .of fun R y H => ⟨g, ⟨trivial, by unfold PromB; rw [if_neg h]⟩, va, vc, mp, hB, HP.sep_mono H (fun _ h => h) fun y hy => HP.sep_mono hy (fun _ h => h) fun z hz => HP.sep_left hz⟩
  refine ⟨fun h1 => same (fun h => h1 h.1), fun h1 => ?_⟩
  refine (bAskedA_ok b g va vc mp (RoB va g.val.length g.val) f).weak (fun _ _ h => h) ?_
  rintro v R h ⟨rfl, H⟩
  refine ⟨_, rfl, ⟨fun h2 => same (fun h => h2 h.2), fun h2 _ => ⟨fun h3 => ?_, fun h3 => ?_⟩⟩, H⟩
  · clear H
    refine (cloneR_ok (RoB a l.length l) a l.length c l (RdL.ro _ _ _ _) rfl hl).weak (fun _ _ h => h) ?_
    rintro v R h ⟨a2, c2, rfl, H⟩
    refine ⟨a2, _, c2, RoB a2 l.length l, rfl, ?_, H⟩
    clear H same
    subst h3
    have hx : promA r w l 0 = ⟨true, r, w, l⟩ := if_pos rfl
    have hP : ∀ g', (if (takeB g f ⟨true, r, w, l⟩).2 = true then ∃ val, ChoseB (ansF (takeB g f ⟨true, r, w, l⟩).1.ans 0) g.val val ∧ g' = { (takeB g f ⟨true, r, w, l⟩).1 with val := val, phase := 2, ans := [], agreed := 0 } else g' = (takeB g f ⟨true, r, w, l⟩).1) → PromB g f r w l 0 g' := fun g' h => by unfold PromB; rw [if_pos ⟨h1, h2⟩, hx]; exact h
    have hT := takeB_ok f ⟨true, r, w, l⟩ hB
    have hv := takeB_val g f ⟨true, r, w, l⟩
    refine (bTake_ok b g va vc mp (RoB va g.val.length g.val) f ⟨true, r, w, l⟩ 0 a2 c2 hl (asked_has h2) hlen hB).weak (fun _ _ h => h) ?_
    have hans : ∀ x ∈ (takeB g f ⟨true, r, w, l⟩).1.ans, x.2.val.length ≤ 140737488355328 := fun x hx => by
      have : (takeB g f ⟨true, r, w, l⟩).1.ans = g.ans ++ [(f, ⟨true, r, w, l⟩)] := by unfold takeB; split <;> (try split) <;> rfl
      rw [this] at hx
      rcases List.mem_append.1 hx with hx | hx
      · exact hL x hx
      · obtain rfl := List.mem_singleton.1 hx; exact hl
    revert hT hv hP hans
    generalize takeB g f ⟨true, r, w, l⟩ = T
    intro hP hT hv hans
    rintro v R h ⟨rfl, H⟩
    rw [← hv] at H
    refine ⟨T.2, T.1.acc, T.1.rnd, T.1.who, va, T.1.val.length, vc, RoB va T.1.val.length T.1.val, T.1.phase, mp, MapA mp T.1.ans, T.1.agreed, RoB a2 l.length l, rfl, ⟨fun h => ?_, fun h => .of fun R y H => ⟨T.1, ⟨trivial, hP _ (by rw [if_neg h])⟩, va, vc, mp, hT, HP.sep_mono H (fun _ h => h) fun y hy => HP.sep_mono hy (fun _ h => h) fun z hz => HP.sep_left hz⟩⟩, H⟩
    clear H
    refine (bChoose_ok b T.1 va vc mp hT).weak (fun _ _ h => h) ?_
    rintro v R y ⟨val, va', vc', ⟨rfl, hch⟩, H⟩
    refine ⟨T.1.acc, T.1.rnd, T.1.who, va', val.length, vc', RoB va' val.length val, T.1.phase, mp, MapA mp T.1.ans, T.1.agreed, rfl, fun nb => .of fun R y H => ?_, H⟩
    rw [hv] at hch
    have h0 : g.val.length ≤ 140737488355328 := hB.2.2.2.2
    have hval := hch.le h0 hans
    refine ⟨{ T.1 with val := val, phase := 2, ans := [], agreed := 0 }, ⟨trivial, hP _ (by rw [if_pos h]; exact ⟨val, hch, rfl⟩)⟩, va', vc', nb, ⟨hT.1, hT.2.1, Int.le_refl _, Int.le_refl _, hval⟩, HP.sep_mono H (fun _ h => h) fun y hy => HP.sep_mono hy (fun _ h => h) fun z hz => ?_⟩
    exact MapA.new nb (HP.sep_left hz)
  · clear H same
    have hx : promA r w l e = ⟨decide (e = 0), 0, 0, []⟩ := by unfold promA; rw [if_neg h3, decide_eq_false h3]
    have hno : (takeB g f ⟨decide (e = 0), 0, 0, []⟩).2 = false := by
      unfold takeB
      rw [if_neg (show ¬ decide (e = 0) = true by rw [decide_eq_false h3]; decide)]
      split <;> rfl
    have hP : ∀ g', g' = (takeB g f ⟨decide (e = 0), 0, 0, []⟩).1 → PromB g f r w l e g' := fun g' h => by unfold PromB; rw [if_pos ⟨h1, h2⟩, hx, if_neg (by rw [hno]; decide)]; exact h
    have hT := takeB_ok f ⟨decide (e = 0), 0, 0, []⟩ hB
    have hv := takeB_val g f ⟨decide (e = 0), 0, 0, []⟩
    refine (bTake_ok b g va vc mp (RoB va g.val.length g.val) f ⟨decide (e = 0), 0, 0, []⟩ 0 none 0 (by simp) (asked_has h2) hlen hB).weak (fun R h H => HP.sep_mono H (fun _ h => h) fun y hy => HP.sep_mono hy (fun _ h => h) fun z hz => RoC.joinR (RoB0 none : (RoB none 0 []).p R h) hz) ?_
    clear hx
    revert hno hP hT hv
    generalize takeB g f ⟨decide (e = 0), 0, 0, []⟩ = T
    intro hno hP hT hv
    rintro v R h ⟨rfl, H⟩
    rw [← hv] at H
    exact ⟨T.2, T.1.acc, T.1.rnd, T.1.who, va, T.1.val.length, vc, RoB va T.1.val.length T.1.val, T.1.phase, mp, MapA mp T.1.ans, T.1.agreed, rfl, ⟨fun h => absurd h (by rw [hno]; decide), fun h => .of fun R y H => ⟨T.1, ⟨trivial, hP _ rfl⟩, va, vc, mp, hT, HP.sep_mono H (fun _ h => h) fun y hy => HP.sep_mono hy (fun _ h => h) fun z hz => HP.sep_left hz⟩⟩, HP.sep_mono H (fun _ h => h) fun y hy => HP.sep_mono hy (fun _ h => h) fun z hz => HP.sep_left hz⟩
def startB (acc rnd who : Int) (l : List UInt8) : BSt := ⟨max acc 1, rnd, who, l, 1, [], 0⟩
theorem bStart_ok (acc rnd who : Int) (ha : acc ≤ 10000) (S : HP) (a : Option Addr) (n c : Nat) (l : List UInt8) (hr : RdL S a n (l.map u8v)) (hl : l.length = n) (hb : n ≤ 140737488355328) :
    Tri Try.prog 24 #[.int .i64 acc, .agg #[.int .i64 rnd, .int .i64 who], .slice a n c] S (fun v => HP.ex fun b => HP.and (v = .pointer (some ⟨b, 0, none⟩)) (HP.sep S (BRep b (startB acc rnd who l)))) := by
  refine tri_of_tree (ρ := [.i acc, .i rnd, .i who, .a a, .n n, .n c, .p S]) mixed Try.func24 tree_bStart ?_
  unfold t_bStart
  simp only [T.den, E.prop, E.den, RX.look, F1.app, F2.app, Uni.int_i, Uni.nat_n, Uni.bool_c, Uni.str_s, Uni.adr_a, Uni.val_v, Uni.hp_p, hden, cden, V.den, W.den, A.den, BR.den, SA.den, FV.den, capV, exs, exP, allP, Cur.app, List.map_cons, List.map_nil, List.cons_append, List.nil_append, List.drop_succ_cons, List.drop_zero, List.length_cons, List.length_nil, Nat.zero_add, Nat.reduceAdd, Int.neg_neg, Bool.not_not, List.append_nil, Nat.add_zero, List.getElem?_cons_zero, List.getElem?_cons_succ, Decidable.not_not, semW_eq, semW_load, semW_store, semW_storeC, semW_append, semW_lookup, semW_lookupC, semW_update, semW_updateC, semW_updateK, semW_delete, semW_range, semW_next, semW_entry, semW_nil, ne_eq, Nat.reduceEqDiff, not_false_eq_true]
  have fin : ∀ (a' : Option Addr) (c' mp b : Nat), HP.ent (HP.sep S (HP.sep (HP.one b (.cells #[.int .i64 (max acc 1), .int .i64 rnd, .int .i64 who, .slice a' n c', .int .i64 1, .map (some mp), .int .i64 0] 130 (0, 0))) (HP.sep (RoB a' n l) (HP.one mp (.map #[] 0)))))
      (HP.ex fun b' => HP.and (Value.pointer (some ⟨b, 0, none⟩) = Value.pointer (some ⟨b', 0, none⟩)) (HP.sep S (BRep b' (startB acc rnd who l)))) := fun a' c' mp b => .of fun R y H => ⟨b, rfl, HP.sep_mono H (fun _ h => h) fun z hz => ⟨a', c', mp, ⟨by show 1 ≤ max acc 1; omega, by show max acc 1 ≤ 10000; omega, Int.le_refl _, Int.le_refl _, by show l.length ≤ _; omega⟩, by
    subst hl
    exact HP.sep_mono hz (fun _ h => h) fun u hu => HP.sep_mono hu (fun _ h => h) fun q hq => MapA.new mp hq⟩⟩
  intro _
  refine ⟨?_, fun mp => ?_⟩
  · refine (cloneR_ok S a n c l hr hl hb).weak (fun _ _ h => h) ?_
    rintro v R h ⟨a', c', rfl, H⟩
    exact ⟨a', n, c', RoB a' n l, rfl, fun mp b => fin a' c' mp b, H⟩
  · refine (cloneR_ok S a n c l hr hl hb).weak (fun _ _ h => h) ?_
    rintro v R h ⟨a', c', rfl, H⟩
    exact ⟨a', n, c', RoB a' n l, rfl, fun b => fin a' c' mp b, H⟩
end Go.Proofs.Ytmibmjehjagmbaa

/- Paxos, with no program in sight: what is chosen is one. No condition. -/
namespace Go.Proofs.Ytmibmjehjagmbaa
open Go.Proofs.Ytmibmjehjagmbaa RX

theorem nodup_lt_len : ∀ (n : Nat) (l : List Nat), l.Nodup → (∀ a ∈ l, a < n) → l.length ≤ n
  | 0, l, _, h => by
    cases l with
    | nil => simp
    | cons a l => exact absurd (h a (by simp)) (by omega)
  | n + 1, l, hd, h => by
    have h1 : (l.erase n).Nodup := hd.erase n
    have h2 := nodup_lt_len n (l.erase n) h1 fun a ha => by
      have h3 := h a (List.mem_of_mem_erase ha)
      have h4 : a ≠ n := fun e => by subst e; exact (List.Nodup.mem_erase_iff hd).1 ha |>.1 rfl
      omega
    have := List.length_erase (a := n) (l := l)
    split at this <;> omega
/-- Two majorities have somebody in common. -/
theorem common {n : Nat} {P Q : List Nat} (hP : P.Nodup) (hQ : Q.Nodup) (lP : ∀ a ∈ P, a < n) (lQ : ∀ a ∈ Q, a < n) (mP : n < 2 * P.length) (mQ : n < 2 * Q.length) : ∃ a, a ∈ P ∧ a ∈ Q := by
  by_cases h : ∃ a, a ∈ P ∧ a ∈ Q
  · exact h
  · exfalso
    have hd : (P ++ Q).Nodup := List.nodup_append.2 ⟨hP, hQ, fun a ha b hb e => h ⟨a, ha, e ▸ hb⟩⟩
    have := nodup_lt_len n (P ++ Q) hd fun a ha => (List.mem_append.1 ha).elim (lP a) (lQ a)
    rw [List.length_append] at this
    omega
abbrev Vt := List (Nat × Int × List UInt8)
def bnN (r w : Int) : Int := r * 1000000 + w
def bnP (u : InstS) : Int := bnN u.pr u.pw
def bnA (u : InstS) : Int := bnN u.ar u.aw
def bnG (g : BSt) : Int := bnN g.rnd g.who
/-- No other value is, or comes to be, chosen below a ballot. -/
def SafeB (n : Nat) (us : List InstS) (V : Vt) (b : Int) (v : List UInt8) : Prop :=
  ∀ c, 0 < c → c < b → ∃ Q : List Nat, Q.Nodup ∧ (∀ a ∈ Q, a < n) ∧ n < 2 * Q.length ∧ ∀ a ∈ Q, (∀ u, us[a]? = some u → c < bnP u) ∧ ∀ w, (a, c, w) ∈ V → w = v
/-- Most have voted for a value at a ballot. -/
def ChosB (n : Nat) (V : Vt) (b : Int) (v : List UInt8) : Prop :=
  ∃ Q : List Nat, Q.Nodup ∧ (∀ a ∈ Q, a < n) ∧ n < 2 * Q.length ∧ ∀ a ∈ Q, (a, b, v) ∈ V
def AnP (us : List InstS) (V : Vt) (b : Int) (x : Int × BA) : Prop :=
  0 ≤ x.2.r ∧ 0 ≤ x.2.w ∧ x.2.w < 1000000 ∧ (∀ u, us[x.1.toNat]? = some u → b ≤ bnP u) ∧ (∀ c w, (x.1.toNat, c, w) ∈ V → c < b → c ≤ bnN x.2.r x.2.w) ∧
  (¬ (x.2.r = 0 ∧ x.2.w = 0) → (x.1.toNat, bnN x.2.r x.2.w, x.2.val) ∈ V ∧ bnN x.2.r x.2.w < b)
structure GOk (n : Nat) (us : List InstS) (V : Vt) (g : BSt) : Prop where
  acc : g.acc = n
  rnd : 0 ≤ g.rnd ∧ g.rnd ≤ 1000000
  who : 0 ≤ g.who ∧ g.who < 1000000
  pos : 0 < bnG g
  ph : g.phase = 1 ∨ g.phase = 2 ∨ g.phase = 3 ∨ g.phase = 4
  nd : (g.ans.map (·.1)).Nodup
  rg : ∀ x ∈ g.ans, 0 ≤ x.1 ∧ x.1 < n
  ag : g.agreed = ((g.ans.filter (·.2.ok)).length : Nat)
  p1 : g.phase = 1 → ∀ x ∈ g.ans, x.2.ok = true → AnP us V (bnG g) x
  p2 : g.phase = 2 → SafeB n us V (bnG g) g.val ∧ ∀ x ∈ g.ans, x.2.ok = true → (x.1.toNat, bnG g, g.val) ∈ V
  p3 : g.phase = 3 → ChosB n V (bnG g) g.val
structure UOk (us : List InstS) (V : Vt) (a : Nat) (u : InstS) : Prop where
  pr : 0 ≤ u.pr
  pw : 0 ≤ u.pw ∧ u.pw < 1000000
  ar : 0 ≤ u.ar
  aw : 0 ≤ u.aw ∧ u.aw < 1000000
  le : bnA u ≤ bnP u
  top : ∀ c v, (a, c, v) ∈ V → c ≤ bnA u
  last : bnA u ≠ 0 → (a, bnA u, u.val) ∈ V
structure PX (n : Nat) (us : List InstS) (gs : List BSt) (V : Vt) : Prop where
  len : us.length = n
  ub : ∀ a u, us[a]? = some u → UOk us V a u
  vt : ∀ a b v, (a, b, v) ∈ V → 0 < b ∧ a < n ∧ SafeB n us V b v ∧ ∃ (i : Nat) (g : BSt), gs[i]? = some g ∧ bnG g = b ∧ g.phase ≠ 1 ∧ g.val = v
  gu : ∀ (i j : Nat) (g g' : BSt), gs[i]? = some g → gs[j]? = some g' → bnG g = bnG g' → i = j
  gg : ∀ (i : Nat) (g : BSt), gs[i]? = some g → GOk n us V g
theorem PX.one {n : Nat} {us : List InstS} {gs : List BSt} {V : Vt} (h : PX n us gs V) {a a' : Nat} {b : Int} {v v' : List UInt8} (h1 : (a, b, v) ∈ V) (h2 : (a', b, v') ∈ V) : v = v' := by
  obtain ⟨_, _, _, i, g, hg, hb, _, rfl⟩ := h.vt _ _ _ h1
  obtain ⟨_, _, _, j, g', hg', hb', _, rfl⟩ := h.vt _ _ _ h2
  have := h.gu i j g g' hg hg' (hb.trans hb'.symm)
  subst this
  rw [hg] at hg'; cases hg'; rfl
/-- Whatever is chosen is one. -/
theorem PX.agree {n : Nat} {us : List InstS} {gs : List BSt} {V : Vt} (h : PX n us gs V) {b b' : Int} {v v' : List UInt8} (h1 : ChosB n V b v) (h2 : ChosB n V b' v') : v = v' := by
  have key : ∀ (b b' : Int) (v v' : List UInt8), ChosB n V b v → ChosB n V b' v' → b < b' → v = v' := by
    rintro b b' v v' ⟨Q, hQ, lQ, mQ, vQ⟩ ⟨P, hP, lP, mP, vP⟩ hlt
    obtain ⟨a, ha⟩ : ∃ a, a ∈ P := by cases P with
      | nil => simp at mP
      | cons a P => exact ⟨a, by simp⟩
    obtain ⟨c, hc⟩ : ∃ a, a ∈ Q := by cases Q with
      | nil => simp at mQ
      | cons a Q => exact ⟨a, by simp⟩
    have hb := (h.vt _ _ _ (vQ c hc)).1
    obtain ⟨S, hS, lS, mS, vS⟩ := (h.vt _ _ _ (vP a ha)).2.2.1 b hb hlt
    obtain ⟨x, x1, x2⟩ := common hS hQ lS lQ mS mQ
    exact (vS x x1).2 v (vQ x x2)
  rcases Int.lt_trichotomy b b' with hlt | rfl | hlt
  · exact key _ _ _ _ h1 h2 hlt
  · obtain ⟨Q, hQ, lQ, mQ, vQ⟩ := h1
    obtain ⟨P, hP, lP, mP, vP⟩ := h2
    obtain ⟨a, a1, a2⟩ := common hQ hP lQ lP mQ mP
    exact h.one (vQ a a1) (vP a a2)
  · exact (key _ _ _ _ h2 h1 hlt).symm
theorem SafeB.mono {n : Nat} {us us' : List InstS} {V V' : Vt} {b : Int} {v : List UInt8} (h : SafeB n us V b v)
    (hp : ∀ (a : Nat) (u' : InstS), us'[a]? = some u' → ∃ u, us[a]? = some u ∧ bnP u ≤ bnP u') (hl : us.length = n) (hv : ∀ (a : Nat) (c : Int) (w : List UInt8) (u : InstS), (a, c, w) ∈ V' → us[a]? = some u → c < bnP u → (a, c, w) ∈ V) : SafeB n us' V' b v := fun c h0 hc => by
  obtain ⟨Q, hQ, lQ, mQ, vQ⟩ := h c h0 hc
  refine ⟨Q, hQ, lQ, mQ, fun a ha => ⟨fun u' hu' => ?_, fun w hw => ?_⟩⟩
  · obtain ⟨u, hu, hle⟩ := hp a u' hu'
    have := (vQ a ha).1 u hu
    omega
  · have hlt : a < us.length := by rw [hl]; exact lQ a ha
    have hu : us[a]? = some us[a] := List.getElem?_eq_getElem hlt
    exact (vQ a ha).2 w (hv a c w _ hw hu ((vQ a ha).1 _ hu))
theorem AnP.mono {n : Nat} {us us' : List InstS} {V V' : Vt} {b : Int} {x : Int × BA} (h : AnP us V b x) (hx : 0 ≤ x.1 ∧ x.1 < n) (hl : us.length = n)
    (hp : ∀ (a : Nat) (u' : InstS), us'[a]? = some u' → ∃ u, us[a]? = some u ∧ bnP u ≤ bnP u') (hs : ∀ y ∈ V, y ∈ V') (hv : ∀ (a : Nat) (c : Int) (w : List UInt8) (u : InstS), (a, c, w) ∈ V' → us[a]? = some u → c < bnP u → (a, c, w) ∈ V) : AnP us' V' b x := by
  obtain ⟨h1, h2, h3, h4, h5, h6⟩ := h
  have hlt : x.1.toNat < us.length := by omega
  have hu : us[x.1.toNat]? = some us[x.1.toNat] := List.getElem?_eq_getElem hlt
  refine ⟨h1, h2, h3, fun u' hu' => ?_, fun c w hw hc => h5 c w (hv _ _ _ _ hw hu ?_) hc, fun hn => ⟨hs _ (h6 hn).1, (h6 hn).2⟩⟩
  · obtain ⟨u, hu, hle⟩ := hp _ u' hu'
    have := h4 u hu
    omega
  · have := h4 _ hu
    omega
theorem GOk.mono {n : Nat} {us us' : List InstS} {V V' : Vt} {g : BSt} (h : GOk n us V g) (hl : us.length = n)
    (hp : ∀ (a : Nat) (u' : InstS), us'[a]? = some u' → ∃ u, us[a]? = some u ∧ bnP u ≤ bnP u') (hs : ∀ y ∈ V, y ∈ V') (hv : ∀ (a : Nat) (c : Int) (w : List UInt8) (u : InstS), (a, c, w) ∈ V' → us[a]? = some u → c < bnP u → (a, c, w) ∈ V) : GOk n us' V' g :=
  { h with
    p1 := fun e x hx ho => (h.p1 e x hx ho).mono (h.rg x hx) hl hp hs hv
    p2 := fun e => ⟨(h.p2 e).1.mono hp hl hv, fun x hx ho => hs _ ((h.p2 e).2 x hx ho)⟩
    p3 := fun e => by obtain ⟨Q, a, b, c, d⟩ := h.p3 e; exact ⟨Q, a, b, c, fun y hy => hs _ (d y hy)⟩ }
/-- A unit has promised. -/
theorem PX.promise {n : Nat} {us : List InstS} {gs : List BSt} {V : Vt} (h : PX n us gs V) {a : Nat} {u : InstS} (hu : us[a]? = some u) {r w : Int} (hr : 0 ≤ r) (hw : 0 ≤ w ∧ w < 1000000) (hle : bnP u ≤ bnN r w) :
    PX n (us.set a { u with pr := r, pw := w }) gs V := by
  have hlt : a < us.length := (List.getElem?_eq_some_iff.1 hu).1
  have hp : ∀ (c : Nat) (u' : InstS), (us.set a { u with pr := r, pw := w })[c]? = some u' → ∃ u, us[c]? = some u ∧ bnP u ≤ bnP u' := fun c u' hc => by
    rw [List.getElem?_set] at hc
    split at hc
    · rename_i e; subst e
      cases hc
      exact ⟨u, hu, hle⟩
    · exact ⟨u', hc, Int.le_refl _⟩
  have hv : ∀ (a : Nat) (c : Int) (w : List UInt8) (u : InstS), (a, c, w) ∈ V → us[a]? = some u → c < bnP u → (a, c, w) ∈ V := fun _ _ _ _ h _ _ => h
  have hU := h.ub a u hu
  refine ⟨by rw [List.length_set]; exact h.len, fun c u' hc => ?_, fun c b v hc => ?_, h.gu, fun i g hg => (h.gg i g hg).mono h.len hp (fun _ h => h) hv⟩
  · rw [List.getElem?_set] at hc
    split at hc
    · rename_i e; subst e
      cases hc
      exact ⟨hr, hw, hU.ar, hU.aw, Int.le_trans hU.le hle, hU.top, hU.last⟩
    · have := h.ub c u' hc
      exact ⟨this.pr, this.pw, this.ar, this.aw, this.le, this.top, this.last⟩
  · obtain ⟨h1, h2, h3, h4⟩ := h.vt c b v hc
    exact ⟨h1, h2, h3.mono hp h.len hv, h4⟩
/-- A unit has voted for what a proposer asked it. -/
theorem PX.vote {n : Nat} {us : List InstS} {gs : List BSt} {V : Vt} (h : PX n us gs V) {a i : Nat} {u : InstS} {g : BSt} (hu : us[a]? = some u) (hg : gs[i]? = some g) (h2 : g.phase = 2) (hle : bnP u ≤ bnG g) :
    PX n (us.set a ⟨g.rnd, g.who, g.rnd, g.who, g.val⟩) gs ((a, bnG g, g.val) :: V) := by
  have hlt : a < us.length := (List.getElem?_eq_some_iff.1 hu).1
  have hG := h.gg i g hg
  have hp : ∀ (c : Nat) (u' : InstS), (us.set a ⟨g.rnd, g.who, g.rnd, g.who, g.val⟩)[c]? = some u' → ∃ u, us[c]? = some u ∧ bnP u ≤ bnP u' := fun c u' hc => by
    rw [List.getElem?_set] at hc
    split at hc
    · rename_i e; subst e
      cases hc
      exact ⟨u, hu, hle⟩
    · exact ⟨u', hc, Int.le_refl _⟩
  have hv : ∀ (c : Nat) (b : Int) (w : List UInt8) (x : InstS), (c, b, w) ∈ (a, bnG g, g.val) :: V → us[c]? = some x → b < bnP x → (c, b, w) ∈ V := fun c b w x hc hx hb => by
    rcases List.mem_cons.1 hc with e | e
    · injection e with e1 e2
      injection e2 with e2 e3
      subst e1; subst e2
      rw [hu] at hx; cases hx
      omega
    · exact e
  have hs : ∀ y ∈ V, y ∈ (a, bnG g, g.val) :: V := fun y hy => List.mem_cons_of_mem _ hy
  refine ⟨by rw [List.length_set]; exact h.len, fun c u' hc => ?_, fun c b v hc => ?_, h.gu, fun i g hg => (h.gg i g hg).mono h.len hp hs hv⟩
  · rw [List.getElem?_set] at hc
    split at hc
    · rename_i e; subst e
      cases hc
      have hU := h.ub a u hu
      refine ⟨hG.rnd.1, hG.who, hG.rnd.1, hG.who, Int.le_refl _, fun c v hc => ?_, fun _ => List.mem_cons_self ..⟩
      rcases List.mem_cons.1 hc with e | e
      · injection e with e1 e2
        injection e2 with e2 e3
        subst e2
        exact Int.le_refl _
      · exact Int.le_trans (hU.top c v e) (Int.le_trans hU.le hle)
    · rename_i hne
      have := h.ub c u' hc
      refine ⟨this.pr, this.pw, this.ar, this.aw, this.le, fun d v hd => ?_, fun hn => hs _ (this.last hn)⟩
      rcases List.mem_cons.1 hd with e | e
      · injection e with e1 e2
        exact absurd e1.symm hne
      · exact this.top d v e
  · rcases List.mem_cons.1 hc with e | e
    · injection e with e1 e2
      injection e2 with e2 e3
      subst e1; subst e2; subst e3
      exact ⟨hG.pos, by rw [← h.len]; exact hlt, (hG.p2 h2).1.mono hp h.len hv, i, g, hg, rfl, by omega, rfl⟩
    · obtain ⟨h1, h2, h3, h4⟩ := h.vt c b v e
      exact ⟨h1, h2, h3.mono hp h.len hv, h4⟩
/-- A proposer has turned. -/
theorem PX.turn {n : Nat} {us : List InstS} {gs : List BSt} {V : Vt} (h : PX n us gs V) {i : Nat} {g g' : BSt} (hg : gs[i]? = some g) (hb : bnG g' = bnG g) (hph : g.phase ≠ 1 → g'.phase ≠ 1 ∧ g'.val = g.val) (hG : GOk n us V g') : PX n us (gs.set i g') V := by
  have hlt : i < gs.length := (List.getElem?_eq_some_iff.1 hg).1
  have look : ∀ (j : Nat) (x : BSt), (gs.set i g')[j]? = some x → ∃ y, gs[j]? = some y ∧ bnG y = bnG x ∧ ((j = i ∧ x = g') ∨ x = y) := fun j x hx => by
    rw [List.getElem?_set] at hx
    split at hx
    · rename_i e; subst e
      cases hx
      exact ⟨g, hg, hb.symm, .inl ⟨rfl, rfl⟩⟩
    · exact ⟨x, hx, rfl, .inr rfl⟩
  refine ⟨h.len, h.ub, fun a b v hv => ?_, fun j k x y hx hy e => ?_, fun j x hx => ?_⟩
  · obtain ⟨h1, h2, h3, j, x, hx, e1, e2, e3⟩ := h.vt a b v hv
    refine ⟨h1, h2, h3, ?_⟩
    by_cases hj : j = i
    · subst hj
      rw [hg] at hx; cases hx
      exact ⟨j, g', by simp [hlt], hb.trans e1, (hph e2).1, (hph e2).2.trans e3⟩
    · exact ⟨j, x, by rw [List.getElem?_set, if_neg (fun e => hj e.symm)]; exact hx, e1, e2, e3⟩
  · obtain ⟨x', hx', ex, _⟩ := look j x hx
    obtain ⟨y', hy', ey, _⟩ := look k y hy
    exact h.gu j k x' y' hx' hy' (ex.trans (e.trans ey.symm))
  · obtain ⟨y, hy, _, ⟨_, rfl⟩ | rfl⟩ := look j x hx
    · exact hG
    · exact h.gg j x hy
/-- A proposer begins. -/
theorem PX.begin {n : Nat} {us : List InstS} {gs : List BSt} {V : Vt} (h : PX n us gs V) (hn : 1 ≤ n) {r w : Int} (l : List UInt8) (hr : 0 ≤ r ∧ r ≤ 1000000) (hw : 0 ≤ w ∧ w < 1000000) (h0 : 0 < bnN r w) (hnew : ∀ (i : Nat) (g : BSt), gs[i]? = some g → bnG g ≠ bnN r w) :
    PX n us (gs ++ [startB n r w l]) V := by
  have hbn : bnG (startB n r w l) = bnN r w := rfl
  have look : ∀ (j : Nat) (x : BSt), (gs ++ [startB n r w l])[j]? = some x → gs[j]? = some x ∨ (j = gs.length ∧ x = startB n r w l) := fun j x hx => by
    by_cases hj : j < gs.length
    · rw [List.getElem?_append_left hj] at hx; exact .inl hx
    · rw [List.getElem?_append_right (by omega)] at hx
      have : j - gs.length = 0 := by
        have := (List.getElem?_eq_some_iff.1 hx).1
        simp at this; omega
      rw [this] at hx
      simp at hx
      exact .inr ⟨by omega, hx.symm⟩
  refine ⟨h.len, h.ub, fun a b v hv => ?_, fun j k x y hx hy e => ?_, fun j x hx => ?_⟩
  · obtain ⟨h1, h2, h3, j, x, hx, e⟩ := h.vt a b v hv
    exact ⟨h1, h2, h3, j, x, by rw [List.getElem?_append_left (List.getElem?_eq_some_iff.1 hx).1]; exact hx, e⟩
  · rcases look j x hx with hx | ⟨ej, rfl⟩ <;> rcases look k y hy with hy | ⟨ek, rfl⟩
    · exact h.gu j k x y hx hy e
    · exact absurd (e.trans hbn) (hnew j x hx)
    · exact absurd (e.symm.trans hbn) (hnew k y hy)
    · omega
  · rcases look j x hx with hx | ⟨ej, rfl⟩
    · exact h.gg j x hx
    · exact ⟨by show max (n : Int) 1 = n; omega, hr, hw, by rw [hbn]; exact h0, .inl rfl, List.nodup_nil, (fun x hx => by cases hx), rfl, (fun _ x hx => by cases hx), (fun e => by cases e), (fun e => by cases e)⟩
theorem PX.new {n : Nat} {us : List InstS} (hl : us.length = n) (hz : ∀ u ∈ us, u = ⟨0, 0, 0, 0, []⟩) : PX n us [] [] :=
  ⟨hl, fun a u hu => by
    have := hz u (List.mem_of_getElem? hu)
    subst this
    exact ⟨Int.le_refl _, by decide, Int.le_refl _, by decide, Int.le_refl _, (fun c v h => by cases h), fun h => absurd rfl h⟩, (fun a b v h => by cases h), (fun i j g g' h => by simp at h), fun i g h => by simp at h⟩
theorem okKeys {n : Nat} {L : List (Int × BA)} (hd : (L.map (·.1)).Nodup) (hr : ∀ x ∈ L, 0 ≤ x.1 ∧ x.1 < n) :
    ((L.filter (·.2.ok)).map fun x => x.1.toNat).Nodup ∧ (∀ a ∈ (L.filter (·.2.ok)).map fun x => x.1.toNat, a < n ∧ ∃ x ∈ L, x.2.ok = true ∧ x.1.toNat = a) := by
  constructor
  · have h1 : ((L.filter (·.2.ok)).map (·.1)).Nodup := hd.sublist ((List.filter_sublist (l := L)).map _)
    have h2 : ∀ x ∈ (L.filter (·.2.ok)).map (·.1), 0 ≤ x := fun x hx => by
      obtain ⟨y, hy, rfl⟩ := List.mem_map.1 hx
      exact (hr y (List.mem_filter.1 hy).1).1
    have e : ((L.filter (·.2.ok)).map fun x => x.1.toNat) = ((L.filter (·.2.ok)).map (·.1)).map Int.toNat := by simp [List.map_map, Function.comp_def]
    rw [e]
    generalize (L.filter (·.2.ok)).map (·.1) = M at h1 h2
    clear e
    induction M with
    | nil => exact List.nodup_nil
    | cons x M ih =>
      rw [List.nodup_cons] at h1
      rw [List.map_cons, List.nodup_cons]
      refine ⟨fun hm => ?_, ih h1.2 fun y hy => h2 y (List.mem_cons_of_mem _ hy)⟩
      obtain ⟨y, hy, e⟩ := List.mem_map.1 hm
      have := h2 x (List.mem_cons_self ..)
      have := h2 y (List.mem_cons_of_mem _ hy)
      have : y = x := by omega
      exact h1.1 (this ▸ hy)
  · intro a ha
    obtain ⟨x, hx, rfl⟩ := List.mem_map.1 ha
    have := List.mem_filter.1 hx
    have h3 := hr x this.1
    exact ⟨by omega, x, this.1, this.2, rfl⟩
theorem mostB_iff {n : Nat} {k : Int} : mostB (n : Int) k = true ↔ (n : Int) < 2 * k := by
  unfold mostB
  rw [decide_eq_true_iff, Int.tdiv_eq_ediv_of_nonneg (by omega)]
  omega
/-- What take leaves in a phase. -/
structure Took (g : BSt) (f : Int) (x : BA) (g' : BSt) : Prop where
  acc : g'.acc = g.acc
  rnd : g'.rnd = g.rnd
  who : g'.who = g.who
  val : g'.val = g.val
  ans : g'.ans = g.ans ++ [(f, x)]
  ph : g'.phase = g.phase ∨ g'.phase = 4
  ag : g'.agreed = if x.ok = true then g.agreed + 1 else g.agreed
theorem takeB_took (g : BSt) (f : Int) (x : BA) : Took g f x (takeB g f x).1 ∧ ((takeB g f x).2 = true → x.ok = true ∧ mostB g.acc (g.agreed + 1) = true ∧ (takeB g f x).1.phase = g.phase) := by
  unfold takeB
  split
  · rename_i h; exact ⟨⟨rfl, rfl, rfl, rfl, rfl, .inl rfl, by rw [if_pos h]⟩, fun e => ⟨h, e, rfl⟩⟩
  · rename_i h
    split
    · exact ⟨⟨rfl, rfl, rfl, rfl, rfl, .inl rfl, by rw [if_neg h]⟩, fun e => by cases e⟩
    · exact ⟨⟨rfl, rfl, rfl, rfl, rfl, .inr rfl, by rw [if_neg h]⟩, fun e => by cases e⟩
theorem Took.ok {n : Nat} {us : List InstS} {V : Vt} {g g' : BSt} {f : Int} {x : BA} (t : Took g f x g') (h : GOk n us V g) (hf : hasB g.ans f = false) (hr : 0 ≤ f ∧ f < n)
    (h1 : g.phase = 1 → x.ok = true → AnP us V (bnG g) (f, x)) (h2 : g.phase = 2 → x.ok = true → (f.toNat, bnG g, g.val) ∈ V) (h3 : g.phase ≠ 3) : GOk n us V g' := by
  have hb : bnG g' = bnG g := by unfold bnG; rw [t.rnd, t.who]
  have hfm : f ∉ g.ans.map (·.1) := by unfold hasB at hf; simpa using hf
  refine ⟨t.acc.trans h.acc, t.rnd ▸ h.rnd, t.who ▸ h.who, hb ▸ h.pos, ?_, ?_, ?_, ?_, ?_, ?_, ?_⟩
  · rcases t.ph with e | e
    · rw [e]; exact h.ph
    · exact .inr (.inr (.inr e))
  · rw [t.ans, List.map_append, List.nodup_append]
    refine ⟨h.nd, by simp, fun a ha b hb e => ?_⟩
    simp at hb
    exact hfm (by rw [← hb, ← e]; exact ha)
  · intro y hy
    rw [t.ans] at hy
    rcases List.mem_append.1 hy with hy | hy
    · exact h.rg y hy
    · simp at hy; subst hy; exact hr
  · rw [t.ag, t.ans, List.filter_append, List.length_append, h.ag]
    split
    · rename_i e; simp [e]
    · rename_i e; simp [e]
  · intro e y hy ho
    have e1 : g.phase = 1 := by
      rcases t.ph with e2 | e2
      · exact e2.symm.trans e
      · rw [e] at e2; cases e2
    rw [hb]
    rw [t.ans] at hy
    rcases List.mem_append.1 hy with hy | hy
    · exact h.p1 e1 y hy ho
    · simp at hy; subst hy; exact h1 e1 ho
  · intro e
    have e1 : g.phase = 2 := by
      rcases t.ph with e2 | e2
      · exact e2.symm.trans e
      · rw [e] at e2; cases e2
    rw [hb, t.val]
    refine ⟨(h.p2 e1).1, fun y hy ho => ?_⟩
    rw [t.ans] at hy
    rcases List.mem_append.1 hy with hy | hy
    · exact (h.p2 e1).2 y hy ho
    · simp at hy; subst hy; exact h2 e1 ho
  · intro e
    rcases t.ph with e2 | e2
    · exact absurd (e2.symm.trans e) h3
    · rw [e] at e2; cases e2
theorem asked_hasB {g : BSt} {f : Int} (h : askedB g f = true) : hasB g.ans f = false ∧ 0 ≤ f ∧ f < g.acc := by
  unfold askedB at h
  rw [Bool.and_eq_true] at h
  have := of_decide_eq_true h.1
  exact ⟨by simpa using h.2, this.2⟩
/-- An answer to what was to be accepted has been taken. -/
theorem PX.accepted {n : Nat} {us : List InstS} {gs : List BSt} {V : Vt} (h : PX n us gs V) {i : Nat} {g : BSt} (hg : gs[i]? = some g) (a : Nat) (e : Int) (hv : g.phase = 2 → e = 0 → (a, bnG g, g.val) ∈ V) : PX n us (gs.set i (accB g a e)) V := by
  have hG := h.gg i g hg
  unfold accB
  split
  · rename_i hc
    obtain ⟨t, tm⟩ := takeB_took g a ⟨decide (e = 0), 0, 0, []⟩
    obtain ⟨q1, q2, q3⟩ := asked_hasB hc.2
    have hok : GOk n us V (takeB g a ⟨decide (e = 0), 0, 0, []⟩).1 := t.ok hG q1 ⟨q2, by rw [← hG.acc]; exact q3⟩ (fun e1 => by rw [hc.1] at e1; cases e1) (fun e2 ho => by
      rw [Int.toNat_natCast]; exact hv e2 (of_decide_eq_true ho)) (by rw [hc.1]; decide)
    have hb : bnG (takeB g a ⟨decide (e = 0), 0, 0, []⟩).1 = bnG g := by unfold bnG; rw [t.rnd, t.who]
    split
    · rename_i hm
      obtain ⟨m1, m2, m3⟩ := tm hm
      refine h.turn hg hb (fun _ => ⟨by show (3 : Int) ≠ 1; decide, t.val⟩) ?_
      obtain ⟨k1, k2⟩ := okKeys hok.nd hok.rg
      have p2 := (hok.p2 (m3.trans hc.1)).2
      have hmaj : n < 2 * (((takeB g a ⟨decide (e = 0), 0, 0, []⟩).1.ans.filter (·.2.ok)).map fun x => x.1.toNat).length := by
        rw [List.length_map]
        have a1 := hok.ag
        rw [t.ag, if_pos m1] at a1
        rw [hG.acc, mostB_iff] at m2
        omega
      exact ⟨hok.acc, hok.rnd, hok.who, hok.pos, .inr (.inr (.inl rfl)), hok.nd, hok.rg, hok.ag, (fun e => by cases e), (fun e => by cases e), fun _ => ⟨_, k1, fun y hy => (k2 y hy).1, hmaj, fun y hy => by
        obtain ⟨_, x, hx, ho, rfl⟩ := k2 y hy
        exact p2 x hx ho⟩⟩
    · exact h.turn hg hb (fun _ => ⟨by rcases t.ph with q | q <;> rw [q] <;> omega, t.val⟩) hok
  · rw [show gs.set i g = gs by
      refine List.ext_getElem? fun j => ?_
      rw [List.getElem?_set]
      split
      · rename_i e; subst e
        rw [if_pos (List.getElem?_eq_some_iff.1 hg).1]; exact hg.symm
      · rfl]
    exact h
theorem ansF_mem {L : List (Int × BA)} {k : Int} {x : AnB} : ∀ {i : Int}, ansF L i k = some x → ∃ y, (k, y) ∈ L ∧ y.ok = x.ok ∧ y.r = x.r ∧ y.w = x.w ∧ y.val = x.val := by
  induction L with
  | nil => intro i h; cases h
  | cons z L ih =>
    intro i h
    simp only [ansF] at h
    split at h
    · rename_i e; cases h; subst e; exact ⟨z.2, by simp, rfl, rfl, rfl, rfl⟩
    · obtain ⟨y, hy, e⟩ := ih h; exact ⟨y, List.mem_cons_of_mem _ hy, e⟩
theorem mem_ansF {L : List (Int × BA)} {k : Int} {y : BA} (hd : (L.map (·.1)).Nodup) (hm : (k, y) ∈ L) : ∀ (i : Int), ∃ x, ansF L i k = some x ∧ y.ok = x.ok ∧ y.r = x.r ∧ y.w = x.w ∧ y.val = x.val := by
  induction L with
  | nil => cases hm
  | cons z L ih =>
    intro i
    rw [List.map_cons, List.nodup_cons] at hd
    simp only [ansF]
    rcases List.mem_cons.1 hm with e | e
    · subst e; exact ⟨y.at_ i, by simp, rfl, rfl, rfl, rfl⟩
    · have : k ≠ z.1 := fun e2 => hd.1 (e2 ▸ List.mem_map.2 ⟨_, e, rfl⟩)
      rw [if_neg this]
      exact ih hd.2 e (i + 1)
/-- What most have told leaves no other value below the ballot. -/
theorem safe_chosen {n : Nat} {us : List InstS} {gs : List BSt} {V : Vt} (h : PX n us gs V) {g : BSt} (hG : GOk n us V g) (h1 : g.phase = 1) (hm : mostB g.acc g.agreed = true) {v0 v : List UInt8} (hc : ChoseB (ansF g.ans 0) v0 v) : SafeB n us V (bnG g) v := by
  obtain ⟨k1, k2⟩ := okKeys hG.nd hG.rg
  have hmaj : n < 2 * ((g.ans.filter (·.2.ok)).map fun x => x.1.toNat).length := by
    rw [List.length_map]
    rw [hG.acc, mostB_iff, hG.ag] at hm
    omega
  have p1 := hG.p1 h1
  intro c c0 cb
  rcases hc with ⟨hno, _⟩ | ⟨k, x, hk, hcx, rfl, hmax⟩
  · refine ⟨_, k1, fun y hy => (k2 y hy).1, hmaj, fun a ha => ?_⟩
    obtain ⟨_, y, hy, ho, rfl⟩ := k2 a ha
    obtain ⟨q1, q2, q3, q4, q5, q6⟩ := p1 y hy ho
    refine ⟨fun u hu => by have := q4 u hu; omega, fun w hw => ?_⟩
    obtain ⟨z, hz, e1, e2, e3, e4⟩ := mem_ansF hG.nd (show (y.1, y.2) ∈ g.ans from hy) 0
    have hnc := hno _ _ hz
    have hz0 : y.2.r = 0 ∧ y.2.w = 0 := by
      by_cases hq : y.2.r = 0 ∧ y.2.w = 0
      · exact hq
      · exact absurd ⟨e1 ▸ ho, e2 ▸ e3 ▸ hq⟩ hnc
    have := q5 c w hw cb
    rw [hz0.1, hz0.2] at this
    simp only [bnN] at this
    omega
  · obtain ⟨y, hy, e1, e2, e3, e4⟩ := ansF_mem hk
    obtain ⟨q1, q2, q3, q4, q5, q6⟩ := p1 (k, y) hy (e1.trans hcx.1)
    obtain ⟨q6, q7⟩ := q6 (by dsimp only; rw [e2, e3]; exact hcx.2)
    dsimp only at q1 q2 q3 q4 q5 q6 q7
    rcases Int.lt_trichotomy c (bnN y.r y.w) with hlt | heq | hgt
    · have := (h.vt _ _ _ q6).2.2.1 c c0 hlt
      rw [e4] at this
      exact this
    all_goals
      refine ⟨_, k1, fun y hy => (k2 y hy).1, hmaj, fun a ha => ?_⟩
      obtain ⟨_, z, hz, ho, rfl⟩ := k2 a ha
      obtain ⟨r1, r2, r3, r4, r5, r6⟩ := p1 z hz ho
      refine ⟨fun u hu => by have := r4 u hu; omega, fun w hw => ?_⟩
    · subst heq
      rw [← e4]
      exact h.one hw q6
    · exfalso
      have := r5 c w hw cb
      have hz0 : ¬ (z.2.r = 0 ∧ z.2.w = 0) := fun hq => by
        rw [hq.1, hq.2] at this
        simp only [bnN] at this
        omega
      obtain ⟨q, hq, f1, f2, f3, f4⟩ := mem_ansF hG.nd (show (z.1, z.2) ∈ g.ans from hz) 0
      refine hmax _ _ hq ⟨f1 ▸ ho, f2 ▸ f3 ▸ hz0⟩ ?_
      unfold lessA
      rw [← e2, ← e3, ← f2, ← f3]
      unfold bnN at this hgt
      omega
/-- An answer to a ballot has been taken. -/
theorem PX.promised {n : Nat} {us : List InstS} {gs : List BSt} {V : Vt} (h : PX n us gs V) {i : Nat} {g g' : BSt} (hg : gs[i]? = some g) (a : Nat) (r w : Int) (l : List UInt8) (e : Int)
    (hv : g.phase = 1 → e = 0 → AnP us V (bnG g) ((a : Int), ⟨true, r, w, l⟩)) (hP : PromB g a r w l e g') : PX n us (gs.set i g') V := by
  have hG := h.gg i g hg
  unfold PromB at hP
  split at hP
  · rename_i hc
    obtain ⟨t, tm⟩ := takeB_took g a (promA r w l e)
    obtain ⟨q1, q2, q3⟩ := asked_hasB hc.2
    have hok : GOk n us V (takeB g a (promA r w l e)).1 := t.ok hG q1 ⟨q2, by rw [← hG.acc]; exact q3⟩ (fun e1 ho => by
      unfold promA at ho ⊢
      split at ho
      · rename_i e0; rw [if_pos e0]; exact hv e1 e0
      · cases ho) (fun e2 ho => by rw [hc.1] at e2; cases e2) (by rw [hc.1]; decide)
    have hb : bnG (takeB g a (promA r w l e)).1 = bnG g := by unfold bnG; rw [t.rnd, t.who]
    split at hP
    · rename_i hm
      obtain ⟨val, hch, rfl⟩ := hP
      obtain ⟨m1, m2, m3⟩ := tm hm
      refine h.turn hg hb (fun hn => absurd hc.1 hn) ?_
      have hs := safe_chosen h hok (m3.trans hc.1) (by rw [t.acc, t.ag, if_pos m1]; exact m2) hch
      exact ⟨hok.acc, hok.rnd, hok.who, hok.pos, .inr (.inl rfl), List.nodup_nil, (fun x hx => by cases hx), rfl, (fun e => by cases e), (fun _ => ⟨hs, fun x hx => by cases hx⟩), fun e => by cases e⟩
    · subst hP
      exact h.turn hg hb (fun hn => absurd hc.1 hn) hok
  · subst hP
    rw [show gs.set i g' = gs by
      refine List.ext_getElem? fun j => ?_
      rw [List.getElem?_set]
      split
      · rename_i e; subst e
        rw [if_pos (List.getElem?_eq_some_iff.1 hg).1]; exact hg.symm
      · rfl]
    exact h
end Go.Proofs.Ytmibmjehjagmbaa
