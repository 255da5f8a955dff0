/- Contracts of slices.Clone and of octet's Writer. No condition. -/
import Derived.Test.YtmibmjehjagmbaaMem
import Derived.Test.YtmibmjehjagmbaaTrOct
namespace Go.Proofs.Ytmibmjehjagmbaa
set_option linter.unusedSimpArgs false
set_option linter.unusedVariables false
open Go.Proofs.Ytmibmjehjagmbaa RX

def u8v (b : UInt8) : Value := .int .u8 b.toNat
theorem u8v_one (l : List UInt8) : ∀ u ∈ l.map u8v, u.oneCell' = true := fun u hu => by
  obtain ⟨b, _, rfl⟩ := List.mem_map.1 hu; rfl
abbrev OwB (a : Option Addr) (n c : Nat) (l : List UInt8) : HP := OwC 5 1 a n c (l.map u8v)
abbrev RoB (a : Option Addr) (n : Nat) (l : List UInt8) : HP := RoC 1 a n (l.map u8v)
/-- A slice that is read through an assertion. -/
structure RdL (S : HP) (a : Option Addr) (n : Nat) (xs : List Value) : Prop where
  rd : Rd S a xs
  none : ∀ R h, S.p R h → a = none → n = 0
theorem RdL.ro (size : Nat) (a : Option Addr) (n : Nat) (xs : List Value) : RdL (RoC size a n xs) a n xs :=
  ⟨RoC.rd size a n xs, fun R h H e => Classical.byContradiction fun hn => by subst e; have := RoC.some H (by omega); cases this⟩
theorem RdL.ow (e : TypeId) (size : Nat) (a : Option Addr) (n c : Nat) (xs : List Value) : RdL (OwC e size a n c xs) a n xs :=
  ⟨OwC.rd e size a n c xs, fun R h H e => Classical.byContradiction fun hn => by subst e; have := OwC.some H (by omega); cases this⟩

theorem info8 : (Try.prog.info? 5).map (fun i => (i.zero, i.size, i.bytes)) = some (some (.int .u8 0), 1, 1) := by kernel_rfl
theorem und8 : Try.prog.underlying 30 = some (.slice 5) := by kernel_rfl
theorem append8 (a : Option Addr) (n c : Nat) (l : List UInt8) (S : HP) (b : Option Addr) (m c2 : Nat) (q : List UInt8) (hr : RdL S b m (q.map u8v)) (hm : q.length = m) (hb0 : m ≠ 0 → b.isSome = true) (hb : n + m ≤ 140737488355328) :
    OTri Try.prog (appS 30 30 (.slice a n c) (.slice b m c2)) (HP.sep (OwB a n c l) S)
      (fun v => HP.ex fun a' => HP.ex fun c' => HP.and (v = .slice a' (n + m) c') (HP.sep (OwB a' (n + m) c' (l ++ q)) S)) := by
  obtain ⟨i, hi, h1, h2, h3⟩ := info_parts info8
  cases b with
  | some ad =>
    have := append_ok 30 30 5 i (.int .u8 0) und8 hi h1 (by rw [h2]; rfl) (by omega) a n c (l.map u8v) S ad m c2 (q.map u8v) hr.rd (by simp [hm, h2]) (u8v_one q) (by unfold maxLen; omega) (by rw [h3]; omega)
    rw [h2] at this
    simp only [OwB, List.map_append]
    exact this
  | none =>
    have hm0 : m = 0 := Classical.byContradiction fun h => by have := hb0 h; cases this
    subst hm0
    obtain rfl : q = [] := List.eq_nil_of_length_eq_zero hm
    rintro w R h F s ⟨x1, x2, d, l1, l2, H, hS⟩
    have H0 := H
    obtain ⟨hxl, hx⟩ := H
    have hnc : n ≤ c := by
      rcases hx with ⟨_, rfl, rfl⟩ | ⟨g, cur, _, _, hnc, _⟩
      · exact Nat.le_refl _
      · exact hnc
    refine ⟨.value (.slice a n c), _, w, ?_, rfl, Same.refl w, R, h, PH.le.refl _, s, a, c, rfl, x1, x2, d, l1, l2, by rw [List.append_nil]; exact H0, hS⟩
    cases a <;> simp [appS, Builtin.append_, run_underlying und8, sizeOf, typeInfo, hi, h2, Builtin.lenOf, Builtin.firstCells, hnc, storeCells]
/-- A copy of bytes. -/
theorem clone8_ok (S : HP) (a : Option Addr) (n c : Nat) (l : List UInt8) (hr : RdL S a n (l.map u8v)) (hl : l.length = n) (hb : n ≤ 140737488355328) :
    Tri Try.prog 72 #[.slice a n c] S (fun v => HP.ex fun a' => HP.ex fun c' => HP.and (v = .slice a' n c') (HP.sep (OwB a' n c' l) S)) := by
  refine tri_of_tree (ρ := [.a a, .n n, .n c, .p S]) mixed Try.func72 tree_clone8 ?_
  unfold t_clone8
  simp only [T.den, E.prop, E.den, RX.look, F1.app, F2.app, Uni.int_i, Uni.nat_n, Uni.bool_c, Uni.str_s, Uni.adr_a, Uni.val_v, Uni.hp_p, hden, cden, V.den, W.den, A.den, BR.den, SA.den, FV.den, capV, exs, exP, allP, Cur.app, List.map_cons, List.map_nil, List.cons_append, List.nil_append, List.drop_succ_cons, List.drop_zero, List.length_cons, List.length_nil, Nat.zero_add, Nat.reduceAdd, Int.neg_neg, Bool.not_not, List.append_nil, Nat.add_zero, List.getElem?_cons_zero, List.getElem?_cons_succ, Decidable.not_not]
  refine ⟨fun ha => .of fun R h H => ?_, fun ha x => ?_⟩
  · have hn : n = 0 := hr.none R h H (by simpa using ha)
    subst hn
    obtain rfl : l = [] := List.eq_nil_of_length_eq_zero hl
    exact ⟨none, 0, rfl, HP.tt_sep H |> fun H => HP.sep_mono H (fun x _ => OwC.nil _ _ R x) fun _ h => h⟩
  · rw [semOf_append (by decide)]
    simp only [T.den, E.prop, E.den, RX.look, F1.app, F2.app, Uni.int_i, Uni.nat_n, Uni.bool_c, Uni.str_s, Uni.adr_a, Uni.val_v, Uni.hp_p, hden, cden, V.den, W.den, A.den, BR.den, SA.den, FV.den, capV, exs, exP, allP, Cur.app, List.map_cons, List.map_nil, List.cons_append, List.nil_append, List.drop_succ_cons, List.drop_zero, List.length_cons, List.length_nil, Nat.zero_add, Nat.reduceAdd, Int.neg_neg, Bool.not_not, List.append_nil, Nat.add_zero, List.getElem?_cons_zero, List.getElem?_cons_succ, Decidable.not_not]
    have := append8 (some ⟨x, 0, none⟩) 0 0 [] S a n c l hr hl (fun _ => by simpa [Option.isSome_iff_ne_none] using ha) (by omega)
    refine this.weak (fun R h H => HP.sep_mono H (fun y hy => ⟨rfl, .inr ⟨x, #[], rfl, hy, Nat.le_refl _, by unfold maxLen; omega, rfl, rfl⟩⟩) fun _ h => h) ?_
    rintro v R h ⟨a', c', rfl, H⟩
    rw [Nat.zero_add, List.nil_append] at H
    exact ⟨a', n, c', OwB a' n c' l, by rw [Nat.zero_add], .of fun R' h' H' => ⟨a', c', rfl, HP.sep_comm H'⟩, H⟩

/-- .. that never turns from here on. -/
theorem cloneR_ok (S : HP) (a : Option Addr) (n c : Nat) (l : List UInt8) (hr : RdL S a n (l.map u8v)) (hl : l.length = n) (hb : n ≤ 140737488355328) :
    Tri Try.prog 72 #[.slice a n c] S (fun v => HP.ex fun a' => HP.ex fun c' => HP.and (v = .slice a' n c') (HP.sep (RoB a' n l) S)) :=
  (clone8_ok S a n c l hr hl hb).post fun v => fun R h d ⟨a', c', e, H⟩ => by
    obtain ⟨R1, h1, q1, q2, q3, q4, H1⟩ := (HP.ent.sep (OwC.share _ _ _ _ _ _) S) R h d H
    exact ⟨R1, h1, q1, q2, q3, q4, a', c', e, H1⟩

def WRep (b : Nat) (l : List UInt8) : HP := HP.ex fun a => HP.ex fun c => HP.sep (HP.one b (.cells #[.slice a l.length c] 175)) (OwB a l.length c l)
theorem width_ok (n : Int) (S : HP) : Tri Try.prog 134 #[.int .i64 n] S (fun v => HP.and (v = .int .i64 (min (max n 0) 8)) S) := by
  have : Tri Try.prog 134 #[.int .i64 n] HP.tt (fun v => HP.pure (v = .int .i64 (min (max n 0) 8))) := by
    refine tri_of_tree (ρ := [.i n]) mixed Try.func134 tree_width ?_
    unfold t_width
    simp only [T.den, E.prop, E.den, RX.look, F1.app, F2.app, Uni.int_i, Uni.nat_n, Uni.bool_c, Uni.str_s, Uni.adr_a, Uni.val_v, Uni.hp_p, hden, cden, V.den, W.den, A.den, BR.den, SA.den, FV.den, capV, exs, exP, allP, Cur.app, List.map_cons, List.map_nil, List.cons_append, List.nil_append, List.drop_succ_cons, List.drop_zero, List.length_cons, List.length_nil, Nat.zero_add, Nat.reduceAdd, Int.neg_neg, Bool.not_not, List.append_nil, Nat.add_zero, List.getElem?_cons_zero, List.getElem?_cons_succ, Decidable.not_not]
    exact .of fun _ _ _ => trivial
  exact (this.frame S).weak (fun _ _ H => HP.tt_sep H) fun v R h H => ⟨HP.sep_left H, HP.sep_right H⟩
theorem wByte_ok (b : Nat) (l : List UInt8) (x : UInt8) (hb : l.length < 140737488355328) :
    Tri Try.prog 114 #[.pointer (some ⟨b, 0, none⟩), .int .u8 x.toNat] (WRep b l) (fun v => HP.and (v = .tuple #[]) (WRep b (l ++ [x]))) := by
  unfold WRep
  refine Tri.ex fun a => Tri.ex fun c => ?_
  refine tri_of_tree (ρ := [.n b, .a a, .n l.length, .n c, .p (OwB a l.length c l), .i x.toNat]) mixed Try.func114 tree_wByte ?_
  unfold t_wByte
  simp only [T.den, E.prop, E.den, RX.look, F1.app, F2.app, Uni.int_i, Uni.nat_n, Uni.bool_c, Uni.str_s, Uni.adr_a, Uni.val_v, Uni.hp_p, hden, cden, V.den, W.den, A.den, BR.den, SA.den, FV.den, capV, exs, exP, allP, Cur.app, List.map_cons, List.map_nil, List.cons_append, List.nil_append, List.drop_succ_cons, List.drop_zero, List.length_cons, List.length_nil, Nat.zero_add, Nat.reduceAdd, Int.neg_neg, Bool.not_not, List.append_nil, Nat.add_zero, List.getElem?_cons_zero, List.getElem?_cons_succ, Decidable.not_not]
  intro y
  rw [semOf_append (by decide)]
  simp only [T.den, E.prop, E.den, RX.look, F1.app, F2.app, Uni.int_i, Uni.nat_n, Uni.bool_c, Uni.str_s, Uni.adr_a, Uni.val_v, Uni.hp_p, hden, cden, V.den, W.den, A.den, BR.den, SA.den, FV.den, capV, exs, exP, allP, Cur.app, List.map_cons, List.map_nil, List.cons_append, List.nil_append, List.drop_succ_cons, List.drop_zero, List.length_cons, List.length_nil, Nat.zero_add, Nat.reduceAdd, Int.neg_neg, Bool.not_not, List.append_nil, Nat.add_zero, List.getElem?_cons_zero, List.getElem?_cons_succ, Decidable.not_not]
  refine (append8 a l.length c l _ (some ⟨y, 0, none⟩) 1 1 [x] ⟨one_rd y #[u8v x] _, fun _ _ _ e => by cases e⟩ rfl (fun _ => rfl) (by omega)).weak (fun _ _ h => h) ?_
  rintro v R h ⟨a', c', rfl, H⟩
  refine ⟨a', l.length + 1, c', OwB a' (l.length + 1) c' (l ++ [x]), rfl, .of fun R h H => ⟨trivial, a', c', ?_⟩, H⟩
  rw [List.length_append]; exact H

/-- The byte of a number at a place, most first. -/
def byteAt (v n j : Nat) : UInt8 := UInt8.ofNat (v / 2 ^ (8 * (n - 1 - j)))
def beN (v n : Nat) : List UInt8 := (List.range n).map (byteAt v n)
theorem byteAt_wrap (v n j : Nat) (hj : j < n) (hn : n ≤ 8) : IntKind.u8.wrap ((v : Int).fdiv (2 ^ (min (8 * ((n : Int) - 1 - (j : Int))).toNat IntKind.u64.bits))) = ((byteAt v n j).toNat : Int) := by
  have e1 : (8 * ((n : Int) - 1 - (j : Int))).toNat = 8 * (n - 1 - j) := by omega
  rw [e1, Nat.min_eq_left (by simp [IntKind.bits]; omega)]
  have e2 : ((v : Int).fdiv (2 ^ (8 * (n - 1 - j)))) = ((v / 2 ^ (8 * (n - 1 - j)) : Nat) : Int) := by
    rw [Int.fdiv_eq_ediv_of_nonneg _ (Int.pow_nonneg (by decide))]
    simp
  rw [e2]
  simp only [IntKind.wrap, IntKind.bits, IntKind.signed, byteAt, UInt8.toNat_ofNat', Bool.false_and, Bool.false_eq_true, if_false]
  omega
theorem beN_take (v n j : Nat) (hj : j < n) : (beN v n).take (j + 1) = (beN v n).take j ++ [byteAt v n j] := by
  rw [List.take_succ_eq_append_getElem (by simpa [beN] using hj)]
  congr 2
  simp [beN]
theorem beN_len (v n : Nat) : (beN v n).length = n := by simp [beN]
theorem wNumber_ok (b : Nat) (l : List UInt8) (v : Nat) (n : Nat) (hn : n ≤ 8) (hb : l.length + 8 < 140737488355328) :
    Tri Try.prog 115 #[.pointer (some ⟨b, 0, none⟩), .int .u64 v, .int .i64 n] (WRep b l) (fun r => HP.and (r = .tuple #[]) (WRep b (l ++ beN v n))) := by
  refine tri_of_tree (ρ := [.n b, .p (WRep b l), .i v, .i n]) mixed Try.func115 tree_wNumber ?_
  unfold t_wNumber
  simp only [T.den, E.prop, E.den, RX.look, F1.app, F2.app, Uni.int_i, Uni.nat_n, Uni.bool_c, Uni.str_s, Uni.adr_a, Uni.val_v, Uni.hp_p, hden, cden, V.den, W.den, A.den, BR.den, SA.den, FV.den, capV, exs, exP, allP, Cur.app, List.map_cons, List.map_nil, List.cons_append, List.nil_append, List.drop_succ_cons, List.drop_zero, List.length_cons, List.length_nil, Nat.zero_add, Nat.reduceAdd, Int.neg_neg, Bool.not_not, List.append_nil, Nat.add_zero, List.getElem?_cons_zero, List.getElem?_cons_succ, Decidable.not_not]
  refine (width_ok n HP.tt).weak (fun _ _ h => h) ?_
  rintro r R h ⟨rfl, H⟩
  refine ⟨min (max n 0) 8, rfl, ?_, H⟩
  rw [show min (max (n : Int) 0) 8 = n by omega]
  refine ⟨fun k p => ∃ i : Nat, k = i ∧ i ≤ n ∧ HP.ent p (WRep b (l ++ (beN v n).take i)), fun k p => n - k.toNat, ⟨0, rfl, Nat.zero_le _, by simpa using HP.ent.refl _⟩, ?_⟩
  rintro k p ⟨i, rfl, hi, hp⟩
  refine ⟨fun hlt => ?_, fun hge => ?_⟩
  · have hlt' : i < n := by omega
    have r : ∀ x : Int, -100 ≤ x → x ≤ 100 → IntKind.i64.min ≤ x ∧ x ≤ IntKind.i64.max := fun x h1 h2 => by simp [IntKind.min, IntKind.max, IntKind.signed, IntKind.bits]; omega
    refine ⟨r _ (by omega) (by omega), fun _ => ⟨r _ (by omega) (by omega), fun _ => ⟨r _ (by omega) (by omega), fun _ => ⟨by omega, fun _ => ?_⟩⟩⟩⟩
    rw [byteAt_wrap v n i hlt' hn]
    refine (wByte_ok b _ (byteAt v n i) (by simp [beN_len]; omega)).conseq (hp.trans (.of fun _ _ => HP.sep_tt)) fun r => .of fun R h H => ?_
    obtain ⟨rfl, H2⟩ := HP.sep_left H
    refine ⟨WRep b (l ++ (beN v n).take i ++ [byteAt v n i]), rfl, ⟨r _ (by omega) (by omega), fun _ => ?_⟩, H2⟩
    refine ⟨⟨i + 1, by omega, hlt', ?_⟩, by dsimp only; omega⟩
    rw [beN_take v n i hlt', ← List.append_assoc]
    exact HP.ent.refl _
  · have : i = n := by omega
    subst this
    refine hp.trans (.of fun R h H => ⟨trivial, ?_⟩)
    rw [List.take_of_length_le (by rw [beN_len]; exact Nat.le_refl _)] at H
    exact H
/-- Bytes behind their number. -/
theorem wBytes_ok (b : Nat) (l : List UInt8) (a : Option Addr) (n c : Nat) (q : List UInt8) (S : HP) (hr : RdL S a n (q.map u8v)) (hq : q.length = n) (hs : n ≠ 0 → a.isSome = true) (hb : l.length + n + 100 < 140737488355328) :
    Tri Try.prog 82 #[.pointer (some ⟨b, 0, none⟩), .slice a n c] (HP.sep (WRep b l) S) (fun r => HP.and (r = .tuple #[]) (HP.sep (WRep b (l ++ beN n 4 ++ q)) S)) := by
  unfold WRep
  refine (Tri.ex (A := fun wa => HP.ex fun wc => HP.sep (HP.sep (HP.one b (.cells #[.slice wa l.length wc] 175)) (OwB wa l.length wc l)) S) fun wa => Tri.ex fun wc => ?_).weak (fun R h ⟨h1, h2, d, l1, l2, ⟨wa, wc, H⟩, hS⟩ => ⟨wa, wc, h1, h2, d, l1, l2, H, hS⟩) fun _ _ _ h => h
  refine (tri_of_tree (ρ := [.n b, .a wa, .n l.length, .n wc, .p (OwB wa l.length wc l), .a a, .n n, .n c, .p S]) mixed Try.func82 tree_wBytes ?_).weak (fun _ _ => HP.sep_assoc) fun _ _ _ h => h
  unfold t_wBytes
  simp only [T.den, E.prop, E.den, RX.look, F1.app, F2.app, Uni.int_i, Uni.nat_n, Uni.bool_c, Uni.str_s, Uni.adr_a, Uni.val_v, Uni.hp_p, hden, cden, V.den, W.den, A.den, BR.den, SA.den, FV.den, capV, exs, exP, allP, Cur.app, List.map_cons, List.map_nil, List.cons_append, List.nil_append, List.drop_succ_cons, List.drop_zero, List.length_cons, List.length_nil, Nat.zero_add, Nat.reduceAdd, Int.neg_neg, Bool.not_not, List.append_nil, Nat.add_zero, List.getElem?_cons_zero, List.getElem?_cons_succ, Decidable.not_not]
  have hw : IntKind.u64.wrap (n : Int) = n := wrap_in ⟨by simp [IntKind.min, IntKind.signed], by simp [IntKind.max, IntKind.signed, IntKind.bits]; omega⟩
  rw [hw]
  refine (wNumber_ok b l n 4 (by omega) (by omega)).weak (fun R h H => ⟨wa, wc, H⟩) ?_
  rintro r R h ⟨rfl, xa, xc, H⟩
  refine ⟨xa, _, xc, OwB xa (l ++ beN n 4).length xc (l ++ beN n 4), rfl, ?_, H⟩
  rw [semOf_append (by decide)]
  simp only [T.den, E.prop, E.den, RX.look, F1.app, F2.app, Uni.int_i, Uni.nat_n, Uni.bool_c, Uni.str_s, Uni.adr_a, Uni.val_v, Uni.hp_p, hden, cden, V.den, W.den, A.den, BR.den, SA.den, FV.den, capV, exs, exP, allP, Cur.app, List.map_cons, List.map_nil, List.cons_append, List.nil_append, List.drop_succ_cons, List.drop_zero, List.length_cons, List.length_nil, Nat.zero_add, Nat.reduceAdd, Int.neg_neg, Bool.not_not, List.append_nil, Nat.add_zero, List.getElem?_cons_zero, List.getElem?_cons_succ, Decidable.not_not]
  refine (append8 xa _ xc (l ++ beN n 4) S a n c q hr hq hs (by simp [beN_len]; omega)).weak (fun _ _ h => h) ?_
  rintro v R h ⟨a', c', rfl, H⟩
  refine ⟨a', _, c', OwB a' _ c' _, rfl, .of fun R h H => ⟨trivial, ?_⟩, H⟩
  have e : (l ++ beN n 4).length + n = (l ++ beN n 4 ++ q).length := by simp [hq]; omega
  rw [e] at H
  exact HP.sep_mono (HP.sep_assoc' H) (fun _ h => ⟨a', c', h⟩) fun _ h => h
/-- All that was put. -/
theorem wOut_ok (b : Nat) (l : List UInt8) (hb : l.length < 140737488355328) :
    Tri Try.prog 77 #[.pointer (some ⟨b, 0, none⟩)] (WRep b l) (fun v => HP.ex fun a' => HP.ex fun c' => HP.and (v = .slice a' l.length c') (HP.sep (WRep b l) (OwB a' l.length c' l))) := by
  unfold WRep
  refine Tri.ex fun wa => Tri.ex fun wc => ?_
  refine tri_of_tree (ρ := [.n b, .a wa, .n l.length, .n wc, .p (OwB wa l.length wc l)]) mixed Try.func77 tree_wOut ?_
  unfold t_wOut
  simp only [T.den, E.prop, E.den, RX.look, F1.app, F2.app, Uni.int_i, Uni.nat_n, Uni.bool_c, Uni.str_s, Uni.adr_a, Uni.val_v, Uni.hp_p, hden, cden, V.den, W.den, A.den, BR.den, SA.den, FV.den, capV, exs, exP, allP, Cur.app, List.map_cons, List.map_nil, List.cons_append, List.nil_append, List.drop_succ_cons, List.drop_zero, List.length_cons, List.length_nil, Nat.zero_add, Nat.reduceAdd, Int.neg_neg, Bool.not_not, List.append_nil, Nat.add_zero, List.getElem?_cons_zero, List.getElem?_cons_succ, Decidable.not_not]
  refine (clone8_ok _ wa _ wc l (RdL.ow _ _ _ _ _ _) rfl (by omega)).weak (fun _ _ h => h) ?_
  rintro v R h ⟨a', c', rfl, H⟩
  exact ⟨a', _, c', OwB a' _ c' l, OwB wa l.length wc l, rfl, .of fun R h H => ⟨a', c', rfl, HP.sep_mono (HP.sep_assoc' H) (fun _ h => ⟨wa, wc, h⟩) fun _ h => h⟩, H⟩
end Go.Proofs.Ytmibmjehjagmbaa
