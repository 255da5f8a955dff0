/- Texts of this claim, joined. No condition. -/
import Derived.Test.YtbmajijnjkicmaaGreatDoorAFJ1
import Derived.Test.YtbmajijnjkicmaaGreatDoorAFJ2
import Derived.Test.YtbmajijnjkicmaaGreatDoorAFJ4
import Derived.KernelRfl
import Derived.Laws.Cover1
set_option linter.unusedSimpArgs false
set_option linter.unusedVariables false

namespace Go.Proofs.YtbmajijnjkicmaaGreatDoor
set_option linter.unusedSimpArgs false
set_option linter.unusedVariables false
open Go.Proofs.YtbmajijnjkicmaaGreatDoor RX
set_option maxRecDepth 100000

def pkOw : PK ChE := ⟨60, 1, by decide, kCh.vals, kCh.len, kCh_one, fun x => OwI x.a x.l.length x.c x.l⟩
theorem PL.shareOw (a : Option Addr) (n c : Nat) (l : List ChE) : HP.ent (PL pkOw a n c l) (Ls kCh a n l) := by
  have key : ∀ l : List ChE, HP.ent (sepN (l.map pkOw.rep)) (sepN (l.map kCh.hp)) := fun l => by
    induction l with
    | nil => exact .refl _
    | cons x r ih => exact (HP.ent.of fun R h H => sepN_cons.1 H).trans (((OwC.share _ _ _ _ _ _).sep2 ih).trans (.of fun R h H => sepN_cons.2 H))
  refine HP.ent.trans (fun R h d H => ?_) (PL.share (K := kCh) (e := 60) (one := kCh_one) a n c l)
  obtain ⟨R1, h1, q1, q2, q3, q4, H1⟩ := (HP.ent.sep2 (.refl (OwC 60 1 a n c (l.flatMap kCh.vals))) (key l)) R h d H.2
  exact ⟨R1, h1, q1, q2, q3, q4, H.1, H1⟩
def firstC (u c : Nat) : List (List Int) := (List.range c).map fun i => ((List.range u).filter fun n => decide (n % c = i)).map fun (n : Nat) => (n : Int)
def firstS (u c : Int) : PlP × Int := if 1 ≤ u ∧ u ≤ 7 ∧ 1 ≤ c ∧ c ≤ u then (⟨0, firstC u.toNat c.toNat⟩, 0) else (⟨0, []⟩, 1)
theorem pl_made (x n : Nat) {R h : PH} (H : (OwC 60 1 (some ⟨x, 0, none⟩) n n (List.replicate n (.slice none 0 0))).p R h) : (PL pkOw (some ⟨x, 0, none⟩) n n (List.replicate n ⟨none, 0, []⟩)).p R h := by
  have e : (List.replicate n (⟨none, 0, []⟩ : ChE)).flatMap kCh.vals = List.replicate n (.slice none 0 0) := by
    induction n with
    | zero => rfl
    | succ n ih => simp only [List.replicate_succ, List.flatMap_cons] at ih ⊢; rw [show List.flatMap kCh.vals (List.replicate n ⟨none, 0, []⟩) = List.replicate n (.slice none 0 0) from by
        clear ih H
        induction n with
        | zero => rfl
        | succ n ih => rw [List.replicate_succ, List.flatMap_cons, ih, List.replicate_succ]; rfl]; rfl
  have key : ∀ n (h : PH), (sepN ((List.replicate n (⟨none, 0, []⟩ : ChE)).map pkOw.rep)).p R h := fun n => by
    induction n with
    | zero => exact fun _ => trivial
    | succ n ih => exact fun h => sepN_cons.2 ⟨PH.none', h, PH.none_dj _, PH.none_le _, PH.le.refl _, OwC.nil _ _ _ _, ih h⟩
  refine ⟨by simp, HP.sep_comm ⟨PH.none', h, PH.none_dj _, PH.none_le _, PH.le.refl _, key n _, ?_⟩⟩
  show (OwC _ _ _ _ _ _).p R h
  unfold pkOw
  dsimp only
  rw [e]; exact H
theorem firstC_len (u c : Nat) : (firstC u c).length = c := by simp [firstC]
theorem firstC_zero (c : Nat) : firstC 0 c = List.replicate c [] := by
  refine List.ext_getElem (by simp [firstC]) fun i h1 h2 => ?_
  simp [firstC]
theorem firstC_succ (u c : Nat) (hc : 0 < c) : firstC (u + 1) c = (firstC u c).set (u % c) (((firstC u c).getD (u % c) []) ++ [(u : Int)]) := by
  refine List.ext_getElem? fun i => ?_
  rw [List.getElem?_set]
  have hu := Nat.mod_lt u hc
  by_cases hi : i < c
  · have g : ∀ v, (firstC v c)[i]? = some (((List.range v).filter fun n => decide (n % c = i)).map fun (n : Nat) => (n : Int)) := fun v => by
      unfold firstC; rw [List.getElem?_map, List.getElem?_range hi]; rfl
    rw [g, List.range_succ, List.filter_append, List.map_append]
    by_cases e : u % c = i
    · subst e
      rw [if_pos rfl, if_pos (by rw [firstC_len]; exact hu)]
      simp only [List.getD_eq_getElem?_getD, g u, Option.getD_some]
      simp
    · rw [if_neg e, g]
      simp [e]
  · rw [List.getElem?_eq_none (by rw [firstC_len]; omega)]
    by_cases e : u % c = i
    · omega
    · rw [if_neg e, List.getElem?_eq_none (by rw [firstC_len]; omega)]
set_option maxHeartbeats 1000000 in
theorem first_ok (u c : Int) : Tri Tryz.prog 7 #[.int .i64 u, .int .i64 c] HP.tt
    (fun v => HP.ex fun a' => HP.ex fun c' => HP.ex fun es' : List ChE => HP.and (v = .tuple #[.agg #[.int .i64 (firstS u c).1.ep, .slice a' es'.length c'], .int .i64 (firstS u c).2] ∧ es'.map (·.l) = (firstS u c).1.ch ∧ ∀ x ∈ es', x.l.length ≤ 1000000) (Ls kCh a' es'.length es')) := by
  refine tri_of_tree (ρ := [.i u, .i c]) mixed Tryz.func7 tree_plFirst ?_
  unfold t_plFirst
  simp only [T.den, E.prop, E.den, RX.look, F1.app, F2.app, Uni.int_i, Uni.nat_n, Uni.bool_c, Uni.str_s, Uni.adr_a, Uni.val_v, Uni.hp_p, hden, cden, V.den, W.den, A.den, BR.den, SA.den, FV.den, capV, exs, exP, allP, Cur.app, List.map_cons, List.map_nil, List.cons_append, List.nil_append, List.drop_succ_cons, List.drop_zero, List.length_cons, List.length_nil, Nat.zero_add, Nat.reduceAdd, Int.neg_neg, Bool.not_not, List.append_nil, Nat.add_zero, List.getElem?_cons_zero, List.getElem?_cons_succ, Decidable.not_not, semW_eq, semW_load, semW_store, semW_storeC, semW_append, ne_eq, Nat.reduceEqDiff, not_false_eq_true, semW_mk]
  have bad : ∀ {K : HP}, ¬ (1 ≤ u ∧ u ≤ 7 ∧ 1 ≤ c ∧ c ≤ u) → HP.ent K (HP.ex fun a' => HP.ex fun c' => HP.ex fun es' : List ChE => HP.and (Value.tuple #[.agg #[.int .i64 0, .slice none 0 0], .int .i64 1] = .tuple #[.agg #[.int .i64 (firstS u c).1.ep, .slice a' es'.length c'], .int .i64 (firstS u c).2] ∧ es'.map (·.l) = (firstS u c).1.ch ∧ ∀ x ∈ es', x.l.length ≤ 1000000) (Ls kCh a' es'.length es')) := fun h => .of fun R h' H => ⟨none, 0, [], ⟨by rw [show firstS u c = _ from if_neg h]; rfl, by rw [show firstS u c = _ from if_neg h]; rfl, fun x hx => by cases hx⟩, rfl, RoC.nil _ _ _ _, fun x hx => by cases hx⟩
  intro _
  refine ⟨fun h => bad (by omega), fun h1 => ⟨fun h => bad (by omega), fun h2 => ⟨fun h => bad (by omega), fun h3 => ⟨fun h => bad (by omega), fun h4 => ?_⟩⟩⟩⟩
  obtain ⟨m, rfl⟩ : ∃ m : Nat, c = m := ⟨c.toNat, by omega⟩
  obtain ⟨q, rfl⟩ : ∃ q : Nat, u = q := ⟨u.toNat, by omega⟩
  have hm : 0 < m := by omega
  obtain ⟨i, hi, z1, z2, z3⟩ := info_parts infoIs
  refine (mk_ok undIs hi z1 rfl z2 m (by rw [z3]; omega) (by unfold maxLen; omega) HP.tt).weak (fun _ _ h => h) ?_
  rintro v R h ⟨x, rfl, H⟩
  refine ⟨some ⟨x, 0, none⟩, m, m, PL pkOw (some ⟨x, 0, none⟩) m m (List.replicate m ⟨none, 0, []⟩), rfl, fun _ => ?_, pl_made x m (HP.sep_left H)⟩
  refine ⟨fun i P => ∃ (k : Nat) (es : List ChE), i = k ∧ k ≤ q ∧ es.map (·.l) = firstC k m ∧ HP.ent P (PL pkOw (some ⟨x, 0, none⟩) m m es), fun i _ => q - i.toNat, ⟨0, _, rfl, Nat.zero_le _, by rw [firstC_zero]; simp, .refl _⟩, ?_⟩
  rintro _ P ⟨k, es, rfl, hk, he, hP⟩
  have hel : es.length = m := by
    have := congrArg List.length he
    rw [firstC_len] at this; simpa using this
  have hsm : ∀ y ∈ es, y.l.length ≤ 7 := fun y hy => by
    have : y.l ∈ firstC k m := by rw [← he]; exact List.mem_map.2 ⟨y, hy, rfl⟩
    obtain ⟨j, _, e⟩ := List.mem_map.1 this
    rw [← e, List.length_map]
    have := List.length_filter_le (fun n => decide (n % m = j)) (List.range k)
    rw [List.length_range] at this
    omega
  refine ⟨fun hlt => ⟨by omega, fun _ => ?_⟩, fun hge => ?_⟩
  · have htm : ((k : Int).tmod (m : Int)) = ((k % m : Nat) : Int) := Int.ofNat_tmod _ _
    have hkm := Nat.mod_lt k hm
    rw [htm]
    have hy : es[k % m]? = some es[k % m] := List.getElem?_eq_getElem (by omega)
    generalize hye : es[k % m] = y at hy
    have hyl := hsm y (List.mem_of_getElem? hy)
    refine ⟨by omega, fun _ => ⟨by omega, fun _ => ⟨rfl, fun _ => ?_⟩⟩⟩
    refine ⟨y.a, y.l.length, y.c, ORead.ent hP ?_, fun b => ?_⟩
    · refine load1_ok undI aggIs szIs (PL.rd (K := pkOw) _ m m es) (k := ((k % m : Nat) : Int).toNat * 1) (off := 0) ?_
      have := flat_getL kCh.vals 1 kCh.len es (k % m) 0 y hy (by decide)
      rw [Int.toNat_natCast, Nat.add_zero]
      exact this
    · refine (appendI y.a y.l.length y.c y.l (HP.one b (.cells #[.int .i64 (k : Int)] 3 (0, 0))) ⟨b, 0, none⟩ 1 1 [(k : Int)] (one_rd b #[.int .i64 (k : Int)] 3) rfl (by omega)).conseq (K := PRest pkOw (some ⟨x, 0, none⟩) m m es (k % m)) ((hP.sep _).trans (.of fun R h H => ?_)) fun v => .of fun R h H => ?_
      · have H1 := HP.sep_assoc (HP.sep_mono H (fun z hz => PL.focus (K := pkOw) hy hz) fun _ h => h)
        exact HP.sep_assoc' (HP.sep_mono H1 (fun _ h => h) fun z hz => HP.sep_comm hz)
      · obtain ⟨h1, h2, dd, l1, l2, ⟨a', c', rfl, H1⟩, H2⟩ := H
        have H3 := HP.pick [OwI a' (y.l.length + 1) c' (y.l ++ [(k : Int)]), HP.one b (.cells #[.int .i64 (k : Int)] 3 (0, 0)), PRest pkOw (some ⟨x, 0, none⟩) m m es (k % m)] [0, 2, 1] (by decide) rfl (HP.sep_assoc ⟨h1, h2, dd, l1, l2, H1, H2⟩)
        refine ⟨a', y.l.length + 1, c', OwI a' (y.l.length + 1) c' (y.l ++ [(k : Int)]), PRest pkOw (some ⟨x, 0, none⟩) m m es (k % m), rfl, ?_, H3⟩
        refine (PRest.set (K := pkOw) hi z2 (k := k % m) (by omega) ⟨a', c', y.l ++ [(k : Int)]⟩ (v := .slice a' (y.l.length + 1) c') (by simp [Value.cells, pkOw, kCh]) HP.tt).conseq (K := HP.tt) (.of fun R h H => HP.sep_tt (HP.sep_mono H (fun _ h => h) fun z hz => HP.sep_tt (by simpa [pkOw] using hz))) fun v => .of fun R h H => ?_
        obtain ⟨rfl, H9⟩ := HP.sep_left H
        refine ⟨_, rfl, ⟨inI64 _ (by omega) (by omega), fun _ => ⟨⟨k + 1, es.set (k % m) ⟨a', c', y.l ++ [(k : Int)]⟩, by omega, by omega, ?_, .refl _⟩, by dsimp only; omega⟩⟩, HP.sep_left H9⟩
        rw [firstC_succ k m hm, ← he, List.map_set]
        congr 1
        rw [List.getD_eq_getElem?_getD, List.getElem?_map, hy]; rfl
  · have hkq : k = q := by omega
    subst hkq
    have e : firstS (k : Int) (m : Int) = (⟨0, firstC k m⟩, 0) := by
      unfold firstS
      rw [if_pos (by omega)]; simp
    refine (hP.trans (PL.shareOw _ _ _ _)).trans (.of fun R h H => ⟨_, m, es, ⟨by rw [e, hel], by rw [e]; exact he, fun y hy => by have := hsm y hy; omega⟩, by rw [hel]; exact H⟩)
theorem sameI_ok (a : Option Addr) (n c : Nat) (la : List Int) (b : Option Addr) (m d : Nat) (lb : List Int) (Sa Sb : HP) (hA : RdL Sa a n (la.map i64v)) (hB : RdL Sb b m (lb.map i64v)) (hla : la.length = n) (hlb : lb.length = m) (hn : n ≤ 1000000000) :
    Tri Tryz.prog 24 #[.slice a n c, .slice b m d] (HP.sep Sa Sb) (fun v => HP.and (v = .bool (decide (la = lb))) (HP.sep Sa Sb)) := by
  refine Tri.fact (φ := (a = none → n = 0) ∧ (b = none → m = 0)) (fun R h H => ⟨hA.none R _ (HP.sep_left H), hB.none R _ (HP.sep_right H)⟩) fun ⟨ha, hb⟩ => ?_
  have ha' : n ≠ 0 → a.isSome = true := fun h => Option.isSome_iff_ne_none.2 fun e => h (ha e)
  have hb' : m ≠ 0 → b.isSome = true := fun h => Option.isSome_iff_ne_none.2 fun e => h (hb e)
  refine tri_of_tree (ρ := [.a a, .n n, .n c, .p Sa, .a b, .n m, .n d, .p Sb]) mixed Tryz.func24 tree_sameI11 ?_
  unfold t_sameI11
  simp only [T.den, E.prop, E.den, RX.look, F1.app, F2.app, Uni.int_i, Uni.nat_n, Uni.bool_c, Uni.str_s, Uni.adr_a, Uni.val_v, Uni.hp_p, hden, cden, V.den, W.den, A.den, BR.den, SA.den, FV.den, capV, exs, exP, allP, Cur.app, List.map_cons, List.map_nil, List.cons_append, List.nil_append, List.drop_succ_cons, List.drop_zero, List.length_cons, List.length_nil, Nat.zero_add, Nat.reduceAdd, Int.neg_neg, Bool.not_not, List.append_nil, Nat.add_zero, List.getElem?_cons_zero, List.getElem?_cons_succ, Decidable.not_not, semW_eq, semW_load, ne_eq, Nat.reduceEqDiff, not_false_eq_true]
  refine ⟨fun h => .of fun R h' H => ⟨?_, H⟩, fun h => ?_⟩
  · rw [decide_eq_false]
    intro e; subst e; omega
  have hnm : n = m := by omega
  subst hnm
  refine ⟨fun _ i => ∃ k : Nat, i = k ∧ k ≤ n ∧ la.take k = lb.take k, fun _ i => n - i.toNat, ⟨0, rfl, Nat.zero_le _, rfl⟩, ?_⟩
  rintro x _ ⟨k, rfl, hk, hpre⟩
  refine ⟨fun hlt => ⟨by omega, fun _ => ⟨ha' (by omega), fun _ => ?_⟩⟩, fun hge => .of fun R h' H => ⟨?_, H⟩⟩
  · have hx : la[k]? = some la[k] := List.getElem?_eq_getElem (by omega)
    have hy : lb[k]? = some lb[k] := List.getElem?_eq_getElem (by omega)
    refine ⟨la[k], ldI hA.rd hx, by omega, fun _ => ⟨hb' (by omega), fun _ => ⟨lb[k], ldI hB.rd hy, fun h1 => .of fun R h' H => ⟨?_, H⟩, fun h1 => ⟨inI64 _ (by omega) (by omega), fun _ => ⟨⟨k + 1, by omega, by omega, ?_⟩, by dsimp only; omega⟩⟩⟩⟩⟩
    · rw [decide_eq_false]
      intro e; subst e; exact h1 rfl
    · rw [List.take_succ_eq_append_getElem (by omega), List.take_succ_eq_append_getElem (by omega), hpre]
      rw [h1]
  · have hke : k = n := by omega
    subst hke
    rw [List.take_of_length_le (by omega), List.take_of_length_le (by omega)] at hpre
    rw [decide_eq_true hpre]
theorem RdL.of {S : HP} {a : Option Addr} {n : Nat} {l : List Int} (h : ∀ R x, S.p R x → (RoI a n l).p R x) : RdL S a n (l.map i64v) :=
  ⟨Rd.impR (RoC.rd 1 a n (l.map i64v)) h, fun R x H e => (RdL.ro 1 a n (l.map i64v)).none R x (h R x H) e⟩
theorem samePl_ok (e1 e2 : Int) (a : Option Addr) (c : Nat) (ea : List ChE) (b : Option Addr) (d : Nat) (eb : List ChE) (Sa Sb : HP) (hA : ∀ R h, Sa.p R h → (Ls kCh a ea.length ea).p R h) (hB : ∀ R h, Sb.p R h → (Ls kCh b eb.length eb).p R h) (hn : ea.length ≤ 1000000000) (ha : ∀ x ∈ ea, x.l.length ≤ 1000000000) :
    Tri Tryz.prog 15 #[.agg #[.int .i64 e1, .slice a ea.length c], .agg #[.int .i64 e2, .slice b eb.length d]] (HP.sep Sa Sb) (fun v => HP.and (v = .bool (decide ((⟨e1, ea.map (·.l)⟩ : PlP) = ⟨e2, eb.map (·.l)⟩))) (HP.sep Sa Sb)) := by
  refine Tri.fact (φ := (ea.length ≠ 0 → a.isSome = true) ∧ (eb.length ≠ 0 → b.isSome = true)) (fun R h H => ⟨fun hn => RoC.some (hA R _ (HP.sep_left H)).2.1 (by omega), fun hn => RoC.some (hB R _ (HP.sep_right H)).2.1 (by omega)⟩) fun ⟨ha', hb'⟩ => ?_
  refine tri_of_tree (ρ := [.i e1, .a a, .n ea.length, .n c, .p Sa, .i e2, .a b, .n eb.length, .n d, .p Sb]) mixed Tryz.func15 tree_same11 ?_
  unfold t_same11
  simp only [T.den, E.prop, E.den, RX.look, F1.app, F2.app, Uni.int_i, Uni.nat_n, Uni.bool_c, Uni.str_s, Uni.adr_a, Uni.val_v, Uni.hp_p, hden, cden, V.den, W.den, A.den, BR.den, SA.den, FV.den, capV, exs, exP, allP, Cur.app, List.map_cons, List.map_nil, List.cons_append, List.nil_append, List.drop_succ_cons, List.drop_zero, List.length_cons, List.length_nil, Nat.zero_add, Nat.reduceAdd, Int.neg_neg, Bool.not_not, List.append_nil, Nat.add_zero, List.getElem?_cons_zero, List.getElem?_cons_succ, Decidable.not_not, semW_eq, semW_load, ne_eq, Nat.reduceEqDiff, not_false_eq_true]
  intro _ _
  have no : ∀ {K : HP}, (⟨e1, ea.map (·.l)⟩ : PlP) ≠ ⟨e2, eb.map (·.l)⟩ → HP.ent K (HP.sep Sa Sb) → HP.ent K (HP.and (Value.bool false = .bool (decide ((⟨e1, ea.map (·.l)⟩ : PlP) = ⟨e2, eb.map (·.l)⟩))) (HP.sep Sa Sb)) := fun h hk => hk.trans (.of fun R h' H => ⟨by rw [decide_eq_false h], H⟩)
  refine ⟨fun h => no (fun e => h (by injection e)) (.refl _), fun h1 => ⟨fun h => no (fun e => h (by
    have := congrArg (fun p => p.ch.length) e
    simp at this; omega)) (.refl _), fun h2 => ?_⟩⟩
  have hl : ea.length = eb.length := by omega
  have he : e1 = e2 := h1
  refine ⟨fun _ i => ∃ k : Nat, i = k ∧ k ≤ ea.length ∧ (ea.map (·.l)).take k = (eb.map (·.l)).take k, fun _ i => ea.length - i.toNat, ⟨0, rfl, Nat.zero_le _, rfl⟩, ?_⟩
  rintro x _ ⟨k, rfl, hk, hpre⟩
  refine ⟨fun hlt => ⟨by omega, fun _ => ⟨ha' (by omega), fun _ => ?_⟩⟩, fun hge => ?_⟩
  · have hx : ea[k]? = some ea[k] := List.getElem?_eq_getElem (by omega)
    have hy : eb[k]? = some eb[k] := List.getElem?_eq_getElem (by omega)
    have t1 : (ea.map (·.l)).take (k + 1) = (ea.map (·.l)).take k ++ [ea[k].l] := by rw [List.take_succ_eq_append_getElem (by simp; omega), List.getElem_map]
    have t2 : (eb.map (·.l)).take (k + 1) = (eb.map (·.l)).take k ++ [eb[k].l] := by rw [List.take_succ_eq_append_getElem (by simp; omega), List.getElem_map]
    have m1 : (ea.map (·.l))[k]? = some ea[k].l := by rw [List.getElem?_map, hx]; rfl
    have m2 : (eb.map (·.l))[k]? = some eb[k].l := by rw [List.getElem?_map, hy]; rfl
    generalize ea[k] = y at *
    generalize eb[k] = z at *
    have hym := List.mem_of_getElem? hx
    have hzm := List.mem_of_getElem? hy
    refine ⟨y.a, y.l.length, y.c, ldC hA hx, by omega, fun _ => ⟨hb' (by omega), fun _ => ⟨z.a, z.l.length, z.c, ldC hB hy, ?_⟩⟩⟩
    refine (sameI_ok y.a y.l.length y.c y.l z.a z.l.length z.c z.l Sa Sb (.of fun R h H => (hA R h H).2.2 y hym) (.of fun R h H => (hB R h H).2.2 z hzm) rfl rfl (ha y hym)).weak (fun _ _ h => h) ?_
    rintro v R h ⟨rfl, H⟩
    refine ⟨_, rfl, ⟨fun h3 => no (fun e => ?_) (.refl _), fun h3 => ⟨inI64 _ (by omega) (by omega), fun _ => ⟨⟨k + 1, by omega, by omega, ?_⟩, by dsimp only; omega⟩⟩⟩, H⟩
    · injection e with _ e
      rw [e] at m1
      rw [m1] at m2
      have : y.l = z.l := Option.some.inj m2
      simp [this] at h3
    · rw [t1, t2, hpre]
      have : y.l = z.l := by simpa using h3
      rw [this]
  · have : k = ea.length := by omega
    rw [this, List.take_of_length_le (by simp), List.take_of_length_le (by simp; omega)] at hpre
    exact .of fun R h' H => ⟨by rw [he, hpre]; simp, H⟩
end Go.Proofs.YtbmajijnjkicmaaGreatDoor



namespace Go.Proofs.YtbmajijnjkicmaaGreatDoor
open Go.Proofs.YtbmajijnjkicmaaGreatDoor RX
set_option maxRecDepth 100000

theorem beN_snoc (v n : Nat) : beN v (n + 1) = beN (v / 256) n ++ [UInt8.ofNat v] := by
  unfold beN
  rw [List.range_succ, List.map_append]
  congr 1
  · refine List.map_congr_left fun j hj => ?_
    have hj := List.mem_range.1 hj
    unfold byteAt
    have e : 2 ^ (8 * (n + 1 - 1 - j)) = 256 * 2 ^ (8 * (n - 1 - j)) := by
      rw [show 8 * (n + 1 - 1 - j) = 8 * (n - 1 - j) + 8 by omega, Nat.pow_add]; omega
    rw [e, Nat.div_div_eq_div_mul]
  · simp [byteAt]
theorem beV_beN : ∀ (n v : Nat), v < 256 ^ n → beV (beN v n) = v
  | 0, v, h => by simp at h; subst h; rfl
  | n + 1, v, h => by
    rw [beN_snoc, beV_snoc, beV_beN n (v / 256) (by rw [Nat.pow_succ] at h; omega), UInt8.toNat_ofNat']
    omega
theorem unwrap_wrap (l : List UInt8) : unwrapS (wrapS l) = some l := by
  have h4 : (256 : Nat) ^ 4 = 4294967296 := by decide
  unfold unwrapS
  rw [wrapS_len, if_neg (by omega), Nat.add_sub_cancel]
  unfold wrapS
  rw [List.drop_left, List.take_left, beV_beN 4 _ (by have := sumS_lt l; omega), if_pos rfl]
end Go.Proofs.YtbmajijnjkicmaaGreatDoor



namespace Go.Proofs.YtbmajijnjkicmaaGreatDoor
set_option linter.unusedSimpArgs false
set_option linter.unusedVariables false
open Go.Proofs.YtbmajijnjkicmaaGreatDoor RX
set_option maxRecDepth 100000

theorem eqlFn {t ty : TypeId} {i : Nat} {f : FuncId} {caps : Array Value} {A : HP} {ps rs : Array TypeId} {vd : Bool} (ht : Tryz.prog.underlying t = some (.func ps rs vd)) (hg : Tryz.prog.eqGuardType Tryz.prog.depth t = false) : ORead Tryz.prog (semW (.binOp .eql t (.tmp i) (.const .nilFunc) t) ty [(i, .func (.func f) #[] caps)]) A (.bool false) := fun w R h F s _ => by
  have e0 : ∀ n, (Op.equalIn (n + 1) t (.func (.func f) #[] caps) .nilFunc).run Tryz.prog w = .ok false w := fun n => by
    simp only [Op.equalIn, Sem.run_bind, RX.run_underlying ht, Result.andThen_ok, Sem.run_pure]
  have e : (Op.equal t (.func (.func f) #[] caps) .nilFunc).run Tryz.prog w = .ok false w := e0 9999
  have := (binOp_equal (P := Tryz.prog) (w := w) (.inr (.inr (.inr (.inr ⟨_, _, _, rfl⟩)))) e).1
  simp only [semW, execOp, arW, List.find?_cons, beq_self_eq_true, Option.map_some, Option.getD_some]
  simp [eqGuard, hg, program, Sem.run_bind, this]
def byI (k : Int) : UInt8 := UInt8.ofNat (IntKind.u8.wrap k).toNat
theorem byI_val (k : Int) : ((byI k).toNat : Int) = IntKind.u8.wrap k := by
  have h1 : 0 ≤ IntKind.u8.wrap k ∧ IntKind.u8.wrap k < 256 := by
    simp only [IntKind.wrap, IntKind.bits, IntKind.signed, Bool.false_and, Bool.false_eq_true, if_false]; omega
  unfold byI
  rw [UInt8.toNat_ofNat']
  omega
def chB (c : List Int) : List UInt8 := beN c.length 4 ++ c.map byI
def plB (p : PlP) : List UInt8 := beN p.ep.toNat 4 ++ (beN p.ch.length 4 ++ p.ch.flatMap chB)
def plS (p : PlP) : List UInt8 := wrapS (plB p)
theorem fgoE2 : Fgo Tryz.prog 126 := ⟨_, Tryz.func126, by kernel_rfl, by kernel_rfl⟩
theorem fgoE1 : Fgo Tryz.prog 124 := ⟨_, Tryz.func124, by kernel_rfl, by kernel_rfl⟩
theorem enc2_ok (b : Nat) (l : List UInt8) (x : Int) (hb : l.length < 140737488355328) : Tri Tryz.prog 126 #[.pointer (some ⟨b, 0, none⟩), .int .i64 x] (WRep b l) (fun v => HP.and (v = .tuple #[]) (WRep b (l ++ [byI x]))) := by
  refine tri_of_tree (ρ := [.n b, .p (WRep b l), .i x]) mixed Tryz.func126 tree_plEnc2 ?_
  unfold t_plEnc2
  simp only [T.den, E.prop, E.den, RX.look, F1.app, F2.app, Uni.int_i, Uni.nat_n, Uni.bool_c, Uni.str_s, Uni.adr_a, Uni.val_v, Uni.hp_p, hden, cden, V.den, W.den, A.den, BR.den, SA.den, FV.den, capV, exs, exP, allP, Cur.app, List.map_cons, List.map_nil, List.cons_append, List.nil_append, List.drop_succ_cons, List.drop_zero, List.length_cons, List.length_nil, Nat.zero_add, Nat.reduceAdd, Int.neg_neg, Bool.not_not, List.append_nil, Nat.add_zero, List.getElem?_cons_zero, List.getElem?_cons_succ, Decidable.not_not, semW_eq, ne_eq, Nat.reduceEqDiff, not_false_eq_true]
  rw [← byI_val]
  refine (wByte_ok b l (byI x) hb).weak (fun _ _ h => h) ?_
  rintro v R h ⟨rfl, H⟩
  exact ⟨_, rfl, .of fun R h H => ⟨trivial, H⟩, H⟩
theorem wrapN {n : Nat} (h : n ≤ 1000000000000) : IntKind.u64.wrap (n : Int) = n := wrap_in ⟨by simp [IntKind.min, IntKind.signed], by simp [IntKind.max, IntKind.signed, IntKind.bits]; omega⟩
set_option maxHeartbeats 1000000 in
theorem putI_ok (b : Nat) (l : List UInt8) (S : HP) (a : Option Addr) (n c : Nat) (q : List Int) (hr : RdL S a n (q.map i64v)) (hl : q.length = n) (hn : n ≤ 1000000) (hb : l.length ≤ 100000000000) :
    Tri Tryz.prog 125 #[.pointer (some ⟨b, 0, none⟩), .slice a n c, .func (.func 126) #[] #[]] (HP.sep (WRep b l) S)
      (fun v => HP.and (v = .tuple #[]) (HP.sep (WRep b (l ++ chB q)) S)) := by
  refine Tri.fact (φ := a = none → n = 0) (fun R h H => hr.none R _ (HP.sep_right H)) fun ha => ?_
  refine (tri_of_tree (ρ := [.n b, .p (WRep b l), .a a, .n n, .n c, .p S, .v (.func (.func 126) #[] #[]), .p HP.tt]) mixed Tryz.func125 tree_putI ?_).weak
    (fun R h H => HP.sep_assoc (HP.sep_tt H)) fun _ _ _ h => h
  unfold t_putI
  simp only [T.den, E.prop, E.den, RX.look, F1.app, F2.app, Uni.int_i, Uni.nat_n, Uni.bool_c, Uni.str_s, Uni.adr_a, Uni.val_v, Uni.hp_p, hden, cden, V.den, W.den, A.den, BR.den, SA.den, FV.den, capV, exs, exP, allP, Cur.app, List.map_cons, List.map_nil, List.cons_append, List.nil_append, List.drop_succ_cons, List.drop_zero, List.length_cons, List.length_nil, Nat.zero_add, Nat.reduceAdd, Int.neg_neg, Bool.not_not, List.append_nil, Nat.add_zero, List.getElem?_cons_zero, List.getElem?_cons_succ, Decidable.not_not, semW_eq, semW_load, ne_eq, Nat.reduceEqDiff, not_false_eq_true]
  rw [wrapN (by omega)]
  refine (wNumber_ok b l n 4 (by omega) (by omega)).weak (fun _ _ h => h) ?_
  rintro v R h ⟨rfl, H⟩
  refine ⟨_, rfl, ⟨false, eqlFn Tryz.underlying174 (by kernel_rfl), fun h => (by cases h), fun _ => ?_⟩, H⟩
  refine ⟨fun k p q' => ∃ j : Nat, k = j ∧ j ≤ n ∧ HP.ent p (WRep b (l ++ beN n 4 ++ (q.take j).map byI)) ∧ q' = HP.tt, fun k _ _ => n - k.toNat, ⟨0, rfl, Nat.zero_le _, by simpa using HP.ent.refl _, rfl⟩, ?_⟩
  rintro k p _ ⟨j, rfl, hj, hp, rfl⟩
  refine ⟨fun hlt => ⟨by omega, fun _ => ⟨Option.isSome_iff_ne_none.2 fun e => (by have := ha e; omega), fun _ => ?_⟩⟩, fun hge => ?_⟩
  · have hjl : j < q.length := by omega
    have hx : q[j]? = some q[j] := List.getElem?_eq_getElem hjl
    refine ⟨q[j], ldI hr.rd hx, ?_⟩
    refine .inl ⟨_, #[], rfl, fgoE2, ?_⟩
    refine (enc2_ok b _ q[j] (by simp [beN_len]; omega)).conseq ((HP.ent.of fun R h H => HP.sep_comm H).trans ((HP.ent.sep hp HP.tt))) fun v => .of fun R h H => ?_
    obtain ⟨rfl, H1⟩ := HP.sep_left H
    refine ⟨HP.tt, _, rfl, ⟨inI64 _ (by omega) (by omega), fun _ => ⟨⟨j + 1, by omega, by omega, ?_, rfl⟩, by dsimp only; omega⟩⟩, HP.tt_sep H1⟩
    rw [List.take_succ_eq_append_getElem hjl, List.map_append, ← List.append_assoc]
    exact .refl _
  · have e : j = q.length := by omega
    rw [e, List.take_length] at hp
    refine (HP.ent.sep2 hp (HP.ent.refl _)).trans (.of fun R h H => ⟨trivial, ?_⟩)
    have e2 : l ++ chB q = l ++ beN n 4 ++ q.map byI := by unfold chB; rw [hl, List.append_assoc]
    rw [e2]
    exact HP.sep_mono H (fun _ h => h) fun _ h => HP.sep_left h
theorem enc1_ok (b : Nat) (l : List UInt8) (S : HP) (a : Option Addr) (n c : Nat) (q : List Int) (hr : RdL S a n (q.map i64v)) (hl : q.length = n) (hn : n ≤ 1000000) (hb : l.length ≤ 100000000000) :
    Tri Tryz.prog 124 #[.pointer (some ⟨b, 0, none⟩), .slice a n c] (HP.sep (WRep b l) S) (fun v => HP.and (v = .tuple #[]) (HP.sep (WRep b (l ++ chB q)) S)) := by
  refine tri_of_tree (ρ := [.n b, .p (WRep b l), .a a, .n n, .n c, .p S]) mixed Tryz.func124 tree_plEnc1 ?_
  unfold t_plEnc1
  simp only [T.den, E.prop, E.den, RX.look, F1.app, F2.app, Uni.int_i, Uni.nat_n, Uni.bool_c, Uni.str_s, Uni.adr_a, Uni.val_v, Uni.hp_p, hden, cden, V.den, W.den, A.den, BR.den, SA.den, FV.den, capV, exs, exP, allP, Cur.app, List.map_cons, List.map_nil, List.cons_append, List.nil_append, List.drop_succ_cons, List.drop_zero, List.length_cons, List.length_nil, Nat.zero_add, Nat.reduceAdd, Int.neg_neg, Bool.not_not, List.append_nil, Nat.add_zero, List.getElem?_cons_zero, List.getElem?_cons_succ, Decidable.not_not, semW_eq, ne_eq, Nat.reduceEqDiff, not_false_eq_true]
  refine (putI_ok b l S a n c q hr hl hn hb).weak (fun _ _ h => h) ?_
  rintro v R h ⟨rfl, H⟩
  exact ⟨_, _, rfl, .of fun R h H => ⟨trivial, H⟩, H⟩
theorem chB_len (c : List Int) : (chB c).length = 4 + c.length := by simp [chB, beN_len]
theorem flat_chB (q : List (List Int)) (m : Nat) (h : ∀ c ∈ q, c.length ≤ m) : (q.flatMap chB).length ≤ q.length * (4 + m) := by
  induction q with
  | nil => simp
  | cons c r ih =>
    have h1 := h c (by simp)
    have h2 := ih fun d hd => h d (by simp [hd])
    rw [List.flatMap_cons, List.length_append, chB_len, List.length_cons, Nat.succ_mul]
    omega
set_option maxHeartbeats 1000000 in
theorem putC_ok (b : Nat) (l : List UInt8) (S : HP) (a : Option Addr) (n c : Nat) (es : List ChE) (hS : ∀ R h, S.p R h → (Ls kCh a n es).p R h) (hn : n ≤ 1000) (hes : ∀ x ∈ es, x.l.length ≤ 1000000) (hb : l.length ≤ 1000) :
    Tri Tryz.prog 123 #[.pointer (some ⟨b, 0, none⟩), .slice a n c, .func (.func 124) #[] #[]] (HP.sep (WRep b l) S)
      (fun v => HP.and (v = .tuple #[]) (HP.sep (WRep b (l ++ (beN es.length 4 ++ (es.map (·.l)).flatMap chB))) S)) := by
  refine Tri.fact (φ := es.length = n ∧ (n ≠ 0 → a.isSome = true)) (fun R h H => ⟨(hS R _ (HP.sep_right H)).1, fun hn => RoC.some (hS R _ (HP.sep_right H)).2.1 (by omega)⟩) fun ⟨hl, hs⟩ => ?_
  refine (tri_of_tree (ρ := [.n b, .p (WRep b l), .a a, .n n, .n c, .p S, .v (.func (.func 124) #[] #[]), .p HP.tt]) mixed Tryz.func123 tree_putC ?_).weak
    (fun R h H => HP.sep_assoc (HP.sep_tt H)) fun _ _ _ h => h
  unfold t_putC
  simp only [T.den, E.prop, E.den, RX.look, F1.app, F2.app, Uni.int_i, Uni.nat_n, Uni.bool_c, Uni.str_s, Uni.adr_a, Uni.val_v, Uni.hp_p, hden, cden, V.den, W.den, A.den, BR.den, SA.den, FV.den, capV, exs, exP, allP, Cur.app, List.map_cons, List.map_nil, List.cons_append, List.nil_append, List.drop_succ_cons, List.drop_zero, List.length_cons, List.length_nil, Nat.zero_add, Nat.reduceAdd, Int.neg_neg, Bool.not_not, List.append_nil, Nat.add_zero, List.getElem?_cons_zero, List.getElem?_cons_succ, Decidable.not_not, semW_eq, semW_load, ne_eq, Nat.reduceEqDiff, not_false_eq_true]
  rw [wrapN (by omega)]
  refine (wNumber_ok b l n 4 (by omega) (by omega)).weak (fun _ _ h => h) ?_
  rintro v R h ⟨rfl, H⟩
  refine ⟨_, rfl, ⟨false, eqlFn Tryz.underlying175 (by kernel_rfl), fun h => (by cases h), fun _ => ?_⟩, H⟩
  refine ⟨fun k p q' => ∃ j : Nat, k = j ∧ j ≤ n ∧ HP.ent p (WRep b (l ++ beN n 4 ++ ((es.take j).map (·.l)).flatMap chB)) ∧ q' = HP.tt, fun k _ _ => n - k.toNat, ⟨0, rfl, Nat.zero_le _, by simpa using HP.ent.refl _, rfl⟩, ?_⟩
  rintro k p _ ⟨j, rfl, hj, hp, rfl⟩
  refine ⟨fun hlt => ⟨by omega, fun _ => ⟨hs (by omega), fun _ => ?_⟩⟩, fun hge => ?_⟩
  · have hjl : j < es.length := by omega
    have hx : es[j]? = some es[j] := List.getElem?_eq_getElem hjl
    have htk : ((es.take (j + 1)).map (·.l)).flatMap chB = ((es.take j).map (·.l)).flatMap chB ++ chB es[j].l := by
      rw [List.take_succ_eq_append_getElem hjl, List.map_append, List.flatMap_append]; simp
    have hxm := List.mem_of_getElem? hx
    generalize es[j] = x at *
    have hbnd := flat_chB ((es.take j).map (·.l)) 1000000 fun c hc => by
      obtain ⟨y, hy, rfl⟩ := List.mem_map.1 hc
      exact hes y (List.mem_of_mem_take hy)
    have hbnd2 : ((es.take j).map (·.l)).length * (4 + 1000000) ≤ 1000 * (4 + 1000000) := Nat.mul_le_mul_right _ (by simp; omega)
    refine ⟨x.a, x.l.length, x.c, ldC hS hx, ?_⟩
    refine .inl ⟨_, #[], rfl, fgoE1, ?_⟩
    refine (enc1_ok b _ S x.a x.l.length x.c x.l (.of fun R h H => (hS R h H).2.2 x hxm) rfl (hes x hxm) (by simp only [List.length_append, beN_len]; omega)).conseq (K := HP.tt) ((HP.ent.of fun R h H => HP.pick [HP.tt, p, S] [1, 2] (by decide) rfl H).trans ((HP.ent.sep hp S).trans (.of fun R h H => HP.sep_tt H))) fun v => .of fun R h H => ?_
    obtain ⟨rfl, H1⟩ := HP.sep_left H
    refine ⟨HP.tt, _, rfl, ⟨inI64 _ (by omega) (by omega), fun _ => ⟨⟨j + 1, by omega, by omega, ?_, rfl⟩, by dsimp only; omega⟩⟩, HP.tt_sep H1⟩
    rw [htk, ← List.append_assoc]
    exact .refl _
  · have e : j = es.length := by omega
    rw [e, List.take_length] at hp
    refine (HP.ent.sep2 hp (HP.ent.refl _)).trans (.of fun R h H => ⟨trivial, ?_⟩)
    have e2 : l ++ (beN es.length 4 ++ (es.map (·.l)).flatMap chB) = l ++ beN n 4 ++ (es.map (·.l)).flatMap chB := by rw [hl, List.append_assoc]
    rw [e2]
    exact HP.sep_mono H (fun _ h => h) fun _ h => HP.sep_left h
set_option maxHeartbeats 1000000 in
theorem plEnc_ok (ep : Int) (S : HP) (a : Option Addr) (n c : Nat) (es : List ChE) (hS : ∀ R h, S.p R h → (Ls kCh a n es).p R h) (h0 : 0 ≤ ep) (h1 : ep ≤ 2147483648) (hn : n ≤ 1000) (hes : ∀ x ∈ es, x.l.length ≤ 1000000) :
    Tri Tryz.prog 72 #[.agg #[.int .i64 ep, .slice a n c]] S (fun v => HP.ex fun a' => HP.ex fun c' => HP.and (v = .slice a' (plS ⟨ep, es.map (·.l)⟩).length c') (HP.sep S (OwB a' (plS ⟨ep, es.map (·.l)⟩).length c' (plS ⟨ep, es.map (·.l)⟩)))) := by
  refine tri_of_tree (ρ := [.i ep, .a a, .n n, .n c, .p S]) mixed Tryz.func72 tree_plEnc ?_
  unfold t_plEnc
  simp only [T.den, E.prop, E.den, RX.look, F1.app, F2.app, Uni.int_i, Uni.nat_n, Uni.bool_c, Uni.str_s, Uni.adr_a, Uni.val_v, Uni.hp_p, hden, cden, V.den, W.den, A.den, BR.den, SA.den, FV.den, capV, exs, exP, allP, Cur.app, List.map_cons, List.map_nil, List.cons_append, List.nil_append, List.drop_succ_cons, List.drop_zero, List.length_cons, List.length_nil, Nat.zero_add, Nat.reduceAdd, Int.neg_neg, Bool.not_not, List.append_nil, Nat.add_zero, List.getElem?_cons_zero, List.getElem?_cons_succ, Decidable.not_not, semW_eq, ne_eq, Nat.reduceEqDiff, not_false_eq_true]
  intro _ x
  refine Tri.fact (φ := True) (fun _ _ _ => trivial) fun _ => ?_
  have hw : IntKind.u64.wrap ep = (ep.toNat : Int) := by
    have : ep = (ep.toNat : Int) := by omega
    conv => lhs; rw [this]
    exact wrapN (by omega)
  rw [hw]
  refine (wNumber_ok x [] ep.toNat 4 (by omega) (by simp)).weak (fun R h H => ⟨none, 0, HP.sep_comm (HP.sep_mono (HP.tt_sep H) (fun y _ => OwC.nil _ _ R y) fun _ h => h)⟩) ?_
  rintro v R h ⟨rfl, xa, xc, H⟩
  refine ⟨xa, _, xc, OwB xa _ xc _, rfl, ?_, H⟩
  clear H
  have hsm : es.length ≤ 1000 ∨ True := .inr trivial
  have hplB : [] ++ beN ep.toNat 4 ++ (beN es.length 4 ++ (es.map (·.l)).flatMap chB) = plB ⟨ep, es.map (·.l)⟩ := by unfold plB; simp
  refine Tri.fact (φ := es.length = n) (fun R h H => (hS R _ (HP.sep_right (HP.sep_right H))).1) fun hl => ?_
  have hbnd := flat_chB (es.map (·.l)) 1000000 fun c hc => by
    obtain ⟨y, hy, rfl⟩ := List.mem_map.1 hc
    exact hes y hy
  have hbnd2 : (es.map (·.l)).length * (4 + 1000000) ≤ 1000 * (4 + 1000000) := Nat.mul_le_mul_right _ (by simp; omega)
  have elen : (plB ⟨ep, es.map (·.l)⟩).length ≤ 100000000000 := by
    unfold plB
    simp only [List.length_append, beN_len]
    omega
  refine (putC_ok x ([] ++ beN ep.toNat 4) S a n c es hS hn hes (by simp [beN_len])).weak (fun R h H => HP.sep_mono (HP.sep_assoc' H) (fun _ h => ⟨xa, xc, h⟩) fun _ h => h) ?_
  rw [hplB]
  rintro v R h ⟨rfl, h1, h2, d, q1, q2, ⟨ya, yc, HW⟩, HN⟩
  refine ⟨ya, _, yc, OwB ya _ yc _, S, rfl, ?_, HP.sep_assoc ⟨h1, h2, d, q1, q2, HW, HN⟩⟩
  refine (wOut_ok x (plB ⟨ep, es.map (·.l)⟩) (by omega)).weak (fun R h H => ⟨ya, yc, H⟩) ?_
  rintro v R h ⟨a', c', rfl, h1, h2, d, q1, q2, ⟨za, zc, HW⟩, HO⟩
  have ha' : (plB ⟨ep, es.map (·.l)⟩).length ≠ 0 → a'.isSome = true := fun h => OwC.some HO (by omega)
  refine ⟨a', _, c', OwB a' _ c' _, za, _, zc, OwB za _ zc _, rfl, ?_, h2, h1, d.symm, q2, q1, HO, HW⟩
  refine (wrap_ok a' _ c' _ _ (RdL.ow _ _ _ _ _ _) rfl ha' (by omega)).weak (fun _ _ h => h) ?_
  rintro v R h ⟨b', d', rfl, H⟩
  exact ⟨b', _, d', OwB b' _ d' _, _, rfl, .of fun R h H => ⟨b', d', rfl, H⟩, HP.sep_comm H⟩
end Go.Proofs.YtbmajijnjkicmaaGreatDoor



namespace Go.Proofs.YtbmajijnjkicmaaGreatDoor
set_option linter.unusedSimpArgs false
set_option linter.unusedVariables false
open Go.Proofs.YtbmajijnjkicmaaGreatDoor RX
set_option maxRecDepth 100000

def byR (s : RS) : Int × RS := ((((numR s 1).1 % 256 : Nat) : Int), (numR s 1).2)
def chR (s : RS) : List Int × RS := listR byR 7 s
theorem byR_shrinks : Shrinks byR := fun s h => by have := (numR_false (s := s) (n := 1) h).2; show (numR s 1).2.1.length + 1 ≤ _; omega
theorem byR_le (s : RS) : (byR s).2.1.length ≤ s.1.length := numR_le s 1
theorem chR_shrinks : Shrinks chR := fun s h => by
  unfold chR at h ⊢
  rw [listR_snd] at h ⊢
  have h1 := toldR_false (loopR_false h)
  have h2 := loopR_le (f := byR) byR_le (toldR s 7).1 (toldR s 7).2
  omega
theorem chR_le (s : RS) : (chR s).2.1.length ≤ s.1.length := listR_le (f := byR) byR_le 7 s
theorem dec2_ok (b : Nat) (s : RS) : Tri Tryz.prog 118 #[.pointer (some ⟨b, 0, none⟩)] (RRep b s) (fun v => HP.and (v = .int .i64 (byR s).1) (RRep b (byR s).2)) := by
  refine tri_of_tree (ρ := [.n b, .p (RRep b s)]) mixed Tryz.func118 tree_plDec2 ?_
  unfold t_plDec2
  simp only [T.den, E.prop, E.den, RX.look, F1.app, F2.app, Uni.int_i, Uni.nat_n, Uni.bool_c, Uni.str_s, Uni.adr_a, Uni.val_v, Uni.hp_p, hden, cden, V.den, W.den, A.den, BR.den, SA.den, FV.den, capV, exs, exP, allP, Cur.app, List.map_cons, List.map_nil, List.cons_append, List.nil_append, List.drop_succ_cons, List.drop_zero, List.length_cons, List.length_nil, Nat.zero_add, Nat.reduceAdd, Int.neg_neg, Bool.not_not, List.append_nil, Nat.add_zero, List.getElem?_cons_zero, List.getElem?_cons_succ, Decidable.not_not, semW_eq, ne_eq, Nat.reduceEqDiff, not_false_eq_true]
  refine (rByte_ok b s).weak (fun _ _ h => h) ?_
  rintro v R h ⟨rfl, H⟩
  exact ⟨_, _, rfl, ⟨inI64 _ (by omega) (by omega), fun _ => .of fun R h H => ⟨rfl, H⟩⟩, H⟩
set_option maxHeartbeats 1000000 in
theorem listI_ok (b : Nat) (s : RS) (most : Int) (hL : s.1.length ≤ 100000000) : Tri Tryz.prog 117 #[.pointer (some ⟨b, 0, none⟩), .int .i64 most, .func (.func 118) #[] #[]] (RRep b s)
    (fun v => HP.ex fun a => HP.ex fun c => HP.and (v = .slice a (listR byR most s).1.length c) (HP.sep (OwI a (listR byR most s).1.length c (listR byR most s).1) (RRep b (listR byR most s).2))) := by
  refine tri_of_tree (ρ := [.n b, .p (RRep b s), .i most, .v (.func (.func 118) #[] #[]), .p HP.tt]) mixed Tryz.func117 tree_listI ?_
  unfold t_listI
  simp only [T.den, E.prop, E.den, RX.look, F1.app, F2.app, Uni.int_i, Uni.nat_n, Uni.bool_c, Uni.str_s, Uni.adr_a, Uni.val_v, Uni.hp_p, hden, cden, V.den, W.den, A.den, BR.den, SA.den, FV.den, capV, exs, exP, allP, Cur.app, List.map_cons, List.map_nil, List.cons_append, List.nil_append, List.drop_succ_cons, List.drop_zero, List.length_cons, List.length_nil, Nat.zero_add, Nat.reduceAdd, Int.neg_neg, Bool.not_not, List.append_nil, Nat.add_zero, List.getElem?_cons_zero, List.getElem?_cons_succ, Decidable.not_not, semW_eq, semW_load, semW_append, ne_eq, Nat.reduceEqDiff, not_false_eq_true]
  intro x y
  refine (rTold_ok b s most).weak (fun _ _ h => h) ?_
  rintro v R h ⟨rfl, H⟩
  refine ⟨_, _, rfl, fun z => ?_, H⟩
  refine (turns_ok b _ (RRep b (toldR s most).2)).weak (fun _ _ h => h) ?_
  rintro v R h ⟨nb, rb, rfl, H⟩
  refine ⟨.func (.func 148) #[] #[.pointer (some ⟨nb, 0, none⟩), .pointer (some ⟨rb, 0, none⟩)], TBox nb rb b _, rfl, fun u => ?_, H⟩
  have hn := toldR_lt s most
  have hL1 : (toldR s most).2.1.length ≤ 100000000 := Nat.le_trans (toldR_len s most) hL
  have hlist : listR byR most s = if (loopR byR (toldR s most).1 (toldR s most).2).2.2 then ([], (loopR byR (toldR s most).1 (toldR s most).2).2) else loopR byR (toldR s most).1 (toldR s most).2 := rfl
  generalize hN : (toldR s most).1 = N at *
  generalize hS1 : (toldR s most).2 = s1 at *
  refine ⟨Nat × RS, fun g => RRep b g.2, fun _ _ => HP.tt, mayT N, finT N, (0, s1), fun g p a n c q => p = RRep b g.2 ∧ ∃ ll, n = ll.length ∧ HP.ent q (OwI a n c ll) ∧ Sofar byR N s1 g ll, turns_seq nb rb b N (by omega) s1, ?_, ?_, ?_, ?_⟩
  · exact ⟨rfl, [], rfl, .of fun R h _ => OwC.nil _ _ R h, Sofar.init _ _ _⟩
  · rintro g p a n c q ⟨rfl, _⟩; rfl
  · rintro g args ⟨g', rfl, hi, hw, _⟩ p a n c q ⟨rfl, ll, rfl, hq, hs⟩
    refine ⟨(g.1 : Int), rfl, .of fun _ _ _ => trivial, ?_⟩
    refine (dec2_ok b g.2).weak (fun _ _ h => h) ?_
    rintro v R h ⟨rfl, H⟩
    refine ⟨_, _, rfl, fun e => ?_, H⟩
    have hll : ll.length ≤ 100000000 := by have := hs.2.1 hw; omega
    refine (appendI a ll.length c ll (HP.one e (.cells #[.int .i64 (byR g.2).1] 3 (0, 0))) ⟨e, 0, none⟩ 1 1 [(byR g.2).1] (one_rd e #[.int .i64 (byR g.2).1] 3) rfl (by omega)).conseq (K := HP.tt) ((hq.sep _).trans (.of fun _ _ => HP.sep_tt)) fun v => .of fun R h H => ?_
    obtain ⟨a', c', rfl, H'⟩ := HP.sep_left H
    exact ⟨a', _, c', _, rfl, ⟨(g.1 + 1, (byR g.2).2), ⟨rfl, hi, hw, rfl⟩, rfl, ll ++ [(byR g.2).1], by simp, HP.ent.refl _, hs.next byR_shrinks hi hw⟩, H'⟩
  · rintro g hf p a n c q ⟨rfl, ll, rfl, hq, hs⟩
    have hfin := hs.fin hf
    rw [hfin] at hlist
    refine ⟨g.2.2, rrep_rd b g.2, fun hw => .of fun R h H => ?_, fun hw => ((HP.ent.refl _).sep2 hq).trans (.of fun R h H => ?_)⟩
    · rw [hlist, if_pos hw]
      exact ⟨none, 0, rfl, HP.sep_comm (HP.sep_mono (HP.sep_tt H) (fun _ h => h) fun y _ => OwC.nil _ _ R y)⟩
    · rw [hlist, if_neg hw]
      exact ⟨a, c, rfl, HP.sep_comm H⟩
theorem dec1_ok (b : Nat) (s : RS) (hL : s.1.length ≤ 100000000) : Tri Tryz.prog 116 #[.pointer (some ⟨b, 0, none⟩)] (RRep b s)
    (fun v => HP.ex fun a => HP.ex fun c => HP.and (v = .slice a (chR s).1.length c) (HP.sep (RoI a (chR s).1.length (chR s).1) (RRep b (chR s).2))) := by
  refine tri_of_tree (ρ := [.n b, .p (RRep b s)]) mixed Tryz.func116 tree_plDec1 ?_
  unfold t_plDec1
  simp only [T.den, E.prop, E.den, RX.look, F1.app, F2.app, Uni.int_i, Uni.nat_n, Uni.bool_c, Uni.str_s, Uni.adr_a, Uni.val_v, Uni.hp_p, hden, cden, V.den, W.den, A.den, BR.den, SA.den, FV.den, capV, exs, exP, allP, Cur.app, List.map_cons, List.map_nil, List.cons_append, List.nil_append, List.drop_succ_cons, List.drop_zero, List.length_cons, List.length_nil, Nat.zero_add, Nat.reduceAdd, Int.neg_neg, Bool.not_not, List.append_nil, Nat.add_zero, List.getElem?_cons_zero, List.getElem?_cons_succ, Decidable.not_not, semW_eq, ne_eq, Nat.reduceEqDiff, not_false_eq_true]
  refine (listI_ok b s 7 hL).weak (fun _ _ h => h) ?_
  rintro v R h ⟨a, c, rfl, H⟩
  refine ⟨a, _, c, _, _, rfl, ?_, H⟩
  exact ((HP.ent.of fun R h H => HP.sep_comm H).trans (HP.ent.sep (OwC.share _ _ _ _ _ _) _)).trans (.of fun R h H => ⟨a, c, rfl, H⟩)
set_option maxHeartbeats 1000000 in
theorem listC_ok (b : Nat) (s : RS) (most : Int) (hL : s.1.length ≤ 100000000) : Tri Tryz.prog 115 #[.pointer (some ⟨b, 0, none⟩), .int .i64 most, .func (.func 116) #[] #[]] (RRep b s)
    (fun v => HP.ex fun a => HP.ex fun c => HP.ex fun es : List ChE => HP.and (v = .slice a es.length c ∧ es.map (·.l) = (listR chR most s).1) (HP.sep (PL pkC a es.length c es) (RRep b (listR chR most s).2))) := by
  refine tri_of_tree (ρ := [.n b, .p (RRep b s), .i most, .v (.func (.func 116) #[] #[]), .p HP.tt]) mixed Tryz.func115 tree_listC ?_
  unfold t_listC
  simp only [T.den, E.prop, E.den, RX.look, F1.app, F2.app, Uni.int_i, Uni.nat_n, Uni.bool_c, Uni.str_s, Uni.adr_a, Uni.val_v, Uni.hp_p, hden, cden, V.den, W.den, A.den, BR.den, SA.den, FV.den, capV, exs, exP, allP, Cur.app, List.map_cons, List.map_nil, List.cons_append, List.nil_append, List.drop_succ_cons, List.drop_zero, List.length_cons, List.length_nil, Nat.zero_add, Nat.reduceAdd, Int.neg_neg, Bool.not_not, List.append_nil, Nat.add_zero, List.getElem?_cons_zero, List.getElem?_cons_succ, Decidable.not_not, semW_eq, semW_load, semW_append, ne_eq, Nat.reduceEqDiff, not_false_eq_true]
  intro x y
  refine (rTold_ok b s most).weak (fun _ _ h => h) ?_
  rintro v R h ⟨rfl, H⟩
  refine ⟨_, _, rfl, fun z => ?_, H⟩
  refine (turns_ok b _ (RRep b (toldR s most).2)).weak (fun _ _ h => h) ?_
  rintro v R h ⟨nb, rb, rfl, H⟩
  refine ⟨.func (.func 148) #[] #[.pointer (some ⟨nb, 0, none⟩), .pointer (some ⟨rb, 0, none⟩)], TBox nb rb b _, rfl, fun u => ?_, H⟩
  have hn := toldR_lt s most
  have hL1 : (toldR s most).2.1.length ≤ 100000000 := Nat.le_trans (toldR_len s most) hL
  have hlist : listR chR most s = if (loopR chR (toldR s most).1 (toldR s most).2).2.2 then ([], (loopR chR (toldR s most).1 (toldR s most).2).2) else loopR chR (toldR s most).1 (toldR s most).2 := rfl
  generalize hN : (toldR s most).1 = N at *
  generalize hS1 : (toldR s most).2 = s1 at *
  obtain ⟨i, hi', z1, z2, z3⟩ := info_parts infoIs
  refine ⟨Nat × RS, fun g => RRep b g.2, fun _ _ => HP.tt, mayT N, finT N, (0, s1), fun g p a n c q => p = RRep b g.2 ∧ g.2.1.length ≤ 100000000 ∧ ∃ es : List ChE, n = es.length ∧ HP.ent q (PL pkC a n c es) ∧ Sofar chR N s1 g (es.map (·.l)), turns_seq nb rb b N (by omega) s1, ?_, ?_, ?_, ?_⟩
  · exact ⟨rfl, hL1, [], rfl, .of fun R h _ => PL.nil' _ R h, Sofar.init _ _ _⟩
  · rintro g p a n c q ⟨rfl, _⟩; rfl
  · rintro g args ⟨g', rfl, hi, hw, _⟩ p a n c q ⟨rfl, hg, es, rfl, hq, hs⟩
    refine ⟨(g.1 : Int), rfl, .of fun _ _ _ => trivial, ?_⟩
    refine (dec1_ok b g.2 hg).weak (fun _ _ h => h) ?_
    rintro v R h ⟨a1, c1, rfl, H⟩
    refine ⟨a1, _, c1, _, _, rfl, fun e => ?_, H⟩
    have hll : es.length ≤ 100000000 := by
      have := hs.2.1 hw
      simp only [List.length_map] at this; omega
    refine (PL.appK (K := pkC) 23 23 undIs hi' z1 (by rw [z2]; rfl) z2 (by rw [z3]; decide) a es.length c es e ⟨a1, c1, (chR g.2).1⟩ (RoI a1 (chR g.2).1.length (chR g.2).1) (by omega)).conseq (K := HP.tt) ((hq.sep _).trans (.of fun R h H => HP.sep_tt (HP.sep_mono H (fun _ h => h) fun z hz => HP.sep_mono hz (fun _ h => h) fun _ h => RoC.join h h))) fun v => .of fun R h H => ?_
    obtain ⟨a', c', rfl, H'⟩ := HP.sep_left H
    have hnx := hs.next chR_shrinks hi hw
    refine ⟨a', _, c', _, rfl, ⟨(g.1 + 1, (chR g.2).2), ⟨rfl, hi, hw, rfl⟩, rfl, Nat.le_trans (chR_le _) hg, es ++ [⟨a1, c1, (chR g.2).1⟩], by simp, HP.ent.refl _, by rw [List.map_append]; exact hnx⟩, H'⟩
  · rintro g hf p a n c q ⟨rfl, hg, es, rfl, hq, hs⟩
    have hfin := hs.fin hf
    rw [hfin] at hlist
    refine ⟨g.2.2, rrep_rd b g.2, fun hw => .of fun R h H => ?_, fun hw => ((HP.ent.refl _).sep2 hq).trans (.of fun R h H => ?_)⟩
    · rw [hlist, if_pos hw]
      exact ⟨none, 0, [], ⟨rfl, rfl⟩, HP.sep_comm (HP.sep_mono (HP.sep_tt H) (fun _ h => h) fun y _ => PL.nil' _ R y)⟩
    · rw [hlist, if_neg hw]
      exact ⟨a, c, es, ⟨rfl, rfl⟩, HP.sep_comm H⟩
theorem listCR_ok (b : Nat) (s : RS) (most : Int) (hL : s.1.length ≤ 100000000) : Tri Tryz.prog 115 #[.pointer (some ⟨b, 0, none⟩), .int .i64 most, .func (.func 116) #[] #[]] (RRep b s)
    (fun v => HP.ex fun a => HP.ex fun c => HP.ex fun es : List ChE => HP.and (v = .slice a es.length c ∧ es.map (·.l) = (listR chR most s).1) (HP.sep (Ls kCh a es.length es) (RRep b (listR chR most s).2))) :=
  (listC_ok b s most hL).post fun v => fun R h d ⟨a, c, es, e, H⟩ => by
    obtain ⟨R1, h1, q1, q2, q3, q4, H1⟩ := (HP.ent.sep (PL.share _ _ _ _) _) R h d H
    exact ⟨R1, h1, q1, q2, q3, q4, a, c, es, e, H1⟩
theorem loopR_mem {α : Type} (f : RS → α × RS) : ∀ (n : Nat) (s : RS) (x : α), x ∈ (loopR f n s).1 → ∃ s', x = (f s').1
  | 0, s, x, h => by cases h
  | n + 1, s, x, h => by
    unfold loopR at h
    split at h
    · cases h
    · rcases List.mem_cons.1 h with e | e
      · exact ⟨s, e⟩
      · exact loopR_mem f n _ x e
theorem loopR_len {α : Type} (f : RS → α × RS) : ∀ (n : Nat) (s : RS), (loopR f n s).1.length ≤ n
  | 0, s => by simp [loopR]
  | n + 1, s => by
    unfold loopR
    split
    · simp
    · have := loopR_len f n (f s).2
      simp only [List.length_cons]; omega
theorem toldR_most (s : RS) (m : Nat) : (toldR s m).1 ≤ m := by
  unfold toldR
  split
  · simp
  · split
    · simp
    · show (numR s 4).1 ≤ m; omega
theorem listR_few {α : Type} (f : RS → α × RS) (m : Nat) (s : RS) : (listR f m s).1.length ≤ m := by
  unfold listR
  split
  · simp
  · exact Nat.le_trans (loopR_len f _ _) (toldR_most s m)
theorem listR_mem {α : Type} (f : RS → α × RS) (m : Int) (s : RS) (x : α) (h : x ∈ (listR f m s).1) : ∃ s', x = (f s').1 := by
  unfold listR at h
  split at h
  · cases h
  · exact loopR_mem f _ _ x h
def rawP (l : List UInt8) : PlP × RS := (⟨(numR (l, false) 4).1, (listR chR 7 (numR (l, false) 4).2).1⟩, (listR chR 7 (numR (l, false) 4).2).2)
def decP (l : List UInt8) : PlP × Int := match unwrapS l with
  | none => (⟨0, []⟩, 3)
  | some i => if (rawP i).2.2 = true ∨ (rawP i).2.1 ≠ [] ∨ rightB (rawP i).1 = false then (⟨0, []⟩, 3) else ((rawP i).1, 0)
theorem unwrapS_le {l i : List UInt8} (h : unwrapS l = some i) : i.length ≤ l.length := by
  unfold unwrapS at h
  split at h
  · cases h
  · split at h
    · cases h; simp
    · cases h
set_option maxHeartbeats 1000000 in
theorem plDec_ok (a : Option Addr) (n c : Nat) (l : List UInt8) (S : HP) (hr : RdL S a n (l.map u8v)) (hl : l.length = n) (hc : n ≤ c) (hL : n ≤ 100000000) :
    Tri Tryz.prog 68 #[.slice a n c] S (fun v => HP.ex fun a' => HP.ex fun c' => HP.ex fun es : List ChE => HP.and (v = .tuple #[.agg #[.int .i64 (decP l).1.ep, .slice a' es.length c'], .int .i64 (decP l).2] ∧ es.map (·.l) = (decP l).1.ch) (HP.sep (Ls kCh a' es.length es) S)) := by
  refine Tri.fact (φ := a = none → n = 0) (fun R h H => hr.none R _ H) fun ha => ?_
  refine tri_of_tree (ρ := [.a a, .n n, .n c, .p S]) mixed Tryz.func68 tree_plDec ?_
  unfold t_plDec
  simp only [T.den, E.prop, E.den, RX.look, F1.app, F2.app, Uni.int_i, Uni.nat_n, Uni.bool_c, Uni.str_s, Uni.adr_a, Uni.val_v, Uni.hp_p, hden, cden, V.den, W.den, A.den, BR.den, SA.den, FV.den, capV, exs, exP, allP, Cur.app, List.map_cons, List.map_nil, List.cons_append, List.nil_append, List.drop_succ_cons, List.drop_zero, List.length_cons, List.length_nil, Nat.zero_add, Nat.reduceAdd, Int.neg_neg, Bool.not_not, List.append_nil, Nat.add_zero, List.getElem?_cons_zero, List.getElem?_cons_succ, Decidable.not_not, semW_eq, ne_eq, Nat.reduceEqDiff, not_false_eq_true]
  have bad : ∀ {K : HP}, decP l = (⟨0, []⟩, 3) → HP.ent K S → HP.ent K (HP.ex fun a' => HP.ex fun c' => HP.ex fun es : List ChE => HP.and (Value.tuple #[.agg #[.int .i64 0, .slice none 0 0], .int .i64 3] = .tuple #[.agg #[.int .i64 (decP l).1.ep, .slice a' es.length c'], .int .i64 (decP l).2] ∧ es.map (·.l) = (decP l).1.ch) (HP.sep (Ls kCh a' es.length es) S)) := fun he hk => hk.trans (.of fun R h H => ⟨none, 0, [], ⟨by rw [he]; rfl, by rw [he]; rfl⟩, HP.sep_comm (HP.sep_mono (HP.sep_tt H) (fun _ h => h) fun y _ => ⟨rfl, RoC.nil _ _ _ _, fun x hx => by cases hx⟩)⟩)
  intro _
  refine (unwrap_ok a n c l S hr hl hc (fun h => Option.isSome_iff_ne_none.2 fun e => h (ha e)) (by omega)).weak (fun _ _ h => h) ?_
  rintro v R h ⟨a1, c1, rfl, H⟩
  refine ⟨a1, _, c1, OwB a1 ((unwrapS l).getD []).length c1 ((unwrapS l).getD []), _, S, rfl, ⟨fun h1 => bad ?_ (.refl _), fun h1 => ?_⟩, HP.sep_comm H⟩
  · cases hu : unwrapS l with
    | none => unfold decP; rw [hu]
    | some i => rw [hu] at h1; simp at h1
  clear H
  obtain ⟨i, hu⟩ : ∃ i, unwrapS l = some i := by
    cases hu : unwrapS l with
    | none => rw [hu] at h1; simp at h1
    | some i => exact ⟨i, rfl⟩
  have hil := unwrapS_le hu
  have hdec : decP l = if (rawP i).2.2 = true ∨ (rawP i).2.1 ≠ [] ∨ rightB (rawP i).1 = false then (⟨0, []⟩, 3) else ((rawP i).1, 0) := by unfold decP; rw [hu]
  rw [hu]
  simp only [Option.getD_some]
  refine (rRead_ok a1 i.length c1 i (OwB a1 i.length c1 i) (RdL.ow _ _ _ _ _ _) rfl (by omega)).weak (fun _ _ h => h) ?_
  rintro v R h ⟨b, rfl, H⟩
  refine ⟨b, RRep b (i, false), _, rfl, ?_, HP.sep_comm H⟩
  clear H
  refine (rNumber_ok b (i, false) 4 (by omega)).weak (fun _ _ h => h) ?_
  rintro v R h ⟨rfl, H⟩
  have hlt := numR_lt (i, false) 4
  have hwr : IntKind.i64.wrap (((numR (i, false) 4).1 : Nat) : Int) = ((numR (i, false) 4).1 : Nat) := wrap_in (inI64 _ (by omega) (by omega))
  refine ⟨_, RRep b (numR (i, false) 4).2, rfl, fun _ => ?_, H⟩
  clear H
  rw [hwr]
  have hlen : (numR (i, false) 4).2.1.length ≤ 100000000 := Nat.le_trans (numR_le _ _) (by show i.length ≤ _; omega)
  refine (listCR_ok b (numR (i, false) 4).2 7 hlen).weak (fun _ _ h => h) ?_
  rintro v R h ⟨a2, c2, es, ⟨rfl, hes⟩, H⟩
  refine ⟨a2, es.length, c2, Ls kCh a2 es.length es, RRep b (listR chR 7 (numR (i, false) 4).2).2, rfl, ?_, H⟩
  clear H
  have hraw : rawP i = (⟨(numR (i, false) 4).1, es.map (·.l)⟩, (listR chR 7 (numR (i, false) 4).2).2) := by unfold rawP; rw [hes]
  rw [hraw] at hdec
  refine (rEnd_ok b _).weak (fun _ _ h => h) ?_
  rintro v R h ⟨rfl, H⟩
  refine ⟨_, _, rfl, ⟨fun h2 => bad ?_ (.of fun R h H => ?_), fun h2 => ?_⟩, H⟩
  · rw [hdec, if_pos]
    split at h2
    · rename_i h3; exact h3.elim .inl fun h => .inr (.inl h)
    · exact absurd rfl h2
  · first | exact H | exact HP.sep_left H | exact HP.sep_right H
  · have hno : ¬ ((listR chR 7 (numR (i, false) 4).2).2.2 = true ∨ (listR chR 7 (numR (i, false) 4).2).2.1 ≠ []) := fun h => by rw [if_pos h] at h2; exact absurd h2 (by decide)
    have h7 : ∀ x ∈ es, x.l.length ≤ 7 := fun x hx => by
      have : x.l ∈ (listR chR 7 (numR (i, false) 4).2).1 := by rw [← hes]; exact List.mem_map.2 ⟨x, hx, rfl⟩
      obtain ⟨s', e⟩ := listR_mem _ _ _ _ this
      rw [e]; exact listR_few byR 7 s'
    refine (right_ok (Ls kCh a2 es.length es) _ a2 es.length c2 es (fun _ _ h => h) (fun x hx => by have := h7 x hx; omega)).weak (fun _ _ h => h) ?_
    rintro v R h ⟨rfl, H⟩
    refine ⟨_, Ls kCh a2 es.length es, rfl, ⟨fun h3 => bad ?_ (.of fun R h H => ?_), fun h3 => .of fun R h H => ⟨a2, c2, es, ?_, ?_⟩⟩, H⟩
    · rw [hdec, if_pos]; exact .inr (.inr (by simpa using h3))
    · first | exact H | exact HP.sep_left H | exact HP.sep_right H
    · have e : decP l = (⟨(numR (i, false) 4).1, es.map (·.l)⟩, 0) := by
        rw [hdec, if_neg]
        rintro (h | h | h)
        · exact hno (.inl h)
        · exact hno (.inr h)
        · rw [h] at h3; cases h3
      rw [e]; exact ⟨rfl, rfl⟩
    · exact HP.sep_comm H

theorem takeA (l r : List UInt8) : takeR (l ++ r, false) l.length = (l, (r, false)) := by
  unfold takeR
  rw [if_neg (by simp), if_neg (by simp)]
  simp
theorem numA {l r : List UInt8} {n : Nat} (h : l.length = n) : numR (l ++ r, false) n = (beV l, (r, false)) := by
  unfold numR; rw [← h, takeA]
theorem toldA {n m : Nat} {r : List UInt8} (h : n ≤ m) (hm : m < 4294967296) : toldR (beN n 4 ++ r, false) m = (n, (r, false)) := by
  unfold toldR
  rw [numA (beN_len _ _), beV_beN 4 n (by omega), if_neg (by simp), if_neg (by omega)]
theorem loopB {α : Type} (f : RS → α × RS) (g : α → List UInt8) : ∀ (l : List α) (_ : ∀ x ∈ l, ∀ r, f (g x ++ r, false) = (x, (r, false))) (r : List UInt8), loopR f l.length (l.flatMap g ++ r, false) = (l, (r, false))
  | [], _, r => rfl
  | x :: l, hf, r => by
    rw [List.length_cons, List.flatMap_cons, List.append_assoc]
    simp only [loopR]
    rw [if_neg (by simp), hf x (by simp)]
    simp only
    rw [loopB f g l (fun y hy => hf y (by simp [hy])) r]
theorem listA {α : Type} (f : RS → α × RS) (g : α → List UInt8) (l : List α) (hf : ∀ x ∈ l, ∀ r, f (g x ++ r, false) = (x, (r, false))) (m : Nat) (hm : l.length ≤ m) (hm2 : m < 4294967296) (r : List UInt8) : listR f m (beN l.length 4 ++ (l.flatMap g ++ r), false) = (l, (r, false)) := by
  unfold listR
  rw [toldA hm hm2]
  simp only
  rw [loopB f g l hf r]
  rfl
theorem byR_app {x : Int} (h0 : 0 ≤ x) (h1 : x < 256) (r : List UInt8) : byR (byI x :: r, false) = (x, (r, false)) := by
  unfold byR
  have := numA (l := [byI x]) (r := r) (n := 1) rfl
  rw [List.singleton_append] at this
  rw [this]
  have h2 := byI_val x
  have h3 : IntKind.u8.wrap x = x := wrap_in ⟨by simpa [IntKind.min, IntKind.signed] using h0, by simp [IntKind.max, IntKind.signed, IntKind.bits]; omega⟩
  rw [h3] at h2
  have h4 : beV [byI x] = (byI x).toNat := by simp [beV]
  rw [h4]
  congr 1
  omega
theorem chR_app {c : List Int} (hc : ∀ x ∈ c, 0 ≤ x ∧ x < 256) (h7 : c.length ≤ 7) (r : List UInt8) : chR (chB c ++ r, false) = (c, (r, false)) := by
  unfold chR chB
  have e : c.map byI = c.flatMap fun x => [byI x] := by
    clear hc h7
    induction c with
    | nil => rfl
    | cons x c ih => rw [List.map_cons, List.flatMap_cons, ih]; rfl
  rw [List.append_assoc, e]
  exact listA byR (fun x => [byI x]) c (fun x hx r => byR_app (hc x hx).1 (hc x hx).2 r) 7 h7 (by omega) r
theorem nodup7 {l : List Int} (hd : l.Nodup) (h : ∀ x ∈ l, 0 ≤ x ∧ x < 7) : l.length ≤ 7 := by
  have h3 : (l.map Int.toNat).Nodup := by
    induction l with
    | nil => exact List.nodup_nil
    | cons x M ih =>
      rw [List.nodup_cons] at hd
      rw [List.map_cons, List.nodup_cons]
      refine ⟨fun hm => ?_, ih hd.2 (fun y hy => h y (List.mem_cons_of_mem _ hy))⟩
      obtain ⟨y, hy, e⟩ := List.mem_map.1 hm
      have := h x (List.mem_cons_self ..)
      have := h y (List.mem_cons_of_mem _ hy)
      have : y = x := by omega
      exact hd.1 (this ▸ hy)
  have key : ∀ (n : Nat) (l : List Nat), l.Nodup → (∀ a ∈ l, a < n) → l.length ≤ n := by
    intro n
    induction n with
    | zero =>
        intro l _ h
        match l, h with
        | [], _ => simp
        | a :: l, h => exact absurd (h a (by simp)) (by omega)
    | succ n ih =>
        intro l hd h
        have h1 : (l.erase n).Nodup := hd.erase n
        have h2 := ih (l.erase n) h1 fun a ha => by
          have h3 := h a (List.mem_of_mem_erase ha)
          have h4 : a ≠ n := fun e => by subst e; exact (List.Nodup.mem_erase_iff hd).1 ha |>.1 rfl
          omega
        have := List.length_erase (a := n) (l := l)
        split at this <;> omega
  have := key 7 _ h3 fun a ha => by
    obtain ⟨y, hy, rfl⟩ := List.mem_map.1 ha
    have := h y hy
    omega
  rwa [List.length_map] at this
structure RightP (p : PlP) : Prop where
  ep0 : 0 ≤ p.ep
  ep1 : p.ep ≤ 2147483647
  len1 : 1 ≤ p.ch.length
  len7 : p.ch.length ≤ 7
  ne : ∀ c ∈ p.ch, c ≠ []
  rg : ∀ u ∈ p.ch.flatten, 0 ≤ u ∧ u < 7
  nd : p.ch.flatten.Nodup
theorem rightP {p : PlP} (h : rightB p = true) : RightP p := by
  obtain ⟨a, b, c, d, e, f, g⟩ := of_decide_eq_true h
  exact ⟨a, b, c, d, e, f, g⟩
theorem RightP.chain {p : PlP} (h : RightP p) {c : List Int} (hc : c ∈ p.ch) : c.Nodup ∧ (∀ u ∈ c, 0 ≤ u ∧ u < 7) ∧ c.length ≤ 7 := by
  have h1 : ∀ u ∈ c, 0 ≤ u ∧ u < 7 := fun u hu => h.rg u (List.mem_flatten.2 ⟨c, hc, hu⟩)
  have h2 : c.Nodup := by
    exact h.nd.sublist (List.sublist_flatten_of_mem hc)
  exact ⟨h2, h1, nodup7 h2 h1⟩
theorem plS_len {p : PlP} (h : RightP p) : (plS p).length ≤ 200 := by
  have := flat_chB p.ch 7 fun c hc => (h.chain hc).2.2
  have h2 : p.ch.length * (4 + 7) ≤ 7 * 11 := Nat.mul_le_mul h.len7 (by omega)
  unfold plS
  rw [wrapS_len]
  unfold plB
  simp only [List.length_append, beN_len]
  omega
theorem decP_plS {p : PlP} (hr : rightB p = true) : decP (plS p) = (p, 0) := by
  have h := rightP hr
  have h0 := h.ep0
  have h1 := h.ep1
  unfold decP plS
  rw [unwrap_wrap]
  have e1 : numR (plB p, false) 4 = (p.ep.toNat, (beN p.ch.length 4 ++ p.ch.flatMap chB, false)) := by
    unfold plB
    rw [numA (beN_len _ _), beV_beN 4 _ (by omega)]
  have e2 : listR chR 7 (beN p.ch.length 4 ++ p.ch.flatMap chB, false) = (p.ch, ([], false)) := by
    have := listA chR chB p.ch (fun c hc r => chR_app (fun x hx => by have := (h.chain hc).2.1 x hx; omega) (h.chain hc).2.2 r) 7 h.len7 (by omega) []
    rwa [List.append_nil] at this
  have e3 : rawP (plB p) = (p, ([], false)) := by
    unfold rawP
    rw [e1]
    simp only
    rw [e2]
    simp only
    have : ((p.ep.toNat : Nat) : Int) = p.ep := by omega
    rw [this]
  simp only [e3]
  rw [if_neg]
  simp [hr]
end Go.Proofs.YtbmajijnjkicmaaGreatDoor



namespace Go.Proofs.YtbmajijnjkicmaaGreatDoor.RX
set_option maxRecDepth 100000
-- tideline/ballot.Above: ρ := [.i b_Round, .i b_Who, .i who]
def t_aAbove : T :=
(.new
(.new
(.need (.o1 (.inr .i64) (.o2 .add (.v 0) (.i 1)))
(.ret (.w (.agg [.int .i64 (.o2 .add (.v 0) (.i 1)), .int .i64 (.v 2)])) []))))
theorem tree_aAbove : tree Tryz.prog { opq := [74], keep := [14, 16, 21, 53, 54, 93, 55, 29, 11, 61, 64, 67, 69, 92, 120, 19, 133, 37, 32], opn := true, rdf := true, peek := [74] } Tryz.f66 [.agg [.int .i64 (.v 0), .int .i64 (.v 1)], .a (.int .i64 (.v 2))] [] 3 = t_aAbove := by kernel_rfl
def t_aTwin : T :=
(.new
(.new
(.call 50 [.a (.sl (.v 1) (.v 2) (.v 3))] [(.a 1, .prop 4)] [.a, .n, .n, .p, .p] (.w (.a (.sl (.v 7) (.v 8) (.v 9)))) [(.a 7, .prop 10), (.a 1, .prop 11)]
(.loop [.i, .p] [.e (.o1 .neg (.o1 .neg (.i 0))), .p [(.a 7, .prop 10)]]
(.br (.o2 .lt (.v 12) (.o1 .ofNat (.v 8)))
(.need (.o2 .le (.i 0) (.v 12))
(.need (.o1 .isSome (.v 7))
(.read (.load 60 (.tmp 17)) 60 [(17, .w (.a (.eptr 7 (.v 12) 1 0)))] [(.a 7, .prop 13)] [.a, .n, .n] (.w (.a (.sl (.v 14) (.v 15) (.v 16))))
(.call 51 [.a (.sl (.v 14) (.v 15) (.v 16))] [(.a 7, .prop 13)] [.a, .n, .n, .p, .p] (.w (.a (.sl (.v 17) (.v 18) (.v 19)))) [(.a 17, .prop 20), (.a 7, .prop 21)]
(.op (.store 60 (.tmp 20) (.tmp 19)) 0 [(20, .w (.a (.eptr 7 (.v 12) 1 0))), (19, .w (.a (.sl (.v 17) (.v 18) (.v 19))))] [(.a 7, .prop 21), (.a 17, .prop 20)] [.p] (.tup []) [(.a 7, .prop 22)]
(.need (.o1 (.inr .i64) (.o2 .add (.v 12) (.i 1)))
(.again 0 [.e (.o1 .neg (.o1 .neg (.o2 .add (.v 12) (.i 1)))), .p [(.a 7, .prop 22)]])))))))
(.ret (.w (.agg [.int .i64 (.v 0), .sl (.v 7) (.v 8) (.v 9)])) [(.a 1, .prop 11), (.a 7, .prop 13)]))))))
theorem tree_aTwin : tree Tryz.prog { opq := [74], hv := [(0, [.a 7])], keep := [14, 16, 21, 53, 54, 93, 55, 29, 11, 61, 64, 67, 69, 92, 120, 19, 133, 37, 32], opn := true, rdf := true, peek := [74] } Tryz.f28 [.agg [.int .i64 (.v 0), .sl (.v 1) (.v 2) (.v 3)]] [(.a 1, .prop 4)] 5 = t_aTwin := by kernel_rfl
def t_aBegin : T :=
(.new
(.call 19 [.agg [.int .i64 (.v 0), .sl (.v 1) (.v 2) (.v 3)]] [(.a 1, .prop 4)] [.c] (.w (.a (.bool (.v 8)))) [(.a 1, .prop 4)]
(.br (.o1 .not (.v 8))
(.new
(.ret (.w (.a (.ptr (.v 9) 0))) [(.a 1, .prop 4), (.b (.v 9), .cells [.int .i64 (.i 0), .sl .nil (.n 0) (.n 0), .int .i64 (.i 0), .int .i64 (.i 0), .int .i64 (.i 6), .bool (.c false), .bool (.c false), .bool (.c false), .bool (.c false), .bool (.c false), .bool (.c false), .bool (.c false), .bool (.c false), .bool (.c false), .bool (.c false), .bool (.c false), .bool (.c false), .bool (.c false), .bool (.c false), .sl .nil (.n 0) (.n 0), .nilp, .int .i64 (.i 0), .sl .nil (.n 0) (.n 0), .int .i64 (.i 0)] 76)]))
(.br (.o2 .eq (.v 0) (.i 2147483647))
(.new
(.ret (.w (.a (.ptr (.v 9) 0))) [(.a 1, .prop 4), (.b (.v 9), .cells [.int .i64 (.i 0), .sl .nil (.n 0) (.n 0), .int .i64 (.i 0), .int .i64 (.i 0), .int .i64 (.i 6), .bool (.c false), .bool (.c false), .bool (.c false), .bool (.c false), .bool (.c false), .bool (.c false), .bool (.c false), .bool (.c false), .bool (.c false), .bool (.c false), .bool (.c false), .bool (.c false), .bool (.c false), .bool (.c false), .sl .nil (.n 0) (.n 0), .nilp, .int .i64 (.i 0), .sl .nil (.n 0) (.n 0), .int .i64 (.i 0)] 76)]))
(.br (.o2 .lt (.v 5) (.i 1))
(.new
(.ret (.w (.a (.ptr (.v 9) 0))) [(.a 1, .prop 4), (.b (.v 9), .cells [.int .i64 (.i 0), .sl .nil (.n 0) (.n 0), .int .i64 (.i 0), .int .i64 (.i 0), .int .i64 (.i 6), .bool (.c false), .bool (.c false), .bool (.c false), .bool (.c false), .bool (.c false), .bool (.c false), .bool (.c false), .bool (.c false), .bool (.c false), .bool (.c false), .bool (.c false), .bool (.c false), .bool (.c false), .bool (.c false), .sl .nil (.n 0) (.n 0), .nilp, .int .i64 (.i 0), .sl .nil (.n 0) (.n 0), .int .i64 (.i 0)] 76)]))
(.br (.o2 .lt (.i 7) (.v 5))
(.new
(.ret (.w (.a (.ptr (.v 9) 0))) [(.a 1, .prop 4), (.b (.v 9), .cells [.int .i64 (.i 0), .sl .nil (.n 0) (.n 0), .int .i64 (.i 0), .int .i64 (.i 0), .int .i64 (.i 6), .bool (.c false), .bool (.c false), .bool (.c false), .bool (.c false), .bool (.c false), .bool (.c false), .bool (.c false), .bool (.c false), .bool (.c false), .bool (.c false), .bool (.c false), .bool (.c false), .bool (.c false), .bool (.c false), .sl .nil (.n 0) (.n 0), .nilp, .int .i64 (.i 0), .sl .nil (.n 0) (.n 0), .int .i64 (.i 0)] 76)]))
(.br (.o2 .lt (.v 6) (.i 0))
(.new
(.ret (.w (.a (.ptr (.v 9) 0))) [(.a 1, .prop 4), (.b (.v 9), .cells [.int .i64 (.i 0), .sl .nil (.n 0) (.n 0), .int .i64 (.i 0), .int .i64 (.i 0), .int .i64 (.i 6), .bool (.c false), .bool (.c false), .bool (.c false), .bool (.c false), .bool (.c false), .bool (.c false), .bool (.c false), .bool (.c false), .bool (.c false), .bool (.c false), .bool (.c false), .bool (.c false), .bool (.c false), .bool (.c false), .sl .nil (.n 0) (.n 0), .nilp, .int .i64 (.i 0), .sl .nil (.n 0) (.n 0), .int .i64 (.i 0)] 76)]))
(.br (.o2 .lt (.i 2147483647) (.v 6))
(.new
(.ret (.w (.a (.ptr (.v 9) 0))) [(.a 1, .prop 4), (.b (.v 9), .cells [.int .i64 (.i 0), .sl .nil (.n 0) (.n 0), .int .i64 (.i 0), .int .i64 (.i 0), .int .i64 (.i 6), .bool (.c false), .bool (.c false), .bool (.c false), .bool (.c false), .bool (.c false), .bool (.c false), .bool (.c false), .bool (.c false), .bool (.c false), .bool (.c false), .bool (.c false), .bool (.c false), .bool (.c false), .bool (.c false), .sl .nil (.n 0) (.n 0), .nilp, .int .i64 (.i 0), .sl .nil (.n 0) (.n 0), .int .i64 (.i 0)] 76)]))
(.call 28 [.agg [.int .i64 (.v 0), .sl (.v 1) (.v 2) (.v 3)]] [(.a 1, .prop 4)] [.i, .a, .n, .n, .p, .p] (.w (.agg [.int .i64 (.v 9), .sl (.v 10) (.v 11) (.v 12)])) [(.a 10, .prop 13), (.a 1, .prop 14)]
(.new
(.ret (.w (.a (.ptr (.v 15) 0))) [(.a 1, .prop 14), (.b (.v 15), .cells [.int .i64 (.v 9), .sl (.v 10) (.v 11) (.v 12), .int .i64 (.v 5), .int .i64 (.v 6), .int .i64 (.i 1), .bool (.c false), .bool (.c false), .bool (.c false), .bool (.c false), .bool (.c false), .bool (.c false), .bool (.c false), .bool (.c false), .bool (.c false), .bool (.c false), .bool (.c false), .bool (.c false), .bool (.c false), .bool (.c false), .sl .nil (.n 0) (.n 0), .nilp, .int .i64 (.i 0), .sl .nil (.n 0) (.n 0), .int .i64 (.i 0)] 76), (.a 10, .prop 13)])))))))))))
theorem tree_aBegin : tree Tryz.prog { opq := [74], keep := [14, 16, 21, 53, 54, 93, 55, 29, 11, 61, 64, 67, 69, 92, 120, 19, 133, 37, 32], opn := true, rdf := true, peek := [74] } Tryz.f10 [.agg [.int .i64 (.v 0), .sl (.v 1) (.v 2) (.v 3)], .a (.int .i64 (.v 5)), .a (.int .i64 (.v 6))] [(.a 1, .prop 4)] 7 = t_aBegin := by kernel_rfl
def t_aState : T :=
(.read (.load 3 (.tmp 5)) 3 [(5, .w (.a (.ptr (.v 0) 4)))] [(.b (.v 0), .prop 1)] [.i] (.w (.a (.int .i64 (.v 2))))
(.ret (.w (.a (.int .i64 (.v 2)))) [(.b (.v 0), .prop 1)]))
theorem tree_aState : tree Tryz.prog { opq := [74], keep := [14, 16, 21, 53, 54, 93, 55, 29, 11, 61, 64, 67, 69, 92, 120, 19, 133, 37, 32], opn := true, rdf := true, peek := [74] } Tryz.f14 [.a (.ptr (.v 0) 0)] [(.b (.v 0), .prop 1)] 2 = t_aState := by kernel_rfl
def t_aPlan : T :=
(.new
(.read (.load 25 (.tmp 5)) 25 [(5, .w (.a (.ptr (.v 0) 21)))] [(.b (.v 0), .prop 1)] [.i, .a, .n, .n] (.w (.agg [.int .i64 (.v 3), .sl (.v 4) (.v 5) (.v 6)]))
(.call 28 [.agg [.int .i64 (.v 3), .sl (.v 4) (.v 5) (.v 6)]] [(.b (.v 0), .prop 1)] [.i, .a, .n, .n, .p, .p] (.w (.agg [.int .i64 (.v 7), .sl (.v 8) (.v 9) (.v 10)])) [(.a 8, .prop 11), (.b (.v 0), .prop 12)]
(.ret (.w (.agg [.int .i64 (.v 7), .sl (.v 8) (.v 9) (.v 10)])) [(.b (.v 0), .prop 12), (.a 8, .prop 11)]))))
theorem tree_aPlan : tree Tryz.prog { opq := [74], keep := [14, 16, 21, 53, 54, 93, 55, 29, 11, 61, 64, 67, 69, 92, 120, 19, 133, 37, 32], opn := true, rdf := true, peek := [74] } Tryz.f16 [.a (.ptr (.v 0) 0)] [(.b (.v 0), .prop 1)] 2 = t_aPlan := by kernel_rfl
def t_aTail : T :=
(.read (.load 3 (.tmp 5)) 3 [(5, .w (.a (.ptr (.v 0) 23)))] [(.b (.v 0), .prop 1)] [.i] (.w (.a (.int .i64 (.v 2))))
(.ret (.w (.a (.int .i64 (.v 2)))) [(.b (.v 0), .prop 1)]))
theorem tree_aTail : tree Tryz.prog { opq := [74], keep := [14, 16, 21, 53, 54, 93, 55, 29, 11, 61, 64, 67, 69, 92, 120, 19, 133, 37, 32], opn := true, rdf := true, peek := [74] } Tryz.f21 [.a (.ptr (.v 0) 0)] [(.b (.v 0), .prop 1)] 2 = t_aTail := by kernel_rfl
def t_aEpoch : T :=
(.read (.load 3 (.tmp 6)) 3 [(6, .w (.a (.ptr (.v 0) 0)))] [(.b (.v 0), .prop 1)] [.i] (.w (.a (.int .i64 (.v 2))))
(.need (.o1 (.inr .i64) (.o2 .add (.v 2) (.i 1)))
(.ret (.w (.a (.int .i64 (.o2 .add (.v 2) (.i 1))))) [(.b (.v 0), .prop 1)])))
theorem tree_aEpoch : tree Tryz.prog { opq := [74], keep := [14, 16, 21, 53, 54, 93, 55, 29, 11, 61, 64, 67, 69, 92, 120, 19, 133, 37, 32], opn := true, rdf := true, peek := [74] } Tryz.f53 [.a (.ptr (.v 0) 0)] [(.b (.v 0), .prop 1)] 2 = t_aEpoch := by kernel_rfl
def t_aAsked : T :=
(.read (.load 3 (.tmp 7)) 3 [(7, .w (.a (.ptr (.v 0) 4)))] [(.b (.v 0), .prop 1)] [.i] (.w (.a (.int .i64 (.v 3))))
(.br (.o2 .eq (.v 3) (.i 1))
(.read (.load 3 (.tmp 14)) 3 [(14, .w (.a (.ptr (.v 0) 2)))] [(.b (.v 0), .prop 1)] [.i] (.w (.a (.int .i64 (.v 4))))
(.br (.o2 .lt (.v 2) (.v 4))
(.read (.indexAddr 73 (.tmp 21) (.tmp 19)) 0 [(21, .w (.a (.ptr (.v 0) 5))), (19, .w (.a (.int .i64 (.v 2))))] [(.b (.v 0), .prop 1)] [.v] (.w (.a (.val 5)))
(.read (.load 4 (.tmp 22)) 4 [(22, .w (.a (.val 5)))] [(.b (.v 0), .prop 1)] [.c] (.w (.a (.bool (.v 6))))
(.ret (.w (.a (.bool (.o1 .not (.v 6))))) [(.b (.v 0), .prop 1)])))
(.ret (.w (.a (.bool (.c false)))) [(.b (.v 0), .prop 1)])))
(.br (.o2 .eq (.v 3) (.i 2))
(.read (.load 74 (.tmp 30)) 74 [(30, .w (.a (.ptr (.v 0) 20)))] [(.b (.v 0), .prop 1)] [.v] (.w (.a (.val 4)))
(.call 92 [.a (.val 4), .a (.int .i64 (.v 2))] [(.b (.v 0), .prop 1)] [.c] (.w (.a (.bool (.v 5)))) [(.b (.v 0), .prop 1)]
(.ret (.w (.a (.bool (.v 5)))) [(.b (.v 0), .prop 1)])))
(.br (.o2 .eq (.v 3) (.i 3))
(.read (.indexAddr 73 (.tmp 39) (.tmp 37)) 0 [(39, .w (.a (.ptr (.v 0) 5))), (37, .w (.a (.int .i64 (.v 2))))] [(.b (.v 0), .prop 1)] [.v] (.w (.a (.val 4)))
(.read (.load 4 (.tmp 40)) 4 [(40, .w (.a (.val 4)))] [(.b (.v 0), .prop 1)] [.c] (.w (.a (.bool (.v 5))))
(.br (.o1 .not (.v 5))
(.call 93 [.a (.ptr (.v 0) 0), .a (.int .i64 (.v 2))] [(.b (.v 0), .prop 1)] [.c] (.w (.a (.bool (.v 6)))) [(.b (.v 0), .prop 1)]
(.ret (.w (.a (.bool (.v 6)))) [(.b (.v 0), .prop 1)]))
(.ret (.w (.a (.bool (.c false)))) [(.b (.v 0), .prop 1)]))))
(.ret (.w (.a (.bool (.c false)))) [(.b (.v 0), .prop 1)])))))
theorem tree_aAsked : tree Tryz.prog { opq := [74], keep := [14, 16, 21, 53, 54, 93, 55, 29, 11, 61, 64, 67, 69, 92, 120, 19, 133, 37, 32], opn := true, rdf := true, peek := [74] } Tryz.f54 [.a (.ptr (.v 0) 0), .a (.int .i64 (.v 2))] [(.b (.v 0), .prop 1)] 3 = t_aAsked := by kernel_rfl
def t_aPlanned1 : T :=
(.call 120 [.a (.sl (.v 0) (.v 1) (.v 2)), .a (.int .i64 (.v 5))] [(.a 0, .prop 3)] [.c] (.w (.a (.bool (.v 6)))) [(.a 0, .prop 3)]
(.ret (.w (.a (.bool (.v 6)))) [(.a 0, .prop 3), (.b (.v 4), .cells [.int .i64 (.v 5)] 3)]))
theorem tree_aPlanned1 : tree Tryz.prog { opq := [74], keep := [14, 16, 21, 53, 54, 93, 55, 29, 11, 61, 64, 67, 69, 92, 120, 19, 133, 37, 32], opn := true, rdf := true, peek := [74] } Tryz.f134 [.a (.sl (.v 0) (.v 1) (.v 2)), .a (.ptr (.v 4) 0)] [(.a 0, .prop 3), (.b (.v 4), .cells [.int .i64 (.v 5)] 3)] 6 = t_aPlanned1 := by kernel_rfl
def t_aPlanned : T :=
(.new
(.read (.load 23 (.tmp 8)) 23 [(8, .w (.a (.ptr (.v 0) 22)))] [(.b (.v 0), .prop 1)] [.a, .n, .n] (.w (.a (.sl (.v 4) (.v 5) (.v 6))))
(.call 133 [.a (.sl (.v 4) (.v 5) (.v 6)), .a (.func 134 [(.v 3, 0)])] [(.b (.v 0), .prop 1), (.b (.v 3), .cells [.int .i64 (.v 2)] 3)] [.c] (.w (.a (.bool (.v 7)))) [(.b (.v 0), .prop 1), (.b (.v 3), .cells [.int .i64 (.v 2)] 3)]
(.ret (.w (.a (.bool (.v 7)))) [(.b (.v 0), .prop 1)]))))
theorem tree_aPlanned : tree Tryz.prog { opq := [74], keep := [14, 16, 21, 53, 54, 93, 55, 29, 11, 61, 64, 67, 69, 92, 120, 19, 133, 37, 32], opn := true, rdf := true, peek := [74] } Tryz.f93 [.a (.ptr (.v 0) 0), .a (.int .i64 (.v 2))] [(.b (.v 0), .prop 1)] 3 = t_aPlanned := by kernel_rfl
def t_aAsk : T :=
(.new
(.call 53 [.a (.ptr (.v 0) 0)] [(.b (.v 0), .prop 1)] [.i] (.w (.a (.int .i64 (.v 4)))) [(.b (.v 0), .prop 1)]
(.new
(.read (.load 3 (.tmp 12)) 3 [(12, .w (.a (.ptr (.v 0) 4)))] [(.b (.v 0), .prop 1)] [.i] (.w (.a (.int .i64 (.v 6))))
(.br (.o2 .eq (.v 6) (.i 2))
(.read (.load 74 (.tmp 19)) 74 [(19, .w (.a (.ptr (.v 0) 20)))] [(.b (.v 0), .prop 1)] [.v] (.w (.a (.val 7)))
(.call 53 [.a (.ptr (.v 0) 0)] [(.b (.v 0), .prop 1)] [.i] (.w (.a (.int .i64 (.v 8)))) [(.b (.v 0), .prop 1)]
(.call 67 [.a (.val 7)] [(.b (.v 0), .prop 1)] [.i, .i] (.w (.agg [.int .i64 (.v 9), .int .i64 (.v 10)])) [(.b (.v 0), .prop 1)]
(.read (.load 74 (.tmp 27)) 74 [(27, .w (.a (.ptr (.v 0) 20)))] [(.b (.v 0), .prop 1)] [.v] (.w (.a (.val 11)))
(.call 64 [.a (.val 11)] [(.b (.v 0), .prop 1)] [.i] (.w (.a (.int .i64 (.v 12)))) [(.b (.v 0), .prop 1)]
(.br (.o2 .eq (.v 12) (.i 2))
(.read (.load 74 (.tmp 33)) 74 [(33, .w (.a (.ptr (.v 0) 20)))] [(.b (.v 0), .prop 1)] [.v] (.w (.a (.val 13)))
(.call 69 [.a (.val 13)] [(.b (.v 0), .prop 1)] [.a, .n, .n, .p] (.w (.a (.sl (.v 14) (.v 15) (.v 16)))) [(.a 14, .prop 17), (.b (.v 0), .prop 1)]
(.call 74 [.a (.sl (.v 14) (.v 15) (.v 16))] [(.a 14, .prop 17)] [.a, .n, .n, .p, .p] (.w (.a (.sl (.v 18) (.v 19) (.v 20)))) [(.a 18, .prop 21), (.a 14, .prop 22)]
(.ret (.w (.agg [.int .i64 (.i 0), .int .i64 (.v 2), .int .i64 (.i 0), .bool (.c false), .int .i64 (.i 7), .int .i64 (.v 4), .int .i64 (.v 8), .int .i64 (.i 0), .sl .nil (.n 0) (.n 0), .int .i64 (.v 9), .int .i64 (.v 10), .sl (.v 18) (.v 19) (.v 20), .int .i64 (.i 0), .int .i64 (.i 0), .int .i64 (.i 0), .int .i64 (.i 0)])) [(.b (.v 0), .prop 1), (.a 18, .prop 21)]))))
(.ret (.w (.agg [.int .i64 (.i 0), .int .i64 (.v 2), .int .i64 (.i 0), .bool (.c false), .int .i64 (.i 6), .int .i64 (.v 4), .int .i64 (.v 8), .int .i64 (.i 0), .sl .nil (.n 0) (.n 0), .int .i64 (.v 9), .int .i64 (.v 10), .sl .nil (.n 0) (.n 0), .int .i64 (.i 0), .int .i64 (.i 0), .int .i64 (.i 0), .int .i64 (.i 0)])) [(.b (.v 0), .prop 1)])))))))
(.ret (.w (.agg [.int .i64 (.i 0), .int .i64 (.v 2), .int .i64 (.i 0), .bool (.c false), .int .i64 (.i 4), .int .i64 (.v 4), .int .i64 (.i 0), .int .i64 (.i 0), .sl .nil (.n 0) (.n 0), .int .i64 (.i 0), .int .i64 (.i 0), .sl .nil (.n 0) (.n 0), .int .i64 (.i 0), .int .i64 (.i 0), .int .i64 (.i 0), .int .i64 (.i 0)])) [(.b (.v 0), .prop 1)]))))))
theorem tree_aAsk : tree Tryz.prog { opq := [74], keep := [14, 16, 21, 53, 54, 93, 55, 29, 11, 61, 64, 67, 69, 92, 120, 19, 133, 37, 32], opn := true, rdf := true, peek := [74] } Tryz.f55 [.a (.ptr (.v 0) 0), .a (.int .i64 (.v 2))] [(.b (.v 0), .prop 1)] 3 = t_aAsk := by kernel_rfl
def t_aAsks1 : T :=
(.read (.load 3 (.tmp 6)) 3 [(6, .w (.a (.ptr (.v 3) 4)))] [(.b (.v 3), .prop 4)] [.i] (.w (.a (.int .i64 (.v 5))))
(.br (.o2 .eq (.v 5) (.i 4))
(.read (.load 3 (.tmp 14)) 3 [(14, .w (.a (.ptr (.v 3) 23)))] [(.b (.v 3), .prop 4)] [.i] (.w (.a (.int .i64 (.v 6))))
(.call 53 [.a (.ptr (.v 3) 0)] [(.b (.v 3), .prop 4)] [.i] (.w (.a (.int .i64 (.v 7)))) [(.b (.v 3), .prop 4)]
 (.callv 0 [.agg [.int .i64 (.i 0), .int .i64 (.i 7), .int .i64 (.i 0), .bool (.c false), .int .i64 (.i 9), .int .i64 (.v 7), .int .i64 (.v 6), .int .i64 (.i 0), .sl .nil (.n 0) (.n 0), .int .i64 (.i 0), .int .i64 (.i 0), .sl .nil (.n 0) (.n 0), .int .i64 (.i 0), .int .i64 (.i 0), .int .i64 (.i 0), .int .i64 (.i 0)]] [(.a 0, .prop 1)] [.c, .p] (.w (.a (.bool (.v 8)))) [(.a 0, .prop 9)]
(.ret (.tup []) [(.a 0, .prop 9), (.b (.v 2), .cells [.ptr (.v 3) 0] 31), (.b (.v 3), .prop 4)]))))
(.loop [.i, .p] [.e (.o1 .neg (.o1 .neg (.i 0))), .p [(.a 0, .prop 1)]]
(.br (.o2 .lt (.v 6) (.i 7))
(.call 54 [.a (.ptr (.v 3) 0), .a (.int .i64 (.v 6))] [(.b (.v 3), .prop 4)] [.c] (.w (.a (.bool (.v 8)))) [(.b (.v 3), .prop 4)]
(.br (.v 8)
(.call 55 [.a (.ptr (.v 3) 0), .a (.int .i64 (.v 6))] [(.b (.v 3), .prop 4)] [.i, .i, .i, .c, .i, .i, .i, .i, .a, .n, .n, .p, .i, .i, .a, .n, .n, .p, .i, .i, .i, .i] (.w (.agg [.int .i64 (.v 9), .int .i64 (.v 10), .int .i64 (.v 11), .bool (.v 12), .int .i64 (.v 13), .int .i64 (.v 14), .int .i64 (.v 15), .int .i64 (.v 16), .sl (.v 17) (.v 18) (.v 19), .int .i64 (.v 21), .int .i64 (.v 22), .sl (.v 23) (.v 24) (.v 25), .int .i64 (.v 27), .int .i64 (.v 28), .int .i64 (.v 29), .int .i64 (.v 30)])) [(.a 17, .prop 20), (.a 23, .prop 26), (.b (.v 3), .prop 4)]
    (.callv 0 [.agg [.int .i64 (.v 9), .int .i64 (.v 10), .int .i64 (.v 11), .bool (.v 12), .int .i64 (.v 13), .int .i64 (.v 14), .int .i64 (.v 15), .int .i64 (.v 16), .sl (.v 17) (.v 18) (.v 19), .int .i64 (.v 21), .int .i64 (.v 22), .sl (.v 23) (.v 24) (.v 25), .int .i64 (.v 27), .int .i64 (.v 28), .int .i64 (.v 29), .int .i64 (.v 30)]] [(.a 0, .prop 7), (.a 17, .prop 20), (.a 23, .prop 26)] [.c, .p] (.w (.a (.bool (.v 31)))) [(.a 0, .prop 32), (.a 17, .prop 20), (.a 23, .prop 26)]
(.br (.o1 .not (.v 31))
(.ret (.tup []) [(.a 0, .prop 32), (.b (.v 2), .cells [.ptr (.v 3) 0] 31), (.b (.v 3), .prop 4)])
(.need (.o1 (.inr .i64) (.o2 .add (.v 6) (.i 1)))
(.again 0 [.e (.o1 .neg (.o1 .neg (.o2 .add (.v 6) (.i 1)))), .p [(.a 0, .prop 32)]])))))
(.need (.o1 (.inr .i64) (.o2 .add (.v 6) (.i 1)))
(.again 0 [.e (.o1 .neg (.o1 .neg (.o2 .add (.v 6) (.i 1)))), .p [(.a 0, .prop 7)]]))))
(.ret (.tup []) [(.a 0, .prop 7), (.b (.v 2), .cells [.ptr (.v 3) 0] 31), (.b (.v 3), .prop 4)])))))
theorem tree_aAsks1 : tree Tryz.prog { opq := [74], hv := [(0, [.a 0])], keep := [14, 16, 21, 53, 54, 93, 55, 29, 11, 61, 64, 67, 69, 92, 120, 19, 133, 37, 32], opn := true, rdf := true, peek := [74] } Tryz.f52 [.a (.val 0), .a (.ptr (.v 2) 0)] [(.a 0, .prop 1), (.b (.v 2), .cells [.ptr (.v 3) 0] 31), (.b (.v 3), .prop 4)] 5 = t_aAsks1 := by kernel_rfl
def t_aAsks : T :=
(.new
(.ret (.w (.a (.func 52 [(.v 2, 0)]))) [(.b (.v 0), .prop 1), (.b (.v 2), .cells [.ptr (.v 0) 0] 31)]))
theorem tree_aAsks : tree Tryz.prog { opq := [74], keep := [14, 16, 21, 53, 54, 93, 55, 29, 11, 61, 64, 67, 69, 92, 120, 19, 133, 37, 32], opn := true, rdf := true, peek := [74] } Tryz.f29 [.a (.ptr (.v 0) 0)] [(.b (.v 0), .prop 1)] 2 = t_aAsks := by kernel_rfl
def t_aAsksL : T :=
(.new
(.call 29 [.a (.ptr (.v 0) 0)] [(.b (.v 0), .prop 1)] [.v, .p] (.w (.a (.val 3))) [(.a 3, .prop 4), (.b (.v 0), .prop 1)]
(.new
(.rangef (.val 3) [(.a 3, .prop 4), (.b (.v 0), .prop 1)] [] [.a, .n, .n, .p] [.a .nil, .e (.o2 .nadd (.n 0) (.n 0)), .e (.o2 .nadd (.n 0) (.n 0)), .p []] [.i, .i, .i, .c, .i, .i, .i, .i, .a, .n, .n, .p, .i, .i, .a, .n, .n, .p, .i, .i, .i, .i] [.agg [.int .i64 (.v 10), .int .i64 (.v 11), .int .i64 (.v 12), .bool (.v 13), .int .i64 (.v 14), .int .i64 (.v 15), .int .i64 (.v 16), .int .i64 (.v 17), .sl (.v 18) (.v 19) (.v 20), .int .i64 (.v 22), .int .i64 (.v 23), .sl (.v 24) (.v 25) (.v 26), .int .i64 (.v 28), .int .i64 (.v 29), .int .i64 (.v 30), .int .i64 (.v 31)]] [(.a 18, .prop 21), (.a 24, .prop 27)]
(.new
(.new
(.op (.call ⟨.builtin .append, #[.tmp 8, .tmp 10], #[33, 33]⟩) 33 [(8, .w (.a (.sl (.v 6) (.v 7) (.v 8)))), (10, .w (.a (.sl (.b (.v 33) 0) (.n 1) (.n 1))))] [(.a 6, .prop 9), (.b (.v 33), .cells [.int .i64 (.v 10), .int .i64 (.v 11), .int .i64 (.v 12), .bool (.v 13), .int .i64 (.v 14), .int .i64 (.v 15), .int .i64 (.v 16), .int .i64 (.v 17), .sl (.v 18) (.v 19) (.v 20), .int .i64 (.v 22), .int .i64 (.v 23), .sl (.v 24) (.v 25) (.v 26), .int .i64 (.v 28), .int .i64 (.v 29), .int .i64 (.v 30), .int .i64 (.v 31)] 41), (.a 18, .prop 21), (.a 24, .prop 27)] [.a, .n, .n, .p] (.w (.a (.sl (.v 34) (.v 35) (.v 36)))) [(.a 34, .prop 37), (.b (.v 33), .cells [.int .i64 (.v 10), .int .i64 (.v 11), .int .i64 (.v 12), .bool (.v 13), .int .i64 (.v 14), .int .i64 (.v 15), .int .i64 (.v 16), .int .i64 (.v 17), .sl (.v 18) (.v 19) (.v 20), .int .i64 (.v 22), .int .i64 (.v 23), .sl (.v 24) (.v 25) (.v 26), .int .i64 (.v 28), .int .i64 (.v 29), .int .i64 (.v 30), .int .i64 (.v 31)] 41), (.a 18, .prop 21), (.a 24, .prop 27)]
(.again 0 [.a (.v 34), .e (.o2 .nadd (.v 35) (.n 0)), .e (.o2 .nadd (.v 36) (.n 0)), .p [(.a 34, .prop 37)]]))))
(.ret (.w (.a (.sl (.v 6) (.v 7) (.v 8)))) [(.b (.v 0), .prop 1), (.a 6, .prop 9)])))))
theorem tree_aAsksL : tree Tryz.prog { opq := [74], hv := [(0, [.b (.v 2)])], keep := [14, 16, 21, 53, 54, 93, 55, 29, 11, 61, 64, 67, 69, 92, 120, 19, 133, 37, 32], link := [(29, 0)], pty := [(0, [41])], opn := true, rdf := true, peek := [74] } Tryz.f11 [.a (.ptr (.v 0) 0)] [(.b (.v 0), .prop 1)] 2 = t_aAsksL := by kernel_rfl
def t_aDone : T :=
(.new
(.call 29 [.a (.ptr (.v 0) 0)] [(.b (.v 0), .prop 1)] [.v, .p] (.w (.a (.val 3))) [(.a 3, .prop 4), (.b (.v 0), .prop 1)]
(.new
(.rangef (.val 3) [(.a 3, .prop 4), (.b (.v 0), .prop 1)] [] [] [] [.i, .i, .i, .c, .i, .i, .i, .i, .a, .n, .n, .p, .i, .i, .a, .n, .n, .p, .i, .i, .i, .i] [.agg [.int .i64 (.v 6), .int .i64 (.v 7), .int .i64 (.v 8), .bool (.v 9), .int .i64 (.v 10), .int .i64 (.v 11), .int .i64 (.v 12), .int .i64 (.v 13), .sl (.v 14) (.v 15) (.v 16), .int .i64 (.v 18), .int .i64 (.v 19), .sl (.v 20) (.v 21) (.v 22), .int .i64 (.v 24), .int .i64 (.v 25), .int .i64 (.v 26), .int .i64 (.v 27)]] [(.a 14, .prop 17), (.a 20, .prop 23)]
(.ret (.w (.a (.bool (.c false)))) [(.b (.v 0), .prop 1)])
(.ret (.w (.a (.bool (.c true)))) [(.b (.v 0), .prop 1)])))))
theorem tree_aDone : tree Tryz.prog { opq := [74], keep := [14, 16, 21, 53, 54, 93, 55, 29, 11, 61, 64, 67, 69, 92, 120, 19, 133, 37, 32], link := [(29, 0)], pty := [(0, [41])], opn := true, rdf := true, peek := [74] } Tryz.f61 [.a (.ptr (.v 0) 0)] [(.b (.v 0), .prop 1)] 2 = t_aDone := by kernel_rfl
def t_aTold1 : T :=
(.new
(.br (.o2 .eq (.v 1) (.v 23))
(.br (.o2 .eq (.v 4) (.v 27))
(.br (.o2 .eq (.v 5) (.v 28))
(.ret (.w (.a (.bool (.o2 .eq (.v 6) (.v 29))))) [(.a 8, .prop 11), (.a 14, .prop 17), (.b (.v 22), .cells [.int .i64 (.v 23), .int .i64 (.v 24), .int .i64 (.v 25), .bool (.v 26), .int .i64 (.v 27), .int .i64 (.v 28), .int .i64 (.v 29), .int .i64 (.v 30), .sl (.v 31) (.v 32) (.v 33), .int .i64 (.v 35), .int .i64 (.v 36), .sl (.v 37) (.v 38) (.v 39), .int .i64 (.v 41), .int .i64 (.v 42), .int .i64 (.v 43), .int .i64 (.v 44)] 41), (.a 31, .prop 34), (.a 37, .prop 40)])
(.ret (.w (.a (.bool (.c false)))) [(.a 8, .prop 11), (.a 14, .prop 17), (.b (.v 22), .cells [.int .i64 (.v 23), .int .i64 (.v 24), .int .i64 (.v 25), .bool (.v 26), .int .i64 (.v 27), .int .i64 (.v 28), .int .i64 (.v 29), .int .i64 (.v 30), .sl (.v 31) (.v 32) (.v 33), .int .i64 (.v 35), .int .i64 (.v 36), .sl (.v 37) (.v 38) (.v 39), .int .i64 (.v 41), .int .i64 (.v 42), .int .i64 (.v 43), .int .i64 (.v 44)] 41), (.a 31, .prop 34), (.a 37, .prop 40)]))
(.ret (.w (.a (.bool (.c false)))) [(.a 8, .prop 11), (.a 14, .prop 17), (.b (.v 22), .cells [.int .i64 (.v 23), .int .i64 (.v 24), .int .i64 (.v 25), .bool (.v 26), .int .i64 (.v 27), .int .i64 (.v 28), .int .i64 (.v 29), .int .i64 (.v 30), .sl (.v 31) (.v 32) (.v 33), .int .i64 (.v 35), .int .i64 (.v 36), .sl (.v 37) (.v 38) (.v 39), .int .i64 (.v 41), .int .i64 (.v 42), .int .i64 (.v 43), .int .i64 (.v 44)] 41), (.a 31, .prop 34), (.a 37, .prop 40)]))
(.ret (.w (.a (.bool (.c false)))) [(.a 8, .prop 11), (.a 14, .prop 17), (.b (.v 22), .cells [.int .i64 (.v 23), .int .i64 (.v 24), .int .i64 (.v 25), .bool (.v 26), .int .i64 (.v 27), .int .i64 (.v 28), .int .i64 (.v 29), .int .i64 (.v 30), .sl (.v 31) (.v 32) (.v 33), .int .i64 (.v 35), .int .i64 (.v 36), .sl (.v 37) (.v 38) (.v 39), .int .i64 (.v 41), .int .i64 (.v 42), .int .i64 (.v 43), .int .i64 (.v 44)] 41), (.a 31, .prop 34), (.a 37, .prop 40)])))
theorem tree_aTold1 : tree Tryz.prog { opq := [74], keep := [14, 16, 21, 53, 54, 93, 55, 29, 11, 61, 64, 67, 69, 92, 120, 19, 133, 37, 32], opn := true, rdf := true, peek := [74] } Tryz.f33 [.agg [.int .i64 (.v 0), .int .i64 (.v 1), .int .i64 (.v 2), .bool (.v 3), .int .i64 (.v 4), .int .i64 (.v 5), .int .i64 (.v 6), .int .i64 (.v 7), .sl (.v 8) (.v 9) (.v 10), .int .i64 (.v 12), .int .i64 (.v 13), .sl (.v 14) (.v 15) (.v 16), .int .i64 (.v 18), .int .i64 (.v 19), .int .i64 (.v 20), .int .i64 (.v 21)], .a (.ptr (.v 22) 0)] [(.a 8, .prop 11), (.a 14, .prop 17), (.b (.v 22), .cells [.int .i64 (.v 23), .int .i64 (.v 24), .int .i64 (.v 25), .bool (.v 26), .int .i64 (.v 27), .int .i64 (.v 28), .int .i64 (.v 29), .int .i64 (.v 30), .sl (.v 31) (.v 32) (.v 33), .int .i64 (.v 35), .int .i64 (.v 36), .sl (.v 37) (.v 38) (.v 39), .int .i64 (.v 41), .int .i64 (.v 42), .int .i64 (.v 43), .int .i64 (.v 44)] 41), (.a 31, .prop 34), (.a 37, .prop 40)] 45 = t_aTold1 := by kernel_rfl
def t_aTold : T :=
(.new
(.call 11 [.a (.ptr (.v 0) 0)] [(.b (.v 0), .prop 1)] [.a, .n, .n, .p] (.w (.a (.sl (.v 25) (.v 26) (.v 27)))) [(.a 25, .prop 28), (.b (.v 0), .prop 1)]
(.call 32 [.a (.sl (.v 25) (.v 26) (.v 27)), .a (.func 33 [(.v 24, 0)])] [(.a 25, .prop 28), (.b (.v 24), .cells [.int .i64 (.v 2), .int .i64 (.v 3), .int .i64 (.v 4), .bool (.v 5), .int .i64 (.v 6), .int .i64 (.v 7), .int .i64 (.v 8), .int .i64 (.v 9), .sl (.v 10) (.v 11) (.v 12), .int .i64 (.v 14), .int .i64 (.v 15), .sl (.v 16) (.v 17) (.v 18), .int .i64 (.v 20), .int .i64 (.v 21), .int .i64 (.v 22), .int .i64 (.v 23)] 41), (.a 10, .prop 13), (.a 16, .prop 19)] [.c] (.w (.a (.bool (.v 29)))) [(.a 25, .prop 28), (.b (.v 24), .cells [.int .i64 (.v 2), .int .i64 (.v 3), .int .i64 (.v 4), .bool (.v 5), .int .i64 (.v 6), .int .i64 (.v 7), .int .i64 (.v 8), .int .i64 (.v 9), .sl (.v 10) (.v 11) (.v 12), .int .i64 (.v 14), .int .i64 (.v 15), .sl (.v 16) (.v 17) (.v 18), .int .i64 (.v 20), .int .i64 (.v 21), .int .i64 (.v 22), .int .i64 (.v 23)] 41), (.a 10, .prop 13), (.a 16, .prop 19)]
(.br (.o1 .not (.v 5))
(.ret (.tup []) [(.b (.v 0), .prop 1), (.a 10, .prop 13), (.a 16, .prop 19)])
(.br (.o1 .not (.v 29))
(.ret (.tup []) [(.b (.v 0), .prop 1), (.a 10, .prop 13), (.a 16, .prop 19)])
(.read (.load 3 (.tmp 18)) 3 [(18, .w (.a (.ptr (.v 0) 4)))] [(.b (.v 0), .prop 1)] [.i] (.w (.a (.int .i64 (.v 30))))
(.br (.o2 .eq (.v 30) (.i 1))
(.call 34 [.a (.ptr (.v 0) 0), .agg [.int .i64 (.v 2), .int .i64 (.v 3), .int .i64 (.v 4), .bool (.v 5), .int .i64 (.v 6), .int .i64 (.v 7), .int .i64 (.v 8), .int .i64 (.v 9), .sl (.v 10) (.v 11) (.v 12), .int .i64 (.v 14), .int .i64 (.v 15), .sl (.v 16) (.v 17) (.v 18), .int .i64 (.v 20), .int .i64 (.v 21), .int .i64 (.v 22), .int .i64 (.v 23)]] [(.b (.v 0), .prop 1), (.a 10, .prop 13), (.a 16, .prop 19)] [.p, .p, .p] (.tup []) [(.b (.v 0), .prop 31), (.a 10, .prop 32), (.a 16, .prop 33)]
(.ret (.tup []) [(.b (.v 0), .prop 31), (.a 10, .prop 32), (.a 16, .prop 33)]))
(.br (.o2 .eq (.v 30) (.i 2))
(.call 35 [.a (.ptr (.v 0) 0), .agg [.int .i64 (.v 2), .int .i64 (.v 3), .int .i64 (.v 4), .bool (.v 5), .int .i64 (.v 6), .int .i64 (.v 7), .int .i64 (.v 8), .int .i64 (.v 9), .sl (.v 10) (.v 11) (.v 12), .int .i64 (.v 14), .int .i64 (.v 15), .sl (.v 16) (.v 17) (.v 18), .int .i64 (.v 20), .int .i64 (.v 21), .int .i64 (.v 22), .int .i64 (.v 23)]] [(.b (.v 0), .prop 1), (.a 10, .prop 13), (.a 16, .prop 19)] [.p, .p, .p] (.tup []) [(.b (.v 0), .prop 31), (.a 10, .prop 32), (.a 16, .prop 33)]
(.ret (.tup []) [(.b (.v 0), .prop 31), (.a 10, .prop 32), (.a 16, .prop 33)]))
(.br (.o2 .eq (.v 30) (.i 3))
(.call 36 [.a (.ptr (.v 0) 0), .agg [.int .i64 (.v 2), .int .i64 (.v 3), .int .i64 (.v 4), .bool (.v 5), .int .i64 (.v 6), .int .i64 (.v 7), .int .i64 (.v 8), .int .i64 (.v 9), .sl (.v 10) (.v 11) (.v 12), .int .i64 (.v 14), .int .i64 (.v 15), .sl (.v 16) (.v 17) (.v 18), .int .i64 (.v 20), .int .i64 (.v 21), .int .i64 (.v 22), .int .i64 (.v 23)]] [(.b (.v 0), .prop 1), (.a 10, .prop 13), (.a 16, .prop 19)] [.p, .p, .p] (.tup []) [(.b (.v 0), .prop 31), (.a 10, .prop 32), (.a 16, .prop 33)]
(.ret (.tup []) [(.b (.v 0), .prop 31), (.a 10, .prop 32), (.a 16, .prop 33)]))
(.br (.o2 .eq (.v 30) (.i 4))
(.op (.store 3 (.tmp 39) (.const (.int .i64 6))) 0 [(39, .w (.a (.ptr (.v 0) 4)))] [(.b (.v 0), .prop 1)] [.p] (.tup []) [(.b (.v 0), .prop 31)]
(.br (.o2 .eq (.v 20) (.i 0))
(.op (.store 3 (.tmp 50) (.const (.int .i64 5))) 0 [(50, .w (.a (.ptr (.v 0) 4)))] [(.b (.v 0), .prop 31)] [.p] (.tup []) [(.b (.v 0), .prop 32)]
(.ret (.tup []) [(.b (.v 0), .prop 32), (.a 10, .prop 13), (.a 16, .prop 19)]))
(.br (.o2 .eq (.v 20) (.i 8))
(.op (.store 3 (.tmp 50) (.const (.int .i64 5))) 0 [(50, .w (.a (.ptr (.v 0) 4)))] [(.b (.v 0), .prop 31)] [.p] (.tup []) [(.b (.v 0), .prop 32)]
(.ret (.tup []) [(.b (.v 0), .prop 32), (.a 10, .prop 13), (.a 16, .prop 19)]))
(.ret (.tup []) [(.b (.v 0), .prop 31), (.a 10, .prop 13), (.a 16, .prop 19)]))))
(.ret (.tup []) [(.b (.v 0), .prop 1), (.a 10, .prop 13), (.a 16, .prop 19)])))))))))))
theorem tree_aTold : tree Tryz.prog { opq := [74], keep := [14, 16, 21, 53, 54, 93, 55, 29, 11, 61, 64, 67, 69, 92, 120, 19, 133, 37, 32], opn := true, rdf := true, peek := [74] } Tryz.f13 [.a (.ptr (.v 0) 0), .agg [.int .i64 (.v 2), .int .i64 (.v 3), .int .i64 (.v 4), .bool (.v 5), .int .i64 (.v 6), .int .i64 (.v 7), .int .i64 (.v 8), .int .i64 (.v 9), .sl (.v 10) (.v 11) (.v 12), .int .i64 (.v 14), .int .i64 (.v 15), .sl (.v 16) (.v 17) (.v 18), .int .i64 (.v 20), .int .i64 (.v 21), .int .i64 (.v 22), .int .i64 (.v 23)]] [(.b (.v 0), .prop 1), (.a 10, .prop 13), (.a 16, .prop 19)] 24 = t_aTold := by kernel_rfl
def t_aSealed : T :=
(.new
(.read (.indexAddr 73 (.tmp 8) (.tmp 6)) 0 [(8, .w (.a (.ptr (.v 0) 5))), (6, .w (.a (.int .i64 (.v 2))))] [(.b (.v 0), .prop 1)] [.v] (.w (.a (.val 25)))
(.op (.store 4 (.tmp 9) (.const (.bool true))) 0 [(9, .w (.a (.val 25)))] [(.b (.v 0), .prop 1)] [.p] (.tup []) [(.b (.v 0), .prop 26)]
(.read (.indexAddr 73 (.tmp 17) (.tmp 12)) 0 [(17, .w (.a (.ptr (.v 0) 12))), (12, .w (.a (.int .i64 (.v 2))))] [(.b (.v 0), .prop 26)] [.v] (.w (.a (.val 27)))
(.op (.store 4 (.tmp 18) (.tmp 15)) 0 [(18, .w (.a (.val 27))), (15, .w (.a (.bool (.o2 .eq (.v 20) (.i 0)))))] [(.b (.v 0), .prop 26)] [.p] (.tup []) [(.b (.v 0), .prop 28)]
(.call 61 [.a (.ptr (.v 0) 0)] [(.b (.v 0), .prop 28)] [.c] (.w (.a (.bool (.v 29)))) [(.b (.v 0), .prop 28)]
(.br (.v 29)
(.call 39 [.a (.ptr (.v 0) 0)] [(.b (.v 0), .prop 28)] [.p] (.tup []) [(.b (.v 0), .prop 30)]
(.ret (.tup []) [(.b (.v 0), .prop 30), (.a 10, .prop 13), (.a 16, .prop 19)]))
(.ret (.tup []) [(.b (.v 0), .prop 28), (.a 10, .prop 13), (.a 16, .prop 19)]))))))))
theorem tree_aSealed : tree Tryz.prog { opq := [74], keep := [14, 16, 21, 53, 54, 93, 55, 29, 11, 61, 64, 67, 69, 92, 120, 19, 133, 37, 32], opn := true, rdf := true, peek := [74] } Tryz.f34 [.a (.ptr (.v 0) 0), .agg [.int .i64 (.v 2), .int .i64 (.v 3), .int .i64 (.v 4), .bool (.v 5), .int .i64 (.v 6), .int .i64 (.v 7), .int .i64 (.v 8), .int .i64 (.v 9), .sl (.v 10) (.v 11) (.v 12), .int .i64 (.v 14), .int .i64 (.v 15), .sl (.v 16) (.v 17) (.v 18), .int .i64 (.v 20), .int .i64 (.v 21), .int .i64 (.v 22), .int .i64 (.v 23)]] [(.b (.v 0), .prop 1), (.a 10, .prop 13), (.a 16, .prop 19)] 24 = t_aSealed := by kernel_rfl
def t_aChoose : T :=
(.read (.load 73 (.tmp 9)) 73 [(9, .w (.a (.ptr (.v 0) 12)))] [(.b (.v 0), .prop 1)] [.c, .c, .c, .c, .c, .c, .c] (.w (.agg [.bool (.v 2), .bool (.v 3), .bool (.v 4), .bool (.v 5), .bool (.v 6), .bool (.v 7), .bool (.v 8)]))
(.loop [.a, .n, .n, .p, .i] [.a .nil, .e (.o2 .nadd (.n 0) (.n 0)), .e (.o2 .nadd (.n 0) (.n 0)), .p [], .e (.o1 .neg (.o1 .neg (.i 0)))]
(.br (.o2 .lt (.v 13) (.i 7))
(.read (.index 73 (.tmp 10) (.tmp 11)) 4 [(10, .w (.agg [.bool (.v 2), .bool (.v 3), .bool (.v 4), .bool (.v 5), .bool (.v 6), .bool (.v 7), .bool (.v 8)])), (11, .w (.a (.int .i64 (.v 13))))] [] [.c] (.w (.a (.bool (.v 14))))
(.br (.v 14)
(.new
(.op (.call ⟨.builtin .append, #[.tmp 16, .tmp 18], #[60, 60]⟩) 60 [(16, .w (.a (.sl (.v 9) (.v 10) (.v 11)))), (18, .w (.a (.sl (.b (.v 15) 0) (.n 1) (.n 1))))] [(.a 9, .prop 12), (.b (.v 15), .cells [.int .i64 (.v 13)] 3)] [.a, .n, .n, .p] (.w (.a (.sl (.v 16) (.v 17) (.v 18)))) [(.a 16, .prop 19), (.b (.v 15), .cells [.int .i64 (.v 13)] 3)]
(.need (.o1 (.inr .i64) (.o2 .add (.v 13) (.i 1)))
(.again 0 [.a (.v 16), .e (.o2 .nadd (.v 17) (.n 0)), .e (.o2 .nadd (.v 18) (.n 0)), .p [(.a 16, .prop 19)], .e (.o1 .neg (.o1 .neg (.o2 .add (.v 13) (.i 1))))]))))
(.need (.o1 (.inr .i64) (.o2 .add (.v 13) (.i 1)))
(.again 0 [.a (.v 9), .e (.o2 .nadd (.v 10) (.n 0)), .e (.o2 .nadd (.v 11) (.n 0)), .p [(.a 9, .prop 12)], .e (.o1 .neg (.o1 .neg (.o2 .add (.v 13) (.i 1))))]))))
(.op (.store 35 (.tmp 23) (.const (.slice none 0 0))) 0 [(23, .w (.a (.ptr (.v 0) 19)))] [(.b (.v 0), .prop 1)] [.p] (.tup []) [(.b (.v 0), .prop 14)]
(.read (.load 25 (.tmp 27)) 25 [(27, .w (.a (.ptr (.v 0) 0)))] [(.b (.v 0), .prop 14)] [.i, .a, .n, .n] (.w (.agg [.int .i64 (.v 15), .sl (.v 16) (.v 17) (.v 18)]))
(.call 71 [.agg [.int .i64 (.v 15), .sl (.v 16) (.v 17) (.v 18)], .a (.sl (.v 9) (.v 10) (.v 11))] [(.b (.v 0), .prop 14), (.a 9, .prop 12)] [.i, .a, .n, .n, .p, .i, .p, .p] (.tup [.agg [.int .i64 (.v 19), .sl (.v 20) (.v 21) (.v 22)], .a (.int .i64 (.v 24))]) [(.a 20, .prop 23), (.b (.v 0), .prop 25), (.a 9, .prop 26)]
(.new
(.br (.o2 .eq (.v 24) (.i 0))
(.call 72 [.agg [.int .i64 (.v 19), .sl (.v 20) (.v 21) (.v 22)]] [(.a 20, .prop 23)] [.a, .n, .n, .p, .p] (.w (.a (.sl (.v 28) (.v 29) (.v 30)))) [(.a 28, .prop 31), (.a 20, .prop 32)]
(.op (.store 35 (.tmp 39) (.tmp 37)) 0 [(39, .w (.a (.ptr (.v 0) 19))), (37, .w (.a (.sl (.v 28) (.v 29) (.v 30))))] [(.b (.v 0), .prop 25), (.a 28, .prop 31)] [.p] (.tup []) [(.b (.v 0), .prop 33)]
(.op (.store 3 (.tmp 42) (.const (.int .i64 2))) 0 [(42, .w (.a (.ptr (.v 0) 4)))] [(.b (.v 0), .prop 33)] [.p] (.tup []) [(.b (.v 0), .prop 34)]
(.read (.load 3 (.tmp 46)) 3 [(46, .w (.a (.ptr (.v 0) 2)))] [(.b (.v 0), .prop 34)] [.i] (.w (.a (.int .i64 (.v 35))))
(.read (.load 3 (.tmp 50)) 3 [(50, .w (.a (.ptr (.v 0) 3)))] [(.b (.v 0), .prop 34)] [.i] (.w (.a (.int .i64 (.v 36))))
(.read (.load 35 (.tmp 55)) 35 [(55, .w (.a (.ptr (.v 0) 19)))] [(.b (.v 0), .prop 34)] [.a, .n, .n] (.w (.a (.sl (.v 37) (.v 38) (.v 39))))
(.call 65 [.a (.int .i64 (.v 35)), .agg [.int .i64 (.i 1), .int .i64 (.v 36)], .a (.sl (.v 37) (.v 38) (.v 39))] [(.b (.v 0), .prop 34)] [.v, .p, .p] (.w (.a (.val 40))) [(.a 40, .prop 41), (.b (.v 0), .prop 42)]
(.op (.store 74 (.tmp 59) (.tmp 57)) 0 [(59, .w (.a (.ptr (.v 0) 20))), (57, .w (.a (.val 40)))] [(.b (.v 0), .prop 42), (.a 40, .prop 41)] [.p] (.tup []) [(.b (.v 0), .prop 43)]
(.ret (.tup []) [(.b (.v 0), .prop 43)])))))))))
(.op (.store 3 (.tmp 42) (.const (.int .i64 2))) 0 [(42, .w (.a (.ptr (.v 0) 4)))] [(.b (.v 0), .prop 25)] [.p] (.tup []) [(.b (.v 0), .prop 28)]
(.read (.load 3 (.tmp 46)) 3 [(46, .w (.a (.ptr (.v 0) 2)))] [(.b (.v 0), .prop 28)] [.i] (.w (.a (.int .i64 (.v 29))))
(.read (.load 3 (.tmp 50)) 3 [(50, .w (.a (.ptr (.v 0) 3)))] [(.b (.v 0), .prop 28)] [.i] (.w (.a (.int .i64 (.v 30))))
(.read (.load 35 (.tmp 55)) 35 [(55, .w (.a (.ptr (.v 0) 19)))] [(.b (.v 0), .prop 28)] [.a, .n, .n] (.w (.a (.sl (.v 31) (.v 32) (.v 33))))
(.call 65 [.a (.int .i64 (.v 29)), .agg [.int .i64 (.i 1), .int .i64 (.v 30)], .a (.sl (.v 31) (.v 32) (.v 33))] [(.b (.v 0), .prop 28)] [.v, .p, .p] (.w (.a (.val 34))) [(.a 34, .prop 35), (.b (.v 0), .prop 36)]
(.op (.store 74 (.tmp 59) (.tmp 57)) 0 [(59, .w (.a (.ptr (.v 0) 20))), (57, .w (.a (.val 34)))] [(.b (.v 0), .prop 36), (.a 34, .prop 35)] [.p] (.tup []) [(.b (.v 0), .prop 37)]
(.ret (.tup []) [(.b (.v 0), .prop 37)])))))))))))))))
theorem tree_aChoose : tree Tryz.prog { opq := [74], keep := [14, 16, 21, 53, 54, 93, 55, 29, 11, 61, 64, 67, 69, 92, 120, 19, 133, 37, 32], opn := true, rdf := true, peek := [74] } Tryz.f39 [.a (.ptr (.v 0) 0)] [(.b (.v 0), .prop 1)] 2 = t_aChoose := by kernel_rfl
def t_aChose : T :=
(.new
(.br (.o2 .eq (.v 6) (.i 6))
(.read (.load 74 (.tmp 11)) 74 [(11, .w (.a (.ptr (.v 0) 20)))] [(.b (.v 0), .prop 1)] [.v] (.w (.a (.val 25)))
(.call 62 [.a (.val 25), .a (.int .i64 (.v 2)), .agg [.int .i64 (.v 14), .int .i64 (.v 15)], .a (.sl (.v 16) (.v 17) (.v 18)), .a (.int .i64 (.v 20))] [(.b (.v 0), .prop 1), (.a 16, .prop 19)] [.p, .p] (.tup []) [(.b (.v 0), .prop 26), (.a 16, .prop 27)]
(.read (.load 74 (.tmp 33)) 74 [(33, .w (.a (.ptr (.v 0) 20)))] [(.b (.v 0), .prop 26)] [.v] (.w (.a (.val 28)))
(.call 64 [.a (.val 28)] [(.b (.v 0), .prop 26)] [.i] (.w (.a (.int .i64 (.v 29)))) [(.b (.v 0), .prop 26)]
(.br (.o2 .eq (.v 29) (.i 4))
(.read (.load 3 (.tmp 41)) 3 [(41, .w (.a (.ptr (.v 0) 2)))] [(.b (.v 0), .prop 26)] [.i] (.w (.a (.int .i64 (.v 30))))
(.read (.load 74 (.tmp 45)) 74 [(45, .w (.a (.ptr (.v 0) 20)))] [(.b (.v 0), .prop 26)] [.v] (.w (.a (.val 31)))
(.read (.load 3 (.tmp 50)) 3 [(50, .w (.a (.ptr (.v 0) 3)))] [(.b (.v 0), .prop 26)] [.i] (.w (.a (.int .i64 (.v 32))))
(.read (.load 35 (.tmp 55)) 35 [(55, .w (.a (.ptr (.v 0) 19)))] [(.b (.v 0), .prop 26)] [.a, .n, .n] (.w (.a (.sl (.v 33) (.v 34) (.v 35))))
(.call 67 [.a (.val 31)] [(.b (.v 0), .prop 26)] [.i, .i] (.w (.agg [.int .i64 (.v 36), .int .i64 (.v 37)])) [(.b (.v 0), .prop 26)]
(.call 66 [.agg [.int .i64 (.v 36), .int .i64 (.v 37)], .a (.int .i64 (.v 32))] [] [.i, .i] (.w (.agg [.int .i64 (.v 38), .int .i64 (.v 39)])) []
(.call 65 [.a (.int .i64 (.v 30)), .agg [.int .i64 (.v 38), .int .i64 (.v 39)], .a (.sl (.v 33) (.v 34) (.v 35))] [(.b (.v 0), .prop 26)] [.v, .p, .p] (.w (.a (.val 40))) [(.a 40, .prop 41), (.b (.v 0), .prop 42)]
(.op (.store 74 (.tmp 59) (.tmp 57)) 0 [(59, .w (.a (.ptr (.v 0) 20))), (57, .w (.a (.val 40)))] [(.b (.v 0), .prop 42), (.a 40, .prop 41)] [.p] (.tup []) [(.b (.v 0), .prop 43)]
(.ret (.tup []) [(.b (.v 0), .prop 43), (.a 10, .prop 13), (.a 16, .prop 27)])))))))))
(.br (.o2 .eq (.v 29) (.i 3))
(.read (.load 74 (.tmp 65)) 74 [(65, .w (.a (.ptr (.v 0) 20)))] [(.b (.v 0), .prop 26)] [.v] (.w (.a (.val 30)))
(.call 69 [.a (.val 30)] [(.b (.v 0), .prop 26)] [.a, .n, .n, .p] (.w (.a (.sl (.v 31) (.v 32) (.v 33)))) [(.a 31, .prop 34), (.b (.v 0), .prop 26)]
(.call 68 [.a (.sl (.v 31) (.v 32) (.v 33))] [(.a 31, .prop 34)] [.i, .a, .n, .n, .p, .i, .p] (.tup [.agg [.int .i64 (.v 35), .sl (.v 36) (.v 37) (.v 38)], .a (.int .i64 (.v 40))]) [(.a 36, .prop 39), (.a 31, .prop 41)]
(.new
(.join [.c]
(.br (.o1 .not (.o2 .eq (.v 40) (.i 0)))
(.again 0 [.e (.o1 .not (.o1 .not (.c true)))])
(.call 53 [.a (.ptr (.v 0) 0)] [(.b (.v 0), .prop 26)] [.i] (.w (.a (.int .i64 (.v 43)))) [(.b (.v 0), .prop 26)]
(.again 0 [.e (.o1 .not (.o1 .not (.o1 .not (.o2 .eq (.v 35) (.v 43)))))])))
(.br (.v 43)
(.op (.store 3 (.tmp 82) (.const (.int .i64 6))) 0 [(82, .w (.a (.ptr (.v 0) 4)))] [(.b (.v 0), .prop 26)] [.p] (.tup []) [(.b (.v 0), .prop 44)]
(.ret (.tup []) [(.b (.v 0), .prop 44), (.a 10, .prop 13), (.a 16, .prop 27)]))
(.op (.store 25 (.tmp 87) (.tmp 85)) 0 [(87, .w (.a (.ptr (.v 0) 21))), (85, .w (.agg [.int .i64 (.v 35), .sl (.v 36) (.v 37) (.v 38)]))] [(.b (.v 0), .prop 26), (.a 36, .prop 39)] [.p] (.tup []) [(.b (.v 0), .prop 44), (.a 36, .prop 39)]
(.op (.store 3 (.tmp 89) (.const (.int .i64 3))) 0 [(89, .w (.a (.ptr (.v 0) 4)))] [(.b (.v 0), .prop 44)] [.p] (.tup []) [(.b (.v 0), .prop 45)]
(.op (.store 73 (.tmp 93) (.tmp 91)) 0 [(93, .w (.a (.ptr (.v 0) 5))), (91, .w (.agg [.bool (.c false), .bool (.c false), .bool (.c false), .bool (.c false), .bool (.c false), .bool (.c false), .bool (.c false)]))] [(.b (.v 0), .prop 45)] [.p] (.tup []) [(.b (.v 0), .prop 46)]
(.ret (.tup []) [(.b (.v 0), .prop 46), (.a 10, .prop 13), (.a 16, .prop 27)]))))))))))
(.ret (.tup []) [(.b (.v 0), .prop 26), (.a 10, .prop 13), (.a 16, .prop 27)])))))))
(.read (.load 74 (.tmp 24)) 74 [(24, .w (.a (.ptr (.v 0) 20)))] [(.b (.v 0), .prop 1)] [.v] (.w (.a (.val 25)))
(.call 63 [.a (.val 25), .a (.int .i64 (.v 2)), .a (.int .i64 (.v 20))] [(.b (.v 0), .prop 1)] [.p] (.tup []) [(.b (.v 0), .prop 26)]
(.read (.load 74 (.tmp 33)) 74 [(33, .w (.a (.ptr (.v 0) 20)))] [(.b (.v 0), .prop 26)] [.v] (.w (.a (.val 27)))
(.call 64 [.a (.val 27)] [(.b (.v 0), .prop 26)] [.i] (.w (.a (.int .i64 (.v 28)))) [(.b (.v 0), .prop 26)]
(.br (.o2 .eq (.v 28) (.i 4))
(.read (.load 3 (.tmp 41)) 3 [(41, .w (.a (.ptr (.v 0) 2)))] [(.b (.v 0), .prop 26)] [.i] (.w (.a (.int .i64 (.v 29))))
(.read (.load 74 (.tmp 45)) 74 [(45, .w (.a (.ptr (.v 0) 20)))] [(.b (.v 0), .prop 26)] [.v] (.w (.a (.val 30)))
(.read (.load 3 (.tmp 50)) 3 [(50, .w (.a (.ptr (.v 0) 3)))] [(.b (.v 0), .prop 26)] [.i] (.w (.a (.int .i64 (.v 31))))
(.read (.load 35 (.tmp 55)) 35 [(55, .w (.a (.ptr (.v 0) 19)))] [(.b (.v 0), .prop 26)] [.a, .n, .n] (.w (.a (.sl (.v 32) (.v 33) (.v 34))))
(.call 67 [.a (.val 30)] [(.b (.v 0), .prop 26)] [.i, .i] (.w (.agg [.int .i64 (.v 35), .int .i64 (.v 36)])) [(.b (.v 0), .prop 26)]
(.call 66 [.agg [.int .i64 (.v 35), .int .i64 (.v 36)], .a (.int .i64 (.v 31))] [] [.i, .i] (.w (.agg [.int .i64 (.v 37), .int .i64 (.v 38)])) []
(.call 65 [.a (.int .i64 (.v 29)), .agg [.int .i64 (.v 37), .int .i64 (.v 38)], .a (.sl (.v 32) (.v 33) (.v 34))] [(.b (.v 0), .prop 26)] [.v, .p, .p] (.w (.a (.val 39))) [(.a 39, .prop 40), (.b (.v 0), .prop 41)]
(.op (.store 74 (.tmp 59) (.tmp 57)) 0 [(59, .w (.a (.ptr (.v 0) 20))), (57, .w (.a (.val 39)))] [(.b (.v 0), .prop 41), (.a 39, .prop 40)] [.p] (.tup []) [(.b (.v 0), .prop 42)]
(.ret (.tup []) [(.b (.v 0), .prop 42), (.a 10, .prop 13), (.a 16, .prop 19)])))))))))
(.br (.o2 .eq (.v 28) (.i 3))
(.read (.load 74 (.tmp 65)) 74 [(65, .w (.a (.ptr (.v 0) 20)))] [(.b (.v 0), .prop 26)] [.v] (.w (.a (.val 29)))
(.call 69 [.a (.val 29)] [(.b (.v 0), .prop 26)] [.a, .n, .n, .p] (.w (.a (.sl (.v 30) (.v 31) (.v 32)))) [(.a 30, .prop 33), (.b (.v 0), .prop 26)]
(.call 68 [.a (.sl (.v 30) (.v 31) (.v 32))] [(.a 30, .prop 33)] [.i, .a, .n, .n, .p, .i, .p] (.tup [.agg [.int .i64 (.v 34), .sl (.v 35) (.v 36) (.v 37)], .a (.int .i64 (.v 39))]) [(.a 35, .prop 38), (.a 30, .prop 40)]
(.new
(.join [.c]
(.br (.o1 .not (.o2 .eq (.v 39) (.i 0)))
(.again 0 [.e (.o1 .not (.o1 .not (.c true)))])
(.call 53 [.a (.ptr (.v 0) 0)] [(.b (.v 0), .prop 26)] [.i] (.w (.a (.int .i64 (.v 42)))) [(.b (.v 0), .prop 26)]
(.again 0 [.e (.o1 .not (.o1 .not (.o1 .not (.o2 .eq (.v 34) (.v 42)))))])))
(.br (.v 42)
(.op (.store 3 (.tmp 82) (.const (.int .i64 6))) 0 [(82, .w (.a (.ptr (.v 0) 4)))] [(.b (.v 0), .prop 26)] [.p] (.tup []) [(.b (.v 0), .prop 43)]
(.ret (.tup []) [(.b (.v 0), .prop 43), (.a 10, .prop 13), (.a 16, .prop 19)]))
(.op (.store 25 (.tmp 87) (.tmp 85)) 0 [(87, .w (.a (.ptr (.v 0) 21))), (85, .w (.agg [.int .i64 (.v 34), .sl (.v 35) (.v 36) (.v 37)]))] [(.b (.v 0), .prop 26), (.a 35, .prop 38)] [.p] (.tup []) [(.b (.v 0), .prop 43), (.a 35, .prop 38)]
(.op (.store 3 (.tmp 89) (.const (.int .i64 3))) 0 [(89, .w (.a (.ptr (.v 0) 4)))] [(.b (.v 0), .prop 43)] [.p] (.tup []) [(.b (.v 0), .prop 44)]
(.op (.store 73 (.tmp 93) (.tmp 91)) 0 [(93, .w (.a (.ptr (.v 0) 5))), (91, .w (.agg [.bool (.c false), .bool (.c false), .bool (.c false), .bool (.c false), .bool (.c false), .bool (.c false), .bool (.c false)]))] [(.b (.v 0), .prop 44)] [.p] (.tup []) [(.b (.v 0), .prop 45)]
(.ret (.tup []) [(.b (.v 0), .prop 45), (.a 10, .prop 13), (.a 16, .prop 19)]))))))))))
(.ret (.tup []) [(.b (.v 0), .prop 26), (.a 10, .prop 13), (.a 16, .prop 19)])))))))))
theorem tree_aChose : tree Tryz.prog { opq := [74], keep := [14, 16, 21, 53, 54, 93, 55, 29, 11, 61, 64, 67, 69, 92, 120, 19, 133, 37, 32], opn := true, rdf := true, peek := [74], jn := [((71, 43), some { ss := [.c], n := 44, tv := [(71, none), (72, none), (73, none), (74, none), (75, none), (76, none), (77, none), (78, none), (79, some (.w (.a (.bool (.v 43)))))], h := [(.b (.v 42), .cells [.int .i64 (.v 35), .sl (.v 36) (.v 37) (.v 38)] 25), (.a 36, .prop 39), (.a 31, .prop 41), (.b (.v 0), .prop 26), (.a 16, .prop 27), (.b (.v 24), .cells [.int .i64 (.v 2), .int .i64 (.v 3), .int .i64 (.v 4), .bool (.v 5), .int .i64 (.v 6), .int .i64 (.v 7), .int .i64 (.v 8), .int .i64 (.v 9), .sl (.v 10) (.v 11) (.v 12), .int .i64 (.v 14), .int .i64 (.v 15), .sl (.v 16) (.v 17) (.v 18), .int .i64 (.v 20), .int .i64 (.v 21), .int .i64 (.v 22), .int .i64 (.v 23)] 41), (.a 10, .prop 13)], lk := [] }), ((71, 42), some { ss := [.c], n := 43, tv := [(71, none), (72, none), (73, none), (74, none), (75, none), (76, none), (77, none), (78, none), (79, some (.w (.a (.bool (.v 42)))))], h := [(.b (.v 41), .cells [.int .i64 (.v 34), .sl (.v 35) (.v 36) (.v 37)] 25), (.a 35, .prop 38), (.a 30, .prop 40), (.b (.v 0), .prop 26), (.b (.v 24), .cells [.int .i64 (.v 2), .int .i64 (.v 3), .int .i64 (.v 4), .bool (.v 5), .int .i64 (.v 6), .int .i64 (.v 7), .int .i64 (.v 8), .int .i64 (.v 9), .sl (.v 10) (.v 11) (.v 12), .int .i64 (.v 14), .int .i64 (.v 15), .sl (.v 16) (.v 17) (.v 18), .int .i64 (.v 20), .int .i64 (.v 21), .int .i64 (.v 22), .int .i64 (.v 23)] 41), (.a 10, .prop 13), (.a 16, .prop 19)], lk := [] })] } Tryz.f35 [.a (.ptr (.v 0) 0), .agg [.int .i64 (.v 2), .int .i64 (.v 3), .int .i64 (.v 4), .bool (.v 5), .int .i64 (.v 6), .int .i64 (.v 7), .int .i64 (.v 8), .int .i64 (.v 9), .sl (.v 10) (.v 11) (.v 12), .int .i64 (.v 14), .int .i64 (.v 15), .sl (.v 16) (.v 17) (.v 18), .int .i64 (.v 20), .int .i64 (.v 21), .int .i64 (.v 22), .int .i64 (.v 23)]] [(.b (.v 0), .prop 1), (.a 10, .prop 13), (.a 16, .prop 19)] 24 = t_aChose := by kernel_rfl
def t_aTell : T :=
(.new
(.br (.o2 .eq (.v 20) (.i 0))
(.read (.load 3 (.tmp 11)) 3 [(11, .w (.a (.ptr (.v 0) 23)))] [(.b (.v 0), .prop 1)] [.i] (.w (.a (.int .i64 (.v 25))))
(.read (.call ⟨.builtin .max, #[.tmp 12, .tmp 14, .tmp 16], #[3, 3, 3]⟩) 3 [(12, .w (.a (.int .i64 (.v 25)))), (14, .w (.a (.int .i64 (.v 21)))), (16, .w (.a (.int .i64 (.v 22))))] [] [.i] (.w (.a (.int .i64 (.v 26))))
(.op (.store 3 (.tmp 19) (.tmp 17)) 0 [(19, .w (.a (.ptr (.v 0) 23))), (17, .w (.a (.int .i64 (.v 26))))] [(.b (.v 0), .prop 1)] [.p] (.tup []) [(.b (.v 0), .prop 27)]
(.read (.indexAddr 73 (.tmp 38) (.tmp 36)) 0 [(38, .w (.a (.ptr (.v 0) 5))), (36, .w (.a (.int .i64 (.v 2))))] [(.b (.v 0), .prop 27)] [.v] (.w (.a (.val 28)))
(.op (.store 4 (.tmp 39) (.const (.bool true))) 0 [(39, .w (.a (.val 28)))] [(.b (.v 0), .prop 27)] [.p] (.tup []) [(.b (.v 0), .prop 29)]
(.call 61 [.a (.ptr (.v 0) 0)] [(.b (.v 0), .prop 29)] [.c] (.w (.a (.bool (.v 30)))) [(.b (.v 0), .prop 29)]
(.br (.v 30)
(.op (.store 3 (.tmp 44) (.const (.int .i64 4))) 0 [(44, .w (.a (.ptr (.v 0) 4)))] [(.b (.v 0), .prop 29)] [.p] (.tup []) [(.b (.v 0), .prop 31)]
(.ret (.tup []) [(.b (.v 0), .prop 31), (.a 10, .prop 13), (.a 16, .prop 19)]))
(.ret (.tup []) [(.b (.v 0), .prop 29), (.a 10, .prop 13), (.a 16, .prop 19)]))))))))
(.join [.c]
(.br (.o1 .not (.o2 .eq (.v 20) (.i 8)))
(.again 0 [.e (.o1 .not (.o1 .not (.c true)))])
(.call 53 [.a (.ptr (.v 0) 0)] [(.b (.v 0), .prop 1)] [.i] (.w (.a (.int .i64 (.v 25)))) [(.b (.v 0), .prop 1)]
(.again 0 [.e (.o1 .not (.o1 .not (.o2 .le (.v 23) (.v 25))))])))
(.br (.v 25)
(.op (.store 3 (.tmp 33) (.const (.int .i64 6))) 0 [(33, .w (.a (.ptr (.v 0) 4)))] [(.b (.v 0), .prop 1)] [.p] (.tup []) [(.b (.v 0), .prop 26)]
(.ret (.tup []) [(.b (.v 0), .prop 26), (.a 10, .prop 13), (.a 16, .prop 19)]))
(.read (.indexAddr 73 (.tmp 38) (.tmp 36)) 0 [(38, .w (.a (.ptr (.v 0) 5))), (36, .w (.a (.int .i64 (.v 2))))] [(.b (.v 0), .prop 1)] [.v] (.w (.a (.val 26)))
(.op (.store 4 (.tmp 39) (.const (.bool true))) 0 [(39, .w (.a (.val 26)))] [(.b (.v 0), .prop 1)] [.p] (.tup []) [(.b (.v 0), .prop 27)]
(.call 61 [.a (.ptr (.v 0) 0)] [(.b (.v 0), .prop 27)] [.c] (.w (.a (.bool (.v 28)))) [(.b (.v 0), .prop 27)]
(.br (.v 28)
(.op (.store 3 (.tmp 44) (.const (.int .i64 4))) 0 [(44, .w (.a (.ptr (.v 0) 4)))] [(.b (.v 0), .prop 27)] [.p] (.tup []) [(.b (.v 0), .prop 29)]
(.ret (.tup []) [(.b (.v 0), .prop 29), (.a 10, .prop 13), (.a 16, .prop 19)]))
(.ret (.tup []) [(.b (.v 0), .prop 27), (.a 10, .prop 13), (.a 16, .prop 19)])))))))))
theorem tree_aTell : tree Tryz.prog { opq := [74], keep := [14, 16, 21, 53, 54, 93, 55, 29, 11, 61, 64, 67, 69, 92, 120, 19, 133, 37, 32], opn := true, rdf := true, peek := [74], jn := [((21, 25), some { ss := [.c], n := 26, tv := [(21, none), (22, none), (23, none), (24, none), (25, none), (26, none), (27, none), (28, none), (29, none), (30, none), (20, some (.w (.a (.bool (.v 25)))))], h := [(.b (.v 24), .cells [.int .i64 (.v 2), .int .i64 (.v 3), .int .i64 (.v 4), .bool (.v 5), .int .i64 (.v 6), .int .i64 (.v 7), .int .i64 (.v 8), .int .i64 (.v 9), .sl (.v 10) (.v 11) (.v 12), .int .i64 (.v 14), .int .i64 (.v 15), .sl (.v 16) (.v 17) (.v 18), .int .i64 (.v 20), .int .i64 (.v 21), .int .i64 (.v 22), .int .i64 (.v 23)] 41), (.b (.v 0), .prop 1), (.a 10, .prop 13), (.a 16, .prop 19)], lk := [] })] } Tryz.f36 [.a (.ptr (.v 0) 0), .agg [.int .i64 (.v 2), .int .i64 (.v 3), .int .i64 (.v 4), .bool (.v 5), .int .i64 (.v 6), .int .i64 (.v 7), .int .i64 (.v 8), .int .i64 (.v 9), .sl (.v 10) (.v 11) (.v 12), .int .i64 (.v 14), .int .i64 (.v 15), .sl (.v 16) (.v 17) (.v 18), .int .i64 (.v 20), .int .i64 (.v 21), .int .i64 (.v 22), .int .i64 (.v 23)]] [(.b (.v 0), .prop 1), (.a 10, .prop 13), (.a 16, .prop 19)] 24 = t_aTell := by kernel_rfl
end Go.Proofs.YtbmajijnjkicmaaGreatDoor.RX



namespace Go.Proofs.YtbmajijnjkicmaaGreatDoor
set_option linter.unusedSimpArgs false
set_option linter.unusedVariables false
open Go.Proofs.YtbmajijnjkicmaaGreatDoor RX
set_option maxRecDepth 100000

structure AdvS where
  old : PlP
  units : Int
  who : Int
  st : Int
  rep : Nat → Bool
  there : Nat → Bool
  own : List UInt8
  prop : Option BSt
  plan : PlP
  tail : Int
structure ARw where
  oa : Option Addr
  oc : Nat
  oes : List ChE
  wa : Option Addr
  wc : Nat
  pv : Option Addr
  pa : Option Addr
  pc : Nat
  pes : List ChE
def advL (g : AdvS) (r : ARw) : List Value := [.int .i64 g.old.ep, .slice r.oa r.oes.length r.oc, .int .i64 g.units, .int .i64 g.who, .int .i64 g.st] ++ (bl7 g.rep ++ (bl7 g.there ++ [.slice r.wa g.own.length r.wc, .pointer r.pv, .int .i64 g.plan.ep, .slice r.pa r.pes.length r.pc, .int .i64 g.tail]))
theorem advL_len (g : AdvS) (r : ARw) : (advL g r).length = 24 := by simp [advL, bl7_len]
theorem advL_rep (g : AdvS) (r : ARw) {k : Nat} (h : k < 7) : (advL g r)[5 + k]? = some (.bool (g.rep k)) := by
  unfold advL
  rw [List.getElem?_append_right (by simp), List.getElem?_append_left (by rw [bl7_len]; simp; omega)]
  rw [← bl7_get g.rep h]; congr 1; simp
theorem advL_there (g : AdvS) (r : ARw) {k : Nat} (h : k < 7) : (advL g r)[12 + k]? = some (.bool (g.there k)) := by
  unfold advL
  rw [List.getElem?_append_right (by simp; omega), List.getElem?_append_right (by rw [bl7_len]; simp; omega), List.getElem?_append_left (by rw [bl7_len, bl7_len]; simp; omega)]
  rw [← bl7_get g.there h]; congr 1; rw [bl7_len]; simp; omega
theorem advL_set_rep (g : AdvS) (r : ARw) {k : Nat} (h : k < 7) (b : Bool) : (advL g r).set (5 + k) (.bool b) = advL { g with rep := put7 g.rep k b } r := by
  unfold advL
  rw [List.set_append_right _ _ (by simp), List.set_append_left _ _ (by rw [bl7_len]; simp; omega)]
  simp only [List.length_cons, List.length_nil, Nat.zero_add, Nat.add_sub_cancel_left]
  rw [bl7_set _ h]
theorem advL_set_there (g : AdvS) (r : ARw) {k : Nat} (h : k < 7) (b : Bool) : (advL g r).set (12 + k) (.bool b) = advL { g with there := put7 g.there k b } r := by
  unfold advL
  rw [List.set_append_right _ _ (by simp; omega), List.set_append_right _ _ (by rw [bl7_len]; simp; omega), List.set_append_left _ _ (by rw [bl7_len, bl7_len]; simp; omega)]
  rw [bl7_len]
  simp only [List.length_cons, List.length_nil]
  rw [show 12 + k - (0 + 1 + 1 + 1 + 1 + 1) - 7 = k by omega, bl7_set _ h]
def PropR (pv : Option Addr) : Option BSt → HP
  | none => HP.pure (pv = none)
  | some s => HP.ex fun pb => HP.and (pv = some ⟨pb, 0, none⟩) (BRep pb s)
def ARo (g : AdvS) (r : ARw) : HP := HP.both (Ls kCh r.oa r.oes.length r.oes) (HP.both (RoB r.wa g.own.length g.own) (Ls kCh r.pa r.pes.length r.pes))
structure ROk (g : AdvS) (r : ARw) : Prop where
  o : r.oes.map (·.l) = g.old.ch
  p : r.pes.map (·.l) = g.plan.ch
  ob : r.oes.length ≤ 1000 ∧ ∀ x ∈ r.oes, x.l.length ≤ 1000000
  pb : r.pes.length ≤ 1000 ∧ ∀ x ∈ r.pes, x.l.length ≤ 1000000
  wb : g.own.length ≤ 1000000
def AOne (b : Nat) (g : AdvS) (r : ARw) : HP := HP.one b (.cells (advL g r).toArray 76 (0, 0))
def ARepR (b : Nat) (g : AdvS) (r : ARw) : HP := HP.and (ROk g r) (HP.sep (AOne b g r) (HP.sep (PropR r.pv g.prop) (ARo g r)))
def ARep (b : Nat) (g : AdvS) : HP := HP.ex fun r => ARepR b g r
theorem ARo.pers {g : AdvS} {r : ARw} {R h : PH} (h' : PH) (H : (ARo g r).p R h) : (ARo g r).p R h' := ⟨Ls.pers h' H.1, H.2.1, Ls.pers h' H.2.2⟩
section
variable {b : Nat} {g : AdvS} {r : ARw}
theorem ARepR.ro {R h : PH} (H : (ARepR b g r).p R h) : (ARo g r).p R h := HP.sep_right (HP.sep_right H.2)
theorem aLd1 {t : TypeId} {d : TypeDesc} (hd : Tryz.prog.underlying t = some d) (ha : aggT Tryz.prog t = false) (hz : szT Tryz.prog t = 1) {k : Nat} {v : Value} (hk : (advL g r)[k]? = some v) :
    ORead Tryz.prog (loadS t (.pointer (some ⟨b, k, none⟩))) (ARepR b g r) v :=
  ORead.ent (.of fun R h H => H.2) (ldB1 (Q := HP.sep (PropR r.pv g.prop) (ARo g r)) hd ha hz (by simpa using hk))
theorem aLdI {k : Nat} {x : Int} (hk : (advL g r)[k]? = some (.int .i64 x)) : ORead Tryz.prog (loadS 3 (.pointer (some ⟨b, k, none⟩))) (ARepR b g r) (.int .i64 x) := aLd1 undIb aggI szI hk
theorem aLdPl {k : Nat} {x y : Value} (hk : (advL g r)[k]? = some x) (hk2 : (advL g r)[k + 1]? = some y) : ORead Tryz.prog (loadS 25 (.pointer (some ⟨b, k, none⟩))) (ARepR b g r) (.agg #[x, y]) := by
  obtain ⟨d, hd⟩ : ∃ d, Tryz.prog.underlying 25 = some d := Option.isSome_iff_exists.1 (by kernel_rfl)
  refine ORead.ent (.of fun R h H => H.2) (ldBN (Q := HP.sep (PropR r.pv g.prop) (ARo g r)) (vs := [x, y]) hd (by kernel_rfl) (by kernel_rfl) (by simp) fun j v hj => ?_)
  match j with
  | 0 => simp at hj; subst hj; simpa using hk
  | 1 => simp at hj; subst hj; simpa using hk2
  | j + 2 => simp at hj
theorem undPp : Tryz.prog.underlying 74 = some (.pointer 154) := by kernel_rfl
theorem aggPp : aggT Tryz.prog 74 = false := by kernel_rfl
theorem szPp : szT Tryz.prog 74 = 1 := by kernel_rfl
theorem aLdP : ORead Tryz.prog (loadS 74 (.pointer (some ⟨b, 20, none⟩))) (ARepR b g r) (oneC (.pointer r.pv)) := aLd1 undPp aggPp szPp rfl
theorem aLdW : ORead Tryz.prog (loadS 35 (.pointer (some ⟨b, 19, none⟩))) (ARepR b g r) (.slice r.wa g.own.length r.wc) := aLd1 und8 agg8s sz8s rfl
theorem aLdC {k : Nat} {v : Value} (hk : (advL g r)[k]? = some v) : ORead Tryz.prog (loadS 23 (.pointer (some ⟨b, k, none⟩))) (ARepR b g r) v := aLd1 undIs (by kernel_rfl) (by kernel_rfl) hk
theorem aLdRep {k : Nat} (h : k < 7) : ORead Tryz.prog (loadS 4 (.pointer (some ⟨b, 5 + k, none⟩))) (ARepR b g r) (.bool (g.rep k)) := aLd1 undBo aggBo szBo (advL_rep g r h)
theorem aSt {t : TypeId} {i : TypeInfo} (hi : Tryz.prog.info? t = some i) (hz : i.size = 1) {k : Nat} (hk : k < 24) {x : Value} (hx : x.cells = #[x]) (h1 : x.oneCell' = true) {g' : AdvS} {r' : ARw} (hset : (advL g r).set k x = advL g' r') (hok : ROk g r → ROk g' r') (Q : HP)
    (hrest : ∀ R h, ROk g r → (HP.sep (HP.sep (PropR r.pv g.prop) (ARo g r)) Q).p R h → (HP.sep (PropR r'.pv g'.prop) (ARo g' r')).p R h) :
    OTri Tryz.prog (storeS t (.pointer (some ⟨b, k, none⟩)) x) (HP.sep (ARepR b g r) Q) (fun v => HP.and (v = .tuple #[]) (ARepR b g' r')) := by
  refine OTri.fact (φ := ROk g r) (fun R h H => (HP.sep_left H).1) fun hro => ?_
  refine (stB1 (cs' := (advL g' r').toArray) (e := 76) hi hz (k := k) (cs := (advL g r).toArray) hx h1 (by simp [advL_len]; exact hk) (by rw [← hset]; simp) (HP.sep (HP.sep (PropR r.pv g.prop) (ARo g r)) Q)).weak (fun R h H => HP.sep_assoc (HP.sep_mono H (fun _ h => h.2) fun _ h => h)) ?_
  rintro v R h ⟨e, H⟩
  exact ⟨e, hok hro, HP.sep_mono H (fun _ h => h) fun y hy => hrest R y hro hy⟩
theorem aSt0 {t : TypeId} {i : TypeInfo} (hi : Tryz.prog.info? t = some i) (hz : i.size = 1) {k : Nat} (hk : k < 24) {x : Value} (hx : x.cells = #[x]) (h1 : x.oneCell' = true) {g' : AdvS} (hset : (advL g r).set k x = advL g' r) (hok : ROk g r → ROk g' r) (hp : g'.prop = g.prop) (hw : g'.own = g.own) :
    OTri Tryz.prog (storeS t (.pointer (some ⟨b, k, none⟩)) x) (ARepR b g r) (fun v => HP.and (v = .tuple #[]) (ARepR b g' r)) :=
  (aSt (Q := HP.tt) hi hz hk hx h1 hset hok (fun R h _ H => by
    have := HP.sep_left H
    unfold ARo at *
    rw [hp, hw]; exact this)).weak (fun R h H => HP.sep_tt H) fun _ _ _ h => h
theorem aStI {k : Nat} (hk : k < 24) {x : Int} {g' : AdvS} (hset : (advL g r).set k (.int .i64 x) = advL g' r) (ho : g'.old = g.old) (hpl : g'.plan.ch = g.plan.ch) (hp : g'.prop = g.prop) (hw : g'.own = g.own) :
    OTri Tryz.prog (storeS 3 (.pointer (some ⟨b, k, none⟩)) (.int .i64 x)) (ARepR b g r) (fun v => HP.and (v = .tuple #[]) (ARepR b g' r)) := by
  obtain ⟨i, hi, z1, z2, z3⟩ := info_parts infoInt
  exact aSt0 hi z2 hk rfl rfl hset (fun h => ⟨by rw [ho]; exact h.o, by rw [hpl]; exact h.p, h.ob, h.pb, by rw [hw]; exact h.wb⟩) hp hw
theorem aStB {k : Nat} (hk : k < 24) {x : Bool} {g' : AdvS} (hset : (advL g r).set k (.bool x) = advL g' r) (ho : g'.old = g.old) (hpl : g'.plan = g.plan) (hp : g'.prop = g.prop) (hw : g'.own = g.own) :
    OTri Tryz.prog (storeS 4 (.pointer (some ⟨b, k, none⟩)) (.bool x)) (ARepR b g r) (fun v => HP.and (v = .tuple #[]) (ARepR b g' r)) := by
  obtain ⟨i, hi, z1, z2, z3⟩ := info_parts infoBo
  exact aSt0 hi z2 hk rfl rfl hset (fun h => ⟨by rw [ho]; exact h.o, by rw [hpl]; exact h.p, h.ob, h.pb, by rw [hw]; exact h.wb⟩) hp hw
theorem prop_tri {f : FuncId} {args : Value → Array Value} {s : BSt} {B : Value → HP} {K : HP} (hp : g.prop = some s) (t : ∀ pb, Tri Tryz.prog f (args (.pointer (some ⟨pb, 0, none⟩))) (HP.sep (BRep pb s) K) (fun v => HP.sep (B v) (BRep pb s))) :
    Tri Tryz.prog f (args (oneC (.pointer r.pv))) (HP.sep (ARepR b g r) K) (fun v => HP.sep (B v) (ARepR b g r)) := by
  refine (Tri.ex (A := fun pb => HP.and (r.pv = some ⟨pb, 0, none⟩ ∧ ROk g r) (HP.sep (HP.sep (BRep pb s) K) (HP.sep (AOne b g r) (ARo g r)))) fun pb => Tri.pure fun ⟨e, hok⟩ => ?_).weak (fun R h H => ?_) fun _ _ _ h => h
  · rw [e]
    refine ((t pb).frame (HP.sep (AOne b g r) (ARo g r))).weak (fun _ _ h => h) fun v R h H => ?_
    have H1 := HP.sep_assoc H
    refine HP.sep_mono H1 (fun _ h => h) fun y hy => ⟨hok, ?_⟩
    have H2 := HP.pick [BRep pb s, AOne b g r, ARo g r] [1, 0, 2] (by decide) rfl hy
    refine HP.sep_mono H2 (fun _ h => h) fun z hz => HP.sep_mono hz (fun w hw => ?_) fun _ h => h
    rw [hp, e]
    exact ⟨pb, rfl, hw⟩
  · obtain ⟨h1, h2, d, l1, l2, ⟨hok, H⟩, HK⟩ := H
    rw [hp] at H
    obtain ⟨h3, h4, d2, l3, l4, HO, h5, h6, d3, l5, l6, ⟨pb, e, HB⟩, HR⟩ := H
    refine ⟨pb, ⟨e, hok⟩, ?_⟩
    have H9 : (HP.sep (HP.sep (AOne b g r) (HP.sep (BRep pb s) (ARo g r))) K).p R h := ⟨h1, h2, d, l1, l2, ⟨h3, h4, d2, l3, l4, HO, h5, h6, d3, l5, l6, HB, HR⟩, HK⟩
    have H10 := HP.sep_mono (HP.sep_assoc H9) (fun _ h => h) fun y hy => HP.sep_assoc hy
    exact HP.sep_assoc' (HP.pick [AOne b g r, BRep pb s, ARo g r, K] [1, 3, 0, 2] (by decide) rfl H10)
theorem prop_read {f : FuncId} {args : Value → Array Value} {s : BSt} {φ : Value → Prop} (hp : g.prop = some s) (t : ∀ pb, Tri Tryz.prog f (args (.pointer (some ⟨pb, 0, none⟩))) (BRep pb s) (fun v => HP.and (φ v) (BRep pb s))) :
    Tri Tryz.prog f (args (oneC (.pointer r.pv))) (ARepR b g r) (fun v => HP.and (φ v) (ARepR b g r)) :=
  (prop_tri (B := fun v => HP.pure (φ v)) (K := HP.tt) hp fun pb => (t pb).weak (fun R h H => HP.sep_left H) fun v R h ⟨e, H⟩ => HP.sep_pure H e).weak (fun R h H => HP.sep_tt H) fun v R h H => ⟨HP.sep_left H, HP.sep_right H⟩
theorem aPhase_ok {s : BSt} (hp : g.prop = some s) : Tri Tryz.prog 64 #[oneC (.pointer r.pv)] (ARepR b g r) (fun v => HP.and (v = .int .i64 s.phase) (ARepR b g r)) := prop_read (args := fun p => #[p]) hp fun pb => bPhaseR_ok pb s
theorem aBallot_ok {s : BSt} (hp : g.prop = some s) : Tri Tryz.prog 67 #[oneC (.pointer r.pv)] (ARepR b g r) (fun v => HP.and (v = .agg #[.int .i64 s.rnd, .int .i64 s.who]) (ARepR b g r)) := prop_read (args := fun p => #[p]) hp fun pb => bBallotR_ok pb s
theorem aAskedP_ok {s : BSt} (hp : g.prop = some s) (u : Int) : Tri Tryz.prog 92 #[oneC (.pointer r.pv), .int .i64 u] (ARepR b g r) (fun v => HP.and (v = .bool (askedB s u)) (ARepR b g r)) := prop_read (args := fun p => #[p, .int .i64 u]) hp fun pb => bAskedR_ok pb s u
theorem aValue_ok {s : BSt} (hp : g.prop = some s) : Tri Tryz.prog 69 #[oneC (.pointer r.pv)] (ARepR b g r) (fun v => HP.ex fun a => HP.ex fun c => HP.and (v = .slice a s.val.length c) (HP.sep (RoB a s.val.length s.val) (ARepR b g r))) :=
  (prop_tri (args := fun p => #[p]) (B := fun v => HP.ex fun a => HP.ex fun c => HP.and (v = .slice a s.val.length c) (RoB a s.val.length s.val)) (K := HP.tt) hp fun pb => (bValueR_ok pb s).weak (fun R h H => HP.sep_left H) fun v R h ⟨a, c, e, H⟩ => HP.sep_mono H (fun _ h => ⟨a, c, e, h⟩) fun _ h => h).weak (fun R h H => HP.sep_tt H) fun v R h ⟨h1, h2, d, l1, l2, ⟨a, c, e, H1⟩, H2⟩ => ⟨a, c, e, h1, h2, d, l1, l2, H1, H2⟩

theorem aState_ok : Tri Tryz.prog 14 #[.pointer (some ⟨b, 0, none⟩)] (ARepR b g r) (fun v => HP.and (v = .int .i64 g.st) (ARepR b g r)) := by
  refine tri_of_tree (ρ := [.n b, .p (ARepR b g r)]) mixed Tryz.func14 tree_aState ?_
  unfold t_aState
  simp only [T.den, E.prop, E.den, RX.look, F1.app, F2.app, Uni.int_i, Uni.nat_n, Uni.bool_c, Uni.str_s, Uni.adr_a, Uni.val_v, Uni.hp_p, hden, cden, V.den, W.den, A.den, BR.den, SA.den, FV.den, capV, exs, exP, allP, Cur.app, List.map_cons, List.map_nil, List.cons_append, List.nil_append, List.drop_succ_cons, List.drop_zero, List.length_cons, List.length_nil, Nat.zero_add, Nat.reduceAdd, Int.neg_neg, Bool.not_not, List.append_nil, Nat.add_zero, List.getElem?_cons_zero, List.getElem?_cons_succ, Decidable.not_not, semW_eq, semW_load, ne_eq, Nat.reduceEqDiff, not_false_eq_true]
  exact ⟨g.st, aLdI rfl, .of fun R h H => ⟨rfl, H⟩⟩
theorem aTail_ok : Tri Tryz.prog 21 #[.pointer (some ⟨b, 0, none⟩)] (ARepR b g r) (fun v => HP.and (v = .int .i64 g.tail) (ARepR b g r)) := by
  refine tri_of_tree (ρ := [.n b, .p (ARepR b g r)]) mixed Tryz.func21 tree_aTail ?_
  unfold t_aTail
  simp only [T.den, E.prop, E.den, RX.look, F1.app, F2.app, Uni.int_i, Uni.nat_n, Uni.bool_c, Uni.str_s, Uni.adr_a, Uni.val_v, Uni.hp_p, hden, cden, V.den, W.den, A.den, BR.den, SA.den, FV.den, capV, exs, exP, allP, Cur.app, List.map_cons, List.map_nil, List.cons_append, List.nil_append, List.drop_succ_cons, List.drop_zero, List.length_cons, List.length_nil, Nat.zero_add, Nat.reduceAdd, Int.neg_neg, Bool.not_not, List.append_nil, Nat.add_zero, List.getElem?_cons_zero, List.getElem?_cons_succ, Decidable.not_not, semW_eq, semW_load, ne_eq, Nat.reduceEqDiff, not_false_eq_true]
  exact ⟨g.tail, aLdI rfl, .of fun R h H => ⟨rfl, H⟩⟩
theorem aEpoch_ok (h0 : 0 ≤ g.old.ep) (h1 : g.old.ep ≤ 2147483647) : Tri Tryz.prog 53 #[.pointer (some ⟨b, 0, none⟩)] (ARepR b g r) (fun v => HP.and (v = .int .i64 (g.old.ep + 1)) (ARepR b g r)) := by
  refine tri_of_tree (ρ := [.n b, .p (ARepR b g r)]) mixed Tryz.func53 tree_aEpoch ?_
  unfold t_aEpoch
  simp only [T.den, E.prop, E.den, RX.look, F1.app, F2.app, Uni.int_i, Uni.nat_n, Uni.bool_c, Uni.str_s, Uni.adr_a, Uni.val_v, Uni.hp_p, hden, cden, V.den, W.den, A.den, BR.den, SA.den, FV.den, capV, exs, exP, allP, Cur.app, List.map_cons, List.map_nil, List.cons_append, List.nil_append, List.drop_succ_cons, List.drop_zero, List.length_cons, List.length_nil, Nat.zero_add, Nat.reduceAdd, Int.neg_neg, Bool.not_not, List.append_nil, Nat.add_zero, List.getElem?_cons_zero, List.getElem?_cons_succ, Decidable.not_not, semW_eq, semW_load, ne_eq, Nat.reduceEqDiff, not_false_eq_true]
  exact ⟨g.old.ep, aLdI rfl, inI64 _ (by omega) (by omega), fun _ => .of fun R h H => ⟨rfl, H⟩⟩
theorem fgoPl : Fgo Tryz.prog 134 := ⟨_, Tryz.func134, by kernel_rfl, by kernel_rfl⟩
def plannedA (p : PlP) (u : Int) : Bool := p.ch.any fun c => decide (u ∈ c)
theorem aPlanned_ok (u : Int) : Tri Tryz.prog 93 #[.pointer (some ⟨b, 0, none⟩), .int .i64 u] (ARepR b g r) (fun v => HP.and (v = .bool (plannedA g.plan u)) (ARepR b g r)) := by
  refine Tri.fact (φ := ROk g r) (fun R h H => H.1) fun hok => ?_
  refine tri_of_tree (ρ := [.n b, .p (ARepR b g r), .i u]) mixed Tryz.func93 tree_aPlanned ?_
  unfold t_aPlanned
  simp only [T.den, E.prop, E.den, RX.look, F1.app, F2.app, Uni.int_i, Uni.nat_n, Uni.bool_c, Uni.str_s, Uni.adr_a, Uni.val_v, Uni.hp_p, hden, cden, V.den, W.den, A.den, BR.den, SA.den, FV.den, capV, exs, exP, allP, Cur.app, List.map_cons, List.map_nil, List.cons_append, List.nil_append, List.drop_succ_cons, List.drop_zero, List.length_cons, List.length_nil, Nat.zero_add, Nat.reduceAdd, Int.neg_neg, Bool.not_not, List.append_nil, Nat.add_zero, List.getElem?_cons_zero, List.getElem?_cons_succ, Decidable.not_not, semW_eq, semW_load, ne_eq, Nat.reduceEqDiff, not_false_eq_true]
  intro x
  refine ⟨r.pa, r.pes.length, r.pc, aLdC rfl, ?_⟩
  refine (cContainsF_ok (ARepR b g r) (HP.one x (.cells #[.int .i64 u] 3 (0, 0))) r.pa r.pes.length r.pc r.pes (fun R h H => (ARepR.ro H).2.2) (by have := hok.pb.1; omega) (.func (.func 134) #[] #[.pointer (some ⟨x, 0, none⟩)]) rfl (fun y => decide (u ∈ y.l)) fun y hy => ?_).weak (fun _ _ h => h) ?_
  · refine .inl ⟨_, _, rfl, fgoPl, ?_⟩
    refine (tri_of_tree (ρ := [.a y.a, .n y.l.length, .n y.c, .p (ARepR b g r), .n x, .i u]) (post := fun v => HP.and (v = .bool (decide (u ∈ y.l))) (HP.sep (ARepR b g r) (HP.one x (.cells #[.int .i64 u] 3 (0, 0))))) mixed Tryz.func134 tree_aPlanned1 ?_).weak (fun R h H => HP.sep_comm H) fun v R h ⟨e, H⟩ => ⟨e, HP.sep_comm H⟩
    unfold t_aPlanned1
    simp only [T.den, E.prop, E.den, RX.look, F1.app, F2.app, Uni.int_i, Uni.nat_n, Uni.bool_c, Uni.str_s, Uni.adr_a, Uni.val_v, Uni.hp_p, hden, cden, V.den, W.den, A.den, BR.den, SA.den, FV.den, capV, exs, exP, allP, Cur.app, List.map_cons, List.map_nil, List.cons_append, List.nil_append, List.drop_succ_cons, List.drop_zero, List.length_cons, List.length_nil, Nat.zero_add, Nat.reduceAdd, Int.neg_neg, Bool.not_not, List.append_nil, Nat.add_zero, List.getElem?_cons_zero, List.getElem?_cons_succ, Decidable.not_not, semW_eq, semW_load, ne_eq, Nat.reduceEqDiff, not_false_eq_true]
    refine (iContains_ok (ARepR b g r) y.a y.l.length y.c y.l (.of fun R h H => (ARepR.ro H).2.2.2.2 y hy) rfl (by have := hok.pb.2 y hy; omega) u).weak (fun _ _ h => h) ?_
    rintro v R h ⟨rfl, H⟩
    exact ⟨_, rfl, .of fun R h H => ⟨rfl, H⟩, H⟩
  · rintro v R h ⟨rfl, H⟩
    refine ⟨_, rfl, .of fun R h H => ⟨?_, ?_⟩, H⟩
    · congr 1
      unfold plannedA
      rw [← hok.p, List.any_map]; rfl
    · first | exact H | exact HP.sep_left H
def askedA (g : AdvS) (u : Nat) : Bool :=
  if g.st = 1 then decide ((u : Int) < g.units) && !g.rep u
  else if g.st = 2 then (match g.prop with | some s => askedB s u | none => false)
  else if g.st = 3 then !g.rep u && plannedA g.plan u
  else false
theorem aAsked_ok (u : Nat) (hu : u < 7) (hp : g.st = 2 → g.prop.isSome = true) : Tri Tryz.prog 54 #[.pointer (some ⟨b, 0, none⟩), .int .i64 u] (ARepR b g r) (fun v => HP.and (v = .bool (askedA g u)) (ARepR b g r)) := by
  refine tri_of_tree (ρ := [.n b, .p (ARepR b g r), .i u]) mixed Tryz.func54 tree_aAsked ?_
  unfold t_aAsked
  simp only [T.den, E.prop, E.den, RX.look, F1.app, F2.app, Uni.int_i, Uni.nat_n, Uni.bool_c, Uni.str_s, Uni.adr_a, Uni.val_v, Uni.hp_p, hden, cden, V.den, W.den, A.den, BR.den, SA.den, FV.den, capV, exs, exP, allP, Cur.app, List.map_cons, List.map_nil, List.cons_append, List.nil_append, List.drop_succ_cons, List.drop_zero, List.length_cons, List.length_nil, Nat.zero_add, Nat.reduceAdd, Int.neg_neg, Bool.not_not, List.append_nil, Nat.add_zero, List.getElem?_cons_zero, List.getElem?_cons_succ, Decidable.not_not, semW_eq, semW_load, ne_eq, Nat.reduceEqDiff, not_false_eq_true, semW_ixS]
  refine ⟨g.st, aLdI rfl, fun h1 => ⟨g.units, aLdI rfl, fun h2 => ?_, fun h2 => ?_⟩, fun h1 => ⟨fun h2 => ?_, fun h2 => ⟨fun h3 => ?_, fun h3 => ?_⟩⟩⟩
  · refine ⟨.pointer (some ⟨b, 5 + u, none⟩), ixAt undA7 infBo szBo rfl hu, g.rep u, aLdRep hu, .of fun R h H => ⟨?_, H⟩⟩
    simp only [askedA, if_pos h1, decide_eq_true h2, Bool.true_and]
  · refine .of fun R h H => ⟨?_, H⟩
    simp only [askedA, if_pos h1, decide_eq_false h2, Bool.false_and]
  · obtain ⟨s, hs⟩ := Option.isSome_iff_exists.1 (hp h2)
    refine ⟨.pointer r.pv, aLdP, ?_⟩
    refine (aAskedP_ok hs u).weak (fun _ _ h => h) ?_
    rintro v R h ⟨rfl, H⟩
    refine ⟨_, rfl, .of fun R h H => ⟨?_, H⟩, H⟩
    simp only [askedA, if_neg h1, if_pos h2, hs]
  · refine ⟨.pointer (some ⟨b, 5 + u, none⟩), ixAt undA7 infBo szBo rfl hu, g.rep u, aLdRep hu, fun h4 => ?_, fun h4 => ?_⟩
    · refine (aPlanned_ok u).weak (fun _ _ h => h) ?_
      rintro v R h ⟨rfl, H⟩
      refine ⟨_, rfl, .of fun R h H => ⟨?_, H⟩, H⟩
      simp only [askedA, if_neg h1, if_neg h2, if_pos h3]
      have : g.rep u = false := by simpa using h4
      rw [this]; rfl
    · refine .of fun R h H => ⟨?_, H⟩
      simp only [askedA, if_neg h1, if_neg h2, if_pos h3]
      have : g.rep u = true := by simpa using h4
      rw [this]; rfl
  · refine .of fun R h H => ⟨?_, H⟩
    simp only [askedA, if_neg h1, if_neg h2, if_neg h3]
def askA (g : AdvS) (u : Nat) : MS :=
  if g.st = 2 then (match g.prop with
    | some s => ⟨0, u, 0, false, if s.phase = 2 then 7 else 6, g.old.ep + 1, g.old.ep + 1, zC, s.rnd, s.who, if s.phase = 2 then s.val else [], 0, 0, 0, 0⟩
    | none => ⟨0, u, 0, false, 4, g.old.ep + 1, 0, zC, 0, 0, [], 0, 0, 0, 0⟩)
  else ⟨0, u, 0, false, 4, g.old.ep + 1, 0, zC, 0, 0, [], 0, 0, 0, 0⟩
theorem aAsk_ok (u : Nat) (h0 : 0 ≤ g.old.ep) (h1 : g.old.ep ≤ 2147483647) (hp : g.st = 2 → g.prop.isSome = true) (hs : ∀ s, g.prop = some s → s.val.length ≤ 140737488355328) :
    Tri Tryz.prog 55 #[.pointer (some ⟨b, 0, none⟩), .int .i64 u] (ARepR b g r) (fun v => HP.ex fun va => HP.ex fun vc => HP.and (v = .agg ((askA g u).raw none 0 va vc).vals) (HP.sep ((askA g u).Vro va) (ARepR b g r))) := by
  refine tri_of_tree (ρ := [.n b, .p (ARepR b g r), .i u]) mixed Tryz.func55 tree_aAsk ?_
  unfold t_aAsk
  simp only [T.den, E.prop, E.den, RX.look, F1.app, F2.app, Uni.int_i, Uni.nat_n, Uni.bool_c, Uni.str_s, Uni.adr_a, Uni.val_v, Uni.hp_p, hden, cden, V.den, W.den, A.den, BR.den, SA.den, FV.den, capV, exs, exP, allP, Cur.app, List.map_cons, List.map_nil, List.cons_append, List.nil_append, List.drop_succ_cons, List.drop_zero, List.length_cons, List.length_nil, Nat.zero_add, Nat.reduceAdd, Int.neg_neg, Bool.not_not, List.append_nil, Nat.add_zero, List.getElem?_cons_zero, List.getElem?_cons_succ, Decidable.not_not, semW_eq, semW_load, ne_eq, Nat.reduceEqDiff, not_false_eq_true]
  intro _
  refine (aEpoch_ok h0 h1).weak (fun _ _ h => h) ?_
  rintro v R h ⟨rfl, H⟩
  refine ⟨_, rfl, fun _ => ⟨g.st, aLdI rfl, fun h2 => ⟨.pointer r.pv, aLdP, ?_⟩, fun h2 => .of fun R h H => ⟨none, 0, ?_, ?_⟩⟩, H⟩
  · obtain ⟨s, hsp⟩ := Option.isSome_iff_exists.1 (hp h2)
    have ea : askA g u = ⟨0, u, 0, false, if s.phase = 2 then 7 else 6, g.old.ep + 1, g.old.ep + 1, zC, s.rnd, s.who, if s.phase = 2 then s.val else [], 0, 0, 0, 0⟩ := by
      unfold askA; rw [if_pos h2, hsp]
    clear H
    refine (aEpoch_ok h0 h1).weak (fun _ _ h => h) ?_
    rintro v R h ⟨rfl, H⟩
    refine ⟨_, rfl, ?_, H⟩
    refine (aBallot_ok hsp).weak (fun _ _ h => h) ?_
    rintro v R h ⟨rfl, H⟩
    refine ⟨_, _, rfl, ⟨.pointer r.pv, aLdP, ?_⟩, H⟩
    refine (aPhase_ok hsp).weak (fun _ _ h => h) ?_
    rintro v R h ⟨rfl, H⟩
    refine ⟨_, rfl, ⟨fun h3 => ⟨.pointer r.pv, aLdP, ?_⟩, fun h3 => .of fun R h H => ⟨none, 0, ?_, ?_⟩⟩, H⟩
    · clear H
      refine (aValue_ok hsp).weak (fun _ _ h => h) ?_
      rintro v R h ⟨a1, c1, rfl, H⟩
      refine ⟨a1, _, c1, RoB a1 s.val.length s.val, rfl, ?_, H⟩
      clear H
      refine (cloneR_ok (RoB a1 s.val.length s.val) a1 s.val.length c1 s.val (RdL.ro _ _ _ _) rfl (hs s hsp)).weak (fun _ _ h => h) ?_
      rintro v R h ⟨a2, c2, rfl, H⟩
      refine ⟨a2, _, c2, RoB a2 s.val.length s.val, _, rfl, .of fun R h H => ⟨a2, c2, ?_, ?_⟩, H⟩
      · rw [ea]; simp only [if_pos h3]; rfl
      · rw [ea]; simp only [if_pos h3]
        exact HP.sep_comm H
    · rw [ea]; simp only [if_neg h3]; rfl
    · rw [ea]; simp only [if_neg h3]
      exact RoC.join (RoB0 none : (RoB none 0 []).p R h) H
  · unfold askA; rw [if_neg h2]; rfl
  · unfold askA; rw [if_neg h2]
    exact RoC.join (RoB0 none : (RoB none 0 []).p R h) H
end
end Go.Proofs.YtbmajijnjkicmaaGreatDoor



namespace Go.Proofs.YtbmajijnjkicmaaGreatDoor
set_option linter.unusedSimpArgs false
set_option linter.unusedVariables false
open Go.Proofs.YtbmajijnjkicmaaGreatDoor RX
set_option maxRecDepth 100000


structure MsE where
  m : MS
  ca : Option Addr
  cc : Nat
  va : Option Addr
  vc : Nat
abbrev MsE.vals (x : MsE) : Array Value := (x.m.raw x.ca x.cc x.va x.vc).vals
def kMs : Kind MsE := ⟨16, by decide, fun x => x.vals.toList, fun _ => rfl, fun x => HP.both (x.m.Dro x.ca) (x.m.Vro x.va), fun _ _ _ _ H => H⟩
theorem kMs_one : ∀ x, ∀ u ∈ kMs.vals x, u.oneCell' = true := fun x u hu => by
  simp only [kMs, MsE.vals, MR.vals, List.mem_cons, List.not_mem_nil, or_false] at hu
  rcases hu with h | h | h | h | h | h | h | h | h | h | h | h | h | h | h | h <;> (subst h; rfl)
abbrev pkMs : PK MsE := pkOf kMs 41 kMs_one
theorem infoMs : (Tryz.prog.info? 41).map (fun i => (i.zero.map (fun z => z.cells.size), i.zero.isSome, i.size, i.bytes)) = some (some 16, true, 16, 160) := by kernel_rfl
theorem info_ms : ∃ i z, Tryz.prog.info? 41 = some i ∧ i.zero = some z ∧ z.cells.size = i.size ∧ i.size = 16 ∧ i.bytes = 160 := by
  obtain ⟨inf, hi, hz⟩ := Option.map_eq_some_iff.1 infoMs
  simp only [Prod.mk.injEq, Option.map_eq_some_iff] at hz
  obtain ⟨⟨z, hz0, hz1⟩, _, hz3, hz4⟩ := hz
  exact ⟨inf, z, hi, hz0, by rw [hz1, hz3], hz3, hz4⟩
theorem undMss : Tryz.prog.underlying 33 = some (.slice 41) := by kernel_rfl
theorem aggMs : aggT Tryz.prog 41 = true := by kernel_rfl
theorem szMs : szT Tryz.prog 41 = 16 := by kernel_rfl
theorem ldMs {S : HP} {a : Option Addr} {n : Nat} {l : List MsE} (hS : ∀ R h, S.p R h → (Ls kMs a n l).p R h) {k : Nat} {x : MsE} (hk : l[k]? = some x) :
    ORead Tryz.prog (loadS 41 (.pointer (a.map fun y => (y.add ((k : Int).toNat * 16)).add 0))) S (.agg x.vals) := by
  obtain ⟨d, hd⟩ : ∃ d, Tryz.prog.underlying 41 = some d := Option.isSome_iff_exists.1 (by kernel_rfl)
  have := ORead.ent (.of hS) (Ls.load (K := kMs) hd aggMs szMs hk)
  simpa [kMs] using this
set_option maxHeartbeats 1000000 in
theorem mIndexF_ok (S Q : HP) (a : Option Addr) (n c : Nat) (l : List MsE) (hS : ∀ R h, S.p R h → (Ls kMs a n l).p R h) (hn : n ≤ 1000000000) (fv : Value) (h1 : oneC fv = fv) (p : MsE → Bool)
    (hf : ∀ x ∈ l, VTri Tryz.prog fv #[.agg x.vals] (HP.sep Q S) fun v => HP.and (v = .bool (p x)) (HP.sep Q S)) :
    Tri Tryz.prog 60 #[.slice a n c, fv] (HP.sep S Q) (fun v => HP.ex fun r : Int => HP.and (v = .int .i64 r ∧ (0 ≤ r ↔ l.any p = true)) (HP.sep S Q)) := by
  refine Tri.fact (φ := l.length = n ∧ (n ≠ 0 → a.isSome = true)) (fun R h H => ⟨(hS R _ (HP.sep_left H)).1, fun hn => RoC.some (hS R _ (HP.sep_left H)).2.1 (by omega)⟩) fun ⟨hl, hs⟩ => ?_
  have := tri_of_tree (ρ := [.a a, .n n, .n c, .p S, .v fv, .p Q]) mixed Tryz.func60 (t := t_mIndexF) (post := fun v => HP.ex fun r : Int => HP.and (v = .int .i64 r ∧ (0 ≤ r ↔ l.any p = true)) (HP.sep S Q)) tree_mIndexF ?_
  · simpa [W.den, RX.A.den, SA.den, E.den, RX.look, h1, hden, cden] using this
  unfold t_mIndexF
  simp only [T.den, E.prop, E.den, RX.look, F1.app, F2.app, Uni.int_i, Uni.nat_n, Uni.bool_c, Uni.str_s, Uni.adr_a, Uni.val_v, Uni.hp_p, hden, cden, V.den, W.den, A.den, BR.den, SA.den, FV.den, capV, exs, exP, allP, Cur.app, List.map_cons, List.map_nil, List.cons_append, List.nil_append, List.drop_succ_cons, List.drop_zero, List.length_cons, List.length_nil, Nat.zero_add, Nat.reduceAdd, Int.neg_neg, Bool.not_not, List.append_nil, Nat.add_zero, List.getElem?_cons_zero, List.getElem?_cons_succ, Decidable.not_not, semW_eq, semW_load, ne_eq, Nat.reduceEqDiff, not_false_eq_true, h1]
  refine ⟨fun _ i P => ∃ k : Nat, i = k ∧ k ≤ n ∧ Q = P ∧ ∀ (j : Nat) (x : MsE), j < k → l[j]? = some x → p x = false, fun _ i _ => n - i.toNat, ⟨0, rfl, Nat.zero_le _, rfl, fun q x h => by omega⟩, ?_⟩
  rintro _ _ _ ⟨k, rfl, hk, rfl, hall⟩
  refine ⟨fun hlt => ⟨by omega, fun _ => ⟨hs (by omega), fun _ => ?_⟩⟩, fun hge => .of fun R h H => ⟨-1, ⟨rfl, ?_⟩, H⟩⟩
  · have hkl : k < l.length := by omega
    obtain ⟨x, hx⟩ : ∃ x, l[k]? = some x := ⟨l[k], List.getElem?_eq_getElem hkl⟩
    refine ⟨x.m.fr, x.m.to, x.m.num, x.m.rep, x.m.kind, x.m.ep, x.m.at', x.m.cell.what, x.ca, x.m.cell.data.length, x.cc, x.m.br, x.m.bw, x.va, x.m.val.length, x.vc, x.m.err, x.m.tail, x.m.low, x.m.back, ldMs hS hx, ?_⟩
    refine (hf x (List.mem_of_getElem? hx)).weak (fun _ _ h => h) ?_
    rintro v R h ⟨rfl, H⟩
    refine ⟨p x, Q, rfl, ⟨fun hp => .of fun R h H => ⟨k, ⟨rfl, ⟨fun _ => List.any_eq_true.2 ⟨x, List.mem_of_getElem? hx, hp⟩, fun _ => by omega⟩⟩, H⟩, fun hp => ⟨inI64 _ (by omega) (by omega), fun _ => ⟨⟨k + 1, by omega, by omega, rfl, fun q y hq hy => ?_⟩, by dsimp only; omega⟩⟩⟩, H⟩
    rcases Nat.lt_or_ge q k with h | h
    · exact hall q y h hy
    · obtain rfl : q = k := by omega
      rw [hx] at hy; cases hy
      simpa using hp
  · refine ⟨fun h => by omega, fun h => ?_⟩
    obtain ⟨x, hx, hp⟩ := List.any_eq_true.1 h
    obtain ⟨q, hq, rfl⟩ := List.mem_iff_getElem.1 hx
    have := hall q l[q] (by omega) (List.getElem?_eq_getElem hq)
    rw [hp] at this; cases this
theorem mContainsF_ok (S Q : HP) (a : Option Addr) (n c : Nat) (l : List MsE) (hS : ∀ R h, S.p R h → (Ls kMs a n l).p R h) (hn : n ≤ 1000000000) (fv : Value) (h1 : oneC fv = fv) (p : MsE → Bool)
    (hf : ∀ x ∈ l, VTri Tryz.prog fv #[.agg x.vals] (HP.sep Q S) fun v => HP.and (v = .bool (p x)) (HP.sep Q S)) :
    Tri Tryz.prog 32 #[.slice a n c, fv] (HP.sep S Q) (fun v => HP.and (v = .bool (l.any p)) (HP.sep S Q)) := by
  have := tri_of_tree (ρ := [.a a, .n n, .n c, .p S, .v fv, .p Q]) mixed Tryz.func32 (t := t_mContainsF) (post := fun v => HP.and (v = .bool (l.any p)) (HP.sep S Q)) tree_mContainsF ?_
  · simpa [W.den, RX.A.den, SA.den, E.den, RX.look, h1, hden, cden] using this
  unfold t_mContainsF
  simp only [T.den, E.prop, E.den, RX.look, F1.app, F2.app, Uni.int_i, Uni.nat_n, Uni.bool_c, Uni.str_s, Uni.adr_a, Uni.val_v, Uni.hp_p, hden, cden, V.den, W.den, A.den, BR.den, SA.den, FV.den, capV, exs, exP, allP, Cur.app, List.map_cons, List.map_nil, List.cons_append, List.nil_append, List.drop_succ_cons, List.drop_zero, List.length_cons, List.length_nil, Nat.zero_add, Nat.reduceAdd, Int.neg_neg, Bool.not_not, List.append_nil, Nat.add_zero, List.getElem?_cons_zero, List.getElem?_cons_succ, Decidable.not_not, semW_eq, ne_eq, Nat.reduceEqDiff, not_false_eq_true, h1]
  refine (mIndexF_ok S Q a n c l hS hn fv h1 p hf).weak (fun _ _ h => h) ?_
  rintro v R h ⟨r, ⟨rfl, hr2⟩, H⟩
  refine ⟨r, S, Q, rfl, .of fun R h H => ⟨?_, H⟩, H⟩
  congr 1
  rw [Bool.eq_iff_iff, decide_eq_true_eq]
  exact hr2

def startA (g : AdvS) : MS := ⟨0, 7, 0, false, 9, g.old.ep + 1, g.tail, zC, 0, 0, [], 0, 0, 0, 0⟩
def asksL (g : AdvS) : List MS := if g.st = 4 then [startA g] else ((List.range 7).filter (askedA g)).map (askA g)
theorem filt_get (p : Nat → Bool) {u m : Nat} (hu : u < m) (h : p u = true) : ((List.range m).filter p)[((List.range u).filter p).length]? = some u := by
  have e : List.range m = List.range u ++ u :: (List.range' (u + 1) (m - u - 1)) := by
    rw [List.range_eq_range', List.range_eq_range', show u :: List.range' (u + 1) (m - u - 1) = List.range' u (m - u) from by
      rw [show m - u = (m - u - 1) + 1 by omega, List.range'_succ]; simp]
    rw [show List.range' u (m - u) = List.range' (0 + 1 * u) (m - u) by simp, List.range'_append]
    congr 1; omega
  rw [e, List.filter_append, List.getElem?_append_right (Nat.le_refl _), Nat.sub_self, List.filter_cons, if_pos h]; rfl
theorem filt_succ (p : Nat → Bool) (u : Nat) : ((List.range (u + 1)).filter p).length = ((List.range u).filter p).length + if p u = true then 1 else 0 := by
  rw [List.range_succ, List.filter_append, List.length_append]
  congr 1
  by_cases h : p u = true <;> simp [h]
section
variable {b : Nat} {g : AdvS} {r : ARw}
def ABox (x b : Nat) : HP := HP.one x (.cells #[.pointer (some ⟨b, 0, none⟩)] 31 (0, 0))
def mayA (g : AdvS) (k : Nat) (args : Array Value) (k' : Nat) : Prop := ∃ m va vc, (asksL g)[k]? = some m ∧ args = #[.agg (m.raw none 0 va vc).vals] ∧ k' = k + 1
def prA (g : AdvS) (k : Nat) (args : Array Value) : HP := HP.ex fun m : MS => HP.ex fun va => HP.ex fun vc => HP.and ((asksL g)[k]? = some m ∧ args = #[.agg (m.raw none 0 va vc).vals]) (m.Vro va)
theorem fgoAs : Fgo Tryz.prog 52 := ⟨_, Tryz.func52, by kernel_rfl, by kernel_rfl⟩
structure ASafe (g : AdvS) : Prop where
  e0 : 0 ≤ g.old.ep
  e1 : g.old.ep ≤ 2147483647
  p2 : g.st = 2 → g.prop.isSome = true
  vl : ∀ s, g.prop = some s → s.val.length ≤ 100000000
theorem asks_seq (hs : ASafe g) (x : Nat) : SeqTri Tryz.prog (.func (.func 52) #[] #[.pointer (some ⟨x, 0, none⟩)]) (HP.sep (ABox x b) (ARepR b g r)) (fun _ : Nat => HP.tt) (prA g) (mayA g) (fun k => k = (asksL g).length) 0 := by
  refine ⟨_, _, rfl, fgoAs, fun l K Jx hr => ?_⟩
  refine (tri_of_tree (ρ := [.v (.func (.yield l) #[] #[]), .p (K 0), .n x, .n b, .p (ARepR b g r)]) mixed Tryz.func52 tree_aAsks1 ?_).weak (fun R h H => ?_) fun _ _ _ h => h
  rotate_left
  · exact HP.pick [ABox x b, ARepR b g r, HP.tt, K 0] [3, 0, 1] (by decide) rfl (HP.sep_assoc H)
  unfold t_aAsks1
  simp only [T.den, E.prop, E.den, RX.look, F1.app, F2.app, Uni.int_i, Uni.nat_n, Uni.bool_c, Uni.str_s, Uni.adr_a, Uni.val_v, Uni.hp_p, hden, cden, V.den, W.den, A.den, BR.den, SA.den, FV.den, capV, exs, exP, allP, Cur.app, List.map_cons, List.map_nil, List.cons_append, List.nil_append, List.drop_succ_cons, List.drop_zero, List.length_cons, List.length_nil, Nat.zero_add, Nat.reduceAdd, Int.neg_neg, Bool.not_not, List.append_nil, Nat.add_zero, List.getElem?_cons_zero, List.getElem?_cons_succ, Decidable.not_not, semW_eq, semW_load, ne_eq, Nat.reduceEqDiff, not_false_eq_true]
  have fin : ∀ J : HP, HP.ent J (SeqPost (fun _ : Nat => HP.tt) K Jx (fun k => k = (asksL g).length)) → HP.ent (HP.sep J (HP.sep (HP.one x (.cells #[.pointer (some ⟨b, 0, none⟩)] 31 (0, 0))) (ARepR b g r))) (HP.sep (HP.sep (ABox x b) (ARepR b g r)) (SeqPost (fun _ : Nat => HP.tt) K Jx (fun k => k = (asksL g).length))) := fun J hJ =>
    (HP.ent.of fun R h H => HP.sep_comm H).trans (HP.ent.sep2 (.refl _) hJ)
  have done : ∀ k, k = (asksL g).length → HP.ent (K k) (SeqPost (fun _ : Nat => HP.tt) K Jx (fun k => k = (asksL g).length)) := fun k hk => .of fun R h H => ⟨some k, hk, HP.tt_sep H⟩
  refine ⟨g.st, aLdI rfl, fun h4 => ?_, fun h4 => ?_⟩
  · have hL : asksL g = [startA g] := if_pos h4
    refine ⟨g.tail, aLdI rfl, ?_⟩
    refine (aEpoch_ok hs.e0 hs.e1).weak (fun _ _ h => h) ?_
    rintro v R h ⟨rfl, H⟩
    refine ⟨_, rfl, ?_, H⟩
    clear H
    have hm : (asksL g)[0]? = some (startA g) := by rw [hL]; rfl
    refine (hr 0 #[.agg ((startA g).raw none 0 none 0).vals] ⟨1, startA g, none, 0, hm, rfl, rfl⟩).conseq (K := HP.tt) (.of fun R h H => HP.sep_tt ?_) fun v => .of fun R h H => ?_
    · refine ⟨PH.none', h, PH.none_dj _, PH.none_le _, PH.le.refl _, ⟨startA g, none, 0, ⟨hm, rfl⟩, RoC.nil _ _ _ _⟩, HP.tt_sep H⟩
    · obtain ⟨b', rfl, hb⟩ := HP.sep_left H
      cases b' with
      | true =>
        obtain ⟨g', ⟨_, _, _, _, _, rfl⟩, H2⟩ := hb
        exact ⟨true, K 1, rfl, fin _ (done 1 (by rw [hL]; rfl)), HP.sep_right H2⟩
      | false => exact ⟨false, Jx, rfl, fin _ (.of fun R h H => ⟨none, H⟩), hb⟩
  · have hL : asksL g = ((List.range 7).filter (askedA g)).map (askA g) := if_neg h4
    refine ⟨fun i p => ∃ u : Nat, i = u ∧ u ≤ 7 ∧ p = K ((List.range u).filter (askedA g)).length, fun i _ => 7 - i.toNat, ⟨0, rfl, Nat.zero_le _, rfl⟩, ?_⟩
    rintro _ _ ⟨u, rfl, hu, rfl⟩
    refine ⟨fun hlt => ?_, fun hge => ?_⟩
    · have hu7 : u < 7 := by omega
      refine (aAsked_ok u hu7 hs.p2).weak (fun _ _ h => h) ?_
      rintro v R h ⟨rfl, H⟩
      refine ⟨_, rfl, ⟨fun ha => ?_, fun ha => ⟨inI64 _ (by omega) (by omega), fun _ => ⟨⟨u + 1, by omega, by omega, ?_⟩, by dsimp only; omega⟩⟩⟩, H⟩
      · clear H
        have hm : (asksL g)[((List.range u).filter (askedA g)).length]? = some (askA g u) := by rw [hL, List.getElem?_map, filt_get _ hu7 ha]; rfl
        refine (aAsk_ok u hs.e0 hs.e1 hs.p2 fun s h => by have := hs.vl s h; omega).weak (fun _ _ h => h) ?_
        rintro v R h ⟨va, vc, rfl, H⟩
        refine ⟨(askA g u).fr, (askA g u).to, (askA g u).num, (askA g u).rep, (askA g u).kind, (askA g u).ep, (askA g u).at', (askA g u).cell.what, none, (askA g u).cell.data.length, 0, HP.tt, (askA g u).br, (askA g u).bw, va, (askA g u).val.length, vc, (askA g u).Vro va, (askA g u).err, (askA g u).tail, (askA g u).low, (askA g u).back, rfl, ?_, HP.tt_sep H⟩
        clear H
        refine (hr _ #[.agg ((askA g u).raw none 0 va vc).vals] ⟨_, askA g u, va, vc, hm, rfl, rfl⟩).conseq (K := HP.sep HP.tt ((askA g u).Vro va)) (.of fun R h H => ?_) fun v => .of fun R h H => ?_
        · have hv0 : ((askA g u).Vro va).p R h := HP.sep_right (HP.sep_right H)
          have hv : ∀ h', ((askA g u).Vro va).p R h' := fun _ => hv0
          exact HP.sep_mono H (fun y hy => ⟨PH.none', y, PH.none_dj _, PH.none_le _, PH.le.refl _, ⟨askA g u, va, vc, ⟨hm, rfl⟩, hv _⟩, HP.tt_sep hy⟩) fun _ h => h
        · obtain ⟨h1, h2, dd, l1, l2, ⟨b', rfl, hb⟩, HV⟩ := H
          cases b' with
          | true =>
            obtain ⟨g', ⟨_, _, _, _, _, rfl⟩, H2⟩ := hb
            refine ⟨true, _, rfl, ⟨fun h => absurd rfl h, fun _ => ⟨inI64 _ (by omega) (by omega), fun _ => ⟨⟨u + 1, by omega, by omega, ?_⟩, by dsimp only; omega⟩⟩⟩, h1, h2, dd, l1, l2, HP.sep_right H2, HV⟩
            rw [filt_succ, if_pos ha]
          | false => exact ⟨false, Jx, rfl, ⟨fun _ => fin _ (.of fun R h H => ⟨none, H⟩), fun h => by cases h⟩, h1, h2, dd, l1, l2, hb, HV⟩
      · rw [filt_succ, if_neg ha]; rfl
    · obtain rfl : u = 7 := by omega
      exact fin _ (done _ (by rw [hL, List.length_map]))
theorem aAsks_ok : Tri Tryz.prog 29 #[.pointer (some ⟨b, 0, none⟩)] (ARepR b g r) (fun v => HP.ex fun x => HP.and (v = .func (.func 52) #[] #[.pointer (some ⟨x, 0, none⟩)]) (HP.sep (ABox x b) (ARepR b g r))) := by
  refine tri_of_tree (ρ := [.n b, .p (ARepR b g r)]) mixed Tryz.func29 tree_aAsks ?_
  unfold t_aAsks
  simp only [T.den, E.prop, E.den, RX.look, F1.app, F2.app, Uni.int_i, Uni.nat_n, Uni.bool_c, Uni.str_s, Uni.adr_a, Uni.val_v, Uni.hp_p, hden, cden, V.den, W.den, A.den, BR.den, SA.den, FV.den, capV, exs, exP, allP, Cur.app, List.map_cons, List.map_nil, List.cons_append, List.nil_append, List.drop_succ_cons, List.drop_zero, List.length_cons, List.length_nil, Nat.zero_add, Nat.reduceAdd, Int.neg_neg, Bool.not_not, List.append_nil, Nat.add_zero, List.getElem?_cons_zero, List.getElem?_cons_succ, Decidable.not_not, semW_eq, ne_eq, Nat.reduceEqDiff, not_false_eq_true]
  exact fun x => .of fun R h H => ⟨x, rfl, HP.sep_comm H⟩
theorem raw_va {m : MS} {va va' : Option Addr} {vc vc' : Nat} (h : (#[.agg (m.raw none 0 va vc).vals] : Array Value) = #[.agg (m.raw none 0 va' vc').vals]) : va = va' ∧ vc = vc' := by
  simp [MR.vals] at h
  exact h
theorem asksL_len (g : AdvS) : (asksL g).length ≤ 7 := by
  unfold asksL
  split
  · simp
  · rw [List.length_map]
    have := List.length_filter_le (askedA g) (List.range 7)
    rwa [List.length_range] at this
set_option maxHeartbeats 1000000 in
theorem aAsksL_ok (hs : ASafe g) : Tri Tryz.prog 11 #[.pointer (some ⟨b, 0, none⟩)] (ARepR b g r) (fun v => HP.ex fun a => HP.ex fun c => HP.ex fun es : List MsE => HP.and (v = .slice a es.length c ∧ es.map (·.m) = asksL g) (HP.sep (PL pkMs a es.length c es) (ARepR b g r))) := by
  refine tri_of_tree (ρ := [.n b, .p (ARepR b g r)]) mixed Tryz.func11 tree_aAsksL ?_
  unfold t_aAsksL
  simp only [T.den, E.prop, E.den, RX.look, F1.app, F2.app, Uni.int_i, Uni.nat_n, Uni.bool_c, Uni.str_s, Uni.adr_a, Uni.val_v, Uni.hp_p, hden, cden, V.den, W.den, A.den, BR.den, SA.den, FV.den, capV, exs, exP, allP, Cur.app, List.map_cons, List.map_nil, List.cons_append, List.nil_append, List.drop_succ_cons, List.drop_zero, List.length_cons, List.length_nil, Nat.zero_add, Nat.reduceAdd, Int.neg_neg, Bool.not_not, List.append_nil, Nat.add_zero, List.getElem?_cons_zero, List.getElem?_cons_succ, Decidable.not_not, semW_eq, semW_append, ne_eq, Nat.reduceEqDiff, not_false_eq_true]
  intro _
  refine aAsks_ok.weak (fun _ _ h => h) ?_
  rintro v R h ⟨x, rfl, H⟩
  refine ⟨.func (.func 52) #[] #[.pointer (some ⟨x, 0, none⟩)], ABox x b, rfl, fun _ => ?_, H⟩
  clear H
  obtain ⟨i, z, hi, h1, h2, h3, h4⟩ := info_ms
  refine ⟨Nat, fun _ => HP.tt, prA g, mayA g, fun k => k = (asksL g).length, 0, fun k a n c q => ∃ es : List MsE, n = es.length ∧ es.map (·.m) = (asksL g).take k ∧ k ≤ (asksL g).length ∧ HP.ent q (PL pkMs a n c es), asks_seq hs x, ?_, ?_, ?_, ?_⟩
  · exact ⟨[], rfl, rfl, Nat.zero_le _, .of fun R h _ => PL.nil' _ R h⟩
  · intros; rfl
  · rintro k args ⟨k', m, va, vc, hm, rfl, rfl⟩ a n c q ⟨es, rfl, he, hk, hq⟩
    have hkl : k < (asksL g).length := (List.getElem?_eq_some_iff.1 hm).1
    have h7 := asksL_len g
    have hel : es.length = k := by
      have := congrArg List.length he
      simp at this; omega
    refine ⟨m.fr, m.to, m.num, m.rep, m.kind, m.ep, m.at', m.cell.what, none, m.cell.data.length, 0, RoB none 0 [], m.br, m.bw, va, m.val.length, vc, m.Vro va, m.err, m.tail, m.low, m.back, rfl, .of fun R h H => ?_, fun _ e => ?_⟩
    · obtain ⟨m', va', vc', ⟨hm', ha⟩, H⟩ := H
      rw [hm] at hm'; cases hm'
      obtain ⟨rfl, rfl⟩ := raw_va ha
      exact RoC.join (RoB0 none : (RoB none 0 []).p R h) H
    · have hdat : m.cell = zC := by
        have : m ∈ asksL g := List.mem_of_getElem? hm
        unfold asksL at this
        split at this
        · obtain rfl := List.mem_singleton.1 this; rfl
        · obtain ⟨u, _, rfl⟩ := List.mem_map.1 this
          unfold askA
          split
          · split <;> rfl
          · rfl
      have hd0 : m.cell.data = [] := by rw [hdat]; rfl
      refine (PL.appK (K := pkMs) 33 33 undMss hi h1 h2 h3 (by rw [h4]; decide) a es.length c es e ⟨m, none, 0, va, vc⟩ (HP.sep (RoB none 0 []) (m.Vro va)) (by omega)).conseq (K := HP.tt) ((hq.sep _).trans (.of fun R h H => HP.sep_tt (HP.sep_mono H (fun _ h => h) fun y hy => HP.sep_mono hy (fun _ h => h) fun z hz => ?_))) fun v => .of fun R h H => ?_
      · exact ⟨PH.none', z, PH.none_dj _, PH.none_le _, PH.le.refl _, ⟨by rw [show (⟨m, none, 0, va, vc⟩ : MsE).m.Dro (⟨m, none, 0, va, vc⟩ : MsE).ca = RoB none m.cell.data.length m.cell.data from rfl, hd0]; exact RoB0 none, (HP.sep_right hz : (m.Vro va).p R _)⟩, hz⟩
      · obtain ⟨a', c', rfl, H2⟩ := HP.sep_left H
        refine ⟨a', es.length + 1, c', PL pkMs a' (es.length + 1) c' (es ++ [⟨m, none, 0, va, vc⟩]), rfl, ⟨k + 1, ⟨m, va, vc, hm, rfl, rfl⟩, es ++ [⟨m, none, 0, va, vc⟩], by simp, ?_, hkl, .refl _⟩, H2⟩
        rw [List.take_succ_eq_append_getElem hkl, List.map_append, he]
        rw [List.getElem?_eq_getElem hkl] at hm
        rw [Option.some.inj hm]; rfl
  · rintro k rfl a n c q ⟨es, rfl, he, hk, hq⟩
    rw [List.take_length] at he
    exact ((HP.ent.refl _).sep2 hq).trans (.of fun R h H => ⟨a, c, es, ⟨rfl, he⟩, HP.sep_comm H⟩)
theorem aDone_ok (hs : ASafe g) : Tri Tryz.prog 61 #[.pointer (some ⟨b, 0, none⟩)] (ARepR b g r) (fun v => HP.and (v = .bool (decide (asksL g = []))) (ARepR b g r)) := by
  refine tri_of_tree (ρ := [.n b, .p (ARepR b g r)]) mixed Tryz.func61 tree_aDone ?_
  unfold t_aDone
  simp only [T.den, E.prop, E.den, RX.look, F1.app, F2.app, Uni.int_i, Uni.nat_n, Uni.bool_c, Uni.str_s, Uni.adr_a, Uni.val_v, Uni.hp_p, hden, cden, V.den, W.den, A.den, BR.den, SA.den, FV.den, capV, exs, exP, allP, Cur.app, List.map_cons, List.map_nil, List.cons_append, List.nil_append, List.drop_succ_cons, List.drop_zero, List.length_cons, List.length_nil, Nat.zero_add, Nat.reduceAdd, Int.neg_neg, Bool.not_not, List.append_nil, Nat.add_zero, List.getElem?_cons_zero, List.getElem?_cons_succ, Decidable.not_not, semW_eq, ne_eq, Nat.reduceEqDiff, not_false_eq_true]
  intro _
  refine aAsks_ok.weak (fun _ _ h => h) ?_
  rintro v R h ⟨x, rfl, H⟩
  refine ⟨.func (.func 52) #[] #[.pointer (some ⟨x, 0, none⟩)], ABox x b, rfl, fun _ => ?_, H⟩
  clear H
  refine ⟨Nat, fun _ => HP.tt, prA g, mayA g, fun k => k = (asksL g).length, 0, fun k => k = 0, asks_seq hs x, rfl, fun _ _ => rfl, ?_, ?_⟩
  · rintro k args ⟨k', m, va, vc, hm, rfl, rfl⟩ rfl
    refine ⟨m.fr, m.to, m.num, m.rep, m.kind, m.ep, m.at', m.cell.what, none, m.cell.data.length, 0, RoB none 0 [], m.br, m.bw, va, m.val.length, vc, HP.tt, m.err, m.tail, m.low, m.back, rfl, .of fun R h H => ?_, .of fun R h H => ⟨?_, ?_⟩⟩
    · exact HP.sep_tt (RoB0 none)
    · rw [decide_eq_false]
      intro e; rw [e] at hm; cases hm
    · first | exact H | exact HP.sep_left H
  · intro k hk h0
    refine .of fun R h H => ⟨?_, ?_⟩
    · rw [decide_eq_true]
      exact List.eq_nil_of_length_eq_zero (by rw [← hk]; exact h0)
    · first | exact H | exact HP.sep_left H
end
end Go.Proofs.YtbmajijnjkicmaaGreatDoor



namespace Go.Proofs.YtbmajijnjkicmaaGreatDoor
set_option linter.unusedSimpArgs false
set_option linter.unusedVariables false
open Go.Proofs.YtbmajijnjkicmaaGreatDoor RX
set_option maxRecDepth 100000

def idxV (t : TypeId) (u v : Value) : Sem Next := do pure (.value (← Instr.index t u v))
theorem semW_idx {t ty : TypeId} {i j : Nat} {u v : Value} (h : i ≠ j) : semW (.index t (.tmp i) (.tmp j)) ty [(i, u), (j, v)] = idxV t u v := by
  have h' : (i == j) = false := by simpa using h
  simp [semW, execOp, arW, h', idxV]
theorem ix7 {f : Nat → Bool} {k : Nat} (hk : k < 7) {A : HP} : ORead Tryz.prog (idxV 73 (.agg #[.bool (f 0), .bool (f 1), .bool (f 2), .bool (f 3), .bool (f 4), .bool (f 5), .bool (f 6)]) (.int .i64 (k : Int))) A (.bool (f k)) := fun w R h F s _ => by
  obtain ⟨i, hi, z1, z2, z3⟩ := info_parts infoBo
  have hg : (#[.bool (f 0), .bool (f 1), .bool (f 2), .bool (f 3), .bool (f 4), .bool (f 5), .bool (f 6)] : Array Value)[k]? = some (.bool (f k)) := by
    have := bl7_get f hk
    simpa [bl7, List.range, List.range.loop] using this
  have hsz : (sizeOf 4).run Tryz.prog w = .ok 1 w := by rw [RX.run_sizeOf hi, szT, hi]; simp only [z2]
  have e : (Instr.index 73 (.agg #[.bool (f 0), .bool (f 1), .bool (f 2), .bool (f 3), .bool (f 4), .bool (f 5), .bool (f 6)]) (.int .i64 (k : Int))).run Tryz.prog w = .ok (.bool (f k)) w := by
    unfold Instr.index
    simp only [asIntOf, Sem.run_bind, Sem.run_pure, Result.andThen_ok, RX.run_underlying undA7]
    rw [if_pos (show (0 : Int) ≤ (k : Int) ∧ (k : Int) < ((7 : Nat) : Int) by omega)]
    simp only [Int.toNat_natCast, Sem.run_bind, hsz, Result.andThen_ok, part, RX.run_isAgg undBo, aggBo, Bool.false_eq_true, if_false, Nat.mul_one, hg, Sem.run_pure]
  unfold idxV
  rw [Sem.run_bind, e]; rfl

def thereL (g : AdvS) : List Int := ((List.range 7).filter g.there).map fun (k : Nat) => (k : Int)
def ownA (g : AdvS) : List UInt8 := if (nextP g.old (thereL g)).2 = 0 then plS (nextP g.old (thereL g)).1 else []
def chooseA (g : AdvS) : AdvS := { g with own := ownA g, st := 2, prop := some (startB g.units 1 g.who (ownA g)) }
theorem nextP_right {p : PlP} {tl : List Int} (hr : rightB p = true) (h : (nextP p tl).2 = 0) : rightB (nextP p tl).1 = true ∧ nextP p tl = (⟨p.ep + 1, p.ch.map (stayS tl)⟩, 0) := by
  have r := rightP hr
  unfold nextP at h ⊢
  rw [hr] at h ⊢
  split at h
  · exact absurd h (by decide)
  rename_i h1
  split at h
  · exact absurd h (by decide)
  rename_i h2
  rw [if_neg h1, if_neg h2]
  refine ⟨?_, rfl⟩
  have hep : p.ep ≠ 2147483647 := fun e => h1 (.inr e)
  have hfl : (p.ch.map (stayS tl)).flatten = p.ch.flatten.filter fun x => decide (x ∈ tl) := by
    rw [List.filter_flatten]; rfl
  unfold rightB
  rw [decide_eq_true]
  have q0 := r.ep0
  have q1 := r.ep1
  refine ⟨show 0 ≤ p.ep + 1 by omega, show p.ep + 1 ≤ 2147483647 by omega, by show 1 ≤ (p.ch.map (stayS tl)).length; rw [List.length_map]; exact r.len1, by show (p.ch.map (stayS tl)).length ≤ 7; rw [List.length_map]; exact r.len7, fun c hc e => h2 ?_, fun u hu => ?_, ?_⟩
  · exact List.any_eq_true.2 ⟨c, hc, decide_eq_true e⟩
  · have hu : u ∈ (p.ch.map (stayS tl)).flatten := hu
    rw [hfl] at hu
    exact r.rg u (List.mem_filter.1 hu).1
  · show ((p.ch.map (stayS tl)).flatten).Nodup
    rw [hfl]; exact r.nd.sublist List.filter_sublist
theorem ownA_len {g : AdvS} (hr : rightB g.old = true) : (ownA g).length ≤ 200 := by
  unfold ownA
  split
  · exact plS_len (rightP (nextP_right hr (by assumption)).1)
  · simp
section
variable {b : Nat} {g : AdvS} {r : ARw}
theorem aLd7 : ORead Tryz.prog (loadS 73 (.pointer (some ⟨b, 12, none⟩))) (ARepR b g r) (.agg #[.bool (g.there 0), .bool (g.there 1), .bool (g.there 2), .bool (g.there 3), .bool (g.there 4), .bool (g.there 5), .bool (g.there 6)]) := by
  refine ORead.ent (.of fun R h H => H.2) (ldBN (Q := HP.sep (PropR r.pv g.prop) (ARo g r)) (vs := bl7 g.there) undA7 (by kernel_rfl) (by rw [bl7_len]; kernel_rfl) (by rw [bl7_len]; decide) fun j v hj => ?_)
  have hj7 : j < 7 := by have := (List.getElem?_eq_some_iff.1 hj).1; rwa [bl7_len] at this
  rw [bl7_get _ hj7] at hj
  rw [← hj]
  exact advL_there g r hj7
theorem aStW {l : List UInt8} {a : Option Addr} {c : Nat} (hb : l.length ≤ 1000000) : OTri Tryz.prog (storeS 35 (.pointer (some ⟨b, 19, none⟩)) (.slice a l.length c)) (HP.sep (ARepR b g r) (RoB a l.length l)) (fun v => HP.and (v = .tuple #[]) (ARepR b { g with own := l } { r with wa := a, wc := c })) := by
  obtain ⟨i, hi, z1, z2, z3⟩ := info_parts (show (Tryz.prog.info? 35).map (fun i => (i.zero, i.size, i.bytes)) = some (some (.slice none 0 0), 1, 24) by kernel_rfl)
  refine aSt (b := b) (g := g) (r := r) (k := 19) (x := .slice a l.length c) hi z2 (by decide) rfl rfl (g' := { g with own := l }) (r' := { r with wa := a, wc := c }) rfl (fun h => ⟨h.o, h.p, h.ob, h.pb, hb⟩) _ fun R h hok H => ?_
  have hl : (RoB a l.length l).p R h := HP.sep_right H
  have hro : (ARo g r).p R h := HP.sep_right (HP.sep_left H)
  exact HP.sep_mono (HP.sep_left H) (fun _ h => h) fun y hy => ⟨hy.1, hl, hy.2.2⟩
theorem aStP {s : BSt} {pb : Nat} : OTri Tryz.prog (storeS 74 (.pointer (some ⟨b, 20, none⟩)) (.pointer (some ⟨pb, 0, none⟩))) (HP.sep (ARepR b g r) (BRep pb s)) (fun v => HP.and (v = .tuple #[]) (ARepR b { g with prop := some s } { r with pv := some ⟨pb, 0, none⟩ })) := by
  obtain ⟨i, hi, z1, z2, z3⟩ := info_parts (show (Tryz.prog.info? 74).map (fun i => (i.zero, i.size, i.bytes)) = some (some (.pointer none), 1, 8) by kernel_rfl)
  refine aSt (b := b) (g := g) (r := r) (k := 20) (x := .pointer (some ⟨pb, 0, none⟩)) hi z2 (by decide) rfl rfl (g' := { g with prop := some s }) (r' := { r with pv := some ⟨pb, 0, none⟩ }) rfl (fun h => ⟨h.o, h.p, h.ob, h.pb, h.wb⟩) _ fun R h hok H => ?_
  have hro : (ARo g r).p R h := HP.sep_right (HP.sep_left H)
  exact HP.sep_mono (HP.sep_comm H) (fun y hy => ⟨pb, rfl, hy⟩) fun y _ => ARo.pers y hro
theorem oldP (hok : ROk g r) : (⟨g.old.ep, r.oes.map (·.l)⟩ : PlP) = g.old := by rw [hok.o]
set_option maxHeartbeats 1000000 in
theorem aChoose_ok (hr : rightB g.old = true) (hu : g.units ≤ 10000) : Tri Tryz.prog 39 #[.pointer (some ⟨b, 0, none⟩)] (ARepR b g r) (fun v => HP.and (v = .tuple #[]) (ARep b (chooseA g))) := by
  refine Tri.fact (φ := ROk g r) (fun R h H => H.1) fun hok => ?_
  refine tri_of_tree (ρ := [.n b, .p (ARepR b g r)]) mixed Tryz.func39 tree_aChoose ?_
  unfold t_aChoose
  simp only [T.den, E.prop, E.den, RX.look, F1.app, F2.app, Uni.int_i, Uni.nat_n, Uni.bool_c, Uni.str_s, Uni.adr_a, Uni.val_v, Uni.hp_p, hden, cden, V.den, W.den, A.den, BR.den, SA.den, FV.den, capV, exs, exP, allP, Cur.app, List.map_cons, List.map_nil, List.cons_append, List.nil_append, List.drop_succ_cons, List.drop_zero, List.length_cons, List.length_nil, Nat.zero_add, Nat.reduceAdd, Int.neg_neg, Bool.not_not, List.append_nil, Nat.add_zero, List.getElem?_cons_zero, List.getElem?_cons_succ, Decidable.not_not, semW_eq, semW_load, semW_store, semW_storeC, semW_append, ne_eq, Nat.reduceEqDiff, not_false_eq_true, semW_idx]
  refine ⟨_, _, _, _, _, _, _, aLd7, ?_⟩
  refine ⟨fun a n c P i => ∃ u : Nat, i = u ∧ u ≤ 7 ∧ n = ((List.range u).filter g.there).length ∧ HP.ent P (OwI a n c (((List.range u).filter g.there).map fun (k : Nat) => (k : Int))), fun _ _ _ _ i => 7 - i.toNat, ⟨0, rfl, Nat.zero_le _, rfl, .of fun R h _ => OwC.nil _ _ R h⟩, ?_⟩
  rintro a _ c P _ ⟨u, rfl, hu7, rfl, hP⟩
  refine ⟨fun hlt => ?_, fun hge => ?_⟩
  · have hu : u < 7 := by omega
    have hfl : ((List.range u).filter g.there).length ≤ 7 := by
      have := List.length_filter_le g.there (List.range u)
      rw [List.length_range] at this; omega
    refine ⟨g.there u, ix7 (f := g.there) hu, fun ht x => ?_, fun ht => ⟨inI64 _ (by omega) (by omega), fun _ => ⟨⟨u + 1, by omega, by omega, ?_, ?_⟩, by dsimp only; omega⟩⟩⟩
    · refine (appendI a _ c _ (HP.one x (.cells #[.int .i64 (u : Int)] 3 (0, 0))) ⟨x, 0, none⟩ 1 1 [(u : Int)] (one_rd x #[.int .i64 (u : Int)] 3) rfl (by omega)).conseq (K := HP.tt) ((hP.sep _).trans (.of fun R h H => HP.sep_tt H)) fun v => .of fun R h H => ?_
      obtain ⟨a', c', rfl, H'⟩ := HP.sep_left H
      refine ⟨a', _, c', _, rfl, ⟨inI64 _ (by omega) (by omega), fun _ => ⟨⟨u + 1, by omega, by omega, ?_, ?_⟩, by dsimp only; omega⟩⟩, H'⟩
      · rw [filt_succ, if_pos ht]
      · rw [List.range_succ, List.filter_append, List.map_append]
        simp only [List.filter_cons, ht, if_true, List.filter_nil, List.map_cons, List.map_nil]
        exact .refl _
    · rw [filt_succ, if_neg ht]; rfl
    · rw [List.range_succ, List.filter_append]
      simp only [List.filter_cons, ht, Bool.false_eq_true, if_false, List.filter_nil, List.append_nil]
      exact hP
  obtain rfl : u = 7 := by omega
  have hfl : (thereL g).length ≤ 7 := by
    unfold thereL
    rw [List.length_map]
    have := List.length_filter_le g.there (List.range 7)
    rwa [List.length_range] at this
  have htl : ((List.range 7).filter g.there).length = (thereL g).length := by unfold thereL; rw [List.length_map]
  rw [htl] at hP ⊢
  refine (aStW (b := b) (g := g) (r := r) (l := []) (a := none) (c := 0) (by simp)).weak (fun R h H => RoC.joinR (RoB0 none : (RoB none 0 []).p R h) H) ?_
  rintro v R h ⟨rfl, H⟩
  refine ⟨_, rfl, ?_, H⟩
  clear H
  refine ⟨g.old.ep, r.oa, r.oes.length, r.oc, aLdPl rfl rfl, ?_⟩
  have hro1 : ROk { g with own := [] } { r with wa := none, wc := 0 } := ⟨hok.o, hok.p, hok.ob, hok.pb, by simp⟩
  refine ((plNext_ok (ARepR b { g with own := [] } { r with wa := none, wc := 0 }) (OwI a (thereL g).length c (thereL g)) g.old.ep r.oa r.oes.length r.oc r.oes (fun R h H => (ARepR.ro H).1) hok.ob.2 a (thereL g).length c (thereL g) (RdL.ow _ _ _ _ _ _) rfl (by omega)).conseq (K := HP.tt) (((HP.ent.refl _).sep2 hP).trans (.of fun R h H => HP.sep_tt H)) fun v => .of fun R h H => HP.sep_left H).weak (fun _ _ h => h) ?_
  rw [oldP hok]
  rintro v R h ⟨a1, c1, es1, ⟨rfl, he1, hb1⟩, H⟩
  refine ⟨(nextP g.old (thereL g)).1.ep, a1, es1.length, c1, Ls kCh a1 es1.length es1, (nextP g.old (thereL g)).2, _, _, rfl, fun _ => ⟨fun h0 => ?_, fun h0 => ?_⟩, H⟩
  · clear H
    obtain ⟨hnr, hne⟩ := nextP_right hr h0
    have hnR := rightP hnr
    have hes : (⟨(nextP g.old (thereL g)).1.ep, es1.map (·.l)⟩ : PlP) = (nextP g.old (thereL g)).1 := by rw [he1]
    have hown : ownA g = plS (nextP g.old (thereL g)).1 := if_pos h0
    have hl1 : es1.length ≤ 7 := by
      have := hnR.len7
      rw [← he1, List.length_map] at this; exact this
    refine ((plEnc_ok (nextP g.old (thereL g)).1.ep (Ls kCh a1 es1.length es1) a1 es1.length c1 es1 (fun _ _ h => h) hnR.ep0 (by have := hnR.ep1; omega) (by omega) hb1)).weak (fun _ _ h => h) ?_
    rw [hes, ← hown]
    rintro v R h ⟨a2, c2, rfl, H⟩
    refine ⟨a2, _, c2, OwB a2 (ownA g).length c2 (ownA g), _, rfl, ?_, HP.sep_comm H⟩
    clear H
    refine (aStW (b := b) (g := { g with own := [] }) (r := { r with wa := none, wc := 0 }) (l := ownA g) (a := a2) (c := c2) (by have := ownA_len hr; omega)).conseq (K := HP.tt) ((HP.ent.sep2 (.refl _) (OwC.share _ _ _ _ _ _)).trans (.of fun R h H => HP.sep_tt H)) fun v => .of fun R h H => ?_
    obtain ⟨rfl, H1⟩ := HP.sep_left H
    refine ⟨_, rfl, ?_, H1⟩
    clear H H1
    refine (aStI (k := 4) (x := 2) (by decide) (g := { g with own := ownA g }) (g' := { g with own := ownA g, st := 2 }) (r := { r with wa := a2, wc := c2 }) rfl rfl rfl rfl rfl).weak (fun _ _ h => h) ?_
    rintro v R h ⟨rfl, H⟩
    refine ⟨ARepR b { g with own := ownA g, st := 2 } { r with wa := a2, wc := c2 }, rfl, ⟨g.units, aLdI rfl, g.who, aLdI rfl, a2, (ownA g).length, c2, aLdW, ?_⟩, H⟩
    clear H
    refine (bStart_ok g.units 1 g.who hu (ARepR b { g with own := ownA g, st := 2 } { r with wa := a2, wc := c2 }) a2 (ownA g).length c2 (ownA g) ⟨Rd.impR (RoC.rd _ _ _ _) fun R h H => (ARepR.ro H).2.1, fun R h H e => (RdL.ro _ _ _ _).none R h (ARepR.ro H).2.1 e⟩ rfl (by have := ownA_len hr; omega)).weak (fun _ _ h => h) ?_
    rintro v R h ⟨pb, rfl, H⟩
    refine ⟨.pointer (some ⟨pb, 0, none⟩), BRep pb (startB g.units 1 g.who (ownA g)), _, rfl, ?_, HP.sep_comm H⟩
    clear H
    refine (aStP (b := b) (g := { g with own := ownA g, st := 2 }) (r := { r with wa := a2, wc := c2 })).weak (fun _ _ h => h) ?_
    rintro v R h ⟨rfl, H⟩
    exact ⟨_, rfl, .of fun R h H => ⟨trivial, _, H⟩, H⟩
  · clear H
    have hown : ownA g = [] := if_neg h0
    refine (aStI (k := 4) (x := 2) (by decide) (g := { g with own := [] }) (g' := { g with own := [], st := 2 }) (r := { r with wa := none, wc := 0 }) rfl rfl rfl rfl rfl).weak (fun _ _ h => h) ?_
    rintro v R h ⟨rfl, H⟩
    refine ⟨ARepR b { g with own := [], st := 2 } { r with wa := none, wc := 0 }, rfl, ⟨g.units, aLdI rfl, g.who, aLdI rfl, none, 0, 0, aLdW, ?_⟩, H⟩
    clear H
    refine (bStart_ok g.units 1 g.who hu (ARepR b { g with own := [], st := 2 } { r with wa := none, wc := 0 }) none 0 0 [] ⟨Rd.impR (RoC.rd _ _ _ _) fun R h H => (ARepR.ro H).2.1, fun R h H e => rfl⟩ rfl (by omega)).weak (fun _ _ h => h) ?_
    rintro v R h ⟨pb, rfl, H⟩
    refine ⟨.pointer (some ⟨pb, 0, none⟩), BRep pb (startB g.units 1 g.who []), _, rfl, ?_, HP.sep_comm H⟩
    clear H
    refine (aStP (b := b) (g := { g with own := [], st := 2 }) (r := { r with wa := none, wc := 0 })).weak (fun _ _ h => h) ?_
    rintro v R h ⟨rfl, H⟩
    exact ⟨_, rfl, .of fun R h H => ⟨trivial, _, by unfold chooseA; rw [hown]; exact H⟩, H⟩
def sealA (g : AdvS) (f : Nat) (e : Int) : AdvS :=
  if asksL { g with rep := put7 g.rep f true, there := put7 g.there f (decide (e = 0)) } = [] then chooseA { g with rep := put7 g.rep f true, there := put7 g.there f (decide (e = 0)) } else { g with rep := put7 g.rep f true, there := put7 g.there f (decide (e = 0)) }
end
end Go.Proofs.YtbmajijnjkicmaaGreatDoor



namespace Go.Proofs.YtbmajijnjkicmaaGreatDoor
set_option linter.unusedSimpArgs false
set_option linter.unusedVariables false
open Go.Proofs.YtbmajijnjkicmaaGreatDoor RX
set_option maxRecDepth 100000

section
variable {b : Nat} {g : AdvS} {r : ARw}
theorem aStRep {k : Nat} (hk : k < 7) {x : Bool} : OTri Tryz.prog (storeS 4 (.pointer (some ⟨b, 5 + k, none⟩)) (.bool x)) (ARepR b g r) (fun v => HP.and (v = .tuple #[]) (ARepR b { g with rep := put7 g.rep k x } r)) :=
  aStB (g := g) (r := r) (by omega) (advL_set_rep g r hk x) rfl rfl rfl rfl
theorem aStThere {k : Nat} (hk : k < 7) {x : Bool} : OTri Tryz.prog (storeS 4 (.pointer (some ⟨b, 12 + k, none⟩)) (.bool x)) (ARepR b g r) (fun v => HP.and (v = .tuple #[]) (ARepR b { g with there := put7 g.there k x } r)) :=
  aStB (g := g) (r := r) (by omega) (advL_set_there g r hk x) rfl rfl rfl rfl
theorem aStSt {x : Int} : OTri Tryz.prog (storeS 3 (.pointer (some ⟨b, 4, none⟩)) (.int .i64 x)) (ARepR b g r) (fun v => HP.and (v = .tuple #[]) (ARepR b { g with st := x } r)) :=
  aStI (g := g) (r := r) (k := 4) (by decide) rfl rfl rfl rfl rfl
theorem aStTail {x : Int} : OTri Tryz.prog (storeS 3 (.pointer (some ⟨b, 23, none⟩)) (.int .i64 x)) (ARepR b g r) (fun v => HP.and (v = .tuple #[]) (ARepR b { g with tail := x } r)) :=
  aStI (g := g) (r := r) (k := 23) (by decide) rfl rfl rfl rfl rfl
theorem aSealed_ok (m : MS) (ca : Option Addr) (cc : Nat) (va : Option Addr) (vc : Nat) (f : Nat) (hf : m.fr = f) (hf7 : f < 7) (hs : ASafe g) (hr : rightB g.old = true) (hu : g.units ≤ 10000) (D V0 : HP) :
    Tri Tryz.prog 34 #[.pointer (some ⟨b, 0, none⟩), .agg (m.raw ca cc va vc).vals] (HP.sep (ARepR b g r) (HP.sep D V0)) (fun v => HP.and (v = .tuple #[]) (ARep b (sealA g f m.err))) := by
  refine tri_of_tree (ρ := [.n b, .p (ARepR b g r), .i m.fr, .i m.to, .i m.num, .c m.rep, .i m.kind, .i m.ep, .i m.at', .i m.cell.what, .a ca, .n m.cell.data.length, .n cc, .p D, .i m.br, .i m.bw, .a va, .n m.val.length, .n vc, .p V0, .i m.err, .i m.tail, .i m.low, .i m.back]) mixed Tryz.func34 tree_aSealed ?_
  unfold t_aSealed
  simp only [T.den, E.prop, E.den, RX.look, F1.app, F2.app, Uni.int_i, Uni.nat_n, Uni.bool_c, Uni.str_s, Uni.adr_a, Uni.val_v, Uni.hp_p, hden, cden, V.den, W.den, A.den, BR.den, SA.den, FV.den, capV, exs, exP, allP, Cur.app, List.map_cons, List.map_nil, List.cons_append, List.nil_append, List.drop_succ_cons, List.drop_zero, List.length_cons, List.length_nil, Nat.zero_add, Nat.reduceAdd, Int.neg_neg, Bool.not_not, List.append_nil, Nat.add_zero, List.getElem?_cons_zero, List.getElem?_cons_succ, Decidable.not_not, semW_eq, semW_store, semW_storeC, ne_eq, Nat.reduceEqDiff, not_false_eq_true, semW_ixS]
  intro _
  refine ⟨.pointer (some ⟨b, 5 + f, none⟩), ixAt undA7 infBo szBo hf hf7, ?_⟩
  refine (aStRep hf7).weak (fun _ _ h => h) ?_
  rintro v R h ⟨rfl, H⟩
  refine ⟨ARepR b { g with rep := put7 g.rep f true } r, rfl, ⟨.pointer (some ⟨b, 12 + f, none⟩), ixAt undA7 infBo szBo hf hf7, ?_⟩, H⟩
  clear H
  refine (aStThere (g := { g with rep := put7 g.rep f true }) hf7).weak (fun _ _ h => h) ?_
  rintro v R h ⟨rfl, H⟩
  refine ⟨ARepR b { g with rep := put7 g.rep f true, there := put7 g.there f (decide (m.err = 0)) } r, rfl, ?_, H⟩
  clear H
  refine (aDone_ok (g := { g with rep := put7 g.rep f true, there := put7 g.there f (decide (m.err = 0)) }) ⟨hs.e0, hs.e1, hs.p2, hs.vl⟩).weak (fun _ _ h => h) ?_
  rintro v R h ⟨rfl, H⟩
  refine ⟨_, rfl, ⟨fun h1 => ?_, fun h1 => .of fun R h H => ⟨trivial, ?_⟩⟩, H⟩
  · clear H
    have h1' := of_decide_eq_true h1
    refine (aChoose_ok (g := { g with rep := put7 g.rep f true, there := put7 g.there f (decide (m.err = 0)) }) hr hu).weak (fun _ _ h => h) ?_
    rintro v R h ⟨rfl, H⟩
    refine ⟨_, rfl, .of fun R h H => ⟨trivial, ?_⟩, H⟩
    unfold sealA
    rw [if_pos h1']
    exact HP.sep_left H
  · have h1' : ¬ asksL { g with rep := put7 g.rep f true, there := put7 g.there f (decide (m.err = 0)) } = [] := fun e => h1 (decide_eq_true e)
    unfold sealA
    rw [if_neg h1']
    exact ⟨r, HP.sep_left H⟩
def tellA (g : AdvS) (m : MS) (f : Nat) : AdvS :=
  if m.err = 0 then (if asksL { g with tail := max (max g.tail m.tail) m.low, rep := put7 g.rep f true } = [] then { g with tail := max (max g.tail m.tail) m.low, rep := put7 g.rep f true, st := 4 } else { g with tail := max (max g.tail m.tail) m.low, rep := put7 g.rep f true })
  else if m.err ≠ 8 ∨ m.back ≤ g.old.ep + 1 then { g with st := 6 }
  else (if asksL { g with rep := put7 g.rep f true } = [] then { g with rep := put7 g.rep f true, st := 4 } else { g with rep := put7 g.rep f true })
def mx3S (ty : TypeId) (ts : Array TypeId) (u v x : Value) : Sem Next := do pure (.value (← Builtin.max_ ts ty #[u, v, x]))
theorem semW_mx3 {ty : TypeId} {ts : Array TypeId} {i j k : Nat} {u v x : Value} (h1 : i ≠ j) (h2 : i ≠ k) (h3 : j ≠ k) : semW (.call ⟨.builtin .max, #[.tmp i, .tmp j, .tmp k], ts⟩) ty [(i, u), (j, v), (k, x)] = mx3S ty ts u v x := by
  have e1 : (i == j) = false := by simpa using h1
  have e2 : (i == k) = false := by simpa using h2
  have e3 : (j == k) = false := by simpa using h3
  simp [semW, execOp, resolve, arW, invoke, builtin, e1, e2, e3, mx3S]
theorem mx3_ok {ty : TypeId} {ts : Array TypeId} {x y z : Int} {A : HP} : ORead Tryz.prog (mx3S ty ts (.int .i64 x) (.int .i64 y) (.int .i64 z)) A (.int .i64 (max (max x y) z)) := fun w R h F s _ => by
  have e : (if z > (if y > x then y else x) then z else (if y > x then y else x)) = max (max x y) z := by
    split <;> split at * <;> omega
  unfold mx3S
  rw [Sem.run_bind, run_max_int3, e]; rfl
set_option maxHeartbeats 1000000 in
theorem aTell_ok (m : MS) (ca : Option Addr) (cc : Nat) (va : Option Addr) (vc : Nat) (f : Nat) (hf : m.fr = f) (hf7 : f < 7) (hs : ASafe g) (D V0 : HP) :
    Tri Tryz.prog 36 #[.pointer (some ⟨b, 0, none⟩), .agg (m.raw ca cc va vc).vals] (HP.sep (ARepR b g r) (HP.sep D V0)) (fun v => HP.and (v = .tuple #[]) (ARep b (tellA g m f))) := by
  refine tri_of_tree (ρ := [.n b, .p (ARepR b g r), .i m.fr, .i m.to, .i m.num, .c m.rep, .i m.kind, .i m.ep, .i m.at', .i m.cell.what, .a ca, .n m.cell.data.length, .n cc, .p D, .i m.br, .i m.bw, .a va, .n m.val.length, .n vc, .p V0, .i m.err, .i m.tail, .i m.low, .i m.back]) mixed Tryz.func36 tree_aTell ?_
  unfold t_aTell
  simp only [T.den, E.prop, E.den, RX.look, F1.app, F2.app, Uni.int_i, Uni.nat_n, Uni.bool_c, Uni.str_s, Uni.adr_a, Uni.val_v, Uni.hp_p, hden, cden, V.den, W.den, A.den, BR.den, SA.den, FV.den, capV, exs, exP, allP, Cur.app, List.map_cons, List.map_nil, List.cons_append, List.nil_append, List.drop_succ_cons, List.drop_zero, List.length_cons, List.length_nil, Nat.zero_add, Nat.reduceAdd, Int.neg_neg, Bool.not_not, List.append_nil, Nat.add_zero, List.getElem?_cons_zero, List.getElem?_cons_succ, Decidable.not_not, semW_eq, semW_load, semW_store, semW_storeC, ne_eq, Nat.reduceEqDiff, not_false_eq_true, semW_ixS, semW_mx3]
  intro _
  refine ⟨fun h0 => ⟨g.tail, aLdI rfl, max (max g.tail m.tail) m.low, mx3_ok, ?_⟩, fun h0 => ?_⟩
  · refine (aStTail (b := b) (g := g) (r := r)).weak (fun _ _ h => h) ?_
    rintro v R h ⟨rfl, H⟩
    refine ⟨ARepR b { g with tail := max (max g.tail m.tail) m.low } r, rfl, ⟨.pointer (some ⟨b, 5 + f, none⟩), ixAt undA7 infBo szBo hf hf7, ?_⟩, H⟩
    clear H
    refine (aStRep (g := { g with tail := max (max g.tail m.tail) m.low }) hf7).weak (fun _ _ h => h) ?_
    rintro v R h ⟨rfl, H⟩
    refine ⟨ARepR b { g with tail := max (max g.tail m.tail) m.low, rep := put7 g.rep f true } r, rfl, ?_, H⟩
    clear H
    refine (aDone_ok (g := { g with tail := max (max g.tail m.tail) m.low, rep := put7 g.rep f true }) ⟨hs.e0, hs.e1, hs.p2, hs.vl⟩).weak (fun _ _ h => h) ?_
    rintro v R h ⟨rfl, H⟩
    refine ⟨_, rfl, ⟨fun h1 => ?_, fun h1 => .of fun R h H => ⟨trivial, ?_⟩⟩, H⟩
    · clear H
      refine (aStSt (b := b) (g := { g with tail := max (max g.tail m.tail) m.low, rep := put7 g.rep f true }) (r := r)).weak (fun _ _ h => h) ?_
      rintro v R h ⟨rfl, H⟩
      refine ⟨_, rfl, .of fun R h H => ⟨trivial, r, ?_⟩, H⟩
      unfold tellA
      rw [if_pos h0, if_pos (of_decide_eq_true h1)]
      exact HP.sep_left H
    · unfold tellA
      rw [if_pos h0, if_neg (fun e => h1 (decide_eq_true e))]
      exact ⟨r, HP.sep_left H⟩
  · have rest : ¬ (m.err ≠ 8 ∨ m.back ≤ g.old.ep + 1) → tellA g m f = (if asksL { g with rep := put7 g.rep f true } = [] then { g with rep := put7 g.rep f true, st := 4 } else { g with rep := put7 g.rep f true }) := fun h => by unfold tellA; rw [if_neg h0, if_neg h]
    refine ⟨fun c => c = decide (m.err ≠ 8 ∨ m.back ≤ g.old.ep + 1), ⟨fun h8 => ?_, fun h8 => ?_⟩, ?_⟩
    · exact (decide_eq_true (.inl h8)).symm
    · refine (aEpoch_ok hs.e0 hs.e1).weak (fun _ _ h => h) ?_
      rintro v R h ⟨rfl, H⟩
      refine ⟨_, rfl, ?_, H⟩
      show decide (m.back ≤ g.old.ep + 1) = _
      have : m.err = 8 := h8
      by_cases hb : m.back ≤ g.old.ep + 1
      · rw [decide_eq_true hb, decide_eq_true (.inr hb)]
      · rw [decide_eq_false hb, decide_eq_false (fun h => h.elim (fun h => h this) hb)]
    · rintro _ rfl
      refine ⟨fun h1 => ?_, fun h1 => ?_⟩
      · refine (aStSt (b := b) (g := g) (r := r)).weak (fun _ _ h => h) ?_
        rintro v R h ⟨rfl, H⟩
        refine ⟨_, rfl, .of fun R h H => ⟨trivial, r, ?_⟩, H⟩
        unfold tellA
        rw [if_neg h0, if_pos (of_decide_eq_true h1)]
        exact HP.sep_left H
      · have hrest := rest (fun h => h1 (decide_eq_true h))
        refine ⟨.pointer (some ⟨b, 5 + f, none⟩), ixAt undA7 infBo szBo hf hf7, ?_⟩
        refine (aStRep (g := g) hf7).weak (fun _ _ h => h) ?_
        rintro v R h ⟨rfl, H⟩
        refine ⟨ARepR b { g with rep := put7 g.rep f true } r, rfl, ?_, H⟩
        clear H
        refine (aDone_ok (g := { g with rep := put7 g.rep f true }) ⟨hs.e0, hs.e1, hs.p2, hs.vl⟩).weak (fun _ _ h => h) ?_
        rintro v R h ⟨rfl, H⟩
        refine ⟨_, rfl, ⟨fun h1 => ?_, fun h1 => .of fun R h H => ⟨trivial, ?_⟩⟩, H⟩
        · clear H
          refine (aStSt (b := b) (g := { g with rep := put7 g.rep f true }) (r := r)).weak (fun _ _ h => h) ?_
          rintro v R h ⟨rfl, H⟩
          refine ⟨_, rfl, .of fun R h H => ⟨trivial, r, ?_⟩, H⟩
          rw [hrest, if_pos (of_decide_eq_true h1)]
          exact HP.sep_left H
        · rw [hrest, if_neg (fun e => h1 (decide_eq_true e))]
          exact ⟨r, HP.sep_left H⟩
end
end Go.Proofs.YtbmajijnjkicmaaGreatDoor

