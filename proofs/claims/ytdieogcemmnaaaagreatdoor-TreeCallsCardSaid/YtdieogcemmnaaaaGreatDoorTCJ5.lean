/- Texts of this claim, joined: Eq04, Arr, TrRight04, Right, TrRefT, RT, RU, RV, RW. No condition. -/
import Derived.Test.YtdieogcemmnaaaaGreatDoorTCJ1
import Derived.Test.YtdieogcemmnaaaaGreatDoorTCJ4
import Derived.Laws.StructEq
import Derived.Sort.Walk0
import Derived.KernelRfl
set_option linter.unusedSimpArgs false
set_option linter.unusedVariables false
/- Contracts of what law 4 compares with: bytes, texts, answers, nodes. No condition. -/
namespace Go.Proofs.YtdieogcemmnaaaaGreatDoor
set_option linter.unusedSimpArgs false
set_option linter.unusedVariables false
open Go.Proofs.YtdieogcemmnaaaaGreatDoor RX
set_option maxRecDepth 100000

instance instAns : DecidableEq AnsM := fun r s => decidable_of_iff (r.err = s.err ∧ r.kind = s.kind ∧ r.size = s.size ∧ r.links = s.links ∧ r.data = s.data ∧ r.names = s.names) ⟨fun ⟨h1, h2, h3, h4, h5, h6⟩ => by cases r; cases s; simp only at h1 h2 h3 h4 h5 h6; subst h1 h2 h3 h4 h5 h6; rfl, fun h => by subst h; exact ⟨rfl, rfl, rfl, rfl, rfl, rfl⟩⟩
theorem RdL.isSome {S : HP} {a : Option Addr} {n : Nat} {xs : List Value} (r : RdL S a n xs) {R h : PH} (H : S.p R h) (hn : n ≠ 0) : a.isSome = true := by
  cases a with
  | some x => rfl
  | none => exact absurd (r.none R h H rfl) hn
theorem take_eq {α : Type} {l m : List α} {k : Nat} {x y : α} (hx : l[k]? = some x) (hy : m[k]? = some y) (h : l.take k = m.take k) (e : x = y) : l.take (k + 1) = m.take (k + 1) := by
  rw [List.take_add_one, List.take_add_one, hx, hy, h, e]
theorem getN {α : Type} {l : List α} {k : Nat} (h : k < l.length) : ∃ x, l[k]? = some x := ⟨_, List.getElem?_eq_getElem h⟩
theorem get_ne {α : Type} {l m : List α} {k : Nat} {x y : α} (hx : l[k]? = some x) (hy : m[k]? = some y) (h : x ≠ y) : l ≠ m := fun e => by
  subst e
  rw [hx] at hy
  exact h (Option.some.inj hy)
theorem same01_ok (a : Option Addr) (n c : Nat) (la : List UInt8) (b : Option Addr) (m d : Nat) (lb : List UInt8) (Sa Sb : HP) (hA : RdL Sa a n (la.map u8v)) (hB : RdL Sb b m (lb.map u8v)) (hla : la.length = n) (hlb : lb.length = m) (hn : n ≤ 140737488355328) :
    Tri Tryz.prog 30 #[.slice a n c, .slice b m d] (HP.sep Sa Sb) (fun v => HP.and (v = .bool (decide (la = lb))) (HP.sep Sa Sb)) := by
  refine Tri.fact (φ := (n ≠ 0 → a.isSome = true) ∧ (m ≠ 0 → b.isSome = true)) (fun R h H => ⟨hA.isSome (HP.sep_left H), hB.isSome (HP.sep_right H)⟩) fun ⟨ha, hb⟩ => ?_
  refine tri_of_tree (ρ := [.a a, .n n, .n c, .p Sa, .a b, .n m, .n d, .p Sb]) mixed Tryz.func30 tree_same01 ?_
  unfold t_same01
  simp only [T.den, E.prop, E.den, RX.look, F1.app, F2.app, Uni.int_i, Uni.nat_n, Uni.bool_c, Uni.str_s, Uni.adr_a, Uni.val_v, Uni.hp_p, hden, cden, V.den, W.den, A.den, BR.den, SA.den, FV.den, capV, exs, exP, allP, Cur.app, List.map_cons, List.map_nil, List.cons_append, List.nil_append, List.drop_succ_cons, List.drop_zero, List.length_cons, List.length_nil, Nat.zero_add, Nat.reduceAdd, Int.neg_neg, Bool.not_not, List.append_nil, Nat.add_zero, List.getElem?_cons_zero, List.getElem?_cons_succ, Decidable.not_not, semW_eq, semW_load, semW_store, semW_storeC, semW_append, semW_lookup, semW_lookupC, semW_update, semW_updateC, semW_updateK, semW_delete, semW_range, semW_next, semW_entry, semW_nil, ne_eq, Nat.reduceEqDiff, not_false_eq_true]
  refine ⟨fun h => .of fun R h' H => ⟨?_, H⟩, fun h => ?_⟩
  · rw [decide_eq_false]
    intro e; subst e; omega
  have hnm : n = m := by omega
  subst hnm
  refine ⟨fun _ i => ∃ k : Nat, i = k ∧ k ≤ n ∧ la.take k = lb.take k, fun _ i => n - i.toNat, ⟨0, rfl, Nat.zero_le _, rfl⟩, ?_⟩
  rintro x _ ⟨k, rfl, hk, hpre⟩
  refine ⟨fun hlt => ⟨by omega, fun _ => ⟨ha (by omega), fun _ => ?_⟩⟩, fun hge => .of fun R h' H => ⟨?_, H⟩⟩
  · obtain ⟨x, hx⟩ := getN (l := la) (k := k) (by omega)
    obtain ⟨y, hy⟩ := getN (l := lb) (k := k) (by omega)
    have ra := load1_ok und8b agg8 sz8 hA.rd (k := (k : Int).toNat * 1) (off := 0) (v := u8v x) (by rw [Int.toNat_natCast, Nat.mul_one, Nat.add_zero, List.getElem?_map, hx]; rfl)
    have rb := load1_ok und8b agg8 sz8 hB.rd (k := (k : Int).toNat * 1) (off := 0) (v := u8v y) (by rw [Int.toNat_natCast, Nat.mul_one, Nat.add_zero, List.getElem?_map, hy]; rfl)
    refine ⟨_, ra, by omega, fun _ => ⟨hb (by omega), fun _ => ⟨_, rb, fun h1 => .of fun R h' H => ⟨by rw [decide_eq_false (get_ne hx hy fun e => h1 (by rw [e]))], H⟩, fun h1 => ⟨inI64' _ (by omega) (by omega), fun _ => ⟨⟨k + 1, by omega, by omega, take_eq hx hy hpre (UInt8.toNat_inj.1 (by omega))⟩, by dsimp only; omega⟩⟩⟩⟩⟩
  · have hke : k = n := by omega
    subst hke
    rw [List.take_of_length_le (by omega), List.take_of_length_le (by omega)] at hpre
    rw [decide_eq_true hpre]
theorem sameTexts_ok (a : Option Addr) (n c : Nat) (la : List Nm) (b : Option Addr) (m d : Nat) (lb : List Nm) (Sa Sb : HP) (hA : RdL Sa a n (la.map sE)) (hB : RdL Sb b m (lb.map sE)) (hla : la.length = n) (hlb : lb.length = m) (hn : n ≤ 140737488355328) :
    Tri Tryz.prog 76 #[.slice a n c, .slice b m d] (HP.sep Sa Sb) (fun v => HP.and (v = .bool (decide (la = lb))) (HP.sep Sa Sb)) := by
  refine Tri.fact (φ := (n ≠ 0 → a.isSome = true) ∧ (m ≠ 0 → b.isSome = true)) (fun R h H => ⟨hA.isSome (HP.sep_left H), hB.isSome (HP.sep_right H)⟩) fun ⟨ha, hb⟩ => ?_
  refine tri_of_tree (ρ := [.a a, .n n, .n c, .p Sa, .a b, .n m, .n d, .p Sb]) mixed Tryz.func76 tree_sameTexts ?_
  unfold t_sameTexts
  simp only [T.den, E.prop, E.den, RX.look, F1.app, F2.app, Uni.int_i, Uni.nat_n, Uni.bool_c, Uni.str_s, Uni.adr_a, Uni.val_v, Uni.hp_p, hden, cden, V.den, W.den, A.den, BR.den, SA.den, FV.den, capV, exs, exP, allP, Cur.app, List.map_cons, List.map_nil, List.cons_append, List.nil_append, List.drop_succ_cons, List.drop_zero, List.length_cons, List.length_nil, Nat.zero_add, Nat.reduceAdd, Int.neg_neg, Bool.not_not, List.append_nil, Nat.add_zero, List.getElem?_cons_zero, List.getElem?_cons_succ, Decidable.not_not, semW_eq, semW_load, semW_store, semW_storeC, semW_append, semW_lookup, semW_lookupC, semW_update, semW_updateC, semW_updateK, semW_delete, semW_range, semW_next, semW_entry, semW_nil, ne_eq, Nat.reduceEqDiff, not_false_eq_true]
  refine ⟨fun h => .of fun R h' H => ⟨?_, H⟩, fun h => ?_⟩
  · rw [decide_eq_false]
    intro e; subst e; omega
  have hnm : n = m := by omega
  subst hnm
  refine ⟨fun _ i => ∃ k : Nat, i = k ∧ k ≤ n ∧ la.take k = lb.take k, fun _ i => n - i.toNat, ⟨0, rfl, Nat.zero_le _, rfl⟩, ?_⟩
  rintro x _ ⟨k, rfl, hk, hpre⟩
  refine ⟨fun hlt => ⟨by omega, fun _ => ⟨ha (by omega), fun _ => ?_⟩⟩, fun hge => .of fun R h' H => ⟨?_, H⟩⟩
  · obtain ⟨x, hx⟩ := getN (l := la) (k := k) (by omega)
    obtain ⟨y, hy⟩ := getN (l := lb) (k := k) (by omega)
    have ra := loadStr hA.rd (k := (k : Int).toNat) hx
    have rb := loadStr hB.rd (k := (k : Int).toNat) hy
    refine ⟨_, ra, by omega, fun _ => ⟨hb (by omega), fun _ => ⟨_, rb, fun h1 => .of fun R h' H => ⟨by rw [decide_eq_false (get_ne hx hy h1)], H⟩, fun h1 => ⟨inI64' _ (by omega) (by omega), fun _ => ⟨⟨k + 1, by omega, by omega, take_eq hx hy hpre h1⟩, by dsimp only; omega⟩⟩⟩⟩⟩
  · have hke : k = n := by omega
    subst hke
    rw [List.take_of_length_le (by omega), List.take_of_length_le (by omega)] at hpre
    rw [decide_eq_true hpre]
theorem sameAnswer_ok (r s : AnsM) (da1 : Option Addr) (dc1 : Nat) (na1 : Option Addr) (nc1 : Nat) (da2 : Option Addr) (dc2 : Nat) (na2 : Option Addr) (nc2 : Nat) (D1 N1 D2 N2 : HP)
    (hD1 : RdL D1 da1 r.data.length (r.data.map u8v)) (hN1 : RdL N1 na1 r.names.length (r.names.map sE)) (hD2 : RdL D2 da2 s.data.length (s.data.map u8v)) (hN2 : RdL N2 na2 s.names.length (s.names.map sE)) (hb1 : r.data.length ≤ 140737488355328) (hb2 : r.names.length ≤ 140737488355328) :
    Tri Tryz.prog 21 #[r.at da1 dc1 na1 nc1, s.at da2 dc2 na2 nc2] (HP.sep D1 (HP.sep N1 (HP.sep D2 N2)))
      (fun v => HP.and (v = .bool (decide (r = s))) (HP.sep D1 (HP.sep N1 (HP.sep D2 N2)))) := by
  refine tri_of_tree (ρ := [.i r.err, .i r.kind, .i r.size, .i r.links, .a da1, .n r.data.length, .n dc1, .p D1, .a na1, .n r.names.length, .n nc1, .p N1, .i s.err, .i s.kind, .i s.size, .i s.links, .a da2, .n s.data.length, .n dc2, .p D2, .a na2, .n s.names.length, .n nc2, .p N2]) mixed Tryz.func21 tree_sameAnswer ?_
  unfold t_sameAnswer
  simp only [T.den, E.prop, E.den, RX.look, F1.app, F2.app, Uni.int_i, Uni.nat_n, Uni.bool_c, Uni.str_s, Uni.adr_a, Uni.val_v, Uni.hp_p, hden, cden, V.den, W.den, A.den, BR.den, SA.den, FV.den, capV, exs, exP, allP, Cur.app, List.map_cons, List.map_nil, List.cons_append, List.nil_append, List.drop_succ_cons, List.drop_zero, List.length_cons, List.length_nil, Nat.zero_add, Nat.reduceAdd, Int.neg_neg, Bool.not_not, List.append_nil, Nat.add_zero, List.getElem?_cons_zero, List.getElem?_cons_succ, Decidable.not_not, semW_eq, semW_load, semW_store, semW_storeC, semW_append, semW_lookup, semW_lookupC, semW_update, semW_updateC, semW_updateK, semW_delete, semW_range, semW_next, semW_entry, semW_nil, ne_eq, Nat.reduceEqDiff, not_false_eq_true]
  have no : ∀ {φ : Prop}, (r = s → φ) → ¬ φ → HP.ent (HP.sep D1 (HP.sep N1 (HP.sep D2 N2))) (HP.and (Value.bool false = .bool (decide (r = s))) (HP.sep D1 (HP.sep N1 (HP.sep D2 N2)))) := fun h1 h2 => .of fun R h H => ⟨by rw [decide_eq_false fun e => h2 (h1 e)], H⟩
  intro _ _
  refine ⟨fun e1 => ⟨fun e2 => ⟨fun e3 => ⟨fun e4 => ?_, no fun e => by rw [e]⟩, no fun e => by rw [e]⟩, no fun e => by rw [e]⟩, no fun e => by rw [e]⟩
  refine (same01_ok da1 _ dc1 r.data da2 _ dc2 s.data D1 D2 hD1 hD2 rfl rfl hb1).weak (fun _ _ h => h) ?_
  rintro v R h ⟨rfl, H⟩
  refine ⟨_, rfl, ⟨fun e5 => ?_, fun e5 => ?_⟩, H⟩
  · refine (sameTexts_ok na1 _ nc1 r.names na2 _ nc2 s.names N1 N2 hN1 hN2 rfl rfl hb2).weak (fun _ _ h => h) ?_
    rintro v R h ⟨rfl, H⟩
    refine ⟨_, rfl, .of fun R h H => ⟨?_, H⟩, H⟩
    have e5' := of_decide_eq_true e5
    have : (r.names = s.names) ↔ (r = s) := ⟨fun e6 => by
      obtain ⟨a1, a2, a3, a4, a5, a6⟩ := r
      obtain ⟨b1, b2, b3, b4, b5, b6⟩ := s
      simp only at *
      subst e1 e2 e3 e4 e5' e6
      rfl, fun e => by rw [e]⟩
    simp only [this]
  · refine .of fun R h H => ⟨?_, H⟩
    rw [decide_eq_false]
    intro e
    subst e
    exact e5 (by simp)
theorem strB {x y : List UInt8} : ((⟨x.toArray⟩ : ByteArray).toList == (⟨y.toArray⟩ : ByteArray).toList) = decide (x = y) := by
  rw [ByteArray.toList_eq, ByteArray.toList_eq]
  by_cases e : x = y
  · subst e; simp
  · simp [e]
theorem run_ent_eq {w : World} (r r' : Nm) (q q' : Int) : (Op.equal 140 (.agg #[sE r, .int .i64 q]) (.agg #[sE r', .int .i64 q'])).run Tryz.prog w = .ok (decide (r = r') && decide (q = q')) w := by
  have hs : Tryz.prog.stoodInHeld 140 = false := by kernel_rfl
  have hi : Tryz.prog.underlying 3 = some (.int .i64) := by kernel_rfl
  have ht : Tryz.prog.underlying 9 = some .string := by kernel_rfl
  have e2 : ∀ n, (Op.equalIn (n + 2) 140 (.agg #[sE r, .int .i64 q]) (.agg #[sE r', .int .i64 q'])).run Tryz.prog w = .ok (decide (r = r') && decide (q = q')) w := fun n => by
    rw [Op.equalIn]
    simp only [Sem.run_bind, RX.run_underlying Tryz.underlying140, Result.andThen_ok]
    simp [program, Sem.run, hs, Result.andThen]
    have pt : ∀ (cs : Array Value) (off : Nat) (v : Value), cs[off]? = some v → (part 9 cs off).run Tryz.prog w = .ok v w := fun cs off v h => by
      have ha : aggT Tryz.prog 9 = false := by kernel_rfl
      simp only [part, Sem.run_bind, RX.run_isAgg ht, Result.andThen_ok, ha, Bool.false_eq_true, if_false, h]
      rfl
    have pi : ∀ (cs : Array Value) (off : Nat) (v : Value), cs[off]? = some v → (part 3 cs off).run Tryz.prog w = .ok v w := fun cs off v h => by
      have ha : aggT Tryz.prog 3 = false := by kernel_rfl
      simp only [part, Sem.run_bind, RX.run_isAgg hi, Result.andThen_ok, ha, Bool.false_eq_true, if_false, h]
      rfl
    have p0 : ∀ (a : Nm) (b : Int), Sem.run Tryz.prog (part 9 #[sE a, Value.int IntKind.i64 b] 0) w = .ok (sE a) w := fun a b => pt _ _ _ rfl
    have p1 : ∀ (a : Nm) (b : Int), Sem.run Tryz.prog (part 3 #[sE a, Value.int IntKind.i64 b] 1) w = .ok (.int .i64 b) w := fun a b => pi _ _ _ rfl
    have eqi : ∀ (n : Nat) (a b : Int), (Op.equalIn (n + 1) 3 (.int .i64 a) (.int .i64 b)).run Tryz.prog w = .ok (decide (a = b)) w := fun n a b => by
      simp only [Op.equalIn, Sem.run_bind, RX.run_underlying hi, Result.andThen_ok, if_true, Sem.run_pure]
      rfl
    have eqs : ∀ (n : Nat) (a b : Nm), (Op.equalIn (n + 1) 9 (sE a) (sE b)).run Tryz.prog w = .ok (decide (a = b)) w := fun n a b => by
      show (Op.equalIn (n + 1) 9 (.string _) (.string _)).run Tryz.prog w = _
      rw [run_equalIn_string w n 9 _ _ ht, strB]
    simp only [p0, eqs]
    by_cases h1 : r = r'
    · simp [h1, Sem.run_bind, p1, eqi]
      by_cases h2 : q = q'
      · simp [h2]
      · simp [h2]
    · simp [h1]
  exact e2 9998
theorem neqEnt {i j : Nat} {ty u : TypeId} (h : i ≠ j) {r r' : Nm} {q q' : Int} {A : HP} :
    ORead Tryz.prog (semW (.binOp .neq 140 (.tmp i) (.tmp j) u) ty [(i, .agg #[sE r, .int .i64 q]), (j, .agg #[sE r', .int .i64 q'])]) A (.bool (!(decide (r = r') && decide (q = q')))) := fun w R hh F s _ => by
  have h' : (i == j) = false := by simpa using h
  have hg : Tryz.prog.eqGuardType Tryz.prog.depth 140 = false := by kernel_rfl
  simp only [semW, execOp, arW, List.find?_cons, beq_self_eq_true, h']
  simp [eqGuard, binOp, hg, program, Sem.run_bind, Sem.run, Result.andThen, run_ent_eq]
instance instNd : DecidableEq Nd := fun r s => decidable_of_iff (r.num = s.num ∧ r.kind = s.kind ∧ r.links = s.links ∧ r.data = s.data ∧ r.ents = s.ents) ⟨fun ⟨h1, h2, h3, h4, h5⟩ => by cases r; cases s; simp only at h1 h2 h3 h4 h5; subst h1 h2 h3 h4 h5; rfl, fun h => by subst h; exact ⟨rfl, rfl, rfl, rfl, rfl⟩⟩
theorem nodesData {a : Option Addr} {n : Nat} {es : List NodeE} {x : NodeE} (hx : x ∈ es) : RdL (Ls kNode a n es) x.da x.nd.data.length (x.nd.data.map u8v) :=
  ⟨Rd.impR (RdL.ro 1 x.da x.nd.data.length (x.nd.data.map u8v)).rd fun R h H => (H.2.2 x hx).1, fun R h H e => (RdL.ro 1 x.da x.nd.data.length (x.nd.data.map u8v)).none R h (H.2.2 x hx).1 e⟩
theorem undEnt : ∃ d, Tryz.prog.underlying 140 = some d := Option.isSome_iff_exists.1 (by kernel_rfl)
theorem aggEnt : aggT Tryz.prog 140 = true := by kernel_rfl
theorem szEnt : szT Tryz.prog 140 = 2 := by kernel_rfl
theorem loadEnt {a : Option Addr} {n : Nat} {es : List NodeE} {x : NodeE} (hx : x ∈ es) {k : Nat} {e : Nm × Nat} (hk : x.nd.ents[k]? = some e) : ORead Tryz.prog (loadS 140 (.pointer (x.ea.map fun y => (y.add (k * 2)).add 0))) (Ls kNode a n es) (.agg #[sE e.1, .int .i64 e.2]) := by
  obtain ⟨d, hd⟩ := undEnt
  exact ORead.ent (.of fun R h H => (H.2.2 x hx).2) (Ls.load (K := kEnt) hd aggEnt szEnt hk)
theorem nodesEa {a : Option Addr} {n : Nat} {es : List NodeE} {R h : PH} (H : (Ls kNode a n es).p R h) : ∀ x ∈ es, x.nd.ents.length ≠ 0 → x.ea.isSome = true := fun x hx hn => Ls.some (H.2.2 x hx).2 hn
set_option maxHeartbeats 1000000 in
theorem sameNodes_ok (a : Option Addr) (n c : Nat) (es : List NodeE) (b : Option Addr) (m d : Nat) (fs : List NodeE) (hb : ∀ x ∈ es, x.nd.data.length ≤ 140737488355328 ∧ x.nd.ents.length ≤ 140737488355328) (hn : n ≤ 140737488355328) :
    Tri Tryz.prog 20 #[.slice a n c, .slice b m d] (HP.sep (Ls kNode a n es) (Ls kNode b m fs)) (fun v => HP.and (v = .bool (decide (es.map (·.nd) = fs.map (·.nd)))) (HP.sep (Ls kNode a n es) (Ls kNode b m fs))) := by
  refine Tri.fact (φ := (es.length = n ∧ fs.length = m) ∧ ((n ≠ 0 → a.isSome = true) ∧ (m ≠ 0 → b.isSome = true)) ∧ (∀ x ∈ es, x.nd.ents.length ≠ 0 → x.ea.isSome = true) ∧ (∀ x ∈ fs, x.nd.ents.length ≠ 0 → x.ea.isSome = true)) (fun R h H => ⟨⟨(HP.sep_left H).1, (HP.sep_right H).1⟩, ⟨fun h => Ls.some (HP.sep_left H) h, fun h => Ls.some (HP.sep_right H) h⟩, nodesEa (HP.sep_left H), nodesEa (HP.sep_right H)⟩) fun ⟨⟨hl, hm⟩, ⟨ha, hb'⟩, hea, heb⟩ => ?_
  refine tri_of_tree (ρ := [.a a, .n n, .n c, .p (Ls kNode a n es), .a b, .n m, .n d, .p (Ls kNode b m fs)]) mixed Tryz.func20 tree_sameNodes ?_
  unfold t_sameNodes
  simp only [T.den, E.prop, E.den, RX.look, F1.app, F2.app, Uni.int_i, Uni.nat_n, Uni.bool_c, Uni.str_s, Uni.adr_a, Uni.val_v, Uni.hp_p, hden, cden, V.den, W.den, A.den, BR.den, SA.den, FV.den, capV, exs, exP, allP, Cur.app, List.map_cons, List.map_nil, List.cons_append, List.nil_append, List.drop_succ_cons, List.drop_zero, List.length_cons, List.length_nil, Nat.zero_add, Nat.reduceAdd, Int.neg_neg, Bool.not_not, List.append_nil, Nat.add_zero, List.getElem?_cons_zero, List.getElem?_cons_succ, Decidable.not_not, semW_eq, semW_load, semW_store, semW_storeC, semW_append, semW_lookup, semW_lookupC, semW_update, semW_updateC, semW_updateK, semW_delete, semW_range, semW_next, semW_entry, semW_nil, ne_eq, Nat.reduceEqDiff, not_false_eq_true]
  have no : es.map (·.nd) ≠ fs.map (·.nd) → HP.ent (HP.sep (Ls kNode a n es) (Ls kNode b m fs)) (HP.and (Value.bool false = .bool (decide (es.map (·.nd) = fs.map (·.nd)))) (HP.sep (Ls kNode a n es) (Ls kNode b m fs))) := fun h => .of fun R h' H => ⟨by rw [decide_eq_false h], H⟩
  refine ⟨fun h => no fun e => ?_, fun h => ?_⟩
  · have := congrArg List.length e
    simp only [List.length_map] at this
    omega
  have hnm : n = m := by omega
  refine ⟨fun _ i => ∃ k : Nat, i = k ∧ k ≤ n ∧ (es.map (·.nd)).take k = (fs.map (·.nd)).take k, fun _ i => n - i.toNat, ⟨0, rfl, Nat.zero_le _, rfl⟩, ?_⟩
  rintro x0 _ ⟨k, rfl, hk, hpre⟩
  refine ⟨fun hlt => ?_, fun hge => .of fun R h' H => ⟨?_, H⟩⟩
  · obtain ⟨x, hx⟩ := getN (l := es) (k := k) (by omega)
    obtain ⟨y, hy⟩ := getN (l := fs) (k := k) (by omega)
    have hxm := List.mem_of_getElem? hx
    have hym := List.mem_of_getElem? hy
    have hx' : (es.map (·.nd))[k]? = some x.nd := by rw [List.getElem?_map, hx]; rfl
    have hy' : (fs.map (·.nd))[k]? = some y.nd := by rw [List.getElem?_map, hy]; rfl
    have hxb := hb x hxm
    refine ⟨fun _ _ n2 k2 l2 da2 dl2 dc2 ea2 el2 ec2 n1 k1 l1 da1 dl1 dc1 ea1 el1 ec1 => n2 = y.nd.num ∧ k2 = y.nd.kind ∧ l2 = y.nd.links ∧ da2 = y.da ∧ dl2 = y.nd.data.length ∧ dc2 = y.dc ∧ ea2 = y.ea ∧ el2 = y.nd.ents.length ∧ ec2 = y.ec ∧ n1 = x.nd.num ∧ k1 = x.nd.kind ∧ l1 = x.nd.links ∧ da1 = x.da ∧ dl1 = x.nd.data.length ∧ dc1 = x.dc ∧ ea1 = x.ea ∧ el1 = x.nd.ents.length ∧ ec1 = x.ec, ?_, ?_⟩
    · refine ⟨by omega, fun _ => ⟨ha (by omega), fun _ => ⟨x.nd.num, x.nd.kind, x.nd.links, x.da, x.nd.data.length, x.dc, x.ea, x.nd.ents.length, x.ec, loadNode hx, by omega, fun _ => ⟨hb' (by omega), fun _ => ⟨y.nd.num, y.nd.kind, y.nd.links, y.da, y.nd.data.length, y.dc, y.ea, y.nd.ents.length, y.ec, loadNode hy, ?_⟩⟩⟩⟩⟩
      exact ⟨fun _ _ => ⟨rfl, rfl, rfl, rfl, rfl, rfl, rfl, rfl, rfl, rfl, rfl, rfl, rfl, rfl, rfl, rfl, rfl, rfl⟩, fun _ _ => ⟨rfl, rfl, rfl, rfl, rfl, rfl, rfl, rfl, rfl, rfl, rfl, rfl, rfl, rfl, rfl, rfl, rfl, rfl⟩⟩
    rintro _ _ _ _ _ _ _ _ _ _ _ _ _ _ _ _ _ _ _ _ ⟨rfl, rfl, rfl, rfl, rfl, rfl, rfl, rfl, rfl, rfl, rfl, rfl, rfl, rfl, rfl, rfl, rfl, rfl⟩
    have dif : x.nd ≠ y.nd → es.map (·.nd) ≠ fs.map (·.nd) := get_ne hx' hy'
    refine ⟨fun h => no (dif fun e => h (by rw [e])), fun e1 => ⟨fun h => no (dif fun e => h (by rw [e])), fun e2 => ⟨fun h => no (dif fun e => h (by rw [e])), fun e3 => ?_⟩⟩⟩
    refine (same01_ok x.da _ x.dc x.nd.data y.da _ y.dc y.nd.data (Ls kNode a n es) (Ls kNode b m fs) (nodesData hxm) (nodesData hym) rfl rfl hxb.1).weak (fun _ _ h => h) ?_
    rintro v R h ⟨rfl, H⟩
    refine ⟨_, rfl, ⟨fun h => no (dif fun e => h (by rw [e]; simp)), fun e4 => ⟨fun h => no (dif fun e => h (by rw [e])), fun e5 => ?_⟩⟩, H⟩
    have e4' := of_decide_eq_true e4
    clear H
    refine ⟨fun _ i => ∃ j : Nat, i = j ∧ j ≤ x.nd.ents.length ∧ x.nd.ents.take j = y.nd.ents.take j, fun _ i => x.nd.ents.length - i.toNat, ⟨0, rfl, Nat.zero_le _, rfl⟩, ?_⟩
    rintro x1 _ ⟨j, rfl, hj, hpre2⟩
    refine ⟨fun hlt2 => ⟨by omega, fun _ => ⟨hea x hxm (by omega), fun _ => ?_⟩⟩, fun hge2 => ?_⟩
    · obtain ⟨p, hp⟩ := getN (l := x.nd.ents) (k := j) (by omega)
      obtain ⟨q, hq⟩ := getN (l := y.nd.ents) (k := j) (by omega)
      refine ⟨p.1, p.2, loadEnt hxm hp, by omega, fun _ => ⟨heb y hym (by omega), fun _ => ⟨q.1, q.2, loadEnt hym hq, _, neqEnt (by decide), fun h => no (dif fun e => ?_), fun h => ⟨inI64' _ (by omega) (by omega), fun _ => ⟨⟨j + 1, by omega, by omega, take_eq hp hq hpre2 ?_⟩, by dsimp only; omega⟩⟩⟩⟩⟩
      · have : p = q := by rw [e] at hp; rw [hp] at hq; exact Option.some.inj hq
        subst this
        simp at h
      · simp at h
        exact Prod.ext h.1 (by have := h.2; omega)
    · have e6 : x.nd.ents = y.nd.ents := by
        rw [List.take_of_length_le (by omega), List.take_of_length_le (by omega)] at hpre2
        exact hpre2
      have e7 : x.nd = y.nd := by
        obtain ⟨⟨a1, a2, a3, a4, a5⟩, _, _, _, _⟩ := x
        obtain ⟨⟨b1, b2, b3, b4, b5⟩, _, _, _, _⟩ := y
        simp only at e1 e2 e3 e4' e6 ⊢
        have : a1 = b1 := by omega
        subst this e2 e3 e4' e6
        rfl
      exact ⟨inI64' _ (by omega) (by omega), fun _ => ⟨⟨k + 1, by omega, by omega, take_eq hx' hy' hpre e7⟩, by dsimp only; omega⟩⟩
  · have hke : k = n := by omega
    subst hke
    rw [List.take_of_length_le (by simp; omega), List.take_of_length_le (by simp; omega)] at hpre
    rw [decide_eq_true hpre]
end Go.Proofs.YtdieogcemmnaaaaGreatDoor

/- Arrays in blocks of their own; a byte of a text; texts compared. No condition. -/
namespace Go.Proofs.YtdieogcemmnaaaaGreatDoor
open Go.Proofs.YtdieogcemmnaaaaGreatDoor RX
set_option maxRecDepth 100000

def idxS (t : TypeId) (u v : Value) : Sem Next := do pure (.value (← Instr.indexAt t u v))
theorem semW_ix {t ty : TypeId} {i j : Nat} {u v : Value} (h : i ≠ j) : semW (.indexAddr t (.tmp i) (.tmp j)) ty [(i, u), (j, v)] = idxS t u v := by
  have h' : (i == j) = false := by simpa using h
  simp [semW, execOp, arW, h', idxS]
theorem arIx {t el : TypeId} {n : Nat} (ht : Tryz.prog.underlying t = some (.array n el)) (hi : (Tryz.prog.info? el).isSome = true) (hz : szT Tryz.prog el = 1) {b k : Nat} {x : Int} (hx : x = k) (hk : k < n) {A : HP} :
    ORead Tryz.prog (idxS t (.pointer (some ⟨b, 0, none⟩)) (.int .i64 x)) A (.pointer (some ⟨b, k, none⟩)) := fun w R h F s _ => by
  obtain ⟨i, hi⟩ := Option.isSome_iff_exists.1 hi
  subst hx
  unfold idxS
  rw [Sem.run_bind, RX.run_indexAt_array ht hi (by omega) (by omega), hz]
  simp [addr_add]
/-- A block that holds an array. -/
def Ar (e : TypeId) (b : Nat) (vs : List Value) : HP := HP.one b (.cells vs.toArray e (0, 0))
theorem Ar.rd {e : TypeId} {b : Nat} {vs : List Value} : Rd (Ar e b vs) (some ⟨b, 0, none⟩) vs := fun w R h F s H j u hj => by
  refine ⟨b, 0, rfl, ?_⟩
  have := s.oh b _ H
  rw [cell_at this]
  simpa using hj
theorem arLd {t e : TypeId} {d : TypeDesc} (hd : Tryz.prog.underlying t = some d) (ha : aggT Tryz.prog t = false) (hz : szT Tryz.prog t = 1) {b k : Nat} {vs : List Value} {v : Value} (hk : vs[k]? = some v) :
    ORead Tryz.prog (loadS t (.pointer (some ⟨b, k, none⟩))) (Ar e b vs) v := by
  have := load1_ok hd ha hz (Ar.rd (e := e) (b := b) (vs := vs)) (k := k) (off := 0) (by simpa using hk)
  simpa [addr_add] using this
theorem arSt {t e : TypeId} {i : TypeInfo} (hi : Tryz.prog.info? t = some i) (hz : i.size = 1) {b k : Nat} {vs : List Value} {x : Value} (hx : x.cells = #[x]) (h1 : x.oneCell' = true) (hk : k < vs.length) :
    OTri Tryz.prog (storeS t (.pointer (some ⟨b, k, none⟩)) x) (Ar e b vs) (fun v => HP.and (v = .tuple #[]) (Ar e b (vs.set k x))) := by
  have := storeOne_ok hi e b vs.toArray k x [x] (by rw [hx]) (by simp [hz]) (by simp) (by simpa using h1) (by simp; omega) (by unfold maxLen; omega)
  refine this.weak (fun _ _ h => h) ?_
  rintro v R h ⟨rfl, H⟩
  refine ⟨rfl, ?_⟩
  unfold Ar
  rw [List.set_eq_take_append_cons_drop, if_pos hk]
  simpa using H
/-- An array as a function of its places. -/
def arF (m : Nat) (f : Nat → Value) : List Value := (List.range m).map f
theorem arF_get {m : Nat} {f : Nat → Value} {k : Nat} (h : k < m) : (arF m f)[k]? = some (f k) := by
  unfold arF
  rw [List.getElem?_map, List.getElem?_range h]; rfl
theorem arF_len (m : Nat) (f : Nat → Value) : (arF m f).length = m := by simp [arF]
theorem arF_set {m : Nat} {f : Nat → Value} {k : Nat} {v : Value} (h : k < m) : (arF m f).set k v = arF m fun j => if j = k then v else f j := by
  refine List.ext_getElem? fun j => ?_
  rw [List.getElem?_set, arF_len]
  by_cases hj : j < m
  · rw [arF_get hj, arF_get hj]
    by_cases e : k = j
    · subst e; rw [if_pos rfl, if_pos h, if_pos rfl]
    · rw [if_neg e, if_neg (Ne.symm e)]
  · rw [List.getElem?_eq_none (by rw [arF_len]; omega)]
    by_cases e : k = j
    · omega
    · rw [if_neg e, List.getElem?_eq_none (by rw [arF_len]; omega)]
theorem arF_congr {m : Nat} {f g : Nat → Value} (h : ∀ j < m, f j = g j) : arF m f = arF m g := List.map_congr_left fun j hj => h j (List.mem_range.1 hj)
/-! texts -/
theorem strIx {t ty : TypeId} {i j : Nat} (h : i ≠ j) (ht : Tryz.prog.underlying t = some .string) {s : List UInt8} {k : Nat} {x : Int} {c : UInt8} (hx : x = k) (hk : s[k]? = some c) {A : HP} :
    ORead Tryz.prog (semW (.index t (.tmp i) (.tmp j)) ty [(i, .string ⟨s.toArray⟩), (j, .int .i64 x)]) A (.int .u8 c.toNat) := fun w R hh F st _ => by
  have h' : (i == j) = false := by simpa using h
  subst hx
  have hkl : k < s.length := (List.getElem?_eq_some_iff.1 hk).1
  have e : (Instr.index t (.string ⟨s.toArray⟩) (.int .i64 k)).run Tryz.prog w = .ok (.int .u8 c.toNat) w := by
    have hb : (⟨s.toArray⟩ : ByteArray)[k]? = some c := by
      have hz : k < (⟨s.toArray⟩ : ByteArray).size := by simp [ByteArray.size]; exact hkl
      rw [getElem?_pos (⟨s.toArray⟩ : ByteArray) k hz]
      rw [List.getElem?_eq_getElem hkl] at hk
      exact hk
    unfold Instr.index
    simp [asIntOf, Sem.run_bind, RX.run_underlying ht, hb]
  simp only [semW, execOp, arW, List.find?_cons, beq_self_eq_true, h']
  rw [Sem.run_bind, e]
  rfl
theorem geqStr {t ty u : TypeId} {i j : Nat} (h : i ≠ j) (hg : Tryz.prog.eqGuardType Tryz.prog.depth t = false) {x y : List UInt8} {A : HP} :
    ORead Tryz.prog (semW (.binOp .geq t (.tmp i) (.tmp j) u) ty [(i, .string ⟨x.toArray⟩), (j, .string ⟨y.toArray⟩)]) A (.bool (!decide (x < y))) := fun w R hh F st _ => by
  have h' : (i == j) = false := by simpa using h
  simp only [semW, execOp, arW, List.find?_cons, beq_self_eq_true, h']
  have : Op.bytesLess x y = decide (x < y) := bytesLess_eq x y
  simp [eqGuard, binOp, Op.stringOp, hg, program, Sem.run_bind, Sem.run, Result.andThen, this]
end Go.Proofs.YtdieogcemmnaaaaGreatDoor

/- Trees of functions, printed by rx.lean. No condition. -/
namespace Go.Proofs.YtdieogcemmnaaaaGreatDoor.RX
set_option maxRecDepth 100000
-- tideline/tidelineref04.Right: ρ := [.a la, .n ll, .n lc, .p lP]
def t_right04 : T :=
(.new
(.new
(.loop [.c, .i, .p, .p] [(.e (.o1 .not (.o1 .not (.c false)))), (.e (.o1 .neg (.o1 .neg (.i 0)))), (.p [((.b (.v 5)), (.cells [(.int .i64 (.i 0)), (.int .i64 (.i 0)), (.int .i64 (.i 0)), (.int .i64 (.i 0)), (.int .i64 (.i 0)), (.int .i64 (.i 0)), (.int .i64 (.i 0)), (.int .i64 (.i 0)), (.int .i64 (.i 0)), (.int .i64 (.i 0)), (.int .i64 (.i 0)), (.int .i64 (.i 0)), (.int .i64 (.i 0)), (.int .i64 (.i 0)), (.int .i64 (.i 0)), (.int .i64 (.i 0)), (.int .i64 (.i 0)), (.int .i64 (.i 0)), (.int .i64 (.i 0)), (.int .i64 (.i 0)), (.int .i64 (.i 0)), (.int .i64 (.i 0)), (.int .i64 (.i 0)), (.int .i64 (.i 0)), (.int .i64 (.i 0)), (.int .i64 (.i 0)), (.int .i64 (.i 0)), (.int .i64 (.i 0)), (.int .i64 (.i 0)), (.int .i64 (.i 0)), (.int .i64 (.i 0)), (.int .i64 (.i 0)), (.int .i64 (.i 0)), (.int .i64 (.i 0)), (.int .i64 (.i 0)), (.int .i64 (.i 0)), (.int .i64 (.i 0)), (.int .i64 (.i 0)), (.int .i64 (.i 0)), (.int .i64 (.i 0)), (.int .i64 (.i 0)), (.int .i64 (.i 0)), (.int .i64 (.i 0)), (.int .i64 (.i 0)), (.int .i64 (.i 0)), (.int .i64 (.i 0)), (.int .i64 (.i 0)), (.int .i64 (.i 0)), (.int .i64 (.i 0)), (.int .i64 (.i 0)), (.int .i64 (.i 0)), (.int .i64 (.i 0)), (.int .i64 (.i 0)), (.int .i64 (.i 0)), (.int .i64 (.i 0)), (.int .i64 (.i 0)), (.int .i64 (.i 0)), (.int .i64 (.i 0)), (.int .i64 (.i 0)), (.int .i64 (.i 0)), (.int .i64 (.i 0)), (.int .i64 (.i 0)), (.int .i64 (.i 0)), (.int .i64 (.i 0))] 147))]), (.p [((.b (.v 4)), (.cells [(.int .i64 (.i 0)), (.int .i64 (.i 0)), (.int .i64 (.i 0)), (.int .i64 (.i 0)), (.int .i64 (.i 0)), (.int .i64 (.i 0)), (.int .i64 (.i 0)), (.int .i64 (.i 0)), (.int .i64 (.i 0)), (.int .i64 (.i 0)), (.int .i64 (.i 0)), (.int .i64 (.i 0)), (.int .i64 (.i 0)), (.int .i64 (.i 0)), (.int .i64 (.i 0)), (.int .i64 (.i 0)), (.int .i64 (.i 0)), (.int .i64 (.i 0)), (.int .i64 (.i 0)), (.int .i64 (.i 0)), (.int .i64 (.i 0)), (.int .i64 (.i 0)), (.int .i64 (.i 0)), (.int .i64 (.i 0)), (.int .i64 (.i 0)), (.int .i64 (.i 0)), (.int .i64 (.i 0)), (.int .i64 (.i 0)), (.int .i64 (.i 0)), (.int .i64 (.i 0)), (.int .i64 (.i 0)), (.int .i64 (.i 0)), (.int .i64 (.i 0)), (.int .i64 (.i 0)), (.int .i64 (.i 0)), (.int .i64 (.i 0)), (.int .i64 (.i 0)), (.int .i64 (.i 0)), (.int .i64 (.i 0)), (.int .i64 (.i 0)), (.int .i64 (.i 0)), (.int .i64 (.i 0)), (.int .i64 (.i 0)), (.int .i64 (.i 0)), (.int .i64 (.i 0)), (.int .i64 (.i 0)), (.int .i64 (.i 0)), (.int .i64 (.i 0)), (.int .i64 (.i 0)), (.int .i64 (.i 0)), (.int .i64 (.i 0)), (.int .i64 (.i 0)), (.int .i64 (.i 0)), (.int .i64 (.i 0)), (.int .i64 (.i 0)), (.int .i64 (.i 0)), (.int .i64 (.i 0)), (.int .i64 (.i 0)), (.int .i64 (.i 0)), (.int .i64 (.i 0)), (.int .i64 (.i 0)), (.int .i64 (.i 0)), (.int .i64 (.i 0)), (.int .i64 (.i 0))] 147))])]
 (.br (.o2 .lt (.v 7) (.o1 .ofNat (.v 1)))
  (.need (.o2 .le (.i 0) (.v 7))
  (.need (.o1 .isSome (.v 0))
  (.read (.load 43 (.tmp 26)) 43 [(26, (.w (.a (.eptr 0 (.v 7) 5 0))))] [((.a 0), (.prop 3))] [.i, .i, .i, .a, .n, .n, .a, .n, .n] (.w (.agg [(.int .i64 (.v 10)), (.int .i64 (.v 11)), (.int .i64 (.v 12)), (.sl (.v 13) (.v 14) (.v 15)), (.sl (.v 16) (.v 17) (.v 18))]))
  (.new
  (.join [.c]
   (.br (.o2 .lt (.v 10) (.i 0))
    (.again 0 [(.e (.o1 .not (.o1 .not (.c true))))])
    (.br (.o2 .lt (.i 63) (.v 10))
     (.again 0 [(.e (.o1 .not (.o1 .not (.c true))))])
     (.br (.o2 .lt (.i 0) (.v 7))
      (.need (.o1 (.inr .i64) (.o2 .sub (.v 7) (.i 1)))
      (.need (.o2 .le (.i 0) (.o2 .sub (.v 7) (.i 1)))
      (.need (.o2 .lt (.o2 .sub (.v 7) (.i 1)) (.o1 .ofNat (.v 1)))
      (.read (.load 3 (.tmp 44)) 3 [(44, (.w (.a (.eptr 0 (.o2 .sub (.v 7) (.i 1)) 5 0))))] [((.a 0), (.prop 3))] [.i] (.w (.a (.int .i64 (.v 20))))
      (.again 0 [(.e (.o1 .not (.o1 .not (.o2 .le (.v 10) (.v 20)))))])))))
      (.again 0 [(.e (.o1 .not (.o1 .not (.c false))))]))))
  (.br (.v 20)
   (.ret (.w (.a (.bool (.c false)))) [((.a 0), (.prop 3))])
   (.br (.o2 .eq (.v 11) (.i 2))
    (.br (.o2 .lt (.i 0) (.o1 .ofNat (.v 17)))
     (.ret (.w (.a (.bool (.c false)))) [((.a 0), (.prop 3))])
     (.br (.o2 .lt (.i 512) (.o1 .ofNat (.v 14)))
      (.ret (.w (.a (.bool (.c false)))) [((.a 0), (.prop 3))])
      (.br (.o2 .lt (.v 12) (.i 1))
       (.ret (.w (.a (.bool (.c false)))) [((.a 0), (.prop 3))])
       (.read (.indexAddr 147 (.tmp 4) (.tmp 84)) 0 [(4, (.w (.a (.ptr (.v 5) 0)))), (84, (.w (.a (.int .i64 (.v 10)))))] [((.b (.v 5)), (.prop 8))] [.v] (.w (.a (.val 21)))
       (.op (.store 3 (.tmp 87) (.tmp 86)) 0 [(87, (.w (.a (.val 21)))), (86, (.w (.a (.int .i64 (.v 11)))))] [((.b (.v 5)), (.prop 8))] [.p] (.tup []) [((.b (.v 5)), (.prop 22))]
       (.loop [.c, .i, .p] [(.e (.o1 .not (.o1 .not (.v 6)))), (.e (.o1 .neg (.o1 .neg (.i 0)))), (.p [((.b (.v 4)), (.prop 9))])]
        (.br (.o2 .lt (.v 24) (.o1 .ofNat (.v 17)))
         (.need (.o2 .le (.i 0) (.v 24))
         (.need (.o1 .isSome (.v 16))
         (.read (.load 140 (.tmp 98)) 140 [(98, (.w (.a (.eptr 16 (.v 24) 2 0))))] [((.a 0), (.prop 3))] [.s, .i] (.w (.agg [(.str (.v 26)), (.int .i64 (.v 27))]))
         (.new
         (.join [.c]
          (.call 78 [(.a (.str (.v 26)))] [] [.c] (.w (.a (.bool (.v 29)))) []
          (.br (.o1 .not (.v 29))
           (.again 0 [(.e (.o1 .not (.o1 .not (.c true))))])
           (.br (.o2 .lt (.i 0) (.v 24))
            (.need (.o1 (.inr .i64) (.o2 .sub (.v 24) (.i 1)))
            (.need (.o2 .le (.i 0) (.o2 .sub (.v 24) (.i 1)))
            (.need (.o2 .lt (.o2 .sub (.v 24) (.i 1)) (.o1 .ofNat (.v 17)))
            (.read (.load 9 (.tmp 113)) 9 [(113, (.w (.a (.eptr 16 (.o2 .sub (.v 24) (.i 1)) 2 0))))] [((.a 0), (.prop 3))] [.s] (.w (.a (.str (.v 30))))
            (.read (.binOp .geq 9 (.tmp 114) (.tmp 116) 9) 4 [(114, (.w (.a (.str (.v 30))))), (116, (.w (.a (.str (.v 26)))))] [] [.c] (.w (.a (.bool (.v 31))))
            (.br (.v 31)
             (.again 0 [(.e (.o1 .not (.o1 .not (.c true))))])
             (.br (.o2 .lt (.v 27) (.i 1))
              (.again 0 [(.e (.o1 .not (.o1 .not (.c true))))])
              (.again 0 [(.e (.o1 .not (.o1 .not (.o2 .lt (.i 63) (.v 27)))))]))))))))
            (.br (.o2 .lt (.v 27) (.i 1))
             (.again 0 [(.e (.o1 .not (.o1 .not (.c true))))])
             (.again 0 [(.e (.o1 .not (.o1 .not (.o2 .lt (.i 63) (.v 27)))))])))))
         (.br (.v 29)
          (.ret (.w (.a (.bool (.c false)))) [((.a 0), (.prop 3))])
          (.read (.indexAddr 147 (.tmp 3) (.tmp 131)) 0 [(3, (.w (.a (.ptr (.v 4) 0)))), (131, (.w (.a (.int .i64 (.v 27)))))] [((.b (.v 4)), (.prop 25))] [.v] (.w (.a (.val 30)))
          (.read (.load 3 (.tmp 132)) 3 [(132, (.w (.a (.val 30))))] [((.b (.v 4)), (.prop 25))] [.i] (.w (.a (.int .i64 (.v 31))))
          (.need (.o1 (.inr .i64) (.o2 .add (.v 31) (.i 1)))
          (.read (.indexAddr 147 (.tmp 3) (.tmp 131)) 0 [(3, (.w (.a (.ptr (.v 4) 0)))), (131, (.w (.a (.int .i64 (.v 27)))))] [((.b (.v 4)), (.prop 25))] [.v] (.w (.a (.val 32)))
          (.op (.store 3 (.tmp 135) (.tmp 134)) 0 [(135, (.w (.a (.val 32)))), (134, (.w (.a (.int .i64 (.o2 .add (.v 31) (.i 1))))))] [((.b (.v 4)), (.prop 25))] [.p] (.tup []) [((.b (.v 4)), (.prop 33))]
          (.need (.o1 (.inr .i64) (.o2 .add (.v 24) (.i 1)))
          (.again 0 [(.e (.o1 .not (.o1 .not (.v 23)))), (.e (.o1 .neg (.o1 .neg (.o2 .add (.v 24) (.i 1))))), (.p [((.b (.v 4)), (.prop 33))])])))))))))))))
         (.need (.o1 (.inr .i64) (.o2 .add (.v 7) (.i 1)))
         (.again 1 [(.e (.o1 .not (.o1 .not (.v 23)))), (.e (.o1 .neg (.o1 .neg (.o2 .add (.v 7) (.i 1))))), (.p [((.b (.v 5)), (.prop 22))]), (.p [((.b (.v 4)), (.prop 25))])])))))))))
    (.br (.o1 .not (.o2 .eq (.v 11) (.i 1)))
     (.ret (.w (.a (.bool (.c false)))) [((.a 0), (.prop 3))])
     (.br (.o1 .not (.o2 .eq (.v 12) (.i 1)))
      (.ret (.w (.a (.bool (.c false)))) [((.a 0), (.prop 3))])
      (.br (.o2 .lt (.i 0) (.o1 .ofNat (.v 14)))
       (.ret (.w (.a (.bool (.c false)))) [((.a 0), (.prop 3))])
       (.read (.indexAddr 147 (.tmp 4) (.tmp 84)) 0 [(4, (.w (.a (.ptr (.v 5) 0)))), (84, (.w (.a (.int .i64 (.v 10)))))] [((.b (.v 5)), (.prop 8))] [.v] (.w (.a (.val 21)))
       (.op (.store 3 (.tmp 87) (.tmp 86)) 0 [(87, (.w (.a (.val 21)))), (86, (.w (.a (.int .i64 (.v 11)))))] [((.b (.v 5)), (.prop 8))] [.p] (.tup []) [((.b (.v 5)), (.prop 22))]
       (.loop [.c, .i, .p] [(.e (.o1 .not (.o1 .not (.v 6)))), (.e (.o1 .neg (.o1 .neg (.i 0)))), (.p [((.b (.v 4)), (.prop 9))])]
        (.br (.o2 .lt (.v 24) (.o1 .ofNat (.v 17)))
         (.need (.o2 .le (.i 0) (.v 24))
         (.need (.o1 .isSome (.v 16))
         (.read (.load 140 (.tmp 98)) 140 [(98, (.w (.a (.eptr 16 (.v 24) 2 0))))] [((.a 0), (.prop 3))] [.s, .i] (.w (.agg [(.str (.v 26)), (.int .i64 (.v 27))]))
         (.new
         (.join [.c]
          (.call 78 [(.a (.str (.v 26)))] [] [.c] (.w (.a (.bool (.v 29)))) []
          (.br (.o1 .not (.v 29))
           (.again 0 [(.e (.o1 .not (.o1 .not (.c true))))])
           (.br (.o2 .lt (.i 0) (.v 24))
            (.need (.o1 (.inr .i64) (.o2 .sub (.v 24) (.i 1)))
            (.need (.o2 .le (.i 0) (.o2 .sub (.v 24) (.i 1)))
            (.need (.o2 .lt (.o2 .sub (.v 24) (.i 1)) (.o1 .ofNat (.v 17)))
            (.read (.load 9 (.tmp 113)) 9 [(113, (.w (.a (.eptr 16 (.o2 .sub (.v 24) (.i 1)) 2 0))))] [((.a 0), (.prop 3))] [.s] (.w (.a (.str (.v 30))))
            (.read (.binOp .geq 9 (.tmp 114) (.tmp 116) 9) 4 [(114, (.w (.a (.str (.v 30))))), (116, (.w (.a (.str (.v 26)))))] [] [.c] (.w (.a (.bool (.v 31))))
            (.br (.v 31)
             (.again 0 [(.e (.o1 .not (.o1 .not (.c true))))])
             (.br (.o2 .lt (.v 27) (.i 1))
              (.again 0 [(.e (.o1 .not (.o1 .not (.c true))))])
              (.again 0 [(.e (.o1 .not (.o1 .not (.o2 .lt (.i 63) (.v 27)))))]))))))))
            (.br (.o2 .lt (.v 27) (.i 1))
             (.again 0 [(.e (.o1 .not (.o1 .not (.c true))))])
             (.again 0 [(.e (.o1 .not (.o1 .not (.o2 .lt (.i 63) (.v 27)))))])))))
         (.br (.v 29)
          (.ret (.w (.a (.bool (.c false)))) [((.a 0), (.prop 3))])
          (.read (.indexAddr 147 (.tmp 3) (.tmp 131)) 0 [(3, (.w (.a (.ptr (.v 4) 0)))), (131, (.w (.a (.int .i64 (.v 27)))))] [((.b (.v 4)), (.prop 25))] [.v] (.w (.a (.val 30)))
          (.read (.load 3 (.tmp 132)) 3 [(132, (.w (.a (.val 30))))] [((.b (.v 4)), (.prop 25))] [.i] (.w (.a (.int .i64 (.v 31))))
          (.need (.o1 (.inr .i64) (.o2 .add (.v 31) (.i 1)))
          (.read (.indexAddr 147 (.tmp 3) (.tmp 131)) 0 [(3, (.w (.a (.ptr (.v 4) 0)))), (131, (.w (.a (.int .i64 (.v 27)))))] [((.b (.v 4)), (.prop 25))] [.v] (.w (.a (.val 32)))
          (.op (.store 3 (.tmp 135) (.tmp 134)) 0 [(135, (.w (.a (.val 32)))), (134, (.w (.a (.int .i64 (.o2 .add (.v 31) (.i 1))))))] [((.b (.v 4)), (.prop 25))] [.p] (.tup []) [((.b (.v 4)), (.prop 33))]
          (.need (.o1 (.inr .i64) (.o2 .add (.v 24) (.i 1)))
          (.again 0 [(.e (.o1 .not (.o1 .not (.v 23)))), (.e (.o1 .neg (.o1 .neg (.o2 .add (.v 24) (.i 1))))), (.p [((.b (.v 4)), (.prop 33))])])))))))))))))
         (.need (.o1 (.inr .i64) (.o2 .add (.v 7) (.i 1)))
         (.again 1 [(.e (.o1 .not (.o1 .not (.v 23)))), (.e (.o1 .neg (.o1 .neg (.o2 .add (.v 7) (.i 1))))), (.p [((.b (.v 5)), (.prop 22))]), (.p [((.b (.v 4)), (.prop 25))])]))))))))))))))))
  (.read (.load 3 (.tmp 136)) 3 [(136, (.w (.a (.ptr (.v 5) 0))))] [((.b (.v 5)), (.prop 8))] [.i] (.w (.a (.int .i64 (.v 10))))
  (.br (.o1 .not (.o2 .eq (.v 10) (.i 1)))
   (.ret (.w (.a (.bool (.c false)))) [((.a 0), (.prop 3))])
   (.loop [.c, .i] [(.e (.o1 .not (.o1 .not (.v 6)))), (.e (.o1 .neg (.o1 .neg (.i 0))))]
    (.br (.o2 .lt (.v 12) (.o1 .ofNat (.v 1)))
     (.join [.c]
      (.need (.o2 .le (.i 0) (.v 12))
      (.need (.o1 .isSome (.v 0))
      (.read (.load 3 (.tmp 148)) 3 [(148, (.w (.a (.eptr 0 (.v 12) 5 0))))] [((.a 0), (.prop 3))] [.i] (.w (.a (.int .i64 (.v 13))))
      (.br (.o2 .lt (.i 0) (.v 13))
       (.read (.load 3 (.tmp 155)) 3 [(155, (.w (.a (.eptr 0 (.v 12) 5 0))))] [((.a 0), (.prop 3))] [.i] (.w (.a (.int .i64 (.v 14))))
       (.read (.indexAddr 147 (.tmp 3) (.tmp 156)) 0 [(3, (.w (.a (.ptr (.v 4) 0)))), (156, (.w (.a (.int .i64 (.v 14)))))] [((.b (.v 4)), (.prop 9))] [.v] (.w (.a (.val 15)))
       (.read (.load 3 (.tmp 157)) 3 [(157, (.w (.a (.val 15))))] [((.b (.v 4)), (.prop 9))] [.i] (.w (.a (.int .i64 (.v 16))))
       (.read (.load 3 (.tmp 162)) 3 [(162, (.w (.a (.eptr 0 (.v 12) 5 2))))] [((.a 0), (.prop 3))] [.i] (.w (.a (.int .i64 (.v 17))))
       (.again 0 [(.e (.o1 .not (.o1 .not (.o1 .not (.o2 .eq (.v 16) (.v 17))))))])))))
       (.again 0 [(.e (.o1 .not (.o1 .not (.c false))))])))))
     (.br (.v 13)
      (.ret (.w (.a (.bool (.c false)))) [((.a 0), (.prop 3))])
      (.need (.o1 (.inr .i64) (.o2 .add (.v 12) (.i 1)))
      (.again 0 [(.e (.o1 .not (.o1 .not (.v 11)))), (.e (.o1 .neg (.o1 .neg (.o2 .add (.v 12) (.i 1)))))]))))
     (.loop [.c, .i] [(.e (.o1 .not (.o1 .not (.v 11)))), (.e (.o1 .neg (.o1 .neg (.i 0))))]
      (.br (.o2 .lt (.v 14) (.i 64))
       (.read (.indexAddr 147 (.tmp 3) (.tmp 170)) 0 [(3, (.w (.a (.ptr (.v 4) 0)))), (170, (.w (.a (.int .i64 (.v 14)))))] [((.b (.v 4)), (.prop 9))] [.v] (.w (.a (.val 15)))
       (.read (.load 3 (.tmp 171)) 3 [(171, (.w (.a (.val 15))))] [((.b (.v 4)), (.prop 9))] [.i] (.w (.a (.int .i64 (.v 16))))
       (.br (.o2 .lt (.i 0) (.v 16))
        (.read (.indexAddr 147 (.tmp 4) (.tmp 175)) 0 [(4, (.w (.a (.ptr (.v 5) 0)))), (175, (.w (.a (.int .i64 (.v 14)))))] [((.b (.v 5)), (.prop 8))] [.v] (.w (.a (.val 17)))
        (.read (.load 3 (.tmp 176)) 3 [(176, (.w (.a (.val 17))))] [((.b (.v 5)), (.prop 8))] [.i] (.w (.a (.int .i64 (.v 18))))
        (.br (.o2 .eq (.v 18) (.i 0))
         (.ret (.w (.a (.bool (.c false)))) [((.a 0), (.prop 3))])
         (.need (.o1 (.inr .i64) (.o2 .add (.v 14) (.i 1)))
         (.again 0 [(.e (.o1 .not (.o1 .not (.v 13)))), (.e (.o1 .neg (.o1 .neg (.o2 .add (.v 14) (.i 1)))))])))))
        (.need (.o1 (.inr .i64) (.o2 .add (.v 14) (.i 1)))
        (.again 0 [(.e (.o1 .not (.o1 .not (.v 13)))), (.e (.o1 .neg (.o1 .neg (.o2 .add (.v 14) (.i 1)))))])))))
       (.new
       (.loop [.i, .p] [(.e (.o1 .neg (.o1 .neg (.i 0)))), (.p [((.b (.v 15)), (.cells [(.bool (.c true)), (.bool (.c false)), (.bool (.c false)), (.bool (.c false)), (.bool (.c false)), (.bool (.c false)), (.bool (.c false)), (.bool (.c false)), (.bool (.c false)), (.bool (.c false)), (.bool (.c false)), (.bool (.c false)), (.bool (.c false)), (.bool (.c false)), (.bool (.c false)), (.bool (.c false)), (.bool (.c false)), (.bool (.c false)), (.bool (.c false)), (.bool (.c false)), (.bool (.c false)), (.bool (.c false)), (.bool (.c false)), (.bool (.c false)), (.bool (.c false)), (.bool (.c false)), (.bool (.c false)), (.bool (.c false)), (.bool (.c false)), (.bool (.c false)), (.bool (.c false)), (.bool (.c false)), (.bool (.c false)), (.bool (.c false)), (.bool (.c false)), (.bool (.c false)), (.bool (.c false)), (.bool (.c false)), (.bool (.c false)), (.bool (.c false)), (.bool (.c false)), (.bool (.c false)), (.bool (.c false)), (.bool (.c false)), (.bool (.c false)), (.bool (.c false)), (.bool (.c false)), (.bool (.c false)), (.bool (.c false)), (.bool (.c false)), (.bool (.c false)), (.bool (.c false)), (.bool (.c false)), (.bool (.c false)), (.bool (.c false)), (.bool (.c false)), (.bool (.c false)), (.bool (.c false)), (.bool (.c false)), (.bool (.c false)), (.bool (.c false)), (.bool (.c false)), (.bool (.c false)), (.bool (.c false))] 149))])]
        (.br (.o2 .lt (.v 16) (.o1 .ofNat (.v 1)))
         (.loop [.i, .p] [(.e (.o1 .neg (.o1 .neg (.i 0)))), (.p [((.b (.v 15)), (.prop 17))])]
          (.br (.o2 .lt (.v 18) (.o1 .ofNat (.v 1)))
           (.loop [.i, .p] [(.e (.o1 .neg (.o1 .neg (.i 0)))), (.p [((.b (.v 15)), (.prop 19))])]
            (.need (.o2 .le (.i 0) (.v 18))
            (.need (.o1 .isSome (.v 0))
            (.read (.load 41 (.tmp 198)) 41 [(198, (.w (.a (.eptr 0 (.v 18) 5 4))))] [((.a 0), (.prop 3))] [.a, .n, .n] (.w (.a (.sl (.v 22) (.v 23) (.v 24))))
            (.br (.o2 .lt (.v 20) (.o1 .ofNat (.v 23)))
             (.read (.load 3 (.tmp 207)) 3 [(207, (.w (.a (.eptr 0 (.v 18) 5 0))))] [((.a 0), (.prop 3))] [.i] (.w (.a (.int .i64 (.v 25))))
             (.read (.indexAddr 149 (.tmp 11) (.tmp 208)) 0 [(11, (.w (.a (.ptr (.v 15) 0)))), (208, (.w (.a (.int .i64 (.v 25)))))] [((.b (.v 15)), (.prop 21))] [.v] (.w (.a (.val 26)))
             (.read (.load 4 (.tmp 209)) 4 [(209, (.w (.a (.val 26))))] [((.b (.v 15)), (.prop 21))] [.c] (.w (.a (.bool (.v 27))))
             (.br (.v 27)
              (.read (.load 41 (.tmp 214)) 41 [(214, (.w (.a (.eptr 0 (.v 18) 5 4))))] [((.a 0), (.prop 3))] [.a, .n, .n] (.w (.a (.sl (.v 28) (.v 29) (.v 30))))
              (.need (.o2 .le (.i 0) (.v 20))
              (.need (.o2 .lt (.v 20) (.o1 .ofNat (.v 29)))
              (.need (.o1 .isSome (.v 28))
              (.read (.load 3 (.tmp 218)) 3 [(218, (.w (.a (.eptr 28 (.v 20) 2 1))))] [((.a 0), (.prop 3))] [.i] (.w (.a (.int .i64 (.v 31))))
              (.read (.indexAddr 149 (.tmp 11) (.tmp 219)) 0 [(11, (.w (.a (.ptr (.v 15) 0)))), (219, (.w (.a (.int .i64 (.v 31)))))] [((.b (.v 15)), (.prop 21))] [.v] (.w (.a (.val 32)))
              (.op (.store 4 (.tmp 220) (.const (.bool true))) 0 [(220, (.w (.a (.val 32))))] [((.b (.v 15)), (.prop 21))] [.p] (.tup []) [((.b (.v 15)), (.prop 33))]
              (.need (.o1 (.inr .i64) (.o2 .add (.v 20) (.i 1)))
              (.again 0 [(.e (.o1 .neg (.o1 .neg (.o2 .add (.v 20) (.i 1))))), (.p [((.b (.v 15)), (.prop 33))])])))))))))
              (.need (.o1 (.inr .i64) (.o2 .add (.v 20) (.i 1)))
              (.again 0 [(.e (.o1 .neg (.o1 .neg (.o2 .add (.v 20) (.i 1))))), (.p [((.b (.v 15)), (.prop 21))])]))))))
             (.need (.o1 (.inr .i64) (.o2 .add (.v 18) (.i 1)))
             (.again 1 [(.e (.o1 .neg (.o1 .neg (.o2 .add (.v 18) (.i 1))))), (.p [((.b (.v 15)), (.prop 21))])])))))))
           (.need (.o1 (.inr .i64) (.o2 .add (.v 16) (.i 1)))
           (.again 1 [(.e (.o1 .neg (.o1 .neg (.o2 .add (.v 16) (.i 1))))), (.p [((.b (.v 15)), (.prop 19))])]))))
         (.loop [.c, .i] [(.e (.o1 .not (.o1 .not (.v 13)))), (.e (.o1 .neg (.o1 .neg (.i 0))))]
          (.br (.o2 .lt (.v 19) (.o1 .ofNat (.v 1)))
           (.need (.o2 .le (.i 0) (.v 19))
           (.need (.o1 .isSome (.v 0))
           (.read (.load 3 (.tmp 230)) 3 [(230, (.w (.a (.eptr 0 (.v 19) 5 0))))] [((.a 0), (.prop 3))] [.i] (.w (.a (.int .i64 (.v 20))))
           (.read (.indexAddr 149 (.tmp 11) (.tmp 231)) 0 [(11, (.w (.a (.ptr (.v 15) 0)))), (231, (.w (.a (.int .i64 (.v 20)))))] [((.b (.v 15)), (.prop 17))] [.v] (.w (.a (.val 21)))
           (.read (.load 4 (.tmp 232)) 4 [(232, (.w (.a (.val 21))))] [((.b (.v 15)), (.prop 17))] [.c] (.w (.a (.bool (.v 22))))
           (.br (.o1 .not (.v 22))
            (.ret (.w (.a (.bool (.c false)))) [((.a 0), (.prop 3))])
            (.need (.o1 (.inr .i64) (.o2 .add (.v 19) (.i 1)))
            (.again 0 [(.e (.o1 .not (.o1 .not (.v 18)))), (.e (.o1 .neg (.o1 .neg (.o2 .add (.v 19) (.i 1)))))]))))))))
           (.ret (.w (.a (.bool (.c true)))) [((.a 0), (.prop 3))]))))))))))))))))
theorem tree_right04 : tree Tryz.prog { absT := [147, 149, 3, 4], opq := [], hv := [(0, [(.b (.v 5)), (.b (.v 4))]), (2, [(.b (.v 4))]), (8, [(.b (.v 15))]), (10, [(.b (.v 15))]), (12, [(.b (.v 15))])], keep := [30, 76, 78], link := [], ent := [], turn := [], shr := [], vt := [], mkd := [], rlink := [], pty := [], outl := false, stay := [], snk := [], rdf := true, jn := [((28, 20), some { ss := [.c], n := 21, tv := [(28, none), (29, none), (30, none), (31, none), (32, none), (33, none), (34, none), (35, none), (36, none), (37, none), (38, none), (39, none), (40, none), (41, none), (42, none), (43, none), (44, none), (45, none), (46, none), (47, none), (48, none), (49, none), (50, some (.w (.a (.bool (.v 20)))))], h := [((.b (.v 19)), (.cells [(.int .i64 (.v 10)), (.int .i64 (.v 11)), (.int .i64 (.v 12)), (.sl (.v 13) (.v 14) (.v 15)), (.sl (.v 16) (.v 17) (.v 18))] 43)), ((.b (.v 5)), (.prop 8)), ((.b (.v 4)), (.prop 9)), ((.a 0), (.prop 3))], lk := [] }), ((100, 29), some { ss := [.c], n := 30, tv := [(100, none), (101, none), (102, none), (103, none), (104, none), (105, none), (106, none), (107, none), (108, none), (109, none), (110, none), (111, none), (112, none), (113, none), (114, none), (115, none), (116, none), (117, none), (118, none), (119, none), (120, none), (121, none), (122, none), (123, none), (124, none), (125, none), (126, none), (127, none), (128, none), (129, some (.w (.a (.bool (.v 29)))))], h := [((.b (.v 28)), (.cells [(.str (.v 26)), (.int .i64 (.v 27))] 140)), ((.b (.v 5)), (.prop 22)), ((.b (.v 19)), (.cells [(.int .i64 (.v 10)), (.int .i64 (.v 11)), (.int .i64 (.v 12)), (.sl (.v 13) (.v 14) (.v 15)), (.sl (.v 16) (.v 17) (.v 18))] 43)), ((.b (.v 4)), (.prop 25)), ((.a 0), (.prop 3))], lk := [] }), ((145, 13), some { ss := [.c], n := 14, tv := [(145, none), (146, none), (147, none), (148, none), (149, none), (150, none), (151, none), (152, none), (153, none), (154, none), (155, none), (156, none), (157, none), (158, none), (159, none), (160, none), (161, none), (162, none), (163, none), (164, none), (165, some (.w (.a (.bool (.v 13)))))], h := [((.b (.v 5)), (.prop 8)), ((.b (.v 4)), (.prop 9)), ((.a 0), (.prop 3))], lk := [] })] } Tryz.f26 [(.a (.sl (.v 0) (.v 1) (.v 2)))] [((.a 0), (.prop 3))] 4 = t_right04 := by kernel_rfl
end Go.Proofs.YtdieogcemmnaaaaGreatDoor.RX

/- The contract of the document's Right, for nodes of a tree. No condition. -/
namespace Go.Proofs.YtdieogcemmnaaaaGreatDoor
set_option linter.unusedSimpArgs false
set_option linter.unusedVariables false
open Go.Proofs.YtdieogcemmnaaaaGreatDoor RX
set_option maxRecDepth 100000

theorem name03_ok (s : Nm) (hs : s.length ≤ 100000) : Tri Tryz.prog 78 #[sE s] HP.tt (fun v => HP.pure (v = .bool (nameOk s))) := by
  refine tri_of_tree (ρ := [.s s]) mixed Tryz.func78 tree_name03 ?_
  unfold t_name03
  simp only [T.den, E.prop, E.den, RX.look, F1.app, F2.app, Uni.int_i, Uni.nat_n, Uni.bool_c, Uni.str_s, Uni.adr_a, Uni.val_v, Uni.hp_p, hden, cden, V.den, W.den, A.den, BR.den, SA.den, FV.den, capV, exs, exP, allP, Cur.app, List.map_cons, List.map_nil, List.cons_append, List.nil_append, List.drop_succ_cons, List.drop_zero, List.length_cons, List.length_nil, Nat.zero_add, Nat.reduceAdd, Int.neg_neg, Bool.not_not, List.append_nil, Nat.add_zero, List.getElem?_cons_zero, List.getElem?_cons_succ, Decidable.not_not, semW_eq, semW_load, semW_store, semW_storeC, semW_append, semW_lookup, semW_lookupC, semW_update, semW_updateC, semW_updateK, semW_delete, semW_range, semW_next, semW_entry, semW_nil, ne_eq, Nat.reduceEqDiff, not_false_eq_true]
  have yes : ∀ {φ : Bool}, nameOk s = φ → HP.ent HP.tt (HP.pure (Value.bool φ = .bool (nameOk s))) := fun h => .of fun _ _ _ => (by show Value.bool _ = Value.bool _; rw [h])
  refine ⟨fun _ i => ∃ k : Nat, i = k ∧ k ≤ s.length ∧ ∀ c ∈ s.take k, c ≠ 47 ∧ c ≠ 0, fun _ i => s.length - i.toNat, ⟨0, rfl, Nat.zero_le _, by simp⟩, ?_⟩
  rintro _ _ ⟨k, rfl, hk, hb⟩
  refine ⟨fun hlt => ?_, fun hge => ?_⟩
  · obtain ⟨c, hc⟩ := getN (l := s) (k := k) (by omega)
    have hm := List.mem_of_getElem? hc
    refine ⟨c.toNat, strIx (by decide) (by kernel_rfl) rfl hc, fun h => yes ?_, fun h1 => ⟨c.toNat, strIx (by decide) (by kernel_rfl) rfl hc, fun h => yes ?_, fun h2 => ⟨inI64' _ (by omega) (by omega), fun _ => ⟨⟨k + 1, by omega, by omega, fun d hd => ?_⟩, by dsimp only; omega⟩⟩⟩⟩
    · have : c = 47 := UInt8.toNat_inj.1 (by have : (47 : UInt8).toNat = 47 := rfl; omega)
      subst this
      simp [nameOk, hm]
    · have : c = 0 := UInt8.toNat_inj.1 (by have : (0 : UInt8).toNat = 0 := rfl; omega)
      subst this
      simp [nameOk, hm]
    · rw [List.take_add_one, hc, List.mem_append] at hd
      rcases hd with hd | hd
      · exact hb d hd
      · simp at hd
        subst hd
        refine ⟨fun e => h1 (by rw [e]; rfl), fun e => h2 (by rw [e]; rfl)⟩
  · rw [List.take_of_length_le (by omega)] at hb
    have h47 : (47 : UInt8) ∉ s := fun h => (hb _ h).1 rfl
    have h0 : (0 : UInt8) ∉ s := fun h => (hb _ h).2 rfl
    refine ⟨fun h1 => ⟨fun h2 => ⟨fun h3 => yes ?_, fun h3 => yes ?_⟩, fun h2 => yes ?_⟩, fun h1 => yes ?_⟩
    · have h1' : 1 ≤ s.length := by omega
      have h2' : s.length ≤ 16 := by omega
      simp [nameOk, h47, h0, h1', h2', h3]
    · simp [nameOk, h3]
    · have h2' : ¬ s.length ≤ 16 := by omega
      simp [nameOk, h2']
    · have h1' : ¬ 1 ≤ s.length := by omega
      simp [nameOk, h1']
def kindF (T : List Nd) (j : Nat) : Value := .int .i64 (((nodeAt T j).map (·.kind)).getD 0)
def seenF (T : List Nd) (j : Nat) : Value := .int .i64 (refs T j)
def seenE (T : List Nd) (l : List (Nm × Nat)) (j : Nat) : Value := .int .i64 ((refs T j + cntE l j : Nat) : Int)
theorem refs_app (T : List Nd) (x : Nd) (k : Nat) : refs (T ++ [x]) k = refs T k + cntE x.ents k := by simp [refs]
theorem nodeAt_app (T : List Nd) (x : Nd) (k : Nat) : nodeAt (T ++ [x]) k = (nodeAt T k).or (if x.num = k then some x else none) := by
  unfold nodeAt
  rw [List.find?_append]
  congr 1
  by_cases e : x.num = k <;> simp [e]
theorem undInt : Tryz.prog.underlying 3 = some (.int .i64) := by kernel_rfl
theorem undBo : Tryz.prog.underlying 4 = some .bool := by kernel_rfl
theorem infoInt' : ∃ i, Tryz.prog.info? 3 = some i ∧ i.size = 1 := by
  obtain ⟨i, hi, _, h2, _⟩ := info_parts infoInt
  exact ⟨i, hi, h2⟩
theorem infoBo' : ∃ i, Tryz.prog.info? 4 = some i ∧ i.size = 1 := by
  obtain ⟨i, hi, _, h2, _⟩ := info_parts (show (Tryz.prog.info? 4).map (fun i => (i.zero, i.size, i.bytes)) = some (some (.bool false), 1, 1) by kernel_rfl)
  exact ⟨i, hi, h2⟩
theorem undAr : Tryz.prog.underlying 147 = some (.array 64 3) := by kernel_rfl
theorem undArB : Tryz.prog.underlying 149 = some (.array 64 4) := by kernel_rfl
theorem ixI {b k : Nat} {x : Int} (hx : x = k) (hk : k < 64) {A : HP} : ORead Tryz.prog (idxS 147 (.pointer (some ⟨b, 0, none⟩)) (.int .i64 x)) A (.pointer (some ⟨b, k, none⟩)) := arIx undAr (by kernel_rfl) (by kernel_rfl) hx hk
theorem ixB {b k : Nat} {x : Int} (hx : x = k) (hk : k < 64) {A : HP} : ORead Tryz.prog (idxS 149 (.pointer (some ⟨b, 0, none⟩)) (.int .i64 x)) A (.pointer (some ⟨b, k, none⟩)) := arIx undArB (by kernel_rfl) (by kernel_rfl) hx hk
theorem ldI {b k : Nat} {e : TypeId} {f : Nat → Value} (hk : k < 64) {P : HP} (hP : HP.ent P (Ar e b (arF 64 f))) : ORead Tryz.prog (loadS 3 (.pointer (some ⟨b, k, none⟩))) P (f k) := ORead.ent hP (arLd undInt (by kernel_rfl) (by kernel_rfl) (arF_get hk))
theorem ldB {b k : Nat} {e : TypeId} {f : Nat → Value} (hk : k < 64) {P : HP} (hP : HP.ent P (Ar e b (arF 64 f))) : ORead Tryz.prog (loadS 4 (.pointer (some ⟨b, k, none⟩))) P (f k) := ORead.ent hP (arLd undBo (by kernel_rfl) (by kernel_rfl) (arF_get hk))
theorem stI {b k : Nat} {e : TypeId} {f : Nat → Value} (x : Int) (hk : k < 64) {P : HP} (hP : HP.ent P (Ar e b (arF 64 f))) {C : Value → HP} (post : ∀ R h, (Ar e b (arF 64 fun j => if j = k then .int .i64 x else f j)).p R h → (C (.tuple #[])).p R h) : OTri Tryz.prog (storeS 3 (.pointer (some ⟨b, k, none⟩)) (.int .i64 x)) P C := by
  obtain ⟨i, hi, hz⟩ := infoInt'
  refine OTri.pre3 ((arSt hi hz rfl rfl (by rw [arF_len]; exact hk)).weak (fun _ _ h => h) ?_) hP
  rintro v R h ⟨rfl, H⟩
  rw [arF_set hk] at H
  exact post R h H
theorem stB {b k : Nat} {e : TypeId} {f : Nat → Value} (x : Bool) (hk : k < 64) {P : HP} (hP : HP.ent P (Ar e b (arF 64 f))) {C : Value → HP} (post : ∀ R h, (Ar e b (arF 64 fun j => if j = k then .bool x else f j)).p R h → (C (.tuple #[])).p R h) : OTri Tryz.prog (storeS 4 (.pointer (some ⟨b, k, none⟩)) (.bool x)) P C := by
  obtain ⟨i, hi, hz⟩ := infoBo'
  refine OTri.pre3 ((arSt hi hz rfl rfl (by rw [arF_len]; exact hk)).weak (fun _ _ h => h) ?_) hP
  rintro v R h ⟨rfl, H⟩
  rw [arF_set hk] at H
  exact post R h H
theorem Ar.congr {e : TypeId} {b : Nat} {f g : Nat → Value} (h : ∀ j < 64, f j = g j) {P : HP} (hP : HP.ent P (Ar e b (arF 64 f))) : HP.ent P (Ar e b (arF 64 g)) := by rw [← arF_congr h]; exact hP
def boolF (f : Nat → Bool) (j : Nat) : Value := .bool (f j)
theorem loadNd {a : Option Addr} {n : Nat} {es : List NodeE} {k : Nat} {x : NodeE} (hk : es[k]? = some x) {off : Nat} {t : TypeId} {d : TypeDesc} {v : Value} (hd : Tryz.prog.underlying t = some d) (ha : aggT Tryz.prog t = false) (hz : szT Tryz.prog t = 1) (hv : (nodeVs x)[off]? = some v) : ORead Tryz.prog (loadS t (.pointer (a.map fun y => (y.add (k * 5)).add off))) (Ls kNode a n es) v := Ls.load1 (K := kNode) hd ha hz hk hv
theorem loadE1 {a : Option Addr} {n : Nat} {es : List NodeE} {x : NodeE} (hx : x ∈ es) {k : Nat} {e : Nm × Nat} (hk : x.nd.ents[k]? = some e) {off : Nat} {t : TypeId} {d : TypeDesc} {v : Value} (hd : Tryz.prog.underlying t = some d) (ha : aggT Tryz.prog t = false) (hz : szT Tryz.prog t = 1) (hv : (entV e)[off]? = some v) : ORead Tryz.prog (loadS t (.pointer (x.ea.map fun y => (y.add (k * 2)).add off))) (Ls kNode a n es) v :=
  ORead.ent (.of fun R h H => (H.2.2 x hx).2) (Ls.load1 (K := kEnt) hd ha hz hk hv)
theorem undEs' : Tryz.prog.underlying 41 = some (.slice 140) := by kernel_rfl
theorem kind_step {T : List Nd} (hn : (T.map (·.num)).Nodup) {k : Nat} {x : Nd} (hk : T[k]? = some x) (j : Nat) : (if j = x.num then Value.int .i64 x.kind else kindF (T.take k) j) = kindF (T.take (k + 1)) j := by
  unfold kindF
  rw [List.take_add_one, hk, Option.toList_some, nodeAt_app]
  by_cases e : j = x.num
  · rw [if_pos e, if_pos e.symm]
    have : nodeAt (T.take k) j = none := by
      cases hq : nodeAt (T.take k) j with
      | none => rfl
      | some y =>
        exfalso
        obtain ⟨h1, h2⟩ := nodeAt_mem hq
        obtain ⟨i, hi⟩ := List.mem_iff_getElem?.1 h1
        rw [List.getElem?_take] at hi
        split at hi
        · rename_i hik
          have e1 : (T.map (·.num))[i]? = some j := by rw [List.getElem?_map, hi]; simp [h2]
          have e2 : (T.map (·.num))[k]? = some j := by rw [List.getElem?_map, hk]; simp [e]
          have := (List.getElem?_inj (by rw [List.length_map]; have := (List.getElem?_eq_some_iff.1 hi).1; omega) hn).1 (e1.trans e2.symm)
          omega
        · cases hi
    rw [this]; rfl
  · rw [if_neg e, if_neg (Ne.symm e), Option.or_none]
theorem seen_step (T : List Nd) {k : Nat} {x : Nd} (hk : T[k]? = some x) (j : Nat) : seenE (T.take k) (x.ents.take x.ents.length) j = seenF (T.take (k + 1)) j := by
  unfold seenE seenF
  rw [List.take_length, List.take_add_one, hk, Option.toList_some, refs_app]
theorem cntE_snoc (l : List (Nm × Nat)) (e : Nm × Nat) (j : Nat) : cntE (l ++ [e]) j = cntE l j + if j = e.2 then 1 else 0 := by
  unfold cntE
  rw [List.countP_append, List.countP_cons]
  by_cases h : j = e.2
  · simp [h]
  · simp [h, Ne.symm h]
theorem seenE_step (T : List Nd) {l : List (Nm × Nat)} {m : Nat} {e : Nm × Nat} (hm : l[m]? = some e) (j : Nat) : (if j = e.2 then Value.int .i64 (((refs T e.2 + cntE (l.take m) e.2 : Nat) : Int) + 1) else seenE T (l.take m) j) = seenE T (l.take (m + 1)) j := by
  unfold seenE
  rw [List.take_add_one, hm, Option.toList_some, cntE_snoc]
  by_cases h : j = e.2
  · subst h
    rw [if_pos rfl, if_pos rfl]
    congr 1
  · rw [if_neg h, if_neg h, Nat.add_zero]
theorem seen_le {T : List Nd} {k : Nat} {x : Nd} (hk : T[k]? = some x) (m j : Nat) : refs (T.take k) j + cntE (x.ents.take m) j ≤ refs T j := by
  have hlt := (List.getElem?_eq_some_iff.1 hk).1
  have e1 : T = T.take k ++ x :: T.drop (k + 1) := by
    conv => lhs; rw [← List.take_append_drop k T]
    rw [List.drop_eq_getElem_cons hlt]
    rw [List.getElem?_eq_getElem hlt] at hk
    rw [Option.some.inj hk]
  have e2 : refs T j = refs (T.take k) j + refs (x :: T.drop (k + 1)) j := by
    conv => lhs; rw [e1]
    unfold refs; rw [List.map_append, List.sum_append]
  rw [e2, refs_cons]
  have : cntE (x.ents.take m) j ≤ cntE x.ents j := by
    unfold cntE
    exact (List.take_sublist m x.ents).countP_le
  omega
set_option maxHeartbeats 16000000 in
theorem right04_ok {B : Nat} (hB : B ≤ 100000) (a : Option Addr) (n c : Nat) (es : List NodeE) (NS : List Nd) (hT : es.map (·.nd) = NS) (wf : TWf B NS) (hr : Reach NS) (h64 : n ≤ 64) :
    Tri Tryz.prog 26 #[.slice a n c] (Ls kNode a n es) (fun v => HP.and (v = .bool true) (Ls kNode a n es)) := by
  refine Tri.fact (φ := es.length = n ∧ (n ≠ 0 → a.isSome = true) ∧ (∀ x ∈ es, x.nd.ents.length ≠ 0 → x.ea.isSome = true)) (fun R h H => ⟨H.1, fun h => Ls.some H h, nodesEa H⟩) fun ⟨hl, ha, hea⟩ => ?_
  refine tri_of_tree (ρ := [.a a, .n n, .n c, .p (Ls kNode a n es)]) mixed Tryz.func26 tree_right04 ?_
  unfold t_right04
  simp (maxSteps := 10000000) only [T.den, E.prop, E.den, RX.look, F1.app, F2.app, Uni.int_i, Uni.nat_n, Uni.bool_c, Uni.str_s, Uni.adr_a, Uni.val_v, Uni.hp_p, hden, cden, V.den, W.den, A.den, BR.den, SA.den, FV.den, capV, exs, exP, allP, Cur.app, List.map_cons, List.map_nil, List.cons_append, List.nil_append, List.drop_succ_cons, List.drop_zero, List.length_cons, List.length_nil, Nat.zero_add, Nat.reduceAdd, Int.neg_neg, Bool.not_not, List.append_nil, Nat.add_zero, List.getElem?_cons_zero, List.getElem?_cons_succ, Decidable.not_not, semW_eq, semW_load, semW_store, semW_storeC, semW_append, semW_lookup, semW_lookupC, semW_update, semW_updateC, semW_updateK, semW_delete, semW_range, semW_next, semW_entry, semW_nil, ne_eq, Nat.reduceEqDiff, not_false_eq_true, semW_ix]
  have hTl : NS.length = n := by rw [← hT, List.length_map, hl]
  have ex : ∀ k, k < n → ∃ x, es[k]? = some x ∧ x ∈ es ∧ NS[k]? = some x.nd ∧ GoodN B x.nd ∧ x.nd ∈ NS := fun k hk => by
    obtain ⟨x, hx⟩ := getN (l := es) (k := k) (by omega)
    have hxT : NS[k]? = some x.nd := by rw [← hT, List.getElem?_map, hx]; rfl
    exact ⟨x, hx, List.mem_of_getElem? hx, hxT, wf.good _ (List.mem_of_getElem? hxT), List.mem_of_getElem? hxT⟩
  have tgt64 : ∀ x ∈ NS, ∀ e ∈ x.ents, e.2 < 64 ∧ e.2 ≠ 0 ∧ nameOk e.1 = true := fun x hx e he => by
    obtain ⟨y, hy⟩ := Option.isSome_iff_exists.1 (wf.tgt x hx e he)
    have := (wf.at' hy).1.num
    rw [(wf.at' hy).2.1] at this
    exact ⟨this, ((wf.good x hx).name e he).2, ((wf.good x hx).name e he).1⟩
  have fls : ∀ {Q : HP}, (true = false) → Q.p = Q.p := fun _ => rfl
  intro b4 b5
  refine ⟨fun _ i P5 P4 => ∃ k : Nat, i = k ∧ k ≤ n ∧ HP.ent P5 (Ar 147 b5 (arF 64 (kindF (NS.take k)))) ∧ HP.ent P4 (Ar 147 b4 (arF 64 (seenF (NS.take k)))), fun _ i _ _ => n - i.toNat, ⟨0, rfl, Nat.zero_le _, by rw [List.take_zero]; exact .of fun _ _ h => h, by rw [List.take_zero]; exact .of fun _ _ h => h⟩, ?_⟩
  rintro _ _ P5 P4 ⟨k, rfl, hk, hP5, hP4⟩
  refine ⟨fun hlt => ⟨by omega, fun _ => ⟨ha (by omega), fun _ => ?_⟩⟩, fun hge => ?_⟩
  · obtain ⟨x, hx, hxm, hxT, hg, hxmT⟩ := ex k (by omega)
    have hn64 := hg.num
    refine ⟨x.nd.num, x.nd.kind, x.nd.links, x.da, x.nd.data.length, x.dc, x.ea, x.nd.ents.length, x.ec, loadNode hx, fun q => ⟨fun f => f = false, ?_, ?_⟩⟩
    · refine ⟨fun h => absurd h (by omega), fun _ => ⟨fun h => absurd h (by omega), fun _ => ⟨fun h0 => ⟨inI64' _ (by omega) (by omega), fun _ => ⟨by omega, fun _ => ⟨by omega, fun _ => ?_⟩⟩⟩, fun _ => rfl⟩⟩⟩
      obtain ⟨y, hy, hym, hyT, _, _⟩ := ex (k - 1) (by omega)
      have e1 : ((k : Int) - 1).toNat = k - 1 := by omega
      rw [e1]
      refine ⟨y.nd.num, loadNd hy undInt (by kernel_rfl) (by kernel_rfl) rfl, ?_⟩
      show decide ((x.nd.num : Int) ≤ (y.nd.num : Int)) = false
      have := List.pairwise_iff_getElem.1 wf.sorted (k - 1) k (by rw [List.length_map]; omega) (by rw [List.length_map]; omega) (by omega)
      rw [List.getElem_map, List.getElem_map] at this
      have g1 : NS[k - 1]'(by omega) = y.nd := by rw [List.getElem?_eq_getElem (by omega)] at hyT; exact Option.some.inj hyT
      have g2 : NS[k]'(by omega) = x.nd := by rw [List.getElem?_eq_getElem (by omega)] at hxT; exact Option.some.inj hxT
      rw [g1, g2] at this
      rw [decide_eq_false]
      omega
    · rintro f rfl
      refine ⟨fun h => Bool.noConfusion h, fun _ => ?_⟩
      have hkd := hg.kind
      have hdl := hg.data
      have hlp := hg.lpos
      refine ⟨fun k2 => ⟨fun h => ?_, fun _ => ⟨fun h => absurd h (by omega), fun _ => ⟨fun h => absurd h (by omega), fun _ => ?_⟩⟩⟩, fun k2 => ⟨fun h => ?_, fun k1 => ⟨fun h => ?_, fun _ => ⟨fun h => ?_, fun _ => ?_⟩⟩⟩⟩
      · exfalso
        rcases hkd with ⟨h1, _⟩ | ⟨_, h1⟩
        · omega
        · rw [h1] at h; simp at h
      · skip
        refine ⟨.pointer (some ⟨b5, x.nd.num, none⟩), ixI rfl hn64, stI x.nd.kind hn64 hP5 fun R h H => ⟨_, rfl, ?_, H⟩⟩
        have hP5' := Ar.congr (fun j _ => kind_step wf.nd hxT j) (.of fun R h H => H : HP.ent (Ar 147 b5 (arF 64 fun j => if j = x.nd.num then .int .i64 x.nd.kind else kindF (NS.take k) j)) _)
        clear H
        refine ⟨fun _ i P => ∃ m : Nat, i = m ∧ m ≤ x.nd.ents.length ∧ HP.ent P (Ar 147 b4 (arF 64 (seenE (NS.take k) (x.nd.ents.take m)))), fun _ i _ => x.nd.ents.length - i.toNat, ⟨0, rfl, Nat.zero_le _, by rw [List.take_zero]; exact hP4⟩, ?_⟩
        rintro _ _ P6 ⟨m, rfl, hm, hP6⟩
        refine ⟨fun hlt2 => ⟨by omega, fun _ => ⟨hea x hxm (by omega), fun _ => ?_⟩⟩, fun hge2 => ?_⟩
        · obtain ⟨e, he⟩ := getN (l := x.nd.ents) (k := m) (by omega)
          have hem := List.mem_of_getElem? he
          obtain ⟨t64, t0, tn⟩ := tgt64 _ hxmT e hem
          have hefew := hg.efew
          have hel : e.1.length ≤ 100000 := by
            have := tn
            simp [nameOk] at this
            omega
          refine ⟨e.1, e.2, loadEnt hxm he, fun q => ⟨fun f => f = false, ?_, ?_⟩⟩
          · refine (name03_ok e.1 hel).weak (fun _ _ h => h) ?_
            rintro v R h rfl
            have lastF : decide ((63 : Int) < (e.2 : Int)) = false := by rw [decide_eq_false]; omega
            refine ⟨nameOk e.1, rfl, ⟨fun h => absurd tn h, fun _ => ⟨fun h0 => ⟨inI64' _ (by omega) (by omega), fun _ => ⟨by omega, fun _ => ⟨by omega, fun _ => ?_⟩⟩⟩, fun _ => ⟨fun h => absurd h (by omega), fun _ => lastF⟩⟩⟩, trivial⟩
            obtain ⟨p, hp⟩ := getN (l := x.nd.ents) (k := m - 1) (by omega)
            have e1 : ((m : Int) - 1).toNat = m - 1 := by omega
            rw [e1]
            refine ⟨p.1, loadE1 hxm hp undStr (by kernel_rfl) (by kernel_rfl) rfl, _, geqStr (by decide) (by kernel_rfl), ?_⟩
            have hs : p.1 < e.1 := by
              have := List.pairwise_iff_getElem.1 hg.sort (m - 1) m (by rw [List.length_map]; omega) (by rw [List.length_map]; omega) (by omega)
              rw [List.getElem_map, List.getElem_map] at this
              have g1 : x.nd.ents[m - 1]'(by omega) = p := by rw [List.getElem?_eq_getElem (by omega)] at hp; exact Option.some.inj hp
              have g2 : x.nd.ents[m]'(by omega) = e := by rw [List.getElem?_eq_getElem (by omega)] at he; exact Option.some.inj he
              rw [g1, g2] at this
              exact this
            refine ⟨fun h => ?_, fun _ => ⟨fun h => absurd h (by omega), fun _ => lastF⟩⟩
            rw [decide_eq_true hs] at h
            cases h
          · intro f hf
            replace hf : f = false := hf
            subst hf
            refine ⟨fun h => Bool.noConfusion h, fun _ => ?_⟩
            have hsl := seen_le hxT m e.2
            obtain ⟨y, hy⟩ := Option.isSome_iff_exists.1 (wf.tgt _ hxmT e hem)
            have hcy := wf.cnt' hy t0
            have hly := (wf.at' hy).1.lfew
            refine ⟨.pointer (some ⟨b4, e.2, none⟩), ixI rfl t64, ((refs (NS.take k) e.2 + cntE (x.nd.ents.take m) e.2 : Nat) : Int), ldI t64 hP6, ⟨inI64' _ (by omega) (by omega), fun _ => ⟨.pointer (some ⟨b4, e.2, none⟩), ixI rfl t64, stI _ t64 hP6 fun R h H => ⟨_, rfl, ⟨inI64' _ (by omega) (by omega), fun _ => ⟨⟨m + 1, by omega, by omega, Ar.congr (fun j _ => seenE_step _ he j) (.of fun _ _ h => h)⟩, by dsimp only; omega⟩⟩, H⟩⟩⟩⟩
        · obtain rfl : m = x.nd.ents.length := by omega
          exact ⟨inI64' _ (by omega) (by omega), fun _ => ⟨⟨k + 1, by omega, by omega, hP5', Ar.congr (fun j _ => seen_step NS hxT j) hP6⟩, by dsimp only; omega⟩⟩
      · exfalso
        rcases hkd with ⟨h1, _⟩ | ⟨h1, _⟩
        · exact h h1
        · exact k2 h1
      · exfalso
        rcases hkd with ⟨_, _, h1⟩ | ⟨h1, _⟩
        · exact h h1
        · exact k2 h1
      · exfalso
        rcases hkd with ⟨_, h1, _⟩ | ⟨h1, _⟩
        · rw [h1] at h; simp at h
        · exact k2 h1
      · skip
        refine ⟨.pointer (some ⟨b5, x.nd.num, none⟩), ixI rfl hn64, stI x.nd.kind hn64 hP5 fun R h H => ⟨_, rfl, ?_, H⟩⟩
        have hP5' := Ar.congr (fun j _ => kind_step wf.nd hxT j) (.of fun R h H => H : HP.ent (Ar 147 b5 (arF 64 fun j => if j = x.nd.num then .int .i64 x.nd.kind else kindF (NS.take k) j)) _)
        clear H
        refine ⟨fun _ i P => ∃ m : Nat, i = m ∧ m ≤ x.nd.ents.length ∧ HP.ent P (Ar 147 b4 (arF 64 (seenE (NS.take k) (x.nd.ents.take m)))), fun _ i _ => x.nd.ents.length - i.toNat, ⟨0, rfl, Nat.zero_le _, by rw [List.take_zero]; exact hP4⟩, ?_⟩
        rintro _ _ P6 ⟨m, rfl, hm, hP6⟩
        refine ⟨fun hlt2 => ⟨by omega, fun _ => ⟨hea x hxm (by omega), fun _ => ?_⟩⟩, fun hge2 => ?_⟩
        · obtain ⟨e, he⟩ := getN (l := x.nd.ents) (k := m) (by omega)
          have hem := List.mem_of_getElem? he
          obtain ⟨t64, t0, tn⟩ := tgt64 _ hxmT e hem
          have hefew := hg.efew
          have hel : e.1.length ≤ 100000 := by
            have := tn
            simp [nameOk] at this
            omega
          refine ⟨e.1, e.2, loadEnt hxm he, fun q => ⟨fun f => f = false, ?_, ?_⟩⟩
          · refine (name03_ok e.1 hel).weak (fun _ _ h => h) ?_
            rintro v R h rfl
            have lastF : decide ((63 : Int) < (e.2 : Int)) = false := by rw [decide_eq_false]; omega
            refine ⟨nameOk e.1, rfl, ⟨fun h => absurd tn h, fun _ => ⟨fun h0 => ⟨inI64' _ (by omega) (by omega), fun _ => ⟨by omega, fun _ => ⟨by omega, fun _ => ?_⟩⟩⟩, fun _ => ⟨fun h => absurd h (by omega), fun _ => lastF⟩⟩⟩, trivial⟩
            obtain ⟨p, hp⟩ := getN (l := x.nd.ents) (k := m - 1) (by omega)
            have e1 : ((m : Int) - 1).toNat = m - 1 := by omega
            rw [e1]
            refine ⟨p.1, loadE1 hxm hp undStr (by kernel_rfl) (by kernel_rfl) rfl, _, geqStr (by decide) (by kernel_rfl), ?_⟩
            have hs : p.1 < e.1 := by
              have := List.pairwise_iff_getElem.1 hg.sort (m - 1) m (by rw [List.length_map]; omega) (by rw [List.length_map]; omega) (by omega)
              rw [List.getElem_map, List.getElem_map] at this
              have g1 : x.nd.ents[m - 1]'(by omega) = p := by rw [List.getElem?_eq_getElem (by omega)] at hp; exact Option.some.inj hp
              have g2 : x.nd.ents[m]'(by omega) = e := by rw [List.getElem?_eq_getElem (by omega)] at he; exact Option.some.inj he
              rw [g1, g2] at this
              exact this
            refine ⟨fun h => ?_, fun _ => ⟨fun h => absurd h (by omega), fun _ => lastF⟩⟩
            rw [decide_eq_true hs] at h
            cases h
          · intro f hf
            replace hf : f = false := hf
            subst hf
            refine ⟨fun h => Bool.noConfusion h, fun _ => ?_⟩
            have hsl := seen_le hxT m e.2
            obtain ⟨y, hy⟩ := Option.isSome_iff_exists.1 (wf.tgt _ hxmT e hem)
            have hcy := wf.cnt' hy t0
            have hly := (wf.at' hy).1.lfew
            refine ⟨.pointer (some ⟨b4, e.2, none⟩), ixI rfl t64, ((refs (NS.take k) e.2 + cntE (x.nd.ents.take m) e.2 : Nat) : Int), ldI t64 hP6, ⟨inI64' _ (by omega) (by omega), fun _ => ⟨.pointer (some ⟨b4, e.2, none⟩), ixI rfl t64, stI _ t64 hP6 fun R h H => ⟨_, rfl, ⟨inI64' _ (by omega) (by omega), fun _ => ⟨⟨m + 1, by omega, by omega, Ar.congr (fun j _ => seenE_step _ he j) (.of fun _ _ h => h)⟩, by dsimp only; omega⟩⟩, H⟩⟩⟩⟩
        · obtain rfl : m = x.nd.ents.length := by omega
          exact ⟨inI64' _ (by omega) (by omega), fun _ => ⟨⟨k + 1, by omega, by omega, hP5', Ar.congr (fun j _ => seen_step NS hxT j) hP6⟩, by dsimp only; omega⟩⟩
  · obtain rfl : k = n := by omega
    rw [List.take_of_length_le (by omega)] at hP5 hP4
    obtain ⟨r, r1, r2⟩ := wf.root
    have hk0 : kindF NS 0 = .int .i64 1 := by unfold kindF; rw [r1, Option.map_some, Option.getD_some, r2]
    have l0 := ldI (k := 0) (by omega) hP5
    rw [hk0] at l0
    refine ⟨1, l0, fun h => absurd rfl h, fun _ => ?_⟩
    refine ⟨fun _ i => ∃ m : Nat, i = m ∧ m ≤ k, fun _ i => k - i.toNat, ⟨0, rfl, Nat.zero_le _⟩, ?_⟩
    rintro _ _ ⟨m, rfl, hm⟩
    refine ⟨fun hlt => ⟨fun f => f = false, ⟨by omega, fun _ => ⟨ha (by omega), fun _ => ?_⟩⟩, ?_⟩, fun hge1 => ?_⟩
    · obtain ⟨x, hx, hxm, hxT, hg, hxmT⟩ := ex m (by omega)
      have hn64 := hg.num
      refine ⟨x.nd.num, loadNd hx undInt (by kernel_rfl) (by kernel_rfl) rfl, fun hpos => ⟨x.nd.num, loadNd hx undInt (by kernel_rfl) (by kernel_rfl) rfl, .pointer (some ⟨b4, x.nd.num, none⟩), ixI rfl hn64, refs NS x.nd.num, ldI hn64 hP4, x.nd.links, loadNd hx undInt (by kernel_rfl) (by kernel_rfl) rfl, ?_⟩, fun _ => rfl⟩
      show (!decide ((refs NS x.nd.num : Int) = x.nd.links)) = false
      rw [decide_eq_true (wf.cnt _ hxmT (by omega))]
      rfl
    · intro f hf
      replace hf : f = false := hf
      subst hf
      exact ⟨fun h => Bool.noConfusion h, fun _ => ⟨inI64' _ (by omega) (by omega), fun _ => ⟨⟨m + 1, by omega, by omega⟩, by dsimp only; omega⟩⟩⟩
    refine ⟨fun _ i => ∃ m : Nat, i = m ∧ m ≤ 64, fun _ i => 64 - i.toNat, ⟨0, rfl, Nat.zero_le _⟩, ?_⟩
    rintro _ _ ⟨m, rfl, hm⟩
    refine ⟨fun hlt => ?_, fun hge2 => ?_⟩
    · have hm64 : m < 64 := by omega
      refine ⟨.pointer (some ⟨b4, m, none⟩), ixI rfl hm64, refs NS m, ldI hm64 hP4, fun hpos => ⟨.pointer (some ⟨b5, m, none⟩), ixI rfl hm64, ((nodeAt NS m).map fun z : Nd => z.kind).getD 0, ldI hm64 hP5, fun h => ?_, fun _ => ⟨inI64' _ (by omega) (by omega), fun _ => ⟨⟨m + 1, by omega, by omega⟩, by dsimp only; omega⟩⟩⟩, fun _ => ⟨inI64' _ (by omega) (by omega), fun _ => ⟨⟨m + 1, by omega, by omega⟩, by dsimp only; omega⟩⟩⟩
      exfalso
      have : ∃ x ∈ NS, ∃ e ∈ x.ents, e.2 = m := Classical.byContradiction fun hno => by
        have := refs_zero (T := NS) (k := m) fun x hx e he h => hno ⟨x, hx, e, he, h⟩
        omega
      obtain ⟨x, hx, e, he, rfl⟩ := this
      obtain ⟨y, hy⟩ := Option.isSome_iff_exists.1 (wf.tgt x hx e he)
      rw [hy, Option.map_some, Option.getD_some] at h
      rcases (wf.at' hy).1.kind with ⟨h1, _⟩ | ⟨h1, _⟩ <;> omega
    intro b6
    refine ⟨fun i P => ∃ r : Nat, i = r ∧ r ≤ k ∧ ∃ f : Nat → Bool, HP.ent P (Ar 149 b6 (arF 64 (boolF f))) ∧ ∀ j, Dn NS r j → f j = true, fun i _ => k - i.toNat, ⟨0, rfl, Nat.zero_le _, fun j => j == 0, .of fun _ _ h => h, fun j ⟨l, h1, h2⟩ => by obtain rfl := List.length_eq_zero_iff.1 (Nat.le_zero.1 h1); cases h2; rfl⟩, ?_⟩
    rintro _ P7 ⟨r, rfl, hrk, f7, hP7, hf7⟩
    refine ⟨fun hlt => ?_, fun hge3 => ?_⟩
    · refine ⟨fun i P => ∃ m : Nat, i = m ∧ m ≤ k ∧ ∃ f : Nat → Bool, HP.ent P (Ar 149 b6 (arF 64 (boolF f))) ∧ (∀ j, Dn NS r j → f j = true) ∧ ∀ i', i' < m → ∀ x, NS[i']? = some x → Dn NS r x.num → ∀ e ∈ x.ents, f e.2 = true, fun i _ => k - i.toNat, ⟨0, rfl, Nat.zero_le _, f7, hP7, hf7, fun i' h => absurd h (by omega)⟩, ?_⟩
      rintro _ P8 ⟨m, rfl, hm, f8, hP8, hf8, hg8⟩
      refine ⟨fun hlt2 => ?_, fun hge4 => ⟨inI64' _ (by omega) (by omega), fun _ => ⟨⟨r + 1, by omega, by omega, f8, hP8, fun j hj => ?_⟩, by dsimp only; omega⟩⟩⟩
      · obtain ⟨x, hx, hxm, hxT, hg, hxmT⟩ := ex m (by omega)
        have hn64 := hg.num
        have hefew := hg.efew
        refine ⟨fun i P => ∃ u : Nat, i = u ∧ u ≤ x.nd.ents.length ∧ ∃ f : Nat → Bool, HP.ent P (Ar 149 b6 (arF 64 (boolF f))) ∧ (∀ j, Dn NS r j → f j = true) ∧ (∀ i', i' < m → ∀ x, NS[i']? = some x → Dn NS r x.num → ∀ e ∈ x.ents, f e.2 = true) ∧ (Dn NS r x.nd.num → ∀ e ∈ x.nd.ents.take u, f e.2 = true), fun i _ => x.nd.ents.length - i.toNat, ⟨0, rfl, Nat.zero_le _, f8, hP8, hf8, hg8, fun _ e he => by simp at he⟩, ?_⟩
        rintro _ P9 ⟨u, rfl, hu, f9, hP9, hf9, hg9, hh9⟩
        refine ⟨by omega, fun _ => ⟨ha (by omega), fun _ => ⟨x.ea, x.nd.ents.length, x.ec, loadNd hx undEs' (by kernel_rfl) (by kernel_rfl) rfl, fun hlt3 => ⟨x.nd.num, loadNd hx undInt (by kernel_rfl) (by kernel_rfl) rfl, .pointer (some ⟨b6, x.nd.num, none⟩), ixB rfl hn64, f9 x.nd.num, ldB hn64 hP9, fun hrc => ?_, fun hrc => ?_⟩, fun hge5 => ?_⟩⟩⟩
        · obtain ⟨e, he⟩ := getN (l := x.nd.ents) (k := u) (by omega)
          have hem := List.mem_of_getElem? he
          obtain ⟨t64, t0, tn⟩ := tgt64 _ hxmT e hem
          refine ⟨x.ea, x.nd.ents.length, x.ec, loadNd hx undEs' (by kernel_rfl) (by kernel_rfl) rfl, by omega, fun _ => ⟨by omega, fun _ => ⟨hea x hxm (by omega), fun _ => ⟨e.2, loadE1 hxm he undInt (by kernel_rfl) (by kernel_rfl) rfl, .pointer (some ⟨b6, e.2, none⟩), ixB rfl t64, stB true t64 hP9 fun R h H => ⟨_, rfl, ⟨inI64' _ (by omega) (by omega), fun _ => ⟨⟨u + 1, by omega, by omega, fun j => if j = e.2 then true else f9 j, Ar.congr (fun j _ => ?_) (.of fun _ _ h => h), fun j hj => ?_, fun i' hi' x' hx' hd' e' he' => ?_, fun hd' e' he' => ?_⟩, by dsimp only; omega⟩⟩, H⟩⟩⟩⟩⟩
          · show (if j = e.2 then Value.bool true else Value.bool (f9 j)) = Value.bool (if j = e.2 then true else f9 j)
            split <;> rfl
          · dsimp only; rw [hf9 j hj]; split <;> rfl
          · dsimp only; rw [hg9 i' hi' x' hx' hd' e' he']; split <;> rfl
          · dsimp only
            rw [List.take_add_one, he, List.mem_append] at he'
            rcases he' with he' | he'
            · rw [hh9 hd' e' he']; split <;> rfl
            · simp at he'; rw [he', if_pos rfl]
        · exact ⟨inI64' _ (by omega) (by omega), fun _ => ⟨⟨u + 1, by omega, by omega, f9, hP9, hf9, hg9, fun hd => absurd (hf9 _ hd) hrc⟩, by dsimp only; omega⟩⟩
        · obtain rfl : u = x.nd.ents.length := by omega
          rw [List.take_length] at hh9
          refine ⟨inI64' _ (by omega) (by omega), fun _ => ⟨⟨m + 1, by omega, by omega, f9, hP9, hf9, fun i' hi' x' hx' hd' => ?_⟩, by dsimp only; omega⟩⟩
          rcases Nat.lt_or_eq_of_le (Nat.le_of_lt_succ hi') with h | h
          · exact hg9 i' h x' hx' hd'
          · subst h
            rw [hxT] at hx'; cases hx'
            exact hh9 hd'
      · rcases hj.step with h | ⟨x, hx, hd, e, he, rfl⟩
        · exact hf8 j h
        · obtain ⟨i, hi⟩ := List.mem_iff_getElem?.1 hx
          have := (List.getElem?_eq_some_iff.1 hi).1
          exact hg8 i (by omega) x hi hd e he
    · obtain rfl : r = k := by omega
      refine ⟨fun _ i => ∃ m : Nat, i = m ∧ m ≤ r, fun _ i => r - i.toNat, ⟨0, rfl, Nat.zero_le _⟩, ?_⟩
      rintro _ _ ⟨m, rfl, hm⟩
      refine ⟨fun hlt => ⟨by omega, fun _ => ⟨ha (by omega), fun _ => ?_⟩⟩, fun _ => .of fun R h H => ⟨trivial, H⟩⟩
      obtain ⟨x, hx, hxm, hxT, hg, hxmT⟩ := ex m (by omega)
      have hn64 := hg.num
      have hd := Reach.dn wf hr x.nd hxmT
      rw [hTl] at hd
      exact ⟨x.nd.num, loadNd hx undInt (by kernel_rfl) (by kernel_rfl) rfl, .pointer (some ⟨b6, x.nd.num, none⟩), ixB rfl hn64, f7 x.nd.num, ldB hn64 hP7, fun h => absurd (hf7 _ hd) h, fun _ => ⟨inI64' _ (by omega) (by omega), fun _ => ⟨⟨m + 1, by omega, by omega⟩, by dsimp only; omega⟩⟩⟩
end Go.Proofs.YtdieogcemmnaaaaGreatDoor

/- Trees of functions, printed by rx.lean. No condition. -/
namespace Go.Proofs.YtdieogcemmnaaaaGreatDoor.RX
set_option maxRecDepth 100000
-- tideline/tidelineref04.New: ρ := []
def t_rNew : T :=
(.new
(.ret (.w (.a (.ptr (.v 0) 0))) [((.b (.v 0)), (.cells [(.int .i64 (.i 0)), (.int .i64 (.i 1)), (.int .i64 (.i 1)), (.sl .nil (.n 0) (.n 0)), (.sl .nil (.n 0) (.n 0)), (.int .i64 (.i 0)), (.int .i64 (.i 0)), (.int .i64 (.i 0)), (.sl .nil (.n 0) (.n 0)), (.sl .nil (.n 0) (.n 0)), (.int .i64 (.i 0)), (.int .i64 (.i 0)), (.int .i64 (.i 0)), (.sl .nil (.n 0) (.n 0)), (.sl .nil (.n 0) (.n 0)), (.int .i64 (.i 0)), (.int .i64 (.i 0)), (.int .i64 (.i 0)), (.sl .nil (.n 0) (.n 0)), (.sl .nil (.n 0) (.n 0)), (.int .i64 (.i 0)), (.int .i64 (.i 0)), (.int .i64 (.i 0)), (.sl .nil (.n 0) (.n 0)), (.sl .nil (.n 0) (.n 0)), (.int .i64 (.i 0)), (.int .i64 (.i 0)), (.int .i64 (.i 0)), (.sl .nil (.n 0) (.n 0)), (.sl .nil (.n 0) (.n 0)), (.int .i64 (.i 0)), (.int .i64 (.i 0)), (.int .i64 (.i 0)), (.sl .nil (.n 0) (.n 0)), (.sl .nil (.n 0) (.n 0)), (.int .i64 (.i 0)), (.int .i64 (.i 0)), (.int .i64 (.i 0)), (.sl .nil (.n 0) (.n 0)), (.sl .nil (.n 0) (.n 0)), (.int .i64 (.i 0)), (.int .i64 (.i 0)), (.int .i64 (.i 0)), (.sl .nil (.n 0) (.n 0)), (.sl .nil (.n 0) (.n 0)), (.int .i64 (.i 0)), (.int .i64 (.i 0)), (.int .i64 (.i 0)), (.sl .nil (.n 0) (.n 0)), (.sl .nil (.n 0) (.n 0)), (.int .i64 (.i 0)), (.int .i64 (.i 0)), (.int .i64 (.i 0)), (.sl .nil (.n 0) (.n 0)), (.sl .nil (.n 0) (.n 0)), (.int .i64 (.i 0)), (.int .i64 (.i 0)), (.int .i64 (.i 0)), (.sl .nil (.n 0) (.n 0)), (.sl .nil (.n 0) (.n 0)), (.int .i64 (.i 0)), (.int .i64 (.i 0)), (.int .i64 (.i 0)), (.sl .nil (.n 0) (.n 0)), (.sl .nil (.n 0) (.n 0)), (.int .i64 (.i 0)), (.int .i64 (.i 0)), (.int .i64 (.i 0)), (.sl .nil (.n 0) (.n 0)), (.sl .nil (.n 0) (.n 0)), (.int .i64 (.i 0)), (.int .i64 (.i 0)), (.int .i64 (.i 0)), (.sl .nil (.n 0) (.n 0)), (.sl .nil (.n 0) (.n 0)), (.int .i64 (.i 0)), (.int .i64 (.i 0)), (.int .i64 (.i 0)), (.sl .nil (.n 0) (.n 0)), (.sl .nil (.n 0) (.n 0)), (.int .i64 (.i 0)), (.int .i64 (.i 0)), (.int .i64 (.i 0)), (.sl .nil (.n 0) (.n 0)), (.sl .nil (.n 0) (.n 0)), (.int .i64 (.i 0)), (.int .i64 (.i 0)), (.int .i64 (.i 0)), (.sl .nil (.n 0) (.n 0)), (.sl .nil (.n 0) (.n 0)), (.int .i64 (.i 0)), (.int .i64 (.i 0)), (.int .i64 (.i 0)), (.sl .nil (.n 0) (.n 0)), (.sl .nil (.n 0) (.n 0)), (.int .i64 (.i 0)), (.int .i64 (.i 0)), (.int .i64 (.i 0)), (.sl .nil (.n 0) (.n 0)), (.sl .nil (.n 0) (.n 0)), (.int .i64 (.i 0)), (.int .i64 (.i 0)), (.int .i64 (.i 0)), (.sl .nil (.n 0) (.n 0)), (.sl .nil (.n 0) (.n 0)), (.int .i64 (.i 0)), (.int .i64 (.i 0)), (.int .i64 (.i 0)), (.sl .nil (.n 0) (.n 0)), (.sl .nil (.n 0) (.n 0)), (.int .i64 (.i 0)), (.int .i64 (.i 0)), (.int .i64 (.i 0)), (.sl .nil (.n 0) (.n 0)), (.sl .nil (.n 0) (.n 0)), (.int .i64 (.i 0)), (.int .i64 (.i 0)), (.int .i64 (.i 0)), (.sl .nil (.n 0) (.n 0)), (.sl .nil (.n 0) (.n 0)), (.int .i64 (.i 0)), (.int .i64 (.i 0)), (.int .i64 (.i 0)), (.sl .nil (.n 0) (.n 0)), (.sl .nil (.n 0) (.n 0)), (.int .i64 (.i 0)), (.int .i64 (.i 0)), (.int .i64 (.i 0)), (.sl .nil (.n 0) (.n 0)), (.sl .nil (.n 0) (.n 0)), (.int .i64 (.i 0)), (.int .i64 (.i 0)), (.int .i64 (.i 0)), (.sl .nil (.n 0) (.n 0)), (.sl .nil (.n 0) (.n 0)), (.int .i64 (.i 0)), (.int .i64 (.i 0)), (.int .i64 (.i 0)), (.sl .nil (.n 0) (.n 0)), (.sl .nil (.n 0) (.n 0)), (.int .i64 (.i 0)), (.int .i64 (.i 0)), (.int .i64 (.i 0)), (.sl .nil (.n 0) (.n 0)), (.sl .nil (.n 0) (.n 0)), (.int .i64 (.i 0)), (.int .i64 (.i 0)), (.int .i64 (.i 0)), (.sl .nil (.n 0) (.n 0)), (.sl .nil (.n 0) (.n 0)), (.int .i64 (.i 0)), (.int .i64 (.i 0)), (.int .i64 (.i 0)), (.sl .nil (.n 0) (.n 0)), (.sl .nil (.n 0) (.n 0)), (.int .i64 (.i 0)), (.int .i64 (.i 0)), (.int .i64 (.i 0)), (.sl .nil (.n 0) (.n 0)), (.sl .nil (.n 0) (.n 0)), (.int .i64 (.i 0)), (.int .i64 (.i 0)), (.int .i64 (.i 0)), (.sl .nil (.n 0) (.n 0)), (.sl .nil (.n 0) (.n 0)), (.int .i64 (.i 0)), (.int .i64 (.i 0)), (.int .i64 (.i 0)), (.sl .nil (.n 0) (.n 0)), (.sl .nil (.n 0) (.n 0)), (.int .i64 (.i 0)), (.int .i64 (.i 0)), (.int .i64 (.i 0)), (.sl .nil (.n 0) (.n 0)), (.sl .nil (.n 0) (.n 0)), (.int .i64 (.i 0)), (.int .i64 (.i 0)), (.int .i64 (.i 0)), (.sl .nil (.n 0) (.n 0)), (.sl .nil (.n 0) (.n 0)), (.int .i64 (.i 0)), (.int .i64 (.i 0)), (.int .i64 (.i 0)), (.sl .nil (.n 0) (.n 0)), (.sl .nil (.n 0) (.n 0)), (.int .i64 (.i 0)), (.int .i64 (.i 0)), (.int .i64 (.i 0)), (.sl .nil (.n 0) (.n 0)), (.sl .nil (.n 0) (.n 0)), (.int .i64 (.i 0)), (.int .i64 (.i 0)), (.int .i64 (.i 0)), (.sl .nil (.n 0) (.n 0)), (.sl .nil (.n 0) (.n 0)), (.int .i64 (.i 0)), (.int .i64 (.i 0)), (.int .i64 (.i 0)), (.sl .nil (.n 0) (.n 0)), (.sl .nil (.n 0) (.n 0)), (.int .i64 (.i 0)), (.int .i64 (.i 0)), (.int .i64 (.i 0)), (.sl .nil (.n 0) (.n 0)), (.sl .nil (.n 0) (.n 0)), (.int .i64 (.i 0)), (.int .i64 (.i 0)), (.int .i64 (.i 0)), (.sl .nil (.n 0) (.n 0)), (.sl .nil (.n 0) (.n 0)), (.int .i64 (.i 0)), (.int .i64 (.i 0)), (.int .i64 (.i 0)), (.sl .nil (.n 0) (.n 0)), (.sl .nil (.n 0) (.n 0)), (.int .i64 (.i 0)), (.int .i64 (.i 0)), (.int .i64 (.i 0)), (.sl .nil (.n 0) (.n 0)), (.sl .nil (.n 0) (.n 0)), (.int .i64 (.i 0)), (.int .i64 (.i 0)), (.int .i64 (.i 0)), (.sl .nil (.n 0) (.n 0)), (.sl .nil (.n 0) (.n 0)), (.int .i64 (.i 0)), (.int .i64 (.i 0)), (.int .i64 (.i 0)), (.sl .nil (.n 0) (.n 0)), (.sl .nil (.n 0) (.n 0)), (.int .i64 (.i 0)), (.int .i64 (.i 0)), (.int .i64 (.i 0)), (.sl .nil (.n 0) (.n 0)), (.sl .nil (.n 0) (.n 0)), (.int .i64 (.i 0)), (.int .i64 (.i 0)), (.int .i64 (.i 0)), (.sl .nil (.n 0) (.n 0)), (.sl .nil (.n 0) (.n 0)), (.int .i64 (.i 0)), (.int .i64 (.i 0)), (.int .i64 (.i 0)), (.sl .nil (.n 0) (.n 0)), (.sl .nil (.n 0) (.n 0)), (.int .i64 (.i 0)), (.int .i64 (.i 0)), (.int .i64 (.i 0)), (.sl .nil (.n 0) (.n 0)), (.sl .nil (.n 0) (.n 0)), (.int .i64 (.i 0)), (.int .i64 (.i 0)), (.int .i64 (.i 0)), (.sl .nil (.n 0) (.n 0)), (.sl .nil (.n 0) (.n 0)), (.int .i64 (.i 0)), (.int .i64 (.i 0)), (.int .i64 (.i 0)), (.sl .nil (.n 0) (.n 0)), (.sl .nil (.n 0) (.n 0)), (.int .i64 (.i 0)), (.int .i64 (.i 0)), (.int .i64 (.i 0)), (.sl .nil (.n 0) (.n 0)), (.sl .nil (.n 0) (.n 0)), (.int .i64 (.i 0)), (.int .i64 (.i 0)), (.int .i64 (.i 0)), (.sl .nil (.n 0) (.n 0)), (.sl .nil (.n 0) (.n 0)), (.int .i64 (.i 0)), (.int .i64 (.i 0)), (.int .i64 (.i 0)), (.sl .nil (.n 0) (.n 0)), (.sl .nil (.n 0) (.n 0)), (.int .i64 (.i 0)), (.int .i64 (.i 0)), (.int .i64 (.i 0)), (.sl .nil (.n 0) (.n 0)), (.sl .nil (.n 0) (.n 0)), (.int .i64 (.i 0)), (.int .i64 (.i 0)), (.int .i64 (.i 0)), (.sl .nil (.n 0) (.n 0)), (.sl .nil (.n 0) (.n 0)), (.int .i64 (.i 0)), (.int .i64 (.i 0)), (.int .i64 (.i 0)), (.sl .nil (.n 0) (.n 0)), (.sl .nil (.n 0) (.n 0)), (.int .i64 (.i 0)), (.int .i64 (.i 0)), (.int .i64 (.i 0)), (.sl .nil (.n 0) (.n 0)), (.sl .nil (.n 0) (.n 0)), (.int .i64 (.i 0)), (.int .i64 (.i 0)), (.int .i64 (.i 0)), (.sl .nil (.n 0) (.n 0)), (.sl .nil (.n 0) (.n 0)), (.int .i64 (.i 0)), (.int .i64 (.i 0)), (.int .i64 (.i 0)), (.sl .nil (.n 0) (.n 0)), (.sl .nil (.n 0) (.n 0)), (.int .i64 (.i 0)), (.int .i64 (.i 0)), (.int .i64 (.i 0)), (.sl .nil (.n 0) (.n 0)), (.sl .nil (.n 0) (.n 0)), (.int .i64 (.i 0)), (.int .i64 (.i 0)), (.int .i64 (.i 0)), (.sl .nil (.n 0) (.n 0)), (.sl .nil (.n 0) (.n 0)), (.int .i64 (.i 0)), (.int .i64 (.i 0)), (.int .i64 (.i 0)), (.sl .nil (.n 0) (.n 0)), (.sl .nil (.n 0) (.n 0))] 144))]))
theorem tree_rNew : tree Tryz.prog { absT := [142, 144], opq := [], hv := [], keep := [30, 76, 78, 144, 198, 196, 142, 139, 24, 145], link := [], ent := [], turn := [], shr := [], vt := [], mkd := [], rlink := [], pty := [], outl := false, stay := [], snk := [], opn := true, rdf := true } Tryz.f22 [] [] 0 = t_rNew := by kernel_rfl
-- (*tideline/tidelineref04.Tree).Entry: ρ := [.n t, .p tP, .i at, .s name]
def t_rEntry : T :=
(.read (.indexAddr 142 (.tmp 12) (.tmp 10)) 0 [(12, (.w (.a (.ptr (.v 0) 0)))), (10, (.w (.a (.int .i64 (.v 2)))))] [((.b (.v 0)), (.prop 1))] [.v] (.w (.a (.val 4)))
(.read (.fieldAddr 43 (.tmp 13) 4) 0 [(13, (.w (.a (.val 4))))] [((.b (.v 0)), (.prop 1))] [.v] (.w (.a (.val 5)))
(.read (.load 41 (.tmp 14)) 41 [(14, (.w (.a (.val 5))))] [((.b (.v 0)), (.prop 1))] [.a, .n, .n] (.w (.a (.sl (.v 6) (.v 7) (.v 8))))
(.loop [.i, .i] [(.e (.o1 .neg (.o1 .neg (.i 0)))), (.e (.o1 .neg (.o1 .neg (.i 0))))]
 (.br (.o2 .lt (.v 10) (.o1 .ofNat (.v 7)))
  (.need (.o2 .le (.i 0) (.v 10))
  (.need (.o1 .isSome (.v 6))
  (.read (.load 9 (.tmp 25)) 9 [(25, (.w (.a (.eptr 6 (.v 10) 2 0))))] [((.b (.v 0)), (.prop 1))] [.s] (.w (.a (.str (.v 11))))
  (.br (.o2 .seq (.v 11) (.v 3))
   (.read (.load 3 (.tmp 32)) 3 [(32, (.w (.a (.eptr 6 (.v 10) 2 1))))] [((.b (.v 0)), (.prop 1))] [.i] (.w (.a (.int .i64 (.v 12))))
   (.ret (.w (.a (.int .i64 (.v 12)))) [((.b (.v 0)), (.prop 1))]))
   (.need (.o1 (.inr .i64) (.o2 .add (.v 10) (.i 1)))
   (.again 0 [(.e (.o1 .neg (.o1 .neg (.v 9)))), (.e (.o1 .neg (.o1 .neg (.o2 .add (.v 10) (.i 1)))))]))))))
  (.ret (.w (.a (.int .i64 (.i (-1))))) [((.b (.v 0)), (.prop 1))]))))))
theorem tree_rEntry : tree Tryz.prog { absT := [142, 144], opq := [], hv := [], keep := [30, 76, 78, 144, 198, 196, 142, 139, 24, 145], link := [], ent := [], turn := [], shr := [], vt := [], mkd := [], rlink := [], pty := [], outl := false, stay := [], snk := [], opn := true, rdf := true } Tryz.f196 [(.a (.ptr (.v 0) 0)), (.a (.int .i64 (.v 2))), (.a (.str (.v 3)))] [((.b (.v 0)), (.prop 1))] 4 = t_rEntry := by kernel_rfl
-- (*tideline/tidelineref04.Tree).Find: ρ := [.n t, .p tP, .s s]
def t_rFind : T :=
(.call 197 [(.a (.str (.v 2)))] [] [.a, .n, .n, .p, .c] (.tup [(.a (.sl (.v 3) (.v 4) (.v 5))), (.a (.bool (.v 7)))]) [((.a 3), (.prop 6))]
(.br (.o1 .not (.v 7))
 (.ret (.tup [(.a (.int .i64 (.i 0))), (.a (.int .i64 (.i 20)))]) [((.b (.v 0)), (.prop 1))])
 (.loop [.i, .i, .i, .i] [(.e (.o1 .neg (.o1 .neg (.i 0)))), (.e (.o1 .neg (.o1 .neg (.i 0)))), (.e (.o1 .neg (.o1 .neg (.i 0)))), (.e (.o1 .neg (.o1 .neg (.i 0))))]
  (.br (.o2 .lt (.v 11) (.o1 .ofNat (.v 4)))
   (.read (.indexAddr 142 (.tmp 26) (.tmp 24)) 0 [(26, (.w (.a (.ptr (.v 0) 0)))), (24, (.w (.a (.int .i64 (.v 10)))))] [((.b (.v 0)), (.prop 1))] [.v] (.w (.a (.val 12)))
   (.read (.fieldAddr 43 (.tmp 27) 1) 0 [(27, (.w (.a (.val 12))))] [((.b (.v 0)), (.prop 1))] [.v] (.w (.a (.val 13)))
   (.read (.load 3 (.tmp 28)) 3 [(28, (.w (.a (.val 13))))] [((.b (.v 0)), (.prop 1))] [.i] (.w (.a (.int .i64 (.v 14))))
   (.br (.o1 .not (.o2 .eq (.v 14) (.i 1)))
    (.ret (.tup [(.a (.int .i64 (.i 0))), (.a (.int .i64 (.i 23)))]) [((.b (.v 0)), (.prop 1))])
    (.need (.o2 .le (.i 0) (.v 11))
    (.need (.o1 .isSome (.v 3))
    (.read (.load 9 (.tmp 35)) 9 [(35, (.w (.a (.eptr 3 (.v 11) 1 0))))] [((.a 3), (.prop 6))] [.s] (.w (.a (.str (.v 15))))
    (.call 196 [(.a (.ptr (.v 0) 0)), (.a (.int .i64 (.v 10))), (.a (.str (.v 15)))] [((.b (.v 0)), (.prop 1))] [.i] (.w (.a (.int .i64 (.v 16)))) [((.b (.v 0)), (.prop 1))]
    (.br (.o2 .lt (.v 16) (.i 0))
     (.ret (.tup [(.a (.int .i64 (.i 0))), (.a (.int .i64 (.i 21)))]) [((.b (.v 0)), (.prop 1))])
     (.need (.o1 (.inr .i64) (.o2 .add (.v 11) (.i 1)))
     (.again 0 [(.e (.o1 .neg (.o1 .neg (.v 8)))), (.e (.o1 .neg (.o1 .neg (.v 9)))), (.e (.o1 .neg (.o1 .neg (.v 16)))), (.e (.o1 .neg (.o1 .neg (.o2 .add (.v 11) (.i 1)))))])))))))))))
   (.ret (.tup [(.a (.int .i64 (.v 10))), (.a (.int .i64 (.i 0)))]) [((.b (.v 0)), (.prop 1))])))))
theorem tree_rFind : tree Tryz.prog { absT := [142, 144], opq := [], hv := [], keep := [30, 76, 78, 144, 198, 196, 142, 139, 24, 145], link := [], ent := [], turn := [], shr := [], vt := [], mkd := [], rlink := [], pty := [], outl := false, stay := [], snk := [], opn := true, rdf := true } Tryz.f142 [(.a (.ptr (.v 0) 0)), (.a (.str (.v 2)))] [((.b (.v 0)), (.prop 1))] 3 = t_rFind := by kernel_rfl
-- tideline/tidelineref04.Up: ρ := [.s s]
def t_rUp : T :=
(.call 197 [(.a (.str (.v 0)))] [] [.a, .n, .n, .p, .c] (.tup [(.a (.sl (.v 1) (.v 2) (.v 3))), (.a (.bool (.v 5)))]) [((.a 1), (.prop 4))]
(.br (.o1 .not (.v 5))
 (.ret (.tup [(.a (.str (.s []))), (.a (.str (.s []))), (.a (.int .i64 (.i 20)))]) [])
 (.br (.o2 .eq (.o1 .ofNat (.v 2)) (.i 0))
  (.ret (.tup [(.a (.str (.s []))), (.a (.str (.s []))), (.a (.int .i64 (.i 20)))]) [])
  (.need (.o1 (.inr .i64) (.o2 .sub (.o1 .ofNat (.v 2)) (.i 1)))
  (.read (.slice 29 (.tmp 23) none (some (.tmp 24)) none) 29 [(23, (.w (.a (.sl (.v 1) (.v 2) (.v 3))))), (24, (.w (.a (.int .i64 (.o2 .sub (.o1 .ofNat (.v 2)) (.i 1))))))] [((.a 1), (.prop 4))] [.a, .n, .n] (.w (.a (.sl (.v 6) (.v 7) (.v 8))))
  (.need (.o2 .le (.i 0) (.o2 .sub (.o1 .ofNat (.v 2)) (.i 1)))
  (.need (.o2 .lt (.o2 .sub (.o1 .ofNat (.v 2)) (.i 1)) (.o1 .ofNat (.v 2)))
  (.need (.o1 .isSome (.v 1))
  (.read (.load 9 (.tmp 29)) 9 [(29, (.w (.a (.eptr 1 (.o2 .sub (.o1 .ofNat (.v 2)) (.i 1)) 1 0))))] [((.a 1), (.prop 4))] [.s] (.w (.a (.str (.v 9))))
  (.call 198 [(.a (.sl (.v 6) (.v 7) (.v 8)))] [((.a 1), (.prop 4))] [.s] (.w (.a (.str (.v 10)))) [((.a 1), (.prop 4))]
  (.ret (.tup [(.a (.str (.v 10))), (.a (.str (.v 9))), (.a (.int .i64 (.i 0)))]) [])))))))))))
theorem tree_rUp : tree Tryz.prog { absT := [142, 144], opq := [], hv := [], keep := [30, 76, 78, 144, 198, 196, 142, 139, 24, 145], link := [], ent := [], turn := [], shr := [], vt := [], mkd := [], rlink := [], pty := [], outl := false, stay := [], snk := [], opn := true, rdf := true } Tryz.f141 [(.a (.str (.v 0)))] [] 1 = t_rUp := by kernel_rfl
-- (*tideline/tidelineref04.Tree).Place: ρ := [.n t, .p tP, .s s]
def t_rPlace : T :=
(.call 141 [(.a (.str (.v 2)))] [] [.s, .s, .i] (.tup [(.a (.str (.v 3))), (.a (.str (.v 4))), (.a (.int .i64 (.v 5)))]) []
(.br (.o1 .not (.o2 .eq (.v 5) (.i 0)))
 (.ret (.tup [(.a (.int .i64 (.i 0))), (.a (.str (.s []))), (.a (.int .i64 (.v 5)))]) [((.b (.v 0)), (.prop 1))])
 (.call 142 [(.a (.ptr (.v 0) 0)), (.a (.str (.v 3)))] [((.b (.v 0)), (.prop 1))] [.i, .i] (.tup [(.a (.int .i64 (.v 6))), (.a (.int .i64 (.v 7)))]) [((.b (.v 0)), (.prop 1))]
 (.br (.o1 .not (.o2 .eq (.v 7) (.i 0)))
  (.ret (.tup [(.a (.int .i64 (.i 0))), (.a (.str (.s []))), (.a (.int .i64 (.v 7)))]) [((.b (.v 0)), (.prop 1))])
  (.read (.indexAddr 142 (.tmp 32) (.tmp 30)) 0 [(32, (.w (.a (.ptr (.v 0) 0)))), (30, (.w (.a (.int .i64 (.v 6)))))] [((.b (.v 0)), (.prop 1))] [.v] (.w (.a (.val 8)))
  (.read (.fieldAddr 43 (.tmp 33) 1) 0 [(33, (.w (.a (.val 8))))] [((.b (.v 0)), (.prop 1))] [.v] (.w (.a (.val 9)))
  (.read (.load 3 (.tmp 34)) 3 [(34, (.w (.a (.val 9))))] [((.b (.v 0)), (.prop 1))] [.i] (.w (.a (.int .i64 (.v 10))))
  (.br (.o1 .not (.o2 .eq (.v 10) (.i 1)))
   (.ret (.tup [(.a (.int .i64 (.i 0))), (.a (.str (.s []))), (.a (.int .i64 (.i 23)))]) [((.b (.v 0)), (.prop 1))])
   (.call 196 [(.a (.ptr (.v 0) 0)), (.a (.int .i64 (.v 6))), (.a (.str (.v 4)))] [((.b (.v 0)), (.prop 1))] [.i] (.w (.a (.int .i64 (.v 11)))) [((.b (.v 0)), (.prop 1))]
   (.br (.o2 .le (.i 0) (.v 11))
    (.ret (.tup [(.a (.int .i64 (.i 0))), (.a (.str (.s []))), (.a (.int .i64 (.i 22)))]) [((.b (.v 0)), (.prop 1))])
    (.ret (.tup [(.a (.int .i64 (.v 6))), (.a (.str (.v 4))), (.a (.int .i64 (.i 0)))]) [((.b (.v 0)), (.prop 1))])))))))))))
theorem tree_rPlace : tree Tryz.prog { absT := [142, 144], opq := [], hv := [], keep := [30, 76, 78, 144, 198, 196, 142, 139, 24, 145], link := [], ent := [], turn := [], shr := [], vt := [], mkd := [], rlink := [], pty := [], outl := false, stay := [], snk := [], opn := true, rdf := true } Tryz.f139 [(.a (.ptr (.v 0) 0)), (.a (.str (.v 2)))] [((.b (.v 0)), (.prop 1))] 3 = t_rPlace := by kernel_rfl
-- (*tideline/tidelineref04.Tree).put: ρ := [.n t, .p tP, .i at, .s name, .i node]
def t_rPut : T :=
(.read (.indexAddr 142 (.tmp 14) (.tmp 12)) 0 [(14, (.w (.a (.ptr (.v 0) 0)))), (12, (.w (.a (.int .i64 (.v 2)))))] [((.b (.v 0)), (.prop 1))] [.v] (.w (.a (.val 5)))
(.read (.fieldAddr 43 (.tmp 15) 4) 0 [(15, (.w (.a (.val 5))))] [((.b (.v 0)), (.prop 1))] [.v] (.w (.a (.val 6)))
(.read (.load 41 (.tmp 16)) 41 [(16, (.w (.a (.val 6))))] [((.b (.v 0)), (.prop 1))] [.a, .n, .n] (.w (.a (.sl (.v 7) (.v 8) (.v 9))))
(.new
(.loop [.a, .n, .n, .i, .p] [(.a (.b (.v 10) 0)), (.e (.o2 .nadd (.n 0) (.n 0))), (.e (.o2 .nadd (.n 0) (.n 0))), (.e (.o1 .neg (.o1 .neg (.i 0)))), (.p [((.b (.v 10)), (.cells [] 140))])]
 (.br (.o2 .lt (.v 14) (.o1 .ofNat (.v 8)))
  (.need (.o2 .le (.i 0) (.v 14))
  (.need (.o1 .isSome (.v 7))
  (.read (.load 9 (.tmp 27)) 9 [(27, (.w (.a (.eptr 7 (.v 14) 2 0))))] [((.b (.v 0)), (.prop 1))] [.s] (.w (.a (.str (.v 16))))
  (.br (.o2 .slt (.v 16) (.v 3))
   (.read (.load 140 (.tmp 35)) 140 [(35, (.w (.a (.eptr 7 (.v 14) 2 0))))] [((.b (.v 0)), (.prop 1))] [.s, .i] (.w (.agg [(.str (.v 17)), (.int .i64 (.v 18))]))
   (.new
   (.op (.call ⟨.builtin .append, #[(.tmp 32), (.tmp 37)], #[41, 41]⟩) 41 [(32, (.w (.a (.sl (.v 11) (.v 12) (.v 13))))), (37, (.w (.a (.sl (.b (.v 19) 0) (.n 1) (.n 1)))))] [((.a 11), (.prop 15)), ((.b (.v 19)), (.cells [(.str (.v 17)), (.int .i64 (.v 18))] 140))] [.a, .n, .n, .p] (.w (.a (.sl (.v 20) (.v 21) (.v 22)))) [((.a 20), (.prop 23)), ((.b (.v 19)), (.cells [(.str (.v 17)), (.int .i64 (.v 18))] 140))]
   (.need (.o1 (.inr .i64) (.o2 .add (.v 14) (.i 1)))
   (.again 0 [(.a (.v 20)), (.e (.o2 .nadd (.v 21) (.n 0))), (.e (.o2 .nadd (.v 22) (.n 0))), (.e (.o1 .neg (.o1 .neg (.o2 .add (.v 14) (.i 1))))), (.p [((.a 20), (.prop 23))])])))))
   (.new
   (.op (.call ⟨.builtin .append, #[(.tmp 41), (.tmp 45)], #[41, 41]⟩) 41 [(41, (.w (.a (.sl (.v 11) (.v 12) (.v 13))))), (45, (.w (.a (.sl (.b (.v 17) 0) (.n 1) (.n 1)))))] [((.a 11), (.prop 15)), ((.b (.v 17)), (.cells [(.str (.v 3)), (.int .i64 (.v 4))] 140))] [.a, .n, .n, .p] (.w (.a (.sl (.v 18) (.v 19) (.v 20)))) [((.a 18), (.prop 21)), ((.b (.v 17)), (.cells [(.str (.v 3)), (.int .i64 (.v 4))] 140))]
   (.read (.slice 41 (.tmp 50) (some (.tmp 51)) none none) 41 [(50, (.w (.a (.sl (.v 7) (.v 8) (.v 9))))), (51, (.w (.a (.int .i64 (.v 14)))))] [((.b (.v 0)), (.prop 1))] [.a, .n, .n] (.w (.a (.sl (.v 22) (.v 23) (.v 24))))
   (.op (.call ⟨.builtin .append, #[(.tmp 49), (.tmp 52)], #[41, 41]⟩) 41 [(49, (.w (.a (.sl (.v 18) (.v 19) (.v 20))))), (52, (.w (.a (.sl (.v 22) (.v 23) (.v 24)))))] [((.a 18), (.prop 21)), ((.b (.v 0)), (.prop 1))] [.a, .n, .n, .p] (.w (.a (.sl (.v 25) (.v 26) (.v 27)))) [((.a 25), (.prop 28)), ((.b (.v 0)), (.prop 1))]
   (.read (.indexAddr 142 (.tmp 55) (.tmp 48)) 0 [(55, (.w (.a (.ptr (.v 0) 0)))), (48, (.w (.a (.int .i64 (.v 2)))))] [((.b (.v 0)), (.prop 1))] [.v] (.w (.a (.val 29)))
   (.read (.fieldAddr 43 (.tmp 56) 4) 0 [(56, (.w (.a (.val 29))))] [((.b (.v 0)), (.prop 1))] [.v] (.w (.a (.val 30)))
   (.op (.store 41 (.tmp 57) (.tmp 53)) 0 [(57, (.w (.a (.val 30)))), (53, (.w (.a (.sl (.v 25) (.v 26) (.v 27)))))] [((.b (.v 0)), (.prop 1)), ((.a 25), (.prop 28))] [.p] (.tup []) [((.b (.v 0)), (.prop 31))]
   (.ret (.tup []) [((.b (.v 0)), (.prop 31))]))))))))))))
  (.new
  (.op (.call ⟨.builtin .append, #[(.tmp 41), (.tmp 45)], #[41, 41]⟩) 41 [(41, (.w (.a (.sl (.v 11) (.v 12) (.v 13))))), (45, (.w (.a (.sl (.b (.v 16) 0) (.n 1) (.n 1)))))] [((.a 11), (.prop 15)), ((.b (.v 16)), (.cells [(.str (.v 3)), (.int .i64 (.v 4))] 140))] [.a, .n, .n, .p] (.w (.a (.sl (.v 17) (.v 18) (.v 19)))) [((.a 17), (.prop 20)), ((.b (.v 16)), (.cells [(.str (.v 3)), (.int .i64 (.v 4))] 140))]
  (.read (.slice 41 (.tmp 50) (some (.tmp 51)) none none) 41 [(50, (.w (.a (.sl (.v 7) (.v 8) (.v 9))))), (51, (.w (.a (.int .i64 (.v 14)))))] [((.b (.v 0)), (.prop 1))] [.a, .n, .n] (.w (.a (.sl (.v 21) (.v 22) (.v 23))))
  (.op (.call ⟨.builtin .append, #[(.tmp 49), (.tmp 52)], #[41, 41]⟩) 41 [(49, (.w (.a (.sl (.v 17) (.v 18) (.v 19))))), (52, (.w (.a (.sl (.v 21) (.v 22) (.v 23)))))] [((.a 17), (.prop 20)), ((.b (.v 0)), (.prop 1))] [.a, .n, .n, .p] (.w (.a (.sl (.v 24) (.v 25) (.v 26)))) [((.a 24), (.prop 27)), ((.b (.v 0)), (.prop 1))]
  (.read (.indexAddr 142 (.tmp 55) (.tmp 48)) 0 [(55, (.w (.a (.ptr (.v 0) 0)))), (48, (.w (.a (.int .i64 (.v 2)))))] [((.b (.v 0)), (.prop 1))] [.v] (.w (.a (.val 28)))
  (.read (.fieldAddr 43 (.tmp 56) 4) 0 [(56, (.w (.a (.val 28))))] [((.b (.v 0)), (.prop 1))] [.v] (.w (.a (.val 29)))
  (.op (.store 41 (.tmp 57) (.tmp 53)) 0 [(57, (.w (.a (.val 29)))), (53, (.w (.a (.sl (.v 24) (.v 25) (.v 26)))))] [((.b (.v 0)), (.prop 1)), ((.a 24), (.prop 27))] [.p] (.tup []) [((.b (.v 0)), (.prop 30))]
  (.ret (.tup []) [((.b (.v 0)), (.prop 30))]))))))))))))))
theorem tree_rPut : tree Tryz.prog { absT := [142, 144], opq := [], hv := [(0, [(.b (.v 10))])], keep := [30, 76, 78, 144, 198, 196, 142, 139, 24, 145], link := [], ent := [], turn := [], shr := [], vt := [], mkd := [], rlink := [], pty := [], outl := false, stay := [], snk := [], opn := true, rdf := true } Tryz.f140 [(.a (.ptr (.v 0) 0)), (.a (.int .i64 (.v 2))), (.a (.str (.v 3))), (.a (.int .i64 (.v 4)))] [((.b (.v 0)), (.prop 1))] 5 = t_rPut := by kernel_rfl
-- (*tideline/tidelineref04.Tree).drop: ρ := [.n t, .p tP, .i at, .s name]
def t_rDrop : T :=
(.read (.indexAddr 142 (.tmp 12) (.tmp 10)) 0 [(12, (.w (.a (.ptr (.v 0) 0)))), (10, (.w (.a (.int .i64 (.v 2)))))] [((.b (.v 0)), (.prop 1))] [.v] (.w (.a (.val 4)))
(.read (.fieldAddr 43 (.tmp 13) 4) 0 [(13, (.w (.a (.val 4))))] [((.b (.v 0)), (.prop 1))] [.v] (.w (.a (.val 5)))
(.read (.load 41 (.tmp 14)) 41 [(14, (.w (.a (.val 5))))] [((.b (.v 0)), (.prop 1))] [.a, .n, .n] (.w (.a (.sl (.v 6) (.v 7) (.v 8))))
(.new
(.loop [.a, .n, .n, .i, .p] [(.a (.b (.v 9) 0)), (.e (.o2 .nadd (.n 0) (.n 0))), (.e (.o2 .nadd (.n 0) (.n 0))), (.e (.o1 .neg (.o1 .neg (.i 0)))), (.p [((.b (.v 9)), (.cells [] 140))])]
 (.br (.o2 .lt (.v 13) (.o1 .ofNat (.v 7)))
  (.need (.o2 .le (.i 0) (.v 13))
  (.need (.o1 .isSome (.v 6))
  (.read (.load 9 (.tmp 26)) 9 [(26, (.w (.a (.eptr 6 (.v 13) 2 0))))] [((.b (.v 0)), (.prop 1))] [.s] (.w (.a (.str (.v 15))))
  (.br (.o1 .not (.o2 .seq (.v 15) (.v 3)))
   (.read (.load 140 (.tmp 33)) 140 [(33, (.w (.a (.eptr 6 (.v 13) 2 0))))] [((.b (.v 0)), (.prop 1))] [.s, .i] (.w (.agg [(.str (.v 16)), (.int .i64 (.v 17))]))
   (.new
   (.op (.call ⟨.builtin .append, #[(.tmp 30), (.tmp 35)], #[41, 41]⟩) 41 [(30, (.w (.a (.sl (.v 10) (.v 11) (.v 12))))), (35, (.w (.a (.sl (.b (.v 18) 0) (.n 1) (.n 1)))))] [((.a 10), (.prop 14)), ((.b (.v 18)), (.cells [(.str (.v 16)), (.int .i64 (.v 17))] 140))] [.a, .n, .n, .p] (.w (.a (.sl (.v 19) (.v 20) (.v 21)))) [((.a 19), (.prop 22)), ((.b (.v 18)), (.cells [(.str (.v 16)), (.int .i64 (.v 17))] 140))]
   (.need (.o1 (.inr .i64) (.o2 .add (.v 13) (.i 1)))
   (.again 0 [(.a (.v 19)), (.e (.o2 .nadd (.v 20) (.n 0))), (.e (.o2 .nadd (.v 21) (.n 0))), (.e (.o1 .neg (.o1 .neg (.o2 .add (.v 13) (.i 1))))), (.p [((.a 19), (.prop 22))])])))))
   (.need (.o1 (.inr .i64) (.o2 .add (.v 13) (.i 1)))
   (.again 0 [(.a (.v 10)), (.e (.o2 .nadd (.v 11) (.n 0))), (.e (.o2 .nadd (.v 12) (.n 0))), (.e (.o1 .neg (.o1 .neg (.o2 .add (.v 13) (.i 1))))), (.p [((.a 10), (.prop 14))])]))))))
  (.read (.indexAddr 142 (.tmp 41) (.tmp 38)) 0 [(41, (.w (.a (.ptr (.v 0) 0)))), (38, (.w (.a (.int .i64 (.v 2)))))] [((.b (.v 0)), (.prop 1))] [.v] (.w (.a (.val 15)))
  (.read (.fieldAddr 43 (.tmp 42) 4) 0 [(42, (.w (.a (.val 15))))] [((.b (.v 0)), (.prop 1))] [.v] (.w (.a (.val 16)))
  (.op (.store 41 (.tmp 43) (.tmp 39)) 0 [(43, (.w (.a (.val 16)))), (39, (.w (.a (.sl (.v 10) (.v 11) (.v 12)))))] [((.b (.v 0)), (.prop 1)), ((.a 10), (.prop 14))] [.p] (.tup []) [((.b (.v 0)), (.prop 17))]
  (.ret (.tup []) [((.b (.v 0)), (.prop 17))]))))))))))
theorem tree_rDrop : tree Tryz.prog { absT := [142, 144], opq := [], hv := [(0, [(.b (.v 9))])], keep := [30, 76, 78, 144, 198, 196, 142, 139, 24, 145], link := [], ent := [], turn := [], shr := [], vt := [], mkd := [], rlink := [], pty := [], outl := false, stay := [], snk := [], opn := true, rdf := true } Tryz.f143 [(.a (.ptr (.v 0) 0)), (.a (.int .i64 (.v 2))), (.a (.str (.v 3)))] [((.b (.v 0)), (.prop 1))] 4 = t_rDrop := by kernel_rfl
-- tideline/tidelineref04.size: ρ := [.a ba, .n bl, .n bc, .p bP, .i n]
def t_rSize : T :=
(.new
(.loop [.a, .n, .n, .i, .p] [(.a (.b (.v 5) 0)), (.e (.o2 .nadd (.n 0) (.n 0))), (.e (.o2 .nadd (.n 0) (.n 0))), (.e (.o1 .neg (.o1 .neg (.i 0)))), (.p [((.b (.v 5)), (.cells [] 5))])]
 (.br (.o2 .lt (.v 9) (.v 4))
  (.br (.o2 .lt (.v 9) (.o1 .ofNat (.v 1)))
   (.need (.o2 .le (.i 0) (.v 9))
   (.need (.o1 .isSome (.v 0))
   (.read (.load 5 (.tmp 20)) 5 [(20, (.w (.a (.eptr 0 (.v 9) 1 0))))] [((.a 0), (.prop 3))] [.i] (.w (.a (.int .u8 (.v 11))))
   (.new
   (.op (.call ⟨.builtin .append, #[(.tmp 17), (.tmp 22)], #[28, 28]⟩) 28 [(17, (.w (.a (.sl (.v 6) (.v 7) (.v 8))))), (22, (.w (.a (.sl (.b (.v 12) 0) (.n 1) (.n 1)))))] [((.a 6), (.prop 10)), ((.b (.v 12)), (.cells [(.int .u8 (.v 11))] 5))] [.a, .n, .n, .p] (.w (.a (.sl (.v 13) (.v 14) (.v 15)))) [((.a 13), (.prop 16)), ((.b (.v 12)), (.cells [(.int .u8 (.v 11))] 5))]
   (.need (.o1 (.inr .i64) (.o2 .add (.v 9) (.i 1)))
   (.again 0 [(.a (.v 13)), (.e (.o2 .nadd (.v 14) (.n 0))), (.e (.o2 .nadd (.v 15) (.n 0))), (.e (.o1 .neg (.o1 .neg (.o2 .add (.v 9) (.i 1))))), (.p [((.a 13), (.prop 16))])])))))))
   (.new
   (.op (.call ⟨.builtin .append, #[(.tmp 24), (.tmp 25)], #[28, 28]⟩) 28 [(24, (.w (.a (.sl (.v 6) (.v 7) (.v 8))))), (25, (.w (.a (.sl (.b (.v 11) 0) (.n 1) (.n 1)))))] [((.a 6), (.prop 10)), ((.b (.v 11)), (.cells [(.int .u8 (.i 0))] 5))] [.a, .n, .n, .p] (.w (.a (.sl (.v 12) (.v 13) (.v 14)))) [((.a 12), (.prop 15)), ((.b (.v 11)), (.cells [(.int .u8 (.i 0))] 5))]
   (.need (.o1 (.inr .i64) (.o2 .add (.v 9) (.i 1)))
   (.again 0 [(.a (.v 12)), (.e (.o2 .nadd (.v 13) (.n 0))), (.e (.o2 .nadd (.v 14) (.n 0))), (.e (.o1 .neg (.o1 .neg (.o2 .add (.v 9) (.i 1))))), (.p [((.a 12), (.prop 15))])])))))
  (.ret (.w (.a (.sl (.v 6) (.v 7) (.v 8)))) [((.a 0), (.prop 3)), ((.a 6), (.prop 10))]))))
theorem tree_rSize : tree Tryz.prog { absT := [142, 144], opq := [], hv := [(0, [(.b (.v 5))])], keep := [30, 76, 78, 144, 198, 196, 142, 139, 24, 145], link := [], ent := [], turn := [], shr := [], vt := [], mkd := [], rlink := [], pty := [], outl := false, stay := [], snk := [], opn := true, rdf := true } Tryz.f145 [(.a (.sl (.v 0) (.v 1) (.v 2))), (.a (.int .i64 (.v 4)))] [((.a 0), (.prop 3))] 5 = t_rSize := by kernel_rfl
-- (*tideline/tidelineref04.Tree).Do: ρ := [.n t, .p tP, .i c_Kind, .s c_Path, .s c_Other, .i c_Off, .i c_N, .a c_Dataa, .n c_Datal, .n c_Datac, .p c_DataP]
def t_rDo : T :=
(.new
(.new
(.call 77 [(.a (.ptr (.v 0) 0)), (.agg [(.int .i64 (.v 2)), (.str (.v 3)), (.str (.v 4)), (.int .i64 (.v 5)), (.int .i64 (.v 6)), (.sl (.v 7) (.v 8) (.v 9))])] [((.b (.v 0)), (.prop 1)), ((.a 7), (.prop 10))] [.i, .i, .i, .i, .a, .n, .n, .p, .a, .n, .n, .p, .i, .p] (.tup [(.agg [(.int .i64 (.v 13)), (.int .i64 (.v 14)), (.int .i64 (.v 15)), (.int .i64 (.v 16)), (.sl (.v 17) (.v 18) (.v 19)), (.sl (.v 21) (.v 22) (.v 23))]), (.a (.int .i64 (.v 25)))]) [((.a 17), (.prop 20)), ((.a 21), (.prop 24)), ((.b (.v 0)), (.prop 26)), ((.a 7), (.prop 10))]
(.new
(.br (.o1 .not (.o2 .eq (.v 25) (.i 0)))
 (.ret (.w (.agg [(.int .i64 (.v 25)), (.int .i64 (.i 0)), (.int .i64 (.i 0)), (.int .i64 (.i 0)), (.sl .nil (.n 0) (.n 0)), (.sl .nil (.n 0) (.n 0))])) [((.b (.v 0)), (.prop 26)), ((.a 7), (.prop 10))])
 (.ret (.w (.agg [(.int .i64 (.v 13)), (.int .i64 (.v 14)), (.int .i64 (.v 15)), (.int .i64 (.v 16)), (.sl (.v 17) (.v 18) (.v 19)), (.sl (.v 21) (.v 22) (.v 23))])) [((.b (.v 0)), (.prop 26)), ((.a 7), (.prop 10)), ((.a 17), (.prop 20)), ((.a 21), (.prop 24))]))))))
theorem tree_rDo : tree Tryz.prog { absT := [142, 144], opq := [], hv := [], keep := [30, 76, 78, 144, 198, 196, 142, 139, 24, 145], link := [], ent := [], turn := [(77, [0])], shr := [], vt := [], mkd := [], rlink := [], pty := [], outl := false, stay := [], snk := [], opn := true, rdf := true } Tryz.f23 [(.a (.ptr (.v 0) 0)), (.agg [(.int .i64 (.v 2)), (.str (.v 3)), (.str (.v 4)), (.int .i64 (.v 5)), (.int .i64 (.v 6)), (.sl (.v 7) (.v 8) (.v 9))])] [((.b (.v 0)), (.prop 1)), ((.a 7), (.prop 10))] 11 = t_rDo := by kernel_rfl
-- (*tideline/tidelineref04.Tree).All: ρ := [.n t, .p tP]
def t_rAll : T :=
(.new
(.loop [.a, .n, .n, .i, .p] [(.a (.b (.v 2) 0)), (.e (.o2 .nadd (.n 0) (.n 0))), (.e (.o2 .nadd (.n 0) (.n 0))), (.e (.o1 .neg (.o1 .neg (.i 0)))), (.p [((.b (.v 2)), (.cells [] 43))])]
 (.br (.o2 .lt (.v 6) (.i 64))
  (.read (.indexAddr 142 (.tmp 13) (.tmp 11)) 0 [(13, (.w (.a (.ptr (.v 0) 0)))), (11, (.w (.a (.int .i64 (.v 6)))))] [((.b (.v 0)), (.prop 1))] [.v] (.w (.a (.val 8)))
  (.read (.fieldAddr 43 (.tmp 14) 1) 0 [(14, (.w (.a (.val 8))))] [((.b (.v 0)), (.prop 1))] [.v] (.w (.a (.val 9)))
  (.read (.load 3 (.tmp 15)) 3 [(15, (.w (.a (.val 9))))] [((.b (.v 0)), (.prop 1))] [.i] (.w (.a (.int .i64 (.v 10))))
  (.br (.o1 .not (.o2 .eq (.v 10) (.i 0)))
   (.read (.indexAddr 142 (.tmp 22) (.tmp 20)) 0 [(22, (.w (.a (.ptr (.v 0) 0)))), (20, (.w (.a (.int .i64 (.v 6)))))] [((.b (.v 0)), (.prop 1))] [.v] (.w (.a (.val 11)))
   (.read (.load 43 (.tmp 23)) 43 [(23, (.w (.a (.val 11))))] [((.b (.v 0)), (.prop 1))] [.i, .i, .i, .a, .n, .n, .a, .n, .n] (.w (.agg [(.int .i64 (.v 12)), (.int .i64 (.v 13)), (.int .i64 (.v 14)), (.sl (.v 15) (.v 16) (.v 17)), (.sl (.v 18) (.v 19) (.v 20))]))
   (.new
   (.op (.call ⟨.builtin .append, #[(.tmp 18), (.tmp 25)], #[36, 36]⟩) 36 [(18, (.w (.a (.sl (.v 3) (.v 4) (.v 5))))), (25, (.w (.a (.sl (.b (.v 21) 0) (.n 1) (.n 1)))))] [((.a 3), (.prop 7)), ((.b (.v 21)), (.cells [(.int .i64 (.v 12)), (.int .i64 (.v 13)), (.int .i64 (.v 14)), (.sl (.v 15) (.v 16) (.v 17)), (.sl (.v 18) (.v 19) (.v 20))] 43)), ((.b (.v 0)), (.prop 1))] [.a, .n, .n, .p] (.w (.a (.sl (.v 22) (.v 23) (.v 24)))) [((.a 22), (.prop 25)), ((.b (.v 21)), (.cells [(.int .i64 (.v 12)), (.int .i64 (.v 13)), (.int .i64 (.v 14)), (.sl (.v 15) (.v 16) (.v 17)), (.sl (.v 18) (.v 19) (.v 20))] 43)), ((.b (.v 0)), (.prop 1))]
   (.need (.o1 (.inr .i64) (.o2 .add (.v 6) (.i 1)))
   (.again 0 [(.a (.v 22)), (.e (.o2 .nadd (.v 23) (.n 0))), (.e (.o2 .nadd (.v 24) (.n 0))), (.e (.o1 .neg (.o1 .neg (.o2 .add (.v 6) (.i 1))))), (.p [((.a 22), (.prop 25))])]))))))
   (.need (.o1 (.inr .i64) (.o2 .add (.v 6) (.i 1)))
   (.again 0 [(.a (.v 3)), (.e (.o2 .nadd (.v 4) (.n 0))), (.e (.o2 .nadd (.v 5) (.n 0))), (.e (.o1 .neg (.o1 .neg (.o2 .add (.v 6) (.i 1))))), (.p [((.a 3), (.prop 7))])]))))))
  (.ret (.w (.a (.sl (.v 3) (.v 4) (.v 5)))) [((.b (.v 0)), (.prop 1)), ((.a 3), (.prop 7))]))))
theorem tree_rAll : tree Tryz.prog { absT := [142, 144], opq := [], hv := [(0, [(.b (.v 2))])], keep := [30, 76, 78, 144, 198, 196, 142, 139, 24, 145], link := [], ent := [], turn := [], shr := [], vt := [], mkd := [], rlink := [], pty := [], outl := false, stay := [], snk := [], opn := true, rdf := true } Tryz.f24 [(.a (.ptr (.v 0) 0))] [((.b (.v 0)), (.prop 1))] 2 = t_rAll := by kernel_rfl
-- tideline/tidelineref03.Split: ρ := [.s s]
def t_split03 : T :=
(.new
(.br (.o2 .seq (.v 0) (.s [47]))
 (.ret (.tup [(.a (.sl (.b (.v 1) 0) (.n 0) (.n 0))), (.a (.bool (.c true)))]) [((.b (.v 1)), (.cells [] 9))])
 (.br (.o2 .eq (.o1 .ofNat (.o1 .size (.v 0))) (.i 0))
  (.ret (.tup [(.a (.sl (.b (.v 1) 0) (.n 0) (.n 0))), (.a (.bool (.c false)))]) [((.b (.v 1)), (.cells [] 9))])
  (.read (.index 9 (.tmp 16) (.const (.int .i64 0))) 5 [(16, (.w (.a (.str (.v 0)))))] [] [.i] (.w (.a (.int .u8 (.v 2))))
  (.br (.o1 .not (.o2 .eq (.v 2) (.i 47)))
   (.ret (.tup [(.a (.sl (.b (.v 1) 0) (.n 0) (.n 0))), (.a (.bool (.c false)))]) [((.b (.v 1)), (.cells [] 9))])
   (.loop [.a, .n, .n, .i, .i, .p] [(.a (.b (.v 1) 0)), (.e (.o2 .nadd (.n 0) (.n 0))), (.e (.o2 .nadd (.n 0) (.n 0))), (.e (.o1 .neg (.o1 .neg (.i 1)))), (.e (.o1 .neg (.o1 .neg (.i 1)))), (.p [((.b (.v 1)), (.cells [] 9))])]
    (.br (.o2 .le (.v 7) (.o1 .ofNat (.o1 .size (.v 0))))
     (.br (.o2 .eq (.v 7) (.o1 .ofNat (.o1 .size (.v 0))))
      (.read (.slice 9 (.tmp 38) (some (.tmp 39)) (some (.tmp 40)) none) 9 [(38, (.w (.a (.str (.v 0))))), (39, (.w (.a (.int .i64 (.v 6))))), (40, (.w (.a (.int .i64 (.v 7)))))] [] [.s] (.w (.a (.str (.v 9))))
      (.new
      (.op (.call ⟨.builtin .append, #[(.tmp 37), (.tmp 42)], #[29, 29]⟩) 29 [(37, (.w (.a (.sl (.v 3) (.v 4) (.v 5))))), (42, (.w (.a (.sl (.b (.v 10) 0) (.n 1) (.n 1)))))] [((.a 3), (.prop 8)), ((.b (.v 10)), (.cells [(.str (.v 9))] 9))] [.a, .n, .n, .p] (.w (.a (.sl (.v 11) (.v 12) (.v 13)))) [((.a 11), (.prop 14)), ((.b (.v 10)), (.cells [(.str (.v 9))] 9))]
      (.need (.o1 (.inr .i64) (.o2 .add (.v 7) (.i 1)))
      (.again 0 [(.a (.v 11)), (.e (.o2 .nadd (.v 12) (.n 0))), (.e (.o2 .nadd (.v 13) (.n 0))), (.e (.o1 .neg (.o1 .neg (.o2 .add (.v 7) (.i 1))))), (.e (.o1 .neg (.o1 .neg (.o2 .add (.v 7) (.i 1))))), (.p [((.a 11), (.prop 14))])])))))
      (.read (.index 9 (.tmp 32) (.tmp 33)) 5 [(32, (.w (.a (.str (.v 0))))), (33, (.w (.a (.int .i64 (.v 7)))))] [] [.i] (.w (.a (.int .u8 (.v 9))))
      (.br (.o2 .eq (.v 9) (.i 47))
       (.read (.slice 9 (.tmp 38) (some (.tmp 39)) (some (.tmp 40)) none) 9 [(38, (.w (.a (.str (.v 0))))), (39, (.w (.a (.int .i64 (.v 6))))), (40, (.w (.a (.int .i64 (.v 7)))))] [] [.s] (.w (.a (.str (.v 10))))
       (.new
       (.op (.call ⟨.builtin .append, #[(.tmp 37), (.tmp 42)], #[29, 29]⟩) 29 [(37, (.w (.a (.sl (.v 3) (.v 4) (.v 5))))), (42, (.w (.a (.sl (.b (.v 11) 0) (.n 1) (.n 1)))))] [((.a 3), (.prop 8)), ((.b (.v 11)), (.cells [(.str (.v 10))] 9))] [.a, .n, .n, .p] (.w (.a (.sl (.v 12) (.v 13) (.v 14)))) [((.a 12), (.prop 15)), ((.b (.v 11)), (.cells [(.str (.v 10))] 9))]
       (.need (.o1 (.inr .i64) (.o2 .add (.v 7) (.i 1)))
       (.again 0 [(.a (.v 12)), (.e (.o2 .nadd (.v 13) (.n 0))), (.e (.o2 .nadd (.v 14) (.n 0))), (.e (.o1 .neg (.o1 .neg (.o2 .add (.v 7) (.i 1))))), (.e (.o1 .neg (.o1 .neg (.o2 .add (.v 7) (.i 1))))), (.p [((.a 12), (.prop 15))])])))))
       (.need (.o1 (.inr .i64) (.o2 .add (.v 7) (.i 1)))
       (.again 0 [(.a (.v 3)), (.e (.o2 .nadd (.v 4) (.n 0))), (.e (.o2 .nadd (.v 5) (.n 0))), (.e (.o1 .neg (.o1 .neg (.v 6)))), (.e (.o1 .neg (.o1 .neg (.o2 .add (.v 7) (.i 1))))), (.p [((.a 3), (.prop 8))])])))))
     (.loop [.a, .n, .n, .p, .c, .i] [(.a .nil), (.e (.o2 .nadd (.n 0) (.n 0))), (.e (.o2 .nadd (.n 0) (.n 0))), (.p []), (.e (.o1 .not (.o1 .not (.c false)))), (.e (.o1 .neg (.o1 .neg (.i 0))))]
      (.br (.o2 .lt (.v 14) (.o1 .ofNat (.v 4)))
       (.need (.o2 .le (.i 0) (.v 14))
       (.need (.o1 .isSome (.v 3))
       (.read (.load 9 (.tmp 54)) 9 [(54, (.w (.a (.eptr 3 (.v 14) 1 0))))] [((.a 3), (.prop 8))] [.s] (.w (.a (.str (.v 15))))
       (.call 78 [(.a (.str (.v 15)))] [] [.c] (.w (.a (.bool (.v 16)))) []
       (.br (.o1 .not (.v 16))
        (.new
        (.ret (.tup [(.a (.sl (.b (.v 17) 0) (.n 0) (.n 0))), (.a (.bool (.c false)))]) [((.b (.v 17)), (.cells [] 9))]))
        (.need (.o1 (.inr .i64) (.o2 .add (.v 14) (.i 1)))
        (.again 0 [(.a (.v 9)), (.e (.o2 .nadd (.v 10) (.n 0))), (.e (.o2 .nadd (.v 11) (.n 0))), (.p [((.a 9), (.prop 12))]), (.e (.o1 .not (.o1 .not (.v 13)))), (.e (.o1 .neg (.o1 .neg (.o2 .add (.v 14) (.i 1)))))])))))))
       (.br (.o2 .lt (.i 8) (.o1 .ofNat (.v 4)))
        (.new
        (.ret (.tup [(.a (.sl (.b (.v 15) 0) (.n 0) (.n 0))), (.a (.bool (.c false)))]) [((.b (.v 15)), (.cells [] 9))]))
        (.ret (.tup [(.a (.sl (.v 3) (.v 4) (.v 5))), (.a (.bool (.c true)))]) [((.a 3), (.prop 8))])))))))))))
theorem tree_split03 : tree Tryz.prog { absT := [142, 144], opq := [], hv := [(0, [(.b (.v 1))])], keep := [30, 76, 78, 144, 198, 196, 142, 139, 24, 145], link := [], ent := [], turn := [], shr := [], vt := [], mkd := [], rlink := [], pty := [], outl := false, stay := [], snk := [], opn := true, rdf := true } Tryz.f197 [(.a (.str (.v 0)))] [] 1 = t_split03 := by kernel_rfl
-- tideline/tidelineref03.Join: ρ := [.a namesa, .n namesl, .n namesc, .p namesP]
def t_join03 : T :=
(.loop [.s, .i] [(.e (.o2 .cat (.s []) (.s []))), (.e (.o1 .neg (.o1 .neg (.i 0))))]
 (.br (.o2 .lt (.v 5) (.o1 .ofNat (.v 1)))
  (.need (.o2 .le (.i 0) (.v 5))
  (.need (.o1 .isSome (.v 0))
  (.read (.load 9 (.tmp 14)) 9 [(14, (.w (.a (.eptr 0 (.v 5) 1 0))))] [((.a 0), (.prop 3))] [.s] (.w (.a (.str (.v 6))))
  (.need (.o2 .le (.o1 .ofNat (.o2 .nadd (.o1 .size (.s [47])) (.o1 .size (.v 6)))) (.i 9223372036854775807))
  (.need (.o2 .le (.o1 .ofNat (.o2 .nadd (.o1 .size (.v 4)) (.o1 .size (.o2 .cat (.s [47]) (.v 6))))) (.i 9223372036854775807))
  (.need (.o1 (.inr .i64) (.o2 .add (.v 5) (.i 1)))
  (.again 0 [(.e (.o2 .cat (.o2 .cat (.v 4) (.o2 .cat (.s [47]) (.v 6))) (.s []))), (.e (.o1 .neg (.o1 .neg (.o2 .add (.v 5) (.i 1)))))])))))))
  (.br (.o2 .seq (.v 4) (.s []))
   (.ret (.w (.a (.str (.s [47])))) [((.a 0), (.prop 3))])
   (.ret (.w (.a (.str (.v 4)))) [((.a 0), (.prop 3))]))))
theorem tree_join03 : tree Tryz.prog { absT := [142, 144], opq := [], hv := [], keep := [30, 76, 78, 144, 198, 196, 142, 139, 24, 145], link := [], ent := [], turn := [], shr := [], vt := [], mkd := [], rlink := [], pty := [], outl := false, stay := [], snk := [], opn := true, rdf := true } Tryz.f198 [(.a (.sl (.v 0) (.v 1) (.v 2)))] [((.a 0), (.prop 3))] 4 = t_join03 := by kernel_rfl
-- tideline/tidelineref03.Inside: ρ := [.s s, .s other]
def t_inside03 : T :=
(.call 197 [(.a (.str (.v 0)))] [] [.a, .n, .n, .p, .c] (.tup [(.a (.sl (.v 2) (.v 3) (.v 4))), (.a (.bool (.v 6)))]) [((.a 2), (.prop 5))]
(.call 197 [(.a (.str (.v 1)))] [] [.a, .n, .n, .p, .c] (.tup [(.a (.sl (.v 7) (.v 8) (.v 9))), (.a (.bool (.v 11)))]) [((.a 7), (.prop 10))]
(.br (.o1 .not (.v 6))
 (.ret (.w (.a (.bool (.c false)))) [])
 (.br (.o1 .not (.v 11))
  (.ret (.w (.a (.bool (.c false)))) [])
  (.br (.o2 .le (.o1 .ofNat (.v 3)) (.o1 .ofNat (.v 8)))
   (.ret (.w (.a (.bool (.c false)))) [])
   (.loop [.c, .i] [(.e (.o1 .not (.o1 .not (.c false)))), (.e (.o1 .neg (.o1 .neg (.i 0))))]
    (.br (.o2 .lt (.v 13) (.o1 .ofNat (.v 8)))
     (.need (.o2 .le (.i 0) (.v 13))
     (.need (.o2 .lt (.v 13) (.o1 .ofNat (.v 3)))
     (.need (.o1 .isSome (.v 2))
     (.read (.load 9 (.tmp 41)) 9 [(41, (.w (.a (.eptr 2 (.v 13) 1 0))))] [((.a 2), (.prop 5))] [.s] (.w (.a (.str (.v 14))))
     (.need (.o1 .isSome (.v 7))
     (.read (.load 9 (.tmp 45)) 9 [(45, (.w (.a (.eptr 7 (.v 13) 1 0))))] [((.a 7), (.prop 10))] [.s] (.w (.a (.str (.v 15))))
     (.br (.o1 .not (.o2 .seq (.v 14) (.v 15)))
      (.ret (.w (.a (.bool (.c false)))) [])
      (.need (.o1 (.inr .i64) (.o2 .add (.v 13) (.i 1)))
      (.again 0 [(.e (.o1 .not (.o1 .not (.v 12)))), (.e (.o1 .neg (.o1 .neg (.o2 .add (.v 13) (.i 1)))))])))))))))
     (.ret (.w (.a (.bool (.c true)))) []))))))))
theorem tree_inside03 : tree Tryz.prog { absT := [142, 144], opq := [], hv := [], keep := [30, 76, 78, 144, 198, 196, 142, 139, 24, 145], link := [], ent := [], turn := [], shr := [], vt := [], mkd := [], rlink := [], pty := [], outl := false, stay := [], snk := [], opn := true, rdf := true } Tryz.f144 [(.a (.str (.v 0))), (.a (.str (.v 1)))] [] 2 = t_inside03 := by kernel_rfl
end Go.Proofs.YtdieogcemmnaaaaGreatDoor.RX

/- The document's tree (package tidelineref04): how it lies, single operations on it. No condition. -/
namespace Go.Proofs.YtdieogcemmnaaaaGreatDoor
open Go.Proofs.YtdieogcemmnaaaaGreatDoor RX
set_option maxRecDepth 100000

def nd0 : Nd := ⟨0, 0, 0, [], []⟩
def ne0 : NodeE := ⟨nd0, none, 0, none, 0⟩
theorem ne0_hp (R h : PH) : (nodeHp ne0).p R h := ⟨RoC.nil _ _ _ _, rfl, RoC.nil _ _ _ _, fun x hx => by cases hx⟩
def rtCells (g : Nat → NodeE) : List Value := (List.range 64).flatMap fun i => nodeVs (g i)
def RT (b : Nat) (g : Nat → NodeE) : HP where
  p R h := h b = some (.cells (rtCells g).toArray 144 (0, 0)) ∧ ∀ i, i < 64 → (nodeHp (g i)).p R h ∧ (g i).nd.ents.length ≤ (g i).ec
  mono l l' := fun ⟨h1, h2⟩ => ⟨l' _ _ h1, fun i hi => ⟨(nodeHp (g i)).mono l l' (h2 i hi).1, (h2 i hi).2⟩⟩
theorem nodeVs_len (x : NodeE) : (nodeVs x).length = 5 := rfl
theorem rt_get (g : Nat → NodeE) {i off : Nat} (hi : i < 64) (ho : off < 5) : (rtCells g)[i * 5 + off]? = (nodeVs (g i))[off]? :=
  flat_getL (fun i => nodeVs (g i)) 5 (fun _ => rfl) (List.range 64) i off i (List.getElem?_range hi) ho
theorem RT.rd {b : Nat} {g : Nat → NodeE} : Rd (RT b g) (some ⟨b, 0, none⟩) (rtCells g) := fun w R h F s H j u hj => by
  refine ⟨b, 0, rfl, ?_⟩
  rw [cell_at (s.oh b _ H.1)]
  simpa using hj
theorem rtLd {t : TypeId} {d : TypeDesc} (hd : Tryz.prog.underlying t = some d) (ha : aggT Tryz.prog t = false) (hz : szT Tryz.prog t = 1) {b i off : Nat} {g : Nat → NodeE} (hi : i < 64) (ho : off < 5) {v : Value} (hv : (nodeVs (g i))[off]? = some v) :
    ORead Tryz.prog (loadS t (.pointer (some ⟨b, i * 5 + off, none⟩))) (RT b g) v := by
  have := load1_ok hd ha hz (RT.rd (b := b) (g := g)) (k := i * 5) (off := off) (by rw [rt_get g hi ho]; exact hv)
  simpa [addr_add] using this
theorem rtLdN {b i : Nat} {g : Nat → NodeE} (hi : i < 64) : ORead Tryz.prog (loadS 43 (.pointer (some ⟨b, i * 5, none⟩))) (RT b g) (.agg (nodeVs (g i)).toArray) := by
  obtain ⟨d, hd⟩ := undNode
  have := loadN_ok (vs := nodeVs (g i)) hd aggNode (RT.rd (b := b) (g := g)) (k := i * 5) (off := 0) szNode (by rw [nodeVs_len]; omega) fun j v hj => by
    have hj5 : j < 5 := (List.getElem?_eq_some_iff.1 hj).1
    rw [Nat.add_zero, rt_get g hi hj5]; exact hj
  simpa [addr_add] using this
theorem undArN : Tryz.prog.underlying 142 = some (.array 64 43) := by kernel_rfl
theorem ixN {b k : Nat} {x : Int} (hx : x = k) (hk : k < 64) {A : HP} : ORead Tryz.prog (idxS 142 (.pointer (some ⟨b, 0, none⟩)) (.int .i64 x)) A (.pointer (some ⟨b, k * 5, none⟩)) := fun w R h F s _ => by
  obtain ⟨i, hi⟩ := Option.isSome_iff_exists.1 (show (Tryz.prog.info? 43).isSome = true by kernel_rfl)
  subst hx
  unfold idxS
  rw [Sem.run_bind, RX.run_indexAt_array undArN hi (by omega) (by omega), szNode]
  simp [addr_add]
def fldS (t : TypeId) (u : Value) (f : Nat) : Sem Next := do pure (.value (← Instr.fieldAt t u f))
theorem semW_fld {t ty : TypeId} {i f : Nat} {u : Value} : semW (.fieldAddr t (.tmp i) f) ty [(i, u)] = fldS t u f := by
  simp [semW, execOp, arW, fldS]
theorem fldN {b k f : Nat} (hf : f < 5) {A : HP} : ORead Tryz.prog (fldS 43 (.pointer (some ⟨b, k, none⟩)) f) A (.pointer (some ⟨b, k + f, none⟩)) := fun w R h F s _ => by
  have key : ∃ fs fd, Tryz.prog.underlying 43 = some (.struct fs) ∧ fs[f]? = some fd ∧ szT Tryz.prog fd.type ≠ 0 ∧ fd.offset = f := by
    match f, hf with
    | 0, _ => exact ⟨_, _, Tryz.underlying43, rfl, by rw [show szT Tryz.prog _ = 1 by kernel_rfl]; decide, rfl⟩
    | 1, _ => exact ⟨_, _, Tryz.underlying43, rfl, by rw [show szT Tryz.prog _ = 1 by kernel_rfl]; decide, rfl⟩
    | 2, _ => exact ⟨_, _, Tryz.underlying43, rfl, by rw [show szT Tryz.prog _ = 1 by kernel_rfl]; decide, rfl⟩
    | 3, _ => exact ⟨_, _, Tryz.underlying43, rfl, by rw [show szT Tryz.prog _ = 1 by kernel_rfl]; decide, rfl⟩
    | 4, _ => exact ⟨_, _, Tryz.underlying43, rfl, by rw [show szT Tryz.prog _ = 1 by kernel_rfl]; decide, rfl⟩
  obtain ⟨fs, fd, h1, h2, h3, h4⟩ := key
  unfold fldS
  rw [Sem.run_bind, RX.run_fieldAt h1 h2 h3, h4]
  simp [addr_add]
def upd (g : Nat → NodeE) (i : Nat) (x : NodeE) (j : Nat) : NodeE := if j = i then x else g j
theorem upd_at (g : Nat → NodeE) (i : Nat) (x : NodeE) : upd g i x i = x := if_pos rfl
theorem upd_ne (g : Nat → NodeE) {i j : Nat} (x : NodeE) (h : j ≠ i) : upd g i x j = g j := if_neg h
theorem rt_split (g : Nat → NodeE) {i : Nat} (hi : i < 64) : ∃ l1 l2 : List Nat, List.range 64 = l1 ++ i :: l2 ∧ l1.length = i ∧ ∀ j, j ∈ l1 ∨ j ∈ l2 → j ≠ i := by
  refine ⟨(List.range 64).take i, (List.range 64).drop (i + 1), ?_, by simp; omega, ?_⟩
  · conv => lhs; rw [← List.take_append_drop i (List.range 64), List.drop_eq_getElem_cons (by simpa using hi)]
    rw [List.getElem_range]
  · intro j hj e
    subst e
    have nd := List.nodup_range (n := 64)
    rw [← List.take_append_drop j (List.range 64), List.drop_eq_getElem_cons (by simpa using hi), List.getElem_range, List.nodup_append] at nd
    obtain ⟨_, n2, n3⟩ := nd
    rcases hj with h | h
    · exact n3 j h j (by simp) rfl
    · exact (List.nodup_cons.1 n2).1 h
theorem rt_parts (g : Nat → NodeE) {i : Nat} (hi : i < 64) (x : NodeE) : ∃ A C : List Value, rtCells g = A ++ nodeVs (g i) ++ C ∧ rtCells (upd g i x) = A ++ nodeVs x ++ C ∧ A.length = i * 5 := by
  obtain ⟨l1, l2, h1, h2, h3⟩ := rt_split g hi
  refine ⟨l1.flatMap fun i => nodeVs (g i), l2.flatMap fun i => nodeVs (g i), ?_, ?_, ?_⟩
  · unfold rtCells; rw [h1]; simp
  · unfold rtCells
    rw [h1, List.flatMap_append, List.flatMap_cons, upd_at]
    have e1 : l1.flatMap (fun j => nodeVs (upd g i x j)) = l1.flatMap fun j => nodeVs (g j) := by
      rw [List.flatMap_def, List.flatMap_def, List.map_congr_left fun j hj => by rw [upd_ne g x (h3 j (.inl hj))]]
    have e2 : l2.flatMap (fun j => nodeVs (upd g i x j)) = l2.flatMap fun j => nodeVs (g j) := by
      rw [List.flatMap_def, List.flatMap_def, List.map_congr_left fun j hj => by rw [upd_ne g x (h3 j (.inr hj))]]
    rw [e1, e2]; simp
  · rw [flat_lenL (fun i => nodeVs (g i)) 5 (fun _ => rfl), h2]
/-- A store into a node, with what it brings along. -/
theorem rtStore {t : TypeId} {ti : TypeInfo} (hti : Tryz.prog.info? t = some ti) {b i off : Nat} {g : Nat → NodeE} (hi : i < 64) {v : Value} {vs : List Value} (hv : v.cells = vs.toArray) (hz : ti.size = vs.length) (hp : 0 < vs.length) (h1 : ∀ u ∈ vs, u.oneCell' = true) (x : NodeE) (ho : off + vs.length ≤ 5)
    (hx : nodeVs x = (nodeVs (g i)).take off ++ vs ++ (nodeVs (g i)).drop (off + vs.length)) {Q : HP} (hQ : ∀ R h, (HP.sep (RT b g) Q).p R h → (nodeHp x).p R h ∧ x.nd.ents.length ≤ x.ec) :
    OTri Tryz.prog (storeS t (.pointer (some ⟨b, i * 5 + off, none⟩)) v) (HP.sep (RT b g) Q) (fun v => HP.and (v = .tuple #[]) (RT b (upd g i x))) := by
  obtain ⟨A, C, e1, e2, e3⟩ := rt_parts g hi x
  have h5 : (nodeVs (g i)).length = 5 := rfl
  have st := storeOne_ok hti 144 b (rtCells g).toArray (i * 5 + off) v vs hv hz hp h1 (by rw [List.size_toArray, e1]; simp [e3, h5]; omega) (by unfold maxLen; omega)
  have ec : ((rtCells g).toArray.toList.take (i * 5 + off) ++ vs ++ (rtCells g).toArray.toList.drop (i * 5 + off + vs.length)) = rtCells (upd g i x) := by
    rw [e2, hx, List.toList_toArray, e1]
    have t1 : (A ++ nodeVs (g i) ++ C).take (i * 5 + off) = A ++ (nodeVs (g i)).take off := by
      rw [← e3, List.append_assoc, List.take_length_add_append, List.take_append_of_le_length (by omega)]
    have t2 : (A ++ nodeVs (g i) ++ C).drop (i * 5 + off + vs.length) = (nodeVs (g i)).drop (off + vs.length) ++ C := by
      rw [← e3, List.append_assoc, Nat.add_assoc, List.drop_length_add_append, List.drop_append_of_le_length (by omega)]
    rw [t1, t2]; simp
  rw [ec] at st
  let K : HP := ⟨fun R h => (∀ j, j < 64 → (nodeHp (g j)).p R h ∧ (g j).nd.ents.length ≤ (g j).ec) ∧ (nodeHp x).p R h ∧ x.nd.ents.length ≤ x.ec, fun l l' ⟨q1, q2⟩ => ⟨fun j hj => ⟨(nodeHp (g j)).mono l l' (q1 j hj).1, (q1 j hj).2⟩, (nodeHp x).mono l l' q2.1, q2.2⟩⟩
  refine st.conseq (K := K) (.of fun R h H => ?_) fun v => .of fun R h H => ?_
  · have hxx := hQ R h H
    obtain ⟨a1, a2, d, l1, l2, ⟨H1, H2⟩, _⟩ := H
    exact ⟨a1, a2, d, l1, l2, H1, fun j hj => ⟨nodeHp_pers _ _ _ _ (H2 j hj).1, (H2 j hj).2⟩, nodeHp_pers _ _ _ _ hxx.1, hxx.2⟩
  · obtain ⟨a1, a2, d, l1, l2, ⟨e, H1⟩, q1, q2⟩ := H
    refine ⟨e, l1 _ _ H1, fun j hj => ?_⟩
    unfold upd
    split
    · exact ⟨nodeHp_pers _ _ _ _ q2.1, q2.2⟩
    · exact ⟨nodeHp_pers _ _ _ _ (q1 j hj).1, (q1 j hj).2⟩
/-! which tree it is -/
def ndF (T : List Nd) (i : Nat) : Nd := (nodeAt T i).getD nd0
def Rp (g : Nat → NodeE) (T : List Nd) : Prop := ∀ i, i < 64 → (g i).nd = ndF T i
theorem ndF_some {T : List Nd} {i : Nat} {n : Nd} (h : nodeAt T i = some n) : ndF T i = n := by unfold ndF; rw [h]; rfl
theorem ndF_none {T : List Nd} {i : Nat} (h : nodeAt T i = none) : ndF T i = nd0 := by unfold ndF; rw [h]; rfl
theorem rtKind {b i : Nat} {g : Nat → NodeE} (hi : i < 64) : ORead Tryz.prog (loadS 3 (.pointer (some ⟨b, i * 5 + 1, none⟩))) (RT b g) (.int .i64 (g i).nd.kind) := rtLd undInt (by kernel_rfl) (by kernel_rfl) hi (by omega) rfl
theorem rtLinks {b i : Nat} {g : Nat → NodeE} (hi : i < 64) : ORead Tryz.prog (loadS 3 (.pointer (some ⟨b, i * 5 + 2, none⟩))) (RT b g) (.int .i64 (g i).nd.links) := rtLd undInt (by kernel_rfl) (by kernel_rfl) hi (by omega) rfl
theorem rtEnts {b i : Nat} {g : Nat → NodeE} (hi : i < 64) : ORead Tryz.prog (loadS 41 (.pointer (some ⟨b, i * 5 + 4, none⟩))) (RT b g) (.slice (g i).ea (g i).nd.ents.length (g i).ec) := rtLd undEs' (by kernel_rfl) (by kernel_rfl) hi (by omega) rfl
theorem rtData {b i : Nat} {g : Nat → NodeE} (hi : i < 64) : ORead Tryz.prog (loadS 28 (.pointer (some ⟨b, i * 5 + 3, none⟩))) (RT b g) (.slice (g i).da (g i).nd.data.length (g i).dc) := rtLd und8 (by kernel_rfl) (by kernel_rfl) hi (by omega) rfl
/-- Entries, as they are read through the tree. -/
theorem rtEnt {b i k : Nat} {g : Nat → NodeE} (hi : i < 64) {e : Nm × Nat} (hk : (g i).nd.ents[k]? = some e) : ORead Tryz.prog (loadS 140 (.pointer ((g i).ea.map fun y => (y.add (k * 2)).add 0))) (RT b g) (.agg #[sE e.1, .int .i64 e.2]) := by
  obtain ⟨d, hd⟩ := undEnt
  exact ORead.ent (.of fun R h H => (H.2 i hi).1.2) (Ls.load (K := kEnt) hd aggEnt szEnt hk)
theorem rtEnt1 {b i k : Nat} {g : Nat → NodeE} (hi : i < 64) {e : Nm × Nat} (hk : (g i).nd.ents[k]? = some e) {off : Nat} {t : TypeId} {d : TypeDesc} {v : Value} (hd : Tryz.prog.underlying t = some d) (ha : aggT Tryz.prog t = false) (hz : szT Tryz.prog t = 1) (hv : (entV e)[off]? = some v) : ORead Tryz.prog (loadS t (.pointer ((g i).ea.map fun y => (y.add (k * 2)).add off))) (RT b g) v :=
  ORead.ent (.of fun R h H => (H.2 i hi).1.2) (Ls.load1 (K := kEnt) hd ha hz hk hv)
theorem RT.ea {b : Nat} {g : Nat → NodeE} {R h : PH} (H : (RT b g).p R h) : ∀ i, i < 64 → (g i).nd.ents.length ≠ 0 → (g i).ea.isSome = true := fun i hi hn => Ls.some (H.2 i hi).1.2 hn
theorem RT.da {b : Nat} {g : Nat → NodeE} {R h : PH} (H : (RT b g).p R h) : ∀ i, i < 64 → (g i).nd.data.length ≠ 0 → (g i).da.isSome = true := fun i hi hn => RoC.some (H.2 i hi).1.1 (by omega)
theorem rtDataL {b i : Nat} {g : Nat → NodeE} (hi : i < 64) : RdL (RT b g) (g i).da (g i).nd.data.length ((g i).nd.data.map u8v) :=
  ⟨Rd.impR (RdL.ro 1 (g i).da (g i).nd.data.length ((g i).nd.data.map u8v)).rd fun R h H => (H.2 i hi).1.1, fun R h H e => (RdL.ro 1 (g i).da (g i).nd.data.length ((g i).nd.data.map u8v)).none R h (H.2 i hi).1.1 e⟩
end Go.Proofs.YtdieogcemmnaaaaGreatDoor

/- The document's paths and its tree's reads: contracts. No condition. -/
namespace Go.Proofs.YtdieogcemmnaaaaGreatDoor
set_option linter.unusedSimpArgs false
set_option linter.unusedVariables false
open Go.Proofs.YtdieogcemmnaaaaGreatDoor RX
set_option maxRecDepth 100000

theorem appS1 (a : Option Addr) (n c : Nat) (l : List Nm) (q : Nat) (x : Nm) (hb : n ≤ 1000000000) {P : HP} (hP : HP.ent P (OwS a n c l)) {C : Value → HP}
    (post : ∀ a' c' R h, (HP.sep (OwS a' (n + 1) c' (l ++ [x])) (HP.one q (.cells #[sE x] 9 (0, 0)))).p R h → (C (.slice a' (n + 1) c')).p R h) :
    OTri Tryz.prog (appS 29 29 (.slice a n c) (.slice (some ⟨q, 0, none⟩) 1 1)) (HP.sep P (HP.one q (.cells #[sE x] 9 (0, 0)))) C := by
  obtain ⟨i, hi, h1, h2, h3⟩ := info_parts infoStr
  have := append_ok 29 29 9 i (.string ⟨#[]⟩) undSs hi h1 (by rw [h2]; rfl) (by omega) a n c (l.map sE) (HP.one q (.cells #[sE x] 9 (0, 0))) ⟨q, 0, none⟩ 1 1 [sE x] (one_rd q #[sE x] 9) (by simp [h2]) (by intro u hu; simp at hu; subst hu; rfl) (by unfold maxLen; omega) (by rw [h3]; omega)
  rw [h2] at this
  refine OTri.pre3 (this.weak (fun _ _ h => h) ?_) (HP.ent.sep hP _)
  rintro v R h ⟨a', c', rfl, H⟩
  refine post a' c' R h ?_
  have e : (l ++ [x]).map sE = l.map sE ++ [sE x] := by simp
  show (HP.sep (OwC 9 1 a' (n + 1) c' ((l ++ [x]).map sE)) _).p R h
  rw [e]
  exact H
theorem splitB_step {s : List UInt8} {from' i : Nat} (h1 : from' ≤ i) (hi : s[i]? = some 47) (hno : ∀ j, from' ≤ j → j < i → s[j]? ≠ some 47) : splitB 47 (s.drop from') = (s.take i).drop from' :: splitB 47 (s.drop (i + 1)) := by
  have hlt := (List.getElem?_eq_some_iff.1 hi).1
  have e1 : s.drop from' = (s.take i).drop from' ++ 47 :: s.drop (i + 1) := by
    conv => lhs; rw [← List.take_append_drop i s]
    rw [List.drop_append_of_le_length (by rw [List.length_take]; omega), List.drop_eq_getElem_cons hlt]
    rw [List.getElem?_eq_getElem hlt] at hi
    rw [Option.some.inj hi]
  rw [e1]
  refine splitB_app (fun hm => ?_) _
  obtain ⟨j, hj⟩ := List.mem_iff_getElem?.1 hm
  rw [List.getElem?_drop, List.getElem?_take] at hj
  split at hj
  · exact hno (from' + j) (by omega) (by omega) hj
  · cases hj
theorem splitB_last {s : List UInt8} {from' : Nat} (h1 : from' ≤ s.length) (hno : ∀ j, from' ≤ j → j < s.length → s[j]? ≠ some 47) : splitB 47 (s.drop from') = [(s.take s.length).drop from'] := by
  rw [List.take_length]
  refine splitB_one fun hm => ?_
  obtain ⟨j, hj⟩ := List.mem_iff_getElem?.1 hm
  rw [List.getElem?_drop] at hj
  exact hno (from' + j) (by omega) (List.getElem?_eq_some_iff.1 hj).1 hj
theorem splitB_mem {x : List UInt8} : ∀ {s : List UInt8}, x ∈ splitB 47 s → x.length ≤ s.length
  | [], h => by simp [splitB] at h; subst h; simp
  | b :: r, h => by
    unfold splitB at h
    split at h
    · rcases List.mem_cons.1 h with rfl | h
      · simp
      · have := splitB_mem h; simp; omega
    · split at h
      · rename_i y q hy
        rcases List.mem_cons.1 h with rfl | h
        · have := splitB_mem (x := y) (s := r) (by rw [hy]; simp)
          simp; omega
        · have := splitB_mem (x := x) (s := r) (by rw [hy]; simp [h])
          simp; omega
      · simp at h; subst h; simp
theorem strIxC {t ty : TypeId} {i : Nat} (ht : Tryz.prog.underlying t = some .string) {s : List UInt8} {k : Nat} {c : UInt8} (hk : s[k]? = some c) {A : HP} :
    ORead Tryz.prog (semW (.index t (.tmp i) (.const (.int .i64 k))) ty [(i, .string ⟨s.toArray⟩)]) A (.int .u8 c.toNat) := fun w R hh F st hA => by
  have := strIx (t := t) (ty := ty) (i := i) (j := i + 1) (by omega) ht rfl hk (A := A) w R hh F st hA
  have e : semW (.index t (.tmp i) (.const (.int .i64 k))) ty [(i, .string ⟨s.toArray⟩)] = semW (.index t (.tmp i) (.tmp (i + 1))) ty [(i, .string ⟨s.toArray⟩), (i + 1, .int .i64 k)] := by
    have h' : (i == i + 1) = false := by simp
    simp [semW, execOp, arW, h']
  rw [e]; exact this
def Split03 (s : Nm) (v : Value) : HP := HP.ex fun a => HP.ex fun c => HP.and (v = .tuple #[.slice a ((splitP s).getD []).length c, .bool (splitP s).isSome]) (OwS a ((splitP s).getD []).length c ((splitP s).getD []))
set_option maxHeartbeats 4000000 in
theorem split03_ok (s : Nm) (hs : s.length ≤ 100000) : Tri Tryz.prog 197 #[sE s] HP.tt (Split03 s) := by
  refine tri_of_tree (ρ := [.s s]) mixed Tryz.func197 tree_split03 ?_
  unfold t_split03
  simp only [T.den, E.prop, E.den, RX.look, F1.app, F2.app, Uni.int_i, Uni.nat_n, Uni.bool_c, Uni.str_s, Uni.adr_a, Uni.val_v, Uni.hp_p, hden, cden, V.den, W.den, A.den, BR.den, SA.den, FV.den, capV, exs, exP, allP, Cur.app, List.map_cons, List.map_nil, List.cons_append, List.nil_append, List.drop_succ_cons, List.drop_zero, List.length_cons, List.length_nil, Nat.zero_add, Nat.reduceAdd, Int.neg_neg, Bool.not_not, List.append_nil, Nat.add_zero, List.getElem?_cons_zero, List.getElem?_cons_succ, Decidable.not_not, semW_eq, semW_load, semW_store, semW_storeC, semW_append, semW_lookup, semW_lookupC, semW_update, semW_updateC, semW_updateK, semW_delete, semW_range, semW_next, semW_entry, semW_nil, ne_eq, Nat.reduceEqDiff, not_false_eq_true, semW_sllh]
  intro q0
  have empty : ∀ (q : Nat) {R h}, (HP.one q (.cells #[] 9 (0, 0))).p R h → (OwS (some ⟨q, 0, none⟩) 0 0 []).p R h := fun q R h H => ⟨by simp, .inr ⟨q, #[], rfl, H, Nat.le_refl _, by unfold maxLen; omega, by simp, by simp⟩⟩
  have none' : splitP s = none → ∀ (q : Nat), HP.ent (HP.one q (.cells #[] 9 (0, 0))) (Split03 s (.tuple #[.slice (some ⟨q, 0, none⟩) 0 0, .bool false])) := fun h q => .of fun R hh H => by
    refine ⟨some ⟨q, 0, none⟩, 0, ?_, ?_⟩
    · rw [h]; rfl
    · rw [h]; exact empty q H
  refine ⟨fun e => .of fun R h H => ?_, fun ne => ⟨fun e => none' ?_ q0, fun h0 => ?_⟩⟩
  · subst e
    exact ⟨some ⟨q0, 0, none⟩, 0, rfl, empty q0 H⟩
  · have : s = [] := List.eq_nil_of_length_eq_zero (by omega)
    subst this; rfl
  obtain ⟨b, r, rfl⟩ : ∃ b r, s = b :: r := by
    cases s with
    | nil => exact absurd rfl h0
    | cons b r => exact ⟨b, r, rfl⟩
  have hsz : (b :: r).length = r.length + 1 := rfl
  refine ⟨b.toNat, strIxC (k := 0) (by kernel_rfl) rfl, fun e => none' ?_ q0, fun e => ?_⟩
  · unfold splitP
    rw [if_neg ne]
    simp only
    rw [if_neg]
    rintro rfl
    exact e rfl
  have hb : b = 47 := UInt8.toNat_inj.1 (by have : (47 : UInt8).toNat = 47 := rfl; omega)
  subst hb
  have sp : splitP (47 :: r) = if (splitB 47 r).length ≤ 8 ∧ (splitB 47 r).all nameOk = true then some (splitB 47 r) else none := by
    unfold splitP
    rw [if_neg ne]
    simp only [if_true]
  have hbl : (splitB 47 r).length ≤ r.length + 1 := by rw [splitB_len]; have := List.count_le_length (a := (47 : UInt8)) (l := r); omega
  refine ⟨fun a n' c' fr i P => ∃ (u k : Nat) (L : List Nm), fr = u ∧ i = k ∧ n' = L.length ∧ (n' ≠ 0 → a.isSome = true) ∧ HP.ent P (OwS a n' c' L) ∧ 1 ≤ k ∧
    ((u ≤ k ∧ k ≤ r.length + 1 ∧ splitB 47 r = L ++ splitB 47 ((47 :: r).drop u) ∧ ∀ j, u ≤ j → j < k → (47 :: r)[j]? ≠ some 47) ∨ (k = r.length + 2 ∧ splitB 47 r = L)), fun _ _ _ _ i _ => r.length + 3 - i.toNat,
    ⟨1, 1, [], rfl, rfl, rfl, fun h => absurd rfl h, .of fun R h H => empty q0 H, Nat.le_refl _, .inl ⟨Nat.le_refl _, by omega, rfl, fun j h1 h2 => by omega⟩⟩, ?_⟩
  rintro a _ c' _ _ P ⟨u, k, L, rfl, rfl, rfl, hsm, hP, hk1, hst⟩
  have hLl : L.length ≤ r.length + 1 := by
    rcases hst with ⟨_, _, h, _⟩ | ⟨_, h⟩
    · have := congrArg List.length h; rw [List.length_append] at this; omega
    · rw [← h]; omega
  have grow : ∀ (x : Nm) (q : Nat) (st : (r.length + 1 ≥ k + 1 ∧ splitB 47 r = (L ++ [x]) ++ splitB 47 ((47 :: r).drop (k + 1))) ∨ (k = r.length + 1 ∧ splitB 47 r = L ++ [x])) (a' : Option Addr) (c'' : Nat) (R h : PH), (HP.sep (OwS a' (L.length + 1) c'' (L ++ [x])) (HP.one q (.cells #[sE x] 9 (0, 0)))).p R h →
      (IntKind.i64.min ≤ (k : Int) + 1 ∧ (k : Int) + 1 ≤ IntKind.i64.max) ∧ ((IntKind.i64.min ≤ (k : Int) + 1 ∧ (k : Int) + 1 ≤ IntKind.i64.max) → (∃ (u' k' : Nat) (L' : List Nm), (k : Int) + 1 = u' ∧ (k : Int) + 1 = k' ∧ L.length + 1 = L'.length ∧ (L.length + 1 ≠ 0 → a'.isSome = true) ∧ HP.ent (OwS a' (L.length + 1) c'' (L ++ [x])) (OwS a' (L.length + 1) c'' L') ∧ 1 ≤ k' ∧
    ((u' ≤ k' ∧ k' ≤ r.length + 1 ∧ splitB 47 r = L' ++ splitB 47 ((47 :: r).drop u') ∧ ∀ j, u' ≤ j → j < k' → (47 :: r)[j]? ≠ some 47) ∨ (k' = r.length + 2 ∧ splitB 47 r = L'))) ∧ r.length + 3 - ((k : Int) + 1).toNat < r.length + 3 - (k : Int).toNat) := fun x q st a' c'' R h H => by
    have hk : k ≤ r.length + 1 := by omega
    refine ⟨inI64' _ (by omega) (by omega), fun _ => ⟨⟨k + 1, k + 1, L ++ [x], by omega, by omega, by simp, fun _ => OwC.some (HP.sep_left H) (by omega), .of fun _ _ h => h, by omega, ?_⟩, by omega⟩⟩
    rcases st with ⟨h1, h2⟩ | ⟨h1, h2⟩
    · exact .inl ⟨Nat.le_refl _, by omega, h2, fun j h3 h4 => by omega⟩
    · exact .inr ⟨by omega, h2⟩
  refine ⟨fun hle => ⟨fun hke => ?_, fun hke => ?_⟩, fun hgt => ?_⟩
  · rcases hst with ⟨h1, h2, h3, h4⟩ | ⟨h1, _⟩
    · have hkl : k = r.length + 1 := by omega
      refine ⟨_, sliceStr (47 :: r) (some u) (some k) (by simp; omega) (by simp; omega) HP.tt, fun q => ?_⟩
      refine appS1 a L.length c' L q _ (by omega) hP fun a' c'' R h H => ?_
      refine ⟨a', _, c'', _, rfl, ?_, H⟩
      refine grow _ q (.inr ⟨hkl, ?_⟩) a' c'' R h H
      rw [h3, splitB_last (by simp; omega) (fun j h5 h6 => h4 j h5 (by simp at h6; omega))]
      simp only [Option.getD_some]
      rw [hkl]; rfl
    · exfalso; simp at hle; omega
  · rcases hst with ⟨h1, h2, h3, h4⟩ | ⟨h1, _⟩
    · have hkl : k < r.length + 1 := by simp at hke; omega
      obtain ⟨x, hx⟩ := getN (l := 47 :: r) (k := k) (by simp; omega)
      refine ⟨x.toNat, strIx (by decide) (by kernel_rfl) rfl hx, fun h47 => ?_, fun h47 => ?_⟩
      · have hx47 : x = 47 := UInt8.toNat_inj.1 (by have : (47 : UInt8).toNat = 47 := rfl; omega)
        subst hx47
        refine ⟨_, sliceStr (47 :: r) (some u) (some k) (by simp; omega) (by simp; omega) HP.tt, fun q => ?_⟩
        refine appS1 a L.length c' L q _ (by omega) hP fun a' c'' R h H => ?_
        refine ⟨a', _, c'', _, rfl, ?_, H⟩
        refine grow _ q (.inl ⟨by omega, ?_⟩) a' c'' R h H
        rw [h3, splitB_step h1 hx h4]
        simp
      · refine ⟨inI64' _ (by omega) (by omega), fun _ => ⟨⟨u, k + 1, L, rfl, by omega, rfl, hsm, hP, by omega, .inl ⟨by omega, by omega, h3, fun j h5 h6 => ?_⟩⟩, by dsimp only; omega⟩⟩
        rcases Nat.lt_or_eq_of_le (Nat.le_of_lt_succ h6) with h | h
        · exact h4 j h5 h
        · subst h
          rw [hx]
          intro e
          rw [Option.some.inj e] at h47
          exact h47 rfl
    · exfalso; simp at hle; omega
  · have hL : splitB 47 r = L := by
      rcases hst with ⟨_, h2, _, _⟩ | ⟨_, h2⟩
      · exfalso; simp at hgt; omega
      · exact h2
    refine ⟨fun _ _ _ _ _ i => ∃ m : Nat, i = m ∧ m ≤ L.length ∧ ∀ x ∈ L.take m, nameOk x = true, fun _ _ _ _ _ i => L.length - i.toNat, ⟨0, rfl, Nat.zero_le _, fun x h => by simp at h⟩, ?_⟩
    rintro _ _ _ _ _ _ ⟨m, rfl, hm, hall⟩
    refine ⟨fun hlt => ⟨by omega, fun _ => ⟨hsm (by omega), fun _ => ?_⟩⟩, fun hge => ⟨fun h8 => ?_, fun h8 => ?_⟩⟩
    · obtain ⟨x, hx⟩ := getN (l := L) (k := m) (by omega)
      have hxm := List.mem_of_getElem? hx
      have hxl : x.length ≤ r.length := splitB_mem (by rw [hL]; exact hxm)
      refine ⟨x, ORead.ent hP (loadStr (RdL.ow _ _ _ _ _ _).rd hx), ?_⟩
      refine (name03_ok x (by omega)).weak (fun _ _ _ => trivial) ?_
      rintro v R h rfl
      refine ⟨nameOk x, rfl, ⟨fun hno q => none' ?_ q, fun hyes => ⟨inI64' _ (by omega) (by omega), fun _ => ⟨⟨m + 1, by omega, by omega, fun y hy => ?_⟩, by dsimp only; omega⟩⟩⟩, trivial⟩
      · rw [sp, if_neg]
        rintro ⟨_, hall'⟩
        rw [hL, List.all_eq_true] at hall'
        exact hno (hall' x hxm)
      · rw [List.take_add_one, hx, List.mem_append] at hy
        rcases hy with hy | hy
        · exact hall y hy
        · simp at hy; subst hy; exact hyes
    · intro q
      refine none' ?_ q
      rw [sp, if_neg]
      rintro ⟨h, _⟩
      rw [hL] at h; omega
    · have hall' : (splitB 47 r).all nameOk = true := by
        rw [hL, List.all_eq_true]
        intro x hx
        exact hall x (by rw [List.take_of_length_le (by omega)]; exact hx)
      have e : splitP (47 :: r) = some L := by rw [sp, if_pos ⟨by rw [hL]; omega, hall'⟩, hL]
      refine hP.trans (.of fun R h H => ⟨a, c', ?_, ?_⟩)
      · rw [e]; rfl
      · rw [e]; exact H
end Go.Proofs.YtdieogcemmnaaaaGreatDoor

/- The document's tree: Join, Inside, Entry, Find, Up, Place. No condition. -/
namespace Go.Proofs.YtdieogcemmnaaaaGreatDoor
set_option linter.unusedSimpArgs false
set_option linter.unusedVariables false
open Go.Proofs.YtdieogcemmnaaaaGreatDoor RX
set_option maxRecDepth 100000

theorem joinN_nil {l : List Nm} (h : joinN l = []) : l = [] := by
  cases l with
  | nil => rfl
  | cons x r => simp [joinN] at h
theorem join03_ok (a : Option Addr) (n c : Nat) (l : List Nm) (S : HP) (hr : RdL S a n (l.map sE)) (hl : l.length = n) (h16 : ∀ x ∈ l, nameOk x = true) (h8 : l.length ≤ 8) :
    Tri Tryz.prog 198 #[.slice a n c] S (fun v => HP.and (v = sE (joinP l)) S) := by
  refine Tri.fact (φ := n ≠ 0 → a.isSome = true) (fun R h H => hr.isSome H) fun ha => ?_
  refine tri_of_tree (ρ := [.a a, .n n, .n c, .p S]) mixed Tryz.func198 tree_join03 ?_
  unfold t_join03
  simp only [T.den, E.prop, E.den, RX.look, F1.app, F2.app, Uni.int_i, Uni.nat_n, Uni.bool_c, Uni.str_s, Uni.adr_a, Uni.val_v, Uni.hp_p, hden, cden, V.den, W.den, A.den, BR.den, SA.den, FV.den, capV, exs, exP, allP, Cur.app, List.map_cons, List.map_nil, List.cons_append, List.nil_append, List.drop_succ_cons, List.drop_zero, List.length_cons, List.length_nil, Nat.zero_add, Nat.reduceAdd, Int.neg_neg, Bool.not_not, List.append_nil, Nat.add_zero, List.getElem?_cons_zero, List.getElem?_cons_succ, Decidable.not_not, semW_eq, semW_load, semW_store, semW_storeC, semW_append, semW_lookup, semW_lookupC, semW_update, semW_updateC, semW_updateK, semW_delete, semW_range, semW_next, semW_entry, semW_nil, ne_eq, Nat.reduceEqDiff, not_false_eq_true]
  refine ⟨fun s i => ∃ k : Nat, i = k ∧ k ≤ n ∧ s = joinN (l.take k), fun _ i => n - i.toNat, ⟨0, rfl, Nat.zero_le _, by simp [joinN]⟩, ?_⟩
  rintro _ _ ⟨k, rfl, hk, rfl⟩
  refine ⟨fun hlt => ⟨by omega, fun _ => ⟨ha (by omega), fun _ => ?_⟩⟩, fun hge => ?_⟩
  · obtain ⟨x, hx⟩ := getN (l := l) (k := k) (by omega)
    have hxl := nameOk_len (h16 x (List.mem_of_getElem? hx))
    have hjl := joinN_len (l := l.take k) fun y hy => h16 y (List.mem_of_mem_take hy)
    rw [List.length_take] at hjl
    refine ⟨x, loadStr hr.rd hx, by simp; omega, fun _ => ⟨by simp; omega, fun _ => ⟨inI64' _ (by omega) (by omega), fun _ => ⟨⟨k + 1, by omega, by omega, ?_⟩, by dsimp only; omega⟩⟩⟩⟩
    rw [List.take_add_one, hx, Option.toList_some, joinN_app]
    simp
  · have hkn : l.take k = l := List.take_of_length_le (by omega)
    rw [hkn]
    refine ⟨fun e => .of fun R h H => ⟨?_, H⟩, fun e => .of fun R h H => ⟨?_, H⟩⟩
    · rw [joinN_nil e]; rfl
    · unfold joinP
      rw [if_neg fun h => e (by rw [h]; rfl)]
      rfl
set_option maxHeartbeats 1000000 in
theorem inside03_ok (s o : Nm) (hs : s.length ≤ 100000) (ho : o.length ≤ 100000) : Tri Tryz.prog 144 #[sE s, sE o] HP.tt (fun v => HP.pure (v = .bool (insideP s o))) := by
  refine tri_of_tree (ρ := [.s s, .s o]) mixed Tryz.func144 tree_inside03 ?_
  unfold t_inside03
  simp only [T.den, E.prop, E.den, RX.look, F1.app, F2.app, Uni.int_i, Uni.nat_n, Uni.bool_c, Uni.str_s, Uni.adr_a, Uni.val_v, Uni.hp_p, hden, cden, V.den, W.den, A.den, BR.den, SA.den, FV.den, capV, exs, exP, allP, Cur.app, List.map_cons, List.map_nil, List.cons_append, List.nil_append, List.drop_succ_cons, List.drop_zero, List.length_cons, List.length_nil, Nat.zero_add, Nat.reduceAdd, Int.neg_neg, Bool.not_not, List.append_nil, Nat.add_zero, List.getElem?_cons_zero, List.getElem?_cons_succ, Decidable.not_not, semW_eq, semW_load, semW_store, semW_storeC, semW_append, semW_lookup, semW_lookupC, semW_update, semW_updateC, semW_updateK, semW_delete, semW_range, semW_next, semW_entry, semW_nil, ne_eq, Nat.reduceEqDiff, not_false_eq_true]
  refine (split03_ok s hs).weak (fun _ _ h => h) ?_
  rintro v R h ⟨a1, c1, rfl, H1⟩
  have r1 : ((splitP s).getD []).length ≠ 0 → a1.isSome = true := fun h => OwC.some H1 (by omega)
  refine ⟨a1, _, c1, _, _, rfl, ?_, H1⟩
  clear H1
  refine (split03_ok o ho).weak (fun _ _ h => h) ?_
  rintro v R h ⟨a2, c2, rfl, H2⟩
  have r2 : ((splitP o).getD []).length ≠ 0 → a2.isSome = true := fun h => OwC.some H2 (by omega)
  refine ⟨a2, _, c2, _, _, rfl, ?_, H2⟩
  clear H2
  cases e1 : splitP s with
  | none => exact ⟨fun _ => .of fun _ _ _ => (by show Value.bool false = .bool (insideP s o); unfold insideP; rw [e1]), fun h => by simp at h⟩
  | some l =>
    refine ⟨fun h => absurd rfl h, fun _ => ?_⟩
    cases e2 : splitP o with
    | none => exact ⟨fun _ => .of fun _ _ _ => (by show Value.bool false = .bool (insideP s o); unfold insideP; rw [e1, e2]), fun h => by simp at h⟩
    | some q =>
      rw [e1] at r1; rw [e2] at r2
      simp only [Option.getD_some] at r1 r2 ⊢
      have hin : insideP s o = (decide (q.length < l.length) && decide (q = l.take q.length)) := by unfold insideP; rw [e1, e2]
      have hl8 := (splitP_len e1).1
      have hq8 := (splitP_len e2).1
      refine ⟨fun h => absurd rfl h, fun _ => ⟨fun h => .of fun _ _ _ => ?_, fun h => ?_⟩⟩
      · show Value.bool false = .bool (insideP s o)
        rw [hin, decide_eq_false (by omega)]; rfl
      refine ⟨fun _ i => ∃ k : Nat, i = k ∧ k ≤ q.length ∧ q.take k = l.take k, fun _ i => q.length - i.toNat, ⟨0, rfl, Nat.zero_le _, by simp⟩, ?_⟩
      rintro _ _ ⟨k, rfl, hk, hpre⟩
      refine ⟨fun hlt => ⟨by omega, fun _ => ⟨by omega, fun _ => ⟨r1 (by omega), fun _ => ?_⟩⟩⟩, fun hge => .of fun _ _ _ => ?_⟩
      · obtain ⟨x, hx⟩ := getN (l := l) (k := k) (by omega)
        obtain ⟨y, hy⟩ := getN (l := q) (k := k) (by omega)
        refine ⟨x, loadStr (RdL.ow _ _ _ _ _ _).rd hx, r2 (by omega), fun _ => ⟨y, loadStr (RdL.ow _ _ _ _ _ _).rd hy, fun hne => .of fun _ _ _ => ?_, fun he => ⟨inI64' _ (by omega) (by omega), fun _ => ⟨⟨k + 1, by omega, by omega, take_eq hy hx hpre he.symm⟩, by dsimp only; omega⟩⟩⟩⟩
        show Value.bool false = .bool (insideP s o)
        rw [hin, decide_eq_false (p := q = l.take q.length), Bool.and_false]
        intro e
        rw [e, List.getElem?_take, if_pos (by omega), hx] at hy
        exact hne (Option.some.inj hy)
      · show Value.bool true = .bool (insideP s o)
        rw [List.take_of_length_le (by omega)] at hpre
        have hkq : k = q.length := by omega
        rw [hkq] at hpre
        rw [hin, decide_eq_true (by omega), decide_eq_true hpre]; rfl
def entI : Option Nat → Int
  | some k => k
  | none => -1
theorem lk_drop' {l : List (Nm × Nat)} {nm : Nm} {k : Nat} {e : Nm × Nat} (he : l[k]? = some e) : lk (l.drop k) nm = if nm = e.1 then some e.2 else lk (l.drop (k + 1)) nm := by
  have hlt := (List.getElem?_eq_some_iff.1 he).1
  rw [List.drop_eq_getElem_cons hlt]
  rw [List.getElem?_eq_getElem hlt] at he
  rw [Option.some.inj he]
  rfl
theorem rEntry_ok {b : Nat} {g : Nat → NodeE} {i : Nat} (hi : i < 64) (nm : Nm) (hl : (g i).nd.ents.length ≤ 100000) : Tri Tryz.prog 196 #[.pointer (some ⟨b, 0, none⟩), .int .i64 i, sE nm] (RT b g)
    (fun v => HP.and (v = .int .i64 (entI (lk (g i).nd.ents nm))) (RT b g)) := by
  refine Tri.fact (φ := (g i).nd.ents.length ≠ 0 → (g i).ea.isSome = true) (fun R h H => RT.ea H i hi) fun hea => ?_
  refine tri_of_tree (ρ := [.n b, .p (RT b g), .i i, .s nm]) mixed Tryz.func196 tree_rEntry ?_
  unfold t_rEntry
  simp only [T.den, E.prop, E.den, RX.look, F1.app, F2.app, Uni.int_i, Uni.nat_n, Uni.bool_c, Uni.str_s, Uni.adr_a, Uni.val_v, Uni.hp_p, hden, cden, V.den, W.den, A.den, BR.den, SA.den, FV.den, capV, exs, exP, allP, Cur.app, List.map_cons, List.map_nil, List.cons_append, List.nil_append, List.drop_succ_cons, List.drop_zero, List.length_cons, List.length_nil, Nat.zero_add, Nat.reduceAdd, Int.neg_neg, Bool.not_not, List.append_nil, Nat.add_zero, List.getElem?_cons_zero, List.getElem?_cons_succ, Decidable.not_not, semW_eq, semW_load, semW_store, semW_storeC, semW_append, semW_lookup, semW_lookupC, semW_update, semW_updateC, semW_updateK, semW_delete, semW_range, semW_next, semW_entry, semW_nil, ne_eq, Nat.reduceEqDiff, not_false_eq_true, semW_ix, semW_fld]
  refine ⟨.pointer (some ⟨b, i * 5, none⟩), ixN rfl hi, .pointer (some ⟨b, i * 5 + 4, none⟩), fldN (by omega), (g i).ea, (g i).nd.ents.length, (g i).ec, rtEnts hi, ?_⟩
  refine ⟨fun _ j => ∃ k : Nat, j = k ∧ k ≤ (g i).nd.ents.length ∧ lk ((g i).nd.ents.drop k) nm = lk (g i).nd.ents nm, fun _ j => (g i).nd.ents.length - j.toNat, ⟨0, rfl, Nat.zero_le _, rfl⟩, ?_⟩
  rintro _ _ ⟨k, rfl, hk, hlk⟩
  refine ⟨fun hlt => ⟨by omega, fun _ => ⟨hea (by omega), fun _ => ?_⟩⟩, fun hge => .of fun R h H => ⟨?_, H⟩⟩
  · obtain ⟨e, he⟩ := getN (l := (g i).nd.ents) (k := k) (by omega)
    rw [lk_drop' he] at hlk
    refine ⟨e.1, rtEnt1 hi he undStr (by kernel_rfl) (by kernel_rfl) rfl, fun h => ⟨e.2, rtEnt1 hi he undInt (by kernel_rfl) (by kernel_rfl) rfl, .of fun R hh H => ⟨?_, H⟩⟩, fun h => ⟨inI64' _ (by omega) (by omega), fun _ => ⟨⟨k + 1, by omega, by omega, ?_⟩, by dsimp only; omega⟩⟩⟩
    · rw [if_pos h.symm] at hlk
      rw [← hlk]; rfl
    · rw [if_neg fun h' => h h'.symm] at hlk
      exact hlk
  · rw [List.drop_eq_nil_of_le (by omega)] at hlk
    rw [← hlk]; rfl
theorem TWf.tgt' {B : Nat} {T : List Nd} (wf : TWf B T) {at' : Nat} {n : Nd} (hn : nodeAt T at' = some n) {nm : Nm} {k : Nat} (h : lk n.ents nm = some k) : ∃ m, nodeAt T k = some m := Option.isSome_iff_exists.1 (wf.tgt n (nodeAt_mem hn).1 _ (lk_mem h))
theorem TWf.lt64 {B : Nat} {T : List Nd} (wf : TWf B T) {k : Nat} {n : Nd} (hn : nodeAt T k = some n) : k < 64 := by
  have := (wf.at' hn).1.num
  rw [(wf.at' hn).2.1] at this
  exact this
theorem find_node {B : Nat} {T : List Nd} (wf : TWf B T) : ∀ {l : List Nm} {at' : Nat}, (nodeAt T at').isSome = true → (walkS T at' l).2 = 0 → (nodeAt T (walkS T at' l).1).isSome = true
  | [], at', h, _ => h
  | nm :: r, at', h, h0 => by
    obtain ⟨n, hn⟩ := Option.isSome_iff_exists.1 h
    rw [walk_cons, hn] at h0 ⊢
    simp only at h0 ⊢
    split at h0
    · cases h0
    · rename_i hk
      rw [if_neg hk]
      cases hl : lk n.ents nm with
      | none => rw [hl] at h0; cases h0
      | some k =>
        rw [hl] at h0
        obtain ⟨m, hm⟩ := wf.tgt' hn hl
        exact find_node wf (by rw [hm]; rfl) h0
theorem find_at {B : Nat} {T : List Nd} (wf : TWf B T) {s : Nm} (h : (findS T s).2 = 0) : ∃ n, nodeAt T (findS T s).1 = some n ∧ (findS T s).1 < 64 := by
  obtain ⟨r, h1, _⟩ := wf.root
  unfold findS at h ⊢
  cases hs : splitP s with
  | none => rw [hs] at h; cases h
  | some l =>
    rw [hs] at h
    simp only at h ⊢
    obtain ⟨n, hn⟩ := Option.isSome_iff_exists.1 (find_node wf (l := l) (at' := 0) (by rw [h1]; rfl) h)
    exact ⟨n, hn, wf.lt64 hn⟩
set_option maxHeartbeats 1000000 in
theorem rFind_ok {b B : Nat} {g : Nat → NodeE} {NS : List Nd} (hB : B ≤ 100000) (wf : TWf B NS) (hg : Rp g NS) (s : Nm) (hs : s.length ≤ 100000) : Tri Tryz.prog 142 #[.pointer (some ⟨b, 0, none⟩), sE s] (RT b g)
    (fun v => HP.and (v = .tuple #[.int .i64 (findS NS s).1, .int .i64 (findS NS s).2]) (RT b g)) := by
  refine tri_of_tree (ρ := [.n b, .p (RT b g), .s s]) mixed Tryz.func142 tree_rFind ?_
  unfold t_rFind
  simp only [T.den, E.prop, E.den, RX.look, F1.app, F2.app, Uni.int_i, Uni.nat_n, Uni.bool_c, Uni.str_s, Uni.adr_a, Uni.val_v, Uni.hp_p, hden, cden, V.den, W.den, A.den, BR.den, SA.den, FV.den, capV, exs, exP, allP, Cur.app, List.map_cons, List.map_nil, List.cons_append, List.nil_append, List.drop_succ_cons, List.drop_zero, List.length_cons, List.length_nil, Nat.zero_add, Nat.reduceAdd, Int.neg_neg, Bool.not_not, List.append_nil, Nat.add_zero, List.getElem?_cons_zero, List.getElem?_cons_succ, Decidable.not_not, semW_eq, semW_load, semW_store, semW_storeC, semW_append, semW_lookup, semW_lookupC, semW_update, semW_updateC, semW_updateK, semW_delete, semW_range, semW_next, semW_entry, semW_nil, ne_eq, Nat.reduceEqDiff, not_false_eq_true, semW_ix, semW_fld]
  refine (split03_ok s hs).weak (fun _ _ h => trivial) ?_
  rintro v R h ⟨a1, c1, rfl, H1⟩
  have r1 : ((splitP s).getD []).length ≠ 0 → a1.isSome = true := fun h => OwC.some H1 (by omega)
  refine ⟨a1, _, c1, _, _, rfl, ?_, H1⟩
  clear H1
  cases e1 : splitP s with
  | none =>
    refine ⟨fun _ => .of fun _ _ H => ⟨?_, H⟩, fun h => by simp at h⟩
    unfold findS; rw [e1]; rfl
  | some L =>
    have hf : findS NS s = walkS NS 0 L := findS_split e1
    rw [e1] at r1
    simp only [Option.getD_some] at r1 ⊢
    have hL8 := (splitP_len e1).1
    obtain ⟨r0, hr0, _⟩ := wf.root
    refine ⟨fun h => by simp at h, fun _ => ?_⟩
    refine ⟨fun _ _ at' j => ∃ (k d : Nat), j = k ∧ at' = d ∧ k ≤ L.length ∧ (nodeAt NS d).isSome = true ∧ walkS NS d (L.drop k) = walkS NS 0 L, fun _ _ _ j => L.length - j.toNat, ⟨0, 0, rfl, rfl, Nat.zero_le _, by rw [hr0]; rfl, rfl⟩, ?_⟩
    rintro _ _ _ _ ⟨k, d, rfl, rfl, hk, hd, hw⟩
    obtain ⟨n, hn⟩ := Option.isSome_iff_exists.1 hd
    have hd64 := wf.lt64 hn
    have hgn : (g d).nd = n := by rw [hg d hd64, ndF_some hn]
    refine ⟨fun hlt => ?_, fun hge => .of fun R h H => ⟨?_, H⟩⟩
    · obtain ⟨x, hx⟩ := getN (l := L) (k := k) (by omega)
      have hdr : L.drop k = x :: L.drop (k + 1) := by
        have hlt' : k < L.length := by omega
        rw [List.drop_eq_getElem_cons hlt']
        rw [List.getElem?_eq_getElem hlt'] at hx
        rw [Option.some.inj hx]
      rw [hdr, walk_cons, hn] at hw
      simp only at hw
      refine ⟨.pointer (some ⟨b, d * 5, none⟩), ixN rfl hd64, .pointer (some ⟨b, d * 5 + 1, none⟩), fldN (by omega), (g d).nd.kind, rtKind hd64, fun hne => .of fun R h H => ⟨?_, H⟩, fun he => ⟨by omega, fun _ => ⟨r1 (by omega), fun _ => ⟨x, loadStr (RdL.ow _ _ _ _ _ _).rd hx, ?_⟩⟩⟩⟩
      · rw [hgn] at hne
        rw [if_pos hne] at hw
        rw [hf, ← hw]; rfl
      · rw [hgn] at he
        rw [if_neg (by simpa using he)] at hw
        refine (rEntry_ok hd64 x (by rw [hgn]; have := (wf.at' hn).1.efew; omega)).weak (fun _ _ h => h) ?_
        rintro v R h ⟨rfl, H⟩
        rw [hgn]
        cases hl : lk n.ents x with
        | none =>
          rw [hl] at hw
          refine ⟨_, rfl, ⟨fun _ => .of fun R h H => ⟨?_, H⟩, fun h => absurd (show entI none < 0 by decide) h⟩, H⟩
          rw [hf, ← hw]; rfl
        | some j =>
          rw [hl] at hw
          obtain ⟨m, hm⟩ := wf.tgt' hn hl
          refine ⟨_, rfl, ⟨fun h => absurd h (show ¬ ((j : Int) < 0) by omega), fun _ => ⟨inI64' _ (by omega) (by omega), fun _ => ⟨⟨k + 1, j, by omega, rfl, by omega, by rw [hm]; rfl, hw⟩, by dsimp only; omega⟩⟩⟩, H⟩
    · rw [List.drop_eq_nil_of_le (by omega)] at hw
      rw [hf, ← hw]; rfl
theorem semW_slhi {i j : Nat} {t ty : TypeId} {u v : Value} (h : i ≠ j) : semW (.slice t (.tmp i) none (some (.tmp j)) none) ty [(i, u), (j, v)] = sliceS t u none (some v) none := by
  have hb : (i == j) = false := by simpa using h
  simp [semW, execOp, arW, sliceS, List.find?, hb]
set_option maxHeartbeats 1000000 in
theorem rUp_ok (s : Nm) (hs : s.length ≤ 100000) : Tri Tryz.prog 141 #[sE s] HP.tt
    (fun v => HP.pure (v = .tuple #[sE ((parentS s).getD ([], [])).1, sE ((parentS s).getD ([], [])).2, .int .i64 (if (parentS s).isSome then 0 else 20)])) := by
  refine tri_of_tree (ρ := [.s s]) mixed Tryz.func141 tree_rUp ?_
  unfold t_rUp
  simp only [T.den, E.prop, E.den, RX.look, F1.app, F2.app, Uni.int_i, Uni.nat_n, Uni.bool_c, Uni.str_s, Uni.adr_a, Uni.val_v, Uni.hp_p, hden, cden, V.den, W.den, A.den, BR.den, SA.den, FV.den, capV, exs, exP, allP, Cur.app, List.map_cons, List.map_nil, List.cons_append, List.nil_append, List.drop_succ_cons, List.drop_zero, List.length_cons, List.length_nil, Nat.zero_add, Nat.reduceAdd, Int.neg_neg, Bool.not_not, List.append_nil, Nat.add_zero, List.getElem?_cons_zero, List.getElem?_cons_succ, Decidable.not_not, semW_eq, semW_load, semW_store, semW_storeC, semW_append, semW_lookup, semW_lookupC, semW_update, semW_updateC, semW_updateK, semW_delete, semW_range, semW_next, semW_entry, semW_nil, ne_eq, Nat.reduceEqDiff, not_false_eq_true, semW_slhi]
  refine (split03_ok s hs).weak (fun _ _ h => h) ?_
  rintro v R h ⟨a1, c1, rfl, H1⟩
  have r1 : ((splitP s).getD []).length ≠ 0 → a1.isSome = true := fun h => OwC.some H1 (by omega)
  have hle := OwC.le H1
  refine ⟨a1, _, c1, _, _, rfl, ?_, H1⟩
  clear H1
  have er : parentS s = none → HP.ent HP.tt (HP.pure (Value.tuple #[sE [], sE [], .int .i64 20] = .tuple #[sE ((parentS s).getD ([], [])).1, sE ((parentS s).getD ([], [])).2, .int .i64 (if (parentS s).isSome then 0 else 20)])) := fun e => .of fun _ _ _ => (by show _ = _; rw [e]; rfl)
  cases e1 : splitP s with
  | none => exact ⟨fun _ => er (by unfold parentS; rw [e1]), fun h => by simp at h⟩
  | some l =>
    rw [e1] at r1 hle
    simp only [Option.getD_some] at r1 hle ⊢
    obtain ⟨hl8, hok⟩ := splitP_len e1
    refine ⟨fun h => by simp at h, fun _ => ⟨fun h0 => er ?_, fun h0 => ?_⟩⟩
    · have : l = [] := List.eq_nil_of_length_eq_zero (by omega)
      subst this
      unfold parentS; rw [e1]
    · rcases List.eq_nil_or_concat l with rfl | ⟨l', nm, rfl⟩
      · simp at h0
      rw [List.concat_eq_append] at *
      obtain ⟨i, hi, _⟩ := info_parts infoStr
      have hll : (l' ++ [nm]).length = l'.length + 1 := by simp
      have hlast : (l' ++ [nm])[l'.length]? = some nm := by simp
      have en : (((l' ++ [nm]).length : Int) - 1) = (l'.length : Int) := by rw [hll]; omega
      have hp : parentS s = some (joinP l', nm) := parentS_app e1
      rw [en]
      have rd : RdL (OwS a1 (l' ++ [nm]).length c1 (l' ++ [nm])) a1 l'.length (l'.map sE) := by
        refine ⟨fun w R h F st H j u hj => (RdL.ow _ _ _ _ _ _).rd w R h F st H j u ?_, fun R h H e => ?_⟩
        · have hjl := (List.getElem?_eq_some_iff.1 hj).1
          rw [List.length_map] at hjl
          rw [List.map_append, List.getElem?_append_left (by simpa using hjl)]
          exact hj
        · have := (RdL.ow 9 1 a1 (l' ++ [nm]).length c1 ((l' ++ [nm]).map sE)).none R h H e
          omega
      refine ⟨inI64' _ (by omega) (by omega), fun _ => ⟨a1, l'.length, c1, sliceTo undSs hi _ _ _ _ _ (by omega) hle, by omega, fun _ => ⟨by omega, fun _ => ⟨r1 (by omega), fun _ => ⟨nm, loadStr (RdL.ow _ _ _ _ _ _).rd (k := (l'.length : Int).toNat) hlast, ?_⟩⟩⟩⟩⟩
      refine (join03_ok a1 l'.length c1 l' _ rd rfl (fun x hx => hok x (by simp [hx])) (by omega)).weak (fun _ _ h => h) ?_
      rintro v R h ⟨rfl, H⟩
      refine ⟨joinP l', rfl, .of fun _ _ _ => ?_, H⟩
      show _ = _
      rw [hp]; rfl
theorem joinP_len {l : List Nm} (h : ∀ x ∈ l, nameOk x = true) (h8 : l.length ≤ 8) : (joinP l).length ≤ 1000 := by
  unfold joinP
  split
  · simp
  · have := joinN_len h
    omega
theorem parent_len {s ab nm : Nm} (h : parentS s = some (ab, nm)) : ab.length ≤ 1000 ∧ nm.length ≤ 16 := by
  obtain ⟨l, h1, h2⟩ := parentS_some h
  obtain ⟨h8, hok⟩ := splitP_len h1
  have e : parentS s = some (joinP l, nm) := parentS_app h1
  rw [h] at e
  injection e with e
  injection e with e _
  rw [e]
  rw [List.length_append] at h8
  exact ⟨joinP_len (fun x hx => hok x (by simp [hx])) (by simp at h8; omega), (nameOk_len (hok nm (by simp))).2⟩
set_option maxHeartbeats 1000000 in
theorem rPlace_ok {b B : Nat} {g : Nat → NodeE} {NS : List Nd} (hB : B ≤ 100000) (wf : TWf B NS) (hg : Rp g NS) (s : Nm) (hs : s.length ≤ 100000) : Tri Tryz.prog 139 #[.pointer (some ⟨b, 0, none⟩), sE s] (RT b g)
    (fun v => HP.and (v = .tuple #[.int .i64 (placeS NS s).1, sE (placeS NS s).2.1, .int .i64 (placeS NS s).2.2]) (RT b g)) := by
  refine tri_of_tree (ρ := [.n b, .p (RT b g), .s s]) mixed Tryz.func139 tree_rPlace ?_
  unfold t_rPlace
  simp only [T.den, E.prop, E.den, RX.look, F1.app, F2.app, Uni.int_i, Uni.nat_n, Uni.bool_c, Uni.str_s, Uni.adr_a, Uni.val_v, Uni.hp_p, hden, cden, V.den, W.den, A.den, BR.den, SA.den, FV.den, capV, exs, exP, allP, Cur.app, List.map_cons, List.map_nil, List.cons_append, List.nil_append, List.drop_succ_cons, List.drop_zero, List.length_cons, List.length_nil, Nat.zero_add, Nat.reduceAdd, Int.neg_neg, Bool.not_not, List.append_nil, Nat.add_zero, List.getElem?_cons_zero, List.getElem?_cons_succ, Decidable.not_not, semW_eq, semW_load, semW_store, semW_storeC, semW_append, semW_lookup, semW_lookupC, semW_update, semW_updateC, semW_updateK, semW_delete, semW_range, semW_next, semW_entry, semW_nil, ne_eq, Nat.reduceEqDiff, not_false_eq_true, semW_ix, semW_fld]
  refine (rUp_ok s hs).weak (fun _ _ _ => trivial) ?_
  rintro v R h rfl
  refine ⟨_, _, _, rfl, ?_, trivial⟩
  cases e1 : parentS s with
  | none =>
    refine ⟨fun _ => .of fun R h H => ⟨?_, H⟩, fun h => by simp at h⟩
    unfold placeS; rw [e1]; rfl
  | some q =>
    obtain ⟨ab, nm⟩ := q
    obtain ⟨hab, _⟩ := parent_len e1
    simp only [Option.getD_some, Option.isSome_some, if_true]
    refine ⟨fun h => by simp at h, fun _ => ?_⟩
    have hp : placeS NS s = if (findS NS ab).2 ≠ 0 then (0, [], (findS NS ab).2) else match nodeAt NS (findS NS ab).1 with
        | none => (0, [], 1)
        | some n => if n.kind ≠ 1 then (0, [], 23) else if (lk n.ents nm).isSome = true then (0, [], 22) else ((findS NS ab).1, nm, 0) := by
      unfold placeS; rw [e1]; rfl
    refine (rFind_ok hB wf hg ab (by omega)).weak (fun _ _ h => h) ?_
    rintro v R h ⟨rfl, H⟩
    refine ⟨_, _, rfl, ⟨fun h => .of fun R h' H => ⟨?_, H⟩, fun h => ?_⟩, H⟩
    · rw [hp, if_pos h]; rfl
    clear H
    have h0 : (findS NS ab).2 = 0 := by simpa using h
    obtain ⟨n, hn, h64⟩ := find_at wf h0
    have hgn : (g (findS NS ab).1).nd = n := by rw [hg _ h64, ndF_some hn]
    rw [if_neg (by simpa using h0), hn] at hp
    simp only at hp
    refine ⟨.pointer (some ⟨b, (findS NS ab).1 * 5, none⟩), ixN rfl h64, .pointer (some ⟨b, (findS NS ab).1 * 5 + 1, none⟩), fldN (by omega), _, rtKind h64, fun hk => .of fun R h' H => ⟨?_, H⟩, fun hk => ?_⟩
    · rw [hgn] at hk
      rw [hp, if_pos hk]; rfl
    rw [hgn] at hk
    rw [if_neg (by simpa using hk)] at hp
    refine (rEntry_ok h64 nm (by rw [hgn]; have := (wf.at' hn).1.efew; omega)).weak (fun _ _ h => h) ?_
    rintro v R h' ⟨rfl, H⟩
    rw [hgn]
    cases hl : lk n.ents nm with
    | none =>
      rw [hl] at hp
      refine ⟨_, rfl, ⟨fun h => absurd h (show ¬ (0 : Int) ≤ entI none by decide), fun _ => .of fun R h' H => ⟨?_, H⟩⟩, H⟩
      rw [hp]; rfl
    | some j =>
      rw [hl] at hp
      refine ⟨_, rfl, ⟨fun _ => .of fun R h' H => ⟨?_, H⟩, fun h => absurd (show (0 : Int) ≤ (j : Int) by omega) h⟩, H⟩
      rw [hp]; rfl
end Go.Proofs.YtdieogcemmnaaaaGreatDoor

/- The document's tree: put, drop, size, All, New. No condition. -/
namespace Go.Proofs.YtdieogcemmnaaaaGreatDoor
set_option linter.unusedSimpArgs false
set_option linter.unusedVariables false
open Go.Proofs.YtdieogcemmnaaaaGreatDoor RX
set_option maxRecDepth 100000

theorem append_any {t e : TypeId} {i : TypeInfo} {z : Value} (ht : Tryz.prog.underlying t = some (.slice e)) (hi : Tryz.prog.info? e = some i) (hz : i.zero = some z) (hzs : z.cells.size = i.size) (hsz : 0 < i.size)
    (a : Option Addr) (n c : Nat) (xs : List Value) (S : HP) (b : Option Addr) (m c2 : Nat) (news : List Value) (hr : RdL S b m news) (hl : news.length = m * i.size) (hb0 : m ≠ 0 → b.isSome = true) (h1 : ∀ u ∈ news, u.oneCell' = true)
    (h63 : n + m ≤ maxLen) (hb : (n + m) * i.bytes ≤ 140737488355328) :
    OTri Tryz.prog (appS t t (.slice a n c) (.slice b m c2)) (HP.sep (OwC e i.size a n c xs) S)
      (fun v => HP.ex fun a' => HP.ex fun c' => HP.and (v = .slice a' (n + m) c') (HP.sep (OwC e i.size a' (n + m) c' (xs ++ news)) S)) := by
  cases b with
  | some ad => exact append_ok t t e i z ht hi hz hzs hsz a n c xs S ad m c2 news hr.rd hl h1 h63 hb
  | none =>
    have hm0 : m = 0 := Classical.byContradiction fun h => by have := hb0 h; cases this
    subst hm0
    obtain rfl : news = [] := List.eq_nil_of_length_eq_zero (by rw [hl]; omega)
    rintro w R h F s ⟨x1, x2, d, l1, l2, H, hS⟩
    have H0 := H
    obtain ⟨hxl, hx⟩ := H
    have hnc : n ≤ c := by
      rcases hx with ⟨_, rfl, rfl⟩ | ⟨g, cur, _, _, hnc, _⟩
      · exact Nat.le_refl _
      · exact hnc
    refine ⟨.value (.slice a n c), _, w, ?_, rfl, Same.refl w, R, h, PH.le.refl _, s, a, c, rfl, x1, x2, d, l1, l2, by rw [List.append_nil]; exact H0, hS⟩
    cases a <;> simp [appS, Builtin.append_, run_underlying ht, sizeOf, typeInfo, hi, Builtin.lenOf, Builtin.firstCells, hnc, storeCells]
abbrev OwE (a : Option Addr) (n c : Nat) (l : List (Nm × Nat)) : HP := OwC 140 2 a n c (l.flatMap entV)
theorem entV_one : ∀ (l : List (Nm × Nat)), ∀ u ∈ l.flatMap entV, u.oneCell' = true := fun l u hu => by
  obtain ⟨e, _, he⟩ := List.mem_flatMap.1 hu
  simp only [entV, List.mem_cons, List.not_mem_nil, or_false] at he
  rcases he with rfl | rfl <;> rfl
theorem entV_len (l : List (Nm × Nat)) : (l.flatMap entV).length = l.length * 2 := flat_lenL entV 2 (fun _ => rfl) l
theorem appE {a : Option Addr} {n c : Nat} {l : List (Nm × Nat)} {S : HP} {b : Option Addr} {m c2 : Nat} {q : List (Nm × Nat)} (hr : RdL S b m (q.flatMap entV)) (hm : q.length = m) (hb0 : m ≠ 0 → b.isSome = true) (hb : n + m ≤ 1000000000) {P : HP} (hP : HP.ent P (OwE a n c l)) {C : Value → HP}
    (post : ∀ a' c' R h, (HP.sep (OwE a' (n + m) c' (l ++ q)) S).p R h → (C (.slice a' (n + m) c')).p R h) :
    OTri Tryz.prog (appS 41 41 (.slice a n c) (.slice b m c2)) (HP.sep P S) C := by
  obtain ⟨i, z, hi, h1, h2, h3, h4⟩ := info_pz infoEnt
  have := append_any undEs hi h1 (by rw [h2, h3]) (by omega) a n c (l.flatMap entV) S b m c2 (q.flatMap entV) hr (by rw [entV_len, hm, h3]) hb0 (entV_one q) (by unfold maxLen; omega) (by rw [h4]; omega)
  rw [h3] at this
  refine OTri.pre3 (this.weak (fun _ _ h => h) ?_) (HP.ent.sep hP _)
  rintro v R h ⟨a', c', rfl, H⟩
  refine post a' c' R h ?_
  show (HP.sep (OwC 140 2 a' (n + m) c' ((l ++ q).flatMap entV)) S).p R h
  rw [List.flatMap_append]
  exact H
theorem oneE (q : Nat) (x : Nm × Nat) : RdL (HP.one q (.cells #[sE x.1, .int .i64 x.2] 140 (0, 0))) (some ⟨q, 0, none⟩) 1 (([x] : List (Nm × Nat)).flatMap entV) :=
  ⟨one_rd q #[sE x.1, .int .i64 x.2] 140, fun _ _ _ e => by cases e⟩
theorem shareE (a : Option Addr) (n c : Nat) (l : List (Nm × Nat)) : HP.ent (OwE a n c l) (Ls kEnt a n l) := fun R h d H => by
  have hn := OwC.len H
  rw [entV_len] at hn
  obtain ⟨R1, h1, q1, q2, q3, q4, H1⟩ := OwC.share _ _ _ _ _ _ R h d H
  exact ⟨R1, h1, q1, q2, q3, q4, by omega, H1, fun _ _ => trivial⟩
theorem emptyE (q : Nat) {R h : PH} (H : (HP.one q (.cells #[] 140 (0, 0))).p R h) : (OwE (some ⟨q, 0, none⟩) 0 0 []).p R h := ⟨by simp, .inr ⟨q, #[], rfl, H, Nat.le_refl _, by unfold maxLen; omega, by simp, by simp⟩⟩
theorem infoES : ∃ i, Tryz.prog.info? 41 = some i ∧ i.size = 1 := by
  obtain ⟨i, hi⟩ := Option.isSome_iff_exists.1 (show (Tryz.prog.info? 41).isSome = true by kernel_rfl)
  have : (Tryz.prog.info? 41).map (·.size) = some 1 := by kernel_rfl
  rw [hi] at this
  exact ⟨i, hi, Option.some.inj this⟩
theorem infoBS : ∃ i, Tryz.prog.info? 28 = some i ∧ i.size = 1 := by
  obtain ⟨i, hi⟩ := Option.isSome_iff_exists.1 (show (Tryz.prog.info? 28).isSome = true by kernel_rfl)
  have : (Tryz.prog.info? 28).map (·.size) = some 1 := by kernel_rfl
  rw [hi] at this
  exact ⟨i, hi, Option.some.inj this⟩
theorem infoND : ∃ i, Tryz.prog.info? 43 = some i ∧ i.size = 5 := by
  obtain ⟨i, z, hi, h1, h2, h3, h4⟩ := info_pz infoNd
  exact ⟨i, hi, h3⟩
/-- New entries of a node. -/
def withE (x : NodeE) (l : List (Nm × Nat)) (a : Option Addr) (c : Nat) : NodeE := { x with nd := { x.nd with ents := l }, ea := a, ec := c }
theorem storeE {b i : Nat} {g : Nat → NodeE} (hi : i < 64) {a : Option Addr} {n c : Nat} {l : List (Nm × Nat)} {C : Value → HP} {P : HP} (hP : HP.ent P (OwE a n c l))
    (post : ∀ R h, (RT b (upd g i (withE (g i) l a c))).p R h → (C (.tuple #[])).p R h) :
    OTri Tryz.prog (storeS 41 (.pointer (some ⟨b, i * 5 + 4, none⟩)) (.slice a n c)) (HP.sep (RT b g) P) C := by
  obtain ⟨ti, hti, hz⟩ := infoES
  refine OTri.pre3 (A := HP.sep (RT b g) (OwE a n c l)) ?_ (HP.ent2 (.of fun _ _ h => h) hP)
  refine OTri.fact (φ := n ≤ c ∧ l.length = n) (fun R h H => ⟨OwC.le (HP.sep_right H), by have := OwC.len (HP.sep_right H); rw [entV_len] at this; omega⟩) fun ⟨hnc, hln⟩ => ?_
  subst hln
  refine OTri.pre3 (A := HP.sep (RT b g) (Ls kEnt a l.length l)) ?_ (HP.ent2 (.of fun _ _ h => h) (shareE _ _ _ _))
  refine (rtStore hti hi (off := 4) (v := .slice a l.length c) (vs := [.slice a l.length c]) rfl hz (by simp) (by simp [Value.oneCell']) (withE (g i) l a c) (by simp) rfl (Q := Ls kEnt a l.length l) fun R h H => ⟨⟨((HP.sep_left H).2 i hi).1.1, HP.sep_right H⟩, hnc⟩).weak (fun _ _ h => h) ?_
  rintro v R h ⟨rfl, H⟩
  exact post R h H
theorem storeInt {b i off : Nat} {g : Nat → NodeE} (hi : i < 64) (ho : off = 1 ∨ off = 2) {v : Int} {C : Value → HP}
    (post : ∀ R h, (RT b (upd g i { g i with nd := if off = 1 then { (g i).nd with kind := v } else { (g i).nd with links := v } })).p R h → (C (.tuple #[])).p R h) :
    OTri Tryz.prog (storeS 3 (.pointer (some ⟨b, i * 5 + off, none⟩)) (.int .i64 v)) (RT b g) C := by
  obtain ⟨ti, hti, hz⟩ := infoInt'
  refine OTri.pre3 (A := HP.sep (RT b g) HP.tt) ?_ (.of fun _ _ h => HP.sep_tt h)
  refine (rtStore hti hi (off := off) (v := .int .i64 v) (vs := [.int .i64 v]) rfl hz (by simp) (by simp [Value.oneCell']) { g i with nd := if off = 1 then { (g i).nd with kind := v } else { (g i).nd with links := v } } (by rcases ho with rfl | rfl <;> simp) (by rcases ho with rfl | rfl <;> rfl) (Q := HP.tt) fun R h H => ?_).weak (fun _ _ h => h) ?_
  · have := (HP.sep_left H).2 i hi
    rcases ho with rfl | rfl <;> exact this
  · rintro v R h ⟨rfl, H⟩
    exact post R h H
theorem storeNd {b i : Nat} {g : Nat → NodeE} (hi : i < 64) (m k lks : Int) (mn : Nat) (hm : m = mn) {C : Value → HP}
    (post : ∀ R h, (RT b (upd g i ⟨⟨mn, k, lks, [], []⟩, none, 0, none, 0⟩)).p R h → (C (.tuple #[])).p R h) :
    OTri Tryz.prog (storeS 43 (.pointer (some ⟨b, i * 5, none⟩)) (.agg #[.int .i64 m, .int .i64 k, .int .i64 lks, .slice none 0 0, .slice none 0 0])) (RT b g) C := by
  obtain ⟨ti, hti, hz⟩ := infoND
  subst hm
  refine OTri.pre3 (A := HP.sep (RT b g) HP.tt) ?_ (.of fun _ _ h => HP.sep_tt h)
  have := rtStore (b := b) (g := g) hti hi (off := 0) (v := .agg #[.int .i64 (mn : Int), .int .i64 k, .int .i64 lks, .slice none 0 0, .slice none 0 0]) (vs := nodeVs ⟨⟨mn, k, lks, [], []⟩, none, 0, none, 0⟩) rfl (by rw [hz]; rfl) (by rw [nodeVs_len]; omega) (fun u hu => kNodeP.one _ u hu) ⟨⟨mn, k, lks, [], []⟩, none, 0, none, 0⟩ (by rw [nodeVs_len]; omega) (by simp [nodeVs]) (Q := HP.tt) fun R h H => ⟨⟨RoC.nil _ _ _ _, rfl, RoC.nil _ _ _ _, fun x hx => by cases hx⟩, Nat.le_refl _⟩
  refine this.weak (fun _ _ h => h) ?_
  rintro v R h ⟨rfl, H⟩
  exact post R h H
theorem shareB (a : Option Addr) (n c : Nat) (l : List UInt8) : HP.ent (OwB a n c l) (RoB a n l) := OwC.share _ _ _ _ _ _
def withD (x : NodeE) (l : List UInt8) (a : Option Addr) (c : Nat) : NodeE := { x with nd := { x.nd with data := l }, da := a, dc := c }
theorem storeD {b i : Nat} {g : Nat → NodeE} (hi : i < 64) {a : Option Addr} {n c : Nat} {l : List UInt8} (hl : l.length = n) {C : Value → HP} {P : HP} (hP : HP.ent P (OwB a n c l))
    (post : ∀ R h, (RT b (upd g i (withD (g i) l a c))).p R h → (C (.tuple #[])).p R h) :
    OTri Tryz.prog (storeS 28 (.pointer (some ⟨b, i * 5 + 3, none⟩)) (.slice a n c)) (HP.sep (RT b g) P) C := by
  obtain ⟨ti, hti, hz⟩ := infoBS
  subst hl
  refine OTri.pre3 (A := HP.sep (RT b g) (RoB a l.length l)) ?_ (HP.ent2 (.of fun _ _ h => h) (hP.trans (shareB _ _ _ _)))
  refine (rtStore hti hi (off := 3) (v := .slice a l.length c) (vs := [.slice a l.length c]) rfl hz (by simp) (by simp [Value.oneCell']) (withD (g i) l a c) (by simp) rfl (Q := RoB a l.length l) fun R h H => ⟨⟨HP.sep_right H, ((HP.sep_left H).2 i hi).1.2⟩, ((HP.sep_left H).2 i hi).2⟩).weak (fun _ _ h => h) ?_
  rintro v R h ⟨rfl, H⟩
  exact post R h H
theorem putE_split {nm : Nm} {k : Nat} : ∀ {l : List (Nm × Nat)} {i : Nat}, i ≤ l.length → (∀ j e, j < i → l[j]? = some e → e.1 < nm) → (∀ e, l[i]? = some e → ¬ e.1 < nm) → putE nm k l = l.take i ++ [(nm, k)] ++ l.drop i
  | [], i, h, _, _ => by
    obtain rfl : i = 0 := by simpa using h
    rfl
  | y :: r, 0, _, _, h => by
    have := h y rfl
    simp [putE, this]
  | y :: r, i + 1, hi, h1, h2 => by
    have hy := h1 0 y (by omega) rfl
    have ih := putE_split (nm := nm) (k := k) (l := r) (i := i) (by simpa using hi) (fun j e hj he => h1 (j + 1) e (by omega) (by simpa using he)) (fun e he => h2 e (by simpa using he))
    simp [putE, hy, ih]
theorem slt_iff {x y : Nm} : (Op.bytesLess x y = true) ↔ x < y := by rw [bytesLess_eq]; simp
set_option maxHeartbeats 2000000 in
theorem rPut_ok {b : Nat} {g : Nat → NodeE} {i : Nat} (hi : i < 64) (nm : Nm) (k : Nat) (hl : (g i).nd.ents.length ≤ 100000) : Tri Tryz.prog 140 #[.pointer (some ⟨b, 0, none⟩), .int .i64 i, sE nm, .int .i64 k] (RT b g)
    (fun v => HP.ex fun a => HP.ex fun c => HP.and (v = .tuple #[]) (RT b (upd g i (withE (g i) (putE nm k (g i).nd.ents) a c)))) := by
  refine Tri.fact (φ := ((g i).nd.ents.length ≠ 0 → (g i).ea.isSome = true) ∧ (g i).nd.ents.length ≤ (g i).ec) (fun R h H => ⟨RT.ea H i hi, (H.2 i hi).2⟩) fun ⟨hea, hcap⟩ => ?_
  refine tri_of_tree (ρ := [.n b, .p (RT b g), .i i, .s nm, .i k]) mixed Tryz.func140 tree_rPut ?_
  unfold t_rPut
  simp only [T.den, E.prop, E.den, RX.look, F1.app, F2.app, Uni.int_i, Uni.nat_n, Uni.bool_c, Uni.str_s, Uni.adr_a, Uni.val_v, Uni.hp_p, hden, cden, V.den, W.den, A.den, BR.den, SA.den, FV.den, capV, exs, exP, allP, Cur.app, List.map_cons, List.map_nil, List.cons_append, List.nil_append, List.drop_succ_cons, List.drop_zero, List.length_cons, List.length_nil, Nat.zero_add, Nat.reduceAdd, Int.neg_neg, Bool.not_not, List.append_nil, Nat.add_zero, List.getElem?_cons_zero, List.getElem?_cons_succ, Decidable.not_not, semW_eq, semW_load, semW_store, semW_storeC, semW_append, semW_lookup, semW_lookupC, semW_update, semW_updateC, semW_updateK, semW_delete, semW_range, semW_next, semW_entry, semW_nil, ne_eq, Nat.reduceEqDiff, not_false_eq_true, semW_ix, semW_fld, semW_sllo]
  refine ⟨.pointer (some ⟨b, i * 5, none⟩), ixN rfl hi, .pointer (some ⟨b, i * 5 + 4, none⟩), fldN (by omega), (g i).ea, (g i).nd.ents.length, (g i).ec, rtEnts hi, fun q0 => ?_⟩
  refine ⟨fun a n c j P => ∃ m : Nat, j = m ∧ m ≤ (g i).nd.ents.length ∧ n = m ∧ HP.ent P (OwE a m c ((g i).nd.ents.take m)) ∧ ∀ u e, u < m → (g i).nd.ents[u]? = some e → e.1 < nm, fun _ _ _ j _ => (g i).nd.ents.length - j.toNat,
    ⟨0, rfl, Nat.zero_le _, rfl, .of fun R h H => emptyE q0 H, fun u e hu => by omega⟩, ?_⟩
  rintro a m c _ P ⟨_, rfl, hm, rfl, hP, hbef⟩
  -- what is done at the place
  have fin : ∀ (q : Nat), (∀ e, (g i).nd.ents[m]? = some e → ¬ e.1 < nm) → OTri Tryz.prog (appS 41 41 (.slice a m c) (.slice (some ⟨q, 0, none⟩) 1 1)) (HP.sep P (HP.one q (.cells #[sE nm, .int .i64 k] 140 (0, 0))))
      (fun v => HP.ex fun a1 : Option Addr => HP.ex fun n1 : Nat => HP.ex fun c1 : Nat => HP.ex fun P1 : HP => HP.and (v = .slice a1 n1 c1) (HP.and (∃ (a2 : Option Addr) (n2 c2 : Nat), ORead Tryz.prog (sliceS 41 (.slice (g i).ea (g i).nd.ents.length (g i).ec) (some (.int .i64 m)) none none) (RT b g) (.slice a2 n2 c2) ∧
        OTri Tryz.prog (appS 41 41 (.slice a1 n1 c1) (.slice a2 n2 c2)) (HP.sep P1 (RT b g)) (fun v => HP.ex fun a3 : Option Addr => HP.ex fun n3 : Nat => HP.ex fun c3 : Nat => HP.ex fun P3 : HP => HP.and (v = .slice a3 n3 c3) (HP.and (∃ x1 : Value, ORead Tryz.prog (idxS 142 (.pointer (some ⟨b, 0, none⟩)) (.int .i64 i)) (RT b g) (oneC x1) ∧ ∃ x2 : Value, ORead Tryz.prog (fldS 43 (oneC x1) 4) (RT b g) (oneC x2) ∧
          OTri Tryz.prog (storeS 41 (oneC x2) (.slice a3 n3 c3)) (HP.sep (RT b g) P3) (fun v => HP.ex fun P4 : HP => HP.and (v = .tuple #[]) (HP.and (HP.ent P4 (HP.ex fun a => HP.ex fun c => HP.and True (RT b (upd g i (withE (g i) (putE nm k (g i).nd.ents) a c))))) P4))) (HP.sep P3 (RT b g))))) (HP.sep P1 (HP.one q (.cells #[sE nm, .int .i64 k] 140 (0, 0)))))) := fun q hge => by
    refine appE (oneE q (nm, k)) rfl (fun _ => rfl) (by omega) hP fun a1 c1 R h H => ?_
    refine ⟨a1, m + 1, c1, _, rfl, ?_, H⟩
    clear H
    obtain ⟨ti, _, hti, _, _, h3, _⟩ := info_pz infoEnt
    have sl := slice_ok undEs hti (RT b g) (g i).ea (g i).nd.ents.length (g i).ec (some m) none none (by simpa using hm) (by simpa using hcap) (Nat.le_refl _) (fun h => by simp at h)
    simp only [iv, Option.getD_some, Option.getD_none] at sl
    refine ⟨_, _, _, sl, ?_⟩
    have rd : RdL (RT b g) (if (g i).ec = m then (g i).ea else (g i).ea.map (·.add (m * szT Tryz.prog 140))) ((g i).nd.ents.length - m) (((g i).nd.ents.drop m).flatMap entV) := by
      refine ⟨fun w R h F s H j u hj => ?_, fun R h H e => ?_⟩
      · by_cases ec : (g i).ec = m
        · have : (g i).nd.ents.drop m = [] := List.drop_eq_nil_of_le (by omega)
          rw [this] at hj; simp at hj
        · rw [if_neg ec, szEnt]
          have hj' : (((g i).nd.ents).flatMap entV)[m * 2 + j]? = some u := by
            have hlt := (List.getElem?_eq_some_iff.1 hj).1
            rw [entV_len, List.length_drop] at hlt
            have e2 : j = (j / 2) * 2 + j % 2 := by omega
            obtain ⟨e, he⟩ := getN (l := (g i).nd.ents) (k := m + j / 2) (by omega)
            have h1 := flat_getL entV 2 (fun _ => rfl) ((g i).nd.ents.drop m) (j / 2) (j % 2) e (by rw [List.getElem?_drop]; exact he) (by omega)
            have h2 := flat_getL entV 2 (fun _ => rfl) (g i).nd.ents (m + j / 2) (j % 2) e he (by omega)
            rw [← e2] at h1
            rw [show m * 2 + j = (m + j / 2) * 2 + j % 2 by omega, h2, ← h1]
            exact hj
          obtain ⟨gg, off, e1, e2⟩ := (Ls.rd (K := kEnt) (a := (g i).ea) (n := (g i).nd.ents.length) (l := (g i).nd.ents)) w R h F s (H.2 i hi).1.2 (m * 2 + j) u hj'
          refine ⟨gg, off + m * 2, ?_, ?_⟩
          · rw [e1]; simp [addr_add]
          · rw [show off + m * 2 + j = off + (m * 2 + j) by omega]; exact e2
      · by_cases hz : (g i).nd.ents.length - m = 0
        · exact hz
        · exfalso
          have := RT.ea H i hi (by omega)
          by_cases ec : (g i).ec = m
          · omega
          · rw [if_neg ec] at e
            cases hq : (g i).ea with
            | none => rw [hq] at this; cases this
            | some y => rw [hq] at e; cases e
    refine appE rd (by simp) (fun h => ?_) (by omega) (.of fun _ _ h => h) fun a3 c3 R h H => ?_
    · have h1 := hea (by omega)
      by_cases ec : (g i).ec = m
      · omega
      · rw [if_neg ec]
        cases hq : (g i).ea with
        | none => rw [hq] at h1; cases h1
        | some y => rfl
    refine ⟨a3, _, c3, _, rfl, ⟨.pointer (some ⟨b, i * 5, none⟩), ixN rfl hi, .pointer (some ⟨b, i * 5 + 4, none⟩), fldN (by omega), ?_⟩, H⟩
    clear H
    refine storeE hi (.of fun _ _ h => h) fun R h H => ⟨_, rfl, ?_, H⟩
    refine .of fun R h H => ⟨a3, c3, trivial, ?_⟩
    rw [putE_split hm hbef hge]
    exact H
  refine ⟨fun hlt => ⟨by omega, fun _ => ⟨hea (by omega), fun _ => ?_⟩⟩, fun hge q => ?_⟩
  · obtain ⟨e, he⟩ := getN (l := (g i).nd.ents) (k := m) (by omega)
    refine ⟨e.1, rtEnt1 hi he undStr (by kernel_rfl) (by kernel_rfl) rfl, fun hs => ?_, fun hs q => fin q fun e' he' => ?_⟩
    · refine ⟨e.1, e.2, rtEnt hi he, fun q => ?_⟩
      refine appE (oneE q e) rfl (fun _ => rfl) (by omega) hP fun a1 c1 R h H => ?_
      refine ⟨a1, m + 1, c1, _, rfl, ⟨inI64' _ (by omega) (by omega), fun _ => ⟨⟨m + 1, by omega, by omega, rfl, ?_, fun u e' hu he' => ?_⟩, by dsimp only; omega⟩⟩, H⟩
      · rw [List.take_add_one, he]
        exact .of fun _ _ h => h
      · rcases Nat.lt_or_eq_of_le (Nat.le_of_lt_succ hu) with h | h
        · exact hbef u e' h he'
        · subst h; rw [he] at he'; cases he'; exact slt_iff.1 hs
    · rw [he] at he'; cases he'
      exact fun h => hs (slt_iff.2 h)
  · refine fin q fun e he => ?_
    have := (List.getElem?_eq_some_iff.1 he).1
    omega
theorem filter_step {l : List (Nm × Nat)} {nm : Nm} {m : Nat} {e : Nm × Nat} (he : l[m]? = some e) : dropE nm (l.take (m + 1)) = dropE nm (l.take m) ++ (if e.1 ≠ nm then [e] else []) := by
  unfold dropE
  rw [List.take_add_one, he, List.filter_append]
  by_cases h : e.1 ≠ nm <;> simp [h]
set_option maxHeartbeats 2000000 in
theorem rDrop_ok {b : Nat} {g : Nat → NodeE} {i : Nat} (hi : i < 64) (nm : Nm) (hl : (g i).nd.ents.length ≤ 100000) : Tri Tryz.prog 143 #[.pointer (some ⟨b, 0, none⟩), .int .i64 i, sE nm] (RT b g)
    (fun v => HP.ex fun a => HP.ex fun c => HP.and (v = .tuple #[]) (RT b (upd g i (withE (g i) (dropE nm (g i).nd.ents) a c)))) := by
  refine Tri.fact (φ := ((g i).nd.ents.length ≠ 0 → (g i).ea.isSome = true) ∧ (g i).nd.ents.length ≤ (g i).ec) (fun R h H => ⟨RT.ea H i hi, (H.2 i hi).2⟩) fun ⟨hea, hcap⟩ => ?_
  refine tri_of_tree (ρ := [.n b, .p (RT b g), .i i, .s nm]) mixed Tryz.func143 tree_rDrop ?_
  unfold t_rDrop
  simp only [T.den, E.prop, E.den, RX.look, F1.app, F2.app, Uni.int_i, Uni.nat_n, Uni.bool_c, Uni.str_s, Uni.adr_a, Uni.val_v, Uni.hp_p, hden, cden, V.den, W.den, A.den, BR.den, SA.den, FV.den, capV, exs, exP, allP, Cur.app, List.map_cons, List.map_nil, List.cons_append, List.nil_append, List.drop_succ_cons, List.drop_zero, List.length_cons, List.length_nil, Nat.zero_add, Nat.reduceAdd, Int.neg_neg, Bool.not_not, List.append_nil, Nat.add_zero, List.getElem?_cons_zero, List.getElem?_cons_succ, Decidable.not_not, semW_eq, semW_load, semW_store, semW_storeC, semW_append, semW_lookup, semW_lookupC, semW_update, semW_updateC, semW_updateK, semW_delete, semW_range, semW_next, semW_entry, semW_nil, ne_eq, Nat.reduceEqDiff, not_false_eq_true, semW_ix, semW_fld, semW_sllo]
  refine ⟨.pointer (some ⟨b, i * 5, none⟩), ixN rfl hi, .pointer (some ⟨b, i * 5 + 4, none⟩), fldN (by omega), (g i).ea, (g i).nd.ents.length, (g i).ec, rtEnts hi, fun q0 => ?_⟩
  refine ⟨fun a n c j P => ∃ m : Nat, j = m ∧ m ≤ (g i).nd.ents.length ∧ n = (dropE nm ((g i).nd.ents.take m)).length ∧ HP.ent P (OwE a n c (dropE nm ((g i).nd.ents.take m))), fun _ _ _ j _ => (g i).nd.ents.length - j.toNat,
    ⟨0, rfl, Nat.zero_le _, rfl, .of fun R h H => emptyE q0 H⟩, ?_⟩
  rintro a _ c _ P ⟨m, rfl, hm, rfl, hP⟩
  have hdl : (dropE nm ((g i).nd.ents.take m)).length ≤ m := by
    unfold dropE
    have := List.length_filter_le (fun y : Nm × Nat => decide (y.1 ≠ nm)) ((g i).nd.ents.take m)
    rw [List.length_take] at this
    omega
  refine ⟨fun hlt => ⟨by omega, fun _ => ⟨hea (by omega), fun _ => ?_⟩⟩, fun hge => ?_⟩
  · obtain ⟨e, he⟩ := getN (l := (g i).nd.ents) (k := m) (by omega)
    have st := filter_step (nm := nm) he
    refine ⟨e.1, rtEnt1 hi he undStr (by kernel_rfl) (by kernel_rfl) rfl, fun hs => ?_, fun hs => ?_⟩
    · rw [if_pos hs] at st
      refine ⟨e.1, e.2, rtEnt hi he, fun q => ?_⟩
      refine appE (oneE q e) rfl (fun _ => rfl) (by omega) hP fun a1 c1 R h H => ?_
      refine ⟨a1, _, c1, _, rfl, ⟨inI64' _ (by omega) (by omega), fun _ => ⟨⟨m + 1, by omega, by omega, by rw [st]; simp, ?_⟩, by dsimp only; omega⟩⟩, H⟩
      rw [st]
      exact .of fun _ _ h => h
    · rw [if_neg (by simpa using hs), List.append_nil] at st
      exact ⟨inI64' _ (by omega) (by omega), fun _ => ⟨⟨m + 1, by omega, by omega, by rw [st], by rw [st]; exact hP⟩, by dsimp only; omega⟩⟩
  · have hmm : (g i).nd.ents.take m = (g i).nd.ents := List.take_of_length_le (by omega)
    rw [hmm] at hP ⊢
    refine ⟨.pointer (some ⟨b, i * 5, none⟩), ixN rfl hi, .pointer (some ⟨b, i * 5 + 4, none⟩), fldN (by omega), ?_⟩
    refine storeE hi hP fun R h H => ⟨_, rfl, ?_, H⟩
    exact .of fun R h H => ⟨a, c, trivial, H⟩
theorem sizeD_step (l : List UInt8) (k : Nat) : sizeD l (k + 1) = sizeD l k ++ [l.getD k 0] := by
  refine List.ext_getElem? fun i => ?_
  have get : ∀ (n i : Nat), (sizeD l n)[i]? = if i < n then some (l.getD i 0) else none := fun n i => by
    unfold sizeD
    rw [List.getElem?_append]
    simp only [List.length_take, List.getElem?_take, List.getElem?_replicate, List.getD_eq_getElem?_getD]
    by_cases h1 : i < n
    · by_cases h2 : i < l.length
      · rw [if_pos (by omega), if_pos h1, if_pos h1, List.getElem?_eq_getElem h2]; rfl
      · rw [if_neg (by omega), if_pos (by omega), if_pos h1, List.getElem?_eq_none (by omega)]; rfl
    · rw [if_neg (by omega), if_neg (by omega), if_neg h1]
  rw [get, List.getElem?_append, get, sizeD_len]
  by_cases h : i < k
  · rw [if_pos (by omega), if_pos h, if_pos h]
  · rw [if_neg h]
    by_cases e : i = k
    · subst e; simp
    · rw [if_neg (by omega), List.getElem?_eq_none (by simp; omega)]
set_option maxHeartbeats 1000000 in
theorem rSize_ok (a : Option Addr) (m c : Nat) (l : List UInt8) (S : HP) (hr : RdL S a m (l.map u8v)) (hl : l.length = m) (n : Nat) (hn : n ≤ 100000) : Tri Tryz.prog 145 #[.slice a m c, .int .i64 n] S
    (fun v => HP.ex fun a' => HP.ex fun c' => HP.and (v = .slice a' n c') (HP.sep (OwB a' n c' (sizeD l n)) S)) := by
  refine Tri.fact (φ := m ≠ 0 → a.isSome = true) (fun R h H => hr.isSome H) fun ha => ?_
  refine tri_of_tree (ρ := [.a a, .n m, .n c, .p S, .i n]) mixed Tryz.func145 tree_rSize ?_
  unfold t_rSize
  simp only [T.den, E.prop, E.den, RX.look, F1.app, F2.app, Uni.int_i, Uni.nat_n, Uni.bool_c, Uni.str_s, Uni.adr_a, Uni.val_v, Uni.hp_p, hden, cden, V.den, W.den, A.den, BR.den, SA.den, FV.den, capV, exs, exP, allP, Cur.app, List.map_cons, List.map_nil, List.cons_append, List.nil_append, List.drop_succ_cons, List.drop_zero, List.length_cons, List.length_nil, Nat.zero_add, Nat.reduceAdd, Int.neg_neg, Bool.not_not, List.append_nil, Nat.add_zero, List.getElem?_cons_zero, List.getElem?_cons_succ, Decidable.not_not, semW_eq, semW_load, semW_store, semW_storeC, semW_append, semW_lookup, semW_lookupC, semW_update, semW_updateC, semW_updateK, semW_delete, semW_range, semW_next, semW_entry, semW_nil, ne_eq, Nat.reduceEqDiff, not_false_eq_true]
  intro q0
  refine ⟨fun a1 n1 c1 j P => ∃ k : Nat, j = k ∧ k ≤ n ∧ n1 = k ∧ HP.ent P (OwB a1 k c1 (sizeD l k)), fun _ _ _ j _ => n - j.toNat,
    ⟨0, rfl, Nat.zero_le _, rfl, .of fun R h H => (show (OwB (some ⟨q0, 0, none⟩) 0 0 (sizeD l 0)).p R h from ⟨by simp [sizeD], .inr ⟨q0, #[], rfl, H, Nat.le_refl _, by unfold maxLen; omega, rfl, by simp [sizeD]⟩⟩)⟩, ?_⟩
  rintro a1 k c1 _ P ⟨_, rfl, hk, rfl, hP⟩
  have app : ∀ (x : UInt8) (q : Nat), l.getD k 0 = x → OTri Tryz.prog (appS 28 28 (.slice a1 k c1) (.slice (some ⟨q, 0, none⟩) 1 1)) (HP.sep P (HP.one q (.cells #[.int .u8 x.toNat] 5 (0, 0)))) (fun v => HP.ex fun a' => HP.ex fun c' => HP.and (v = .slice a' (k + 1) c') (HP.sep (OwB a' (k + 1) c' (sizeD l (k + 1))) (HP.one q (.cells #[.int .u8 x.toNat] 5 (0, 0))))) := fun x q hx => by
    have ap := append8 a1 k c1 (sizeD l k) (HP.one q (.cells #[.int .u8 x.toNat] 5 (0, 0))) (some ⟨q, 0, none⟩) 1 1 [x] ⟨one_rd q #[.int .u8 x.toNat] 5, fun _ _ _ e => by cases e⟩ rfl (fun _ => rfl) (by omega)
    refine OTri.pre3 (ap.weak (fun _ _ h => h) ?_) (HP.ent.sep hP _)
    rintro v R h ⟨a', c', rfl, H⟩
    rw [← hx, ← sizeD_step] at H
    exact ⟨a', c', rfl, by rw [hx] at H; exact H⟩
  refine ⟨fun hlt => ⟨fun hlt2 => ⟨by omega, fun _ => ⟨ha (by omega), fun _ => ?_⟩⟩, fun hge2 q => ?_⟩, fun hge => ?_⟩
  · obtain ⟨x, hx⟩ := getN (l := l) (k := k) (by omega)
    refine ⟨x.toNat, load1_ok und8b agg8 sz8 hr.rd (k := (k : Int).toNat * 1) (off := 0) (by rw [Int.toNat_natCast, Nat.mul_one, Nat.add_zero, List.getElem?_map, hx]; rfl), fun q => ?_⟩
    refine (app x q (by rw [List.getD_eq_getElem?_getD, hx]; rfl)).weak (fun _ _ h => h) ?_
    rintro v R h ⟨a', c', rfl, H⟩
    exact ⟨a', _, c', _, rfl, ⟨inI64' _ (by omega) (by omega), fun _ => ⟨⟨k + 1, by omega, by omega, rfl, .of fun _ _ h => h⟩, by dsimp only; omega⟩⟩, H⟩
  · refine (app 0 q (by rw [List.getD_eq_getElem?_getD, List.getElem?_eq_none (by omega)]; rfl)).weak (fun _ _ h => h) ?_
    rintro v R h ⟨a', c', rfl, H⟩
    exact ⟨a', _, c', _, rfl, ⟨inI64' _ (by omega) (by omega), fun _ => ⟨⟨k + 1, by omega, by omega, rfl, .of fun _ _ h => h⟩, by dsimp only; omega⟩⟩, H⟩
  · obtain rfl : k = n := by omega
    exact (HP.ent2 (.of fun _ _ h => h) hP).trans (.of fun R h H => ⟨a1, c1, rfl, HP.sep_comm H⟩)
end Go.Proofs.YtdieogcemmnaaaaGreatDoor
