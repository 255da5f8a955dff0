/- Texts of this claim, joined. No condition. -/
import Derived.Test.YtbmajijnjkicmaaDoorAAJ1
import Derived.Laws.MakeOwn
import Derived.KernelRfl
import Derived.Lib.AppendZeros
import Derived.Laws.StructEq
set_option linter.unusedSimpArgs false
set_option linter.unusedVariables false

namespace Go.Proofs.YtbmajijnjkicmaaDoor
open Go.Proofs.YtbmajijnjkicmaaDoor RX
set_option maxRecDepth 100000

section
variable {α : Type}
def pkOf (K : Kind α) (e : TypeId) (one : ∀ x, ∀ u ∈ K.vals x, u.oneCell' = true) : PK α := ⟨e, K.n, K.pos, K.vals, K.len, one, K.hp⟩
theorem sepN_all {l : List HP} {R h : PH} (H : (sepN l).p R h) : ∀ x ∈ l, x.p R h := by
  induction l generalizing h with
  | nil => intro x hx; cases hx
  | cons y r ih =>
    intro x hx
    have H1 := sepN_cons.1 H
    rcases List.mem_cons.1 hx with e | e
    · subst e; exact HP.sep_left H1
    · exact ih (HP.sep_right H1) x e
theorem PL.share {K : Kind α} {e : TypeId} {one : ∀ x, ∀ u ∈ K.vals x, u.oneCell' = true} (a : Option Addr) (n c : Nat) (l : List α) : HP.ent (PL (pkOf K e one) a n c l) (Ls K a n l) := fun R h d H => by
  obtain ⟨hn, h1, h2, d', l1, l2, H1, H2⟩ := H
  obtain ⟨R1, x1, q1, q2, q3, q4, q5⟩ := OwC.share _ _ _ _ _ _ R h1 (d.le (PH.le.refl _) l1) H1
  have hp : ∀ x ∈ l, (K.hp x).p R1 x1 := fun x hx => K.pers x _ _ _ ((K.hp x).mono q1 (PH.le.refl _) (sepN_all H2 _ (List.mem_map.2 ⟨x, hx, rfl⟩)))
  refine ⟨R1, x1, q1, q2, q3.trans l1, fun k o e => (q4 k o e).imp id (l1 k o), hn, q5, hp⟩
theorem PL.nil' (K : PK α) (R h : PH) : (PL K none 0 0 []).p R h := ⟨rfl, HP.sep_tt (OwC.nil _ _ R h)⟩
theorem sepN_drop {l : List HP} {k : Nat} {x : HP} {R h : PH} (hk : k < l.length) (H : (HP.sep x (sepN l)).p R h) : (sepN (l.set k x)).p R h := by
  refine sepN_unfocus hk (HP.sep_mono H (fun _ h => h) fun y hy => ?_)
  have hg : l[k]? = some l[k] := List.getElem?_eq_getElem hk
  exact HP.sep_right (sepN_focus hg hy)
theorem flat_put (K : PK α) (l : List α) (k : Nat) (hk : k < l.length) (y : α) : (l.flatMap K.vals).take (k * K.n + 0) ++ K.vals y ++ (l.flatMap K.vals).drop (k * K.n + 0 + (K.vals y).length) = (l.set k y).flatMap K.vals := by
  have t1 : ∀ j, (l.take j).flatMap K.vals = (l.flatMap K.vals).take (j * K.n) := fun j => by
    by_cases hj : j ≤ l.length
    · conv => rhs; rw [← List.take_append_drop j l, List.flatMap_append]
      rw [List.take_left' (by rw [flat_lenL K.vals K.n K.len, List.length_take, Nat.min_eq_left hj])]
    · rw [List.take_of_length_le (by omega), List.take_of_length_le (by rw [flat_lenL K.vals K.n K.len]; exact Nat.mul_le_mul_right _ (by omega))]
  have t2 : (l.drop (k + 1)).flatMap K.vals = (l.flatMap K.vals).drop ((k + 1) * K.n) := by
    conv => rhs; rw [← List.take_append_drop (k + 1) l, List.flatMap_append]
    rw [List.drop_left' (by rw [flat_lenL K.vals K.n K.len, List.length_take, Nat.min_eq_left (by omega)])]
  rw [List.set_eq_take_append_cons_drop, if_pos (by omega), List.flatMap_append, List.flatMap_cons, t1, t2, K.len, Nat.add_zero, Nat.succ_mul]
  simp
theorem PL.set {K : PK α} {i : TypeInfo} (hi : Tryd.prog.info? K.e = some i) (hs : i.size = K.n) {a : Option Addr} {n c : Nat} {l : List α} {k : Nat} (hk : k < n) (y : α) {v : Value} (hv : v.cells = (K.vals y).toArray) (Q : HP) :
    OTri Tryd.prog (storeS K.e (.pointer (a.map fun z => (z.add (k * K.n)).add 0)) v) (HP.sep (PL K a n c l) (HP.sep (K.rep y) Q)) (fun v => HP.and (v = .tuple #[]) (HP.sep (PL K a n c (l.set k y)) Q)) := by
  refine OTri.fact (φ := l.length = n) (fun R h H => (HP.sep_left H).1) fun hl => ?_
  have hb : k * K.n + K.n ≤ n * K.n := by rw [← Nat.succ_mul]; exact Nat.mul_le_mul_right _ hk
  have st := store_ok hi K.e K.n a n c (l.flatMap K.vals) (k * K.n) 0 v (K.vals y) hv (by rw [hs, K.len]) (by rw [K.len]; exact K.pos) (K.one y) (by rw [K.len]; omega)
  have ec := flat_put K l k (by omega) y
  refine (st.frame (HP.sep (sepN (l.map K.rep)) (HP.sep (K.rep y) Q))).weak (fun R h H => ?_) ?_
  · exact HP.sep_assoc (HP.sep_mono H (fun _ h => h.2) fun _ h => h)
  · rintro v R h ⟨h1, h2, d, l1, l2, ⟨rfl, H⟩, HU⟩
    refine ⟨rfl, ?_⟩
    rw [ec] at H
    have H1 : (HP.sep (OwC K.e K.n a n c ((l.set k y).flatMap K.vals)) (HP.sep (HP.sep (K.rep y) (sepN (l.map K.rep))) Q)).p R h :=
      ⟨h1, h2, d, l1, l2, H, HP.sep_assoc' (HP.swap HU)⟩
    have H2 := HP.sep_assoc' (HP.sep_mono H1 (fun _ h => h) fun z hz => HP.sep_mono hz (fun w hw => sepN_drop (k := k) (x := K.rep y) (by simp [hl]; exact hk) hw) fun _ h => h)
    refine HP.sep_mono H2 (fun z hz => ⟨by simp [hl], ?_⟩) fun _ h => h
    rw [List.map_set]; exact hz
end

theorem PL.appK {α : Type} {K : PK α} (t ty : TypeId) {i : TypeInfo} {z : Value} (ht : Tryd.prog.underlying t = some (.slice K.e)) (hi : Tryd.prog.info? K.e = some i) (hz : i.zero = some z) (hzs : z.cells.size = i.size) (hs : i.size = K.n) (hby : i.bytes ≤ 1000)
    (a : Option Addr) (n c : Nat) (l : List α) (b : Nat) (x : α) (Q : HP) (hb : n ≤ 1000000000) :
    OTri Tryd.prog (appS t ty (.slice a n c) (.slice (some ⟨b, 0, none⟩) 1 1)) (HP.sep (PL K a n c l) (HP.sep (HP.one b (.cells (K.vals x).toArray K.e (0, 0))) (HP.sep (K.rep x) Q)))
      (fun v => HP.ex fun a' => HP.ex fun c' => HP.and (v = .slice a' (n + 1) c') (HP.sep (PL K a' (n + 1) c' (l ++ [x])) (HP.sep (HP.one b (.cells (K.vals x).toArray K.e (0, 0))) Q))) := by
  have hr := one_rd b (K.vals x).toArray K.e
  have hbn : (n + 1) * i.bytes ≤ 140737488355328 := by
    have := Nat.mul_le_mul (show n + 1 ≤ 1000000001 by omega) hby
    omega
  have := append_ok t ty K.e i z ht hi hz hzs (by rw [hs]; exact K.pos) a n c (l.flatMap K.vals) (HP.one b (.cells (K.vals x).toArray K.e (0, 0))) ⟨b, 0, none⟩ 1 1 (K.vals x) (by simpa using hr) (by rw [K.len, hs, Nat.one_mul]) (K.one x) (by unfold maxLen; omega) hbn
  rw [hs] at this
  refine OTri.fact (φ := l.length = n) (fun R h H => (HP.sep_left H).1) fun hl => ?_
  refine (this.frame (HP.sep (sepN (l.map K.rep)) (HP.sep (K.rep x) Q))).weak (fun R h H => ?_) ?_
  · have H1 := HP.sep_assoc (HP.sep_mono H (fun _ h => h.2) fun _ h => h)
    exact HP.sep_assoc' (HP.pick [_, _, _, _, _] [0, 2, 1, 3, 4] (by decide) rfl H1)
  · rintro v R h ⟨h1, h2, d, l1, l2, ⟨a', c', rfl, H⟩, HU⟩
    refine ⟨a', c', rfl, ?_⟩
    have H1 := HP.sep_assoc ⟨h1, h2, d, l1, l2, H, HU⟩
    have H2 := HP.pick [OwC K.e K.n a' (n + 1) c' (l.flatMap K.vals ++ K.vals x), HP.one b (.cells (K.vals x).toArray K.e (0, 0)), sepN (l.map K.rep), K.rep x, Q] [0, 2, 3, 1, 4] (by decide) rfl H1
    have e : (l ++ [x]).map K.rep = l.map K.rep ++ [K.rep x] := by simp
    have H3 : (HP.sep (OwC K.e K.n a' (n + 1) c' (l.flatMap K.vals ++ K.vals x)) (HP.sep (sepN ((l ++ [x]).map K.rep)) (HP.sep (HP.one b (.cells (K.vals x).toArray K.e (0, 0))) Q))).p R h := HP.sep_mono H2 (fun _ h => h) fun y hy => by
      have := HP.sep_assoc' hy
      rw [e]
      exact HP.sep_mono this (fun z hz => (sepN_app (l := l.map K.rep) (m := [K.rep x])).2 hz) fun _ h => h
    have H4 := HP.sep_assoc' H3
    refine HP.sep_mono H4 (fun y hy => ⟨by simp [hl], ?_⟩) fun _ h => h
    have e2 : (l ++ [x]).flatMap K.vals = l.flatMap K.vals ++ K.vals x := by simp
    rw [e2]
    exact hy
theorem PRest.set {α : Type} {K : PK α} {i : TypeInfo} (hi : Tryd.prog.info? K.e = some i) (hs : i.size = K.n) {a : Option Addr} {n c : Nat} {l : List α} {k : Nat} (hk : k < n) (y : α) {v : Value} (hv : v.cells = (K.vals y).toArray) (Q : HP) :
    OTri Tryd.prog (storeS K.e (.pointer (a.map fun z => (z.add (k * K.n)).add 0)) v) (HP.sep (PRest K a n c l k) (HP.sep (K.rep y) Q)) (fun v => HP.and (v = .tuple #[]) (HP.sep (PL K a n c (l.set k y)) Q)) := by
  refine OTri.fact (φ := l.length = n) (fun R h H => (HP.sep_left H).1) fun hl => ?_
  have hb : k * K.n + K.n ≤ n * K.n := by rw [← Nat.succ_mul]; exact Nat.mul_le_mul_right _ hk
  have st := store_ok hi K.e K.n a n c (l.flatMap K.vals) (k * K.n) 0 v (K.vals y) hv (by rw [hs, K.len]) (by rw [K.len]; exact K.pos) (K.one y) (by rw [K.len]; omega)
  rw [flat_put K l k (by omega) y] at st
  refine (st.frame (HP.sep (sepN ((l.map K.rep).eraseIdx k)) (HP.sep (K.rep y) Q))).weak (fun R h H => ?_) ?_
  · exact HP.sep_assoc (HP.sep_mono H (fun _ h => h.2) fun _ h => h)
  · rintro v R h ⟨h1, h2, d, l1, l2, ⟨rfl, H⟩, HU⟩
    refine ⟨rfl, ?_⟩
    have H1 : (HP.sep (OwC K.e K.n a n c ((l.set k y).flatMap K.vals)) (HP.sep (HP.sep (K.rep y) (sepN ((l.map K.rep).eraseIdx k))) Q)).p R h :=
      ⟨h1, h2, d, l1, l2, H, HP.sep_assoc' (HP.swap HU)⟩
    have H2 := HP.sep_assoc' (HP.sep_mono H1 (fun _ h => h) fun z hz => HP.sep_mono hz (fun w hw => sepN_unfocus (k := k) (x := K.rep y) (by simp [hl]; exact hk) hw) fun _ h => h)
    refine HP.sep_mono H2 (fun z hz => ⟨by simp [hl], ?_⟩) fun _ h => h
    rw [List.map_set]; exact hz

theorem ldB1 {t e : TypeId} {d : TypeDesc} (hd : Tryd.prog.underlying t = some d) (ha : aggT Tryd.prog t = false) (hz : szT Tryd.prog t = 1) {b k : Nat} {cs : Array Value} {v : Value} (hk : cs.toList[k]? = some v) {Q : HP} :
    ORead Tryd.prog (loadS t (.pointer (some ⟨b, k, none⟩))) (HP.sep (HP.one b (.cells cs e (0, 0))) Q) v := by
  have := load1_ok hd ha hz (Rd.left (B := Q) (one_rd b cs e)) (k := k) (off := 0) (v := v) hk
  simpa [addr_add] using this
theorem ldBN {t e : TypeId} {d : TypeDesc} (hd : Tryd.prog.underlying t = some d) (ha : aggT Tryd.prog t = true) {b k : Nat} {cs : Array Value} {vs : List Value} (hz : szT Tryd.prog t = vs.length) (hp : 0 < vs.length) (hk : ∀ j v, vs[j]? = some v → cs.toList[k + j]? = some v) {Q : HP} :
    ORead Tryd.prog (loadS t (.pointer (some ⟨b, k, none⟩))) (HP.sep (HP.one b (.cells cs e (0, 0))) Q) (.agg vs.toArray) := by
  have := loadN_ok hd ha (Rd.left (B := Q) (one_rd b cs e)) (k := k) (off := 0) hz hp (fun j v hj => by rw [Nat.add_zero]; exact hk j v hj)
  simpa [addr_add] using this
theorem stB1 {t e : TypeId} {i : TypeInfo} (hi : Tryd.prog.info? t = some i) (hz : i.size = 1) {b k : Nat} {cs cs' : Array Value} {x : Value} (hx : x.cells = #[x]) (h1 : x.oneCell' = true) (hk : k < cs.size) (hc : cs' = cs.setIfInBounds k x) (Q : HP) :
    OTri Tryd.prog (storeS t (.pointer (some ⟨b, k, none⟩)) x) (HP.sep (HP.one b (.cells cs e (0, 0))) Q) (fun v => HP.and (v = .tuple #[]) (HP.sep (HP.one b (.cells cs' e (0, 0))) Q)) := by
  have := storeOne_ok hi e b cs k x [x] (by rw [hx]) (by simp [hz]) (by simp) (by simpa using h1) (by simp; omega) (by unfold maxLen; omega)
  have ec : (cs.toList.take k ++ [x] ++ cs.toList.drop (k + [x].length)).toArray = cs' := by
    rw [hc]
    apply Array.ext'
    rw [Array.toList_setIfInBounds, List.set_eq_take_append_cons_drop, if_pos (by simpa using hk)]
    simp
  rw [ec] at this
  refine (this.frame Q).weak (fun _ _ h => h) ?_
  rintro v R h ⟨h1, h2, d, l1, l2, ⟨rfl, H⟩, HU⟩
  exact ⟨rfl, h1, h2, d, l1, l2, H, HU⟩
theorem stBN {t e : TypeId} {i : TypeInfo} (hi : Tryd.prog.info? t = some i) {b k : Nat} {cs cs' : Array Value} {x : Value} {vs : List Value} (hx : x.cells = vs.toArray) (hz : i.size = vs.length) (hp : 0 < vs.length) (h1 : ∀ v ∈ vs, v.oneCell' = true) (hk : k + vs.length ≤ cs.size)
    (hc : cs'.toList = cs.toList.take k ++ vs ++ cs.toList.drop (k + vs.length)) (Q : HP) :
    OTri Tryd.prog (storeS t (.pointer (some ⟨b, k, none⟩)) x) (HP.sep (HP.one b (.cells cs e (0, 0))) Q) (fun v => HP.and (v = .tuple #[]) (HP.sep (HP.one b (.cells cs' e (0, 0))) Q)) := by
  have := storeOne_ok hi e b cs k x vs hx hz hp h1 hk (by unfold maxLen; omega)
  rw [← hc, Array.toArray_toList] at this
  refine (this.frame Q).weak (fun _ _ h => h) ?_
  rintro v R h ⟨h1, h2, d, l1, l2, ⟨rfl, H⟩, HU⟩
  exact ⟨rfl, h1, h2, d, l1, l2, H, HU⟩

def ixS (t : TypeId) (u v : Value) : Sem Next := do pure (.value (← Instr.indexAt t u v))
theorem semW_ixS {t ty : TypeId} {i j : Nat} {u v : Value} (h : i ≠ j) : semW (.indexAddr t (.tmp i) (.tmp j)) ty [(i, u), (j, v)] = ixS t u v := by
  have h' : (i == j) = false := by simpa using h
  simp [semW, execOp, arW, h', ixS]
theorem ixAt {t el : TypeId} {n : Nat} (ht : Tryd.prog.underlying t = some (.array n el)) (hi : (Tryd.prog.info? el).isSome = true) (hz : szT Tryd.prog el = 1) {b off k : Nat} {x : Int} (hx : x = k) (hk : k < n) {A : HP} :
    ORead Tryd.prog (ixS t (.pointer (some ⟨b, off, none⟩)) (.int .i64 x)) A (.pointer (some ⟨b, off + k, none⟩)) := fun w R h F s _ => by
  obtain ⟨i, hi⟩ := Option.isSome_iff_exists.1 hi
  subst hx
  unfold ixS
  rw [Sem.run_bind, RX.run_indexAt_array ht hi (by omega) (by omega), hz]
  simp [addr_add]
def mkS (t : TypeId) (n c : Value) : Sem Next := do pure (.value (← Instr.makeSlice t n c))
theorem semW_mk {t ty : TypeId} {i : Nat} {u : Value} : semW (.makeSlice t (.tmp i) (.tmp i)) ty [(i, u), (i, u)] = mkS t u u := by simp [semW, execOp, arW, mkS]
theorem made_rep (z : Value) (n : Nat) : (madeCells #[z] n).toList = List.replicate n z := by
  refine List.ext_getElem (by simp [madeCells]) fun i h1 h2 => ?_
  simp [madeCells, Nat.mod_one]
theorem mk_ok {t e : TypeId} {i : TypeInfo} {z : Value} (ht : Tryd.prog.underlying t = some (.slice e)) (hi : Tryd.prog.info? e = some i) (hz : i.zero = some z) (hzs : z.cells = #[z]) (hs : i.size = 1) (n : Nat) (hb : i.bytes * n ≤ 281474976710656) (hm : n ≤ maxLen) (A : HP) :
    OTri Tryd.prog (mkS t (.int .i64 n) (.int .i64 n)) A (fun v => HP.ex fun x => HP.and (v = .slice (some ⟨x, 0, none⟩) n n) (HP.sep (OwC e 1 (some ⟨x, 0, none⟩) n n (List.replicate n z)) A)) := fun w R h F s a => by
  have hr2 := run_make (P := Tryd.prog) w t e i z ht hi hz .i64 .i64 n n (by omega) (Int.le_refl _) (by have : ((i.bytes * n : Nat) : Int) ≤ 281474976710656 := by omega
                                                                                                        rwa [Int.natCast_mul] at this) (by unfold maxLen at hm; omega)
  simp only [Int.toNat_natCast] at hr2
  obtain ⟨s1, d1⟩ := s.alloc (.cells (madeCells z.cells (n * i.size)) e)
  refine ⟨.value _, _, _, by unfold mkS; rw [Sem.run_bind, hr2]; rfl, rfl, Same.alloc w _, R, _, PH.le.refl _, s1, w.heap.size, rfl, _, _, d1, PH.un_left _ _, PH.un_right d1, ⟨by simp, .inr ⟨_, _, rfl, PH.one_self _ _, Nat.le_refl _, hm, ?_, ?_⟩⟩, a⟩
  · rw [hzs, hs]; simp [madeCells]
  · rw [hzs, hs, made_rep]; simp
end Go.Proofs.YtbmajijnjkicmaaDoor



namespace Go.Proofs.YtbmajijnjkicmaaDoor.RX
set_option maxRecDepth 100000
-- tideline/octet.Read: ρ := [.a ba, .n bl, .n bc, .p bP]
def t_rRead : T :=
(.call 40 [.a (.sl (.v 0) (.v 1) (.v 2))] [(.a 0, .prop 3)] [.a, .n, .n, .p, .p] (.w (.a (.sl (.v 4) (.v 5) (.v 6)))) [(.a 4, .prop 7), (.a 0, .prop 8)]
(.new
(.ret (.w (.a (.ptr (.v 9) 0))) [(.a 0, .prop 8), (.b (.v 9), .cells [.sl (.v 4) (.v 5) (.v 6), .bool (.c false)] 111), (.a 4, .prop 7)])))
theorem tree_rRead : tree Tryd.prog { } Tryd.f46 [.a (.sl (.v 0) (.v 1) (.v 2))] [(.a 0, .prop 3)] 4 = t_rRead := by kernel_rfl
def t_rFail : T :=
(.ret (.tup []) [(.b (.v 0), .cells [.sl .nil (.n 0) (.n 0), .bool (.c true)] 111), (.a 1, .prop 4)])
theorem tree_rFail : tree Tryd.prog { } Tryd.f81 [.a (.ptr (.v 0) 0)] [(.b (.v 0), .cells [.sl (.v 1) (.v 2) (.v 3), .bool (.v 5)] 111), (.a 1, .prop 4)] 6 = t_rFail := by kernel_rfl
def t_rTake : T :=
(.br (.v 5)
(.ret (.w (.a (.sl .nil (.n 0) (.n 0)))) [(.b (.v 0), .cells [.sl (.v 1) (.v 2) (.v 3), .bool (.v 5)] 111), (.a 1, .prop 4)])
(.br (.o2 .lt (.o1 .ofNat (.v 2)) (.v 6))
(.call 81 [.a (.ptr (.v 0) 0)] [(.b (.v 0), .cells [.sl (.v 1) (.v 2) (.v 3), .bool (.v 5)] 111), (.a 1, .prop 4)] [.a, .n, .n, .p, .c] (.tup []) [(.b (.v 0), .cells [.sl (.v 7) (.v 8) (.v 9), .bool (.v 11)] 111), (.a 7, .prop 10)]
(.ret (.w (.a (.sl .nil (.n 0) (.n 0)))) [(.b (.v 0), .cells [.sl (.v 7) (.v 8) (.v 9), .bool (.v 11)] 111), (.a 7, .prop 10)]))
(.read (.slice 30 (.tmp 22) (some (.const (.int .i64 0))) (some (.tmp 23)) (some (.tmp 24))) 30 [(22, .w (.a (.sl (.v 1) (.v 2) (.v 3)))), (23, .w (.a (.int .i64 (.v 6)))), (24, .w (.a (.int .i64 (.v 6))))] [(.a 1, .prop 4)] [.a, .n, .n] (.w (.a (.sl (.v 7) (.v 8) (.v 9))))
(.read (.slice 30 (.tmp 30) (some (.tmp 31)) none none) 30 [(30, .w (.a (.sl (.v 1) (.v 2) (.v 3)))), (31, .w (.a (.int .i64 (.v 6))))] [(.a 1, .prop 4)] [.a, .n, .n] (.w (.a (.sl (.v 10) (.v 11) (.v 12))))
(.ret (.w (.a (.sl (.v 7) (.v 8) (.v 9)))) [(.b (.v 0), .cells [.sl (.v 10) (.v 11) (.v 12), .bool (.v 5)] 111), (.a 1, .prop 4)])))))
theorem tree_rTake : tree Tryd.prog { } Tryd.f70 [.a (.ptr (.v 0) 0), .a (.int .i64 (.v 6))] [(.b (.v 0), .cells [.sl (.v 1) (.v 2) (.v 3), .bool (.v 5)] 111), (.a 1, .prop 4)] 7 = t_rTake := by kernel_rfl
def t_rNumber : T :=
(.call 71 [.a (.int .i64 (.v 2))] [] [.i] (.w (.a (.int .i64 (.v 3)))) []
(.call 70 [.a (.ptr (.v 0) 0), .a (.int .i64 (.v 3))] [(.b (.v 0), .prop 1)] [.a, .n, .n, .p, .p] (.w (.a (.sl (.v 4) (.v 5) (.v 6)))) [(.a 4, .prop 7), (.b (.v 0), .prop 8)]
(.loop [.i, .i] [.e (.o1 .neg (.o1 .neg (.i 0))), .e (.o1 .neg (.o1 .neg (.i 0)))]
(.br (.o2 .lt (.v 10) (.o1 .ofNat (.v 5)))
(.need (.o2 .le (.i 0) (.v 10))
(.need (.o1 .isSome (.v 4))
(.read (.load 5 (.tmp 15)) 5 [(15, .w (.a (.eptr 4 (.v 10) 1 0)))] [(.a 4, .prop 7)] [.i] (.w (.a (.int .u8 (.v 11))))
(.need (.o1 (.inr .u64) (.v 11))
(.need (.o1 (.inr .i64) (.o2 .add (.v 10) (.i 1)))
(.again 0 [.e (.o1 .neg (.o1 .neg (.o2 (.bit .or .u64) (.o2 (.shl .u64) (.v 9) (.i 8)) (.v 11)))), .e (.o1 .neg (.o1 .neg (.o2 .add (.v 10) (.i 1))))]))))))
(.ret (.w (.a (.int .u64 (.v 9)))) [(.b (.v 0), .prop 8)])))))
theorem tree_rNumber : tree Tryd.prog { } Tryd.f47 [.a (.ptr (.v 0) 0), .a (.int .i64 (.v 2))] [(.b (.v 0), .prop 1)] 3 = t_rNumber := by kernel_rfl
def t_rTold : T :=
(.call 47 [.a (.ptr (.v 0) 0), .a (.int .i64 (.i 4))] [(.b (.v 0), .cells [.sl (.v 1) (.v 2) (.v 3), .bool (.v 5)] 111), (.a 1, .prop 4)] [.i, .a, .n, .n, .p, .c] (.w (.a (.int .u64 (.v 7)))) [(.b (.v 0), .cells [.sl (.v 8) (.v 9) (.v 10), .bool (.v 12)] 111), (.a 8, .prop 11)]
(.br (.v 12)
(.ret (.w (.a (.int .i64 (.i 0)))) [(.b (.v 0), .cells [.sl (.v 8) (.v 9) (.v 10), .bool (.v 12)] 111), (.a 8, .prop 11)])
(.br (.o2 .lt (.v 6) (.o1 (.wrap .i64) (.v 7)))
(.call 81 [.a (.ptr (.v 0) 0)] [(.b (.v 0), .cells [.sl (.v 8) (.v 9) (.v 10), .bool (.v 12)] 111), (.a 8, .prop 11)] [.a, .n, .n, .p, .c] (.tup []) [(.b (.v 0), .cells [.sl (.v 13) (.v 14) (.v 15), .bool (.v 17)] 111), (.a 13, .prop 16)]
(.ret (.w (.a (.int .i64 (.i 0)))) [(.b (.v 0), .cells [.sl (.v 13) (.v 14) (.v 15), .bool (.v 17)] 111), (.a 13, .prop 16)]))
(.ret (.w (.a (.int .i64 (.o1 (.wrap .i64) (.v 7))))) [(.b (.v 0), .cells [.sl (.v 8) (.v 9) (.v 10), .bool (.v 12)] 111), (.a 8, .prop 11)]))))
theorem tree_rTold : tree Tryd.prog { } Tryd.f72 [.a (.ptr (.v 0) 0), .a (.int .i64 (.v 6))] [(.b (.v 0), .cells [.sl (.v 1) (.v 2) (.v 3), .bool (.v 5)] 111), (.a 1, .prop 4)] 7 = t_rTold := by kernel_rfl
def t_rByte : T :=
(.call 47 [.a (.ptr (.v 0) 0), .a (.int .i64 (.i 1))] [(.b (.v 0), .prop 1)] [.i, .p] (.w (.a (.int .u64 (.v 2)))) [(.b (.v 0), .prop 3)]
(.ret (.w (.a (.int .u8 (.o1 (.wrap .u8) (.v 2))))) [(.b (.v 0), .prop 3)]))
theorem tree_rByte : tree Tryd.prog { } Tryd.f52 [.a (.ptr (.v 0) 0)] [(.b (.v 0), .prop 1)] 2 = t_rByte := by kernel_rfl
def t_rEnd : T :=
(.br (.v 5)
(.ret (.w (.a (.int .i64 (.i 3)))) [(.b (.v 0), .cells [.sl (.v 1) (.v 2) (.v 3), .bool (.v 5)] 111), (.a 1, .prop 4)])
(.br (.o2 .lt (.i 0) (.o1 .ofNat (.v 2)))
(.ret (.w (.a (.int .i64 (.i 3)))) [(.b (.v 0), .cells [.sl (.v 1) (.v 2) (.v 3), .bool (.v 5)] 111), (.a 1, .prop 4)])
(.ret (.w (.a (.int .i64 (.i 0)))) [(.b (.v 0), .cells [.sl (.v 1) (.v 2) (.v 3), .bool (.v 5)] 111), (.a 1, .prop 4)])))
theorem tree_rEnd : tree Tryd.prog { } Tryd.f53 [.a (.ptr (.v 0) 0)] [(.b (.v 0), .cells [.sl (.v 1) (.v 2) (.v 3), .bool (.v 5)] 111), (.a 1, .prop 4)] 6 = t_rEnd := by kernel_rfl
end Go.Proofs.YtbmajijnjkicmaaDoor.RX



namespace Go.Proofs.YtbmajijnjkicmaaDoor
set_option linter.unusedSimpArgs false
set_option linter.unusedVariables false
open Go.Proofs.YtbmajijnjkicmaaDoor RX

def RRep (b : Nat) (s : List UInt8 × Bool) : HP := HP.ex fun a => HP.ex fun c => HP.and (s.1.length ≤ c ∧ s.1.length ≤ 140737488355328) (HP.sep (HP.one b (.cells #[.slice a s.1.length c, .bool s.2] 111)) (RoB a s.1.length s.1))
theorem rFail_ok (b : Nat) (s : List UInt8 × Bool) : Tri Tryd.prog 81 #[.pointer (some ⟨b, 0, none⟩)] (RRep b s) (fun v => HP.and (v = .tuple #[]) (RRep b ([], true))) := by
  refine Tri.ex fun a => Tri.ex fun c => Tri.pure fun _ => ?_
  refine tri_of_tree (ρ := [.n b, .a a, .n s.1.length, .n c, .p (RoB a s.1.length s.1), .c s.2]) mixed Tryd.func81 tree_rFail ?_
  unfold t_rFail
  simp only [T.den, E.prop, E.den, RX.look, F1.app, F2.app, Uni.int_i, Uni.nat_n, Uni.bool_c, Uni.str_s, Uni.adr_a, Uni.val_v, Uni.hp_p, hden, cden, V.den, W.den, A.den, BR.den, SA.den, FV.den, capV, exs, exP, allP, Cur.app, List.map_cons, List.map_nil, List.cons_append, List.nil_append, List.drop_succ_cons, List.drop_zero, List.length_cons, List.length_nil, Nat.zero_add, Nat.reduceAdd, Int.neg_neg, Bool.not_not, List.append_nil, Nat.add_zero, List.getElem?_cons_zero, List.getElem?_cons_succ, Decidable.not_not]
  exact .of fun R h H => ⟨trivial, none, 0, ⟨by simp, by simp⟩, HP.sep_mono H (fun _ h => h) fun _ _ => RoC.nil _ _ _ _⟩
def takeR (s : List UInt8 × Bool) (n : Nat) : List UInt8 × (List UInt8 × Bool) := if s.2 then ([], s) else if s.1.length < n then ([], ([], true)) else (s.1.take n, (s.1.drop n, false))
theorem sz8 : szT Tryd.prog 5 = 1 := by kernel_rfl
theorem rTake_ok (b : Nat) (s : List UInt8 × Bool) (n : Nat) : Tri Tryd.prog 70 #[.pointer (some ⟨b, 0, none⟩), .int .i64 n] (RRep b s)
    (fun v => HP.ex fun a => HP.ex fun c => HP.and (v = .slice a (takeR s n).1.length c) (HP.sep (RoB a (takeR s n).1.length (takeR s n).1) (RRep b (takeR s n).2))) := by
  obtain ⟨l, wr⟩ := s
  refine Tri.ex fun a => Tri.ex fun c => Tri.pure fun hc => ?_
  simp only at hc
  refine tri_of_tree (ρ := [.n b, .a a, .n l.length, .n c, .p (RoB a l.length l), .c wr, .i n]) mixed Tryd.func70 tree_rTake ?_
  unfold t_rTake
  simp only [T.den, E.prop, E.den, RX.look, F1.app, F2.app, Uni.int_i, Uni.nat_n, Uni.bool_c, Uni.str_s, Uni.adr_a, Uni.val_v, Uni.hp_p, hden, cden, V.den, W.den, A.den, BR.den, SA.den, FV.den, capV, exs, exP, allP, Cur.app, List.map_cons, List.map_nil, List.cons_append, List.nil_append, List.drop_succ_cons, List.drop_zero, List.length_cons, List.length_nil, Nat.zero_add, Nat.reduceAdd, Int.neg_neg, Bool.not_not, List.append_nil, Nat.add_zero, List.getElem?_cons_zero, List.getElem?_cons_succ, Decidable.not_not]
  refine ⟨fun h1 => .of fun R h H => ?_, fun h1 => ⟨fun h2 => ?_, fun h2 => ?_⟩⟩
  · subst h1
    simp only [takeR, if_true]
    exact ⟨none, 0, rfl, RoC.join (RoC.nil _ _ R h) ⟨a, c, hc, H⟩⟩
  · have e : takeR (l, wr) n = ([], ([], true)) := by simp only [takeR]; rw [if_neg h1, if_pos (by omega)]
    rw [e]
    refine (rFail_ok b (l, wr)).weak (fun R h H => ⟨a, c, hc, H⟩) ?_
    rintro v R h ⟨rfl, a', c', hc', H⟩
    refine ⟨a', _, c', RoB a' 0 [], true, rfl, .of fun R h H => ⟨none, 0, rfl, RoC.join (RoC.nil _ _ R h) ⟨a', c', hc', H⟩⟩, H⟩
  · have hn : n ≤ l.length := by omega
    have hw : wr = false := by simpa using h1
    have e : takeR (l, wr) n = (l.take n, (l.drop n, false)) := by simp only [takeR]; rw [if_neg h1, if_neg (by omega)]
    rw [e]
    obtain ⟨i, hi, _⟩ := info_parts info8
    have s1 := slice_ok und8 hi (RoB a l.length l) a l.length c (some 0) (some n) (some n) (Nat.zero_le _) (Nat.le_refl _) (by simp; omega) (fun _ => rfl)
    have s2 := slice_ok und8 hi (RoB a l.length l) a l.length c (some n) none none hn hc.1 (Nat.le_refl _) (fun h => by cases h)
    refine ⟨_, _, _, s1, _, _, _, s2, ?_⟩
    simp only [Option.getD_some, Option.getD_none, Nat.sub_zero, sz8, Nat.mul_one, Nat.zero_mul]
    refine .of fun R h H => ?_
    have hro := HP.sep_right H
    have r1 := RoC.sub hro 0 n n (Nat.zero_le _) hn (Nat.le_refl _)
    have r2 := RoC.sub hro n l.length c hn (Nat.le_refl _) hc.1
    simp only [Nat.sub_zero, Nat.mul_one, Nat.zero_mul, List.drop_zero, ← List.map_take, ← List.map_drop] at r1 r2
    rw [List.take_of_length_le (by simp)] at r2
    have e1 : (l.take n).length = n := by simp [hn]
    have e2 : (l.drop n).length = l.length - n := by simp
    rw [← e2] at r2
    refine ⟨if n = 0 then a else Option.map (fun x => x.add 0) a, n, by rw [e1], ?_⟩
    rw [e1]
    refine RoC.join r1 ⟨_, c - n, ⟨by simp only [e2]; omega, by simp only [e2]; omega⟩, RoC.joinR r2 ?_⟩
    have := HP.sep_left H
    simp only [e2]
    rw [hw] at this
    exact this

def beV (l : List UInt8) : Nat := l.foldl (fun v b => v * 256 + b.toNat) 0
theorem beV_snoc (l : List UInt8) (b : UInt8) : beV (l ++ [b]) = beV l * 256 + b.toNat := by simp [beV]
theorem beV_lt (l : List UInt8) : beV l < 256 ^ l.length := by
  have key : ∀ (l : List UInt8) (v : Nat), l.foldl (fun v (b : UInt8) => v * 256 + b.toNat) v < (v + 1) * 256 ^ l.length := by
    intro l
    induction l with
    | nil => intro v; simp
    | cons b r ih =>
      intro v
      have hb := b.toNat_lt
      have h1 := ih (v * 256 + b.toNat)
      have h2 : (v * 256 + b.toNat + 1) * 256 ^ r.length ≤ (v + 1) * 256 * 256 ^ r.length := Nat.mul_le_mul_right _ (by omega)
      simp only [List.foldl_cons, List.length_cons, Nat.pow_succ]
      rw [Nat.mul_comm (256 ^ r.length) 256, ← Nat.mul_assoc]
      omega
  simpa [beV] using key l 0
def numR (s : List UInt8 × Bool) (n : Nat) : Nat × (List UInt8 × Bool) := (beV (takeR s n).1, (takeR s n).2)
theorem takeR_len (s : List UInt8 × Bool) (n : Nat) : (takeR s n).1.length ≤ n := by
  unfold takeR; split
  · simp
  · split <;> simp; omega
theorem or_step (v : Nat) (b : UInt8) (hv : v < 2 ^ 56) : bits .or .u64 (IntKind.u64.wrap ((v : Int) * 2 ^ (min (8 : Int).toNat IntKind.u64.bits))) (b.toNat : Int) = ((v * 256 + b.toNat : Nat) : Int) := by
  have hb := b.toNat_lt
  have e1 : IntKind.u64.wrap ((v : Int) * 2 ^ (min (8 : Int).toNat IntKind.u64.bits)) = ((v * 256 : Nat) : Int) := by
    have : (v : Int) * 2 ^ (min (8 : Int).toNat IntKind.u64.bits) = ((v * 256 : Nat) : Int) := by
      simp [IntKind.bits]
    rw [this]
    exact wrap_in ⟨by simp [IntKind.min, IntKind.signed]; omega, by simp [IntKind.max, IntKind.signed, IntKind.bits]; omega⟩
  rw [e1]
  have e2 : (v * 256 ||| b.toNat) = v * 256 + b.toNat := by
    have := Nat.shiftLeft_add_eq_or_of_lt (a := v) (b := b.toNat) (i := 8) (by omega)
    rw [Nat.shiftLeft_eq] at this
    exact this.symm
  show IntKind.u64.wrap ((BitVec.ofInt 64 ((v * 256 : Nat) : Int) ||| BitVec.ofInt 64 (b.toNat : Int)).toNat : Int) = _
  rw [BitVec.ofInt_natCast, BitVec.ofInt_natCast, BitVec.toNat_or, BitVec.toNat_ofNat, BitVec.toNat_ofNat, Nat.mod_eq_of_lt (by omega), Nat.mod_eq_of_lt (by omega), e2]
  exact wrap_in ⟨by simp [IntKind.min, IntKind.signed]; omega, by simp [IntKind.max, IntKind.signed, IntKind.bits]; omega⟩
theorem inI64 (x : Int) (h1 : -9223372036854775808 ≤ x) (h2 : x ≤ 9223372036854775807) : IntKind.i64.min ≤ x ∧ x ≤ IntKind.i64.max := by
  simp [IntKind.min, IntKind.max, IntKind.signed, IntKind.bits]; omega
theorem inU64 (x : Int) (h1 : 0 ≤ x) (h2 : x ≤ 18446744073709551615) : IntKind.u64.min ≤ x ∧ x ≤ IntKind.u64.max := by
  simp [IntKind.min, IntKind.max, IntKind.signed, IntKind.bits]; omega
theorem und8b : Tryd.prog.underlying 5 = some (.int .u8) := by kernel_rfl
theorem agg8 : aggT Tryd.prog 5 = false := by kernel_rfl
theorem rNumber_ok (b : Nat) (s : List UInt8 × Bool) (n : Nat) (hn : n ≤ 8) : Tri Tryd.prog 47 #[.pointer (some ⟨b, 0, none⟩), .int .i64 n] (RRep b s)
    (fun v => HP.and (v = .int .u64 ((numR s n).1 : Nat)) (RRep b (numR s n).2)) := by
  refine tri_of_tree (ρ := [.n b, .p (RRep b s), .i n]) mixed Tryd.func47 tree_rNumber ?_
  unfold t_rNumber
  simp only [T.den, E.prop, E.den, RX.look, F1.app, F2.app, Uni.int_i, Uni.nat_n, Uni.bool_c, Uni.str_s, Uni.adr_a, Uni.val_v, Uni.hp_p, hden, cden, V.den, W.den, A.den, BR.den, SA.den, FV.den, capV, exs, exP, allP, Cur.app, List.map_cons, List.map_nil, List.cons_append, List.nil_append, List.drop_succ_cons, List.drop_zero, List.length_cons, List.length_nil, Nat.zero_add, Nat.reduceAdd, Int.neg_neg, Bool.not_not, List.append_nil, Nat.add_zero, List.getElem?_cons_zero, List.getElem?_cons_succ, Decidable.not_not]
  refine (width_ok n HP.tt).weak (fun _ _ h => h) ?_
  rintro r R h ⟨rfl, H⟩
  refine ⟨min (max n 0) 8, rfl, ?_, H⟩
  rw [show min (max (n : Int) 0) 8 = n by omega]
  refine (rTake_ok b s n).weak (fun _ _ h => h) ?_
  rintro r R h ⟨a, c, rfl, H⟩
  have hlen := takeR_len s n
  have ha : 0 < (takeR s n).1.length → a.isSome = true := fun h => RoC.some (HP.sep_left H) h
  refine ⟨a, _, c, RoB a _ (takeR s n).1, RRep b (takeR s n).2, rfl, ?_, H⟩
  have hpow : 256 ^ (takeR s n).1.length ≤ 256 ^ 8 := Nat.pow_le_pow_right (by decide) (by omega)
  unfold numR
  generalize (takeR s n).1 = l at *
  generalize (takeR s n).2 = s' at *
  refine ⟨fun v i => ∃ k : Nat, i = k ∧ k ≤ l.length ∧ v = ((beV (l.take k) : Nat) : Int), fun v i => l.length - i.toNat, ⟨0, rfl, Nat.zero_le _, rfl⟩, ?_⟩
  rintro v i ⟨k, rfl, hk, rfl⟩
  refine ⟨fun hlt => ⟨by omega, fun _ => ?_⟩, fun hge => ?_⟩
  · have hlt' : k < l.length := by omega
    have hb8 := l[k].toNat_lt
    have hget : l[k]? = some l[k] := List.getElem?_eq_getElem hlt'
    have hk8 : beV (l.take k) < 2 ^ 56 := by
      have h1 := beV_lt (l.take k)
      rw [List.length_take, Nat.min_eq_left hk] at h1
      have h2 : 256 ^ k ≤ 256 ^ 7 := Nat.pow_le_pow_right (by decide) (by omega)
      have h3 : (256 : Nat) ^ 7 = 2 ^ 56 := by decide
      omega
    refine ⟨ha (by omega), fun _ => ⟨(l[k].toNat : Int), ?_, inU64 _ (by omega) (by omega), fun _ => ⟨inI64 _ (by omega) (by omega), fun _ => ⟨⟨k + 1, by omega, hlt', ?_⟩, by dsimp only; omega⟩⟩⟩⟩
    · exact load1_ok und8b agg8 sz8 (RoC.rd 1 a _ (l.map u8v)) (k := (k : Int).toNat * 1) (off := 0) (v := u8v l[k]) (by simp [hget])
    · rw [or_step _ _ hk8, List.take_succ_eq_append_getElem hlt', beV_snoc]
  · have : k = l.length := by omega
    subst this
    rw [List.take_length]
    exact .of fun R h H => ⟨rfl, H⟩
theorem wrap8 (v : Nat) : IntKind.u8.wrap (v : Int) = ((v % 256 : Nat) : Int) := by
  simp only [IntKind.wrap, IntKind.bits, IntKind.signed, Bool.false_and, Bool.false_eq_true, if_false]
  omega
theorem rByte_ok (b : Nat) (s : List UInt8 × Bool) : Tri Tryd.prog 52 #[.pointer (some ⟨b, 0, none⟩)] (RRep b s) (fun v => HP.and (v = .int .u8 (((numR s 1).1 % 256 : Nat) : Int)) (RRep b (numR s 1).2)) := by
  refine tri_of_tree (ρ := [.n b, .p (RRep b s)]) mixed Tryd.func52 tree_rByte ?_
  unfold t_rByte
  simp only [T.den, E.prop, E.den, RX.look, F1.app, F2.app, Uni.int_i, Uni.nat_n, Uni.bool_c, Uni.str_s, Uni.adr_a, Uni.val_v, Uni.hp_p, hden, cden, V.den, W.den, A.den, BR.den, SA.den, FV.den, capV, exs, exP, allP, Cur.app, List.map_cons, List.map_nil, List.cons_append, List.nil_append, List.drop_succ_cons, List.drop_zero, List.length_cons, List.length_nil, Nat.zero_add, Nat.reduceAdd, Int.neg_neg, Bool.not_not, List.append_nil, Nat.add_zero, List.getElem?_cons_zero, List.getElem?_cons_succ, Decidable.not_not]
  refine (rNumber_ok b s 1 (by omega)).weak (fun _ _ h => h) ?_
  rintro v R h ⟨rfl, H⟩
  exact ⟨_, _, rfl, .of fun R h H => ⟨by rw [wrap8], H⟩, H⟩
def toldR (s : List UInt8 × Bool) (most : Int) : Nat × (List UInt8 × Bool) :=
  if (numR s 4).2.2 then (0, (numR s 4).2) else if most < (numR s 4).1 then (0, ([], true)) else ((numR s 4).1, (numR s 4).2)
theorem numR_lt (s : List UInt8 × Bool) (n : Nat) : (numR s n).1 < 256 ^ n :=
  Nat.lt_of_lt_of_le (beV_lt _) (Nat.pow_le_pow_right (by decide) (takeR_len s n))
theorem rTold_ok (b : Nat) (s : List UInt8 × Bool) (most : Int) : Tri Tryd.prog 72 #[.pointer (some ⟨b, 0, none⟩), .int .i64 most] (RRep b s) (fun v => HP.and (v = .int .i64 ((toldR s most).1 : Nat)) (RRep b (toldR s most).2)) := by
  have hlt := numR_lt s 4
  refine Tri.ex fun a => Tri.ex fun c => Tri.pure fun hc => ?_
  refine tri_of_tree (ρ := [.n b, .a a, .n s.1.length, .n c, .p (RoB a s.1.length s.1), .c s.2, .i most]) mixed Tryd.func72 tree_rTold ?_
  unfold t_rTold
  simp only [T.den, E.prop, E.den, RX.look, F1.app, F2.app, Uni.int_i, Uni.nat_n, Uni.bool_c, Uni.str_s, Uni.adr_a, Uni.val_v, Uni.hp_p, hden, cden, V.den, W.den, A.den, BR.den, SA.den, FV.den, capV, exs, exP, allP, Cur.app, List.map_cons, List.map_nil, List.cons_append, List.nil_append, List.drop_succ_cons, List.drop_zero, List.length_cons, List.length_nil, Nat.zero_add, Nat.reduceAdd, Int.neg_neg, Bool.not_not, List.append_nil, Nat.add_zero, List.getElem?_cons_zero, List.getElem?_cons_succ, Decidable.not_not]
  refine (rNumber_ok b s 4 (by omega)).weak (fun R h H => ⟨a, c, hc, H⟩) ?_
  rintro v R h ⟨rfl, a', c', hc', H⟩
  unfold toldR
  generalize (numR s 4).1 = x at *
  generalize (numR s 4).2 = s' at *
  obtain ⟨l', w'⟩ := s'
  refine ⟨_, a', _, c', RoB a' l'.length l', w', rfl, ?_, H⟩
  have e : IntKind.i64.wrap (x : Int) = x := wrap_in (inI64 _ (by omega) (by omega))
  rw [e]
  refine ⟨fun h1 => .of fun R h H => ?_, fun h1 => ⟨fun h2 => ?_, fun h2 => .of fun R h H => ?_⟩⟩
  · simp only [h1, if_true]
    subst h1
    exact ⟨rfl, a', c', hc', H⟩
  · rw [if_neg h1, if_pos h2]
    refine (rFail_ok b (l', w')).weak (fun R h H => ⟨a', c', hc', H⟩) ?_
    rintro v R h ⟨rfl, a2, c2, hc2, H⟩
    exact ⟨a2, _, c2, RoB a2 _ [], true, rfl, .of fun R h H => ⟨rfl, a2, c2, hc2, H⟩, H⟩
  · rw [if_neg h1, if_neg h2]
    exact ⟨rfl, a', c', hc', H⟩
theorem rEnd_ok (b : Nat) (s : List UInt8 × Bool) : Tri Tryd.prog 53 #[.pointer (some ⟨b, 0, none⟩)] (RRep b s) (fun v => HP.and (v = .int .i64 (if s.2 = true ∨ s.1 ≠ [] then 3 else 0)) (RRep b s)) := by
  obtain ⟨l, w⟩ := s
  refine Tri.ex fun a => Tri.ex fun c => Tri.pure fun hc => ?_
  refine tri_of_tree (ρ := [.n b, .a a, .n l.length, .n c, .p (RoB a l.length l), .c w]) mixed Tryd.func53 tree_rEnd ?_
  unfold t_rEnd
  simp only [T.den, E.prop, E.den, RX.look, F1.app, F2.app, Uni.int_i, Uni.nat_n, Uni.bool_c, Uni.str_s, Uni.adr_a, Uni.val_v, Uni.hp_p, hden, cden, V.den, W.den, A.den, BR.den, SA.den, FV.den, capV, exs, exP, allP, Cur.app, List.map_cons, List.map_nil, List.cons_append, List.nil_append, List.drop_succ_cons, List.drop_zero, List.length_cons, List.length_nil, Nat.zero_add, Nat.reduceAdd, Int.neg_neg, Bool.not_not, List.append_nil, Nat.add_zero, List.getElem?_cons_zero, List.getElem?_cons_succ, Decidable.not_not]
  refine ⟨fun h1 => .of fun R h H => ⟨?_, a, c, hc, H⟩, fun h1 => ⟨fun h2 => .of fun R h H => ⟨?_, a, c, hc, H⟩, fun h2 => .of fun R h H => ⟨?_, a, c, hc, H⟩⟩⟩
  · rw [if_pos (.inl h1)]
  · rw [if_pos (.inr (fun e => by subst e; simp at h2))]
  · rw [if_neg (fun e => e.elim h1 fun e => h2 (by have := List.length_pos_iff.2 e; omega))]
theorem rRead_ok (a : Option Addr) (n c : Nat) (l : List UInt8) (S : HP) (hr : RdL S a n (l.map u8v)) (hl : l.length = n) (hb : n ≤ 140737488355328) :
    Tri Tryd.prog 46 #[.slice a n c] S (fun v => HP.ex fun b => HP.and (v = .pointer (some ⟨b, 0, none⟩)) (HP.sep S (RRep b (l, false)))) := by
  refine tri_of_tree (ρ := [.a a, .n n, .n c, .p S]) mixed Tryd.func46 tree_rRead ?_
  unfold t_rRead
  simp only [T.den, E.prop, E.den, RX.look, F1.app, F2.app, Uni.int_i, Uni.nat_n, Uni.bool_c, Uni.str_s, Uni.adr_a, Uni.val_v, Uni.hp_p, hden, cden, V.den, W.den, A.den, BR.den, SA.den, FV.den, capV, exs, exP, allP, Cur.app, List.map_cons, List.map_nil, List.cons_append, List.nil_append, List.drop_succ_cons, List.drop_zero, List.length_cons, List.length_nil, Nat.zero_add, Nat.reduceAdd, Int.neg_neg, Bool.not_not, List.append_nil, Nat.add_zero, List.getElem?_cons_zero, List.getElem?_cons_succ, Decidable.not_not]
  refine (clone8_ok S a n c l hr hl hb).weak (fun _ _ h => h) ?_
  rintro v R h ⟨a', c', rfl, H⟩
  refine ⟨a', _, c', OwB a' n c' l, S, rfl, fun x => ?_, H⟩
  subst hl
  rintro R h d H
  have hle := OwC.le (HP.sep_right (HP.sep_right H))
  refine ((HP.ent.sep2 (HP.ent.refl S) (HP.ent.sep2 (HP.ent.refl _) (OwC.share 5 1 a' l.length c' (l.map u8v)))).trans ?_) R h d H
  refine .of fun R h H => ⟨x, rfl, HP.sep_mono H (fun _ h => h) fun y hy => ?_⟩
  exact ⟨a', c', ⟨hle, hb⟩, hy⟩
end Go.Proofs.YtbmajijnjkicmaaDoor



namespace Go.Proofs.YtbmajijnjkicmaaDoor.RX
set_option maxRecDepth 100000
-- (*tideline/octet.Reader).turns$1: ρ := [.v yield, .p yieldP, .n n, .i n, .n r, .n r, .p rP]
def t_turns1 : T :=
(.loop [.i, .p, .p] [.e (.o1 .neg (.o1 .neg (.i 0))), .p [(.a 0, .prop 1)], .p [(.b (.v 5), .prop 6)]]
(.br (.o2 .lt (.v 7) (.v 3))
(.read (.load 4 (.tmp 11)) 4 [(11, .w (.a (.ptr (.v 5) 1)))] [(.b (.v 5), .prop 9)] [.c] (.w (.a (.bool (.v 10))))
(.br (.v 10)
(.ret (.tup []) [(.a 0, .prop 8), (.b (.v 2), .cells [.int .i64 (.v 3)] 3), (.b (.v 4), .cells [.ptr (.v 5) 0] 83), (.b (.v 5), .prop 9)])
   (.callv 0 [.a (.int .i64 (.v 7))] [(.a 0, .prop 8), (.b (.v 5), .prop 9)] [.c, .p, .p] (.w (.a (.bool (.v 11)))) [(.a 0, .prop 12), (.b (.v 5), .prop 13)]
(.br (.o1 .not (.v 11))
(.ret (.tup []) [(.a 0, .prop 12), (.b (.v 2), .cells [.int .i64 (.v 3)] 3), (.b (.v 4), .cells [.ptr (.v 5) 0] 83), (.b (.v 5), .prop 13)])
(.need (.o1 (.inr .i64) (.o2 .add (.v 7) (.i 1)))
(.again 0 [.e (.o1 .neg (.o1 .neg (.o2 .add (.v 7) (.i 1)))), .p [(.a 0, .prop 12)], .p [(.b (.v 5), .prop 13)]]))))))
(.ret (.tup []) [(.a 0, .prop 8), (.b (.v 2), .cells [.int .i64 (.v 3)] 3), (.b (.v 4), .cells [.ptr (.v 5) 0] 83), (.b (.v 5), .prop 9)])))
theorem tree_turns1 : tree Tryd.prog { hv := [(0, [.a 0, .b (.v 5)])], vt := [.b (.v 5)] } Tryd.f82 [.a (.val 0), .a (.ptr (.v 2) 0), .a (.ptr (.v 4) 0)] [(.a 0, .prop 1), (.b (.v 2), .cells [.int .i64 (.v 3)] 3), (.b (.v 4), .cells [.ptr (.v 5) 0] 83), (.b (.v 5), .prop 6)] 7 = t_turns1 := by kernel_rfl
def t_turns : T :=
(.new
(.new
(.ret (.w (.a (.func 82 [(.v 4, 0), (.v 3, 0)]))) [(.b (.v 0), .prop 1), (.b (.v 4), .cells [.int .i64 (.v 2)] 3), (.b (.v 3), .cells [.ptr (.v 0) 0] 83)])))
theorem tree_turns : tree Tryd.prog { } Tryd.f73 [.a (.ptr (.v 0) 0), .a (.int .i64 (.v 2))] [(.b (.v 0), .prop 1)] 3 = t_turns := by kernel_rfl
end Go.Proofs.YtbmajijnjkicmaaDoor.RX



namespace Go.Proofs.YtbmajijnjkicmaaDoor
set_option linter.unusedSimpArgs false
set_option linter.unusedVariables false
open Go.Proofs.YtbmajijnjkicmaaDoor RX
set_option maxRecDepth 100000

abbrev RS := List UInt8 × Bool
theorem undBo : Tryd.prog.underlying 4 = some .bool := by kernel_rfl
theorem aggBo : aggT Tryd.prog 4 = false := by kernel_rfl
theorem szBo : szT Tryd.prog 4 = 1 := by kernel_rfl
theorem rrep_rd (b : Nat) (s : RS) : ORead Tryd.prog (loadS 4 (.pointer (some ⟨b, 1, none⟩))) (RRep b s) (.bool s.2) := fun w R h F st ⟨a, c, _, H⟩ => by
  have := load1_ok undBo aggBo szBo (Rd.left (B := RoB a s.1.length s.1) (one_rd b #[.slice a s.1.length c, .bool s.2] 111)) (k := 1) (off := 0) (v := .bool s.2) rfl
  simp only [Option.map_some, addr_add] at this
  exact this w R h F st H
def TBox (nb rb b : Nat) (N : Int) : HP := HP.sep (HP.one nb (.cells #[.int .i64 N] 3 (0, 0))) (HP.one rb (.cells #[.pointer (some ⟨b, 0, none⟩)] 83 (0, 0)))
def mayT (N : Nat) (g : Nat × RS) (args : Array Value) (g' : Nat × RS) : Prop := args = #[.int .i64 (g.1 : Int)] ∧ g.1 < N ∧ g.2.2 = false ∧ g'.1 = g.1 + 1
def finT (N : Nat) (g : Nat × RS) : Prop := g.1 ≤ N ∧ (g.1 = N ∨ g.2.2 = true)
theorem fgoT : Fgo Tryd.prog 82 := ⟨_, Tryd.func82, by kernel_rfl, by kernel_rfl⟩
theorem turns_ok (b : Nat) (N : Int) (D : HP) : Tri Tryd.prog 73 #[.pointer (some ⟨b, 0, none⟩), .int .i64 N] D
    (fun v => HP.ex fun nb => HP.ex fun rb => HP.and (v = .func (.func 82) #[] #[.pointer (some ⟨nb, 0, none⟩), .pointer (some ⟨rb, 0, none⟩)]) (HP.sep (TBox nb rb b N) D)) := by
  refine tri_of_tree (ρ := [.n b, .p D, .i N]) mixed Tryd.func73 tree_turns ?_
  unfold t_turns
  simp only [T.den, E.prop, E.den, RX.look, F1.app, F2.app, Uni.int_i, Uni.nat_n, Uni.bool_c, Uni.str_s, Uni.adr_a, Uni.val_v, Uni.hp_p, hden, cden, V.den, W.den, A.den, BR.den, SA.den, FV.den, capV, exs, exP, allP, Cur.app, List.map_cons, List.map_nil, List.cons_append, List.nil_append, List.drop_succ_cons, List.drop_zero, List.length_cons, List.length_nil, Nat.zero_add, Nat.reduceAdd, Int.neg_neg, Bool.not_not, List.append_nil, Nat.add_zero, List.getElem?_cons_zero, List.getElem?_cons_succ, Decidable.not_not, semW_eq, ne_eq, Nat.reduceEqDiff, not_false_eq_true]
  exact fun x y => .of fun R h H => ⟨y, x, rfl, HP.sep_comm H⟩
theorem turns_seq (nb rb b : Nat) (N : Nat) (hN : N ≤ 4294967296) (s : RS) : SeqTri Tryd.prog (.func (.func 82) #[] #[.pointer (some ⟨nb, 0, none⟩), .pointer (some ⟨rb, 0, none⟩)]) (TBox nb rb b N)
    (fun g : Nat × RS => RRep b g.2) (fun _ _ => HP.tt) (mayT N) (finT N) (0, s) := by
  refine ⟨_, _, rfl, fgoT, fun l K Jx hr => ?_⟩
  refine (tri_of_tree (ρ := [.v (.func (.yield l) #[] #[]), .p (K (0, s)), .n nb, .i N, .n rb, .n b, .p (RRep b s)]) mixed Tryd.func82 tree_turns1 ?_).weak (fun R h H => ?_) fun _ _ _ h => h
  rotate_left
  · exact HP.sep_mono (HP.sep_comm (HP.sep_assoc' H)) (fun _ h => h) fun _ h => HP.sep_assoc h
  unfold t_turns1
  simp only [T.den, E.prop, E.den, RX.look, F1.app, F2.app, Uni.int_i, Uni.nat_n, Uni.bool_c, Uni.str_s, Uni.adr_a, Uni.val_v, Uni.hp_p, hden, cden, V.den, W.den, A.den, BR.den, SA.den, FV.den, capV, exs, exP, allP, Cur.app, List.map_cons, List.map_nil, List.cons_append, List.nil_append, List.drop_succ_cons, List.drop_zero, List.length_cons, List.length_nil, Nat.zero_add, Nat.reduceAdd, Int.neg_neg, Bool.not_not, List.append_nil, Nat.add_zero, List.getElem?_cons_zero, List.getElem?_cons_succ, Decidable.not_not, semW_eq, semW_load, ne_eq, Nat.reduceEqDiff, not_false_eq_true]
  have fin : ∀ J J2 : HP, HP.ent (HP.sep J J2) (SeqPost (fun g : Nat × RS => RRep b g.2) K Jx (finT N)) → HP.ent (HP.sep J (HP.sep (HP.one nb (.cells #[.int .i64 N] 3 (0, 0))) (HP.sep (HP.one rb (.cells #[.pointer (some ⟨b, 0, none⟩)] 83 (0, 0))) J2)))
      (HP.sep (TBox nb rb b N) (SeqPost (fun g : Nat × RS => RRep b g.2) K Jx (finT N))) := fun J J2 hJ =>
    (HP.ent.of fun R h H => HP.swap (HP.sep_mono H (fun _ h => h) fun _ h => HP.sep_assoc' h)).trans (HP.ent.sep2 (HP.ent.refl _) hJ)
  refine ⟨fun k p q => ∃ g : Nat × RS, k = g.1 ∧ g.1 ≤ N ∧ p = K g ∧ q = RRep b g.2, fun k _ _ => N - k.toNat, ⟨(0, s), rfl, Nat.zero_le _, rfl, rfl⟩, ?_⟩
  rintro k p q ⟨g, rfl, hg, rfl, rfl⟩
  have done : finT N g → HP.ent (HP.sep (K g) (RRep b g.2)) (SeqPost (fun g : Nat × RS => RRep b g.2) K Jx (finT N)) := fun hf => .of fun R h H => ⟨some g, hf, HP.sep_comm H⟩
  refine ⟨fun hlt => ⟨g.2.2, rrep_rd b g.2, fun hw => ?_, fun hw => ?_⟩, fun hge => ?_⟩
  · exact fin _ _ (done ⟨hg, .inr hw⟩)
  · have hw' : g.2.2 = false := by simpa using hw
    refine (hr g #[.int .i64 (g.1 : Int)] ⟨(g.1 + 1, g.2), rfl, by omega, hw', rfl⟩).conseq (K := HP.tt) (.of fun R h H => HP.sep_tt (HP.tt_sep (HP.sep_comm H))) fun v => .of fun R h H => ?_
    obtain ⟨b', rfl, hb⟩ := HP.sep_left H
    cases b' with
    | true =>
      obtain ⟨g', hm, H2⟩ := hb
      refine ⟨true, K g', RRep b g'.2, rfl, ⟨fun h => absurd rfl h, fun _ => ⟨inI64 _ (by omega) (by omega), fun _ => ⟨⟨g', ?_, ?_, rfl, rfl⟩, ?_⟩⟩⟩, HP.sep_comm H2⟩
      · rw [hm.2.2.2]; omega
      · rw [hm.2.2.2]; omega
      · dsimp only; omega
    | false =>
      refine ⟨false, Jx, HP.tt, rfl, ⟨fun _ => fin _ _ (.of fun R h H => ⟨none, HP.sep_left H⟩), fun h => (by cases h)⟩, HP.sep_tt hb⟩
  · exact fin _ _ (done ⟨hg, .inl (by omega)⟩)
def loopR {α : Type} (f : RS → α × RS) : Nat → RS → List α × RS
  | 0, s => ([], s)
  | n + 1, s => if s.2 then ([], s) else ((f s).1 :: (loopR f n (f s).2).1, (loopR f n (f s).2).2)
def listR {α : Type} (f : RS → α × RS) (most : Int) (s : RS) : List α × RS :=
  if (loopR f (toldR s most).1 (toldR s most).2).2.2 then ([], (loopR f (toldR s most).1 (toldR s most).2).2) else loopR f (toldR s most).1 (toldR s most).2
theorem toldR_lt (s : RS) (most : Int) : (toldR s most).1 ≤ 4294967295 := by
  have := numR_lt s 4
  unfold toldR
  split
  · exact Nat.zero_le _
  · split
    · exact Nat.zero_le _
    · show (numR s 4).1 ≤ _; omega
theorem takeR_false {s : RS} {n : Nat} (h : (takeR s n).2.2 = false) : s.2 = false ∧ (takeR s n).2.1.length + n = s.1.length := by
  unfold takeR at h ⊢
  split at h
  · rename_i e; rw [e] at h; cases h
  · rename_i e
    split at h
    · cases h
    · rw [if_neg e, if_neg (by assumption)]
      exact ⟨by simpa using e, by simp; omega⟩
theorem numR_false {s : RS} {n : Nat} (h : (numR s n).2.2 = false) : s.2 = false ∧ (numR s n).2.1.length + n = s.1.length := takeR_false h
theorem toldR_false {s : RS} {m : Int} (h : (toldR s m).2.2 = false) : s.2 = false ∧ (toldR s m).2.1.length + 4 = s.1.length := by
  unfold toldR at h ⊢
  split at h
  · rename_i e; rw [e] at h; cases h
  · rename_i e
    split at h
    · cases h
    · rw [if_neg e, if_neg (by assumption)]; exact numR_false h
theorem takeR_le (s : RS) (n : Nat) : (takeR s n).2.1.length ≤ s.1.length := by
  unfold takeR; split
  · exact Nat.le_refl _
  · split <;> simp
theorem toldR_len (s : RS) (m : Int) : (toldR s m).2.1.length ≤ s.1.length := by
  have := takeR_le s 4
  unfold toldR
  split
  · exact this
  · split
    · simp
    · exact this
def Shrinks {α : Type} (f : RS → α × RS) : Prop := ∀ s, (f s).2.2 = false → (f s).2.1.length + 1 ≤ s.1.length
theorem loopR_step {α : Type} (f : RS → α × RS) {n i : Nat} {s : RS} (hi : i < n) (hs : s.2 = false) : loopR f (n - i) s = ((f s).1 :: (loopR f (n - (i + 1)) (f s).2).1, (loopR f (n - (i + 1)) (f s).2).2) := by
  rw [show n - i = (n - (i + 1)) + 1 by omega]
  conv => lhs; unfold loopR
  rw [if_neg (by simp [hs])]
theorem loopR_end {α : Type} (f : RS → α × RS) {n : Nat} {s : RS} (h : n = 0 ∨ s.2 = true) : loopR f n s = ([], s) := by
  cases n with
  | zero => rfl
  | succ n => unfold loopR; rw [if_pos (h.resolve_left (by omega))]
def Sofar {α : Type} (f : RS → α × RS) (n : Nat) (s1 : RS) (g : Nat × RS) (ll : List α) : Prop :=
  g.1 ≤ n ∧ (g.2.2 = false → ll.length + g.2.1.length ≤ s1.1.length) ∧ loopR f n s1 = (ll ++ (loopR f (n - g.1) g.2).1, (loopR f (n - g.1) g.2).2)
theorem Sofar.init {α : Type} (f : RS → α × RS) (n : Nat) (s1 : RS) : Sofar f n s1 (0, s1) [] := ⟨Nat.zero_le _, fun _ => by simp, by simp⟩
theorem Sofar.next {α : Type} {f : RS → α × RS} (hf : Shrinks f) {n : Nat} {s1 : RS} {g : Nat × RS} {ll : List α} (h : Sofar f n s1 g ll) (hi : g.1 < n) (hs : g.2.2 = false) : Sofar f n s1 (g.1 + 1, (f g.2).2) (ll ++ [(f g.2).1]) := by
  refine ⟨hi, fun hw => ?_, ?_⟩
  · have h1 := hf g.2 hw
    have h2 := h.2.1 hs
    simp only [List.length_append, List.length_singleton]
    omega
  · rw [h.2.2, loopR_step f hi hs]; simp
theorem Sofar.fin {α : Type} {f : RS → α × RS} {n : Nat} {s1 : RS} {g : Nat × RS} {ll : List α} (h : Sofar f n s1 g ll) (hf : finT n g) : loopR f n s1 = (ll, g.2) := by
  rw [h.2.2, loopR_end f (hf.2.imp (fun e => by omega) id)]; simp
theorem numR_le (s : RS) (n : Nat) : (numR s n).2.1.length ≤ s.1.length := takeR_le s n
theorem loopR_false {α : Type} {f : RS → α × RS} {n : Nat} {s : RS} (h : (loopR f n s).2.2 = false) : s.2 = false := by
  cases hs : s.2 with
  | false => rfl
  | true => rw [loopR_end f (.inr hs)] at h; rw [hs] at h; cases h
theorem loopR_le {α : Type} {f : RS → α × RS} (hf : ∀ s, (f s).2.1.length ≤ s.1.length) : ∀ (n : Nat) (s : RS), (loopR f n s).2.1.length ≤ s.1.length
  | 0, s => Nat.le_refl _
  | n + 1, s => by
    unfold loopR
    split
    · exact Nat.le_refl _
    · exact Nat.le_trans (loopR_le hf n _) (hf s)
theorem listR_snd {α : Type} (f : RS → α × RS) (m : Int) (s : RS) : (listR f m s).2 = (loopR f (toldR s m).1 (toldR s m).2).2 := by
  unfold listR; split <;> rfl
theorem listR_le {α : Type} {f : RS → α × RS} (hf : ∀ s, (f s).2.1.length ≤ s.1.length) (m : Int) (s : RS) : (listR f m s).2.1.length ≤ s.1.length := by
  rw [listR_snd]; exact Nat.le_trans (loopR_le hf _ _) (toldR_len s m)
end Go.Proofs.YtbmajijnjkicmaaDoor



namespace Go.Proofs.YtbmajijnjkicmaaDoor.RX
set_option maxRecDepth 100000
-- tideline/check.More: ρ := [.i sum, .a ba, .n bl, .n bc, .p bP]
def t_cMore : T :=
(.op (.unOp .xor 108 (.tmp 7)) 108 [(7, .w (.a (.int .u32 (.v 0))))] [] [.i] (.w (.a (.int .u32 (.v 5)))) []
(.loop [.i, .i] [.e (.o1 .neg (.o1 .neg (.v 5))), .e (.o1 .neg (.o1 .neg (.i 0)))]
(.br (.o2 .lt (.v 7) (.o1 .ofNat (.v 2)))
(.need (.o2 .le (.i 0) (.v 7))
(.need (.o1 .isSome (.v 1))
(.read (.load 5 (.tmp 13)) 5 [(13, .w (.a (.eptr 1 (.v 7) 1 0)))] [(.a 1, .prop 4)] [.i] (.w (.a (.int .u8 (.v 8))))
(.need (.o1 (.inr .u32) (.v 8))
(.loop [.i, .i] [.e (.o1 .neg (.o1 .neg (.o2 (.bit .xor .u32) (.v 6) (.v 8)))), .e (.o1 .neg (.o1 .neg (.i 0)))]
(.br (.o2 .lt (.v 10) (.i 2))
(.read (.indexAddr 127 (.global 0) (.tmp 24)) 0 [(24, .w (.a (.int .u32 (.o2 (.bit .and .u32) (.v 9) (.i 15)))))] [] [.v] (.w (.a (.val 11)))
(.read (.load 108 (.tmp 25)) 108 [(25, .w (.a (.val 11)))] [] [.i] (.w (.a (.int .u32 (.v 12))))
(.need (.o1 (.inr .i64) (.o2 .add (.v 10) (.i 1)))
(.again 0 [.e (.o1 .neg (.o1 .neg (.o2 (.bit .xor .u32) (.o2 (.shr .u32) (.v 9) (.i 4)) (.v 12)))), .e (.o1 .neg (.o1 .neg (.o2 .add (.v 10) (.i 1))))]))))
(.need (.o1 (.inr .i64) (.o2 .add (.v 7) (.i 1)))
(.again 1 [.e (.o1 .neg (.o1 .neg (.v 9))), .e (.o1 .neg (.o1 .neg (.o2 .add (.v 7) (.i 1))))]))))))))
(.op (.unOp .xor 108 (.tmp 30)) 108 [(30, .w (.a (.int .u32 (.v 6))))] [] [.i] (.w (.a (.int .u32 (.v 8)))) []
(.ret (.w (.a (.int .u32 (.v 8)))) [(.a 1, .prop 4)])))))
theorem tree_cMore : tree Tryd.prog { } Tryd.f80 [.a (.int .u32 (.v 0)), .a (.sl (.v 1) (.v 2) (.v 3))] [(.a 1, .prop 4)] 5 = t_cMore := by kernel_rfl
def t_cSum : T :=
(.call 80 [.a (.int .u32 (.i 0)), .a (.sl (.v 0) (.v 1) (.v 2))] [(.a 0, .prop 3)] [.i, .p] (.w (.a (.int .u32 (.v 4)))) [(.a 0, .prop 5)]
(.ret (.w (.a (.int .u32 (.v 4)))) [(.a 0, .prop 5)]))
theorem tree_cSum : tree Tryd.prog { } Tryd.f69 [.a (.sl (.v 0) (.v 1) (.v 2))] [(.a 0, .prop 3)] 4 = t_cSum := by kernel_rfl
def t_cWrap : T :=
(.new
(.call 69 [.a (.sl (.v 0) (.v 1) (.v 2))] [(.a 0, .prop 3)] [.i, .p] (.w (.a (.int .u32 (.v 5)))) [(.a 0, .prop 6)]
(.need (.o1 (.inr .u64) (.v 5))
(.call 59 [.a (.ptr (.v 4) 0), .a (.int .u64 (.v 5)), .a (.int .i64 (.i 4))] [(.b (.v 4), .cells [.sl .nil (.n 0) (.n 0)] 99)] [.a, .n, .n, .p] (.tup []) [(.b (.v 4), .cells [.sl (.v 7) (.v 8) (.v 9)] 99), (.a 7, .prop 10)]
(.call 66 [.a (.ptr (.v 4) 0)] [(.b (.v 4), .cells [.sl (.v 7) (.v 8) (.v 9)] 99), (.a 7, .prop 10)] [.a, .n, .n, .p, .a, .n, .n, .p] (.w (.a (.sl (.v 11) (.v 12) (.v 13)))) [(.a 11, .prop 14), (.b (.v 4), .cells [.sl (.v 15) (.v 16) (.v 17)] 99), (.a 15, .prop 18)]
(.new
(.call 77 [.a (.sl (.b (.v 19) 0) (.n 2) (.n 2))] [(.b (.v 19), .cells [.sl (.v 0) (.v 1) (.v 2), .sl (.v 11) (.v 12) (.v 13)] 30), (.a 0, .prop 6), (.a 11, .prop 14)] [.a, .n, .n, .p] (.w (.a (.sl (.v 20) (.v 21) (.v 22)))) [(.a 20, .prop 23), (.b (.v 19), .cells [.sl (.v 0) (.v 1) (.v 2), .sl (.v 11) (.v 12) (.v 13)] 30), (.a 0, .prop 6), (.a 11, .prop 14)]
(.ret (.w (.a (.sl (.v 20) (.v 21) (.v 22)))) [(.a 0, .prop 6), (.a 20, .prop 23)]))))))))
theorem tree_cWrap : tree Tryd.prog { keep := [77] } Tryd.f65 [.a (.sl (.v 0) (.v 1) (.v 2))] [(.a 0, .prop 3)] 4 = t_cWrap := by kernel_rfl
def t_cUnwrap : T :=
(.need (.o1 (.inr .i64) (.o2 .sub (.o1 .ofNat (.v 1)) (.i 4)))
(.br (.o2 .lt (.o2 .sub (.o1 .ofNat (.v 1)) (.i 4)) (.i 0))
(.ret (.tup [.a (.sl .nil (.n 0) (.n 0)), .a (.int .i64 (.i 3))]) [(.a 0, .prop 3)])
(.read (.slice 30 (.tmp 11) (some (.const (.int .i64 0))) (some (.tmp 12)) (some (.tmp 13))) 30 [(11, .w (.a (.sl (.v 0) (.v 1) (.v 2)))), (12, .w (.a (.int .i64 (.o2 .sub (.o1 .ofNat (.v 1)) (.i 4))))), (13, .w (.a (.int .i64 (.o2 .sub (.o1 .ofNat (.v 1)) (.i 4)))))] [(.a 0, .prop 3)] [.a, .n, .n] (.w (.a (.sl (.v 4) (.v 5) (.v 6))))
(.read (.slice 30 (.tmp 15) (some (.tmp 16)) none none) 30 [(15, .w (.a (.sl (.v 0) (.v 1) (.v 2)))), (16, .w (.a (.int .i64 (.o2 .sub (.o1 .ofNat (.v 1)) (.i 4)))))] [(.a 0, .prop 3)] [.a, .n, .n] (.w (.a (.sl (.v 7) (.v 8) (.v 9))))
(.call 46 [.a (.sl (.v 7) (.v 8) (.v 9))] [(.a 0, .prop 3)] [.n, .p, .p] (.w (.a (.ptr (.v 10) 0))) [(.b (.v 10), .prop 11), (.a 0, .prop 12)]
(.call 47 [.a (.ptr (.v 10) 0), .a (.int .i64 (.i 4))] [(.b (.v 10), .prop 11)] [.i, .p] (.w (.a (.int .u64 (.v 13)))) [(.b (.v 10), .prop 14)]
(.call 69 [.a (.sl (.v 4) (.v 5) (.v 6))] [(.a 0, .prop 12)] [.i, .p] (.w (.a (.int .u32 (.v 15)))) [(.a 0, .prop 16)]
(.need (.o1 (.inr .u64) (.v 15))
(.br (.o1 .not (.o2 .eq (.v 13) (.v 15)))
(.ret (.tup [.a (.sl .nil (.n 0) (.n 0)), .a (.int .i64 (.i 3))]) [(.a 0, .prop 16)])
(.call 40 [.a (.sl (.v 4) (.v 5) (.v 6))] [(.a 0, .prop 16)] [.a, .n, .n, .p, .p] (.w (.a (.sl (.v 17) (.v 18) (.v 19)))) [(.a 17, .prop 20), (.a 0, .prop 21)]
(.ret (.tup [.a (.sl (.v 17) (.v 18) (.v 19)), .a (.int .i64 (.i 0))]) [(.a 0, .prop 21), (.a 17, .prop 20)])))))))))))
theorem tree_cUnwrap : tree Tryd.prog { } Tryd.f45 [.a (.sl (.v 0) (.v 1) (.v 2))] [(.a 0, .prop 3)] 4 = t_cUnwrap := by kernel_rfl
def t_concat8 : T :=
(.loop [.i, .i] [.e (.o1 .neg (.o1 .neg (.i 0))), .e (.o1 .neg (.o1 .neg (.i 0)))]
(.br (.o2 .lt (.v 5) (.o1 .ofNat (.v 1)))
(.need (.o2 .le (.i 0) (.v 5))
(.need (.o1 .isSome (.v 0))
(.read (.load 30 (.tmp 13)) 30 [(13, .w (.a (.eptr 0 (.v 5) 1 0)))] [(.a 0, .prop 3)] [.a, .n, .n] (.w (.a (.sl (.v 6) (.v 7) (.v 8))))
(.need (.o1 (.inr .i64) (.o2 .add (.v 4) (.o1 .ofNat (.v 7))))
(.br (.o2 .lt (.o2 .add (.v 4) (.o1 .ofNat (.v 7))) (.i 0))
(.op (.makeInterface 9 (.const (.string ⟨#[108, 101, 110, 32, 111, 117, 116, 32, 111, 102, 32, 114, 97, 110, 103, 101]⟩))) 20 [] [] [.v, .p] (.w (.a (.val 9))) [(.a 9, .prop 10)]
(.op (.panic (.tmp 21)) 0 [(21, .w (.a (.val 9)))] [(.a 9, .prop 10)] [.p] (.tup []) [(.a 9, .prop 11)]
(.need (.o1 (.inr .i64) (.o2 .add (.v 5) (.i 1)))
(.again 0 [.e (.o1 .neg (.o1 .neg (.o2 .add (.v 4) (.o1 .ofNat (.v 7))))), .e (.o1 .neg (.o1 .neg (.o2 .add (.v 5) (.i 1))))]))))
(.need (.o1 (.inr .i64) (.o2 .add (.v 5) (.i 1)))
(.again 0 [.e (.o1 .neg (.o1 .neg (.o2 .add (.v 4) (.o1 .ofNat (.v 7))))), .e (.o1 .neg (.o1 .neg (.o2 .add (.v 5) (.i 1))))])))))))
(.call 83 [.a (.sl .nil (.n 0) (.n 0)), .a (.int .i64 (.v 4))] [] [.a, .n, .n, .p] (.w (.a (.sl (.v 6) (.v 7) (.v 8)))) [(.a 6, .prop 9)]
(.loop [.a, .n, .n, .i, .p] [.a (.v 6), .e (.o2 .nadd (.v 7) (.n 0)), .e (.o2 .nadd (.v 8) (.n 0)), .e (.o1 .neg (.o1 .neg (.i 0))), .p [(.a 6, .prop 9)]]
(.br (.o2 .lt (.v 13) (.o1 .ofNat (.v 1)))
(.need (.o2 .le (.i 0) (.v 13))
(.need (.o1 .isSome (.v 0))
(.read (.load 30 (.tmp 29)) 30 [(29, .w (.a (.eptr 0 (.v 13) 1 0)))] [(.a 0, .prop 3)] [.a, .n, .n] (.w (.a (.sl (.v 15) (.v 16) (.v 17))))
(.op (.call ⟨.builtin .append, #[.tmp 31, .tmp 32], #[30, 30]⟩) 30 [(31, .w (.a (.sl (.v 10) (.v 11) (.v 12)))), (32, .w (.a (.sl (.v 15) (.v 16) (.v 17))))] [(.a 10, .prop 14), (.a 0, .prop 3)] [.a, .n, .n, .p] (.w (.a (.sl (.v 18) (.v 19) (.v 20)))) [(.a 18, .prop 21), (.a 0, .prop 3)]
(.need (.o1 (.inr .i64) (.o2 .add (.v 13) (.i 1)))
(.again 0 [.a (.v 18), .e (.o2 .nadd (.v 19) (.n 0)), .e (.o2 .nadd (.v 20) (.n 0)), .e (.o1 .neg (.o1 .neg (.o2 .add (.v 13) (.i 1)))), .p [(.a 18, .prop 21)]]))))))
(.ret (.w (.a (.sl (.v 10) (.v 11) (.v 12)))) [(.a 0, .prop 3), (.a 10, .prop 14)]))))))
theorem tree_concat8 : tree Tryd.prog { hv := [(2, [.a 6])] } Tryd.f77 [.a (.sl (.v 0) (.v 1) (.v 2))] [(.a 0, .prop 3)] 4 = t_concat8 := by kernel_rfl
def t_grow8 : T :=
(.br (.o2 .lt (.v 4) (.i 0))
(.op (.makeInterface 9 (.const (.string ⟨#[99, 97, 110, 110, 111, 116, 32, 98, 101, 32, 110, 101, 103, 97, 116, 105, 118, 101]⟩))) 20 [] [] [.v, .p] (.w (.a (.val 5))) [(.a 5, .prop 6)]
(.op (.panic (.tmp 7)) 0 [(7, .w (.a (.val 5)))] [(.a 5, .prop 6)] [.p] (.tup []) [(.a 5, .prop 7)]
(.need (.o1 (.inr .i64) (.o2 .sub (.o1 .ofNat (.v 2)) (.o1 .ofNat (.v 1))))
(.need (.o1 (.inr .i64) (.o2 .sub (.v 4) (.o2 .sub (.o1 .ofNat (.v 2)) (.o1 .ofNat (.v 1)))))
(.br (.o2 .lt (.i 0) (.o2 .sub (.v 4) (.o2 .sub (.o1 .ofNat (.v 2)) (.o1 .ofNat (.v 1)))))
(.read (.slice 30 (.tmp 17) none (some (.tmp 19)) none) 30 [(17, .w (.a (.sl (.v 0) (.v 1) (.v 2)))), (19, .w (.a (.int .i64 (.o1 .ofNat (.v 2)))))] [(.a 0, .prop 3)] [.a, .n, .n] (.w (.a (.sl (.v 8) (.v 9) (.v 10))))
(.op (.call ⟨.builtin .append, #[.tmp 20, .tmp 21], #[30, 3]⟩) 30 [(20, .w (.a (.sl (.v 8) (.v 9) (.v 10)))), (21, .w (.a (.int .i64 (.o2 .sub (.v 4) (.o2 .sub (.o1 .ofNat (.v 2)) (.o1 .ofNat (.v 1)))))))] [(.a 0, .prop 3)] [.a, .n, .n, .p, .p] (.w (.a (.sl (.v 11) (.v 12) (.v 13)))) [(.a 11, .prop 14), (.a 0, .prop 15)]
(.read (.slice 30 (.tmp 22) none (some (.tmp 24)) none) 30 [(22, .w (.a (.sl (.v 11) (.v 12) (.v 13)))), (24, .w (.a (.int .i64 (.o1 .ofNat (.v 1)))))] [(.a 11, .prop 14)] [.a, .n, .n] (.w (.a (.sl (.v 16) (.v 17) (.v 18))))
(.ret (.w (.a (.sl (.v 16) (.v 17) (.v 18)))) [(.a 0, .prop 15), (.a 11, .prop 14)]))))
(.ret (.w (.a (.sl (.v 0) (.v 1) (.v 2)))) [(.a 0, .prop 3)]))))))
(.need (.o1 (.inr .i64) (.o2 .sub (.o1 .ofNat (.v 2)) (.o1 .ofNat (.v 1))))
(.need (.o1 (.inr .i64) (.o2 .sub (.v 4) (.o2 .sub (.o1 .ofNat (.v 2)) (.o1 .ofNat (.v 1)))))
(.br (.o2 .lt (.i 0) (.o2 .sub (.v 4) (.o2 .sub (.o1 .ofNat (.v 2)) (.o1 .ofNat (.v 1)))))
(.read (.slice 30 (.tmp 17) none (some (.tmp 19)) none) 30 [(17, .w (.a (.sl (.v 0) (.v 1) (.v 2)))), (19, .w (.a (.int .i64 (.o1 .ofNat (.v 2)))))] [(.a 0, .prop 3)] [.a, .n, .n] (.w (.a (.sl (.v 5) (.v 6) (.v 7))))
(.op (.call ⟨.builtin .append, #[.tmp 20, .tmp 21], #[30, 3]⟩) 30 [(20, .w (.a (.sl (.v 5) (.v 6) (.v 7)))), (21, .w (.a (.int .i64 (.o2 .sub (.v 4) (.o2 .sub (.o1 .ofNat (.v 2)) (.o1 .ofNat (.v 1)))))))] [(.a 0, .prop 3)] [.a, .n, .n, .p, .p] (.w (.a (.sl (.v 8) (.v 9) (.v 10)))) [(.a 8, .prop 11), (.a 0, .prop 12)]
(.read (.slice 30 (.tmp 22) none (some (.tmp 24)) none) 30 [(22, .w (.a (.sl (.v 8) (.v 9) (.v 10)))), (24, .w (.a (.int .i64 (.o1 .ofNat (.v 1)))))] [(.a 8, .prop 11)] [.a, .n, .n] (.w (.a (.sl (.v 13) (.v 14) (.v 15))))
(.ret (.w (.a (.sl (.v 13) (.v 14) (.v 15)))) [(.a 0, .prop 12), (.a 8, .prop 11)]))))
(.ret (.w (.a (.sl (.v 0) (.v 1) (.v 2)))) [(.a 0, .prop 3)])))))
theorem tree_grow8 : tree Tryd.prog { opn := true } Tryd.f83 [.a (.sl (.v 0) (.v 1) (.v 2)), .a (.int .i64 (.v 4))] [(.a 0, .prop 3)] 5 = t_grow8 := by kernel_rfl
end Go.Proofs.YtbmajijnjkicmaaDoor.RX



namespace Go.Proofs.YtbmajijnjkicmaaDoor
set_option linter.unusedSimpArgs false
set_option linter.unusedVariables false
open Go.Proofs.YtbmajijnjkicmaaDoor RX
set_option maxRecDepth 100000


def nib (s : Nat) : Nat := (s / 16) ^^^ (fours[s % 16]?.getD 0)
def nibs : Nat → Nat → Nat | 0, y => y | k + 1, y => nibs k (nib y)
def crcB (s : Nat) (b : UInt8) : Nat := nib (nib (s ^^^ b.toNat))
def crcS (s : Nat) (l : List UInt8) : Nat := l.foldl crcB s
def moreS (s : Nat) (l : List UInt8) : Nat := 4294967295 ^^^ crcS (4294967295 ^^^ s) l
def sumS (l : List UInt8) : Nat := moreS 0 l
theorem xor32 {a b : Nat} (ha : a < 4294967296) (hb : b < 4294967296) : a ^^^ b < 4294967296 := Nat.xor_lt_two_pow (n := 32) ha hb
theorem fours_lt (k : Nat) : fours[k]?.getD 0 < 4294967296 := by
  by_cases h : k < 16
  · have : ∀ k < 16, fours[k]?.getD 0 < 4294967296 := by decide
    exact this k h
  · rw [List.getElem?_eq_none (by show 16 ≤ k; omega)]; decide
theorem nib_lt {s : Nat} (h : s < 4294967296) : nib s < 4294967296 := xor32 (by omega) (fours_lt _)
theorem crcB_lt {s : Nat} (h : s < 4294967296) (b : UInt8) : crcB s b < 4294967296 := nib_lt (nib_lt (xor32 h (by have := b.toNat_lt; omega)))
theorem crcS_lt {s : Nat} (h : s < 4294967296) : ∀ l : List UInt8, crcS s l < 4294967296 := fun l => by
  induction l generalizing s with
  | nil => exact h
  | cons b l ih => exact ih (crcB_lt h b)
theorem moreS_lt {s : Nat} (h : s < 4294967296) (l : List UInt8) : moreS s l < 4294967296 := xor32 (by decide) (crcS_lt (xor32 (by decide) h) l)
theorem crcS_snoc (s : Nat) (l : List UInt8) (b : UInt8) : crcS s (l ++ [b]) = crcB (crcS s l) b := by simp [crcS]

theorem wrap32 {x : Nat} (h : x < 4294967296) : IntKind.u32.wrap (x : Int) = x := wrap_in ⟨by simp [IntKind.min, IntKind.signed], by simp [IntKind.max, IntKind.signed, IntKind.bits]; omega⟩
theorem bxor32 {a b : Nat} (ha : a < 4294967296) (hb : b < 4294967296) : bits .xor .u32 (a : Int) (b : Int) = ((a ^^^ b : Nat) : Int) := by
  have e : bits .xor .u32 (a : Int) (b : Int) = IntKind.u32.wrap ((BitVec.ofInt 32 (a : Int) ^^^ BitVec.ofInt 32 (b : Int)).toNat : Int) := rfl
  rw [e, BitVec.ofInt_natCast, BitVec.ofInt_natCast, BitVec.toNat_xor, BitVec.toNat_ofNat, BitVec.toNat_ofNat, Nat.mod_eq_of_lt ha, Nat.mod_eq_of_lt hb]
  exact wrap32 (xor32 ha hb)
theorem band32 {a : Nat} (ha : a < 4294967296) : bits .and .u32 (a : Int) 15 = ((a % 16 : Nat) : Int) := by
  have e : bits .and .u32 (a : Int) ((15 : Nat) : Int) = IntKind.u32.wrap ((BitVec.ofInt 32 (a : Int) &&& BitVec.ofInt 32 ((15 : Nat) : Int)).toNat : Int) := rfl
  have e2 : (((15 : Nat) : Int)) = 15 := rfl
  rw [← e2, e, BitVec.ofInt_natCast, BitVec.ofInt_natCast, BitVec.toNat_and, BitVec.toNat_ofNat, BitVec.toNat_ofNat, Nat.mod_eq_of_lt ha, Nat.mod_eq_of_lt (by decide), show (15 : Nat) = 2 ^ 4 - 1 by decide, Nat.and_two_pow_sub_one_eq_mod]
  exact wrap32 (by omega)
theorem shr32 (a : Nat) : ((a : Int).fdiv (2 ^ (min (4 : Int).toNat IntKind.u32.bits))) = ((a / 16 : Nat) : Int) := by
  rw [show min (4 : Int).toNat IntKind.u32.bits = 4 by decide, Int.fdiv_eq_ediv_of_nonneg _ (by decide)]
  simp


def u32v (x : Nat) : Value := .int .u32 x
theorem fours_rd (A : HP) : Rd A (some ⟨0, 0, none⟩) (fours.map u32v) := fun w R h F s _ j u hj => by
  obtain ⟨cur, ty, fr, e, hc⟩ := s.gl
  refine ⟨_, 0, rfl, ?_⟩
  rw [cell_at (s.oR _ _ e), Nat.zero_add]
  rw [List.getElem?_map] at hj
  cases hf : fours[j]? with
  | none => rw [hf] at hj; cases hj
  | some x => rw [hf] at hj; cases hj; exact hc j x hf
theorem cpl_ok {s : Nat} (hs : s < 4294967296) {i : Nat} {t ty : TypeId} (A : HP) :
    OTri Tryd.prog (semW (.unOp .xor t (.tmp i)) ty [(i, .int .u32 (s : Int))]) A (fun v => HP.and (v = .int .u32 ((4294967295 ^^^ s : Nat) : Int)) A) := fun w R h F st H => by
  refine ⟨.value (.int .u32 ((4294967295 ^^^ s : Nat) : Int)), _, w, ?_, rfl, Same.refl w, R, h, PH.le.refl _, st, rfl, H⟩
  have e : bits .xor .u32 ((4294967295 : Nat) : Int) (s : Int) = ((4294967295 ^^^ s : Nat) : Int) := bxor32 (by decide) hs
  have e2 : (if IntKind.u32.signed = true then -1 else IntKind.u32.max) = ((4294967295 : Nat) : Int) := by decide
  simp only [semW, execOp, arW, List.find?_cons, beq_self_eq_true, Option.map_some, Option.getD_some, unary_xor, e2, intBits_xor, e]
  rfl
theorem undF : Tryd.prog.underlying 127 = some (.array 16 108) := by kernel_rfl
theorem inf32 : (Tryd.prog.info? 108).isSome = true := by kernel_rfl
theorem sz32 : szT Tryd.prog 108 = 1 := by kernel_rfl
theorem und32 : Tryd.prog.underlying 108 = some (.int .u32) := by kernel_rfl
theorem agg32 : aggT Tryd.prog 108 = false := by kernel_rfl
theorem fours_ix {A : HP} {t : Nat} {ty : TypeId} {k : Nat} (hk : k < 16) :
    ORead Tryd.prog (semW (.indexAddr 127 (.global 0) (.tmp t)) ty [(t, .int .u32 (k : Int))]) A (.pointer (some ⟨0, k, none⟩)) := fun w R h F s _ => by
  obtain ⟨i, hi⟩ := Option.isSome_iff_exists.1 inf32
  simp only [semW, execOp, arW, List.find?_cons, beq_self_eq_true, Option.map_some, Option.getD_some]
  rw [Sem.run_bind, RX.run_indexAt_array undF hi (by omega) (by omega), sz32]
  simp [addr_add]
theorem fours_ld {A : HP} {k : Nat} (hk : k < 16) : ORead Tryd.prog (loadS 108 (.pointer (some ⟨0, k, none⟩))) A (.int .u32 ((fours[k]?.getD 0 : Nat) : Int)) := by
  have hx : (fours.map u32v)[k]? = some (.int .u32 ((fours[k]?.getD 0 : Nat) : Int)) := by
    rw [List.getElem?_map]
    cases h : fours[k]? with
    | none => rw [List.getElem?_eq_none_iff] at h; exact absurd h (by show ¬ 16 ≤ k; omega)
    | some x => rfl
  have := load1_ok und32 agg32 sz32 (fours_rd A) (k := k) (off := 0) (by simpa using hx)
  simpa [addr_add] using this

theorem more_ok (s : Nat) (hs : s < 4294967296) (a : Option Addr) (n c : Nat) (l : List UInt8) (S : HP) (hr : RdL S a n (l.map u8v)) (hl : l.length = n) (ha : n ≠ 0 → a.isSome = true) (hb : n ≤ 140737488355328) :
    Tri Tryd.prog 80 #[.int .u32 s, .slice a n c] S (fun v => HP.and (v = .int .u32 ((moreS s l : Nat) : Int)) S) := by
  refine tri_of_tree (ρ := [.i s, .a a, .n n, .n c, .p S]) mixed Tryd.func80 tree_cMore ?_
  unfold t_cMore
  simp only [T.den, E.prop, E.den, RX.look, F1.app, F2.app, Uni.int_i, Uni.nat_n, Uni.bool_c, Uni.str_s, Uni.adr_a, Uni.val_v, Uni.hp_p, hden, cden, V.den, W.den, A.den, BR.den, SA.den, FV.den, capV, exs, exP, allP, Cur.app, List.map_cons, List.map_nil, List.cons_append, List.nil_append, List.drop_succ_cons, List.drop_zero, List.length_cons, List.length_nil, Nat.zero_add, Nat.reduceAdd, Int.neg_neg, Bool.not_not, List.append_nil, Nat.add_zero, List.getElem?_cons_zero, List.getElem?_cons_succ, Decidable.not_not, semW_eq, semW_load, ne_eq, Nat.reduceEqDiff, not_false_eq_true]
  refine (cpl_ok hs _).weak (fun _ _ h => h) ?_
  rintro v R h ⟨rfl, H⟩
  refine ⟨_, rfl, ?_, H⟩
  have h0 : 4294967295 ^^^ s < 4294967296 := xor32 (by decide) hs
  refine ⟨fun x k => ∃ j : Nat, k = j ∧ j ≤ n ∧ x = ((crcS (4294967295 ^^^ s) (l.take j) : Nat) : Int), fun _ k => n - k.toNat, ⟨0, rfl, Nat.zero_le _, rfl⟩, ?_⟩
  rintro x k ⟨j, rfl, hj, rfl⟩
  have hc := crcS_lt h0 (l.take j)
  refine ⟨fun hlt => ?_, fun hge => ?_⟩
  · have hlt' : j < l.length := by omega
    refine ⟨by omega, fun _ => ⟨ha (by omega), fun _ => ⟨(l[j].toNat : Int), ?_, ?_⟩⟩⟩
    · exact load1_ok und8b agg8 sz8 hr.rd (k := (j : Int).toNat * 1) (off := 0) (v := u8v l[j]) (by simp [List.getElem?_eq_getElem hlt'])
    · have hb8 := l[j].toNat_lt
      refine ⟨⟨by simp [IntKind.min, IntKind.signed], by simp [IntKind.max, IntKind.signed, IntKind.bits]; omega⟩, fun _ => ?_⟩
      rw [bxor32 hc (by omega)]
      have hx0 : crcS (4294967295 ^^^ s) (l.take j) ^^^ l[j].toNat < 4294967296 := xor32 hc (by omega)
      refine ⟨fun x k => ∃ i : Nat, k = i ∧ i ≤ 2 ∧ ∃ y : Nat, x = (y : Int) ∧ y < 4294967296 ∧ nibs (2 - i) y = crcB (crcS (4294967295 ^^^ s) (l.take j)) l[j], fun _ k => 2 - k.toNat, ⟨0, rfl, by omega, _, rfl, hx0, rfl⟩, ?_⟩
      rintro x k ⟨i, rfl, hi, y, rfl, hy, hn⟩
      refine ⟨fun h2 => ?_, fun h2 => ?_⟩
      · have hk : y % 16 < 16 := by omega
        refine ⟨.pointer (some ⟨0, y % 16, none⟩), ?_, ((fours[y % 16]?.getD 0 : Nat) : Int), ?_, inI64 _ (by omega) (by omega), fun _ => ?_⟩
        · rw [band32 hy]; exact fours_ix hk
        · exact fours_ld hk
        · rw [shr32, bxor32 (by omega) (fours_lt _)]
          refine ⟨⟨i + 1, by omega, by omega, _, rfl, nib_lt hy, ?_⟩, by dsimp only; omega⟩
          rw [← hn, show 2 - i = (2 - (i + 1)) + 1 by omega]; rfl
      · obtain rfl : i = 2 := by omega
        refine ⟨inI64 _ (by omega) (by omega), fun _ => ⟨⟨j + 1, by omega, by omega, ?_⟩, by dsimp only; omega⟩⟩
        rw [List.take_succ_eq_append_getElem hlt', crcS_snoc, ← hn]; rfl
  · obtain rfl : j = l.length := by omega
    rw [List.take_length] at hc ⊢
    refine (cpl_ok hc _).weak (fun _ _ h => h) ?_
    rintro v R h ⟨rfl, H⟩
    exact ⟨_, rfl, .of fun R h H => ⟨rfl, H⟩, H⟩
theorem sum_ok (a : Option Addr) (n c : Nat) (l : List UInt8) (S : HP) (hr : RdL S a n (l.map u8v)) (hl : l.length = n) (ha : n ≠ 0 → a.isSome = true) (hb : n ≤ 140737488355328) :
    Tri Tryd.prog 69 #[.slice a n c] S (fun v => HP.and (v = .int .u32 ((sumS l : Nat) : Int)) S) := by
  refine tri_of_tree (ρ := [.a a, .n n, .n c, .p S]) mixed Tryd.func69 tree_cSum ?_
  unfold t_cSum
  simp only [T.den, E.prop, E.den, RX.look, F1.app, F2.app, Uni.int_i, Uni.nat_n, Uni.bool_c, Uni.str_s, Uni.adr_a, Uni.val_v, Uni.hp_p, hden, cden, V.den, W.den, A.den, BR.den, SA.den, FV.den, capV, exs, exP, allP, Cur.app, List.map_cons, List.map_nil, List.cons_append, List.nil_append, List.drop_succ_cons, List.drop_zero, List.length_cons, List.length_nil, Nat.zero_add, Nat.reduceAdd, Int.neg_neg, Bool.not_not, List.append_nil, Nat.add_zero, List.getElem?_cons_zero, List.getElem?_cons_succ, Decidable.not_not, semW_eq, ne_eq, Nat.reduceEqDiff, not_false_eq_true]
  refine (more_ok 0 (by decide) a n c l S hr hl ha hb).weak (fun _ _ h => h) ?_
  rintro v R h ⟨rfl, H⟩
  exact ⟨_, S, rfl, .of fun R h H => ⟨rfl, H⟩, H⟩
end Go.Proofs.YtbmajijnjkicmaaDoor



namespace Go.Proofs.YtbmajijnjkicmaaDoor
set_option linter.unusedSimpArgs false
set_option linter.unusedVariables false
open Go.Proofs.YtbmajijnjkicmaaDoor RX
set_option maxRecDepth 100000

def apzS (ts : Array TypeId) (ty : TypeId) (u v : Value) : Sem Next := do pure (.value (← Builtin.append_ ts ty #[u, v]))
theorem semW_apz {ts : Array TypeId} {ty : TypeId} {i j : Nat} {u v : Value} (h : i ≠ j) : semW (.call ⟨.builtin .append, #[.tmp i, .tmp j], ts⟩) ty [(i, u), (j, v)] = apzS ts ty u v := by
  have h' : (i == j) = false := by simpa using h
  simp [semW, execOp, resolve, arW, invoke, builtin, h', apzS]
theorem info8i : Tryd.prog.info? 5 = some (Tryd.prog.info? 5).get! := by kernel_rfl
theorem undInt' : Tryd.prog.underlying 3 = some (.int .i64) := by kernel_rfl
theorem zc_len (z : Value) (n : Nat) : (Builtin.zeroCells #[z] n).toList.length = n := by simp [Builtin.zeroCells]
theorem zc_size (z : Value) (n : Nat) : (Builtin.zeroCells #[z] n).size = n := by simp [Builtin.zeroCells]
theorem zc_rep (z : Value) (n : Nat) : (Builtin.zeroCells #[z] n).toList = List.replicate n z := by
  refine List.ext_getElem (by simp [Builtin.zeroCells]) fun i h1 h2 => ?_
  simp [Builtin.zeroCells, Nat.mod_one]
theorem apz_ok {ty : TypeId} (m : Nat) (h0 : 0 < m) (hb : m ≤ 140737488355328) (A : HP) :
    OTri Tryd.prog (apzS #[30, 3] ty (.slice none 0 0) (.int .i64 (m : Int))) A
      (fun v => HP.ex fun x => HP.ex fun c => HP.and (v = .slice (some ⟨x, 0, none⟩) m c) (HP.sep (OwB (some ⟨x, 0, none⟩) m c (List.replicate m 0)) A)) := fun w R h F s a => by
  obtain ⟨i, hi, h1, h2, h3⟩ := info_parts info8
  have hr := Lib.run_append_nil_zeros (P := Tryd.prog) w 30 3 ty 5 i (.int .u8 0) .i64 .i64 und8 undInt' hi h1 m h0 (by omega) (by omega) (by rw [h3]; omega)
  have s0 : Sat w.drew R h F := s.drew _
  obtain ⟨s1, d1⟩ := s0.alloc (.cells (Builtin.zeroCells (Value.int .u8 0).cells m ++ Builtin.zeroCells (Value.int .u8 0).cells (grownCap w m 0 5 - m)) 5 (0, 0))
  have hc1 := grownCap_ge w m 0 5
  have hsame : Same w (w.drew.alloc (.cells (Builtin.zeroCells (Value.int .u8 0).cells m ++ Builtin.zeroCells (Value.int .u8 0).cells (grownCap w m 0 5 - m)) 5 (0, 0))) := Same.trans (b := w.drew) ⟨rfl, rfl, rfl, Nat.le_refl _⟩ (Same.alloc w.drew _)
  refine ⟨_, _, _, by unfold apzS; rw [Sem.run_bind, hr]; rfl, rfl, hsame, R, _, PH.le.refl _, s1, w.heap.size, _, rfl, _, _, d1, PH.un_left _ _, PH.un_right d1, ⟨by simp, .inr ⟨_, _, rfl, PH.one_self _ _, hc1, grownCap_le_maxLen _ _ _ _ (by unfold maxLen; omega), ?_, ?_⟩⟩, a⟩
  · rw [show (Value.int .u8 0).cells = #[.int .u8 0] from rfl, Array.size_append, zc_size, zc_size]; omega
  · rw [show (Value.int .u8 0).cells = #[.int .u8 0] from rfl, Array.toList_append, Nat.mul_one, List.take_left' (zc_len _ _), zc_rep, List.map_replicate]; rfl
theorem grow8_ok (m : Nat) (hb : m ≤ 140737488355328) :
    Tri Tryd.prog 83 #[.slice none 0 0, .int .i64 (m : Int)] HP.tt (fun v => HP.ex fun a => HP.ex fun c => HP.and (v = .slice a 0 c) (OwB a 0 c [])) := by
  refine tri_of_tree (ρ := [.a none, .n 0, .n 0, .p HP.tt, .i m]) mixed Tryd.func83 tree_grow8 ?_
  unfold t_grow8
  simp only [T.den, E.prop, E.den, RX.look, F1.app, F2.app, Uni.int_i, Uni.nat_n, Uni.bool_c, Uni.str_s, Uni.adr_a, Uni.val_v, Uni.hp_p, hden, cden, V.den, W.den, A.den, BR.den, SA.den, FV.den, capV, exs, exP, allP, Cur.app, List.map_cons, List.map_nil, List.cons_append, List.nil_append, List.drop_succ_cons, List.drop_zero, List.length_cons, List.length_nil, Nat.zero_add, Nat.reduceAdd, Int.neg_neg, Bool.not_not, List.append_nil, Nat.add_zero, List.getElem?_cons_zero, List.getElem?_cons_succ, Decidable.not_not, semW_eq, semW_append, ne_eq, Nat.reduceEqDiff, not_false_eq_true]
  refine ⟨fun h => absurd h (by omega), fun _ => ⟨inI64 _ (by omega) (by omega), fun _ => ⟨inI64 _ (by omega) (by omega), fun _ => ⟨fun hm => ?_, fun hm => ?_⟩⟩⟩⟩
  · refine ⟨none, 0, 0, ?_, ?_⟩
    · rw [semW_slice]; exact slice_ok und8 info8i HP.tt none 0 0 none (some 0) none (Nat.le_refl _) (Nat.le_refl _) (Nat.le_refl _) (fun h => by cases h)
    · rw [semW_apz (by decide), show ((m : Int) - ((0 : Nat) - (0 : Nat) : Int)) = (m : Int) by omega]
      refine (apz_ok m (by omega) hb HP.tt).weak (fun _ _ h => h) ?_
      rintro v R h ⟨x, c, rfl, H⟩
      have hle := OwC.le (HP.sep_left H)
      refine ⟨some ⟨x, 0, none⟩, m, c, OwB (some ⟨x, 0, none⟩) m c (List.replicate m 0), HP.tt, rfl, ⟨some ⟨x, 0, none⟩, 0, c, ?_, ?_⟩, H⟩
      · rw [semW_slice]
        have h2 : ORead Tryd.prog (sliceS 30 (.slice (some ⟨x, 0, none⟩) m c) (iv none) (iv (some 0)) (iv none)) (OwB (some ⟨x, 0, none⟩) m c (List.replicate m 0)) (.slice (some ⟨x, 0, none⟩) 0 c) := by
          simpa [addr_add] using slice_ok und8 info8i (OwB (some ⟨x, 0, none⟩) m c (List.replicate m 0)) (some ⟨x, 0, none⟩) m c none (some 0) none (Nat.le_refl _) (Nat.zero_le _) (Nat.le_refl _) (fun h => by cases h)
        exact h2
      · refine .of fun R h H => ⟨some ⟨x, 0, none⟩, c, rfl, ?_⟩
        obtain ⟨hl, h'⟩ := HP.sep_right H
        rcases h' with ⟨e, _⟩ | ⟨g, cur, e, hg, q1, q2, q3, q4⟩
        · cases e
        · exact ⟨by simp, .inr ⟨g, cur, e, hg, Nat.zero_le _, q2, q3, by simp⟩⟩
  · exact .of fun R h H => ⟨none, 0, rfl, OwC.nil _ _ R h⟩
theorem RdL.left {A B : HP} {a : Option Addr} {n : Nat} {xs : List Value} (r : RdL A a n xs) : RdL (HP.sep A B) a n xs := ⟨r.rd.left, fun R h H e => r.none R h (HP.sep_left H) e⟩
theorem RdL.right {A B : HP} {a : Option Addr} {n : Nat} {xs : List Value} (r : RdL B a n xs) : RdL (HP.sep A B) a n xs := ⟨r.rd.right, fun R h H e => r.none R h (HP.sep_right H) e⟩
theorem agg8s : aggT Tryd.prog 30 = false := by kernel_rfl
theorem sz8s : szT Tryd.prog 30 = 1 := by kernel_rfl
theorem concat8_ok (b : Nat) (a1 a2 : Option Addr) (n1 c1 n2 c2 : Nat) (l1 l2 : List UInt8) (P1 P2 : HP) (r1 : RdL P1 a1 n1 (l1.map u8v)) (r2 : RdL P2 a2 n2 (l2.map u8v)) (h1 : l1.length = n1) (h2 : l2.length = n2)
    (s1 : n1 ≠ 0 → a1.isSome = true) (s2 : n2 ≠ 0 → a2.isSome = true) (hb : n1 + n2 ≤ 140737488355328) :
    Tri Tryd.prog 77 #[.slice (some ⟨b, 0, none⟩) 2 2] (HP.sep (HP.one b (.cells #[.slice a1 n1 c1, .slice a2 n2 c2] 30 (0, 0))) (HP.sep P1 P2))
      (fun v => HP.ex fun a => HP.ex fun c => HP.and (v = .slice a (n1 + n2) c) (HP.sep (OwB a (n1 + n2) c (l1 ++ l2)) (HP.sep (HP.one b (.cells #[.slice a1 n1 c1, .slice a2 n2 c2] 30 (0, 0))) (HP.sep P1 P2)))) := by
  generalize hS : HP.sep (HP.one b (.cells #[.slice a1 n1 c1, .slice a2 n2 c2] 30 (0, 0))) (HP.sep P1 P2) = S
  have hrd : Rd S (some ⟨b, 0, none⟩) [.slice a1 n1 c1, .slice a2 n2 c2] := by
    subst hS; exact Rd.left (one_rd b #[.slice a1 n1 c1, .slice a2 n2 c2] _)
  have hr1 : RdL S a1 n1 (l1.map u8v) := by subst hS; exact (r1.left).right
  have hr2 : RdL S a2 n2 (l2.map u8v) := by subst hS; exact (r2.right).right
  refine tri_of_tree (ρ := [.a (some ⟨b, 0, none⟩), .n 2, .n 2, .p S]) mixed Tryd.func77 tree_concat8 ?_
  unfold t_concat8
  simp only [T.den, E.prop, E.den, RX.look, F1.app, F2.app, Uni.int_i, Uni.nat_n, Uni.bool_c, Uni.str_s, Uni.adr_a, Uni.val_v, Uni.hp_p, hden, cden, V.den, W.den, A.den, BR.den, SA.den, FV.den, capV, exs, exP, allP, Cur.app, List.map_cons, List.map_nil, List.cons_append, List.nil_append, List.drop_succ_cons, List.drop_zero, List.length_cons, List.length_nil, Nat.zero_add, Nat.reduceAdd, Int.neg_neg, Bool.not_not, List.append_nil, Nat.add_zero, List.getElem?_cons_zero, List.getElem?_cons_succ, Decidable.not_not, semW_eq, semW_load, semW_append, ne_eq, Nat.reduceEqDiff, not_false_eq_true]
  refine ⟨fun x k => (k = 0 ∧ x = 0) ∨ (k = 1 ∧ x = n1) ∨ (k = 2 ∧ x = n1 + n2), fun _ k => 2 - k.toNat, .inl ⟨rfl, rfl⟩, ?_⟩
  intro x k hxk
  have ld1 : ORead Tryd.prog (loadS 30 (.pointer (some ⟨b, 0, none⟩))) S (.slice a1 n1 c1) := by
    have := load1_ok und8 agg8s sz8s hrd (k := 0) (off := 0) (v := .slice a1 n1 c1) rfl
    simpa [addr_add] using this
  have ld2 : ORead Tryd.prog (loadS 30 (.pointer (some ⟨b, 1, none⟩))) S (.slice a2 n2 c2) := by
    have := load1_ok und8 agg8s sz8s hrd (k := 1) (off := 0) (v := .slice a2 n2 c2) rfl
    simpa [addr_add] using this
  refine ⟨fun hlt => ⟨by omega, fun _ => ⟨rfl, fun _ => ?_⟩⟩, fun hge => ?_⟩
  · rcases hxk with ⟨rfl, rfl⟩ | ⟨rfl, rfl⟩ | ⟨rfl, rfl⟩
    · refine ⟨a1, n1, c1, by simpa [addr_add] using ld1, inI64 _ (by omega) (by omega), fun _ => ⟨fun h => absurd h (by omega), fun _ => ⟨inI64 _ (by omega) (by omega), fun _ => ⟨.inr (.inl ⟨rfl, by omega⟩), by dsimp only; omega⟩⟩⟩⟩
    · refine ⟨a2, n2, c2, by simpa [addr_add] using ld2, inI64 _ (by omega) (by omega), fun _ => ⟨fun h => absurd h (by omega), fun _ => ⟨inI64 _ (by omega) (by omega), fun _ => ⟨.inr (.inr ⟨rfl, by omega⟩), by dsimp only; omega⟩⟩⟩⟩
    · omega
  · obtain rfl : x = ((n1 + n2 : Nat) : Int) := by omega
    refine (grow8_ok (n1 + n2) hb).weak (fun _ _ h => h) ?_
    rintro v R h ⟨a, c, rfl, H⟩
    refine ⟨a, 0, c, OwB a 0 c [], rfl, ?_, H⟩
    refine ⟨fun a n c k p => ∃ ll : List UInt8, n = ll.length ∧ HP.ent p (OwB a ll.length c ll) ∧ ((k = 0 ∧ ll = []) ∨ (k = 1 ∧ ll = l1) ∨ (k = 2 ∧ ll = l1 ++ l2)), fun _ _ _ k _ => 2 - k.toNat, ⟨[], rfl, HP.ent.refl _, .inl ⟨rfl, rfl⟩⟩, ?_⟩
    rintro a n c k p ⟨ll, rfl, hp, hk⟩
    refine ⟨fun hlt => ⟨by omega, fun _ => ⟨rfl, fun _ => ?_⟩⟩, fun hge => ?_⟩
    · rcases hk with ⟨rfl, rfl⟩ | ⟨rfl, rfl⟩ | ⟨rfl, rfl⟩
      · refine ⟨a1, n1, c1, by simpa [addr_add] using ld1, ?_⟩
        refine (append8 a 0 c [] S a1 n1 c1 l1 hr1 h1 s1 (by omega)).conseq ((HP.ent.sep hp S).trans (.of fun _ _ => HP.sep_tt)) fun v => .of fun R h H => ?_
        obtain ⟨a', c', rfl, H'⟩ := HP.sep_left H
        refine ⟨a', _, c', OwB a' (0 + n1) c' ([] ++ l1), rfl, ⟨inI64 _ (by omega) (by omega), fun _ => ⟨⟨l1, by omega, ?_, .inr (.inl ⟨rfl, rfl⟩)⟩, by dsimp only; omega⟩⟩, H'⟩
        rw [Nat.zero_add, List.nil_append, h1]; exact HP.ent.refl _
      · refine ⟨a2, n2, c2, by simpa [addr_add] using ld2, ?_⟩
        refine (append8 a ll.length c ll S a2 n2 c2 l2 hr2 h2 s2 (by omega)).conseq ((HP.ent.sep hp S).trans (.of fun _ _ => HP.sep_tt)) fun v => .of fun R h H => ?_
        obtain ⟨a', c', rfl, H'⟩ := HP.sep_left H
        refine ⟨a', _, c', OwB a' (ll.length + n2) c' (ll ++ l2), rfl, ⟨inI64 _ (by omega) (by omega), fun _ => ⟨⟨ll ++ l2, by simp; omega, ?_, .inr (.inr ⟨rfl, rfl⟩)⟩, by dsimp only; omega⟩⟩, H'⟩
        rw [List.length_append, h2]; exact HP.ent.refl _
      · omega
    · obtain ⟨rfl, rfl⟩ : k = 2 ∧ ll = l1 ++ l2 := by
        rcases hk with ⟨rfl, _⟩ | ⟨rfl, _⟩ | ⟨rfl, e⟩
        · omega
        · omega
        · exact ⟨rfl, e⟩
      have e : (l1 ++ l2).length = n1 + n2 := by rw [List.length_append, h1, h2]
      refine (HP.ent.sep2 (HP.ent.refl S) hp).trans (.of fun R h H => ⟨a, c, by rw [e], ?_⟩)
      rw [e] at H
      exact HP.sep_comm H

def wrapS (l : List UInt8) : List UInt8 := l ++ beN (sumS l) 4
def unwrapS (l : List UInt8) : Option (List UInt8) := if l.length < 4 then none else if beV (l.drop (l.length - 4)) = sumS (l.take (l.length - 4)) then some (l.take (l.length - 4)) else none
theorem wrapS_len (l : List UInt8) : (wrapS l).length = l.length + 4 := by simp [wrapS, beN_len]
theorem sumS_lt (l : List UInt8) : sumS l < 4294967296 := moreS_lt (by decide) l
theorem wrap_ok (a : Option Addr) (n c : Nat) (l : List UInt8) (S : HP) (hr : RdL S a n (l.map u8v)) (hl : l.length = n) (ha : n ≠ 0 → a.isSome = true) (hb : n ≤ 140737488355000) :
    Tri Tryd.prog 65 #[.slice a n c] S (fun v => HP.ex fun a' => HP.ex fun c' => HP.and (v = .slice a' (wrapS l).length c') (HP.sep S (OwB a' (wrapS l).length c' (wrapS l)))) := by
  refine tri_of_tree (ρ := [.a a, .n n, .n c, .p S]) mixed Tryd.func65 tree_cWrap ?_
  unfold t_cWrap
  simp only [T.den, E.prop, E.den, RX.look, F1.app, F2.app, Uni.int_i, Uni.nat_n, Uni.bool_c, Uni.str_s, Uni.adr_a, Uni.val_v, Uni.hp_p, hden, cden, V.den, W.den, A.den, BR.den, SA.den, FV.den, capV, exs, exP, allP, Cur.app, List.map_cons, List.map_nil, List.cons_append, List.nil_append, List.drop_succ_cons, List.drop_zero, List.length_cons, List.length_nil, Nat.zero_add, Nat.reduceAdd, Int.neg_neg, Bool.not_not, List.append_nil, Nat.add_zero, List.getElem?_cons_zero, List.getElem?_cons_succ, Decidable.not_not, semW_eq, ne_eq, Nat.reduceEqDiff, not_false_eq_true]
  intro x
  refine (sum_ok a n c l S hr hl ha (by omega)).weak (fun _ _ h => h) ?_
  rintro v R h ⟨rfl, H⟩
  have hlt := sumS_lt l
  refine ⟨_, S, rfl, ⟨inU64 _ (by omega) (by omega), fun _ => ?_⟩, H⟩
  refine (wNumber_ok x [] (sumS l) 4 (by omega) (by simp)).weak (fun R h H => ⟨none, 0, HP.sep_comm (HP.sep_mono (HP.tt_sep H) (fun y _ => OwC.nil _ _ R y) fun _ h => h)⟩) ?_
  rintro v R h ⟨rfl, xa, xc, H⟩
  refine ⟨xa, _, xc, _, rfl, ?_, H⟩
  refine (wOut_ok x ([] ++ beN (sumS l) 4) (by simp [beN_len])).weak (fun R h H => ⟨xa, xc, H⟩) ?_
  rintro v R h ⟨a', c', rfl, H⟩
  obtain ⟨h1, h2, d, q1, q2, ⟨ya, yc, HW⟩, HO⟩ := H
  have e4 : ([] ++ beN (sumS l) 4).length = 4 := by simp [beN_len]
  have ha' : a'.isSome = true := OwC.some HO (by omega)
  refine ⟨a', _, c', OwB a' _ c' _, ya, _, yc, OwB ya _ yc _, rfl, fun y => ?_, h2, h1, d.symm, q2, q1, HO, HW⟩
  refine (concat8_ok y a a' n c _ c' l ([] ++ beN (sumS l) 4) S (OwB a' _ c' _) hr (RdL.ow _ _ _ _ _ _) hl rfl ha (fun _ => ha') (by omega)).weak (fun _ _ h => h) ?_
  rintro v R h ⟨b', d', rfl, H⟩
  refine ⟨b', _, d', OwB b' _ d' _, rfl, .of fun R h H => ⟨b', d', ?_, ?_⟩, H⟩
  · rw [wrapS_len, e4, hl]
  · rw [wrapS_len, hl]; rw [e4] at H; exact H
theorem RdL.subs {S : HP} {a : Option Addr} {n : Nat} {xs : List Value} (r : RdL S a n xs) (o k : Nat) (hk : o + k ≤ n) (z : Prop) [Decidable z] (hz : z → k = 0) : RdL S (if z then a else a.map fun x => x.add o) k ((xs.drop o).take k) where
  rd w R h F s H j u hj := by
    rw [List.getElem?_take] at hj
    split at hj
    · rename_i hjk
      rw [List.getElem?_drop] at hj
      obtain ⟨g, off, rfl, hc⟩ := r.rd w R h F s H (o + j) u hj
      rw [if_neg (fun h => by have := hz h; omega)]
      refine ⟨g, off + o, by rw [Option.map_some, RX.addr_add], ?_⟩
      rw [Nat.add_assoc]; exact hc
    · cases hj
  none R h H e := by
    split at e
    · exact hz ‹_›
    · have := r.none R h H (by simpa using e); omega
theorem unwrap_ok (a : Option Addr) (n c : Nat) (l : List UInt8) (S : HP) (hr : RdL S a n (l.map u8v)) (hl : l.length = n) (hc : n ≤ c) (ha : n ≠ 0 → a.isSome = true) (hb : n ≤ 140737488355000) :
    Tri Tryd.prog 45 #[.slice a n c] S (fun v => HP.ex fun a' => HP.ex fun c' => HP.and (v = .tuple #[.slice a' ((unwrapS l).getD []).length c', .int .i64 (if (unwrapS l).isSome then 0 else 3)])
      (HP.sep S (OwB a' ((unwrapS l).getD []).length c' ((unwrapS l).getD [])))) := by
  refine tri_of_tree (ρ := [.a a, .n n, .n c, .p S]) mixed Tryd.func45 tree_cUnwrap ?_
  unfold t_cUnwrap
  simp only [T.den, E.prop, E.den, RX.look, F1.app, F2.app, Uni.int_i, Uni.nat_n, Uni.bool_c, Uni.str_s, Uni.adr_a, Uni.val_v, Uni.hp_p, hden, cden, V.den, W.den, A.den, BR.den, SA.den, FV.den, capV, exs, exP, allP, Cur.app, List.map_cons, List.map_nil, List.cons_append, List.nil_append, List.drop_succ_cons, List.drop_zero, List.length_cons, List.length_nil, Nat.zero_add, Nat.reduceAdd, Int.neg_neg, Bool.not_not, List.append_nil, Nat.add_zero, List.getElem?_cons_zero, List.getElem?_cons_succ, Decidable.not_not, semW_eq, ne_eq, Nat.reduceEqDiff, not_false_eq_true]
  subst hl
  have bad : ∀ R h, unwrapS l = none → S.p R h → (HP.ex fun a' => HP.ex fun c' => HP.and (Value.tuple #[.slice none 0 0, .int .i64 3] = .tuple #[.slice a' ((unwrapS l).getD []).length c', .int .i64 (if (unwrapS l).isSome then 0 else 3)])
      (HP.sep S (OwB a' ((unwrapS l).getD []).length c' ((unwrapS l).getD [])))).p R h := fun R h e H => by
    rw [e]; exact ⟨none, 0, rfl, HP.sep_comm (HP.sep_mono (HP.tt_sep H) (fun y _ => OwC.nil _ _ R y) fun _ h => h)⟩
  refine ⟨inI64 _ (by omega) (by omega), fun _ => ⟨fun h4 => ?_, fun h4 => ?_⟩⟩
  · exact .of fun R h H => bad R h (by unfold unwrapS; rw [if_pos (by omega)]) H
  · obtain ⟨m, hm⟩ : ∃ m, l.length = m + 4 := ⟨l.length - 4, by omega⟩
    have em : ((l.length : Int) - 4) = (m : Nat) := by omega
    rw [em]
    have r1 : RdL S (if m = 0 then a else a.map fun x => x.add (0 * szT Tryd.prog 5)) m ((l.take m).map u8v) := by
      have := hr.subs 0 m (by omega) (m = 0) (fun h => h)
      rw [Nat.zero_mul, List.map_take]; simpa using this
    have r2 : RdL S (if c = m then a else a.map fun x => x.add (m * szT Tryd.prog 5)) 4 ((l.drop m).map u8v) := by
      have := hr.subs m 4 (by omega) (c = m) (fun h => by omega)
      rw [sz8, Nat.mul_one, List.map_drop]
      rwa [List.take_of_length_le (by simp; omega)] at this
    have hA1 : m ≠ 0 → (if m = 0 then a else a.map fun x => x.add (0 * szT Tryd.prog 5)).isSome = true := fun h => by
      rw [if_neg h, Option.isSome_map]; exact ha (by omega)
    have lt1 : (l.take m).length = m := by rw [List.length_take]; omega
    have lt2 : (l.drop m).length = 4 := by rw [List.length_drop]; omega
    refine ⟨(if m = 0 then a else a.map fun x => x.add (0 * szT Tryd.prog 5)), m, m, by rw [semW_slice]; exact slice_ok und8 info8i S a l.length c (some 0) (some m) (some m) (Nat.zero_le _) (Nat.le_refl _) (by show m ≤ c; omega) (fun _ => rfl), (if c = m then a else a.map fun x => x.add (m * szT Tryd.prog 5)), 4, c - m, ?_, ?_⟩
    · rw [semW_slice]
      have := slice_ok und8 info8i S a l.length c (some m) none none (by show m ≤ l.length; omega) (by show l.length ≤ c; omega) (Nat.le_refl _) (fun h => by cases h)
      have e4 : l.length - m = 4 := by omega
      simp only [Option.getD_some, Option.getD_none, e4] at this
      exact this
    refine (rRead_ok _ 4 (c - m) (l.drop m) S r2 lt2 (by omega)).weak (fun _ _ h => h) ?_
    rintro v R h ⟨b, rfl, H⟩
    refine ⟨b, _, S, rfl, ?_, HP.sep_comm H⟩
    refine (rNumber_ok b (l.drop m, false) 4 (by omega)).weak (fun _ _ h => h) ?_
    rintro v R h ⟨rfl, H⟩
    refine ⟨_, _, rfl, ?_, H⟩
    refine (sum_ok _ m m (l.take m) S r1 lt1 hA1 (by omega)).weak (fun _ _ h => h) ?_
    rintro v R h ⟨rfl, H⟩
    have hlt := sumS_lt (l.take m)
    have hn : (numR (l.drop m, false) 4).1 = beV (l.drop m) := by
      unfold numR takeR
      rw [if_neg (by simp), if_neg (by rw [lt2]; omega), List.take_of_length_le (by rw [lt2]; omega)]
    rw [hn]
    have hu : unwrapS l = if beV (l.drop m) = sumS (l.take m) then some (l.take m) else none := by
      unfold unwrapS
      rw [if_neg (by omega), show l.length - 4 = m by omega]
    refine ⟨_, S, rfl, ⟨inU64 _ (by omega) (by omega), fun _ => ⟨fun hne => ?_, fun he => ?_⟩⟩, H⟩
    · exact .of fun R h H => bad R h (by rw [hu, if_neg (by omega)]) H
    · rw [if_pos (by omega)] at hu
      refine (clone8_ok S _ m m (l.take m) r1 lt1 (by omega)).weak (fun _ _ h => h) ?_
      rintro v R h ⟨a', c', rfl, H⟩
      refine ⟨a', m, c', OwB a' m c' (l.take m), S, rfl, .of fun R h H => ?_, H⟩
      rw [hu]
      refine ⟨a', c', ?_, ?_⟩
      · simp only [Option.getD_some, Option.isSome_some, if_true, lt1]
      · simp only [Option.getD_some, lt1]; exact H
end Go.Proofs.YtbmajijnjkicmaaDoor



namespace Go.Proofs.YtbmajijnjkicmaaDoor
open Go.Proofs.YtbmajijnjkicmaaDoor RX

section
variable {κ : Type} [DecidableEq κ] {enc : κ → Value} {r c : Nat} {l : AL κ}

theorem alPut_none (k : κ) (v : Value) (c : Nat) : ∀ l : AL κ, alFind k l = none → alPut k v c l = l ++ [(k, v, c)]
  | [], _ => rfl
  | x :: l, h => by
    simp only [alFind] at h
    split at h
    · cases h
    · rename_i hk; simp [alPut, hk, alPut_none k v c l h]
theorem alPut_born (k : κ) (v : Value) (c : Nat) : ∀ l : AL κ, (alFind k l).isSome = true → (alPut k v c l).map (·.2.2) = l.map (·.2.2)
  | [], h => by cases h
  | x :: l, h => by
    simp only [alFind] at h
    simp only [alPut]
    split at h
    · rename_i hk; simp [hk]
    · rename_i hk; simp [hk, alPut_born k v c l h]
theorem MapI.nil (c : Nat) : MapI ([] : AL κ) c := ⟨List.nodup_nil, Stamps.nil c⟩
theorem MapI.put (h : MapI l c) (k : κ) (v : Value) : MapI (alPut k v c l) (alClock k l c) := by
  refine ⟨alPut_nodup k v c l h.1, ?_⟩
  unfold alClock
  cases hf : alFind k l with
  | none =>
    rw [alPut_none k v c l hf]
    exact h.2.snoc k v
  | some u =>
    have hb := alPut_born k v c l (by rw [hf]; rfl)
    refine ⟨fun x hx => ?_, by rw [hb]; exact h.2.nodup⟩
    have : x.2.2 ∈ (alPut k v c l).map (·.2.2) := List.mem_map.2 ⟨x, hx, rfl⟩
    rw [hb] at this
    obtain ⟨y, hy, e⟩ := List.mem_map.1 this
    rw [← e]
    exact h.2.low y hy
def Pers {α : Type} (V : Value → α → HP) : Prop := ∀ v x R h h', (V v x).p R h → (V v x).p R h'
def Vals {α : Type} (V : Value → α → HP) (l : AL κ) (f : κ → Option α) : HP :=
  ⟨fun R h => ∀ k, match alFind k l, f k with
    | none, none => True
    | some v, some x => (V v x).p R h
    | _, _ => False,
   fun lR lh H k => by
    have := H k
    revert this
    cases alFind k l <;> cases f k <;> simp only [imp_self]
    exact fun p => (V _ _).mono lR lh p⟩
variable {α : Type} {V : Value → α → HP} {f : κ → Option α}
def fput (f : κ → Option α) (k : κ) (x : Option α) : κ → Option α := fun k' => if k' = k then x else f k'
theorem Vals.put {R h : PH} (H : (Vals V l f).p R h) (k : κ) (v : Value) (c : Nat) (x : α) (hv : (V v x).p R h) : (Vals V (alPut k v c l) (fput f k (some x))).p R h := fun k' => by
  rw [alFind_put, fput]
  by_cases e : k' = k
  · rw [if_pos e, if_pos e]; exact hv
  · rw [if_neg e, if_neg e]; exact H k'
def MapH (V : Value → α → HP) (enc : κ → Value) (r : Nat) (f : κ → Option α) (l : AL κ) (c : Nat) : HP := HP.and (MapI l c) (HP.sep (HP.one r (mapObj enc l c)) (Vals V l f))
theorem MapH.at {R h : PH} (H : (MapH V enc r f l c).p R h) : h r = some (mapObj enc l c) := HP.sep_left H.2
theorem MapH.yes {R h : PH} (H : (MapH V enc r f l c).p R h) (hV : Pers V) {k : κ} {x : α} (e : f k = some x) (h' : PH) : ∃ v, alFind k l = some v ∧ (V v x).p R h' := by
  have := HP.sep_right H.2 k
  rw [e] at this
  revert this
  cases alFind k l with
  | none => exact fun h => h.elim
  | some v => exact fun h => ⟨v, rfl, hV _ _ _ _ _ h⟩
theorem MapH.no {R h : PH} (H : (MapH V enc r f l c).p R h) {k : κ} (e : f k = none) : alFind k l = none := by
  have := HP.sep_right H.2 k
  rw [e] at this
  revert this
  cases alFind k l with
  | none => exact fun _ => rfl
  | some v => exact fun h => h.elim
end
theorem next_map {κ α : Type} [DecidableEq κ] {enc : κ → Value} {m it c : Nat} {l : AL κ} {V : Value → α → HP} {f : κ → Option α} {S : Array Nat} {ty : TypeId} (hs : Stamps l c) :
    OTri Tryd.prog (nextS (.pointer (some ⟨it, 0, none⟩)) ty) (HP.sep (HP.one it (.mapIter (some m) c S c)) (MapH V enc m f l c))
    (fun v => HP.ex fun e => HP.and (nextE enc l S v e) (HP.sep (HP.one it (.mapIter (some m) c (nextI S e) c)) (MapH V enc m f l c))) := by
  refine OTri.fact (φ := MapI l c) (fun R h H => (HP.sep_right H).1) fun hI => ?_
  refine ((next_ok (m := m) (it := it) (S := S) (ty := ty) (enc := enc) hs).frame (Vals V l f)).weak (fun R h ⟨h1, h2, d, l1, l2, H1, ⟨_, H2⟩⟩ => HP.sep_assoc' ⟨h1, h2, d, l1, l2, H1, H2⟩) ?_
  rintro v R h ⟨h1, h2, d, l1, l2, ⟨e, he, H⟩, HV⟩
  exact ⟨e, he, HP.sep_mono (HP.sep_assoc ⟨h1, h2, d, l1, l2, H, HV⟩) (fun _ h => h) fun y hy => ⟨hI, hy⟩⟩
end Go.Proofs.YtbmajijnjkicmaaDoor



namespace Go.Proofs.YtbmajijnjkicmaaDoor
open Go.Proofs.YtbmajijnjkicmaaDoor RX
set_option maxRecDepth 100000

def iE (n : Int) : Value := .int .i64 n
theorem iK : KeyEnc Tryd.prog 3 iE := int_enc (by kernel_rfl)
structure CellS where
  what : Int
  data : List UInt8
def zC : CellS := ⟨0, []⟩
structure MR where
  fr : Int
  to : Int
  num : Int
  rep : Bool
  kind : Int
  ep : Int
  at' : Int
  what : Int
  ca : Option Addr
  cn : Nat
  cc : Nat
  br : Int
  bw : Int
  va : Option Addr
  vn : Nat
  vc : Nat
  err : Int
  tail : Int
  low : Int
  back : Int
abbrev MR.vals (m : MR) : Array Value := #[.int .i64 m.fr, .int .i64 m.to, .int .i64 m.num, .bool m.rep, .int .i64 m.kind, .int .i64 m.ep, .int .i64 m.at', .int .i64 m.what, .slice m.ca m.cn m.cc, .int .i64 m.br, .int .i64 m.bw, .slice m.va m.vn m.vc, .int .i64 m.err, .int .i64 m.tail, .int .i64 m.low, .int .i64 m.back]
structure MS where
  fr : Int
  to : Int
  num : Int
  rep : Bool
  kind : Int
  ep : Int
  at' : Int
  cell : CellS
  br : Int
  bw : Int
  val : List UInt8
  err : Int
  tail : Int
  low : Int
  back : Int
abbrev MS.raw (m : MS) (ca : Option Addr) (cc : Nat) (va : Option Addr) (vc : Nat) : MR := ⟨m.fr, m.to, m.num, m.rep, m.kind, m.ep, m.at', m.cell.what, ca, m.cell.data.length, cc, m.br, m.bw, va, m.val.length, vc, m.err, m.tail, m.low, m.back⟩
abbrev MS.Dro (m : MS) (ca : Option Addr) : HP := RoB ca m.cell.data.length m.cell.data
abbrev MS.Vro (m : MS) (va : Option Addr) : HP := RoB va m.val.length m.val
theorem part1 {w : World} {t : TypeId} (ht : Tryd.prog.underlying t = some (.int .i64)) (cs : Array Value) (off : Nat) (v : Value) (h : cs[off]? = some v) : (part t cs off).run Tryd.prog w = .ok v w := by
  have ha : aggT Tryd.prog t = false := by unfold aggT; rw [ht]
  simp only [part, Sem.run_bind, RX.run_isAgg ht, Result.andThen_ok, ha, Bool.false_eq_true, if_false, h]
  rfl
theorem run_equal_int {w : World} {t : TypeId} (ht : Tryd.prog.underlying t = some (.int .i64)) (n : Nat) (a b : Int) : (Op.equalIn (n + 1) t (.int .i64 a) (.int .i64 b)).run Tryd.prog w = .ok (decide (a = b)) w := by
  simp only [Op.equalIn, Sem.run_bind, RX.run_underlying ht, Result.andThen_ok, if_true, Sem.run_pure]
  rfl
theorem run_ballot_eq {w : World} (r q r' q' : Int) : (Op.equal 34 (.agg #[.int .i64 r, .int .i64 q]) (.agg #[.int .i64 r', .int .i64 q'])).run Tryd.prog w = .ok (decide (r = r') && decide (q = q')) w := by
  have hs : Tryd.prog.stoodInHeld 34 = false := by kernel_rfl
  have hi : Tryd.prog.underlying 3 = some (.int .i64) := by kernel_rfl
  have e2 : ∀ n, (Op.equalIn (n + 2) 34 (.agg #[.int .i64 r, .int .i64 q]) (.agg #[.int .i64 r', .int .i64 q'])).run Tryd.prog w = .ok (decide (r = r') && decide (q = q')) w := fun n => by
    rw [Op.equalIn]
    simp only [Sem.run_bind, RX.run_underlying Tryd.underlying34, Result.andThen_ok]
    simp [program, Sem.run, hs, Result.andThen]
    have p0 : ∀ a b : Int, Sem.run Tryd.prog (part 3 #[Value.int IntKind.i64 a, Value.int IntKind.i64 b] 0) w = .ok (.int .i64 a) w := fun a b => part1 hi _ _ _ rfl
    have p1 : ∀ a b : Int, Sem.run Tryd.prog (part 3 #[Value.int IntKind.i64 a, Value.int IntKind.i64 b] 1) w = .ok (.int .i64 b) w := fun a b => part1 hi _ _ _ rfl
    simp only [p0, run_equal_int hi]
    by_cases h1 : r = r'
    · simp [h1, Sem.run_bind, p1, run_equal_int hi]
      by_cases h2 : q = q'
      · simp [h2]
      · simp [h2]
    · simp [h1]
  exact e2 9998
theorem semOf_eqB {ρ : Env} {i j : Nat} {ty u : TypeId} {x y : V} (h : i ≠ j) {r q r' q' : Int} (hx : x.den ρ = .agg #[.int .i64 r, .int .i64 q]) (hy : y.den ρ = .agg #[.int .i64 r', .int .i64 q']) {A : HP} :
    ORead Tryd.prog (semOf ρ (.binOp .eql 34 (.tmp i) (.tmp j) u) ty [(i, x), (j, y)]) A (.bool (decide (r = r') && decide (q = q'))) := fun w R hh F s _ => by
  have h' : (i == j) = false := by simpa using h
  have hg : Tryd.prog.eqGuardType Tryd.prog.depth 34 = false := by kernel_rfl
  simp only [semOf, execOp, arEval, List.find?_cons, beq_self_eq_true, h', hx, hy]
  simp [eqGuard, binOp, hg, program, Sem.run_bind, Sem.run, Result.andThen, run_ballot_eq]
theorem eqBW {i j : Nat} {ty u : TypeId} (h : i ≠ j) {r q r' q' : Int} {A : HP} :
    ORead Tryd.prog (semW (.binOp .eql 34 (.tmp i) (.tmp j) u) ty [(i, .agg #[.int .i64 r, .int .i64 q]), (j, .agg #[.int .i64 r', .int .i64 q'])]) A (.bool (decide (r = r') && decide (q = q'))) := by
  have := semOf_eqB (ρ := [.i r, .i q, .i r', .i q']) (i := i) (j := j) (ty := ty) (u := u) (x := .w (.agg [.int .i64 (.v 0), .int .i64 (.v 1)])) (y := .w (.agg [.int .i64 (.v 2), .int .i64 (.v 3)])) h (A := A) rfl rfl
  rw [semW_eq] at this
  exact this
theorem RoB0 (a : Option Addr) {R h : PH} : (RoB a 0 []).p R h := RoC.nil 1 a R h
theorem semOf_neqB {ρ : Env} {i j : Nat} {ty u : TypeId} {x y : V} (h : i ≠ j) {r q r' q' : Int} (hx : x.den ρ = .agg #[.int .i64 r, .int .i64 q]) (hy : y.den ρ = .agg #[.int .i64 r', .int .i64 q']) {A : HP} :
    ORead Tryd.prog (semOf ρ (.binOp .neq 34 (.tmp i) (.tmp j) u) ty [(i, x), (j, y)]) A (.bool (!(decide (r = r') && decide (q = q')))) := fun w R hh F s _ => by
  have h' : (i == j) = false := by simpa using h
  have hg : Tryd.prog.eqGuardType Tryd.prog.depth 34 = false := by kernel_rfl
  simp only [semOf, execOp, arEval, List.find?_cons, beq_self_eq_true, h', hx, hy]
  simp [eqGuard, binOp, hg, program, Sem.run_bind, Sem.run, Result.andThen, run_ballot_eq]
theorem neqBW {i j : Nat} {ty u : TypeId} (h : i ≠ j) {r q r' q' : Int} {A : HP} :
    ORead Tryd.prog (semW (.binOp .neq 34 (.tmp i) (.tmp j) u) ty [(i, .agg #[.int .i64 r, .int .i64 q]), (j, .agg #[.int .i64 r', .int .i64 q'])]) A (.bool (!(decide (r = r') && decide (q = q')))) := by
  have := semOf_neqB (ρ := [.i r, .i q, .i r', .i q']) (i := i) (j := j) (ty := ty) (u := u) (x := .w (.agg [.int .i64 (.v 0), .int .i64 (.v 1)])) (y := .w (.agg [.int .i64 (.v 2), .int .i64 (.v 3)])) h (A := A) rfl rfl
  rw [semW_eq] at this
  exact this
end Go.Proofs.YtbmajijnjkicmaaDoor



namespace Go.Proofs.YtbmajijnjkicmaaDoor.RX
set_option maxRecDepth 100000
-- slices.Clone[[]int,int]: ρ := [.a sa, .n sl, .n sc, .p sP]
def t_iClone : T :=
(.br (.o1 .not (.o1 .isSome (.v 0)))
(.ret (.w (.a (.sl .nil (.n 0) (.n 0)))) [(.a 0, .prop 3)])
(.new
(.op (.call ⟨.builtin .append, #[.tmp 5, .tmp 6], #[27, 27]⟩) 27 [(5, .w (.a (.sl (.b (.v 4) 0) (.n 0) (.n 0)))), (6, .w (.a (.sl (.v 0) (.v 1) (.v 2))))] [(.b (.v 4), .cells [] 3), (.a 0, .prop 3)] [.a, .n, .n, .p] (.w (.a (.sl (.v 5) (.v 6) (.v 7)))) [(.a 5, .prop 8), (.a 0, .prop 3)]
(.ret (.w (.a (.sl (.v 5) (.v 6) (.v 7)))) [(.a 0, .prop 3), (.a 5, .prop 8)]))))
theorem tree_iClone : tree Tryd.prog { keep := [56, 75, 22, 13, 42, 99999, 10], rdf := true } Tryd.f22 [.a (.sl (.v 0) (.v 1) (.v 2))] [(.a 0, .prop 3)] 4 = t_iClone := by kernel_rfl
def t_cClone : T :=
(.br (.o1 .not (.o1 .isSome (.v 0)))
(.ret (.w (.a (.sl .nil (.n 0) (.n 0)))) [(.a 0, .prop 3)])
(.new
(.op (.call ⟨.builtin .append, #[.tmp 5, .tmp 6], #[22, 22]⟩) 22 [(5, .w (.a (.sl (.b (.v 4) 0) (.n 0) (.n 0)))), (6, .w (.a (.sl (.v 0) (.v 1) (.v 2))))] [(.b (.v 4), .cells [] 27), (.a 0, .prop 3)] [.a, .n, .n, .p] (.w (.a (.sl (.v 5) (.v 6) (.v 7)))) [(.a 5, .prop 8), (.a 0, .prop 3)]
(.ret (.w (.a (.sl (.v 5) (.v 6) (.v 7)))) [(.a 0, .prop 3), (.a 5, .prop 8)]))))
theorem tree_cClone : tree Tryd.prog { keep := [56, 75, 22, 13, 42, 99999, 10], rdf := true } Tryd.f21 [.a (.sl (.v 0) (.v 1) (.v 2))] [(.a 0, .prop 3)] 4 = t_cClone := by kernel_rfl
def t_iIndex : T :=
(.loop [.i, .i] [.e (.o1 .neg (.o1 .neg (.i 0))), .e (.o1 .neg (.o1 .neg (.i 0)))]
(.br (.o2 .lt (.v 6) (.o1 .ofNat (.v 1)))
(.need (.o2 .le (.i 0) (.v 6))
(.need (.o1 .isSome (.v 0))
(.read (.load 3 (.tmp 14)) 3 [(14, .w (.a (.eptr 0 (.v 6) 1 0)))] [(.a 0, .prop 3)] [.i] (.w (.a (.int .i64 (.v 7))))
(.br (.o2 .eq (.v 4) (.v 7))
(.ret (.w (.a (.int .i64 (.v 6)))) [(.a 0, .prop 3)])
(.need (.o1 (.inr .i64) (.o2 .add (.v 6) (.i 1)))
(.again 0 [.e (.o1 .neg (.o1 .neg (.v 5))), .e (.o1 .neg (.o1 .neg (.o2 .add (.v 6) (.i 1))))]))))))
(.ret (.w (.a (.int .i64 (.i (-1))))) [(.a 0, .prop 3)])))
theorem tree_iIndex : tree Tryd.prog { keep := [56, 75, 22, 13, 42, 99999, 10], rdf := true } Tryd.f75 [.a (.sl (.v 0) (.v 1) (.v 2)), .a (.int .i64 (.v 4))] [(.a 0, .prop 3)] 5 = t_iIndex := by kernel_rfl
def t_iContains : T :=
(.call 75 [.a (.sl (.v 0) (.v 1) (.v 2)), .a (.int .i64 (.v 4))] [(.a 0, .prop 3)] [.i] (.w (.a (.int .i64 (.v 5)))) [(.a 0, .prop 3)]
(.ret (.w (.a (.bool (.o2 .le (.i 0) (.v 5))))) [(.a 0, .prop 3)]))
theorem tree_iContains : tree Tryd.prog { keep := [56, 75, 22, 13, 42, 99999, 10], rdf := true } Tryd.f56 [.a (.sl (.v 0) (.v 1) (.v 2)), .a (.int .i64 (.v 4))] [(.a 0, .prop 3)] 5 = t_iContains := by kernel_rfl
def t_iIndexF : T :=
(.loop [.i, .i, .p] [.e (.o1 .neg (.o1 .neg (.i 0))), .e (.o1 .neg (.o1 .neg (.i 0))), .p [(.a 4, .prop 5)]]
(.br (.o2 .lt (.v 7) (.o1 .ofNat (.v 1)))
(.need (.o2 .le (.i 0) (.v 7))
(.need (.o1 .isSome (.v 0))
(.read (.load 3 (.tmp 14)) 3 [(14, .w (.a (.eptr 0 (.v 7) 1 0)))] [(.a 0, .prop 3)] [.i] (.w (.a (.int .i64 (.v 9))))
  (.callv 4 [.a (.int .i64 (.v 9))] [(.a 4, .prop 8)] [.c, .p] (.w (.a (.bool (.v 10)))) [(.a 4, .prop 11)]
(.br (.v 10)
(.ret (.w (.a (.int .i64 (.v 7)))) [(.a 0, .prop 3), (.a 4, .prop 11)])
(.need (.o1 (.inr .i64) (.o2 .add (.v 7) (.i 1)))
(.again 0 [.e (.o1 .neg (.o1 .neg (.v 6))), .e (.o1 .neg (.o1 .neg (.o2 .add (.v 7) (.i 1)))), .p [(.a 4, .prop 11)]])))))))
(.ret (.w (.a (.int .i64 (.i (-1))))) [(.a 0, .prop 3), (.a 4, .prop 8)])))
theorem tree_iIndexF : tree Tryd.prog { hv := [(0, [.a 4])], keep := [56, 75, 22, 13, 42, 99999, 10], rdf := true } Tryd.f76 [.a (.sl (.v 0) (.v 1) (.v 2)), .a (.val 4)] [(.a 0, .prop 3), (.a 4, .prop 5)] 6 = t_iIndexF := by kernel_rfl
def t_cIndexF : T :=
(.loop [.i, .i, .p] [.e (.o1 .neg (.o1 .neg (.i 0))), .e (.o1 .neg (.o1 .neg (.i 0))), .p [(.a 4, .prop 5)]]
(.br (.o2 .lt (.v 7) (.o1 .ofNat (.v 1)))
(.need (.o2 .le (.i 0) (.v 7))
(.need (.o1 .isSome (.v 0))
(.read (.load 27 (.tmp 14)) 27 [(14, .w (.a (.eptr 0 (.v 7) 1 0)))] [(.a 0, .prop 3)] [.a, .n, .n] (.w (.a (.sl (.v 9) (.v 10) (.v 11))))
  (.callv 4 [.a (.sl (.v 9) (.v 10) (.v 11))] [(.a 4, .prop 8), (.a 0, .prop 3)] [.c, .p] (.w (.a (.bool (.v 12)))) [(.a 4, .prop 13), (.a 0, .prop 3)]
(.br (.v 12)
(.ret (.w (.a (.int .i64 (.v 7)))) [(.a 0, .prop 3), (.a 4, .prop 13)])
(.need (.o1 (.inr .i64) (.o2 .add (.v 7) (.i 1)))
(.again 0 [.e (.o1 .neg (.o1 .neg (.v 6))), .e (.o1 .neg (.o1 .neg (.o2 .add (.v 7) (.i 1)))), .p [(.a 4, .prop 13)]])))))))
(.ret (.w (.a (.int .i64 (.i (-1))))) [(.a 0, .prop 3), (.a 4, .prop 8)])))
theorem tree_cIndexF : tree Tryd.prog { hv := [(0, [.a 4])], keep := [56, 75, 22, 13, 42, 99999, 10], rdf := true } Tryd.f74 [.a (.sl (.v 0) (.v 1) (.v 2)), .a (.val 4)] [(.a 0, .prop 3), (.a 4, .prop 5)] 6 = t_cIndexF := by kernel_rfl
def t_cContainsF : T :=
(.call 74 [.a (.sl (.v 0) (.v 1) (.v 2)), .a (.val 4)] [(.a 0, .prop 3), (.a 4, .prop 5)] [.i, .p, .p] (.w (.a (.int .i64 (.v 6)))) [(.a 0, .prop 7), (.a 4, .prop 8)]
(.ret (.w (.a (.bool (.o2 .le (.i 0) (.v 6))))) [(.a 0, .prop 7), (.a 4, .prop 8)]))
theorem tree_cContainsF : tree Tryd.prog { keep := [56, 75, 22, 13, 42, 99999, 10], rdf := true } Tryd.f54 [.a (.sl (.v 0) (.v 1) (.v 2)), .a (.val 4)] [(.a 0, .prop 3), (.a 4, .prop 5)] 6 = t_cContainsF := by kernel_rfl
def t_mIndexF : T :=
(.loop [.i, .i, .p] [.e (.o1 .neg (.o1 .neg (.i 0))), .e (.o1 .neg (.o1 .neg (.i 0))), .p [(.a 4, .prop 5)]]
(.br (.o2 .lt (.v 7) (.o1 .ofNat (.v 1)))
(.need (.o2 .le (.i 0) (.v 7))
(.need (.o1 .isSome (.v 0))
(.read (.load 37 (.tmp 14)) 37 [(14, .w (.a (.eptr 0 (.v 7) 16 0)))] [(.a 0, .prop 3)] [.i, .i, .i, .c, .i, .i, .i, .i, .a, .n, .n, .i, .i, .a, .n, .n, .i, .i, .i, .i] (.w (.agg [.int .i64 (.v 9), .int .i64 (.v 10), .int .i64 (.v 11), .bool (.v 12), .int .i64 (.v 13), .int .i64 (.v 14), .int .i64 (.v 15), .int .i64 (.v 16), .sl (.v 17) (.v 18) (.v 19), .int .i64 (.v 20), .int .i64 (.v 21), .sl (.v 22) (.v 23) (.v 24), .int .i64 (.v 25), .int .i64 (.v 26), .int .i64 (.v 27), .int .i64 (.v 28)]))
  (.callv 4 [.agg [.int .i64 (.v 9), .int .i64 (.v 10), .int .i64 (.v 11), .bool (.v 12), .int .i64 (.v 13), .int .i64 (.v 14), .int .i64 (.v 15), .int .i64 (.v 16), .sl (.v 17) (.v 18) (.v 19), .int .i64 (.v 20), .int .i64 (.v 21), .sl (.v 22) (.v 23) (.v 24), .int .i64 (.v 25), .int .i64 (.v 26), .int .i64 (.v 27), .int .i64 (.v 28)]] [(.a 4, .prop 8), (.a 0, .prop 3)] [.c, .p] (.w (.a (.bool (.v 29)))) [(.a 4, .prop 30), (.a 0, .prop 3)]
(.br (.v 29)
(.ret (.w (.a (.int .i64 (.v 7)))) [(.a 0, .prop 3), (.a 4, .prop 30)])
(.need (.o1 (.inr .i64) (.o2 .add (.v 7) (.i 1)))
(.again 0 [.e (.o1 .neg (.o1 .neg (.v 6))), .e (.o1 .neg (.o1 .neg (.o2 .add (.v 7) (.i 1)))), .p [(.a 4, .prop 30)]])))))))
(.ret (.w (.a (.int .i64 (.i (-1))))) [(.a 0, .prop 3), (.a 4, .prop 8)])))
theorem tree_mIndexF : tree Tryd.prog { hv := [(0, [.a 4])], keep := [56, 75, 22, 13, 42, 99999, 10], rdf := true } Tryd.f27 [.a (.sl (.v 0) (.v 1) (.v 2)), .a (.val 4)] [(.a 0, .prop 3), (.a 4, .prop 5)] 6 = t_mIndexF := by kernel_rfl
def t_mContainsF : T :=
(.call 27 [.a (.sl (.v 0) (.v 1) (.v 2)), .a (.val 4)] [(.a 0, .prop 3), (.a 4, .prop 5)] [.i, .p, .p] (.w (.a (.int .i64 (.v 6)))) [(.a 0, .prop 7), (.a 4, .prop 8)]
(.ret (.w (.a (.bool (.o2 .le (.i 0) (.v 6))))) [(.a 0, .prop 7), (.a 4, .prop 8)]))
theorem tree_mContainsF : tree Tryd.prog { keep := [56, 75, 22, 13, 42, 99999, 10], rdf := true } Tryd.f16 [.a (.sl (.v 0) (.v 1) (.v 2)), .a (.val 4)] [(.a 0, .prop 3), (.a 4, .prop 5)] 6 = t_mContainsF := by kernel_rfl
def t_iDelete : T :=
(.call 76 [.a (.sl (.v 0) (.v 1) (.v 2)), .a (.val 4)] [(.a 0, .prop 3), (.a 4, .prop 5)] [.i, .p, .p] (.w (.a (.int .i64 (.v 6)))) [(.a 0, .prop 7), (.a 4, .prop 8)]
(.br (.o2 .eq (.v 6) (.i (-1)))
(.ret (.w (.a (.sl (.v 0) (.v 1) (.v 2)))) [(.a 0, .prop 7), (.a 4, .prop 8)])
(.need (.o1 (.inr .i64) (.o2 .add (.v 6) (.i 1)))
(.loop [.i, .i, .p, .p] [.e (.o1 .neg (.o1 .neg (.v 6))), .e (.o1 .neg (.o1 .neg (.o2 .add (.v 6) (.i 1)))), .p [(.a 0, .prop 7)], .p [(.a 4, .prop 8)]]
(.br (.o2 .lt (.v 10) (.o1 .ofNat (.v 1)))
(.need (.o2 .le (.i 0) (.v 10))
(.need (.o1 .isSome (.v 0))
(.read (.load 3 (.tmp 24)) 3 [(24, .w (.a (.eptr 0 (.v 10) 1 0)))] [(.a 0, .prop 11)] [.i] (.w (.a (.int .i64 (.v 13))))
   (.callv 4 [.a (.int .i64 (.v 13))] [(.a 4, .prop 12)] [.c, .p] (.w (.a (.bool (.v 14)))) [(.a 4, .prop 15)]
(.br (.o1 .not (.v 14))
(.need (.o2 .le (.i 0) (.v 9))
(.need (.o2 .lt (.v 9) (.o1 .ofNat (.v 1)))
(.op (.store 3 (.tmp 33) (.tmp 32)) 0 [(33, .w (.a (.eptr 0 (.v 9) 1 0))), (32, .w (.a (.int .i64 (.v 13))))] [(.a 0, .prop 11)] [.p] (.tup []) [(.a 0, .prop 16)]
(.need (.o1 (.inr .i64) (.o2 .add (.v 9) (.i 1)))
(.need (.o1 (.inr .i64) (.o2 .add (.v 10) (.i 1)))
(.again 0 [.e (.o1 .neg (.o1 .neg (.o2 .add (.v 9) (.i 1)))), .e (.o1 .neg (.o1 .neg (.o2 .add (.v 10) (.i 1)))), .p [(.a 0, .prop 16)], .p [(.a 4, .prop 15)]]))))))
(.need (.o1 (.inr .i64) (.o2 .add (.v 10) (.i 1)))
(.again 0 [.e (.o1 .neg (.o1 .neg (.v 9))), .e (.o1 .neg (.o1 .neg (.o2 .add (.v 10) (.i 1)))), .p [(.a 0, .prop 11)], .p [(.a 4, .prop 15)]])))))))
(.read (.slice 27 (.tmp 36) (some (.tmp 37)) none none) 27 [(36, .w (.a (.sl (.v 0) (.v 1) (.v 2)))), (37, .w (.a (.int .i64 (.v 9))))] [(.a 0, .prop 11)] [.a, .n, .n] (.w (.a (.sl (.v 13) (.v 14) (.v 15))))
(.op (.call ⟨.builtin .clear, #[.tmp 38], #[27]⟩) 0 [(38, .w (.a (.sl (.v 13) (.v 14) (.v 15))))] [(.a 0, .prop 11)] [.p] (.tup []) [(.a 0, .prop 16)]
(.read (.slice 27 (.tmp 39) none (some (.tmp 40)) none) 27 [(39, .w (.a (.sl (.v 0) (.v 1) (.v 2)))), (40, .w (.a (.int .i64 (.v 9))))] [(.a 0, .prop 16)] [.a, .n, .n] (.w (.a (.sl (.v 17) (.v 18) (.v 19))))
(.ret (.w (.a (.sl (.v 17) (.v 18) (.v 19)))) [(.a 0, .prop 16), (.a 4, .prop 12)])))))))))
theorem tree_iDelete : tree Tryd.prog { hv := [(0, [.a 0, .a 4])], keep := [56, 75, 22, 13, 42, 99999, 10], rdf := true } Tryd.f58 [.a (.sl (.v 0) (.v 1) (.v 2)), .a (.val 4)] [(.a 0, .prop 3), (.a 4, .prop 5)] 6 = t_iDelete := by kernel_rfl
def t_plRight : T :=
(.new
(.br (.o2 .lt (.v 0) (.i 0))
(.ret (.w (.a (.bool (.c false)))) [(.a 1, .prop 4)])
(.br (.o2 .lt (.i 2147483647) (.v 0))
(.ret (.w (.a (.bool (.c false)))) [(.a 1, .prop 4)])
(.br (.o2 .lt (.o1 .ofNat (.v 2)) (.i 1))
(.ret (.w (.a (.bool (.c false)))) [(.a 1, .prop 4)])
(.br (.o2 .lt (.i 7) (.o1 .ofNat (.v 2)))
(.ret (.w (.a (.bool (.c false)))) [(.a 1, .prop 4)])
(.new
(.loop [.c, .i, .p] [.e (.o1 .not (.o1 .not (.c false))), .e (.o1 .neg (.o1 .neg (.i 0))), .p [(.b (.v 6), .cells [.bool (.c false), .bool (.c false), .bool (.c false), .bool (.c false), .bool (.c false), .bool (.c false), .bool (.c false)] 50)]]
(.br (.o2 .lt (.v 8) (.o1 .ofNat (.v 2)))
(.need (.o2 .le (.i 0) (.v 8))
(.need (.o1 .isSome (.v 1))
(.read (.load 27 (.tmp 31)) 27 [(31, .w (.a (.eptr 1 (.v 8) 1 0)))] [(.a 1, .prop 4)] [.a, .n, .n] (.w (.a (.sl (.v 10) (.v 11) (.v 12))))
(.br (.o2 .eq (.o1 .ofNat (.v 11)) (.i 0))
(.ret (.w (.a (.bool (.c false)))) [(.a 1, .prop 4)])
(.loop [.c, .i, .p] [.e (.o1 .not (.o1 .not (.v 7))), .e (.o1 .neg (.o1 .neg (.i 0))), .p [(.b (.v 6), .prop 9)]]
(.br (.o2 .lt (.v 14) (.o1 .ofNat (.v 11)))
(.need (.o2 .le (.i 0) (.v 14))
(.need (.o1 .isSome (.v 10))
(.read (.load 3 (.tmp 40)) 3 [(40, .w (.a (.eptr 10 (.v 14) 1 0)))] [(.a 1, .prop 4)] [.i] (.w (.a (.int .i64 (.v 16))))
(.br (.o2 .lt (.v 16) (.i 0))
(.ret (.w (.a (.bool (.c false)))) [(.a 1, .prop 4)])
(.br (.o2 .le (.i 7) (.v 16))
(.ret (.w (.a (.bool (.c false)))) [(.a 1, .prop 4)])
(.read (.indexAddr 50 (.tmp 3) (.tmp 49)) 0 [(3, .w (.a (.ptr (.v 6) 0))), (49, .w (.a (.int .i64 (.v 16))))] [(.b (.v 6), .prop 15)] [.v] (.w (.a (.val 17)))
(.read (.load 4 (.tmp 50)) 4 [(50, .w (.a (.val 17)))] [(.b (.v 6), .prop 15)] [.c] (.w (.a (.bool (.v 18))))
(.br (.v 18)
(.ret (.w (.a (.bool (.c false)))) [(.a 1, .prop 4)])
(.read (.indexAddr 50 (.tmp 3) (.tmp 53)) 0 [(3, .w (.a (.ptr (.v 6) 0))), (53, .w (.a (.int .i64 (.v 16))))] [(.b (.v 6), .prop 15)] [.v] (.w (.a (.val 19)))
(.op (.store 4 (.tmp 54) (.const (.bool true))) 0 [(54, .w (.a (.val 19)))] [(.b (.v 6), .prop 15)] [.p] (.tup []) [(.b (.v 6), .prop 20)]
(.need (.o1 (.inr .i64) (.o2 .add (.v 14) (.i 1)))
(.again 0 [.e (.o1 .not (.o1 .not (.v 13))), .e (.o1 .neg (.o1 .neg (.o2 .add (.v 14) (.i 1)))), .p [(.b (.v 6), .prop 20)]]))))))))))))
(.need (.o1 (.inr .i64) (.o2 .add (.v 8) (.i 1)))
(.again 1 [.e (.o1 .not (.o1 .not (.v 13))), .e (.o1 .neg (.o1 .neg (.o2 .add (.v 8) (.i 1)))), .p [(.b (.v 6), .prop 15)]]))))))))
(.ret (.w (.a (.bool (.c true)))) [(.a 1, .prop 4)])))))))))
theorem tree_plRight : tree Tryd.prog { absT := [50], hv := [(0, [.b (.v 6)]), (2, [.b (.v 6)])], keep := [56, 75, 22, 13, 42, 99999, 10], opn := true, rdf := true } Tryd.f13 [.agg [.int .i64 (.v 0), .sl (.v 1) (.v 2) (.v 3)]] [(.a 1, .prop 4)] 5 = t_plRight := by kernel_rfl
def t_plFirst : T :=
(.new
(.br (.o2 .lt (.v 0) (.i 1))
(.ret (.tup [.agg [.int .i64 (.i 0), .sl .nil (.n 0) (.n 0)], .a (.int .i64 (.i 1))]) [])
(.br (.o2 .lt (.i 7) (.v 0))
(.ret (.tup [.agg [.int .i64 (.i 0), .sl .nil (.n 0) (.n 0)], .a (.int .i64 (.i 1))]) [])
(.br (.o2 .lt (.v 1) (.i 1))
(.ret (.tup [.agg [.int .i64 (.i 0), .sl .nil (.n 0) (.n 0)], .a (.int .i64 (.i 1))]) [])
(.br (.o2 .lt (.v 0) (.v 1))
(.ret (.tup [.agg [.int .i64 (.i 0), .sl .nil (.n 0) (.n 0)], .a (.int .i64 (.i 1))]) [])
(.op (.makeSlice 22 (.tmp 24) (.tmp 24)) 22 [(24, .w (.a (.int .i64 (.v 1)))), (24, .w (.a (.int .i64 (.v 1))))] [] [.a, .n, .n, .p] (.w (.a (.sl (.v 3) (.v 4) (.v 5)))) [(.a 3, .prop 6)]
(.new
(.loop [.i, .p] [.e (.o1 .neg (.o1 .neg (.i 0))), .p [(.a 3, .prop 6)]]
(.br (.o2 .lt (.v 8) (.v 0))
(.need (.o1 .not (.o2 .eq (.v 1) (.i 0)))
(.need (.o2 .le (.i 0) (.o2 .rem (.v 8) (.v 1)))
(.need (.o2 .lt (.o2 .rem (.v 8) (.v 1)) (.o1 .ofNat (.v 4)))
(.need (.o1 .isSome (.v 3))
(.read (.load 27 (.tmp 41)) 27 [(41, .w (.a (.eptr 3 (.o2 .rem (.v 8) (.v 1)) 1 0)))] [(.a 3, .prop 9)] [.a, .n, .n] (.w (.a (.sl (.v 10) (.v 11) (.v 12))))
(.new
(.op (.call ⟨.builtin .append, #[.tmp 42, .tmp 44], #[27, 27]⟩) 27 [(42, .w (.a (.sl (.v 10) (.v 11) (.v 12)))), (44, .w (.a (.sl (.b (.v 13) 0) (.n 1) (.n 1))))] [(.a 3, .prop 9), (.b (.v 13), .cells [.int .i64 (.v 8)] 3)] [.a, .n, .n, .p, .p] (.w (.a (.sl (.v 14) (.v 15) (.v 16)))) [(.a 14, .prop 17), (.a 3, .prop 18), (.b (.v 13), .cells [.int .i64 (.v 8)] 3)]
(.op (.store 27 (.tmp 46) (.tmp 45)) 0 [(46, .w (.a (.eptr 3 (.o2 .rem (.v 8) (.v 1)) 1 0))), (45, .w (.a (.sl (.v 14) (.v 15) (.v 16))))] [(.a 3, .prop 18), (.a 14, .prop 17)] [.p] (.tup []) [(.a 3, .prop 19)]
(.need (.o1 (.inr .i64) (.o2 .add (.v 8) (.i 1)))
(.again 0 [.e (.o1 .neg (.o1 .neg (.o2 .add (.v 8) (.i 1)))), .p [(.a 3, .prop 19)]]))))))))))
(.ret (.tup [.agg [.int .i64 (.i 0), .sl (.v 3) (.v 4) (.v 5)], .a (.int .i64 (.i 0))]) [(.a 3, .prop 9)]))))))))))
theorem tree_plFirst : tree Tryd.prog { absT := [50], hv := [(0, [.a 3])], keep := [56, 75, 22, 13, 42, 99999, 10], opn := true, rdf := true } Tryd.f9 [.a (.int .i64 (.v 0)), .a (.int .i64 (.v 1))] [] 2 = t_plFirst := by kernel_rfl
def t_plGoes : T :=
(.call 56 [.a (.sl (.v 2) (.v 3) (.v 4)), .a (.int .i64 (.v 0))] [(.a 2, .prop 5)] [.c] (.w (.a (.bool (.v 6)))) [(.a 2, .prop 5)]
(.ret (.w (.a (.bool (.o1 .not (.v 6))))) [(.b (.v 1), .cells [.sl (.v 2) (.v 3) (.v 4)] 27), (.a 2, .prop 5)]))
theorem tree_plGoes : tree Tryd.prog { keep := [56, 75, 22, 13, 42, 99999, 10], rdf := true } Tryd.f57 [.a (.int .i64 (.v 0)), .a (.ptr (.v 1) 0)] [(.b (.v 1), .cells [.sl (.v 2) (.v 3) (.v 4)] 27), (.a 2, .prop 5)] 6 = t_plGoes := by kernel_rfl
def t_plNext : T :=
(.new
(.new
(.new
(.call 13 [.agg [.int .i64 (.v 0), .sl (.v 1) (.v 2) (.v 3)]] [(.a 1, .prop 4)] [.c] (.w (.a (.bool (.v 12)))) [(.a 1, .prop 4)]
(.br (.o1 .not (.v 12))
(.ret (.tup [.agg [.int .i64 (.i 0), .sl .nil (.n 0) (.n 0)], .a (.int .i64 (.i 1))]) [(.a 1, .prop 4), (.a 5, .prop 8)])
(.br (.o2 .eq (.v 0) (.i 2147483647))
(.ret (.tup [.agg [.int .i64 (.i 0), .sl .nil (.n 0) (.n 0)], .a (.int .i64 (.i 1))]) [(.a 1, .prop 4), (.a 5, .prop 8)])
(.need (.o1 (.inr .i64) (.o2 .add (.v 0) (.i 1)))
(.new
(.loop [.i, .i, .i, .a, .n, .n, .p] [.e (.o1 .neg (.o1 .neg (.i 0))), .e (.o1 .neg (.o1 .neg (.i 0))), .e (.o1 .neg (.o1 .neg (.o2 .add (.v 0) (.i 1)))), .a .nil, .e (.o2 .nadd (.n 0) (.n 0)), .e (.o2 .nadd (.n 0) (.n 0)), .p []]
(.br (.o2 .lt (.v 15) (.o1 .ofNat (.v 2)))
(.need (.o2 .le (.i 0) (.v 15))
(.need (.o1 .isSome (.v 1))
(.read (.load 27 (.tmp 30)) 27 [(30, .w (.a (.eptr 1 (.v 15) 1 0)))] [(.a 1, .prop 4)] [.a, .n, .n] (.w (.a (.sl (.v 21) (.v 22) (.v 23))))
(.call 22 [.a (.sl (.v 21) (.v 22) (.v 23))] [(.a 1, .prop 4)] [.a, .n, .n, .p] (.w (.a (.sl (.v 24) (.v 25) (.v 26)))) [(.a 24, .prop 27), (.a 1, .prop 4)]
(.call 58 [.a (.sl (.v 24) (.v 25) (.v 26)), .a (.func 57 [(.v 10, 0)])] [(.a 24, .prop 27), (.b (.v 10), .cells [.sl (.v 5) (.v 6) (.v 7)] 27), (.a 5, .prop 8)] [.a, .n, .n, .p, .p] (.w (.a (.sl (.v 28) (.v 29) (.v 30)))) [(.a 28, .prop 31), (.a 24, .prop 32), (.b (.v 10), .cells [.sl (.v 5) (.v 6) (.v 7)] 27), (.a 5, .prop 8)]
(.br (.o2 .eq (.o1 .ofNat (.v 29)) (.i 0))
(.ret (.tup [.agg [.int .i64 (.i 0), .sl .nil (.n 0) (.n 0)], .a (.int .i64 (.i 5))]) [(.a 1, .prop 4), (.a 5, .prop 8)])
(.new
(.op (.call ⟨.builtin .append, #[.tmp 41, .tmp 43], #[22, 22]⟩) 22 [(41, .w (.a (.sl (.v 17) (.v 18) (.v 19)))), (43, .w (.a (.sl (.b (.v 33) 0) (.n 1) (.n 1))))] [(.a 17, .prop 20), (.b (.v 33), .cells [.sl (.v 28) (.v 29) (.v 30)] 27), (.a 28, .prop 31)] [.a, .n, .n, .p] (.w (.a (.sl (.v 34) (.v 35) (.v 36)))) [(.a 34, .prop 37), (.b (.v 33), .cells [.sl (.v 28) (.v 29) (.v 30)] 27), (.a 28, .prop 31)]
(.need (.o1 (.inr .i64) (.o2 .add (.v 15) (.i 1)))
(.again 0 [.e (.o1 .neg (.o1 .neg (.v 14))), .e (.o1 .neg (.o1 .neg (.o2 .add (.v 15) (.i 1)))), .e (.o1 .neg (.o1 .neg (.v 16))), .a (.v 34), .e (.o2 .nadd (.v 35) (.n 0)), .e (.o2 .nadd (.v 36) (.n 0)), .p [(.a 34, .prop 37)]]))))))))))
(.ret (.tup [.agg [.int .i64 (.v 16), .sl (.v 17) (.v 18) (.v 19)], .a (.int .i64 (.i 0))]) [(.a 1, .prop 4), (.a 5, .prop 8), (.a 17, .prop 20)])))))))))))
theorem tree_plNext : tree Tryd.prog { hv := [(0, [.b (.v 13)])], keep := [56, 75, 22, 13, 42, 99999, 10], turn := [(58, [0])], rdf := true } Tryd.f41 [.agg [.int .i64 (.v 0), .sl (.v 1) (.v 2) (.v 3)], .a (.sl (.v 5) (.v 6) (.v 7))] [(.a 1, .prop 4), (.a 5, .prop 8)] 9 = t_plNext := by kernel_rfl
def t_plEnc2 : T :=
(.call 64 [.a (.ptr (.v 0) 0), .a (.int .u8 (.o1 (.wrap .u8) (.v 2)))] [(.b (.v 0), .prop 1)] [.p] (.tup []) [(.b (.v 0), .prop 3)]
(.ret (.tup []) [(.b (.v 0), .prop 3)]))
theorem tree_plEnc2 : tree Tryd.prog { keep := [56, 75, 22, 13, 42, 99999, 10], rdf := true } Tryd.f63 [.a (.ptr (.v 0) 0), .a (.int .i64 (.v 2))] [(.b (.v 0), .prop 1)] 3 = t_plEnc2 := by kernel_rfl
def t_plEnc1 : T :=
(.call 62 [.a (.ptr (.v 0) 0), .a (.sl (.v 2) (.v 3) (.v 4)), .a (.func 63 [])] [(.b (.v 0), .prop 1), (.a 2, .prop 5)] [.p, .p] (.tup []) [(.b (.v 0), .prop 6), (.a 2, .prop 7)]
(.ret (.tup []) [(.b (.v 0), .prop 6), (.a 2, .prop 7)]))
theorem tree_plEnc1 : tree Tryd.prog { keep := [56, 75, 22, 13, 42, 99999, 10], rdf := true } Tryd.f61 [.a (.ptr (.v 0) 0), .a (.sl (.v 2) (.v 3) (.v 4))] [(.b (.v 0), .prop 1), (.a 2, .prop 5)] 6 = t_plEnc1 := by kernel_rfl
def t_plEnc : T :=
(.new
(.new
(.call 59 [.a (.ptr (.v 6) 0), .a (.int .u64 (.o1 (.wrap .u64) (.v 0))), .a (.int .i64 (.i 4))] [(.b (.v 6), .cells [.sl .nil (.n 0) (.n 0)] 99)] [.a, .n, .n, .p] (.tup []) [(.b (.v 6), .cells [.sl (.v 7) (.v 8) (.v 9)] 99), (.a 7, .prop 10)]
(.call 60 [.a (.ptr (.v 6) 0), .a (.sl (.v 1) (.v 2) (.v 3)), .a (.func 61 [])] [(.b (.v 6), .cells [.sl (.v 7) (.v 8) (.v 9)] 99), (.a 7, .prop 10), (.a 1, .prop 4)] [.a, .n, .n, .p, .p] (.tup []) [(.b (.v 6), .cells [.sl (.v 11) (.v 12) (.v 13)] 99), (.a 11, .prop 14), (.a 1, .prop 15)]
(.call 66 [.a (.ptr (.v 6) 0)] [(.b (.v 6), .cells [.sl (.v 11) (.v 12) (.v 13)] 99), (.a 11, .prop 14)] [.a, .n, .n, .p, .a, .n, .n, .p] (.w (.a (.sl (.v 16) (.v 17) (.v 18)))) [(.a 16, .prop 19), (.b (.v 6), .cells [.sl (.v 20) (.v 21) (.v 22)] 99), (.a 20, .prop 23)]
(.call 65 [.a (.sl (.v 16) (.v 17) (.v 18))] [(.a 16, .prop 19)] [.a, .n, .n, .p, .p] (.w (.a (.sl (.v 24) (.v 25) (.v 26)))) [(.a 24, .prop 27), (.a 16, .prop 28)]
(.ret (.w (.a (.sl (.v 24) (.v 25) (.v 26)))) [(.a 1, .prop 15), (.a 24, .prop 27)])))))))
theorem tree_plEnc : tree Tryd.prog { keep := [56, 75, 22, 13, 42, 99999, 10], rdf := true } Tryd.f42 [.agg [.int .i64 (.v 0), .sl (.v 1) (.v 2) (.v 3)]] [(.a 1, .prop 4)] 5 = t_plEnc := by kernel_rfl
def t_putI : T :=
(.call 59 [.a (.ptr (.v 0) 0), .a (.int .u64 (.o1 (.wrap .u64) (.o1 .ofNat (.v 3)))), .a (.int .i64 (.i 4))] [(.b (.v 0), .prop 1)] [.p] (.tup []) [(.b (.v 0), .prop 8)]
(.read (.binOp .eql 105 (.tmp 13) (.const .nilFunc) 105) 4 [(13, .w (.a (.val 6)))] [(.a 6, .prop 7)] [.c] (.w (.a (.bool (.v 9))))
(.br (.v 9)
(.ret (.tup []) [(.b (.v 0), .prop 8), (.a 2, .prop 5), (.a 6, .prop 7)])
(.loop [.i, .p, .p] [.e (.o1 .neg (.o1 .neg (.i 0))), .p [(.b (.v 0), .prop 8)], .p [(.a 6, .prop 7)]]
(.br (.o2 .lt (.v 10) (.o1 .ofNat (.v 3)))
(.need (.o2 .le (.i 0) (.v 10))
(.need (.o1 .isSome (.v 2))
(.read (.load 3 (.tmp 19)) 3 [(19, .w (.a (.eptr 2 (.v 10) 1 0)))] [(.a 2, .prop 5)] [.i] (.w (.a (.int .i64 (.v 13))))
   (.callv 6 [.a (.ptr (.v 0) 0), .a (.int .i64 (.v 13))] [(.a 6, .prop 12), (.b (.v 0), .prop 11)] [.p, .p] (.tup []) [(.a 6, .prop 14), (.b (.v 0), .prop 15)]
(.need (.o1 (.inr .i64) (.o2 .add (.v 10) (.i 1)))
(.again 0 [.e (.o1 .neg (.o1 .neg (.o2 .add (.v 10) (.i 1)))), .p [(.b (.v 0), .prop 15)], .p [(.a 6, .prop 14)]]))))))
(.ret (.tup []) [(.b (.v 0), .prop 11), (.a 2, .prop 5), (.a 6, .prop 12)]))))))
theorem tree_putI : tree Tryd.prog { hv := [(0, [.b (.v 0), .a 6])], vt := [.b (.v 0)] } Tryd.f62 [.a (.ptr (.v 0) 0), .a (.sl (.v 2) (.v 3) (.v 4)), .a (.val 6)] [(.b (.v 0), .prop 1), (.a 2, .prop 5), (.a 6, .prop 7)] 8 = t_putI := by kernel_rfl
def t_putC : T :=
(.call 59 [.a (.ptr (.v 0) 0), .a (.int .u64 (.o1 (.wrap .u64) (.o1 .ofNat (.v 3)))), .a (.int .i64 (.i 4))] [(.b (.v 0), .prop 1)] [.p] (.tup []) [(.b (.v 0), .prop 8)]
(.read (.binOp .eql 106 (.tmp 13) (.const .nilFunc) 106) 4 [(13, .w (.a (.val 6)))] [(.a 6, .prop 7)] [.c] (.w (.a (.bool (.v 9))))
(.br (.v 9)
(.ret (.tup []) [(.b (.v 0), .prop 8), (.a 2, .prop 5), (.a 6, .prop 7)])
(.loop [.i, .p, .p] [.e (.o1 .neg (.o1 .neg (.i 0))), .p [(.b (.v 0), .prop 8)], .p [(.a 6, .prop 7)]]
(.br (.o2 .lt (.v 10) (.o1 .ofNat (.v 3)))
(.need (.o2 .le (.i 0) (.v 10))
(.need (.o1 .isSome (.v 2))
(.read (.load 27 (.tmp 19)) 27 [(19, .w (.a (.eptr 2 (.v 10) 1 0)))] [(.a 2, .prop 5)] [.a, .n, .n] (.w (.a (.sl (.v 13) (.v 14) (.v 15))))
   (.callv 6 [.a (.ptr (.v 0) 0), .a (.sl (.v 13) (.v 14) (.v 15))] [(.a 6, .prop 12), (.b (.v 0), .prop 11), (.a 2, .prop 5)] [.p, .p] (.tup []) [(.a 6, .prop 16), (.b (.v 0), .prop 17), (.a 2, .prop 5)]
(.need (.o1 (.inr .i64) (.o2 .add (.v 10) (.i 1)))
(.again 0 [.e (.o1 .neg (.o1 .neg (.o2 .add (.v 10) (.i 1)))), .p [(.b (.v 0), .prop 17)], .p [(.a 6, .prop 16)]]))))))
(.ret (.tup []) [(.b (.v 0), .prop 11), (.a 2, .prop 5), (.a 6, .prop 12)]))))))
theorem tree_putC : tree Tryd.prog { hv := [(0, [.b (.v 0), .a 6])], vt := [.b (.v 0)] } Tryd.f60 [.a (.ptr (.v 0) 0), .a (.sl (.v 2) (.v 3) (.v 4)), .a (.val 6)] [(.b (.v 0), .prop 1), (.a 2, .prop 5), (.a 6, .prop 7)] 8 = t_putC := by kernel_rfl
def t_listI : T :=
(.new
(.new
(.call 72 [.a (.ptr (.v 0) 0), .a (.int .i64 (.v 2))] [(.b (.v 0), .prop 1)] [.i, .p] (.w (.a (.int .i64 (.v 7)))) [(.b (.v 0), .prop 8)]
(.new
(.call 73 [.a (.ptr (.v 0) 0), .a (.int .i64 (.v 7))] [(.b (.v 0), .prop 8)] [.v, .p] (.w (.a (.val 10))) [(.a 10, .prop 11), (.b (.v 0), .prop 8)]
(.new
(.rangef (.val 10) [(.a 10, .prop 11)] [(.b (.v 0), .prop 13)] [.p, .a, .n, .n, .p] [.p [(.b (.v 0), .prop 8)], .a .nil, .e (.o2 .nadd (.n 0) (.n 0)), .e (.o2 .nadd (.n 0) (.n 0)), .p []] [.i] [.a (.int .i64 (.v 18))] []
(.call 51 [.a (.ptr (.v 0) 0)] [(.b (.v 0), .prop 13)] [.i, .p] (.w (.a (.int .i64 (.v 19)))) [(.b (.v 0), .prop 20)]
(.new
(.op (.call ⟨.builtin .append, #[.tmp 18, .tmp 22], #[27, 27]⟩) 27 [(18, .w (.a (.sl (.v 14) (.v 15) (.v 16)))), (22, .w (.a (.sl (.b (.v 21) 0) (.n 1) (.n 1))))] [(.a 14, .prop 17), (.b (.v 21), .cells [.int .i64 (.v 19)] 3)] [.a, .n, .n, .p] (.w (.a (.sl (.v 22) (.v 23) (.v 24)))) [(.a 22, .prop 25), (.b (.v 21), .cells [.int .i64 (.v 19)] 3)]
(.again 0 [.p [(.b (.v 0), .prop 20)], .a (.v 22), .e (.o2 .nadd (.v 23) (.n 0)), .e (.o2 .nadd (.v 24) (.n 0)), .p [(.a 22, .prop 25)]]))))
(.read (.load 4 (.tmp 26)) 4 [(26, .w (.a (.ptr (.v 0) 1)))] [(.b (.v 0), .prop 13)] [.c] (.w (.a (.bool (.v 18))))
(.br (.v 18)
(.ret (.w (.a (.sl .nil (.n 0) (.n 0)))) [(.b (.v 0), .prop 13)])
(.ret (.w (.a (.sl (.v 14) (.v 15) (.v 16)))) [(.b (.v 0), .prop 13), (.a 14, .prop 17)]))))))))))
theorem tree_listI : tree Tryd.prog { hv := [(0, [.b (.v 0), .b (.v 9)])], keep := [73], link := [(73, 0)], shr := [(0, [.b (.v 0)])], pty := [(0, [3])] } Tryd.f50 [.a (.ptr (.v 0) 0), .a (.int .i64 (.v 2)), .a (.func 51 [])] [(.b (.v 0), .prop 1)] 5 = t_listI := by kernel_rfl
def t_listC : T :=
(.new
(.new
(.call 72 [.a (.ptr (.v 0) 0), .a (.int .i64 (.v 2))] [(.b (.v 0), .prop 1)] [.i, .p] (.w (.a (.int .i64 (.v 7)))) [(.b (.v 0), .prop 8)]
(.new
(.call 73 [.a (.ptr (.v 0) 0), .a (.int .i64 (.v 7))] [(.b (.v 0), .prop 8)] [.v, .p] (.w (.a (.val 10))) [(.a 10, .prop 11), (.b (.v 0), .prop 8)]
(.new
(.rangef (.val 10) [(.a 10, .prop 11)] [(.b (.v 0), .prop 13)] [.p, .a, .n, .n, .p] [.p [(.b (.v 0), .prop 8)], .a .nil, .e (.o2 .nadd (.n 0) (.n 0)), .e (.o2 .nadd (.n 0) (.n 0)), .p []] [.i] [.a (.int .i64 (.v 18))] []
(.call 49 [.a (.ptr (.v 0) 0)] [(.b (.v 0), .prop 13)] [.a, .n, .n, .p, .p] (.w (.a (.sl (.v 19) (.v 20) (.v 21)))) [(.a 19, .prop 22), (.b (.v 0), .prop 23)]
(.new
(.op (.call ⟨.builtin .append, #[.tmp 18, .tmp 22], #[22, 22]⟩) 22 [(18, .w (.a (.sl (.v 14) (.v 15) (.v 16)))), (22, .w (.a (.sl (.b (.v 24) 0) (.n 1) (.n 1))))] [(.a 14, .prop 17), (.b (.v 24), .cells [.sl (.v 19) (.v 20) (.v 21)] 27), (.a 19, .prop 22)] [.a, .n, .n, .p] (.w (.a (.sl (.v 25) (.v 26) (.v 27)))) [(.a 25, .prop 28), (.b (.v 24), .cells [.sl (.v 19) (.v 20) (.v 21)] 27), (.a 19, .prop 22)]
(.again 0 [.p [(.b (.v 0), .prop 23)], .a (.v 25), .e (.o2 .nadd (.v 26) (.n 0)), .e (.o2 .nadd (.v 27) (.n 0)), .p [(.a 25, .prop 28)]]))))
(.read (.load 4 (.tmp 26)) 4 [(26, .w (.a (.ptr (.v 0) 1)))] [(.b (.v 0), .prop 13)] [.c] (.w (.a (.bool (.v 18))))
(.br (.v 18)
(.ret (.w (.a (.sl .nil (.n 0) (.n 0)))) [(.b (.v 0), .prop 13)])
(.ret (.w (.a (.sl (.v 14) (.v 15) (.v 16)))) [(.b (.v 0), .prop 13), (.a 14, .prop 17)]))))))))))
theorem tree_listC : tree Tryd.prog { hv := [(0, [.b (.v 0), .b (.v 9)])], keep := [73], link := [(73, 0)], shr := [(0, [.b (.v 0)])], pty := [(0, [3])] } Tryd.f48 [.a (.ptr (.v 0) 0), .a (.int .i64 (.v 2)), .a (.func 49 [])] [(.b (.v 0), .prop 1)] 5 = t_listC := by kernel_rfl
def t_plDec2 : T :=
(.call 52 [.a (.ptr (.v 0) 0)] [(.b (.v 0), .prop 1)] [.i, .p] (.w (.a (.int .u8 (.v 2)))) [(.b (.v 0), .prop 3)]
(.need (.o1 (.inr .i64) (.v 2))
(.ret (.w (.a (.int .i64 (.v 2)))) [(.b (.v 0), .prop 3)])))
theorem tree_plDec2 : tree Tryd.prog { } Tryd.f51 [.a (.ptr (.v 0) 0)] [(.b (.v 0), .prop 1)] 2 = t_plDec2 := by kernel_rfl
def t_plDec1 : T :=
(.call 50 [.a (.ptr (.v 0) 0), .a (.int .i64 (.i 7)), .a (.func 51 [])] [(.b (.v 0), .prop 1)] [.a, .n, .n, .p, .p] (.w (.a (.sl (.v 2) (.v 3) (.v 4)))) [(.a 2, .prop 5), (.b (.v 0), .prop 6)]
(.ret (.w (.a (.sl (.v 2) (.v 3) (.v 4)))) [(.b (.v 0), .prop 6), (.a 2, .prop 5)]))
theorem tree_plDec1 : tree Tryd.prog { } Tryd.f49 [.a (.ptr (.v 0) 0)] [(.b (.v 0), .prop 1)] 2 = t_plDec1 := by kernel_rfl
def t_plDec : T :=
(.new
(.call 45 [.a (.sl (.v 0) (.v 1) (.v 2))] [(.a 0, .prop 3)] [.a, .n, .n, .p, .i, .p] (.tup [.a (.sl (.v 5) (.v 6) (.v 7)), .a (.int .i64 (.v 9))]) [(.a 5, .prop 8), (.a 0, .prop 10)]
(.br (.o1 .not (.o2 .eq (.v 9) (.i 0)))
(.ret (.tup [.agg [.int .i64 (.i 0), .sl .nil (.n 0) (.n 0)], .a (.int .i64 (.i 3))]) [(.a 0, .prop 10)])
(.call 46 [.a (.sl (.v 5) (.v 6) (.v 7))] [(.a 5, .prop 8)] [.n, .p, .p] (.w (.a (.ptr (.v 11) 0))) [(.b (.v 11), .prop 12), (.a 5, .prop 13)]
(.call 47 [.a (.ptr (.v 11) 0), .a (.int .i64 (.i 4))] [(.b (.v 11), .prop 12)] [.i, .p] (.w (.a (.int .u64 (.v 14)))) [(.b (.v 11), .prop 15)]
(.new
(.call 48 [.a (.ptr (.v 11) 0), .a (.int .i64 (.i 7)), .a (.func 49 [])] [(.b (.v 11), .prop 15)] [.a, .n, .n, .p, .p] (.w (.a (.sl (.v 17) (.v 18) (.v 19)))) [(.a 17, .prop 20), (.b (.v 11), .prop 21)]
(.call 53 [.a (.ptr (.v 11) 0)] [(.b (.v 11), .prop 21)] [.i, .p] (.w (.a (.int .i64 (.v 22)))) [(.b (.v 11), .prop 23)]
(.br (.o1 .not (.o2 .eq (.v 22) (.i 0)))
(.ret (.tup [.agg [.int .i64 (.i 0), .sl .nil (.n 0) (.n 0)], .a (.int .i64 (.i 3))]) [(.a 0, .prop 10)])
(.call 13 [.agg [.int .i64 (.o1 (.wrap .i64) (.v 14)), .sl (.v 17) (.v 18) (.v 19)]] [(.a 17, .prop 20)] [.c, .p] (.w (.a (.bool (.v 24)))) [(.a 17, .prop 25)]
(.br (.o1 .not (.v 24))
(.ret (.tup [.agg [.int .i64 (.i 0), .sl .nil (.n 0) (.n 0)], .a (.int .i64 (.i 3))]) [(.a 0, .prop 10)])
(.ret (.tup [.agg [.int .i64 (.o1 (.wrap .i64) (.v 14)), .sl (.v 17) (.v 18) (.v 19)], .a (.int .i64 (.i 0))]) [(.a 0, .prop 10), (.a 17, .prop 25)]))))))))))))
theorem tree_plDec : tree Tryd.prog { } Tryd.f36 [.a (.sl (.v 0) (.v 1) (.v 2))] [(.a 0, .prop 3)] 4 = t_plDec := by kernel_rfl
def t_sameI11 : T :=
(.br (.o1 .not (.o2 .eq (.o1 .ofNat (.v 1)) (.o1 .ofNat (.v 5))))
(.ret (.w (.a (.bool (.c false)))) [(.a 0, .prop 3), (.a 4, .prop 7)])
(.loop [.c, .i] [.e (.o1 .not (.o1 .not (.c false))), .e (.o1 .neg (.o1 .neg (.i 0)))]
(.br (.o2 .lt (.v 9) (.o1 .ofNat (.v 1)))
(.need (.o2 .le (.i 0) (.v 9))
(.need (.o1 .isSome (.v 0))
(.read (.load 3 (.tmp 19)) 3 [(19, .w (.a (.eptr 0 (.v 9) 1 0)))] [(.a 0, .prop 3)] [.i] (.w (.a (.int .i64 (.v 10))))
(.need (.o2 .lt (.v 9) (.o1 .ofNat (.v 5)))
(.need (.o1 .isSome (.v 4))
(.read (.load 3 (.tmp 23)) 3 [(23, .w (.a (.eptr 4 (.v 9) 1 0)))] [(.a 4, .prop 7)] [.i] (.w (.a (.int .i64 (.v 11))))
(.br (.o1 .not (.o2 .eq (.v 10) (.v 11)))
(.ret (.w (.a (.bool (.c false)))) [(.a 0, .prop 3), (.a 4, .prop 7)])
(.need (.o1 (.inr .i64) (.o2 .add (.v 9) (.i 1)))
(.again 0 [.e (.o1 .not (.o1 .not (.v 8))), .e (.o1 .neg (.o1 .neg (.o2 .add (.v 9) (.i 1))))])))))))))
(.ret (.w (.a (.bool (.c true)))) [(.a 0, .prop 3), (.a 4, .prop 7)]))))
theorem tree_sameI11 : tree Tryd.prog { keep := [56, 75, 22, 13, 42, 99999, 10], rdf := true } Tryd.f10 [.a (.sl (.v 0) (.v 1) (.v 2)), .a (.sl (.v 4) (.v 5) (.v 6))] [(.a 0, .prop 3), (.a 4, .prop 7)] 8 = t_sameI11 := by kernel_rfl
end Go.Proofs.YtbmajijnjkicmaaDoor.RX



namespace Go.Proofs.YtbmajijnjkicmaaDoor
set_option linter.unusedSimpArgs false
set_option linter.unusedVariables false
open Go.Proofs.YtbmajijnjkicmaaDoor RX
set_option maxRecDepth 100000

structure ChE where
  a : Option Addr
  c : Nat
  l : List Int
def kCh : Kind ChE := ⟨1, by decide, fun x => [.slice x.a x.l.length x.c], fun _ => rfl, fun x => RoI x.a x.l.length x.l, fun _ _ _ _ H => H⟩
theorem kCh_one : ∀ x, ∀ u ∈ kCh.vals x, u.oneCell' = true := fun x u hu => by
  obtain rfl := List.mem_singleton.1 hu; rfl
abbrev pkC : PK ChE := pkOf kCh 27 kCh_one
theorem infoIs : (Tryd.prog.info? 27).map (fun i => (i.zero, i.size, i.bytes)) = some (some (.slice none 0 0), 1, 24) := by kernel_rfl
theorem undIs : Tryd.prog.underlying 22 = some (.slice 27) := by kernel_rfl
theorem aggIs : aggT Tryd.prog 27 = false := by kernel_rfl
theorem szIs : szT Tryd.prog 27 = 1 := by kernel_rfl
theorem ldC {S : HP} {a : Option Addr} {n : Nat} {es : List ChE} (hS : ∀ R h, S.p R h → (Ls kCh a n es).p R h) {k : Nat} {x : ChE} (hk : es[k]? = some x) :
    ORead Tryd.prog (loadS 27 (.pointer (a.map fun y => (y.add ((k : Int).toNat * 1)).add 0))) S (.slice x.a x.l.length x.c) :=
  ORead.ent (.of hS) (Ls.load1 (K := kCh) (off := 0) undI aggIs szIs hk rfl)
theorem ldI {S : HP} {a : Option Addr} {l : List Int} {k : Nat} {x : Int} (r : Rd S a (l.map i64v)) (hk : l[k]? = some x) :
    ORead Tryd.prog (loadS 3 (.pointer (a.map fun y => (y.add ((k : Int).toNat * 1)).add 0))) S (.int .i64 x) :=
  load1_ok undIb aggI szI r (k := (k : Int).toNat * 1) (off := 0) (by simp [hk, i64v])
theorem appendIs (a : Option Addr) (n c : Nat) (l : List Int) (S : HP) (b : Option Addr) (m c2 : Nat) (q : List Int) (hr : RdL S b m (q.map i64v)) (hm : q.length = m) (hb0 : b.isSome = true) (hb : n + m ≤ 1000000000) :
    OTri Tryd.prog (appS 27 27 (.slice a n c) (.slice b m c2)) (HP.sep (OwI a n c l) S)
      (fun v => HP.ex fun a' => HP.ex fun c' => HP.and (v = .slice a' (n + m) c') (HP.sep (OwI a' (n + m) c' (l ++ q)) S)) := by
  cases b with
  | some ad => exact appendI a n c l S ad m c2 q hr.rd hm hb
  | none => cases hb0
theorem iClone_ok (S : HP) (a : Option Addr) (n c : Nat) (l : List Int) (hr : RdL S a n (l.map i64v)) (hl : l.length = n) (hb : n ≤ 1000000000) :
    Tri Tryd.prog 22 #[.slice a n c] S (fun v => HP.ex fun a' => HP.ex fun c' => HP.and (v = .slice a' n c') (HP.sep (OwI a' n c' l) S)) := by
  refine tri_of_tree (ρ := [.a a, .n n, .n c, .p S]) mixed Tryd.func22 tree_iClone ?_
  unfold t_iClone
  simp only [T.den, E.prop, E.den, RX.look, F1.app, F2.app, Uni.int_i, Uni.nat_n, Uni.bool_c, Uni.str_s, Uni.adr_a, Uni.val_v, Uni.hp_p, hden, cden, V.den, W.den, A.den, BR.den, SA.den, FV.den, capV, exs, exP, allP, Cur.app, List.map_cons, List.map_nil, List.cons_append, List.nil_append, List.drop_succ_cons, List.drop_zero, List.length_cons, List.length_nil, Nat.zero_add, Nat.reduceAdd, Int.neg_neg, Bool.not_not, List.append_nil, Nat.add_zero, List.getElem?_cons_zero, List.getElem?_cons_succ, Decidable.not_not, semW_eq, semW_append, ne_eq, Nat.reduceEqDiff, not_false_eq_true]
  refine ⟨fun ha => .of fun R h H => ?_, fun ha x => ?_⟩
  · have hn : n = 0 := hr.none R h H (by simpa using ha)
    subst hn
    obtain rfl : l = [] := List.eq_nil_of_length_eq_zero hl
    exact ⟨none, 0, rfl, HP.tt_sep H |> fun H => HP.sep_mono H (fun x _ => OwC.nil _ _ R x) fun _ h => h⟩
  · refine (appendIs (some ⟨x, 0, none⟩) 0 0 [] S a n c l hr hl (by simpa [Option.isSome_iff_ne_none] using ha) (by omega)).weak (fun R h H => HP.sep_mono H (fun y hy => ⟨rfl, .inr ⟨x, #[], rfl, hy, Nat.le_refl _, by unfold maxLen; omega, rfl, rfl⟩⟩) fun _ h => h) ?_
    rintro v R h ⟨a', c', rfl, H⟩
    rw [Nat.zero_add, List.nil_append] at H
    exact ⟨a', n, c', OwI a' n c' l, by rw [Nat.zero_add], .of fun R' h' H' => ⟨a', c', rfl, HP.sep_comm H'⟩, H⟩
theorem iCloneR_ok (S : HP) (a : Option Addr) (n c : Nat) (l : List Int) (hr : RdL S a n (l.map i64v)) (hl : l.length = n) (hb : n ≤ 1000000000) :
    Tri Tryd.prog 22 #[.slice a n c] S (fun v => HP.ex fun a' => HP.ex fun c' => HP.and (v = .slice a' n c') (HP.sep (RoI a' n l) S)) :=
  (iClone_ok S a n c l hr hl hb).post fun v => fun R h d ⟨a', c', e, H⟩ => by
    obtain ⟨R1, h1, q1, q2, q3, q4, H1⟩ := (HP.ent.sep (OwC.share _ _ _ _ _ _) S) R h d H
    exact ⟨R1, h1, q1, q2, q3, q4, a', c', e, H1⟩
theorem sepN_pers {α : Type} {K : Kind α} {l : List α} {R : PH} (H : ∀ x ∈ l, ∀ h, (K.hp x).p R h) (h : PH) : (sepN (l.map K.hp)).p R h := by
  induction l generalizing h with
  | nil => trivial
  | cons x r ih => exact sepN_cons.2 ⟨PH.none', h, PH.none_dj _, PH.none_le _, PH.le.refl _, H x (by simp) _, ih (fun y hy => H y (by simp [hy])) h⟩
theorem cClone_ok (S : HP) (a : Option Addr) (n c : Nat) (es : List ChE) (hS : ∀ R h, S.p R h → (Ls kCh a n es).p R h) (hb : n ≤ 1000000000) :
    Tri Tryd.prog 21 #[.slice a n c] S (fun v => HP.ex fun a' => HP.ex fun c' => HP.and (v = .slice a' n c') (HP.sep (PL pkC a' n c' es) S)) := by
  refine Tri.fact (φ := es.length = n ∧ (n ≠ 0 → a.isSome = true)) (fun R h H => ⟨(hS R h H).1, fun hn => RoC.some (hS R h H).2.1 (by omega)⟩) fun ⟨hl, hs⟩ => ?_
  refine tri_of_tree (ρ := [.a a, .n n, .n c, .p S]) mixed Tryd.func21 tree_cClone ?_
  unfold t_cClone
  simp only [T.den, E.prop, E.den, RX.look, F1.app, F2.app, Uni.int_i, Uni.nat_n, Uni.bool_c, Uni.str_s, Uni.adr_a, Uni.val_v, Uni.hp_p, hden, cden, V.den, W.den, A.den, BR.den, SA.den, FV.den, capV, exs, exP, allP, Cur.app, List.map_cons, List.map_nil, List.cons_append, List.nil_append, List.drop_succ_cons, List.drop_zero, List.length_cons, List.length_nil, Nat.zero_add, Nat.reduceAdd, Int.neg_neg, Bool.not_not, List.append_nil, Nat.add_zero, List.getElem?_cons_zero, List.getElem?_cons_succ, Decidable.not_not, semW_eq, semW_append, ne_eq, Nat.reduceEqDiff, not_false_eq_true]
  refine ⟨fun ha => .of fun R h H => ?_, fun ha x => ?_⟩
  · have hn : n = 0 := Classical.byContradiction fun hn => ha (hs hn)
    subst hn
    obtain rfl : es = [] := List.eq_nil_of_length_eq_zero hl
    exact ⟨none, 0, rfl, HP.tt_sep H |> fun H => HP.sep_mono H (fun x _ => PL.nil' _ R x) fun _ h => h⟩
  · cases a with
    | none => simp at ha
    | some ad =>
      obtain ⟨i, hi, h1, h2, h3⟩ := info_parts infoIs
      have := append_ok 22 22 27 i (.slice none 0 0) undIs hi h1 (by rw [h2]; rfl) (by omega) (some ⟨x, 0, none⟩) 0 0 [] S ad n c (es.flatMap kCh.vals) (Rd.impR (Ls.rd (K := kCh)) hS) (by rw [flat_lenL kCh.vals 1 kCh.len, hl, h2]) (fun u hu => by
        obtain ⟨y, _, hy⟩ := List.mem_flatMap.1 hu; exact kCh_one y u hy) (by unfold maxLen; omega) (by rw [h3]; omega)
      rw [h2] at this
      refine this.weak (fun R h H => HP.sep_mono H (fun y hy => ⟨by simp, .inr ⟨x, #[], rfl, hy, Nat.le_refl _, by unfold maxLen; omega, rfl, rfl⟩⟩) fun _ h => h) ?_
      rintro v R h ⟨a', c', rfl, H⟩
      rw [Nat.zero_add, List.nil_append] at H
      have hro := hS R _ (HP.sep_right H)
      refine ⟨a', n, c', PL pkC a' n c' es, by rw [Nat.zero_add], .of fun R' h' H' => ⟨a', c', rfl, HP.sep_comm H'⟩, HP.sep_mono H (fun y hy => ⟨hl, HP.sep_comm ⟨PH.none', y, PH.none_dj _, PH.none_le _, PH.le.refl _, sepN_pers (K := kCh) (fun z hz _ => hro.2.2 z hz) _, hy⟩⟩) fun _ h => h⟩
set_option maxHeartbeats 1000000 in
theorem iIndex_ok (S : HP) (a : Option Addr) (n c : Nat) (l : List Int) (hr : RdL S a n (l.map i64v)) (hl : l.length = n) (hn : n ≤ 1000000000) (x : Int) :
    Tri Tryd.prog 75 #[.slice a n c, .int .i64 x] S (fun v => HP.ex fun r : Int => HP.and (v = .int .i64 r ∧ (0 ≤ r ↔ x ∈ l)) S) := by
  refine Tri.fact (φ := a = none → n = 0) (fun R h H => hr.none R _ H) fun hnil => ?_
  refine tri_of_tree (ρ := [.a a, .n n, .n c, .p S, .i x]) mixed Tryd.func75 tree_iIndex ?_
  unfold t_iIndex
  simp only [T.den, E.prop, E.den, RX.look, F1.app, F2.app, Uni.int_i, Uni.nat_n, Uni.bool_c, Uni.str_s, Uni.adr_a, Uni.val_v, Uni.hp_p, hden, cden, V.den, W.den, A.den, BR.den, SA.den, FV.den, capV, exs, exP, allP, Cur.app, List.map_cons, List.map_nil, List.cons_append, List.nil_append, List.drop_succ_cons, List.drop_zero, List.length_cons, List.length_nil, Nat.zero_add, Nat.reduceAdd, Int.neg_neg, Bool.not_not, List.append_nil, Nat.add_zero, List.getElem?_cons_zero, List.getElem?_cons_succ, Decidable.not_not, semW_eq, semW_load, ne_eq, Nat.reduceEqDiff, not_false_eq_true]
  refine ⟨fun _ i => ∃ k : Nat, i = k ∧ k ≤ n ∧ x ∉ l.take k, fun _ i => n - i.toNat, ⟨0, rfl, Nat.zero_le _, by simp⟩, ?_⟩
  rintro _ _ ⟨k, rfl, hk, hall⟩
  refine ⟨fun hlt => ⟨by omega, fun _ => ⟨?_, fun _ => ?_⟩⟩, fun hge => .of fun R h H => ⟨-1, ⟨rfl, ?_⟩, H⟩⟩
  · cases a with
    | none => have := hnil rfl; omega
    | some _ => rfl
  · have hkl : k < l.length := by omega
    refine ⟨l[k], ldI hr.rd (List.getElem?_eq_getElem hkl), fun he => .of fun R h H => ⟨k, ⟨rfl, ⟨fun _ => by rw [he]; exact List.getElem_mem hkl, fun _ => by omega⟩⟩, H⟩, fun he => ⟨inI64 _ (by omega) (by omega), fun _ => ⟨⟨k + 1, by omega, by omega, ?_⟩, by dsimp only; omega⟩⟩⟩
    rw [List.take_succ_eq_append_getElem hkl]
    simp only [List.mem_append, List.mem_singleton, not_or]
    exact ⟨hall, he⟩
  · have : k = l.length := by omega
    rw [this, List.take_length] at hall
    exact ⟨fun h => by omega, fun h => absurd h hall⟩
theorem iContains_ok (S : HP) (a : Option Addr) (n c : Nat) (l : List Int) (hr : RdL S a n (l.map i64v)) (hl : l.length = n) (hn : n ≤ 1000000000) (x : Int) :
    Tri Tryd.prog 56 #[.slice a n c, .int .i64 x] S (fun v => HP.and (v = .bool (decide (x ∈ l))) S) := by
  refine tri_of_tree (ρ := [.a a, .n n, .n c, .p S, .i x]) mixed Tryd.func56 tree_iContains ?_
  unfold t_iContains
  simp only [T.den, E.prop, E.den, RX.look, F1.app, F2.app, Uni.int_i, Uni.nat_n, Uni.bool_c, Uni.str_s, Uni.adr_a, Uni.val_v, Uni.hp_p, hden, cden, V.den, W.den, A.den, BR.den, SA.den, FV.den, capV, exs, exP, allP, Cur.app, List.map_cons, List.map_nil, List.cons_append, List.nil_append, List.drop_succ_cons, List.drop_zero, List.length_cons, List.length_nil, Nat.zero_add, Nat.reduceAdd, Int.neg_neg, Bool.not_not, List.append_nil, Nat.add_zero, List.getElem?_cons_zero, List.getElem?_cons_succ, Decidable.not_not, semW_eq, ne_eq, Nat.reduceEqDiff, not_false_eq_true]
  refine (iIndex_ok S a n c l hr hl hn x).weak (fun _ _ h => h) ?_
  rintro v R h ⟨r, ⟨rfl, hr2⟩, H⟩
  exact ⟨r, rfl, .of fun R h H => ⟨by simp [hr2], H⟩, H⟩
set_option maxHeartbeats 1000000 in
theorem iIndexF_ok (S Q : HP) (a : Option Addr) (n c : Nat) (l : List Int) (hr : RdL S a n (l.map i64v)) (hlen : l.length = n) (hn : n ≤ 1000000000) (fv : Value) (h1 : oneC fv = fv) (p : Int → Bool)
    (hf : ∀ x ∈ l, VTri Tryd.prog fv #[.int .i64 x] Q fun v => HP.and (v = .bool (p x)) Q) :
    Tri Tryd.prog 76 #[.slice a n c, fv] (HP.sep S Q) (fun v => HP.ex fun r : Int => HP.and (v = .int .i64 r ∧ ((r = -1 ∧ ∀ x ∈ l, p x = false) ∨ ∃ k : Nat, r = k ∧ (∀ (j : Nat) (x : Int), j < k → l[j]? = some x → p x = false) ∧ ∃ x, l[k]? = some x ∧ p x = true)) (HP.sep S Q)) := by
  refine Tri.fact (φ := l.length = n ∧ (n ≠ 0 → a.isSome = true)) (fun R h H => ⟨hlen, fun hn => Option.isSome_iff_ne_none.2 fun e => hn (hr.none R _ (HP.sep_left H) e)⟩) fun ⟨hl, hs⟩ => ?_
  have := tri_of_tree (ρ := [.a a, .n n, .n c, .p S, .v fv, .p Q]) mixed Tryd.func76 (t := t_iIndexF) (post := fun v => HP.ex fun r : Int => HP.and (v = .int .i64 r ∧ ((r = -1 ∧ ∀ x ∈ l, p x = false) ∨ ∃ k : Nat, r = k ∧ (∀ (j : Nat) (x : Int), j < k → l[j]? = some x → p x = false) ∧ ∃ x, l[k]? = some x ∧ p x = true)) (HP.sep S Q)) tree_iIndexF ?_
  · simpa [W.den, RX.A.den, SA.den, E.den, RX.look, h1, hden, cden] using this
  unfold t_iIndexF
  simp only [T.den, E.prop, E.den, RX.look, F1.app, F2.app, Uni.int_i, Uni.nat_n, Uni.bool_c, Uni.str_s, Uni.adr_a, Uni.val_v, Uni.hp_p, hden, cden, V.den, W.den, A.den, BR.den, SA.den, FV.den, capV, exs, exP, allP, Cur.app, List.map_cons, List.map_nil, List.cons_append, List.nil_append, List.drop_succ_cons, List.drop_zero, List.length_cons, List.length_nil, Nat.zero_add, Nat.reduceAdd, Int.neg_neg, Bool.not_not, List.append_nil, Nat.add_zero, List.getElem?_cons_zero, List.getElem?_cons_succ, Decidable.not_not, semW_eq, semW_load, ne_eq, Nat.reduceEqDiff, not_false_eq_true, h1]
  refine ⟨fun _ i P => ∃ k : Nat, i = k ∧ k ≤ n ∧ Q = P ∧ ∀ (j : Nat) (x : Int), j < k → l[j]? = some x → p x = false, fun _ i _ => n - i.toNat, ⟨0, rfl, Nat.zero_le _, rfl, fun q x h => by omega⟩, ?_⟩
  rintro _ _ _ ⟨k, rfl, hk, rfl, hall⟩
  refine ⟨fun hlt => ⟨by omega, fun _ => ⟨hs (by omega), fun _ => ?_⟩⟩, fun hge => .of fun R h H => ⟨-1, ⟨rfl, .inl ⟨rfl, fun x hx => ?_⟩⟩, H⟩⟩
  · have hkl : k < l.length := by omega
    obtain ⟨x, hx⟩ : ∃ x, l[k]? = some x := ⟨l[k], List.getElem?_eq_getElem hkl⟩
    refine ⟨x, ldI hr.rd hx, ?_⟩
    refine (hf x (List.mem_of_getElem? hx)).weak (fun _ _ h => h) ?_
    rintro v R h ⟨rfl, H⟩
    refine ⟨p x, Q, rfl, ⟨fun hp => .of fun R h H => ⟨k, ⟨rfl, .inr ⟨k, rfl, hall, x, hx, hp⟩⟩, H⟩, fun hp => ⟨inI64 _ (by omega) (by omega), fun _ => ⟨⟨k + 1, by omega, by omega, rfl, fun q y hq hy => ?_⟩, by dsimp only; omega⟩⟩⟩, H⟩
    rcases Nat.lt_or_ge q k with h | h
    · exact hall q y h hy
    · obtain rfl : q = k := by omega
      rw [hx] at hy; cases hy
      simpa using hp
  · obtain ⟨q, hq, rfl⟩ := List.mem_iff_getElem.1 hx
    exact hall q l[q] (by omega) (List.getElem?_eq_getElem hq)
set_option maxHeartbeats 1000000 in
theorem cIndexF_ok (S Q : HP) (a : Option Addr) (n c : Nat) (l : List ChE) (hS : ∀ R h, S.p R h → (Ls kCh a n l).p R h) (hn : n ≤ 1000000000) (fv : Value) (h1 : oneC fv = fv) (p : ChE → Bool)
    (hf : ∀ x ∈ l, VTri Tryd.prog fv #[.slice x.a x.l.length x.c] (HP.sep Q S) fun v => HP.and (v = .bool (p x)) (HP.sep Q S)) :
    Tri Tryd.prog 74 #[.slice a n c, fv] (HP.sep S Q) (fun v => HP.ex fun r : Int => HP.and (v = .int .i64 r ∧ ((r = -1 ∧ ∀ x ∈ l, p x = false) ∨ ∃ k : Nat, r = k ∧ (∀ (j : Nat) (x : ChE), j < k → l[j]? = some x → p x = false) ∧ ∃ x, l[k]? = some x ∧ p x = true)) (HP.sep S Q)) := by
  refine Tri.fact (φ := l.length = n ∧ (n ≠ 0 → a.isSome = true)) (fun R h H => ⟨(hS R _ (HP.sep_left H)).1, fun hn => RoC.some (hS R _ (HP.sep_left H)).2.1 (by omega)⟩) fun ⟨hl, hs⟩ => ?_
  have := tri_of_tree (ρ := [.a a, .n n, .n c, .p S, .v fv, .p Q]) mixed Tryd.func74 (t := t_cIndexF) (post := fun v => HP.ex fun r : Int => HP.and (v = .int .i64 r ∧ ((r = -1 ∧ ∀ x ∈ l, p x = false) ∨ ∃ k : Nat, r = k ∧ (∀ (j : Nat) (x : ChE), j < k → l[j]? = some x → p x = false) ∧ ∃ x, l[k]? = some x ∧ p x = true)) (HP.sep S Q)) tree_cIndexF ?_
  · simpa [W.den, RX.A.den, SA.den, E.den, RX.look, h1, hden, cden] using this
  unfold t_cIndexF
  simp only [T.den, E.prop, E.den, RX.look, F1.app, F2.app, Uni.int_i, Uni.nat_n, Uni.bool_c, Uni.str_s, Uni.adr_a, Uni.val_v, Uni.hp_p, hden, cden, V.den, W.den, A.den, BR.den, SA.den, FV.den, capV, exs, exP, allP, Cur.app, List.map_cons, List.map_nil, List.cons_append, List.nil_append, List.drop_succ_cons, List.drop_zero, List.length_cons, List.length_nil, Nat.zero_add, Nat.reduceAdd, Int.neg_neg, Bool.not_not, List.append_nil, Nat.add_zero, List.getElem?_cons_zero, List.getElem?_cons_succ, Decidable.not_not, semW_eq, semW_load, ne_eq, Nat.reduceEqDiff, not_false_eq_true, h1]
  refine ⟨fun _ i P => ∃ k : Nat, i = k ∧ k ≤ n ∧ Q = P ∧ ∀ (j : Nat) (x : ChE), j < k → l[j]? = some x → p x = false, fun _ i _ => n - i.toNat, ⟨0, rfl, Nat.zero_le _, rfl, fun q x h => by omega⟩, ?_⟩
  rintro _ _ _ ⟨k, rfl, hk, rfl, hall⟩
  refine ⟨fun hlt => ⟨by omega, fun _ => ⟨hs (by omega), fun _ => ?_⟩⟩, fun hge => .of fun R h H => ⟨-1, ⟨rfl, .inl ⟨rfl, fun x hx => ?_⟩⟩, H⟩⟩
  · have hkl : k < l.length := by omega
    obtain ⟨x, hx⟩ : ∃ x, l[k]? = some x := ⟨l[k], List.getElem?_eq_getElem hkl⟩
    refine ⟨x.a, x.l.length, x.c, ldC hS hx, ?_⟩
    refine (hf x (List.mem_of_getElem? hx)).weak (fun _ _ h => h) ?_
    rintro v R h ⟨rfl, H⟩
    refine ⟨p x, Q, rfl, ⟨fun hp => .of fun R h H => ⟨k, ⟨rfl, .inr ⟨k, rfl, hall, x, hx, hp⟩⟩, H⟩, fun hp => ⟨inI64 _ (by omega) (by omega), fun _ => ⟨⟨k + 1, by omega, by omega, rfl, fun q y hq hy => ?_⟩, by dsimp only; omega⟩⟩⟩, H⟩
    rcases Nat.lt_or_ge q k with h | h
    · exact hall q y h hy
    · obtain rfl : q = k := by omega
      rw [hx] at hy; cases hy
      simpa using hp
  · obtain ⟨q, hq, rfl⟩ := List.mem_iff_getElem.1 hx
    exact hall q l[q] (by omega) (List.getElem?_eq_getElem hq)
theorem cContainsF_ok (S Q : HP) (a : Option Addr) (n c : Nat) (l : List ChE) (hS : ∀ R h, S.p R h → (Ls kCh a n l).p R h) (hn : n ≤ 1000000000) (fv : Value) (h1 : oneC fv = fv) (p : ChE → Bool)
    (hf : ∀ x ∈ l, VTri Tryd.prog fv #[.slice x.a x.l.length x.c] (HP.sep Q S) fun v => HP.and (v = .bool (p x)) (HP.sep Q S)) :
    Tri Tryd.prog 54 #[.slice a n c, fv] (HP.sep S Q) (fun v => HP.and (v = .bool (l.any p)) (HP.sep S Q)) := by
  have := tri_of_tree (ρ := [.a a, .n n, .n c, .p S, .v fv, .p Q]) mixed Tryd.func54 (t := t_cContainsF) (post := fun v => HP.and (v = .bool (l.any p)) (HP.sep S Q)) tree_cContainsF ?_
  · simpa [W.den, RX.A.den, SA.den, E.den, RX.look, h1, hden, cden] using this
  unfold t_cContainsF
  simp only [T.den, E.prop, E.den, RX.look, F1.app, F2.app, Uni.int_i, Uni.nat_n, Uni.bool_c, Uni.str_s, Uni.adr_a, Uni.val_v, Uni.hp_p, hden, cden, V.den, W.den, A.den, BR.den, SA.den, FV.den, capV, exs, exP, allP, Cur.app, List.map_cons, List.map_nil, List.cons_append, List.nil_append, List.drop_succ_cons, List.drop_zero, List.length_cons, List.length_nil, Nat.zero_add, Nat.reduceAdd, Int.neg_neg, Bool.not_not, List.append_nil, Nat.add_zero, List.getElem?_cons_zero, List.getElem?_cons_succ, Decidable.not_not, semW_eq, ne_eq, Nat.reduceEqDiff, not_false_eq_true, h1]
  refine (cIndexF_ok S Q a n c l hS hn fv h1 p hf).weak (fun _ _ h => h) ?_
  rintro v R h ⟨r, ⟨rfl, hr2⟩, H⟩
  refine ⟨r, S, Q, rfl, .of fun R h H => ⟨?_, H⟩, H⟩
  congr 1
  rcases hr2 with ⟨rfl, hall⟩ | ⟨k, rfl, _, x, hx, hp⟩
  · have : l.any p = false := by rw [List.any_eq_false]; exact fun x hx => by rw [hall x hx]; decide
    rw [this]; rfl
  · have : l.any p = true := List.any_eq_true.2 ⟨x, List.mem_of_getElem? hx, hp⟩
    rw [this]; simp
end Go.Proofs.YtbmajijnjkicmaaDoor



namespace Go.Proofs.YtbmajijnjkicmaaDoor
open Go.Proofs.YtbmajijnjkicmaaDoor RX
set_option maxRecDepth 100000

def clrS (t ty : TypeId) (u : Value) : Sem Next := do pure (.value (← Builtin.clear_ #[t] ty #[u]))
theorem semW_clear {t ty : TypeId} {i : Nat} {u : Value} : semW (.call ⟨.builtin .clear, #[.tmp i], #[t]⟩) ty [(i, u)] = clrS t ty u := by
  simp [semW, execOp, resolve, arW, invoke, builtin, clrS]
theorem zeroCells_sz (z : Array Value) (n : Nat) : (Builtin.zeroCells z n).size = n * z.size ∧ ∀ v ∈ Builtin.zeroCells z n, v ∈ z := by
  refine ⟨by simp [Builtin.zeroCells], fun v hv => ?_⟩
  unfold Builtin.zeroCells at hv
  simp only [Array.mem_map, Array.mem_range] at hv
  obtain ⟨i, hi, rfl⟩ := hv
  have hz : 0 < z.size := by
    rcases Nat.eq_zero_or_pos z.size with h | h
    · rw [h, Nat.mul_zero] at hi; omega
    · exact h
  rw [getElem!_pos z _ (Nat.mod_lt _ hz)]
  exact Array.getElem_mem _
set_option maxHeartbeats 1000000 in
theorem clearG_ok {t e : TypeId} {size : Nat} {inf : TypeInfo} {z : Value} (hu : Tryd.prog.underlying t = some (.slice e)) (hi : Tryd.prog.info? e = some inf) (hz0 : inf.zero = some z) (hz1 : z.cells.size = size) (hz2 : ∀ v ∈ z.cells, v.oneCell' = true)
    (ty : TypeId) (a : Option Addr) (n c : Nat) (xs : List Value) (i m c2 : Nat) (h : i + m = n) :
    OTri Tryd.prog (clrS t ty (.slice (a.map (·.add (i * size))) m c2)) (OwC e size a n c xs) (fun v => HP.ex fun ys : List Value => HP.and (v = .tuple #[] ∧ ys.take (i * size) = xs.take (i * size)) (OwC e size a n c ys)) := by
  rintro w R h' F s ⟨hl, hh⟩
  rcases hh with ⟨rfl, h0, h1⟩ | ⟨g, cur, rfl, hg, q1, q2, q3, q4⟩
  · refine ⟨.value (.tuple #[]), _, w, ?_, rfl, Same.refl _, R, h', PH.le.refl _, s, xs, ⟨rfl, rfl⟩, hl, .inl ⟨rfl, h0, h1⟩⟩
    unfold clrS Builtin.clear_
    simp [RX.run_underlying hu]
  by_cases hm : m = 0
  · subst hm
    refine ⟨.value (.tuple #[]), _, w, ?_, rfl, Same.refl _, R, h', PH.le.refl _, s, xs, ⟨rfl, rfl⟩, hl, .inr ⟨g, cur, rfl, hg, q1, q2, q3, q4⟩⟩
    unfold clrS Builtin.clear_
    simp [RX.run_underlying hu]
  have hw := s.oh _ _ hg
  obtain ⟨e1, e2⟩ := zeroCells_sz z.cells m
  have hzl : (Builtin.zeroCells z.cells m).toList.length = m * size := by rw [Array.length_toList, e1, hz1]
  have h1 : ∀ v ∈ (Builtin.zeroCells z.cells m).toList, v.oneCell' = true := fun v hv => hz2 v (e2 v (Array.mem_toList_iff.1 hv))
  have him : i * size + m * size = n * size := by rw [← h, Nat.add_mul]
  have hsz : n * size ≤ cur.size := by rw [q3]; exact Nat.mul_le_mul_right _ q1
  have hst := run_storeCells_at (P := Tryd.prog) g (i * size) e (Builtin.zeroCells z.cells m).toList 0 cur w hw (by rw [hzl]; omega) h1
  have hrun : (clrS t ty (.slice ((some (⟨g, 0, none⟩ : Addr)).map (·.add (i * size))) m c2)).run Tryd.prog w = .ok (.value (.tuple #[])) (w.setRow g (cur.toList.take (i * size + 0) ++ (Builtin.zeroCells z.cells m).toList ++ cur.toList.drop (i * size + 0 + (Builtin.zeroCells z.cells m).toList.length)).toArray) := by
    unfold clrS Builtin.clear_
    simp only [Option.map_some, addr_add, Nat.zero_add, List.getElem?_toArray, List.getElem?_cons_zero, Sem.run_bind, RX.run_underlying hu, Result.andThen_ok, run_zeroV hi hz0, hst, Sem.run_pure]
  have hln := Array.length_toList (xs := cur)
  refine ⟨.value (.tuple #[]), _, _, hrun, rfl, ⟨rfl, rfl, rfl, by simp⟩, R, _, PH.le.refl _, s.turn (y := .cells (cur.toList.take (i * size + 0) ++ (Builtin.zeroCells z.cells m).toList ++ cur.toList.drop (i * size + 0 + (Builtin.zeroCells z.cells m).toList.length)).toArray e (0, 0)) hg (fun j hj => setRow_other w g j _ hj) (setRow_heap w g cur _ e (0, 0) hw), (cur.toList.take (i * size + 0) ++ (Builtin.zeroCells z.cells m).toList ++ cur.toList.drop (i * size + 0 + (Builtin.zeroCells z.cells m).toList.length)).take (n * size), ⟨rfl, ?_⟩, ?_, .inr ⟨g, _, rfl, if_pos rfl, q1, q2, ?_, rfl⟩⟩
  · subst q4
    rw [List.take_take, List.take_take, Nat.min_eq_left (by omega), Nat.add_zero, List.append_assoc, List.take_append_of_le_length (by simp; omega), List.take_take, Nat.min_self]
  · simp only [List.length_take, List.length_append, List.length_drop, Array.length_toList, hzl]; omega
  · simp only [List.size_toArray, List.length_append, List.length_take, List.length_drop, Array.length_toList, hzl]; omega
end Go.Proofs.YtbmajijnjkicmaaDoor



namespace Go.Proofs.YtbmajijnjkicmaaDoor
set_option linter.unusedSimpArgs false
set_option linter.unusedVariables false
open Go.Proofs.YtbmajijnjkicmaaDoor RX
set_option maxRecDepth 100000


def bl7 (f : Nat → Bool) : List Value := (List.range 7).map fun k => .bool (f k)
theorem bl7_get (f : Nat → Bool) {k : Nat} (h : k < 7) : (bl7 f)[k]? = some (.bool (f k)) := by
  unfold bl7
  rw [List.getElem?_map, List.getElem?_range h]; rfl
theorem bl7_len (f : Nat → Bool) : (bl7 f).length = 7 := by simp [bl7]
def put7 (f : Nat → Bool) (k : Nat) (b : Bool) (j : Nat) : Bool := if j = k then b else f j
theorem bl7_set (f : Nat → Bool) {k : Nat} (h : k < 7) (b : Bool) : (bl7 f).set k (.bool b) = bl7 (put7 f k b) := by
  refine List.ext_getElem? fun j => ?_
  rw [List.getElem?_set, bl7_len]
  by_cases hj : j < 7
  · rw [bl7_get _ hj, bl7_get _ hj]
    unfold put7
    by_cases e : k = j
    · subst e; rw [if_pos rfl, if_pos h, if_pos rfl]
    · rw [if_neg e, if_neg (Ne.symm e)]
  · rw [List.getElem?_eq_none (by rw [bl7_len]; omega)]
    by_cases e : k = j
    · omega
    · rw [if_neg e, List.getElem?_eq_none (by rw [bl7_len]; omega)]
theorem undA7 : Tryd.prog.underlying 50 = some (.array 7 4) := by kernel_rfl
theorem infBo : (Tryd.prog.info? 4).isSome = true := by kernel_rfl
theorem infoBo : (Tryd.prog.info? 4).map (fun i => (i.zero, i.size, i.bytes)) = some (some (.bool false), 1, 1) := by kernel_rfl
structure PlP where
  ep : Int
  ch : List (List Int)
  deriving DecidableEq
def rightB (p : PlP) : Bool := decide (0 ≤ p.ep ∧ p.ep ≤ 2147483647 ∧ 1 ≤ p.ch.length ∧ p.ch.length ≤ 7 ∧ (∀ c ∈ p.ch, c ≠ []) ∧ (∀ u ∈ p.ch.flatten, 0 ≤ u ∧ u < 7) ∧ p.ch.flatten.Nodup)
def Pl7 (b : Nat) (f : Nat → Bool) : HP := HP.one b (.cells (bl7 f).toArray 50 (0, 0))
theorem pl7_ld {b : Nat} {f : Nat → Bool} {P : HP} (hP : HP.ent P (Pl7 b f)) {k : Nat} (hk : k < 7) : ORead Tryd.prog (loadS 4 (.pointer (some ⟨b, 0 + k, none⟩))) P (.bool (f k)) := by
  rw [Nat.zero_add]
  exact ORead.ent (hP.trans (.of fun R h H => HP.sep_tt H)) (ldB1 (Q := HP.tt) undBo aggBo szBo (by simpa using bl7_get f hk))
theorem pl7_st {b : Nat} {f : Nat → Bool} {P : HP} (hP : HP.ent P (Pl7 b f)) {k : Nat} (hk : k < 7) : OTri Tryd.prog (storeS 4 (.pointer (some ⟨b, 0 + k, none⟩)) (.bool true)) P (fun v => HP.and (v = .tuple #[]) (Pl7 b (put7 f k true))) := by
  obtain ⟨i, hi, h1, h2, h3⟩ := info_parts infoBo
  rw [Nat.zero_add]
  refine (stB1 (cs' := (bl7 (put7 f k true)).toArray) hi h2 rfl rfl (by simp [bl7_len]; exact hk) (by rw [← bl7_set f hk]; simp) HP.tt).conseq (K := HP.tt) (hP.trans (.of fun R h H => HP.sep_tt (HP.sep_tt H))) fun v => .of fun R h H => ?_
  obtain ⟨e, H⟩ := HP.sep_left H
  exact ⟨e, HP.sep_left H⟩
def seenB (l : List Int) (k : Nat) : Bool := decide ((k : Int) ∈ l)
theorem take_flatten_succ (es : List ChE) (k : Nat) (h : k < es.length) : ((es.take (k + 1)).map (·.l)).flatten = ((es.take k).map (·.l)).flatten ++ es[k].l := by
  rw [List.take_succ_eq_append_getElem h, List.map_append, List.flatten_append, List.map_cons, List.map_nil, List.flatten_cons, List.flatten_nil, List.append_nil]
theorem right_ok (S : HP) (ep : Int) (a : Option Addr) (n c : Nat) (es : List ChE) (hS : ∀ R h, S.p R h → (Ls kCh a n es).p R h) (hb : ∀ x ∈ es, x.l.length ≤ 1000000000) :
    Tri Tryd.prog 13 #[.agg #[.int .i64 ep, .slice a n c]] S (fun v => HP.and (v = .bool (rightB ⟨ep, es.map (·.l)⟩)) S) := by
  refine Tri.fact (φ := es.length = n ∧ (n ≠ 0 → a.isSome = true) ∧ ∀ x ∈ es, x.l.length ≠ 0 → x.a.isSome = true) (fun R h H => ⟨(hS R h H).1, fun hn => RoC.some (hS R h H).2.1 (by omega), fun x hx hn => RoC.some ((hS R h H).2.2 x hx) (by omega)⟩) fun ⟨hl, hs, hse⟩ => ?_
  refine tri_of_tree (ρ := [.i ep, .a a, .n n, .n c, .p S]) mixed Tryd.func13 tree_plRight ?_
  unfold t_plRight
  simp only [T.den, E.prop, E.den, RX.look, F1.app, F2.app, Uni.int_i, Uni.nat_n, Uni.bool_c, Uni.str_s, Uni.adr_a, Uni.val_v, Uni.hp_p, hden, cden, V.den, W.den, A.den, BR.den, SA.den, FV.den, capV, exs, exP, allP, Cur.app, List.map_cons, List.map_nil, List.cons_append, List.nil_append, List.drop_succ_cons, List.drop_zero, List.length_cons, List.length_nil, Nat.zero_add, Nat.reduceAdd, Int.neg_neg, Bool.not_not, List.append_nil, Nat.add_zero, List.getElem?_cons_zero, List.getElem?_cons_succ, Decidable.not_not, semW_eq, semW_load, semW_store, semW_storeC, ne_eq, Nat.reduceEqDiff, not_false_eq_true, semW_ixS]
  intro _
  have no : ∀ {K : HP}, ¬ (0 ≤ ep ∧ ep ≤ 2147483647 ∧ 1 ≤ (es.map (·.l)).length ∧ (es.map (·.l)).length ≤ 7 ∧ (∀ c ∈ es.map (·.l), c ≠ []) ∧ (∀ u ∈ (es.map (·.l)).flatten, 0 ≤ u ∧ u < 7) ∧ (es.map (·.l)).flatten.Nodup) → HP.ent K S → HP.ent K (HP.and (Value.bool false = .bool (rightB ⟨ep, es.map (·.l)⟩)) S) := fun h hk => hk.trans (.of fun R h' H => ⟨by unfold rightB; rw [decide_eq_false h], H⟩)
  refine ⟨fun h1 => no (fun h => by omega) (.refl _), fun h1 => ⟨fun h2 => no (fun h => by omega) (.refl _), fun h2 => ⟨fun h3 => no (fun h => by simp at h; omega) (.refl _), fun h3 => ⟨fun h4 => no (fun h => by simp at h; omega) (.refl _), fun h4 => ?_⟩⟩⟩⟩
  intro b
  refine ⟨fun _ i P => ∃ k : Nat, i = k ∧ k ≤ n ∧ (∀ x ∈ es.take k, x.l ≠ []) ∧ (∀ u ∈ ((es.take k).map (·.l)).flatten, 0 ≤ u ∧ u < 7) ∧ ((es.take k).map (·.l)).flatten.Nodup ∧ HP.ent P (Pl7 b (seenB ((es.take k).map (·.l)).flatten)), fun _ i _ => n - i.toNat,
    ⟨0, rfl, Nat.zero_le _, by simp, by simp, by simp, .of fun R h H => H⟩, ?_⟩
  rintro _ _ P ⟨k, rfl, hk, hne, hrg, hnd, hP⟩
  refine ⟨fun hlt => ⟨by omega, fun _ => ⟨hs (by omega), fun _ => ?_⟩⟩, fun hge => ?_⟩
  · have hkl : k < es.length := by omega
    have hx : es[k]? = some es[k] := List.getElem?_eq_getElem hkl
    have hxm := List.mem_of_getElem? hx
    have hpre : (es.take k).map (·.l) <+: es.map (·.l) := (List.take_prefix k es).map _
    have hfl : ((es.take (k + 1)).map (·.l)).flatten = ((es.take k).map (·.l)).flatten ++ es[k].l := take_flatten_succ es k hkl
    have hsub : ∀ u, u ∈ ((es.take (k + 1)).map (·.l)).flatten → u ∈ (es.map (·.l)).flatten := fun u hu => by
      obtain ⟨c, hc, hu⟩ := List.mem_flatten.1 hu
      exact List.mem_flatten.2 ⟨c, (((List.take_prefix (k + 1) es).map _).subset hc), hu⟩
    have hndp : (es.map (·.l)).flatten.Nodup → (((es.take k).map (·.l)).flatten ++ es[k].l).Nodup := fun h => by
      rw [← hfl]
      have e : es.map (·.l) = (es.take (k + 1)).map (·.l) ++ (es.drop (k + 1)).map (·.l) := by rw [← List.map_append, List.take_append_drop]
      rw [e, List.flatten_append] at h
      exact (List.nodup_append.1 h).1
    generalize es[k] = x at *
    refine ⟨x.a, x.l.length, x.c, ldC hS hx, fun h0 => no (fun h => h.2.2.2.2.1 x.l (List.mem_map.2 ⟨x, hxm, rfl⟩) (List.eq_nil_of_length_eq_zero (by omega))) (.refl _), fun h0 => ?_⟩
    have hxl := hb x hxm
    refine ⟨fun _ i P => ∃ j : Nat, i = j ∧ j ≤ x.l.length ∧ (∀ u ∈ ((es.take k).map (·.l)).flatten ++ x.l.take j, 0 ≤ u ∧ u < 7) ∧ (((es.take k).map (·.l)).flatten ++ x.l.take j).Nodup ∧ HP.ent P (Pl7 b (seenB (((es.take k).map (·.l)).flatten ++ x.l.take j))), fun _ i _ => x.l.length - i.toNat,
      ⟨0, rfl, Nat.zero_le _, by simpa using hrg, by simpa using hnd, by simpa using hP⟩, ?_⟩
    rintro _ _ P ⟨j, rfl, hj, hrg, hnd, hP⟩
    refine ⟨fun hlt => ⟨by omega, fun _ => ⟨hse x hxm (by omega), fun _ => ?_⟩⟩, fun hge => ?_⟩
    · have hjl : j < x.l.length := by omega
      have hu : x.l[j]? = some x.l[j] := List.getElem?_eq_getElem hjl
      have hum : x.l[j] ∈ (es.map (·.l)).flatten := hsub _ (by rw [hfl]; exact List.mem_append_right _ (List.getElem_mem hjl))
      have htk : x.l.take (j + 1) = x.l.take j ++ [x.l[j]] := List.take_succ_eq_append_getElem hjl
      generalize x.l[j] = u at *
      refine ⟨u, ldI (Rd.impR (RoC.rd 1 x.a x.l.length (x.l.map i64v)) fun R h H => (hS R h H).2.2 x hxm) hu, fun h5 => no (fun h => by have := h.2.2.2.2.2.1 u hum; omega) (.refl _), fun h5 => ⟨fun h6 => no (fun h => by have := h.2.2.2.2.2.1 u hum; omega) (.refl _), fun h6 => ?_⟩⟩
      obtain ⟨m, rfl⟩ : ∃ m : Nat, u = m := ⟨u.toNat, by omega⟩
      have hm : m < 7 := by omega
      refine ⟨.pointer (some ⟨b, 0 + m, none⟩), ixAt undA7 infBo szBo rfl hm, seenB (((es.take k).map (·.l)).flatten ++ x.l.take j) m, pl7_ld hP hm, fun h7 => ?_, fun h7 => ?_⟩
      · refine no (fun h => ?_) (.refl _)
        have h8 := hndp h.2.2.2.2.2.2
        have h9 : (m : Int) ∈ ((es.take k).map (·.l)).flatten ++ x.l.take j := by simpa [seenB] using h7
        have : x.l = (x.l.take j ++ [(m : Int)]) ++ x.l.drop (j + 1) := by rw [← htk, List.take_append_drop]
        rw [this, ← List.append_assoc, ← List.append_assoc] at h8
        have h10 := (List.nodup_append.1 h8).1
        exact (List.nodup_append.1 h10).2.2 _ h9 _ (by simp) rfl
      · have h7' : (m : Int) ∉ ((es.take k).map (·.l)).flatten ++ x.l.take j := by simpa [seenB] using h7
        refine ⟨.pointer (some ⟨b, 0 + m, none⟩), ixAt undA7 infBo szBo rfl hm, ?_⟩
        refine (pl7_st hP hm).weak (fun _ _ h => h) ?_
        rintro v R h ⟨rfl, H⟩
        refine ⟨_, rfl, ⟨inI64 _ (by omega) (by omega), fun _ => ⟨⟨j + 1, by omega, by omega, ?_, ?_, .of fun R h H => ?_⟩, by dsimp only; omega⟩⟩, H⟩
        · rw [htk, ← List.append_assoc]
          intro u hu
          rcases List.mem_append.1 hu with hu | hu
          · exact hrg u hu
          · obtain rfl := List.mem_singleton.1 hu; omega
        · rw [htk, ← List.append_assoc, List.nodup_append]
          exact ⟨hnd, by simp, fun a ha b hb e => by obtain rfl := List.mem_singleton.1 hb; exact h7' (e ▸ ha)⟩
        · have e : put7 (seenB (((es.take k).map (·.l)).flatten ++ x.l.take j)) m true = seenB (((es.take k).map (·.l)).flatten ++ x.l.take (j + 1)) := by
            funext q
            unfold put7 seenB
            rw [htk, ← List.append_assoc]
            by_cases e : q = m
            · subst e; simp
            · rw [if_neg e]
              have : (q : Int) ≠ m := by omega
              simp [this]
          rw [← e]; exact H
    · obtain rfl : j = x.l.length := by omega
      rw [List.take_length] at hrg hnd hP
      refine ⟨inI64 _ (by omega) (by omega), fun _ => ⟨⟨k + 1, by omega, by omega, ?_, by rw [hfl]; exact hrg, by rw [hfl]; exact hnd, by rw [hfl]; exact hP⟩, by dsimp only; omega⟩⟩
      intro y hy
      rw [List.take_add_one, hx] at hy
      rcases List.mem_append.1 hy with hy | hy
      · exact hne y hy
      · simp at hy; subst hy; intro e; rw [e] at h0; exact h0 rfl
  · have : k = es.length := by omega
    rw [this, List.take_length] at hne hrg hnd
    refine .of fun R h H => ⟨?_, H⟩
    unfold rightB
    rw [decide_eq_true]
    exact ⟨show 0 ≤ ep by omega, show ep ≤ 2147483647 by omega, by simp; omega, by simp; omega, fun c hc => by obtain ⟨x, hx, rfl⟩ := List.mem_map.1 hc; exact hne x hx, hrg, hnd⟩
end Go.Proofs.YtbmajijnjkicmaaDoor



namespace Go.Proofs.YtbmajijnjkicmaaDoor
set_option linter.unusedSimpArgs false
set_option linter.unusedVariables false
open Go.Proofs.YtbmajijnjkicmaaDoor RX
set_option maxRecDepth 100000

theorem OwC.at0' {e : TypeId} {size : Nat} {a : Option Addr} {n c : Nat} {xs : List Value} {R h : PH} (H : (OwC e size a n c xs).p R h) (k : Nat) (hk : k = 0) : a.map (·.add k) = a := by
  subst hk
  rcases H.2 with ⟨rfl, h0, _⟩ | ⟨g, _, rfl, _⟩ <;> rfl
theorem stI (a : Option Addr) (n c : Nat) (l : List Int) (hl : l.length = n) (k : Nat) (hk : k < n) (x : Int) :
    OTri Tryd.prog (storeS 3 (.pointer (a.map fun y => (y.add ((k : Int).toNat * 1)).add 0)) (.int .i64 x)) (OwI a n c l) (fun v => HP.and (v = .tuple #[]) (OwI a n c (l.set k x))) := by
  obtain ⟨i, hi, h1, h2, h3⟩ := info_parts infoInt
  have := store_ok hi 3 1 a n c (l.map i64v) (k * 1) 0 (.int .i64 x) [i64v x] rfl h2 (by simp) (fun v hv => by obtain rfl := List.mem_singleton.1 hv; rfl) (by simp; omega)
  refine this.weak (fun _ _ h => h) fun v R h ⟨e, H⟩ => ⟨e, ?_⟩
  have e2 : (l.set k x).map i64v = (l.map i64v).take (k * 1 + 0) ++ [i64v x] ++ (l.map i64v).drop (k * 1 + 0 + [i64v x].length) := by
    rw [List.map_set, List.set_eq_take_append_cons_drop, if_pos (by simp; omega)]
    simp
  unfold OwI
  rw [e2]; exact H
set_option maxHeartbeats 2000000 in
theorem iDelete_ok (Q : HP) (a : Option Addr) (n c : Nat) (zs : List Int) (hn : n ≤ 1000000) (fv : Value) (h1 : oneC fv = fv) (p : Int → Bool) (hf : ∀ x, VTri Tryd.prog fv #[.int .i64 x] Q fun v => HP.and (v = .bool (p x)) Q) :
    Tri Tryd.prog 58 #[.slice a n c, fv] (HP.sep (OwI a n c zs) Q)
      (fun v => HP.ex fun c' => HP.and (v = .slice a (zs.filter fun x => !p x).length c') (HP.sep (OwI a (zs.filter fun x => !p x).length c' (zs.filter fun x => !p x)) Q)) := by
  refine Tri.fact (φ := zs.length = n ∧ (n ≠ 0 → a.isSome = true) ∧ (a.map (·.add 0) = a) ∧ n ≤ c) (fun R h H => ⟨by simpa using OwC.len (HP.sep_left H), fun hn => OwC.some (HP.sep_left H) (Nat.pos_of_ne_zero hn), OwC.at0' (HP.sep_left H) 0 rfl, OwC.le (HP.sep_left H)⟩) fun ⟨hl, ha, ha0, hc⟩ => ?_
  have tr := tri_of_tree (ρ := [.a a, .n n, .n c, .p (OwI a n c zs), .v fv, .p Q]) mixed Tryd.func58 (t := t_iDelete) (post := (fun v => HP.ex fun c' => HP.and (v = .slice a (zs.filter fun x => !p x).length c') (HP.sep (OwI a (zs.filter fun x => !p x).length c' (zs.filter fun x => !p x)) Q))) tree_iDelete ?_
  · simpa [W.den, RX.A.den, SA.den, E.den, RX.look, h1, hden, cden] using tr
  unfold t_iDelete
  simp only [T.den, E.prop, E.den, RX.look, F1.app, F2.app, Uni.int_i, Uni.nat_n, Uni.bool_c, Uni.str_s, Uni.adr_a, Uni.val_v, Uni.hp_p, hden, cden, V.den, W.den, A.den, BR.den, SA.den, FV.den, capV, exs, exP, allP, Cur.app, List.map_cons, List.map_nil, List.cons_append, List.nil_append, List.drop_succ_cons, List.drop_zero, List.length_cons, List.length_nil, Nat.zero_add, Nat.reduceAdd, Int.neg_neg, Bool.not_not, List.append_nil, Nat.add_zero, List.getElem?_cons_zero, List.getElem?_cons_succ, Decidable.not_not, semW_eq, semW_load, semW_store, semW_storeC, ne_eq, Nat.reduceEqDiff, not_false_eq_true, h1]
  refine (iIndexF_ok (OwI a n c zs) Q a n c zs (RdL.ow _ _ _ _ _ _) hl (by omega) fv h1 p fun x _ => hf x).weak (fun _ _ h => h) ?_
  rintro v R h ⟨k0, ⟨rfl, hk0⟩, H⟩
  refine ⟨k0, OwI a n c zs, Q, rfl, ⟨fun h => .of fun R h' H => ?_, fun h => ?_⟩, H⟩
  · rcases hk0 with ⟨_, hall⟩ | ⟨j, hj, _⟩
    · have : (zs.filter fun x => !p x) = zs := List.filter_eq_self.2 fun x hx => by rw [hall x hx]; rfl
      rw [this, hl]
      exact ⟨c, rfl, H⟩
    · omega
  clear H
  obtain ⟨j0, rfl, hb, x0, hx0, hj⟩ := hk0.resolve_left (fun e => h e.1)
  have hj0 : j0 < n := by have := (List.getElem?_eq_some_iff.1 hx0).1; omega
  refine ⟨inI64 _ (by omega) (by omega), fun _ => ?_⟩
  have f0 : (zs.take j0).filter (fun x => !p x) = zs.take j0 := List.filter_eq_self.2 fun x hx => by
    obtain ⟨i, hi⟩ := List.mem_iff_getElem?.1 hx
    rw [List.getElem?_take] at hi
    split at hi
    · rw [hb i x (by assumption) hi]; rfl
    · cases hi
  have fstep : ∀ (j : Nat) (x : Int), zs[j]? = some x → (zs.take (j + 1)).filter (fun x => !p x) = (zs.take j).filter (fun x => !p x) ++ if p x then [] else [x] := fun j x hx => by
    have hlt := (List.getElem?_eq_some_iff.1 hx).1
    rw [List.take_succ_eq_append_getElem hlt, List.filter_append]
    rw [List.getElem?_eq_getElem hlt] at hx
    rw [Option.some.inj hx]
    congr 1
    by_cases e : p x = true <;> simp [e]
  refine ⟨fun i j P Q' => ∃ (i' j' : Nat) (es : List Int), i = i' ∧ j = j' ∧ i' < j' ∧ j' ≤ n ∧ es.length = n ∧ es.take i' = (zs.take j').filter (fun x => !p x) ∧ es.drop j' = zs.drop j' ∧ P = OwI a n c es ∧ Q = Q', fun _ j _ _ => n - j.toNat, ⟨j0, j0 + 1, zs, rfl, by omega, by omega, by omega, hl, ?_, rfl, rfl, rfl⟩, ?_⟩
  · rw [fstep j0 x0 hx0, f0, hj]; simp
  rintro _ _ _ _ ⟨i, j, es, rfl, rfl, hij, hjn, hel, ht, hd, rfl, rfl⟩
  refine ⟨fun hlt => ⟨by omega, fun _ => ⟨ha (by omega), fun _ => ?_⟩⟩, fun hge => ?_⟩
  · obtain ⟨x, hx⟩ : ∃ x, zs[j]? = some x := ⟨_, List.getElem?_eq_getElem (by omega)⟩
    have hex : es[j]? = some x := by
      have : (es.drop j)[0]? = (zs.drop j)[0]? := by rw [hd]
      simpa [hx] using this
    have hd' : es.drop (j + 1) = zs.drop (j + 1) := by
      have := congrArg (List.drop 1) hd
      rwa [List.drop_drop, List.drop_drop] at this
    refine ⟨x, ldI (OwC.rd _ _ _ _ _ _) hex, ?_⟩
    refine (hf x).weak (fun _ _ h => h) ?_
    rintro v R h ⟨rfl, H⟩
    refine ⟨p x, Q, rfl, ⟨fun h1 => ⟨by omega, fun _ => ⟨by omega, fun _ => ?_⟩⟩, fun h1 => ⟨inI64 _ (by omega) (by omega), fun _ => ⟨⟨i, j + 1, es, rfl, by omega, by omega, by omega, hel, ?_, hd', rfl, rfl⟩, by dsimp only; omega⟩⟩⟩, H⟩
    · have hok : p x = false := by simpa using h1
      refine (stI a n c es hel i (by omega) x).weak (fun _ _ h => h) ?_
      rintro v R h ⟨rfl, H⟩
      refine ⟨OwI a n c (es.set i x), rfl, ⟨inI64 _ (by omega) (by omega), fun _ => ⟨inI64 _ (by omega) (by omega), fun _ => ⟨⟨i + 1, j + 1, es.set i x, by omega, by omega, by omega, by omega, by rw [List.length_set]; exact hel, ?_, ?_, rfl, rfl⟩, by dsimp only; omega⟩⟩⟩, H⟩
      · rw [fstep j x hx, hok, ← ht]
        rw [List.take_succ_eq_append_getElem (by rw [List.length_set]; omega), List.take_set_of_le (Nat.le_refl _)]
        simp
      · rw [List.drop_set_of_lt (by omega), hd']
    · have hok : p x = true := by simpa using h1
      rw [fstep j x hx, hok, ht]; simp
  · obtain rfl : j = n := by omega
    have hfl : (zs.filter fun x => !p x).length = i := by
      have := congrArg List.length ht
      rw [List.take_of_length_le (by omega : zs.length ≤ j), List.length_take] at this
      omega
    have hft : (zs.filter fun x => !p x) = es.take i := by rw [ht, List.take_of_length_le (by omega : zs.length ≤ j)]
    obtain ⟨i2, hi2, hz1, hz2, hz3⟩ := info_parts infoInt
    have hfin : ∀ ys : List Value, ys.take (i * 1) = (es.map i64v).take (i * 1) → ∀ R h, (OwC 3 1 a j c ys).p R h → (OwI a i c (zs.filter fun x => !p x)).p R h := fun ys hys R h H => by
      have e1 : (zs.filter fun x => !p x).map i64v = ys.take (i * 1) := by
        rw [hys, hft, List.map_take, Nat.mul_one]
      obtain ⟨h1, h2⟩ := H
      refine ⟨by rw [List.length_map, hfl, Nat.mul_one], ?_⟩
      rcases h2 with ⟨q1, q2, q3⟩ | ⟨g, cur, q1, q2, q3, q4, q5, q6⟩
      · exact .inl ⟨q1, by omega, q3⟩
      · refine .inr ⟨g, cur, q1, q2, by omega, q4, q5, ?_⟩
        rw [e1, ← q6, List.take_take, Nat.min_eq_left (by omega)]
    have rest : ∀ (ys : List Value), ys.take (i * 1) = (es.map i64v).take (i * 1) → ∃ (a' : Option Addr) (n' c' : Nat), ORead Tryd.prog (sliceS 27 (.slice a j c) none (some (.int .i64 (i : Int))) none) (OwC 3 1 a j c ys) (.slice a' n' c') ∧
        HP.ent (HP.sep (OwC 3 1 a j c ys) Q) (HP.ex fun c3 => HP.and (Value.slice a' n' c' = .slice a (zs.filter fun x => !p x).length c3) (HP.sep (OwI a (zs.filter fun x => !p x).length c3 (zs.filter fun x => !p x)) Q)) := fun ys hys => by
      refine ⟨_, _, _, slice_ok undI hi2 _ a j c none (some i) none (Nat.zero_le _) (by simp; omega) (Nat.le_refl _) (fun h => by simp at h), .of fun R h H => ⟨c, ?_, HP.sep_mono H (fun y hy => ?_) fun _ h => h⟩⟩
      · simp [hfl, ha0]
      · rw [hfl]; exact hfin ys hys R _ hy
    have sl1 := slice_ok undI hi2 (OwI a j c es) a j c (some i) none none (by simp; omega) (by simp; omega) (Nat.le_refl _) (fun h => by simp at h)
    have hci : c ≠ i := by omega
    have sl2 : ORead Tryd.prog (sliceS 27 (.slice a j c) (some (.int .i64 (i : Int))) none none) (OwI a j c es) (.slice (a.map (·.add (i * 1))) (j - i) (c - i)) := by
      have e : (if (none : Option Nat).getD c = (some i).getD 0 then a else a.map (·.add ((some i).getD 0 * szT Tryd.prog 3))) = a.map (·.add (i * 1)) := by
        rw [szI, if_neg (by simpa using hci)]; rfl
      rw [e] at sl1
      exact sl1
    refine ⟨_, _, _, by rw [semW_slice]; exact sl2, ?_⟩
    rw [semW_clear]
    refine (clearG_ok undI hi2 hz1 (z := .int .i64 0) (size := 1) rfl (fun v hv => by obtain rfl := Array.mem_singleton.1 hv; rfl) _ a j c (es.map i64v) i (j - i) (c - i) (by omega)).weak (fun _ _ h => h) ?_
    rintro v R h ⟨ys, ⟨rfl, hys⟩, H⟩
    obtain ⟨a', n', c', h1, h2⟩ := rest ys hys
    refine ⟨_, rfl, ⟨a', n', c', by rw [semW_slice]; exact h1, ?_⟩, H⟩
    exact h2
end Go.Proofs.YtbmajijnjkicmaaDoor



namespace Go.Proofs.YtbmajijnjkicmaaDoor
set_option linter.unusedSimpArgs false
set_option linter.unusedVariables false
open Go.Proofs.YtbmajijnjkicmaaDoor RX
set_option maxRecDepth 100000

theorem fgoGo : Fgo Tryd.prog 57 := ⟨_, Tryd.func57, by kernel_rfl, by kernel_rfl⟩
theorem goes_v (bx : Nat) (ta : Option Addr) (tn tc : Nat) (tl : List Int) (D : HP) (hT : RdL D ta tn (tl.map i64v)) (hl : tl.length = tn) (hn : tn ≤ 1000000) (x : Int) :
    VTri Tryd.prog (.func (.func 57) #[] #[.pointer (some ⟨bx, 0, none⟩)]) #[.int .i64 x] (HP.sep (HP.one bx (.cells #[.slice ta tn tc] 27 (0, 0))) D)
      (fun v => HP.and (v = .bool (!decide (x ∈ tl))) (HP.sep (HP.one bx (.cells #[.slice ta tn tc] 27 (0, 0))) D)) := by
  refine .inl ⟨_, _, rfl, fgoGo, ?_⟩
  refine tri_of_tree (ρ := [.i x, .n bx, .a ta, .n tn, .n tc, .p D]) mixed Tryd.func57 tree_plGoes ?_
  unfold t_plGoes
  simp only [T.den, E.prop, E.den, RX.look, F1.app, F2.app, Uni.int_i, Uni.nat_n, Uni.bool_c, Uni.str_s, Uni.adr_a, Uni.val_v, Uni.hp_p, hden, cden, V.den, W.den, A.den, BR.den, SA.den, FV.den, capV, exs, exP, allP, Cur.app, List.map_cons, List.map_nil, List.cons_append, List.nil_append, List.drop_succ_cons, List.drop_zero, List.length_cons, List.length_nil, Nat.zero_add, Nat.reduceAdd, Int.neg_neg, Bool.not_not, List.append_nil, Nat.add_zero, List.getElem?_cons_zero, List.getElem?_cons_succ, Decidable.not_not, semW_eq, ne_eq, Nat.reduceEqDiff, not_false_eq_true]
  refine (iContains_ok D ta tn tc tl hT hl (by omega) x).weak (fun _ _ h => h) ?_
  rintro v R h ⟨rfl, H⟩
  refine ⟨_, rfl, .of fun R h H => ⟨by simp, H⟩, H⟩
theorem iDeleteR_ok (Q : HP) (a : Option Addr) (n c : Nat) (zs : List Int) (hn : n ≤ 1000000) (fv : Value) (h1 : oneC fv = fv) (p : Int → Bool) (hf : ∀ x, VTri Tryd.prog fv #[.int .i64 x] Q fun v => HP.and (v = .bool (p x)) Q) :
    Tri Tryd.prog 58 #[.slice a n c, fv] (HP.sep (OwI a n c zs) Q)
      (fun v => HP.ex fun c' => HP.and (v = .slice a (zs.filter fun x => !p x).length c') (HP.sep (RoI a (zs.filter fun x => !p x).length (zs.filter fun x => !p x)) Q)) :=
  (iDelete_ok Q a n c zs hn fv h1 p hf).post fun v => fun R h d ⟨c', e, H⟩ => by
    obtain ⟨R1, h1, q1, q2, q3, q4, H1⟩ := (HP.ent.sep (OwC.share _ _ _ _ _ _) Q) R h d H
    exact ⟨R1, h1, q1, q2, q3, q4, c', e, H1⟩
def stayS (tl c : List Int) : List Int := c.filter fun x => decide (x ∈ tl)
def nextP (p : PlP) (tl : List Int) : PlP × Int :=
  if rightB p = false ∨ p.ep = 2147483647 then (⟨0, []⟩, 1)
  else if (p.ch.map (stayS tl)).any (fun c => decide (c = [])) then (⟨0, []⟩, 5)
  else (⟨p.ep + 1, p.ch.map (stayS tl)⟩, 0)
theorem rightB_ep {p : PlP} (h : rightB p = true) : 0 ≤ p.ep ∧ p.ep ≤ 2147483647 := by
  unfold rightB at h
  have := of_decide_eq_true h
  exact ⟨this.1, this.2.1⟩
theorem pers_pl {l : List ChE} (hx : ∀ x ∈ l, x.l.length ≤ 1000000) : ∀ x ∈ l, x.l.length ≤ 1000000000 := fun x h => by have := hx x h; omega
set_option maxHeartbeats 1000000 in
theorem plNext_ok (S D : HP) (ep : Int) (a : Option Addr) (n c : Nat) (es : List ChE) (hS : ∀ R h, S.p R h → (Ls kCh a n es).p R h) (hb : ∀ x ∈ es, x.l.length ≤ 1000000)
    (ta : Option Addr) (tn tc : Nat) (tl : List Int) (hT : RdL D ta tn (tl.map i64v)) (htl : tl.length = tn) (htn : tn ≤ 1000000) :
    Tri Tryd.prog 41 #[.agg #[.int .i64 ep, .slice a n c], .slice ta tn tc] (HP.sep S D)
      (fun v => HP.ex fun a' => HP.ex fun c' => HP.ex fun es' : List ChE => HP.and (v = .tuple #[.agg #[.int .i64 (nextP ⟨ep, es.map (·.l)⟩ tl).1.ep, .slice a' es'.length c'], .int .i64 (nextP ⟨ep, es.map (·.l)⟩ tl).2] ∧ es'.map (·.l) = (nextP ⟨ep, es.map (·.l)⟩ tl).1.ch ∧ ∀ x ∈ es', x.l.length ≤ 1000000)
        (HP.sep (Ls kCh a' es'.length es') (HP.sep S D))) := by
  refine Tri.fact (φ := es.length = n ∧ (n ≠ 0 → a.isSome = true)) (fun R h H => ⟨(hS R _ (HP.sep_left H)).1, fun hn => RoC.some (hS R _ (HP.sep_left H)).2.1 (by omega)⟩) fun ⟨hl, hs⟩ => ?_
  refine tri_of_tree (ρ := [.i ep, .a a, .n n, .n c, .p S, .a ta, .n tn, .n tc, .p D]) mixed Tryd.func41 tree_plNext ?_
  unfold t_plNext
  simp only [T.den, E.prop, E.den, RX.look, F1.app, F2.app, Uni.int_i, Uni.nat_n, Uni.bool_c, Uni.str_s, Uni.adr_a, Uni.val_v, Uni.hp_p, hden, cden, V.den, W.den, A.den, BR.den, SA.den, FV.den, capV, exs, exP, allP, Cur.app, List.map_cons, List.map_nil, List.cons_append, List.nil_append, List.drop_succ_cons, List.drop_zero, List.length_cons, List.length_nil, Nat.zero_add, Nat.reduceAdd, Int.neg_neg, Bool.not_not, List.append_nil, Nat.add_zero, List.getElem?_cons_zero, List.getElem?_cons_succ, Decidable.not_not, semW_eq, semW_load, semW_append, ne_eq, Nat.reduceEqDiff, not_false_eq_true]
  have bad : ∀ {e : Int} {K : HP}, nextP ⟨ep, es.map (·.l)⟩ tl = (⟨0, []⟩, e) → HP.ent K (HP.sep S D) → HP.ent K (HP.ex fun a' => HP.ex fun c' => HP.ex fun es' : List ChE => HP.and (Value.tuple #[.agg #[.int .i64 0, .slice none 0 0], .int .i64 e] = .tuple #[.agg #[.int .i64 (nextP ⟨ep, es.map (·.l)⟩ tl).1.ep, .slice a' es'.length c'], .int .i64 (nextP ⟨ep, es.map (·.l)⟩ tl).2] ∧ es'.map (·.l) = (nextP ⟨ep, es.map (·.l)⟩ tl).1.ch ∧ ∀ x ∈ es', x.l.length ≤ 1000000)
        (HP.sep (Ls kCh a' es'.length es') (HP.sep S D))) := fun he hk => hk.trans (.of fun R h H => ⟨none, 0, [], ⟨by rw [he]; rfl, by rw [he]; rfl, fun x hx => by cases hx⟩, HP.sep_comm (HP.sep_mono (HP.sep_tt H) (fun _ h => h) fun y _ => ⟨rfl, RoC.nil _ _ _ _, fun x hx => by cases hx⟩)⟩)
  intro _ bx _
  refine (right_ok S ep a n c es hS (pers_pl hb)).weak (fun _ _ h => h) ?_
  rintro v R h ⟨rfl, H⟩
  refine ⟨_, rfl, ⟨fun h1 => bad (if_pos (.inl (by simpa using h1))) (.refl _), fun h1 => ?_⟩, H⟩
  have h1' : rightB ⟨ep, es.map (·.l)⟩ = true := by simpa using h1
  have hep := rightB_ep h1'
  refine ⟨fun h2 => bad (if_pos (.inr h2)) (.refl _), fun h2 => ⟨inI64 _ (by simp at hep; omega) (by simp at hep; omega), fun _ _ => ?_⟩⟩
  clear H
  have hgo : ¬ (rightB ⟨ep, es.map (·.l)⟩ = false ∨ ep = 2147483647) := by rw [h1']; simp; exact h2
  have hn7 : n ≤ 7 := by
    have h7 := (of_decide_eq_true h1').2.2.2.1
    simp at h7; omega
  refine ⟨fun _ i e na nn nc P => ∃ (k : Nat) (es' : List ChE), i = k ∧ k ≤ n ∧ e = ep + 1 ∧ nn = es'.length ∧ es'.map (·.l) = ((es.take k).map (·.l)).map (stayS tl) ∧ (∀ x ∈ es', x.l ≠ [] ∧ x.l.length ≤ 1000000) ∧ HP.ent P (PL pkC na nn nc es'), fun _ i _ _ _ _ _ => n - i.toNat,
    ⟨0, [], rfl, Nat.zero_le _, rfl, rfl, by simp, (fun x hx => by cases hx), .of fun R h _ => PL.nil' _ R h⟩, ?_⟩
  rintro _ _ _ na _ nc P ⟨k, es', rfl, hk, rfl, rfl, hm, hne, hP⟩
  refine ⟨fun hlt => ⟨by omega, fun _ => ⟨hs (by omega), fun _ => ?_⟩⟩, fun hge => ?_⟩
  · have hkl : k < es.length := by omega
    have hx : es[k]? = some es[k] := List.getElem?_eq_getElem hkl
    have hxm := List.mem_of_getElem? hx
    have htk : ((es.take (k + 1)).map (·.l)).map (stayS tl) = ((es.take k).map (·.l)).map (stayS tl) ++ [stayS tl es[k].l] := by
      rw [List.take_succ_eq_append_getElem hkl, List.map_append, List.map_append]; rfl
    generalize es[k] = x at *
    have hxl := hb x hxm
    refine ⟨x.a, x.l.length, x.c, ldC hS hx, ?_⟩
    refine (iClone_ok S x.a x.l.length x.c x.l ⟨Rd.impR (RoC.rd 1 x.a x.l.length (x.l.map i64v)) fun R h H => (hS R h H).2.2 x hxm, fun R h H e => (RdL.ro 1 x.a x.l.length (x.l.map i64v)).none R h ((hS R h H).2.2 x hxm) e⟩ rfl (by omega)).weak (fun _ _ h => h) ?_
    rintro v R h ⟨a1, c1, rfl, H⟩
    refine ⟨a1, _, c1, _, rfl, ?_, H⟩
    clear H
    refine (iDeleteR_ok (HP.sep (HP.one bx (.cells #[.slice ta tn tc] 27 (0, 0))) D) a1 x.l.length c1 x.l hxl _ rfl (fun y => !decide (y ∈ tl)) (goes_v bx ta tn tc tl D hT htl htn)).weak (fun _ _ h => h) ?_
    rintro v R h ⟨c2, rfl, H⟩
    have hst : (x.l.filter fun y => !!decide (y ∈ tl)) = stayS tl x.l := by unfold stayS; congr 1; funext y; simp
    rw [hst] at H ⊢
    refine ⟨a1, (stayS tl x.l).length, c2, RoI a1 (stayS tl x.l).length (stayS tl x.l), HP.tt, rfl, ⟨fun h0 => ?_, fun h0 y => ?_⟩, HP.sep_mono H (fun _ h => h) fun _ h => HP.tt_sep h⟩
    · refine bad ?_ (.refl _)
      unfold nextP
      rw [if_neg hgo, if_pos]
      rw [List.any_eq_true]
      exact ⟨stayS tl x.l, List.mem_map.2 ⟨x.l, List.mem_map.2 ⟨x, hxm, rfl⟩, rfl⟩, decide_eq_true (List.eq_nil_of_length_eq_zero (by omega))⟩
    · obtain ⟨i, hi, z1, z2, z3⟩ := info_parts infoIs
      have hst2 : (stayS tl x.l).length ≤ x.l.length := List.length_filter_le _ _
      have hes' : es'.length ≤ n := by
        have := congrArg List.length hm
        simp at this; omega
      refine (PL.appK (K := pkC) 22 22 undIs hi z1 (by rw [z2]; rfl) z2 (by rw [z3]; decide) na es'.length nc es' y ⟨a1, c2, stayS tl x.l⟩ (RoI a1 (stayS tl x.l).length (stayS tl x.l)) (by omega)).conseq (K := HP.tt) ?_ fun v => .of fun R h H => ?_
      · exact (hP.sep _).trans (.of fun R h H => HP.sep_tt (HP.sep_mono H (fun _ h => h) fun z hz => HP.sep_mono hz (fun _ h => h) fun _ h => RoC.join h h))
      · obtain ⟨a', c', rfl, H2⟩ := HP.sep_left H
        refine ⟨a', es'.length + 1, c', PL pkC a' (es'.length + 1) c' (es' ++ [⟨a1, c2, stayS tl x.l⟩]), rfl, ⟨inI64 _ (by omega) (by omega), fun _ => ⟨⟨k + 1, es' ++ [⟨a1, c2, stayS tl x.l⟩], by omega, by omega, rfl, by simp, by rw [htk, List.map_append, hm]; rfl, fun z hz => ?_, .refl _⟩, by dsimp only; omega⟩⟩, ?_⟩
        · rcases List.mem_append.1 hz with hz | hz
          · exact hne z hz
          · obtain rfl := List.mem_singleton.1 hz
            exact ⟨fun (e : stayS tl x.l = []) => by rw [e] at h0; exact h0 rfl, by show (stayS tl x.l).length ≤ 1000000; omega⟩
        · exact H2
  · have hke : k = es.length := by omega
    rw [hke, List.take_length] at hm
    have e : nextP ⟨ep, es.map (·.l)⟩ tl = (⟨ep + 1, (es.map (·.l)).map (stayS tl)⟩, 0) := by
      unfold nextP
      rw [if_neg hgo, if_neg]
      rw [List.any_eq_true]
      rintro ⟨c, hc, h0⟩
      rw [← hm] at hc
      obtain ⟨z, hz, rfl⟩ := List.mem_map.1 hc
      exact (hne z hz).1 (of_decide_eq_true h0)
    refine (HP.ent.sep2 (.refl _) (HP.ent.sep2 (.refl _) (hP.trans (PL.share _ _ _ _)))).trans (.of fun R h H => ⟨na, nc, es', ⟨by rw [e], by rw [e]; exact hm, fun x hx => (hne x hx).2⟩, HP.pick [_, _, _] [2, 0, 1] (by decide) rfl H⟩)
end Go.Proofs.YtbmajijnjkicmaaDoor



namespace Go.Proofs.YtbmajijnjkicmaaDoor
set_option linter.unusedSimpArgs false
set_option linter.unusedVariables false
open Go.Proofs.YtbmajijnjkicmaaDoor RX
set_option maxRecDepth 100000

def pkOw : PK ChE := ⟨27, 1, by decide, kCh.vals, kCh.len, kCh_one, fun x => OwI x.a x.l.length x.c x.l⟩
theorem PL.shareOw (a : Option Addr) (n c : Nat) (l : List ChE) : HP.ent (PL pkOw a n c l) (Ls kCh a n l) := by
  have key : ∀ l : List ChE, HP.ent (sepN (l.map pkOw.rep)) (sepN (l.map kCh.hp)) := fun l => by
    induction l with
    | nil => exact .refl _
    | cons x r ih => exact (HP.ent.of fun R h H => sepN_cons.1 H).trans (((OwC.share _ _ _ _ _ _).sep2 ih).trans (.of fun R h H => sepN_cons.2 H))
  refine HP.ent.trans (fun R h d H => ?_) (PL.share (K := kCh) (e := 27) (one := kCh_one) a n c l)
  obtain ⟨R1, h1, q1, q2, q3, q4, H1⟩ := (HP.ent.sep2 (.refl (OwC 27 1 a n c (l.flatMap kCh.vals))) (key l)) R h d H.2
  exact ⟨R1, h1, q1, q2, q3, q4, H.1, H1⟩
def firstC (u c : Nat) : List (List Int) := (List.range c).map fun i => ((List.range u).filter fun n => decide (n % c = i)).map fun (n : Nat) => (n : Int)
def firstS (u c : Int) : PlP × Int := if 1 ≤ u ∧ u ≤ 7 ∧ 1 ≤ c ∧ c ≤ u then (⟨0, firstC u.toNat c.toNat⟩, 0) else (⟨0, []⟩, 1)
theorem pl_made (x n : Nat) {R h : PH} (H : (OwC 27 1 (some ⟨x, 0, none⟩) n n (List.replicate n (.slice none 0 0))).p R h) : (PL pkOw (some ⟨x, 0, none⟩) n n (List.replicate n ⟨none, 0, []⟩)).p R h := by
  have e : (List.replicate n (⟨none, 0, []⟩ : ChE)).flatMap kCh.vals = List.replicate n (.slice none 0 0) := by
    induction n with
    | zero => rfl
    | succ n ih => simp only [List.replicate_succ, List.flatMap_cons] at ih ⊢; rw [show List.flatMap kCh.vals (List.replicate n ⟨none, 0, []⟩) = List.replicate n (.slice none 0 0) from by
        clear ih H
        induction n with
        | zero => rfl
        | succ n ih => rw [List.replicate_succ, List.flatMap_cons, ih, List.replicate_succ]; rfl]; rfl
  have key : ∀ n (h : PH), (sepN ((List.replicate n (⟨none, 0, []⟩ : ChE)).map pkOw.rep)).p R h := fun n => by
    induction n with
    | zero => exact fun _ => trivial
    | succ n ih => exact fun h => sepN_cons.2 ⟨PH.none', h, PH.none_dj _, PH.none_le _, PH.le.refl _, OwC.nil _ _ _ _, ih h⟩
  refine ⟨by simp, HP.sep_comm ⟨PH.none', h, PH.none_dj _, PH.none_le _, PH.le.refl _, key n _, ?_⟩⟩
  show (OwC _ _ _ _ _ _).p R h
  unfold pkOw
  dsimp only
  rw [e]; exact H
theorem firstC_len (u c : Nat) : (firstC u c).length = c := by simp [firstC]
theorem firstC_zero (c : Nat) : firstC 0 c = List.replicate c [] := by
  refine List.ext_getElem (by simp [firstC]) fun i h1 h2 => ?_
  simp [firstC]
theorem firstC_succ (u c : Nat) (hc : 0 < c) : firstC (u + 1) c = (firstC u c).set (u % c) (((firstC u c).getD (u % c) []) ++ [(u : Int)]) := by
  refine List.ext_getElem? fun i => ?_
  rw [List.getElem?_set]
  have hu := Nat.mod_lt u hc
  by_cases hi : i < c
  · have g : ∀ v, (firstC v c)[i]? = some (((List.range v).filter fun n => decide (n % c = i)).map fun (n : Nat) => (n : Int)) := fun v => by
      unfold firstC; rw [List.getElem?_map, List.getElem?_range hi]; rfl
    rw [g, List.range_succ, List.filter_append, List.map_append]
    by_cases e : u % c = i
    · subst e
      rw [if_pos rfl, if_pos (by rw [firstC_len]; exact hu)]
      simp only [List.getD_eq_getElem?_getD, g u, Option.getD_some]
      simp
    · rw [if_neg e, g]
      simp [e]
  · rw [List.getElem?_eq_none (by rw [firstC_len]; omega)]
    by_cases e : u % c = i
    · omega
    · rw [if_neg e, List.getElem?_eq_none (by rw [firstC_len]; omega)]
set_option maxHeartbeats 1000000 in
theorem first_ok (u c : Int) : Tri Tryd.prog 9 #[.int .i64 u, .int .i64 c] HP.tt
    (fun v => HP.ex fun a' => HP.ex fun c' => HP.ex fun es' : List ChE => HP.and (v = .tuple #[.agg #[.int .i64 (firstS u c).1.ep, .slice a' es'.length c'], .int .i64 (firstS u c).2] ∧ es'.map (·.l) = (firstS u c).1.ch ∧ ∀ x ∈ es', x.l.length ≤ 1000000) (Ls kCh a' es'.length es')) := by
  refine tri_of_tree (ρ := [.i u, .i c]) mixed Tryd.func9 tree_plFirst ?_
  unfold t_plFirst
  simp only [T.den, E.prop, E.den, RX.look, F1.app, F2.app, Uni.int_i, Uni.nat_n, Uni.bool_c, Uni.str_s, Uni.adr_a, Uni.val_v, Uni.hp_p, hden, cden, V.den, W.den, A.den, BR.den, SA.den, FV.den, capV, exs, exP, allP, Cur.app, List.map_cons, List.map_nil, List.cons_append, List.nil_append, List.drop_succ_cons, List.drop_zero, List.length_cons, List.length_nil, Nat.zero_add, Nat.reduceAdd, Int.neg_neg, Bool.not_not, List.append_nil, Nat.add_zero, List.getElem?_cons_zero, List.getElem?_cons_succ, Decidable.not_not, semW_eq, semW_load, semW_store, semW_storeC, semW_append, ne_eq, Nat.reduceEqDiff, not_false_eq_true, semW_mk]
  have bad : ∀ {K : HP}, ¬ (1 ≤ u ∧ u ≤ 7 ∧ 1 ≤ c ∧ c ≤ u) → HP.ent K (HP.ex fun a' => HP.ex fun c' => HP.ex fun es' : List ChE => HP.and (Value.tuple #[.agg #[.int .i64 0, .slice none 0 0], .int .i64 1] = .tuple #[.agg #[.int .i64 (firstS u c).1.ep, .slice a' es'.length c'], .int .i64 (firstS u c).2] ∧ es'.map (·.l) = (firstS u c).1.ch ∧ ∀ x ∈ es', x.l.length ≤ 1000000) (Ls kCh a' es'.length es')) := fun h => .of fun R h' H => ⟨none, 0, [], ⟨by rw [show firstS u c = _ from if_neg h]; rfl, by rw [show firstS u c = _ from if_neg h]; rfl, fun x hx => by cases hx⟩, rfl, RoC.nil _ _ _ _, fun x hx => by cases hx⟩
  intro _
  refine ⟨fun h => bad (by omega), fun h1 => ⟨fun h => bad (by omega), fun h2 => ⟨fun h => bad (by omega), fun h3 => ⟨fun h => bad (by omega), fun h4 => ?_⟩⟩⟩⟩
  obtain ⟨m, rfl⟩ : ∃ m : Nat, c = m := ⟨c.toNat, by omega⟩
  obtain ⟨q, rfl⟩ : ∃ q : Nat, u = q := ⟨u.toNat, by omega⟩
  have hm : 0 < m := by omega
  obtain ⟨i, hi, z1, z2, z3⟩ := info_parts infoIs
  refine (mk_ok undIs hi z1 rfl z2 m (by rw [z3]; omega) (by unfold maxLen; omega) HP.tt).weak (fun _ _ h => h) ?_
  rintro v R h ⟨x, rfl, H⟩
  refine ⟨some ⟨x, 0, none⟩, m, m, PL pkOw (some ⟨x, 0, none⟩) m m (List.replicate m ⟨none, 0, []⟩), rfl, fun _ => ?_, pl_made x m (HP.sep_left H)⟩
  refine ⟨fun i P => ∃ (k : Nat) (es : List ChE), i = k ∧ k ≤ q ∧ es.map (·.l) = firstC k m ∧ HP.ent P (PL pkOw (some ⟨x, 0, none⟩) m m es), fun i _ => q - i.toNat, ⟨0, _, rfl, Nat.zero_le _, by rw [firstC_zero]; simp, .refl _⟩, ?_⟩
  rintro _ P ⟨k, es, rfl, hk, he, hP⟩
  have hel : es.length = m := by
    have := congrArg List.length he
    rw [firstC_len] at this; simpa using this
  have hsm : ∀ y ∈ es, y.l.length ≤ 7 := fun y hy => by
    have : y.l ∈ firstC k m := by rw [← he]; exact List.mem_map.2 ⟨y, hy, rfl⟩
    obtain ⟨j, _, e⟩ := List.mem_map.1 this
    rw [← e, List.length_map]
    have := List.length_filter_le (fun n => decide (n % m = j)) (List.range k)
    rw [List.length_range] at this
    omega
  refine ⟨fun hlt => ⟨by omega, fun _ => ?_⟩, fun hge => ?_⟩
  · have htm : ((k : Int).tmod (m : Int)) = ((k % m : Nat) : Int) := Int.ofNat_tmod _ _
    have hkm := Nat.mod_lt k hm
    rw [htm]
    have hy : es[k % m]? = some es[k % m] := List.getElem?_eq_getElem (by omega)
    generalize hye : es[k % m] = y at hy
    have hyl := hsm y (List.mem_of_getElem? hy)
    refine ⟨by omega, fun _ => ⟨by omega, fun _ => ⟨rfl, fun _ => ?_⟩⟩⟩
    refine ⟨y.a, y.l.length, y.c, ORead.ent hP ?_, fun b => ?_⟩
    · refine load1_ok undI aggIs szIs (PL.rd (K := pkOw) _ m m es) (k := ((k % m : Nat) : Int).toNat * 1) (off := 0) ?_
      have := flat_getL kCh.vals 1 kCh.len es (k % m) 0 y hy (by decide)
      rw [Int.toNat_natCast, Nat.add_zero]
      exact this
    · refine (appendI y.a y.l.length y.c y.l (HP.one b (.cells #[.int .i64 (k : Int)] 3 (0, 0))) ⟨b, 0, none⟩ 1 1 [(k : Int)] (one_rd b #[.int .i64 (k : Int)] 3) rfl (by omega)).conseq (K := PRest pkOw (some ⟨x, 0, none⟩) m m es (k % m)) ((hP.sep _).trans (.of fun R h H => ?_)) fun v => .of fun R h H => ?_
      · have H1 := HP.sep_assoc (HP.sep_mono H (fun z hz => PL.focus (K := pkOw) hy hz) fun _ h => h)
        exact HP.sep_assoc' (HP.sep_mono H1 (fun _ h => h) fun z hz => HP.sep_comm hz)
      · obtain ⟨h1, h2, dd, l1, l2, ⟨a', c', rfl, H1⟩, H2⟩ := H
        have H3 := HP.pick [OwI a' (y.l.length + 1) c' (y.l ++ [(k : Int)]), HP.one b (.cells #[.int .i64 (k : Int)] 3 (0, 0)), PRest pkOw (some ⟨x, 0, none⟩) m m es (k % m)] [0, 2, 1] (by decide) rfl (HP.sep_assoc ⟨h1, h2, dd, l1, l2, H1, H2⟩)
        refine ⟨a', y.l.length + 1, c', OwI a' (y.l.length + 1) c' (y.l ++ [(k : Int)]), PRest pkOw (some ⟨x, 0, none⟩) m m es (k % m), rfl, ?_, H3⟩
        refine (PRest.set (K := pkOw) hi z2 (k := k % m) (by omega) ⟨a', c', y.l ++ [(k : Int)]⟩ (v := .slice a' (y.l.length + 1) c') (by simp [Value.cells, pkOw, kCh]) HP.tt).conseq (K := HP.tt) (.of fun R h H => HP.sep_tt (HP.sep_mono H (fun _ h => h) fun z hz => HP.sep_tt (by simpa [pkOw] using hz))) fun v => .of fun R h H => ?_
        obtain ⟨rfl, H9⟩ := HP.sep_left H
        refine ⟨_, rfl, ⟨inI64 _ (by omega) (by omega), fun _ => ⟨⟨k + 1, es.set (k % m) ⟨a', c', y.l ++ [(k : Int)]⟩, by omega, by omega, ?_, .refl _⟩, by dsimp only; omega⟩⟩, HP.sep_left H9⟩
        rw [firstC_succ k m hm, ← he, List.map_set]
        congr 1
        rw [List.getD_eq_getElem?_getD, List.getElem?_map, hy]; rfl
  · have hkq : k = q := by omega
    subst hkq
    have e : firstS (k : Int) (m : Int) = (⟨0, firstC k m⟩, 0) := by
      unfold firstS
      rw [if_pos (by omega)]; simp
    refine (hP.trans (PL.shareOw _ _ _ _)).trans (.of fun R h H => ⟨_, m, es, ⟨by rw [e, hel], by rw [e]; exact he, fun y hy => by have := hsm y hy; omega⟩, by rw [hel]; exact H⟩)
theorem sameI_ok (a : Option Addr) (n c : Nat) (la : List Int) (b : Option Addr) (m d : Nat) (lb : List Int) (Sa Sb : HP) (hA : RdL Sa a n (la.map i64v)) (hB : RdL Sb b m (lb.map i64v)) (hla : la.length = n) (hlb : lb.length = m) (hn : n ≤ 1000000000) :
    Tri Tryd.prog 10 #[.slice a n c, .slice b m d] (HP.sep Sa Sb) (fun v => HP.and (v = .bool (decide (la = lb))) (HP.sep Sa Sb)) := by
  refine Tri.fact (φ := (a = none → n = 0) ∧ (b = none → m = 0)) (fun R h H => ⟨hA.none R _ (HP.sep_left H), hB.none R _ (HP.sep_right H)⟩) fun ⟨ha, hb⟩ => ?_
  have ha' : n ≠ 0 → a.isSome = true := fun h => Option.isSome_iff_ne_none.2 fun e => h (ha e)
  have hb' : m ≠ 0 → b.isSome = true := fun h => Option.isSome_iff_ne_none.2 fun e => h (hb e)
  refine tri_of_tree (ρ := [.a a, .n n, .n c, .p Sa, .a b, .n m, .n d, .p Sb]) mixed Tryd.func10 tree_sameI11 ?_
  unfold t_sameI11
  simp only [T.den, E.prop, E.den, RX.look, F1.app, F2.app, Uni.int_i, Uni.nat_n, Uni.bool_c, Uni.str_s, Uni.adr_a, Uni.val_v, Uni.hp_p, hden, cden, V.den, W.den, A.den, BR.den, SA.den, FV.den, capV, exs, exP, allP, Cur.app, List.map_cons, List.map_nil, List.cons_append, List.nil_append, List.drop_succ_cons, List.drop_zero, List.length_cons, List.length_nil, Nat.zero_add, Nat.reduceAdd, Int.neg_neg, Bool.not_not, List.append_nil, Nat.add_zero, List.getElem?_cons_zero, List.getElem?_cons_succ, Decidable.not_not, semW_eq, semW_load, ne_eq, Nat.reduceEqDiff, not_false_eq_true]
  refine ⟨fun h => .of fun R h' H => ⟨?_, H⟩, fun h => ?_⟩
  · rw [decide_eq_false]
    intro e; subst e; omega
  have hnm : n = m := by omega
  subst hnm
  refine ⟨fun _ i => ∃ k : Nat, i = k ∧ k ≤ n ∧ la.take k = lb.take k, fun _ i => n - i.toNat, ⟨0, rfl, Nat.zero_le _, rfl⟩, ?_⟩
  rintro x _ ⟨k, rfl, hk, hpre⟩
  refine ⟨fun hlt => ⟨by omega, fun _ => ⟨ha' (by omega), fun _ => ?_⟩⟩, fun hge => .of fun R h' H => ⟨?_, H⟩⟩
  · have hx : la[k]? = some la[k] := List.getElem?_eq_getElem (by omega)
    have hy : lb[k]? = some lb[k] := List.getElem?_eq_getElem (by omega)
    refine ⟨la[k], ldI hA.rd hx, by omega, fun _ => ⟨hb' (by omega), fun _ => ⟨lb[k], ldI hB.rd hy, fun h1 => .of fun R h' H => ⟨?_, H⟩, fun h1 => ⟨inI64 _ (by omega) (by omega), fun _ => ⟨⟨k + 1, by omega, by omega, ?_⟩, by dsimp only; omega⟩⟩⟩⟩⟩
    · rw [decide_eq_false]
      intro e; subst e; exact h1 rfl
    · rw [List.take_succ_eq_append_getElem (by omega), List.take_succ_eq_append_getElem (by omega), hpre]
      rw [h1]
  · have hke : k = n := by omega
    subst hke
    rw [List.take_of_length_le (by omega), List.take_of_length_le (by omega)] at hpre
    rw [decide_eq_true hpre]
theorem RdL.of {S : HP} {a : Option Addr} {n : Nat} {l : List Int} (h : ∀ R x, S.p R x → (RoI a n l).p R x) : RdL S a n (l.map i64v) :=
  ⟨Rd.impR (RoC.rd 1 a n (l.map i64v)) h, fun R x H e => (RdL.ro 1 a n (l.map i64v)).none R x (h R x H) e⟩
end Go.Proofs.YtbmajijnjkicmaaDoor

