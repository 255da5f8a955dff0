/- Texts of this claim, joined. No condition. -/
import Derived.Test.YtdieogcemmnaaaaGreatDoorRJJ1
import Derived.Test.YtdieogcemmnaaaaGreatDoorRJJ2
import Derived.Test.YtdieogcemmnaaaaGreatDoorRJJ4
import Derived.KernelRfl
import Derived.Laws.StructEq
import Derived.Sort.Walk0
set_option linter.unusedSimpArgs false
set_option linter.unusedVariables false

namespace Go.Proofs.YtdieogcemmnaaaaGreatDoor
set_option linter.unusedSimpArgs false
set_option linter.unusedVariables false
open Go.Proofs.YtdieogcemmnaaaaGreatDoor RX
set_option maxRecDepth 100000


def CM (b : Nat) (f : Int → Int) : HP := HP.ex fun l : AL Int => HP.ex fun c : Nat => HP.and (∀ k, (alFind k l).getD (.int .i64 0) = .int .i64 (f k)) (HP.one b (mapObj i64v l c))
theorem undII : Tryz.prog.underlying 252 = some (.map 3 3) := by kernel_rfl
theorem CM.init {b : Nat} {R h : PH} (H : (HP.one b (.map #[] 0)).p R h) : (CM b fun _ => 0).p R h := ⟨[], 0, fun _ => rfl, H⟩
theorem cm_look (b : Nat) (f : Int → Int) (k : Int) : ORead Tryz.prog (lookS 252 (.map (some b)) (.int .i64 k) false) (CM b f) (.int .i64 (f k)) := fun w R h F s ⟨l, c, hk, hh⟩ => by
  obtain ⟨i, hi, z1, _, _⟩ := info_parts infoInt
  have := look_ok (c := c) (l := l) kInt' undII hi z1 k false (r := b) (A := HP.one b (mapObj i64v l c)) (fun R h H => H) w R h F s hh
  rw [if_neg (by simp), hk k] at this
  exact this
theorem cm_upd (b : Nat) (f : Int → Int) (k v : Int) : OTri Tryz.prog (updS 252 (.map (some b)) (.int .i64 k) (.int .i64 v)) (CM b f) (fun x => HP.and (x = .tuple #[]) (CM b fun q => if q = k then v else f q)) := by
  refine (OTri.exI fun l => OTri.exI fun c => OTri.pureI fun hk => ?_)
  refine (upd_ok (c := c) (l := l) kInt' undII k (.int .i64 v) (r := b)).weak (fun _ _ h => h) ?_
  rintro x R h ⟨rfl, H⟩
  refine ⟨rfl, _, _, fun q => ?_, H⟩
  rw [alFind_put]
  by_cases e : q = k
  · rw [if_pos e]; simp [e]
  · rw [if_neg e]; simp only [if_neg e]; exact hk q

def cntL (L : List (Nm × Nat)) (q : Int) : Int := ((L.countP fun e => decide ((e.2 : Int) = q) : Nat) : Int)
def wl1 (T1 : List Nd) (n : Nd) : Nd := if n.kind = 2 ∧ cntL (T1.flatMap (·.ents)) n.num % 65536 = n.links then { n with links := cntL (T1.flatMap (·.ents)) n.num } else n
def wlS (T1 : List Nd) : List Nd := T1.map (wl1 T1)
theorem cntL_snoc (L : List (Nm × Nat)) (e : Nm × Nat) : cntL (L ++ [e]) = fun q => if q = (e.2 : Int) then cntL L e.2 + 1 else cntL L q := by
  funext q
  unfold cntL
  rw [List.countP_append]
  by_cases h : q = (e.2 : Int)
  · subst h; simp
  · rw [if_neg h]; simp [Ne.symm h]
theorem cntL_le (L : List (Nm × Nat)) (q : Int) : 0 ≤ cntL L q ∧ cntL L q ≤ L.length := by
  unfold cntL
  have := List.countP_le_length (p := fun e : Nm × Nat => decide ((e.2 : Int) = q)) (l := L)
  omega

theorem ldNodeO {a : Option Addr} {n c k : Nat} {es : List NodeE} {x : NodeE} (hk : es[k]? = some x) : ORead Tryz.prog (loadS 43 (.pointer (a.map fun y => (y.add (k * 5)).add 0))) (OwN a n c es) (.agg (nodeVs x).toArray) := fun w R h F s H => by
  refine loadN_ok (vs := nodeVs x) Tryz.underlying43 aggNo (OwC.rd 43 5 a n c (es.flatMap nodeVs)) (k := k * 5) (off := 0) szNo (Nat.succ_pos 4) (fun j v hj => ?_) w R h F s H.1
  have hlt : j < 5 := by have := (List.getElem?_eq_some_iff.1 hj).1; exact this
  rw [Nat.add_zero, flat_getL nodeVs 5 (fun _ => rfl) es k j x hk hlt]
  exact hj
theorem ldEntO {a : Option Addr} {n c k : Nat} {es : List NodeE} {x : NodeE} (hx : x ∈ es) {e : Nm × Nat} (hk : x.nd.ents[k]? = some e) : ORead Tryz.prog (loadS 140 (.pointer (x.ea.map fun y => (y.add (k * 2)).add 0))) (OwN a n c es) (.agg #[sE e.1, .int .i64 e.2]) := fun w R h F s H =>
  Ls.load (K := kEnt) Tryz.underlying140 aggEn szEn hk w R h F s (H.2 x hx).2
def setLk (x : NodeE) (v : Int) : NodeE := { x with nd := { x.nd with links := v } }
theorem set_same {α : Type} : ∀ (l : List α) (k : Nat) (x : α), l[k]? = some x → l.set k x = l
  | [], _, _, h => by cases h
  | y :: r, 0, x, h => by simp at h; subst h; rfl
  | y :: r, k + 1, x, h => by rw [List.set_cons_succ, set_same r k x (by simpa using h)]
theorem flat_lk (v : Int) (x : NodeE) : ∀ (es : List NodeE) (k : Nat), es[k]? = some x → (es.flatMap nodeVs).take (k * 5 + 2) ++ [.int .i64 v] ++ (es.flatMap nodeVs).drop (k * 5 + 2 + 1) = (es.set k (setLk x v)).flatMap nodeVs
  | [], _, h => by cases h
  | y :: r, 0, h => by
    simp at h; subst h
    simp [nodeVs, setLk]
  | y :: r, k + 1, h => by
    have ih := flat_lk v x r k (by simpa using h)
    have e1 : (k + 1) * 5 + 2 = (k * 5 + 2) + 1 + 1 + 1 + 1 + 1 := by omega
    rw [e1]
    simp only [List.flatMap_cons, List.set_cons_succ, nodeVs, List.cons_append, List.nil_append, List.take_succ_cons, List.drop_succ_cons]
    rw [← ih]
theorem stO {a : Option Addr} {n c k : Nat} {es : List NodeE} {x : NodeE} (hk : es[k]? = some x) (hn : es.length = n) (v : Int) : OTri Tryz.prog (storeS 3 (.pointer (a.map fun y => (y.add (k * 5)).add 2)) (.int .i64 v)) (OwN a n c es)
    (fun r => HP.and (r = .tuple #[]) (OwN a n c (es.set k (setLk x v)))) := by
  obtain ⟨i, hi, z1, z2, _⟩ := info_parts infoInt
  have hlt := (List.getElem?_eq_some_iff.1 hk).1
  have := store_ok hi 43 5 a n c (es.flatMap nodeVs) (k * 5) 2 (.int .i64 v) [.int .i64 v] rfl (by rw [z2]; rfl) (Nat.succ_pos 0) (fun u hu => by simp at hu; subst hu; rfl) (by simp; omega)
  refine this.conseq (K := AllN es) (.of fun R h H => ⟨h, PH.none', PH.dj_none _, PH.le.refl _, PH.none_le _, H.1, fun z hz => nodeHp_pers _ _ _ _ (H.2 z hz)⟩) fun r => .of fun R h H => ?_
  have hK := HP.sep_right H
  obtain ⟨rfl, H1⟩ := HP.sep_left H
  refine ⟨rfl, ?_, fun z hz => ?_⟩
  · rw [← flat_lk v x es k hk]; exact H1
  · rcases List.mem_or_eq_of_mem_set hz with h | h
    · exact hK z h
    · subst h
      have := hK x (List.mem_of_getElem? hk)
      exact this
def updN (T1 : List Nd) (x : NodeE) : NodeE := { x with nd := wl1 T1 x.nd }
theorem wholeLinks_ok (a : Option Addr) (c : Nat) (es : List NodeE) (hT : ((es.map (·.nd)).flatMap (·.ents)).length ≤ 1000000000000) (hn : es.length ≤ 1000000000) :
    Tri Tryz.prog 90 #[.slice a es.length c] (OwN a es.length c es) (fun v => HP.and (v = .tuple #[]) (HP.ex fun es' : List NodeE => HP.and (es'.map (·.nd) = wlS (es.map (·.nd)) ∧ es'.length = es.length) (OwN a es.length c es'))) := by
  refine Tri.fact (φ := (es.length ≠ 0 → a.isSome = true) ∧ ∀ x ∈ es, x.nd.ents.length ≠ 0 → x.ea.isSome = true) (fun R h H => ⟨fun hn => OwC.some H.1 (by omega), fun x hx hn => Ls.isSome (H.2 x hx).2 hn⟩) fun ⟨ha, hea⟩ => ?_
  refine tri_of_tree (ρ := [.a a, .n es.length, .n c, .p (OwN a es.length c es)]) mixed Tryz.func90 tree_wholeLinks ?_
  unfold t_wholeLinks
  simp only [T.den, E.prop, E.den, RX.look, F1.app, F2.app, Uni.int_i, Uni.nat_n, Uni.bool_c, Uni.str_s, Uni.adr_a, Uni.val_v, Uni.hp_p, hden, cden, V.den, W.den, A.den, BR.den, SA.den, FV.den, capV, exs, exP, allP, Cur.app, List.map_cons, List.map_nil, List.cons_append, List.nil_append, List.drop_succ_cons, List.drop_zero, List.length_cons, List.length_nil, Nat.zero_add, Nat.reduceAdd, Int.neg_neg, Bool.not_not, List.append_nil, Nat.add_zero, List.getElem?_cons_zero, List.getElem?_cons_succ, Decidable.not_not, semW_eq, semW_load, semW_store, semW_storeC, semW_lookup, semW_lookupC, semW_update, semW_updateC, semW_updateK, ne_eq, Nat.reduceEqDiff, not_false_eq_true]
  intro b
  refine ⟨fun k p => ∃ j : Nat, k = j ∧ j ≤ es.length ∧ HP.ent p (CM b (cntL (((es.map (·.nd)).take j).flatMap (·.ents)))), fun k _ => es.length - k.toNat, ⟨0, rfl, Nat.zero_le _, .of fun R h H => CM.init H⟩, ?_⟩
  rintro k p ⟨j, rfl, hj, hp⟩
  refine ⟨fun hlt => ⟨by omega, fun _ => ⟨ha (by omega), fun _ => ?_⟩⟩, fun hge => ?_⟩
  · have hlt' : j < es.length := by omega
    have hltm : j < (es.map (·.nd)).length := by simpa using hlt'
    have hg : (es.map (·.nd))[j] = es[j].nd := by simp
    have hm := List.getElem_mem hlt'
    refine ⟨_, _, _, _, _, _, _, _, _, ldNodeO (List.getElem?_eq_getElem hlt'), fun y => ?_⟩
    have hfl := take_flat (fun n : Nd => n.ents) (es.map (·.nd)) j hltm
    have hle := take_flat_le (fun n : Nd => n.ents) (es.map (·.nd)) (j + 1)
    rw [hfl, hg, List.length_append] at hle
    rw [hg] at hfl
    refine ⟨fun k p => ∃ i : Nat, k = i ∧ i ≤ es[j].nd.ents.length ∧ HP.ent p (CM b (cntL (((es.map (·.nd)).take j).flatMap (·.ents) ++ es[j].nd.ents.take i))), fun k _ => es[j].nd.ents.length - k.toNat, ⟨0, rfl, Nat.zero_le _, by simpa using hp⟩, ?_⟩
    rintro k p ⟨i, rfl, hi, hp⟩
    refine ⟨fun hlt2 => ⟨by omega, fun _ => ⟨hea _ hm (by omega), fun _ => ?_⟩⟩, fun hge2 => ?_⟩
    · have hlt2' : i < es[j].nd.ents.length := by omega
      refine ⟨es[j].nd.ents[i].1, (es[j].nd.ents[i].2 : Int), ldEntO hm (List.getElem?_eq_getElem hlt2'), fun z => ?_⟩
      have hc := cntL_le (((es.map (·.nd)).take j).flatMap (·.ents) ++ es[j].nd.ents.take i) es[j].nd.ents[i].2
      have hlen : (((es.map (·.nd)).take j).flatMap (·.ents) ++ es[j].nd.ents.take i).length ≤ 1000000000000 := by
        rw [List.length_append, List.length_take]; omega
      refine ⟨_, (cm_look b _ _).ent hp, inI64 _ (by omega) (by omega), fun _ => ?_⟩
      refine (cm_upd b _ es[j].nd.ents[i].2 (cntL (((es.map (·.nd)).take j).flatMap (·.ents) ++ es[j].nd.ents.take i) es[j].nd.ents[i].2 + 1)).conseq (hp.trans (.of fun _ _ => HP.sep_tt)) fun v => .of fun R h H => ?_
      obtain ⟨rfl, H1⟩ := HP.sep_left H
      refine ⟨_, rfl, ⟨inI64 _ (by omega) (by omega), fun _ => ⟨⟨i + 1, by omega, by omega, ?_⟩, by dsimp only; omega⟩⟩, H1⟩
      rw [List.take_succ_eq_append_getElem hlt2', ← List.append_assoc, cntL_snoc]
      exact HP.ent.refl _
    · obtain rfl : i = es[j].nd.ents.length := by omega
      refine ⟨inI64 _ (by omega) (by omega), fun _ => ⟨⟨j + 1, by omega, by omega, ?_⟩, by dsimp only; omega⟩⟩
      rw [hfl]
      rw [List.take_length] at hp
      exact hp
  · obtain rfl : j = es.length := by omega
    have e0 : (es.map (·.nd)).take es.length = es.map (·.nd) := List.take_of_length_le (by simp)
    rw [e0] at hp
    refine ⟨fun k q => ∃ j : Nat, k = j ∧ j ≤ es.length ∧ HP.ent q (OwN a es.length c ((es.map (updN (es.map (·.nd)))).take j ++ es.drop j)), fun k _ => es.length - k.toNat, ⟨0, rfl, Nat.zero_le _, by simpa using HP.ent.refl _⟩, ?_⟩
    rintro k q ⟨j, rfl, hj, hq⟩
    refine ⟨fun hlt => ⟨by omega, fun _ => ⟨ha (by omega), fun _ => ?_⟩⟩, fun hge => ?_⟩
    · have hlt' : j < es.length := by omega
      have hlm : ((es.map (updN (es.map (·.nd)))).take j).length = j := by rw [List.length_take, List.length_map]; omega
      have hget : ((es.map (updN (es.map (·.nd)))).take j ++ es.drop j)[j]? = some es[j] := by
        rw [List.getElem?_append_right (by omega), hlm, Nat.sub_self, List.getElem?_drop, Nat.add_zero, List.getElem?_eq_getElem hlt']
      have hall : ((es.map (updN (es.map (·.nd)))).take j ++ es.drop j).length = es.length := by rw [List.length_append, hlm, List.length_drop]; omega
      have hnext : ∀ y : NodeE, y = updN (es.map (·.nd)) es[j] → ((es.map (updN (es.map (·.nd)))).take j ++ es.drop j).set j y = (es.map (updN (es.map (·.nd)))).take (j + 1) ++ es.drop (j + 1) := fun y hy => by
        rw [List.set_append_right _ _ (by omega), hlm, Nat.sub_self, List.drop_eq_getElem_cons hlt', List.set_cons_zero, List.take_succ_eq_append_getElem (by simpa using hlt'), List.append_assoc, hy]
        simp
      have hstay : wl1 (es.map (·.nd)) es[j].nd = es[j].nd → (es.map (updN (es.map (·.nd)))).take j ++ es.drop j = (es.map (updN (es.map (·.nd)))).take (j + 1) ++ es.drop (j + 1) := fun hw => by
        rw [← hnext es[j] (by unfold updN; rw [hw])]
        exact (set_same _ _ _ hget).symm
      refine ⟨_, _, _, _, _, _, _, _, _, (ldNodeO hget).ent hq, fun y => ?_⟩
      have again : wl1 (es.map (·.nd)) es[j].nd = es[j].nd → ∃ j' : Nat, (j : Int) + 1 = j' ∧ j' ≤ es.length ∧ HP.ent q (OwN a es.length c ((es.map (updN (es.map (·.nd)))).take j' ++ es.drop j')) := fun hw => ⟨j + 1, by omega, by omega, by rw [← hstay hw]; exact hq⟩
      refine ⟨fun hk => ⟨_, (cm_look b _ _).ent hp, fun he => ⟨_, (cm_look b _ _).ent hp, ?_⟩, fun he => ⟨inI64 _ (by omega) (by omega), fun _ => ⟨again ?_, by dsimp only; omega⟩⟩⟩, fun hk => ⟨inI64 _ (by omega) (by omega), fun _ => ⟨again ?_, by dsimp only; omega⟩⟩⟩
      · rw [andffff] at he
        refine (stO hget hall _).conseq (hq.trans (.of fun _ _ => HP.sep_tt)) fun v => .of fun R h H => ?_
        obtain ⟨rfl, H1⟩ := HP.sep_left H
        refine ⟨_, rfl, ⟨inI64 _ (by omega) (by omega), fun _ => ⟨⟨j + 1, by omega, by omega, ?_⟩, by dsimp only; omega⟩⟩, H1⟩
        rw [hnext _ (by unfold updN setLk wl1; rw [if_pos ⟨hk, he⟩])]
        exact HP.ent.refl _
      · rw [andffff] at he
        unfold wl1; rw [if_neg (fun h => he h.2)]
      · unfold wl1; rw [if_neg (fun h => hk h.1)]
    · obtain rfl : j = es.length := by omega
      refine hq.trans (.of fun R h H => ⟨trivial, es.map (updN (es.map (·.nd))), ⟨?_, by simp⟩, ?_⟩)
      · rw [List.map_map]; unfold wlS; rw [List.map_map]; rfl
      · rw [List.take_of_length_le (by simp), List.drop_length, List.append_nil] at H; exact H
end Go.Proofs.YtdieogcemmnaaaaGreatDoor



namespace Go.Proofs.YtdieogcemmnaaaaGreatDoor.RX
set_option maxRecDepth 100000
-- tideline/tidelinelaw04.speaks: ρ := []
end Go.Proofs.YtdieogcemmnaaaaGreatDoor.RX



namespace Go.Proofs.YtdieogcemmnaaaaGreatDoor
open Go.RowKit Go.ChangeShapes Go.WideShapes Go.Deep RX
set_option maxRecDepth 100000
set_option linter.unusedVariables false
set_option linter.unusedSimpArgs false

structure CallE where
  kind : Int
  path : List UInt8
  other : List UInt8
  off : Int
  n : Int
  data : List UInt8
  da : Option Addr
  dc : Nat
instance : Inhabited CallE := ⟨⟨0, [], [], 0, 0, [], none, 0⟩⟩
end Go.Proofs.YtdieogcemmnaaaaGreatDoor



namespace Go.Proofs.YtdieogcemmnaaaaGreatDoor
set_option linter.unusedSimpArgs false
set_option linter.unusedVariables false
open Go.Proofs.YtdieogcemmnaaaaGreatDoor RX
set_option maxRecDepth 100000

variable {b : Nat} {t : TS}
def doC (T : List Nd) (c : CallM) (d : List UInt8) : List Nd × AnsM := doS T c.kind c.path c.other c.off c.n d
theorem undNode : ∃ d, Tryz.prog.underlying 43 = some d := Option.isSome_iff_exists.1 (by kernel_rfl)
theorem aggNode : aggT Tryz.prog 43 = true := by kernel_rfl
theorem szNode : szT Tryz.prog 43 = 5 := by kernel_rfl
theorem Ls.some {α : Type} {K : Kind α} {a : Option Addr} {n : Nat} {l : List α} {R h : PH} (H : (Ls K a n l).p R h) (hn : n ≠ 0) : a.isSome = true := by
  exact RoC.some H.2.1 (Nat.pos_of_ne_zero hn)
theorem loadNode {a : Option Addr} {n : Nat} {l : List NodeE} {k : Nat} {x : NodeE} (hk : l[k]? = some x) : ORead Tryz.prog (loadS 43 (.pointer (a.map fun y => (y.add (k * 5)).add 0))) (Ls kNode a n l) (.agg (nodeVs x).toArray) := by
  obtain ⟨d, hd⟩ := undNode
  exact Ls.load (K := kNode) hd aggNode szNode hk
end Go.Proofs.YtdieogcemmnaaaaGreatDoor



namespace Go.Proofs.YtdieogcemmnaaaaGreatDoor
open Go.Proofs.YtdieogcemmnaaaaGreatDoor RX
set_option maxRecDepth 100000

def idxS (t : TypeId) (u v : Value) : Sem Next := do pure (.value (← Instr.indexAt t u v))
theorem semW_ix {t ty : TypeId} {i j : Nat} {u v : Value} (h : i ≠ j) : semW (.indexAddr t (.tmp i) (.tmp j)) ty [(i, u), (j, v)] = idxS t u v := by
  have h' : (i == j) = false := by simpa using h
  simp [semW, execOp, arW, h', idxS]
theorem arIx {t el : TypeId} {n : Nat} (ht : Tryz.prog.underlying t = some (.array n el)) (hi : (Tryz.prog.info? el).isSome = true) (hz : szT Tryz.prog el = 1) {b k : Nat} {x : Int} (hx : x = k) (hk : k < n) {A : HP} :
    ORead Tryz.prog (idxS t (.pointer (some ⟨b, 0, none⟩)) (.int .i64 x)) A (.pointer (some ⟨b, k, none⟩)) := fun w R h F s _ => by
  obtain ⟨i, hi⟩ := Option.isSome_iff_exists.1 hi
  subst hx
  unfold idxS
  rw [Sem.run_bind, RX.run_indexAt_array ht hi (by omega) (by omega), hz]
  simp [addr_add]
def Ar (e : TypeId) (b : Nat) (vs : List Value) : HP := HP.one b (.cells vs.toArray e (0, 0))
theorem Ar.rd {e : TypeId} {b : Nat} {vs : List Value} : Rd (Ar e b vs) (some ⟨b, 0, none⟩) vs := fun w R h F s H j u hj => by
  refine ⟨b, 0, rfl, ?_⟩
  have := s.oh b _ H
  rw [cell_at this]
  simpa using hj
theorem arLd {t e : TypeId} {d : TypeDesc} (hd : Tryz.prog.underlying t = some d) (ha : aggT Tryz.prog t = false) (hz : szT Tryz.prog t = 1) {b k : Nat} {vs : List Value} {v : Value} (hk : vs[k]? = some v) :
    ORead Tryz.prog (loadS t (.pointer (some ⟨b, k, none⟩))) (Ar e b vs) v := by
  have := load1_ok hd ha hz (Ar.rd (e := e) (b := b) (vs := vs)) (k := k) (off := 0) (by simpa using hk)
  simpa [addr_add] using this
theorem arSt {t e : TypeId} {i : TypeInfo} (hi : Tryz.prog.info? t = some i) (hz : i.size = 1) {b k : Nat} {vs : List Value} {x : Value} (hx : x.cells = #[x]) (h1 : x.oneCell' = true) (hk : k < vs.length) :
    OTri Tryz.prog (storeS t (.pointer (some ⟨b, k, none⟩)) x) (Ar e b vs) (fun v => HP.and (v = .tuple #[]) (Ar e b (vs.set k x))) := by
  have := storeOne_ok hi e b vs.toArray k x [x] (by rw [hx]) (by simp [hz]) (by simp) (by simpa using h1) (by simp; omega) (by unfold maxLen; omega)
  refine this.weak (fun _ _ h => h) ?_
  rintro v R h ⟨rfl, H⟩
  refine ⟨rfl, ?_⟩
  unfold Ar
  rw [List.set_eq_take_append_cons_drop, if_pos hk]
  simpa using H
def arF (m : Nat) (f : Nat → Value) : List Value := (List.range m).map f
theorem arF_get {m : Nat} {f : Nat → Value} {k : Nat} (h : k < m) : (arF m f)[k]? = some (f k) := by
  unfold arF
  rw [List.getElem?_map, List.getElem?_range h]; rfl
theorem arF_len (m : Nat) (f : Nat → Value) : (arF m f).length = m := by simp [arF]
theorem arF_set {m : Nat} {f : Nat → Value} {k : Nat} {v : Value} (h : k < m) : (arF m f).set k v = arF m fun j => if j = k then v else f j := by
  refine List.ext_getElem? fun j => ?_
  rw [List.getElem?_set, arF_len]
  by_cases hj : j < m
  · rw [arF_get hj, arF_get hj]
    by_cases e : k = j
    · subst e; rw [if_pos rfl, if_pos h, if_pos rfl]
    · rw [if_neg e, if_neg (Ne.symm e)]
  · rw [List.getElem?_eq_none (by rw [arF_len]; omega)]
    by_cases e : k = j
    · omega
    · rw [if_neg e, List.getElem?_eq_none (by rw [arF_len]; omega)]
theorem arF_congr {m : Nat} {f g : Nat → Value} (h : ∀ j < m, f j = g j) : arF m f = arF m g := List.map_congr_left fun j hj => h j (List.mem_range.1 hj)

theorem strIx {t ty : TypeId} {i j : Nat} (h : i ≠ j) (ht : Tryz.prog.underlying t = some .string) {s : List UInt8} {k : Nat} {x : Int} {c : UInt8} (hx : x = k) (hk : s[k]? = some c) {A : HP} :
    ORead Tryz.prog (semW (.index t (.tmp i) (.tmp j)) ty [(i, .string ⟨s.toArray⟩), (j, .int .i64 x)]) A (.int .u8 c.toNat) := fun w R hh F st _ => by
  have h' : (i == j) = false := by simpa using h
  subst hx
  have hkl : k < s.length := (List.getElem?_eq_some_iff.1 hk).1
  have e : (Instr.index t (.string ⟨s.toArray⟩) (.int .i64 k)).run Tryz.prog w = .ok (.int .u8 c.toNat) w := by
    have hb : (⟨s.toArray⟩ : ByteArray)[k]? = some c := by
      have hz : k < (⟨s.toArray⟩ : ByteArray).size := by simp [ByteArray.size]; exact hkl
      rw [getElem?_pos (⟨s.toArray⟩ : ByteArray) k hz]
      rw [List.getElem?_eq_getElem hkl] at hk
      exact hk
    unfold Instr.index
    simp [asIntOf, Sem.run_bind, RX.run_underlying ht, hb]
  simp only [semW, execOp, arW, List.find?_cons, beq_self_eq_true, h']
  rw [Sem.run_bind, e]
  rfl
theorem geqStr {t ty u : TypeId} {i j : Nat} (h : i ≠ j) (hg : Tryz.prog.eqGuardType Tryz.prog.depth t = false) {x y : List UInt8} {A : HP} :
    ORead Tryz.prog (semW (.binOp .geq t (.tmp i) (.tmp j) u) ty [(i, .string ⟨x.toArray⟩), (j, .string ⟨y.toArray⟩)]) A (.bool (!decide (x < y))) := fun w R hh F st _ => by
  have h' : (i == j) = false := by simpa using h
  simp only [semW, execOp, arW, List.find?_cons, beq_self_eq_true, h']
  have : Op.bytesLess x y = decide (x < y) := bytesLess_eq x y
  simp [eqGuard, binOp, Op.stringOp, hg, program, Sem.run_bind, Sem.run, Result.andThen, this]
end Go.Proofs.YtdieogcemmnaaaaGreatDoor



namespace Go.Proofs.YtdieogcemmnaaaaGreatDoor
set_option linter.unusedSimpArgs false
set_option linter.unusedVariables false
open Go.Proofs.YtdieogcemmnaaaaGreatDoor RX
set_option maxRecDepth 100000

def okE : Nm → List (Nm × Nat) → Bool
  | _, [] => true
  | last, e :: r => nameOk e.1 && decide (last < e.1) && okE e.1 r
def goodS (n : Nd) : Bool := if n.kind = 1 then decide (n.data = []) && decide (n.links = 1) && okE [] n.ents else if n.kind = 2 then decide (n.data.length ≤ 512) && decide (n.ents = []) else false
theorem leqStr {t ty u : TypeId} {i j : Nat} (h : i ≠ j) (hg : Tryz.prog.eqGuardType Tryz.prog.depth t = false) {x y : List UInt8} {A : HP} :
    ORead Tryz.prog (semW (.binOp .leq t (.tmp i) (.tmp j) u) ty [(i, .string ⟨x.toArray⟩), (j, .string ⟨y.toArray⟩)]) A (.bool (!decide (y < x))) := fun w R hh F st _ => by
  have h' : (i == j) = false := by simpa using h
  simp only [semW, execOp, arW, List.find?_cons, beq_self_eq_true, h']
  have : Op.bytesLess y x = decide (y < x) := bytesLess_eq y x
  have this2 : Op.bytesLess x y = decide (x < y) := bytesLess_eq x y
  have e : (Op.bytesLess x y || x == y) = !decide (y < x) := by
    rw [this2]
    by_cases h : y < x
    · have h1 : ¬ x < y := List.lt_asymm h
      have h2 : x ≠ y := fun e => by subst e; exact h1 h
      simp [h, h1, h2]
    · rcases List.le_iff_lt_or_eq.1 (show x ≤ y from h) with h1 | h1
      · simp [h, h1]
      · subst h1; simp [h]
  simp [eqGuard, binOp, Op.stringOp, hg, program, Sem.run_bind, Sem.run, Result.andThen, e]
theorem okE_lt : ∀ {last : Nm} {l : List (Nm × Nat)}, okE last l = true → (∀ e ∈ l, last < e.1) ∧ (l.map (·.1)).Pairwise (· < ·) ∧ ∀ e ∈ l, nameOk e.1 = true
  | _, [], _ => ⟨fun _ h => (by cases h), List.Pairwise.nil, fun _ h => (by cases h)⟩
  | last, e :: r, h => by
    unfold okE at h
    simp only [Bool.and_eq_true, decide_eq_true_eq] at h
    obtain ⟨⟨h1, h2⟩, h3⟩ := h
    obtain ⟨g1, g2, g3⟩ := okE_lt h3
    refine ⟨fun x hx => ?_, ?_, fun x hx => ?_⟩
    · rcases List.mem_cons.1 hx with rfl | hx
      · exact h2
      · exact List.lt_trans h2 (g1 x hx)
    · rw [List.map_cons, List.pairwise_cons]
      exact ⟨fun y hy => by obtain ⟨x, hx, rfl⟩ := List.mem_map.1 hy; exact g1 x hx, g2⟩
    · rcases List.mem_cons.1 hx with rfl | hx
      · exact h1
      · exact g3 x hx
theorem nodup_of' {l : List Nm} (h : l.Pairwise (· < ·)) : l.Nodup := h.imp fun {a b} hab e => by subst e; exact List.lt_irrefl a hab
theorem lk_rev {l : List (Nm × Nat)} (h : (l.map (·.1)).Nodup) (k : Nm) : lk l.reverse k = lk l k := by
  have hr : (l.reverse.map (·.1)).Nodup := by rw [List.map_reverse]; exact (List.reverse_perm _).symm.nodup h
  cases e : lk l k with
  | some n =>
    have := lk_of_mem hr (List.mem_reverse.2 (lk_mem e))
    exact this
  | none =>
    cases e2 : lk l.reverse k with
    | none => rfl
    | some n =>
      have := lk_of_mem h (List.mem_reverse.1 (lk_mem e2))
      dsimp only at this
      rw [e] at this; cases this
theorem entPut6 (mb : Nat) (es : List (Nm × Nat)) (e : Nm × Nat) : OTri Tryz.prog (updS 131 (.map (some mb)) (sE e.1) (.int .i64 e.2)) (EntM mb es) (fun v => HP.and (v = .tuple #[]) (EntM mb (e :: es))) := by
  refine OTri.exI fun l => OTri.exI fun c => OTri.pureI fun ⟨hI, hk⟩ => ?_
  refine (upd_ok (r := mb) (l := l) (c := c) kStr' undEM e.1 (.int .i64 e.2)).weak (fun _ _ h => h) ?_
  rintro v R h ⟨rfl, H⟩
  refine ⟨rfl, _, _, ⟨hI.put e.1 _, fun q => ?_⟩, H⟩
  rw [alFind_put, hk]
  rw [show lk (e :: es) q = if q = e.1 then some e.2 else lk es q from rfl]
  by_cases he : q = e.1
  · rw [if_pos he, if_pos he]; rfl
  · rw [if_neg he, if_neg he]
def LdPost (x : NodeE) (v : Value) : HP := HP.ex fun y : HN => HP.and (y.p = x.nd ∧ v = if goodS x.nd = true then .pointer (some ⟨y.nb, 0, none⟩) else .pointer none) (if goodS x.nd = true then NRep y else HP.tt)
theorem loaded_ok (x : NodeE) (hn : x.nd.ents.length ≤ 1000000000) : Tri Tryz.prog 160 #[.agg (nodeVs x).toArray] (HP.sep (RoB x.da x.nd.data.length x.nd.data) (Ls kEnt x.ea x.nd.ents.length x.nd.ents)) (LdPost x) := by
  refine Tri.fact (φ := (x.nd.data.length ≠ 0 → x.da.isSome = true) ∧ (x.nd.ents.length ≠ 0 → x.ea.isSome = true)) (fun R h H => ⟨fun hn => RoC.some (HP.sep_left H) (by omega), fun hn => Ls.isSome (HP.sep_right H) hn⟩) fun ⟨hda, hea⟩ => ?_
  refine tri_of_tree (ρ := [.i x.nd.num, .i x.nd.kind, .i x.nd.links, .a x.da, .n x.nd.data.length, .n x.dc, .p (RoB x.da x.nd.data.length x.nd.data), .a x.ea, .n x.nd.ents.length, .n x.ec, .p (Ls kEnt x.ea x.nd.ents.length x.nd.ents)]) mixed Tryz.func160 tree_tLoaded ?_
  unfold t_tLoaded
  simp only [T.den, E.prop, E.den, RX.look, F1.app, F2.app, Uni.int_i, Uni.nat_n, Uni.bool_c, Uni.str_s, Uni.adr_a, Uni.val_v, Uni.hp_p, hden, cden, V.den, W.den, A.den, BR.den, SA.den, FV.den, capV, exs, exP, allP, Cur.app, List.map_cons, List.map_nil, List.cons_append, List.nil_append, List.drop_succ_cons, List.drop_zero, List.length_cons, List.length_nil, Nat.zero_add, Nat.reduceAdd, Int.neg_neg, Bool.not_not, List.append_nil, Nat.add_zero, List.getElem?_cons_zero, List.getElem?_cons_succ, Decidable.not_not, semW_eq, semW_load, semW_update, semW_updateC, semW_updateK, ne_eq, Nat.reduceEqDiff, not_false_eq_true]
  have bad : ∀ {A : HP}, goodS x.nd = false → HP.ent A (LdPost x (.pointer none)) := fun h => .of fun R hh H => ⟨⟨x.nd, 0, 0, none, 0⟩, ⟨rfl, by rw [h]; simp⟩, by rw [h]; trivial⟩
  intro u
  refine ⟨fun k1 => ?_, fun k1 => ⟨fun k2 => ?_, fun k2 => ?_⟩⟩
  · have k1' : x.nd.kind = 1 := k1
    refine ⟨fun hd => bad ?_, fun hd => ⟨fun hl => bad ?_, fun hl => ?_⟩⟩
    · unfold goodS; rw [if_pos k1']; have : x.nd.data ≠ [] := fun e => by rw [e] at hd; simp at hd
      simp [this]
    · unfold goodS; rw [if_pos k1']; simp [hl]
    · refine tDir_ok.weak (fun _ _ h => h) ?_
      rintro v R h ⟨nb, mb, rfl, H⟩
      refine ⟨nb, _, rfl, ?_, H⟩
      clear H
      have hd0 : x.nd.data = [] := List.eq_nil_of_length_eq_zero (by omega)
      have hgood : goodS x.nd = okE [] x.nd.ents := by unfold goodS; rw [if_pos k1', hd0, hl]; simp
      refine ⟨fun _ _ last k p => ∃ i : Nat, k = i ∧ i ≤ x.nd.ents.length ∧ okE [] x.nd.ents = okE last (x.nd.ents.drop i) ∧ HP.ent p (HP.sep (HP.one nb (.cells #[.int .i64 1, .int .i64 1, .slice none 0 0, .map (some mb)] 133 (0, 0))) (EntM mb (x.nd.ents.take i).reverse)),
        fun _ _ _ k _ => x.nd.ents.length - k.toNat, ⟨0, rfl, Nat.zero_le _, by simp, HP.ent.refl _⟩, ?_⟩
      rintro v q last k p ⟨i, rfl, hi, hok, hp⟩
      refine ⟨fun hlt => ⟨by omega, fun _ => ⟨hea (by omega), fun _ => ?_⟩⟩, fun hge => ?_⟩
      · have hlt' : i < x.nd.ents.length := by omega
        have hstep : okE last (x.nd.ents.drop i) = (nameOk x.nd.ents[i].1 && decide (last < x.nd.ents[i].1) && okE x.nd.ents[i].1 (x.nd.ents.drop (i + 1))) := by
          rw [List.drop_eq_getElem_cons hlt']; rfl
        refine ⟨x.nd.ents[i].1, (x.nd.ents[i].2 : Int), Ls.load (K := kEnt) Tryz.underlying140 aggEn szEn (List.getElem?_eq_getElem hlt'), fun z => ?_⟩
        refine (pName_ok x.nd.ents[i].1 HP.tt).weak (fun _ _ h => h) ?_
        rintro w R h ⟨rfl, H⟩
        refine ⟨_, rfl, ⟨fun hn => bad ?_, fun hn => ⟨_, leqStr (by decide) (by kernel_rfl), fun hle => bad ?_, fun hle => ?_⟩⟩, H⟩
        · rw [hgood, hok, hstep]; simp [hn]
        · rw [hgood, hok, hstep]; simp at hle; simp [List.not_lt.2 hle]
        · have hlt2 : last < x.nd.ents[i].1 := by simpa using hle
          refine ⟨mb, ORead.ent hp (ld1 (fun R h H => HP.sep_left H) undEM (by kernel_rfl) (by kernel_rfl) rfl), ?_⟩
          refine (entPut6 mb (x.nd.ents.take i).reverse x.nd.ents[i]).conseq (hp.trans (.of fun _ _ => HP.sep_comm)) fun w => .of fun R h H => ?_
          obtain ⟨rfl, _⟩ := HP.sep_left H
          refine ⟨_, rfl, ⟨inI64 _ (by omega) (by omega), fun _ => ⟨⟨i + 1, by omega, by omega, ?_, ?_⟩, by dsimp only; omega⟩⟩, HP.sep_comm (HP.sep_mono H (fun _ h => h.2) fun _ h => h)⟩
          · rw [hok, hstep, hn]; simp [hlt2]
          · rw [List.take_succ_eq_append_getElem hlt', List.reverse_append]
            exact HP.ent.refl _
      · obtain rfl : i = x.nd.ents.length := by omega
        rw [List.drop_length] at hok
        have hg : goodS x.nd = true := by rw [hgood, hok]; rfl
        rw [List.take_length] at hp
        refine (HP.ent.of fun R h H => HP.sep_right (HP.sep_right H)).trans (hp.trans (.of fun R h H => ⟨⟨x.nd, nb, mb, none, 0⟩, ⟨rfl, by rw [hg]; rfl⟩, ?_⟩))
        rw [if_pos hg]
        have hnd := nodup_of' (okE_lt (hgood.symm.trans hg)).2.1
        refine HP.sep_mono H (fun y hy => ?_) fun y hy => ?_
        · show y nb = _
          rw [k1', hl, hd0]
          unfold HN.mapo
          rw [if_pos k1']
          exact hy
        · refine HP.sep_mono (HP.tt_sep hy) (fun z _ => ?_) fun z hz => ?_
          · show (OwB none x.nd.data.length 0 x.nd.data).p R z
            rw [hd0]; exact OwC.nil _ _ R z
          · unfold EntR
            rw [if_pos k1']
            obtain ⟨l, c, ⟨hI, hk⟩, hz⟩ := hz
            exact ⟨l, c, ⟨hI, fun k => by rw [hk, lk_rev hnd]⟩, hz⟩
  · have k2' : x.nd.kind = 2 := k2
    have hk1 : ¬ x.nd.kind = 1 := k1
    refine ⟨fun hd => bad ?_, fun hd => ⟨fun he => bad ?_, fun he => ?_⟩⟩
    · unfold goodS; rw [if_neg hk1, if_pos k2']; simp; omega
    · unfold goodS; rw [if_neg hk1, if_pos k2']; have : x.nd.ents ≠ [] := fun e => by rw [e] at he; simp at he
      simp [this]
    · have he0 : x.nd.ents = [] := List.eq_nil_of_length_eq_zero (by omega)
      have hg : goodS x.nd = true := by unfold goodS; rw [if_neg hk1, if_pos k2', he0]; simp; omega
      refine (clone8_ok _ x.da _ x.dc x.nd.data (RdL.ro _ _ _ _) rfl (by omega)).weak (fun _ _ h => h) ?_
      rintro v R h ⟨a', c', rfl, H⟩
      refine ⟨a', _, c', _, _, rfl, fun nb => .of fun R h H => ?_, H⟩
      refine ⟨⟨x.nd, nb, 0, a', c'⟩, ⟨rfl, by rw [hg]; rfl⟩, ?_⟩
      rw [if_pos hg]
      refine HP.sep_mono (HP.sep_right (HP.sep_right H)) (fun y hy => ?_) fun y hy => ?_
      · show y nb = _
        rw [k2']
        unfold HN.mapo
        rw [if_neg hk1]
        exact hy
      · refine HP.sep_mono (HP.sep_tt hy) (fun z hz => hz) fun z _ => ?_
        unfold EntR
        rw [if_neg hk1]
        exact he0
  · exact bad (by unfold goodS; rw [if_neg k1, if_neg k2])
end Go.Proofs.YtdieogcemmnaaaaGreatDoor



namespace Go.Proofs.YtdieogcemmnaaaaGreatDoor
set_option linter.unusedSimpArgs false
set_option linter.unusedVariables false
open Go.Proofs.YtdieogcemmnaaaaGreatDoor RX
set_option maxRecDepth 100000

theorem eqlNilP {i : Nat} {t u ty : TypeId} {e : TypeId} {p : Option Addr} {A : HP} (hg : Tryz.prog.eqGuardType Tryz.prog.depth t = false) (hu : Tryz.prog.underlying t = some (.pointer e)) : ORead Tryz.prog (semW (.binOp .eql t (.tmp i) (.const (.pointer none)) u) ty [(i, .pointer p)]) A (.bool p.isNone) := fun w R hh F s _ => by
  have he : (Op.equal t (.pointer p) (.pointer none)).run Tryz.prog w = .ok p.isNone w := RX.run_equal fun n => by cases p <;> simp [Op.equalIn, RX.run_underlying hu]
  have := (binOp_equal (P := Tryz.prog) (w := w) (.inl ⟨_, rfl⟩) he).1
  simp only [semW, execOp, arW, List.find?_cons, beq_self_eq_true, Option.map_some, Option.getD_some]
  simp [eqGuard, hg, program, Sem.run_bind, this]
def okN : Int → List Nd → Bool
  | _, [] => true
  | last, n :: r => decide (last < n.num) && decide (n.num < 64) && goodS n && okN n.num r
def MRep (mb : Nat) (ns : List HN) : HP := HP.sep (NodM ⟨mb, ns⟩) (sepN (ns.map NRep))
theorem MRep.init {mb : Nat} {R h : PH} (H : (HP.one mb (.map #[] 0)).p R h) : (MRep mb []).p R h := HP.sep_tt ⟨[], 0, ⟨MapI.nil 0, fun _ => rfl⟩, H⟩
theorem insH_end (y : HN) : ∀ ns : List HN, (∀ z ∈ ns, z.p.num < y.p.num) → insH y ns = ns ++ [y]
  | [], _ => rfl
  | z :: r, h => by
    unfold insH
    rw [if_pos (h z List.mem_cons_self), insH_end y r fun q hq => h q (List.mem_cons_of_mem _ hq)]; rfl
theorem mPut (mb : Nat) (ns : List HN) (y : HN) : OTri Tryz.prog (updS 123 (.map (some mb)) (.int .i64 y.p.num) (.pointer (some ⟨y.nb, 0, none⟩))) (HP.sep (MRep mb ns) (NRep y)) (fun v => HP.and (v = .tuple #[]) (MRep mb (insH y ns))) := by
  have o : OTri Tryz.prog (updS 123 (.map (some mb)) (.int .i64 y.p.num) (.pointer (some ⟨y.nb, 0, none⟩))) (NodM ⟨mb, ns⟩) (fun v => HP.and (v = .tuple #[]) (NodM ⟨mb, insH y ns⟩)) := by
    refine OTri.exI fun l => OTri.exI fun c => OTri.pureI fun ⟨hI, hk⟩ => ?_
    refine (upd_ok (r := mb) (l := l) (c := c) kInt' undNM (y.p.num : Int) (.pointer (some ⟨y.nb, 0, none⟩))).weak (fun _ _ h => h) ?_
    rintro v R h ⟨rfl, H⟩
    refine ⟨rfl, _, _, ⟨hI.put (y.p.num : Int) _, fun q => ?_⟩, H⟩
    rw [alFind_put, hk]
    exact (nodeV_ins y q ns).symm
  refine (o.frame (HP.sep (sepN (ns.map NRep)) (NRep y))).weak (fun R h H => HP.sep_assoc H) ?_
  rintro v R h ⟨h1, h2, d, l1, l2, ⟨e, H⟩, HR⟩
  refine ⟨e, h1, h2, d, l1, l2, H, ?_⟩
  exact sepN_perm ((insH_perm y ns).symm.map NRep) (sepN_cons.2 (HP.sep_comm HR))
def loadOk (wv : List Nd → Bool) (T1 : List Nd) : Bool := decide (T1.length ≤ 64) && okN (-1) T1 && wv T1
def LoPost (wv : List Nd → Bool) (a : Option Addr) (c : Nat) (es : List NodeE) (v : Value) : HP := HP.ex fun b : Nat => HP.ex fun t : TS =>
  HP.and ((v = if loadOk wv (es.map (·.nd)) = true then .tuple #[.pointer (some ⟨b, 0, none⟩), .int .i64 0] else .tuple #[.pointer none, .int .i64 3]) ∧ (loadOk wv (es.map (·.nd)) = true → t.pub = es.map (·.nd)))
    (HP.sep (OwN a es.length c es) (if loadOk wv (es.map (·.nd)) = true then TRep b t else HP.tt))
theorem load_ok (wv : List Nd → Bool) (hw : ∀ b t, okN (-1) t.pub = true → (∀ n ∈ t.pub, n.ents.length ≤ 1000000000) → Tri Tryz.prog 161 #[.pointer (some ⟨b, 0, none⟩)] (TRep b t) (fun v => HP.and (v = .bool (wv t.pub)) (TRep b t)))
    (a : Option Addr) (c : Nat) (es : List NodeE) (hn : es.length ≤ 1000000000) (he : ∀ x ∈ es, x.nd.ents.length ≤ 1000000000) :
    Tri Tryz.prog 91 #[.slice a es.length c] (OwN a es.length c es) (LoPost wv a c es) := by
  refine Tri.fact (φ := es.length ≠ 0 → a.isSome = true) (fun R h H hn => OwC.some H.1 (by omega)) fun ha => ?_
  refine tri_of_tree (ρ := [.a a, .n es.length, .n c, .p (OwN a es.length c es)]) mixed Tryz.func91 tree_tLoad ?_
  unfold t_tLoad
  simp only [T.den, E.prop, E.den, RX.look, F1.app, F2.app, Uni.int_i, Uni.nat_n, Uni.bool_c, Uni.str_s, Uni.adr_a, Uni.val_v, Uni.hp_p, hden, cden, V.den, W.den, A.den, BR.den, SA.den, FV.den, capV, exs, exP, allP, Cur.app, List.map_cons, List.map_nil, List.cons_append, List.nil_append, List.drop_succ_cons, List.drop_zero, List.length_cons, List.length_nil, Nat.zero_add, Nat.reduceAdd, Int.neg_neg, Bool.not_not, List.append_nil, Nat.add_zero, List.getElem?_cons_zero, List.getElem?_cons_succ, Decidable.not_not, semW_eq, semW_load, semW_update, semW_updateC, semW_updateK, ne_eq, Nat.reduceEqDiff, not_false_eq_true]
  have bad : ∀ {A : HP}, HP.ent A (OwN a es.length c es) → loadOk wv (es.map (·.nd)) = false → HP.ent A (LoPost wv a c es (.tuple #[.pointer none, .int .i64 3])) := fun hA h => hA.trans (.of fun R hh H => ⟨0, ⟨0, []⟩, ⟨by rw [h]; simp, fun e => by rw [h] at e; cases e⟩, by rw [h]; exact HP.sep_tt H⟩)
  refine ⟨fun h64 => bad (HP.ent.refl _) (by unfold loadOk; have : ¬ es.length ≤ 64 := by omega
                                             simp [this]), fun h64 => ?_⟩
  have h64' : es.length ≤ 64 := by omega
  intro mb tb
  refine ⟨fun _ _ _ last k pm pn => ∃ (j : Nat) (ns : List HN), k = j ∧ j ≤ es.length ∧ ns.map (·.p) = (es.map (·.nd)).take j ∧ okN (-1) (es.map (·.nd)) = okN last ((es.map (·.nd)).drop j) ∧ HP.ent pm (MRep mb ns) ∧ HP.ent pn (OwN a es.length c es) ∧ ∀ z ∈ ns, (z.p.num : Int) ≤ last,
    fun _ _ _ _ k _ _ => es.length - k.toNat, ⟨0, [], rfl, Nat.zero_le _, rfl, rfl, .of fun R h H => MRep.init H, HP.ent.refl _, fun _ h => by cases h⟩, ?_⟩
  rintro v q e0 last k pm pn ⟨j, ns, rfl, hj, hns, hok, hpm, hpn, hlast⟩
  refine ⟨fun hlt => ⟨by omega, fun _ => ⟨ha (by omega), fun _ => ?_⟩⟩, fun hge => ?_⟩
  · have hlt' : j < es.length := by omega
    have hltm : j < (es.map (·.nd)).length := by simpa using hlt'
    have hg : (es.map (·.nd))[j] = es[j].nd := by simp
    have hstep : okN last ((es.map (·.nd)).drop j) = (decide (last < es[j].nd.num) && decide (es[j].nd.num < 64) && goodS es[j].nd && okN es[j].nd.num ((es.map (·.nd)).drop (j + 1))) := by
      rw [List.drop_eq_getElem_cons hltm, hg]; rfl
    have fl : ∀ {B : Bool}, okN last ((es.map (·.nd)).drop j) = false → loadOk wv (es.map (·.nd)) = false := fun h => by unfold loadOk; rw [hok, h]; simp
    refine ⟨_, _, _, _, _, _, _, _, _, (ldNodeO (List.getElem?_eq_getElem hlt')).ent hpn, fun y => ⟨fun h1 => bad hpn (fl (B := true) ?_), fun h1 => ⟨fun h2 => bad hpn (fl (B := true) ?_), fun h2 => ?_⟩⟩⟩
    · rw [hstep]; have : ¬ last < (es[j].nd.num : Int) := by omega
      simp [this]
    · rw [hstep]; have : ¬ es[j].nd.num < 64 := by omega
      simp [this]
    · refine (loaded_ok es[j] (he _ (List.getElem_mem hlt'))).conseq (K := OwN a es.length c es) (hpn.trans (.of fun R h H => ?_)) fun v => .of fun R h H => ?_
      · have hx := nodeHp_pers _ R h PH.none' (H.2 _ (List.getElem_mem hlt'))
        exact ⟨PH.none', h, PH.none_dj _, PH.none_le _, PH.le.refl _, ⟨PH.none', PH.none', PH.dj_none _, PH.le.refl _, PH.le.refl _, hx.1, hx.2⟩, H⟩
      · obtain ⟨y1, y2, d, l1, l2, ⟨yn, ⟨hyp, hv⟩, hN⟩, hO⟩ := H
        by_cases hgd : goodS es[j].nd = true
        · rw [if_pos hgd] at hv hN
          subst hv
          refine ⟨.pointer (some ⟨yn.nb, 0, none⟩), NRep yn, OwN a es.length c es, rfl, ⟨false, eqlNilP (by kernel_rfl) undNP, fun h => (by cases h), fun _ => ?_⟩, y1, y2, d, l1, l2, hN, hO⟩
          have hnum : es[j].nd.num = yn.p.num := by rw [hyp]
          rw [hnum]
          refine (mPut mb ns yn).conseq ((HP.ent.sep hpm _).trans (.of fun _ _ => HP.sep_tt)) fun v => .of fun R h H => ?_
          obtain ⟨rfl, H1⟩ := HP.sep_left H
          have hall : ∀ z ∈ ns, z.p.num < yn.p.num := fun z hz => by have := hlast z hz; omega
          refine ⟨_, rfl, ⟨inI64 _ (by omega) (by omega), fun _ => ⟨⟨j + 1, insH yn ns, by omega, by omega, ?_, ?_, HP.ent.refl _, HP.ent.refl _, ?_⟩, by dsimp only; omega⟩⟩, H1⟩
          · rw [insH_end yn ns hall, List.map_append, hns, List.take_succ_eq_append_getElem hltm, hg, ← hyp]; rfl
          · have a1 : last < (es[j].nd.num : Int) := by omega
            have a2 : es[j].nd.num < 64 := by omega
            rw [hok, hstep, hgd, ← hnum]; simp [a1, a2]
          · intro z hz
            rw [insH_end yn ns hall] at hz
            rcases List.mem_append.1 hz with hz | hz
            · have := hall z hz; omega
            · obtain rfl := List.mem_singleton.1 hz; omega
        · rw [if_neg hgd] at hv
          subst hv
          refine ⟨.pointer none, HP.tt, OwN a es.length c es, rfl, ⟨true, eqlNilP (by kernel_rfl) undNP, fun _ => bad (HP.ent.refl _) (fl (B := true) ?_), fun h => absurd rfl h⟩, HP.tt_sep ((OwN a es.length c es).mono (PH.le.refl _) l2 hO)⟩
          rw [hstep]; simp [hgd]
  · obtain rfl : j = es.length := by omega
    have e0 : (es.map (·.nd)).take es.length = es.map (·.nd) := List.take_of_length_le (by simp)
    have e1 : (es.map (·.nd)).drop es.length = [] := List.drop_eq_nil_of_le (by simp)
    rw [e0] at hns
    rw [e1] at hok
    have hokT : okN (-1) (es.map (·.nd)) = true := by rw [hok]; rfl
    have hpub : TS.pub ⟨mb, ns⟩ = es.map (·.nd) := hns
    have hlo : loadOk wv (es.map (·.nd)) = wv (es.map (·.nd)) := by unfold loadOk; rw [hokT]; simp [h64']
    refine (hw tb ⟨mb, ns⟩ (by rw [hpub]; exact hokT) (fun n hn => by rw [hpub] at hn; obtain ⟨x, hx, rfl⟩ := List.mem_map.1 hn; exact he x hx)).conseq (K := HP.tt) ((HP.ent.sep2 (HP.ent.refl _) hpm).trans (.of fun R h H => HP.sep_tt H)) fun v => .of fun R h H => ?_
    obtain ⟨rfl, H1⟩ := HP.sep_left H
    rw [hpub]
    refine ⟨wv (es.map (·.nd)), mb, MRep mb ns, rfl, ⟨fun h => bad hpn (by rw [hlo]; simpa using h), fun h => (HP.ent.sep hpn _).trans (.of fun R h' H => ⟨tb, ⟨mb, ns⟩, ⟨by rw [hlo, h]; simp, fun _ => hpub⟩, ?_⟩)⟩, H1⟩
    rw [hlo, h]
    exact H
end Go.Proofs.YtdieogcemmnaaaaGreatDoor



namespace Go.Proofs.YtdieogcemmnaaaaGreatDoor
open Go.Proofs.YtdieogcemmnaaaaGreatDoor RX
set_option maxRecDepth 100000

def Step (T : List Nd) (d : Nat) (nm : Nm) (k : Nat) : Prop := ∃ n, nodeAt T d = some n ∧ n.kind = 1 ∧ lk n.ents nm = some k
theorem walk_snoc {T : List Nd} {a : Nat} {l : List Nm} {nm : Nm} {k : Nat} : walkS T a (l ++ [nm]) = (k, 0) ↔ ∃ d, walkS T a l = (d, 0) ∧ Step T d nm k := by
  rw [walkS_app]
  constructor
  · intro h
    split at h
    · rename_i h0
      obtain ⟨n, h1, h2, h3⟩ := walk_one h
      exact ⟨_, Prod.ext rfl h0, n, h1, h2, h3⟩
    · rename_i h0
      rw [h] at h0; exact absurd rfl h0
  · rintro ⟨d, h1, n, h2, h3, h4⟩
    rw [h1]
    simp [walkS, h2, h3, h4]
theorem walk_pre {T : List Nd} {a : Nat} {l m : List Nm} {k : Nat} (h : walkS T a (l ++ m) = (k, 0)) : ∃ d, walkS T a l = (d, 0) ∧ walkS T d m = (k, 0) := by
  rw [walkS_app] at h
  split at h
  · rename_i h0
    exact ⟨_, Prod.ext rfl h0, h⟩
  · rename_i h0
    rw [h] at h0; exact absurd rfl h0
inductive Rch (T : List Nd) : Nat → Prop where
  | root : Rch T 0
  | step {d k : Nat} {w : Nm} : Rch T d → Step T d w k → Rch T k
theorem Rch.walk {T : List Nd} {j : Nat} (h : Rch T j) : ∃ l, walkS T 0 l = (j, 0) := by
  induction h with
  | root => exact ⟨[], rfl⟩
  | step _ hs ih => obtain ⟨l, hl⟩ := ih; exact ⟨_, walk_snoc.2 ⟨_, hl, hs⟩⟩
theorem cntE_pos {l : List (Nm × Nat)} {d : Nat} {a : Nm} (h : (a, d) ∈ l) : 1 ≤ cntE l d := by
  unfold cntE
  have : 0 < l.countP fun e => decide (e.2 = d) := List.countP_pos_iff.2 ⟨_, h, by simp⟩
  omega
theorem cntE_two {d : Nat} {a c : Nm} (hac : a ≠ c) : ∀ {l : List (Nm × Nat)}, (a, d) ∈ l → (c, d) ∈ l → 2 ≤ cntE l d
  | [], h, _ => by cases h
  | y :: r, h, g => by
    have hc : cntE (y :: r) d = cntE r d + if y.2 = d then 1 else 0 := by unfold cntE; rw [List.countP_cons]; simp
    rcases List.mem_cons.1 h with rfl | h1
    · rcases List.mem_cons.1 g with e | g1
      · injection e with e _; exact absurd e.symm hac
      · have := cntE_pos g1; rw [hc]; simp; omega
    · rcases List.mem_cons.1 g with rfl | g1
      · have := cntE_pos h1; rw [hc]; simp; omega
      · have := cntE_two hac h1 g1; rw [hc]; omega
theorem refs_mem {n : Nd} {k : Nat} : ∀ {T : List Nd}, n ∈ T → cntE n.ents k ≤ refs T k
  | [], h => by cases h
  | y :: r, h => by
    rw [refs_cons]
    rcases List.mem_cons.1 h with rfl | h
    · omega
    · have := refs_mem (k := k) h; omega
theorem refs_two {n m : Nd} {k : Nat} (hnm : n ≠ m) : ∀ {T : List Nd}, n ∈ T → m ∈ T → cntE n.ents k + cntE m.ents k ≤ refs T k
  | [], h, _ => by cases h
  | y :: r, h, g => by
    rw [refs_cons]
    rcases List.mem_cons.1 h with rfl | h1
    · rcases List.mem_cons.1 g with rfl | g1
      · exact absurd rfl hnm
      · have := refs_mem (k := k) g1; omega
    · rcases List.mem_cons.1 g with rfl | g1
      · have := refs_mem (k := k) h1; omega
      · have := refs_two (k := k) hnm h1 g1; omega
theorem dir_one {B : Nat} {T : List Nd} (wf : TWf B T) {d p q : Nat} {a c : Nm} {x : Nd} (hx : nodeAt T d = some x) (hk : x.kind = 1) (h : Step T p a d) (g : Step T q c d) : p = q ∧ a = c := by
  obtain ⟨n, h1, _, h3⟩ := h
  obtain ⟨m, g1, _, g3⟩ := g
  obtain ⟨hn, hnn, hnm⟩ := wf.at' h1
  obtain ⟨hm, hmn, hmm⟩ := wf.at' g1
  have hd0 : d ≠ 0 := (hn.name _ (lk_mem h3)).2
  have hc := wf.cnt' hx hd0
  have hl : x.links = 1 := by
    rcases (wf.at' hx).1.kind with ⟨_, _, h⟩ | ⟨h, _⟩
    · exact h
    · rw [hk] at h; cases h
  have h2 : refs T d = 1 := by omega
  by_cases e : n = m
  · subst e
    refine ⟨by omega, Classical.byContradiction fun hac => ?_⟩
    have := cntE_two hac (lk_mem h3) (lk_mem g3)
    have := refs_mem (k := d) hnm
    omega
  · have := refs_two (k := d) e hnm hmm
    have := cntE_pos (lk_mem h3)
    have := cntE_pos (lk_mem g3)
    omega
theorem path_one {B : Nat} {T : List Nd} (wf : TWf B T) : ∀ (N : Nat) (l m : List Nm) (d : Nat) (x : Nd), l.length ≤ N → nodeAt T d = some x → x.kind = 1 → walkS T 0 l = (d, 0) → walkS T 0 m = (d, 0) → l = m := by
  have zero : ∀ (l : List Nm) (a : Nm), walkS T 0 (l ++ [a]) ≠ (0, 0) := fun l a h => by
    obtain ⟨d, _, n, h1, _, h3⟩ := walk_snoc.1 h
    exact ((wf.at' h1).1.name _ (lk_mem h3)).2 rfl
  intro N
  induction N with
  | zero =>
    intro l m d x hl hx hk h g
    obtain rfl := List.length_eq_zero_iff.1 (Nat.le_zero.1 hl)
    cases h
    rcases List.eq_nil_or_concat m with rfl | ⟨m', c, rfl⟩
    · rfl
    · rw [List.concat_eq_append] at g
      exact absurd g (zero m' c)
  | succ N ih =>
    intro l m d x hl hx hk h g
    rcases List.eq_nil_or_concat l with rfl | ⟨l', a, rfl⟩
    · cases h
      rcases List.eq_nil_or_concat m with rfl | ⟨m', c, rfl⟩
      · rfl
      · rw [List.concat_eq_append] at g
        exact absurd g (zero m' c)
    · rw [List.concat_eq_append] at h hl ⊢
      rcases List.eq_nil_or_concat m with rfl | ⟨m', c, rfl⟩
      · cases g
        exact absurd h (zero l' a)
      · rw [List.concat_eq_append] at g ⊢
        obtain ⟨p, h1, h2⟩ := walk_snoc.1 h
        obtain ⟨q, g1, g2⟩ := walk_snoc.1 g
        obtain ⟨rfl, rfl⟩ := dir_one wf hx hk h2 g2
        obtain ⟨y, hy, hyk, _⟩ := h2
        rw [ih l' m' p y (by simp at hl; omega) hy hyk h1 g1]
theorem path_one' {B : Nat} {T : List Nd} (wf : TWf B T) {l m : List Nm} {d : Nat} {x : Nd} (hx : nodeAt T d = some x) (hk : x.kind = 1) (h : walkS T 0 l = (d, 0)) (g : walkS T 0 m = (d, 0)) : l = m :=
  path_one wf l.length l m d x (Nat.le_refl _) hx hk h g

end Go.Proofs.YtdieogcemmnaaaaGreatDoor



namespace Go.Proofs.YtdieogcemmnaaaaGreatDoor
open Go.Proofs.YtdieogcemmnaaaaGreatDoor RX
set_option maxRecDepth 100000

def Reach (T : List Nd) : Prop := ∀ n ∈ T, Rch T n.num
def Dn (T : List Nd) (r j : Nat) : Prop := ∃ l : List Nm, l.length ≤ r ∧ walkS T 0 l = (j, 0)
theorem Dn.zero (T : List Nd) (r : Nat) : Dn T r 0 := ⟨[], Nat.zero_le _, rfl⟩
theorem Dn.step {T : List Nd} {r j : Nat} (h : Dn T (r + 1) j) : Dn T r j ∨ ∃ n, n ∈ T ∧ Dn T r n.num ∧ ∃ e ∈ n.ents, e.2 = j := by
  obtain ⟨l, h1, h2⟩ := h
  rcases List.eq_nil_or_concat l with rfl | ⟨l', a, rfl⟩
  · cases h2; exact .inl (Dn.zero T r)
  · rw [List.concat_eq_append] at h1 h2
    obtain ⟨d, h3, n, h4, _, h6⟩ := walk_snoc.1 h2
    obtain ⟨hm, hn⟩ := nodeAt_mem h4
    exact .inr ⟨n, hm, ⟨l', by simp at h1; omega, by rw [hn]; exact h3⟩, _, lk_mem h6, rfl⟩
theorem nodup_sub {α : Type} [DecidableEq α] : ∀ {l m : List α}, l.Nodup → (∀ x ∈ l, x ∈ m) → l.length ≤ m.length
  | [], _, _, _ => Nat.zero_le _
  | x :: l, m, h, hs => by
    rw [List.nodup_cons] at h
    have hx := hs x (by simp)
    have ih := nodup_sub (m := m.erase x) h.2 fun y hy => by
      have : y ≠ x := fun e => h.1 (by rw [← e]; exact hy)
      exact (List.mem_erase_of_ne this).2 (hs y (by simp [hy]))
    rw [List.length_erase_of_mem hx] at ih
    have := List.length_pos_of_mem hx
    rw [List.length_cons]; omega
def stat' (T : List Nd) (l : List Nm) (i : Nat) : Nat := (walkS T 0 (l.take i)).1
theorem stations {B : Nat} {T : List Nd} (wf : TWf B T) {l : List Nm} {k : Nat} (h : walkS T 0 l = (k, 0)) (hk : (nodeAt T k).isSome = true) : l.length + 1 ≤ T.length := by
  have pre : ∀ i, i ≤ l.length → walkS T 0 (l.take i) = (stat' T l i, 0) ∧ (i < l.length → ∃ x, nodeAt T (stat' T l i) = some x ∧ x.kind = 1) := fun i hi => by
    have e := h
    rw [← List.take_append_drop i l] at e
    obtain ⟨d, h1, h2⟩ := walk_pre e
    have hd : stat' T l i = d := by unfold stat'; rw [h1]
    rw [hd]
    refine ⟨h1, fun hlt => ?_⟩
    have hdr : l.drop i = l[i] :: l.drop (i + 1) := List.drop_eq_getElem_cons hlt
    rw [hdr] at h2
    obtain ⟨d2, h3, _⟩ := walk_pre (l := [l[i]]) (m := l.drop (i + 1)) h2
    obtain ⟨n, h4, h5, _⟩ := walk_one h3
    exact ⟨n, h4, h5⟩
  have inj : ∀ i j, i < j → j ≤ l.length → stat' T l i ≠ stat' T l j := fun i j hij hj e => by
    obtain ⟨h1, h2⟩ := pre i (by omega)
    obtain ⟨x, h3, h4⟩ := h2 (by omega)
    have h5 := (pre j hj).1
    rw [← e] at h5
    have := path_one' wf h3 h4 h1 h5
    have := congrArg List.length this
    rw [List.length_take, List.length_take] at this
    omega
  have nd : ((List.range (l.length + 1)).map (stat' T l)).Nodup := by
    rw [List.nodup_iff_pairwise_ne, List.pairwise_map]
    refine List.Pairwise.imp_of_mem (R := (· < ·)) (fun {a b} ha hb hab => inj a b hab (by have := List.mem_range.1 hb; omega)) (List.pairwise_lt_range)
  have sub : ∀ x ∈ (List.range (l.length + 1)).map (stat' T l), x ∈ T.map (·.num) := fun x hx => by
    obtain ⟨i, hi, rfl⟩ := List.mem_map.1 hx
    have hi := List.mem_range.1 hi
    have : (nodeAt T (stat' T l i)).isSome = true := by
      by_cases e : i < l.length
      · obtain ⟨x, h3, _⟩ := (pre i (by omega)).2 e
        rw [h3]; rfl
      · have : stat' T l i = k := by unfold stat'; rw [List.take_of_length_le (by omega), h]
        rw [this]; exact hk
    obtain ⟨n, hn⟩ := Option.isSome_iff_exists.1 this
    obtain ⟨h1, h2⟩ := nodeAt_mem hn
    exact List.mem_map.2 ⟨n, h1, h2⟩
  have := nodup_sub nd sub
  simpa using this
theorem Reach.dn {B : Nat} {T : List Nd} (wf : TWf B T) (h : Reach T) : ∀ n ∈ T, Dn T T.length n.num := fun n hn => by
  obtain ⟨l, hl⟩ := (h n hn).walk
  have := stations wf hl (by rw [mem_nodeAt wf.nd hn]; rfl)
  exact ⟨l, by omega, hl⟩
end Go.Proofs.YtdieogcemmnaaaaGreatDoor



namespace Go.Proofs.YtdieogcemmnaaaaGreatDoor
open Go.Proofs.YtdieogcemmnaaaaGreatDoor RX
set_option maxRecDepth 100000


structure Rng {κ : Type} (l : AL κ) (S : Array Nat) (P : List κ) : Prop where
  nd : P.Nodup
  sub : ∀ k ∈ P, k ∈ l.map (·.1)
  iff : ∀ x ∈ l, (x.2.2 ∈ S ↔ x.1 ∈ P)
theorem Rng.nil {κ : Type} (l : AL κ) : Rng l #[] [] := ⟨List.nodup_nil, fun _ h => by (cases h), fun x _ => by simp⟩
theorem Rng.step {κ : Type} {l : AL κ} {c : Nat} {S : Array Nat} {P : List κ} (hI : MapI l c) (h : Rng l S P) {x : κ × Value × Nat} (hx : x ∈ l) (hS : x.2.2 ∉ S) : x.1 ∉ P ∧ Rng l (S.push x.2.2) (P ++ [x.1]) := by
  have hP : x.1 ∉ P := fun e => hS ((h.iff x hx).2 e)
  refine ⟨hP, List.nodup_append.2 ⟨h.nd, by simp, fun a ha b hb => ?_⟩, fun k hk => ?_, fun y hy => ?_⟩
  · simp only [List.mem_singleton] at hb
    subst hb
    exact fun e => hP (e ▸ ha)
  · rcases List.mem_append.1 hk with hk | hk
    · exact h.sub k hk
    · obtain rfl := List.mem_singleton.1 hk
      exact List.mem_map.2 ⟨x, hx, rfl⟩
  · rw [Array.mem_push, List.mem_append, List.mem_singleton, h.iff y hy]
    constructor
    · rintro (e | e)
      · exact .inl e
      · obtain rfl := map_inj (fun z : κ × Value × Nat => z.2.2) hI.2.nodup hy hx e
        exact .inr rfl
    · rintro (e | e)
      · exact .inl e
      · obtain rfl := map_inj (fun z : κ × Value × Nat => z.1) hI.1 hy hx e
        exact .inr rfl
theorem Rng.done {κ : Type} {l : AL κ} {S : Array Nat} {P : List κ} (h : Rng l S P) (ha : ∀ x ∈ l, x.2.2 ∈ S) : ∀ k ∈ l.map (·.1), k ∈ P := fun k hk => by
  obtain ⟨x, hx, rfl⟩ := List.mem_map.1 hk
  exact (h.iff x hx).1 (ha x hx)


theorem sum_perm {l m : List Nat} (h : l.Perm m) : l.sum = m.sum := by
  induction h with
  | nil => rfl
  | cons x _ ih => simp [ih]
  | swap x y l => simp; omega
  | trans _ _ h1 h2 => exact h1.trans h2
theorem sum_le {g : Nat → Nat} : ∀ {D M : List Nat}, D.Nodup → (∀ d ∈ D, d ∈ M) → (D.map g).sum ≤ (M.map g).sum
  | [], _, _, _ => by simp
  | d :: D, M, hn, hs => by
    rw [List.nodup_cons] at hn
    have hp := List.perm_cons_erase (hs d (by simp))
    have := sum_perm (hp.map g)
    have ih := sum_le (g := g) (D := D) (M := M.erase d) hn.2 fun x hx => (List.mem_erase_of_ne (fun e => hn.1 (by rw [← e]; exact hx))).2 (hs x (by simp [hx]))
    rw [this]; simp; omega
theorem sum_eq {g : Nat → Nat} : ∀ {D M : List Nat}, D.Nodup → M.Nodup → (∀ d ∈ D, d ∈ M) → (∀ m ∈ M, m ∉ D → g m = 0) → (D.map g).sum = (M.map g).sum
  | [], M, _, _, _, hz => by
    have : ∀ M : List Nat, (∀ m ∈ M, g m = 0) → (M.map g).sum = 0 := fun M => by
      induction M with
      | nil => intro _; rfl
      | cons x M ih =>
        intro h
        rw [List.map_cons, List.sum_cons, h x (by simp), ih fun m hm => h m (by simp [hm])]
    rw [this M fun m hm => hz m hm (by simp)]; rfl
  | d :: D, M, hn, hM, hs, hz => by
    rw [List.nodup_cons] at hn
    have hp := List.perm_cons_erase (hs d (by simp))
    have h1 := sum_perm (hp.map g)
    have ih := sum_eq (g := g) (D := D) (M := M.erase d) hn.2 (hM.erase d) (fun x hx => (List.mem_erase_of_ne (fun e => hn.1 (by rw [← e]; exact hx))).2 (hs x (by simp [hx]))) fun m hm hD => by
      have h2 := (List.Nodup.mem_erase_iff hM).1 hm
      exact hz m h2.2 (by simp [h2.1, hD])
    rw [h1]; simp; omega

def entsAt (T : List Nd) (d : Nat) : List (Nm × Nat) := match nodeAt T d with
  | some n => n.ents
  | none => []
def seenD (T : List Nd) (D : List Nat) (k : Nat) : Nat := (D.map fun d => cntE (entsAt T d) k).sum
def isDir (T : List Nd) (d : Nat) : Prop := ∃ n, nodeAt T d = some n ∧ n.kind = 1
structure WholeT (T : List Nd) : Prop where
  root : isDir T 0
  tgt : ∀ n ∈ T, ∀ e ∈ n.ents, (nodeAt T e.2).isSome = true ∧ e.2 ≠ 0
  cnt : ∀ n ∈ T, n.num ≠ 0 → (refs T n.num : Int) = n.links ∧ Rch T n.num
open Classical in
noncomputable def wholeS (T : List Nd) : Bool := decide (WholeT T)

theorem okN_all : ∀ {last : Int} {T : List Nd}, okN last T = true → (∀ n ∈ T, last < n.num ∧ n.num < 64 ∧ goodS n = true) ∧ (T.map (·.num)).Pairwise (· < ·)
  | _, [], _ => ⟨fun _ h => (by cases h), List.Pairwise.nil⟩
  | last, n :: r, h => by
    unfold okN at h
    simp only [Bool.and_eq_true, decide_eq_true_eq] at h
    obtain ⟨⟨⟨h1, h2⟩, h3⟩, h4⟩ := h
    obtain ⟨g1, g2⟩ := okN_all h4
    refine ⟨fun x hx => ?_, ?_⟩
    · rcases List.mem_cons.1 hx with rfl | hx
      · exact ⟨h1, by omega, h3⟩
      · have := g1 x hx; exact ⟨by omega, this.2⟩
    · rw [List.map_cons, List.pairwise_cons]
      exact ⟨fun y hy => by obtain ⟨x, hx, rfl⟩ := List.mem_map.1 hy; have := (g1 x hx).1; omega, g2⟩
structure Prep (T : List Nd) : Prop where
  nd : (T.map (·.num)).Nodup
  few : ∀ n ∈ T, n.num < 64
  good : ∀ n ∈ T, goodS n = true
theorem Prep.of {T : List Nd} (h : okN (-1) T = true) : Prep T := by
  obtain ⟨h1, h2⟩ := okN_all h
  exact ⟨h2.imp fun hab e => by omega, fun n hn => (h1 n hn).2.1, fun n hn => (h1 n hn).2.2⟩
theorem goodS_dir {n : Nd} (h : goodS n = true) (hk : n.kind = 1) : n.links = 1 ∧ (n.ents.map (·.1)).Nodup := by
  unfold goodS at h
  rw [if_pos hk] at h
  simp only [Bool.and_eq_true, decide_eq_true_eq] at h
  exact ⟨h.1.2, nodup_of' (okE_lt h.2).2.1⟩
theorem goodS_file {n : Nd} (h : goodS n = true) (hk : n.kind ≠ 1) : n.ents = [] := by
  unfold goodS at h
  rw [if_neg hk] at h
  split at h
  · simp only [Bool.and_eq_true, decide_eq_true_eq] at h; exact h.2
  · cases h
theorem goodS_nd {n : Nd} (h : goodS n = true) : (n.ents.map (·.1)).Nodup := by
  by_cases hk : n.kind = 1
  · exact (goodS_dir h hk).2
  · rw [goodS_file h hk]; exact List.nodup_nil
variable {T : List Nd}
theorem Prep.at (p : Prep T) {n : Nd} (hn : n ∈ T) : nodeAt T n.num = some n := mem_nodeAt p.nd hn
theorem Prep.ents (p : Prep T) {n : Nd} (hn : n ∈ T) : entsAt T n.num = n.ents := by unfold entsAt; rw [p.at hn]
theorem Prep.refs (p : Prep T) (k : Nat) : refs T k = ((T.map (·.num)).map fun d => cntE (entsAt T d) k).sum := by
  unfold Go.Proofs.YtdieogcemmnaaaaGreatDoor.refs
  rw [List.map_map]
  congr 1
  exact List.map_congr_left fun n hn => by simp only [Function.comp_apply]; rw [p.ents hn]
theorem isDir.mem {d : Nat} (h : isDir T d) : d ∈ T.map (·.num) := by
  obtain ⟨n, h1, _⟩ := h
  obtain ⟨h2, h3⟩ := nodeAt_mem h1
  exact List.mem_map.2 ⟨n, h2, h3⟩
theorem Prep.le (p : Prep T) {D : List Nat} (hD : D.Nodup) (hd : ∀ d ∈ D, isDir T d) (k : Nat) : seenD T D k ≤ Go.Proofs.YtdieogcemmnaaaaGreatDoor.refs T k := by
  rw [p.refs]
  exact sum_le hD fun d h => (hd d h).mem
theorem Prep.eq (p : Prep T) {D : List Nat} (hD : D.Nodup) (hd : ∀ d ∈ D, isDir T d) (hall : ∀ d, isDir T d → d ∈ D) (k : Nat) : seenD T D k = Go.Proofs.YtdieogcemmnaaaaGreatDoor.refs T k := by
  rw [p.refs]
  refine sum_eq hD p.nd (fun d h => (hd d h).mem) fun m hm hn => ?_
  obtain ⟨n, h1, rfl⟩ := List.mem_map.1 hm
  show cntE (entsAt T n.num) k = 0
  have : n.kind ≠ 1 := fun e => hn (hall _ ⟨n, p.at h1, e⟩)
  rw [p.ents h1, goodS_file (p.good n h1) this]; rfl
theorem seenD_cons (T : List Nd) (u : Nat) (D : List Nat) (k : Nat) : seenD T (u :: D) k = cntE (entsAt T u) k + seenD T D k := by simp [seenD]
theorem cntE_sub {l m : List (Nm × Nat)} (hn : l.Nodup) (hs : ∀ e ∈ l, e ∈ m) (k : Nat) : cntE l k ≤ cntE m k := by
  unfold cntE
  rw [List.countP_eq_length_filter, List.countP_eq_length_filter]
  refine nodup_sub (hn.filter _) fun e he => ?_
  rw [List.mem_filter] at he ⊢
  exact ⟨hs e he.1, he.2⟩
theorem cntE_snoc (l : List (Nm × Nat)) (e : Nm × Nat) (k : Nat) : cntE (l ++ [e]) k = cntE l k + if e.2 = k then 1 else 0 := by
  unfold cntE
  rw [List.countP_append]; simp [List.countP_cons]
structure WI (T : List Nd) (D st : List Nat) (f : Nat → Nat) : Prop where
  nd : (D ++ st).Nodup
  dir : ∀ d ∈ D ++ st, isDir T d ∧ Rch T d
  root : 0 ∈ D ++ st
  one : ∀ d ∈ D ++ st, d ≠ 0 → 1 ≤ f d
  all : ∀ d, isDir T d → d ≠ 0 → 1 ≤ f d → d ∈ D ++ st
theorem WI.init (h : isDir T 0) : WI T [] [0] fun _ => 0 := by
  refine ⟨by simp, fun d hd => ?_, by simp, fun d hd h0 => ?_, fun d _ _ h1 => by omega⟩
  · obtain rfl : d = 0 := by simpa using hd
    exact ⟨h, .root⟩
  · exact absurd (by simpa using hd) h0
theorem WI.pop {D st : List Nat} {u : Nat} {f : Nat → Nat} (h : WI T D (st ++ [u]) f) : WI T (u :: D) st f := by
  have hp : (D ++ (st ++ [u])).Perm (u :: D ++ st) := by
    rw [← List.append_assoc]
    exact List.perm_append_comm (l₁ := D ++ st) (l₂ := [u])
  have hm : ∀ d, d ∈ D ++ (st ++ [u]) ↔ d ∈ u :: D ++ st := fun d => hp.mem_iff
  exact ⟨hp.nodup h.nd, fun d hd => h.dir d ((hm d).2 hd), (hm 0).1 h.root, fun d hd => h.one d ((hm d).2 hd), fun d a b c => (hm d).1 (h.all d a b c)⟩
theorem WI.file {D st : List Nat} {f : Nat → Nat} (h : WI T D st f) {k : Nat} (hk : ¬ isDir T k) : WI T D st fun q => if q = k then f k + 1 else f q := by
  refine ⟨h.nd, h.dir, h.root, fun d hd h0 => ?_, fun d hd h0 h1 => ?_⟩
  · have := h.one d hd h0
    show 1 ≤ (if d = k then f k + 1 else f d)
    split
    · omega
    · exact this
  · have h1 : 1 ≤ (if d = k then f k + 1 else f d) := h1
    rw [if_neg (fun e => hk (by rw [← e]; exact hd))] at h1
    exact h.all d hd h0 h1
theorem WI.push {D st : List Nat} {f : Nat → Nat} (h : WI T D st f) {k : Nat} (hk : isDir T k) (hr : Rch T k) (h0 : k ≠ 0) (hf : f k = 0) : WI T D (st ++ [k]) fun q => if q = k then f k + 1 else f q := by
  have hn : k ∉ D ++ st := fun e => by have := h.one k e h0; omega
  have hm : ∀ d, d ∈ D ++ (st ++ [k]) ↔ d ∈ D ++ st ∨ d = k := fun d => by simp [or_assoc]
  refine ⟨?_, fun d hd => ?_, (hm 0).2 (.inl h.root), fun d hd hd0 => ?_, fun d hd hd0 h1 => ?_⟩
  · rw [← List.append_assoc]
    refine List.nodup_append.2 ⟨h.nd, by simp, fun a ha b hb e => ?_⟩
    obtain rfl := List.mem_singleton.1 hb
    exact hn (e ▸ ha)
  · rcases (hm d).1 hd with hd | rfl
    · exact h.dir d hd
    · exact ⟨hk, hr⟩
  · show 1 ≤ (if d = k then f k + 1 else f d)
    split
    · omega
    · rename_i e
      exact h.one d (((hm d).1 hd).resolve_right e) hd0
  · by_cases e : d = k
    · exact (hm d).2 (.inr e)
    · have h1 : 1 ≤ (if d = k then f k + 1 else f d) := h1
      rw [if_neg e] at h1
      exact (hm d).2 (.inl (h.all d hd hd0 h1))
theorem WI.few {D st : List Nat} {f : Nat → Nat} (h : WI T D st f) : D.length + st.length ≤ T.length := by
  have := nodup_sub h.nd (m := T.map (·.num)) fun d hd => (h.dir d hd).1.mem
  simpa using this
structure WEnd (T : List Nd) (D : List Nat) (f : Nat → Nat) : Prop where
  wi : WI T D [] f
  f : ∀ k, f k = seenD T D k
  tgt : ∀ d ∈ D, ∀ e ∈ entsAt T d, (nodeAt T e.2).isSome = true ∧ e.2 ≠ 0
theorem Step.ent {d k : Nat} {w : Nm} (h : Step T d w k) : isDir T d ∧ (w, k) ∈ entsAt T d := by
  obtain ⟨n, h1, h2, h3⟩ := h
  exact ⟨⟨n, h1, h2⟩, by unfold entsAt; rw [h1]; exact lk_mem h3⟩
theorem Prep.step (p : Prep T) {d k : Nat} {w : Nm} (h : isDir T d) (he : (w, k) ∈ entsAt T d) : Step T d w k := by
  obtain ⟨n, h1, h2⟩ := h
  refine ⟨n, h1, h2, ?_⟩
  unfold entsAt at he
  rw [h1] at he
  exact lk_of_mem (goodS_nd (p.good n (nodeAt_mem h1).1)) he
theorem seenD_pos {D : List Nat} {d k : Nat} {w : Nm} (hd : d ∈ D) (he : (w, k) ∈ entsAt T d) : 1 ≤ seenD T D k := by
  have h1 := cntE_pos he
  have h2 := sum_le (g := fun d => cntE (entsAt T d) k) (D := [d]) (M := D) (by simp) fun x hx => by obtain rfl := List.mem_singleton.1 hx; exact hd
  simp only [List.map_cons, List.map_nil, List.sum_cons, List.sum_nil] at h2
  unfold seenD; omega
theorem seenD_ex {D : List Nat} {k : Nat} (h : seenD T D k ≠ 0) : ∃ d ∈ D, ∃ w, (w, k) ∈ entsAt T d := by
  induction D with
  | nil => exact absurd rfl h
  | cons u D ih =>
    rw [seenD_cons] at h
    by_cases h1 : cntE (entsAt T u) k = 0
    · obtain ⟨d, hd, w, hw⟩ := ih (by omega)
      exact ⟨d, by simp [hd], w, hw⟩
    · have : 0 < (entsAt T u).countP fun e => decide (e.2 = k) := Nat.pos_of_ne_zero h1
      obtain ⟨e, h2, h3⟩ := List.countP_pos_iff.1 this
      have h3 : e.2 = k := by simpa using h3
      exact ⟨u, by simp, e.1, by rw [← h3]; exact h2⟩
theorem WEnd.dirs {D : List Nat} {f : Nat → Nat} (h : WEnd T D f) {k : Nat} (hr : Rch T k) : isDir T k → k ∈ D := by
  induction hr with
  | root => exact fun _ => by simpa using h.wi.root
  | @step d k w _ hs ih =>
    intro hk
    obtain ⟨h1, h2⟩ := hs.ent
    have hd := ih h1
    by_cases h0 : k = 0
    · subst h0; simpa using h.wi.root
    · have := seenD_pos hd h2
      have := h.wi.all k hk h0 (by rw [h.f]; exact this)
      simpa using this
theorem WEnd.no (p : Prep T) {D : List Nat} {f : Nat → Nat} (h : WEnd T D f) {n : Nd} (hn : n ∈ T) (h0 : n.num ≠ 0) (hb : f n.num = 0 ∨ (f n.num : Int) ≠ n.links) : ¬ WholeT T := fun w => by
  have hall : ∀ d, isDir T d → d ∈ D := fun d hd => by
    by_cases e : d = 0
    · subst e; simpa using h.wi.root
    · obtain ⟨x, hx, hk⟩ := hd
      obtain ⟨h1, h2⟩ := nodeAt_mem hx
      have := (w.cnt x h1 (by omega)).2
      rw [h2] at this
      exact h.dirs this ⟨x, hx, hk⟩
  have hD : D.Nodup := by simpa using h.wi.nd
  have hdir : ∀ d ∈ D, isDir T d := fun d hd => (h.wi.dir d (by simpa using hd)).1
  have he := p.eq hD hdir hall n.num
  obtain ⟨h1, h2⟩ := w.cnt n hn h0
  rw [h.f, he] at hb
  rcases hb with hb | hb
  · generalize hk : n.num = k at h2
    cases h2 with
    | root => exact h0 hk
    | @step d _ nm hd hs =>
      obtain ⟨g1, g2⟩ := hs.ent
      have := seenD_pos (hall _ g1) g2
      rw [← hk, he] at this
      omega
  · exact hb h1
theorem WEnd.yes (p : Prep T) {D : List Nat} {f : Nat → Nat} (h : WEnd T D f) (ha : ∀ n ∈ T, n.num ≠ 0 → f n.num ≠ 0 ∧ (f n.num : Int) = n.links) : WholeT T := by
  have hall : ∀ d, isDir T d → d ∈ D := fun d hd => by
    by_cases e : d = 0
    · subst e; simpa using h.wi.root
    · obtain ⟨x, hx, hk⟩ := hd
      obtain ⟨h1, h2⟩ := nodeAt_mem hx
      have := (ha x h1 (by omega)).1
      have := h.wi.all d ⟨x, hx, hk⟩ e (by rw [← h2]; omega)
      simpa using this
  have hD : D.Nodup := by simpa using h.wi.nd
  have hdir : ∀ d ∈ D, isDir T d ∧ Rch T d := fun d hd => h.wi.dir d (by simpa using hd)
  have he := p.eq hD (fun d hd => (hdir d hd).1) hall
  refine ⟨(hdir 0 (by simpa using h.wi.root)).1, fun n hn e hE => ?_, fun n hn h0 => ?_⟩
  · by_cases hk : n.kind = 1
    · exact h.tgt n.num (hall _ ⟨n, p.at hn, hk⟩) e (by rw [p.ents hn]; exact hE)
    · rw [goodS_file (p.good n hn) hk] at hE; cases hE
  · obtain ⟨h1, h2⟩ := ha n hn h0
    rw [h.f] at h1 h2
    refine ⟨by rw [← he]; exact h2, ?_⟩
    obtain ⟨d, hd, w, hw⟩ := seenD_ex h1
    exact .step (hdir d hd).2 (p.step (hdir d hd).1 hw)
structure WIn (T : List Nd) (u : Nat) (D st : List Nat) (P : List (Nm × Nat)) (f : Nat → Nat) : Prop where
  wi : WI T (u :: D) st f
  f : ∀ k, f k = seenD T D k + cntE P k
  tgt : ∀ d ∈ D, ∀ e ∈ entsAt T d, (nodeAt T e.2).isSome = true ∧ e.2 ≠ 0
  nd : (P.map (·.1)).Nodup
  sub : ∀ e ∈ P, e ∈ entsAt T u ∧ (nodeAt T e.2).isSome = true ∧ e.2 ≠ 0
theorem nodup_map {α β : Type} {g : α → β} {l : List α} (h : (l.map g).Nodup) : l.Nodup := by
  rw [List.nodup_iff_pairwise_ne, List.pairwise_map] at h
  exact h.imp fun hab e => hab (by rw [e])
theorem WIn.lt (p : Prep T) {u : Nat} {D st : List Nat} {P : List (Nm × Nat)} {f : Nat → Nat} (h : WIn T u D st P f) {e : Nm × Nat} (he : e ∈ entsAt T u) (hP : e.1 ∉ P.map (·.1)) : f e.2 + 1 ≤ refs T e.2 := by
  have h1 : cntE (P ++ [e]) e.2 ≤ cntE (entsAt T u) e.2 := by
    refine cntE_sub (List.nodup_append.2 ⟨nodup_map h.nd, by simp, fun a ha b hb q => ?_⟩) (fun x hx => ?_) _
    · obtain rfl := List.mem_singleton.1 hb
      subst q
      exact hP (List.mem_map.2 ⟨a, ha, rfl⟩)
    · rcases List.mem_append.1 hx with hx | hx
      · exact (h.sub x hx).1
      · obtain rfl := List.mem_singleton.1 hx; exact he
  have hn : (u :: D).Nodup := (List.nodup_append.1 h.wi.nd).1
  have h2 := p.le hn (fun d hd => (h.wi.dir d (by simp only [List.mem_append]; exact .inl hd)).1) e.2
  rw [seenD_cons] at h2
  rw [cntE_snoc, if_pos rfl] at h1
  have := h.f e.2
  omega
theorem WIn.snoc {u : Nat} {D st st' : List Nat} {P : List (Nm × Nat)} {f : Nat → Nat} (h : WIn T u D st P f) {e : Nm × Nat} (he : e ∈ entsAt T u) (hP : e.1 ∉ P.map (·.1)) (h1 : (nodeAt T e.2).isSome = true) (h0 : e.2 ≠ 0)
    (hw : WI T (u :: D) st' fun q => if q = e.2 then f e.2 + 1 else f q) : WIn T u D st' (P ++ [e]) fun q => if q = e.2 then f e.2 + 1 else f q := by
  refine ⟨hw, fun k => ?_, h.tgt, ?_, fun x hx => ?_⟩
  · rw [cntE_snoc]
    by_cases q : k = e.2
    · subst q; simp [h.f]; omega
    · have q2 : ¬ e.2 = k := fun q2 => q q2.symm
      simp [h.f, q, q2]
  · rw [List.map_append, List.nodup_append]
    refine ⟨h.nd, by simp, fun a ha b hb q => ?_⟩
    simp only [List.map_cons, List.map_nil, List.mem_singleton] at hb
    subst hb; subst q
    exact hP ha
  · rcases List.mem_append.1 hx with hx | hx
    · exact h.sub x hx
    · obtain rfl := List.mem_singleton.1 hx; exact ⟨he, h1, h0⟩
theorem WIn.out {u : Nat} {D st : List Nat} {P : List (Nm × Nat)} {f : Nat → Nat} (p : Prep T) (h : WIn T u D st P f) (hall : ∀ e ∈ entsAt T u, e.1 ∈ P.map (·.1)) :
    (∀ k, f k = seenD T (u :: D) k) ∧ ∀ d ∈ u :: D, ∀ e ∈ entsAt T d, (nodeAt T e.2).isSome = true ∧ e.2 ≠ 0 := by
  have hnd : ((entsAt T u).map (·.1)).Nodup := by
    obtain ⟨n, h1, _⟩ := (h.wi.dir u (by simp)).1
    unfold entsAt; rw [h1]; exact goodS_nd (p.good n (nodeAt_mem h1).1)
  have hmem : ∀ e ∈ entsAt T u, e ∈ P := fun e he => by
    obtain ⟨x, hx, hx1⟩ := List.mem_map.1 (hall e he)
    obtain rfl := map_inj (fun z : Nm × Nat => z.1) hnd (h.sub x hx).1 he hx1
    exact hx
  refine ⟨fun k => ?_, fun d hd e he => ?_⟩
  · have h1 := cntE_sub (nodup_map h.nd) (fun e he => (h.sub e he).1) k
    have h2 := cntE_sub (nodup_map hnd) hmem k
    rw [seenD_cons, h.f]; omega
  · rcases List.mem_cons.1 hd with rfl | hd
    · exact (h.sub e (hmem e he)).2
    · exact h.tgt d hd e he
theorem sum_most (g : Nd → Nat) (M : Nat) : ∀ {T : List Nd}, (∀ n ∈ T, g n ≤ M) → (T.map g).sum ≤ T.length * M
  | [], _ => by simp
  | n :: r, h => by
    have := sum_most g M (T := r) fun x hx => h x (by simp [hx])
    have := h n (by simp)
    rw [List.map_cons, List.sum_cons, List.length_cons, Nat.add_mul]; omega
theorem Prep.most (p : Prep T) {M : Nat} (h : ∀ n ∈ T, n.ents.length ≤ M) (k : Nat) : Go.Proofs.YtdieogcemmnaaaaGreatDoor.refs T k ≤ 64 * M := by
  have h1 := sum_most (fun n => cntE n.ents k) M (T := T) fun n hn => Nat.le_trans List.countP_le_length (h n hn)
  have h2 : T.length ≤ 64 := by
    have := nodup_sub p.nd (m := List.range 64) fun x hx => by
      obtain ⟨n, hn, rfl⟩ := List.mem_map.1 hx
      exact List.mem_range.2 (p.few n hn)
    simpa using this
  have h3 : T.length * M ≤ 64 * M := Nat.mul_le_mul_right _ h2
  exact Nat.le_trans h1 h3
end Go.Proofs.YtdieogcemmnaaaaGreatDoor



namespace Go.Proofs.YtdieogcemmnaaaaGreatDoor.RX
set_option maxRecDepth 100000
-- (*tideline/tree.Tree).whole: ρ := [.n t, .p tP]
def t_tWhole : T :=
(.read (.load 123 (.tmp 14)) 123 [(14, .w (.a (.ptr (.v 0) 0)))] [(.b (.v 0), .prop 1)] [.n] (.w (.a (.map (.v 2))))
(.read (.lookup 123 (.tmp 15) (.const (.int .i64 0)) false) 121 [(15, .w (.a (.map (.v 2))))] [(.b (.v 0), .prop 1)] [.v] (.w (.a (.val 3)))
(.read (.binOp .eql 121 (.tmp 17) (.const (.pointer none)) 121) 4 [(17, .w (.a (.val 3)))] [(.b (.v 0), .prop 1)] [.c] (.w (.a (.bool (.v 4))))
(.br (.v 4)
(.ret (.w (.a (.bool (.c false)))) [(.b (.v 0), .prop 1)])
(.read (.nilCheck (.tmp 20)) 0 [(20, .w (.a (.val 3)))] [(.b (.v 0), .prop 1)] [.n] (.w (.a (.ptr (.v 5) 0)))
(.read (.load 3 (.tmp 22)) 3 [(22, .w (.a (.ptr (.v 5) 0)))] [(.b (.v 0), .prop 1)] [.i] (.w (.a (.int .i64 (.v 6))))
(.br (.o1 .not (.o2 .eq (.v 6) (.i 1)))
(.ret (.w (.a (.bool (.c false)))) [(.b (.v 0), .prop 1)])
(.new
(.new
(.loop [.a, .n, .n, .c, .p, .p] [.a (.b (.v 8) 0), .e (.o2 .nadd (.n 1) (.n 0)), .e (.o2 .nadd (.n 1) (.n 0)), .e (.o1 .not (.o1 .not (.c false))), .p [(.b (.v 8), .cells [.val 3] 121)], .p [(.b (.v 7), .cells [.int .i64 (.i 0), .int .i64 (.i 0), .int .i64 (.i 0), .int .i64 (.i 0), .int .i64 (.i 0), .int .i64 (.i 0), .int .i64 (.i 0), .int .i64 (.i 0), .int .i64 (.i 0), .int .i64 (.i 0), .int .i64 (.i 0), .int .i64 (.i 0), .int .i64 (.i 0), .int .i64 (.i 0), .int .i64 (.i 0), .int .i64 (.i 0), .int .i64 (.i 0), .int .i64 (.i 0), .int .i64 (.i 0), .int .i64 (.i 0), .int .i64 (.i 0), .int .i64 (.i 0), .int .i64 (.i 0), .int .i64 (.i 0), .int .i64 (.i 0), .int .i64 (.i 0), .int .i64 (.i 0), .int .i64 (.i 0), .int .i64 (.i 0), .int .i64 (.i 0), .int .i64 (.i 0), .int .i64 (.i 0), .int .i64 (.i 0), .int .i64 (.i 0), .int .i64 (.i 0), .int .i64 (.i 0), .int .i64 (.i 0), .int .i64 (.i 0), .int .i64 (.i 0), .int .i64 (.i 0), .int .i64 (.i 0), .int .i64 (.i 0), .int .i64 (.i 0), .int .i64 (.i 0), .int .i64 (.i 0), .int .i64 (.i 0), .int .i64 (.i 0), .int .i64 (.i 0), .int .i64 (.i 0), .int .i64 (.i 0), .int .i64 (.i 0), .int .i64 (.i 0), .int .i64 (.i 0), .int .i64 (.i 0), .int .i64 (.i 0), .int .i64 (.i 0), .int .i64 (.i 0), .int .i64 (.i 0), .int .i64 (.i 0), .int .i64 (.i 0), .int .i64 (.i 0), .int .i64 (.i 0), .int .i64 (.i 0), .int .i64 (.i 0)] 147)]]
(.br (.o2 .lt (.i 0) (.o1 .ofNat (.v 10)))
(.need (.o1 (.inr .i64) (.o2 .sub (.o1 .ofNat (.v 10)) (.i 1)))
(.need (.o2 .le (.i 0) (.o2 .sub (.o1 .ofNat (.v 10)) (.i 1)))
(.need (.o2 .lt (.o2 .sub (.o1 .ofNat (.v 10)) (.i 1)) (.o1 .ofNat (.v 10)))
(.need (.o1 .isSome (.v 9))
(.read (.load 121 (.tmp 35)) 121 [(35, .w (.a (.eptr 9 (.o2 .sub (.o1 .ofNat (.v 10)) (.i 1)) 1 0)))] [(.a 9, .prop 13), (.b (.v 0), .prop 1)] [.v] (.w (.a (.val 15)))
(.read (.slice 291 (.tmp 37) none (some (.tmp 40)) none) 291 [(37, .w (.a (.sl (.v 9) (.v 10) (.v 11)))), (40, .w (.a (.int .i64 (.o2 .sub (.o1 .ofNat (.v 10)) (.i 1)))))] [(.a 9, .prop 13), (.b (.v 0), .prop 1)] [.a, .n, .n] (.w (.a (.sl (.v 16) (.v 17) (.v 18))))
(.read (.nilCheck (.tmp 42)) 0 [(42, .w (.a (.val 15)))] [(.a 9, .prop 13), (.b (.v 0), .prop 1)] [.n] (.w (.a (.ptr (.v 19) 0)))
(.read (.load 131 (.tmp 44)) 131 [(44, .w (.a (.ptr (.v 19) 3)))] [(.a 9, .prop 13), (.b (.v 0), .prop 1)] [.n] (.w (.a (.map (.v 20))))
(.op (.range 131 (.tmp 45)) 0 [(45, .w (.a (.map (.v 20))))] [(.a 9, .prop 13), (.b (.v 0), .prop 1)] [.n, .p, .p] (.w (.a (.ptr (.v 21) 0))) [(.b (.v 21), .prop 22), (.a 9, .prop 23), (.b (.v 0), .prop 1)]
(.loop [.c, .a, .n, .n, .p, .p, .p] [.e (.o1 .not (.o1 .not (.v 12))), .a (.v 16), .e (.o2 .nadd (.v 17) (.n 0)), .e (.o2 .nadd (.v 18) (.n 0)), .p [(.b (.v 21), .prop 22)], .p [(.a 9, .prop 23)], .p [(.b (.v 7), .prop 14)]]
(.op (.next (.tmp 46) false) 0 [(46, .w (.a (.ptr (.v 21) 0)))] [(.b (.v 21), .prop 28), (.a 9, .prop 29), (.b (.v 0), .prop 1)] [.c, .v, .v, .p] (.nx 31 32 33) [(.b (.v 21), .prop 34), (.a 9, .prop 29), (.b (.v 0), .prop 1)]
(.br (.v 31)
(.read (.entry (.tmp 46)) 0 [(46, .w (.a (.ptr (.v 21) 0)))] [(.b (.v 21), .prop 34), (.a 9, .prop 29), (.b (.v 0), .prop 1)] [.s, .i] (.tup [.a (.str (.v 35)), .a (.int .i64 (.v 36))])
(.read (.load 123 (.tmp 53)) 123 [(53, .w (.a (.ptr (.v 0) 0)))] [(.b (.v 0), .prop 1)] [.n] (.w (.a (.map (.v 37))))
(.read (.lookup 123 (.tmp 54) (.tmp 55) false) 121 [(54, .w (.a (.map (.v 37)))), (55, .w (.a (.int .i64 (.v 36))))] [(.b (.v 0), .prop 1)] [.v] (.w (.a (.val 38)))
(.read (.binOp .eql 121 (.tmp 57) (.const (.pointer none)) 121) 4 [(57, .w (.a (.val 38)))] [(.b (.v 0), .prop 1)] [.c] (.w (.a (.bool (.v 39))))
(.br (.v 39)
(.ret (.w (.a (.bool (.c false)))) [(.b (.v 0), .prop 1)])
(.br (.o2 .eq (.v 36) (.i 0))
(.ret (.w (.a (.bool (.c false)))) [(.b (.v 0), .prop 1)])
(.read (.indexAddr 147 (.tmp 4) (.tmp 63)) 0 [(4, .w (.a (.ptr (.v 7) 0))), (63, .w (.a (.int .i64 (.v 36))))] [(.b (.v 7), .prop 30)] [.v] (.w (.a (.val 40)))
(.read (.load 3 (.tmp 64)) 3 [(64, .w (.a (.val 40)))] [(.b (.v 7), .prop 30)] [.i] (.w (.a (.int .i64 (.v 41))))
(.need (.o1 (.inr .i64) (.o2 .add (.v 41) (.i 1)))
(.read (.indexAddr 147 (.tmp 4) (.tmp 63)) 0 [(4, .w (.a (.ptr (.v 7) 0))), (63, .w (.a (.int .i64 (.v 36))))] [(.b (.v 7), .prop 30)] [.v] (.w (.a (.val 42)))
(.op (.store 3 (.tmp 67) (.tmp 66)) 0 [(67, .w (.a (.val 42))), (66, .w (.a (.int .i64 (.o2 .add (.v 41) (.i 1)))))] [(.b (.v 7), .prop 30)] [.p] (.tup []) [(.b (.v 7), .prop 43)]
(.read (.indexAddr 147 (.tmp 4) (.tmp 68)) 0 [(4, .w (.a (.ptr (.v 7) 0))), (68, .w (.a (.int .i64 (.v 36))))] [(.b (.v 7), .prop 43)] [.v] (.w (.a (.val 44)))
(.read (.load 3 (.tmp 69)) 3 [(69, .w (.a (.val 44)))] [(.b (.v 7), .prop 43)] [.i] (.w (.a (.int .i64 (.v 45))))
(.read (.nilCheck (.tmp 71)) 0 [(71, .w (.a (.val 38)))] [(.b (.v 0), .prop 1)] [.n] (.w (.a (.ptr (.v 46) 0)))
(.read (.load 3 (.tmp 73)) 3 [(73, .w (.a (.ptr (.v 46) 1)))] [(.b (.v 0), .prop 1)] [.i] (.w (.a (.int .i64 (.v 47))))
(.br (.o2 .lt (.v 47) (.v 45))
(.ret (.w (.a (.bool (.c false)))) [(.b (.v 0), .prop 1)])
(.read (.nilCheck (.tmp 76)) 0 [(76, .w (.a (.val 38)))] [(.b (.v 0), .prop 1)] [.n] (.w (.a (.ptr (.v 48) 0)))
(.read (.load 3 (.tmp 78)) 3 [(78, .w (.a (.ptr (.v 48) 0)))] [(.b (.v 0), .prop 1)] [.i] (.w (.a (.int .i64 (.v 49))))
(.br (.o2 .eq (.v 49) (.i 1))
(.new
(.op (.call ⟨.builtin .append, #[.tmp 81, .tmp 83], #[291, 291]⟩) 291 [(81, .w (.a (.sl (.v 25) (.v 26) (.v 27)))), (83, .w (.a (.sl (.b (.v 50) 0) (.n 1) (.n 1))))] [(.a 9, .prop 29), (.b (.v 0), .prop 1), (.b (.v 50), .cells [.val 38] 121)] [.a, .n, .n, .p, .p] (.w (.a (.sl (.v 51) (.v 52) (.v 53)))) [(.a 51, .prop 54), (.a 9, .prop 55), (.b (.v 0), .prop 1)]
(.again 0 [.e (.o1 .not (.o1 .not (.v 24))), .a (.v 51), .e (.o2 .nadd (.v 52) (.n 0)), .e (.o2 .nadd (.v 53) (.n 0)), .p [(.b (.v 21), .prop 34)], .p [(.a 9, .prop 55)], .p [(.b (.v 7), .prop 43)]])))
(.again 0 [.e (.o1 .not (.o1 .not (.v 24))), .a (.v 25), .e (.o2 .nadd (.v 26) (.n 0)), .e (.o2 .nadd (.v 27) (.n 0)), .p [(.b (.v 21), .prop 34)], .p [(.a 9, .prop 29)], .p [(.b (.v 7), .prop 43)]]))))))))))))))))))))
(.again 1 [.a (.v 25), .e (.o2 .nadd (.v 26) (.n 0)), .e (.o2 .nadd (.v 27) (.n 0)), .e (.o1 .not (.o1 .not (.v 24))), .p [(.a 9, .prop 29)], .p [(.b (.v 7), .prop 30)]])))))))))))))
(.read (.load 123 (.tmp 87)) 123 [(87, .w (.a (.ptr (.v 0) 0)))] [(.b (.v 0), .prop 1)] [.n] (.w (.a (.map (.v 15))))
(.op (.range 123 (.tmp 88)) 0 [(88, .w (.a (.map (.v 15))))] [(.b (.v 0), .prop 1)] [.n, .p, .p] (.w (.a (.ptr (.v 16) 0))) [(.b (.v 16), .prop 17), (.b (.v 0), .prop 18)]
(.loop [.c, .p] [.e (.o1 .not (.o1 .not (.v 12))), .p [(.b (.v 16), .prop 17)]]
(.op (.next (.tmp 89) false) 0 [(89, .w (.a (.ptr (.v 16) 0)))] [(.b (.v 16), .prop 20), (.b (.v 0), .prop 18)] [.c, .v, .v, .p] (.nx 21 22 23) [(.b (.v 16), .prop 24), (.b (.v 0), .prop 18)]
(.br (.v 21)
(.read (.entry (.tmp 89)) 0 [(89, .w (.a (.ptr (.v 16) 0)))] [(.b (.v 16), .prop 24), (.b (.v 0), .prop 18)] [.i, .v] (.tup [.a (.int .i64 (.v 25)), .a (.val 26)])
(.br (.o1 .not (.o2 .eq (.v 25) (.i 0)))
(.read (.indexAddr 147 (.tmp 4) (.tmp 98)) 0 [(4, .w (.a (.ptr (.v 7) 0))), (98, .w (.a (.int .i64 (.v 25))))] [(.b (.v 7), .prop 14)] [.v] (.w (.a (.val 27)))
(.read (.load 3 (.tmp 99)) 3 [(99, .w (.a (.val 27)))] [(.b (.v 7), .prop 14)] [.i] (.w (.a (.int .i64 (.v 28))))
(.br (.o2 .eq (.v 28) (.i 0))
(.ret (.w (.a (.bool (.c false)))) [(.b (.v 0), .prop 18)])
(.read (.indexAddr 147 (.tmp 4) (.tmp 103)) 0 [(4, .w (.a (.ptr (.v 7) 0))), (103, .w (.a (.int .i64 (.v 25))))] [(.b (.v 7), .prop 14)] [.v] (.w (.a (.val 29)))
(.read (.load 3 (.tmp 104)) 3 [(104, .w (.a (.val 29)))] [(.b (.v 7), .prop 14)] [.i] (.w (.a (.int .i64 (.v 30))))
(.read (.nilCheck (.tmp 106)) 0 [(106, .w (.a (.val 26)))] [(.b (.v 0), .prop 18)] [.n] (.w (.a (.ptr (.v 31) 0)))
(.read (.load 3 (.tmp 108)) 3 [(108, .w (.a (.ptr (.v 31) 1)))] [(.b (.v 0), .prop 18)] [.i] (.w (.a (.int .i64 (.v 32))))
(.br (.o1 .not (.o2 .eq (.v 30) (.v 32)))
(.ret (.w (.a (.bool (.c false)))) [(.b (.v 0), .prop 18)])
(.again 0 [.e (.o1 .not (.o1 .not (.v 19))), .p [(.b (.v 16), .prop 24)]])))))))))
(.again 0 [.e (.o1 .not (.o1 .not (.v 19))), .p [(.b (.v 16), .prop 24)]])))
(.ret (.w (.a (.bool (.c true)))) [(.b (.v 0), .prop 18)])))))))))))))))))
theorem tree_tWhole : tree Tryz.prog { absT := [147, 3], opq := [121], hv := [(0, [.b (.v 8), .b (.v 7)]), (2, [.b (.v 21), .a 9, .b (.v 7)]), (4, [.b (.v 16)])], ent := [(49, [9, 3]), (92, [3, 121])], stay := [.b (.v 0)], opn := true, rdf := true, hlk := [(0, 8, .b (.v 0))], peek := [121] } Tryz.f161 [.a (.ptr (.v 0) 0)] [(.b (.v 0), .prop 1)] 2 = t_tWhole := by kernel_rfl
end Go.Proofs.YtdieogcemmnaaaaGreatDoor.RX



namespace Go.Proofs.YtdieogcemmnaaaaGreatDoor
set_option linter.unusedSimpArgs false
set_option linter.unusedVariables false
open Go.Proofs.YtdieogcemmnaaaaGreatDoor RX
set_option maxRecDepth 100000

def Own (R0 h0 : PH) : HP := ⟨fun R h => R0.le R ∧ h0.le h, fun l l' ⟨a, b⟩ => ⟨a.trans l, b.trans l'⟩⟩
theorem Tri.frz {P : Program} {f : FuncId} {args : Array Value} {A : HP} {B : Value → HP} (t : ∀ R0 h0, A.p R0 h0 → Tri P f args (Own R0 h0) B) : Tri P f args A B :=
  fun w R h F s a => t R h a w R h F s ⟨PH.le.refl _, PH.le.refl _⟩
theorem Own.to {R0 h0 : PH} {A : HP} (a : A.p R0 h0) : HP.ent (Own R0 h0) A := .of fun _ _ ⟨l, l'⟩ => A.mono l l' a
theorem undA64 : Tryz.prog.underlying 147 = some (.array 64 3) := by kernel_rfl
theorem undPn : Tryz.prog.underlying 121 = some (.pointer 133) := by kernel_rfl
theorem undSn : Tryz.prog.underlying 291 = some (.slice 121) := by kernel_rfl
def SeenA (b : Nat) (f : Nat → Nat) : HP := Ar 147 b (arF 64 fun k => .int .i64 (f k : Nat))
theorem wIx {b k : Nat} {x : Int} (hx : x = k) (hk : k < 64) {A : HP} : ORead Tryz.prog (idxS 147 (.pointer (some ⟨b, 0, none⟩)) (.int .i64 x)) A (.pointer (some ⟨b, k, none⟩)) := arIx undA64 (by kernel_rfl) (by kernel_rfl) hx hk
theorem wLd {b k : Nat} {f : Nat → Nat} (hk : k < 64) {P : HP} (hP : HP.ent P (SeenA b f)) : ORead Tryz.prog (loadS 3 (.pointer (some ⟨b, k, none⟩))) P (.int .i64 (f k : Nat)) := ORead.ent hP (arLd undIb aggI szI (arF_get hk))
theorem wSt {b k : Nat} {f : Nat → Nat} {x : Int} (hx : x = (f k : Nat) + 1) (hk : k < 64) {P : HP} (hP : HP.ent P (SeenA b f)) {C : Value → HP} (post : ∀ R h, (SeenA b fun q => if q = k then f k + 1 else f q).p R h → (C (.tuple #[])).p R h) : OTri Tryz.prog (storeS 3 (.pointer (some ⟨b, k, none⟩)) (.int .i64 x)) P C := by
  obtain ⟨i, hi, _, hz, _⟩ := info_parts infoInt
  refine OTri.pre3 ((arSt hi hz rfl rfl (by rw [arF_len]; exact hk)).weak (fun _ _ h => h) ?_) hP
  rintro v R h ⟨rfl, H⟩
  rw [arF_set hk] at H
  refine post R h ?_
  unfold SeenA
  have : (arF 64 fun j => if j = k then Value.int .i64 x else .int .i64 (f j : Nat)) = arF 64 fun q => .int .i64 ((if q = k then f k + 1 else f q : Nat) : Int) := arF_congr fun j _ => by
    by_cases e : j = k
    · subst e; rw [if_pos rfl, if_pos rfl, hx]; rfl
    · rw [if_neg e, if_neg e]
  rw [← this]; exact H
def ptrN (ns : List HN) (k : Nat) : Value := .pointer ((hnAt ns k).map fun x => ⟨x.nb, 0, none⟩)
def Stk (ns : List HN) (a : Option Addr) (c : Nat) (st : List Nat) : HP := OwC 121 1 a st.length c (st.map (ptrN ns))
theorem OwC.cut {e : TypeId} {a : Option Addr} {n c : Nat} {xs : List Value} {v : Value} {R h : PH} (H : (OwC e 1 a (n + 1) c (xs ++ [v])).p R h) : (OwC e 1 a n c xs).p R h := by
  obtain ⟨h1, h2⟩ := H
  have hx : xs.length = n := by simpa using h1
  refine ⟨by simpa using hx, ?_⟩
  rcases h2 with ⟨_, h, _⟩ | ⟨g, cur, e1, e2, e3, e4, e5, e6⟩
  · cases h
  · refine .inr ⟨g, cur, e1, e2, by omega, e4, e5, ?_⟩
    have := congrArg (List.take n) e6
    rw [List.take_take, List.take_left' hx] at this
    rw [Nat.mul_one]
    rw [← this]; congr 1; omega
theorem semW_slhi' {i j : Nat} {t ty : TypeId} {u v : Value} (h : i ≠ j) : semW (.slice t (.tmp i) none (some (.tmp j)) none) ty [(i, u), (j, v)] = sliceS t u none (some v) none := by
  have h' : (i == j) = false := by simpa using h
  simp [semW, execOp, arW, sliceS, h']
theorem zero64 : ([.int .i64 0, .int .i64 0, .int .i64 0, .int .i64 0, .int .i64 0, .int .i64 0, .int .i64 0, .int .i64 0, .int .i64 0, .int .i64 0, .int .i64 0, .int .i64 0, .int .i64 0, .int .i64 0, .int .i64 0, .int .i64 0, .int .i64 0, .int .i64 0, .int .i64 0, .int .i64 0, .int .i64 0, .int .i64 0, .int .i64 0, .int .i64 0, .int .i64 0, .int .i64 0, .int .i64 0, .int .i64 0, .int .i64 0, .int .i64 0, .int .i64 0, .int .i64 0, .int .i64 0, .int .i64 0, .int .i64 0, .int .i64 0, .int .i64 0, .int .i64 0, .int .i64 0, .int .i64 0, .int .i64 0, .int .i64 0, .int .i64 0, .int .i64 0, .int .i64 0, .int .i64 0, .int .i64 0, .int .i64 0, .int .i64 0, .int .i64 0, .int .i64 0, .int .i64 0, .int .i64 0, .int .i64 0, .int .i64 0, .int .i64 0, .int .i64 0, .int .i64 0, .int .i64 0, .int .i64 0, .int .i64 0, .int .i64 0, .int .i64 0, .int .i64 0] : List Value) = arF 64 fun _ => .int .i64 ((0 : Nat) : Int) := rfl
theorem wholeS_no {T : List Nd} (h : ¬ WholeT T) : wholeS T = false := @decide_eq_false _ (Classical.propDecidable _) h
theorem wholeS_yes {T : List Nd} (h : WholeT T) : wholeS T = true := @decide_eq_true _ (Classical.propDecidable _) h
theorem slTo {S : HP} {a : Option Addr} {n c k : Nat} (hk : k ≤ n) (hle : ∀ R h, S.p R h → n ≤ c) : ORead Tryz.prog (sliceS 291 (.slice a n c) none (some (.int .i64 (k : Nat))) none) S (.slice a k c) := fun w R h F s H => by
  obtain ⟨i, hi, _, _, _⟩ := info_parts infoNp
  have hc := hle R h H
  have := slice_ok undSn hi S a n c none (some k) none (Nat.zero_le _) (by simp; omega) (by simp) (fun h => (by cases h)) w R h F s H
  refine Eq.trans this ?_
  have e : (if c = 0 then a else a.map (·.add (0 * szT Tryz.prog 121))) = a := by
    split
    · rfl
    · cases a with
      | none => rfl
      | some y => simp; rfl
  simp only [Option.getD_none, Option.getD_some, Nat.sub_zero, e]
theorem appP {ns : List HN} {a : Option Addr} {c : Nat} {st : List Nat} {k q : Nat} {Q : HP} (hb : st.length ≤ 1000000) : OTri Tryz.prog (appS 291 291 (.slice a st.length c) (.slice (some ⟨q, 0, none⟩) 1 1)) (HP.sep (Stk ns a c st) (HP.sep Q (HP.one q (.cells #[ptrN ns k] 121 (0, 0)))))
    (fun v => HP.ex fun a' => HP.ex fun c' => HP.and (v = .slice a' (st.length + 1) c') (HP.sep (Stk ns a' c' (st ++ [k])) Q)) := by
  obtain ⟨i, hi, h1, h2, h3⟩ := info_parts infoNp
  have := append_ok 291 291 121 i _ undSn hi h1 (by rw [h2]; rfl) (by omega) a st.length c (st.map (ptrN ns)) (HP.sep Q (HP.one q (.cells #[ptrN ns k] 121 (0, 0)))) ⟨q, 0, none⟩ 1 1 [ptrN ns k] (Rd.right (one_rd q #[ptrN ns k] _)) (by rw [h2]; rfl) (fun u hu => by obtain rfl := List.mem_singleton.1 hu; rfl) (by unfold maxLen; omega) (by rw [h3]; omega)
  rw [h2] at this
  refine this.weak (fun _ _ h => h) ?_
  rintro v R h ⟨a', c', rfl, H⟩
  refine ⟨a', c', rfl, HP.sep_mono H (fun x hx => ?_) fun x hx => HP.sep_left hx⟩
  unfold Stk
  rw [List.length_append, List.map_append]
  exact hx
theorem al_ent {l : AL Nm} {c : Nat} {ents : List (Nm × Nat)} (hI : MapI l c) (hk : ∀ k, alFind k l = (lk ents k).map fun n => Value.int .i64 n) {y : Nm × Value × Nat} (hy : y ∈ l) : ∃ k, (y.1, k) ∈ ents ∧ lk ents y.1 = some k ∧ y.2.1 = .int .i64 (k : Nat) := by
  have h := alFind_mem y.1 y.2.1 y.2.2 l hI.1 hy
  rw [hk] at h
  cases hl : lk ents y.1 with
  | none => rw [hl] at h; cases h
  | some k => rw [hl] at h; exact ⟨k, lk_mem hl, rfl, (Option.some.inj h).symm⟩
theorem al_nd {l : AL Int} {c : Nat} {ns : List HN} (hI : MapI l c) (hk : ∀ k, alFind k l = nodeV ns k) {y : Int × Value × Nat} (hy : y ∈ l) : ∃ x, x ∈ ns ∧ (x.p.num : Int) = y.1 ∧ y.2.1 = .pointer (some ⟨x.nb, 0, none⟩) := by
  have h := alFind_mem y.1 y.2.1 y.2.2 l hI.1 hy
  rw [hk] at h
  unfold nodeV at h
  obtain ⟨x, h1, h2⟩ := Option.map_eq_some_iff.1 h
  exact ⟨x, List.mem_of_find?_eq_some h1, by simpa using List.find?_some h1, h2.symm⟩
theorem nodeV_mem {ns : List HN} {x : HN} (hx : x ∈ ns) : (nodeV ns x.p.num).isSome = true := by
  unfold nodeV
  rw [Option.isSome_map, List.find?_isSome]
  exact ⟨x, hx, by simp⟩
def OI (t : TS) (sb : Nat) (a : Option Addr) (n c : Nat) (p q : HP) (m : Nat) : Prop := ∃ (D st : List Nat) (f : Nat → Nat), n = st.length ∧ (st.length ≠ 0 → a.isSome = true) ∧ WI t.pub D st f ∧ (∀ k, f k = seenD t.pub D k) ∧ (∀ d ∈ D, ∀ e ∈ entsAt t.pub d, (nodeAt t.pub e.2).isSome = true ∧ e.2 ≠ 0) ∧ HP.ent p (Stk t.ns a c st) ∧ HP.ent q (SeenA sb f) ∧ m + D.length = t.pub.length
def II (t : TS) (sb : Nat) (u : Nat) (D : List Nat) (mb it cl : Nat) (l : AL Nm) (a : Option Addr) (n c : Nat) (pi pk pa : HP) (m : Nat) : Prop := ∃ (st : List Nat) (P : List (Nm × Nat)) (S : Array Nat) (f : Nat → Nat), n = st.length ∧ (st.length ≠ 0 → a.isSome = true) ∧ WIn t.pub u D st P f ∧ Rng l S (P.map (·.1)) ∧ HP.ent pi (HP.one it (.mapIter (some mb) cl S cl)) ∧ HP.ent pk (Stk t.ns a c st) ∧ HP.ent pa (SeenA sb f) ∧ m + P.length = l.length
def FI (t : TS) (f : Nat → Nat) (mb it cl : Nat) (l : AL Int) (pi : HP) (m : Nat) : Prop := ∃ (S : Array Nat) (P : List Int), Rng l S P ∧ HP.ent pi (HP.one it (.mapIter (some mb) cl S cl)) ∧ (∀ n ∈ t.pub, (n.num : Int) ∈ P → n.num ≠ 0 → f n.num ≠ 0 ∧ (f n.num : Int) = n.links) ∧ m + P.length = l.length
theorem rng_few {κ : Type} [DecidableEq κ] {l : AL κ} {S : Array Nat} {P : List κ} (h : Rng l S P) : P.length ≤ l.length := by
  have := nodup_sub h.nd h.sub
  simpa using this
set_option maxHeartbeats 4000000 in
theorem whole_ok {b : Nat} {t : TS} (hok : okN (-1) t.pub = true) (hents' : ∀ n ∈ t.pub, n.ents.length ≤ 1000000000) :
    Tri Tryz.prog 161 #[.pointer (some ⟨b, 0, none⟩)] (TRep b t) (fun v => HP.and (v = .bool (wholeS t.pub)) (TRep b t)) := by
  refine Tri.frz fun R0 h0 H0 => ?_
  have hQ : HP.ent (Own R0 h0) (TRep b t) := Own.to H0
  have pp := Prep.of hok
  have fin : ∀ {x : Bool} {A : HP}, HP.ent A (Own R0 h0) → wholeS t.pub = x → HP.ent A (HP.and (Value.bool x = .bool (wholeS t.pub)) (TRep b t)) := fun hA hx => (hA.trans hQ).trans (.of fun R h H => ⟨by rw [hx], H⟩)
  have no : ∀ {A : HP}, HP.ent A (Own R0 h0) → ¬ WholeT t.pub → HP.ent A (HP.and (Value.bool false = .bool (wholeS t.pub)) (TRep b t)) := fun hA hn => fin hA (wholeS_no hn)
  refine tri_of_tree (ρ := [.n b, .p (Own R0 h0)]) mixed Tryz.func161 tree_tWhole ?_
  unfold t_tWhole
  simp only [T.den, E.prop, E.den, RX.look, F1.app, F2.app, Uni.int_i, Uni.nat_n, Uni.bool_c, Uni.str_s, Uni.adr_a, Uni.val_v, Uni.hp_p, hden, cden, V.den, W.den, A.den, BR.den, SA.den, FV.den, capV, exs, exP, allP, Cur.app, List.map_cons, List.map_nil, List.cons_append, List.nil_append, List.drop_succ_cons, List.drop_zero, List.length_cons, List.length_nil, Nat.zero_add, Nat.reduceAdd, Int.neg_neg, Bool.not_not, List.append_nil, Nat.add_zero, List.getElem?_cons_zero, List.getElem?_cons_succ, Decidable.not_not, semW_eq, semW_load, semW_store, semW_storeC, semW_append, semW_lookup, semW_lookupC, semW_range, semW_next, semW_entry, semW_nil, ne_eq, Nat.reduceEqDiff, not_false_eq_true, semW_ix, semW_slhi']
  have lk0 := (lkNode (b := b) (t := t) 0).ent hQ
  refine ⟨t.mb, ldNodes.ent hQ, ptrN t.ns 0, lk0, _, eqlNilP (p := (hnAt t.ns 0).map fun x => ⟨x.nb, 0, none⟩) (by kernel_rfl) undPn, ?_⟩
  have few : t.pub.length ≤ 64 := by
    have := nodup_sub pp.nd (m := List.range 64) fun x hx => by
      obtain ⟨n, hn, rfl⟩ := List.mem_map.1 hx
      exact List.mem_range.2 (pp.few n hn)
    simpa using this
  obtain ⟨l0, c0, hI0, hk0, hh0⟩ := TRep.nmap H0
  have hm0 : ∀ R h, (Own R0 h0).p R h → h t.mb = some (mapObj i64v l0 c0) := fun R h H => H.2 _ _ hh0
  have lt64 : ∀ {k : Nat}, (nodeAt t.pub k).isSome = true → k < 64 := fun {k} h => by
    obtain ⟨n, hn⟩ := Option.isSome_iff_exists.1 h
    obtain ⟨h1, h2⟩ := nodeAt_mem hn
    rw [← h2]; exact pp.few n h1
  have right : ∀ {A : HP}, HP.ent (HP.sep A (Own R0 h0)) (Own R0 h0) := .of fun R h H => HP.sep_right H
  refine ⟨fun hn => no (HP.ent.refl _) fun w => ?_, fun hn => ?_⟩
  · obtain ⟨n, hn1, _⟩ := w.root
    rw [nodeAt_pub] at hn1
    cases hx0 : hnAt t.ns 0 with
    | none => rw [hx0] at hn1; cases hn1
    | some x => rw [hx0] at hn; cases hn
  obtain ⟨x0, hx0⟩ : ∃ x0, hnAt t.ns 0 = some x0 := by
    cases hx0 : hnAt t.ns 0 with
    | none => rw [hx0] at hn; exact absurd rfl hn
    | some x => exact ⟨x, rfl⟩
  obtain ⟨hx0m, hx0n⟩ := hnAt_mem hx0
  have e0 : ptrN t.ns 0 = .pointer (some ⟨x0.nb, 0, none⟩) := by unfold ptrN; rw [hx0]; rfl
  refine ⟨x0.nb, by rw [e0]; exact nilChk', x0.p.kind, (ldKind hx0m).ent hQ, ⟨fun hk => no (HP.ent.refl _) fun w => ?_, fun hk => ?_⟩⟩
  · obtain ⟨n, hn, hn1⟩ := w.root
    rw [nodeAt_pub, hx0] at hn; cases hn; exact hk hn1
  have hk : x0.p.kind = 1 := by simpa using hk
  have hroot : isDir t.pub 0 := ⟨x0.p, by rw [nodeAt_pub, hx0]; rfl, hk⟩
  intro sb rb
  refine ⟨fun a n c w p q => ∃ m, OI t sb a n c p q m, fun a n c w p q => leastN (OI t sb a n c p q), ⟨t.pub.length, [], [0], fun _ => 0, rfl, fun _ => rfl, WI.init hroot, fun _ => rfl, fun _ h => (by cases h), ?_, ?_, by simp⟩, ?_⟩
  · refine .of fun R h H => ⟨rfl, .inr ⟨rb, #[ptrN t.ns 0], rfl, H, Nat.le_refl _, by unfold maxLen; omega, rfl, rfl⟩⟩
  · refine .of fun R h H => ?_
    unfold SeenA Ar
    rw [← zero64]
    exact H
  intro a n c w p q hOI
  have hO := leastN_spec hOI
  generalize hNe : leastN (OI t sb a n c p q) = N at hO ⊢
  obtain ⟨D, st, f, rfl, hsome, hW, hf, htgt, hp, hq, hm⟩ := hO
  refine ⟨fun hlt => ?_, fun hge => ?_⟩
  · rcases List.eq_nil_or_concat st with rfl | ⟨st, u, rfl⟩
    · simp at hlt
    rw [List.concat_eq_append] at *
    have hlen : (st ++ [u]).length = st.length + 1 := by simp
    rw [hlen] at hsome hNe ⊢
    have e1 : ((st.length + 1 : Nat) : Int) - 1 = (st.length : Nat) := by omega
    rw [e1]
    have hfew := hW.few
    rw [hlen] at hfew
    obtain ⟨⟨nu, hnu, hnk⟩, hru⟩ := hW.dir u (by simp)
    obtain ⟨xu, hxu, hxp, hxm⟩ := hn_of (t := t) (k := u) (by rw [hnu]; rfl)
    rw [hxp] at hnu; cases hnu
    obtain ⟨lu, cu, hIu, hku, hhu⟩ := NRep.emap (TRep.node H0 hxm) hnk
    have hmu : ∀ R h, (Own R0 h0).p R h → h xu.mb = some (mapObj sE lu cu) := fun R h H => H.2 _ _ hhu
    have hents : entsAt t.pub u = xu.p.ents := by unfold entsAt; rw [hxp]
    have emo : xu.mapo = some xu.mb := by unfold HN.mapo; rw [if_pos hnk]
    have epu : ptrN t.ns u = .pointer (some ⟨xu.nb, 0, none⟩) := by unfold ptrN; rw [hxu]; rfl
    have hStk : HP.ent (HP.sep p (Own R0 h0)) (Stk t.ns a c (st ++ [u])) := (HP.ent.sep hp _).trans (.of fun R h H => HP.sep_left H)
    refine ⟨inI64' _ (by omega) (by omega), fun _ => ⟨by omega, fun _ => ⟨by omega, fun _ => ⟨hsome (by omega), fun _ => ?_⟩⟩⟩⟩
    refine ⟨.pointer (some ⟨xu.nb, 0, none⟩), ?_, a, st.length, c, ?_, xu.nb, nilChk', xu.mb, ?_, ?_⟩
    · refine ORead.ent hStk ?_
      refine load1_ok undPn (by kernel_rfl) (by kernel_rfl) (OwC.rd _ _ _ _ _ _) (k := st.length * 1) (off := 0) ?_
      show _ = some (Value.pointer (some ⟨xu.nb, 0, none⟩))
      rw [← epu]; simp
    · refine ORead.ent hStk (slTo (Nat.le_succ _) fun R h H => ?_)
      have := OwC.le H; rw [hlen] at this; exact this
    · rw [← emo]; exact ((ldEnts hxm).ent hQ).ent right
    refine (rangA_ok (Q := HP.sep p (Own R0 h0)) (enc := sE) (l := lu) (c := cu) undEM fun R h ⟨_, _, _, _, l2, _, H⟩ => l2 _ _ (hmu _ _ H)).weak (fun _ _ h => h) ?_
    rintro v R h ⟨it, rfl, H⟩
    refine ⟨it, HP.one it (.mapIter (some xu.mb) cu #[] cu), p, rfl, ?_, H⟩
    clear H
    have hpop := hW.pop
    refine ⟨fun w a n c pi pk pa => ∃ m, II t sb u D xu.mb it cu lu a n c pi pk pa m, fun w a n c pi pk pa => leastN (II t sb u D xu.mb it cu lu a n c pi pk pa), ⟨lu.length, st, [], #[], f, rfl, fun _ => hsome (by omega), ⟨hpop, fun k => by simp [cntE, hf], htgt, List.nodup_nil, fun _ h => (by cases h)⟩, Rng.nil lu, .refl _, hp.trans (.of fun R h H => ?_), hq, rfl⟩, ?_⟩
    · unfold Stk at H ⊢
      rw [List.map_append, hlen] at H
      exact OwC.cut H
    intro w2 a2 n2 c2 pi pk pa hII
    have hI := leastN_spec hII
    generalize hMe : leastN (II t sb u D xu.mb it cu lu a2 n2 c2 pi pk pa) = M at hI ⊢
    obtain ⟨st2, P, S, g, rfl, hsome2, hWI, hR, hpi, hpk, hpa, hM⟩ := hI
    refine OTri.pre3 ((nextA_ok (Q := HP.sep pk (Own R0 h0)) hIu.2 fun R h ⟨_, _, _, _, l2, _, H⟩ => l2 _ _ (hmu _ _ H)).weak (fun _ _ h => h) ?_) (HP.ent.sep hpi _)
    rintro v R h ⟨e, he, H⟩
    rcases e with _ | y
    · refine ⟨false, .tuple #[], .tuple #[], _, he.1, ⟨fun h => (by cases h), fun _ => ?_⟩, H⟩
      clear H
      have hall : ∀ e ∈ entsAt t.pub u, e.1 ∈ P.map (·.1) := fun e hE => hR.done he.2 e.1 (by
        rw [hents] at hE
        obtain ⟨z, hz⟩ := Option.isSome_iff_exists.1 ((lk_keys e.1 xu.p.ents).2 (List.mem_map.2 ⟨e, hE, rfl⟩))
        rw [← alFind_isSome, hku, hz]; rfl)
      obtain ⟨o1, o2⟩ := hWI.out pp hall
      have hnew : OI t sb a2 st2.length c2 pk pa (N - 1) := ⟨u :: D, st2, g, rfl, hsome2, hWI.wi, o1, o2, hpk, hpa, by simp; omega⟩
      refine ⟨⟨_, hnew⟩, ?_⟩
      have := leastN_le hnew
      show leastN (OI t sb a2 st2.length c2 pk pa) < leastN (OI t sb a (st.length + 1) c p q)
      rw [hNe]; omega
    · obtain ⟨rfl, hyl, hyS⟩ := he
      obtain ⟨k, hke, hlk, hyv⟩ := al_ent hIu hku hyl
      obtain ⟨hnot, hR2⟩ := hR.step hIu hyl hyS
      have heu : (y.1, k) ∈ entsAt t.pub u := by rw [hents]; exact hke
      have hent := entry_ok (enc := sE) (it := it) (m := xu.mb) (c := cu) (S := S) (x := y) hIu.2 hyl (A := HP.sep (HP.one it (.mapIter (some xu.mb) cu (nextI S (some y)) cu)) (HP.sep pk (Own R0 h0))) (fun R h H => HP.sep_left H) (fun R h H => by
        obtain ⟨_, _, _, _, l2, _, _, _, _, _, l4, _, b2⟩ := H
        exact l2 _ _ (l4 _ _ (hmu _ _ b2)))
      rw [hyv] at hent
      have lkk := (lkNode (b := b) (t := t) k).ent hQ
      refine ⟨true, sE y.1, y.2.1, _, rfl, ⟨fun _ => ⟨y.1, k, hent, t.mb, ldNodes.ent hQ, ptrN t.ns k, lkk, _, eqlNilP (p := (hnAt t.ns k).map fun x => ⟨x.nb, 0, none⟩) (by kernel_rfl) undPn, ?_⟩, fun h => (by simp at h)⟩, H⟩
      clear H
      have hxu2 : xu.p ∈ t.pub ∧ xu.p.num = u := nodeAt_mem hxp
      refine ⟨fun hn => no (HP.ent.refl _) fun w => ?_, fun hn => ⟨fun hk0 => no (HP.ent.refl _) fun w => (w.tgt _ hxu2.1 _ hke).2 (by omega), fun hk0 => ?_⟩⟩
      · have := (w.tgt _ hxu2.1 _ hke).1
        obtain ⟨z, hz, _⟩ := hn_of this
        rw [hz] at hn; cases hn
      obtain ⟨xk, hxk⟩ : ∃ x, hnAt t.ns k = some x := by
        cases hx : hnAt t.ns k with
        | none => rw [hx] at hn; exact absurd rfl hn
        | some x => exact ⟨x, rfl⟩
      obtain ⟨hxkm, hxkn⟩ := hnAt_mem hxk
      have hnk2 : nodeAt t.pub k = some xk.p := by rw [nodeAt_pub, hxk]; rfl
      have hks : (nodeAt t.pub k).isSome = true := by rw [hnk2]; rfl
      have hxkp : xk.p ∈ t.pub := (nodeAt_mem hnk2).1
      have hk64 := lt64 hks
      have hk00 : k ≠ 0 := by omega
      have epk : ptrN t.ns k = .pointer (some ⟨xk.nb, 0, none⟩) := by unfold ptrN; rw [hxk]; rfl
      have hlt : g k + 1 ≤ refs t.pub k := hWI.lt pp heu hnot
      have hmost := pp.most hents' k
      refine ⟨.pointer (some ⟨sb, k, none⟩), wIx rfl hk64, (g k : Nat), wLd hk64 hpa, inI64' _ (by omega) (by omega), fun _ => ⟨.pointer (some ⟨sb, k, none⟩), wIx rfl hk64, ?_⟩⟩
      refine wSt rfl hk64 hpa fun R h H => ⟨SeenA sb _, rfl, ?_, H⟩
      clear H
      refine ⟨.pointer (some ⟨sb, k, none⟩), wIx rfl hk64, _, wLd hk64 (HP.ent.refl _), xk.nb, by rw [epk]; exact nilChk', xk.p.links, (ldLinks hxkm).ent hQ, ?_⟩
      rw [if_pos rfl]
      refine ⟨fun hgt => no (HP.ent.refl _) fun w => ?_, fun hle => ?_⟩
      · have := (w.cnt xk.p hxkp (by rw [hxkn]; exact hk00)).1
        rw [hxkn] at this
        omega
      refine ⟨xk.nb, by rw [epk]; exact nilChk', xk.p.kind, (ldKind hxkm).ent hQ, ⟨fun hdir q => ?_, fun hfile => ?_⟩⟩
      · have hkd : isDir t.pub k := ⟨xk.p, hnk2, hdir⟩
        have hl1 := (goodS_dir (pp.good _ hxkp) hdir).1
        have hg0 : g k = 0 := by omega
        have hrk : Rch t.pub k := .step hru (pp.step ⟨xu.p, hxp, hnk⟩ heu)
        have hw2 := hWI.wi.push hkd hrk hk00 hg0
        have hfew2 := hw2.few
        refine OTri.pre3 ((appP (ns := t.ns) (k := k) (Q := Own R0 h0) (by simp at hfew2; omega)).weak (fun _ _ h => h) ?_) (HP.ent.sep hpk _)
        rintro v R h ⟨a3, c3, rfl, H⟩
        have hs3 : a3.isSome = true := OwC.some (HP.sep_left H) (by simp)
        refine ⟨a3, _, c3, HP.tt, Stk t.ns a3 c3 (st2 ++ [k]), rfl, ?_, HP.tt_sep H⟩
        clear H
        have hnew : II t sb u D xu.mb it cu lu a3 (st2.length + 1) c3 (HP.one it (.mapIter (some xu.mb) cu (nextI S (some y)) cu)) (Stk t.ns a3 c3 (st2 ++ [k])) (SeenA sb fun q => if q = k then g k + 1 else g q) (M - 1) :=
          ⟨st2 ++ [k], P ++ [(y.1, k)], S.push y.2.2, _, by simp, fun _ => hs3, hWI.snoc (e := (y.1, k)) heu hnot hks hk00 hw2, by rw [List.map_append]; exact hR2, .refl _, .refl _, .refl _, by have := rng_few hR2; simp at this ⊢; omega⟩
        refine ⟨⟨_, hnew⟩, ?_⟩
        have := leastN_le hnew
        have := rng_few hR2
        simp at this
        show leastN (II t sb u D xu.mb it cu lu a3 (st2.length + 1) c3 _ _ _) < leastN (II t sb u D xu.mb it cu lu a2 st2.length c2 pi pk pa)
        rw [hMe]; omega
      · have hkd : ¬ isDir t.pub k := fun ⟨n, h1, h2⟩ => by rw [hnk2] at h1; cases h1; exact hfile h2
        have hw2 := hWI.wi.file hkd
        have hnew : II t sb u D xu.mb it cu lu a2 st2.length c2 (HP.one it (.mapIter (some xu.mb) cu (nextI S (some y)) cu)) pk (SeenA sb fun q => if q = k then g k + 1 else g q) (M - 1) :=
          ⟨st2, P ++ [(y.1, k)], S.push y.2.2, _, rfl, hsome2, hWI.snoc (e := (y.1, k)) heu hnot hks hk00 hw2, by rw [List.map_append]; exact hR2, .refl _, hpk, .refl _, by have := rng_few hR2; simp at this ⊢; omega⟩
        refine ⟨⟨_, hnew⟩, ?_⟩
        have := leastN_le hnew
        have := rng_few hR2
        simp at this
        show leastN (II t sb u D xu.mb it cu lu a2 st2.length c2 _ _ _) < leastN (II t sb u D xu.mb it cu lu a2 st2.length c2 pi pk pa)
        rw [hMe]; omega
  · have hst : st = [] := List.length_eq_zero_iff.1 (by omega)
    subst hst
    have hE : WEnd t.pub D f := ⟨hW, hf, htgt⟩
    refine ⟨t.mb, ldNodes.ent hQ, ?_⟩
    refine (rangA_ok (Q := Own R0 h0) (enc := i64v) (l := l0) (c := c0) undNM hm0).weak (fun _ _ h => h) ?_
    rintro v R h ⟨it, rfl, H⟩
    refine ⟨it, HP.one it (.mapIter (some t.mb) c0 #[] c0), Own R0 h0, rfl, ?_, H⟩
    clear H
    refine ⟨fun w pi => ∃ m, FI t f t.mb it c0 l0 pi m, fun w pi => leastN (FI t f t.mb it c0 l0 pi), ⟨l0.length, #[], [], Rng.nil l0, .refl _, fun _ _ h => (by cases h), rfl⟩, ?_⟩
    intro w2 pi hFI
    have hF := leastN_spec hFI
    generalize hMe : leastN (FI t f t.mb it c0 l0 pi) = M at hF ⊢
    obtain ⟨S, P, hR, hpi, hgood, hM⟩ := hF
    refine OTri.pre3 ((nextA_ok (Q := Own R0 h0) hI0.2 hm0).weak (fun _ _ h => h) ?_) (HP.ent.sep hpi _)
    rintro v R h ⟨e, he, H⟩
    rcases e with _ | y
    · refine ⟨false, .tuple #[], .tuple #[], _, he.1, ⟨fun h => (by cases h), fun _ => fin (HP.ent.refl _) (wholeS_yes (hE.yes pp fun n hn h0 => ?_))⟩, H⟩
      obtain ⟨z, hz, rfl⟩ := List.mem_map.1 (show n ∈ t.ns.map (·.p) from hn)
      refine hgood _ hn (hR.done he.2 _ ?_) h0
      rw [← alFind_isSome, hk0]; exact nodeV_mem hz
    · obtain ⟨rfl, hyl, hyS⟩ := he
      obtain ⟨x, hxm, hxn, hyv⟩ := al_nd hI0 hk0 hyl
      obtain ⟨hnot, hR2⟩ := hR.step hI0 hyl hyS
      have hent := entry_ok (enc := i64v) (it := it) (m := t.mb) (c := c0) (S := S) (x := y) hI0.2 hyl (A := HP.sep (HP.one it (.mapIter (some t.mb) c0 (nextI S (some y)) c0)) (Own R0 h0)) (fun R h H => HP.sep_left H) (fun R h H => by
        obtain ⟨_, _, _, _, l2, _, b2⟩ := H
        exact l2 _ _ (hm0 _ _ b2))
      rw [hyv] at hent
      have hxp : x.p ∈ t.pub := List.mem_map.2 ⟨x, hxm, rfl⟩
      have hk64 := pp.few _ hxp
      refine ⟨true, i64v y.1, y.2.1, _, rfl, ⟨fun _ => ⟨y.1, .pointer (some ⟨x.nb, 0, none⟩), hent, ?_⟩, fun h => (by simp at h)⟩, H⟩
      clear H
      have nxt : (x.p.num ≠ 0 → f x.p.num ≠ 0 ∧ (f x.p.num : Int) = x.p.links) → ∀ {w3 : Bool}, (∃ m, FI t f t.mb it c0 l0 (HP.one it (.mapIter (some t.mb) c0 (nextI S (some y)) c0)) m) ∧ leastN (FI t f t.mb it c0 l0 (HP.one it (.mapIter (some t.mb) c0 (nextI S (some y)) c0))) < M := fun hx w3 => by
        have hlen := rng_few hR2
        simp at hlen
        have hnew : FI t f t.mb it c0 l0 (HP.one it (.mapIter (some t.mb) c0 (nextI S (some y)) c0)) (M - 1) := ⟨_, P ++ [y.1], hR2, .refl _, fun n hn hP h0 => by
          rcases List.mem_append.1 hP with h | h
          · exact hgood n hn h h0
          · have e2 : n.num = x.p.num := by have := List.mem_singleton.1 h; omega
            have e3 : n = x.p := map_inj (fun z : Nd => z.num) pp.nd hn hxp e2
            rw [e3]; rw [e3] at h0; exact hx h0, by simp; omega⟩
        have := leastN_le hnew
        exact ⟨⟨_, hnew⟩, by omega⟩
      rw [← hxn]
      refine ⟨fun hne => ?_, fun he => by have h := nxt (fun h => absurd (show ((x.p.num : Int) = 0) by simpa using he) (by omega)) (w3 := w2); rw [← hMe] at h; exact h⟩
      have hne : x.p.num ≠ 0 := by omega
      refine ⟨.pointer (some ⟨sb, x.p.num, none⟩), wIx rfl hk64, (f x.p.num : Nat), wLd hk64 hq, ⟨fun hz => no (HP.ent.refl _) (hE.no pp hxp hne (.inl (by omega))), fun hz => ?_⟩⟩
      refine ⟨.pointer (some ⟨sb, x.p.num, none⟩), wIx rfl hk64, (f x.p.num : Nat), wLd hk64 hq, x.nb, nilChk', x.p.links, (ldLinks hxm).ent hQ, ⟨fun hz2 => no (HP.ent.refl _) (hE.no pp hxp hne (.inr hz2)), fun hz2 => ?_⟩⟩
      have h := nxt (fun _ => ⟨by omega, by simpa using hz2⟩) (w3 := w2)
      rw [← hMe] at h; exact h
end Go.Proofs.YtdieogcemmnaaaaGreatDoor



namespace Go.Proofs.YtdieogcemmnaaaaGreatDoor.RX
set_option maxRecDepth 100000
-- tideline/snap.Decode: ρ := [.a ba, .n bl, .n bc, .p bP]
def t_snapDecode : T :=
(.call 84 [.a (.sl (.v 0) (.v 1) (.v 2))] [(.a 0, .prop 3)] [.a, .n, .n, .p, .i, .p] (.tup [.a (.sl (.v 4) (.v 5) (.v 6)), .a (.int .i64 (.v 8))]) [(.a 4, .prop 7), (.a 0, .prop 9)]
(.br (.o1 .not (.o2 .eq (.v 8) (.i 0)))
(.ret (.tup [.a (.int .i64 (.i 0)), .a .nilp, .a (.int .i64 (.i 3))]) [(.a 0, .prop 9)])
(.call 85 [.a (.sl (.v 4) (.v 5) (.v 6))] [(.a 4, .prop 7)] [.n, .p, .p] (.w (.a (.ptr (.v 10) 0))) [(.b (.v 10), .prop 11), (.a 4, .prop 12)]
(.call 86 [.a (.ptr (.v 10) 0)] [(.b (.v 10), .prop 11)] [.i, .p] (.w (.a (.int .i64 (.v 13)))) [(.b (.v 10), .prop 14)]
(.call 87 [.a (.ptr (.v 10) 0), .a (.int .i64 (.i 64)), .a (.func 88 [])] [(.b (.v 10), .prop 14)] [.a, .n, .n, .p, .p] (.w (.a (.sl (.v 15) (.v 16) (.v 17)))) [(.a 15, .prop 18), (.b (.v 10), .prop 19)]
(.call 89 [.a (.ptr (.v 10) 0)] [(.b (.v 10), .prop 19)] [.i, .p] (.w (.a (.int .i64 (.v 20)))) [(.b (.v 10), .prop 21)]
(.br (.o1 .not (.o2 .eq (.v 20) (.i 0)))
(.ret (.tup [.a (.int .i64 (.i 0)), .a .nilp, .a (.int .i64 (.i 3))]) [(.a 0, .prop 9)])
(.br (.o2 .lt (.v 13) (.i 0))
(.ret (.tup [.a (.int .i64 (.i 0)), .a .nilp, .a (.int .i64 (.i 3))]) [(.a 0, .prop 9)])
(.br (.o2 .lt (.i 4294967296) (.v 13))
(.ret (.tup [.a (.int .i64 (.i 0)), .a .nilp, .a (.int .i64 (.i 3))]) [(.a 0, .prop 9)])
(.call 90 [.a (.sl (.v 15) (.v 16) (.v 17))] [(.a 15, .prop 18)] [.p] (.tup []) [(.a 15, .prop 22)]
(.call 91 [.a (.sl (.v 15) (.v 16) (.v 17))] [(.a 15, .prop 22)] [.v, .p, .i, .p] (.tup [.a (.val 23), .a (.int .i64 (.v 25))]) [(.a 23, .prop 24), (.a 15, .prop 26)]
(.br (.o1 .not (.o2 .eq (.v 25) (.i 0)))
(.ret (.tup [.a (.int .i64 (.i 0)), .a .nilp, .a (.int .i64 (.i 3))]) [(.a 0, .prop 9)])
(.ret (.tup [.a (.int .i64 (.v 13)), .a (.val 23), .a (.int .i64 (.i 0))]) [(.a 0, .prop 9), (.a 23, .prop 24)])))))))))))))
theorem tree_snapDecode : tree Tryz.prog { opq := [25] } Tryz.f29 [.a (.sl (.v 0) (.v 1) (.v 2))] [(.a 0, .prop 3)] 4 = t_snapDecode := by kernel_rfl
end Go.Proofs.YtdieogcemmnaaaaGreatDoor.RX



namespace Go.Proofs.YtdieogcemmnaaaaGreatDoor
set_option linter.unusedSimpArgs false
set_option linter.unusedVariables false
open Go.Proofs.YtdieogcemmnaaaaGreatDoor RX
set_option maxRecDepth 100000

theorem loopR_len {α : Type} (f : RS → α × RS) : ∀ (n : Nat) (s : RS), (loopR f n s).1.length ≤ n
  | 0, _ => Nat.le_refl _
  | n + 1, s => by
    unfold loopR
    split
    · simp
    · simpa using loopR_len f n _
theorem loopR_len2 {α : Type} {f : RS → α × RS} (hf : Shrinks f) : ∀ (n : Nat) (s : RS), (loopR f n s).1.length ≤ s.1.length + 1
  | 0, _ => by simp [loopR]
  | n + 1, s => by
    unfold loopR
    split
    · simp
    · simp only [List.length_cons]
      cases hw : (f s).2.2 with
      | true => rw [loopR_end f (.inr hw)]; simp
      | false =>
        have h1 := hf s hw
        have h2 := loopR_len2 hf n (f s).2
        omega
theorem loopR_all {α : Type} {f : RS → α × RS} (hf : ∀ s, (f s).2.1.length ≤ s.1.length) : ∀ (n : Nat) (s : RS), ∀ x ∈ (loopR f n s).1, ∃ s', s'.1.length ≤ s.1.length ∧ x = (f s').1
  | 0, _, _, h => by cases h
  | n + 1, s, x, h => by
    unfold loopR at h
    split at h
    · cases h
    · rcases List.mem_cons.1 h with rfl | h
      · exact ⟨s, Nat.le_refl _, rfl⟩
      · obtain ⟨s', h1, h2⟩ := loopR_all hf n _ x h
        exact ⟨s', Nat.le_trans h1 (hf s), h2⟩
theorem listR_fst {α : Type} (f : RS → α × RS) (m : Int) (s : RS) : (listR f m s).1 = [] ∨ (listR f m s).1 = (loopR f (toldR s m).1 (toldR s m).2).1 := by
  unfold listR; split
  · exact .inl rfl
  · exact .inr rfl
theorem toldR_most (s : RS) {m : Int} (h : 0 ≤ m) : ((toldR s m).1 : Int) ≤ m := by
  unfold toldR
  split
  · simpa using h
  · split
    · simpa using h
    · show ((numR s 4).1 : Int) ≤ m; omega
theorem nodeR_le (s : RS) : (nodeR s).2.1.length ≤ s.1.length :=
  Nat.le_trans (listR_le (f := entR) entR_le _ _) (Nat.le_trans (bytesR_le _ _) (Nat.le_trans (numR_le _ _) (Nat.le_trans (numR_le _ _) (numR_le _ _))))
theorem nodes_few (s : RS) : (listR nodeR 64 s).1.length ≤ 64 := by
  rcases listR_fst nodeR 64 s with e | e
  · rw [e]; simp
  · rw [e]
    have := loopR_len nodeR (toldR s 64).1 (toldR s 64).2
    have := toldR_most s (m := 64) (by omega)
    omega
theorem ents_few (s : RS) : ∀ x ∈ (listR nodeR 64 s).1, x.ents.length ≤ s.1.length + 1 := fun x hx => by
  rcases listR_fst nodeR 64 s with e | e
  · rw [e] at hx; cases hx
  · rw [e] at hx
    obtain ⟨s', h1, rfl⟩ := loopR_all nodeR_le _ _ x hx
    have h0 := toldR_len s 64
    have key : ∀ q : RS, q.1.length ≤ s'.1.length → (listR entR 9223372036854775807 q).1.length ≤ s'.1.length + 1 := fun q hq => by
      rcases listR_fst entR 9223372036854775807 q with e2 | e2
      · rw [e2]; simp
      · rw [e2]
        have := loopR_len2 entR_shrinks (toldR q 9223372036854775807).1 (toldR q 9223372036854775807).2
        have := toldR_len q 9223372036854775807
        omega
    have := key (bytesR (numR (numR (numR s' 1).2 1).2 2).2 512).2 (Nat.le_trans (bytesR_le _ _) (Nat.le_trans (numR_le _ _) (Nat.le_trans (numR_le _ _) (numR_le _ _))))
    show (listR entR 9223372036854775807 (bytesR (numR (numR (numR s' 1).2 1).2 2).2 512).2).1.length ≤ _
    omega
def decS (wv : List Nd → Bool) (l : List UInt8) : Option (Int × List Nd) := match unwrapS l with
  | none => none
  | some q =>
    let u := intOf64 (numR (q, false) 8).1
    let r := listR nodeR 64 (numR (q, false) 8).2
    if r.2.2 = true ∨ r.2.1 ≠ [] ∨ u < 0 ∨ 4294967296 < u then none else if loadOk wv (wlS r.1) = true then some (u, wlS r.1) else none
def DcPost (wv : List Nd → Bool) (l : List UInt8) (S : HP) (v : Value) : HP := match decS wv l with
  | none => HP.and (v = .tuple #[.int .i64 0, .pointer none, .int .i64 3]) S
  | some (u, T1) => HP.ex fun b : Nat => HP.ex fun t : TS => HP.and (v = .tuple #[.int .i64 u, .pointer (some ⟨b, 0, none⟩), .int .i64 0] ∧ t.pub = T1) (HP.sep S (TRep b t))
theorem decode_ok (wv : List Nd → Bool) (hw : ∀ b t, okN (-1) t.pub = true → (∀ n ∈ t.pub, n.ents.length ≤ 1000000000) → Tri Tryz.prog 161 #[.pointer (some ⟨b, 0, none⟩)] (TRep b t) (fun v => HP.and (v = .bool (wv t.pub)) (TRep b t)))
    (a : Option Addr) (n c : Nat) (l : List UInt8) (S : HP) (hr : RdL S a n (l.map u8v)) (hl : l.length = n) (hc : n ≤ c) (ha : n ≠ 0 → a.isSome = true) (hb : n ≤ 1000000) :
    Tri Tryz.prog 29 #[.slice a n c] S (DcPost wv l S) := by
  refine tri_of_tree (ρ := [.a a, .n n, .n c, .p S]) mixed Tryz.func29 tree_snapDecode ?_
  unfold t_snapDecode
  simp only [T.den, E.prop, E.den, RX.look, F1.app, F2.app, Uni.int_i, Uni.nat_n, Uni.bool_c, Uni.str_s, Uni.adr_a, Uni.val_v, Uni.hp_p, hden, cden, V.den, W.den, A.den, BR.den, SA.den, FV.den, capV, exs, exP, allP, Cur.app, List.map_cons, List.map_nil, List.cons_append, List.nil_append, List.drop_succ_cons, List.drop_zero, List.length_cons, List.length_nil, Nat.zero_add, Nat.reduceAdd, Int.neg_neg, Bool.not_not, List.append_nil, Nat.add_zero, List.getElem?_cons_zero, List.getElem?_cons_succ, Decidable.not_not, semW_eq, ne_eq, Nat.reduceEqDiff, not_false_eq_true]
  refine (unwrap_ok a n c l S hr hl hc ha (by omega)).weak (fun _ _ h => h) ?_
  rintro v R h ⟨a', c', rfl, H⟩
  refine ⟨a', _, c', OwB a' _ c' _, _, S, rfl, ?_, HP.sep_comm H⟩
  cases hu : unwrapS l with
  | none =>
    refine ⟨fun _ => .of fun R h H => ?_, fun h => (by simp at h)⟩
    have : decS wv l = none := by unfold decS; rw [hu]
    unfold DcPost; rw [this]; exact ⟨rfl, H⟩
  | some q =>
    refine ⟨fun h => absurd rfl h, fun _ => ?_⟩
    simp only [Option.getD_some]
    have hq : q.length ≤ 1000000 := by
      unfold unwrapS at hu
      split at hu
      · cases hu
      · split at hu
        · cases hu; rw [List.length_take]; omega
        · cases hu
    refine (rRead_ok a' _ c' q _ (RdL.ow _ _ _ _ _ _) rfl (by omega)).weak (fun _ _ h => h) ?_
    rintro v R h ⟨b, rfl, H⟩
    refine ⟨b, _, _, rfl, ?_, HP.sep_comm H⟩
    refine (rInt_ok b (q, false)).weak (fun _ _ h => h) ?_
    rintro v R h ⟨rfl, H⟩
    refine ⟨_, _, rfl, ?_, H⟩
    have hL : (numR (q, false) 8).2.1.length ≤ 1000000 := Nat.le_trans (numR_le _ _) hq
    refine (listNodes_ok b _ 64 (by omega)).weak (fun _ _ h => h) ?_
    rintro v R h ⟨ea, ec, es, ⟨rfl, hes⟩, H⟩
    refine ⟨ea, _, ec, _, _, rfl, ?_, H⟩
    refine (rEnd_ok b _).weak (fun _ _ h => h) ?_
    rintro v R h ⟨rfl, H⟩
    have hd : decS wv l = if (listR nodeR 64 (numR (q, false) 8).2).2.2 = true ∨ (listR nodeR 64 (numR (q, false) 8).2).2.1 ≠ [] ∨ intOf64 (numR (q, false) 8).1 < 0 ∨ 4294967296 < intOf64 (numR (q, false) 8).1 then none
        else if loadOk wv (wlS (listR nodeR 64 (numR (q, false) 8).2).1) = true then some (intOf64 (numR (q, false) 8).1, wlS (listR nodeR 64 (numR (q, false) 8).2).1) else none := by unfold decS; rw [hu]
    have bad : decS wv l = none → ∀ {A : HP}, HP.ent A S → HP.ent A (DcPost wv l S (.tuple #[.int .i64 0, .pointer none, .int .i64 3])) := fun h A hA => by
      unfold DcPost; rw [h]; exact hA.trans (.of fun R h H => ⟨rfl, H⟩)
    refine ⟨_, _, rfl, ⟨fun h1 => bad ?_ (HP.ent.refl _), fun h1 => ⟨fun h2 => bad ?_ (HP.ent.refl _), fun h2 => ⟨fun h3 => bad ?_ (HP.ent.refl _), fun h3 => ?_⟩⟩⟩, H⟩
    · rw [hd, if_pos]
      by_cases e : (listR nodeR 64 (numR (q, false) 8).2).2.2 = true ∨ (listR nodeR 64 (numR (q, false) 8).2).2.1 ≠ []
      · exact e.elim .inl fun e => .inr (.inl e)
      · exact absurd (if_neg e) h1
    · rw [hd, if_pos (.inr (.inr (.inl h2)))]
    · rw [hd, if_pos (.inr (.inr (.inr h3)))]
    · have h1' : ¬ ((listR nodeR 64 (numR (q, false) 8).2).2.2 = true ∨ (listR nodeR 64 (numR (q, false) 8).2).2.1 ≠ []) := fun e => by rw [if_pos e] at h1; cases h1
      rw [if_neg (fun e => e.elim (fun e => h1' (.inl e)) fun e => e.elim (fun e => h1' (.inr e)) fun e => e.elim h2 h3)] at hd
      have hfew : es.length ≤ 64 := by
        have := nodes_few (numR (q, false) 8).2
        rw [← hes] at this; simpa using this
      have hents : ∀ x ∈ es, x.nd.ents.length ≤ 1000001 := fun x hx => by
        have := ents_few (numR (q, false) 8).2 x.nd (by rw [← hes]; exact List.mem_map.2 ⟨x, hx, rfl⟩)
        omega
      have hT : ((es.map (·.nd)).flatMap (·.ents)).length ≤ 1000000000000 := by
        have := flat_len_le (fun n : Nd => n.ents) 1000001 (es.map (·.nd)) fun n hn => by
          obtain ⟨x, hx, rfl⟩ := List.mem_map.1 hn; exact hents x hx
        rw [List.length_map] at this
        have h2 : es.length * 1000001 ≤ 64 * 1000001 := Nat.mul_le_mul_right _ hfew
        omega
      refine (wholeLinks_ok ea ec es hT (by omega)).weak (fun _ _ h => h) ?_
      rintro v R h ⟨rfl, es', ⟨hm, hl'⟩, H⟩
      refine ⟨_, rfl, ?_, H⟩
      have hents' : ∀ x ∈ es', x.nd.ents.length ≤ 1000000000 := fun x hx => by
        have h1 : x.nd ∈ wlS (es.map (·.nd)) := by rw [← hm]; exact List.mem_map.2 ⟨x, hx, rfl⟩
        obtain ⟨n, hn, he⟩ := List.mem_map.1 h1
        obtain ⟨y, hy, rfl⟩ := List.mem_map.1 hn
        have := hents y hy
        have e2 : x.nd.ents = y.nd.ents := by rw [← he]; unfold wl1; split <;> rfl
        rw [e2]; omega
      rw [← hl']
      refine (load_ok wv hw ea ec es' (by omega) hents').weak (fun _ _ h => h) ?_
      rintro v R h ⟨b2, t2, ⟨hv, hp⟩, H⟩
      rw [hm, hes] at hv hp H
      by_cases hlo : loadOk wv (wlS (listR nodeR 64 (numR (q, false) 8).2).1) = true
      · rw [if_pos hlo] at hv H hd
        refine ⟨.pointer (some ⟨b2, 0, none⟩), TRep b2 t2, 0, _, hv, ⟨fun h => absurd rfl h, fun _ => .of fun R h H => ?_⟩, HP.sep_comm H⟩
        unfold DcPost; rw [hd]
        exact ⟨b2, t2, ⟨rfl, hp hlo⟩, H⟩
      · rw [if_neg hlo] at hv H hd
        refine ⟨.pointer none, HP.tt, 3, _, hv, ⟨fun _ => bad hd (HP.ent.refl _), fun h => (by simp at h)⟩, HP.sep_comm H⟩
end Go.Proofs.YtdieogcemmnaaaaGreatDoor



namespace Go.Proofs.YtdieogcemmnaaaaGreatDoor.RX
set_option maxRecDepth 100000
-- tideline/replay.New: ρ := []
def t_rpNew : T :=
(.call 17 [] [] [.n, .p] (.w (.a (.ptr (.v 0) 0))) [(.b (.v 0), .prop 1)]
(.new
(.new
(.ret (.w (.a (.ptr (.v 3) 0))) [(.b (.v 3), .cells [.int .i64 (.i 0), .ptr (.v 0) 0, .map (.v 2), .int .i64 (.i (-1)), .int .i64 (.i (-1)), .int .i64 (.i 0), .sl .nil (.n 0) (.n 0)] 178), (.b (.v 0), .prop 1), (.b (.v 2), .emap)]))))
theorem tree_rpNew : tree Tryz.prog { keep := [19, 28, 92, 107, 108, 98, 164, 29], turn := [(18, [0])], rdf := true } Tryz.f34 [] [] 0 = t_rpNew := by kernel_rfl
def t_rpNext : T :=
(.ret (.w (.a (.int .i64 (.v 1)))) [(.b (.v 0), .cells [.int .i64 (.v 1), .ptr (.v 2) 0, .map (.v 4), .int .i64 (.v 6), .int .i64 (.v 7), .int .i64 (.v 8), .sl (.v 9) (.v 10) (.v 11)] 178), (.b (.v 2), .prop 3), (.b (.v 4), .prop 5), (.a 9, .prop 12)])
theorem tree_rpNext : tree Tryz.prog { keep := [19, 28, 92, 107, 108, 98, 164, 29], turn := [(18, [0])], rdf := true } Tryz.f38 [.a (.ptr (.v 0) 0)] [(.b (.v 0), .cells [.int .i64 (.v 1), .ptr (.v 2) 0, .map (.v 4), .int .i64 (.v 6), .int .i64 (.v 7), .int .i64 (.v 8), .sl (.v 9) (.v 10) (.v 11)] 178), (.b (.v 2), .prop 3), (.b (.v 4), .prop 5), (.a 9, .prop 12)] 13 = t_rpNext := by kernel_rfl
def t_rpLost : T :=
(.ret (.w (.a (.bool (.c false)))) [(.b (.v 0), .cells [.int .i64 (.v 1), .ptr (.v 2) 0, .map (.v 4), .int .i64 (.v 6), .int .i64 (.v 7), .int .i64 (.v 8), .sl (.v 9) (.v 10) (.v 11)] 178), (.b (.v 2), .prop 3), (.b (.v 4), .prop 5), (.a 9, .prop 12)])
theorem tree_rpLost : tree Tryz.prog { keep := [19, 28, 92, 107, 108, 98, 164, 29], turn := [(18, [0])], rdf := true } Tryz.f92 [.a (.ptr (.v 0) 0)] [(.b (.v 0), .cells [.int .i64 (.v 1), .ptr (.v 2) 0, .map (.v 4), .int .i64 (.v 6), .int .i64 (.v 7), .int .i64 (.v 8), .sl (.v 9) (.v 10) (.v 11)] 178), (.b (.v 2), .prop 3), (.b (.v 4), .prop 5), (.a 9, .prop 12)] 13 = t_rpLost := by kernel_rfl
def t_rpDo : T :=
(.new
(.new
(.join [.n, .i, .i, .i, .i, .a, .n, .n, .a, .n, .n, .p, .p, .p]
 (.all
(.call 18 [.a (.ptr (.v 2) 0), .agg [.int .i64 (.v 16), .str (.v 17), .str (.v 18), .int .i64 (.v 19), .int .i64 (.v 20), .sl (.v 21) (.v 22) (.v 23)]] [(.b (.v 2), .prop 3), (.a 21, .prop 24)] [.i, .i, .i, .i, .a, .n, .n, .p, .a, .n, .n, .p, .p] (.w (.agg [.int .i64 (.v 27), .int .i64 (.v 28), .int .i64 (.v 29), .int .i64 (.v 30), .sl (.v 31) (.v 32) (.v 33), .sl (.v 35) (.v 36) (.v 37)])) [(.a 31, .prop 34), (.a 35, .prop 38), (.b (.v 2), .prop 39), (.a 21, .prop 24)]
(.new
(.again 0 [.n (.v 40), .e (.o1 .neg (.o1 .neg (.v 27))), .e (.o1 .neg (.o1 .neg (.v 28))), .e (.o1 .neg (.o1 .neg (.v 29))), .e (.o1 .neg (.o1 .neg (.v 30))), .a (.v 31), .e (.o2 .nadd (.v 32) (.n 0)), .e (.o2 .nadd (.v 33) (.n 0)), .a (.v 35), .e (.o2 .nadd (.v 36) (.n 0)), .e (.o2 .nadd (.v 37) (.n 0)), .p [(.a 31, .prop 34)], .p [(.a 35, .prop 38)], .p [(.b (.v 2), .prop 39)]])))
(.new
(.call 18 [.a (.ptr (.v 2) 0), .agg [.int .i64 (.v 16), .str (.v 17), .str (.v 18), .int .i64 (.v 19), .int .i64 (.v 20), .sl (.v 21) (.v 22) (.v 23)]] [(.b (.v 2), .prop 3), (.a 21, .prop 24)] [.i, .i, .i, .i, .a, .n, .n, .p, .a, .n, .n, .p, .p] (.w (.agg [.int .i64 (.v 28), .int .i64 (.v 29), .int .i64 (.v 30), .int .i64 (.v 31), .sl (.v 32) (.v 33) (.v 34), .sl (.v 36) (.v 37) (.v 38)])) [(.a 32, .prop 35), (.a 36, .prop 39), (.b (.v 2), .prop 40), (.a 21, .prop 24)]
(.again 0 [.n (.v 27), .e (.o1 .neg (.o1 .neg (.v 28))), .e (.o1 .neg (.o1 .neg (.v 29))), .e (.o1 .neg (.o1 .neg (.v 30))), .e (.o1 .neg (.o1 .neg (.v 31))), .a (.v 32), .e (.o2 .nadd (.v 33) (.n 0)), .e (.o2 .nadd (.v 34) (.n 0)), .a (.v 36), .e (.o2 .nadd (.v 37) (.n 0)), .e (.o2 .nadd (.v 38) (.n 0)), .p [(.a 32, .prop 35)], .p [(.a 36, .prop 39)], .p [(.b (.v 2), .prop 40)]]))))
(.read (.lookup 175 (.tmp 19) (.tmp 20) true) 80 [(19, .w (.a (.map (.v 4)))), (20, .w (.agg [.int .i64 (.v 13), .int .i64 (.v 14), .int .i64 (.v 15)]))] [(.b (.v 4), .prop 5)] [.i, .i, .i, .i, .a, .n, .n, .a, .n, .n, .c] (.tup [.agg [.int .i64 (.v 41), .int .i64 (.v 42), .int .i64 (.v 43), .int .i64 (.v 44), .sl (.v 45) (.v 46) (.v 47), .sl (.v 48) (.v 49) (.v 50)], .a (.bool (.v 51))])
(.new
(.br (.o1 .not (.v 51))
(.op (.mapUpdate 175 (.tmp 29) (.tmp 30) (.tmp 31)) 0 [(29, .w (.a (.map (.v 4)))), (30, .w (.agg [.int .i64 (.v 13), .int .i64 (.v 14), .int .i64 (.v 15)])), (31, .w (.agg [.int .i64 (.v 28), .int .i64 (.v 29), .int .i64 (.v 30), .int .i64 (.v 31), .sl (.v 32) (.v 33) (.v 34), .sl (.v 35) (.v 36) (.v 37)]))] [(.b (.v 4), .prop 5), (.a 32, .prop 38), (.a 35, .prop 39)] [.p] (.tup []) [(.b (.v 4), .prop 53), (.a 32, .prop 38), (.a 35, .prop 39)]
(.ret (.tup []) [(.b (.v 0), .cells [.int .i64 (.v 1), .ptr (.v 2) 0, .map (.v 4), .int .i64 (.v 6), .int .i64 (.v 7), .int .i64 (.v 8), .sl (.v 9) (.v 10) (.v 11)] 178), (.b (.v 2), .prop 40), (.b (.v 4), .prop 53), (.a 9, .prop 12), (.a 21, .prop 24)]))
(.ret (.tup []) [(.b (.v 0), .cells [.int .i64 (.v 1), .ptr (.v 2) 0, .map (.v 4), .int .i64 (.v 6), .int .i64 (.v 7), .int .i64 (.v 8), .sl (.v 9) (.v 10) (.v 11)] 178), (.b (.v 2), .prop 40), (.b (.v 4), .prop 5), (.a 9, .prop 12), (.a 21, .prop 24)])))))))
theorem tree_rpDo : tree Tryz.prog { keep := [19, 28, 92, 107, 108, 98, 164, 29], turn := [(18, [0])], rdf := true, jn := [((9, 27), some { ss := [.n, .i, .i, .i, .i, .a, .n, .n, .a, .n, .n, .p, .p, .p], n := 41, tv := [(9, none), (10, none), (11, none), (12, none), (13, none), (14, none), (6, some (.w (.a (.ptr (.v 27) 0))))], h := [(.b (.v 27), .cells [.int .i64 (.v 28), .int .i64 (.v 29), .int .i64 (.v 30), .int .i64 (.v 31), .sl (.v 32) (.v 33) (.v 34), .sl (.v 35) (.v 36) (.v 37)] 31), (.a 32, .prop 38), (.a 35, .prop 39), (.b (.v 2), .prop 40), (.a 21, .prop 24), (.b (.v 26), .cells [.int .i64 (.v 16), .str (.v 17), .str (.v 18), .int .i64 (.v 19), .int .i64 (.v 20), .sl (.v 21) (.v 22) (.v 23)] 34), (.b (.v 25), .cells [.int .i64 (.v 13), .int .i64 (.v 14), .int .i64 (.v 15)] 57), (.b (.v 0), .cells [.int .i64 (.v 1), .ptr (.v 2) 0, .map (.v 4), .int .i64 (.v 6), .int .i64 (.v 7), .int .i64 (.v 8), .sl (.v 9) (.v 10) (.v 11)] 178), (.b (.v 4), .prop 5), (.a 9, .prop 12)], lk := [] })] } Tryz.f165 [.a (.ptr (.v 0) 0), .agg [.int .i64 (.v 13), .int .i64 (.v 14), .int .i64 (.v 15)], .agg [.int .i64 (.v 16), .str (.v 17), .str (.v 18), .int .i64 (.v 19), .int .i64 (.v 20), .sl (.v 21) (.v 22) (.v 23)]] [(.b (.v 0), .cells [.int .i64 (.v 1), .ptr (.v 2) 0, .map (.v 4), .int .i64 (.v 6), .int .i64 (.v 7), .int .i64 (.v 8), .sl (.v 9) (.v 10) (.v 11)] 178), (.b (.v 2), .prop 3), (.b (.v 4), .prop 5), (.a 9, .prop 12), (.a 21, .prop 24)] 25 = t_rpDo := by kernel_rfl
def t_rpTakeCall : T :=
(.new
(.call 164 [.a (.sl (.v 20) (.v 21) (.v 22))] [(.a 20, .prop 23)] [.i, .s, .s, .i, .i, .a, .n, .n, .p, .i] (.tup [.agg [.int .i64 (.v 25), .str (.v 26), .str (.v 27), .int .i64 (.v 28), .int .i64 (.v 29), .sl (.v 30) (.v 31) (.v 32)], .a (.int .i64 (.v 34))]) [(.a 30, .prop 33), (.a 20, .prop 23)]
(.new
(.br (.o1 .not (.o2 .eq (.v 34) (.i 0)))
(.ret (.tup []) [(.b (.v 0), .cells [.int .i64 (.v 1), .ptr (.v 2) 0, .map (.v 4), .int .i64 (.v 6), .int .i64 (.v 7), .int .i64 (.v 8), .sl (.v 9) (.v 10) (.v 11)] 178), (.b (.v 2), .prop 3), (.b (.v 4), .prop 5), (.a 9, .prop 12), (.a 20, .prop 23)])
(.call 92 [.a (.ptr (.v 0) 0)] [(.b (.v 0), .cells [.int .i64 (.v 1), .ptr (.v 2) 0, .map (.v 4), .int .i64 (.v 6), .int .i64 (.v 7), .int .i64 (.v 8), .sl (.v 9) (.v 10) (.v 11)] 178), (.b (.v 2), .prop 3), (.b (.v 4), .prop 5), (.a 9, .prop 12)] [.c] (.w (.a (.bool (.v 36)))) [(.b (.v 0), .cells [.int .i64 (.v 1), .ptr (.v 2) 0, .map (.v 4), .int .i64 (.v 6), .int .i64 (.v 7), .int .i64 (.v 8), .sl (.v 9) (.v 10) (.v 11)] 178), (.b (.v 2), .prop 3), (.b (.v 4), .prop 5), (.a 9, .prop 12)]
(.br (.v 36)
(.new
(.op (.call ⟨.builtin .append, #[.tmp 22, .tmp 28], #[176, 176]⟩) 176 [(22, .w (.a (.sl (.v 9) (.v 10) (.v 11)))), (28, .w (.a (.sl (.b (.v 37) 0) (.n 1) (.n 1))))] [(.a 9, .prop 12), (.b (.v 37), .cells [.int .i64 (.v 13), .int .i64 (.v 15), .int .i64 (.v 16), .int .i64 (.v 17), .int .i64 (.v 25), .str (.v 26), .str (.v 27), .int .i64 (.v 28), .int .i64 (.v 29), .sl (.v 30) (.v 31) (.v 32)] 257), (.a 30, .prop 33)] [.a, .n, .n, .p] (.w (.a (.sl (.v 38) (.v 39) (.v 40)))) [(.a 38, .prop 41), (.b (.v 37), .cells [.int .i64 (.v 13), .int .i64 (.v 15), .int .i64 (.v 16), .int .i64 (.v 17), .int .i64 (.v 25), .str (.v 26), .str (.v 27), .int .i64 (.v 28), .int .i64 (.v 29), .sl (.v 30) (.v 31) (.v 32)] 257), (.a 30, .prop 33)]
(.ret (.tup []) [(.b (.v 0), .cells [.int .i64 (.v 1), .ptr (.v 2) 0, .map (.v 4), .int .i64 (.v 6), .int .i64 (.v 7), .int .i64 (.v 8), .sl (.v 38) (.v 39) (.v 40)] 178), (.b (.v 2), .prop 3), (.b (.v 4), .prop 5), (.a 38, .prop 41), (.a 20, .prop 23)])))
(.call 165 [.a (.ptr (.v 0) 0), .agg [.int .i64 (.v 15), .int .i64 (.v 16), .int .i64 (.v 17)], .agg [.int .i64 (.v 25), .str (.v 26), .str (.v 27), .int .i64 (.v 28), .int .i64 (.v 29), .sl (.v 30) (.v 31) (.v 32)]] [(.b (.v 0), .cells [.int .i64 (.v 1), .ptr (.v 2) 0, .map (.v 4), .int .i64 (.v 6), .int .i64 (.v 7), .int .i64 (.v 8), .sl (.v 9) (.v 10) (.v 11)] 178), (.b (.v 2), .prop 3), (.b (.v 4), .prop 5), (.a 9, .prop 12), (.a 30, .prop 33)] [.i, .n, .p, .n, .p, .i, .i, .i, .a, .n, .n, .p, .p] (.tup []) [(.b (.v 0), .cells [.int .i64 (.v 37), .ptr (.v 38) 0, .map (.v 40), .int .i64 (.v 42), .int .i64 (.v 43), .int .i64 (.v 44), .sl (.v 45) (.v 46) (.v 47)] 178), (.b (.v 38), .prop 39), (.b (.v 40), .prop 41), (.a 45, .prop 48), (.a 30, .prop 49)]
(.ret (.tup []) [(.b (.v 0), .cells [.int .i64 (.v 37), .ptr (.v 38) 0, .map (.v 40), .int .i64 (.v 42), .int .i64 (.v 43), .int .i64 (.v 44), .sl (.v 45) (.v 46) (.v 47)] 178), (.b (.v 38), .prop 39), (.b (.v 40), .prop 41), (.a 45, .prop 48), (.a 20, .prop 23)]))))))))
theorem tree_rpTakeCall : tree Tryz.prog { keep := [19, 28, 92, 107, 108, 98, 164, 29], turn := [(18, [0])], rdf := true } Tryz.f99 [.a (.ptr (.v 0) 0), .a (.int .i64 (.v 13)), .agg [.int .i64 (.v 14), .int .i64 (.v 15), .int .i64 (.v 16), .int .i64 (.v 17), .int .i64 (.v 18), .int .i64 (.v 19), .sl (.v 20) (.v 21) (.v 22)]] [(.b (.v 0), .cells [.int .i64 (.v 1), .ptr (.v 2) 0, .map (.v 4), .int .i64 (.v 6), .int .i64 (.v 7), .int .i64 (.v 8), .sl (.v 9) (.v 10) (.v 11)] 178), (.b (.v 2), .prop 3), (.b (.v 4), .prop 5), (.a 9, .prop 12), (.a 20, .prop 23)] 24 = t_rpTakeCall := by kernel_rfl
def t_rpTakeSnap : T :=
(.new
(.call 29 [.a (.sl (.v 20) (.v 21) (.v 22))] [(.a 20, .prop 23)] [.i, .v, .p, .i] (.tup [.a (.int .i64 (.v 25)), .a (.val 26), .a (.int .i64 (.v 28))]) [(.a 26, .prop 27), (.a 20, .prop 23)]
(.br (.o1 .not (.o2 .eq (.v 28) (.i 0)))
(.ret (.tup []) [(.b (.v 0), .cells [.int .i64 (.v 1), .val 2, .map (.v 4), .int .i64 (.v 6), .int .i64 (.v 7), .int .i64 (.v 8), .sl (.v 9) (.v 10) (.v 11)] 178), (.a 2, .prop 3), (.b (.v 4), .prop 5), (.a 9, .prop 12), (.a 20, .prop 23)])
(.br (.o2 .lt (.v 13) (.v 25))
(.ret (.tup []) [(.b (.v 0), .cells [.int .i64 (.v 1), .val 2, .map (.v 4), .int .i64 (.v 6), .int .i64 (.v 7), .int .i64 (.v 8), .sl (.v 9) (.v 10) (.v 11)] 178), (.a 2, .prop 3), (.b (.v 4), .prop 5), (.a 9, .prop 12), (.a 20, .prop 23)])
(.br (.o2 .lt (.v 6) (.v 25))
(.call 92 [.a (.ptr (.v 0) 0)] [(.b (.v 0), .cells [.int .i64 (.v 1), .val 2, .map (.v 4), .int .i64 (.v 25), .int .i64 (.v 13), .int .i64 (.v 8), .sl (.v 9) (.v 10) (.v 11)] 178), (.a 2, .prop 3), (.b (.v 4), .prop 5), (.a 9, .prop 12)] [.c] (.w (.a (.bool (.v 29)))) [(.b (.v 0), .cells [.int .i64 (.v 1), .val 2, .map (.v 4), .int .i64 (.v 25), .int .i64 (.v 13), .int .i64 (.v 8), .sl (.v 9) (.v 10) (.v 11)] 178), (.a 2, .prop 3), (.b (.v 4), .prop 5), (.a 9, .prop 12)]
(.br (.o1 .not (.v 29))
(.ret (.tup []) [(.b (.v 0), .cells [.int .i64 (.v 1), .val 2, .map (.v 4), .int .i64 (.v 25), .int .i64 (.v 13), .int .i64 (.v 8), .sl (.v 9) (.v 10) (.v 11)] 178), (.a 2, .prop 3), (.b (.v 4), .prop 5), (.a 9, .prop 12), (.a 20, .prop 23)])
(.br (.o2 .lt (.v 25) (.v 8))
(.ret (.tup []) [(.b (.v 0), .cells [.int .i64 (.v 1), .val 2, .map (.v 4), .int .i64 (.v 25), .int .i64 (.v 13), .int .i64 (.v 8), .sl (.v 9) (.v 10) (.v 11)] 178), (.a 2, .prop 3), (.b (.v 4), .prop 5), (.a 9, .prop 12), (.a 20, .prop 23)])
(.fail 2081))))
(.call 92 [.a (.ptr (.v 0) 0)] [(.b (.v 0), .cells [.int .i64 (.v 1), .val 2, .map (.v 4), .int .i64 (.v 6), .int .i64 (.v 7), .int .i64 (.v 8), .sl (.v 9) (.v 10) (.v 11)] 178), (.a 2, .prop 3), (.b (.v 4), .prop 5), (.a 9, .prop 12)] [.c] (.w (.a (.bool (.v 29)))) [(.b (.v 0), .cells [.int .i64 (.v 1), .val 2, .map (.v 4), .int .i64 (.v 6), .int .i64 (.v 7), .int .i64 (.v 8), .sl (.v 9) (.v 10) (.v 11)] 178), (.a 2, .prop 3), (.b (.v 4), .prop 5), (.a 9, .prop 12)]
(.br (.o1 .not (.v 29))
(.ret (.tup []) [(.b (.v 0), .cells [.int .i64 (.v 1), .val 2, .map (.v 4), .int .i64 (.v 6), .int .i64 (.v 7), .int .i64 (.v 8), .sl (.v 9) (.v 10) (.v 11)] 178), (.a 2, .prop 3), (.b (.v 4), .prop 5), (.a 9, .prop 12), (.a 20, .prop 23)])
(.br (.o2 .lt (.v 25) (.v 8))
(.ret (.tup []) [(.b (.v 0), .cells [.int .i64 (.v 1), .val 2, .map (.v 4), .int .i64 (.v 6), .int .i64 (.v 7), .int .i64 (.v 8), .sl (.v 9) (.v 10) (.v 11)] 178), (.a 2, .prop 3), (.b (.v 4), .prop 5), (.a 9, .prop 12), (.a 20, .prop 23)])
(.fail 2081)))))))))
theorem tree_rpTakeSnap : tree Tryz.prog { opq := [25], hv := [(0, [.b (.v 0), .b (.v 4), .a 9, .a 26])], keep := [19, 28, 92, 107, 108, 98, 164, 29], turn := [(18, [0])], rdf := true } Tryz.f100 [.a (.ptr (.v 0) 0), .a (.int .i64 (.v 13)), .agg [.int .i64 (.v 14), .int .i64 (.v 15), .int .i64 (.v 16), .int .i64 (.v 17), .int .i64 (.v 18), .int .i64 (.v 19), .sl (.v 20) (.v 21) (.v 22)]] [(.b (.v 0), .cells [.int .i64 (.v 1), .val 2, .map (.v 4), .int .i64 (.v 6), .int .i64 (.v 7), .int .i64 (.v 8), .sl (.v 9) (.v 10) (.v 11)] 178), (.a 2, .prop 3), (.b (.v 4), .prop 5), (.a 9, .prop 12), (.a 20, .prop 23)] 24 = t_rpTakeSnap := by kernel_rfl
def t_rpTake : T :=
(.new
(.need (.o1 (.inr .i64) (.o2 .add (.v 1) (.i 1)))
(.br (.o1 .not (.o2 .eq (.v 13) (.i 1)))
(.ret (.tup []) [(.b (.v 0), .cells [.int .i64 (.o2 .add (.v 1) (.i 1)), .ptr (.v 2) 0, .map (.v 4), .int .i64 (.v 6), .int .i64 (.v 7), .int .i64 (.v 8), .sl (.v 9) (.v 10) (.v 11)] 178), (.b (.v 2), .prop 3), (.b (.v 4), .prop 5), (.a 9, .prop 12), (.a 14, .prop 17)])
(.call 98 [.a (.sl (.v 14) (.v 15) (.v 16))] [(.a 14, .prop 17)] [.i, .i, .i, .i, .i, .i, .a, .n, .n, .p, .i] (.tup [.agg [.int .i64 (.v 19), .int .i64 (.v 20), .int .i64 (.v 21), .int .i64 (.v 22), .int .i64 (.v 23), .int .i64 (.v 24), .sl (.v 25) (.v 26) (.v 27)], .a (.int .i64 (.v 29))]) [(.a 25, .prop 28), (.a 14, .prop 17)]
(.new
(.br (.o1 .not (.o2 .eq (.v 29) (.i 0)))
(.ret (.tup []) [(.b (.v 0), .cells [.int .i64 (.o2 .add (.v 1) (.i 1)), .ptr (.v 2) 0, .map (.v 4), .int .i64 (.v 6), .int .i64 (.v 7), .int .i64 (.v 8), .sl (.v 9) (.v 10) (.v 11)] 178), (.b (.v 2), .prop 3), (.b (.v 4), .prop 5), (.a 9, .prop 12), (.a 14, .prop 17)])
(.br (.o2 .eq (.v 19) (.i 1))
(.call 99 [.a (.ptr (.v 0) 0), .a (.int .i64 (.v 1)), .agg [.int .i64 (.v 19), .int .i64 (.v 20), .int .i64 (.v 21), .int .i64 (.v 22), .int .i64 (.v 23), .int .i64 (.v 24), .sl (.v 25) (.v 26) (.v 27)]] [(.b (.v 0), .cells [.int .i64 (.o2 .add (.v 1) (.i 1)), .ptr (.v 2) 0, .map (.v 4), .int .i64 (.v 6), .int .i64 (.v 7), .int .i64 (.v 8), .sl (.v 9) (.v 10) (.v 11)] 178), (.b (.v 2), .prop 3), (.b (.v 4), .prop 5), (.a 9, .prop 12), (.a 25, .prop 28)] [.i, .n, .p, .n, .p, .i, .i, .i, .a, .n, .n, .p, .p] (.tup []) [(.b (.v 0), .cells [.int .i64 (.v 31), .ptr (.v 32) 0, .map (.v 34), .int .i64 (.v 36), .int .i64 (.v 37), .int .i64 (.v 38), .sl (.v 39) (.v 40) (.v 41)] 178), (.b (.v 32), .prop 33), (.b (.v 34), .prop 35), (.a 39, .prop 42), (.a 25, .prop 43)]
(.ret (.tup []) [(.b (.v 0), .cells [.int .i64 (.v 31), .ptr (.v 32) 0, .map (.v 34), .int .i64 (.v 36), .int .i64 (.v 37), .int .i64 (.v 38), .sl (.v 39) (.v 40) (.v 41)] 178), (.b (.v 32), .prop 33), (.b (.v 34), .prop 35), (.a 39, .prop 42), (.a 14, .prop 17)]))
(.br (.o2 .eq (.v 19) (.i 2))
(.call 100 [.a (.ptr (.v 0) 0), .a (.int .i64 (.v 1)), .agg [.int .i64 (.v 19), .int .i64 (.v 20), .int .i64 (.v 21), .int .i64 (.v 22), .int .i64 (.v 23), .int .i64 (.v 24), .sl (.v 25) (.v 26) (.v 27)]] [(.b (.v 0), .cells [.int .i64 (.o2 .add (.v 1) (.i 1)), .ptr (.v 2) 0, .map (.v 4), .int .i64 (.v 6), .int .i64 (.v 7), .int .i64 (.v 8), .sl (.v 9) (.v 10) (.v 11)] 178), (.b (.v 2), .prop 3), (.b (.v 4), .prop 5), (.a 9, .prop 12), (.a 25, .prop 28)] [.i, .n, .p, .n, .p, .i, .i, .i, .a, .n, .n, .p, .p] (.tup []) [(.b (.v 0), .cells [.int .i64 (.v 31), .ptr (.v 32) 0, .map (.v 34), .int .i64 (.v 36), .int .i64 (.v 37), .int .i64 (.v 38), .sl (.v 39) (.v 40) (.v 41)] 178), (.b (.v 32), .prop 33), (.b (.v 34), .prop 35), (.a 39, .prop 42), (.a 25, .prop 43)]
(.ret (.tup []) [(.b (.v 0), .cells [.int .i64 (.v 31), .ptr (.v 32) 0, .map (.v 34), .int .i64 (.v 36), .int .i64 (.v 37), .int .i64 (.v 38), .sl (.v 39) (.v 40) (.v 41)] 178), (.b (.v 32), .prop 33), (.b (.v 34), .prop 35), (.a 39, .prop 42), (.a 14, .prop 17)]))
(.ret (.tup []) [(.b (.v 0), .cells [.int .i64 (.o2 .add (.v 1) (.i 1)), .ptr (.v 2) 0, .map (.v 4), .int .i64 (.v 6), .int .i64 (.v 7), .int .i64 (.v 8), .sl (.v 9) (.v 10) (.v 11)] 178), (.b (.v 2), .prop 3), (.b (.v 4), .prop 5), (.a 9, .prop 12), (.a 14, .prop 17)])))))))))
theorem tree_rpTake : tree Tryz.prog { keep := [19, 28, 92, 107, 108, 98, 164, 29], turn := [(18, [0])], rdf := true } Tryz.f35 [.a (.ptr (.v 0) 0), .agg [.int .i64 (.v 13), .sl (.v 14) (.v 15) (.v 16)]] [(.b (.v 0), .cells [.int .i64 (.v 1), .ptr (.v 2) 0, .map (.v 4), .int .i64 (.v 6), .int .i64 (.v 7), .int .i64 (.v 8), .sl (.v 9) (.v 10) (.v 11)] 178), (.b (.v 2), .prop 3), (.b (.v 4), .prop 5), (.a 9, .prop 12), (.a 14, .prop 17)] 18 = t_rpTake := by kernel_rfl
def t_rpNodes : T :=
(.call 92 [.a (.ptr (.v 0) 0)] [(.b (.v 0), .cells [.int .i64 (.v 1), .ptr (.v 2) 0, .map (.v 4), .int .i64 (.v 6), .int .i64 (.v 7), .int .i64 (.v 8), .sl (.v 9) (.v 10) (.v 11)] 178), (.b (.v 2), .prop 3), (.b (.v 4), .prop 5), (.a 9, .prop 12)] [.c] (.w (.a (.bool (.v 13)))) [(.b (.v 0), .cells [.int .i64 (.v 1), .ptr (.v 2) 0, .map (.v 4), .int .i64 (.v 6), .int .i64 (.v 7), .int .i64 (.v 8), .sl (.v 9) (.v 10) (.v 11)] 178), (.b (.v 2), .prop 3), (.b (.v 4), .prop 5), (.a 9, .prop 12)]
(.br (.v 13)
(.ret (.w (.a (.sl .nil (.n 0) (.n 0)))) [(.b (.v 0), .cells [.int .i64 (.v 1), .ptr (.v 2) 0, .map (.v 4), .int .i64 (.v 6), .int .i64 (.v 7), .int .i64 (.v 8), .sl (.v 9) (.v 10) (.v 11)] 178), (.b (.v 2), .prop 3), (.b (.v 4), .prop 5), (.a 9, .prop 12)])
(.call 19 [.a (.ptr (.v 2) 0)] [(.b (.v 2), .prop 3)] [.a, .n, .n, .p] (.w (.a (.sl (.v 14) (.v 15) (.v 16)))) [(.a 14, .prop 17), (.b (.v 2), .prop 3)]
(.ret (.w (.a (.sl (.v 14) (.v 15) (.v 16)))) [(.b (.v 0), .cells [.int .i64 (.v 1), .ptr (.v 2) 0, .map (.v 4), .int .i64 (.v 6), .int .i64 (.v 7), .int .i64 (.v 8), .sl (.v 9) (.v 10) (.v 11)] 178), (.b (.v 2), .prop 3), (.b (.v 4), .prop 5), (.a 9, .prop 12), (.a 14, .prop 17)]))))
theorem tree_rpNodes : tree Tryz.prog { keep := [19, 28, 92, 107, 108, 98, 164, 29], turn := [(18, [0])], rdf := true } Tryz.f37 [.a (.ptr (.v 0) 0)] [(.b (.v 0), .cells [.int .i64 (.v 1), .ptr (.v 2) 0, .map (.v 4), .int .i64 (.v 6), .int .i64 (.v 7), .int .i64 (.v 8), .sl (.v 9) (.v 10) (.v 11)] 178), (.b (.v 2), .prop 3), (.b (.v 4), .prop 5), (.a 9, .prop 12)] 13 = t_rpNodes := by kernel_rfl
def t_rpSnap : T :=
(.call 92 [.a (.ptr (.v 0) 0)] [(.b (.v 0), .cells [.int .i64 (.v 1), .ptr (.v 2) 0, .map (.v 4), .int .i64 (.v 6), .int .i64 (.v 7), .int .i64 (.v 8), .sl (.v 9) (.v 10) (.v 11)] 178), (.b (.v 2), .prop 3), (.b (.v 4), .prop 5), (.a 9, .prop 12)] [.c] (.w (.a (.bool (.v 13)))) [(.b (.v 0), .cells [.int .i64 (.v 1), .ptr (.v 2) 0, .map (.v 4), .int .i64 (.v 6), .int .i64 (.v 7), .int .i64 (.v 8), .sl (.v 9) (.v 10) (.v 11)] 178), (.b (.v 2), .prop 3), (.b (.v 4), .prop 5), (.a 9, .prop 12)]
(.br (.v 13)
(.ret (.tup [.a (.sl .nil (.n 0) (.n 0)), .a (.int .i64 (.i 5))]) [(.b (.v 0), .cells [.int .i64 (.v 1), .ptr (.v 2) 0, .map (.v 4), .int .i64 (.v 6), .int .i64 (.v 7), .int .i64 (.v 8), .sl (.v 9) (.v 10) (.v 11)] 178), (.b (.v 2), .prop 3), (.b (.v 4), .prop 5), (.a 9, .prop 12)])
(.call 28 [.a (.int .i64 (.v 1)), .a (.ptr (.v 2) 0)] [(.b (.v 2), .prop 3)] [.a, .n, .n, .p] (.w (.a (.sl (.v 14) (.v 15) (.v 16)))) [(.a 14, .prop 17), (.b (.v 2), .prop 3)]
(.ret (.tup [.a (.sl (.v 14) (.v 15) (.v 16)), .a (.int .i64 (.i 0))]) [(.b (.v 0), .cells [.int .i64 (.v 1), .ptr (.v 2) 0, .map (.v 4), .int .i64 (.v 6), .int .i64 (.v 7), .int .i64 (.v 8), .sl (.v 9) (.v 10) (.v 11)] 178), (.b (.v 2), .prop 3), (.b (.v 4), .prop 5), (.a 9, .prop 12), (.a 14, .prop 17)]))))
theorem tree_rpSnap : tree Tryz.prog { keep := [19, 28, 92, 107, 108, 98, 164, 29], turn := [(18, [0])], rdf := true } Tryz.f44 [.a (.ptr (.v 0) 0)] [(.b (.v 0), .cells [.int .i64 (.v 1), .ptr (.v 2) 0, .map (.v 4), .int .i64 (.v 6), .int .i64 (.v 7), .int .i64 (.v 8), .sl (.v 9) (.v 10) (.v 11)] 178), (.b (.v 2), .prop 3), (.b (.v 4), .prop 5), (.a 9, .prop 12)] 13 = t_rpSnap := by kernel_rfl
def t_rpSnapped : T :=
(.ret (.tup [.a (.int .i64 (.v 6)), .a (.int .i64 (.v 7))]) [(.b (.v 0), .cells [.int .i64 (.v 1), .ptr (.v 2) 0, .map (.v 4), .int .i64 (.v 6), .int .i64 (.v 7), .int .i64 (.v 8), .sl (.v 9) (.v 10) (.v 11)] 178), (.b (.v 2), .prop 3), (.b (.v 4), .prop 5), (.a 9, .prop 12)])
theorem tree_rpSnapped : tree Tryz.prog { keep := [19, 28, 92, 107, 108, 98, 164, 29], turn := [(18, [0])], rdf := true } Tryz.f42 [.a (.ptr (.v 0) 0)] [(.b (.v 0), .cells [.int .i64 (.v 1), .ptr (.v 2) 0, .map (.v 4), .int .i64 (.v 6), .int .i64 (.v 7), .int .i64 (.v 8), .sl (.v 9) (.v 10) (.v 11)] 178), (.b (.v 2), .prop 3), (.b (.v 4), .prop 5), (.a 9, .prop 12)] 13 = t_rpSnapped := by kernel_rfl
def t_bclone : T :=
(.br (.o1 .not (.o1 .isSome (.v 0)))
(.ret (.w (.a (.sl .nil (.n 0) (.n 0)))) [(.a 0, .prop 3)])
(.new
(.op (.call ⟨.builtin .append, #[.tmp 5, .tmp 6], #[28, 28]⟩) 28 [(5, .w (.a (.sl (.b (.v 4) 0) (.n 0) (.n 0)))), (6, .w (.a (.sl (.v 0) (.v 1) (.v 2))))] [(.b (.v 4), .cells [] 5), (.a 0, .prop 3)] [.a, .n, .n, .p] (.w (.a (.sl (.v 5) (.v 6) (.v 7)))) [(.a 5, .prop 8), (.a 0, .prop 3)]
(.ret (.w (.a (.sl (.v 5) (.v 6) (.v 7)))) [(.a 0, .prop 3), (.a 5, .prop 8)]))))
theorem tree_bclone : tree Tryz.prog { } Tryz.f107 [.a (.sl (.v 0) (.v 1) (.v 2))] [(.a 0, .prop 3)] 4 = t_bclone := by kernel_rfl
end Go.Proofs.YtdieogcemmnaaaaGreatDoor.RX



namespace Go.Proofs.YtdieogcemmnaaaaGreatDoor
set_option linter.unusedSimpArgs false
set_option linter.unusedVariables false
open Go.Proofs.YtdieogcemmnaaaaGreatDoor RX
set_option maxRecDepth 100000


theorem bcl_ok (S : HP) (a : Option Addr) (n c : Nat) (l : List UInt8) (hr : RdL S a n (l.map u8v)) (hl : l.length = n) (hb : n ≤ 140737488355328) :
    Tri Tryz.prog 107 #[.slice a n c] S (fun v => HP.ex fun a' => HP.ex fun c' => HP.and (v = .slice a' n c') (HP.sep (OwB a' n c' l) S)) := by
  refine tri_of_tree (ρ := [.a a, .n n, .n c, .p S]) mixed Tryz.func107 tree_bclone ?_
  unfold t_bclone
  simp only [T.den, E.prop, E.den, RX.look, F1.app, F2.app, Uni.int_i, Uni.nat_n, Uni.bool_c, Uni.str_s, Uni.adr_a, Uni.val_v, Uni.hp_p, hden, cden, V.den, W.den, A.den, BR.den, SA.den, FV.den, capV, exs, exP, allP, Cur.app, List.map_cons, List.map_nil, List.cons_append, List.nil_append, List.drop_succ_cons, List.drop_zero, List.length_cons, List.length_nil, Nat.zero_add, Nat.reduceAdd, Int.neg_neg, Bool.not_not, List.append_nil, Nat.add_zero, List.getElem?_cons_zero, List.getElem?_cons_succ, Decidable.not_not, semW_eq, semW_append, ne_eq, Nat.reduceEqDiff, not_false_eq_true]
  refine ⟨fun ha => .of fun R h H => ?_, fun ha x => ?_⟩
  · have hn : n = 0 := hr.none R h H (by simpa using ha)
    subst hn
    obtain rfl : l = [] := List.eq_nil_of_length_eq_zero hl
    exact ⟨none, 0, rfl, HP.tt_sep H |> fun H => HP.sep_mono H (fun x _ => OwC.nil _ _ R x) fun _ h => h⟩
  · have := append8 (some ⟨x, 0, none⟩) 0 0 [] S a n c l hr hl (fun _ => by simpa [Option.isSome_iff_ne_none] using ha) (by omega)
    refine this.weak (fun R h H => HP.sep_mono H (fun y hy => ⟨rfl, .inr ⟨x, #[], rfl, hy, Nat.le_refl _, by unfold maxLen; omega, rfl, rfl⟩⟩) fun _ h => h) ?_
    rintro v R h ⟨a', c', rfl, H⟩
    rw [Nat.zero_add, List.nil_append] at H
    exact ⟨a', n, c', OwB a' n c' l, by rw [Nat.zero_add], .of fun R' h' H' => ⟨a', c', rfl, HP.sep_comm H'⟩, H⟩

def ansV (x : AnsM) (da : Option Addr) (dc : Nat) (na : Option Addr) (nc : Nat) : Value := .agg #[.int .i64 x.err, .int .i64 x.kind, .int .i64 x.size, .int .i64 x.links, .slice da x.data.length dc, .slice na x.names.length nc]
def AnsH (v : Value) (x : AnsM) : HP := HP.ex fun da : Option Addr => HP.ex fun dc : Nat => HP.ex fun na : Option Addr => HP.ex fun nc : Nat => HP.and (v = ansV x da dc na nc ∧ x.data.length ≤ 1000000 ∧ x.names.length ≤ 1000000) (HP.both (RoB da x.data.length x.data) (RoS na x.names.length x.names))
theorem AnsH.pers : Pers AnsH := fun v x R h h' ⟨da, dc, na, nc, e, H1, H2⟩ => ⟨da, dc, na, nc, e, H1, H2⟩
abbrev AnsMap (m : Nat) (f : IdM → Option AnsM) : HP := MapE AnsH idV m f
theorem undAM : Tryz.prog.underlying 175 = some (.map 57 31) := by kernel_rfl
def ans0 : Value := .agg #[.int .i64 0, .int .i64 0, .int .i64 0, .int .i64 0, .slice none 0 0, .slice none 0 0]
theorem infoAns : (Tryz.prog.info? 31).map (fun i => (i.zero, i.size)) = some (some ans0, 6) := by kernel_rfl
theorem infoAns' : ∃ i, Tryz.prog.info? 31 = some i ∧ i.zero = some ans0 ∧ i.size = 6 := by
  have h := infoAns
  obtain ⟨i, h1, h2⟩ := Option.map_eq_some_iff.1 h
  simp only [Prod.mk.injEq] at h2
  exact ⟨i, h1, h2.1, h2.2⟩
theorem ansAt {m : Nat} {f : IdM → Option AnsM} {l : AL IdM} {c : Nat} {R h : PH} (H : (MapH AnsH idV m f l c).p R h) (k : IdM) :
    (f k = none ∧ alFind k l = none) ∨ ∃ x da dc na nc, f k = some x ∧ alFind k l = some (ansV x da dc na nc) ∧ x.data.length ≤ 1000000 ∧ x.names.length ≤ 1000000 ∧ (RoB da x.data.length x.data).p R h ∧ (RoS na x.names.length x.names).p R h := by
  cases hf : f k with
  | none => exact .inl ⟨rfl, MapH.no H hf⟩
  | some x =>
    obtain ⟨v, h1, da, dc, na, nc, ⟨rfl, e1, e2⟩, h2, h3⟩ := MapH.yes H AnsH.pers hf h
    exact .inr ⟨x, da, dc, na, nc, rfl, h1, e1, e2, h2, h3⟩

structure RpS where
  nx : Int
  tb : Nat
  t : TS
  am : Nat
  f : IdM → Option AnsM
  up : Int
  at' : Int
  la : Int
def RpC (b : Nat) (s : RpS) : HP := HP.one b (.cells #[.int .i64 s.nx, .pointer (some ⟨s.tb, 0, none⟩), .map (some s.am), .int .i64 s.up, .int .i64 s.at', .int .i64 s.la, .slice none 0 0] 178 (0, 0))
def RpRep (b : Nat) (s : RpS) : HP := HP.sep (RpC b s) (HP.sep (TRep s.tb s.t) (HP.sep (AnsMap s.am s.f) HP.tt))
def RpX (b : Nat) (s : RpS) (K : HP) : HP := HP.sep (RpC b s) (HP.sep (TRep s.tb s.t) (HP.sep (AnsMap s.am s.f) (HP.sep HP.tt K)))
theorem RpX.of {b : Nat} {s : RpS} {K : HP} {R h : PH} (H : (HP.sep (RpRep b s) K).p R h) : (RpX b s K).p R h := by
  have H1 := HP.sep_assoc H
  refine HP.sep_mono H1 (fun _ h => h) fun x hx => ?_
  have H2 := HP.sep_assoc hx
  exact HP.sep_mono H2 (fun _ h => h) fun y hy => HP.sep_assoc hy
theorem RpX.to {b : Nat} {s : RpS} {K : HP} {R h : PH} (H : (RpX b s K).p R h) : (HP.sep (RpRep b s) K).p R h :=
  HP.sep_assoc' (HP.sep_mono H (fun _ h => h) fun x hx => HP.sep_assoc' (HP.sep_mono hx (fun _ h => h) fun y hy => HP.sep_assoc' hy))
theorem rpNew_ok : Tri Tryz.prog 34 #[] HP.tt (fun v => HP.ex fun b : Nat => HP.ex fun s : RpS => HP.and (v = .pointer (some ⟨b, 0, none⟩) ∧ s.nx = 0 ∧ s.up = -1 ∧ s.at' = -1 ∧ s.la = 0 ∧ s.t.pub = newT ∧ s.f = fun _ => none) (RpRep b s)) := by
  refine tri_of_tree (ρ := []) mixed Tryz.func34 tree_rpNew ?_
  unfold t_rpNew
  simp only [T.den, E.prop, E.den, RX.look, F1.app, F2.app, Uni.int_i, Uni.nat_n, Uni.bool_c, Uni.str_s, Uni.adr_a, Uni.val_v, Uni.hp_p, hden, cden, V.den, W.den, A.den, BR.den, SA.den, FV.den, capV, exs, exP, allP, Cur.app, List.map_cons, List.map_nil, List.cons_append, List.nil_append, List.drop_succ_cons, List.drop_zero, List.length_cons, List.length_nil, Nat.zero_add, Nat.reduceAdd, Int.neg_neg, Bool.not_not, List.append_nil, Nat.add_zero, List.getElem?_cons_zero, List.getElem?_cons_succ, Decidable.not_not, semW_eq, ne_eq, Nat.reduceEqDiff, not_false_eq_true]
  refine tNew_ok.weak (fun _ _ h => h) ?_
  rintro v R h ⟨tb, t0, ⟨rfl, h0⟩, H⟩
  refine ⟨tb, TRep tb t0, rfl, ?_, H⟩
  intro m b
  refine .of fun R h H => ⟨b, ⟨0, tb, t0, m, fun _ => none, -1, -1, 0⟩, ⟨rfl, rfl, rfl, rfl, rfl, h0, rfl⟩, ?_⟩
  exact HP.sep_mono H (fun _ h => h) fun x hx => HP.sep_mono hx (fun _ h => h) fun y hy => HP.sep_tt (MapE.new AnsH idV m hy)
variable {b : Nat} {s : RpS}
theorem rpNext_ok : Tri Tryz.prog 38 #[.pointer (some ⟨b, 0, none⟩)] (RpRep b s) (fun v => HP.and (v = .int .i64 s.nx) (RpRep b s)) := by
  refine tri_of_tree (ρ := [.n b, .i s.nx, .n s.tb, .p (TRep s.tb s.t), .n s.am, .p (AnsMap s.am s.f), .i s.up, .i s.at', .i s.la, .a none, .n 0, .n 0, .p HP.tt]) mixed Tryz.func38 tree_rpNext ?_
  unfold t_rpNext
  simp only [T.den, E.prop, E.den, RX.look, F1.app, F2.app, Uni.int_i, Uni.nat_n, Uni.bool_c, Uni.str_s, Uni.adr_a, Uni.val_v, Uni.hp_p, hden, cden, V.den, W.den, A.den, BR.den, SA.den, FV.den, capV, exs, exP, allP, Cur.app, List.map_cons, List.map_nil, List.cons_append, List.nil_append, List.drop_succ_cons, List.drop_zero, List.length_cons, List.length_nil, Nat.zero_add, Nat.reduceAdd, Int.neg_neg, Bool.not_not, List.append_nil, Nat.add_zero, List.getElem?_cons_zero, List.getElem?_cons_succ, Decidable.not_not, semW_eq, ne_eq, Nat.reduceEqDiff, not_false_eq_true]
  exact .of fun R h H => ⟨trivial, H⟩
theorem rpLost_ok : Tri Tryz.prog 92 #[.pointer (some ⟨b, 0, none⟩)] (RpRep b s) (fun v => HP.and (v = .bool false) (RpRep b s)) := by
  refine tri_of_tree (ρ := [.n b, .i s.nx, .n s.tb, .p (TRep s.tb s.t), .n s.am, .p (AnsMap s.am s.f), .i s.up, .i s.at', .i s.la, .a none, .n 0, .n 0, .p HP.tt]) mixed Tryz.func92 tree_rpLost ?_
  unfold t_rpLost
  simp only [T.den, E.prop, E.den, RX.look, F1.app, F2.app, Uni.int_i, Uni.nat_n, Uni.bool_c, Uni.str_s, Uni.adr_a, Uni.val_v, Uni.hp_p, hden, cden, V.den, W.den, A.den, BR.den, SA.den, FV.den, capV, exs, exP, allP, Cur.app, List.map_cons, List.map_nil, List.cons_append, List.nil_append, List.drop_succ_cons, List.drop_zero, List.length_cons, List.length_nil, Nat.zero_add, Nat.reduceAdd, Int.neg_neg, Bool.not_not, List.append_nil, Nat.add_zero, List.getElem?_cons_zero, List.getElem?_cons_succ, Decidable.not_not, semW_eq, ne_eq, Nat.reduceEqDiff, not_false_eq_true]
  exact .of fun R h H => ⟨trivial, H⟩
theorem rpSnapped_ok : Tri Tryz.prog 42 #[.pointer (some ⟨b, 0, none⟩)] (RpRep b s) (fun v => HP.and (v = .tuple #[.int .i64 s.up, .int .i64 s.at']) (RpRep b s)) := by
  refine tri_of_tree (ρ := [.n b, .i s.nx, .n s.tb, .p (TRep s.tb s.t), .n s.am, .p (AnsMap s.am s.f), .i s.up, .i s.at', .i s.la, .a none, .n 0, .n 0, .p HP.tt]) mixed Tryz.func42 tree_rpSnapped ?_
  unfold t_rpSnapped
  simp only [T.den, E.prop, E.den, RX.look, F1.app, F2.app, Uni.int_i, Uni.nat_n, Uni.bool_c, Uni.str_s, Uni.adr_a, Uni.val_v, Uni.hp_p, hden, cden, V.den, W.den, A.den, BR.den, SA.den, FV.den, capV, exs, exP, allP, Cur.app, List.map_cons, List.map_nil, List.cons_append, List.nil_append, List.drop_succ_cons, List.drop_zero, List.length_cons, List.length_nil, Nat.zero_add, Nat.reduceAdd, Int.neg_neg, Bool.not_not, List.append_nil, Nat.add_zero, List.getElem?_cons_zero, List.getElem?_cons_succ, Decidable.not_not, semW_eq, ne_eq, Nat.reduceEqDiff, not_false_eq_true]
  exact .of fun R h H => ⟨trivial, H⟩
theorem rpNodes_ok {B : Nat} (hB : B ≤ 100000) (wf : TWf B s.t.pub) : Tri Tryz.prog 37 #[.pointer (some ⟨b, 0, none⟩)] (RpRep b s)
    (fun v => HP.ex fun a => HP.ex fun c => HP.and (v = .slice a s.t.pub.length c) (HP.sep (NodesR a s.t.pub.length s.t.pub) (RpRep b s))) := by
  refine tri_of_tree (ρ := [.n b, .i s.nx, .n s.tb, .p (TRep s.tb s.t), .n s.am, .p (AnsMap s.am s.f), .i s.up, .i s.at', .i s.la, .a none, .n 0, .n 0, .p HP.tt]) mixed Tryz.func37 tree_rpNodes ?_
  unfold t_rpNodes
  simp only [T.den, E.prop, E.den, RX.look, F1.app, F2.app, Uni.int_i, Uni.nat_n, Uni.bool_c, Uni.str_s, Uni.adr_a, Uni.val_v, Uni.hp_p, hden, cden, V.den, W.den, A.den, BR.den, SA.den, FV.den, capV, exs, exP, allP, Cur.app, List.map_cons, List.map_nil, List.cons_append, List.nil_append, List.drop_succ_cons, List.drop_zero, List.length_cons, List.length_nil, Nat.zero_add, Nat.reduceAdd, Int.neg_neg, Bool.not_not, List.append_nil, Nat.add_zero, List.getElem?_cons_zero, List.getElem?_cons_succ, Decidable.not_not, semW_eq, ne_eq, Nat.reduceEqDiff, not_false_eq_true]
  refine rpLost_ok.weak (fun _ _ h => h) ?_
  rintro v R h ⟨rfl, H⟩
  refine ⟨false, rfl, ⟨fun h => (by cases h), fun _ => ?_⟩, H⟩
  clear H
  refine (tNodes_ok hB wf).weak (fun _ _ h => h) ?_
  rintro v R h ⟨a, c, rfl, H⟩
  refine ⟨a, _, c, NodesR a s.t.pub.length s.t.pub, rfl, .of fun R h H => ⟨a, c, rfl, ?_⟩, H⟩
  exact HP.pick [_, _, _, _, _] [4, 0, 1, 2, 3] (by decide) rfl H
theorem rpSnap_ok {B : Nat} (hB : B ≤ 100000) (wf : TWf B s.t.pub) : Tri Tryz.prog 44 #[.pointer (some ⟨b, 0, none⟩)] (RpRep b s)
    (fun v => HP.ex fun a => HP.ex fun c => HP.and (v = .tuple #[.slice a (snapS s.nx s.t.pub).length c, .int .i64 0]) (HP.sep (OwB a (snapS s.nx s.t.pub).length c (snapS s.nx s.t.pub)) (RpRep b s))) := by
  refine tri_of_tree (ρ := [.n b, .i s.nx, .n s.tb, .p (TRep s.tb s.t), .n s.am, .p (AnsMap s.am s.f), .i s.up, .i s.at', .i s.la, .a none, .n 0, .n 0, .p HP.tt]) mixed Tryz.func44 tree_rpSnap ?_
  unfold t_rpSnap
  simp only [T.den, E.prop, E.den, RX.look, F1.app, F2.app, Uni.int_i, Uni.nat_n, Uni.bool_c, Uni.str_s, Uni.adr_a, Uni.val_v, Uni.hp_p, hden, cden, V.den, W.den, A.den, BR.den, SA.den, FV.den, capV, exs, exP, allP, Cur.app, List.map_cons, List.map_nil, List.cons_append, List.nil_append, List.drop_succ_cons, List.drop_zero, List.length_cons, List.length_nil, Nat.zero_add, Nat.reduceAdd, Int.neg_neg, Bool.not_not, List.append_nil, Nat.add_zero, List.getElem?_cons_zero, List.getElem?_cons_succ, Decidable.not_not, semW_eq, ne_eq, Nat.reduceEqDiff, not_false_eq_true]
  refine rpLost_ok.weak (fun _ _ h => h) ?_
  rintro v R h ⟨rfl, H⟩
  refine ⟨false, rfl, ⟨fun h => (by cases h), fun _ => ?_⟩, H⟩
  clear H
  refine (encode_ok hB wf s.nx).weak (fun _ _ h => h) ?_
  rintro v R h ⟨a, c, rfl, H⟩
  refine ⟨a, _, c, OwB a _ c (snapS s.nx s.t.pub), rfl, .of fun R h H => ⟨a, c, rfl, ?_⟩, HP.sep_comm H⟩
  exact HP.pick [_, _, _, _, _] [4, 0, 1, 2, 3] (by decide) rfl H
def keepA (f : IdM → Option AnsM) (k : IdM) (x : AnsM) : IdM → Option AnsM := match f k with
  | none => fput f k (some x)
  | some _ => f
theorem lookA {m : Nat} {f : IdM → Option AnsM} {l : AL IdM} {c : Nat} (k : IdM) : ORead Tryz.prog (lookS 175 (.map (some m)) (idV k) true) (MapH AnsH idV m f l c) (.tuple #[(alFind k l).getD ans0, .bool (alFind k l).isSome]) := by
  obtain ⟨i, hi, hz, _⟩ := infoAns'
  exact look_ok (c := c) (l := l) idK undAM hi hz k true fun R h H => MapH.at H
def ansF (f : IdM → Option AnsM) (l : AL IdM) (k : IdM) : Prop := (f k = none ∧ alFind k l = none) ∨ ∃ x da dc na nc, f k = some x ∧ alFind k l = some (ansV x da dc na nc) ∧ x.data.length ≤ 1000000 ∧ x.names.length ≤ 1000000
theorem ansFact {m : Nat} {f : IdM → Option AnsM} {l : AL IdM} {c : Nat} (k : IdM) {R h : PH} (H : (MapH AnsH idV m f l c).p R h) : ansF f l k := by
  rcases ansAt H k with h | ⟨x, da, dc, na, nc, h1, h2, h3, h4, _⟩
  · exact .inl h
  · exact .inr ⟨x, da, dc, na, nc, h1, h2, h3, h4⟩
def RpM (b : Nat) (s : RpS) (l : AL IdM) (c : Nat) (K : HP) : HP := HP.sep (RpC b s) (HP.sep (TRep s.tb s.t) (HP.sep (MapH AnsH idV s.am s.f l c) (HP.sep HP.tt K)))
theorem Tri.rpM {P : Program} {f : FuncId} {args : Array Value} {K : HP} {B : Value → HP} (t : ∀ l c, Tri P f args (RpM b s l c K) B) : Tri P f args (RpX b s K) B :=
  (Tri.ex (A := fun l : AL IdM => HP.ex fun c : Nat => RpM b s l c K) fun l => Tri.ex fun c => t l c).weak (fun R h ⟨h1, h2, d, l1, l2, HC, ⟨h3, h4, d2, l3, l4, HT, ⟨h5, h6, d3, l5, l6, ⟨l, c, HA⟩, HK⟩⟩⟩ => ⟨l, c, h1, h2, d, l1, l2, HC, h3, h4, d2, l3, l4, HT, h5, h6, d3, l5, l6, HA, HK⟩) fun _ _ _ h => h
theorem RpM.map {l : AL IdM} {c : Nat} {K : HP} {R h : PH} (H : (RpM b s l c K).p R h) : (MapH AnsH idV s.am s.f l c).p R h := HP.sep_left (HP.sep_right (HP.sep_right H))
theorem doR {B : Nat} {tb : Nat} {t : TS} (hB : B ≤ 100000) (wf : TWf B t.pub) (c : CallM) (S : HP) (d : List UInt8) (hd : CallD c S d) : Tri Tryz.prog 18 #[.pointer (some ⟨tb, 0, none⟩), c.val] (HP.sep (TRep tb t) S)
    (fun v => HP.ex fun t' : TS => HP.and (t'.pub = (doC t.pub c d).1) (HP.ex fun da : Option Addr => HP.ex fun dc : Nat => HP.ex fun na : Option Addr => HP.ex fun nc : Nat => HP.and (v = ansV (doC t.pub c d).2 da dc na nc) (HP.sep (RoB da (doC t.pub c d).2.data.length (doC t.pub c d).2.data) (HP.sep (RoS na (doC t.pub c d).2.names.length (doC t.pub c d).2.names) (HP.sep (TRep tb t') S))))) := by
  refine (tDo_ok hB wf c S d hd).post fun v => fun R h dd ⟨t', ht, da, dc, na, nc, e, H⟩ => ?_
  obtain ⟨R1, h1, q1, q2, q3, q4, H1⟩ := ((OwC.share 5 1 da _ dc ((doC t.pub c d).2.data.map u8v)).sep2 ((OwC.share 9 1 na _ nc ((doC t.pub c d).2.names.map sE)).sep2 (HP.ent.refl (HP.sep (TRep tb t') S)))) R h dd H
  exact ⟨R1, h1, q1, q2, q3, q4, t', ht, da, dc, na, nc, e, H1⟩
theorem statS_few (T : List Nd) (p : Nm) : (statS T p).data = [] ∧ (statS T p).names = [] := by
  unfold statS
  split
  · exact ⟨rfl, rfl⟩
  · split <;> exact ⟨rfl, rfl⟩
theorem listS_few {B : Nat} {T : List Nd} (wf : TWf B T) (p : Nm) : (listS T p).data.length ≤ 512 ∧ (listS T p).names.length ≤ B := by
  unfold listS
  split
  · exact ⟨Nat.zero_le _, Nat.zero_le _⟩
  · split
    · exact ⟨Nat.zero_le _, Nat.zero_le _⟩
    · rename_i x hx
      split
      · exact ⟨Nat.zero_le _, Nat.zero_le _⟩
      · refine ⟨Nat.zero_le _, ?_⟩
        have := (wf.good x (nodeAt_mem hx).1).efew
        simpa using this
theorem readS_few {B : Nat} {T : List Nd} (wf : TWf B T) (p : Nm) (off n : Int) : (readS' T p off n).data.length ≤ 512 ∧ (readS' T p off n).names.length ≤ B := by
  refine ⟨?_, Nat.zero_le _⟩
  show (readS T p off n).2.length ≤ 512
  unfold readS
  split
  · exact Nat.zero_le _
  · split
    · exact Nat.zero_le _
    · split
      · exact Nat.zero_le _
      · rename_i x hx
        have := (wf.good x (nodeAt_mem hx).1).data
        simp only [List.length_take, List.length_drop]
        omega
theorem doS_few {B : Nat} {T : List Nd} (wf : TWf B T) (kind : Int) (path other : Nm) (off n : Int) (d : List UInt8) : (doS T kind path other off n d).2.data.length ≤ 512 ∧ (doS T kind path other off n d).2.names.length ≤ B := by
  have z : ∀ e : Int, (({ err := e } : AnsM)).data.length ≤ 512 ∧ (({ err := e } : AnsM)).names.length ≤ B := fun e => ⟨Nat.zero_le _, Nat.zero_le _⟩
  unfold doS
  split
  · exact z _
  split
  · exact z _
  split
  · exact z _
  split
  · exact z _
  split
  · exact z _
  split
  · exact z _
  split
  · exact readS_few wf path off n
  split
  · exact z _
  split
  · have := statS_few T path
    show (statS T path).data.length ≤ 512 ∧ (statS T path).names.length ≤ B
    rw [this.1, this.2]; exact ⟨Nat.zero_le _, Nat.zero_le _⟩
  split
  · exact listS_few wf path
  split
  · exact ⟨Nat.zero_le _, Nat.zero_le _⟩
  · exact z _
set_option maxHeartbeats 1000000 in
theorem rpDo_ok {B : Nat} (hB : B ≤ 100000) (wf : TWf B s.t.pub) (k : IdM) (c : CallM) (S : HP) (d : List UInt8) (hd : CallD c S d) :
    Tri Tryz.prog 165 #[.pointer (some ⟨b, 0, none⟩), idV k, c.val] (RpX b s S) (fun v => HP.ex fun s' : RpS => HP.and (v = .tuple #[] ∧ s'.t.pub = (doC s.t.pub c d).1 ∧ s' = { s with t := s'.t, f := keepA s.f k (doC s.t.pub c d).2 }) (RpX b s' S)) := by
  refine Tri.rpM (K := S) (b := b) (s := s) fun l cl => ?_
  refine Tri.fact (φ := ansF s.f l k) (fun R h H => ansFact k (RpM.map H)) fun hA => ?_
  refine tri_of_tree (ρ := [.n b, .i s.nx, .n s.tb, .p (TRep s.tb s.t), .n s.am, .p (MapH AnsH idV s.am s.f l cl), .i s.up, .i s.at', .i s.la, .a none, .n 0, .n 0, .p HP.tt, .i k.1, .i k.2.1, .i k.2.2, .i c.kind, .s c.path, .s c.other, .i c.off, .i c.n, .a c.da, .n c.dl, .n c.dc, .p S]) mixed Tryz.func165 tree_rpDo ?_
  unfold t_rpDo
  simp only [T.den, E.prop, E.den, RX.look, F1.app, F2.app, Uni.int_i, Uni.nat_n, Uni.bool_c, Uni.str_s, Uni.adr_a, Uni.val_v, Uni.hp_p, hden, cden, V.den, W.den, A.den, BR.den, SA.den, FV.den, capV, exs, exP, allP, Cur.app, List.map_cons, List.map_nil, List.cons_append, List.nil_append, List.drop_succ_cons, List.drop_zero, List.length_cons, List.length_nil, Nat.zero_add, Nat.reduceAdd, Int.neg_neg, Bool.not_not, List.append_nil, Nat.add_zero, List.getElem?_cons_zero, List.getElem?_cons_succ, Decidable.not_not, semW_eq, semW_lookup, semW_lookupC, semW_update, semW_updateC, semW_updateK, ne_eq, Nat.reduceEqDiff, not_false_eq_true]
  intro _ _
  refine ⟨fun m e kd sz lk da dl dc na nl nc P38 P39 P40 => ∃ t' : TS, t'.pub = (doC s.t.pub c d).1 ∧ e = (doC s.t.pub c d).2.err ∧ kd = (doC s.t.pub c d).2.kind ∧ sz = (doC s.t.pub c d).2.size ∧ lk = (doC s.t.pub c d).2.links ∧ dl = (doC s.t.pub c d).2.data.length ∧ nl = (doC s.t.pub c d).2.names.length ∧ P38 = RoB da (doC s.t.pub c d).2.data.length (doC s.t.pub c d).2.data ∧ P39 = RoS na (doC s.t.pub c d).2.names.length (doC s.t.pub c d).2.names ∧ P40 = TRep s.tb t', ⟨?_, ?_⟩, ?_⟩
  · refine (doR hB wf c S d hd).weak (fun _ _ h => h) ?_
    rintro v R h ⟨t', ht, da, dc, na, nc, rfl, H⟩
    refine ⟨_, _, _, _, da, _, dc, _, na, _, nc, _, _, rfl, fun m => ⟨t', ht, rfl, rfl, rfl, rfl, rfl, rfl, rfl, rfl, rfl⟩, H⟩
  · intro m
    refine (doR hB wf c S d hd).weak (fun _ _ h => h) ?_
    rintro v R h ⟨t', ht, da, dc, na, nc, rfl, H⟩
    refine ⟨_, _, _, _, da, _, dc, _, na, _, nc, _, _, rfl, ⟨t', ht, rfl, rfl, rfl, rfl, rfl, rfl, rfl, rfl, rfl⟩, H⟩
  rintro m _ _ _ _ da _ dc na _ nc _ _ _ ⟨t', ht, rfl, rfl, rfl, rfl, rfl, rfl, rfl, rfl, rfl⟩
  have hfew := doS_few wf c.kind c.path c.other c.off c.n d
  have hlk := lookA (m := s.am) (f := s.f) (l := l) (c := cl) k
  rcases hA with ⟨hf, ha⟩ | ⟨x, da', dc', na', nc', hf, ha, hd', hn⟩
  · rw [ha] at hlk
    refine ⟨0, 0, 0, 0, none, 0, 0, none, 0, 0, false, hlk, fun _ => ⟨fun _ => ?_, fun h => (by cases h)⟩⟩
    refine (MapH.put idK undAM AnsH.pers k (ansV (doC s.t.pub c d).2 da dc na nc) (doC s.t.pub c d).2 (A := HP.sep (RoB da (doC s.t.pub c d).2.data.length (doC s.t.pub c d).2.data) (RoS na (doC s.t.pub c d).2.names.length (doC s.t.pub c d).2.names)) fun R h H => ⟨da, dc, na, nc, ⟨rfl, ?_, ?_⟩, HP.sep_left H, HP.sep_right H⟩).weak (fun _ _ h => h) ?_
    · have : (doC s.t.pub c d).2.data.length ≤ 512 := hfew.1
      omega
    · have : (doC s.t.pub c d).2.names.length ≤ B := hfew.2
      omega
    rintro v R h ⟨rfl, H⟩
    refine ⟨_, rfl, .of fun R h H => ⟨{ s with t := t', f := keepA s.f k (doC s.t.pub c d).2 }, ⟨trivial, ht, rfl⟩, ?_⟩, H⟩
    have e : keepA s.f k (doC s.t.pub c d).2 = fput s.f k (some (doC s.t.pub c d).2) := by unfold keepA; rw [hf]
    rw [e]
    exact H
  · rw [ha] at hlk
    refine ⟨x.err, x.kind, x.size, x.links, da', x.data.length, dc', na', x.names.length, nc', true, hlk, fun _ => ⟨fun h => absurd rfl h, fun _ => .of fun R h H => ⟨{ s with t := t', f := keepA s.f k (doC s.t.pub c d).2 }, ⟨trivial, ht, rfl⟩, ?_⟩⟩⟩
    have e : keepA s.f k (doC s.t.pub c d).2 = s.f := by unfold keepA; rw [hf]
    rw [e]
    exact HP.sep_mono H (fun _ h => h) fun x hx => HP.sep_mono hx (fun _ h => h) fun y hy => HP.sep_mono hy (fun _ h => ⟨l, cl, h⟩) fun _ h => h

structure RpP where
  nx : Int
  T : List Nd
  f : IdM → Option AnsM
  up : Int
  at' : Int
def RpS.pub (s : RpS) : RpP := ⟨s.nx, s.t.pub, s.f, s.up, s.at'⟩
def callP (p : RpP) (k : IdM) (c : CallP) : RpP := { p with T := (doS p.T c.kind c.path c.other c.off c.n c.data).1, f := keepA p.f k (doS p.T c.kind c.path c.other c.off c.n c.data).2 }
noncomputable def snapP (p : RpP) (a : Int) (l : List UInt8) : RpP := match decS wholeS l with
  | none => p
  | some (u, _) => if a < u then p else if p.up < u then { p with up := u, at' := a } else p
noncomputable def logP (p : RpP) (a : Int) (x : LogM) : RpP := if x.kind = 1 then (match callD x.pl with | none => p | some c => callP p (x.cl, x.bi, x.nu) c) else if x.kind = 2 then snapP p a x.pl else p
noncomputable def takeP (p : RpP) (what : Int) (l : List UInt8) : RpP := if what ≠ 1 then { p with nx := p.nx + 1 } else match entD l with
  | none => { p with nx := p.nx + 1 }
  | some x => logP { p with nx := p.nx + 1 } p.nx x
def CallP.m (x : CallP) (a : Option Addr) (c : Nat) : CallM := ⟨x.kind, x.path, x.other, x.off, x.n, a, x.data.length, c⟩
def RpPost (b : Nat) (p : RpP) (S : HP) (v : Value) : HP := HP.ex fun s' : RpS => HP.and (v = .tuple #[] ∧ s'.pub = p) (RpX b s' S)
set_option maxHeartbeats 1000000 in
theorem rpTakeCall_ok {B : Nat} (hB : B ≤ 100000) (wf : TWf B s.t.pub) (at' : Int) (x : LogM) (a : Option Addr) (c : Nat) (S : HP) (hr : RdL S a x.pl.length (x.pl.map u8v)) (hc : x.pl.length ≤ c) (ha : x.pl.length ≠ 0 → a.isSome = true) (hb : x.pl.length ≤ 1000000) :
    Tri Tryz.prog 99 #[.pointer (some ⟨b, 0, none⟩), .int .i64 at', x.val a c] (RpX b s S) (RpPost b (match callD x.pl with | none => s.pub | some q => callP s.pub (x.cl, x.bi, x.nu) q) S) := by
  refine tri_of_tree (ρ := [.n b, .i s.nx, .n s.tb, .p (TRep s.tb s.t), .n s.am, .p (AnsMap s.am s.f), .i s.up, .i s.at', .i s.la, .a none, .n 0, .n 0, .p HP.tt, .i at', .i x.kind, .i x.cl, .i x.bi, .i x.nu, .i x.st, .i x.bk, .a a, .n x.pl.length, .n c, .p S]) mixed Tryz.func99 tree_rpTakeCall ?_
  unfold t_rpTakeCall
  simp only [T.den, E.prop, E.den, RX.look, F1.app, F2.app, Uni.int_i, Uni.nat_n, Uni.bool_c, Uni.str_s, Uni.adr_a, Uni.val_v, Uni.hp_p, hden, cden, V.den, W.den, A.den, BR.den, SA.den, FV.den, capV, exs, exP, allP, Cur.app, List.map_cons, List.map_nil, List.cons_append, List.nil_append, List.drop_succ_cons, List.drop_zero, List.length_cons, List.length_nil, Nat.zero_add, Nat.reduceAdd, Int.neg_neg, Bool.not_not, List.append_nil, Nat.add_zero, List.getElem?_cons_zero, List.getElem?_cons_succ, Decidable.not_not, semW_eq, semW_append, ne_eq, Nat.reduceEqDiff, not_false_eq_true]
  intro _
  refine (cDecode_ok a x.pl.length c x.pl S hr rfl hc ha (by omega)).weak (fun _ _ h => h) ?_
  intro v R h H
  unfold CallPost at H
  cases hq : callD x.pl with
  | none =>
    rw [hq] at H
    obtain ⟨rfl, H⟩ := H
    refine ⟨0, [], [], 0, 0, none, 0, 0, HP.tt, 3, rfl, fun _ => ⟨fun _ => .of fun R h H => ⟨s, ⟨rfl, rfl⟩, H⟩, fun h => absurd h (by decide)⟩, HP.tt_sep H⟩
  | some q =>
    rw [hq] at H
    obtain ⟨da, dc, rfl, H⟩ := H
    have hda : q.data.length ≠ 0 → da.isSome = true := fun hn => OwC.some (HP.sep_left H) (by omega)
    refine ⟨q.kind, q.path, q.other, q.off, q.n, da, q.data.length, dc, OwB da q.data.length dc q.data, 0, rfl, fun _ => ⟨fun h => absurd rfl h, fun _ => ?_⟩, H⟩
    clear H
    refine rpLost_ok.weak (fun _ _ h => h) ?_
    rintro v R h ⟨rfl, H⟩
    refine ⟨false, rfl, ⟨fun h => (by cases h), fun _ => ?_⟩, H⟩
    clear H
    refine (rpDo_ok hB wf (x.cl, x.bi, x.nu) (q.m da dc) (OwB da q.data.length dc q.data) q.data ⟨RdL.ow _ _ _ _ _ _, rfl, hda⟩).weak (fun _ _ h => h) ?_
    rintro v R h ⟨s', ⟨rfl, h1, h2⟩, H⟩
    refine ⟨s'.nx, s'.tb, TRep s'.tb s'.t, s'.am, AnsMap s'.am s'.f, s'.up, s'.at', s'.la, none, 0, 0, HP.tt, _, rfl, .of fun R h H => ⟨s', ⟨rfl, ?_⟩, H⟩, H⟩
    unfold callP RpS.pub
    rw [h1, h2]
    rfl
set_option maxHeartbeats 1000000 in
theorem rpTakeSnap_ok (at' : Int) (x : LogM) (a : Option Addr) (c : Nat) (S : HP) (hr : RdL S a x.pl.length (x.pl.map u8v)) (hc : x.pl.length ≤ c) (ha : x.pl.length ≠ 0 → a.isSome = true) (hb : x.pl.length ≤ 1000000) :
    Tri Tryz.prog 100 #[.pointer (some ⟨b, 0, none⟩), .int .i64 at', x.val a c] (RpX b s S) (RpPost b (snapP s.pub at' x.pl) S) := by
  refine tri_of_tree (ρ := [.n b, .i s.nx, .v (.pointer (some ⟨s.tb, 0, none⟩)), .p (TRep s.tb s.t), .n s.am, .p (AnsMap s.am s.f), .i s.up, .i s.at', .i s.la, .a none, .n 0, .n 0, .p HP.tt, .i at', .i x.kind, .i x.cl, .i x.bi, .i x.nu, .i x.st, .i x.bk, .a a, .n x.pl.length, .n c, .p S]) mixed Tryz.func100 tree_rpTakeSnap ?_
  unfold t_rpTakeSnap
  simp only [T.den, E.prop, E.den, RX.look, F1.app, F2.app, Uni.int_i, Uni.nat_n, Uni.bool_c, Uni.str_s, Uni.adr_a, Uni.val_v, Uni.hp_p, hden, cden, V.den, W.den, A.den, BR.den, SA.den, FV.den, capV, exs, exP, allP, Cur.app, List.map_cons, List.map_nil, List.cons_append, List.nil_append, List.drop_succ_cons, List.drop_zero, List.length_cons, List.length_nil, Nat.zero_add, Nat.reduceAdd, Int.neg_neg, Bool.not_not, List.append_nil, Nat.add_zero, List.getElem?_cons_zero, List.getElem?_cons_succ, Decidable.not_not, semW_eq, ne_eq, Nat.reduceEqDiff, not_false_eq_true]
  intro _
  refine (decode_ok wholeS (fun _ _ h1 h2 => whole_ok h1 h2) a x.pl.length c x.pl S hr rfl hc ha hb).weak (fun _ _ h => h) ?_
  intro v R h H
  have same : snapP s.pub at' x.pl = s.pub → HP.ent (RpX b s S) (RpPost b (snapP s.pub at' x.pl) S (.tuple #[])) := fun e => .of fun R h H => ⟨s, ⟨rfl, e.symm⟩, H⟩
  unfold DcPost at H
  cases hq : decS wholeS x.pl with
  | none =>
    rw [hq] at H
    obtain ⟨rfl, H⟩ := H
    refine ⟨0, .pointer none, HP.tt, 3, rfl, ⟨fun _ => same ?_, fun h => absurd h (by decide)⟩, HP.tt_sep H⟩
    unfold snapP; rw [hq]
  | some q =>
    obtain ⟨u, T1⟩ := q
    rw [hq] at H
    obtain ⟨b2, t2, ⟨rfl, _⟩, H⟩ := H
    refine ⟨u, .pointer (some ⟨b2, 0, none⟩), TRep b2 t2, 0, rfl, ⟨fun h => absurd rfl h, fun _ => ⟨fun h1 => same ?_, fun h1 => ⟨fun h2 => ?_, fun h2 => ?_⟩⟩⟩, HP.sep_comm H⟩
    · unfold snapP; rw [hq]; exact if_pos h1
    · clear H
      refine (rpLost_ok (b := b) (s := { s with up := u, at' := at' })).weak (fun _ _ h => h) ?_
      rintro v R h ⟨rfl, H⟩
      refine ⟨false, rfl, ⟨fun _ => .of fun R h H => ⟨{ s with up := u, at' := at' }, ⟨rfl, ?_⟩, H⟩, fun h => absurd h (by decide)⟩, H⟩
      unfold snapP; rw [hq]
      show _ = if at' < u then _ else if s.up < u then _ else _
      rw [if_neg h1, if_pos h2]; rfl
    · clear H
      refine (rpLost_ok (b := b) (s := s)).weak (fun _ _ h => h) ?_
      rintro v R h ⟨rfl, H⟩
      refine ⟨false, rfl, ⟨fun _ => same ?_, fun h => absurd h (by decide)⟩, H⟩
      unfold snapP; rw [hq]
      show (if at' < u then _ else if s.up < u then _ else _) = _
      rw [if_neg h1, if_neg h2]
set_option maxHeartbeats 1000000 in
theorem rpTake_ok {B : Nat} (hB : B ≤ 100000) (wf : TWf B s.t.pub) (what : Int) (a : Option Addr) (n c : Nat) (l : List UInt8) (S : HP) (hr : RdL S a n (l.map u8v)) (hl : l.length = n) (hc : n ≤ c) (ha : n ≠ 0 → a.isSome = true) (hnx : -9223372036854775808 ≤ s.nx + 1 ∧ s.nx + 1 ≤ 9223372036854775807) :
    Tri Tryz.prog 35 #[.pointer (some ⟨b, 0, none⟩), .agg #[.int .i64 what, .slice a n c]] (RpX b s S) (RpPost b (takeP s.pub what l) S) := by
  refine tri_of_tree (ρ := [.n b, .i s.nx, .n s.tb, .p (TRep s.tb s.t), .n s.am, .p (AnsMap s.am s.f), .i s.up, .i s.at', .i s.la, .a none, .n 0, .n 0, .p HP.tt, .i what, .a a, .n n, .n c, .p S]) mixed Tryz.func35 tree_rpTake ?_
  unfold t_rpTake
  simp only [T.den, E.prop, E.den, RX.look, F1.app, F2.app, Uni.int_i, Uni.nat_n, Uni.bool_c, Uni.str_s, Uni.adr_a, Uni.val_v, Uni.hp_p, hden, cden, V.den, W.den, A.den, BR.den, SA.den, FV.den, capV, exs, exP, allP, Cur.app, List.map_cons, List.map_nil, List.cons_append, List.nil_append, List.drop_succ_cons, List.drop_zero, List.length_cons, List.length_nil, Nat.zero_add, Nat.reduceAdd, Int.neg_neg, Bool.not_not, List.append_nil, Nat.add_zero, List.getElem?_cons_zero, List.getElem?_cons_succ, Decidable.not_not, semW_eq, ne_eq, Nat.reduceEqDiff, not_false_eq_true]
  intro _
  refine ⟨inI64 _ hnx.1 hnx.2, fun _ => ?_⟩
  have up : takeP s.pub what l = RpS.pub { s with nx := s.nx + 1 } → HP.ent (RpX b { s with nx := s.nx + 1 } S) (RpPost b (takeP s.pub what l) S (.tuple #[])) := fun e => .of fun R h H => ⟨{ s with nx := s.nx + 1 }, ⟨rfl, e.symm⟩, H⟩
  refine ⟨fun h => up ?_, fun h => ?_⟩
  · unfold takeP; rw [if_pos h]; rfl
  have hw : ¬ what ≠ 1 := fun q => q h
  refine (eDecode_ok a n c l S hr hl hc ha).weak (fun _ _ h => h) ?_
  intro v R h H
  unfold EntPost at H
  cases hq : entD l with
  | none =>
    rw [hq] at H
    obtain ⟨rfl, H⟩ := H
    refine ⟨0, 0, 0, 0, 0, 0, none, 0, 0, HP.tt, 3, rfl, fun _ => ⟨fun _ => up ?_, fun h => absurd h (by decide)⟩, HP.tt_sep H⟩
    unfold takeP; rw [if_neg hw, hq]; rfl
  | some x =>
    rw [hq] at H
    obtain ⟨pa, pc, rfl, H⟩ := H
    have hpa : x.pl.length ≠ 0 → pa.isSome = true := fun hn => OwC.some (HP.sep_left H) (by omega)
    have hpc := OwC.le (HP.sep_left H)
    have hpl : x.pl.length ≤ 1000000 := by
      have : logOk x = true := by
        unfold entD at hq
        split at hq
        · cases hq
        · split at hq
          · cases hq
          · split at hq
            · cases hq
            · split at hq
              · rename_i h; cases hq; exact h
              · cases hq
      unfold logOk at this
      simp only [Bool.and_eq_true, decide_eq_true_eq] at this
      have := this.2
      omega
    have e : takeP s.pub what l = logP (RpS.pub { s with nx := s.nx + 1 }) s.nx x := by unfold takeP; rw [if_neg hw, hq]; rfl
    refine ⟨x.kind, x.cl, x.bi, x.nu, x.st, x.bk, pa, x.pl.length, pc, OwB pa x.pl.length pc x.pl, 0, rfl, fun _ => ⟨fun h => absurd rfl h, fun _ => ⟨fun h1 => ?_, fun h1 => ⟨fun h2 => ?_, fun h2 => up ?_⟩⟩⟩, H⟩
    · clear H
      refine (rpTakeCall_ok (b := b) (s := { s with nx := s.nx + 1 }) hB wf s.nx x pa pc (OwB pa x.pl.length pc x.pl) (RdL.ow _ _ _ _ _ _) hpc hpa hpl).weak (fun _ _ h => h) ?_
      rintro v R h ⟨s', ⟨rfl, h2⟩, H⟩
      refine ⟨s'.nx, s'.tb, TRep s'.tb s'.t, s'.am, AnsMap s'.am s'.f, s'.up, s'.at', s'.la, none, 0, 0, HP.tt, _, rfl, .of fun R h H => ⟨s', ⟨rfl, ?_⟩, H⟩, H⟩
      rw [e, h2]; unfold logP; rw [if_pos h1]
    · clear H
      refine (rpTakeSnap_ok (b := b) (s := { s with nx := s.nx + 1 }) s.nx x pa pc (OwB pa x.pl.length pc x.pl) (RdL.ow _ _ _ _ _ _) hpc hpa hpl).weak (fun _ _ h => h) ?_
      rintro v R h ⟨s', ⟨rfl, h3⟩, H⟩
      refine ⟨s'.nx, s'.tb, TRep s'.tb s'.t, s'.am, AnsMap s'.am s'.f, s'.up, s'.at', s'.la, none, 0, 0, HP.tt, _, rfl, .of fun R h H => ⟨s', ⟨rfl, ?_⟩, H⟩, H⟩
      rw [e, h3]; unfold logP; rw [if_neg h1, if_pos h2]
    · rw [e]; unfold logP; rw [if_neg h1, if_neg h2]
end Go.Proofs.YtdieogcemmnaaaaGreatDoor



namespace Go.Proofs.YtdieogcemmnaaaaGreatDoor
open Go.Proofs.YtdieogcemmnaaaaGreatDoor RX
set_option maxRecDepth 100000

theorem beN_snoc (v n : Nat) : beN v (n + 1) = beN (v / 256) n ++ [UInt8.ofNat v] := by
  unfold beN
  rw [List.range_succ, List.map_append]
  congr 1
  · refine List.map_congr_left fun j hj => ?_
    have hj := List.mem_range.1 hj
    unfold byteAt
    have e : 2 ^ (8 * (n + 1 - 1 - j)) = 256 * 2 ^ (8 * (n - 1 - j)) := by
      rw [show 8 * (n + 1 - 1 - j) = 8 * (n - 1 - j) + 8 by omega, Nat.pow_add]; omega
    rw [e, Nat.div_div_eq_div_mul]
  · simp [byteAt]
theorem beV_beN : ∀ (n v : Nat), v < 256 ^ n → beV (beN v n) = v
  | 0, v, h => by simp at h; subst h; rfl
  | n + 1, v, h => by
    rw [beN_snoc, beV_snoc, beV_beN n (v / 256) (by rw [Nat.pow_succ] at h; omega), UInt8.toNat_ofNat']
    omega
theorem beV_inj : ∀ (n : Nat) (l m : List UInt8), l.length = n → m.length = n → beV l = beV m → l = m
  | 0, l, m, h1, h2, _ => by rw [List.eq_nil_of_length_eq_zero h1, List.eq_nil_of_length_eq_zero h2]
  | n + 1, l, m, h1, h2, h => by
    have hl : l ≠ [] := fun e => by rw [e] at h1; cases h1
    have hm : m ≠ [] := fun e => by rw [e] at h2; cases h2
    rw [← List.dropLast_concat_getLast hl, ← List.dropLast_concat_getLast hm] at h ⊢
    rw [beV_snoc, beV_snoc] at h
    have a := (l.getLast hl).toNat_lt
    have b := (m.getLast hm).toNat_lt
    have e1 := beV_inj n l.dropLast m.dropLast (by rw [List.length_dropLast]; omega) (by rw [List.length_dropLast]; omega) (by omega)
    have e2 : l.getLast hl = m.getLast hm := UInt8.toNat_inj.1 (by omega)
    rw [e1, e2]
theorem unwrap_wrap (l : List UInt8) : unwrapS (wrapS l) = some l := by
  have h4 : (256 : Nat) ^ 4 = 4294967296 := by decide
  unfold unwrapS
  rw [wrapS_len, if_neg (by omega), Nat.add_sub_cancel]
  unfold wrapS
  rw [List.drop_left, List.take_left, beV_beN 4 _ (by have := sumS_lt l; omega), if_pos rfl]
end Go.Proofs.YtdieogcemmnaaaaGreatDoor



namespace Go.Proofs.YtdieogcemmnaaaaGreatDoor.RX
set_option maxRecDepth 100000
-- tideline/tidelineref01.Put: ρ := [.a outa, .n outl, .n outc, .p outP, .i v, .i n]
def t_r1Put : T :=
(.br (.o2 .lt (.i 8) (.v 5))
(.loop [.a, .n, .n, .i, .p] [.a (.v 0), .e (.o2 .nadd (.v 1) (.n 0)), .e (.o2 .nadd (.v 2) (.n 0)), .e (.o1 .neg (.o1 .neg (.i 7))), .p [(.a 0, .prop 3)]]
(.br (.o2 .le (.i 0) (.v 9))
(.loop [.i, .i] [.e (.o1 .neg (.o1 .neg (.v 4))), .e (.o1 .neg (.o1 .neg (.i 0)))]
(.br (.o2 .lt (.v 12) (.v 9))
(.need (.o1 (.inr .u64) (.o2 .quo (.v 11) (.i 256)))
(.need (.o1 (.inr .i64) (.o2 .add (.v 12) (.i 1)))
(.again 0 [.e (.o1 .neg (.o1 .neg (.o2 .quo (.v 11) (.i 256)))), .e (.o1 .neg (.o1 .neg (.o2 .add (.v 12) (.i 1))))])))
(.new
(.op (.call ⟨.builtin .append, #[.tmp 26, .tmp 30], #[28, 28]⟩) 28 [(26, .w (.a (.sl (.v 6) (.v 7) (.v 8)))), (30, .w (.a (.sl (.b (.v 13) 0) (.n 1) (.n 1))))] [(.a 6, .prop 10), (.b (.v 13), .cells [.int .u8 (.o1 (.wrap .u8) (.o2 .rem (.v 11) (.i 256)))] 5)] [.a, .n, .n, .p] (.w (.a (.sl (.v 14) (.v 15) (.v 16)))) [(.a 14, .prop 17), (.b (.v 13), .cells [.int .u8 (.o1 (.wrap .u8) (.o2 .rem (.v 11) (.i 256)))] 5)]
(.need (.o1 (.inr .i64) (.o2 .sub (.v 9) (.i 1)))
(.again 1 [.a (.v 14), .e (.o2 .nadd (.v 15) (.n 0)), .e (.o2 .nadd (.v 16) (.n 0)), .e (.o1 .neg (.o1 .neg (.o2 .sub (.v 9) (.i 1)))), .p [(.a 14, .prop 17)]]))))))
(.ret (.w (.a (.sl (.v 6) (.v 7) (.v 8)))) [(.a 6, .prop 10)])))
(.need (.o1 (.inr .i64) (.o2 .sub (.v 5) (.i 1)))
(.loop [.a, .n, .n, .i, .p] [.a (.v 0), .e (.o2 .nadd (.v 1) (.n 0)), .e (.o2 .nadd (.v 2) (.n 0)), .e (.o1 .neg (.o1 .neg (.o2 .sub (.v 5) (.i 1)))), .p [(.a 0, .prop 3)]]
(.br (.o2 .le (.i 0) (.v 9))
(.loop [.i, .i] [.e (.o1 .neg (.o1 .neg (.v 4))), .e (.o1 .neg (.o1 .neg (.i 0)))]
(.br (.o2 .lt (.v 12) (.v 9))
(.need (.o1 (.inr .u64) (.o2 .quo (.v 11) (.i 256)))
(.need (.o1 (.inr .i64) (.o2 .add (.v 12) (.i 1)))
(.again 0 [.e (.o1 .neg (.o1 .neg (.o2 .quo (.v 11) (.i 256)))), .e (.o1 .neg (.o1 .neg (.o2 .add (.v 12) (.i 1))))])))
(.new
(.op (.call ⟨.builtin .append, #[.tmp 26, .tmp 30], #[28, 28]⟩) 28 [(26, .w (.a (.sl (.v 6) (.v 7) (.v 8)))), (30, .w (.a (.sl (.b (.v 13) 0) (.n 1) (.n 1))))] [(.a 6, .prop 10), (.b (.v 13), .cells [.int .u8 (.o1 (.wrap .u8) (.o2 .rem (.v 11) (.i 256)))] 5)] [.a, .n, .n, .p] (.w (.a (.sl (.v 14) (.v 15) (.v 16)))) [(.a 14, .prop 17), (.b (.v 13), .cells [.int .u8 (.o1 (.wrap .u8) (.o2 .rem (.v 11) (.i 256)))] 5)]
(.need (.o1 (.inr .i64) (.o2 .sub (.v 9) (.i 1)))
(.again 1 [.a (.v 14), .e (.o2 .nadd (.v 15) (.n 0)), .e (.o2 .nadd (.v 16) (.n 0)), .e (.o1 .neg (.o1 .neg (.o2 .sub (.v 9) (.i 1)))), .p [(.a 14, .prop 17)]]))))))
(.ret (.w (.a (.sl (.v 6) (.v 7) (.v 8)))) [(.a 6, .prop 10)])))))
theorem tree_r1Put : tree Tryz.prog { absT := [5], hv := [(0, [.a 0]), (1, [.a 0]), (2, [.a 0]), (3, [.a 0])], keep := [30], rdf := true } Tryz.f102 [.a (.sl (.v 0) (.v 1) (.v 2)), .a (.int .u64 (.v 4)), .a (.int .i64 (.v 5))] [(.a 0, .prop 3)] 6 = t_r1Put := by kernel_rfl
def t_r1Bytes : T :=
(.call 102 [.a (.sl (.v 0) (.v 1) (.v 2)), .a (.int .u64 (.o1 (.wrap .u64) (.o1 .ofNat (.v 5)))), .a (.int .i64 (.i 4))] [(.a 0, .prop 3)] [.a, .n, .n, .p, .p] (.w (.a (.sl (.v 8) (.v 9) (.v 10)))) [(.a 8, .prop 11), (.a 0, .prop 12)]
(.op (.call ⟨.builtin .append, #[.tmp 10, .tmp 11], #[28, 28]⟩) 28 [(10, .w (.a (.sl (.v 8) (.v 9) (.v 10)))), (11, .w (.a (.sl (.v 4) (.v 5) (.v 6))))] [(.a 8, .prop 11), (.a 4, .prop 7)] [.a, .n, .n, .p] (.w (.a (.sl (.v 13) (.v 14) (.v 15)))) [(.a 13, .prop 16), (.a 4, .prop 7)]
(.ret (.w (.a (.sl (.v 13) (.v 14) (.v 15)))) [(.a 0, .prop 12), (.a 4, .prop 7), (.a 13, .prop 16)])))
theorem tree_r1Bytes : tree Tryz.prog { absT := [5], keep := [30], turn := [(102, [0])], rdf := true } Tryz.f104 [.a (.sl (.v 0) (.v 1) (.v 2)), .a (.sl (.v 4) (.v 5) (.v 6))] [(.a 0, .prop 3), (.a 4, .prop 7)] 8 = t_r1Bytes := by kernel_rfl
def t_r1Text : T :=
(.op (.convert 9 28 (.tmp 6)) 28 [(6, .w (.a (.str (.v 4))))] [] [.a, .n, .n, .p] (.w (.a (.sl (.v 5) (.v 6) (.v 7)))) [(.a 5, .prop 8)]
(.call 104 [.a (.sl (.v 0) (.v 1) (.v 2)), .a (.sl (.v 5) (.v 6) (.v 7))] [(.a 0, .prop 3), (.a 5, .prop 8)] [.a, .n, .n, .p, .p] (.w (.a (.sl (.v 9) (.v 10) (.v 11)))) [(.a 9, .prop 12), (.a 0, .prop 13), (.a 5, .prop 8)]
(.ret (.w (.a (.sl (.v 9) (.v 10) (.v 11)))) [(.a 0, .prop 13), (.a 9, .prop 12)])))
theorem tree_r1Text : tree Tryz.prog { absT := [5], keep := [30], turn := [(104, [0])], rdf := true } Tryz.f109 [.a (.sl (.v 0) (.v 1) (.v 2)), .a (.str (.v 4))] [(.a 0, .prop 3)] 5 = t_r1Text := by kernel_rfl
def t_r5Int : T :=
(.call 102 [.a (.sl (.v 0) (.v 1) (.v 2)), .a (.int .u64 (.o1 (.wrap .u64) (.v 4))), .a (.int .i64 (.i 8))] [(.a 0, .prop 3)] [.a, .n, .n, .p, .p] (.w (.a (.sl (.v 5) (.v 6) (.v 7)))) [(.a 5, .prop 8), (.a 0, .prop 9)]
(.ret (.w (.a (.sl (.v 5) (.v 6) (.v 7)))) [(.a 0, .prop 9), (.a 5, .prop 8)]))
theorem tree_r5Int : tree Tryz.prog { absT := [5], keep := [30], rdf := true } Tryz.f103 [.a (.sl (.v 0) (.v 1) (.v 2)), .a (.int .i64 (.v 4))] [(.a 0, .prop 3)] 5 = t_r5Int := by kernel_rfl
def t_r2Sum : T :=
(.loop [.i, .i] [.e (.o1 .neg (.o1 .neg (.i 4294967295))), .e (.o1 .neg (.o1 .neg (.i 0)))]
(.br (.o2 .lt (.v 5) (.o1 .ofNat (.v 1)))
(.need (.o2 .le (.i 0) (.v 5))
(.need (.o1 .isSome (.v 0))
(.read (.load 5 (.tmp 16)) 5 [(16, .w (.a (.eptr 0 (.v 5) 1 0)))] [(.a 0, .prop 3)] [.i] (.w (.a (.int .u8 (.v 6))))
(.need (.o1 (.inr .u32) (.v 6))
(.loop [.i, .i] [.e (.o1 .neg (.o1 .neg (.o2 (.bit .xor .u32) (.v 4) (.v 6)))), .e (.o1 .neg (.o1 .neg (.i 0)))]
(.br (.o2 .lt (.v 8) (.i 8))
(.need (.o1 (.inr .u32) (.o2 .quo (.v 7) (.i 2)))
(.br (.o2 .eq (.o2 .rem (.v 7) (.i 2)) (.i 1))
(.need (.o1 (.inr .i64) (.o2 .add (.v 8) (.i 1)))
(.again 0 [.e (.o1 .neg (.o1 .neg (.o2 (.bit .xor .u32) (.o2 .quo (.v 7) (.i 2)) (.i 3988292384)))), .e (.o1 .neg (.o1 .neg (.o2 .add (.v 8) (.i 1))))]))
(.need (.o1 (.inr .i64) (.o2 .add (.v 8) (.i 1)))
(.again 0 [.e (.o1 .neg (.o1 .neg (.o2 .quo (.v 7) (.i 2)))), .e (.o1 .neg (.o1 .neg (.o2 .add (.v 8) (.i 1))))]))))
(.need (.o1 (.inr .i64) (.o2 .add (.v 5) (.i 1)))
(.again 1 [.e (.o1 .neg (.o1 .neg (.v 7))), .e (.o1 .neg (.o1 .neg (.o2 .add (.v 5) (.i 1))))]))))))))
(.ret (.w (.a (.int .u32 (.o1 (.wrap .u32) (.o2 .sub (.i 4294967295) (.v 4)))))) [(.a 0, .prop 3)])))
theorem tree_r2Sum : tree Tryz.prog { absT := [5], keep := [30], rdf := true } Tryz.f166 [.a (.sl (.v 0) (.v 1) (.v 2))] [(.a 0, .prop 3)] 4 = t_r2Sum := by kernel_rfl
def t_r2Wrap : T :=
(.new
(.op (.call ⟨.builtin .append, #[.tmp 4, .tmp 5], #[28, 28]⟩) 28 [(4, .w (.a (.sl (.b (.v 4) 0) (.n 0) (.n 0)))), (5, .w (.a (.sl (.v 0) (.v 1) (.v 2))))] [(.b (.v 4), .cells [] 5), (.a 0, .prop 3)] [.a, .n, .n, .p] (.w (.a (.sl (.v 5) (.v 6) (.v 7)))) [(.a 5, .prop 8), (.a 0, .prop 3)]
(.call 166 [.a (.sl (.v 0) (.v 1) (.v 2))] [(.a 0, .prop 3)] [.i] (.w (.a (.int .u32 (.v 9)))) [(.a 0, .prop 3)]
(.need (.o1 (.inr .u64) (.v 9))
(.call 102 [.a (.sl (.v 5) (.v 6) (.v 7)), .a (.int .u64 (.v 9)), .a (.int .i64 (.i 4))] [(.a 5, .prop 8)] [.a, .n, .n, .p, .p] (.w (.a (.sl (.v 10) (.v 11) (.v 12)))) [(.a 10, .prop 13), (.a 5, .prop 14)]
(.ret (.w (.a (.sl (.v 10) (.v 11) (.v 12)))) [(.a 0, .prop 3), (.a 10, .prop 13)]))))))
theorem tree_r2Wrap : tree Tryz.prog { absT := [5], keep := [166, 30], rdf := true } Tryz.f105 [.a (.sl (.v 0) (.v 1) (.v 2))] [(.a 0, .prop 3)] 4 = t_r2Wrap := by kernel_rfl
def t_r5Encode : T :=
(.new
(.new
(.call 109 [.a (.sl (.b (.v 10) 0) (.n 1) (.n 1)), .a (.str (.v 1))] [(.b (.v 10), .cells [.int .u8 (.o1 (.wrap .u8) (.v 0))] 5)] [.a, .n, .n, .p, .p] (.w (.a (.sl (.v 11) (.v 12) (.v 13)))) [(.a 11, .prop 14), (.b (.v 10), .prop 15)]
(.call 109 [.a (.sl (.v 11) (.v 12) (.v 13)), .a (.str (.v 2))] [(.a 11, .prop 14)] [.a, .n, .n, .p, .p] (.w (.a (.sl (.v 16) (.v 17) (.v 18)))) [(.a 16, .prop 19), (.a 11, .prop 20)]
(.call 103 [.a (.sl (.v 16) (.v 17) (.v 18)), .a (.int .i64 (.v 3))] [(.a 16, .prop 19)] [.a, .n, .n, .p, .p] (.w (.a (.sl (.v 21) (.v 22) (.v 23)))) [(.a 21, .prop 24), (.a 16, .prop 25)]
(.call 103 [.a (.sl (.v 21) (.v 22) (.v 23)), .a (.int .i64 (.v 4))] [(.a 21, .prop 24)] [.a, .n, .n, .p, .p] (.w (.a (.sl (.v 26) (.v 27) (.v 28)))) [(.a 26, .prop 29), (.a 21, .prop 30)]
(.call 104 [.a (.sl (.v 26) (.v 27) (.v 28)), .a (.sl (.v 5) (.v 6) (.v 7))] [(.a 26, .prop 29), (.a 5, .prop 8)] [.a, .n, .n, .p, .p] (.w (.a (.sl (.v 31) (.v 32) (.v 33)))) [(.a 31, .prop 34), (.a 26, .prop 35), (.a 5, .prop 8)]
(.call 105 [.a (.sl (.v 31) (.v 32) (.v 33))] [(.a 31, .prop 34)] [.a, .n, .n, .p, .p] (.w (.a (.sl (.v 36) (.v 37) (.v 38)))) [(.a 36, .prop 39), (.a 31, .prop 40)]
(.ret (.w (.a (.sl (.v 36) (.v 37) (.v 38)))) [(.a 5, .prop 8), (.a 36, .prop 39)])))))))))
theorem tree_r5Encode : tree Tryz.prog { absT := [5], keep := [30], turn := [(104, [0])], rdf := true } Tryz.f46 [.agg [.int .i64 (.v 0), .str (.v 1), .str (.v 2), .int .i64 (.v 3), .int .i64 (.v 4), .sl (.v 5) (.v 6) (.v 7)]] [(.a 5, .prop 8)] 9 = t_r5Encode := by kernel_rfl
def t_r7Bytes : T :=
(.new
(.new
(.call 102 [.a (.sl (.b (.v 11) 0) (.n 1) (.n 1)), .a (.int .u64 (.o1 (.wrap .u64) (.v 1))), .a (.int .i64 (.i 4))] [(.b (.v 11), .cells [.int .u8 (.o1 (.wrap .u8) (.v 0))] 5)] [.a, .n, .n, .p, .p] (.w (.a (.sl (.v 12) (.v 13) (.v 14)))) [(.a 12, .prop 15), (.b (.v 11), .prop 16)]
(.call 102 [.a (.sl (.v 12) (.v 13) (.v 14)), .a (.int .u64 (.o1 (.wrap .u64) (.v 2))), .a (.int .i64 (.i 4))] [(.a 12, .prop 15)] [.a, .n, .n, .p, .p] (.w (.a (.sl (.v 17) (.v 18) (.v 19)))) [(.a 17, .prop 20), (.a 12, .prop 21)]
(.call 102 [.a (.sl (.v 17) (.v 18) (.v 19)), .a (.int .u64 (.o1 (.wrap .u64) (.v 3))), .a (.int .i64 (.i 4))] [(.a 17, .prop 20)] [.a, .n, .n, .p, .p] (.w (.a (.sl (.v 22) (.v 23) (.v 24)))) [(.a 22, .prop 25), (.a 17, .prop 26)]
(.new
(.op (.call ⟨.builtin .append, #[.tmp 26, .tmp 30], #[28, 28]⟩) 28 [(26, .w (.a (.sl (.v 22) (.v 23) (.v 24)))), (30, .w (.a (.sl (.b (.v 27) 0) (.n 1) (.n 1))))] [(.a 22, .prop 25), (.b (.v 27), .cells [.int .u8 (.o1 (.wrap .u8) (.v 4))] 5)] [.a, .n, .n, .p] (.w (.a (.sl (.v 28) (.v 29) (.v 30)))) [(.a 28, .prop 31), (.b (.v 27), .cells [.int .u8 (.o1 (.wrap .u8) (.v 4))] 5)]
(.call 103 [.a (.sl (.v 28) (.v 29) (.v 30)), .a (.int .i64 (.v 5))] [(.a 28, .prop 31)] [.a, .n, .n, .p, .p] (.w (.a (.sl (.v 32) (.v 33) (.v 34)))) [(.a 32, .prop 35), (.a 28, .prop 36)]
(.call 104 [.a (.sl (.v 32) (.v 33) (.v 34)), .a (.sl (.v 6) (.v 7) (.v 8))] [(.a 32, .prop 35), (.a 6, .prop 9)] [.a, .n, .n, .p, .p] (.w (.a (.sl (.v 37) (.v 38) (.v 39)))) [(.a 37, .prop 40), (.a 32, .prop 41), (.a 6, .prop 9)]
(.call 105 [.a (.sl (.v 37) (.v 38) (.v 39))] [(.a 37, .prop 40)] [.a, .n, .n, .p, .p] (.w (.a (.sl (.v 42) (.v 43) (.v 44)))) [(.a 42, .prop 45), (.a 37, .prop 46)]
(.ret (.w (.a (.sl (.v 42) (.v 43) (.v 44)))) [(.a 6, .prop 9), (.a 42, .prop 45)])))))))))))
theorem tree_r7Bytes : tree Tryz.prog { absT := [5], keep := [30], turn := [(104, [0])], rdf := true } Tryz.f39 [.agg [.int .i64 (.v 0), .int .i64 (.v 1), .int .i64 (.v 2), .int .i64 (.v 3), .int .i64 (.v 4), .int .i64 (.v 5), .sl (.v 6) (.v 7) (.v 8)]] [(.a 6, .prop 9)] 10 = t_r7Bytes := by kernel_rfl
def t_r7may : T :=
(.br (.o2 .le (.i 0) (.v 0))
(.ret (.w (.a (.bool (.o2 .le (.v 0) (.i 2147483647))))) [])
(.ret (.w (.a (.bool (.c false)))) []))
theorem tree_r7may : tree Tryz.prog { absT := [5], keep := [30], rdf := true } Tryz.f162 [.a (.int .i64 (.v 0))] [] 1 = t_r7may := by kernel_rfl
def t_r7Right : T :=
(.new
(.br (.o1 .not (.o2 .eq (.v 0) (.i 1)))
(.br (.o1 .not (.o2 .eq (.v 0) (.i 2)))
(.ret (.w (.a (.bool (.c false)))) [(.a 6, .prop 9)])
(.call 162 [.a (.int .i64 (.v 1))] [] [.c] (.w (.a (.bool (.v 11)))) []
(.br (.o1 .not (.v 11))
(.ret (.w (.a (.bool (.c false)))) [(.a 6, .prop 9)])
(.call 162 [.a (.int .i64 (.v 2))] [] [.c] (.w (.a (.bool (.v 12)))) []
(.br (.o1 .not (.v 12))
(.ret (.w (.a (.bool (.c false)))) [(.a 6, .prop 9)])
(.call 162 [.a (.int .i64 (.v 3))] [] [.c] (.w (.a (.bool (.v 13)))) []
(.br (.o1 .not (.v 13))
(.ret (.w (.a (.bool (.c false)))) [(.a 6, .prop 9)])
(.br (.o2 .le (.i 0) (.v 4))
(.br (.o2 .le (.v 4) (.i 7))
(.br (.o2 .le (.i (-1)) (.v 5))
(.br (.o2 .le (.v 5) (.i 4294967296))
(.call 39 [.agg [.int .i64 (.v 0), .int .i64 (.v 1), .int .i64 (.v 2), .int .i64 (.v 3), .int .i64 (.v 4), .int .i64 (.v 5), .sl (.v 6) (.v 7) (.v 8)]] [(.a 6, .prop 9)] [.a, .n, .n, .p] (.w (.a (.sl (.v 14) (.v 15) (.v 16)))) [(.a 14, .prop 17), (.a 6, .prop 9)]
(.ret (.w (.a (.bool (.o2 .le (.o1 .ofNat (.v 15)) (.i 65536))))) [(.a 6, .prop 9)]))
(.ret (.w (.a (.bool (.c false)))) [(.a 6, .prop 9)]))
(.ret (.w (.a (.bool (.c false)))) [(.a 6, .prop 9)]))
(.ret (.w (.a (.bool (.c false)))) [(.a 6, .prop 9)]))
(.ret (.w (.a (.bool (.c false)))) [(.a 6, .prop 9)])))))))))
(.call 162 [.a (.int .i64 (.v 1))] [] [.c] (.w (.a (.bool (.v 11)))) []
(.br (.o1 .not (.v 11))
(.ret (.w (.a (.bool (.c false)))) [(.a 6, .prop 9)])
(.call 162 [.a (.int .i64 (.v 2))] [] [.c] (.w (.a (.bool (.v 12)))) []
(.br (.o1 .not (.v 12))
(.ret (.w (.a (.bool (.c false)))) [(.a 6, .prop 9)])
(.call 162 [.a (.int .i64 (.v 3))] [] [.c] (.w (.a (.bool (.v 13)))) []
(.br (.o1 .not (.v 13))
(.ret (.w (.a (.bool (.c false)))) [(.a 6, .prop 9)])
(.br (.o2 .le (.i 0) (.v 4))
(.br (.o2 .le (.v 4) (.i 7))
(.br (.o2 .le (.i (-1)) (.v 5))
(.br (.o2 .le (.v 5) (.i 4294967296))
(.call 39 [.agg [.int .i64 (.v 0), .int .i64 (.v 1), .int .i64 (.v 2), .int .i64 (.v 3), .int .i64 (.v 4), .int .i64 (.v 5), .sl (.v 6) (.v 7) (.v 8)]] [(.a 6, .prop 9)] [.a, .n, .n, .p] (.w (.a (.sl (.v 14) (.v 15) (.v 16)))) [(.a 14, .prop 17), (.a 6, .prop 9)]
(.ret (.w (.a (.bool (.o2 .le (.o1 .ofNat (.v 15)) (.i 65536))))) [(.a 6, .prop 9)]))
(.ret (.w (.a (.bool (.c false)))) [(.a 6, .prop 9)]))
(.ret (.w (.a (.bool (.c false)))) [(.a 6, .prop 9)]))
(.ret (.w (.a (.bool (.c false)))) [(.a 6, .prop 9)]))
(.ret (.w (.a (.bool (.c false)))) [(.a 6, .prop 9)]))))))))))
theorem tree_r7Right : tree Tryz.prog { absT := [5], keep := [39, 30], rdf := true } Tryz.f93 [.agg [.int .i64 (.v 0), .int .i64 (.v 1), .int .i64 (.v 2), .int .i64 (.v 3), .int .i64 (.v 4), .int .i64 (.v 5), .sl (.v 6) (.v 7) (.v 8)]] [(.a 6, .prop 9)] 10 = t_r7Right := by kernel_rfl
end Go.Proofs.YtdieogcemmnaaaaGreatDoor.RX

