/- Texts of this claim, joined: Put, TrSnap, Snp, Snq, Wl, TrLaw04, In04, Lw4A, Arr, Ld, Lo, Lw4R, Reach, WhA. No condition. -/
import Derived.Test.YtdieogcemmnaaaaGreatDoorSTJ1
import Derived.Test.YtdieogcemmnaaaaGreatDoorSTJ2
import Derived.Test.YtdieogcemmnaaaaGreatDoorSTJ3
import Derived.Test.YtdieogcemmnaaaaGreatDoorSTJ4
import Derived.Laws.IdiomStrings
import Derived.KernelRfl
import Derived.Laws.StructEq
import Derived.Sort.Walk0
set_option linter.unusedSimpArgs false
set_option linter.unusedVariables false
/- What puts a tree's nodes: texts as bytes; snap.putNode, octet.PutList; snap.Encode. No condition. -/
namespace Go.Proofs.YtdieogcemmnaaaaGreatDoor
set_option linter.unusedSimpArgs false
set_option linter.unusedVariables false
open Go.Proofs.YtdieogcemmnaaaaGreatDoor RX
set_option maxRecDepth 100000

def cnvS (s d : TypeId) (u : Value) : Sem Next := do pure (.value (← convert s d u))
theorem semW_cnv {s d ty : TypeId} {i : Nat} {u : Value} : semW (.convert s d (.tmp i)) ty [(i, u)] = cnvS s d u := by simp [semW, execOp, arW, cnvS]
theorem strB1 (l : List UInt8) (A : HP) : OTri Tryz.prog (cnvS 9 28 (sE l)) A (fun v => HP.ex fun x => HP.ex fun c => HP.ex fun C : Array Value => HP.and (v = .slice (some ⟨x, 0, none⟩) l.length c ∧ l.length ≤ c ∧ C.toList.take l.length = l.map u8v)
    (HP.sep (HP.one x (.cells C 5 (C.size, C.size + 1))) A)) := fun w R h F s a => by
  have hr := run_bytes_of_string (P := Tryz.prog) w 9 28 5 ⟨l.toArray⟩ undStr und8 und8b
  have hz : (⟨l.toArray⟩ : ByteArray).size = l.length := by simp [ByteArray.size]
  rw [hz] at hr
  have s0 : Sat w.drew R h F := s.drew _
  obtain ⟨s1, d1⟩ := s0.alloc (.cells (bytesRow ⟨l.toArray⟩ (grownCap w l.length 0 5)) 5 ((bytesRow ⟨l.toArray⟩ (grownCap w l.length 0 5)).size, (bytesRow ⟨l.toArray⟩ (grownCap w l.length 0 5)).size + 1))
  have hc1 := grownCap_ge w l.length 0 5
  have hsame : Same w (w.drew.alloc (.cells (bytesRow ⟨l.toArray⟩ (grownCap w l.length 0 5)) 5 ((bytesRow ⟨l.toArray⟩ (grownCap w l.length 0 5)).size, (bytesRow ⟨l.toArray⟩ (grownCap w l.length 0 5)).size + 1))) := Same.trans (b := w.drew) ⟨rfl, rfl, rfl, Nat.le_refl _⟩ (Same.alloc w.drew _)
  refine ⟨_, _, _, by unfold cnvS sE; rw [Sem.run_bind, hr]; rfl, rfl, hsame, R, _, PH.le.refl _, s1, w.heap.size, _, bytesRow ⟨l.toArray⟩ (grownCap w l.length 0 5), ⟨rfl, hc1, ?_⟩, _, _, d1, PH.un_left _ _, PH.un_right d1, PH.one_self _ _, a⟩
  simp [bytesRow, u8v]
theorem strB_ok (l : List UInt8) (A : HP) : OTri Tryz.prog (cnvS 9 28 (sE l)) A (fun v => HP.ex fun x => HP.ex fun c => HP.and (v = .slice (some ⟨x, 0, none⟩) l.length c ∧ l.length ≤ c) (HP.sep (RoB (some ⟨x, 0, none⟩) l.length l) A)) :=
  (strB1 l A).post fun v R h d ⟨x, c, C, ⟨e, hc, ht⟩, H⟩ => by
    obtain ⟨R1, h1, q1, q2, q3, q4, H1⟩ := (HP.ent.sep (HP.ent.share _ _) A) R h d H
    refine ⟨R1, h1, q1, q2, q3, q4, x, c, ⟨e, hc⟩, HP.sep_mono H1 (fun y hy => ⟨by simp, fun _ => ⟨x, 0, C, _, _, rfl, hy, ?_⟩⟩) fun _ h => h⟩
    rw [List.drop_zero, List.length_map]; exact ht
/-- The bytes of an entry, of a node. -/
def entB (x : Nm × Nat) : List UInt8 := beN x.1.length 4 ++ x.1 ++ [UInt8.ofNat x.2]
def byteI (k : Int) : UInt8 := UInt8.ofNat (IntKind.u8.wrap k).toNat
theorem byteI_val (k : Int) : ((byteI k).toNat : Int) = IntKind.u8.wrap k := by
  have h1 : 0 ≤ IntKind.u8.wrap k ∧ IntKind.u8.wrap k < 256 := by
    simp only [IntKind.wrap, IntKind.bits, IntKind.signed, Bool.false_and, Bool.false_eq_true, if_false]; omega
  unfold byteI
  rw [UInt8.toNat_ofNat']
  omega
def linksN (k : Int) : Nat := (IntKind.u64.wrap k).toNat
theorem linksN_val (k : Int) : ((linksN k : Nat) : Int) = IntKind.u64.wrap k := by
  have h1 : 0 ≤ IntKind.u64.wrap k := by
    simp only [IntKind.wrap, IntKind.bits, IntKind.signed, Bool.false_and, Bool.false_eq_true, if_false]; omega
  unfold linksN; omega
def nodeB (x : Nd) : List UInt8 := [byteI x.num] ++ [byteI x.kind] ++ beN (linksN x.links) 2 ++ (beN x.data.length 4 ++ x.data) ++ (beN x.ents.length 4 ++ x.ents.flatMap entB)
theorem putEntry_ok (b : Nat) (l : List UInt8) (x : Nm × Nat) (hx : x.2 < 256) (hb : l.length + x.1.length + 200 < 140737488355328) :
    Tri Tryz.prog 150 #[.pointer (some ⟨b, 0, none⟩), .agg #[sE x.1, .int .i64 x.2]] (WRep b l) (fun v => HP.and (v = .tuple #[]) (WRep b (l ++ entB x))) := by
  refine tri_of_tree (ρ := [.n b, .p (WRep b l), .s x.1, .i x.2]) mixed Tryz.func150 tree_putEntry ?_
  unfold t_putEntry
  simp only [T.den, E.prop, E.den, RX.look, F1.app, F2.app, Uni.int_i, Uni.nat_n, Uni.bool_c, Uni.str_s, Uni.adr_a, Uni.val_v, Uni.hp_p, hden, cden, V.den, W.den, A.den, BR.den, SA.den, FV.den, capV, exs, exP, allP, Cur.app, List.map_cons, List.map_nil, List.cons_append, List.nil_append, List.drop_succ_cons, List.drop_zero, List.length_cons, List.length_nil, Nat.zero_add, Nat.reduceAdd, Int.neg_neg, Bool.not_not, List.append_nil, Nat.add_zero, List.getElem?_cons_zero, List.getElem?_cons_succ, Decidable.not_not, semW_eq, semW_load, semW_store, semW_storeC, semW_append, semW_lookup, semW_lookupC, semW_update, semW_updateC, semW_updateK, semW_delete, semW_range, semW_next, semW_entry, semW_nil, ne_eq, Nat.reduceEqDiff, not_false_eq_true]
  intro y
  rw [semW_cnv]
  refine (strB_ok x.1 HP.tt).weak (fun _ _ h => h) ?_
  rintro v R h ⟨z, c, ⟨rfl, hc⟩, H⟩
  refine ⟨some ⟨z, 0, none⟩, _, c, RoB (some ⟨z, 0, none⟩) x.1.length x.1, rfl, ?_, HP.sep_left H⟩
  refine (wBytes_ok b l _ _ c x.1 _ (RdL.ro _ _ _ _) rfl (fun _ => rfl) (by omega)).weak (fun _ _ h => h) ?_
  rintro v R h ⟨rfl, H⟩
  refine ⟨_, _, rfl, ?_, H⟩
  rw [show IntKind.u8.wrap (x.2 : Int) = (((UInt8.ofNat x.2).toNat : Nat) : Int) by rw [wrap8, UInt8.toNat_ofNat']]
  refine (wByte_ok b _ (UInt8.ofNat x.2) (by simp [beN_len]; omega)).weak (fun _ _ h => h) ?_
  rintro v R h ⟨rfl, H⟩
  refine ⟨_, rfl, .of fun R h H => ⟨trivial, ?_⟩, H⟩
  rw [show l ++ entB x = l ++ beN x.1.length 4 ++ x.1 ++ [UInt8.ofNat x.2] by simp [entB]]
  exact H
theorem fgoPE : Fgo Tryz.prog 150 := ⟨_, Tryz.func150, by kernel_rfl, by kernel_rfl⟩
theorem fgoPN : Fgo Tryz.prog 81 := ⟨_, Tryz.func81, by kernel_rfl, by kernel_rfl⟩
theorem eqlF {t ty : TypeId} {i : Nat} {f : FuncId} {caps : Array Value} {A : HP} {ps rs : Array TypeId} {vd : Bool} (ht : Tryz.prog.underlying t = some (.func ps rs vd)) (hg : Tryz.prog.eqGuardType Tryz.prog.depth t = false) : ORead Tryz.prog (semW (.binOp .eql t (.tmp i) (.const .nilFunc) t) ty [(i, .func (.func f) #[] caps)]) A (.bool false) := fun w R h F s _ => by
  have e0 : ∀ n, (Op.equalIn (n + 1) t (.func (.func f) #[] caps) .nilFunc).run Tryz.prog w = .ok false w := fun n => by
    simp only [Op.equalIn, Sem.run_bind, RX.run_underlying ht, Result.andThen_ok, Sem.run_pure]
  have e : (Op.equal t (.func (.func f) #[] caps) .nilFunc).run Tryz.prog w = .ok false w := e0 9999
  have := (binOp_equal (P := Tryz.prog) (w := w) (.inr (.inr (.inr (.inr ⟨_, _, _, rfl⟩)))) e).1
  simp only [semW, execOp, arW, List.find?_cons, beq_self_eq_true, Option.map_some, Option.getD_some]
  simp [eqGuard, hg, program, Sem.run_bind, this]
theorem aggEn : aggT Tryz.prog 140 = true := by kernel_rfl
theorem szEn : szT Tryz.prog 140 = 2 := by kernel_rfl
theorem aggNo : aggT Tryz.prog 43 = true := by kernel_rfl
theorem szNo : szT Tryz.prog 43 = 5 := by kernel_rfl
theorem Ls.isSome {α : Type} {K : Kind α} {a : Option Addr} {n : Nat} {l : List α} {R h : PH} (H : (Ls K a n l).p R h) (hn : n ≠ 0) : a.isSome = true := RoC.some H.2.1 (by omega)
def entsB (es : List (Nm × Nat)) : List UInt8 := beN es.length 4 ++ es.flatMap entB
theorem entB_len (x : Nm × Nat) : (entB x).length = x.1.length + 5 := by simp [entB, beN_len]; omega
theorem take_flat {α β : Type} (f : α → List β) (l : List α) (j : Nat) (h : j < l.length) : (l.take (j + 1)).flatMap f = (l.take j).flatMap f ++ f l[j] := by
  rw [List.take_succ_eq_append_getElem h, List.flatMap_append]; simp
theorem take_flat_le {α β : Type} (f : α → List β) (l : List α) (j : Nat) : ((l.take j).flatMap f).length ≤ (l.flatMap f).length := by
  conv => rhs; rw [← List.take_append_drop j l, List.flatMap_append, List.length_append]
  omega
theorem putEntries_ok (b : Nat) (l : List UInt8) (a : Option Addr) (c : Nat) (es : List (Nm × Nat)) (hx : ∀ x ∈ es, x.2 < 256) (hb : l.length + (es.flatMap entB).length + 1000 < 140737488355328) (hn : es.length ≤ 1000000000) :
    Tri Tryz.prog 149 #[.pointer (some ⟨b, 0, none⟩), .slice a es.length c, .func (.func 150) #[] #[]] (HP.sep (WRep b l) (Ls kEnt a es.length es))
      (fun v => HP.and (v = .tuple #[]) (HP.sep (WRep b (l ++ entsB es)) (Ls kEnt a es.length es))) := by
  refine Tri.fact (φ := es.length ≠ 0 → a.isSome = true) (fun R h H hn => Ls.isSome (HP.sep_right H) hn) fun ha => ?_
  refine (tri_of_tree (ρ := [.n b, .p (WRep b l), .a a, .n es.length, .n c, .p (Ls kEnt a es.length es), .v (.func (.func 150) #[] #[]), .p HP.tt]) mixed Tryz.func149 tree_putEntries ?_).weak
    (fun R h H => HP.sep_assoc (HP.sep_tt H)) fun _ _ _ h => h
  unfold t_putEntries
  simp only [T.den, E.prop, E.den, RX.look, F1.app, F2.app, Uni.int_i, Uni.nat_n, Uni.bool_c, Uni.str_s, Uni.adr_a, Uni.val_v, Uni.hp_p, hden, cden, V.den, W.den, A.den, BR.den, SA.den, FV.den, capV, exs, exP, allP, Cur.app, List.map_cons, List.map_nil, List.cons_append, List.nil_append, List.drop_succ_cons, List.drop_zero, List.length_cons, List.length_nil, Nat.zero_add, Nat.reduceAdd, Int.neg_neg, Bool.not_not, List.append_nil, Nat.add_zero, List.getElem?_cons_zero, List.getElem?_cons_succ, Decidable.not_not, semW_eq, semW_load, semW_store, semW_storeC, semW_append, semW_lookup, semW_lookupC, semW_update, semW_updateC, semW_updateK, semW_delete, semW_range, semW_next, semW_entry, semW_nil, ne_eq, Nat.reduceEqDiff, not_false_eq_true]
  have hw : IntKind.u64.wrap (es.length : Int) = es.length := wrap_in ⟨by simp [IntKind.min, IntKind.signed], by simp [IntKind.max, IntKind.signed, IntKind.bits]; omega⟩
  rw [hw]
  refine (wNumber_ok b l es.length 4 (by omega) (by omega)).weak (fun _ _ h => h) ?_
  rintro v R h ⟨rfl, H⟩
  refine ⟨_, rfl, ⟨false, eqlF Tryz.underlying242 (by kernel_rfl), fun h => (by cases h), fun _ => ?_⟩, H⟩
  refine ⟨fun k p q => ∃ j : Nat, k = j ∧ j ≤ es.length ∧ HP.ent p (WRep b (l ++ beN es.length 4 ++ (es.take j).flatMap entB)) ∧ q = HP.tt, fun k _ _ => es.length - k.toNat, ⟨0, rfl, Nat.zero_le _, by simpa using HP.ent.refl _, rfl⟩, ?_⟩
  rintro k p q ⟨j, rfl, hj, hp, rfl⟩
  refine ⟨fun hlt => ⟨by omega, fun _ => ⟨ha (by omega), fun _ => ?_⟩⟩, fun hge => ?_⟩
  · have hlt' : j < es.length := by omega
    refine ⟨es[j].1, (es[j].2 : Int), Ls.load (K := kEnt) Tryz.underlying140 aggEn szEn (List.getElem?_eq_getElem hlt'), fun y => ?_⟩
    have hlen := take_flat_le entB es (j + 1)
    rw [take_flat entB es j hlt', List.length_append, entB_len] at hlen
    refine .inl ⟨_, #[], rfl, fgoPE, ?_⟩
    refine (putEntry_ok b _ es[j] (hx _ (List.getElem_mem hlt')) (by simp only [List.length_append, beN_len]; omega)).conseq ((HP.ent.of fun R h H => HP.sep_comm H).trans ((HP.ent.sep hp HP.tt))) fun v => .of fun R h H => ?_
    obtain ⟨rfl, H1⟩ := HP.sep_left H
    refine ⟨HP.tt, _, rfl, ⟨inI64 _ (by omega) (by omega), fun _ => ⟨⟨j + 1, by omega, by omega, ?_, rfl⟩, by dsimp only; omega⟩⟩, HP.tt_sep H1⟩
    rw [take_flat entB es j hlt', List.append_assoc _ ((es.take j).flatMap entB)]
    exact HP.ent.refl _
  · obtain rfl : j = es.length := by omega
    rw [List.take_length] at hp
    refine (HP.ent.sep hp _).trans (.of fun R h H => ⟨trivial, ?_⟩)
    rw [List.append_assoc] at H
    exact HP.sep_mono H (fun _ h => h) fun _ h => HP.sep_left h
theorem putNode_ok (b : Nat) (l : List UInt8) (x : NodeE) (hx : ∀ e ∈ x.nd.ents, e.2 < 256) (hb : l.length + (nodeB x.nd).length + 2000 < 140737488355328) (hn : x.nd.ents.length ≤ 1000000000) :
    Tri Tryz.prog 81 #[.pointer (some ⟨b, 0, none⟩), .agg (nodeVs x).toArray] (HP.sep (WRep b l) (nodeHp x)) (fun v => HP.and (v = .tuple #[]) (WRep b (l ++ nodeB x.nd))) := by
  refine Tri.fact (φ := x.nd.data.length ≠ 0 → x.da.isSome = true) (fun R h H hn => RoC.some (HP.sep_right H).1 (by omega)) fun ha => ?_
  refine (tri_of_tree (ρ := [.n b, .p (WRep b l), .i x.nd.num, .i x.nd.kind, .i x.nd.links, .a x.da, .n x.nd.data.length, .n x.dc, .p (RoB x.da x.nd.data.length x.nd.data), .a x.ea, .n x.nd.ents.length, .n x.ec, .p (Ls kEnt x.ea x.nd.ents.length x.nd.ents)]) mixed Tryz.func81 tree_putNode ?_).weak
    (fun R h H => HP.sep_mono H (fun _ h => h) fun y hy => ⟨PH.none', y, PH.none_dj _, PH.none_le _, PH.le.refl _, hy.1, hy.2⟩) fun _ _ _ h => h
  unfold t_putNode
  simp only [T.den, E.prop, E.den, RX.look, F1.app, F2.app, Uni.int_i, Uni.nat_n, Uni.bool_c, Uni.str_s, Uni.adr_a, Uni.val_v, Uni.hp_p, hden, cden, V.den, W.den, A.den, BR.den, SA.den, FV.den, capV, exs, exP, allP, Cur.app, List.map_cons, List.map_nil, List.cons_append, List.nil_append, List.drop_succ_cons, List.drop_zero, List.length_cons, List.length_nil, Nat.zero_add, Nat.reduceAdd, Int.neg_neg, Bool.not_not, List.append_nil, Nat.add_zero, List.getElem?_cons_zero, List.getElem?_cons_succ, Decidable.not_not, semW_eq, semW_load, semW_store, semW_storeC, semW_append, semW_lookup, semW_lookupC, semW_update, semW_updateC, semW_updateK, semW_delete, semW_range, semW_next, semW_entry, semW_nil, ne_eq, Nat.reduceEqDiff, not_false_eq_true]
  have hlen : (nodeB x.nd).length = 2 + 2 + (4 + x.nd.data.length) + (4 + (x.nd.ents.flatMap entB).length) := by simp [nodeB, beN_len]; omega
  intro y
  rw [← byteI_val x.nd.num, ← byteI_val x.nd.kind, ← linksN_val x.nd.links]
  refine (wByte_ok b l (byteI x.nd.num) (by omega)).weak (fun _ _ h => h) ?_
  rintro v R h ⟨rfl, H⟩
  refine ⟨_, rfl, ?_, H⟩
  refine (wByte_ok b _ (byteI x.nd.kind) (by simp; omega)).weak (fun _ _ h => h) ?_
  rintro v R h ⟨rfl, H⟩
  refine ⟨_, rfl, ?_, H⟩
  refine (wNumber_ok b _ (linksN x.nd.links) 2 (by omega) (by simp; omega)).weak (fun _ _ h => h) ?_
  rintro v R h ⟨rfl, H⟩
  refine ⟨_, rfl, ?_, H⟩
  refine (wBytes_ok b _ x.da _ x.dc x.nd.data _ (RdL.ro _ _ _ _) rfl ha (by simp [beN_len]; omega)).weak (fun _ _ h => h) ?_
  rintro v R h ⟨rfl, H⟩
  refine ⟨_, _, rfl, ?_, H⟩
  refine (putEntries_ok b _ x.ea x.ec x.nd.ents hx (by simp only [List.length_append, beN_len, List.length_singleton]; omega) hn).weak (fun _ _ h => h) ?_
  rintro v R h ⟨rfl, H⟩
  refine ⟨_, _, rfl, .of fun R h H => ⟨trivial, ?_⟩, H⟩
  have e : l ++ nodeB x.nd = l ++ [byteI x.nd.num] ++ [byteI x.nd.kind] ++ beN (linksN x.nd.links) 2 ++ beN x.nd.data.length 4 ++ x.nd.data ++ entsB x.nd.ents := by simp [nodeB, entsB]
  rw [e]
  exact HP.sep_left H
def nodesB (T1 : List Nd) : List UInt8 := beN T1.length 4 ++ T1.flatMap nodeB
theorem putNodes_ok (b : Nat) (l : List UInt8) (a : Option Addr) (c : Nat) (es : List NodeE) (hx : ∀ x ∈ es, (∀ e ∈ x.nd.ents, e.2 < 256) ∧ x.nd.ents.length ≤ 1000000000) (hb : l.length + ((es.map (·.nd)).flatMap nodeB).length + 3000 < 140737488355328) (hn : es.length ≤ 1000000000) :
    Tri Tryz.prog 80 #[.pointer (some ⟨b, 0, none⟩), .slice a es.length c, .func (.func 81) #[] #[]] (HP.sep (WRep b l) (Ls kNode a es.length es))
      (fun v => HP.and (v = .tuple #[]) (HP.sep (WRep b (l ++ nodesB (es.map (·.nd)))) (Ls kNode a es.length es))) := by
  refine Tri.fact (φ := es.length ≠ 0 → a.isSome = true) (fun R h H hn => Ls.isSome (HP.sep_right H) hn) fun ha => ?_
  refine (tri_of_tree (ρ := [.n b, .p (WRep b l), .a a, .n es.length, .n c, .p (Ls kNode a es.length es), .v (.func (.func 81) #[] #[]), .p HP.tt]) mixed Tryz.func80 tree_putNodes ?_).weak
    (fun R h H => HP.sep_assoc (HP.sep_tt H)) fun _ _ _ h => h
  unfold t_putNodes
  simp only [T.den, E.prop, E.den, RX.look, F1.app, F2.app, Uni.int_i, Uni.nat_n, Uni.bool_c, Uni.str_s, Uni.adr_a, Uni.val_v, Uni.hp_p, hden, cden, V.den, W.den, A.den, BR.den, SA.den, FV.den, capV, exs, exP, allP, Cur.app, List.map_cons, List.map_nil, List.cons_append, List.nil_append, List.drop_succ_cons, List.drop_zero, List.length_cons, List.length_nil, Nat.zero_add, Nat.reduceAdd, Int.neg_neg, Bool.not_not, List.append_nil, Nat.add_zero, List.getElem?_cons_zero, List.getElem?_cons_succ, Decidable.not_not, semW_eq, semW_load, semW_store, semW_storeC, semW_append, semW_lookup, semW_lookupC, semW_update, semW_updateC, semW_updateK, semW_delete, semW_range, semW_next, semW_entry, semW_nil, ne_eq, Nat.reduceEqDiff, not_false_eq_true]
  have hw : IntKind.u64.wrap (es.length : Int) = es.length := wrap_in ⟨by simp [IntKind.min, IntKind.signed], by simp [IntKind.max, IntKind.signed, IntKind.bits]; omega⟩
  rw [hw]
  refine (wNumber_ok b l es.length 4 (by omega) (by omega)).weak (fun _ _ h => h) ?_
  rintro v R h ⟨rfl, H⟩
  refine ⟨_, rfl, ⟨false, eqlF Tryz.underlying155 (by kernel_rfl), fun h => (by cases h), fun _ => ?_⟩, H⟩
  refine ⟨fun k p q => ∃ j : Nat, k = j ∧ j ≤ es.length ∧ HP.ent p (WRep b (l ++ beN es.length 4 ++ ((es.map (·.nd)).take j).flatMap nodeB)) ∧ q = HP.tt, fun k _ _ => es.length - k.toNat, ⟨0, rfl, Nat.zero_le _, by simpa using HP.ent.refl _, rfl⟩, ?_⟩
  rintro k p q ⟨j, rfl, hj, hp, rfl⟩
  refine ⟨fun hlt => ⟨by omega, fun _ => ⟨ha (by omega), fun _ => ?_⟩⟩, fun hge => ?_⟩
  · have hlt' : j < es.length := by omega
    have hltm : j < (es.map (·.nd)).length := by simpa using hlt'
    have hg : (es.map (·.nd))[j] = es[j].nd := by simp
    refine ⟨_, _, _, _, _, _, _, _, _, Ls.load (K := kNode) Tryz.underlying43 aggNo szNo (List.getElem?_eq_getElem hlt'), fun y => ?_⟩
    have hlen := take_flat_le nodeB (es.map (·.nd)) (j + 1)
    rw [take_flat nodeB _ j hltm, List.length_append, hg] at hlen
    have hm := hx _ (List.getElem_mem hlt')
    refine .inl ⟨_, #[], rfl, fgoPN, ?_⟩
    refine (putNode_ok b (l ++ beN es.length 4 ++ ((es.map (·.nd)).take j).flatMap nodeB) es[j] hm.1 (by simp only [List.length_append, beN_len]; omega) hm.2).conseq (K := Ls kNode a es.length es) ?_ fun v => .of fun R h H => ?_
    · refine (HP.ent.of fun R h H => HP.sep_right H).trans ((HP.ent.sep hp _).trans (.of fun R h H => ?_))
      refine HP.sep_assoc' (HP.sep_mono H (fun _ h => h) fun z hz => ⟨PH.none', z, PH.none_dj _, PH.none_le _, PH.le.refl _, ?_, hz⟩)
      exact kNode.pers _ _ _ _ (hz.2.2 _ (List.getElem_mem hlt'))
    · obtain ⟨rfl, _⟩ := HP.sep_left H
      refine ⟨HP.tt, _, rfl, ⟨inI64 _ (by omega) (by omega), fun _ => ⟨⟨j + 1, by omega, by omega, ?_, rfl⟩, by dsimp only; omega⟩⟩, HP.tt_sep (HP.sep_mono H (fun _ h => h.2) fun _ h => h)⟩
      rw [take_flat nodeB _ j hltm, hg, List.append_assoc _ (((es.map (·.nd)).take j).flatMap nodeB)]
      exact HP.ent.refl _
  · obtain rfl : j = es.length := by omega
    have e0 : (es.map (·.nd)).take es.length = es.map (·.nd) := List.take_of_length_le (by simp)
    rw [e0] at hp
    refine (HP.ent.sep hp _).trans (.of fun R h H => ⟨trivial, ?_⟩)
    rw [List.append_assoc] at H
    have e : beN es.length 4 ++ (es.map (·.nd)).flatMap nodeB = nodesB (es.map (·.nd)) := by simp [nodesB]
    rw [e] at H
    exact HP.sep_mono H (fun _ h => h) fun _ h => HP.sep_left h
theorem wInt_ok (b : Nat) (l : List UInt8) (v : Int) (hb : l.length + 8 < 140737488355328) :
    Tri Tryz.prog 79 #[.pointer (some ⟨b, 0, none⟩), .int .i64 v] (WRep b l) (fun r => HP.and (r = .tuple #[]) (WRep b (l ++ beN (linksN v) 8))) := by
  refine tri_of_tree (ρ := [.n b, .p (WRep b l), .i v]) mixed Tryz.func79 tree_wInt ?_
  unfold t_wInt
  simp only [T.den, E.prop, E.den, RX.look, F1.app, F2.app, Uni.int_i, Uni.nat_n, Uni.bool_c, Uni.str_s, Uni.adr_a, Uni.val_v, Uni.hp_p, hden, cden, V.den, W.den, A.den, BR.den, SA.den, FV.den, capV, exs, exP, allP, Cur.app, List.map_cons, List.map_nil, List.cons_append, List.nil_append, List.drop_succ_cons, List.drop_zero, List.length_cons, List.length_nil, Nat.zero_add, Nat.reduceAdd, Int.neg_neg, Bool.not_not, List.append_nil, Nat.add_zero, List.getElem?_cons_zero, List.getElem?_cons_succ, Decidable.not_not, semW_eq, semW_load, semW_store, semW_storeC, semW_append, semW_lookup, semW_lookupC, semW_update, semW_updateC, semW_updateK, semW_delete, semW_range, semW_next, semW_entry, semW_nil, ne_eq, Nat.reduceEqDiff, not_false_eq_true]
  rw [← linksN_val v]
  refine (wNumber_ok b l (linksN v) 8 (by omega) hb).weak (fun _ _ h => h) ?_
  rintro v R h ⟨rfl, H⟩
  exact ⟨_, rfl, .of fun R h H => ⟨trivial, H⟩, H⟩
/-- The bytes of a tree's nodes, done up to some address. -/
def snapS (upto : Int) (T1 : List Nd) : List UInt8 := wrapS (beN (linksN upto) 8 ++ nodesB T1)
theorem flat_len_le {α β : Type} (f : α → List β) (k : Nat) : ∀ l : List α, (∀ x ∈ l, (f x).length ≤ k) → (l.flatMap f).length ≤ l.length * k
  | [], _ => by simp
  | x :: r, h => by
    have := flat_len_le f k r fun y hy => h y (List.mem_cons_of_mem _ hy)
    have := h x List.mem_cons_self
    rw [List.flatMap_cons, List.length_append, List.length_cons, Nat.succ_mul]; omega
theorem nodeB_le {B : Nat} {n : Nd} (g : GoodN B n) : (nodeB n).length ≤ 600 + B * 100 := by
  have h1 : (n.ents.flatMap entB).length ≤ n.ents.length * 100 := flat_len_le entB 100 n.ents fun x hx => by
    have := (g.name x hx).1
    unfold nameOk at this
    simp at this
    rw [entB_len]; omega
  have h2 := g.data
  have h3 : n.ents.length * 100 ≤ B * 100 := Nat.mul_le_mul_right _ g.efew
  have hlen : (nodeB n).length = 2 + 2 + (4 + n.data.length) + (4 + (n.ents.flatMap entB).length) := by simp [nodeB, beN_len]; omega
  omega
theorem inc_len : ∀ (l : List Nat) (lo n : Nat), lo ≤ n → l.Pairwise (· < ·) → (∀ x ∈ l, lo ≤ x ∧ x < n) → l.length + lo ≤ n
  | [], lo, n, h, _, _ => by simpa using h
  | x :: r, lo, n, h, p, q => by
    rw [List.pairwise_cons] at p
    have h1 := q x List.mem_cons_self
    have := inc_len r (x + 1) n (by omega) p.2 fun y hy => ⟨p.1 y hy, (q y (List.mem_cons_of_mem _ hy)).2⟩
    rw [List.length_cons]; omega
theorem few_nodes {B : Nat} {T1 : List Nd} (wf : TWf B T1) : T1.length ≤ 64 := by
  have := inc_len (T1.map (·.num)) 0 64 (by omega) wf.sorted fun x hx => by
    obtain ⟨n, hn, rfl⟩ := List.mem_map.1 hx
    exact ⟨Nat.zero_le _, (wf.good n hn).num⟩
  simpa using this
theorem tgt_lt {B : Nat} {T1 : List Nd} (wf : TWf B T1) {x : Nd} (hx : x ∈ T1) {e : Nm × Nat} (he : e ∈ x.ents) : e.2 < 64 := by
  have h := wf.tgt x hx e he
  obtain ⟨n, hn⟩ := Option.isSome_iff_exists.1 h
  unfold nodeAt at hn
  have h1 := List.mem_of_find?_eq_some hn
  have h2 := List.find?_some hn
  have := (wf.good n h1).num
  simp at h2
  omega
theorem encode_ok {b : Nat} {t : TS} {B : Nat} (hB : B ≤ 100000) (wf : TWf B t.pub) (upto : Int) :
    Tri Tryz.prog 28 #[.int .i64 upto, .pointer (some ⟨b, 0, none⟩)] (TRep b t)
      (fun v => HP.ex fun a => HP.ex fun c => HP.and (v = .slice a (snapS upto t.pub).length c) (HP.sep (TRep b t) (OwB a (snapS upto t.pub).length c (snapS upto t.pub)))) := by
  refine tri_of_tree (ρ := [.i upto, .n b, .p (TRep b t)]) mixed Tryz.func28 tree_snapEncode ?_
  unfold t_snapEncode
  simp only [T.den, E.prop, E.den, RX.look, F1.app, F2.app, Uni.int_i, Uni.nat_n, Uni.bool_c, Uni.str_s, Uni.adr_a, Uni.val_v, Uni.hp_p, hden, cden, V.den, W.den, A.den, BR.den, SA.den, FV.den, capV, exs, exP, allP, Cur.app, List.map_cons, List.map_nil, List.cons_append, List.nil_append, List.drop_succ_cons, List.drop_zero, List.length_cons, List.length_nil, Nat.zero_add, Nat.reduceAdd, Int.neg_neg, Bool.not_not, List.append_nil, Nat.add_zero, List.getElem?_cons_zero, List.getElem?_cons_succ, Decidable.not_not, semW_eq, semW_load, semW_store, semW_storeC, semW_append, semW_lookup, semW_lookupC, semW_update, semW_updateC, semW_updateK, semW_delete, semW_range, semW_next, semW_entry, semW_nil, ne_eq, Nat.reduceEqDiff, not_false_eq_true]
  have h64 := few_nodes wf
  have hfl : (t.pub.flatMap nodeB).length ≤ 64 * (600 + B * 100) := Nat.le_trans (flat_len_le nodeB _ t.pub fun x hx => nodeB_le (wf.good x hx)) (Nat.mul_le_mul_right _ h64)
  intro x
  refine (wInt_ok x [] upto (by simp)).weak (fun R h H => ⟨none, 0, HP.sep_comm (HP.sep_mono (HP.tt_sep H) (fun y _ => OwC.nil _ _ R y) fun _ h => h)⟩) ?_
  rintro v R h ⟨rfl, xa, xc, H⟩
  refine ⟨xa, _, xc, OwB xa _ xc _, rfl, ?_, H⟩
  refine (tNodes_ok hB wf).weak (fun _ _ h => h) ?_
  rintro v R h ⟨a, c, rfl, H⟩
  refine ⟨a, _, c, _, _, rfl, ?_, H⟩
  have hp : (Tri Tryz.prog 80 #[.pointer (some ⟨x, 0, none⟩), .slice a t.pub.length c, .func (.func 81) #[] #[]] (HP.sep (WRep x ([] ++ beN (linksN upto) 8)) (NodesR a t.pub.length t.pub))
      (fun v => HP.and (v = .tuple #[]) (HP.sep (WRep x ([] ++ beN (linksN upto) 8 ++ nodesB t.pub)) (NodesR a t.pub.length t.pub)))) := by
    refine (Tri.ex (A := fun es : List NodeE => HP.and (es.map (·.nd) = t.pub) (HP.sep (WRep x ([] ++ beN (linksN upto) 8)) (Ls kNode a t.pub.length es))) fun es => Tri.pure fun he => ?_).weak
      (fun R h ⟨h1, h2, d, l1, l2, HW, ⟨es, he, Hs⟩⟩ => ⟨es, he, h1, h2, d, l1, l2, HW, Hs⟩) fun _ _ _ h => h
    have hl : t.pub.length = es.length := by rw [← he]; simp
    have := putNodes_ok x ([] ++ beN (linksN upto) 8) a c es (fun y hy => by
      have hm : y.nd ∈ t.pub := by rw [← he]; exact List.mem_map.2 ⟨y, hy, rfl⟩
      exact ⟨fun e hee => by have := tgt_lt wf hm hee; omega, by have := (wf.good _ hm).efew; omega⟩) (by rw [he]; simp only [List.nil_append, beN_len]; omega) (by omega)
    rw [← hl, he] at this
    exact this.weak (fun _ _ h => h) fun v R h ⟨e, H⟩ => ⟨e, HP.sep_mono H (fun _ h => h) fun _ h => ⟨es, he, h⟩⟩
  have elen : ([] ++ beN (linksN upto) 8 ++ nodesB t.pub).length = 8 + (4 + (t.pub.flatMap nodeB).length) := by simp only [List.nil_append, List.length_append, beN_len, nodesB]
  have e8 : [] ++ beN (linksN upto) 8 ++ nodesB t.pub = beN (linksN upto) 8 ++ nodesB t.pub := by rw [List.nil_append]
  refine hp.weak (fun R h H => HP.sep_mono (HP.sep_assoc' H) (fun _ h => ⟨xa, xc, h⟩) fun _ h => h) ?_
  rintro v R h ⟨rfl, h1, h2, d, q1, q2, ⟨ya, yc, HW⟩, HN⟩
  refine ⟨ya, _, yc, OwB ya _ yc _, _, rfl, ?_, HP.sep_assoc ⟨h1, h2, d, q1, q2, HW, HN⟩⟩
  refine (wOut_ok x ([] ++ beN (linksN upto) 8 ++ nodesB t.pub) (by omega)).weak (fun R h H => ⟨ya, yc, H⟩) ?_
  rintro v R h ⟨a', c', rfl, h1, h2, d, q1, q2, ⟨za, zc, HW⟩, HO⟩
  have ha' : a'.isSome = true := OwC.some HO (by omega)
  refine ⟨a', _, c', OwB a' _ c' _, za, _, zc, OwB za _ zc _, rfl, ?_, h2, h1, d.symm, q2, q1, HO, HW⟩
  refine (wrap_ok a' _ c' _ _ (RdL.ow _ _ _ _ _ _) rfl (fun _ => ha') (by omega)).weak (fun _ _ h => h) ?_
  rintro v R h ⟨b', d', rfl, H⟩
  refine ⟨b', _, d', OwB b' _ d' _, _, rfl, .of fun R h H => ⟨b', d', ?_, ?_⟩, HP.sep_comm H⟩
  · rw [e8]; rfl
  · rw [e8] at H; exact H
end Go.Proofs.YtdieogcemmnaaaaGreatDoor

/- Trees of functions, printed by rx.lean. No condition. -/
namespace Go.Proofs.YtdieogcemmnaaaaGreatDoor.RX
set_option maxRecDepth 100000
-- (*tideline/octet.Reader).turns$1: ρ := [.v yield, .p yieldP, .n n, .i n, .n r, .n r, .p rP]
def t_turns1 : T :=
(.loop [.i, .p, .p] [(.e (.o1 .neg (.o1 .neg (.i 0)))), (.p [((.a 0), (.prop 1))]), (.p [((.b (.v 5)), (.prop 6))])]
 (.br (.o2 .lt (.v 7) (.v 3))
  (.read (.load 4 (.tmp 11)) 4 [(11, (.w (.a (.ptr (.v 5) 1))))] [((.b (.v 5)), (.prop 9))] [.c] (.w (.a (.bool (.v 10))))
  (.br (.v 10)
   (.ret (.tup []) [((.a 0), (.prop 8)), ((.b (.v 2)), (.cells [(.int .i64 (.v 3))] 3)), ((.b (.v 4)), (.cells [(.ptr (.v 5) 0)] 158)), ((.b (.v 5)), (.prop 9))])
   (.callv 0 [(.a (.int .i64 (.v 7)))] [((.a 0), (.prop 8)), ((.b (.v 5)), (.prop 9))] [.c, .p, .p] (.w (.a (.bool (.v 11)))) [((.a 0), (.prop 12)), ((.b (.v 5)), (.prop 13))]
   (.br (.o1 .not (.v 11))
    (.ret (.tup []) [((.a 0), (.prop 12)), ((.b (.v 2)), (.cells [(.int .i64 (.v 3))] 3)), ((.b (.v 4)), (.cells [(.ptr (.v 5) 0)] 158)), ((.b (.v 5)), (.prop 13))])
    (.need (.o1 (.inr .i64) (.o2 .add (.v 7) (.i 1)))
    (.again 0 [(.e (.o1 .neg (.o1 .neg (.o2 .add (.v 7) (.i 1))))), (.p [((.a 0), (.prop 12))]), (.p [((.b (.v 5)), (.prop 13))])]))))))
  (.ret (.tup []) [((.a 0), (.prop 8)), ((.b (.v 2)), (.cells [(.int .i64 (.v 3))] 3)), ((.b (.v 4)), (.cells [(.ptr (.v 5) 0)] 158)), ((.b (.v 5)), (.prop 9))])))
theorem tree_turns1 : tree Tryz.prog { absT := [], opq := [], hv := [(0, [(.a 0), (.b (.v 5))])], keep := [], link := [], ent := [], turn := [], shr := [], vt := [(.b (.v 5))], mkd := [], rlink := [], pty := [], outl := false, stay := [], snk := [] } Tryz.f204 [(.a (.val 0)), (.a (.ptr (.v 2) 0)), (.a (.ptr (.v 4) 0))] [((.a 0), (.prop 1)), ((.b (.v 2)), (.cells [(.int .i64 (.v 3))] 3)), ((.b (.v 4)), (.cells [(.ptr (.v 5) 0)] 158)), ((.b (.v 5)), (.prop 6))] 7 = t_turns1 := by kernel_rfl
-- (*tideline/octet.Reader).turns: ρ := [.n r, .p rP, .i n]
def t_turns : T :=
(.new
(.new
(.ret (.w (.a (.func 204 [((.v 4), 0), ((.v 3), 0)]))) [((.b (.v 0)), (.prop 1)), ((.b (.v 4)), (.cells [(.int .i64 (.v 2))] 3)), ((.b (.v 3)), (.cells [(.ptr (.v 0) 0)] 158))])))
theorem tree_turns : tree Tryz.prog { absT := [], opq := [], hv := [], keep := [], link := [], ent := [], turn := [], shr := [], vt := [], mkd := [], rlink := [], pty := [], outl := false, stay := [], snk := [] } Tryz.f155 [(.a (.ptr (.v 0) 0)), (.a (.int .i64 (.v 2)))] [((.b (.v 0)), (.prop 1))] 3 = t_turns := by kernel_rfl
-- tideline/octet.List[tideline/api.Entry]: ρ := [.n r, .p rP, .i most, .v one, .p oneP]
def t_listEntries : T :=
(.new
(.new
(.call 154 [(.a (.ptr (.v 0) 0)), (.a (.int .i64 (.v 2)))] [((.b (.v 0)), (.prop 1))] [.i, .p] (.w (.a (.int .i64 (.v 7)))) [((.b (.v 0)), (.prop 8))]
(.new
(.call 155 [(.a (.ptr (.v 0) 0)), (.a (.int .i64 (.v 7)))] [((.b (.v 0)), (.prop 8))] [.v, .p] (.w (.a (.val 10))) [((.a 10), (.prop 11)), ((.b (.v 0)), (.prop 8))]
(.new
(.rangef (.val 10) [((.a 10), (.prop 11))] [((.b (.v 0)), (.prop 13))] [.p, .a, .n, .n, .p] [(.p [((.b (.v 0)), (.prop 8))]), (.a .nil), (.e (.o2 .nadd (.n 0) (.n 0))), (.e (.o2 .nadd (.n 0) (.n 0))), (.p [])] [.i] [(.a (.int .i64 (.v 18)))] []
 (.call 159 [(.a (.ptr (.v 0) 0))] [((.b (.v 0)), (.prop 13))] [.s, .i, .p] (.w (.agg [(.str (.v 19)), (.int .i64 (.v 20))])) [((.b (.v 0)), (.prop 21))]
 (.new
 (.op (.call ⟨.builtin .append, #[(.tmp 18), (.tmp 22)], #[41, 41]⟩) 41 [(18, (.w (.a (.sl (.v 14) (.v 15) (.v 16))))), (22, (.w (.a (.sl (.b (.v 22) 0) (.n 1) (.n 1)))))] [((.a 14), (.prop 17)), ((.b (.v 22)), (.cells [(.str (.v 19)), (.int .i64 (.v 20))] 140))] [.a, .n, .n, .p] (.w (.a (.sl (.v 23) (.v 24) (.v 25)))) [((.a 23), (.prop 26)), ((.b (.v 22)), (.cells [(.str (.v 19)), (.int .i64 (.v 20))] 140))]
 (.again 0 [(.p [((.b (.v 0)), (.prop 21))]), (.a (.v 23)), (.e (.o2 .nadd (.v 24) (.n 0))), (.e (.o2 .nadd (.v 25) (.n 0))), (.p [((.a 23), (.prop 26))])]))))
 (.read (.load 4 (.tmp 26)) 4 [(26, (.w (.a (.ptr (.v 0) 1))))] [((.b (.v 0)), (.prop 13))] [.c] (.w (.a (.bool (.v 18))))
 (.br (.v 18)
  (.ret (.w (.a (.sl .nil (.n 0) (.n 0)))) [((.b (.v 0)), (.prop 13))])
  (.ret (.w (.a (.sl (.v 14) (.v 15) (.v 16)))) [((.b (.v 0)), (.prop 13)), ((.a 14), (.prop 17))]))))))))))
theorem tree_listEntries : tree Tryz.prog { absT := [], opq := [], hv := [(0, [(.b (.v 0)), (.b (.v 9))])], keep := [155], link := [(155, 0)], ent := [], turn := [], shr := [(0, [(.b (.v 0))])], vt := [], mkd := [], rlink := [], pty := [(0, [3])], outl := false, stay := [], snk := [] } Tryz.f158 [(.a (.ptr (.v 0) 0)), (.a (.int .i64 (.v 2))), (.a (.func 159 []))] [((.b (.v 0)), (.prop 1))] 5 = t_listEntries := by kernel_rfl
-- tideline/octet.List[tideline/api.Node]: ρ := [.n r, .p rP, .i most, .v one, .p oneP]
def t_listNodes : T :=
(.new
(.new
(.call 154 [(.a (.ptr (.v 0) 0)), (.a (.int .i64 (.v 2)))] [((.b (.v 0)), (.prop 1))] [.i, .p] (.w (.a (.int .i64 (.v 7)))) [((.b (.v 0)), (.prop 8))]
(.new
(.call 155 [(.a (.ptr (.v 0) 0)), (.a (.int .i64 (.v 7)))] [((.b (.v 0)), (.prop 8))] [.v, .p] (.w (.a (.val 10))) [((.a 10), (.prop 11)), ((.b (.v 0)), (.prop 8))]
(.new
(.rangef (.val 10) [((.a 10), (.prop 11))] [((.b (.v 0)), (.prop 13))] [.p, .a, .n, .n, .p] [(.p [((.b (.v 0)), (.prop 8))]), (.a .nil), (.e (.o2 .nadd (.n 0) (.n 0))), (.e (.o2 .nadd (.n 0) (.n 0))), (.p [])] [.i] [(.a (.int .i64 (.v 18)))] []
 (.call 88 [(.a (.ptr (.v 0) 0))] [((.b (.v 0)), (.prop 13))] [.i, .i, .i, .a, .n, .n, .p, .a, .n, .n, .p, .p] (.w (.agg [(.int .i64 (.v 19)), (.int .i64 (.v 20)), (.int .i64 (.v 21)), (.sl (.v 22) (.v 23) (.v 24)), (.sl (.v 26) (.v 27) (.v 28))])) [((.a 22), (.prop 25)), ((.a 26), (.prop 29)), ((.b (.v 0)), (.prop 30))]
 (.new
 (.op (.call ⟨.builtin .append, #[(.tmp 18), (.tmp 22)], #[36, 36]⟩) 36 [(18, (.w (.a (.sl (.v 14) (.v 15) (.v 16))))), (22, (.w (.a (.sl (.b (.v 31) 0) (.n 1) (.n 1)))))] [((.a 14), (.prop 17)), ((.b (.v 31)), (.cells [(.int .i64 (.v 19)), (.int .i64 (.v 20)), (.int .i64 (.v 21)), (.sl (.v 22) (.v 23) (.v 24)), (.sl (.v 26) (.v 27) (.v 28))] 43)), ((.a 22), (.prop 25)), ((.a 26), (.prop 29))] [.a, .n, .n, .p] (.w (.a (.sl (.v 32) (.v 33) (.v 34)))) [((.a 32), (.prop 35)), ((.b (.v 31)), (.cells [(.int .i64 (.v 19)), (.int .i64 (.v 20)), (.int .i64 (.v 21)), (.sl (.v 22) (.v 23) (.v 24)), (.sl (.v 26) (.v 27) (.v 28))] 43)), ((.a 22), (.prop 25)), ((.a 26), (.prop 29))]
 (.again 0 [(.p [((.b (.v 0)), (.prop 30))]), (.a (.v 32)), (.e (.o2 .nadd (.v 33) (.n 0))), (.e (.o2 .nadd (.v 34) (.n 0))), (.p [((.a 32), (.prop 35))])]))))
 (.read (.load 4 (.tmp 26)) 4 [(26, (.w (.a (.ptr (.v 0) 1))))] [((.b (.v 0)), (.prop 13))] [.c] (.w (.a (.bool (.v 18))))
 (.br (.v 18)
  (.ret (.w (.a (.sl .nil (.n 0) (.n 0)))) [((.b (.v 0)), (.prop 13))])
  (.ret (.w (.a (.sl (.v 14) (.v 15) (.v 16)))) [((.b (.v 0)), (.prop 13)), ((.a 14), (.prop 17))]))))))))))
theorem tree_listNodes : tree Tryz.prog { absT := [], opq := [], hv := [(0, [(.b (.v 0)), (.b (.v 9))])], keep := [155], link := [(155, 0)], ent := [], turn := [], shr := [(0, [(.b (.v 0))])], vt := [], mkd := [], rlink := [], pty := [(0, [3])], outl := false, stay := [], snk := [] } Tryz.f87 [(.a (.ptr (.v 0) 0)), (.a (.int .i64 (.v 2))), (.a (.func 88 []))] [((.b (.v 0)), (.prop 1))] 5 = t_listNodes := by kernel_rfl
-- tideline/snap.takeNode$1: ρ := [.n r, .p rP]
def t_takeEntry : T :=
(.new
(.call 157 [(.a (.ptr (.v 0) 0)), (.a (.int .i64 (.i 16)))] [((.b (.v 0)), (.prop 1))] [.a, .n, .n, .p, .p] (.w (.a (.sl (.v 3) (.v 4) (.v 5)))) [((.a 3), (.prop 6)), ((.b (.v 0)), (.prop 7))]
(.read (.convert 28 9 (.tmp 5)) 9 [(5, (.w (.a (.sl (.v 3) (.v 4) (.v 5)))))] [((.a 3), (.prop 6))] [.s] (.w (.a (.str (.v 8))))
(.call 156 [(.a (.ptr (.v 0) 0))] [((.b (.v 0)), (.prop 7))] [.i, .p] (.w (.a (.int .u8 (.v 9)))) [((.b (.v 0)), (.prop 10))]
(.need (.o1 (.inr .i64) (.v 9))
(.ret (.w (.agg [(.str (.v 8)), (.int .i64 (.v 9))])) [((.b (.v 0)), (.prop 10))]))))))
theorem tree_takeEntry : tree Tryz.prog { absT := [], opq := [], hv := [], keep := [], link := [], ent := [], turn := [], shr := [], vt := [], mkd := [], rlink := [], pty := [], outl := false, stay := [], snk := [] } Tryz.f159 [(.a (.ptr (.v 0) 0))] [((.b (.v 0)), (.prop 1))] 2 = t_takeEntry := by kernel_rfl
-- tideline/snap.takeNode: ρ := [.n r, .p rP]
def t_takeNode : T :=
(.new
(.new
(.call 156 [(.a (.ptr (.v 0) 0))] [((.b (.v 0)), (.prop 1))] [.i, .p] (.w (.a (.int .u8 (.v 4)))) [((.b (.v 0)), (.prop 5))]
(.need (.o1 (.inr .i64) (.v 4))
(.call 156 [(.a (.ptr (.v 0) 0))] [((.b (.v 0)), (.prop 5))] [.i, .p] (.w (.a (.int .u8 (.v 6)))) [((.b (.v 0)), (.prop 7))]
(.need (.o1 (.inr .i64) (.v 6))
(.call 153 [(.a (.ptr (.v 0) 0)), (.a (.int .i64 (.i 2)))] [((.b (.v 0)), (.prop 7))] [.i, .p] (.w (.a (.int .u64 (.v 8)))) [((.b (.v 0)), (.prop 9))]
(.call 157 [(.a (.ptr (.v 0) 0)), (.a (.int .i64 (.i 512)))] [((.b (.v 0)), (.prop 9))] [.a, .n, .n, .p, .p] (.w (.a (.sl (.v 10) (.v 11) (.v 12)))) [((.a 10), (.prop 13)), ((.b (.v 0)), (.prop 14))]
(.call 158 [(.a (.ptr (.v 0) 0)), (.a (.int .i64 (.i 9223372036854775807))), (.a (.func 159 []))] [((.b (.v 0)), (.prop 14))] [.a, .n, .n, .p, .p] (.w (.a (.sl (.v 15) (.v 16) (.v 17)))) [((.a 15), (.prop 18)), ((.b (.v 0)), (.prop 19))]
(.ret (.w (.agg [(.int .i64 (.v 4)), (.int .i64 (.v 6)), (.int .i64 (.o1 (.wrap .i64) (.v 8))), (.sl (.v 10) (.v 11) (.v 12)), (.sl (.v 15) (.v 16) (.v 17))])) [((.b (.v 0)), (.prop 19)), ((.a 10), (.prop 13)), ((.a 15), (.prop 18))]))))))))))
theorem tree_takeNode : tree Tryz.prog { absT := [], opq := [], hv := [], keep := [], link := [], ent := [], turn := [], shr := [], vt := [], mkd := [], rlink := [], pty := [], outl := false, stay := [], snk := [] } Tryz.f88 [(.a (.ptr (.v 0) 0))] [((.b (.v 0)), (.prop 1))] 2 = t_takeNode := by kernel_rfl
-- tideline/snap.wholeLinks: ρ := [.a nodesa, .n nodesl, .n nodesc, .p nodesP]
def t_wholeLinks : T :=
(.new
(.loop [.i, .p] [(.e (.o1 .neg (.o1 .neg (.i 0)))), (.p [((.b (.v 4)), .emap)])]
 (.br (.o2 .lt (.v 5) (.o1 .ofNat (.v 1)))
  (.need (.o2 .le (.i 0) (.v 5))
  (.need (.o1 .isSome (.v 0))
  (.read (.load 43 (.tmp 14)) 43 [(14, (.w (.a (.eptr 0 (.v 5) 5 0))))] [((.a 0), (.prop 3))] [.i, .i, .i, .a, .n, .n, .a, .n, .n] (.w (.agg [(.int .i64 (.v 7)), (.int .i64 (.v 8)), (.int .i64 (.v 9)), (.sl (.v 10) (.v 11) (.v 12)), (.sl (.v 13) (.v 14) (.v 15))]))
  (.new
  (.loop [.i, .p] [(.e (.o1 .neg (.o1 .neg (.i 0)))), (.p [((.b (.v 4)), (.prop 6))])]
   (.br (.o2 .lt (.v 17) (.o1 .ofNat (.v 14)))
    (.need (.o2 .le (.i 0) (.v 17))
    (.need (.o1 .isSome (.v 13))
    (.read (.load 140 (.tmp 21)) 140 [(21, (.w (.a (.eptr 13 (.v 17) 2 0))))] [((.a 0), (.prop 3))] [.s, .i] (.w (.agg [(.str (.v 19)), (.int .i64 (.v 20))]))
    (.new
    (.read (.lookup 252 (.tmp 23) (.tmp 25) false) 3 [(23, (.w (.a (.map (.v 4))))), (25, (.w (.a (.int .i64 (.v 20)))))] [((.b (.v 4)), (.prop 18))] [.i] (.w (.a (.int .i64 (.v 22))))
    (.need (.o1 (.inr .i64) (.o2 .add (.v 22) (.i 1)))
    (.op (.mapUpdate 252 (.tmp 23) (.tmp 25) (.tmp 27)) 0 [(23, (.w (.a (.map (.v 4))))), (25, (.w (.a (.int .i64 (.v 20))))), (27, (.w (.a (.int .i64 (.o2 .add (.v 22) (.i 1))))))] [((.b (.v 4)), (.prop 18))] [.p] (.tup []) [((.b (.v 4)), (.prop 23))]
    (.need (.o1 (.inr .i64) (.o2 .add (.v 17) (.i 1)))
    (.again 0 [(.e (.o1 .neg (.o1 .neg (.o2 .add (.v 17) (.i 1))))), (.p [((.b (.v 4)), (.prop 23))])])))))))))
    (.need (.o1 (.inr .i64) (.o2 .add (.v 5) (.i 1)))
    (.again 1 [(.e (.o1 .neg (.o1 .neg (.o2 .add (.v 5) (.i 1))))), (.p [((.b (.v 4)), (.prop 18))])]))))))))
  (.loop [.i, .p] [(.e (.o1 .neg (.o1 .neg (.i 0)))), (.p [((.a 0), (.prop 3))])]
   (.br (.o2 .lt (.v 7) (.o1 .ofNat (.v 1)))
    (.need (.o2 .le (.i 0) (.v 7))
    (.need (.o1 .isSome (.v 0))
    (.read (.load 43 (.tmp 35)) 43 [(35, (.w (.a (.eptr 0 (.v 7) 5 0))))] [((.a 0), (.prop 8))] [.i, .i, .i, .a, .n, .n, .a, .n, .n] (.w (.agg [(.int .i64 (.v 9)), (.int .i64 (.v 10)), (.int .i64 (.v 11)), (.sl (.v 12) (.v 13) (.v 14)), (.sl (.v 15) (.v 16) (.v 17))]))
    (.new
    (.br (.o2 .eq (.v 10) (.i 2))
     (.read (.lookup 252 (.tmp 41) (.tmp 43) false) 3 [(41, (.w (.a (.map (.v 4))))), (43, (.w (.a (.int .i64 (.v 9)))))] [((.b (.v 4)), (.prop 6))] [.i] (.w (.a (.int .i64 (.v 19))))
     (.br (.o2 .eq (.o2 (.bit .and .i64) (.v 19) (.i 65535)) (.v 11))
      (.read (.lookup 252 (.tmp 52) (.tmp 54) false) 3 [(52, (.w (.a (.map (.v 4))))), (54, (.w (.a (.int .i64 (.v 9)))))] [((.b (.v 4)), (.prop 6))] [.i] (.w (.a (.int .i64 (.v 20))))
      (.op (.store 3 (.tmp 57) (.tmp 55)) 0 [(57, (.w (.a (.eptr 0 (.v 7) 5 2)))), (55, (.w (.a (.int .i64 (.v 20)))))] [((.a 0), (.prop 8))] [.p] (.tup []) [((.a 0), (.prop 21))]
      (.need (.o1 (.inr .i64) (.o2 .add (.v 7) (.i 1)))
      (.again 0 [(.e (.o1 .neg (.o1 .neg (.o2 .add (.v 7) (.i 1))))), (.p [((.a 0), (.prop 21))])]))))
      (.need (.o1 (.inr .i64) (.o2 .add (.v 7) (.i 1)))
      (.again 0 [(.e (.o1 .neg (.o1 .neg (.o2 .add (.v 7) (.i 1))))), (.p [((.a 0), (.prop 8))])]))))
     (.need (.o1 (.inr .i64) (.o2 .add (.v 7) (.i 1)))
     (.again 0 [(.e (.o1 .neg (.o1 .neg (.o2 .add (.v 7) (.i 1))))), (.p [((.a 0), (.prop 8))])])))))))
    (.ret (.tup []) [((.a 0), (.prop 8))]))))))
theorem tree_wholeLinks : tree Tryz.prog { absT := [], opq := [], hv := [(0, [(.b (.v 4))]), (2, [(.b (.v 4))]), (4, [(.a 0)])], keep := [], link := [], ent := [], turn := [], shr := [], vt := [], mkd := [], rlink := [], pty := [], outl := false, stay := [], snk := [] } Tryz.f90 [(.a (.sl (.v 0) (.v 1) (.v 2)))] [((.a 0), (.prop 3))] 4 = t_wholeLinks := by kernel_rfl
-- tideline/tree.loaded: ρ := [.i one_Number, .i one_Kind, .i one_Links, .a one_Dataa, .n one_Datal, .n one_Datac, .p one_DataP, .a one_Entriesa, .n one_Entriesl, .n one_Entriesc, .p one_EntriesP]
def t_tLoaded : T :=
(.new
(.br (.o2 .eq (.v 1) (.i 1))
 (.br (.o2 .lt (.i 0) (.o1 .ofNat (.v 4)))
  (.ret (.w (.a .nilp)) [((.a 3), (.prop 6)), ((.a 7), (.prop 10))])
  (.br (.o1 .not (.o2 .eq (.v 2) (.i 1)))
   (.ret (.w (.a .nilp)) [((.a 3), (.prop 6)), ((.a 7), (.prop 10))])
   (.call 60 [] [] [.n, .p] (.w (.a (.ptr (.v 12) 0))) [((.b (.v 12)), (.prop 13))]
   (.loop [.v, .p, .s, .i, .p] [(.v .nilp), (.p []), (.e (.o2 .cat (.s []) (.s []))), (.e (.o1 .neg (.o1 .neg (.i 0)))), (.p [((.b (.v 12)), (.prop 13))])]
    (.br (.o2 .lt (.v 17) (.o1 .ofNat (.v 8)))
     (.need (.o2 .le (.i 0) (.v 17))
     (.need (.o1 .isSome (.v 7))
     (.read (.load 140 (.tmp 26)) 140 [(26, (.w (.a (.eptr 7 (.v 17) 2 0))))] [((.a 7), (.prop 10))] [.s, .i] (.w (.agg [(.str (.v 19)), (.int .i64 (.v 20))]))
     (.new
     (.call 205 [(.a (.str (.v 19)))] [] [.c] (.w (.a (.bool (.v 22)))) []
     (.br (.o1 .not (.v 22))
      (.ret (.w (.a .nilp)) [((.a 3), (.prop 6)), ((.a 7), (.prop 10))])
      (.read (.binOp .leq 9 (.tmp 34) (.tmp 35) 9) 4 [(34, (.w (.a (.str (.v 19))))), (35, (.w (.a (.str (.v 16)))))] [] [.c] (.w (.a (.bool (.v 23))))
      (.br (.v 23)
       (.ret (.w (.a .nilp)) [((.a 3), (.prop 6)), ((.a 7), (.prop 10))])
       (.read (.load 131 (.tmp 40)) 131 [(40, (.w (.a (.ptr (.v 12) 3))))] [((.b (.v 12)), (.prop 18))] [.n] (.w (.a (.map (.v 24))))
       (.op (.mapUpdate 131 (.tmp 41) (.tmp 43) (.tmp 45)) 0 [(41, (.w (.a (.map (.v 24))))), (43, (.w (.a (.str (.v 19))))), (45, (.w (.a (.int .i64 (.v 20)))))] [((.b (.v 12)), (.prop 18))] [.p] (.tup []) [((.b (.v 12)), (.prop 25))]
       (.need (.o1 (.inr .i64) (.o2 .add (.v 17) (.i 1)))
       (.again 0 [(.v (.val 14)), (.p [((.a 14), (.prop 15))]), (.e (.o2 .cat (.v 19) (.s []))), (.e (.o1 .neg (.o1 .neg (.o2 .add (.v 17) (.i 1))))), (.p [((.b (.v 12)), (.prop 25))])]))))))))))))
     (.ret (.w (.a (.ptr (.v 12) 0))) [((.a 3), (.prop 6)), ((.a 7), (.prop 10)), ((.b (.v 12)), (.prop 18))]))))))
 (.br (.o2 .eq (.v 1) (.i 2))
  (.br (.o2 .lt (.i 512) (.o1 .ofNat (.v 4)))
   (.ret (.w (.a .nilp)) [((.a 3), (.prop 6)), ((.a 7), (.prop 10))])
   (.br (.o2 .lt (.i 0) (.o1 .ofNat (.v 8)))
    (.ret (.w (.a .nilp)) [((.a 3), (.prop 6)), ((.a 7), (.prop 10))])
    (.call 73 [(.a (.sl (.v 3) (.v 4) (.v 5)))] [((.a 3), (.prop 6))] [.a, .n, .n, .p, .p] (.w (.a (.sl (.v 12) (.v 13) (.v 14)))) [((.a 12), (.prop 15)), ((.a 3), (.prop 16))]
    (.new
    (.ret (.w (.a (.ptr (.v 17) 0))) [((.a 3), (.prop 16)), ((.a 7), (.prop 10)), ((.b (.v 17)), (.cells [(.int .i64 (.i 2)), (.int .i64 (.v 2)), (.sl (.v 12) (.v 13) (.v 14)), .nilm] 133)), ((.a 12), (.prop 15))])))))
  (.ret (.w (.a .nilp)) [((.a 3), (.prop 6)), ((.a 7), (.prop 10))]))))
theorem tree_tLoaded : tree Tryz.prog { absT := [], opq := [], hv := [(1, [(.b (.v 12))])], keep := [205, 161, 90], link := [], ent := [], turn := [], shr := [], vt := [], mkd := [], rlink := [], pty := [], outl := false, stay := [], snk := [] } Tryz.f160 [(.agg [(.int .i64 (.v 0)), (.int .i64 (.v 1)), (.int .i64 (.v 2)), (.sl (.v 3) (.v 4) (.v 5)), (.sl (.v 7) (.v 8) (.v 9))])] [((.a 3), (.prop 6)), ((.a 7), (.prop 10))] 11 = t_tLoaded := by kernel_rfl
-- tideline/tree.Load: ρ := [.a nodesa, .n nodesl, .n nodesc, .p nodesP]
def t_tLoad : T :=
(.br (.o2 .lt (.i 64) (.o1 .ofNat (.v 1)))
 (.ret (.tup [(.a .nilp), (.a (.int .i64 (.i 3)))]) [((.a 0), (.prop 3))])
 (.new
 (.new
 (.loop [.v, .p, .i, .i, .i, .p, .p] [(.v .nilp), (.p []), (.e (.o1 .neg (.o1 .neg (.i 0)))), (.e (.o1 .neg (.o1 .neg (.i (-1))))), (.e (.o1 .neg (.o1 .neg (.i 0)))), (.p [((.b (.v 4)), .emap)]), (.p [((.a 0), (.prop 3))])]
  (.br (.o2 .lt (.v 10) (.o1 .ofNat (.v 1)))
   (.need (.o2 .le (.i 0) (.v 10))
   (.need (.o1 .isSome (.v 0))
   (.read (.load 43 (.tmp 19)) 43 [(19, (.w (.a (.eptr 0 (.v 10) 5 0))))] [((.a 0), (.prop 12))] [.i, .i, .i, .a, .n, .n, .a, .n, .n] (.w (.agg [(.int .i64 (.v 13)), (.int .i64 (.v 14)), (.int .i64 (.v 15)), (.sl (.v 16) (.v 17) (.v 18)), (.sl (.v 19) (.v 20) (.v 21))]))
   (.new
   (.br (.o2 .le (.v 13) (.v 9))
    (.ret (.tup [(.a .nilp), (.a (.int .i64 (.i 3)))]) [((.a 0), (.prop 12))])
    (.br (.o2 .le (.i 64) (.v 13))
     (.ret (.tup [(.a .nilp), (.a (.int .i64 (.i 3)))]) [((.a 0), (.prop 12))])
     (.call 160 [(.agg [(.int .i64 (.v 13)), (.int .i64 (.v 14)), (.int .i64 (.v 15)), (.sl (.v 16) (.v 17) (.v 18)), (.sl (.v 19) (.v 20) (.v 21))])] [((.a 0), (.prop 12))] [.v, .p, .p] (.w (.a (.val 23))) [((.a 23), (.prop 24)), ((.a 0), (.prop 25))]
     (.read (.binOp .eql 121 (.tmp 32) (.const (.pointer none)) 121) 4 [(32, (.w (.a (.val 23))))] [((.a 23), (.prop 24))] [.c] (.w (.a (.bool (.v 26))))
     (.br (.v 26)
      (.ret (.tup [(.a .nilp), (.a (.int .i64 (.i 3)))]) [((.a 0), (.prop 25))])
      (.op (.mapUpdate 123 (.tmp 37) (.tmp 39) (.tmp 40)) 0 [(37, (.w (.a (.map (.v 4))))), (39, (.w (.a (.int .i64 (.v 13))))), (40, (.w (.a (.val 23))))] [((.b (.v 4)), (.prop 11)), ((.a 23), (.prop 24))] [.p] (.tup []) [((.b (.v 4)), (.prop 27))]
      (.need (.o1 (.inr .i64) (.o2 .add (.v 10) (.i 1)))
      (.again 0 [(.v (.val 6)), (.p [((.a 6), (.prop 7))]), (.e (.o1 .neg (.o1 .neg (.v 8)))), (.e (.o1 .neg (.o1 .neg (.v 13)))), (.e (.o1 .neg (.o1 .neg (.o2 .add (.v 10) (.i 1))))), (.p [((.b (.v 4)), (.prop 27))]), (.p [((.a 0), (.prop 25))])]))))))))))))
   (.call 161 [(.a (.ptr (.v 5) 0))] [((.b (.v 5)), (.cells [(.map (.v 4))] 125)), ((.b (.v 4)), (.prop 11))] [.c, .n, .p] (.w (.a (.bool (.v 13)))) [((.b (.v 5)), (.cells [(.map (.v 14))] 125)), ((.b (.v 14)), (.prop 15))]
   (.br (.o1 .not (.v 13))
    (.ret (.tup [(.a .nilp), (.a (.int .i64 (.i 3)))]) [((.a 0), (.prop 12))])
    (.ret (.tup [(.a (.ptr (.v 5) 0)), (.a (.int .i64 (.i 0)))]) [((.a 0), (.prop 12)), ((.b (.v 5)), (.cells [(.map (.v 14))] 125)), ((.b (.v 14)), (.prop 15))]))))))))
theorem tree_tLoad : tree Tryz.prog { absT := [], opq := [121], hv := [(0, [(.b (.v 4)), (.a 0)])], keep := [], link := [], ent := [], turn := [], shr := [], vt := [], mkd := [], rlink := [], pty := [], outl := false, stay := [], snk := [] } Tryz.f91 [(.a (.sl (.v 0) (.v 1) (.v 2)))] [((.a 0), (.prop 3))] 4 = t_tLoad := by kernel_rfl
end Go.Proofs.YtdieogcemmnaaaaGreatDoor.RX

/- What takes a tree's nodes: octet's turns and List, snap.takeNode. No condition. -/
namespace Go.Proofs.YtdieogcemmnaaaaGreatDoor
set_option linter.unusedSimpArgs false
set_option linter.unusedVariables false
open Go.Proofs.YtdieogcemmnaaaaGreatDoor RX
set_option maxRecDepth 100000

abbrev RS := List UInt8 × Bool
theorem undBo : Tryz.prog.underlying 4 = some .bool := by kernel_rfl
theorem aggBo : aggT Tryz.prog 4 = false := by kernel_rfl
theorem szBo : szT Tryz.prog 4 = 1 := by kernel_rfl
theorem rrep_rd (b : Nat) (s : RS) : ORead Tryz.prog (loadS 4 (.pointer (some ⟨b, 1, none⟩))) (RRep b s) (.bool s.2) := fun w R h F st ⟨a, c, _, H⟩ => by
  have := load1_ok undBo aggBo szBo (Rd.left (B := RoB a s.1.length s.1) (one_rd b #[.slice a s.1.length c, .bool s.2] 247)) (k := 1) (off := 0) (v := .bool s.2) rfl
  simp only [Option.map_some, addr_add] at this
  exact this w R h F st H
def TBox (nb rb b : Nat) (N : Int) : HP := HP.sep (HP.one nb (.cells #[.int .i64 N] 3 (0, 0))) (HP.one rb (.cells #[.pointer (some ⟨b, 0, none⟩)] 158 (0, 0)))
def mayT (N : Nat) (g : Nat × RS) (args : Array Value) (g' : Nat × RS) : Prop := args = #[.int .i64 (g.1 : Int)] ∧ g.1 < N ∧ g.2.2 = false ∧ g'.1 = g.1 + 1
def finT (N : Nat) (g : Nat × RS) : Prop := g.1 ≤ N ∧ (g.1 = N ∨ g.2.2 = true)
theorem fgoT : Fgo Tryz.prog 204 := ⟨_, Tryz.func204, by kernel_rfl, by kernel_rfl⟩
theorem turns_ok (b : Nat) (N : Int) (D : HP) : Tri Tryz.prog 155 #[.pointer (some ⟨b, 0, none⟩), .int .i64 N] D
    (fun v => HP.ex fun nb => HP.ex fun rb => HP.and (v = .func (.func 204) #[] #[.pointer (some ⟨nb, 0, none⟩), .pointer (some ⟨rb, 0, none⟩)]) (HP.sep (TBox nb rb b N) D)) := by
  refine tri_of_tree (ρ := [.n b, .p D, .i N]) mixed Tryz.func155 tree_turns ?_
  unfold t_turns
  simp only [T.den, E.prop, E.den, RX.look, F1.app, F2.app, Uni.int_i, Uni.nat_n, Uni.bool_c, Uni.str_s, Uni.adr_a, Uni.val_v, Uni.hp_p, hden, cden, V.den, W.den, A.den, BR.den, SA.den, FV.den, capV, exs, exP, allP, Cur.app, List.map_cons, List.map_nil, List.cons_append, List.nil_append, List.drop_succ_cons, List.drop_zero, List.length_cons, List.length_nil, Nat.zero_add, Nat.reduceAdd, Int.neg_neg, Bool.not_not, List.append_nil, Nat.add_zero, List.getElem?_cons_zero, List.getElem?_cons_succ, Decidable.not_not, semW_eq, semW_load, semW_store, semW_storeC, semW_append, semW_lookup, semW_lookupC, semW_update, semW_updateC, semW_updateK, semW_delete, semW_range, semW_next, semW_entry, semW_nil, ne_eq, Nat.reduceEqDiff, not_false_eq_true]
  exact fun x y => .of fun R h H => ⟨y, x, rfl, HP.sep_comm H⟩
theorem turns_seq (nb rb b : Nat) (N : Nat) (hN : N ≤ 4294967296) (s : RS) : SeqTri Tryz.prog (.func (.func 204) #[] #[.pointer (some ⟨nb, 0, none⟩), .pointer (some ⟨rb, 0, none⟩)]) (TBox nb rb b N)
    (fun g : Nat × RS => RRep b g.2) (fun _ _ => HP.tt) (mayT N) (finT N) (0, s) := by
  refine ⟨_, _, rfl, fgoT, fun l K Jx hr => ?_⟩
  refine (tri_of_tree (ρ := [.v (.func (.yield l) #[] #[]), .p (K (0, s)), .n nb, .i N, .n rb, .n b, .p (RRep b s)]) mixed Tryz.func204 tree_turns1 ?_).weak (fun R h H => ?_) fun _ _ _ h => h
  rotate_left
  · exact HP.sep_mono (HP.sep_comm (HP.sep_assoc' H)) (fun _ h => h) fun _ h => HP.sep_assoc h
  unfold t_turns1
  simp only [T.den, E.prop, E.den, RX.look, F1.app, F2.app, Uni.int_i, Uni.nat_n, Uni.bool_c, Uni.str_s, Uni.adr_a, Uni.val_v, Uni.hp_p, hden, cden, V.den, W.den, A.den, BR.den, SA.den, FV.den, capV, exs, exP, allP, Cur.app, List.map_cons, List.map_nil, List.cons_append, List.nil_append, List.drop_succ_cons, List.drop_zero, List.length_cons, List.length_nil, Nat.zero_add, Nat.reduceAdd, Int.neg_neg, Bool.not_not, List.append_nil, Nat.add_zero, List.getElem?_cons_zero, List.getElem?_cons_succ, Decidable.not_not, semW_eq, semW_load, semW_store, semW_storeC, semW_append, semW_lookup, semW_lookupC, semW_update, semW_updateC, semW_updateK, semW_delete, semW_range, semW_next, semW_entry, semW_nil, ne_eq, Nat.reduceEqDiff, not_false_eq_true]
  have fin : ∀ J J2 : HP, HP.ent (HP.sep J J2) (SeqPost (fun g : Nat × RS => RRep b g.2) K Jx (finT N)) → HP.ent (HP.sep J (HP.sep (HP.one nb (.cells #[.int .i64 N] 3 (0, 0))) (HP.sep (HP.one rb (.cells #[.pointer (some ⟨b, 0, none⟩)] 158 (0, 0))) J2)))
      (HP.sep (TBox nb rb b N) (SeqPost (fun g : Nat × RS => RRep b g.2) K Jx (finT N))) := fun J J2 hJ =>
    (HP.ent.of fun R h H => HP.swap (HP.sep_mono H (fun _ h => h) fun _ h => HP.sep_assoc' h)).trans (HP.ent.sep2 (HP.ent.refl _) hJ)
  refine ⟨fun k p q => ∃ g : Nat × RS, k = g.1 ∧ g.1 ≤ N ∧ p = K g ∧ q = RRep b g.2, fun k _ _ => N - k.toNat, ⟨(0, s), rfl, Nat.zero_le _, rfl, rfl⟩, ?_⟩
  rintro k p q ⟨g, rfl, hg, rfl, rfl⟩
  have done : finT N g → HP.ent (HP.sep (K g) (RRep b g.2)) (SeqPost (fun g : Nat × RS => RRep b g.2) K Jx (finT N)) := fun hf => .of fun R h H => ⟨some g, hf, HP.sep_comm H⟩
  refine ⟨fun hlt => ⟨g.2.2, rrep_rd b g.2, fun hw => ?_, fun hw => ?_⟩, fun hge => ?_⟩
  · exact fin _ _ (done ⟨hg, .inr hw⟩)
  · have hw' : g.2.2 = false := by simpa using hw
    refine (hr g #[.int .i64 (g.1 : Int)] ⟨(g.1 + 1, g.2), rfl, by omega, hw', rfl⟩).conseq (K := HP.tt) (.of fun R h H => HP.sep_tt (HP.tt_sep (HP.sep_comm H))) fun v => .of fun R h H => ?_
    obtain ⟨b', rfl, hb⟩ := HP.sep_left H
    cases b' with
    | true =>
      obtain ⟨g', hm, H2⟩ := hb
      refine ⟨true, K g', RRep b g'.2, rfl, ⟨fun h => absurd rfl h, fun _ => ⟨inI64 _ (by omega) (by omega), fun _ => ⟨⟨g', ?_, ?_, rfl, rfl⟩, ?_⟩⟩⟩, HP.sep_comm H2⟩
      · rw [hm.2.2.2]; omega
      · rw [hm.2.2.2]; omega
      · dsimp only; omega
    | false =>
      refine ⟨false, Jx, HP.tt, rfl, ⟨fun _ => fin _ _ (.of fun R h H => ⟨none, HP.sep_left H⟩), fun h => (by cases h)⟩, HP.sep_tt hb⟩
  · exact fin _ _ (done ⟨hg, .inl (by omega)⟩)
/-! The plain form of what is taken. -/
def loopR {α : Type} (f : RS → α × RS) : Nat → RS → List α × RS
  | 0, s => ([], s)
  | n + 1, s => if s.2 then ([], s) else ((f s).1 :: (loopR f n (f s).2).1, (loopR f n (f s).2).2)
def listR {α : Type} (f : RS → α × RS) (most : Int) (s : RS) : List α × RS :=
  if (loopR f (toldR s most).1 (toldR s most).2).2.2 then ([], (loopR f (toldR s most).1 (toldR s most).2).2) else loopR f (toldR s most).1 (toldR s most).2
def entR (s : RS) : (Nm × Nat) × RS := (((bytesR s 16).1, (numR (bytesR s 16).2 1).1 % 256), (numR (bytesR s 16).2 1).2)
theorem convW6 {i : Nat} {S : HP} {a : Option Addr} {n c : Nat} {l : List UInt8} (hr : RdL S a n (l.map u8v)) (hl : l.length = n) : ORead Tryz.prog (semW (.convert 28 9 (.tmp i)) 9 [(i, .slice a n c)]) S (sE l) := by
  have := conv_ok (ρ := [.v (.slice a n c)]) (i := i) (x := .w (.a (.val 0))) (S := S) (a := a) (n := n) (c := c) (l := l) rfl hr hl
  rw [semW_eq] at this
  exact this
theorem takeEntry_ok (b : Nat) (s : RS) : Tri Tryz.prog 159 #[.pointer (some ⟨b, 0, none⟩)] (RRep b s)
    (fun v => HP.and (v = .agg #[sE (entR s).1.1, .int .i64 (entR s).1.2]) (RRep b (entR s).2)) := by
  refine tri_of_tree (ρ := [.n b, .p (RRep b s)]) mixed Tryz.func159 tree_takeEntry ?_
  unfold t_takeEntry
  simp only [T.den, E.prop, E.den, RX.look, F1.app, F2.app, Uni.int_i, Uni.nat_n, Uni.bool_c, Uni.str_s, Uni.adr_a, Uni.val_v, Uni.hp_p, hden, cden, V.den, W.den, A.den, BR.den, SA.den, FV.den, capV, exs, exP, allP, Cur.app, List.map_cons, List.map_nil, List.cons_append, List.nil_append, List.drop_succ_cons, List.drop_zero, List.length_cons, List.length_nil, Nat.zero_add, Nat.reduceAdd, Int.neg_neg, Bool.not_not, List.append_nil, Nat.add_zero, List.getElem?_cons_zero, List.getElem?_cons_succ, Decidable.not_not, semW_eq, semW_load, semW_store, semW_storeC, semW_append, semW_lookup, semW_lookupC, semW_update, semW_updateC, semW_updateK, semW_delete, semW_range, semW_next, semW_entry, semW_nil, ne_eq, Nat.reduceEqDiff, not_false_eq_true]
  intro x
  refine (rBytes_ok b s 16).weak (fun _ _ h => h) ?_
  rintro v R h ⟨a, c, rfl, H⟩
  refine ⟨a, _, c, OwB a _ c (bytesR s 16).1, RRep b (bytesR s 16).2, rfl, ?_, HP.sep_comm H⟩
  refine ⟨(bytesR s 16).1, convW6 (RdL.ow _ _ _ _ _ _) rfl, ?_⟩
  refine (rByte_ok b (bytesR s 16).2).weak (fun _ _ h => h) ?_
  rintro v R h ⟨rfl, H⟩
  exact ⟨_, _, rfl, ⟨inI64 _ (by omega) (by omega), fun _ => .of fun R h H => ⟨rfl, H⟩⟩, H⟩
abbrev OwE (a : Option Addr) (n c : Nat) (l : List (Nm × Nat)) : HP := OwC 140 2 a n c (l.flatMap entV)
theorem PL.nil {α : Type} (K : PK α) (R h : PH) : (PL K none 0 0 []).p R h := ⟨rfl, HP.sep_tt (OwC.nil _ _ R h)⟩
theorem appE (a : Option Addr) (n c : Nat) (l : List (Nm × Nat)) (e : Nat) (x : Nm × Nat) (hn : n ≤ 1000000000) :
    OTri Tryz.prog (appS 41 41 (.slice a n c) (.slice (some ⟨e, 0, none⟩) 1 1)) (HP.sep (OwE a n c l) (HP.one e (.cells #[sE x.1, .int .i64 x.2] 140 (0, 0))))
      (fun v => HP.ex fun a' => HP.ex fun c' => HP.and (v = .slice a' (n + 1) c') (HP.sep (OwE a' (n + 1) c' (l ++ [x])) (HP.one e (.cells #[sE x.1, .int .i64 x.2] 140 (0, 0))))) := by
  obtain ⟨i, z, hi, h1, h2, h3, h4⟩ := info_pz infoEnt
  have := append_ok 41 41 140 i z undEs hi h1 (by rw [h2, h3]) (by omega) a n c (l.flatMap entV) (HP.one e (.cells #[sE x.1, .int .i64 x.2] 140 (0, 0))) ⟨e, 0, none⟩ 1 1 (entV x) (one_rd e #[sE x.1, .int .i64 x.2] _) (by rw [h3]; rfl) (kEntP.one x) (by unfold maxLen; omega) (by rw [h4]; omega)
  rw [h3] at this
  simp only [OwE, List.flatMap_append, List.flatMap_cons, List.flatMap_nil, List.append_nil]
  exact this
theorem toldR_lt (s : RS) (most : Int) : (toldR s most).1 ≤ 4294967295 := by
  have := numR_lt s 4
  unfold toldR
  split
  · exact Nat.zero_le _
  · split
    · exact Nat.zero_le _
    · show (numR s 4).1 ≤ _; omega
theorem takeR_false {s : RS} {n : Nat} (h : (takeR s n).2.2 = false) : s.2 = false ∧ (takeR s n).2.1.length + n = s.1.length := by
  unfold takeR at h ⊢
  split at h
  · rename_i e; rw [e] at h; cases h
  · rename_i e
    split at h
    · cases h
    · rw [if_neg e, if_neg (by assumption)]
      exact ⟨by simpa using e, by simp; omega⟩
theorem numR_false {s : RS} {n : Nat} (h : (numR s n).2.2 = false) : s.2 = false ∧ (numR s n).2.1.length + n = s.1.length := takeR_false h
theorem toldR_false {s : RS} {m : Int} (h : (toldR s m).2.2 = false) : s.2 = false ∧ (toldR s m).2.1.length + 4 = s.1.length := by
  unfold toldR at h ⊢
  split at h
  · rename_i e; rw [e] at h; cases h
  · rename_i e
    split at h
    · cases h
    · rw [if_neg e, if_neg (by assumption)]; exact numR_false h
theorem bytesR_false {s : RS} {m : Int} (h : (bytesR s m).2.2 = false) : s.2 = false ∧ (bytesR s m).2.1.length + 4 ≤ s.1.length := by
  have h1 := takeR_false h
  have h2 := toldR_false h1.1
  refine ⟨h2.1, ?_⟩
  have := h1.2
  unfold bytesR
  omega
theorem takeR_le (s : RS) (n : Nat) : (takeR s n).2.1.length ≤ s.1.length := by
  unfold takeR; split
  · exact Nat.le_refl _
  · split <;> simp
theorem toldR_len (s : RS) (m : Int) : (toldR s m).2.1.length ≤ s.1.length := by
  have := takeR_le s 4
  unfold toldR
  split
  · exact this
  · split
    · simp
    · exact this
def Shrinks {α : Type} (f : RS → α × RS) : Prop := ∀ s, (f s).2.2 = false → (f s).2.1.length + 1 ≤ s.1.length
theorem entR_shrinks : Shrinks entR := fun s h => by
  have h1 := numR_false h
  have h2 := bytesR_false h1.1
  have := h1.2
  show (numR (bytesR s 16).2 1).2.1.length + 1 ≤ _
  omega
theorem loopR_step {α : Type} (f : RS → α × RS) {n i : Nat} {s : RS} (hi : i < n) (hs : s.2 = false) : loopR f (n - i) s = ((f s).1 :: (loopR f (n - (i + 1)) (f s).2).1, (loopR f (n - (i + 1)) (f s).2).2) := by
  rw [show n - i = (n - (i + 1)) + 1 by omega]
  conv => lhs; unfold loopR
  rw [if_neg (by simp [hs])]
theorem loopR_end {α : Type} (f : RS → α × RS) {n : Nat} {s : RS} (h : n = 0 ∨ s.2 = true) : loopR f n s = ([], s) := by
  cases n with
  | zero => rfl
  | succ n => unfold loopR; rw [if_pos (h.resolve_left (by omega))]
/-- How far a list is read. -/
def Sofar {α : Type} (f : RS → α × RS) (n : Nat) (s1 : RS) (g : Nat × RS) (ll : List α) : Prop :=
  g.1 ≤ n ∧ (g.2.2 = false → ll.length + g.2.1.length ≤ s1.1.length) ∧ loopR f n s1 = (ll ++ (loopR f (n - g.1) g.2).1, (loopR f (n - g.1) g.2).2)
theorem Sofar.init {α : Type} (f : RS → α × RS) (n : Nat) (s1 : RS) : Sofar f n s1 (0, s1) [] := ⟨Nat.zero_le _, fun _ => by simp, by simp⟩
theorem Sofar.next {α : Type} {f : RS → α × RS} (hf : Shrinks f) {n : Nat} {s1 : RS} {g : Nat × RS} {ll : List α} (h : Sofar f n s1 g ll) (hi : g.1 < n) (hs : g.2.2 = false) : Sofar f n s1 (g.1 + 1, (f g.2).2) (ll ++ [(f g.2).1]) := by
  refine ⟨hi, fun hw => ?_, ?_⟩
  · have h1 := hf g.2 hw
    have h2 := h.2.1 hs
    simp only [List.length_append, List.length_singleton]
    omega
  · rw [h.2.2, loopR_step f hi hs]; simp
theorem Sofar.fin {α : Type} {f : RS → α × RS} {n : Nat} {s1 : RS} {g : Nat × RS} {ll : List α} (h : Sofar f n s1 g ll) (hf : finT n g) : loopR f n s1 = (ll, g.2) := by
  rw [h.2.2, loopR_end f (hf.2.imp (fun e => by omega) id)]; simp
theorem listEntries_ok (b : Nat) (s : RS) (most : Int) (hL : s.1.length ≤ 1000000000) : Tri Tryz.prog 158 #[.pointer (some ⟨b, 0, none⟩), .int .i64 most, .func (.func 159) #[] #[]] (RRep b s)
    (fun v => HP.ex fun a => HP.ex fun c => HP.and (v = .slice a (listR entR most s).1.length c) (HP.sep (OwE a (listR entR most s).1.length c (listR entR most s).1) (RRep b (listR entR most s).2))) := by
  refine tri_of_tree (ρ := [.n b, .p (RRep b s), .i most, .v (.func (.func 159) #[] #[]), .p HP.tt]) mixed Tryz.func158 tree_listEntries ?_
  unfold t_listEntries
  simp only [T.den, E.prop, E.den, RX.look, F1.app, F2.app, Uni.int_i, Uni.nat_n, Uni.bool_c, Uni.str_s, Uni.adr_a, Uni.val_v, Uni.hp_p, hden, cden, V.den, W.den, A.den, BR.den, SA.den, FV.den, capV, exs, exP, allP, Cur.app, List.map_cons, List.map_nil, List.cons_append, List.nil_append, List.drop_succ_cons, List.drop_zero, List.length_cons, List.length_nil, Nat.zero_add, Nat.reduceAdd, Int.neg_neg, Bool.not_not, List.append_nil, Nat.add_zero, List.getElem?_cons_zero, List.getElem?_cons_succ, Decidable.not_not, semW_eq, semW_load, semW_store, semW_storeC, semW_append, semW_lookup, semW_lookupC, semW_update, semW_updateC, semW_updateK, semW_delete, semW_range, semW_next, semW_entry, semW_nil, ne_eq, Nat.reduceEqDiff, not_false_eq_true]
  intro x y
  refine (rTold_ok b s most).weak (fun _ _ h => h) ?_
  rintro v R h ⟨rfl, H⟩
  refine ⟨_, _, rfl, fun z => ?_, H⟩
  refine (turns_ok b _ (RRep b (toldR s most).2)).weak (fun _ _ h => h) ?_
  rintro v R h ⟨nb, rb, rfl, H⟩
  refine ⟨.func (.func 204) #[] #[.pointer (some ⟨nb, 0, none⟩), .pointer (some ⟨rb, 0, none⟩)], TBox nb rb b _, rfl, fun u => ?_, H⟩
  have hn := toldR_lt s most
  have hL1 : (toldR s most).2.1.length ≤ 1000000000 := Nat.le_trans (toldR_len s most) hL
  have hlist : listR entR most s = if (loopR entR (toldR s most).1 (toldR s most).2).2.2 then ([], (loopR entR (toldR s most).1 (toldR s most).2).2) else loopR entR (toldR s most).1 (toldR s most).2 := rfl
  generalize hN : (toldR s most).1 = N at *
  generalize hS1 : (toldR s most).2 = s1 at *
  refine ⟨Nat × RS, fun g => RRep b g.2, fun _ _ => HP.tt, mayT N, finT N, (0, s1), fun g p a n c q => p = RRep b g.2 ∧ ∃ ll, n = ll.length ∧ HP.ent q (OwE a n c ll) ∧ Sofar entR N s1 g ll, turns_seq nb rb b N (by omega) s1, ?_, ?_, ?_, ?_⟩
  · exact ⟨rfl, [], rfl, .of fun R h _ => OwC.nil _ _ R h, Sofar.init _ _ _⟩
  · rintro g p a n c q ⟨rfl, _⟩; rfl
  · rintro g args ⟨g', rfl, hi, hw, _⟩ p a n c q ⟨rfl, ll, rfl, hq, hs⟩
    refine ⟨(g.1 : Int), rfl, .of fun _ _ _ => trivial, ?_⟩
    refine (takeEntry_ok b g.2).weak (fun _ _ h => h) ?_
    rintro v R h ⟨rfl, H⟩
    refine ⟨_, _, _, rfl, fun e => ?_, H⟩
    have hll : ll.length ≤ 1000000000 := by have := hs.2.1 hw; omega
    refine (appE a ll.length c ll e (entR g.2).1 hll).conseq ((hq.sep _).trans (.of fun _ _ => HP.sep_tt)) fun v => .of fun R h H => ?_
    obtain ⟨a', c', rfl, H'⟩ := HP.sep_left H
    exact ⟨a', _, c', _, rfl, ⟨(g.1 + 1, (entR g.2).2), ⟨rfl, hi, hw, rfl⟩, rfl, ll ++ [(entR g.2).1], by simp, HP.ent.refl _, hs.next entR_shrinks hi hw⟩, H'⟩
  · rintro g hf p a n c q ⟨rfl, ll, rfl, hq, hs⟩
    have hfin := hs.fin hf
    rw [hfin] at hlist
    refine ⟨g.2.2, rrep_rd b g.2, fun hw => .of fun R h H => ?_, fun hw => ((HP.ent.refl _).sep2 hq).trans (.of fun R h H => ?_)⟩
    · rw [hlist, if_pos hw]
      exact ⟨none, 0, rfl, HP.sep_comm (HP.sep_mono (HP.sep_tt H) (fun _ h => h) fun y _ => OwC.nil _ _ R y)⟩
    · rw [hlist, if_neg hw]
      exact ⟨a, c, rfl, HP.sep_comm H⟩
end Go.Proofs.YtdieogcemmnaaaaGreatDoor

/- What takes a tree's nodes: snap.takeNode, List of nodes. No condition. -/
namespace Go.Proofs.YtdieogcemmnaaaaGreatDoor
set_option linter.unusedSimpArgs false
set_option linter.unusedVariables false
open Go.Proofs.YtdieogcemmnaaaaGreatDoor RX
set_option maxRecDepth 100000

def nodeR (s : RS) : Nd × RS :=
  (⟨(numR s 1).1 % 256, (((numR (numR s 1).2 1).1 % 256 : Nat) : Int), intOf64 (numR (numR (numR s 1).2 1).2 2).1, (bytesR (numR (numR (numR s 1).2 1).2 2).2 512).1, (listR entR 9223372036854775807 (bytesR (numR (numR (numR s 1).2 1).2 2).2 512).2).1⟩,
   (listR entR 9223372036854775807 (bytesR (numR (numR (numR s 1).2 1).2 2).2 512).2).2)
theorem numR_le (s : RS) (n : Nat) : (numR s n).2.1.length ≤ s.1.length := takeR_le s n
theorem bytesR_le (s : RS) (m : Int) : (bytesR s m).2.1.length ≤ s.1.length := Nat.le_trans (takeR_le _ _) (toldR_len s m)
theorem shareE (a : Option Addr) (n c : Nat) (l : List (Nm × Nat)) (hl : l.length = n) : HP.ent (OwE a n c l) (Ls kEnt a n l) := fun R h d H => by
  obtain ⟨R1, h1, q1, q2, q3, q4, H1⟩ := OwC.share _ _ _ _ _ _ R h d H
  exact ⟨R1, h1, q1, q2, q3, q4, hl, H1, fun _ _ => trivial⟩
theorem takeNode_ok (b : Nat) (s : RS) (hL : s.1.length ≤ 1000000000) : Tri Tryz.prog 88 #[.pointer (some ⟨b, 0, none⟩)] (RRep b s)
    (fun v => HP.ex fun x : NodeE => HP.and (v = .agg (nodeVs x).toArray ∧ x.nd = (nodeR s).1) (HP.sep (RoB x.da x.nd.data.length x.nd.data) (HP.sep (Ls kEnt x.ea x.nd.ents.length x.nd.ents) (RRep b (nodeR s).2)))) := by
  refine tri_of_tree (ρ := [.n b, .p (RRep b s)]) mixed Tryz.func88 tree_takeNode ?_
  unfold t_takeNode
  simp only [T.den, E.prop, E.den, RX.look, F1.app, F2.app, Uni.int_i, Uni.nat_n, Uni.bool_c, Uni.str_s, Uni.adr_a, Uni.val_v, Uni.hp_p, hden, cden, V.den, W.den, A.den, BR.den, SA.den, FV.den, capV, exs, exP, allP, Cur.app, List.map_cons, List.map_nil, List.cons_append, List.nil_append, List.drop_succ_cons, List.drop_zero, List.length_cons, List.length_nil, Nat.zero_add, Nat.reduceAdd, Int.neg_neg, Bool.not_not, List.append_nil, Nat.add_zero, List.getElem?_cons_zero, List.getElem?_cons_succ, Decidable.not_not, semW_eq, semW_load, semW_store, semW_storeC, semW_append, semW_lookup, semW_lookupC, semW_update, semW_updateC, semW_updateK, semW_delete, semW_range, semW_next, semW_entry, semW_nil, ne_eq, Nat.reduceEqDiff, not_false_eq_true]
  intro x y
  refine (rByte_ok b s).weak (fun _ _ h => h) ?_
  rintro v R h ⟨rfl, H⟩
  refine ⟨_, _, rfl, ⟨inI64 _ (by omega) (by omega), fun _ => ?_⟩, H⟩
  refine (rByte_ok b _).weak (fun _ _ h => h) ?_
  rintro v R h ⟨rfl, H⟩
  refine ⟨_, _, rfl, ⟨inI64 _ (by omega) (by omega), fun _ => ?_⟩, H⟩
  refine (rNumber_ok b _ 2 (by omega)).weak (fun _ _ h => h) ?_
  rintro v R h ⟨rfl, H⟩
  refine ⟨_, _, rfl, ?_, H⟩
  refine (rBytes_ok b _ 512).weak (fun _ _ h => h) ?_
  rintro v R h ⟨da, dc, rfl, H⟩
  refine ⟨da, _, dc, _, _, rfl, ?_, HP.sep_comm H⟩
  refine (listEntries_ok b _ 9223372036854775807 ?_).weak (fun _ _ h => h) ?_
  · exact Nat.le_trans (bytesR_le _ _) (Nat.le_trans (numR_le _ _) (Nat.le_trans (numR_le _ _) (Nat.le_trans (numR_le _ _) hL)))
  rintro v R h ⟨ea, ec, rfl, H⟩
  refine ⟨ea, _, ec, _, _, rfl, ?_, H⟩
  refine (HP.ent.sep2 (HP.ent.refl _) (HP.ent.sep2 (OwC.share _ _ _ _ _ _) (shareE _ _ _ _ rfl))).trans (.of fun R h H => ?_)
  exact ⟨⟨(nodeR s).1, da, dc, ea, ec⟩, ⟨rfl, rfl⟩, HP.sep_assoc (HP.sep_comm H)⟩
def OwN (a : Option Addr) (n c : Nat) (es : List NodeE) : HP := ⟨fun R h => (OwC 43 5 a n c (es.flatMap nodeVs)).p R h ∧ ∀ x ∈ es, (nodeHp x).p R h,
  fun lR lh ⟨h1, h2⟩ => ⟨(OwC 43 5 a n c (es.flatMap nodeVs)).mono lR lh h1, fun x hx => (nodeHp x).mono lR lh (h2 x hx)⟩⟩
def AllN (es : List NodeE) : HP := ⟨fun R h => ∀ x ∈ es, (nodeHp x).p R h, fun lR lh h2 x hx => (nodeHp x).mono lR lh (h2 x hx)⟩
theorem appN (a : Option Addr) (n c : Nat) (es : List NodeE) (e : Nat) (x : NodeE) (hn : n ≤ 1000000000) :
    OTri Tryz.prog (appS 36 36 (.slice a n c) (.slice (some ⟨e, 0, none⟩) 1 1)) (HP.sep (OwN a n c es) (HP.sep (HP.one e (.cells (nodeVs x).toArray 43 (0, 0))) (HP.sep (RoB x.da x.nd.data.length x.nd.data) (Ls kEnt x.ea x.nd.ents.length x.nd.ents))))
      (fun v => HP.ex fun a' => HP.ex fun c' => HP.and (v = .slice a' (n + 1) c') (HP.sep (OwN a' (n + 1) c' (es ++ [x])) (HP.sep (HP.one e (.cells (nodeVs x).toArray 43 (0, 0))) (HP.sep (RoB x.da x.nd.data.length x.nd.data) (Ls kEnt x.ea x.nd.ents.length x.nd.ents))))) := by
  obtain ⟨i, z, hi, h1, h2, h3, h4⟩ := info_pz infoNd
  have := append_ok 36 36 43 i z undNs hi h1 (by rw [h2, h3]) (by omega) a n c (es.flatMap nodeVs) (HP.one e (.cells (nodeVs x).toArray 43 (0, 0))) ⟨e, 0, none⟩ 1 1 (nodeVs x) (one_rd e (nodeVs x).toArray _) (by rw [h3]; rfl) (kNodeP.one x) (by unfold maxLen; omega) (by rw [h4]; omega)
  rw [h3] at this
  refine this.conseq (K := AllN (es ++ [x])) (.of fun R h H => ?_) fun v => .of fun R h H => ?_
  · obtain ⟨y1, y2, d, l1, l2, hO, ⟨y3, y4, d', l3, l4, hc, hDE⟩⟩ := H
    refine ⟨h, PH.none', PH.dj_none _, PH.le.refl _, PH.none_le _, ⟨y1, y2, d, l1, l2, hO.1, (HP.one _ _).mono (PH.le.refl _) l3 hc⟩, fun z hz => ?_⟩
    rcases List.mem_append.1 hz with hz | hz
    · exact nodeHp_pers _ _ _ _ (hO.2 z hz)
    · obtain rfl := List.mem_singleton.1 hz
      exact nodeHp_pers _ _ y4 _ ⟨HP.sep_left hDE, HP.sep_right hDE⟩
  · have hK := HP.sep_right H
    obtain ⟨a', c', rfl, y1, y2, d, l1, l2, hO, hc⟩ := HP.sep_left H
    have hx := nodeHp_pers _ _ _ PH.none' (hK x (by simp))
    refine ⟨a', c', rfl, y1, y2, d, l1, l2, ⟨by simpa using hO, fun z hz => nodeHp_pers _ _ _ _ (hK z hz)⟩, y2, PH.none', PH.dj_none _, PH.le.refl _, PH.none_le _, hc, PH.none', PH.none', PH.dj_none _, PH.le.refl _, PH.le.refl _, hx.1, hx.2⟩
theorem loopR_false {α : Type} {f : RS → α × RS} {n : Nat} {s : RS} (h : (loopR f n s).2.2 = false) : s.2 = false := by
  cases hs : s.2 with
  | false => rfl
  | true => rw [loopR_end f (.inr hs)] at h; rw [hs] at h; cases h
theorem loopR_le {α : Type} {f : RS → α × RS} (hf : ∀ s, (f s).2.1.length ≤ s.1.length) : ∀ (n : Nat) (s : RS), (loopR f n s).2.1.length ≤ s.1.length
  | 0, s => Nat.le_refl _
  | n + 1, s => by
    unfold loopR
    split
    · exact Nat.le_refl _
    · exact Nat.le_trans (loopR_le hf n _) (hf s)
theorem listR_snd {α : Type} (f : RS → α × RS) (m : Int) (s : RS) : (listR f m s).2 = (loopR f (toldR s m).1 (toldR s m).2).2 := by
  unfold listR; split <;> rfl
theorem entR_le (s : RS) : (entR s).2.1.length ≤ s.1.length := Nat.le_trans (numR_le _ _) (bytesR_le _ _)
theorem listR_le {α : Type} {f : RS → α × RS} (hf : ∀ s, (f s).2.1.length ≤ s.1.length) (m : Int) (s : RS) : (listR f m s).2.1.length ≤ s.1.length := by
  rw [listR_snd]; exact Nat.le_trans (loopR_le hf _ _) (toldR_len s m)
theorem listR_false {α : Type} {f : RS → α × RS} {m : Int} {s : RS} (h : (listR f m s).2.2 = false) : s.2 = false := by
  rw [listR_snd] at h; exact (toldR_false (loopR_false h)).1
theorem nodeR_shrinks : Shrinks nodeR := fun s h => by
  have h5 := listR_false (f := entR) h
  have h4 := (bytesR_false h5).1
  have h3 := (numR_false h4).1
  have h2 := (numR_false h3).1
  have h1 := (numR_false h2).2
  have a1 := listR_le (f := entR) entR_le 9223372036854775807 (bytesR (numR (numR (numR s 1).2 1).2 2).2 512).2
  have a2 := bytesR_le (numR (numR (numR s 1).2 1).2 2).2 512
  have a3 := numR_le (numR (numR s 1).2 1).2 2
  have a4 := numR_le (numR s 1).2 1
  show (listR entR 9223372036854775807 (bytesR (numR (numR (numR s 1).2 1).2 2).2 512).2).2.1.length + 1 ≤ _
  omega
theorem listNodes_ok (b : Nat) (s : RS) (most : Int) (hL : s.1.length ≤ 1000000000) : Tri Tryz.prog 87 #[.pointer (some ⟨b, 0, none⟩), .int .i64 most, .func (.func 88) #[] #[]] (RRep b s)
    (fun v => HP.ex fun a => HP.ex fun c => HP.ex fun es : List NodeE => HP.and (v = .slice a es.length c ∧ es.map (·.nd) = (listR nodeR most s).1) (HP.sep (OwN a es.length c es) (RRep b (listR nodeR most s).2))) := by
  refine tri_of_tree (ρ := [.n b, .p (RRep b s), .i most, .v (.func (.func 88) #[] #[]), .p HP.tt]) mixed Tryz.func87 tree_listNodes ?_
  unfold t_listNodes
  simp only [T.den, E.prop, E.den, RX.look, F1.app, F2.app, Uni.int_i, Uni.nat_n, Uni.bool_c, Uni.str_s, Uni.adr_a, Uni.val_v, Uni.hp_p, hden, cden, V.den, W.den, A.den, BR.den, SA.den, FV.den, capV, exs, exP, allP, Cur.app, List.map_cons, List.map_nil, List.cons_append, List.nil_append, List.drop_succ_cons, List.drop_zero, List.length_cons, List.length_nil, Nat.zero_add, Nat.reduceAdd, Int.neg_neg, Bool.not_not, List.append_nil, Nat.add_zero, List.getElem?_cons_zero, List.getElem?_cons_succ, Decidable.not_not, semW_eq, semW_load, semW_store, semW_storeC, semW_append, semW_lookup, semW_lookupC, semW_update, semW_updateC, semW_updateK, semW_delete, semW_range, semW_next, semW_entry, semW_nil, ne_eq, Nat.reduceEqDiff, not_false_eq_true]
  intro x y
  refine (rTold_ok b s most).weak (fun _ _ h => h) ?_
  rintro v R h ⟨rfl, H⟩
  refine ⟨_, _, rfl, fun z => ?_, H⟩
  refine (turns_ok b _ (RRep b (toldR s most).2)).weak (fun _ _ h => h) ?_
  rintro v R h ⟨nb, rb, rfl, H⟩
  refine ⟨.func (.func 204) #[] #[.pointer (some ⟨nb, 0, none⟩), .pointer (some ⟨rb, 0, none⟩)], TBox nb rb b _, rfl, fun u => ?_, H⟩
  have hn := toldR_lt s most
  have hL1 : (toldR s most).2.1.length ≤ 1000000000 := Nat.le_trans (toldR_len s most) hL
  have hlist : listR nodeR most s = if (loopR nodeR (toldR s most).1 (toldR s most).2).2.2 then ([], (loopR nodeR (toldR s most).1 (toldR s most).2).2) else loopR nodeR (toldR s most).1 (toldR s most).2 := rfl
  generalize hN : (toldR s most).1 = N at *
  generalize hS1 : (toldR s most).2 = s1 at *
  refine ⟨Nat × RS, fun g => RRep b g.2, fun _ _ => HP.tt, mayT N, finT N, (0, s1), fun g p a n c q => p = RRep b g.2 ∧ g.2.1.length ≤ 1000000000 ∧ ∃ es : List NodeE, n = es.length ∧ HP.ent q (OwN a n c es) ∧ Sofar nodeR N s1 g (es.map (·.nd)), turns_seq nb rb b N (by omega) s1, ?_, ?_, ?_, ?_⟩
  · exact ⟨rfl, hL1, [], rfl, .of fun R h _ => ⟨OwC.nil _ _ R h, fun _ h => by cases h⟩, Sofar.init _ _ _⟩
  · rintro g p a n c q ⟨rfl, _⟩; rfl
  · rintro g args ⟨g', rfl, hi, hw, _⟩ p a n c q ⟨rfl, hg, es, rfl, hq, hs⟩
    refine ⟨(g.1 : Int), rfl, .of fun _ _ _ => trivial, ?_⟩
    refine (takeNode_ok b g.2 hg).weak (fun _ _ h => h) ?_
    rintro v R h ⟨x, ⟨rfl, hx⟩, H⟩
    refine ⟨_, _, _, _, _, _, _, _, _, _, _, _, rfl, fun e => ?_, H⟩
    have hll : es.length ≤ 1000000000 := by
      have := hs.2.1 hw
      simp only [List.length_map] at this; omega
    refine (appN a es.length c es e x hll).conseq ((hq.sep _).trans (.of fun _ _ => HP.sep_tt)) fun v => .of fun R h H => ?_
    obtain ⟨a', c', rfl, H'⟩ := HP.sep_left H
    have hnx := hs.next nodeR_shrinks hi hw
    refine ⟨a', _, c', _, rfl, ⟨(g.1 + 1, (nodeR g.2).2), ⟨rfl, hi, hw, rfl⟩, rfl, ?_, es ++ [x], by simp, HP.ent.refl _, by rw [List.map_append, List.map_singleton, hx]; exact hnx⟩, H'⟩
    exact Nat.le_trans (listR_le (f := entR) entR_le _ _) (Nat.le_trans (bytesR_le _ _) (Nat.le_trans (numR_le _ _) (Nat.le_trans (numR_le _ _) (Nat.le_trans (numR_le _ _) hg))))
  · rintro g hf p a n c q ⟨rfl, hg, es, rfl, hq, hs⟩
    have hfin := hs.fin hf
    rw [hfin] at hlist
    refine ⟨g.2.2, rrep_rd b g.2, fun hw => .of fun R h H => ?_, fun hw => ((HP.ent.refl _).sep2 hq).trans (.of fun R h H => ?_)⟩
    · rw [hlist, if_pos hw]
      exact ⟨none, 0, [], ⟨rfl, rfl⟩, HP.sep_comm (HP.sep_mono (HP.sep_tt H) (fun _ h => h) fun y _ => ⟨OwC.nil _ _ R y, fun _ h => by cases h⟩)⟩
    · rw [hlist, if_neg hw]
      exact ⟨a, c, es, ⟨rfl, rfl⟩, HP.sep_comm H⟩
end Go.Proofs.YtdieogcemmnaaaaGreatDoor

/- snap.wholeLinks: files have as many links as there are entries of them. No condition. -/
namespace Go.Proofs.YtdieogcemmnaaaaGreatDoor
set_option linter.unusedSimpArgs false
set_option linter.unusedVariables false
open Go.Proofs.YtdieogcemmnaaaaGreatDoor RX
set_option maxRecDepth 100000

/-! A map that counts. -/
def CM (b : Nat) (f : Int → Int) : HP := HP.ex fun l : AL Int => HP.ex fun c : Nat => HP.and (∀ k, (alFind k l).getD (.int .i64 0) = .int .i64 (f k)) (HP.one b (mapObj i64v l c))
theorem undII : Tryz.prog.underlying 252 = some (.map 3 3) := by kernel_rfl
theorem CM.init {b : Nat} {R h : PH} (H : (HP.one b (.map #[] 0)).p R h) : (CM b fun _ => 0).p R h := ⟨[], 0, fun _ => rfl, H⟩
theorem cm_look (b : Nat) (f : Int → Int) (k : Int) : ORead Tryz.prog (lookS 252 (.map (some b)) (.int .i64 k) false) (CM b f) (.int .i64 (f k)) := fun w R h F s ⟨l, c, hk, hh⟩ => by
  obtain ⟨i, hi, z1, _, _⟩ := info_parts infoInt
  have := look_ok (c := c) (l := l) kInt' undII hi z1 k false (r := b) (A := HP.one b (mapObj i64v l c)) (fun R h H => H) w R h F s hh
  rw [if_neg (by simp), hk k] at this
  exact this
theorem cm_upd (b : Nat) (f : Int → Int) (k v : Int) : OTri Tryz.prog (updS 252 (.map (some b)) (.int .i64 k) (.int .i64 v)) (CM b f) (fun x => HP.and (x = .tuple #[]) (CM b fun q => if q = k then v else f q)) := by
  refine (OTri.exI fun l => OTri.exI fun c => OTri.pureI fun hk => ?_)
  refine (upd_ok (c := c) (l := l) kInt' undII k (.int .i64 v) (r := b)).weak (fun _ _ h => h) ?_
  rintro x R h ⟨rfl, H⟩
  refine ⟨rfl, _, _, fun q => ?_, H⟩
  rw [alFind_put]
  by_cases e : q = k
  · rw [if_pos e]; simp [e]
  · rw [if_neg e]; simp only [if_neg e]; exact hk q
/-! The plain form. -/
def cntL (L : List (Nm × Nat)) (q : Int) : Int := ((L.countP fun e => decide ((e.2 : Int) = q) : Nat) : Int)
def wl1 (T1 : List Nd) (n : Nd) : Nd := if n.kind = 2 ∧ cntL (T1.flatMap (·.ents)) n.num % 65536 = n.links then { n with links := cntL (T1.flatMap (·.ents)) n.num } else n
def wlS (T1 : List Nd) : List Nd := T1.map (wl1 T1)
theorem cntL_snoc (L : List (Nm × Nat)) (e : Nm × Nat) : cntL (L ++ [e]) = fun q => if q = (e.2 : Int) then cntL L e.2 + 1 else cntL L q := by
  funext q
  unfold cntL
  rw [List.countP_append]
  by_cases h : q = (e.2 : Int)
  · subst h; simp
  · rw [if_neg h]; simp [Ne.symm h]
theorem cntL_le (L : List (Nm × Nat)) (q : Int) : 0 ≤ cntL L q ∧ cntL L q ≤ L.length := by
  unfold cntL
  have := List.countP_le_length (p := fun e : Nm × Nat => decide ((e.2 : Int) = q)) (l := L)
  omega
/-! Loads through rows of nodes of one's own. -/
theorem ldNodeO {a : Option Addr} {n c k : Nat} {es : List NodeE} {x : NodeE} (hk : es[k]? = some x) : ORead Tryz.prog (loadS 43 (.pointer (a.map fun y => (y.add (k * 5)).add 0))) (OwN a n c es) (.agg (nodeVs x).toArray) := fun w R h F s H => by
  refine loadN_ok (vs := nodeVs x) Tryz.underlying43 aggNo (OwC.rd 43 5 a n c (es.flatMap nodeVs)) (k := k * 5) (off := 0) szNo (Nat.succ_pos 4) (fun j v hj => ?_) w R h F s H.1
  have hlt : j < 5 := by have := (List.getElem?_eq_some_iff.1 hj).1; exact this
  rw [Nat.add_zero, flat_getL nodeVs 5 (fun _ => rfl) es k j x hk hlt]
  exact hj
theorem ldEntO {a : Option Addr} {n c k : Nat} {es : List NodeE} {x : NodeE} (hx : x ∈ es) {e : Nm × Nat} (hk : x.nd.ents[k]? = some e) : ORead Tryz.prog (loadS 140 (.pointer (x.ea.map fun y => (y.add (k * 2)).add 0))) (OwN a n c es) (.agg #[sE e.1, .int .i64 e.2]) := fun w R h F s H =>
  Ls.load (K := kEnt) Tryz.underlying140 aggEn szEn hk w R h F s (H.2 x hx).2
def setLk (x : NodeE) (v : Int) : NodeE := { x with nd := { x.nd with links := v } }
theorem set_same {α : Type} : ∀ (l : List α) (k : Nat) (x : α), l[k]? = some x → l.set k x = l
  | [], _, _, h => by cases h
  | y :: r, 0, x, h => by simp at h; subst h; rfl
  | y :: r, k + 1, x, h => by rw [List.set_cons_succ, set_same r k x (by simpa using h)]
theorem flat_lk (v : Int) (x : NodeE) : ∀ (es : List NodeE) (k : Nat), es[k]? = some x → (es.flatMap nodeVs).take (k * 5 + 2) ++ [.int .i64 v] ++ (es.flatMap nodeVs).drop (k * 5 + 2 + 1) = (es.set k (setLk x v)).flatMap nodeVs
  | [], _, h => by cases h
  | y :: r, 0, h => by
    simp at h; subst h
    simp [nodeVs, setLk]
  | y :: r, k + 1, h => by
    have ih := flat_lk v x r k (by simpa using h)
    have e1 : (k + 1) * 5 + 2 = (k * 5 + 2) + 1 + 1 + 1 + 1 + 1 := by omega
    rw [e1]
    simp only [List.flatMap_cons, List.set_cons_succ, nodeVs, List.cons_append, List.nil_append, List.take_succ_cons, List.drop_succ_cons]
    rw [← ih]
theorem stO {a : Option Addr} {n c k : Nat} {es : List NodeE} {x : NodeE} (hk : es[k]? = some x) (hn : es.length = n) (v : Int) : OTri Tryz.prog (storeS 3 (.pointer (a.map fun y => (y.add (k * 5)).add 2)) (.int .i64 v)) (OwN a n c es)
    (fun r => HP.and (r = .tuple #[]) (OwN a n c (es.set k (setLk x v)))) := by
  obtain ⟨i, hi, z1, z2, _⟩ := info_parts infoInt
  have hlt := (List.getElem?_eq_some_iff.1 hk).1
  have := store_ok hi 43 5 a n c (es.flatMap nodeVs) (k * 5) 2 (.int .i64 v) [.int .i64 v] rfl (by rw [z2]; rfl) (Nat.succ_pos 0) (fun u hu => by simp at hu; subst hu; rfl) (by simp; omega)
  refine this.conseq (K := AllN es) (.of fun R h H => ⟨h, PH.none', PH.dj_none _, PH.le.refl _, PH.none_le _, H.1, fun z hz => nodeHp_pers _ _ _ _ (H.2 z hz)⟩) fun r => .of fun R h H => ?_
  have hK := HP.sep_right H
  obtain ⟨rfl, H1⟩ := HP.sep_left H
  refine ⟨rfl, ?_, fun z hz => ?_⟩
  · rw [← flat_lk v x es k hk]; exact H1
  · rcases List.mem_or_eq_of_mem_set hz with h | h
    · exact hK z h
    · subst h
      have := hK x (List.mem_of_getElem? hk)
      exact this
def updN (T1 : List Nd) (x : NodeE) : NodeE := { x with nd := wl1 T1 x.nd }
theorem wholeLinks_ok (a : Option Addr) (c : Nat) (es : List NodeE) (hT : ((es.map (·.nd)).flatMap (·.ents)).length ≤ 1000000000000) (hn : es.length ≤ 1000000000) :
    Tri Tryz.prog 90 #[.slice a es.length c] (OwN a es.length c es) (fun v => HP.and (v = .tuple #[]) (HP.ex fun es' : List NodeE => HP.and (es'.map (·.nd) = wlS (es.map (·.nd)) ∧ es'.length = es.length) (OwN a es.length c es'))) := by
  refine Tri.fact (φ := (es.length ≠ 0 → a.isSome = true) ∧ ∀ x ∈ es, x.nd.ents.length ≠ 0 → x.ea.isSome = true) (fun R h H => ⟨fun hn => OwC.some H.1 (by omega), fun x hx hn => Ls.isSome (H.2 x hx).2 hn⟩) fun ⟨ha, hea⟩ => ?_
  refine tri_of_tree (ρ := [.a a, .n es.length, .n c, .p (OwN a es.length c es)]) mixed Tryz.func90 tree_wholeLinks ?_
  unfold t_wholeLinks
  simp only [T.den, E.prop, E.den, RX.look, F1.app, F2.app, Uni.int_i, Uni.nat_n, Uni.bool_c, Uni.str_s, Uni.adr_a, Uni.val_v, Uni.hp_p, hden, cden, V.den, W.den, A.den, BR.den, SA.den, FV.den, capV, exs, exP, allP, Cur.app, List.map_cons, List.map_nil, List.cons_append, List.nil_append, List.drop_succ_cons, List.drop_zero, List.length_cons, List.length_nil, Nat.zero_add, Nat.reduceAdd, Int.neg_neg, Bool.not_not, List.append_nil, Nat.add_zero, List.getElem?_cons_zero, List.getElem?_cons_succ, Decidable.not_not, semW_eq, semW_load, semW_store, semW_storeC, semW_append, semW_lookup, semW_lookupC, semW_update, semW_updateC, semW_updateK, semW_delete, semW_range, semW_next, semW_entry, semW_nil, ne_eq, Nat.reduceEqDiff, not_false_eq_true]
  intro b
  refine ⟨fun k p => ∃ j : Nat, k = j ∧ j ≤ es.length ∧ HP.ent p (CM b (cntL (((es.map (·.nd)).take j).flatMap (·.ents)))), fun k _ => es.length - k.toNat, ⟨0, rfl, Nat.zero_le _, .of fun R h H => CM.init H⟩, ?_⟩
  rintro k p ⟨j, rfl, hj, hp⟩
  refine ⟨fun hlt => ⟨by omega, fun _ => ⟨ha (by omega), fun _ => ?_⟩⟩, fun hge => ?_⟩
  · have hlt' : j < es.length := by omega
    have hltm : j < (es.map (·.nd)).length := by simpa using hlt'
    have hg : (es.map (·.nd))[j] = es[j].nd := by simp
    have hm := List.getElem_mem hlt'
    refine ⟨_, _, _, _, _, _, _, _, _, ldNodeO (List.getElem?_eq_getElem hlt'), fun y => ?_⟩
    have hfl := take_flat (fun n : Nd => n.ents) (es.map (·.nd)) j hltm
    have hle := take_flat_le (fun n : Nd => n.ents) (es.map (·.nd)) (j + 1)
    rw [hfl, hg, List.length_append] at hle
    rw [hg] at hfl
    refine ⟨fun k p => ∃ i : Nat, k = i ∧ i ≤ es[j].nd.ents.length ∧ HP.ent p (CM b (cntL (((es.map (·.nd)).take j).flatMap (·.ents) ++ es[j].nd.ents.take i))), fun k _ => es[j].nd.ents.length - k.toNat, ⟨0, rfl, Nat.zero_le _, by simpa using hp⟩, ?_⟩
    rintro k p ⟨i, rfl, hi, hp⟩
    refine ⟨fun hlt2 => ⟨by omega, fun _ => ⟨hea _ hm (by omega), fun _ => ?_⟩⟩, fun hge2 => ?_⟩
    · have hlt2' : i < es[j].nd.ents.length := by omega
      refine ⟨es[j].nd.ents[i].1, (es[j].nd.ents[i].2 : Int), ldEntO hm (List.getElem?_eq_getElem hlt2'), fun z => ?_⟩
      have hc := cntL_le (((es.map (·.nd)).take j).flatMap (·.ents) ++ es[j].nd.ents.take i) es[j].nd.ents[i].2
      have hlen : (((es.map (·.nd)).take j).flatMap (·.ents) ++ es[j].nd.ents.take i).length ≤ 1000000000000 := by
        rw [List.length_append, List.length_take]; omega
      refine ⟨_, (cm_look b _ _).ent hp, inI64 _ (by omega) (by omega), fun _ => ?_⟩
      refine (cm_upd b _ es[j].nd.ents[i].2 (cntL (((es.map (·.nd)).take j).flatMap (·.ents) ++ es[j].nd.ents.take i) es[j].nd.ents[i].2 + 1)).conseq (hp.trans (.of fun _ _ => HP.sep_tt)) fun v => .of fun R h H => ?_
      obtain ⟨rfl, H1⟩ := HP.sep_left H
      refine ⟨_, rfl, ⟨inI64 _ (by omega) (by omega), fun _ => ⟨⟨i + 1, by omega, by omega, ?_⟩, by dsimp only; omega⟩⟩, H1⟩
      rw [List.take_succ_eq_append_getElem hlt2', ← List.append_assoc, cntL_snoc]
      exact HP.ent.refl _
    · obtain rfl : i = es[j].nd.ents.length := by omega
      refine ⟨inI64 _ (by omega) (by omega), fun _ => ⟨⟨j + 1, by omega, by omega, ?_⟩, by dsimp only; omega⟩⟩
      rw [hfl]
      rw [List.take_length] at hp
      exact hp
  · obtain rfl : j = es.length := by omega
    have e0 : (es.map (·.nd)).take es.length = es.map (·.nd) := List.take_of_length_le (by simp)
    rw [e0] at hp
    refine ⟨fun k q => ∃ j : Nat, k = j ∧ j ≤ es.length ∧ HP.ent q (OwN a es.length c ((es.map (updN (es.map (·.nd)))).take j ++ es.drop j)), fun k _ => es.length - k.toNat, ⟨0, rfl, Nat.zero_le _, by simpa using HP.ent.refl _⟩, ?_⟩
    rintro k q ⟨j, rfl, hj, hq⟩
    refine ⟨fun hlt => ⟨by omega, fun _ => ⟨ha (by omega), fun _ => ?_⟩⟩, fun hge => ?_⟩
    · have hlt' : j < es.length := by omega
      have hlm : ((es.map (updN (es.map (·.nd)))).take j).length = j := by rw [List.length_take, List.length_map]; omega
      have hget : ((es.map (updN (es.map (·.nd)))).take j ++ es.drop j)[j]? = some es[j] := by
        rw [List.getElem?_append_right (by omega), hlm, Nat.sub_self, List.getElem?_drop, Nat.add_zero, List.getElem?_eq_getElem hlt']
      have hall : ((es.map (updN (es.map (·.nd)))).take j ++ es.drop j).length = es.length := by rw [List.length_append, hlm, List.length_drop]; omega
      have hnext : ∀ y : NodeE, y = updN (es.map (·.nd)) es[j] → ((es.map (updN (es.map (·.nd)))).take j ++ es.drop j).set j y = (es.map (updN (es.map (·.nd)))).take (j + 1) ++ es.drop (j + 1) := fun y hy => by
        rw [List.set_append_right _ _ (by omega), hlm, Nat.sub_self, List.drop_eq_getElem_cons hlt', List.set_cons_zero, List.take_succ_eq_append_getElem (by simpa using hlt'), List.append_assoc, hy]
        simp
      have hstay : wl1 (es.map (·.nd)) es[j].nd = es[j].nd → (es.map (updN (es.map (·.nd)))).take j ++ es.drop j = (es.map (updN (es.map (·.nd)))).take (j + 1) ++ es.drop (j + 1) := fun hw => by
        rw [← hnext es[j] (by unfold updN; rw [hw])]
        exact (set_same _ _ _ hget).symm
      refine ⟨_, _, _, _, _, _, _, _, _, (ldNodeO hget).ent hq, fun y => ?_⟩
      have again : wl1 (es.map (·.nd)) es[j].nd = es[j].nd → ∃ j' : Nat, (j : Int) + 1 = j' ∧ j' ≤ es.length ∧ HP.ent q (OwN a es.length c ((es.map (updN (es.map (·.nd)))).take j' ++ es.drop j')) := fun hw => ⟨j + 1, by omega, by omega, by rw [← hstay hw]; exact hq⟩
      refine ⟨fun hk => ⟨_, (cm_look b _ _).ent hp, fun he => ⟨_, (cm_look b _ _).ent hp, ?_⟩, fun he => ⟨inI64 _ (by omega) (by omega), fun _ => ⟨again ?_, by dsimp only; omega⟩⟩⟩, fun hk => ⟨inI64 _ (by omega) (by omega), fun _ => ⟨again ?_, by dsimp only; omega⟩⟩⟩
      · rw [andffff] at he
        refine (stO hget hall _).conseq (hq.trans (.of fun _ _ => HP.sep_tt)) fun v => .of fun R h H => ?_
        obtain ⟨rfl, H1⟩ := HP.sep_left H
        refine ⟨_, rfl, ⟨inI64 _ (by omega) (by omega), fun _ => ⟨⟨j + 1, by omega, by omega, ?_⟩, by dsimp only; omega⟩⟩, H1⟩
        rw [hnext _ (by unfold updN setLk wl1; rw [if_pos ⟨hk, he⟩])]
        exact HP.ent.refl _
      · rw [andffff] at he
        unfold wl1; rw [if_neg (fun h => he h.2)]
      · unfold wl1; rw [if_neg (fun h => hk h.1)]
    · obtain rfl : j = es.length := by omega
      refine hq.trans (.of fun R h H => ⟨trivial, es.map (updN (es.map (·.nd))), ⟨?_, by simp⟩, ?_⟩)
      · rw [List.map_map]; unfold wlS; rw [List.map_map]; rfl
      · rw [List.take_of_length_le (by simp), List.drop_length, List.append_nil] at H; exact H
end Go.Proofs.YtdieogcemmnaaaaGreatDoor

/- Trees of functions, printed by rx.lean. No condition. -/
namespace Go.Proofs.YtdieogcemmnaaaaGreatDoor.RX
set_option maxRecDepth 100000
-- tideline/tidelinelaw04.speaks: ρ := []
def t_speaks04 : T :=
(.call 17 [] [] [.n, .p] (.w (.a (.ptr (.v 0) 0))) [((.b (.v 0)), (.prop 1))]
(.call 18 [(.a (.ptr (.v 0) 0)), (.agg [(.int .i64 (.i 1)), (.str (.s [47, 97])), (.str (.s [])), (.int .i64 (.i 0)), (.int .i64 (.i 0)), (.sl .nil (.n 0) (.n 0))])] [((.b (.v 0)), (.prop 1))] [.i, .i, .i, .i, .a, .n, .n, .p, .a, .n, .n, .p, .p] (.w (.agg [(.int .i64 (.v 2)), (.int .i64 (.v 3)), (.int .i64 (.v 4)), (.int .i64 (.v 5)), (.sl (.v 6) (.v 7) (.v 8)), (.sl (.v 10) (.v 11) (.v 12))])) [((.a 6), (.prop 9)), ((.a 10), (.prop 13)), ((.b (.v 0)), (.prop 14))]
(.new
(.call 18 [(.a (.ptr (.v 0) 0)), (.agg [(.int .i64 (.i 3)), (.str (.s [47, 97, 47, 98])), (.str (.s [])), (.int .i64 (.i 0)), (.int .i64 (.i 0)), (.sl .nil (.n 0) (.n 0))])] [((.b (.v 0)), (.prop 14))] [.i, .i, .i, .i, .a, .n, .n, .p, .a, .n, .n, .p, .p] (.w (.agg [(.int .i64 (.v 16)), (.int .i64 (.v 17)), (.int .i64 (.v 18)), (.int .i64 (.v 19)), (.sl (.v 20) (.v 21) (.v 22)), (.sl (.v 24) (.v 25) (.v 26))])) [((.a 20), (.prop 23)), ((.a 24), (.prop 27)), ((.b (.v 0)), (.prop 28))]
(.new
(.call 18 [(.a (.ptr (.v 0) 0)), (.agg [(.int .i64 (.i 6)), (.str (.s [47, 97])), (.str (.s [47, 97, 47, 99])), (.int .i64 (.i 0)), (.int .i64 (.i 0)), (.sl .nil (.n 0) (.n 0))])] [((.b (.v 0)), (.prop 28))] [.i, .i, .i, .i, .a, .n, .n, .p, .a, .n, .n, .p, .p] (.w (.agg [(.int .i64 (.v 30)), (.int .i64 (.v 31)), (.int .i64 (.v 32)), (.int .i64 (.v 33)), (.sl (.v 34) (.v 35) (.v 36)), (.sl (.v 38) (.v 39) (.v 40))])) [((.a 34), (.prop 37)), ((.a 38), (.prop 41)), ((.b (.v 0)), (.prop 42))]
(.new
(.br (.o2 .eq (.v 2) (.i 0))
 (.br (.o2 .eq (.v 16) (.i 0))
  (.br (.o2 .eq (.v 30) (.i 26))
   (.call 19 [(.a (.ptr (.v 0) 0))] [((.b (.v 0)), (.prop 42))] [.a, .n, .n, .p] (.w (.a (.sl (.v 44) (.v 45) (.v 46)))) [((.a 44), (.prop 47)), ((.b (.v 0)), (.prop 42))]
   (.ret (.w (.a (.bool (.o2 .eq (.o1 .ofNat (.v 45)) (.i 3))))) []))
   (.ret (.w (.a (.bool (.c false)))) []))
  (.ret (.w (.a (.bool (.c false)))) []))
 (.ret (.w (.a (.bool (.c false)))) [])))))))))
theorem tree_speaks04 : tree Tryz.prog { absT := [], opq := [], hv := [], keep := [19, 25, 21, 20, 26, 16], link := [], ent := [], turn := [(18, [0])], shr := [], vt := [], mkd := [], rlink := [], pty := [], outl := false, stay := [], snk := [], rdf := true } Tryz.f15 [] [] 0 = t_speaks04 := by kernel_rfl
-- tideline/tidelinelaw04.Great: ρ := [.a callsa, .n callsl, .n callsc, .p callsP]
def t_great04 : T :=
(.br (.o2 .lt (.i 120) (.o1 .ofNat (.v 1)))
 (.ret (.w (.a (.bool (.c true)))) [((.a 0), (.prop 3))])
 (.loop [.c, .i] [(.e (.o1 .not (.o1 .not (.c false)))), (.e (.o1 .neg (.o1 .neg (.i 0))))]
  (.br (.o2 .lt (.v 5) (.o1 .ofNat (.v 1)))
   (.need (.o2 .le (.i 0) (.v 5))
   (.need (.o1 .isSome (.v 0))
   (.read (.load 34 (.tmp 12)) 34 [(12, (.w (.a (.eptr 0 (.v 5) 6 0))))] [((.a 0), (.prop 3))] [.i, .s, .s, .i, .i, .a, .n, .n] (.w (.agg [(.int .i64 (.v 6)), (.str (.v 7)), (.str (.v 8)), (.int .i64 (.v 9)), (.int .i64 (.v 10)), (.sl (.v 11) (.v 12) (.v 13))]))
   (.new
   (.br (.o2 .lt (.i 300) (.o1 .ofNat (.o1 .size (.v 7))))
    (.ret (.w (.a (.bool (.c true)))) [((.a 0), (.prop 3))])
    (.br (.o2 .lt (.i 300) (.o1 .ofNat (.o1 .size (.v 8))))
     (.ret (.w (.a (.bool (.c true)))) [((.a 0), (.prop 3))])
     (.br (.o2 .lt (.i 600) (.o1 .ofNat (.v 12)))
      (.ret (.w (.a (.bool (.c true)))) [((.a 0), (.prop 3))])
      (.need (.o1 (.inr .i64) (.o2 .add (.v 5) (.i 1)))
      (.again 0 [(.e (.o1 .not (.o1 .not (.v 4)))), (.e (.o1 .neg (.o1 .neg (.o2 .add (.v 5) (.i 1)))))])))))))))
   (.ret (.w (.a (.bool (.c false)))) [((.a 0), (.prop 3))]))))
theorem tree_great04 : tree Tryz.prog { absT := [], opq := [], hv := [], keep := [19, 25, 21, 20, 26, 16], link := [], ent := [], turn := [(18, [0])], shr := [], vt := [], mkd := [], rlink := [], pty := [], outl := false, stay := [], snk := [], rdf := true } Tryz.f16 [(.a (.sl (.v 0) (.v 1) (.v 2)))] [((.a 0), (.prop 3))] 4 = t_great04 := by kernel_rfl
-- tideline/tidelinelaw04.TreeCounts: ρ := [.a callsa, .n callsl, .n callsc, .p callsP]
end Go.Proofs.YtdieogcemmnaaaaGreatDoor.RX

/- Types that came in. No condition. -/
namespace Go.Proofs.YtdieogcemmnaaaaGreatDoor
open Go.RowKit Go.ChangeShapes Go.WideShapes Go.Deep RX
set_option maxRecDepth 100000
set_option linter.unusedVariables false
set_option linter.unusedSimpArgs false

structure CallE where
  kind : Int
  path : List UInt8
  other : List UInt8
  off : Int
  n : Int
  data : List UInt8
  da : Option Addr
  dc : Nat
abbrev CallE.vals (x : CallE) : List Value := [.int .i64 x.kind, .string ⟨x.path.toArray⟩, .string ⟨x.other.toArray⟩, .int .i64 x.off, .int .i64 x.n, .slice x.da x.data.length x.dc]
def CallE.hp (x : CallE) : HP := HP.both (HP.pure (okI x.kind)) (HP.both (HP.pure (x.path.length ≤ 9223372036854775807)) (HP.both (HP.pure (x.other.length ≤ 9223372036854775807)) (HP.both (HP.pure (okI x.off)) (HP.both (HP.pure (okI x.n)) (HP.and (x.data.length ≤ 140737488355328) (RoB x.da x.data.length x.data))))))
theorem CallE.pers (x : CallE) (R h h' : PH) (H : (x.hp).p R h) : (x.hp).p R h' := ⟨H.1, ⟨H.2.1, ⟨H.2.2.1, ⟨H.2.2.2.1, ⟨H.2.2.2.2.1, H.2.2.2.2.2⟩⟩⟩⟩⟩
instance : Inhabited CallE := ⟨⟨0, [], [], 0, 0, [], none, 0⟩⟩
def kCallE : Kind CallE := ⟨6, by decide, CallE.vals, fun _ => rfl, CallE.hp, CallE.pers⟩
theorem CallE.of_trod {H : Type} {enc : TypeId × Value → H} {w : World} {cs : List Value} {n : Nat} {x : DataW H × List MemPlace} (h : DataW.trod enc Tryz.prog w 0 (fun _ => true) true n 34 cs = some x) (hs : Small Tryz.prog 34 x.1) : ∃ m : CallE, cs = kCallE.vals m ∧ ∀ h, (kCallE.hp m).p (allOf w) h := by
  obtain ⟨xs0, n0, _, hx0, hl0, hxl0, hf0⟩ := DataW.trod_struct Tryz.underlying34 h
  replace hxl0 : xs0.length = 6 := hxl0
  have hs0 : Small Tryz.prog 34 (.agg (xs0.map (·.1))) := by
    have e := hx0
    first | (subst e; exact hs) | (rw [e] at hs; exact hs) | (have e2 := congrArg Prod.fst e; rw [← e2]; exact hs) | (rw [← e]; exact hs)
  obtain ⟨c0, e0, w0⟩ := field_int Tryz.underlying3 (show 0 < xs0.length by omega) (by kernel_rfl) (hf0 0 _ rfl)
  obtain ⟨c1, e1, w1⟩ := field_str Tryz.underlying9 (show 1 < xs0.length by omega) (by kernel_rfl) (hf0 1 _ rfl)
  obtain ⟨c2, e2, w2⟩ := field_str Tryz.underlying9 (show 2 < xs0.length by omega) (by kernel_rfl) (hf0 2 _ rfl)
  obtain ⟨c3, e3, w3⟩ := field_int Tryz.underlying3 (show 3 < xs0.length by omega) (by kernel_rfl) (hf0 3 _ rfl)
  obtain ⟨c4, e4, w4⟩ := field_int Tryz.underlying3 (show 4 < xs0.length by omega) (by kernel_rfl) (hf0 4 _ rfl)
  obtain ⟨a5, l5, k5, e5⟩ := field_slice Tryz.underlying28 (show 5 < xs0.length by omega) (by kernel_rfl) (hf0 5 _ rfl)
  have q5 := hf0 5 _ rfl
  rw [List.getElem?_eq_getElem (show 5 < xs0.length by omega)] at q5
  have g5 : DataW.trod enc Tryz.prog w 0 (fun _ => true) true n0 28 [.slice a5 l5 k5] = some xs0[5] := by
    rw [← take1' e5]
    exact q5
  have s5 : Small Tryz.prog 28 xs0[5].1 := Small.part (i := 5) hs0 Tryz.underlying34 rfl (by rw [List.getElem?_map, List.getElem?_eq_getElem (show 5 < xs0.length by omega)]; rfl)
  obtain ⟨b5, d5, m5, r5, y5, z5⟩ := bytes_of_trod g5 s5
  simp only [Value.slice.injEq] at r5
  obtain ⟨rfl, rfl, rfl⟩ := r5
  have hlen : cs.length = 6 := hl0.trans (by kernel_rfl)
  refine ⟨⟨c0, c1, c2, c3, c4, d5, a5, k5⟩, ?_, fun hh => ⟨int_wf w0, ⟨w1, ⟨w2, ⟨int_wf w3, ⟨int_wf w4, ⟨y5, z5 hh⟩⟩⟩⟩⟩⟩⟩
  clear h hl0 hf0 q5 g5 s5
  revert e0 e1 e2 e3 e4 e5
  match cs, hlen with
  | [u0, u1, u2, u3, u4, u5], _ =>
    intro e0
    obtain rfl : u0 = .int _ c0 := Option.some.inj e0
    intro e1
    obtain rfl : u1 = .string ⟨c1.toArray⟩ := Option.some.inj e1
    intro e2
    obtain rfl : u2 = .string ⟨c2.toArray⟩ := Option.some.inj e2
    intro e3
    obtain rfl : u3 = .int _ c3 := Option.some.inj e3
    intro e4
    obtain rfl : u4 = .int _ c4 := Option.some.inj e4
    intro e5
    obtain rfl : u5 = .slice a5 d5.length k5 := Option.some.inj e5
    rfl
theorem CallE.load {a : Option Addr} {n : Nat} {l : List CallE} {k : Nat} {x : CallE} (hk : l[k]? = some x) : ORead Tryz.prog (loadS 34 (.pointer (a.map fun y => (y.add ((k : Int).toNat * 6)).add 0))) (Ls kCallE a n l) (.agg x.vals.toArray) := by
  obtain ⟨d, hd⟩ : ∃ d, Tryz.prog.underlying 34 = some d := Option.isSome_iff_exists.1 (by kernel_rfl)
  exact Ls.load (K := kCallE) hd (by kernel_rfl) (by kernel_rfl) hk

end Go.Proofs.YtdieogcemmnaaaaGreatDoor

/- Law 4: calls as they come in; Do as laws call it; speaks, Great. No condition. -/
namespace Go.Proofs.YtdieogcemmnaaaaGreatDoor
set_option linter.unusedSimpArgs false
set_option linter.unusedVariables false
open Go.Proofs.YtdieogcemmnaaaaGreatDoor RX
set_option maxRecDepth 100000

abbrev kCall : Kind CallE := kCallE
abbrev callVs (x : CallE) : List Value := x.vals
def CallE.m (x : CallE) : CallM := ⟨x.kind, x.path, x.other, x.off, x.n, x.da, x.data.length, x.dc⟩
def dataAt (L : List CallE) : Prop := ∀ x ∈ L, x.data.length ≠ 0 → x.da.isSome = true
theorem dataAt_of {a : Option Addr} {n : Nat} {L : List CallE} {R h : PH} (H : (Ls kCall a n L).p R h) : dataAt L := fun x hx hd => RoC.some (H.2.2 x hx).2.2.2.2.2.2 (by omega)
theorem callD_of {a : Option Addr} {n : Nat} {L : List CallE} (hL : dataAt L) {x : CallE} (hx : x ∈ L) : CallD x.m (Ls kCall a n L) x.data where
  rd := ⟨Rd.impR (RdL.ro 1 x.da x.data.length (x.data.map u8v)).rd fun R h H => (H.2.2 x hx).2.2.2.2.2.2, fun R h H e => (RdL.ro 1 x.da x.data.length (x.data.map u8v)).none R h (H.2.2 x hx).2.2.2.2.2.2 e⟩
  len := rfl
  some' := hL x hx
variable {b : Nat} {t : TS}
def doC (T : List Nd) (c : CallM) (d : List UInt8) : List Nd × AnsM := doS T c.kind c.path c.other c.off c.n d
theorem doL {B : Nat} (hB : B ≤ 100000) (wf : TWf B t.pub) (c : CallM) (S : HP) (d : List UInt8) (hd : CallD c S d) {K : Int → Int → Int → Int → Option Addr → Nat → Nat → HP → Option Addr → Nat → Nat → HP → HP → Prop}
    (hK : ∀ t' da dc na nc, t'.pub = (doC t.pub c d).1 → K (doC t.pub c d).2.err (doC t.pub c d).2.kind (doC t.pub c d).2.size (doC t.pub c d).2.links da (doC t.pub c d).2.data.length dc (OwB da (doC t.pub c d).2.data.length dc (doC t.pub c d).2.data) na (doC t.pub c d).2.names.length nc (OwS na (doC t.pub c d).2.names.length nc (doC t.pub c d).2.names) (TRep b t')) :
    Tri Tryz.prog 18 #[.pointer (some ⟨b, 0, none⟩), c.val] (HP.sep (TRep b t) S) (fun v => HP.ex fun e : Int => HP.ex fun k : Int => HP.ex fun s : Int => HP.ex fun l : Int => HP.ex fun da : Option Addr => HP.ex fun dl : Nat => HP.ex fun dc : Nat => HP.ex fun dP : HP => HP.ex fun na : Option Addr => HP.ex fun nl : Nat => HP.ex fun nc : Nat => HP.ex fun nP : HP => HP.ex fun tP : HP =>
      HP.and (v = .agg #[.int .i64 e, .int .i64 k, .int .i64 s, .int .i64 l, .slice da dl dc, .slice na nl nc]) (HP.and (K e k s l da dl dc dP na nl nc nP tP) (HP.sep dP (HP.sep nP (HP.sep tP S))))) := by
  refine (tDo_ok hB wf c S d hd).weak (fun _ _ h => h) ?_
  rintro v R h ⟨t', ht, da, dc, na, nc, rfl, H⟩
  exact ⟨_, _, _, _, da, _, dc, _, na, _, nc, _, _, rfl, hK t' da dc na nc ht, H⟩
theorem doL0 {B : Nat} (hB : B ≤ 100000) (wf : TWf B t.pub) (kind : Int) (path other : Nm) (off n : Int) {K : Int → Int → Int → Int → Option Addr → Nat → Nat → HP → Option Addr → Nat → Nat → HP → HP → Prop}
    (hK : ∀ t' da dc na nc, t'.pub = (doS t.pub kind path other off n []).1 → K (doS t.pub kind path other off n []).2.err (doS t.pub kind path other off n []).2.kind (doS t.pub kind path other off n []).2.size (doS t.pub kind path other off n []).2.links da (doS t.pub kind path other off n []).2.data.length dc (OwB da (doS t.pub kind path other off n []).2.data.length dc (doS t.pub kind path other off n []).2.data) na (doS t.pub kind path other off n []).2.names.length nc (OwS na (doS t.pub kind path other off n []).2.names.length nc (doS t.pub kind path other off n []).2.names) (TRep b t')) :
    Tri Tryz.prog 18 #[.pointer (some ⟨b, 0, none⟩), .agg #[.int .i64 kind, sE path, sE other, .int .i64 off, .int .i64 n, .slice none 0 0]] (TRep b t) (fun v => HP.ex fun e : Int => HP.ex fun k : Int => HP.ex fun s : Int => HP.ex fun l : Int => HP.ex fun da : Option Addr => HP.ex fun dl : Nat => HP.ex fun dc : Nat => HP.ex fun dP : HP => HP.ex fun na : Option Addr => HP.ex fun nl : Nat => HP.ex fun nc : Nat => HP.ex fun nP : HP => HP.ex fun tP : HP =>
      HP.and (v = .agg #[.int .i64 e, .int .i64 k, .int .i64 s, .int .i64 l, .slice da dl dc, .slice na nl nc]) (HP.and (K e k s l da dl dc dP na nl nc nP tP) (HP.sep dP (HP.sep nP tP)))) := by
  have hd : CallD ⟨kind, path, other, off, n, none, 0, 0⟩ HP.tt [] := ⟨⟨fun w R h F s a j u hj => by simp at hj, fun _ _ _ _ => rfl⟩, rfl, fun h => absurd rfl h⟩
  refine (doL hB wf ⟨kind, path, other, off, n, none, 0, 0⟩ HP.tt [] hd (K := K) hK).weak (fun _ _ H => HP.sep_tt H) ?_
  rintro v R h ⟨e, k, s, l, da, dl, dc, dP, na, nl, nc, nP, tP, e1, hk, H⟩
  exact ⟨e, k, s, l, da, dl, dc, dP, na, nl, nc, nP, tP, e1, hk, HP.sep_mono H (fun _ h => h) fun z hz => HP.sep_mono hz (fun _ h => h) fun u hu => HP.sep_left hu⟩
set_option maxHeartbeats 1000000 in
theorem speaks04_ok : Tri Tryz.prog 15 #[] HP.tt (fun v => HP.pure (v = .bool true)) := by
  refine tri_of_tree (ρ := []) mixed Tryz.func15 tree_speaks04 ?_
  unfold t_speaks04
  simp only [T.den, E.prop, E.den, RX.look, F1.app, F2.app, Uni.int_i, Uni.nat_n, Uni.bool_c, Uni.str_s, Uni.adr_a, Uni.val_v, Uni.hp_p, hden, cden, V.den, W.den, A.den, BR.den, SA.den, FV.den, capV, exs, exP, allP, Cur.app, List.map_cons, List.map_nil, List.cons_append, List.nil_append, List.drop_succ_cons, List.drop_zero, List.length_cons, List.length_nil, Nat.zero_add, Nat.reduceAdd, Int.neg_neg, Bool.not_not, List.append_nil, Nat.add_zero, List.getElem?_cons_zero, List.getElem?_cons_succ, Decidable.not_not, semW_eq, semW_load, semW_store, semW_storeC, semW_append, semW_lookup, semW_lookupC, semW_update, semW_updateC, semW_updateK, semW_delete, semW_range, semW_next, semW_entry, semW_nil, ne_eq, Nat.reduceEqDiff, not_false_eq_true]
  refine tNew_ok.weak (fun _ _ h => h) ?_
  rintro v R h ⟨q, t0, ⟨rfl, h0⟩, H⟩
  refine ⟨q, TRep q t0, rfl, ?_, H⟩
  clear H
  have wf0 : TWf 1 t0.pub := by rw [h0]; exact newT_wf
  refine doL0 (by decide) wf0 1 [47, 97] [] 0 0 fun t1 da dc na nc h1 => ?_
  have wf1 : TWf 2 t1.pub := by rw [h1]; exact wf0.do (by decide) _ _ _ _ _ _
  intro x1
  refine doL0 (by decide) wf1 3 [47, 97, 47, 98] [] 0 0 fun t2 da dc na nc h2 => ?_
  have wf2 : TWf 3 t2.pub := by rw [h2]; exact wf1.do (by decide) _ _ _ _ _ _
  intro x2
  refine doL0 (by decide) wf2 6 [47, 97] [47, 97, 47, 99] 0 0 fun t3 da dc na nc h3 => ?_
  have wf3 : TWf 4 t3.pub := by rw [h3]; exact wf2.do (by decide) _ _ _ _ _ _
  intro x3
  rw [h0] at h1
  rw [h1] at h2
  rw [h2] at h3
  rw [h2, h1, h0]
  have e1 : (doS newT 1 [47, 97] [] 0 0 []).2.err = 0 := by decide +kernel
  have e2 : (doS (doS newT 1 [47, 97] [] 0 0 []).1 3 [47, 97, 47, 98] [] 0 0 []).2.err = 0 := by decide +kernel
  have e3 : (doS (doS (doS newT 1 [47, 97] [] 0 0 []).1 3 [47, 97, 47, 98] [] 0 0 []).1 6 [47, 97] [47, 97, 47, 99] 0 0 []).2.err = 26 := by decide +kernel
  have e4 : (doS (doS (doS newT 1 [47, 97] [] 0 0 []).1 3 [47, 97, 47, 98] [] 0 0 []).1 6 [47, 97] [47, 97, 47, 99] 0 0 []).1.length = 3 := by decide +kernel
  refine ⟨fun _ => ⟨fun _ => ⟨fun _ => ?_, fun h => absurd e3 h⟩, fun h => absurd e2 h⟩, fun h => absurd e1 h⟩
  refine (tNodes_ok (by decide) wf3).weak (fun _ _ h => h) ?_
  rintro v R h ⟨a, c, rfl, H⟩
  refine ⟨a, t3.pub.length, c, _, rfl, .of fun R h H => ?_, H⟩
  rw [h3, e4]
  rfl
/-- A field of a call that came in. -/
theorem undCall : ∃ d, Tryz.prog.underlying 34 = some d := Option.isSome_iff_exists.1 (by kernel_rfl)
theorem undNode : ∃ d, Tryz.prog.underlying 43 = some d := Option.isSome_iff_exists.1 (by kernel_rfl)
theorem aggNode : aggT Tryz.prog 43 = true := by kernel_rfl
theorem szNode : szT Tryz.prog 43 = 5 := by kernel_rfl
theorem aggCall : aggT Tryz.prog 34 = true := by kernel_rfl
theorem szCall : szT Tryz.prog 34 = 6 := by kernel_rfl
theorem Ls.some {α : Type} {K : Kind α} {a : Option Addr} {n : Nat} {l : List α} {R h : PH} (H : (Ls K a n l).p R h) (hn : n ≠ 0) : a.isSome = true := by
  exact RoC.some H.2.1 (Nat.pos_of_ne_zero hn)
theorem loadCall {a : Option Addr} {n : Nat} {l : List CallE} {k : Nat} {x : CallE} (hk : l[k]? = some x) : ORead Tryz.prog (loadS 34 (.pointer (a.map fun y => (y.add (k * 6)).add 0))) (Ls kCall a n l) (.agg (callVs x).toArray) := by
  obtain ⟨d, hd⟩ := undCall
  exact Ls.load (K := kCall) hd aggCall szCall hk
theorem loadNode {a : Option Addr} {n : Nat} {l : List NodeE} {k : Nat} {x : NodeE} (hk : l[k]? = some x) : ORead Tryz.prog (loadS 43 (.pointer (a.map fun y => (y.add (k * 5)).add 0))) (Ls kNode a n l) (.agg (nodeVs x).toArray) := by
  obtain ⟨d, hd⟩ := undNode
  exact Ls.load (K := kNode) hd aggNode szNode hk
def greatB (L : List CallE) : Bool := decide (120 < L.length) || L.any fun x => decide (300 < x.path.length) || decide (300 < x.other.length) || decide (600 < x.data.length)
set_option maxHeartbeats 1000000 in
theorem great04_ok (a : Option Addr) (n c : Nat) (L : List CallE) : Tri Tryz.prog 16 #[.slice a n c] (Ls kCall a n L) (fun v => HP.and (v = .bool (greatB L)) (Ls kCall a n L)) := by
  refine Tri.fact (φ := L.length = n ∧ (n ≠ 0 → a.isSome = true)) (fun R h H => ⟨H.1, fun hn => Ls.some H hn⟩) fun ⟨hl, ha⟩ => ?_
  refine tri_of_tree (ρ := [.a a, .n n, .n c, .p (Ls kCall a n L)]) mixed Tryz.func16 tree_great04 ?_
  unfold t_great04
  simp only [T.den, E.prop, E.den, RX.look, F1.app, F2.app, Uni.int_i, Uni.nat_n, Uni.bool_c, Uni.str_s, Uni.adr_a, Uni.val_v, Uni.hp_p, hden, cden, V.den, W.den, A.den, BR.den, SA.den, FV.den, capV, exs, exP, allP, Cur.app, List.map_cons, List.map_nil, List.cons_append, List.nil_append, List.drop_succ_cons, List.drop_zero, List.length_cons, List.length_nil, Nat.zero_add, Nat.reduceAdd, Int.neg_neg, Bool.not_not, List.append_nil, Nat.add_zero, List.getElem?_cons_zero, List.getElem?_cons_succ, Decidable.not_not, semW_eq, semW_load, semW_store, semW_storeC, semW_append, semW_lookup, semW_lookupC, semW_update, semW_updateC, semW_updateK, semW_delete, semW_range, semW_next, semW_entry, semW_nil, ne_eq, Nat.reduceEqDiff, not_false_eq_true]
  refine ⟨fun h => .of fun R h' H => ⟨?_, H⟩, fun h => ?_⟩
  · have : 120 < L.length := by omega
    simp [greatB, this]
  refine ⟨fun _ i => ∃ k : Nat, i = k ∧ k ≤ n ∧ ∀ j x, j < k → L[j]? = some x → x.path.length ≤ 300 ∧ x.other.length ≤ 300 ∧ x.data.length ≤ 600, fun _ i => n - i.toNat, ⟨0, rfl, Nat.zero_le _, fun j x hj => absurd hj (by omega)⟩, ?_⟩
  rintro _ _ ⟨k, rfl, hk, hb⟩
  refine ⟨fun hlt => ⟨by omega, fun _ => ⟨ha (by omega), fun _ => ?_⟩⟩, fun hge => .of fun R h' H => ⟨?_, H⟩⟩
  · obtain ⟨x, hx⟩ : ∃ x, L[k]? = some x := ⟨_, List.getElem?_eq_getElem (by omega)⟩
    have hxm := List.mem_of_getElem? hx
    refine ⟨x.kind, x.path, x.other, x.off, x.n, x.da, x.data.length, x.dc, loadCall hx, fun q => ?_⟩
    have key : 300 < x.path.length ∨ 300 < x.other.length ∨ 600 < x.data.length → greatB L = true := fun h => by
      unfold greatB
      rw [Bool.or_eq_true, List.any_eq_true]
      refine .inr ⟨x, hxm, ?_⟩
      simp only [Bool.or_eq_true, decide_eq_true_eq]
      omega
    have sz : ∀ l : List UInt8, (⟨l.toArray⟩ : ByteArray).size = l.length := fun l => by simp [ByteArray.size]
    refine ⟨fun h => .of fun R h' H => ⟨?_, H⟩, fun h1 => ⟨fun h => .of fun R h' H => ⟨?_, H⟩, fun h2 => ⟨fun h => .of fun R h' H => ⟨?_, H⟩, fun h3 => ⟨inI64' _ (by omega) (by omega), fun _ => ⟨⟨k + 1, by omega, by omega, fun j y hj hy => ?_⟩, by dsimp only; omega⟩⟩⟩⟩⟩
    · rw [key (by omega)]
    · rw [key (by omega)]
    · rw [key (by omega)]
    · rcases Nat.lt_or_eq_of_le (Nat.le_of_lt_succ hj) with h | h
      · exact hb j y h hy
      · subst h; rw [hx] at hy; cases hy; omega
  · have : greatB L = false := by
      unfold greatB
      rw [Bool.or_eq_false_iff]
      refine ⟨by simp; omega, ?_⟩
      rw [List.any_eq_false]
      intro x hx
      obtain ⟨j, hj⟩ := List.mem_iff_getElem?.1 hx
      have hjl := (List.getElem?_eq_some_iff.1 hj).1
      have := hb j x (by omega) hj
      simp; omega
    rw [this]
theorem great_len {L : List CallE} (h : ¬ greatB L = true) : L.length ≤ 120 := by
  unfold greatB at h
  simp at h
  omega
end Go.Proofs.YtdieogcemmnaaaaGreatDoor

/- Arrays in blocks of their own; a byte of a text; texts compared. No condition. -/
namespace Go.Proofs.YtdieogcemmnaaaaGreatDoor
open Go.Proofs.YtdieogcemmnaaaaGreatDoor RX
set_option maxRecDepth 100000

def idxS (t : TypeId) (u v : Value) : Sem Next := do pure (.value (← Instr.indexAt t u v))
theorem semW_ix {t ty : TypeId} {i j : Nat} {u v : Value} (h : i ≠ j) : semW (.indexAddr t (.tmp i) (.tmp j)) ty [(i, u), (j, v)] = idxS t u v := by
  have h' : (i == j) = false := by simpa using h
  simp [semW, execOp, arW, h', idxS]
theorem arIx {t el : TypeId} {n : Nat} (ht : Tryz.prog.underlying t = some (.array n el)) (hi : (Tryz.prog.info? el).isSome = true) (hz : szT Tryz.prog el = 1) {b k : Nat} {x : Int} (hx : x = k) (hk : k < n) {A : HP} :
    ORead Tryz.prog (idxS t (.pointer (some ⟨b, 0, none⟩)) (.int .i64 x)) A (.pointer (some ⟨b, k, none⟩)) := fun w R h F s _ => by
  obtain ⟨i, hi⟩ := Option.isSome_iff_exists.1 hi
  subst hx
  unfold idxS
  rw [Sem.run_bind, RX.run_indexAt_array ht hi (by omega) (by omega), hz]
  simp [addr_add]
/-- A block that holds an array. -/
def Ar (e : TypeId) (b : Nat) (vs : List Value) : HP := HP.one b (.cells vs.toArray e (0, 0))
theorem Ar.rd {e : TypeId} {b : Nat} {vs : List Value} : Rd (Ar e b vs) (some ⟨b, 0, none⟩) vs := fun w R h F s H j u hj => by
  refine ⟨b, 0, rfl, ?_⟩
  have := s.oh b _ H
  rw [cell_at this]
  simpa using hj
theorem arLd {t e : TypeId} {d : TypeDesc} (hd : Tryz.prog.underlying t = some d) (ha : aggT Tryz.prog t = false) (hz : szT Tryz.prog t = 1) {b k : Nat} {vs : List Value} {v : Value} (hk : vs[k]? = some v) :
    ORead Tryz.prog (loadS t (.pointer (some ⟨b, k, none⟩))) (Ar e b vs) v := by
  have := load1_ok hd ha hz (Ar.rd (e := e) (b := b) (vs := vs)) (k := k) (off := 0) (by simpa using hk)
  simpa [addr_add] using this
theorem arSt {t e : TypeId} {i : TypeInfo} (hi : Tryz.prog.info? t = some i) (hz : i.size = 1) {b k : Nat} {vs : List Value} {x : Value} (hx : x.cells = #[x]) (h1 : x.oneCell' = true) (hk : k < vs.length) :
    OTri Tryz.prog (storeS t (.pointer (some ⟨b, k, none⟩)) x) (Ar e b vs) (fun v => HP.and (v = .tuple #[]) (Ar e b (vs.set k x))) := by
  have := storeOne_ok hi e b vs.toArray k x [x] (by rw [hx]) (by simp [hz]) (by simp) (by simpa using h1) (by simp; omega) (by unfold maxLen; omega)
  refine this.weak (fun _ _ h => h) ?_
  rintro v R h ⟨rfl, H⟩
  refine ⟨rfl, ?_⟩
  unfold Ar
  rw [List.set_eq_take_append_cons_drop, if_pos hk]
  simpa using H
/-- An array as a function of its places. -/
def arF (m : Nat) (f : Nat → Value) : List Value := (List.range m).map f
theorem arF_get {m : Nat} {f : Nat → Value} {k : Nat} (h : k < m) : (arF m f)[k]? = some (f k) := by
  unfold arF
  rw [List.getElem?_map, List.getElem?_range h]; rfl
theorem arF_len (m : Nat) (f : Nat → Value) : (arF m f).length = m := by simp [arF]
theorem arF_set {m : Nat} {f : Nat → Value} {k : Nat} {v : Value} (h : k < m) : (arF m f).set k v = arF m fun j => if j = k then v else f j := by
  refine List.ext_getElem? fun j => ?_
  rw [List.getElem?_set, arF_len]
  by_cases hj : j < m
  · rw [arF_get hj, arF_get hj]
    by_cases e : k = j
    · subst e; rw [if_pos rfl, if_pos h, if_pos rfl]
    · rw [if_neg e, if_neg (Ne.symm e)]
  · rw [List.getElem?_eq_none (by rw [arF_len]; omega)]
    by_cases e : k = j
    · omega
    · rw [if_neg e, List.getElem?_eq_none (by rw [arF_len]; omega)]
theorem arF_congr {m : Nat} {f g : Nat → Value} (h : ∀ j < m, f j = g j) : arF m f = arF m g := List.map_congr_left fun j hj => h j (List.mem_range.1 hj)
/-! texts -/
theorem strIx {t ty : TypeId} {i j : Nat} (h : i ≠ j) (ht : Tryz.prog.underlying t = some .string) {s : List UInt8} {k : Nat} {x : Int} {c : UInt8} (hx : x = k) (hk : s[k]? = some c) {A : HP} :
    ORead Tryz.prog (semW (.index t (.tmp i) (.tmp j)) ty [(i, .string ⟨s.toArray⟩), (j, .int .i64 x)]) A (.int .u8 c.toNat) := fun w R hh F st _ => by
  have h' : (i == j) = false := by simpa using h
  subst hx
  have hkl : k < s.length := (List.getElem?_eq_some_iff.1 hk).1
  have e : (Instr.index t (.string ⟨s.toArray⟩) (.int .i64 k)).run Tryz.prog w = .ok (.int .u8 c.toNat) w := by
    have hb : (⟨s.toArray⟩ : ByteArray)[k]? = some c := by
      have hz : k < (⟨s.toArray⟩ : ByteArray).size := by simp [ByteArray.size]; exact hkl
      rw [getElem?_pos (⟨s.toArray⟩ : ByteArray) k hz]
      rw [List.getElem?_eq_getElem hkl] at hk
      exact hk
    unfold Instr.index
    simp [asIntOf, Sem.run_bind, RX.run_underlying ht, hb]
  simp only [semW, execOp, arW, List.find?_cons, beq_self_eq_true, h']
  rw [Sem.run_bind, e]
  rfl
theorem geqStr {t ty u : TypeId} {i j : Nat} (h : i ≠ j) (hg : Tryz.prog.eqGuardType Tryz.prog.depth t = false) {x y : List UInt8} {A : HP} :
    ORead Tryz.prog (semW (.binOp .geq t (.tmp i) (.tmp j) u) ty [(i, .string ⟨x.toArray⟩), (j, .string ⟨y.toArray⟩)]) A (.bool (!decide (x < y))) := fun w R hh F st _ => by
  have h' : (i == j) = false := by simpa using h
  simp only [semW, execOp, arW, List.find?_cons, beq_self_eq_true, h']
  have : Op.bytesLess x y = decide (x < y) := bytesLess_eq x y
  simp [eqGuard, binOp, Op.stringOp, hg, program, Sem.run_bind, Sem.run, Result.andThen, this]
end Go.Proofs.YtdieogcemmnaaaaGreatDoor

/- tree.loaded: a node, if it may be one as far as it tells by itself. No condition. -/
namespace Go.Proofs.YtdieogcemmnaaaaGreatDoor
set_option linter.unusedSimpArgs false
set_option linter.unusedVariables false
open Go.Proofs.YtdieogcemmnaaaaGreatDoor RX
set_option maxRecDepth 100000

def okE : Nm → List (Nm × Nat) → Bool
  | _, [] => true
  | last, e :: r => nameOk e.1 && decide (last < e.1) && okE e.1 r
def goodS (n : Nd) : Bool := if n.kind = 1 then decide (n.data = []) && decide (n.links = 1) && okE [] n.ents else if n.kind = 2 then decide (n.data.length ≤ 512) && decide (n.ents = []) else false
theorem leqStr {t ty u : TypeId} {i j : Nat} (h : i ≠ j) (hg : Tryz.prog.eqGuardType Tryz.prog.depth t = false) {x y : List UInt8} {A : HP} :
    ORead Tryz.prog (semW (.binOp .leq t (.tmp i) (.tmp j) u) ty [(i, .string ⟨x.toArray⟩), (j, .string ⟨y.toArray⟩)]) A (.bool (!decide (y < x))) := fun w R hh F st _ => by
  have h' : (i == j) = false := by simpa using h
  simp only [semW, execOp, arW, List.find?_cons, beq_self_eq_true, h']
  have : Op.bytesLess y x = decide (y < x) := bytesLess_eq y x
  have this2 : Op.bytesLess x y = decide (x < y) := bytesLess_eq x y
  have e : (Op.bytesLess x y || x == y) = !decide (y < x) := by
    rw [this2]
    by_cases h : y < x
    · have h1 : ¬ x < y := List.lt_asymm h
      have h2 : x ≠ y := fun e => by subst e; exact h1 h
      simp [h, h1, h2]
    · rcases List.le_iff_lt_or_eq.1 (show x ≤ y from h) with h1 | h1
      · simp [h, h1]
      · subst h1; simp [h]
  simp [eqGuard, binOp, Op.stringOp, hg, program, Sem.run_bind, Sem.run, Result.andThen, e]
theorem okE_lt : ∀ {last : Nm} {l : List (Nm × Nat)}, okE last l = true → (∀ e ∈ l, last < e.1) ∧ (l.map (·.1)).Pairwise (· < ·) ∧ ∀ e ∈ l, nameOk e.1 = true
  | _, [], _ => ⟨fun _ h => (by cases h), List.Pairwise.nil, fun _ h => (by cases h)⟩
  | last, e :: r, h => by
    unfold okE at h
    simp only [Bool.and_eq_true, decide_eq_true_eq] at h
    obtain ⟨⟨h1, h2⟩, h3⟩ := h
    obtain ⟨g1, g2, g3⟩ := okE_lt h3
    refine ⟨fun x hx => ?_, ?_, fun x hx => ?_⟩
    · rcases List.mem_cons.1 hx with rfl | hx
      · exact h2
      · exact List.lt_trans h2 (g1 x hx)
    · rw [List.map_cons, List.pairwise_cons]
      exact ⟨fun y hy => by obtain ⟨x, hx, rfl⟩ := List.mem_map.1 hy; exact g1 x hx, g2⟩
    · rcases List.mem_cons.1 hx with rfl | hx
      · exact h1
      · exact g3 x hx
theorem nodup_of' {l : List Nm} (h : l.Pairwise (· < ·)) : l.Nodup := h.imp fun {a b} hab e => by subst e; exact List.lt_irrefl a hab
theorem lk_rev {l : List (Nm × Nat)} (h : (l.map (·.1)).Nodup) (k : Nm) : lk l.reverse k = lk l k := by
  have hr : (l.reverse.map (·.1)).Nodup := by rw [List.map_reverse]; exact (List.reverse_perm _).symm.nodup h
  cases e : lk l k with
  | some n =>
    have := lk_of_mem hr (List.mem_reverse.2 (lk_mem e))
    exact this
  | none =>
    cases e2 : lk l.reverse k with
    | none => rfl
    | some n =>
      have := lk_of_mem h (List.mem_reverse.1 (lk_mem e2))
      dsimp only at this
      rw [e] at this; cases this
theorem entPut6 (mb : Nat) (es : List (Nm × Nat)) (e : Nm × Nat) : OTri Tryz.prog (updS 131 (.map (some mb)) (sE e.1) (.int .i64 e.2)) (EntM mb es) (fun v => HP.and (v = .tuple #[]) (EntM mb (e :: es))) := by
  refine OTri.exI fun l => OTri.exI fun c => OTri.pureI fun ⟨hI, hk⟩ => ?_
  refine (upd_ok (r := mb) (l := l) (c := c) kStr' undEM e.1 (.int .i64 e.2)).weak (fun _ _ h => h) ?_
  rintro v R h ⟨rfl, H⟩
  refine ⟨rfl, _, _, ⟨hI.put e.1 _, fun q => ?_⟩, H⟩
  rw [alFind_put, hk]
  rw [show lk (e :: es) q = if q = e.1 then some e.2 else lk es q from rfl]
  by_cases he : q = e.1
  · rw [if_pos he, if_pos he]; rfl
  · rw [if_neg he, if_neg he]
def LdPost (x : NodeE) (v : Value) : HP := HP.ex fun y : HN => HP.and (y.p = x.nd ∧ v = if goodS x.nd = true then .pointer (some ⟨y.nb, 0, none⟩) else .pointer none) (if goodS x.nd = true then NRep y else HP.tt)
theorem loaded_ok (x : NodeE) (hn : x.nd.ents.length ≤ 1000000000) : Tri Tryz.prog 160 #[.agg (nodeVs x).toArray] (HP.sep (RoB x.da x.nd.data.length x.nd.data) (Ls kEnt x.ea x.nd.ents.length x.nd.ents)) (LdPost x) := by
  refine Tri.fact (φ := (x.nd.data.length ≠ 0 → x.da.isSome = true) ∧ (x.nd.ents.length ≠ 0 → x.ea.isSome = true)) (fun R h H => ⟨fun hn => RoC.some (HP.sep_left H) (by omega), fun hn => Ls.isSome (HP.sep_right H) hn⟩) fun ⟨hda, hea⟩ => ?_
  refine tri_of_tree (ρ := [.i x.nd.num, .i x.nd.kind, .i x.nd.links, .a x.da, .n x.nd.data.length, .n x.dc, .p (RoB x.da x.nd.data.length x.nd.data), .a x.ea, .n x.nd.ents.length, .n x.ec, .p (Ls kEnt x.ea x.nd.ents.length x.nd.ents)]) mixed Tryz.func160 tree_tLoaded ?_
  unfold t_tLoaded
  simp only [T.den, E.prop, E.den, RX.look, F1.app, F2.app, Uni.int_i, Uni.nat_n, Uni.bool_c, Uni.str_s, Uni.adr_a, Uni.val_v, Uni.hp_p, hden, cden, V.den, W.den, A.den, BR.den, SA.den, FV.den, capV, exs, exP, allP, Cur.app, List.map_cons, List.map_nil, List.cons_append, List.nil_append, List.drop_succ_cons, List.drop_zero, List.length_cons, List.length_nil, Nat.zero_add, Nat.reduceAdd, Int.neg_neg, Bool.not_not, List.append_nil, Nat.add_zero, List.getElem?_cons_zero, List.getElem?_cons_succ, Decidable.not_not, semW_eq, semW_load, semW_store, semW_storeC, semW_append, semW_lookup, semW_lookupC, semW_update, semW_updateC, semW_updateK, semW_delete, semW_range, semW_next, semW_entry, semW_nil, ne_eq, Nat.reduceEqDiff, not_false_eq_true]
  have bad : ∀ {A : HP}, goodS x.nd = false → HP.ent A (LdPost x (.pointer none)) := fun h => .of fun R hh H => ⟨⟨x.nd, 0, 0, none, 0⟩, ⟨rfl, by rw [h]; simp⟩, by rw [h]; trivial⟩
  intro u
  refine ⟨fun k1 => ?_, fun k1 => ⟨fun k2 => ?_, fun k2 => ?_⟩⟩
  · have k1' : x.nd.kind = 1 := k1
    refine ⟨fun hd => bad ?_, fun hd => ⟨fun hl => bad ?_, fun hl => ?_⟩⟩
    · unfold goodS; rw [if_pos k1']; have : x.nd.data ≠ [] := fun e => by rw [e] at hd; simp at hd
      simp [this]
    · unfold goodS; rw [if_pos k1']; simp [hl]
    · refine tDir_ok.weak (fun _ _ h => h) ?_
      rintro v R h ⟨nb, mb, rfl, H⟩
      refine ⟨nb, _, rfl, ?_, H⟩
      clear H
      have hd0 : x.nd.data = [] := List.eq_nil_of_length_eq_zero (by omega)
      have hgood : goodS x.nd = okE [] x.nd.ents := by unfold goodS; rw [if_pos k1', hd0, hl]; simp
      refine ⟨fun _ _ last k p => ∃ i : Nat, k = i ∧ i ≤ x.nd.ents.length ∧ okE [] x.nd.ents = okE last (x.nd.ents.drop i) ∧ HP.ent p (HP.sep (HP.one nb (.cells #[.int .i64 1, .int .i64 1, .slice none 0 0, .map (some mb)] 133 (0, 0))) (EntM mb (x.nd.ents.take i).reverse)),
        fun _ _ _ k _ => x.nd.ents.length - k.toNat, ⟨0, rfl, Nat.zero_le _, by simp, HP.ent.refl _⟩, ?_⟩
      rintro v q last k p ⟨i, rfl, hi, hok, hp⟩
      refine ⟨fun hlt => ⟨by omega, fun _ => ⟨hea (by omega), fun _ => ?_⟩⟩, fun hge => ?_⟩
      · have hlt' : i < x.nd.ents.length := by omega
        have hstep : okE last (x.nd.ents.drop i) = (nameOk x.nd.ents[i].1 && decide (last < x.nd.ents[i].1) && okE x.nd.ents[i].1 (x.nd.ents.drop (i + 1))) := by
          rw [List.drop_eq_getElem_cons hlt']; rfl
        refine ⟨x.nd.ents[i].1, (x.nd.ents[i].2 : Int), Ls.load (K := kEnt) Tryz.underlying140 aggEn szEn (List.getElem?_eq_getElem hlt'), fun z => ?_⟩
        refine (pName_ok x.nd.ents[i].1 HP.tt).weak (fun _ _ h => h) ?_
        rintro w R h ⟨rfl, H⟩
        refine ⟨_, rfl, ⟨fun hn => bad ?_, fun hn => ⟨_, leqStr (by decide) (by kernel_rfl), fun hle => bad ?_, fun hle => ?_⟩⟩, H⟩
        · rw [hgood, hok, hstep]; simp [hn]
        · rw [hgood, hok, hstep]; simp at hle; simp [List.not_lt.2 hle]
        · have hlt2 : last < x.nd.ents[i].1 := by simpa using hle
          refine ⟨mb, ORead.ent hp (ld1 (fun R h H => HP.sep_left H) undEM (by kernel_rfl) (by kernel_rfl) rfl), ?_⟩
          refine (entPut6 mb (x.nd.ents.take i).reverse x.nd.ents[i]).conseq (hp.trans (.of fun _ _ => HP.sep_comm)) fun w => .of fun R h H => ?_
          obtain ⟨rfl, _⟩ := HP.sep_left H
          refine ⟨_, rfl, ⟨inI64 _ (by omega) (by omega), fun _ => ⟨⟨i + 1, by omega, by omega, ?_, ?_⟩, by dsimp only; omega⟩⟩, HP.sep_comm (HP.sep_mono H (fun _ h => h.2) fun _ h => h)⟩
          · rw [hok, hstep, hn]; simp [hlt2]
          · rw [List.take_succ_eq_append_getElem hlt', List.reverse_append]
            exact HP.ent.refl _
      · obtain rfl : i = x.nd.ents.length := by omega
        rw [List.drop_length] at hok
        have hg : goodS x.nd = true := by rw [hgood, hok]; rfl
        rw [List.take_length] at hp
        refine (HP.ent.of fun R h H => HP.sep_right (HP.sep_right H)).trans (hp.trans (.of fun R h H => ⟨⟨x.nd, nb, mb, none, 0⟩, ⟨rfl, by rw [hg]; rfl⟩, ?_⟩))
        rw [if_pos hg]
        have hnd := nodup_of' (okE_lt (hgood.symm.trans hg)).2.1
        refine HP.sep_mono H (fun y hy => ?_) fun y hy => ?_
        · show y nb = _
          rw [k1', hl, hd0]
          unfold HN.mapo
          rw [if_pos k1']
          exact hy
        · refine HP.sep_mono (HP.tt_sep hy) (fun z _ => ?_) fun z hz => ?_
          · show (OwB none x.nd.data.length 0 x.nd.data).p R z
            rw [hd0]; exact OwC.nil _ _ R z
          · unfold EntR
            rw [if_pos k1']
            obtain ⟨l, c, ⟨hI, hk⟩, hz⟩ := hz
            exact ⟨l, c, ⟨hI, fun k => by rw [hk, lk_rev hnd]⟩, hz⟩
  · have k2' : x.nd.kind = 2 := k2
    have hk1 : ¬ x.nd.kind = 1 := k1
    refine ⟨fun hd => bad ?_, fun hd => ⟨fun he => bad ?_, fun he => ?_⟩⟩
    · unfold goodS; rw [if_neg hk1, if_pos k2']; simp; omega
    · unfold goodS; rw [if_neg hk1, if_pos k2']; have : x.nd.ents ≠ [] := fun e => by rw [e] at he; simp at he
      simp [this]
    · have he0 : x.nd.ents = [] := List.eq_nil_of_length_eq_zero (by omega)
      have hg : goodS x.nd = true := by unfold goodS; rw [if_neg hk1, if_pos k2', he0]; simp; omega
      refine (clone8_ok _ x.da _ x.dc x.nd.data (RdL.ro _ _ _ _) rfl (by omega)).weak (fun _ _ h => h) ?_
      rintro v R h ⟨a', c', rfl, H⟩
      refine ⟨a', _, c', _, _, rfl, fun nb => .of fun R h H => ?_, H⟩
      refine ⟨⟨x.nd, nb, 0, a', c'⟩, ⟨rfl, by rw [hg]; rfl⟩, ?_⟩
      rw [if_pos hg]
      refine HP.sep_mono (HP.sep_right (HP.sep_right H)) (fun y hy => ?_) fun y hy => ?_
      · show y nb = _
        rw [k2']
        unfold HN.mapo
        rw [if_neg hk1]
        exact hy
      · refine HP.sep_mono (HP.sep_tt hy) (fun z hz => hz) fun z _ => ?_
        unfold EntR
        rw [if_neg hk1]
        exact he0
  · exact bad (by unfold goodS; rw [if_neg k1, if_neg k2])
end Go.Proofs.YtdieogcemmnaaaaGreatDoor

/- tree.Load, told by what tree.whole answers. No condition. -/
namespace Go.Proofs.YtdieogcemmnaaaaGreatDoor
set_option linter.unusedSimpArgs false
set_option linter.unusedVariables false
open Go.Proofs.YtdieogcemmnaaaaGreatDoor RX
set_option maxRecDepth 100000

theorem eqlNilP {i : Nat} {t u ty : TypeId} {e : TypeId} {p : Option Addr} {A : HP} (hg : Tryz.prog.eqGuardType Tryz.prog.depth t = false) (hu : Tryz.prog.underlying t = some (.pointer e)) : ORead Tryz.prog (semW (.binOp .eql t (.tmp i) (.const (.pointer none)) u) ty [(i, .pointer p)]) A (.bool p.isNone) := fun w R hh F s _ => by
  have he : (Op.equal t (.pointer p) (.pointer none)).run Tryz.prog w = .ok p.isNone w := RX.run_equal fun n => by cases p <;> simp [Op.equalIn, RX.run_underlying hu]
  have := (binOp_equal (P := Tryz.prog) (w := w) (.inl ⟨_, rfl⟩) he).1
  simp only [semW, execOp, arW, List.find?_cons, beq_self_eq_true, Option.map_some, Option.getD_some]
  simp [eqGuard, hg, program, Sem.run_bind, this]
def okN : Int → List Nd → Bool
  | _, [] => true
  | last, n :: r => decide (last < n.num) && decide (n.num < 64) && goodS n && okN n.num r
def MRep (mb : Nat) (ns : List HN) : HP := HP.sep (NodM ⟨mb, ns⟩) (sepN (ns.map NRep))
theorem MRep.init {mb : Nat} {R h : PH} (H : (HP.one mb (.map #[] 0)).p R h) : (MRep mb []).p R h := HP.sep_tt ⟨[], 0, ⟨MapI.nil 0, fun _ => rfl⟩, H⟩
theorem insH_end (y : HN) : ∀ ns : List HN, (∀ z ∈ ns, z.p.num < y.p.num) → insH y ns = ns ++ [y]
  | [], _ => rfl
  | z :: r, h => by
    unfold insH
    rw [if_pos (h z List.mem_cons_self), insH_end y r fun q hq => h q (List.mem_cons_of_mem _ hq)]; rfl
theorem mPut (mb : Nat) (ns : List HN) (y : HN) : OTri Tryz.prog (updS 123 (.map (some mb)) (.int .i64 y.p.num) (.pointer (some ⟨y.nb, 0, none⟩))) (HP.sep (MRep mb ns) (NRep y)) (fun v => HP.and (v = .tuple #[]) (MRep mb (insH y ns))) := by
  have o : OTri Tryz.prog (updS 123 (.map (some mb)) (.int .i64 y.p.num) (.pointer (some ⟨y.nb, 0, none⟩))) (NodM ⟨mb, ns⟩) (fun v => HP.and (v = .tuple #[]) (NodM ⟨mb, insH y ns⟩)) := by
    refine OTri.exI fun l => OTri.exI fun c => OTri.pureI fun ⟨hI, hk⟩ => ?_
    refine (upd_ok (r := mb) (l := l) (c := c) kInt' undNM (y.p.num : Int) (.pointer (some ⟨y.nb, 0, none⟩))).weak (fun _ _ h => h) ?_
    rintro v R h ⟨rfl, H⟩
    refine ⟨rfl, _, _, ⟨hI.put (y.p.num : Int) _, fun q => ?_⟩, H⟩
    rw [alFind_put, hk]
    exact (nodeV_ins y q ns).symm
  refine (o.frame (HP.sep (sepN (ns.map NRep)) (NRep y))).weak (fun R h H => HP.sep_assoc H) ?_
  rintro v R h ⟨h1, h2, d, l1, l2, ⟨e, H⟩, HR⟩
  refine ⟨e, h1, h2, d, l1, l2, H, ?_⟩
  exact sepN_perm ((insH_perm y ns).symm.map NRep) (sepN_cons.2 (HP.sep_comm HR))
theorem okN_split : ∀ (last : Int) (l : List Nd) (x : Nd) (r : List Nd), okN last (l ++ x :: r) = true → ∀ z ∈ l, z.num < x.num
  | _, [], _, _, _, _, h => by cases h
  | last, z :: l, x, r, h, q, hq => by
    rw [List.cons_append] at h
    unfold okN at h
    simp only [Bool.and_eq_true, decide_eq_true_eq] at h
    rcases List.mem_cons.1 hq with rfl | hq
    · have key : ∀ (l : List Nd) (last : Int), okN last (l ++ x :: r) = true → last < x.num := fun l => by
        induction l with
        | nil => intro last h; unfold okN at h; simp only [List.nil_append, Bool.and_eq_true, decide_eq_true_eq] at h; exact h.1.1.1
        | cons y l ih =>
          intro last h
          rw [List.cons_append] at h; unfold okN at h
          simp only [Bool.and_eq_true, decide_eq_true_eq] at h
          have := ih _ h.2
          have := h.1.1.1
          omega
      have := key l _ h.2
      omega
    · exact okN_split _ l x r h.2 q hq
def loadOk (wv : List Nd → Bool) (T1 : List Nd) : Bool := decide (T1.length ≤ 64) && okN (-1) T1 && wv T1
def LoPost (wv : List Nd → Bool) (a : Option Addr) (c : Nat) (es : List NodeE) (v : Value) : HP := HP.ex fun b : Nat => HP.ex fun t : TS =>
  HP.and ((v = if loadOk wv (es.map (·.nd)) = true then .tuple #[.pointer (some ⟨b, 0, none⟩), .int .i64 0] else .tuple #[.pointer none, .int .i64 3]) ∧ (loadOk wv (es.map (·.nd)) = true → t.pub = es.map (·.nd)))
    (HP.sep (OwN a es.length c es) (if loadOk wv (es.map (·.nd)) = true then TRep b t else HP.tt))
theorem load_ok (wv : List Nd → Bool) (hw : ∀ b t, okN (-1) t.pub = true → (∀ n ∈ t.pub, n.ents.length ≤ 1000000000) → Tri Tryz.prog 161 #[.pointer (some ⟨b, 0, none⟩)] (TRep b t) (fun v => HP.and (v = .bool (wv t.pub)) (TRep b t)))
    (a : Option Addr) (c : Nat) (es : List NodeE) (hn : es.length ≤ 1000000000) (he : ∀ x ∈ es, x.nd.ents.length ≤ 1000000000) :
    Tri Tryz.prog 91 #[.slice a es.length c] (OwN a es.length c es) (LoPost wv a c es) := by
  refine Tri.fact (φ := es.length ≠ 0 → a.isSome = true) (fun R h H hn => OwC.some H.1 (by omega)) fun ha => ?_
  refine tri_of_tree (ρ := [.a a, .n es.length, .n c, .p (OwN a es.length c es)]) mixed Tryz.func91 tree_tLoad ?_
  unfold t_tLoad
  simp only [T.den, E.prop, E.den, RX.look, F1.app, F2.app, Uni.int_i, Uni.nat_n, Uni.bool_c, Uni.str_s, Uni.adr_a, Uni.val_v, Uni.hp_p, hden, cden, V.den, W.den, A.den, BR.den, SA.den, FV.den, capV, exs, exP, allP, Cur.app, List.map_cons, List.map_nil, List.cons_append, List.nil_append, List.drop_succ_cons, List.drop_zero, List.length_cons, List.length_nil, Nat.zero_add, Nat.reduceAdd, Int.neg_neg, Bool.not_not, List.append_nil, Nat.add_zero, List.getElem?_cons_zero, List.getElem?_cons_succ, Decidable.not_not, semW_eq, semW_load, semW_store, semW_storeC, semW_append, semW_lookup, semW_lookupC, semW_update, semW_updateC, semW_updateK, semW_delete, semW_range, semW_next, semW_entry, semW_nil, ne_eq, Nat.reduceEqDiff, not_false_eq_true]
  have bad : ∀ {A : HP}, HP.ent A (OwN a es.length c es) → loadOk wv (es.map (·.nd)) = false → HP.ent A (LoPost wv a c es (.tuple #[.pointer none, .int .i64 3])) := fun hA h => hA.trans (.of fun R hh H => ⟨0, ⟨0, []⟩, ⟨by rw [h]; simp, fun e => by rw [h] at e; cases e⟩, by rw [h]; exact HP.sep_tt H⟩)
  refine ⟨fun h64 => bad (HP.ent.refl _) (by unfold loadOk; have : ¬ es.length ≤ 64 := by omega
                                             simp [this]), fun h64 => ?_⟩
  have h64' : es.length ≤ 64 := by omega
  intro mb tb
  refine ⟨fun _ _ _ last k pm pn => ∃ (j : Nat) (ns : List HN), k = j ∧ j ≤ es.length ∧ ns.map (·.p) = (es.map (·.nd)).take j ∧ okN (-1) (es.map (·.nd)) = okN last ((es.map (·.nd)).drop j) ∧ HP.ent pm (MRep mb ns) ∧ HP.ent pn (OwN a es.length c es) ∧ ∀ z ∈ ns, (z.p.num : Int) ≤ last,
    fun _ _ _ _ k _ _ => es.length - k.toNat, ⟨0, [], rfl, Nat.zero_le _, rfl, rfl, .of fun R h H => MRep.init H, HP.ent.refl _, fun _ h => by cases h⟩, ?_⟩
  rintro v q e0 last k pm pn ⟨j, ns, rfl, hj, hns, hok, hpm, hpn, hlast⟩
  refine ⟨fun hlt => ⟨by omega, fun _ => ⟨ha (by omega), fun _ => ?_⟩⟩, fun hge => ?_⟩
  · have hlt' : j < es.length := by omega
    have hltm : j < (es.map (·.nd)).length := by simpa using hlt'
    have hg : (es.map (·.nd))[j] = es[j].nd := by simp
    have hstep : okN last ((es.map (·.nd)).drop j) = (decide (last < es[j].nd.num) && decide (es[j].nd.num < 64) && goodS es[j].nd && okN es[j].nd.num ((es.map (·.nd)).drop (j + 1))) := by
      rw [List.drop_eq_getElem_cons hltm, hg]; rfl
    have fl : ∀ {B : Bool}, okN last ((es.map (·.nd)).drop j) = false → loadOk wv (es.map (·.nd)) = false := fun h => by unfold loadOk; rw [hok, h]; simp
    refine ⟨_, _, _, _, _, _, _, _, _, (ldNodeO (List.getElem?_eq_getElem hlt')).ent hpn, fun y => ⟨fun h1 => bad hpn (fl (B := true) ?_), fun h1 => ⟨fun h2 => bad hpn (fl (B := true) ?_), fun h2 => ?_⟩⟩⟩
    · rw [hstep]; have : ¬ last < (es[j].nd.num : Int) := by omega
      simp [this]
    · rw [hstep]; have : ¬ es[j].nd.num < 64 := by omega
      simp [this]
    · refine (loaded_ok es[j] (he _ (List.getElem_mem hlt'))).conseq (K := OwN a es.length c es) (hpn.trans (.of fun R h H => ?_)) fun v => .of fun R h H => ?_
      · have hx := nodeHp_pers _ R h PH.none' (H.2 _ (List.getElem_mem hlt'))
        exact ⟨PH.none', h, PH.none_dj _, PH.none_le _, PH.le.refl _, ⟨PH.none', PH.none', PH.dj_none _, PH.le.refl _, PH.le.refl _, hx.1, hx.2⟩, H⟩
      · obtain ⟨y1, y2, d, l1, l2, ⟨yn, ⟨hyp, hv⟩, hN⟩, hO⟩ := H
        by_cases hgd : goodS es[j].nd = true
        · rw [if_pos hgd] at hv hN
          subst hv
          refine ⟨.pointer (some ⟨yn.nb, 0, none⟩), NRep yn, OwN a es.length c es, rfl, ⟨false, eqlNilP (by kernel_rfl) undNP, fun h => (by cases h), fun _ => ?_⟩, y1, y2, d, l1, l2, hN, hO⟩
          have hnum : es[j].nd.num = yn.p.num := by rw [hyp]
          rw [hnum]
          refine (mPut mb ns yn).conseq ((HP.ent.sep hpm _).trans (.of fun _ _ => HP.sep_tt)) fun v => .of fun R h H => ?_
          obtain ⟨rfl, H1⟩ := HP.sep_left H
          have hall : ∀ z ∈ ns, z.p.num < yn.p.num := fun z hz => by have := hlast z hz; omega
          refine ⟨_, rfl, ⟨inI64 _ (by omega) (by omega), fun _ => ⟨⟨j + 1, insH yn ns, by omega, by omega, ?_, ?_, HP.ent.refl _, HP.ent.refl _, ?_⟩, by dsimp only; omega⟩⟩, H1⟩
          · rw [insH_end yn ns hall, List.map_append, hns, List.take_succ_eq_append_getElem hltm, hg, ← hyp]; rfl
          · have a1 : last < (es[j].nd.num : Int) := by omega
            have a2 : es[j].nd.num < 64 := by omega
            rw [hok, hstep, hgd, ← hnum]; simp [a1, a2]
          · intro z hz
            rw [insH_end yn ns hall] at hz
            rcases List.mem_append.1 hz with hz | hz
            · have := hall z hz; omega
            · obtain rfl := List.mem_singleton.1 hz; omega
        · rw [if_neg hgd] at hv
          subst hv
          refine ⟨.pointer none, HP.tt, OwN a es.length c es, rfl, ⟨true, eqlNilP (by kernel_rfl) undNP, fun _ => bad (HP.ent.refl _) (fl (B := true) ?_), fun h => absurd rfl h⟩, HP.tt_sep ((OwN a es.length c es).mono (PH.le.refl _) l2 hO)⟩
          rw [hstep]; simp [hgd]
  · obtain rfl : j = es.length := by omega
    have e0 : (es.map (·.nd)).take es.length = es.map (·.nd) := List.take_of_length_le (by simp)
    have e1 : (es.map (·.nd)).drop es.length = [] := List.drop_eq_nil_of_le (by simp)
    rw [e0] at hns
    rw [e1] at hok
    have hokT : okN (-1) (es.map (·.nd)) = true := by rw [hok]; rfl
    have hpub : TS.pub ⟨mb, ns⟩ = es.map (·.nd) := hns
    have hlo : loadOk wv (es.map (·.nd)) = wv (es.map (·.nd)) := by unfold loadOk; rw [hokT]; simp [h64']
    refine (hw tb ⟨mb, ns⟩ (by rw [hpub]; exact hokT) (fun n hn => by rw [hpub] at hn; obtain ⟨x, hx, rfl⟩ := List.mem_map.1 hn; exact he x hx)).conseq (K := HP.tt) ((HP.ent.sep2 (HP.ent.refl _) hpm).trans (.of fun R h H => HP.sep_tt H)) fun v => .of fun R h H => ?_
    obtain ⟨rfl, H1⟩ := HP.sep_left H
    rw [hpub]
    refine ⟨wv (es.map (·.nd)), mb, MRep mb ns, rfl, ⟨fun h => bad hpn (by rw [hlo]; simpa using h), fun h => (HP.ent.sep hpn _).trans (.of fun R h' H => ⟨tb, ⟨mb, ns⟩, ⟨by rw [hlo, h]; simp, fun _ => hpub⟩, ?_⟩)⟩, H1⟩
    rw [hlo, h]
    exact H
end Go.Proofs.YtdieogcemmnaaaaGreatDoor

/- Law 4: what a rename leaves; a directory has one path. Plain. No condition. -/
namespace Go.Proofs.YtdieogcemmnaaaaGreatDoor
open Go.Proofs.YtdieogcemmnaaaaGreatDoor RX
set_option maxRecDepth 100000

/-- One step down. -/
def Step (T : List Nd) (d : Nat) (nm : Nm) (k : Nat) : Prop := ∃ n, nodeAt T d = some n ∧ n.kind = 1 ∧ lk n.ents nm = some k
theorem Step.det {T : List Nd} {d : Nat} {nm : Nm} {k j : Nat} (h : Step T d nm k) (g : Step T d nm j) : k = j := by
  obtain ⟨n, h1, _, h3⟩ := h
  obtain ⟨m, g1, _, g3⟩ := g
  rw [h1] at g1; cases g1
  rw [h3] at g3; cases g3; rfl
theorem walk_snoc {T : List Nd} {a : Nat} {l : List Nm} {nm : Nm} {k : Nat} : walkS T a (l ++ [nm]) = (k, 0) ↔ ∃ d, walkS T a l = (d, 0) ∧ Step T d nm k := by
  rw [walkS_app]
  constructor
  · intro h
    split at h
    · rename_i h0
      obtain ⟨n, h1, h2, h3⟩ := walk_one h
      exact ⟨_, Prod.ext rfl h0, n, h1, h2, h3⟩
    · rename_i h0
      rw [h] at h0; exact absurd rfl h0
  · rintro ⟨d, h1, n, h2, h3, h4⟩
    rw [h1]
    simp [walkS, h2, h3, h4]
theorem walk_pre {T : List Nd} {a : Nat} {l m : List Nm} {k : Nat} (h : walkS T a (l ++ m) = (k, 0)) : ∃ d, walkS T a l = (d, 0) ∧ walkS T d m = (k, 0) := by
  rw [walkS_app] at h
  split at h
  · rename_i h0
    exact ⟨_, Prod.ext rfl h0, h⟩
  · rename_i h0
    rw [h] at h0; exact absurd rfl h0
/-- What is reached from the root. -/
inductive Rch (T : List Nd) : Nat → Prop where
  | root : Rch T 0
  | step {d k : Nat} {w : Nm} : Rch T d → Step T d w k → Rch T k
theorem Rch.walk {T : List Nd} {j : Nat} (h : Rch T j) : ∃ l, walkS T 0 l = (j, 0) := by
  induction h with
  | root => exact ⟨[], rfl⟩
  | step _ hs ih => obtain ⟨l, hl⟩ := ih; exact ⟨_, walk_snoc.2 ⟨_, hl, hs⟩⟩
theorem Rch.of_walk {T : List Nd} : ∀ (N : Nat) (l : List Nm) (j : Nat), l.length ≤ N → walkS T 0 l = (j, 0) → Rch T j := by
  intro N
  induction N with
  | zero =>
    intro l j hl h
    obtain rfl := List.length_eq_zero_iff.1 (Nat.le_zero.1 hl)
    cases h; exact .root
  | succ N ih =>
    intro l j hl h
    rcases List.eq_nil_or_concat l with rfl | ⟨l', a, rfl⟩
    · cases h; exact .root
    · rw [List.concat_eq_append] at h hl
      obtain ⟨d, h1, h2⟩ := walk_snoc.1 h
      exact .step (ih l' d (by simp at hl; omega) h1) h2
theorem Rch.of {T : List Nd} {l : List Nm} {j : Nat} (h : walkS T 0 l = (j, 0)) : Rch T j := Rch.of_walk l.length l j (Nat.le_refl _) h
theorem Rch.find {T : List Nd} {s : Nm} (h : (findS T s).2 = 0) : Rch T (findS T s).1 := by
  unfold findS at h ⊢
  split at h
  · cases h
  · rename_i l hl
    exact Rch.of (l := l) (Prod.ext rfl h)
theorem cntE_pos {l : List (Nm × Nat)} {d : Nat} {a : Nm} (h : (a, d) ∈ l) : 1 ≤ cntE l d := by
  unfold cntE
  have : 0 < l.countP fun e => decide (e.2 = d) := List.countP_pos_iff.2 ⟨_, h, by simp⟩
  omega
theorem cntE_two {d : Nat} {a c : Nm} (hac : a ≠ c) : ∀ {l : List (Nm × Nat)}, (a, d) ∈ l → (c, d) ∈ l → 2 ≤ cntE l d
  | [], h, _ => by cases h
  | y :: r, h, g => by
    have hc : cntE (y :: r) d = cntE r d + if y.2 = d then 1 else 0 := by unfold cntE; rw [List.countP_cons]; simp
    rcases List.mem_cons.1 h with rfl | h1
    · rcases List.mem_cons.1 g with e | g1
      · injection e with e _; exact absurd e.symm hac
      · have := cntE_pos g1; rw [hc]; simp; omega
    · rcases List.mem_cons.1 g with rfl | g1
      · have := cntE_pos h1; rw [hc]; simp; omega
      · have := cntE_two hac h1 g1; rw [hc]; omega
theorem refs_mem {n : Nd} {k : Nat} : ∀ {T : List Nd}, n ∈ T → cntE n.ents k ≤ refs T k
  | [], h => by cases h
  | y :: r, h => by
    rw [refs_cons]
    rcases List.mem_cons.1 h with rfl | h
    · omega
    · have := refs_mem (k := k) h; omega
theorem refs_two {n m : Nd} {k : Nat} (hnm : n ≠ m) : ∀ {T : List Nd}, n ∈ T → m ∈ T → cntE n.ents k + cntE m.ents k ≤ refs T k
  | [], h, _ => by cases h
  | y :: r, h, g => by
    rw [refs_cons]
    rcases List.mem_cons.1 h with rfl | h1
    · rcases List.mem_cons.1 g with rfl | g1
      · exact absurd rfl hnm
      · have := refs_mem (k := k) g1; omega
    · rcases List.mem_cons.1 g with rfl | g1
      · have := refs_mem (k := k) h1; omega
      · have := refs_two (k := k) hnm h1 g1; omega
/-- One entry alone leads to a directory. -/
theorem dir_one {B : Nat} {T : List Nd} (wf : TWf B T) {d p q : Nat} {a c : Nm} {x : Nd} (hx : nodeAt T d = some x) (hk : x.kind = 1) (h : Step T p a d) (g : Step T q c d) : p = q ∧ a = c := by
  obtain ⟨n, h1, _, h3⟩ := h
  obtain ⟨m, g1, _, g3⟩ := g
  obtain ⟨hn, hnn, hnm⟩ := wf.at' h1
  obtain ⟨hm, hmn, hmm⟩ := wf.at' g1
  have hd0 : d ≠ 0 := (hn.name _ (lk_mem h3)).2
  have hc := wf.cnt' hx hd0
  have hl : x.links = 1 := by
    rcases (wf.at' hx).1.kind with ⟨_, _, h⟩ | ⟨h, _⟩
    · exact h
    · rw [hk] at h; cases h
  have h2 : refs T d = 1 := by omega
  by_cases e : n = m
  · subst e
    refine ⟨by omega, Classical.byContradiction fun hac => ?_⟩
    have := cntE_two hac (lk_mem h3) (lk_mem g3)
    have := refs_mem (k := d) hnm
    omega
  · have := refs_two (k := d) e hnm hmm
    have := cntE_pos (lk_mem h3)
    have := cntE_pos (lk_mem g3)
    omega
/-- A directory has one path. -/
theorem path_one {B : Nat} {T : List Nd} (wf : TWf B T) : ∀ (N : Nat) (l m : List Nm) (d : Nat) (x : Nd), l.length ≤ N → nodeAt T d = some x → x.kind = 1 → walkS T 0 l = (d, 0) → walkS T 0 m = (d, 0) → l = m := by
  have zero : ∀ (l : List Nm) (a : Nm), walkS T 0 (l ++ [a]) ≠ (0, 0) := fun l a h => by
    obtain ⟨d, _, n, h1, _, h3⟩ := walk_snoc.1 h
    exact ((wf.at' h1).1.name _ (lk_mem h3)).2 rfl
  intro N
  induction N with
  | zero =>
    intro l m d x hl hx hk h g
    obtain rfl := List.length_eq_zero_iff.1 (Nat.le_zero.1 hl)
    cases h
    rcases List.eq_nil_or_concat m with rfl | ⟨m', c, rfl⟩
    · rfl
    · rw [List.concat_eq_append] at g
      exact absurd g (zero m' c)
  | succ N ih =>
    intro l m d x hl hx hk h g
    rcases List.eq_nil_or_concat l with rfl | ⟨l', a, rfl⟩
    · cases h
      rcases List.eq_nil_or_concat m with rfl | ⟨m', c, rfl⟩
      · rfl
      · rw [List.concat_eq_append] at g
        exact absurd g (zero m' c)
    · rw [List.concat_eq_append] at h hl ⊢
      rcases List.eq_nil_or_concat m with rfl | ⟨m', c, rfl⟩
      · cases g
        exact absurd h (zero l' a)
      · rw [List.concat_eq_append] at g ⊢
        obtain ⟨p, h1, h2⟩ := walk_snoc.1 h
        obtain ⟨q, g1, g2⟩ := walk_snoc.1 g
        obtain ⟨rfl, rfl⟩ := dir_one wf hx hk h2 g2
        obtain ⟨y, hy, hyk, _⟩ := h2
        rw [ih l' m' p y (by simp at hl; omega) hy hyk h1 g1]
theorem path_one' {B : Nat} {T : List Nd} (wf : TWf B T) {l m : List Nm} {d : Nat} {x : Nd} (hx : nodeAt T d = some x) (hk : x.kind = 1) (h : walkS T 0 l = (d, 0)) (g : walkS T 0 m = (d, 0)) : l = m :=
  path_one wf l.length l m d x (Nat.le_refl _) hx hk h g
/-! entries put and dropped -/
theorem drop_put {nm : Nm} {k : Nat} : ∀ {l : List (Nm × Nat)}, lk l nm = none → dropE nm (putE nm k l) = l
  | [], _ => by simp [putE, dropE]
  | y :: r, h => by
    unfold lk at h
    split at h
    · cases h
    · rename_i hne
      have hd : dropE nm (y :: r) = y :: dropE nm r := by unfold dropE; rw [List.filter_cons, if_pos (by simpa using Ne.symm hne)]
      have ih := drop_put (k := k) h
      have hr : dropE nm r = r := by
        unfold dropE
        rw [List.filter_eq_self]
        intro z hz
        have hlr : ∀ {l : List (Nm × Nat)}, lk l nm = none → ∀ z ∈ l, z.1 ≠ nm := fun {l} => by
          induction l with
          | nil => intro _ z hz; cases hz
          | cons w q ihq =>
            intro h z hz
            unfold lk at h
            split at h
            · cases h
            · rename_i hw
              rcases List.mem_cons.1 hz with rfl | hz
              · exact Ne.symm hw
              · exact ihq h z hz
        simpa using hlr h z hz
      unfold putE
      split
      · unfold dropE at ih ⊢
        rw [List.filter_cons, if_pos (by simpa using Ne.symm hne), ih]
      · have : dropE nm ((nm, k) :: y :: r) = dropE nm (y :: r) := by unfold dropE; rw [List.filter_cons, if_neg (by simp)]
        rw [this, hd, hr]
theorem put_drop {nm : Nm} {k : Nat} : ∀ {l : List (Nm × Nat)}, (l.map (·.1)).Pairwise (· < ·) → lk l nm = some k → putE nm k (dropE nm l) = l
  | [], _, h => by cases h
  | y :: r, hs, h => by
    rw [List.map_cons, List.pairwise_cons] at hs
    unfold lk at h
    split at h
    · rename_i e
      cases h
      subst e
      have hall : ∀ z ∈ r, y.1 < z.1 := fun z hz => hs.1 _ (List.mem_map.2 ⟨z, hz, rfl⟩)
      have hd : dropE y.1 (y :: r) = r := by
        unfold dropE
        rw [List.filter_cons, if_neg (by simp), List.filter_eq_self]
        intro z hz
        have := hall z hz
        simp only [ne_eq, decide_not, Bool.not_eq_eq_eq_not, Bool.not_true, decide_eq_false_iff_not]
        intro q
        rw [q] at this
        exact List.lt_irrefl _ this
      rw [hd]
      cases r with
      | nil => rfl
      | cons z q =>
        unfold putE
        rw [if_neg fun hl => List.lt_irrefl _ (List.lt_trans hl (hall z (by simp)))]
    · rename_i hne
      have hm := lk_mem h
      have hlt : y.1 < nm := hs.1 _ (List.mem_map.2 ⟨_, hm, rfl⟩)
      have hd : dropE nm (y :: r) = y :: dropE nm r := by unfold dropE; rw [List.filter_cons, if_pos (by simpa using Ne.symm hne)]
      rw [hd]
      unfold putE
      rw [if_pos hlt, put_drop hs.2 h]
theorem split_inj {s t : Nm} {l : List Nm} (h : splitP s = some l) (g : splitP t = some l) : s = t := by
  have key : ∀ {s : Nm} {l : List Nm}, splitP s = some l → s = joinP l := fun {s l} h => by
    cases s with
    | nil => simp [splitP] at h
    | cons b r =>
      unfold splitP at h
      by_cases e : b :: r = [47]
      · rw [if_pos e] at h; cases h; exact e
      · rw [if_neg e] at h
        simp only at h
        by_cases hb : b = 47
        · rw [if_pos hb] at h
          by_cases hc : (splitB 47 r).length ≤ 8 ∧ (splitB 47 r).all nameOk = true
          · rw [if_pos hc] at h
            cases h
            have e2 := splitB_join 47 r
            unfold joinP
            rw [if_neg]
            · rw [hb]; exact e2.symm
            · intro q; rw [q] at e2; cases e2
          · rw [if_neg hc] at h; cases h
        · rw [if_neg hb] at h; cases h
  rw [key h, key g]
theorem find_iff {T : List Nd} {s : Nm} {k : Nat} {l : List Nm} (h : splitP s = some l) : findS T s = walkS T 0 l := findS_split h
/-- What a rename that does something leaves. -/
structure Moved (T : List Nd) (p q : Nm) (T' : List Nd) : Prop where
  stat : statS T' q = statS T p
  gone : (findS T' p).2 ≠ 0
  len : T'.length = T.length
  back : renameS T' q p = (T, 0)
  rch : ∀ j, Rch T j → Rch T' j
  nums : T'.map (·.num) = T.map (·.num)
theorem lk_setE {T : List Nd} {u : Nat} {g : List (Nm × Nat) → List (Nm × Nat)} {d : Nat} {nm : Nm} {k : Nat} : Step (setP T u (fE g)) d nm k ↔ ∃ n, nodeAt T d = some n ∧ n.kind = 1 ∧ lk (if d = u then g n.ents else n.ents) nm = some k := by
  unfold Step
  rw [nodeAt_set (fE_num _)]
  by_cases e : d = u
  · subst e
    simp only [if_true]
    constructor
    · rintro ⟨n, h1, h2, h3⟩
      obtain ⟨m, h4, rfl⟩ := Option.map_eq_some_iff.1 h1
      exact ⟨m, h4, h2, h3⟩
    · rintro ⟨n, h1, h2, h3⟩
      exact ⟨fE g n, by rw [h1]; rfl, h2, h3⟩
  · simp only [if_neg e]
/-- Steps behind a rename. -/
theorem step_moved {T : List Nd} {u1 u2 a : Nat} {o nm : Nm} (hx : ∃ x, nodeAt T u1 = some x ∧ x.kind = 1 ∧ lk x.ents o = some a) (hy : ∃ y, nodeAt T u2 = some y ∧ y.kind = 1 ∧ lk y.ents nm = none) (d : Nat) (w : Nm) (k : Nat) :
    Step (setP (setP T u1 (fE (dropE o))) u2 (fE (putE nm a))) d w k ↔ (d = u2 ∧ w = nm ∧ k = a) ∨ (Step T d w k ∧ ¬ (d = u1 ∧ w = o)) := by
  obtain ⟨x, x1, x2, x3⟩ := hx
  obtain ⟨y, y1, y2, y3⟩ := hy
  rw [lk_setE]
  have key : (∃ n, nodeAt (setP T u1 (fE (dropE o))) d = some n ∧ n.kind = 1 ∧ lk (if d = u2 then putE nm a n.ents else n.ents) w = some k) ↔ ∃ n, nodeAt T d = some n ∧ n.kind = 1 ∧ lk (if d = u2 then putE nm a (if d = u1 then dropE o n.ents else n.ents) else (if d = u1 then dropE o n.ents else n.ents)) w = some k := by
    rw [nodeAt_set (fE_num _)]
    by_cases e : d = u1
    · subst e
      simp only [if_true]
      constructor
      · rintro ⟨n, h1, h2, h3⟩
        obtain ⟨m, h4, rfl⟩ := Option.map_eq_some_iff.1 h1
        exact ⟨m, h4, h2, h3⟩
      · rintro ⟨n, h1, h2, h3⟩
        exact ⟨fE (dropE o) n, by rw [h1]; rfl, h2, h3⟩
    · simp only [if_neg e]
  rw [key]
  constructor
  · rintro ⟨n, h1, h2, h3⟩
    by_cases e2 : d = u2
    · rw [if_pos e2, lk_put] at h3
      by_cases ew : w = nm
      · rw [if_pos ew] at h3; cases h3; exact .inl ⟨e2, ew, rfl⟩
      · rw [if_neg ew] at h3
        right
        by_cases e1 : d = u1
        · rw [if_pos e1, lk_drop] at h3
          by_cases eo : w = o
          · rw [if_pos eo] at h3; cases h3
          · rw [if_neg eo] at h3
            exact ⟨⟨n, h1, h2, h3⟩, fun q => eo q.2⟩
        · rw [if_neg e1] at h3
          exact ⟨⟨n, h1, h2, h3⟩, fun q => e1 q.1⟩
    · rw [if_neg e2] at h3
      right
      by_cases e1 : d = u1
      · rw [if_pos e1, lk_drop] at h3
        by_cases eo : w = o
        · rw [if_pos eo] at h3; cases h3
        · rw [if_neg eo] at h3
          exact ⟨⟨n, h1, h2, h3⟩, fun q => eo q.2⟩
      · rw [if_neg e1] at h3
        exact ⟨⟨n, h1, h2, h3⟩, fun q => e1 q.1⟩
  · rintro (⟨rfl, rfl, rfl⟩ | ⟨⟨n, h1, h2, h3⟩, hno⟩)
    · exact ⟨y, y1, y2, by rw [if_pos rfl, lk_put, if_pos rfl]⟩
    · refine ⟨n, h1, h2, ?_⟩
      have hd : lk (if d = u1 then dropE o n.ents else n.ents) w = some k := by
        by_cases e1 : d = u1
        · rw [if_pos e1, lk_drop, if_neg fun eo => hno ⟨e1, eo⟩]; exact h3
        · rw [if_neg e1]; exact h3
      by_cases e2 : d = u2
      · rw [if_pos e2, lk_put]
        by_cases ew : w = nm
        · subst e2; subst ew
          rw [y1] at h1; cases h1
          rw [y3] at h3; cases h3
        · rw [if_neg ew]; exact hd
      · rw [if_neg e2]; exact hd
/-- A walk that does not use what was dropped. -/
theorem walk_kept {T T' : List Nd} {u1 : Nat} {o : Nm} (hs : ∀ d w k, Step T d w k → ¬ (d = u1 ∧ w = o) → Step T' d w k) : ∀ (N : Nat) (l : List Nm) (k : Nat), l.length ≤ N → walkS T 0 l = (k, 0) → (∀ P Q, l = P ++ o :: Q → walkS T 0 P ≠ (u1, 0)) → walkS T' 0 l = (k, 0) := by
  intro N
  induction N with
  | zero =>
    intro l k hl h _
    obtain rfl := List.length_eq_zero_iff.1 (Nat.le_zero.1 hl)
    exact h
  | succ N ih =>
    intro l k hl h hno
    rcases List.eq_nil_or_concat l with rfl | ⟨l', a, rfl⟩
    · exact h
    · rw [List.concat_eq_append] at h hl hno ⊢
      obtain ⟨p, h1, h2⟩ := walk_snoc.1 h
      refine walk_snoc.2 ⟨p, ih l' p (by simp at hl; omega) h1 (fun P Q e => hno P (Q ++ [a]) (by rw [e]; simp)), hs _ _ _ h2 ?_⟩
      rintro ⟨rfl, rfl⟩
      exact hno l' [] (by simp) h1
theorem find_none {T : List Nd} {s : Nm} (h : splitP s = none) : (findS T s).2 = 20 := by unfold findS; rw [h]
theorem renamed {B : Nat} {T : List Nd} (wf : TWf B T) {p q : Nm} (hne : q ≠ p) (h : (renameS T p q).2 = 0) : Moved T p q (renameS T p q).1 := by
  unfold renameS at h ⊢
  by_cases c1 : (entryS T p).2.2.2 ≠ 0
  · rw [if_pos c1] at h; exact absurd h c1
  rw [if_neg c1, if_neg hne] at h ⊢
  by_cases c2 : insideP q p = true
  · rw [if_pos c2] at h; cases h
  rw [if_neg c2] at h ⊢
  by_cases c3 : (placeS T q).2.2 ≠ 0
  · rw [if_pos c3] at h; exact absurd h c3
  rw [if_neg c3]
  clear h
  have c1' : (entryS T p).2.2.2 = 0 := by simpa using c1
  have c3' : (placeS T q).2.2 = 0 := by simpa using c3
  obtain ⟨x, x1, x2, x3, ab, x4, x5, x6, x7, x8⟩ := entry_ok' c1'
  obtain ⟨y, y1, y2, y3, y4⟩ := place_at c3'
  obtain ⟨ab2, z4, z5, z6⟩ : ∃ ab2, parentS q = some (ab2, (placeS T q).2.1) ∧ (findS T ab2).1 = (placeS T q).1 ∧ (findS T ab2).2 = 0 := by
    unfold placeS at c3' ⊢
    cases hs : parentS q with
    | none => rw [hs] at c3'; simp at c3'
    | some w =>
      obtain ⟨ab2, nm⟩ := w
      rw [hs] at c3'
      simp only at c3' ⊢
      by_cases hc : (findS T ab2).2 ≠ 0
      · rw [if_pos hc] at c3'; exact absurd c3' hc
      · rw [if_neg hc] at c3' ⊢
        cases hx : nodeAt T (findS T ab2).1 with
        | none => rw [hx] at c3'; simp at c3'
        | some x =>
          rw [hx] at c3'
          simp only at c3' ⊢
          by_cases hk : x.kind ≠ 1
          · rw [if_pos hk] at c3'; simp at c3'
          · rw [if_neg hk] at c3' ⊢
            by_cases hl : (lk x.ents nm).isSome = true
            · rw [if_pos hl] at c3'; simp at c3'
            · rw [if_neg hl]
              exact ⟨ab2, rfl, rfl, by simpa using hc⟩
  clear c1 c3 c1' c3'
  generalize (entryS T p).1 = u1 at *
  generalize (entryS T p).2.1 = o at *
  generalize (entryS T p).2.2.1 = a at *
  generalize (placeS T q).1 = u2 at *
  generalize (placeS T q).2.1 = nm at *
  obtain ⟨L1, s1, s2⟩ := parentS_some x4
  obtain ⟨L2, s3, s4⟩ := parentS_some z4
  have w1 : walkS T 0 L1 = (u1, 0) := by rw [← findS_split s2]; exact Prod.ext x5 x6
  have w1o : walkS T 0 (L1 ++ [o]) = (a, 0) := by rw [← findS_split s1]; exact Prod.ext x7 x8
  have w2 : walkS T 0 L2 = (u2, 0) := by rw [← findS_split s4]; exact Prod.ext z5 z6
  have nin : ∀ Q, L2 ≠ L1 ++ o :: Q := fun Q e => c2 (by
    unfold insideP
    rw [s3, s1, e]
    have : (L1 ++ o :: Q ++ [nm]).take (L1 ++ [o]).length = L1 ++ [o] := by
      rw [show L1 ++ o :: Q ++ [nm] = (L1 ++ [o]) ++ (Q ++ [nm]) by simp, List.take_left]
    simp only [this]
    simp)
  have steps := step_moved (T := T) (u1 := u1) (u2 := u2) (a := a) (o := o) (nm := nm) ⟨x, x1, x2, x3⟩ ⟨y, y1, y2, y3⟩
  have hne12 : ¬ (u1 = u2 ∧ o = nm) := by
    rintro ⟨rfl, rfl⟩
    rw [x1] at y1; cases y1
    rw [x3] at y3; cases y3
  -- the walks behind it
  have w2' : walkS (setP (setP T u1 (fE (dropE o))) u2 (fE (putE nm a))) 0 L2 = (u2, 0) := by
    refine walk_kept (T := T) (u1 := u1) (o := o) (fun d w k hs hno => (steps d w k).2 (.inr ⟨hs, hno⟩)) L2.length L2 u2 (Nat.le_refl _) w2 fun P Q e hP => ?_
    have : P = L1 := path_one' wf x1 x2 hP w1
    subst this
    exact nin Q e
  have w1' : walkS (setP (setP T u1 (fE (dropE o))) u2 (fE (putE nm a))) 0 L1 = (u1, 0) := by
    refine walk_kept (T := T) (u1 := u1) (o := o) (fun d w k hs hno => (steps d w k).2 (.inr ⟨hs, hno⟩)) L1.length L1 u1 (Nat.le_refl _) w1 fun P Q e hP => ?_
    have : P = L1 := path_one' wf x1 x2 hP w1
    subst this
    have := congrArg List.length e
    simp at this
  have w2n : walkS (setP (setP T u1 (fE (dropE o))) u2 (fE (putE nm a))) 0 (L2 ++ [nm]) = (a, 0) := walk_snoc.2 ⟨u2, w2', (steps _ _ _).2 (.inl ⟨rfl, rfl, rfl⟩)⟩
  have nostep : ∀ k, ¬ Step (setP (setP T u1 (fE (dropE o))) u2 (fE (putE nm a))) u1 o k := fun k hk => by
    rcases (steps _ _ _).1 hk with ⟨h1, h2, _⟩ | ⟨_, h2⟩
    · exact hne12 ⟨h1, h2⟩
    · exact h2 ⟨rfl, rfl⟩
  have ha1 : a ≠ u1 := by
    rintro rfl
    have := path_one' wf x1 x2 w1 w1o
    have := congrArg List.length this
    simp at this
  have ha2 : a ≠ u2 := by
    rintro rfl
    have := path_one' wf y1 y2 w2 w1o
    exact nin [] this
  have f2n : findS (setP (setP T u1 (fE (dropE o))) u2 (fE (putE nm a))) q = (a, 0) := by rw [findS_split s3]; exact w2n
  have f2 : findS (setP (setP T u1 (fE (dropE o))) u2 (fE (putE nm a))) ab2 = (u2, 0) := by rw [findS_split s4]; exact w2'
  have f1 : findS (setP (setP T u1 (fE (dropE o))) u2 (fE (putE nm a))) ab = (u1, 0) := by rw [findS_split s2]; exact w1'
  have n1 : ∃ n, nodeAt (setP (setP T u1 (fE (dropE o))) u2 (fE (putE nm a))) u1 = some n ∧ n.kind = 1 := by
    rw [nodeAt_set (fE_num _), nodeAt_set (fE_num _)]
    by_cases e : u1 = u2
    · rw [if_pos e, ← e, if_pos rfl, x1]
      exact ⟨_, rfl, x2⟩
    · rw [if_neg e, nodeAt_set (fE_num _), if_pos rfl, x1]
      exact ⟨_, rfl, x2⟩
  constructor
  · unfold statS
    rw [f2n, if_neg (by simp), if_neg (by rw [x8]; simp), x7]
    have e : nodeAt (setP (setP T u1 (fE (dropE o))) u2 (fE (putE nm a))) a = nodeAt T a := by
      rw [nodeAt_set (fE_num _), if_neg ha2, nodeAt_set (fE_num _), if_neg ha1]
    simp only
    rw [e]
  · intro h0
    have : findS (setP (setP T u1 (fE (dropE o))) u2 (fE (putE nm a))) p = ((findS (setP (setP T u1 (fE (dropE o))) u2 (fE (putE nm a))) p).1, 0) := Prod.ext rfl h0
    rw [findS_split s1] at this
    obtain ⟨d, h1, h2⟩ := walk_snoc.1 this
    rw [w1'] at h1; cases h1
    exact nostep _ h2
  · unfold setP; simp
  · have he : entryS (setP (setP T u1 (fE (dropE o))) u2 (fE (putE nm a))) q = (u2, nm, a, 0) := by
      unfold entryS
      rw [z4]
      simp only
      rw [f2n, f2]
      simp
    have hp : placeS (setP (setP T u1 (fE (dropE o))) u2 (fE (putE nm a))) p = (u1, o, 0) := by
      unfold placeS
      rw [x4]
      simp only
      rw [f1]
      obtain ⟨n, g1, g2⟩ := n1
      simp only [ne_eq, not_true_eq_false, if_false]
      rw [g1]
      simp only [g2, not_true_eq_false, if_false]
      rw [if_neg]
      intro hs
      obtain ⟨k, hk⟩ := Option.isSome_iff_exists.1 hs
      exact nostep k ⟨n, g1, g2, hk⟩
    have hin : insideP p q ≠ true := fun hi => by
      unfold insideP at hi
      rw [s1, s3] at hi
      simp only [Bool.and_eq_true, decide_eq_true_eq] at hi
      obtain ⟨hl, e⟩ := hi
      have e2 : L1 ++ [o] = (L2 ++ [nm]) ++ (L1 ++ [o]).drop (L2 ++ [nm]).length := by
        conv => lhs; rw [← List.take_append_drop (L2 ++ [nm]).length (L1 ++ [o])]
        rw [← e]
      rw [e2] at w1o
      obtain ⟨d, h1, _⟩ := walk_pre w1o
      obtain ⟨e', h2, h3⟩ := walk_snoc.1 h1
      rw [w2] at h2; cases h2
      obtain ⟨n, g1, _, g3⟩ := h3
      rw [y1] at g1; cases g1
      rw [y3] at g3; cases g3
    unfold renameS
    rw [he, hp]
    simp only [ne_eq, not_true_eq_false, if_false]
    rw [if_neg (Ne.symm hne), if_neg hin]
    refine Prod.ext ?_ rfl
    show setP (setP (setP (setP T u1 (fE (dropE o))) u2 (fE (putE nm a))) u2 (fE (dropE nm))) u1 (fE (putE o a)) = T
    have hb : setP (setP (setP T u1 (fE (dropE o))) u2 (fE (putE nm a))) u2 (fE (dropE nm)) = setP T u1 (fE (dropE o)) := by
      unfold setP
      rw [List.map_map, List.map_map]
      refine List.map_congr_left fun n hn => ?_
      have hna : nodeAt T n.num = some n := mem_nodeAt wf.nd hn
      simp only [Function.comp]
      have hu1 : (if n.num = u1 then fE (dropE o) n else n).num = n.num := by split <;> rfl
      rw [hu1]
      by_cases e2 : n.num = u2
      · rw [if_pos e2]
        have hu2 : (fE (putE nm a) (if n.num = u1 then fE (dropE o) n else n)).num = n.num := by rw [fE_num, hu1]
        rw [hu2, if_pos e2]
        rw [e2, y1] at hna
        cases hna
        have hl : lk (if y.num = u1 then fE (dropE o) y else y).ents nm = none := by
          split
          · show lk (dropE o y.ents) nm = none
            rw [lk_drop]; split
            · rfl
            · exact y3
          · exact y3
        generalize (if y.num = u1 then fE (dropE o) y else y) = m at hl
        show ({ m with ents := dropE nm (putE nm a m.ents) } : Nd) = m
        rw [drop_put hl]
      · rw [if_neg e2, hu1, if_neg e2]
    rw [hb]
    unfold setP
    rw [List.map_map]
    conv => rhs; rw [← List.map_id T]
    refine List.map_congr_left fun n hn => ?_
    have hna : nodeAt T n.num = some n := mem_nodeAt wf.nd hn
    simp only [Function.comp, id]
    by_cases e1 : n.num = u1
    · rw [if_pos e1, fE_num, if_pos e1]
      rw [e1, x1] at hna
      cases hna
      show ({ x with ents := putE o a (dropE o x.ents) } : Nd) = x
      rw [put_drop (wf.at' x1).1.sort x3]
    · rw [if_neg e1, if_neg e1]
  · intro j hj
    induction hj with
    | root => exact .root
    | @step d k w hd hs ih =>
      by_cases e : d = u1 ∧ w = o
      · obtain ⟨rfl, rfl⟩ := e
        have : k = a := hs.det ⟨x, x1, x2, x3⟩
        rw [this]
        exact Rch.of w2n
      · exact .step ih ((steps d w k).2 (.inr ⟨hs, e⟩))
  · rw [setP_nums (fE_num _), setP_nums (fE_num _)]
theorem rename_err {T : List Nd} {p q : Nm} (h : (renameS T p q).2 ≠ 0 ∨ q = p) : (renameS T p q).1 = T := by
  unfold renameS at h ⊢
  split
  · rfl
  · split
    · rfl
    · split
      · rfl
      · split
        · rfl
        · rename_i h1 h2 h3 h4
          rw [if_neg h1, if_neg h2, if_neg h3, if_neg h4] at h
          rcases h with h | h
          · exact absurd rfl h
          · exact absurd h h2
end Go.Proofs.YtdieogcemmnaaaaGreatDoor

/- Law 4: all nodes of a tree are reached from its root. Plain. No condition. -/
namespace Go.Proofs.YtdieogcemmnaaaaGreatDoor
open Go.Proofs.YtdieogcemmnaaaaGreatDoor RX
set_option maxRecDepth 100000

def Reach (T : List Nd) : Prop := ∀ n ∈ T, Rch T n.num
/-- .. by a path of so many names. -/
def Dn (T : List Nd) (r j : Nat) : Prop := ∃ l : List Nm, l.length ≤ r ∧ walkS T 0 l = (j, 0)
theorem Dn.le {T : List Nd} {r s j : Nat} (h : Dn T r j) (hr : r ≤ s) : Dn T s j := let ⟨l, h1, h2⟩ := h; ⟨l, by omega, h2⟩
theorem Dn.zero (T : List Nd) (r : Nat) : Dn T r 0 := ⟨[], Nat.zero_le _, rfl⟩
theorem Dn.step {T : List Nd} {r j : Nat} (h : Dn T (r + 1) j) : Dn T r j ∨ ∃ n, n ∈ T ∧ Dn T r n.num ∧ ∃ e ∈ n.ents, e.2 = j := by
  obtain ⟨l, h1, h2⟩ := h
  rcases List.eq_nil_or_concat l with rfl | ⟨l', a, rfl⟩
  · cases h2; exact .inl (Dn.zero T r)
  · rw [List.concat_eq_append] at h1 h2
    obtain ⟨d, h3, n, h4, _, h6⟩ := walk_snoc.1 h2
    obtain ⟨hm, hn⟩ := nodeAt_mem h4
    exact .inr ⟨n, hm, ⟨l', by simp at h1; omega, by rw [hn]; exact h3⟩, _, lk_mem h6, rfl⟩
theorem nodup_sub {α : Type} [DecidableEq α] : ∀ {l m : List α}, l.Nodup → (∀ x ∈ l, x ∈ m) → l.length ≤ m.length
  | [], _, _, _ => Nat.zero_le _
  | x :: l, m, h, hs => by
    rw [List.nodup_cons] at h
    have hx := hs x (by simp)
    have ih := nodup_sub (m := m.erase x) h.2 fun y hy => by
      have : y ≠ x := fun e => h.1 (by rw [← e]; exact hy)
      exact (List.mem_erase_of_ne this).2 (hs y (by simp [hy]))
    rw [List.length_erase_of_mem hx] at ih
    have := List.length_pos_of_mem hx
    rw [List.length_cons]; omega
/-- A walk's stations. -/
def stat' (T : List Nd) (l : List Nm) (i : Nat) : Nat := (walkS T 0 (l.take i)).1
theorem stations {B : Nat} {T : List Nd} (wf : TWf B T) {l : List Nm} {k : Nat} (h : walkS T 0 l = (k, 0)) (hk : (nodeAt T k).isSome = true) : l.length + 1 ≤ T.length := by
  have pre : ∀ i, i ≤ l.length → walkS T 0 (l.take i) = (stat' T l i, 0) ∧ (i < l.length → ∃ x, nodeAt T (stat' T l i) = some x ∧ x.kind = 1) := fun i hi => by
    have e := h
    rw [← List.take_append_drop i l] at e
    obtain ⟨d, h1, h2⟩ := walk_pre e
    have hd : stat' T l i = d := by unfold stat'; rw [h1]
    rw [hd]
    refine ⟨h1, fun hlt => ?_⟩
    have hdr : l.drop i = l[i] :: l.drop (i + 1) := List.drop_eq_getElem_cons hlt
    rw [hdr] at h2
    obtain ⟨d2, h3, _⟩ := walk_pre (l := [l[i]]) (m := l.drop (i + 1)) h2
    obtain ⟨n, h4, h5, _⟩ := walk_one h3
    exact ⟨n, h4, h5⟩
  have inj : ∀ i j, i < j → j ≤ l.length → stat' T l i ≠ stat' T l j := fun i j hij hj e => by
    obtain ⟨h1, h2⟩ := pre i (by omega)
    obtain ⟨x, h3, h4⟩ := h2 (by omega)
    have h5 := (pre j hj).1
    rw [← e] at h5
    have := path_one' wf h3 h4 h1 h5
    have := congrArg List.length this
    rw [List.length_take, List.length_take] at this
    omega
  have nd : ((List.range (l.length + 1)).map (stat' T l)).Nodup := by
    rw [List.nodup_iff_pairwise_ne, List.pairwise_map]
    refine List.Pairwise.imp_of_mem (R := (· < ·)) (fun {a b} ha hb hab => inj a b hab (by have := List.mem_range.1 hb; omega)) (List.pairwise_lt_range)
  have sub : ∀ x ∈ (List.range (l.length + 1)).map (stat' T l), x ∈ T.map (·.num) := fun x hx => by
    obtain ⟨i, hi, rfl⟩ := List.mem_map.1 hx
    have hi := List.mem_range.1 hi
    have : (nodeAt T (stat' T l i)).isSome = true := by
      by_cases e : i < l.length
      · obtain ⟨x, h3, _⟩ := (pre i (by omega)).2 e
        rw [h3]; rfl
      · have : stat' T l i = k := by unfold stat'; rw [List.take_of_length_le (by omega), h]
        rw [this]; exact hk
    obtain ⟨n, hn⟩ := Option.isSome_iff_exists.1 this
    obtain ⟨h1, h2⟩ := nodeAt_mem hn
    exact List.mem_map.2 ⟨n, h1, h2⟩
  have := nodup_sub nd sub
  simpa using this
theorem Reach.dn {B : Nat} {T : List Nd} (wf : TWf B T) (h : Reach T) : ∀ n ∈ T, Dn T T.length n.num := fun n hn => by
  obtain ⟨l, hl⟩ := (h n hn).walk
  have := stations wf hl (by rw [mem_nodeAt wf.nd hn]; rfl)
  exact ⟨l, by omega, hl⟩
theorem step_same {T : List Nd} {a : Nat} {f : Nd → Nd} (hf : ∀ n, (f n).num = n.num ∧ (f n).kind = n.kind ∧ (f n).ents = n.ents) {d : Nat} {w : Nm} {k : Nat} : Step (setP T a f) d w k ↔ Step T d w k := by
  unfold Step
  rw [nodeAt_set fun n => (hf n).1]
  by_cases e : d = a
  · subst e
    rw [if_pos rfl]
    constructor
    · rintro ⟨n, h1, h2, h3⟩
      obtain ⟨m, h4, rfl⟩ := Option.map_eq_some_iff.1 h1
      exact ⟨m, h4, by rw [← (hf m).2.1]; exact h2, by rw [← (hf m).2.2]; exact h3⟩
    · rintro ⟨n, h1, h2, h3⟩
      exact ⟨f n, by rw [h1]; rfl, by rw [(hf n).2.1]; exact h2, by rw [(hf n).2.2]; exact h3⟩
  · rw [if_neg e]
theorem Rch.mono {T T' : List Nd} (h : ∀ d w k, Step T d w k → Step T' d w k) {j : Nat} (hj : Rch T j) : Rch T' j := by
  induction hj with
  | root => exact .root
  | step _ hs ih => exact .step ih (h _ _ _ hs)
theorem Reach.of {T T' : List Nd} (h : Reach T) (hr : ∀ j, Rch T j → Rch T' j) (hn : T'.map (·.num) = T.map (·.num)) : Reach T' := fun n hm => by
  have : n.num ∈ T.map (·.num) := by rw [← hn]; exact List.mem_map.2 ⟨n, hm, rfl⟩
  obtain ⟨m, h1, h2⟩ := List.mem_map.1 this
  rw [← h2]
  exact hr _ (h m h1)
theorem step_del {T : List Nd} {a d : Nat} {w : Nm} {k : Nat} : Step (delP T a) d w k ↔ Step T d w k ∧ d ≠ a := by
  unfold Step
  rw [nodeAt_del]
  by_cases e : d = a
  · subst e; simp
  · rw [if_neg e]
    exact ⟨fun h => ⟨h, e⟩, fun h => h.1⟩
/-- Behind one entry dropped, whose node leads nowhere, all but that node is reached. -/
theorem Rch.drop {T : List Nd} {u a : Nat} {nm : Nm} (hua : Step T u nm a) (hx : ∃ x, nodeAt T a = some x ∧ x.ents = []) {j : Nat} (hj : Rch T j) (hja : j ≠ a) : Rch (setP T u (fE (dropE nm))) j := by
  induction hj with
  | root => exact .root
  | @step d k w hd hs ih =>
    have hda : d ≠ a := by
      rintro rfl
      obtain ⟨x, h1, h2⟩ := hx
      obtain ⟨n, h3, _, h5⟩ := hs
      rw [h1] at h3; cases h3
      rw [h2] at h5; cases h5
    refine .step (ih hda) (w := w) (lk_setE.2 ?_)
    obtain ⟨n, h3, h4, h5⟩ := hs
    refine ⟨n, h3, h4, ?_⟩
    by_cases e : d = u
    · subst e
      rw [if_pos rfl, lk_drop]
      by_cases ew : w = nm
      · subst ew
        exact absurd ((show Step T d w k from ⟨n, h3, h4, h5⟩).det hua) hja
      · rw [if_neg ew]; exact h5
    · rw [if_neg e]; exact h5
theorem Rch.del {T : List Nd} {a j : Nat} (hx : ∃ x, nodeAt T a = some x ∧ x.ents = []) (hj : Rch T j) (hja : j ≠ a) : Rch (delP T a) j := by
  induction hj with
  | root => exact .root
  | @step d k w hd hs ih =>
    have hda : d ≠ a := by
      rintro rfl
      obtain ⟨x, h1, h2⟩ := hx
      obtain ⟨n, h3, _, h5⟩ := hs
      rw [h1] at h3; cases h3
      rw [h2] at h5; cases h5
    exact .step (ih hda) (step_del.2 ⟨hs, hda⟩)
theorem delP_mem {T : List Nd} {a : Nat} {n : Nd} (h : n ∈ delP T a) : n ∈ T ∧ n.num ≠ a := by
  unfold delP at h
  rw [List.mem_filter] at h
  exact ⟨h.1, by simpa using h.2⟩
theorem setP_ents {T : List Nd} {u a : Nat} {g : List (Nm × Nat) → List (Nm × Nat)} (hg : g [] = []) (hx : ∃ x, nodeAt T a = some x ∧ x.ents = []) : ∃ x, nodeAt (setP T u (fE g)) a = some x ∧ x.ents = [] := by
  obtain ⟨x, h1, h2⟩ := hx
  rw [nodeAt_set (fE_num _)]
  by_cases e : a = u
  · subst e
    rw [if_pos rfl, h1]
    exact ⟨_, rfl, by show g x.ents = []; rw [h2]; exact hg⟩
  · rw [if_neg e]; exact ⟨x, h1, h2⟩
theorem Reach.gone {T : List Nd} (h : Reach T) {u a : Nat} {nm : Nm} (hua : Step T u nm a) (hx : ∃ x, nodeAt T a = some x ∧ x.ents = []) : Reach (delP (setP T u (fE (dropE nm))) a) := fun n hn => by
  obtain ⟨h1, h2⟩ := delP_mem hn
  have : n.num ∈ T.map (·.num) := by rw [← setP_nums (fE_num (dropE nm)) (T := T) (k := u)]; exact List.mem_map.2 ⟨n, h1, rfl⟩
  obtain ⟨m, h3, h4⟩ := List.mem_map.1 this
  have := h m h3
  rw [h4] at this
  exact Rch.del (setP_ents rfl hx) (Rch.drop hua hx this h2) h2
theorem Reach.make {B : Nat} {T : List Nd} (h : Reach T) (wf : TWf B T) (kind : Int) (path : Nm) : Reach (makeS T kind path).1 := by
  unfold makeS
  split
  · exact h
  split
  · exact h
  · rename_i h1 h2
    have hp : (placeS T path).2.2 = 0 := by simpa using h1
    obtain ⟨x, h3, h4, h5, _⟩ := place_at hp
    obtain ⟨f1, _, _⟩ := free_spec wf.sorted (by omega)
    have hpu : Rch T (placeS T path).1 := by
      have := h x (nodeAt_mem h3).1
      rw [(nodeAt_mem h3).2] at this
      exact this
    generalize (placeS T path).1 = u at *
    generalize (placeS T path).2.1 = nm at *
    generalize freeS T = a at *
    have hau : u ≠ a := fun e => by rw [e, f1] at h3; cases h3
    have mono : ∀ d w k, Step T d w k → Step (setP (insP (newNd a kind) T) u (fE (putE nm a))) d w k := fun d w k ⟨n, g1, g2, g3⟩ => by
      refine lk_setE.2 ⟨n, ?_, g2, ?_⟩
      · rw [nodeAt_ins, if_neg]
        · exact g1
        · intro e
          rw [show (newNd a kind).num = a from rfl] at e
          rw [e, f1] at g1; cases g1
      · by_cases e : d = u
        · subst e
          rw [h3] at g1; cases g1
          rw [if_pos rfl, lk_put, if_neg]
          · exact g3
          · intro e
            subst e
            rw [h5] at g3; cases g3
        · rw [if_neg e]; exact g3
    intro n hn
    have : n.num ∈ (insP (newNd a kind) T).map (·.num) := by rw [← setP_nums (fE_num (putE nm a)) (T := insP (newNd a kind) T) (k := u)]; exact List.mem_map.2 ⟨n, hn, rfl⟩
    obtain ⟨m, g1, g2⟩ := List.mem_map.1 this
    rw [← g2]
    rcases insP_mem.1 g1 with rfl | g1
    · refine .step (Rch.mono mono hpu) (w := nm) (lk_setE.2 ⟨x, ?_, h4, ?_⟩)
      · rw [nodeAt_ins, if_neg (show ¬ u = (newNd a kind).num from hau)]; exact h3
      · rw [if_pos rfl, lk_put, if_pos rfl]; rfl
    · exact Rch.mono mono (h m g1)
theorem Reach.rmdir {T : List Nd} (h : Reach T) (path : Nm) : Reach (rmdirS T path).1 := by
  unfold rmdirS
  split
  · exact h
  · rename_i h1
    obtain ⟨x, x1, x2, x3, _⟩ := entry_ok' (show (entryS T path).2.2.2 = 0 by simpa using h1)
    split
    · exact h
    · rename_i n hn
      split
      · exact h
      split
      · exact h
      · rename_i h3
        exact Reach.gone h ⟨x, x1, x2, x3⟩ ⟨n, hn, by simpa using h3⟩
theorem Reach.unlink {B : Nat} {T : List Nd} (h : Reach T) (wf : TWf B T) (path : Nm) : Reach (unlinkS T path).1 := by
  unfold unlinkS
  split
  · exact h
  · rename_i h1
    obtain ⟨x, x1, x2, x3, _⟩ := entry_ok' (show (entryS T path).2.2.2 = 0 by simpa using h1)
    split
    · exact h
    · rename_i n hn
      split
      · exact h
      rename_i hk
      have hnk : n.ents = [] := by
        rcases (wf.at' hn).1.kind with ⟨h1, _⟩ | ⟨_, h1⟩
        · exact absurd h1 hk
        · exact h1
      generalize (entryS T path).1 = u at *
      generalize (entryS T path).2.1 = nm at *
      generalize (entryS T path).2.2.1 = a at *
      have same : ∀ {T : List Nd} {d : Nat} {w : Nm} {k : Nat}, Step (setP T a (fL (-1))) d w k ↔ Step T d w k := step_same (f := fL (-1)) fun n => ⟨rfl, rfl, rfl⟩
      split
      · rw [delP_set _ _ (fL_num _)]
        exact Reach.gone h ⟨x, x1, x2, x3⟩ ⟨n, hn, hnk⟩
      · rename_i hl
        refine Reach.of (T := T) h (fun j hj => ?_) (by rw [setP_nums (fL_num _), setP_nums (fE_num _)])
        have ne : ∀ j, Rch T j → j ≠ a → Rch (setP (setP T u (fE (dropE nm))) a (fL (-1))) j := fun j hj hja => Rch.mono (fun d w k hs => same.2 hs) (Rch.drop ⟨x, x1, x2, x3⟩ ⟨n, hn, hnk⟩ hj hja)
        by_cases e : j = a
        · subst e
          have h0 : j ≠ 0 := ((wf.at' x1).1.name _ (lk_mem x3)).2
          have hr := refs_set (f := fE (dropE nm)) j wf.nd x1
          have hd := cntE_drop (nm := nm) (j := j) j (nodupE (wf.at' x1).1.sort) x3
          rw [if_pos rfl] at hd
          have hc := wf.cnt' hn h0
          have hlp := (wf.at' hn).1.lpos
          have : 0 < refs (setP T u (fE (dropE nm))) j := by
            have e1 : cntE (fE (dropE nm) x).ents j = cntE (dropE nm x.ents) j := rfl
            rw [e1] at hr
            omega
          have : ∃ m ∈ setP T u (fE (dropE nm)), ∃ e ∈ m.ents, e.2 = j := Classical.byContradiction fun hno => by
            have := refs_zero (T := setP T u (fE (dropE nm))) (k := j) fun m hm e he hej => hno ⟨m, hm, e, he, hej⟩
            omega
          obtain ⟨m, hm, e, he, hej⟩ := this
          have ndT : ((setP T u (fE (dropE nm))).map (·.num)).Nodup := by rw [setP_nums (fE_num _)]; exact wf.nd
          have hma := mem_nodeAt ndT hm
          -- the node m is a directory that is reached
          have hmm : ∃ m0, nodeAt T m.num = some m0 ∧ m0.kind = m.kind ∧ (m.ents ≠ [] → m0.ents ≠ []) ∧ (m.ents.map (·.1)).Nodup := by
            rw [nodeAt_set (fE_num _)] at hma
            by_cases eu : m.num = u
            · rw [if_pos eu, ← eu] at hma
              rw [eu, x1] at hma
              cases hma
              refine ⟨x, by rw [eu]; exact x1, rfl, fun hne hx => hne ?_, ?_⟩
              · show dropE nm x.ents = []
                rw [hx]; rfl
              · exact (nodupE (wf.at' x1).1.sort).sublist (List.filter_sublist.map _)
            · rw [if_neg eu] at hma
              exact ⟨m, hma, rfl, fun h => h, nodupE (wf.at' hma).1.sort⟩
          obtain ⟨m0, g1, g2, g3, g4⟩ := hmm
          have hne : m.ents ≠ [] := fun h => by rw [h] at he; cases he
          have hk1 : m0.kind = 1 := by
            rcases (wf.at' g1).1.kind with ⟨h, _⟩ | ⟨_, h⟩
            · exact h
            · exact absurd h (g3 hne)
          have hmj : m.num ≠ j := fun e => by
            rw [e, hn] at g1
            cases g1
            exact hk hk1
          have rm : Rch T m.num := by
            have := h m0 (nodeAt_mem g1).1
            rw [(nodeAt_mem g1).2] at this
            exact this
          refine .step (ne _ rm hmj) (w := e.1) (same.2 ⟨m, hma, by rw [← g2]; exact hk1, ?_⟩)
          rw [lk_of_mem g4 he, hej]
        · exact ne j hj e
theorem Reach.link {B : Nat} {T : List Nd} (h : Reach T) (_ : TWf B T) (path other : Nm) : Reach (linkS T path other).1 := by
  unfold linkS
  split
  · exact h
  split
  · exact h
  · rename_i h1 h2
    obtain ⟨x, h3, h4, h5, _⟩ := place_at (show (placeS T other).2.2 = 0 by simpa using h2)
    refine Reach.of (T := T) h (fun j hj => Rch.mono (fun d w k hs => ?_) hj) (by rw [setP_nums (fL_num _), setP_nums (fE_num _)])
    refine (step_same (f := fL 1) fun n => ⟨rfl, rfl, rfl⟩).2 (lk_setE.2 ?_)
    obtain ⟨n, g1, g2, g3⟩ := hs
    refine ⟨n, g1, g2, ?_⟩
    by_cases e : d = (placeS T other).1
    · rw [if_pos e, lk_put, if_neg]
      · exact g3
      · intro e2
        rw [e, h3] at g1; cases g1
        rw [e2, h5] at g3; cases g3
    · rw [if_neg e]; exact g3
theorem Reach.rename {B : Nat} {T : List Nd} (h : Reach T) (wf : TWf B T) (p q : Nm) : Reach (renameS T p q).1 := by
  by_cases e : (renameS T p q).2 ≠ 0 ∨ q = p
  · rw [rename_err e]; exact h
  · have e1 : (renameS T p q).2 = 0 := Classical.byContradiction fun h => e (.inl h)
    have e2 : q ≠ p := fun h => e (.inr h)
    have mv := renamed wf e2 e1
    exact Reach.of h mv.rch mv.nums
theorem Reach.bytes {T : List Nd} (h : Reach T) (a : Nat) (g : List UInt8 → List UInt8) : Reach (setP T a (fD g)) :=
  Reach.of (T := T) h (fun _ hj => Rch.mono (fun _ _ _ hs => (step_same (f := fD g) fun _ => ⟨rfl, rfl, rfl⟩).2 hs) hj) (setP_nums (fD_num g))
theorem Reach.do {B : Nat} {T : List Nd} (h : Reach T) (wf : TWf B T) (kind : Int) (path other : Nm) (off n : Int) (d : List UInt8) : Reach (doS T kind path other off n d).1 := by
  unfold doS
  split
  · exact h.make wf kind path
  split
  · exact h.rmdir path
  split
  · exact h.unlink wf path
  split
  · exact h.link wf path other
  split
  · exact h.rename wf path other
  split
  · show Reach (writeS T path off d).1
    unfold writeS
    split
    · exact h
    split
    · exact h
    split
    · exact h
    split
    · exact h
    · exact h.bytes _ _
  split
  · exact h
  split
  · show Reach (cutS T path n).1
    unfold cutS
    split
    · exact h
    split
    · exact h
    split
    · exact h
    · exact h.bytes _ _
  split
  · exact h
  split
  · exact h
  split
  · exact h
  · exact h
theorem newT_reach : Reach newT := fun n hn => by
  obtain rfl : n = newNd 0 1 := by simpa [newT] using hn
  exact .root
end Go.Proofs.YtdieogcemmnaaaaGreatDoor

/- tree.whole: what it tells, plain: the root is a directory, entries lead somewhere, each other node is reached, and has as many links as entries. No condition. -/
namespace Go.Proofs.YtdieogcemmnaaaaGreatDoor
open Go.Proofs.YtdieogcemmnaaaaGreatDoor RX
set_option maxRecDepth 100000

/-! A walk through a map: its stamps, and the keys that have been. -/
structure Rng {κ : Type} (l : AL κ) (S : Array Nat) (P : List κ) : Prop where
  nd : P.Nodup
  sub : ∀ k ∈ P, k ∈ l.map (·.1)
  iff : ∀ x ∈ l, (x.2.2 ∈ S ↔ x.1 ∈ P)
theorem Rng.nil {κ : Type} (l : AL κ) : Rng l #[] [] := ⟨List.nodup_nil, fun _ h => by (cases h), fun x _ => by simp⟩
theorem Rng.step {κ : Type} {l : AL κ} {c : Nat} {S : Array Nat} {P : List κ} (hI : MapI l c) (h : Rng l S P) {x : κ × Value × Nat} (hx : x ∈ l) (hS : x.2.2 ∉ S) : x.1 ∉ P ∧ Rng l (S.push x.2.2) (P ++ [x.1]) := by
  have hP : x.1 ∉ P := fun e => hS ((h.iff x hx).2 e)
  refine ⟨hP, List.nodup_append.2 ⟨h.nd, by simp, fun a ha b hb => ?_⟩, fun k hk => ?_, fun y hy => ?_⟩
  · simp only [List.mem_singleton] at hb
    subst hb
    exact fun e => hP (e ▸ ha)
  · rcases List.mem_append.1 hk with hk | hk
    · exact h.sub k hk
    · obtain rfl := List.mem_singleton.1 hk
      exact List.mem_map.2 ⟨x, hx, rfl⟩
  · rw [Array.mem_push, List.mem_append, List.mem_singleton, h.iff y hy]
    constructor
    · rintro (e | e)
      · exact .inl e
      · obtain rfl := map_inj (fun z : κ × Value × Nat => z.2.2) hI.2.nodup hy hx e
        exact .inr rfl
    · rintro (e | e)
      · exact .inl e
      · obtain rfl := map_inj (fun z : κ × Value × Nat => z.1) hI.1 hy hx e
        exact .inr rfl
theorem Rng.done {κ : Type} {l : AL κ} {S : Array Nat} {P : List κ} (h : Rng l S P) (ha : ∀ x ∈ l, x.2.2 ∈ S) : ∀ k ∈ l.map (·.1), k ∈ P := fun k hk => by
  obtain ⟨x, hx, rfl⟩ := List.mem_map.1 hk
  exact (h.iff x hx).1 (ha x hx)

/-! Sums over numbers. -/
theorem sum_perm {l m : List Nat} (h : l.Perm m) : l.sum = m.sum := by
  induction h with
  | nil => rfl
  | cons x _ ih => simp [ih]
  | swap x y l => simp; omega
  | trans _ _ h1 h2 => exact h1.trans h2
theorem sum_le {g : Nat → Nat} : ∀ {D M : List Nat}, D.Nodup → (∀ d ∈ D, d ∈ M) → (D.map g).sum ≤ (M.map g).sum
  | [], _, _, _ => by simp
  | d :: D, M, hn, hs => by
    rw [List.nodup_cons] at hn
    have hp := List.perm_cons_erase (hs d (by simp))
    have := sum_perm (hp.map g)
    have ih := sum_le (g := g) (D := D) (M := M.erase d) hn.2 fun x hx => (List.mem_erase_of_ne (fun e => hn.1 (by rw [← e]; exact hx))).2 (hs x (by simp [hx]))
    rw [this]; simp; omega
theorem sum_eq {g : Nat → Nat} : ∀ {D M : List Nat}, D.Nodup → M.Nodup → (∀ d ∈ D, d ∈ M) → (∀ m ∈ M, m ∉ D → g m = 0) → (D.map g).sum = (M.map g).sum
  | [], M, _, _, _, hz => by
    have : ∀ M : List Nat, (∀ m ∈ M, g m = 0) → (M.map g).sum = 0 := fun M => by
      induction M with
      | nil => intro _; rfl
      | cons x M ih =>
        intro h
        rw [List.map_cons, List.sum_cons, h x (by simp), ih fun m hm => h m (by simp [hm])]
    rw [this M fun m hm => hz m hm (by simp)]; rfl
  | d :: D, M, hn, hM, hs, hz => by
    rw [List.nodup_cons] at hn
    have hp := List.perm_cons_erase (hs d (by simp))
    have h1 := sum_perm (hp.map g)
    have ih := sum_eq (g := g) (D := D) (M := M.erase d) hn.2 (hM.erase d) (fun x hx => (List.mem_erase_of_ne (fun e => hn.1 (by rw [← e]; exact hx))).2 (hs x (by simp [hx]))) fun m hm hD => by
      have h2 := (List.Nodup.mem_erase_iff hM).1 hm
      exact hz m h2.2 (by simp [h2.1, hD])
    rw [h1]; simp; omega

def entsAt (T : List Nd) (d : Nat) : List (Nm × Nat) := match nodeAt T d with
  | some n => n.ents
  | none => []
def seenD (T : List Nd) (D : List Nat) (k : Nat) : Nat := (D.map fun d => cntE (entsAt T d) k).sum
def isDir (T : List Nd) (d : Nat) : Prop := ∃ n, nodeAt T d = some n ∧ n.kind = 1
/-- A whole tree. -/
structure WholeT (T : List Nd) : Prop where
  root : isDir T 0
  tgt : ∀ n ∈ T, ∀ e ∈ n.ents, (nodeAt T e.2).isSome = true ∧ e.2 ≠ 0
  cnt : ∀ n ∈ T, n.num ≠ 0 → (refs T n.num : Int) = n.links ∧ Rch T n.num
open Classical in
noncomputable def wholeS (T : List Nd) : Bool := decide (WholeT T)

theorem okN_all : ∀ {last : Int} {T : List Nd}, okN last T = true → (∀ n ∈ T, last < n.num ∧ n.num < 64 ∧ goodS n = true) ∧ (T.map (·.num)).Pairwise (· < ·)
  | _, [], _ => ⟨fun _ h => (by cases h), List.Pairwise.nil⟩
  | last, n :: r, h => by
    unfold okN at h
    simp only [Bool.and_eq_true, decide_eq_true_eq] at h
    obtain ⟨⟨⟨h1, h2⟩, h3⟩, h4⟩ := h
    obtain ⟨g1, g2⟩ := okN_all h4
    refine ⟨fun x hx => ?_, ?_⟩
    · rcases List.mem_cons.1 hx with rfl | hx
      · exact ⟨h1, by omega, h3⟩
      · have := g1 x hx; exact ⟨by omega, this.2⟩
    · rw [List.map_cons, List.pairwise_cons]
      exact ⟨fun y hy => by obtain ⟨x, hx, rfl⟩ := List.mem_map.1 hy; have := (g1 x hx).1; omega, g2⟩
/-- What nodes are that may be one tree's, each by itself. -/
structure Prep (T : List Nd) : Prop where
  nd : (T.map (·.num)).Nodup
  few : ∀ n ∈ T, n.num < 64
  good : ∀ n ∈ T, goodS n = true
theorem Prep.of {T : List Nd} (h : okN (-1) T = true) : Prep T := by
  obtain ⟨h1, h2⟩ := okN_all h
  exact ⟨h2.imp fun hab e => by omega, fun n hn => (h1 n hn).2.1, fun n hn => (h1 n hn).2.2⟩
theorem goodS_dir {n : Nd} (h : goodS n = true) (hk : n.kind = 1) : n.links = 1 ∧ (n.ents.map (·.1)).Nodup := by
  unfold goodS at h
  rw [if_pos hk] at h
  simp only [Bool.and_eq_true, decide_eq_true_eq] at h
  exact ⟨h.1.2, nodup_of' (okE_lt h.2).2.1⟩
theorem goodS_file {n : Nd} (h : goodS n = true) (hk : n.kind ≠ 1) : n.ents = [] := by
  unfold goodS at h
  rw [if_neg hk] at h
  split at h
  · simp only [Bool.and_eq_true, decide_eq_true_eq] at h; exact h.2
  · cases h
theorem goodS_nd {n : Nd} (h : goodS n = true) : (n.ents.map (·.1)).Nodup := by
  by_cases hk : n.kind = 1
  · exact (goodS_dir h hk).2
  · rw [goodS_file h hk]; exact List.nodup_nil
variable {T : List Nd}
theorem Prep.at (p : Prep T) {n : Nd} (hn : n ∈ T) : nodeAt T n.num = some n := mem_nodeAt p.nd hn
theorem Prep.ents (p : Prep T) {n : Nd} (hn : n ∈ T) : entsAt T n.num = n.ents := by unfold entsAt; rw [p.at hn]
theorem Prep.refs (p : Prep T) (k : Nat) : refs T k = ((T.map (·.num)).map fun d => cntE (entsAt T d) k).sum := by
  unfold Go.Proofs.YtdieogcemmnaaaaGreatDoor.refs
  rw [List.map_map]
  congr 1
  exact List.map_congr_left fun n hn => by simp only [Function.comp_apply]; rw [p.ents hn]
theorem isDir.mem {d : Nat} (h : isDir T d) : d ∈ T.map (·.num) := by
  obtain ⟨n, h1, _⟩ := h
  obtain ⟨h2, h3⟩ := nodeAt_mem h1
  exact List.mem_map.2 ⟨n, h2, h3⟩
theorem Prep.le (p : Prep T) {D : List Nat} (hD : D.Nodup) (hd : ∀ d ∈ D, isDir T d) (k : Nat) : seenD T D k ≤ Go.Proofs.YtdieogcemmnaaaaGreatDoor.refs T k := by
  rw [p.refs]
  exact sum_le hD fun d h => (hd d h).mem
theorem Prep.eq (p : Prep T) {D : List Nat} (hD : D.Nodup) (hd : ∀ d ∈ D, isDir T d) (hall : ∀ d, isDir T d → d ∈ D) (k : Nat) : seenD T D k = Go.Proofs.YtdieogcemmnaaaaGreatDoor.refs T k := by
  rw [p.refs]
  refine sum_eq hD p.nd (fun d h => (hd d h).mem) fun m hm hn => ?_
  obtain ⟨n, h1, rfl⟩ := List.mem_map.1 hm
  show cntE (entsAt T n.num) k = 0
  have : n.kind ≠ 1 := fun e => hn (hall _ ⟨n, p.at h1, e⟩)
  rw [p.ents h1, goodS_file (p.good n h1) this]; rfl
theorem seenD_cons (T : List Nd) (u : Nat) (D : List Nat) (k : Nat) : seenD T (u :: D) k = cntE (entsAt T u) k + seenD T D k := by simp [seenD]
theorem cntE_sub {l m : List (Nm × Nat)} (hn : l.Nodup) (hs : ∀ e ∈ l, e ∈ m) (k : Nat) : cntE l k ≤ cntE m k := by
  unfold cntE
  rw [List.countP_eq_length_filter, List.countP_eq_length_filter]
  refine nodup_sub (hn.filter _) fun e he => ?_
  rw [List.mem_filter] at he ⊢
  exact ⟨hs e he.1, he.2⟩
theorem cntE_snoc (l : List (Nm × Nat)) (e : Nm × Nat) (k : Nat) : cntE (l ++ [e]) k = cntE l k + if e.2 = k then 1 else 0 := by
  unfold cntE
  rw [List.countP_append]; simp [List.countP_cons]
/-- The walk's state: directories that have been, and those that wait. -/
structure WI (T : List Nd) (D st : List Nat) (f : Nat → Nat) : Prop where
  nd : (D ++ st).Nodup
  dir : ∀ d ∈ D ++ st, isDir T d ∧ Rch T d
  root : 0 ∈ D ++ st
  one : ∀ d ∈ D ++ st, d ≠ 0 → 1 ≤ f d
  all : ∀ d, isDir T d → d ≠ 0 → 1 ≤ f d → d ∈ D ++ st
theorem WI.init (h : isDir T 0) : WI T [] [0] fun _ => 0 := by
  refine ⟨by simp, fun d hd => ?_, by simp, fun d hd h0 => ?_, fun d _ _ h1 => by omega⟩
  · obtain rfl : d = 0 := by simpa using hd
    exact ⟨h, .root⟩
  · exact absurd (by simpa using hd) h0
theorem WI.pop {D st : List Nat} {u : Nat} {f : Nat → Nat} (h : WI T D (st ++ [u]) f) : WI T (u :: D) st f := by
  have hp : (D ++ (st ++ [u])).Perm (u :: D ++ st) := by
    rw [← List.append_assoc]
    exact List.perm_append_comm (l₁ := D ++ st) (l₂ := [u])
  have hm : ∀ d, d ∈ D ++ (st ++ [u]) ↔ d ∈ u :: D ++ st := fun d => hp.mem_iff
  exact ⟨hp.nodup h.nd, fun d hd => h.dir d ((hm d).2 hd), (hm 0).1 h.root, fun d hd => h.one d ((hm d).2 hd), fun d a b c => (hm d).1 (h.all d a b c)⟩
theorem WI.file {D st : List Nat} {f : Nat → Nat} (h : WI T D st f) {k : Nat} (hk : ¬ isDir T k) : WI T D st fun q => if q = k then f k + 1 else f q := by
  refine ⟨h.nd, h.dir, h.root, fun d hd h0 => ?_, fun d hd h0 h1 => ?_⟩
  · have := h.one d hd h0
    show 1 ≤ (if d = k then f k + 1 else f d)
    split
    · omega
    · exact this
  · have h1 : 1 ≤ (if d = k then f k + 1 else f d) := h1
    rw [if_neg (fun e => hk (by rw [← e]; exact hd))] at h1
    exact h.all d hd h0 h1
theorem WI.push {D st : List Nat} {f : Nat → Nat} (h : WI T D st f) {k : Nat} (hk : isDir T k) (hr : Rch T k) (h0 : k ≠ 0) (hf : f k = 0) : WI T D (st ++ [k]) fun q => if q = k then f k + 1 else f q := by
  have hn : k ∉ D ++ st := fun e => by have := h.one k e h0; omega
  have hm : ∀ d, d ∈ D ++ (st ++ [k]) ↔ d ∈ D ++ st ∨ d = k := fun d => by simp [or_assoc]
  refine ⟨?_, fun d hd => ?_, (hm 0).2 (.inl h.root), fun d hd hd0 => ?_, fun d hd hd0 h1 => ?_⟩
  · rw [← List.append_assoc]
    refine List.nodup_append.2 ⟨h.nd, by simp, fun a ha b hb e => ?_⟩
    obtain rfl := List.mem_singleton.1 hb
    exact hn (e ▸ ha)
  · rcases (hm d).1 hd with hd | rfl
    · exact h.dir d hd
    · exact ⟨hk, hr⟩
  · show 1 ≤ (if d = k then f k + 1 else f d)
    split
    · omega
    · rename_i e
      exact h.one d (((hm d).1 hd).resolve_right e) hd0
  · by_cases e : d = k
    · exact (hm d).2 (.inr e)
    · have h1 : 1 ≤ (if d = k then f k + 1 else f d) := h1
      rw [if_neg e] at h1
      exact (hm d).2 (.inl (h.all d hd hd0 h1))
theorem WI.few {D st : List Nat} {f : Nat → Nat} (h : WI T D st f) : D.length + st.length ≤ T.length := by
  have := nodup_sub h.nd (m := T.map (·.num)) fun d hd => (h.dir d hd).1.mem
  simpa using this
/-- At the walk's end. -/
structure WEnd (T : List Nd) (D : List Nat) (f : Nat → Nat) : Prop where
  wi : WI T D [] f
  f : ∀ k, f k = seenD T D k
  tgt : ∀ d ∈ D, ∀ e ∈ entsAt T d, (nodeAt T e.2).isSome = true ∧ e.2 ≠ 0
theorem Step.ent {d k : Nat} {w : Nm} (h : Step T d w k) : isDir T d ∧ (w, k) ∈ entsAt T d := by
  obtain ⟨n, h1, h2, h3⟩ := h
  exact ⟨⟨n, h1, h2⟩, by unfold entsAt; rw [h1]; exact lk_mem h3⟩
theorem Prep.step (p : Prep T) {d k : Nat} {w : Nm} (h : isDir T d) (he : (w, k) ∈ entsAt T d) : Step T d w k := by
  obtain ⟨n, h1, h2⟩ := h
  refine ⟨n, h1, h2, ?_⟩
  unfold entsAt at he
  rw [h1] at he
  exact lk_of_mem (goodS_nd (p.good n (nodeAt_mem h1).1)) he
theorem seenD_pos {D : List Nat} {d k : Nat} {w : Nm} (hd : d ∈ D) (he : (w, k) ∈ entsAt T d) : 1 ≤ seenD T D k := by
  have h1 := cntE_pos he
  have h2 := sum_le (g := fun d => cntE (entsAt T d) k) (D := [d]) (M := D) (by simp) fun x hx => by obtain rfl := List.mem_singleton.1 hx; exact hd
  simp only [List.map_cons, List.map_nil, List.sum_cons, List.sum_nil] at h2
  unfold seenD; omega
theorem seenD_ex {D : List Nat} {k : Nat} (h : seenD T D k ≠ 0) : ∃ d ∈ D, ∃ w, (w, k) ∈ entsAt T d := by
  induction D with
  | nil => exact absurd rfl h
  | cons u D ih =>
    rw [seenD_cons] at h
    by_cases h1 : cntE (entsAt T u) k = 0
    · obtain ⟨d, hd, w, hw⟩ := ih (by omega)
      exact ⟨d, by simp [hd], w, hw⟩
    · have : 0 < (entsAt T u).countP fun e => decide (e.2 = k) := Nat.pos_of_ne_zero h1
      obtain ⟨e, h2, h3⟩ := List.countP_pos_iff.1 this
      have h3 : e.2 = k := by simpa using h3
      exact ⟨u, by simp, e.1, by rw [← h3]; exact h2⟩
theorem WEnd.dirs {D : List Nat} {f : Nat → Nat} (h : WEnd T D f) {k : Nat} (hr : Rch T k) : isDir T k → k ∈ D := by
  induction hr with
  | root => exact fun _ => by simpa using h.wi.root
  | @step d k w _ hs ih =>
    intro hk
    obtain ⟨h1, h2⟩ := hs.ent
    have hd := ih h1
    by_cases h0 : k = 0
    · subst h0; simpa using h.wi.root
    · have := seenD_pos hd h2
      have := h.wi.all k hk h0 (by rw [h.f]; exact this)
      simpa using this
theorem WEnd.no (p : Prep T) {D : List Nat} {f : Nat → Nat} (h : WEnd T D f) {n : Nd} (hn : n ∈ T) (h0 : n.num ≠ 0) (hb : f n.num = 0 ∨ (f n.num : Int) ≠ n.links) : ¬ WholeT T := fun w => by
  have hall : ∀ d, isDir T d → d ∈ D := fun d hd => by
    by_cases e : d = 0
    · subst e; simpa using h.wi.root
    · obtain ⟨x, hx, hk⟩ := hd
      obtain ⟨h1, h2⟩ := nodeAt_mem hx
      have := (w.cnt x h1 (by omega)).2
      rw [h2] at this
      exact h.dirs this ⟨x, hx, hk⟩
  have hD : D.Nodup := by simpa using h.wi.nd
  have hdir : ∀ d ∈ D, isDir T d := fun d hd => (h.wi.dir d (by simpa using hd)).1
  have he := p.eq hD hdir hall n.num
  obtain ⟨h1, h2⟩ := w.cnt n hn h0
  rw [h.f, he] at hb
  rcases hb with hb | hb
  · generalize hk : n.num = k at h2
    cases h2 with
    | root => exact h0 hk
    | @step d _ nm hd hs =>
      obtain ⟨g1, g2⟩ := hs.ent
      have := seenD_pos (hall _ g1) g2
      rw [← hk, he] at this
      omega
  · exact hb h1
theorem WEnd.yes (p : Prep T) {D : List Nat} {f : Nat → Nat} (h : WEnd T D f) (ha : ∀ n ∈ T, n.num ≠ 0 → f n.num ≠ 0 ∧ (f n.num : Int) = n.links) : WholeT T := by
  have hall : ∀ d, isDir T d → d ∈ D := fun d hd => by
    by_cases e : d = 0
    · subst e; simpa using h.wi.root
    · obtain ⟨x, hx, hk⟩ := hd
      obtain ⟨h1, h2⟩ := nodeAt_mem hx
      have := (ha x h1 (by omega)).1
      have := h.wi.all d ⟨x, hx, hk⟩ e (by rw [← h2]; omega)
      simpa using this
  have hD : D.Nodup := by simpa using h.wi.nd
  have hdir : ∀ d ∈ D, isDir T d ∧ Rch T d := fun d hd => h.wi.dir d (by simpa using hd)
  have he := p.eq hD (fun d hd => (hdir d hd).1) hall
  refine ⟨(hdir 0 (by simpa using h.wi.root)).1, fun n hn e hE => ?_, fun n hn h0 => ?_⟩
  · by_cases hk : n.kind = 1
    · exact h.tgt n.num (hall _ ⟨n, p.at hn, hk⟩) e (by rw [p.ents hn]; exact hE)
    · rw [goodS_file (p.good n hn) hk] at hE; cases hE
  · obtain ⟨h1, h2⟩ := ha n hn h0
    rw [h.f] at h1 h2
    refine ⟨by rw [← he]; exact h2, ?_⟩
    obtain ⟨d, hd, w, hw⟩ := seenD_ex h1
    exact .step (hdir d hd).2 (p.step (hdir d hd).1 hw)
/-- In the walk: one directory's entries. -/
structure WIn (T : List Nd) (u : Nat) (D st : List Nat) (P : List (Nm × Nat)) (f : Nat → Nat) : Prop where
  wi : WI T (u :: D) st f
  f : ∀ k, f k = seenD T D k + cntE P k
  tgt : ∀ d ∈ D, ∀ e ∈ entsAt T d, (nodeAt T e.2).isSome = true ∧ e.2 ≠ 0
  nd : (P.map (·.1)).Nodup
  sub : ∀ e ∈ P, e ∈ entsAt T u ∧ (nodeAt T e.2).isSome = true ∧ e.2 ≠ 0
theorem nodup_map {α β : Type} {g : α → β} {l : List α} (h : (l.map g).Nodup) : l.Nodup := by
  rw [List.nodup_iff_pairwise_ne, List.pairwise_map] at h
  exact h.imp fun hab e => hab (by rw [e])
theorem WIn.lt (p : Prep T) {u : Nat} {D st : List Nat} {P : List (Nm × Nat)} {f : Nat → Nat} (h : WIn T u D st P f) {e : Nm × Nat} (he : e ∈ entsAt T u) (hP : e.1 ∉ P.map (·.1)) : f e.2 + 1 ≤ refs T e.2 := by
  have h1 : cntE (P ++ [e]) e.2 ≤ cntE (entsAt T u) e.2 := by
    refine cntE_sub (List.nodup_append.2 ⟨nodup_map h.nd, by simp, fun a ha b hb q => ?_⟩) (fun x hx => ?_) _
    · obtain rfl := List.mem_singleton.1 hb
      subst q
      exact hP (List.mem_map.2 ⟨a, ha, rfl⟩)
    · rcases List.mem_append.1 hx with hx | hx
      · exact (h.sub x hx).1
      · obtain rfl := List.mem_singleton.1 hx; exact he
  have hn : (u :: D).Nodup := (List.nodup_append.1 h.wi.nd).1
  have h2 := p.le hn (fun d hd => (h.wi.dir d (by simp only [List.mem_append]; exact .inl hd)).1) e.2
  rw [seenD_cons] at h2
  rw [cntE_snoc, if_pos rfl] at h1
  have := h.f e.2
  omega
theorem WIn.snoc {u : Nat} {D st st' : List Nat} {P : List (Nm × Nat)} {f : Nat → Nat} (h : WIn T u D st P f) {e : Nm × Nat} (he : e ∈ entsAt T u) (hP : e.1 ∉ P.map (·.1)) (h1 : (nodeAt T e.2).isSome = true) (h0 : e.2 ≠ 0)
    (hw : WI T (u :: D) st' fun q => if q = e.2 then f e.2 + 1 else f q) : WIn T u D st' (P ++ [e]) fun q => if q = e.2 then f e.2 + 1 else f q := by
  refine ⟨hw, fun k => ?_, h.tgt, ?_, fun x hx => ?_⟩
  · rw [cntE_snoc]
    by_cases q : k = e.2
    · subst q; simp [h.f]; omega
    · have q2 : ¬ e.2 = k := fun q2 => q q2.symm
      simp [h.f, q, q2]
  · rw [List.map_append, List.nodup_append]
    refine ⟨h.nd, by simp, fun a ha b hb q => ?_⟩
    simp only [List.map_cons, List.map_nil, List.mem_singleton] at hb
    subst hb; subst q
    exact hP ha
  · rcases List.mem_append.1 hx with hx | hx
    · exact h.sub x hx
    · obtain rfl := List.mem_singleton.1 hx; exact ⟨he, h1, h0⟩
/-- Behind one directory. -/
theorem WIn.out {u : Nat} {D st : List Nat} {P : List (Nm × Nat)} {f : Nat → Nat} (p : Prep T) (h : WIn T u D st P f) (hall : ∀ e ∈ entsAt T u, e.1 ∈ P.map (·.1)) :
    (∀ k, f k = seenD T (u :: D) k) ∧ ∀ d ∈ u :: D, ∀ e ∈ entsAt T d, (nodeAt T e.2).isSome = true ∧ e.2 ≠ 0 := by
  have hnd : ((entsAt T u).map (·.1)).Nodup := by
    obtain ⟨n, h1, _⟩ := (h.wi.dir u (by simp)).1
    unfold entsAt; rw [h1]; exact goodS_nd (p.good n (nodeAt_mem h1).1)
  have hmem : ∀ e ∈ entsAt T u, e ∈ P := fun e he => by
    obtain ⟨x, hx, hx1⟩ := List.mem_map.1 (hall e he)
    obtain rfl := map_inj (fun z : Nm × Nat => z.1) hnd (h.sub x hx).1 he hx1
    exact hx
  refine ⟨fun k => ?_, fun d hd e he => ?_⟩
  · have h1 := cntE_sub (nodup_map h.nd) (fun e he => (h.sub e he).1) k
    have h2 := cntE_sub (nodup_map hnd) hmem k
    rw [seenD_cons, h.f]; omega
  · rcases List.mem_cons.1 hd with rfl | hd
    · exact (h.sub e (hmem e he)).2
    · exact h.tgt d hd e he
theorem sum_most (g : Nd → Nat) (M : Nat) : ∀ {T : List Nd}, (∀ n ∈ T, g n ≤ M) → (T.map g).sum ≤ T.length * M
  | [], _ => by simp
  | n :: r, h => by
    have := sum_most g M (T := r) fun x hx => h x (by simp [hx])
    have := h n (by simp)
    rw [List.map_cons, List.sum_cons, List.length_cons, Nat.add_mul]; omega
theorem Prep.most (p : Prep T) {M : Nat} (h : ∀ n ∈ T, n.ents.length ≤ M) (k : Nat) : Go.Proofs.YtdieogcemmnaaaaGreatDoor.refs T k ≤ 64 * M := by
  have h1 := sum_most (fun n => cntE n.ents k) M (T := T) fun n hn => Nat.le_trans List.countP_le_length (h n hn)
  have h2 : T.length ≤ 64 := by
    have := nodup_sub p.nd (m := List.range 64) fun x hx => by
      obtain ⟨n, hn, rfl⟩ := List.mem_map.1 hx
      exact List.mem_range.2 (p.few n hn)
    simpa using this
  have h3 : T.length * M ≤ 64 * M := Nat.mul_le_mul_right _ h2
  exact Nat.le_trans h1 h3
end Go.Proofs.YtdieogcemmnaaaaGreatDoor
