/- Texts of this claim, joined: Dev, DevP, Base, Map, Range, MapO, MapV, TrUnit, UnitA. No condition. -/
import Derived.Test.YtmibmjehjagmbaaBoAJ1
import Derived.Test.YtmibmjehjagmbaaRows
import Derived.WalkKit
import Derived.WalkSpells
import Derived.WalkSmall
import Derived.WalkLawsBesides
import Derived.RegionTactic
import Derived.BigRegion
import Derived.BigQuiet
import Derived.Deep.QuietTactic
import Derived.Deep.RegionHeld3
import Derived.Lib.Hide
import Derived.Maps.OwnSet
import Derived.Maps.OwnOps
import Derived.Laws.IdiomRangeMap
import Derived.KernelRfl
set_option linter.unusedSimpArgs false
set_option linter.unusedVariables false
/- Contracts of the device. No condition. -/
namespace Go.Proofs.Ytmibmjehjagmbaa
set_option linter.unusedSimpArgs false
set_option linter.unusedVariables false
open Go.Proofs.Ytmibmjehjagmbaa RX

/-- A page: what it is (0 empty, 1 whole, 2 torn), and its bytes. -/
structure Pg where
  is : Int
  data : List UInt8
structure PgRec where
  is : Int
  a : Option Addr
  n : Nat
  c : Nat
def PgRec.vals (x : PgRec) : List Value := [.int .i64 x.is, .slice x.a x.n x.c]
def pgCells (xs : List PgRec) : List Value := xs.flatMap PgRec.vals
/-- The bytes of the pages never turn. -/
def AllD : List PgRec → List Pg → HP
  | [], [] => HP.tt
  | x :: xs, p :: ps => HP.and (x.is = p.is ∧ x.n = p.data.length ∧ p.data.length ≤ 140737488355328) (HP.sep (RoB x.a x.n p.data) (AllD xs ps))
  | _, _ => HP.pure False
theorem AllD.any {R : PH} : ∀ {xs : List PgRec} {ps : List Pg} {h h' : PH}, (AllD xs ps).p R h → (AllD xs ps).p R h'
  | [], [], _, _, _ => trivial
  | _ :: _, _ :: _, _, h', ⟨q, H⟩ => ⟨q, RoC.join (HP.sep_left H) (AllD.any (h' := h') (HP.sep_right H))⟩
  | [], _ :: _, _, _, H => H
  | _ :: _, [], _, _, H => H
theorem AllD.len {R h : PH} : ∀ {xs : List PgRec} {ps : List Pg}, (AllD xs ps).p R h → xs.length = ps.length
  | [], [], _ => rfl
  | x :: xs, p :: ps, ⟨_, H⟩ => by simp [AllD.len (HP.sep_right H)]
  | [], _ :: _, H => H.elim
  | _ :: _, [], H => H.elim
theorem AllD.snoc {R h : PH} {x : PgRec} {p : Pg} (hx : x.is = p.is ∧ x.n = p.data.length ∧ p.data.length ≤ 140737488355328) (hr : (RoB x.a x.n p.data).p R h) : ∀ {xs : List PgRec} {ps : List Pg}, (AllD xs ps).p R h → (AllD (xs ++ [x]) (ps ++ [p])).p R h
  | [], [], _ => ⟨hx, RoC.join hr (trivial : HP.tt.p R h)⟩
  | _ :: _, _ :: _, ⟨q, H⟩ => ⟨q, RoC.join (HP.sep_left H) (AllD.snoc hx hr (HP.sep_right H) |> AllD.any (h' := h))⟩
  | [], _ :: _, H => H.elim
  | _ :: _, [], H => H.elim
theorem AllD.get {R h : PH} : ∀ {xs : List PgRec} {ps : List Pg} (i : Nat) {p : Pg}, (AllD xs ps).p R h → ps[i]? = some p → ∃ x, xs[i]? = some x ∧ x.is = p.is ∧ x.n = p.data.length ∧ (RoB x.a x.n p.data).p R h
  | [], [], i, p, _, hp => by simp at hp
  | x :: xs, q :: ps, 0, p, ⟨h1, H⟩, hp => by simp at hp; subst hp; exact ⟨x, rfl, h1.1, h1.2.1, HP.sep_left H⟩
  | x :: xs, q :: ps, i + 1, p, ⟨h1, H⟩, hp => by
    obtain ⟨y, q1, q2, q3, q4⟩ := AllD.get (h := h) i (AllD.any (HP.sep_right H)) (by simpa using hp)
    exact ⟨y, by simpa using q1, q2, q3, q4⟩
  | [], _ :: _, _, _, H, _ => H.elim
  | _ :: _, [], _, _, H, _ => H.elim
theorem pgCells_len (xs : List PgRec) : (pgCells xs).length = xs.length * 2 := by
  induction xs with
  | nil => rfl
  | cons x r ih => simp only [pgCells, List.flatMap_cons, List.length_append, List.length_cons] at ih ⊢; rw [ih]; simp [PgRec.vals]; omega

def DInv (room : Int) (ps : List Pg) (lasts : Nat) : Prop := 0 ≤ room ∧ room ≤ 65536 ∧ (ps.length : Int) ≤ room ∧ lasts ≤ ps.length
def DRep (b : Nat) (room : Int) (ps : List Pg) (lasts : Nat) : HP := HP.ex fun a => HP.ex fun c => HP.ex fun xs => HP.and (DInv room ps lasts ∧ xs.length = ps.length) (HP.sep (HP.one b (.cells #[.int .i64 room, .slice a ps.length c, .int .i64 lasts] 108)) (HP.sep (OwC 110 2 a ps.length c (pgCells xs)) (AllD xs ps)))
/-- .. as the code has it: one part for the pages. -/
theorem DRep.tri {f : FuncId} {args : Array Value} {b : Nat} {room : Int} {ps : List Pg} {lasts : Nat} {B : Value → HP}
    (t : ∀ a c xs, DInv room ps lasts → xs.length = ps.length → Tri Try.prog f args (HP.sep (HP.one b (.cells #[.int .i64 room, .slice a ps.length c, .int .i64 lasts] 108)) (HP.sep (OwC 110 2 a ps.length c (pgCells xs)) (AllD xs ps))) B) :
    Tri Try.prog f args (DRep b room ps lasts) B := Tri.ex fun a => Tri.ex fun c => Tri.ex fun xs => Tri.pure fun h => t a c xs h.1 h.2
theorem dFree_ok (b : Nat) (room : Int) (a : Option Addr) (n c : Nat) (S : HP) (lasts : Int) (h1 : -100000 ≤ room - n) (h2 : room - n ≤ 100000) :
    Tri Try.prog 86 #[.pointer (some ⟨b, 0, none⟩)] (HP.sep (HP.one b (.cells #[.int .i64 room, .slice a n c, .int .i64 lasts] 108)) S)
      (fun v => HP.and (v = .int .i64 (room - n)) (HP.sep (HP.one b (.cells #[.int .i64 room, .slice a n c, .int .i64 lasts] 108)) S)) := by
  refine tri_of_tree (ρ := [.n b, .i room, .a a, .n n, .n c, .p S, .i lasts]) mixed Try.func86 tree_dFree ?_
  unfold t_dFree
  simp only [T.den, E.prop, E.den, RX.look, F1.app, F2.app, Uni.int_i, Uni.nat_n, Uni.bool_c, Uni.str_s, Uni.adr_a, Uni.val_v, Uni.hp_p, hden, cden, V.den, W.den, A.den, BR.den, SA.den, FV.den, capV, exs, exP, allP, Cur.app, List.map_cons, List.map_nil, List.cons_append, List.nil_append, List.drop_succ_cons, List.drop_zero, List.length_cons, List.length_nil, Nat.zero_add, Nat.reduceAdd, Int.neg_neg, Bool.not_not, List.append_nil, Nat.add_zero, List.getElem?_cons_zero, List.getElem?_cons_succ, Decidable.not_not]
  exact ⟨inI64 _ (by omega) (by omega), fun _ => .of fun _ _ H => ⟨trivial, H⟩⟩
theorem dNew_ok (n : Int) (h1 : 1 ≤ n) (h2 : n ≤ 65536) : Tri Try.prog 23 #[.int .i64 n] HP.tt (fun v => HP.ex fun b => HP.and (v = .tuple #[.pointer (some ⟨b, 0, none⟩), .int .i64 0]) (DRep b n [] 0)) := by
  refine tri_of_tree (ρ := [.i n]) mixed Try.func23 tree_dNew ?_
  unfold t_dNew
  simp only [T.den, E.prop, E.den, RX.look, F1.app, F2.app, Uni.int_i, Uni.nat_n, Uni.bool_c, Uni.str_s, Uni.adr_a, Uni.val_v, Uni.hp_p, hden, cden, V.den, W.den, A.den, BR.den, SA.den, FV.den, capV, exs, exP, allP, Cur.app, List.map_cons, List.map_nil, List.cons_append, List.nil_append, List.drop_succ_cons, List.drop_zero, List.length_cons, List.length_nil, Nat.zero_add, Nat.reduceAdd, Int.neg_neg, Bool.not_not, List.append_nil, Nat.add_zero, List.getElem?_cons_zero, List.getElem?_cons_succ, Decidable.not_not]
  refine ⟨fun h => absurd h (by omega), fun _ => ⟨fun h => absurd h (by omega), fun _ x => .of fun R h H => ?_⟩⟩
  exact ⟨x, rfl, none, 0, [], ⟨⟨by omega, by omega, by simp; omega, by simp⟩, rfl⟩, HP.sep_mono (HP.sep_tt H) (fun _ h => h) fun y _ => HP.sep_tt (OwC.nil _ _ R y)⟩
theorem dSyncRaw_ok (b : Nat) (room : Int) (a : Option Addr) (n c : Nat) (lasts : Int) (S : HP) : Tri Try.prog 58 #[.pointer (some ⟨b, 0, none⟩)] (HP.sep (HP.one b (.cells #[.int .i64 room, .slice a n c, .int .i64 lasts] 108)) S)
    (fun v => HP.and (v = .tuple #[]) (HP.sep (HP.one b (.cells #[.int .i64 room, .slice a n c, .int .i64 n] 108)) S)) := by
  refine tri_of_tree (ρ := [.n b, .i room, .a a, .n n, .n c, .p S, .i lasts]) mixed Try.func58 tree_dSync ?_
  unfold t_dSync
  simp only [T.den, E.prop, E.den, RX.look, F1.app, F2.app, Uni.int_i, Uni.nat_n, Uni.bool_c, Uni.str_s, Uni.adr_a, Uni.val_v, Uni.hp_p, hden, cden, V.den, W.den, A.den, BR.den, SA.den, FV.den, capV, exs, exP, allP, Cur.app, List.map_cons, List.map_nil, List.cons_append, List.nil_append, List.drop_succ_cons, List.drop_zero, List.length_cons, List.length_nil, Nat.zero_add, Nat.reduceAdd, Int.neg_neg, Bool.not_not, List.append_nil, Nat.add_zero, List.getElem?_cons_zero, List.getElem?_cons_succ, Decidable.not_not]
  exact .of fun R h H => ⟨trivial, H⟩
theorem dSync_ok (b : Nat) (room : Int) (ps : List Pg) (lasts : Nat) : Tri Try.prog 58 #[.pointer (some ⟨b, 0, none⟩)] (DRep b room ps lasts) (fun v => HP.and (v = .tuple #[]) (DRep b room ps ps.length)) :=
  DRep.tri fun a c xs hI hx => (dSyncRaw_ok b room a ps.length c lasts _).weak (fun _ _ h => h) fun v R h ⟨e, H⟩ => ⟨e, a, c, xs, ⟨⟨hI.1, hI.2.1, hI.2.2.1, Nat.le_refl _⟩, hx⟩, H⟩
theorem infoP : (Try.prog.info? 110).map (fun i => (i.zero, i.size, i.bytes)) = some (some (.agg #[.int .i64 0, .slice none 0 0]), 2, 32) := by kernel_rfl
theorem undP : Try.prog.underlying 106 = some (.slice 110) := by kernel_rfl
theorem pgCells_one (xs : List PgRec) : ∀ u ∈ pgCells xs, u.oneCell' = true := fun u hu => by
  obtain ⟨x, _, hx⟩ := List.mem_flatMap.1 hu
  simp only [PgRec.vals, List.mem_cons, List.not_mem_nil, or_false] at hx
  rcases hx with rfl | rfl <;> rfl
/-- Write a page behind the others. -/
def putPg (room : Int) (ps : List Pg) (p : Pg) : Int × List Pg := if room = ps.length then (4, ps) else (0, ps ++ [p])
theorem dAppend_ok (b : Nat) (room : Int) (ps : List Pg) (lasts : Nat) (a : Option Addr) (n c : Nat) (l : List UInt8) (S : HP) (hr : RdL S a n (l.map u8v)) (hl : l.length = n) (hb : n ≤ 140737488355328) :
    Tri Try.prog 35 #[.pointer (some ⟨b, 0, none⟩), .slice a n c] (HP.sep (DRep b room ps lasts) S) (fun v => HP.and (v = .int .i64 (putPg room ps ⟨1, l⟩).1) (HP.sep (DRep b room (putPg room ps ⟨1, l⟩).2 lasts) S)) := by
  refine (Tri.ex (A := fun da => HP.ex fun dc => HP.ex fun xs => HP.and (DInv room ps lasts ∧ xs.length = ps.length) (HP.sep (HP.one b (.cells #[.int .i64 room, .slice da ps.length dc, .int .i64 lasts] 108)) (HP.sep (HP.sep (OwC 110 2 da ps.length dc (pgCells xs)) (AllD xs ps)) S)))
    fun da => Tri.ex fun dc => Tri.ex fun xs => Tri.pure fun hI => ?_).weak (fun R h ⟨h1, h2, d, l1, l2, ⟨da, dc, xs, hI, H⟩, hS⟩ => ⟨da, dc, xs, hI, HP.sep_assoc ⟨h1, h2, d, l1, l2, H, hS⟩⟩) fun _ _ _ h => h
  obtain ⟨⟨i1, i2, i3, i4⟩, hxl⟩ := hI
  refine tri_of_tree (ρ := [.n b, .i room, .a da, .n ps.length, .n dc, .p (HP.sep (OwC 110 2 da ps.length dc (pgCells xs)) (AllD xs ps)), .i lasts, .a a, .n n, .n c, .p S]) mixed Try.func35 tree_dAppend ?_
  unfold t_dAppend
  simp only [T.den, E.prop, E.den, RX.look, F1.app, F2.app, Uni.int_i, Uni.nat_n, Uni.bool_c, Uni.str_s, Uni.adr_a, Uni.val_v, Uni.hp_p, hden, cden, V.den, W.den, A.den, BR.den, SA.den, FV.den, capV, exs, exP, allP, Cur.app, List.map_cons, List.map_nil, List.cons_append, List.nil_append, List.drop_succ_cons, List.drop_zero, List.length_cons, List.length_nil, Nat.zero_add, Nat.reduceAdd, Int.neg_neg, Bool.not_not, List.append_nil, Nat.add_zero, List.getElem?_cons_zero, List.getElem?_cons_succ, Decidable.not_not]
  refine (dFree_ok b room da ps.length dc _ lasts (by omega) (by omega)).weak (fun _ _ h => h) ?_
  rintro v R h ⟨rfl, H⟩
  refine ⟨_, rfl, ⟨fun hz => .of fun R h H => ?_, fun hz => ?_⟩, H⟩
  · have e : putPg room ps ⟨1, l⟩ = (4, ps) := if_pos (by omega)
    rw [e]
    exact ⟨rfl, HP.sep_mono (HP.sep_assoc' H) (fun y hy => ⟨da, dc, xs, ⟨⟨i1, i2, i3, i4⟩, hxl⟩, hy⟩) fun _ h => h⟩
  · have e : putPg room ps ⟨1, l⟩ = (0, ps ++ [⟨1, l⟩]) := if_neg (by omega)
    rw [e]
    refine (cloneR_ok S a n c l hr hl hb).weak (fun _ _ h => h) ?_
    rintro v R h ⟨a', c', rfl, H⟩
    refine ⟨a', n, c', RoB a' n l, S, rfl, fun y => ?_, H⟩
    rw [semOf_append (by decide)]
    simp only [T.den, E.prop, E.den, RX.look, F1.app, F2.app, Uni.int_i, Uni.nat_n, Uni.bool_c, Uni.str_s, Uni.adr_a, Uni.val_v, Uni.hp_p, hden, cden, V.den, W.den, A.den, BR.den, SA.den, FV.den, capV, exs, exP, allP, Cur.app, List.map_cons, List.map_nil, List.cons_append, List.nil_append, List.drop_succ_cons, List.drop_zero, List.length_cons, List.length_nil, Nat.zero_add, Nat.reduceAdd, Int.neg_neg, Bool.not_not, List.append_nil, Nat.add_zero, List.getElem?_cons_zero, List.getElem?_cons_succ, Decidable.not_not]
    obtain ⟨i, hi, z1, z2, z3⟩ := info_parts infoP
    have happ := append_ok 106 106 110 i _ undP hi z1 (by rw [z2]; rfl) (by omega) da ps.length dc (pgCells xs) (HP.sep (AllD xs ps) (HP.sep (HP.one y (.cells #[.int .i64 1, .slice a' n c'] 110)) (RoB a' n l))) ⟨y, 0, none⟩ 1 1 (PgRec.vals ⟨1, a', n, c'⟩) ((one_rd y _ _).left.right) (by rw [z2]; rfl) (fun u hu => pgCells_one [⟨1, a', n, c'⟩] u (by simpa [pgCells] using hu)) (by unfold maxLen; omega) (by rw [z3]; omega)
    rw [z2] at happ
    refine happ.weak (fun R h H => HP.sep_assoc H) ?_
    rintro v R h ⟨a2, c2, rfl, H⟩
    have hcells : pgCells xs ++ PgRec.vals ⟨1, a', n, c'⟩ = pgCells (xs ++ [⟨1, a', n, c'⟩]) := by simp [pgCells]
    rw [hcells] at H
    refine ⟨a2, _, c2, HP.sep (OwC 110 2 a2 (ps.length + 1) c2 (pgCells (xs ++ [⟨1, a', n, c'⟩]))) (AllD (xs ++ [⟨1, a', n, c'⟩]) (ps ++ [⟨1, l⟩])), rfl, .of fun R h H => ⟨trivial, ?_⟩, ?_⟩
    · have hlen : ps.length + 1 = (ps ++ [(⟨1, l⟩ : Pg)]).length := by simp
      rw [hlen] at H
      refine HP.sep_mono (HP.sep_assoc' H) (fun y hy => ⟨a2, c2, _, ⟨⟨i1, i2, by simp; omega, by simp; omega⟩, by simp [hxl]⟩, hy⟩) fun _ h => h
    · have hall := HP.sep_left (HP.sep_right H)
      have hro := HP.sep_right (HP.sep_right (HP.sep_right H))
      have hnew : ∀ z, (AllD (xs ++ [⟨1, a', n, c'⟩]) (ps ++ [⟨1, l⟩])).p R z := fun z => AllD.any (AllD.snoc (x := ⟨1, a', n, c'⟩) (p := ⟨1, l⟩) ⟨rfl, hl.symm, by simp only; omega⟩ hro hall)
      refine HP.sep_mono H (fun z hz => HP.sep_mono (HP.sep_tt hz) (fun _ h => h) fun z _ => hnew z) fun z hz => HP.sep_right hz
theorem AllD.set {R h : PH} {x : PgRec} {p : Pg} (hx : x.is = p.is ∧ x.n = p.data.length ∧ p.data.length ≤ 140737488355328) (hr : (RoB x.a x.n p.data).p R h) : ∀ {xs : List PgRec} {ps : List Pg} (j : Nat), (AllD xs ps).p R h → (AllD (xs.set j x) (ps.set j p)).p R h
  | [], [], _, _ => trivial
  | _ :: _, _ :: _, 0, ⟨_, H⟩ => ⟨hx, RoC.join hr (HP.sep_right H)⟩
  | _ :: _, _ :: _, j + 1, ⟨q, H⟩ => ⟨q, RoC.join (HP.sep_left H) (AllD.set hx hr j (HP.sep_right H))⟩
  | [], _ :: _, _, H => H.elim
  | _ :: _, [], _, H => H.elim
theorem pgCells_set (x : PgRec) : ∀ (xs : List PgRec) (j : Nat), j < xs.length → (pgCells xs).take (j * 2) ++ x.vals ++ (pgCells xs).drop (j * 2 + 2) = pgCells (xs.set j x)
  | [], j, h => by simp at h
  | y :: r, 0, _ => by simp [pgCells, PgRec.vals]
  | y :: r, j + 1, h => by
    have ih := pgCells_set x r j (by simpa using h)
    simp only [pgCells, List.flatMap_cons, List.set_cons_succ] at ih ⊢
    rw [← ih]
    have e1 : (j + 1) * 2 = j * 2 + 2 := by omega
    rw [e1]
    simp [PgRec.vals]
theorem pgCells_get (xs : List PgRec) : ∀ (j : Nat) (x : PgRec), xs[j]? = some x → (pgCells xs)[j * 2]? = some (.int .i64 x.is) ∧ (pgCells xs)[j * 2 + 1]? = some (.slice x.a x.n x.c) := by
  induction xs with
  | nil => intro j x h; simp at h
  | cons y r ih =>
    intro j x h
    cases j with
    | zero => simp at h; subst h; simp [pgCells, PgRec.vals]
    | succ j =>
      obtain ⟨h1, h2⟩ := ih j x (by simpa using h)
      simp only [pgCells, List.flatMap_cons] at h1 h2 ⊢
      have e1 : (j + 1) * 2 = j * 2 + 2 := by omega
      rw [e1]
      exact ⟨by simpa [PgRec.vals] using h1, by simpa [PgRec.vals] using h2⟩
theorem AllD.take {R h : PH} : ∀ {xs : List PgRec} {ps : List Pg} (n : Nat), (AllD xs ps).p R h → (AllD (xs.take n) (ps.take n)).p R h
  | [], [], n, _ => by simp; trivial
  | _ :: _, _ :: _, 0, _ => trivial
  | _ :: _, _ :: _, n + 1, ⟨q, H⟩ => ⟨q, RoC.join (HP.sep_left H) (AllD.take n (HP.sep_right H))⟩
  | [], _ :: _, _, H => H.elim
  | _ :: _, [], _, H => H.elim
theorem pgCells_take : ∀ (xs : List PgRec) (j : Nat), pgCells (xs.take j) = (pgCells xs).take (j * 2)
  | [], j => by simp [pgCells]
  | y :: r, 0 => by simp [pgCells]
  | y :: r, j + 1 => by
    have ih := pgCells_take r j
    simp only [pgCells, List.flatMap_cons, List.take_succ_cons] at ih ⊢
    have e1 : (j + 1) * 2 = j * 2 + 2 := by omega
    rw [e1, ih]
    simp [PgRec.vals]
theorem OwC.shrink {e : TypeId} {size : Nat} {a : Option Addr} {n c : Nat} {xs : List Value} {R h : PH} (H : (OwC e size a n c xs).p R h) (j : Nat) (hj : j ≤ n) (k : Nat) (hk : k = 0) :
    (OwC e size (if c = 0 then a else a.map (·.add k)) j c (xs.take (j * size))).p R h := by
  subst hk
  obtain ⟨hl, hh⟩ := H
  refine ⟨by rw [List.length_take, hl]; exact Nat.min_eq_left (Nat.mul_le_mul_right _ hj), ?_⟩
  rcases hh with ⟨rfl, rfl, rfl⟩ | ⟨g, cur, rfl, hg, h1, h2, h3, h4⟩
  · exact .inl ⟨rfl, by omega, rfl⟩
  · refine .inr ⟨g, cur, ?_, hg, by omega, h2, h3, ?_⟩
    · split
      · rfl
      · simp only [Option.map_some, addr_add, Nat.add_zero]
    · rw [← h4, List.take_take]
      congr 1
      exact (Nat.min_eq_left (Nat.mul_le_mul_right _ hj)).symm

/-! a crash -/
/-- The device's pages, whatever their slices. -/
def Pages (da : Option Addr) (dc n : Nat) (q : List Pg) : HP := HP.ex fun xs => HP.and (xs.length = q.length) (HP.sep (OwC 110 2 da n dc (pgCells xs)) (AllD xs q))
theorem OTri.exI {o : Sem Next} {α : Type} {A : α → HP} {B : Value → HP} (t : ∀ x, OTri Try.prog o (A x) B) : OTri Try.prog o (HP.ex A) B := fun w R h F s ⟨x, a⟩ => t x w R h F s a
theorem OTri.pureI {o : Sem Next} {A : HP} {B : Value → HP} {φ : Prop} (t : φ → OTri Try.prog o A B) : OTri Try.prog o (HP.and φ A) B := fun w R h F s a => t a.1 w R h F s a.2
def pickOf (picks : List UInt8) (i : Nat) : Nat := match picks[i % picks.length]? with
  | some b => b.toNat % 3
  | none => 0
def crashPg (picks : List UInt8) (i : Nat) (p : Pg) : Pg := if pickOf picks i = 0 then ⟨0, []⟩ else if pickOf picks i = 2 then ⟨2, []⟩ else p
/-- The pages, when so many of those that do not last are lost or not. -/
def crashK (picks : List UInt8) (ps : List Pg) (lasts : Nat) : Nat → List Pg
  | 0 => ps
  | k + 1 => match (crashK picks ps lasts k)[lasts + k]? with
    | some p => (crashK picks ps lasts k).set (lasts + k) (crashPg picks k p)
    | none => crashK picks ps lasts k
theorem crashK_len (picks : List UInt8) (ps : List Pg) (lasts : Nat) : ∀ k, (crashK picks ps lasts k).length = ps.length
  | 0 => rfl
  | k + 1 => by
    simp only [crashK]
    split
    · rw [List.length_set]; exact crashK_len picks ps lasts k
    · exact crashK_len picks ps lasts k
/-- .. how many are left, when the last ones that are empty are gone. -/
def trimN (ps : List Pg) : Nat → Nat
  | 0 => 0
  | n + 1 => match ps[n]? with
    | some p => if p.is = 0 then trimN ps n else n + 1
    | none => n + 1
def crashPs (picks : List UInt8) (ps : List Pg) (lasts : Nat) : List Pg :=
  let q := crashK picks ps lasts (ps.length - lasts)
  q.take (trimN q q.length)
theorem trimN_le (ps : List Pg) : ∀ n, trimN ps n ≤ n
  | 0 => Nat.le_refl _
  | n + 1 => by
    simp only [trimN]
    split
    · split
      · exact Nat.le_succ_of_le (trimN_le ps n)
      · exact Nat.le_refl _
    · exact Nat.le_refl _
theorem dCrash_ok (b : Nat) (room : Int) (ps : List Pg) (lasts : Nat) (a : Option Addr) (n c : Nat) (picks : List UInt8) (S : HP) (hr : RdL S a n (picks.map u8v)) (hl : picks.length = n) (ha : n ≠ 0 → a.isSome = true) (hn : n ≤ 140737488355328) :
    Tri Try.prog 16 #[.pointer (some ⟨b, 0, none⟩), .slice a n c] (HP.sep (DRep b room ps lasts) S) (fun v => HP.and (v = .tuple #[]) (HP.sep (DRep b room (crashPs picks ps lasts) (crashPs picks ps lasts).length) S)) := by
  refine (Tri.ex (A := fun da => HP.ex fun dc => HP.ex fun xs => HP.and (DInv room ps lasts ∧ xs.length = ps.length) (HP.sep (HP.one b (.cells #[.int .i64 room, .slice da ps.length dc, .int .i64 lasts] 108)) (HP.sep (HP.sep (OwC 110 2 da ps.length dc (pgCells xs)) (AllD xs ps)) S)))
    fun da => Tri.ex fun dc => Tri.ex fun xs => Tri.pure fun hI => ?_).weak (fun R h ⟨h1, h2, d, l1, l2, ⟨da, dc, xs, hI, H⟩, hS⟩ => ⟨da, dc, xs, hI, HP.sep_assoc ⟨h1, h2, d, l1, l2, H, hS⟩⟩) fun _ _ _ h => h
  obtain ⟨⟨i1, i2, i3, i4⟩, hxl⟩ := hI
  refine Tri.fact (φ := ps.length ≤ dc ∧ (ps.length ≠ 0 → da.isSome = true)) (fun R h H => ?_) fun hdc => ?_
  · have := HP.sep_left (HP.sep_left (HP.sep_right H))
    exact ⟨OwC.le this, fun h => OwC.some this (by omega)⟩
  refine tri_of_tree (ρ := [.n b, .i room, .a da, .n ps.length, .n dc, .p (HP.sep (OwC 110 2 da ps.length dc (pgCells xs)) (AllD xs ps)), .i lasts, .a a, .n n, .n c, .p S]) mixed Try.func16 tree_dCrash ?_
  unfold t_dCrash
  simp only [T.den, E.prop, E.den, RX.look, F1.app, F2.app, Uni.int_i, Uni.nat_n, Uni.bool_c, Uni.str_s, Uni.adr_a, Uni.val_v, Uni.hp_p, hden, cden, V.den, W.den, A.den, BR.den, SA.den, FV.den, capV, exs, exP, allP, Cur.app, List.map_cons, List.map_nil, List.cons_append, List.nil_append, List.drop_succ_cons, List.drop_zero, List.length_cons, List.length_nil, Nat.zero_add, Nat.reduceAdd, Int.neg_neg, Bool.not_not, List.append_nil, Nat.add_zero, List.getElem?_cons_zero, List.getElem?_cons_succ, Decidable.not_not]
  obtain ⟨i, hi, z1, z2, z3⟩ := info_parts infoP
  refine ⟨_, _, _, slice_ok undP hi _ da ps.length dc (some lasts) none none i4 hdc.1 (Nat.le_refl _) (fun h => by cases h), ?_⟩
  simp only [Option.getD_some, Option.getD_none]
  have und3 : Try.prog.underlying 3 = some (.int .i64) := by kernel_rfl
  have agg3 : aggT Try.prog 3 = false := by kernel_rfl
  have sz3 : szT Try.prog 3 = 1 := by kernel_rfl
  have pt1 : ∀ k, k < ps.length - lasts → ∀ (v : Int) (p' : Pg), p'.is = v → p'.data = [] → ∀ P : HP, HP.ent P (Pages da dc ps.length (crashK picks ps lasts k)) →
      OTri Try.prog (storeS 110 (.pointer (da.map fun x => (x.add (((lasts : Int) + (k : Int)).toNat * 2)).add 0)) (.agg #[.int .i64 v, .slice none 0 0])) P
        (fun r => HP.and (r = .tuple #[]) (Pages da dc ps.length ((crashK picks ps lasts k).set (lasts + k) p'))) := fun k hk v p' hv hd P hP => by
    refine (OTri.conseq (A := Pages da dc ps.length (crashK picks ps lasts k)) (K := HP.tt) ?_ (hP.trans (.of fun _ _ => HP.sep_tt)) fun _ => .of fun _ _ => HP.sep_left)
    refine OTri.exI fun xs => OTri.pureI fun hx => ?_
    rw [crashK_len] at hx
    have := (store_ok hi 110 2 da ps.length dc (pgCells xs) ((lasts + k) * 2) 0 (.agg #[.int .i64 v, .slice none 0 0]) (PgRec.vals ⟨v, none, 0, 0⟩) rfl (by rw [z2]; rfl) (by simp [PgRec.vals]) (fun u hu => pgCells_one [⟨v, none, 0, 0⟩] u (by simpa [pgCells] using hu)) (by simp only [PgRec.vals, List.length_cons, List.length_nil]; omega)).frame (AllD xs (crashK picks ps lasts k))
    rw [show ((lasts : Int) + (k : Int)).toNat = lasts + k by omega]
    refine this.weak (fun _ _ h => h) ?_
    rintro r R h ⟨h1, h2, d, l1, l2, ⟨rfl, Ho⟩, Ha⟩
    refine ⟨rfl, xs.set (lasts + k) ⟨v, none, 0, 0⟩, by rw [List.length_set, List.length_set, crashK_len]; exact hx, h1, h2, d, l1, l2, ?_, AllD.set ⟨hv.symm, by rw [hd]; rfl, by rw [hd]; simp⟩ (by rw [hd]; exact RoC.nil _ _ _ _) _ Ha⟩
    rw [← pgCells_set _ _ _ (by omega)]
    exact Ho
  have nxt : ∀ k, k < ps.length - lasts → ∃ p, (crashK picks ps lasts k)[lasts + k]? = some p ∧ crashK picks ps lasts (k + 1) = (crashK picks ps lasts k).set (lasts + k) (crashPg picks k p) := fun k hk => by
    have hlt : lasts + k < (crashK picks ps lasts k).length := by rw [crashK_len]; omega
    refine ⟨_, List.getElem?_eq_getElem hlt, ?_⟩
    simp only [crashK, List.getElem?_eq_getElem hlt]
  have same : ∀ k, k < ps.length - lasts → pickOf picks k ≠ 0 → pickOf picks k ≠ 2 → crashK picks ps lasts (k + 1) = crashK picks ps lasts k := fun k hk h0 h2 => by
    obtain ⟨p, hp, e⟩ := nxt k hk
    rw [e, crashPg, if_neg h0, if_neg h2]
    exact List.ext_getElem? fun i => by
      rw [List.getElem?_set]
      split
      · rename_i e; subst e; rw [hp]; split
        · rfl
        · rename_i hlt; rw [List.getElem?_eq_none (by omega)] at hp; cases hp
      · rfl
  refine ⟨fun i P => ∃ k : Nat, i = k ∧ k ≤ ps.length - lasts ∧ HP.ent P (Pages da dc ps.length (crashK picks ps lasts k)), fun i P => ps.length - lasts - i.toNat, ⟨0, rfl, Nat.zero_le _, .of fun R h H => ⟨xs, hxl, H⟩⟩, ?_⟩
  rintro _ P ⟨k, rfl, hk, hP⟩
  refine ⟨fun hlt => ⟨fun hpos => ?_, fun hz => ?_⟩, fun hge => ?_⟩
  · have hn0 : 0 < n := by omega
    have hm : k % n < n := Nat.mod_lt _ hn0
    have htm : (k : Int).tmod (n : Int) = ((k % n : Nat) : Int) := (Int.ofNat_tmod k n).symm
    have hget : picks[k % n]? = some (picks[k % n]'(by omega)) := List.getElem?_eq_getElem (by omega)
    have hpick : pickOf picks k = (picks[k % n]'(by omega)).toNat % 3 := by simp only [pickOf, hl, hget]
    have hx3 : ((picks[k % n]'(by omega)).toNat : Int).tmod 3 = (pickOf picks k : Int) := by rw [hpick]; exact (Int.ofNat_tmod _ 3).symm
    refine ⟨by omega, fun _ => ⟨by rw [htm]; omega, fun _ => ⟨by rw [htm]; omega, fun _ => ⟨ha (by omega), fun _ => ⟨((picks[k % n]'(by omega)).toNat : Int), ?_, ?_⟩⟩⟩⟩⟩
    · have := load1_ok (t := 5) (d := .int .u8) (by kernel_rfl) (by kernel_rfl) (by kernel_rfl) hr.rd (k := k % n) (off := 0) (v := u8v (picks[k % n]'(by omega))) (by rw [Nat.add_zero, List.getElem?_map, hget]; rfl)
      rw [semOf_load]
      simp only [T.den, E.prop, E.den, RX.look, F1.app, F2.app, Uni.int_i, Uni.nat_n, Uni.bool_c, Uni.str_s, Uni.adr_a, Uni.val_v, Uni.hp_p, hden, cden, V.den, W.den, A.den, BR.den, SA.den, FV.den, capV, exs, exP, allP, Cur.app, List.map_cons, List.map_nil, List.cons_append, List.nil_append, List.drop_succ_cons, List.drop_zero, List.length_cons, List.length_nil, Nat.zero_add, Nat.reduceAdd, Int.neg_neg, Bool.not_not, List.append_nil, Nat.add_zero, List.getElem?_cons_zero, List.getElem?_cons_succ, Decidable.not_not]
      rw [htm]
      rw [Int.toNat_natCast, Nat.mul_one]
      exact this
    · rw [hx3]
      refine ⟨fun h0 => ⟨inI64 _ (by omega) (by omega), fun _ => ⟨by omega, fun _ => ⟨by omega, fun _ => ⟨hdc.2 (by omega), fun _ => ?_⟩⟩⟩⟩, fun h0 => ⟨fun h2 => ⟨inI64 _ (by omega) (by omega), fun _ => ⟨by omega, fun _ => ⟨by omega, fun _ => ⟨hdc.2 (by omega), fun _ => ?_⟩⟩⟩⟩, fun h2 => ⟨inI64 _ (by omega) (by omega), fun _ => ⟨⟨k + 1, by omega, by omega, ?_⟩, by dsimp only; omega⟩⟩⟩⟩
      · rw [semOf_store (by decide)]
        obtain ⟨p, _, e⟩ := nxt k (by omega)
        refine (pt1 k (by omega) 0 ⟨0, []⟩ rfl rfl P hP).weak (fun _ _ h => h) ?_
        rintro v R h ⟨rfl, H⟩
        refine ⟨_, rfl, ⟨inI64 _ (by omega) (by omega), fun _ => ⟨⟨k + 1, by omega, by omega, .refl _⟩, by dsimp only; omega⟩⟩, ?_⟩
        rw [e, crashPg, if_pos (by omega)]
        exact H
      · rw [semOf_store (by decide)]
        obtain ⟨p, _, e⟩ := nxt k (by omega)
        refine (pt1 k (by omega) 2 ⟨2, []⟩ rfl rfl P hP).weak (fun _ _ h => h) ?_
        rintro v R h ⟨rfl, H⟩
        refine ⟨_, rfl, ⟨inI64 _ (by omega) (by omega), fun _ => ⟨⟨k + 1, by omega, by omega, .refl _⟩, by dsimp only; omega⟩⟩, ?_⟩
        rw [e, crashPg, if_neg (by omega), if_pos (by omega)]
        exact H
      · rw [same k (by omega) (by omega) (by omega)]; exact hP
  · have hn0 : n = 0 := by omega
    refine ⟨inI64 _ (by omega) (by omega), fun _ => ⟨by omega, fun _ => ⟨by omega, fun _ => ⟨hdc.2 (by omega), fun _ => ?_⟩⟩⟩⟩
    rw [semOf_store (by decide)]
    obtain ⟨p, _, e⟩ := nxt k (by omega)
    refine (pt1 k (by omega) 0 ⟨0, []⟩ rfl rfl P hP).weak (fun _ _ h => h) ?_
    rintro v R h ⟨rfl, H⟩
    refine ⟨_, rfl, ⟨inI64 _ (by omega) (by omega), fun _ => ⟨⟨k + 1, by omega, by omega, .refl _⟩, by dsimp only; omega⟩⟩, ?_⟩
    have hp0 : pickOf picks k = 0 := by
      have : picks = [] := List.eq_nil_of_length_eq_zero (by omega)
      subst this; rfl
    rw [e, crashPg, if_pos hp0]
    exact H
  · have hke : k = ps.length - lasts := by omega
    subst hke
    generalize hq : crashK picks ps lasts (ps.length - lasts) = q at hP
    have hql : q.length = ps.length := by rw [← hq, crashK_len]
    have hcr : crashPs picks ps lasts = q.take (trimN q q.length) := by simp only [crashPs, hq]
    rw [hcr]
    clear pt1 nxt same hk hge hq hcr hr ha
    refine ⟨fun x => ∃ j : Nat, x = j ∧ j ≤ q.length ∧ trimN q j = trimN q q.length, fun x => x.toNat, ⟨q.length, by omega, Nat.le_refl _, rfl⟩, ?_⟩
    rintro _ ⟨j, rfl, hj, ht⟩
    have hsl : ∀ j, j ≤ q.length → ORead Try.prog (sliceS 106 (.slice da ps.length dc) (iv none) (iv (some j)) (iv none)) P (.slice (if dc = 0 then da else da.map (·.add (0 * szT Try.prog 110))) j dc) := fun j hj => by
      have := slice_ok undP hi P da ps.length dc none (some j) none (Nat.zero_le _) (by simp only [Option.getD_some, Option.getD_none]; omega) (Nat.le_refl _) (fun h => by cases h)
      simpa only [Option.getD_some, Option.getD_none, Nat.sub_zero] using this
    have fin : ∀ j, j ≤ q.length → trimN q q.length = j → Tri Try.prog 58 #[.pointer (some ⟨b, 0, none⟩)] (HP.sep (HP.one b (.cells #[.int .i64 room, .slice (if dc = 0 then da else da.map (·.add (0 * szT Try.prog 110))) j dc, .int .i64 lasts] 108)) P)
        (fun v => HP.and (v = .tuple #[]) (HP.sep (HP.one b (.cells #[.int .i64 room, .slice (if dc = 0 then da else da.map (·.add (0 * szT Try.prog 110))) j dc, .int .i64 j] 108)) P)) := fun j _ _ => dSyncRaw_ok b room _ j dc lasts P
    have done : ∀ j, j ≤ q.length → trimN q q.length = j → HP.ent (HP.sep (HP.one b (.cells #[.int .i64 room, .slice (if dc = 0 then da else da.map (·.add (0 * szT Try.prog 110))) j dc, .int .i64 j] 108)) (HP.sep P S))
        (HP.and True (HP.sep (DRep b room (q.take (trimN q q.length)) (q.take (trimN q q.length)).length) S)) := fun j hj ht => by
      have e1 : (q.take j).length = j := by rw [List.length_take]; omega
      rw [ht, e1]
      refine ((HP.ent.refl _).sep2 (hP.sep S)).trans (.of fun R h H => ⟨trivial, ?_⟩)
      refine HP.sep_mono (HP.sep_assoc' H) (fun y hy => ?_) fun _ h => h
      obtain ⟨h1, h2, d, l1, l2, hone, xs', hx', g1, g2, d', m1, m2, ho, hall⟩ := hy
      refine ⟨if dc = 0 then da else da.map (·.add (0 * szT Try.prog 110)), dc, xs'.take j, ⟨⟨i1, i2, by rw [e1]; omega, by rw [e1]; omega⟩, by rw [List.length_take, List.length_take, hx']⟩, ?_⟩
      rw [e1]
      refine ⟨h1, h2, d, l1, l2, hone, g1, g2, d', m1, m2, ?_, AllD.take j hall⟩
      rw [pgCells_take]
      exact OwC.shrink ho j (by omega) _ (Nat.zero_mul _)
    refine ⟨fun hp => ⟨inI64 _ (by omega) (by omega), fun _ => ⟨by omega, fun _ => ⟨by omega, fun _ => ⟨hdc.2 (by omega), fun _ => ?_⟩⟩⟩⟩, fun hp => ?_⟩
    · obtain ⟨j, rfl⟩ : ∃ i, j = i + 1 := ⟨j - 1, by omega⟩
      have hg : q[j]? = some (q[j]'(by omega)) := List.getElem?_eq_getElem (by omega)
      refine ⟨(q[j]'(by omega)).is, ?_, fun h0 => ⟨⟨j, by omega, by omega, ?_⟩, by dsimp only; omega⟩, fun h0 => ?_⟩
      · rw [semOf_load]
        simp only [T.den, E.prop, E.den, RX.look, F1.app, F2.app, Uni.int_i, Uni.nat_n, Uni.bool_c, Uni.str_s, Uni.adr_a, Uni.val_v, Uni.hp_p, hden, cden, V.den, W.den, A.den, BR.den, SA.den, FV.den, capV, exs, exP, allP, Cur.app, List.map_cons, List.map_nil, List.cons_append, List.nil_append, List.drop_succ_cons, List.drop_zero, List.length_cons, List.length_nil, Nat.zero_add, Nat.reduceAdd, Int.neg_neg, Bool.not_not, List.append_nil, Nat.add_zero, List.getElem?_cons_zero, List.getElem?_cons_succ, Decidable.not_not]
        refine ORead.ent hP fun w R h F s ⟨xs', hx', H⟩ => ?_
        obtain ⟨x, q1, q2, _⟩ := AllD.get j (HP.sep_right H) hg
        have := load1_ok und3 agg3 sz3 ((OwC.rd 110 2 da ps.length dc (pgCells xs')).left (B := AllD xs' q)) (k := j * 2) (off := 0) (pgCells_get xs' j x q1).1 w R h F s H
        rw [q2] at this
        rw [show (((j + 1 : Nat) : Int) - 1).toNat = j by omega]
        exact this
      · rw [← ht]; simp only [trimN, hg, if_pos h0]
      · have htt : trimN q q.length = j + 1 := by rw [← ht]; simp only [trimN, hg, if_neg h0]
        refine ⟨_, _, _, hsl (j + 1) hj, (fin (j + 1) hj htt).weak (fun _ _ h => h) ?_⟩
        rintro v R h ⟨rfl, H⟩
        exact ⟨_, _, _, _, P, _, rfl, done (j + 1) hj htt, H⟩
    · have hj0 : j = 0 := by omega
      subst hj0
      refine ⟨_, _, _, hsl 0 hj, (fin 0 hj ht.symm).weak (fun _ _ h => h) ?_⟩
      rintro v R h ⟨rfl, H⟩
      exact ⟨_, _, _, _, P, _, rfl, done 0 hj ht.symm, H⟩
end Go.Proofs.Ytmibmjehjagmbaa

/- Contracts of the device: what its pages hold. No condition. -/
namespace Go.Proofs.Ytmibmjehjagmbaa
set_option linter.unusedSimpArgs false
set_option linter.unusedVariables false
open Go.Proofs.Ytmibmjehjagmbaa RX

theorem AllD.get2 {R h : PH} : ∀ {xs : List PgRec} {ps : List Pg} (i : Nat) {p : Pg}, (AllD xs ps).p R h → ps[i]? = some p → ∃ x, xs[i]? = some x ∧ x.is = p.is ∧ x.n = p.data.length ∧ p.data.length ≤ 140737488355328 ∧ (RoB x.a x.n p.data).p R h
  | [], [], i, p, _, hp => by simp at hp
  | x :: xs, q :: ps, 0, p, ⟨h1, H⟩, hp => by simp at hp; subst hp; exact ⟨x, rfl, h1.1, h1.2.1, h1.2.2, HP.sep_left H⟩
  | x :: xs, q :: ps, i + 1, p, ⟨h1, H⟩, hp => by
    obtain ⟨y, q1, q2, q3, q4⟩ := AllD.get2 (h := h) i (AllD.any (HP.sep_right H)) (by simpa using hp)
    exact ⟨y, by simpa using q1, q2, q3, q4⟩
  | [], _ :: _, _, _, H, _ => H.elim
  | _ :: _, [], _, _, H, _ => H.elim
/-- A list of byte slices, each of which never turns. -/
abbrev BRec := Option Addr × Nat × Nat
def slV (x : BRec) : Value := .slice x.1 x.2.1 x.2.2
def AllB : List BRec → List (List UInt8) → HP
  | [], [] => HP.tt
  | x :: xs, l :: ls => HP.and (x.2.1 = l.length ∧ l.length ≤ 140737488355328) (HP.sep (RoB x.1 x.2.1 l) (AllB xs ls))
  | _, _ => HP.pure False
theorem AllB.any {R : PH} : ∀ {xs : List BRec} {ps : List (List UInt8)} {h h' : PH}, (AllB xs ps).p R h → (AllB xs ps).p R h'
  | [], [], _, _, _ => trivial
  | _ :: _, _ :: _, _, h', ⟨q, H⟩ => ⟨q, RoC.join (HP.sep_left H) (AllB.any (h' := h') (HP.sep_right H))⟩
  | [], _ :: _, _, _, H => H
  | _ :: _, [], _, _, H => H
theorem AllB.len {R h : PH} : ∀ {xs : List BRec} {ps : List (List UInt8)}, (AllB xs ps).p R h → xs.length = ps.length
  | [], [], _ => rfl
  | x :: xs, p :: ps, ⟨_, H⟩ => by simp [AllB.len (HP.sep_right H)]
  | [], _ :: _, H => H.elim
  | _ :: _, [], H => H.elim
theorem AllB.snoc {R h : PH} {x : BRec} {p : List UInt8} (hx : x.2.1 = p.length ∧ p.length ≤ 140737488355328) (hr : (RoB x.1 x.2.1 p).p R h) : ∀ {xs : List BRec} {ps : List (List UInt8)}, (AllB xs ps).p R h → (AllB (xs ++ [x]) (ps ++ [p])).p R h
  | [], [], _ => ⟨hx, RoC.join hr (trivial : HP.tt.p R h)⟩
  | _ :: _, _ :: _, ⟨q, H⟩ => ⟨q, RoC.join (HP.sep_left H) (AllB.snoc hx hr (HP.sep_right H) |> AllB.any (h' := h))⟩
  | [], _ :: _, H => H.elim
  | _ :: _, [], H => H.elim
theorem AllB.get {R h : PH} : ∀ {xs : List BRec} {ps : List (List UInt8)} (i : Nat) {p : List UInt8}, (AllB xs ps).p R h → ps[i]? = some p → ∃ x, xs[i]? = some x ∧ x.2.1 = p.length ∧ p.length ≤ 140737488355328 ∧ (RoB x.1 x.2.1 p).p R h
  | [], [], i, p, _, hp => by simp at hp
  | x :: xs, q :: ps, 0, p, ⟨h1, H⟩, hp => by simp at hp; subst hp; exact ⟨x, rfl, h1.1, h1.2, HP.sep_left H⟩
  | x :: xs, q :: ps, i + 1, p, ⟨h1, H⟩, hp => by
    obtain ⟨y, q1, q2, q3, q4⟩ := AllB.get (h := h) i (AllB.any (HP.sep_right H)) (by simpa using hp)
    exact ⟨y, by simpa using q1, q2, q3, q4⟩
  | [], _ :: _, _, _, H, _ => H.elim
  | _ :: _, [], _, _, H, _ => H.elim
/-- A list of byte slices of its own. -/
def LL (a : Option Addr) (n c : Nat) (ls : List (List UInt8)) : HP := HP.ex fun xs => HP.and (xs.length = ls.length ∧ n = ls.length) (HP.sep (OwC 30 1 a n c (xs.map slV)) (AllB xs ls))
theorem infoLL : (Try.prog.info? 30).map (fun i => (i.zero, i.size, i.bytes)) = some (some (.slice none 0 0), 1, 24) := by kernel_rfl
theorem undLL : Try.prog.underlying 72 = some (.slice 30) := by kernel_rfl
theorem slV_one (xs : List BRec) : ∀ u ∈ xs.map slV, u.oneCell' = true := fun u hu => by
  obtain ⟨x, _, rfl⟩ := List.mem_map.1 hu; rfl
/-- The bytes of the pages that are whole. -/
def wholes (ps : List Pg) : List (List UInt8) := ps.filterMap fun p => if p.is = 1 then some p.data else none
theorem wholes_take (ps : List Pg) (k : Nat) (p : Pg) (h : ps[k]? = some p) : wholes (ps.take (k + 1)) = wholes (ps.take k) ++ (if p.is = 1 then [p.data] else []) := by
  obtain ⟨hk, rfl⟩ := List.getElem?_eq_some_iff.1 h
  rw [List.take_succ_eq_append_getElem hk, wholes, List.filterMap_append]
  congr 1
  simp only [List.filterMap_cons, List.filterMap_nil]
  by_cases e : ps[k].is = 1 <;> simp [e]
theorem wholes_pre (ps : List Pg) (k : Nat) : wholes (ps.take k) <+: wholes ps := by
  have : wholes ps = wholes (ps.take k) ++ wholes (ps.drop k) := by
    rw [wholes, wholes, wholes, ← List.filterMap_append, List.take_append_drop]
  rw [this]; exact List.prefix_append _ _

def BoxD (bx b : Nat) : HP := HP.one bx (.cells #[.pointer (some ⟨b, 0, none⟩)] 25)
theorem dWhole_ok (b : Nat) (D : HP) : Tri Try.prog 85 #[.pointer (some ⟨b, 0, none⟩)] D
    (fun v => HP.ex fun bx => HP.and (v = .func (.func 118) #[] #[.pointer (some ⟨bx, 0, none⟩)]) (HP.sep (BoxD bx b) D)) := by
  refine tri_of_tree (ρ := [.n b, .p D]) mixed Try.func85 tree_dWhole ?_
  unfold t_dWhole
  simp only [T.den, E.prop, E.den, RX.look, F1.app, F2.app, Uni.int_i, Uni.nat_n, Uni.bool_c, Uni.str_s, Uni.adr_a, Uni.val_v, Uni.hp_p, hden, cden, V.den, W.den, A.den, BR.den, SA.den, FV.den, capV, exs, exP, allP, Cur.app, List.map_cons, List.map_nil, List.cons_append, List.nil_append, List.drop_succ_cons, List.drop_zero, List.length_cons, List.length_nil, Nat.zero_add, Nat.reduceAdd, Int.neg_neg, Bool.not_not, List.append_nil, Nat.add_zero, List.getElem?_cons_zero, List.getElem?_cons_succ, Decidable.not_not]
  exact fun x => .of fun R h H => ⟨x, rfl, HP.sep_comm H⟩
def mayW (ps : List Pg) (ys : List (List UInt8)) (args : Array Value) (ys' : List (List UInt8)) : Prop := ∃ a n c l, args = #[.slice a n c] ∧ ys' = ys ++ [l] ∧ ys' <+: wholes ps
def prW (ps : List Pg) (ys : List (List UInt8)) (args : Array Value) : HP := HP.ex fun z : BRec × List UInt8 => HP.and (args = #[slV z.1] ∧ z.2.length = z.1.2.1 ∧ z.1.2.1 ≤ 140737488355328 ∧ ys ++ [z.2] <+: wholes ps) (RoB z.1.1 z.1.2.1 z.2)
theorem fgo_whole1 : Fgo Try.prog 118 := ⟨_, Try.func118, by kernel_rfl, by kernel_rfl⟩
theorem pre_one {α : Type} {ys W : List α} {x y : α} (h : ys ++ [x] <+: W) (h' : ys ++ [y] <+: W) : x = y := by
  obtain ⟨t, ht⟩ := h
  obtain ⟨t', ht'⟩ := h'
  rw [← ht, List.append_assoc, List.append_assoc] at ht'
  have := List.append_cancel_left ht'
  simpa using (List.cons.inj this).1.symm
theorem dWhole_seq (bx b : Nat) (room : Int) (ps : List Pg) (lasts : Nat) : SeqTri Try.prog (.func (.func 118) #[] #[.pointer (some ⟨bx, 0, none⟩)]) (HP.sep (BoxD bx b) (DRep b room ps lasts)) (fun _ => HP.tt) (prW ps) (mayW ps) (fun ys => ys = wholes ps) [] := by
  refine ⟨_, _, rfl, fgo_whole1, fun l K Jx hr => ?_⟩
  refine (Tri.ex (A := fun da => HP.ex fun dc => HP.ex fun xs => HP.and (DInv room ps lasts ∧ xs.length = ps.length) (HP.sep (HP.sep HP.tt (K [])) (HP.sep (BoxD bx b) (HP.sep (HP.one b (.cells #[.int .i64 room, .slice da ps.length dc, .int .i64 lasts] 108)) (HP.sep (OwC 110 2 da ps.length dc (pgCells xs)) (AllD xs ps))))))
    fun da => Tri.ex fun dc => Tri.ex fun xs => Tri.pure fun hI => ?_).weak (fun R h H => ?_) fun _ _ _ h => h
  rotate_left
  · obtain ⟨h1, h2, d, l1, l2, hK, h3, h4, d2, l3, l4, hB, da, dc, xs, hI, H⟩ := HP.sep_comm H
    exact ⟨da, dc, xs, hI, h1, h2, d, l1, l2, hK, h3, h4, d2, l3, l4, hB, H⟩
  obtain ⟨hD, hxl⟩ := hI
  refine Tri.fact (φ := (ps.length ≠ 0 → da.isSome = true) ∧ ∀ (k : Nat) (p : Pg), ps[k]? = some p → ∃ x : PgRec, xs[k]? = some x ∧ x.is = p.is ∧ x.n = p.data.length ∧ p.data.length ≤ 140737488355328) (fun R h H => ⟨fun hn => OwC.some (HP.sep_left (HP.sep_right (HP.sep_right (HP.sep_right H)))) (by omega), fun k p hp => by
    obtain ⟨x, q1, q2, q3, q4, _⟩ := AllD.get2 k (HP.sep_right (HP.sep_right (HP.sep_right (HP.sep_right H)))) hp
    exact ⟨x, q1, q2, q3, q4⟩⟩) fun ⟨hda, hall⟩ => ?_
  obtain ⟨pd, hpd⟩ : ∃ d, Try.prog.underlying 110 = some d := Option.isSome_iff_exists.1 (by kernel_rfl)
  refine tri_of_tree (ρ := [.v (.func (.yield l) #[] #[]), .p (HP.sep HP.tt (K [])), .n bx, .n b, .i room, .a da, .n ps.length, .n dc, .p (HP.sep (OwC 110 2 da ps.length dc (pgCells xs)) (AllD xs ps)), .i lasts]) mixed Try.func118 tree_dWhole1 ?_
  unfold t_dWhole1
  simp only [T.den, E.prop, E.den, RX.look, F1.app, F2.app, Uni.int_i, Uni.nat_n, Uni.bool_c, Uni.str_s, Uni.adr_a, Uni.val_v, Uni.hp_p, hden, cden, V.den, W.den, A.den, BR.den, SA.den, FV.den, capV, exs, exP, allP, Cur.app, List.map_cons, List.map_nil, List.cons_append, List.nil_append, List.drop_succ_cons, List.drop_zero, List.length_cons, List.length_nil, Nat.zero_add, Nat.reduceAdd, Int.neg_neg, Bool.not_not, List.append_nil, Nat.add_zero, List.getElem?_cons_zero, List.getElem?_cons_succ, Decidable.not_not]
  have fin : ∀ J : HP, HP.ent J (SeqPost (fun _ => HP.tt) K Jx (fun ys => ys = wholes ps)) → HP.ent (HP.sep J (HP.sep (HP.one bx (.cells #[.pointer (some ⟨b, 0, none⟩)] 25)) (HP.sep (HP.one b (.cells #[.int .i64 room, .slice da ps.length dc, .int .i64 lasts] 108)) (HP.sep (OwC 110 2 da ps.length dc (pgCells xs)) (AllD xs ps)))))
      (HP.sep (HP.sep (BoxD bx b) (DRep b room ps lasts)) (SeqPost (fun _ => HP.tt) K Jx (fun ys => ys = wholes ps))) := fun J hJ =>
    (hJ.sep _).trans (.of fun R h H => HP.sep_comm (HP.sep_mono H (fun _ h => h) fun y hy => HP.sep_mono hy (fun _ h => h) fun z hz => ⟨da, dc, xs, ⟨hD, hxl⟩, hz⟩))
  refine ⟨fun i P => ∃ k : Nat, i = k ∧ k ≤ ps.length ∧ HP.ent P (HP.sep HP.tt (K (wholes (ps.take k)))), fun i P => ps.length - i.toNat, ⟨0, rfl, Nat.zero_le _, HP.ent.refl _⟩, ?_⟩
  rintro _ P ⟨k, rfl, hk, hP⟩
  refine ⟨fun hlt => ⟨by omega, fun _ => ⟨hda (by omega), fun _ => ?_⟩⟩, fun hge => ?_⟩
  · have hlt' : k < ps.length := by omega
    have hg : ps[k]? = some ps[k] := List.getElem?_eq_getElem hlt'
    have hi64 : IntKind.i64.min ≤ (k : Int) + 1 ∧ (k : Int) + 1 ≤ IntKind.i64.max := inI64 _ (by omega) (by have := hD.2.1; have := hD.2.2.1; omega)
    obtain ⟨x, hx, x1, x2, x3⟩ := hall k _ hg
    have hnext : ps[k].is ≠ 1 → wholes (ps.take (k + 1)) = wholes (ps.take k) := fun h => by rw [wholes_take ps k _ hg, if_neg h, List.append_nil]
    have hnext1 : ps[k].is = 1 → wholes (ps.take (k + 1)) = wholes (ps.take k) ++ [ps[k].data] := fun h => by rw [wholes_take ps k _ hg, if_pos h]
    refine ⟨x.is, x.a, x.n, x.c, ?_, fun y => ?_⟩
    · rw [semOf_load]
      simp only [T.den, E.prop, E.den, RX.look, F1.app, F2.app, Uni.int_i, Uni.nat_n, Uni.bool_c, Uni.str_s, Uni.adr_a, Uni.val_v, Uni.hp_p, hden, cden, V.den, W.den, A.den, BR.den, SA.den, FV.den, capV, exs, exP, allP, Cur.app, List.map_cons, List.map_nil, List.cons_append, List.nil_append, List.drop_succ_cons, List.drop_zero, List.length_cons, List.length_nil, Nat.zero_add, Nat.reduceAdd, Int.neg_neg, Bool.not_not, List.append_nil, Nat.add_zero, List.getElem?_cons_zero, List.getElem?_cons_succ, Decidable.not_not]
      rw [Int.toNat_natCast]
      obtain ⟨g1, g2⟩ := pgCells_get xs k _ hx
      refine loadN_ok (vs := [.int .i64 x.is, .slice x.a x.n x.c]) hpd (by kernel_rfl) ((OwC.rd 110 2 da ps.length dc (pgCells xs)).left (B := AllD xs ps)) (by kernel_rfl) (by simp) fun j v hj => ?_
      match j with
      | 0 => simp at hj; subst hj; simpa using g1
      | 1 => simp at hj; subst hj; simpa using g2
      | j + 2 => simp at hj
    · rw [x1]
      refine ⟨fun h1 => ?_, fun h1 => ⟨hi64, fun _ => ⟨⟨k + 1, by omega, by omega, by rw [hnext h1]; exact hP⟩, by dsimp only; omega⟩⟩⟩
      have hpre : wholes (ps.take k) ++ [ps[k].data] <+: wholes ps := by rw [← hnext1 h1]; exact wholes_pre ps _
      refine (hr (wholes (ps.take k)) #[.slice x.a x.n x.c] ⟨_, x.a, x.n, x.c, ps[k].data, rfl, rfl, hpre⟩).conseq (K := HP.sep (OwC 110 2 da ps.length dc (pgCells xs)) (AllD xs ps)) ?_ ?_
      · refine (hP.sep _).trans (.of fun R h H => ?_)
        have hA := HP.sep_right (HP.sep_right H)
        obtain ⟨x', q1, _, _, _, q5⟩ := AllD.get2 k hA hg
        rw [hx] at q1
        cases q1
        refine HP.sep_mono H (fun y hy => ?_) fun _ h => h
        exact HP.sep_mono (RoC.join (B := HP.sep HP.tt (K (wholes (ps.take k)))) q5 hy) (fun z hz => ⟨((x.a, x.n, x.c), ps[k].data), ⟨rfl, x2.symm, by dsimp only; omega, hpre⟩, hz⟩) fun _ h => h
      · refine fun v => .of fun R h ⟨h1', h2, dj, l1, l2, ⟨b', hv, hb⟩, hC⟩ => ?_
        cases b' with
        | true => 
          refine ⟨true, HP.ex fun g' => HP.and (mayW ps (wholes (ps.take k)) #[.slice x.a x.n x.c] g') (HP.sep HP.tt (K g')), hv, ⟨fun h => absurd rfl h, fun _ => ⟨hi64, fun _ => ⟨⟨k + 1, by omega, by omega, ?_⟩, by dsimp only; omega⟩⟩⟩, h1', h2, dj, l1, l2, hb, hC⟩
          refine .of fun R h ⟨g', ⟨_, _, _, l', _, hg1, hg2⟩, H⟩ => ?_
          subst hg1
          rw [hnext1 h1, pre_one hpre hg2]
          exact H
        | false => 
          exact ⟨false, Jx, hv, ⟨fun _ => fin Jx (.of fun R h H => ⟨none, H⟩), fun h => absurd h (by simp)⟩, h1', h2, dj, l1, l2, hb, hC⟩
  · have hke : k = ps.length := by omega
    subst hke
    rw [List.take_length] at hP
    exact fin P (hP.trans (.of fun R h H => ⟨some (wholes ps), rfl, H⟩))
theorem dPages_ok (b : Nat) (room : Int) (ps : List Pg) (lasts : Nat) : Tri Try.prog 34 #[.pointer (some ⟨b, 0, none⟩)] (DRep b room ps lasts)
    (fun v => HP.ex fun a => HP.ex fun c => HP.and (v = .slice a (wholes ps).length c ∧ DInv room ps lasts) (HP.sep (DRep b room ps lasts) (LL a (wholes ps).length c (wholes ps)))) := by
  refine Tri.fact (φ := DInv room ps lasts) (fun R h ⟨_, _, _, hI, _⟩ => hI.1) fun hD => ?_
  refine tri_of_tree (ρ := [.n b, .p (DRep b room ps lasts)]) mixed Try.func34 tree_dPages ?_
  unfold t_dPages
  simp only [T.den, E.prop, E.den, RX.look, F1.app, F2.app, Uni.int_i, Uni.nat_n, Uni.bool_c, Uni.str_s, Uni.adr_a, Uni.val_v, Uni.hp_p, hden, cden, V.den, W.den, A.den, BR.den, SA.den, FV.den, capV, exs, exP, allP, Cur.app, List.map_cons, List.map_nil, List.cons_append, List.nil_append, List.drop_succ_cons, List.drop_zero, List.length_cons, List.length_nil, Nat.zero_add, Nat.reduceAdd, Int.neg_neg, Bool.not_not, List.append_nil, Nat.add_zero, List.getElem?_cons_zero, List.getElem?_cons_succ, Decidable.not_not]
  intro ob
  refine (dWhole_ok b (DRep b room ps lasts)).weak (fun _ _ h => h) ?_
  rintro v R h ⟨bx, rfl, H⟩
  refine ⟨.func (.func 118) #[] #[.pointer (some ⟨bx, 0, none⟩)], BoxD bx b, rfl, fun db => ?_, H⟩
  have hw : (wholes ps).length ≤ 65536 := by
    have h1 : (wholes ps).length ≤ ps.length := List.length_filterMap_le _ _
    have := hD.2.1
    have := hD.2.2.1
    omega
  refine ⟨List (List UInt8), fun _ => HP.tt, prW ps, mayW ps, fun ys => ys = wholes ps, [], fun ys a n c P => n = ys.length ∧ ys <+: wholes ps ∧ HP.ent P (LL a n c ys), dWhole_seq bx b room ps lasts, ?_, ?_, ?_, ?_⟩
  · exact ⟨rfl, List.nil_prefix, .of fun R h _ => ⟨[], ⟨rfl, rfl⟩, OwC.nil _ _ R h |> HP.sep_tt⟩⟩
  · intro ys a n c P _; rfl
  · rintro ys args ⟨g', a0, n0, c0, l0, rfl, rfl, hpre⟩ a n c P ⟨rfl, hys, hP⟩
    refine ⟨a0, n0, c0, prW ps ys #[.slice a0 n0 c0], rfl, HP.ent.refl _, ?_⟩
    refine Tri.ex (A := fun z : BRec × List UInt8 => HP.and (#[Value.slice a0 n0 c0] = #[slV z.1] ∧ z.2.length = z.1.2.1 ∧ z.1.2.1 ≤ 140737488355328 ∧ ys ++ [z.2] <+: wholes ps) (RoB z.1.1 z.1.2.1 z.2)) fun z => Tri.pure fun hz => ?_
    obtain ⟨⟨a1, n1, c1⟩, d1⟩ := z
    obtain ⟨hz1, hz2, hz3, hz4⟩ := hz
    simp only [slV, Array.mk.injEq, List.cons.injEq, Value.slice.injEq, and_true] at hz1
    obtain ⟨rfl, rfl, rfl⟩ := hz1
    simp only at hz2 hz3 hz4
    refine (cloneR_ok (RoB a0 n0 d1) a0 n0 c0 d1 (RdL.ro _ _ _ _) hz2 hz3).weak (fun _ _ h => h) ?_
    rintro v R h ⟨a', c', rfl, H⟩
    refine ⟨a', n0, c', RoB a' n0 d1, RoB a0 n0 d1, rfl, fun eb => ?_, H⟩
    clear H
    rw [semOf_append (by decide)]
    simp only [T.den, E.prop, E.den, RX.look, F1.app, F2.app, Uni.int_i, Uni.nat_n, Uni.bool_c, Uni.str_s, Uni.adr_a, Uni.val_v, Uni.hp_p, hden, cden, V.den, W.den, A.den, BR.den, SA.den, FV.den, capV, exs, exP, allP, Cur.app, List.map_cons, List.map_nil, List.cons_append, List.nil_append, List.drop_succ_cons, List.drop_zero, List.length_cons, List.length_nil, Nat.zero_add, Nat.reduceAdd, Int.neg_neg, Bool.not_not, List.append_nil, Nat.add_zero, List.getElem?_cons_zero, List.getElem?_cons_succ, Decidable.not_not]
    obtain ⟨i, hi, z1, z2, z3⟩ := info_parts infoLL
    have hyl : ys.length + 1 ≤ 65536 := by
      have := hz4.length_le
      simp at this
      omega
    refine (OTri.conseq (A := HP.ex fun xs => HP.and (xs.length = ys.length) (HP.sep (OwC 30 1 a ys.length c (xs.map slV)) (HP.sep (AllB xs ys) (HP.sep (HP.one eb (.cells #[.slice a' n0 c'] 30)) (RoB a' n0 d1))))) (K := HP.tt) (OTri.exI fun xs => OTri.pureI fun hx => ?_) ((hP.sep _).trans (.of fun R h ⟨h1, h2, d, l1, l2, ⟨xs, hx, H⟩, H2⟩ => HP.sep_tt ⟨xs, hx.1, HP.sep_assoc ⟨h1, h2, d, l1, l2, H, H2⟩⟩)) fun v => .of fun _ _ H => HP.sep_left H)
    have happ := append_ok 72 72 30 i _ undLL hi z1 (by rw [z2]; rfl) (by omega) a ys.length c (xs.map slV) (HP.sep (AllB xs ys) (HP.sep (HP.one eb (.cells #[.slice a' n0 c'] 30)) (RoB a' n0 d1))) ⟨eb, 0, none⟩ 1 1 [slV (a', n0, c')] ((one_rd eb _ _).left.right) (by rw [z2]; rfl) (fun u hu => slV_one [(a', n0, c')] u (by simpa using hu)) (by unfold maxLen; omega) (by rw [z3]; omega)
    rw [z2] at happ
    refine happ.weak (fun _ _ h => h) ?_
    rintro v R h ⟨a2, c2, rfl, H⟩
    have hro := HP.sep_right (HP.sep_right (HP.sep_right H))
    have hall := HP.sep_left (HP.sep_right H)
    refine ⟨a2, ys.length + 1, c2, LL a2 (ys.length + 1) c2 (ys ++ [d1]), rfl, ⟨ys ++ [d1], ⟨a0, n0, c0, d1, rfl, rfl, hz4⟩, by simp, hz4, HP.ent.refl _⟩, ?_⟩
    refine HP.sep_mono H (fun y hy => ⟨xs ++ [(a', n0, c')], ⟨by simp [hx], by simp⟩, ?_⟩) fun y hy => HP.sep_right hy
    refine HP.sep_comm (HP.sep_mono (HP.tt_sep hy) (fun q _ => AllB.any (AllB.snoc (x := (a', n0, c')) (p := d1) ⟨hz2.symm, by omega⟩ hro hall)) fun q hq => ?_)
    rw [List.map_append]; exact hq
  · rintro _ rfl a n c P ⟨rfl, _, hP⟩
    refine ((HP.ent.refl (DRep b room ps lasts)).sep2 hP).trans (.of fun R h H => ⟨a, c, ⟨rfl, hD⟩, H⟩)
end Go.Proofs.Ytmibmjehjagmbaa

/- Small laws on worlds: what a block of cells holds behind stores, new blocks and draws; which blocks may have turned. No condition. -/
namespace Go.Proofs.Ytmibmjehjagmbaa
open Go.RowKit

/-- Block b is a row of cells. -/
def Cel (w : World) (b : Nat) (c : Array Value) (t : TypeId) : Prop := w.heap[b]? = some (.cells c t (0, 0))

/-- Nothing that was there has turned, but for the blocks of fp. -/
structure Mod (fp : List Nat) (w w' : World) : Prop where
  os : w'.os = w.os
  tape : w'.tape = w.tape
  output : w'.output = w.output
  size : w.heap.size ≤ w'.heap.size
  block : ∀ k, k < w.heap.size → k ∉ fp → w'.heap[k]? = w.heap[k]?

def putC (a : Addr) (v : Value) : Obj → Obj
  | .cells c elem frozen => .cells (if a.spot.isSome then c else c.setIfInBounds a.off v) elem frozen
  | o => o
theorem hp_setCell (w : World) (a : Addr) (v : Value) (g : Nat) : (w.setCell a v).heap[g]? = if a.block = g then (w.heap[g]?).map (putC a v) else w.heap[g]? := by
  simp only [World.setCell, Array.getElem?_modify]
  congr 2

theorem hp_alloc (w : World) (o : Obj) (g : Nat) : (w.alloc o).heap[g]? = if g = w.heap.size then some o else w.heap[g]? := by
  show (w.heap.push o)[g]? = _
  rw [Array.getElem?_push]

theorem hp_drew (w : World) (g : Nat) : w.drew.heap[g]? = w.heap[g]? := rfl
theorem hp_drewN (w : World) (n g : Nat) : (w.drewN n).heap[g]? = w.heap[g]? := rfl

theorem Cel.lt {w : World} {b : Nat} {c : Array Value} {t : TypeId} (h : Cel w b c t) : b < w.heap.size := lt_of_block h
theorem Cel.cell {w : World} {b : Nat} {c : Array Value} {t : TypeId} (h : Cel w b c t) (k : Nat) : w.cell? ⟨b, k, none⟩ = c[k]? := cell_of_row w b k c t (0, 0) h
theorem Cel.frozen {w : World} {b : Nat} {c : Array Value} {t : TypeId} (h : Cel w b c t) (k : Nat) : w.frozen? ⟨b, k, none⟩ = false := frozen_of_row w b k c t h
theorem Cel.set {w : World} {b : Nat} {c : Array Value} {t : TypeId} (h : Cel w b c t) (k : Nat) (v : Value) : Cel (w.setCell ⟨b, k, none⟩ v) b (c.setIfInBounds k v) t := by
  unfold Cel at *
  rw [hp_setCell, if_pos rfl, h]
  rfl
theorem Cel.setOther {w : World} {b : Nat} {c : Array Value} {t : TypeId} (h : Cel w b c t) {a : Addr} (hne : a.block ≠ b) (v : Value) : Cel (w.setCell a v) b c t := by
  unfold Cel at *
  rw [hp_setCell, if_neg hne, h]
theorem Cel.alloc {w : World} {b : Nat} {c : Array Value} {t : TypeId} (h : Cel w b c t) (o : Obj) : Cel (w.alloc o) b c t := by
  have := h.lt
  unfold Cel at *
  rw [hp_alloc, if_neg (by omega), h]
theorem Cel.new (w : World) (c : Array Value) (t : TypeId) : Cel (w.alloc (.cells c t (0, 0))) w.heap.size c t := by
  unfold Cel
  rw [hp_alloc, if_pos rfl]
theorem Cel.drew {w : World} {b : Nat} {c : Array Value} {t : TypeId} (h : Cel w b c t) : Cel w.drew b c t := h
theorem Cel.drewN {w : World} {b : Nat} {c : Array Value} {t : TypeId} (h : Cel w b c t) (n : Nat) : Cel (w.drewN n) b c t := h
theorem Cel.mod {w w' : World} {b : Nat} {c : Array Value} {t : TypeId} {fp : List Nat} (h : Cel w b c t) (hm : Mod fp w w') (hb : b ∉ fp) : Cel w' b c t := by
  have := h.lt
  unfold Cel at *
  rw [hm.block b this hb, h]

theorem Mod.refl (fp : List Nat) (w : World) : Mod fp w w := ⟨rfl, rfl, rfl, Nat.le_refl _, fun _ _ _ => rfl⟩
theorem Mod.mono {fp fp' : List Nat} {w w' : World} (h : Mod fp w w') (hs : ∀ b ∈ fp, b < w.heap.size → b ∈ fp') : Mod fp' w w' :=
  ⟨h.os, h.tape, h.output, h.size, fun k hk hn => h.block k hk (fun hm => hn (hs k hm hk))⟩
theorem Mod.trans {fp : List Nat} {a b c : World} (h : Mod fp a b) (k : Mod fp b c) : Mod fp a c :=
  ⟨k.os.trans h.os, k.tape.trans h.tape, k.output.trans h.output, Nat.le_trans h.size k.size, fun i hi hn => (k.block i (by have := h.size; omega) hn).trans (h.block i hi hn)⟩
theorem Mod.drew {fp : List Nat} {a w : World} (h : Mod fp a w) : Mod fp a w.drew := ⟨h.os, h.tape, h.output, h.size, h.block⟩
theorem Mod.drewN {fp : List Nat} {a w : World} (h : Mod fp a w) (n : Nat) : Mod fp a (w.drewN n) := ⟨h.os, h.tape, h.output, h.size, h.block⟩
theorem Mod.alloc {fp : List Nat} {a w : World} (h : Mod fp a w) (o : Obj) : Mod fp a (w.alloc o) :=
  ⟨h.os, h.tape, h.output, by have := h.size; simp; omega, fun k hk hn => by have := h.size; rw [hp_alloc, if_neg (by omega)]; exact h.block k hk hn⟩
theorem Mod.setCell {fp : List Nat} {a w : World} (h : Mod fp a w) {p : Addr} (hp : p.block ∈ fp ∨ a.heap.size ≤ p.block) (v : Value) : Mod fp a (w.setCell p v) :=
  ⟨h.os, h.tape, h.output, by have := h.size; simp [World.setCell]; omega, fun k hk hn => by
    rw [hp_setCell, if_neg (fun e => by subst e; rcases hp with hp | hp; exact hn hp; omega)]; exact h.block k hk hn⟩
/-- A step that may turn the blocks of fp', each in fp or new. -/
theorem Mod.then {fp fp' : List Nat} {a b c : World} (h : Mod fp a b) (k : Mod fp' b c) (hs : ∀ x ∈ fp', x ∈ fp ∨ a.heap.size ≤ x) : Mod fp a c :=
  ⟨k.os.trans h.os, k.tape.trans h.tape, k.output.trans h.output, Nat.le_trans h.size k.size, fun i hi hn =>
    (k.block i (by have := h.size; omega) (fun hm => by rcases hs i hm with h1 | h1; exact hn h1; omega)).trans (h.block i hi hn)⟩
theorem Mod.below {w w' : World} (h : Mod [] w w') : Below w.heap.size w w' := ⟨h.os, h.tape, h.output, h.size, fun k hk => h.block k hk (by simp)⟩
theorem Mod.cell {fp : List Nat} {w w' : World} (h : Mod fp w w') {a : Addr} (ha : a.block < w.heap.size) (hn : a.block ∉ fp) : w'.cell? a = w.cell? a := by
  unfold World.cell?; rw [h.block _ ha hn]
theorem Mod.frozen {fp : List Nat} {w w' : World} (h : Mod fp w w') {a : Addr} (ha : a.block < w.heap.size) (hn : a.block ∉ fp) : w'.frozen? a = w.frozen? a := by
  unfold World.frozen?; rw [h.block _ ha hn]

theorem bodyPost_ret3 {P : Program} {fn : Func} {R : Ending → World → Prop} {a : Act} {w : World} {x y z : Value}
    (hr : (results fn a.tmps).run P w = .ok (.tuple #[x, y, z]) w) (hd : a.defers = []) (hR : R (.returned (.tuple #[x, y, z])) w) : bodyPost P fn R .ret a w :=
  ⟨hd, _, hr, hR⟩

theorem Cel.setRow {w : World} {b : Nat} {c : Array Value} {t : TypeId} (h : Cel w b c t) (cs : Array Value) : Cel (w.setRow b cs) b cs t := setRow_heap w b c cs t (0, 0) h
theorem Cel.setRowOther {w : World} {b : Nat} {c : Array Value} {t : TypeId} (h : Cel w b c t) {g : Nat} (hne : g ≠ b) (cs : Array Value) : Cel (w.setRow g cs) b c t := by
  unfold Cel at *
  rw [setRow_other w g b cs (Ne.symm hne), h]
theorem Mod.setRow {fp : List Nat} {a w : World} (h : Mod fp a w) {g : Nat} (hp : g ∈ fp ∨ a.heap.size ≤ g) (cs : Array Value) : Mod fp a (w.setRow g cs) :=
  ⟨h.os, h.tape, h.output, by have := h.size; simp; omega, fun k hk hn => by
    rw [setRow_other w g k cs (fun e => by subst e; rcases hp with hp | hp; exact hn hp; omega)]; exact h.block k hk hn⟩

section
variable {P : Program} {ops : Array Oper} {rest : List Oper} {o : Oper} {a : Act} {w : World} {Q : Exit → Act → World → Prop}

/-- The store of a struct or an array over a whole block, or over some of its cells. -/
theorem run_storeVar_at (ty : TypeId) (g i : Nat) (t : TypeId) (cur cs : Array Value) (hg : Cel w g cur t) (hi : (P.info? ty).map (·.size) = some cs.size) (hl : i + cs.size ≤ cur.size) (h1 : cs.toList.all Value.oneCell' = true) :
    (storeVar ty ⟨g, i, none⟩ (.agg cs)).run P w = .ok () (w.setRow g (cur.toList.take i ++ cs.toList ++ cur.toList.drop (i + cs.size)).toArray) := by
  cases hq : P.info? ty with
  | none => simp [hq] at hi
  | some inf =>
    have hs : inf.size = cs.size := by simpa [hq] using hi
    have hst := run_storeCells_at (P := P) g i t cs.toList 0 cur w hg (by simpa using hl) (List.all_eq_true.1 h1)
    simp only [Nat.add_zero, Array.length_toList] at hst
    have hsz : (sizeOf ty).run P w = .ok cs.size w := by simp [sizeOf, typeInfo, hq, hs]
    unfold storeVar
    rw [Sem.run_bind, hsz]
    simp only [Result.andThen_ok, Value.cells, ne_eq, not_true_eq_false, if_false, hst]

theorem wpList_store_at (hgd : o.guard = none) (ty : TypeId) (p x : Operand) (ho : o.op = .store ty p x) (g i : Nat) (hp : a.eval p = .pointer (some ⟨g, i, none⟩)) (cs : Array Value) (hx : a.eval x = .agg cs)
    (t : TypeId) (cur : Array Value) (hg : Cel w g cur t) (hi : (P.info? ty).map (·.size) = some cs.size) (hl : i + cs.size ≤ cur.size) (h1 : cs.toList.all Value.oneCell' = true)
    (h : wpList P ops Q rest (a.put o.dst undef) (w.setRow g (cur.toList.take i ++ cs.toList ++ cur.toList.drop (i + cs.size)).toArray)) : wpList P ops Q (o :: rest) a w := by
  refine wpList_plain hgd fun K hk => ?_
  unfold Oper.wp execOp
  simp only [ho, hp, hx, Instr.storeAt, Instr.sureAddr, Sem.run_bind, Sem.run_pure, Result.andThen_ok, run_storeVar_at ty g i t cur cs hg hi hl h1]
  exact hk _ _ h

theorem wpList_store_row (hgd : o.guard = none) (ty : TypeId) (p x : Operand) (ho : o.op = .store ty p x) (g : Nat) (hp : a.eval p = .pointer (some ⟨g, 0, none⟩)) (cs : Array Value) (hx : a.eval x = .agg cs)
    (t : TypeId) (cur : Array Value) (hg : Cel w g cur t) (hi : (P.info? ty).map (·.size) = some cs.size) (hl : cs.size = cur.size) (h1 : cs.toList.all Value.oneCell' = true)
    (h : wpList P ops Q rest (a.put o.dst undef) (w.setRow g cs)) : wpList P ops Q (o :: rest) a w := by
  refine wpList_store_at hgd ty p x ho g 0 hp cs hx t cur hg hi (by omega) h1 ?_
  have e : (cur.toList.take 0 ++ cs.toList ++ cur.toList.drop (0 + cs.size)).toArray = cs := by
    rw [List.take_zero, List.nil_append, List.drop_of_length_le (by simp; omega), List.append_nil]
  rw [e]
  exact h
end

theorem results_row_tmp {P : Program} {w : World} {fn : Func} {p u : Tmp} {ty : TypeId} (h : fn.results = #[.cell p ty, .tmp u]) (tmps : Array Value) (g : Nat) (t : TypeId) (cs : Array Value) (d : TypeDesc) (v : Value)
    (hp : tmps.getD p undef = .pointer (some ⟨g, 0, none⟩)) (hg : Cel w g cs t) (hv : tmps.getD u undef = v)
    (hu : P.underlying ty = some d) (hd : (match d with | .struct _ | .array _ _ => true | _ => false) = true) (hi : (P.info? ty).map (·.size) = some cs.size) :
    (results fn tmps).run P w = .ok (.tuple #[.agg cs, v]) w := by
  rw [results_cell_tmp h, hp, hv]
  simp [asAddr, run_loadVar_row w g t ty cs (0, 0) d hg hu hd hi]

theorem bits_mask_i64 (x : Int) (j : Nat) (hj : j ≤ 62) : bits .and .i64 x (2 ^ j - 1) = x % 2 ^ j := by
  have hp : (2 : Int) ^ j - 1 = ((2 ^ j - 1 : Nat) : Int) := by
    have := Nat.one_le_two_pow (n := j)
    rw [Int.ofNat_sub this]; simp
  have hlt : (2 : Nat) ^ j ≤ 2 ^ 62 := Nat.pow_le_pow_right (by decide) hj
  have h1 : (BitVec.ofInt 64 ((2 : Int) ^ j - 1)).toNat = 2 ^ j - 1 := by
    rw [hp, BitVec.ofInt_natCast, BitVec.toNat_ofNat, Nat.mod_eq_of_lt (by omega)]
  have h2 : (BitVec.ofInt 64 x &&& BitVec.ofInt 64 ((2 : Int) ^ j - 1)).toNat = (BitVec.ofInt 64 x).toNat % 2 ^ j := by
    rw [BitVec.toNat_and, h1, Nat.and_two_pow_sub_one_eq_mod]
  have h3 : ((BitVec.ofInt 64 x).toNat : Int) = x % 2 ^ 64 := by
    rw [BitVec.toNat_ofInt]
    have : (0 : Int) ≤ x % 2 ^ 64 := Int.emod_nonneg _ (by decide)
    omega
  have h4 : (((BitVec.ofInt 64 x).toNat % 2 ^ j : Nat) : Int) = x % 2 ^ j := by
    rw [Int.natCast_emod, h3, Int.natCast_pow]
    exact Int.emod_emod_of_dvd x (by
      refine ⟨2 ^ (64 - j), ?_⟩
      have e : (64 : Nat) = j + (64 - j) := by omega
      have := Int.pow_add (2 : Int) j (64 - j)
      rw [← e] at this
      exact this)
  have h5 : bits .and .i64 x (2 ^ j - 1) = IntKind.i64.wrap ((BitVec.ofInt 64 x &&& BitVec.ofInt 64 ((2 : Int) ^ j - 1)).toNat : Int) := rfl
  rw [h5, h2, h4, IntKind.wrap_i64]
  have e1 : (0 : Int) ≤ x % 2 ^ j := Int.emod_nonneg _ (by have := Int.pow_pos (n := 2) (m := j) (by decide); omega)
  have e2 : x % 2 ^ j < 2 ^ j := Int.emod_lt_of_pos _ (Int.pow_pos (by decide))
  have e3 : ((2 : Int) ^ j) ≤ 2 ^ 62 := by
    have := Int.ofNat_le.2 hlt
    simpa using this
  omega
theorem and7 (x : Int) : bits .and .i64 x 7 = x % 8 := bits_mask_i64 x 3 (by decide)
theorem and3 (x : Int) : bits .and .i64 x 3 = x % 4 := bits_mask_i64 x 2 (by decide)
theorem andffff (x : Int) : bits .and .i64 x 65535 = x % 65536 := bits_mask_i64 x 16 (by decide)

theorem setRow_alloc (w : World) (n : Nat) (c cs : Array Value) (t : TypeId) (h : n = w.heap.size) : (w.alloc (.cells c t (0, 0))).setRow n cs = w.alloc (.cells cs t (0, 0)) := by
  subst h
  simp only [World.setRow, World.alloc]
  congr 1
  apply Array.ext_getElem?
  intro i
  simp only [Array.getElem?_modify, Array.getElem?_push]
  by_cases hi : w.heap.size = i
  · subst hi; simp
  · rw [if_neg hi, if_neg (Ne.symm hi), if_neg (Ne.symm hi)]

end Go.Proofs.Ytmibmjehjagmbaa

/- Laws on maps, whatever their elements are: look-up, store, delete, len and range, on a block that is known whole. No condition. -/
namespace Go.Proofs.Ytmibmjehjagmbaa
open Go.RowKit

def World.setObj (w : World) (r : Nat) (o : Obj) : World := { w with heap := w.heap.setIfInBounds r o }
theorem hp_setObj (w : World) (r g : Nat) (o : Obj) (h : r < w.heap.size) : (World.setObj w r o).heap[g]? = if r = g then some o else w.heap[g]? := by
  simp only [World.setObj, Array.getElem?_setIfInBounds]
  split
  · rename_i e; subst e; simp
  · rfl
theorem size_setObj (w : World) (r : Nat) (o : Obj) : (World.setObj w r o).heap.size = w.heap.size := by simp [World.setObj]
theorem Mod.setObj {fp : List Nat} {a w : World} (h : Mod fp a w) {r : Nat} (hp : r ∈ fp ∨ a.heap.size ≤ r) (o : Obj) : Mod fp a (World.setObj w r o) :=
  ⟨h.os, h.tape, h.output, by have := h.size; simp [World.setObj]; omega, fun k hk hn => by
    have hs := h.size
    have hne : r ≠ k := fun e => by subst e; rcases hp with hp | hp; exact hn hp; omega
    have : (World.setObj w r o).heap[k]? = w.heap[k]? := by simp [World.setObj, hne]
    rw [this]; exact h.block k hk hn⟩
theorem Cel.setObj {w : World} {b : Nat} {c : Array Value} {t : TypeId} (h : Cel w b c t) {r : Nat} (hne : r ≠ b) (o : Obj) : Cel (World.setObj w r o) b c t := by
  unfold Cel at *
  simp [World.setObj, hne, h]
theorem setObj_alloc (w : World) (n : Nat) (o o' : Obj) (h : n = w.heap.size) : World.setObj (w.alloc o) n o' = w.alloc o' := by
  subst h
  simp only [World.setObj, World.alloc]
  congr 1
  apply Array.ext_getElem?
  intro i
  simp only [Array.getElem?_setIfInBounds, Array.getElem?_push]
  by_cases hi : w.heap.size = i
  · subst hi; simp
  · rw [if_neg hi, if_neg (Ne.symm hi), if_neg (Ne.symm hi)]

section
variable {κ : Type} [DecidableEq κ]

/-- A map's entries as a list: key, value, when it was put. -/
abbrev AL (κ : Type) := List (κ × Value × Nat)
def toE (enc : κ → Value) (x : κ × Value × Nat) : MapEntry := { key := enc x.1, val := x.2.1, born := x.2.2 }
def mapObj (enc : κ → Value) (l : AL κ) (c : Nat) : Obj := .map (l.map (toE enc)).toArray c

def alIdx (k : κ) : AL κ → Nat → Option (Nat × Value)
  | [], _ => none
  | x :: l, i => if k = x.1 then some (i, x.2.1) else alIdx k l (i + 1)
def alFind (k : κ) : AL κ → Option Value
  | [] => none
  | x :: l => if k = x.1 then some x.2.1 else alFind k l
def alPut (k : κ) (v : Value) (c : Nat) : AL κ → AL κ
  | [] => [(k, v, c)]
  | x :: l => if k = x.1 then (k, v, x.2.2) :: l else x :: alPut k v c l
def alDel (k : κ) : AL κ → AL κ
  | [] => []
  | x :: l => if k = x.1 then l else x :: alDel k l
def alClock (k : κ) (l : AL κ) (c : Nat) : Nat := if (alFind k l).isSome then c else c + 1

theorem alIdx_find (k : κ) : ∀ (l : AL κ) (i : Nat), (alIdx k l i).map (·.2) = alFind k l
  | [], _ => rfl
  | x :: l, i => by unfold alIdx alFind; split; rfl; exact alIdx_find k l (i + 1)

theorem alIdx_some (k : κ) : ∀ (l : AL κ) (i j : Nat) (v : Value), alIdx k l i = some (j, v) → ∃ m b, j = i + m ∧ l[m]? = some (k, v, b) ∧ ∀ (u : Value) (c : Nat), alPut k u c l = l.set m (k, u, b) ∧ alDel k l = l.eraseIdx m
  | [], _, _, _, h => by cases h
  | x :: l, i, j, v, h => by
    unfold alIdx at h
    split at h
    · rename_i e
      obtain ⟨k', v', b⟩ := x
      simp only at e; subst e
      injection h with h; injection h with h1 h2; subst h1; subst h2
      exact ⟨0, b, rfl, rfl, fun u c => by simp [alPut, alDel]⟩
    · rename_i e
      obtain ⟨m, b, h1, h2, h3⟩ := alIdx_some k l _ _ _ h
      refine ⟨m + 1, b, by omega, by simpa using h2, fun u c => ?_⟩
      unfold alPut alDel
      rw [if_neg e, if_neg e, (h3 u c).1, (h3 u c).2]
      exact ⟨rfl, rfl⟩

theorem alIdx_none (k : κ) : ∀ (l : AL κ) (i : Nat), alIdx k l i = none → ∀ (u : Value) (c : Nat), alPut k u c l = l ++ [(k, u, c)] ∧ alDel k l = l
  | [], _, _, _, _ => ⟨rfl, rfl⟩
  | x :: l, i, h, u, c => by
    unfold alIdx at h
    split at h
    · cases h
    · rename_i e
      unfold alPut alDel
      rw [if_neg e, if_neg e, (alIdx_none k l _ h u c).1, (alIdx_none k l _ h u c).2]
      exact ⟨rfl, rfl⟩

theorem alFind_put (k k' : κ) (v : Value) (c : Nat) : ∀ l : AL κ, alFind k' (alPut k v c l) = if k' = k then some v else alFind k' l
  | [] => by simp [alPut, alFind]
  | x :: l => by
    unfold alPut
    split
    · rename_i e; subst e
      by_cases h : k' = x.1 <;> simp [alFind, h]
    · rename_i e
      unfold alFind
      rw [alFind_put k k' v c l]
      by_cases h : k' = x.1
      · have : k' ≠ k := fun h' => e (h'.symm.trans h)
        simp [h, Ne.symm e]
      · simp [h]

theorem alFind_none_of (k : κ) : ∀ l : AL κ, (∀ x ∈ l, x.1 ≠ k) → alFind k l = none
  | [], _ => rfl
  | x :: l, h => by
    unfold alFind
    rw [if_neg (fun e => h x (by simp) e.symm), alFind_none_of k l (fun y hy => h y (by simp [hy]))]

theorem alFind_some_mem (k : κ) : ∀ (l : AL κ) (v : Value), alFind k l = some v → ∃ b, (k, v, b) ∈ l
  | [], _, h => by cases h
  | x :: l, v, h => by
    unfold alFind at h
    split at h
    · rename_i e
      obtain ⟨k', v', b⟩ := x
      simp only at e; subst e
      injection h with h; subst h
      exact ⟨b, by simp⟩
    · obtain ⟨b, hb⟩ := alFind_some_mem k l v h
      exact ⟨b, by simp [hb]⟩

theorem alFind_mem (k : κ) (v : Value) (b : Nat) : ∀ (l : AL κ), (l.map (·.1)).Nodup → (k, v, b) ∈ l → alFind k l = some v
  | [], _, h => by cases h
  | x :: l, hn, h => by
    unfold alFind
    rw [List.map_cons, List.nodup_cons] at hn
    rcases List.mem_cons.1 h with h | h
    · subst h; simp
    · have : k ≠ x.1 := fun e => hn.1 (by rw [← e]; exact List.mem_map.2 ⟨_, h, rfl⟩)
      rw [if_neg this, alFind_mem k v b l hn.2 h]

theorem alPut_keys (k : κ) (v : Value) (c : Nat) : ∀ l : AL κ, (alPut k v c l).map (·.1) = if (alFind k l).isSome then l.map (·.1) else l.map (·.1) ++ [k]
  | [] => by simp [alPut, alFind]
  | x :: l => by
    unfold alPut alFind
    by_cases h : k = x.1
    · simp [h]
    · rw [if_neg h, if_neg h, List.map_cons, alPut_keys k v c l]
      split <;> simp

theorem alFind_isSome (k : κ) : ∀ l : AL κ, (alFind k l).isSome = true ↔ k ∈ l.map (·.1)
  | [] => by simp [alFind]
  | x :: l => by
    unfold alFind
    by_cases h : k = x.1
    · simp [h]
    · rw [if_neg h, alFind_isSome k l]; simp [h]

theorem alPut_nodup (k : κ) (v : Value) (c : Nat) (l : AL κ) (h : (l.map (·.1)).Nodup) : ((alPut k v c l).map (·.1)).Nodup := by
  rw [alPut_keys]
  split
  · exact h
  · rename_i hn
    rw [alFind_isSome] at hn
    rw [List.nodup_append]
    exact ⟨h, by simp, fun a ha b hb => by simp at hb; subst hb; exact fun e => hn (e ▸ ha)⟩

theorem alPut_length (k : κ) (v : Value) (c : Nat) (l : AL κ) : (alPut k v c l).length = if (alFind k l).isSome then l.length else l.length + 1 := by
  have h := congrArg List.length (alPut_keys k v c l)
  split at h <;> rename_i hh <;> simp [hh] at h ⊢ <;> exact h

/-- A key type whose values are compared at once. -/
structure KeyEnc (P : Program) (kt : TypeId) (enc : κ → Value) : Prop where
  check : ∀ (em : Bool) (k : κ) (w : World), (Instr.checkKey em 10000 kt (enc k)).run P w = .ok () w
  find : ∀ (k : κ) (l : AL κ) (w : World), (Instr.findKey kt (enc k) (l.map (toE enc))).run P w = .ok (alIdx k l 0) w
  bits : ∀ k, Instr.sameBits 10000 (enc k) (enc k) = true

theorem run_getObj_map {P : Program} {w : World} {r : Nat} {es : Array MapEntry} {c : Nat} (h : w.heap[r]? = some (.map es c)) : (getObj r).run P w = .ok (.map es c) w := by
  simp [getObj, Sem.run, h]
theorem run_setObj_map {P : Program} {w : World} {r : Nat} {es : Array MapEntry} {c : Nat} (o : Obj) (h : w.heap[r]? = some (.map es c)) : (setObj r o).run P w = .ok () (World.setObj w r o) := by
  simp [Go.setObj, Sem.run, h, World.setObj]

theorem run_mapUpdate_raw {P : Program} {w : World} {kt et t : TypeId} {enc : κ → Value} (K : KeyEnc P kt enc) (ht : P.underlying t = some (.map kt et)) {r : Nat} {l : AL κ} {c : Nat}
    (hb : w.heap[r]? = some (mapObj enc l c)) (k : κ) (v : Value) :
    (Instr.mapUpdate t (.map (some r)) (enc k) v).run P w = .ok () (World.setObj w r (mapObj enc (alPut k v c l) (alClock k l c))) := by
  unfold mapObj at hb
  unfold Instr.mapUpdate
  simp only [Sem.run_bind, run_underlying ht, Result.andThen, run_getObj_map hb, K.check, K.find]
  have hf := alIdx_find k l 0
  cases hi : alIdx k l 0 with
  | none =>
    rw [hi] at hf
    simp only [run_setObj_map _ hb, alClock, ← hf, (alIdx_none k l 0 hi v c).1]
    simp [mapObj, toE]
  | some p =>
    obtain ⟨j, u⟩ := p
    rw [hi] at hf
    obtain ⟨m, b, h1, h2, h3⟩ := alIdx_some k l 0 j u hi
    obtain rfl : j = m := by omega
    have hm : ((l.map (toE enc)).toArray[j]?.map (·.key)).getD (enc k) = enc k := by
      simp [h2, toE]
    simp only [hm, Instr.keyThatStays, K.bits, if_true, Sem.run_bind, Sem.run_pure, Result.andThen, run_setObj_map _ hb, alClock, ← hf, (h3 v c).1]
    simp only [mapObj, Option.map_some, Option.isSome_some, if_true]
    congr 3
    apply Array.ext_getElem?
    intro i
    have hj : j < l.length := by
      rcases Nat.lt_or_ge j l.length with h | h
      · exact h
      · rw [List.getElem?_eq_none h] at h2; cases h2
    simp only [Array.getElem?_modify, List.getElem?_toArray, List.getElem?_map, List.getElem?_set]
    by_cases e : j = i
    · subst e; rw [if_pos rfl, if_pos hj, h2]; simp [toE]
    · simp [e]

theorem run_lookup_raw {P : Program} {w : World} {kt et t : TypeId} {enc : κ → Value} (K : KeyEnc P kt enc) (ht : P.underlying t = some (.map kt et)) {r : Nat} {l : AL κ} {c : Nat}
    (hb : w.heap[r]? = some (mapObj enc l c)) (k : κ) (z : Value) (hz : (zeroValue et).run P w = .ok z w) (ok : Bool) :
    (Instr.lookup t (.map (some r)) (enc k) ok).run P w = .ok (if ok then .tuple #[(alFind k l).getD z, .bool (alFind k l).isSome] else (alFind k l).getD z) w := by
  unfold mapObj at hb
  unfold Instr.lookup
  simp only [Sem.run_bind, run_underlying ht, Result.andThen, run_getObj_map hb, Sem.run_pure, K.check, K.find]
  have hf := alIdx_find k l 0
  cases hi : alIdx k l 0 with
  | none => rw [hi] at hf; simp [← hf, hz, Result.andThen]
  | some p => rw [hi] at hf; simp [← hf]

theorem eraseIdx_map' {α β : Type} (f : α → β) : ∀ (l : List α) (i : Nat), (l.map f).eraseIdx i = (l.eraseIdx i).map f
  | [], _ => by simp
  | _ :: _, 0 => rfl
  | x :: l, i + 1 => by simp [eraseIdx_map' f l i]
theorem run_delete_raw {P : Program} {w : World} {kt et t : TypeId} {enc : κ → Value} (K : KeyEnc P kt enc) (ht : P.underlying t = some (.map kt et)) {r : Nat} {l : AL κ} {c : Nat}
    (hb : w.heap[r]? = some (mapObj enc l c)) (k : κ) (ts : Array TypeId) (ty : TypeId) (h0 : ts[0]? = some t) :
    (Builtin.delete_ ts ty #[.map (some r), enc k]).run P w = .ok (.tuple #[]) (World.setObj w r (mapObj enc (alDel k l) c)) := by
  unfold mapObj at hb
  unfold Builtin.delete_
  simp only [h0, List.getElem?_toArray, List.getElem?_cons_zero, List.getElem?_cons_succ, Sem.run_bind, run_underlying ht, Result.andThen, run_getObj_map hb, K.check, K.find]
  cases hi : alIdx k l 0 with
  | none =>
    simp only [(alIdx_none k l 0 hi .nilFunc 0).2]
    rw [Sem.run_bind, run_setObj_map _ hb]
    rfl
  | some p =>
    obtain ⟨j, u⟩ := p
    obtain ⟨m, b, h1, h2, h3⟩ := alIdx_some k l 0 j u hi
    obtain rfl : j = m := by omega
    simp only [(h3 .nilFunc 0).2]
    rw [Sem.run_bind, run_setObj_map _ hb]
    simp only [mapObj, Result.andThen_ok, Sem.run_pure]
    congr 3
    have hj : j < l.length := by
      rcases Nat.lt_or_ge j l.length with h | h
      · exact h
      · rw [List.getElem?_eq_none h] at h2; cases h2
    simp [Array.eraseIdxIfInBounds, hj, eraseIdx_map']
end

theorem int_enc {P : Program} {kt : TypeId} {ik : IntKind} (h : P.underlying kt = some (.int ik)) : KeyEnc P kt (fun n : Int => Value.int ik n) where
  check em k w := by
    unfold Instr.checkKey
    simp [run_underlying h]
  find k l w := by
    unfold Instr.findKey
    have hn : ∀ (l : AL Int) (i : Nat), Instr.findNow (.int ik) (.int ik k) (l.map (toE fun n : Int => Value.int ik n)) i = some (alIdx k l i) := by
      intro l
      induction l with
      | nil => intro i; rfl
      | cons x l ih =>
        intro i
        simp only [List.map_cons, Instr.findNow, toE, Instr.sameNow, if_true, alIdx]
        by_cases e : k = x.1
        · simp [e]
        · have : (k == x.1) = false := by simpa using e
          simp only [this, if_neg e]
          exact ih (i + 1)
    simp only [Sem.run_bind, run_underlying h, Result.andThen, hn, Sem.run_pure]
  bits k := by simp [Instr.sameBits]

section
variable {P : Program} {ops : Array Oper} {rest : List Oper} {o : Oper} {a : Act} {w : World} {Q : Exit → Act → World → Prop} {κ : Type} [DecidableEq κ]

theorem wpList_value (hg : o.guard = none) {v : Value} {w' : World} (h : (execOp a.eval o).run P w = .ok (.value v) w') (hK : wpList P ops Q rest (a.put o.dst v) w') : wpList P ops Q (o :: rest) a w := by
  refine wpList_plain hg fun K hk => ?_
  unfold Oper.wp
  rw [h]
  exact hk _ _ hK
theorem wpList_skip (hg : o.guard = none) {w' : World} (h : (execOp a.eval o).run P w = .ok .skip w') (hK : wpList P ops Q rest (a.put o.dst undef) w') : wpList P ops Q (o :: rest) a w := by
  refine wpList_plain hg fun K hk => ?_
  unfold Oper.wp
  rw [h]
  exact hk _ _ hK

theorem wpList_mapUpdate_raw {kt et : TypeId} {enc : κ → Value} (K : KeyEnc P kt enc) (hg : o.guard = none) (m x v : Operand) (t : TypeId) (hop : o.op = .mapUpdate t m x v) (ht : P.underlying t = some (.map kt et)) (r : Nat) (k : κ) (u : Value) (l : AL κ) (c : Nat)
    (hm : a.eval m = .map (some r)) (hx : a.eval x = enc k) (hv : a.eval v = u) (hb : w.heap[r]? = some (mapObj enc l c))
    (hK : wpList P ops Q rest (a.put o.dst undef) (World.setObj w r (mapObj enc (alPut k u c l) (alClock k l c)))) : wpList P ops Q (o :: rest) a w := by
  refine wpList_skip hg ?_ hK
  simp [execOp, hop, hm, hx, hv, run_mapUpdate_raw K ht hb]

theorem wpList_insert_raw {kt et : TypeId} {enc : κ → Value} (K : KeyEnc P kt enc) (hg : o.guard = none) (m x v : Operand) (t : TypeId) (hop : o.op = .insert t m x v) (ht : P.underlying t = some (.map kt et)) (r : Nat) (k : κ) (u : Value) (l : AL κ) (c : Nat)
    (hm : a.eval m = .map (some r)) (hx : a.eval x = enc k) (hv : a.eval v = u) (hb : w.heap[r]? = some (mapObj enc l c))
    (hK : wpList P ops Q rest (a.put o.dst undef) (World.setObj w r (mapObj enc (alPut k u c l) (alClock k l c)))) : wpList P ops Q (o :: rest) a w := by
  refine wpList_skip hg ?_ hK
  simp [execOp, hop, hm, hx, hv, run_mapUpdate_raw K ht hb]

theorem wpList_lookup_raw {kt et : TypeId} {enc : κ → Value} (K : KeyEnc P kt enc) (hg : o.guard = none) (m x : Operand) (t : TypeId) (ok : Bool) (hop : o.op = .lookup t m x ok) (ht : P.underlying t = some (.map kt et)) (r : Nat) (k : κ) (l : AL κ) (c : Nat) (z : Value)
    (hz : (zeroValue et).run P w = .ok z w) (hm : a.eval m = .map (some r)) (hx : a.eval x = enc k) (hb : w.heap[r]? = some (mapObj enc l c))
    (hK : wpList P ops Q rest (a.put o.dst (if ok then .tuple #[(alFind k l).getD z, .bool (alFind k l).isSome] else (alFind k l).getD z)) w) : wpList P ops Q (o :: rest) a w := by
  refine wpList_value hg ?_ hK
  simp [execOp, hop, hm, hx, run_lookup_raw K ht hb k z hz ok]
end

end Go.Proofs.Ytmibmjehjagmbaa

/- Laws on ranging over a map that is not written meanwhile, on blocks that are known whole. No condition. -/
namespace Go.Proofs.Ytmibmjehjagmbaa
open Go.RowKit

set_option linter.unusedSectionVars false
section
variable {P : Program} {κ : Type} [DecidableEq κ] {enc : κ → Value}

/-- Every entry's stamp is below the clock, and no two have one. -/
structure Stamps (l : AL κ) (c : Nat) : Prop where
  low : ∀ x ∈ l, x.2.2 < c
  nodup : (l.map (·.2.2)).Nodup

theorem Stamps.nil (c : Nat) : Stamps ([] : AL κ) c := ⟨(fun x h => by cases h), List.nodup_nil⟩
theorem Stamps.snoc {l : AL κ} {c : Nat} (h : Stamps l c) (k : κ) (v : Value) : Stamps (l ++ [(k, v, c)]) (c + 1) := by
  refine ⟨fun x hx => ?_, ?_⟩
  · rcases List.mem_append.1 hx with hx | hx
    · have := h.low x hx; omega
    · simp at hx; subst hx; simp
  · rw [List.map_append, List.nodup_append]
    refine ⟨h.nodup, by simp, fun a ha b hb => ?_⟩
    simp at hb
    subst hb
    obtain ⟨x, hx, rfl⟩ := List.mem_map.1 ha
    have := h.low x hx
    omega

theorem run_next_raw {w : World} {it m c : Nat} {S : Array Nat} {l : AL κ} (ty : TypeId) (hit : w.heap[it]? = some (.mapIter (some m) c S c)) (hm : w.heap[m]? = some (mapObj enc l c)) (hs : Stamps l c) :
    ((∀ x ∈ l, x.2.2 ∈ S) ∧ (Instr.next (.pointer (some ⟨it, 0, none⟩)) false ty).run P w = .ok (.tuple #[.bool false]) w) ∨
    ∃ x ∈ l, x.2.2 ∉ S ∧ ∃ w1, (w1 = w ∨ w1 = w.drew) ∧ (Instr.next (.pointer (some ⟨it, 0, none⟩)) false ty).run P w = .ok (.tuple #[.bool true, enc x.1, x.2.1]) (World.setObj w1 it (.mapIter (some m) c (S.push x.2.2) c)) := by
  unfold mapObj at hm
  have hold : ∀ x ∈ (l.map (toE enc)).toArray.toList, x.born < c := fun x hx => by
    simp only at hx
    obtain ⟨y, hy, rfl⟩ := List.mem_map.1 hx
    exact hs.low y hy
  have htest := next_test_false S (l.map (toE enc)).toArray c c hold (Nat.le_refl _)
  have hset : ∀ (w1 : World) (o : Obj), (w1 = w ∨ w1 = w.drew) → (setObj it o).run P w1 = .ok () (World.setObj w1 it o) := fun w1 o hw => by
    rcases hw with rfl | rfl <;> simp [Go.setObj, Sem.run, hit, World.setObj, hp_drew]
  have hmemL : ∀ x ∈ (Array.filter (fun e => !S.contains e.born) (l.map (toE enc)).toArray).toList, ∃ y ∈ l, x = toE enc y ∧ y.2.2 ∉ S := fun x hx => by
    simp at hx
    obtain ⟨⟨a, b, d, hy, rfl⟩, h2⟩ := hx
    exact ⟨(a, b, d), hy, rfl, by simpa [toE] using h2⟩
  have hallL : (Array.filter (fun e => !S.contains e.born) (l.map (toE enc)).toArray).size = 0 → ∀ y ∈ l, y.2.2 ∈ S := fun h0 y hy => by
    have h1 := Array.eq_empty_of_size_eq_zero h0
    rw [Array.filter_eq_empty_iff] at h1
    have := h1 (a := toE enc y) (by simp; exact ⟨_, _, _, hy, rfl⟩)
    simpa [toE] using this
  simp only [Instr.next, getObj, Sem.run_bind, Sem.run, hit, hm, Result.andThen, htest, Bool.false_eq_true, if_false]
  have hmem : ∀ x ∈ (Array.filter (fun e => !S.contains e.born) (l.map (toE enc)).toArray).toList, x.born < c := fun x hx => hold x (by simp at hx ⊢; exact hx.1)
  generalize Array.filter (fun e => !S.contains e.born) (l.map (toE enc)).toArray = L at hmem hmemL hallL ⊢
  have e1 : L.filter (fun x => decide (x.born < c)) = L := Array.filter_eq_self.2 (fun x hx => by simpa using hmem x (by simpa using hx))
  have e2 : L.filter (fun x => decide (x.born ≥ c)) = #[] := by
    rw [Array.filter_eq_empty_iff]
    intro x hx
    have := hmem x (by simpa using hx)
    simp
    omega
  simp only [e1, e2, Array.append_empty]
  by_cases h0 : L.size = 0
  · left
    refine ⟨hallL h0, ?_⟩
    have : L = #[] := Array.eq_empty_of_size_eq_zero h0
    subst this
    simp [choose, Sem.run, Question.forced]
  · right
    have hne : L.isEmpty = false := by simp [Array.isEmpty, h0]
    simp only [hne, Bool.false_eq_true, if_false, Array.empty_append, Array.size_map]
    have hch : ∃ (j : Nat) (w1 : World), j < L.size ∧ (w1 = w ∨ w1 = w.drew) ∧ (choose (Question.mapNext L.size)).run P w = .ok j w1 := by
      by_cases hf : L.size ≤ 1
      · exact ⟨0, w, by omega, .inl rfl, by simp [choose, Sem.run, Question.forced, hf]⟩
      · exact ⟨_, w.drew, Nat.mod_lt _ (by omega), .inr rfl, by
          simp only [choose, Sem.run, Question.forced, decide_eq_true_eq, hf, if_false, Question.cut]
          rfl⟩
    obtain ⟨j, w1, hj, hal, hrun⟩ := hch
    obtain ⟨y, hy, hLj, hyS⟩ := hmemL L[j] (by simp)
    refine ⟨y, hy, hyS, w1, hal, ?_⟩
    simp only [hrun, Array.getElem?_map, Array.getElem?_eq_getElem hj, Option.map_some, Sem.run_bind, hLj, toE]
    rw [hset w1 _ hal]
    rfl

theorem run_entry_raw {w : World} {it m c : Nat} {S : Array Nat} {l : AL κ} {x : κ × Value × Nat} (hit : w.heap[it]? = some (.mapIter (some m) c (S.push x.2.2) c)) (hm : w.heap[m]? = some (mapObj enc l c)) (hs : Stamps l c) (hx : x ∈ l) :
    (Instr.entry (.pointer (some ⟨it, 0, none⟩))).run P w = .ok (.tuple #[enc x.1, x.2.1]) w := by
  unfold mapObj at hm
  have hf : (l.map (toE enc)).toArray.find? (·.born == x.2.2) = some (toE enc x) := by
    rw [← Array.find?_toList]
    exact find_born (toE enc x) (l.map (toE enc)) (by rw [List.map_map]; exact hs.nodup) (List.mem_map.2 ⟨x, hx, rfl⟩)
  simp only [Instr.entry, getObj, Sem.run_bind, Sem.run, hit, hm, Result.andThen, Array.back?_push, bne_self_eq_false, Bool.false_eq_true, if_false, hf]
  rfl

theorem run_range_raw {w : World} {t k e : TypeId} {m c : Nat} {l : AL κ} (ht : P.underlying t = some (.map k e)) (hb : w.heap[m]? = some (mapObj enc l c)) :
    (Instr.range t (.map (some m))).run P w = .ok (.pointer (some ⟨w.heap.size, 0, none⟩)) (w.alloc (.mapIter (some m) c #[] c)) :=
  run_range_map w t k e m _ c ht hb
end

/-- How many entries are still to come. -/
def leftN {κ : Type} (l : AL κ) (S : Array Nat) : Nat := (l.filter fun x => !S.contains x.2.2).length
theorem leftN_push {κ : Type} {l : AL κ} {S : Array Nat} {x : κ × Value × Nat} (hx : x ∈ l) (hS : x.2.2 ∉ S) : leftN l (S.push x.2.2) < leftN l S := by
  unfold leftN
  refine filter_lt (fun y : κ × Value × Nat => !S.contains y.2.2) (fun y => !(S.push x.2.2).contains y.2.2) ?_ x ?_ ?_ l hx
  · intro y hy
    simp only [Array.contains_push, Bool.not_or, Bool.and_eq_true] at hy
    exact hy.1
  · simpa using hS
  · simp
theorem iterSeen_of {w : World} {it m c : Nat} {S : Array Nat} (h : w.heap[it]? = some (.mapIter (some m) c S c)) : w.iterSeen it = S := by
  unfold World.iterSeen; rw [h]

section
variable {P : Program} {ops : Array Oper} {rest : List Oper} {o : Oper} {a : Act} {w : World} {Q : Exit → Act → World → Prop} {κ : Type} [DecidableEq κ] {enc : κ → Value}
theorem wpList_next_raw (hg : o.guard = none) (x : Operand) (hop : o.op = .next x false) (it m c : Nat) (S : Array Nat) (l : AL κ) (hx : a.eval x = .pointer (some ⟨it, 0, none⟩))
    (hit : w.heap[it]? = some (.mapIter (some m) c S c)) (hm : w.heap[m]? = some (mapObj enc l c)) (hs : Stamps l c)
    (h1 : (∀ y ∈ l, y.2.2 ∈ S) → wpList P ops Q rest (a.put o.dst (.tuple #[.bool false])) w)
    (h2 : ∀ y w', y ∈ l → y.2.2 ∉ S → w'.heap[it]? = some (.mapIter (some m) c (S.push y.2.2) c) → Mod [it] w w' → wpList P ops Q rest (a.put o.dst (.tuple #[.bool true, enc y.1, y.2.1])) w') : wpList P ops Q (o :: rest) a w := by
  have hlt : it < w.heap.size := lt_of_block hit
  rcases run_next_raw (P := P) o.type hit hm hs with ⟨g1, g2⟩ | ⟨y, hy, hyS, w1, hw, g2⟩
  · refine wpList_value hg ?_ (h1 g1)
    simp [execOp, hop, hx, g2]
  · refine wpList_value hg ?_ (h2 y (World.setObj w1 it (.mapIter (some m) c (S.push y.2.2) c)) hy hyS ?_ ?_)
    · simp [execOp, hop, hx, g2]
    · rw [hp_setObj _ _ _ _ (by rcases hw with rfl | rfl <;> simpa using hlt), if_pos rfl]
    · rcases hw with rfl | rfl
      · exact (Mod.refl _ _).setObj (.inl (by simp)) _
      · exact ((Mod.refl _ _).drew).setObj (.inl (by simp)) _
end
end Go.Proofs.Ytmibmjehjagmbaa

/- Single operations on maps, as contracts. No condition. -/
namespace Go.Proofs.Ytmibmjehjagmbaa
open Go.Proofs.Ytmibmjehjagmbaa RX

section
variable {κ : Type} [DecidableEq κ] {enc : κ → Value} {kt et t ty : TypeId} {r m it c : Nat} {l : AL κ} {S : Array Nat}

/-- A map's entries as Go keeps them. -/
def MapI (l : AL κ) (c : Nat) : Prop := (l.map (·.1)).Nodup ∧ Stamps l c
def lookS (t : TypeId) (m k : Value) (ok : Bool) : Sem Next := do pure (.value (← Instr.lookup t m k ok))
theorem semOf_lookup {ρ : Env} {i j : Nat} {u v : V} {ok : Bool} (h : i ≠ j) : semOf ρ (.lookup t (.tmp i) (.tmp j) ok) ty [(i, u), (j, v)] = lookS t (u.den ρ) (v.den ρ) ok := by
  have h' : (i == j) = false := by simpa using h
  simp [semOf, execOp, arEval, h', lookS]
theorem run_zeroV {w : World} {i : TypeInfo} {z : Value} (hi : Try.prog.info? et = some i) (hz : i.zero = some z) : (zeroValue et).run Try.prog w = .ok z w := by
  unfold zeroValue
  simp only [Sem.run_bind, RX.run_typeInfo hi, Result.andThen_ok, hz]
  rfl
theorem look_ok (K : KeyEnc Try.prog kt enc) (ht : Try.prog.underlying t = some (.map kt et)) {i : TypeInfo} {z : Value} (hi : Try.prog.info? et = some i) (hz : i.zero = some z) (k : κ) (ok : Bool) {A : HP} (hA : ∀ R h, A.p R h → h r = some (mapObj enc l c)) :
    ORead Try.prog (lookS t (.map (some r)) (enc k) ok) A (if ok then .tuple #[(alFind k l).getD z, .bool (alFind k l).isSome] else (alFind k l).getD z) := fun w R h F s a => by
  unfold lookS
  rw [Sem.run_bind, run_lookup_raw K ht (s.oh _ _ (hA R h a)) k z (run_zeroV hi hz) ok]
  rfl
theorem Sat.setObj {w : World} {R h F : PH} (s : Sat w R h F) {b : Nat} {x y : Obj} (hb : h b = some x) : Sat (World.setObj w b y) R (fun k => if k = b then some y else h k) F :=
  s.turn hb (fun k hk => by rw [hp_setObj _ _ _ _ (s.oh.lt hb), if_neg (fun e => hk e.symm)]) (by rw [hp_setObj _ _ _ _ (s.oh.lt hb), if_pos rfl])
theorem Same.setObj (w : World) (b : Nat) (y : Obj) : Same w (World.setObj w b y) := ⟨rfl, rfl, rfl, by rw [size_setObj]; omega⟩
def updS (t : TypeId) (m k v : Value) : Sem Next := do Instr.mapUpdate t m k v; pure .skip
theorem semOf_update {ρ : Env} {i j q : Nat} {u v x : V} (h : i ≠ j) (h2 : i ≠ q) (h3 : j ≠ q) : semOf ρ (.mapUpdate t (.tmp i) (.tmp j) (.tmp q)) ty [(i, u), (j, v), (q, x)] = updS t (u.den ρ) (v.den ρ) (x.den ρ) := by
  have h' : (i == j) = false := by simpa using h
  have h2' : (i == q) = false := by simpa using h2
  have h3' : (j == q) = false := by simpa using h3
  simp [semOf, execOp, arEval, h', h2', h3', updS]
theorem upd_ok (K : KeyEnc Try.prog kt enc) (ht : Try.prog.underlying t = some (.map kt et)) (k : κ) (v : Value) :
    OTri Try.prog (updS t (.map (some r)) (enc k) v) (HP.one r (mapObj enc l c)) (fun x => HP.and (x = .tuple #[]) (HP.one r (mapObj enc (alPut k v c l) (alClock k l c)))) := fun w R h F s a => by
  refine ⟨.skip, _, _, by unfold updS; rw [Sem.run_bind, run_mapUpdate_raw K ht (s.oh _ _ a) k v]; rfl, rfl, Same.setObj _ _ _, R, _, PH.le.refl _, s.setObj a, rfl, if_pos rfl⟩
def delS (ts : Array TypeId) (ty : TypeId) (u v : Value) : Sem Next := do pure (.value (← Builtin.delete_ ts ty #[u, v]))
theorem semOf_delete {ρ : Env} {i j : Nat} {u v : V} {ts : Array TypeId} (h : i ≠ j) : semOf ρ (.call ⟨.builtin .delete, #[.tmp i, .tmp j], ts⟩) ty [(i, u), (j, v)] = delS ts ty (u.den ρ) (v.den ρ) := by
  have h' : (i == j) = false := by simpa using h
  simp [semOf, execOp, resolve, arEval, invoke, builtin, h', delS]
theorem del_ok (K : KeyEnc Try.prog kt enc) (ht : Try.prog.underlying t = some (.map kt et)) (k : κ) (ts : Array TypeId) (h0 : ts[0]? = some t) :
    OTri Try.prog (delS ts ty (.map (some r)) (enc k)) (HP.one r (mapObj enc l c)) (fun x => HP.and (x = .tuple #[]) (HP.one r (mapObj enc (alDel k l) c))) := fun w R h F s a => by
  refine ⟨.value _, _, _, by unfold delS; rw [Sem.run_bind, run_delete_raw K ht (s.oh _ _ a) k ts ty h0]; rfl, rfl, Same.setObj _ _ _, R, _, PH.le.refl _, s.setObj a, rfl, if_pos rfl⟩
def rangS (t : TypeId) (m : Value) : Sem Next := do pure (.value (← Instr.range t m))
theorem semOf_range {ρ : Env} {i : Nat} {u : V} : semOf ρ (.range t (.tmp i)) ty [(i, u)] = rangS t (u.den ρ) := by
  simp [semOf, execOp, arEval, rangS]
theorem range_ok {k e : TypeId} (ht : Try.prog.underlying t = some (.map k e)) :
    OTri Try.prog (rangS t (.map (some m))) (HP.one m (mapObj enc l c)) (fun v => HP.ex fun it => HP.and (v = .pointer (some ⟨it, 0, none⟩)) (HP.sep (HP.one it (.mapIter (some m) c #[] c)) (HP.one m (mapObj enc l c)))) := fun w R h F s a => by
  obtain ⟨s2, d2⟩ := s.alloc (.mapIter (some m) c #[] c)
  refine ⟨.value _, _, _, by unfold rangS; rw [Sem.run_bind, run_range_raw ht (s.oh _ _ a)]; rfl, rfl, Same.alloc _ _, R, _, PH.le.refl _, s2, w.heap.size, rfl, _, h, d2, PH.un_left _ _, PH.un_right d2, PH.one_self _ _, a⟩
def nextS (x : Value) (ty : TypeId) : Sem Next := do pure (.value (← Instr.next x false ty))
theorem semOf_next {ρ : Env} {i : Nat} {u : V} : semOf ρ (.next (.tmp i) false) ty [(i, u)] = nextS (u.den ρ) ty := by
  simp [semOf, execOp, arEval, nextS]
def nextE (enc : κ → Value) (l : AL κ) (S : Array Nat) (v : Value) : Option (κ × Value × Nat) → Prop
  | none => v = .tuple #[.bool false] ∧ ∀ x ∈ l, x.2.2 ∈ S
  | some x => v = .tuple #[.bool true, enc x.1, x.2.1] ∧ x ∈ l ∧ x.2.2 ∉ S
def nextI (S : Array Nat) : Option (κ × Value × Nat) → Array Nat
  | none => S
  | some x => S.push x.2.2
theorem next_ok (hs : Stamps l c) : OTri Try.prog (nextS (.pointer (some ⟨it, 0, none⟩)) ty) (HP.sep (HP.one it (.mapIter (some m) c S c)) (HP.one m (mapObj enc l c)))
    (fun v => HP.ex fun e => HP.and (nextE enc l S v e) (HP.sep (HP.one it (.mapIter (some m) c (nextI S e) c)) (HP.one m (mapObj enc l c)))) := fun w R h F s a => by
  have a1 := HP.sep_left a
  have a2 := HP.sep_right a
  have hne : m ≠ it := by
    obtain ⟨h1, h2, d, _, _, b1, b2⟩ := a
    intro e
    subst e
    rcases d m with e | e
    · rw [show h1 m = some _ from b1] at e; cases e
    · rw [show h2 m = some _ from b2] at e; cases e
  rcases run_next_raw (P := Try.prog) ty (s.oh _ _ a1) (s.oh _ _ a2) hs with ⟨hall, hrun⟩ | ⟨x, hx, hS, w1, hw1, hrun⟩
  · exact ⟨.value _, _, w, by unfold nextS; rw [Sem.run_bind, hrun]; rfl, rfl, Same.refl _, R, h, PH.le.refl _, s, none, ⟨rfl, hall⟩, a⟩
  · have s1 : Sat w1 R h F ∧ Same w w1 := by
      rcases hw1 with rfl | rfl
      · exact ⟨s, Same.refl _⟩
      · exact ⟨s.drew _, Same.drew w _⟩
    refine ⟨.value _, _, _, by unfold nextS; rw [Sem.run_bind, hrun]; rfl, rfl, s1.2.trans (Same.setObj _ _ _), R, _, PH.le.refl _, s1.1.setObj a1, some x, ⟨rfl, hx, hS⟩, PH.one it _, PH.one m (mapObj enc l c), fun k => ?_, PH.one_le (if_pos rfl), PH.one_le ?_, PH.one_self _ _, PH.one_self _ _⟩
    · by_cases e : k = it
      · subst e; exact .inr (if_neg (fun e => hne e.symm))
      · exact .inl (if_neg e)
    · exact (if_neg hne).trans a2
def entS (x : Value) : Sem Next := do pure (.value (← Instr.entry x))
theorem semOf_entry {ρ : Env} {i : Nat} {u : V} : semOf ρ (.entry (.tmp i)) ty [(i, u)] = entS (u.den ρ) := by
  simp [semOf, execOp, arEval, entS]
theorem entry_ok {x : κ × Value × Nat} (hs : Stamps l c) (hx : x ∈ l) {A : HP} (h1 : ∀ R h, A.p R h → h it = some (.mapIter (some m) c (S.push x.2.2) c)) (h2 : ∀ R h, A.p R h → h m = some (mapObj enc l c)) :
    ORead Try.prog (entS (.pointer (some ⟨it, 0, none⟩))) A (.tuple #[enc x.1, x.2.1]) := fun w R h F s a => by
  unfold entS
  rw [Sem.run_bind, run_entry_raw (P := Try.prog) (s.oh _ _ (h1 R h a)) (s.oh _ _ (h2 R h a)) hs hx]
  rfl
end
end Go.Proofs.Ytmibmjehjagmbaa

/- Maps as assertions: what each key stands for, by parts that never turn. No condition. -/
namespace Go.Proofs.Ytmibmjehjagmbaa
open Go.Proofs.Ytmibmjehjagmbaa RX

section
variable {κ : Type} [DecidableEq κ] {enc : κ → Value} {r c : Nat} {l : AL κ}

theorem alPut_none (k : κ) (v : Value) (c : Nat) : ∀ l : AL κ, alFind k l = none → alPut k v c l = l ++ [(k, v, c)]
  | [], _ => rfl
  | x :: l, h => by
    simp only [alFind] at h
    split at h
    · cases h
    · rename_i hk; simp [alPut, hk, alPut_none k v c l h]
theorem alPut_born (k : κ) (v : Value) (c : Nat) : ∀ l : AL κ, (alFind k l).isSome = true → (alPut k v c l).map (·.2.2) = l.map (·.2.2)
  | [], h => by cases h
  | x :: l, h => by
    simp only [alFind] at h
    simp only [alPut]
    split at h
    · rename_i hk; simp [hk]
    · rename_i hk; simp [hk, alPut_born k v c l h]
theorem MapI.nil (c : Nat) : MapI ([] : AL κ) c := ⟨List.nodup_nil, Stamps.nil c⟩
theorem MapI.put (h : MapI l c) (k : κ) (v : Value) : MapI (alPut k v c l) (alClock k l c) := by
  refine ⟨alPut_nodup k v c l h.1, ?_⟩
  unfold alClock
  cases hf : alFind k l with
  | none =>
    rw [alPut_none k v c l hf]
    exact h.2.snoc k v
  | some u =>
    have hb := alPut_born k v c l (by rw [hf]; rfl)
    refine ⟨fun x hx => ?_, by rw [hb]; exact h.2.nodup⟩
    have : x.2.2 ∈ (alPut k v c l).map (·.2.2) := List.mem_map.2 ⟨x, hx, rfl⟩
    rw [hb] at this
    obtain ⟨y, hy, e⟩ := List.mem_map.1 this
    rw [← e]
    exact h.2.low y hy
theorem alDel_sub (k : κ) : ∀ l : AL κ, (alDel k l).Sublist l
  | [] => List.Sublist.refl _
  | x :: l => by
    simp only [alDel]
    split
    · exact List.sublist_cons_self _ _
    · exact (alDel_sub k l).cons_cons _
theorem MapI.del (h : MapI l c) (k : κ) : MapI (alDel k l) c :=
  ⟨List.Nodup.sublist ((alDel_sub k l).map _) h.1, fun x hx => h.2.low x ((alDel_sub k l).subset hx), List.Nodup.sublist ((alDel_sub k l).map _) h.2.nodup⟩
theorem alFind_del (k k' : κ) : ∀ l : AL κ, (l.map (·.1)).Nodup → alFind k' (alDel k l) = if k' = k then none else alFind k' l
  | [], _ => by simp [alDel, alFind]
  | x :: l, h => by
    simp only [List.map_cons, List.nodup_cons] at h
    simp only [alDel]
    split
    · rename_i hk
      subst hk
      split
      · rename_i e
        subst e
        exact alFind_none_of _ l fun y hy e => h.1 (List.mem_map.2 ⟨y, hy, e⟩)
      · rename_i e; simp [alFind, e]
    · rename_i hk
      simp only [alFind]
      rw [alFind_del k k' l h.2]
      by_cases e : k' = x.1
      · rw [if_pos e, if_pos e, if_neg (fun e2 => hk (by rw [← e2, e]))]
      · rw [if_neg e, if_neg e]

/-- What a key's value stands for never turns. -/
def Pers {α : Type} (V : Value → α → HP) : Prop := ∀ v x R h h', (V v x).p R h → (V v x).p R h'
def Vals {α : Type} (V : Value → α → HP) (l : AL κ) (f : κ → Option α) : HP :=
  ⟨fun R h => ∀ k, match alFind k l, f k with
    | none, none => True
    | some v, some x => (V v x).p R h
    | _, _ => False,
   fun lR lh H k => by
    have := H k
    revert this
    cases alFind k l <;> cases f k <;> simp only [imp_self]
    exact fun p => (V _ _).mono lR lh p⟩
variable {α : Type} {V : Value → α → HP} {f : κ → Option α}
def fput (f : κ → Option α) (k : κ) (x : Option α) : κ → Option α := fun k' => if k' = k then x else f k'
theorem Vals.any (hV : Pers V) {R h h' : PH} (H : (Vals V l f).p R h) : (Vals V l f).p R h' := fun k => by
  have := H k
  revert this
  cases alFind k l <;> cases f k <;> simp only [imp_self]
  exact fun p => hV _ _ _ _ _ p
theorem Vals.nil {R h : PH} : (Vals V ([] : AL κ) (fun _ => none)).p R h := fun _ => trivial
theorem Vals.put {R h : PH} (H : (Vals V l f).p R h) (k : κ) (v : Value) (c : Nat) (x : α) (hv : (V v x).p R h) : (Vals V (alPut k v c l) (fput f k (some x))).p R h := fun k' => by
  rw [alFind_put, fput]
  by_cases e : k' = k
  · rw [if_pos e, if_pos e]; exact hv
  · rw [if_neg e, if_neg e]; exact H k'
theorem Vals.del {R h : PH} (H : (Vals V l f).p R h) (hn : (l.map (·.1)).Nodup) (k : κ) : (Vals V (alDel k l) (fput f k none)).p R h := fun k' => by
  rw [alFind_del _ _ _ hn, fput]
  by_cases e : k' = k
  · rw [if_pos e, if_pos e]; trivial
  · rw [if_neg e, if_neg e]; exact H k'
/-- A map. -/
def MapH (V : Value → α → HP) (enc : κ → Value) (r : Nat) (f : κ → Option α) (l : AL κ) (c : Nat) : HP := HP.and (MapI l c) (HP.sep (HP.one r (mapObj enc l c)) (Vals V l f))
def MapE (V : Value → α → HP) (enc : κ → Value) (r : Nat) (f : κ → Option α) : HP := HP.ex fun l => HP.ex fun c => MapH V enc r f l c
theorem MapE.new (V : Value → α → HP) (enc : κ → Value) (r : Nat) {R h : PH} (H : (HP.one r (.map #[] 0)).p R h) : (MapE V enc r (fun _ => none)).p R h :=
  ⟨[], 0, MapI.nil 0, HP.sep_mono (HP.sep_tt H) (fun _ h => h) fun _ _ => Vals.nil⟩
theorem MapH.at {R h : PH} (H : (MapH V enc r f l c).p R h) : h r = some (mapObj enc l c) := HP.sep_left H.2
theorem MapH.yes {R h : PH} (H : (MapH V enc r f l c).p R h) (hV : Pers V) {k : κ} {x : α} (e : f k = some x) (h' : PH) : ∃ v, alFind k l = some v ∧ (V v x).p R h' := by
  have := HP.sep_right H.2 k
  rw [e] at this
  revert this
  cases alFind k l with
  | none => exact fun h => h.elim
  | some v => exact fun h => ⟨v, rfl, hV _ _ _ _ _ h⟩
theorem MapH.no {R h : PH} (H : (MapH V enc r f l c).p R h) {k : κ} (e : f k = none) : alFind k l = none := by
  have := HP.sep_right H.2 k
  rw [e] at this
  revert this
  cases alFind k l with
  | none => exact fun _ => rfl
  | some v => exact fun h => h.elim
theorem MapH.put {kt et t : TypeId} (K : KeyEnc Try.prog kt enc) (ht : Try.prog.underlying t = some (.map kt et)) (hV : Pers V) (k : κ) (v : Value) (x : α) {A : HP} (hv : ∀ R h, A.p R h → (V v x).p R h) :
    OTri Try.prog (updS t (.map (some r)) (enc k) v) (HP.sep (MapH V enc r f l c) A) (fun z => HP.and (z = .tuple #[]) (HP.sep (MapE V enc r (fput f k (some x))) A)) := by
  refine OTri.fact (φ := MapI l c) (fun R h H => (HP.sep_left H).1) fun hI => ?_
  refine ((upd_ok (r := r) (l := l) (c := c) K ht k v).frame (HP.sep (Vals V l f) A)).weak (fun R h ⟨h1, h2, d, l1, l2, ⟨_, H⟩, hA⟩ => HP.sep_assoc ⟨h1, h2, d, l1, l2, H, hA⟩) ?_
  rintro z R h ⟨h1, h2, d, l1, l2, ⟨rfl, hone⟩, hrest⟩
  have hx := hv _ _ (HP.sep_right hrest)
  refine ⟨rfl, HP.sep_mono (HP.sep_assoc' ⟨h1, h2, d, l1, l2, hone, hrest⟩) (fun y hy => ⟨_, _, hI.put k v, HP.sep_mono hy (fun _ h => h) fun q hq => Vals.put hq k v c x (hV _ _ _ _ _ hx)⟩) fun _ h => h⟩
theorem MapH.del {kt et t : TypeId} (K : KeyEnc Try.prog kt enc) (ht : Try.prog.underlying t = some (.map kt et)) (k : κ) (ts : Array TypeId) (ty : TypeId) (h0 : ts[0]? = some t) :
    OTri Try.prog (delS ts ty (.map (some r)) (enc k)) (MapH V enc r f l c) (fun z => HP.and (z = .tuple #[]) (MapH V enc r (fput f k none) (alDel k l) c)) := by
  refine OTri.fact (φ := MapI l c) (fun R h H => H.1) fun hI => ?_
  refine ((del_ok (r := r) (l := l) (c := c) (ty := ty) K ht k ts h0).frame (Vals V l f)).weak (fun R h ⟨_, H⟩ => H) ?_
  rintro z R h ⟨h1, h2, d, l1, l2, ⟨rfl, hone⟩, hrest⟩
  exact ⟨rfl, hI.del k, h1, h2, d, l1, l2, hone, Vals.del hrest hI.1 k⟩
end
end Go.Proofs.Ytmibmjehjagmbaa

/- Trees of functions, printed by rx.lean. No condition. -/
namespace Go.Proofs.Ytmibmjehjagmbaa.RX
set_option maxRecDepth 100000
-- tideline/unit.number: ρ := [.i n]
def t_number : T :=
(.br (.o2 .le (.i 0) (.v 0))
 (.ret (.w (.a (.bool (.o2 .le (.v 0) (.i 2147483647))))) [])
 (.ret (.w (.a (.bool (.c false)))) []))
theorem tree_number : tree Try.prog { absT := [175, 183], opq := [], hv := [], keep := [103, 104, 73, 74, 95, 70, 71, 20, 38, 40, 106], link := [], ent := [], turn := [(105, [0])], shr := [], vt := [], mkd := [], rlink := [], pty := [], outl := false, stay := [], snk := [] } Try.f104 [(.a (.int .i64 (.v 0)))] [] 1 = t_number := by kernel_rfl
-- tideline/unit.proposal: ρ := [.i n, .i b_Round, .i b_Who]
def t_proposal : T :=
(.new
(.br (.o2 .le (.i 1) (.v 0))
 (.br (.o2 .le (.v 0) (.i 2147483647))
  (.call 104 [(.a (.int .i64 (.v 1)))] [] [.c] (.w (.a (.bool (.v 4)))) []
  (.br (.v 4)
   (.call 104 [(.a (.int .i64 (.v 2)))] [] [.c] (.w (.a (.bool (.v 5)))) []
   (.ret (.w (.a (.bool (.v 5)))) []))
   (.ret (.w (.a (.bool (.c false)))) [])))
  (.ret (.w (.a (.bool (.c false)))) []))
 (.ret (.w (.a (.bool (.c false)))) [])))
theorem tree_proposal : tree Try.prog { absT := [175, 183], opq := [], hv := [], keep := [103, 104, 73, 74, 95, 70, 71, 20, 38, 40, 106], link := [], ent := [], turn := [(105, [0])], shr := [], vt := [], mkd := [], rlink := [], pty := [], outl := false, stay := [], snk := [] } Try.f73 [(.a (.int .i64 (.v 0))), (.agg [(.int .i64 (.v 1)), (.int .i64 (.v 2))])] [] 3 = t_proposal := by kernel_rfl
-- tideline/unit.less: ρ := [.i b_Round, .i b_Who, .i other_Round, .i other_Who]
def t_less : T :=
(.new
(.new
(.br (.o2 .lt (.v 0) (.v 2))
 (.ret (.w (.a (.bool (.c true)))) [])
 (.br (.o2 .eq (.v 0) (.v 2))
  (.ret (.w (.a (.bool (.o2 .lt (.v 1) (.v 3))))) [])
  (.ret (.w (.a (.bool (.c false)))) [])))))
theorem tree_less : tree Try.prog { absT := [175, 183], opq := [], hv := [], keep := [103, 104, 73, 74, 95, 70, 71, 20, 38, 40, 106], link := [], ent := [], turn := [(105, [0])], shr := [], vt := [], mkd := [], rlink := [], pty := [], outl := false, stay := [], snk := [] } Try.f74 [(.agg [(.int .i64 (.v 0)), (.int .i64 (.v 1))]), (.agg [(.int .i64 (.v 2)), (.int .i64 (.v 3))])] [] 4 = t_less := by kernel_rfl
-- tideline/unit.address: ρ := [.i at]
def t_address : T :=
(.br (.o2 .le (.i 0) (.v 0))
 (.ret (.w (.a (.bool (.o2 .le (.v 0) (.i 4294967296))))) [])
 (.ret (.w (.a (.bool (.c false)))) []))
theorem tree_address : tree Try.prog { absT := [175, 183], opq := [], hv := [], keep := [103, 104, 73, 74, 95, 70, 71, 20, 38, 40, 106], link := [], ent := [], turn := [(105, [0])], shr := [], vt := [], mkd := [], rlink := [], pty := [], outl := false, stay := [], snk := [] } Try.f103 [(.a (.int .i64 (.v 0)))] [] 1 = t_address := by kernel_rfl
-- tideline/unit.standing: ρ := [.i x_What, .a x_Dataa, .n x_Datal, .n x_Datac, .p x_DataP]
def t_standing : T :=
(.new
(.br (.o2 .eq (.v 0) (.i 1))
 (.ret (.w (.a (.bool (.o2 .le (.o1 .ofNat (.v 2)) (.i 65536))))) [((.a 1), (.prop 4))])
 (.br (.o2 .eq (.v 0) (.i 2))
  (.ret (.w (.a (.bool (.o2 .eq (.o1 .ofNat (.v 2)) (.i 0))))) [((.a 1), (.prop 4))])
  (.ret (.w (.a (.bool (.c false)))) [((.a 1), (.prop 4))]))))
theorem tree_standing : tree Try.prog { absT := [175, 183], opq := [], hv := [], keep := [103, 104, 73, 74, 95, 70, 71, 20, 38, 40, 106], link := [], ent := [], turn := [(105, [0])], shr := [], vt := [], mkd := [], rlink := [], pty := [], outl := false, stay := [], snk := [] } Try.f95 [(.agg [(.int .i64 (.v 0)), (.sl (.v 1) (.v 2) (.v 3))])] [((.a 1), (.prop 4))] 5 = t_standing := by kernel_rfl
-- tideline/unit.page: ρ := [.i kind, .a numbersa, .n numbersl, .n numbersc, .p numbersP]
def t_page : T :=
(.new
(.call 114 [(.a (.ptr (.v 5) 0)), (.a (.int .u8 (.v 0)))] [((.b (.v 5)), (.cells [(.sl .nil (.n 0) (.n 0))] 175))] [.p] (.tup []) [((.b (.v 5)), (.prop 6))]
(.loop [.i, .p] [(.e (.o1 .neg (.o1 .neg (.i 0)))), (.p [((.b (.v 5)), (.prop 6))])]
 (.br (.o2 .lt (.v 7) (.o1 .ofNat (.v 2)))
  (.need (.o2 .le (.i 0) (.v 7))
  (.need (.o1 .isSome (.v 1))
  (.read (.load 3 (.tmp 17)) 3 [(17, (.w (.a (.eptr 1 (.v 7) 1 0))))] [((.a 1), (.prop 4))] [.i] (.w (.a (.int .i64 (.v 9))))
  (.call 115 [(.a (.ptr (.v 5) 0)), (.a (.int .u64 (.o1 (.wrap .u64) (.v 9)))), (.a (.int .i64 (.i 8)))] [((.b (.v 5)), (.prop 8))] [.p] (.tup []) [((.b (.v 5)), (.prop 10))]
  (.need (.o1 (.inr .i64) (.o2 .add (.v 7) (.i 1)))
  (.again 0 [(.e (.o1 .neg (.o1 .neg (.o2 .add (.v 7) (.i 1))))), (.p [((.b (.v 5)), (.prop 10))])]))))))
  (.ret (.w (.a (.ptr (.v 5) 0))) [((.a 1), (.prop 4)), ((.b (.v 5)), (.prop 8))])))))
theorem tree_page : tree Try.prog { absT := [175, 183], opq := [], hv := [(0, [(.b (.v 5))])], keep := [103, 104, 73, 74, 95, 70, 71, 20, 38, 40, 106], link := [], ent := [], turn := [(105, [0])], shr := [], vt := [], mkd := [], rlink := [], pty := [], outl := false, stay := [], snk := [] } Try.f76 [(.a (.int .u8 (.v 0))), (.a (.sl (.v 1) (.v 2) (.v 3)))] [((.a 1), (.prop 4))] 5 = t_page := by kernel_rfl
-- tideline/unit.cellPage: ρ := [.i at, .i x_What, .a x_Dataa, .n x_Datal, .n x_Datac, .p x_DataP]
def t_cellPage : T :=
(.new
(.br (.o2 .eq (.v 1) (.i 2))
 (.new
 (.call 76 [(.a (.int .u8 (.i 2))), (.a (.sl (.b (.v 7) 0) (.n 1) (.n 1)))] [((.b (.v 7)), (.cells [(.int .i64 (.v 0))] 3))] [.n, .p, .i] (.w (.a (.ptr (.v 8) 0))) [((.b (.v 8)), (.prop 9)), ((.b (.v 7)), (.cells [(.int .i64 (.v 10))] 3))]
 (.call 77 [(.a (.ptr (.v 8) 0))] [((.b (.v 8)), (.prop 9))] [.a, .n, .n, .p, .p] (.w (.a (.sl (.v 11) (.v 12) (.v 13)))) [((.a 11), (.prop 14)), ((.b (.v 8)), (.prop 15))]
 (.ret (.w (.a (.sl (.v 11) (.v 12) (.v 13)))) [((.a 2), (.prop 5)), ((.a 11), (.prop 14))]))))
 (.new
 (.call 76 [(.a (.int .u8 (.i 1))), (.a (.sl (.b (.v 7) 0) (.n 1) (.n 1)))] [((.b (.v 7)), (.cells [(.int .i64 (.v 0))] 3))] [.n, .p, .i] (.w (.a (.ptr (.v 8) 0))) [((.b (.v 8)), (.prop 9)), ((.b (.v 7)), (.cells [(.int .i64 (.v 10))] 3))]
 (.call 82 [(.a (.ptr (.v 8) 0)), (.a (.sl (.v 2) (.v 3) (.v 4)))] [((.b (.v 8)), (.prop 9)), ((.a 2), (.prop 5))] [.p, .p] (.tup []) [((.b (.v 8)), (.prop 11)), ((.a 2), (.prop 12))]
 (.call 77 [(.a (.ptr (.v 8) 0))] [((.b (.v 8)), (.prop 11))] [.a, .n, .n, .p, .p] (.w (.a (.sl (.v 13) (.v 14) (.v 15)))) [((.a 13), (.prop 16)), ((.b (.v 8)), (.prop 17))]
 (.ret (.w (.a (.sl (.v 13) (.v 14) (.v 15)))) [((.a 2), (.prop 12)), ((.a 13), (.prop 16))])))))))
theorem tree_cellPage : tree Try.prog { absT := [175, 183], opq := [], hv := [], keep := [103, 104, 73, 74, 95, 70, 71, 20, 38, 40, 106], link := [], ent := [], turn := [(105, [0])], shr := [], vt := [], mkd := [], rlink := [], pty := [], outl := false, stay := [], snk := [] } Try.f96 [(.a (.int .i64 (.v 0))), (.agg [(.int .i64 (.v 1)), (.sl (.v 2) (.v 3) (.v 4))])] [((.a 2), (.prop 5))] 6 = t_cellPage := by kernel_rfl
-- (*tideline/unit.Unit).Epoch: ρ := [.n u, .n u_d, .p u_dP, .i u_epoch, .i u_low, .i u_top, .n u_cells, .p u_cellsP, .n u_instances, .p u_instancesP]
def t_uEpoch : T :=
(.ret (.w (.a (.int .i64 (.v 3)))) [((.b (.v 0)), (.cells [(.ptr (.v 1) 0), (.int .i64 (.v 3)), (.int .i64 (.v 4)), (.int .i64 (.v 5)), (.map (.v 6)), (.map (.v 8))] 113)), ((.b (.v 1)), (.prop 2)), ((.b (.v 6)), (.prop 7)), ((.b (.v 8)), (.prop 9))])
theorem tree_uEpoch : tree Try.prog { absT := [175, 183], opq := [], hv := [], keep := [103, 104, 73, 74, 95, 70, 71, 20, 38, 40, 106], link := [], ent := [], turn := [(105, [0])], shr := [], vt := [], mkd := [], rlink := [], pty := [], outl := false, stay := [], snk := [] } Try.f20 [(.a (.ptr (.v 0) 0))] [((.b (.v 0)), (.cells [(.ptr (.v 1) 0), (.int .i64 (.v 3)), (.int .i64 (.v 4)), (.int .i64 (.v 5)), (.map (.v 6)), (.map (.v 8))] 113)), ((.b (.v 1)), (.prop 2)), ((.b (.v 6)), (.prop 7)), ((.b (.v 8)), (.prop 9))] 10 = t_uEpoch := by kernel_rfl
-- (*tideline/unit.Unit).Low: ρ := [.n u, .n u_d, .p u_dP, .i u_epoch, .i u_low, .i u_top, .n u_cells, .p u_cellsP, .n u_instances, .p u_instancesP]
def t_uLow : T :=
(.ret (.w (.a (.int .i64 (.v 4)))) [((.b (.v 0)), (.cells [(.ptr (.v 1) 0), (.int .i64 (.v 3)), (.int .i64 (.v 4)), (.int .i64 (.v 5)), (.map (.v 6)), (.map (.v 8))] 113)), ((.b (.v 1)), (.prop 2)), ((.b (.v 6)), (.prop 7)), ((.b (.v 8)), (.prop 9))])
theorem tree_uLow : tree Try.prog { absT := [175, 183], opq := [], hv := [], keep := [103, 104, 73, 74, 95, 70, 71, 20, 38, 40, 106], link := [], ent := [], turn := [(105, [0])], shr := [], vt := [], mkd := [], rlink := [], pty := [], outl := false, stay := [], snk := [] } Try.f38 [(.a (.ptr (.v 0) 0))] [((.b (.v 0)), (.cells [(.ptr (.v 1) 0), (.int .i64 (.v 3)), (.int .i64 (.v 4)), (.int .i64 (.v 5)), (.map (.v 6)), (.map (.v 8))] 113)), ((.b (.v 1)), (.prop 2)), ((.b (.v 6)), (.prop 7)), ((.b (.v 8)), (.prop 9))] 10 = t_uLow := by kernel_rfl
-- (*tideline/unit.Unit).Tail: ρ := [.n u, .n u_d, .p u_dP, .i u_epoch, .i u_low, .i u_top, .n u_cells, .p u_cellsP, .n u_instances, .p u_instancesP]
def t_uTail : T :=
(.ret (.w (.a (.int .i64 (.o2 .mx (.v 5) (.v 4))))) [((.b (.v 0)), (.cells [(.ptr (.v 1) 0), (.int .i64 (.v 3)), (.int .i64 (.v 4)), (.int .i64 (.v 5)), (.map (.v 6)), (.map (.v 8))] 113)), ((.b (.v 1)), (.prop 2)), ((.b (.v 6)), (.prop 7)), ((.b (.v 8)), (.prop 9))])
theorem tree_uTail : tree Try.prog { absT := [175, 183], opq := [], hv := [], keep := [103, 104, 73, 74, 95, 70, 71, 20, 38, 40, 106], link := [], ent := [], turn := [(105, [0])], shr := [], vt := [], mkd := [], rlink := [], pty := [], outl := false, stay := [], snk := [] } Try.f40 [(.a (.ptr (.v 0) 0))] [((.b (.v 0)), (.cells [(.ptr (.v 1) 0), (.int .i64 (.v 3)), (.int .i64 (.v 4)), (.int .i64 (.v 5)), (.map (.v 6)), (.map (.v 8))] 113)), ((.b (.v 1)), (.prop 2)), ((.b (.v 6)), (.prop 7)), ((.b (.v 8)), (.prop 9))] 10 = t_uTail := by kernel_rfl
-- (*tideline/unit.Unit).reach: ρ := [.n u, .n u_d, .p u_dP, .i u_epoch, .i u_low, .i u_top, .n u_cells, .p u_cellsP, .n u_instances, .p u_instancesP, .i epoch, .i at]
def t_uReach : T :=
(.br (.o1 .not (.o2 .eq (.v 10) (.v 3)))
 (.ret (.w (.a (.int .i64 (.i 8)))) [((.b (.v 0)), (.cells [(.ptr (.v 1) 0), (.int .i64 (.v 3)), (.int .i64 (.v 4)), (.int .i64 (.v 5)), (.map (.v 6)), (.map (.v 8))] 113)), ((.b (.v 1)), (.prop 2)), ((.b (.v 6)), (.prop 7)), ((.b (.v 8)), (.prop 9))])
 (.call 103 [(.a (.int .i64 (.v 11)))] [] [.c] (.w (.a (.bool (.v 12)))) []
 (.br (.o1 .not (.v 12))
  (.ret (.w (.a (.int .i64 (.i 2)))) [((.b (.v 0)), (.cells [(.ptr (.v 1) 0), (.int .i64 (.v 3)), (.int .i64 (.v 4)), (.int .i64 (.v 5)), (.map (.v 6)), (.map (.v 8))] 113)), ((.b (.v 1)), (.prop 2)), ((.b (.v 6)), (.prop 7)), ((.b (.v 8)), (.prop 9))])
  (.ret (.w (.a (.int .i64 (.i 0)))) [((.b (.v 0)), (.cells [(.ptr (.v 1) 0), (.int .i64 (.v 3)), (.int .i64 (.v 4)), (.int .i64 (.v 5)), (.map (.v 6)), (.map (.v 8))] 113)), ((.b (.v 1)), (.prop 2)), ((.b (.v 6)), (.prop 7)), ((.b (.v 8)), (.prop 9))]))))
theorem tree_uReach : tree Try.prog { absT := [175, 183], opq := [], hv := [], keep := [103, 104, 73, 74, 95, 70, 71, 20, 38, 40, 106], link := [], ent := [], turn := [(105, [0])], shr := [], vt := [], mkd := [], rlink := [], pty := [], outl := false, stay := [], snk := [] } Try.f70 [(.a (.ptr (.v 0) 0)), (.a (.int .i64 (.v 10))), (.a (.int .i64 (.v 11)))] [((.b (.v 0)), (.cells [(.ptr (.v 1) 0), (.int .i64 (.v 3)), (.int .i64 (.v 4)), (.int .i64 (.v 5)), (.map (.v 6)), (.map (.v 8))] 113)), ((.b (.v 1)), (.prop 2)), ((.b (.v 6)), (.prop 7)), ((.b (.v 8)), (.prop 9))] 12 = t_uReach := by kernel_rfl
-- (*tideline/unit.Unit).last: ρ := [.n u, .n u_d, .p u_dP, .i u_epoch, .i u_low, .i u_top, .n u_cells, .p u_cellsP, .n u_instances, .p u_instancesP, .a ba, .n bl, .n bc, .p bP]
def t_uLast : T :=
(.call 35 [(.a (.ptr (.v 1) 0)), (.a (.sl (.v 10) (.v 11) (.v 12)))] [((.b (.v 1)), (.prop 2)), ((.a 10), (.prop 13))] [.i, .p, .p] (.w (.a (.int .i64 (.v 14)))) [((.b (.v 1)), (.prop 15)), ((.a 10), (.prop 16))]
(.br (.o1 .not (.o2 .eq (.v 14) (.i 0)))
 (.ret (.w (.a (.int .i64 (.v 14)))) [((.b (.v 0)), (.cells [(.ptr (.v 1) 0), (.int .i64 (.v 3)), (.int .i64 (.v 4)), (.int .i64 (.v 5)), (.map (.v 6)), (.map (.v 8))] 113)), ((.b (.v 1)), (.prop 15)), ((.b (.v 6)), (.prop 7)), ((.b (.v 8)), (.prop 9)), ((.a 10), (.prop 16))])
 (.call 58 [(.a (.ptr (.v 1) 0))] [((.b (.v 1)), (.prop 15))] [.p] (.tup []) [((.b (.v 1)), (.prop 17))]
 (.ret (.w (.a (.int .i64 (.i 0)))) [((.b (.v 0)), (.cells [(.ptr (.v 1) 0), (.int .i64 (.v 3)), (.int .i64 (.v 4)), (.int .i64 (.v 5)), (.map (.v 6)), (.map (.v 8))] 113)), ((.b (.v 1)), (.prop 17)), ((.b (.v 6)), (.prop 7)), ((.b (.v 8)), (.prop 9)), ((.a 10), (.prop 16))]))))
theorem tree_uLast : tree Try.prog { absT := [175, 183], opq := [], hv := [], keep := [103, 104, 73, 74, 95, 70, 71, 20, 38, 40, 106], link := [], ent := [], turn := [(105, [0])], shr := [], vt := [], mkd := [], rlink := [], pty := [], outl := false, stay := [], snk := [] } Try.f75 [(.a (.ptr (.v 0) 0)), (.a (.sl (.v 10) (.v 11) (.v 12)))] [((.b (.v 0)), (.cells [(.ptr (.v 1) 0), (.int .i64 (.v 3)), (.int .i64 (.v 4)), (.int .i64 (.v 5)), (.map (.v 6)), (.map (.v 8))] 113)), ((.b (.v 1)), (.prop 2)), ((.b (.v 6)), (.prop 7)), ((.b (.v 8)), (.prop 9)), ((.a 10), (.prop 13))] 14 = t_uLast := by kernel_rfl
-- (*tideline/unit.Unit).put: ρ := [.n u, .n u_d, .p u_dP, .i u_epoch, .i u_low, .i u_top, .n u_cells, .p u_cellsP, .n u_instances, .p u_instancesP, .i at, .i x_What, .a x_Dataa, .n x_Datal, .n x_Datac, .p x_DataP]
def t_uPut : T :=
(.new
(.call 72 [(.a (.sl (.v 12) (.v 13) (.v 14)))] [((.a 12), (.prop 15))] [.a, .n, .n, .p, .p] (.w (.a (.sl (.v 17) (.v 18) (.v 19)))) [((.a 17), (.prop 20)), ((.a 12), (.prop 21))]
(.op (.mapUpdate 88 (.tmp 9) (.tmp 10) (.tmp 16)) 0 [(9, (.w (.a (.map (.v 6))))), (10, (.w (.a (.int .i64 (.v 10))))), (16, (.w (.agg [(.int .i64 (.v 11)), (.sl (.v 17) (.v 18) (.v 19))])))] [((.b (.v 6)), (.prop 7)), ((.a 17), (.prop 20))] [.p] (.tup []) [((.b (.v 6)), (.prop 22)), ((.a 17), (.prop 20))]
(.need (.o1 (.inr .i64) (.o2 .add (.v 10) (.i 1)))
(.ret (.tup []) [((.b (.v 0)), (.cells [(.ptr (.v 1) 0), (.int .i64 (.v 3)), (.int .i64 (.v 4)), (.int .i64 (.o2 .mx (.v 5) (.o2 .add (.v 10) (.i 1)))), (.map (.v 6)), (.map (.v 8))] 113)), ((.b (.v 1)), (.prop 2)), ((.b (.v 6)), (.prop 22)), ((.b (.v 8)), (.prop 9)), ((.a 12), (.prop 21))])))))
theorem tree_uPut : tree Try.prog { absT := [175, 183], opq := [], hv := [], keep := [103, 104, 73, 74, 95, 70, 71, 20, 38, 40, 106], link := [], ent := [], turn := [(105, [0])], shr := [], vt := [], mkd := [], rlink := [], pty := [], outl := false, stay := [], snk := [] } Try.f97 [(.a (.ptr (.v 0) 0)), (.a (.int .i64 (.v 10))), (.agg [(.int .i64 (.v 11)), (.sl (.v 12) (.v 13) (.v 14))])] [((.b (.v 0)), (.cells [(.ptr (.v 1) 0), (.int .i64 (.v 3)), (.int .i64 (.v 4)), (.int .i64 (.v 5)), (.map (.v 6)), (.map (.v 8))] 113)), ((.b (.v 1)), (.prop 2)), ((.b (.v 6)), (.prop 7)), ((.b (.v 8)), (.prop 9)), ((.a 12), (.prop 15))] 16 = t_uPut := by kernel_rfl
-- (*tideline/unit.Unit).cell: ρ := [.n u, .n u_d, .p u_dP, .i u_epoch, .i u_low, .i u_top, .n u_cells, .p u_cellsP, .n u_instances, .p u_instancesP, .i at]
def t_uCell : T :=
(.new
(.read (.lookup 88 (.tmp 12) (.tmp 13) true) 98 [(12, (.w (.a (.map (.v 6))))), (13, (.w (.a (.int .i64 (.v 10)))))] [((.b (.v 6)), (.prop 7))] [.i, .a, .n, .n, .c] (.tup [(.agg [(.int .i64 (.v 12)), (.sl (.v 13) (.v 14) (.v 15))]), (.a (.bool (.v 16)))])
(.new
(.call 72 [(.a (.sl (.v 13) (.v 14) (.v 15)))] [((.b (.v 6)), (.prop 7))] [.a, .n, .n, .p, .p] (.w (.a (.sl (.v 18) (.v 19) (.v 20)))) [((.a 18), (.prop 21)), ((.b (.v 6)), (.prop 22))]
(.ret (.tup [(.agg [(.int .i64 (.v 12)), (.sl (.v 18) (.v 19) (.v 20))]), (.a (.bool (.v 16)))]) [((.b (.v 0)), (.cells [(.ptr (.v 1) 0), (.int .i64 (.v 3)), (.int .i64 (.v 4)), (.int .i64 (.v 5)), (.map (.v 6)), (.map (.v 8))] 113)), ((.b (.v 1)), (.prop 2)), ((.b (.v 6)), (.prop 22)), ((.b (.v 8)), (.prop 9)), ((.a 18), (.prop 21))])))))
theorem tree_uCell : tree Try.prog { absT := [175, 183], opq := [], hv := [], keep := [103, 104, 73, 74, 95, 70, 71, 20, 38, 40, 106], link := [], ent := [], turn := [(105, [0])], shr := [], vt := [], mkd := [], rlink := [], pty := [], outl := false, stay := [], snk := [] } Try.f71 [(.a (.ptr (.v 0) 0)), (.a (.int .i64 (.v 10)))] [((.b (.v 0)), (.cells [(.ptr (.v 1) 0), (.int .i64 (.v 3)), (.int .i64 (.v 4)), (.int .i64 (.v 5)), (.map (.v 6)), (.map (.v 8))] 113)), ((.b (.v 1)), (.prop 2)), ((.b (.v 6)), (.prop 7)), ((.b (.v 8)), (.prop 9))] 11 = t_uCell := by kernel_rfl
-- (*tideline/unit.Unit).promise: ρ := [.n u, .n u_d, .p u_dP, .i u_epoch, .i u_low, .i u_top, .n u_cells, .p u_cellsP, .n u_instances, .p u_instancesP, .i n, .i b_Round, .i b_Who]
def t_uProm : T :=
(.new
(.read (.lookup 111 (.tmp 10) (.tmp 11) false) 133 [(10, (.w (.a (.map (.v 8))))), (11, (.w (.a (.int .i64 (.v 10)))))] [((.b (.v 8)), (.prop 9))] [.i, .i, .i, .i, .a, .n, .n] (.w (.agg [(.int .i64 (.v 14)), (.int .i64 (.v 15)), (.int .i64 (.v 16)), (.int .i64 (.v 17)), (.sl (.v 18) (.v 19) (.v 20))]))
(.new
(.op (.mapUpdate 111 (.tmp 18) (.tmp 19) (.tmp 20)) 0 [(18, (.w (.a (.map (.v 8))))), (19, (.w (.a (.int .i64 (.v 10))))), (20, (.w (.agg [(.int .i64 (.v 11)), (.int .i64 (.v 12)), (.int .i64 (.v 16)), (.int .i64 (.v 17)), (.sl (.v 18) (.v 19) (.v 20))])))] [((.b (.v 8)), (.prop 9))] [.p] (.tup []) [((.b (.v 8)), (.prop 22))]
(.ret (.tup []) [((.b (.v 0)), (.cells [(.ptr (.v 1) 0), (.int .i64 (.v 3)), (.int .i64 (.v 4)), (.int .i64 (.v 5)), (.map (.v 6)), (.map (.v 8))] 113)), ((.b (.v 1)), (.prop 2)), ((.b (.v 6)), (.prop 7)), ((.b (.v 8)), (.prop 22))])))))
theorem tree_uProm : tree Try.prog { absT := [175, 183], opq := [], hv := [], keep := [103, 104, 73, 74, 95, 70, 71, 20, 38, 40, 106], link := [], ent := [], turn := [(105, [0])], shr := [], vt := [], mkd := [], rlink := [], pty := [], outl := false, stay := [], snk := [] } Try.f78 [(.a (.ptr (.v 0) 0)), (.a (.int .i64 (.v 10))), (.agg [(.int .i64 (.v 11)), (.int .i64 (.v 12))])] [((.b (.v 0)), (.cells [(.ptr (.v 1) 0), (.int .i64 (.v 3)), (.int .i64 (.v 4)), (.int .i64 (.v 5)), (.map (.v 6)), (.map (.v 8))] 113)), ((.b (.v 1)), (.prop 2)), ((.b (.v 6)), (.prop 7)), ((.b (.v 8)), (.prop 9))] 13 = t_uProm := by kernel_rfl
-- (*tideline/unit.Unit).accept: ρ := [.n u, .n u_d, .p u_dP, .i u_epoch, .i u_low, .i u_top, .n u_cells, .p u_cellsP, .n u_instances, .p u_instancesP, .i n, .i b_Round, .i b_Who, .a valuea, .n valuel, .n valuec, .p valueP]
def t_uAcc : T :=
(.new
(.call 72 [(.a (.sl (.v 13) (.v 14) (.v 15)))] [((.a 13), (.prop 16))] [.a, .n, .n, .p, .p] (.w (.a (.sl (.v 18) (.v 19) (.v 20)))) [((.a 18), (.prop 21)), ((.a 13), (.prop 22))]
(.op (.mapUpdate 111 (.tmp 11) (.tmp 12) (.tmp 17)) 0 [(11, (.w (.a (.map (.v 8))))), (12, (.w (.a (.int .i64 (.v 10))))), (17, (.w (.agg [(.int .i64 (.v 11)), (.int .i64 (.v 12)), (.int .i64 (.v 11)), (.int .i64 (.v 12)), (.sl (.v 18) (.v 19) (.v 20))])))] [((.b (.v 8)), (.prop 9)), ((.a 18), (.prop 21))] [.p] (.tup []) [((.b (.v 8)), (.prop 23)), ((.a 18), (.prop 21))]
(.ret (.tup []) [((.b (.v 0)), (.cells [(.ptr (.v 1) 0), (.int .i64 (.v 3)), (.int .i64 (.v 4)), (.int .i64 (.v 5)), (.map (.v 6)), (.map (.v 8))] 113)), ((.b (.v 1)), (.prop 2)), ((.b (.v 6)), (.prop 7)), ((.b (.v 8)), (.prop 23)), ((.a 13), (.prop 22))]))))
theorem tree_uAcc : tree Try.prog { absT := [175, 183], opq := [], hv := [], keep := [103, 104, 73, 74, 95, 70, 71, 20, 38, 40, 106], link := [], ent := [], turn := [(105, [0])], shr := [], vt := [], mkd := [], rlink := [], pty := [], outl := false, stay := [], snk := [] } Try.f83 [(.a (.ptr (.v 0) 0)), (.a (.int .i64 (.v 10))), (.agg [(.int .i64 (.v 11)), (.int .i64 (.v 12))]), (.a (.sl (.v 13) (.v 14) (.v 15)))] [((.b (.v 0)), (.cells [(.ptr (.v 1) 0), (.int .i64 (.v 3)), (.int .i64 (.v 4)), (.int .i64 (.v 5)), (.map (.v 6)), (.map (.v 8))] 113)), ((.b (.v 1)), (.prop 2)), ((.b (.v 6)), (.prop 7)), ((.b (.v 8)), (.prop 9)), ((.a 13), (.prop 16))] 17 = t_uAcc := by kernel_rfl
-- (*tideline/unit.Unit).forget$1: ρ := [.i at, .i __What, .a __Dataa, .n __Datal, .n __Datac, .p __DataP, .n u, .n u, .n u_d, .p u_dP, .i u_epoch, .i u_low, .i u_top, .n u_cells, .p u_cellsP, .n u_instances, .p u_instancesP]
def t_uFor1 : T :=
(.new
(.ret (.w (.a (.bool (.o2 .lt (.v 0) (.v 11))))) [((.a 2), (.prop 5)), ((.b (.v 6)), (.cells [(.ptr (.v 7) 0)] 26)), ((.b (.v 7)), (.cells [(.ptr (.v 8) 0), (.int .i64 (.v 10)), (.int .i64 (.v 11)), (.int .i64 (.v 12)), (.map (.v 13)), (.map (.v 15))] 113)), ((.b (.v 8)), (.prop 9)), ((.b (.v 13)), (.prop 14)), ((.b (.v 15)), (.prop 16))]))
theorem tree_uFor1 : tree Try.prog { absT := [175, 183], opq := [], hv := [], keep := [103, 104, 73, 74, 95, 70, 71, 20, 38, 40, 106], link := [], ent := [], turn := [(105, [0])], shr := [], vt := [], mkd := [], rlink := [], pty := [], outl := false, stay := [], snk := [] } Try.f106 [(.a (.int .i64 (.v 0))), (.agg [(.int .i64 (.v 1)), (.sl (.v 2) (.v 3) (.v 4))]), (.a (.ptr (.v 6) 0))] [((.a 2), (.prop 5)), ((.b (.v 6)), (.cells [(.ptr (.v 7) 0)] 26)), ((.b (.v 7)), (.cells [(.ptr (.v 8) 0), (.int .i64 (.v 10)), (.int .i64 (.v 11)), (.int .i64 (.v 12)), (.map (.v 13)), (.map (.v 15))] 113)), ((.b (.v 8)), (.prop 9)), ((.b (.v 13)), (.prop 14)), ((.b (.v 15)), (.prop 16))] 17 = t_uFor1 := by kernel_rfl
-- maps.DeleteFunc[map[int]tideline/api.Cell,int,tideline/api.Cell]
def t_delF : T :=
(.op (.range 88 (.tmp 6)) 0 [(6, (.w (.a (.map (.v 0)))))] [((.b (.v 0)), (.prop 1))] [.n, .p, .p] (.w (.a (.ptr (.v 11) 0))) [((.b (.v 11)), (.prop 12)), ((.b (.v 0)), (.prop 13))]
(.loop [.p, .p] [(.p [((.b (.v 11)), (.prop 12))]), (.p [((.b (.v 0)), (.prop 13))])]
 (.op (.next (.tmp 7) false) 0 [(7, (.w (.a (.ptr (.v 11) 0))))] [((.b (.v 11)), (.prop 14)), ((.b (.v 0)), (.prop 15))] [.c, .v, .v, .p] (.nx 16 17 18) [((.b (.v 11)), (.prop 19)), ((.b (.v 0)), (.prop 15))]
 (.br (.v 16)
  (.read (.entry (.tmp 7)) 0 [(7, (.w (.a (.ptr (.v 11) 0))))] [((.b (.v 11)), (.prop 19)), ((.b (.v 0)), (.prop 15))] [.i, .i, .a, .n, .n] (.tup [(.a (.int .i64 (.v 20))), (.agg [(.int .i64 (.v 21)), (.sl (.v 22) (.v 23) (.v 24))])])
  (.new
  (.call 106 [(.a (.int .i64 (.v 20))), (.agg [(.int .i64 (.v 21)), (.sl (.v 22) (.v 23) (.v 24))]), (.a (.ptr (.v 2) 0))] [((.b (.v 0)), (.prop 15)), ((.b (.v 2)), (.cells [(.ptr (.v 3) 0)] 26)), ((.b (.v 3)), (.cells [(.ptr (.v 4) 0), (.int .i64 (.v 6)), (.int .i64 (.v 7)), (.int .i64 (.v 8)), (.map (.v 0)), (.map (.v 9))] 113)), ((.b (.v 4)), (.prop 5)), ((.b (.v 9)), (.prop 10))] [.c] (.w (.a (.bool (.v 26)))) [((.b (.v 0)), (.prop 15)), ((.b (.v 2)), (.cells [(.ptr (.v 3) 0)] 26)), ((.b (.v 3)), (.cells [(.ptr (.v 4) 0), (.int .i64 (.v 6)), (.int .i64 (.v 7)), (.int .i64 (.v 8)), (.map (.v 0)), (.map (.v 9))] 113)), ((.b (.v 4)), (.prop 5)), ((.b (.v 9)), (.prop 10))]
  (.br (.v 26)
   (.op (.call ⟨.builtin .delete, #[(.tmp 17), (.tmp 18)], #[88, 3]⟩) 0 [(17, (.w (.a (.map (.v 0))))), (18, (.w (.a (.int .i64 (.v 20)))))] [((.b (.v 0)), (.prop 15))] [.p] (.tup []) [((.b (.v 0)), (.prop 27))]
   (.again 0 [(.p [((.b (.v 11)), (.prop 19))]), (.p [((.b (.v 0)), (.prop 27))])]))
   (.again 0 [(.p [((.b (.v 11)), (.prop 19))]), (.p [((.b (.v 0)), (.prop 15))])])))))
  (.ret (.tup []) [((.b (.v 0)), (.prop 15)), ((.b (.v 2)), (.cells [(.ptr (.v 3) 0)] 26)), ((.b (.v 3)), (.cells [(.ptr (.v 4) 0), (.int .i64 (.v 6)), (.int .i64 (.v 7)), (.int .i64 (.v 8)), (.map (.v 0)), (.map (.v 9))] 113)), ((.b (.v 4)), (.prop 5)), ((.b (.v 9)), (.prop 10))])))))
theorem tree_delF : tree Try.prog { absT := [175, 183], opq := [], hv := [(0, [(.b (.v 11)), (.b (.v 0))])], keep := [103, 104, 73, 74, 95, 70, 71, 20, 38, 40, 106], link := [], ent := [(10, [3, 32])], turn := [(105, [0])], shr := [], vt := [], mkd := [], rlink := [], pty := [], outl := false, stay := [], snk := [] } Try.f105 [(.a (.map (.v 0))), (.a (.func 106 [((.v 2), 0)]))] [((.b (.v 0)), (.prop 1)), ((.b (.v 2)), (.cells [(.ptr (.v 3) 0)] 26)), ((.b (.v 3)), (.cells [(.ptr (.v 4) 0), (.int .i64 (.v 6)), (.int .i64 (.v 7)), (.int .i64 (.v 8)), (.map (.v 0)), (.map (.v 9))] 113)), ((.b (.v 4)), (.prop 5)), ((.b (.v 9)), (.prop 10))] 11 = t_delF := by kernel_rfl
-- (*tideline/unit.Unit).forget: ρ := [.n u, .n u_d, .p u_dP, .i u_epoch, .i u_low, .i u_top, .n u_cells, .p u_cellsP, .n u_instances, .p u_instancesP]
def t_uForget : T :=
(.new
(.call 105 [(.a (.map (.v 6))), (.a (.func 106 [((.v 10), 0)]))] [((.b (.v 6)), (.prop 7)), ((.b (.v 10)), (.cells [(.ptr (.v 0) 0)] 26)), ((.b (.v 0)), (.cells [(.ptr (.v 1) 0), (.int .i64 (.v 3)), (.int .i64 (.v 4)), (.int .i64 (.v 5)), (.map (.v 6)), (.map (.v 8))] 113)), ((.b (.v 1)), (.prop 2)), ((.b (.v 8)), (.prop 9))] [.p] (.tup []) [((.b (.v 6)), (.prop 11)), ((.b (.v 10)), (.cells [(.ptr (.v 0) 0)] 26)), ((.b (.v 0)), (.cells [(.ptr (.v 1) 0), (.int .i64 (.v 3)), (.int .i64 (.v 4)), (.int .i64 (.v 5)), (.map (.v 6)), (.map (.v 8))] 113)), ((.b (.v 1)), (.prop 2)), ((.b (.v 8)), (.prop 9))]
(.ret (.tup []) [((.b (.v 0)), (.cells [(.ptr (.v 1) 0), (.int .i64 (.v 3)), (.int .i64 (.v 4)), (.int .i64 (.v 5)), (.map (.v 6)), (.map (.v 8))] 113)), ((.b (.v 1)), (.prop 2)), ((.b (.v 6)), (.prop 11)), ((.b (.v 8)), (.prop 9))])))
theorem tree_uForget : tree Try.prog { absT := [175, 183], opq := [], hv := [], keep := [103, 104, 73, 74, 95, 70, 71, 20, 38, 40, 106], link := [], ent := [], turn := [(105, [0])], shr := [], vt := [], mkd := [], rlink := [], pty := [], outl := false, stay := [], snk := [] } Try.f60 [(.a (.ptr (.v 0) 0))] [((.b (.v 0)), (.cells [(.ptr (.v 1) 0), (.int .i64 (.v 3)), (.int .i64 (.v 4)), (.int .i64 (.v 5)), (.map (.v 6)), (.map (.v 8))] 113)), ((.b (.v 1)), (.prop 2)), ((.b (.v 6)), (.prop 7)), ((.b (.v 8)), (.prop 9))] 10 = t_uForget := by kernel_rfl
-- (*tideline/unit.Unit).follow: ρ := [.n u, .n u_d, .p u_dP, .i u_epoch, .i u_low, .i u_top, .n u_cells, .p u_cellsP, .n u_instances, .p u_instancesP, .a ba, .n bl, .n bc, .p bP]
def t_uFollow : T :=
(.call 98 [(.a (.sl (.v 10) (.v 11) (.v 12)))] [((.a 10), (.prop 13))] [.n, .p, .p] (.w (.a (.ptr (.v 14) 0))) [((.b (.v 14)), (.prop 15)), ((.a 10), (.prop 16))]
(.call 99 [(.a (.ptr (.v 14) 0))] [((.b (.v 14)), (.prop 15))] [.i, .p] (.w (.a (.int .u8 (.v 17)))) [((.b (.v 14)), (.prop 18))]
(.call 100 [(.a (.ptr (.v 14) 0))] [((.b (.v 14)), (.prop 18))] [.i, .p] (.w (.a (.int .i64 (.v 19)))) [((.b (.v 14)), (.prop 20))]
(.br (.o2 .eq (.v 17) (.i 1))
 (.call 101 [(.a (.ptr (.v 14) 0)), (.a (.int .i64 (.i 65536)))] [((.b (.v 14)), (.prop 20))] [.a, .n, .n, .p, .p] (.w (.a (.sl (.v 21) (.v 22) (.v 23)))) [((.a 21), (.prop 24)), ((.b (.v 14)), (.prop 25))]
 (.new
 (.call 102 [(.a (.ptr (.v 14) 0))] [((.b (.v 14)), (.prop 25))] [.i, .p] (.w (.a (.int .i64 (.v 27)))) [((.b (.v 14)), (.prop 28))]
 (.br (.o1 .not (.o2 .eq (.v 27) (.i 0)))
  (.ret (.w (.a (.bool (.c false)))) [((.b (.v 0)), (.cells [(.ptr (.v 1) 0), (.int .i64 (.v 3)), (.int .i64 (.v 4)), (.int .i64 (.v 5)), (.map (.v 6)), (.map (.v 8))] 113)), ((.b (.v 1)), (.prop 2)), ((.b (.v 6)), (.prop 7)), ((.b (.v 8)), (.prop 9)), ((.a 10), (.prop 16))])
  (.call 103 [(.a (.int .i64 (.v 19)))] [] [.c] (.w (.a (.bool (.v 29)))) []
  (.br (.o1 .not (.v 29))
   (.ret (.w (.a (.bool (.c false)))) [((.b (.v 0)), (.cells [(.ptr (.v 1) 0), (.int .i64 (.v 3)), (.int .i64 (.v 4)), (.int .i64 (.v 5)), (.map (.v 6)), (.map (.v 8))] 113)), ((.b (.v 1)), (.prop 2)), ((.b (.v 6)), (.prop 7)), ((.b (.v 8)), (.prop 9)), ((.a 10), (.prop 16))])
   (.call 97 [(.a (.ptr (.v 0) 0)), (.a (.int .i64 (.v 19))), (.agg [(.int .i64 (.i 1)), (.sl (.v 21) (.v 22) (.v 23))])] [((.b (.v 0)), (.cells [(.ptr (.v 1) 0), (.int .i64 (.v 3)), (.int .i64 (.v 4)), (.int .i64 (.v 5)), (.map (.v 6)), (.map (.v 8))] 113)), ((.b (.v 1)), (.prop 2)), ((.b (.v 6)), (.prop 7)), ((.b (.v 8)), (.prop 9)), ((.a 21), (.prop 24))] [.n, .p, .i, .i, .i, .n, .p, .n, .p, .p] (.tup []) [((.b (.v 0)), (.cells [(.ptr (.v 30) 0), (.int .i64 (.v 32)), (.int .i64 (.v 33)), (.int .i64 (.v 34)), (.map (.v 35)), (.map (.v 37))] 113)), ((.b (.v 30)), (.prop 31)), ((.b (.v 35)), (.prop 36)), ((.b (.v 37)), (.prop 38)), ((.a 21), (.prop 39))]
   (.ret (.w (.a (.bool (.c true)))) [((.b (.v 0)), (.cells [(.ptr (.v 30) 0), (.int .i64 (.v 32)), (.int .i64 (.v 33)), (.int .i64 (.v 34)), (.map (.v 35)), (.map (.v 37))] 113)), ((.b (.v 30)), (.prop 31)), ((.b (.v 35)), (.prop 36)), ((.b (.v 37)), (.prop 38)), ((.a 10), (.prop 16))]))))))))
 (.br (.o2 .eq (.v 17) (.i 2))
  (.call 102 [(.a (.ptr (.v 14) 0))] [((.b (.v 14)), (.prop 20))] [.i, .p] (.w (.a (.int .i64 (.v 21)))) [((.b (.v 14)), (.prop 22))]
  (.br (.o1 .not (.o2 .eq (.v 21) (.i 0)))
   (.ret (.w (.a (.bool (.c false)))) [((.b (.v 0)), (.cells [(.ptr (.v 1) 0), (.int .i64 (.v 3)), (.int .i64 (.v 4)), (.int .i64 (.v 5)), (.map (.v 6)), (.map (.v 8))] 113)), ((.b (.v 1)), (.prop 2)), ((.b (.v 6)), (.prop 7)), ((.b (.v 8)), (.prop 9)), ((.a 10), (.prop 16))])
   (.call 103 [(.a (.int .i64 (.v 19)))] [] [.c] (.w (.a (.bool (.v 23)))) []
   (.br (.o1 .not (.v 23))
    (.ret (.w (.a (.bool (.c false)))) [((.b (.v 0)), (.cells [(.ptr (.v 1) 0), (.int .i64 (.v 3)), (.int .i64 (.v 4)), (.int .i64 (.v 5)), (.map (.v 6)), (.map (.v 8))] 113)), ((.b (.v 1)), (.prop 2)), ((.b (.v 6)), (.prop 7)), ((.b (.v 8)), (.prop 9)), ((.a 10), (.prop 16))])
    (.call 97 [(.a (.ptr (.v 0) 0)), (.a (.int .i64 (.v 19))), (.agg [(.int .i64 (.i 2)), (.sl .nil (.n 0) (.n 0))])] [((.b (.v 0)), (.cells [(.ptr (.v 1) 0), (.int .i64 (.v 3)), (.int .i64 (.v 4)), (.int .i64 (.v 5)), (.map (.v 6)), (.map (.v 8))] 113)), ((.b (.v 1)), (.prop 2)), ((.b (.v 6)), (.prop 7)), ((.b (.v 8)), (.prop 9))] [.n, .p, .i, .i, .i, .n, .p, .n, .p] (.tup []) [((.b (.v 0)), (.cells [(.ptr (.v 24) 0), (.int .i64 (.v 26)), (.int .i64 (.v 27)), (.int .i64 (.v 28)), (.map (.v 29)), (.map (.v 31))] 113)), ((.b (.v 24)), (.prop 25)), ((.b (.v 29)), (.prop 30)), ((.b (.v 31)), (.prop 32))]
    (.ret (.w (.a (.bool (.c true)))) [((.b (.v 0)), (.cells [(.ptr (.v 24) 0), (.int .i64 (.v 26)), (.int .i64 (.v 27)), (.int .i64 (.v 28)), (.map (.v 29)), (.map (.v 31))] 113)), ((.b (.v 24)), (.prop 25)), ((.b (.v 29)), (.prop 30)), ((.b (.v 31)), (.prop 32)), ((.a 10), (.prop 16))]))))))
  (.br (.o2 .eq (.v 17) (.i 3))
   (.call 102 [(.a (.ptr (.v 14) 0))] [((.b (.v 14)), (.prop 20))] [.i, .p] (.w (.a (.int .i64 (.v 21)))) [((.b (.v 14)), (.prop 22))]
   (.br (.o1 .not (.o2 .eq (.v 21) (.i 0)))
    (.ret (.w (.a (.bool (.c false)))) [((.b (.v 0)), (.cells [(.ptr (.v 1) 0), (.int .i64 (.v 3)), (.int .i64 (.v 4)), (.int .i64 (.v 5)), (.map (.v 6)), (.map (.v 8))] 113)), ((.b (.v 1)), (.prop 2)), ((.b (.v 6)), (.prop 7)), ((.b (.v 8)), (.prop 9)), ((.a 10), (.prop 16))])
    (.call 103 [(.a (.int .i64 (.v 19)))] [] [.c] (.w (.a (.bool (.v 23)))) []
    (.br (.o1 .not (.v 23))
     (.ret (.w (.a (.bool (.c false)))) [((.b (.v 0)), (.cells [(.ptr (.v 1) 0), (.int .i64 (.v 3)), (.int .i64 (.v 4)), (.int .i64 (.v 5)), (.map (.v 6)), (.map (.v 8))] 113)), ((.b (.v 1)), (.prop 2)), ((.b (.v 6)), (.prop 7)), ((.b (.v 8)), (.prop 9)), ((.a 10), (.prop 16))])
     (.ret (.w (.a (.bool (.c true)))) [((.b (.v 0)), (.cells [(.ptr (.v 1) 0), (.int .i64 (.v 3)), (.int .i64 (.v 19)), (.int .i64 (.v 5)), (.map (.v 6)), (.map (.v 8))] 113)), ((.b (.v 1)), (.prop 2)), ((.b (.v 6)), (.prop 7)), ((.b (.v 8)), (.prop 9)), ((.a 10), (.prop 16))])))))
   (.br (.o2 .eq (.v 17) (.i 4))
    (.call 102 [(.a (.ptr (.v 14) 0))] [((.b (.v 14)), (.prop 20))] [.i, .p] (.w (.a (.int .i64 (.v 21)))) [((.b (.v 14)), (.prop 22))]
    (.br (.o1 .not (.o2 .eq (.v 21) (.i 0)))
     (.ret (.w (.a (.bool (.c false)))) [((.b (.v 0)), (.cells [(.ptr (.v 1) 0), (.int .i64 (.v 3)), (.int .i64 (.v 4)), (.int .i64 (.v 5)), (.map (.v 6)), (.map (.v 8))] 113)), ((.b (.v 1)), (.prop 2)), ((.b (.v 6)), (.prop 7)), ((.b (.v 8)), (.prop 9)), ((.a 10), (.prop 16))])
     (.call 104 [(.a (.int .i64 (.v 19)))] [] [.c] (.w (.a (.bool (.v 23)))) []
     (.br (.o1 .not (.v 23))
      (.ret (.w (.a (.bool (.c false)))) [((.b (.v 0)), (.cells [(.ptr (.v 1) 0), (.int .i64 (.v 3)), (.int .i64 (.v 4)), (.int .i64 (.v 5)), (.map (.v 6)), (.map (.v 8))] 113)), ((.b (.v 1)), (.prop 2)), ((.b (.v 6)), (.prop 7)), ((.b (.v 8)), (.prop 9)), ((.a 10), (.prop 16))])
      (.ret (.w (.a (.bool (.c true)))) [((.b (.v 0)), (.cells [(.ptr (.v 1) 0), (.int .i64 (.v 19)), (.int .i64 (.v 4)), (.int .i64 (.v 5)), (.map (.v 6)), (.map (.v 8))] 113)), ((.b (.v 1)), (.prop 2)), ((.b (.v 6)), (.prop 7)), ((.b (.v 8)), (.prop 9)), ((.a 10), (.prop 16))])))))
    (.br (.o2 .eq (.v 17) (.i 5))
     (.call 100 [(.a (.ptr (.v 14) 0))] [((.b (.v 14)), (.prop 20))] [.i, .p] (.w (.a (.int .i64 (.v 21)))) [((.b (.v 14)), (.prop 22))]
     (.call 100 [(.a (.ptr (.v 14) 0))] [((.b (.v 14)), (.prop 22))] [.i, .p] (.w (.a (.int .i64 (.v 23)))) [((.b (.v 14)), (.prop 24))]
     (.new
     (.call 102 [(.a (.ptr (.v 14) 0))] [((.b (.v 14)), (.prop 24))] [.i, .p] (.w (.a (.int .i64 (.v 26)))) [((.b (.v 14)), (.prop 27))]
     (.br (.o1 .not (.o2 .eq (.v 26) (.i 0)))
      (.ret (.w (.a (.bool (.c false)))) [((.b (.v 0)), (.cells [(.ptr (.v 1) 0), (.int .i64 (.v 3)), (.int .i64 (.v 4)), (.int .i64 (.v 5)), (.map (.v 6)), (.map (.v 8))] 113)), ((.b (.v 1)), (.prop 2)), ((.b (.v 6)), (.prop 7)), ((.b (.v 8)), (.prop 9)), ((.a 10), (.prop 16))])
      (.call 73 [(.a (.int .i64 (.v 19))), (.agg [(.int .i64 (.v 21)), (.int .i64 (.v 23))])] [] [.c] (.w (.a (.bool (.v 28)))) []
      (.br (.o1 .not (.v 28))
       (.ret (.w (.a (.bool (.c false)))) [((.b (.v 0)), (.cells [(.ptr (.v 1) 0), (.int .i64 (.v 3)), (.int .i64 (.v 4)), (.int .i64 (.v 5)), (.map (.v 6)), (.map (.v 8))] 113)), ((.b (.v 1)), (.prop 2)), ((.b (.v 6)), (.prop 7)), ((.b (.v 8)), (.prop 9)), ((.a 10), (.prop 16))])
       (.call 78 [(.a (.ptr (.v 0) 0)), (.a (.int .i64 (.v 19))), (.agg [(.int .i64 (.v 21)), (.int .i64 (.v 23))])] [((.b (.v 0)), (.cells [(.ptr (.v 1) 0), (.int .i64 (.v 3)), (.int .i64 (.v 4)), (.int .i64 (.v 5)), (.map (.v 6)), (.map (.v 8))] 113)), ((.b (.v 1)), (.prop 2)), ((.b (.v 6)), (.prop 7)), ((.b (.v 8)), (.prop 9))] [.n, .p, .i, .i, .i, .n, .p, .n, .p] (.tup []) [((.b (.v 0)), (.cells [(.ptr (.v 29) 0), (.int .i64 (.v 31)), (.int .i64 (.v 32)), (.int .i64 (.v 33)), (.map (.v 34)), (.map (.v 36))] 113)), ((.b (.v 29)), (.prop 30)), ((.b (.v 34)), (.prop 35)), ((.b (.v 36)), (.prop 37))]
       (.ret (.w (.a (.bool (.c true)))) [((.b (.v 0)), (.cells [(.ptr (.v 29) 0), (.int .i64 (.v 31)), (.int .i64 (.v 32)), (.int .i64 (.v 33)), (.map (.v 34)), (.map (.v 36))] 113)), ((.b (.v 29)), (.prop 30)), ((.b (.v 34)), (.prop 35)), ((.b (.v 36)), (.prop 37)), ((.a 10), (.prop 16))])))))))))
     (.br (.o2 .eq (.v 17) (.i 6))
      (.call 100 [(.a (.ptr (.v 14) 0))] [((.b (.v 14)), (.prop 20))] [.i, .p] (.w (.a (.int .i64 (.v 21)))) [((.b (.v 14)), (.prop 22))]
      (.call 100 [(.a (.ptr (.v 14) 0))] [((.b (.v 14)), (.prop 22))] [.i, .p] (.w (.a (.int .i64 (.v 23)))) [((.b (.v 14)), (.prop 24))]
      (.new
      (.call 101 [(.a (.ptr (.v 14) 0)), (.a (.int .i64 (.i 1000)))] [((.b (.v 14)), (.prop 24))] [.a, .n, .n, .p, .p] (.w (.a (.sl (.v 26) (.v 27) (.v 28)))) [((.a 26), (.prop 29)), ((.b (.v 14)), (.prop 30))]
      (.call 102 [(.a (.ptr (.v 14) 0))] [((.b (.v 14)), (.prop 30))] [.i, .p] (.w (.a (.int .i64 (.v 31)))) [((.b (.v 14)), (.prop 32))]
      (.br (.o1 .not (.o2 .eq (.v 31) (.i 0)))
       (.ret (.w (.a (.bool (.c false)))) [((.b (.v 0)), (.cells [(.ptr (.v 1) 0), (.int .i64 (.v 3)), (.int .i64 (.v 4)), (.int .i64 (.v 5)), (.map (.v 6)), (.map (.v 8))] 113)), ((.b (.v 1)), (.prop 2)), ((.b (.v 6)), (.prop 7)), ((.b (.v 8)), (.prop 9)), ((.a 10), (.prop 16))])
       (.call 73 [(.a (.int .i64 (.v 19))), (.agg [(.int .i64 (.v 21)), (.int .i64 (.v 23))])] [] [.c] (.w (.a (.bool (.v 33)))) []
       (.br (.o1 .not (.v 33))
        (.ret (.w (.a (.bool (.c false)))) [((.b (.v 0)), (.cells [(.ptr (.v 1) 0), (.int .i64 (.v 3)), (.int .i64 (.v 4)), (.int .i64 (.v 5)), (.map (.v 6)), (.map (.v 8))] 113)), ((.b (.v 1)), (.prop 2)), ((.b (.v 6)), (.prop 7)), ((.b (.v 8)), (.prop 9)), ((.a 10), (.prop 16))])
        (.call 83 [(.a (.ptr (.v 0) 0)), (.a (.int .i64 (.v 19))), (.agg [(.int .i64 (.v 21)), (.int .i64 (.v 23))]), (.a (.sl (.v 26) (.v 27) (.v 28)))] [((.b (.v 0)), (.cells [(.ptr (.v 1) 0), (.int .i64 (.v 3)), (.int .i64 (.v 4)), (.int .i64 (.v 5)), (.map (.v 6)), (.map (.v 8))] 113)), ((.b (.v 1)), (.prop 2)), ((.b (.v 6)), (.prop 7)), ((.b (.v 8)), (.prop 9)), ((.a 26), (.prop 29))] [.n, .p, .i, .i, .i, .n, .p, .n, .p, .p] (.tup []) [((.b (.v 0)), (.cells [(.ptr (.v 34) 0), (.int .i64 (.v 36)), (.int .i64 (.v 37)), (.int .i64 (.v 38)), (.map (.v 39)), (.map (.v 41))] 113)), ((.b (.v 34)), (.prop 35)), ((.b (.v 39)), (.prop 40)), ((.b (.v 41)), (.prop 42)), ((.a 26), (.prop 43))]
        (.ret (.w (.a (.bool (.c true)))) [((.b (.v 0)), (.cells [(.ptr (.v 34) 0), (.int .i64 (.v 36)), (.int .i64 (.v 37)), (.int .i64 (.v 38)), (.map (.v 39)), (.map (.v 41))] 113)), ((.b (.v 34)), (.prop 35)), ((.b (.v 39)), (.prop 40)), ((.b (.v 41)), (.prop 42)), ((.a 10), (.prop 16))]))))))))))
      (.ret (.w (.a (.bool (.c false)))) [((.b (.v 0)), (.cells [(.ptr (.v 1) 0), (.int .i64 (.v 3)), (.int .i64 (.v 4)), (.int .i64 (.v 5)), (.map (.v 6)), (.map (.v 8))] 113)), ((.b (.v 1)), (.prop 2)), ((.b (.v 6)), (.prop 7)), ((.b (.v 8)), (.prop 9)), ((.a 10), (.prop 16))]))))))))))
theorem tree_uFollow : tree Try.prog { absT := [175, 183], opq := [], hv := [], keep := [103, 104, 73, 74, 95, 70, 71, 20, 38, 40, 106], link := [], ent := [], turn := [(105, [0])], shr := [], vt := [], mkd := [], rlink := [], pty := [], outl := false, stay := [], snk := [] } Try.f59 [(.a (.ptr (.v 0) 0)), (.a (.sl (.v 10) (.v 11) (.v 12)))] [((.b (.v 0)), (.cells [(.ptr (.v 1) 0), (.int .i64 (.v 3)), (.int .i64 (.v 4)), (.int .i64 (.v 5)), (.map (.v 6)), (.map (.v 8))] 113)), ((.b (.v 1)), (.prop 2)), ((.b (.v 6)), (.prop 7)), ((.b (.v 8)), (.prop 9)), ((.a 10), (.prop 13))] 14 = t_uFollow := by kernel_rfl
-- tideline/unit.Open: ρ := [.n d, .p dP]
def t_uOpen : T :=
(.new
(.new
(.new
(.call 34 [(.a (.ptr (.v 0) 0))] [((.b (.v 0)), (.prop 1))] [.a, .n, .n, .p, .p] (.w (.a (.sl (.v 5) (.v 6) (.v 7)))) [((.a 5), (.prop 8)), ((.b (.v 0)), (.prop 9))]
(.loop [.v, .p, .i, .i, .p, .p, .n, .i, .i, .i, .n, .n, .p, .p] [(.v .nilp), (.p []), (.e (.o1 .neg (.o1 .neg (.i 0)))), (.e (.o1 .neg (.o1 .neg (.i 0)))), (.p [((.a 5), (.prop 8))]), (.p [((.b (.v 0)), (.prop 9))]), (.n (.v 0)), (.e (.o1 .neg (.o1 .neg (.i 0)))), (.e (.o1 .neg (.o1 .neg (.i 0)))), (.e (.o1 .neg (.o1 .neg (.i 0)))), (.n (.v 2)), (.n (.v 3)), (.p [((.b (.v 3)), .emap)]), (.p [((.b (.v 2)), .emap)])]
 (.br (.o2 .lt (.v 13) (.o1 .ofNat (.v 6)))
  (.need (.o2 .le (.i 0) (.v 13))
  (.need (.o1 .isSome (.v 5))
  (.read (.load 30 (.tmp 17)) 30 [(17, (.w (.a (.eptr 5 (.v 13) 1 0))))] [((.a 5), (.prop 14))] [.a, .n, .n] (.w (.a (.sl (.v 24) (.v 25) (.v 26))))
  (.call 59 [(.a (.ptr (.v 4) 0)), (.a (.sl (.v 24) (.v 25) (.v 26)))] [((.b (.v 4)), (.cells [(.ptr (.v 16) 0), (.int .i64 (.v 17)), (.int .i64 (.v 18)), (.int .i64 (.v 19)), (.map (.v 20)), (.map (.v 21))] 113)), ((.b (.v 16)), (.prop 15)), ((.b (.v 20)), (.prop 23)), ((.b (.v 21)), (.prop 22)), ((.a 5), (.prop 14))] [.c, .n, .p, .i, .i, .i, .n, .p, .n, .p, .p] (.w (.a (.bool (.v 27)))) [((.b (.v 4)), (.cells [(.ptr (.v 28) 0), (.int .i64 (.v 30)), (.int .i64 (.v 31)), (.int .i64 (.v 32)), (.map (.v 33)), (.map (.v 35))] 113)), ((.b (.v 28)), (.prop 29)), ((.b (.v 33)), (.prop 34)), ((.b (.v 35)), (.prop 36)), ((.a 5), (.prop 37))]
  (.br (.o1 .not (.v 27))
   (.ret (.tup [(.a .nilp), (.a (.int .i64 (.i 3)))]) [])
   (.need (.o1 (.inr .i64) (.o2 .add (.v 13) (.i 1)))
   (.again 0 [(.v (.val 10)), (.p [((.a 10), (.prop 11))]), (.e (.o1 .neg (.o1 .neg (.v 12)))), (.e (.o1 .neg (.o1 .neg (.o2 .add (.v 13) (.i 1))))), (.p [((.a 5), (.prop 37))]), (.p [((.b (.v 28)), (.prop 29))]), (.n (.v 28)), (.e (.o1 .neg (.o1 .neg (.v 30)))), (.e (.o1 .neg (.o1 .neg (.v 31)))), (.e (.o1 .neg (.o1 .neg (.v 32)))), (.n (.v 33)), (.n (.v 35)), (.p [((.b (.v 35)), (.prop 36))]), (.p [((.b (.v 33)), (.prop 34))])])))))))
  (.call 60 [(.a (.ptr (.v 4) 0))] [((.b (.v 4)), (.cells [(.ptr (.v 16) 0), (.int .i64 (.v 17)), (.int .i64 (.v 18)), (.int .i64 (.v 19)), (.map (.v 20)), (.map (.v 21))] 113)), ((.b (.v 16)), (.prop 15)), ((.b (.v 20)), (.prop 23)), ((.b (.v 21)), (.prop 22))] [.n, .p, .i, .i, .i, .n, .p, .n, .p] (.tup []) [((.b (.v 4)), (.cells [(.ptr (.v 24) 0), (.int .i64 (.v 26)), (.int .i64 (.v 27)), (.int .i64 (.v 28)), (.map (.v 29)), (.map (.v 31))] 113)), ((.b (.v 24)), (.prop 25)), ((.b (.v 29)), (.prop 30)), ((.b (.v 31)), (.prop 32))]
  (.ret (.tup [(.a (.ptr (.v 4) 0)), (.a (.int .i64 (.i 0)))]) [((.b (.v 4)), (.cells [(.ptr (.v 24) 0), (.int .i64 (.v 26)), (.int .i64 (.v 27)), (.int .i64 (.v 28)), (.map (.v 29)), (.map (.v 31))] 113)), ((.b (.v 24)), (.prop 25)), ((.b (.v 29)), (.prop 30)), ((.b (.v 31)), (.prop 32))]))))))))
theorem tree_uOpen : tree Try.prog { absT := [175, 183], opq := [], hv := [(0, [(.a 5), (.b (.v 0)), (.b (.v 4)), (.b (.v 3)), (.b (.v 2))])], keep := [103, 104, 73, 74, 95, 70, 71, 20, 38, 40, 106], link := [], ent := [], turn := [(105, [0])], shr := [], vt := [], mkd := [], rlink := [], pty := [], outl := false, stay := [], snk := [] } Try.f17 [(.a (.ptr (.v 0) 0))] [((.b (.v 0)), (.prop 1))] 2 = t_uOpen := by kernel_rfl
-- (*tideline/unit.Unit).Read: ρ := [.n u, .n u_d, .p u_dP, .i u_epoch, .i u_low, .i u_top, .n u_cells, .p u_cellsP, .n u_instances, .p u_instancesP, .i epoch, .i at]
def t_uRead : T :=
(.new
(.call 70 [(.a (.ptr (.v 0) 0)), (.a (.int .i64 (.v 10))), (.a (.int .i64 (.v 11)))] [((.b (.v 0)), (.cells [(.ptr (.v 1) 0), (.int .i64 (.v 3)), (.int .i64 (.v 4)), (.int .i64 (.v 5)), (.map (.v 6)), (.map (.v 8))] 113)), ((.b (.v 1)), (.prop 2)), ((.b (.v 6)), (.prop 7)), ((.b (.v 8)), (.prop 9))] [.i] (.w (.a (.int .i64 (.v 13)))) [((.b (.v 0)), (.cells [(.ptr (.v 1) 0), (.int .i64 (.v 3)), (.int .i64 (.v 4)), (.int .i64 (.v 5)), (.map (.v 6)), (.map (.v 8))] 113)), ((.b (.v 1)), (.prop 2)), ((.b (.v 6)), (.prop 7)), ((.b (.v 8)), (.prop 9))]
(.br (.o1 .not (.o2 .eq (.v 13) (.i 0)))
 (.ret (.tup [(.agg [(.int .i64 (.i 0)), (.sl .nil (.n 0) (.n 0))]), (.a (.int .i64 (.v 13)))]) [((.b (.v 0)), (.cells [(.ptr (.v 1) 0), (.int .i64 (.v 3)), (.int .i64 (.v 4)), (.int .i64 (.v 5)), (.map (.v 6)), (.map (.v 8))] 113)), ((.b (.v 1)), (.prop 2)), ((.b (.v 6)), (.prop 7)), ((.b (.v 8)), (.prop 9))])
 (.br (.o2 .lt (.v 11) (.v 4))
  (.ret (.tup [(.agg [(.int .i64 (.i 0)), (.sl .nil (.n 0) (.n 0))]), (.a (.int .i64 (.i 11)))]) [((.b (.v 0)), (.cells [(.ptr (.v 1) 0), (.int .i64 (.v 3)), (.int .i64 (.v 4)), (.int .i64 (.v 5)), (.map (.v 6)), (.map (.v 8))] 113)), ((.b (.v 1)), (.prop 2)), ((.b (.v 6)), (.prop 7)), ((.b (.v 8)), (.prop 9))])
  (.call 71 [(.a (.ptr (.v 0) 0)), (.a (.int .i64 (.v 11)))] [((.b (.v 0)), (.cells [(.ptr (.v 1) 0), (.int .i64 (.v 3)), (.int .i64 (.v 4)), (.int .i64 (.v 5)), (.map (.v 6)), (.map (.v 8))] 113)), ((.b (.v 1)), (.prop 2)), ((.b (.v 6)), (.prop 7)), ((.b (.v 8)), (.prop 9))] [.i, .a, .n, .n, .p, .c] (.tup [(.agg [(.int .i64 (.v 14)), (.sl (.v 15) (.v 16) (.v 17))]), (.a (.bool (.v 19)))]) [((.a 15), (.prop 18)), ((.b (.v 0)), (.cells [(.ptr (.v 1) 0), (.int .i64 (.v 3)), (.int .i64 (.v 4)), (.int .i64 (.v 5)), (.map (.v 6)), (.map (.v 8))] 113)), ((.b (.v 1)), (.prop 2)), ((.b (.v 6)), (.prop 7)), ((.b (.v 8)), (.prop 9))]
  (.new
  (.br (.o1 .not (.v 19))
   (.ret (.tup [(.agg [(.int .i64 (.i 0)), (.sl .nil (.n 0) (.n 0))]), (.a (.int .i64 (.i 9)))]) [((.b (.v 0)), (.cells [(.ptr (.v 1) 0), (.int .i64 (.v 3)), (.int .i64 (.v 4)), (.int .i64 (.v 5)), (.map (.v 6)), (.map (.v 8))] 113)), ((.b (.v 1)), (.prop 2)), ((.b (.v 6)), (.prop 7)), ((.b (.v 8)), (.prop 9))])
   (.ret (.tup [(.agg [(.int .i64 (.v 14)), (.sl (.v 15) (.v 16) (.v 17))]), (.a (.int .i64 (.i 0)))]) [((.b (.v 0)), (.cells [(.ptr (.v 1) 0), (.int .i64 (.v 3)), (.int .i64 (.v 4)), (.int .i64 (.v 5)), (.map (.v 6)), (.map (.v 8))] 113)), ((.b (.v 1)), (.prop 2)), ((.b (.v 6)), (.prop 7)), ((.b (.v 8)), (.prop 9)), ((.a 15), (.prop 18))]))))))))
theorem tree_uRead : tree Try.prog { absT := [175, 183], opq := [], hv := [], keep := [103, 104, 73, 74, 95, 70, 71, 20, 38, 40, 106], link := [], ent := [], turn := [(105, [0])], shr := [], vt := [], mkd := [], rlink := [], pty := [], outl := false, stay := [], snk := [] } Try.f19 [(.a (.ptr (.v 0) 0)), (.a (.int .i64 (.v 10))), (.a (.int .i64 (.v 11)))] [((.b (.v 0)), (.cells [(.ptr (.v 1) 0), (.int .i64 (.v 3)), (.int .i64 (.v 4)), (.int .i64 (.v 5)), (.map (.v 6)), (.map (.v 8))] 113)), ((.b (.v 1)), (.prop 2)), ((.b (.v 6)), (.prop 7)), ((.b (.v 8)), (.prop 9))] 12 = t_uRead := by kernel_rfl
-- (*tideline/unit.Unit).Write: ρ := [.n u, .n u_d, .p u_dP, .i u_epoch, .i u_low, .i u_top, .n u_cells, .p u_cellsP, .n u_instances, .p u_instancesP, .i epoch, .i at, .i x_What, .a x_Dataa, .n x_Datal, .n x_Datac, .p x_DataP]
def t_uWrite : T :=
(.new
(.new
(.call 70 [(.a (.ptr (.v 0) 0)), (.a (.int .i64 (.v 10))), (.a (.int .i64 (.v 11)))] [((.b (.v 0)), (.cells [(.ptr (.v 1) 0), (.int .i64 (.v 3)), (.int .i64 (.v 4)), (.int .i64 (.v 5)), (.map (.v 6)), (.map (.v 8))] 113)), ((.b (.v 1)), (.prop 2)), ((.b (.v 6)), (.prop 7)), ((.b (.v 8)), (.prop 9))] [.i] (.w (.a (.int .i64 (.v 19)))) [((.b (.v 0)), (.cells [(.ptr (.v 1) 0), (.int .i64 (.v 3)), (.int .i64 (.v 4)), (.int .i64 (.v 5)), (.map (.v 6)), (.map (.v 8))] 113)), ((.b (.v 1)), (.prop 2)), ((.b (.v 6)), (.prop 7)), ((.b (.v 8)), (.prop 9))]
(.br (.o1 .not (.o2 .eq (.v 19) (.i 0)))
 (.ret (.tup [(.agg [(.int .i64 (.i 0)), (.sl .nil (.n 0) (.n 0))]), (.a (.int .i64 (.v 19)))]) [((.b (.v 0)), (.cells [(.ptr (.v 1) 0), (.int .i64 (.v 3)), (.int .i64 (.v 4)), (.int .i64 (.v 5)), (.map (.v 6)), (.map (.v 8))] 113)), ((.b (.v 1)), (.prop 2)), ((.b (.v 6)), (.prop 7)), ((.b (.v 8)), (.prop 9)), ((.a 13), (.prop 16))])
 (.call 95 [(.agg [(.int .i64 (.v 12)), (.sl (.v 13) (.v 14) (.v 15))])] [((.a 13), (.prop 16))] [.c] (.w (.a (.bool (.v 20)))) [((.a 13), (.prop 16))]
 (.br (.o1 .not (.v 20))
  (.ret (.tup [(.agg [(.int .i64 (.i 0)), (.sl .nil (.n 0) (.n 0))]), (.a (.int .i64 (.i 1)))]) [((.b (.v 0)), (.cells [(.ptr (.v 1) 0), (.int .i64 (.v 3)), (.int .i64 (.v 4)), (.int .i64 (.v 5)), (.map (.v 6)), (.map (.v 8))] 113)), ((.b (.v 1)), (.prop 2)), ((.b (.v 6)), (.prop 7)), ((.b (.v 8)), (.prop 9)), ((.a 13), (.prop 16))])
  (.br (.o2 .lt (.v 11) (.v 4))
   (.ret (.tup [(.agg [(.int .i64 (.i 0)), (.sl .nil (.n 0) (.n 0))]), (.a (.int .i64 (.i 11)))]) [((.b (.v 0)), (.cells [(.ptr (.v 1) 0), (.int .i64 (.v 3)), (.int .i64 (.v 4)), (.int .i64 (.v 5)), (.map (.v 6)), (.map (.v 8))] 113)), ((.b (.v 1)), (.prop 2)), ((.b (.v 6)), (.prop 7)), ((.b (.v 8)), (.prop 9)), ((.a 13), (.prop 16))])
   (.call 71 [(.a (.ptr (.v 0) 0)), (.a (.int .i64 (.v 11)))] [((.b (.v 0)), (.cells [(.ptr (.v 1) 0), (.int .i64 (.v 3)), (.int .i64 (.v 4)), (.int .i64 (.v 5)), (.map (.v 6)), (.map (.v 8))] 113)), ((.b (.v 1)), (.prop 2)), ((.b (.v 6)), (.prop 7)), ((.b (.v 8)), (.prop 9))] [.i, .a, .n, .n, .p, .c] (.tup [(.agg [(.int .i64 (.v 21)), (.sl (.v 22) (.v 23) (.v 24))]), (.a (.bool (.v 26)))]) [((.a 22), (.prop 25)), ((.b (.v 0)), (.cells [(.ptr (.v 1) 0), (.int .i64 (.v 3)), (.int .i64 (.v 4)), (.int .i64 (.v 5)), (.map (.v 6)), (.map (.v 8))] 113)), ((.b (.v 1)), (.prop 2)), ((.b (.v 6)), (.prop 7)), ((.b (.v 8)), (.prop 9))]
   (.new
   (.br (.v 26)
    (.ret (.tup [(.agg [(.int .i64 (.v 21)), (.sl (.v 22) (.v 23) (.v 24))]), (.a (.int .i64 (.i 10)))]) [((.b (.v 0)), (.cells [(.ptr (.v 1) 0), (.int .i64 (.v 3)), (.int .i64 (.v 4)), (.int .i64 (.v 5)), (.map (.v 6)), (.map (.v 8))] 113)), ((.b (.v 1)), (.prop 2)), ((.b (.v 6)), (.prop 7)), ((.b (.v 8)), (.prop 9)), ((.a 13), (.prop 16)), ((.a 22), (.prop 25))])
    (.call 96 [(.a (.int .i64 (.v 11))), (.agg [(.int .i64 (.v 12)), (.sl (.v 13) (.v 14) (.v 15))])] [((.a 13), (.prop 16))] [.a, .n, .n, .p, .p] (.w (.a (.sl (.v 28) (.v 29) (.v 30)))) [((.a 28), (.prop 31)), ((.a 13), (.prop 32))]
    (.call 75 [(.a (.ptr (.v 0) 0)), (.a (.sl (.v 28) (.v 29) (.v 30)))] [((.b (.v 0)), (.cells [(.ptr (.v 1) 0), (.int .i64 (.v 3)), (.int .i64 (.v 4)), (.int .i64 (.v 5)), (.map (.v 6)), (.map (.v 8))] 113)), ((.b (.v 1)), (.prop 2)), ((.b (.v 6)), (.prop 7)), ((.b (.v 8)), (.prop 9)), ((.a 28), (.prop 31))] [.i, .n, .p, .i, .i, .i, .n, .p, .n, .p, .p] (.w (.a (.int .i64 (.v 33)))) [((.b (.v 0)), (.cells [(.ptr (.v 34) 0), (.int .i64 (.v 36)), (.int .i64 (.v 37)), (.int .i64 (.v 38)), (.map (.v 39)), (.map (.v 41))] 113)), ((.b (.v 34)), (.prop 35)), ((.b (.v 39)), (.prop 40)), ((.b (.v 41)), (.prop 42)), ((.a 28), (.prop 43))]
    (.br (.o1 .not (.o2 .eq (.v 33) (.i 0)))
     (.ret (.tup [(.agg [(.int .i64 (.i 0)), (.sl .nil (.n 0) (.n 0))]), (.a (.int .i64 (.v 33)))]) [((.b (.v 0)), (.cells [(.ptr (.v 34) 0), (.int .i64 (.v 36)), (.int .i64 (.v 37)), (.int .i64 (.v 38)), (.map (.v 39)), (.map (.v 41))] 113)), ((.b (.v 34)), (.prop 35)), ((.b (.v 39)), (.prop 40)), ((.b (.v 41)), (.prop 42)), ((.a 13), (.prop 32))])
     (.call 97 [(.a (.ptr (.v 0) 0)), (.a (.int .i64 (.v 11))), (.agg [(.int .i64 (.v 12)), (.sl (.v 13) (.v 14) (.v 15))])] [((.b (.v 0)), (.cells [(.ptr (.v 34) 0), (.int .i64 (.v 36)), (.int .i64 (.v 37)), (.int .i64 (.v 38)), (.map (.v 39)), (.map (.v 41))] 113)), ((.b (.v 34)), (.prop 35)), ((.b (.v 39)), (.prop 40)), ((.b (.v 41)), (.prop 42)), ((.a 13), (.prop 32))] [.n, .p, .i, .i, .i, .n, .p, .n, .p, .p] (.tup []) [((.b (.v 0)), (.cells [(.ptr (.v 44) 0), (.int .i64 (.v 46)), (.int .i64 (.v 47)), (.int .i64 (.v 48)), (.map (.v 49)), (.map (.v 51))] 113)), ((.b (.v 44)), (.prop 45)), ((.b (.v 49)), (.prop 50)), ((.b (.v 51)), (.prop 52)), ((.a 13), (.prop 53))]
     (.ret (.tup [(.agg [(.int .i64 (.i 0)), (.sl .nil (.n 0) (.n 0))]), (.a (.int .i64 (.i 0)))]) [((.b (.v 0)), (.cells [(.ptr (.v 44) 0), (.int .i64 (.v 46)), (.int .i64 (.v 47)), (.int .i64 (.v 48)), (.map (.v 49)), (.map (.v 51))] 113)), ((.b (.v 44)), (.prop 45)), ((.b (.v 49)), (.prop 50)), ((.b (.v 51)), (.prop 52)), ((.a 13), (.prop 53))])))))))))))))))
theorem tree_uWrite : tree Try.prog { absT := [175, 183], opq := [], hv := [], keep := [103, 104, 73, 74, 95, 70, 71, 20, 38, 40, 106], link := [], ent := [], turn := [(105, [0])], shr := [], vt := [], mkd := [], rlink := [], pty := [], outl := false, stay := [], snk := [] } Try.f57 [(.a (.ptr (.v 0) 0)), (.a (.int .i64 (.v 10))), (.a (.int .i64 (.v 11))), (.agg [(.int .i64 (.v 12)), (.sl (.v 13) (.v 14) (.v 15))])] [((.b (.v 0)), (.cells [(.ptr (.v 1) 0), (.int .i64 (.v 3)), (.int .i64 (.v 4)), (.int .i64 (.v 5)), (.map (.v 6)), (.map (.v 8))] 113)), ((.b (.v 1)), (.prop 2)), ((.b (.v 6)), (.prop 7)), ((.b (.v 8)), (.prop 9)), ((.a 13), (.prop 16))] 17 = t_uWrite := by kernel_rfl
-- (*tideline/unit.Unit).Trim: ρ := [.n u, .n u_d, .p u_dP, .i u_epoch, .i u_low, .i u_top, .n u_cells, .p u_cellsP, .n u_instances, .p u_instancesP, .i epoch, .i low]
def t_uTrim : T :=
(.call 70 [(.a (.ptr (.v 0) 0)), (.a (.int .i64 (.v 10))), (.a (.int .i64 (.v 11)))] [((.b (.v 0)), (.cells [(.ptr (.v 1) 0), (.int .i64 (.v 3)), (.int .i64 (.v 4)), (.int .i64 (.v 5)), (.map (.v 6)), (.map (.v 8))] 113)), ((.b (.v 1)), (.prop 2)), ((.b (.v 6)), (.prop 7)), ((.b (.v 8)), (.prop 9))] [.i] (.w (.a (.int .i64 (.v 12)))) [((.b (.v 0)), (.cells [(.ptr (.v 1) 0), (.int .i64 (.v 3)), (.int .i64 (.v 4)), (.int .i64 (.v 5)), (.map (.v 6)), (.map (.v 8))] 113)), ((.b (.v 1)), (.prop 2)), ((.b (.v 6)), (.prop 7)), ((.b (.v 8)), (.prop 9))]
(.br (.o1 .not (.o2 .eq (.v 12) (.i 0)))
 (.ret (.w (.a (.int .i64 (.v 12)))) [((.b (.v 0)), (.cells [(.ptr (.v 1) 0), (.int .i64 (.v 3)), (.int .i64 (.v 4)), (.int .i64 (.v 5)), (.map (.v 6)), (.map (.v 8))] 113)), ((.b (.v 1)), (.prop 2)), ((.b (.v 6)), (.prop 7)), ((.b (.v 8)), (.prop 9))])
 (.br (.o2 .le (.v 11) (.v 4))
  (.ret (.w (.a (.int .i64 (.i 0)))) [((.b (.v 0)), (.cells [(.ptr (.v 1) 0), (.int .i64 (.v 3)), (.int .i64 (.v 4)), (.int .i64 (.v 5)), (.map (.v 6)), (.map (.v 8))] 113)), ((.b (.v 1)), (.prop 2)), ((.b (.v 6)), (.prop 7)), ((.b (.v 8)), (.prop 9))])
  (.new
  (.call 76 [(.a (.int .u8 (.i 3))), (.a (.sl (.b (.v 13) 0) (.n 1) (.n 1)))] [((.b (.v 13)), (.cells [(.int .i64 (.v 11))] 3))] [.n, .p, .i] (.w (.a (.ptr (.v 14) 0))) [((.b (.v 14)), (.prop 15)), ((.b (.v 13)), (.cells [(.int .i64 (.v 16))] 3))]
  (.call 77 [(.a (.ptr (.v 14) 0))] [((.b (.v 14)), (.prop 15))] [.a, .n, .n, .p, .p] (.w (.a (.sl (.v 17) (.v 18) (.v 19)))) [((.a 17), (.prop 20)), ((.b (.v 14)), (.prop 21))]
  (.call 75 [(.a (.ptr (.v 0) 0)), (.a (.sl (.v 17) (.v 18) (.v 19)))] [((.b (.v 0)), (.cells [(.ptr (.v 1) 0), (.int .i64 (.v 3)), (.int .i64 (.v 4)), (.int .i64 (.v 5)), (.map (.v 6)), (.map (.v 8))] 113)), ((.b (.v 1)), (.prop 2)), ((.b (.v 6)), (.prop 7)), ((.b (.v 8)), (.prop 9)), ((.a 17), (.prop 20))] [.i, .n, .p, .i, .i, .i, .n, .p, .n, .p, .p] (.w (.a (.int .i64 (.v 22)))) [((.b (.v 0)), (.cells [(.ptr (.v 23) 0), (.int .i64 (.v 25)), (.int .i64 (.v 26)), (.int .i64 (.v 27)), (.map (.v 28)), (.map (.v 30))] 113)), ((.b (.v 23)), (.prop 24)), ((.b (.v 28)), (.prop 29)), ((.b (.v 30)), (.prop 31)), ((.a 17), (.prop 32))]
  (.br (.o1 .not (.o2 .eq (.v 22) (.i 0)))
   (.ret (.w (.a (.int .i64 (.v 22)))) [((.b (.v 0)), (.cells [(.ptr (.v 23) 0), (.int .i64 (.v 25)), (.int .i64 (.v 26)), (.int .i64 (.v 27)), (.map (.v 28)), (.map (.v 30))] 113)), ((.b (.v 23)), (.prop 24)), ((.b (.v 28)), (.prop 29)), ((.b (.v 30)), (.prop 31))])
   (.call 60 [(.a (.ptr (.v 0) 0))] [((.b (.v 0)), (.cells [(.ptr (.v 23) 0), (.int .i64 (.v 25)), (.int .i64 (.v 11)), (.int .i64 (.v 27)), (.map (.v 28)), (.map (.v 30))] 113)), ((.b (.v 23)), (.prop 24)), ((.b (.v 28)), (.prop 29)), ((.b (.v 30)), (.prop 31))] [.n, .p, .i, .i, .i, .n, .p, .n, .p] (.tup []) [((.b (.v 0)), (.cells [(.ptr (.v 33) 0), (.int .i64 (.v 35)), (.int .i64 (.v 36)), (.int .i64 (.v 37)), (.map (.v 38)), (.map (.v 40))] 113)), ((.b (.v 33)), (.prop 34)), ((.b (.v 38)), (.prop 39)), ((.b (.v 40)), (.prop 41))]
   (.ret (.w (.a (.int .i64 (.i 0)))) [((.b (.v 0)), (.cells [(.ptr (.v 33) 0), (.int .i64 (.v 35)), (.int .i64 (.v 36)), (.int .i64 (.v 37)), (.map (.v 38)), (.map (.v 40))] 113)), ((.b (.v 33)), (.prop 34)), ((.b (.v 38)), (.prop 39)), ((.b (.v 40)), (.prop 41))]))))))))))
theorem tree_uTrim : tree Try.prog { absT := [175, 183], opq := [], hv := [], keep := [103, 104, 73, 74, 95, 70, 71, 20, 38, 40, 106], link := [], ent := [], turn := [(105, [0])], shr := [], vt := [], mkd := [], rlink := [], pty := [], outl := false, stay := [], snk := [] } Try.f63 [(.a (.ptr (.v 0) 0)), (.a (.int .i64 (.v 10))), (.a (.int .i64 (.v 11)))] [((.b (.v 0)), (.cells [(.ptr (.v 1) 0), (.int .i64 (.v 3)), (.int .i64 (.v 4)), (.int .i64 (.v 5)), (.map (.v 6)), (.map (.v 8))] 113)), ((.b (.v 1)), (.prop 2)), ((.b (.v 6)), (.prop 7)), ((.b (.v 8)), (.prop 9))] 12 = t_uTrim := by kernel_rfl
-- (*tideline/unit.Unit).Seal: ρ := [.n u, .n u_d, .p u_dP, .i u_epoch, .i u_low, .i u_top, .n u_cells, .p u_cellsP, .n u_instances, .p u_instancesP, .i epoch]
def t_uSeal : T :=
(.br (.o2 .le (.v 10) (.v 3))
 (.ret (.w (.a (.int .i64 (.i 8)))) [((.b (.v 0)), (.cells [(.ptr (.v 1) 0), (.int .i64 (.v 3)), (.int .i64 (.v 4)), (.int .i64 (.v 5)), (.map (.v 6)), (.map (.v 8))] 113)), ((.b (.v 1)), (.prop 2)), ((.b (.v 6)), (.prop 7)), ((.b (.v 8)), (.prop 9))])
 (.br (.o2 .lt (.i 2147483647) (.v 10))
  (.ret (.w (.a (.int .i64 (.i 1)))) [((.b (.v 0)), (.cells [(.ptr (.v 1) 0), (.int .i64 (.v 3)), (.int .i64 (.v 4)), (.int .i64 (.v 5)), (.map (.v 6)), (.map (.v 8))] 113)), ((.b (.v 1)), (.prop 2)), ((.b (.v 6)), (.prop 7)), ((.b (.v 8)), (.prop 9))])
  (.new
  (.call 76 [(.a (.int .u8 (.i 4))), (.a (.sl (.b (.v 11) 0) (.n 1) (.n 1)))] [((.b (.v 11)), (.cells [(.int .i64 (.v 10))] 3))] [.n, .p, .i] (.w (.a (.ptr (.v 12) 0))) [((.b (.v 12)), (.prop 13)), ((.b (.v 11)), (.cells [(.int .i64 (.v 14))] 3))]
  (.call 77 [(.a (.ptr (.v 12) 0))] [((.b (.v 12)), (.prop 13))] [.a, .n, .n, .p, .p] (.w (.a (.sl (.v 15) (.v 16) (.v 17)))) [((.a 15), (.prop 18)), ((.b (.v 12)), (.prop 19))]
  (.call 75 [(.a (.ptr (.v 0) 0)), (.a (.sl (.v 15) (.v 16) (.v 17)))] [((.b (.v 0)), (.cells [(.ptr (.v 1) 0), (.int .i64 (.v 3)), (.int .i64 (.v 4)), (.int .i64 (.v 5)), (.map (.v 6)), (.map (.v 8))] 113)), ((.b (.v 1)), (.prop 2)), ((.b (.v 6)), (.prop 7)), ((.b (.v 8)), (.prop 9)), ((.a 15), (.prop 18))] [.i, .n, .p, .i, .i, .i, .n, .p, .n, .p, .p] (.w (.a (.int .i64 (.v 20)))) [((.b (.v 0)), (.cells [(.ptr (.v 21) 0), (.int .i64 (.v 23)), (.int .i64 (.v 24)), (.int .i64 (.v 25)), (.map (.v 26)), (.map (.v 28))] 113)), ((.b (.v 21)), (.prop 22)), ((.b (.v 26)), (.prop 27)), ((.b (.v 28)), (.prop 29)), ((.a 15), (.prop 30))]
  (.br (.o1 .not (.o2 .eq (.v 20) (.i 0)))
   (.ret (.w (.a (.int .i64 (.v 20)))) [((.b (.v 0)), (.cells [(.ptr (.v 21) 0), (.int .i64 (.v 23)), (.int .i64 (.v 24)), (.int .i64 (.v 25)), (.map (.v 26)), (.map (.v 28))] 113)), ((.b (.v 21)), (.prop 22)), ((.b (.v 26)), (.prop 27)), ((.b (.v 28)), (.prop 29))])
   (.ret (.w (.a (.int .i64 (.i 0)))) [((.b (.v 0)), (.cells [(.ptr (.v 21) 0), (.int .i64 (.v 10)), (.int .i64 (.v 24)), (.int .i64 (.v 25)), (.map (.v 26)), (.map (.v 28))] 113)), ((.b (.v 21)), (.prop 22)), ((.b (.v 26)), (.prop 27)), ((.b (.v 28)), (.prop 29))]))))))))
theorem tree_uSeal : tree Try.prog { absT := [175, 183], opq := [], hv := [], keep := [103, 104, 73, 74, 95, 70, 71, 20, 38, 40, 106], link := [], ent := [], turn := [(105, [0])], shr := [], vt := [], mkd := [], rlink := [], pty := [], outl := false, stay := [], snk := [] } Try.f65 [(.a (.ptr (.v 0) 0)), (.a (.int .i64 (.v 10)))] [((.b (.v 0)), (.cells [(.ptr (.v 1) 0), (.int .i64 (.v 3)), (.int .i64 (.v 4)), (.int .i64 (.v 5)), (.map (.v 6)), (.map (.v 8))] 113)), ((.b (.v 1)), (.prop 2)), ((.b (.v 6)), (.prop 7)), ((.b (.v 8)), (.prop 9))] 11 = t_uSeal := by kernel_rfl
-- (*tideline/unit.Unit).Promise: ρ := [.n u, .n u_d, .p u_dP, .i u_epoch, .i u_low, .i u_top, .n u_cells, .p u_cellsP, .n u_instances, .p u_instancesP, .i n, .i b_Round, .i b_Who]
def t_uPromise : T :=
(.new
(.new
(.call 73 [(.a (.int .i64 (.v 10))), (.agg [(.int .i64 (.v 11)), (.int .i64 (.v 12))])] [] [.c] (.w (.a (.bool (.v 15)))) []
(.br (.o1 .not (.v 15))
 (.ret (.tup [(.agg [(.int .i64 (.i 0)), (.int .i64 (.i 0))]), (.a (.sl .nil (.n 0) (.n 0))), (.a (.int .i64 (.i 1)))]) [((.b (.v 0)), (.cells [(.ptr (.v 1) 0), (.int .i64 (.v 3)), (.int .i64 (.v 4)), (.int .i64 (.v 5)), (.map (.v 6)), (.map (.v 8))] 113)), ((.b (.v 1)), (.prop 2)), ((.b (.v 6)), (.prop 7)), ((.b (.v 8)), (.prop 9))])
 (.op (.lookup 111 (.tmp 19) (.tmp 20) false) 133 [(19, (.w (.a (.map (.v 8))))), (20, (.w (.a (.int .i64 (.v 10)))))] [((.b (.v 8)), (.prop 9))] [.i, .i, .i, .i, .a, .n, .n, .p, .p] (.w (.agg [(.int .i64 (.v 16)), (.int .i64 (.v 17)), (.int .i64 (.v 18)), (.int .i64 (.v 19)), (.sl (.v 20) (.v 21) (.v 22))])) [((.a 20), (.prop 23)), ((.b (.v 8)), (.prop 24))]
 (.new
 (.call 74 [(.agg [(.int .i64 (.v 11)), (.int .i64 (.v 12))]), (.agg [(.int .i64 (.v 16)), (.int .i64 (.v 17))])] [] [.c] (.w (.a (.bool (.v 26)))) []
 (.br (.v 26)
  (.ret (.tup [(.agg [(.int .i64 (.i 0)), (.int .i64 (.i 0))]), (.a (.sl .nil (.n 0) (.n 0))), (.a (.int .i64 (.i 7)))]) [((.b (.v 0)), (.cells [(.ptr (.v 1) 0), (.int .i64 (.v 3)), (.int .i64 (.v 4)), (.int .i64 (.v 5)), (.map (.v 6)), (.map (.v 8))] 113)), ((.b (.v 1)), (.prop 2)), ((.b (.v 6)), (.prop 7)), ((.b (.v 8)), (.prop 24))])
  (.read (.binOp .neq 34 (.tmp 27) (.tmp 29) 34) 4 [(27, (.w (.agg [(.int .i64 (.v 11)), (.int .i64 (.v 12))]))), (29, (.w (.agg [(.int .i64 (.v 16)), (.int .i64 (.v 17))])))] [] [.c] (.w (.a (.bool (.v 27))))
  (.br (.v 27)
   (.new
   (.call 76 [(.a (.int .u8 (.i 5))), (.a (.sl (.b (.v 28) 0) (.n 3) (.n 3)))] [((.b (.v 28)), (.cells [(.int .i64 (.v 10)), (.int .i64 (.v 11)), (.int .i64 (.v 12))] 3))] [.n, .p, .i, .i, .i] (.w (.a (.ptr (.v 29) 0))) [((.b (.v 29)), (.prop 30)), ((.b (.v 28)), (.cells [(.int .i64 (.v 31)), (.int .i64 (.v 32)), (.int .i64 (.v 33))] 3))]
   (.call 77 [(.a (.ptr (.v 29) 0))] [((.b (.v 29)), (.prop 30))] [.a, .n, .n, .p, .p] (.w (.a (.sl (.v 34) (.v 35) (.v 36)))) [((.a 34), (.prop 37)), ((.b (.v 29)), (.prop 38))]
   (.call 75 [(.a (.ptr (.v 0) 0)), (.a (.sl (.v 34) (.v 35) (.v 36)))] [((.b (.v 0)), (.cells [(.ptr (.v 1) 0), (.int .i64 (.v 3)), (.int .i64 (.v 4)), (.int .i64 (.v 5)), (.map (.v 6)), (.map (.v 8))] 113)), ((.b (.v 1)), (.prop 2)), ((.b (.v 6)), (.prop 7)), ((.b (.v 8)), (.prop 24)), ((.a 34), (.prop 37))] [.i, .n, .p, .i, .i, .i, .n, .p, .n, .p, .p] (.w (.a (.int .i64 (.v 39)))) [((.b (.v 0)), (.cells [(.ptr (.v 40) 0), (.int .i64 (.v 42)), (.int .i64 (.v 43)), (.int .i64 (.v 44)), (.map (.v 45)), (.map (.v 47))] 113)), ((.b (.v 40)), (.prop 41)), ((.b (.v 45)), (.prop 46)), ((.b (.v 47)), (.prop 48)), ((.a 34), (.prop 49))]
   (.br (.o1 .not (.o2 .eq (.v 39) (.i 0)))
    (.ret (.tup [(.agg [(.int .i64 (.i 0)), (.int .i64 (.i 0))]), (.a (.sl .nil (.n 0) (.n 0))), (.a (.int .i64 (.v 39)))]) [((.b (.v 0)), (.cells [(.ptr (.v 40) 0), (.int .i64 (.v 42)), (.int .i64 (.v 43)), (.int .i64 (.v 44)), (.map (.v 45)), (.map (.v 47))] 113)), ((.b (.v 40)), (.prop 41)), ((.b (.v 45)), (.prop 46)), ((.b (.v 47)), (.prop 48))])
    (.call 78 [(.a (.ptr (.v 0) 0)), (.a (.int .i64 (.v 10))), (.agg [(.int .i64 (.v 11)), (.int .i64 (.v 12))])] [((.b (.v 0)), (.cells [(.ptr (.v 40) 0), (.int .i64 (.v 42)), (.int .i64 (.v 43)), (.int .i64 (.v 44)), (.map (.v 45)), (.map (.v 47))] 113)), ((.b (.v 40)), (.prop 41)), ((.b (.v 45)), (.prop 46)), ((.b (.v 47)), (.prop 48))] [.n, .p, .i, .i, .i, .n, .p, .n, .p] (.tup []) [((.b (.v 0)), (.cells [(.ptr (.v 50) 0), (.int .i64 (.v 52)), (.int .i64 (.v 53)), (.int .i64 (.v 54)), (.map (.v 55)), (.map (.v 57))] 113)), ((.b (.v 50)), (.prop 51)), ((.b (.v 55)), (.prop 56)), ((.b (.v 57)), (.prop 58))]
    (.call 72 [(.a (.sl (.v 20) (.v 21) (.v 22)))] [((.a 20), (.prop 23))] [.a, .n, .n, .p, .p] (.w (.a (.sl (.v 59) (.v 60) (.v 61)))) [((.a 59), (.prop 62)), ((.a 20), (.prop 63))]
    (.ret (.tup [(.agg [(.int .i64 (.v 18)), (.int .i64 (.v 19))]), (.a (.sl (.v 59) (.v 60) (.v 61))), (.a (.int .i64 (.i 0)))]) [((.b (.v 0)), (.cells [(.ptr (.v 50) 0), (.int .i64 (.v 52)), (.int .i64 (.v 53)), (.int .i64 (.v 54)), (.map (.v 55)), (.map (.v 57))] 113)), ((.b (.v 50)), (.prop 51)), ((.b (.v 55)), (.prop 56)), ((.b (.v 57)), (.prop 58)), ((.a 59), (.prop 62))]))))))))
   (.call 72 [(.a (.sl (.v 20) (.v 21) (.v 22)))] [((.a 20), (.prop 23)), ((.b (.v 8)), (.prop 24))] [.a, .n, .n, .p, .p, .p] (.w (.a (.sl (.v 28) (.v 29) (.v 30)))) [((.a 28), (.prop 31)), ((.a 20), (.prop 32)), ((.b (.v 8)), (.prop 33))]
   (.ret (.tup [(.agg [(.int .i64 (.v 18)), (.int .i64 (.v 19))]), (.a (.sl (.v 28) (.v 29) (.v 30))), (.a (.int .i64 (.i 0)))]) [((.b (.v 0)), (.cells [(.ptr (.v 1) 0), (.int .i64 (.v 3)), (.int .i64 (.v 4)), (.int .i64 (.v 5)), (.map (.v 6)), (.map (.v 8))] 113)), ((.b (.v 1)), (.prop 2)), ((.b (.v 6)), (.prop 7)), ((.b (.v 8)), (.prop 33)), ((.a 28), (.prop 31))]))))))))))))
theorem tree_uPromise : tree Try.prog { absT := [175, 183], opq := [], hv := [], keep := [103, 104, 73, 74, 95, 70, 71, 20, 38, 40, 106], link := [], ent := [], turn := [(105, [0])], shr := [], vt := [], mkd := [21], rlink := [], pty := [], outl := false, stay := [], snk := [] } Try.f26 [(.a (.ptr (.v 0) 0)), (.a (.int .i64 (.v 10))), (.agg [(.int .i64 (.v 11)), (.int .i64 (.v 12))])] [((.b (.v 0)), (.cells [(.ptr (.v 1) 0), (.int .i64 (.v 3)), (.int .i64 (.v 4)), (.int .i64 (.v 5)), (.map (.v 6)), (.map (.v 8))] 113)), ((.b (.v 1)), (.prop 2)), ((.b (.v 6)), (.prop 7)), ((.b (.v 8)), (.prop 9))] 13 = t_uPromise := by kernel_rfl
-- (*tideline/unit.Unit).Accept: ρ := [.n u, .n u_d, .p u_dP, .i u_epoch, .i u_low, .i u_top, .n u_cells, .p u_cellsP, .n u_instances, .p u_instancesP, .i n, .i b_Round, .i b_Who, .a valuea, .n valuel, .n valuec, .p valueP]
def t_uAccept : T :=
(.new
(.call 73 [(.a (.int .i64 (.v 10))), (.agg [(.int .i64 (.v 11)), (.int .i64 (.v 12))])] [] [.c] (.w (.a (.bool (.v 18)))) []
(.br (.o1 .not (.v 18))
 (.ret (.w (.a (.int .i64 (.i 1)))) [((.b (.v 0)), (.cells [(.ptr (.v 1) 0), (.int .i64 (.v 3)), (.int .i64 (.v 4)), (.int .i64 (.v 5)), (.map (.v 6)), (.map (.v 8))] 113)), ((.b (.v 1)), (.prop 2)), ((.b (.v 6)), (.prop 7)), ((.b (.v 8)), (.prop 9)), ((.a 13), (.prop 16))])
 (.br (.o2 .lt (.i 1000) (.o1 .ofNat (.v 14)))
  (.ret (.w (.a (.int .i64 (.i 1)))) [((.b (.v 0)), (.cells [(.ptr (.v 1) 0), (.int .i64 (.v 3)), (.int .i64 (.v 4)), (.int .i64 (.v 5)), (.map (.v 6)), (.map (.v 8))] 113)), ((.b (.v 1)), (.prop 2)), ((.b (.v 6)), (.prop 7)), ((.b (.v 8)), (.prop 9)), ((.a 13), (.prop 16))])
  (.read (.lookup 111 (.tmp 24) (.tmp 25) false) 133 [(24, (.w (.a (.map (.v 8))))), (25, (.w (.a (.int .i64 (.v 10)))))] [((.b (.v 8)), (.prop 9))] [.i, .i, .i, .i, .a, .n, .n] (.w (.agg [(.int .i64 (.v 19)), (.int .i64 (.v 20)), (.int .i64 (.v 21)), (.int .i64 (.v 22)), (.sl (.v 23) (.v 24) (.v 25))]))
  (.call 74 [(.agg [(.int .i64 (.v 11)), (.int .i64 (.v 12))]), (.agg [(.int .i64 (.v 19)), (.int .i64 (.v 20))])] [] [.c] (.w (.a (.bool (.v 26)))) []
  (.br (.v 26)
   (.ret (.w (.a (.int .i64 (.i 7)))) [((.b (.v 0)), (.cells [(.ptr (.v 1) 0), (.int .i64 (.v 3)), (.int .i64 (.v 4)), (.int .i64 (.v 5)), (.map (.v 6)), (.map (.v 8))] 113)), ((.b (.v 1)), (.prop 2)), ((.b (.v 6)), (.prop 7)), ((.b (.v 8)), (.prop 9)), ((.a 13), (.prop 16))])
   (.new
   (.call 76 [(.a (.int .u8 (.i 6))), (.a (.sl (.b (.v 27) 0) (.n 3) (.n 3)))] [((.b (.v 27)), (.cells [(.int .i64 (.v 10)), (.int .i64 (.v 11)), (.int .i64 (.v 12))] 3))] [.n, .p, .i, .i, .i] (.w (.a (.ptr (.v 28) 0))) [((.b (.v 28)), (.prop 29)), ((.b (.v 27)), (.cells [(.int .i64 (.v 30)), (.int .i64 (.v 31)), (.int .i64 (.v 32))] 3))]
   (.call 82 [(.a (.ptr (.v 28) 0)), (.a (.sl (.v 13) (.v 14) (.v 15)))] [((.b (.v 28)), (.prop 29)), ((.a 13), (.prop 16))] [.p, .p] (.tup []) [((.b (.v 28)), (.prop 33)), ((.a 13), (.prop 34))]
   (.call 77 [(.a (.ptr (.v 28) 0))] [((.b (.v 28)), (.prop 33))] [.a, .n, .n, .p, .p] (.w (.a (.sl (.v 35) (.v 36) (.v 37)))) [((.a 35), (.prop 38)), ((.b (.v 28)), (.prop 39))]
   (.call 75 [(.a (.ptr (.v 0) 0)), (.a (.sl (.v 35) (.v 36) (.v 37)))] [((.b (.v 0)), (.cells [(.ptr (.v 1) 0), (.int .i64 (.v 3)), (.int .i64 (.v 4)), (.int .i64 (.v 5)), (.map (.v 6)), (.map (.v 8))] 113)), ((.b (.v 1)), (.prop 2)), ((.b (.v 6)), (.prop 7)), ((.b (.v 8)), (.prop 9)), ((.a 35), (.prop 38))] [.i, .n, .p, .i, .i, .i, .n, .p, .n, .p, .p] (.w (.a (.int .i64 (.v 40)))) [((.b (.v 0)), (.cells [(.ptr (.v 41) 0), (.int .i64 (.v 43)), (.int .i64 (.v 44)), (.int .i64 (.v 45)), (.map (.v 46)), (.map (.v 48))] 113)), ((.b (.v 41)), (.prop 42)), ((.b (.v 46)), (.prop 47)), ((.b (.v 48)), (.prop 49)), ((.a 35), (.prop 50))]
   (.br (.o1 .not (.o2 .eq (.v 40) (.i 0)))
    (.ret (.w (.a (.int .i64 (.v 40)))) [((.b (.v 0)), (.cells [(.ptr (.v 41) 0), (.int .i64 (.v 43)), (.int .i64 (.v 44)), (.int .i64 (.v 45)), (.map (.v 46)), (.map (.v 48))] 113)), ((.b (.v 41)), (.prop 42)), ((.b (.v 46)), (.prop 47)), ((.b (.v 48)), (.prop 49)), ((.a 13), (.prop 34))])
    (.call 83 [(.a (.ptr (.v 0) 0)), (.a (.int .i64 (.v 10))), (.agg [(.int .i64 (.v 11)), (.int .i64 (.v 12))]), (.a (.sl (.v 13) (.v 14) (.v 15)))] [((.b (.v 0)), (.cells [(.ptr (.v 41) 0), (.int .i64 (.v 43)), (.int .i64 (.v 44)), (.int .i64 (.v 45)), (.map (.v 46)), (.map (.v 48))] 113)), ((.b (.v 41)), (.prop 42)), ((.b (.v 46)), (.prop 47)), ((.b (.v 48)), (.prop 49)), ((.a 13), (.prop 34))] [.n, .p, .i, .i, .i, .n, .p, .n, .p, .p] (.tup []) [((.b (.v 0)), (.cells [(.ptr (.v 51) 0), (.int .i64 (.v 53)), (.int .i64 (.v 54)), (.int .i64 (.v 55)), (.map (.v 56)), (.map (.v 58))] 113)), ((.b (.v 51)), (.prop 52)), ((.b (.v 56)), (.prop 57)), ((.b (.v 58)), (.prop 59)), ((.a 13), (.prop 60))]
    (.ret (.w (.a (.int .i64 (.i 0)))) [((.b (.v 0)), (.cells [(.ptr (.v 51) 0), (.int .i64 (.v 53)), (.int .i64 (.v 54)), (.int .i64 (.v 55)), (.map (.v 56)), (.map (.v 58))] 113)), ((.b (.v 51)), (.prop 52)), ((.b (.v 56)), (.prop 57)), ((.b (.v 58)), (.prop 59)), ((.a 13), (.prop 60))])))))))))))))))
theorem tree_uAccept : tree Try.prog { absT := [175, 183], opq := [], hv := [], keep := [103, 104, 73, 74, 95, 70, 71, 20, 38, 40, 106], link := [], ent := [], turn := [(105, [0])], shr := [], vt := [], mkd := [], rlink := [], pty := [], outl := false, stay := [], snk := [] } Try.f29 [(.a (.ptr (.v 0) 0)), (.a (.int .i64 (.v 10))), (.agg [(.int .i64 (.v 11)), (.int .i64 (.v 12))]), (.a (.sl (.v 13) (.v 14) (.v 15)))] [((.b (.v 0)), (.cells [(.ptr (.v 1) 0), (.int .i64 (.v 3)), (.int .i64 (.v 4)), (.int .i64 (.v 5)), (.map (.v 6)), (.map (.v 8))] 113)), ((.b (.v 1)), (.prop 2)), ((.b (.v 6)), (.prop 7)), ((.b (.v 8)), (.prop 9)), ((.a 13), (.prop 16))] 17 = t_uAccept := by kernel_rfl
end Go.Proofs.Ytmibmjehjagmbaa.RX

/- Contracts of the unit: numbers, pages. No condition. -/
namespace Go.Proofs.Ytmibmjehjagmbaa
set_option linter.unusedSimpArgs false
set_option linter.unusedVariables false
open Go.Proofs.Ytmibmjehjagmbaa RX

def numOk (n : Int) : Bool := decide (0 ≤ n) && decide (n ≤ 2147483647)
def propOk (n r w : Int) : Bool := decide (1 ≤ n) && decide (n ≤ 2147483647) && numOk r && numOk w
def lessB (r w r' w' : Int) : Bool := decide (r < r') || (decide (r = r') && decide (w < w'))
def addrOk (n : Int) : Bool := decide (0 ≤ n) && decide (n ≤ 4294967296)
theorem unum_ok (n : Int) : Tri Try.prog 104 #[.int .i64 n] HP.tt (fun v => HP.and (v = .bool (numOk n)) HP.tt) := by
  refine tri_of_tree (ρ := [.i n]) mixed Try.func104 tree_number ?_
  unfold t_number
  simp only [T.den, E.prop, E.den, RX.look, F1.app, F2.app, Uni.int_i, Uni.nat_n, Uni.bool_c, Uni.str_s, Uni.adr_a, Uni.val_v, Uni.hp_p, hden, cden, V.den, W.den, A.den, BR.den, SA.den, FV.den, capV, exs, exP, allP, Cur.app, List.map_cons, List.map_nil, List.cons_append, List.nil_append, List.drop_succ_cons, List.drop_zero, List.length_cons, List.length_nil, Nat.zero_add, Nat.reduceAdd, Int.neg_neg, Bool.not_not, List.append_nil, Nat.add_zero, List.getElem?_cons_zero, List.getElem?_cons_succ, Decidable.not_not]
  refine ⟨fun h => .of fun R h' _ => ⟨?_, trivial⟩, fun h => .of fun R h' _ => ⟨?_, trivial⟩⟩
  · simp [numOk, h]; congr
  · simp [numOk, h]
theorem uprop_ok (n r w : Int) : Tri Try.prog 73 #[.int .i64 n, .agg #[.int .i64 r, .int .i64 w]] HP.tt (fun v => HP.and (v = .bool (propOk n r w)) HP.tt) := by
  refine tri_of_tree (ρ := [.i n, .i r, .i w]) mixed Try.func73 tree_proposal ?_
  unfold t_proposal
  simp only [T.den, E.prop, E.den, RX.look, F1.app, F2.app, Uni.int_i, Uni.nat_n, Uni.bool_c, Uni.str_s, Uni.adr_a, Uni.val_v, Uni.hp_p, hden, cden, V.den, W.den, A.den, BR.den, SA.den, FV.den, capV, exs, exP, allP, Cur.app, List.map_cons, List.map_nil, List.cons_append, List.nil_append, List.drop_succ_cons, List.drop_zero, List.length_cons, List.length_nil, Nat.zero_add, Nat.reduceAdd, Int.neg_neg, Bool.not_not, List.append_nil, Nat.add_zero, List.getElem?_cons_zero, List.getElem?_cons_succ, Decidable.not_not]
  refine fun x => ⟨fun h1 => ⟨fun h2 => ?_, fun h2 => .of fun R h' _ => ⟨?_, trivial⟩⟩, fun h1 => .of fun R h' _ => ⟨?_, trivial⟩⟩
  · refine (unum_ok r).weak (fun _ _ h => h) ?_
    rintro v R h ⟨rfl, H⟩
    refine ⟨_, rfl, ⟨fun h3 => ?_, fun h3 => .of fun R h' _ => ⟨?_, trivial⟩⟩, H⟩
    · refine (unum_ok w).weak (fun _ _ h => h) ?_
      rintro v R h ⟨rfl, H⟩
      refine ⟨_, rfl, .of fun R h' _ => ⟨?_, trivial⟩, H⟩
      simp [propOk, h1, h2, h3]
    · simp only [Bool.not_eq_true] at h3; simp [propOk, h3]
  · simp [propOk, h2]
  · simp [propOk, h1]
theorem uless_ok (r w r' w' : Int) : Tri Try.prog 74 #[.agg #[.int .i64 r, .int .i64 w], .agg #[.int .i64 r', .int .i64 w']] HP.tt (fun v => HP.and (v = .bool (lessB r w r' w')) HP.tt) := by
  refine tri_of_tree (ρ := [.i r, .i w, .i r', .i w']) mixed Try.func74 tree_less ?_
  unfold t_less
  simp only [T.den, E.prop, E.den, RX.look, F1.app, F2.app, Uni.int_i, Uni.nat_n, Uni.bool_c, Uni.str_s, Uni.adr_a, Uni.val_v, Uni.hp_p, hden, cden, V.den, W.den, A.den, BR.den, SA.den, FV.den, capV, exs, exP, allP, Cur.app, List.map_cons, List.map_nil, List.cons_append, List.nil_append, List.drop_succ_cons, List.drop_zero, List.length_cons, List.length_nil, Nat.zero_add, Nat.reduceAdd, Int.neg_neg, Bool.not_not, List.append_nil, Nat.add_zero, List.getElem?_cons_zero, List.getElem?_cons_succ, Decidable.not_not]
  refine fun x y => ⟨fun h1 => .of fun R h' _ => ⟨?_, trivial⟩, fun h1 => ⟨fun h2 => .of fun R h' _ => ⟨?_, trivial⟩, fun h2 => .of fun R h' _ => ⟨?_, trivial⟩⟩⟩
  · simp [lessB, h1]
  · simp [lessB, h1, h2]
  · simp [lessB, h1, h2]
theorem uaddr_ok (n : Int) : Tri Try.prog 103 #[.int .i64 n] HP.tt (fun v => HP.and (v = .bool (addrOk n)) HP.tt) := by
  refine tri_of_tree (ρ := [.i n]) mixed Try.func103 tree_address ?_
  unfold t_address
  simp only [T.den, E.prop, E.den, RX.look, F1.app, F2.app, Uni.int_i, Uni.nat_n, Uni.bool_c, Uni.str_s, Uni.adr_a, Uni.val_v, Uni.hp_p, hden, cden, V.den, W.den, A.den, BR.den, SA.den, FV.den, capV, exs, exP, allP, Cur.app, List.map_cons, List.map_nil, List.cons_append, List.nil_append, List.drop_succ_cons, List.drop_zero, List.length_cons, List.length_nil, Nat.zero_add, Nat.reduceAdd, Int.neg_neg, Bool.not_not, List.append_nil, Nat.add_zero, List.getElem?_cons_zero, List.getElem?_cons_succ, Decidable.not_not]
  refine ⟨fun h => .of fun R h' _ => ⟨?_, trivial⟩, fun h => .of fun R h' _ => ⟨?_, trivial⟩⟩
  · simp [addrOk, h]; congr
  · simp [addrOk, h]
def standB (what : Int) (n : Nat) : Bool := if what = 1 then decide ((n : Int) ≤ 65536) else if what = 2 then decide ((n : Int) = 0) else false
theorem ustand_ok (what : Int) (a : Option Addr) (n c : Nat) (S : HP) : Tri Try.prog 95 #[.agg #[.int .i64 what, .slice a n c]] S (fun v => HP.and (v = .bool (standB what n)) S) := by
  refine tri_of_tree (ρ := [.i what, .a a, .n n, .n c, .p S]) mixed Try.func95 tree_standing ?_
  unfold t_standing
  simp only [T.den, E.prop, E.den, RX.look, F1.app, F2.app, Uni.int_i, Uni.nat_n, Uni.bool_c, Uni.str_s, Uni.adr_a, Uni.val_v, Uni.hp_p, hden, cden, V.den, W.den, A.den, BR.den, SA.den, FV.den, capV, exs, exP, allP, Cur.app, List.map_cons, List.map_nil, List.cons_append, List.nil_append, List.drop_succ_cons, List.drop_zero, List.length_cons, List.length_nil, Nat.zero_add, Nat.reduceAdd, Int.neg_neg, Bool.not_not, List.append_nil, Nat.add_zero, List.getElem?_cons_zero, List.getElem?_cons_succ, Decidable.not_not]
  refine fun x => ⟨fun h1 => .of fun R h' H => ⟨?_, H⟩, fun h1 => ⟨fun h2 => .of fun R h' H => ⟨?_, H⟩, fun h2 => .of fun R h' H => ⟨?_, H⟩⟩⟩
  · simp [standB, h1]
  · simp [standB, h2]
  · simp [standB, h1, h2]
theorem wrap_u64 (x : Int) : 0 ≤ IntKind.u64.wrap x := by
  show (0 : Int) ≤ x % (2 ^ 64)
  exact Int.emod_nonneg _ (by decide)
theorem Tri.pre {P : Program} {f : FuncId} {args : Array Value} {A A' : HP} {B : Value → HP} (t : Tri P f args A B) (e : HP.ent A' A) : Tri P f args A' B :=
  t.conseq (K := HP.tt) (e.trans (.of fun _ _ => HP.sep_tt)) fun _ => .of fun _ _ => HP.sep_left
/-- A page: its kind, its numbers. -/
def pageL (k : UInt8) (ns : List Int) : List UInt8 := k :: ns.flatMap fun n => beN (IntKind.u64.wrap n).toNat 8
theorem pageL_len (k : UInt8) (ns : List Int) : (pageL k ns).length = 1 + 8 * ns.length := by
  unfold pageL
  rw [List.length_cons]
  induction ns with
  | nil => rfl
  | cons x r ih => rw [List.flatMap_cons, List.length_append, beN_len, List.length_cons]; omega
theorem upage_ok (k : UInt8) (a : Option Addr) (n c : Nat) (ns : List Int) (S : HP) (hr : Rd S a (ns.map fun x => .int .i64 x)) (hl : ns.length = n) (ha : n ≠ 0 → a.isSome = true) (hn : n ≤ 1000) :
    Tri Try.prog 76 #[u8v k, .slice a n c] S (fun v => HP.ex fun b => HP.and (v = .pointer (some ⟨b, 0, none⟩)) (HP.sep S (WRep b (pageL k ns)))) := by
  refine tri_of_tree (ρ := [.i k.toNat, .a a, .n n, .n c, .p S]) mixed Try.func76 tree_page ?_
  unfold t_page
  simp only [T.den, E.prop, E.den, RX.look, F1.app, F2.app, Uni.int_i, Uni.nat_n, Uni.bool_c, Uni.str_s, Uni.adr_a, Uni.val_v, Uni.hp_p, hden, cden, V.den, W.den, A.den, BR.den, SA.den, FV.den, capV, exs, exP, allP, Cur.app, List.map_cons, List.map_nil, List.cons_append, List.nil_append, List.drop_succ_cons, List.drop_zero, List.length_cons, List.length_nil, Nat.zero_add, Nat.reduceAdd, Int.neg_neg, Bool.not_not, List.append_nil, Nat.add_zero, List.getElem?_cons_zero, List.getElem?_cons_succ, Decidable.not_not]
  intro b
  refine (wByte_ok b [] k (by simp)).weak (fun R h H => ⟨none, 0, HP.sep_mono (HP.sep_tt H) (fun _ h => h) fun y _ => OwC.nil _ _ R y⟩) ?_
  rintro v R h ⟨rfl, H⟩
  refine ⟨WRep b [k], rfl, ⟨fun x P => ∃ j : Nat, x = j ∧ j ≤ n ∧ HP.ent P (WRep b (pageL k (ns.take j))), fun x _ => n - x.toNat, ⟨0, rfl, Nat.zero_le _, .refl _⟩, ?_⟩, H⟩
  rintro _ P ⟨j, rfl, hj, hP⟩
  refine ⟨fun hlt => ⟨by omega, fun _ => ⟨ha (by omega), fun _ => ?_⟩⟩, fun hge => ?_⟩
  · have hg : ns[j]? = some (ns[j]'(by omega)) := List.getElem?_eq_getElem (by omega)
    refine ⟨ns[j]'(by omega), ?_, ?_⟩
    · have := load1_ok (t := 3) (d := .int .i64) (by kernel_rfl) (by kernel_rfl) (by kernel_rfl) hr (k := j) (off := 0) (v := .int .i64 (ns[j]'(by omega))) (by rw [Nat.add_zero, List.getElem?_map, hg]; rfl)
      rw [semOf_load]
      simp only [T.den, E.prop, E.den, RX.look, F1.app, F2.app, Uni.int_i, Uni.nat_n, Uni.bool_c, Uni.str_s, Uni.adr_a, Uni.val_v, Uni.hp_p, hden, cden, V.den, W.den, A.den, BR.den, SA.den, FV.den, capV, exs, exP, allP, Cur.app, List.map_cons, List.map_nil, List.cons_append, List.nil_append, List.drop_succ_cons, List.drop_zero, List.length_cons, List.length_nil, Nat.zero_add, Nat.reduceAdd, Int.neg_neg, Bool.not_not, List.append_nil, Nat.add_zero, List.getElem?_cons_zero, List.getElem?_cons_succ, Decidable.not_not]
      rw [Int.toNat_natCast, Nat.mul_one]
      exact this
    · have hw : IntKind.u64.wrap (ns[j]'(by omega)) = ((IntKind.u64.wrap (ns[j]'(by omega))).toNat : Int) := (Int.toNat_of_nonneg (wrap_u64 _)).symm
      rw [hw]
      refine ((wNumber_ok b (pageL k (ns.take j)) (IntKind.u64.wrap (ns[j]'(by omega))).toNat 8 (Nat.le_refl _) (by rw [pageL_len, List.length_take]; omega)).pre hP).weak (fun _ _ h => h) ?_
      rintro v R h ⟨rfl, H⟩
      refine ⟨_, rfl, ⟨inI64 _ (by omega) (by omega), fun _ => ⟨⟨j + 1, by omega, by omega, .refl _⟩, by dsimp only; omega⟩⟩, ?_⟩
      have e : pageL k (ns.take (j + 1)) = pageL k (ns.take j) ++ beN (IntKind.u64.wrap (ns[j]'(by omega))).toNat 8 := by
        have : ns.take (j + 1) = ns.take j ++ [ns[j]'(by omega)] := by rw [List.take_add_one, hg]; rfl
        rw [this]
        simp only [pageL, List.flatMap_append, List.flatMap_cons, List.flatMap_nil, List.append_nil, List.cons_append]
      rw [e]
      exact H
  · have : j = n := by omega
    subst this
    rw [List.take_of_length_le (by omega)] at hP
    exact ((HP.ent.refl _).sep2 hP).trans (.of fun R h H => ⟨b, rfl, H⟩)
/-- What is kept of a cell. -/
structure CellS where
  what : Int
  data : List UInt8
def cellL (at' : Int) (x : CellS) : List UInt8 := if x.what = 2 then pageL 2 [at'] else pageL 1 [at'] ++ beN x.data.length 4 ++ x.data
theorem ucellPage_ok (at' what : Int) (a : Option Addr) (n c : Nat) (d : List UInt8) (S : HP) (hr : RdL S a n (d.map u8v)) (hl : d.length = n) (hn : n ≤ 100000000) (ha : n ≠ 0 → a.isSome = true) :
    Tri Try.prog 96 #[.int .i64 at', .agg #[.int .i64 what, .slice a n c]] S (fun v => HP.ex fun a' => HP.ex fun c' => HP.and (v = .slice a' (cellL at' ⟨what, d⟩).length c') (HP.sep S (OwB a' (cellL at' ⟨what, d⟩).length c' (cellL at' ⟨what, d⟩)))) := by
  refine tri_of_tree (ρ := [.i at', .i what, .a a, .n n, .n c, .p S]) mixed Try.func96 tree_cellPage ?_
  unfold t_cellPage
  simp only [T.den, E.prop, E.den, RX.look, F1.app, F2.app, Uni.int_i, Uni.nat_n, Uni.bool_c, Uni.str_s, Uni.adr_a, Uni.val_v, Uni.hp_p, hden, cden, V.den, W.den, A.den, BR.den, SA.den, FV.den, capV, exs, exP, allP, Cur.app, List.map_cons, List.map_nil, List.cons_append, List.nil_append, List.drop_succ_cons, List.drop_zero, List.length_cons, List.length_nil, Nat.zero_add, Nat.reduceAdd, Int.neg_neg, Bool.not_not, List.append_nil, Nat.add_zero, List.getElem?_cons_zero, List.getElem?_cons_succ, Decidable.not_not]
  have rd1 : ∀ y, Rd (HP.one y (.cells #[.int .i64 at'] 3)) (some ⟨y, 0, none⟩) ([at'].map fun x => .int .i64 x) := fun y => one_rd y #[.int .i64 at'] _
  refine fun x => ⟨fun hw y => ?_, fun hw y => ?_⟩
  · refine (upage_ok 2 (some ⟨y, 0, none⟩) 1 1 [at'] _ (rd1 y) rfl (fun _ => rfl) (by omega)).weak (fun _ _ h => h) ?_
    rintro v R h ⟨b, rfl, H⟩
    refine ⟨b, WRep b (pageL 2 [at']), at', rfl, ?_, HP.sep_comm H⟩
    refine (wOut_ok b (pageL 2 [at']) (by rw [pageL_len]; simp)).weak (fun _ _ h => h) ?_
    rintro v R h ⟨a', c', rfl, H⟩
    have e : cellL at' ⟨what, d⟩ = pageL 2 [at'] := if_pos hw
    rw [e]
    exact ⟨a', _, c', OwB a' (pageL 2 [at']).length c' (pageL 2 [at']), _, rfl, .of fun R h H => ⟨a', c', rfl, H⟩, HP.sep_comm H⟩
  · refine (upage_ok 1 (some ⟨y, 0, none⟩) 1 1 [at'] _ (rd1 y) rfl (fun _ => rfl) (by omega)).weak (fun _ _ h => h) ?_
    rintro v R h ⟨b, rfl, H⟩
    refine ⟨b, WRep b (pageL 1 [at']), at', rfl, ?_, HP.sep_comm H⟩
    refine (wBytes_ok b (pageL 1 [at']) a n c d S hr hl ha (by rw [pageL_len]; simp only [List.length_cons, List.length_nil]; omega)).weak (fun _ _ h => h) ?_
    rintro v R h ⟨rfl, H⟩
    refine ⟨_, S, rfl, ?_, H⟩
    refine (wOut_ok b _ (by rw [List.length_append, List.length_append, pageL_len, beN_len]; simp only [List.length_cons, List.length_nil]; omega)).weak (fun _ _ h => h) ?_
    rintro v R h ⟨a', c', rfl, H⟩
    have e : cellL at' ⟨what, d⟩ = pageL 1 [at'] ++ beN n 4 ++ d := by simp only [cellL]; rw [if_neg hw, hl]
    rw [e]
    exact ⟨a', _, c', OwB a' _ c' _, _, rfl, .of fun R h H => ⟨a', c', rfl, H⟩, HP.sep_comm H⟩
end Go.Proofs.Ytmibmjehjagmbaa
