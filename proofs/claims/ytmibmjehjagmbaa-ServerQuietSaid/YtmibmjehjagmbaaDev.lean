/- Contracts of the device. No condition. -/
import Derived.Test.YtmibmjehjagmbaaRdr
import Derived.Test.YtmibmjehjagmbaaTrDev
namespace Go.Proofs.Ytmibmjehjagmbaa
set_option linter.unusedSimpArgs false
set_option linter.unusedVariables false
open Go.Proofs.Ytmibmjehjagmbaa RX

/-- A page: what it is (0 empty, 1 whole, 2 torn), and its bytes. -/
structure Pg where
  is : Int
  data : List UInt8
structure PgRec where
  is : Int
  a : Option Addr
  n : Nat
  c : Nat
def PgRec.vals (x : PgRec) : List Value := [.int .i64 x.is, .slice x.a x.n x.c]
def pgCells (xs : List PgRec) : List Value := xs.flatMap PgRec.vals
/-- The bytes of the pages never turn. -/
def AllD : List PgRec → List Pg → HP
  | [], [] => HP.tt
  | x :: xs, p :: ps => HP.and (x.is = p.is ∧ x.n = p.data.length ∧ p.data.length ≤ 140737488355328) (HP.sep (RoB x.a x.n p.data) (AllD xs ps))
  | _, _ => HP.pure False
theorem AllD.any {R : PH} : ∀ {xs : List PgRec} {ps : List Pg} {h h' : PH}, (AllD xs ps).p R h → (AllD xs ps).p R h'
  | [], [], _, _, _ => trivial
  | _ :: _, _ :: _, _, h', ⟨q, H⟩ => ⟨q, RoC.join (HP.sep_left H) (AllD.any (h' := h') (HP.sep_right H))⟩
  | [], _ :: _, _, _, H => H
  | _ :: _, [], _, _, H => H
theorem AllD.len {R h : PH} : ∀ {xs : List PgRec} {ps : List Pg}, (AllD xs ps).p R h → xs.length = ps.length
  | [], [], _ => rfl
  | x :: xs, p :: ps, ⟨_, H⟩ => by simp [AllD.len (HP.sep_right H)]
  | [], _ :: _, H => H.elim
  | _ :: _, [], H => H.elim
theorem AllD.snoc {R h : PH} {x : PgRec} {p : Pg} (hx : x.is = p.is ∧ x.n = p.data.length ∧ p.data.length ≤ 140737488355328) (hr : (RoB x.a x.n p.data).p R h) : ∀ {xs : List PgRec} {ps : List Pg}, (AllD xs ps).p R h → (AllD (xs ++ [x]) (ps ++ [p])).p R h
  | [], [], _ => ⟨hx, RoC.join hr (trivial : HP.tt.p R h)⟩
  | _ :: _, _ :: _, ⟨q, H⟩ => ⟨q, RoC.join (HP.sep_left H) (AllD.snoc hx hr (HP.sep_right H) |> AllD.any (h' := h))⟩
  | [], _ :: _, H => H.elim
  | _ :: _, [], H => H.elim
theorem AllD.get {R h : PH} : ∀ {xs : List PgRec} {ps : List Pg} (i : Nat) {p : Pg}, (AllD xs ps).p R h → ps[i]? = some p → ∃ x, xs[i]? = some x ∧ x.is = p.is ∧ x.n = p.data.length ∧ (RoB x.a x.n p.data).p R h
  | [], [], i, p, _, hp => by simp at hp
  | x :: xs, q :: ps, 0, p, ⟨h1, H⟩, hp => by simp at hp; subst hp; exact ⟨x, rfl, h1.1, h1.2.1, HP.sep_left H⟩
  | x :: xs, q :: ps, i + 1, p, ⟨h1, H⟩, hp => by
    obtain ⟨y, q1, q2, q3, q4⟩ := AllD.get (h := h) i (AllD.any (HP.sep_right H)) (by simpa using hp)
    exact ⟨y, by simpa using q1, q2, q3, q4⟩
  | [], _ :: _, _, _, H, _ => H.elim
  | _ :: _, [], _, _, H, _ => H.elim
theorem pgCells_len (xs : List PgRec) : (pgCells xs).length = xs.length * 2 := by
  induction xs with
  | nil => rfl
  | cons x r ih => simp only [pgCells, List.flatMap_cons, List.length_append, List.length_cons] at ih ⊢; rw [ih]; simp [PgRec.vals]; omega

def DInv (room : Int) (ps : List Pg) (lasts : Nat) : Prop := 0 ≤ room ∧ room ≤ 65536 ∧ (ps.length : Int) ≤ room ∧ lasts ≤ ps.length
def DRep (b : Nat) (room : Int) (ps : List Pg) (lasts : Nat) : HP := HP.ex fun a => HP.ex fun c => HP.ex fun xs => HP.and (DInv room ps lasts ∧ xs.length = ps.length) (HP.sep (HP.one b (.cells #[.int .i64 room, .slice a ps.length c, .int .i64 lasts] 108)) (HP.sep (OwC 110 2 a ps.length c (pgCells xs)) (AllD xs ps)))
/-- .. as the code has it: one part for the pages. -/
theorem DRep.tri {f : FuncId} {args : Array Value} {b : Nat} {room : Int} {ps : List Pg} {lasts : Nat} {B : Value → HP}
    (t : ∀ a c xs, DInv room ps lasts → xs.length = ps.length → Tri Try.prog f args (HP.sep (HP.one b (.cells #[.int .i64 room, .slice a ps.length c, .int .i64 lasts] 108)) (HP.sep (OwC 110 2 a ps.length c (pgCells xs)) (AllD xs ps))) B) :
    Tri Try.prog f args (DRep b room ps lasts) B := Tri.ex fun a => Tri.ex fun c => Tri.ex fun xs => Tri.pure fun h => t a c xs h.1 h.2
theorem dFree_ok (b : Nat) (room : Int) (a : Option Addr) (n c : Nat) (S : HP) (lasts : Int) (h1 : -100000 ≤ room - n) (h2 : room - n ≤ 100000) :
    Tri Try.prog 86 #[.pointer (some ⟨b, 0, none⟩)] (HP.sep (HP.one b (.cells #[.int .i64 room, .slice a n c, .int .i64 lasts] 108)) S)
      (fun v => HP.and (v = .int .i64 (room - n)) (HP.sep (HP.one b (.cells #[.int .i64 room, .slice a n c, .int .i64 lasts] 108)) S)) := by
  refine tri_of_tree (ρ := [.n b, .i room, .a a, .n n, .n c, .p S, .i lasts]) mixed Try.func86 tree_dFree ?_
  unfold t_dFree
  simp only [T.den, E.prop, E.den, RX.look, F1.app, F2.app, Uni.int_i, Uni.nat_n, Uni.bool_c, Uni.str_s, Uni.adr_a, Uni.val_v, Uni.hp_p, hden, cden, V.den, W.den, A.den, BR.den, SA.den, FV.den, capV, exs, exP, allP, Cur.app, List.map_cons, List.map_nil, List.cons_append, List.nil_append, List.drop_succ_cons, List.drop_zero, List.length_cons, List.length_nil, Nat.zero_add, Nat.reduceAdd, Int.neg_neg, Bool.not_not, List.append_nil, Nat.add_zero, List.getElem?_cons_zero, List.getElem?_cons_succ, Decidable.not_not]
  exact ⟨inI64 _ (by omega) (by omega), fun _ => .of fun _ _ H => ⟨trivial, H⟩⟩
theorem dNew_ok (n : Int) (h1 : 1 ≤ n) (h2 : n ≤ 65536) : Tri Try.prog 23 #[.int .i64 n] HP.tt (fun v => HP.ex fun b => HP.and (v = .tuple #[.pointer (some ⟨b, 0, none⟩), .int .i64 0]) (DRep b n [] 0)) := by
  refine tri_of_tree (ρ := [.i n]) mixed Try.func23 tree_dNew ?_
  unfold t_dNew
  simp only [T.den, E.prop, E.den, RX.look, F1.app, F2.app, Uni.int_i, Uni.nat_n, Uni.bool_c, Uni.str_s, Uni.adr_a, Uni.val_v, Uni.hp_p, hden, cden, V.den, W.den, A.den, BR.den, SA.den, FV.den, capV, exs, exP, allP, Cur.app, List.map_cons, List.map_nil, List.cons_append, List.nil_append, List.drop_succ_cons, List.drop_zero, List.length_cons, List.length_nil, Nat.zero_add, Nat.reduceAdd, Int.neg_neg, Bool.not_not, List.append_nil, Nat.add_zero, List.getElem?_cons_zero, List.getElem?_cons_succ, Decidable.not_not]
  refine ⟨fun h => absurd h (by omega), fun _ => ⟨fun h => absurd h (by omega), fun _ x => .of fun R h H => ?_⟩⟩
  exact ⟨x, rfl, none, 0, [], ⟨⟨by omega, by omega, by simp; omega, by simp⟩, rfl⟩, HP.sep_mono (HP.sep_tt H) (fun _ h => h) fun y _ => HP.sep_tt (OwC.nil _ _ R y)⟩
theorem dSyncRaw_ok (b : Nat) (room : Int) (a : Option Addr) (n c : Nat) (lasts : Int) (S : HP) : Tri Try.prog 58 #[.pointer (some ⟨b, 0, none⟩)] (HP.sep (HP.one b (.cells #[.int .i64 room, .slice a n c, .int .i64 lasts] 108)) S)
    (fun v => HP.and (v = .tuple #[]) (HP.sep (HP.one b (.cells #[.int .i64 room, .slice a n c, .int .i64 n] 108)) S)) := by
  refine tri_of_tree (ρ := [.n b, .i room, .a a, .n n, .n c, .p S, .i lasts]) mixed Try.func58 tree_dSync ?_
  unfold t_dSync
  simp only [T.den, E.prop, E.den, RX.look, F1.app, F2.app, Uni.int_i, Uni.nat_n, Uni.bool_c, Uni.str_s, Uni.adr_a, Uni.val_v, Uni.hp_p, hden, cden, V.den, W.den, A.den, BR.den, SA.den, FV.den, capV, exs, exP, allP, Cur.app, List.map_cons, List.map_nil, List.cons_append, List.nil_append, List.drop_succ_cons, List.drop_zero, List.length_cons, List.length_nil, Nat.zero_add, Nat.reduceAdd, Int.neg_neg, Bool.not_not, List.append_nil, Nat.add_zero, List.getElem?_cons_zero, List.getElem?_cons_succ, Decidable.not_not]
  exact .of fun R h H => ⟨trivial, H⟩
theorem dSync_ok (b : Nat) (room : Int) (ps : List Pg) (lasts : Nat) : Tri Try.prog 58 #[.pointer (some ⟨b, 0, none⟩)] (DRep b room ps lasts) (fun v => HP.and (v = .tuple #[]) (DRep b room ps ps.length)) :=
  DRep.tri fun a c xs hI hx => (dSyncRaw_ok b room a ps.length c lasts _).weak (fun _ _ h => h) fun v R h ⟨e, H⟩ => ⟨e, a, c, xs, ⟨⟨hI.1, hI.2.1, hI.2.2.1, Nat.le_refl _⟩, hx⟩, H⟩
theorem infoP : (Try.prog.info? 110).map (fun i => (i.zero, i.size, i.bytes)) = some (some (.agg #[.int .i64 0, .slice none 0 0]), 2, 32) := by kernel_rfl
theorem undP : Try.prog.underlying 106 = some (.slice 110) := by kernel_rfl
theorem pgCells_one (xs : List PgRec) : ∀ u ∈ pgCells xs, u.oneCell' = true := fun u hu => by
  obtain ⟨x, _, hx⟩ := List.mem_flatMap.1 hu
  simp only [PgRec.vals, List.mem_cons, List.not_mem_nil, or_false] at hx
  rcases hx with rfl | rfl <;> rfl
/-- Write a page behind the others. -/
def putPg (room : Int) (ps : List Pg) (p : Pg) : Int × List Pg := if room = ps.length then (4, ps) else (0, ps ++ [p])
theorem dAppend_ok (b : Nat) (room : Int) (ps : List Pg) (lasts : Nat) (a : Option Addr) (n c : Nat) (l : List UInt8) (S : HP) (hr : RdL S a n (l.map u8v)) (hl : l.length = n) (hb : n ≤ 140737488355328) :
    Tri Try.prog 35 #[.pointer (some ⟨b, 0, none⟩), .slice a n c] (HP.sep (DRep b room ps lasts) S) (fun v => HP.and (v = .int .i64 (putPg room ps ⟨1, l⟩).1) (HP.sep (DRep b room (putPg room ps ⟨1, l⟩).2 lasts) S)) := by
  refine (Tri.ex (A := fun da => HP.ex fun dc => HP.ex fun xs => HP.and (DInv room ps lasts ∧ xs.length = ps.length) (HP.sep (HP.one b (.cells #[.int .i64 room, .slice da ps.length dc, .int .i64 lasts] 108)) (HP.sep (HP.sep (OwC 110 2 da ps.length dc (pgCells xs)) (AllD xs ps)) S)))
    fun da => Tri.ex fun dc => Tri.ex fun xs => Tri.pure fun hI => ?_).weak (fun R h ⟨h1, h2, d, l1, l2, ⟨da, dc, xs, hI, H⟩, hS⟩ => ⟨da, dc, xs, hI, HP.sep_assoc ⟨h1, h2, d, l1, l2, H, hS⟩⟩) fun _ _ _ h => h
  obtain ⟨⟨i1, i2, i3, i4⟩, hxl⟩ := hI
  refine tri_of_tree (ρ := [.n b, .i room, .a da, .n ps.length, .n dc, .p (HP.sep (OwC 110 2 da ps.length dc (pgCells xs)) (AllD xs ps)), .i lasts, .a a, .n n, .n c, .p S]) mixed Try.func35 tree_dAppend ?_
  unfold t_dAppend
  simp only [T.den, E.prop, E.den, RX.look, F1.app, F2.app, Uni.int_i, Uni.nat_n, Uni.bool_c, Uni.str_s, Uni.adr_a, Uni.val_v, Uni.hp_p, hden, cden, V.den, W.den, A.den, BR.den, SA.den, FV.den, capV, exs, exP, allP, Cur.app, List.map_cons, List.map_nil, List.cons_append, List.nil_append, List.drop_succ_cons, List.drop_zero, List.length_cons, List.length_nil, Nat.zero_add, Nat.reduceAdd, Int.neg_neg, Bool.not_not, List.append_nil, Nat.add_zero, List.getElem?_cons_zero, List.getElem?_cons_succ, Decidable.not_not]
  refine (dFree_ok b room da ps.length dc _ lasts (by omega) (by omega)).weak (fun _ _ h => h) ?_
  rintro v R h ⟨rfl, H⟩
  refine ⟨_, rfl, ⟨fun hz => .of fun R h H => ?_, fun hz => ?_⟩, H⟩
  · have e : putPg room ps ⟨1, l⟩ = (4, ps) := if_pos (by omega)
    rw [e]
    exact ⟨rfl, HP.sep_mono (HP.sep_assoc' H) (fun y hy => ⟨da, dc, xs, ⟨⟨i1, i2, i3, i4⟩, hxl⟩, hy⟩) fun _ h => h⟩
  · have e : putPg room ps ⟨1, l⟩ = (0, ps ++ [⟨1, l⟩]) := if_neg (by omega)
    rw [e]
    refine (cloneR_ok S a n c l hr hl hb).weak (fun _ _ h => h) ?_
    rintro v R h ⟨a', c', rfl, H⟩
    refine ⟨a', n, c', RoB a' n l, S, rfl, fun y => ?_, H⟩
    rw [semOf_append (by decide)]
    simp only [T.den, E.prop, E.den, RX.look, F1.app, F2.app, Uni.int_i, Uni.nat_n, Uni.bool_c, Uni.str_s, Uni.adr_a, Uni.val_v, Uni.hp_p, hden, cden, V.den, W.den, A.den, BR.den, SA.den, FV.den, capV, exs, exP, allP, Cur.app, List.map_cons, List.map_nil, List.cons_append, List.nil_append, List.drop_succ_cons, List.drop_zero, List.length_cons, List.length_nil, Nat.zero_add, Nat.reduceAdd, Int.neg_neg, Bool.not_not, List.append_nil, Nat.add_zero, List.getElem?_cons_zero, List.getElem?_cons_succ, Decidable.not_not]
    obtain ⟨i, hi, z1, z2, z3⟩ := info_parts infoP
    have happ := append_ok 106 106 110 i _ undP hi z1 (by rw [z2]; rfl) (by omega) da ps.length dc (pgCells xs) (HP.sep (AllD xs ps) (HP.sep (HP.one y (.cells #[.int .i64 1, .slice a' n c'] 110)) (RoB a' n l))) ⟨y, 0, none⟩ 1 1 (PgRec.vals ⟨1, a', n, c'⟩) ((one_rd y _ _).left.right) (by rw [z2]; rfl) (fun u hu => pgCells_one [⟨1, a', n, c'⟩] u (by simpa [pgCells] using hu)) (by unfold maxLen; omega) (by rw [z3]; omega)
    rw [z2] at happ
    refine happ.weak (fun R h H => HP.sep_assoc H) ?_
    rintro v R h ⟨a2, c2, rfl, H⟩
    have hcells : pgCells xs ++ PgRec.vals ⟨1, a', n, c'⟩ = pgCells (xs ++ [⟨1, a', n, c'⟩]) := by simp [pgCells]
    rw [hcells] at H
    refine ⟨a2, _, c2, HP.sep (OwC 110 2 a2 (ps.length + 1) c2 (pgCells (xs ++ [⟨1, a', n, c'⟩]))) (AllD (xs ++ [⟨1, a', n, c'⟩]) (ps ++ [⟨1, l⟩])), rfl, .of fun R h H => ⟨trivial, ?_⟩, ?_⟩
    · have hlen : ps.length + 1 = (ps ++ [(⟨1, l⟩ : Pg)]).length := by simp
      rw [hlen] at H
      refine HP.sep_mono (HP.sep_assoc' H) (fun y hy => ⟨a2, c2, _, ⟨⟨i1, i2, by simp; omega, by simp; omega⟩, by simp [hxl]⟩, hy⟩) fun _ h => h
    · have hall := HP.sep_left (HP.sep_right H)
      have hro := HP.sep_right (HP.sep_right (HP.sep_right H))
      have hnew : ∀ z, (AllD (xs ++ [⟨1, a', n, c'⟩]) (ps ++ [⟨1, l⟩])).p R z := fun z => AllD.any (AllD.snoc (x := ⟨1, a', n, c'⟩) (p := ⟨1, l⟩) ⟨rfl, hl.symm, by simp only; omega⟩ hro hall)
      refine HP.sep_mono H (fun z hz => HP.sep_mono (HP.sep_tt hz) (fun _ h => h) fun z _ => hnew z) fun z hz => HP.sep_right hz
theorem AllD.set {R h : PH} {x : PgRec} {p : Pg} (hx : x.is = p.is ∧ x.n = p.data.length ∧ p.data.length ≤ 140737488355328) (hr : (RoB x.a x.n p.data).p R h) : ∀ {xs : List PgRec} {ps : List Pg} (j : Nat), (AllD xs ps).p R h → (AllD (xs.set j x) (ps.set j p)).p R h
  | [], [], _, _ => trivial
  | _ :: _, _ :: _, 0, ⟨_, H⟩ => ⟨hx, RoC.join hr (HP.sep_right H)⟩
  | _ :: _, _ :: _, j + 1, ⟨q, H⟩ => ⟨q, RoC.join (HP.sep_left H) (AllD.set hx hr j (HP.sep_right H))⟩
  | [], _ :: _, _, H => H.elim
  | _ :: _, [], _, H => H.elim
theorem pgCells_set (x : PgRec) : ∀ (xs : List PgRec) (j : Nat), j < xs.length → (pgCells xs).take (j * 2) ++ x.vals ++ (pgCells xs).drop (j * 2 + 2) = pgCells (xs.set j x)
  | [], j, h => by simp at h
  | y :: r, 0, _ => by simp [pgCells, PgRec.vals]
  | y :: r, j + 1, h => by
    have ih := pgCells_set x r j (by simpa using h)
    simp only [pgCells, List.flatMap_cons, List.set_cons_succ] at ih ⊢
    rw [← ih]
    have e1 : (j + 1) * 2 = j * 2 + 2 := by omega
    rw [e1]
    simp [PgRec.vals]
theorem pgCells_get (xs : List PgRec) : ∀ (j : Nat) (x : PgRec), xs[j]? = some x → (pgCells xs)[j * 2]? = some (.int .i64 x.is) ∧ (pgCells xs)[j * 2 + 1]? = some (.slice x.a x.n x.c) := by
  induction xs with
  | nil => intro j x h; simp at h
  | cons y r ih =>
    intro j x h
    cases j with
    | zero => simp at h; subst h; simp [pgCells, PgRec.vals]
    | succ j =>
      obtain ⟨h1, h2⟩ := ih j x (by simpa using h)
      simp only [pgCells, List.flatMap_cons] at h1 h2 ⊢
      have e1 : (j + 1) * 2 = j * 2 + 2 := by omega
      rw [e1]
      exact ⟨by simpa [PgRec.vals] using h1, by simpa [PgRec.vals] using h2⟩
theorem AllD.take {R h : PH} : ∀ {xs : List PgRec} {ps : List Pg} (n : Nat), (AllD xs ps).p R h → (AllD (xs.take n) (ps.take n)).p R h
  | [], [], n, _ => by simp; trivial
  | _ :: _, _ :: _, 0, _ => trivial
  | _ :: _, _ :: _, n + 1, ⟨q, H⟩ => ⟨q, RoC.join (HP.sep_left H) (AllD.take n (HP.sep_right H))⟩
  | [], _ :: _, _, H => H.elim
  | _ :: _, [], _, H => H.elim
theorem pgCells_take : ∀ (xs : List PgRec) (j : Nat), pgCells (xs.take j) = (pgCells xs).take (j * 2)
  | [], j => by simp [pgCells]
  | y :: r, 0 => by simp [pgCells]
  | y :: r, j + 1 => by
    have ih := pgCells_take r j
    simp only [pgCells, List.flatMap_cons, List.take_succ_cons] at ih ⊢
    have e1 : (j + 1) * 2 = j * 2 + 2 := by omega
    rw [e1, ih]
    simp [PgRec.vals]
theorem OwC.shrink {e : TypeId} {size : Nat} {a : Option Addr} {n c : Nat} {xs : List Value} {R h : PH} (H : (OwC e size a n c xs).p R h) (j : Nat) (hj : j ≤ n) (k : Nat) (hk : k = 0) :
    (OwC e size (if c = 0 then a else a.map (·.add k)) j c (xs.take (j * size))).p R h := by
  subst hk
  obtain ⟨hl, hh⟩ := H
  refine ⟨by rw [List.length_take, hl]; exact Nat.min_eq_left (Nat.mul_le_mul_right _ hj), ?_⟩
  rcases hh with ⟨rfl, rfl, rfl⟩ | ⟨g, cur, rfl, hg, h1, h2, h3, h4⟩
  · exact .inl ⟨rfl, by omega, rfl⟩
  · refine .inr ⟨g, cur, ?_, hg, by omega, h2, h3, ?_⟩
    · split
      · rfl
      · simp only [Option.map_some, addr_add, Nat.add_zero]
    · rw [← h4, List.take_take]
      congr 1
      exact (Nat.min_eq_left (Nat.mul_le_mul_right _ hj)).symm

/-! a crash -/
/-- The device's pages, whatever their slices. -/
def Pages (da : Option Addr) (dc n : Nat) (q : List Pg) : HP := HP.ex fun xs => HP.and (xs.length = q.length) (HP.sep (OwC 110 2 da n dc (pgCells xs)) (AllD xs q))
theorem OTri.exI {o : Sem Next} {α : Type} {A : α → HP} {B : Value → HP} (t : ∀ x, OTri Try.prog o (A x) B) : OTri Try.prog o (HP.ex A) B := fun w R h F s ⟨x, a⟩ => t x w R h F s a
theorem OTri.pureI {o : Sem Next} {A : HP} {B : Value → HP} {φ : Prop} (t : φ → OTri Try.prog o A B) : OTri Try.prog o (HP.and φ A) B := fun w R h F s a => t a.1 w R h F s a.2
def pickOf (picks : List UInt8) (i : Nat) : Nat := match picks[i % picks.length]? with
  | some b => b.toNat % 3
  | none => 0
def crashPg (picks : List UInt8) (i : Nat) (p : Pg) : Pg := if pickOf picks i = 0 then ⟨0, []⟩ else if pickOf picks i = 2 then ⟨2, []⟩ else p
/-- The pages, when so many of those that do not last are lost or not. -/
def crashK (picks : List UInt8) (ps : List Pg) (lasts : Nat) : Nat → List Pg
  | 0 => ps
  | k + 1 => match (crashK picks ps lasts k)[lasts + k]? with
    | some p => (crashK picks ps lasts k).set (lasts + k) (crashPg picks k p)
    | none => crashK picks ps lasts k
theorem crashK_len (picks : List UInt8) (ps : List Pg) (lasts : Nat) : ∀ k, (crashK picks ps lasts k).length = ps.length
  | 0 => rfl
  | k + 1 => by
    simp only [crashK]
    split
    · rw [List.length_set]; exact crashK_len picks ps lasts k
    · exact crashK_len picks ps lasts k
/-- .. how many are left, when the last ones that are empty are gone. -/
def trimN (ps : List Pg) : Nat → Nat
  | 0 => 0
  | n + 1 => match ps[n]? with
    | some p => if p.is = 0 then trimN ps n else n + 1
    | none => n + 1
def crashPs (picks : List UInt8) (ps : List Pg) (lasts : Nat) : List Pg :=
  let q := crashK picks ps lasts (ps.length - lasts)
  q.take (trimN q q.length)
theorem trimN_le (ps : List Pg) : ∀ n, trimN ps n ≤ n
  | 0 => Nat.le_refl _
  | n + 1 => by
    simp only [trimN]
    split
    · split
      · exact Nat.le_succ_of_le (trimN_le ps n)
      · exact Nat.le_refl _
    · exact Nat.le_refl _
theorem dCrash_ok (b : Nat) (room : Int) (ps : List Pg) (lasts : Nat) (a : Option Addr) (n c : Nat) (picks : List UInt8) (S : HP) (hr : RdL S a n (picks.map u8v)) (hl : picks.length = n) (ha : n ≠ 0 → a.isSome = true) (hn : n ≤ 140737488355328) :
    Tri Try.prog 16 #[.pointer (some ⟨b, 0, none⟩), .slice a n c] (HP.sep (DRep b room ps lasts) S) (fun v => HP.and (v = .tuple #[]) (HP.sep (DRep b room (crashPs picks ps lasts) (crashPs picks ps lasts).length) S)) := by
  refine (Tri.ex (A := fun da => HP.ex fun dc => HP.ex fun xs => HP.and (DInv room ps lasts ∧ xs.length = ps.length) (HP.sep (HP.one b (.cells #[.int .i64 room, .slice da ps.length dc, .int .i64 lasts] 108)) (HP.sep (HP.sep (OwC 110 2 da ps.length dc (pgCells xs)) (AllD xs ps)) S)))
    fun da => Tri.ex fun dc => Tri.ex fun xs => Tri.pure fun hI => ?_).weak (fun R h ⟨h1, h2, d, l1, l2, ⟨da, dc, xs, hI, H⟩, hS⟩ => ⟨da, dc, xs, hI, HP.sep_assoc ⟨h1, h2, d, l1, l2, H, hS⟩⟩) fun _ _ _ h => h
  obtain ⟨⟨i1, i2, i3, i4⟩, hxl⟩ := hI
  refine Tri.fact (φ := ps.length ≤ dc ∧ (ps.length ≠ 0 → da.isSome = true)) (fun R h H => ?_) fun hdc => ?_
  · have := HP.sep_left (HP.sep_left (HP.sep_right H))
    exact ⟨OwC.le this, fun h => OwC.some this (by omega)⟩
  refine tri_of_tree (ρ := [.n b, .i room, .a da, .n ps.length, .n dc, .p (HP.sep (OwC 110 2 da ps.length dc (pgCells xs)) (AllD xs ps)), .i lasts, .a a, .n n, .n c, .p S]) mixed Try.func16 tree_dCrash ?_
  unfold t_dCrash
  simp only [T.den, E.prop, E.den, RX.look, F1.app, F2.app, Uni.int_i, Uni.nat_n, Uni.bool_c, Uni.str_s, Uni.adr_a, Uni.val_v, Uni.hp_p, hden, cden, V.den, W.den, A.den, BR.den, SA.den, FV.den, capV, exs, exP, allP, Cur.app, List.map_cons, List.map_nil, List.cons_append, List.nil_append, List.drop_succ_cons, List.drop_zero, List.length_cons, List.length_nil, Nat.zero_add, Nat.reduceAdd, Int.neg_neg, Bool.not_not, List.append_nil, Nat.add_zero, List.getElem?_cons_zero, List.getElem?_cons_succ, Decidable.not_not]
  obtain ⟨i, hi, z1, z2, z3⟩ := info_parts infoP
  refine ⟨_, _, _, slice_ok undP hi _ da ps.length dc (some lasts) none none i4 hdc.1 (Nat.le_refl _) (fun h => by cases h), ?_⟩
  simp only [Option.getD_some, Option.getD_none]
  have und3 : Try.prog.underlying 3 = some (.int .i64) := by kernel_rfl
  have agg3 : aggT Try.prog 3 = false := by kernel_rfl
  have sz3 : szT Try.prog 3 = 1 := by kernel_rfl
  have pt1 : ∀ k, k < ps.length - lasts → ∀ (v : Int) (p' : Pg), p'.is = v → p'.data = [] → ∀ P : HP, HP.ent P (Pages da dc ps.length (crashK picks ps lasts k)) →
      OTri Try.prog (storeS 110 (.pointer (da.map fun x => (x.add (((lasts : Int) + (k : Int)).toNat * 2)).add 0)) (.agg #[.int .i64 v, .slice none 0 0])) P
        (fun r => HP.and (r = .tuple #[]) (Pages da dc ps.length ((crashK picks ps lasts k).set (lasts + k) p'))) := fun k hk v p' hv hd P hP => by
    refine (OTri.conseq (A := Pages da dc ps.length (crashK picks ps lasts k)) (K := HP.tt) ?_ (hP.trans (.of fun _ _ => HP.sep_tt)) fun _ => .of fun _ _ => HP.sep_left)
    refine OTri.exI fun xs => OTri.pureI fun hx => ?_
    rw [crashK_len] at hx
    have := (store_ok hi 110 2 da ps.length dc (pgCells xs) ((lasts + k) * 2) 0 (.agg #[.int .i64 v, .slice none 0 0]) (PgRec.vals ⟨v, none, 0, 0⟩) rfl (by rw [z2]; rfl) (by simp [PgRec.vals]) (fun u hu => pgCells_one [⟨v, none, 0, 0⟩] u (by simpa [pgCells] using hu)) (by simp only [PgRec.vals, List.length_cons, List.length_nil]; omega)).frame (AllD xs (crashK picks ps lasts k))
    rw [show ((lasts : Int) + (k : Int)).toNat = lasts + k by omega]
    refine this.weak (fun _ _ h => h) ?_
    rintro r R h ⟨h1, h2, d, l1, l2, ⟨rfl, Ho⟩, Ha⟩
    refine ⟨rfl, xs.set (lasts + k) ⟨v, none, 0, 0⟩, by rw [List.length_set, List.length_set, crashK_len]; exact hx, h1, h2, d, l1, l2, ?_, AllD.set ⟨hv.symm, by rw [hd]; rfl, by rw [hd]; simp⟩ (by rw [hd]; exact RoC.nil _ _ _ _) _ Ha⟩
    rw [← pgCells_set _ _ _ (by omega)]
    exact Ho
  have nxt : ∀ k, k < ps.length - lasts → ∃ p, (crashK picks ps lasts k)[lasts + k]? = some p ∧ crashK picks ps lasts (k + 1) = (crashK picks ps lasts k).set (lasts + k) (crashPg picks k p) := fun k hk => by
    have hlt : lasts + k < (crashK picks ps lasts k).length := by rw [crashK_len]; omega
    refine ⟨_, List.getElem?_eq_getElem hlt, ?_⟩
    simp only [crashK, List.getElem?_eq_getElem hlt]
  have same : ∀ k, k < ps.length - lasts → pickOf picks k ≠ 0 → pickOf picks k ≠ 2 → crashK picks ps lasts (k + 1) = crashK picks ps lasts k := fun k hk h0 h2 => by
    obtain ⟨p, hp, e⟩ := nxt k hk
    rw [e, crashPg, if_neg h0, if_neg h2]
    exact List.ext_getElem? fun i => by
      rw [List.getElem?_set]
      split
      · rename_i e; subst e; rw [hp]; split
        · rfl
        · rename_i hlt; rw [List.getElem?_eq_none (by omega)] at hp; cases hp
      · rfl
  refine ⟨fun i P => ∃ k : Nat, i = k ∧ k ≤ ps.length - lasts ∧ HP.ent P (Pages da dc ps.length (crashK picks ps lasts k)), fun i P => ps.length - lasts - i.toNat, ⟨0, rfl, Nat.zero_le _, .of fun R h H => ⟨xs, hxl, H⟩⟩, ?_⟩
  rintro _ P ⟨k, rfl, hk, hP⟩
  refine ⟨fun hlt => ⟨fun hpos => ?_, fun hz => ?_⟩, fun hge => ?_⟩
  · have hn0 : 0 < n := by omega
    have hm : k % n < n := Nat.mod_lt _ hn0
    have htm : (k : Int).tmod (n : Int) = ((k % n : Nat) : Int) := (Int.ofNat_tmod k n).symm
    have hget : picks[k % n]? = some (picks[k % n]'(by omega)) := List.getElem?_eq_getElem (by omega)
    have hpick : pickOf picks k = (picks[k % n]'(by omega)).toNat % 3 := by simp only [pickOf, hl, hget]
    have hx3 : ((picks[k % n]'(by omega)).toNat : Int).tmod 3 = (pickOf picks k : Int) := by rw [hpick]; exact (Int.ofNat_tmod _ 3).symm
    refine ⟨by omega, fun _ => ⟨by rw [htm]; omega, fun _ => ⟨by rw [htm]; omega, fun _ => ⟨ha (by omega), fun _ => ⟨((picks[k % n]'(by omega)).toNat : Int), ?_, ?_⟩⟩⟩⟩⟩
    · have := load1_ok (t := 5) (d := .int .u8) (by kernel_rfl) (by kernel_rfl) (by kernel_rfl) hr.rd (k := k % n) (off := 0) (v := u8v (picks[k % n]'(by omega))) (by rw [Nat.add_zero, List.getElem?_map, hget]; rfl)
      rw [semOf_load]
      simp only [T.den, E.prop, E.den, RX.look, F1.app, F2.app, Uni.int_i, Uni.nat_n, Uni.bool_c, Uni.str_s, Uni.adr_a, Uni.val_v, Uni.hp_p, hden, cden, V.den, W.den, A.den, BR.den, SA.den, FV.den, capV, exs, exP, allP, Cur.app, List.map_cons, List.map_nil, List.cons_append, List.nil_append, List.drop_succ_cons, List.drop_zero, List.length_cons, List.length_nil, Nat.zero_add, Nat.reduceAdd, Int.neg_neg, Bool.not_not, List.append_nil, Nat.add_zero, List.getElem?_cons_zero, List.getElem?_cons_succ, Decidable.not_not]
      rw [htm]
      rw [Int.toNat_natCast, Nat.mul_one]
      exact this
    · rw [hx3]
      refine ⟨fun h0 => ⟨inI64 _ (by omega) (by omega), fun _ => ⟨by omega, fun _ => ⟨by omega, fun _ => ⟨hdc.2 (by omega), fun _ => ?_⟩⟩⟩⟩, fun h0 => ⟨fun h2 => ⟨inI64 _ (by omega) (by omega), fun _ => ⟨by omega, fun _ => ⟨by omega, fun _ => ⟨hdc.2 (by omega), fun _ => ?_⟩⟩⟩⟩, fun h2 => ⟨inI64 _ (by omega) (by omega), fun _ => ⟨⟨k + 1, by omega, by omega, ?_⟩, by dsimp only; omega⟩⟩⟩⟩
      · rw [semOf_store (by decide)]
        obtain ⟨p, _, e⟩ := nxt k (by omega)
        refine (pt1 k (by omega) 0 ⟨0, []⟩ rfl rfl P hP).weak (fun _ _ h => h) ?_
        rintro v R h ⟨rfl, H⟩
        refine ⟨_, rfl, ⟨inI64 _ (by omega) (by omega), fun _ => ⟨⟨k + 1, by omega, by omega, .refl _⟩, by dsimp only; omega⟩⟩, ?_⟩
        rw [e, crashPg, if_pos (by omega)]
        exact H
      · rw [semOf_store (by decide)]
        obtain ⟨p, _, e⟩ := nxt k (by omega)
        refine (pt1 k (by omega) 2 ⟨2, []⟩ rfl rfl P hP).weak (fun _ _ h => h) ?_
        rintro v R h ⟨rfl, H⟩
        refine ⟨_, rfl, ⟨inI64 _ (by omega) (by omega), fun _ => ⟨⟨k + 1, by omega, by omega, .refl _⟩, by dsimp only; omega⟩⟩, ?_⟩
        rw [e, crashPg, if_neg (by omega), if_pos (by omega)]
        exact H
      · rw [same k (by omega) (by omega) (by omega)]; exact hP
  · have hn0 : n = 0 := by omega
    refine ⟨inI64 _ (by omega) (by omega), fun _ => ⟨by omega, fun _ => ⟨by omega, fun _ => ⟨hdc.2 (by omega), fun _ => ?_⟩⟩⟩⟩
    rw [semOf_store (by decide)]
    obtain ⟨p, _, e⟩ := nxt k (by omega)
    refine (pt1 k (by omega) 0 ⟨0, []⟩ rfl rfl P hP).weak (fun _ _ h => h) ?_
    rintro v R h ⟨rfl, H⟩
    refine ⟨_, rfl, ⟨inI64 _ (by omega) (by omega), fun _ => ⟨⟨k + 1, by omega, by omega, .refl _⟩, by dsimp only; omega⟩⟩, ?_⟩
    have hp0 : pickOf picks k = 0 := by
      have : picks = [] := List.eq_nil_of_length_eq_zero (by omega)
      subst this; rfl
    rw [e, crashPg, if_pos hp0]
    exact H
  · have hke : k = ps.length - lasts := by omega
    subst hke
    generalize hq : crashK picks ps lasts (ps.length - lasts) = q at hP
    have hql : q.length = ps.length := by rw [← hq, crashK_len]
    have hcr : crashPs picks ps lasts = q.take (trimN q q.length) := by simp only [crashPs, hq]
    rw [hcr]
    clear pt1 nxt same hk hge hq hcr hr ha
    refine ⟨fun x => ∃ j : Nat, x = j ∧ j ≤ q.length ∧ trimN q j = trimN q q.length, fun x => x.toNat, ⟨q.length, by omega, Nat.le_refl _, rfl⟩, ?_⟩
    rintro _ ⟨j, rfl, hj, ht⟩
    have hsl : ∀ j, j ≤ q.length → ORead Try.prog (sliceS 106 (.slice da ps.length dc) (iv none) (iv (some j)) (iv none)) P (.slice (if dc = 0 then da else da.map (·.add (0 * szT Try.prog 110))) j dc) := fun j hj => by
      have := slice_ok undP hi P da ps.length dc none (some j) none (Nat.zero_le _) (by simp only [Option.getD_some, Option.getD_none]; omega) (Nat.le_refl _) (fun h => by cases h)
      simpa only [Option.getD_some, Option.getD_none, Nat.sub_zero] using this
    have fin : ∀ j, j ≤ q.length → trimN q q.length = j → Tri Try.prog 58 #[.pointer (some ⟨b, 0, none⟩)] (HP.sep (HP.one b (.cells #[.int .i64 room, .slice (if dc = 0 then da else da.map (·.add (0 * szT Try.prog 110))) j dc, .int .i64 lasts] 108)) P)
        (fun v => HP.and (v = .tuple #[]) (HP.sep (HP.one b (.cells #[.int .i64 room, .slice (if dc = 0 then da else da.map (·.add (0 * szT Try.prog 110))) j dc, .int .i64 j] 108)) P)) := fun j _ _ => dSyncRaw_ok b room _ j dc lasts P
    have done : ∀ j, j ≤ q.length → trimN q q.length = j → HP.ent (HP.sep (HP.one b (.cells #[.int .i64 room, .slice (if dc = 0 then da else da.map (·.add (0 * szT Try.prog 110))) j dc, .int .i64 j] 108)) (HP.sep P S))
        (HP.and True (HP.sep (DRep b room (q.take (trimN q q.length)) (q.take (trimN q q.length)).length) S)) := fun j hj ht => by
      have e1 : (q.take j).length = j := by rw [List.length_take]; omega
      rw [ht, e1]
      refine ((HP.ent.refl _).sep2 (hP.sep S)).trans (.of fun R h H => ⟨trivial, ?_⟩)
      refine HP.sep_mono (HP.sep_assoc' H) (fun y hy => ?_) fun _ h => h
      obtain ⟨h1, h2, d, l1, l2, hone, xs', hx', g1, g2, d', m1, m2, ho, hall⟩ := hy
      refine ⟨if dc = 0 then da else da.map (·.add (0 * szT Try.prog 110)), dc, xs'.take j, ⟨⟨i1, i2, by rw [e1]; omega, by rw [e1]; omega⟩, by rw [List.length_take, List.length_take, hx']⟩, ?_⟩
      rw [e1]
      refine ⟨h1, h2, d, l1, l2, hone, g1, g2, d', m1, m2, ?_, AllD.take j hall⟩
      rw [pgCells_take]
      exact OwC.shrink ho j (by omega) _ (Nat.zero_mul _)
    refine ⟨fun hp => ⟨inI64 _ (by omega) (by omega), fun _ => ⟨by omega, fun _ => ⟨by omega, fun _ => ⟨hdc.2 (by omega), fun _ => ?_⟩⟩⟩⟩, fun hp => ?_⟩
    · obtain ⟨j, rfl⟩ : ∃ i, j = i + 1 := ⟨j - 1, by omega⟩
      have hg : q[j]? = some (q[j]'(by omega)) := List.getElem?_eq_getElem (by omega)
      refine ⟨(q[j]'(by omega)).is, ?_, fun h0 => ⟨⟨j, by omega, by omega, ?_⟩, by dsimp only; omega⟩, fun h0 => ?_⟩
      · rw [semOf_load]
        simp only [T.den, E.prop, E.den, RX.look, F1.app, F2.app, Uni.int_i, Uni.nat_n, Uni.bool_c, Uni.str_s, Uni.adr_a, Uni.val_v, Uni.hp_p, hden, cden, V.den, W.den, A.den, BR.den, SA.den, FV.den, capV, exs, exP, allP, Cur.app, List.map_cons, List.map_nil, List.cons_append, List.nil_append, List.drop_succ_cons, List.drop_zero, List.length_cons, List.length_nil, Nat.zero_add, Nat.reduceAdd, Int.neg_neg, Bool.not_not, List.append_nil, Nat.add_zero, List.getElem?_cons_zero, List.getElem?_cons_succ, Decidable.not_not]
        refine ORead.ent hP fun w R h F s ⟨xs', hx', H⟩ => ?_
        obtain ⟨x, q1, q2, _⟩ := AllD.get j (HP.sep_right H) hg
        have := load1_ok und3 agg3 sz3 ((OwC.rd 110 2 da ps.length dc (pgCells xs')).left (B := AllD xs' q)) (k := j * 2) (off := 0) (pgCells_get xs' j x q1).1 w R h F s H
        rw [q2] at this
        rw [show (((j + 1 : Nat) : Int) - 1).toNat = j by omega]
        exact this
      · rw [← ht]; simp only [trimN, hg, if_pos h0]
      · have htt : trimN q q.length = j + 1 := by rw [← ht]; simp only [trimN, hg, if_neg h0]
        refine ⟨_, _, _, hsl (j + 1) hj, (fin (j + 1) hj htt).weak (fun _ _ h => h) ?_⟩
        rintro v R h ⟨rfl, H⟩
        exact ⟨_, _, _, _, P, _, rfl, done (j + 1) hj htt, H⟩
    · have hj0 : j = 0 := by omega
      subst hj0
      refine ⟨_, _, _, hsl 0 hj, (fin 0 hj ht.symm).weak (fun _ _ h => h) ?_⟩
      rintro v R h ⟨rfl, H⟩
      exact ⟨_, _, _, _, P, _, rfl, done 0 hj ht.symm, H⟩
end Go.Proofs.Ytmibmjehjagmbaa
