/- Contracts of the device: what its pages hold. No condition. -/
import Derived.Test.YtmibmjehjagmbaaDev
namespace Go.Proofs.Ytmibmjehjagmbaa
set_option linter.unusedSimpArgs false
set_option linter.unusedVariables false
open Go.Proofs.Ytmibmjehjagmbaa RX

theorem AllD.get2 {R h : PH} : ∀ {xs : List PgRec} {ps : List Pg} (i : Nat) {p : Pg}, (AllD xs ps).p R h → ps[i]? = some p → ∃ x, xs[i]? = some x ∧ x.is = p.is ∧ x.n = p.data.length ∧ p.data.length ≤ 140737488355328 ∧ (RoB x.a x.n p.data).p R h
  | [], [], i, p, _, hp => by simp at hp
  | x :: xs, q :: ps, 0, p, ⟨h1, H⟩, hp => by simp at hp; subst hp; exact ⟨x, rfl, h1.1, h1.2.1, h1.2.2, HP.sep_left H⟩
  | x :: xs, q :: ps, i + 1, p, ⟨h1, H⟩, hp => by
    obtain ⟨y, q1, q2, q3, q4⟩ := AllD.get2 (h := h) i (AllD.any (HP.sep_right H)) (by simpa using hp)
    exact ⟨y, by simpa using q1, q2, q3, q4⟩
  | [], _ :: _, _, _, H, _ => H.elim
  | _ :: _, [], _, _, H, _ => H.elim
/-- A list of byte slices, each of which never turns. -/
abbrev BRec := Option Addr × Nat × Nat
def slV (x : BRec) : Value := .slice x.1 x.2.1 x.2.2
def AllB : List BRec → List (List UInt8) → HP
  | [], [] => HP.tt
  | x :: xs, l :: ls => HP.and (x.2.1 = l.length ∧ l.length ≤ 140737488355328) (HP.sep (RoB x.1 x.2.1 l) (AllB xs ls))
  | _, _ => HP.pure False
theorem AllB.any {R : PH} : ∀ {xs : List BRec} {ps : List (List UInt8)} {h h' : PH}, (AllB xs ps).p R h → (AllB xs ps).p R h'
  | [], [], _, _, _ => trivial
  | _ :: _, _ :: _, _, h', ⟨q, H⟩ => ⟨q, RoC.join (HP.sep_left H) (AllB.any (h' := h') (HP.sep_right H))⟩
  | [], _ :: _, _, _, H => H
  | _ :: _, [], _, _, H => H
theorem AllB.len {R h : PH} : ∀ {xs : List BRec} {ps : List (List UInt8)}, (AllB xs ps).p R h → xs.length = ps.length
  | [], [], _ => rfl
  | x :: xs, p :: ps, ⟨_, H⟩ => by simp [AllB.len (HP.sep_right H)]
  | [], _ :: _, H => H.elim
  | _ :: _, [], H => H.elim
theorem AllB.snoc {R h : PH} {x : BRec} {p : List UInt8} (hx : x.2.1 = p.length ∧ p.length ≤ 140737488355328) (hr : (RoB x.1 x.2.1 p).p R h) : ∀ {xs : List BRec} {ps : List (List UInt8)}, (AllB xs ps).p R h → (AllB (xs ++ [x]) (ps ++ [p])).p R h
  | [], [], _ => ⟨hx, RoC.join hr (trivial : HP.tt.p R h)⟩
  | _ :: _, _ :: _, ⟨q, H⟩ => ⟨q, RoC.join (HP.sep_left H) (AllB.snoc hx hr (HP.sep_right H) |> AllB.any (h' := h))⟩
  | [], _ :: _, H => H.elim
  | _ :: _, [], H => H.elim
theorem AllB.get {R h : PH} : ∀ {xs : List BRec} {ps : List (List UInt8)} (i : Nat) {p : List UInt8}, (AllB xs ps).p R h → ps[i]? = some p → ∃ x, xs[i]? = some x ∧ x.2.1 = p.length ∧ p.length ≤ 140737488355328 ∧ (RoB x.1 x.2.1 p).p R h
  | [], [], i, p, _, hp => by simp at hp
  | x :: xs, q :: ps, 0, p, ⟨h1, H⟩, hp => by simp at hp; subst hp; exact ⟨x, rfl, h1.1, h1.2, HP.sep_left H⟩
  | x :: xs, q :: ps, i + 1, p, ⟨h1, H⟩, hp => by
    obtain ⟨y, q1, q2, q3, q4⟩ := AllB.get (h := h) i (AllB.any (HP.sep_right H)) (by simpa using hp)
    exact ⟨y, by simpa using q1, q2, q3, q4⟩
  | [], _ :: _, _, _, H, _ => H.elim
  | _ :: _, [], _, _, H, _ => H.elim
/-- A list of byte slices of its own. -/
def LL (a : Option Addr) (n c : Nat) (ls : List (List UInt8)) : HP := HP.ex fun xs => HP.and (xs.length = ls.length ∧ n = ls.length) (HP.sep (OwC 30 1 a n c (xs.map slV)) (AllB xs ls))
theorem infoLL : (Try.prog.info? 30).map (fun i => (i.zero, i.size, i.bytes)) = some (some (.slice none 0 0), 1, 24) := by kernel_rfl
theorem undLL : Try.prog.underlying 72 = some (.slice 30) := by kernel_rfl
theorem slV_one (xs : List BRec) : ∀ u ∈ xs.map slV, u.oneCell' = true := fun u hu => by
  obtain ⟨x, _, rfl⟩ := List.mem_map.1 hu; rfl
/-- The bytes of the pages that are whole. -/
def wholes (ps : List Pg) : List (List UInt8) := ps.filterMap fun p => if p.is = 1 then some p.data else none
theorem wholes_take (ps : List Pg) (k : Nat) (p : Pg) (h : ps[k]? = some p) : wholes (ps.take (k + 1)) = wholes (ps.take k) ++ (if p.is = 1 then [p.data] else []) := by
  obtain ⟨hk, rfl⟩ := List.getElem?_eq_some_iff.1 h
  rw [List.take_succ_eq_append_getElem hk, wholes, List.filterMap_append]
  congr 1
  simp only [List.filterMap_cons, List.filterMap_nil]
  by_cases e : ps[k].is = 1 <;> simp [e]
theorem wholes_pre (ps : List Pg) (k : Nat) : wholes (ps.take k) <+: wholes ps := by
  have : wholes ps = wholes (ps.take k) ++ wholes (ps.drop k) := by
    rw [wholes, wholes, wholes, ← List.filterMap_append, List.take_append_drop]
  rw [this]; exact List.prefix_append _ _

def BoxD (bx b : Nat) : HP := HP.one bx (.cells #[.pointer (some ⟨b, 0, none⟩)] 25)
theorem dWhole_ok (b : Nat) (D : HP) : Tri Try.prog 85 #[.pointer (some ⟨b, 0, none⟩)] D
    (fun v => HP.ex fun bx => HP.and (v = .func (.func 118) #[] #[.pointer (some ⟨bx, 0, none⟩)]) (HP.sep (BoxD bx b) D)) := by
  refine tri_of_tree (ρ := [.n b, .p D]) mixed Try.func85 tree_dWhole ?_
  unfold t_dWhole
  simp only [T.den, E.prop, E.den, RX.look, F1.app, F2.app, Uni.int_i, Uni.nat_n, Uni.bool_c, Uni.str_s, Uni.adr_a, Uni.val_v, Uni.hp_p, hden, cden, V.den, W.den, A.den, BR.den, SA.den, FV.den, capV, exs, exP, allP, Cur.app, List.map_cons, List.map_nil, List.cons_append, List.nil_append, List.drop_succ_cons, List.drop_zero, List.length_cons, List.length_nil, Nat.zero_add, Nat.reduceAdd, Int.neg_neg, Bool.not_not, List.append_nil, Nat.add_zero, List.getElem?_cons_zero, List.getElem?_cons_succ, Decidable.not_not]
  exact fun x => .of fun R h H => ⟨x, rfl, HP.sep_comm H⟩
def mayW (ps : List Pg) (ys : List (List UInt8)) (args : Array Value) (ys' : List (List UInt8)) : Prop := ∃ a n c l, args = #[.slice a n c] ∧ ys' = ys ++ [l] ∧ ys' <+: wholes ps
def prW (ps : List Pg) (ys : List (List UInt8)) (args : Array Value) : HP := HP.ex fun z : BRec × List UInt8 => HP.and (args = #[slV z.1] ∧ z.2.length = z.1.2.1 ∧ z.1.2.1 ≤ 140737488355328 ∧ ys ++ [z.2] <+: wholes ps) (RoB z.1.1 z.1.2.1 z.2)
theorem fgo_whole1 : Fgo Try.prog 118 := ⟨_, Try.func118, by kernel_rfl, by kernel_rfl⟩
theorem pre_one {α : Type} {ys W : List α} {x y : α} (h : ys ++ [x] <+: W) (h' : ys ++ [y] <+: W) : x = y := by
  obtain ⟨t, ht⟩ := h
  obtain ⟨t', ht'⟩ := h'
  rw [← ht, List.append_assoc, List.append_assoc] at ht'
  have := List.append_cancel_left ht'
  simpa using (List.cons.inj this).1.symm
theorem dWhole_seq (bx b : Nat) (room : Int) (ps : List Pg) (lasts : Nat) : SeqTri Try.prog (.func (.func 118) #[] #[.pointer (some ⟨bx, 0, none⟩)]) (HP.sep (BoxD bx b) (DRep b room ps lasts)) (fun _ => HP.tt) (prW ps) (mayW ps) (fun ys => ys = wholes ps) [] := by
  refine ⟨_, _, rfl, fgo_whole1, fun l K Jx hr => ?_⟩
  refine (Tri.ex (A := fun da => HP.ex fun dc => HP.ex fun xs => HP.and (DInv room ps lasts ∧ xs.length = ps.length) (HP.sep (HP.sep HP.tt (K [])) (HP.sep (BoxD bx b) (HP.sep (HP.one b (.cells #[.int .i64 room, .slice da ps.length dc, .int .i64 lasts] 108)) (HP.sep (OwC 110 2 da ps.length dc (pgCells xs)) (AllD xs ps))))))
    fun da => Tri.ex fun dc => Tri.ex fun xs => Tri.pure fun hI => ?_).weak (fun R h H => ?_) fun _ _ _ h => h
  rotate_left
  · obtain ⟨h1, h2, d, l1, l2, hK, h3, h4, d2, l3, l4, hB, da, dc, xs, hI, H⟩ := HP.sep_comm H
    exact ⟨da, dc, xs, hI, h1, h2, d, l1, l2, hK, h3, h4, d2, l3, l4, hB, H⟩
  obtain ⟨hD, hxl⟩ := hI
  refine Tri.fact (φ := (ps.length ≠ 0 → da.isSome = true) ∧ ∀ (k : Nat) (p : Pg), ps[k]? = some p → ∃ x : PgRec, xs[k]? = some x ∧ x.is = p.is ∧ x.n = p.data.length ∧ p.data.length ≤ 140737488355328) (fun R h H => ⟨fun hn => OwC.some (HP.sep_left (HP.sep_right (HP.sep_right (HP.sep_right H)))) (by omega), fun k p hp => by
    obtain ⟨x, q1, q2, q3, q4, _⟩ := AllD.get2 k (HP.sep_right (HP.sep_right (HP.sep_right (HP.sep_right H)))) hp
    exact ⟨x, q1, q2, q3, q4⟩⟩) fun ⟨hda, hall⟩ => ?_
  obtain ⟨pd, hpd⟩ : ∃ d, Try.prog.underlying 110 = some d := Option.isSome_iff_exists.1 (by kernel_rfl)
  refine tri_of_tree (ρ := [.v (.func (.yield l) #[] #[]), .p (HP.sep HP.tt (K [])), .n bx, .n b, .i room, .a da, .n ps.length, .n dc, .p (HP.sep (OwC 110 2 da ps.length dc (pgCells xs)) (AllD xs ps)), .i lasts]) mixed Try.func118 tree_dWhole1 ?_
  unfold t_dWhole1
  simp only [T.den, E.prop, E.den, RX.look, F1.app, F2.app, Uni.int_i, Uni.nat_n, Uni.bool_c, Uni.str_s, Uni.adr_a, Uni.val_v, Uni.hp_p, hden, cden, V.den, W.den, A.den, BR.den, SA.den, FV.den, capV, exs, exP, allP, Cur.app, List.map_cons, List.map_nil, List.cons_append, List.nil_append, List.drop_succ_cons, List.drop_zero, List.length_cons, List.length_nil, Nat.zero_add, Nat.reduceAdd, Int.neg_neg, Bool.not_not, List.append_nil, Nat.add_zero, List.getElem?_cons_zero, List.getElem?_cons_succ, Decidable.not_not]
  have fin : ∀ J : HP, HP.ent J (SeqPost (fun _ => HP.tt) K Jx (fun ys => ys = wholes ps)) → HP.ent (HP.sep J (HP.sep (HP.one bx (.cells #[.pointer (some ⟨b, 0, none⟩)] 25)) (HP.sep (HP.one b (.cells #[.int .i64 room, .slice da ps.length dc, .int .i64 lasts] 108)) (HP.sep (OwC 110 2 da ps.length dc (pgCells xs)) (AllD xs ps)))))
      (HP.sep (HP.sep (BoxD bx b) (DRep b room ps lasts)) (SeqPost (fun _ => HP.tt) K Jx (fun ys => ys = wholes ps))) := fun J hJ =>
    (hJ.sep _).trans (.of fun R h H => HP.sep_comm (HP.sep_mono H (fun _ h => h) fun y hy => HP.sep_mono hy (fun _ h => h) fun z hz => ⟨da, dc, xs, ⟨hD, hxl⟩, hz⟩))
  refine ⟨fun i P => ∃ k : Nat, i = k ∧ k ≤ ps.length ∧ HP.ent P (HP.sep HP.tt (K (wholes (ps.take k)))), fun i P => ps.length - i.toNat, ⟨0, rfl, Nat.zero_le _, HP.ent.refl _⟩, ?_⟩
  rintro _ P ⟨k, rfl, hk, hP⟩
  refine ⟨fun hlt => ⟨by omega, fun _ => ⟨hda (by omega), fun _ => ?_⟩⟩, fun hge => ?_⟩
  · have hlt' : k < ps.length := by omega
    have hg : ps[k]? = some ps[k] := List.getElem?_eq_getElem hlt'
    have hi64 : IntKind.i64.min ≤ (k : Int) + 1 ∧ (k : Int) + 1 ≤ IntKind.i64.max := inI64 _ (by omega) (by have := hD.2.1; have := hD.2.2.1; omega)
    obtain ⟨x, hx, x1, x2, x3⟩ := hall k _ hg
    have hnext : ps[k].is ≠ 1 → wholes (ps.take (k + 1)) = wholes (ps.take k) := fun h => by rw [wholes_take ps k _ hg, if_neg h, List.append_nil]
    have hnext1 : ps[k].is = 1 → wholes (ps.take (k + 1)) = wholes (ps.take k) ++ [ps[k].data] := fun h => by rw [wholes_take ps k _ hg, if_pos h]
    refine ⟨x.is, x.a, x.n, x.c, ?_, fun y => ?_⟩
    · rw [semOf_load]
      simp only [T.den, E.prop, E.den, RX.look, F1.app, F2.app, Uni.int_i, Uni.nat_n, Uni.bool_c, Uni.str_s, Uni.adr_a, Uni.val_v, Uni.hp_p, hden, cden, V.den, W.den, A.den, BR.den, SA.den, FV.den, capV, exs, exP, allP, Cur.app, List.map_cons, List.map_nil, List.cons_append, List.nil_append, List.drop_succ_cons, List.drop_zero, List.length_cons, List.length_nil, Nat.zero_add, Nat.reduceAdd, Int.neg_neg, Bool.not_not, List.append_nil, Nat.add_zero, List.getElem?_cons_zero, List.getElem?_cons_succ, Decidable.not_not]
      rw [Int.toNat_natCast]
      obtain ⟨g1, g2⟩ := pgCells_get xs k _ hx
      refine loadN_ok (vs := [.int .i64 x.is, .slice x.a x.n x.c]) hpd (by kernel_rfl) ((OwC.rd 110 2 da ps.length dc (pgCells xs)).left (B := AllD xs ps)) (by kernel_rfl) (by simp) fun j v hj => ?_
      match j with
      | 0 => simp at hj; subst hj; simpa using g1
      | 1 => simp at hj; subst hj; simpa using g2
      | j + 2 => simp at hj
    · rw [x1]
      refine ⟨fun h1 => ?_, fun h1 => ⟨hi64, fun _ => ⟨⟨k + 1, by omega, by omega, by rw [hnext h1]; exact hP⟩, by dsimp only; omega⟩⟩⟩
      have hpre : wholes (ps.take k) ++ [ps[k].data] <+: wholes ps := by rw [← hnext1 h1]; exact wholes_pre ps _
      refine (hr (wholes (ps.take k)) #[.slice x.a x.n x.c] ⟨_, x.a, x.n, x.c, ps[k].data, rfl, rfl, hpre⟩).conseq (K := HP.sep (OwC 110 2 da ps.length dc (pgCells xs)) (AllD xs ps)) ?_ ?_
      · refine (hP.sep _).trans (.of fun R h H => ?_)
        have hA := HP.sep_right (HP.sep_right H)
        obtain ⟨x', q1, _, _, _, q5⟩ := AllD.get2 k hA hg
        rw [hx] at q1
        cases q1
        refine HP.sep_mono H (fun y hy => ?_) fun _ h => h
        exact HP.sep_mono (RoC.join (B := HP.sep HP.tt (K (wholes (ps.take k)))) q5 hy) (fun z hz => ⟨((x.a, x.n, x.c), ps[k].data), ⟨rfl, x2.symm, by dsimp only; omega, hpre⟩, hz⟩) fun _ h => h
      · refine fun v => .of fun R h ⟨h1', h2, dj, l1, l2, ⟨b', hv, hb⟩, hC⟩ => ?_
        cases b' with
        | true => 
          refine ⟨true, HP.ex fun g' => HP.and (mayW ps (wholes (ps.take k)) #[.slice x.a x.n x.c] g') (HP.sep HP.tt (K g')), hv, ⟨fun h => absurd rfl h, fun _ => ⟨hi64, fun _ => ⟨⟨k + 1, by omega, by omega, ?_⟩, by dsimp only; omega⟩⟩⟩, h1', h2, dj, l1, l2, hb, hC⟩
          refine .of fun R h ⟨g', ⟨_, _, _, l', _, hg1, hg2⟩, H⟩ => ?_
          subst hg1
          rw [hnext1 h1, pre_one hpre hg2]
          exact H
        | false => 
          exact ⟨false, Jx, hv, ⟨fun _ => fin Jx (.of fun R h H => ⟨none, H⟩), fun h => absurd h (by simp)⟩, h1', h2, dj, l1, l2, hb, hC⟩
  · have hke : k = ps.length := by omega
    subst hke
    rw [List.take_length] at hP
    exact fin P (hP.trans (.of fun R h H => ⟨some (wholes ps), rfl, H⟩))
theorem dPages_ok (b : Nat) (room : Int) (ps : List Pg) (lasts : Nat) : Tri Try.prog 34 #[.pointer (some ⟨b, 0, none⟩)] (DRep b room ps lasts)
    (fun v => HP.ex fun a => HP.ex fun c => HP.and (v = .slice a (wholes ps).length c ∧ DInv room ps lasts) (HP.sep (DRep b room ps lasts) (LL a (wholes ps).length c (wholes ps)))) := by
  refine Tri.fact (φ := DInv room ps lasts) (fun R h ⟨_, _, _, hI, _⟩ => hI.1) fun hD => ?_
  refine tri_of_tree (ρ := [.n b, .p (DRep b room ps lasts)]) mixed Try.func34 tree_dPages ?_
  unfold t_dPages
  simp only [T.den, E.prop, E.den, RX.look, F1.app, F2.app, Uni.int_i, Uni.nat_n, Uni.bool_c, Uni.str_s, Uni.adr_a, Uni.val_v, Uni.hp_p, hden, cden, V.den, W.den, A.den, BR.den, SA.den, FV.den, capV, exs, exP, allP, Cur.app, List.map_cons, List.map_nil, List.cons_append, List.nil_append, List.drop_succ_cons, List.drop_zero, List.length_cons, List.length_nil, Nat.zero_add, Nat.reduceAdd, Int.neg_neg, Bool.not_not, List.append_nil, Nat.add_zero, List.getElem?_cons_zero, List.getElem?_cons_succ, Decidable.not_not]
  intro ob
  refine (dWhole_ok b (DRep b room ps lasts)).weak (fun _ _ h => h) ?_
  rintro v R h ⟨bx, rfl, H⟩
  refine ⟨.func (.func 118) #[] #[.pointer (some ⟨bx, 0, none⟩)], BoxD bx b, rfl, fun db => ?_, H⟩
  have hw : (wholes ps).length ≤ 65536 := by
    have h1 : (wholes ps).length ≤ ps.length := List.length_filterMap_le _ _
    have := hD.2.1
    have := hD.2.2.1
    omega
  refine ⟨List (List UInt8), fun _ => HP.tt, prW ps, mayW ps, fun ys => ys = wholes ps, [], fun ys a n c P => n = ys.length ∧ ys <+: wholes ps ∧ HP.ent P (LL a n c ys), dWhole_seq bx b room ps lasts, ?_, ?_, ?_, ?_⟩
  · exact ⟨rfl, List.nil_prefix, .of fun R h _ => ⟨[], ⟨rfl, rfl⟩, OwC.nil _ _ R h |> HP.sep_tt⟩⟩
  · intro ys a n c P _; rfl
  · rintro ys args ⟨g', a0, n0, c0, l0, rfl, rfl, hpre⟩ a n c P ⟨rfl, hys, hP⟩
    refine ⟨a0, n0, c0, prW ps ys #[.slice a0 n0 c0], rfl, HP.ent.refl _, ?_⟩
    refine Tri.ex (A := fun z : BRec × List UInt8 => HP.and (#[Value.slice a0 n0 c0] = #[slV z.1] ∧ z.2.length = z.1.2.1 ∧ z.1.2.1 ≤ 140737488355328 ∧ ys ++ [z.2] <+: wholes ps) (RoB z.1.1 z.1.2.1 z.2)) fun z => Tri.pure fun hz => ?_
    obtain ⟨⟨a1, n1, c1⟩, d1⟩ := z
    obtain ⟨hz1, hz2, hz3, hz4⟩ := hz
    simp only [slV, Array.mk.injEq, List.cons.injEq, Value.slice.injEq, and_true] at hz1
    obtain ⟨rfl, rfl, rfl⟩ := hz1
    simp only at hz2 hz3 hz4
    refine (cloneR_ok (RoB a0 n0 d1) a0 n0 c0 d1 (RdL.ro _ _ _ _) hz2 hz3).weak (fun _ _ h => h) ?_
    rintro v R h ⟨a', c', rfl, H⟩
    refine ⟨a', n0, c', RoB a' n0 d1, RoB a0 n0 d1, rfl, fun eb => ?_, H⟩
    clear H
    rw [semOf_append (by decide)]
    simp only [T.den, E.prop, E.den, RX.look, F1.app, F2.app, Uni.int_i, Uni.nat_n, Uni.bool_c, Uni.str_s, Uni.adr_a, Uni.val_v, Uni.hp_p, hden, cden, V.den, W.den, A.den, BR.den, SA.den, FV.den, capV, exs, exP, allP, Cur.app, List.map_cons, List.map_nil, List.cons_append, List.nil_append, List.drop_succ_cons, List.drop_zero, List.length_cons, List.length_nil, Nat.zero_add, Nat.reduceAdd, Int.neg_neg, Bool.not_not, List.append_nil, Nat.add_zero, List.getElem?_cons_zero, List.getElem?_cons_succ, Decidable.not_not]
    obtain ⟨i, hi, z1, z2, z3⟩ := info_parts infoLL
    have hyl : ys.length + 1 ≤ 65536 := by
      have := hz4.length_le
      simp at this
      omega
    refine (OTri.conseq (A := HP.ex fun xs => HP.and (xs.length = ys.length) (HP.sep (OwC 30 1 a ys.length c (xs.map slV)) (HP.sep (AllB xs ys) (HP.sep (HP.one eb (.cells #[.slice a' n0 c'] 30)) (RoB a' n0 d1))))) (K := HP.tt) (OTri.exI fun xs => OTri.pureI fun hx => ?_) ((hP.sep _).trans (.of fun R h ⟨h1, h2, d, l1, l2, ⟨xs, hx, H⟩, H2⟩ => HP.sep_tt ⟨xs, hx.1, HP.sep_assoc ⟨h1, h2, d, l1, l2, H, H2⟩⟩)) fun v => .of fun _ _ H => HP.sep_left H)
    have happ := append_ok 72 72 30 i _ undLL hi z1 (by rw [z2]; rfl) (by omega) a ys.length c (xs.map slV) (HP.sep (AllB xs ys) (HP.sep (HP.one eb (.cells #[.slice a' n0 c'] 30)) (RoB a' n0 d1))) ⟨eb, 0, none⟩ 1 1 [slV (a', n0, c')] ((one_rd eb _ _).left.right) (by rw [z2]; rfl) (fun u hu => slV_one [(a', n0, c')] u (by simpa using hu)) (by unfold maxLen; omega) (by rw [z3]; omega)
    rw [z2] at happ
    refine happ.weak (fun _ _ h => h) ?_
    rintro v R h ⟨a2, c2, rfl, H⟩
    have hro := HP.sep_right (HP.sep_right (HP.sep_right H))
    have hall := HP.sep_left (HP.sep_right H)
    refine ⟨a2, ys.length + 1, c2, LL a2 (ys.length + 1) c2 (ys ++ [d1]), rfl, ⟨ys ++ [d1], ⟨a0, n0, c0, d1, rfl, rfl, hz4⟩, by simp, hz4, HP.ent.refl _⟩, ?_⟩
    refine HP.sep_mono H (fun y hy => ⟨xs ++ [(a', n0, c')], ⟨by simp [hx], by simp⟩, ?_⟩) fun y hy => HP.sep_right hy
    refine HP.sep_comm (HP.sep_mono (HP.tt_sep hy) (fun q _ => AllB.any (AllB.snoc (x := (a', n0, c')) (p := d1) ⟨hz2.symm, by omega⟩ hro hall)) fun q hq => ?_)
    rw [List.map_append]; exact hq
  · rintro _ rfl a n c P ⟨rfl, _, hP⟩
    refine ((HP.ent.refl (DRep b room ps lasts)).sep2 hP).trans (.of fun R h H => ⟨a, c, ⟨rfl, hD⟩, H⟩)
end Go.Proofs.Ytmibmjehjagmbaa
