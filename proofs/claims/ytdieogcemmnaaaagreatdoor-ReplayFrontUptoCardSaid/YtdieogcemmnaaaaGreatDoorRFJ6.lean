/- Texts of this claim, joined: TrSnapD, Dc, TrRep, Rep, Crc, TrRefE, Enc, InsU, In16, TrRef04, Eq04, SnI, SnJ, Sto. No condition. -/
import Derived.Test.YtdieogcemmnaaaaGreatDoorRFJ1
import Derived.Test.YtdieogcemmnaaaaGreatDoorRFJ2
import Derived.Test.YtdieogcemmnaaaaGreatDoorRFJ4
import Derived.Test.YtdieogcemmnaaaaGreatDoorRFJ5
import Derived.KernelRfl
import Derived.Laws.StructEq
set_option linter.unusedSimpArgs false
set_option linter.unusedVariables false
/- Trees of functions, printed by rx.lean. No condition. -/
namespace Go.Proofs.YtdieogcemmnaaaaGreatDoor.RX
set_option maxRecDepth 100000
-- tideline/snap.Decode: ρ := [.a ba, .n bl, .n bc, .p bP]
def t_snapDecode : T :=
(.call 84 [(.a (.sl (.v 0) (.v 1) (.v 2)))] [((.a 0), (.prop 3))] [.a, .n, .n, .p, .i, .p] (.tup [(.a (.sl (.v 4) (.v 5) (.v 6))), (.a (.int .i64 (.v 8)))]) [((.a 4), (.prop 7)), ((.a 0), (.prop 9))]
(.br (.o1 .not (.o2 .eq (.v 8) (.i 0)))
 (.ret (.tup [(.a (.int .i64 (.i 0))), (.a .nilp), (.a (.int .i64 (.i 3)))]) [((.a 0), (.prop 9))])
 (.call 85 [(.a (.sl (.v 4) (.v 5) (.v 6)))] [((.a 4), (.prop 7))] [.n, .p, .p] (.w (.a (.ptr (.v 10) 0))) [((.b (.v 10)), (.prop 11)), ((.a 4), (.prop 12))]
 (.call 86 [(.a (.ptr (.v 10) 0))] [((.b (.v 10)), (.prop 11))] [.i, .p] (.w (.a (.int .i64 (.v 13)))) [((.b (.v 10)), (.prop 14))]
 (.call 87 [(.a (.ptr (.v 10) 0)), (.a (.int .i64 (.i 64))), (.a (.func 88 []))] [((.b (.v 10)), (.prop 14))] [.a, .n, .n, .p, .p] (.w (.a (.sl (.v 15) (.v 16) (.v 17)))) [((.a 15), (.prop 18)), ((.b (.v 10)), (.prop 19))]
 (.call 89 [(.a (.ptr (.v 10) 0))] [((.b (.v 10)), (.prop 19))] [.i, .p] (.w (.a (.int .i64 (.v 20)))) [((.b (.v 10)), (.prop 21))]
 (.br (.o1 .not (.o2 .eq (.v 20) (.i 0)))
  (.ret (.tup [(.a (.int .i64 (.i 0))), (.a .nilp), (.a (.int .i64 (.i 3)))]) [((.a 0), (.prop 9))])
  (.br (.o2 .lt (.v 13) (.i 0))
   (.ret (.tup [(.a (.int .i64 (.i 0))), (.a .nilp), (.a (.int .i64 (.i 3)))]) [((.a 0), (.prop 9))])
   (.br (.o2 .lt (.i 4294967296) (.v 13))
    (.ret (.tup [(.a (.int .i64 (.i 0))), (.a .nilp), (.a (.int .i64 (.i 3)))]) [((.a 0), (.prop 9))])
    (.call 90 [(.a (.sl (.v 15) (.v 16) (.v 17)))] [((.a 15), (.prop 18))] [.p] (.tup []) [((.a 15), (.prop 22))]
    (.call 91 [(.a (.sl (.v 15) (.v 16) (.v 17)))] [((.a 15), (.prop 22))] [.v, .p, .i, .p] (.tup [(.a (.val 23)), (.a (.int .i64 (.v 25)))]) [((.a 23), (.prop 24)), ((.a 15), (.prop 26))]
    (.br (.o1 .not (.o2 .eq (.v 25) (.i 0)))
     (.ret (.tup [(.a (.int .i64 (.i 0))), (.a .nilp), (.a (.int .i64 (.i 3)))]) [((.a 0), (.prop 9))])
     (.ret (.tup [(.a (.int .i64 (.v 13))), (.a (.val 23)), (.a (.int .i64 (.i 0)))]) [((.a 0), (.prop 9)), ((.a 23), (.prop 24))])))))))))))))
theorem tree_snapDecode : tree Tryz.prog { absT := [], opq := [25], hv := [], keep := [], link := [], ent := [], turn := [], shr := [], vt := [], mkd := [], rlink := [], pty := [], outl := false, stay := [], snk := [] } Tryz.f29 [(.a (.sl (.v 0) (.v 1) (.v 2)))] [((.a 0), (.prop 3))] 4 = t_snapDecode := by kernel_rfl
-- tideline/tidelinelaw06.speaks: ρ := []
end Go.Proofs.YtdieogcemmnaaaaGreatDoor.RX


/- snap.Decode, told by what tree.whole answers. No condition. -/
namespace Go.Proofs.YtdieogcemmnaaaaGreatDoor
set_option linter.unusedSimpArgs false
set_option linter.unusedVariables false
open Go.Proofs.YtdieogcemmnaaaaGreatDoor RX
set_option maxRecDepth 100000

theorem loopR_len {α : Type} (f : RS → α × RS) : ∀ (n : Nat) (s : RS), (loopR f n s).1.length ≤ n
  | 0, _ => Nat.le_refl _
  | n + 1, s => by
    unfold loopR
    split
    · simp
    · simpa using loopR_len f n _
theorem loopR_len2 {α : Type} {f : RS → α × RS} (hf : Shrinks f) : ∀ (n : Nat) (s : RS), (loopR f n s).1.length ≤ s.1.length + 1
  | 0, _ => by simp [loopR]
  | n + 1, s => by
    unfold loopR
    split
    · simp
    · simp only [List.length_cons]
      cases hw : (f s).2.2 with
      | true => rw [loopR_end f (.inr hw)]; simp
      | false =>
        have h1 := hf s hw
        have h2 := loopR_len2 hf n (f s).2
        omega
theorem loopR_all {α : Type} {f : RS → α × RS} (hf : ∀ s, (f s).2.1.length ≤ s.1.length) : ∀ (n : Nat) (s : RS), ∀ x ∈ (loopR f n s).1, ∃ s', s'.1.length ≤ s.1.length ∧ x = (f s').1
  | 0, _, _, h => by cases h
  | n + 1, s, x, h => by
    unfold loopR at h
    split at h
    · cases h
    · rcases List.mem_cons.1 h with rfl | h
      · exact ⟨s, Nat.le_refl _, rfl⟩
      · obtain ⟨s', h1, h2⟩ := loopR_all hf n _ x h
        exact ⟨s', Nat.le_trans h1 (hf s), h2⟩
theorem listR_fst {α : Type} (f : RS → α × RS) (m : Int) (s : RS) : (listR f m s).1 = [] ∨ (listR f m s).1 = (loopR f (toldR s m).1 (toldR s m).2).1 := by
  unfold listR; split
  · exact .inl rfl
  · exact .inr rfl
theorem toldR_most (s : RS) {m : Int} (h : 0 ≤ m) : ((toldR s m).1 : Int) ≤ m := by
  unfold toldR
  split
  · simpa using h
  · split
    · simpa using h
    · show ((numR s 4).1 : Int) ≤ m; omega
theorem nodeR_le (s : RS) : (nodeR s).2.1.length ≤ s.1.length :=
  Nat.le_trans (listR_le (f := entR) entR_le _ _) (Nat.le_trans (bytesR_le _ _) (Nat.le_trans (numR_le _ _) (Nat.le_trans (numR_le _ _) (numR_le _ _))))
theorem nodes_few (s : RS) : (listR nodeR 64 s).1.length ≤ 64 := by
  rcases listR_fst nodeR 64 s with e | e
  · rw [e]; simp
  · rw [e]
    have := loopR_len nodeR (toldR s 64).1 (toldR s 64).2
    have := toldR_most s (m := 64) (by omega)
    omega
theorem ents_few (s : RS) : ∀ x ∈ (listR nodeR 64 s).1, x.ents.length ≤ s.1.length + 1 := fun x hx => by
  rcases listR_fst nodeR 64 s with e | e
  · rw [e] at hx; cases hx
  · rw [e] at hx
    obtain ⟨s', h1, rfl⟩ := loopR_all nodeR_le _ _ x hx
    have h0 := toldR_len s 64
    have key : ∀ q : RS, q.1.length ≤ s'.1.length → (listR entR 9223372036854775807 q).1.length ≤ s'.1.length + 1 := fun q hq => by
      rcases listR_fst entR 9223372036854775807 q with e2 | e2
      · rw [e2]; simp
      · rw [e2]
        have := loopR_len2 entR_shrinks (toldR q 9223372036854775807).1 (toldR q 9223372036854775807).2
        have := toldR_len q 9223372036854775807
        omega
    have := key (bytesR (numR (numR (numR s' 1).2 1).2 2).2 512).2 (Nat.le_trans (bytesR_le _ _) (Nat.le_trans (numR_le _ _) (Nat.le_trans (numR_le _ _) (numR_le _ _))))
    show (listR entR 9223372036854775807 (bytesR (numR (numR (numR s' 1).2 1).2 2).2 512).2).1.length ≤ _
    omega
/-- What is told by bytes. -/
def decS (wv : List Nd → Bool) (l : List UInt8) : Option (Int × List Nd) := match unwrapS l with
  | none => none
  | some q =>
    let u := intOf64 (numR (q, false) 8).1
    let r := listR nodeR 64 (numR (q, false) 8).2
    if r.2.2 = true ∨ r.2.1 ≠ [] ∨ u < 0 ∨ 4294967296 < u then none else if loadOk wv (wlS r.1) = true then some (u, wlS r.1) else none
def DcPost (wv : List Nd → Bool) (l : List UInt8) (S : HP) (v : Value) : HP := match decS wv l with
  | none => HP.and (v = .tuple #[.int .i64 0, .pointer none, .int .i64 3]) S
  | some (u, T1) => HP.ex fun b : Nat => HP.ex fun t : TS => HP.and (v = .tuple #[.int .i64 u, .pointer (some ⟨b, 0, none⟩), .int .i64 0] ∧ t.pub = T1) (HP.sep S (TRep b t))
theorem decode_ok (wv : List Nd → Bool) (hw : ∀ b t, okN (-1) t.pub = true → (∀ n ∈ t.pub, n.ents.length ≤ 1000000000) → Tri Tryz.prog 161 #[.pointer (some ⟨b, 0, none⟩)] (TRep b t) (fun v => HP.and (v = .bool (wv t.pub)) (TRep b t)))
    (a : Option Addr) (n c : Nat) (l : List UInt8) (S : HP) (hr : RdL S a n (l.map u8v)) (hl : l.length = n) (hc : n ≤ c) (ha : n ≠ 0 → a.isSome = true) (hb : n ≤ 1000000) :
    Tri Tryz.prog 29 #[.slice a n c] S (DcPost wv l S) := by
  refine tri_of_tree (ρ := [.a a, .n n, .n c, .p S]) mixed Tryz.func29 tree_snapDecode ?_
  unfold t_snapDecode
  simp only [T.den, E.prop, E.den, RX.look, F1.app, F2.app, Uni.int_i, Uni.nat_n, Uni.bool_c, Uni.str_s, Uni.adr_a, Uni.val_v, Uni.hp_p, hden, cden, V.den, W.den, A.den, BR.den, SA.den, FV.den, capV, exs, exP, allP, Cur.app, List.map_cons, List.map_nil, List.cons_append, List.nil_append, List.drop_succ_cons, List.drop_zero, List.length_cons, List.length_nil, Nat.zero_add, Nat.reduceAdd, Int.neg_neg, Bool.not_not, List.append_nil, Nat.add_zero, List.getElem?_cons_zero, List.getElem?_cons_succ, Decidable.not_not, semW_eq, semW_load, semW_store, semW_storeC, semW_append, semW_lookup, semW_lookupC, semW_update, semW_updateC, semW_updateK, semW_delete, semW_range, semW_next, semW_entry, semW_nil, ne_eq, Nat.reduceEqDiff, not_false_eq_true]
  refine (unwrap_ok a n c l S hr hl hc ha (by omega)).weak (fun _ _ h => h) ?_
  rintro v R h ⟨a', c', rfl, H⟩
  refine ⟨a', _, c', OwB a' _ c' _, _, S, rfl, ?_, HP.sep_comm H⟩
  cases hu : unwrapS l with
  | none =>
    refine ⟨fun _ => .of fun R h H => ?_, fun h => (by simp at h)⟩
    have : decS wv l = none := by unfold decS; rw [hu]
    unfold DcPost; rw [this]; exact ⟨rfl, H⟩
  | some q =>
    refine ⟨fun h => absurd rfl h, fun _ => ?_⟩
    simp only [Option.getD_some]
    have hq : q.length ≤ 1000000 := by
      unfold unwrapS at hu
      split at hu
      · cases hu
      · split at hu
        · cases hu; rw [List.length_take]; omega
        · cases hu
    refine (rRead_ok a' _ c' q _ (RdL.ow _ _ _ _ _ _) rfl (by omega)).weak (fun _ _ h => h) ?_
    rintro v R h ⟨b, rfl, H⟩
    refine ⟨b, _, _, rfl, ?_, HP.sep_comm H⟩
    refine (rInt_ok b (q, false)).weak (fun _ _ h => h) ?_
    rintro v R h ⟨rfl, H⟩
    refine ⟨_, _, rfl, ?_, H⟩
    have hL : (numR (q, false) 8).2.1.length ≤ 1000000 := Nat.le_trans (numR_le _ _) hq
    refine (listNodes_ok b _ 64 (by omega)).weak (fun _ _ h => h) ?_
    rintro v R h ⟨ea, ec, es, ⟨rfl, hes⟩, H⟩
    refine ⟨ea, _, ec, _, _, rfl, ?_, H⟩
    refine (rEnd_ok b _).weak (fun _ _ h => h) ?_
    rintro v R h ⟨rfl, H⟩
    have hd : decS wv l = if (listR nodeR 64 (numR (q, false) 8).2).2.2 = true ∨ (listR nodeR 64 (numR (q, false) 8).2).2.1 ≠ [] ∨ intOf64 (numR (q, false) 8).1 < 0 ∨ 4294967296 < intOf64 (numR (q, false) 8).1 then none
        else if loadOk wv (wlS (listR nodeR 64 (numR (q, false) 8).2).1) = true then some (intOf64 (numR (q, false) 8).1, wlS (listR nodeR 64 (numR (q, false) 8).2).1) else none := by unfold decS; rw [hu]
    have bad : decS wv l = none → ∀ {A : HP}, HP.ent A S → HP.ent A (DcPost wv l S (.tuple #[.int .i64 0, .pointer none, .int .i64 3])) := fun h A hA => by
      unfold DcPost; rw [h]; exact hA.trans (.of fun R h H => ⟨rfl, H⟩)
    refine ⟨_, _, rfl, ⟨fun h1 => bad ?_ (HP.ent.refl _), fun h1 => ⟨fun h2 => bad ?_ (HP.ent.refl _), fun h2 => ⟨fun h3 => bad ?_ (HP.ent.refl _), fun h3 => ?_⟩⟩⟩, H⟩
    · rw [hd, if_pos]
      by_cases e : (listR nodeR 64 (numR (q, false) 8).2).2.2 = true ∨ (listR nodeR 64 (numR (q, false) 8).2).2.1 ≠ []
      · exact e.elim .inl fun e => .inr (.inl e)
      · exact absurd (if_neg e) h1
    · rw [hd, if_pos (.inr (.inr (.inl h2)))]
    · rw [hd, if_pos (.inr (.inr (.inr h3)))]
    · have h1' : ¬ ((listR nodeR 64 (numR (q, false) 8).2).2.2 = true ∨ (listR nodeR 64 (numR (q, false) 8).2).2.1 ≠ []) := fun e => by rw [if_pos e] at h1; cases h1
      rw [if_neg (fun e => e.elim (fun e => h1' (.inl e)) fun e => e.elim (fun e => h1' (.inr e)) fun e => e.elim h2 h3)] at hd
      have hfew : es.length ≤ 64 := by
        have := nodes_few (numR (q, false) 8).2
        rw [← hes] at this; simpa using this
      have hents : ∀ x ∈ es, x.nd.ents.length ≤ 1000001 := fun x hx => by
        have := ents_few (numR (q, false) 8).2 x.nd (by rw [← hes]; exact List.mem_map.2 ⟨x, hx, rfl⟩)
        omega
      have hT : ((es.map (·.nd)).flatMap (·.ents)).length ≤ 1000000000000 := by
        have := flat_len_le (fun n : Nd => n.ents) 1000001 (es.map (·.nd)) fun n hn => by
          obtain ⟨x, hx, rfl⟩ := List.mem_map.1 hn; exact hents x hx
        rw [List.length_map] at this
        have h2 : es.length * 1000001 ≤ 64 * 1000001 := Nat.mul_le_mul_right _ hfew
        omega
      refine (wholeLinks_ok ea ec es hT (by omega)).weak (fun _ _ h => h) ?_
      rintro v R h ⟨rfl, es', ⟨hm, hl'⟩, H⟩
      refine ⟨_, rfl, ?_, H⟩
      have hents' : ∀ x ∈ es', x.nd.ents.length ≤ 1000000000 := fun x hx => by
        have h1 : x.nd ∈ wlS (es.map (·.nd)) := by rw [← hm]; exact List.mem_map.2 ⟨x, hx, rfl⟩
        obtain ⟨n, hn, he⟩ := List.mem_map.1 h1
        obtain ⟨y, hy, rfl⟩ := List.mem_map.1 hn
        have := hents y hy
        have e2 : x.nd.ents = y.nd.ents := by rw [← he]; unfold wl1; split <;> rfl
        rw [e2]; omega
      rw [← hl']
      refine (load_ok wv hw ea ec es' (by omega) hents').weak (fun _ _ h => h) ?_
      rintro v R h ⟨b2, t2, ⟨hv, hp⟩, H⟩
      rw [hm, hes] at hv hp H
      by_cases hlo : loadOk wv (wlS (listR nodeR 64 (numR (q, false) 8).2).1) = true
      · rw [if_pos hlo] at hv H hd
        refine ⟨.pointer (some ⟨b2, 0, none⟩), TRep b2 t2, 0, _, hv, ⟨fun h => absurd rfl h, fun _ => .of fun R h H => ?_⟩, HP.sep_comm H⟩
        unfold DcPost; rw [hd]
        exact ⟨b2, t2, ⟨rfl, hp hlo⟩, H⟩
      · rw [if_neg hlo] at hv H hd
        refine ⟨.pointer none, HP.tt, 3, _, hv, ⟨fun _ => bad hd (HP.ent.refl _), fun h => (by simp at h)⟩, HP.sep_comm H⟩
end Go.Proofs.YtdieogcemmnaaaaGreatDoor


/- Trees of functions, printed by rx.lean. No condition. -/
namespace Go.Proofs.YtdieogcemmnaaaaGreatDoor.RX
set_option maxRecDepth 100000
-- tideline/replay.New: ρ := []
def t_rpNew : T :=
(.call 17 [] [] [.n, .p] (.w (.a (.ptr (.v 0) 0))) [((.b (.v 0)), (.prop 1))]
(.new
(.new
(.ret (.w (.a (.ptr (.v 3) 0))) [((.b (.v 3)), (.cells [(.int .i64 (.i 0)), (.ptr (.v 0) 0), (.map (.v 2)), (.int .i64 (.i (-1))), (.int .i64 (.i (-1))), (.int .i64 (.i 0)), (.sl .nil (.n 0) (.n 0))] 178)), ((.b (.v 0)), (.prop 1)), ((.b (.v 2)), .emap)]))))
theorem tree_rpNew : tree Tryz.prog { absT := [], opq := [], hv := [], keep := [19, 28, 92, 107, 108, 98, 164, 29], link := [], ent := [], turn := [(18, [0])], shr := [], vt := [], mkd := [], rlink := [], pty := [], outl := false, stay := [], snk := [], rdf := true } Tryz.f34 [] [] 0 = t_rpNew := by kernel_rfl
-- (*tideline/replay.Replica).Next: ρ := [.n r, .i r_next, .n r_tree, .p r_treeP, .n r_answers, .p r_answersP, .i r_upto, .i r_at, .i r_lostAt, .a r_keptBehinda, .n r_keptBehindl, .n r_keptBehindc, .p r_keptBehindP]
def t_rpNext : T :=
(.ret (.w (.a (.int .i64 (.v 1)))) [((.b (.v 0)), (.cells [(.int .i64 (.v 1)), (.ptr (.v 2) 0), (.map (.v 4)), (.int .i64 (.v 6)), (.int .i64 (.v 7)), (.int .i64 (.v 8)), (.sl (.v 9) (.v 10) (.v 11))] 178)), ((.b (.v 2)), (.prop 3)), ((.b (.v 4)), (.prop 5)), ((.a 9), (.prop 12))])
theorem tree_rpNext : tree Tryz.prog { absT := [], opq := [], hv := [], keep := [19, 28, 92, 107, 108, 98, 164, 29], link := [], ent := [], turn := [(18, [0])], shr := [], vt := [], mkd := [], rlink := [], pty := [], outl := false, stay := [], snk := [], rdf := true } Tryz.f38 [(.a (.ptr (.v 0) 0))] [((.b (.v 0)), (.cells [(.int .i64 (.v 1)), (.ptr (.v 2) 0), (.map (.v 4)), (.int .i64 (.v 6)), (.int .i64 (.v 7)), (.int .i64 (.v 8)), (.sl (.v 9) (.v 10) (.v 11))] 178)), ((.b (.v 2)), (.prop 3)), ((.b (.v 4)), (.prop 5)), ((.a 9), (.prop 12))] 13 = t_rpNext := by kernel_rfl
-- (*tideline/replay.Replica).Lost: ρ := [.n r, .i r_next, .n r_tree, .p r_treeP, .n r_answers, .p r_answersP, .i r_upto, .i r_at, .i r_lostAt, .a r_keptBehinda, .n r_keptBehindl, .n r_keptBehindc, .p r_keptBehindP]
def t_rpLost : T :=
(.ret (.w (.a (.bool (.c false)))) [((.b (.v 0)), (.cells [(.int .i64 (.v 1)), (.ptr (.v 2) 0), (.map (.v 4)), (.int .i64 (.v 6)), (.int .i64 (.v 7)), (.int .i64 (.v 8)), (.sl (.v 9) (.v 10) (.v 11))] 178)), ((.b (.v 2)), (.prop 3)), ((.b (.v 4)), (.prop 5)), ((.a 9), (.prop 12))])
theorem tree_rpLost : tree Tryz.prog { absT := [], opq := [], hv := [], keep := [19, 28, 92, 107, 108, 98, 164, 29], link := [], ent := [], turn := [(18, [0])], shr := [], vt := [], mkd := [], rlink := [], pty := [], outl := false, stay := [], snk := [], rdf := true } Tryz.f92 [(.a (.ptr (.v 0) 0))] [((.b (.v 0)), (.cells [(.int .i64 (.v 1)), (.ptr (.v 2) 0), (.map (.v 4)), (.int .i64 (.v 6)), (.int .i64 (.v 7)), (.int .i64 (.v 8)), (.sl (.v 9) (.v 10) (.v 11))] 178)), ((.b (.v 2)), (.prop 3)), ((.b (.v 4)), (.prop 5)), ((.a 9), (.prop 12))] 13 = t_rpLost := by kernel_rfl
-- (*tideline/replay.Replica).do: ρ := [.n r, .i r_next, .n r_tree, .p r_treeP, .n r_answers, .p r_answersP, .i r_upto, .i r_at, .i r_lostAt, .a r_keptBehinda, .n r_keptBehindl, .n r_keptBehindc, .p r_keptBehindP, .i id_Client, .i id_Birth, .i id_Number, .i c_Kind, .s c_Path, .s c_Other, .i c_Off, .i c_N, .a c_Dataa, .n c_Datal, .n c_Datac, .p c_DataP]
def t_rpDo : T :=
(.new
(.new
(.join [.n, .i, .i, .i, .i, .a, .n, .n, .a, .n, .n, .p, .p, .p]
 (.all
  (.call 18 [(.a (.ptr (.v 2) 0)), (.agg [(.int .i64 (.v 16)), (.str (.v 17)), (.str (.v 18)), (.int .i64 (.v 19)), (.int .i64 (.v 20)), (.sl (.v 21) (.v 22) (.v 23))])] [((.b (.v 2)), (.prop 3)), ((.a 21), (.prop 24))] [.i, .i, .i, .i, .a, .n, .n, .p, .a, .n, .n, .p, .p] (.w (.agg [(.int .i64 (.v 27)), (.int .i64 (.v 28)), (.int .i64 (.v 29)), (.int .i64 (.v 30)), (.sl (.v 31) (.v 32) (.v 33)), (.sl (.v 35) (.v 36) (.v 37))])) [((.a 31), (.prop 34)), ((.a 35), (.prop 38)), ((.b (.v 2)), (.prop 39)), ((.a 21), (.prop 24))]
  (.new
  (.again 0 [(.n (.v 40)), (.e (.o1 .neg (.o1 .neg (.v 27)))), (.e (.o1 .neg (.o1 .neg (.v 28)))), (.e (.o1 .neg (.o1 .neg (.v 29)))), (.e (.o1 .neg (.o1 .neg (.v 30)))), (.a (.v 31)), (.e (.o2 .nadd (.v 32) (.n 0))), (.e (.o2 .nadd (.v 33) (.n 0))), (.a (.v 35)), (.e (.o2 .nadd (.v 36) (.n 0))), (.e (.o2 .nadd (.v 37) (.n 0))), (.p [((.a 31), (.prop 34))]), (.p [((.a 35), (.prop 38))]), (.p [((.b (.v 2)), (.prop 39))])])))
  (.new
  (.call 18 [(.a (.ptr (.v 2) 0)), (.agg [(.int .i64 (.v 16)), (.str (.v 17)), (.str (.v 18)), (.int .i64 (.v 19)), (.int .i64 (.v 20)), (.sl (.v 21) (.v 22) (.v 23))])] [((.b (.v 2)), (.prop 3)), ((.a 21), (.prop 24))] [.i, .i, .i, .i, .a, .n, .n, .p, .a, .n, .n, .p, .p] (.w (.agg [(.int .i64 (.v 28)), (.int .i64 (.v 29)), (.int .i64 (.v 30)), (.int .i64 (.v 31)), (.sl (.v 32) (.v 33) (.v 34)), (.sl (.v 36) (.v 37) (.v 38))])) [((.a 32), (.prop 35)), ((.a 36), (.prop 39)), ((.b (.v 2)), (.prop 40)), ((.a 21), (.prop 24))]
  (.again 0 [(.n (.v 27)), (.e (.o1 .neg (.o1 .neg (.v 28)))), (.e (.o1 .neg (.o1 .neg (.v 29)))), (.e (.o1 .neg (.o1 .neg (.v 30)))), (.e (.o1 .neg (.o1 .neg (.v 31)))), (.a (.v 32)), (.e (.o2 .nadd (.v 33) (.n 0))), (.e (.o2 .nadd (.v 34) (.n 0))), (.a (.v 36)), (.e (.o2 .nadd (.v 37) (.n 0))), (.e (.o2 .nadd (.v 38) (.n 0))), (.p [((.a 32), (.prop 35))]), (.p [((.a 36), (.prop 39))]), (.p [((.b (.v 2)), (.prop 40))])]))))
(.read (.lookup 175 (.tmp 19) (.tmp 20) true) 80 [(19, (.w (.a (.map (.v 4))))), (20, (.w (.agg [(.int .i64 (.v 13)), (.int .i64 (.v 14)), (.int .i64 (.v 15))])))] [((.b (.v 4)), (.prop 5))] [.i, .i, .i, .i, .a, .n, .n, .a, .n, .n, .c] (.tup [(.agg [(.int .i64 (.v 41)), (.int .i64 (.v 42)), (.int .i64 (.v 43)), (.int .i64 (.v 44)), (.sl (.v 45) (.v 46) (.v 47)), (.sl (.v 48) (.v 49) (.v 50))]), (.a (.bool (.v 51)))])
(.new
(.br (.o1 .not (.v 51))
 (.op (.mapUpdate 175 (.tmp 29) (.tmp 30) (.tmp 31)) 0 [(29, (.w (.a (.map (.v 4))))), (30, (.w (.agg [(.int .i64 (.v 13)), (.int .i64 (.v 14)), (.int .i64 (.v 15))]))), (31, (.w (.agg [(.int .i64 (.v 28)), (.int .i64 (.v 29)), (.int .i64 (.v 30)), (.int .i64 (.v 31)), (.sl (.v 32) (.v 33) (.v 34)), (.sl (.v 35) (.v 36) (.v 37))])))] [((.b (.v 4)), (.prop 5)), ((.a 32), (.prop 38)), ((.a 35), (.prop 39))] [.p] (.tup []) [((.b (.v 4)), (.prop 53)), ((.a 32), (.prop 38)), ((.a 35), (.prop 39))]
 (.ret (.tup []) [((.b (.v 0)), (.cells [(.int .i64 (.v 1)), (.ptr (.v 2) 0), (.map (.v 4)), (.int .i64 (.v 6)), (.int .i64 (.v 7)), (.int .i64 (.v 8)), (.sl (.v 9) (.v 10) (.v 11))] 178)), ((.b (.v 2)), (.prop 40)), ((.b (.v 4)), (.prop 53)), ((.a 9), (.prop 12)), ((.a 21), (.prop 24))]))
 (.ret (.tup []) [((.b (.v 0)), (.cells [(.int .i64 (.v 1)), (.ptr (.v 2) 0), (.map (.v 4)), (.int .i64 (.v 6)), (.int .i64 (.v 7)), (.int .i64 (.v 8)), (.sl (.v 9) (.v 10) (.v 11))] 178)), ((.b (.v 2)), (.prop 40)), ((.b (.v 4)), (.prop 5)), ((.a 9), (.prop 12)), ((.a 21), (.prop 24))])))))))
theorem tree_rpDo : tree Tryz.prog { absT := [], opq := [], hv := [], keep := [19, 28, 92, 107, 108, 98, 164, 29], link := [], ent := [], turn := [(18, [0])], shr := [], vt := [], mkd := [], rlink := [], pty := [], outl := false, stay := [], snk := [], rdf := true, jn := [((9, 27), some { ss := [.n, .i, .i, .i, .i, .a, .n, .n, .a, .n, .n, .p, .p, .p], n := 41, tv := [(9, none), (10, none), (11, none), (12, none), (13, none), (14, none), (6, some (.w (.a (.ptr (.v 27) 0))))], h := [((.b (.v 27)), (.cells [(.int .i64 (.v 28)), (.int .i64 (.v 29)), (.int .i64 (.v 30)), (.int .i64 (.v 31)), (.sl (.v 32) (.v 33) (.v 34)), (.sl (.v 35) (.v 36) (.v 37))] 31)), ((.a 32), (.prop 38)), ((.a 35), (.prop 39)), ((.b (.v 2)), (.prop 40)), ((.a 21), (.prop 24)), ((.b (.v 26)), (.cells [(.int .i64 (.v 16)), (.str (.v 17)), (.str (.v 18)), (.int .i64 (.v 19)), (.int .i64 (.v 20)), (.sl (.v 21) (.v 22) (.v 23))] 34)), ((.b (.v 25)), (.cells [(.int .i64 (.v 13)), (.int .i64 (.v 14)), (.int .i64 (.v 15))] 57)), ((.b (.v 0)), (.cells [(.int .i64 (.v 1)), (.ptr (.v 2) 0), (.map (.v 4)), (.int .i64 (.v 6)), (.int .i64 (.v 7)), (.int .i64 (.v 8)), (.sl (.v 9) (.v 10) (.v 11))] 178)), ((.b (.v 4)), (.prop 5)), ((.a 9), (.prop 12))], lk := [] })] } Tryz.f165 [(.a (.ptr (.v 0) 0)), (.agg [(.int .i64 (.v 13)), (.int .i64 (.v 14)), (.int .i64 (.v 15))]), (.agg [(.int .i64 (.v 16)), (.str (.v 17)), (.str (.v 18)), (.int .i64 (.v 19)), (.int .i64 (.v 20)), (.sl (.v 21) (.v 22) (.v 23))])] [((.b (.v 0)), (.cells [(.int .i64 (.v 1)), (.ptr (.v 2) 0), (.map (.v 4)), (.int .i64 (.v 6)), (.int .i64 (.v 7)), (.int .i64 (.v 8)), (.sl (.v 9) (.v 10) (.v 11))] 178)), ((.b (.v 2)), (.prop 3)), ((.b (.v 4)), (.prop 5)), ((.a 9), (.prop 12)), ((.a 21), (.prop 24))] 25 = t_rpDo := by kernel_rfl
-- (*tideline/replay.Replica).takeCall: ρ := [.n r, .i r_next, .n r_tree, .p r_treeP, .n r_answers, .p r_answersP, .i r_upto, .i r_at, .i r_lostAt, .a r_keptBehinda, .n r_keptBehindl, .n r_keptBehindc, .p r_keptBehindP, .i at, .i log_Kind, .i log_Id_Client, .i log_Id_Birth, .i log_Id_Number, .i log_Stream, .i log_Back, .a log_Payloada, .n log_Payloadl, .n log_Payloadc, .p log_PayloadP]
def t_rpTakeCall : T :=
(.new
(.call 164 [(.a (.sl (.v 20) (.v 21) (.v 22)))] [((.a 20), (.prop 23))] [.i, .s, .s, .i, .i, .a, .n, .n, .p, .i] (.tup [(.agg [(.int .i64 (.v 25)), (.str (.v 26)), (.str (.v 27)), (.int .i64 (.v 28)), (.int .i64 (.v 29)), (.sl (.v 30) (.v 31) (.v 32))]), (.a (.int .i64 (.v 34)))]) [((.a 30), (.prop 33)), ((.a 20), (.prop 23))]
(.new
(.br (.o1 .not (.o2 .eq (.v 34) (.i 0)))
 (.ret (.tup []) [((.b (.v 0)), (.cells [(.int .i64 (.v 1)), (.ptr (.v 2) 0), (.map (.v 4)), (.int .i64 (.v 6)), (.int .i64 (.v 7)), (.int .i64 (.v 8)), (.sl (.v 9) (.v 10) (.v 11))] 178)), ((.b (.v 2)), (.prop 3)), ((.b (.v 4)), (.prop 5)), ((.a 9), (.prop 12)), ((.a 20), (.prop 23))])
 (.call 92 [(.a (.ptr (.v 0) 0))] [((.b (.v 0)), (.cells [(.int .i64 (.v 1)), (.ptr (.v 2) 0), (.map (.v 4)), (.int .i64 (.v 6)), (.int .i64 (.v 7)), (.int .i64 (.v 8)), (.sl (.v 9) (.v 10) (.v 11))] 178)), ((.b (.v 2)), (.prop 3)), ((.b (.v 4)), (.prop 5)), ((.a 9), (.prop 12))] [.c] (.w (.a (.bool (.v 36)))) [((.b (.v 0)), (.cells [(.int .i64 (.v 1)), (.ptr (.v 2) 0), (.map (.v 4)), (.int .i64 (.v 6)), (.int .i64 (.v 7)), (.int .i64 (.v 8)), (.sl (.v 9) (.v 10) (.v 11))] 178)), ((.b (.v 2)), (.prop 3)), ((.b (.v 4)), (.prop 5)), ((.a 9), (.prop 12))]
 (.br (.v 36)
  (.new
  (.op (.call ⟨.builtin .append, #[(.tmp 22), (.tmp 28)], #[176, 176]⟩) 176 [(22, (.w (.a (.sl (.v 9) (.v 10) (.v 11))))), (28, (.w (.a (.sl (.b (.v 37) 0) (.n 1) (.n 1)))))] [((.a 9), (.prop 12)), ((.b (.v 37)), (.cells [(.int .i64 (.v 13)), (.int .i64 (.v 15)), (.int .i64 (.v 16)), (.int .i64 (.v 17)), (.int .i64 (.v 25)), (.str (.v 26)), (.str (.v 27)), (.int .i64 (.v 28)), (.int .i64 (.v 29)), (.sl (.v 30) (.v 31) (.v 32))] 257)), ((.a 30), (.prop 33))] [.a, .n, .n, .p] (.w (.a (.sl (.v 38) (.v 39) (.v 40)))) [((.a 38), (.prop 41)), ((.b (.v 37)), (.cells [(.int .i64 (.v 13)), (.int .i64 (.v 15)), (.int .i64 (.v 16)), (.int .i64 (.v 17)), (.int .i64 (.v 25)), (.str (.v 26)), (.str (.v 27)), (.int .i64 (.v 28)), (.int .i64 (.v 29)), (.sl (.v 30) (.v 31) (.v 32))] 257)), ((.a 30), (.prop 33))]
  (.ret (.tup []) [((.b (.v 0)), (.cells [(.int .i64 (.v 1)), (.ptr (.v 2) 0), (.map (.v 4)), (.int .i64 (.v 6)), (.int .i64 (.v 7)), (.int .i64 (.v 8)), (.sl (.v 38) (.v 39) (.v 40))] 178)), ((.b (.v 2)), (.prop 3)), ((.b (.v 4)), (.prop 5)), ((.a 38), (.prop 41)), ((.a 20), (.prop 23))])))
  (.call 165 [(.a (.ptr (.v 0) 0)), (.agg [(.int .i64 (.v 15)), (.int .i64 (.v 16)), (.int .i64 (.v 17))]), (.agg [(.int .i64 (.v 25)), (.str (.v 26)), (.str (.v 27)), (.int .i64 (.v 28)), (.int .i64 (.v 29)), (.sl (.v 30) (.v 31) (.v 32))])] [((.b (.v 0)), (.cells [(.int .i64 (.v 1)), (.ptr (.v 2) 0), (.map (.v 4)), (.int .i64 (.v 6)), (.int .i64 (.v 7)), (.int .i64 (.v 8)), (.sl (.v 9) (.v 10) (.v 11))] 178)), ((.b (.v 2)), (.prop 3)), ((.b (.v 4)), (.prop 5)), ((.a 9), (.prop 12)), ((.a 30), (.prop 33))] [.i, .n, .p, .n, .p, .i, .i, .i, .a, .n, .n, .p, .p] (.tup []) [((.b (.v 0)), (.cells [(.int .i64 (.v 37)), (.ptr (.v 38) 0), (.map (.v 40)), (.int .i64 (.v 42)), (.int .i64 (.v 43)), (.int .i64 (.v 44)), (.sl (.v 45) (.v 46) (.v 47))] 178)), ((.b (.v 38)), (.prop 39)), ((.b (.v 40)), (.prop 41)), ((.a 45), (.prop 48)), ((.a 30), (.prop 49))]
  (.ret (.tup []) [((.b (.v 0)), (.cells [(.int .i64 (.v 37)), (.ptr (.v 38) 0), (.map (.v 40)), (.int .i64 (.v 42)), (.int .i64 (.v 43)), (.int .i64 (.v 44)), (.sl (.v 45) (.v 46) (.v 47))] 178)), ((.b (.v 38)), (.prop 39)), ((.b (.v 40)), (.prop 41)), ((.a 45), (.prop 48)), ((.a 20), (.prop 23))]))))))))
theorem tree_rpTakeCall : tree Tryz.prog { absT := [], opq := [], hv := [], keep := [19, 28, 92, 107, 108, 98, 164, 29], link := [], ent := [], turn := [(18, [0])], shr := [], vt := [], mkd := [], rlink := [], pty := [], outl := false, stay := [], snk := [], rdf := true } Tryz.f99 [(.a (.ptr (.v 0) 0)), (.a (.int .i64 (.v 13))), (.agg [(.int .i64 (.v 14)), (.int .i64 (.v 15)), (.int .i64 (.v 16)), (.int .i64 (.v 17)), (.int .i64 (.v 18)), (.int .i64 (.v 19)), (.sl (.v 20) (.v 21) (.v 22))])] [((.b (.v 0)), (.cells [(.int .i64 (.v 1)), (.ptr (.v 2) 0), (.map (.v 4)), (.int .i64 (.v 6)), (.int .i64 (.v 7)), (.int .i64 (.v 8)), (.sl (.v 9) (.v 10) (.v 11))] 178)), ((.b (.v 2)), (.prop 3)), ((.b (.v 4)), (.prop 5)), ((.a 9), (.prop 12)), ((.a 20), (.prop 23))] 24 = t_rpTakeCall := by kernel_rfl
-- (*tideline/replay.Replica).takeSnap: ρ := [.n r, .i r_next, .v r_tree, .p r_treeP, .n r_answers, .p r_answersP, .i r_upto, .i r_at, .i r_lostAt, .a r_keptBehinda, .n r_keptBehindl, .n r_keptBehindc, .p r_keptBehindP, .i at, .i log_Kind, .i log_Id_Client, .i log_Id_Birth, .i log_Id_Number, .i log_Stream, .i log_Back, .a log_Payloada, .n log_Payloadl, .n log_Payloadc, .p log_PayloadP]
def t_rpTakeSnap : T :=
(.new
(.call 29 [(.a (.sl (.v 20) (.v 21) (.v 22)))] [((.a 20), (.prop 23))] [.i, .v, .p, .i] (.tup [(.a (.int .i64 (.v 25))), (.a (.val 26)), (.a (.int .i64 (.v 28)))]) [((.a 26), (.prop 27)), ((.a 20), (.prop 23))]
(.br (.o1 .not (.o2 .eq (.v 28) (.i 0)))
 (.ret (.tup []) [((.b (.v 0)), (.cells [(.int .i64 (.v 1)), (.val 2), (.map (.v 4)), (.int .i64 (.v 6)), (.int .i64 (.v 7)), (.int .i64 (.v 8)), (.sl (.v 9) (.v 10) (.v 11))] 178)), ((.a 2), (.prop 3)), ((.b (.v 4)), (.prop 5)), ((.a 9), (.prop 12)), ((.a 20), (.prop 23))])
 (.br (.o2 .lt (.v 13) (.v 25))
  (.ret (.tup []) [((.b (.v 0)), (.cells [(.int .i64 (.v 1)), (.val 2), (.map (.v 4)), (.int .i64 (.v 6)), (.int .i64 (.v 7)), (.int .i64 (.v 8)), (.sl (.v 9) (.v 10) (.v 11))] 178)), ((.a 2), (.prop 3)), ((.b (.v 4)), (.prop 5)), ((.a 9), (.prop 12)), ((.a 20), (.prop 23))])
  (.br (.o2 .lt (.v 6) (.v 25))
   (.call 92 [(.a (.ptr (.v 0) 0))] [((.b (.v 0)), (.cells [(.int .i64 (.v 1)), (.val 2), (.map (.v 4)), (.int .i64 (.v 25)), (.int .i64 (.v 13)), (.int .i64 (.v 8)), (.sl (.v 9) (.v 10) (.v 11))] 178)), ((.a 2), (.prop 3)), ((.b (.v 4)), (.prop 5)), ((.a 9), (.prop 12))] [.c] (.w (.a (.bool (.v 29)))) [((.b (.v 0)), (.cells [(.int .i64 (.v 1)), (.val 2), (.map (.v 4)), (.int .i64 (.v 25)), (.int .i64 (.v 13)), (.int .i64 (.v 8)), (.sl (.v 9) (.v 10) (.v 11))] 178)), ((.a 2), (.prop 3)), ((.b (.v 4)), (.prop 5)), ((.a 9), (.prop 12))]
   (.br (.o1 .not (.v 29))
    (.ret (.tup []) [((.b (.v 0)), (.cells [(.int .i64 (.v 1)), (.val 2), (.map (.v 4)), (.int .i64 (.v 25)), (.int .i64 (.v 13)), (.int .i64 (.v 8)), (.sl (.v 9) (.v 10) (.v 11))] 178)), ((.a 2), (.prop 3)), ((.b (.v 4)), (.prop 5)), ((.a 9), (.prop 12)), ((.a 20), (.prop 23))])
    (.br (.o2 .lt (.v 25) (.v 8))
     (.ret (.tup []) [((.b (.v 0)), (.cells [(.int .i64 (.v 1)), (.val 2), (.map (.v 4)), (.int .i64 (.v 25)), (.int .i64 (.v 13)), (.int .i64 (.v 8)), (.sl (.v 9) (.v 10) (.v 11))] 178)), ((.a 2), (.prop 3)), ((.b (.v 4)), (.prop 5)), ((.a 9), (.prop 12)), ((.a 20), (.prop 23))])
     (.fail 81))))
   (.call 92 [(.a (.ptr (.v 0) 0))] [((.b (.v 0)), (.cells [(.int .i64 (.v 1)), (.val 2), (.map (.v 4)), (.int .i64 (.v 6)), (.int .i64 (.v 7)), (.int .i64 (.v 8)), (.sl (.v 9) (.v 10) (.v 11))] 178)), ((.a 2), (.prop 3)), ((.b (.v 4)), (.prop 5)), ((.a 9), (.prop 12))] [.c] (.w (.a (.bool (.v 29)))) [((.b (.v 0)), (.cells [(.int .i64 (.v 1)), (.val 2), (.map (.v 4)), (.int .i64 (.v 6)), (.int .i64 (.v 7)), (.int .i64 (.v 8)), (.sl (.v 9) (.v 10) (.v 11))] 178)), ((.a 2), (.prop 3)), ((.b (.v 4)), (.prop 5)), ((.a 9), (.prop 12))]
   (.br (.o1 .not (.v 29))
    (.ret (.tup []) [((.b (.v 0)), (.cells [(.int .i64 (.v 1)), (.val 2), (.map (.v 4)), (.int .i64 (.v 6)), (.int .i64 (.v 7)), (.int .i64 (.v 8)), (.sl (.v 9) (.v 10) (.v 11))] 178)), ((.a 2), (.prop 3)), ((.b (.v 4)), (.prop 5)), ((.a 9), (.prop 12)), ((.a 20), (.prop 23))])
    (.br (.o2 .lt (.v 25) (.v 8))
     (.ret (.tup []) [((.b (.v 0)), (.cells [(.int .i64 (.v 1)), (.val 2), (.map (.v 4)), (.int .i64 (.v 6)), (.int .i64 (.v 7)), (.int .i64 (.v 8)), (.sl (.v 9) (.v 10) (.v 11))] 178)), ((.a 2), (.prop 3)), ((.b (.v 4)), (.prop 5)), ((.a 9), (.prop 12)), ((.a 20), (.prop 23))])
     (.fail 81)))))))))
theorem tree_rpTakeSnap : tree Tryz.prog { absT := [], opq := [25], hv := [(0, [(.b (.v 0)), (.b (.v 4)), (.a 9), (.a 26)])], keep := [19, 28, 92, 107, 108, 98, 164, 29], link := [], ent := [], turn := [(18, [0])], shr := [], vt := [], mkd := [], rlink := [], pty := [], outl := false, stay := [], snk := [], rdf := true } Tryz.f100 [(.a (.ptr (.v 0) 0)), (.a (.int .i64 (.v 13))), (.agg [(.int .i64 (.v 14)), (.int .i64 (.v 15)), (.int .i64 (.v 16)), (.int .i64 (.v 17)), (.int .i64 (.v 18)), (.int .i64 (.v 19)), (.sl (.v 20) (.v 21) (.v 22))])] [((.b (.v 0)), (.cells [(.int .i64 (.v 1)), (.val 2), (.map (.v 4)), (.int .i64 (.v 6)), (.int .i64 (.v 7)), (.int .i64 (.v 8)), (.sl (.v 9) (.v 10) (.v 11))] 178)), ((.a 2), (.prop 3)), ((.b (.v 4)), (.prop 5)), ((.a 9), (.prop 12)), ((.a 20), (.prop 23))] 24 = t_rpTakeSnap := by kernel_rfl
-- (*tideline/replay.Replica).Take: ρ := [.n r, .i r_next, .n r_tree, .p r_treeP, .n r_answers, .p r_answersP, .i r_upto, .i r_at, .i r_lostAt, .a r_keptBehinda, .n r_keptBehindl, .n r_keptBehindc, .p r_keptBehindP, .i x_What, .a x_Dataa, .n x_Datal, .n x_Datac, .p x_DataP]
def t_rpTake : T :=
(.new
(.need (.o1 (.inr .i64) (.o2 .add (.v 1) (.i 1)))
(.br (.o1 .not (.o2 .eq (.v 13) (.i 1)))
 (.ret (.tup []) [((.b (.v 0)), (.cells [(.int .i64 (.o2 .add (.v 1) (.i 1))), (.ptr (.v 2) 0), (.map (.v 4)), (.int .i64 (.v 6)), (.int .i64 (.v 7)), (.int .i64 (.v 8)), (.sl (.v 9) (.v 10) (.v 11))] 178)), ((.b (.v 2)), (.prop 3)), ((.b (.v 4)), (.prop 5)), ((.a 9), (.prop 12)), ((.a 14), (.prop 17))])
 (.call 98 [(.a (.sl (.v 14) (.v 15) (.v 16)))] [((.a 14), (.prop 17))] [.i, .i, .i, .i, .i, .i, .a, .n, .n, .p, .i] (.tup [(.agg [(.int .i64 (.v 19)), (.int .i64 (.v 20)), (.int .i64 (.v 21)), (.int .i64 (.v 22)), (.int .i64 (.v 23)), (.int .i64 (.v 24)), (.sl (.v 25) (.v 26) (.v 27))]), (.a (.int .i64 (.v 29)))]) [((.a 25), (.prop 28)), ((.a 14), (.prop 17))]
 (.new
 (.br (.o1 .not (.o2 .eq (.v 29) (.i 0)))
  (.ret (.tup []) [((.b (.v 0)), (.cells [(.int .i64 (.o2 .add (.v 1) (.i 1))), (.ptr (.v 2) 0), (.map (.v 4)), (.int .i64 (.v 6)), (.int .i64 (.v 7)), (.int .i64 (.v 8)), (.sl (.v 9) (.v 10) (.v 11))] 178)), ((.b (.v 2)), (.prop 3)), ((.b (.v 4)), (.prop 5)), ((.a 9), (.prop 12)), ((.a 14), (.prop 17))])
  (.br (.o2 .eq (.v 19) (.i 1))
   (.call 99 [(.a (.ptr (.v 0) 0)), (.a (.int .i64 (.v 1))), (.agg [(.int .i64 (.v 19)), (.int .i64 (.v 20)), (.int .i64 (.v 21)), (.int .i64 (.v 22)), (.int .i64 (.v 23)), (.int .i64 (.v 24)), (.sl (.v 25) (.v 26) (.v 27))])] [((.b (.v 0)), (.cells [(.int .i64 (.o2 .add (.v 1) (.i 1))), (.ptr (.v 2) 0), (.map (.v 4)), (.int .i64 (.v 6)), (.int .i64 (.v 7)), (.int .i64 (.v 8)), (.sl (.v 9) (.v 10) (.v 11))] 178)), ((.b (.v 2)), (.prop 3)), ((.b (.v 4)), (.prop 5)), ((.a 9), (.prop 12)), ((.a 25), (.prop 28))] [.i, .n, .p, .n, .p, .i, .i, .i, .a, .n, .n, .p, .p] (.tup []) [((.b (.v 0)), (.cells [(.int .i64 (.v 31)), (.ptr (.v 32) 0), (.map (.v 34)), (.int .i64 (.v 36)), (.int .i64 (.v 37)), (.int .i64 (.v 38)), (.sl (.v 39) (.v 40) (.v 41))] 178)), ((.b (.v 32)), (.prop 33)), ((.b (.v 34)), (.prop 35)), ((.a 39), (.prop 42)), ((.a 25), (.prop 43))]
   (.ret (.tup []) [((.b (.v 0)), (.cells [(.int .i64 (.v 31)), (.ptr (.v 32) 0), (.map (.v 34)), (.int .i64 (.v 36)), (.int .i64 (.v 37)), (.int .i64 (.v 38)), (.sl (.v 39) (.v 40) (.v 41))] 178)), ((.b (.v 32)), (.prop 33)), ((.b (.v 34)), (.prop 35)), ((.a 39), (.prop 42)), ((.a 14), (.prop 17))]))
   (.br (.o2 .eq (.v 19) (.i 2))
    (.call 100 [(.a (.ptr (.v 0) 0)), (.a (.int .i64 (.v 1))), (.agg [(.int .i64 (.v 19)), (.int .i64 (.v 20)), (.int .i64 (.v 21)), (.int .i64 (.v 22)), (.int .i64 (.v 23)), (.int .i64 (.v 24)), (.sl (.v 25) (.v 26) (.v 27))])] [((.b (.v 0)), (.cells [(.int .i64 (.o2 .add (.v 1) (.i 1))), (.ptr (.v 2) 0), (.map (.v 4)), (.int .i64 (.v 6)), (.int .i64 (.v 7)), (.int .i64 (.v 8)), (.sl (.v 9) (.v 10) (.v 11))] 178)), ((.b (.v 2)), (.prop 3)), ((.b (.v 4)), (.prop 5)), ((.a 9), (.prop 12)), ((.a 25), (.prop 28))] [.i, .n, .p, .n, .p, .i, .i, .i, .a, .n, .n, .p, .p] (.tup []) [((.b (.v 0)), (.cells [(.int .i64 (.v 31)), (.ptr (.v 32) 0), (.map (.v 34)), (.int .i64 (.v 36)), (.int .i64 (.v 37)), (.int .i64 (.v 38)), (.sl (.v 39) (.v 40) (.v 41))] 178)), ((.b (.v 32)), (.prop 33)), ((.b (.v 34)), (.prop 35)), ((.a 39), (.prop 42)), ((.a 25), (.prop 43))]
    (.ret (.tup []) [((.b (.v 0)), (.cells [(.int .i64 (.v 31)), (.ptr (.v 32) 0), (.map (.v 34)), (.int .i64 (.v 36)), (.int .i64 (.v 37)), (.int .i64 (.v 38)), (.sl (.v 39) (.v 40) (.v 41))] 178)), ((.b (.v 32)), (.prop 33)), ((.b (.v 34)), (.prop 35)), ((.a 39), (.prop 42)), ((.a 14), (.prop 17))]))
    (.ret (.tup []) [((.b (.v 0)), (.cells [(.int .i64 (.o2 .add (.v 1) (.i 1))), (.ptr (.v 2) 0), (.map (.v 4)), (.int .i64 (.v 6)), (.int .i64 (.v 7)), (.int .i64 (.v 8)), (.sl (.v 9) (.v 10) (.v 11))] 178)), ((.b (.v 2)), (.prop 3)), ((.b (.v 4)), (.prop 5)), ((.a 9), (.prop 12)), ((.a 14), (.prop 17))])))))))))
theorem tree_rpTake : tree Tryz.prog { absT := [], opq := [], hv := [], keep := [19, 28, 92, 107, 108, 98, 164, 29], link := [], ent := [], turn := [(18, [0])], shr := [], vt := [], mkd := [], rlink := [], pty := [], outl := false, stay := [], snk := [], rdf := true } Tryz.f35 [(.a (.ptr (.v 0) 0)), (.agg [(.int .i64 (.v 13)), (.sl (.v 14) (.v 15) (.v 16))])] [((.b (.v 0)), (.cells [(.int .i64 (.v 1)), (.ptr (.v 2) 0), (.map (.v 4)), (.int .i64 (.v 6)), (.int .i64 (.v 7)), (.int .i64 (.v 8)), (.sl (.v 9) (.v 10) (.v 11))] 178)), ((.b (.v 2)), (.prop 3)), ((.b (.v 4)), (.prop 5)), ((.a 9), (.prop 12)), ((.a 14), (.prop 17))] 18 = t_rpTake := by kernel_rfl
-- (*tideline/replay.Replica).Answer: ρ := [.n r, .i r_next, .n r_tree, .p r_treeP, .n r_answers, .p r_answersP, .i r_upto, .i r_at, .i r_lostAt, .a r_keptBehinda, .n r_keptBehindl, .n r_keptBehindc, .p r_keptBehindP, .i id_Client, .i id_Birth, .i id_Number]
def t_rpAnswer : T :=
(.new
(.new
(.read (.lookup 175 (.tmp 12) (.tmp 13) true) 80 [(12, (.w (.a (.map (.v 4))))), (13, (.w (.agg [(.int .i64 (.v 13)), (.int .i64 (.v 14)), (.int .i64 (.v 15))])))] [((.b (.v 4)), (.prop 5))] [.i, .i, .i, .i, .a, .n, .n, .a, .n, .n, .c] (.tup [(.agg [(.int .i64 (.v 18)), (.int .i64 (.v 19)), (.int .i64 (.v 20)), (.int .i64 (.v 21)), (.sl (.v 22) (.v 23) (.v 24)), (.sl (.v 25) (.v 26) (.v 27))]), (.a (.bool (.v 28)))])
(.new
(.br (.o1 .not (.v 28))
 (.ret (.tup [(.agg [(.int .i64 (.i 0)), (.int .i64 (.i 0)), (.int .i64 (.i 0)), (.int .i64 (.i 0)), (.sl .nil (.n 0) (.n 0)), (.sl .nil (.n 0) (.n 0))]), (.a (.bool (.c false)))]) [((.b (.v 0)), (.cells [(.int .i64 (.v 1)), (.ptr (.v 2) 0), (.map (.v 4)), (.int .i64 (.v 6)), (.int .i64 (.v 7)), (.int .i64 (.v 8)), (.sl (.v 9) (.v 10) (.v 11))] 178)), ((.b (.v 2)), (.prop 3)), ((.b (.v 4)), (.prop 5)), ((.a 9), (.prop 12))])
 (.call 107 [(.a (.sl (.v 22) (.v 23) (.v 24)))] [((.b (.v 4)), (.prop 5))] [.a, .n, .n, .p] (.w (.a (.sl (.v 30) (.v 31) (.v 32)))) [((.a 30), (.prop 33)), ((.b (.v 4)), (.prop 5))]
 (.call 108 [(.a (.sl (.v 25) (.v 26) (.v 27)))] [((.b (.v 4)), (.prop 5))] [.a, .n, .n, .p] (.w (.a (.sl (.v 34) (.v 35) (.v 36)))) [((.a 34), (.prop 37)), ((.b (.v 4)), (.prop 5))]
 (.ret (.tup [(.agg [(.int .i64 (.v 18)), (.int .i64 (.v 19)), (.int .i64 (.v 20)), (.int .i64 (.v 21)), (.sl (.v 30) (.v 31) (.v 32)), (.sl (.v 34) (.v 35) (.v 36))]), (.a (.bool (.c true)))]) [((.b (.v 0)), (.cells [(.int .i64 (.v 1)), (.ptr (.v 2) 0), (.map (.v 4)), (.int .i64 (.v 6)), (.int .i64 (.v 7)), (.int .i64 (.v 8)), (.sl (.v 9) (.v 10) (.v 11))] 178)), ((.b (.v 2)), (.prop 3)), ((.b (.v 4)), (.prop 5)), ((.a 9), (.prop 12)), ((.a 30), (.prop 33)), ((.a 34), (.prop 37))]))))))))
theorem tree_rpAnswer : tree Tryz.prog { absT := [], opq := [], hv := [], keep := [19, 28, 92, 107, 108, 98, 164, 29], link := [], ent := [], turn := [(18, [0])], shr := [], vt := [], mkd := [], rlink := [], pty := [], outl := false, stay := [], snk := [], rdf := true } Tryz.f43 [(.a (.ptr (.v 0) 0)), (.agg [(.int .i64 (.v 13)), (.int .i64 (.v 14)), (.int .i64 (.v 15))])] [((.b (.v 0)), (.cells [(.int .i64 (.v 1)), (.ptr (.v 2) 0), (.map (.v 4)), (.int .i64 (.v 6)), (.int .i64 (.v 7)), (.int .i64 (.v 8)), (.sl (.v 9) (.v 10) (.v 11))] 178)), ((.b (.v 2)), (.prop 3)), ((.b (.v 4)), (.prop 5)), ((.a 9), (.prop 12))] 16 = t_rpAnswer := by kernel_rfl
-- (*tideline/replay.Replica).Nodes: ρ := [.n r, .i r_next, .n r_tree, .p r_treeP, .n r_answers, .p r_answersP, .i r_upto, .i r_at, .i r_lostAt, .a r_keptBehinda, .n r_keptBehindl, .n r_keptBehindc, .p r_keptBehindP]
def t_rpNodes : T :=
(.call 92 [(.a (.ptr (.v 0) 0))] [((.b (.v 0)), (.cells [(.int .i64 (.v 1)), (.ptr (.v 2) 0), (.map (.v 4)), (.int .i64 (.v 6)), (.int .i64 (.v 7)), (.int .i64 (.v 8)), (.sl (.v 9) (.v 10) (.v 11))] 178)), ((.b (.v 2)), (.prop 3)), ((.b (.v 4)), (.prop 5)), ((.a 9), (.prop 12))] [.c] (.w (.a (.bool (.v 13)))) [((.b (.v 0)), (.cells [(.int .i64 (.v 1)), (.ptr (.v 2) 0), (.map (.v 4)), (.int .i64 (.v 6)), (.int .i64 (.v 7)), (.int .i64 (.v 8)), (.sl (.v 9) (.v 10) (.v 11))] 178)), ((.b (.v 2)), (.prop 3)), ((.b (.v 4)), (.prop 5)), ((.a 9), (.prop 12))]
(.br (.v 13)
 (.ret (.w (.a (.sl .nil (.n 0) (.n 0)))) [((.b (.v 0)), (.cells [(.int .i64 (.v 1)), (.ptr (.v 2) 0), (.map (.v 4)), (.int .i64 (.v 6)), (.int .i64 (.v 7)), (.int .i64 (.v 8)), (.sl (.v 9) (.v 10) (.v 11))] 178)), ((.b (.v 2)), (.prop 3)), ((.b (.v 4)), (.prop 5)), ((.a 9), (.prop 12))])
 (.call 19 [(.a (.ptr (.v 2) 0))] [((.b (.v 2)), (.prop 3))] [.a, .n, .n, .p] (.w (.a (.sl (.v 14) (.v 15) (.v 16)))) [((.a 14), (.prop 17)), ((.b (.v 2)), (.prop 3))]
 (.ret (.w (.a (.sl (.v 14) (.v 15) (.v 16)))) [((.b (.v 0)), (.cells [(.int .i64 (.v 1)), (.ptr (.v 2) 0), (.map (.v 4)), (.int .i64 (.v 6)), (.int .i64 (.v 7)), (.int .i64 (.v 8)), (.sl (.v 9) (.v 10) (.v 11))] 178)), ((.b (.v 2)), (.prop 3)), ((.b (.v 4)), (.prop 5)), ((.a 9), (.prop 12)), ((.a 14), (.prop 17))]))))
theorem tree_rpNodes : tree Tryz.prog { absT := [], opq := [], hv := [], keep := [19, 28, 92, 107, 108, 98, 164, 29], link := [], ent := [], turn := [(18, [0])], shr := [], vt := [], mkd := [], rlink := [], pty := [], outl := false, stay := [], snk := [], rdf := true } Tryz.f37 [(.a (.ptr (.v 0) 0))] [((.b (.v 0)), (.cells [(.int .i64 (.v 1)), (.ptr (.v 2) 0), (.map (.v 4)), (.int .i64 (.v 6)), (.int .i64 (.v 7)), (.int .i64 (.v 8)), (.sl (.v 9) (.v 10) (.v 11))] 178)), ((.b (.v 2)), (.prop 3)), ((.b (.v 4)), (.prop 5)), ((.a 9), (.prop 12))] 13 = t_rpNodes := by kernel_rfl
-- (*tideline/replay.Replica).Snap: ρ := [.n r, .i r_next, .n r_tree, .p r_treeP, .n r_answers, .p r_answersP, .i r_upto, .i r_at, .i r_lostAt, .a r_keptBehinda, .n r_keptBehindl, .n r_keptBehindc, .p r_keptBehindP]
def t_rpSnap : T :=
(.call 92 [(.a (.ptr (.v 0) 0))] [((.b (.v 0)), (.cells [(.int .i64 (.v 1)), (.ptr (.v 2) 0), (.map (.v 4)), (.int .i64 (.v 6)), (.int .i64 (.v 7)), (.int .i64 (.v 8)), (.sl (.v 9) (.v 10) (.v 11))] 178)), ((.b (.v 2)), (.prop 3)), ((.b (.v 4)), (.prop 5)), ((.a 9), (.prop 12))] [.c] (.w (.a (.bool (.v 13)))) [((.b (.v 0)), (.cells [(.int .i64 (.v 1)), (.ptr (.v 2) 0), (.map (.v 4)), (.int .i64 (.v 6)), (.int .i64 (.v 7)), (.int .i64 (.v 8)), (.sl (.v 9) (.v 10) (.v 11))] 178)), ((.b (.v 2)), (.prop 3)), ((.b (.v 4)), (.prop 5)), ((.a 9), (.prop 12))]
(.br (.v 13)
 (.ret (.tup [(.a (.sl .nil (.n 0) (.n 0))), (.a (.int .i64 (.i 5)))]) [((.b (.v 0)), (.cells [(.int .i64 (.v 1)), (.ptr (.v 2) 0), (.map (.v 4)), (.int .i64 (.v 6)), (.int .i64 (.v 7)), (.int .i64 (.v 8)), (.sl (.v 9) (.v 10) (.v 11))] 178)), ((.b (.v 2)), (.prop 3)), ((.b (.v 4)), (.prop 5)), ((.a 9), (.prop 12))])
 (.call 28 [(.a (.int .i64 (.v 1))), (.a (.ptr (.v 2) 0))] [((.b (.v 2)), (.prop 3))] [.a, .n, .n, .p] (.w (.a (.sl (.v 14) (.v 15) (.v 16)))) [((.a 14), (.prop 17)), ((.b (.v 2)), (.prop 3))]
 (.ret (.tup [(.a (.sl (.v 14) (.v 15) (.v 16))), (.a (.int .i64 (.i 0)))]) [((.b (.v 0)), (.cells [(.int .i64 (.v 1)), (.ptr (.v 2) 0), (.map (.v 4)), (.int .i64 (.v 6)), (.int .i64 (.v 7)), (.int .i64 (.v 8)), (.sl (.v 9) (.v 10) (.v 11))] 178)), ((.b (.v 2)), (.prop 3)), ((.b (.v 4)), (.prop 5)), ((.a 9), (.prop 12)), ((.a 14), (.prop 17))]))))
theorem tree_rpSnap : tree Tryz.prog { absT := [], opq := [], hv := [], keep := [19, 28, 92, 107, 108, 98, 164, 29], link := [], ent := [], turn := [(18, [0])], shr := [], vt := [], mkd := [], rlink := [], pty := [], outl := false, stay := [], snk := [], rdf := true } Tryz.f44 [(.a (.ptr (.v 0) 0))] [((.b (.v 0)), (.cells [(.int .i64 (.v 1)), (.ptr (.v 2) 0), (.map (.v 4)), (.int .i64 (.v 6)), (.int .i64 (.v 7)), (.int .i64 (.v 8)), (.sl (.v 9) (.v 10) (.v 11))] 178)), ((.b (.v 2)), (.prop 3)), ((.b (.v 4)), (.prop 5)), ((.a 9), (.prop 12))] 13 = t_rpSnap := by kernel_rfl
-- (*tideline/replay.Replica).Snapped: ρ := [.n r, .i r_next, .n r_tree, .p r_treeP, .n r_answers, .p r_answersP, .i r_upto, .i r_at, .i r_lostAt, .a r_keptBehinda, .n r_keptBehindl, .n r_keptBehindc, .p r_keptBehindP]
def t_bclone : T :=
(.br (.o1 .not (.o1 .isSome (.v 0)))
 (.ret (.w (.a (.sl .nil (.n 0) (.n 0)))) [((.a 0), (.prop 3))])
 (.new
 (.op (.call ⟨.builtin .append, #[(.tmp 5), (.tmp 6)], #[28, 28]⟩) 28 [(5, (.w (.a (.sl (.b (.v 4) 0) (.n 0) (.n 0))))), (6, (.w (.a (.sl (.v 0) (.v 1) (.v 2)))))] [((.b (.v 4)), (.cells [] 5)), ((.a 0), (.prop 3))] [.a, .n, .n, .p] (.w (.a (.sl (.v 5) (.v 6) (.v 7)))) [((.a 5), (.prop 8)), ((.a 0), (.prop 3))]
 (.ret (.w (.a (.sl (.v 5) (.v 6) (.v 7)))) [((.a 0), (.prop 3)), ((.a 5), (.prop 8))]))))
theorem tree_bclone : tree Tryz.prog { absT := [], opq := [], hv := [], keep := [], link := [], ent := [], turn := [], shr := [], vt := [], mkd := [], rlink := [], pty := [], outl := false, stay := [], snk := [] } Tryz.f107 [(.a (.sl (.v 0) (.v 1) (.v 2)))] [((.a 0), (.prop 3))] 4 = t_bclone := by kernel_rfl
-- slices.Clone[[]string,string]: ρ := [.a sa, .n sl, .n sc, .p sP]
def t_cloneS : T :=
(.br (.o1 .not (.o1 .isSome (.v 0)))
 (.ret (.w (.a (.sl .nil (.n 0) (.n 0)))) [((.a 0), (.prop 3))])
 (.new
 (.op (.call ⟨.builtin .append, #[(.tmp 5), (.tmp 6)], #[29, 29]⟩) 29 [(5, (.w (.a (.sl (.b (.v 4) 0) (.n 0) (.n 0))))), (6, (.w (.a (.sl (.v 0) (.v 1) (.v 2)))))] [((.b (.v 4)), (.cells [] 9)), ((.a 0), (.prop 3))] [.a, .n, .n, .p] (.w (.a (.sl (.v 5) (.v 6) (.v 7)))) [((.a 5), (.prop 8)), ((.a 0), (.prop 3))]
 (.ret (.w (.a (.sl (.v 5) (.v 6) (.v 7)))) [((.a 0), (.prop 3)), ((.a 5), (.prop 8))]))))
theorem tree_cloneS : tree Tryz.prog { absT := [], opq := [], hv := [], keep := [], link := [], ent := [], turn := [], shr := [], vt := [], mkd := [], rlink := [], pty := [], outl := false, stay := [], snk := [] } Tryz.f108 [(.a (.sl (.v 0) (.v 1) (.v 2)))] [((.a 0), (.prop 3))] 4 = t_cloneS := by kernel_rfl
end Go.Proofs.YtdieogcemmnaaaaGreatDoor.RX


/- A replica that has a tree: its calls as exact contracts. No condition. -/
namespace Go.Proofs.YtdieogcemmnaaaaGreatDoor
set_option linter.unusedSimpArgs false
set_option linter.unusedVariables false
open Go.Proofs.YtdieogcemmnaaaaGreatDoor RX
set_option maxRecDepth 100000

/-! copies -/
theorem bcl_ok (S : HP) (a : Option Addr) (n c : Nat) (l : List UInt8) (hr : RdL S a n (l.map u8v)) (hl : l.length = n) (hb : n ≤ 140737488355328) :
    Tri Tryz.prog 107 #[.slice a n c] S (fun v => HP.ex fun a' => HP.ex fun c' => HP.and (v = .slice a' n c') (HP.sep (OwB a' n c' l) S)) := by
  refine tri_of_tree (ρ := [.a a, .n n, .n c, .p S]) mixed Tryz.func107 tree_bclone ?_
  unfold t_bclone
  simp only [T.den, E.prop, E.den, RX.look, F1.app, F2.app, Uni.int_i, Uni.nat_n, Uni.bool_c, Uni.str_s, Uni.adr_a, Uni.val_v, Uni.hp_p, hden, cden, V.den, W.den, A.den, BR.den, SA.den, FV.den, capV, exs, exP, allP, Cur.app, List.map_cons, List.map_nil, List.cons_append, List.nil_append, List.drop_succ_cons, List.drop_zero, List.length_cons, List.length_nil, Nat.zero_add, Nat.reduceAdd, Int.neg_neg, Bool.not_not, List.append_nil, Nat.add_zero, List.getElem?_cons_zero, List.getElem?_cons_succ, Decidable.not_not, semW_eq, semW_load, semW_store, semW_storeC, semW_append, semW_lookup, semW_lookupC, semW_update, semW_updateC, semW_updateK, semW_delete, semW_range, semW_next, semW_entry, semW_nil, ne_eq, Nat.reduceEqDiff, not_false_eq_true]
  refine ⟨fun ha => .of fun R h H => ?_, fun ha x => ?_⟩
  · have hn : n = 0 := hr.none R h H (by simpa using ha)
    subst hn
    obtain rfl : l = [] := List.eq_nil_of_length_eq_zero hl
    exact ⟨none, 0, rfl, HP.tt_sep H |> fun H => HP.sep_mono H (fun x _ => OwC.nil _ _ R x) fun _ h => h⟩
  · have := append8 (some ⟨x, 0, none⟩) 0 0 [] S a n c l hr hl (fun _ => by simpa [Option.isSome_iff_ne_none] using ha) (by omega)
    refine this.weak (fun R h H => HP.sep_mono H (fun y hy => ⟨rfl, .inr ⟨x, #[], rfl, hy, Nat.le_refl _, by unfold maxLen; omega, rfl, rfl⟩⟩) fun _ h => h) ?_
    rintro v R h ⟨a', c', rfl, H⟩
    rw [Nat.zero_add, List.nil_append] at H
    exact ⟨a', n, c', OwB a' n c' l, by rw [Nat.zero_add], .of fun R' h' H' => ⟨a', c', rfl, HP.sep_comm H'⟩, H⟩
theorem cls_ok (S : HP) (a : Option Addr) (n c : Nat) (l : List Nm) (hr : RdL S a n (l.map sE)) (hl : l.length = n) (hb : n ≤ 1000000000) :
    Tri Tryz.prog 108 #[.slice a n c] S (fun v => HP.ex fun a' => HP.ex fun c' => HP.and (v = .slice a' n c') (HP.sep (OwS a' n c' l) S)) := by
  refine tri_of_tree (ρ := [.a a, .n n, .n c, .p S]) mixed Tryz.func108 tree_cloneS ?_
  unfold t_cloneS
  simp only [T.den, E.prop, E.den, RX.look, F1.app, F2.app, Uni.int_i, Uni.nat_n, Uni.bool_c, Uni.str_s, Uni.adr_a, Uni.val_v, Uni.hp_p, hden, cden, V.den, W.den, A.den, BR.den, SA.den, FV.den, capV, exs, exP, allP, Cur.app, List.map_cons, List.map_nil, List.cons_append, List.nil_append, List.drop_succ_cons, List.drop_zero, List.length_cons, List.length_nil, Nat.zero_add, Nat.reduceAdd, Int.neg_neg, Bool.not_not, List.append_nil, Nat.add_zero, List.getElem?_cons_zero, List.getElem?_cons_succ, Decidable.not_not, semW_eq, semW_load, semW_store, semW_storeC, semW_append, semW_lookup, semW_lookupC, semW_update, semW_updateC, semW_updateK, semW_delete, semW_range, semW_next, semW_entry, semW_nil, ne_eq, Nat.reduceEqDiff, not_false_eq_true]
  refine ⟨fun ha => .of fun R h H => ?_, fun ha x => ?_⟩
  · have hn : n = 0 := hr.none R h H (by simpa using ha)
    subst hn
    obtain rfl : l = [] := List.eq_nil_of_length_eq_zero hl
    exact ⟨none, 0, rfl, HP.tt_sep H |> fun H => HP.sep_mono H (fun x _ => OwC.nil _ _ R x) fun _ h => h⟩
  · have ha : a.isSome = true := by simpa using ha
    obtain ⟨ad, rfl⟩ := Option.isSome_iff_exists.1 ha
    obtain ⟨i, hi, h1, h2, h3⟩ := info_parts infoStr
    have := append_ok 29 29 9 i _ undSs hi h1 (by rw [h2]; rfl) (by omega) (some ⟨x, 0, none⟩) 0 0 [] S ad n c (l.map sE) hr.rd (by simp [hl, h2]) (sE_one l) (by unfold maxLen; omega) (by rw [h3]; omega)
    rw [h2] at this
    refine this.weak (fun R h H => HP.sep_mono H (fun y hy => ⟨rfl, .inr ⟨x, #[], rfl, hy, Nat.le_refl _, by unfold maxLen; omega, rfl, rfl⟩⟩) fun _ h => h) ?_
    rintro v R h ⟨a', c', rfl, H⟩
    rw [Nat.zero_add, List.nil_append] at H
    exact ⟨a', n, c', OwS a' n c' l, by rw [Nat.zero_add], .of fun R' h' H' => ⟨a', c', rfl, HP.sep_comm H'⟩, H⟩

/-! answers -/
def ansV (x : AnsM) (da : Option Addr) (dc : Nat) (na : Option Addr) (nc : Nat) : Value := .agg #[.int .i64 x.err, .int .i64 x.kind, .int .i64 x.size, .int .i64 x.links, .slice da x.data.length dc, .slice na x.names.length nc]
def AnsH (v : Value) (x : AnsM) : HP := HP.ex fun da : Option Addr => HP.ex fun dc : Nat => HP.ex fun na : Option Addr => HP.ex fun nc : Nat => HP.and (v = ansV x da dc na nc ∧ x.data.length ≤ 1000000 ∧ x.names.length ≤ 1000000) (HP.both (RoB da x.data.length x.data) (RoS na x.names.length x.names))
theorem AnsH.pers : Pers AnsH := fun v x R h h' ⟨da, dc, na, nc, e, H1, H2⟩ => ⟨da, dc, na, nc, e, H1, H2⟩
abbrev AnsMap (m : Nat) (f : IdM → Option AnsM) : HP := MapE AnsH idV m f
theorem undAM : Tryz.prog.underlying 175 = some (.map 57 31) := by kernel_rfl
def ans0 : Value := .agg #[.int .i64 0, .int .i64 0, .int .i64 0, .int .i64 0, .slice none 0 0, .slice none 0 0]
theorem infoAns : (Tryz.prog.info? 31).map (fun i => (i.zero, i.size)) = some (some ans0, 6) := by kernel_rfl
theorem infoAns' : ∃ i, Tryz.prog.info? 31 = some i ∧ i.zero = some ans0 ∧ i.size = 6 := by
  have h := infoAns
  obtain ⟨i, h1, h2⟩ := Option.map_eq_some_iff.1 h
  simp only [Prod.mk.injEq] at h2
  exact ⟨i, h1, h2.1, h2.2⟩
/-- What stands in the map, told. -/
theorem ansAt {m : Nat} {f : IdM → Option AnsM} {l : AL IdM} {c : Nat} {R h : PH} (H : (MapH AnsH idV m f l c).p R h) (k : IdM) :
    (f k = none ∧ alFind k l = none) ∨ ∃ x da dc na nc, f k = some x ∧ alFind k l = some (ansV x da dc na nc) ∧ x.data.length ≤ 1000000 ∧ x.names.length ≤ 1000000 ∧ (RoB da x.data.length x.data).p R h ∧ (RoS na x.names.length x.names).p R h := by
  cases hf : f k with
  | none => exact .inl ⟨rfl, MapH.no H hf⟩
  | some x =>
    obtain ⟨v, h1, da, dc, na, nc, ⟨rfl, e1, e2⟩, h2, h3⟩ := MapH.yes H AnsH.pers hf h
    exact .inr ⟨x, da, dc, na, nc, rfl, h1, e1, e2, h2, h3⟩
/-! the replica -/
structure RpS where
  nx : Int
  tb : Nat
  t : TS
  am : Nat
  f : IdM → Option AnsM
  up : Int
  at' : Int
  la : Int
def RpC (b : Nat) (s : RpS) : HP := HP.one b (.cells #[.int .i64 s.nx, .pointer (some ⟨s.tb, 0, none⟩), .map (some s.am), .int .i64 s.up, .int .i64 s.at', .int .i64 s.la, .slice none 0 0] 178 (0, 0))
def RpRep (b : Nat) (s : RpS) : HP := HP.sep (RpC b s) (HP.sep (TRep s.tb s.t) (HP.sep (AnsMap s.am s.f) HP.tt))
/-- .. with what a call hands in beside it. -/
def RpX (b : Nat) (s : RpS) (K : HP) : HP := HP.sep (RpC b s) (HP.sep (TRep s.tb s.t) (HP.sep (AnsMap s.am s.f) (HP.sep HP.tt K)))
theorem RpX.of {b : Nat} {s : RpS} {K : HP} {R h : PH} (H : (HP.sep (RpRep b s) K).p R h) : (RpX b s K).p R h := by
  have H1 := HP.sep_assoc H
  refine HP.sep_mono H1 (fun _ h => h) fun x hx => ?_
  have H2 := HP.sep_assoc hx
  exact HP.sep_mono H2 (fun _ h => h) fun y hy => HP.sep_assoc hy
theorem RpX.to {b : Nat} {s : RpS} {K : HP} {R h : PH} (H : (RpX b s K).p R h) : (HP.sep (RpRep b s) K).p R h :=
  HP.sep_assoc' (HP.sep_mono H (fun _ h => h) fun x hx => HP.sep_assoc' (HP.sep_mono hx (fun _ h => h) fun y hy => HP.sep_assoc' hy))
theorem rpNew_ok : Tri Tryz.prog 34 #[] HP.tt (fun v => HP.ex fun b : Nat => HP.ex fun s : RpS => HP.and (v = .pointer (some ⟨b, 0, none⟩) ∧ s.nx = 0 ∧ s.up = -1 ∧ s.at' = -1 ∧ s.la = 0 ∧ s.t.pub = newT ∧ s.f = fun _ => none) (RpRep b s)) := by
  refine tri_of_tree (ρ := []) mixed Tryz.func34 tree_rpNew ?_
  unfold t_rpNew
  simp only [T.den, E.prop, E.den, RX.look, F1.app, F2.app, Uni.int_i, Uni.nat_n, Uni.bool_c, Uni.str_s, Uni.adr_a, Uni.val_v, Uni.hp_p, hden, cden, V.den, W.den, A.den, BR.den, SA.den, FV.den, capV, exs, exP, allP, Cur.app, List.map_cons, List.map_nil, List.cons_append, List.nil_append, List.drop_succ_cons, List.drop_zero, List.length_cons, List.length_nil, Nat.zero_add, Nat.reduceAdd, Int.neg_neg, Bool.not_not, List.append_nil, Nat.add_zero, List.getElem?_cons_zero, List.getElem?_cons_succ, Decidable.not_not, semW_eq, semW_load, semW_store, semW_storeC, semW_append, semW_lookup, semW_lookupC, semW_update, semW_updateC, semW_updateK, semW_delete, semW_range, semW_next, semW_entry, semW_nil, ne_eq, Nat.reduceEqDiff, not_false_eq_true]
  refine tNew_ok.weak (fun _ _ h => h) ?_
  rintro v R h ⟨tb, t0, ⟨rfl, h0⟩, H⟩
  refine ⟨tb, TRep tb t0, rfl, ?_, H⟩
  intro m b
  refine .of fun R h H => ⟨b, ⟨0, tb, t0, m, fun _ => none, -1, -1, 0⟩, ⟨rfl, rfl, rfl, rfl, rfl, h0, rfl⟩, ?_⟩
  exact HP.sep_mono H (fun _ h => h) fun x hx => HP.sep_mono hx (fun _ h => h) fun y hy => HP.sep_tt (MapE.new AnsH idV m hy)
variable {b : Nat} {s : RpS}
theorem rpNext_ok : Tri Tryz.prog 38 #[.pointer (some ⟨b, 0, none⟩)] (RpRep b s) (fun v => HP.and (v = .int .i64 s.nx) (RpRep b s)) := by
  refine tri_of_tree (ρ := [.n b, .i s.nx, .n s.tb, .p (TRep s.tb s.t), .n s.am, .p (AnsMap s.am s.f), .i s.up, .i s.at', .i s.la, .a none, .n 0, .n 0, .p HP.tt]) mixed Tryz.func38 tree_rpNext ?_
  unfold t_rpNext
  simp only [T.den, E.prop, E.den, RX.look, F1.app, F2.app, Uni.int_i, Uni.nat_n, Uni.bool_c, Uni.str_s, Uni.adr_a, Uni.val_v, Uni.hp_p, hden, cden, V.den, W.den, A.den, BR.den, SA.den, FV.den, capV, exs, exP, allP, Cur.app, List.map_cons, List.map_nil, List.cons_append, List.nil_append, List.drop_succ_cons, List.drop_zero, List.length_cons, List.length_nil, Nat.zero_add, Nat.reduceAdd, Int.neg_neg, Bool.not_not, List.append_nil, Nat.add_zero, List.getElem?_cons_zero, List.getElem?_cons_succ, Decidable.not_not, semW_eq, semW_load, semW_store, semW_storeC, semW_append, semW_lookup, semW_lookupC, semW_update, semW_updateC, semW_updateK, semW_delete, semW_range, semW_next, semW_entry, semW_nil, ne_eq, Nat.reduceEqDiff, not_false_eq_true]
  exact .of fun R h H => ⟨trivial, H⟩
theorem rpLost_ok : Tri Tryz.prog 92 #[.pointer (some ⟨b, 0, none⟩)] (RpRep b s) (fun v => HP.and (v = .bool false) (RpRep b s)) := by
  refine tri_of_tree (ρ := [.n b, .i s.nx, .n s.tb, .p (TRep s.tb s.t), .n s.am, .p (AnsMap s.am s.f), .i s.up, .i s.at', .i s.la, .a none, .n 0, .n 0, .p HP.tt]) mixed Tryz.func92 tree_rpLost ?_
  unfold t_rpLost
  simp only [T.den, E.prop, E.den, RX.look, F1.app, F2.app, Uni.int_i, Uni.nat_n, Uni.bool_c, Uni.str_s, Uni.adr_a, Uni.val_v, Uni.hp_p, hden, cden, V.den, W.den, A.den, BR.den, SA.den, FV.den, capV, exs, exP, allP, Cur.app, List.map_cons, List.map_nil, List.cons_append, List.nil_append, List.drop_succ_cons, List.drop_zero, List.length_cons, List.length_nil, Nat.zero_add, Nat.reduceAdd, Int.neg_neg, Bool.not_not, List.append_nil, Nat.add_zero, List.getElem?_cons_zero, List.getElem?_cons_succ, Decidable.not_not, semW_eq, semW_load, semW_store, semW_storeC, semW_append, semW_lookup, semW_lookupC, semW_update, semW_updateC, semW_updateK, semW_delete, semW_range, semW_next, semW_entry, semW_nil, ne_eq, Nat.reduceEqDiff, not_false_eq_true]
  exact .of fun R h H => ⟨trivial, H⟩
theorem rpNodes_ok {B : Nat} (hB : B ≤ 100000) (wf : TWf B s.t.pub) : Tri Tryz.prog 37 #[.pointer (some ⟨b, 0, none⟩)] (RpRep b s)
    (fun v => HP.ex fun a => HP.ex fun c => HP.and (v = .slice a s.t.pub.length c) (HP.sep (NodesR a s.t.pub.length s.t.pub) (RpRep b s))) := by
  refine tri_of_tree (ρ := [.n b, .i s.nx, .n s.tb, .p (TRep s.tb s.t), .n s.am, .p (AnsMap s.am s.f), .i s.up, .i s.at', .i s.la, .a none, .n 0, .n 0, .p HP.tt]) mixed Tryz.func37 tree_rpNodes ?_
  unfold t_rpNodes
  simp only [T.den, E.prop, E.den, RX.look, F1.app, F2.app, Uni.int_i, Uni.nat_n, Uni.bool_c, Uni.str_s, Uni.adr_a, Uni.val_v, Uni.hp_p, hden, cden, V.den, W.den, A.den, BR.den, SA.den, FV.den, capV, exs, exP, allP, Cur.app, List.map_cons, List.map_nil, List.cons_append, List.nil_append, List.drop_succ_cons, List.drop_zero, List.length_cons, List.length_nil, Nat.zero_add, Nat.reduceAdd, Int.neg_neg, Bool.not_not, List.append_nil, Nat.add_zero, List.getElem?_cons_zero, List.getElem?_cons_succ, Decidable.not_not, semW_eq, semW_load, semW_store, semW_storeC, semW_append, semW_lookup, semW_lookupC, semW_update, semW_updateC, semW_updateK, semW_delete, semW_range, semW_next, semW_entry, semW_nil, ne_eq, Nat.reduceEqDiff, not_false_eq_true]
  refine rpLost_ok.weak (fun _ _ h => h) ?_
  rintro v R h ⟨rfl, H⟩
  refine ⟨false, rfl, ⟨fun h => (by cases h), fun _ => ?_⟩, H⟩
  clear H
  refine (tNodes_ok hB wf).weak (fun _ _ h => h) ?_
  rintro v R h ⟨a, c, rfl, H⟩
  refine ⟨a, _, c, NodesR a s.t.pub.length s.t.pub, rfl, .of fun R h H => ⟨a, c, rfl, ?_⟩, H⟩
  exact HP.pick [_, _, _, _, _] [4, 0, 1, 2, 3] (by decide) rfl H
theorem rpSnap_ok {B : Nat} (hB : B ≤ 100000) (wf : TWf B s.t.pub) : Tri Tryz.prog 44 #[.pointer (some ⟨b, 0, none⟩)] (RpRep b s)
    (fun v => HP.ex fun a => HP.ex fun c => HP.and (v = .tuple #[.slice a (snapS s.nx s.t.pub).length c, .int .i64 0]) (HP.sep (OwB a (snapS s.nx s.t.pub).length c (snapS s.nx s.t.pub)) (RpRep b s))) := by
  refine tri_of_tree (ρ := [.n b, .i s.nx, .n s.tb, .p (TRep s.tb s.t), .n s.am, .p (AnsMap s.am s.f), .i s.up, .i s.at', .i s.la, .a none, .n 0, .n 0, .p HP.tt]) mixed Tryz.func44 tree_rpSnap ?_
  unfold t_rpSnap
  simp only [T.den, E.prop, E.den, RX.look, F1.app, F2.app, Uni.int_i, Uni.nat_n, Uni.bool_c, Uni.str_s, Uni.adr_a, Uni.val_v, Uni.hp_p, hden, cden, V.den, W.den, A.den, BR.den, SA.den, FV.den, capV, exs, exP, allP, Cur.app, List.map_cons, List.map_nil, List.cons_append, List.nil_append, List.drop_succ_cons, List.drop_zero, List.length_cons, List.length_nil, Nat.zero_add, Nat.reduceAdd, Int.neg_neg, Bool.not_not, List.append_nil, Nat.add_zero, List.getElem?_cons_zero, List.getElem?_cons_succ, Decidable.not_not, semW_eq, semW_load, semW_store, semW_storeC, semW_append, semW_lookup, semW_lookupC, semW_update, semW_updateC, semW_updateK, semW_delete, semW_range, semW_next, semW_entry, semW_nil, ne_eq, Nat.reduceEqDiff, not_false_eq_true]
  refine rpLost_ok.weak (fun _ _ h => h) ?_
  rintro v R h ⟨rfl, H⟩
  refine ⟨false, rfl, ⟨fun h => (by cases h), fun _ => ?_⟩, H⟩
  clear H
  refine (encode_ok hB wf s.nx).weak (fun _ _ h => h) ?_
  rintro v R h ⟨a, c, rfl, H⟩
  refine ⟨a, _, c, OwB a _ c (snapS s.nx s.t.pub), rfl, .of fun R h H => ⟨a, c, rfl, ?_⟩, HP.sep_comm H⟩
  exact HP.pick [_, _, _, _, _] [4, 0, 1, 2, 3] (by decide) rfl H
/-- A call's answer, as it is kept. -/
def keepA (f : IdM → Option AnsM) (k : IdM) (x : AnsM) : IdM → Option AnsM := match f k with
  | none => fput f k (some x)
  | some _ => f
theorem lookA {m : Nat} {f : IdM → Option AnsM} {l : AL IdM} {c : Nat} (k : IdM) : ORead Tryz.prog (lookS 175 (.map (some m)) (idV k) true) (MapH AnsH idV m f l c) (.tuple #[(alFind k l).getD ans0, .bool (alFind k l).isSome]) := by
  obtain ⟨i, hi, hz, _⟩ := infoAns'
  exact look_ok (c := c) (l := l) idK undAM hi hz k true fun R h H => MapH.at H
/-- What a key stands for, where the map is told by its entries. -/
def ansF (f : IdM → Option AnsM) (l : AL IdM) (k : IdM) : Prop := (f k = none ∧ alFind k l = none) ∨ ∃ x da dc na nc, f k = some x ∧ alFind k l = some (ansV x da dc na nc) ∧ x.data.length ≤ 1000000 ∧ x.names.length ≤ 1000000
theorem ansFact {m : Nat} {f : IdM → Option AnsM} {l : AL IdM} {c : Nat} (k : IdM) {R h : PH} (H : (MapH AnsH idV m f l c).p R h) : ansF f l k := by
  rcases ansAt H k with h | ⟨x, da, dc, na, nc, h1, h2, h3, h4, _⟩
  · exact .inl h
  · exact .inr ⟨x, da, dc, na, nc, h1, h2, h3, h4⟩
theorem ansRd {m : Nat} {f : IdM → Option AnsM} {l : AL IdM} {c : Nat} {k : IdM} {x : AnsM} {da : Option Addr} {dc : Nat} {na : Option Addr} {nc : Nat} (hf : f k = some x) (ha : alFind k l = some (ansV x da dc na nc)) {R h : PH} (H : (MapH AnsH idV m f l c).p R h) :
    (RoB da x.data.length x.data).p R h ∧ (RoS na x.names.length x.names).p R h := by
  rcases ansAt H k with ⟨h, _⟩ | ⟨y, da', dc', na', nc', h1, h2, _, _, h3, h4⟩
  · rw [h] at hf; cases hf
  · rw [h1] at hf; cases hf
    rw [h2] at ha
    have e := Option.some.inj ha
    unfold ansV at e
    simp only [Value.agg.injEq, Array.mk.injEq, List.cons.injEq, Value.slice.injEq, and_true, true_and] at e
    obtain ⟨⟨e1, _⟩, e2, _⟩ := e
    rw [← e1, ← e2]
    exact ⟨h3, h4⟩
theorem rdImp {S : HP} {a : Option Addr} {n : Nat} {xs : List Value} (h : ∀ R x, S.p R x → (RoC 1 a n xs).p R x) : RdL S a n xs := ⟨Rd.impR (RdL.ro 1 a n xs).rd h, fun R x H e => (RdL.ro 1 a n xs).none R x (h R x H) e⟩
def RpM (b : Nat) (s : RpS) (l : AL IdM) (c : Nat) (K : HP) : HP := HP.sep (RpC b s) (HP.sep (TRep s.tb s.t) (HP.sep (MapH AnsH idV s.am s.f l c) (HP.sep HP.tt K)))
theorem RpM.back {l : AL IdM} {c : Nat} {K : HP} {R h : PH} (H : (RpM b s l c K).p R h) : (RpX b s K).p R h :=
  HP.sep_mono H (fun _ h => h) fun x hx => HP.sep_mono hx (fun _ h => h) fun y hy => HP.sep_mono hy (fun _ h => ⟨l, c, h⟩) fun _ h => h
theorem Tri.rpM {P : Program} {f : FuncId} {args : Array Value} {K : HP} {B : Value → HP} (t : ∀ l c, Tri P f args (RpM b s l c K) B) : Tri P f args (RpX b s K) B :=
  (Tri.ex (A := fun l : AL IdM => HP.ex fun c : Nat => RpM b s l c K) fun l => Tri.ex fun c => t l c).weak (fun R h ⟨h1, h2, d, l1, l2, HC, ⟨h3, h4, d2, l3, l4, HT, ⟨h5, h6, d3, l5, l6, ⟨l, c, HA⟩, HK⟩⟩⟩ => ⟨l, c, h1, h2, d, l1, l2, HC, h3, h4, d2, l3, l4, HT, h5, h6, d3, l5, l6, HA, HK⟩) fun _ _ _ h => h
theorem RpM.map {l : AL IdM} {c : Nat} {K : HP} {R h : PH} (H : (RpM b s l c K).p R h) : (MapH AnsH idV s.am s.f l c).p R h := HP.sep_left (HP.sep_right (HP.sep_right H))
def noAns : AnsM := ⟨0, 0, 0, 0, [], []⟩
def ansOr (f : IdM → Option AnsM) (k : IdM) : AnsM := (f k).getD noAns
set_option maxHeartbeats 1000000 in
theorem rpAnswer_ok (k : IdM) : Tri Tryz.prog 43 #[.pointer (some ⟨b, 0, none⟩), idV k] (RpRep b s)
    (fun v => HP.ex fun da : Option Addr => HP.ex fun dc : Nat => HP.ex fun na : Option Addr => HP.ex fun nc : Nat => HP.and (v = .tuple #[ansV (ansOr s.f k) da dc na nc, .bool (s.f k).isSome]) (HP.sep (OwB da (ansOr s.f k).data.length dc (ansOr s.f k).data) (HP.sep (OwS na (ansOr s.f k).names.length nc (ansOr s.f k).names) (RpRep b s)))) := by
  refine (Tri.rpM (K := HP.tt) (b := b) (s := s) fun l c => ?_).weak (fun R h H => RpX.of (HP.sep_tt H)) fun _ _ _ h => h
  have back : ∀ {R h}, (RpM b s l c HP.tt).p R h → (RpRep b s).p R h := fun H => HP.sep_left (RpX.to (RpM.back H))
  refine Tri.fact (φ := ansF s.f l k) (fun R h H => ansFact k (RpM.map H)) fun hA => ?_
  refine Tri.weak (A := HP.sep (RpC b s) (HP.sep (TRep s.tb s.t) (HP.sep (MapH AnsH idV s.am s.f l c) HP.tt))) ?_ (fun R h H => HP.sep_mono H (fun _ h => h) fun x hx => HP.sep_mono hx (fun _ h => h) fun y hy => HP.sep_mono hy (fun _ h => h) fun _ _ => trivial) fun _ _ _ h => h
  have back : ∀ {R h}, (HP.sep (RpC b s) (HP.sep (TRep s.tb s.t) (HP.sep (MapH AnsH idV s.am s.f l c) HP.tt))).p R h → (RpRep b s).p R h := fun H => HP.sep_mono H (fun _ h => h) fun x hx => HP.sep_mono hx (fun _ h => h) fun y hy => HP.sep_mono hy (fun _ h => ⟨l, c, h⟩) fun _ h => h
  refine tri_of_tree (ρ := [.n b, .i s.nx, .n s.tb, .p (TRep s.tb s.t), .n s.am, .p (MapH AnsH idV s.am s.f l c), .i s.up, .i s.at', .i s.la, .a none, .n 0, .n 0, .p HP.tt, .i k.1, .i k.2.1, .i k.2.2]) mixed Tryz.func43 tree_rpAnswer ?_
  unfold t_rpAnswer
  simp only [T.den, E.prop, E.den, RX.look, F1.app, F2.app, Uni.int_i, Uni.nat_n, Uni.bool_c, Uni.str_s, Uni.adr_a, Uni.val_v, Uni.hp_p, hden, cden, V.den, W.den, A.den, BR.den, SA.den, FV.den, capV, exs, exP, allP, Cur.app, List.map_cons, List.map_nil, List.cons_append, List.nil_append, List.drop_succ_cons, List.drop_zero, List.length_cons, List.length_nil, Nat.zero_add, Nat.reduceAdd, Int.neg_neg, Bool.not_not, List.append_nil, Nat.add_zero, List.getElem?_cons_zero, List.getElem?_cons_succ, Decidable.not_not, semW_eq, semW_load, semW_store, semW_storeC, semW_append, semW_lookup, semW_lookupC, semW_update, semW_updateC, semW_updateK, semW_delete, semW_range, semW_next, semW_entry, semW_nil, ne_eq, Nat.reduceEqDiff, not_false_eq_true]
  intro _ _
  have hlk := lookA (m := s.am) (f := s.f) (l := l) (c := c) k
  rcases hA with ⟨hf, ha⟩ | ⟨x, da, dc, na, nc, hf, ha, hd, hn⟩
  · rw [ha] at hlk
    refine ⟨0, 0, 0, 0, none, 0, 0, none, 0, 0, false, hlk, fun _ => ⟨fun _ => .of fun R h H => ⟨none, 0, none, 0, ?_, ?_⟩, fun h => (by cases h)⟩⟩
    · unfold ansOr; rw [hf]; rfl
    · unfold ansOr; rw [hf]
      exact HP.tt_sep (back H) |> fun H => HP.sep_mono H (fun y _ => OwC.nil _ _ R y) fun y hy => HP.tt_sep hy |> fun H => HP.sep_mono H (fun z _ => OwC.nil _ _ R z) fun _ h => h
  · rw [ha] at hlk
    have e : ansOr s.f k = x := by unfold ansOr; rw [hf]; rfl
    rw [e]
    refine ⟨x.err, x.kind, x.size, x.links, da, x.data.length, dc, na, x.names.length, nc, true, hlk, fun _ => ⟨fun h => absurd rfl h, fun _ => ?_⟩⟩
    refine (bcl_ok _ da x.data.length dc x.data (rdImp fun R h H => (ansRd hf ha H).1) rfl (by omega)).weak (fun _ _ h => h) ?_
    rintro v R h ⟨a', c', rfl, H⟩
    refine ⟨a', _, c', OwB a' x.data.length c' x.data, rfl, ?_, H⟩
    clear H
    refine (cls_ok _ na x.names.length nc x.names (rdImp fun R h H => (ansRd hf ha H).2) rfl (by omega)).weak (fun _ _ h => h) ?_
    rintro v R h ⟨a2, c2, rfl, H⟩
    refine ⟨a2, _, c2, OwS a2 x.names.length c2 x.names, rfl, .of fun R h H => ⟨a', c', a2, c2, ?_, ?_⟩, H⟩
    · rw [hf]; rfl
    · have := HP.pick [_, _, _, _, _, _] [4, 5, 0, 1, 2, 3] (by decide) rfl H
      exact HP.sep_mono this (fun _ h => h) fun y hy => HP.sep_mono hy (fun _ h => h) fun z hz => back hz
/-- Do, where what is answered never turns from here on. -/
theorem doR {B : Nat} {tb : Nat} {t : TS} (hB : B ≤ 100000) (wf : TWf B t.pub) (c : CallM) (S : HP) (d : List UInt8) (hd : CallD c S d) : Tri Tryz.prog 18 #[.pointer (some ⟨tb, 0, none⟩), c.val] (HP.sep (TRep tb t) S)
    (fun v => HP.ex fun t' : TS => HP.and (t'.pub = (doC t.pub c d).1) (HP.ex fun da : Option Addr => HP.ex fun dc : Nat => HP.ex fun na : Option Addr => HP.ex fun nc : Nat => HP.and (v = ansV (doC t.pub c d).2 da dc na nc) (HP.sep (RoB da (doC t.pub c d).2.data.length (doC t.pub c d).2.data) (HP.sep (RoS na (doC t.pub c d).2.names.length (doC t.pub c d).2.names) (HP.sep (TRep tb t') S))))) := by
  refine (tDo_ok hB wf c S d hd).post fun v => fun R h dd ⟨t', ht, da, dc, na, nc, e, H⟩ => ?_
  obtain ⟨R1, h1, q1, q2, q3, q4, H1⟩ := ((OwC.share 5 1 da _ dc ((doC t.pub c d).2.data.map u8v)).sep2 ((OwC.share 9 1 na _ nc ((doC t.pub c d).2.names.map sE)).sep2 (HP.ent.refl (HP.sep (TRep tb t') S)))) R h dd H
  exact ⟨R1, h1, q1, q2, q3, q4, t', ht, da, dc, na, nc, e, H1⟩
theorem statS_few (T : List Nd) (p : Nm) : (statS T p).data = [] ∧ (statS T p).names = [] := by
  unfold statS
  split
  · exact ⟨rfl, rfl⟩
  · split <;> exact ⟨rfl, rfl⟩
theorem listS_few {B : Nat} {T : List Nd} (wf : TWf B T) (p : Nm) : (listS T p).data.length ≤ 512 ∧ (listS T p).names.length ≤ B := by
  unfold listS
  split
  · exact ⟨Nat.zero_le _, Nat.zero_le _⟩
  · split
    · exact ⟨Nat.zero_le _, Nat.zero_le _⟩
    · rename_i x hx
      split
      · exact ⟨Nat.zero_le _, Nat.zero_le _⟩
      · refine ⟨Nat.zero_le _, ?_⟩
        have := (wf.good x (nodeAt_mem hx).1).efew
        simpa using this
theorem readS_few {B : Nat} {T : List Nd} (wf : TWf B T) (p : Nm) (off n : Int) : (readS' T p off n).data.length ≤ 512 ∧ (readS' T p off n).names.length ≤ B := by
  refine ⟨?_, Nat.zero_le _⟩
  show (readS T p off n).2.length ≤ 512
  unfold readS
  split
  · exact Nat.zero_le _
  · split
    · exact Nat.zero_le _
    · split
      · exact Nat.zero_le _
      · rename_i x hx
        have := (wf.good x (nodeAt_mem hx).1).data
        simp only [List.length_take, List.length_drop]
        omega
theorem doS_few {B : Nat} {T : List Nd} (wf : TWf B T) (kind : Int) (path other : Nm) (off n : Int) (d : List UInt8) : (doS T kind path other off n d).2.data.length ≤ 512 ∧ (doS T kind path other off n d).2.names.length ≤ B := by
  have z : ∀ e : Int, (({ err := e } : AnsM)).data.length ≤ 512 ∧ (({ err := e } : AnsM)).names.length ≤ B := fun e => ⟨Nat.zero_le _, Nat.zero_le _⟩
  unfold doS
  split
  · exact z _
  split
  · exact z _
  split
  · exact z _
  split
  · exact z _
  split
  · exact z _
  split
  · exact z _
  split
  · exact readS_few wf path off n
  split
  · exact z _
  split
  · have := statS_few T path
    show (statS T path).data.length ≤ 512 ∧ (statS T path).names.length ≤ B
    rw [this.1, this.2]; exact ⟨Nat.zero_le _, Nat.zero_le _⟩
  split
  · exact listS_few wf path
  split
  · exact ⟨Nat.zero_le _, Nat.zero_le _⟩
  · exact z _
set_option maxHeartbeats 1000000 in
theorem rpDo_ok {B : Nat} (hB : B ≤ 100000) (wf : TWf B s.t.pub) (k : IdM) (c : CallM) (S : HP) (d : List UInt8) (hd : CallD c S d) :
    Tri Tryz.prog 165 #[.pointer (some ⟨b, 0, none⟩), idV k, c.val] (RpX b s S) (fun v => HP.ex fun s' : RpS => HP.and (v = .tuple #[] ∧ s'.t.pub = (doC s.t.pub c d).1 ∧ s' = { s with t := s'.t, f := keepA s.f k (doC s.t.pub c d).2 }) (RpX b s' S)) := by
  refine Tri.rpM (K := S) (b := b) (s := s) fun l cl => ?_
  refine Tri.fact (φ := ansF s.f l k) (fun R h H => ansFact k (RpM.map H)) fun hA => ?_
  refine tri_of_tree (ρ := [.n b, .i s.nx, .n s.tb, .p (TRep s.tb s.t), .n s.am, .p (MapH AnsH idV s.am s.f l cl), .i s.up, .i s.at', .i s.la, .a none, .n 0, .n 0, .p HP.tt, .i k.1, .i k.2.1, .i k.2.2, .i c.kind, .s c.path, .s c.other, .i c.off, .i c.n, .a c.da, .n c.dl, .n c.dc, .p S]) mixed Tryz.func165 tree_rpDo ?_
  unfold t_rpDo
  simp only [T.den, E.prop, E.den, RX.look, F1.app, F2.app, Uni.int_i, Uni.nat_n, Uni.bool_c, Uni.str_s, Uni.adr_a, Uni.val_v, Uni.hp_p, hden, cden, V.den, W.den, A.den, BR.den, SA.den, FV.den, capV, exs, exP, allP, Cur.app, List.map_cons, List.map_nil, List.cons_append, List.nil_append, List.drop_succ_cons, List.drop_zero, List.length_cons, List.length_nil, Nat.zero_add, Nat.reduceAdd, Int.neg_neg, Bool.not_not, List.append_nil, Nat.add_zero, List.getElem?_cons_zero, List.getElem?_cons_succ, Decidable.not_not, semW_eq, semW_load, semW_store, semW_storeC, semW_append, semW_lookup, semW_lookupC, semW_update, semW_updateC, semW_updateK, semW_delete, semW_range, semW_next, semW_entry, semW_nil, ne_eq, Nat.reduceEqDiff, not_false_eq_true]
  intro _ _
  refine ⟨fun m e kd sz lk da dl dc na nl nc P38 P39 P40 => ∃ t' : TS, t'.pub = (doC s.t.pub c d).1 ∧ e = (doC s.t.pub c d).2.err ∧ kd = (doC s.t.pub c d).2.kind ∧ sz = (doC s.t.pub c d).2.size ∧ lk = (doC s.t.pub c d).2.links ∧ dl = (doC s.t.pub c d).2.data.length ∧ nl = (doC s.t.pub c d).2.names.length ∧ P38 = RoB da (doC s.t.pub c d).2.data.length (doC s.t.pub c d).2.data ∧ P39 = RoS na (doC s.t.pub c d).2.names.length (doC s.t.pub c d).2.names ∧ P40 = TRep s.tb t', ⟨?_, ?_⟩, ?_⟩
  · refine (doR hB wf c S d hd).weak (fun _ _ h => h) ?_
    rintro v R h ⟨t', ht, da, dc, na, nc, rfl, H⟩
    refine ⟨_, _, _, _, da, _, dc, _, na, _, nc, _, _, rfl, fun m => ⟨t', ht, rfl, rfl, rfl, rfl, rfl, rfl, rfl, rfl, rfl⟩, H⟩
  · intro m
    refine (doR hB wf c S d hd).weak (fun _ _ h => h) ?_
    rintro v R h ⟨t', ht, da, dc, na, nc, rfl, H⟩
    refine ⟨_, _, _, _, da, _, dc, _, na, _, nc, _, _, rfl, ⟨t', ht, rfl, rfl, rfl, rfl, rfl, rfl, rfl, rfl, rfl⟩, H⟩
  rintro m _ _ _ _ da _ dc na _ nc _ _ _ ⟨t', ht, rfl, rfl, rfl, rfl, rfl, rfl, rfl, rfl, rfl⟩
  have hfew := doS_few wf c.kind c.path c.other c.off c.n d
  have hlk := lookA (m := s.am) (f := s.f) (l := l) (c := cl) k
  rcases hA with ⟨hf, ha⟩ | ⟨x, da', dc', na', nc', hf, ha, hd', hn⟩
  · rw [ha] at hlk
    refine ⟨0, 0, 0, 0, none, 0, 0, none, 0, 0, false, hlk, fun _ => ⟨fun _ => ?_, fun h => (by cases h)⟩⟩
    refine (MapH.put idK undAM AnsH.pers k (ansV (doC s.t.pub c d).2 da dc na nc) (doC s.t.pub c d).2 (A := HP.sep (RoB da (doC s.t.pub c d).2.data.length (doC s.t.pub c d).2.data) (RoS na (doC s.t.pub c d).2.names.length (doC s.t.pub c d).2.names)) fun R h H => ⟨da, dc, na, nc, ⟨rfl, ?_, ?_⟩, HP.sep_left H, HP.sep_right H⟩).weak (fun _ _ h => h) ?_
    · have : (doC s.t.pub c d).2.data.length ≤ 512 := hfew.1
      omega
    · have : (doC s.t.pub c d).2.names.length ≤ B := hfew.2
      omega
    rintro v R h ⟨rfl, H⟩
    refine ⟨_, rfl, .of fun R h H => ⟨{ s with t := t', f := keepA s.f k (doC s.t.pub c d).2 }, ⟨trivial, ht, rfl⟩, ?_⟩, H⟩
    have e : keepA s.f k (doC s.t.pub c d).2 = fput s.f k (some (doC s.t.pub c d).2) := by unfold keepA; rw [hf]
    rw [e]
    exact H
  · rw [ha] at hlk
    refine ⟨x.err, x.kind, x.size, x.links, da', x.data.length, dc', na', x.names.length, nc', true, hlk, fun _ => ⟨fun h => absurd rfl h, fun _ => .of fun R h H => ⟨{ s with t := t', f := keepA s.f k (doC s.t.pub c d).2 }, ⟨trivial, ht, rfl⟩, ?_⟩⟩⟩
    have e : keepA s.f k (doC s.t.pub c d).2 = s.f := by unfold keepA; rw [hf]
    rw [e]
    exact HP.sep_mono H (fun _ h => h) fun x hx => HP.sep_mono hx (fun _ h => h) fun y hy => HP.sep_mono hy (fun _ h => ⟨l, cl, h⟩) fun _ h => h
/-! what a replica comes to, with no program in sight -/
structure RpP where
  nx : Int
  T : List Nd
  f : IdM → Option AnsM
  up : Int
  at' : Int
def RpS.pub (s : RpS) : RpP := ⟨s.nx, s.t.pub, s.f, s.up, s.at'⟩
def callP (p : RpP) (k : IdM) (c : CallP) : RpP := { p with T := (doS p.T c.kind c.path c.other c.off c.n c.data).1, f := keepA p.f k (doS p.T c.kind c.path c.other c.off c.n c.data).2 }
noncomputable def snapP (p : RpP) (a : Int) (l : List UInt8) : RpP := match decS wholeS l with
  | none => p
  | some (u, _) => if a < u then p else if p.up < u then { p with up := u, at' := a } else p
noncomputable def logP (p : RpP) (a : Int) (x : LogM) : RpP := if x.kind = 1 then (match callD x.pl with | none => p | some c => callP p (x.cl, x.bi, x.nu) c) else if x.kind = 2 then snapP p a x.pl else p
noncomputable def takeP (p : RpP) (what : Int) (l : List UInt8) : RpP := if what ≠ 1 then { p with nx := p.nx + 1 } else match entD l with
  | none => { p with nx := p.nx + 1 }
  | some x => logP { p with nx := p.nx + 1 } p.nx x
def CallP.m (x : CallP) (a : Option Addr) (c : Nat) : CallM := ⟨x.kind, x.path, x.other, x.off, x.n, a, x.data.length, c⟩
def RpPost (b : Nat) (p : RpP) (S : HP) (v : Value) : HP := HP.ex fun s' : RpS => HP.and (v = .tuple #[] ∧ s'.pub = p) (RpX b s' S)
set_option maxHeartbeats 1000000 in
theorem rpTakeCall_ok {B : Nat} (hB : B ≤ 100000) (wf : TWf B s.t.pub) (at' : Int) (x : LogM) (a : Option Addr) (c : Nat) (S : HP) (hr : RdL S a x.pl.length (x.pl.map u8v)) (hc : x.pl.length ≤ c) (ha : x.pl.length ≠ 0 → a.isSome = true) (hb : x.pl.length ≤ 1000000) :
    Tri Tryz.prog 99 #[.pointer (some ⟨b, 0, none⟩), .int .i64 at', x.val a c] (RpX b s S) (RpPost b (match callD x.pl with | none => s.pub | some q => callP s.pub (x.cl, x.bi, x.nu) q) S) := by
  refine tri_of_tree (ρ := [.n b, .i s.nx, .n s.tb, .p (TRep s.tb s.t), .n s.am, .p (AnsMap s.am s.f), .i s.up, .i s.at', .i s.la, .a none, .n 0, .n 0, .p HP.tt, .i at', .i x.kind, .i x.cl, .i x.bi, .i x.nu, .i x.st, .i x.bk, .a a, .n x.pl.length, .n c, .p S]) mixed Tryz.func99 tree_rpTakeCall ?_
  unfold t_rpTakeCall
  simp only [T.den, E.prop, E.den, RX.look, F1.app, F2.app, Uni.int_i, Uni.nat_n, Uni.bool_c, Uni.str_s, Uni.adr_a, Uni.val_v, Uni.hp_p, hden, cden, V.den, W.den, A.den, BR.den, SA.den, FV.den, capV, exs, exP, allP, Cur.app, List.map_cons, List.map_nil, List.cons_append, List.nil_append, List.drop_succ_cons, List.drop_zero, List.length_cons, List.length_nil, Nat.zero_add, Nat.reduceAdd, Int.neg_neg, Bool.not_not, List.append_nil, Nat.add_zero, List.getElem?_cons_zero, List.getElem?_cons_succ, Decidable.not_not, semW_eq, semW_load, semW_store, semW_storeC, semW_append, semW_lookup, semW_lookupC, semW_update, semW_updateC, semW_updateK, semW_delete, semW_range, semW_next, semW_entry, semW_nil, ne_eq, Nat.reduceEqDiff, not_false_eq_true]
  intro _
  refine (cDecode_ok a x.pl.length c x.pl S hr rfl hc ha (by omega)).weak (fun _ _ h => h) ?_
  intro v R h H
  unfold CallPost at H
  cases hq : callD x.pl with
  | none =>
    rw [hq] at H
    obtain ⟨rfl, H⟩ := H
    refine ⟨0, [], [], 0, 0, none, 0, 0, HP.tt, 3, rfl, fun _ => ⟨fun _ => .of fun R h H => ⟨s, ⟨rfl, rfl⟩, H⟩, fun h => absurd h (by decide)⟩, HP.tt_sep H⟩
  | some q =>
    rw [hq] at H
    obtain ⟨da, dc, rfl, H⟩ := H
    have hda : q.data.length ≠ 0 → da.isSome = true := fun hn => OwC.some (HP.sep_left H) (by omega)
    refine ⟨q.kind, q.path, q.other, q.off, q.n, da, q.data.length, dc, OwB da q.data.length dc q.data, 0, rfl, fun _ => ⟨fun h => absurd rfl h, fun _ => ?_⟩, H⟩
    clear H
    refine rpLost_ok.weak (fun _ _ h => h) ?_
    rintro v R h ⟨rfl, H⟩
    refine ⟨false, rfl, ⟨fun h => (by cases h), fun _ => ?_⟩, H⟩
    clear H
    refine (rpDo_ok hB wf (x.cl, x.bi, x.nu) (q.m da dc) (OwB da q.data.length dc q.data) q.data ⟨RdL.ow _ _ _ _ _ _, rfl, hda⟩).weak (fun _ _ h => h) ?_
    rintro v R h ⟨s', ⟨rfl, h1, h2⟩, H⟩
    refine ⟨s'.nx, s'.tb, TRep s'.tb s'.t, s'.am, AnsMap s'.am s'.f, s'.up, s'.at', s'.la, none, 0, 0, HP.tt, _, rfl, .of fun R h H => ⟨s', ⟨rfl, ?_⟩, H⟩, H⟩
    unfold callP RpS.pub
    rw [h1, h2]
    rfl
set_option maxHeartbeats 1000000 in
theorem rpTakeSnap_ok (at' : Int) (x : LogM) (a : Option Addr) (c : Nat) (S : HP) (hr : RdL S a x.pl.length (x.pl.map u8v)) (hc : x.pl.length ≤ c) (ha : x.pl.length ≠ 0 → a.isSome = true) (hb : x.pl.length ≤ 1000000) :
    Tri Tryz.prog 100 #[.pointer (some ⟨b, 0, none⟩), .int .i64 at', x.val a c] (RpX b s S) (RpPost b (snapP s.pub at' x.pl) S) := by
  refine tri_of_tree (ρ := [.n b, .i s.nx, .v (.pointer (some ⟨s.tb, 0, none⟩)), .p (TRep s.tb s.t), .n s.am, .p (AnsMap s.am s.f), .i s.up, .i s.at', .i s.la, .a none, .n 0, .n 0, .p HP.tt, .i at', .i x.kind, .i x.cl, .i x.bi, .i x.nu, .i x.st, .i x.bk, .a a, .n x.pl.length, .n c, .p S]) mixed Tryz.func100 tree_rpTakeSnap ?_
  unfold t_rpTakeSnap
  simp only [T.den, E.prop, E.den, RX.look, F1.app, F2.app, Uni.int_i, Uni.nat_n, Uni.bool_c, Uni.str_s, Uni.adr_a, Uni.val_v, Uni.hp_p, hden, cden, V.den, W.den, A.den, BR.den, SA.den, FV.den, capV, exs, exP, allP, Cur.app, List.map_cons, List.map_nil, List.cons_append, List.nil_append, List.drop_succ_cons, List.drop_zero, List.length_cons, List.length_nil, Nat.zero_add, Nat.reduceAdd, Int.neg_neg, Bool.not_not, List.append_nil, Nat.add_zero, List.getElem?_cons_zero, List.getElem?_cons_succ, Decidable.not_not, semW_eq, semW_load, semW_store, semW_storeC, semW_append, semW_lookup, semW_lookupC, semW_update, semW_updateC, semW_updateK, semW_delete, semW_range, semW_next, semW_entry, semW_nil, ne_eq, Nat.reduceEqDiff, not_false_eq_true]
  intro _
  refine (decode_ok wholeS (fun _ _ h1 h2 => whole_ok h1 h2) a x.pl.length c x.pl S hr rfl hc ha hb).weak (fun _ _ h => h) ?_
  intro v R h H
  have same : snapP s.pub at' x.pl = s.pub → HP.ent (RpX b s S) (RpPost b (snapP s.pub at' x.pl) S (.tuple #[])) := fun e => .of fun R h H => ⟨s, ⟨rfl, e.symm⟩, H⟩
  unfold DcPost at H
  cases hq : decS wholeS x.pl with
  | none =>
    rw [hq] at H
    obtain ⟨rfl, H⟩ := H
    refine ⟨0, .pointer none, HP.tt, 3, rfl, ⟨fun _ => same ?_, fun h => absurd h (by decide)⟩, HP.tt_sep H⟩
    unfold snapP; rw [hq]
  | some q =>
    obtain ⟨u, T1⟩ := q
    rw [hq] at H
    obtain ⟨b2, t2, ⟨rfl, _⟩, H⟩ := H
    refine ⟨u, .pointer (some ⟨b2, 0, none⟩), TRep b2 t2, 0, rfl, ⟨fun h => absurd rfl h, fun _ => ⟨fun h1 => same ?_, fun h1 => ⟨fun h2 => ?_, fun h2 => ?_⟩⟩⟩, HP.sep_comm H⟩
    · unfold snapP; rw [hq]; exact if_pos h1
    · clear H
      refine (rpLost_ok (b := b) (s := { s with up := u, at' := at' })).weak (fun _ _ h => h) ?_
      rintro v R h ⟨rfl, H⟩
      refine ⟨false, rfl, ⟨fun _ => .of fun R h H => ⟨{ s with up := u, at' := at' }, ⟨rfl, ?_⟩, H⟩, fun h => absurd h (by decide)⟩, H⟩
      unfold snapP; rw [hq]
      show _ = if at' < u then _ else if s.up < u then _ else _
      rw [if_neg h1, if_pos h2]; rfl
    · clear H
      refine (rpLost_ok (b := b) (s := s)).weak (fun _ _ h => h) ?_
      rintro v R h ⟨rfl, H⟩
      refine ⟨false, rfl, ⟨fun _ => same ?_, fun h => absurd h (by decide)⟩, H⟩
      unfold snapP; rw [hq]
      show (if at' < u then _ else if s.up < u then _ else _) = _
      rw [if_neg h1, if_neg h2]
set_option maxHeartbeats 1000000 in
theorem rpTake_ok {B : Nat} (hB : B ≤ 100000) (wf : TWf B s.t.pub) (what : Int) (a : Option Addr) (n c : Nat) (l : List UInt8) (S : HP) (hr : RdL S a n (l.map u8v)) (hl : l.length = n) (hc : n ≤ c) (ha : n ≠ 0 → a.isSome = true) (hnx : -9223372036854775808 ≤ s.nx + 1 ∧ s.nx + 1 ≤ 9223372036854775807) :
    Tri Tryz.prog 35 #[.pointer (some ⟨b, 0, none⟩), .agg #[.int .i64 what, .slice a n c]] (RpX b s S) (RpPost b (takeP s.pub what l) S) := by
  refine tri_of_tree (ρ := [.n b, .i s.nx, .n s.tb, .p (TRep s.tb s.t), .n s.am, .p (AnsMap s.am s.f), .i s.up, .i s.at', .i s.la, .a none, .n 0, .n 0, .p HP.tt, .i what, .a a, .n n, .n c, .p S]) mixed Tryz.func35 tree_rpTake ?_
  unfold t_rpTake
  simp only [T.den, E.prop, E.den, RX.look, F1.app, F2.app, Uni.int_i, Uni.nat_n, Uni.bool_c, Uni.str_s, Uni.adr_a, Uni.val_v, Uni.hp_p, hden, cden, V.den, W.den, A.den, BR.den, SA.den, FV.den, capV, exs, exP, allP, Cur.app, List.map_cons, List.map_nil, List.cons_append, List.nil_append, List.drop_succ_cons, List.drop_zero, List.length_cons, List.length_nil, Nat.zero_add, Nat.reduceAdd, Int.neg_neg, Bool.not_not, List.append_nil, Nat.add_zero, List.getElem?_cons_zero, List.getElem?_cons_succ, Decidable.not_not, semW_eq, semW_load, semW_store, semW_storeC, semW_append, semW_lookup, semW_lookupC, semW_update, semW_updateC, semW_updateK, semW_delete, semW_range, semW_next, semW_entry, semW_nil, ne_eq, Nat.reduceEqDiff, not_false_eq_true]
  intro _
  refine ⟨inI64 _ hnx.1 hnx.2, fun _ => ?_⟩
  have up : takeP s.pub what l = RpS.pub { s with nx := s.nx + 1 } → HP.ent (RpX b { s with nx := s.nx + 1 } S) (RpPost b (takeP s.pub what l) S (.tuple #[])) := fun e => .of fun R h H => ⟨{ s with nx := s.nx + 1 }, ⟨rfl, e.symm⟩, H⟩
  refine ⟨fun h => up ?_, fun h => ?_⟩
  · unfold takeP; rw [if_pos h]; rfl
  have hw : ¬ what ≠ 1 := fun q => q h
  refine (eDecode_ok a n c l S hr hl hc ha).weak (fun _ _ h => h) ?_
  intro v R h H
  unfold EntPost at H
  cases hq : entD l with
  | none =>
    rw [hq] at H
    obtain ⟨rfl, H⟩ := H
    refine ⟨0, 0, 0, 0, 0, 0, none, 0, 0, HP.tt, 3, rfl, fun _ => ⟨fun _ => up ?_, fun h => absurd h (by decide)⟩, HP.tt_sep H⟩
    unfold takeP; rw [if_neg hw, hq]; rfl
  | some x =>
    rw [hq] at H
    obtain ⟨pa, pc, rfl, H⟩ := H
    have hpa : x.pl.length ≠ 0 → pa.isSome = true := fun hn => OwC.some (HP.sep_left H) (by omega)
    have hpc := OwC.le (HP.sep_left H)
    have hpl : x.pl.length ≤ 1000000 := by
      have : logOk x = true := by
        unfold entD at hq
        split at hq
        · cases hq
        · split at hq
          · cases hq
          · split at hq
            · cases hq
            · split at hq
              · rename_i h; cases hq; exact h
              · cases hq
      unfold logOk at this
      simp only [Bool.and_eq_true, decide_eq_true_eq] at this
      have := this.2
      omega
    have e : takeP s.pub what l = logP (RpS.pub { s with nx := s.nx + 1 }) s.nx x := by unfold takeP; rw [if_neg hw, hq]; rfl
    refine ⟨x.kind, x.cl, x.bi, x.nu, x.st, x.bk, pa, x.pl.length, pc, OwB pa x.pl.length pc x.pl, 0, rfl, fun _ => ⟨fun h => absurd rfl h, fun _ => ⟨fun h1 => ?_, fun h1 => ⟨fun h2 => ?_, fun h2 => up ?_⟩⟩⟩, H⟩
    · clear H
      refine (rpTakeCall_ok (b := b) (s := { s with nx := s.nx + 1 }) hB wf s.nx x pa pc (OwB pa x.pl.length pc x.pl) (RdL.ow _ _ _ _ _ _) hpc hpa hpl).weak (fun _ _ h => h) ?_
      rintro v R h ⟨s', ⟨rfl, h2⟩, H⟩
      refine ⟨s'.nx, s'.tb, TRep s'.tb s'.t, s'.am, AnsMap s'.am s'.f, s'.up, s'.at', s'.la, none, 0, 0, HP.tt, _, rfl, .of fun R h H => ⟨s', ⟨rfl, ?_⟩, H⟩, H⟩
      rw [e, h2]; unfold logP; rw [if_pos h1]
    · clear H
      refine (rpTakeSnap_ok (b := b) (s := { s with nx := s.nx + 1 }) s.nx x pa pc (OwB pa x.pl.length pc x.pl) (RdL.ow _ _ _ _ _ _) hpc hpa hpl).weak (fun _ _ h => h) ?_
      rintro v R h ⟨s', ⟨rfl, h3⟩, H⟩
      refine ⟨s'.nx, s'.tb, TRep s'.tb s'.t, s'.am, AnsMap s'.am s'.f, s'.up, s'.at', s'.la, none, 0, 0, HP.tt, _, rfl, .of fun R h H => ⟨s', ⟨rfl, ?_⟩, H⟩, H⟩
      rw [e, h3]; unfold logP; rw [if_neg h1, if_pos h2]
    · rw [e]; unfold logP; rw [if_neg h1, if_neg h2]
end Go.Proofs.YtdieogcemmnaaaaGreatDoor


/- A sum tells any one changed byte. No condition. -/
namespace Go.Proofs.YtdieogcemmnaaaaGreatDoor
open Go.Proofs.YtdieogcemmnaaaaGreatDoor RX
set_option maxRecDepth 100000

end Go.Proofs.YtdieogcemmnaaaaGreatDoor


/- Trees of functions, printed by rx.lean. No condition. -/
namespace Go.Proofs.YtdieogcemmnaaaaGreatDoor.RX
set_option maxRecDepth 100000
-- tideline/tidelineref01.Put: ρ := [.a outa, .n outl, .n outc, .p outP, .i v, .i n]
def t_r1Put : T :=
(.br (.o2 .lt (.i 8) (.v 5))
 (.loop [.a, .n, .n, .i, .p] [(.a (.v 0)), (.e (.o2 .nadd (.v 1) (.n 0))), (.e (.o2 .nadd (.v 2) (.n 0))), (.e (.o1 .neg (.o1 .neg (.i 7)))), (.p [((.a 0), (.prop 3))])]
  (.br (.o2 .le (.i 0) (.v 9))
   (.loop [.i, .i] [(.e (.o1 .neg (.o1 .neg (.v 4)))), (.e (.o1 .neg (.o1 .neg (.i 0))))]
    (.br (.o2 .lt (.v 12) (.v 9))
     (.need (.o1 (.inr .u64) (.o2 .quo (.v 11) (.i 256)))
     (.need (.o1 (.inr .i64) (.o2 .add (.v 12) (.i 1)))
     (.again 0 [(.e (.o1 .neg (.o1 .neg (.o2 .quo (.v 11) (.i 256))))), (.e (.o1 .neg (.o1 .neg (.o2 .add (.v 12) (.i 1)))))])))
     (.new
     (.op (.call ⟨.builtin .append, #[(.tmp 26), (.tmp 30)], #[28, 28]⟩) 28 [(26, (.w (.a (.sl (.v 6) (.v 7) (.v 8))))), (30, (.w (.a (.sl (.b (.v 13) 0) (.n 1) (.n 1)))))] [((.a 6), (.prop 10)), ((.b (.v 13)), (.cells [(.int .u8 (.o1 (.wrap .u8) (.o2 .rem (.v 11) (.i 256))))] 5))] [.a, .n, .n, .p] (.w (.a (.sl (.v 14) (.v 15) (.v 16)))) [((.a 14), (.prop 17)), ((.b (.v 13)), (.cells [(.int .u8 (.o1 (.wrap .u8) (.o2 .rem (.v 11) (.i 256))))] 5))]
     (.need (.o1 (.inr .i64) (.o2 .sub (.v 9) (.i 1)))
     (.again 1 [(.a (.v 14)), (.e (.o2 .nadd (.v 15) (.n 0))), (.e (.o2 .nadd (.v 16) (.n 0))), (.e (.o1 .neg (.o1 .neg (.o2 .sub (.v 9) (.i 1))))), (.p [((.a 14), (.prop 17))])]))))))
   (.ret (.w (.a (.sl (.v 6) (.v 7) (.v 8)))) [((.a 6), (.prop 10))])))
 (.need (.o1 (.inr .i64) (.o2 .sub (.v 5) (.i 1)))
 (.loop [.a, .n, .n, .i, .p] [(.a (.v 0)), (.e (.o2 .nadd (.v 1) (.n 0))), (.e (.o2 .nadd (.v 2) (.n 0))), (.e (.o1 .neg (.o1 .neg (.o2 .sub (.v 5) (.i 1))))), (.p [((.a 0), (.prop 3))])]
  (.br (.o2 .le (.i 0) (.v 9))
   (.loop [.i, .i] [(.e (.o1 .neg (.o1 .neg (.v 4)))), (.e (.o1 .neg (.o1 .neg (.i 0))))]
    (.br (.o2 .lt (.v 12) (.v 9))
     (.need (.o1 (.inr .u64) (.o2 .quo (.v 11) (.i 256)))
     (.need (.o1 (.inr .i64) (.o2 .add (.v 12) (.i 1)))
     (.again 0 [(.e (.o1 .neg (.o1 .neg (.o2 .quo (.v 11) (.i 256))))), (.e (.o1 .neg (.o1 .neg (.o2 .add (.v 12) (.i 1)))))])))
     (.new
     (.op (.call ⟨.builtin .append, #[(.tmp 26), (.tmp 30)], #[28, 28]⟩) 28 [(26, (.w (.a (.sl (.v 6) (.v 7) (.v 8))))), (30, (.w (.a (.sl (.b (.v 13) 0) (.n 1) (.n 1)))))] [((.a 6), (.prop 10)), ((.b (.v 13)), (.cells [(.int .u8 (.o1 (.wrap .u8) (.o2 .rem (.v 11) (.i 256))))] 5))] [.a, .n, .n, .p] (.w (.a (.sl (.v 14) (.v 15) (.v 16)))) [((.a 14), (.prop 17)), ((.b (.v 13)), (.cells [(.int .u8 (.o1 (.wrap .u8) (.o2 .rem (.v 11) (.i 256))))] 5))]
     (.need (.o1 (.inr .i64) (.o2 .sub (.v 9) (.i 1)))
     (.again 1 [(.a (.v 14)), (.e (.o2 .nadd (.v 15) (.n 0))), (.e (.o2 .nadd (.v 16) (.n 0))), (.e (.o1 .neg (.o1 .neg (.o2 .sub (.v 9) (.i 1))))), (.p [((.a 14), (.prop 17))])]))))))
   (.ret (.w (.a (.sl (.v 6) (.v 7) (.v 8)))) [((.a 6), (.prop 10))])))))
theorem tree_r1Put : tree Tryz.prog { absT := [5], opq := [], hv := [(0, [(.a 0)]), (1, [(.a 0)]), (2, [(.a 0)]), (3, [(.a 0)])], keep := [30], link := [], ent := [], turn := [], shr := [], vt := [], mkd := [], rlink := [], pty := [], outl := false, stay := [], snk := [], rdf := true } Tryz.f102 [(.a (.sl (.v 0) (.v 1) (.v 2))), (.a (.int .u64 (.v 4))), (.a (.int .i64 (.v 5)))] [((.a 0), (.prop 3))] 6 = t_r1Put := by kernel_rfl
-- tideline/tidelineref01.Bytes: ρ := [.a outa, .n outl, .n outc, .p outP, .a ba, .n bl, .n bc, .p bP]
def t_r1Bytes : T :=
(.call 102 [(.a (.sl (.v 0) (.v 1) (.v 2))), (.a (.int .u64 (.o1 (.wrap .u64) (.o1 .ofNat (.v 5))))), (.a (.int .i64 (.i 4)))] [((.a 0), (.prop 3))] [.a, .n, .n, .p, .p] (.w (.a (.sl (.v 8) (.v 9) (.v 10)))) [((.a 8), (.prop 11)), ((.a 0), (.prop 12))]
(.op (.call ⟨.builtin .append, #[(.tmp 10), (.tmp 11)], #[28, 28]⟩) 28 [(10, (.w (.a (.sl (.v 8) (.v 9) (.v 10))))), (11, (.w (.a (.sl (.v 4) (.v 5) (.v 6)))))] [((.a 8), (.prop 11)), ((.a 4), (.prop 7))] [.a, .n, .n, .p] (.w (.a (.sl (.v 13) (.v 14) (.v 15)))) [((.a 13), (.prop 16)), ((.a 4), (.prop 7))]
(.ret (.w (.a (.sl (.v 13) (.v 14) (.v 15)))) [((.a 0), (.prop 12)), ((.a 4), (.prop 7)), ((.a 13), (.prop 16))])))
theorem tree_r1Bytes : tree Tryz.prog { absT := [5], opq := [], hv := [], keep := [30], link := [], ent := [], turn := [(102, [0])], shr := [], vt := [], mkd := [], rlink := [], pty := [], outl := false, stay := [], snk := [], rdf := true } Tryz.f104 [(.a (.sl (.v 0) (.v 1) (.v 2))), (.a (.sl (.v 4) (.v 5) (.v 6)))] [((.a 0), (.prop 3)), ((.a 4), (.prop 7))] 8 = t_r1Bytes := by kernel_rfl
-- tideline/tidelineref01.Text: ρ := [.a outa, .n outl, .n outc, .p outP, .s s]
def t_r1Text : T :=
(.op (.convert 9 28 (.tmp 6)) 28 [(6, (.w (.a (.str (.v 4)))))] [] [.a, .n, .n, .p] (.w (.a (.sl (.v 5) (.v 6) (.v 7)))) [((.a 5), (.prop 8))]
(.call 104 [(.a (.sl (.v 0) (.v 1) (.v 2))), (.a (.sl (.v 5) (.v 6) (.v 7)))] [((.a 0), (.prop 3)), ((.a 5), (.prop 8))] [.a, .n, .n, .p, .p] (.w (.a (.sl (.v 9) (.v 10) (.v 11)))) [((.a 9), (.prop 12)), ((.a 0), (.prop 13)), ((.a 5), (.prop 8))]
(.ret (.w (.a (.sl (.v 9) (.v 10) (.v 11)))) [((.a 0), (.prop 13)), ((.a 9), (.prop 12))])))
theorem tree_r1Text : tree Tryz.prog { absT := [5], opq := [], hv := [], keep := [30], link := [], ent := [], turn := [(104, [0])], shr := [], vt := [], mkd := [], rlink := [], pty := [], outl := false, stay := [], snk := [], rdf := true } Tryz.f109 [(.a (.sl (.v 0) (.v 1) (.v 2))), (.a (.str (.v 4)))] [((.a 0), (.prop 3))] 5 = t_r1Text := by kernel_rfl
-- tideline/tidelineref05.Int: ρ := [.a outa, .n outl, .n outc, .p outP, .i n]
def t_r5Int : T :=
(.call 102 [(.a (.sl (.v 0) (.v 1) (.v 2))), (.a (.int .u64 (.o1 (.wrap .u64) (.v 4)))), (.a (.int .i64 (.i 8)))] [((.a 0), (.prop 3))] [.a, .n, .n, .p, .p] (.w (.a (.sl (.v 5) (.v 6) (.v 7)))) [((.a 5), (.prop 8)), ((.a 0), (.prop 9))]
(.ret (.w (.a (.sl (.v 5) (.v 6) (.v 7)))) [((.a 0), (.prop 9)), ((.a 5), (.prop 8))]))
theorem tree_r5Int : tree Tryz.prog { absT := [5], opq := [], hv := [], keep := [30], link := [], ent := [], turn := [], shr := [], vt := [], mkd := [], rlink := [], pty := [], outl := false, stay := [], snk := [], rdf := true } Tryz.f103 [(.a (.sl (.v 0) (.v 1) (.v 2))), (.a (.int .i64 (.v 4)))] [((.a 0), (.prop 3))] 5 = t_r5Int := by kernel_rfl
-- tideline/tidelineref02.Sum: ρ := [.a ba, .n bl, .n bc, .p bP]
def t_r2Sum : T :=
(.loop [.i, .i] [(.e (.o1 .neg (.o1 .neg (.i 4294967295)))), (.e (.o1 .neg (.o1 .neg (.i 0))))]
 (.br (.o2 .lt (.v 5) (.o1 .ofNat (.v 1)))
  (.need (.o2 .le (.i 0) (.v 5))
  (.need (.o1 .isSome (.v 0))
  (.read (.load 5 (.tmp 16)) 5 [(16, (.w (.a (.eptr 0 (.v 5) 1 0))))] [((.a 0), (.prop 3))] [.i] (.w (.a (.int .u8 (.v 6))))
  (.need (.o1 (.inr .u32) (.v 6))
  (.loop [.i, .i] [(.e (.o1 .neg (.o1 .neg (.o2 (.bit .xor .u32) (.v 4) (.v 6))))), (.e (.o1 .neg (.o1 .neg (.i 0))))]
   (.br (.o2 .lt (.v 8) (.i 8))
    (.need (.o1 (.inr .u32) (.o2 .quo (.v 7) (.i 2)))
    (.br (.o2 .eq (.o2 .rem (.v 7) (.i 2)) (.i 1))
     (.need (.o1 (.inr .i64) (.o2 .add (.v 8) (.i 1)))
     (.again 0 [(.e (.o1 .neg (.o1 .neg (.o2 (.bit .xor .u32) (.o2 .quo (.v 7) (.i 2)) (.i 3988292384))))), (.e (.o1 .neg (.o1 .neg (.o2 .add (.v 8) (.i 1)))))]))
     (.need (.o1 (.inr .i64) (.o2 .add (.v 8) (.i 1)))
     (.again 0 [(.e (.o1 .neg (.o1 .neg (.o2 .quo (.v 7) (.i 2))))), (.e (.o1 .neg (.o1 .neg (.o2 .add (.v 8) (.i 1)))))]))))
    (.need (.o1 (.inr .i64) (.o2 .add (.v 5) (.i 1)))
    (.again 1 [(.e (.o1 .neg (.o1 .neg (.v 7)))), (.e (.o1 .neg (.o1 .neg (.o2 .add (.v 5) (.i 1)))))]))))))))
  (.ret (.w (.a (.int .u32 (.o1 (.wrap .u32) (.o2 .sub (.i 4294967295) (.v 4)))))) [((.a 0), (.prop 3))])))
theorem tree_r2Sum : tree Tryz.prog { absT := [5], opq := [], hv := [], keep := [30], link := [], ent := [], turn := [], shr := [], vt := [], mkd := [], rlink := [], pty := [], outl := false, stay := [], snk := [], rdf := true } Tryz.f166 [(.a (.sl (.v 0) (.v 1) (.v 2)))] [((.a 0), (.prop 3))] 4 = t_r2Sum := by kernel_rfl
-- tideline/tidelineref02.Wrap: ρ := [.a ba, .n bl, .n bc, .p bP]
def t_r2Wrap : T :=
(.new
(.op (.call ⟨.builtin .append, #[(.tmp 4), (.tmp 5)], #[28, 28]⟩) 28 [(4, (.w (.a (.sl (.b (.v 4) 0) (.n 0) (.n 0))))), (5, (.w (.a (.sl (.v 0) (.v 1) (.v 2)))))] [((.b (.v 4)), (.cells [] 5)), ((.a 0), (.prop 3))] [.a, .n, .n, .p] (.w (.a (.sl (.v 5) (.v 6) (.v 7)))) [((.a 5), (.prop 8)), ((.a 0), (.prop 3))]
(.call 166 [(.a (.sl (.v 0) (.v 1) (.v 2)))] [((.a 0), (.prop 3))] [.i] (.w (.a (.int .u32 (.v 9)))) [((.a 0), (.prop 3))]
(.need (.o1 (.inr .u64) (.v 9))
(.call 102 [(.a (.sl (.v 5) (.v 6) (.v 7))), (.a (.int .u64 (.v 9))), (.a (.int .i64 (.i 4)))] [((.a 5), (.prop 8))] [.a, .n, .n, .p, .p] (.w (.a (.sl (.v 10) (.v 11) (.v 12)))) [((.a 10), (.prop 13)), ((.a 5), (.prop 14))]
(.ret (.w (.a (.sl (.v 10) (.v 11) (.v 12)))) [((.a 0), (.prop 3)), ((.a 10), (.prop 13))]))))))
theorem tree_r2Wrap : tree Tryz.prog { absT := [5], opq := [], hv := [], keep := [166, 30], link := [], ent := [], turn := [], shr := [], vt := [], mkd := [], rlink := [], pty := [], outl := false, stay := [], snk := [], rdf := true } Tryz.f105 [(.a (.sl (.v 0) (.v 1) (.v 2)))] [((.a 0), (.prop 3))] 4 = t_r2Wrap := by kernel_rfl
-- tideline/tidelineref05.Encode: ρ := [.i c_Kind, .s c_Path, .s c_Other, .i c_Off, .i c_N, .a c_Dataa, .n c_Datal, .n c_Datac, .p c_DataP]
def t_r5Encode : T :=
(.new
(.new
(.call 109 [(.a (.sl (.b (.v 10) 0) (.n 1) (.n 1))), (.a (.str (.v 1)))] [((.b (.v 10)), (.cells [(.int .u8 (.o1 (.wrap .u8) (.v 0)))] 5))] [.a, .n, .n, .p, .p] (.w (.a (.sl (.v 11) (.v 12) (.v 13)))) [((.a 11), (.prop 14)), ((.b (.v 10)), (.prop 15))]
(.call 109 [(.a (.sl (.v 11) (.v 12) (.v 13))), (.a (.str (.v 2)))] [((.a 11), (.prop 14))] [.a, .n, .n, .p, .p] (.w (.a (.sl (.v 16) (.v 17) (.v 18)))) [((.a 16), (.prop 19)), ((.a 11), (.prop 20))]
(.call 103 [(.a (.sl (.v 16) (.v 17) (.v 18))), (.a (.int .i64 (.v 3)))] [((.a 16), (.prop 19))] [.a, .n, .n, .p, .p] (.w (.a (.sl (.v 21) (.v 22) (.v 23)))) [((.a 21), (.prop 24)), ((.a 16), (.prop 25))]
(.call 103 [(.a (.sl (.v 21) (.v 22) (.v 23))), (.a (.int .i64 (.v 4)))] [((.a 21), (.prop 24))] [.a, .n, .n, .p, .p] (.w (.a (.sl (.v 26) (.v 27) (.v 28)))) [((.a 26), (.prop 29)), ((.a 21), (.prop 30))]
(.call 104 [(.a (.sl (.v 26) (.v 27) (.v 28))), (.a (.sl (.v 5) (.v 6) (.v 7)))] [((.a 26), (.prop 29)), ((.a 5), (.prop 8))] [.a, .n, .n, .p, .p] (.w (.a (.sl (.v 31) (.v 32) (.v 33)))) [((.a 31), (.prop 34)), ((.a 26), (.prop 35)), ((.a 5), (.prop 8))]
(.call 105 [(.a (.sl (.v 31) (.v 32) (.v 33)))] [((.a 31), (.prop 34))] [.a, .n, .n, .p, .p] (.w (.a (.sl (.v 36) (.v 37) (.v 38)))) [((.a 36), (.prop 39)), ((.a 31), (.prop 40))]
(.ret (.w (.a (.sl (.v 36) (.v 37) (.v 38)))) [((.a 5), (.prop 8)), ((.a 36), (.prop 39))])))))))))
theorem tree_r5Encode : tree Tryz.prog { absT := [5], opq := [], hv := [], keep := [30], link := [], ent := [], turn := [(104, [0])], shr := [], vt := [], mkd := [], rlink := [], pty := [], outl := false, stay := [], snk := [], rdf := true } Tryz.f46 [(.agg [(.int .i64 (.v 0)), (.str (.v 1)), (.str (.v 2)), (.int .i64 (.v 3)), (.int .i64 (.v 4)), (.sl (.v 5) (.v 6) (.v 7))])] [((.a 5), (.prop 8))] 9 = t_r5Encode := by kernel_rfl
-- tideline/tidelineref07.Bytes: ρ := [.i x_Kind, .i x_Id_Client, .i x_Id_Birth, .i x_Id_Number, .i x_Stream, .i x_Back, .a x_Payloada, .n x_Payloadl, .n x_Payloadc, .p x_PayloadP]
def t_r7Bytes : T :=
(.new
(.new
(.call 102 [(.a (.sl (.b (.v 11) 0) (.n 1) (.n 1))), (.a (.int .u64 (.o1 (.wrap .u64) (.v 1)))), (.a (.int .i64 (.i 4)))] [((.b (.v 11)), (.cells [(.int .u8 (.o1 (.wrap .u8) (.v 0)))] 5))] [.a, .n, .n, .p, .p] (.w (.a (.sl (.v 12) (.v 13) (.v 14)))) [((.a 12), (.prop 15)), ((.b (.v 11)), (.prop 16))]
(.call 102 [(.a (.sl (.v 12) (.v 13) (.v 14))), (.a (.int .u64 (.o1 (.wrap .u64) (.v 2)))), (.a (.int .i64 (.i 4)))] [((.a 12), (.prop 15))] [.a, .n, .n, .p, .p] (.w (.a (.sl (.v 17) (.v 18) (.v 19)))) [((.a 17), (.prop 20)), ((.a 12), (.prop 21))]
(.call 102 [(.a (.sl (.v 17) (.v 18) (.v 19))), (.a (.int .u64 (.o1 (.wrap .u64) (.v 3)))), (.a (.int .i64 (.i 4)))] [((.a 17), (.prop 20))] [.a, .n, .n, .p, .p] (.w (.a (.sl (.v 22) (.v 23) (.v 24)))) [((.a 22), (.prop 25)), ((.a 17), (.prop 26))]
(.new
(.op (.call ⟨.builtin .append, #[(.tmp 26), (.tmp 30)], #[28, 28]⟩) 28 [(26, (.w (.a (.sl (.v 22) (.v 23) (.v 24))))), (30, (.w (.a (.sl (.b (.v 27) 0) (.n 1) (.n 1)))))] [((.a 22), (.prop 25)), ((.b (.v 27)), (.cells [(.int .u8 (.o1 (.wrap .u8) (.v 4)))] 5))] [.a, .n, .n, .p] (.w (.a (.sl (.v 28) (.v 29) (.v 30)))) [((.a 28), (.prop 31)), ((.b (.v 27)), (.cells [(.int .u8 (.o1 (.wrap .u8) (.v 4)))] 5))]
(.call 103 [(.a (.sl (.v 28) (.v 29) (.v 30))), (.a (.int .i64 (.v 5)))] [((.a 28), (.prop 31))] [.a, .n, .n, .p, .p] (.w (.a (.sl (.v 32) (.v 33) (.v 34)))) [((.a 32), (.prop 35)), ((.a 28), (.prop 36))]
(.call 104 [(.a (.sl (.v 32) (.v 33) (.v 34))), (.a (.sl (.v 6) (.v 7) (.v 8)))] [((.a 32), (.prop 35)), ((.a 6), (.prop 9))] [.a, .n, .n, .p, .p] (.w (.a (.sl (.v 37) (.v 38) (.v 39)))) [((.a 37), (.prop 40)), ((.a 32), (.prop 41)), ((.a 6), (.prop 9))]
(.call 105 [(.a (.sl (.v 37) (.v 38) (.v 39)))] [((.a 37), (.prop 40))] [.a, .n, .n, .p, .p] (.w (.a (.sl (.v 42) (.v 43) (.v 44)))) [((.a 42), (.prop 45)), ((.a 37), (.prop 46))]
(.ret (.w (.a (.sl (.v 42) (.v 43) (.v 44)))) [((.a 6), (.prop 9)), ((.a 42), (.prop 45))])))))))))))
theorem tree_r7Bytes : tree Tryz.prog { absT := [5], opq := [], hv := [], keep := [30], link := [], ent := [], turn := [(104, [0])], shr := [], vt := [], mkd := [], rlink := [], pty := [], outl := false, stay := [], snk := [], rdf := true } Tryz.f39 [(.agg [(.int .i64 (.v 0)), (.int .i64 (.v 1)), (.int .i64 (.v 2)), (.int .i64 (.v 3)), (.int .i64 (.v 4)), (.int .i64 (.v 5)), (.sl (.v 6) (.v 7) (.v 8))])] [((.a 6), (.prop 9))] 10 = t_r7Bytes := by kernel_rfl
-- tideline/tidelineref07.may: ρ := [.i n]
def t_r7may : T :=
(.br (.o2 .le (.i 0) (.v 0))
 (.ret (.w (.a (.bool (.o2 .le (.v 0) (.i 2147483647))))) [])
 (.ret (.w (.a (.bool (.c false)))) []))
theorem tree_r7may : tree Tryz.prog { absT := [5], opq := [], hv := [], keep := [30], link := [], ent := [], turn := [], shr := [], vt := [], mkd := [], rlink := [], pty := [], outl := false, stay := [], snk := [], rdf := true } Tryz.f162 [(.a (.int .i64 (.v 0)))] [] 1 = t_r7may := by kernel_rfl
-- tideline/tidelineref07.Right: ρ := [.i x_Kind, .i x_Id_Client, .i x_Id_Birth, .i x_Id_Number, .i x_Stream, .i x_Back, .a x_Payloada, .n x_Payloadl, .n x_Payloadc, .p x_PayloadP]
def t_r7Right : T :=
(.new
(.br (.o1 .not (.o2 .eq (.v 0) (.i 1)))
 (.br (.o1 .not (.o2 .eq (.v 0) (.i 2)))
  (.ret (.w (.a (.bool (.c false)))) [((.a 6), (.prop 9))])
  (.call 162 [(.a (.int .i64 (.v 1)))] [] [.c] (.w (.a (.bool (.v 11)))) []
  (.br (.o1 .not (.v 11))
   (.ret (.w (.a (.bool (.c false)))) [((.a 6), (.prop 9))])
   (.call 162 [(.a (.int .i64 (.v 2)))] [] [.c] (.w (.a (.bool (.v 12)))) []
   (.br (.o1 .not (.v 12))
    (.ret (.w (.a (.bool (.c false)))) [((.a 6), (.prop 9))])
    (.call 162 [(.a (.int .i64 (.v 3)))] [] [.c] (.w (.a (.bool (.v 13)))) []
    (.br (.o1 .not (.v 13))
     (.ret (.w (.a (.bool (.c false)))) [((.a 6), (.prop 9))])
     (.br (.o2 .le (.i 0) (.v 4))
      (.br (.o2 .le (.v 4) (.i 7))
       (.br (.o2 .le (.i (-1)) (.v 5))
        (.br (.o2 .le (.v 5) (.i 4294967296))
         (.call 39 [(.agg [(.int .i64 (.v 0)), (.int .i64 (.v 1)), (.int .i64 (.v 2)), (.int .i64 (.v 3)), (.int .i64 (.v 4)), (.int .i64 (.v 5)), (.sl (.v 6) (.v 7) (.v 8))])] [((.a 6), (.prop 9))] [.a, .n, .n, .p] (.w (.a (.sl (.v 14) (.v 15) (.v 16)))) [((.a 14), (.prop 17)), ((.a 6), (.prop 9))]
         (.ret (.w (.a (.bool (.o2 .le (.o1 .ofNat (.v 15)) (.i 65536))))) [((.a 6), (.prop 9))]))
         (.ret (.w (.a (.bool (.c false)))) [((.a 6), (.prop 9))]))
        (.ret (.w (.a (.bool (.c false)))) [((.a 6), (.prop 9))]))
       (.ret (.w (.a (.bool (.c false)))) [((.a 6), (.prop 9))]))
      (.ret (.w (.a (.bool (.c false)))) [((.a 6), (.prop 9))])))))))))
 (.call 162 [(.a (.int .i64 (.v 1)))] [] [.c] (.w (.a (.bool (.v 11)))) []
 (.br (.o1 .not (.v 11))
  (.ret (.w (.a (.bool (.c false)))) [((.a 6), (.prop 9))])
  (.call 162 [(.a (.int .i64 (.v 2)))] [] [.c] (.w (.a (.bool (.v 12)))) []
  (.br (.o1 .not (.v 12))
   (.ret (.w (.a (.bool (.c false)))) [((.a 6), (.prop 9))])
   (.call 162 [(.a (.int .i64 (.v 3)))] [] [.c] (.w (.a (.bool (.v 13)))) []
   (.br (.o1 .not (.v 13))
    (.ret (.w (.a (.bool (.c false)))) [((.a 6), (.prop 9))])
    (.br (.o2 .le (.i 0) (.v 4))
     (.br (.o2 .le (.v 4) (.i 7))
      (.br (.o2 .le (.i (-1)) (.v 5))
       (.br (.o2 .le (.v 5) (.i 4294967296))
        (.call 39 [(.agg [(.int .i64 (.v 0)), (.int .i64 (.v 1)), (.int .i64 (.v 2)), (.int .i64 (.v 3)), (.int .i64 (.v 4)), (.int .i64 (.v 5)), (.sl (.v 6) (.v 7) (.v 8))])] [((.a 6), (.prop 9))] [.a, .n, .n, .p] (.w (.a (.sl (.v 14) (.v 15) (.v 16)))) [((.a 14), (.prop 17)), ((.a 6), (.prop 9))]
        (.ret (.w (.a (.bool (.o2 .le (.o1 .ofNat (.v 15)) (.i 65536))))) [((.a 6), (.prop 9))]))
        (.ret (.w (.a (.bool (.c false)))) [((.a 6), (.prop 9))]))
       (.ret (.w (.a (.bool (.c false)))) [((.a 6), (.prop 9))]))
      (.ret (.w (.a (.bool (.c false)))) [((.a 6), (.prop 9))]))
     (.ret (.w (.a (.bool (.c false)))) [((.a 6), (.prop 9))]))))))))))
theorem tree_r7Right : tree Tryz.prog { absT := [5], opq := [], hv := [], keep := [39, 30], link := [], ent := [], turn := [], shr := [], vt := [], mkd := [], rlink := [], pty := [], outl := false, stay := [], snk := [], rdf := true } Tryz.f93 [(.agg [(.int .i64 (.v 0)), (.int .i64 (.v 1)), (.int .i64 (.v 2)), (.int .i64 (.v 3)), (.int .i64 (.v 4)), (.int .i64 (.v 5)), (.sl (.v 6) (.v 7) (.v 8))])] [((.a 6), (.prop 9))] 10 = t_r7Right := by kernel_rfl
end Go.Proofs.YtdieogcemmnaaaaGreatDoor.RX


/- The document's bytes of calls and entries (tidelineref01, 02, 05, 07) as exact contracts. No condition. -/
namespace Go.Proofs.YtdieogcemmnaaaaGreatDoor
set_option linter.unusedSimpArgs false
set_option linter.unusedVariables false
open Go.Proofs.YtdieogcemmnaaaaGreatDoor RX
set_option maxRecDepth 100000

theorem quo256 (v m : Nat) : (((v / 256 ^ m : Nat) : Int)).tdiv 256 = ((v / 256 ^ (m + 1) : Nat) : Int) := by
  rw [Nat.pow_succ, ← Nat.div_div_eq_div_mul]
  exact (Int.ofNat_tdiv _ _).symm
theorem byteAt_rem (v k j : Nat) (hj : j < k) : IntKind.u8.wrap ((((v / 256 ^ (k - 1 - j) : Nat) : Int)).tmod 256) = ((byteAt v k j).toNat : Int) := by
  have e1 : (((v / 256 ^ (k - 1 - j) : Nat) : Int)).tmod 256 = ((v / 256 ^ (k - 1 - j) % 256 : Nat) : Int) := (Int.ofNat_tmod _ _).symm
  have e2 : (256 : Nat) ^ (k - 1 - j) = 2 ^ (8 * (k - 1 - j)) := by rw [Nat.pow_mul]
  rw [e1, e2]
  simp only [IntKind.wrap, IntKind.bits, IntKind.signed, byteAt, UInt8.toNat_ofNat', Bool.false_and, Bool.false_eq_true, if_false]
  omega
set_option maxHeartbeats 1000000 in
theorem r1Put_ok (a : Option Addr) (c : Nat) (l : List UInt8) (v k : Nat) (hk : k ≤ 8) (hv : v < 18446744073709551616) (hb : l.length + 8 ≤ 140737488355328) :
    Tri Tryz.prog 102 #[.slice a l.length c, .int .u64 v, .int .i64 k] (OwB a l.length c l) (fun x => HP.ex fun a' => HP.ex fun c' => HP.and (x = .slice a' (l.length + k) c') (OwB a' (l.length + k) c' (l ++ beN v k))) := by
  refine tri_of_tree (ρ := [.a a, .n l.length, .n c, .p (OwB a l.length c l), .i v, .i k]) mixed Tryz.func102 tree_r1Put ?_
  unfold t_r1Put
  simp only [T.den, E.prop, E.den, RX.look, F1.app, F2.app, Uni.int_i, Uni.nat_n, Uni.bool_c, Uni.str_s, Uni.adr_a, Uni.val_v, Uni.hp_p, hden, cden, V.den, W.den, A.den, BR.den, SA.den, FV.den, capV, exs, exP, allP, Cur.app, List.map_cons, List.map_nil, List.cons_append, List.nil_append, List.drop_succ_cons, List.drop_zero, List.length_cons, List.length_nil, Nat.zero_add, Nat.reduceAdd, Int.neg_neg, Bool.not_not, List.append_nil, Nat.add_zero, List.getElem?_cons_zero, List.getElem?_cons_succ, Decidable.not_not, semW_eq, semW_load, semW_store, semW_storeC, semW_append, semW_lookup, semW_lookupC, semW_update, semW_updateC, semW_updateK, semW_delete, semW_range, semW_next, semW_entry, semW_nil, ne_eq, Nat.reduceEqDiff, not_false_eq_true]
  refine ⟨fun h => by omega, fun _ => ⟨inI64 _ (by omega) (by omega), fun _ => ?_⟩⟩
  refine ⟨fun a n c i P => ∃ j : Nat, j ≤ k ∧ n = l.length + j ∧ i = (k : Int) - 1 - j ∧ HP.ent P (OwB a (l.length + j) c (l ++ (beN v k).take j)), fun _ _ _ i _ => (i + 1).toNat, ⟨0, Nat.zero_le _, rfl, by simp, by simpa using HP.ent.refl _⟩, ?_⟩
  rintro a n c i P ⟨j, hj, rfl, rfl, hP⟩
  refine ⟨fun hge => ?_, fun hlt => ?_⟩
  · have hjk : j < k := by omega
    refine ⟨fun x q => ∃ m : Nat, m ≤ k - 1 - j ∧ q = m ∧ x = ((v / 256 ^ m : Nat) : Int), fun _ q => (k - 1 - j) - q.toNat, ⟨0, Nat.zero_le _, rfl, by simp⟩, ?_⟩
    rintro x q ⟨m, hm, rfl, rfl⟩
    refine ⟨fun hlt => ?_, fun hge2 => ?_⟩
    · rw [quo256]
      have h1 : v / 256 ^ (m + 1) ≤ v := Nat.div_le_self _ _
      have h2 : ∃ w : Nat, v / 256 ^ (m + 1) = w := ⟨_, rfl⟩
      refine ⟨inU64 _ (Int.natCast_nonneg _) (by obtain ⟨w, hw⟩ := h2; rw [hw] at h1 ⊢; omega), fun _ => ⟨inI64 _ (by omega) (by omega), fun _ => ⟨⟨m + 1, by omega, by omega, rfl⟩, by dsimp only; omega⟩⟩⟩
    · obtain rfl : m = k - 1 - j := by omega
      intro y
      rw [byteAt_rem v k j hjk]
      refine OTri.pre3 ((append8 a (l.length + j) c (l ++ (beN v k).take j) _ (some ⟨y, 0, none⟩) 1 1 [byteAt v k j] ⟨one_rd y #[u8v (byteAt v k j)] _, fun _ _ _ e => by cases e⟩ rfl (fun _ => rfl) (by omega)).weak (fun _ _ h => h) ?_) (HP.ent.sep hP _)
      rintro r R h ⟨a', c', rfl, H⟩
      refine ⟨a', l.length + j + 1, c', _, rfl, ⟨inI64 _ (by omega) (by omega), fun _ => ⟨⟨j + 1, hjk, rfl, by omega, ?_⟩, by dsimp only; omega⟩⟩, H⟩
      rw [beN_take v k j hjk, ← List.append_assoc]
      exact HP.ent.refl _
  · obtain rfl : j = k := by omega
    refine hP.trans (.of fun R h H => ⟨a, c, rfl, ?_⟩)
    rw [List.take_of_length_le (by rw [beN_len]; exact Nat.le_refl _)] at H
    exact H
def lenB' (q : List UInt8) : List UInt8 := beN q.length 4 ++ q
theorem lenB'_len (q : List UInt8) : (lenB' q).length = q.length + 4 := by unfold lenB'; simp [beN_len]; omega
theorem wrapU {x : Nat} (h : x < 18446744073709551616) : IntKind.u64.wrap (x : Int) = x := wrap_in ⟨by show (0 : Int) ≤ _; omega, by show _ ≤ (18446744073709551615 : Int); omega⟩
theorem linksN_lt' (u : Int) : linksN u < 18446744073709551616 := by
  have h1 := linksN_val u
  simp only [IntKind.wrap, IntKind.bits, IntKind.signed, Bool.false_and, Bool.false_eq_true, if_false] at h1
  omega
/-- What an encoder gives: bytes of one's own. -/
def Enc (S : HP) (q : List UInt8) (v : Value) : HP := HP.ex fun a' : Option Addr => HP.ex fun c' : Nat => HP.and (v = .slice a' q.length c') (HP.sep (OwB a' q.length c' q) S)
theorem r1PutE (a : Option Addr) (c : Nat) (l : List UInt8) (v k : Nat) (hk : k ≤ 8) (hv : v < 18446744073709551616) (hb : l.length + 8 ≤ 140737488355328) :
    Tri Tryz.prog 102 #[.slice a l.length c, .int .u64 v, .int .i64 k] (OwB a l.length c l) (Enc HP.tt (l ++ beN v k)) := by
  refine (r1Put_ok a c l v k hk hv hb).weak (fun _ _ h => h) ?_
  rintro r R h ⟨a', c', rfl, H⟩
  refine ⟨a', c', ?_, ?_⟩
  · rw [List.length_append, beN_len]
  · rw [List.length_append, beN_len]; exact HP.sep_tt H
theorem r1Bytes_ok (a : Option Addr) (c : Nat) (l : List UInt8) (b : Option Addr) (d : Nat) (q : List UInt8) (S : HP) (hr : RdL S b q.length (q.map u8v)) (hs : q.length ≠ 0 → b.isSome = true) (hb : l.length + q.length + 100 ≤ 140737488355328) :
    Tri Tryz.prog 104 #[.slice a l.length c, .slice b q.length d] (HP.sep (OwB a l.length c l) S) (Enc S (l ++ lenB' q)) := by
  refine tri_of_tree (ρ := [.a a, .n l.length, .n c, .p (OwB a l.length c l), .a b, .n q.length, .n d, .p S]) mixed Tryz.func104 tree_r1Bytes ?_
  unfold t_r1Bytes
  simp only [T.den, E.prop, E.den, RX.look, F1.app, F2.app, Uni.int_i, Uni.nat_n, Uni.bool_c, Uni.str_s, Uni.adr_a, Uni.val_v, Uni.hp_p, hden, cden, V.den, W.den, A.den, BR.den, SA.den, FV.den, capV, exs, exP, allP, Cur.app, List.map_cons, List.map_nil, List.cons_append, List.nil_append, List.drop_succ_cons, List.drop_zero, List.length_cons, List.length_nil, Nat.zero_add, Nat.reduceAdd, Int.neg_neg, Bool.not_not, List.append_nil, Nat.add_zero, List.getElem?_cons_zero, List.getElem?_cons_succ, Decidable.not_not, semW_eq, semW_load, semW_store, semW_storeC, semW_append, semW_lookup, semW_lookupC, semW_update, semW_updateC, semW_updateK, semW_delete, semW_range, semW_next, semW_entry, semW_nil, ne_eq, Nat.reduceEqDiff, not_false_eq_true]
  rw [wrapU (by omega)]
  refine (r1Put_ok a c l q.length 4 (by omega) (by omega) (by omega)).weak (fun _ _ h => h) ?_
  rintro v R h ⟨a1, c1, rfl, H⟩
  refine ⟨a1, l.length + 4, c1, OwB a1 (l.length + 4) c1 (l ++ beN q.length 4), HP.tt, rfl, ?_, HP.sep_tt H⟩
  clear H
  refine (append8 a1 (l.length + 4) c1 (l ++ beN q.length 4) S b q.length d q hr rfl hs (by omega)).weak (fun _ _ h => h) ?_
  rintro v R h ⟨a2, c2, rfl, H⟩
  refine ⟨a2, l.length + 4 + q.length, c2, OwB a2 (l.length + 4 + q.length) c2 (l ++ beN q.length 4 ++ q), rfl, .of fun R h H => ⟨a2, c2, ?_, ?_⟩, H⟩
  · rw [List.length_append, lenB'_len, Nat.add_assoc, Nat.add_comm 4]
  · have H2 := HP.sep_right H
    rw [List.length_append, lenB'_len, show l ++ lenB' q = l ++ beN q.length 4 ++ q by unfold lenB'; rw [List.append_assoc], show l.length + (q.length + 4) = l.length + 4 + q.length by omega]
    exact HP.sep_comm H2
theorem r1Text_ok (a : Option Addr) (c : Nat) (l : List UInt8) (s : Nm) (hb : l.length + s.length + 100 ≤ 140737488355328) :
    Tri Tryz.prog 109 #[.slice a l.length c, sE s] (OwB a l.length c l) (Enc HP.tt (l ++ lenB' s)) := by
  refine tri_of_tree (ρ := [.a a, .n l.length, .n c, .p (OwB a l.length c l), .s s]) mixed Tryz.func109 tree_r1Text ?_
  unfold t_r1Text
  simp only [T.den, E.prop, E.den, RX.look, F1.app, F2.app, Uni.int_i, Uni.nat_n, Uni.bool_c, Uni.str_s, Uni.adr_a, Uni.val_v, Uni.hp_p, hden, cden, V.den, W.den, A.den, BR.den, SA.den, FV.den, capV, exs, exP, allP, Cur.app, List.map_cons, List.map_nil, List.cons_append, List.nil_append, List.drop_succ_cons, List.drop_zero, List.length_cons, List.length_nil, Nat.zero_add, Nat.reduceAdd, Int.neg_neg, Bool.not_not, List.append_nil, Nat.add_zero, List.getElem?_cons_zero, List.getElem?_cons_succ, Decidable.not_not, semW_eq, semW_load, semW_store, semW_storeC, semW_append, semW_lookup, semW_lookupC, semW_update, semW_updateC, semW_updateK, semW_delete, semW_range, semW_next, semW_entry, semW_nil, ne_eq, Nat.reduceEqDiff, not_false_eq_true]
  rw [semW_cnv]
  refine (strB_ok s HP.tt).weak (fun _ _ h => h) ?_
  rintro v R h ⟨z, c2, ⟨rfl, hc⟩, H⟩
  refine ⟨some ⟨z, 0, none⟩, _, c2, RoB (some ⟨z, 0, none⟩) s.length s, rfl, ?_, HP.sep_left H⟩
  clear H
  refine (r1Bytes_ok a c l (some ⟨z, 0, none⟩) c2 s (RoB (some ⟨z, 0, none⟩) s.length s) (RdL.ro _ _ _ _) (fun _ => rfl) hb).weak (fun _ _ h => h) ?_
  rintro v R h ⟨a2, c3, rfl, H⟩
  refine ⟨a2, _, c3, OwB a2 (l ++ lenB' s).length c3 (l ++ lenB' s), HP.tt, rfl, .of fun R h H => ⟨a2, c3, rfl, HP.sep_comm H⟩, HP.sep_mono H (fun _ h => h) fun x hx => HP.tt_sep hx⟩
theorem r5Int_ok (a : Option Addr) (c : Nat) (l : List UInt8) (n : Int) (hb : l.length + 100 ≤ 140737488355328) :
    Tri Tryz.prog 103 #[.slice a l.length c, .int .i64 n] (OwB a l.length c l) (Enc HP.tt (l ++ beN (linksN n) 8)) := by
  refine tri_of_tree (ρ := [.a a, .n l.length, .n c, .p (OwB a l.length c l), .i n]) mixed Tryz.func103 tree_r5Int ?_
  unfold t_r5Int
  simp only [T.den, E.prop, E.den, RX.look, F1.app, F2.app, Uni.int_i, Uni.nat_n, Uni.bool_c, Uni.str_s, Uni.adr_a, Uni.val_v, Uni.hp_p, hden, cden, V.den, W.den, A.den, BR.den, SA.den, FV.den, capV, exs, exP, allP, Cur.app, List.map_cons, List.map_nil, List.cons_append, List.nil_append, List.drop_succ_cons, List.drop_zero, List.length_cons, List.length_nil, Nat.zero_add, Nat.reduceAdd, Int.neg_neg, Bool.not_not, List.append_nil, Nat.add_zero, List.getElem?_cons_zero, List.getElem?_cons_succ, Decidable.not_not, semW_eq, semW_load, semW_store, semW_storeC, semW_append, semW_lookup, semW_lookupC, semW_update, semW_updateC, semW_updateK, semW_delete, semW_range, semW_next, semW_entry, semW_nil, ne_eq, Nat.reduceEqDiff, not_false_eq_true]
  rw [← linksN_val]
  refine (r1Put_ok a c l (linksN n) 8 (by omega) (linksN_lt' n) (by omega)).weak (fun _ _ h => h) ?_
  rintro v R h ⟨a1, c1, rfl, H⟩
  refine ⟨a1, l.length + 8, c1, OwB a1 (l.length + 8) c1 (l ++ beN (linksN n) 8), HP.tt, rfl, .of fun R h H => ⟨a1, c1, ?_, ?_⟩, HP.sep_tt H⟩
  · rw [List.length_append, beN_len]
  · rw [List.length_append, beN_len]; exact HP.sep_comm H
/-! the sum, bit by bit -/
def bit1 (s : Nat) : Nat := if s % 2 = 1 then s / 2 ^^^ 3988292384 else s / 2
def bits1 : Nat → Nat → Nat | 0, s => s | k + 1, s => bits1 k (bit1 s)
theorem bits1_succ (k s : Nat) : bits1 (k + 1) s = bit1 (bits1 k s) := by
  induction k generalizing s with
  | zero => rfl
  | succ k ih => show bits1 (k + 1) (bit1 s) = _; rw [ih]; rfl
theorem bit1_xor (a b : Nat) : bit1 (a ^^^ b) = bit1 a ^^^ bit1 b := by
  have h2 : (a ^^^ b) / 2 = a / 2 ^^^ b / 2 := Nat.xor_div_two
  have h1 : (a ^^^ b) % 2 = (a % 2) ^^^ (b % 2) := by
    have := Nat.xor_mod_two_pow (a := a) (b := b) (n := 1)
    simpa using this
  unfold bit1
  rw [h1, h2]
  rcases Nat.mod_two_eq_zero_or_one a with ha | ha <;> rcases Nat.mod_two_eq_zero_or_one b with hb | hb <;> rw [ha, hb]
  · simp
  · simp [Nat.xor_assoc]
  · simp only [Nat.xor_zero, if_true, Nat.zero_ne_one, if_false]
    rw [Nat.xor_assoc, Nat.xor_comm (b / 2), ← Nat.xor_assoc]
  · have : ¬ ((1 : Nat) ^^^ 1 = 1) := by decide
    rw [if_neg this, if_pos rfl, if_pos rfl]
    rw [Nat.xor_assoc, Nat.xor_comm (b / 2), ← Nat.xor_assoc 3988292384, Nat.xor_self, Nat.zero_xor]
theorem bit1_even (q : Nat) : bit1 (2 * q) = q := by
  unfold bit1
  rw [if_neg (by omega)]; omega
theorem split16 (s : Nat) : s = (2 ^ 4 * (s / 16)) ^^^ (s % 16) := by
  have h16 : s % 16 < 2 ^ 4 := by omega
  have e : s = 2 ^ 4 * (s / 16) + s % 16 := by omega
  conv => lhs; rw [e]
  apply Nat.eq_of_testBit_eq
  intro j
  rw [Nat.testBit_two_pow_mul_add _ h16, Nat.testBit_xor, Nat.testBit_two_pow_mul]
  by_cases hj : j < 4
  · rw [if_pos hj]
    have : ¬ 4 ≤ j := by omega
    simp [this]
  · rw [if_neg hj]
    have h4 : 4 ≤ j := by omega
    have : (s % 16).testBit j = false := Nat.testBit_lt_two_pow (Nat.lt_of_lt_of_le h16 (Nat.pow_le_pow_right (by decide) h4))
    simp [this, h4]
theorem bits4 (s : Nat) : bits1 4 s = nib s := by
  have hx : ∀ a b : Nat, bits1 4 (a ^^^ b) = bits1 4 a ^^^ bits1 4 b := fun a b => by
    simp only [bits1, bit1_xor]
  have hm : ∀ q : Nat, bits1 4 (2 ^ 4 * q) = q := fun q => by
    simp only [bits1]
    rw [show 2 ^ 4 * q = 2 * (2 * (2 * (2 * q))) by omega, bit1_even, bit1_even, bit1_even, bit1_even]
  have hr : ∀ r < 16, bits1 4 r = fours[r]?.getD 0 := by decide
  have e := split16 s
  conv => lhs; rw [e]
  rw [hx, hm, hr _ (by omega)]
  rfl
theorem bits8 (s : Nat) : bits1 8 s = nib (nib s) := by
  rw [← bits4 s, ← bits4]; rfl
theorem bit1_lt {s : Nat} (h : s < 4294967296) : bit1 s < 4294967296 := by
  unfold bit1
  split
  · exact xor32 (by omega) (by omega)
  · omega
theorem bits1_lt {s : Nat} (h : s < 4294967296) : ∀ k, bits1 k s < 4294967296
  | 0 => h
  | k + 1 => by rw [bits1_succ]; exact bit1_lt (bits1_lt h k)
theorem compl32 {x : Nat} (h : x < 4294967296) : (4294967295 : Nat) ^^^ x = 4294967295 - x := by
  have e := congrArg BitVec.toNat (BitVec.allOnes_xor (x := BitVec.ofNat 32 x))
  rw [BitVec.toNat_xor, BitVec.toNat_not, BitVec.toNat_allOnes, BitVec.toNat_ofNat, Nat.mod_eq_of_lt (by simpa using h)] at e
  simpa using e
set_option maxHeartbeats 1000000 in
theorem r2Sum_ok (a : Option Addr) (n c : Nat) (l : List UInt8) (S : HP) (hr : RdL S a n (l.map u8v)) (hl : l.length = n) (ha : n ≠ 0 → a.isSome = true) (hb : n ≤ 140737488355328) :
    Tri Tryz.prog 166 #[.slice a n c] S (fun v => HP.and (v = .int .u32 (sumS l : Nat)) S) := by
  refine tri_of_tree (ρ := [.a a, .n n, .n c, .p S]) mixed Tryz.func166 tree_r2Sum ?_
  unfold t_r2Sum
  simp only [T.den, E.prop, E.den, RX.look, F1.app, F2.app, Uni.int_i, Uni.nat_n, Uni.bool_c, Uni.str_s, Uni.adr_a, Uni.val_v, Uni.hp_p, hden, cden, V.den, W.den, A.den, BR.den, SA.den, FV.den, capV, exs, exP, allP, Cur.app, List.map_cons, List.map_nil, List.cons_append, List.nil_append, List.drop_succ_cons, List.drop_zero, List.length_cons, List.length_nil, Nat.zero_add, Nat.reduceAdd, Int.neg_neg, Bool.not_not, List.append_nil, Nat.add_zero, List.getElem?_cons_zero, List.getElem?_cons_succ, Decidable.not_not, semW_eq, semW_load, semW_store, semW_storeC, semW_append, semW_lookup, semW_lookupC, semW_update, semW_updateC, semW_updateK, semW_delete, semW_range, semW_next, semW_entry, semW_nil, ne_eq, Nat.reduceEqDiff, not_false_eq_true]
  refine ⟨fun s i => ∃ k : Nat, k ≤ n ∧ i = k ∧ s = ((crcS 4294967295 (l.take k) : Nat) : Int), fun _ i => n - i.toNat, ⟨0, Nat.zero_le _, rfl, rfl⟩, ?_⟩
  rintro _ _ ⟨k, hk, rfl, rfl⟩
  have hlt32 : crcS 4294967295 (l.take k) < 4294967296 := crcS_lt (by decide) _
  refine ⟨fun hlt => ?_, fun hge => ?_⟩
  · have hkl : k < l.length := by omega
    obtain ⟨b, hbk⟩ : ∃ b, l[k]? = some b := ⟨_, List.getElem?_eq_getElem hkl⟩
    have hb8 := b.toNat_lt
    refine ⟨by omega, fun _ => ⟨ha (by omega), fun _ => ⟨b.toNat, load1_ok und8b agg8 sz8 hr.rd (k := k * 1) (off := 0) (by simp [u8v, hbk]), ?_⟩⟩⟩
    refine ⟨⟨by show (0 : Int) ≤ _; omega, by show _ ≤ (4294967295 : Int); omega⟩, fun _ => ?_⟩
    have hx0 : crcS 4294967295 (l.take k) ^^^ b.toNat < 4294967296 := xor32 hlt32 (by omega)
    refine ⟨fun s i => ∃ m : Nat, m ≤ 8 ∧ i = m ∧ s = ((bits1 m (crcS 4294967295 (l.take k) ^^^ b.toNat) : Nat) : Int), fun _ i => 8 - i.toNat, ⟨0, by omega, rfl, by rw [bxor32 hlt32 (by omega)]; rfl⟩, ?_⟩
    rintro _ _ ⟨m, hm, rfl, rfl⟩
    have hm32 := bits1_lt hx0 m
    obtain ⟨y, hy⟩ : ∃ y, bits1 m (crcS 4294967295 (l.take k) ^^^ b.toNat) = y := ⟨_, rfl⟩
    have hnext := bits1_succ m (crcS 4294967295 (l.take k) ^^^ b.toNat)
    rw [hy] at hm32 hnext ⊢
    have e1 : ((y : Int)).tdiv 2 = ((y / 2 : Nat) : Int) := (Int.ofNat_tdiv _ _).symm
    have e2 : ((y : Int)).tmod 2 = ((y % 2 : Nat) : Int) := (Int.ofNat_tmod _ _).symm
    rw [e1, e2]
    refine ⟨fun hlt8 => ?_, fun hge8 => ?_⟩
    · refine ⟨⟨by show (0 : Int) ≤ _; omega, by show _ ≤ (4294967295 : Int); omega⟩, fun _ => ⟨fun h1 => ?_, fun h1 => ?_⟩⟩
      · refine ⟨inI64 _ (by omega) (by omega), fun _ => ⟨⟨m + 1, by omega, by omega, ?_⟩, by dsimp only; omega⟩⟩
        rw [hnext]
        have := bxor32 (a := y / 2) (b := 3988292384) (by omega) (by omega)
        rw [show ((3988292384 : Nat) : Int) = 3988292384 from rfl] at this
        rw [this]
        unfold bit1; rw [if_pos (by omega)]
      · refine ⟨inI64 _ (by omega) (by omega), fun _ => ⟨⟨m + 1, by omega, by omega, ?_⟩, by dsimp only; omega⟩⟩
        rw [hnext]
        unfold bit1; rw [if_neg (by omega)]
    · obtain rfl : m = 8 := by omega
      refine ⟨inI64 _ (by omega) (by omega), fun _ => ⟨⟨k + 1, by omega, by omega, ?_⟩, by dsimp only; omega⟩⟩
      rw [List.take_add_one, hbk, Option.toList_some, crcS_snoc]
      unfold crcB
      rw [← bits8, hy]
  · obtain rfl : k = n := by omega
    refine .of fun R h H => ⟨?_, H⟩
    rw [List.take_of_length_le (by omega)] at hlt32 ⊢
    have e : (4294967295 : Int) - ((crcS 4294967295 l : Nat) : Int) = ((4294967295 - crcS 4294967295 l : Nat) : Int) := by omega
    rw [e, wrap32 (by omega)]
    unfold sumS moreS
    have h0 : (4294967295 : Nat) ^^^ 0 = 4294967295 := by decide
    rw [h0]
    have := compl32 hlt32
    rw [this]
set_option maxHeartbeats 1000000 in
theorem r2Wrap_ok (a : Option Addr) (n c : Nat) (l : List UInt8) (S : HP) (hr : RdL S a n (l.map u8v)) (hl : l.length = n) (ha : n ≠ 0 → a.isSome = true) (hb : n ≤ 140737488355000) :
    Tri Tryz.prog 105 #[.slice a n c] S (Enc S (wrapS l)) := by
  refine tri_of_tree (ρ := [.a a, .n n, .n c, .p S]) mixed Tryz.func105 tree_r2Wrap ?_
  unfold t_r2Wrap
  simp only [T.den, E.prop, E.den, RX.look, F1.app, F2.app, Uni.int_i, Uni.nat_n, Uni.bool_c, Uni.str_s, Uni.adr_a, Uni.val_v, Uni.hp_p, hden, cden, V.den, W.den, A.den, BR.den, SA.den, FV.den, capV, exs, exP, allP, Cur.app, List.map_cons, List.map_nil, List.cons_append, List.nil_append, List.drop_succ_cons, List.drop_zero, List.length_cons, List.length_nil, Nat.zero_add, Nat.reduceAdd, Int.neg_neg, Bool.not_not, List.append_nil, Nat.add_zero, List.getElem?_cons_zero, List.getElem?_cons_succ, Decidable.not_not, semW_eq, semW_load, semW_store, semW_storeC, semW_append, semW_lookup, semW_lookupC, semW_update, semW_updateC, semW_updateK, semW_delete, semW_range, semW_next, semW_entry, semW_nil, ne_eq, Nat.reduceEqDiff, not_false_eq_true]
  intro x
  refine (append8 (some ⟨x, 0, none⟩) 0 0 [] S a n c l hr hl ha (by omega)).weak (fun R h H => HP.sep_mono H (fun y hy => ⟨rfl, .inr ⟨x, #[], rfl, hy, Nat.le_refl _, by unfold maxLen; omega, rfl, rfl⟩⟩) fun _ h => h) ?_
  rintro v R h ⟨a1, c1, rfl, H⟩
  rw [Nat.zero_add, List.nil_append] at H
  refine ⟨a1, n, c1, OwB a1 n c1 l, by rw [Nat.zero_add], ?_, H⟩
  clear H
  refine (r2Sum_ok a n c l S hr hl ha (by omega)).weak (fun _ _ h => h) ?_
  rintro v R h ⟨rfl, H⟩
  have hs := sumS_lt l
  refine ⟨_, rfl, ⟨inU64 _ (by omega) (by omega), fun _ => ?_⟩, H⟩
  clear H
  subst hl
  refine (r1Put_ok a1 c1 l (sumS l) 4 (by omega) (by omega) (by omega)).weak (fun _ _ h => h) ?_
  rintro v R h ⟨a2, c2, rfl, H⟩
  refine ⟨a2, l.length + 4, c2, OwB a2 (l.length + 4) c2 (l ++ beN (sumS l) 4), HP.tt, rfl, .of fun R h H => ⟨a2, c2, ?_, ?_⟩, HP.sep_tt H⟩
  · rw [wrapS_len]
  · rw [wrapS_len]; exact HP.sep_comm H
/-- A call's bytes. -/
def callB (x : CallP) : List UInt8 := [byteI x.kind] ++ lenB' x.path ++ lenB' x.other ++ beN (linksN x.off) 8 ++ beN (linksN x.n) 8 ++ lenB' x.data
theorem one_ow {e : TypeId} {b : Nat} {v : Value} {R h : PH} (H : (HP.one b (.cells #[v] e (0, 0))).p R h) : (OwC e 1 (some ⟨b, 0, none⟩) 1 1 [v]).p R h := ⟨rfl, .inr ⟨b, #[v], rfl, H, Nat.le_refl _, by unfold maxLen; omega, rfl, rfl⟩⟩
set_option maxHeartbeats 2000000 in
theorem r5Encode_ok (x : CallP) (a : Option Addr) (c : Nat) (S : HP) (hr : RdL S a x.data.length (x.data.map u8v)) (ha : x.data.length ≠ 0 → a.isSome = true) (hb : x.path.length + x.other.length + x.data.length ≤ 100000000000000) :
    Tri Tryz.prog 46 #[x.val a c] S (Enc S (wrapS (callB x))) := by
  refine tri_of_tree (ρ := [.i x.kind, .s x.path, .s x.other, .i x.off, .i x.n, .a a, .n x.data.length, .n c, .p S]) mixed Tryz.func46 tree_r5Encode ?_
  unfold t_r5Encode
  simp only [T.den, E.prop, E.den, RX.look, F1.app, F2.app, Uni.int_i, Uni.nat_n, Uni.bool_c, Uni.str_s, Uni.adr_a, Uni.val_v, Uni.hp_p, hden, cden, V.den, W.den, A.den, BR.den, SA.den, FV.den, capV, exs, exP, allP, Cur.app, List.map_cons, List.map_nil, List.cons_append, List.nil_append, List.drop_succ_cons, List.drop_zero, List.length_cons, List.length_nil, Nat.zero_add, Nat.reduceAdd, Int.neg_neg, Bool.not_not, List.append_nil, Nat.add_zero, List.getElem?_cons_zero, List.getElem?_cons_succ, Decidable.not_not, semW_eq, semW_load, semW_store, semW_storeC, semW_append, semW_lookup, semW_lookupC, semW_update, semW_updateC, semW_updateK, semW_delete, semW_range, semW_next, semW_entry, semW_nil, ne_eq, Nat.reduceEqDiff, not_false_eq_true]
  intro y z
  rw [← byteI_val]
  refine (r1Text_ok (some ⟨z, 0, none⟩) 1 [byteI x.kind] x.path (by simp; omega)).weak (fun R h H => one_ow H) ?_
  rintro v R h ⟨a1, c1, rfl, H⟩
  refine ⟨a1, _, c1, OwB a1 ([byteI x.kind] ++ lenB' x.path).length c1 ([byteI x.kind] ++ lenB' x.path), HP.tt, rfl, ?_, H⟩
  clear H
  refine (r1Text_ok a1 c1 ([byteI x.kind] ++ lenB' x.path) x.other (by simp [lenB'_len]; omega)).weak (fun _ _ h => h) ?_
  rintro v R h ⟨a2, c2, rfl, H⟩
  refine ⟨a2, _, c2, _, HP.tt, rfl, ?_, H⟩
  clear H
  refine (r5Int_ok a2 c2 ([byteI x.kind] ++ lenB' x.path ++ lenB' x.other) x.off (by simp [lenB'_len]; omega)).weak (fun _ _ h => h) ?_
  rintro v R h ⟨a3, c3, rfl, H⟩
  refine ⟨a3, _, c3, _, HP.tt, rfl, ?_, H⟩
  clear H
  refine (r5Int_ok a3 c3 ([byteI x.kind] ++ lenB' x.path ++ lenB' x.other ++ beN (linksN x.off) 8) x.n (by simp [lenB'_len, beN_len]; omega)).weak (fun _ _ h => h) ?_
  rintro v R h ⟨a4, c4, rfl, H⟩
  refine ⟨a4, _, c4, _, HP.tt, rfl, ?_, H⟩
  clear H
  refine (r1Bytes_ok a4 c4 ([byteI x.kind] ++ lenB' x.path ++ lenB' x.other ++ beN (linksN x.off) 8 ++ beN (linksN x.n) 8) a c x.data S hr ha (by simp [lenB'_len, beN_len]; omega)).weak (fun _ _ h => h) ?_
  rintro v R h ⟨a5, c5, rfl, H⟩
  refine ⟨a5, _, c5, OwB a5 (callB x).length c5 (callB x), HP.tt, rfl, ?_, HP.sep_mono H (fun _ h => h) fun w hw => HP.tt_sep hw⟩
  have h5 : (callB x).length ≠ 0 → a5.isSome = true := fun hn => OwC.some (HP.sep_left H) (Nat.pos_of_ne_zero hn)
  clear H
  have hlen : (callB x).length ≤ 140737488355000 := by unfold callB; simp [lenB'_len, beN_len]; omega
  refine (r2Wrap_ok a5 (callB x).length c5 (callB x) _ (RdL.ow _ _ _ _ _ _) rfl h5 hlen).weak (fun _ _ h => h) ?_
  rintro v R h ⟨a6, c6, rfl, H⟩
  refine ⟨a6, _, c6, OwB a6 (wrapS (callB x)).length c6 (wrapS (callB x)), _, rfl, .of fun R h H => ⟨a6, c6, rfl, HP.sep_comm H⟩, H⟩
/-- An entry's bytes. -/
def logB (x : LogM) : List UInt8 := [byteI x.kind] ++ beN (linksN x.cl) 4 ++ beN (linksN x.bi) 4 ++ beN (linksN x.nu) 4 ++ [byteI x.st] ++ beN (linksN x.bk) 8 ++ lenB' x.pl
theorem logB_len (x : LogM) : (logB x).length = x.pl.length + 26 := by unfold logB; simp [lenB'_len, beN_len]; omega
set_option maxHeartbeats 2000000 in
theorem r7Bytes_ok (x : LogM) (a : Option Addr) (c : Nat) (S : HP) (hr : RdL S a x.pl.length (x.pl.map u8v)) (ha : x.pl.length ≠ 0 → a.isSome = true) (hb : x.pl.length ≤ 100000000000100) :
    Tri Tryz.prog 39 #[x.val a c] S (Enc S (wrapS (logB x))) := by
  refine tri_of_tree (ρ := [.i x.kind, .i x.cl, .i x.bi, .i x.nu, .i x.st, .i x.bk, .a a, .n x.pl.length, .n c, .p S]) mixed Tryz.func39 tree_r7Bytes ?_
  unfold t_r7Bytes
  simp only [T.den, E.prop, E.den, RX.look, F1.app, F2.app, Uni.int_i, Uni.nat_n, Uni.bool_c, Uni.str_s, Uni.adr_a, Uni.val_v, Uni.hp_p, hden, cden, V.den, W.den, A.den, BR.den, SA.den, FV.den, capV, exs, exP, allP, Cur.app, List.map_cons, List.map_nil, List.cons_append, List.nil_append, List.drop_succ_cons, List.drop_zero, List.length_cons, List.length_nil, Nat.zero_add, Nat.reduceAdd, Int.neg_neg, Bool.not_not, List.append_nil, Nat.add_zero, List.getElem?_cons_zero, List.getElem?_cons_succ, Decidable.not_not, semW_eq, semW_load, semW_store, semW_storeC, semW_append, semW_lookup, semW_lookupC, semW_update, semW_updateC, semW_updateK, semW_delete, semW_range, semW_next, semW_entry, semW_nil, ne_eq, Nat.reduceEqDiff, not_false_eq_true]
  intro y z
  rw [← byteI_val, ← byteI_val, ← linksN_val, ← linksN_val, ← linksN_val]
  refine (r1PutE (some ⟨z, 0, none⟩) 1 [byteI x.kind] (linksN x.cl) 4 (by omega) (linksN_lt' _) (by simp)).weak (fun R h H => one_ow H) ?_
  rintro v R h ⟨a1, c1, rfl, H⟩
  refine ⟨a1, _, c1, OwB a1 ([byteI x.kind] ++ beN (linksN x.cl) 4).length c1 ([byteI x.kind] ++ beN (linksN x.cl) 4), HP.tt, rfl, ?_, H⟩
  clear H
  refine (r1PutE a1 c1 ([byteI x.kind] ++ beN (linksN x.cl) 4) (linksN x.bi) 4 (by omega) (linksN_lt' _) (by simp [beN_len])).weak (fun _ _ h => h) ?_
  rintro v R h ⟨a2, c2, rfl, H⟩
  refine ⟨a2, _, c2, _, HP.tt, rfl, ?_, H⟩
  clear H
  refine (r1PutE a2 c2 ([byteI x.kind] ++ beN (linksN x.cl) 4 ++ beN (linksN x.bi) 4) (linksN x.nu) 4 (by omega) (linksN_lt' _) (by simp [beN_len])).weak (fun _ _ h => h) ?_
  rintro v R h ⟨a3, c3, rfl, H⟩
  refine ⟨a3, _, c3, _, HP.tt, rfl, fun w => ?_, H⟩
  clear H
  refine (append8 a3 ([byteI x.kind] ++ beN (linksN x.cl) 4 ++ beN (linksN x.bi) 4 ++ beN (linksN x.nu) 4).length c3 ([byteI x.kind] ++ beN (linksN x.cl) 4 ++ beN (linksN x.bi) 4 ++ beN (linksN x.nu) 4) _ (some ⟨w, 0, none⟩) 1 1 [byteI x.st] ⟨one_rd w #[u8v (byteI x.st)] _, fun _ _ _ e => by cases e⟩ rfl (fun _ => rfl) (by simp [beN_len])).weak (fun _ _ h => h) ?_
  rintro v R h ⟨a4, c4, rfl, H⟩
  refine ⟨a4, ([byteI x.kind] ++ beN (linksN x.cl) 4 ++ beN (linksN x.bi) 4 ++ beN (linksN x.nu) 4).length + 1, c4, OwB a4 ([byteI x.kind] ++ beN (linksN x.cl) 4 ++ beN (linksN x.bi) 4 ++ beN (linksN x.nu) 4 ++ [byteI x.st]).length c4 ([byteI x.kind] ++ beN (linksN x.cl) 4 ++ beN (linksN x.bi) 4 ++ beN (linksN x.nu) 4 ++ [byteI x.st]), rfl, ?_, by rw [List.length_append (bs := [byteI x.st])]; exact H⟩
  clear H
  refine (r5Int_ok a4 c4 ([byteI x.kind] ++ beN (linksN x.cl) 4 ++ beN (linksN x.bi) 4 ++ beN (linksN x.nu) 4 ++ [byteI x.st]) x.bk (by simp [beN_len])).weak (fun _ _ h => h) ?_
  rintro v R h ⟨a5, c5, rfl, H⟩
  refine ⟨a5, _, c5, _, HP.tt, rfl, ?_, H⟩
  clear H
  refine (r1Bytes_ok a5 c5 ([byteI x.kind] ++ beN (linksN x.cl) 4 ++ beN (linksN x.bi) 4 ++ beN (linksN x.nu) 4 ++ [byteI x.st] ++ beN (linksN x.bk) 8) a c x.pl S hr ha (by simp [beN_len]; omega)).weak (fun _ _ h => h) ?_
  rintro v R h ⟨a6, c6, rfl, H⟩
  have h6 : (logB x).length ≠ 0 → a6.isSome = true := fun hn => OwC.some (HP.sep_left H) (Nat.pos_of_ne_zero hn)
  refine ⟨a6, _, c6, OwB a6 (logB x).length c6 (logB x), HP.tt, rfl, ?_, HP.sep_mono H (fun _ h => h) fun w hw => HP.tt_sep hw⟩
  clear H
  have hlen := logB_len x
  refine (r2Wrap_ok a6 (logB x).length c6 (logB x) _ (RdL.ow _ _ _ _ _ _) rfl h6 (by omega)).weak (fun _ _ h => h) ?_
  rintro v R h ⟨a7, c7, rfl, H⟩
  refine ⟨a7, _, c7, OwB a7 (wrapS (logB x)).length c7 (wrapS (logB x)), _, rfl, .of fun R h H => ⟨a7, c7, rfl, HP.sep_comm H⟩, H⟩
theorem r7may_ok (n : Int) : Tri Tryz.prog 162 #[.int .i64 n] HP.tt (fun v => HP.and (v = .bool (partOk n)) HP.tt) := by
  refine tri_of_tree (ρ := [.i n]) mixed Tryz.func162 tree_r7may ?_
  unfold t_r7may
  simp only [T.den, E.prop, E.den, RX.look, F1.app, F2.app, Uni.int_i, Uni.nat_n, Uni.bool_c, Uni.str_s, Uni.adr_a, Uni.val_v, Uni.hp_p, hden, cden, V.den, W.den, A.den, BR.den, SA.den, FV.den, capV, exs, exP, allP, Cur.app, List.map_cons, List.map_nil, List.cons_append, List.nil_append, List.drop_succ_cons, List.drop_zero, List.length_cons, List.length_nil, Nat.zero_add, Nat.reduceAdd, Int.neg_neg, Bool.not_not, List.append_nil, Nat.add_zero, List.getElem?_cons_zero, List.getElem?_cons_succ, Decidable.not_not, semW_eq, semW_load, semW_store, semW_storeC, semW_append, semW_lookup, semW_lookupC, semW_update, semW_updateC, semW_updateK, semW_delete, semW_range, semW_next, semW_entry, semW_nil, ne_eq, Nat.reduceEqDiff, not_false_eq_true]
  unfold partOk
  refine ⟨fun h => .of fun R x _ => ⟨?_, trivial⟩, fun h => .of fun R x _ => ⟨?_, trivial⟩⟩
  · have h' : 0 ≤ n := h
    rw [decide_eq_true h', Bool.true_and]; rfl
  · have h' : ¬ 0 ≤ n := h
    rw [decide_eq_false h', Bool.false_and]
set_option maxHeartbeats 1000000 in
theorem r7Right_ok (x : LogM) (a : Option Addr) (c : Nat) (S : HP) (hr : RdL S a x.pl.length (x.pl.map u8v)) (ha : x.pl.length ≠ 0 → a.isSome = true) (hb : x.pl.length ≤ 100000000000100) :
    Tri Tryz.prog 93 #[x.val a c] S (fun v => HP.and (v = .bool (logOk x)) S) := by
  refine tri_of_tree (ρ := [.i x.kind, .i x.cl, .i x.bi, .i x.nu, .i x.st, .i x.bk, .a a, .n x.pl.length, .n c, .p S]) mixed Tryz.func93 tree_r7Right ?_
  unfold t_r7Right
  simp only [T.den, E.prop, E.den, RX.look, F1.app, F2.app, Uni.int_i, Uni.nat_n, Uni.bool_c, Uni.str_s, Uni.adr_a, Uni.val_v, Uni.hp_p, hden, cden, V.den, W.den, A.den, BR.den, SA.den, FV.den, capV, exs, exP, allP, Cur.app, List.map_cons, List.map_nil, List.cons_append, List.nil_append, List.drop_succ_cons, List.drop_zero, List.length_cons, List.length_nil, Nat.zero_add, Nat.reduceAdd, Int.neg_neg, Bool.not_not, List.append_nil, Nat.add_zero, List.getElem?_cons_zero, List.getElem?_cons_succ, Decidable.not_not, semW_eq, semW_load, semW_store, semW_storeC, semW_append, semW_lookup, semW_lookupC, semW_update, semW_updateC, semW_updateK, semW_delete, semW_range, semW_next, semW_entry, semW_nil, ne_eq, Nat.reduceEqDiff, not_false_eq_true]
  intro _
  have no : logOk x = false → HP.ent S (HP.and (Value.bool false = .bool (logOk x)) S) := fun h => .of fun R h' H => ⟨by rw [h], H⟩
  refine ⟨fun h1 => ⟨fun h2 => no ?_, fun h2 => ?_⟩, fun h1 => ?_⟩
  · unfold logOk; simp [h1, h2]
  · have hk' : (decide (x.kind = 1) || decide (x.kind = 2)) = true := by
      have h2 : x.kind = 2 := by simpa using h2
      simp [h2]
    clear h1 h2
    refine (r7may_ok x.cl).weak (fun _ _ h => h) ?_
    rintro v R h ⟨rfl, H⟩
    refine ⟨_, rfl, ⟨fun h => no ?_, fun h1 => ?_⟩, H⟩
    · unfold logOk; simp [h]
    refine (r7may_ok x.bi).weak (fun _ _ h => h) ?_
    rintro v R h ⟨rfl, H⟩
    refine ⟨_, rfl, ⟨fun h => no ?_, fun h2 => ?_⟩, H⟩
    · unfold logOk; simp [h]
    refine (r7may_ok x.nu).weak (fun _ _ h => h) ?_
    rintro v R h ⟨rfl, H⟩
    refine ⟨_, rfl, ⟨fun h => no ?_, fun h3 => ⟨fun h4 => ⟨fun h5 => ⟨fun h6 => ⟨fun h7 => ?_, fun h => no ?_⟩, fun h => no ?_⟩, fun h => no ?_⟩, fun h => no ?_⟩⟩, H⟩
    · unfold logOk; simp [h]
    · refine (r7Bytes_ok x a c S hr ha hb).weak (fun _ _ h => h) ?_
      rintro v R h ⟨a1, c1, rfl, H⟩
      refine ⟨a1, _, c1, _, rfl, .of fun R h H => ⟨?_, H⟩, H⟩
      have a1 : 0 ≤ x.st := by omega
      have a2 : x.st < 8 := by omega
      have a3 : -1 ≤ x.bk := by omega
      have a4 : x.bk ≤ 4294967296 := by omega
      have h1 : partOk x.cl = true := by simpa using h1
      have h2 : partOk x.bi = true := by simpa using h2
      have h3 : partOk x.nu = true := by simpa using h3
      have hl := logB_len x
      unfold logOk
      rw [hk', h1, h2, h3, wrapS_len, hl]
      simp [a1, a2, a3, a4]
      omega
    · unfold logOk; have : ¬ x.bk ≤ 4294967296 := by omega
      simp [this]
    · unfold logOk; have : ¬ -1 ≤ x.bk := by omega
      simp [this]
    · unfold logOk; have : ¬ x.st < 8 := by omega
      simp [this]
    · unfold logOk; have : ¬ 0 ≤ x.st := by omega
      simp [this]
  · have hk' : (decide (x.kind = 1) || decide (x.kind = 2)) = true := by
      have h1 : x.kind = 1 := by simpa using h1
      simp [h1]
    clear h1
    refine (r7may_ok x.cl).weak (fun _ _ h => h) ?_
    rintro v R h ⟨rfl, H⟩
    refine ⟨_, rfl, ⟨fun h => no ?_, fun h1 => ?_⟩, H⟩
    · unfold logOk; simp [h]
    refine (r7may_ok x.bi).weak (fun _ _ h => h) ?_
    rintro v R h ⟨rfl, H⟩
    refine ⟨_, rfl, ⟨fun h => no ?_, fun h2 => ?_⟩, H⟩
    · unfold logOk; simp [h]
    refine (r7may_ok x.nu).weak (fun _ _ h => h) ?_
    rintro v R h ⟨rfl, H⟩
    refine ⟨_, rfl, ⟨fun h => no ?_, fun h3 => ⟨fun h4 => ⟨fun h5 => ⟨fun h6 => ⟨fun h7 => ?_, fun h => no ?_⟩, fun h => no ?_⟩, fun h => no ?_⟩, fun h => no ?_⟩⟩, H⟩
    · unfold logOk; simp [h]
    · refine (r7Bytes_ok x a c S hr ha hb).weak (fun _ _ h => h) ?_
      rintro v R h ⟨a1, c1, rfl, H⟩
      refine ⟨a1, _, c1, _, rfl, .of fun R h H => ⟨?_, H⟩, H⟩
      have a1 : 0 ≤ x.st := by omega
      have a2 : x.st < 8 := by omega
      have a3 : -1 ≤ x.bk := by omega
      have a4 : x.bk ≤ 4294967296 := by omega
      have h1 : partOk x.cl = true := by simpa using h1
      have h2 : partOk x.bi = true := by simpa using h2
      have h3 : partOk x.nu = true := by simpa using h3
      have hl := logB_len x
      unfold logOk
      rw [hk', h1, h2, h3, wrapS_len, hl]
      simp [a1, a2, a3, a4]
      omega
    · unfold logOk; have : ¬ x.bk ≤ 4294967296 := by omega
      simp [this]
    · unfold logOk; have : ¬ -1 ≤ x.bk := by omega
      simp [this]
    · unfold logOk; have : ¬ x.st < 8 := by omega
      simp [this]
    · unfold logOk; have : ¬ 0 ≤ x.st := by omega
      simp [this]
end Go.Proofs.YtdieogcemmnaaaaGreatDoor


/- Openers of what came in, where it holds at most 1048576 values and letters together. No condition. -/
namespace Go.Proofs.YtdieogcemmnaaaaGreatDoor
open Go.RowKit Go.ChangeShapes Go.WideShapes Go.Deep RX
set_option maxRecDepth 100000

def SmallU {H : Type} (_P : Program) (_t : TypeId) (d : DataW H) : Prop := Rows.uptoBulk d ≤ 1048576
section
variable {H : Type} {P : Program} {t e : TypeId}
theorem bulk_one (d : DataW H) : 1 ≤ Rows.uptoBulk d := by
  cases d with
  | lit l => cases l <;> simp [Rows.uptoBulk]
  | nil => simp [Rows.uptoBulk]
  | ptr d => simp [Rows.uptoBulk]
  | slice elems spare => simp [Rows.uptoBulk]
  | agg parts => simp [Rows.uptoBulk]
  | iface t d => simp [Rows.uptoBulk]
  | map entries => simp [Rows.uptoBulk]
  | held h => simp [Rows.uptoBulk]
theorem bulk_mem : ∀ {l : List (DataW H)} {d : DataW H}, d ∈ l → Rows.uptoBulk d ≤ Rows.uptoBulkAll l
  | x :: l, d, h => by
    simp only [Rows.uptoBulkAll]
    rcases List.mem_cons.1 h with h | h
    · subst h; omega
    · have := bulk_mem h; omega
theorem bulk_len : ∀ l : List (DataW H), l.length ≤ Rows.uptoBulkAll l
  | [] => by simp [Rows.uptoBulkAll]
  | x :: l => by have := bulk_one x; have := bulk_len l; simp only [Rows.uptoBulkAll, List.length_cons]; omega
theorem SmallU.elem {elems spare : List (DataW H)} (h : SmallU P t (.slice elems spare)) {d : DataW H} (hd : d ∈ elems) : SmallU P e d := by
  have h1 : Rows.uptoBulkAll elems + Rows.uptoBulkAll spare + 1 ≤ 1048576 := by simpa [SmallU, Rows.uptoBulk] using h
  have := bulk_mem hd
  unfold SmallU; omega
theorem SmallU.part {parts : List (DataW H)} (h : SmallU P t (.agg parts)) {i : Nat} {d : DataW H} (hd : parts[i]? = some d) : SmallU P e d := by
  have h1 : Rows.uptoBulkAll parts + 1 ≤ 1048576 := by simpa [SmallU, Rows.uptoBulk] using h
  have := bulk_mem (List.mem_of_getElem? hd)
  unfold SmallU; omega
theorem SmallU.len {elems spare : List (DataW H)} (h : SmallU P t (.slice elems spare)) : elems.length + spare.length ≤ 1048576 := by
  have h1 : Rows.uptoBulkAll elems + Rows.uptoBulkAll spare + 1 ≤ 1048576 := by simpa [SmallU, Rows.uptoBulk] using h
  have := bulk_len elems
  have := bulk_len spare
  omega
theorem SmallU.str {b : List UInt8} (h : SmallU (H := H) P t (.lit (.string b))) : b.length ≤ 1048576 := by
  have h1 : b.length + 1 ≤ 1048576 := by simpa [SmallU, Rows.uptoBulk] using h
  omega
theorem SmallU.arg {ds gs : List (DataW H)} (h : Rows.uptoSmall H (ds ++ gs) = true) {j : Nat} {d : DataW H} (hd : ds[j]? = some d) : SmallU P t d := by
  have h1 := of_decide_eq_true h
  have := bulk_mem (List.mem_append.2 (.inl (List.mem_of_getElem? hd)) : d ∈ ds ++ gs)
  unfold SmallU; omega
end
section
variable {H : Type} {enc : TypeId × Value → H} {w : World} {base : Nat}
theorem bytes_of_trodU {fuel : Nat} {v : Value} {x : DataW H × List MemPlace} (h : DataW.trod enc Tryz.prog w 0 (fun _ => true) true fuel 28 [v] = some x) (hs : SmallU Tryz.prog 28 x.1) :
    ∃ (a : Option Addr) (l : List UInt8) (c : Nat), v = .slice a l.length c ∧ (l.length ≤ 1048576 ∧ l.length ≤ c) ∧ ∀ h, (RoB a l.length l).p (allOf w) h := by
  rcases open_slice1 Tryz.underlying28 (by kernel_rfl) h with ⟨hcs, hx⟩ | ⟨a, len, cap, m, n, V, D, Pl, hcs, _, hl, _, hm, hx0, hx⟩
  · simp at hcs
    subst hcs
    exact ⟨none, [], 0, rfl, ⟨by simp, by simp⟩, fun h => RoC.nil _ _ _ _⟩
  · simp at hcs
    subst hcs
    have hlm : len ≤ m := by rw [hm]; simp only [if_true]; exact hl
    have hx' : ∀ i, i < len → ∃ q : UInt8, w.cell? (a.add i) = some (u8v q) := fun i hi => by
      obtain ⟨h1, h2⟩ := hx i (by omega)
      obtain ⟨q, hq, _, hw⟩ := DataW.trod_int Tryz.underlying5 h2
      simp at hq
      simp only [Lit.wf, Bool.and_eq_true, decide_eq_true_eq] at hw
      have h0 : (0 : Int) ≤ q := hw.1
      have h255 : q ≤ 255 := hw.2
      refine ⟨UInt8.ofNat q.toNat, ?_⟩
      rw [h1, hq]
      have e : ((UInt8.ofNat q.toNat).toNat : Int) = q := by
        rw [UInt8.toNat_ofNat']
        omega
      unfold u8v
      rw [e]
    obtain ⟨z, hz⟩ := choose_lt (p := fun i q => w.cell? (a.add i) = some (u8v q)) hx'
    have hb : len ≤ 1048576 := by
      rw [hx0] at hs
      have := SmallU.len hs
      simp at this
      omega
    have hlen : ((List.range len).map z).length = len := by simp
    refine ⟨some a, (List.range len).map z, cap, by rw [hlen], ⟨by rw [hlen]; exact hb, by rw [hlen]; exact hl⟩, fun h => ?_⟩
    rw [hlen]
    by_cases h0 : len = 0
    · subst h0; exact RoC.nil _ _ _ _
    · have hsp : a.spot = none := by
        have := hz 0 (by omega)
        rw [Addr.add_zero'] at this
        exact spot_none this
      obtain ⟨g, off, sp⟩ := a
      simp only at hsp
      subst hsp
      refine roC_of (by decide) (by simp) fun i v hv => ?_
      have hi : i < len := by have := (List.getElem?_eq_some_iff.1 hv).1; simpa using this
      have := (addr_plain (hz i hi)).2.1
      rw [this]
      simp [hi] at hv
      rw [← hv]
variable {α : Type}
theorem slice_of_trodU [Inhabited α] (K : Kind α) {t e : TypeId} (hu : Tryz.prog.underlying t = some (.slice e)) (hn : Tryz.prog.cellsOf e = K.n) (hb : 1 ≤ Tryz.prog.bytesOf e)
    (el : ∀ {cs : List Value} {n : Nat} {x : DataW H × List MemPlace}, DataW.trod enc Tryz.prog w 0 (fun _ => true) true n e cs = some x → SmallU Tryz.prog e x.1 → ∃ m : α, cs = K.vals m ∧ ∀ h, (K.hp m).p (allOf w) h)
    {fuel : Nat} {v : Value} {x : DataW H × List MemPlace} (h : DataW.trod enc Tryz.prog w 0 (fun _ => true) true fuel t [v] = some x) (hs : SmallU Tryz.prog t x.1) :
    ∃ (a : Option Addr) (l : List α) (c : Nat), v = .slice a l.length c ∧ l.length ≤ 1048576 ∧ ∀ h, (Ls K a l.length l).p (allOf w) h := by
  rcases open_slice hu h with ⟨hcs, _⟩ | ⟨a, len, cap, m, n, D, Pl, hcs, _, hl, hmax, hm, hxx, hx⟩
  · simp at hcs
    subst hcs
    exact ⟨none, [], 0, rfl, by simp, fun h => ⟨rfl, RoC.nil _ _ _ _, fun x hx => by cases hx⟩⟩
  · simp at hcs
    subst hcs
    rw [hn] at hx
    have hlm : len ≤ m := by rw [hm]; simp only [if_true]; exact hl
    rw [hxx] at hs
    have hbl : len ≤ 1048576 := by
      have := SmallU.len hs
      simp at this
      omega
    have hx' : ∀ i, i < len → ∃ q : α, (∀ j, j < K.n → w.cell? (a.add (i * K.n + j)) = (K.vals q)[j]?) ∧ ∀ h, (K.hp q).p (allOf w) h := fun i hi => by
      obtain ⟨cs', h1, h2⟩ := hx i (by omega)
      obtain ⟨q, rfl, hr⟩ := el h2 (SmallU.elem hs (List.mem_map.2 ⟨i, List.mem_range.2 hi, rfl⟩))
      obtain ⟨_, _, hc⟩ := World.cells?_some h1
      refine ⟨q, fun j hj => ?_, hr⟩
      rw [← add_add, hc j hj]
    obtain ⟨ra, hra⟩ := choose_lt (p := fun i (q : α) => (∀ j, j < K.n → w.cell? (a.add (i * K.n + j)) = (K.vals q)[j]?) ∧ ∀ h, (K.hp q).p (allOf w) h) hx'
    have hlen : ((List.range len).map ra).length = len := by simp
    refine ⟨some a, (List.range len).map ra, cap, by rw [hlen], by rw [hlen]; exact hbl, fun h => ⟨rfl, ?_, fun x hx => ?_⟩⟩
    · rw [hlen]
      by_cases h0 : len = 0
      · subst h0; exact RoC.nil _ _ _ _
      · have hsp : a.spot = none := by
          have h1 := (hra 0 (by omega)).1 0 K.pos
          rw [Nat.zero_mul, Nat.add_zero, Addr.add_zero', List.getElem?_eq_getElem (by rw [K.len]; exact K.pos)] at h1
          exact spot_none h1
        obtain ⟨g, off, sp⟩ := a
        simp only at hsp
        subst hsp
        have hlen2 : (((List.range len).map ra).flatMap K.vals).length = len * K.n := by rw [flat_lenL K.vals K.n K.len, hlen]
        refine roC_of K.pos hlen2 fun i v hv => ?_
        have hi : i < len * K.n := by have := (List.getElem?_eq_some_iff.1 hv).1; rw [hlen2] at this; exact this
        have hk : i / K.n < len := Nat.div_lt_of_lt_mul (by rw [Nat.mul_comm]; exact hi)
        have hj : i % K.n < K.n := Nat.mod_lt _ K.pos
        have e : i = (i / K.n) * K.n + i % K.n := by rw [Nat.mul_comm]; exact (Nat.div_add_mod i K.n).symm
        have hg : ((List.range len).map ra)[i / K.n]? = some (ra (i / K.n)) := by simp [hk]
        have h1 := flat_getL K.vals K.n K.len _ (i / K.n) (i % K.n) _ hg hj
        rw [← e] at h1
        have h2 := (hra (i / K.n) hk).1 (i % K.n) hj
        rw [← e] at h2
        rw [h1] at hv
        rw [hv] at h2
        exact (addr_plain h2).2.1
    · obtain ⟨i, hi, rfl⟩ := List.mem_map.1 hx
      exact (hra i (List.mem_range.1 hi)).2 h
theorem slice_openU [Inhabited α] (K : Kind α) {t e : TypeId} (hu : Tryz.prog.underlying t = some (.slice e)) (hn : Tryz.prog.cellsOf e = K.n) (hb : 1 ≤ Tryz.prog.bytesOf e)
    (el : ∀ {cs : List Value} {n : Nat} {x : DataW H × List MemPlace}, DataW.trod enc Tryz.prog w 0 (fun _ => true) true n e cs = some x → SmallU Tryz.prog e x.1 → ∃ m : α, cs = K.vals m ∧ ∀ h, (K.hp m).p (allOf w) h)
    {base : Nat} {v : Value} (hv : Value.okWide Tryz.prog w .any base t v) (h : ∃ d p, DataW.Trod enc Tryz.prog w 0 (fun _ => true) true t v d p ∧ SmallU Tryz.prog t d) :
    ∃ (a : Option Addr) (l : List α) (c : Nat), v = .slice a l.length c ∧ l.length ≤ 1048576 ∧ ∀ h, (Ls K a l.length l).p (allOf w) h := by
  obtain ⟨b, len, cap, rfl⟩ := okWide_slice hu hv
  obtain ⟨d, p, ⟨fuel, hf⟩, hsm⟩ := h
  exact slice_of_trodU K hu hn hb el hf hsm
theorem field_strU {t : TypeId} {cs : List Value} {n i c : Nat} {xs : List (DataW H × List MemPlace)} {j : Nat} (hu : Tryz.prog.underlying t = some .string) (hj : j < xs.length) (hc : c = 1)
    (h : DataW.trod enc Tryz.prog w 0 (fun _ => true) true n t ((cs.drop i).take c) = xs[j]?) (hs : SmallU Tryz.prog t xs[j].1) : ∃ x : List UInt8, cs[i]? = some (.string ⟨x.toArray⟩) ∧ x.length ≤ 1048576 := by
  subst hc
  rw [List.getElem?_eq_getElem hj] at h
  obtain ⟨s, h1, h3, _⟩ := DataW.trod_string hu h
  refine ⟨s.data.toList, by rw [take1 h1], ?_⟩
  rw [h3] at hs
  exact SmallU.str hs
theorem int_openRU {base : Nat} {v : Value} (hv : Value.okWide Tryz.prog w .any base 3 v) (h : ∃ d p, DataW.Trod enc Tryz.prog w 0 (fun _ => true) true 3 v d p ∧ SmallU Tryz.prog 3 d) : ∃ n, v = .int .i64 n ∧ okI n := by
  obtain ⟨n, rfl⟩ := int_open enc base v w hv
  obtain ⟨d, p, ⟨fuel, hf⟩, _⟩ := h
  obtain ⟨x, hx, _, hw⟩ := DataW.trod_int Tryz.underlying3 hf
  simp [Value.cells] at hx
  subst hx
  exact ⟨n, rfl, int_wf hw⟩
end
end Go.Proofs.YtdieogcemmnaaaaGreatDoor


/- What comes into law 16. No condition. -/
namespace Go.Proofs.YtdieogcemmnaaaaGreatDoor
open Go.RowKit Go.ChangeShapes Go.WideShapes Go.Deep RX
set_option maxRecDepth 100000
set_option linter.unusedVariables false
set_option linter.unusedSimpArgs false

structure Step16 where
  what : Int
  low : Int
  id_cl : Int
  id_bi : Int
  id_nu : Int
  call_kind : Int
  call_path : List UInt8
  call_other : List UInt8
  call_off : Int
  call_n : Int
  call_data : List UInt8
  call_dataa : Option Addr
  call_datac : Nat
  raw : List UInt8
  rawa : Option Addr
  rawc : Nat
abbrev Step16.vals (x : Step16) : List Value := [.int .i64 x.what, .int .i64 x.low, .int .i64 x.id_cl, .int .i64 x.id_bi, .int .i64 x.id_nu, .int .i64 x.call_kind, .string ⟨x.call_path.toArray⟩, .string ⟨x.call_other.toArray⟩, .int .i64 x.call_off, .int .i64 x.call_n, .slice x.call_dataa x.call_data.length x.call_datac, .slice x.rawa x.raw.length x.rawc]
def Step16.hp (x : Step16) : HP := HP.both (HP.pure (okI x.what)) (HP.both (HP.pure (okI x.low)) (HP.both (HP.pure (okI x.id_cl)) (HP.both (HP.pure (okI x.id_bi)) (HP.both (HP.pure (okI x.id_nu)) (HP.both (HP.pure (okI x.call_kind)) (HP.both (HP.pure (x.call_path.length ≤ 1048576)) (HP.both (HP.pure (x.call_other.length ≤ 1048576)) (HP.both (HP.pure (okI x.call_off)) (HP.both (HP.pure (okI x.call_n)) (HP.both (HP.and (x.call_data.length ≤ 1048576 ∧ x.call_data.length ≤ x.call_datac) (RoB x.call_dataa x.call_data.length x.call_data)) (HP.and (x.raw.length ≤ 1048576 ∧ x.raw.length ≤ x.rawc) (RoB x.rawa x.raw.length x.raw))))))))))))
theorem Step16.pers (x : Step16) (R h h' : PH) (H : (x.hp).p R h) : (x.hp).p R h' := ⟨H.1, ⟨H.2.1, ⟨H.2.2.1, ⟨H.2.2.2.1, ⟨H.2.2.2.2.1, ⟨H.2.2.2.2.2.1, ⟨H.2.2.2.2.2.2.1, ⟨H.2.2.2.2.2.2.2.1, ⟨H.2.2.2.2.2.2.2.2.1, ⟨H.2.2.2.2.2.2.2.2.2.1, ⟨H.2.2.2.2.2.2.2.2.2.2.1, H.2.2.2.2.2.2.2.2.2.2.2⟩⟩⟩⟩⟩⟩⟩⟩⟩⟩⟩
instance : Inhabited Step16 := ⟨⟨0, 0, 0, 0, 0, 0, [], [], 0, 0, [], none, 0, [], none, 0⟩⟩
def kStep16 : Kind Step16 := ⟨12, by decide, Step16.vals, fun _ => rfl, Step16.hp, Step16.pers⟩
theorem Step16.of_trod {H : Type} {enc : TypeId × Value → H} {w : World} {cs : List Value} {n : Nat} {x : DataW H × List MemPlace} (h : DataW.trod enc Tryz.prog w 0 (fun _ => true) true n 65 cs = some x) (hs : SmallU Tryz.prog 65 x.1) : ∃ m : Step16, cs = kStep16.vals m ∧ ∀ h, (kStep16.hp m).p (allOf w) h := by
  obtain ⟨xs0, n0, _, hx0, hl0, hxl0, hf0⟩ := DataW.trod_struct Tryz.underlying65 h
  replace hxl0 : xs0.length = 5 := hxl0
  have hs0 : SmallU Tryz.prog 65 (.agg (xs0.map (·.1))) := by
    have e := hx0
    first | (subst e; exact hs) | (rw [e] at hs; exact hs) | (have e2 := congrArg Prod.fst e; rw [← e2]; exact hs) | (rw [← e]; exact hs)
  obtain ⟨c0, e0, w0⟩ := field_int Tryz.underlying3 (show 0 < xs0.length by omega) (by kernel_rfl) (hf0 0 _ rfl)
  obtain ⟨c1, e1, w1⟩ := field_int Tryz.underlying3 (show 1 < xs0.length by omega) (by kernel_rfl) (hf0 1 _ rfl)
  have g0_2 := hf0 2 _ rfl
  rw [List.getElem?_eq_getElem (show 2 < xs0.length by omega)] at g0_2
  have hp0_2 : SmallU Tryz.prog 57 xs0[2].1 := SmallU.part (i := 2) hs0 (by rw [List.getElem?_map, List.getElem?_eq_getElem (show 2 < xs0.length by omega)]; rfl)
  obtain ⟨xs1, n1, _, hx1, hl1, hxl1, hf1⟩ := DataW.trod_struct Tryz.underlying57 g0_2
  replace hxl1 : xs1.length = 3 := hxl1
  have hs1 : SmallU Tryz.prog 57 (.agg (xs1.map (·.1))) := by
    have e := hx1
    first | (subst e; exact hp0_2) | (rw [e] at hp0_2; exact hp0_2) | (have e2 := congrArg Prod.fst e; rw [← e2]; exact hp0_2) | (rw [← e]; exact hp0_2)
  obtain ⟨c2, e2, w2⟩ := field_int Tryz.underlying3 (show 0 < xs1.length by omega) (by kernel_rfl) (hf1 0 _ rfl)
  rw [List.getElem?_take_of_lt (of_decide_eq_true (by kernel_rfl)), List.getElem?_drop] at e2
  obtain ⟨c3, e3, w3⟩ := field_int Tryz.underlying3 (show 1 < xs1.length by omega) (by kernel_rfl) (hf1 1 _ rfl)
  rw [List.getElem?_take_of_lt (of_decide_eq_true (by kernel_rfl)), List.getElem?_drop] at e3
  obtain ⟨c4, e4, w4⟩ := field_int Tryz.underlying3 (show 2 < xs1.length by omega) (by kernel_rfl) (hf1 2 _ rfl)
  rw [List.getElem?_take_of_lt (of_decide_eq_true (by kernel_rfl)), List.getElem?_drop] at e4
  have g0_3 := hf0 3 _ rfl
  rw [List.getElem?_eq_getElem (show 3 < xs0.length by omega)] at g0_3
  have hp0_3 : SmallU Tryz.prog 34 xs0[3].1 := SmallU.part (i := 3) hs0 (by rw [List.getElem?_map, List.getElem?_eq_getElem (show 3 < xs0.length by omega)]; rfl)
  obtain ⟨xs2, n2, _, hx2, hl2, hxl2, hf2⟩ := DataW.trod_struct Tryz.underlying34 g0_3
  replace hxl2 : xs2.length = 6 := hxl2
  have hs2 : SmallU Tryz.prog 34 (.agg (xs2.map (·.1))) := by
    have e := hx2
    first | (subst e; exact hp0_3) | (rw [e] at hp0_3; exact hp0_3) | (have e2 := congrArg Prod.fst e; rw [← e2]; exact hp0_3) | (rw [← e]; exact hp0_3)
  obtain ⟨c5, e5, w5⟩ := field_int Tryz.underlying3 (show 0 < xs2.length by omega) (by kernel_rfl) (hf2 0 _ rfl)
  rw [List.getElem?_take_of_lt (of_decide_eq_true (by kernel_rfl)), List.getElem?_drop] at e5
  obtain ⟨c6, e6, w6⟩ := field_strU Tryz.underlying9 (show 1 < xs2.length by omega) (by kernel_rfl) (hf2 1 _ rfl) (SmallU.part (i := 1) hs2 (by rw [List.getElem?_map, List.getElem?_eq_getElem (show 1 < xs2.length by omega)]; rfl))
  rw [List.getElem?_take_of_lt (of_decide_eq_true (by kernel_rfl)), List.getElem?_drop] at e6
  obtain ⟨c7, e7, w7⟩ := field_strU Tryz.underlying9 (show 2 < xs2.length by omega) (by kernel_rfl) (hf2 2 _ rfl) (SmallU.part (i := 2) hs2 (by rw [List.getElem?_map, List.getElem?_eq_getElem (show 2 < xs2.length by omega)]; rfl))
  rw [List.getElem?_take_of_lt (of_decide_eq_true (by kernel_rfl)), List.getElem?_drop] at e7
  obtain ⟨c8, e8, w8⟩ := field_int Tryz.underlying3 (show 3 < xs2.length by omega) (by kernel_rfl) (hf2 3 _ rfl)
  rw [List.getElem?_take_of_lt (of_decide_eq_true (by kernel_rfl)), List.getElem?_drop] at e8
  obtain ⟨c9, e9, w9⟩ := field_int Tryz.underlying3 (show 4 < xs2.length by omega) (by kernel_rfl) (hf2 4 _ rfl)
  rw [List.getElem?_take_of_lt (of_decide_eq_true (by kernel_rfl)), List.getElem?_drop] at e9
  obtain ⟨a10, l10, k10, e10⟩ := field_slice Tryz.underlying28 (show 5 < xs2.length by omega) (by kernel_rfl) (hf2 5 _ rfl)
  have q10 := hf2 5 _ rfl
  rw [List.getElem?_eq_getElem (show 5 < xs2.length by omega)] at q10
  have g10 : DataW.trod enc Tryz.prog w 0 (fun _ => true) true n2 28 [.slice a10 l10 k10] = some xs2[5] := by
    rw [← take1' e10]
    exact q10
  have s10 : SmallU Tryz.prog 28 xs2[5].1 := SmallU.part (i := 5) hs2 (by rw [List.getElem?_map, List.getElem?_eq_getElem (show 5 < xs2.length by omega)]; rfl)
  obtain ⟨b10, d10, m10, r10, y10, z10⟩ := bytes_of_trodU g10 s10
  simp only [Value.slice.injEq] at r10
  obtain ⟨rfl, rfl, rfl⟩ := r10
  rw [List.getElem?_take_of_lt (of_decide_eq_true (by kernel_rfl)), List.getElem?_drop] at e10
  obtain ⟨a11, l11, k11, e11⟩ := field_slice Tryz.underlying28 (show 4 < xs0.length by omega) (by kernel_rfl) (hf0 4 _ rfl)
  have q11 := hf0 4 _ rfl
  rw [List.getElem?_eq_getElem (show 4 < xs0.length by omega)] at q11
  have g11 : DataW.trod enc Tryz.prog w 0 (fun _ => true) true n0 28 [.slice a11 l11 k11] = some xs0[4] := by
    rw [← take1' e11]
    exact q11
  have s11 : SmallU Tryz.prog 28 xs0[4].1 := SmallU.part (i := 4) hs0 (by rw [List.getElem?_map, List.getElem?_eq_getElem (show 4 < xs0.length by omega)]; rfl)
  obtain ⟨b11, d11, m11, r11, y11, z11⟩ := bytes_of_trodU g11 s11
  simp only [Value.slice.injEq] at r11
  obtain ⟨rfl, rfl, rfl⟩ := r11
  have hlen : cs.length = 12 := hl0.trans (by kernel_rfl)
  refine ⟨⟨c0, c1, c2, c3, c4, c5, c6, c7, c8, c9, d10, a10, k10, d11, a11, k11⟩, ?_, fun hh => ⟨int_wf w0, ⟨int_wf w1, ⟨int_wf w2, ⟨int_wf w3, ⟨int_wf w4, ⟨int_wf w5, ⟨w6, ⟨w7, ⟨int_wf w8, ⟨int_wf w9, ⟨⟨y10, z10 hh⟩, ⟨y11, z11 hh⟩⟩⟩⟩⟩⟩⟩⟩⟩⟩⟩⟩⟩
  clear h hl0 hf0 hl1 hf1 hl2 hf2 g0_2 g0_3 q10 g10 s10 q11 g11 s11
  revert e0 e1 e2 e3 e4 e5 e6 e7 e8 e9 e10 e11
  match cs, hlen with
  | [u0, u1, u2, u3, u4, u5, u6, u7, u8, u9, u10, u11], _ =>
    intro e0
    obtain rfl : u0 = .int _ c0 := Option.some.inj e0
    intro e1
    obtain rfl : u1 = .int _ c1 := Option.some.inj e1
    intro e2
    obtain rfl : u2 = .int _ c2 := Option.some.inj e2
    intro e3
    obtain rfl : u3 = .int _ c3 := Option.some.inj e3
    intro e4
    obtain rfl : u4 = .int _ c4 := Option.some.inj e4
    intro e5
    obtain rfl : u5 = .int _ c5 := Option.some.inj e5
    intro e6
    obtain rfl : u6 = .string ⟨c6.toArray⟩ := Option.some.inj e6
    intro e7
    obtain rfl : u7 = .string ⟨c7.toArray⟩ := Option.some.inj e7
    intro e8
    obtain rfl : u8 = .int _ c8 := Option.some.inj e8
    intro e9
    obtain rfl : u9 = .int _ c9 := Option.some.inj e9
    intro e10
    obtain rfl : u10 = .slice a10 d10.length k10 := Option.some.inj e10
    intro e11
    obtain rfl : u11 = .slice a11 d11.length k11 := Option.some.inj e11
    rfl
theorem Step16.load {a : Option Addr} {n : Nat} {l : List Step16} {k : Nat} {x : Step16} (hk : l[k]? = some x) : ORead Tryz.prog (loadS 65 (.pointer (a.map fun y => (y.add ((k : Int).toNat * 12)).add 0))) (Ls kStep16 a n l) (.agg x.vals.toArray) := by
  obtain ⟨d, hd⟩ : ∃ d, Tryz.prog.underlying 65 = some d := Option.isSome_iff_exists.1 (by kernel_rfl)
  exact Ls.load (K := kStep16) hd (by kernel_rfl) (by kernel_rfl) hk

end Go.Proofs.YtdieogcemmnaaaaGreatDoor


/- Trees of functions, printed by rx.lean. No condition. -/
namespace Go.Proofs.YtdieogcemmnaaaaGreatDoor.RX
set_option maxRecDepth 100000
-- tideline/tidelineref01.Same: ρ := [.a aa, .n al, .n ac, .p aP, .a ba, .n bl, .n bc, .p bP]
def t_same01 : T :=
(.br (.o1 .not (.o2 .eq (.o1 .ofNat (.v 1)) (.o1 .ofNat (.v 5))))
 (.ret (.w (.a (.bool (.c false)))) [((.a 0), (.prop 3)), ((.a 4), (.prop 7))])
 (.loop [.c, .i] [(.e (.o1 .not (.o1 .not (.c false)))), (.e (.o1 .neg (.o1 .neg (.i 0))))]
  (.br (.o2 .lt (.v 9) (.o1 .ofNat (.v 1)))
   (.need (.o2 .le (.i 0) (.v 9))
   (.need (.o1 .isSome (.v 0))
   (.read (.load 5 (.tmp 19)) 5 [(19, (.w (.a (.eptr 0 (.v 9) 1 0))))] [((.a 0), (.prop 3))] [.i] (.w (.a (.int .u8 (.v 10))))
   (.need (.o2 .lt (.v 9) (.o1 .ofNat (.v 5)))
   (.need (.o1 .isSome (.v 4))
   (.read (.load 5 (.tmp 23)) 5 [(23, (.w (.a (.eptr 4 (.v 9) 1 0))))] [((.a 4), (.prop 7))] [.i] (.w (.a (.int .u8 (.v 11))))
   (.br (.o1 .not (.o2 .eq (.v 10) (.v 11)))
    (.ret (.w (.a (.bool (.c false)))) [((.a 0), (.prop 3)), ((.a 4), (.prop 7))])
    (.need (.o1 (.inr .i64) (.o2 .add (.v 9) (.i 1)))
    (.again 0 [(.e (.o1 .not (.o1 .not (.v 8)))), (.e (.o1 .neg (.o1 .neg (.o2 .add (.v 9) (.i 1)))))])))))))))
   (.ret (.w (.a (.bool (.c true)))) [((.a 0), (.prop 3)), ((.a 4), (.prop 7))]))))
theorem tree_same01 : tree Tryz.prog { absT := [], opq := [], hv := [], keep := [30, 76, 78], link := [], ent := [], turn := [], shr := [], vt := [], mkd := [], rlink := [], pty := [], outl := false, stay := [], snk := [], rdf := true } Tryz.f30 [(.a (.sl (.v 0) (.v 1) (.v 2))), (.a (.sl (.v 4) (.v 5) (.v 6)))] [((.a 0), (.prop 3)), ((.a 4), (.prop 7))] 8 = t_same01 := by kernel_rfl
-- tideline/tidelineref03.SameTexts: ρ := [.a aa, .n al, .n ac, .p aP, .a ba, .n bl, .n bc, .p bP]
def t_sameNodes : T :=
(.br (.o1 .not (.o2 .eq (.o1 .ofNat (.v 1)) (.o1 .ofNat (.v 5))))
 (.ret (.w (.a (.bool (.c false)))) [((.a 0), (.prop 3)), ((.a 4), (.prop 7))])
 (.loop [.c, .i] [(.e (.o1 .not (.o1 .not (.c false)))), (.e (.o1 .neg (.o1 .neg (.i 0))))]
  (.br (.o2 .lt (.v 9) (.o1 .ofNat (.v 1)))
   (.join [.n, .n, .i, .i, .i, .a, .n, .n, .a, .n, .n, .i, .i, .i, .a, .n, .n, .a, .n, .n]
    (.need (.o2 .le (.i 0) (.v 9))
    (.need (.o1 .isSome (.v 0))
    (.read (.load 43 (.tmp 22)) 43 [(22, (.w (.a (.eptr 0 (.v 9) 5 0))))] [((.a 0), (.prop 3))] [.i, .i, .i, .a, .n, .n, .a, .n, .n] (.w (.agg [(.int .i64 (.v 10)), (.int .i64 (.v 11)), (.int .i64 (.v 12)), (.sl (.v 13) (.v 14) (.v 15)), (.sl (.v 16) (.v 17) (.v 18))]))
    (.need (.o2 .lt (.v 9) (.o1 .ofNat (.v 5)))
    (.need (.o1 .isSome (.v 4))
    (.read (.load 43 (.tmp 26)) 43 [(26, (.w (.a (.eptr 4 (.v 9) 5 0))))] [((.a 4), (.prop 7))] [.i, .i, .i, .a, .n, .n, .a, .n, .n] (.w (.agg [(.int .i64 (.v 19)), (.int .i64 (.v 20)), (.int .i64 (.v 21)), (.sl (.v 22) (.v 23) (.v 24)), (.sl (.v 25) (.v 26) (.v 27))]))
    (.all
     (.new
     (.new
     (.again 0 [(.n (.v 28)), (.n (.v 29)), (.e (.o1 .neg (.o1 .neg (.v 19)))), (.e (.o1 .neg (.o1 .neg (.v 20)))), (.e (.o1 .neg (.o1 .neg (.v 21)))), (.a (.v 22)), (.e (.o2 .nadd (.v 23) (.n 0))), (.e (.o2 .nadd (.v 24) (.n 0))), (.a (.v 25)), (.e (.o2 .nadd (.v 26) (.n 0))), (.e (.o2 .nadd (.v 27) (.n 0))), (.e (.o1 .neg (.o1 .neg (.v 10)))), (.e (.o1 .neg (.o1 .neg (.v 11)))), (.e (.o1 .neg (.o1 .neg (.v 12)))), (.a (.v 13)), (.e (.o2 .nadd (.v 14) (.n 0))), (.e (.o2 .nadd (.v 15) (.n 0))), (.a (.v 16)), (.e (.o2 .nadd (.v 17) (.n 0))), (.e (.o2 .nadd (.v 18) (.n 0)))])))
     (.new
     (.new
     (.again 0 [(.n (.v 29)), (.n (.v 28)), (.e (.o1 .neg (.o1 .neg (.v 19)))), (.e (.o1 .neg (.o1 .neg (.v 20)))), (.e (.o1 .neg (.o1 .neg (.v 21)))), (.a (.v 22)), (.e (.o2 .nadd (.v 23) (.n 0))), (.e (.o2 .nadd (.v 24) (.n 0))), (.a (.v 25)), (.e (.o2 .nadd (.v 26) (.n 0))), (.e (.o2 .nadd (.v 27) (.n 0))), (.e (.o1 .neg (.o1 .neg (.v 10)))), (.e (.o1 .neg (.o1 .neg (.v 11)))), (.e (.o1 .neg (.o1 .neg (.v 12)))), (.a (.v 13)), (.e (.o2 .nadd (.v 14) (.n 0))), (.e (.o2 .nadd (.v 15) (.n 0))), (.a (.v 16)), (.e (.o2 .nadd (.v 17) (.n 0))), (.e (.o2 .nadd (.v 18) (.n 0)))]))))))))))
   (.br (.o1 .not (.o2 .eq (.v 21) (.v 12)))
    (.ret (.w (.a (.bool (.c false)))) [((.a 0), (.prop 3)), ((.a 4), (.prop 7))])
    (.br (.o1 .not (.o2 .eq (.v 22) (.v 13)))
     (.ret (.w (.a (.bool (.c false)))) [((.a 0), (.prop 3)), ((.a 4), (.prop 7))])
     (.br (.o1 .not (.o2 .eq (.v 23) (.v 14)))
      (.ret (.w (.a (.bool (.c false)))) [((.a 0), (.prop 3)), ((.a 4), (.prop 7))])
      (.call 30 [(.a (.sl (.v 24) (.v 25) (.v 26))), (.a (.sl (.v 15) (.v 16) (.v 17)))] [((.a 0), (.prop 3)), ((.a 4), (.prop 7))] [.c] (.w (.a (.bool (.v 30)))) [((.a 0), (.prop 3)), ((.a 4), (.prop 7))]
      (.br (.o1 .not (.v 30))
       (.ret (.w (.a (.bool (.c false)))) [((.a 0), (.prop 3)), ((.a 4), (.prop 7))])
       (.br (.o1 .not (.o2 .eq (.o1 .ofNat (.v 28)) (.o1 .ofNat (.v 19))))
        (.ret (.w (.a (.bool (.c false)))) [((.a 0), (.prop 3)), ((.a 4), (.prop 7))])
        (.loop [.c, .i] [(.e (.o1 .not (.o1 .not (.v 8)))), (.e (.o1 .neg (.o1 .neg (.i 0))))]
         (.br (.o2 .lt (.v 32) (.o1 .ofNat (.v 28)))
          (.need (.o2 .le (.i 0) (.v 32))
          (.need (.o1 .isSome (.v 27))
          (.read (.load 140 (.tmp 74)) 140 [(74, (.w (.a (.eptr 27 (.v 32) 2 0))))] [((.a 0), (.prop 3))] [.s, .i] (.w (.agg [(.str (.v 33)), (.int .i64 (.v 34))]))
          (.need (.o2 .lt (.v 32) (.o1 .ofNat (.v 19)))
          (.need (.o1 .isSome (.v 18))
          (.read (.load 140 (.tmp 79)) 140 [(79, (.w (.a (.eptr 18 (.v 32) 2 0))))] [((.a 4), (.prop 7))] [.s, .i] (.w (.agg [(.str (.v 35)), (.int .i64 (.v 36))]))
          (.read (.binOp .neq 140 (.tmp 75) (.tmp 80) 140) 4 [(75, (.w (.agg [(.str (.v 33)), (.int .i64 (.v 34))]))), (80, (.w (.agg [(.str (.v 35)), (.int .i64 (.v 36))])))] [] [.c] (.w (.a (.bool (.v 37))))
          (.br (.v 37)
           (.ret (.w (.a (.bool (.c false)))) [((.a 0), (.prop 3)), ((.a 4), (.prop 7))])
           (.need (.o1 (.inr .i64) (.o2 .add (.v 32) (.i 1)))
           (.again 0 [(.e (.o1 .not (.o1 .not (.v 31)))), (.e (.o1 .neg (.o1 .neg (.o2 .add (.v 32) (.i 1)))))]))))))))))
          (.need (.o1 (.inr .i64) (.o2 .add (.v 9) (.i 1)))
          (.again 1 [(.e (.o1 .not (.o1 .not (.v 31)))), (.e (.o1 .neg (.o1 .neg (.o2 .add (.v 9) (.i 1)))))])))))))))))
   (.ret (.w (.a (.bool (.c true)))) [((.a 0), (.prop 3)), ((.a 4), (.prop 7))]))))
theorem tree_sameNodes : tree Tryz.prog { absT := [], opq := [], hv := [], keep := [30, 76, 78], link := [], ent := [], turn := [], shr := [], vt := [], mkd := [], rlink := [], pty := [], outl := false, stay := [], snk := [], rdf := true, jn := [((20, 10), some { ss := [.n, .n, .i, .i, .i, .a, .n, .n, .a, .n, .n, .i, .i, .i, .a, .n, .n, .a, .n, .n], n := 30, tv := [(20, none), (21, none), (22, none), (23, none), (24, none), (25, none), (26, none), (27, none), (6, some (.w (.a (.ptr (.v 10) 0)))), (7, some (.w (.a (.ptr (.v 11) 0))))], h := [((.b (.v 11)), (.cells [(.int .i64 (.v 12)), (.int .i64 (.v 13)), (.int .i64 (.v 14)), (.sl (.v 15) (.v 16) (.v 17)), (.sl (.v 18) (.v 19) (.v 20))] 43)), ((.b (.v 10)), (.cells [(.int .i64 (.v 21)), (.int .i64 (.v 22)), (.int .i64 (.v 23)), (.sl (.v 24) (.v 25) (.v 26)), (.sl (.v 27) (.v 28) (.v 29))] 43)), ((.a 0), (.prop 3)), ((.a 4), (.prop 7))], lk := [(15, (.a 4)), (18, (.a 4)), (24, (.a 0)), (27, (.a 0))] })] } Tryz.f20 [(.a (.sl (.v 0) (.v 1) (.v 2))), (.a (.sl (.v 4) (.v 5) (.v 6)))] [((.a 0), (.prop 3)), ((.a 4), (.prop 7))] 8 = t_sameNodes := by kernel_rfl
end Go.Proofs.YtdieogcemmnaaaaGreatDoor.RX


/- Contracts of what law 4 compares with: bytes, texts, answers, nodes. No condition. -/
namespace Go.Proofs.YtdieogcemmnaaaaGreatDoor
set_option linter.unusedSimpArgs false
set_option linter.unusedVariables false
open Go.Proofs.YtdieogcemmnaaaaGreatDoor RX
set_option maxRecDepth 100000

instance instAns : DecidableEq AnsM := fun r s => decidable_of_iff (r.err = s.err ∧ r.kind = s.kind ∧ r.size = s.size ∧ r.links = s.links ∧ r.data = s.data ∧ r.names = s.names) ⟨fun ⟨h1, h2, h3, h4, h5, h6⟩ => by cases r; cases s; simp only at h1 h2 h3 h4 h5 h6; subst h1 h2 h3 h4 h5 h6; rfl, fun h => by subst h; exact ⟨rfl, rfl, rfl, rfl, rfl, rfl⟩⟩
theorem RdL.isSome {S : HP} {a : Option Addr} {n : Nat} {xs : List Value} (r : RdL S a n xs) {R h : PH} (H : S.p R h) (hn : n ≠ 0) : a.isSome = true := by
  cases a with
  | some x => rfl
  | none => exact absurd (r.none R h H rfl) hn
theorem take_eq {α : Type} {l m : List α} {k : Nat} {x y : α} (hx : l[k]? = some x) (hy : m[k]? = some y) (h : l.take k = m.take k) (e : x = y) : l.take (k + 1) = m.take (k + 1) := by
  rw [List.take_add_one, List.take_add_one, hx, hy, h, e]
theorem getN {α : Type} {l : List α} {k : Nat} (h : k < l.length) : ∃ x, l[k]? = some x := ⟨_, List.getElem?_eq_getElem h⟩
theorem get_ne {α : Type} {l m : List α} {k : Nat} {x y : α} (hx : l[k]? = some x) (hy : m[k]? = some y) (h : x ≠ y) : l ≠ m := fun e => by
  subst e
  rw [hx] at hy
  exact h (Option.some.inj hy)
theorem same01_ok (a : Option Addr) (n c : Nat) (la : List UInt8) (b : Option Addr) (m d : Nat) (lb : List UInt8) (Sa Sb : HP) (hA : RdL Sa a n (la.map u8v)) (hB : RdL Sb b m (lb.map u8v)) (hla : la.length = n) (hlb : lb.length = m) (hn : n ≤ 140737488355328) :
    Tri Tryz.prog 30 #[.slice a n c, .slice b m d] (HP.sep Sa Sb) (fun v => HP.and (v = .bool (decide (la = lb))) (HP.sep Sa Sb)) := by
  refine Tri.fact (φ := (n ≠ 0 → a.isSome = true) ∧ (m ≠ 0 → b.isSome = true)) (fun R h H => ⟨hA.isSome (HP.sep_left H), hB.isSome (HP.sep_right H)⟩) fun ⟨ha, hb⟩ => ?_
  refine tri_of_tree (ρ := [.a a, .n n, .n c, .p Sa, .a b, .n m, .n d, .p Sb]) mixed Tryz.func30 tree_same01 ?_
  unfold t_same01
  simp only [T.den, E.prop, E.den, RX.look, F1.app, F2.app, Uni.int_i, Uni.nat_n, Uni.bool_c, Uni.str_s, Uni.adr_a, Uni.val_v, Uni.hp_p, hden, cden, V.den, W.den, A.den, BR.den, SA.den, FV.den, capV, exs, exP, allP, Cur.app, List.map_cons, List.map_nil, List.cons_append, List.nil_append, List.drop_succ_cons, List.drop_zero, List.length_cons, List.length_nil, Nat.zero_add, Nat.reduceAdd, Int.neg_neg, Bool.not_not, List.append_nil, Nat.add_zero, List.getElem?_cons_zero, List.getElem?_cons_succ, Decidable.not_not, semW_eq, semW_load, semW_store, semW_storeC, semW_append, semW_lookup, semW_lookupC, semW_update, semW_updateC, semW_updateK, semW_delete, semW_range, semW_next, semW_entry, semW_nil, ne_eq, Nat.reduceEqDiff, not_false_eq_true]
  refine ⟨fun h => .of fun R h' H => ⟨?_, H⟩, fun h => ?_⟩
  · rw [decide_eq_false]
    intro e; subst e; omega
  have hnm : n = m := by omega
  subst hnm
  refine ⟨fun _ i => ∃ k : Nat, i = k ∧ k ≤ n ∧ la.take k = lb.take k, fun _ i => n - i.toNat, ⟨0, rfl, Nat.zero_le _, rfl⟩, ?_⟩
  rintro x _ ⟨k, rfl, hk, hpre⟩
  refine ⟨fun hlt => ⟨by omega, fun _ => ⟨ha (by omega), fun _ => ?_⟩⟩, fun hge => .of fun R h' H => ⟨?_, H⟩⟩
  · obtain ⟨x, hx⟩ := getN (l := la) (k := k) (by omega)
    obtain ⟨y, hy⟩ := getN (l := lb) (k := k) (by omega)
    have ra := load1_ok und8b agg8 sz8 hA.rd (k := (k : Int).toNat * 1) (off := 0) (v := u8v x) (by rw [Int.toNat_natCast, Nat.mul_one, Nat.add_zero, List.getElem?_map, hx]; rfl)
    have rb := load1_ok und8b agg8 sz8 hB.rd (k := (k : Int).toNat * 1) (off := 0) (v := u8v y) (by rw [Int.toNat_natCast, Nat.mul_one, Nat.add_zero, List.getElem?_map, hy]; rfl)
    refine ⟨_, ra, by omega, fun _ => ⟨hb (by omega), fun _ => ⟨_, rb, fun h1 => .of fun R h' H => ⟨by rw [decide_eq_false (get_ne hx hy fun e => h1 (by rw [e]))], H⟩, fun h1 => ⟨inI64' _ (by omega) (by omega), fun _ => ⟨⟨k + 1, by omega, by omega, take_eq hx hy hpre (UInt8.toNat_inj.1 (by omega))⟩, by dsimp only; omega⟩⟩⟩⟩⟩
  · have hke : k = n := by omega
    subst hke
    rw [List.take_of_length_le (by omega), List.take_of_length_le (by omega)] at hpre
    rw [decide_eq_true hpre]
theorem strB {x y : List UInt8} : ((⟨x.toArray⟩ : ByteArray).toList == (⟨y.toArray⟩ : ByteArray).toList) = decide (x = y) := by
  rw [ByteArray.toList_eq, ByteArray.toList_eq]
  by_cases e : x = y
  · subst e; simp
  · simp [e]
theorem run_ent_eq {w : World} (r r' : Nm) (q q' : Int) : (Op.equal 140 (.agg #[sE r, .int .i64 q]) (.agg #[sE r', .int .i64 q'])).run Tryz.prog w = .ok (decide (r = r') && decide (q = q')) w := by
  have hs : Tryz.prog.stoodInHeld 140 = false := by kernel_rfl
  have hi : Tryz.prog.underlying 3 = some (.int .i64) := by kernel_rfl
  have ht : Tryz.prog.underlying 9 = some .string := by kernel_rfl
  have e2 : ∀ n, (Op.equalIn (n + 2) 140 (.agg #[sE r, .int .i64 q]) (.agg #[sE r', .int .i64 q'])).run Tryz.prog w = .ok (decide (r = r') && decide (q = q')) w := fun n => by
    rw [Op.equalIn]
    simp only [Sem.run_bind, RX.run_underlying Tryz.underlying140, Result.andThen_ok]
    simp [program, Sem.run, hs, Result.andThen]
    have pt : ∀ (cs : Array Value) (off : Nat) (v : Value), cs[off]? = some v → (part 9 cs off).run Tryz.prog w = .ok v w := fun cs off v h => by
      have ha : aggT Tryz.prog 9 = false := by kernel_rfl
      simp only [part, Sem.run_bind, RX.run_isAgg ht, Result.andThen_ok, ha, Bool.false_eq_true, if_false, h]
      rfl
    have pi : ∀ (cs : Array Value) (off : Nat) (v : Value), cs[off]? = some v → (part 3 cs off).run Tryz.prog w = .ok v w := fun cs off v h => by
      have ha : aggT Tryz.prog 3 = false := by kernel_rfl
      simp only [part, Sem.run_bind, RX.run_isAgg hi, Result.andThen_ok, ha, Bool.false_eq_true, if_false, h]
      rfl
    have p0 : ∀ (a : Nm) (b : Int), Sem.run Tryz.prog (part 9 #[sE a, Value.int IntKind.i64 b] 0) w = .ok (sE a) w := fun a b => pt _ _ _ rfl
    have p1 : ∀ (a : Nm) (b : Int), Sem.run Tryz.prog (part 3 #[sE a, Value.int IntKind.i64 b] 1) w = .ok (.int .i64 b) w := fun a b => pi _ _ _ rfl
    have eqi : ∀ (n : Nat) (a b : Int), (Op.equalIn (n + 1) 3 (.int .i64 a) (.int .i64 b)).run Tryz.prog w = .ok (decide (a = b)) w := fun n a b => by
      simp only [Op.equalIn, Sem.run_bind, RX.run_underlying hi, Result.andThen_ok, if_true, Sem.run_pure]
      rfl
    have eqs : ∀ (n : Nat) (a b : Nm), (Op.equalIn (n + 1) 9 (sE a) (sE b)).run Tryz.prog w = .ok (decide (a = b)) w := fun n a b => by
      show (Op.equalIn (n + 1) 9 (.string _) (.string _)).run Tryz.prog w = _
      rw [run_equalIn_string w n 9 _ _ ht, strB]
    simp only [p0, eqs]
    by_cases h1 : r = r'
    · simp [h1, Sem.run_bind, p1, eqi]
      by_cases h2 : q = q'
      · simp [h2]
      · simp [h2]
    · simp [h1]
  exact e2 9998
theorem neqEnt {i j : Nat} {ty u : TypeId} (h : i ≠ j) {r r' : Nm} {q q' : Int} {A : HP} :
    ORead Tryz.prog (semW (.binOp .neq 140 (.tmp i) (.tmp j) u) ty [(i, .agg #[sE r, .int .i64 q]), (j, .agg #[sE r', .int .i64 q'])]) A (.bool (!(decide (r = r') && decide (q = q')))) := fun w R hh F s _ => by
  have h' : (i == j) = false := by simpa using h
  have hg : Tryz.prog.eqGuardType Tryz.prog.depth 140 = false := by kernel_rfl
  simp only [semW, execOp, arW, List.find?_cons, beq_self_eq_true, h']
  simp [eqGuard, binOp, hg, program, Sem.run_bind, Sem.run, Result.andThen, run_ent_eq]
instance instNd : DecidableEq Nd := fun r s => decidable_of_iff (r.num = s.num ∧ r.kind = s.kind ∧ r.links = s.links ∧ r.data = s.data ∧ r.ents = s.ents) ⟨fun ⟨h1, h2, h3, h4, h5⟩ => by cases r; cases s; simp only at h1 h2 h3 h4 h5; subst h1 h2 h3 h4 h5; rfl, fun h => by subst h; exact ⟨rfl, rfl, rfl, rfl, rfl⟩⟩
theorem nodesData {a : Option Addr} {n : Nat} {es : List NodeE} {x : NodeE} (hx : x ∈ es) : RdL (Ls kNode a n es) x.da x.nd.data.length (x.nd.data.map u8v) :=
  ⟨Rd.impR (RdL.ro 1 x.da x.nd.data.length (x.nd.data.map u8v)).rd fun R h H => (H.2.2 x hx).1, fun R h H e => (RdL.ro 1 x.da x.nd.data.length (x.nd.data.map u8v)).none R h (H.2.2 x hx).1 e⟩
theorem undEnt : ∃ d, Tryz.prog.underlying 140 = some d := Option.isSome_iff_exists.1 (by kernel_rfl)
theorem aggEnt : aggT Tryz.prog 140 = true := by kernel_rfl
theorem szEnt : szT Tryz.prog 140 = 2 := by kernel_rfl
theorem loadEnt {a : Option Addr} {n : Nat} {es : List NodeE} {x : NodeE} (hx : x ∈ es) {k : Nat} {e : Nm × Nat} (hk : x.nd.ents[k]? = some e) : ORead Tryz.prog (loadS 140 (.pointer (x.ea.map fun y => (y.add (k * 2)).add 0))) (Ls kNode a n es) (.agg #[sE e.1, .int .i64 e.2]) := by
  obtain ⟨d, hd⟩ := undEnt
  exact ORead.ent (.of fun R h H => (H.2.2 x hx).2) (Ls.load (K := kEnt) hd aggEnt szEnt hk)
theorem nodesEa {a : Option Addr} {n : Nat} {es : List NodeE} {R h : PH} (H : (Ls kNode a n es).p R h) : ∀ x ∈ es, x.nd.ents.length ≠ 0 → x.ea.isSome = true := fun x hx hn => Ls.some (H.2.2 x hx).2 hn
set_option maxHeartbeats 1000000 in
theorem sameNodes_ok (a : Option Addr) (n c : Nat) (es : List NodeE) (b : Option Addr) (m d : Nat) (fs : List NodeE) (hb : ∀ x ∈ es, x.nd.data.length ≤ 140737488355328 ∧ x.nd.ents.length ≤ 140737488355328) (hn : n ≤ 140737488355328) :
    Tri Tryz.prog 20 #[.slice a n c, .slice b m d] (HP.sep (Ls kNode a n es) (Ls kNode b m fs)) (fun v => HP.and (v = .bool (decide (es.map (·.nd) = fs.map (·.nd)))) (HP.sep (Ls kNode a n es) (Ls kNode b m fs))) := by
  refine Tri.fact (φ := (es.length = n ∧ fs.length = m) ∧ ((n ≠ 0 → a.isSome = true) ∧ (m ≠ 0 → b.isSome = true)) ∧ (∀ x ∈ es, x.nd.ents.length ≠ 0 → x.ea.isSome = true) ∧ (∀ x ∈ fs, x.nd.ents.length ≠ 0 → x.ea.isSome = true)) (fun R h H => ⟨⟨(HP.sep_left H).1, (HP.sep_right H).1⟩, ⟨fun h => Ls.some (HP.sep_left H) h, fun h => Ls.some (HP.sep_right H) h⟩, nodesEa (HP.sep_left H), nodesEa (HP.sep_right H)⟩) fun ⟨⟨hl, hm⟩, ⟨ha, hb'⟩, hea, heb⟩ => ?_
  refine tri_of_tree (ρ := [.a a, .n n, .n c, .p (Ls kNode a n es), .a b, .n m, .n d, .p (Ls kNode b m fs)]) mixed Tryz.func20 tree_sameNodes ?_
  unfold t_sameNodes
  simp only [T.den, E.prop, E.den, RX.look, F1.app, F2.app, Uni.int_i, Uni.nat_n, Uni.bool_c, Uni.str_s, Uni.adr_a, Uni.val_v, Uni.hp_p, hden, cden, V.den, W.den, A.den, BR.den, SA.den, FV.den, capV, exs, exP, allP, Cur.app, List.map_cons, List.map_nil, List.cons_append, List.nil_append, List.drop_succ_cons, List.drop_zero, List.length_cons, List.length_nil, Nat.zero_add, Nat.reduceAdd, Int.neg_neg, Bool.not_not, List.append_nil, Nat.add_zero, List.getElem?_cons_zero, List.getElem?_cons_succ, Decidable.not_not, semW_eq, semW_load, semW_store, semW_storeC, semW_append, semW_lookup, semW_lookupC, semW_update, semW_updateC, semW_updateK, semW_delete, semW_range, semW_next, semW_entry, semW_nil, ne_eq, Nat.reduceEqDiff, not_false_eq_true]
  have no : es.map (·.nd) ≠ fs.map (·.nd) → HP.ent (HP.sep (Ls kNode a n es) (Ls kNode b m fs)) (HP.and (Value.bool false = .bool (decide (es.map (·.nd) = fs.map (·.nd)))) (HP.sep (Ls kNode a n es) (Ls kNode b m fs))) := fun h => .of fun R h' H => ⟨by rw [decide_eq_false h], H⟩
  refine ⟨fun h => no fun e => ?_, fun h => ?_⟩
  · have := congrArg List.length e
    simp only [List.length_map] at this
    omega
  have hnm : n = m := by omega
  refine ⟨fun _ i => ∃ k : Nat, i = k ∧ k ≤ n ∧ (es.map (·.nd)).take k = (fs.map (·.nd)).take k, fun _ i => n - i.toNat, ⟨0, rfl, Nat.zero_le _, rfl⟩, ?_⟩
  rintro x0 _ ⟨k, rfl, hk, hpre⟩
  refine ⟨fun hlt => ?_, fun hge => .of fun R h' H => ⟨?_, H⟩⟩
  · obtain ⟨x, hx⟩ := getN (l := es) (k := k) (by omega)
    obtain ⟨y, hy⟩ := getN (l := fs) (k := k) (by omega)
    have hxm := List.mem_of_getElem? hx
    have hym := List.mem_of_getElem? hy
    have hx' : (es.map (·.nd))[k]? = some x.nd := by rw [List.getElem?_map, hx]; rfl
    have hy' : (fs.map (·.nd))[k]? = some y.nd := by rw [List.getElem?_map, hy]; rfl
    have hxb := hb x hxm
    refine ⟨fun _ _ n2 k2 l2 da2 dl2 dc2 ea2 el2 ec2 n1 k1 l1 da1 dl1 dc1 ea1 el1 ec1 => n2 = y.nd.num ∧ k2 = y.nd.kind ∧ l2 = y.nd.links ∧ da2 = y.da ∧ dl2 = y.nd.data.length ∧ dc2 = y.dc ∧ ea2 = y.ea ∧ el2 = y.nd.ents.length ∧ ec2 = y.ec ∧ n1 = x.nd.num ∧ k1 = x.nd.kind ∧ l1 = x.nd.links ∧ da1 = x.da ∧ dl1 = x.nd.data.length ∧ dc1 = x.dc ∧ ea1 = x.ea ∧ el1 = x.nd.ents.length ∧ ec1 = x.ec, ?_, ?_⟩
    · refine ⟨by omega, fun _ => ⟨ha (by omega), fun _ => ⟨x.nd.num, x.nd.kind, x.nd.links, x.da, x.nd.data.length, x.dc, x.ea, x.nd.ents.length, x.ec, loadNode hx, by omega, fun _ => ⟨hb' (by omega), fun _ => ⟨y.nd.num, y.nd.kind, y.nd.links, y.da, y.nd.data.length, y.dc, y.ea, y.nd.ents.length, y.ec, loadNode hy, ?_⟩⟩⟩⟩⟩
      exact ⟨fun _ _ => ⟨rfl, rfl, rfl, rfl, rfl, rfl, rfl, rfl, rfl, rfl, rfl, rfl, rfl, rfl, rfl, rfl, rfl, rfl⟩, fun _ _ => ⟨rfl, rfl, rfl, rfl, rfl, rfl, rfl, rfl, rfl, rfl, rfl, rfl, rfl, rfl, rfl, rfl, rfl, rfl⟩⟩
    rintro _ _ _ _ _ _ _ _ _ _ _ _ _ _ _ _ _ _ _ _ ⟨rfl, rfl, rfl, rfl, rfl, rfl, rfl, rfl, rfl, rfl, rfl, rfl, rfl, rfl, rfl, rfl, rfl, rfl⟩
    have dif : x.nd ≠ y.nd → es.map (·.nd) ≠ fs.map (·.nd) := get_ne hx' hy'
    refine ⟨fun h => no (dif fun e => h (by rw [e])), fun e1 => ⟨fun h => no (dif fun e => h (by rw [e])), fun e2 => ⟨fun h => no (dif fun e => h (by rw [e])), fun e3 => ?_⟩⟩⟩
    refine (same01_ok x.da _ x.dc x.nd.data y.da _ y.dc y.nd.data (Ls kNode a n es) (Ls kNode b m fs) (nodesData hxm) (nodesData hym) rfl rfl hxb.1).weak (fun _ _ h => h) ?_
    rintro v R h ⟨rfl, H⟩
    refine ⟨_, rfl, ⟨fun h => no (dif fun e => h (by rw [e]; simp)), fun e4 => ⟨fun h => no (dif fun e => h (by rw [e])), fun e5 => ?_⟩⟩, H⟩
    have e4' := of_decide_eq_true e4
    clear H
    refine ⟨fun _ i => ∃ j : Nat, i = j ∧ j ≤ x.nd.ents.length ∧ x.nd.ents.take j = y.nd.ents.take j, fun _ i => x.nd.ents.length - i.toNat, ⟨0, rfl, Nat.zero_le _, rfl⟩, ?_⟩
    rintro x1 _ ⟨j, rfl, hj, hpre2⟩
    refine ⟨fun hlt2 => ⟨by omega, fun _ => ⟨hea x hxm (by omega), fun _ => ?_⟩⟩, fun hge2 => ?_⟩
    · obtain ⟨p, hp⟩ := getN (l := x.nd.ents) (k := j) (by omega)
      obtain ⟨q, hq⟩ := getN (l := y.nd.ents) (k := j) (by omega)
      refine ⟨p.1, p.2, loadEnt hxm hp, by omega, fun _ => ⟨heb y hym (by omega), fun _ => ⟨q.1, q.2, loadEnt hym hq, _, neqEnt (by decide), fun h => no (dif fun e => ?_), fun h => ⟨inI64' _ (by omega) (by omega), fun _ => ⟨⟨j + 1, by omega, by omega, take_eq hp hq hpre2 ?_⟩, by dsimp only; omega⟩⟩⟩⟩⟩
      · have : p = q := by rw [e] at hp; rw [hp] at hq; exact Option.some.inj hq
        subst this
        simp at h
      · simp at h
        exact Prod.ext h.1 (by have := h.2; omega)
    · have e6 : x.nd.ents = y.nd.ents := by
        rw [List.take_of_length_le (by omega), List.take_of_length_le (by omega)] at hpre2
        exact hpre2
      have e7 : x.nd = y.nd := by
        obtain ⟨⟨a1, a2, a3, a4, a5⟩, _, _, _, _⟩ := x
        obtain ⟨⟨b1, b2, b3, b4, b5⟩, _, _, _, _⟩ := y
        simp only at e1 e2 e3 e4' e6 ⊢
        have : a1 = b1 := by omega
        subst this e2 e3 e4' e6
        rfl
      exact ⟨inI64' _ (by omega) (by omega), fun _ => ⟨⟨k + 1, by omega, by omega, take_eq hx' hy' hpre e7⟩, by dsimp only; omega⟩⟩
  · have hke : k = n := by omega
    subst hke
    rw [List.take_of_length_le (by simp; omega), List.take_of_length_le (by simp; omega)] at hpre
    rw [decide_eq_true hpre]
end Go.Proofs.YtdieogcemmnaaaaGreatDoor


/- No two trees have the same bytes. No condition. -/
namespace Go.Proofs.YtdieogcemmnaaaaGreatDoor
open Go.Proofs.YtdieogcemmnaaaaGreatDoor RX
set_option maxRecDepth 100000

/-- An entry as trees have them. -/
def EOk (x : Nm × Nat) : Prop := x.1.length < 256 ∧ x.2 < 256
def NOk (n : Nd) : Prop := n.num < 256 ∧ 0 ≤ n.kind ∧ n.kind < 256 ∧ n.data.length < 4294967296 ∧ n.ents.length < 4294967296 ∧ ∀ e ∈ n.ents, EOk e
end Go.Proofs.YtdieogcemmnaaaaGreatDoor


/- No two trees have the same bytes: the whole of it. No condition. -/
namespace Go.Proofs.YtdieogcemmnaaaaGreatDoor
open Go.Proofs.YtdieogcemmnaaaaGreatDoor RX
set_option maxRecDepth 100000

theorem NOk.of {B : Nat} {T1 : List Nd} (hB : B ≤ 100000) (wf : TWf B T1) {n : Nd} (hn : n ∈ T1) : NOk n := by
  have g := wf.good n hn
  have := g.num
  have := g.data
  have := g.efew
  refine ⟨by omega, ?_, ?_, by omega, by omega, fun e he => ⟨?_, by have := tgt_lt wf hn he; omega⟩⟩
  · rcases g.kind with ⟨h, _⟩ | ⟨h, _⟩ <;> omega
  · rcases g.kind with ⟨h, _⟩ | ⟨h, _⟩ <;> omega
  · have := (g.name e he).1
    unfold nameOk at this
    simp at this
    omega
theorem snapS_small {B : Nat} (hB : B ≤ 121) {T1 : List Nd} (wf : TWf B T1) (u : Int) : (snapS u T1).length ≤ 900000 := by
  have h64 := few_nodes wf
  have hfl : (T1.flatMap nodeB).length ≤ 64 * (600 + B * 100) := Nat.le_trans (flat_len_le nodeB _ T1 fun x hx => nodeB_le (wf.good x hx)) (Nat.mul_le_mul_right _ h64)
  unfold snapS
  rw [wrapS_len]
  unfold nodesB
  simp only [List.length_append, beN_len]
  omega
end Go.Proofs.YtdieogcemmnaaaaGreatDoor


/- A byte stored into a row of one's own; how great nodes are. No condition. -/
namespace Go.Proofs.YtdieogcemmnaaaaGreatDoor
open Go.Proofs.YtdieogcemmnaaaaGreatDoor RX
set_option maxRecDepth 100000

theorem stoByte {a : Option Addr} {n c : Nat} {l : List UInt8} {k : Nat} (x : UInt8) (hk : k < n) {P : HP} (hP : HP.ent P (OwB a n c l)) {B : Value → HP} (post : ∀ R h, (OwB a n c (l.set k x)).p R h → (B (.tuple #[])).p R h) :
    OTri Tryz.prog (storeS 5 (.pointer (a.map fun y => (y.add (k * 1)).add 0)) (.int .u8 x.toNat)) P B := by
  obtain ⟨i, hi, h1, h2, h3⟩ := info_parts info8
  have := store_ok (t := 5) hi 5 1 a n c (l.map u8v) (k * 1) 0 (u8v x) [u8v x] rfl (by rw [h2]; rfl) (by simp) (by simp [u8v, Value.oneCell']) (by simp; omega)
  refine (OTri.fact (φ := l.length = n) (fun R h H => by have := H.1; simpa using this) fun hl => ?_ : OTri _ _ (OwB a n c l) B).conseq (K := HP.tt) (hP.trans (.of fun R h H => HP.sep_tt H)) fun v => .of fun R h H => HP.sep_left H
  refine this.weak (fun _ _ h => h) ?_
  rintro v R h ⟨rfl, H⟩
  refine post R h ?_
  have e : (l.map u8v).take (k * 1 + 0) ++ [u8v x] ++ (l.map u8v).drop (k * 1 + 0 + [u8v x].length) = (l.set k x).map u8v := by
    rw [List.map_set, List.set_eq_take_append_cons_drop, if_pos (by simp; omega)]
    simp
  rw [e] at H
  exact H
theorem esBN {B : Nat} (hB : B ≤ 100000) {T : List Nd} (wf : TWf B T) {es : List NodeE} (he : es.map (·.nd) = T) : ∀ x ∈ es, x.nd.data.length ≤ 140737488355328 ∧ x.nd.ents.length ≤ 140737488355328 := fun x hx => by
  have hm : x.nd ∈ T := by rw [← he]; exact List.mem_map.2 ⟨x, hx, rfl⟩
  have := wf.good _ hm
  have := this.data
  have := (wf.good _ hm).efew
  omega
end Go.Proofs.YtdieogcemmnaaaaGreatDoor

