/- Texts of this claim, joined: Snp, Snq, TrEnt, Ent, Wl, TrLaw04, In04, Lw4A, Arr, Ld, Lo, Lw4R, Reach, WhA, TrSnapW, WhB. No condition. -/
import Derived.Test.YtdieogcemmnaaaaGreatDoorRFJ1
import Derived.Test.YtdieogcemmnaaaaGreatDoorRFJ2
import Derived.Test.YtdieogcemmnaaaaGreatDoorRFJ4
import Derived.KernelRfl
import Derived.Laws.StructEq
import Derived.Sort.Walk0
set_option linter.unusedSimpArgs false
set_option linter.unusedVariables false
/- What takes a tree's nodes: octet's turns and List, snap.takeNode. No condition. -/
namespace Go.Proofs.YtdieogcemmnaaaaGreatDoor
set_option linter.unusedSimpArgs false
set_option linter.unusedVariables false
open Go.Proofs.YtdieogcemmnaaaaGreatDoor RX
set_option maxRecDepth 100000

abbrev RS := List UInt8 × Bool
theorem undBo : Tryz.prog.underlying 4 = some .bool := by kernel_rfl
theorem aggBo : aggT Tryz.prog 4 = false := by kernel_rfl
theorem szBo : szT Tryz.prog 4 = 1 := by kernel_rfl
theorem rrep_rd (b : Nat) (s : RS) : ORead Tryz.prog (loadS 4 (.pointer (some ⟨b, 1, none⟩))) (RRep b s) (.bool s.2) := fun w R h F st ⟨a, c, _, H⟩ => by
  have := load1_ok undBo aggBo szBo (Rd.left (B := RoB a s.1.length s.1) (one_rd b #[.slice a s.1.length c, .bool s.2] 247)) (k := 1) (off := 0) (v := .bool s.2) rfl
  simp only [Option.map_some, addr_add] at this
  exact this w R h F st H
def TBox (nb rb b : Nat) (N : Int) : HP := HP.sep (HP.one nb (.cells #[.int .i64 N] 3 (0, 0))) (HP.one rb (.cells #[.pointer (some ⟨b, 0, none⟩)] 158 (0, 0)))
def mayT (N : Nat) (g : Nat × RS) (args : Array Value) (g' : Nat × RS) : Prop := args = #[.int .i64 (g.1 : Int)] ∧ g.1 < N ∧ g.2.2 = false ∧ g'.1 = g.1 + 1
def finT (N : Nat) (g : Nat × RS) : Prop := g.1 ≤ N ∧ (g.1 = N ∨ g.2.2 = true)
theorem fgoT : Fgo Tryz.prog 204 := ⟨_, Tryz.func204, by kernel_rfl, by kernel_rfl⟩
theorem turns_ok (b : Nat) (N : Int) (D : HP) : Tri Tryz.prog 155 #[.pointer (some ⟨b, 0, none⟩), .int .i64 N] D
    (fun v => HP.ex fun nb => HP.ex fun rb => HP.and (v = .func (.func 204) #[] #[.pointer (some ⟨nb, 0, none⟩), .pointer (some ⟨rb, 0, none⟩)]) (HP.sep (TBox nb rb b N) D)) := by
  refine tri_of_tree (ρ := [.n b, .p D, .i N]) mixed Tryz.func155 tree_turns ?_
  unfold t_turns
  simp only [T.den, E.prop, E.den, RX.look, F1.app, F2.app, Uni.int_i, Uni.nat_n, Uni.bool_c, Uni.str_s, Uni.adr_a, Uni.val_v, Uni.hp_p, hden, cden, V.den, W.den, A.den, BR.den, SA.den, FV.den, capV, exs, exP, allP, Cur.app, List.map_cons, List.map_nil, List.cons_append, List.nil_append, List.drop_succ_cons, List.drop_zero, List.length_cons, List.length_nil, Nat.zero_add, Nat.reduceAdd, Int.neg_neg, Bool.not_not, List.append_nil, Nat.add_zero, List.getElem?_cons_zero, List.getElem?_cons_succ, Decidable.not_not, semW_eq, semW_load, semW_store, semW_storeC, semW_append, semW_lookup, semW_lookupC, semW_update, semW_updateC, semW_updateK, semW_delete, semW_range, semW_next, semW_entry, semW_nil, ne_eq, Nat.reduceEqDiff, not_false_eq_true]
  exact fun x y => .of fun R h H => ⟨y, x, rfl, HP.sep_comm H⟩
theorem turns_seq (nb rb b : Nat) (N : Nat) (hN : N ≤ 4294967296) (s : RS) : SeqTri Tryz.prog (.func (.func 204) #[] #[.pointer (some ⟨nb, 0, none⟩), .pointer (some ⟨rb, 0, none⟩)]) (TBox nb rb b N)
    (fun g : Nat × RS => RRep b g.2) (fun _ _ => HP.tt) (mayT N) (finT N) (0, s) := by
  refine ⟨_, _, rfl, fgoT, fun l K Jx hr => ?_⟩
  refine (tri_of_tree (ρ := [.v (.func (.yield l) #[] #[]), .p (K (0, s)), .n nb, .i N, .n rb, .n b, .p (RRep b s)]) mixed Tryz.func204 tree_turns1 ?_).weak (fun R h H => ?_) fun _ _ _ h => h
  rotate_left
  · exact HP.sep_mono (HP.sep_comm (HP.sep_assoc' H)) (fun _ h => h) fun _ h => HP.sep_assoc h
  unfold t_turns1
  simp only [T.den, E.prop, E.den, RX.look, F1.app, F2.app, Uni.int_i, Uni.nat_n, Uni.bool_c, Uni.str_s, Uni.adr_a, Uni.val_v, Uni.hp_p, hden, cden, V.den, W.den, A.den, BR.den, SA.den, FV.den, capV, exs, exP, allP, Cur.app, List.map_cons, List.map_nil, List.cons_append, List.nil_append, List.drop_succ_cons, List.drop_zero, List.length_cons, List.length_nil, Nat.zero_add, Nat.reduceAdd, Int.neg_neg, Bool.not_not, List.append_nil, Nat.add_zero, List.getElem?_cons_zero, List.getElem?_cons_succ, Decidable.not_not, semW_eq, semW_load, semW_store, semW_storeC, semW_append, semW_lookup, semW_lookupC, semW_update, semW_updateC, semW_updateK, semW_delete, semW_range, semW_next, semW_entry, semW_nil, ne_eq, Nat.reduceEqDiff, not_false_eq_true]
  have fin : ∀ J J2 : HP, HP.ent (HP.sep J J2) (SeqPost (fun g : Nat × RS => RRep b g.2) K Jx (finT N)) → HP.ent (HP.sep J (HP.sep (HP.one nb (.cells #[.int .i64 N] 3 (0, 0))) (HP.sep (HP.one rb (.cells #[.pointer (some ⟨b, 0, none⟩)] 158 (0, 0))) J2)))
      (HP.sep (TBox nb rb b N) (SeqPost (fun g : Nat × RS => RRep b g.2) K Jx (finT N))) := fun J J2 hJ =>
    (HP.ent.of fun R h H => HP.swap (HP.sep_mono H (fun _ h => h) fun _ h => HP.sep_assoc' h)).trans (HP.ent.sep2 (HP.ent.refl _) hJ)
  refine ⟨fun k p q => ∃ g : Nat × RS, k = g.1 ∧ g.1 ≤ N ∧ p = K g ∧ q = RRep b g.2, fun k _ _ => N - k.toNat, ⟨(0, s), rfl, Nat.zero_le _, rfl, rfl⟩, ?_⟩
  rintro k p q ⟨g, rfl, hg, rfl, rfl⟩
  have done : finT N g → HP.ent (HP.sep (K g) (RRep b g.2)) (SeqPost (fun g : Nat × RS => RRep b g.2) K Jx (finT N)) := fun hf => .of fun R h H => ⟨some g, hf, HP.sep_comm H⟩
  refine ⟨fun hlt => ⟨g.2.2, rrep_rd b g.2, fun hw => ?_, fun hw => ?_⟩, fun hge => ?_⟩
  · exact fin _ _ (done ⟨hg, .inr hw⟩)
  · have hw' : g.2.2 = false := by simpa using hw
    refine (hr g #[.int .i64 (g.1 : Int)] ⟨(g.1 + 1, g.2), rfl, by omega, hw', rfl⟩).conseq (K := HP.tt) (.of fun R h H => HP.sep_tt (HP.tt_sep (HP.sep_comm H))) fun v => .of fun R h H => ?_
    obtain ⟨b', rfl, hb⟩ := HP.sep_left H
    cases b' with
    | true =>
      obtain ⟨g', hm, H2⟩ := hb
      refine ⟨true, K g', RRep b g'.2, rfl, ⟨fun h => absurd rfl h, fun _ => ⟨inI64 _ (by omega) (by omega), fun _ => ⟨⟨g', ?_, ?_, rfl, rfl⟩, ?_⟩⟩⟩, HP.sep_comm H2⟩
      · rw [hm.2.2.2]; omega
      · rw [hm.2.2.2]; omega
      · dsimp only; omega
    | false =>
      refine ⟨false, Jx, HP.tt, rfl, ⟨fun _ => fin _ _ (.of fun R h H => ⟨none, HP.sep_left H⟩), fun h => (by cases h)⟩, HP.sep_tt hb⟩
  · exact fin _ _ (done ⟨hg, .inl (by omega)⟩)
/-! The plain form of what is taken. -/
def loopR {α : Type} (f : RS → α × RS) : Nat → RS → List α × RS
  | 0, s => ([], s)
  | n + 1, s => if s.2 then ([], s) else ((f s).1 :: (loopR f n (f s).2).1, (loopR f n (f s).2).2)
def listR {α : Type} (f : RS → α × RS) (most : Int) (s : RS) : List α × RS :=
  if (loopR f (toldR s most).1 (toldR s most).2).2.2 then ([], (loopR f (toldR s most).1 (toldR s most).2).2) else loopR f (toldR s most).1 (toldR s most).2
def entR (s : RS) : (Nm × Nat) × RS := (((bytesR s 16).1, (numR (bytesR s 16).2 1).1 % 256), (numR (bytesR s 16).2 1).2)
theorem convW6 {i : Nat} {S : HP} {a : Option Addr} {n c : Nat} {l : List UInt8} (hr : RdL S a n (l.map u8v)) (hl : l.length = n) : ORead Tryz.prog (semW (.convert 28 9 (.tmp i)) 9 [(i, .slice a n c)]) S (sE l) := by
  have := conv_ok (ρ := [.v (.slice a n c)]) (i := i) (x := .w (.a (.val 0))) (S := S) (a := a) (n := n) (c := c) (l := l) rfl hr hl
  rw [semW_eq] at this
  exact this
theorem takeEntry_ok (b : Nat) (s : RS) : Tri Tryz.prog 159 #[.pointer (some ⟨b, 0, none⟩)] (RRep b s)
    (fun v => HP.and (v = .agg #[sE (entR s).1.1, .int .i64 (entR s).1.2]) (RRep b (entR s).2)) := by
  refine tri_of_tree (ρ := [.n b, .p (RRep b s)]) mixed Tryz.func159 tree_takeEntry ?_
  unfold t_takeEntry
  simp only [T.den, E.prop, E.den, RX.look, F1.app, F2.app, Uni.int_i, Uni.nat_n, Uni.bool_c, Uni.str_s, Uni.adr_a, Uni.val_v, Uni.hp_p, hden, cden, V.den, W.den, A.den, BR.den, SA.den, FV.den, capV, exs, exP, allP, Cur.app, List.map_cons, List.map_nil, List.cons_append, List.nil_append, List.drop_succ_cons, List.drop_zero, List.length_cons, List.length_nil, Nat.zero_add, Nat.reduceAdd, Int.neg_neg, Bool.not_not, List.append_nil, Nat.add_zero, List.getElem?_cons_zero, List.getElem?_cons_succ, Decidable.not_not, semW_eq, semW_load, semW_store, semW_storeC, semW_append, semW_lookup, semW_lookupC, semW_update, semW_updateC, semW_updateK, semW_delete, semW_range, semW_next, semW_entry, semW_nil, ne_eq, Nat.reduceEqDiff, not_false_eq_true]
  intro x
  refine (rBytes_ok b s 16).weak (fun _ _ h => h) ?_
  rintro v R h ⟨a, c, rfl, H⟩
  refine ⟨a, _, c, OwB a _ c (bytesR s 16).1, RRep b (bytesR s 16).2, rfl, ?_, HP.sep_comm H⟩
  refine ⟨(bytesR s 16).1, convW6 (RdL.ow _ _ _ _ _ _) rfl, ?_⟩
  refine (rByte_ok b (bytesR s 16).2).weak (fun _ _ h => h) ?_
  rintro v R h ⟨rfl, H⟩
  exact ⟨_, _, rfl, ⟨inI64 _ (by omega) (by omega), fun _ => .of fun R h H => ⟨rfl, H⟩⟩, H⟩
abbrev OwE (a : Option Addr) (n c : Nat) (l : List (Nm × Nat)) : HP := OwC 140 2 a n c (l.flatMap entV)
theorem PL.nil {α : Type} (K : PK α) (R h : PH) : (PL K none 0 0 []).p R h := ⟨rfl, HP.sep_tt (OwC.nil _ _ R h)⟩
theorem appE (a : Option Addr) (n c : Nat) (l : List (Nm × Nat)) (e : Nat) (x : Nm × Nat) (hn : n ≤ 1000000000) :
    OTri Tryz.prog (appS 41 41 (.slice a n c) (.slice (some ⟨e, 0, none⟩) 1 1)) (HP.sep (OwE a n c l) (HP.one e (.cells #[sE x.1, .int .i64 x.2] 140 (0, 0))))
      (fun v => HP.ex fun a' => HP.ex fun c' => HP.and (v = .slice a' (n + 1) c') (HP.sep (OwE a' (n + 1) c' (l ++ [x])) (HP.one e (.cells #[sE x.1, .int .i64 x.2] 140 (0, 0))))) := by
  obtain ⟨i, z, hi, h1, h2, h3, h4⟩ := info_pz infoEnt
  have := append_ok 41 41 140 i z undEs hi h1 (by rw [h2, h3]) (by omega) a n c (l.flatMap entV) (HP.one e (.cells #[sE x.1, .int .i64 x.2] 140 (0, 0))) ⟨e, 0, none⟩ 1 1 (entV x) (one_rd e #[sE x.1, .int .i64 x.2] _) (by rw [h3]; rfl) (kEntP.one x) (by unfold maxLen; omega) (by rw [h4]; omega)
  rw [h3] at this
  simp only [OwE, List.flatMap_append, List.flatMap_cons, List.flatMap_nil, List.append_nil]
  exact this
theorem toldR_lt (s : RS) (most : Int) : (toldR s most).1 ≤ 4294967295 := by
  have := numR_lt s 4
  unfold toldR
  split
  · exact Nat.zero_le _
  · split
    · exact Nat.zero_le _
    · show (numR s 4).1 ≤ _; omega
theorem takeR_false {s : RS} {n : Nat} (h : (takeR s n).2.2 = false) : s.2 = false ∧ (takeR s n).2.1.length + n = s.1.length := by
  unfold takeR at h ⊢
  split at h
  · rename_i e; rw [e] at h; cases h
  · rename_i e
    split at h
    · cases h
    · rw [if_neg e, if_neg (by assumption)]
      exact ⟨by simpa using e, by simp; omega⟩
theorem numR_false {s : RS} {n : Nat} (h : (numR s n).2.2 = false) : s.2 = false ∧ (numR s n).2.1.length + n = s.1.length := takeR_false h
theorem toldR_false {s : RS} {m : Int} (h : (toldR s m).2.2 = false) : s.2 = false ∧ (toldR s m).2.1.length + 4 = s.1.length := by
  unfold toldR at h ⊢
  split at h
  · rename_i e; rw [e] at h; cases h
  · rename_i e
    split at h
    · cases h
    · rw [if_neg e, if_neg (by assumption)]; exact numR_false h
theorem bytesR_false {s : RS} {m : Int} (h : (bytesR s m).2.2 = false) : s.2 = false ∧ (bytesR s m).2.1.length + 4 ≤ s.1.length := by
  have h1 := takeR_false h
  have h2 := toldR_false h1.1
  refine ⟨h2.1, ?_⟩
  have := h1.2
  unfold bytesR
  omega
theorem takeR_le (s : RS) (n : Nat) : (takeR s n).2.1.length ≤ s.1.length := by
  unfold takeR; split
  · exact Nat.le_refl _
  · split <;> simp
theorem toldR_len (s : RS) (m : Int) : (toldR s m).2.1.length ≤ s.1.length := by
  have := takeR_le s 4
  unfold toldR
  split
  · exact this
  · split
    · simp
    · exact this
def Shrinks {α : Type} (f : RS → α × RS) : Prop := ∀ s, (f s).2.2 = false → (f s).2.1.length + 1 ≤ s.1.length
theorem entR_shrinks : Shrinks entR := fun s h => by
  have h1 := numR_false h
  have h2 := bytesR_false h1.1
  have := h1.2
  show (numR (bytesR s 16).2 1).2.1.length + 1 ≤ _
  omega
theorem loopR_step {α : Type} (f : RS → α × RS) {n i : Nat} {s : RS} (hi : i < n) (hs : s.2 = false) : loopR f (n - i) s = ((f s).1 :: (loopR f (n - (i + 1)) (f s).2).1, (loopR f (n - (i + 1)) (f s).2).2) := by
  rw [show n - i = (n - (i + 1)) + 1 by omega]
  conv => lhs; unfold loopR
  rw [if_neg (by simp [hs])]
theorem loopR_end {α : Type} (f : RS → α × RS) {n : Nat} {s : RS} (h : n = 0 ∨ s.2 = true) : loopR f n s = ([], s) := by
  cases n with
  | zero => rfl
  | succ n => unfold loopR; rw [if_pos (h.resolve_left (by omega))]
/-- How far a list is read. -/
def Sofar {α : Type} (f : RS → α × RS) (n : Nat) (s1 : RS) (g : Nat × RS) (ll : List α) : Prop :=
  g.1 ≤ n ∧ (g.2.2 = false → ll.length + g.2.1.length ≤ s1.1.length) ∧ loopR f n s1 = (ll ++ (loopR f (n - g.1) g.2).1, (loopR f (n - g.1) g.2).2)
theorem Sofar.init {α : Type} (f : RS → α × RS) (n : Nat) (s1 : RS) : Sofar f n s1 (0, s1) [] := ⟨Nat.zero_le _, fun _ => by simp, by simp⟩
theorem Sofar.next {α : Type} {f : RS → α × RS} (hf : Shrinks f) {n : Nat} {s1 : RS} {g : Nat × RS} {ll : List α} (h : Sofar f n s1 g ll) (hi : g.1 < n) (hs : g.2.2 = false) : Sofar f n s1 (g.1 + 1, (f g.2).2) (ll ++ [(f g.2).1]) := by
  refine ⟨hi, fun hw => ?_, ?_⟩
  · have h1 := hf g.2 hw
    have h2 := h.2.1 hs
    simp only [List.length_append, List.length_singleton]
    omega
  · rw [h.2.2, loopR_step f hi hs]; simp
theorem Sofar.fin {α : Type} {f : RS → α × RS} {n : Nat} {s1 : RS} {g : Nat × RS} {ll : List α} (h : Sofar f n s1 g ll) (hf : finT n g) : loopR f n s1 = (ll, g.2) := by
  rw [h.2.2, loopR_end f (hf.2.imp (fun e => by omega) id)]; simp
theorem listEntries_ok (b : Nat) (s : RS) (most : Int) (hL : s.1.length ≤ 1000000000) : Tri Tryz.prog 158 #[.pointer (some ⟨b, 0, none⟩), .int .i64 most, .func (.func 159) #[] #[]] (RRep b s)
    (fun v => HP.ex fun a => HP.ex fun c => HP.and (v = .slice a (listR entR most s).1.length c) (HP.sep (OwE a (listR entR most s).1.length c (listR entR most s).1) (RRep b (listR entR most s).2))) := by
  refine tri_of_tree (ρ := [.n b, .p (RRep b s), .i most, .v (.func (.func 159) #[] #[]), .p HP.tt]) mixed Tryz.func158 tree_listEntries ?_
  unfold t_listEntries
  simp only [T.den, E.prop, E.den, RX.look, F1.app, F2.app, Uni.int_i, Uni.nat_n, Uni.bool_c, Uni.str_s, Uni.adr_a, Uni.val_v, Uni.hp_p, hden, cden, V.den, W.den, A.den, BR.den, SA.den, FV.den, capV, exs, exP, allP, Cur.app, List.map_cons, List.map_nil, List.cons_append, List.nil_append, List.drop_succ_cons, List.drop_zero, List.length_cons, List.length_nil, Nat.zero_add, Nat.reduceAdd, Int.neg_neg, Bool.not_not, List.append_nil, Nat.add_zero, List.getElem?_cons_zero, List.getElem?_cons_succ, Decidable.not_not, semW_eq, semW_load, semW_store, semW_storeC, semW_append, semW_lookup, semW_lookupC, semW_update, semW_updateC, semW_updateK, semW_delete, semW_range, semW_next, semW_entry, semW_nil, ne_eq, Nat.reduceEqDiff, not_false_eq_true]
  intro x y
  refine (rTold_ok b s most).weak (fun _ _ h => h) ?_
  rintro v R h ⟨rfl, H⟩
  refine ⟨_, _, rfl, fun z => ?_, H⟩
  refine (turns_ok b _ (RRep b (toldR s most).2)).weak (fun _ _ h => h) ?_
  rintro v R h ⟨nb, rb, rfl, H⟩
  refine ⟨.func (.func 204) #[] #[.pointer (some ⟨nb, 0, none⟩), .pointer (some ⟨rb, 0, none⟩)], TBox nb rb b _, rfl, fun u => ?_, H⟩
  have hn := toldR_lt s most
  have hL1 : (toldR s most).2.1.length ≤ 1000000000 := Nat.le_trans (toldR_len s most) hL
  have hlist : listR entR most s = if (loopR entR (toldR s most).1 (toldR s most).2).2.2 then ([], (loopR entR (toldR s most).1 (toldR s most).2).2) else loopR entR (toldR s most).1 (toldR s most).2 := rfl
  generalize hN : (toldR s most).1 = N at *
  generalize hS1 : (toldR s most).2 = s1 at *
  refine ⟨Nat × RS, fun g => RRep b g.2, fun _ _ => HP.tt, mayT N, finT N, (0, s1), fun g p a n c q => p = RRep b g.2 ∧ ∃ ll, n = ll.length ∧ HP.ent q (OwE a n c ll) ∧ Sofar entR N s1 g ll, turns_seq nb rb b N (by omega) s1, ?_, ?_, ?_, ?_⟩
  · exact ⟨rfl, [], rfl, .of fun R h _ => OwC.nil _ _ R h, Sofar.init _ _ _⟩
  · rintro g p a n c q ⟨rfl, _⟩; rfl
  · rintro g args ⟨g', rfl, hi, hw, _⟩ p a n c q ⟨rfl, ll, rfl, hq, hs⟩
    refine ⟨(g.1 : Int), rfl, .of fun _ _ _ => trivial, ?_⟩
    refine (takeEntry_ok b g.2).weak (fun _ _ h => h) ?_
    rintro v R h ⟨rfl, H⟩
    refine ⟨_, _, _, rfl, fun e => ?_, H⟩
    have hll : ll.length ≤ 1000000000 := by have := hs.2.1 hw; omega
    refine (appE a ll.length c ll e (entR g.2).1 hll).conseq ((hq.sep _).trans (.of fun _ _ => HP.sep_tt)) fun v => .of fun R h H => ?_
    obtain ⟨a', c', rfl, H'⟩ := HP.sep_left H
    exact ⟨a', _, c', _, rfl, ⟨(g.1 + 1, (entR g.2).2), ⟨rfl, hi, hw, rfl⟩, rfl, ll ++ [(entR g.2).1], by simp, HP.ent.refl _, hs.next entR_shrinks hi hw⟩, H'⟩
  · rintro g hf p a n c q ⟨rfl, ll, rfl, hq, hs⟩
    have hfin := hs.fin hf
    rw [hfin] at hlist
    refine ⟨g.2.2, rrep_rd b g.2, fun hw => .of fun R h H => ?_, fun hw => ((HP.ent.refl _).sep2 hq).trans (.of fun R h H => ?_)⟩
    · rw [hlist, if_pos hw]
      exact ⟨none, 0, rfl, HP.sep_comm (HP.sep_mono (HP.sep_tt H) (fun _ h => h) fun y _ => OwC.nil _ _ R y)⟩
    · rw [hlist, if_neg hw]
      exact ⟨a, c, rfl, HP.sep_comm H⟩
end Go.Proofs.YtdieogcemmnaaaaGreatDoor


/- What takes a tree's nodes: snap.takeNode, List of nodes. No condition. -/
namespace Go.Proofs.YtdieogcemmnaaaaGreatDoor
set_option linter.unusedSimpArgs false
set_option linter.unusedVariables false
open Go.Proofs.YtdieogcemmnaaaaGreatDoor RX
set_option maxRecDepth 100000

def nodeR (s : RS) : Nd × RS :=
  (⟨(numR s 1).1 % 256, (((numR (numR s 1).2 1).1 % 256 : Nat) : Int), intOf64 (numR (numR (numR s 1).2 1).2 2).1, (bytesR (numR (numR (numR s 1).2 1).2 2).2 512).1, (listR entR 9223372036854775807 (bytesR (numR (numR (numR s 1).2 1).2 2).2 512).2).1⟩,
   (listR entR 9223372036854775807 (bytesR (numR (numR (numR s 1).2 1).2 2).2 512).2).2)
theorem numR_le (s : RS) (n : Nat) : (numR s n).2.1.length ≤ s.1.length := takeR_le s n
theorem bytesR_le (s : RS) (m : Int) : (bytesR s m).2.1.length ≤ s.1.length := Nat.le_trans (takeR_le _ _) (toldR_len s m)
theorem shareE (a : Option Addr) (n c : Nat) (l : List (Nm × Nat)) (hl : l.length = n) : HP.ent (OwE a n c l) (Ls kEnt a n l) := fun R h d H => by
  obtain ⟨R1, h1, q1, q2, q3, q4, H1⟩ := OwC.share _ _ _ _ _ _ R h d H
  exact ⟨R1, h1, q1, q2, q3, q4, hl, H1, fun _ _ => trivial⟩
theorem takeNode_ok (b : Nat) (s : RS) (hL : s.1.length ≤ 1000000000) : Tri Tryz.prog 88 #[.pointer (some ⟨b, 0, none⟩)] (RRep b s)
    (fun v => HP.ex fun x : NodeE => HP.and (v = .agg (nodeVs x).toArray ∧ x.nd = (nodeR s).1) (HP.sep (RoB x.da x.nd.data.length x.nd.data) (HP.sep (Ls kEnt x.ea x.nd.ents.length x.nd.ents) (RRep b (nodeR s).2)))) := by
  refine tri_of_tree (ρ := [.n b, .p (RRep b s)]) mixed Tryz.func88 tree_takeNode ?_
  unfold t_takeNode
  simp only [T.den, E.prop, E.den, RX.look, F1.app, F2.app, Uni.int_i, Uni.nat_n, Uni.bool_c, Uni.str_s, Uni.adr_a, Uni.val_v, Uni.hp_p, hden, cden, V.den, W.den, A.den, BR.den, SA.den, FV.den, capV, exs, exP, allP, Cur.app, List.map_cons, List.map_nil, List.cons_append, List.nil_append, List.drop_succ_cons, List.drop_zero, List.length_cons, List.length_nil, Nat.zero_add, Nat.reduceAdd, Int.neg_neg, Bool.not_not, List.append_nil, Nat.add_zero, List.getElem?_cons_zero, List.getElem?_cons_succ, Decidable.not_not, semW_eq, semW_load, semW_store, semW_storeC, semW_append, semW_lookup, semW_lookupC, semW_update, semW_updateC, semW_updateK, semW_delete, semW_range, semW_next, semW_entry, semW_nil, ne_eq, Nat.reduceEqDiff, not_false_eq_true]
  intro x y
  refine (rByte_ok b s).weak (fun _ _ h => h) ?_
  rintro v R h ⟨rfl, H⟩
  refine ⟨_, _, rfl, ⟨inI64 _ (by omega) (by omega), fun _ => ?_⟩, H⟩
  refine (rByte_ok b _).weak (fun _ _ h => h) ?_
  rintro v R h ⟨rfl, H⟩
  refine ⟨_, _, rfl, ⟨inI64 _ (by omega) (by omega), fun _ => ?_⟩, H⟩
  refine (rNumber_ok b _ 2 (by omega)).weak (fun _ _ h => h) ?_
  rintro v R h ⟨rfl, H⟩
  refine ⟨_, _, rfl, ?_, H⟩
  refine (rBytes_ok b _ 512).weak (fun _ _ h => h) ?_
  rintro v R h ⟨da, dc, rfl, H⟩
  refine ⟨da, _, dc, _, _, rfl, ?_, HP.sep_comm H⟩
  refine (listEntries_ok b _ 9223372036854775807 ?_).weak (fun _ _ h => h) ?_
  · exact Nat.le_trans (bytesR_le _ _) (Nat.le_trans (numR_le _ _) (Nat.le_trans (numR_le _ _) (Nat.le_trans (numR_le _ _) hL)))
  rintro v R h ⟨ea, ec, rfl, H⟩
  refine ⟨ea, _, ec, _, _, rfl, ?_, H⟩
  refine (HP.ent.sep2 (HP.ent.refl _) (HP.ent.sep2 (OwC.share _ _ _ _ _ _) (shareE _ _ _ _ rfl))).trans (.of fun R h H => ?_)
  exact ⟨⟨(nodeR s).1, da, dc, ea, ec⟩, ⟨rfl, rfl⟩, HP.sep_assoc (HP.sep_comm H)⟩
def OwN (a : Option Addr) (n c : Nat) (es : List NodeE) : HP := ⟨fun R h => (OwC 43 5 a n c (es.flatMap nodeVs)).p R h ∧ ∀ x ∈ es, (nodeHp x).p R h,
  fun lR lh ⟨h1, h2⟩ => ⟨(OwC 43 5 a n c (es.flatMap nodeVs)).mono lR lh h1, fun x hx => (nodeHp x).mono lR lh (h2 x hx)⟩⟩
def AllN (es : List NodeE) : HP := ⟨fun R h => ∀ x ∈ es, (nodeHp x).p R h, fun lR lh h2 x hx => (nodeHp x).mono lR lh (h2 x hx)⟩
theorem appN (a : Option Addr) (n c : Nat) (es : List NodeE) (e : Nat) (x : NodeE) (hn : n ≤ 1000000000) :
    OTri Tryz.prog (appS 36 36 (.slice a n c) (.slice (some ⟨e, 0, none⟩) 1 1)) (HP.sep (OwN a n c es) (HP.sep (HP.one e (.cells (nodeVs x).toArray 43 (0, 0))) (HP.sep (RoB x.da x.nd.data.length x.nd.data) (Ls kEnt x.ea x.nd.ents.length x.nd.ents))))
      (fun v => HP.ex fun a' => HP.ex fun c' => HP.and (v = .slice a' (n + 1) c') (HP.sep (OwN a' (n + 1) c' (es ++ [x])) (HP.sep (HP.one e (.cells (nodeVs x).toArray 43 (0, 0))) (HP.sep (RoB x.da x.nd.data.length x.nd.data) (Ls kEnt x.ea x.nd.ents.length x.nd.ents))))) := by
  obtain ⟨i, z, hi, h1, h2, h3, h4⟩ := info_pz infoNd
  have := append_ok 36 36 43 i z undNs hi h1 (by rw [h2, h3]) (by omega) a n c (es.flatMap nodeVs) (HP.one e (.cells (nodeVs x).toArray 43 (0, 0))) ⟨e, 0, none⟩ 1 1 (nodeVs x) (one_rd e (nodeVs x).toArray _) (by rw [h3]; rfl) (kNodeP.one x) (by unfold maxLen; omega) (by rw [h4]; omega)
  rw [h3] at this
  refine this.conseq (K := AllN (es ++ [x])) (.of fun R h H => ?_) fun v => .of fun R h H => ?_
  · obtain ⟨y1, y2, d, l1, l2, hO, ⟨y3, y4, d', l3, l4, hc, hDE⟩⟩ := H
    refine ⟨h, PH.none', PH.dj_none _, PH.le.refl _, PH.none_le _, ⟨y1, y2, d, l1, l2, hO.1, (HP.one _ _).mono (PH.le.refl _) l3 hc⟩, fun z hz => ?_⟩
    rcases List.mem_append.1 hz with hz | hz
    · exact nodeHp_pers _ _ _ _ (hO.2 z hz)
    · obtain rfl := List.mem_singleton.1 hz
      exact nodeHp_pers _ _ y4 _ ⟨HP.sep_left hDE, HP.sep_right hDE⟩
  · have hK := HP.sep_right H
    obtain ⟨a', c', rfl, y1, y2, d, l1, l2, hO, hc⟩ := HP.sep_left H
    have hx := nodeHp_pers _ _ _ PH.none' (hK x (by simp))
    refine ⟨a', c', rfl, y1, y2, d, l1, l2, ⟨by simpa using hO, fun z hz => nodeHp_pers _ _ _ _ (hK z hz)⟩, y2, PH.none', PH.dj_none _, PH.le.refl _, PH.none_le _, hc, PH.none', PH.none', PH.dj_none _, PH.le.refl _, PH.le.refl _, hx.1, hx.2⟩
theorem loopR_false {α : Type} {f : RS → α × RS} {n : Nat} {s : RS} (h : (loopR f n s).2.2 = false) : s.2 = false := by
  cases hs : s.2 with
  | false => rfl
  | true => rw [loopR_end f (.inr hs)] at h; rw [hs] at h; cases h
theorem loopR_le {α : Type} {f : RS → α × RS} (hf : ∀ s, (f s).2.1.length ≤ s.1.length) : ∀ (n : Nat) (s : RS), (loopR f n s).2.1.length ≤ s.1.length
  | 0, s => Nat.le_refl _
  | n + 1, s => by
    unfold loopR
    split
    · exact Nat.le_refl _
    · exact Nat.le_trans (loopR_le hf n _) (hf s)
theorem listR_snd {α : Type} (f : RS → α × RS) (m : Int) (s : RS) : (listR f m s).2 = (loopR f (toldR s m).1 (toldR s m).2).2 := by
  unfold listR; split <;> rfl
theorem entR_le (s : RS) : (entR s).2.1.length ≤ s.1.length := Nat.le_trans (numR_le _ _) (bytesR_le _ _)
theorem listR_le {α : Type} {f : RS → α × RS} (hf : ∀ s, (f s).2.1.length ≤ s.1.length) (m : Int) (s : RS) : (listR f m s).2.1.length ≤ s.1.length := by
  rw [listR_snd]; exact Nat.le_trans (loopR_le hf _ _) (toldR_len s m)
theorem listR_false {α : Type} {f : RS → α × RS} {m : Int} {s : RS} (h : (listR f m s).2.2 = false) : s.2 = false := by
  rw [listR_snd] at h; exact (toldR_false (loopR_false h)).1
theorem nodeR_shrinks : Shrinks nodeR := fun s h => by
  have h5 := listR_false (f := entR) h
  have h4 := (bytesR_false h5).1
  have h3 := (numR_false h4).1
  have h2 := (numR_false h3).1
  have h1 := (numR_false h2).2
  have a1 := listR_le (f := entR) entR_le 9223372036854775807 (bytesR (numR (numR (numR s 1).2 1).2 2).2 512).2
  have a2 := bytesR_le (numR (numR (numR s 1).2 1).2 2).2 512
  have a3 := numR_le (numR (numR s 1).2 1).2 2
  have a4 := numR_le (numR s 1).2 1
  show (listR entR 9223372036854775807 (bytesR (numR (numR (numR s 1).2 1).2 2).2 512).2).2.1.length + 1 ≤ _
  omega
theorem listNodes_ok (b : Nat) (s : RS) (most : Int) (hL : s.1.length ≤ 1000000000) : Tri Tryz.prog 87 #[.pointer (some ⟨b, 0, none⟩), .int .i64 most, .func (.func 88) #[] #[]] (RRep b s)
    (fun v => HP.ex fun a => HP.ex fun c => HP.ex fun es : List NodeE => HP.and (v = .slice a es.length c ∧ es.map (·.nd) = (listR nodeR most s).1) (HP.sep (OwN a es.length c es) (RRep b (listR nodeR most s).2))) := by
  refine tri_of_tree (ρ := [.n b, .p (RRep b s), .i most, .v (.func (.func 88) #[] #[]), .p HP.tt]) mixed Tryz.func87 tree_listNodes ?_
  unfold t_listNodes
  simp only [T.den, E.prop, E.den, RX.look, F1.app, F2.app, Uni.int_i, Uni.nat_n, Uni.bool_c, Uni.str_s, Uni.adr_a, Uni.val_v, Uni.hp_p, hden, cden, V.den, W.den, A.den, BR.den, SA.den, FV.den, capV, exs, exP, allP, Cur.app, List.map_cons, List.map_nil, List.cons_append, List.nil_append, List.drop_succ_cons, List.drop_zero, List.length_cons, List.length_nil, Nat.zero_add, Nat.reduceAdd, Int.neg_neg, Bool.not_not, List.append_nil, Nat.add_zero, List.getElem?_cons_zero, List.getElem?_cons_succ, Decidable.not_not, semW_eq, semW_load, semW_store, semW_storeC, semW_append, semW_lookup, semW_lookupC, semW_update, semW_updateC, semW_updateK, semW_delete, semW_range, semW_next, semW_entry, semW_nil, ne_eq, Nat.reduceEqDiff, not_false_eq_true]
  intro x y
  refine (rTold_ok b s most).weak (fun _ _ h => h) ?_
  rintro v R h ⟨rfl, H⟩
  refine ⟨_, _, rfl, fun z => ?_, H⟩
  refine (turns_ok b _ (RRep b (toldR s most).2)).weak (fun _ _ h => h) ?_
  rintro v R h ⟨nb, rb, rfl, H⟩
  refine ⟨.func (.func 204) #[] #[.pointer (some ⟨nb, 0, none⟩), .pointer (some ⟨rb, 0, none⟩)], TBox nb rb b _, rfl, fun u => ?_, H⟩
  have hn := toldR_lt s most
  have hL1 : (toldR s most).2.1.length ≤ 1000000000 := Nat.le_trans (toldR_len s most) hL
  have hlist : listR nodeR most s = if (loopR nodeR (toldR s most).1 (toldR s most).2).2.2 then ([], (loopR nodeR (toldR s most).1 (toldR s most).2).2) else loopR nodeR (toldR s most).1 (toldR s most).2 := rfl
  generalize hN : (toldR s most).1 = N at *
  generalize hS1 : (toldR s most).2 = s1 at *
  refine ⟨Nat × RS, fun g => RRep b g.2, fun _ _ => HP.tt, mayT N, finT N, (0, s1), fun g p a n c q => p = RRep b g.2 ∧ g.2.1.length ≤ 1000000000 ∧ ∃ es : List NodeE, n = es.length ∧ HP.ent q (OwN a n c es) ∧ Sofar nodeR N s1 g (es.map (·.nd)), turns_seq nb rb b N (by omega) s1, ?_, ?_, ?_, ?_⟩
  · exact ⟨rfl, hL1, [], rfl, .of fun R h _ => ⟨OwC.nil _ _ R h, fun _ h => by cases h⟩, Sofar.init _ _ _⟩
  · rintro g p a n c q ⟨rfl, _⟩; rfl
  · rintro g args ⟨g', rfl, hi, hw, _⟩ p a n c q ⟨rfl, hg, es, rfl, hq, hs⟩
    refine ⟨(g.1 : Int), rfl, .of fun _ _ _ => trivial, ?_⟩
    refine (takeNode_ok b g.2 hg).weak (fun _ _ h => h) ?_
    rintro v R h ⟨x, ⟨rfl, hx⟩, H⟩
    refine ⟨_, _, _, _, _, _, _, _, _, _, _, _, rfl, fun e => ?_, H⟩
    have hll : es.length ≤ 1000000000 := by
      have := hs.2.1 hw
      simp only [List.length_map] at this; omega
    refine (appN a es.length c es e x hll).conseq ((hq.sep _).trans (.of fun _ _ => HP.sep_tt)) fun v => .of fun R h H => ?_
    obtain ⟨a', c', rfl, H'⟩ := HP.sep_left H
    have hnx := hs.next nodeR_shrinks hi hw
    refine ⟨a', _, c', _, rfl, ⟨(g.1 + 1, (nodeR g.2).2), ⟨rfl, hi, hw, rfl⟩, rfl, ?_, es ++ [x], by simp, HP.ent.refl _, by rw [List.map_append, List.map_singleton, hx]; exact hnx⟩, H'⟩
    exact Nat.le_trans (listR_le (f := entR) entR_le _ _) (Nat.le_trans (bytesR_le _ _) (Nat.le_trans (numR_le _ _) (Nat.le_trans (numR_le _ _) (Nat.le_trans (numR_le _ _) hg))))
  · rintro g hf p a n c q ⟨rfl, hg, es, rfl, hq, hs⟩
    have hfin := hs.fin hf
    rw [hfin] at hlist
    refine ⟨g.2.2, rrep_rd b g.2, fun hw => .of fun R h H => ?_, fun hw => ((HP.ent.refl _).sep2 hq).trans (.of fun R h H => ?_)⟩
    · rw [hlist, if_pos hw]
      exact ⟨none, 0, [], ⟨rfl, rfl⟩, HP.sep_comm (HP.sep_mono (HP.sep_tt H) (fun _ h => h) fun y _ => ⟨OwC.nil _ _ R y, fun _ h => by cases h⟩)⟩
    · rw [hlist, if_neg hw]
      exact ⟨a, c, es, ⟨rfl, rfl⟩, HP.sep_comm H⟩
end Go.Proofs.YtdieogcemmnaaaaGreatDoor


/- Trees of functions, printed by rx.lean. No condition. -/
namespace Go.Proofs.YtdieogcemmnaaaaGreatDoor.RX
set_option maxRecDepth 100000
-- tideline/entry.part: ρ := [.i n]
def t_ePart : T :=
(.br (.o2 .le (.i 0) (.v 0))
 (.ret (.w (.a (.bool (.o2 .le (.v 0) (.i 2147483647))))) [])
 (.ret (.w (.a (.bool (.c false)))) []))
theorem tree_ePart : tree Tryz.prog { absT := [], opq := [], hv := [], keep := [], link := [], ent := [], turn := [], shr := [], vt := [], mkd := [], rlink := [], pty := [], outl := false, stay := [], snk := [] } Tryz.f206 [(.a (.int .i64 (.v 0)))] [] 1 = t_ePart := by kernel_rfl
-- tideline/entry.right: ρ := [.i x_Kind, .i x_Id_Client, .i x_Id_Birth, .i x_Id_Number, .i x_Stream, .i x_Back, .a x_Payloada, .n x_Payloadl, .n x_Payloadc, .p x_PayloadP]
def t_eRight : T :=
(.new
(.br (.o1 .not (.o2 .eq (.v 0) (.i 1)))
 (.br (.o1 .not (.o2 .eq (.v 0) (.i 2)))
  (.ret (.w (.a (.bool (.c false)))) [((.a 6), (.prop 9))])
  (.call 206 [(.a (.int .i64 (.v 1)))] [] [.c] (.w (.a (.bool (.v 11)))) []
  (.br (.o1 .not (.v 11))
   (.ret (.w (.a (.bool (.c false)))) [((.a 6), (.prop 9))])
   (.call 206 [(.a (.int .i64 (.v 2)))] [] [.c] (.w (.a (.bool (.v 12)))) []
   (.br (.o1 .not (.v 12))
    (.ret (.w (.a (.bool (.c false)))) [((.a 6), (.prop 9))])
    (.call 206 [(.a (.int .i64 (.v 3)))] [] [.c] (.w (.a (.bool (.v 13)))) []
    (.br (.o1 .not (.v 13))
     (.ret (.w (.a (.bool (.c false)))) [((.a 6), (.prop 9))])
     (.br (.o2 .lt (.v 4) (.i 0))
      (.ret (.w (.a (.bool (.c false)))) [((.a 6), (.prop 9))])
      (.br (.o2 .le (.i 8) (.v 4))
       (.ret (.w (.a (.bool (.c false)))) [((.a 6), (.prop 9))])
       (.br (.o2 .lt (.v 5) (.i (-1)))
        (.ret (.w (.a (.bool (.c false)))) [((.a 6), (.prop 9))])
        (.br (.o2 .lt (.i 4294967296) (.v 5))
         (.ret (.w (.a (.bool (.c false)))) [((.a 6), (.prop 9))])
         (.ret (.w (.a (.bool (.o2 .le (.o1 .ofNat (.v 7)) (.i 65506))))) [((.a 6), (.prop 9))]))))))))))))
 (.call 206 [(.a (.int .i64 (.v 1)))] [] [.c] (.w (.a (.bool (.v 11)))) []
 (.br (.o1 .not (.v 11))
  (.ret (.w (.a (.bool (.c false)))) [((.a 6), (.prop 9))])
  (.call 206 [(.a (.int .i64 (.v 2)))] [] [.c] (.w (.a (.bool (.v 12)))) []
  (.br (.o1 .not (.v 12))
   (.ret (.w (.a (.bool (.c false)))) [((.a 6), (.prop 9))])
   (.call 206 [(.a (.int .i64 (.v 3)))] [] [.c] (.w (.a (.bool (.v 13)))) []
   (.br (.o1 .not (.v 13))
    (.ret (.w (.a (.bool (.c false)))) [((.a 6), (.prop 9))])
    (.br (.o2 .lt (.v 4) (.i 0))
     (.ret (.w (.a (.bool (.c false)))) [((.a 6), (.prop 9))])
     (.br (.o2 .le (.i 8) (.v 4))
      (.ret (.w (.a (.bool (.c false)))) [((.a 6), (.prop 9))])
      (.br (.o2 .lt (.v 5) (.i (-1)))
       (.ret (.w (.a (.bool (.c false)))) [((.a 6), (.prop 9))])
       (.br (.o2 .lt (.i 4294967296) (.v 5))
        (.ret (.w (.a (.bool (.c false)))) [((.a 6), (.prop 9))])
        (.ret (.w (.a (.bool (.o2 .le (.o1 .ofNat (.v 7)) (.i 65506))))) [((.a 6), (.prop 9))])))))))))))))
theorem tree_eRight : tree Tryz.prog { absT := [], opq := [], hv := [], keep := [], link := [], ent := [], turn := [], shr := [], vt := [], mkd := [], rlink := [], pty := [], outl := false, stay := [], snk := [] } Tryz.f163 [(.agg [(.int .i64 (.v 0)), (.int .i64 (.v 1)), (.int .i64 (.v 2)), (.int .i64 (.v 3)), (.int .i64 (.v 4)), (.int .i64 (.v 5)), (.sl (.v 6) (.v 7) (.v 8))])] [((.a 6), (.prop 9))] 10 = t_eRight := by kernel_rfl
-- tideline/entry.Decode: ρ := [.a ba, .n bl, .n bc, .p bP]
def t_eDecode : T :=
(.new
(.br (.o2 .lt (.i 65536) (.o1 .ofNat (.v 1)))
 (.ret (.tup [(.agg [(.int .i64 (.i 0)), (.int .i64 (.i 0)), (.int .i64 (.i 0)), (.int .i64 (.i 0)), (.int .i64 (.i 0)), (.int .i64 (.i 0)), (.sl .nil (.n 0) (.n 0))]), (.a (.int .i64 (.i 3)))]) [((.a 0), (.prop 3))])
 (.call 84 [(.a (.sl (.v 0) (.v 1) (.v 2)))] [((.a 0), (.prop 3))] [.a, .n, .n, .p, .i, .p] (.tup [(.a (.sl (.v 5) (.v 6) (.v 7))), (.a (.int .i64 (.v 9)))]) [((.a 5), (.prop 8)), ((.a 0), (.prop 10))]
 (.br (.o1 .not (.o2 .eq (.v 9) (.i 0)))
  (.ret (.tup [(.agg [(.int .i64 (.i 0)), (.int .i64 (.i 0)), (.int .i64 (.i 0)), (.int .i64 (.i 0)), (.int .i64 (.i 0)), (.int .i64 (.i 0)), (.sl .nil (.n 0) (.n 0))]), (.a (.int .i64 (.i 3)))]) [((.a 0), (.prop 10))])
  (.call 85 [(.a (.sl (.v 5) (.v 6) (.v 7)))] [((.a 5), (.prop 8))] [.n, .p, .p] (.w (.a (.ptr (.v 11) 0))) [((.b (.v 11)), (.prop 12)), ((.a 5), (.prop 13))]
  (.new
  (.call 156 [(.a (.ptr (.v 11) 0))] [((.b (.v 11)), (.prop 12))] [.i, .p] (.w (.a (.int .u8 (.v 15)))) [((.b (.v 11)), (.prop 16))]
  (.need (.o1 (.inr .i64) (.v 15))
  (.call 153 [(.a (.ptr (.v 11) 0)), (.a (.int .i64 (.i 4)))] [((.b (.v 11)), (.prop 16))] [.i, .p] (.w (.a (.int .u64 (.v 17)))) [((.b (.v 11)), (.prop 18))]
  (.call 153 [(.a (.ptr (.v 11) 0)), (.a (.int .i64 (.i 4)))] [((.b (.v 11)), (.prop 18))] [.i, .p] (.w (.a (.int .u64 (.v 19)))) [((.b (.v 11)), (.prop 20))]
  (.call 153 [(.a (.ptr (.v 11) 0)), (.a (.int .i64 (.i 4)))] [((.b (.v 11)), (.prop 20))] [.i, .p] (.w (.a (.int .u64 (.v 21)))) [((.b (.v 11)), (.prop 22))]
  (.call 156 [(.a (.ptr (.v 11) 0))] [((.b (.v 11)), (.prop 22))] [.i, .p] (.w (.a (.int .u8 (.v 23)))) [((.b (.v 11)), (.prop 24))]
  (.need (.o1 (.inr .i64) (.v 23))
  (.call 86 [(.a (.ptr (.v 11) 0))] [((.b (.v 11)), (.prop 24))] [.i, .p] (.w (.a (.int .i64 (.v 25)))) [((.b (.v 11)), (.prop 26))]
  (.call 157 [(.a (.ptr (.v 11) 0)), (.a (.int .i64 (.i 65536)))] [((.b (.v 11)), (.prop 26))] [.a, .n, .n, .p, .p] (.w (.a (.sl (.v 27) (.v 28) (.v 29)))) [((.a 27), (.prop 30)), ((.b (.v 11)), (.prop 31))]
  (.call 89 [(.a (.ptr (.v 11) 0))] [((.b (.v 11)), (.prop 31))] [.i, .p] (.w (.a (.int .i64 (.v 32)))) [((.b (.v 11)), (.prop 33))]
  (.br (.o1 .not (.o2 .eq (.v 32) (.i 0)))
   (.ret (.tup [(.agg [(.int .i64 (.i 0)), (.int .i64 (.i 0)), (.int .i64 (.i 0)), (.int .i64 (.i 0)), (.int .i64 (.i 0)), (.int .i64 (.i 0)), (.sl .nil (.n 0) (.n 0))]), (.a (.int .i64 (.i 3)))]) [((.a 0), (.prop 10))])
   (.call 163 [(.agg [(.int .i64 (.v 15)), (.int .i64 (.o1 (.wrap .i64) (.v 17))), (.int .i64 (.o1 (.wrap .i64) (.v 19))), (.int .i64 (.o1 (.wrap .i64) (.v 21))), (.int .i64 (.v 23)), (.int .i64 (.v 25)), (.sl (.v 27) (.v 28) (.v 29))])] [((.a 27), (.prop 30))] [.c, .p] (.w (.a (.bool (.v 34)))) [((.a 27), (.prop 35))]
   (.br (.o1 .not (.v 34))
    (.ret (.tup [(.agg [(.int .i64 (.i 0)), (.int .i64 (.i 0)), (.int .i64 (.i 0)), (.int .i64 (.i 0)), (.int .i64 (.i 0)), (.int .i64 (.i 0)), (.sl .nil (.n 0) (.n 0))]), (.a (.int .i64 (.i 3)))]) [((.a 0), (.prop 10))])
    (.ret (.tup [(.agg [(.int .i64 (.v 15)), (.int .i64 (.o1 (.wrap .i64) (.v 17))), (.int .i64 (.o1 (.wrap .i64) (.v 19))), (.int .i64 (.o1 (.wrap .i64) (.v 21))), (.int .i64 (.v 23)), (.int .i64 (.v 25)), (.sl (.v 27) (.v 28) (.v 29))]), (.a (.int .i64 (.i 0)))]) [((.a 0), (.prop 10)), ((.a 27), (.prop 35))]))))))))))))))))))))
theorem tree_eDecode : tree Tryz.prog { absT := [], opq := [], hv := [], keep := [], link := [], ent := [], turn := [], shr := [], vt := [], mkd := [], rlink := [], pty := [], outl := false, stay := [], snk := [] } Tryz.f98 [(.a (.sl (.v 0) (.v 1) (.v 2)))] [((.a 0), (.prop 3))] 4 = t_eDecode := by kernel_rfl
-- tideline/call.Decode: ρ := [.a ba, .n bl, .n bc, .p bP]
def t_cDecode : T :=
(.new
(.call 84 [(.a (.sl (.v 0) (.v 1) (.v 2)))] [((.a 0), (.prop 3))] [.a, .n, .n, .p, .i, .p] (.tup [(.a (.sl (.v 5) (.v 6) (.v 7))), (.a (.int .i64 (.v 9)))]) [((.a 5), (.prop 8)), ((.a 0), (.prop 10))]
(.br (.o1 .not (.o2 .eq (.v 9) (.i 0)))
 (.ret (.tup [(.agg [(.int .i64 (.i 0)), (.str (.s [])), (.str (.s [])), (.int .i64 (.i 0)), (.int .i64 (.i 0)), (.sl .nil (.n 0) (.n 0))]), (.a (.int .i64 (.i 3)))]) [((.a 0), (.prop 10))])
 (.call 85 [(.a (.sl (.v 5) (.v 6) (.v 7)))] [((.a 5), (.prop 8))] [.n, .p, .p] (.w (.a (.ptr (.v 11) 0))) [((.b (.v 11)), (.prop 12)), ((.a 5), (.prop 13))]
 (.new
 (.call 156 [(.a (.ptr (.v 11) 0))] [((.b (.v 11)), (.prop 12))] [.i, .p] (.w (.a (.int .u8 (.v 15)))) [((.b (.v 11)), (.prop 16))]
 (.need (.o1 (.inr .i64) (.v 15))
 (.call 157 [(.a (.ptr (.v 11) 0)), (.a (.int .i64 (.i 300)))] [((.b (.v 11)), (.prop 16))] [.a, .n, .n, .p, .p] (.w (.a (.sl (.v 17) (.v 18) (.v 19)))) [((.a 17), (.prop 20)), ((.b (.v 11)), (.prop 21))]
 (.read (.convert 28 9 (.tmp 23)) 9 [(23, (.w (.a (.sl (.v 17) (.v 18) (.v 19)))))] [((.a 17), (.prop 20))] [.s] (.w (.a (.str (.v 22))))
 (.call 157 [(.a (.ptr (.v 11) 0)), (.a (.int .i64 (.i 300)))] [((.b (.v 11)), (.prop 21))] [.a, .n, .n, .p, .p] (.w (.a (.sl (.v 23) (.v 24) (.v 25)))) [((.a 23), (.prop 26)), ((.b (.v 11)), (.prop 27))]
 (.read (.convert 28 9 (.tmp 27)) 9 [(27, (.w (.a (.sl (.v 23) (.v 24) (.v 25)))))] [((.a 23), (.prop 26))] [.s] (.w (.a (.str (.v 28))))
 (.call 86 [(.a (.ptr (.v 11) 0))] [((.b (.v 11)), (.prop 27))] [.i, .p] (.w (.a (.int .i64 (.v 29)))) [((.b (.v 11)), (.prop 30))]
 (.call 86 [(.a (.ptr (.v 11) 0))] [((.b (.v 11)), (.prop 30))] [.i, .p] (.w (.a (.int .i64 (.v 31)))) [((.b (.v 11)), (.prop 32))]
 (.call 157 [(.a (.ptr (.v 11) 0)), (.a (.int .i64 (.i 4096)))] [((.b (.v 11)), (.prop 32))] [.a, .n, .n, .p, .p] (.w (.a (.sl (.v 33) (.v 34) (.v 35)))) [((.a 33), (.prop 36)), ((.b (.v 11)), (.prop 37))]
 (.call 89 [(.a (.ptr (.v 11) 0))] [((.b (.v 11)), (.prop 37))] [.i, .p] (.w (.a (.int .i64 (.v 38)))) [((.b (.v 11)), (.prop 39))]
 (.br (.o1 .not (.o2 .eq (.v 38) (.i 0)))
  (.ret (.tup [(.agg [(.int .i64 (.i 0)), (.str (.s [])), (.str (.s [])), (.int .i64 (.i 0)), (.int .i64 (.i 0)), (.sl .nil (.n 0) (.n 0))]), (.a (.int .i64 (.i 3)))]) [((.a 0), (.prop 10))])
  (.ret (.tup [(.agg [(.int .i64 (.v 15)), (.str (.v 22)), (.str (.v 28)), (.int .i64 (.v 29)), (.int .i64 (.v 31)), (.sl (.v 33) (.v 34) (.v 35))]), (.a (.int .i64 (.i 0)))]) [((.a 0), (.prop 10)), ((.a 33), (.prop 36))])))))))))))))))))
theorem tree_cDecode : tree Tryz.prog { absT := [], opq := [], hv := [], keep := [], link := [], ent := [], turn := [], shr := [], vt := [], mkd := [], rlink := [], pty := [], outl := false, stay := [], snk := [] } Tryz.f164 [(.a (.sl (.v 0) (.v 1) (.v 2)))] [((.a 0), (.prop 3))] 4 = t_cDecode := by kernel_rfl
end Go.Proofs.YtdieogcemmnaaaaGreatDoor.RX


/- entry.Decode and call.Decode as exact contracts. No condition. -/
namespace Go.Proofs.YtdieogcemmnaaaaGreatDoor
set_option linter.unusedSimpArgs false
set_option linter.unusedVariables false
open Go.Proofs.YtdieogcemmnaaaaGreatDoor RX
set_option maxRecDepth 100000

/-- An entry of the log. -/
structure LogM where
  kind : Int
  cl : Int
  bi : Int
  nu : Int
  st : Int
  bk : Int
  pl : List UInt8
def LogM.val (x : LogM) (a : Option Addr) (c : Nat) : Value := .agg #[.int .i64 x.kind, .int .i64 x.cl, .int .i64 x.bi, .int .i64 x.nu, .int .i64 x.st, .int .i64 x.bk, .slice a x.pl.length c]
def partOk (n : Int) : Bool := decide (0 ≤ n) && decide (n ≤ 2147483647)
def logOk (x : LogM) : Bool := (decide (x.kind = 1) || decide (x.kind = 2)) && partOk x.cl && partOk x.bi && partOk x.nu && decide (0 ≤ x.st) && decide (x.st < 8) && decide (-1 ≤ x.bk) && decide (x.bk ≤ 4294967296) && decide (x.pl.length ≤ 65506)
theorem ePart_ok (n : Int) : Tri Tryz.prog 206 #[.int .i64 n] HP.tt (fun v => HP.and (v = .bool (partOk n)) HP.tt) := by
  refine tri_of_tree (ρ := [.i n]) mixed Tryz.func206 tree_ePart ?_
  unfold t_ePart
  simp only [T.den, E.prop, E.den, RX.look, F1.app, F2.app, Uni.int_i, Uni.nat_n, Uni.bool_c, Uni.str_s, Uni.adr_a, Uni.val_v, Uni.hp_p, hden, cden, V.den, W.den, A.den, BR.den, SA.den, FV.den, capV, exs, exP, allP, Cur.app, List.map_cons, List.map_nil, List.cons_append, List.nil_append, List.drop_succ_cons, List.drop_zero, List.length_cons, List.length_nil, Nat.zero_add, Nat.reduceAdd, Int.neg_neg, Bool.not_not, List.append_nil, Nat.add_zero, List.getElem?_cons_zero, List.getElem?_cons_succ, Decidable.not_not, semW_eq, semW_load, semW_store, semW_storeC, semW_append, semW_lookup, semW_lookupC, semW_update, semW_updateC, semW_updateK, semW_delete, semW_range, semW_next, semW_entry, semW_nil, ne_eq, Nat.reduceEqDiff, not_false_eq_true]
  unfold partOk
  refine ⟨fun h => .of fun R x _ => ⟨?_, trivial⟩, fun h => .of fun R x _ => ⟨?_, trivial⟩⟩
  · have h' : 0 ≤ n := h
    rw [decide_eq_true h', Bool.true_and]; rfl
  · have h' : ¬ 0 ≤ n := h
    rw [decide_eq_false h', Bool.false_and]
theorem eRight_ok (x : LogM) (a : Option Addr) (c : Nat) (S : HP) : Tri Tryz.prog 163 #[x.val a c] S (fun v => HP.and (v = .bool (logOk x)) S) := by
  refine tri_of_tree (ρ := [.i x.kind, .i x.cl, .i x.bi, .i x.nu, .i x.st, .i x.bk, .a a, .n x.pl.length, .n c, .p S]) mixed Tryz.func163 tree_eRight ?_
  unfold t_eRight
  simp only [T.den, E.prop, E.den, RX.look, F1.app, F2.app, Uni.int_i, Uni.nat_n, Uni.bool_c, Uni.str_s, Uni.adr_a, Uni.val_v, Uni.hp_p, hden, cden, V.den, W.den, A.den, BR.den, SA.den, FV.den, capV, exs, exP, allP, Cur.app, List.map_cons, List.map_nil, List.cons_append, List.nil_append, List.drop_succ_cons, List.drop_zero, List.length_cons, List.length_nil, Nat.zero_add, Nat.reduceAdd, Int.neg_neg, Bool.not_not, List.append_nil, Nat.add_zero, List.getElem?_cons_zero, List.getElem?_cons_succ, Decidable.not_not, semW_eq, semW_load, semW_store, semW_storeC, semW_append, semW_lookup, semW_lookupC, semW_update, semW_updateC, semW_updateK, semW_delete, semW_range, semW_next, semW_entry, semW_nil, ne_eq, Nat.reduceEqDiff, not_false_eq_true]
  intro _
  have no : logOk x = false → HP.ent S (HP.and (Value.bool false = .bool (logOk x)) S) := fun h => .of fun R h' H => ⟨by rw [h], H⟩
  refine ⟨fun h1 => ⟨fun h2 => no ?_, fun h2 => ?_⟩, fun h1 => ?_⟩
  · unfold logOk; simp [h1, h2]
  · have hk' : (decide (x.kind = 1) || decide (x.kind = 2)) = true := by
      have h2 : x.kind = 2 := by simpa using h2
      simp [h2]
    clear h1 h2
    refine (ePart_ok x.cl).weak (fun _ _ h => h) ?_
    rintro v R h ⟨rfl, H⟩
    refine ⟨_, rfl, ⟨fun h => no ?_, fun h1 => ?_⟩, H⟩
    · unfold logOk; simp [h]
    refine (ePart_ok x.bi).weak (fun _ _ h => h) ?_
    rintro v R h ⟨rfl, H⟩
    refine ⟨_, rfl, ⟨fun h => no ?_, fun h2 => ?_⟩, H⟩
    · unfold logOk; simp [h]
    refine (ePart_ok x.nu).weak (fun _ _ h => h) ?_
    rintro v R h ⟨rfl, H⟩
    refine ⟨_, rfl, ⟨fun h => no ?_, fun h3 => ⟨fun h => no ?_, fun h4 => ⟨fun h => no ?_, fun h5 => ⟨fun h => no ?_, fun h6 => ⟨fun h => no ?_, fun h7 => .of fun R h' H => ⟨?_, H⟩⟩⟩⟩⟩⟩, H⟩
    · unfold logOk; simp [h]
    · unfold logOk; have : ¬ 0 ≤ x.st := by omega
      simp [this]
    · unfold logOk; have : ¬ x.st < 8 := by omega
      simp [this]
    · unfold logOk; have : ¬ -1 ≤ x.bk := by omega
      simp [this]
    · unfold logOk; have : ¬ x.bk ≤ 4294967296 := by omega
      simp [this]
    · have a1 : 0 ≤ x.st := by omega
      have a2 : x.st < 8 := by omega
      have a3 : -1 ≤ x.bk := by omega
      have a4 : x.bk ≤ 4294967296 := by omega
      have h1 : partOk x.cl = true := by simpa using h1
      have h2 : partOk x.bi = true := by simpa using h2
      have h3 : partOk x.nu = true := by simpa using h3
      unfold logOk
      rw [hk', h1, h2, h3]
      simp [a1, a2, a3, a4]
      omega
  · have hk' : (decide (x.kind = 1) || decide (x.kind = 2)) = true := by
      have h1 : x.kind = 1 := by simpa using h1
      simp [h1]
    clear h1
    refine (ePart_ok x.cl).weak (fun _ _ h => h) ?_
    rintro v R h ⟨rfl, H⟩
    refine ⟨_, rfl, ⟨fun h => no ?_, fun h1 => ?_⟩, H⟩
    · unfold logOk; simp [h]
    refine (ePart_ok x.bi).weak (fun _ _ h => h) ?_
    rintro v R h ⟨rfl, H⟩
    refine ⟨_, rfl, ⟨fun h => no ?_, fun h2 => ?_⟩, H⟩
    · unfold logOk; simp [h]
    refine (ePart_ok x.nu).weak (fun _ _ h => h) ?_
    rintro v R h ⟨rfl, H⟩
    refine ⟨_, rfl, ⟨fun h => no ?_, fun h3 => ⟨fun h => no ?_, fun h4 => ⟨fun h => no ?_, fun h5 => ⟨fun h => no ?_, fun h6 => ⟨fun h => no ?_, fun h7 => .of fun R h' H => ⟨?_, H⟩⟩⟩⟩⟩⟩, H⟩
    · unfold logOk; simp [h]
    · unfold logOk; have : ¬ 0 ≤ x.st := by omega
      simp [this]
    · unfold logOk; have : ¬ x.st < 8 := by omega
      simp [this]
    · unfold logOk; have : ¬ -1 ≤ x.bk := by omega
      simp [this]
    · unfold logOk; have : ¬ x.bk ≤ 4294967296 := by omega
      simp [this]
    · have a1 : 0 ≤ x.st := by omega
      have a2 : x.st < 8 := by omega
      have a3 : -1 ≤ x.bk := by omega
      have a4 : x.bk ≤ 4294967296 := by omega
      have h1 : partOk x.cl = true := by simpa using h1
      have h2 : partOk x.bi = true := by simpa using h2
      have h3 : partOk x.nu = true := by simpa using h3
      unfold logOk
      rw [hk', h1, h2, h3]
      simp [a1, a2, a3, a4]
      omega
/-- What is read of an entry. -/
def logR (s : RS) : LogM × RS :=
  let k := numR s 1
  let a := numR k.2 4
  let b := numR a.2 4
  let c := numR b.2 4
  let t := numR c.2 1
  let i := numR t.2 8
  let p := bytesR i.2 65536
  (⟨((k.1 % 256 : Nat) : Int), (a.1 : Int), (b.1 : Int), (c.1 : Int), ((t.1 % 256 : Nat) : Int), intOf64 i.1, p.1⟩, p.2)
def entD (l : List UInt8) : Option LogM := if 65536 < l.length then none else match unwrapS l with
  | none => none
  | some q => if (logR (q, false)).2.2 = true ∨ (logR (q, false)).2.1 ≠ [] then none else if logOk (logR (q, false)).1 = true then some (logR (q, false)).1 else none
def EntPost (l : List UInt8) (S : HP) (v : Value) : HP := match entD l with
  | none => HP.and (v = .tuple #[.agg #[.int .i64 0, .int .i64 0, .int .i64 0, .int .i64 0, .int .i64 0, .int .i64 0, .slice none 0 0], .int .i64 3]) S
  | some x => HP.ex fun a => HP.ex fun c => HP.and (v = .tuple #[x.val a c, .int .i64 0]) (HP.sep (OwB a x.pl.length c x.pl) S)
theorem wrapI (v : Nat) (h : v < 256 ^ 4) : IntKind.i64.wrap (v : Int) = v := by
  have h4 : (256 : Nat) ^ 4 = 4294967296 := by decide
  exact wrap_in ⟨by show (-9223372036854775808 : Int) ≤ _; omega, by show _ ≤ (9223372036854775807 : Int); omega⟩
set_option maxHeartbeats 1000000 in
theorem eDecode_ok (a : Option Addr) (n c : Nat) (l : List UInt8) (S : HP) (hr : RdL S a n (l.map u8v)) (hl : l.length = n) (hc : n ≤ c) (ha : n ≠ 0 → a.isSome = true) :
    Tri Tryz.prog 98 #[.slice a n c] S (EntPost l S) := by
  refine tri_of_tree (ρ := [.a a, .n n, .n c, .p S]) mixed Tryz.func98 tree_eDecode ?_
  unfold t_eDecode
  simp only [T.den, E.prop, E.den, RX.look, F1.app, F2.app, Uni.int_i, Uni.nat_n, Uni.bool_c, Uni.str_s, Uni.adr_a, Uni.val_v, Uni.hp_p, hden, cden, V.den, W.den, A.den, BR.den, SA.den, FV.den, capV, exs, exP, allP, Cur.app, List.map_cons, List.map_nil, List.cons_append, List.nil_append, List.drop_succ_cons, List.drop_zero, List.length_cons, List.length_nil, Nat.zero_add, Nat.reduceAdd, Int.neg_neg, Bool.not_not, List.append_nil, Nat.add_zero, List.getElem?_cons_zero, List.getElem?_cons_succ, Decidable.not_not, semW_eq, semW_load, semW_store, semW_storeC, semW_append, semW_lookup, semW_lookupC, semW_update, semW_updateC, semW_updateK, semW_delete, semW_range, semW_next, semW_entry, semW_nil, ne_eq, Nat.reduceEqDiff, not_false_eq_true]
  intro _
  have bad : entD l = none → ∀ {A : HP}, HP.ent A S → HP.ent A (EntPost l S (.tuple #[.agg #[.int .i64 0, .int .i64 0, .int .i64 0, .int .i64 0, .int .i64 0, .int .i64 0, .slice none 0 0], .int .i64 3])) := fun h A hA => by
    unfold EntPost; rw [h]; exact hA.trans (.of fun R h H => ⟨rfl, H⟩)
  refine ⟨fun h => bad ?_ (HP.ent.refl _), fun h => ?_⟩
  · unfold entD; rw [if_pos (by omega)]
  have hle : ¬ 65536 < l.length := by omega
  have hd0 : entD l = match unwrapS l with
    | none => none
    | some q => if (logR (q, false)).2.2 = true ∨ (logR (q, false)).2.1 ≠ [] then none else if logOk (logR (q, false)).1 = true then some (logR (q, false)).1 else none := by unfold entD; rw [if_neg hle]
  refine (unwrap_ok a n c l S hr hl hc ha (by omega)).weak (fun _ _ h => h) ?_
  rintro v R h ⟨a', c', rfl, H⟩
  refine ⟨a', _, c', OwB a' _ c' _, _, S, rfl, ?_, HP.sep_comm H⟩
  clear H
  cases hu : unwrapS l with
  | none =>
    rw [hu] at hd0
    exact ⟨fun _ => bad hd0 (HP.ent.refl _), fun h => (by simp at h)⟩
  | some q =>
    rw [hu] at hd0
    simp only at hd0
    refine ⟨fun h => absurd rfl h, fun _ => ?_⟩
    simp only [Option.getD_some]
    have hq : q.length ≤ 1000000 := by
      unfold unwrapS at hu
      split at hu
      · cases hu
      · split at hu
        · cases hu; rw [List.length_take]; omega
        · cases hu
    refine (rRead_ok a' _ c' q _ (RdL.ow _ _ _ _ _ _) rfl (by omega)).weak (fun _ _ h => h) ?_
    rintro v R h ⟨b, rfl, H⟩
    refine ⟨b, _, _, rfl, ?_, HP.sep_comm H⟩
    clear H
    intro _
    refine (rByte_ok b (q, false)).weak (fun _ _ h => h) ?_
    rintro v R h ⟨rfl, H⟩
    refine ⟨_, _, rfl, ⟨inI64 _ (by omega) (by omega), fun _ => ?_⟩, H⟩
    clear H
    refine (rNumber_ok b _ 4 (by omega)).weak (fun _ _ h => h) ?_
    rintro v R h ⟨rfl, H⟩
    refine ⟨_, _, rfl, ?_, H⟩
    clear H
    refine (rNumber_ok b _ 4 (by omega)).weak (fun _ _ h => h) ?_
    rintro v R h ⟨rfl, H⟩
    refine ⟨_, _, rfl, ?_, H⟩
    clear H
    refine (rNumber_ok b _ 4 (by omega)).weak (fun _ _ h => h) ?_
    rintro v R h ⟨rfl, H⟩
    refine ⟨_, _, rfl, ?_, H⟩
    clear H
    refine (rByte_ok b _).weak (fun _ _ h => h) ?_
    rintro v R h ⟨rfl, H⟩
    refine ⟨_, _, rfl, ⟨inI64 _ (by omega) (by omega), fun _ => ?_⟩, H⟩
    clear H
    refine (rInt_ok b _).weak (fun _ _ h => h) ?_
    rintro v R h ⟨rfl, H⟩
    refine ⟨_, _, rfl, ?_, H⟩
    clear H
    refine (rBytes_ok b _ 65536).weak (fun _ _ h => h) ?_
    rintro v R h ⟨pa, pc, rfl, H⟩
    refine ⟨pa, _, pc, _, _, rfl, ?_, HP.sep_comm H⟩
    clear H
    refine (rEnd_ok b _).weak (fun _ _ h => h) ?_
    rintro v R h ⟨rfl, H⟩
    refine ⟨_, _, rfl, ⟨fun h1 => bad ?_ (HP.ent.refl _), fun h1 => ?_⟩, H⟩
    · rw [hd0, if_pos]
      by_cases e : (logR (q, false)).2.2 = true ∨ (logR (q, false)).2.1 ≠ []
      · exact e
      · exact absurd (if_neg e) h1
    clear H
    have h1' : ¬ ((logR (q, false)).2.2 = true ∨ (logR (q, false)).2.1 ≠ []) := fun e => by
      have h3 : (if (logR (q, false)).2.2 = true ∨ (logR (q, false)).2.1 ≠ [] then (3 : Int) else 0) = 3 := if_pos e
      exact absurd (h3.symm.trans h1) (by decide)
    rw [if_neg h1'] at hd0
    rw [wrapI _ (numR_lt _ _), wrapI _ (numR_lt _ _), wrapI _ (numR_lt _ _)]
    refine (eRight_ok (logR (q, false)).1 pa pc _).weak (fun _ _ h => h) ?_
    rintro v R h ⟨rfl, H⟩
    refine ⟨_, _, rfl, ⟨fun h2 => bad ?_ (HP.ent.refl _), fun h2 => ?_⟩, H⟩
    · rw [hd0, if_neg h2]
    · have h2 : logOk (logR (q, false)).1 = true := by simpa using h2
      rw [if_pos h2] at hd0
      unfold EntPost
      rw [hd0]
      exact .of fun R h H => ⟨pa, pc, rfl, HP.sep_comm H⟩
/-- A call, as it is told. -/
structure CallP where
  kind : Int
  path : Nm
  other : Nm
  off : Int
  n : Int
  data : List UInt8
def CallP.val (x : CallP) (a : Option Addr) (c : Nat) : Value := .agg #[.int .i64 x.kind, sE x.path, sE x.other, .int .i64 x.off, .int .i64 x.n, .slice a x.data.length c]
def callR (s : RS) : CallP × RS :=
  let k := numR s 1
  let a := bytesR k.2 300
  let b := bytesR a.2 300
  let o := numR b.2 8
  let n := numR o.2 8
  let p := bytesR n.2 4096
  (⟨((k.1 % 256 : Nat) : Int), a.1, b.1, intOf64 o.1, intOf64 n.1, p.1⟩, p.2)
def callD (l : List UInt8) : Option CallP := match unwrapS l with
  | none => none
  | some q => if (callR (q, false)).2.2 = true ∨ (callR (q, false)).2.1 ≠ [] then none else some (callR (q, false)).1
def CallPost (l : List UInt8) (S : HP) (v : Value) : HP := match callD l with
  | none => HP.and (v = .tuple #[.agg #[.int .i64 0, sE [], sE [], .int .i64 0, .int .i64 0, .slice none 0 0], .int .i64 3]) S
  | some x => HP.ex fun a => HP.ex fun c => HP.and (v = .tuple #[x.val a c, .int .i64 0]) (HP.sep (OwB a x.data.length c x.data) S)
set_option maxHeartbeats 1000000 in
theorem cDecode_ok (a : Option Addr) (n c : Nat) (l : List UInt8) (S : HP) (hr : RdL S a n (l.map u8v)) (hl : l.length = n) (hc : n ≤ c) (ha : n ≠ 0 → a.isSome = true) (hb : n ≤ 140737488355000) :
    Tri Tryz.prog 164 #[.slice a n c] S (CallPost l S) := by
  refine tri_of_tree (ρ := [.a a, .n n, .n c, .p S]) mixed Tryz.func164 tree_cDecode ?_
  unfold t_cDecode
  simp only [T.den, E.prop, E.den, RX.look, F1.app, F2.app, Uni.int_i, Uni.nat_n, Uni.bool_c, Uni.str_s, Uni.adr_a, Uni.val_v, Uni.hp_p, hden, cden, V.den, W.den, A.den, BR.den, SA.den, FV.den, capV, exs, exP, allP, Cur.app, List.map_cons, List.map_nil, List.cons_append, List.nil_append, List.drop_succ_cons, List.drop_zero, List.length_cons, List.length_nil, Nat.zero_add, Nat.reduceAdd, Int.neg_neg, Bool.not_not, List.append_nil, Nat.add_zero, List.getElem?_cons_zero, List.getElem?_cons_succ, Decidable.not_not, semW_eq, semW_load, semW_store, semW_storeC, semW_append, semW_lookup, semW_lookupC, semW_update, semW_updateC, semW_updateK, semW_delete, semW_range, semW_next, semW_entry, semW_nil, ne_eq, Nat.reduceEqDiff, not_false_eq_true]
  intro _
  have bad : callD l = none → ∀ {A : HP}, HP.ent A S → HP.ent A (CallPost l S (.tuple #[.agg #[.int .i64 0, sE [], sE [], .int .i64 0, .int .i64 0, .slice none 0 0], .int .i64 3])) := fun h A hA => by
    unfold CallPost; rw [h]; exact hA.trans (.of fun R h H => ⟨rfl, H⟩)
  have hd0 : callD l = match unwrapS l with
    | none => none
    | some q => if (callR (q, false)).2.2 = true ∨ (callR (q, false)).2.1 ≠ [] then none else some (callR (q, false)).1 := rfl
  refine (unwrap_ok a n c l S hr hl hc ha (by omega)).weak (fun _ _ h => h) ?_
  rintro v R h ⟨a', c', rfl, H⟩
  refine ⟨a', _, c', OwB a' _ c' _, _, S, rfl, ?_, HP.sep_comm H⟩
  clear H
  cases hu : unwrapS l with
  | none =>
    rw [hu] at hd0
    exact ⟨fun _ => bad hd0 (HP.ent.refl _), fun h => (by simp at h)⟩
  | some q =>
    rw [hu] at hd0
    simp only at hd0
    refine ⟨fun h => absurd rfl h, fun _ => ?_⟩
    simp only [Option.getD_some]
    have hq : q.length ≤ 140737488355000 := by
      unfold unwrapS at hu
      split at hu
      · cases hu
      · split at hu
        · cases hu; rw [List.length_take]; omega
        · cases hu
    refine (rRead_ok a' _ c' q _ (RdL.ow _ _ _ _ _ _) rfl (by omega)).weak (fun _ _ h => h) ?_
    rintro v R h ⟨b, rfl, H⟩
    refine ⟨b, _, _, rfl, ?_, HP.sep_comm H⟩
    clear H
    intro _
    refine (rByte_ok b (q, false)).weak (fun _ _ h => h) ?_
    rintro v R h ⟨rfl, H⟩
    refine ⟨_, _, rfl, ⟨inI64 _ (by omega) (by omega), fun _ => ?_⟩, H⟩
    clear H
    refine (rBytes_ok b _ 300).weak (fun _ _ h => h) ?_
    rintro v R h ⟨pa, pc, rfl, H⟩
    refine ⟨pa, _, pc, _, _, rfl, ⟨_, convW6 (RdL.ow _ _ _ _ _ _) rfl, ?_⟩, HP.sep_comm H⟩
    clear H
    refine (rBytes_ok b _ 300).weak (fun _ _ h => h) ?_
    rintro v R h ⟨oa, oc, rfl, H⟩
    refine ⟨oa, _, oc, _, _, rfl, ⟨_, convW6 (RdL.ow _ _ _ _ _ _) rfl, ?_⟩, HP.sep_comm H⟩
    clear H
    refine (rInt_ok b _).weak (fun _ _ h => h) ?_
    rintro v R h ⟨rfl, H⟩
    refine ⟨_, _, rfl, ?_, H⟩
    clear H
    refine (rInt_ok b _).weak (fun _ _ h => h) ?_
    rintro v R h ⟨rfl, H⟩
    refine ⟨_, _, rfl, ?_, H⟩
    clear H
    refine (rBytes_ok b _ 4096).weak (fun _ _ h => h) ?_
    rintro v R h ⟨da, dc, rfl, H⟩
    refine ⟨da, _, dc, _, _, rfl, ?_, HP.sep_comm H⟩
    clear H
    refine (rEnd_ok b _).weak (fun _ _ h => h) ?_
    rintro v R h ⟨rfl, H⟩
    refine ⟨_, _, rfl, ⟨fun h1 => bad ?_ (HP.ent.refl _), fun h1 => ?_⟩, H⟩
    · rw [hd0, if_pos]
      by_cases e : (callR (q, false)).2.2 = true ∨ (callR (q, false)).2.1 ≠ []
      · exact e
      · exact absurd (if_neg e) h1
    clear H
    have h1' : ¬ ((callR (q, false)).2.2 = true ∨ (callR (q, false)).2.1 ≠ []) := fun e => by
      have h3 : (if (callR (q, false)).2.2 = true ∨ (callR (q, false)).2.1 ≠ [] then (3 : Int) else 0) = 3 := if_pos e
      exact absurd (h3.symm.trans h1) (by decide)
    rw [if_neg h1'] at hd0
    unfold CallPost
    rw [hd0]
    exact .of fun R h H => ⟨da, dc, rfl, HP.sep_comm H⟩
end Go.Proofs.YtdieogcemmnaaaaGreatDoor


/- snap.wholeLinks: files have as many links as there are entries of them. No condition. -/
namespace Go.Proofs.YtdieogcemmnaaaaGreatDoor
set_option linter.unusedSimpArgs false
set_option linter.unusedVariables false
open Go.Proofs.YtdieogcemmnaaaaGreatDoor RX
set_option maxRecDepth 100000

/-! A map that counts. -/
def CM (b : Nat) (f : Int → Int) : HP := HP.ex fun l : AL Int => HP.ex fun c : Nat => HP.and (∀ k, (alFind k l).getD (.int .i64 0) = .int .i64 (f k)) (HP.one b (mapObj i64v l c))
theorem undII : Tryz.prog.underlying 252 = some (.map 3 3) := by kernel_rfl
theorem CM.init {b : Nat} {R h : PH} (H : (HP.one b (.map #[] 0)).p R h) : (CM b fun _ => 0).p R h := ⟨[], 0, fun _ => rfl, H⟩
theorem cm_look (b : Nat) (f : Int → Int) (k : Int) : ORead Tryz.prog (lookS 252 (.map (some b)) (.int .i64 k) false) (CM b f) (.int .i64 (f k)) := fun w R h F s ⟨l, c, hk, hh⟩ => by
  obtain ⟨i, hi, z1, _, _⟩ := info_parts infoInt
  have := look_ok (c := c) (l := l) kInt' undII hi z1 k false (r := b) (A := HP.one b (mapObj i64v l c)) (fun R h H => H) w R h F s hh
  rw [if_neg (by simp), hk k] at this
  exact this
theorem cm_upd (b : Nat) (f : Int → Int) (k v : Int) : OTri Tryz.prog (updS 252 (.map (some b)) (.int .i64 k) (.int .i64 v)) (CM b f) (fun x => HP.and (x = .tuple #[]) (CM b fun q => if q = k then v else f q)) := by
  refine (OTri.exI fun l => OTri.exI fun c => OTri.pureI fun hk => ?_)
  refine (upd_ok (c := c) (l := l) kInt' undII k (.int .i64 v) (r := b)).weak (fun _ _ h => h) ?_
  rintro x R h ⟨rfl, H⟩
  refine ⟨rfl, _, _, fun q => ?_, H⟩
  rw [alFind_put]
  by_cases e : q = k
  · rw [if_pos e]; simp [e]
  · rw [if_neg e]; simp only [if_neg e]; exact hk q
/-! The plain form. -/
def cntL (L : List (Nm × Nat)) (q : Int) : Int := ((L.countP fun e => decide ((e.2 : Int) = q) : Nat) : Int)
def wl1 (T1 : List Nd) (n : Nd) : Nd := if n.kind = 2 ∧ cntL (T1.flatMap (·.ents)) n.num % 65536 = n.links then { n with links := cntL (T1.flatMap (·.ents)) n.num } else n
def wlS (T1 : List Nd) : List Nd := T1.map (wl1 T1)
theorem cntL_snoc (L : List (Nm × Nat)) (e : Nm × Nat) : cntL (L ++ [e]) = fun q => if q = (e.2 : Int) then cntL L e.2 + 1 else cntL L q := by
  funext q
  unfold cntL
  rw [List.countP_append]
  by_cases h : q = (e.2 : Int)
  · subst h; simp
  · rw [if_neg h]; simp [Ne.symm h]
theorem cntL_le (L : List (Nm × Nat)) (q : Int) : 0 ≤ cntL L q ∧ cntL L q ≤ L.length := by
  unfold cntL
  have := List.countP_le_length (p := fun e : Nm × Nat => decide ((e.2 : Int) = q)) (l := L)
  omega
/-! Loads through rows of nodes of one's own. -/
theorem ldNodeO {a : Option Addr} {n c k : Nat} {es : List NodeE} {x : NodeE} (hk : es[k]? = some x) : ORead Tryz.prog (loadS 43 (.pointer (a.map fun y => (y.add (k * 5)).add 0))) (OwN a n c es) (.agg (nodeVs x).toArray) := fun w R h F s H => by
  refine loadN_ok (vs := nodeVs x) Tryz.underlying43 aggNo (OwC.rd 43 5 a n c (es.flatMap nodeVs)) (k := k * 5) (off := 0) szNo (Nat.succ_pos 4) (fun j v hj => ?_) w R h F s H.1
  have hlt : j < 5 := by have := (List.getElem?_eq_some_iff.1 hj).1; exact this
  rw [Nat.add_zero, flat_getL nodeVs 5 (fun _ => rfl) es k j x hk hlt]
  exact hj
theorem ldEntO {a : Option Addr} {n c k : Nat} {es : List NodeE} {x : NodeE} (hx : x ∈ es) {e : Nm × Nat} (hk : x.nd.ents[k]? = some e) : ORead Tryz.prog (loadS 140 (.pointer (x.ea.map fun y => (y.add (k * 2)).add 0))) (OwN a n c es) (.agg #[sE e.1, .int .i64 e.2]) := fun w R h F s H =>
  Ls.load (K := kEnt) Tryz.underlying140 aggEn szEn hk w R h F s (H.2 x hx).2
def setLk (x : NodeE) (v : Int) : NodeE := { x with nd := { x.nd with links := v } }
theorem set_same {α : Type} : ∀ (l : List α) (k : Nat) (x : α), l[k]? = some x → l.set k x = l
  | [], _, _, h => by cases h
  | y :: r, 0, x, h => by simp at h; subst h; rfl
  | y :: r, k + 1, x, h => by rw [List.set_cons_succ, set_same r k x (by simpa using h)]
theorem flat_lk (v : Int) (x : NodeE) : ∀ (es : List NodeE) (k : Nat), es[k]? = some x → (es.flatMap nodeVs).take (k * 5 + 2) ++ [.int .i64 v] ++ (es.flatMap nodeVs).drop (k * 5 + 2 + 1) = (es.set k (setLk x v)).flatMap nodeVs
  | [], _, h => by cases h
  | y :: r, 0, h => by
    simp at h; subst h
    simp [nodeVs, setLk]
  | y :: r, k + 1, h => by
    have ih := flat_lk v x r k (by simpa using h)
    have e1 : (k + 1) * 5 + 2 = (k * 5 + 2) + 1 + 1 + 1 + 1 + 1 := by omega
    rw [e1]
    simp only [List.flatMap_cons, List.set_cons_succ, nodeVs, List.cons_append, List.nil_append, List.take_succ_cons, List.drop_succ_cons]
    rw [← ih]
theorem stO {a : Option Addr} {n c k : Nat} {es : List NodeE} {x : NodeE} (hk : es[k]? = some x) (hn : es.length = n) (v : Int) : OTri Tryz.prog (storeS 3 (.pointer (a.map fun y => (y.add (k * 5)).add 2)) (.int .i64 v)) (OwN a n c es)
    (fun r => HP.and (r = .tuple #[]) (OwN a n c (es.set k (setLk x v)))) := by
  obtain ⟨i, hi, z1, z2, _⟩ := info_parts infoInt
  have hlt := (List.getElem?_eq_some_iff.1 hk).1
  have := store_ok hi 43 5 a n c (es.flatMap nodeVs) (k * 5) 2 (.int .i64 v) [.int .i64 v] rfl (by rw [z2]; rfl) (Nat.succ_pos 0) (fun u hu => by simp at hu; subst hu; rfl) (by simp; omega)
  refine this.conseq (K := AllN es) (.of fun R h H => ⟨h, PH.none', PH.dj_none _, PH.le.refl _, PH.none_le _, H.1, fun z hz => nodeHp_pers _ _ _ _ (H.2 z hz)⟩) fun r => .of fun R h H => ?_
  have hK := HP.sep_right H
  obtain ⟨rfl, H1⟩ := HP.sep_left H
  refine ⟨rfl, ?_, fun z hz => ?_⟩
  · rw [← flat_lk v x es k hk]; exact H1
  · rcases List.mem_or_eq_of_mem_set hz with h | h
    · exact hK z h
    · subst h
      have := hK x (List.mem_of_getElem? hk)
      exact this
def updN (T1 : List Nd) (x : NodeE) : NodeE := { x with nd := wl1 T1 x.nd }
theorem wholeLinks_ok (a : Option Addr) (c : Nat) (es : List NodeE) (hT : ((es.map (·.nd)).flatMap (·.ents)).length ≤ 1000000000000) (hn : es.length ≤ 1000000000) :
    Tri Tryz.prog 90 #[.slice a es.length c] (OwN a es.length c es) (fun v => HP.and (v = .tuple #[]) (HP.ex fun es' : List NodeE => HP.and (es'.map (·.nd) = wlS (es.map (·.nd)) ∧ es'.length = es.length) (OwN a es.length c es'))) := by
  refine Tri.fact (φ := (es.length ≠ 0 → a.isSome = true) ∧ ∀ x ∈ es, x.nd.ents.length ≠ 0 → x.ea.isSome = true) (fun R h H => ⟨fun hn => OwC.some H.1 (by omega), fun x hx hn => Ls.isSome (H.2 x hx).2 hn⟩) fun ⟨ha, hea⟩ => ?_
  refine tri_of_tree (ρ := [.a a, .n es.length, .n c, .p (OwN a es.length c es)]) mixed Tryz.func90 tree_wholeLinks ?_
  unfold t_wholeLinks
  simp only [T.den, E.prop, E.den, RX.look, F1.app, F2.app, Uni.int_i, Uni.nat_n, Uni.bool_c, Uni.str_s, Uni.adr_a, Uni.val_v, Uni.hp_p, hden, cden, V.den, W.den, A.den, BR.den, SA.den, FV.den, capV, exs, exP, allP, Cur.app, List.map_cons, List.map_nil, List.cons_append, List.nil_append, List.drop_succ_cons, List.drop_zero, List.length_cons, List.length_nil, Nat.zero_add, Nat.reduceAdd, Int.neg_neg, Bool.not_not, List.append_nil, Nat.add_zero, List.getElem?_cons_zero, List.getElem?_cons_succ, Decidable.not_not, semW_eq, semW_load, semW_store, semW_storeC, semW_append, semW_lookup, semW_lookupC, semW_update, semW_updateC, semW_updateK, semW_delete, semW_range, semW_next, semW_entry, semW_nil, ne_eq, Nat.reduceEqDiff, not_false_eq_true]
  intro b
  refine ⟨fun k p => ∃ j : Nat, k = j ∧ j ≤ es.length ∧ HP.ent p (CM b (cntL (((es.map (·.nd)).take j).flatMap (·.ents)))), fun k _ => es.length - k.toNat, ⟨0, rfl, Nat.zero_le _, .of fun R h H => CM.init H⟩, ?_⟩
  rintro k p ⟨j, rfl, hj, hp⟩
  refine ⟨fun hlt => ⟨by omega, fun _ => ⟨ha (by omega), fun _ => ?_⟩⟩, fun hge => ?_⟩
  · have hlt' : j < es.length := by omega
    have hltm : j < (es.map (·.nd)).length := by simpa using hlt'
    have hg : (es.map (·.nd))[j] = es[j].nd := by simp
    have hm := List.getElem_mem hlt'
    refine ⟨_, _, _, _, _, _, _, _, _, ldNodeO (List.getElem?_eq_getElem hlt'), fun y => ?_⟩
    have hfl := take_flat (fun n : Nd => n.ents) (es.map (·.nd)) j hltm
    have hle := take_flat_le (fun n : Nd => n.ents) (es.map (·.nd)) (j + 1)
    rw [hfl, hg, List.length_append] at hle
    rw [hg] at hfl
    refine ⟨fun k p => ∃ i : Nat, k = i ∧ i ≤ es[j].nd.ents.length ∧ HP.ent p (CM b (cntL (((es.map (·.nd)).take j).flatMap (·.ents) ++ es[j].nd.ents.take i))), fun k _ => es[j].nd.ents.length - k.toNat, ⟨0, rfl, Nat.zero_le _, by simpa using hp⟩, ?_⟩
    rintro k p ⟨i, rfl, hi, hp⟩
    refine ⟨fun hlt2 => ⟨by omega, fun _ => ⟨hea _ hm (by omega), fun _ => ?_⟩⟩, fun hge2 => ?_⟩
    · have hlt2' : i < es[j].nd.ents.length := by omega
      refine ⟨es[j].nd.ents[i].1, (es[j].nd.ents[i].2 : Int), ldEntO hm (List.getElem?_eq_getElem hlt2'), fun z => ?_⟩
      have hc := cntL_le (((es.map (·.nd)).take j).flatMap (·.ents) ++ es[j].nd.ents.take i) es[j].nd.ents[i].2
      have hlen : (((es.map (·.nd)).take j).flatMap (·.ents) ++ es[j].nd.ents.take i).length ≤ 1000000000000 := by
        rw [List.length_append, List.length_take]; omega
      refine ⟨_, (cm_look b _ _).ent hp, inI64 _ (by omega) (by omega), fun _ => ?_⟩
      refine (cm_upd b _ es[j].nd.ents[i].2 (cntL (((es.map (·.nd)).take j).flatMap (·.ents) ++ es[j].nd.ents.take i) es[j].nd.ents[i].2 + 1)).conseq (hp.trans (.of fun _ _ => HP.sep_tt)) fun v => .of fun R h H => ?_
      obtain ⟨rfl, H1⟩ := HP.sep_left H
      refine ⟨_, rfl, ⟨inI64 _ (by omega) (by omega), fun _ => ⟨⟨i + 1, by omega, by omega, ?_⟩, by dsimp only; omega⟩⟩, H1⟩
      rw [List.take_succ_eq_append_getElem hlt2', ← List.append_assoc, cntL_snoc]
      exact HP.ent.refl _
    · obtain rfl : i = es[j].nd.ents.length := by omega
      refine ⟨inI64 _ (by omega) (by omega), fun _ => ⟨⟨j + 1, by omega, by omega, ?_⟩, by dsimp only; omega⟩⟩
      rw [hfl]
      rw [List.take_length] at hp
      exact hp
  · obtain rfl : j = es.length := by omega
    have e0 : (es.map (·.nd)).take es.length = es.map (·.nd) := List.take_of_length_le (by simp)
    rw [e0] at hp
    refine ⟨fun k q => ∃ j : Nat, k = j ∧ j ≤ es.length ∧ HP.ent q (OwN a es.length c ((es.map (updN (es.map (·.nd)))).take j ++ es.drop j)), fun k _ => es.length - k.toNat, ⟨0, rfl, Nat.zero_le _, by simpa using HP.ent.refl _⟩, ?_⟩
    rintro k q ⟨j, rfl, hj, hq⟩
    refine ⟨fun hlt => ⟨by omega, fun _ => ⟨ha (by omega), fun _ => ?_⟩⟩, fun hge => ?_⟩
    · have hlt' : j < es.length := by omega
      have hlm : ((es.map (updN (es.map (·.nd)))).take j).length = j := by rw [List.length_take, List.length_map]; omega
      have hget : ((es.map (updN (es.map (·.nd)))).take j ++ es.drop j)[j]? = some es[j] := by
        rw [List.getElem?_append_right (by omega), hlm, Nat.sub_self, List.getElem?_drop, Nat.add_zero, List.getElem?_eq_getElem hlt']
      have hall : ((es.map (updN (es.map (·.nd)))).take j ++ es.drop j).length = es.length := by rw [List.length_append, hlm, List.length_drop]; omega
      have hnext : ∀ y : NodeE, y = updN (es.map (·.nd)) es[j] → ((es.map (updN (es.map (·.nd)))).take j ++ es.drop j).set j y = (es.map (updN (es.map (·.nd)))).take (j + 1) ++ es.drop (j + 1) := fun y hy => by
        rw [List.set_append_right _ _ (by omega), hlm, Nat.sub_self, List.drop_eq_getElem_cons hlt', List.set_cons_zero, List.take_succ_eq_append_getElem (by simpa using hlt'), List.append_assoc, hy]
        simp
      have hstay : wl1 (es.map (·.nd)) es[j].nd = es[j].nd → (es.map (updN (es.map (·.nd)))).take j ++ es.drop j = (es.map (updN (es.map (·.nd)))).take (j + 1) ++ es.drop (j + 1) := fun hw => by
        rw [← hnext es[j] (by unfold updN; rw [hw])]
        exact (set_same _ _ _ hget).symm
      refine ⟨_, _, _, _, _, _, _, _, _, (ldNodeO hget).ent hq, fun y => ?_⟩
      have again : wl1 (es.map (·.nd)) es[j].nd = es[j].nd → ∃ j' : Nat, (j : Int) + 1 = j' ∧ j' ≤ es.length ∧ HP.ent q (OwN a es.length c ((es.map (updN (es.map (·.nd)))).take j' ++ es.drop j')) := fun hw => ⟨j + 1, by omega, by omega, by rw [← hstay hw]; exact hq⟩
      refine ⟨fun hk => ⟨_, (cm_look b _ _).ent hp, fun he => ⟨_, (cm_look b _ _).ent hp, ?_⟩, fun he => ⟨inI64 _ (by omega) (by omega), fun _ => ⟨again ?_, by dsimp only; omega⟩⟩⟩, fun hk => ⟨inI64 _ (by omega) (by omega), fun _ => ⟨again ?_, by dsimp only; omega⟩⟩⟩
      · rw [andffff] at he
        refine (stO hget hall _).conseq (hq.trans (.of fun _ _ => HP.sep_tt)) fun v => .of fun R h H => ?_
        obtain ⟨rfl, H1⟩ := HP.sep_left H
        refine ⟨_, rfl, ⟨inI64 _ (by omega) (by omega), fun _ => ⟨⟨j + 1, by omega, by omega, ?_⟩, by dsimp only; omega⟩⟩, H1⟩
        rw [hnext _ (by unfold updN setLk wl1; rw [if_pos ⟨hk, he⟩])]
        exact HP.ent.refl _
      · rw [andffff] at he
        unfold wl1; rw [if_neg (fun h => he h.2)]
      · unfold wl1; rw [if_neg (fun h => hk h.1)]
    · obtain rfl : j = es.length := by omega
      refine hq.trans (.of fun R h H => ⟨trivial, es.map (updN (es.map (·.nd))), ⟨?_, by simp⟩, ?_⟩)
      · rw [List.map_map]; unfold wlS; rw [List.map_map]; rfl
      · rw [List.take_of_length_le (by simp), List.drop_length, List.append_nil] at H; exact H
end Go.Proofs.YtdieogcemmnaaaaGreatDoor


/- Trees of functions, printed by rx.lean. No condition. -/
namespace Go.Proofs.YtdieogcemmnaaaaGreatDoor.RX
set_option maxRecDepth 100000
-- tideline/tidelinelaw04.speaks: ρ := []
end Go.Proofs.YtdieogcemmnaaaaGreatDoor.RX


/- Types that came in. No condition. -/
namespace Go.Proofs.YtdieogcemmnaaaaGreatDoor
open Go.RowKit Go.ChangeShapes Go.WideShapes Go.Deep RX
set_option maxRecDepth 100000
set_option linter.unusedVariables false
set_option linter.unusedSimpArgs false

structure CallE where
  kind : Int
  path : List UInt8
  other : List UInt8
  off : Int
  n : Int
  data : List UInt8
  da : Option Addr
  dc : Nat
abbrev CallE.vals (x : CallE) : List Value := [.int .i64 x.kind, .string ⟨x.path.toArray⟩, .string ⟨x.other.toArray⟩, .int .i64 x.off, .int .i64 x.n, .slice x.da x.data.length x.dc]
def CallE.hp (x : CallE) : HP := HP.both (HP.pure (okI x.kind)) (HP.both (HP.pure (x.path.length ≤ 9223372036854775807)) (HP.both (HP.pure (x.other.length ≤ 9223372036854775807)) (HP.both (HP.pure (okI x.off)) (HP.both (HP.pure (okI x.n)) (HP.and (x.data.length ≤ 140737488355328) (RoB x.da x.data.length x.data))))))
theorem CallE.pers (x : CallE) (R h h' : PH) (H : (x.hp).p R h) : (x.hp).p R h' := ⟨H.1, ⟨H.2.1, ⟨H.2.2.1, ⟨H.2.2.2.1, ⟨H.2.2.2.2.1, H.2.2.2.2.2⟩⟩⟩⟩⟩
instance : Inhabited CallE := ⟨⟨0, [], [], 0, 0, [], none, 0⟩⟩
def kCallE : Kind CallE := ⟨6, by decide, CallE.vals, fun _ => rfl, CallE.hp, CallE.pers⟩
theorem CallE.of_trod {H : Type} {enc : TypeId × Value → H} {w : World} {cs : List Value} {n : Nat} {x : DataW H × List MemPlace} (h : DataW.trod enc Tryz.prog w 0 (fun _ => true) true n 34 cs = some x) (hs : Small Tryz.prog 34 x.1) : ∃ m : CallE, cs = kCallE.vals m ∧ ∀ h, (kCallE.hp m).p (allOf w) h := by
  obtain ⟨xs0, n0, _, hx0, hl0, hxl0, hf0⟩ := DataW.trod_struct Tryz.underlying34 h
  replace hxl0 : xs0.length = 6 := hxl0
  have hs0 : Small Tryz.prog 34 (.agg (xs0.map (·.1))) := by
    have e := hx0
    first | (subst e; exact hs) | (rw [e] at hs; exact hs) | (have e2 := congrArg Prod.fst e; rw [← e2]; exact hs) | (rw [← e]; exact hs)
  obtain ⟨c0, e0, w0⟩ := field_int Tryz.underlying3 (show 0 < xs0.length by omega) (by kernel_rfl) (hf0 0 _ rfl)
  obtain ⟨c1, e1, w1⟩ := field_str Tryz.underlying9 (show 1 < xs0.length by omega) (by kernel_rfl) (hf0 1 _ rfl)
  obtain ⟨c2, e2, w2⟩ := field_str Tryz.underlying9 (show 2 < xs0.length by omega) (by kernel_rfl) (hf0 2 _ rfl)
  obtain ⟨c3, e3, w3⟩ := field_int Tryz.underlying3 (show 3 < xs0.length by omega) (by kernel_rfl) (hf0 3 _ rfl)
  obtain ⟨c4, e4, w4⟩ := field_int Tryz.underlying3 (show 4 < xs0.length by omega) (by kernel_rfl) (hf0 4 _ rfl)
  obtain ⟨a5, l5, k5, e5⟩ := field_slice Tryz.underlying28 (show 5 < xs0.length by omega) (by kernel_rfl) (hf0 5 _ rfl)
  have q5 := hf0 5 _ rfl
  rw [List.getElem?_eq_getElem (show 5 < xs0.length by omega)] at q5
  have g5 : DataW.trod enc Tryz.prog w 0 (fun _ => true) true n0 28 [.slice a5 l5 k5] = some xs0[5] := by
    rw [← take1' e5]
    exact q5
  have s5 : Small Tryz.prog 28 xs0[5].1 := Small.part (i := 5) hs0 Tryz.underlying34 rfl (by rw [List.getElem?_map, List.getElem?_eq_getElem (show 5 < xs0.length by omega)]; rfl)
  obtain ⟨b5, d5, m5, r5, y5, z5⟩ := bytes_of_trod g5 s5
  simp only [Value.slice.injEq] at r5
  obtain ⟨rfl, rfl, rfl⟩ := r5
  have hlen : cs.length = 6 := hl0.trans (by kernel_rfl)
  refine ⟨⟨c0, c1, c2, c3, c4, d5, a5, k5⟩, ?_, fun hh => ⟨int_wf w0, ⟨w1, ⟨w2, ⟨int_wf w3, ⟨int_wf w4, ⟨y5, z5 hh⟩⟩⟩⟩⟩⟩⟩
  clear h hl0 hf0 q5 g5 s5
  revert e0 e1 e2 e3 e4 e5
  match cs, hlen with
  | [u0, u1, u2, u3, u4, u5], _ =>
    intro e0
    obtain rfl : u0 = .int _ c0 := Option.some.inj e0
    intro e1
    obtain rfl : u1 = .string ⟨c1.toArray⟩ := Option.some.inj e1
    intro e2
    obtain rfl : u2 = .string ⟨c2.toArray⟩ := Option.some.inj e2
    intro e3
    obtain rfl : u3 = .int _ c3 := Option.some.inj e3
    intro e4
    obtain rfl : u4 = .int _ c4 := Option.some.inj e4
    intro e5
    obtain rfl : u5 = .slice a5 d5.length k5 := Option.some.inj e5
    rfl
theorem CallE.load {a : Option Addr} {n : Nat} {l : List CallE} {k : Nat} {x : CallE} (hk : l[k]? = some x) : ORead Tryz.prog (loadS 34 (.pointer (a.map fun y => (y.add ((k : Int).toNat * 6)).add 0))) (Ls kCallE a n l) (.agg x.vals.toArray) := by
  obtain ⟨d, hd⟩ : ∃ d, Tryz.prog.underlying 34 = some d := Option.isSome_iff_exists.1 (by kernel_rfl)
  exact Ls.load (K := kCallE) hd (by kernel_rfl) (by kernel_rfl) hk

end Go.Proofs.YtdieogcemmnaaaaGreatDoor


/- Law 4: calls as they come in; Do as laws call it; speaks, Great. No condition. -/
namespace Go.Proofs.YtdieogcemmnaaaaGreatDoor
set_option linter.unusedSimpArgs false
set_option linter.unusedVariables false
open Go.Proofs.YtdieogcemmnaaaaGreatDoor RX
set_option maxRecDepth 100000

def CallE.m (x : CallE) : CallM := ⟨x.kind, x.path, x.other, x.off, x.n, x.da, x.data.length, x.dc⟩
variable {b : Nat} {t : TS}
def doC (T : List Nd) (c : CallM) (d : List UInt8) : List Nd × AnsM := doS T c.kind c.path c.other c.off c.n d
theorem undNode : ∃ d, Tryz.prog.underlying 43 = some d := Option.isSome_iff_exists.1 (by kernel_rfl)
theorem aggNode : aggT Tryz.prog 43 = true := by kernel_rfl
theorem szNode : szT Tryz.prog 43 = 5 := by kernel_rfl
theorem Ls.some {α : Type} {K : Kind α} {a : Option Addr} {n : Nat} {l : List α} {R h : PH} (H : (Ls K a n l).p R h) (hn : n ≠ 0) : a.isSome = true := by
  exact RoC.some H.2.1 (Nat.pos_of_ne_zero hn)
theorem loadNode {a : Option Addr} {n : Nat} {l : List NodeE} {k : Nat} {x : NodeE} (hk : l[k]? = some x) : ORead Tryz.prog (loadS 43 (.pointer (a.map fun y => (y.add (k * 5)).add 0))) (Ls kNode a n l) (.agg (nodeVs x).toArray) := by
  obtain ⟨d, hd⟩ := undNode
  exact Ls.load (K := kNode) hd aggNode szNode hk
end Go.Proofs.YtdieogcemmnaaaaGreatDoor


/- Arrays in blocks of their own; a byte of a text; texts compared. No condition. -/
namespace Go.Proofs.YtdieogcemmnaaaaGreatDoor
open Go.Proofs.YtdieogcemmnaaaaGreatDoor RX
set_option maxRecDepth 100000

def idxS (t : TypeId) (u v : Value) : Sem Next := do pure (.value (← Instr.indexAt t u v))
theorem semW_ix {t ty : TypeId} {i j : Nat} {u v : Value} (h : i ≠ j) : semW (.indexAddr t (.tmp i) (.tmp j)) ty [(i, u), (j, v)] = idxS t u v := by
  have h' : (i == j) = false := by simpa using h
  simp [semW, execOp, arW, h', idxS]
theorem arIx {t el : TypeId} {n : Nat} (ht : Tryz.prog.underlying t = some (.array n el)) (hi : (Tryz.prog.info? el).isSome = true) (hz : szT Tryz.prog el = 1) {b k : Nat} {x : Int} (hx : x = k) (hk : k < n) {A : HP} :
    ORead Tryz.prog (idxS t (.pointer (some ⟨b, 0, none⟩)) (.int .i64 x)) A (.pointer (some ⟨b, k, none⟩)) := fun w R h F s _ => by
  obtain ⟨i, hi⟩ := Option.isSome_iff_exists.1 hi
  subst hx
  unfold idxS
  rw [Sem.run_bind, RX.run_indexAt_array ht hi (by omega) (by omega), hz]
  simp [addr_add]
/-- A block that holds an array. -/
def Ar (e : TypeId) (b : Nat) (vs : List Value) : HP := HP.one b (.cells vs.toArray e (0, 0))
theorem Ar.rd {e : TypeId} {b : Nat} {vs : List Value} : Rd (Ar e b vs) (some ⟨b, 0, none⟩) vs := fun w R h F s H j u hj => by
  refine ⟨b, 0, rfl, ?_⟩
  have := s.oh b _ H
  rw [cell_at this]
  simpa using hj
theorem arLd {t e : TypeId} {d : TypeDesc} (hd : Tryz.prog.underlying t = some d) (ha : aggT Tryz.prog t = false) (hz : szT Tryz.prog t = 1) {b k : Nat} {vs : List Value} {v : Value} (hk : vs[k]? = some v) :
    ORead Tryz.prog (loadS t (.pointer (some ⟨b, k, none⟩))) (Ar e b vs) v := by
  have := load1_ok hd ha hz (Ar.rd (e := e) (b := b) (vs := vs)) (k := k) (off := 0) (by simpa using hk)
  simpa [addr_add] using this
theorem arSt {t e : TypeId} {i : TypeInfo} (hi : Tryz.prog.info? t = some i) (hz : i.size = 1) {b k : Nat} {vs : List Value} {x : Value} (hx : x.cells = #[x]) (h1 : x.oneCell' = true) (hk : k < vs.length) :
    OTri Tryz.prog (storeS t (.pointer (some ⟨b, k, none⟩)) x) (Ar e b vs) (fun v => HP.and (v = .tuple #[]) (Ar e b (vs.set k x))) := by
  have := storeOne_ok hi e b vs.toArray k x [x] (by rw [hx]) (by simp [hz]) (by simp) (by simpa using h1) (by simp; omega) (by unfold maxLen; omega)
  refine this.weak (fun _ _ h => h) ?_
  rintro v R h ⟨rfl, H⟩
  refine ⟨rfl, ?_⟩
  unfold Ar
  rw [List.set_eq_take_append_cons_drop, if_pos hk]
  simpa using H
/-- An array as a function of its places. -/
def arF (m : Nat) (f : Nat → Value) : List Value := (List.range m).map f
theorem arF_get {m : Nat} {f : Nat → Value} {k : Nat} (h : k < m) : (arF m f)[k]? = some (f k) := by
  unfold arF
  rw [List.getElem?_map, List.getElem?_range h]; rfl
theorem arF_len (m : Nat) (f : Nat → Value) : (arF m f).length = m := by simp [arF]
theorem arF_set {m : Nat} {f : Nat → Value} {k : Nat} {v : Value} (h : k < m) : (arF m f).set k v = arF m fun j => if j = k then v else f j := by
  refine List.ext_getElem? fun j => ?_
  rw [List.getElem?_set, arF_len]
  by_cases hj : j < m
  · rw [arF_get hj, arF_get hj]
    by_cases e : k = j
    · subst e; rw [if_pos rfl, if_pos h, if_pos rfl]
    · rw [if_neg e, if_neg (Ne.symm e)]
  · rw [List.getElem?_eq_none (by rw [arF_len]; omega)]
    by_cases e : k = j
    · omega
    · rw [if_neg e, List.getElem?_eq_none (by rw [arF_len]; omega)]
theorem arF_congr {m : Nat} {f g : Nat → Value} (h : ∀ j < m, f j = g j) : arF m f = arF m g := List.map_congr_left fun j hj => h j (List.mem_range.1 hj)
/-! texts -/
end Go.Proofs.YtdieogcemmnaaaaGreatDoor


/- tree.loaded: a node, if it may be one as far as it tells by itself. No condition. -/
namespace Go.Proofs.YtdieogcemmnaaaaGreatDoor
set_option linter.unusedSimpArgs false
set_option linter.unusedVariables false
open Go.Proofs.YtdieogcemmnaaaaGreatDoor RX
set_option maxRecDepth 100000

def okE : Nm → List (Nm × Nat) → Bool
  | _, [] => true
  | last, e :: r => nameOk e.1 && decide (last < e.1) && okE e.1 r
def goodS (n : Nd) : Bool := if n.kind = 1 then decide (n.data = []) && decide (n.links = 1) && okE [] n.ents else if n.kind = 2 then decide (n.data.length ≤ 512) && decide (n.ents = []) else false
theorem leqStr {t ty u : TypeId} {i j : Nat} (h : i ≠ j) (hg : Tryz.prog.eqGuardType Tryz.prog.depth t = false) {x y : List UInt8} {A : HP} :
    ORead Tryz.prog (semW (.binOp .leq t (.tmp i) (.tmp j) u) ty [(i, .string ⟨x.toArray⟩), (j, .string ⟨y.toArray⟩)]) A (.bool (!decide (y < x))) := fun w R hh F st _ => by
  have h' : (i == j) = false := by simpa using h
  simp only [semW, execOp, arW, List.find?_cons, beq_self_eq_true, h']
  have : Op.bytesLess y x = decide (y < x) := bytesLess_eq y x
  have this2 : Op.bytesLess x y = decide (x < y) := bytesLess_eq x y
  have e : (Op.bytesLess x y || x == y) = !decide (y < x) := by
    rw [this2]
    by_cases h : y < x
    · have h1 : ¬ x < y := List.lt_asymm h
      have h2 : x ≠ y := fun e => by subst e; exact h1 h
      simp [h, h1, h2]
    · rcases List.le_iff_lt_or_eq.1 (show x ≤ y from h) with h1 | h1
      · simp [h, h1]
      · subst h1; simp [h]
  simp [eqGuard, binOp, Op.stringOp, hg, program, Sem.run_bind, Sem.run, Result.andThen, e]
theorem okE_lt : ∀ {last : Nm} {l : List (Nm × Nat)}, okE last l = true → (∀ e ∈ l, last < e.1) ∧ (l.map (·.1)).Pairwise (· < ·) ∧ ∀ e ∈ l, nameOk e.1 = true
  | _, [], _ => ⟨fun _ h => (by cases h), List.Pairwise.nil, fun _ h => (by cases h)⟩
  | last, e :: r, h => by
    unfold okE at h
    simp only [Bool.and_eq_true, decide_eq_true_eq] at h
    obtain ⟨⟨h1, h2⟩, h3⟩ := h
    obtain ⟨g1, g2, g3⟩ := okE_lt h3
    refine ⟨fun x hx => ?_, ?_, fun x hx => ?_⟩
    · rcases List.mem_cons.1 hx with rfl | hx
      · exact h2
      · exact List.lt_trans h2 (g1 x hx)
    · rw [List.map_cons, List.pairwise_cons]
      exact ⟨fun y hy => by obtain ⟨x, hx, rfl⟩ := List.mem_map.1 hy; exact g1 x hx, g2⟩
    · rcases List.mem_cons.1 hx with rfl | hx
      · exact h1
      · exact g3 x hx
theorem nodup_of' {l : List Nm} (h : l.Pairwise (· < ·)) : l.Nodup := h.imp fun {a b} hab e => by subst e; exact List.lt_irrefl a hab
theorem lk_rev {l : List (Nm × Nat)} (h : (l.map (·.1)).Nodup) (k : Nm) : lk l.reverse k = lk l k := by
  have hr : (l.reverse.map (·.1)).Nodup := by rw [List.map_reverse]; exact (List.reverse_perm _).symm.nodup h
  cases e : lk l k with
  | some n =>
    have := lk_of_mem hr (List.mem_reverse.2 (lk_mem e))
    exact this
  | none =>
    cases e2 : lk l.reverse k with
    | none => rfl
    | some n =>
      have := lk_of_mem h (List.mem_reverse.1 (lk_mem e2))
      dsimp only at this
      rw [e] at this; cases this
theorem entPut6 (mb : Nat) (es : List (Nm × Nat)) (e : Nm × Nat) : OTri Tryz.prog (updS 131 (.map (some mb)) (sE e.1) (.int .i64 e.2)) (EntM mb es) (fun v => HP.and (v = .tuple #[]) (EntM mb (e :: es))) := by
  refine OTri.exI fun l => OTri.exI fun c => OTri.pureI fun ⟨hI, hk⟩ => ?_
  refine (upd_ok (r := mb) (l := l) (c := c) kStr' undEM e.1 (.int .i64 e.2)).weak (fun _ _ h => h) ?_
  rintro v R h ⟨rfl, H⟩
  refine ⟨rfl, _, _, ⟨hI.put e.1 _, fun q => ?_⟩, H⟩
  rw [alFind_put, hk]
  rw [show lk (e :: es) q = if q = e.1 then some e.2 else lk es q from rfl]
  by_cases he : q = e.1
  · rw [if_pos he, if_pos he]; rfl
  · rw [if_neg he, if_neg he]
def LdPost (x : NodeE) (v : Value) : HP := HP.ex fun y : HN => HP.and (y.p = x.nd ∧ v = if goodS x.nd = true then .pointer (some ⟨y.nb, 0, none⟩) else .pointer none) (if goodS x.nd = true then NRep y else HP.tt)
theorem loaded_ok (x : NodeE) (hn : x.nd.ents.length ≤ 1000000000) : Tri Tryz.prog 160 #[.agg (nodeVs x).toArray] (HP.sep (RoB x.da x.nd.data.length x.nd.data) (Ls kEnt x.ea x.nd.ents.length x.nd.ents)) (LdPost x) := by
  refine Tri.fact (φ := (x.nd.data.length ≠ 0 → x.da.isSome = true) ∧ (x.nd.ents.length ≠ 0 → x.ea.isSome = true)) (fun R h H => ⟨fun hn => RoC.some (HP.sep_left H) (by omega), fun hn => Ls.isSome (HP.sep_right H) hn⟩) fun ⟨hda, hea⟩ => ?_
  refine tri_of_tree (ρ := [.i x.nd.num, .i x.nd.kind, .i x.nd.links, .a x.da, .n x.nd.data.length, .n x.dc, .p (RoB x.da x.nd.data.length x.nd.data), .a x.ea, .n x.nd.ents.length, .n x.ec, .p (Ls kEnt x.ea x.nd.ents.length x.nd.ents)]) mixed Tryz.func160 tree_tLoaded ?_
  unfold t_tLoaded
  simp only [T.den, E.prop, E.den, RX.look, F1.app, F2.app, Uni.int_i, Uni.nat_n, Uni.bool_c, Uni.str_s, Uni.adr_a, Uni.val_v, Uni.hp_p, hden, cden, V.den, W.den, A.den, BR.den, SA.den, FV.den, capV, exs, exP, allP, Cur.app, List.map_cons, List.map_nil, List.cons_append, List.nil_append, List.drop_succ_cons, List.drop_zero, List.length_cons, List.length_nil, Nat.zero_add, Nat.reduceAdd, Int.neg_neg, Bool.not_not, List.append_nil, Nat.add_zero, List.getElem?_cons_zero, List.getElem?_cons_succ, Decidable.not_not, semW_eq, semW_load, semW_store, semW_storeC, semW_append, semW_lookup, semW_lookupC, semW_update, semW_updateC, semW_updateK, semW_delete, semW_range, semW_next, semW_entry, semW_nil, ne_eq, Nat.reduceEqDiff, not_false_eq_true]
  have bad : ∀ {A : HP}, goodS x.nd = false → HP.ent A (LdPost x (.pointer none)) := fun h => .of fun R hh H => ⟨⟨x.nd, 0, 0, none, 0⟩, ⟨rfl, by rw [h]; simp⟩, by rw [h]; trivial⟩
  intro u
  refine ⟨fun k1 => ?_, fun k1 => ⟨fun k2 => ?_, fun k2 => ?_⟩⟩
  · have k1' : x.nd.kind = 1 := k1
    refine ⟨fun hd => bad ?_, fun hd => ⟨fun hl => bad ?_, fun hl => ?_⟩⟩
    · unfold goodS; rw [if_pos k1']; have : x.nd.data ≠ [] := fun e => by rw [e] at hd; simp at hd
      simp [this]
    · unfold goodS; rw [if_pos k1']; simp [hl]
    · refine tDir_ok.weak (fun _ _ h => h) ?_
      rintro v R h ⟨nb, mb, rfl, H⟩
      refine ⟨nb, _, rfl, ?_, H⟩
      clear H
      have hd0 : x.nd.data = [] := List.eq_nil_of_length_eq_zero (by omega)
      have hgood : goodS x.nd = okE [] x.nd.ents := by unfold goodS; rw [if_pos k1', hd0, hl]; simp
      refine ⟨fun _ _ last k p => ∃ i : Nat, k = i ∧ i ≤ x.nd.ents.length ∧ okE [] x.nd.ents = okE last (x.nd.ents.drop i) ∧ HP.ent p (HP.sep (HP.one nb (.cells #[.int .i64 1, .int .i64 1, .slice none 0 0, .map (some mb)] 133 (0, 0))) (EntM mb (x.nd.ents.take i).reverse)),
        fun _ _ _ k _ => x.nd.ents.length - k.toNat, ⟨0, rfl, Nat.zero_le _, by simp, HP.ent.refl _⟩, ?_⟩
      rintro v q last k p ⟨i, rfl, hi, hok, hp⟩
      refine ⟨fun hlt => ⟨by omega, fun _ => ⟨hea (by omega), fun _ => ?_⟩⟩, fun hge => ?_⟩
      · have hlt' : i < x.nd.ents.length := by omega
        have hstep : okE last (x.nd.ents.drop i) = (nameOk x.nd.ents[i].1 && decide (last < x.nd.ents[i].1) && okE x.nd.ents[i].1 (x.nd.ents.drop (i + 1))) := by
          rw [List.drop_eq_getElem_cons hlt']; rfl
        refine ⟨x.nd.ents[i].1, (x.nd.ents[i].2 : Int), Ls.load (K := kEnt) Tryz.underlying140 aggEn szEn (List.getElem?_eq_getElem hlt'), fun z => ?_⟩
        refine (pName_ok x.nd.ents[i].1 HP.tt).weak (fun _ _ h => h) ?_
        rintro w R h ⟨rfl, H⟩
        refine ⟨_, rfl, ⟨fun hn => bad ?_, fun hn => ⟨_, leqStr (by decide) (by kernel_rfl), fun hle => bad ?_, fun hle => ?_⟩⟩, H⟩
        · rw [hgood, hok, hstep]; simp [hn]
        · rw [hgood, hok, hstep]; simp at hle; simp [List.not_lt.2 hle]
        · have hlt2 : last < x.nd.ents[i].1 := by simpa using hle
          refine ⟨mb, ORead.ent hp (ld1 (fun R h H => HP.sep_left H) undEM (by kernel_rfl) (by kernel_rfl) rfl), ?_⟩
          refine (entPut6 mb (x.nd.ents.take i).reverse x.nd.ents[i]).conseq (hp.trans (.of fun _ _ => HP.sep_comm)) fun w => .of fun R h H => ?_
          obtain ⟨rfl, _⟩ := HP.sep_left H
          refine ⟨_, rfl, ⟨inI64 _ (by omega) (by omega), fun _ => ⟨⟨i + 1, by omega, by omega, ?_, ?_⟩, by dsimp only; omega⟩⟩, HP.sep_comm (HP.sep_mono H (fun _ h => h.2) fun _ h => h)⟩
          · rw [hok, hstep, hn]; simp [hlt2]
          · rw [List.take_succ_eq_append_getElem hlt', List.reverse_append]
            exact HP.ent.refl _
      · obtain rfl : i = x.nd.ents.length := by omega
        rw [List.drop_length] at hok
        have hg : goodS x.nd = true := by rw [hgood, hok]; rfl
        rw [List.take_length] at hp
        refine (HP.ent.of fun R h H => HP.sep_right (HP.sep_right H)).trans (hp.trans (.of fun R h H => ⟨⟨x.nd, nb, mb, none, 0⟩, ⟨rfl, by rw [hg]; rfl⟩, ?_⟩))
        rw [if_pos hg]
        have hnd := nodup_of' (okE_lt (hgood.symm.trans hg)).2.1
        refine HP.sep_mono H (fun y hy => ?_) fun y hy => ?_
        · show y nb = _
          rw [k1', hl, hd0]
          unfold HN.mapo
          rw [if_pos k1']
          exact hy
        · refine HP.sep_mono (HP.tt_sep hy) (fun z _ => ?_) fun z hz => ?_
          · show (OwB none x.nd.data.length 0 x.nd.data).p R z
            rw [hd0]; exact OwC.nil _ _ R z
          · unfold EntR
            rw [if_pos k1']
            obtain ⟨l, c, ⟨hI, hk⟩, hz⟩ := hz
            exact ⟨l, c, ⟨hI, fun k => by rw [hk, lk_rev hnd]⟩, hz⟩
  · have k2' : x.nd.kind = 2 := k2
    have hk1 : ¬ x.nd.kind = 1 := k1
    refine ⟨fun hd => bad ?_, fun hd => ⟨fun he => bad ?_, fun he => ?_⟩⟩
    · unfold goodS; rw [if_neg hk1, if_pos k2']; simp; omega
    · unfold goodS; rw [if_neg hk1, if_pos k2']; have : x.nd.ents ≠ [] := fun e => by rw [e] at he; simp at he
      simp [this]
    · have he0 : x.nd.ents = [] := List.eq_nil_of_length_eq_zero (by omega)
      have hg : goodS x.nd = true := by unfold goodS; rw [if_neg hk1, if_pos k2', he0]; simp; omega
      refine (clone8_ok _ x.da _ x.dc x.nd.data (RdL.ro _ _ _ _) rfl (by omega)).weak (fun _ _ h => h) ?_
      rintro v R h ⟨a', c', rfl, H⟩
      refine ⟨a', _, c', _, _, rfl, fun nb => .of fun R h H => ?_, H⟩
      refine ⟨⟨x.nd, nb, 0, a', c'⟩, ⟨rfl, by rw [hg]; rfl⟩, ?_⟩
      rw [if_pos hg]
      refine HP.sep_mono (HP.sep_right (HP.sep_right H)) (fun y hy => ?_) fun y hy => ?_
      · show y nb = _
        rw [k2']
        unfold HN.mapo
        rw [if_neg hk1]
        exact hy
      · refine HP.sep_mono (HP.sep_tt hy) (fun z hz => hz) fun z _ => ?_
        unfold EntR
        rw [if_neg hk1]
        exact he0
  · exact bad (by unfold goodS; rw [if_neg k1, if_neg k2])
end Go.Proofs.YtdieogcemmnaaaaGreatDoor


/- tree.Load, told by what tree.whole answers. No condition. -/
namespace Go.Proofs.YtdieogcemmnaaaaGreatDoor
set_option linter.unusedSimpArgs false
set_option linter.unusedVariables false
open Go.Proofs.YtdieogcemmnaaaaGreatDoor RX
set_option maxRecDepth 100000

theorem eqlNilP {i : Nat} {t u ty : TypeId} {e : TypeId} {p : Option Addr} {A : HP} (hg : Tryz.prog.eqGuardType Tryz.prog.depth t = false) (hu : Tryz.prog.underlying t = some (.pointer e)) : ORead Tryz.prog (semW (.binOp .eql t (.tmp i) (.const (.pointer none)) u) ty [(i, .pointer p)]) A (.bool p.isNone) := fun w R hh F s _ => by
  have he : (Op.equal t (.pointer p) (.pointer none)).run Tryz.prog w = .ok p.isNone w := RX.run_equal fun n => by cases p <;> simp [Op.equalIn, RX.run_underlying hu]
  have := (binOp_equal (P := Tryz.prog) (w := w) (.inl ⟨_, rfl⟩) he).1
  simp only [semW, execOp, arW, List.find?_cons, beq_self_eq_true, Option.map_some, Option.getD_some]
  simp [eqGuard, hg, program, Sem.run_bind, this]
def okN : Int → List Nd → Bool
  | _, [] => true
  | last, n :: r => decide (last < n.num) && decide (n.num < 64) && goodS n && okN n.num r
def MRep (mb : Nat) (ns : List HN) : HP := HP.sep (NodM ⟨mb, ns⟩) (sepN (ns.map NRep))
theorem MRep.init {mb : Nat} {R h : PH} (H : (HP.one mb (.map #[] 0)).p R h) : (MRep mb []).p R h := HP.sep_tt ⟨[], 0, ⟨MapI.nil 0, fun _ => rfl⟩, H⟩
theorem insH_end (y : HN) : ∀ ns : List HN, (∀ z ∈ ns, z.p.num < y.p.num) → insH y ns = ns ++ [y]
  | [], _ => rfl
  | z :: r, h => by
    unfold insH
    rw [if_pos (h z List.mem_cons_self), insH_end y r fun q hq => h q (List.mem_cons_of_mem _ hq)]; rfl
theorem mPut (mb : Nat) (ns : List HN) (y : HN) : OTri Tryz.prog (updS 123 (.map (some mb)) (.int .i64 y.p.num) (.pointer (some ⟨y.nb, 0, none⟩))) (HP.sep (MRep mb ns) (NRep y)) (fun v => HP.and (v = .tuple #[]) (MRep mb (insH y ns))) := by
  have o : OTri Tryz.prog (updS 123 (.map (some mb)) (.int .i64 y.p.num) (.pointer (some ⟨y.nb, 0, none⟩))) (NodM ⟨mb, ns⟩) (fun v => HP.and (v = .tuple #[]) (NodM ⟨mb, insH y ns⟩)) := by
    refine OTri.exI fun l => OTri.exI fun c => OTri.pureI fun ⟨hI, hk⟩ => ?_
    refine (upd_ok (r := mb) (l := l) (c := c) kInt' undNM (y.p.num : Int) (.pointer (some ⟨y.nb, 0, none⟩))).weak (fun _ _ h => h) ?_
    rintro v R h ⟨rfl, H⟩
    refine ⟨rfl, _, _, ⟨hI.put (y.p.num : Int) _, fun q => ?_⟩, H⟩
    rw [alFind_put, hk]
    exact (nodeV_ins y q ns).symm
  refine (o.frame (HP.sep (sepN (ns.map NRep)) (NRep y))).weak (fun R h H => HP.sep_assoc H) ?_
  rintro v R h ⟨h1, h2, d, l1, l2, ⟨e, H⟩, HR⟩
  refine ⟨e, h1, h2, d, l1, l2, H, ?_⟩
  exact sepN_perm ((insH_perm y ns).symm.map NRep) (sepN_cons.2 (HP.sep_comm HR))
def loadOk (wv : List Nd → Bool) (T1 : List Nd) : Bool := decide (T1.length ≤ 64) && okN (-1) T1 && wv T1
def LoPost (wv : List Nd → Bool) (a : Option Addr) (c : Nat) (es : List NodeE) (v : Value) : HP := HP.ex fun b : Nat => HP.ex fun t : TS =>
  HP.and ((v = if loadOk wv (es.map (·.nd)) = true then .tuple #[.pointer (some ⟨b, 0, none⟩), .int .i64 0] else .tuple #[.pointer none, .int .i64 3]) ∧ (loadOk wv (es.map (·.nd)) = true → t.pub = es.map (·.nd)))
    (HP.sep (OwN a es.length c es) (if loadOk wv (es.map (·.nd)) = true then TRep b t else HP.tt))
theorem load_ok (wv : List Nd → Bool) (hw : ∀ b t, okN (-1) t.pub = true → (∀ n ∈ t.pub, n.ents.length ≤ 1000000000) → Tri Tryz.prog 161 #[.pointer (some ⟨b, 0, none⟩)] (TRep b t) (fun v => HP.and (v = .bool (wv t.pub)) (TRep b t)))
    (a : Option Addr) (c : Nat) (es : List NodeE) (hn : es.length ≤ 1000000000) (he : ∀ x ∈ es, x.nd.ents.length ≤ 1000000000) :
    Tri Tryz.prog 91 #[.slice a es.length c] (OwN a es.length c es) (LoPost wv a c es) := by
  refine Tri.fact (φ := es.length ≠ 0 → a.isSome = true) (fun R h H hn => OwC.some H.1 (by omega)) fun ha => ?_
  refine tri_of_tree (ρ := [.a a, .n es.length, .n c, .p (OwN a es.length c es)]) mixed Tryz.func91 tree_tLoad ?_
  unfold t_tLoad
  simp only [T.den, E.prop, E.den, RX.look, F1.app, F2.app, Uni.int_i, Uni.nat_n, Uni.bool_c, Uni.str_s, Uni.adr_a, Uni.val_v, Uni.hp_p, hden, cden, V.den, W.den, A.den, BR.den, SA.den, FV.den, capV, exs, exP, allP, Cur.app, List.map_cons, List.map_nil, List.cons_append, List.nil_append, List.drop_succ_cons, List.drop_zero, List.length_cons, List.length_nil, Nat.zero_add, Nat.reduceAdd, Int.neg_neg, Bool.not_not, List.append_nil, Nat.add_zero, List.getElem?_cons_zero, List.getElem?_cons_succ, Decidable.not_not, semW_eq, semW_load, semW_store, semW_storeC, semW_append, semW_lookup, semW_lookupC, semW_update, semW_updateC, semW_updateK, semW_delete, semW_range, semW_next, semW_entry, semW_nil, ne_eq, Nat.reduceEqDiff, not_false_eq_true]
  have bad : ∀ {A : HP}, HP.ent A (OwN a es.length c es) → loadOk wv (es.map (·.nd)) = false → HP.ent A (LoPost wv a c es (.tuple #[.pointer none, .int .i64 3])) := fun hA h => hA.trans (.of fun R hh H => ⟨0, ⟨0, []⟩, ⟨by rw [h]; simp, fun e => by rw [h] at e; cases e⟩, by rw [h]; exact HP.sep_tt H⟩)
  refine ⟨fun h64 => bad (HP.ent.refl _) (by unfold loadOk; have : ¬ es.length ≤ 64 := by omega
                                             simp [this]), fun h64 => ?_⟩
  have h64' : es.length ≤ 64 := by omega
  intro mb tb
  refine ⟨fun _ _ _ last k pm pn => ∃ (j : Nat) (ns : List HN), k = j ∧ j ≤ es.length ∧ ns.map (·.p) = (es.map (·.nd)).take j ∧ okN (-1) (es.map (·.nd)) = okN last ((es.map (·.nd)).drop j) ∧ HP.ent pm (MRep mb ns) ∧ HP.ent pn (OwN a es.length c es) ∧ ∀ z ∈ ns, (z.p.num : Int) ≤ last,
    fun _ _ _ _ k _ _ => es.length - k.toNat, ⟨0, [], rfl, Nat.zero_le _, rfl, rfl, .of fun R h H => MRep.init H, HP.ent.refl _, fun _ h => by cases h⟩, ?_⟩
  rintro v q e0 last k pm pn ⟨j, ns, rfl, hj, hns, hok, hpm, hpn, hlast⟩
  refine ⟨fun hlt => ⟨by omega, fun _ => ⟨ha (by omega), fun _ => ?_⟩⟩, fun hge => ?_⟩
  · have hlt' : j < es.length := by omega
    have hltm : j < (es.map (·.nd)).length := by simpa using hlt'
    have hg : (es.map (·.nd))[j] = es[j].nd := by simp
    have hstep : okN last ((es.map (·.nd)).drop j) = (decide (last < es[j].nd.num) && decide (es[j].nd.num < 64) && goodS es[j].nd && okN es[j].nd.num ((es.map (·.nd)).drop (j + 1))) := by
      rw [List.drop_eq_getElem_cons hltm, hg]; rfl
    have fl : ∀ {B : Bool}, okN last ((es.map (·.nd)).drop j) = false → loadOk wv (es.map (·.nd)) = false := fun h => by unfold loadOk; rw [hok, h]; simp
    refine ⟨_, _, _, _, _, _, _, _, _, (ldNodeO (List.getElem?_eq_getElem hlt')).ent hpn, fun y => ⟨fun h1 => bad hpn (fl (B := true) ?_), fun h1 => ⟨fun h2 => bad hpn (fl (B := true) ?_), fun h2 => ?_⟩⟩⟩
    · rw [hstep]; have : ¬ last < (es[j].nd.num : Int) := by omega
      simp [this]
    · rw [hstep]; have : ¬ es[j].nd.num < 64 := by omega
      simp [this]
    · refine (loaded_ok es[j] (he _ (List.getElem_mem hlt'))).conseq (K := OwN a es.length c es) (hpn.trans (.of fun R h H => ?_)) fun v => .of fun R h H => ?_
      · have hx := nodeHp_pers _ R h PH.none' (H.2 _ (List.getElem_mem hlt'))
        exact ⟨PH.none', h, PH.none_dj _, PH.none_le _, PH.le.refl _, ⟨PH.none', PH.none', PH.dj_none _, PH.le.refl _, PH.le.refl _, hx.1, hx.2⟩, H⟩
      · obtain ⟨y1, y2, d, l1, l2, ⟨yn, ⟨hyp, hv⟩, hN⟩, hO⟩ := H
        by_cases hgd : goodS es[j].nd = true
        · rw [if_pos hgd] at hv hN
          subst hv
          refine ⟨.pointer (some ⟨yn.nb, 0, none⟩), NRep yn, OwN a es.length c es, rfl, ⟨false, eqlNilP (by kernel_rfl) undNP, fun h => (by cases h), fun _ => ?_⟩, y1, y2, d, l1, l2, hN, hO⟩
          have hnum : es[j].nd.num = yn.p.num := by rw [hyp]
          rw [hnum]
          refine (mPut mb ns yn).conseq ((HP.ent.sep hpm _).trans (.of fun _ _ => HP.sep_tt)) fun v => .of fun R h H => ?_
          obtain ⟨rfl, H1⟩ := HP.sep_left H
          have hall : ∀ z ∈ ns, z.p.num < yn.p.num := fun z hz => by have := hlast z hz; omega
          refine ⟨_, rfl, ⟨inI64 _ (by omega) (by omega), fun _ => ⟨⟨j + 1, insH yn ns, by omega, by omega, ?_, ?_, HP.ent.refl _, HP.ent.refl _, ?_⟩, by dsimp only; omega⟩⟩, H1⟩
          · rw [insH_end yn ns hall, List.map_append, hns, List.take_succ_eq_append_getElem hltm, hg, ← hyp]; rfl
          · have a1 : last < (es[j].nd.num : Int) := by omega
            have a2 : es[j].nd.num < 64 := by omega
            rw [hok, hstep, hgd, ← hnum]; simp [a1, a2]
          · intro z hz
            rw [insH_end yn ns hall] at hz
            rcases List.mem_append.1 hz with hz | hz
            · have := hall z hz; omega
            · obtain rfl := List.mem_singleton.1 hz; omega
        · rw [if_neg hgd] at hv
          subst hv
          refine ⟨.pointer none, HP.tt, OwN a es.length c es, rfl, ⟨true, eqlNilP (by kernel_rfl) undNP, fun _ => bad (HP.ent.refl _) (fl (B := true) ?_), fun h => absurd rfl h⟩, HP.tt_sep ((OwN a es.length c es).mono (PH.le.refl _) l2 hO)⟩
          rw [hstep]; simp [hgd]
  · obtain rfl : j = es.length := by omega
    have e0 : (es.map (·.nd)).take es.length = es.map (·.nd) := List.take_of_length_le (by simp)
    have e1 : (es.map (·.nd)).drop es.length = [] := List.drop_eq_nil_of_le (by simp)
    rw [e0] at hns
    rw [e1] at hok
    have hokT : okN (-1) (es.map (·.nd)) = true := by rw [hok]; rfl
    have hpub : TS.pub ⟨mb, ns⟩ = es.map (·.nd) := hns
    have hlo : loadOk wv (es.map (·.nd)) = wv (es.map (·.nd)) := by unfold loadOk; rw [hokT]; simp [h64']
    refine (hw tb ⟨mb, ns⟩ (by rw [hpub]; exact hokT) (fun n hn => by rw [hpub] at hn; obtain ⟨x, hx, rfl⟩ := List.mem_map.1 hn; exact he x hx)).conseq (K := HP.tt) ((HP.ent.sep2 (HP.ent.refl _) hpm).trans (.of fun R h H => HP.sep_tt H)) fun v => .of fun R h H => ?_
    obtain ⟨rfl, H1⟩ := HP.sep_left H
    rw [hpub]
    refine ⟨wv (es.map (·.nd)), mb, MRep mb ns, rfl, ⟨fun h => bad hpn (by rw [hlo]; simpa using h), fun h => (HP.ent.sep hpn _).trans (.of fun R h' H => ⟨tb, ⟨mb, ns⟩, ⟨by rw [hlo, h]; simp, fun _ => hpub⟩, ?_⟩)⟩, H1⟩
    rw [hlo, h]
    exact H
end Go.Proofs.YtdieogcemmnaaaaGreatDoor


/- Law 4: what a rename leaves; a directory has one path. Plain. No condition. -/
namespace Go.Proofs.YtdieogcemmnaaaaGreatDoor
open Go.Proofs.YtdieogcemmnaaaaGreatDoor RX
set_option maxRecDepth 100000

/-- One step down. -/
def Step (T : List Nd) (d : Nat) (nm : Nm) (k : Nat) : Prop := ∃ n, nodeAt T d = some n ∧ n.kind = 1 ∧ lk n.ents nm = some k
theorem Step.det {T : List Nd} {d : Nat} {nm : Nm} {k j : Nat} (h : Step T d nm k) (g : Step T d nm j) : k = j := by
  obtain ⟨n, h1, _, h3⟩ := h
  obtain ⟨m, g1, _, g3⟩ := g
  rw [h1] at g1; cases g1
  rw [h3] at g3; cases g3; rfl
theorem walk_snoc {T : List Nd} {a : Nat} {l : List Nm} {nm : Nm} {k : Nat} : walkS T a (l ++ [nm]) = (k, 0) ↔ ∃ d, walkS T a l = (d, 0) ∧ Step T d nm k := by
  rw [walkS_app]
  constructor
  · intro h
    split at h
    · rename_i h0
      obtain ⟨n, h1, h2, h3⟩ := walk_one h
      exact ⟨_, Prod.ext rfl h0, n, h1, h2, h3⟩
    · rename_i h0
      rw [h] at h0; exact absurd rfl h0
  · rintro ⟨d, h1, n, h2, h3, h4⟩
    rw [h1]
    simp [walkS, h2, h3, h4]
theorem walk_pre {T : List Nd} {a : Nat} {l m : List Nm} {k : Nat} (h : walkS T a (l ++ m) = (k, 0)) : ∃ d, walkS T a l = (d, 0) ∧ walkS T d m = (k, 0) := by
  rw [walkS_app] at h
  split at h
  · rename_i h0
    exact ⟨_, Prod.ext rfl h0, h⟩
  · rename_i h0
    rw [h] at h0; exact absurd rfl h0
/-- What is reached from the root. -/
inductive Rch (T : List Nd) : Nat → Prop where
  | root : Rch T 0
  | step {d k : Nat} {w : Nm} : Rch T d → Step T d w k → Rch T k
theorem Rch.walk {T : List Nd} {j : Nat} (h : Rch T j) : ∃ l, walkS T 0 l = (j, 0) := by
  induction h with
  | root => exact ⟨[], rfl⟩
  | step _ hs ih => obtain ⟨l, hl⟩ := ih; exact ⟨_, walk_snoc.2 ⟨_, hl, hs⟩⟩
theorem Rch.of_walk {T : List Nd} : ∀ (N : Nat) (l : List Nm) (j : Nat), l.length ≤ N → walkS T 0 l = (j, 0) → Rch T j := by
  intro N
  induction N with
  | zero =>
    intro l j hl h
    obtain rfl := List.length_eq_zero_iff.1 (Nat.le_zero.1 hl)
    cases h; exact .root
  | succ N ih =>
    intro l j hl h
    rcases List.eq_nil_or_concat l with rfl | ⟨l', a, rfl⟩
    · cases h; exact .root
    · rw [List.concat_eq_append] at h hl
      obtain ⟨d, h1, h2⟩ := walk_snoc.1 h
      exact .step (ih l' d (by simp at hl; omega) h1) h2
theorem Rch.of {T : List Nd} {l : List Nm} {j : Nat} (h : walkS T 0 l = (j, 0)) : Rch T j := Rch.of_walk l.length l j (Nat.le_refl _) h
theorem Rch.find {T : List Nd} {s : Nm} (h : (findS T s).2 = 0) : Rch T (findS T s).1 := by
  unfold findS at h ⊢
  split at h
  · cases h
  · rename_i l hl
    exact Rch.of (l := l) (Prod.ext rfl h)
theorem cntE_pos {l : List (Nm × Nat)} {d : Nat} {a : Nm} (h : (a, d) ∈ l) : 1 ≤ cntE l d := by
  unfold cntE
  have : 0 < l.countP fun e => decide (e.2 = d) := List.countP_pos_iff.2 ⟨_, h, by simp⟩
  omega
theorem cntE_two {d : Nat} {a c : Nm} (hac : a ≠ c) : ∀ {l : List (Nm × Nat)}, (a, d) ∈ l → (c, d) ∈ l → 2 ≤ cntE l d
  | [], h, _ => by cases h
  | y :: r, h, g => by
    have hc : cntE (y :: r) d = cntE r d + if y.2 = d then 1 else 0 := by unfold cntE; rw [List.countP_cons]; simp
    rcases List.mem_cons.1 h with rfl | h1
    · rcases List.mem_cons.1 g with e | g1
      · injection e with e _; exact absurd e.symm hac
      · have := cntE_pos g1; rw [hc]; simp; omega
    · rcases List.mem_cons.1 g with rfl | g1
      · have := cntE_pos h1; rw [hc]; simp; omega
      · have := cntE_two hac h1 g1; rw [hc]; omega
theorem refs_mem {n : Nd} {k : Nat} : ∀ {T : List Nd}, n ∈ T → cntE n.ents k ≤ refs T k
  | [], h => by cases h
  | y :: r, h => by
    rw [refs_cons]
    rcases List.mem_cons.1 h with rfl | h
    · omega
    · have := refs_mem (k := k) h; omega
theorem refs_two {n m : Nd} {k : Nat} (hnm : n ≠ m) : ∀ {T : List Nd}, n ∈ T → m ∈ T → cntE n.ents k + cntE m.ents k ≤ refs T k
  | [], h, _ => by cases h
  | y :: r, h, g => by
    rw [refs_cons]
    rcases List.mem_cons.1 h with rfl | h1
    · rcases List.mem_cons.1 g with rfl | g1
      · exact absurd rfl hnm
      · have := refs_mem (k := k) g1; omega
    · rcases List.mem_cons.1 g with rfl | g1
      · have := refs_mem (k := k) h1; omega
      · have := refs_two (k := k) hnm h1 g1; omega
/-- One entry alone leads to a directory. -/
theorem dir_one {B : Nat} {T : List Nd} (wf : TWf B T) {d p q : Nat} {a c : Nm} {x : Nd} (hx : nodeAt T d = some x) (hk : x.kind = 1) (h : Step T p a d) (g : Step T q c d) : p = q ∧ a = c := by
  obtain ⟨n, h1, _, h3⟩ := h
  obtain ⟨m, g1, _, g3⟩ := g
  obtain ⟨hn, hnn, hnm⟩ := wf.at' h1
  obtain ⟨hm, hmn, hmm⟩ := wf.at' g1
  have hd0 : d ≠ 0 := (hn.name _ (lk_mem h3)).2
  have hc := wf.cnt' hx hd0
  have hl : x.links = 1 := by
    rcases (wf.at' hx).1.kind with ⟨_, _, h⟩ | ⟨h, _⟩
    · exact h
    · rw [hk] at h; cases h
  have h2 : refs T d = 1 := by omega
  by_cases e : n = m
  · subst e
    refine ⟨by omega, Classical.byContradiction fun hac => ?_⟩
    have := cntE_two hac (lk_mem h3) (lk_mem g3)
    have := refs_mem (k := d) hnm
    omega
  · have := refs_two (k := d) e hnm hmm
    have := cntE_pos (lk_mem h3)
    have := cntE_pos (lk_mem g3)
    omega
/-- A directory has one path. -/
theorem path_one {B : Nat} {T : List Nd} (wf : TWf B T) : ∀ (N : Nat) (l m : List Nm) (d : Nat) (x : Nd), l.length ≤ N → nodeAt T d = some x → x.kind = 1 → walkS T 0 l = (d, 0) → walkS T 0 m = (d, 0) → l = m := by
  have zero : ∀ (l : List Nm) (a : Nm), walkS T 0 (l ++ [a]) ≠ (0, 0) := fun l a h => by
    obtain ⟨d, _, n, h1, _, h3⟩ := walk_snoc.1 h
    exact ((wf.at' h1).1.name _ (lk_mem h3)).2 rfl
  intro N
  induction N with
  | zero =>
    intro l m d x hl hx hk h g
    obtain rfl := List.length_eq_zero_iff.1 (Nat.le_zero.1 hl)
    cases h
    rcases List.eq_nil_or_concat m with rfl | ⟨m', c, rfl⟩
    · rfl
    · rw [List.concat_eq_append] at g
      exact absurd g (zero m' c)
  | succ N ih =>
    intro l m d x hl hx hk h g
    rcases List.eq_nil_or_concat l with rfl | ⟨l', a, rfl⟩
    · cases h
      rcases List.eq_nil_or_concat m with rfl | ⟨m', c, rfl⟩
      · rfl
      · rw [List.concat_eq_append] at g
        exact absurd g (zero m' c)
    · rw [List.concat_eq_append] at h hl ⊢
      rcases List.eq_nil_or_concat m with rfl | ⟨m', c, rfl⟩
      · cases g
        exact absurd h (zero l' a)
      · rw [List.concat_eq_append] at g ⊢
        obtain ⟨p, h1, h2⟩ := walk_snoc.1 h
        obtain ⟨q, g1, g2⟩ := walk_snoc.1 g
        obtain ⟨rfl, rfl⟩ := dir_one wf hx hk h2 g2
        obtain ⟨y, hy, hyk, _⟩ := h2
        rw [ih l' m' p y (by simp at hl; omega) hy hyk h1 g1]
theorem path_one' {B : Nat} {T : List Nd} (wf : TWf B T) {l m : List Nm} {d : Nat} {x : Nd} (hx : nodeAt T d = some x) (hk : x.kind = 1) (h : walkS T 0 l = (d, 0)) (g : walkS T 0 m = (d, 0)) : l = m :=
  path_one wf l.length l m d x (Nat.le_refl _) hx hk h g
/-! entries put and dropped -/
theorem drop_put {nm : Nm} {k : Nat} : ∀ {l : List (Nm × Nat)}, lk l nm = none → dropE nm (putE nm k l) = l
  | [], _ => by simp [putE, dropE]
  | y :: r, h => by
    unfold lk at h
    split at h
    · cases h
    · rename_i hne
      have hd : dropE nm (y :: r) = y :: dropE nm r := by unfold dropE; rw [List.filter_cons, if_pos (by simpa using Ne.symm hne)]
      have ih := drop_put (k := k) h
      have hr : dropE nm r = r := by
        unfold dropE
        rw [List.filter_eq_self]
        intro z hz
        have hlr : ∀ {l : List (Nm × Nat)}, lk l nm = none → ∀ z ∈ l, z.1 ≠ nm := fun {l} => by
          induction l with
          | nil => intro _ z hz; cases hz
          | cons w q ihq =>
            intro h z hz
            unfold lk at h
            split at h
            · cases h
            · rename_i hw
              rcases List.mem_cons.1 hz with rfl | hz
              · exact Ne.symm hw
              · exact ihq h z hz
        simpa using hlr h z hz
      unfold putE
      split
      · unfold dropE at ih ⊢
        rw [List.filter_cons, if_pos (by simpa using Ne.symm hne), ih]
      · have : dropE nm ((nm, k) :: y :: r) = dropE nm (y :: r) := by unfold dropE; rw [List.filter_cons, if_neg (by simp)]
        rw [this, hd, hr]
theorem put_drop {nm : Nm} {k : Nat} : ∀ {l : List (Nm × Nat)}, (l.map (·.1)).Pairwise (· < ·) → lk l nm = some k → putE nm k (dropE nm l) = l
  | [], _, h => by cases h
  | y :: r, hs, h => by
    rw [List.map_cons, List.pairwise_cons] at hs
    unfold lk at h
    split at h
    · rename_i e
      cases h
      subst e
      have hall : ∀ z ∈ r, y.1 < z.1 := fun z hz => hs.1 _ (List.mem_map.2 ⟨z, hz, rfl⟩)
      have hd : dropE y.1 (y :: r) = r := by
        unfold dropE
        rw [List.filter_cons, if_neg (by simp), List.filter_eq_self]
        intro z hz
        have := hall z hz
        simp only [ne_eq, decide_not, Bool.not_eq_eq_eq_not, Bool.not_true, decide_eq_false_iff_not]
        intro q
        rw [q] at this
        exact List.lt_irrefl _ this
      rw [hd]
      cases r with
      | nil => rfl
      | cons z q =>
        unfold putE
        rw [if_neg fun hl => List.lt_irrefl _ (List.lt_trans hl (hall z (by simp)))]
    · rename_i hne
      have hm := lk_mem h
      have hlt : y.1 < nm := hs.1 _ (List.mem_map.2 ⟨_, hm, rfl⟩)
      have hd : dropE nm (y :: r) = y :: dropE nm r := by unfold dropE; rw [List.filter_cons, if_pos (by simpa using Ne.symm hne)]
      rw [hd]
      unfold putE
      rw [if_pos hlt, put_drop hs.2 h]
/-- What a rename that does something leaves. -/
structure Moved (T : List Nd) (p q : Nm) (T' : List Nd) : Prop where
  stat : statS T' q = statS T p
  gone : (findS T' p).2 ≠ 0
  len : T'.length = T.length
  back : renameS T' q p = (T, 0)
  rch : ∀ j, Rch T j → Rch T' j
  nums : T'.map (·.num) = T.map (·.num)
theorem lk_setE {T : List Nd} {u : Nat} {g : List (Nm × Nat) → List (Nm × Nat)} {d : Nat} {nm : Nm} {k : Nat} : Step (setP T u (fE g)) d nm k ↔ ∃ n, nodeAt T d = some n ∧ n.kind = 1 ∧ lk (if d = u then g n.ents else n.ents) nm = some k := by
  unfold Step
  rw [nodeAt_set (fE_num _)]
  by_cases e : d = u
  · subst e
    simp only [if_true]
    constructor
    · rintro ⟨n, h1, h2, h3⟩
      obtain ⟨m, h4, rfl⟩ := Option.map_eq_some_iff.1 h1
      exact ⟨m, h4, h2, h3⟩
    · rintro ⟨n, h1, h2, h3⟩
      exact ⟨fE g n, by rw [h1]; rfl, h2, h3⟩
  · simp only [if_neg e]
/-- Steps behind a rename. -/
theorem step_moved {T : List Nd} {u1 u2 a : Nat} {o nm : Nm} (hx : ∃ x, nodeAt T u1 = some x ∧ x.kind = 1 ∧ lk x.ents o = some a) (hy : ∃ y, nodeAt T u2 = some y ∧ y.kind = 1 ∧ lk y.ents nm = none) (d : Nat) (w : Nm) (k : Nat) :
    Step (setP (setP T u1 (fE (dropE o))) u2 (fE (putE nm a))) d w k ↔ (d = u2 ∧ w = nm ∧ k = a) ∨ (Step T d w k ∧ ¬ (d = u1 ∧ w = o)) := by
  obtain ⟨x, x1, x2, x3⟩ := hx
  obtain ⟨y, y1, y2, y3⟩ := hy
  rw [lk_setE]
  have key : (∃ n, nodeAt (setP T u1 (fE (dropE o))) d = some n ∧ n.kind = 1 ∧ lk (if d = u2 then putE nm a n.ents else n.ents) w = some k) ↔ ∃ n, nodeAt T d = some n ∧ n.kind = 1 ∧ lk (if d = u2 then putE nm a (if d = u1 then dropE o n.ents else n.ents) else (if d = u1 then dropE o n.ents else n.ents)) w = some k := by
    rw [nodeAt_set (fE_num _)]
    by_cases e : d = u1
    · subst e
      simp only [if_true]
      constructor
      · rintro ⟨n, h1, h2, h3⟩
        obtain ⟨m, h4, rfl⟩ := Option.map_eq_some_iff.1 h1
        exact ⟨m, h4, h2, h3⟩
      · rintro ⟨n, h1, h2, h3⟩
        exact ⟨fE (dropE o) n, by rw [h1]; rfl, h2, h3⟩
    · simp only [if_neg e]
  rw [key]
  constructor
  · rintro ⟨n, h1, h2, h3⟩
    by_cases e2 : d = u2
    · rw [if_pos e2, lk_put] at h3
      by_cases ew : w = nm
      · rw [if_pos ew] at h3; cases h3; exact .inl ⟨e2, ew, rfl⟩
      · rw [if_neg ew] at h3
        right
        by_cases e1 : d = u1
        · rw [if_pos e1, lk_drop] at h3
          by_cases eo : w = o
          · rw [if_pos eo] at h3; cases h3
          · rw [if_neg eo] at h3
            exact ⟨⟨n, h1, h2, h3⟩, fun q => eo q.2⟩
        · rw [if_neg e1] at h3
          exact ⟨⟨n, h1, h2, h3⟩, fun q => e1 q.1⟩
    · rw [if_neg e2] at h3
      right
      by_cases e1 : d = u1
      · rw [if_pos e1, lk_drop] at h3
        by_cases eo : w = o
        · rw [if_pos eo] at h3; cases h3
        · rw [if_neg eo] at h3
          exact ⟨⟨n, h1, h2, h3⟩, fun q => eo q.2⟩
      · rw [if_neg e1] at h3
        exact ⟨⟨n, h1, h2, h3⟩, fun q => e1 q.1⟩
  · rintro (⟨rfl, rfl, rfl⟩ | ⟨⟨n, h1, h2, h3⟩, hno⟩)
    · exact ⟨y, y1, y2, by rw [if_pos rfl, lk_put, if_pos rfl]⟩
    · refine ⟨n, h1, h2, ?_⟩
      have hd : lk (if d = u1 then dropE o n.ents else n.ents) w = some k := by
        by_cases e1 : d = u1
        · rw [if_pos e1, lk_drop, if_neg fun eo => hno ⟨e1, eo⟩]; exact h3
        · rw [if_neg e1]; exact h3
      by_cases e2 : d = u2
      · rw [if_pos e2, lk_put]
        by_cases ew : w = nm
        · subst e2; subst ew
          rw [y1] at h1; cases h1
          rw [y3] at h3; cases h3
        · rw [if_neg ew]; exact hd
      · rw [if_neg e2]; exact hd
/-- A walk that does not use what was dropped. -/
theorem walk_kept {T T' : List Nd} {u1 : Nat} {o : Nm} (hs : ∀ d w k, Step T d w k → ¬ (d = u1 ∧ w = o) → Step T' d w k) : ∀ (N : Nat) (l : List Nm) (k : Nat), l.length ≤ N → walkS T 0 l = (k, 0) → (∀ P Q, l = P ++ o :: Q → walkS T 0 P ≠ (u1, 0)) → walkS T' 0 l = (k, 0) := by
  intro N
  induction N with
  | zero =>
    intro l k hl h _
    obtain rfl := List.length_eq_zero_iff.1 (Nat.le_zero.1 hl)
    exact h
  | succ N ih =>
    intro l k hl h hno
    rcases List.eq_nil_or_concat l with rfl | ⟨l', a, rfl⟩
    · exact h
    · rw [List.concat_eq_append] at h hl hno ⊢
      obtain ⟨p, h1, h2⟩ := walk_snoc.1 h
      refine walk_snoc.2 ⟨p, ih l' p (by simp at hl; omega) h1 (fun P Q e => hno P (Q ++ [a]) (by rw [e]; simp)), hs _ _ _ h2 ?_⟩
      rintro ⟨rfl, rfl⟩
      exact hno l' [] (by simp) h1
theorem renamed {B : Nat} {T : List Nd} (wf : TWf B T) {p q : Nm} (hne : q ≠ p) (h : (renameS T p q).2 = 0) : Moved T p q (renameS T p q).1 := by
  unfold renameS at h ⊢
  by_cases c1 : (entryS T p).2.2.2 ≠ 0
  · rw [if_pos c1] at h; exact absurd h c1
  rw [if_neg c1, if_neg hne] at h ⊢
  by_cases c2 : insideP q p = true
  · rw [if_pos c2] at h; cases h
  rw [if_neg c2] at h ⊢
  by_cases c3 : (placeS T q).2.2 ≠ 0
  · rw [if_pos c3] at h; exact absurd h c3
  rw [if_neg c3]
  clear h
  have c1' : (entryS T p).2.2.2 = 0 := by simpa using c1
  have c3' : (placeS T q).2.2 = 0 := by simpa using c3
  obtain ⟨x, x1, x2, x3, ab, x4, x5, x6, x7, x8⟩ := entry_ok' c1'
  obtain ⟨y, y1, y2, y3, y4⟩ := place_at c3'
  obtain ⟨ab2, z4, z5, z6⟩ : ∃ ab2, parentS q = some (ab2, (placeS T q).2.1) ∧ (findS T ab2).1 = (placeS T q).1 ∧ (findS T ab2).2 = 0 := by
    unfold placeS at c3' ⊢
    cases hs : parentS q with
    | none => rw [hs] at c3'; simp at c3'
    | some w =>
      obtain ⟨ab2, nm⟩ := w
      rw [hs] at c3'
      simp only at c3' ⊢
      by_cases hc : (findS T ab2).2 ≠ 0
      · rw [if_pos hc] at c3'; exact absurd c3' hc
      · rw [if_neg hc] at c3' ⊢
        cases hx : nodeAt T (findS T ab2).1 with
        | none => rw [hx] at c3'; simp at c3'
        | some x =>
          rw [hx] at c3'
          simp only at c3' ⊢
          by_cases hk : x.kind ≠ 1
          · rw [if_pos hk] at c3'; simp at c3'
          · rw [if_neg hk] at c3' ⊢
            by_cases hl : (lk x.ents nm).isSome = true
            · rw [if_pos hl] at c3'; simp at c3'
            · rw [if_neg hl]
              exact ⟨ab2, rfl, rfl, by simpa using hc⟩
  clear c1 c3 c1' c3'
  generalize (entryS T p).1 = u1 at *
  generalize (entryS T p).2.1 = o at *
  generalize (entryS T p).2.2.1 = a at *
  generalize (placeS T q).1 = u2 at *
  generalize (placeS T q).2.1 = nm at *
  obtain ⟨L1, s1, s2⟩ := parentS_some x4
  obtain ⟨L2, s3, s4⟩ := parentS_some z4
  have w1 : walkS T 0 L1 = (u1, 0) := by rw [← findS_split s2]; exact Prod.ext x5 x6
  have w1o : walkS T 0 (L1 ++ [o]) = (a, 0) := by rw [← findS_split s1]; exact Prod.ext x7 x8
  have w2 : walkS T 0 L2 = (u2, 0) := by rw [← findS_split s4]; exact Prod.ext z5 z6
  have nin : ∀ Q, L2 ≠ L1 ++ o :: Q := fun Q e => c2 (by
    unfold insideP
    rw [s3, s1, e]
    have : (L1 ++ o :: Q ++ [nm]).take (L1 ++ [o]).length = L1 ++ [o] := by
      rw [show L1 ++ o :: Q ++ [nm] = (L1 ++ [o]) ++ (Q ++ [nm]) by simp, List.take_left]
    simp only [this]
    simp)
  have steps := step_moved (T := T) (u1 := u1) (u2 := u2) (a := a) (o := o) (nm := nm) ⟨x, x1, x2, x3⟩ ⟨y, y1, y2, y3⟩
  have hne12 : ¬ (u1 = u2 ∧ o = nm) := by
    rintro ⟨rfl, rfl⟩
    rw [x1] at y1; cases y1
    rw [x3] at y3; cases y3
  -- the walks behind it
  have w2' : walkS (setP (setP T u1 (fE (dropE o))) u2 (fE (putE nm a))) 0 L2 = (u2, 0) := by
    refine walk_kept (T := T) (u1 := u1) (o := o) (fun d w k hs hno => (steps d w k).2 (.inr ⟨hs, hno⟩)) L2.length L2 u2 (Nat.le_refl _) w2 fun P Q e hP => ?_
    have : P = L1 := path_one' wf x1 x2 hP w1
    subst this
    exact nin Q e
  have w1' : walkS (setP (setP T u1 (fE (dropE o))) u2 (fE (putE nm a))) 0 L1 = (u1, 0) := by
    refine walk_kept (T := T) (u1 := u1) (o := o) (fun d w k hs hno => (steps d w k).2 (.inr ⟨hs, hno⟩)) L1.length L1 u1 (Nat.le_refl _) w1 fun P Q e hP => ?_
    have : P = L1 := path_one' wf x1 x2 hP w1
    subst this
    have := congrArg List.length e
    simp at this
  have w2n : walkS (setP (setP T u1 (fE (dropE o))) u2 (fE (putE nm a))) 0 (L2 ++ [nm]) = (a, 0) := walk_snoc.2 ⟨u2, w2', (steps _ _ _).2 (.inl ⟨rfl, rfl, rfl⟩)⟩
  have nostep : ∀ k, ¬ Step (setP (setP T u1 (fE (dropE o))) u2 (fE (putE nm a))) u1 o k := fun k hk => by
    rcases (steps _ _ _).1 hk with ⟨h1, h2, _⟩ | ⟨_, h2⟩
    · exact hne12 ⟨h1, h2⟩
    · exact h2 ⟨rfl, rfl⟩
  have ha1 : a ≠ u1 := by
    rintro rfl
    have := path_one' wf x1 x2 w1 w1o
    have := congrArg List.length this
    simp at this
  have ha2 : a ≠ u2 := by
    rintro rfl
    have := path_one' wf y1 y2 w2 w1o
    exact nin [] this
  have f2n : findS (setP (setP T u1 (fE (dropE o))) u2 (fE (putE nm a))) q = (a, 0) := by rw [findS_split s3]; exact w2n
  have f2 : findS (setP (setP T u1 (fE (dropE o))) u2 (fE (putE nm a))) ab2 = (u2, 0) := by rw [findS_split s4]; exact w2'
  have f1 : findS (setP (setP T u1 (fE (dropE o))) u2 (fE (putE nm a))) ab = (u1, 0) := by rw [findS_split s2]; exact w1'
  have n1 : ∃ n, nodeAt (setP (setP T u1 (fE (dropE o))) u2 (fE (putE nm a))) u1 = some n ∧ n.kind = 1 := by
    rw [nodeAt_set (fE_num _), nodeAt_set (fE_num _)]
    by_cases e : u1 = u2
    · rw [if_pos e, ← e, if_pos rfl, x1]
      exact ⟨_, rfl, x2⟩
    · rw [if_neg e, nodeAt_set (fE_num _), if_pos rfl, x1]
      exact ⟨_, rfl, x2⟩
  constructor
  · unfold statS
    rw [f2n, if_neg (by simp), if_neg (by rw [x8]; simp), x7]
    have e : nodeAt (setP (setP T u1 (fE (dropE o))) u2 (fE (putE nm a))) a = nodeAt T a := by
      rw [nodeAt_set (fE_num _), if_neg ha2, nodeAt_set (fE_num _), if_neg ha1]
    simp only
    rw [e]
  · intro h0
    have : findS (setP (setP T u1 (fE (dropE o))) u2 (fE (putE nm a))) p = ((findS (setP (setP T u1 (fE (dropE o))) u2 (fE (putE nm a))) p).1, 0) := Prod.ext rfl h0
    rw [findS_split s1] at this
    obtain ⟨d, h1, h2⟩ := walk_snoc.1 this
    rw [w1'] at h1; cases h1
    exact nostep _ h2
  · unfold setP; simp
  · have he : entryS (setP (setP T u1 (fE (dropE o))) u2 (fE (putE nm a))) q = (u2, nm, a, 0) := by
      unfold entryS
      rw [z4]
      simp only
      rw [f2n, f2]
      simp
    have hp : placeS (setP (setP T u1 (fE (dropE o))) u2 (fE (putE nm a))) p = (u1, o, 0) := by
      unfold placeS
      rw [x4]
      simp only
      rw [f1]
      obtain ⟨n, g1, g2⟩ := n1
      simp only [ne_eq, not_true_eq_false, if_false]
      rw [g1]
      simp only [g2, not_true_eq_false, if_false]
      rw [if_neg]
      intro hs
      obtain ⟨k, hk⟩ := Option.isSome_iff_exists.1 hs
      exact nostep k ⟨n, g1, g2, hk⟩
    have hin : insideP p q ≠ true := fun hi => by
      unfold insideP at hi
      rw [s1, s3] at hi
      simp only [Bool.and_eq_true, decide_eq_true_eq] at hi
      obtain ⟨hl, e⟩ := hi
      have e2 : L1 ++ [o] = (L2 ++ [nm]) ++ (L1 ++ [o]).drop (L2 ++ [nm]).length := by
        conv => lhs; rw [← List.take_append_drop (L2 ++ [nm]).length (L1 ++ [o])]
        rw [← e]
      rw [e2] at w1o
      obtain ⟨d, h1, _⟩ := walk_pre w1o
      obtain ⟨e', h2, h3⟩ := walk_snoc.1 h1
      rw [w2] at h2; cases h2
      obtain ⟨n, g1, _, g3⟩ := h3
      rw [y1] at g1; cases g1
      rw [y3] at g3; cases g3
    unfold renameS
    rw [he, hp]
    simp only [ne_eq, not_true_eq_false, if_false]
    rw [if_neg (Ne.symm hne), if_neg hin]
    refine Prod.ext ?_ rfl
    show setP (setP (setP (setP T u1 (fE (dropE o))) u2 (fE (putE nm a))) u2 (fE (dropE nm))) u1 (fE (putE o a)) = T
    have hb : setP (setP (setP T u1 (fE (dropE o))) u2 (fE (putE nm a))) u2 (fE (dropE nm)) = setP T u1 (fE (dropE o)) := by
      unfold setP
      rw [List.map_map, List.map_map]
      refine List.map_congr_left fun n hn => ?_
      have hna : nodeAt T n.num = some n := mem_nodeAt wf.nd hn
      simp only [Function.comp]
      have hu1 : (if n.num = u1 then fE (dropE o) n else n).num = n.num := by split <;> rfl
      rw [hu1]
      by_cases e2 : n.num = u2
      · rw [if_pos e2]
        have hu2 : (fE (putE nm a) (if n.num = u1 then fE (dropE o) n else n)).num = n.num := by rw [fE_num, hu1]
        rw [hu2, if_pos e2]
        rw [e2, y1] at hna
        cases hna
        have hl : lk (if y.num = u1 then fE (dropE o) y else y).ents nm = none := by
          split
          · show lk (dropE o y.ents) nm = none
            rw [lk_drop]; split
            · rfl
            · exact y3
          · exact y3
        generalize (if y.num = u1 then fE (dropE o) y else y) = m at hl
        show ({ m with ents := dropE nm (putE nm a m.ents) } : Nd) = m
        rw [drop_put hl]
      · rw [if_neg e2, hu1, if_neg e2]
    rw [hb]
    unfold setP
    rw [List.map_map]
    conv => rhs; rw [← List.map_id T]
    refine List.map_congr_left fun n hn => ?_
    have hna : nodeAt T n.num = some n := mem_nodeAt wf.nd hn
    simp only [Function.comp, id]
    by_cases e1 : n.num = u1
    · rw [if_pos e1, fE_num, if_pos e1]
      rw [e1, x1] at hna
      cases hna
      show ({ x with ents := putE o a (dropE o x.ents) } : Nd) = x
      rw [put_drop (wf.at' x1).1.sort x3]
    · rw [if_neg e1, if_neg e1]
  · intro j hj
    induction hj with
    | root => exact .root
    | @step d k w hd hs ih =>
      by_cases e : d = u1 ∧ w = o
      · obtain ⟨rfl, rfl⟩ := e
        have : k = a := hs.det ⟨x, x1, x2, x3⟩
        rw [this]
        exact Rch.of w2n
      · exact .step ih ((steps d w k).2 (.inr ⟨hs, e⟩))
  · rw [setP_nums (fE_num _), setP_nums (fE_num _)]
theorem rename_err {T : List Nd} {p q : Nm} (h : (renameS T p q).2 ≠ 0 ∨ q = p) : (renameS T p q).1 = T := by
  unfold renameS at h ⊢
  split
  · rfl
  · split
    · rfl
    · split
      · rfl
      · split
        · rfl
        · rename_i h1 h2 h3 h4
          rw [if_neg h1, if_neg h2, if_neg h3, if_neg h4] at h
          rcases h with h | h
          · exact absurd rfl h
          · exact absurd h h2
end Go.Proofs.YtdieogcemmnaaaaGreatDoor


/- Law 4: all nodes of a tree are reached from its root. Plain. No condition. -/
namespace Go.Proofs.YtdieogcemmnaaaaGreatDoor
open Go.Proofs.YtdieogcemmnaaaaGreatDoor RX
set_option maxRecDepth 100000

def Reach (T : List Nd) : Prop := ∀ n ∈ T, Rch T n.num
/-- .. by a path of so many names. -/
def Dn (T : List Nd) (r j : Nat) : Prop := ∃ l : List Nm, l.length ≤ r ∧ walkS T 0 l = (j, 0)
theorem Dn.le {T : List Nd} {r s j : Nat} (h : Dn T r j) (hr : r ≤ s) : Dn T s j := let ⟨l, h1, h2⟩ := h; ⟨l, by omega, h2⟩
theorem Dn.zero (T : List Nd) (r : Nat) : Dn T r 0 := ⟨[], Nat.zero_le _, rfl⟩
theorem Dn.step {T : List Nd} {r j : Nat} (h : Dn T (r + 1) j) : Dn T r j ∨ ∃ n, n ∈ T ∧ Dn T r n.num ∧ ∃ e ∈ n.ents, e.2 = j := by
  obtain ⟨l, h1, h2⟩ := h
  rcases List.eq_nil_or_concat l with rfl | ⟨l', a, rfl⟩
  · cases h2; exact .inl (Dn.zero T r)
  · rw [List.concat_eq_append] at h1 h2
    obtain ⟨d, h3, n, h4, _, h6⟩ := walk_snoc.1 h2
    obtain ⟨hm, hn⟩ := nodeAt_mem h4
    exact .inr ⟨n, hm, ⟨l', by simp at h1; omega, by rw [hn]; exact h3⟩, _, lk_mem h6, rfl⟩
theorem nodup_sub {α : Type} [DecidableEq α] : ∀ {l m : List α}, l.Nodup → (∀ x ∈ l, x ∈ m) → l.length ≤ m.length
  | [], _, _, _ => Nat.zero_le _
  | x :: l, m, h, hs => by
    rw [List.nodup_cons] at h
    have hx := hs x (by simp)
    have ih := nodup_sub (m := m.erase x) h.2 fun y hy => by
      have : y ≠ x := fun e => h.1 (by rw [← e]; exact hy)
      exact (List.mem_erase_of_ne this).2 (hs y (by simp [hy]))
    rw [List.length_erase_of_mem hx] at ih
    have := List.length_pos_of_mem hx
    rw [List.length_cons]; omega
/-- A walk's stations. -/
def stat' (T : List Nd) (l : List Nm) (i : Nat) : Nat := (walkS T 0 (l.take i)).1
theorem stations {B : Nat} {T : List Nd} (wf : TWf B T) {l : List Nm} {k : Nat} (h : walkS T 0 l = (k, 0)) (hk : (nodeAt T k).isSome = true) : l.length + 1 ≤ T.length := by
  have pre : ∀ i, i ≤ l.length → walkS T 0 (l.take i) = (stat' T l i, 0) ∧ (i < l.length → ∃ x, nodeAt T (stat' T l i) = some x ∧ x.kind = 1) := fun i hi => by
    have e := h
    rw [← List.take_append_drop i l] at e
    obtain ⟨d, h1, h2⟩ := walk_pre e
    have hd : stat' T l i = d := by unfold stat'; rw [h1]
    rw [hd]
    refine ⟨h1, fun hlt => ?_⟩
    have hdr : l.drop i = l[i] :: l.drop (i + 1) := List.drop_eq_getElem_cons hlt
    rw [hdr] at h2
    obtain ⟨d2, h3, _⟩ := walk_pre (l := [l[i]]) (m := l.drop (i + 1)) h2
    obtain ⟨n, h4, h5, _⟩ := walk_one h3
    exact ⟨n, h4, h5⟩
  have inj : ∀ i j, i < j → j ≤ l.length → stat' T l i ≠ stat' T l j := fun i j hij hj e => by
    obtain ⟨h1, h2⟩ := pre i (by omega)
    obtain ⟨x, h3, h4⟩ := h2 (by omega)
    have h5 := (pre j hj).1
    rw [← e] at h5
    have := path_one' wf h3 h4 h1 h5
    have := congrArg List.length this
    rw [List.length_take, List.length_take] at this
    omega
  have nd : ((List.range (l.length + 1)).map (stat' T l)).Nodup := by
    rw [List.nodup_iff_pairwise_ne, List.pairwise_map]
    refine List.Pairwise.imp_of_mem (R := (· < ·)) (fun {a b} ha hb hab => inj a b hab (by have := List.mem_range.1 hb; omega)) (List.pairwise_lt_range)
  have sub : ∀ x ∈ (List.range (l.length + 1)).map (stat' T l), x ∈ T.map (·.num) := fun x hx => by
    obtain ⟨i, hi, rfl⟩ := List.mem_map.1 hx
    have hi := List.mem_range.1 hi
    have : (nodeAt T (stat' T l i)).isSome = true := by
      by_cases e : i < l.length
      · obtain ⟨x, h3, _⟩ := (pre i (by omega)).2 e
        rw [h3]; rfl
      · have : stat' T l i = k := by unfold stat'; rw [List.take_of_length_le (by omega), h]
        rw [this]; exact hk
    obtain ⟨n, hn⟩ := Option.isSome_iff_exists.1 this
    obtain ⟨h1, h2⟩ := nodeAt_mem hn
    exact List.mem_map.2 ⟨n, h1, h2⟩
  have := nodup_sub nd sub
  simpa using this
theorem Reach.dn {B : Nat} {T : List Nd} (wf : TWf B T) (h : Reach T) : ∀ n ∈ T, Dn T T.length n.num := fun n hn => by
  obtain ⟨l, hl⟩ := (h n hn).walk
  have := stations wf hl (by rw [mem_nodeAt wf.nd hn]; rfl)
  exact ⟨l, by omega, hl⟩
theorem step_same {T : List Nd} {a : Nat} {f : Nd → Nd} (hf : ∀ n, (f n).num = n.num ∧ (f n).kind = n.kind ∧ (f n).ents = n.ents) {d : Nat} {w : Nm} {k : Nat} : Step (setP T a f) d w k ↔ Step T d w k := by
  unfold Step
  rw [nodeAt_set fun n => (hf n).1]
  by_cases e : d = a
  · subst e
    rw [if_pos rfl]
    constructor
    · rintro ⟨n, h1, h2, h3⟩
      obtain ⟨m, h4, rfl⟩ := Option.map_eq_some_iff.1 h1
      exact ⟨m, h4, by rw [← (hf m).2.1]; exact h2, by rw [← (hf m).2.2]; exact h3⟩
    · rintro ⟨n, h1, h2, h3⟩
      exact ⟨f n, by rw [h1]; rfl, by rw [(hf n).2.1]; exact h2, by rw [(hf n).2.2]; exact h3⟩
  · rw [if_neg e]
theorem Rch.mono {T T' : List Nd} (h : ∀ d w k, Step T d w k → Step T' d w k) {j : Nat} (hj : Rch T j) : Rch T' j := by
  induction hj with
  | root => exact .root
  | step _ hs ih => exact .step ih (h _ _ _ hs)
theorem Reach.of {T T' : List Nd} (h : Reach T) (hr : ∀ j, Rch T j → Rch T' j) (hn : T'.map (·.num) = T.map (·.num)) : Reach T' := fun n hm => by
  have : n.num ∈ T.map (·.num) := by rw [← hn]; exact List.mem_map.2 ⟨n, hm, rfl⟩
  obtain ⟨m, h1, h2⟩ := List.mem_map.1 this
  rw [← h2]
  exact hr _ (h m h1)
theorem step_del {T : List Nd} {a d : Nat} {w : Nm} {k : Nat} : Step (delP T a) d w k ↔ Step T d w k ∧ d ≠ a := by
  unfold Step
  rw [nodeAt_del]
  by_cases e : d = a
  · subst e; simp
  · rw [if_neg e]
    exact ⟨fun h => ⟨h, e⟩, fun h => h.1⟩
/-- Behind one entry dropped, whose node leads nowhere, all but that node is reached. -/
theorem Rch.drop {T : List Nd} {u a : Nat} {nm : Nm} (hua : Step T u nm a) (hx : ∃ x, nodeAt T a = some x ∧ x.ents = []) {j : Nat} (hj : Rch T j) (hja : j ≠ a) : Rch (setP T u (fE (dropE nm))) j := by
  induction hj with
  | root => exact .root
  | @step d k w hd hs ih =>
    have hda : d ≠ a := by
      rintro rfl
      obtain ⟨x, h1, h2⟩ := hx
      obtain ⟨n, h3, _, h5⟩ := hs
      rw [h1] at h3; cases h3
      rw [h2] at h5; cases h5
    refine .step (ih hda) (w := w) (lk_setE.2 ?_)
    obtain ⟨n, h3, h4, h5⟩ := hs
    refine ⟨n, h3, h4, ?_⟩
    by_cases e : d = u
    · subst e
      rw [if_pos rfl, lk_drop]
      by_cases ew : w = nm
      · subst ew
        exact absurd ((show Step T d w k from ⟨n, h3, h4, h5⟩).det hua) hja
      · rw [if_neg ew]; exact h5
    · rw [if_neg e]; exact h5
theorem Rch.del {T : List Nd} {a j : Nat} (hx : ∃ x, nodeAt T a = some x ∧ x.ents = []) (hj : Rch T j) (hja : j ≠ a) : Rch (delP T a) j := by
  induction hj with
  | root => exact .root
  | @step d k w hd hs ih =>
    have hda : d ≠ a := by
      rintro rfl
      obtain ⟨x, h1, h2⟩ := hx
      obtain ⟨n, h3, _, h5⟩ := hs
      rw [h1] at h3; cases h3
      rw [h2] at h5; cases h5
    exact .step (ih hda) (step_del.2 ⟨hs, hda⟩)
theorem delP_mem {T : List Nd} {a : Nat} {n : Nd} (h : n ∈ delP T a) : n ∈ T ∧ n.num ≠ a := by
  unfold delP at h
  rw [List.mem_filter] at h
  exact ⟨h.1, by simpa using h.2⟩
theorem setP_ents {T : List Nd} {u a : Nat} {g : List (Nm × Nat) → List (Nm × Nat)} (hg : g [] = []) (hx : ∃ x, nodeAt T a = some x ∧ x.ents = []) : ∃ x, nodeAt (setP T u (fE g)) a = some x ∧ x.ents = [] := by
  obtain ⟨x, h1, h2⟩ := hx
  rw [nodeAt_set (fE_num _)]
  by_cases e : a = u
  · subst e
    rw [if_pos rfl, h1]
    exact ⟨_, rfl, by show g x.ents = []; rw [h2]; exact hg⟩
  · rw [if_neg e]; exact ⟨x, h1, h2⟩
theorem Reach.gone {T : List Nd} (h : Reach T) {u a : Nat} {nm : Nm} (hua : Step T u nm a) (hx : ∃ x, nodeAt T a = some x ∧ x.ents = []) : Reach (delP (setP T u (fE (dropE nm))) a) := fun n hn => by
  obtain ⟨h1, h2⟩ := delP_mem hn
  have : n.num ∈ T.map (·.num) := by rw [← setP_nums (fE_num (dropE nm)) (T := T) (k := u)]; exact List.mem_map.2 ⟨n, h1, rfl⟩
  obtain ⟨m, h3, h4⟩ := List.mem_map.1 this
  have := h m h3
  rw [h4] at this
  exact Rch.del (setP_ents rfl hx) (Rch.drop hua hx this h2) h2
theorem Reach.make {B : Nat} {T : List Nd} (h : Reach T) (wf : TWf B T) (kind : Int) (path : Nm) : Reach (makeS T kind path).1 := by
  unfold makeS
  split
  · exact h
  split
  · exact h
  · rename_i h1 h2
    have hp : (placeS T path).2.2 = 0 := by simpa using h1
    obtain ⟨x, h3, h4, h5, _⟩ := place_at hp
    obtain ⟨f1, _, _⟩ := free_spec wf.sorted (by omega)
    have hpu : Rch T (placeS T path).1 := by
      have := h x (nodeAt_mem h3).1
      rw [(nodeAt_mem h3).2] at this
      exact this
    generalize (placeS T path).1 = u at *
    generalize (placeS T path).2.1 = nm at *
    generalize freeS T = a at *
    have hau : u ≠ a := fun e => by rw [e, f1] at h3; cases h3
    have mono : ∀ d w k, Step T d w k → Step (setP (insP (newNd a kind) T) u (fE (putE nm a))) d w k := fun d w k ⟨n, g1, g2, g3⟩ => by
      refine lk_setE.2 ⟨n, ?_, g2, ?_⟩
      · rw [nodeAt_ins, if_neg]
        · exact g1
        · intro e
          rw [show (newNd a kind).num = a from rfl] at e
          rw [e, f1] at g1; cases g1
      · by_cases e : d = u
        · subst e
          rw [h3] at g1; cases g1
          rw [if_pos rfl, lk_put, if_neg]
          · exact g3
          · intro e
            subst e
            rw [h5] at g3; cases g3
        · rw [if_neg e]; exact g3
    intro n hn
    have : n.num ∈ (insP (newNd a kind) T).map (·.num) := by rw [← setP_nums (fE_num (putE nm a)) (T := insP (newNd a kind) T) (k := u)]; exact List.mem_map.2 ⟨n, hn, rfl⟩
    obtain ⟨m, g1, g2⟩ := List.mem_map.1 this
    rw [← g2]
    rcases insP_mem.1 g1 with rfl | g1
    · refine .step (Rch.mono mono hpu) (w := nm) (lk_setE.2 ⟨x, ?_, h4, ?_⟩)
      · rw [nodeAt_ins, if_neg (show ¬ u = (newNd a kind).num from hau)]; exact h3
      · rw [if_pos rfl, lk_put, if_pos rfl]; rfl
    · exact Rch.mono mono (h m g1)
theorem Reach.rmdir {T : List Nd} (h : Reach T) (path : Nm) : Reach (rmdirS T path).1 := by
  unfold rmdirS
  split
  · exact h
  · rename_i h1
    obtain ⟨x, x1, x2, x3, _⟩ := entry_ok' (show (entryS T path).2.2.2 = 0 by simpa using h1)
    split
    · exact h
    · rename_i n hn
      split
      · exact h
      split
      · exact h
      · rename_i h3
        exact Reach.gone h ⟨x, x1, x2, x3⟩ ⟨n, hn, by simpa using h3⟩
theorem Reach.unlink {B : Nat} {T : List Nd} (h : Reach T) (wf : TWf B T) (path : Nm) : Reach (unlinkS T path).1 := by
  unfold unlinkS
  split
  · exact h
  · rename_i h1
    obtain ⟨x, x1, x2, x3, _⟩ := entry_ok' (show (entryS T path).2.2.2 = 0 by simpa using h1)
    split
    · exact h
    · rename_i n hn
      split
      · exact h
      rename_i hk
      have hnk : n.ents = [] := by
        rcases (wf.at' hn).1.kind with ⟨h1, _⟩ | ⟨_, h1⟩
        · exact absurd h1 hk
        · exact h1
      generalize (entryS T path).1 = u at *
      generalize (entryS T path).2.1 = nm at *
      generalize (entryS T path).2.2.1 = a at *
      have same : ∀ {T : List Nd} {d : Nat} {w : Nm} {k : Nat}, Step (setP T a (fL (-1))) d w k ↔ Step T d w k := step_same (f := fL (-1)) fun n => ⟨rfl, rfl, rfl⟩
      split
      · rw [delP_set _ _ (fL_num _)]
        exact Reach.gone h ⟨x, x1, x2, x3⟩ ⟨n, hn, hnk⟩
      · rename_i hl
        refine Reach.of (T := T) h (fun j hj => ?_) (by rw [setP_nums (fL_num _), setP_nums (fE_num _)])
        have ne : ∀ j, Rch T j → j ≠ a → Rch (setP (setP T u (fE (dropE nm))) a (fL (-1))) j := fun j hj hja => Rch.mono (fun d w k hs => same.2 hs) (Rch.drop ⟨x, x1, x2, x3⟩ ⟨n, hn, hnk⟩ hj hja)
        by_cases e : j = a
        · subst e
          have h0 : j ≠ 0 := ((wf.at' x1).1.name _ (lk_mem x3)).2
          have hr := refs_set (f := fE (dropE nm)) j wf.nd x1
          have hd := cntE_drop (nm := nm) (j := j) j (nodupE (wf.at' x1).1.sort) x3
          rw [if_pos rfl] at hd
          have hc := wf.cnt' hn h0
          have hlp := (wf.at' hn).1.lpos
          have : 0 < refs (setP T u (fE (dropE nm))) j := by
            have e1 : cntE (fE (dropE nm) x).ents j = cntE (dropE nm x.ents) j := rfl
            rw [e1] at hr
            omega
          have : ∃ m ∈ setP T u (fE (dropE nm)), ∃ e ∈ m.ents, e.2 = j := Classical.byContradiction fun hno => by
            have := refs_zero (T := setP T u (fE (dropE nm))) (k := j) fun m hm e he hej => hno ⟨m, hm, e, he, hej⟩
            omega
          obtain ⟨m, hm, e, he, hej⟩ := this
          have ndT : ((setP T u (fE (dropE nm))).map (·.num)).Nodup := by rw [setP_nums (fE_num _)]; exact wf.nd
          have hma := mem_nodeAt ndT hm
          -- the node m is a directory that is reached
          have hmm : ∃ m0, nodeAt T m.num = some m0 ∧ m0.kind = m.kind ∧ (m.ents ≠ [] → m0.ents ≠ []) ∧ (m.ents.map (·.1)).Nodup := by
            rw [nodeAt_set (fE_num _)] at hma
            by_cases eu : m.num = u
            · rw [if_pos eu, ← eu] at hma
              rw [eu, x1] at hma
              cases hma
              refine ⟨x, by rw [eu]; exact x1, rfl, fun hne hx => hne ?_, ?_⟩
              · show dropE nm x.ents = []
                rw [hx]; rfl
              · exact (nodupE (wf.at' x1).1.sort).sublist (List.filter_sublist.map _)
            · rw [if_neg eu] at hma
              exact ⟨m, hma, rfl, fun h => h, nodupE (wf.at' hma).1.sort⟩
          obtain ⟨m0, g1, g2, g3, g4⟩ := hmm
          have hne : m.ents ≠ [] := fun h => by rw [h] at he; cases he
          have hk1 : m0.kind = 1 := by
            rcases (wf.at' g1).1.kind with ⟨h, _⟩ | ⟨_, h⟩
            · exact h
            · exact absurd h (g3 hne)
          have hmj : m.num ≠ j := fun e => by
            rw [e, hn] at g1
            cases g1
            exact hk hk1
          have rm : Rch T m.num := by
            have := h m0 (nodeAt_mem g1).1
            rw [(nodeAt_mem g1).2] at this
            exact this
          refine .step (ne _ rm hmj) (w := e.1) (same.2 ⟨m, hma, by rw [← g2]; exact hk1, ?_⟩)
          rw [lk_of_mem g4 he, hej]
        · exact ne j hj e
theorem Reach.link {B : Nat} {T : List Nd} (h : Reach T) (_ : TWf B T) (path other : Nm) : Reach (linkS T path other).1 := by
  unfold linkS
  split
  · exact h
  split
  · exact h
  · rename_i h1 h2
    obtain ⟨x, h3, h4, h5, _⟩ := place_at (show (placeS T other).2.2 = 0 by simpa using h2)
    refine Reach.of (T := T) h (fun j hj => Rch.mono (fun d w k hs => ?_) hj) (by rw [setP_nums (fL_num _), setP_nums (fE_num _)])
    refine (step_same (f := fL 1) fun n => ⟨rfl, rfl, rfl⟩).2 (lk_setE.2 ?_)
    obtain ⟨n, g1, g2, g3⟩ := hs
    refine ⟨n, g1, g2, ?_⟩
    by_cases e : d = (placeS T other).1
    · rw [if_pos e, lk_put, if_neg]
      · exact g3
      · intro e2
        rw [e, h3] at g1; cases g1
        rw [e2, h5] at g3; cases g3
    · rw [if_neg e]; exact g3
theorem Reach.rename {B : Nat} {T : List Nd} (h : Reach T) (wf : TWf B T) (p q : Nm) : Reach (renameS T p q).1 := by
  by_cases e : (renameS T p q).2 ≠ 0 ∨ q = p
  · rw [rename_err e]; exact h
  · have e1 : (renameS T p q).2 = 0 := Classical.byContradiction fun h => e (.inl h)
    have e2 : q ≠ p := fun h => e (.inr h)
    have mv := renamed wf e2 e1
    exact Reach.of h mv.rch mv.nums
theorem Reach.bytes {T : List Nd} (h : Reach T) (a : Nat) (g : List UInt8 → List UInt8) : Reach (setP T a (fD g)) :=
  Reach.of (T := T) h (fun _ hj => Rch.mono (fun _ _ _ hs => (step_same (f := fD g) fun _ => ⟨rfl, rfl, rfl⟩).2 hs) hj) (setP_nums (fD_num g))
theorem Reach.do {B : Nat} {T : List Nd} (h : Reach T) (wf : TWf B T) (kind : Int) (path other : Nm) (off n : Int) (d : List UInt8) : Reach (doS T kind path other off n d).1 := by
  unfold doS
  split
  · exact h.make wf kind path
  split
  · exact h.rmdir path
  split
  · exact h.unlink wf path
  split
  · exact h.link wf path other
  split
  · exact h.rename wf path other
  split
  · show Reach (writeS T path off d).1
    unfold writeS
    split
    · exact h
    split
    · exact h
    split
    · exact h
    split
    · exact h
    · exact h.bytes _ _
  split
  · exact h
  split
  · show Reach (cutS T path n).1
    unfold cutS
    split
    · exact h
    split
    · exact h
    split
    · exact h
    · exact h.bytes _ _
  split
  · exact h
  split
  · exact h
  split
  · exact h
  · exact h
end Go.Proofs.YtdieogcemmnaaaaGreatDoor


/- tree.whole: what it tells, plain: the root is a directory, entries lead somewhere, each other node is reached, and has as many links as entries. No condition. -/
namespace Go.Proofs.YtdieogcemmnaaaaGreatDoor
open Go.Proofs.YtdieogcemmnaaaaGreatDoor RX
set_option maxRecDepth 100000

/-! A walk through a map: its stamps, and the keys that have been. -/
structure Rng {κ : Type} (l : AL κ) (S : Array Nat) (P : List κ) : Prop where
  nd : P.Nodup
  sub : ∀ k ∈ P, k ∈ l.map (·.1)
  iff : ∀ x ∈ l, (x.2.2 ∈ S ↔ x.1 ∈ P)
theorem Rng.nil {κ : Type} (l : AL κ) : Rng l #[] [] := ⟨List.nodup_nil, fun _ h => by (cases h), fun x _ => by simp⟩
theorem Rng.step {κ : Type} {l : AL κ} {c : Nat} {S : Array Nat} {P : List κ} (hI : MapI l c) (h : Rng l S P) {x : κ × Value × Nat} (hx : x ∈ l) (hS : x.2.2 ∉ S) : x.1 ∉ P ∧ Rng l (S.push x.2.2) (P ++ [x.1]) := by
  have hP : x.1 ∉ P := fun e => hS ((h.iff x hx).2 e)
  refine ⟨hP, List.nodup_append.2 ⟨h.nd, by simp, fun a ha b hb => ?_⟩, fun k hk => ?_, fun y hy => ?_⟩
  · simp only [List.mem_singleton] at hb
    subst hb
    exact fun e => hP (e ▸ ha)
  · rcases List.mem_append.1 hk with hk | hk
    · exact h.sub k hk
    · obtain rfl := List.mem_singleton.1 hk
      exact List.mem_map.2 ⟨x, hx, rfl⟩
  · rw [Array.mem_push, List.mem_append, List.mem_singleton, h.iff y hy]
    constructor
    · rintro (e | e)
      · exact .inl e
      · obtain rfl := map_inj (fun z : κ × Value × Nat => z.2.2) hI.2.nodup hy hx e
        exact .inr rfl
    · rintro (e | e)
      · exact .inl e
      · obtain rfl := map_inj (fun z : κ × Value × Nat => z.1) hI.1 hy hx e
        exact .inr rfl
theorem Rng.done {κ : Type} {l : AL κ} {S : Array Nat} {P : List κ} (h : Rng l S P) (ha : ∀ x ∈ l, x.2.2 ∈ S) : ∀ k ∈ l.map (·.1), k ∈ P := fun k hk => by
  obtain ⟨x, hx, rfl⟩ := List.mem_map.1 hk
  exact (h.iff x hx).1 (ha x hx)

/-! Sums over numbers. -/
theorem sum_perm {l m : List Nat} (h : l.Perm m) : l.sum = m.sum := by
  induction h with
  | nil => rfl
  | cons x _ ih => simp [ih]
  | swap x y l => simp; omega
  | trans _ _ h1 h2 => exact h1.trans h2
theorem sum_le {g : Nat → Nat} : ∀ {D M : List Nat}, D.Nodup → (∀ d ∈ D, d ∈ M) → (D.map g).sum ≤ (M.map g).sum
  | [], _, _, _ => by simp
  | d :: D, M, hn, hs => by
    rw [List.nodup_cons] at hn
    have hp := List.perm_cons_erase (hs d (by simp))
    have := sum_perm (hp.map g)
    have ih := sum_le (g := g) (D := D) (M := M.erase d) hn.2 fun x hx => (List.mem_erase_of_ne (fun e => hn.1 (by rw [← e]; exact hx))).2 (hs x (by simp [hx]))
    rw [this]; simp; omega
theorem sum_eq {g : Nat → Nat} : ∀ {D M : List Nat}, D.Nodup → M.Nodup → (∀ d ∈ D, d ∈ M) → (∀ m ∈ M, m ∉ D → g m = 0) → (D.map g).sum = (M.map g).sum
  | [], M, _, _, _, hz => by
    have : ∀ M : List Nat, (∀ m ∈ M, g m = 0) → (M.map g).sum = 0 := fun M => by
      induction M with
      | nil => intro _; rfl
      | cons x M ih =>
        intro h
        rw [List.map_cons, List.sum_cons, h x (by simp), ih fun m hm => h m (by simp [hm])]
    rw [this M fun m hm => hz m hm (by simp)]; rfl
  | d :: D, M, hn, hM, hs, hz => by
    rw [List.nodup_cons] at hn
    have hp := List.perm_cons_erase (hs d (by simp))
    have h1 := sum_perm (hp.map g)
    have ih := sum_eq (g := g) (D := D) (M := M.erase d) hn.2 (hM.erase d) (fun x hx => (List.mem_erase_of_ne (fun e => hn.1 (by rw [← e]; exact hx))).2 (hs x (by simp [hx]))) fun m hm hD => by
      have h2 := (List.Nodup.mem_erase_iff hM).1 hm
      exact hz m h2.2 (by simp [h2.1, hD])
    rw [h1]; simp; omega

def entsAt (T : List Nd) (d : Nat) : List (Nm × Nat) := match nodeAt T d with
  | some n => n.ents
  | none => []
def seenD (T : List Nd) (D : List Nat) (k : Nat) : Nat := (D.map fun d => cntE (entsAt T d) k).sum
def isDir (T : List Nd) (d : Nat) : Prop := ∃ n, nodeAt T d = some n ∧ n.kind = 1
/-- A whole tree. -/
structure WholeT (T : List Nd) : Prop where
  root : isDir T 0
  tgt : ∀ n ∈ T, ∀ e ∈ n.ents, (nodeAt T e.2).isSome = true ∧ e.2 ≠ 0
  cnt : ∀ n ∈ T, n.num ≠ 0 → (refs T n.num : Int) = n.links ∧ Rch T n.num
open Classical in
noncomputable def wholeS (T : List Nd) : Bool := decide (WholeT T)

theorem okN_all : ∀ {last : Int} {T : List Nd}, okN last T = true → (∀ n ∈ T, last < n.num ∧ n.num < 64 ∧ goodS n = true) ∧ (T.map (·.num)).Pairwise (· < ·)
  | _, [], _ => ⟨fun _ h => (by cases h), List.Pairwise.nil⟩
  | last, n :: r, h => by
    unfold okN at h
    simp only [Bool.and_eq_true, decide_eq_true_eq] at h
    obtain ⟨⟨⟨h1, h2⟩, h3⟩, h4⟩ := h
    obtain ⟨g1, g2⟩ := okN_all h4
    refine ⟨fun x hx => ?_, ?_⟩
    · rcases List.mem_cons.1 hx with rfl | hx
      · exact ⟨h1, by omega, h3⟩
      · have := g1 x hx; exact ⟨by omega, this.2⟩
    · rw [List.map_cons, List.pairwise_cons]
      exact ⟨fun y hy => by obtain ⟨x, hx, rfl⟩ := List.mem_map.1 hy; have := (g1 x hx).1; omega, g2⟩
/-- What nodes are that may be one tree's, each by itself. -/
structure Prep (T : List Nd) : Prop where
  nd : (T.map (·.num)).Nodup
  few : ∀ n ∈ T, n.num < 64
  good : ∀ n ∈ T, goodS n = true
theorem Prep.of {T : List Nd} (h : okN (-1) T = true) : Prep T := by
  obtain ⟨h1, h2⟩ := okN_all h
  exact ⟨h2.imp fun hab e => by omega, fun n hn => (h1 n hn).2.1, fun n hn => (h1 n hn).2.2⟩
theorem goodS_dir {n : Nd} (h : goodS n = true) (hk : n.kind = 1) : n.links = 1 ∧ (n.ents.map (·.1)).Nodup := by
  unfold goodS at h
  rw [if_pos hk] at h
  simp only [Bool.and_eq_true, decide_eq_true_eq] at h
  exact ⟨h.1.2, nodup_of' (okE_lt h.2).2.1⟩
theorem goodS_file {n : Nd} (h : goodS n = true) (hk : n.kind ≠ 1) : n.ents = [] := by
  unfold goodS at h
  rw [if_neg hk] at h
  split at h
  · simp only [Bool.and_eq_true, decide_eq_true_eq] at h; exact h.2
  · cases h
theorem goodS_nd {n : Nd} (h : goodS n = true) : (n.ents.map (·.1)).Nodup := by
  by_cases hk : n.kind = 1
  · exact (goodS_dir h hk).2
  · rw [goodS_file h hk]; exact List.nodup_nil
variable {T : List Nd}
theorem Prep.at (p : Prep T) {n : Nd} (hn : n ∈ T) : nodeAt T n.num = some n := mem_nodeAt p.nd hn
theorem Prep.ents (p : Prep T) {n : Nd} (hn : n ∈ T) : entsAt T n.num = n.ents := by unfold entsAt; rw [p.at hn]
theorem Prep.refs (p : Prep T) (k : Nat) : refs T k = ((T.map (·.num)).map fun d => cntE (entsAt T d) k).sum := by
  unfold Go.Proofs.YtdieogcemmnaaaaGreatDoor.refs
  rw [List.map_map]
  congr 1
  exact List.map_congr_left fun n hn => by simp only [Function.comp_apply]; rw [p.ents hn]
theorem isDir.mem {d : Nat} (h : isDir T d) : d ∈ T.map (·.num) := by
  obtain ⟨n, h1, _⟩ := h
  obtain ⟨h2, h3⟩ := nodeAt_mem h1
  exact List.mem_map.2 ⟨n, h2, h3⟩
theorem Prep.le (p : Prep T) {D : List Nat} (hD : D.Nodup) (hd : ∀ d ∈ D, isDir T d) (k : Nat) : seenD T D k ≤ Go.Proofs.YtdieogcemmnaaaaGreatDoor.refs T k := by
  rw [p.refs]
  exact sum_le hD fun d h => (hd d h).mem
theorem Prep.eq (p : Prep T) {D : List Nat} (hD : D.Nodup) (hd : ∀ d ∈ D, isDir T d) (hall : ∀ d, isDir T d → d ∈ D) (k : Nat) : seenD T D k = Go.Proofs.YtdieogcemmnaaaaGreatDoor.refs T k := by
  rw [p.refs]
  refine sum_eq hD p.nd (fun d h => (hd d h).mem) fun m hm hn => ?_
  obtain ⟨n, h1, rfl⟩ := List.mem_map.1 hm
  show cntE (entsAt T n.num) k = 0
  have : n.kind ≠ 1 := fun e => hn (hall _ ⟨n, p.at h1, e⟩)
  rw [p.ents h1, goodS_file (p.good n h1) this]; rfl
theorem seenD_cons (T : List Nd) (u : Nat) (D : List Nat) (k : Nat) : seenD T (u :: D) k = cntE (entsAt T u) k + seenD T D k := by simp [seenD]
theorem cntE_sub {l m : List (Nm × Nat)} (hn : l.Nodup) (hs : ∀ e ∈ l, e ∈ m) (k : Nat) : cntE l k ≤ cntE m k := by
  unfold cntE
  rw [List.countP_eq_length_filter, List.countP_eq_length_filter]
  refine nodup_sub (hn.filter _) fun e he => ?_
  rw [List.mem_filter] at he ⊢
  exact ⟨hs e he.1, he.2⟩
theorem cntE_snoc (l : List (Nm × Nat)) (e : Nm × Nat) (k : Nat) : cntE (l ++ [e]) k = cntE l k + if e.2 = k then 1 else 0 := by
  unfold cntE
  rw [List.countP_append]; simp [List.countP_cons]
/-- The walk's state: directories that have been, and those that wait. -/
structure WI (T : List Nd) (D st : List Nat) (f : Nat → Nat) : Prop where
  nd : (D ++ st).Nodup
  dir : ∀ d ∈ D ++ st, isDir T d ∧ Rch T d
  root : 0 ∈ D ++ st
  one : ∀ d ∈ D ++ st, d ≠ 0 → 1 ≤ f d
  all : ∀ d, isDir T d → d ≠ 0 → 1 ≤ f d → d ∈ D ++ st
theorem WI.init (h : isDir T 0) : WI T [] [0] fun _ => 0 := by
  refine ⟨by simp, fun d hd => ?_, by simp, fun d hd h0 => ?_, fun d _ _ h1 => by omega⟩
  · obtain rfl : d = 0 := by simpa using hd
    exact ⟨h, .root⟩
  · exact absurd (by simpa using hd) h0
theorem WI.pop {D st : List Nat} {u : Nat} {f : Nat → Nat} (h : WI T D (st ++ [u]) f) : WI T (u :: D) st f := by
  have hp : (D ++ (st ++ [u])).Perm (u :: D ++ st) := by
    rw [← List.append_assoc]
    exact List.perm_append_comm (l₁ := D ++ st) (l₂ := [u])
  have hm : ∀ d, d ∈ D ++ (st ++ [u]) ↔ d ∈ u :: D ++ st := fun d => hp.mem_iff
  exact ⟨hp.nodup h.nd, fun d hd => h.dir d ((hm d).2 hd), (hm 0).1 h.root, fun d hd => h.one d ((hm d).2 hd), fun d a b c => (hm d).1 (h.all d a b c)⟩
theorem WI.file {D st : List Nat} {f : Nat → Nat} (h : WI T D st f) {k : Nat} (hk : ¬ isDir T k) : WI T D st fun q => if q = k then f k + 1 else f q := by
  refine ⟨h.nd, h.dir, h.root, fun d hd h0 => ?_, fun d hd h0 h1 => ?_⟩
  · have := h.one d hd h0
    show 1 ≤ (if d = k then f k + 1 else f d)
    split
    · omega
    · exact this
  · have h1 : 1 ≤ (if d = k then f k + 1 else f d) := h1
    rw [if_neg (fun e => hk (by rw [← e]; exact hd))] at h1
    exact h.all d hd h0 h1
theorem WI.push {D st : List Nat} {f : Nat → Nat} (h : WI T D st f) {k : Nat} (hk : isDir T k) (hr : Rch T k) (h0 : k ≠ 0) (hf : f k = 0) : WI T D (st ++ [k]) fun q => if q = k then f k + 1 else f q := by
  have hn : k ∉ D ++ st := fun e => by have := h.one k e h0; omega
  have hm : ∀ d, d ∈ D ++ (st ++ [k]) ↔ d ∈ D ++ st ∨ d = k := fun d => by simp [or_assoc]
  refine ⟨?_, fun d hd => ?_, (hm 0).2 (.inl h.root), fun d hd hd0 => ?_, fun d hd hd0 h1 => ?_⟩
  · rw [← List.append_assoc]
    refine List.nodup_append.2 ⟨h.nd, by simp, fun a ha b hb e => ?_⟩
    obtain rfl := List.mem_singleton.1 hb
    exact hn (e ▸ ha)
  · rcases (hm d).1 hd with hd | rfl
    · exact h.dir d hd
    · exact ⟨hk, hr⟩
  · show 1 ≤ (if d = k then f k + 1 else f d)
    split
    · omega
    · rename_i e
      exact h.one d (((hm d).1 hd).resolve_right e) hd0
  · by_cases e : d = k
    · exact (hm d).2 (.inr e)
    · have h1 : 1 ≤ (if d = k then f k + 1 else f d) := h1
      rw [if_neg e] at h1
      exact (hm d).2 (.inl (h.all d hd hd0 h1))
theorem WI.few {D st : List Nat} {f : Nat → Nat} (h : WI T D st f) : D.length + st.length ≤ T.length := by
  have := nodup_sub h.nd (m := T.map (·.num)) fun d hd => (h.dir d hd).1.mem
  simpa using this
/-- At the walk's end. -/
structure WEnd (T : List Nd) (D : List Nat) (f : Nat → Nat) : Prop where
  wi : WI T D [] f
  f : ∀ k, f k = seenD T D k
  tgt : ∀ d ∈ D, ∀ e ∈ entsAt T d, (nodeAt T e.2).isSome = true ∧ e.2 ≠ 0
theorem Step.ent {d k : Nat} {w : Nm} (h : Step T d w k) : isDir T d ∧ (w, k) ∈ entsAt T d := by
  obtain ⟨n, h1, h2, h3⟩ := h
  exact ⟨⟨n, h1, h2⟩, by unfold entsAt; rw [h1]; exact lk_mem h3⟩
theorem Prep.step (p : Prep T) {d k : Nat} {w : Nm} (h : isDir T d) (he : (w, k) ∈ entsAt T d) : Step T d w k := by
  obtain ⟨n, h1, h2⟩ := h
  refine ⟨n, h1, h2, ?_⟩
  unfold entsAt at he
  rw [h1] at he
  exact lk_of_mem (goodS_nd (p.good n (nodeAt_mem h1).1)) he
theorem seenD_pos {D : List Nat} {d k : Nat} {w : Nm} (hd : d ∈ D) (he : (w, k) ∈ entsAt T d) : 1 ≤ seenD T D k := by
  have h1 := cntE_pos he
  have h2 := sum_le (g := fun d => cntE (entsAt T d) k) (D := [d]) (M := D) (by simp) fun x hx => by obtain rfl := List.mem_singleton.1 hx; exact hd
  simp only [List.map_cons, List.map_nil, List.sum_cons, List.sum_nil] at h2
  unfold seenD; omega
theorem seenD_ex {D : List Nat} {k : Nat} (h : seenD T D k ≠ 0) : ∃ d ∈ D, ∃ w, (w, k) ∈ entsAt T d := by
  induction D with
  | nil => exact absurd rfl h
  | cons u D ih =>
    rw [seenD_cons] at h
    by_cases h1 : cntE (entsAt T u) k = 0
    · obtain ⟨d, hd, w, hw⟩ := ih (by omega)
      exact ⟨d, by simp [hd], w, hw⟩
    · have : 0 < (entsAt T u).countP fun e => decide (e.2 = k) := Nat.pos_of_ne_zero h1
      obtain ⟨e, h2, h3⟩ := List.countP_pos_iff.1 this
      have h3 : e.2 = k := by simpa using h3
      exact ⟨u, by simp, e.1, by rw [← h3]; exact h2⟩
theorem WEnd.dirs {D : List Nat} {f : Nat → Nat} (h : WEnd T D f) {k : Nat} (hr : Rch T k) : isDir T k → k ∈ D := by
  induction hr with
  | root => exact fun _ => by simpa using h.wi.root
  | @step d k w _ hs ih =>
    intro hk
    obtain ⟨h1, h2⟩ := hs.ent
    have hd := ih h1
    by_cases h0 : k = 0
    · subst h0; simpa using h.wi.root
    · have := seenD_pos hd h2
      have := h.wi.all k hk h0 (by rw [h.f]; exact this)
      simpa using this
theorem WEnd.no (p : Prep T) {D : List Nat} {f : Nat → Nat} (h : WEnd T D f) {n : Nd} (hn : n ∈ T) (h0 : n.num ≠ 0) (hb : f n.num = 0 ∨ (f n.num : Int) ≠ n.links) : ¬ WholeT T := fun w => by
  have hall : ∀ d, isDir T d → d ∈ D := fun d hd => by
    by_cases e : d = 0
    · subst e; simpa using h.wi.root
    · obtain ⟨x, hx, hk⟩ := hd
      obtain ⟨h1, h2⟩ := nodeAt_mem hx
      have := (w.cnt x h1 (by omega)).2
      rw [h2] at this
      exact h.dirs this ⟨x, hx, hk⟩
  have hD : D.Nodup := by simpa using h.wi.nd
  have hdir : ∀ d ∈ D, isDir T d := fun d hd => (h.wi.dir d (by simpa using hd)).1
  have he := p.eq hD hdir hall n.num
  obtain ⟨h1, h2⟩ := w.cnt n hn h0
  rw [h.f, he] at hb
  rcases hb with hb | hb
  · generalize hk : n.num = k at h2
    cases h2 with
    | root => exact h0 hk
    | @step d _ nm hd hs =>
      obtain ⟨g1, g2⟩ := hs.ent
      have := seenD_pos (hall _ g1) g2
      rw [← hk, he] at this
      omega
  · exact hb h1
theorem WEnd.yes (p : Prep T) {D : List Nat} {f : Nat → Nat} (h : WEnd T D f) (ha : ∀ n ∈ T, n.num ≠ 0 → f n.num ≠ 0 ∧ (f n.num : Int) = n.links) : WholeT T := by
  have hall : ∀ d, isDir T d → d ∈ D := fun d hd => by
    by_cases e : d = 0
    · subst e; simpa using h.wi.root
    · obtain ⟨x, hx, hk⟩ := hd
      obtain ⟨h1, h2⟩ := nodeAt_mem hx
      have := (ha x h1 (by omega)).1
      have := h.wi.all d ⟨x, hx, hk⟩ e (by rw [← h2]; omega)
      simpa using this
  have hD : D.Nodup := by simpa using h.wi.nd
  have hdir : ∀ d ∈ D, isDir T d ∧ Rch T d := fun d hd => h.wi.dir d (by simpa using hd)
  have he := p.eq hD (fun d hd => (hdir d hd).1) hall
  refine ⟨(hdir 0 (by simpa using h.wi.root)).1, fun n hn e hE => ?_, fun n hn h0 => ?_⟩
  · by_cases hk : n.kind = 1
    · exact h.tgt n.num (hall _ ⟨n, p.at hn, hk⟩) e (by rw [p.ents hn]; exact hE)
    · rw [goodS_file (p.good n hn) hk] at hE; cases hE
  · obtain ⟨h1, h2⟩ := ha n hn h0
    rw [h.f] at h1 h2
    refine ⟨by rw [← he]; exact h2, ?_⟩
    obtain ⟨d, hd, w, hw⟩ := seenD_ex h1
    exact .step (hdir d hd).2 (p.step (hdir d hd).1 hw)
/-- In the walk: one directory's entries. -/
structure WIn (T : List Nd) (u : Nat) (D st : List Nat) (P : List (Nm × Nat)) (f : Nat → Nat) : Prop where
  wi : WI T (u :: D) st f
  f : ∀ k, f k = seenD T D k + cntE P k
  tgt : ∀ d ∈ D, ∀ e ∈ entsAt T d, (nodeAt T e.2).isSome = true ∧ e.2 ≠ 0
  nd : (P.map (·.1)).Nodup
  sub : ∀ e ∈ P, e ∈ entsAt T u ∧ (nodeAt T e.2).isSome = true ∧ e.2 ≠ 0
theorem nodup_map {α β : Type} {g : α → β} {l : List α} (h : (l.map g).Nodup) : l.Nodup := by
  rw [List.nodup_iff_pairwise_ne, List.pairwise_map] at h
  exact h.imp fun hab e => hab (by rw [e])
theorem WIn.lt (p : Prep T) {u : Nat} {D st : List Nat} {P : List (Nm × Nat)} {f : Nat → Nat} (h : WIn T u D st P f) {e : Nm × Nat} (he : e ∈ entsAt T u) (hP : e.1 ∉ P.map (·.1)) : f e.2 + 1 ≤ refs T e.2 := by
  have h1 : cntE (P ++ [e]) e.2 ≤ cntE (entsAt T u) e.2 := by
    refine cntE_sub (List.nodup_append.2 ⟨nodup_map h.nd, by simp, fun a ha b hb q => ?_⟩) (fun x hx => ?_) _
    · obtain rfl := List.mem_singleton.1 hb
      subst q
      exact hP (List.mem_map.2 ⟨a, ha, rfl⟩)
    · rcases List.mem_append.1 hx with hx | hx
      · exact (h.sub x hx).1
      · obtain rfl := List.mem_singleton.1 hx; exact he
  have hn : (u :: D).Nodup := (List.nodup_append.1 h.wi.nd).1
  have h2 := p.le hn (fun d hd => (h.wi.dir d (by simp only [List.mem_append]; exact .inl hd)).1) e.2
  rw [seenD_cons] at h2
  rw [cntE_snoc, if_pos rfl] at h1
  have := h.f e.2
  omega
theorem WIn.snoc {u : Nat} {D st st' : List Nat} {P : List (Nm × Nat)} {f : Nat → Nat} (h : WIn T u D st P f) {e : Nm × Nat} (he : e ∈ entsAt T u) (hP : e.1 ∉ P.map (·.1)) (h1 : (nodeAt T e.2).isSome = true) (h0 : e.2 ≠ 0)
    (hw : WI T (u :: D) st' fun q => if q = e.2 then f e.2 + 1 else f q) : WIn T u D st' (P ++ [e]) fun q => if q = e.2 then f e.2 + 1 else f q := by
  refine ⟨hw, fun k => ?_, h.tgt, ?_, fun x hx => ?_⟩
  · rw [cntE_snoc]
    by_cases q : k = e.2
    · subst q; simp [h.f]; omega
    · have q2 : ¬ e.2 = k := fun q2 => q q2.symm
      simp [h.f, q, q2]
  · rw [List.map_append, List.nodup_append]
    refine ⟨h.nd, by simp, fun a ha b hb q => ?_⟩
    simp only [List.map_cons, List.map_nil, List.mem_singleton] at hb
    subst hb; subst q
    exact hP ha
  · rcases List.mem_append.1 hx with hx | hx
    · exact h.sub x hx
    · obtain rfl := List.mem_singleton.1 hx; exact ⟨he, h1, h0⟩
/-- Behind one directory. -/
theorem WIn.out {u : Nat} {D st : List Nat} {P : List (Nm × Nat)} {f : Nat → Nat} (p : Prep T) (h : WIn T u D st P f) (hall : ∀ e ∈ entsAt T u, e.1 ∈ P.map (·.1)) :
    (∀ k, f k = seenD T (u :: D) k) ∧ ∀ d ∈ u :: D, ∀ e ∈ entsAt T d, (nodeAt T e.2).isSome = true ∧ e.2 ≠ 0 := by
  have hnd : ((entsAt T u).map (·.1)).Nodup := by
    obtain ⟨n, h1, _⟩ := (h.wi.dir u (by simp)).1
    unfold entsAt; rw [h1]; exact goodS_nd (p.good n (nodeAt_mem h1).1)
  have hmem : ∀ e ∈ entsAt T u, e ∈ P := fun e he => by
    obtain ⟨x, hx, hx1⟩ := List.mem_map.1 (hall e he)
    obtain rfl := map_inj (fun z : Nm × Nat => z.1) hnd (h.sub x hx).1 he hx1
    exact hx
  refine ⟨fun k => ?_, fun d hd e he => ?_⟩
  · have h1 := cntE_sub (nodup_map h.nd) (fun e he => (h.sub e he).1) k
    have h2 := cntE_sub (nodup_map hnd) hmem k
    rw [seenD_cons, h.f]; omega
  · rcases List.mem_cons.1 hd with rfl | hd
    · exact (h.sub e (hmem e he)).2
    · exact h.tgt d hd e he
theorem sum_most (g : Nd → Nat) (M : Nat) : ∀ {T : List Nd}, (∀ n ∈ T, g n ≤ M) → (T.map g).sum ≤ T.length * M
  | [], _ => by simp
  | n :: r, h => by
    have := sum_most g M (T := r) fun x hx => h x (by simp [hx])
    have := h n (by simp)
    rw [List.map_cons, List.sum_cons, List.length_cons, Nat.add_mul]; omega
theorem Prep.most (p : Prep T) {M : Nat} (h : ∀ n ∈ T, n.ents.length ≤ M) (k : Nat) : Go.Proofs.YtdieogcemmnaaaaGreatDoor.refs T k ≤ 64 * M := by
  have h1 := sum_most (fun n => cntE n.ents k) M (T := T) fun n hn => Nat.le_trans List.countP_le_length (h n hn)
  have h2 : T.length ≤ 64 := by
    have := nodup_sub p.nd (m := List.range 64) fun x hx => by
      obtain ⟨n, hn, rfl⟩ := List.mem_map.1 hx
      exact List.mem_range.2 (p.few n hn)
    simpa using this
  have h3 : T.length * M ≤ 64 * M := Nat.mul_le_mul_right _ h2
  exact Nat.le_trans h1 h3
end Go.Proofs.YtdieogcemmnaaaaGreatDoor


/- Trees of functions, printed by rx.lean. No condition. -/
namespace Go.Proofs.YtdieogcemmnaaaaGreatDoor.RX
set_option maxRecDepth 100000
-- (*tideline/tree.Tree).whole: ρ := [.n t, .p tP]
def t_tWhole : T :=
(.read (.load 123 (.tmp 14)) 123 [(14, (.w (.a (.ptr (.v 0) 0))))] [((.b (.v 0)), (.prop 1))] [.n] (.w (.a (.map (.v 2))))
(.read (.lookup 123 (.tmp 15) (.const (.int .i64 0)) false) 121 [(15, (.w (.a (.map (.v 2)))))] [((.b (.v 0)), (.prop 1))] [.v] (.w (.a (.val 3)))
(.read (.binOp .eql 121 (.tmp 17) (.const (.pointer none)) 121) 4 [(17, (.w (.a (.val 3))))] [((.b (.v 0)), (.prop 1))] [.c] (.w (.a (.bool (.v 4))))
(.br (.v 4)
 (.ret (.w (.a (.bool (.c false)))) [((.b (.v 0)), (.prop 1))])
 (.read (.nilCheck (.tmp 20)) 0 [(20, (.w (.a (.val 3))))] [((.b (.v 0)), (.prop 1))] [.n] (.w (.a (.ptr (.v 5) 0)))
 (.read (.load 3 (.tmp 22)) 3 [(22, (.w (.a (.ptr (.v 5) 0))))] [((.b (.v 0)), (.prop 1))] [.i] (.w (.a (.int .i64 (.v 6))))
 (.br (.o1 .not (.o2 .eq (.v 6) (.i 1)))
  (.ret (.w (.a (.bool (.c false)))) [((.b (.v 0)), (.prop 1))])
  (.new
  (.new
  (.loop [.a, .n, .n, .c, .p, .p] [(.a (.b (.v 8) 0)), (.e (.o2 .nadd (.n 1) (.n 0))), (.e (.o2 .nadd (.n 1) (.n 0))), (.e (.o1 .not (.o1 .not (.c false)))), (.p [((.b (.v 8)), (.cells [(.val 3)] 121))]), (.p [((.b (.v 7)), (.cells [(.int .i64 (.i 0)), (.int .i64 (.i 0)), (.int .i64 (.i 0)), (.int .i64 (.i 0)), (.int .i64 (.i 0)), (.int .i64 (.i 0)), (.int .i64 (.i 0)), (.int .i64 (.i 0)), (.int .i64 (.i 0)), (.int .i64 (.i 0)), (.int .i64 (.i 0)), (.int .i64 (.i 0)), (.int .i64 (.i 0)), (.int .i64 (.i 0)), (.int .i64 (.i 0)), (.int .i64 (.i 0)), (.int .i64 (.i 0)), (.int .i64 (.i 0)), (.int .i64 (.i 0)), (.int .i64 (.i 0)), (.int .i64 (.i 0)), (.int .i64 (.i 0)), (.int .i64 (.i 0)), (.int .i64 (.i 0)), (.int .i64 (.i 0)), (.int .i64 (.i 0)), (.int .i64 (.i 0)), (.int .i64 (.i 0)), (.int .i64 (.i 0)), (.int .i64 (.i 0)), (.int .i64 (.i 0)), (.int .i64 (.i 0)), (.int .i64 (.i 0)), (.int .i64 (.i 0)), (.int .i64 (.i 0)), (.int .i64 (.i 0)), (.int .i64 (.i 0)), (.int .i64 (.i 0)), (.int .i64 (.i 0)), (.int .i64 (.i 0)), (.int .i64 (.i 0)), (.int .i64 (.i 0)), (.int .i64 (.i 0)), (.int .i64 (.i 0)), (.int .i64 (.i 0)), (.int .i64 (.i 0)), (.int .i64 (.i 0)), (.int .i64 (.i 0)), (.int .i64 (.i 0)), (.int .i64 (.i 0)), (.int .i64 (.i 0)), (.int .i64 (.i 0)), (.int .i64 (.i 0)), (.int .i64 (.i 0)), (.int .i64 (.i 0)), (.int .i64 (.i 0)), (.int .i64 (.i 0)), (.int .i64 (.i 0)), (.int .i64 (.i 0)), (.int .i64 (.i 0)), (.int .i64 (.i 0)), (.int .i64 (.i 0)), (.int .i64 (.i 0)), (.int .i64 (.i 0))] 147))])]
   (.br (.o2 .lt (.i 0) (.o1 .ofNat (.v 10)))
    (.need (.o1 (.inr .i64) (.o2 .sub (.o1 .ofNat (.v 10)) (.i 1)))
    (.need (.o2 .le (.i 0) (.o2 .sub (.o1 .ofNat (.v 10)) (.i 1)))
    (.need (.o2 .lt (.o2 .sub (.o1 .ofNat (.v 10)) (.i 1)) (.o1 .ofNat (.v 10)))
    (.need (.o1 .isSome (.v 9))
    (.read (.load 121 (.tmp 35)) 121 [(35, (.w (.a (.eptr 9 (.o2 .sub (.o1 .ofNat (.v 10)) (.i 1)) 1 0))))] [((.a 9), (.prop 13)), ((.b (.v 0)), (.prop 1))] [.v] (.w (.a (.val 15)))
    (.read (.slice 291 (.tmp 37) none (some (.tmp 40)) none) 291 [(37, (.w (.a (.sl (.v 9) (.v 10) (.v 11))))), (40, (.w (.a (.int .i64 (.o2 .sub (.o1 .ofNat (.v 10)) (.i 1))))))] [((.a 9), (.prop 13)), ((.b (.v 0)), (.prop 1))] [.a, .n, .n] (.w (.a (.sl (.v 16) (.v 17) (.v 18))))
    (.read (.nilCheck (.tmp 42)) 0 [(42, (.w (.a (.val 15))))] [((.a 9), (.prop 13)), ((.b (.v 0)), (.prop 1))] [.n] (.w (.a (.ptr (.v 19) 0)))
    (.read (.load 131 (.tmp 44)) 131 [(44, (.w (.a (.ptr (.v 19) 3))))] [((.a 9), (.prop 13)), ((.b (.v 0)), (.prop 1))] [.n] (.w (.a (.map (.v 20))))
    (.op (.range 131 (.tmp 45)) 0 [(45, (.w (.a (.map (.v 20)))))] [((.a 9), (.prop 13)), ((.b (.v 0)), (.prop 1))] [.n, .p, .p] (.w (.a (.ptr (.v 21) 0))) [((.b (.v 21)), (.prop 22)), ((.a 9), (.prop 23)), ((.b (.v 0)), (.prop 1))]
    (.loop [.c, .a, .n, .n, .p, .p, .p] [(.e (.o1 .not (.o1 .not (.v 12)))), (.a (.v 16)), (.e (.o2 .nadd (.v 17) (.n 0))), (.e (.o2 .nadd (.v 18) (.n 0))), (.p [((.b (.v 21)), (.prop 22))]), (.p [((.a 9), (.prop 23))]), (.p [((.b (.v 7)), (.prop 14))])]
     (.op (.next (.tmp 46) false) 0 [(46, (.w (.a (.ptr (.v 21) 0))))] [((.b (.v 21)), (.prop 28)), ((.a 9), (.prop 29)), ((.b (.v 0)), (.prop 1))] [.c, .v, .v, .p] (.nx 31 32 33) [((.b (.v 21)), (.prop 34)), ((.a 9), (.prop 29)), ((.b (.v 0)), (.prop 1))]
     (.br (.v 31)
      (.read (.entry (.tmp 46)) 0 [(46, (.w (.a (.ptr (.v 21) 0))))] [((.b (.v 21)), (.prop 34)), ((.a 9), (.prop 29)), ((.b (.v 0)), (.prop 1))] [.s, .i] (.tup [(.a (.str (.v 35))), (.a (.int .i64 (.v 36)))])
      (.read (.load 123 (.tmp 53)) 123 [(53, (.w (.a (.ptr (.v 0) 0))))] [((.b (.v 0)), (.prop 1))] [.n] (.w (.a (.map (.v 37))))
      (.read (.lookup 123 (.tmp 54) (.tmp 55) false) 121 [(54, (.w (.a (.map (.v 37))))), (55, (.w (.a (.int .i64 (.v 36)))))] [((.b (.v 0)), (.prop 1))] [.v] (.w (.a (.val 38)))
      (.read (.binOp .eql 121 (.tmp 57) (.const (.pointer none)) 121) 4 [(57, (.w (.a (.val 38))))] [((.b (.v 0)), (.prop 1))] [.c] (.w (.a (.bool (.v 39))))
      (.br (.v 39)
       (.ret (.w (.a (.bool (.c false)))) [((.b (.v 0)), (.prop 1))])
       (.br (.o2 .eq (.v 36) (.i 0))
        (.ret (.w (.a (.bool (.c false)))) [((.b (.v 0)), (.prop 1))])
        (.read (.indexAddr 147 (.tmp 4) (.tmp 63)) 0 [(4, (.w (.a (.ptr (.v 7) 0)))), (63, (.w (.a (.int .i64 (.v 36)))))] [((.b (.v 7)), (.prop 30))] [.v] (.w (.a (.val 40)))
        (.read (.load 3 (.tmp 64)) 3 [(64, (.w (.a (.val 40))))] [((.b (.v 7)), (.prop 30))] [.i] (.w (.a (.int .i64 (.v 41))))
        (.need (.o1 (.inr .i64) (.o2 .add (.v 41) (.i 1)))
        (.read (.indexAddr 147 (.tmp 4) (.tmp 63)) 0 [(4, (.w (.a (.ptr (.v 7) 0)))), (63, (.w (.a (.int .i64 (.v 36)))))] [((.b (.v 7)), (.prop 30))] [.v] (.w (.a (.val 42)))
        (.op (.store 3 (.tmp 67) (.tmp 66)) 0 [(67, (.w (.a (.val 42)))), (66, (.w (.a (.int .i64 (.o2 .add (.v 41) (.i 1))))))] [((.b (.v 7)), (.prop 30))] [.p] (.tup []) [((.b (.v 7)), (.prop 43))]
        (.read (.indexAddr 147 (.tmp 4) (.tmp 68)) 0 [(4, (.w (.a (.ptr (.v 7) 0)))), (68, (.w (.a (.int .i64 (.v 36)))))] [((.b (.v 7)), (.prop 43))] [.v] (.w (.a (.val 44)))
        (.read (.load 3 (.tmp 69)) 3 [(69, (.w (.a (.val 44))))] [((.b (.v 7)), (.prop 43))] [.i] (.w (.a (.int .i64 (.v 45))))
        (.read (.nilCheck (.tmp 71)) 0 [(71, (.w (.a (.val 38))))] [((.b (.v 0)), (.prop 1))] [.n] (.w (.a (.ptr (.v 46) 0)))
        (.read (.load 3 (.tmp 73)) 3 [(73, (.w (.a (.ptr (.v 46) 1))))] [((.b (.v 0)), (.prop 1))] [.i] (.w (.a (.int .i64 (.v 47))))
        (.br (.o2 .lt (.v 47) (.v 45))
         (.ret (.w (.a (.bool (.c false)))) [((.b (.v 0)), (.prop 1))])
         (.read (.nilCheck (.tmp 76)) 0 [(76, (.w (.a (.val 38))))] [((.b (.v 0)), (.prop 1))] [.n] (.w (.a (.ptr (.v 48) 0)))
         (.read (.load 3 (.tmp 78)) 3 [(78, (.w (.a (.ptr (.v 48) 0))))] [((.b (.v 0)), (.prop 1))] [.i] (.w (.a (.int .i64 (.v 49))))
         (.br (.o2 .eq (.v 49) (.i 1))
          (.new
          (.op (.call ⟨.builtin .append, #[(.tmp 81), (.tmp 83)], #[291, 291]⟩) 291 [(81, (.w (.a (.sl (.v 25) (.v 26) (.v 27))))), (83, (.w (.a (.sl (.b (.v 50) 0) (.n 1) (.n 1)))))] [((.a 9), (.prop 29)), ((.b (.v 0)), (.prop 1)), ((.b (.v 50)), (.cells [(.val 38)] 121))] [.a, .n, .n, .p, .p] (.w (.a (.sl (.v 51) (.v 52) (.v 53)))) [((.a 51), (.prop 54)), ((.a 9), (.prop 55)), ((.b (.v 0)), (.prop 1))]
          (.again 0 [(.e (.o1 .not (.o1 .not (.v 24)))), (.a (.v 51)), (.e (.o2 .nadd (.v 52) (.n 0))), (.e (.o2 .nadd (.v 53) (.n 0))), (.p [((.b (.v 21)), (.prop 34))]), (.p [((.a 9), (.prop 55))]), (.p [((.b (.v 7)), (.prop 43))])])))
          (.again 0 [(.e (.o1 .not (.o1 .not (.v 24)))), (.a (.v 25)), (.e (.o2 .nadd (.v 26) (.n 0))), (.e (.o2 .nadd (.v 27) (.n 0))), (.p [((.b (.v 21)), (.prop 34))]), (.p [((.a 9), (.prop 29))]), (.p [((.b (.v 7)), (.prop 43))])]))))))))))))))))))))
      (.again 1 [(.a (.v 25)), (.e (.o2 .nadd (.v 26) (.n 0))), (.e (.o2 .nadd (.v 27) (.n 0))), (.e (.o1 .not (.o1 .not (.v 24)))), (.p [((.a 9), (.prop 29))]), (.p [((.b (.v 7)), (.prop 30))])])))))))))))))
    (.read (.load 123 (.tmp 87)) 123 [(87, (.w (.a (.ptr (.v 0) 0))))] [((.b (.v 0)), (.prop 1))] [.n] (.w (.a (.map (.v 15))))
    (.op (.range 123 (.tmp 88)) 0 [(88, (.w (.a (.map (.v 15)))))] [((.b (.v 0)), (.prop 1))] [.n, .p, .p] (.w (.a (.ptr (.v 16) 0))) [((.b (.v 16)), (.prop 17)), ((.b (.v 0)), (.prop 18))]
    (.loop [.c, .p] [(.e (.o1 .not (.o1 .not (.v 12)))), (.p [((.b (.v 16)), (.prop 17))])]
     (.op (.next (.tmp 89) false) 0 [(89, (.w (.a (.ptr (.v 16) 0))))] [((.b (.v 16)), (.prop 20)), ((.b (.v 0)), (.prop 18))] [.c, .v, .v, .p] (.nx 21 22 23) [((.b (.v 16)), (.prop 24)), ((.b (.v 0)), (.prop 18))]
     (.br (.v 21)
      (.read (.entry (.tmp 89)) 0 [(89, (.w (.a (.ptr (.v 16) 0))))] [((.b (.v 16)), (.prop 24)), ((.b (.v 0)), (.prop 18))] [.i, .v] (.tup [(.a (.int .i64 (.v 25))), (.a (.val 26))])
      (.br (.o1 .not (.o2 .eq (.v 25) (.i 0)))
       (.read (.indexAddr 147 (.tmp 4) (.tmp 98)) 0 [(4, (.w (.a (.ptr (.v 7) 0)))), (98, (.w (.a (.int .i64 (.v 25)))))] [((.b (.v 7)), (.prop 14))] [.v] (.w (.a (.val 27)))
       (.read (.load 3 (.tmp 99)) 3 [(99, (.w (.a (.val 27))))] [((.b (.v 7)), (.prop 14))] [.i] (.w (.a (.int .i64 (.v 28))))
       (.br (.o2 .eq (.v 28) (.i 0))
        (.ret (.w (.a (.bool (.c false)))) [((.b (.v 0)), (.prop 18))])
        (.read (.indexAddr 147 (.tmp 4) (.tmp 103)) 0 [(4, (.w (.a (.ptr (.v 7) 0)))), (103, (.w (.a (.int .i64 (.v 25)))))] [((.b (.v 7)), (.prop 14))] [.v] (.w (.a (.val 29)))
        (.read (.load 3 (.tmp 104)) 3 [(104, (.w (.a (.val 29))))] [((.b (.v 7)), (.prop 14))] [.i] (.w (.a (.int .i64 (.v 30))))
        (.read (.nilCheck (.tmp 106)) 0 [(106, (.w (.a (.val 26))))] [((.b (.v 0)), (.prop 18))] [.n] (.w (.a (.ptr (.v 31) 0)))
        (.read (.load 3 (.tmp 108)) 3 [(108, (.w (.a (.ptr (.v 31) 1))))] [((.b (.v 0)), (.prop 18))] [.i] (.w (.a (.int .i64 (.v 32))))
        (.br (.o1 .not (.o2 .eq (.v 30) (.v 32)))
         (.ret (.w (.a (.bool (.c false)))) [((.b (.v 0)), (.prop 18))])
         (.again 0 [(.e (.o1 .not (.o1 .not (.v 19)))), (.p [((.b (.v 16)), (.prop 24))])])))))))))
       (.again 0 [(.e (.o1 .not (.o1 .not (.v 19)))), (.p [((.b (.v 16)), (.prop 24))])])))
      (.ret (.w (.a (.bool (.c true)))) [((.b (.v 0)), (.prop 18))])))))))))))))))))
theorem tree_tWhole : tree Tryz.prog { absT := [147, 3], opq := [121], hv := [(0, [(.b (.v 8)), (.b (.v 7))]), (2, [(.b (.v 21)), (.a 9), (.b (.v 7))]), (4, [(.b (.v 16))])], keep := [], link := [], ent := [(49, [9, 3]), (92, [3, 121])], turn := [], shr := [], vt := [], mkd := [], rlink := [], pty := [], outl := false, stay := [(.b (.v 0))], snk := [], opn := true, rdf := true, hlk := [(0, 8, (.b (.v 0)))], peek := [121] } Tryz.f161 [(.a (.ptr (.v 0) 0))] [((.b (.v 0)), (.prop 1))] 2 = t_tWhole := by kernel_rfl
end Go.Proofs.YtdieogcemmnaaaaGreatDoor.RX


/- tree.whole as a contract. No condition. -/
namespace Go.Proofs.YtdieogcemmnaaaaGreatDoor
set_option linter.unusedSimpArgs false
set_option linter.unusedVariables false
open Go.Proofs.YtdieogcemmnaaaaGreatDoor RX
set_option maxRecDepth 100000

/-- A part of a heap, as it stands. -/
def Own (R0 h0 : PH) : HP := ⟨fun R h => R0.le R ∧ h0.le h, fun l l' ⟨a, b⟩ => ⟨a.trans l, b.trans l'⟩⟩
theorem Tri.frz {P : Program} {f : FuncId} {args : Array Value} {A : HP} {B : Value → HP} (t : ∀ R0 h0, A.p R0 h0 → Tri P f args (Own R0 h0) B) : Tri P f args A B :=
  fun w R h F s a => t R h a w R h F s ⟨PH.le.refl _, PH.le.refl _⟩
theorem Own.to {R0 h0 : PH} {A : HP} (a : A.p R0 h0) : HP.ent (Own R0 h0) A := .of fun _ _ ⟨l, l'⟩ => A.mono l l' a
theorem undA64 : Tryz.prog.underlying 147 = some (.array 64 3) := by kernel_rfl
theorem undPn : Tryz.prog.underlying 121 = some (.pointer 133) := by kernel_rfl
theorem undSn : Tryz.prog.underlying 291 = some (.slice 121) := by kernel_rfl
def SeenA (b : Nat) (f : Nat → Nat) : HP := Ar 147 b (arF 64 fun k => .int .i64 (f k : Nat))
theorem wIx {b k : Nat} {x : Int} (hx : x = k) (hk : k < 64) {A : HP} : ORead Tryz.prog (idxS 147 (.pointer (some ⟨b, 0, none⟩)) (.int .i64 x)) A (.pointer (some ⟨b, k, none⟩)) := arIx undA64 (by kernel_rfl) (by kernel_rfl) hx hk
theorem wLd {b k : Nat} {f : Nat → Nat} (hk : k < 64) {P : HP} (hP : HP.ent P (SeenA b f)) : ORead Tryz.prog (loadS 3 (.pointer (some ⟨b, k, none⟩))) P (.int .i64 (f k : Nat)) := ORead.ent hP (arLd undIb aggI szI (arF_get hk))
theorem wSt {b k : Nat} {f : Nat → Nat} {x : Int} (hx : x = (f k : Nat) + 1) (hk : k < 64) {P : HP} (hP : HP.ent P (SeenA b f)) {C : Value → HP} (post : ∀ R h, (SeenA b fun q => if q = k then f k + 1 else f q).p R h → (C (.tuple #[])).p R h) : OTri Tryz.prog (storeS 3 (.pointer (some ⟨b, k, none⟩)) (.int .i64 x)) P C := by
  obtain ⟨i, hi, _, hz, _⟩ := info_parts infoInt
  refine OTri.pre3 ((arSt hi hz rfl rfl (by rw [arF_len]; exact hk)).weak (fun _ _ h => h) ?_) hP
  rintro v R h ⟨rfl, H⟩
  rw [arF_set hk] at H
  refine post R h ?_
  unfold SeenA
  have : (arF 64 fun j => if j = k then Value.int .i64 x else .int .i64 (f j : Nat)) = arF 64 fun q => .int .i64 ((if q = k then f k + 1 else f q : Nat) : Int) := arF_congr fun j _ => by
    by_cases e : j = k
    · subst e; rw [if_pos rfl, if_pos rfl, hx]; rfl
    · rw [if_neg e, if_neg e]
  rw [← this]; exact H
def ptrN (ns : List HN) (k : Nat) : Value := .pointer ((hnAt ns k).map fun x => ⟨x.nb, 0, none⟩)
def Stk (ns : List HN) (a : Option Addr) (c : Nat) (st : List Nat) : HP := OwC 121 1 a st.length c (st.map (ptrN ns))
theorem OwC.cut {e : TypeId} {a : Option Addr} {n c : Nat} {xs : List Value} {v : Value} {R h : PH} (H : (OwC e 1 a (n + 1) c (xs ++ [v])).p R h) : (OwC e 1 a n c xs).p R h := by
  obtain ⟨h1, h2⟩ := H
  have hx : xs.length = n := by simpa using h1
  refine ⟨by simpa using hx, ?_⟩
  rcases h2 with ⟨_, h, _⟩ | ⟨g, cur, e1, e2, e3, e4, e5, e6⟩
  · cases h
  · refine .inr ⟨g, cur, e1, e2, by omega, e4, e5, ?_⟩
    have := congrArg (List.take n) e6
    rw [List.take_take, List.take_left' hx] at this
    rw [Nat.mul_one]
    rw [← this]; congr 1; omega
theorem semW_slhi' {i j : Nat} {t ty : TypeId} {u v : Value} (h : i ≠ j) : semW (.slice t (.tmp i) none (some (.tmp j)) none) ty [(i, u), (j, v)] = sliceS t u none (some v) none := by
  have h' : (i == j) = false := by simpa using h
  simp [semW, execOp, arW, sliceS, h']
theorem zero64 : ([.int .i64 0, .int .i64 0, .int .i64 0, .int .i64 0, .int .i64 0, .int .i64 0, .int .i64 0, .int .i64 0, .int .i64 0, .int .i64 0, .int .i64 0, .int .i64 0, .int .i64 0, .int .i64 0, .int .i64 0, .int .i64 0, .int .i64 0, .int .i64 0, .int .i64 0, .int .i64 0, .int .i64 0, .int .i64 0, .int .i64 0, .int .i64 0, .int .i64 0, .int .i64 0, .int .i64 0, .int .i64 0, .int .i64 0, .int .i64 0, .int .i64 0, .int .i64 0, .int .i64 0, .int .i64 0, .int .i64 0, .int .i64 0, .int .i64 0, .int .i64 0, .int .i64 0, .int .i64 0, .int .i64 0, .int .i64 0, .int .i64 0, .int .i64 0, .int .i64 0, .int .i64 0, .int .i64 0, .int .i64 0, .int .i64 0, .int .i64 0, .int .i64 0, .int .i64 0, .int .i64 0, .int .i64 0, .int .i64 0, .int .i64 0, .int .i64 0, .int .i64 0, .int .i64 0, .int .i64 0, .int .i64 0, .int .i64 0, .int .i64 0, .int .i64 0] : List Value) = arF 64 fun _ => .int .i64 ((0 : Nat) : Int) := rfl
theorem wholeS_no {T : List Nd} (h : ¬ WholeT T) : wholeS T = false := @decide_eq_false _ (Classical.propDecidable _) h
theorem wholeS_yes {T : List Nd} (h : WholeT T) : wholeS T = true := @decide_eq_true _ (Classical.propDecidable _) h
theorem slTo {S : HP} {a : Option Addr} {n c k : Nat} (hk : k ≤ n) (hle : ∀ R h, S.p R h → n ≤ c) : ORead Tryz.prog (sliceS 291 (.slice a n c) none (some (.int .i64 (k : Nat))) none) S (.slice a k c) := fun w R h F s H => by
  obtain ⟨i, hi, _, _, _⟩ := info_parts infoNp
  have hc := hle R h H
  have := slice_ok undSn hi S a n c none (some k) none (Nat.zero_le _) (by simp; omega) (by simp) (fun h => (by cases h)) w R h F s H
  refine Eq.trans this ?_
  have e : (if c = 0 then a else a.map (·.add (0 * szT Tryz.prog 121))) = a := by
    split
    · rfl
    · cases a with
      | none => rfl
      | some y => simp; rfl
  simp only [Option.getD_none, Option.getD_some, Nat.sub_zero, e]
theorem appP {ns : List HN} {a : Option Addr} {c : Nat} {st : List Nat} {k q : Nat} {Q : HP} (hb : st.length ≤ 1000000) : OTri Tryz.prog (appS 291 291 (.slice a st.length c) (.slice (some ⟨q, 0, none⟩) 1 1)) (HP.sep (Stk ns a c st) (HP.sep Q (HP.one q (.cells #[ptrN ns k] 121 (0, 0)))))
    (fun v => HP.ex fun a' => HP.ex fun c' => HP.and (v = .slice a' (st.length + 1) c') (HP.sep (Stk ns a' c' (st ++ [k])) Q)) := by
  obtain ⟨i, hi, h1, h2, h3⟩ := info_parts infoNp
  have := append_ok 291 291 121 i _ undSn hi h1 (by rw [h2]; rfl) (by omega) a st.length c (st.map (ptrN ns)) (HP.sep Q (HP.one q (.cells #[ptrN ns k] 121 (0, 0)))) ⟨q, 0, none⟩ 1 1 [ptrN ns k] (Rd.right (one_rd q #[ptrN ns k] _)) (by rw [h2]; rfl) (fun u hu => by obtain rfl := List.mem_singleton.1 hu; rfl) (by unfold maxLen; omega) (by rw [h3]; omega)
  rw [h2] at this
  refine this.weak (fun _ _ h => h) ?_
  rintro v R h ⟨a', c', rfl, H⟩
  refine ⟨a', c', rfl, HP.sep_mono H (fun x hx => ?_) fun x hx => HP.sep_left hx⟩
  unfold Stk
  rw [List.length_append, List.map_append]
  exact hx
theorem al_ent {l : AL Nm} {c : Nat} {ents : List (Nm × Nat)} (hI : MapI l c) (hk : ∀ k, alFind k l = (lk ents k).map fun n => Value.int .i64 n) {y : Nm × Value × Nat} (hy : y ∈ l) : ∃ k, (y.1, k) ∈ ents ∧ lk ents y.1 = some k ∧ y.2.1 = .int .i64 (k : Nat) := by
  have h := alFind_mem y.1 y.2.1 y.2.2 l hI.1 hy
  rw [hk] at h
  cases hl : lk ents y.1 with
  | none => rw [hl] at h; cases h
  | some k => rw [hl] at h; exact ⟨k, lk_mem hl, rfl, (Option.some.inj h).symm⟩
theorem al_nd {l : AL Int} {c : Nat} {ns : List HN} (hI : MapI l c) (hk : ∀ k, alFind k l = nodeV ns k) {y : Int × Value × Nat} (hy : y ∈ l) : ∃ x, x ∈ ns ∧ (x.p.num : Int) = y.1 ∧ y.2.1 = .pointer (some ⟨x.nb, 0, none⟩) := by
  have h := alFind_mem y.1 y.2.1 y.2.2 l hI.1 hy
  rw [hk] at h
  unfold nodeV at h
  obtain ⟨x, h1, h2⟩ := Option.map_eq_some_iff.1 h
  exact ⟨x, List.mem_of_find?_eq_some h1, by simpa using List.find?_some h1, h2.symm⟩
theorem nodeV_mem {ns : List HN} {x : HN} (hx : x ∈ ns) : (nodeV ns x.p.num).isSome = true := by
  unfold nodeV
  rw [Option.isSome_map, List.find?_isSome]
  exact ⟨x, hx, by simp⟩
/-- The walk between two directories. -/
def OI (t : TS) (sb : Nat) (a : Option Addr) (n c : Nat) (p q : HP) (m : Nat) : Prop := ∃ (D st : List Nat) (f : Nat → Nat), n = st.length ∧ (st.length ≠ 0 → a.isSome = true) ∧ WI t.pub D st f ∧ (∀ k, f k = seenD t.pub D k) ∧ (∀ d ∈ D, ∀ e ∈ entsAt t.pub d, (nodeAt t.pub e.2).isSome = true ∧ e.2 ≠ 0) ∧ HP.ent p (Stk t.ns a c st) ∧ HP.ent q (SeenA sb f) ∧ m + D.length = t.pub.length
/-- .. within one. -/
def II (t : TS) (sb : Nat) (u : Nat) (D : List Nat) (mb it cl : Nat) (l : AL Nm) (a : Option Addr) (n c : Nat) (pi pk pa : HP) (m : Nat) : Prop := ∃ (st : List Nat) (P : List (Nm × Nat)) (S : Array Nat) (f : Nat → Nat), n = st.length ∧ (st.length ≠ 0 → a.isSome = true) ∧ WIn t.pub u D st P f ∧ Rng l S (P.map (·.1)) ∧ HP.ent pi (HP.one it (.mapIter (some mb) cl S cl)) ∧ HP.ent pk (Stk t.ns a c st) ∧ HP.ent pa (SeenA sb f) ∧ m + P.length = l.length
/-- .. behind them. -/
def FI (t : TS) (f : Nat → Nat) (mb it cl : Nat) (l : AL Int) (pi : HP) (m : Nat) : Prop := ∃ (S : Array Nat) (P : List Int), Rng l S P ∧ HP.ent pi (HP.one it (.mapIter (some mb) cl S cl)) ∧ (∀ n ∈ t.pub, (n.num : Int) ∈ P → n.num ≠ 0 → f n.num ≠ 0 ∧ (f n.num : Int) = n.links) ∧ m + P.length = l.length
theorem rng_few {κ : Type} [DecidableEq κ] {l : AL κ} {S : Array Nat} {P : List κ} (h : Rng l S P) : P.length ≤ l.length := by
  have := nodup_sub h.nd h.sub
  simpa using this
set_option maxHeartbeats 4000000 in
theorem whole_ok {b : Nat} {t : TS} (hok : okN (-1) t.pub = true) (hents' : ∀ n ∈ t.pub, n.ents.length ≤ 1000000000) :
    Tri Tryz.prog 161 #[.pointer (some ⟨b, 0, none⟩)] (TRep b t) (fun v => HP.and (v = .bool (wholeS t.pub)) (TRep b t)) := by
  refine Tri.frz fun R0 h0 H0 => ?_
  have hQ : HP.ent (Own R0 h0) (TRep b t) := Own.to H0
  have pp := Prep.of hok
  have fin : ∀ {x : Bool} {A : HP}, HP.ent A (Own R0 h0) → wholeS t.pub = x → HP.ent A (HP.and (Value.bool x = .bool (wholeS t.pub)) (TRep b t)) := fun hA hx => (hA.trans hQ).trans (.of fun R h H => ⟨by rw [hx], H⟩)
  have no : ∀ {A : HP}, HP.ent A (Own R0 h0) → ¬ WholeT t.pub → HP.ent A (HP.and (Value.bool false = .bool (wholeS t.pub)) (TRep b t)) := fun hA hn => fin hA (wholeS_no hn)
  refine tri_of_tree (ρ := [.n b, .p (Own R0 h0)]) mixed Tryz.func161 tree_tWhole ?_
  unfold t_tWhole
  simp only [T.den, E.prop, E.den, RX.look, F1.app, F2.app, Uni.int_i, Uni.nat_n, Uni.bool_c, Uni.str_s, Uni.adr_a, Uni.val_v, Uni.hp_p, hden, cden, V.den, W.den, A.den, BR.den, SA.den, FV.den, capV, exs, exP, allP, Cur.app, List.map_cons, List.map_nil, List.cons_append, List.nil_append, List.drop_succ_cons, List.drop_zero, List.length_cons, List.length_nil, Nat.zero_add, Nat.reduceAdd, Int.neg_neg, Bool.not_not, List.append_nil, Nat.add_zero, List.getElem?_cons_zero, List.getElem?_cons_succ, Decidable.not_not, semW_eq, semW_load, semW_store, semW_storeC, semW_append, semW_lookup, semW_lookupC, semW_update, semW_updateC, semW_updateK, semW_delete, semW_range, semW_next, semW_entry, semW_nil, ne_eq, Nat.reduceEqDiff, not_false_eq_true, semW_ix, semW_slhi']
  have lk0 := (lkNode (b := b) (t := t) 0).ent hQ
  refine ⟨t.mb, ldNodes.ent hQ, ptrN t.ns 0, lk0, _, eqlNilP (p := (hnAt t.ns 0).map fun x => ⟨x.nb, 0, none⟩) (by kernel_rfl) undPn, ?_⟩
  have few : t.pub.length ≤ 64 := by
    have := nodup_sub pp.nd (m := List.range 64) fun x hx => by
      obtain ⟨n, hn, rfl⟩ := List.mem_map.1 hx
      exact List.mem_range.2 (pp.few n hn)
    simpa using this
  obtain ⟨l0, c0, hI0, hk0, hh0⟩ := TRep.nmap H0
  have hm0 : ∀ R h, (Own R0 h0).p R h → h t.mb = some (mapObj i64v l0 c0) := fun R h H => H.2 _ _ hh0
  have lt64 : ∀ {k : Nat}, (nodeAt t.pub k).isSome = true → k < 64 := fun {k} h => by
    obtain ⟨n, hn⟩ := Option.isSome_iff_exists.1 h
    obtain ⟨h1, h2⟩ := nodeAt_mem hn
    rw [← h2]; exact pp.few n h1
  have right : ∀ {A : HP}, HP.ent (HP.sep A (Own R0 h0)) (Own R0 h0) := .of fun R h H => HP.sep_right H
  refine ⟨fun hn => no (HP.ent.refl _) fun w => ?_, fun hn => ?_⟩
  · obtain ⟨n, hn1, _⟩ := w.root
    rw [nodeAt_pub] at hn1
    cases hx0 : hnAt t.ns 0 with
    | none => rw [hx0] at hn1; cases hn1
    | some x => rw [hx0] at hn; cases hn
  obtain ⟨x0, hx0⟩ : ∃ x0, hnAt t.ns 0 = some x0 := by
    cases hx0 : hnAt t.ns 0 with
    | none => rw [hx0] at hn; exact absurd rfl hn
    | some x => exact ⟨x, rfl⟩
  obtain ⟨hx0m, hx0n⟩ := hnAt_mem hx0
  have e0 : ptrN t.ns 0 = .pointer (some ⟨x0.nb, 0, none⟩) := by unfold ptrN; rw [hx0]; rfl
  refine ⟨x0.nb, by rw [e0]; exact nilChk', x0.p.kind, (ldKind hx0m).ent hQ, ⟨fun hk => no (HP.ent.refl _) fun w => ?_, fun hk => ?_⟩⟩
  · obtain ⟨n, hn, hn1⟩ := w.root
    rw [nodeAt_pub, hx0] at hn; cases hn; exact hk hn1
  have hk : x0.p.kind = 1 := by simpa using hk
  have hroot : isDir t.pub 0 := ⟨x0.p, by rw [nodeAt_pub, hx0]; rfl, hk⟩
  intro sb rb
  refine ⟨fun a n c w p q => ∃ m, OI t sb a n c p q m, fun a n c w p q => leastN (OI t sb a n c p q), ⟨t.pub.length, [], [0], fun _ => 0, rfl, fun _ => rfl, WI.init hroot, fun _ => rfl, fun _ h => (by cases h), ?_, ?_, by simp⟩, ?_⟩
  · refine .of fun R h H => ⟨rfl, .inr ⟨rb, #[ptrN t.ns 0], rfl, H, Nat.le_refl _, by unfold maxLen; omega, rfl, rfl⟩⟩
  · refine .of fun R h H => ?_
    unfold SeenA Ar
    rw [← zero64]
    exact H
  intro a n c w p q hOI
  have hO := leastN_spec hOI
  generalize hNe : leastN (OI t sb a n c p q) = N at hO ⊢
  obtain ⟨D, st, f, rfl, hsome, hW, hf, htgt, hp, hq, hm⟩ := hO
  refine ⟨fun hlt => ?_, fun hge => ?_⟩
  · rcases List.eq_nil_or_concat st with rfl | ⟨st, u, rfl⟩
    · simp at hlt
    rw [List.concat_eq_append] at *
    have hlen : (st ++ [u]).length = st.length + 1 := by simp
    rw [hlen] at hsome hNe ⊢
    have e1 : ((st.length + 1 : Nat) : Int) - 1 = (st.length : Nat) := by omega
    rw [e1]
    have hfew := hW.few
    rw [hlen] at hfew
    obtain ⟨⟨nu, hnu, hnk⟩, hru⟩ := hW.dir u (by simp)
    obtain ⟨xu, hxu, hxp, hxm⟩ := hn_of (t := t) (k := u) (by rw [hnu]; rfl)
    rw [hxp] at hnu; cases hnu
    obtain ⟨lu, cu, hIu, hku, hhu⟩ := NRep.emap (TRep.node H0 hxm) hnk
    have hmu : ∀ R h, (Own R0 h0).p R h → h xu.mb = some (mapObj sE lu cu) := fun R h H => H.2 _ _ hhu
    have hents : entsAt t.pub u = xu.p.ents := by unfold entsAt; rw [hxp]
    have emo : xu.mapo = some xu.mb := by unfold HN.mapo; rw [if_pos hnk]
    have epu : ptrN t.ns u = .pointer (some ⟨xu.nb, 0, none⟩) := by unfold ptrN; rw [hxu]; rfl
    have hStk : HP.ent (HP.sep p (Own R0 h0)) (Stk t.ns a c (st ++ [u])) := (HP.ent.sep hp _).trans (.of fun R h H => HP.sep_left H)
    refine ⟨inI64' _ (by omega) (by omega), fun _ => ⟨by omega, fun _ => ⟨by omega, fun _ => ⟨hsome (by omega), fun _ => ?_⟩⟩⟩⟩
    refine ⟨.pointer (some ⟨xu.nb, 0, none⟩), ?_, a, st.length, c, ?_, xu.nb, nilChk', xu.mb, ?_, ?_⟩
    · refine ORead.ent hStk ?_
      refine load1_ok undPn (by kernel_rfl) (by kernel_rfl) (OwC.rd _ _ _ _ _ _) (k := st.length * 1) (off := 0) ?_
      show _ = some (Value.pointer (some ⟨xu.nb, 0, none⟩))
      rw [← epu]; simp
    · refine ORead.ent hStk (slTo (Nat.le_succ _) fun R h H => ?_)
      have := OwC.le H; rw [hlen] at this; exact this
    · rw [← emo]; exact ((ldEnts hxm).ent hQ).ent right
    refine (rangA_ok (Q := HP.sep p (Own R0 h0)) (enc := sE) (l := lu) (c := cu) undEM fun R h ⟨_, _, _, _, l2, _, H⟩ => l2 _ _ (hmu _ _ H)).weak (fun _ _ h => h) ?_
    rintro v R h ⟨it, rfl, H⟩
    refine ⟨it, HP.one it (.mapIter (some xu.mb) cu #[] cu), p, rfl, ?_, H⟩
    clear H
    have hpop := hW.pop
    refine ⟨fun w a n c pi pk pa => ∃ m, II t sb u D xu.mb it cu lu a n c pi pk pa m, fun w a n c pi pk pa => leastN (II t sb u D xu.mb it cu lu a n c pi pk pa), ⟨lu.length, st, [], #[], f, rfl, fun _ => hsome (by omega), ⟨hpop, fun k => by simp [cntE, hf], htgt, List.nodup_nil, fun _ h => (by cases h)⟩, Rng.nil lu, .refl _, hp.trans (.of fun R h H => ?_), hq, rfl⟩, ?_⟩
    · unfold Stk at H ⊢
      rw [List.map_append, hlen] at H
      exact OwC.cut H
    intro w2 a2 n2 c2 pi pk pa hII
    have hI := leastN_spec hII
    generalize hMe : leastN (II t sb u D xu.mb it cu lu a2 n2 c2 pi pk pa) = M at hI ⊢
    obtain ⟨st2, P, S, g, rfl, hsome2, hWI, hR, hpi, hpk, hpa, hM⟩ := hI
    refine OTri.pre3 ((nextA_ok (Q := HP.sep pk (Own R0 h0)) hIu.2 fun R h ⟨_, _, _, _, l2, _, H⟩ => l2 _ _ (hmu _ _ H)).weak (fun _ _ h => h) ?_) (HP.ent.sep hpi _)
    rintro v R h ⟨e, he, H⟩
    rcases e with _ | y
    · refine ⟨false, .tuple #[], .tuple #[], _, he.1, ⟨fun h => (by cases h), fun _ => ?_⟩, H⟩
      clear H
      have hall : ∀ e ∈ entsAt t.pub u, e.1 ∈ P.map (·.1) := fun e hE => hR.done he.2 e.1 (by
        rw [hents] at hE
        obtain ⟨z, hz⟩ := Option.isSome_iff_exists.1 ((lk_keys e.1 xu.p.ents).2 (List.mem_map.2 ⟨e, hE, rfl⟩))
        rw [← alFind_isSome, hku, hz]; rfl)
      obtain ⟨o1, o2⟩ := hWI.out pp hall
      have hnew : OI t sb a2 st2.length c2 pk pa (N - 1) := ⟨u :: D, st2, g, rfl, hsome2, hWI.wi, o1, o2, hpk, hpa, by simp; omega⟩
      refine ⟨⟨_, hnew⟩, ?_⟩
      have := leastN_le hnew
      show leastN (OI t sb a2 st2.length c2 pk pa) < leastN (OI t sb a (st.length + 1) c p q)
      rw [hNe]; omega
    · obtain ⟨rfl, hyl, hyS⟩ := he
      obtain ⟨k, hke, hlk, hyv⟩ := al_ent hIu hku hyl
      obtain ⟨hnot, hR2⟩ := hR.step hIu hyl hyS
      have heu : (y.1, k) ∈ entsAt t.pub u := by rw [hents]; exact hke
      have hent := entry_ok (enc := sE) (it := it) (m := xu.mb) (c := cu) (S := S) (x := y) hIu.2 hyl (A := HP.sep (HP.one it (.mapIter (some xu.mb) cu (nextI S (some y)) cu)) (HP.sep pk (Own R0 h0))) (fun R h H => HP.sep_left H) (fun R h H => by
        obtain ⟨_, _, _, _, l2, _, _, _, _, _, l4, _, b2⟩ := H
        exact l2 _ _ (l4 _ _ (hmu _ _ b2)))
      rw [hyv] at hent
      have lkk := (lkNode (b := b) (t := t) k).ent hQ
      refine ⟨true, sE y.1, y.2.1, _, rfl, ⟨fun _ => ⟨y.1, k, hent, t.mb, ldNodes.ent hQ, ptrN t.ns k, lkk, _, eqlNilP (p := (hnAt t.ns k).map fun x => ⟨x.nb, 0, none⟩) (by kernel_rfl) undPn, ?_⟩, fun h => (by simp at h)⟩, H⟩
      clear H
      have hxu2 : xu.p ∈ t.pub ∧ xu.p.num = u := nodeAt_mem hxp
      refine ⟨fun hn => no (HP.ent.refl _) fun w => ?_, fun hn => ⟨fun hk0 => no (HP.ent.refl _) fun w => (w.tgt _ hxu2.1 _ hke).2 (by omega), fun hk0 => ?_⟩⟩
      · have := (w.tgt _ hxu2.1 _ hke).1
        obtain ⟨z, hz, _⟩ := hn_of this
        rw [hz] at hn; cases hn
      obtain ⟨xk, hxk⟩ : ∃ x, hnAt t.ns k = some x := by
        cases hx : hnAt t.ns k with
        | none => rw [hx] at hn; exact absurd rfl hn
        | some x => exact ⟨x, rfl⟩
      obtain ⟨hxkm, hxkn⟩ := hnAt_mem hxk
      have hnk2 : nodeAt t.pub k = some xk.p := by rw [nodeAt_pub, hxk]; rfl
      have hks : (nodeAt t.pub k).isSome = true := by rw [hnk2]; rfl
      have hxkp : xk.p ∈ t.pub := (nodeAt_mem hnk2).1
      have hk64 := lt64 hks
      have hk00 : k ≠ 0 := by omega
      have epk : ptrN t.ns k = .pointer (some ⟨xk.nb, 0, none⟩) := by unfold ptrN; rw [hxk]; rfl
      have hlt : g k + 1 ≤ refs t.pub k := hWI.lt pp heu hnot
      have hmost := pp.most hents' k
      refine ⟨.pointer (some ⟨sb, k, none⟩), wIx rfl hk64, (g k : Nat), wLd hk64 hpa, inI64' _ (by omega) (by omega), fun _ => ⟨.pointer (some ⟨sb, k, none⟩), wIx rfl hk64, ?_⟩⟩
      refine wSt rfl hk64 hpa fun R h H => ⟨SeenA sb _, rfl, ?_, H⟩
      clear H
      refine ⟨.pointer (some ⟨sb, k, none⟩), wIx rfl hk64, _, wLd hk64 (HP.ent.refl _), xk.nb, by rw [epk]; exact nilChk', xk.p.links, (ldLinks hxkm).ent hQ, ?_⟩
      rw [if_pos rfl]
      refine ⟨fun hgt => no (HP.ent.refl _) fun w => ?_, fun hle => ?_⟩
      · have := (w.cnt xk.p hxkp (by rw [hxkn]; exact hk00)).1
        rw [hxkn] at this
        omega
      refine ⟨xk.nb, by rw [epk]; exact nilChk', xk.p.kind, (ldKind hxkm).ent hQ, ⟨fun hdir q => ?_, fun hfile => ?_⟩⟩
      · have hkd : isDir t.pub k := ⟨xk.p, hnk2, hdir⟩
        have hl1 := (goodS_dir (pp.good _ hxkp) hdir).1
        have hg0 : g k = 0 := by omega
        have hrk : Rch t.pub k := .step hru (pp.step ⟨xu.p, hxp, hnk⟩ heu)
        have hw2 := hWI.wi.push hkd hrk hk00 hg0
        have hfew2 := hw2.few
        refine OTri.pre3 ((appP (ns := t.ns) (k := k) (Q := Own R0 h0) (by simp at hfew2; omega)).weak (fun _ _ h => h) ?_) (HP.ent.sep hpk _)
        rintro v R h ⟨a3, c3, rfl, H⟩
        have hs3 : a3.isSome = true := OwC.some (HP.sep_left H) (by simp)
        refine ⟨a3, _, c3, HP.tt, Stk t.ns a3 c3 (st2 ++ [k]), rfl, ?_, HP.tt_sep H⟩
        clear H
        have hnew : II t sb u D xu.mb it cu lu a3 (st2.length + 1) c3 (HP.one it (.mapIter (some xu.mb) cu (nextI S (some y)) cu)) (Stk t.ns a3 c3 (st2 ++ [k])) (SeenA sb fun q => if q = k then g k + 1 else g q) (M - 1) :=
          ⟨st2 ++ [k], P ++ [(y.1, k)], S.push y.2.2, _, by simp, fun _ => hs3, hWI.snoc (e := (y.1, k)) heu hnot hks hk00 hw2, by rw [List.map_append]; exact hR2, .refl _, .refl _, .refl _, by have := rng_few hR2; simp at this ⊢; omega⟩
        refine ⟨⟨_, hnew⟩, ?_⟩
        have := leastN_le hnew
        have := rng_few hR2
        simp at this
        show leastN (II t sb u D xu.mb it cu lu a3 (st2.length + 1) c3 _ _ _) < leastN (II t sb u D xu.mb it cu lu a2 st2.length c2 pi pk pa)
        rw [hMe]; omega
      · have hkd : ¬ isDir t.pub k := fun ⟨n, h1, h2⟩ => by rw [hnk2] at h1; cases h1; exact hfile h2
        have hw2 := hWI.wi.file hkd
        have hnew : II t sb u D xu.mb it cu lu a2 st2.length c2 (HP.one it (.mapIter (some xu.mb) cu (nextI S (some y)) cu)) pk (SeenA sb fun q => if q = k then g k + 1 else g q) (M - 1) :=
          ⟨st2, P ++ [(y.1, k)], S.push y.2.2, _, rfl, hsome2, hWI.snoc (e := (y.1, k)) heu hnot hks hk00 hw2, by rw [List.map_append]; exact hR2, .refl _, hpk, .refl _, by have := rng_few hR2; simp at this ⊢; omega⟩
        refine ⟨⟨_, hnew⟩, ?_⟩
        have := leastN_le hnew
        have := rng_few hR2
        simp at this
        show leastN (II t sb u D xu.mb it cu lu a2 st2.length c2 _ _ _) < leastN (II t sb u D xu.mb it cu lu a2 st2.length c2 pi pk pa)
        rw [hMe]; omega
  · have hst : st = [] := List.length_eq_zero_iff.1 (by omega)
    subst hst
    have hE : WEnd t.pub D f := ⟨hW, hf, htgt⟩
    refine ⟨t.mb, ldNodes.ent hQ, ?_⟩
    refine (rangA_ok (Q := Own R0 h0) (enc := i64v) (l := l0) (c := c0) undNM hm0).weak (fun _ _ h => h) ?_
    rintro v R h ⟨it, rfl, H⟩
    refine ⟨it, HP.one it (.mapIter (some t.mb) c0 #[] c0), Own R0 h0, rfl, ?_, H⟩
    clear H
    refine ⟨fun w pi => ∃ m, FI t f t.mb it c0 l0 pi m, fun w pi => leastN (FI t f t.mb it c0 l0 pi), ⟨l0.length, #[], [], Rng.nil l0, .refl _, fun _ _ h => (by cases h), rfl⟩, ?_⟩
    intro w2 pi hFI
    have hF := leastN_spec hFI
    generalize hMe : leastN (FI t f t.mb it c0 l0 pi) = M at hF ⊢
    obtain ⟨S, P, hR, hpi, hgood, hM⟩ := hF
    refine OTri.pre3 ((nextA_ok (Q := Own R0 h0) hI0.2 hm0).weak (fun _ _ h => h) ?_) (HP.ent.sep hpi _)
    rintro v R h ⟨e, he, H⟩
    rcases e with _ | y
    · refine ⟨false, .tuple #[], .tuple #[], _, he.1, ⟨fun h => (by cases h), fun _ => fin (HP.ent.refl _) (wholeS_yes (hE.yes pp fun n hn h0 => ?_))⟩, H⟩
      obtain ⟨z, hz, rfl⟩ := List.mem_map.1 (show n ∈ t.ns.map (·.p) from hn)
      refine hgood _ hn (hR.done he.2 _ ?_) h0
      rw [← alFind_isSome, hk0]; exact nodeV_mem hz
    · obtain ⟨rfl, hyl, hyS⟩ := he
      obtain ⟨x, hxm, hxn, hyv⟩ := al_nd hI0 hk0 hyl
      obtain ⟨hnot, hR2⟩ := hR.step hI0 hyl hyS
      have hent := entry_ok (enc := i64v) (it := it) (m := t.mb) (c := c0) (S := S) (x := y) hI0.2 hyl (A := HP.sep (HP.one it (.mapIter (some t.mb) c0 (nextI S (some y)) c0)) (Own R0 h0)) (fun R h H => HP.sep_left H) (fun R h H => by
        obtain ⟨_, _, _, _, l2, _, b2⟩ := H
        exact l2 _ _ (hm0 _ _ b2))
      rw [hyv] at hent
      have hxp : x.p ∈ t.pub := List.mem_map.2 ⟨x, hxm, rfl⟩
      have hk64 := pp.few _ hxp
      refine ⟨true, i64v y.1, y.2.1, _, rfl, ⟨fun _ => ⟨y.1, .pointer (some ⟨x.nb, 0, none⟩), hent, ?_⟩, fun h => (by simp at h)⟩, H⟩
      clear H
      have nxt : (x.p.num ≠ 0 → f x.p.num ≠ 0 ∧ (f x.p.num : Int) = x.p.links) → ∀ {w3 : Bool}, (∃ m, FI t f t.mb it c0 l0 (HP.one it (.mapIter (some t.mb) c0 (nextI S (some y)) c0)) m) ∧ leastN (FI t f t.mb it c0 l0 (HP.one it (.mapIter (some t.mb) c0 (nextI S (some y)) c0))) < M := fun hx w3 => by
        have hlen := rng_few hR2
        simp at hlen
        have hnew : FI t f t.mb it c0 l0 (HP.one it (.mapIter (some t.mb) c0 (nextI S (some y)) c0)) (M - 1) := ⟨_, P ++ [y.1], hR2, .refl _, fun n hn hP h0 => by
          rcases List.mem_append.1 hP with h | h
          · exact hgood n hn h h0
          · have e2 : n.num = x.p.num := by have := List.mem_singleton.1 h; omega
            have e3 : n = x.p := map_inj (fun z : Nd => z.num) pp.nd hn hxp e2
            rw [e3]; rw [e3] at h0; exact hx h0, by simp; omega⟩
        have := leastN_le hnew
        exact ⟨⟨_, hnew⟩, by omega⟩
      rw [← hxn]
      refine ⟨fun hne => ?_, fun he => by have h := nxt (fun h => absurd (show ((x.p.num : Int) = 0) by simpa using he) (by omega)) (w3 := w2); rw [← hMe] at h; exact h⟩
      have hne : x.p.num ≠ 0 := by omega
      refine ⟨.pointer (some ⟨sb, x.p.num, none⟩), wIx rfl hk64, (f x.p.num : Nat), wLd hk64 hq, ⟨fun hz => no (HP.ent.refl _) (hE.no pp hxp hne (.inl (by omega))), fun hz => ?_⟩⟩
      refine ⟨.pointer (some ⟨sb, x.p.num, none⟩), wIx rfl hk64, (f x.p.num : Nat), wLd hk64 hq, x.nb, nilChk', x.p.links, (ldLinks hxm).ent hQ, ⟨fun hz2 => no (HP.ent.refl _) (hE.no pp hxp hne (.inr hz2)), fun hz2 => ?_⟩⟩
      have h := nxt (fun _ => ⟨by omega, by simpa using hz2⟩) (w3 := w2)
      rw [← hMe] at h; exact h
end Go.Proofs.YtdieogcemmnaaaaGreatDoor

