/- Contracts of the unit: what it lets go. No condition. -/
import Derived.Test.YtmibmjehjagmbaaUnitC
namespace Go.Proofs.Ytmibmjehjagmbaa
set_option linter.unusedSimpArgs false
set_option linter.unusedVariables false
open Go.Proofs.Ytmibmjehjagmbaa RX

def Box (bx ub : Nat) : HP := HP.one bx (.cells #[.pointer (some ⟨ub, 0, none⟩)] 26)
theorem uFor1_ok (bx ub bd mc mi : Nat) (D C I : HP) (s : USt) (k what : Int) (a : Option Addr) (n c : Nat) :
    Tri Try.prog 106 #[.int .i64 k, .agg #[.int .i64 what, .slice a n c], .pointer (some ⟨bx, 0, none⟩)] (HP.sep (Box bx ub) (HP.sep (UOne ub bd mc mi s) (HP.sep D (HP.sep C I))))
    (fun v => HP.and (v = .bool (decide (k < s.low))) (HP.sep (Box bx ub) (HP.sep (UOne ub bd mc mi s) (HP.sep D (HP.sep C I))))) := by
  refine Tri.weak (A := HP.sep HP.tt (HP.sep (Box bx ub) (HP.sep (UOne ub bd mc mi s) (HP.sep D (HP.sep C I))))) ?_ (fun _ _ h => HP.tt_sep h) (fun _ _ _ h => h)
  refine tri_of_tree (ρ := [.i k, .i what, .a a, .n n, .n c, .p HP.tt, .n bx, .n ub, .n bd, .p D, .i s.epoch, .i s.low, .i s.top, .n mc, .p C, .n mi, .p I]) mixed Try.func106 tree_uFor1 ?_
  unfold t_uFor1
  simp only [T.den, E.prop, E.den, RX.look, F1.app, F2.app, Uni.int_i, Uni.nat_n, Uni.bool_c, Uni.str_s, Uni.adr_a, Uni.val_v, Uni.hp_p, hden, cden, V.den, W.den, A.den, BR.den, SA.den, FV.den, capV, exs, exP, allP, Cur.app, List.map_cons, List.map_nil, List.cons_append, List.nil_append, List.drop_succ_cons, List.drop_zero, List.length_cons, List.length_nil, Nat.zero_add, Nat.reduceAdd, Int.neg_neg, Bool.not_not, List.append_nil, Nat.add_zero, List.getElem?_cons_zero, List.getElem?_cons_succ, Decidable.not_not]
  exact fun x => .of fun R h H => ⟨trivial, HP.sep_right H⟩
theorem uFor1C_ok (bx ub bd mc mi : Nat) (D C I : HP) (s : USt) (k what : Int) (a : Option Addr) (n c : Nat) :
    Tri Try.prog 106 #[.int .i64 k, .agg #[.int .i64 what, .slice a n c], .pointer (some ⟨bx, 0, none⟩)] (HP.sep C (HP.sep (Box bx ub) (HP.sep (UOne ub bd mc mi s) (HP.sep D I))))
    (fun v => HP.and (v = .bool (decide (k < s.low))) (HP.sep C (HP.sep (Box bx ub) (HP.sep (UOne ub bd mc mi s) (HP.sep D I))))) :=
  (uFor1_ok bx ub bd mc mi D C I s k what a n c).weak
    (fun R h H => HP.sep_mono (HP.swap H) (fun _ h => h) fun y hy => HP.sep_mono (HP.swap hy) (fun _ h => h) fun z hz => HP.swap hz)
    (fun v R h ⟨e, H⟩ => ⟨e, HP.swap (HP.sep_mono H (fun _ h => h) fun y hy => HP.swap (HP.sep_mono hy (fun _ h => h) fun z hz => HP.swap hz))⟩)
theorem least {p : Nat → Prop} (h : ∃ n, p n) : ∃ m, p m ∧ ∀ n, p n → m ≤ n := by
  obtain ⟨n, hn⟩ := h
  induction n using Nat.strongRecOn with
  | _ n ih =>
    by_cases hx : ∃ m, m < n ∧ p m
    · obtain ⟨m, hm, hp⟩ := hx; exact ih m hm hp
    · exact ⟨n, hn, fun m hp => Nat.le_of_not_lt fun hlt => hx ⟨m, hlt, hp⟩⟩
open Classical in
noncomputable def leastN (p : Nat → Prop) : Nat := if h : ∃ n, p n then Classical.choose (least h) else 0
theorem leastN_spec {p : Nat → Prop} (h : ∃ n, p n) : p (leastN p) := by
  unfold leastN; rw [dif_pos h]; exact (Classical.choose_spec (least h)).1
theorem leastN_le {p : Nat → Prop} {n : Nat} (h : p n) : leastN p ≤ n := by
  unfold leastN; rw [dif_pos ⟨n, h⟩]; exact (Classical.choose_spec (least ⟨n, h⟩)).2 n h
/-- The next entry of a map. -/
theorem next_map {κ α : Type} [DecidableEq κ] {enc : κ → Value} {m it c : Nat} {l : AL κ} {V : Value → α → HP} {f : κ → Option α} {S : Array Nat} {ty : TypeId} (hs : Stamps l c) :
    OTri Try.prog (nextS (.pointer (some ⟨it, 0, none⟩)) ty) (HP.sep (HP.one it (.mapIter (some m) c S c)) (MapH V enc m f l c))
    (fun v => HP.ex fun e => HP.and (nextE enc l S v e) (HP.sep (HP.one it (.mapIter (some m) c (nextI S e) c)) (MapH V enc m f l c))) := by
  refine OTri.fact (φ := MapI l c) (fun R h H => (HP.sep_right H).1) fun hI => ?_
  refine ((next_ok (m := m) (it := it) (S := S) (ty := ty) (enc := enc) hs).frame (Vals V l f)).weak (fun R h ⟨h1, h2, d, l1, l2, H1, ⟨_, H2⟩⟩ => HP.sep_assoc' ⟨h1, h2, d, l1, l2, H1, H2⟩) ?_
  rintro v R h ⟨h1, h2, d, l1, l2, ⟨e, he, H⟩, HV⟩
  exact ⟨e, he, HP.sep_mono (HP.sep_assoc ⟨h1, h2, d, l1, l2, H, HV⟩) (fun _ h => h) fun y hy => ⟨hI, hy⟩⟩
theorem map_inj {α β : Type} (g : α → β) : ∀ {l : List α}, (l.map g).Nodup → ∀ {x y : α}, x ∈ l → y ∈ l → g x = g y → x = y
  | [], _, _, _, hx, _, _ => by cases hx
  | z :: l, h, x, y, hx, hy, e => by
    simp only [List.map_cons, List.nodup_cons] at h
    rcases List.mem_cons.1 hx with rfl | hx2 <;> rcases List.mem_cons.1 hy with rfl | hy2
    · rfl
    · exact (h.1 (List.mem_map.2 ⟨y, hy2, e.symm⟩)).elim
    · exact (h.1 (List.mem_map.2 ⟨x, hx2, e⟩)).elim
    · exact map_inj g h.2 hx2 hy2 e
theorem stamp_push {κ : Type} {l : AL κ} {c : Nat} (hs : Stamps l c) {x y : κ × Value × Nat} {S : Array Nat} (hx : x ∈ l) (hy : y ∈ l) (h : y.2.2 ∈ S.push x.2.2) : y = x ∨ y.2.2 ∈ S := by
  rcases Array.mem_push.1 h with h | h
  · exact .inr h
  · exact .inl (map_inj (fun z : κ × Value × Nat => z.2.2) hs.nodup hy hx h)
theorem delF_ok (bx ub bd mc mi : Nat) (D I : HP) (s : USt) (lc : AL Int) (cc : Nat) :
    Tri Try.prog 105 #[.map (some mc), .func (.func 106) #[] #[.pointer (some ⟨bx, 0, none⟩)]] (HP.sep (MapH CellV iE mc s.cells lc cc) (HP.sep (Box bx ub) (HP.sep (UOne ub bd mc mi s) (HP.sep D I))))
    (fun v => HP.and (v = .tuple #[]) (HP.sep (MapE CellV iE mc (fun k => if k < s.low then none else s.cells k)) (HP.sep (Box bx ub) (HP.sep (UOne ub bd mc mi s) (HP.sep D I))))) := by
  refine Tri.fact (φ := MapI lc cc) (fun R h H => (HP.sep_left H).1) fun hI0 => ?_
  refine tri_of_tree (ρ := [.n mc, .p (MapH CellV iE mc s.cells lc cc), .n bx, .n ub, .n bd, .p D, .i s.epoch, .i s.low, .i s.top, .n mi, .p I]) mixed Try.func105 tree_delF ?_
  unfold t_delF
  simp only [T.den, E.prop, E.den, RX.look, F1.app, F2.app, Uni.int_i, Uni.nat_n, Uni.bool_c, Uni.str_s, Uni.adr_a, Uni.val_v, Uni.hp_p, hden, cden, V.den, W.den, A.den, BR.den, SA.den, FV.den, capV, exs, exP, allP, Cur.app, List.map_cons, List.map_nil, List.cons_append, List.nil_append, List.drop_succ_cons, List.drop_zero, List.length_cons, List.length_nil, Nat.zero_add, Nat.reduceAdd, Int.neg_neg, Bool.not_not, List.append_nil, Nat.add_zero, List.getElem?_cons_zero, List.getElem?_cons_succ, Decidable.not_not]
  rw [semOf_range]
  simp only [T.den, E.prop, E.den, RX.look, F1.app, F2.app, Uni.int_i, Uni.nat_n, Uni.bool_c, Uni.str_s, Uni.adr_a, Uni.val_v, Uni.hp_p, hden, cden, V.den, W.den, A.den, BR.den, SA.den, FV.den, capV, exs, exP, allP, Cur.app, List.map_cons, List.map_nil, List.cons_append, List.nil_append, List.drop_succ_cons, List.drop_zero, List.length_cons, List.length_nil, Nat.zero_add, Nat.reduceAdd, Int.neg_neg, Bool.not_not, List.append_nil, Nat.add_zero, List.getElem?_cons_zero, List.getElem?_cons_succ, Decidable.not_not]
  refine ((range_ok (m := mc) (l := lc) (c := cc) (enc := iE) undMc).frame (Vals CellV lc s.cells)).weak (fun R h H => H.2) ?_
  rintro v R h ⟨h1, h2, d, l1, l2, ⟨it, rfl, H⟩, HV⟩
  have Hst : (HP.sep (HP.one it (.mapIter (some mc) cc #[] cc)) (MapH CellV iE mc s.cells lc cc)).p R h := HP.sep_mono (HP.sep_assoc ⟨h1, h2, d, l1, l2, H, HV⟩) (fun _ h => h) fun y hy => ⟨hI0, hy⟩
  clear H HV d l1 l2
  let J : HP → HP → Nat → Prop := fun Pi Pm N => ∃ (l : AL Int) (S : Array Nat) (f : Int → Option CellS), Pi = HP.one it (.mapIter (some mc) cc S cc) ∧ Pm = MapH CellV iE mc f l cc ∧ MapI l cc ∧ (∀ k, f k = s.cells k ∨ (k < s.low ∧ f k = none)) ∧ (∀ x ∈ l, x.2.2 ∈ S → ¬ x.1 < s.low) ∧ leftN l S = N
  refine ⟨it, _, _, rfl, ⟨fun Pi Pm => ∃ N, J Pi Pm N, fun Pi Pm => leastN (J Pi Pm), ⟨_, lc, #[], s.cells, rfl, rfl, hI0, fun k => .inl rfl, fun x _ hx => absurd hx (by simp), rfl⟩, ?_⟩, Hst⟩
  intro Pi Pm hJ
  have hJ' := leastN_spec hJ
  generalize hNe : leastN (J Pi Pm) = N at hJ'
  obtain ⟨l, S, f, rfl, rfl, hI, hf, hS, hN⟩ := hJ'
  rw [semOf_next]
  simp only [T.den, E.prop, E.den, RX.look, F1.app, F2.app, Uni.int_i, Uni.nat_n, Uni.bool_c, Uni.str_s, Uni.adr_a, Uni.val_v, Uni.hp_p, hden, cden, V.den, W.den, A.den, BR.den, SA.den, FV.den, capV, exs, exP, allP, Cur.app, List.map_cons, List.map_nil, List.cons_append, List.nil_append, List.drop_succ_cons, List.drop_zero, List.length_cons, List.length_nil, Nat.zero_add, Nat.reduceAdd, Int.neg_neg, Bool.not_not, List.append_nil, Nat.add_zero, List.getElem?_cons_zero, List.getElem?_cons_succ, Decidable.not_not]
  refine (next_map hI.2).weak (fun _ _ h => h) ?_
  rintro v R h ⟨e, he, H⟩
  rcases e with _ | x
  · refine ⟨false, .tuple #[], .tuple #[], _, he.1, ⟨fun h => (by cases h), fun _ => HP.ent.of fun R h H => ⟨trivial, ?_⟩⟩, H⟩
    refine HP.sep_mono H (fun y hy => ?_) fun _ h => h
    have e : f = fun k => if k < s.low then none else s.cells k := funext fun k => by
      by_cases hk : k < s.low
      · rw [if_pos hk]
        cases hfk : f k with
        | none => rfl
        | some z =>
          obtain ⟨v, hv, _⟩ := MapH.yes hy cellV_pers hfk y
          obtain ⟨b, hb⟩ := alFind_some_mem k l v hv
          exact absurd hk (hS _ hb (he.2 _ hb))
      · rw [if_neg hk]
        exact (hf k).resolve_right fun h => hk h.1
    rw [← e]
    exact ⟨l, cc, hy⟩
  · obtain ⟨rfl, hx, hxS⟩ := he
    have Hm := HP.sep_right H
    have hfind : alFind x.1 l = some x.2.1 := alFind_mem x.1 x.2.1 x.2.2 l hI.1 hx
    obtain ⟨z, a, c, hz, _⟩ : ∃ z a c, x.2.1 = .agg #[.int .i64 (CellS.what z), .slice a z.data.length c] ∧ f x.1 = some z := by
      cases hfk : f x.1 with
      | none => rw [MapH.no Hm hfk] at hfind; cases hfind
      | some z =>
        obtain ⟨v, hv, a, c, ⟨e, _⟩, _⟩ := MapH.yes Hm cellV_pers hfk h
        rw [hfind] at hv
        cases hv
        exact ⟨z, a, c, e, rfl⟩
    refine ⟨true, iE x.1, x.2.1, _, rfl, ⟨fun _ => ?_, fun h => by simp at h⟩, H⟩
    have hent := entry_ok (enc := iE) (it := it) (m := mc) (c := cc) (S := S) (x := x) hI.2 hx (A := HP.sep (HP.one it (.mapIter (some mc) cc (nextI S (some x)) cc)) (MapH CellV iE mc f l cc)) (fun R h H => HP.sep_left H) (fun R h H => MapH.at (HP.sep_right H))
    rw [hz] at hent
    refine ⟨x.1, _, _, _, _, hent, fun y => ?_⟩
    refine (uFor1C_ok bx ub bd mc mi D (MapH CellV iE mc f l cc) I s x.1 _ _ _ _).weak (fun _ _ h => h) ?_
    rintro v R h ⟨rfl, H⟩
    refine ⟨_, rfl, ⟨fun hlow => ?_, fun hlow => ?_⟩, H⟩
    · rw [semOf_delete (by decide)]
      simp only [T.den, E.prop, E.den, RX.look, F1.app, F2.app, Uni.int_i, Uni.nat_n, Uni.bool_c, Uni.str_s, Uni.adr_a, Uni.val_v, Uni.hp_p, hden, cden, V.den, W.den, A.den, BR.den, SA.den, FV.den, capV, exs, exP, allP, Cur.app, List.map_cons, List.map_nil, List.cons_append, List.nil_append, List.drop_succ_cons, List.drop_zero, List.length_cons, List.length_nil, Nat.zero_add, Nat.reduceAdd, Int.neg_neg, Bool.not_not, List.append_nil, Nat.add_zero, List.getElem?_cons_zero, List.getElem?_cons_succ, Decidable.not_not]
      refine (MapH.del (r := mc) (l := l) (c := cc) (f := f) (V := CellV) iK undMc x.1 #[88, 3] 0 rfl).weak (fun _ _ h => h) ?_
      rintro v R h ⟨rfl, H⟩
      have hJ2 : J (HP.one it (.mapIter (some mc) cc (nextI S (some x)) cc)) (MapH CellV iE mc (fput f x.1 none) (alDel x.1 l) cc) (leftN (alDel x.1 l) (S.push x.2.2)) := by
        refine ⟨alDel x.1 l, S.push x.2.2, fput f x.1 none, rfl, rfl, hI.del x.1, fun k => ?_, fun y hy hyS => ?_, rfl⟩
        · unfold fput
          by_cases e : k = x.1
          · subst e; exact .inr ⟨by simpa using hlow, if_pos rfl⟩
          · rw [if_neg e]; exact hf k
        · have hyl := (alDel_sub x.1 l).subset hy
          rcases stamp_push hI.2 hx hyl hyS with rfl | h
          · have := (alFind_isSome y.1 (alDel y.1 l)).2 (List.mem_map.2 ⟨y, hy, rfl⟩)
            rw [alFind_del _ _ _ hI.1, if_pos rfl] at this
            cases this
          · exact hS y hyl h
      refine ⟨_, rfl, ⟨⟨_, hJ2⟩, Nat.lt_of_le_of_lt (leastN_le hJ2) ?_⟩, H⟩
      rw [hNe, ← hN]
      exact Nat.lt_of_le_of_lt (((alDel_sub x.1 l).filter _).length_le) (leftN_push hx hxS)
    · have hJ2 : J (HP.one it (.mapIter (some mc) cc (nextI S (some x)) cc)) (MapH CellV iE mc f l cc) (leftN l (S.push x.2.2)) := by
        refine ⟨l, S.push x.2.2, f, rfl, rfl, hI, hf, fun y hy hyS => ?_, rfl⟩
        rcases stamp_push hI.2 hx hy hyS with rfl | h
        · simpa using hlow
        · exact hS y hy h
      refine ⟨⟨_, hJ2⟩, Nat.lt_of_le_of_lt (leastN_le hJ2) ?_⟩
      rw [hNe, ← hN]
      exact leftN_push hx hxS
end Go.Proofs.Ytmibmjehjagmbaa
