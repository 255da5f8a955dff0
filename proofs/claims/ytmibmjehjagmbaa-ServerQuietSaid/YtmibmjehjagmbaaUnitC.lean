/- Contracts of the unit: what turns within. No condition. -/
import Derived.Test.YtmibmjehjagmbaaUnitB
namespace Go.Proofs.Ytmibmjehjagmbaa
set_option linter.unusedSimpArgs false
set_option linter.unusedVariables false
open Go.Proofs.Ytmibmjehjagmbaa RX

theorem MapH.put1 {κ α : Type} [DecidableEq κ] {enc : κ → Value} {r c : Nat} {l : AL κ} {V : Value → α → HP} {f : κ → Option α} {kt et t : TypeId} (K : KeyEnc Try.prog kt enc) (ht : Try.prog.underlying t = some (.map kt et)) (hV : Pers V) (k : κ) (v : Value) (x : α) (hv : ∀ R h, (MapH V enc r f l c).p R h → (V v x).p R h) :
    OTri Try.prog (updS t (.map (some r)) (enc k) v) (MapH V enc r f l c) (fun z => HP.and (z = .tuple #[]) (MapE V enc r (fput f k (some x)))) :=
  (MapH.put (r := r) (l := l) (c := c) (f := f) K ht hV k v x (A := V v x) (fun _ _ h => h)).weak (fun R h H => ⟨h, PH.none', PH.dj_none h, PH.le.refl _, PH.none_le _, H, hV _ _ _ _ _ (hv R h H)⟩) (fun z R h ⟨e, H⟩ => ⟨e, HP.sep_left H⟩)
def zI : InstS := ⟨0, 0, 0, 0, []⟩
def instAt (s : USt) (n : Int) : InstS := (s.inst n).getD zI
/-- What a look-up of an instance gives. -/
theorem inst_look (mi : Nat) (s : USt) (li : AL Int) (ci : Nat) (n : Int) {R h : PH} (HM : (MapH InstV iE mi s.inst li ci).p R h) :
    ∃ a c, (alFind n li).getD (.agg #[.int .i64 0, .int .i64 0, .int .i64 0, .int .i64 0, .slice none 0 0]) = .agg #[.int .i64 (instAt s n).pr, .int .i64 (instAt s n).pw, .int .i64 (instAt s n).ar, .int .i64 (instAt s n).aw, .slice a (instAt s n).val.length c] ∧ (instAt s n).val.length ≤ 140737488355328 ∧
      ∀ R h, (MapH InstV iE mi s.inst li ci).p R h → (RoB a (instAt s n).val.length (instAt s n).val).p R h := by
  unfold instAt
  cases hc : s.inst n with
  | none =>
    rw [MapH.no HM hc]
    exact ⟨none, 0, rfl, by simp [zI], fun _ _ _ => RoC.nil _ _ _ _⟩
  | some x =>
    obtain ⟨v, hv, a, c, ⟨e, hb⟩, _⟩ := MapH.yes HM instV_pers hc PH.none'
    rw [hv]
    refine ⟨a, c, e, hb, fun R2 h2 H2 => ?_⟩
    obtain ⟨v2, hv2, a2, c2, ⟨e2, _⟩, hr⟩ := MapH.yes H2 instV_pers hc h2
    rw [hv] at hv2
    cases hv2
    rw [e] at e2
    cases e2
    exact hr
def promS (s : USt) (n r w : Int) : USt := { s with inst := fput s.inst n (some { instAt s n with pr := r, pw := w }) }
theorem uProm_ok (ub bd mc mi : Nat) (D C : HP) (s : USt) (li : AL Int) (ci : Nat) (n r w : Int) :
    Tri Try.prog 78 #[.pointer (some ⟨ub, 0, none⟩), .int .i64 n, .agg #[.int .i64 r, .int .i64 w]] (HP.sep (UOne ub bd mc mi s) (HP.sep D (HP.sep C (MapH InstV iE mi s.inst li ci))))
    (fun v => HP.and (v = .tuple #[]) (HP.sep (UOne ub bd mc mi s) (HP.sep D (HP.sep C (MapE InstV iE mi (promS s n r w).inst))))) := by
  refine Tri.fact (fun R h H => inst_look mi s li ci n (HP.sep_right (HP.sep_right (HP.sep_right H)))) ?_
  rintro ⟨a, c, hval, hb, hro⟩
  refine tri_of_tree (ρ := [.n ub, .n bd, .p D, .i s.epoch, .i s.low, .i s.top, .n mc, .p C, .n mi, .p (MapH InstV iE mi s.inst li ci), .i n, .i r, .i w]) mixed Try.func78 tree_uProm ?_
  unfold t_uProm
  simp only [T.den, E.prop, E.den, RX.look, F1.app, F2.app, Uni.int_i, Uni.nat_n, Uni.bool_c, Uni.str_s, Uni.adr_a, Uni.val_v, Uni.hp_p, hden, cden, V.den, W.den, A.den, BR.den, SA.den, FV.den, capV, exs, exP, allP, Cur.app, List.map_cons, List.map_nil, List.cons_append, List.nil_append, List.drop_succ_cons, List.drop_zero, List.length_cons, List.length_nil, Nat.zero_add, Nat.reduceAdd, Int.neg_neg, Bool.not_not, List.append_nil, Nat.add_zero, List.getElem?_cons_zero, List.getElem?_cons_succ, Decidable.not_not]
  intro x
  obtain ⟨i, hi, z1, _⟩ := info_parts infoI
  have hlook := look_ok (r := mi) (l := li) (c := ci) iK undMi hi z1 n false (A := MapH InstV iE mi s.inst li ci) (fun R h H => MapH.at H)
  rw [if_neg (by decide), hval] at hlook
  refine ⟨_, _, _, _, _, _, _, hlook, fun y => ?_⟩
  rw [semOf_update (by decide) (by decide) (by decide)]
  simp only [T.den, E.prop, E.den, RX.look, F1.app, F2.app, Uni.int_i, Uni.nat_n, Uni.bool_c, Uni.str_s, Uni.adr_a, Uni.val_v, Uni.hp_p, hden, cden, V.den, W.den, A.den, BR.den, SA.den, FV.den, capV, exs, exP, allP, Cur.app, List.map_cons, List.map_nil, List.cons_append, List.nil_append, List.drop_succ_cons, List.drop_zero, List.length_cons, List.length_nil, Nat.zero_add, Nat.reduceAdd, Int.neg_neg, Bool.not_not, List.append_nil, Nat.add_zero, List.getElem?_cons_zero, List.getElem?_cons_succ, Decidable.not_not]
  refine (MapH.put1 iK undMi instV_pers n _ { instAt s n with pr := r, pw := w } (fun R h H => ⟨a, c, ⟨rfl, hb⟩, hro R h H⟩)).weak (fun _ _ h => h) ?_
  rintro v R h ⟨rfl, H⟩
  exact ⟨_, rfl, .of fun R h H => ⟨trivial, H⟩, H⟩
def accS (s : USt) (n r w : Int) (l : List UInt8) : USt := { s with inst := fput s.inst n (some ⟨r, w, r, w, l⟩) }
theorem uAcc_ok (ub bd mc mi : Nat) (D C : HP) (s : USt) (li : AL Int) (ci : Nat) (n r w : Int) (a : Option Addr) (k c : Nat) (l : List UInt8) (S : HP) (hr : RdL S a k (l.map u8v)) (hl : l.length = k) (hb : k ≤ 140737488355328) :
    Tri Try.prog 83 #[.pointer (some ⟨ub, 0, none⟩), .int .i64 n, .agg #[.int .i64 r, .int .i64 w], .slice a k c] (HP.sep (UOne ub bd mc mi s) (HP.sep D (HP.sep C (HP.sep (MapH InstV iE mi s.inst li ci) S))))
    (fun v => HP.and (v = .tuple #[]) (HP.sep (UOne ub bd mc mi s) (HP.sep D (HP.sep C (HP.sep (MapE InstV iE mi (accS s n r w l).inst) S))))) := by
  refine tri_of_tree (ρ := [.n ub, .n bd, .p D, .i s.epoch, .i s.low, .i s.top, .n mc, .p C, .n mi, .p (MapH InstV iE mi s.inst li ci), .i n, .i r, .i w, .a a, .n k, .n c, .p S]) mixed Try.func83 tree_uAcc ?_
  unfold t_uAcc
  simp only [T.den, E.prop, E.den, RX.look, F1.app, F2.app, Uni.int_i, Uni.nat_n, Uni.bool_c, Uni.str_s, Uni.adr_a, Uni.val_v, Uni.hp_p, hden, cden, V.den, W.den, A.den, BR.den, SA.den, FV.den, capV, exs, exP, allP, Cur.app, List.map_cons, List.map_nil, List.cons_append, List.nil_append, List.drop_succ_cons, List.drop_zero, List.length_cons, List.length_nil, Nat.zero_add, Nat.reduceAdd, Int.neg_neg, Bool.not_not, List.append_nil, Nat.add_zero, List.getElem?_cons_zero, List.getElem?_cons_succ, Decidable.not_not]
  intro x
  refine (cloneR_ok S a k c l hr hl hb).weak (fun _ _ h => h) ?_
  rintro v R h ⟨a', c', rfl, H⟩
  refine ⟨a', k, c', RoB a' k l, S, rfl, ?_, H⟩
  rw [semOf_update (by decide) (by decide) (by decide)]
  simp only [T.den, E.prop, E.den, RX.look, F1.app, F2.app, Uni.int_i, Uni.nat_n, Uni.bool_c, Uni.str_s, Uni.adr_a, Uni.val_v, Uni.hp_p, hden, cden, V.den, W.den, A.den, BR.den, SA.den, FV.den, capV, exs, exP, allP, Cur.app, List.map_cons, List.map_nil, List.cons_append, List.nil_append, List.drop_succ_cons, List.drop_zero, List.length_cons, List.length_nil, Nat.zero_add, Nat.reduceAdd, Int.neg_neg, Bool.not_not, List.append_nil, Nat.add_zero, List.getElem?_cons_zero, List.getElem?_cons_succ, Decidable.not_not]
  refine (MapH.put iK undMi instV_pers n _ ⟨r, w, r, w, l⟩ (fun R h H => ?_)).weak (fun _ _ h => h) ?_
  · subst hl
    exact ⟨a', c', ⟨rfl, hb⟩, H⟩
  · rintro v R h ⟨rfl, H⟩
    exact ⟨_, rfl, .of fun R h H => ⟨trivial, H⟩, H⟩
end Go.Proofs.Ytmibmjehjagmbaa
