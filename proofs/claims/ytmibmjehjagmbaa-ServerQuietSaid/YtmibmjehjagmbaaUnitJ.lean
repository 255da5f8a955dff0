/- Contracts of the unit: Open. No condition. -/
import Derived.Test.YtmibmjehjagmbaaUnitI
namespace Go.Proofs.Ytmibmjehjagmbaa
set_option linter.unusedSimpArgs false
set_option linter.unusedVariables false
open Go.Proofs.Ytmibmjehjagmbaa RX

def s0 : USt := ⟨0, 0, 0, fun _ => none, fun _ => none⟩
/-- What pages lead to, one behind the other. -/
def foldS (s : USt) : List (List UInt8) → Option USt
  | [] => some s
  | b :: r => match followS s b with
    | some s' => foldS s' r
    | none => none
theorem foldS_app (s : USt) : ∀ (l m : List (List UInt8)), foldS s (l ++ m) = (foldS s l).bind fun s' => foldS s' m
  | [], m => rfl
  | b :: r, m => by
    simp only [List.cons_append, foldS]
    cases followS s b with
    | none => rfl
    | some s' => exact foldS_app s' r m
theorem foldS_step {s s1 : USt} {l : List (List UInt8)} (h : foldS s l = some s1) (k : Nat) (b : List UInt8) (hk : l[k]? = some b) : ∃ s2 s3, foldS s (l.take k) = some s2 ∧ followS s2 b = some s3 ∧ foldS s (l.take (k + 1)) = some s3 := by
  obtain ⟨hlt, rfl⟩ := List.getElem?_eq_some_iff.1 hk
  have e : l = l.take (k + 1) ++ l.drop (k + 1) := (List.take_append_drop _ _).symm
  rw [e, foldS_app] at h
  cases h1 : foldS s (l.take (k + 1)) with
  | none => rw [h1] at h; cases h
  | some s3 =>
    have h1' := h1
    rw [List.take_succ_eq_append_getElem hlt, foldS_app] at h1'
    cases h2 : foldS s (l.take k) with
    | none => rw [h2] at h1'; cases h1'
    | some s2 =>
      rw [h2] at h1'
      simp only [Option.bind_some, foldS] at h1'
      split at h1'
      · rename_i s' hs; cases h1'; exact ⟨s2, s3, rfl, hs, rfl⟩
      · cases h1'
theorem triM {f : FuncId} {args : Array Value} {ub bd mc mi : Nat} {D S : HP} {s : USt} {B : Value → HP}
    (t : ∀ lc cc li ci, Tri Try.prog f args (HP.sep (UOne ub bd mc mi s) (HP.sep D (HP.sep (MapH CellV iE mc s.cells lc cc) (HP.sep (MapH InstV iE mi s.inst li ci) S)))) B) : Tri Try.prog f args (HP.sep (UOne ub bd mc mi s) (HP.sep D (HP.sep (MapE CellV iE mc s.cells) (HP.sep (MapE InstV iE mi s.inst) S)))) B := by
  refine (Tri.ex (A := fun lc => HP.ex fun cc => HP.ex fun li => HP.ex fun ci => HP.sep (UOne ub bd mc mi s) (HP.sep D (HP.sep (MapH CellV iE mc s.cells lc cc) (HP.sep (MapH InstV iE mi s.inst li ci) S)))) fun lc => Tri.ex fun cc => Tri.ex fun li => Tri.ex fun ci => t lc cc li ci).weak ?_ fun _ _ _ h => h
  rintro R h ⟨h1, h2, d, l1, l2, H1, h3, h4, d2, l3, l4, H2, h5, h6, d3, l5, l6, ⟨lc, cc, H3⟩, h7, h8, d4, l7, l8, ⟨li, ci, H4⟩, H5⟩
  exact ⟨lc, cc, li, ci, h1, h2, d, l1, l2, H1, h3, h4, d2, l3, l4, H2, h5, h6, d3, l5, l6, H3, h7, h8, d4, l7, l8, H4, H5⟩
theorem uOpen_ok (bd : Nat) (room : Int) (ps : List Pg) (lasts : Nat) (s1 : USt) (hs : foldS s0 (wholes ps) = some s1) :
    Tri Try.prog 17 #[.pointer (some ⟨bd, 0, none⟩)] (DRep bd room ps lasts)
    (fun v => HP.ex fun ub => HP.and (v = .tuple #[.pointer (some ⟨ub, 0, none⟩), .int .i64 0]) (URep ub bd (DRep bd room ps lasts) (forgS s1))) := by
  refine tri_of_tree (ρ := [.n bd, .p (DRep bd room ps lasts)]) mixed Try.func17 tree_uOpen ?_
  unfold t_uOpen
  simp only [T.den, E.prop, E.den, RX.look, F1.app, F2.app, Uni.int_i, Uni.nat_n, Uni.bool_c, Uni.str_s, Uni.adr_a, Uni.val_v, Uni.hp_p, hden, cden, V.den, W.den, A.den, BR.den, SA.den, FV.den, capV, exs, exP, allP, Cur.app, List.map_cons, List.map_nil, List.cons_append, List.nil_append, List.drop_succ_cons, List.drop_zero, List.length_cons, List.length_nil, Nat.zero_add, Nat.reduceAdd, Int.neg_neg, Bool.not_not, List.append_nil, Nat.add_zero, List.getElem?_cons_zero, List.getElem?_cons_succ, Decidable.not_not]
  intro mc mi ub
  refine (dPages_ok bd room ps lasts).weak (fun _ _ h => h) ?_
  rintro v R h ⟨a, c, ⟨rfl, hD⟩, h1, h2, dj, l1, l2, HD, xs, ⟨hx1, hx2⟩, HL⟩
  have hall : ∀ (k : Nat) (p : List UInt8), (wholes ps)[k]? = some p → ∃ x, xs[k]? = some x ∧ x.2.1 = p.length ∧ p.length ≤ 140737488355328 := fun k p hp => by
    obtain ⟨x, q1, q2, q3, _⟩ := AllB.get k (HP.sep_right HL) hp
    exact ⟨x, q1, q2, q3⟩
  have hsome : (wholes ps).length ≠ 0 → a.isSome = true := fun hn => OwC.some (HP.sep_left HL) (by omega)
  have hlen : (wholes ps).length ≤ 65536 := by
    have h1 : (wholes ps).length ≤ ps.length := List.length_filterMap_le _ _
    have := hD.2.1
    have := hD.2.2.1
    omega
  generalize hls : wholes ps = ls at *
  refine ⟨a, ls.length, c, HP.sep (OwC 30 1 a ls.length c (xs.map slV)) (AllB xs ls), DRep bd room ps lasts, rfl, ?_, h2, h1, dj.symm, l2, l1, HL, HD⟩
  clear HL HD dj l1 l2
  let J : Value → HP → Int → Int → HP → HP → Nat → Int → Int → Int → Nat → Nat → HP → HP → Prop := fun _ _ _ i Pl D d ep lo tp m1 m2 PI PC => ∃ (k : Nat) (s : USt), i = k ∧ k ≤ ls.length ∧ foldS s0 (ls.take k) = some s ∧ ep = s.epoch ∧ lo = s.low ∧ tp = s.top ∧ m1 = mc ∧ m2 = mi ∧ d = bd ∧
    HP.ent Pl (HP.sep (OwC 30 1 a ls.length c (xs.map slV)) (AllB xs ls)) ∧ HP.ent D (DRep bd room ps lasts) ∧ HP.ent PI (MapE InstV iE mi s.inst) ∧ HP.ent PC (MapE CellV iE mc s.cells)
  refine ⟨J, fun _ _ _ i _ _ _ _ _ _ _ _ _ _ => ls.length - i.toNat, ⟨0, s0, rfl, Nat.zero_le _, rfl, rfl, rfl, rfl, rfl, rfl, rfl, HP.ent.refl _, HP.ent.refl _, .of fun R h H => MapE.new _ _ _ H, .of fun R h H => MapE.new _ _ _ H⟩, ?_⟩
  rintro u0 p0 e0 i Pl D d ep lo tp m1 m2 PI PC ⟨k, s, rfl, hk, hf, rfl, rfl, rfl, rfl, rfl, rfl, hPl, hDD, hPI, hPC⟩
  refine ⟨fun hlt => ⟨by omega, fun _ => ⟨hsome (by omega), fun _ => ?_⟩⟩, fun hge => ?_⟩
  · have hlt' : k < ls.length := by omega
    have hg : ls[k]? = some ls[k] := List.getElem?_eq_getElem hlt'
    obtain ⟨x, hx, x1, x2⟩ := hall k _ hg
    obtain ⟨s2, s3, g1, g2, g3⟩ := foldS_step hs k _ hg
    rw [hf] at g1
    cases g1
    refine ⟨x.1, x.2.1, x.2.2, ?_, ?_⟩
    · rw [semOf_load]
      simp only [T.den, E.prop, E.den, RX.look, F1.app, F2.app, Uni.int_i, Uni.nat_n, Uni.bool_c, Uni.str_s, Uni.adr_a, Uni.val_v, Uni.hp_p, hden, cden, V.den, W.den, A.den, BR.den, SA.den, FV.den, capV, exs, exP, allP, Cur.app, List.map_cons, List.map_nil, List.cons_append, List.nil_append, List.drop_succ_cons, List.drop_zero, List.length_cons, List.length_nil, Nat.zero_add, Nat.reduceAdd, Int.neg_neg, Bool.not_not, List.append_nil, Nat.add_zero, List.getElem?_cons_zero, List.getElem?_cons_succ, Decidable.not_not]
      rw [Int.toNat_natCast]
      exact ORead.ent hPl (load1_ok und8 (by kernel_rfl) (by kernel_rfl) ((OwC.rd 30 1 a ls.length c (xs.map slV)).left (B := AllB xs ls)) (k := k * 1) (off := 0) (v := slV x) (by simp [hx]))
    · refine Tri.pre (A := HP.sep (UOne ub d m1 m2 s) (HP.sep (DRep d room ps lasts) (HP.sep (MapE CellV iE m1 s.cells) (HP.sep (MapE InstV iE m2 s.inst) (HP.sep (OwC 30 1 a ls.length c (xs.map slV)) (AllB xs ls)))))) ?_ ((HP.ent.refl _).sep2 (hDD.sep2 (hPC.sep2 (hPI.sep2 hPl))))
      refine triM fun lc cc li ci => ?_
      refine (uFollow_ok ub d m1 m2 (DRep d room ps lasts) s lc cc li ci x.1 x.2.1 x.2.2 ls[k] (HP.sep (OwC 30 1 a ls.length c (xs.map slV)) (AllB xs ls)) (by
        rw [x1]
        exact RdL.imp fun R h H => by
          obtain ⟨y, q1, q2, q3, q4⟩ := AllB.get k (HP.sep_right H) hg
          rw [hx] at q1
          cases q1
          rw [x1] at q4
          exact q4) x1.symm (by omega)).weak (fun _ _ h => h) ?_
      rintro v R h ⟨rfl, H⟩
      rw [g2] at H
      simp only [Option.getD_some] at H
      refine ⟨true, d, DRep d room ps lasts, s3.epoch, s3.low, s3.top, m1, MapE CellV iE m1 s3.cells, m2, MapE InstV iE m2 s3.inst, HP.sep (OwC 30 1 a ls.length c (xs.map slV)) (AllB xs ls), by rw [g2]; rfl, ⟨fun h => absurd rfl h, fun _ => ⟨inI64 _ (by omega) (by omega), fun _ => ⟨⟨k + 1, s3, by omega, by omega, g3, rfl, rfl, rfl, rfl, rfl, rfl, HP.ent.refl _, HP.ent.refl _, HP.ent.refl _, HP.ent.refl _⟩, by dsimp only; omega⟩⟩⟩, H⟩
  · have hke : k = ls.length := by omega
    subst hke
    rw [List.take_length, hs] at hf
    cases hf
    refine Tri.pre (A := HP.sep (UOne ub d m1 m2 s1) (HP.sep (DRep d room ps lasts) (HP.sep (MapE CellV iE m1 s1.cells) (MapE InstV iE m2 s1.inst)))) ?_ ((HP.ent.refl _).sep2 (hDD.sep2 (hPC.sep2 hPI)))
    refine (Tri.ex (A := fun lc => HP.ex fun cc => HP.sep (UOne ub d m1 m2 s1) (HP.sep (DRep d room ps lasts) (HP.sep (MapH CellV iE m1 s1.cells lc cc) (MapE InstV iE m2 s1.inst)))) fun lc => Tri.ex fun cc => ?_).weak (fun R h ⟨h1, h2, d, l1, l2, H1, h3, h4, d2, l3, l4, H2, h5, h6, d3, l5, l6, ⟨lc, cc, H3⟩, H4⟩ => ⟨lc, cc, h1, h2, d, l1, l2, H1, h3, h4, d2, l3, l4, H2, h5, h6, d3, l5, l6, H3, H4⟩) fun _ _ _ h => h
    refine (uForget_ok ub d m1 m2 _ (MapE InstV iE m2 s1.inst) s1 lc cc).weak (fun _ _ h => h) ?_
    rintro v R h ⟨rfl, H⟩
    refine ⟨d, DRep d room ps lasts, s1.epoch, s1.low, s1.top, m1, MapE CellV iE m1 (forgS s1).cells, m2, MapE InstV iE m2 s1.inst, rfl, .of fun R h H => ⟨ub, rfl, ?_⟩, H⟩
    exact URep.of (s := forgS s1) (mc := m1) (mi := m2) H
end Go.Proofs.Ytmibmjehjagmbaa
