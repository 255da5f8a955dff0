/- Texts of this claim, joined. No condition. -/
import Derived.Test.YtbmajijnjkicmaaDoorAAJ1
import Derived.Test.YtbmajijnjkicmaaDoorAAJ2
import Derived.Test.YtbmajijnjkicmaaDoorAAJ3
import Derived.Laws.Cover1
import Derived.KernelRfl
import Derived.OpenShut
import Derived.ProofKit
import Derived.ShutString
import Derived.ChangeOld
import Derived.Below
import Derived.SizedLaws
import Derived.Lay
import Derived.LaidMore
import Derived.Test.YtbmajijnjkicmaaDoorTie
import Derived.Test.YtbmajijnjkicmaaDoorCards
import Derived.SevenTiedAt
set_option linter.unusedSimpArgs false
set_option linter.unusedVariables false

namespace Go.Proofs.YtbmajijnjkicmaaDoor
set_option linter.unusedSimpArgs false
set_option linter.unusedVariables false
open Go.Proofs.YtbmajijnjkicmaaDoor RX
set_option maxRecDepth 100000


structure MsE where
  m : MS
  ca : Option Addr
  cc : Nat
  va : Option Addr
  vc : Nat
abbrev MsE.vals (x : MsE) : Array Value := (x.m.raw x.ca x.cc x.va x.vc).vals
def kMs : Kind MsE := ⟨16, by decide, fun x => x.vals.toList, fun _ => rfl, fun x => HP.both (x.m.Dro x.ca) (x.m.Vro x.va), fun _ _ _ _ H => H⟩
theorem kMs_one : ∀ x, ∀ u ∈ kMs.vals x, u.oneCell' = true := fun x u hu => by
  simp only [kMs, MsE.vals, MR.vals, List.mem_cons, List.not_mem_nil, or_false] at hu
  rcases hu with h | h | h | h | h | h | h | h | h | h | h | h | h | h | h | h <;> (subst h; rfl)
abbrev pkMs : PK MsE := pkOf kMs 37 kMs_one
theorem infoMs : (Tryd.prog.info? 37).map (fun i => (i.zero.map (fun z => z.cells.size), i.zero.isSome, i.size, i.bytes)) = some (some 16, true, 16, 160) := by kernel_rfl
theorem info_ms : ∃ i z, Tryd.prog.info? 37 = some i ∧ i.zero = some z ∧ z.cells.size = i.size ∧ i.size = 16 ∧ i.bytes = 160 := by
  obtain ⟨inf, hi, hz⟩ := Option.map_eq_some_iff.1 infoMs
  simp only [Prod.mk.injEq, Option.map_eq_some_iff] at hz
  obtain ⟨⟨z, hz0, hz1⟩, _, hz3, hz4⟩ := hz
  exact ⟨inf, z, hi, hz0, by rw [hz1, hz3], hz3, hz4⟩
theorem undMss : Tryd.prog.underlying 40 = some (.slice 37) := by kernel_rfl
theorem aggMs : aggT Tryd.prog 37 = true := by kernel_rfl
theorem szMs : szT Tryd.prog 37 = 16 := by kernel_rfl
theorem ldMs {S : HP} {a : Option Addr} {n : Nat} {l : List MsE} (hS : ∀ R h, S.p R h → (Ls kMs a n l).p R h) {k : Nat} {x : MsE} (hk : l[k]? = some x) :
    ORead Tryd.prog (loadS 37 (.pointer (a.map fun y => (y.add ((k : Int).toNat * 16)).add 0))) S (.agg x.vals) := by
  obtain ⟨d, hd⟩ : ∃ d, Tryd.prog.underlying 37 = some d := Option.isSome_iff_exists.1 (by kernel_rfl)
  have := ORead.ent (.of hS) (Ls.load (K := kMs) hd aggMs szMs hk)
  simpa [kMs] using this
set_option maxHeartbeats 1000000 in
theorem mIndexF_ok (S Q : HP) (a : Option Addr) (n c : Nat) (l : List MsE) (hS : ∀ R h, S.p R h → (Ls kMs a n l).p R h) (hn : n ≤ 1000000000) (fv : Value) (h1 : oneC fv = fv) (p : MsE → Bool)
    (hf : ∀ x ∈ l, VTri Tryd.prog fv #[.agg x.vals] (HP.sep Q S) fun v => HP.and (v = .bool (p x)) (HP.sep Q S)) :
    Tri Tryd.prog 27 #[.slice a n c, fv] (HP.sep S Q) (fun v => HP.ex fun r : Int => HP.and (v = .int .i64 r ∧ (0 ≤ r ↔ l.any p = true)) (HP.sep S Q)) := by
  refine Tri.fact (φ := l.length = n ∧ (n ≠ 0 → a.isSome = true)) (fun R h H => ⟨(hS R _ (HP.sep_left H)).1, fun hn => RoC.some (hS R _ (HP.sep_left H)).2.1 (by omega)⟩) fun ⟨hl, hs⟩ => ?_
  have := tri_of_tree (ρ := [.a a, .n n, .n c, .p S, .v fv, .p Q]) mixed Tryd.func27 (t := t_mIndexF) (post := fun v => HP.ex fun r : Int => HP.and (v = .int .i64 r ∧ (0 ≤ r ↔ l.any p = true)) (HP.sep S Q)) tree_mIndexF ?_
  · simpa [W.den, RX.A.den, SA.den, E.den, RX.look, h1, hden, cden] using this
  unfold t_mIndexF
  simp only [T.den, E.prop, E.den, RX.look, F1.app, F2.app, Uni.int_i, Uni.nat_n, Uni.bool_c, Uni.str_s, Uni.adr_a, Uni.val_v, Uni.hp_p, hden, cden, V.den, W.den, A.den, BR.den, SA.den, FV.den, capV, exs, exP, allP, Cur.app, List.map_cons, List.map_nil, List.cons_append, List.nil_append, List.drop_succ_cons, List.drop_zero, List.length_cons, List.length_nil, Nat.zero_add, Nat.reduceAdd, Int.neg_neg, Bool.not_not, List.append_nil, Nat.add_zero, List.getElem?_cons_zero, List.getElem?_cons_succ, Decidable.not_not, semW_eq, semW_load, ne_eq, Nat.reduceEqDiff, not_false_eq_true, h1]
  refine ⟨fun _ i P => ∃ k : Nat, i = k ∧ k ≤ n ∧ Q = P ∧ ∀ (j : Nat) (x : MsE), j < k → l[j]? = some x → p x = false, fun _ i _ => n - i.toNat, ⟨0, rfl, Nat.zero_le _, rfl, fun q x h => by omega⟩, ?_⟩
  rintro _ _ _ ⟨k, rfl, hk, rfl, hall⟩
  refine ⟨fun hlt => ⟨by omega, fun _ => ⟨hs (by omega), fun _ => ?_⟩⟩, fun hge => .of fun R h H => ⟨-1, ⟨rfl, ?_⟩, H⟩⟩
  · have hkl : k < l.length := by omega
    obtain ⟨x, hx⟩ : ∃ x, l[k]? = some x := ⟨l[k], List.getElem?_eq_getElem hkl⟩
    refine ⟨x.m.fr, x.m.to, x.m.num, x.m.rep, x.m.kind, x.m.ep, x.m.at', x.m.cell.what, x.ca, x.m.cell.data.length, x.cc, x.m.br, x.m.bw, x.va, x.m.val.length, x.vc, x.m.err, x.m.tail, x.m.low, x.m.back, ldMs hS hx, ?_⟩
    refine (hf x (List.mem_of_getElem? hx)).weak (fun _ _ h => h) ?_
    rintro v R h ⟨rfl, H⟩
    refine ⟨p x, Q, rfl, ⟨fun hp => .of fun R h H => ⟨k, ⟨rfl, ⟨fun _ => List.any_eq_true.2 ⟨x, List.mem_of_getElem? hx, hp⟩, fun _ => by omega⟩⟩, H⟩, fun hp => ⟨inI64 _ (by omega) (by omega), fun _ => ⟨⟨k + 1, by omega, by omega, rfl, fun q y hq hy => ?_⟩, by dsimp only; omega⟩⟩⟩, H⟩
    rcases Nat.lt_or_ge q k with h | h
    · exact hall q y h hy
    · obtain rfl : q = k := by omega
      rw [hx] at hy; cases hy
      simpa using hp
  · refine ⟨fun h => by omega, fun h => ?_⟩
    obtain ⟨x, hx, hp⟩ := List.any_eq_true.1 h
    obtain ⟨q, hq, rfl⟩ := List.mem_iff_getElem.1 hx
    have := hall q l[q] (by omega) (List.getElem?_eq_getElem hq)
    rw [hp] at this; cases this
theorem mContainsF_ok (S Q : HP) (a : Option Addr) (n c : Nat) (l : List MsE) (hS : ∀ R h, S.p R h → (Ls kMs a n l).p R h) (hn : n ≤ 1000000000) (fv : Value) (h1 : oneC fv = fv) (p : MsE → Bool)
    (hf : ∀ x ∈ l, VTri Tryd.prog fv #[.agg x.vals] (HP.sep Q S) fun v => HP.and (v = .bool (p x)) (HP.sep Q S)) :
    Tri Tryd.prog 16 #[.slice a n c, fv] (HP.sep S Q) (fun v => HP.and (v = .bool (l.any p)) (HP.sep S Q)) := by
  have := tri_of_tree (ρ := [.a a, .n n, .n c, .p S, .v fv, .p Q]) mixed Tryd.func16 (t := t_mContainsF) (post := fun v => HP.and (v = .bool (l.any p)) (HP.sep S Q)) tree_mContainsF ?_
  · simpa [W.den, RX.A.den, SA.den, E.den, RX.look, h1, hden, cden] using this
  unfold t_mContainsF
  simp only [T.den, E.prop, E.den, RX.look, F1.app, F2.app, Uni.int_i, Uni.nat_n, Uni.bool_c, Uni.str_s, Uni.adr_a, Uni.val_v, Uni.hp_p, hden, cden, V.den, W.den, A.den, BR.den, SA.den, FV.den, capV, exs, exP, allP, Cur.app, List.map_cons, List.map_nil, List.cons_append, List.nil_append, List.drop_succ_cons, List.drop_zero, List.length_cons, List.length_nil, Nat.zero_add, Nat.reduceAdd, Int.neg_neg, Bool.not_not, List.append_nil, Nat.add_zero, List.getElem?_cons_zero, List.getElem?_cons_succ, Decidable.not_not, semW_eq, ne_eq, Nat.reduceEqDiff, not_false_eq_true, h1]
  refine (mIndexF_ok S Q a n c l hS hn fv h1 p hf).weak (fun _ _ h => h) ?_
  rintro v R h ⟨r, ⟨rfl, hr2⟩, H⟩
  refine ⟨r, S, Q, rfl, .of fun R h H => ⟨?_, H⟩, H⟩
  congr 1
  rw [Bool.eq_iff_iff, decide_eq_true_eq]
  exact hr2

def startA (g : AdvS) : MS := ⟨0, 7, 0, false, 9, g.old.ep + 1, g.tail, zC, 0, 0, [], 0, 0, 0, 0⟩
def asksL (g : AdvS) : List MS := if g.st = 4 then [startA g] else ((List.range 7).filter (askedA g)).map (askA g)
theorem filt_get (p : Nat → Bool) {u m : Nat} (hu : u < m) (h : p u = true) : ((List.range m).filter p)[((List.range u).filter p).length]? = some u := by
  have e : List.range m = List.range u ++ u :: (List.range' (u + 1) (m - u - 1)) := by
    rw [List.range_eq_range', List.range_eq_range', show u :: List.range' (u + 1) (m - u - 1) = List.range' u (m - u) from by
      rw [show m - u = (m - u - 1) + 1 by omega, List.range'_succ]; simp]
    rw [show List.range' u (m - u) = List.range' (0 + 1 * u) (m - u) by simp, List.range'_append]
    congr 1; omega
  rw [e, List.filter_append, List.getElem?_append_right (Nat.le_refl _), Nat.sub_self, List.filter_cons, if_pos h]; rfl
theorem filt_succ (p : Nat → Bool) (u : Nat) : ((List.range (u + 1)).filter p).length = ((List.range u).filter p).length + if p u = true then 1 else 0 := by
  rw [List.range_succ, List.filter_append, List.length_append]
  congr 1
  by_cases h : p u = true <;> simp [h]
section
variable {b : Nat} {g : AdvS} {r : ARw}
def ABox (x b : Nat) : HP := HP.one x (.cells #[.pointer (some ⟨b, 0, none⟩)] 28 (0, 0))
def mayA (g : AdvS) (k : Nat) (args : Array Value) (k' : Nat) : Prop := ∃ m va vc, (asksL g)[k]? = some m ∧ args = #[.agg (m.raw none 0 va vc).vals] ∧ k' = k + 1
def prA (g : AdvS) (k : Nat) (args : Array Value) : HP := HP.ex fun m : MS => HP.ex fun va => HP.ex fun vc => HP.and ((asksL g)[k]? = some m ∧ args = #[.agg (m.raw none 0 va vc).vals]) (m.Vro va)
theorem fgoAs : Fgo Tryd.prog 23 := ⟨_, Tryd.func23, by kernel_rfl, by kernel_rfl⟩
structure ASafe (g : AdvS) : Prop where
  e0 : 0 ≤ g.old.ep
  e1 : g.old.ep ≤ 2147483647
  p2 : g.st = 2 → g.prop.isSome = true
  vl : ∀ s, g.prop = some s → s.val.length ≤ 100000000
theorem asks_seq (hs : ASafe g) (x : Nat) : SeqTri Tryd.prog (.func (.func 23) #[] #[.pointer (some ⟨x, 0, none⟩)]) (HP.sep (ABox x b) (ARepR b g r)) (fun _ : Nat => HP.tt) (prA g) (mayA g) (fun k => k = (asksL g).length) 0 := by
  refine ⟨_, _, rfl, fgoAs, fun l K Jx hr => ?_⟩
  refine (tri_of_tree (ρ := [.v (.func (.yield l) #[] #[]), .p (K 0), .n x, .n b, .p (ARepR b g r)]) mixed Tryd.func23 tree_aAsks1 ?_).weak (fun R h H => ?_) fun _ _ _ h => h
  rotate_left
  · exact HP.pick [ABox x b, ARepR b g r, HP.tt, K 0] [3, 0, 1] (by decide) rfl (HP.sep_assoc H)
  unfold t_aAsks1
  simp only [T.den, E.prop, E.den, RX.look, F1.app, F2.app, Uni.int_i, Uni.nat_n, Uni.bool_c, Uni.str_s, Uni.adr_a, Uni.val_v, Uni.hp_p, hden, cden, V.den, W.den, A.den, BR.den, SA.den, FV.den, capV, exs, exP, allP, Cur.app, List.map_cons, List.map_nil, List.cons_append, List.nil_append, List.drop_succ_cons, List.drop_zero, List.length_cons, List.length_nil, Nat.zero_add, Nat.reduceAdd, Int.neg_neg, Bool.not_not, List.append_nil, Nat.add_zero, List.getElem?_cons_zero, List.getElem?_cons_succ, Decidable.not_not, semW_eq, semW_load, ne_eq, Nat.reduceEqDiff, not_false_eq_true]
  have fin : ∀ J : HP, HP.ent J (SeqPost (fun _ : Nat => HP.tt) K Jx (fun k => k = (asksL g).length)) → HP.ent (HP.sep J (HP.sep (HP.one x (.cells #[.pointer (some ⟨b, 0, none⟩)] 28 (0, 0))) (ARepR b g r))) (HP.sep (HP.sep (ABox x b) (ARepR b g r)) (SeqPost (fun _ : Nat => HP.tt) K Jx (fun k => k = (asksL g).length))) := fun J hJ =>
    (HP.ent.of fun R h H => HP.sep_comm H).trans (HP.ent.sep2 (.refl _) hJ)
  have done : ∀ k, k = (asksL g).length → HP.ent (K k) (SeqPost (fun _ : Nat => HP.tt) K Jx (fun k => k = (asksL g).length)) := fun k hk => .of fun R h H => ⟨some k, hk, HP.tt_sep H⟩
  refine ⟨g.st, aLdI rfl, fun h4 => ?_, fun h4 => ?_⟩
  · have hL : asksL g = [startA g] := if_pos h4
    refine ⟨g.tail, aLdI rfl, ?_⟩
    refine (aEpoch_ok hs.e0 hs.e1).weak (fun _ _ h => h) ?_
    rintro v R h ⟨rfl, H⟩
    refine ⟨_, rfl, ?_, H⟩
    clear H
    have hm : (asksL g)[0]? = some (startA g) := by rw [hL]; rfl
    refine (hr 0 #[.agg ((startA g).raw none 0 none 0).vals] ⟨1, startA g, none, 0, hm, rfl, rfl⟩).conseq (K := HP.tt) (.of fun R h H => HP.sep_tt ?_) fun v => .of fun R h H => ?_
    · refine ⟨PH.none', h, PH.none_dj _, PH.none_le _, PH.le.refl _, ⟨startA g, none, 0, ⟨hm, rfl⟩, RoC.nil _ _ _ _⟩, HP.tt_sep H⟩
    · obtain ⟨b', rfl, hb⟩ := HP.sep_left H
      cases b' with
      | true =>
        obtain ⟨g', ⟨_, _, _, _, _, rfl⟩, H2⟩ := hb
        exact ⟨true, K 1, rfl, fin _ (done 1 (by rw [hL]; rfl)), HP.sep_right H2⟩
      | false => exact ⟨false, Jx, rfl, fin _ (.of fun R h H => ⟨none, H⟩), hb⟩
  · have hL : asksL g = ((List.range 7).filter (askedA g)).map (askA g) := if_neg h4
    refine ⟨fun i p => ∃ u : Nat, i = u ∧ u ≤ 7 ∧ p = K ((List.range u).filter (askedA g)).length, fun i _ => 7 - i.toNat, ⟨0, rfl, Nat.zero_le _, rfl⟩, ?_⟩
    rintro _ _ ⟨u, rfl, hu, rfl⟩
    refine ⟨fun hlt => ?_, fun hge => ?_⟩
    · have hu7 : u < 7 := by omega
      refine (aAsked_ok u hu7 hs.p2).weak (fun _ _ h => h) ?_
      rintro v R h ⟨rfl, H⟩
      refine ⟨_, rfl, ⟨fun ha => ?_, fun ha => ⟨inI64 _ (by omega) (by omega), fun _ => ⟨⟨u + 1, by omega, by omega, ?_⟩, by dsimp only; omega⟩⟩⟩, H⟩
      · clear H
        have hm : (asksL g)[((List.range u).filter (askedA g)).length]? = some (askA g u) := by rw [hL, List.getElem?_map, filt_get _ hu7 ha]; rfl
        refine (aAsk_ok u hs.e0 hs.e1 hs.p2 fun s h => by have := hs.vl s h; omega).weak (fun _ _ h => h) ?_
        rintro v R h ⟨va, vc, rfl, H⟩
        refine ⟨(askA g u).fr, (askA g u).to, (askA g u).num, (askA g u).rep, (askA g u).kind, (askA g u).ep, (askA g u).at', (askA g u).cell.what, none, (askA g u).cell.data.length, 0, HP.tt, (askA g u).br, (askA g u).bw, va, (askA g u).val.length, vc, (askA g u).Vro va, (askA g u).err, (askA g u).tail, (askA g u).low, (askA g u).back, rfl, ?_, HP.tt_sep H⟩
        clear H
        refine (hr _ #[.agg ((askA g u).raw none 0 va vc).vals] ⟨_, askA g u, va, vc, hm, rfl, rfl⟩).conseq (K := HP.sep HP.tt ((askA g u).Vro va)) (.of fun R h H => ?_) fun v => .of fun R h H => ?_
        · have hv0 : ((askA g u).Vro va).p R h := HP.sep_right (HP.sep_right H)
          have hv : ∀ h', ((askA g u).Vro va).p R h' := fun _ => hv0
          exact HP.sep_mono H (fun y hy => ⟨PH.none', y, PH.none_dj _, PH.none_le _, PH.le.refl _, ⟨askA g u, va, vc, ⟨hm, rfl⟩, hv _⟩, HP.tt_sep hy⟩) fun _ h => h
        · obtain ⟨h1, h2, dd, l1, l2, ⟨b', rfl, hb⟩, HV⟩ := H
          cases b' with
          | true =>
            obtain ⟨g', ⟨_, _, _, _, _, rfl⟩, H2⟩ := hb
            refine ⟨true, _, rfl, ⟨fun h => absurd rfl h, fun _ => ⟨inI64 _ (by omega) (by omega), fun _ => ⟨⟨u + 1, by omega, by omega, ?_⟩, by dsimp only; omega⟩⟩⟩, h1, h2, dd, l1, l2, HP.sep_right H2, HV⟩
            rw [filt_succ, if_pos ha]
          | false => exact ⟨false, Jx, rfl, ⟨fun _ => fin _ (.of fun R h H => ⟨none, H⟩), fun h => by cases h⟩, h1, h2, dd, l1, l2, hb, HV⟩
      · rw [filt_succ, if_neg ha]; rfl
    · obtain rfl : u = 7 := by omega
      exact fin _ (done _ (by rw [hL, List.length_map]))
theorem aAsks_ok : Tri Tryd.prog 15 #[.pointer (some ⟨b, 0, none⟩)] (ARepR b g r) (fun v => HP.ex fun x => HP.and (v = .func (.func 23) #[] #[.pointer (some ⟨x, 0, none⟩)]) (HP.sep (ABox x b) (ARepR b g r))) := by
  refine tri_of_tree (ρ := [.n b, .p (ARepR b g r)]) mixed Tryd.func15 tree_aAsks ?_
  unfold t_aAsks
  simp only [T.den, E.prop, E.den, RX.look, F1.app, F2.app, Uni.int_i, Uni.nat_n, Uni.bool_c, Uni.str_s, Uni.adr_a, Uni.val_v, Uni.hp_p, hden, cden, V.den, W.den, A.den, BR.den, SA.den, FV.den, capV, exs, exP, allP, Cur.app, List.map_cons, List.map_nil, List.cons_append, List.nil_append, List.drop_succ_cons, List.drop_zero, List.length_cons, List.length_nil, Nat.zero_add, Nat.reduceAdd, Int.neg_neg, Bool.not_not, List.append_nil, Nat.add_zero, List.getElem?_cons_zero, List.getElem?_cons_succ, Decidable.not_not, semW_eq, ne_eq, Nat.reduceEqDiff, not_false_eq_true]
  exact fun x => .of fun R h H => ⟨x, rfl, HP.sep_comm H⟩
theorem raw_va {m : MS} {va va' : Option Addr} {vc vc' : Nat} (h : (#[.agg (m.raw none 0 va vc).vals] : Array Value) = #[.agg (m.raw none 0 va' vc').vals]) : va = va' ∧ vc = vc' := by
  simp [MR.vals] at h
  exact h
theorem asksL_len (g : AdvS) : (asksL g).length ≤ 7 := by
  unfold asksL
  split
  · simp
  · rw [List.length_map]
    have := List.length_filter_le (askedA g) (List.range 7)
    rwa [List.length_range] at this
set_option maxHeartbeats 1000000 in
theorem aAsksL_ok (hs : ASafe g) : Tri Tryd.prog 6 #[.pointer (some ⟨b, 0, none⟩)] (ARepR b g r) (fun v => HP.ex fun a => HP.ex fun c => HP.ex fun es : List MsE => HP.and (v = .slice a es.length c ∧ es.map (·.m) = asksL g) (HP.sep (PL pkMs a es.length c es) (ARepR b g r))) := by
  refine tri_of_tree (ρ := [.n b, .p (ARepR b g r)]) mixed Tryd.func6 tree_aAsksL ?_
  unfold t_aAsksL
  simp only [T.den, E.prop, E.den, RX.look, F1.app, F2.app, Uni.int_i, Uni.nat_n, Uni.bool_c, Uni.str_s, Uni.adr_a, Uni.val_v, Uni.hp_p, hden, cden, V.den, W.den, A.den, BR.den, SA.den, FV.den, capV, exs, exP, allP, Cur.app, List.map_cons, List.map_nil, List.cons_append, List.nil_append, List.drop_succ_cons, List.drop_zero, List.length_cons, List.length_nil, Nat.zero_add, Nat.reduceAdd, Int.neg_neg, Bool.not_not, List.append_nil, Nat.add_zero, List.getElem?_cons_zero, List.getElem?_cons_succ, Decidable.not_not, semW_eq, semW_append, ne_eq, Nat.reduceEqDiff, not_false_eq_true]
  intro _
  refine aAsks_ok.weak (fun _ _ h => h) ?_
  rintro v R h ⟨x, rfl, H⟩
  refine ⟨.func (.func 23) #[] #[.pointer (some ⟨x, 0, none⟩)], ABox x b, rfl, fun _ => ?_, H⟩
  clear H
  obtain ⟨i, z, hi, h1, h2, h3, h4⟩ := info_ms
  refine ⟨Nat, fun _ => HP.tt, prA g, mayA g, fun k => k = (asksL g).length, 0, fun k a n c q => ∃ es : List MsE, n = es.length ∧ es.map (·.m) = (asksL g).take k ∧ k ≤ (asksL g).length ∧ HP.ent q (PL pkMs a n c es), asks_seq hs x, ?_, ?_, ?_, ?_⟩
  · exact ⟨[], rfl, rfl, Nat.zero_le _, .of fun R h _ => PL.nil' _ R h⟩
  · intros; rfl
  · rintro k args ⟨k', m, va, vc, hm, rfl, rfl⟩ a n c q ⟨es, rfl, he, hk, hq⟩
    have hkl : k < (asksL g).length := (List.getElem?_eq_some_iff.1 hm).1
    have h7 := asksL_len g
    have hel : es.length = k := by
      have := congrArg List.length he
      simp at this; omega
    refine ⟨m.fr, m.to, m.num, m.rep, m.kind, m.ep, m.at', m.cell.what, none, m.cell.data.length, 0, RoB none 0 [], m.br, m.bw, va, m.val.length, vc, m.Vro va, m.err, m.tail, m.low, m.back, rfl, .of fun R h H => ?_, fun _ e => ?_⟩
    · obtain ⟨m', va', vc', ⟨hm', ha⟩, H⟩ := H
      rw [hm] at hm'; cases hm'
      obtain ⟨rfl, rfl⟩ := raw_va ha
      exact RoC.join (RoB0 none : (RoB none 0 []).p R h) H
    · have hdat : m.cell = zC := by
        have : m ∈ asksL g := List.mem_of_getElem? hm
        unfold asksL at this
        split at this
        · obtain rfl := List.mem_singleton.1 this; rfl
        · obtain ⟨u, _, rfl⟩ := List.mem_map.1 this
          unfold askA
          split
          · split <;> rfl
          · rfl
      have hd0 : m.cell.data = [] := by rw [hdat]; rfl
      refine (PL.appK (K := pkMs) 40 40 undMss hi h1 h2 h3 (by rw [h4]; decide) a es.length c es e ⟨m, none, 0, va, vc⟩ (HP.sep (RoB none 0 []) (m.Vro va)) (by omega)).conseq (K := HP.tt) ((hq.sep _).trans (.of fun R h H => HP.sep_tt (HP.sep_mono H (fun _ h => h) fun y hy => HP.sep_mono hy (fun _ h => h) fun z hz => ?_))) fun v => .of fun R h H => ?_
      · exact ⟨PH.none', z, PH.none_dj _, PH.none_le _, PH.le.refl _, ⟨by rw [show (⟨m, none, 0, va, vc⟩ : MsE).m.Dro (⟨m, none, 0, va, vc⟩ : MsE).ca = RoB none m.cell.data.length m.cell.data from rfl, hd0]; exact RoB0 none, (HP.sep_right hz : (m.Vro va).p R _)⟩, hz⟩
      · obtain ⟨a', c', rfl, H2⟩ := HP.sep_left H
        refine ⟨a', es.length + 1, c', PL pkMs a' (es.length + 1) c' (es ++ [⟨m, none, 0, va, vc⟩]), rfl, ⟨k + 1, ⟨m, va, vc, hm, rfl, rfl⟩, es ++ [⟨m, none, 0, va, vc⟩], by simp, ?_, hkl, .refl _⟩, H2⟩
        rw [List.take_succ_eq_append_getElem hkl, List.map_append, he]
        rw [List.getElem?_eq_getElem hkl] at hm
        rw [Option.some.inj hm]; rfl
  · rintro k rfl a n c q ⟨es, rfl, he, hk, hq⟩
    rw [List.take_length] at he
    exact ((HP.ent.refl _).sep2 hq).trans (.of fun R h H => ⟨a, c, es, ⟨rfl, he⟩, HP.sep_comm H⟩)
theorem aDone_ok (hs : ASafe g) : Tri Tryd.prog 28 #[.pointer (some ⟨b, 0, none⟩)] (ARepR b g r) (fun v => HP.and (v = .bool (decide (asksL g = []))) (ARepR b g r)) := by
  refine tri_of_tree (ρ := [.n b, .p (ARepR b g r)]) mixed Tryd.func28 tree_aDone ?_
  unfold t_aDone
  simp only [T.den, E.prop, E.den, RX.look, F1.app, F2.app, Uni.int_i, Uni.nat_n, Uni.bool_c, Uni.str_s, Uni.adr_a, Uni.val_v, Uni.hp_p, hden, cden, V.den, W.den, A.den, BR.den, SA.den, FV.den, capV, exs, exP, allP, Cur.app, List.map_cons, List.map_nil, List.cons_append, List.nil_append, List.drop_succ_cons, List.drop_zero, List.length_cons, List.length_nil, Nat.zero_add, Nat.reduceAdd, Int.neg_neg, Bool.not_not, List.append_nil, Nat.add_zero, List.getElem?_cons_zero, List.getElem?_cons_succ, Decidable.not_not, semW_eq, ne_eq, Nat.reduceEqDiff, not_false_eq_true]
  intro _
  refine aAsks_ok.weak (fun _ _ h => h) ?_
  rintro v R h ⟨x, rfl, H⟩
  refine ⟨.func (.func 23) #[] #[.pointer (some ⟨x, 0, none⟩)], ABox x b, rfl, fun _ => ?_, H⟩
  clear H
  refine ⟨Nat, fun _ => HP.tt, prA g, mayA g, fun k => k = (asksL g).length, 0, fun k => k = 0, asks_seq hs x, rfl, fun _ _ => rfl, ?_, ?_⟩
  · rintro k args ⟨k', m, va, vc, hm, rfl, rfl⟩ rfl
    refine ⟨m.fr, m.to, m.num, m.rep, m.kind, m.ep, m.at', m.cell.what, none, m.cell.data.length, 0, RoB none 0 [], m.br, m.bw, va, m.val.length, vc, HP.tt, m.err, m.tail, m.low, m.back, rfl, .of fun R h H => ?_, .of fun R h H => ⟨?_, ?_⟩⟩
    · exact HP.sep_tt (RoB0 none)
    · rw [decide_eq_false]
      intro e; rw [e] at hm; cases hm
    · first | exact H | exact HP.sep_left H
  · intro k hk h0
    refine .of fun R h H => ⟨?_, ?_⟩
    · rw [decide_eq_true]
      exact List.eq_nil_of_length_eq_zero (by rw [← hk]; exact h0)
    · first | exact H | exact HP.sep_left H
end
end Go.Proofs.YtbmajijnjkicmaaDoor



namespace Go.Proofs.YtbmajijnjkicmaaDoor
set_option linter.unusedSimpArgs false
set_option linter.unusedVariables false
open Go.Proofs.YtbmajijnjkicmaaDoor RX
set_option maxRecDepth 100000

def idxV (t : TypeId) (u v : Value) : Sem Next := do pure (.value (← Instr.index t u v))
theorem semW_idx {t ty : TypeId} {i j : Nat} {u v : Value} (h : i ≠ j) : semW (.index t (.tmp i) (.tmp j)) ty [(i, u), (j, v)] = idxV t u v := by
  have h' : (i == j) = false := by simpa using h
  simp [semW, execOp, arW, h', idxV]
theorem ix7 {f : Nat → Bool} {k : Nat} (hk : k < 7) {A : HP} : ORead Tryd.prog (idxV 50 (.agg #[.bool (f 0), .bool (f 1), .bool (f 2), .bool (f 3), .bool (f 4), .bool (f 5), .bool (f 6)]) (.int .i64 (k : Int))) A (.bool (f k)) := fun w R h F s _ => by
  obtain ⟨i, hi, z1, z2, z3⟩ := info_parts infoBo
  have hg : (#[.bool (f 0), .bool (f 1), .bool (f 2), .bool (f 3), .bool (f 4), .bool (f 5), .bool (f 6)] : Array Value)[k]? = some (.bool (f k)) := by
    have := bl7_get f hk
    simpa [bl7, List.range, List.range.loop] using this
  have hsz : (sizeOf 4).run Tryd.prog w = .ok 1 w := by rw [RX.run_sizeOf hi, szT, hi]; simp only [z2]
  have e : (Instr.index 50 (.agg #[.bool (f 0), .bool (f 1), .bool (f 2), .bool (f 3), .bool (f 4), .bool (f 5), .bool (f 6)]) (.int .i64 (k : Int))).run Tryd.prog w = .ok (.bool (f k)) w := by
    unfold Instr.index
    simp only [asIntOf, Sem.run_bind, Sem.run_pure, Result.andThen_ok, RX.run_underlying undA7]
    rw [if_pos (show (0 : Int) ≤ (k : Int) ∧ (k : Int) < ((7 : Nat) : Int) by omega)]
    simp only [Int.toNat_natCast, Sem.run_bind, hsz, Result.andThen_ok, part, RX.run_isAgg undBo, aggBo, Bool.false_eq_true, if_false, Nat.mul_one, hg, Sem.run_pure]
  unfold idxV
  rw [Sem.run_bind, e]; rfl

def thereL (g : AdvS) : List Int := ((List.range 7).filter g.there).map fun (k : Nat) => (k : Int)
def ownA (g : AdvS) : List UInt8 := if (nextP g.old (thereL g)).2 = 0 then plS (nextP g.old (thereL g)).1 else []
def chooseA (g : AdvS) : AdvS := { g with own := ownA g, st := 2, prop := some (startB g.units 1 g.who (ownA g)) }
theorem nextP_right {p : PlP} {tl : List Int} (hr : rightB p = true) (h : (nextP p tl).2 = 0) : rightB (nextP p tl).1 = true ∧ nextP p tl = (⟨p.ep + 1, p.ch.map (stayS tl)⟩, 0) := by
  have r := rightP hr
  unfold nextP at h ⊢
  rw [hr] at h ⊢
  split at h
  · exact absurd h (by decide)
  rename_i h1
  split at h
  · exact absurd h (by decide)
  rename_i h2
  rw [if_neg h1, if_neg h2]
  refine ⟨?_, rfl⟩
  have hep : p.ep ≠ 2147483647 := fun e => h1 (.inr e)
  have hfl : (p.ch.map (stayS tl)).flatten = p.ch.flatten.filter fun x => decide (x ∈ tl) := by
    rw [List.filter_flatten]; rfl
  unfold rightB
  rw [decide_eq_true]
  have q0 := r.ep0
  have q1 := r.ep1
  refine ⟨show 0 ≤ p.ep + 1 by omega, show p.ep + 1 ≤ 2147483647 by omega, by show 1 ≤ (p.ch.map (stayS tl)).length; rw [List.length_map]; exact r.len1, by show (p.ch.map (stayS tl)).length ≤ 7; rw [List.length_map]; exact r.len7, fun c hc e => h2 ?_, fun u hu => ?_, ?_⟩
  · exact List.any_eq_true.2 ⟨c, hc, decide_eq_true e⟩
  · have hu : u ∈ (p.ch.map (stayS tl)).flatten := hu
    rw [hfl] at hu
    exact r.rg u (List.mem_filter.1 hu).1
  · show ((p.ch.map (stayS tl)).flatten).Nodup
    rw [hfl]; exact r.nd.sublist List.filter_sublist
theorem ownA_len {g : AdvS} (hr : rightB g.old = true) : (ownA g).length ≤ 200 := by
  unfold ownA
  split
  · exact plS_len (rightP (nextP_right hr (by assumption)).1)
  · simp
section
variable {b : Nat} {g : AdvS} {r : ARw}
theorem aLd7 : ORead Tryd.prog (loadS 50 (.pointer (some ⟨b, 12, none⟩))) (ARepR b g r) (.agg #[.bool (g.there 0), .bool (g.there 1), .bool (g.there 2), .bool (g.there 3), .bool (g.there 4), .bool (g.there 5), .bool (g.there 6)]) := by
  refine ORead.ent (.of fun R h H => H.2) (ldBN (Q := HP.sep (PropR r.pv g.prop) (ARo g r)) (vs := bl7 g.there) undA7 (by kernel_rfl) (by rw [bl7_len]; kernel_rfl) (by rw [bl7_len]; decide) fun j v hj => ?_)
  have hj7 : j < 7 := by have := (List.getElem?_eq_some_iff.1 hj).1; rwa [bl7_len] at this
  rw [bl7_get _ hj7] at hj
  rw [← hj]
  exact advL_there g r hj7
theorem aStW {l : List UInt8} {a : Option Addr} {c : Nat} (hb : l.length ≤ 1000000) : OTri Tryd.prog (storeS 30 (.pointer (some ⟨b, 19, none⟩)) (.slice a l.length c)) (HP.sep (ARepR b g r) (RoB a l.length l)) (fun v => HP.and (v = .tuple #[]) (ARepR b { g with own := l } { r with wa := a, wc := c })) := by
  obtain ⟨i, hi, z1, z2, z3⟩ := info_parts (show (Tryd.prog.info? 30).map (fun i => (i.zero, i.size, i.bytes)) = some (some (.slice none 0 0), 1, 24) by kernel_rfl)
  refine aSt (b := b) (g := g) (r := r) (k := 19) (x := .slice a l.length c) hi z2 (by decide) rfl rfl (g' := { g with own := l }) (r' := { r with wa := a, wc := c }) rfl (fun h => ⟨h.o, h.p, h.ob, h.pb, hb⟩) _ fun R h hok H => ?_
  have hl : (RoB a l.length l).p R h := HP.sep_right H
  have hro : (ARo g r).p R h := HP.sep_right (HP.sep_left H)
  exact HP.sep_mono (HP.sep_left H) (fun _ h => h) fun y hy => ⟨hy.1, hl, hy.2.2⟩
theorem aStP {s : BSt} {pb : Nat} : OTri Tryd.prog (storeS 51 (.pointer (some ⟨b, 20, none⟩)) (.pointer (some ⟨pb, 0, none⟩))) (HP.sep (ARepR b g r) (BRep pb s)) (fun v => HP.and (v = .tuple #[]) (ARepR b { g with prop := some s } { r with pv := some ⟨pb, 0, none⟩ })) := by
  obtain ⟨i, hi, z1, z2, z3⟩ := info_parts (show (Tryd.prog.info? 51).map (fun i => (i.zero, i.size, i.bytes)) = some (some (.pointer none), 1, 8) by kernel_rfl)
  refine aSt (b := b) (g := g) (r := r) (k := 20) (x := .pointer (some ⟨pb, 0, none⟩)) hi z2 (by decide) rfl rfl (g' := { g with prop := some s }) (r' := { r with pv := some ⟨pb, 0, none⟩ }) rfl (fun h => ⟨h.o, h.p, h.ob, h.pb, h.wb⟩) _ fun R h hok H => ?_
  have hro : (ARo g r).p R h := HP.sep_right (HP.sep_left H)
  exact HP.sep_mono (HP.sep_comm H) (fun y hy => ⟨pb, rfl, hy⟩) fun y _ => ARo.pers y hro
theorem oldP (hok : ROk g r) : (⟨g.old.ep, r.oes.map (·.l)⟩ : PlP) = g.old := by rw [hok.o]
set_option maxHeartbeats 1000000 in
theorem aChoose_ok (hr : rightB g.old = true) (hu : g.units ≤ 10000) : Tri Tryd.prog 29 #[.pointer (some ⟨b, 0, none⟩)] (ARepR b g r) (fun v => HP.and (v = .tuple #[]) (ARep b (chooseA g))) := by
  refine Tri.fact (φ := ROk g r) (fun R h H => H.1) fun hok => ?_
  refine tri_of_tree (ρ := [.n b, .p (ARepR b g r)]) mixed Tryd.func29 tree_aChoose ?_
  unfold t_aChoose
  simp only [T.den, E.prop, E.den, RX.look, F1.app, F2.app, Uni.int_i, Uni.nat_n, Uni.bool_c, Uni.str_s, Uni.adr_a, Uni.val_v, Uni.hp_p, hden, cden, V.den, W.den, A.den, BR.den, SA.den, FV.den, capV, exs, exP, allP, Cur.app, List.map_cons, List.map_nil, List.cons_append, List.nil_append, List.drop_succ_cons, List.drop_zero, List.length_cons, List.length_nil, Nat.zero_add, Nat.reduceAdd, Int.neg_neg, Bool.not_not, List.append_nil, Nat.add_zero, List.getElem?_cons_zero, List.getElem?_cons_succ, Decidable.not_not, semW_eq, semW_load, semW_store, semW_storeC, semW_append, ne_eq, Nat.reduceEqDiff, not_false_eq_true, semW_idx]
  refine ⟨_, _, _, _, _, _, _, aLd7, ?_⟩
  refine ⟨fun a n c P i => ∃ u : Nat, i = u ∧ u ≤ 7 ∧ n = ((List.range u).filter g.there).length ∧ HP.ent P (OwI a n c (((List.range u).filter g.there).map fun (k : Nat) => (k : Int))), fun _ _ _ _ i => 7 - i.toNat, ⟨0, rfl, Nat.zero_le _, rfl, .of fun R h _ => OwC.nil _ _ R h⟩, ?_⟩
  rintro a _ c P _ ⟨u, rfl, hu7, rfl, hP⟩
  refine ⟨fun hlt => ?_, fun hge => ?_⟩
  · have hu : u < 7 := by omega
    have hfl : ((List.range u).filter g.there).length ≤ 7 := by
      have := List.length_filter_le g.there (List.range u)
      rw [List.length_range] at this; omega
    refine ⟨g.there u, ix7 (f := g.there) hu, fun ht x => ?_, fun ht => ⟨inI64 _ (by omega) (by omega), fun _ => ⟨⟨u + 1, by omega, by omega, ?_, ?_⟩, by dsimp only; omega⟩⟩⟩
    · refine (appendI a _ c _ (HP.one x (.cells #[.int .i64 (u : Int)] 3 (0, 0))) ⟨x, 0, none⟩ 1 1 [(u : Int)] (one_rd x #[.int .i64 (u : Int)] 3) rfl (by omega)).conseq (K := HP.tt) ((hP.sep _).trans (.of fun R h H => HP.sep_tt H)) fun v => .of fun R h H => ?_
      obtain ⟨a', c', rfl, H'⟩ := HP.sep_left H
      refine ⟨a', _, c', _, rfl, ⟨inI64 _ (by omega) (by omega), fun _ => ⟨⟨u + 1, by omega, by omega, ?_, ?_⟩, by dsimp only; omega⟩⟩, H'⟩
      · rw [filt_succ, if_pos ht]
      · rw [List.range_succ, List.filter_append, List.map_append]
        simp only [List.filter_cons, ht, if_true, List.filter_nil, List.map_cons, List.map_nil]
        exact .refl _
    · rw [filt_succ, if_neg ht]; rfl
    · rw [List.range_succ, List.filter_append]
      simp only [List.filter_cons, ht, Bool.false_eq_true, if_false, List.filter_nil, List.append_nil]
      exact hP
  obtain rfl : u = 7 := by omega
  have hfl : (thereL g).length ≤ 7 := by
    unfold thereL
    rw [List.length_map]
    have := List.length_filter_le g.there (List.range 7)
    rwa [List.length_range] at this
  have htl : ((List.range 7).filter g.there).length = (thereL g).length := by unfold thereL; rw [List.length_map]
  rw [htl] at hP ⊢
  refine (aStW (b := b) (g := g) (r := r) (l := []) (a := none) (c := 0) (by simp)).weak (fun R h H => RoC.joinR (RoB0 none : (RoB none 0 []).p R h) H) ?_
  rintro v R h ⟨rfl, H⟩
  refine ⟨_, rfl, ?_, H⟩
  clear H
  refine ⟨g.old.ep, r.oa, r.oes.length, r.oc, aLdPl rfl rfl, ?_⟩
  have hro1 : ROk { g with own := [] } { r with wa := none, wc := 0 } := ⟨hok.o, hok.p, hok.ob, hok.pb, by simp⟩
  refine ((plNext_ok (ARepR b { g with own := [] } { r with wa := none, wc := 0 }) (OwI a (thereL g).length c (thereL g)) g.old.ep r.oa r.oes.length r.oc r.oes (fun R h H => (ARepR.ro H).1) hok.ob.2 a (thereL g).length c (thereL g) (RdL.ow _ _ _ _ _ _) rfl (by omega)).conseq (K := HP.tt) (((HP.ent.refl _).sep2 hP).trans (.of fun R h H => HP.sep_tt H)) fun v => .of fun R h H => HP.sep_left H).weak (fun _ _ h => h) ?_
  rw [oldP hok]
  rintro v R h ⟨a1, c1, es1, ⟨rfl, he1, hb1⟩, H⟩
  refine ⟨(nextP g.old (thereL g)).1.ep, a1, es1.length, c1, Ls kCh a1 es1.length es1, (nextP g.old (thereL g)).2, _, _, rfl, fun _ => ⟨fun h0 => ?_, fun h0 => ?_⟩, H⟩
  · clear H
    obtain ⟨hnr, hne⟩ := nextP_right hr h0
    have hnR := rightP hnr
    have hes : (⟨(nextP g.old (thereL g)).1.ep, es1.map (·.l)⟩ : PlP) = (nextP g.old (thereL g)).1 := by rw [he1]
    have hown : ownA g = plS (nextP g.old (thereL g)).1 := if_pos h0
    have hl1 : es1.length ≤ 7 := by
      have := hnR.len7
      rw [← he1, List.length_map] at this; exact this
    refine ((plEnc_ok (nextP g.old (thereL g)).1.ep (Ls kCh a1 es1.length es1) a1 es1.length c1 es1 (fun _ _ h => h) hnR.ep0 (by have := hnR.ep1; omega) (by omega) hb1)).weak (fun _ _ h => h) ?_
    rw [hes, ← hown]
    rintro v R h ⟨a2, c2, rfl, H⟩
    refine ⟨a2, _, c2, OwB a2 (ownA g).length c2 (ownA g), _, rfl, ?_, HP.sep_comm H⟩
    clear H
    refine (aStW (b := b) (g := { g with own := [] }) (r := { r with wa := none, wc := 0 }) (l := ownA g) (a := a2) (c := c2) (by have := ownA_len hr; omega)).conseq (K := HP.tt) ((HP.ent.sep2 (.refl _) (OwC.share _ _ _ _ _ _)).trans (.of fun R h H => HP.sep_tt H)) fun v => .of fun R h H => ?_
    obtain ⟨rfl, H1⟩ := HP.sep_left H
    refine ⟨_, rfl, ?_, H1⟩
    clear H H1
    refine (aStI (k := 4) (x := 2) (by decide) (g := { g with own := ownA g }) (g' := { g with own := ownA g, st := 2 }) (r := { r with wa := a2, wc := c2 }) rfl rfl rfl rfl rfl).weak (fun _ _ h => h) ?_
    rintro v R h ⟨rfl, H⟩
    refine ⟨ARepR b { g with own := ownA g, st := 2 } { r with wa := a2, wc := c2 }, rfl, ⟨g.units, aLdI rfl, g.who, aLdI rfl, a2, (ownA g).length, c2, aLdW, ?_⟩, H⟩
    clear H
    refine (bStart_ok g.units 1 g.who hu (ARepR b { g with own := ownA g, st := 2 } { r with wa := a2, wc := c2 }) a2 (ownA g).length c2 (ownA g) ⟨Rd.impR (RoC.rd _ _ _ _) fun R h H => (ARepR.ro H).2.1, fun R h H e => (RdL.ro _ _ _ _).none R h (ARepR.ro H).2.1 e⟩ rfl (by have := ownA_len hr; omega)).weak (fun _ _ h => h) ?_
    rintro v R h ⟨pb, rfl, H⟩
    refine ⟨.pointer (some ⟨pb, 0, none⟩), BRep pb (startB g.units 1 g.who (ownA g)), _, rfl, ?_, HP.sep_comm H⟩
    clear H
    refine (aStP (b := b) (g := { g with own := ownA g, st := 2 }) (r := { r with wa := a2, wc := c2 })).weak (fun _ _ h => h) ?_
    rintro v R h ⟨rfl, H⟩
    exact ⟨_, rfl, .of fun R h H => ⟨trivial, _, H⟩, H⟩
  · clear H
    have hown : ownA g = [] := if_neg h0
    refine (aStI (k := 4) (x := 2) (by decide) (g := { g with own := [] }) (g' := { g with own := [], st := 2 }) (r := { r with wa := none, wc := 0 }) rfl rfl rfl rfl rfl).weak (fun _ _ h => h) ?_
    rintro v R h ⟨rfl, H⟩
    refine ⟨ARepR b { g with own := [], st := 2 } { r with wa := none, wc := 0 }, rfl, ⟨g.units, aLdI rfl, g.who, aLdI rfl, none, 0, 0, aLdW, ?_⟩, H⟩
    clear H
    refine (bStart_ok g.units 1 g.who hu (ARepR b { g with own := [], st := 2 } { r with wa := none, wc := 0 }) none 0 0 [] ⟨Rd.impR (RoC.rd _ _ _ _) fun R h H => (ARepR.ro H).2.1, fun R h H e => rfl⟩ rfl (by omega)).weak (fun _ _ h => h) ?_
    rintro v R h ⟨pb, rfl, H⟩
    refine ⟨.pointer (some ⟨pb, 0, none⟩), BRep pb (startB g.units 1 g.who []), _, rfl, ?_, HP.sep_comm H⟩
    clear H
    refine (aStP (b := b) (g := { g with own := [], st := 2 }) (r := { r with wa := none, wc := 0 })).weak (fun _ _ h => h) ?_
    rintro v R h ⟨rfl, H⟩
    exact ⟨_, rfl, .of fun R h H => ⟨trivial, _, by unfold chooseA; rw [hown]; exact H⟩, H⟩
def sealA (g : AdvS) (f : Nat) (e : Int) : AdvS :=
  if asksL { g with rep := put7 g.rep f true, there := put7 g.there f (decide (e = 0)) } = [] then chooseA { g with rep := put7 g.rep f true, there := put7 g.there f (decide (e = 0)) } else { g with rep := put7 g.rep f true, there := put7 g.there f (decide (e = 0)) }
end
end Go.Proofs.YtbmajijnjkicmaaDoor



namespace Go.Proofs.YtbmajijnjkicmaaDoor
set_option linter.unusedSimpArgs false
set_option linter.unusedVariables false
open Go.Proofs.YtbmajijnjkicmaaDoor RX
set_option maxRecDepth 100000

section
variable {b : Nat} {g : AdvS} {r : ARw}
theorem aStRep {k : Nat} (hk : k < 7) {x : Bool} : OTri Tryd.prog (storeS 4 (.pointer (some ⟨b, 5 + k, none⟩)) (.bool x)) (ARepR b g r) (fun v => HP.and (v = .tuple #[]) (ARepR b { g with rep := put7 g.rep k x } r)) :=
  aStB (g := g) (r := r) (by omega) (advL_set_rep g r hk x) rfl rfl rfl rfl
theorem aStThere {k : Nat} (hk : k < 7) {x : Bool} : OTri Tryd.prog (storeS 4 (.pointer (some ⟨b, 12 + k, none⟩)) (.bool x)) (ARepR b g r) (fun v => HP.and (v = .tuple #[]) (ARepR b { g with there := put7 g.there k x } r)) :=
  aStB (g := g) (r := r) (by omega) (advL_set_there g r hk x) rfl rfl rfl rfl
theorem aStSt {x : Int} : OTri Tryd.prog (storeS 3 (.pointer (some ⟨b, 4, none⟩)) (.int .i64 x)) (ARepR b g r) (fun v => HP.and (v = .tuple #[]) (ARepR b { g with st := x } r)) :=
  aStI (g := g) (r := r) (k := 4) (by decide) rfl rfl rfl rfl rfl
theorem aStTail {x : Int} : OTri Tryd.prog (storeS 3 (.pointer (some ⟨b, 23, none⟩)) (.int .i64 x)) (ARepR b g r) (fun v => HP.and (v = .tuple #[]) (ARepR b { g with tail := x } r)) :=
  aStI (g := g) (r := r) (k := 23) (by decide) rfl rfl rfl rfl rfl
theorem aSealed_ok (m : MS) (ca : Option Addr) (cc : Nat) (va : Option Addr) (vc : Nat) (f : Nat) (hf : m.fr = f) (hf7 : f < 7) (hs : ASafe g) (hr : rightB g.old = true) (hu : g.units ≤ 10000) (D V0 : HP) :
    Tri Tryd.prog 18 #[.pointer (some ⟨b, 0, none⟩), .agg (m.raw ca cc va vc).vals] (HP.sep (ARepR b g r) (HP.sep D V0)) (fun v => HP.and (v = .tuple #[]) (ARep b (sealA g f m.err))) := by
  refine tri_of_tree (ρ := [.n b, .p (ARepR b g r), .i m.fr, .i m.to, .i m.num, .c m.rep, .i m.kind, .i m.ep, .i m.at', .i m.cell.what, .a ca, .n m.cell.data.length, .n cc, .p D, .i m.br, .i m.bw, .a va, .n m.val.length, .n vc, .p V0, .i m.err, .i m.tail, .i m.low, .i m.back]) mixed Tryd.func18 tree_aSealed ?_
  unfold t_aSealed
  simp only [T.den, E.prop, E.den, RX.look, F1.app, F2.app, Uni.int_i, Uni.nat_n, Uni.bool_c, Uni.str_s, Uni.adr_a, Uni.val_v, Uni.hp_p, hden, cden, V.den, W.den, A.den, BR.den, SA.den, FV.den, capV, exs, exP, allP, Cur.app, List.map_cons, List.map_nil, List.cons_append, List.nil_append, List.drop_succ_cons, List.drop_zero, List.length_cons, List.length_nil, Nat.zero_add, Nat.reduceAdd, Int.neg_neg, Bool.not_not, List.append_nil, Nat.add_zero, List.getElem?_cons_zero, List.getElem?_cons_succ, Decidable.not_not, semW_eq, semW_store, semW_storeC, ne_eq, Nat.reduceEqDiff, not_false_eq_true, semW_ixS]
  intro _
  refine ⟨.pointer (some ⟨b, 5 + f, none⟩), ixAt undA7 infBo szBo hf hf7, ?_⟩
  refine (aStRep hf7).weak (fun _ _ h => h) ?_
  rintro v R h ⟨rfl, H⟩
  refine ⟨ARepR b { g with rep := put7 g.rep f true } r, rfl, ⟨.pointer (some ⟨b, 12 + f, none⟩), ixAt undA7 infBo szBo hf hf7, ?_⟩, H⟩
  clear H
  refine (aStThere (g := { g with rep := put7 g.rep f true }) hf7).weak (fun _ _ h => h) ?_
  rintro v R h ⟨rfl, H⟩
  refine ⟨ARepR b { g with rep := put7 g.rep f true, there := put7 g.there f (decide (m.err = 0)) } r, rfl, ?_, H⟩
  clear H
  refine (aDone_ok (g := { g with rep := put7 g.rep f true, there := put7 g.there f (decide (m.err = 0)) }) ⟨hs.e0, hs.e1, hs.p2, hs.vl⟩).weak (fun _ _ h => h) ?_
  rintro v R h ⟨rfl, H⟩
  refine ⟨_, rfl, ⟨fun h1 => ?_, fun h1 => .of fun R h H => ⟨trivial, ?_⟩⟩, H⟩
  · clear H
    have h1' := of_decide_eq_true h1
    refine (aChoose_ok (g := { g with rep := put7 g.rep f true, there := put7 g.there f (decide (m.err = 0)) }) hr hu).weak (fun _ _ h => h) ?_
    rintro v R h ⟨rfl, H⟩
    refine ⟨_, rfl, .of fun R h H => ⟨trivial, ?_⟩, H⟩
    unfold sealA
    rw [if_pos h1']
    exact HP.sep_left H
  · have h1' : ¬ asksL { g with rep := put7 g.rep f true, there := put7 g.there f (decide (m.err = 0)) } = [] := fun e => h1 (decide_eq_true e)
    unfold sealA
    rw [if_neg h1']
    exact ⟨r, HP.sep_left H⟩
def tellA (g : AdvS) (m : MS) (f : Nat) : AdvS :=
  if m.err = 0 then (if asksL { g with tail := max (max g.tail m.tail) m.low, rep := put7 g.rep f true } = [] then { g with tail := max (max g.tail m.tail) m.low, rep := put7 g.rep f true, st := 4 } else { g with tail := max (max g.tail m.tail) m.low, rep := put7 g.rep f true })
  else if m.err ≠ 8 ∨ m.back ≤ g.old.ep + 1 then { g with st := 6 }
  else (if asksL { g with rep := put7 g.rep f true } = [] then { g with rep := put7 g.rep f true, st := 4 } else { g with rep := put7 g.rep f true })
def mx3S (ty : TypeId) (ts : Array TypeId) (u v x : Value) : Sem Next := do pure (.value (← Builtin.max_ ts ty #[u, v, x]))
theorem semW_mx3 {ty : TypeId} {ts : Array TypeId} {i j k : Nat} {u v x : Value} (h1 : i ≠ j) (h2 : i ≠ k) (h3 : j ≠ k) : semW (.call ⟨.builtin .max, #[.tmp i, .tmp j, .tmp k], ts⟩) ty [(i, u), (j, v), (k, x)] = mx3S ty ts u v x := by
  have e1 : (i == j) = false := by simpa using h1
  have e2 : (i == k) = false := by simpa using h2
  have e3 : (j == k) = false := by simpa using h3
  simp [semW, execOp, resolve, arW, invoke, builtin, e1, e2, e3, mx3S]
theorem mx3_ok {ty : TypeId} {ts : Array TypeId} {x y z : Int} {A : HP} : ORead Tryd.prog (mx3S ty ts (.int .i64 x) (.int .i64 y) (.int .i64 z)) A (.int .i64 (max (max x y) z)) := fun w R h F s _ => by
  have e : (if z > (if y > x then y else x) then z else (if y > x then y else x)) = max (max x y) z := by
    split <;> split at * <;> omega
  unfold mx3S
  rw [Sem.run_bind, run_max_int3, e]; rfl
set_option maxHeartbeats 1000000 in
theorem aTell_ok (m : MS) (ca : Option Addr) (cc : Nat) (va : Option Addr) (vc : Nat) (f : Nat) (hf : m.fr = f) (hf7 : f < 7) (hs : ASafe g) (D V0 : HP) :
    Tri Tryd.prog 20 #[.pointer (some ⟨b, 0, none⟩), .agg (m.raw ca cc va vc).vals] (HP.sep (ARepR b g r) (HP.sep D V0)) (fun v => HP.and (v = .tuple #[]) (ARep b (tellA g m f))) := by
  refine tri_of_tree (ρ := [.n b, .p (ARepR b g r), .i m.fr, .i m.to, .i m.num, .c m.rep, .i m.kind, .i m.ep, .i m.at', .i m.cell.what, .a ca, .n m.cell.data.length, .n cc, .p D, .i m.br, .i m.bw, .a va, .n m.val.length, .n vc, .p V0, .i m.err, .i m.tail, .i m.low, .i m.back]) mixed Tryd.func20 tree_aTell ?_
  unfold t_aTell
  simp only [T.den, E.prop, E.den, RX.look, F1.app, F2.app, Uni.int_i, Uni.nat_n, Uni.bool_c, Uni.str_s, Uni.adr_a, Uni.val_v, Uni.hp_p, hden, cden, V.den, W.den, A.den, BR.den, SA.den, FV.den, capV, exs, exP, allP, Cur.app, List.map_cons, List.map_nil, List.cons_append, List.nil_append, List.drop_succ_cons, List.drop_zero, List.length_cons, List.length_nil, Nat.zero_add, Nat.reduceAdd, Int.neg_neg, Bool.not_not, List.append_nil, Nat.add_zero, List.getElem?_cons_zero, List.getElem?_cons_succ, Decidable.not_not, semW_eq, semW_load, semW_store, semW_storeC, ne_eq, Nat.reduceEqDiff, not_false_eq_true, semW_ixS, semW_mx3]
  intro _
  refine ⟨fun h0 => ⟨g.tail, aLdI rfl, max (max g.tail m.tail) m.low, mx3_ok, ?_⟩, fun h0 => ?_⟩
  · refine (aStTail (b := b) (g := g) (r := r)).weak (fun _ _ h => h) ?_
    rintro v R h ⟨rfl, H⟩
    refine ⟨ARepR b { g with tail := max (max g.tail m.tail) m.low } r, rfl, ⟨.pointer (some ⟨b, 5 + f, none⟩), ixAt undA7 infBo szBo hf hf7, ?_⟩, H⟩
    clear H
    refine (aStRep (g := { g with tail := max (max g.tail m.tail) m.low }) hf7).weak (fun _ _ h => h) ?_
    rintro v R h ⟨rfl, H⟩
    refine ⟨ARepR b { g with tail := max (max g.tail m.tail) m.low, rep := put7 g.rep f true } r, rfl, ?_, H⟩
    clear H
    refine (aDone_ok (g := { g with tail := max (max g.tail m.tail) m.low, rep := put7 g.rep f true }) ⟨hs.e0, hs.e1, hs.p2, hs.vl⟩).weak (fun _ _ h => h) ?_
    rintro v R h ⟨rfl, H⟩
    refine ⟨_, rfl, ⟨fun h1 => ?_, fun h1 => .of fun R h H => ⟨trivial, ?_⟩⟩, H⟩
    · clear H
      refine (aStSt (b := b) (g := { g with tail := max (max g.tail m.tail) m.low, rep := put7 g.rep f true }) (r := r)).weak (fun _ _ h => h) ?_
      rintro v R h ⟨rfl, H⟩
      refine ⟨_, rfl, .of fun R h H => ⟨trivial, r, ?_⟩, H⟩
      unfold tellA
      rw [if_pos h0, if_pos (of_decide_eq_true h1)]
      exact HP.sep_left H
    · unfold tellA
      rw [if_pos h0, if_neg (fun e => h1 (decide_eq_true e))]
      exact ⟨r, HP.sep_left H⟩
  · have rest : ¬ (m.err ≠ 8 ∨ m.back ≤ g.old.ep + 1) → tellA g m f = (if asksL { g with rep := put7 g.rep f true } = [] then { g with rep := put7 g.rep f true, st := 4 } else { g with rep := put7 g.rep f true }) := fun h => by unfold tellA; rw [if_neg h0, if_neg h]
    refine ⟨fun c => c = decide (m.err ≠ 8 ∨ m.back ≤ g.old.ep + 1), ⟨fun h8 => ?_, fun h8 => ?_⟩, ?_⟩
    · exact (decide_eq_true (.inl h8)).symm
    · refine (aEpoch_ok hs.e0 hs.e1).weak (fun _ _ h => h) ?_
      rintro v R h ⟨rfl, H⟩
      refine ⟨_, rfl, ?_, H⟩
      show decide (m.back ≤ g.old.ep + 1) = _
      have : m.err = 8 := h8
      by_cases hb : m.back ≤ g.old.ep + 1
      · rw [decide_eq_true hb, decide_eq_true (.inr hb)]
      · rw [decide_eq_false hb, decide_eq_false (fun h => h.elim (fun h => h this) hb)]
    · rintro _ rfl
      refine ⟨fun h1 => ?_, fun h1 => ?_⟩
      · refine (aStSt (b := b) (g := g) (r := r)).weak (fun _ _ h => h) ?_
        rintro v R h ⟨rfl, H⟩
        refine ⟨_, rfl, .of fun R h H => ⟨trivial, r, ?_⟩, H⟩
        unfold tellA
        rw [if_neg h0, if_pos (of_decide_eq_true h1)]
        exact HP.sep_left H
      · have hrest := rest (fun h => h1 (decide_eq_true h))
        refine ⟨.pointer (some ⟨b, 5 + f, none⟩), ixAt undA7 infBo szBo hf hf7, ?_⟩
        refine (aStRep (g := g) hf7).weak (fun _ _ h => h) ?_
        rintro v R h ⟨rfl, H⟩
        refine ⟨ARepR b { g with rep := put7 g.rep f true } r, rfl, ?_, H⟩
        clear H
        refine (aDone_ok (g := { g with rep := put7 g.rep f true }) ⟨hs.e0, hs.e1, hs.p2, hs.vl⟩).weak (fun _ _ h => h) ?_
        rintro v R h ⟨rfl, H⟩
        refine ⟨_, rfl, ⟨fun h1 => ?_, fun h1 => .of fun R h H => ⟨trivial, ?_⟩⟩, H⟩
        · clear H
          refine (aStSt (b := b) (g := { g with rep := put7 g.rep f true }) (r := r)).weak (fun _ _ h => h) ?_
          rintro v R h ⟨rfl, H⟩
          refine ⟨_, rfl, .of fun R h H => ⟨trivial, r, ?_⟩, H⟩
          rw [hrest, if_pos (of_decide_eq_true h1)]
          exact HP.sep_left H
        · rw [hrest, if_neg (fun e => h1 (decide_eq_true e))]
          exact ⟨r, HP.sep_left H⟩
end
end Go.Proofs.YtbmajijnjkicmaaDoor



namespace Go.Proofs.YtbmajijnjkicmaaDoor
set_option linter.unusedSimpArgs false
set_option linter.unusedVariables false
open Go.Proofs.YtbmajijnjkicmaaDoor RX
set_option maxRecDepth 100000

theorem aAbove_ok (rnd w who : Int) (hr : rnd + 1 ≤ 9223372036854775807 ∧ 0 ≤ rnd) : Tri Tryd.prog 34 #[.agg #[.int .i64 rnd, .int .i64 w], .int .i64 who] HP.tt (fun v => HP.pure (v = .agg #[.int .i64 (rnd + 1), .int .i64 who])) := by
  refine tri_of_tree (ρ := [.i rnd, .i w, .i who]) mixed Tryd.func34 tree_aAbove ?_
  unfold t_aAbove
  simp only [T.den, E.prop, E.den, RX.look, F1.app, F2.app, Uni.int_i, Uni.nat_n, Uni.bool_c, Uni.str_s, Uni.adr_a, Uni.val_v, Uni.hp_p, hden, cden, V.den, W.den, A.den, BR.den, SA.den, FV.den, capV, exs, exP, allP, Cur.app, List.map_cons, List.map_nil, List.cons_append, List.nil_append, List.drop_succ_cons, List.drop_zero, List.length_cons, List.length_nil, Nat.zero_add, Nat.reduceAdd, Int.neg_neg, Bool.not_not, List.append_nil, Nat.add_zero, List.getElem?_cons_zero, List.getElem?_cons_succ, Decidable.not_not, semW_eq, ne_eq, Nat.reduceEqDiff, not_false_eq_true]
  exact fun _ _ => ⟨inI64 _ (by omega) (by omega), fun _ => .of fun R h H => trivial⟩
theorem cloneRc_ok (S : HP) (a : Option Addr) (n c : Nat) (l : List UInt8) (hr : RdL S a n (l.map u8v)) (hl : l.length = n) (hb : n ≤ 140737488355328) :
    Tri Tryd.prog 40 #[.slice a n c] S (fun v => HP.ex fun a' => HP.ex fun c' => HP.and (v = .slice a' n c' ∧ n ≤ c') (HP.sep (RoB a' n l) S)) :=
  (clone8_ok S a n c l hr hl hb).post fun v => fun R h d ⟨a', c', e, H⟩ => by
    have hle := OwC.le (HP.sep_left H)
    obtain ⟨R1, h1, q1, q2, q3, q4, H1⟩ := (HP.ent.sep (OwC.share _ _ _ _ _ _) S) R h d H
    exact ⟨R1, h1, q1, q2, q3, q4, a', c', ⟨e, hle⟩, H1⟩
theorem bValueC_ok (b : Nat) (g : BSt) : Tri Tryd.prog 37 #[.pointer (some ⟨b, 0, none⟩)] (BRep b g) (fun v => HP.ex fun a => HP.ex fun c => HP.and (v = .slice a g.val.length c ∧ g.val.length ≤ c) (HP.sep (RoB a g.val.length g.val) (BRep b g))) := by
  refine (BRep.tri (K := HP.tt) fun va vc mp hB => ?_).weak (fun R h H => HP.sep_tt H) fun _ _ _ h => h
  refine tri_of_tree (ρ := [.n b, .i g.acc, .i g.rnd, .i g.who, .a va, .n g.val.length, .n vc, .p (RoB va g.val.length g.val), .i g.phase, .n mp, .p (HP.sep (MapA mp g.ans) HP.tt), .i g.agreed]) mixed Tryd.func37 tree_bValue ?_
  unfold t_bValue
  simp only [T.den, E.prop, E.den, RX.look, F1.app, F2.app, Uni.int_i, Uni.nat_n, Uni.bool_c, Uni.str_s, Uni.adr_a, Uni.val_v, Uni.hp_p, hden, cden, V.den, W.den, A.den, BR.den, SA.den, FV.den, capV, exs, exP, allP, Cur.app, List.map_cons, List.map_nil, List.cons_append, List.nil_append, List.drop_succ_cons, List.drop_zero, List.length_cons, List.length_nil, Nat.zero_add, Nat.reduceAdd, Int.neg_neg, Bool.not_not, List.append_nil, Nat.add_zero, List.getElem?_cons_zero, List.getElem?_cons_succ, Decidable.not_not, semW_eq, ne_eq, Nat.reduceEqDiff, not_false_eq_true]
  refine (cloneRc_ok (RoB va g.val.length g.val) va g.val.length vc g.val (RdL.ro _ _ _ _) rfl hB.2.2.2.2).weak (fun _ _ h => h) ?_
  rintro v R h ⟨a, c, ⟨rfl, hc⟩, H⟩
  refine ⟨a, _, c, RoB a g.val.length g.val, rfl, .of fun R h H => ⟨a, c, ⟨rfl, hc⟩, ?_⟩, H⟩
  have H2 := HP.pick [_, _, _, _] [3, 0, 1, 2] (by decide) rfl H
  exact HP.sep_mono H2 (fun _ h => h) fun y hy => ⟨va, vc, mp, hB, HP.sep_mono hy (fun _ h => h) fun z hz => HP.sep_mono hz (fun _ h => h) fun w hw => HP.sep_left hw⟩
theorem decP_right {l : List UInt8} (h : (decP l).2 = 0) : rightB (decP l).1 = true := by
  unfold decP at h ⊢
  split at h
  · exact absurd h (by decide)
  · rename_i i hu
    split at h
    · exact absurd h (by decide)
    · rename_i hn
      rw [if_neg hn]
      cases hq : rightB (rawP i).1 with
      | true => rfl
      | false => exact absurd (.inr (.inr hq)) hn
def outA (g : AdvS) (s' : BSt) : AdvS :=
  if s'.phase = 4 then { g with prop := some (startB g.units (s'.rnd + 1) g.who g.own) }
  else if s'.phase = 3 then (if (decP s'.val).2 ≠ 0 ∨ (decP s'.val).1.ep ≠ g.old.ep + 1 then { g with prop := some s', st := 6 } else { g with prop := some s', plan := (decP s'.val).1, st := 3, rep := fun _ => false })
  else { g with prop := some s' }
def stepB (s : BSt) (m : MS) (s' : BSt) : Prop := if m.kind = 6 then PromB s m.fr m.br m.bw m.val m.err s' else s' = accB s m.fr m.err
structure BSafe (s : BSt) : Prop where
  few : s.ans.length ≤ 100000
  av : ∀ x ∈ s.ans, x.2.val.length ≤ 100000000
  val : s.val.length ≤ 100000000
  rnd : 0 ≤ s.rnd ∧ s.rnd ≤ 1000000000
theorem takeB_ans (s : BSt) (f : Int) (x : BA) : (takeB s f x).1.ans = s.ans ++ [(f, x)] ∧ (takeB s f x).1.rnd = s.rnd := by
  unfold takeB
  split
  · exact ⟨rfl, rfl⟩
  · split <;> exact ⟨rfl, rfl⟩
theorem ChoseB.le' {L : List (Int × BA)} {v0 v : List UInt8} {B : Nat} (h : ChoseB (ansF L 0) v0 v) (h0 : v0.length ≤ B) (hL : ∀ x ∈ L, x.2.val.length ≤ B) : v.length ≤ B := by
  have aux : ∀ (L : List (Int × BA)) (i k : Int) (x : AnB), ansF L i k = some x → ∃ y ∈ L, y.2.val = x.val := fun L => by
    induction L with
    | nil => intro i k x h; cases h
    | cons y L ih =>
      intro i k x h
      simp only [ansF] at h
      split at h
      · cases h; exact ⟨y, by simp, rfl⟩
      · obtain ⟨z, hz, e⟩ := ih (i + 1) k x h; exact ⟨z, List.mem_cons_of_mem _ hz, e⟩
  rcases h with ⟨_, rfl⟩ | ⟨k, x, hx, _, rfl, _⟩
  · exact h0
  · obtain ⟨y, hy, e⟩ := aux L 0 k x hx
    rw [← e]; exact hL y hy
theorem BSafe.step {s s' : BSt} {m : MS} (h : BSafe s) (hm : m.val.length ≤ 100000000) (hf : s.ans.length ≤ 99999) (hp : stepB s m s') : BSafe s' := by
  have tk : ∀ (x : BA), x.val.length ≤ 100000000 → BSafe (takeB s m.fr x).1 := fun x hx => by
    obtain ⟨e1, e2⟩ := takeB_ans s m.fr x
    refine ⟨by rw [e1]; simp; omega, fun y hy => ?_, by rw [takeB_val]; exact h.val, by rw [e2]; exact h.rnd⟩
    rw [e1] at hy
    rcases List.mem_append.1 hy with hy | hy
    · exact h.av y hy
    · obtain rfl := List.mem_singleton.1 hy; exact hx
  unfold stepB at hp
  split at hp
  · unfold PromB at hp
    split at hp
    · have hx : (promA m.br m.bw m.val m.err).val.length ≤ 100000000 := by unfold promA; split <;> simp [hm]
      have ht := tk _ hx
      split at hp
      · obtain ⟨val, hch, rfl⟩ := hp
        refine ⟨by simp, (fun x hx => by cases hx), hch.le' h.val ht.av, ht.rnd⟩
      · subst hp; exact ht
    · subst hp; exact h
  · subst hp
    unfold accB
    split
    · have ht := tk ⟨decide (m.err = 0), 0, 0, []⟩ (by simp)
      split
      · exact ⟨ht.few, ht.av, ht.val, ht.rnd⟩
      · exact ht
    · exact h
section
variable {b : Nat} {g : AdvS} {r : ARw}
theorem aValueC_ok {s : BSt} (hp : g.prop = some s) : Tri Tryd.prog 37 #[oneC (.pointer r.pv)] (ARepR b g r) (fun v => HP.ex fun a => HP.ex fun c => HP.and (v = .slice a s.val.length c ∧ s.val.length ≤ c) (HP.sep (RoB a s.val.length s.val) (ARepR b g r))) :=
  (prop_tri (args := fun p => #[p]) (B := fun v => HP.ex fun a => HP.ex fun c => HP.and (v = .slice a s.val.length c ∧ s.val.length ≤ c) (RoB a s.val.length s.val)) (K := HP.tt) hp fun pb => (bValueC_ok pb s).weak (fun R h H => HP.sep_left H) fun v R h ⟨a, c, e, H⟩ => HP.sep_mono H (fun _ h => ⟨a, c, e, h⟩) fun _ h => h).weak (fun R h H => HP.sep_tt H) fun v R h ⟨h1, h2, d, l1, l2, ⟨a, c, e, H1⟩, H2⟩ => ⟨a, c, e, h1, h2, d, l1, l2, H1, H2⟩
theorem prop_chg {f : FuncId} {args : Value → Array Value} {s : BSt} {φ : Value → BSt → Prop} {K : HP} (hp : g.prop = some s) (t : ∀ pb, Tri Tryd.prog f (args (.pointer (some ⟨pb, 0, none⟩))) (HP.sep (BRep pb s) K) (fun v => HP.ex fun s' => HP.and (φ v s') (BRep pb s'))) :
    Tri Tryd.prog f (args (oneC (.pointer r.pv))) (HP.sep (ARepR b g r) K) (fun v => HP.ex fun s' => HP.and (φ v s') (ARepR b { g with prop := some s' } r)) := by
  refine (Tri.ex (A := fun pb => HP.and (r.pv = some ⟨pb, 0, none⟩ ∧ ROk g r) (HP.sep (HP.sep (BRep pb s) K) (HP.sep (AOne b g r) (ARo g r)))) fun pb => Tri.pure fun ⟨e, hok⟩ => ?_).weak (fun R h H => ?_) fun _ _ _ h => h
  · rw [e]
    refine ((t pb).frame (HP.sep (AOne b g r) (ARo g r))).weak (fun _ _ h => h) fun v R h ⟨h1, h2, d, l1, l2, ⟨s', hf, H1⟩, H2⟩ => ⟨s', hf, ⟨hok.o, hok.p, hok.ob, hok.pb, hok.wb⟩, ?_⟩
    have H3 : (HP.sep (BRep pb s') (HP.sep (AOne b g r) (ARo g r))).p R h := ⟨h1, h2, d, l1, l2, H1, H2⟩
    refine HP.sep_mono (HP.pick [BRep pb s', AOne b g r, ARo g r] [1, 0, 2] (by decide) rfl H3) (fun _ h => h) fun z hz => HP.sep_mono hz (fun w hw => ?_) fun _ h => h
    rw [e]
    exact ⟨pb, rfl, hw⟩
  · obtain ⟨h1, h2, d, l1, l2, ⟨hok, H⟩, HK⟩ := H
    rw [hp] at H
    obtain ⟨h3, h4, d2, l3, l4, HO, h5, h6, d3, l5, l6, ⟨pb, e, HB⟩, HR⟩ := H
    refine ⟨pb, ⟨e, hok⟩, ?_⟩
    have H9 : (HP.sep (HP.sep (AOne b g r) (HP.sep (BRep pb s) (ARo g r))) K).p R h := ⟨h1, h2, d, l1, l2, ⟨h3, h4, d2, l3, l4, HO, h5, h6, d3, l5, l6, HB, HR⟩, HK⟩
    have H10 := HP.sep_mono (HP.sep_assoc H9) (fun _ h => h) fun y hy => HP.sep_assoc hy
    exact HP.sep_assoc' (HP.pick [AOne b g r, BRep pb s, ARo g r, K] [1, 3, 0, 2] (by decide) rfl H10)
theorem aStPl {p : PlP} {a : Option Addr} {c : Nat} {es : List ChE} (hr : rightB p = true) (he : es.map (·.l) = p.ch) : OTri Tryd.prog (storeS 24 (.pointer (some ⟨b, 21, none⟩)) (.agg #[.int .i64 p.ep, .slice a es.length c])) (HP.sep (ARepR b g r) (Ls kCh a es.length es))
    (fun v => HP.and (v = .tuple #[]) (HP.sep (ARepR b { g with plan := p } { r with pa := a, pc := c, pes := es }) (Ls kCh a es.length es))) := by
  refine OTri.fact (φ := ROk g r) (fun R h H => (HP.sep_left H).1) fun hok => ?_
  obtain ⟨i, hi, hz⟩ := Option.map_eq_some_iff.1 (show (Tryd.prog.info? 24).map (fun i => i.size) = some 2 by kernel_rfl)
  have hR := rightP hr
  refine (stBN (e := 53) (b := b) (k := 21) (cs := (advL g r).toArray) (cs' := (advL { g with plan := p } { r with pa := a, pc := c, pes := es }).toArray) (vs := [.int .i64 p.ep, .slice a es.length c]) hi rfl hz (by simp) (fun v hv => by
    rcases List.mem_cons.1 hv with h | h
    · subst h; rfl
    · obtain rfl := List.mem_singleton.1 h; rfl) (by simp [advL_len]) rfl (HP.sep (HP.sep (PropR r.pv g.prop) (ARo g r)) (Ls kCh a es.length es))).weak (fun R h H => HP.sep_assoc (HP.sep_mono H (fun _ h => h.2) fun _ h => h)) ?_
  rintro v R h ⟨e, H⟩
  refine ⟨e, ?_⟩
  have hl : (Ls kCh a es.length es).p R h := HP.sep_right (HP.sep_right H)
  have hro : (ARo g r).p R h := HP.sep_right (HP.sep_left (HP.sep_right H))
  refine HP.sep_comm ⟨PH.none', h, PH.none_dj _, PH.none_le _, PH.le.refl _, Ls.pers _ hl, ⟨hok.o, he, hok.ob, ⟨?_, fun x hx => ?_⟩, hok.wb⟩, HP.sep_mono H (fun _ h => h) fun y hy => HP.sep_mono (HP.sep_left hy) (fun _ h => h) fun z _ => ⟨Ls.pers z hro.1, hro.2.1, Ls.pers z hl⟩⟩
  · have := hR.len7
    rw [← he, List.length_map] at this; show es.length ≤ 1000; omega
  · have := (hR.chain (show x.l ∈ p.ch by rw [← he]; exact List.mem_map.2 ⟨x, hx, rfl⟩)).2.2
    omega
theorem aSt7 : OTri Tryd.prog (storeS 50 (.pointer (some ⟨b, 5, none⟩)) (.agg #[.bool false, .bool false, .bool false, .bool false, .bool false, .bool false, .bool false])) (ARepR b g r)
    (fun v => HP.and (v = .tuple #[]) (ARepR b { g with rep := fun _ => false } r)) := by
  refine OTri.fact (φ := ROk g r) (fun R h H => H.1) fun hok => ?_
  obtain ⟨i, hi, hz⟩ := Option.map_eq_some_iff.1 (show (Tryd.prog.info? 50).map (fun i => i.size) = some 7 by kernel_rfl)
  refine (stBN (e := 53) (b := b) (k := 5) (cs := (advL g r).toArray) (cs' := (advL { g with rep := fun _ => false } r).toArray) (vs := bl7 fun _ => false) hi rfl (by rw [hz, bl7_len]) (by rw [bl7_len]; decide) (fun v hv => by
    obtain ⟨_, _, rfl⟩ := List.mem_map.1 hv; rfl) (by rw [bl7_len]; simp [advL_len]) rfl (HP.sep (PropR r.pv g.prop) (ARo g r))).weak (fun R h H => H.2) ?_
  rintro v R h ⟨e, H⟩
  exact ⟨e, ⟨hok.o, hok.p, hok.ob, hok.pb, hok.wb⟩, H⟩
set_option maxHeartbeats 4000000 in
theorem aChose_ok (m : MS) (ca : Option Addr) (cc : Nat) (va : Option Addr) (vc : Nat) (s : BSt) (hp : g.prop = some s) (hs : ASafe g) (hB : BSafe s) (hf : s.ans.length ≤ 99999) (hmv : m.val.length ≤ 100000000) (hu : g.units ≤ 10000) (hown : g.own.length ≤ 1000000) (D : HP) :
    Tri Tryd.prog 19 #[.pointer (some ⟨b, 0, none⟩), .agg (m.raw ca cc va vc).vals] (HP.sep (ARepR b g r) (HP.sep D (m.Vro va))) (fun v => HP.ex fun s' => HP.and (v = .tuple #[] ∧ stepB s m s') (ARep b (outA g s'))) := by
  refine tri_of_tree (ρ := [.n b, .p (ARepR b g r), .i m.fr, .i m.to, .i m.num, .c m.rep, .i m.kind, .i m.ep, .i m.at', .i m.cell.what, .a ca, .n m.cell.data.length, .n cc, .p D, .i m.br, .i m.bw, .a va, .n m.val.length, .n vc, .p (m.Vro va), .i m.err, .i m.tail, .i m.low, .i m.back]) mixed Tryd.func19 tree_aChose ?_
  unfold t_aChose
  simp only [T.den, E.prop, E.den, RX.look, F1.app, F2.app, Uni.int_i, Uni.nat_n, Uni.bool_c, Uni.str_s, Uni.adr_a, Uni.val_v, Uni.hp_p, hden, cden, V.den, W.den, A.den, BR.den, SA.den, FV.den, capV, exs, exP, allP, Cur.app, List.map_cons, List.map_nil, List.cons_append, List.nil_append, List.drop_succ_cons, List.drop_zero, List.length_cons, List.length_nil, Nat.zero_add, Nat.reduceAdd, Int.neg_neg, Bool.not_not, List.append_nil, Nat.add_zero, List.getElem?_cons_zero, List.getElem?_cons_succ, Decidable.not_not, semW_eq, semW_load, semW_store, semW_storeC, ne_eq, Nat.reduceEqDiff, not_false_eq_true]
  intro _
  refine ⟨fun h6 => ⟨.pointer r.pv, aLdP, ?_⟩, fun h6 => ⟨.pointer r.pv, aLdP, ?_⟩⟩
  · refine (prop_chg (args := fun p => #[p, .int .i64 m.fr, .agg #[.int .i64 m.br, .int .i64 m.bw], .slice va m.val.length vc, .int .i64 m.err]) (φ := fun v s' => v = .tuple #[] ∧ PromB s m.fr m.br m.bw m.val m.err s') (K := m.Vro va) hp fun pb => bPromised_ok pb s m.fr m.br m.bw m.err va vc m.val (by omega) (fun x hx => by have := hB.av x hx; omega) (by omega)).weak (fun _ _ h => h) ?_
    rintro v R h ⟨s', ⟨rfl, hP⟩, H⟩
    have hs' : stepB s m s' := by unfold stepB; rw [if_pos h6]; exact hP
    have hb' := hB.step hmv hf hs'
    refine ⟨ARepR b { g with prop := some s' } r, HP.tt, rfl, ?_, HP.sep_tt H⟩
    clear H
    refine ⟨.pointer r.pv, aLdP, ?_⟩
    refine (aPhase_ok (g := { g with prop := some s' }) rfl).weak (fun _ _ h => h) ?_
    rintro v R h ⟨rfl, H⟩
    refine ⟨_, rfl, ⟨fun h4 => ?_, fun h4 => ⟨fun h3 => ?_, fun h3 => .of fun R h H => ⟨s', ⟨trivial, hs'⟩, ?_⟩⟩⟩, H⟩
    · clear H
      refine ⟨g.units, aLdI rfl, .pointer r.pv, aLdP, g.who, aLdI rfl, r.wa, g.own.length, r.wc, aLdW, ?_⟩
      refine (aBallot_ok (g := { g with prop := some s' }) rfl).weak (fun _ _ h => h) ?_
      rintro v R h ⟨rfl, H⟩
      refine ⟨_, _, rfl, ?_, H⟩
      clear H
      refine (aAbove_ok s'.rnd s'.who g.who (by have := hb'.rnd; omega)).weak (fun _ _ _ => trivial) ?_
      rintro v R h rfl
      refine ⟨_, _, rfl, ?_, trivial⟩
      refine (bStart_ok g.units (s'.rnd + 1) g.who hu (ARepR b { g with prop := some s' } r) r.wa g.own.length r.wc g.own ⟨Rd.impR (RoC.rd _ _ _ _) fun R h H => (ARepR.ro H).2.1, fun R h H e => (RdL.ro _ _ _ _).none R h (ARepR.ro H).2.1 e⟩ rfl (by omega)).weak (fun _ _ h => h) ?_
      rintro v R h ⟨pb, rfl, H⟩
      refine ⟨.pointer (some ⟨pb, 0, none⟩), BRep pb (startB g.units (s'.rnd + 1) g.who g.own), _, rfl, ?_, HP.sep_comm H⟩
      clear H
      refine (aStP (b := b) (g := { g with prop := some s' }) (r := r)).weak (fun _ _ h => h) ?_
      rintro v R h ⟨rfl, H⟩
      refine ⟨_, rfl, .of fun R h H => ⟨s', ⟨trivial, hs'⟩, { r with pv := some ⟨pb, 0, none⟩ }, ?_⟩, H⟩
      unfold outA
      rw [if_pos h4]
      exact HP.sep_left H
    · clear H
      have hout : outA g s' = if (decP s'.val).2 ≠ 0 ∨ (decP s'.val).1.ep ≠ g.old.ep + 1 then { g with prop := some s', st := 6 } else { g with prop := some s', plan := (decP s'.val).1, st := 3, rep := fun _ => false } := by
        unfold outA; rw [if_neg h4, if_pos h3]
      refine ⟨.pointer r.pv, aLdP, ?_⟩
      refine (aValueC_ok (g := { g with prop := some s' }) rfl).weak (fun _ _ h => h) ?_
      rintro v R h ⟨a1, c1, ⟨rfl, hc1⟩, H⟩
      refine ⟨a1, _, c1, RoB a1 s'.val.length s'.val, rfl, ?_, H⟩
      clear H
      refine (plDec_ok a1 s'.val.length c1 s'.val (RoB a1 s'.val.length s'.val) (RdL.ro _ _ _ _) rfl hc1 hb'.val).weak (fun _ _ h => h) ?_
      rintro v R h ⟨a2, c2, es, ⟨rfl, hes⟩, H⟩
      refine ⟨(decP s'.val).1.ep, a2, es.length, c2, Ls kCh a2 es.length es, (decP s'.val).2, _, rfl, fun _ => ?_, H⟩
      clear H
      refine ⟨fun c => c = decide ((decP s'.val).2 ≠ 0 ∨ (decP s'.val).1.ep ≠ g.old.ep + 1), ⟨fun h5 => ?_, fun h5 => ?_⟩, ?_⟩
      · exact (decide_eq_true (.inl h5)).symm
      · refine (aEpoch_ok (g := { g with prop := some s' }) hs.e0 hs.e1).weak (fun _ _ h => h) ?_
        rintro v R h ⟨rfl, H⟩
        refine ⟨_, rfl, ?_, H⟩
        show (!decide ((decP s'.val).1.ep = g.old.ep + 1)) = _
        have h5' : (decP s'.val).2 = 0 := h5
        by_cases hb : (decP s'.val).1.ep = g.old.ep + 1
        · rw [decide_eq_true hb, decide_eq_false (fun h => h.elim (fun h => h h5') (fun h => h hb))]; rfl
        · rw [decide_eq_false hb, decide_eq_true (.inr hb)]; rfl
      · rintro _ rfl
        refine ⟨fun h6 => ?_, fun h6 => ?_⟩
        · refine (aStSt (b := b) (g := { g with prop := some s' }) (r := r)).weak (fun _ _ h => h) ?_
          rintro v R h ⟨rfl, H⟩
          refine ⟨_, rfl, .of fun R h H => ⟨s', ⟨trivial, hs'⟩, r, ?_⟩, H⟩
          rw [hout, if_pos (of_decide_eq_true h6)]
          exact HP.sep_left H
        · have h6' : ¬ ((decP s'.val).2 ≠ 0 ∨ (decP s'.val).1.ep ≠ g.old.ep + 1) := fun h => h6 (decide_eq_true h)
          have h0' : (decP s'.val).2 = 0 := Classical.byContradiction fun h => h6' (.inl h)
          refine (aStPl (b := b) (g := { g with prop := some s' }) (r := r) (p := (decP s'.val).1) (a := a2) (c := c2) (es := es) (decP_right h0') hes).weak (fun _ _ h => h) ?_
          rintro v R h ⟨rfl, H⟩
          refine ⟨ARepR b { g with prop := some s', plan := (decP s'.val).1 } { r with pa := a2, pc := c2, pes := es }, rfl, ?_, H⟩
          clear H
          refine (aStSt (b := b) (g := { g with prop := some s', plan := (decP s'.val).1 }) (r := { r with pa := a2, pc := c2, pes := es })).weak (fun _ _ h => h) ?_
          rintro v R h ⟨rfl, H⟩
          refine ⟨ARepR b { g with prop := some s', plan := (decP s'.val).1, st := 3 } { r with pa := a2, pc := c2, pes := es }, rfl, ?_, H⟩
          clear H
          refine (aSt7 (b := b) (g := { g with prop := some s', plan := (decP s'.val).1, st := 3 }) (r := { r with pa := a2, pc := c2, pes := es })).weak (fun _ _ h => h) ?_
          rintro v R h ⟨rfl, H⟩
          refine ⟨_, rfl, .of fun R h H => ⟨s', ⟨trivial, hs'⟩, { r with pa := a2, pc := c2, pes := es }, ?_⟩, H⟩
          rw [hout, if_neg h6']
          exact HP.sep_left H
    · unfold outA
      rw [if_neg h4, if_neg h3]
      exact ⟨r, HP.sep_left H⟩
  · refine (prop_chg (args := fun p => #[p, .int .i64 m.fr, .int .i64 m.err]) (φ := fun v s' => v = .tuple #[] ∧ s' = accB s m.fr m.err) (K := HP.tt) hp fun pb => (bAccepted_ok pb s m.fr m.err (by omega)).weak (fun R h H => HP.sep_left H) fun v R h ⟨e, H⟩ => ⟨_, ⟨e, rfl⟩, H⟩).weak (fun R h H => HP.sep_tt H) ?_
    rintro v R h ⟨s', ⟨rfl, hP⟩, H⟩
    have hs' : stepB s m s' := by unfold stepB; rw [if_neg h6]; exact hP
    have hb' := hB.step hmv hf hs'
    refine ⟨ARepR b { g with prop := some s' } r, rfl, ?_, H⟩
    clear H
    refine ⟨.pointer r.pv, aLdP, ?_⟩
    refine (aPhase_ok (g := { g with prop := some s' }) rfl).weak (fun _ _ h => h) ?_
    rintro v R h ⟨rfl, H⟩
    refine ⟨_, rfl, ⟨fun h4 => ?_, fun h4 => ⟨fun h3 => ?_, fun h3 => .of fun R h H => ⟨s', ⟨trivial, hs'⟩, ?_⟩⟩⟩, H⟩
    · clear H
      refine ⟨g.units, aLdI rfl, .pointer r.pv, aLdP, g.who, aLdI rfl, r.wa, g.own.length, r.wc, aLdW, ?_⟩
      refine (aBallot_ok (g := { g with prop := some s' }) rfl).weak (fun _ _ h => h) ?_
      rintro v R h ⟨rfl, H⟩
      refine ⟨_, _, rfl, ?_, H⟩
      clear H
      refine (aAbove_ok s'.rnd s'.who g.who (by have := hb'.rnd; omega)).weak (fun _ _ _ => trivial) ?_
      rintro v R h rfl
      refine ⟨_, _, rfl, ?_, trivial⟩
      refine (bStart_ok g.units (s'.rnd + 1) g.who hu (ARepR b { g with prop := some s' } r) r.wa g.own.length r.wc g.own ⟨Rd.impR (RoC.rd _ _ _ _) fun R h H => (ARepR.ro H).2.1, fun R h H e => (RdL.ro _ _ _ _).none R h (ARepR.ro H).2.1 e⟩ rfl (by omega)).weak (fun _ _ h => h) ?_
      rintro v R h ⟨pb, rfl, H⟩
      refine ⟨.pointer (some ⟨pb, 0, none⟩), BRep pb (startB g.units (s'.rnd + 1) g.who g.own), _, rfl, ?_, HP.sep_comm H⟩
      clear H
      refine (aStP (b := b) (g := { g with prop := some s' }) (r := r)).weak (fun _ _ h => h) ?_
      rintro v R h ⟨rfl, H⟩
      refine ⟨_, rfl, .of fun R h H => ⟨s', ⟨trivial, hs'⟩, { r with pv := some ⟨pb, 0, none⟩ }, ?_⟩, H⟩
      unfold outA
      rw [if_pos h4]
      exact HP.sep_left H
    · clear H
      have hout : outA g s' = if (decP s'.val).2 ≠ 0 ∨ (decP s'.val).1.ep ≠ g.old.ep + 1 then { g with prop := some s', st := 6 } else { g with prop := some s', plan := (decP s'.val).1, st := 3, rep := fun _ => false } := by
        unfold outA; rw [if_neg h4, if_pos h3]
      refine ⟨.pointer r.pv, aLdP, ?_⟩
      refine (aValueC_ok (g := { g with prop := some s' }) rfl).weak (fun _ _ h => h) ?_
      rintro v R h ⟨a1, c1, ⟨rfl, hc1⟩, H⟩
      refine ⟨a1, _, c1, RoB a1 s'.val.length s'.val, rfl, ?_, H⟩
      clear H
      refine (plDec_ok a1 s'.val.length c1 s'.val (RoB a1 s'.val.length s'.val) (RdL.ro _ _ _ _) rfl hc1 hb'.val).weak (fun _ _ h => h) ?_
      rintro v R h ⟨a2, c2, es, ⟨rfl, hes⟩, H⟩
      refine ⟨(decP s'.val).1.ep, a2, es.length, c2, Ls kCh a2 es.length es, (decP s'.val).2, _, rfl, fun _ => ?_, H⟩
      clear H
      refine ⟨fun c => c = decide ((decP s'.val).2 ≠ 0 ∨ (decP s'.val).1.ep ≠ g.old.ep + 1), ⟨fun h5 => ?_, fun h5 => ?_⟩, ?_⟩
      · exact (decide_eq_true (.inl h5)).symm
      · refine (aEpoch_ok (g := { g with prop := some s' }) hs.e0 hs.e1).weak (fun _ _ h => h) ?_
        rintro v R h ⟨rfl, H⟩
        refine ⟨_, rfl, ?_, H⟩
        show (!decide ((decP s'.val).1.ep = g.old.ep + 1)) = _
        have h5' : (decP s'.val).2 = 0 := h5
        by_cases hb : (decP s'.val).1.ep = g.old.ep + 1
        · rw [decide_eq_true hb, decide_eq_false (fun h => h.elim (fun h => h h5') (fun h => h hb))]; rfl
        · rw [decide_eq_false hb, decide_eq_true (.inr hb)]; rfl
      · rintro _ rfl
        refine ⟨fun h6 => ?_, fun h6 => ?_⟩
        · refine (aStSt (b := b) (g := { g with prop := some s' }) (r := r)).weak (fun _ _ h => h) ?_
          rintro v R h ⟨rfl, H⟩
          refine ⟨_, rfl, .of fun R h H => ⟨s', ⟨trivial, hs'⟩, r, ?_⟩, H⟩
          rw [hout, if_pos (of_decide_eq_true h6)]
          exact HP.sep_left H
        · have h6' : ¬ ((decP s'.val).2 ≠ 0 ∨ (decP s'.val).1.ep ≠ g.old.ep + 1) := fun h => h6 (decide_eq_true h)
          have h0' : (decP s'.val).2 = 0 := Classical.byContradiction fun h => h6' (.inl h)
          refine (aStPl (b := b) (g := { g with prop := some s' }) (r := r) (p := (decP s'.val).1) (a := a2) (c := c2) (es := es) (decP_right h0') hes).weak (fun _ _ h => h) ?_
          rintro v R h ⟨rfl, H⟩
          refine ⟨ARepR b { g with prop := some s', plan := (decP s'.val).1 } { r with pa := a2, pc := c2, pes := es }, rfl, ?_, H⟩
          clear H
          refine (aStSt (b := b) (g := { g with prop := some s', plan := (decP s'.val).1 }) (r := { r with pa := a2, pc := c2, pes := es })).weak (fun _ _ h => h) ?_
          rintro v R h ⟨rfl, H⟩
          refine ⟨ARepR b { g with prop := some s', plan := (decP s'.val).1, st := 3 } { r with pa := a2, pc := c2, pes := es }, rfl, ?_, H⟩
          clear H
          refine (aSt7 (b := b) (g := { g with prop := some s', plan := (decP s'.val).1, st := 3 }) (r := { r with pa := a2, pc := c2, pes := es })).weak (fun _ _ h => h) ?_
          rintro v R h ⟨rfl, H⟩
          refine ⟨_, rfl, .of fun R h H => ⟨s', ⟨trivial, hs'⟩, { r with pa := a2, pc := c2, pes := es }, ?_⟩, H⟩
          rw [hout, if_neg h6']
          exact HP.sep_left H
    · unfold outA
      rw [if_neg h4, if_neg h3]
      exact ⟨r, HP.sep_left H⟩
end
end Go.Proofs.YtbmajijnjkicmaaDoor



namespace Go.Proofs.YtbmajijnjkicmaaDoor
set_option linter.unusedSimpArgs false
set_option linter.unusedVariables false
open Go.Proofs.YtbmajijnjkicmaaDoor RX
set_option maxRecDepth 100000


def nowP (m x : MS) : Bool := decide (x.to = m.fr) && (decide (x.kind = m.kind) && (decide (x.ep = m.ep) && decide (x.at' = m.at')))
def nowB (g : AdvS) (m : MS) : Bool := (asksL g).any (nowP m)
def tolR (g : AdvS) (m : MS) (g' : AdvS) : Prop :=
  if m.rep = true ∧ nowB g m = true then
    (g.st = 1 → g' = sealA g m.fr.toNat m.err) ∧ (g.st = 2 → ∃ s s', g.prop = some s ∧ stepB s m s' ∧ g' = outA g s') ∧ (g.st = 3 → g' = tellA g m m.fr.toNat) ∧ (g.st = 4 → g' = { g with st := if m.err = 0 ∨ m.err = 8 then 5 else 6 }) ∧ (g.st ≠ 1 → g.st ≠ 2 → g.st ≠ 3 → g.st ≠ 4 → g' = g)
  else g' = g
structure TSafe (g : AdvS) : Prop where
  s : ASafe g
  r : g.st = 1 → rightB g.old = true
  u : g.units ≤ 10000
  w : g.own.length ≤ 1000000
  b : ∀ s, g.prop = some s → BSafe s ∧ s.ans.length ≤ 99999
theorem askA_to (g : AdvS) (u : Nat) : (askA g u).to = u := by
  unfold askA
  split
  · split <;> rfl
  · rfl
theorem nowB_fr {g : AdvS} {m : MS} (h : nowB g m = true) (h4 : g.st ≠ 4) : ∃ f : Nat, m.fr = f ∧ f < 7 ∧ askedA g f = true := by
  obtain ⟨x, hx, hp⟩ := List.any_eq_true.1 h
  unfold asksL at hx
  rw [if_neg h4] at hx
  obtain ⟨u, hu, rfl⟩ := List.mem_map.1 hx
  obtain ⟨hu1, hu2⟩ := List.mem_filter.1 hu
  have := of_decide_eq_true (Bool.and_eq_true_iff.1 hp).1
  rw [askA_to] at this
  exact ⟨u, this.symm, List.mem_range.1 hu1, hu2⟩
section
variable {b : Nat} {g : AdvS} {r : ARw}
theorem aAsksS_ok (hs : ASafe g) : Tri Tryd.prog 6 #[.pointer (some ⟨b, 0, none⟩)] (ARepR b g r) (fun v => HP.ex fun a => HP.ex fun c => HP.ex fun es : List MsE => HP.and (v = .slice a es.length c ∧ es.map (·.m) = asksL g) (HP.sep (Ls kMs a es.length es) (ARepR b g r))) :=
  (aAsksL_ok hs).post fun v => fun R h d ⟨a, c, es, e, H⟩ => by
    obtain ⟨R1, h1, q1, q2, q3, q4, H1⟩ := (HP.ent.sep (PL.share (K := kMs) (e := 37) (one := kMs_one) _ _ _ _) (ARepR b g r)) R h d H
    exact ⟨R1, h1, q1, q2, q3, q4, a, c, es, e, H1⟩
theorem fgoTo : Fgo Tryd.prog 17 := ⟨_, Tryd.func17, by kernel_rfl, by kernel_rfl⟩
abbrev MBox (x : Nat) (m : MS) (ca : Option Addr) (cc : Nat) (va : Option Addr) (vc : Nat) : HP := HP.one x (.cells (m.raw ca cc va vc).vals 37 (0, 0))
theorem told1_tri (x : Nat) (m : MS) (ca : Option Addr) (cc : Nat) (va : Option Addr) (vc : Nat) (S D V0 : HP) (y : MsE) :
    Tri Tryd.prog 17 #[.agg (y.m.raw y.ca y.cc y.va y.vc).vals, .pointer (some ⟨x, 0, none⟩)] (HP.sep S (HP.sep HP.tt (HP.sep (MBox x m ca cc va vc) (HP.sep D V0)))) fun v => HP.and (v = .bool (nowP m y.m)) (HP.sep S (HP.sep HP.tt (HP.sep (MBox x m ca cc va vc) (HP.sep D V0)))) := by
  refine tri_of_tree (ρ := [.i y.m.fr, .i y.m.to, .i y.m.num, .c y.m.rep, .i y.m.kind, .i y.m.ep, .i y.m.at', .i y.m.cell.what, .a y.ca, .n y.m.cell.data.length, .n y.cc, .p S, .i y.m.br, .i y.m.bw, .a y.va, .n y.m.val.length, .n y.vc, .p HP.tt, .i y.m.err, .i y.m.tail, .i y.m.low, .i y.m.back,
      .n x, .i m.fr, .i m.to, .i m.num, .c m.rep, .i m.kind, .i m.ep, .i m.at', .i m.cell.what, .a ca, .n m.cell.data.length, .n cc, .p D, .i m.br, .i m.bw, .a va, .n m.val.length, .n vc, .p V0, .i m.err, .i m.tail, .i m.low, .i m.back]) mixed Tryd.func17 tree_aTold1 ?_
  unfold t_aTold1
  simp only [T.den, E.prop, E.den, RX.look, F1.app, F2.app, Uni.int_i, Uni.nat_n, Uni.bool_c, Uni.str_s, Uni.adr_a, Uni.val_v, Uni.hp_p, hden, cden, V.den, W.den, A.den, BR.den, SA.den, FV.den, capV, exs, exP, allP, Cur.app, List.map_cons, List.map_nil, List.cons_append, List.nil_append, List.drop_succ_cons, List.drop_zero, List.length_cons, List.length_nil, Nat.zero_add, Nat.reduceAdd, Int.neg_neg, Bool.not_not, List.append_nil, Nat.add_zero, List.getElem?_cons_zero, List.getElem?_cons_succ, Decidable.not_not, semW_eq, ne_eq, Nat.reduceEqDiff, not_false_eq_true]
  intro _
  refine ⟨fun h1 => ⟨fun h2 => ⟨fun h3 => .of fun R h H => ⟨?_, H⟩, fun h3 => .of fun R h H => ⟨?_, H⟩⟩, fun h2 => .of fun R h H => ⟨?_, H⟩⟩, fun h1 => .of fun R h H => ⟨?_, H⟩⟩
  · unfold nowP; rw [decide_eq_true h1, decide_eq_true h2, decide_eq_true h3, Bool.true_and, Bool.true_and, Bool.true_and]
  · unfold nowP; rw [decide_eq_false h3, Bool.false_and, Bool.and_false, Bool.and_false]
  · unfold nowP; rw [decide_eq_false h2, Bool.false_and, Bool.and_false]
  · unfold nowP; rw [decide_eq_false h1, Bool.false_and]
theorem told1_ok (x : Nat) (m : MS) (ca : Option Addr) (cc : Nat) (va : Option Addr) (vc : Nat) (S D V0 : HP) (y : MsE) :
    VTri Tryd.prog (.func (.func 17) #[] #[.pointer (some ⟨x, 0, none⟩)]) #[.agg y.vals] (HP.sep (HP.sep (MBox x m ca cc va vc) (HP.sep D V0)) S) fun v => HP.and (v = .bool (nowP m y.m)) (HP.sep (HP.sep (MBox x m ca cc va vc) (HP.sep D V0)) S) :=
  .inl ⟨_, _, rfl, fgoTo, (told1_tri x m ca cc va vc S D V0 y).weak (fun R h H => HP.sep_mono (HP.sep_comm H) (fun _ h => h) fun z hz => HP.tt_sep hz) fun v R h ⟨e, H⟩ => ⟨e, HP.sep_comm (HP.sep_mono H (fun _ h => h) fun z hz => HP.sep_right hz)⟩⟩
set_option maxHeartbeats 2000000 in
theorem aTold_ok (m : MS) (ca : Option Addr) (cc : Nat) (va : Option Addr) (vc : Nat) (hs : TSafe g) (hmv : m.val.length ≤ 100000000) (D : HP) :
    Tri Tryd.prog 8 #[.pointer (some ⟨b, 0, none⟩), .agg (m.raw ca cc va vc).vals] (HP.sep (ARepR b g r) (HP.sep D (m.Vro va))) (fun v => HP.ex fun g' => HP.and (v = .tuple #[] ∧ tolR g m g') (ARep b g')) := by
  refine tri_of_tree (ρ := [.n b, .p (ARepR b g r), .i m.fr, .i m.to, .i m.num, .c m.rep, .i m.kind, .i m.ep, .i m.at', .i m.cell.what, .a ca, .n m.cell.data.length, .n cc, .p D, .i m.br, .i m.bw, .a va, .n m.val.length, .n vc, .p (m.Vro va), .i m.err, .i m.tail, .i m.low, .i m.back]) mixed Tryd.func8 tree_aTold ?_
  unfold t_aTold
  simp only [T.den, E.prop, E.den, RX.look, F1.app, F2.app, Uni.int_i, Uni.nat_n, Uni.bool_c, Uni.str_s, Uni.adr_a, Uni.val_v, Uni.hp_p, hden, cden, V.den, W.den, A.den, BR.den, SA.den, FV.den, capV, exs, exP, allP, Cur.app, List.map_cons, List.map_nil, List.cons_append, List.nil_append, List.drop_succ_cons, List.drop_zero, List.length_cons, List.length_nil, Nat.zero_add, Nat.reduceAdd, Int.neg_neg, Bool.not_not, List.append_nil, Nat.add_zero, List.getElem?_cons_zero, List.getElem?_cons_succ, Decidable.not_not, semW_eq, semW_load, semW_store, semW_storeC, ne_eq, Nat.reduceEqDiff, not_false_eq_true]
  intro x
  refine (aAsksS_ok hs.s).weak (fun _ _ h => h) ?_
  rintro v R h ⟨a, c, es, ⟨rfl, he⟩, H⟩
  refine ⟨a, es.length, c, Ls kMs a es.length es, rfl, ?_, H⟩
  clear H
  have hany : es.any (fun y => nowP m y.m) = nowB g m := by
    unfold nowB; rw [← he, List.any_map]; rfl
  have h7 := asksL_len g
  rw [← he, List.length_map] at h7
  refine (mContainsF_ok (Ls kMs a es.length es) (HP.sep (MBox x m ca cc va vc) (HP.sep D (m.Vro va))) a es.length c es (fun _ _ h => h) (by omega) (.func (.func 17) #[] #[.pointer (some ⟨x, 0, none⟩)]) rfl (fun y => nowP m y.m) fun y _ => told1_ok x m ca cc va vc _ _ _ y).weak (fun _ _ h => h) ?_
  rintro v R h ⟨rfl, H⟩
  rw [hany]
  refine ⟨_, rfl, ⟨fun h0 => .of fun R h H => ⟨g, ⟨trivial, ?_⟩, r, ?_⟩, fun h0 => ⟨fun h1 => .of fun R h H => ⟨g, ⟨trivial, ?_⟩, r, ?_⟩, fun h1 => ?_⟩⟩, H⟩
  all_goals first | exact HP.sep_left H | skip
  · unfold tolR; rw [if_neg (fun e => h0 e.1)]
  · unfold tolR; rw [if_neg (fun e => h1 e.2)]
  clear H
  have h1' : nowB g m = true := by simpa using h1
  have h0' : m.rep = true := by simpa using h0
  have key : ∀ g', ((g.st = 1 → g' = sealA g m.fr.toNat m.err) ∧ (g.st = 2 → ∃ s s', g.prop = some s ∧ stepB s m s' ∧ g' = outA g s') ∧ (g.st = 3 → g' = tellA g m m.fr.toNat) ∧ (g.st = 4 → g' = { g with st := if m.err = 0 ∨ m.err = 8 then 5 else 6 }) ∧ (g.st ≠ 1 → g.st ≠ 2 → g.st ≠ 3 → g.st ≠ 4 → g' = g)) → tolR g m g' := fun g' h => by
    unfold tolR; rw [if_pos ⟨h0', h1'⟩]; exact h
  refine ⟨g.st, aLdI rfl, fun s1 => ?_, fun s1 => ⟨fun s2 => ?_, fun s2 => ⟨fun s3 => ?_, fun s3 => ⟨fun s4 => ?_, fun s4 => .of fun R h H => ⟨g, ⟨trivial, key g ⟨fun h => absurd h s1, fun h => absurd h s2, fun h => absurd h s3, fun h => absurd h s4, fun _ _ _ _ => rfl⟩⟩, r, HP.sep_left H⟩⟩⟩⟩⟩
  · have s1' : g.st = 1 := s1
    obtain ⟨f, hf, hf7, _⟩ := nowB_fr h1' (by omega)
    refine (aSealed_ok m ca cc va vc f hf hf7 hs.s (hs.r s1') hs.u D (m.Vro va)).weak (fun _ _ h => h) ?_
    rintro v R h ⟨rfl, H⟩
    refine ⟨ARep b (sealA g f m.err), HP.tt, HP.tt, rfl, .of fun R h H => ⟨sealA g f m.err, ⟨trivial, key _ ⟨fun _ => by rw [hf, Int.toNat_natCast], by omega, by omega, by omega, by omega⟩⟩, HP.sep_left H⟩, HP.sep_tt (HP.sep_tt H) |> HP.sep_assoc⟩
  · have s2' : g.st = 2 := s2
    obtain ⟨s, hsp⟩ := Option.isSome_iff_exists.1 (hs.s.p2 s2')
    obtain ⟨hB, hf⟩ := hs.b s hsp
    refine (aChose_ok m ca cc va vc s hsp hs.s hB hf hmv hs.u hs.w D).weak (fun _ _ h => h) ?_
    rintro v R h ⟨s', ⟨rfl, hst⟩, H⟩
    refine ⟨ARep b (outA g s'), HP.tt, HP.tt, rfl, .of fun R h H => ⟨outA g s', ⟨trivial, key _ ⟨by omega, fun _ => ⟨s, s', hsp, hst, rfl⟩, by omega, by omega, by omega⟩⟩, HP.sep_left H⟩, HP.sep_tt (HP.sep_tt H) |> HP.sep_assoc⟩
  · have s3' : g.st = 3 := s3
    obtain ⟨f, hf, hf7, _⟩ := nowB_fr h1' (by omega)
    refine (aTell_ok m ca cc va vc f hf hf7 hs.s D (m.Vro va)).weak (fun _ _ h => h) ?_
    rintro v R h ⟨rfl, H⟩
    refine ⟨ARep b (tellA g m f), HP.tt, HP.tt, rfl, .of fun R h H => ⟨tellA g m f, ⟨trivial, key _ ⟨by omega, by omega, fun _ => by rw [hf, Int.toNat_natCast], by omega, by omega⟩⟩, HP.sep_left H⟩, HP.sep_tt (HP.sep_tt H) |> HP.sep_assoc⟩
  · have s4' : g.st = 4 := s4
    have k5 : (m.err = 0 ∨ m.err = 8) → tolR g m { g with st := 5 } := fun h => key _ ⟨by omega, by omega, by omega, fun _ => by rw [if_pos h], by omega⟩
    have k6 : ¬ (m.err = 0 ∨ m.err = 8) → tolR g m { g with st := 6 } := fun h => key _ ⟨by omega, by omega, by omega, fun _ => by rw [if_neg h], by omega⟩
    refine (aStSt (b := b) (g := g) (r := r)).weak (fun _ _ h => h) ?_
    rintro v R h ⟨rfl, H⟩
    refine ⟨ARepR b { g with st := 6 } r, rfl, ⟨fun e0 => ?_, fun e0 => ⟨fun e8 => ?_, fun e8 => .of fun R h H => ⟨_, ⟨trivial, k6 (fun h => h.elim e0 e8)⟩, r, HP.sep_left H⟩⟩⟩, H⟩
    · refine (aStSt (b := b) (g := { g with st := 6 }) (r := r)).weak (fun _ _ h => h) ?_
      rintro v R h ⟨rfl, H⟩
      exact ⟨ARepR b { g with st := 5 } r, rfl, .of fun R h H => ⟨_, ⟨trivial, k5 (.inl e0)⟩, r, HP.sep_left H⟩, H⟩
    · refine (aStSt (b := b) (g := { g with st := 6 }) (r := r)).weak (fun _ _ h => h) ?_
      rintro v R h ⟨rfl, H⟩
      exact ⟨ARepR b { g with st := 5 } r, rfl, .of fun R h H => ⟨_, ⟨trivial, k5 (.inr e8)⟩, r, HP.sep_left H⟩, H⟩
end

theorem ldPC {a : Option Addr} {n c : Nat} {es : List ChE} {k : Nat} {x : ChE} (hk : es[k]? = some x) :
    ORead Tryd.prog (loadS 27 (.pointer (a.map fun y => (y.add ((k : Int).toNat * 1)).add 0))) (PL pkC a n c es) (.slice x.a x.l.length x.c) := by
  refine load1_ok undI aggIs szIs (PL.rd (K := pkC) a n c es) (k := (k : Int).toNat * 1) (off := 0) ?_
  have := flat_getL kCh.vals 1 kCh.len es k 0 x hk (by omega)
  exact this
set_option maxHeartbeats 1000000 in
theorem aTwin_ok (S : HP) (ep : Int) (a : Option Addr) (n c : Nat) (es : List ChE) (hS : ∀ R h, S.p R h → (Ls kCh a n es).p R h) (hb : n ≤ 1000000000) (hx : ∀ x ∈ es, x.l.length ≤ 1000000000) :
    Tri Tryd.prog 14 #[.agg #[.int .i64 ep, .slice a n c]] S (fun v => HP.ex fun a' => HP.ex fun c' => HP.ex fun es' : List ChE => HP.and (v = .agg #[.int .i64 ep, .slice a' n c'] ∧ es'.map (·.l) = es.map (·.l)) (HP.sep (Ls kCh a' n es') S)) := by
  refine Tri.fact (φ := es.length = n) (fun R h H => (hS R h H).1) fun hl => ?_
  refine Tri.post (B := fun v => HP.ex fun a' => HP.ex fun c' => HP.ex fun es' : List ChE => HP.and (v = .agg #[.int .i64 ep, .slice a' n c'] ∧ es'.map (·.l) = es.map (·.l)) (HP.sep (PL pkC a' n c' es') S)) ?_ fun v => fun R h d ⟨a', c', es', e, H⟩ => by
    obtain ⟨R1, h1, q1, q2, q3, q4, H1⟩ := (HP.ent.sep (PL.share (K := kCh) (e := 27) (one := kCh_one) _ _ _ _) S) R h d H
    exact ⟨R1, h1, q1, q2, q3, q4, a', c', es', e, H1⟩
  refine tri_of_tree (ρ := [.i ep, .a a, .n n, .n c, .p S]) mixed Tryd.func14 tree_aTwin ?_
  unfold t_aTwin
  simp only [T.den, E.prop, E.den, RX.look, F1.app, F2.app, Uni.int_i, Uni.nat_n, Uni.bool_c, Uni.str_s, Uni.adr_a, Uni.val_v, Uni.hp_p, hden, cden, V.den, W.den, A.den, BR.den, SA.den, FV.den, capV, exs, exP, allP, Cur.app, List.map_cons, List.map_nil, List.cons_append, List.nil_append, List.drop_succ_cons, List.drop_zero, List.length_cons, List.length_nil, Nat.zero_add, Nat.reduceAdd, Int.neg_neg, Bool.not_not, List.append_nil, Nat.add_zero, List.getElem?_cons_zero, List.getElem?_cons_succ, Decidable.not_not, semW_eq, semW_load, semW_store, semW_storeC, ne_eq, Nat.reduceEqDiff, not_false_eq_true]
  intro _ _
  refine (cClone_ok S a n c es hS hb).weak (fun _ _ h => h) ?_
  rintro v R h ⟨a', c', rfl, H⟩
  have hsm : n ≠ 0 → a'.isSome = true := fun hn => PL.isAt (HP.sep_left H) hn
  refine ⟨a', n, c', PL pkC a' n c' es, S, rfl, ?_, H⟩
  clear H
  refine ⟨fun i P => ∃ k : Nat, ∃ es' : List ChE, i = k ∧ k ≤ n ∧ P = PL pkC a' n c' es' ∧ es'.map (·.l) = es.map (·.l), fun i _ => n - i.toNat, ⟨0, es, rfl, Nat.zero_le _, rfl, rfl⟩, ?_⟩
  rintro _ _ ⟨k, es', rfl, hk, rfl, he⟩
  have hl' : es'.length = n := by
    have := congrArg List.length he
    simp at this; omega
  refine ⟨fun hlt => ⟨by omega, fun _ => ⟨hsm (by omega), fun _ => ?_⟩⟩, fun hge => .of fun R h H => ⟨a', c', es', ⟨rfl, he⟩, HP.sep_comm H⟩⟩
  have hkl : k < es'.length := by omega
  have hg : es'[k]? = some es'[k] := List.getElem?_eq_getElem hkl
  have hm : es'[k] ∈ es' := List.getElem_mem hkl
  have hxl : es'[k].l.length ≤ 1000000000 := by
    have : es'[k].l ∈ es.map (·.l) := by rw [← he]; exact List.mem_map.2 ⟨_, hm, rfl⟩
    obtain ⟨y, hy, e⟩ := List.mem_map.1 this
    rw [← e]; exact hx y hy
  refine ⟨es'[k].a, es'[k].l.length, es'[k].c, ldPC hg, ?_⟩
  refine (iCloneR_ok (PL pkC a' n c' es') es'[k].a es'[k].l.length es'[k].c es'[k].l (.of fun R h H => sepN_all (HP.sep_right H.2) (kCh.hp es'[k]) (List.mem_map.2 ⟨_, hm, rfl⟩)) rfl hxl).weak (fun _ _ h => h) ?_
  rintro v R h ⟨a2, c2, rfl, H⟩
  refine ⟨a2, es'[k].l.length, c2, RoI a2 es'[k].l.length es'[k].l, PL pkC a' n c' es', rfl, ?_, H⟩
  clear H
  obtain ⟨i, hi, _, hz, _⟩ := info_parts infoIs
  refine (PL.set (K := pkC) hi hz (a := a') (n := n) (c := c') (l := es') (k := k) (by omega) ⟨a2, c2, es'[k].l⟩ rfl HP.tt).weak (fun R h H => HP.sep_mono H (fun _ h => h) fun z hz => HP.sep_tt hz) ?_
  rintro v R h ⟨rfl, H⟩
  refine ⟨PL pkC a' n c' (es'.set k ⟨a2, c2, es'[k].l⟩), rfl, ⟨inI64 _ (by omega) (by omega), fun _ => ⟨⟨k + 1, es'.set k ⟨a2, c2, es'[k].l⟩, by omega, by omega, rfl, ?_⟩, by dsimp only; omega⟩⟩, HP.sep_left H⟩
  have e : (es'.set k es'[k]).map (·.l) = es'.map (·.l) := by rw [List.set_getElem_self]
  rw [List.map_set] at e ⊢
  exact e.trans he
end Go.Proofs.YtbmajijnjkicmaaDoor



namespace Go.Proofs.YtbmajijnjkicmaaDoor
set_option linter.unusedSimpArgs false
set_option linter.unusedVariables false
open Go.Proofs.YtbmajijnjkicmaaDoor RX
set_option maxRecDepth 100000

section
variable {b : Nat} {g : AdvS} {r : ARw}
theorem aPlan_ok : Tri Tryd.prog 12 #[.pointer (some ⟨b, 0, none⟩)] (ARepR b g r) (fun v => HP.ex fun a => HP.ex fun c => HP.ex fun es : List ChE => HP.and (v = .agg #[.int .i64 g.plan.ep, .slice a es.length c] ∧ es.map (·.l) = g.plan.ch) (HP.sep (Ls kCh a es.length es) (ARepR b g r))) := by
  refine Tri.fact (φ := ROk g r) (fun R h H => H.1) fun hok => ?_
  refine tri_of_tree (ρ := [.n b, .p (ARepR b g r)]) mixed Tryd.func12 tree_aPlan ?_
  unfold t_aPlan
  simp only [T.den, E.prop, E.den, RX.look, F1.app, F2.app, Uni.int_i, Uni.nat_n, Uni.bool_c, Uni.str_s, Uni.adr_a, Uni.val_v, Uni.hp_p, hden, cden, V.den, W.den, A.den, BR.den, SA.den, FV.den, capV, exs, exP, allP, Cur.app, List.map_cons, List.map_nil, List.cons_append, List.nil_append, List.drop_succ_cons, List.drop_zero, List.length_cons, List.length_nil, Nat.zero_add, Nat.reduceAdd, Int.neg_neg, Bool.not_not, List.append_nil, Nat.add_zero, List.getElem?_cons_zero, List.getElem?_cons_succ, Decidable.not_not, semW_eq, semW_load, ne_eq, Nat.reduceEqDiff, not_false_eq_true]
  intro _
  refine ⟨g.plan.ep, r.pa, r.pes.length, r.pc, aLdPl rfl rfl, ?_⟩
  refine (aTwin_ok (ARepR b g r) g.plan.ep r.pa r.pes.length r.pc r.pes (fun R h H => (ARepR.ro H).2.2) (by have := hok.pb.1; omega) fun x hx => by have := hok.pb.2 x hx; omega).weak (fun _ _ h => h) ?_
  rintro v R h ⟨a', c', es', ⟨rfl, he⟩, H⟩
  have hl : es'.length = r.pes.length := by
    have := congrArg List.length he
    simpa using this
  rw [← hl] at H ⊢
  exact ⟨g.plan.ep, a', es'.length, c', Ls kCh a' es'.length es', ARepR b g r, rfl, .of fun R h H => ⟨a', c', es', ⟨rfl, he.trans hok.p⟩, HP.sep_comm H⟩, H⟩

end

def zAdv : AdvS := ⟨⟨0, []⟩, 0, 0, 6, fun _ => false, fun _ => false, [], none, ⟨0, []⟩, 0⟩
def beginA (p : PlP) (u w : Int) : AdvS :=
  if rightB p = true ∧ p.ep ≠ 2147483647 ∧ 1 ≤ u ∧ u ≤ 7 ∧ 0 ≤ w ∧ w ≤ 2147483647 then ⟨p, u, w, 1, fun _ => false, fun _ => false, [], none, ⟨0, []⟩, 0⟩ else zAdv
theorem ls_nil {R h : PH} : (Ls kCh none 0 []).p R h := ⟨rfl, RoC.nil _ _ _ _, fun x hx => by cases hx⟩
theorem zAdv_rep (x : Nat) {R h : PH} (H : (HP.one x (.cells (advL zAdv ⟨none, 0, [], none, 0, none, none, 0, []⟩).toArray 53 (0, 0))).p R h) : (ARep x zAdv).p R h :=
  ⟨⟨none, 0, [], none, 0, none, none, 0, []⟩, ⟨rfl, rfl, ⟨by simp, fun x hx => by cases hx⟩, ⟨by simp, fun x hx => by cases hx⟩, by simp [zAdv]⟩, HP.sep_mono (HP.sep_tt H) (fun _ h => h) fun y _ => HP.sep_mono (HP.sep_tt (show (PropR none none).p R y from rfl)) (fun _ h => h) fun z _ => ⟨ls_nil, RoB0 _, ls_nil⟩⟩
set_option maxHeartbeats 1000000 in
theorem aBegin_ok (S : HP) (ep : Int) (a : Option Addr) (n c : Nat) (es : List ChE) (u w : Int) (hS : ∀ R h, S.p R h → (Ls kCh a n es).p R h) (hb : ∀ x ∈ es, x.l.length ≤ 1000000000) (hn : n ≤ 1000000000) :
    Tri Tryd.prog 5 #[.agg #[.int .i64 ep, .slice a n c], .int .i64 u, .int .i64 w] S (fun v => HP.ex fun b => HP.and (v = .pointer (some ⟨b, 0, none⟩)) (HP.sep (ARep b (beginA ⟨ep, es.map (·.l)⟩ u w)) S)) := by
  refine tri_of_tree (ρ := [.i ep, .a a, .n n, .n c, .p S, .i u, .i w]) mixed Tryd.func5 tree_aBegin ?_
  unfold t_aBegin
  simp only [T.den, E.prop, E.den, RX.look, F1.app, F2.app, Uni.int_i, Uni.nat_n, Uni.bool_c, Uni.str_s, Uni.adr_a, Uni.val_v, Uni.hp_p, hden, cden, V.den, W.den, A.den, BR.den, SA.den, FV.den, capV, exs, exP, allP, Cur.app, List.map_cons, List.map_nil, List.cons_append, List.nil_append, List.drop_succ_cons, List.drop_zero, List.length_cons, List.length_nil, Nat.zero_add, Nat.reduceAdd, Int.neg_neg, Bool.not_not, List.append_nil, Nat.add_zero, List.getElem?_cons_zero, List.getElem?_cons_succ, Decidable.not_not, semW_eq, ne_eq, Nat.reduceEqDiff, not_false_eq_true]
  intro _
  refine (right_ok S ep a n c es hS hb).weak (fun _ _ h => h) ?_
  rintro v R h ⟨rfl, H⟩
  have bad : ¬ (rightB ⟨ep, es.map (·.l)⟩ = true ∧ ep ≠ 2147483647 ∧ 1 ≤ u ∧ u ≤ 7 ∧ 0 ≤ w ∧ w ≤ 2147483647) → beginA ⟨ep, es.map (·.l)⟩ u w = zAdv := fun h => by unfold beginA; rw [if_neg h]
  refine ⟨_, rfl, ⟨fun h1 x => .of fun R h H => ⟨x, rfl, ?_⟩, fun h1 => ⟨fun h2 x => .of fun R h H => ⟨x, rfl, ?_⟩, fun h2 => ⟨fun h3 x => .of fun R h H => ⟨x, rfl, ?_⟩, fun h3 => ⟨fun h4 x => .of fun R h H => ⟨x, rfl, ?_⟩, fun h4 => ⟨fun h5 x => .of fun R h H => ⟨x, rfl, ?_⟩, fun h5 => ⟨fun h6 x => .of fun R h H => ⟨x, rfl, ?_⟩, fun h6 => ?_⟩⟩⟩⟩⟩⟩, H⟩
  · rw [bad (fun h => h1 h.1)]; exact HP.sep_mono (HP.sep_comm H) (fun _ h => zAdv_rep x h) fun _ h => h
  · rw [bad (fun h => h.2.1 h2)]; exact HP.sep_mono (HP.sep_comm H) (fun _ h => zAdv_rep x h) fun _ h => h
  · rw [bad (fun h => by omega)]; exact HP.sep_mono (HP.sep_comm H) (fun _ h => zAdv_rep x h) fun _ h => h
  · rw [bad (fun h => by omega)]; exact HP.sep_mono (HP.sep_comm H) (fun _ h => zAdv_rep x h) fun _ h => h
  · rw [bad (fun h => by omega)]; exact HP.sep_mono (HP.sep_comm H) (fun _ h => zAdv_rep x h) fun _ h => h
  · rw [bad (fun h => by omega)]; exact HP.sep_mono (HP.sep_comm H) (fun _ h => zAdv_rep x h) fun _ h => h
  have hr : rightB ⟨ep, es.map (·.l)⟩ = true := by simpa using h1
  have hR := rightP hr
  have good : beginA ⟨ep, es.map (·.l)⟩ u w = ⟨⟨ep, es.map (·.l)⟩, u, w, 1, fun _ => false, fun _ => false, [], none, ⟨0, []⟩, 0⟩ := by
    unfold beginA; rw [if_pos ⟨hr, h2, by omega, by omega, by omega, by omega⟩]
  clear H
  refine (aTwin_ok S ep a n c es hS hn hb).weak (fun _ _ h => h) ?_
  rintro v R h ⟨a', c', es', ⟨rfl, he⟩, H⟩
  have hl : es'.length = n := (HP.sep_left H).1
  refine ⟨ep, a', n, c', Ls kCh a' n es', S, rfl, fun x => .of fun R h H => ⟨x, rfl, ?_⟩, H⟩
  have h7 := hR.len7
  rw [← he, List.length_map] at h7
  rw [good, ← he]
  obtain ⟨h1, h2, d, l1, l2, HS, HR⟩ := H
  subst hl
  refine HP.sep_comm ⟨h1, h2, d, l1, l2, HS, ⟨a', c', es', none, 0, none, none, 0, []⟩, ⟨rfl, rfl, ⟨by simp; omega, fun x hx => ?_⟩, ⟨by simp, fun x hx => by cases hx⟩, by simp⟩, HP.sep_mono HR (fun _ h => h) fun y hy => HP.sep_mono (HP.tt_sep hy) (fun z _ => rfl) fun z hz => ⟨hz, RoB0 _, ls_nil⟩⟩
  have : x.l ∈ es.map (·.l) := by rw [← he]; exact List.mem_map.2 ⟨x, hx, rfl⟩
  have := (hR.chain this).2.2
  omega
end Go.Proofs.YtbmajijnjkicmaaDoor



namespace Go.Proofs.YtbmajijnjkicmaaDoor
open Go.Proofs.YtbmajijnjkicmaaDoor RX
set_option maxRecDepth 100000

theorem nodup_subL {α : Type} [DecidableEq α] : ∀ {l m : List α}, l.Nodup → (∀ x ∈ l, x ∈ m) → l.length ≤ m.length
  | [], _, _, _ => Nat.zero_le _
  | x :: l, m, h, hs => by
    rw [List.nodup_cons] at h
    have hx := hs x (by simp)
    have ih := nodup_subL (m := m.erase x) h.2 fun y hy => by
      have : y ≠ x := fun e => h.1 (by rw [← e]; exact hy)
      exact (List.mem_erase_of_ne this).2 (hs y (by simp [hy]))
    rw [List.length_erase_of_mem hx] at ih
    have := List.length_pos_of_mem hx
    rw [List.length_cons]; omega
def okC (L : List (Int × BA)) : Int := ((L.filter fun x => x.2.ok).length : Int)
structure PI (u : Int) (k : Nat) (s : BSt) : Prop where
  acc : s.acc = u
  ph : s.phase = 1 ∨ s.phase = 2
  nd : (s.ans.map (·.1)).Nodup
  rg : ∀ f ∈ s.ans.map (·.1), 0 ≤ f ∧ f < u
  ag : s.agreed = okC s.ans
  no : mostB s.acc s.agreed = false
  may : mostB s.acc (s.acc - (s.ans.length - s.agreed)) = true
  av : ∀ x ∈ s.ans, x.2.val.length ≤ 1000
  vl : s.val.length ≤ 1000
  rn : 0 ≤ s.rnd ∧ s.rnd ≤ 1 + k
theorem okC_app (L : List (Int × BA)) (x : Int × BA) : okC (L ++ [x]) = okC L + if x.2.ok = true then 1 else 0 := by
  unfold okC
  rw [List.filter_append, List.length_append]
  by_cases h : x.2.ok = true
  · rw [if_pos h]; simp [h]
  · rw [if_neg h]
    have : x.2.ok = false := by simpa using h
    simp [this]
theorem nodup_len {l : List Int} {u : Nat} (hn : l.Nodup) (hr : ∀ f ∈ l, 0 ≤ f ∧ f < (u : Int)) : l.length ≤ u := by
  have h1 : (l.map Int.toNat).Nodup := by
    rw [List.nodup_iff_pairwise_ne, List.pairwise_map]
    rw [List.nodup_iff_pairwise_ne] at hn
    refine List.Pairwise.imp_of_mem (fun ha hb hab e => hab ?_) hn
    have := hr _ ha; have := hr _ hb; omega
  have h2 : ∀ x ∈ l.map Int.toNat, x ∈ List.range u := fun x hx => by
    obtain ⟨y, hy, rfl⟩ := List.mem_map.1 hx
    have := hr y hy
    rw [List.mem_range]; omega
  have := nodup_subL h1 h2
  simpa using this
theorem PI.len {u : Int} {k : Nat} {s : BSt} (h : PI u k s) (h0 : 0 ≤ u) : (s.ans.length : Int) ≤ u := by
  obtain ⟨n, rfl⟩ := Int.eq_ofNat_of_zero_le h0
  have := nodup_len h.nd h.rg
  rw [List.length_map] at this
  exact Int.ofNat_le.2 this
theorem PI.waits {u : Int} {k : Nat} {s : BSt} (h : PI u k s) (h1 : 1 ≤ u) : ∃ f : Nat, (f : Int) < u ∧ askedB s f = true := by
  obtain ⟨n, rfl⟩ := Int.eq_ofNat_of_zero_le (show 0 ≤ u by omega)
  refine Classical.byContradiction fun hno => ?_
  have hall : ∀ f : Nat, f < n → (f : Int) ∈ s.ans.map (·.1) := fun f hf => Classical.byContradiction fun hm => hno ⟨f, by omega, by
    unfold askedB hasB
    rw [decide_eq_true (show (s.phase = 1 ∨ s.phase = 2) ∧ 0 ≤ (f : Int) ∧ (f : Int) < s.acc from ⟨h.ph, by omega, by rw [h.acc]; omega⟩), decide_eq_false hm]; rfl⟩
  have hs : ∀ x ∈ (List.range n).map (fun (i : Nat) => (i : Int)), x ∈ s.ans.map (·.1) := fun x hx => by
    obtain ⟨i, hi, rfl⟩ := List.mem_map.1 hx
    exact hall i (List.mem_range.1 hi)
  have hnd : ((List.range n).map (fun (i : Nat) => (i : Int))).Nodup := by
    rw [List.nodup_iff_pairwise_ne, List.pairwise_map]
    refine List.Pairwise.imp (fun hab e => hab (by omega)) (List.nodup_iff_pairwise_ne.1 List.nodup_range)
  have h1' := nodup_subL hnd hs
  simp at h1'
  have h2 := h.len (by omega)
  have h3 := h.no
  have h4 := h.may
  unfold mostB at h3 h4
  have h3 := of_decide_eq_false h3
  have h4 := of_decide_eq_true h4
  rw [h.acc] at h3 h4
  rw [Int.tdiv_eq_ediv_of_nonneg (by omega)] at h3 h4
  omega
theorem PI.start {u w : Int} {k : Nat} {l : List UInt8} {r : Int} (h1 : 1 ≤ u) (hl : l.length ≤ 1000) (hr : 0 ≤ r ∧ r ≤ 1 + k) : PI u k (startB u r w l) := by
  have hm : max u 1 = u := by omega
  refine ⟨hm, .inl rfl, List.nodup_nil, (fun f hf => by cases hf), rfl, ?_, ?_, (fun x hx => by cases hx), hl, hr⟩
  · unfold mostB startB
    dsimp only
    rw [hm, Int.tdiv_eq_ediv_of_nonneg (by omega)]
    exact decide_eq_false (by omega)
  · unfold mostB startB
    dsimp only
    rw [hm, Int.tdiv_eq_ediv_of_nonneg (by omega)]
    simp only [List.length_nil]
    exact decide_eq_true (by omega)
theorem PI.take {u : Int} {k : Nat} {s : BSt} (h : PI u k s) {f : Int} (hf : askedB s f = true) {x : BA} (hx : x.val.length ≤ 1000) :
    ((takeB s f x).2 = false → (takeB s f x).1.phase ≠ 4 → PI u k (takeB s f x).1) ∧ (∀ y ∈ (takeB s f x).1.ans, y.2.val.length ≤ 1000) ∧ (takeB s f x).1.val = s.val ∧ (takeB s f x).1.acc = s.acc ∧ (takeB s f x).1.rnd = s.rnd ∧ ((takeB s f x).1.phase = s.phase ∨ (takeB s f x).1.phase = 4) ∧ ((takeB s f x).2 = true → (takeB s f x).1.phase = s.phase) := by
  unfold askedB hasB at hf
  rw [Bool.and_eq_true] at hf
  obtain ⟨hf1, hf2⟩ := hf
  obtain ⟨_, hf0, hfa⟩ := of_decide_eq_true hf1
  have hfn : f ∉ s.ans.map (·.1) := by simpa using hf2
  have nd : ((s.ans ++ [(f, x)]).map (·.1)).Nodup := by
    rw [List.map_append, List.nodup_append]
    exact ⟨h.nd, by simp, fun a ha b hb e => hfn (by simp at hb; rw [← hb, ← e]; exact ha)⟩
  have rg : ∀ g ∈ (s.ans ++ [(f, x)]).map (·.1), 0 ≤ g ∧ g < u := fun g hg => by
    rw [List.map_append] at hg
    rcases List.mem_append.1 hg with hg | hg
    · exact h.rg g hg
    · simp at hg; subst hg; rw [h.acc] at hfa; exact ⟨hf0, hfa⟩
  have av : ∀ y ∈ s.ans ++ [(f, x)], y.2.val.length ≤ 1000 := fun y hy => by
    rcases List.mem_append.1 hy with hy | hy
    · exact h.av y hy
    · obtain rfl := List.mem_singleton.1 hy; exact hx
  unfold takeB
  split
  · rename_i hok
    refine ⟨fun hm _ => ⟨h.acc, h.ph, nd, rg, ?_, hm, ?_, av, h.vl, h.rn⟩, av, rfl, rfl, rfl, .inl rfl, fun _ => rfl⟩
    · show s.agreed + 1 = _
      rw [okC_app, if_pos hok, h.ag]
    · have := h.may
      show mostB s.acc (s.acc - (((s.ans ++ [(f, x)]).length : Nat) - (s.agreed + 1))) = true
      rw [List.length_append, List.length_singleton]
      rw [← this]; congr 1; omega
  · rename_i hok
    split
    · rename_i hm
      refine ⟨fun _ _ => ⟨h.acc, h.ph, nd, rg, ?_, h.no, ?_, av, h.vl, h.rn⟩, av, rfl, rfl, rfl, .inl rfl, fun h => by cases h⟩
      · show s.agreed = _
        rw [okC_app, if_neg hok, h.ag]; omega
      · show mostB s.acc (s.acc - (((s.ans ++ [(f, x)]).length : Nat) - s.agreed)) = true
        rw [List.length_append, List.length_singleton, ← hm]
        congr 1
    · exact ⟨fun _ h => absurd rfl h, av, rfl, rfl, rfl, .inr rfl, fun h => by cases h⟩
theorem PI.step {u : Int} {k : Nat} {s s' : BSt} {m : MS} (h : PI u k s) (h1 : 1 ≤ u) (hm : m.val.length ≤ 1000) (hp : stepB s m s') : (s'.phase ≠ 3 → s'.phase ≠ 4 → PI u k s') ∧ s'.rnd = s.rnd ∧ s'.val.length ≤ 1000 := by
  unfold stepB at hp
  split at hp
  · unfold PromB at hp
    split at hp
    · rename_i hph
      have hx : (promA m.br m.bw m.val m.err).val.length ≤ 1000 := by unfold promA; split <;> simp [hm]
      obtain ⟨t1, t2, t3, t4, t5, t6, t7⟩ := h.take hph.2 hx
      split at hp
      · obtain ⟨val, hch, rfl⟩ := hp
        have hv := hch.le' h.vl t2
        refine ⟨fun _ _ => ⟨by rw [← h.acc]; exact t4, .inr rfl, List.nodup_nil, (fun f hf => by cases hf), rfl, ?_, ?_, (fun x hx => by cases hx), hv, by rw [show _ = _ from t5]; exact h.rn⟩, t5, hv⟩
        · show mostB (takeB s m.fr (promA m.br m.bw m.val m.err)).1.acc 0 = false
          rw [t4, h.acc]; unfold mostB
          rw [Int.tdiv_eq_ediv_of_nonneg (by omega)]
          exact decide_eq_false (by omega)
        · show mostB (takeB s m.fr (promA m.br m.bw m.val m.err)).1.acc ((takeB s m.fr (promA m.br m.bw m.val m.err)).1.acc - (((([] : List (Int × BA)).length : Nat) : Int) - 0)) = true
          rw [t4, h.acc]; unfold mostB
          rw [Int.tdiv_eq_ediv_of_nonneg (by omega)]
          exact decide_eq_true (by simp; omega)
      · rename_i hnt
        subst hp
        exact ⟨fun _ h4 => t1 (by simpa using hnt) h4, t5, by rw [t3]; exact h.vl⟩
    · subst hp; exact ⟨fun _ _ => h, rfl, h.vl⟩
  · subst hp
    unfold accB
    split
    · rename_i hph
      obtain ⟨t1, t2, t3, t4, t5, t6, t7⟩ := h.take hph.2 (x := ⟨decide (m.err = 0), 0, 0, []⟩) (by simp)
      split
      · exact ⟨fun h3 _ => absurd rfl h3, t5, by show (takeB _ _ _).1.val.length ≤ _; rw [t3]; exact h.vl⟩
      · rename_i hnt
        exact ⟨fun _ h4 => t1 (by simpa using hnt) h4, t5, by rw [t3]; exact h.vl⟩
    · exact ⟨fun _ _ => h, rfl, h.vl⟩
structure AI (k : Nat) (g : AdvS) : Prop where
  rg : 1 ≤ g.st ∧ g.st ≤ 6
  r : g.st ≠ 6 → rightB g.old = true ∧ g.old.ep < 2147483647 ∧ 1 ≤ g.units ∧ g.units ≤ 7
  e0 : 0 ≤ g.old.ep ∧ g.old.ep ≤ 2147483647
  u0 : g.units ≤ 7
  w : g.own.length ≤ 1000
  s1 : g.st = 1 → ∃ u : Nat, u < 7 ∧ (u : Int) < g.units ∧ g.rep u = false
  s2 : g.st = 2 → ∃ s, g.prop = some s ∧ PI g.units k s
  s3 : g.st = 3 → rightB g.plan = true ∧ g.plan.ep = g.old.ep + 1 ∧ ∃ u : Nat, u < 7 ∧ plannedA g.plan u = true ∧ g.rep u = false
  pv : ∀ s, g.prop = some s → BSafe s ∧ s.ans.length ≤ 99999
theorem PI.safe {u : Int} {k : Nat} {s : BSt} (h : PI u k s) (h7 : u ≤ 7) (h0 : 0 ≤ u) (hk : k ≤ 100000) : BSafe s ∧ s.ans.length ≤ 99999 := by
  have := h.len h0
  exact ⟨⟨by omega, fun x hx => by have := h.av x hx; omega, by have := h.vl; omega, h.rn.1, by have := h.rn.2; omega⟩, by omega⟩
end Go.Proofs.YtbmajijnjkicmaaDoor



namespace Go.Proofs.YtbmajijnjkicmaaDoor
open Go.Proofs.YtbmajijnjkicmaaDoor RX
set_option maxRecDepth 100000

theorem AI.safe {k : Nat} {g : AdvS} (h : AI k g) : TSafe g :=
  ⟨⟨h.e0.1, h.e0.2, fun h2 => by obtain ⟨s, e, _⟩ := h.s2 h2; rw [e]; rfl, fun s e => (h.pv s e).1.val⟩, fun h1 => (h.r (by omega)).1, by have := h.u0; omega, by have := h.w; omega, h.pv⟩
theorem asksL_nil {g : AdvS} (h4 : g.st ≠ 4) : asksL g = [] ↔ ∀ u : Nat, u < 7 → askedA g u = false := by
  unfold asksL
  rw [if_neg h4, List.map_eq_nil_iff, List.filter_eq_nil_iff]
  exact ⟨fun h u hu => by simpa using h u (List.mem_range.2 hu), fun h u hu => by rw [h u (List.mem_range.1 hu)]; decide⟩
theorem asksL_ex {g : AdvS} (h4 : g.st ≠ 4) (h : asksL g ≠ []) : ∃ u : Nat, u < 7 ∧ askedA g u = true :=
  Classical.byContradiction fun hn => h ((asksL_nil h4).2 fun u hu => by
    cases e : askedA g u with
    | false => rfl
    | true => exact absurd ⟨u, hu, e⟩ hn)
theorem asked1 {g : AdvS} (h : g.st = 1) (u : Nat) : askedA g u = (decide ((u : Int) < g.units) && !g.rep u) := by unfold askedA; rw [if_pos h]
theorem asked2 {g : AdvS} (h : g.st = 2) {s : BSt} (hp : g.prop = some s) (u : Nat) : askedA g u = askedB s u := by
  unfold askedA; rw [if_neg (by omega), if_pos h, hp]
theorem asked3 {g : AdvS} (h : g.st = 3) (u : Nat) : askedA g u = (!g.rep u && plannedA g.plan u) := by
  unfold askedA; rw [if_neg (by omega), if_neg (by omega), if_pos h]
theorem asked0 {g : AdvS} (h1 : g.st ≠ 1) (h2 : g.st ≠ 2) (h3 : g.st ≠ 3) (u : Nat) : askedA g u = false := by
  unfold askedA; rw [if_neg h1, if_neg h2, if_neg h3]
theorem AI.asks {k : Nat} {g : AdvS} (h : AI k g) : asksL g = [] ↔ (g.st = 5 ∨ g.st = 6) := by
  refine ⟨fun he => ?_, fun hs => (asksL_nil (by omega)).2 fun u _ => asked0 (by omega) (by omega) (by omega) u⟩
  have h4 : g.st ≠ 4 := fun h4 => by unfold asksL at he; rw [if_pos h4] at he; cases he
  have hall := (asksL_nil h4).1 he
  refine Classical.byContradiction fun hn => ?_
  have := h.rg
  have hc : g.st = 1 ∨ g.st = 2 ∨ g.st = 3 := by omega
  rcases hc with hc | hc | hc
  · obtain ⟨u, h7, hu, hr⟩ := h.s1 hc
    have := hall u h7
    rw [asked1 hc, decide_eq_true hu, hr] at this
    cases this
  · obtain ⟨s, hp, hP⟩ := h.s2 hc
    have h7 := h.u0
    obtain ⟨f, hf, ha⟩ := hP.waits (h.r (by omega)).2.2.1
    have := hall f (by omega)
    rw [asked2 hc hp, ha] at this
    cases this
  · obtain ⟨_, _, u, h7, hu, hr⟩ := h.s3 hc
    have := hall u h7
    rw [asked3 hc, hu, hr] at this
    cases this
theorem planned_ex {p : PlP} (h : rightB p = true) : ∃ u : Nat, u < 7 ∧ plannedA p u = true := by
  have hR := rightP h
  have h1 := hR.len1
  have hm : p.ch[0]'(by omega) ∈ p.ch := List.getElem_mem _
  generalize p.ch[0]'(by omega) = c at hm
  cases c with
  | nil => exact absurd rfl (hR.ne _ hm)
  | cons x r =>
    have hx := hR.rg x (List.mem_flatten.2 ⟨_, hm, by simp⟩)
    refine ⟨x.toNat, by omega, List.any_eq_true.2 ⟨_, hm, decide_eq_true ?_⟩⟩
    rw [show ((x.toNat : Nat) : Int) = x by omega]; simp
theorem takeB_few (s : BSt) (f : Int) (x : BA) : (takeB s f x).1.ans.length = s.ans.length + 1 := by rw [(takeB_ans s f x).1]; simp
theorem stepB_few {s s' : BSt} {m : MS} (h : stepB s m s') : s'.ans.length ≤ s.ans.length + 1 := by
  unfold stepB at h
  split at h
  · unfold PromB at h
    split at h
    · split at h
      · obtain ⟨v, _, rfl⟩ := h; simp
      · subst h; rw [takeB_few]; omega
    · subst h; omega
  · subst h
    unfold accB
    split
    · split
      · show (takeB _ _ _).1.ans.length ≤ _; rw [takeB_few]; omega
      · rw [takeB_few]; omega
    · omega
theorem PI.mono {u : Int} {k j : Nat} {s : BSt} (h : PI u k s) (hj : k ≤ j) : PI u j s := ⟨h.acc, h.ph, h.nd, h.rg, h.ag, h.no, h.may, h.av, h.vl, h.rn.1, by have := h.rn.2; omega⟩
theorem AI.mono {k j : Nat} {g : AdvS} (h : AI k g) (hj : k ≤ j) : AI j g :=
  ⟨h.rg, h.r, h.e0, h.u0, h.w, h.s1, fun h2 => let ⟨s, e, p⟩ := h.s2 h2; ⟨s, e, p.mono hj⟩, h.s3, h.pv⟩
theorem now_asks {g : AdvS} {m : MS} (h : nowB g m = true) : asksL g ≠ [] := fun e => by unfold nowB at h; rw [e] at h; cases h
theorem AI.told {k : Nat} {g g' : AdvS} {m : MS} (h : AI k g) (hk : k ≤ 99999) (hm : m.val.length ≤ 1000) (ht : tolR g m g') :
    AI (k + 1) g' ∧ g.st ≤ g'.st ∧ (asksL g = [] → g' = g) ∧ g'.old = g.old ∧ g'.units = g.units ∧ g'.who = g.who := by
  unfold tolR at ht
  split at ht
  · rename_i hc
    obtain ⟨_, hn⟩ := hc
    have hne := now_asks hn
    obtain ⟨t1, t2, t3, t4, _⟩ := ht
    have hst := h.rg
    have hs56 : ¬ (g.st = 5 ∨ g.st = 6) := fun e => hne (h.asks.2 e)
    have hr := h.r (by omega)
    have hu7 := h.u0
    have hcs : g.st = 1 ∨ g.st = 2 ∨ g.st = 3 ∨ g.st = 4 := by omega
    rcases hcs with hs | hs | hs | hs
    · obtain rfl := t1 hs
      unfold sealA
      generalize hg1 : ({ g with rep := put7 g.rep m.fr.toNat true, there := put7 g.there m.fr.toNat (decide (m.err = 0)) } : AdvS) = g1
      have e1 : g1.st = 1 ∧ g1.old = g.old ∧ g1.units = g.units ∧ g1.who = g.who ∧ g1.own = g.own ∧ g1.prop = g.prop := by subst hg1; exact ⟨hs, rfl, rfl, rfl, rfl, rfl⟩
      obtain ⟨e1, e2, e3, e4, e5, e6⟩ := e1
      split
      · have hw := ownA_len (g := g1) (by rw [e2]; exact hr.1)
        have hP : PI g1.units (k + 1) (startB g1.units 1 g1.who (ownA g1)) := .start (by rw [e3]; exact hr.2.2.1) (by omega) (by omega)
        refine ⟨⟨⟨by show (1 : Int) ≤ 2; omega, by show (2 : Int) ≤ 6; omega⟩, fun _ => by show rightB g1.old = true ∧ g1.old.ep < 2147483647 ∧ 1 ≤ g1.units ∧ g1.units ≤ 7; rw [e2, e3]; exact hr, by show 0 ≤ g1.old.ep ∧ g1.old.ep ≤ 2147483647; rw [e2]; exact h.e0, by show g1.units ≤ 7; rw [e3]; exact hu7, by show (ownA g1).length ≤ 1000; omega,
          fun h => absurd (show (2 : Int) = 1 from h) (by decide), fun _ => ⟨_, rfl, hP⟩, fun h => absurd (show (2 : Int) = 3 from h) (by decide), fun s e => ?_⟩, by show g.st ≤ 2; omega, fun he => absurd he hne, e2, e3, e4⟩
        obtain rfl : startB g1.units 1 g1.who (ownA g1) = s := Option.some.inj e
        exact hP.safe (by omega) (by omega) (by omega)
      · rename_i hne1
        obtain ⟨u, hu, ha⟩ := asksL_ex (by omega) hne1
        rw [asked1 e1] at ha
        simp only [Bool.and_eq_true, decide_eq_true_eq, Bool.not_eq_true'] at ha
        refine ⟨⟨by omega, fun _ => by rw [e2, e3]; exact hr, by rw [e2]; exact h.e0, by rw [e3]; exact hu7, by rw [e5]; exact h.w, fun _ => ⟨u, hu, ha.1, ha.2⟩, by omega, by omega, by rw [e6]; exact h.pv⟩, by omega, fun he => absurd he hne, e2, e3, e4⟩
    · obtain ⟨s, s', hp, hst', rfl⟩ := t2 hs
      obtain ⟨s0, hp0, hP⟩ := h.s2 hs
      rw [hp] at hp0; cases hp0
      obtain ⟨p1, p2, p3⟩ := hP.step hr.2.2.1 hm hst'
      have hB := (h.pv s hp).1.step (m := m) (by omega) (h.pv s hp).2 hst'
      have hf : s'.ans.length ≤ 99999 := by
        have := stepB_few hst'
        have := hP.len (by omega)
        omega
      have bpv : ∀ x, some s' = some x → BSafe x ∧ x.ans.length ≤ 99999 := fun x e => by cases e; exact ⟨hB, hf⟩
      unfold outA
      split
      · have hP' : PI g.units (k + 1) (startB g.units (s'.rnd + 1) g.who g.own) := .start hr.2.2.1 h.w (by rw [p2]; have := hP.rn; omega)
        refine ⟨⟨hst, fun _ => hr, h.e0, hu7, h.w, fun h => absurd hs (by show g.st ≠ 2; rw [show g.st = 1 from h]; decide), fun _ => ⟨_, rfl, hP'⟩, fun h => absurd hs (by rw [show g.st = 3 from h]; decide), fun x e => ?_⟩, by show g.st ≤ g.st; omega, fun he => absurd he hne, rfl, rfl, rfl⟩
        obtain rfl : startB g.units (s'.rnd + 1) g.who g.own = x := Option.some.inj e
        exact hP'.safe (by omega) (by omega) (by omega)
      · rename_i h4
        split
        · rename_i h3
          split
          · refine ⟨⟨⟨by show (1 : Int) ≤ 6; omega, by show (6 : Int) ≤ 6; omega⟩, fun h => absurd rfl h, h.e0, hu7, h.w, fun h => absurd (show (6 : Int) = 1 from h) (by decide), fun h => absurd (show (6 : Int) = 2 from h) (by decide), fun h => absurd (show (6 : Int) = 3 from h) (by decide), bpv⟩, by show g.st ≤ 6; omega, fun he => absurd he hne, rfl, rfl, rfl⟩
          · rename_i hb
            have h0 : (decP s'.val).2 = 0 := Classical.byContradiction fun e => hb (.inl e)
            have he : (decP s'.val).1.ep = g.old.ep + 1 := Classical.byContradiction fun e => hb (.inr e)
            obtain ⟨u, hu, hpl⟩ := planned_ex (decP_right h0)
            exact ⟨⟨⟨by show (1 : Int) ≤ 3; omega, by show (3 : Int) ≤ 6; omega⟩, fun _ => hr, h.e0, hu7, h.w, fun h => absurd (show (3 : Int) = 1 from h) (by decide), fun h => absurd (show (3 : Int) = 2 from h) (by decide), fun _ => ⟨decP_right h0, he, u, hu, hpl, rfl⟩, bpv⟩, by show g.st ≤ 3; omega, fun he => absurd he hne, rfl, rfl, rfl⟩
        · rename_i h3
          have hP' := (p1 h3 h4).mono (Nat.le_succ k)
          exact ⟨⟨hst, fun _ => hr, h.e0, hu7, h.w, fun h => absurd hs (by rw [show g.st = 1 from h]; decide), fun _ => ⟨_, rfl, hP'⟩, fun h => absurd hs (by rw [show g.st = 3 from h]; decide), bpv⟩, by show g.st ≤ g.st; omega, fun he => absurd he hne, rfl, rfl, rfl⟩
    · obtain rfl := t3 hs
      obtain ⟨q1, q2, _⟩ := h.s3 hs
      have go : ∀ g1 : AdvS, g1.st = 3 → g1.old = g.old → g1.units = g.units → g1.who = g.who → g1.own = g.own → g1.prop = g.prop → g1.plan = g.plan → ∀ g2, g2 = (if asksL g1 = [] then { g1 with st := 4 } else g1) → AI (k + 1) g2 ∧ g.st ≤ g2.st ∧ (asksL g = [] → g2 = g) ∧ g2.old = g.old ∧ g2.units = g.units ∧ g2.who = g.who := fun g1 e1 e2 e3 e4 e5 e6 e7 g2 he2 => by
        subst he2
        split
        · exact ⟨⟨⟨by show (1 : Int) ≤ 4; omega, by show (4 : Int) ≤ 6; omega⟩, fun _ => by show rightB g1.old = true ∧ g1.old.ep < 2147483647 ∧ 1 ≤ g1.units ∧ g1.units ≤ 7; rw [e2, e3]; exact hr, by show 0 ≤ g1.old.ep ∧ g1.old.ep ≤ 2147483647; rw [e2]; exact h.e0, by show g1.units ≤ 7; rw [e3]; exact hu7, by show g1.own.length ≤ 1000; rw [e5]; exact h.w,
            fun h => absurd (show (4 : Int) = 1 from h) (by decide), fun h => absurd (show (4 : Int) = 2 from h) (by decide), fun h => absurd (show (4 : Int) = 3 from h) (by decide), by show ∀ s, g1.prop = some s → _; rw [e6]; exact h.pv⟩, by show g.st ≤ 4; omega, fun he => absurd he hne, e2, e3, e4⟩
        · rename_i hne1
          obtain ⟨u, hu, ha⟩ := asksL_ex (by omega) hne1
          rw [asked3 e1] at ha
          simp only [Bool.and_eq_true, Bool.not_eq_true'] at ha
          exact ⟨⟨by omega, fun _ => by rw [e2, e3]; exact hr, by rw [e2]; exact h.e0, by rw [e3]; exact hu7, by rw [e5]; exact h.w, by omega, by omega, fun _ => ⟨by rw [e7]; exact q1, by rw [e7, e2]; exact q2, u, hu, ha.2, ha.1⟩, by rw [e6]; exact h.pv⟩, by omega, fun he => absurd he hne, e2, e3, e4⟩
      by_cases h0 : m.err = 0
      · exact go { g with tail := max (max g.tail m.tail) m.low, rep := put7 g.rep m.fr.toNat true } hs rfl rfl rfl rfl rfl rfl _ (by unfold tellA; rw [if_pos h0])
      · by_cases h8 : m.err ≠ 8 ∨ m.back ≤ g.old.ep + 1
        · have : tellA g m m.fr.toNat = { g with st := 6 } := by unfold tellA; rw [if_neg h0, if_pos h8]
          rw [this]
          exact ⟨⟨⟨by show (1 : Int) ≤ 6; omega, by show (6 : Int) ≤ 6; omega⟩, fun h => absurd rfl h, h.e0, hu7, h.w, fun h => absurd (show (6 : Int) = 1 from h) (by decide), fun h => absurd (show (6 : Int) = 2 from h) (by decide), fun h => absurd (show (6 : Int) = 3 from h) (by decide), h.pv⟩, by show g.st ≤ 6; omega, fun he => absurd he hne, rfl, rfl, rfl⟩
        · exact go { g with rep := put7 g.rep m.fr.toNat true } hs rfl rfl rfl rfl rfl rfl _ (by unfold tellA; rw [if_neg h0, if_neg h8])
    · obtain rfl := t4 hs
      split
      · exact ⟨⟨⟨by show (1 : Int) ≤ 5; omega, by show (5 : Int) ≤ 6; omega⟩, fun _ => hr, h.e0, hu7, h.w, fun h => absurd (show (5 : Int) = 1 from h) (by decide), fun h => absurd (show (5 : Int) = 2 from h) (by decide), fun h => absurd (show (5 : Int) = 3 from h) (by decide), h.pv⟩, by show g.st ≤ 5; omega, fun he => absurd he hne, rfl, rfl, rfl⟩
      · exact ⟨⟨⟨by show (1 : Int) ≤ 6; omega, by show (6 : Int) ≤ 6; omega⟩, fun h => absurd rfl h, h.e0, hu7, h.w, fun h => absurd (show (6 : Int) = 1 from h) (by decide), fun h => absurd (show (6 : Int) = 2 from h) (by decide), fun h => absurd (show (6 : Int) = 3 from h) (by decide), h.pv⟩, by show g.st ≤ 6; omega, fun he => absurd he hne, rfl, rfl, rfl⟩
  · subst ht
    exact ⟨h.mono (Nat.le_succ k), Int.le_refl _, fun _ => rfl, rfl, rfl, rfl⟩
theorem AI.begin (p : PlP) (u w : Int) : AI 0 (beginA p u w) := by
  unfold beginA
  split
  · rename_i h
    obtain ⟨h1, h2, h3, h4, h5, h6⟩ := h
    have hR := rightP h1
    have := hR.ep0; have := hR.ep1
    exact ⟨⟨by show (1 : Int) ≤ 1; omega, by show (1 : Int) ≤ 6; omega⟩, fun _ => ⟨h1, by show p.ep < _; omega, h3, h4⟩, ⟨hR.ep0, hR.ep1⟩, h4, by simp, fun _ => ⟨0, by omega, by show (0 : Int) < u; omega, rfl⟩, fun h => absurd (show (1 : Int) = 2 from h) (by decide), fun h => absurd (show (1 : Int) = 3 from h) (by decide), fun s e => by cases e⟩
  · exact ⟨⟨by show (1 : Int) ≤ 6; omega, by show (6 : Int) ≤ 6; omega⟩, fun h => absurd rfl h, ⟨by show (0 : Int) ≤ 0; omega, by show (0 : Int) ≤ _; omega⟩, by show (0 : Int) ≤ 7; omega, by simp [zAdv], fun h => absurd (show (6 : Int) = 1 from h) (by decide), fun h => absurd (show (6 : Int) = 2 from h) (by decide), fun h => absurd (show (6 : Int) = 3 from h) (by decide), fun s e => by cases e⟩
end Go.Proofs.YtbmajijnjkicmaaDoor



namespace Go.Proofs.YtbmajijnjkicmaaDoor.RX
set_option maxRecDepth 100000
-- tideline/tidelineref11.SameInts: ρ := [.a aa, .n al, .n ac, .p aP, .a ba, .n bl, .n bc, .p bP]
def t_speaks18 : T :=
(.call 9 [.a (.int .i64 (.i 1)), .a (.int .i64 (.i 1))] [] [.i, .a, .n, .n, .p, .i] (.tup [.agg [.int .i64 (.v 0), .sl (.v 1) (.v 2) (.v 3)], .a (.int .i64 (.v 5))]) [(.a 1, .prop 4)]
(.new
(.call 5 [.agg [.int .i64 (.v 0), .sl (.v 1) (.v 2) (.v 3)], .a (.int .i64 (.i 1)), .a (.int .i64 (.i 3))] [(.a 1, .prop 4)] [.n, .p] (.w (.a (.ptr (.v 7) 0))) [(.b (.v 7), .prop 8), (.a 1, .prop 4)]
(.new
(.join [.a, .n, .n, .p, .p]
(.loop [.a, .n, .n, .p, .p] [.a (.b (.v 9) 0), .e (.o2 .nadd (.n 0) (.n 0)), .e (.o2 .nadd (.n 0) (.n 0)), .p [(.b (.v 9), .cells [] 3)], .p [(.b (.v 7), .prop 8)]]
(.br (.o2 .lt (.o1 .ofNat (.v 11)) (.i 9))
(.call 6 [.a (.ptr (.v 7) 0)] [(.b (.v 7), .prop 14)] [.a, .n, .n, .p] (.w (.a (.sl (.v 15) (.v 16) (.v 17)))) [(.a 15, .prop 18), (.b (.v 7), .prop 14)]
(.join [.c]
(.br (.o1 .not (.o2 .eq (.v 5) (.i 0)))
(.again 0 [.e (.o1 .not (.o1 .not (.c true)))])
(.again 0 [.e (.o1 .not (.o1 .not (.o1 .not (.o2 .eq (.o1 .ofNat (.v 16)) (.i 1)))))]))
(.br (.v 19)
(.again 1 [.a (.v 10), .e (.o2 .nadd (.v 11) (.n 0)), .e (.o2 .nadd (.v 12) (.n 0)), .p [(.b (.v 7), .prop 14)], .p [(.a 10, .prop 13)]])
(.need (.o2 .lt (.i 0) (.o1 .ofNat (.v 16)))
(.need (.o1 .isSome (.v 15))
(.read (.load 3 (.tmp 28)) 3 [(28, .w (.a (.eptr 15 (.i 0) 16 4)))] [(.a 15, .prop 18)] [.i] (.w (.a (.int .i64 (.v 20))))
(.new
(.op (.call ⟨.builtin .append, #[.tmp 25, .tmp 30], #[27, 27]⟩) 27 [(25, .w (.a (.sl (.v 10) (.v 11) (.v 12)))), (30, .w (.a (.sl (.b (.v 21) 0) (.n 1) (.n 1))))] [(.a 10, .prop 13), (.b (.v 21), .cells [.int .i64 (.v 20)] 3)] [.a, .n, .n, .p] (.w (.a (.sl (.v 22) (.v 23) (.v 24)))) [(.a 22, .prop 25), (.b (.v 21), .cells [.int .i64 (.v 20)] 3)]
(.read (.load 3 (.tmp 35)) 3 [(35, .w (.a (.eptr 15 (.i 0) 16 1)))] [(.a 15, .prop 18)] [.i] (.w (.a (.int .i64 (.v 26))))
(.read (.load 3 (.tmp 39)) 3 [(39, .w (.a (.eptr 15 (.i 0) 16 4)))] [(.a 15, .prop 18)] [.i] (.w (.a (.int .i64 (.v 27))))
(.read (.load 3 (.tmp 43)) 3 [(43, .w (.a (.eptr 15 (.i 0) 16 5)))] [(.a 15, .prop 18)] [.i] (.w (.a (.int .i64 (.v 28))))
(.read (.load 3 (.tmp 47)) 3 [(47, .w (.a (.eptr 15 (.i 0) 16 6)))] [(.a 15, .prop 18)] [.i] (.w (.a (.int .i64 (.v 29))))
(.call 8 [.a (.ptr (.v 7) 0), .agg [.int .i64 (.v 26), .int .i64 (.i 0), .int .i64 (.i 0), .bool (.c true), .int .i64 (.v 27), .int .i64 (.v 28), .int .i64 (.v 29), .int .i64 (.i 0), .sl .nil (.n 0) (.n 0), .int .i64 (.i 0), .int .i64 (.i 0), .sl .nil (.n 0) (.n 0), .int .i64 (.i 0), .int .i64 (.i 4), .int .i64 (.i 0), .int .i64 (.i 0)]] [(.b (.v 7), .prop 14)] [.p] (.tup []) [(.b (.v 7), .prop 30)]
(.again 0 [.a (.v 22), .e (.o2 .nadd (.v 23) (.n 0)), .e (.o2 .nadd (.v 24) (.n 0)), .p [(.a 22, .prop 25)], .p [(.b (.v 7), .prop 30)]]))))))))))))))
(.again 1 [.a (.v 10), .e (.o2 .nadd (.v 11) (.n 0)), .e (.o2 .nadd (.v 12) (.n 0)), .p [(.b (.v 7), .prop 14)], .p [(.a 10, .prop 13)]])))
(.join [.c]
(.new
(.call 10 [.a (.sl (.v 10) (.v 11) (.v 12)), .a (.sl (.b (.v 15) 0) (.n 5) (.n 5))] [(.a 10, .prop 14), (.b (.v 15), .cells [.int .i64 (.i 4), .int .i64 (.i 6), .int .i64 (.i 7), .int .i64 (.i 4), .int .i64 (.i 9)] 3)] [.c] (.w (.a (.bool (.v 16)))) [(.a 10, .prop 14), (.b (.v 15), .cells [.int .i64 (.i 4), .int .i64 (.i 6), .int .i64 (.i 7), .int .i64 (.i 4), .int .i64 (.i 9)] 3)]
(.br (.v 16)
(.call 7 [.a (.ptr (.v 7) 0)] [(.b (.v 7), .prop 13)] [.i] (.w (.a (.int .i64 (.v 17)))) [(.b (.v 7), .prop 13)]
(.br (.o2 .eq (.v 17) (.i 5))
(.call 11 [.a (.ptr (.v 7) 0)] [(.b (.v 7), .prop 13)] [.i] (.w (.a (.int .i64 (.v 18)))) [(.b (.v 7), .prop 13)]
(.br (.o2 .eq (.v 18) (.i 4))
(.call 12 [.a (.ptr (.v 7) 0)] [(.b (.v 7), .prop 13)] [.i, .a, .n, .n, .p] (.w (.agg [.int .i64 (.v 19), .sl (.v 20) (.v 21) (.v 22)])) [(.a 20, .prop 23), (.b (.v 7), .prop 13)]
(.again 0 [.e (.o1 .not (.o1 .not (.o2 .eq (.v 19) (.i 1))))]))
(.again 0 [.e (.o1 .not (.o1 .not (.c false)))])))
(.again 0 [.e (.o1 .not (.o1 .not (.c false)))])))
(.again 0 [.e (.o1 .not (.o1 .not (.c false)))]))))
(.ret (.w (.a (.bool (.v 15)))) [])))))))
theorem tree_speaks18 : tree Tryd.prog { hv := [(0, [.b (.v 9), .b (.v 7)])], keep := [7, 12, 11, 6, 9, 10, 5, 99999, 13, 99999, 99999, 99999], link := [(99999, 0)], turn := [(8, [0]), (100, [0]), (99999, [0]), (99999, [0]), (99999, [0]), (99999, [0])], outl := true, rdf := true, jn := [((3000018, 19), some { ss := [.c], n := 20, tv := [(18, none), (19, none), (20, none), (21, none), (22, none), (23, none), (24, some (.w (.a (.bool (.v 19)))))], h := [(.a 15, .prop 18), (.b (.v 7), .prop 14), (.a 10, .prop 13), (.a 1, .prop 4), (.b (.v 6), .cells [.int .i64 (.v 0), .sl (.v 1) (.v 2) (.v 3)] 24)], lk := [] }), ((1000000, 10), some { ss := [.a, .n, .n, .p, .p], n := 15, tv := [(13, none), (14, none), (15, none), (16, none), (17, none), (5, none), (18, none), (19, none), (20, none), (21, none), (22, none), (23, none), (24, none), (25, none), (26, none), (27, none), (28, none), (29, none), (30, none), (31, none), (4, some (.w (.a (.sl (.v 10) (.v 11) (.v 12))))), (32, none), (33, none), (34, none), (35, none), (36, none), (37, none), (38, none), (39, none), (40, none), (41, none), (42, none), (43, none), (44, none), (45, none), (46, none), (47, none), (48, none), (49, none), (50, none)], h := [(.b (.v 7), .prop 13), (.a 10, .prop 14), (.a 1, .prop 4), (.b (.v 6), .cells [.int .i64 (.v 0), .sl (.v 1) (.v 2) (.v 3)] 24)], lk := [] }), ((3000051, 15), some { ss := [.c], n := 16, tv := [(51, none), (52, none), (53, none), (54, none), (55, none), (56, none), (57, none), (58, none), (59, none), (60, none), (61, none), (62, none), (63, none), (64, none), (65, none), (66, none), (67, none), (68, none), (69, none), (0, some (.w (.a (.bool (.v 15)))))], h := [(.b (.v 7), .prop 13), (.a 10, .prop 14), (.a 1, .prop 4), (.b (.v 6), .cells [.int .i64 (.v 0), .sl (.v 1) (.v 2) (.v 3)] 24)], lk := [] })] } Tryd.f4 [] [] 0 = t_speaks18 := by kernel_rfl
def t_advAsks : T :=
(.new
(.call 4 [] [] [.c] (.w (.a (.bool (.v 12)))) []
(.br (.o1 .not (.v 12))
(.ret (.w (.a (.bool (.c false)))) [(.a 1, .prop 4), (.a 7, .prop 10)])
(.join [.c]
(.br (.o2 .lt (.i 100) (.o1 .ofNat (.v 8)))
(.again 0 [.e (.o1 .not (.o1 .not (.c true)))])
(.again 0 [.e (.o1 .not (.o1 .not (.o2 .lt (.i 12) (.o1 .ofNat (.v 2)))))]))
(.br (.v 13)
(.ret (.w (.a (.bool (.c true)))) [(.a 1, .prop 4), (.a 7, .prop 10)])
(.loop [.c, .i] [.e (.o1 .not (.o1 .not (.c false))), .e (.o1 .neg (.o1 .neg (.i 0)))]
(.br (.o2 .lt (.v 15) (.o1 .ofNat (.v 2)))
(.need (.o2 .le (.i 0) (.v 15))
(.need (.o1 .isSome (.v 1))
(.read (.load 27 (.tmp 36)) 27 [(36, .w (.a (.eptr 1 (.v 15) 1 0)))] [(.a 1, .prop 4)] [.a, .n, .n] (.w (.a (.sl (.v 16) (.v 17) (.v 18))))
(.br (.o2 .lt (.i 12) (.o1 .ofNat (.v 17)))
(.ret (.w (.a (.bool (.c true)))) [(.a 1, .prop 4), (.a 7, .prop 10)])
(.need (.o1 (.inr .i64) (.o2 .add (.v 15) (.i 1)))
(.again 0 [.e (.o1 .not (.o1 .not (.v 14))), .e (.o1 .neg (.o1 .neg (.o2 .add (.v 15) (.i 1))))]))))))
(.call 5 [.agg [.int .i64 (.v 0), .sl (.v 1) (.v 2) (.v 3)], .a (.int .i64 (.v 5)), .a (.int .i64 (.v 6))] [(.a 1, .prop 4)] [.n, .p] (.w (.a (.ptr (.v 16) 0))) [(.b (.v 16), .prop 17), (.a 1, .prop 4)]
(.loop [.c, .i, .p] [.e (.o1 .not (.o1 .not (.v 14))), .e (.o1 .neg (.o1 .neg (.i 0))), .p [(.b (.v 16), .prop 17)]]
(.br (.o2 .lt (.v 19) (.o1 .ofNat (.v 8)))
(.need (.o2 .le (.i 0) (.v 19))
(.need (.o1 .isSome (.v 7))
(.read (.load 39 (.tmp 50)) 39 [(50, .w (.a (.eptr 7 (.v 19) 19 0)))] [(.a 7, .prop 10)] [.c, .c, .i, .i, .i, .i, .c, .i, .i, .i, .i, .a, .n, .n, .i, .i, .a, .n, .n, .i, .i, .i, .i] (.w (.agg [.bool (.v 21), .bool (.v 22), .int .i64 (.v 23), .int .i64 (.v 24), .int .i64 (.v 25), .int .i64 (.v 26), .bool (.v 27), .int .i64 (.v 28), .int .i64 (.v 29), .int .i64 (.v 30), .int .i64 (.v 31), .sl (.v 32) (.v 33) (.v 34), .int .i64 (.v 35), .int .i64 (.v 36), .sl (.v 37) (.v 38) (.v 39), .int .i64 (.v 40), .int .i64 (.v 41), .int .i64 (.v 42), .int .i64 (.v 43)]))
(.new
(.call 6 [.a (.ptr (.v 16) 0)] [(.b (.v 16), .prop 20)] [.a, .n, .n, .p] (.w (.a (.sl (.v 45) (.v 46) (.v 47)))) [(.a 45, .prop 48), (.b (.v 16), .prop 20)]
(.call 7 [.a (.ptr (.v 16) 0)] [(.b (.v 16), .prop 20)] [.i] (.w (.a (.int .i64 (.v 49)))) [(.b (.v 16), .prop 20)]
(.join [.c]
(.br (.o2 .eq (.v 49) (.i 5))
(.again 0 [.e (.o1 .not (.o1 .not (.o1 .not (.o2 .beq (.c true) (.o2 .eq (.o1 .ofNat (.v 46)) (.i 0))))))])
(.again 0 [.e (.o1 .not (.o1 .not (.o1 .not (.o2 .beq (.o2 .eq (.v 49) (.i 6)) (.o2 .eq (.o1 .ofNat (.v 46)) (.i 0))))))]))
(.br (.v 50)
(.ret (.w (.a (.bool (.c false)))) [(.a 1, .prop 4), (.a 7, .prop 10)])
(.loop [.c, .i] [.e (.o1 .not (.o1 .not (.v 18))), .e (.o1 .neg (.o1 .neg (.i 0)))]
(.br (.o2 .lt (.v 52) (.o1 .ofNat (.v 46)))
(.need (.o2 .le (.i 0) (.v 52))
(.need (.o1 .isSome (.v 45))
(.read (.load 37 (.tmp 71)) 37 [(71, .w (.a (.eptr 45 (.v 52) 16 0)))] [(.a 45, .prop 48)] [.i, .i, .i, .c, .i, .i, .i, .i, .a, .n, .n, .i, .i, .a, .n, .n, .i, .i, .i, .i] (.w (.agg [.int .i64 (.v 53), .int .i64 (.v 54), .int .i64 (.v 55), .bool (.v 56), .int .i64 (.v 57), .int .i64 (.v 58), .int .i64 (.v 59), .int .i64 (.v 60), .sl (.v 61) (.v 62) (.v 63), .int .i64 (.v 64), .int .i64 (.v 65), .sl (.v 66) (.v 67) (.v 68), .int .i64 (.v 69), .int .i64 (.v 70), .int .i64 (.v 71), .int .i64 (.v 72)]))
(.new
(.join [.c]
(.need (.o1 (.inr .i64) (.o2 .add (.v 0) (.i 1)))
(.br (.o1 .not (.o2 .eq (.v 58) (.o2 .add (.v 0) (.i 1))))
(.again 0 [.e (.o1 .not (.o1 .not (.c true)))])
(.br (.v 56)
(.again 0 [.e (.o1 .not (.o1 .not (.c true)))])
(.br (.o2 .lt (.v 54) (.i 0))
(.again 0 [.e (.o1 .not (.o1 .not (.c true)))])
(.br (.o2 .lt (.i 7) (.v 54))
(.again 0 [.e (.o1 .not (.o1 .not (.c true)))])
(.br (.o2 .lt (.i 0) (.v 52))
(.need (.o1 (.inr .i64) (.o2 .sub (.v 52) (.i 1)))
(.need (.o2 .le (.i 0) (.o2 .sub (.v 52) (.i 1)))
(.need (.o2 .lt (.o2 .sub (.v 52) (.i 1)) (.o1 .ofNat (.v 46)))
(.read (.load 3 (.tmp 101)) 3 [(101, .w (.a (.eptr 45 (.o2 .sub (.v 52) (.i 1)) 16 1)))] [(.a 45, .prop 48)] [.i] (.w (.a (.int .i64 (.v 74))))
(.br (.o2 .le (.v 54) (.v 74))
(.again 0 [.e (.o1 .not (.o1 .not (.c true)))])
(.again 0 [.e (.o1 .not (.o1 .not (.o1 .not (.o2 .beq (.o2 .eq (.v 57) (.i 9)) (.o2 .eq (.v 54) (.i 7))))))]))))))
(.again 0 [.e (.o1 .not (.o1 .not (.o1 .not (.o2 .beq (.o2 .eq (.v 57) (.i 9)) (.o2 .eq (.v 54) (.i 7))))))])))))))
(.br (.v 74)
(.ret (.w (.a (.bool (.c false)))) [(.a 1, .prop 4), (.a 7, .prop 10)])
(.need (.o1 (.inr .i64) (.o2 .add (.v 52) (.i 1)))
(.again 0 [.e (.o1 .not (.o1 .not (.v 51))), .e (.o1 .neg (.o1 .neg (.o2 .add (.v 52) (.i 1))))]))))))))
(.new
(.join [.c]
(.br (.v 22)
(.again 0 [.e (.o1 .not (.o1 .not (.o2 .lt (.i 0) (.o1 .ofNat (.v 46)))))])
(.again 0 [.e (.o1 .not (.o1 .not (.c false)))]))
(.join [.i, .c, .i, .i, .i]
(.br (.v 54)
(.need (.o1 .not (.o2 .eq (.o1 .ofNat (.v 46)) (.i 0)))
(.need (.o2 .le (.i 0) (.o2 .rem (.o2 (.bit .and .i64) (.v 23) (.i 65535)) (.o1 .ofNat (.v 46))))
(.need (.o2 .lt (.o2 .rem (.o2 (.bit .and .i64) (.v 23) (.i 65535)) (.o1 .ofNat (.v 46))) (.o1 .ofNat (.v 46)))
(.need (.o1 .isSome (.v 45))
(.read (.load 37 (.tmp 134)) 37 [(134, .w (.a (.eptr 45 (.o2 .rem (.o2 (.bit .and .i64) (.v 23) (.i 65535)) (.o1 .ofNat (.v 46))) 16 0)))] [(.a 45, .prop 48)] [.i, .i, .i, .c, .i, .i, .i, .i, .a, .n, .n, .i, .i, .a, .n, .n, .i, .i, .i, .i] (.w (.agg [.int .i64 (.v 55), .int .i64 (.v 56), .int .i64 (.v 57), .bool (.v 58), .int .i64 (.v 59), .int .i64 (.v 60), .int .i64 (.v 61), .int .i64 (.v 62), .sl (.v 63) (.v 64) (.v 65), .int .i64 (.v 66), .int .i64 (.v 67), .sl (.v 68) (.v 69) (.v 70), .int .i64 (.v 71), .int .i64 (.v 72), .int .i64 (.v 73), .int .i64 (.v 74)]))
(.new
(.again 0 [.e (.o1 .neg (.o1 .neg (.v 56))), .e (.o1 .not (.o1 .not (.c true))), .e (.o1 .neg (.o1 .neg (.v 59))), .e (.o1 .neg (.o1 .neg (.v 60))), .e (.o1 .neg (.o1 .neg (.v 61)))])))))))
(.again 0 [.e (.o1 .neg (.o1 .neg (.v 24))), .e (.o1 .not (.o1 .not (.v 27))), .e (.o1 .neg (.o1 .neg (.v 28))), .e (.o1 .neg (.o1 .neg (.v 29))), .e (.o1 .neg (.o1 .neg (.v 30)))]))
(.br (.o2 .lt (.i 1000) (.o1 .ofNat (.v 38)))
(.ret (.w (.a (.bool (.c true)))) [(.a 1, .prop 4), (.a 7, .prop 10)])
(.call 8 [.a (.ptr (.v 16) 0), .agg [.int .i64 (.v 55), .int .i64 (.v 25), .int .i64 (.v 26), .bool (.v 56), .int .i64 (.v 57), .int .i64 (.v 58), .int .i64 (.v 59), .int .i64 (.v 31), .sl (.v 32) (.v 33) (.v 34), .int .i64 (.v 35), .int .i64 (.v 36), .sl (.v 37) (.v 38) (.v 39), .int .i64 (.v 40), .int .i64 (.v 41), .int .i64 (.v 42), .int .i64 (.v 43)]] [(.b (.v 16), .prop 20), (.a 7, .prop 10)] [.p] (.tup []) [(.b (.v 16), .prop 60), (.a 7, .prop 10)]
(.join [.c]
(.call 7 [.a (.ptr (.v 16) 0)] [(.b (.v 16), .prop 60)] [.i] (.w (.a (.int .i64 (.v 61)))) [(.b (.v 16), .prop 60)]
(.br (.o2 .lt (.v 61) (.v 49))
(.again 0 [.e (.o1 .not (.o1 .not (.c true)))])
(.br (.o2 .eq (.o1 .ofNat (.v 46)) (.i 0))
(.call 7 [.a (.ptr (.v 16) 0)] [(.b (.v 16), .prop 60)] [.i] (.w (.a (.int .i64 (.v 62)))) [(.b (.v 16), .prop 60)]
(.again 0 [.e (.o1 .not (.o1 .not (.o1 .not (.o2 .eq (.v 62) (.v 49)))))]))
(.again 0 [.e (.o1 .not (.o1 .not (.c false)))]))))
(.br (.v 61)
(.ret (.w (.a (.bool (.c false)))) [(.a 1, .prop 4), (.a 7, .prop 10)])
(.need (.o1 (.inr .i64) (.o2 .add (.v 19) (.i 1)))
(.again 1 [.e (.o1 .not (.o1 .not (.v 51))), .e (.o1 .neg (.o1 .neg (.o2 .add (.v 19) (.i 1)))), .p [(.b (.v 16), .prop 60)]])))))))))))))))))))
(.ret (.w (.a (.bool (.c true)))) [(.a 1, .prop 4), (.a 7, .prop 10)])))))))))))
theorem tree_advAsks : tree Tryd.prog { hv := [(2, [.b (.v 16)])], keep := [7, 12, 11, 6, 9, 10, 5, 99999, 13, 99999, 99999, 99999], link := [(99999, 0)], turn := [(8, [0]), (100, [0]), (99999, [0]), (99999, [0]), (99999, [0]), (99999, [0])], outl := true, rdf := true, jn := [((3000022, 13), some { ss := [.c], n := 14, tv := [(22, none), (23, none), (24, none), (25, none), (26, none), (27, none), (28, none), (29, none), (30, some (.w (.a (.bool (.v 13)))))], h := [(.b (.v 11), .cells [.int .i64 (.v 0), .sl (.v 1) (.v 2) (.v 3)] 24), (.a 1, .prop 4), (.a 7, .prop 10)], lk := [] }), ((3000056, 50), some { ss := [.c], n := 51, tv := [(56, none), (57, none), (58, none), (59, none), (60, none), (61, none), (62, none), (63, none), (64, none), (65, some (.w (.a (.bool (.v 50)))))], h := [(.b (.v 16), .prop 20), (.a 45, .prop 48), (.b (.v 44), .cells [.bool (.v 21), .bool (.v 22), .int .i64 (.v 23), .int .i64 (.v 24), .int .i64 (.v 25), .int .i64 (.v 26), .bool (.v 27), .int .i64 (.v 28), .int .i64 (.v 29), .int .i64 (.v 30), .int .i64 (.v 31), .sl (.v 32) (.v 33) (.v 34), .int .i64 (.v 35), .int .i64 (.v 36), .sl (.v 37) (.v 38) (.v 39), .int .i64 (.v 40), .int .i64 (.v 41), .int .i64 (.v 42), .int .i64 (.v 43)] 39), (.a 1, .prop 4), (.b (.v 11), .cells [.int .i64 (.v 0), .sl (.v 1) (.v 2) (.v 3)] 24), (.a 7, .prop 10)], lk := [] }), ((73, 74), some { ss := [.c], n := 75, tv := [(73, none), (74, none), (75, none), (76, none), (77, none), (78, none), (79, none), (80, none), (81, none), (82, none), (83, none), (84, none), (85, none), (86, none), (87, none), (88, none), (89, none), (90, none), (91, none), (92, none), (93, none), (94, none), (95, none), (96, none), (97, none), (98, none), (99, none), (100, none), (101, none), (102, none), (103, none), (104, none), (105, none), (106, none), (107, none), (108, none), (109, none), (110, none), (111, none), (112, none), (113, none), (114, none), (115, none), (116, some (.w (.a (.bool (.v 74)))))], h := [(.b (.v 73), .cells [.int .i64 (.v 53), .int .i64 (.v 54), .int .i64 (.v 55), .bool (.v 56), .int .i64 (.v 57), .int .i64 (.v 58), .int .i64 (.v 59), .int .i64 (.v 60), .sl (.v 61) (.v 62) (.v 63), .int .i64 (.v 64), .int .i64 (.v 65), .sl (.v 66) (.v 67) (.v 68), .int .i64 (.v 69), .int .i64 (.v 70), .int .i64 (.v 71), .int .i64 (.v 72)] 37), (.b (.v 16), .prop 20), (.a 45, .prop 48), (.b (.v 44), .cells [.bool (.v 21), .bool (.v 22), .int .i64 (.v 23), .int .i64 (.v 24), .int .i64 (.v 25), .int .i64 (.v 26), .bool (.v 27), .int .i64 (.v 28), .int .i64 (.v 29), .int .i64 (.v 30), .int .i64 (.v 31), .sl (.v 32) (.v 33) (.v 34), .int .i64 (.v 35), .int .i64 (.v 36), .sl (.v 37) (.v 38) (.v 39), .int .i64 (.v 40), .int .i64 (.v 41), .int .i64 (.v 42), .int .i64 (.v 43)] 39), (.a 1, .prop 4), (.b (.v 11), .cells [.int .i64 (.v 0), .sl (.v 1) (.v 2) (.v 3)] 24), (.a 7, .prop 10)], lk := [] }), ((3000120, 54), some { ss := [.c], n := 55, tv := [(120, none), (121, none), (122, none), (123, none), (124, none), (125, none), (126, some (.w (.a (.bool (.v 54)))))], h := [(.b (.v 53), .cells [.int .i64 (.v 24), .int .i64 (.v 25), .int .i64 (.v 26), .bool (.v 27), .int .i64 (.v 28), .int .i64 (.v 29), .int .i64 (.v 30), .int .i64 (.v 31), .sl (.v 32) (.v 33) (.v 34), .int .i64 (.v 35), .int .i64 (.v 36), .sl (.v 37) (.v 38) (.v 39), .int .i64 (.v 40), .int .i64 (.v 41), .int .i64 (.v 42), .int .i64 (.v 43)] 37), (.b (.v 16), .prop 20), (.a 45, .prop 48), (.b (.v 44), .cells [.bool (.v 21), .bool (.v 22), .int .i64 (.v 23), .int .i64 (.v 24), .int .i64 (.v 25), .int .i64 (.v 26), .bool (.v 27), .int .i64 (.v 28), .int .i64 (.v 29), .int .i64 (.v 30), .int .i64 (.v 31), .sl (.v 32) (.v 33) (.v 34), .int .i64 (.v 35), .int .i64 (.v 36), .sl (.v 37) (.v 38) (.v 39), .int .i64 (.v 40), .int .i64 (.v 41), .int .i64 (.v 42), .int .i64 (.v 43)] 39), (.a 1, .prop 4), (.b (.v 11), .cells [.int .i64 (.v 0), .sl (.v 1) (.v 2) (.v 3)] 24), (.a 7, .prop 10)], lk := [] }), ((2000126, 55), some { ss := [.i, .c, .i, .i, .i], n := 60, tv := [(127, none), (128, none), (129, none), (130, none), (131, none), (132, none), (133, none), (134, none), (135, none), (19, none), (136, none), (137, none), (138, none), (139, none), (140, none), (141, none), (142, none), (143, none), (144, none), (145, none), (146, none), (147, none), (148, none)], h := [(.b (.v 53), .cells [.int .i64 (.v 55), .int .i64 (.v 25), .int .i64 (.v 26), .bool (.v 56), .int .i64 (.v 57), .int .i64 (.v 58), .int .i64 (.v 59), .int .i64 (.v 31), .sl (.v 32) (.v 33) (.v 34), .int .i64 (.v 35), .int .i64 (.v 36), .sl (.v 37) (.v 38) (.v 39), .int .i64 (.v 40), .int .i64 (.v 41), .int .i64 (.v 42), .int .i64 (.v 43)] 37), (.b (.v 16), .prop 20), (.a 45, .prop 48), (.b (.v 44), .cells [.bool (.v 21), .bool (.v 22), .int .i64 (.v 23), .int .i64 (.v 24), .int .i64 (.v 25), .int .i64 (.v 26), .bool (.v 27), .int .i64 (.v 28), .int .i64 (.v 29), .int .i64 (.v 30), .int .i64 (.v 31), .sl (.v 32) (.v 33) (.v 34), .int .i64 (.v 35), .int .i64 (.v 36), .sl (.v 37) (.v 38) (.v 39), .int .i64 (.v 40), .int .i64 (.v 41), .int .i64 (.v 42), .int .i64 (.v 43)] 39), (.a 1, .prop 4), (.b (.v 11), .cells [.int .i64 (.v 0), .sl (.v 1) (.v 2) (.v 3)] 24), (.a 7, .prop 10)], lk := [] }), ((3000156, 61), some { ss := [.c], n := 62, tv := [(156, none), (157, none), (158, none), (159, none), (160, none), (161, none), (162, none), (163, none), (164, none), (165, none), (166, none), (167, none), (168, none), (169, none), (170, some (.w (.a (.bool (.v 61)))))], h := [(.b (.v 16), .prop 60), (.a 7, .prop 10), (.b (.v 53), .cells [.int .i64 (.v 55), .int .i64 (.v 25), .int .i64 (.v 26), .bool (.v 56), .int .i64 (.v 57), .int .i64 (.v 58), .int .i64 (.v 59), .int .i64 (.v 31), .sl (.v 32) (.v 33) (.v 34), .int .i64 (.v 35), .int .i64 (.v 36), .sl (.v 37) (.v 38) (.v 39), .int .i64 (.v 40), .int .i64 (.v 41), .int .i64 (.v 42), .int .i64 (.v 43)] 37), (.a 45, .prop 48), (.b (.v 44), .cells [.bool (.v 21), .bool (.v 22), .int .i64 (.v 23), .int .i64 (.v 24), .int .i64 (.v 25), .int .i64 (.v 26), .bool (.v 27), .int .i64 (.v 28), .int .i64 (.v 29), .int .i64 (.v 30), .int .i64 (.v 31), .sl (.v 32) (.v 33) (.v 34), .int .i64 (.v 35), .int .i64 (.v 36), .sl (.v 37) (.v 38) (.v 39), .int .i64 (.v 40), .int .i64 (.v 41), .int .i64 (.v 42), .int .i64 (.v 43)] 39), (.a 1, .prop 4), (.b (.v 11), .cells [.int .i64 (.v 0), .sl (.v 1) (.v 2) (.v 3)] 24)], lk := [] })] } Tryd.f3 [.agg [.int .i64 (.v 0), .sl (.v 1) (.v 2) (.v 3)], .a (.int .i64 (.v 5)), .a (.int .i64 (.v 6)), .a (.sl (.v 7) (.v 8) (.v 9))] [(.a 1, .prop 4), (.a 7, .prop 10)] 11 = t_advAsks := by kernel_rfl
end Go.Proofs.YtbmajijnjkicmaaDoor.RX



namespace Go.Proofs.YtbmajijnjkicmaaDoor
open Go.Proofs.YtbmajijnjkicmaaDoor RX
set_option maxRecDepth 100000

section
variable (b : Nat) (g : AdvS)
theorem eState_ok : Tri Tryd.prog 7 #[.pointer (some ⟨b, 0, none⟩)] (ARep b g) (fun v => HP.and (v = .int .i64 g.st) (ARep b g)) :=
  Tri.ex fun _ => (aState_ok).weak (fun _ _ h => h) fun _ _ _ ⟨e, H⟩ => ⟨e, _, H⟩
theorem eTail_ok : Tri Tryd.prog 11 #[.pointer (some ⟨b, 0, none⟩)] (ARep b g) (fun v => HP.and (v = .int .i64 g.tail) (ARep b g)) :=
  Tri.ex fun _ => (aTail_ok).weak (fun _ _ h => h) fun _ _ _ ⟨e, H⟩ => ⟨e, _, H⟩
theorem ePlan_ok : Tri Tryd.prog 12 #[.pointer (some ⟨b, 0, none⟩)] (ARep b g) (fun v => HP.ex fun a => HP.ex fun c => HP.ex fun es : List ChE => HP.and (v = .agg #[.int .i64 g.plan.ep, .slice a es.length c] ∧ es.map (·.l) = g.plan.ch) (HP.sep (Ls kCh a es.length es) (ARep b g))) :=
  Tri.ex fun _ => (aPlan_ok).weak (fun _ _ h => h) fun _ _ _ ⟨a, c, es, e, H⟩ => ⟨a, c, es, e, HP.sep_mono H (fun _ h => h) fun _ h => ⟨_, h⟩⟩
theorem eAsks_ok (hs : ASafe g) : Tri Tryd.prog 6 #[.pointer (some ⟨b, 0, none⟩)] (ARep b g) (fun v => HP.ex fun a => HP.ex fun c => HP.ex fun es : List MsE => HP.and (v = .slice a es.length c ∧ es.map (·.m) = asksL g) (HP.sep (Ls kMs a es.length es) (ARep b g))) :=
  Tri.ex fun _ => (aAsksS_ok hs).weak (fun _ _ h => h) fun _ _ _ ⟨a, c, es, e, H⟩ => ⟨a, c, es, e, HP.sep_mono H (fun _ h => h) fun _ h => ⟨_, h⟩⟩
theorem eTold_ok (m : MS) (ca : Option Addr) (cc : Nat) (va : Option Addr) (vc : Nat) (hs : TSafe g) (hmv : m.val.length ≤ 100000000) (D : HP) :
    Tri Tryd.prog 8 #[.pointer (some ⟨b, 0, none⟩), .agg (m.raw ca cc va vc).vals] (HP.sep (ARep b g) (HP.sep D (m.Vro va))) (fun v => HP.ex fun g' => HP.and (v = .tuple #[] ∧ tolR g m g') (ARep b g')) :=
  (Tri.ex (A := fun r => HP.sep (ARepR b g r) (HP.sep D (m.Vro va))) fun _ => aTold_ok m ca cc va vc hs hmv D).weak (fun _ _ ⟨h1, h2, d, l1, l2, ⟨r, H1⟩, H2⟩ => ⟨r, h1, h2, d, l1, l2, H1, H2⟩) fun _ _ _ h => h
end
theorem ldMs1 {S : HP} {a : Option Addr} {n : Nat} {l : List MsE} (hS : ∀ R h, S.p R h → (Ls kMs a n l).p R h) {i : Int} {k : Nat} (hi : i = k) {x : MsE} (hk : l[k]? = some x) {off : Nat} {v : Int} (hv : (kMs.vals x)[off]? = some (.int .i64 v)) :
    ORead Tryd.prog (loadS 3 (.pointer (a.map fun y => (y.add (i.toNat * 16)).add off))) S (.int .i64 v) := by
  subst hi
  exact ORead.ent (.of hS) (Ls.load1 (K := kMs) (off := off) undIb aggI szI hk hv)
theorem ldMsI {S : HP} {a : Option Addr} {n : Nat} {l : List MsE} (hS : ∀ R h, S.p R h → (Ls kMs a n l).p R h) {i : Int} {k : Nat} (hi : i = k) {x : MsE} (hk : l[k]? = some x) :
    ORead Tryd.prog (loadS 37 (.pointer (a.map fun y => (y.add (i.toNat * 16)).add 0))) S (.agg x.vals) := by
  subst hi
  exact ldMs hS hk
end Go.Proofs.YtbmajijnjkicmaaDoor



namespace Go.Proofs.YtbmajijnjkicmaaDoor
set_option linter.unusedSimpArgs false
set_option linter.unusedVariables false
open Go.Proofs.YtbmajijnjkicmaaDoor RX
set_option maxRecDepth 100000


def p11 : PlP := ⟨0, [[0]]⟩
def q11 : PlP := ⟨1, [[0]]⟩
def spW : List UInt8 := plS q11
theorem first11 : firstS 1 1 = (p11, 0) := by decide
theorem right11 : rightB p11 = true ∧ rightB q11 = true := by decide
def Sp : Nat → AdvS → Prop
  | 0, g => g = ⟨p11, 1, 3, 1, fun _ => false, fun _ => false, [], none, ⟨0, []⟩, 0⟩
  | 1, g => g.st = 2 ∧ g.old = p11 ∧ g.prop = some (startB 1 1 3 spW) ∧ g.tail = 0
  | 2, g => g.st = 2 ∧ g.old = p11 ∧ g.prop = some ⟨1, 1, 3, spW, 2, [], 0⟩ ∧ g.tail = 0
  | 3, g => g.st = 3 ∧ g.old = p11 ∧ g.plan = q11 ∧ g.rep = (fun _ => false) ∧ g.tail = 0
  | 4, g => g.st = 4 ∧ g.old = p11 ∧ g.plan = q11 ∧ g.tail = 4
  | _, g => g.st = 5 ∧ g.plan = q11 ∧ g.tail = 4
def spM (g : AdvS) : Nat → MS
  | 0 => askA g 0 | 1 => askA g 0 | 2 => askA g 0 | 3 => askA g 0 | _ => startA g
def spK : Nat → Int
  | 0 => 4 | 1 => 6 | 2 => 7 | 3 => 4 | _ => 9
theorem filt0 {p : Nat → Bool} (h0 : p 0 = true) (h : ∀ u, 0 < u → u < 7 → p u = false) : (List.range 7).filter p = [0] := by
  have e : List.range 7 = [0, 1, 2, 3, 4, 5, 6] := by decide
  rw [e]
  simp [List.filter, h0, h 1, h 2, h 3, h 4, h 5, h 6]
theorem planned11 (u : Nat) : plannedA q11 u = decide (u = 0) := by
  unfold plannedA q11
  simp only [List.any_cons, List.any_nil, Bool.or_false, List.mem_singleton]
  by_cases h : u = 0
  · subst h; rfl
  · rw [decide_eq_false h, decide_eq_false (by omega)]
theorem Sp.asks {k : Nat} {g : AdvS} (h : Sp k g) : (k < 5 → asksL g = [spM g k] ∧ (spM g k).kind = spK k) ∧ (5 ≤ k → asksL g = []) := by
  have one : g.st ≠ 4 → askedA g 0 = true → (∀ u, 0 < u → u < 7 → askedA g u = false) → asksL g = [askA g 0] := fun h4 h0 h1 => by
    unfold asksL; rw [if_neg h4, filt0 h0 h1]; rfl
  match k, h with
  | 0, h =>
    subst h
    refine ⟨fun _ => ⟨one (by decide) ?_ fun u h0 h7 => ?_, ?_⟩, by omega⟩
    · rw [asked1 rfl]; rfl
    · rw [asked1 rfl, decide_eq_false (show ¬ ((u : Int) < 1) by omega)]; rfl
    · show (askA _ 0).kind = 4; unfold askA; rw [if_neg (by decide)]
  | 1, ⟨e1, e2, e3, _⟩ =>
    refine ⟨fun _ => ⟨one (by omega) ?_ fun u h0 h7 => ?_, ?_⟩, by omega⟩
    · rw [asked2 e1 e3]; rfl
    · rw [asked2 e1 e3]; unfold askedB
      rw [decide_eq_false (show ¬ (((startB 1 1 3 spW).phase = 1 ∨ (startB 1 1 3 spW).phase = 2) ∧ 0 ≤ (u : Int) ∧ (u : Int) < (startB 1 1 3 spW).acc) from fun h => by
        have : (startB 1 1 3 spW).acc = 1 := rfl
        omega)]; rfl
    · show (askA g 0).kind = 6
      unfold askA; rw [if_pos e1, e3]; rfl
  | 2, ⟨e1, e2, e3, _⟩ =>
    refine ⟨fun _ => ⟨one (by omega) ?_ fun u h0 h7 => ?_, ?_⟩, by omega⟩
    · rw [asked2 e1 e3]; rfl
    · rw [asked2 e1 e3]; unfold askedB
      rw [decide_eq_false (fun h => by have := h.2.2; dsimp only at this; omega)]; rfl
    · show (askA g 0).kind = 7
      unfold askA; rw [if_pos e1, e3]; rfl
  | 3, ⟨e1, e2, e3, e4, _⟩ =>
    refine ⟨fun _ => ⟨one (by omega) ?_ fun u h0 h7 => ?_, ?_⟩, by omega⟩
    · rw [asked3 e1, e3, e4, planned11]; rfl
    · rw [asked3 e1, e3, e4, planned11, decide_eq_false (by omega)]; rfl
    · show (askA g 0).kind = 4
      unfold askA; rw [if_neg (by omega)]
  | 4, ⟨e1, e2, e3, _⟩ => exact ⟨fun _ => ⟨by unfold asksL; rw [if_pos e1]; rfl, rfl⟩, by omega⟩
  | k + 5, ⟨e1, _⟩ => exact ⟨by omega, fun _ => (asksL_nil (by omega)).2 fun u _ => asked0 (by omega) (by omega) (by omega) u⟩
def spR (x : MS) : MS := ⟨x.to, 0, 0, true, x.kind, x.ep, x.at', zC, 0, 0, [], 0, 4, 0, 0⟩
theorem tol_now {g : AdvS} {x : MS} (h : asksL g = [x]) : nowB g (spR x) = true := by
  unfold nowB; rw [h]
  simp [nowP, spR]
theorem Sp.step {k : Nat} {g g' : AdvS} (h : Sp k g) (hk : k < 5) (ht : tolR g (spR (spM g k)) g') : Sp (k + 1) g' := by
  have hn := tol_now (h.asks.1 hk).1
  unfold tolR at ht
  rw [if_pos ⟨rfl, hn⟩] at ht
  obtain ⟨t1, t2, t3, t4, _⟩ := ht
  match k, h, hk with
  | 0, h, _ =>
    subst h
    obtain rfl := t1 rfl
    have hto : (spR (spM ⟨p11, 1, 3, 1, fun _ => false, fun _ => false, [], none, ⟨0, []⟩, 0⟩ 0)).fr.toNat = 0 := rfl
    have her : (spR (spM ⟨p11, 1, 3, 1, fun _ => false, fun _ => false, [], none, ⟨0, []⟩, 0⟩ 0)).err = 0 := rfl
    rw [hto, her]
    unfold sealA
    rw [if_pos ((asksL_nil (by decide)).2 fun u hu => ?_)]
    · refine ⟨rfl, rfl, ?_, rfl⟩
      have hth : thereL ({ (⟨p11, 1, 3, 1, fun _ => false, fun _ => false, [], none, ⟨0, []⟩, 0⟩ : AdvS) with rep := put7 (fun _ => false) 0 true, there := put7 (fun _ => false) 0 (decide ((0 : Int) = 0)) }) = [0] := by
        unfold thereL
        rw [filt0 (by rfl) (fun u h0 _ => by show put7 (fun _ => false) 0 _ u = false; unfold put7; rw [if_neg (by omega)])]
        rfl
      have hnx : nextP p11 [0] = (q11, 0) := by decide
      have how : ownA ({ (⟨p11, 1, 3, 1, fun _ => false, fun _ => false, [], none, ⟨0, []⟩, 0⟩ : AdvS) with rep := put7 (fun _ => false) 0 true, there := put7 (fun _ => false) 0 (decide ((0 : Int) = 0)) }) = spW := by
        unfold ownA
        rw [hth, show nextP _ [0] = (q11, 0) from hnx, if_pos rfl]; rfl
      show some (startB 1 1 3 (ownA _)) = _
      rw [how]
    · rw [asked1 rfl]
      show (decide ((u : Int) < 1) && !put7 (fun _ => false) 0 true u) = false
      unfold put7
      by_cases h0 : u = 0
      · subst h0; rfl
      · rw [decide_eq_false (by omega)]; rfl
  | 1, ⟨e1, e2, e3, e4⟩, _ =>
    obtain ⟨s, s', hp, hst, rfl⟩ := t2 e1
    rw [e3] at hp; cases hp
    have hfr : (spR (spM g 1)).fr = 0 := by show (askA g 0).to = 0; rw [askA_to]; rfl
    have hkd : (spR (spM g 1)).kind = 6 := by show (askA g 0).kind = 6; unfold askA; rw [if_pos e1, e3]; rfl
    unfold stepB at hst
    rw [if_pos hkd, hfr] at hst
    unfold PromB at hst
    rw [if_pos ⟨rfl, by rfl⟩, if_pos (by rfl)] at hst
    obtain ⟨val, hch, rfl⟩ := hst
    have hv : val = spW := by
      rcases hch with ⟨_, rfl⟩ | ⟨k, x, hx, hc, _⟩
      · rfl
      · exfalso
        simp only [takeB, promA, spR, startB] at hx
        simp [ansF] at hx
        obtain ⟨_, rfl⟩ := hx
        exact hc.2 ⟨rfl, rfl⟩
    subst hv
    exact ⟨e1, e2, rfl, e4⟩
  | 2, ⟨e1, e2, e3, e4⟩, _ =>
    obtain ⟨s, s', hp, hst, rfl⟩ := t2 e1
    rw [e3] at hp; cases hp
    have hfr : (spR (spM g 2)).fr = 0 := by show (askA g 0).to = 0; rw [askA_to]; rfl
    have hkd : (spR (spM g 2)).kind = 7 := by show (askA g 0).kind = 7; unfold askA; rw [if_pos e1, e3]; rfl
    unfold stepB at hst
    rw [if_neg (by rw [hkd]; decide), hfr] at hst
    have hs3 : s' = ⟨1, 1, 3, spW, 3, [(0, ⟨true, 0, 0, []⟩)], 1⟩ := by rw [hst]; rfl
    have hdec : decP spW = (q11, 0) := decP_plS right11.2
    subst hs3
    unfold outA
    rw [if_neg (by decide), if_pos rfl]
    rw [show (⟨1, 1, 3, spW, 3, [(0, ⟨true, 0, 0, []⟩)], 1⟩ : BSt).val = spW from rfl, hdec, if_neg (by rw [e2]; decide)]
    exact ⟨rfl, e2, rfl, rfl, e4⟩
  | 3, ⟨e1, e2, e3, e4, e5⟩, _ =>
    obtain rfl := t3 e1
    have hto : (spR (spM g 3)).fr.toNat = 0 := by show (askA g 0).to.toNat = 0; rw [askA_to]; rfl
    have herr : (spR (spM g 3)).err = 0 := rfl
    rw [hto]
    unfold tellA
    rw [if_pos herr]
    rw [if_pos ((asksL_nil (by show g.st ≠ 4; omega)).2 fun u hu => ?_)]
    · exact ⟨rfl, e2, e3, by show max (max g.tail 4) 0 = 4; rw [e5]; rfl⟩
    · rw [asked3 (by exact e1)]
      show (!put7 g.rep 0 true u && plannedA g.plan u) = false
      rw [e3, planned11]
      unfold put7
      by_cases h0 : u = 0
      · subst h0; rfl
      · rw [decide_eq_false h0, Bool.and_false]
  | 4, ⟨e1, e2, e3, e4⟩, _ =>
    obtain rfl := t4 e1
    exact ⟨rfl, e3, e4⟩
def spL (k : Nat) : List Int := (List.range k).map spK
set_option maxHeartbeats 2000000 in
theorem speaks18_ok : Tri Tryd.prog 4 #[] HP.tt (fun v => HP.and (v = .bool true) HP.tt) := by
  refine tri_of_tree (ρ := []) mixed Tryd.func4 tree_speaks18 ?_
  unfold t_speaks18
  simp only [T.den, E.prop, E.den, RX.look, F1.app, F2.app, Uni.int_i, Uni.nat_n, Uni.bool_c, Uni.str_s, Uni.adr_a, Uni.val_v, Uni.hp_p, hden, cden, V.den, W.den, A.den, BR.den, SA.den, FV.den, capV, exs, exP, allP, Cur.app, List.map_cons, List.map_nil, List.cons_append, List.nil_append, List.drop_succ_cons, List.drop_zero, List.length_cons, List.length_nil, Nat.zero_add, Nat.reduceAdd, Int.neg_neg, Bool.not_not, List.append_nil, Nat.add_zero, List.getElem?_cons_zero, List.getElem?_cons_succ, Decidable.not_not, semW_eq, semW_load, semW_append, ne_eq, Nat.reduceEqDiff, not_false_eq_true]
  refine (first_ok 1 1).weak (fun _ _ h => h) ?_
  rw [first11]
  rintro v R h ⟨a, c, es, ⟨rfl, he, hb⟩, H⟩
  have hel : es.length = 1 := by
    have := congrArg List.length he
    rw [List.length_map] at this; exact this
  refine ⟨p11.ep, a, es.length, c, Ls kCh a es.length es, 0, rfl, fun x => ?_, H⟩
  clear H
  refine (aBegin_ok (Ls kCh a es.length es) p11.ep a es.length c es 1 3 (fun _ _ h => h) (fun x hx => by have := hb x hx; omega) (by omega)).weak (fun _ _ h => h) ?_
  rw [show (⟨p11.ep, es.map (·.l)⟩ : PlP) = p11 by rw [he]]
  rintro v R h ⟨b, rfl, H⟩
  have hg0 : Sp 0 (beginA p11 1 3) := by
    show _ = _
    unfold beginA
    rw [if_pos ⟨right11.1, by decide, by decide, by decide, by decide, by decide⟩]
  have hA0 := AI.begin p11 1 3
  generalize beginA p11 1 3 = g0 at *
  refine ⟨b, ARep b g0, rfl, fun y => ?_, H⟩
  clear H
  refine ⟨fun a n c P Q => ∃ g, Sp 5 g ∧ P = ARep b g ∧ n = 5 ∧ Q = OwI a 5 c (spL 5), ?_, ?_⟩
  · refine ⟨fun a n c Q P => ∃ (k : Nat) (g : AdvS), k ≤ 5 ∧ Sp k g ∧ AI k g ∧ P = ARep b g ∧ n = k ∧ HP.ent Q (OwI a k c (spL k)) ∧ (0 < k → Q = OwI a k c (spL k)), fun _ n _ _ _ => 9 - n,
      ⟨0, g0, by omega, hg0, hA0, rfl, rfl, .of fun R h H => ⟨rfl, .inr ⟨y, #[], rfl, H, Nat.le_refl _, by unfold maxLen; omega, rfl, rfl⟩⟩, fun h => absurd h (by decide)⟩, ?_⟩
    rintro a k c Q _ ⟨_, g, hk, hS, hA, rfl, rfl, hQ, hQ2⟩
    refine ⟨fun _ => ?_, fun hge => by omega⟩
    refine (eAsks_ok b g hA.safe.s).weak (fun _ _ h => h) ?_
    rintro v R h ⟨a1, c1, es1, ⟨rfl, he1⟩, H⟩
    have hsm : es1.length ≠ 0 → a1.isSome = true := fun hn => RoC.some (HP.sep_left H).2.1 (by omega)
    have hl1 : es1.length = (asksL g).length := by rw [← he1, List.length_map]
    refine ⟨a1, es1.length, c1, Ls kMs a1 es1.length es1, rfl, ⟨fun q => q = !decide ((es1.length : Int) = 1), ⟨fun h => absurd rfl h, fun _ => rfl⟩, ?_⟩, H⟩
    clear H
    rintro _ rfl
    refine ⟨fun hq => ?_, fun hq => ?_⟩
    · have hk5 : k = 5 := Classical.byContradiction fun hn => by
        have := (hS.asks.1 (by omega)).1
        rw [this] at hl1
        rw [hl1] at hq
        simp at hq
      subst hk5
      exact ⟨g, hS, rfl, rfl, hQ2 (by decide)⟩
    · have hk5 : k < 5 := Classical.byContradiction fun hn => by
        have := hS.asks.2 (by omega)
        rw [this] at hl1
        rw [hl1] at hq
        simp at hq
      obtain ⟨ha, hkind⟩ := hS.asks.1 hk5
      rw [ha] at he1
      obtain ⟨e, rfl⟩ : ∃ e, es1 = [e] := List.length_eq_one_iff.1 (by rw [hl1, ha]; rfl)
      have hem : e.m = spM g k := by simpa using he1
      have hsl : spL (k + 1) = spL k ++ [e.m.kind] := by
        unfold spL
        rw [List.range_succ, List.map_append, hem, hkind]; rfl
      have hS1 : ∀ R h, (Ls kMs a1 [e].length [e]).p R h → (Ls kMs a1 1 [e]).p R h := fun _ _ h => h
      refine ⟨by simp, fun _ => ⟨hsm (by simp), fun _ => ⟨e.m.kind, ldMs1 hS1 (k := 0) rfl rfl rfl, fun z => ?_⟩⟩⟩
      refine (appendI a k c (spL k) (HP.one z (.cells #[.int .i64 e.m.kind] 3 (0, 0))) ⟨z, 0, none⟩ 1 1 [e.m.kind] (one_rd z #[.int .i64 e.m.kind] 3) rfl (by omega)).conseq (K := HP.tt) ((hQ.sep _).trans (.of fun R h H => HP.sep_tt H)) fun v => .of fun R h H => ?_
      obtain ⟨a', c', rfl, H'⟩ := HP.sep_left H
      refine ⟨a', k + 1, c', _, rfl, ⟨e.m.to, ldMs1 hS1 (k := 0) rfl rfl rfl, e.m.kind, ldMs1 hS1 (k := 0) rfl rfl rfl, e.m.ep, ldMs1 hS1 (k := 0) rfl rfl rfl, e.m.at', ldMs1 hS1 (k := 0) rfl rfl rfl, ?_⟩, H'⟩
      refine (eTold_ok b g (spR e.m) none 0 none 0 hA.safe (by simp [spR]) HP.tt).weak (fun R h H => HP.sep_mono (HP.sep_tt H) (fun _ h => h) fun y _ => HP.tt_sep (RoB0 none)) ?_
      rintro v R h ⟨g', ⟨rfl, ht⟩, H⟩
      have hA' := (hA.told (by omega) (by simp [spR]) ht).1
      rw [hem] at ht
      refine ⟨ARep b g', rfl, ⟨⟨k + 1, g', by omega, hS.step hk5 ht, hA', rfl, rfl, ?_, fun _ => ?_⟩, by dsimp only; omega⟩, H⟩
      · rw [hsl]; exact .refl _
      · rw [hsl]
  · rintro a _ c _ _ ⟨g, ⟨e1, e2, e3⟩, rfl, rfl, rfl⟩
    refine ⟨fun q => q = true, fun z => ?_, fun q hq => ?_⟩
    · refine (sameI_ok a 5 c (spL 5) (some ⟨z, 0, none⟩) 5 5 [4, 6, 7, 4, 9] (OwI a 5 c (spL 5)) (HP.one z (.cells #[.int .i64 4, .int .i64 6, .int .i64 7, .int .i64 4, .int .i64 9] 3 (0, 0))) (RdL.ow _ _ _ _ _ _) ⟨one_rd z #[.int .i64 4, .int .i64 6, .int .i64 7, .int .i64 4, .int .i64 9] 3, fun _ _ _ e => by cases e⟩ rfl rfl (by omega)).weak (fun _ _ h => h) ?_
      rintro v R h ⟨rfl, H⟩
      refine ⟨true, rfl, ?_, H⟩
      clear H
      refine ⟨fun _ => ?_, fun h => absurd rfl h⟩
      refine (eState_ok b g).weak (fun _ _ h => h) ?_
      rintro v R h ⟨rfl, H⟩
      refine ⟨g.st, rfl, ⟨fun _ => ?_, fun h => absurd e1 h⟩, H⟩
      clear H
      refine (eTail_ok b g).weak (fun _ _ h => h) ?_
      rintro v R h ⟨rfl, H⟩
      refine ⟨g.tail, rfl, ⟨fun _ => ?_, fun h => absurd e3 h⟩, H⟩
      clear H
      refine (ePlan_ok b g).weak (fun _ _ h => h) ?_
      rintro v R h ⟨a', c', es', ⟨rfl, _⟩, H⟩
      refine ⟨g.plan.ep, a', es'.length, c', _, rfl, ?_, H⟩
      show _ = true
      rw [e2]; rfl
    · subst hq
      exact .of fun R h H => ⟨rfl, trivial⟩
end Go.Proofs.YtbmajijnjkicmaaDoor



namespace Go.Proofs.YtbmajijnjkicmaaDoor
open Go.RowKit Go.ChangeShapes Go.WideShapes Go.Deep RX
set_option maxRecDepth 100000

structure ChI where
  l : List Int
  a : Option Addr
  c : Nat
instance : Inhabited ChI := ⟨⟨[], none, 0⟩⟩
def ChI.hp (x : ChI) : HP := HP.and (x.l.length ≤ 140737488355328) (Ls kInt x.a x.l.length x.l)
def kChI : Kind ChI := ⟨1, by decide, fun x => [.slice x.a x.l.length x.c], fun _ => rfl, ChI.hp, fun _ _ _ h' H => ⟨H.1, Ls.pers h' H.2⟩⟩
theorem ChI.of_trod {H : Type} {enc : TypeId × Value → H} {w : World} {cs : List Value} {n : Nat} {x : DataW H × List MemPlace} (h : DataW.trod enc Tryd.prog w 0 (fun _ => true) true n 27 cs = some x) (hs : Small Tryd.prog 27 x.1) : ∃ m : ChI, cs = kChI.vals m ∧ ∀ h, (kChI.hp m).p (allOf w) h := by
  obtain ⟨a, l, k, rfl⟩ := Go.Joins.slice_form Tryd.underlying27 h
  obtain ⟨a, m, c, r, y, z⟩ := slice_of_trod kInt Tryd.underlying27 (by kernel_rfl) (of_decide_eq_true (by kernel_rfl)) kInt_trod h hs
  exact ⟨⟨m, a, c⟩, by rw [r]; rfl, fun hh => ⟨y, z hh⟩⟩
end Go.Proofs.YtbmajijnjkicmaaDoor



namespace Go.Proofs.YtbmajijnjkicmaaDoor
open Go.RowKit Go.ChangeShapes Go.WideShapes Go.Deep RX
set_option maxRecDepth 100000
set_option linter.unusedVariables false
set_option linter.unusedSimpArgs false

structure PlanI where
  ep : Int
  ch : List ChI
  cha : Option Addr
  chc : Nat
abbrev PlanI.vals (x : PlanI) : List Value := [.int .i64 x.ep, .slice x.cha x.ch.length x.chc]
def PlanI.hp (x : PlanI) : HP := HP.both (HP.pure (okI x.ep)) (HP.and (x.ch.length ≤ 140737488355328) (Ls kChI x.cha x.ch.length x.ch))
theorem PlanI.pers (x : PlanI) (R h h' : PH) (H : (x.hp).p R h) : (x.hp).p R h' := ⟨H.1, ⟨(H.2).1, Ls.pers h' (H.2).2⟩⟩
instance : Inhabited PlanI := ⟨⟨0, [], none, 0⟩⟩
def kPlanI : Kind PlanI := ⟨2, by decide, PlanI.vals, fun _ => rfl, PlanI.hp, PlanI.pers⟩
theorem PlanI.of_trod {H : Type} {enc : TypeId × Value → H} {w : World} {cs : List Value} {n : Nat} {x : DataW H × List MemPlace} (h : DataW.trod enc Tryd.prog w 0 (fun _ => true) true n 24 cs = some x) (hs : Small Tryd.prog 24 x.1) : ∃ m : PlanI, cs = kPlanI.vals m ∧ ∀ h, (kPlanI.hp m).p (allOf w) h := by
  obtain ⟨xs0, n0, _, hx0, hl0, hxl0, hf0⟩ := DataW.trod_struct Tryd.underlying24 h
  replace hxl0 : xs0.length = 2 := hxl0
  have hs0 : Small Tryd.prog 24 (.agg (xs0.map (·.1))) := by
    have e := hx0
    first | (subst e; exact hs) | (rw [e] at hs; exact hs) | (have e2 := congrArg Prod.fst e; rw [← e2]; exact hs) | (rw [← e]; exact hs)
  obtain ⟨c0, e0, w0⟩ := field_int Tryd.underlying3 (show 0 < xs0.length by omega) (by kernel_rfl) (hf0 0 _ rfl)
  obtain ⟨a1, l1, k1, e1⟩ := field_slice Tryd.underlying22 (show 1 < xs0.length by omega) (by kernel_rfl) (hf0 1 _ rfl)
  have q1 := hf0 1 _ rfl
  rw [List.getElem?_eq_getElem (show 1 < xs0.length by omega)] at q1
  have g1 : DataW.trod enc Tryd.prog w 0 (fun _ => true) true n0 22 [.slice a1 l1 k1] = some xs0[1] := by
    rw [← take1' e1]
    exact q1
  have s1 : Small Tryd.prog 22 xs0[1].1 := Small.part (i := 1) hs0 Tryd.underlying24 rfl (by rw [List.getElem?_map, List.getElem?_eq_getElem (show 1 < xs0.length by omega)]; rfl)
  obtain ⟨b1, d1, m1, r1, y1, z1⟩ := slice_of_trod kChI Tryd.underlying22 (by kernel_rfl) (of_decide_eq_true (by kernel_rfl)) ChI.of_trod g1 s1
  simp only [Value.slice.injEq] at r1
  obtain ⟨rfl, rfl, rfl⟩ := r1
  have hlen : cs.length = 2 := hl0.trans (by kernel_rfl)
  refine ⟨⟨c0, d1, a1, k1⟩, ?_, fun hh => ⟨int_wf w0, ⟨y1, z1 hh⟩⟩⟩
  clear h hl0 hf0 q1 g1 s1
  revert e0 e1
  match cs, hlen with
  | [u0, u1], _ =>
    intro e0
    obtain rfl : u0 = .int _ c0 := Option.some.inj e0
    intro e1
    obtain rfl : u1 = .slice a1 d1.length k1 := Option.some.inj e1
    rfl
structure Step18 where
  push : Bool
  some_ : Bool
  at_ : Int
  r_fr : Int
  r_to : Int
  r_num : Int
  r_rep : Bool
  r_kind : Int
  r_ep : Int
  r_at_ : Int
  r_cell_what : Int
  r_cell_data : List UInt8
  r_cell_dataa : Option Addr
  r_cell_datac : Nat
  r_br_r : Int
  r_br_w : Int
  r_val : List UInt8
  r_vala : Option Addr
  r_valc : Nat
  r_err : Int
  r_tail : Int
  r_low : Int
  r_back : Int
abbrev Step18.vals (x : Step18) : List Value := [.bool x.push, .bool x.some_, .int .i64 x.at_, .int .i64 x.r_fr, .int .i64 x.r_to, .int .i64 x.r_num, .bool x.r_rep, .int .i64 x.r_kind, .int .i64 x.r_ep, .int .i64 x.r_at_, .int .i64 x.r_cell_what, .slice x.r_cell_dataa x.r_cell_data.length x.r_cell_datac, .int .i64 x.r_br_r, .int .i64 x.r_br_w, .slice x.r_vala x.r_val.length x.r_valc, .int .i64 x.r_err, .int .i64 x.r_tail, .int .i64 x.r_low, .int .i64 x.r_back]
def Step18.hp (x : Step18) : HP := HP.both (HP.pure (okI x.at_)) (HP.both (HP.pure (okI x.r_fr)) (HP.both (HP.pure (okI x.r_to)) (HP.both (HP.pure (okI x.r_num)) (HP.both (HP.pure (okI x.r_kind)) (HP.both (HP.pure (okI x.r_ep)) (HP.both (HP.pure (okI x.r_at_)) (HP.both (HP.pure (okI x.r_cell_what)) (HP.both (HP.and (x.r_cell_data.length ≤ 140737488355328) (RoB x.r_cell_dataa x.r_cell_data.length x.r_cell_data)) (HP.both (HP.pure (okI x.r_br_r)) (HP.both (HP.pure (okI x.r_br_w)) (HP.both (HP.and (x.r_val.length ≤ 140737488355328) (RoB x.r_vala x.r_val.length x.r_val)) (HP.both (HP.pure (okI x.r_err)) (HP.both (HP.pure (okI x.r_tail)) (HP.both (HP.pure (okI x.r_low)) (HP.pure (okI x.r_back))))))))))))))))
theorem Step18.pers (x : Step18) (R h h' : PH) (H : (x.hp).p R h) : (x.hp).p R h' := ⟨H.1, ⟨H.2.1, ⟨H.2.2.1, ⟨H.2.2.2.1, ⟨H.2.2.2.2.1, ⟨H.2.2.2.2.2.1, ⟨H.2.2.2.2.2.2.1, ⟨H.2.2.2.2.2.2.2.1, ⟨H.2.2.2.2.2.2.2.2.1, ⟨H.2.2.2.2.2.2.2.2.2.1, ⟨H.2.2.2.2.2.2.2.2.2.2.1, ⟨H.2.2.2.2.2.2.2.2.2.2.2.1, ⟨H.2.2.2.2.2.2.2.2.2.2.2.2.1, ⟨H.2.2.2.2.2.2.2.2.2.2.2.2.2.1, ⟨H.2.2.2.2.2.2.2.2.2.2.2.2.2.2.1, H.2.2.2.2.2.2.2.2.2.2.2.2.2.2.2⟩⟩⟩⟩⟩⟩⟩⟩⟩⟩⟩⟩⟩⟩⟩
instance : Inhabited Step18 := ⟨⟨false, false, 0, 0, 0, 0, false, 0, 0, 0, 0, [], none, 0, 0, 0, [], none, 0, 0, 0, 0, 0⟩⟩
def kStep18 : Kind Step18 := ⟨19, by decide, Step18.vals, fun _ => rfl, Step18.hp, Step18.pers⟩
theorem Step18.of_trod {H : Type} {enc : TypeId × Value → H} {w : World} {cs : List Value} {n : Nat} {x : DataW H × List MemPlace} (h : DataW.trod enc Tryd.prog w 0 (fun _ => true) true n 39 cs = some x) (hs : Small Tryd.prog 39 x.1) : ∃ m : Step18, cs = kStep18.vals m ∧ ∀ h, (kStep18.hp m).p (allOf w) h := by
  obtain ⟨xs0, n0, _, hx0, hl0, hxl0, hf0⟩ := DataW.trod_struct Tryd.underlying39 h
  replace hxl0 : xs0.length = 4 := hxl0
  have hs0 : Small Tryd.prog 39 (.agg (xs0.map (·.1))) := by
    have e := hx0
    first | (subst e; exact hs) | (rw [e] at hs; exact hs) | (have e2 := congrArg Prod.fst e; rw [← e2]; exact hs) | (rw [← e]; exact hs)
  obtain ⟨c0, e0⟩ := field_bool Tryd.underlying4 (show 0 < xs0.length by omega) (by kernel_rfl) (hf0 0 _ rfl)
  obtain ⟨c1, e1⟩ := field_bool Tryd.underlying4 (show 1 < xs0.length by omega) (by kernel_rfl) (hf0 1 _ rfl)
  obtain ⟨c2, e2, w2⟩ := field_int Tryd.underlying3 (show 2 < xs0.length by omega) (by kernel_rfl) (hf0 2 _ rfl)
  have g0_3 := hf0 3 _ rfl
  rw [List.getElem?_eq_getElem (show 3 < xs0.length by omega)] at g0_3
  have hp0_3 : Small Tryd.prog 37 xs0[3].1 := Small.part (i := 3) hs0 Tryd.underlying39 rfl (by rw [List.getElem?_map, List.getElem?_eq_getElem (show 3 < xs0.length by omega)]; rfl)
  obtain ⟨xs1, n1, _, hx1, hl1, hxl1, hf1⟩ := DataW.trod_struct Tryd.underlying37 g0_3
  replace hxl1 : xs1.length = 14 := hxl1
  have hs1 : Small Tryd.prog 37 (.agg (xs1.map (·.1))) := by
    have e := hx1
    first | (subst e; exact hp0_3) | (rw [e] at hp0_3; exact hp0_3) | (have e2 := congrArg Prod.fst e; rw [← e2]; exact hp0_3) | (rw [← e]; exact hp0_3)
  obtain ⟨c3, e3, w3⟩ := field_int Tryd.underlying3 (show 0 < xs1.length by omega) (by kernel_rfl) (hf1 0 _ rfl)
  rw [List.getElem?_take_of_lt (of_decide_eq_true (by kernel_rfl)), List.getElem?_drop] at e3
  obtain ⟨c4, e4, w4⟩ := field_int Tryd.underlying3 (show 1 < xs1.length by omega) (by kernel_rfl) (hf1 1 _ rfl)
  rw [List.getElem?_take_of_lt (of_decide_eq_true (by kernel_rfl)), List.getElem?_drop] at e4
  obtain ⟨c5, e5, w5⟩ := field_int Tryd.underlying3 (show 2 < xs1.length by omega) (by kernel_rfl) (hf1 2 _ rfl)
  rw [List.getElem?_take_of_lt (of_decide_eq_true (by kernel_rfl)), List.getElem?_drop] at e5
  obtain ⟨c6, e6⟩ := field_bool Tryd.underlying4 (show 3 < xs1.length by omega) (by kernel_rfl) (hf1 3 _ rfl)
  rw [List.getElem?_take_of_lt (of_decide_eq_true (by kernel_rfl)), List.getElem?_drop] at e6
  obtain ⟨c7, e7, w7⟩ := field_int Tryd.underlying3 (show 4 < xs1.length by omega) (by kernel_rfl) (hf1 4 _ rfl)
  rw [List.getElem?_take_of_lt (of_decide_eq_true (by kernel_rfl)), List.getElem?_drop] at e7
  obtain ⟨c8, e8, w8⟩ := field_int Tryd.underlying3 (show 5 < xs1.length by omega) (by kernel_rfl) (hf1 5 _ rfl)
  rw [List.getElem?_take_of_lt (of_decide_eq_true (by kernel_rfl)), List.getElem?_drop] at e8
  obtain ⟨c9, e9, w9⟩ := field_int Tryd.underlying3 (show 6 < xs1.length by omega) (by kernel_rfl) (hf1 6 _ rfl)
  rw [List.getElem?_take_of_lt (of_decide_eq_true (by kernel_rfl)), List.getElem?_drop] at e9
  have g1_7 := hf1 7 _ rfl
  rw [List.getElem?_eq_getElem (show 7 < xs1.length by omega)] at g1_7
  have hp1_7 : Small Tryd.prog 32 xs1[7].1 := Small.part (i := 7) hs1 Tryd.underlying37 rfl (by rw [List.getElem?_map, List.getElem?_eq_getElem (show 7 < xs1.length by omega)]; rfl)
  obtain ⟨xs2, n2, _, hx2, hl2, hxl2, hf2⟩ := DataW.trod_struct Tryd.underlying32 g1_7
  replace hxl2 : xs2.length = 2 := hxl2
  have hs2 : Small Tryd.prog 32 (.agg (xs2.map (·.1))) := by
    have e := hx2
    first | (subst e; exact hp1_7) | (rw [e] at hp1_7; exact hp1_7) | (have e2 := congrArg Prod.fst e; rw [← e2]; exact hp1_7) | (rw [← e]; exact hp1_7)
  obtain ⟨c10, e10, w10⟩ := field_int Tryd.underlying3 (show 0 < xs2.length by omega) (by kernel_rfl) (hf2 0 _ rfl)
  rw [List.getElem?_take_of_lt (of_decide_eq_true (by kernel_rfl)), List.getElem?_drop] at e10
  obtain ⟨a11, l11, k11, e11⟩ := field_slice Tryd.underlying30 (show 1 < xs2.length by omega) (by kernel_rfl) (hf2 1 _ rfl)
  have q11 := hf2 1 _ rfl
  rw [List.getElem?_eq_getElem (show 1 < xs2.length by omega)] at q11
  have g11 : DataW.trod enc Tryd.prog w 0 (fun _ => true) true n2 30 [.slice a11 l11 k11] = some xs2[1] := by
    rw [← take1' e11]
    exact q11
  have s11 : Small Tryd.prog 30 xs2[1].1 := Small.part (i := 1) hs2 Tryd.underlying32 rfl (by rw [List.getElem?_map, List.getElem?_eq_getElem (show 1 < xs2.length by omega)]; rfl)
  obtain ⟨b11, d11, m11, r11, y11, z11⟩ := bytes_of_trod g11 s11
  simp only [Value.slice.injEq] at r11
  obtain ⟨rfl, rfl, rfl⟩ := r11
  rw [List.getElem?_take_of_lt (of_decide_eq_true (by kernel_rfl)), List.getElem?_drop] at e11
  have g1_8 := hf1 8 _ rfl
  rw [List.getElem?_eq_getElem (show 8 < xs1.length by omega)] at g1_8
  have hp1_8 : Small Tryd.prog 34 xs1[8].1 := Small.part (i := 8) hs1 Tryd.underlying37 rfl (by rw [List.getElem?_map, List.getElem?_eq_getElem (show 8 < xs1.length by omega)]; rfl)
  obtain ⟨xs3, n3, _, hx3, hl3, hxl3, hf3⟩ := DataW.trod_struct Tryd.underlying34 g1_8
  replace hxl3 : xs3.length = 2 := hxl3
  have hs3 : Small Tryd.prog 34 (.agg (xs3.map (·.1))) := by
    have e := hx3
    first | (subst e; exact hp1_8) | (rw [e] at hp1_8; exact hp1_8) | (have e2 := congrArg Prod.fst e; rw [← e2]; exact hp1_8) | (rw [← e]; exact hp1_8)
  obtain ⟨c12, e12, w12⟩ := field_int Tryd.underlying3 (show 0 < xs3.length by omega) (by kernel_rfl) (hf3 0 _ rfl)
  rw [List.getElem?_take_of_lt (of_decide_eq_true (by kernel_rfl)), List.getElem?_drop] at e12
  obtain ⟨c13, e13, w13⟩ := field_int Tryd.underlying3 (show 1 < xs3.length by omega) (by kernel_rfl) (hf3 1 _ rfl)
  rw [List.getElem?_take_of_lt (of_decide_eq_true (by kernel_rfl)), List.getElem?_drop] at e13
  obtain ⟨a14, l14, k14, e14⟩ := field_slice Tryd.underlying30 (show 9 < xs1.length by omega) (by kernel_rfl) (hf1 9 _ rfl)
  have q14 := hf1 9 _ rfl
  rw [List.getElem?_eq_getElem (show 9 < xs1.length by omega)] at q14
  have g14 : DataW.trod enc Tryd.prog w 0 (fun _ => true) true n1 30 [.slice a14 l14 k14] = some xs1[9] := by
    rw [← take1' e14]
    exact q14
  have s14 : Small Tryd.prog 30 xs1[9].1 := Small.part (i := 9) hs1 Tryd.underlying37 rfl (by rw [List.getElem?_map, List.getElem?_eq_getElem (show 9 < xs1.length by omega)]; rfl)
  obtain ⟨b14, d14, m14, r14, y14, z14⟩ := bytes_of_trod g14 s14
  simp only [Value.slice.injEq] at r14
  obtain ⟨rfl, rfl, rfl⟩ := r14
  rw [List.getElem?_take_of_lt (of_decide_eq_true (by kernel_rfl)), List.getElem?_drop] at e14
  obtain ⟨c15, e15, w15⟩ := field_int Tryd.underlying35 (show 10 < xs1.length by omega) (by kernel_rfl) (hf1 10 _ rfl)
  rw [List.getElem?_take_of_lt (of_decide_eq_true (by kernel_rfl)), List.getElem?_drop] at e15
  obtain ⟨c16, e16, w16⟩ := field_int Tryd.underlying3 (show 11 < xs1.length by omega) (by kernel_rfl) (hf1 11 _ rfl)
  rw [List.getElem?_take_of_lt (of_decide_eq_true (by kernel_rfl)), List.getElem?_drop] at e16
  obtain ⟨c17, e17, w17⟩ := field_int Tryd.underlying3 (show 12 < xs1.length by omega) (by kernel_rfl) (hf1 12 _ rfl)
  rw [List.getElem?_take_of_lt (of_decide_eq_true (by kernel_rfl)), List.getElem?_drop] at e17
  obtain ⟨c18, e18, w18⟩ := field_int Tryd.underlying3 (show 13 < xs1.length by omega) (by kernel_rfl) (hf1 13 _ rfl)
  rw [List.getElem?_take_of_lt (of_decide_eq_true (by kernel_rfl)), List.getElem?_drop] at e18
  have hlen : cs.length = 19 := hl0.trans (by kernel_rfl)
  refine ⟨⟨c0, c1, c2, c3, c4, c5, c6, c7, c8, c9, c10, d11, a11, k11, c12, c13, d14, a14, k14, c15, c16, c17, c18⟩, ?_, fun hh => ⟨int_wf w2, ⟨int_wf w3, ⟨int_wf w4, ⟨int_wf w5, ⟨int_wf w7, ⟨int_wf w8, ⟨int_wf w9, ⟨int_wf w10, ⟨⟨y11, z11 hh⟩, ⟨int_wf w12, ⟨int_wf w13, ⟨⟨y14, z14 hh⟩, ⟨int_wf w15, ⟨int_wf w16, ⟨int_wf w17, int_wf w18⟩⟩⟩⟩⟩⟩⟩⟩⟩⟩⟩⟩⟩⟩⟩⟩
  clear h hl0 hf0 hl1 hf1 hl2 hf2 hl3 hf3 g0_3 g1_7 q11 g11 s11 g1_8 q14 g14 s14
  revert e0 e1 e2 e3 e4 e5 e6 e7 e8 e9 e10 e11 e12 e13 e14 e15 e16 e17 e18
  match cs, hlen with
  | [u0, u1, u2, u3, u4, u5, u6, u7, u8, u9, u10, u11, u12, u13, u14, u15, u16, u17, u18], _ =>
    intro e0
    obtain rfl : u0 = .bool c0 := Option.some.inj e0
    intro e1
    obtain rfl : u1 = .bool c1 := Option.some.inj e1
    intro e2
    obtain rfl : u2 = .int _ c2 := Option.some.inj e2
    intro e3
    obtain rfl : u3 = .int _ c3 := Option.some.inj e3
    intro e4
    obtain rfl : u4 = .int _ c4 := Option.some.inj e4
    intro e5
    obtain rfl : u5 = .int _ c5 := Option.some.inj e5
    intro e6
    obtain rfl : u6 = .bool c6 := Option.some.inj e6
    intro e7
    obtain rfl : u7 = .int _ c7 := Option.some.inj e7
    intro e8
    obtain rfl : u8 = .int _ c8 := Option.some.inj e8
    intro e9
    obtain rfl : u9 = .int _ c9 := Option.some.inj e9
    intro e10
    obtain rfl : u10 = .int _ c10 := Option.some.inj e10
    intro e11
    obtain rfl : u11 = .slice a11 d11.length k11 := Option.some.inj e11
    intro e12
    obtain rfl : u12 = .int _ c12 := Option.some.inj e12
    intro e13
    obtain rfl : u13 = .int _ c13 := Option.some.inj e13
    intro e14
    obtain rfl : u14 = .slice a14 d14.length k14 := Option.some.inj e14
    intro e15
    obtain rfl : u15 = .int _ c15 := Option.some.inj e15
    intro e16
    obtain rfl : u16 = .int _ c16 := Option.some.inj e16
    intro e17
    obtain rfl : u17 = .int _ c17 := Option.some.inj e17
    intro e18
    obtain rfl : u18 = .int _ c18 := Option.some.inj e18
    rfl
theorem Step18.load {a : Option Addr} {n : Nat} {l : List Step18} {k : Nat} {x : Step18} (hk : l[k]? = some x) : ORead Tryd.prog (loadS 39 (.pointer (a.map fun y => (y.add ((k : Int).toNat * 19)).add 0))) (Ls kStep18 a n l) (.agg x.vals.toArray) := by
  obtain ⟨d, hd⟩ : ∃ d, Tryd.prog.underlying 39 = some d := Option.isSome_iff_exists.1 (by kernel_rfl)
  exact Ls.load (K := kStep18) hd (by kernel_rfl) (by kernel_rfl) hk

end Go.Proofs.YtbmajijnjkicmaaDoor



namespace Go.Proofs.YtbmajijnjkicmaaDoor
set_option linter.unusedSimpArgs false
set_option linter.unusedVariables false
open Go.Proofs.YtbmajijnjkicmaaDoor RX
set_option maxRecDepth 100000

theorem modN18 (a : Int) (n : Nat) (hn : 0 < n) : ∃ E : Nat, (bits .and .i64 a 65535).tmod (n : Int) = (E : Int) ∧ E < n := by
  rw [andffff]
  have h1 := Int.emod_nonneg a (show (65536 : Int) ≠ 0 by decide)
  obtain ⟨q, hq⟩ := Int.eq_ofNat_of_zero_le h1
  rw [hq]
  refine ⟨q % n, ?_, Nat.mod_lt _ hn⟩
  rw [Int.tmod_eq_emod_of_nonneg (by omega)]; rfl
def ChI.ch (x : ChI) : ChE := ⟨x.a, x.c, x.l⟩
theorem ints_ro {a : Option Addr} {n : Nat} {l : List Int} {R h : PH} (H : (Ls kInt a n l).p R h) : (RoI a n l).p R h := by
  have e : l.flatMap kInt.vals = l.map i64v := by
    clear H
    induction l with
    | nil => rfl
    | cons x r ih => rw [List.flatMap_cons, ih]; rfl
  have := H.2.1
  rw [e] at this; exact this
theorem chI_ls {a : Option Addr} {n : Nat} {l : List ChI} {R h : PH} (H : (Ls kChI a n l).p R h) : (Ls kCh a n (l.map ChI.ch)).p R h := by
  have e : (l.map ChI.ch).flatMap kCh.vals = l.flatMap kChI.vals := by
    clear H
    induction l with
    | nil => rfl
    | cons x r ih => rw [List.map_cons, List.flatMap_cons, List.flatMap_cons, ih]; rfl
  refine ⟨by rw [List.length_map]; exact H.1, by rw [e]; exact H.2.1, fun x hx => ?_⟩
  obtain ⟨y, hy, rfl⟩ := List.mem_map.1 hx
  exact ints_ro (H.2.2 y hy).2
theorem asksL_get {g : AdvS} {i : Nat} {m : MS} (h : (asksL g)[i]? = some m) :
    m.ep = g.old.ep + 1 ∧ m.rep = false ∧ 0 ≤ m.to ∧ m.to ≤ 7 ∧ (m.kind = 9 ↔ m.to = 7) ∧ ∀ (j : Nat) (m' : MS), j < i → (asksL g)[j]? = some m' → m'.to < m.to := by
  by_cases h4 : g.st = 4
  · have e : asksL g = [startA g] := if_pos h4
    rw [e] at h
    have hi : i = 0 := by
      have := (List.getElem?_eq_some_iff.1 h).1
      simp at this; omega
    subst hi
    cases h
    exact ⟨rfl, rfl, by show (0 : Int) ≤ 7; omega, by show (7 : Int) ≤ 7; omega, ⟨fun _ => rfl, fun _ => rfl⟩, fun j _ hj => by omega⟩
  · have e : asksL g = ((List.range 7).filter (askedA g)).map (askA g) := if_neg h4
    rw [e, List.getElem?_map] at h
    obtain ⟨u, hu, rfl⟩ := Option.map_eq_some_iff.1 h
    have hm := List.mem_of_getElem? hu
    have hu7 := List.mem_range.1 (List.mem_filter.1 hm).1
    have f : (askA g u).ep = g.old.ep + 1 ∧ (askA g u).rep = false ∧ (askA g u).kind ≠ 9 := by
      unfold askA
      split
      · split
        · refine ⟨rfl, rfl, ?_⟩
          show (if _ then (7 : Int) else 6) ≠ 9
          split <;> decide
        · exact ⟨rfl, rfl, show (4 : Int) ≠ 9 by decide⟩
      · exact ⟨rfl, rfl, show (4 : Int) ≠ 9 by decide⟩
    rw [askA_to]
    refine ⟨f.1, f.2.1, by omega, by omega, ⟨fun h => absurd h f.2.2, fun h => by omega⟩, fun j m' hj hm' => ?_⟩
    rw [e, List.getElem?_map] at hm'
    obtain ⟨v, hv, rfl⟩ := Option.map_eq_some_iff.1 hm'
    rw [askA_to]
    have hs : ((List.range 7).filter (askedA g)).Pairwise (· < ·) := List.Pairwise.filter _ List.pairwise_lt_range
    obtain ⟨hi, rfl⟩ := List.getElem?_eq_some_iff.1 hu
    obtain ⟨hj', rfl⟩ := List.getElem?_eq_some_iff.1 hv
    have := List.pairwise_iff_getElem.1 hs j i hj' hi hj
    omega
set_option maxHeartbeats 4000000 in
theorem advAsks_ok (ep units who : Int) (ca : Option Addr) (cc : Nat) (es : List ChE) (sa : Option Addr) (sc : Nat) (steps : List Step18) :
    Tri Tryd.prog 3 #[.agg #[.int .i64 ep, .slice ca es.length cc], .int .i64 units, .int .i64 who, .slice sa steps.length sc] (HP.sep (Ls kCh ca es.length es) (Ls kStep18 sa steps.length steps)) (fun v => HP.pure (v = .bool true)) := by
  refine Tri.fact (φ := (es.length ≠ 0 → ca.isSome = true) ∧ (steps.length ≠ 0 → sa.isSome = true)) (fun R h H => ⟨fun hn => RoC.some (HP.sep_left H).2.1 (by omega), fun hn => RoC.some (HP.sep_right H).2.1 (by omega)⟩) fun ⟨hcs, hss⟩ => ?_
  refine tri_of_tree (ρ := [.i ep, .a ca, .n es.length, .n cc, .p (Ls kCh ca es.length es), .i units, .i who, .a sa, .n steps.length, .n sc, .p (Ls kStep18 sa steps.length steps)]) mixed Tryd.func3 tree_advAsks ?_
  unfold t_advAsks
  simp only [T.den, E.prop, E.den, RX.look, F1.app, F2.app, Uni.int_i, Uni.nat_n, Uni.bool_c, Uni.str_s, Uni.adr_a, Uni.val_v, Uni.hp_p, hden, cden, V.den, W.den, A.den, BR.den, SA.den, FV.den, capV, exs, exP, allP, Cur.app, List.map_cons, List.map_nil, List.cons_append, List.nil_append, List.drop_succ_cons, List.drop_zero, List.length_cons, List.length_nil, Nat.zero_add, Nat.reduceAdd, Int.neg_neg, Bool.not_not, List.append_nil, Nat.add_zero, List.getElem?_cons_zero, List.getElem?_cons_succ, Decidable.not_not, semW_eq, semW_load, ne_eq, Nat.reduceEqDiff, not_false_eq_true]
  intro _
  refine speaks18_ok.weak (fun _ _ _ => trivial) ?_
  rintro v R h ⟨rfl, _⟩
  refine ⟨true, rfl, ⟨fun h => absurd rfl h, fun _ => ?_⟩, trivial⟩
  refine ⟨fun q => q = false → steps.length ≤ 100 ∧ es.length ≤ 12, ⟨(fun _ h => by cases h), fun h1 h2 => ⟨by omega, by have := of_decide_eq_false h2; omega⟩⟩, ?_⟩
  intro q hq
  refine ⟨fun _ => .of fun R h H => trivial, fun hqf => ?_⟩
  obtain ⟨hsl, hel⟩ := hq (by simpa using hqf)
  refine ⟨fun _ i => ∃ k : Nat, i = k ∧ k ≤ es.length ∧ ∀ x ∈ es.take k, x.l.length ≤ 12, fun _ i => es.length - i.toNat, ⟨0, rfl, Nat.zero_le _, by simp⟩, ?_⟩
  rintro _ _ ⟨k, rfl, hk, hall⟩
  refine ⟨fun hlt => ⟨by omega, fun _ => ⟨hcs (by omega), fun _ => ?_⟩⟩, fun hge => ?_⟩
  · have hkl : k < es.length := by omega
    refine ⟨es[k].a, es[k].l.length, es[k].c, ldC (fun _ _ h => h) (List.getElem?_eq_getElem hkl), fun _ => .of fun R h H => trivial, fun h12 => ⟨inI64 _ (by omega) (by omega), fun _ => ⟨⟨k + 1, by omega, by omega, fun x hx => ?_⟩, by dsimp only; omega⟩⟩⟩
    rw [List.take_succ_eq_append_getElem hkl] at hx
    rcases List.mem_append.1 hx with hx | hx
    · exact hall x hx
    · obtain rfl := List.mem_singleton.1 hx; omega
  have hall' : ∀ x ∈ es, x.l.length ≤ 12 := by
    rw [List.take_of_length_le (by omega)] at hall; exact hall
  refine (aBegin_ok (Ls kCh ca es.length es) ep ca es.length cc es units who (fun _ _ h => h) (fun x hx => by have := hall' x hx; omega) (by omega)).weak (fun _ _ h => h) ?_
  rintro v R h ⟨b, rfl, H⟩
  have hA0 := AI.begin ⟨ep, es.map (·.l)⟩ units who
  have hO0 : (beginA ⟨ep, es.map (·.l)⟩ units who).st ≠ 6 → (beginA ⟨ep, es.map (·.l)⟩ units who).old.ep = ep := fun h => by
    unfold beginA at h ⊢
    split
    · rfl
    · rename_i hn; rw [if_neg hn] at h; exact absurd rfl h
  generalize beginA ⟨ep, es.map (·.l)⟩ units who = g0 at *
  refine ⟨b, ARep b g0, rfl, ?_, H⟩
  clear H
  refine ⟨fun _ i P => ∃ (k : Nat) (g : AdvS), i = k ∧ k ≤ steps.length ∧ P = ARep b g ∧ AI k g ∧ (g.st ≠ 6 → g.old.ep = ep), fun _ i _ => steps.length - i.toNat, ⟨0, g0, rfl, Nat.zero_le _, rfl, hA0, hO0⟩, ?_⟩
  rintro _ _ _ ⟨k, g, rfl, hk2, rfl, hA, hO⟩
  refine ⟨fun hlt => ⟨by omega, fun _ => ⟨hss (by omega), fun _ => ?_⟩⟩, fun hge => .of fun R h H => trivial⟩
  have hkl : k < steps.length := by omega
  have hg : steps[k]? = some steps[k] := List.getElem?_eq_getElem hkl
  generalize steps[k] = x at hg
  refine ⟨x.push, x.some_, x.at_, x.r_fr, x.r_to, x.r_num, x.r_rep, x.r_kind, x.r_ep, x.r_at_, x.r_cell_what, x.r_cell_dataa, x.r_cell_data.length, x.r_cell_datac, x.r_br_r, x.r_br_w, x.r_vala, x.r_val.length, x.r_valc, x.r_err, x.r_tail, x.r_low, x.r_back, Step18.load hg, fun _ => ?_⟩
  refine (eAsks_ok b g hA.safe.s).weak (fun _ _ h => h) ?_
  rintro v R h ⟨a1, c1, es1, ⟨rfl, he1⟩, H⟩
  have hsm : es1.length ≠ 0 → a1.isSome = true := fun hn => RoC.some (HP.sep_left H).2.1 (by omega)
  have hl1 : es1.length = (asksL g).length := by rw [← he1, List.length_map]
  have h7 := asksL_len g
  have hnil : es1.length = 0 ↔ (g.st = 5 ∨ g.st = 6) := by
    rw [hl1, List.length_eq_zero_iff]; exact hA.asks
  have hget : ∀ (j : Nat) (e : MsE), es1[j]? = some e → (asksL g)[j]? = some e.m := fun j e he => by rw [← he1, List.getElem?_map, he]; rfl
  refine ⟨a1, es1.length, c1, Ls kMs a1 es1.length es1, rfl, ?_, H⟩
  clear H
  refine (eState_ok b g).weak (fun _ _ h => h) ?_
  rintro v R h ⟨rfl, H⟩
  refine ⟨g.st, rfl, ?_, H⟩
  clear H
  refine ⟨fun q => q = false, ⟨fun h5 => ?_, fun h5 => ?_⟩, ?_⟩
  · have := hnil.2 (.inl h5)
    show (!(true == decide ((es1.length : Int) = 0))) = false
    rw [decide_eq_true (by omega)]; rfl
  · show (!(decide (g.st = 6) == decide ((es1.length : Int) = 0))) = false
    by_cases h6 : g.st = 6
    · have := hnil.2 (.inr h6)
      rw [decide_eq_true h6, decide_eq_true (by omega)]; rfl
    · have : es1.length ≠ 0 := fun e => (hnil.1 e).elim h5 h6
      rw [decide_eq_false h6, decide_eq_false (by omega)]; rfl
  rintro _ rfl
  refine ⟨fun h => absurd h (by decide), fun _ => ?_⟩
  refine ⟨fun _ i => ∃ j : Nat, i = j ∧ j ≤ es1.length, fun _ i => es1.length - i.toNat, ⟨0, rfl, Nat.zero_le _⟩, ?_⟩
  rintro _ _ ⟨j, rfl, hj⟩
  refine ⟨fun hjl => ⟨by omega, fun _ => ⟨hsm (by omega), fun _ => ?_⟩⟩, fun hjg => ?_⟩
  · have hje : es1[j]? = some (es1[j]'(by omega)) := List.getElem?_eq_getElem (by omega)
    generalize es1[j]'(by omega) = e at hje
    obtain ⟨f1, f2, f3, f4, f5, f6⟩ := asksL_get (hget j e hje)
    have hst : ¬ (g.st = 5 ∨ g.st = 6) := fun hs => by have := hnil.2 hs; omega
    have hep := hO (by omega)
    have hel := (hA.r (by omega)).2.1
    refine ⟨e.m.fr, e.m.to, e.m.num, e.m.rep, e.m.kind, e.m.ep, e.m.at', e.m.cell.what, e.ca, e.m.cell.data.length, e.cc, e.m.br, e.m.bw, e.va, e.m.val.length, e.vc, e.m.err, e.m.tail, e.m.low, e.m.back, ldMsI (fun _ _ h => h) rfl hje, fun _ => ⟨fun q => q = false, ?_, ?_⟩⟩
    · have last : (!(decide (e.m.kind = 9) == decide (e.m.to = 7))) = false := by
        by_cases h9 : e.m.kind = 9
        · rw [decide_eq_true h9, decide_eq_true (f5.1 h9)]; rfl
        · rw [decide_eq_false h9, decide_eq_false (fun h => h9 (f5.2 h))]; rfl
      refine ⟨inI64 _ (by have := hA.e0; omega) (by omega), fun _ => ⟨fun h => absurd (by rw [f1, hep]) h, fun _ => ⟨fun h => (by rw [f2] at h; cases h), fun _ => ⟨fun h => by omega, fun _ => ⟨fun h => by omega, fun _ => ⟨fun hj0 => ⟨inI64 _ (by omega) (by omega), fun _ => ⟨by omega, fun _ => ⟨by omega, fun _ => ?_⟩⟩⟩, fun _ => last⟩⟩⟩⟩⟩⟩
      have hje2 : es1[j - 1]? = some (es1[j - 1]'(by omega)) := List.getElem?_eq_getElem (by omega)
      generalize es1[j - 1]'(by omega) = e2 at hje2
      refine ⟨e2.m.to, ldMs1 (fun _ _ h => h) (k := j - 1) (by omega) hje2 rfl, fun hle => ?_, fun _ => last⟩
      have := f6 (j - 1) e2.m (by omega) (hget _ _ hje2)
      omega
    · rintro _ rfl
      exact ⟨fun h => absurd h (by decide), fun _ => ⟨inI64 _ (by omega) (by omega), fun _ => ⟨⟨j + 1, by omega, by omega⟩, by dsimp only; omega⟩⟩⟩
  intro _
  refine ⟨fun q => q = true → es1.length ≠ 0, ⟨fun _ h => ?_, fun _ h => ?_⟩, ?_⟩
  · have := of_decide_eq_true h
    omega
  · cases h
  intro q hq
  refine ⟨fun _ _ _ _ _ => True, ⟨fun hqt => ?_, fun _ => trivial⟩, ?_⟩
  · have hn0 := hq hqt
    obtain ⟨E, hE, hEl⟩ := modN18 x.at_ es1.length (by omega)
    rw [hE]
    have hje : es1[E]? = some (es1[E]'hEl) := List.getElem?_eq_getElem hEl
    generalize es1[E]'hEl = e at hje
    refine ⟨by omega, fun _ => ⟨by omega, fun _ => ⟨by omega, fun _ => ⟨hsm hn0, fun _ => ?_⟩⟩⟩⟩
    exact ⟨e.m.fr, e.m.to, e.m.num, e.m.rep, e.m.kind, e.m.ep, e.m.at', e.m.cell.what, e.ca, e.m.cell.data.length, e.cc, e.m.br, e.m.bw, e.va, e.m.val.length, e.vc, e.m.err, e.m.tail, e.m.low, e.m.back, ldMsI (fun _ _ h => h) rfl hje, fun _ => trivial⟩
  intro f rp kd ep' at' _
  refine ⟨fun _ => .of fun R h H => trivial, fun hvl => ?_⟩
  let m : MS := ⟨f, x.r_to, x.r_num, rp, kd, ep', at', ⟨x.r_cell_what, x.r_cell_data⟩, x.r_br_r, x.r_br_w, x.r_val, x.r_err, x.r_tail, x.r_low, x.r_back⟩
  have hvl' : x.r_val.length ≤ 1000 := by omega
  refine (eTold_ok b g m x.r_cell_dataa x.r_cell_datac x.r_vala x.r_valc hA.safe (by show x.r_val.length ≤ _; omega) HP.tt).conseq (K := Ls kStep18 sa steps.length steps) (.of fun R h H => ?_) fun v => .of fun R h ⟨h1, h2, d, l1, l2, ⟨g', ⟨e, ht⟩, H1⟩, H2⟩ => ?_
  · have hx : (Step18.hp x).p R _ := (HP.sep_right H).2.2 x (List.mem_of_getElem? hg)
    obtain ⟨_, _, _, _, _, _, _, _, _, _, _, ⟨_, hV⟩, _⟩ := hx
    have hV' : ∀ h', (m.Vro x.r_vala).p R h' := fun _ => hV
    exact HP.sep_mono H (fun y hy => HP.sep_mono (HP.sep_tt hy) (fun _ h => h) fun z _ => HP.tt_sep (hV' z)) fun _ h => h
  · obtain ⟨i1, i2, i3, i4, i5, i6⟩ := hA.told (m := m) (by omega) hvl' ht
    refine ⟨ARep b g', e, ⟨fun q => q = false, ?_, ?_⟩, h1, h2, d, l1, l2, H1, H2⟩
    · refine (eState_ok b g').weak (fun _ _ h => h) ?_
      rintro v R h ⟨rfl, H⟩
      refine ⟨g'.st, rfl, ⟨fun hlt => by omega, fun _ => ⟨fun h0 => ?_, fun _ => rfl⟩⟩, H⟩
      refine (eState_ok b g').weak (fun _ _ h => h) ?_
      rintro v R h ⟨rfl, H⟩
      have hnl : asksL g = [] := List.eq_nil_of_length_eq_zero (by omega)
      refine ⟨g'.st, rfl, ?_, H⟩
      show (!decide (g'.st = g.st)) = false
      rw [i3 hnl, decide_eq_true rfl]; rfl
    · rintro _ rfl
      refine ⟨fun h => absurd h (by decide), fun _ => ⟨inI64 _ (by omega) (by omega), fun _ => ⟨⟨k + 1, g', by omega, by omega, rfl, i1, fun h6 => ?_⟩, by dsimp only; omega⟩⟩⟩
      rw [i4]
      have := i1.rg
      exact hO (by omega)
theorem sep_all {A B : HP} {R : PH} (a : ∀ h, A.p R h) (b : ∀ h, B.p R h) (h : PH) : (HP.sep A B).p R h := ⟨PH.none', h, PH.none_dj _, PH.none_le _, PH.le.refl _, a _, b _⟩
theorem advAsksI_ok (m : PlanI) (units who : Int) (sa : Option Addr) (sc : Nat) (steps : List Step18) :
    Tri Tryd.prog 3 #[.agg (kPlanI.vals m).toArray, .int .i64 units, .int .i64 who, .slice sa steps.length sc] (HP.sep (kPlanI.hp m) (Ls kStep18 sa steps.length steps)) (fun v => HP.pure (v = .bool true)) := by
  have := advAsks_ok m.ep units who m.cha m.chc (m.ch.map ChI.ch) sa sc steps
  rw [List.length_map] at this
  exact this.weak (fun R h H => HP.sep_mono H (fun y hy => chI_ls hy.2.2) fun _ h => h) fun _ _ _ h => h
end Go.Proofs.YtbmajijnjkicmaaDoor



namespace Go.Proofs.YtbmajijnjkicmaaDoor
open Go.Proofs.YtbmajijnjkicmaaDoor RX
open Go.ChangeShapes Go.WideShapes Go.ChangeAt Go.RowKit
set_option maxRecDepth 100000

theorem fours_name : Tryd.prog.globalNamed "tideline/check.fours" = some 0 := by kernel_rfl
theorem fours_type : (Tryd.prog.globals[(0 : Nat)]?).map (·.type) = some 127 := by kernel_rfl
theorem cells32 : Tryd.prog.cellsOf 108 = 1 := by kernel_rfl
theorem gr_of {w : World} {r : List (String × DataW Unit)} {ps : List MemPlace} (h : DataW.LaidVars Tryd.prog w (("tideline/check.fours", Rows.laid_tideline_check_fours) :: r) ps) : GR (allOf w) := by
  obtain ⟨g, t, cs, fuel, p, q, hg, ht, hv, htr, _, _⟩ := h
  rw [fours_name] at hg
  cases hg
  rw [fours_type] at ht
  cases ht
  unfold World.var? at hv
  rw [fours_name] at hv
  simp only [Option.bind_some] at hv
  obtain ⟨ty, fr, hh⟩ : ∃ ty fr, w.heap[(0 : Nat)]? = some (.cells cs ty fr) := by
    split at hv
    · rename_i c ty fr e; cases hv; exact ⟨ty, fr, e⟩
    · cases hv
  refine ⟨cs, ty, fr, hh, fun i v hi => ?_⟩
  obtain ⟨xs, m, _, hx, hl, hn, hel⟩ := DataW.trod_array undF htr
  have hi16 : i < 16 := (List.getElem?_eq_some_iff.1 hi).1
  have hd : xs.map (·.1) = fours.map fun n : Nat => DataW.lit (.int .u32 ((n : Nat) : Int)) := by
    have := congrArg Prod.fst hx
    unfold Rows.laid_tideline_check_fours at this
    injection this with this
    exact this.symm
  have h1 := hel i hi16
  rw [cells32, Nat.mul_one] at h1
  have h3 : (xs.map (·.1))[i]? = some (DataW.lit (.int .u32 (v : Int))) := by rw [hd, List.getElem?_map, hi]; rfl
  rw [List.getElem?_map] at h3
  obtain ⟨y, hy, hy2⟩ := Option.map_eq_some_iff.1 h3
  rw [hy] at h1
  obtain ⟨z, hz, hz2, _⟩ := DataW.trod_int und32 h1
  rw [hz2] at hy2
  have e : z = (v : Int) := by
    injection hy2 with e
    injection e
  subst e
  have h5 : (List.take 1 (cs.toList.drop i))[0]? = some (Value.int .u32 (v : Int)) := by rw [hz]; rfl
  rw [List.getElem?_take, if_pos (by decide), List.getElem?_drop, Nat.add_zero] at h5
  simpa using h5
end Go.Proofs.YtbmajijnjkicmaaDoor



namespace Go.Proofs.YtbmajijnjkicmaaDoor
open Go.RowKit Go.ChangeShapes Go.WideShapes Go.Deep RX

set_option maxRecDepth 100000 in
theorem advanceAsks_walk {H : Type} (enc : TypeId × Value → H) (base : Nat) (v0 v1 v2 v3 : Value) (w : World)
    (k0 : Value.okWide Tryd.prog w .any base 24 v0) (h0 : ∃ d p, DataW.Trod enc Tryd.prog w 0 (fun _ => true) true 24 v0 d p ∧ Small Tryd.prog 24 d)
    (k1 : Value.okWide Tryd.prog w .any base 3 v1) (h1 : ∃ d p, DataW.Trod enc Tryd.prog w 0 (fun _ => true) true 3 v1 d p ∧ Small Tryd.prog 3 d)
    (k2 : Value.okWide Tryd.prog w .any base 3 v2) (h2 : ∃ d p, DataW.Trod enc Tryd.prog w 0 (fun _ => true) true 3 v2 d p ∧ Small Tryd.prog 3 d)
    (k3 : Value.okWide Tryd.prog w .any base 25 v3) (h3 : ∃ d p, DataW.Trod enc Tryd.prog w 0 (fun _ => true) true 25 v3 d p ∧ Small Tryd.prog 25 d) (hG : GR (allOf w)) :
    Calls Tryd.prog 3 #[v0, v1, v2, v3] w fun e w' => e = .returned (.bool true) ∧ Below w.heap.size w w' := by
  obtain ⟨m0, rfl, z0⟩ := struct_open kPlanI Tryd.underlying24 PlanI.of_trod k0 h0
  obtain ⟨n1, rfl, r1⟩ := int_openR k1 h1
  obtain ⟨n2, rfl, r2⟩ := int_openR k2 h2
  obtain ⟨a3, l3, c3, rfl, b3, z3⟩ := slice_open kStep18 Tryd.underlying25 (by kernel_rfl) (of_decide_eq_true (by kernel_rfl)) Step18.of_trod k3 h3
  exact Tri.run (advAsksI_ok m0 n1 n2 a3 c3 l3) (sep_all z0 z3 _) hG
end Go.Proofs.YtbmajijnjkicmaaDoor



namespace Go.Proofs.YtbmajijnjkicmaaDoor.advanceAsks
open Go.ChangeShapes Go.WideShapes Go.ChangeAt Go.RowKit
set_option linter.unusedVariables false

theorem own : ownKnob Tryd.prog.godebug = none := by kernel_rfl
theorem laidOut : laidOutB Tryd.prog = true := by kernel_rfl

def laidL : List (String × DataW Unit) := [("tideline/check.fours", Rows.laid_tideline_check_fours)]
set_option maxRecDepth 100000 in
theorem plainL (w : World) : laidMetH Tryd.prog laidL w = laidMet Tryd.prog laidL w := MakeChecks.laidMetH_plain _ _ _ (by kernel_rfl)
set_option maxRecDepth 100000 in
theorem door_met (os : Os) (args : Array Value) : laidMetH Tryd.prog laidL ((World.laidAll Tryd.prog os laidL).forCall (fun _ _ => 0) ⟨#[], args, []⟩).memory := by
  rw [plainL]
  exact laidMet_laidAll _ (by kernel_rfl) (by kernel_rfl)
end Go.Proofs.YtbmajijnjkicmaaDoor.advanceAsks




namespace Go.Proofs.YtbmajijnjkicmaaDoor.advanceAsks
open Go.ChangeShapes Go.WideShapes Go.ChangeAt Go.RowKit
set_option linter.unusedVariables false

set_option maxRecDepth 100000 in
theorem lifted (os : Os) (started : os.Started) (H : Type) (enc : TypeId × Value → H) :
    ReturnsInHanded {} Tryd.checked os 3 .any (fun w args => (Rows.advanceAsksSpec.pre enc Tryd.prog Tryd.f3 [] false w args ∧ laidMetH Tryd.prog laidL w) ∧ sizedMet enc Tryd.prog Tryd.f3 (OpenSpec.ofChange Rows.advanceAsksSpec) false w args) (Rows.advanceAsksSpec.post enc Tryd.prog Tryd.f3 false true false false) := by
  refine returnsInHanded_of_change_and (C := Tryd.checked) (X := fun w _ => laidMetH Tryd.prog laidL w) (fun _ _ _ hh h => h.of_heap hh) own started (by kernel_rfl) Tryd.func3
    (ChangeSpec.witness_shaped (enc := enc) (C := Tryd.checked) (os := os) (X := fun w _ => laidMetH Tryd.prog laidL w) false (World.laidAll Tryd.prog os laidL) #[.agg #[.int .i64 0, .slice none 0 0], .int .i64 0, .int .i64 0, .slice none 0 0] 8 (World.laidAll_os _ _ _) (World.shaped_of_ZipB (by kernel_rfl) (by kernel_rfl)) (by kernel_rfl) (by kernel_rfl) (by kernel_rfl) (door_met os _)) ?_
  intro W base args ds gs before hval0 hW hcnd hsz0 hX _
  have hG : GR (allOf W) := by rw [plainL] at hX; obtain ⟨_, hv, _⟩ := hX; exact gr_of hv
  have hval : ∀ (j : Nat) t v, Tryd.f3.params[j]? = some t → args[j]? = some v → Value.okWide Tryd.prog W .any base t v := hval0
  have hW' := hW
  obtain ⟨p, q, hA0, hV, rfl, hfz, hnd⟩ := hW
  have hA : DataW.TrodAll enc Tryd.prog W 0 (fun _ => true) true Tryd.f3.params.toList args.toList ds p := hA0
  have hsz : (DataW.weightsEach Tryd.prog (Tryd.f3.params.toList ++ Rows.advanceAsksSpec.plain.varTypes Tryd.prog) (ds ++ gs)).all (· ≤ reachBytes) = true := hsz0
  clear hsz0
  rw [Tryd.params3] at hA hval hsz
  obtain ⟨v0, vs0, d0, ds0, p0, q0, hargs, rfl, rfl, h0, r0⟩ := trodAll_cons hA
  obtain ⟨v1, vs1, d1, ds1, p1, q1, rfl, rfl, rfl, h1, r1⟩ := trodAll_cons r0
  obtain ⟨v2, vs2, d2, ds2, p2, q2, rfl, rfl, rfl, h2, r2⟩ := trodAll_cons r1
  obtain ⟨v3, vs3, d3, ds3, p3, q3, rfl, rfl, rfl, h3, r3⟩ := trodAll_cons r2
  obtain ⟨rfl, rfl, rfl⟩ := trodAll_nil r3
  obtain rfl : args = #[v0, v1, v2, v3] := by cases args; simp_all
  obtain ⟨rfl, rfl⟩ := trodVars_none hV
  have lt0 : ∀ x ∈ p0, x.block < W.heap.size := by obtain ⟨m, hm⟩ := h0; exact DataW.trod_lt m _ _ _ hm
  have lt1 : ∀ x ∈ p1, x.block < W.heap.size := by obtain ⟨m, hm⟩ := h1; exact DataW.trod_lt m _ _ _ hm
  have lt2 : ∀ x ∈ p2, x.block < W.heap.size := by obtain ⟨m, hm⟩ := h2; exact DataW.trod_lt m _ _ _ hm
  have lt3 : ∀ x ∈ p3, x.block < W.heap.size := by obtain ⟨m, hm⟩ := h3; exact DataW.trod_lt m _ _ _ hm
  refine (advanceAsks_walk enc base v0 v1 v2 v3 W (hval 0 24 v0 rfl rfl) ⟨_, _, h0, Small.arg hsz (j := 0) rfl rfl⟩ (hval 1 3 v1 rfl rfl) ⟨_, _, h1, Small.arg hsz (j := 1) rfl rfl⟩ (hval 2 3 v2 rfl rfl) ⟨_, _, h2, Small.arg hsz (j := 2) rfl rfl⟩ (hval 3 25 v3 rfl rfl) ⟨_, _, h3, Small.arg hsz (j := 3) rfl rfl⟩ hG).mono fun e W' ⟨he, bel⟩ => ?_
  subst he
  exact ⟨_, rfl, _, _, _, [], _, [], hW', trodAll_mk1 (shut_bool Tryd.underlying4 _), (trodAll_cons_mk (Below.trod laidOut (by kernel_rfl) (of_decide_eq_true (by kernel_rfl)) h0 bel lt0) (trodAll_cons_mk (Below.trod laidOut (by kernel_rfl) (of_decide_eq_true (by kernel_rfl)) h1 bel lt1) (trodAll_cons_mk (Below.trod laidOut (by kernel_rfl) (of_decide_eq_true (by kernel_rfl)) h2 bel lt2) (trodAll_cons_mk (Below.trod laidOut (by kernel_rfl) (of_decide_eq_true (by kernel_rfl)) h3 bel lt3) trodAll_mk0)))), rfl, bel.frame _, fun h => by cases h⟩

end Go.Proofs.YtbmajijnjkicmaaDoor.advanceAsks


