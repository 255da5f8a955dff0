/- Texts of this claim, joined. No condition. -/
import Derived.Test.YtbmajijnjkicmaaGreatDoorAFJ1
import Derived.Test.YtbmajijnjkicmaaGreatDoorAFJ3
import Derived.Test.YtbmajijnjkicmaaGreatDoorAFJ4
import Derived.Test.YtbmajijnjkicmaaGreatDoorAFJ5
import Derived.KernelRfl
import Derived.OpenShut
import Derived.ProofKit
import Derived.ShutString
import Derived.ChangeOld
import Derived.Below
import Derived.SizedLaws
import Derived.Lay
import Derived.LaidMore
import Derived.Test.YtbmajijnjkicmaaGreatDoorTie
import Derived.Test.YtbmajijnjkicmaaGreatDoorCards
import Derived.SevenTiedAt
set_option linter.unusedSimpArgs false
set_option linter.unusedVariables false

namespace Go.Proofs.YtbmajijnjkicmaaGreatDoor
set_option linter.unusedSimpArgs false
set_option linter.unusedVariables false
open Go.Proofs.YtbmajijnjkicmaaGreatDoor RX
set_option maxRecDepth 100000

theorem aAbove_ok (rnd w who : Int) (hr : rnd + 1 ≤ 9223372036854775807 ∧ 0 ≤ rnd) : Tri Tryz.prog 66 #[.agg #[.int .i64 rnd, .int .i64 w], .int .i64 who] HP.tt (fun v => HP.pure (v = .agg #[.int .i64 (rnd + 1), .int .i64 who])) := by
  refine tri_of_tree (ρ := [.i rnd, .i w, .i who]) mixed Tryz.func66 tree_aAbove ?_
  unfold t_aAbove
  simp only [T.den, E.prop, E.den, RX.look, F1.app, F2.app, Uni.int_i, Uni.nat_n, Uni.bool_c, Uni.str_s, Uni.adr_a, Uni.val_v, Uni.hp_p, hden, cden, V.den, W.den, A.den, BR.den, SA.den, FV.den, capV, exs, exP, allP, Cur.app, List.map_cons, List.map_nil, List.cons_append, List.nil_append, List.drop_succ_cons, List.drop_zero, List.length_cons, List.length_nil, Nat.zero_add, Nat.reduceAdd, Int.neg_neg, Bool.not_not, List.append_nil, Nat.add_zero, List.getElem?_cons_zero, List.getElem?_cons_succ, Decidable.not_not, semW_eq, ne_eq, Nat.reduceEqDiff, not_false_eq_true]
  exact fun _ _ => ⟨inI64 _ (by omega) (by omega), fun _ => .of fun R h H => trivial⟩
theorem cloneRc_ok (S : HP) (a : Option Addr) (n c : Nat) (l : List UInt8) (hr : RdL S a n (l.map u8v)) (hl : l.length = n) (hb : n ≤ 140737488355328) :
    Tri Tryz.prog 74 #[.slice a n c] S (fun v => HP.ex fun a' => HP.ex fun c' => HP.and (v = .slice a' n c' ∧ n ≤ c') (HP.sep (RoB a' n l) S)) :=
  (clone8_ok S a n c l hr hl hb).post fun v => fun R h d ⟨a', c', e, H⟩ => by
    have hle := OwC.le (HP.sep_left H)
    obtain ⟨R1, h1, q1, q2, q3, q4, H1⟩ := (HP.ent.sep (OwC.share _ _ _ _ _ _) S) R h d H
    exact ⟨R1, h1, q1, q2, q3, q4, a', c', ⟨e, hle⟩, H1⟩
theorem bValueC_ok (b : Nat) (g : BSt) : Tri Tryz.prog 69 #[.pointer (some ⟨b, 0, none⟩)] (BRep b g) (fun v => HP.ex fun a => HP.ex fun c => HP.and (v = .slice a g.val.length c ∧ g.val.length ≤ c) (HP.sep (RoB a g.val.length g.val) (BRep b g))) := by
  refine (BRep.tri (K := HP.tt) fun va vc mp hB => ?_).weak (fun R h H => HP.sep_tt H) fun _ _ _ h => h
  refine tri_of_tree (ρ := [.n b, .i g.acc, .i g.rnd, .i g.who, .a va, .n g.val.length, .n vc, .p (RoB va g.val.length g.val), .i g.phase, .n mp, .p (HP.sep (MapA mp g.ans) HP.tt), .i g.agreed]) mixed Tryz.func69 tree_bValue ?_
  unfold t_bValue
  simp only [T.den, E.prop, E.den, RX.look, F1.app, F2.app, Uni.int_i, Uni.nat_n, Uni.bool_c, Uni.str_s, Uni.adr_a, Uni.val_v, Uni.hp_p, hden, cden, V.den, W.den, A.den, BR.den, SA.den, FV.den, capV, exs, exP, allP, Cur.app, List.map_cons, List.map_nil, List.cons_append, List.nil_append, List.drop_succ_cons, List.drop_zero, List.length_cons, List.length_nil, Nat.zero_add, Nat.reduceAdd, Int.neg_neg, Bool.not_not, List.append_nil, Nat.add_zero, List.getElem?_cons_zero, List.getElem?_cons_succ, Decidable.not_not, semW_eq, ne_eq, Nat.reduceEqDiff, not_false_eq_true]
  refine (cloneRc_ok (RoB va g.val.length g.val) va g.val.length vc g.val (RdL.ro _ _ _ _) rfl hB.2.2.2.2).weak (fun _ _ h => h) ?_
  rintro v R h ⟨a, c, ⟨rfl, hc⟩, H⟩
  refine ⟨a, _, c, RoB a g.val.length g.val, rfl, .of fun R h H => ⟨a, c, ⟨rfl, hc⟩, ?_⟩, H⟩
  have H2 := HP.pick [_, _, _, _] [3, 0, 1, 2] (by decide) rfl H
  exact HP.sep_mono H2 (fun _ h => h) fun y hy => ⟨va, vc, mp, hB, HP.sep_mono hy (fun _ h => h) fun z hz => HP.sep_mono hz (fun _ h => h) fun w hw => HP.sep_left hw⟩
theorem decP_right {l : List UInt8} (h : (decP l).2 = 0) : rightB (decP l).1 = true := by
  unfold decP at h ⊢
  split at h
  · exact absurd h (by decide)
  · rename_i i hu
    split at h
    · exact absurd h (by decide)
    · rename_i hn
      rw [if_neg hn]
      cases hq : rightB (rawP i).1 with
      | true => rfl
      | false => exact absurd (.inr (.inr hq)) hn
def outA (g : AdvS) (s' : BSt) : AdvS :=
  if s'.phase = 4 then { g with prop := some (startB g.units (s'.rnd + 1) g.who g.own) }
  else if s'.phase = 3 then (if (decP s'.val).2 ≠ 0 ∨ (decP s'.val).1.ep ≠ g.old.ep + 1 then { g with prop := some s', st := 6 } else { g with prop := some s', plan := (decP s'.val).1, st := 3, rep := fun _ => false })
  else { g with prop := some s' }
def stepB (s : BSt) (m : MS) (s' : BSt) : Prop := if m.kind = 6 then PromB s m.fr m.br m.bw m.val m.err s' else s' = accB s m.fr m.err
structure BSafe (s : BSt) : Prop where
  few : s.ans.length ≤ 100000
  av : ∀ x ∈ s.ans, x.2.val.length ≤ 100000000
  val : s.val.length ≤ 100000000
  rnd : 0 ≤ s.rnd ∧ s.rnd ≤ 1000000000
theorem takeB_ans (s : BSt) (f : Int) (x : BA) : (takeB s f x).1.ans = s.ans ++ [(f, x)] ∧ (takeB s f x).1.rnd = s.rnd := by
  unfold takeB
  split
  · exact ⟨rfl, rfl⟩
  · split <;> exact ⟨rfl, rfl⟩
theorem ChoseB.le' {L : List (Int × BA)} {v0 v : List UInt8} {B : Nat} (h : ChoseB (ansF L 0) v0 v) (h0 : v0.length ≤ B) (hL : ∀ x ∈ L, x.2.val.length ≤ B) : v.length ≤ B := by
  have aux : ∀ (L : List (Int × BA)) (i k : Int) (x : AnB), ansF L i k = some x → ∃ y ∈ L, y.2.val = x.val := fun L => by
    induction L with
    | nil => intro i k x h; cases h
    | cons y L ih =>
      intro i k x h
      simp only [ansF] at h
      split at h
      · cases h; exact ⟨y, by simp, rfl⟩
      · obtain ⟨z, hz, e⟩ := ih (i + 1) k x h; exact ⟨z, List.mem_cons_of_mem _ hz, e⟩
  rcases h with ⟨_, rfl⟩ | ⟨k, x, hx, _, rfl, _⟩
  · exact h0
  · obtain ⟨y, hy, e⟩ := aux L 0 k x hx
    rw [← e]; exact hL y hy
theorem BSafe.step {s s' : BSt} {m : MS} (h : BSafe s) (hm : m.val.length ≤ 100000000) (hf : s.ans.length ≤ 99999) (hp : stepB s m s') : BSafe s' := by
  have tk : ∀ (x : BA), x.val.length ≤ 100000000 → BSafe (takeB s m.fr x).1 := fun x hx => by
    obtain ⟨e1, e2⟩ := takeB_ans s m.fr x
    refine ⟨by rw [e1]; simp; omega, fun y hy => ?_, by rw [takeB_val]; exact h.val, by rw [e2]; exact h.rnd⟩
    rw [e1] at hy
    rcases List.mem_append.1 hy with hy | hy
    · exact h.av y hy
    · obtain rfl := List.mem_singleton.1 hy; exact hx
  unfold stepB at hp
  split at hp
  · unfold PromB at hp
    split at hp
    · have hx : (promA m.br m.bw m.val m.err).val.length ≤ 100000000 := by unfold promA; split <;> simp [hm]
      have ht := tk _ hx
      split at hp
      · obtain ⟨val, hch, rfl⟩ := hp
        refine ⟨by simp, (fun x hx => by cases hx), hch.le' h.val ht.av, ht.rnd⟩
      · subst hp; exact ht
    · subst hp; exact h
  · subst hp
    unfold accB
    split
    · have ht := tk ⟨decide (m.err = 0), 0, 0, []⟩ (by simp)
      split
      · exact ⟨ht.few, ht.av, ht.val, ht.rnd⟩
      · exact ht
    · exact h
section
variable {b : Nat} {g : AdvS} {r : ARw}
theorem aValueC_ok {s : BSt} (hp : g.prop = some s) : Tri Tryz.prog 69 #[oneC (.pointer r.pv)] (ARepR b g r) (fun v => HP.ex fun a => HP.ex fun c => HP.and (v = .slice a s.val.length c ∧ s.val.length ≤ c) (HP.sep (RoB a s.val.length s.val) (ARepR b g r))) :=
  (prop_tri (args := fun p => #[p]) (B := fun v => HP.ex fun a => HP.ex fun c => HP.and (v = .slice a s.val.length c ∧ s.val.length ≤ c) (RoB a s.val.length s.val)) (K := HP.tt) hp fun pb => (bValueC_ok pb s).weak (fun R h H => HP.sep_left H) fun v R h ⟨a, c, e, H⟩ => HP.sep_mono H (fun _ h => ⟨a, c, e, h⟩) fun _ h => h).weak (fun R h H => HP.sep_tt H) fun v R h ⟨h1, h2, d, l1, l2, ⟨a, c, e, H1⟩, H2⟩ => ⟨a, c, e, h1, h2, d, l1, l2, H1, H2⟩
theorem prop_chg {f : FuncId} {args : Value → Array Value} {s : BSt} {φ : Value → BSt → Prop} {K : HP} (hp : g.prop = some s) (t : ∀ pb, Tri Tryz.prog f (args (.pointer (some ⟨pb, 0, none⟩))) (HP.sep (BRep pb s) K) (fun v => HP.ex fun s' => HP.and (φ v s') (BRep pb s'))) :
    Tri Tryz.prog f (args (oneC (.pointer r.pv))) (HP.sep (ARepR b g r) K) (fun v => HP.ex fun s' => HP.and (φ v s') (ARepR b { g with prop := some s' } r)) := by
  refine (Tri.ex (A := fun pb => HP.and (r.pv = some ⟨pb, 0, none⟩ ∧ ROk g r) (HP.sep (HP.sep (BRep pb s) K) (HP.sep (AOne b g r) (ARo g r)))) fun pb => Tri.pure fun ⟨e, hok⟩ => ?_).weak (fun R h H => ?_) fun _ _ _ h => h
  · rw [e]
    refine ((t pb).frame (HP.sep (AOne b g r) (ARo g r))).weak (fun _ _ h => h) fun v R h ⟨h1, h2, d, l1, l2, ⟨s', hf, H1⟩, H2⟩ => ⟨s', hf, ⟨hok.o, hok.p, hok.ob, hok.pb, hok.wb⟩, ?_⟩
    have H3 : (HP.sep (BRep pb s') (HP.sep (AOne b g r) (ARo g r))).p R h := ⟨h1, h2, d, l1, l2, H1, H2⟩
    refine HP.sep_mono (HP.pick [BRep pb s', AOne b g r, ARo g r] [1, 0, 2] (by decide) rfl H3) (fun _ h => h) fun z hz => HP.sep_mono hz (fun w hw => ?_) fun _ h => h
    rw [e]
    exact ⟨pb, rfl, hw⟩
  · obtain ⟨h1, h2, d, l1, l2, ⟨hok, H⟩, HK⟩ := H
    rw [hp] at H
    obtain ⟨h3, h4, d2, l3, l4, HO, h5, h6, d3, l5, l6, ⟨pb, e, HB⟩, HR⟩ := H
    refine ⟨pb, ⟨e, hok⟩, ?_⟩
    have H9 : (HP.sep (HP.sep (AOne b g r) (HP.sep (BRep pb s) (ARo g r))) K).p R h := ⟨h1, h2, d, l1, l2, ⟨h3, h4, d2, l3, l4, HO, h5, h6, d3, l5, l6, HB, HR⟩, HK⟩
    have H10 := HP.sep_mono (HP.sep_assoc H9) (fun _ h => h) fun y hy => HP.sep_assoc hy
    exact HP.sep_assoc' (HP.pick [AOne b g r, BRep pb s, ARo g r, K] [1, 3, 0, 2] (by decide) rfl H10)
theorem aStPl {p : PlP} {a : Option Addr} {c : Nat} {es : List ChE} (hr : rightB p = true) (he : es.map (·.l) = p.ch) : OTri Tryz.prog (storeS 25 (.pointer (some ⟨b, 21, none⟩)) (.agg #[.int .i64 p.ep, .slice a es.length c])) (HP.sep (ARepR b g r) (Ls kCh a es.length es))
    (fun v => HP.and (v = .tuple #[]) (HP.sep (ARepR b { g with plan := p } { r with pa := a, pc := c, pes := es }) (Ls kCh a es.length es))) := by
  refine OTri.fact (φ := ROk g r) (fun R h H => (HP.sep_left H).1) fun hok => ?_
  obtain ⟨i, hi, hz⟩ := Option.map_eq_some_iff.1 (show (Tryz.prog.info? 25).map (fun i => i.size) = some 2 by kernel_rfl)
  have hR := rightP hr
  refine (stBN (e := 76) (b := b) (k := 21) (cs := (advL g r).toArray) (cs' := (advL { g with plan := p } { r with pa := a, pc := c, pes := es }).toArray) (vs := [.int .i64 p.ep, .slice a es.length c]) hi rfl hz (by simp) (fun v hv => by
    rcases List.mem_cons.1 hv with h | h
    · subst h; rfl
    · obtain rfl := List.mem_singleton.1 h; rfl) (by simp [advL_len]) rfl (HP.sep (HP.sep (PropR r.pv g.prop) (ARo g r)) (Ls kCh a es.length es))).weak (fun R h H => HP.sep_assoc (HP.sep_mono H (fun _ h => h.2) fun _ h => h)) ?_
  rintro v R h ⟨e, H⟩
  refine ⟨e, ?_⟩
  have hl : (Ls kCh a es.length es).p R h := HP.sep_right (HP.sep_right H)
  have hro : (ARo g r).p R h := HP.sep_right (HP.sep_left (HP.sep_right H))
  refine HP.sep_comm ⟨PH.none', h, PH.none_dj _, PH.none_le _, PH.le.refl _, Ls.pers _ hl, ⟨hok.o, he, hok.ob, ⟨?_, fun x hx => ?_⟩, hok.wb⟩, HP.sep_mono H (fun _ h => h) fun y hy => HP.sep_mono (HP.sep_left hy) (fun _ h => h) fun z _ => ⟨Ls.pers z hro.1, hro.2.1, Ls.pers z hl⟩⟩
  · have := hR.len7
    rw [← he, List.length_map] at this; show es.length ≤ 1000; omega
  · have := (hR.chain (show x.l ∈ p.ch by rw [← he]; exact List.mem_map.2 ⟨x, hx, rfl⟩)).2.2
    omega
theorem aSt7 : OTri Tryz.prog (storeS 73 (.pointer (some ⟨b, 5, none⟩)) (.agg #[.bool false, .bool false, .bool false, .bool false, .bool false, .bool false, .bool false])) (ARepR b g r)
    (fun v => HP.and (v = .tuple #[]) (ARepR b { g with rep := fun _ => false } r)) := by
  refine OTri.fact (φ := ROk g r) (fun R h H => H.1) fun hok => ?_
  obtain ⟨i, hi, hz⟩ := Option.map_eq_some_iff.1 (show (Tryz.prog.info? 73).map (fun i => i.size) = some 7 by kernel_rfl)
  refine (stBN (e := 76) (b := b) (k := 5) (cs := (advL g r).toArray) (cs' := (advL { g with rep := fun _ => false } r).toArray) (vs := bl7 fun _ => false) hi rfl (by rw [hz, bl7_len]) (by rw [bl7_len]; decide) (fun v hv => by
    obtain ⟨_, _, rfl⟩ := List.mem_map.1 hv; rfl) (by rw [bl7_len]; simp [advL_len]) rfl (HP.sep (PropR r.pv g.prop) (ARo g r))).weak (fun R h H => H.2) ?_
  rintro v R h ⟨e, H⟩
  exact ⟨e, ⟨hok.o, hok.p, hok.ob, hok.pb, hok.wb⟩, H⟩
set_option maxHeartbeats 4000000 in
theorem aChose_ok (m : MS) (ca : Option Addr) (cc : Nat) (va : Option Addr) (vc : Nat) (s : BSt) (hp : g.prop = some s) (hs : ASafe g) (hB : BSafe s) (hf : s.ans.length ≤ 99999) (hmv : m.val.length ≤ 100000000) (hu : g.units ≤ 10000) (hown : g.own.length ≤ 1000000) (D : HP) :
    Tri Tryz.prog 35 #[.pointer (some ⟨b, 0, none⟩), .agg (m.raw ca cc va vc).vals] (HP.sep (ARepR b g r) (HP.sep D (m.Vro va))) (fun v => HP.ex fun s' => HP.and (v = .tuple #[] ∧ stepB s m s') (ARep b (outA g s'))) := by
  refine tri_of_tree (ρ := [.n b, .p (ARepR b g r), .i m.fr, .i m.to, .i m.num, .c m.rep, .i m.kind, .i m.ep, .i m.at', .i m.cell.what, .a ca, .n m.cell.data.length, .n cc, .p D, .i m.br, .i m.bw, .a va, .n m.val.length, .n vc, .p (m.Vro va), .i m.err, .i m.tail, .i m.low, .i m.back]) mixed Tryz.func35 tree_aChose ?_
  unfold t_aChose
  simp only [T.den, E.prop, E.den, RX.look, F1.app, F2.app, Uni.int_i, Uni.nat_n, Uni.bool_c, Uni.str_s, Uni.adr_a, Uni.val_v, Uni.hp_p, hden, cden, V.den, W.den, A.den, BR.den, SA.den, FV.den, capV, exs, exP, allP, Cur.app, List.map_cons, List.map_nil, List.cons_append, List.nil_append, List.drop_succ_cons, List.drop_zero, List.length_cons, List.length_nil, Nat.zero_add, Nat.reduceAdd, Int.neg_neg, Bool.not_not, List.append_nil, Nat.add_zero, List.getElem?_cons_zero, List.getElem?_cons_succ, Decidable.not_not, semW_eq, semW_load, semW_store, semW_storeC, ne_eq, Nat.reduceEqDiff, not_false_eq_true]
  intro _
  refine ⟨fun h6 => ⟨.pointer r.pv, aLdP, ?_⟩, fun h6 => ⟨.pointer r.pv, aLdP, ?_⟩⟩
  · refine (prop_chg (args := fun p => #[p, .int .i64 m.fr, .agg #[.int .i64 m.br, .int .i64 m.bw], .slice va m.val.length vc, .int .i64 m.err]) (φ := fun v s' => v = .tuple #[] ∧ PromB s m.fr m.br m.bw m.val m.err s') (K := m.Vro va) hp fun pb => bPromised_ok pb s m.fr m.br m.bw m.err va vc m.val (by omega) (fun x hx => by have := hB.av x hx; omega) (by omega)).weak (fun _ _ h => h) ?_
    rintro v R h ⟨s', ⟨rfl, hP⟩, H⟩
    have hs' : stepB s m s' := by unfold stepB; rw [if_pos h6]; exact hP
    have hb' := hB.step hmv hf hs'
    refine ⟨ARepR b { g with prop := some s' } r, HP.tt, rfl, ?_, HP.sep_tt H⟩
    clear H
    refine ⟨.pointer r.pv, aLdP, ?_⟩
    refine (aPhase_ok (g := { g with prop := some s' }) rfl).weak (fun _ _ h => h) ?_
    rintro v R h ⟨rfl, H⟩
    refine ⟨_, rfl, ⟨fun h4 => ?_, fun h4 => ⟨fun h3 => ?_, fun h3 => .of fun R h H => ⟨s', ⟨trivial, hs'⟩, ?_⟩⟩⟩, H⟩
    · clear H
      refine ⟨g.units, aLdI rfl, .pointer r.pv, aLdP, g.who, aLdI rfl, r.wa, g.own.length, r.wc, aLdW, ?_⟩
      refine (aBallot_ok (g := { g with prop := some s' }) rfl).weak (fun _ _ h => h) ?_
      rintro v R h ⟨rfl, H⟩
      refine ⟨_, _, rfl, ?_, H⟩
      clear H
      refine (aAbove_ok s'.rnd s'.who g.who (by have := hb'.rnd; omega)).weak (fun _ _ _ => trivial) ?_
      rintro v R h rfl
      refine ⟨_, _, rfl, ?_, trivial⟩
      refine (bStart_ok g.units (s'.rnd + 1) g.who hu (ARepR b { g with prop := some s' } r) r.wa g.own.length r.wc g.own ⟨Rd.impR (RoC.rd _ _ _ _) fun R h H => (ARepR.ro H).2.1, fun R h H e => (RdL.ro _ _ _ _).none R h (ARepR.ro H).2.1 e⟩ rfl (by omega)).weak (fun _ _ h => h) ?_
      rintro v R h ⟨pb, rfl, H⟩
      refine ⟨.pointer (some ⟨pb, 0, none⟩), BRep pb (startB g.units (s'.rnd + 1) g.who g.own), _, rfl, ?_, HP.sep_comm H⟩
      clear H
      refine (aStP (b := b) (g := { g with prop := some s' }) (r := r)).weak (fun _ _ h => h) ?_
      rintro v R h ⟨rfl, H⟩
      refine ⟨_, rfl, .of fun R h H => ⟨s', ⟨trivial, hs'⟩, { r with pv := some ⟨pb, 0, none⟩ }, ?_⟩, H⟩
      unfold outA
      rw [if_pos h4]
      exact HP.sep_left H
    · clear H
      have hout : outA g s' = if (decP s'.val).2 ≠ 0 ∨ (decP s'.val).1.ep ≠ g.old.ep + 1 then { g with prop := some s', st := 6 } else { g with prop := some s', plan := (decP s'.val).1, st := 3, rep := fun _ => false } := by
        unfold outA; rw [if_neg h4, if_pos h3]
      refine ⟨.pointer r.pv, aLdP, ?_⟩
      refine (aValueC_ok (g := { g with prop := some s' }) rfl).weak (fun _ _ h => h) ?_
      rintro v R h ⟨a1, c1, ⟨rfl, hc1⟩, H⟩
      refine ⟨a1, _, c1, RoB a1 s'.val.length s'.val, rfl, ?_, H⟩
      clear H
      refine (plDec_ok a1 s'.val.length c1 s'.val (RoB a1 s'.val.length s'.val) (RdL.ro _ _ _ _) rfl hc1 hb'.val).weak (fun _ _ h => h) ?_
      rintro v R h ⟨a2, c2, es, ⟨rfl, hes⟩, H⟩
      refine ⟨(decP s'.val).1.ep, a2, es.length, c2, Ls kCh a2 es.length es, (decP s'.val).2, _, rfl, fun _ => ?_, H⟩
      clear H
      refine ⟨fun c => c = decide ((decP s'.val).2 ≠ 0 ∨ (decP s'.val).1.ep ≠ g.old.ep + 1), ⟨fun h5 => ?_, fun h5 => ?_⟩, ?_⟩
      · exact (decide_eq_true (.inl h5)).symm
      · refine (aEpoch_ok (g := { g with prop := some s' }) hs.e0 hs.e1).weak (fun _ _ h => h) ?_
        rintro v R h ⟨rfl, H⟩
        refine ⟨_, rfl, ?_, H⟩
        show (!decide ((decP s'.val).1.ep = g.old.ep + 1)) = _
        have h5' : (decP s'.val).2 = 0 := h5
        by_cases hb : (decP s'.val).1.ep = g.old.ep + 1
        · rw [decide_eq_true hb, decide_eq_false (fun h => h.elim (fun h => h h5') (fun h => h hb))]; rfl
        · rw [decide_eq_false hb, decide_eq_true (.inr hb)]; rfl
      · rintro _ rfl
        refine ⟨fun h6 => ?_, fun h6 => ?_⟩
        · refine (aStSt (b := b) (g := { g with prop := some s' }) (r := r)).weak (fun _ _ h => h) ?_
          rintro v R h ⟨rfl, H⟩
          refine ⟨_, rfl, .of fun R h H => ⟨s', ⟨trivial, hs'⟩, r, ?_⟩, H⟩
          rw [hout, if_pos (of_decide_eq_true h6)]
          exact HP.sep_left H
        · have h6' : ¬ ((decP s'.val).2 ≠ 0 ∨ (decP s'.val).1.ep ≠ g.old.ep + 1) := fun h => h6 (decide_eq_true h)
          have h0' : (decP s'.val).2 = 0 := Classical.byContradiction fun h => h6' (.inl h)
          refine (aStPl (b := b) (g := { g with prop := some s' }) (r := r) (p := (decP s'.val).1) (a := a2) (c := c2) (es := es) (decP_right h0') hes).weak (fun _ _ h => h) ?_
          rintro v R h ⟨rfl, H⟩
          refine ⟨ARepR b { g with prop := some s', plan := (decP s'.val).1 } { r with pa := a2, pc := c2, pes := es }, rfl, ?_, H⟩
          clear H
          refine (aStSt (b := b) (g := { g with prop := some s', plan := (decP s'.val).1 }) (r := { r with pa := a2, pc := c2, pes := es })).weak (fun _ _ h => h) ?_
          rintro v R h ⟨rfl, H⟩
          refine ⟨ARepR b { g with prop := some s', plan := (decP s'.val).1, st := 3 } { r with pa := a2, pc := c2, pes := es }, rfl, ?_, H⟩
          clear H
          refine (aSt7 (b := b) (g := { g with prop := some s', plan := (decP s'.val).1, st := 3 }) (r := { r with pa := a2, pc := c2, pes := es })).weak (fun _ _ h => h) ?_
          rintro v R h ⟨rfl, H⟩
          refine ⟨_, rfl, .of fun R h H => ⟨s', ⟨trivial, hs'⟩, { r with pa := a2, pc := c2, pes := es }, ?_⟩, H⟩
          rw [hout, if_neg h6']
          exact HP.sep_left H
    · unfold outA
      rw [if_neg h4, if_neg h3]
      exact ⟨r, HP.sep_left H⟩
  · refine (prop_chg (args := fun p => #[p, .int .i64 m.fr, .int .i64 m.err]) (φ := fun v s' => v = .tuple #[] ∧ s' = accB s m.fr m.err) (K := HP.tt) hp fun pb => (bAccepted_ok pb s m.fr m.err (by omega)).weak (fun R h H => HP.sep_left H) fun v R h ⟨e, H⟩ => ⟨_, ⟨e, rfl⟩, H⟩).weak (fun R h H => HP.sep_tt H) ?_
    rintro v R h ⟨s', ⟨rfl, hP⟩, H⟩
    have hs' : stepB s m s' := by unfold stepB; rw [if_neg h6]; exact hP
    have hb' := hB.step hmv hf hs'
    refine ⟨ARepR b { g with prop := some s' } r, rfl, ?_, H⟩
    clear H
    refine ⟨.pointer r.pv, aLdP, ?_⟩
    refine (aPhase_ok (g := { g with prop := some s' }) rfl).weak (fun _ _ h => h) ?_
    rintro v R h ⟨rfl, H⟩
    refine ⟨_, rfl, ⟨fun h4 => ?_, fun h4 => ⟨fun h3 => ?_, fun h3 => .of fun R h H => ⟨s', ⟨trivial, hs'⟩, ?_⟩⟩⟩, H⟩
    · clear H
      refine ⟨g.units, aLdI rfl, .pointer r.pv, aLdP, g.who, aLdI rfl, r.wa, g.own.length, r.wc, aLdW, ?_⟩
      refine (aBallot_ok (g := { g with prop := some s' }) rfl).weak (fun _ _ h => h) ?_
      rintro v R h ⟨rfl, H⟩
      refine ⟨_, _, rfl, ?_, H⟩
      clear H
      refine (aAbove_ok s'.rnd s'.who g.who (by have := hb'.rnd; omega)).weak (fun _ _ _ => trivial) ?_
      rintro v R h rfl
      refine ⟨_, _, rfl, ?_, trivial⟩
      refine (bStart_ok g.units (s'.rnd + 1) g.who hu (ARepR b { g with prop := some s' } r) r.wa g.own.length r.wc g.own ⟨Rd.impR (RoC.rd _ _ _ _) fun R h H => (ARepR.ro H).2.1, fun R h H e => (RdL.ro _ _ _ _).none R h (ARepR.ro H).2.1 e⟩ rfl (by omega)).weak (fun _ _ h => h) ?_
      rintro v R h ⟨pb, rfl, H⟩
      refine ⟨.pointer (some ⟨pb, 0, none⟩), BRep pb (startB g.units (s'.rnd + 1) g.who g.own), _, rfl, ?_, HP.sep_comm H⟩
      clear H
      refine (aStP (b := b) (g := { g with prop := some s' }) (r := r)).weak (fun _ _ h => h) ?_
      rintro v R h ⟨rfl, H⟩
      refine ⟨_, rfl, .of fun R h H => ⟨s', ⟨trivial, hs'⟩, { r with pv := some ⟨pb, 0, none⟩ }, ?_⟩, H⟩
      unfold outA
      rw [if_pos h4]
      exact HP.sep_left H
    · clear H
      have hout : outA g s' = if (decP s'.val).2 ≠ 0 ∨ (decP s'.val).1.ep ≠ g.old.ep + 1 then { g with prop := some s', st := 6 } else { g with prop := some s', plan := (decP s'.val).1, st := 3, rep := fun _ => false } := by
        unfold outA; rw [if_neg h4, if_pos h3]
      refine ⟨.pointer r.pv, aLdP, ?_⟩
      refine (aValueC_ok (g := { g with prop := some s' }) rfl).weak (fun _ _ h => h) ?_
      rintro v R h ⟨a1, c1, ⟨rfl, hc1⟩, H⟩
      refine ⟨a1, _, c1, RoB a1 s'.val.length s'.val, rfl, ?_, H⟩
      clear H
      refine (plDec_ok a1 s'.val.length c1 s'.val (RoB a1 s'.val.length s'.val) (RdL.ro _ _ _ _) rfl hc1 hb'.val).weak (fun _ _ h => h) ?_
      rintro v R h ⟨a2, c2, es, ⟨rfl, hes⟩, H⟩
      refine ⟨(decP s'.val).1.ep, a2, es.length, c2, Ls kCh a2 es.length es, (decP s'.val).2, _, rfl, fun _ => ?_, H⟩
      clear H
      refine ⟨fun c => c = decide ((decP s'.val).2 ≠ 0 ∨ (decP s'.val).1.ep ≠ g.old.ep + 1), ⟨fun h5 => ?_, fun h5 => ?_⟩, ?_⟩
      · exact (decide_eq_true (.inl h5)).symm
      · refine (aEpoch_ok (g := { g with prop := some s' }) hs.e0 hs.e1).weak (fun _ _ h => h) ?_
        rintro v R h ⟨rfl, H⟩
        refine ⟨_, rfl, ?_, H⟩
        show (!decide ((decP s'.val).1.ep = g.old.ep + 1)) = _
        have h5' : (decP s'.val).2 = 0 := h5
        by_cases hb : (decP s'.val).1.ep = g.old.ep + 1
        · rw [decide_eq_true hb, decide_eq_false (fun h => h.elim (fun h => h h5') (fun h => h hb))]; rfl
        · rw [decide_eq_false hb, decide_eq_true (.inr hb)]; rfl
      · rintro _ rfl
        refine ⟨fun h6 => ?_, fun h6 => ?_⟩
        · refine (aStSt (b := b) (g := { g with prop := some s' }) (r := r)).weak (fun _ _ h => h) ?_
          rintro v R h ⟨rfl, H⟩
          refine ⟨_, rfl, .of fun R h H => ⟨s', ⟨trivial, hs'⟩, r, ?_⟩, H⟩
          rw [hout, if_pos (of_decide_eq_true h6)]
          exact HP.sep_left H
        · have h6' : ¬ ((decP s'.val).2 ≠ 0 ∨ (decP s'.val).1.ep ≠ g.old.ep + 1) := fun h => h6 (decide_eq_true h)
          have h0' : (decP s'.val).2 = 0 := Classical.byContradiction fun h => h6' (.inl h)
          refine (aStPl (b := b) (g := { g with prop := some s' }) (r := r) (p := (decP s'.val).1) (a := a2) (c := c2) (es := es) (decP_right h0') hes).weak (fun _ _ h => h) ?_
          rintro v R h ⟨rfl, H⟩
          refine ⟨ARepR b { g with prop := some s', plan := (decP s'.val).1 } { r with pa := a2, pc := c2, pes := es }, rfl, ?_, H⟩
          clear H
          refine (aStSt (b := b) (g := { g with prop := some s', plan := (decP s'.val).1 }) (r := { r with pa := a2, pc := c2, pes := es })).weak (fun _ _ h => h) ?_
          rintro v R h ⟨rfl, H⟩
          refine ⟨ARepR b { g with prop := some s', plan := (decP s'.val).1, st := 3 } { r with pa := a2, pc := c2, pes := es }, rfl, ?_, H⟩
          clear H
          refine (aSt7 (b := b) (g := { g with prop := some s', plan := (decP s'.val).1, st := 3 }) (r := { r with pa := a2, pc := c2, pes := es })).weak (fun _ _ h => h) ?_
          rintro v R h ⟨rfl, H⟩
          refine ⟨_, rfl, .of fun R h H => ⟨s', ⟨trivial, hs'⟩, { r with pa := a2, pc := c2, pes := es }, ?_⟩, H⟩
          rw [hout, if_neg h6']
          exact HP.sep_left H
    · unfold outA
      rw [if_neg h4, if_neg h3]
      exact ⟨r, HP.sep_left H⟩
end
end Go.Proofs.YtbmajijnjkicmaaGreatDoor



namespace Go.Proofs.YtbmajijnjkicmaaGreatDoor
set_option linter.unusedSimpArgs false
set_option linter.unusedVariables false
open Go.Proofs.YtbmajijnjkicmaaGreatDoor RX
set_option maxRecDepth 100000


def nowP (m x : MS) : Bool := decide (x.to = m.fr) && (decide (x.kind = m.kind) && (decide (x.ep = m.ep) && decide (x.at' = m.at')))
def nowB (g : AdvS) (m : MS) : Bool := (asksL g).any (nowP m)
def tolR (g : AdvS) (m : MS) (g' : AdvS) : Prop :=
  if m.rep = true ∧ nowB g m = true then
    (g.st = 1 → g' = sealA g m.fr.toNat m.err) ∧ (g.st = 2 → ∃ s s', g.prop = some s ∧ stepB s m s' ∧ g' = outA g s') ∧ (g.st = 3 → g' = tellA g m m.fr.toNat) ∧ (g.st = 4 → g' = { g with st := if m.err = 0 ∨ m.err = 8 then 5 else 6 }) ∧ (g.st ≠ 1 → g.st ≠ 2 → g.st ≠ 3 → g.st ≠ 4 → g' = g)
  else g' = g
structure TSafe (g : AdvS) : Prop where
  s : ASafe g
  r : g.st = 1 → rightB g.old = true
  u : g.units ≤ 10000
  w : g.own.length ≤ 1000000
  b : ∀ s, g.prop = some s → BSafe s ∧ s.ans.length ≤ 99999
theorem askA_to (g : AdvS) (u : Nat) : (askA g u).to = u := by
  unfold askA
  split
  · split <;> rfl
  · rfl
theorem nowB_fr {g : AdvS} {m : MS} (h : nowB g m = true) (h4 : g.st ≠ 4) : ∃ f : Nat, m.fr = f ∧ f < 7 ∧ askedA g f = true := by
  obtain ⟨x, hx, hp⟩ := List.any_eq_true.1 h
  unfold asksL at hx
  rw [if_neg h4] at hx
  obtain ⟨u, hu, rfl⟩ := List.mem_map.1 hx
  obtain ⟨hu1, hu2⟩ := List.mem_filter.1 hu
  have := of_decide_eq_true (Bool.and_eq_true_iff.1 hp).1
  rw [askA_to] at this
  exact ⟨u, this.symm, List.mem_range.1 hu1, hu2⟩
section
variable {b : Nat} {g : AdvS} {r : ARw}
theorem aAsksS_ok (hs : ASafe g) : Tri Tryz.prog 11 #[.pointer (some ⟨b, 0, none⟩)] (ARepR b g r) (fun v => HP.ex fun a => HP.ex fun c => HP.ex fun es : List MsE => HP.and (v = .slice a es.length c ∧ es.map (·.m) = asksL g) (HP.sep (Ls kMs a es.length es) (ARepR b g r))) :=
  (aAsksL_ok hs).post fun v => fun R h d ⟨a, c, es, e, H⟩ => by
    obtain ⟨R1, h1, q1, q2, q3, q4, H1⟩ := (HP.ent.sep (PL.share (K := kMs) (e := 41) (one := kMs_one) _ _ _ _) (ARepR b g r)) R h d H
    exact ⟨R1, h1, q1, q2, q3, q4, a, c, es, e, H1⟩
theorem fgoTo : Fgo Tryz.prog 33 := ⟨_, Tryz.func33, by kernel_rfl, by kernel_rfl⟩
abbrev MBox (x : Nat) (m : MS) (ca : Option Addr) (cc : Nat) (va : Option Addr) (vc : Nat) : HP := HP.one x (.cells (m.raw ca cc va vc).vals 41 (0, 0))
theorem told1_tri (x : Nat) (m : MS) (ca : Option Addr) (cc : Nat) (va : Option Addr) (vc : Nat) (S D V0 : HP) (y : MsE) :
    Tri Tryz.prog 33 #[.agg (y.m.raw y.ca y.cc y.va y.vc).vals, .pointer (some ⟨x, 0, none⟩)] (HP.sep S (HP.sep HP.tt (HP.sep (MBox x m ca cc va vc) (HP.sep D V0)))) fun v => HP.and (v = .bool (nowP m y.m)) (HP.sep S (HP.sep HP.tt (HP.sep (MBox x m ca cc va vc) (HP.sep D V0)))) := by
  refine tri_of_tree (ρ := [.i y.m.fr, .i y.m.to, .i y.m.num, .c y.m.rep, .i y.m.kind, .i y.m.ep, .i y.m.at', .i y.m.cell.what, .a y.ca, .n y.m.cell.data.length, .n y.cc, .p S, .i y.m.br, .i y.m.bw, .a y.va, .n y.m.val.length, .n y.vc, .p HP.tt, .i y.m.err, .i y.m.tail, .i y.m.low, .i y.m.back,
      .n x, .i m.fr, .i m.to, .i m.num, .c m.rep, .i m.kind, .i m.ep, .i m.at', .i m.cell.what, .a ca, .n m.cell.data.length, .n cc, .p D, .i m.br, .i m.bw, .a va, .n m.val.length, .n vc, .p V0, .i m.err, .i m.tail, .i m.low, .i m.back]) mixed Tryz.func33 tree_aTold1 ?_
  unfold t_aTold1
  simp only [T.den, E.prop, E.den, RX.look, F1.app, F2.app, Uni.int_i, Uni.nat_n, Uni.bool_c, Uni.str_s, Uni.adr_a, Uni.val_v, Uni.hp_p, hden, cden, V.den, W.den, A.den, BR.den, SA.den, FV.den, capV, exs, exP, allP, Cur.app, List.map_cons, List.map_nil, List.cons_append, List.nil_append, List.drop_succ_cons, List.drop_zero, List.length_cons, List.length_nil, Nat.zero_add, Nat.reduceAdd, Int.neg_neg, Bool.not_not, List.append_nil, Nat.add_zero, List.getElem?_cons_zero, List.getElem?_cons_succ, Decidable.not_not, semW_eq, ne_eq, Nat.reduceEqDiff, not_false_eq_true]
  intro _
  refine ⟨fun h1 => ⟨fun h2 => ⟨fun h3 => .of fun R h H => ⟨?_, H⟩, fun h3 => .of fun R h H => ⟨?_, H⟩⟩, fun h2 => .of fun R h H => ⟨?_, H⟩⟩, fun h1 => .of fun R h H => ⟨?_, H⟩⟩
  · unfold nowP; rw [decide_eq_true h1, decide_eq_true h2, decide_eq_true h3, Bool.true_and, Bool.true_and, Bool.true_and]
  · unfold nowP; rw [decide_eq_false h3, Bool.false_and, Bool.and_false, Bool.and_false]
  · unfold nowP; rw [decide_eq_false h2, Bool.false_and, Bool.and_false]
  · unfold nowP; rw [decide_eq_false h1, Bool.false_and]
theorem told1_ok (x : Nat) (m : MS) (ca : Option Addr) (cc : Nat) (va : Option Addr) (vc : Nat) (S D V0 : HP) (y : MsE) :
    VTri Tryz.prog (.func (.func 33) #[] #[.pointer (some ⟨x, 0, none⟩)]) #[.agg y.vals] (HP.sep (HP.sep (MBox x m ca cc va vc) (HP.sep D V0)) S) fun v => HP.and (v = .bool (nowP m y.m)) (HP.sep (HP.sep (MBox x m ca cc va vc) (HP.sep D V0)) S) :=
  .inl ⟨_, _, rfl, fgoTo, (told1_tri x m ca cc va vc S D V0 y).weak (fun R h H => HP.sep_mono (HP.sep_comm H) (fun _ h => h) fun z hz => HP.tt_sep hz) fun v R h ⟨e, H⟩ => ⟨e, HP.sep_comm (HP.sep_mono H (fun _ h => h) fun z hz => HP.sep_right hz)⟩⟩
set_option maxHeartbeats 2000000 in
theorem aTold_ok (m : MS) (ca : Option Addr) (cc : Nat) (va : Option Addr) (vc : Nat) (hs : TSafe g) (hmv : m.val.length ≤ 100000000) (D : HP) :
    Tri Tryz.prog 13 #[.pointer (some ⟨b, 0, none⟩), .agg (m.raw ca cc va vc).vals] (HP.sep (ARepR b g r) (HP.sep D (m.Vro va))) (fun v => HP.ex fun g' => HP.and (v = .tuple #[] ∧ tolR g m g') (ARep b g')) := by
  refine tri_of_tree (ρ := [.n b, .p (ARepR b g r), .i m.fr, .i m.to, .i m.num, .c m.rep, .i m.kind, .i m.ep, .i m.at', .i m.cell.what, .a ca, .n m.cell.data.length, .n cc, .p D, .i m.br, .i m.bw, .a va, .n m.val.length, .n vc, .p (m.Vro va), .i m.err, .i m.tail, .i m.low, .i m.back]) mixed Tryz.func13 tree_aTold ?_
  unfold t_aTold
  simp only [T.den, E.prop, E.den, RX.look, F1.app, F2.app, Uni.int_i, Uni.nat_n, Uni.bool_c, Uni.str_s, Uni.adr_a, Uni.val_v, Uni.hp_p, hden, cden, V.den, W.den, A.den, BR.den, SA.den, FV.den, capV, exs, exP, allP, Cur.app, List.map_cons, List.map_nil, List.cons_append, List.nil_append, List.drop_succ_cons, List.drop_zero, List.length_cons, List.length_nil, Nat.zero_add, Nat.reduceAdd, Int.neg_neg, Bool.not_not, List.append_nil, Nat.add_zero, List.getElem?_cons_zero, List.getElem?_cons_succ, Decidable.not_not, semW_eq, semW_load, semW_store, semW_storeC, ne_eq, Nat.reduceEqDiff, not_false_eq_true]
  intro x
  refine (aAsksS_ok hs.s).weak (fun _ _ h => h) ?_
  rintro v R h ⟨a, c, es, ⟨rfl, he⟩, H⟩
  refine ⟨a, es.length, c, Ls kMs a es.length es, rfl, ?_, H⟩
  clear H
  have hany : es.any (fun y => nowP m y.m) = nowB g m := by
    unfold nowB; rw [← he, List.any_map]; rfl
  have h7 := asksL_len g
  rw [← he, List.length_map] at h7
  refine (mContainsF_ok (Ls kMs a es.length es) (HP.sep (MBox x m ca cc va vc) (HP.sep D (m.Vro va))) a es.length c es (fun _ _ h => h) (by omega) (.func (.func 33) #[] #[.pointer (some ⟨x, 0, none⟩)]) rfl (fun y => nowP m y.m) fun y _ => told1_ok x m ca cc va vc _ _ _ y).weak (fun _ _ h => h) ?_
  rintro v R h ⟨rfl, H⟩
  rw [hany]
  refine ⟨_, rfl, ⟨fun h0 => .of fun R h H => ⟨g, ⟨trivial, ?_⟩, r, ?_⟩, fun h0 => ⟨fun h1 => .of fun R h H => ⟨g, ⟨trivial, ?_⟩, r, ?_⟩, fun h1 => ?_⟩⟩, H⟩
  all_goals first | exact HP.sep_left H | skip
  · unfold tolR; rw [if_neg (fun e => h0 e.1)]
  · unfold tolR; rw [if_neg (fun e => h1 e.2)]
  clear H
  have h1' : nowB g m = true := by simpa using h1
  have h0' : m.rep = true := by simpa using h0
  have key : ∀ g', ((g.st = 1 → g' = sealA g m.fr.toNat m.err) ∧ (g.st = 2 → ∃ s s', g.prop = some s ∧ stepB s m s' ∧ g' = outA g s') ∧ (g.st = 3 → g' = tellA g m m.fr.toNat) ∧ (g.st = 4 → g' = { g with st := if m.err = 0 ∨ m.err = 8 then 5 else 6 }) ∧ (g.st ≠ 1 → g.st ≠ 2 → g.st ≠ 3 → g.st ≠ 4 → g' = g)) → tolR g m g' := fun g' h => by
    unfold tolR; rw [if_pos ⟨h0', h1'⟩]; exact h
  refine ⟨g.st, aLdI rfl, fun s1 => ?_, fun s1 => ⟨fun s2 => ?_, fun s2 => ⟨fun s3 => ?_, fun s3 => ⟨fun s4 => ?_, fun s4 => .of fun R h H => ⟨g, ⟨trivial, key g ⟨fun h => absurd h s1, fun h => absurd h s2, fun h => absurd h s3, fun h => absurd h s4, fun _ _ _ _ => rfl⟩⟩, r, HP.sep_left H⟩⟩⟩⟩⟩
  · have s1' : g.st = 1 := s1
    obtain ⟨f, hf, hf7, _⟩ := nowB_fr h1' (by omega)
    refine (aSealed_ok m ca cc va vc f hf hf7 hs.s (hs.r s1') hs.u D (m.Vro va)).weak (fun _ _ h => h) ?_
    rintro v R h ⟨rfl, H⟩
    refine ⟨ARep b (sealA g f m.err), HP.tt, HP.tt, rfl, .of fun R h H => ⟨sealA g f m.err, ⟨trivial, key _ ⟨fun _ => by rw [hf, Int.toNat_natCast], by omega, by omega, by omega, by omega⟩⟩, HP.sep_left H⟩, HP.sep_tt (HP.sep_tt H) |> HP.sep_assoc⟩
  · have s2' : g.st = 2 := s2
    obtain ⟨s, hsp⟩ := Option.isSome_iff_exists.1 (hs.s.p2 s2')
    obtain ⟨hB, hf⟩ := hs.b s hsp
    refine (aChose_ok m ca cc va vc s hsp hs.s hB hf hmv hs.u hs.w D).weak (fun _ _ h => h) ?_
    rintro v R h ⟨s', ⟨rfl, hst⟩, H⟩
    refine ⟨ARep b (outA g s'), HP.tt, HP.tt, rfl, .of fun R h H => ⟨outA g s', ⟨trivial, key _ ⟨by omega, fun _ => ⟨s, s', hsp, hst, rfl⟩, by omega, by omega, by omega⟩⟩, HP.sep_left H⟩, HP.sep_tt (HP.sep_tt H) |> HP.sep_assoc⟩
  · have s3' : g.st = 3 := s3
    obtain ⟨f, hf, hf7, _⟩ := nowB_fr h1' (by omega)
    refine (aTell_ok m ca cc va vc f hf hf7 hs.s D (m.Vro va)).weak (fun _ _ h => h) ?_
    rintro v R h ⟨rfl, H⟩
    refine ⟨ARep b (tellA g m f), HP.tt, HP.tt, rfl, .of fun R h H => ⟨tellA g m f, ⟨trivial, key _ ⟨by omega, by omega, fun _ => by rw [hf, Int.toNat_natCast], by omega, by omega⟩⟩, HP.sep_left H⟩, HP.sep_tt (HP.sep_tt H) |> HP.sep_assoc⟩
  · have s4' : g.st = 4 := s4
    have k5 : (m.err = 0 ∨ m.err = 8) → tolR g m { g with st := 5 } := fun h => key _ ⟨by omega, by omega, by omega, fun _ => by rw [if_pos h], by omega⟩
    have k6 : ¬ (m.err = 0 ∨ m.err = 8) → tolR g m { g with st := 6 } := fun h => key _ ⟨by omega, by omega, by omega, fun _ => by rw [if_neg h], by omega⟩
    refine (aStSt (b := b) (g := g) (r := r)).weak (fun _ _ h => h) ?_
    rintro v R h ⟨rfl, H⟩
    refine ⟨ARepR b { g with st := 6 } r, rfl, ⟨fun e0 => ?_, fun e0 => ⟨fun e8 => ?_, fun e8 => .of fun R h H => ⟨_, ⟨trivial, k6 (fun h => h.elim e0 e8)⟩, r, HP.sep_left H⟩⟩⟩, H⟩
    · refine (aStSt (b := b) (g := { g with st := 6 }) (r := r)).weak (fun _ _ h => h) ?_
      rintro v R h ⟨rfl, H⟩
      exact ⟨ARepR b { g with st := 5 } r, rfl, .of fun R h H => ⟨_, ⟨trivial, k5 (.inl e0)⟩, r, HP.sep_left H⟩, H⟩
    · refine (aStSt (b := b) (g := { g with st := 6 }) (r := r)).weak (fun _ _ h => h) ?_
      rintro v R h ⟨rfl, H⟩
      exact ⟨ARepR b { g with st := 5 } r, rfl, .of fun R h H => ⟨_, ⟨trivial, k5 (.inr e8)⟩, r, HP.sep_left H⟩, H⟩
end

theorem ldPC {a : Option Addr} {n c : Nat} {es : List ChE} {k : Nat} {x : ChE} (hk : es[k]? = some x) :
    ORead Tryz.prog (loadS 60 (.pointer (a.map fun y => (y.add ((k : Int).toNat * 1)).add 0))) (PL pkC a n c es) (.slice x.a x.l.length x.c) := by
  refine load1_ok undI aggIs szIs (PL.rd (K := pkC) a n c es) (k := (k : Int).toNat * 1) (off := 0) ?_
  have := flat_getL kCh.vals 1 kCh.len es k 0 x hk (by omega)
  exact this
set_option maxHeartbeats 1000000 in
theorem aTwin_ok (S : HP) (ep : Int) (a : Option Addr) (n c : Nat) (es : List ChE) (hS : ∀ R h, S.p R h → (Ls kCh a n es).p R h) (hb : n ≤ 1000000000) (hx : ∀ x ∈ es, x.l.length ≤ 1000000000) :
    Tri Tryz.prog 28 #[.agg #[.int .i64 ep, .slice a n c]] S (fun v => HP.ex fun a' => HP.ex fun c' => HP.ex fun es' : List ChE => HP.and (v = .agg #[.int .i64 ep, .slice a' n c'] ∧ es'.map (·.l) = es.map (·.l)) (HP.sep (Ls kCh a' n es') S)) := by
  refine Tri.fact (φ := es.length = n) (fun R h H => (hS R h H).1) fun hl => ?_
  refine Tri.post (B := fun v => HP.ex fun a' => HP.ex fun c' => HP.ex fun es' : List ChE => HP.and (v = .agg #[.int .i64 ep, .slice a' n c'] ∧ es'.map (·.l) = es.map (·.l)) (HP.sep (PL pkC a' n c' es') S)) ?_ fun v => fun R h d ⟨a', c', es', e, H⟩ => by
    obtain ⟨R1, h1, q1, q2, q3, q4, H1⟩ := (HP.ent.sep (PL.share (K := kCh) (e := 60) (one := kCh_one) _ _ _ _) S) R h d H
    exact ⟨R1, h1, q1, q2, q3, q4, a', c', es', e, H1⟩
  refine tri_of_tree (ρ := [.i ep, .a a, .n n, .n c, .p S]) mixed Tryz.func28 tree_aTwin ?_
  unfold t_aTwin
  simp only [T.den, E.prop, E.den, RX.look, F1.app, F2.app, Uni.int_i, Uni.nat_n, Uni.bool_c, Uni.str_s, Uni.adr_a, Uni.val_v, Uni.hp_p, hden, cden, V.den, W.den, A.den, BR.den, SA.den, FV.den, capV, exs, exP, allP, Cur.app, List.map_cons, List.map_nil, List.cons_append, List.nil_append, List.drop_succ_cons, List.drop_zero, List.length_cons, List.length_nil, Nat.zero_add, Nat.reduceAdd, Int.neg_neg, Bool.not_not, List.append_nil, Nat.add_zero, List.getElem?_cons_zero, List.getElem?_cons_succ, Decidable.not_not, semW_eq, semW_load, semW_store, semW_storeC, ne_eq, Nat.reduceEqDiff, not_false_eq_true]
  intro _ _
  refine (cClone_ok S a n c es hS hb).weak (fun _ _ h => h) ?_
  rintro v R h ⟨a', c', rfl, H⟩
  have hsm : n ≠ 0 → a'.isSome = true := fun hn => PL.isAt (HP.sep_left H) hn
  refine ⟨a', n, c', PL pkC a' n c' es, S, rfl, ?_, H⟩
  clear H
  refine ⟨fun i P => ∃ k : Nat, ∃ es' : List ChE, i = k ∧ k ≤ n ∧ P = PL pkC a' n c' es' ∧ es'.map (·.l) = es.map (·.l), fun i _ => n - i.toNat, ⟨0, es, rfl, Nat.zero_le _, rfl, rfl⟩, ?_⟩
  rintro _ _ ⟨k, es', rfl, hk, rfl, he⟩
  have hl' : es'.length = n := by
    have := congrArg List.length he
    simp at this; omega
  refine ⟨fun hlt => ⟨by omega, fun _ => ⟨hsm (by omega), fun _ => ?_⟩⟩, fun hge => .of fun R h H => ⟨a', c', es', ⟨rfl, he⟩, HP.sep_comm H⟩⟩
  have hkl : k < es'.length := by omega
  have hg : es'[k]? = some es'[k] := List.getElem?_eq_getElem hkl
  have hm : es'[k] ∈ es' := List.getElem_mem hkl
  have hxl : es'[k].l.length ≤ 1000000000 := by
    have : es'[k].l ∈ es.map (·.l) := by rw [← he]; exact List.mem_map.2 ⟨_, hm, rfl⟩
    obtain ⟨y, hy, e⟩ := List.mem_map.1 this
    rw [← e]; exact hx y hy
  refine ⟨es'[k].a, es'[k].l.length, es'[k].c, ldPC hg, ?_⟩
  refine (iCloneR_ok (PL pkC a' n c' es') es'[k].a es'[k].l.length es'[k].c es'[k].l (.of fun R h H => sepN_all (HP.sep_right H.2) (kCh.hp es'[k]) (List.mem_map.2 ⟨_, hm, rfl⟩)) rfl hxl).weak (fun _ _ h => h) ?_
  rintro v R h ⟨a2, c2, rfl, H⟩
  refine ⟨a2, es'[k].l.length, c2, RoI a2 es'[k].l.length es'[k].l, PL pkC a' n c' es', rfl, ?_, H⟩
  clear H
  obtain ⟨i, hi, _, hz, _⟩ := info_parts infoIs
  refine (PL.set (K := pkC) hi hz (a := a') (n := n) (c := c') (l := es') (k := k) (by omega) ⟨a2, c2, es'[k].l⟩ rfl HP.tt).weak (fun R h H => HP.sep_mono H (fun _ h => h) fun z hz => HP.sep_tt hz) ?_
  rintro v R h ⟨rfl, H⟩
  refine ⟨PL pkC a' n c' (es'.set k ⟨a2, c2, es'[k].l⟩), rfl, ⟨inI64 _ (by omega) (by omega), fun _ => ⟨⟨k + 1, es'.set k ⟨a2, c2, es'[k].l⟩, by omega, by omega, rfl, ?_⟩, by dsimp only; omega⟩⟩, HP.sep_left H⟩
  have e : (es'.set k es'[k]).map (·.l) = es'.map (·.l) := by rw [List.set_getElem_self]
  rw [List.map_set] at e ⊢
  exact e.trans he
end Go.Proofs.YtbmajijnjkicmaaGreatDoor



namespace Go.Proofs.YtbmajijnjkicmaaGreatDoor
set_option linter.unusedSimpArgs false
set_option linter.unusedVariables false
open Go.Proofs.YtbmajijnjkicmaaGreatDoor RX
set_option maxRecDepth 100000

section
variable {b : Nat} {g : AdvS} {r : ARw}
theorem aPlan_ok : Tri Tryz.prog 16 #[.pointer (some ⟨b, 0, none⟩)] (ARepR b g r) (fun v => HP.ex fun a => HP.ex fun c => HP.ex fun es : List ChE => HP.and (v = .agg #[.int .i64 g.plan.ep, .slice a es.length c] ∧ es.map (·.l) = g.plan.ch) (HP.sep (Ls kCh a es.length es) (ARepR b g r))) := by
  refine Tri.fact (φ := ROk g r) (fun R h H => H.1) fun hok => ?_
  refine tri_of_tree (ρ := [.n b, .p (ARepR b g r)]) mixed Tryz.func16 tree_aPlan ?_
  unfold t_aPlan
  simp only [T.den, E.prop, E.den, RX.look, F1.app, F2.app, Uni.int_i, Uni.nat_n, Uni.bool_c, Uni.str_s, Uni.adr_a, Uni.val_v, Uni.hp_p, hden, cden, V.den, W.den, A.den, BR.den, SA.den, FV.den, capV, exs, exP, allP, Cur.app, List.map_cons, List.map_nil, List.cons_append, List.nil_append, List.drop_succ_cons, List.drop_zero, List.length_cons, List.length_nil, Nat.zero_add, Nat.reduceAdd, Int.neg_neg, Bool.not_not, List.append_nil, Nat.add_zero, List.getElem?_cons_zero, List.getElem?_cons_succ, Decidable.not_not, semW_eq, semW_load, ne_eq, Nat.reduceEqDiff, not_false_eq_true]
  intro _
  refine ⟨g.plan.ep, r.pa, r.pes.length, r.pc, aLdPl rfl rfl, ?_⟩
  refine (aTwin_ok (ARepR b g r) g.plan.ep r.pa r.pes.length r.pc r.pes (fun R h H => (ARepR.ro H).2.2) (by have := hok.pb.1; omega) fun x hx => by have := hok.pb.2 x hx; omega).weak (fun _ _ h => h) ?_
  rintro v R h ⟨a', c', es', ⟨rfl, he⟩, H⟩
  have hl : es'.length = r.pes.length := by
    have := congrArg List.length he
    simpa using this
  rw [← hl] at H ⊢
  exact ⟨g.plan.ep, a', es'.length, c', Ls kCh a' es'.length es', ARepR b g r, rfl, .of fun R h H => ⟨a', c', es', ⟨rfl, he.trans hok.p⟩, HP.sep_comm H⟩, H⟩

end

def zAdv : AdvS := ⟨⟨0, []⟩, 0, 0, 6, fun _ => false, fun _ => false, [], none, ⟨0, []⟩, 0⟩
def beginA (p : PlP) (u w : Int) : AdvS :=
  if rightB p = true ∧ p.ep ≠ 2147483647 ∧ 1 ≤ u ∧ u ≤ 7 ∧ 0 ≤ w ∧ w ≤ 2147483647 then ⟨p, u, w, 1, fun _ => false, fun _ => false, [], none, ⟨0, []⟩, 0⟩ else zAdv
theorem ls_nil {R h : PH} : (Ls kCh none 0 []).p R h := ⟨rfl, RoC.nil _ _ _ _, fun x hx => by cases hx⟩
theorem zAdv_rep (x : Nat) {R h : PH} (H : (HP.one x (.cells (advL zAdv ⟨none, 0, [], none, 0, none, none, 0, []⟩).toArray 76 (0, 0))).p R h) : (ARep x zAdv).p R h :=
  ⟨⟨none, 0, [], none, 0, none, none, 0, []⟩, ⟨rfl, rfl, ⟨by simp, fun x hx => by cases hx⟩, ⟨by simp, fun x hx => by cases hx⟩, by simp [zAdv]⟩, HP.sep_mono (HP.sep_tt H) (fun _ h => h) fun y _ => HP.sep_mono (HP.sep_tt (show (PropR none none).p R y from rfl)) (fun _ h => h) fun z _ => ⟨ls_nil, RoB0 _, ls_nil⟩⟩
set_option maxHeartbeats 1000000 in
theorem aBegin_ok (S : HP) (ep : Int) (a : Option Addr) (n c : Nat) (es : List ChE) (u w : Int) (hS : ∀ R h, S.p R h → (Ls kCh a n es).p R h) (hb : ∀ x ∈ es, x.l.length ≤ 1000000000) (hn : n ≤ 1000000000) :
    Tri Tryz.prog 10 #[.agg #[.int .i64 ep, .slice a n c], .int .i64 u, .int .i64 w] S (fun v => HP.ex fun b => HP.and (v = .pointer (some ⟨b, 0, none⟩)) (HP.sep (ARep b (beginA ⟨ep, es.map (·.l)⟩ u w)) S)) := by
  refine tri_of_tree (ρ := [.i ep, .a a, .n n, .n c, .p S, .i u, .i w]) mixed Tryz.func10 tree_aBegin ?_
  unfold t_aBegin
  simp only [T.den, E.prop, E.den, RX.look, F1.app, F2.app, Uni.int_i, Uni.nat_n, Uni.bool_c, Uni.str_s, Uni.adr_a, Uni.val_v, Uni.hp_p, hden, cden, V.den, W.den, A.den, BR.den, SA.den, FV.den, capV, exs, exP, allP, Cur.app, List.map_cons, List.map_nil, List.cons_append, List.nil_append, List.drop_succ_cons, List.drop_zero, List.length_cons, List.length_nil, Nat.zero_add, Nat.reduceAdd, Int.neg_neg, Bool.not_not, List.append_nil, Nat.add_zero, List.getElem?_cons_zero, List.getElem?_cons_succ, Decidable.not_not, semW_eq, ne_eq, Nat.reduceEqDiff, not_false_eq_true]
  intro _
  refine (right_ok S ep a n c es hS hb).weak (fun _ _ h => h) ?_
  rintro v R h ⟨rfl, H⟩
  have bad : ¬ (rightB ⟨ep, es.map (·.l)⟩ = true ∧ ep ≠ 2147483647 ∧ 1 ≤ u ∧ u ≤ 7 ∧ 0 ≤ w ∧ w ≤ 2147483647) → beginA ⟨ep, es.map (·.l)⟩ u w = zAdv := fun h => by unfold beginA; rw [if_neg h]
  refine ⟨_, rfl, ⟨fun h1 x => .of fun R h H => ⟨x, rfl, ?_⟩, fun h1 => ⟨fun h2 x => .of fun R h H => ⟨x, rfl, ?_⟩, fun h2 => ⟨fun h3 x => .of fun R h H => ⟨x, rfl, ?_⟩, fun h3 => ⟨fun h4 x => .of fun R h H => ⟨x, rfl, ?_⟩, fun h4 => ⟨fun h5 x => .of fun R h H => ⟨x, rfl, ?_⟩, fun h5 => ⟨fun h6 x => .of fun R h H => ⟨x, rfl, ?_⟩, fun h6 => ?_⟩⟩⟩⟩⟩⟩, H⟩
  · rw [bad (fun h => h1 h.1)]; exact HP.sep_mono (HP.sep_comm H) (fun _ h => zAdv_rep x h) fun _ h => h
  · rw [bad (fun h => h.2.1 h2)]; exact HP.sep_mono (HP.sep_comm H) (fun _ h => zAdv_rep x h) fun _ h => h
  · rw [bad (fun h => by omega)]; exact HP.sep_mono (HP.sep_comm H) (fun _ h => zAdv_rep x h) fun _ h => h
  · rw [bad (fun h => by omega)]; exact HP.sep_mono (HP.sep_comm H) (fun _ h => zAdv_rep x h) fun _ h => h
  · rw [bad (fun h => by omega)]; exact HP.sep_mono (HP.sep_comm H) (fun _ h => zAdv_rep x h) fun _ h => h
  · rw [bad (fun h => by omega)]; exact HP.sep_mono (HP.sep_comm H) (fun _ h => zAdv_rep x h) fun _ h => h
  have hr : rightB ⟨ep, es.map (·.l)⟩ = true := by simpa using h1
  have hR := rightP hr
  have good : beginA ⟨ep, es.map (·.l)⟩ u w = ⟨⟨ep, es.map (·.l)⟩, u, w, 1, fun _ => false, fun _ => false, [], none, ⟨0, []⟩, 0⟩ := by
    unfold beginA; rw [if_pos ⟨hr, h2, by omega, by omega, by omega, by omega⟩]
  clear H
  refine (aTwin_ok S ep a n c es hS hn hb).weak (fun _ _ h => h) ?_
  rintro v R h ⟨a', c', es', ⟨rfl, he⟩, H⟩
  have hl : es'.length = n := (HP.sep_left H).1
  refine ⟨ep, a', n, c', Ls kCh a' n es', S, rfl, fun x => .of fun R h H => ⟨x, rfl, ?_⟩, H⟩
  have h7 := hR.len7
  rw [← he, List.length_map] at h7
  rw [good, ← he]
  obtain ⟨h1, h2, d, l1, l2, HS, HR⟩ := H
  subst hl
  refine HP.sep_comm ⟨h1, h2, d, l1, l2, HS, ⟨a', c', es', none, 0, none, none, 0, []⟩, ⟨rfl, rfl, ⟨by simp; omega, fun x hx => ?_⟩, ⟨by simp, fun x hx => by cases hx⟩, by simp⟩, HP.sep_mono HR (fun _ h => h) fun y hy => HP.sep_mono (HP.tt_sep hy) (fun z _ => rfl) fun z hz => ⟨hz, RoB0 _, ls_nil⟩⟩
  have : x.l ∈ es.map (·.l) := by rw [← he]; exact List.mem_map.2 ⟨x, hx, rfl⟩
  have := (hR.chain this).2.2
  omega
end Go.Proofs.YtbmajijnjkicmaaGreatDoor



namespace Go.Proofs.YtbmajijnjkicmaaGreatDoor.RX
set_option maxRecDepth 100000
-- tideline/tidelineref11.SameInts: ρ := [.a aa, .n al, .n ac, .p aP, .a ba, .n bl, .n bc, .p bP]
def t_speaks18 : T :=
(.call 7 [.a (.int .i64 (.i 1)), .a (.int .i64 (.i 1))] [] [.i, .a, .n, .n, .p, .i] (.tup [.agg [.int .i64 (.v 0), .sl (.v 1) (.v 2) (.v 3)], .a (.int .i64 (.v 5))]) [(.a 1, .prop 4)]
(.new
(.call 10 [.agg [.int .i64 (.v 0), .sl (.v 1) (.v 2) (.v 3)], .a (.int .i64 (.i 1)), .a (.int .i64 (.i 3))] [(.a 1, .prop 4)] [.n, .p] (.w (.a (.ptr (.v 7) 0))) [(.b (.v 7), .prop 8), (.a 1, .prop 4)]
(.new
(.join [.a, .n, .n, .p, .p]
(.loop [.a, .n, .n, .p, .p] [.a (.b (.v 9) 0), .e (.o2 .nadd (.n 0) (.n 0)), .e (.o2 .nadd (.n 0) (.n 0)), .p [(.b (.v 9), .cells [] 3)], .p [(.b (.v 7), .prop 8)]]
(.br (.o2 .lt (.o1 .ofNat (.v 11)) (.i 9))
(.call 11 [.a (.ptr (.v 7) 0)] [(.b (.v 7), .prop 14)] [.a, .n, .n, .p] (.w (.a (.sl (.v 15) (.v 16) (.v 17)))) [(.a 15, .prop 18), (.b (.v 7), .prop 14)]
(.join [.c]
(.br (.o1 .not (.o2 .eq (.v 5) (.i 0)))
(.again 0 [.e (.o1 .not (.o1 .not (.c true)))])
(.again 0 [.e (.o1 .not (.o1 .not (.o1 .not (.o2 .eq (.o1 .ofNat (.v 16)) (.i 1)))))]))
(.br (.v 19)
(.again 1 [.a (.v 10), .e (.o2 .nadd (.v 11) (.n 0)), .e (.o2 .nadd (.v 12) (.n 0)), .p [(.b (.v 7), .prop 14)], .p [(.a 10, .prop 13)]])
(.need (.o2 .lt (.i 0) (.o1 .ofNat (.v 16)))
(.need (.o1 .isSome (.v 15))
(.read (.load 3 (.tmp 28)) 3 [(28, .w (.a (.eptr 15 (.i 0) 16 4)))] [(.a 15, .prop 18)] [.i] (.w (.a (.int .i64 (.v 20))))
(.new
(.op (.call ⟨.builtin .append, #[.tmp 25, .tmp 30], #[60, 60]⟩) 60 [(25, .w (.a (.sl (.v 10) (.v 11) (.v 12)))), (30, .w (.a (.sl (.b (.v 21) 0) (.n 1) (.n 1))))] [(.a 10, .prop 13), (.b (.v 21), .cells [.int .i64 (.v 20)] 3)] [.a, .n, .n, .p] (.w (.a (.sl (.v 22) (.v 23) (.v 24)))) [(.a 22, .prop 25), (.b (.v 21), .cells [.int .i64 (.v 20)] 3)]
(.read (.load 3 (.tmp 35)) 3 [(35, .w (.a (.eptr 15 (.i 0) 16 1)))] [(.a 15, .prop 18)] [.i] (.w (.a (.int .i64 (.v 26))))
(.read (.load 3 (.tmp 39)) 3 [(39, .w (.a (.eptr 15 (.i 0) 16 4)))] [(.a 15, .prop 18)] [.i] (.w (.a (.int .i64 (.v 27))))
(.read (.load 3 (.tmp 43)) 3 [(43, .w (.a (.eptr 15 (.i 0) 16 5)))] [(.a 15, .prop 18)] [.i] (.w (.a (.int .i64 (.v 28))))
(.read (.load 3 (.tmp 47)) 3 [(47, .w (.a (.eptr 15 (.i 0) 16 6)))] [(.a 15, .prop 18)] [.i] (.w (.a (.int .i64 (.v 29))))
(.call 13 [.a (.ptr (.v 7) 0), .agg [.int .i64 (.v 26), .int .i64 (.i 0), .int .i64 (.i 0), .bool (.c true), .int .i64 (.v 27), .int .i64 (.v 28), .int .i64 (.v 29), .int .i64 (.i 0), .sl .nil (.n 0) (.n 0), .int .i64 (.i 0), .int .i64 (.i 0), .sl .nil (.n 0) (.n 0), .int .i64 (.i 0), .int .i64 (.i 4), .int .i64 (.i 0), .int .i64 (.i 0)]] [(.b (.v 7), .prop 14)] [.p] (.tup []) [(.b (.v 7), .prop 30)]
(.again 0 [.a (.v 22), .e (.o2 .nadd (.v 23) (.n 0)), .e (.o2 .nadd (.v 24) (.n 0)), .p [(.a 22, .prop 25)], .p [(.b (.v 7), .prop 30)]]))))))))))))))
(.again 1 [.a (.v 10), .e (.o2 .nadd (.v 11) (.n 0)), .e (.o2 .nadd (.v 12) (.n 0)), .p [(.b (.v 7), .prop 14)], .p [(.a 10, .prop 13)]])))
(.join [.c]
(.new
(.call 24 [.a (.sl (.v 10) (.v 11) (.v 12)), .a (.sl (.b (.v 15) 0) (.n 5) (.n 5))] [(.a 10, .prop 14), (.b (.v 15), .cells [.int .i64 (.i 4), .int .i64 (.i 6), .int .i64 (.i 7), .int .i64 (.i 4), .int .i64 (.i 9)] 3)] [.c] (.w (.a (.bool (.v 16)))) [(.a 10, .prop 14), (.b (.v 15), .cells [.int .i64 (.i 4), .int .i64 (.i 6), .int .i64 (.i 7), .int .i64 (.i 4), .int .i64 (.i 9)] 3)]
(.br (.v 16)
(.call 14 [.a (.ptr (.v 7) 0)] [(.b (.v 7), .prop 13)] [.i] (.w (.a (.int .i64 (.v 17)))) [(.b (.v 7), .prop 13)]
(.br (.o2 .eq (.v 17) (.i 5))
(.call 21 [.a (.ptr (.v 7) 0)] [(.b (.v 7), .prop 13)] [.i] (.w (.a (.int .i64 (.v 18)))) [(.b (.v 7), .prop 13)]
(.br (.o2 .eq (.v 18) (.i 4))
(.call 16 [.a (.ptr (.v 7) 0)] [(.b (.v 7), .prop 13)] [.i, .a, .n, .n, .p] (.w (.agg [.int .i64 (.v 19), .sl (.v 20) (.v 21) (.v 22)])) [(.a 20, .prop 23), (.b (.v 7), .prop 13)]
(.again 0 [.e (.o1 .not (.o1 .not (.o2 .eq (.v 19) (.i 1))))]))
(.again 0 [.e (.o1 .not (.o1 .not (.c false)))])))
(.again 0 [.e (.o1 .not (.o1 .not (.c false)))])))
(.again 0 [.e (.o1 .not (.o1 .not (.c false)))]))))
(.ret (.w (.a (.bool (.v 15)))) [])))))))
theorem tree_speaks18 : tree Tryz.prog { hv := [(0, [.b (.v 9), .b (.v 7)])], keep := [14, 16, 21, 11, 7, 24, 10, 15, 19, 17, 23, 22], link := [(27, 0)], turn := [(13, [0]), (18, [0]), (31, [0]), (20, [0]), (30, [0]), (12, [0])], outl := true, rdf := true, jn := [((3000018, 19), some { ss := [.c], n := 20, tv := [(18, none), (19, none), (20, none), (21, none), (22, none), (23, none), (24, some (.w (.a (.bool (.v 19)))))], h := [(.a 15, .prop 18), (.b (.v 7), .prop 14), (.a 10, .prop 13), (.a 1, .prop 4), (.b (.v 6), .cells [.int .i64 (.v 0), .sl (.v 1) (.v 2) (.v 3)] 25)], lk := [] }), ((1000000, 10), some { ss := [.a, .n, .n, .p, .p], n := 15, tv := [(13, none), (14, none), (15, none), (16, none), (17, none), (5, none), (18, none), (19, none), (20, none), (21, none), (22, none), (23, none), (24, none), (25, none), (26, none), (27, none), (28, none), (29, none), (30, none), (31, none), (4, some (.w (.a (.sl (.v 10) (.v 11) (.v 12))))), (32, none), (33, none), (34, none), (35, none), (36, none), (37, none), (38, none), (39, none), (40, none), (41, none), (42, none), (43, none), (44, none), (45, none), (46, none), (47, none), (48, none), (49, none), (50, none)], h := [(.b (.v 7), .prop 13), (.a 10, .prop 14), (.a 1, .prop 4), (.b (.v 6), .cells [.int .i64 (.v 0), .sl (.v 1) (.v 2) (.v 3)] 25)], lk := [] }), ((3000051, 15), some { ss := [.c], n := 16, tv := [(51, none), (52, none), (53, none), (54, none), (55, none), (56, none), (57, none), (58, none), (59, none), (60, none), (61, none), (62, none), (63, none), (64, none), (65, none), (66, none), (67, none), (68, none), (69, none), (0, some (.w (.a (.bool (.v 15)))))], h := [(.b (.v 7), .prop 13), (.a 10, .prop 14), (.a 1, .prop 4), (.b (.v 6), .cells [.int .i64 (.v 0), .sl (.v 1) (.v 2) (.v 3)] 25)], lk := [] })] } Tryz.f6 [] [] 0 = t_speaks18 := by kernel_rfl
def t_laid18 : T :=
(.call 25 [] [] [.n, .p] (.w (.a (.ptr (.v 1) 0))) [(.b (.v 1), .prop 2)]
(.new
(.loop [.v, .p, .i, .a, .n, .n, .p, .n, .p] [.v .nilp, .p [], .e (.o1 .neg (.o1 .neg (.i 0))), .a .nil, .e (.o2 .nadd (.n 0) (.n 0)), .e (.o2 .nadd (.n 0) (.n 0)), .p [], .n (.v 1), .p [(.b (.v 1), .prop 2)]]
(.br (.o2 .lt (.v 6) (.v 0))
(.call 26 [.a (.int .i64 (.i 900))] [] [.n, .p, .i] (.tup [.a (.ptr (.v 13) 0), .a (.int .i64 (.v 15))]) [(.b (.v 13), .prop 14)]
(.br (.o1 .not (.o2 .eq (.v 15) (.i 0)))
(.ret (.w (.a .nilp)) [])
(.call 27 [.a (.ptr (.v 13) 0)] [(.b (.v 13), .prop 14)] [.n, .p, .i, .p] (.tup [.a (.ptr (.v 16) 0), .a (.int .i64 (.v 18))]) [(.b (.v 16), .prop 17), (.b (.v 13), .prop 19)]
(.br (.o1 .not (.o2 .eq (.v 18) (.i 0)))
(.ret (.w (.a .nilp)) [])
(.new
(.op (.call ⟨.builtin .append, #[.tmp 42, .tmp 44], #[49, 49]⟩) 49 [(42, .w (.a (.sl (.v 7) (.v 8) (.v 9)))), (44, .w (.a (.sl (.b (.v 20) 0) (.n 1) (.n 1))))] [(.a 7, .prop 10), (.b (.v 20), .cells [.ptr (.v 16) 0] 62), (.b (.v 16), .prop 17), (.b (.v 13), .prop 19)] [.a, .n, .n, .p] (.w (.a (.sl (.v 21) (.v 22) (.v 23)))) [(.a 21, .prop 24)]
(.need (.o1 (.inr .i64) (.o2 .add (.v 6) (.i 1)))
(.again 0 [.v (.val 4), .p [(.a 4, .prop 5)], .e (.o1 .neg (.o1 .neg (.o2 .add (.v 6) (.i 1)))), .a (.v 21), .e (.o2 .nadd (.v 22) (.n 0)), .e (.o2 .nadd (.v 23) (.n 0)), .p [(.a 21, .prop 24)], .n (.v 11), .p [(.b (.v 11), .prop 12)]]))))))))
(.ret (.w (.a (.ptr (.v 3) 0))) [(.b (.v 3), .cells [.sl (.v 7) (.v 8) (.v 9), .ptr (.v 11) 0] 52), (.a 7, .prop 10), (.b (.v 11), .prop 12)])))))
theorem tree_laid18 : tree Tryz.prog { hv := [(0, [.b (.v 1), .b (.v 3)])], keep := [14, 16, 21, 11, 7, 24, 10, 15, 19, 17, 23, 22], link := [(27, 0)], turn := [(13, [0]), (18, [0]), (31, [0]), (20, [0]), (30, [0]), (12, [0])], outl := true, rdf := true } Tryz.f8 [.a (.int .i64 (.v 0))] [] 1 = t_laid18 := by kernel_rfl
def t_ask18 : T :=
(.new
(.new
(.br (.o2 .eq (.v 3) (.i 7))
(.read (.load 50 (.tmp 11)) 50 [(11, .w (.a (.ptr (.v 0) 1)))] [(.b (.v 0), .prop 1)] [.v] (.w (.a (.val 26)))
(.call 30 [.a (.val 26), .agg [.int .i64 (.v 2), .int .i64 (.v 3), .int .i64 (.v 4), .bool (.v 5), .int .i64 (.v 6), .int .i64 (.v 7), .int .i64 (.v 8), .int .i64 (.v 9), .sl (.v 10) (.v 11) (.v 12), .int .i64 (.v 14), .int .i64 (.v 15), .sl (.v 16) (.v 17) (.v 18), .int .i64 (.v 20), .int .i64 (.v 21), .int .i64 (.v 22), .int .i64 (.v 23)]] [(.b (.v 0), .prop 1), (.a 10, .prop 13), (.a 16, .prop 19)] [.i, .i, .i, .c, .i, .i, .i, .i, .a, .n, .n, .p, .i, .i, .a, .n, .n, .p, .i, .i, .i, .i, .c, .p, .p, .p] (.tup [.agg [.int .i64 (.v 27), .int .i64 (.v 28), .int .i64 (.v 29), .bool (.v 30), .int .i64 (.v 31), .int .i64 (.v 32), .int .i64 (.v 33), .int .i64 (.v 34), .sl (.v 35) (.v 36) (.v 37), .int .i64 (.v 39), .int .i64 (.v 40), .sl (.v 41) (.v 42) (.v 43), .int .i64 (.v 45), .int .i64 (.v 46), .int .i64 (.v 47), .int .i64 (.v 48)], .a (.bool (.v 49))]) [(.a 35, .prop 38), (.a 41, .prop 44), (.b (.v 0), .prop 50), (.a 10, .prop 51), (.a 16, .prop 52)]
(.ret (.tup [.agg [.int .i64 (.v 27), .int .i64 (.v 28), .int .i64 (.v 29), .bool (.v 30), .int .i64 (.v 31), .int .i64 (.v 32), .int .i64 (.v 33), .int .i64 (.v 34), .sl (.v 35) (.v 36) (.v 37), .int .i64 (.v 39), .int .i64 (.v 40), .sl (.v 41) (.v 42) (.v 43), .int .i64 (.v 45), .int .i64 (.v 46), .int .i64 (.v 47), .int .i64 (.v 48)], .a (.bool (.v 49))]) [(.b (.v 0), .prop 50), (.a 10, .prop 51), (.a 16, .prop 52), (.a 35, .prop 38), (.a 41, .prop 44)])))
(.br (.o2 .lt (.v 3) (.i 0))
(.ret (.tup [.agg [.int .i64 (.i 0), .int .i64 (.i 0), .int .i64 (.i 0), .bool (.c false), .int .i64 (.i 0), .int .i64 (.i 0), .int .i64 (.i 0), .int .i64 (.i 0), .sl .nil (.n 0) (.n 0), .int .i64 (.i 0), .int .i64 (.i 0), .sl .nil (.n 0) (.n 0), .int .i64 (.i 0), .int .i64 (.i 0), .int .i64 (.i 0), .int .i64 (.i 0)], .a (.bool (.c false))]) [(.b (.v 0), .prop 1), (.a 10, .prop 13), (.a 16, .prop 19)])
(.read (.load 49 (.tmp 25)) 49 [(25, .w (.a (.ptr (.v 0) 0)))] [(.b (.v 0), .prop 1)] [.a, .n, .n] (.w (.a (.sl (.v 26) (.v 27) (.v 28))))
(.br (.o2 .le (.o1 .ofNat (.v 27)) (.v 3))
(.ret (.tup [.agg [.int .i64 (.i 0), .int .i64 (.i 0), .int .i64 (.i 0), .bool (.c false), .int .i64 (.i 0), .int .i64 (.i 0), .int .i64 (.i 0), .int .i64 (.i 0), .sl .nil (.n 0) (.n 0), .int .i64 (.i 0), .int .i64 (.i 0), .sl .nil (.n 0) (.n 0), .int .i64 (.i 0), .int .i64 (.i 0), .int .i64 (.i 0), .int .i64 (.i 0)], .a (.bool (.c false))]) [(.b (.v 0), .prop 1), (.a 10, .prop 13), (.a 16, .prop 19)])
(.read (.load 49 (.tmp 33)) 49 [(33, .w (.a (.ptr (.v 0) 0)))] [(.b (.v 0), .prop 1)] [.a, .n, .n] (.w (.a (.sl (.v 29) (.v 30) (.v 31))))
(.need (.o2 .le (.i 0) (.v 3))
(.need (.o2 .lt (.v 3) (.o1 .ofNat (.v 30)))
(.need (.o1 .isSome (.v 29))
(.read (.load 62 (.tmp 37)) 62 [(37, .w (.a (.eptr 29 (.v 3) 1 0)))] [(.b (.v 0), .prop 1)] [.v] (.w (.a (.val 32)))
(.call 31 [.a (.val 32), .agg [.int .i64 (.v 2), .int .i64 (.v 3), .int .i64 (.v 4), .bool (.v 5), .int .i64 (.v 6), .int .i64 (.v 7), .int .i64 (.v 8), .int .i64 (.v 9), .sl (.v 10) (.v 11) (.v 12), .int .i64 (.v 14), .int .i64 (.v 15), .sl (.v 16) (.v 17) (.v 18), .int .i64 (.v 20), .int .i64 (.v 21), .int .i64 (.v 22), .int .i64 (.v 23)]] [(.b (.v 0), .prop 1), (.a 10, .prop 13), (.a 16, .prop 19)] [.i, .i, .i, .c, .i, .i, .i, .i, .a, .n, .n, .p, .i, .i, .a, .n, .n, .p, .i, .i, .i, .i, .c, .p, .p, .p] (.tup [.agg [.int .i64 (.v 33), .int .i64 (.v 34), .int .i64 (.v 35), .bool (.v 36), .int .i64 (.v 37), .int .i64 (.v 38), .int .i64 (.v 39), .int .i64 (.v 40), .sl (.v 41) (.v 42) (.v 43), .int .i64 (.v 45), .int .i64 (.v 46), .sl (.v 47) (.v 48) (.v 49), .int .i64 (.v 51), .int .i64 (.v 52), .int .i64 (.v 53), .int .i64 (.v 54)], .a (.bool (.v 55))]) [(.a 41, .prop 44), (.a 47, .prop 50), (.b (.v 0), .prop 56), (.a 10, .prop 57), (.a 16, .prop 58)]
(.ret (.tup [.agg [.int .i64 (.v 33), .int .i64 (.v 34), .int .i64 (.v 35), .bool (.v 36), .int .i64 (.v 37), .int .i64 (.v 38), .int .i64 (.v 39), .int .i64 (.v 40), .sl (.v 41) (.v 42) (.v 43), .int .i64 (.v 45), .int .i64 (.v 46), .sl (.v 47) (.v 48) (.v 49), .int .i64 (.v 51), .int .i64 (.v 52), .int .i64 (.v 53), .int .i64 (.v 54)], .a (.bool (.v 55))]) [(.b (.v 0), .prop 56), (.a 10, .prop 57), (.a 16, .prop 58), (.a 41, .prop 44), (.a 47, .prop 50)])))))))))))))
theorem tree_ask18 : tree Tryz.prog { opq := [62, 50], keep := [14, 16, 21, 11, 7, 24, 10, 15, 19, 17, 23, 22], link := [(27, 0)], turn := [(13, [0]), (18, [0]), (12, [0])], outl := true, opn := true, rdf := true, peek := [62, 50] } Tryz.f12 [.a (.ptr (.v 0) 0), .agg [.int .i64 (.v 2), .int .i64 (.v 3), .int .i64 (.v 4), .bool (.v 5), .int .i64 (.v 6), .int .i64 (.v 7), .int .i64 (.v 8), .int .i64 (.v 9), .sl (.v 10) (.v 11) (.v 12), .int .i64 (.v 14), .int .i64 (.v 15), .sl (.v 16) (.v 17) (.v 18), .int .i64 (.v 20), .int .i64 (.v 21), .int .i64 (.v 22), .int .i64 (.v 23)]] [(.b (.v 0), .prop 1), (.a 10, .prop 13), (.a 16, .prop 19)] 24 = t_ask18 := by kernel_rfl
def t_advAfter1 : T :=
(.new
(.call 10 [.agg [.int .i64 (.v 0), .sl (.v 1) (.v 2) (.v 3)], .a (.int .i64 (.v 7)), .a (.int .i64 (.v 5))] [(.a 1, .prop 4)] [.n, .p] (.w (.a (.ptr (.v 12) 0))) [(.b (.v 12), .prop 13), (.a 1, .prop 4)]
(.join [.i, .p, .p]
(.loop [.i, .p, .p] [.e (.o1 .neg (.o1 .neg (.i 0))), .p [(.b (.v 12), .prop 13)], .p [(.b (.v 9), .prop 10)]]
(.need (.o1 (.inr .i64) (.o2 .mul (.i 40) (.v 7)))
(.need (.o1 (.inr .i64) (.o2 .add (.o2 .mul (.i 40) (.v 7)) (.i 100)))
(.br (.o2 .lt (.v 14) (.o2 .add (.o2 .mul (.i 40) (.v 7)) (.i 100)))
(.call 11 [.a (.ptr (.v 12) 0)] [(.b (.v 12), .prop 15)] [.a, .n, .n, .p] (.w (.a (.sl (.v 17) (.v 18) (.v 19)))) [(.a 17, .prop 20), (.b (.v 12), .prop 15)]
(.br (.o2 .eq (.o1 .ofNat (.v 18)) (.i 0))
(.again 1 [.e (.o1 .neg (.o1 .neg (.v 14))), .p [(.b (.v 12), .prop 15)], .p [(.b (.v 9), .prop 16)]])
(.join [.n, .c, .i, .i, .i, .c, .i, .i, .i, .i, .a, .n, .n, .i, .i, .a, .n, .n, .i, .i, .i, .i, .p, .p, .p]
(.need (.o2 .lt (.i 0) (.o1 .ofNat (.v 18)))
(.need (.o1 .isSome (.v 17))
(.read (.load 41 (.tmp 31)) 41 [(31, .w (.a (.eptr 17 (.i 0) 16 0)))] [(.a 17, .prop 20)] [.i, .i, .i, .c, .i, .i, .i, .i, .a, .n, .n, .i, .i, .a, .n, .n, .i, .i, .i, .i] (.w (.agg [.int .i64 (.v 21), .int .i64 (.v 22), .int .i64 (.v 23), .bool (.v 24), .int .i64 (.v 25), .int .i64 (.v 26), .int .i64 (.v 27), .int .i64 (.v 28), .sl (.v 29) (.v 30) (.v 31), .int .i64 (.v 32), .int .i64 (.v 33), .sl (.v 34) (.v 35) (.v 36), .int .i64 (.v 37), .int .i64 (.v 38), .int .i64 (.v 39), .int .i64 (.v 40)]))
     (.all
(.call 12 [.a (.ptr (.v 9) 0), .agg [.int .i64 (.v 21), .int .i64 (.v 22), .int .i64 (.v 23), .bool (.v 24), .int .i64 (.v 25), .int .i64 (.v 26), .int .i64 (.v 27), .int .i64 (.v 28), .sl (.v 29) (.v 30) (.v 31), .int .i64 (.v 32), .int .i64 (.v 33), .sl (.v 34) (.v 35) (.v 36), .int .i64 (.v 37), .int .i64 (.v 38), .int .i64 (.v 39), .int .i64 (.v 40)]] [(.b (.v 9), .prop 16), (.a 17, .prop 20)] [.i, .i, .i, .c, .i, .i, .i, .i, .a, .n, .n, .p, .i, .i, .a, .n, .n, .p, .i, .i, .i, .i, .c, .p] (.tup [.agg [.int .i64 (.v 41), .int .i64 (.v 42), .int .i64 (.v 43), .bool (.v 44), .int .i64 (.v 45), .int .i64 (.v 46), .int .i64 (.v 47), .int .i64 (.v 48), .sl (.v 49) (.v 50) (.v 51), .int .i64 (.v 53), .int .i64 (.v 54), .sl (.v 55) (.v 56) (.v 57), .int .i64 (.v 59), .int .i64 (.v 60), .int .i64 (.v 61), .int .i64 (.v 62)], .a (.bool (.v 63))]) [(.a 49, .prop 52), (.a 55, .prop 58), (.b (.v 9), .prop 64), (.a 17, .prop 20)]
(.new
(.again 0 [.n (.v 65), .e (.o1 .not (.o1 .not (.v 63))), .e (.o1 .neg (.o1 .neg (.v 41))), .e (.o1 .neg (.o1 .neg (.v 42))), .e (.o1 .neg (.o1 .neg (.v 43))), .e (.o1 .not (.o1 .not (.v 44))), .e (.o1 .neg (.o1 .neg (.v 45))), .e (.o1 .neg (.o1 .neg (.v 46))), .e (.o1 .neg (.o1 .neg (.v 47))), .e (.o1 .neg (.o1 .neg (.v 48))), .a (.v 49), .e (.o2 .nadd (.v 50) (.n 0)), .e (.o2 .nadd (.v 51) (.n 0)), .e (.o1 .neg (.o1 .neg (.v 53))), .e (.o1 .neg (.o1 .neg (.v 54))), .a (.v 55), .e (.o2 .nadd (.v 56) (.n 0)), .e (.o2 .nadd (.v 57) (.n 0)), .e (.o1 .neg (.o1 .neg (.v 59))), .e (.o1 .neg (.o1 .neg (.v 60))), .e (.o1 .neg (.o1 .neg (.v 61))), .e (.o1 .neg (.o1 .neg (.v 62))), .p [(.a 49, .prop 52)], .p [(.a 55, .prop 58)], .p [(.b (.v 9), .prop 64)]])))
(.new
(.call 12 [.a (.ptr (.v 9) 0), .agg [.int .i64 (.v 21), .int .i64 (.v 22), .int .i64 (.v 23), .bool (.v 24), .int .i64 (.v 25), .int .i64 (.v 26), .int .i64 (.v 27), .int .i64 (.v 28), .sl (.v 29) (.v 30) (.v 31), .int .i64 (.v 32), .int .i64 (.v 33), .sl (.v 34) (.v 35) (.v 36), .int .i64 (.v 37), .int .i64 (.v 38), .int .i64 (.v 39), .int .i64 (.v 40)]] [(.b (.v 9), .prop 16), (.a 17, .prop 20)] [.i, .i, .i, .c, .i, .i, .i, .i, .a, .n, .n, .p, .i, .i, .a, .n, .n, .p, .i, .i, .i, .i, .c, .p] (.tup [.agg [.int .i64 (.v 42), .int .i64 (.v 43), .int .i64 (.v 44), .bool (.v 45), .int .i64 (.v 46), .int .i64 (.v 47), .int .i64 (.v 48), .int .i64 (.v 49), .sl (.v 50) (.v 51) (.v 52), .int .i64 (.v 54), .int .i64 (.v 55), .sl (.v 56) (.v 57) (.v 58), .int .i64 (.v 60), .int .i64 (.v 61), .int .i64 (.v 62), .int .i64 (.v 63)], .a (.bool (.v 64))]) [(.a 50, .prop 53), (.a 56, .prop 59), (.b (.v 9), .prop 65), (.a 17, .prop 20)]
(.again 0 [.n (.v 41), .e (.o1 .not (.o1 .not (.v 64))), .e (.o1 .neg (.o1 .neg (.v 42))), .e (.o1 .neg (.o1 .neg (.v 43))), .e (.o1 .neg (.o1 .neg (.v 44))), .e (.o1 .not (.o1 .not (.v 45))), .e (.o1 .neg (.o1 .neg (.v 46))), .e (.o1 .neg (.o1 .neg (.v 47))), .e (.o1 .neg (.o1 .neg (.v 48))), .e (.o1 .neg (.o1 .neg (.v 49))), .a (.v 50), .e (.o2 .nadd (.v 51) (.n 0)), .e (.o2 .nadd (.v 52) (.n 0)), .e (.o1 .neg (.o1 .neg (.v 54))), .e (.o1 .neg (.o1 .neg (.v 55))), .a (.v 56), .e (.o2 .nadd (.v 57) (.n 0)), .e (.o2 .nadd (.v 58) (.n 0)), .e (.o1 .neg (.o1 .neg (.v 60))), .e (.o1 .neg (.o1 .neg (.v 61))), .e (.o1 .neg (.o1 .neg (.v 62))), .e (.o1 .neg (.o1 .neg (.v 63))), .p [(.a 50, .prop 53)], .p [(.a 56, .prop 59)], .p [(.b (.v 9), .prop 65)]])))))))
(.join [.p]
(.br (.v 22)
(.call 13 [.a (.ptr (.v 12) 0), .agg [.int .i64 (.v 23), .int .i64 (.v 24), .int .i64 (.v 25), .bool (.v 26), .int .i64 (.v 27), .int .i64 (.v 28), .int .i64 (.v 29), .int .i64 (.v 30), .sl (.v 31) (.v 32) (.v 33), .int .i64 (.v 34), .int .i64 (.v 35), .sl (.v 36) (.v 37) (.v 38), .int .i64 (.v 39), .int .i64 (.v 40), .int .i64 (.v 41), .int .i64 (.v 42)]] [(.b (.v 12), .prop 15), (.a 31, .prop 43), (.a 36, .prop 44)] [.p] (.tup []) [(.b (.v 12), .prop 46), (.a 31, .prop 43), (.a 36, .prop 44)]
(.again 0 [.p [(.b (.v 12), .prop 46)]]))
(.again 0 [.p [(.b (.v 12), .prop 15)]]))
(.need (.o1 (.inr .i64) (.o2 .add (.v 14) (.i 1)))
(.again 0 [.e (.o1 .neg (.o1 .neg (.o2 .add (.v 14) (.i 1)))), .p [(.b (.v 12), .prop 46)], .p [(.b (.v 9), .prop 45)]]))))))
(.again 1 [.e (.o1 .neg (.o1 .neg (.v 14))), .p [(.b (.v 12), .prop 15)], .p [(.b (.v 9), .prop 16)]])))))
(.ret (.w (.a (.ptr (.v 12) 0))) [(.a 1, .prop 4), (.b (.v 6), .cells [.int .i64 (.v 7)] 3), (.b (.v 8), .cells [.ptr (.v 9) 0] 29), (.b (.v 9), .prop 16), (.b (.v 12), .prop 15)]))))
theorem tree_advAfter1 : tree Tryz.prog { opq := [62, 50], hv := [(0, [.b (.v 12), .b (.v 9)])], keep := [14, 16, 21, 11, 7, 24, 10, 15, 19, 17, 23, 22], link := [(27, 0)], turn := [(13, [0]), (18, [0]), (12, [0])], outl := true, opn := true, rdf := true, peek := [62, 50], jn := [((29, 21), some { ss := [.n, .c, .i, .i, .i, .c, .i, .i, .i, .i, .a, .n, .n, .i, .i, .a, .n, .n, .i, .i, .i, .i, .p, .p, .p], n := 46, tv := [(29, none), (30, none), (31, none), (32, none), (33, none), (28, none), (34, none), (35, none), (10, some (.w (.a (.ptr (.v 21) 0)))), (11, some (.w (.a (.bool (.v 22)))))], h := [(.b (.v 21), .cells [.int .i64 (.v 23), .int .i64 (.v 24), .int .i64 (.v 25), .bool (.v 26), .int .i64 (.v 27), .int .i64 (.v 28), .int .i64 (.v 29), .int .i64 (.v 30), .sl (.v 31) (.v 32) (.v 33), .int .i64 (.v 34), .int .i64 (.v 35), .sl (.v 36) (.v 37) (.v 38), .int .i64 (.v 39), .int .i64 (.v 40), .int .i64 (.v 41), .int .i64 (.v 42)] 41), (.a 31, .prop 43), (.a 36, .prop 44), (.b (.v 9), .prop 45), (.a 17, .prop 20), (.b (.v 12), .prop 15), (.a 1, .prop 4), (.b (.v 11), .cells [.int .i64 (.v 0), .sl (.v 1) (.v 2) (.v 3)] 25), (.b (.v 6), .cells [.int .i64 (.v 7)] 3), (.b (.v 8), .cells [.ptr (.v 9) 0] 29)], lk := [] }), ((2000036, 46), some { ss := [.p], n := 47, tv := [(37, none), (38, none), (39, none)], h := [(.b (.v 12), .prop 46), (.a 31, .prop 43), (.a 36, .prop 44), (.b (.v 21), .cells [.int .i64 (.v 23), .int .i64 (.v 24), .int .i64 (.v 25), .bool (.v 26), .int .i64 (.v 27), .int .i64 (.v 28), .int .i64 (.v 29), .int .i64 (.v 30), .sl (.v 31) (.v 32) (.v 33), .int .i64 (.v 34), .int .i64 (.v 35), .sl (.v 36) (.v 37) (.v 38), .int .i64 (.v 39), .int .i64 (.v 40), .int .i64 (.v 41), .int .i64 (.v 42)] 41), (.b (.v 9), .prop 45), (.a 17, .prop 20), (.a 1, .prop 4), (.b (.v 11), .cells [.int .i64 (.v 0), .sl (.v 1) (.v 2) (.v 3)] 25), (.b (.v 6), .cells [.int .i64 (.v 7)] 3), (.b (.v 8), .cells [.ptr (.v 9) 0] 29)], lk := [] }), ((1000000, 14), some { ss := [.i, .p, .p], n := 17, tv := [(16, none), (17, none), (18, none), (19, none), (20, none), (23, none), (24, none), (9, none), (25, none), (26, none), (27, none), (29, none), (30, none), (31, none), (32, none), (33, none), (28, none), (34, none), (35, none), (10, none), (11, none), (36, none), (37, none), (38, none), (39, none), (21, none), (22, none), (8, some (.w (.a (.int .i64 (.v 14)))))], h := [(.b (.v 12), .prop 15), (.a 1, .prop 4), (.b (.v 11), .cells [.int .i64 (.v 0), .sl (.v 1) (.v 2) (.v 3)] 25), (.b (.v 6), .cells [.int .i64 (.v 7)] 3), (.b (.v 8), .cells [.ptr (.v 9) 0] 29), (.b (.v 9), .prop 16)], lk := [] })] } Tryz.f9 [.agg [.int .i64 (.v 0), .sl (.v 1) (.v 2) (.v 3)], .a (.int .i64 (.v 5)), .a (.ptr (.v 6) 0), .a (.ptr (.v 8) 0)] [(.a 1, .prop 4), (.b (.v 6), .cells [.int .i64 (.v 7)] 3), (.b (.v 8), .cells [.ptr (.v 9) 0] 29), (.b (.v 9), .prop 10)] 11 = t_advAfter1 := by kernel_rfl
def t_advAfter : T :=
(.call 6 [] [] [.c] (.w (.a (.bool (.v 2)))) []
(.br (.o1 .not (.v 2))
(.ret (.w (.a (.bool (.c false)))) [])
(.need (.o1 (.inr .i64) (.o2 .add (.o2 (.bit .and .i64) (.v 0) (.i 3)) (.i 1)))
(.new
(.need (.o1 (.inr .i64) (.o2 .add (.o2 (.bit .and .i64) (.v 1) (.i 1)) (.i 1)))
(.call 7 [.a (.int .i64 (.o2 .add (.o2 (.bit .and .i64) (.v 0) (.i 3)) (.i 1))), .a (.int .i64 (.o2 .mn (.o2 .add (.o2 (.bit .and .i64) (.v 1) (.i 1)) (.i 1)) (.o2 .add (.o2 (.bit .and .i64) (.v 0) (.i 3)) (.i 1))))] [] [.i, .a, .n, .n, .p, .i] (.tup [.agg [.int .i64 (.v 4), .sl (.v 5) (.v 6) (.v 7)], .a (.int .i64 (.v 9))]) [(.a 5, .prop 8)]
(.new
(.call 8 [.a (.int .i64 (.o2 .add (.o2 (.bit .and .i64) (.v 0) (.i 3)) (.i 1)))] [] [.n, .p] (.w (.a (.ptr (.v 11) 0))) [(.b (.v 11), .prop 12)]
(.new
(.join [.c]
(.br (.o1 .not (.o2 .eq (.v 9) (.i 0)))
(.again 0 [.e (.o1 .not (.o1 .not (.c true)))])
(.again 0 [.e (.o1 .not (.o1 .not (.c false)))]))
(.br (.v 14)
(.ret (.w (.a (.bool (.c false)))) [])
(.call 9 [.agg [.int .i64 (.v 4), .sl (.v 5) (.v 6) (.v 7)], .a (.int .i64 (.i 1)), .a (.ptr (.v 3) 0), .a (.ptr (.v 13) 0)] [(.a 5, .prop 8), (.b (.v 3), .cells [.int .i64 (.o2 .add (.o2 (.bit .and .i64) (.v 0) (.i 3)) (.i 1))] 3), (.b (.v 13), .cells [.ptr (.v 11) 0] 29), (.b (.v 11), .prop 12)] [.n, .p, .p, .i, .n, .p] (.w (.a (.ptr (.v 15) 0))) [(.b (.v 15), .prop 16), (.a 5, .prop 17), (.b (.v 3), .cells [.int .i64 (.v 18)] 3), (.b (.v 13), .cells [.ptr (.v 19) 0] 29), (.b (.v 19), .prop 20)]
(.call 9 [.agg [.int .i64 (.v 4), .sl (.v 5) (.v 6) (.v 7)], .a (.int .i64 (.i 2)), .a (.ptr (.v 3) 0), .a (.ptr (.v 13) 0)] [(.a 5, .prop 17), (.b (.v 3), .cells [.int .i64 (.v 18)] 3), (.b (.v 13), .cells [.ptr (.v 19) 0] 29), (.b (.v 19), .prop 20)] [.n, .p, .p, .i, .n, .p] (.w (.a (.ptr (.v 21) 0))) [(.b (.v 21), .prop 22), (.a 5, .prop 23), (.b (.v 3), .cells [.int .i64 (.v 24)] 3), (.b (.v 13), .cells [.ptr (.v 25) 0] 29), (.b (.v 25), .prop 26)]
(.join [.c]
(.call 14 [.a (.ptr (.v 15) 0)] [(.b (.v 15), .prop 16)] [.i] (.w (.a (.int .i64 (.v 27)))) [(.b (.v 15), .prop 16)]
(.br (.o1 .not (.o2 .eq (.v 27) (.i 5)))
(.again 0 [.e (.o1 .not (.o1 .not (.c true)))])
(.call 14 [.a (.ptr (.v 21) 0)] [(.b (.v 21), .prop 22)] [.i] (.w (.a (.int .i64 (.v 28)))) [(.b (.v 21), .prop 22)]
(.br (.o1 .not (.o2 .eq (.v 28) (.i 5)))
(.again 0 [.e (.o1 .not (.o1 .not (.c true)))])
(.call 16 [.a (.ptr (.v 15) 0)] [(.b (.v 15), .prop 16)] [.i, .a, .n, .n, .p] (.w (.agg [.int .i64 (.v 29), .sl (.v 30) (.v 31) (.v 32)])) [(.a 30, .prop 33), (.b (.v 15), .prop 16)]
(.call 16 [.a (.ptr (.v 21) 0)] [(.b (.v 21), .prop 22)] [.i, .a, .n, .n, .p] (.w (.agg [.int .i64 (.v 34), .sl (.v 35) (.v 36) (.v 37)])) [(.a 35, .prop 38), (.b (.v 21), .prop 22)]
(.call 15 [.agg [.int .i64 (.v 29), .sl (.v 30) (.v 31) (.v 32)], .agg [.int .i64 (.v 34), .sl (.v 35) (.v 36) (.v 37)]] [(.a 30, .prop 33), (.a 35, .prop 38)] [.c] (.w (.a (.bool (.v 39)))) [(.a 30, .prop 33), (.a 35, .prop 38)]
(.br (.o1 .not (.v 39))
(.again 0 [.e (.o1 .not (.o1 .not (.c true)))])
(.call 16 [.a (.ptr (.v 15) 0)] [(.b (.v 15), .prop 16)] [.i, .a, .n, .n, .p] (.w (.agg [.int .i64 (.v 40), .sl (.v 41) (.v 42) (.v 43)])) [(.a 41, .prop 44), (.b (.v 15), .prop 16)]
(.again 0 [.e (.o1 .not (.o1 .not (.o1 .not (.o2 .eq (.v 40) (.i 1)))))]))))))))))
(.br (.v 27)
(.ret (.w (.a (.bool (.c false)))) [])
(.call 16 [.a (.ptr (.v 15) 0)] [(.b (.v 15), .prop 16)] [.i, .a, .n, .n, .p] (.w (.agg [.int .i64 (.v 28), .sl (.v 29) (.v 30) (.v 31)])) [(.a 29, .prop 32), (.b (.v 15), .prop 16)]
(.call 9 [.agg [.int .i64 (.v 28), .sl (.v 29) (.v 30) (.v 31)], .a (.int .i64 (.i 3)), .a (.ptr (.v 3) 0), .a (.ptr (.v 13) 0)] [(.a 29, .prop 32), (.b (.v 3), .cells [.int .i64 (.v 24)] 3), (.b (.v 13), .cells [.ptr (.v 25) 0] 29), (.b (.v 25), .prop 26)] [.n, .p, .p, .i, .n, .p] (.w (.a (.ptr (.v 33) 0))) [(.b (.v 33), .prop 34), (.a 29, .prop 35), (.b (.v 3), .cells [.int .i64 (.v 36)] 3), (.b (.v 13), .cells [.ptr (.v 37) 0] 29), (.b (.v 37), .prop 38)]
(.call 9 [.agg [.int .i64 (.v 4), .sl (.v 5) (.v 6) (.v 7)], .a (.int .i64 (.i 4)), .a (.ptr (.v 3) 0), .a (.ptr (.v 13) 0)] [(.a 5, .prop 23), (.b (.v 3), .cells [.int .i64 (.v 36)] 3), (.b (.v 13), .cells [.ptr (.v 37) 0] 29), (.b (.v 37), .prop 38)] [.n, .p, .p, .i, .n, .p] (.w (.a (.ptr (.v 39) 0))) [(.b (.v 39), .prop 40), (.a 5, .prop 41), (.b (.v 3), .cells [.int .i64 (.v 42)] 3), (.b (.v 13), .cells [.ptr (.v 43) 0] 29), (.b (.v 43), .prop 44)]
(.join [.c]
(.call 14 [.a (.ptr (.v 33) 0)] [(.b (.v 33), .prop 34)] [.i] (.w (.a (.int .i64 (.v 45)))) [(.b (.v 33), .prop 34)]
(.br (.o2 .eq (.v 45) (.i 5))
(.call 16 [.a (.ptr (.v 33) 0)] [(.b (.v 33), .prop 34)] [.i, .a, .n, .n, .p] (.w (.agg [.int .i64 (.v 46), .sl (.v 47) (.v 48) (.v 49)])) [(.a 47, .prop 50), (.b (.v 33), .prop 34)]
(.br (.o2 .eq (.v 46) (.i 2))
(.call 14 [.a (.ptr (.v 39) 0)] [(.b (.v 39), .prop 40)] [.i] (.w (.a (.int .i64 (.v 51)))) [(.b (.v 39), .prop 40)]
(.br (.o2 .eq (.v 51) (.i 5))
(.call 16 [.a (.ptr (.v 39) 0)] [(.b (.v 39), .prop 40)] [.i, .a, .n, .n, .p] (.w (.agg [.int .i64 (.v 52), .sl (.v 53) (.v 54) (.v 55)])) [(.a 53, .prop 56), (.b (.v 39), .prop 40)]
(.call 16 [.a (.ptr (.v 15) 0)] [(.b (.v 15), .prop 16)] [.i, .a, .n, .n, .p] (.w (.agg [.int .i64 (.v 57), .sl (.v 58) (.v 59) (.v 60)])) [(.a 58, .prop 61), (.b (.v 15), .prop 16)]
(.call 15 [.agg [.int .i64 (.v 52), .sl (.v 53) (.v 54) (.v 55)], .agg [.int .i64 (.v 57), .sl (.v 58) (.v 59) (.v 60)]] [(.a 53, .prop 56), (.a 58, .prop 61)] [.c] (.w (.a (.bool (.v 62)))) [(.a 53, .prop 56), (.a 58, .prop 61)]
(.br (.v 62)
(.read (.load 50 (.tmp 97)) 50 [(97, .w (.a (.ptr (.v 43) 1)))] [(.b (.v 43), .prop 44)] [.v] (.w (.a (.val 63)))
(.call 17 [.a (.val 63)] [(.b (.v 43), .prop 44)] [.i] (.w (.a (.int .i64 (.v 64)))) [(.b (.v 43), .prop 44)]
(.again 0 [.e (.o1 .not (.o1 .not (.o2 .eq (.v 64) (.i 2))))])))
(.again 0 [.e (.o1 .not (.o1 .not (.c false)))])))))
(.again 0 [.e (.o1 .not (.o1 .not (.c false)))])))
(.again 0 [.e (.o1 .not (.o1 .not (.c false)))])))
(.again 0 [.e (.o1 .not (.o1 .not (.c false)))])))
(.ret (.w (.a (.bool (.v 45)))) []))))))))))))))))))))
theorem tree_advAfter : tree Tryz.prog { opq := [62, 50], keep := [14, 16, 21, 11, 7, 24, 10, 15, 19, 17, 23, 22], link := [(27, 0)], turn := [(13, [0]), (18, [0]), (12, [0])], outl := true, opn := true, rdf := true, peek := [62, 50], jn := [((3000031, 14), some { ss := [.c], n := 15, tv := [(31, none), (32, none), (33, none), (34, none), (35, none), (36, some (.w (.a (.bool (.v 14)))))], h := [(.b (.v 13), .cells [.ptr (.v 11) 0] 29), (.b (.v 11), .prop 12), (.b (.v 10), .cells [.int .i64 (.v 4), .sl (.v 5) (.v 6) (.v 7)] 25), (.a 5, .prop 8), (.b (.v 3), .cells [.int .i64 (.o2 .add (.o2 (.bit .and .i64) (.v 0) (.i 3)) (.i 1))] 3)], lk := [] }), ((3000044, 27), some { ss := [.c], n := 28, tv := [(44, none), (45, none), (46, none), (47, none), (48, none), (49, none), (50, none), (51, none), (52, none), (53, none), (54, none), (55, none), (56, none), (57, none), (58, none), (59, none), (60, none), (61, none), (62, none), (63, none), (64, none), (65, some (.w (.a (.bool (.v 27)))))], h := [(.b (.v 15), .prop 16), (.b (.v 21), .prop 22), (.a 5, .prop 23), (.b (.v 3), .cells [.int .i64 (.v 24)] 3), (.b (.v 13), .cells [.ptr (.v 25) 0] 29), (.b (.v 25), .prop 26), (.b (.v 10), .cells [.int .i64 (.v 4), .sl (.v 5) (.v 6) (.v 7)] 25)], lk := [] }), ((3000073, 45), some { ss := [.c], n := 46, tv := [(73, none), (74, none), (75, none), (76, none), (77, none), (78, none), (79, none), (80, none), (81, none), (82, none), (83, none), (84, none), (85, none), (86, none), (87, none), (88, none), (89, none), (90, none), (91, none), (92, none), (93, none), (94, none), (95, none), (96, none), (97, none), (98, none), (99, none), (100, none), (101, none), (4, some (.w (.a (.bool (.v 45)))))], h := [(.b (.v 43), .prop 44), (.b (.v 15), .prop 16), (.b (.v 39), .prop 40), (.b (.v 33), .prop 34), (.a 5, .prop 41), (.b (.v 3), .cells [.int .i64 (.v 42)] 3), (.b (.v 13), .cells [.ptr (.v 43) 0] 29), (.a 29, .prop 35), (.b (.v 21), .prop 22), (.b (.v 10), .cells [.int .i64 (.v 4), .sl (.v 5) (.v 6) (.v 7)] 25)], lk := [] })] } Tryz.f3 [.a (.int .i64 (.v 0)), .a (.int .i64 (.v 1))] [] 2 = t_advAfter := by kernel_rfl
end Go.Proofs.YtbmajijnjkicmaaGreatDoor.RX



namespace Go.Proofs.YtbmajijnjkicmaaGreatDoor
set_option linter.unusedSimpArgs false
set_option linter.unusedVariables false
open Go.Proofs.YtbmajijnjkicmaaGreatDoor RX
set_option maxRecDepth 100000

structure UR where
  ub : Nat
  bd : Nat
  s : USt
  ps : List Pg
abbrev UR.hp (u : UR) : HP := UD u.ub u.bd 900 u.s u.ps
abbrev UR.ptr (u : UR) : Value := .pointer (some ⟨u.ub, 0, none⟩)
abbrev OwU (a : Option Addr) (n c : Nat) (l : List UR) : HP := OwC 62 1 a n c (l.map UR.ptr)
def UnL (a : Option Addr) (n c : Nat) (l : List UR) : HP := HP.and (l.length = n) (HP.sep (OwU a n c l) (sepN (l.map UR.hp)))
theorem infoU : (Tryz.prog.info? 62).map (fun i => (i.zero, i.size, i.bytes)) = some (some (.pointer none), 1, 8) := by kernel_rfl
theorem undUs : Tryz.prog.underlying 49 = some (.slice 62) := by kernel_rfl
theorem undU : Tryz.prog.underlying 62 = some (.pointer 94) := by kernel_rfl
theorem aggU : aggT Tryz.prog 62 = false := by kernel_rfl
theorem szU : szT Tryz.prog 62 = 1 := by kernel_rfl
theorem appendU (a : Option Addr) (n c : Nat) (l : List UR) (b : Nat) (u : UR) (K : HP) (hb : n ≤ 1000000000) :
    OTri Tryz.prog (appS 49 49 (.slice a n c) (.slice (some ⟨b, 0, none⟩) 1 1)) (HP.sep (UnL a n c l) (HP.sep (HP.one b (.cells #[u.ptr] 62 (0, 0))) (HP.sep u.hp K)))
      (fun v => HP.ex fun a' => HP.ex fun c' => HP.and (v = .slice a' (n + 1) c') (UnL a' (n + 1) c' (l ++ [u]))) := by
  obtain ⟨i, hi, h1, h2, h3⟩ := info_parts infoU
  have := append_ok 49 49 62 i (.pointer none) undUs hi h1 (by rw [h2]; rfl) (by omega) a n c (l.map UR.ptr) (HP.one b (.cells #[u.ptr] 62 (0, 0))) ⟨b, 0, none⟩ 1 1 [u.ptr] (one_rd b _ _) (by simp [h2]) (fun v hv => by simp at hv; subst hv; rfl) (by unfold maxLen; omega) (by rw [h3]; omega)
  rw [h2] at this
  refine OTri.fact (φ := l.length = n) (fun R h H => (HP.sep_left H).1) fun hl => ?_
  refine (this.frame (HP.sep (sepN (l.map UR.hp)) u.hp)).weak (fun R h H => ?_) ?_
  · have H1 := HP.sep_assoc (HP.sep_mono H (fun _ h => h.2) fun _ h => h)
    exact HP.sep_assoc' (HP.pick [_, _, _, _, _] [0, 2, 1, 3] (by decide) rfl H1)
  · rintro v R h ⟨h1, h2, d, l1, l2, ⟨a', c', rfl, H⟩, HU⟩
    refine ⟨a', c', rfl, by simp [hl], ?_⟩
    have H1 := HP.sep_assoc ⟨h1, h2, d, l1, l2, H, HU⟩
    have H2 := HP.sep_mono H1 (fun _ h => h) fun y hy => HP.sep_right hy
    have e : (l ++ [u]).map UR.hp = l.map UR.hp ++ [u.hp] := by simp
    rw [e]
    exact HP.sep_mono H2 (fun y hy => by unfold OwU; rw [List.map_append]; exact hy) fun y hy => (sepN_app (l := l.map UR.hp) (m := [u.hp])).2 hy
theorem forg0 : forgS s0 = s0 := by
  have h : (forgS s0).cells = s0.cells := funext fun k => by
    show (if k < s0.low then none else s0.cells k) = none
    split <;> rfl
  show ({ s0 with cells := (forgS s0).cells } : USt) = s0
  rw [h]
def newU (ub bd : Nat) : UR := ⟨ub, bd, s0, []⟩

structure NS where
  l : List UR
  e : Int
  n : Int
structure NRw where
  a : Option Addr
  c : Nat
  sq : Nat
def NodR (b : Nat) (w : NS) (r : NRw) : HP := HP.sep (HP.one b (.cells #[.slice r.a w.l.length r.c, .pointer (some ⟨r.sq, 0, none⟩)] 52 (0, 0))) (HP.sep (UnL r.a w.l.length r.c w.l) (SqRep r.sq w.e w.n))
def NodRep (b : Nat) (w : NS) : HP := HP.ex fun r => NodR b w r
section
variable {b : Nat} {w : NS} {r : NRw}
theorem ndLdU : ORead Tryz.prog (loadS 49 (.pointer (some ⟨b, 0, none⟩))) (NodR b w r) (.slice r.a w.l.length r.c) := ldB1 undUs (by kernel_rfl) (by kernel_rfl) rfl
theorem undSq : Tryz.prog.underlying 50 = some (.pointer 86) := by kernel_rfl
theorem ndLdS : ORead Tryz.prog (loadS 50 (.pointer (some ⟨b, 1, none⟩))) (NodR b w r) (.pointer (some ⟨r.sq, 0, none⟩)) := ldB1 undSq (by kernel_rfl) (by kernel_rfl) rfl
theorem UnL.rdU {a : Option Addr} {n c : Nat} {l : List UR} {Q : HP} : Rd (HP.sep (UnL a n c l) Q) a (l.map UR.ptr) := Rd.left (Rd.imp (Rd.left (B := sepN (l.map UR.hp)) (OwC.rd 62 1 a n c (l.map UR.ptr))) fun R h H => H.2)
theorem ndLd1 {k : Nat} {u : UR} (hk : w.l[k]? = some u) : ORead Tryz.prog (loadS 62 (.pointer (r.a.map fun x => (x.add (k * 1)).add 0))) (NodR b w r) u.ptr :=
  load1_ok undU aggU szU (Rd.impR (UnL.rdU (Q := SqRep r.sq w.e w.n)) fun R h H => HP.sep_right H) (k := k * 1) (off := 0) (v := u.ptr) (by simp [hk])
theorem NodR.isSm {R h : PH} (H : (NodR b w r).p R h) (hn : w.l.length ≠ 0) : r.a.isSome = true := OwC.some (HP.sep_left (HP.sep_left (HP.sep_right H)).2) (by omega)
def NodRest (b : Nat) (w : NS) (r : NRw) (k : Nat) : HP := HP.sep (HP.one b (.cells #[.slice r.a w.l.length r.c, .pointer (some ⟨r.sq, 0, none⟩)] 52 (0, 0))) (HP.sep (HP.sep (OwU r.a w.l.length r.c w.l) (sepN ((w.l.map UR.hp).eraseIdx k))) (SqRep r.sq w.e w.n))
theorem NodR.focus {k : Nat} {u : UR} (hk : w.l[k]? = some u) {R h : PH} (H : (NodR b w r).p R h) : (HP.sep u.hp (NodRest b w r k)).p R h := by
  have H1 := HP.sep_mono H (fun _ h => h) fun y hy => HP.sep_assoc (HP.sep_mono hy (fun z hz => HP.sep_mono hz.2 (fun _ h => h) fun x hx => sepN_focus (k := k) (x := u.hp) (by simp [hk]) hx) fun _ h => h)
  have H2 := HP.sep_mono H1 (fun _ h => h) fun y hy => HP.sep_mono hy (fun _ h => h) fun z hz => HP.sep_assoc hz
  have H3 := HP.pick [_, _, _, _, _] [2, 0, 1, 3, 4] (by decide) rfl H2
  exact HP.sep_mono H3 (fun _ h => h) fun y hy => HP.sep_mono hy (fun _ h => h) fun z hz => HP.sep_assoc' hz
def NS.put (w : NS) (k : Nat) (u : UR) : NS := { w with l := w.l.set k u }
theorem NodR.join {k : Nat} {u u' : UR} (hk : w.l[k]? = some u) (hu : u'.ub = u.ub) {R h : PH} (H : (HP.sep u'.hp (NodRest b w r k)).p R h) : (NodR b (w.put k u') r).p R h := by
  have hlt : k < w.l.length := (List.getElem?_eq_some_iff.1 hk).1
  have e : (w.l.set k u').map UR.ptr = w.l.map UR.ptr := by
    rw [List.map_set]
    have : u'.ptr = u.ptr := by simp [UR.ptr, hu]
    rw [this]
    refine List.ext_getElem? fun j => ?_
    rw [List.getElem?_set]
    split
    · rename_i hj; subst hj; rw [if_pos (by simpa using hlt), List.getElem?_map, hk]; rfl
    · rfl
  have H1 := HP.sep_mono H (fun _ h => h) fun y hy => HP.sep_mono hy (fun _ h => h) fun z hz => HP.sep_assoc hz
  have H2 := HP.pick [_, _, _, _, _] [1, 2, 0, 3, 4] (by decide) rfl H1
  unfold NodR NS.put
  simp only [List.length_set]
  refine HP.sep_mono H2 (fun _ h => h) fun y hy => ?_
  have H3 := HP.sep_mono hy (fun _ h => h) fun z hz => HP.sep_assoc' hz
  refine HP.sep_mono (HP.sep_assoc' H3) (fun z hz => ⟨by simp, HP.sep_mono hz (fun x hx => by unfold OwU; rw [e]; exact hx) fun x hx => ?_⟩) fun _ h => h
  rw [List.map_set]
  exact sepN_unfocus (by simpa using hlt) hx
theorem nod_unit {f : FuncId} {args : Array Value} {k : Nat} {u : UR} (hk : w.l[k]? = some u) {B : Value → HP} {s' : USt} {ps' : List Pg} {K : HP} (t : Tri Tryz.prog f args (HP.sep (UD u.ub u.bd 900 u.s u.ps) K) (fun v => HP.sep (UD u.ub u.bd 900 s' ps') (B v))) :
    Tri Tryz.prog f args (HP.sep (NodR b w r) K) (fun v => HP.sep (NodR b (w.put k ⟨u.ub, u.bd, s', ps'⟩) r) (B v)) := by
  refine (t.frame (NodRest b w r k)).weak (fun R h H => ?_) fun v R h H => ?_
  · have H1 := HP.sep_assoc (HP.sep_mono H (fun y hy => NodR.focus hk hy) fun _ h => h)
    exact HP.sep_assoc' (HP.pick [_, _, _] [0, 2, 1] (by decide) rfl H1)
  · have H1 := HP.pick [_, _, _] [0, 2, 1] (by decide) rfl (HP.sep_assoc H)
    exact HP.sep_mono (HP.sep_assoc' H1) (fun y hy => NodR.join (u' := ⟨u.ub, u.bd, s', ps'⟩) hk rfl hy) fun _ h => h
theorem nod_seq {f : FuncId} {args : Array Value} {B : Value → HP} {e' n' : Int} {K : HP} (t : Tri Tryz.prog f args (HP.sep (SqRep r.sq w.e w.n) K) (fun v => HP.sep (SqRep r.sq e' n') (B v))) :
    Tri Tryz.prog f args (HP.sep (NodR b w r) K) (fun v => HP.sep (NodR b { w with e := e', n := n' } r) (B v)) := by
  refine (t.frame (HP.sep (HP.one b (.cells #[.slice r.a w.l.length r.c, .pointer (some ⟨r.sq, 0, none⟩)] 52 (0, 0))) (UnL r.a w.l.length r.c w.l))).weak (fun R h H => ?_) fun v R h H => ?_
  · have H1 := HP.sep_assoc H
    have H2 := HP.sep_mono H1 (fun _ h => h) fun y hy => HP.sep_assoc hy
    exact HP.sep_assoc' (HP.pick [_, _, _, _] [2, 3, 0, 1] (by decide) rfl H2)
  · have H1 := HP.pick [_, _, _, _] [2, 3, 0, 1] (by decide) rfl (HP.sep_assoc H)
    exact HP.sep_assoc' (HP.sep_mono H1 (fun _ h => h) fun y hy => HP.sep_assoc' hy)
end
set_option maxHeartbeats 1000000 in
theorem laid18_ok (n : Nat) (hn : n ≤ 1000) : Tri Tryz.prog 8 #[.int .i64 n] HP.tt
    (fun v => HP.ex fun b => HP.ex fun w : NS => HP.and (v = .pointer (some ⟨b, 0, none⟩) ∧ w.l.length = n ∧ w.e = -1 ∧ w.n = 0 ∧ ∀ u ∈ w.l, u.s = s0 ∧ u.ps = []) (NodRep b w)) := by
  refine tri_of_tree (ρ := [.i n]) mixed Tryz.func8 tree_laid18 ?_
  unfold t_laid18
  simp only [T.den, E.prop, E.den, RX.look, F1.app, F2.app, Uni.int_i, Uni.nat_n, Uni.bool_c, Uni.str_s, Uni.adr_a, Uni.val_v, Uni.hp_p, hden, cden, V.den, W.den, A.den, BR.den, SA.den, FV.den, capV, exs, exP, allP, Cur.app, List.map_cons, List.map_nil, List.cons_append, List.nil_append, List.drop_succ_cons, List.drop_zero, List.length_cons, List.length_nil, Nat.zero_add, Nat.reduceAdd, Int.neg_neg, Bool.not_not, List.append_nil, Nat.add_zero, List.getElem?_cons_zero, List.getElem?_cons_succ, Decidable.not_not, semW_eq, semW_append, ne_eq, Nat.reduceEqDiff, not_false_eq_true]
  refine kNew_ok.weak (fun _ _ h => h) ?_
  rintro v R h ⟨sq, rfl, H⟩
  refine ⟨sq, SqRep sq (-1) 0, rfl, fun x => ?_, H⟩
  clear H
  refine ⟨fun _ _ i a len cap P q Q => ∃ (k : Nat) (l : List UR), i = k ∧ k ≤ n ∧ len = k ∧ (∀ u ∈ l, u.s = s0 ∧ u.ps = []) ∧ HP.ent P (UnL a k cap l) ∧ q = sq ∧ Q = SqRep sq (-1) 0, fun _ _ i _ _ _ _ _ _ => n - i.toNat,
    ⟨0, [], rfl, Nat.zero_le _, rfl, (fun u hu => by cases hu), .of fun R h H => ⟨rfl, HP.sep_tt (OwC.nil _ _ R h)⟩, rfl, rfl⟩, ?_⟩
  rintro _ _ _ a k cap P q Q ⟨_, l, rfl, hk, rfl, hl, hP, rfl, rfl⟩
  refine ⟨fun hlt => ?_, fun hge => ?_⟩
  · refine (dNew_ok 900 (by decide) (by decide)).weak (fun _ _ h => h) ?_
    rintro v R h ⟨bd, rfl, H⟩
    refine ⟨bd, DRep bd 900 [] 0, 0, rfl, ⟨fun h => absurd rfl h, fun _ => ?_⟩, H⟩
    clear H
    refine (uOpen_ok bd 900 [] 0 s0 rfl).weak (fun _ _ h => h) ?_
    rintro v R h ⟨ub, rfl, H⟩
    rw [forg0] at H
    refine ⟨ub, UD ub bd 900 s0 [], 0, HP.tt, rfl, ⟨fun h => absurd rfl h, fun _ y => ?_⟩, HP.sep_tt H⟩
    clear H
    refine (appendU a k cap l y (newU ub bd) HP.tt (by omega)).conseq (K := HP.tt) ((hP.sep _).trans (.of fun R h H => HP.sep_tt H)) fun v => .of fun R h H => ?_
    obtain ⟨a', c', rfl, H2⟩ := HP.sep_left H
    refine ⟨a', k + 1, c', UnL a' (k + 1) c' (l ++ [newU ub bd]), rfl, ⟨inI64 _ (by omega) (by omega), fun _ => ⟨⟨k + 1, l ++ [newU ub bd], by omega, by omega, rfl, fun u hu => ?_, .refl _, rfl, rfl⟩, by dsimp only; omega⟩⟩, H2⟩
    rcases List.mem_append.1 hu with h | h
    · exact hl u h
    · simp at h; subst h; exact ⟨rfl, rfl⟩
  · obtain rfl : k = n := by omega
    refine ((HP.ent.refl _).sep2 (hP.sep _)).trans (.of fun R h H => ?_)
    have hll : l.length = k := (HP.sep_left (HP.sep_right H)).1
    subst hll
    exact ⟨x, ⟨l, -1, 0⟩, ⟨rfl, rfl, rfl, rfl, hl⟩, ⟨a, cap, q⟩, H⟩

def askN (w : NS) (m : MS) : Bool × MS × NS :=
  if m.to = 7 then (true, sqAns w.e w.n m, { w with e := (startT w.e w.n m.ep m.at').2.1, n := (startT w.e w.n m.ep m.at').2.2 })
  else match (if m.to < 0 then none else w.l[m.to.toNat]?) with
    | none => (false, zMS, w)
    | some u => ((answerS 900 u.s u.ps m).1, (answerS 900 u.s u.ps m).2.1, w.put m.to.toNat ⟨u.ub, u.bd, (answerS 900 u.s u.ps m).2.2.1, (answerS 900 u.s u.ps m).2.2.2⟩)
theorem seq_ans {b : Nat} {w : NS} {r : NRw} (m : MS) (ca : Option Addr) (cc : Nat) (va : Option Addr) (vc : Nat) (hk : m.kind = 9) (hr : m.rep = false) :
    Tri Tryz.prog 30 #[.pointer (some ⟨r.sq, 0, none⟩), .agg (m.raw ca cc va vc).vals] (HP.sep (NodR b w r) (HP.sep (m.Dro ca) (m.Vro va)))
      (fun v => HP.sep (NodR b { w with e := (startT w.e w.n m.ep m.at').2.1, n := (startT w.e w.n m.ep m.at').2.2 } r) (HP.and (v = .tuple #[.agg ((sqAns w.e w.n m).raw none 0 none 0).vals, .bool true]) (HP.sep (m.Dro ca) (m.Vro va)))) :=
  nod_seq (B := fun v => HP.and (v = .tuple #[.agg ((sqAns w.e w.n m).raw none 0 none 0).vals, .bool true]) (HP.sep (m.Dro ca) (m.Vro va))) ((kAnswer_ok r.sq w.e w.n m ca cc va vc hk hr).weak (fun _ _ h => h) fun v R h ⟨e, H⟩ => HP.sep_mono H (fun _ h => h) fun y hy => ⟨e, hy⟩)
theorem unit_ans {b : Nat} {w : NS} {r : NRw} {k : Nat} {u : UR} (hk : w.l[k]? = some u) (m : MS) (ca : Option Addr) (cc : Nat) (va : Option Addr) (vc : Nat) :
    Tri Tryz.prog 31 #[u.ptr, .agg (m.raw ca cc va vc).vals] (HP.sep (NodR b w r) (HP.sep (m.Dro ca) (m.Vro va)))
      (fun v => HP.sep (NodR b (w.put k ⟨u.ub, u.bd, (answerS 900 u.s u.ps m).2.2.1, (answerS 900 u.s u.ps m).2.2.2⟩) r) (HP.ex fun rca => HP.ex fun rcc => HP.ex fun rva => HP.ex fun rvc => HP.and (v = .tuple #[.agg ((answerS 900 u.s u.ps m).2.1.raw rca rcc rva rvc).vals, .bool (answerS 900 u.s u.ps m).1])
        (HP.sep (m.Dro ca) (HP.sep (m.Vro va) (HP.sep ((answerS 900 u.s u.ps m).2.1.Dro rca) ((answerS 900 u.s u.ps m).2.1.Vro rva)))))) :=
  nod_unit hk ((answer_ok u.ub u.bd 900 u.s u.ps m ca cc va vc).weak (fun _ _ h => h) fun v R h ⟨rca, rcc, rva, rvc, e, H⟩ => HP.sep_mono H (fun _ h => h) fun y hy => ⟨rca, rcc, rva, rvc, e, hy⟩)
set_option maxHeartbeats 2000000 in
theorem ask18R_ok (b : Nat) (w : NS) (r : NRw) (m : MS) (ca : Option Addr) (cc : Nat) (va : Option Addr) (vc : Nat) (h7 : m.to = 7 → m.kind = 9 ∧ m.rep = false) (hl : w.l.length ≤ 1000) :
    Tri Tryz.prog 12 #[.pointer (some ⟨b, 0, none⟩), .agg (m.raw ca cc va vc).vals] (HP.sep (NodR b w r) (HP.sep (m.Dro ca) (m.Vro va)))
      (fun v => HP.ex fun rca => HP.ex fun rcc => HP.ex fun rva => HP.ex fun rvc => HP.and (v = .tuple #[.agg ((askN w m).2.1.raw rca rcc rva rvc).vals, .bool (askN w m).1])
        (HP.sep (NodR b (askN w m).2.2 r) (HP.sep (m.Dro ca) (HP.sep (m.Vro va) (HP.sep ((askN w m).2.1.Dro rca) ((askN w m).2.1.Vro rva)))))) := by
  refine Tri.fact (φ := w.l.length ≠ 0 → r.a.isSome = true) (fun R h H hn => NodR.isSm (HP.sep_left H) hn) fun hsm => ?_
  refine tri_of_tree (ρ := [.n b, .p (NodR b w r), .i m.fr, .i m.to, .i m.num, .c m.rep, .i m.kind, .i m.ep, .i m.at', .i m.cell.what, .a ca, .n m.cell.data.length, .n cc, .p (m.Dro ca), .i m.br, .i m.bw, .a va, .n m.val.length, .n vc, .p (m.Vro va), .i m.err, .i m.tail, .i m.low, .i m.back]) mixed Tryz.func12 tree_ask18 ?_
  unfold t_ask18
  simp only [T.den, E.prop, E.den, RX.look, F1.app, F2.app, Uni.int_i, Uni.nat_n, Uni.bool_c, Uni.str_s, Uni.adr_a, Uni.val_v, Uni.hp_p, hden, cden, V.den, W.den, A.den, BR.den, SA.den, FV.den, capV, exs, exP, allP, Cur.app, List.map_cons, List.map_nil, List.cons_append, List.nil_append, List.drop_succ_cons, List.drop_zero, List.length_cons, List.length_nil, Nat.zero_add, Nat.reduceAdd, Int.neg_neg, Bool.not_not, List.append_nil, Nat.add_zero, List.getElem?_cons_zero, List.getElem?_cons_succ, Decidable.not_not, semW_eq, semW_load, ne_eq, Nat.reduceEqDiff, not_false_eq_true]
  intro _ _
  have none' : ((if m.to < 0 then none else w.l[m.to.toNat]?) = none) → m.to ≠ 7 → askN w m = (false, zMS, w) := fun h h7 => by unfold askN; rw [if_neg h7, h]
  have fin0 : askN w m = (false, zMS, w) → HP.ent (HP.sep (NodR b w r) (HP.sep (m.Dro ca) (m.Vro va))) (HP.ex fun rca => HP.ex fun rcc => HP.ex fun rva => HP.ex fun rvc => HP.and (Value.tuple #[.agg #[.int .i64 0, .int .i64 0, .int .i64 0, .bool false, .int .i64 0, .int .i64 0, .int .i64 0, .int .i64 0, .slice none 0 0, .int .i64 0, .int .i64 0, .slice none 0 0, .int .i64 0, .int .i64 0, .int .i64 0, .int .i64 0], .bool false] = .tuple #[.agg ((askN w m).2.1.raw rca rcc rva rvc).vals, .bool (askN w m).1])
        (HP.sep (NodR b (askN w m).2.2 r) (HP.sep (m.Dro ca) (HP.sep (m.Vro va) (HP.sep ((askN w m).2.1.Dro rca) ((askN w m).2.1.Vro rva)))))) := fun e => by
    rw [e]
    exact .of fun R h H => ⟨none, 0, none, 0, rfl, HP.sep_mono H (fun _ h => h) fun y H => HP.sep_mono H (fun _ h => h) fun z H => HP.sep_mono (HP.sep_tt H) (fun _ h => h) fun u _ => HP.sep_mono (HP.sep_tt (RoB0 none : (RoB none 0 []).p R u)) (fun _ h => h) fun x _ => RoB0 none⟩
  refine ⟨fun e7 => ⟨.pointer (some ⟨r.sq, 0, none⟩), ndLdS, ?_⟩, fun e7 => ⟨fun e0 => ?_, fun e0 => ⟨r.a, w.l.length, r.c, ndLdU, fun e1 => ?_, fun e1 => ⟨r.a, w.l.length, r.c, ndLdU, by omega, fun _ => ⟨by omega, fun _ => ⟨hsm (by omega), fun _ => ?_⟩⟩⟩⟩⟩⟩
  · obtain ⟨hk9, hrf⟩ := h7 e7
    have ea : askN w m = (true, sqAns w.e w.n m, { w with e := (startT w.e w.n m.ep m.at').2.1, n := (startT w.e w.n m.ep m.at').2.2 }) := if_pos e7
    refine (seq_ans m ca cc va vc hk9 hrf).weak (fun _ _ h => h) ?_
    rintro v R h ⟨h1, h2, d, l1, l2, HN, rfl, HD⟩
    rw [ea]
    generalize hq : sqAns w.e w.n m = q at *
    have hd : q.cell.data = [] ∧ q.val = [] := by rw [← hq]; exact ⟨rfl, rfl⟩
    have r1 : ∀ y, (q.Dro none).p R y := fun y => by unfold MS.Dro; rw [hd.1]; exact RoB0 none
    have r2 : ∀ y, (q.Vro none).p R y := fun y => by unfold MS.Vro; rw [hd.2]; exact RoB0 none
    refine ⟨q.fr, q.to, q.num, q.rep, q.kind, q.ep, q.at', q.cell.what, none, q.cell.data.length, 0, q.Dro none, q.br, q.bw, none, q.val.length, 0, q.Vro none, q.err, q.tail, q.low, q.back, true, NodR b { w with e := (startT w.e w.n m.ep m.at').2.1, n := (startT w.e w.n m.ep m.at').2.2 } r, m.Dro ca, m.Vro va, rfl, .of fun R h H => ⟨none, 0, none, 0, rfl, HP.sep_mono H (fun _ h => h) fun _ h => h⟩, ?_⟩
    exact RoC.join (r1 h) (RoC.join (r2 h) ⟨h1, h2, d, l1, l2, HN, HD⟩)
  · exact fin0 (none' (if_pos e0) e7)
  · exact fin0 (none' (by rw [if_neg e0]; exact List.getElem?_eq_none (by omega)) e7)
  · have hlt : m.to.toNat < w.l.length := by omega
    have hg : w.l[m.to.toNat]? = some w.l[m.to.toNat] := List.getElem?_eq_getElem hlt
    generalize w.l[m.to.toNat] = u at hg
    have ea : askN w m = ((answerS 900 u.s u.ps m).1, (answerS 900 u.s u.ps m).2.1, w.put m.to.toNat ⟨u.ub, u.bd, (answerS 900 u.s u.ps m).2.2.1, (answerS 900 u.s u.ps m).2.2.2⟩) := by
      unfold askN; rw [if_neg e7, if_neg e0, hg]
    refine ⟨u.ptr, ndLd1 hg, ?_⟩
    refine (unit_ans hg m ca cc va vc).weak (fun _ _ h => h) ?_
    rw [ea]
    generalize answerS 900 u.s u.ps m = A
    rintro v R h H
    obtain ⟨h1, h2, d, l1, l2, HN, rca, rcc, rva, rvc, rfl, HD⟩ := H
    have H := HP.pick [_, _, _, _, _] [3, 4, 0, 1, 2] (by decide) rfl (⟨h1, h2, d, l1, l2, HN, HD⟩ : (HP.sep _ (HP.sep (m.Dro ca) (HP.sep (m.Vro va) (HP.sep (A.2.1.Dro rca) (A.2.1.Vro rva))))).p R h)
    exact ⟨A.2.1.fr, A.2.1.to, A.2.1.num, A.2.1.rep, A.2.1.kind, A.2.1.ep, A.2.1.at', A.2.1.cell.what, rca, A.2.1.cell.data.length, rcc, A.2.1.Dro rca, A.2.1.br, A.2.1.bw, rva, A.2.1.val.length, rvc, A.2.1.Vro rva, A.2.1.err, A.2.1.tail, A.2.1.low, A.2.1.back, A.1, _, _, _, rfl, .of fun R h H => ⟨rca, rcc, rva, rvc, rfl, HP.sep_mono H (fun _ h => h) fun _ h => h⟩, H⟩
end Go.Proofs.YtbmajijnjkicmaaGreatDoor



namespace Go.Proofs.YtbmajijnjkicmaaGreatDoor
open Go.Proofs.YtbmajijnjkicmaaGreatDoor RX

end Go.Proofs.YtbmajijnjkicmaaGreatDoor



namespace Go.Proofs.YtbmajijnjkicmaaGreatDoor
open Go.Proofs.YtbmajijnjkicmaaGreatDoor RX

end Go.Proofs.YtbmajijnjkicmaaGreatDoor



namespace Go.Proofs.YtbmajijnjkicmaaGreatDoor
open Go.Proofs.YtbmajijnjkicmaaGreatDoor RX
set_option maxRecDepth 100000

theorem nodup_subL {α : Type} [DecidableEq α] : ∀ {l m : List α}, l.Nodup → (∀ x ∈ l, x ∈ m) → l.length ≤ m.length
  | [], _, _, _ => Nat.zero_le _
  | x :: l, m, h, hs => by
    rw [List.nodup_cons] at h
    have hx := hs x (by simp)
    have ih := nodup_subL (m := m.erase x) h.2 fun y hy => by
      have : y ≠ x := fun e => h.1 (by rw [← e]; exact hy)
      exact (List.mem_erase_of_ne this).2 (hs y (by simp [hy]))
    rw [List.length_erase_of_mem hx] at ih
    have := List.length_pos_of_mem hx
    rw [List.length_cons]; omega
def okC (L : List (Int × BA)) : Int := ((L.filter fun x => x.2.ok).length : Int)
structure PI (u : Int) (k : Nat) (s : BSt) : Prop where
  acc : s.acc = u
  ph : s.phase = 1 ∨ s.phase = 2
  nd : (s.ans.map (·.1)).Nodup
  rg : ∀ f ∈ s.ans.map (·.1), 0 ≤ f ∧ f < u
  ag : s.agreed = okC s.ans
  no : mostB s.acc s.agreed = false
  may : mostB s.acc (s.acc - (s.ans.length - s.agreed)) = true
  av : ∀ x ∈ s.ans, x.2.val.length ≤ 1000
  vl : s.val.length ≤ 1000
  rn : 0 ≤ s.rnd ∧ s.rnd ≤ 1 + k
theorem okC_app (L : List (Int × BA)) (x : Int × BA) : okC (L ++ [x]) = okC L + if x.2.ok = true then 1 else 0 := by
  unfold okC
  rw [List.filter_append, List.length_append]
  by_cases h : x.2.ok = true
  · rw [if_pos h]; simp [h]
  · rw [if_neg h]
    have : x.2.ok = false := by simpa using h
    simp [this]
theorem nodup_len {l : List Int} {u : Nat} (hn : l.Nodup) (hr : ∀ f ∈ l, 0 ≤ f ∧ f < (u : Int)) : l.length ≤ u := by
  have h1 : (l.map Int.toNat).Nodup := by
    rw [List.nodup_iff_pairwise_ne, List.pairwise_map]
    rw [List.nodup_iff_pairwise_ne] at hn
    refine List.Pairwise.imp_of_mem (fun ha hb hab e => hab ?_) hn
    have := hr _ ha; have := hr _ hb; omega
  have h2 : ∀ x ∈ l.map Int.toNat, x ∈ List.range u := fun x hx => by
    obtain ⟨y, hy, rfl⟩ := List.mem_map.1 hx
    have := hr y hy
    rw [List.mem_range]; omega
  have := nodup_subL h1 h2
  simpa using this
theorem PI.len {u : Int} {k : Nat} {s : BSt} (h : PI u k s) (h0 : 0 ≤ u) : (s.ans.length : Int) ≤ u := by
  obtain ⟨n, rfl⟩ := Int.eq_ofNat_of_zero_le h0
  have := nodup_len h.nd h.rg
  rw [List.length_map] at this
  exact Int.ofNat_le.2 this
theorem PI.waits {u : Int} {k : Nat} {s : BSt} (h : PI u k s) (h1 : 1 ≤ u) : ∃ f : Nat, (f : Int) < u ∧ askedB s f = true := by
  obtain ⟨n, rfl⟩ := Int.eq_ofNat_of_zero_le (show 0 ≤ u by omega)
  refine Classical.byContradiction fun hno => ?_
  have hall : ∀ f : Nat, f < n → (f : Int) ∈ s.ans.map (·.1) := fun f hf => Classical.byContradiction fun hm => hno ⟨f, by omega, by
    unfold askedB hasB
    rw [decide_eq_true (show (s.phase = 1 ∨ s.phase = 2) ∧ 0 ≤ (f : Int) ∧ (f : Int) < s.acc from ⟨h.ph, by omega, by rw [h.acc]; omega⟩), decide_eq_false hm]; rfl⟩
  have hs : ∀ x ∈ (List.range n).map (fun (i : Nat) => (i : Int)), x ∈ s.ans.map (·.1) := fun x hx => by
    obtain ⟨i, hi, rfl⟩ := List.mem_map.1 hx
    exact hall i (List.mem_range.1 hi)
  have hnd : ((List.range n).map (fun (i : Nat) => (i : Int))).Nodup := by
    rw [List.nodup_iff_pairwise_ne, List.pairwise_map]
    refine List.Pairwise.imp (fun hab e => hab (by omega)) (List.nodup_iff_pairwise_ne.1 List.nodup_range)
  have h1' := nodup_subL hnd hs
  simp at h1'
  have h2 := h.len (by omega)
  have h3 := h.no
  have h4 := h.may
  unfold mostB at h3 h4
  have h3 := of_decide_eq_false h3
  have h4 := of_decide_eq_true h4
  rw [h.acc] at h3 h4
  rw [Int.tdiv_eq_ediv_of_nonneg (by omega)] at h3 h4
  omega
theorem PI.start {u w : Int} {k : Nat} {l : List UInt8} {r : Int} (h1 : 1 ≤ u) (hl : l.length ≤ 1000) (hr : 0 ≤ r ∧ r ≤ 1 + k) : PI u k (startB u r w l) := by
  have hm : max u 1 = u := by omega
  refine ⟨hm, .inl rfl, List.nodup_nil, (fun f hf => by cases hf), rfl, ?_, ?_, (fun x hx => by cases hx), hl, hr⟩
  · unfold mostB startB
    dsimp only
    rw [hm, Int.tdiv_eq_ediv_of_nonneg (by omega)]
    exact decide_eq_false (by omega)
  · unfold mostB startB
    dsimp only
    rw [hm, Int.tdiv_eq_ediv_of_nonneg (by omega)]
    simp only [List.length_nil]
    exact decide_eq_true (by omega)
theorem PI.take {u : Int} {k : Nat} {s : BSt} (h : PI u k s) {f : Int} (hf : askedB s f = true) {x : BA} (hx : x.val.length ≤ 1000) :
    ((takeB s f x).2 = false → (takeB s f x).1.phase ≠ 4 → PI u k (takeB s f x).1) ∧ (∀ y ∈ (takeB s f x).1.ans, y.2.val.length ≤ 1000) ∧ (takeB s f x).1.val = s.val ∧ (takeB s f x).1.acc = s.acc ∧ (takeB s f x).1.rnd = s.rnd ∧ ((takeB s f x).1.phase = s.phase ∨ (takeB s f x).1.phase = 4) ∧ ((takeB s f x).2 = true → (takeB s f x).1.phase = s.phase) := by
  unfold askedB hasB at hf
  rw [Bool.and_eq_true] at hf
  obtain ⟨hf1, hf2⟩ := hf
  obtain ⟨_, hf0, hfa⟩ := of_decide_eq_true hf1
  have hfn : f ∉ s.ans.map (·.1) := by simpa using hf2
  have nd : ((s.ans ++ [(f, x)]).map (·.1)).Nodup := by
    rw [List.map_append, List.nodup_append]
    exact ⟨h.nd, by simp, fun a ha b hb e => hfn (by simp at hb; rw [← hb, ← e]; exact ha)⟩
  have rg : ∀ g ∈ (s.ans ++ [(f, x)]).map (·.1), 0 ≤ g ∧ g < u := fun g hg => by
    rw [List.map_append] at hg
    rcases List.mem_append.1 hg with hg | hg
    · exact h.rg g hg
    · simp at hg; subst hg; rw [h.acc] at hfa; exact ⟨hf0, hfa⟩
  have av : ∀ y ∈ s.ans ++ [(f, x)], y.2.val.length ≤ 1000 := fun y hy => by
    rcases List.mem_append.1 hy with hy | hy
    · exact h.av y hy
    · obtain rfl := List.mem_singleton.1 hy; exact hx
  unfold takeB
  split
  · rename_i hok
    refine ⟨fun hm _ => ⟨h.acc, h.ph, nd, rg, ?_, hm, ?_, av, h.vl, h.rn⟩, av, rfl, rfl, rfl, .inl rfl, fun _ => rfl⟩
    · show s.agreed + 1 = _
      rw [okC_app, if_pos hok, h.ag]
    · have := h.may
      show mostB s.acc (s.acc - (((s.ans ++ [(f, x)]).length : Nat) - (s.agreed + 1))) = true
      rw [List.length_append, List.length_singleton]
      rw [← this]; congr 1; omega
  · rename_i hok
    split
    · rename_i hm
      refine ⟨fun _ _ => ⟨h.acc, h.ph, nd, rg, ?_, h.no, ?_, av, h.vl, h.rn⟩, av, rfl, rfl, rfl, .inl rfl, fun h => by cases h⟩
      · show s.agreed = _
        rw [okC_app, if_neg hok, h.ag]; omega
      · show mostB s.acc (s.acc - (((s.ans ++ [(f, x)]).length : Nat) - s.agreed)) = true
        rw [List.length_append, List.length_singleton, ← hm]
        congr 1
    · exact ⟨fun _ h => absurd rfl h, av, rfl, rfl, rfl, .inr rfl, fun h => by cases h⟩
theorem PI.step {u : Int} {k : Nat} {s s' : BSt} {m : MS} (h : PI u k s) (h1 : 1 ≤ u) (hm : m.val.length ≤ 1000) (hp : stepB s m s') : (s'.phase ≠ 3 → s'.phase ≠ 4 → PI u k s') ∧ s'.rnd = s.rnd ∧ s'.val.length ≤ 1000 := by
  unfold stepB at hp
  split at hp
  · unfold PromB at hp
    split at hp
    · rename_i hph
      have hx : (promA m.br m.bw m.val m.err).val.length ≤ 1000 := by unfold promA; split <;> simp [hm]
      obtain ⟨t1, t2, t3, t4, t5, t6, t7⟩ := h.take hph.2 hx
      split at hp
      · obtain ⟨val, hch, rfl⟩ := hp
        have hv := hch.le' h.vl t2
        refine ⟨fun _ _ => ⟨by rw [← h.acc]; exact t4, .inr rfl, List.nodup_nil, (fun f hf => by cases hf), rfl, ?_, ?_, (fun x hx => by cases hx), hv, by rw [show _ = _ from t5]; exact h.rn⟩, t5, hv⟩
        · show mostB (takeB s m.fr (promA m.br m.bw m.val m.err)).1.acc 0 = false
          rw [t4, h.acc]; unfold mostB
          rw [Int.tdiv_eq_ediv_of_nonneg (by omega)]
          exact decide_eq_false (by omega)
        · show mostB (takeB s m.fr (promA m.br m.bw m.val m.err)).1.acc ((takeB s m.fr (promA m.br m.bw m.val m.err)).1.acc - (((([] : List (Int × BA)).length : Nat) : Int) - 0)) = true
          rw [t4, h.acc]; unfold mostB
          rw [Int.tdiv_eq_ediv_of_nonneg (by omega)]
          exact decide_eq_true (by simp; omega)
      · rename_i hnt
        subst hp
        exact ⟨fun _ h4 => t1 (by simpa using hnt) h4, t5, by rw [t3]; exact h.vl⟩
    · subst hp; exact ⟨fun _ _ => h, rfl, h.vl⟩
  · subst hp
    unfold accB
    split
    · rename_i hph
      obtain ⟨t1, t2, t3, t4, t5, t6, t7⟩ := h.take hph.2 (x := ⟨decide (m.err = 0), 0, 0, []⟩) (by simp)
      split
      · exact ⟨fun h3 _ => absurd rfl h3, t5, by show (takeB _ _ _).1.val.length ≤ _; rw [t3]; exact h.vl⟩
      · rename_i hnt
        exact ⟨fun _ h4 => t1 (by simpa using hnt) h4, t5, by rw [t3]; exact h.vl⟩
    · exact ⟨fun _ _ => h, rfl, h.vl⟩
structure AI (k : Nat) (g : AdvS) : Prop where
  rg : 1 ≤ g.st ∧ g.st ≤ 6
  r : g.st ≠ 6 → rightB g.old = true ∧ g.old.ep < 2147483647 ∧ 1 ≤ g.units ∧ g.units ≤ 7
  e0 : 0 ≤ g.old.ep ∧ g.old.ep ≤ 2147483647
  u0 : g.units ≤ 7
  w : g.own.length ≤ 1000
  s1 : g.st = 1 → ∃ u : Nat, u < 7 ∧ (u : Int) < g.units ∧ g.rep u = false
  s2 : g.st = 2 → ∃ s, g.prop = some s ∧ PI g.units k s
  s3 : g.st = 3 → rightB g.plan = true ∧ g.plan.ep = g.old.ep + 1 ∧ ∃ u : Nat, u < 7 ∧ plannedA g.plan u = true ∧ g.rep u = false
  pv : ∀ s, g.prop = some s → BSafe s ∧ s.ans.length ≤ 99999
theorem PI.safe {u : Int} {k : Nat} {s : BSt} (h : PI u k s) (h7 : u ≤ 7) (h0 : 0 ≤ u) (hk : k ≤ 100000) : BSafe s ∧ s.ans.length ≤ 99999 := by
  have := h.len h0
  exact ⟨⟨by omega, fun x hx => by have := h.av x hx; omega, by have := h.vl; omega, h.rn.1, by have := h.rn.2; omega⟩, by omega⟩
end Go.Proofs.YtbmajijnjkicmaaGreatDoor



namespace Go.Proofs.YtbmajijnjkicmaaGreatDoor
open Go.Proofs.YtbmajijnjkicmaaGreatDoor RX
set_option maxRecDepth 100000

theorem AI.safe {k : Nat} {g : AdvS} (h : AI k g) : TSafe g :=
  ⟨⟨h.e0.1, h.e0.2, fun h2 => by obtain ⟨s, e, _⟩ := h.s2 h2; rw [e]; rfl, fun s e => (h.pv s e).1.val⟩, fun h1 => (h.r (by omega)).1, by have := h.u0; omega, by have := h.w; omega, h.pv⟩
theorem asksL_nil {g : AdvS} (h4 : g.st ≠ 4) : asksL g = [] ↔ ∀ u : Nat, u < 7 → askedA g u = false := by
  unfold asksL
  rw [if_neg h4, List.map_eq_nil_iff, List.filter_eq_nil_iff]
  exact ⟨fun h u hu => by simpa using h u (List.mem_range.2 hu), fun h u hu => by rw [h u (List.mem_range.1 hu)]; decide⟩
theorem asksL_ex {g : AdvS} (h4 : g.st ≠ 4) (h : asksL g ≠ []) : ∃ u : Nat, u < 7 ∧ askedA g u = true :=
  Classical.byContradiction fun hn => h ((asksL_nil h4).2 fun u hu => by
    cases e : askedA g u with
    | false => rfl
    | true => exact absurd ⟨u, hu, e⟩ hn)
theorem asked1 {g : AdvS} (h : g.st = 1) (u : Nat) : askedA g u = (decide ((u : Int) < g.units) && !g.rep u) := by unfold askedA; rw [if_pos h]
theorem asked2 {g : AdvS} (h : g.st = 2) {s : BSt} (hp : g.prop = some s) (u : Nat) : askedA g u = askedB s u := by
  unfold askedA; rw [if_neg (by omega), if_pos h, hp]
theorem asked3 {g : AdvS} (h : g.st = 3) (u : Nat) : askedA g u = (!g.rep u && plannedA g.plan u) := by
  unfold askedA; rw [if_neg (by omega), if_neg (by omega), if_pos h]
theorem asked0 {g : AdvS} (h1 : g.st ≠ 1) (h2 : g.st ≠ 2) (h3 : g.st ≠ 3) (u : Nat) : askedA g u = false := by
  unfold askedA; rw [if_neg h1, if_neg h2, if_neg h3]
theorem AI.asks {k : Nat} {g : AdvS} (h : AI k g) : asksL g = [] ↔ (g.st = 5 ∨ g.st = 6) := by
  refine ⟨fun he => ?_, fun hs => (asksL_nil (by omega)).2 fun u _ => asked0 (by omega) (by omega) (by omega) u⟩
  have h4 : g.st ≠ 4 := fun h4 => by unfold asksL at he; rw [if_pos h4] at he; cases he
  have hall := (asksL_nil h4).1 he
  refine Classical.byContradiction fun hn => ?_
  have := h.rg
  have hc : g.st = 1 ∨ g.st = 2 ∨ g.st = 3 := by omega
  rcases hc with hc | hc | hc
  · obtain ⟨u, h7, hu, hr⟩ := h.s1 hc
    have := hall u h7
    rw [asked1 hc, decide_eq_true hu, hr] at this
    cases this
  · obtain ⟨s, hp, hP⟩ := h.s2 hc
    have h7 := h.u0
    obtain ⟨f, hf, ha⟩ := hP.waits (h.r (by omega)).2.2.1
    have := hall f (by omega)
    rw [asked2 hc hp, ha] at this
    cases this
  · obtain ⟨_, _, u, h7, hu, hr⟩ := h.s3 hc
    have := hall u h7
    rw [asked3 hc, hu, hr] at this
    cases this
theorem planned_ex {p : PlP} (h : rightB p = true) : ∃ u : Nat, u < 7 ∧ plannedA p u = true := by
  have hR := rightP h
  have h1 := hR.len1
  have hm : p.ch[0]'(by omega) ∈ p.ch := List.getElem_mem _
  generalize p.ch[0]'(by omega) = c at hm
  cases c with
  | nil => exact absurd rfl (hR.ne _ hm)
  | cons x r =>
    have hx := hR.rg x (List.mem_flatten.2 ⟨_, hm, by simp⟩)
    refine ⟨x.toNat, by omega, List.any_eq_true.2 ⟨_, hm, decide_eq_true ?_⟩⟩
    rw [show ((x.toNat : Nat) : Int) = x by omega]; simp
theorem takeB_few (s : BSt) (f : Int) (x : BA) : (takeB s f x).1.ans.length = s.ans.length + 1 := by rw [(takeB_ans s f x).1]; simp
theorem stepB_few {s s' : BSt} {m : MS} (h : stepB s m s') : s'.ans.length ≤ s.ans.length + 1 := by
  unfold stepB at h
  split at h
  · unfold PromB at h
    split at h
    · split at h
      · obtain ⟨v, _, rfl⟩ := h; simp
      · subst h; rw [takeB_few]; omega
    · subst h; omega
  · subst h
    unfold accB
    split
    · split
      · show (takeB _ _ _).1.ans.length ≤ _; rw [takeB_few]; omega
      · rw [takeB_few]; omega
    · omega
theorem PI.mono {u : Int} {k j : Nat} {s : BSt} (h : PI u k s) (hj : k ≤ j) : PI u j s := ⟨h.acc, h.ph, h.nd, h.rg, h.ag, h.no, h.may, h.av, h.vl, h.rn.1, by have := h.rn.2; omega⟩
theorem AI.mono {k j : Nat} {g : AdvS} (h : AI k g) (hj : k ≤ j) : AI j g :=
  ⟨h.rg, h.r, h.e0, h.u0, h.w, h.s1, fun h2 => let ⟨s, e, p⟩ := h.s2 h2; ⟨s, e, p.mono hj⟩, h.s3, h.pv⟩
theorem now_asks {g : AdvS} {m : MS} (h : nowB g m = true) : asksL g ≠ [] := fun e => by unfold nowB at h; rw [e] at h; cases h
theorem AI.told {k : Nat} {g g' : AdvS} {m : MS} (h : AI k g) (hk : k ≤ 99999) (hm : m.val.length ≤ 1000) (ht : tolR g m g') :
    AI (k + 1) g' ∧ g.st ≤ g'.st ∧ (asksL g = [] → g' = g) ∧ g'.old = g.old ∧ g'.units = g.units ∧ g'.who = g.who := by
  unfold tolR at ht
  split at ht
  · rename_i hc
    obtain ⟨_, hn⟩ := hc
    have hne := now_asks hn
    obtain ⟨t1, t2, t3, t4, _⟩ := ht
    have hst := h.rg
    have hs56 : ¬ (g.st = 5 ∨ g.st = 6) := fun e => hne (h.asks.2 e)
    have hr := h.r (by omega)
    have hu7 := h.u0
    have hcs : g.st = 1 ∨ g.st = 2 ∨ g.st = 3 ∨ g.st = 4 := by omega
    rcases hcs with hs | hs | hs | hs
    · obtain rfl := t1 hs
      unfold sealA
      generalize hg1 : ({ g with rep := put7 g.rep m.fr.toNat true, there := put7 g.there m.fr.toNat (decide (m.err = 0)) } : AdvS) = g1
      have e1 : g1.st = 1 ∧ g1.old = g.old ∧ g1.units = g.units ∧ g1.who = g.who ∧ g1.own = g.own ∧ g1.prop = g.prop := by subst hg1; exact ⟨hs, rfl, rfl, rfl, rfl, rfl⟩
      obtain ⟨e1, e2, e3, e4, e5, e6⟩ := e1
      split
      · have hw := ownA_len (g := g1) (by rw [e2]; exact hr.1)
        have hP : PI g1.units (k + 1) (startB g1.units 1 g1.who (ownA g1)) := .start (by rw [e3]; exact hr.2.2.1) (by omega) (by omega)
        refine ⟨⟨⟨by show (1 : Int) ≤ 2; omega, by show (2 : Int) ≤ 6; omega⟩, fun _ => by show rightB g1.old = true ∧ g1.old.ep < 2147483647 ∧ 1 ≤ g1.units ∧ g1.units ≤ 7; rw [e2, e3]; exact hr, by show 0 ≤ g1.old.ep ∧ g1.old.ep ≤ 2147483647; rw [e2]; exact h.e0, by show g1.units ≤ 7; rw [e3]; exact hu7, by show (ownA g1).length ≤ 1000; omega,
          fun h => absurd (show (2 : Int) = 1 from h) (by decide), fun _ => ⟨_, rfl, hP⟩, fun h => absurd (show (2 : Int) = 3 from h) (by decide), fun s e => ?_⟩, by show g.st ≤ 2; omega, fun he => absurd he hne, e2, e3, e4⟩
        obtain rfl : startB g1.units 1 g1.who (ownA g1) = s := Option.some.inj e
        exact hP.safe (by omega) (by omega) (by omega)
      · rename_i hne1
        obtain ⟨u, hu, ha⟩ := asksL_ex (by omega) hne1
        rw [asked1 e1] at ha
        simp only [Bool.and_eq_true, decide_eq_true_eq, Bool.not_eq_true'] at ha
        refine ⟨⟨by omega, fun _ => by rw [e2, e3]; exact hr, by rw [e2]; exact h.e0, by rw [e3]; exact hu7, by rw [e5]; exact h.w, fun _ => ⟨u, hu, ha.1, ha.2⟩, by omega, by omega, by rw [e6]; exact h.pv⟩, by omega, fun he => absurd he hne, e2, e3, e4⟩
    · obtain ⟨s, s', hp, hst', rfl⟩ := t2 hs
      obtain ⟨s0, hp0, hP⟩ := h.s2 hs
      rw [hp] at hp0; cases hp0
      obtain ⟨p1, p2, p3⟩ := hP.step hr.2.2.1 hm hst'
      have hB := (h.pv s hp).1.step (m := m) (by omega) (h.pv s hp).2 hst'
      have hf : s'.ans.length ≤ 99999 := by
        have := stepB_few hst'
        have := hP.len (by omega)
        omega
      have bpv : ∀ x, some s' = some x → BSafe x ∧ x.ans.length ≤ 99999 := fun x e => by cases e; exact ⟨hB, hf⟩
      unfold outA
      split
      · have hP' : PI g.units (k + 1) (startB g.units (s'.rnd + 1) g.who g.own) := .start hr.2.2.1 h.w (by rw [p2]; have := hP.rn; omega)
        refine ⟨⟨hst, fun _ => hr, h.e0, hu7, h.w, fun h => absurd hs (by show g.st ≠ 2; rw [show g.st = 1 from h]; decide), fun _ => ⟨_, rfl, hP'⟩, fun h => absurd hs (by rw [show g.st = 3 from h]; decide), fun x e => ?_⟩, by show g.st ≤ g.st; omega, fun he => absurd he hne, rfl, rfl, rfl⟩
        obtain rfl : startB g.units (s'.rnd + 1) g.who g.own = x := Option.some.inj e
        exact hP'.safe (by omega) (by omega) (by omega)
      · rename_i h4
        split
        · rename_i h3
          split
          · refine ⟨⟨⟨by show (1 : Int) ≤ 6; omega, by show (6 : Int) ≤ 6; omega⟩, fun h => absurd rfl h, h.e0, hu7, h.w, fun h => absurd (show (6 : Int) = 1 from h) (by decide), fun h => absurd (show (6 : Int) = 2 from h) (by decide), fun h => absurd (show (6 : Int) = 3 from h) (by decide), bpv⟩, by show g.st ≤ 6; omega, fun he => absurd he hne, rfl, rfl, rfl⟩
          · rename_i hb
            have h0 : (decP s'.val).2 = 0 := Classical.byContradiction fun e => hb (.inl e)
            have he : (decP s'.val).1.ep = g.old.ep + 1 := Classical.byContradiction fun e => hb (.inr e)
            obtain ⟨u, hu, hpl⟩ := planned_ex (decP_right h0)
            exact ⟨⟨⟨by show (1 : Int) ≤ 3; omega, by show (3 : Int) ≤ 6; omega⟩, fun _ => hr, h.e0, hu7, h.w, fun h => absurd (show (3 : Int) = 1 from h) (by decide), fun h => absurd (show (3 : Int) = 2 from h) (by decide), fun _ => ⟨decP_right h0, he, u, hu, hpl, rfl⟩, bpv⟩, by show g.st ≤ 3; omega, fun he => absurd he hne, rfl, rfl, rfl⟩
        · rename_i h3
          have hP' := (p1 h3 h4).mono (Nat.le_succ k)
          exact ⟨⟨hst, fun _ => hr, h.e0, hu7, h.w, fun h => absurd hs (by rw [show g.st = 1 from h]; decide), fun _ => ⟨_, rfl, hP'⟩, fun h => absurd hs (by rw [show g.st = 3 from h]; decide), bpv⟩, by show g.st ≤ g.st; omega, fun he => absurd he hne, rfl, rfl, rfl⟩
    · obtain rfl := t3 hs
      obtain ⟨q1, q2, _⟩ := h.s3 hs
      have go : ∀ g1 : AdvS, g1.st = 3 → g1.old = g.old → g1.units = g.units → g1.who = g.who → g1.own = g.own → g1.prop = g.prop → g1.plan = g.plan → ∀ g2, g2 = (if asksL g1 = [] then { g1 with st := 4 } else g1) → AI (k + 1) g2 ∧ g.st ≤ g2.st ∧ (asksL g = [] → g2 = g) ∧ g2.old = g.old ∧ g2.units = g.units ∧ g2.who = g.who := fun g1 e1 e2 e3 e4 e5 e6 e7 g2 he2 => by
        subst he2
        split
        · exact ⟨⟨⟨by show (1 : Int) ≤ 4; omega, by show (4 : Int) ≤ 6; omega⟩, fun _ => by show rightB g1.old = true ∧ g1.old.ep < 2147483647 ∧ 1 ≤ g1.units ∧ g1.units ≤ 7; rw [e2, e3]; exact hr, by show 0 ≤ g1.old.ep ∧ g1.old.ep ≤ 2147483647; rw [e2]; exact h.e0, by show g1.units ≤ 7; rw [e3]; exact hu7, by show g1.own.length ≤ 1000; rw [e5]; exact h.w,
            fun h => absurd (show (4 : Int) = 1 from h) (by decide), fun h => absurd (show (4 : Int) = 2 from h) (by decide), fun h => absurd (show (4 : Int) = 3 from h) (by decide), by show ∀ s, g1.prop = some s → _; rw [e6]; exact h.pv⟩, by show g.st ≤ 4; omega, fun he => absurd he hne, e2, e3, e4⟩
        · rename_i hne1
          obtain ⟨u, hu, ha⟩ := asksL_ex (by omega) hne1
          rw [asked3 e1] at ha
          simp only [Bool.and_eq_true, Bool.not_eq_true'] at ha
          exact ⟨⟨by omega, fun _ => by rw [e2, e3]; exact hr, by rw [e2]; exact h.e0, by rw [e3]; exact hu7, by rw [e5]; exact h.w, by omega, by omega, fun _ => ⟨by rw [e7]; exact q1, by rw [e7, e2]; exact q2, u, hu, ha.2, ha.1⟩, by rw [e6]; exact h.pv⟩, by omega, fun he => absurd he hne, e2, e3, e4⟩
      by_cases h0 : m.err = 0
      · exact go { g with tail := max (max g.tail m.tail) m.low, rep := put7 g.rep m.fr.toNat true } hs rfl rfl rfl rfl rfl rfl _ (by unfold tellA; rw [if_pos h0])
      · by_cases h8 : m.err ≠ 8 ∨ m.back ≤ g.old.ep + 1
        · have : tellA g m m.fr.toNat = { g with st := 6 } := by unfold tellA; rw [if_neg h0, if_pos h8]
          rw [this]
          exact ⟨⟨⟨by show (1 : Int) ≤ 6; omega, by show (6 : Int) ≤ 6; omega⟩, fun h => absurd rfl h, h.e0, hu7, h.w, fun h => absurd (show (6 : Int) = 1 from h) (by decide), fun h => absurd (show (6 : Int) = 2 from h) (by decide), fun h => absurd (show (6 : Int) = 3 from h) (by decide), h.pv⟩, by show g.st ≤ 6; omega, fun he => absurd he hne, rfl, rfl, rfl⟩
        · exact go { g with rep := put7 g.rep m.fr.toNat true } hs rfl rfl rfl rfl rfl rfl _ (by unfold tellA; rw [if_neg h0, if_neg h8])
    · obtain rfl := t4 hs
      split
      · exact ⟨⟨⟨by show (1 : Int) ≤ 5; omega, by show (5 : Int) ≤ 6; omega⟩, fun _ => hr, h.e0, hu7, h.w, fun h => absurd (show (5 : Int) = 1 from h) (by decide), fun h => absurd (show (5 : Int) = 2 from h) (by decide), fun h => absurd (show (5 : Int) = 3 from h) (by decide), h.pv⟩, by show g.st ≤ 5; omega, fun he => absurd he hne, rfl, rfl, rfl⟩
      · exact ⟨⟨⟨by show (1 : Int) ≤ 6; omega, by show (6 : Int) ≤ 6; omega⟩, fun h => absurd rfl h, h.e0, hu7, h.w, fun h => absurd (show (6 : Int) = 1 from h) (by decide), fun h => absurd (show (6 : Int) = 2 from h) (by decide), fun h => absurd (show (6 : Int) = 3 from h) (by decide), h.pv⟩, by show g.st ≤ 6; omega, fun he => absurd he hne, rfl, rfl, rfl⟩
  · subst ht
    exact ⟨h.mono (Nat.le_succ k), Int.le_refl _, fun _ => rfl, rfl, rfl, rfl⟩
theorem AI.begin (p : PlP) (u w : Int) : AI 0 (beginA p u w) := by
  unfold beginA
  split
  · rename_i h
    obtain ⟨h1, h2, h3, h4, h5, h6⟩ := h
    have hR := rightP h1
    have := hR.ep0; have := hR.ep1
    exact ⟨⟨by show (1 : Int) ≤ 1; omega, by show (1 : Int) ≤ 6; omega⟩, fun _ => ⟨h1, by show p.ep < _; omega, h3, h4⟩, ⟨hR.ep0, hR.ep1⟩, h4, by simp, fun _ => ⟨0, by omega, by show (0 : Int) < u; omega, rfl⟩, fun h => absurd (show (1 : Int) = 2 from h) (by decide), fun h => absurd (show (1 : Int) = 3 from h) (by decide), fun s e => by cases e⟩
  · exact ⟨⟨by show (1 : Int) ≤ 6; omega, by show (6 : Int) ≤ 6; omega⟩, fun h => absurd rfl h, ⟨by show (0 : Int) ≤ 0; omega, by show (0 : Int) ≤ _; omega⟩, by show (0 : Int) ≤ 7; omega, by simp [zAdv], fun h => absurd (show (6 : Int) = 1 from h) (by decide), fun h => absurd (show (6 : Int) = 2 from h) (by decide), fun h => absurd (show (6 : Int) = 3 from h) (by decide), fun s e => by cases e⟩
end Go.Proofs.YtbmajijnjkicmaaGreatDoor



namespace Go.Proofs.YtbmajijnjkicmaaGreatDoor
open Go.Proofs.YtbmajijnjkicmaaGreatDoor RX
set_option maxRecDepth 100000

section
variable (b : Nat) (g : AdvS)
theorem eState_ok : Tri Tryz.prog 14 #[.pointer (some ⟨b, 0, none⟩)] (ARep b g) (fun v => HP.and (v = .int .i64 g.st) (ARep b g)) :=
  Tri.ex fun _ => (aState_ok).weak (fun _ _ h => h) fun _ _ _ ⟨e, H⟩ => ⟨e, _, H⟩
theorem eTail_ok : Tri Tryz.prog 21 #[.pointer (some ⟨b, 0, none⟩)] (ARep b g) (fun v => HP.and (v = .int .i64 g.tail) (ARep b g)) :=
  Tri.ex fun _ => (aTail_ok).weak (fun _ _ h => h) fun _ _ _ ⟨e, H⟩ => ⟨e, _, H⟩
theorem ePlan_ok : Tri Tryz.prog 16 #[.pointer (some ⟨b, 0, none⟩)] (ARep b g) (fun v => HP.ex fun a => HP.ex fun c => HP.ex fun es : List ChE => HP.and (v = .agg #[.int .i64 g.plan.ep, .slice a es.length c] ∧ es.map (·.l) = g.plan.ch) (HP.sep (Ls kCh a es.length es) (ARep b g))) :=
  Tri.ex fun _ => (aPlan_ok).weak (fun _ _ h => h) fun _ _ _ ⟨a, c, es, e, H⟩ => ⟨a, c, es, e, HP.sep_mono H (fun _ h => h) fun _ h => ⟨_, h⟩⟩
theorem eAsks_ok (hs : ASafe g) : Tri Tryz.prog 11 #[.pointer (some ⟨b, 0, none⟩)] (ARep b g) (fun v => HP.ex fun a => HP.ex fun c => HP.ex fun es : List MsE => HP.and (v = .slice a es.length c ∧ es.map (·.m) = asksL g) (HP.sep (Ls kMs a es.length es) (ARep b g))) :=
  Tri.ex fun _ => (aAsksS_ok hs).weak (fun _ _ h => h) fun _ _ _ ⟨a, c, es, e, H⟩ => ⟨a, c, es, e, HP.sep_mono H (fun _ h => h) fun _ h => ⟨_, h⟩⟩
theorem eTold_ok (m : MS) (ca : Option Addr) (cc : Nat) (va : Option Addr) (vc : Nat) (hs : TSafe g) (hmv : m.val.length ≤ 100000000) (D : HP) :
    Tri Tryz.prog 13 #[.pointer (some ⟨b, 0, none⟩), .agg (m.raw ca cc va vc).vals] (HP.sep (ARep b g) (HP.sep D (m.Vro va))) (fun v => HP.ex fun g' => HP.and (v = .tuple #[] ∧ tolR g m g') (ARep b g')) :=
  (Tri.ex (A := fun r => HP.sep (ARepR b g r) (HP.sep D (m.Vro va))) fun _ => aTold_ok m ca cc va vc hs hmv D).weak (fun _ _ ⟨h1, h2, d, l1, l2, ⟨r, H1⟩, H2⟩ => ⟨r, h1, h2, d, l1, l2, H1, H2⟩) fun _ _ _ h => h
end
theorem ldMs1 {S : HP} {a : Option Addr} {n : Nat} {l : List MsE} (hS : ∀ R h, S.p R h → (Ls kMs a n l).p R h) {i : Int} {k : Nat} (hi : i = k) {x : MsE} (hk : l[k]? = some x) {off : Nat} {v : Int} (hv : (kMs.vals x)[off]? = some (.int .i64 v)) :
    ORead Tryz.prog (loadS 3 (.pointer (a.map fun y => (y.add (i.toNat * 16)).add off))) S (.int .i64 v) := by
  subst hi
  exact ORead.ent (.of hS) (Ls.load1 (K := kMs) (off := off) undIb aggI szI hk hv)
theorem ldMsI {S : HP} {a : Option Addr} {n : Nat} {l : List MsE} (hS : ∀ R h, S.p R h → (Ls kMs a n l).p R h) {i : Int} {k : Nat} (hi : i = k) {x : MsE} (hk : l[k]? = some x) :
    ORead Tryz.prog (loadS 41 (.pointer (a.map fun y => (y.add (i.toNat * 16)).add 0))) S (.agg x.vals) := by
  subst hi
  exact ldMs hS hk
theorem asksL_get {g : AdvS} {i : Nat} {m : MS} (h : (asksL g)[i]? = some m) :
    m.ep = g.old.ep + 1 ∧ m.rep = false ∧ 0 ≤ m.to ∧ m.to ≤ 7 ∧ (m.kind = 9 ↔ m.to = 7) ∧ ∀ (j : Nat) (m' : MS), j < i → (asksL g)[j]? = some m' → m'.to < m.to := by
  by_cases h4 : g.st = 4
  · have e : asksL g = [startA g] := if_pos h4
    rw [e] at h
    have hi : i = 0 := by
      have := (List.getElem?_eq_some_iff.1 h).1
      simp at this; omega
    subst hi
    cases h
    exact ⟨rfl, rfl, by show (0 : Int) ≤ 7; omega, by show (7 : Int) ≤ 7; omega, ⟨fun _ => rfl, fun _ => rfl⟩, fun j _ hj => by omega⟩
  · have e : asksL g = ((List.range 7).filter (askedA g)).map (askA g) := if_neg h4
    rw [e, List.getElem?_map] at h
    obtain ⟨u, hu, rfl⟩ := Option.map_eq_some_iff.1 h
    have hm := List.mem_of_getElem? hu
    have hu7 := List.mem_range.1 (List.mem_filter.1 hm).1
    have f : (askA g u).ep = g.old.ep + 1 ∧ (askA g u).rep = false ∧ (askA g u).kind ≠ 9 := by
      unfold askA
      split
      · split
        · refine ⟨rfl, rfl, ?_⟩
          show (if _ then (7 : Int) else 6) ≠ 9
          split <;> decide
        · exact ⟨rfl, rfl, show (4 : Int) ≠ 9 by decide⟩
      · exact ⟨rfl, rfl, show (4 : Int) ≠ 9 by decide⟩
    rw [askA_to]
    refine ⟨f.1, f.2.1, by omega, by omega, ⟨fun h => absurd h f.2.2, fun h => by omega⟩, fun j m' hj hm' => ?_⟩
    rw [e, List.getElem?_map] at hm'
    obtain ⟨v, hv, rfl⟩ := Option.map_eq_some_iff.1 hm'
    rw [askA_to]
    have hs : ((List.range 7).filter (askedA g)).Pairwise (· < ·) := List.Pairwise.filter _ List.pairwise_lt_range
    obtain ⟨hi, rfl⟩ := List.getElem?_eq_some_iff.1 hu
    obtain ⟨hj', rfl⟩ := List.getElem?_eq_some_iff.1 hv
    have := List.pairwise_iff_getElem.1 hs j i hj' hi hj
    omega
end Go.Proofs.YtbmajijnjkicmaaGreatDoor



namespace Go.Proofs.YtbmajijnjkicmaaGreatDoor
open Go.Proofs.YtbmajijnjkicmaaGreatDoor RX
set_option maxRecDepth 100000


end Go.Proofs.YtbmajijnjkicmaaGreatDoor



namespace Go.Proofs.YtbmajijnjkicmaaGreatDoor
open Go.Proofs.YtbmajijnjkicmaaGreatDoor RX
set_option maxRecDepth 100000

end Go.Proofs.YtbmajijnjkicmaaGreatDoor



namespace Go.Proofs.YtbmajijnjkicmaaGreatDoor
open Go.Proofs.YtbmajijnjkicmaaGreatDoor RX
set_option maxRecDepth 100000

end Go.Proofs.YtbmajijnjkicmaaGreatDoor



namespace Go.Proofs.YtbmajijnjkicmaaGreatDoor
open Go.Proofs.YtbmajijnjkicmaaGreatDoor RX
set_option maxRecDepth 100000



end Go.Proofs.YtbmajijnjkicmaaGreatDoor



namespace Go.Proofs.YtbmajijnjkicmaaGreatDoor
open Go.Proofs.YtbmajijnjkicmaaGreatDoor RX
set_option maxRecDepth 100000

end Go.Proofs.YtbmajijnjkicmaaGreatDoor



namespace Go.Proofs.YtbmajijnjkicmaaGreatDoor
open Go.Proofs.YtbmajijnjkicmaaGreatDoor RX
set_option maxRecDepth 100000

end Go.Proofs.YtbmajijnjkicmaaGreatDoor



namespace Go.Proofs.YtbmajijnjkicmaaGreatDoor
set_option linter.unusedSimpArgs false
set_option linter.unusedVariables false
open Go.Proofs.YtbmajijnjkicmaaGreatDoor RX
set_option maxRecDepth 100000


def p11 : PlP := ⟨0, [[0]]⟩
def q11 : PlP := ⟨1, [[0]]⟩
def spW : List UInt8 := plS q11
theorem first11 : firstS 1 1 = (p11, 0) := by decide
theorem right11 : rightB p11 = true ∧ rightB q11 = true := by decide
def Sp : Nat → AdvS → Prop
  | 0, g => g = ⟨p11, 1, 3, 1, fun _ => false, fun _ => false, [], none, ⟨0, []⟩, 0⟩
  | 1, g => g.st = 2 ∧ g.old = p11 ∧ g.prop = some (startB 1 1 3 spW) ∧ g.tail = 0
  | 2, g => g.st = 2 ∧ g.old = p11 ∧ g.prop = some ⟨1, 1, 3, spW, 2, [], 0⟩ ∧ g.tail = 0
  | 3, g => g.st = 3 ∧ g.old = p11 ∧ g.plan = q11 ∧ g.rep = (fun _ => false) ∧ g.tail = 0
  | 4, g => g.st = 4 ∧ g.old = p11 ∧ g.plan = q11 ∧ g.tail = 4
  | _, g => g.st = 5 ∧ g.plan = q11 ∧ g.tail = 4
def spM (g : AdvS) : Nat → MS
  | 0 => askA g 0 | 1 => askA g 0 | 2 => askA g 0 | 3 => askA g 0 | _ => startA g
def spK : Nat → Int
  | 0 => 4 | 1 => 6 | 2 => 7 | 3 => 4 | _ => 9
theorem filt0 {p : Nat → Bool} (h0 : p 0 = true) (h : ∀ u, 0 < u → u < 7 → p u = false) : (List.range 7).filter p = [0] := by
  have e : List.range 7 = [0, 1, 2, 3, 4, 5, 6] := by decide
  rw [e]
  simp [List.filter, h0, h 1, h 2, h 3, h 4, h 5, h 6]
theorem planned11 (u : Nat) : plannedA q11 u = decide (u = 0) := by
  unfold plannedA q11
  simp only [List.any_cons, List.any_nil, Bool.or_false, List.mem_singleton]
  by_cases h : u = 0
  · subst h; rfl
  · rw [decide_eq_false h, decide_eq_false (by omega)]
theorem Sp.asks {k : Nat} {g : AdvS} (h : Sp k g) : (k < 5 → asksL g = [spM g k] ∧ (spM g k).kind = spK k) ∧ (5 ≤ k → asksL g = []) := by
  have one : g.st ≠ 4 → askedA g 0 = true → (∀ u, 0 < u → u < 7 → askedA g u = false) → asksL g = [askA g 0] := fun h4 h0 h1 => by
    unfold asksL; rw [if_neg h4, filt0 h0 h1]; rfl
  match k, h with
  | 0, h =>
    subst h
    refine ⟨fun _ => ⟨one (by decide) ?_ fun u h0 h7 => ?_, ?_⟩, by omega⟩
    · rw [asked1 rfl]; rfl
    · rw [asked1 rfl, decide_eq_false (show ¬ ((u : Int) < 1) by omega)]; rfl
    · show (askA _ 0).kind = 4; unfold askA; rw [if_neg (by decide)]
  | 1, ⟨e1, e2, e3, _⟩ =>
    refine ⟨fun _ => ⟨one (by omega) ?_ fun u h0 h7 => ?_, ?_⟩, by omega⟩
    · rw [asked2 e1 e3]; rfl
    · rw [asked2 e1 e3]; unfold askedB
      rw [decide_eq_false (show ¬ (((startB 1 1 3 spW).phase = 1 ∨ (startB 1 1 3 spW).phase = 2) ∧ 0 ≤ (u : Int) ∧ (u : Int) < (startB 1 1 3 spW).acc) from fun h => by
        have : (startB 1 1 3 spW).acc = 1 := rfl
        omega)]; rfl
    · show (askA g 0).kind = 6
      unfold askA; rw [if_pos e1, e3]; rfl
  | 2, ⟨e1, e2, e3, _⟩ =>
    refine ⟨fun _ => ⟨one (by omega) ?_ fun u h0 h7 => ?_, ?_⟩, by omega⟩
    · rw [asked2 e1 e3]; rfl
    · rw [asked2 e1 e3]; unfold askedB
      rw [decide_eq_false (fun h => by have := h.2.2; dsimp only at this; omega)]; rfl
    · show (askA g 0).kind = 7
      unfold askA; rw [if_pos e1, e3]; rfl
  | 3, ⟨e1, e2, e3, e4, _⟩ =>
    refine ⟨fun _ => ⟨one (by omega) ?_ fun u h0 h7 => ?_, ?_⟩, by omega⟩
    · rw [asked3 e1, e3, e4, planned11]; rfl
    · rw [asked3 e1, e3, e4, planned11, decide_eq_false (by omega)]; rfl
    · show (askA g 0).kind = 4
      unfold askA; rw [if_neg (by omega)]
  | 4, ⟨e1, e2, e3, _⟩ => exact ⟨fun _ => ⟨by unfold asksL; rw [if_pos e1]; rfl, rfl⟩, by omega⟩
  | k + 5, ⟨e1, _⟩ => exact ⟨by omega, fun _ => (asksL_nil (by omega)).2 fun u _ => asked0 (by omega) (by omega) (by omega) u⟩
def spR (x : MS) : MS := ⟨x.to, 0, 0, true, x.kind, x.ep, x.at', zC, 0, 0, [], 0, 4, 0, 0⟩
theorem tol_now {g : AdvS} {x : MS} (h : asksL g = [x]) : nowB g (spR x) = true := by
  unfold nowB; rw [h]
  simp [nowP, spR]
theorem Sp.step {k : Nat} {g g' : AdvS} (h : Sp k g) (hk : k < 5) (ht : tolR g (spR (spM g k)) g') : Sp (k + 1) g' := by
  have hn := tol_now (h.asks.1 hk).1
  unfold tolR at ht
  rw [if_pos ⟨rfl, hn⟩] at ht
  obtain ⟨t1, t2, t3, t4, _⟩ := ht
  match k, h, hk with
  | 0, h, _ =>
    subst h
    obtain rfl := t1 rfl
    have hto : (spR (spM ⟨p11, 1, 3, 1, fun _ => false, fun _ => false, [], none, ⟨0, []⟩, 0⟩ 0)).fr.toNat = 0 := rfl
    have her : (spR (spM ⟨p11, 1, 3, 1, fun _ => false, fun _ => false, [], none, ⟨0, []⟩, 0⟩ 0)).err = 0 := rfl
    rw [hto, her]
    unfold sealA
    rw [if_pos ((asksL_nil (by decide)).2 fun u hu => ?_)]
    · refine ⟨rfl, rfl, ?_, rfl⟩
      have hth : thereL ({ (⟨p11, 1, 3, 1, fun _ => false, fun _ => false, [], none, ⟨0, []⟩, 0⟩ : AdvS) with rep := put7 (fun _ => false) 0 true, there := put7 (fun _ => false) 0 (decide ((0 : Int) = 0)) }) = [0] := by
        unfold thereL
        rw [filt0 (by rfl) (fun u h0 _ => by show put7 (fun _ => false) 0 _ u = false; unfold put7; rw [if_neg (by omega)])]
        rfl
      have hnx : nextP p11 [0] = (q11, 0) := by decide
      have how : ownA ({ (⟨p11, 1, 3, 1, fun _ => false, fun _ => false, [], none, ⟨0, []⟩, 0⟩ : AdvS) with rep := put7 (fun _ => false) 0 true, there := put7 (fun _ => false) 0 (decide ((0 : Int) = 0)) }) = spW := by
        unfold ownA
        rw [hth, show nextP _ [0] = (q11, 0) from hnx, if_pos rfl]; rfl
      show some (startB 1 1 3 (ownA _)) = _
      rw [how]
    · rw [asked1 rfl]
      show (decide ((u : Int) < 1) && !put7 (fun _ => false) 0 true u) = false
      unfold put7
      by_cases h0 : u = 0
      · subst h0; rfl
      · rw [decide_eq_false (by omega)]; rfl
  | 1, ⟨e1, e2, e3, e4⟩, _ =>
    obtain ⟨s, s', hp, hst, rfl⟩ := t2 e1
    rw [e3] at hp; cases hp
    have hfr : (spR (spM g 1)).fr = 0 := by show (askA g 0).to = 0; rw [askA_to]; rfl
    have hkd : (spR (spM g 1)).kind = 6 := by show (askA g 0).kind = 6; unfold askA; rw [if_pos e1, e3]; rfl
    unfold stepB at hst
    rw [if_pos hkd, hfr] at hst
    unfold PromB at hst
    rw [if_pos ⟨rfl, by rfl⟩, if_pos (by rfl)] at hst
    obtain ⟨val, hch, rfl⟩ := hst
    have hv : val = spW := by
      rcases hch with ⟨_, rfl⟩ | ⟨k, x, hx, hc, _⟩
      · rfl
      · exfalso
        simp only [takeB, promA, spR, startB] at hx
        simp [ansF] at hx
        obtain ⟨_, rfl⟩ := hx
        exact hc.2 ⟨rfl, rfl⟩
    subst hv
    exact ⟨e1, e2, rfl, e4⟩
  | 2, ⟨e1, e2, e3, e4⟩, _ =>
    obtain ⟨s, s', hp, hst, rfl⟩ := t2 e1
    rw [e3] at hp; cases hp
    have hfr : (spR (spM g 2)).fr = 0 := by show (askA g 0).to = 0; rw [askA_to]; rfl
    have hkd : (spR (spM g 2)).kind = 7 := by show (askA g 0).kind = 7; unfold askA; rw [if_pos e1, e3]; rfl
    unfold stepB at hst
    rw [if_neg (by rw [hkd]; decide), hfr] at hst
    have hs3 : s' = ⟨1, 1, 3, spW, 3, [(0, ⟨true, 0, 0, []⟩)], 1⟩ := by rw [hst]; rfl
    have hdec : decP spW = (q11, 0) := decP_plS right11.2
    subst hs3
    unfold outA
    rw [if_neg (by decide), if_pos rfl]
    rw [show (⟨1, 1, 3, spW, 3, [(0, ⟨true, 0, 0, []⟩)], 1⟩ : BSt).val = spW from rfl, hdec, if_neg (by rw [e2]; decide)]
    exact ⟨rfl, e2, rfl, rfl, e4⟩
  | 3, ⟨e1, e2, e3, e4, e5⟩, _ =>
    obtain rfl := t3 e1
    have hto : (spR (spM g 3)).fr.toNat = 0 := by show (askA g 0).to.toNat = 0; rw [askA_to]; rfl
    have herr : (spR (spM g 3)).err = 0 := rfl
    rw [hto]
    unfold tellA
    rw [if_pos herr]
    rw [if_pos ((asksL_nil (by show g.st ≠ 4; omega)).2 fun u hu => ?_)]
    · exact ⟨rfl, e2, e3, by show max (max g.tail 4) 0 = 4; rw [e5]; rfl⟩
    · rw [asked3 (by exact e1)]
      show (!put7 g.rep 0 true u && plannedA g.plan u) = false
      rw [e3, planned11]
      unfold put7
      by_cases h0 : u = 0
      · subst h0; rfl
      · rw [decide_eq_false h0, Bool.and_false]
  | 4, ⟨e1, e2, e3, e4⟩, _ =>
    obtain rfl := t4 e1
    exact ⟨rfl, e3, e4⟩
def spL (k : Nat) : List Int := (List.range k).map spK
set_option maxHeartbeats 2000000 in
theorem speaks18_ok : Tri Tryz.prog 6 #[] HP.tt (fun v => HP.and (v = .bool true) HP.tt) := by
  refine tri_of_tree (ρ := []) mixed Tryz.func6 tree_speaks18 ?_
  unfold t_speaks18
  simp only [T.den, E.prop, E.den, RX.look, F1.app, F2.app, Uni.int_i, Uni.nat_n, Uni.bool_c, Uni.str_s, Uni.adr_a, Uni.val_v, Uni.hp_p, hden, cden, V.den, W.den, A.den, BR.den, SA.den, FV.den, capV, exs, exP, allP, Cur.app, List.map_cons, List.map_nil, List.cons_append, List.nil_append, List.drop_succ_cons, List.drop_zero, List.length_cons, List.length_nil, Nat.zero_add, Nat.reduceAdd, Int.neg_neg, Bool.not_not, List.append_nil, Nat.add_zero, List.getElem?_cons_zero, List.getElem?_cons_succ, Decidable.not_not, semW_eq, semW_load, semW_append, ne_eq, Nat.reduceEqDiff, not_false_eq_true]
  refine (first_ok 1 1).weak (fun _ _ h => h) ?_
  rw [first11]
  rintro v R h ⟨a, c, es, ⟨rfl, he, hb⟩, H⟩
  have hel : es.length = 1 := by
    have := congrArg List.length he
    rw [List.length_map] at this; exact this
  refine ⟨p11.ep, a, es.length, c, Ls kCh a es.length es, 0, rfl, fun x => ?_, H⟩
  clear H
  refine (aBegin_ok (Ls kCh a es.length es) p11.ep a es.length c es 1 3 (fun _ _ h => h) (fun x hx => by have := hb x hx; omega) (by omega)).weak (fun _ _ h => h) ?_
  rw [show (⟨p11.ep, es.map (·.l)⟩ : PlP) = p11 by rw [he]]
  rintro v R h ⟨b, rfl, H⟩
  have hg0 : Sp 0 (beginA p11 1 3) := by
    show _ = _
    unfold beginA
    rw [if_pos ⟨right11.1, by decide, by decide, by decide, by decide, by decide⟩]
  have hA0 := AI.begin p11 1 3
  generalize beginA p11 1 3 = g0 at *
  refine ⟨b, ARep b g0, rfl, fun y => ?_, H⟩
  clear H
  refine ⟨fun a n c P Q => ∃ g, Sp 5 g ∧ P = ARep b g ∧ n = 5 ∧ Q = OwI a 5 c (spL 5), ?_, ?_⟩
  · refine ⟨fun a n c Q P => ∃ (k : Nat) (g : AdvS), k ≤ 5 ∧ Sp k g ∧ AI k g ∧ P = ARep b g ∧ n = k ∧ HP.ent Q (OwI a k c (spL k)) ∧ (0 < k → Q = OwI a k c (spL k)), fun _ n _ _ _ => 9 - n,
      ⟨0, g0, by omega, hg0, hA0, rfl, rfl, .of fun R h H => ⟨rfl, .inr ⟨y, #[], rfl, H, Nat.le_refl _, by unfold maxLen; omega, rfl, rfl⟩⟩, fun h => absurd h (by decide)⟩, ?_⟩
    rintro a k c Q _ ⟨_, g, hk, hS, hA, rfl, rfl, hQ, hQ2⟩
    refine ⟨fun _ => ?_, fun hge => by omega⟩
    refine (eAsks_ok b g hA.safe.s).weak (fun _ _ h => h) ?_
    rintro v R h ⟨a1, c1, es1, ⟨rfl, he1⟩, H⟩
    have hsm : es1.length ≠ 0 → a1.isSome = true := fun hn => RoC.some (HP.sep_left H).2.1 (by omega)
    have hl1 : es1.length = (asksL g).length := by rw [← he1, List.length_map]
    refine ⟨a1, es1.length, c1, Ls kMs a1 es1.length es1, rfl, ⟨fun q => q = !decide ((es1.length : Int) = 1), ⟨fun h => absurd rfl h, fun _ => rfl⟩, ?_⟩, H⟩
    clear H
    rintro _ rfl
    refine ⟨fun hq => ?_, fun hq => ?_⟩
    · have hk5 : k = 5 := Classical.byContradiction fun hn => by
        have := (hS.asks.1 (by omega)).1
        rw [this] at hl1
        rw [hl1] at hq
        simp at hq
      subst hk5
      exact ⟨g, hS, rfl, rfl, hQ2 (by decide)⟩
    · have hk5 : k < 5 := Classical.byContradiction fun hn => by
        have := hS.asks.2 (by omega)
        rw [this] at hl1
        rw [hl1] at hq
        simp at hq
      obtain ⟨ha, hkind⟩ := hS.asks.1 hk5
      rw [ha] at he1
      obtain ⟨e, rfl⟩ : ∃ e, es1 = [e] := List.length_eq_one_iff.1 (by rw [hl1, ha]; rfl)
      have hem : e.m = spM g k := by simpa using he1
      have hsl : spL (k + 1) = spL k ++ [e.m.kind] := by
        unfold spL
        rw [List.range_succ, List.map_append, hem, hkind]; rfl
      have hS1 : ∀ R h, (Ls kMs a1 [e].length [e]).p R h → (Ls kMs a1 1 [e]).p R h := fun _ _ h => h
      refine ⟨by simp, fun _ => ⟨hsm (by simp), fun _ => ⟨e.m.kind, ldMs1 hS1 (k := 0) rfl rfl rfl, fun z => ?_⟩⟩⟩
      refine (appendI a k c (spL k) (HP.one z (.cells #[.int .i64 e.m.kind] 3 (0, 0))) ⟨z, 0, none⟩ 1 1 [e.m.kind] (one_rd z #[.int .i64 e.m.kind] 3) rfl (by omega)).conseq (K := HP.tt) ((hQ.sep _).trans (.of fun R h H => HP.sep_tt H)) fun v => .of fun R h H => ?_
      obtain ⟨a', c', rfl, H'⟩ := HP.sep_left H
      refine ⟨a', k + 1, c', _, rfl, ⟨e.m.to, ldMs1 hS1 (k := 0) rfl rfl rfl, e.m.kind, ldMs1 hS1 (k := 0) rfl rfl rfl, e.m.ep, ldMs1 hS1 (k := 0) rfl rfl rfl, e.m.at', ldMs1 hS1 (k := 0) rfl rfl rfl, ?_⟩, H'⟩
      refine (eTold_ok b g (spR e.m) none 0 none 0 hA.safe (by simp [spR]) HP.tt).weak (fun R h H => HP.sep_mono (HP.sep_tt H) (fun _ h => h) fun y _ => HP.tt_sep (RoB0 none)) ?_
      rintro v R h ⟨g', ⟨rfl, ht⟩, H⟩
      have hA' := (hA.told (by omega) (by simp [spR]) ht).1
      rw [hem] at ht
      refine ⟨ARep b g', rfl, ⟨⟨k + 1, g', by omega, hS.step hk5 ht, hA', rfl, rfl, ?_, fun _ => ?_⟩, by dsimp only; omega⟩, H⟩
      · rw [hsl]; exact .refl _
      · rw [hsl]
  · rintro a _ c _ _ ⟨g, ⟨e1, e2, e3⟩, rfl, rfl, rfl⟩
    refine ⟨fun q => q = true, fun z => ?_, fun q hq => ?_⟩
    · refine (sameI_ok a 5 c (spL 5) (some ⟨z, 0, none⟩) 5 5 [4, 6, 7, 4, 9] (OwI a 5 c (spL 5)) (HP.one z (.cells #[.int .i64 4, .int .i64 6, .int .i64 7, .int .i64 4, .int .i64 9] 3 (0, 0))) (RdL.ow _ _ _ _ _ _) ⟨one_rd z #[.int .i64 4, .int .i64 6, .int .i64 7, .int .i64 4, .int .i64 9] 3, fun _ _ _ e => by cases e⟩ rfl rfl (by omega)).weak (fun _ _ h => h) ?_
      rintro v R h ⟨rfl, H⟩
      refine ⟨true, rfl, ?_, H⟩
      clear H
      refine ⟨fun _ => ?_, fun h => absurd rfl h⟩
      refine (eState_ok b g).weak (fun _ _ h => h) ?_
      rintro v R h ⟨rfl, H⟩
      refine ⟨g.st, rfl, ⟨fun _ => ?_, fun h => absurd e1 h⟩, H⟩
      clear H
      refine (eTail_ok b g).weak (fun _ _ h => h) ?_
      rintro v R h ⟨rfl, H⟩
      refine ⟨g.tail, rfl, ⟨fun _ => ?_, fun h => absurd e3 h⟩, H⟩
      clear H
      refine (ePlan_ok b g).weak (fun _ _ h => h) ?_
      rintro v R h ⟨a', c', es', ⟨rfl, _⟩, H⟩
      refine ⟨g.plan.ep, a', es'.length, c', _, rfl, ?_, H⟩
      show _ = true
      rw [e2]; rfl
    · subst hq
      exact .of fun R h H => ⟨rfl, trivial⟩
end Go.Proofs.YtbmajijnjkicmaaGreatDoor



namespace Go.Proofs.YtbmajijnjkicmaaGreatDoor
open Go.RowKit Go.ChangeShapes Go.WideShapes Go.Deep RX
set_option maxRecDepth 100000

structure ChI where
  l : List Int
  a : Option Addr
  c : Nat
instance : Inhabited ChI := ⟨⟨[], none, 0⟩⟩
end Go.Proofs.YtbmajijnjkicmaaGreatDoor



namespace Go.Proofs.YtbmajijnjkicmaaGreatDoor
open Go.RowKit Go.ChangeShapes Go.WideShapes Go.Deep RX
set_option maxRecDepth 100000
set_option linter.unusedVariables false
set_option linter.unusedSimpArgs false

structure PlanI where
  ep : Int
  ch : List ChI
  cha : Option Addr
  chc : Nat
instance : Inhabited PlanI := ⟨⟨0, [], none, 0⟩⟩
structure Step18 where
  push : Bool
  some_ : Bool
  at_ : Int
  r_fr : Int
  r_to : Int
  r_num : Int
  r_rep : Bool
  r_kind : Int
  r_ep : Int
  r_at_ : Int
  r_cell_what : Int
  r_cell_data : List UInt8
  r_cell_dataa : Option Addr
  r_cell_datac : Nat
  r_br_r : Int
  r_br_w : Int
  r_val : List UInt8
  r_vala : Option Addr
  r_valc : Nat
  r_err : Int
  r_tail : Int
  r_low : Int
  r_back : Int
instance : Inhabited Step18 := ⟨⟨false, false, 0, 0, 0, 0, false, 0, 0, 0, 0, [], none, 0, 0, 0, [], none, 0, 0, 0, 0, 0⟩⟩
structure Turn18 where
  who : Int
  at_ : Int
  comes : Bool
  push : Bool
instance : Inhabited Turn18 := ⟨⟨0, 0, false, false⟩⟩
end Go.Proofs.YtbmajijnjkicmaaGreatDoor



namespace Go.Proofs.YtbmajijnjkicmaaGreatDoor
set_option linter.unusedSimpArgs false
set_option linter.unusedVariables false
open Go.Proofs.YtbmajijnjkicmaaGreatDoor RX
set_option maxRecDepth 100000

theorem and1 (x : Int) : bits .and .i64 x 1 = x % 2 := bits_mask_i64 x 1 (by decide)


theorem eTold2 (b : Nat) (g : AdvS) (m : MS) (ca : Option Addr) (cc : Nat) (va : Option Addr) (vc : Nat) (hs : TSafe g) (hmv : m.val.length ≤ 100000000) (D : HP) :
    Tri Tryz.prog 13 #[.pointer (some ⟨b, 0, none⟩), .agg (m.raw ca cc va vc).vals] (HP.sep (ARep b g) (HP.sep D (m.Vro va))) (fun v => HP.ex fun g' => HP.and (v = .tuple #[] ∧ tolR g m g') (HP.sep (ARep b g') (HP.sep D (m.Vro va)))) :=
  (eTold_ok b g m ca cc va vc hs hmv HP.tt).conseq (K := HP.sep D (m.Vro va)) (.of fun R h H => by
    have hV : ∀ h', (m.Vro va).p R h' := fun _ => (HP.sep_right (HP.sep_right H) : (m.Vro va).p R h)
    exact HP.sep_mono H (fun y hy => HP.sep_mono (HP.sep_tt hy) (fun _ h => h) fun z _ => HP.tt_sep (hV z)) fun _ h => h) fun v => .of fun R h ⟨h1, h2, d, l1, l2, ⟨g', e, H1⟩, H2⟩ => ⟨g', e, h1, h2, d, l1, l2, H1, H2⟩

end Go.Proofs.YtbmajijnjkicmaaGreatDoor



namespace Go.Proofs.YtbmajijnjkicmaaGreatDoor
open Go.Proofs.YtbmajijnjkicmaaGreatDoor RX
set_option maxRecDepth 100000

end Go.Proofs.YtbmajijnjkicmaaGreatDoor



namespace Go.Proofs.YtbmajijnjkicmaaGreatDoor
open Go.Proofs.YtbmajijnjkicmaaGreatDoor RX
set_option maxRecDepth 100000

section
variable {b : Nat} {w : NS} {r : NRw}
theorem nd_seqE : Tri Tryz.prog 17 #[.pointer (some ⟨r.sq, 0, none⟩)] (NodR b w r) (fun v => HP.and (v = .int .i64 w.e) (NodR b w r)) := by
  have := nod_seq (b := b) (w := w) (r := r) (e' := w.e) (n' := w.n) (K := HP.tt) (B := fun v => HP.pure (v = .int .i64 w.e)) ((kEpoch_ok r.sq w.e w.n).weak (fun R h H => HP.sep_left H) fun v R h ⟨e, H⟩ => HP.sep_mono (HP.sep_tt H) (fun _ h => h) fun _ _ => e)
  exact this.weak (fun R h H => HP.sep_tt H) fun v R h H => ⟨HP.sep_right H, HP.sep_left H⟩
end
end Go.Proofs.YtbmajijnjkicmaaGreatDoor



namespace Go.Proofs.YtbmajijnjkicmaaGreatDoor
open Go.Proofs.YtbmajijnjkicmaaGreatDoor RX
set_option maxRecDepth 100000

def seenL (L : List (Int × BA)) : List AnB := L.filterMap fun z => ansF L 0 z.1
theorem seenL_mem {L : List (Int × BA)} {y : AnB} : y ∈ seenL L ↔ ∃ k, ansF L 0 k = some y := by
  unfold seenL
  rw [List.mem_filterMap]
  refine ⟨fun ⟨z, _, h⟩ => ⟨z.1, h⟩, fun ⟨k, h⟩ => ?_⟩
  have : k ∈ L.map (·.1) := Classical.byContradiction fun hn => by rw [ansF_none.2 hn] at h; cases h
  obtain ⟨z, hz, rfl⟩ := List.mem_map.1 this
  exact ⟨z, hz, h⟩
def candD (x : AnB) : Bool := x.ok && !(decide (x.r = 0) && decide (x.w = 0))
def lessD (x y : AnB) : Bool := decide (x.r < y.r) || (decide (x.r = y.r) && decide (x.w < y.w))
theorem candD_iff {x : AnB} : candD x = true ↔ candA x := by
  unfold candD candA
  simp only [Bool.and_eq_true, Bool.not_eq_true', Bool.and_eq_false_iff, decide_eq_false_iff_not, not_and]
  refine and_congr_right fun _ => ⟨fun h h1 => h.resolve_left fun h2 => h2 h1, fun h => ?_⟩
  by_cases h1 : x.r = 0
  · exact .inr (h h1)
  · exact .inl h1
theorem lessD_iff {x y : AnB} : lessD x y = true ↔ lessA x y := by
  unfold lessD lessA
  simp only [Bool.or_eq_true, Bool.and_eq_true, decide_eq_true_eq]
def choF (L : List (Int × BA)) (v0 : List UInt8) : Option (List UInt8) :=
  match (seenL L).filter candD with
  | [] => some v0
  | x :: l => match (x :: l).filter fun y => (x :: l).all fun z => !lessD y z with
    | [] => none
    | b :: bs => if bs.all (fun y => decide (y.val = b.val)) = true then some b.val else none
theorem choF_eq {L : List (Int × BA)} {v0 v v' : List UInt8} (h : choF L v0 = some v) (hc : ChoseB (ansF L 0) v0 v') : v' = v := by
  have hm : ∀ y, y ∈ (seenL L).filter candD ↔ (∃ k, ansF L 0 k = some y) ∧ candA y := fun y => by rw [List.mem_filter, seenL_mem, candD_iff]
  unfold choF at h
  generalize (seenL L).filter candD = C at h hm
  rcases hc with ⟨hno, rfl⟩ | ⟨k, x, hk, hx, rfl, hmax⟩
  · cases C with
    | nil => exact Option.some.inj h
    | cons y l =>
      obtain ⟨⟨k, hk⟩, hy⟩ := (hm y).1 (by simp)
      exact absurd hy (hno k y hk)
  · have hxC := (hm x).2 ⟨⟨k, hk⟩, hx⟩
    cases C with
    | nil => cases hxC
    | cons y l =>
      dsimp only at h
      have hb : x ∈ (y :: l).filter fun z => (y :: l).all fun u => !lessD z u := List.mem_filter.2 ⟨hxC, List.all_eq_true.2 fun z hz => by
        obtain ⟨⟨k', hk'⟩, hz'⟩ := (hm z).1 hz
        have := hmax k' z hk' hz'
        cases hq : lessD x z with
        | false => rfl
        | true => exact absurd (lessD_iff.1 hq) this⟩
      generalize (y :: l).filter (fun z => (y :: l).all fun u => !lessD z u) = B at h hb
      cases B with
      | nil => cases hb
      | cons b bs =>
        dsimp only at h
        split at h
        · rename_i ha
          obtain rfl := Option.some.inj h
          rcases List.mem_cons.1 hb with rfl | hb
          · rfl
          · exact of_decide_eq_true (List.all_eq_true.1 ha x hb)
        · cases h
def promF (g : BSt) (f r w : Int) (l : List UInt8) (e : Int) : Option BSt :=
  if g.phase = 1 ∧ askedB g f = true then
    (if (takeB g f (promA r w l e)).2 = true then (choF (takeB g f (promA r w l e)).1.ans g.val).map fun val => { (takeB g f (promA r w l e)).1 with val := val, phase := 2, ans := [], agreed := 0 } else some (takeB g f (promA r w l e)).1)
  else some g
theorem promF_eq {g g1 g' : BSt} {f r w : Int} {l : List UInt8} {e : Int} (h : promF g f r w l e = some g1) (hp : PromB g f r w l e g') : g' = g1 := by
  unfold promF at h
  unfold PromB at hp
  split at h
  · rename_i hc
    rw [if_pos hc] at hp
    split at h
    · rename_i ht
      rw [if_pos ht] at hp
      obtain ⟨val, hv, rfl⟩ := hp
      obtain ⟨v, hv2, rfl⟩ := Option.map_eq_some_iff.1 h
      rw [choF_eq hv2 hv]
    · rename_i ht
      rw [if_neg ht] at hp
      rw [hp]; exact Option.some.inj h
  · rename_i hc
    rw [if_neg hc] at hp
    rw [hp]; exact Option.some.inj h
def tolF (g : AdvS) (m : MS) : Option AdvS :=
  if m.rep = true ∧ nowB g m = true then
    (if g.st = 1 then some (sealA g m.fr.toNat m.err)
    else if g.st = 2 then (match g.prop with
      | none => none
      | some s => (if m.kind = 6 then promF s m.fr m.br m.bw m.val m.err else some (accB s m.fr m.err)).map (outA g))
    else if g.st = 3 then some (tellA g m m.fr.toNat)
    else if g.st = 4 then some { g with st := if m.err = 0 ∨ m.err = 8 then 5 else 6 }
    else some g)
  else some g
theorem tolF_eq {g g1 g' : AdvS} {m : MS} (h : tolF g m = some g1) (ht : tolR g m g') : g' = g1 := by
  unfold tolF at h
  unfold tolR at ht
  by_cases hc : m.rep = true ∧ nowB g m = true
  · rw [if_pos hc] at h ht
    obtain ⟨t1, t2, t3, t4, t5⟩ := ht
    by_cases h1 : g.st = 1
    · rw [if_pos h1] at h; rw [t1 h1]; exact Option.some.inj h
    rw [if_neg h1] at h
    by_cases h2 : g.st = 2
    · rw [if_pos h2] at h
      obtain ⟨s, s', hp, hs, rfl⟩ := t2 h2
      rw [hp] at h
      dsimp only at h
      obtain ⟨s1, hs1, rfl⟩ := Option.map_eq_some_iff.1 h
      unfold stepB at hs
      by_cases hk : m.kind = 6
      · rw [if_pos hk] at hs hs1; rw [promF_eq hs1 hs]
      · rw [if_neg hk] at hs hs1; rw [hs, Option.some.inj hs1]
    rw [if_neg h2] at h
    by_cases h3 : g.st = 3
    · rw [if_pos h3] at h; rw [t3 h3]; exact Option.some.inj h
    rw [if_neg h3] at h
    by_cases h4 : g.st = 4
    · rw [if_pos h4] at h; rw [t4 h4]; exact Option.some.inj h
    rw [if_neg h4] at h
    rw [t5 h1 h2 h3 h4]; exact Option.some.inj h
  · rw [if_neg hc] at h ht
    rw [ht]; exact Option.some.inj h

def UR.bare (u : UR) : UR := ⟨0, 0, u.s, u.ps⟩
def NS.bare (w : NS) : NS := ⟨w.l.map UR.bare, w.e, w.n⟩
theorem askN_bare (w : NS) (m : MS) : askN w.bare m = ((askN w m).1, (askN w m).2.1, (askN w m).2.2.bare) := by
  unfold askN
  by_cases h7 : m.to = 7
  · rw [if_pos h7, if_pos h7]; rfl
  · rw [if_neg h7, if_neg h7]
    by_cases h0 : m.to < 0
    · rw [if_pos h0, if_pos h0]
    · rw [if_neg h0, if_neg h0]
      show (match (w.l.map UR.bare)[m.to.toNat]? with | none => _ | some u => _) = _
      rw [List.getElem?_map]
      cases w.l[m.to.toNat]? with
      | none => rfl
      | some u =>
        show (_, _, (⟨(w.l.map UR.bare).set _ _, w.e, w.n⟩ : NS)) = (_, _, (⟨(w.l.set _ _).map UR.bare, w.e, w.n⟩ : NS))
        rw [List.map_set]; rfl
def stepN (w : NS) (g : AdvS) (m : MS) : Option (NS × AdvS) :=
  if (askN w m).1 = true then (if (askN w m).2.1.val.length ≤ 1000 then (tolF g (askN w m).2.1).map fun g' => ((askN w m).2.2, g') else none)
  else some ((askN w m).2.2, g)
def runN : Nat → NS → AdvS → Option (NS × AdvS)
  | 0, w, g => if (asksL g).isEmpty = true then some (w, g) else none
  | k + 1, w, g => match asksL g with
    | [] => some (w, g)
    | m :: _ => match stepN w g m with
      | none => none
      | some x => runN k x.1 x.2
theorem runN_nil {k : Nat} {w : NS} {g : AdvS} (h : asksL g = []) : runN k w g = some (w, g) := by
  cases k with
  | zero => unfold runN; rw [h]; rfl
  | succ k => unfold runN; rw [h]
theorem runN_cons {k : Nat} {w : NS} {g : AdvS} {m : MS} {l : List MS} (h : asksL g = m :: l) {x : NS × AdvS} (hr : runN k w g = some x) : ∃ j y, k = j + 1 ∧ stepN w g m = some y ∧ runN j y.1 y.2 = some x := by
  cases k with
  | zero => unfold runN at hr; rw [h] at hr; cases hr
  | succ k =>
    unfold runN at hr
    rw [h] at hr
    dsimp only at hr
    cases hs : stepN w g m with
    | none => rw [hs] at hr; cases hr
    | some y => rw [hs] at hr; exact ⟨k, y, rfl, rfl, hr⟩
theorem runN_mono : ∀ {k : Nat} {w : NS} {g : AdvS} {x : NS × AdvS} (j : Nat), runN k w g = some x → runN (k + j) w g = some x
  | k, w, g, x, j, h => by
    cases ha : asksL g with
    | nil => rw [runN_nil ha] at h ⊢; exact h
    | cons m l =>
      obtain ⟨i, y, rfl, hs, hr⟩ := runN_cons ha h
      have := runN_mono j hr
      rw [Nat.add_right_comm]
      unfold runN
      rw [ha]
      dsimp only
      rw [hs]
      exact this
def aftOk (n c : Nat) : Bool :=
  match runN 140 ⟨List.replicate n ⟨0, 0, s0, []⟩, -1, 0⟩ (beginA ⟨0, firstC n c⟩ n 1) with
  | none => false
  | some (w1, a) => match runN 140 w1 (beginA ⟨0, firstC n c⟩ n 2) with
    | none => false
    | some (w2, b) => match runN 140 w2 (beginA a.plan n 3) with
      | none => false
      | some (w3, x) => match runN 140 w3 (beginA ⟨0, firstC n c⟩ n 4) with
        | none => false
        | some (w4, d) => decide (a.st = 5) && (decide (b.st = 5) && (decide (a.plan.ep = 1) && (decide (b.plan.ep = 1) && (decide (a.plan.ch = b.plan.ch) && (decide (x.st = 5) && (decide (x.plan.ep = 2) && (decide (d.st = 5) && (decide (d.plan.ep = 1) && (decide (d.plan.ch = a.plan.ch) && (decide (w4.e = 2) && decide (a.plan.ch.length ≤ 7 ∧ ∀ c ∈ a.plan.ch, c.length ≤ 7)))))))))))
end Go.Proofs.YtbmajijnjkicmaaGreatDoor



namespace Go.Proofs.YtbmajijnjkicmaaGreatDoor
set_option linter.unusedSimpArgs false
set_option linter.unusedVariables false
open Go.Proofs.YtbmajijnjkicmaaGreatDoor RX
set_option maxRecDepth 100000

set_option maxHeartbeats 2000000 in
theorem aftRun_ok (ep : Int) (a : Option Addr) (c : Nat) (es : List ChE) (hb : ∀ x ∈ es, x.l.length ≤ 1000000000) (hel : es.length ≤ 1000) (who : Int) (nb nn xb wb : Nat) (r : NRw) (w : NS) (hn : nn ≤ 4) (hwn : w.l.length = nn)
    (Wf : NS) (G : AdvS) (hrun : runN 140 w.bare (beginA ⟨ep, es.map (·.l)⟩ nn who) = some (Wf, G)) (h1n : 1 ≤ nn) (S : HP) (hS : ∀ R h, S.p R h → (Ls kCh a es.length es).p R h) :
    Tri Tryz.prog 9 #[.agg #[.int .i64 ep, .slice a es.length c], .int .i64 who, .pointer (some ⟨nb, 0, none⟩), .pointer (some ⟨xb, 0, none⟩)]
      (HP.sep S (HP.sep (HP.one nb (.cells #[.int .i64 nn] 3 (0, 0))) (HP.sep (HP.one xb (.cells #[.pointer (some ⟨wb, 0, none⟩)] 29 (0, 0))) (NodR wb w r))))
      (fun v => HP.ex fun ob => HP.ex fun w' : NS => HP.and (v = .pointer (some ⟨ob, 0, none⟩) ∧ w'.bare = Wf ∧ w'.l.length = nn) (HP.sep (ARep ob G) (HP.sep S (HP.sep (HP.one nb (.cells #[.int .i64 nn] 3 (0, 0))) (HP.sep (HP.one xb (.cells #[.pointer (some ⟨wb, 0, none⟩)] 29 (0, 0))) (NodR wb w' r)))))) := by
  refine tri_of_tree (ρ := [.i ep, .a a, .n es.length, .n c, .p S, .i who, .n nb, .i nn, .n xb, .n wb, .p (NodR wb w r)]) mixed Tryz.func9 tree_advAfter1 ?_
  unfold t_advAfter1
  simp (maxSteps := 3000000) only [T.den, E.prop, E.den, RX.look, F1.app, F2.app, Uni.int_i, Uni.nat_n, Uni.bool_c, Uni.str_s, Uni.adr_a, Uni.val_v, Uni.hp_p, hden, cden, V.den, W.den, A.den, BR.den, SA.den, FV.den, capV, exs, exP, allP, Cur.app, List.map_cons, List.map_nil, List.cons_append, List.nil_append, List.drop_succ_cons, List.drop_zero, List.length_cons, List.length_nil, Nat.zero_add, Nat.reduceAdd, Int.neg_neg, Bool.not_not, List.append_nil, Nat.add_zero, List.getElem?_cons_zero, List.getElem?_cons_succ, Decidable.not_not, semW_eq, semW_load, ne_eq, Nat.reduceEqDiff, not_false_eq_true]
  intro _
  refine (aBegin_ok S ep a es.length c es nn who hS hb (by omega)).weak (fun _ _ h => h) ?_
  rintro v R h ⟨ob, rfl, H⟩
  refine ⟨ob, ARep ob (beginA ⟨ep, es.map (·.l)⟩ nn who), rfl, ?_, H⟩
  clear H
  refine ⟨fun _ A P => ∃ w' : NS, A = ARep ob G ∧ P = NodR wb w' r ∧ w'.bare = Wf ∧ w'.l.length = nn, ?_, ?_⟩
  · have h0 := runN_mono (40 * nn - 40) hrun
    rw [show 140 + (40 * nn - 40) = 40 * nn + 100 by omega] at h0
    refine ⟨fun i A P => ∃ (q : Nat) (g : AdvS) (w' : NS), i = q ∧ q ≤ 40 * nn + 100 ∧ A = ARep ob g ∧ P = NodR wb w' r ∧ w'.l.length = nn ∧ AI q g ∧ runN (40 * nn + 100 - q) w'.bare g = some (Wf, G), fun i _ _ => 1000 - i.toNat,
      ⟨0, _, w, rfl, Nat.zero_le _, rfl, rfl, hwn, AI.begin _ _ _, h0⟩, ?_⟩
    rintro _ _ _ ⟨q, g, w', rfl, hq, rfl, rfl, hwn', hA, hr⟩
    refine ⟨inI64 _ (by omega) (by omega), fun _ => ⟨inI64 _ (by omega) (by omega), fun _ => ⟨fun hlt => ?_, fun hge => ?_⟩⟩⟩
    · refine (eAsks_ok ob g hA.safe.s).weak (fun _ _ h => h) ?_
      rintro v R h ⟨a1, c1, es1, ⟨rfl, he1⟩, H⟩
      have hsm : es1.length ≠ 0 → a1.isSome = true := fun hn => RoC.some (HP.sep_left H).2.1 (by omega)
      refine ⟨a1, es1.length, c1, Ls kMs a1 es1.length es1, rfl, ⟨fun hz => ?_, fun hz => ?_⟩, H⟩
      · have hnil : asksL g = [] := by
          rw [← he1, List.map_eq_nil_iff]
          exact List.eq_nil_of_length_eq_zero (by omega)
        rw [runN_nil hnil] at hr
        cases hr
        exact ⟨w', rfl, rfl, rfl, hwn'⟩
      clear H
      have hlp : 0 < es1.length := by omega
      have hje : es1[0]? = some (es1[0]'hlp) := List.getElem?_eq_getElem hlp
      generalize es1[0]'hlp = e at hje
      have hemem := List.mem_of_getElem? hje
      have hcons : ∃ l, asksL g = e.m :: l := by
        cases es1 with
        | nil => cases hje
        | cons y l => cases hje; exact ⟨_, he1.symm⟩
      obtain ⟨ml, hml⟩ := hcons
      obtain ⟨j, y, hj, hst, hr2⟩ := runN_cons hml hr
      obtain ⟨f1, f2, f3, f4, f5, _⟩ := asksL_get (g := g) (i := 0) (m := e.m) (by rw [hml]; rfl)
      unfold stepN at hst
      rw [askN_bare] at hst
      dsimp only at hst
      have hlA : (askN w' e.m).2.2.l.length = w'.l.length := by
        unfold askN
        split
        · rfl
        · split
          · rfl
          · exact List.length_set ..
      have T := (ask18R_ok wb w' r e.m e.ca e.cc e.va e.vc (fun h7 => ⟨f5.2 h7, f2⟩) (by omega)).conseq (A' := HP.sep (NodR wb w' r) (Ls kMs a1 es1.length es1)) (B' := fun v => HP.ex fun rca => HP.ex fun rcc => HP.ex fun rva => HP.ex fun rvc => HP.and (v = .tuple #[.agg ((askN w' e.m).2.1.raw rca rcc rva rvc).vals, .bool (askN w' e.m).1]) (HP.sep ((askN w' e.m).2.1.Dro rca) (HP.sep ((askN w' e.m).2.1.Vro rva) (HP.sep (NodR wb (askN w' e.m).2.2 r) (Ls kMs a1 es1.length es1))))) (K := Ls kMs a1 es1.length es1) (.of fun R h H => ?_) fun v => .of fun R h ⟨h1, h2, d, l1, l2, ⟨rca, rcc, rva, rvc, e0, H1⟩, H2⟩ => ⟨rca, rcc, rva, rvc, e0, ?_⟩
      rotate_left
      · have hx : (HP.both (e.m.Dro e.ca) (e.m.Vro e.va)).p R _ := (HP.sep_right H).2.2 e hemem
        have hD : ∀ h', (e.m.Dro e.ca).p R h' := fun _ => hx.1
        have hV : ∀ h', (e.m.Vro e.va).p R h' := fun _ => hx.2
        exact HP.sep_mono H (fun y hy => HP.sep_mono (HP.sep_tt hy) (fun _ h => h) fun z _ => HP.sep_mono (HP.sep_tt (hD z)) (fun _ h => h) fun q _ => hV q) fun _ h => h
      · exact HP.pick [_, _, _, _, _, _] [3, 4, 0, 5] (by decide) rfl (HP.sep_assoc (⟨h1, h2, d, l1, l2, H1, H2⟩ : (HP.sep (HP.sep (NodR wb (askN w' e.m).2.2 r) (HP.sep (e.m.Dro e.ca) (HP.sep (e.m.Vro e.va) (HP.sep ((askN w' e.m).2.1.Dro rca) ((askN w' e.m).2.1.Vro rva))))) (Ls kMs a1 es1.length es1)).p R h) |> fun H => HP.sep_mono H (fun _ h => h) fun y hy => HP.sep_assoc hy |> fun H => HP.sep_mono H (fun _ h => h) fun y hy => HP.sep_assoc hy |> fun H => HP.sep_mono H (fun _ h => h) fun y hy => HP.sep_assoc hy)
      generalize hAeq : askN w' e.m = A at *
      refine ⟨fun _ ok fr to num rep kind ep' at' what da dn dc br bw va vn vc err tl low back D V P => ∃ (rca : Option Addr) (rcc : Nat) (rva : Option Addr) (rvc : Nat), ok = A.1 ∧ fr = A.2.1.fr ∧ to = A.2.1.to ∧ num = A.2.1.num ∧ rep = A.2.1.rep ∧ kind = A.2.1.kind ∧ ep' = A.2.1.ep ∧ at' = A.2.1.at' ∧ what = A.2.1.cell.what ∧ da = rca ∧ dn = A.2.1.cell.data.length ∧ dc = rcc ∧ br = A.2.1.br ∧ bw = A.2.1.bw ∧ va = rva ∧ vn = A.2.1.val.length ∧ vc = rvc ∧ err = A.2.1.err ∧ tl = A.2.1.tail ∧ low = A.2.1.low ∧ back = A.2.1.back ∧ D = A.2.1.Dro rca ∧ V = A.2.1.Vro rva ∧ P = NodR wb A.2.2 r, ?_, ?_⟩
      · refine ⟨by omega, fun _ => ⟨hsm (by omega), fun _ => ⟨e.m.fr, e.m.to, e.m.num, e.m.rep, e.m.kind, e.m.ep, e.m.at', e.m.cell.what, e.ca, e.m.cell.data.length, e.cc, e.m.br, e.m.bw, e.va, e.m.val.length, e.vc, e.m.err, e.m.tail, e.m.low, e.m.back, ldMsI (fun _ _ h => h) rfl hje, ?_, ?_⟩⟩⟩
        · refine T.weak (fun _ _ h => h) ?_
          rintro v R h ⟨rca, rcc, rva, rvc, e0, H⟩
          exact ⟨A.2.1.fr, A.2.1.to, A.2.1.num, A.2.1.rep, A.2.1.kind, A.2.1.ep, A.2.1.at', A.2.1.cell.what, rca, A.2.1.cell.data.length, rcc, A.2.1.Dro rca, A.2.1.br, A.2.1.bw, rva, A.2.1.val.length, rvc, A.2.1.Vro rva, A.2.1.err, A.2.1.tail, A.2.1.low, A.2.1.back, A.1, NodR wb A.2.2 r, e0, fun _ => ⟨rca, rcc, rva, rvc, rfl, rfl, rfl, rfl, rfl, rfl, rfl, rfl, rfl, rfl, rfl, rfl, rfl, rfl, rfl, rfl, rfl, rfl, rfl, rfl, rfl, rfl, rfl, rfl⟩, H⟩
        · intro _
          refine T.weak (fun _ _ h => h) ?_
          rintro v R h ⟨rca, rcc, rva, rvc, e0, H⟩
          exact ⟨A.2.1.fr, A.2.1.to, A.2.1.num, A.2.1.rep, A.2.1.kind, A.2.1.ep, A.2.1.at', A.2.1.cell.what, rca, A.2.1.cell.data.length, rcc, A.2.1.Dro rca, A.2.1.br, A.2.1.bw, rva, A.2.1.val.length, rvc, A.2.1.Vro rva, A.2.1.err, A.2.1.tail, A.2.1.low, A.2.1.back, A.1, NodR wb A.2.2 r, e0, ⟨rca, rcc, rva, rvc, rfl, rfl, rfl, rfl, rfl, rfl, rfl, rfl, rfl, rfl, rfl, rfl, rfl, rfl, rfl, rfl, rfl, rfl, rfl, rfl, rfl, rfl, rfl, rfl⟩, H⟩
      rintro _ _ _ _ _ _ _ _ _ _ rca _ rcc _ _ rva _ rvc _ _ _ _ _ _ _ ⟨_, _, _, _, rfl, rfl, rfl, rfl, rfl, rfl, rfl, rfl, rfl, rfl, rfl, rfl, rfl, rfl, rfl, rfl, rfl, rfl, rfl, rfl, rfl, rfl, rfl, rfl⟩
      refine ⟨fun B => ∃ g', B = ARep ob g' ∧ y = (A.2.2.bare, g') ∧ AI (q + 1) g', ⟨fun hok => ?_, fun hok => ?_⟩, ?_⟩
      · rw [if_pos (show A.1 = true from hok)] at hst
        split at hst
        · rename_i hvl
          obtain ⟨g1, hg1, hy⟩ := Option.map_eq_some_iff.1 hst
          refine (eTold2 ob g A.2.1 rca rcc rva rvc hA.safe (by omega) (A.2.1.Dro rca)).weak (fun _ _ h => h) ?_
          rintro v R h ⟨g', ⟨rfl, ht⟩, H⟩
          obtain rfl := tolF_eq hg1 ht
          exact ⟨ARep ob g', rfl, ⟨g', rfl, hy.symm, (hA.told (by omega) hvl ht).1⟩, H⟩
        · cases hst
      · rw [if_neg (show ¬ A.1 = true from hok)] at hst
        exact ⟨g, rfl, (Option.some.inj hst).symm, hA.mono (Nat.le_succ q)⟩
      · rintro _ ⟨g', rfl, hy, hA'⟩
        rw [hy] at hr2
        exact ⟨inI64 _ (by omega) (by omega), fun _ => ⟨⟨q + 1, g', A.2.2, by omega, by omega, rfl, rfl, by omega, hA', by rw [show 40 * nn + 100 - (q + 1) = j by omega]; exact hr2⟩, by dsimp only; omega⟩⟩
    · obtain rfl : q = 40 * nn + 100 := by omega
      rw [Nat.sub_self] at hr
      have hnil : asksL g = [] := by
        unfold runN at hr
        split at hr
        · rename_i h; simpa using h
        · cases hr
      rw [runN_nil hnil] at hr
      cases hr
      exact ⟨w', rfl, rfl, rfl, hwn'⟩
  · rintro _ _ _ ⟨w', rfl, rfl, hw, hwn2⟩
    exact .of fun R h H => ⟨ob, w', ⟨rfl, hw, hwn2⟩, HP.pick [_, _, _, _, _] [4, 0, 1, 2, 3] (by decide) rfl H⟩
end Go.Proofs.YtbmajijnjkicmaaGreatDoor



namespace Go.Proofs.YtbmajijnjkicmaaGreatDoor
open Go.Proofs.YtbmajijnjkicmaaGreatDoor RX
set_option maxRecDepth 100000

theorem aft11 : aftOk 1 1 = true := by kernel_rfl
theorem aft21 : aftOk 2 1 = true := by kernel_rfl
theorem aft22 : aftOk 2 2 = true := by kernel_rfl
theorem aft31 : aftOk 3 1 = true := by kernel_rfl
theorem aft32 : aftOk 3 2 = true := by kernel_rfl
theorem aft41 : aftOk 4 1 = true := by kernel_rfl
theorem aft42 : aftOk 4 2 = true := by kernel_rfl
theorem aft_all {n c : Nat} (hn : 1 ≤ n ∧ n ≤ 4) (hc : 1 ≤ c ∧ c ≤ 2) (hcn : c ≤ n) : aftOk n c = true := by
  have h1 : n = 1 ∨ n = 2 ∨ n = 3 ∨ n = 4 := by omega
  have h2 : c = 1 ∨ c = 2 := by omega
  rcases h1 with rfl | rfl | rfl | rfl <;> rcases h2 with rfl | rfl
  · exact aft11
  · omega
  · exact aft21
  · exact aft22
  · exact aft31
  · exact aft32
  · exact aft41
  · exact aft42
theorem aft_run {n c : Nat} (h : aftOk n c = true) : ∃ w1 a w2 b w3 x w4 d, runN 140 ⟨List.replicate n ⟨0, 0, s0, []⟩, -1, 0⟩ (beginA ⟨0, firstC n c⟩ n 1) = some (w1, a) ∧ runN 140 w1 (beginA ⟨0, firstC n c⟩ n 2) = some (w2, b) ∧
    runN 140 w2 (beginA a.plan n 3) = some (w3, x) ∧ runN 140 w3 (beginA ⟨0, firstC n c⟩ n 4) = some (w4, d) ∧ a.st = 5 ∧ b.st = 5 ∧ a.plan.ep = 1 ∧ b.plan.ep = 1 ∧ a.plan.ch = b.plan.ch ∧ x.st = 5 ∧ x.plan.ep = 2 ∧ d.st = 5 ∧ d.plan.ep = 1 ∧ d.plan.ch = a.plan.ch ∧ w4.e = 2 ∧ a.plan.ch.length ≤ 7 ∧ ∀ c ∈ a.plan.ch, c.length ≤ 7 := by
  unfold aftOk at h
  split at h
  · cases h
  rename_i w1 a e1
  split at h
  · cases h
  rename_i w2 b e2
  split at h
  · cases h
  rename_i w3 x e3
  split at h
  · cases h
  rename_i w4 d e4
  simp only [Bool.and_eq_true, decide_eq_true_eq] at h
  exact ⟨w1, a, w2, b, w3, x, w4, d, e1, e2, e3, e4, h⟩
theorem bare0 {n : Nat} {w : NS} (hl : w.l.length = n) (he : w.e = -1) (hn : w.n = 0) (h : ∀ u ∈ w.l, u.s = s0 ∧ u.ps = []) : w.bare = ⟨List.replicate n ⟨0, 0, s0, []⟩, -1, 0⟩ := by
  unfold NS.bare
  rw [he, hn]
  congr 1
  refine List.eq_replicate_iff.2 ⟨by rw [List.length_map]; exact hl, fun x hx => ?_⟩
  obtain ⟨u, hu, rfl⟩ := List.mem_map.1 hx
  unfold UR.bare
  rw [(h u hu).1, (h u hu).2]
end Go.Proofs.YtbmajijnjkicmaaGreatDoor



namespace Go.Proofs.YtbmajijnjkicmaaGreatDoor
set_option linter.unusedSimpArgs false
set_option linter.unusedVariables false
open Go.Proofs.YtbmajijnjkicmaaGreatDoor RX
set_option maxRecDepth 100000

set_option maxHeartbeats 2000000 in
theorem advAfter_ok (size chains : Int) : Tri Tryz.prog 3 #[.int .i64 size, .int .i64 chains] HP.tt (fun v => HP.pure (v = .bool true)) := by
  refine tri_of_tree (ρ := [.i size, .i chains]) mixed Tryz.func3 tree_advAfter ?_
  unfold t_advAfter
  simp (maxSteps := 3000000) only [T.den, E.prop, E.den, RX.look, F1.app, F2.app, Uni.int_i, Uni.nat_n, Uni.bool_c, Uni.str_s, Uni.adr_a, Uni.val_v, Uni.hp_p, hden, cden, V.den, W.den, A.den, BR.den, SA.den, FV.den, capV, exs, exP, allP, Cur.app, List.map_cons, List.map_nil, List.cons_append, List.nil_append, List.drop_succ_cons, List.drop_zero, List.length_cons, List.length_nil, Nat.zero_add, Nat.reduceAdd, Int.neg_neg, Bool.not_not, List.append_nil, Nat.add_zero, List.getElem?_cons_zero, List.getElem?_cons_succ, Decidable.not_not, semW_eq, semW_load, ne_eq, Nat.reduceEqDiff, not_false_eq_true, and3, and1]
  obtain ⟨nn, hnn⟩ : ∃ nn : Nat, size % 4 + 1 = nn := ⟨(size % 4 + 1).toNat, by omega⟩
  rw [hnn]
  have hn : 1 ≤ nn ∧ nn ≤ 4 := by omega
  obtain ⟨cc, hcc⟩ : ∃ cc : Nat, min (chains % 2 + 1) (nn : Int) = cc := ⟨(min (chains % 2 + 1) (nn : Int)).toNat, by omega⟩
  rw [hcc]
  have hc : 1 ≤ cc ∧ cc ≤ 2 := by omega
  have hcn : cc ≤ nn := by omega
  obtain ⟨w1, ga, w2, gb, w3, gx, w4, gd, r1, r2, r3, r4, hrest⟩ := aft_run (aft_all hn hc hcn)
  obtain ⟨sa, sb, ea, eb, pab, sx, ex, sd, ed, pda, hse, hal, hac⟩ := hrest
  refine speaks18_ok.weak (fun _ _ _ => trivial) ?_
  rintro v R h ⟨rfl, _⟩
  refine ⟨true, rfl, ⟨fun h => absurd rfl h, fun _ => ?_⟩, trivial⟩
  refine ⟨inI64 _ (by omega) (by omega), fun _ nb => ⟨inI64 _ (by omega) (by omega), fun _ => ?_⟩⟩
  refine (first_ok nn cc).weak (fun _ _ _ => trivial) ?_
  have hf : firstS nn cc = (⟨0, firstC nn cc⟩, 0) := by
    unfold firstS
    rw [if_pos (by omega), Int.toNat_natCast, Int.toNat_natCast]
  rw [hf]
  rintro v R h ⟨a, c, es, ⟨rfl, he, hb⟩, H⟩
  have hpe : (⟨0, es.map (·.l)⟩ : PlP) = ⟨0, firstC nn cc⟩ := by rw [he]
  have hel : es.length ≤ 7 := by
    have := congrArg List.length he
    rw [List.length_map, firstC_len] at this
    omega
  refine ⟨0, a, es.length, c, Ls kCh a es.length es, 0, rfl, fun _ => ?_, H⟩
  clear H
  refine (laid18_ok nn (by omega)).weak (fun _ _ _ => trivial) ?_
  rintro v R h ⟨wb, w0, ⟨rfl, hw0l, hw0e, hw0n, hw0⟩, r, H⟩
  refine ⟨wb, NodR wb w0 r, rfl, fun xb => ⟨fun q => q = false, ⟨fun h => absurd rfl h, fun _ => rfl⟩, ?_⟩, H⟩
  clear H
  rintro _ rfl
  refine ⟨fun h => absurd h (by decide), fun _ => ?_⟩
  rw [← bare0 hw0l hw0e hw0n hw0] at r1
  rw [← hpe] at r1 r2 r4
  have hes : ∀ x ∈ es, x.l.length ≤ 1000000000 := fun x hx => by have := hb x hx; omega
  refine (aftRun_ok 0 a c es hes (by omega) 1 nb nn xb wb r w0 (by omega) hw0l _ _ r1 hn.1 (Ls kCh a es.length es) (fun _ _ h => h)).weak (fun _ _ h => h) ?_
  rintro v R h ⟨b1, u1, ⟨rfl, hb1, hl1⟩, H⟩
  refine ⟨b1, ARep b1 ga, Ls kCh a es.length es, nn, wb, NodR wb u1 r, rfl, ?_, H⟩
  clear H
  rw [← hb1] at r2
  refine (aftRun_ok 0 a c es hes (by omega) 2 nb nn xb wb r u1 (by omega) hl1 _ _ r2 hn.1 (Ls kCh a es.length es) (fun _ _ h => h)).weak (fun _ _ h => h) ?_
  rintro v R h ⟨b2, u2, ⟨rfl, hb2, hl2⟩, H⟩
  refine ⟨b2, ARep b2 gb, Ls kCh a es.length es, nn, wb, NodR wb u2 r, rfl, ?_, H⟩
  clear H
  have small : ∀ {l : List ChE} {g : AdvS}, l.map (·.l) = g.plan.ch → g.plan.ch = ga.plan.ch → l.length ≤ 7 ∧ ∀ x ∈ l, x.l.length ≤ 1000000000 := fun {l g} e1 e2 => by
    rw [e2] at e1
    refine ⟨by rw [← e1, List.length_map] at hal; exact hal, fun x hx => ?_⟩
    have := hac x.l (by rw [← e1]; exact List.mem_map.2 ⟨x, hx, rfl⟩)
    omega
  refine ⟨fun q => q = false, ?_, ?_⟩
  · refine (eState_ok b1 ga).weak (fun _ _ h => h) ?_
    rintro v R h ⟨rfl, H⟩
    refine ⟨ga.st, rfl, ⟨fun h => absurd sa h, fun _ => ?_⟩, H⟩
    clear H
    refine (eState_ok b2 gb).weak (fun _ _ h => h) ?_
    rintro v R h ⟨rfl, H⟩
    refine ⟨gb.st, rfl, ⟨fun h => absurd sb h, fun _ => ?_⟩, H⟩
    clear H
    refine (ePlan_ok b1 ga).weak (fun _ _ h => h) ?_
    rintro v R h ⟨a3, c3, es3, ⟨rfl, he3⟩, H⟩
    refine ⟨ga.plan.ep, a3, es3.length, c3, Ls kCh a3 es3.length es3, rfl, ?_, H⟩
    clear H
    refine (ePlan_ok b2 gb).weak (fun _ _ h => h) ?_
    rintro v R h ⟨a4, c4, es4, ⟨rfl, he4⟩, H⟩
    refine ⟨gb.plan.ep, a4, es4.length, c4, Ls kCh a4 es4.length es4, rfl, ?_, H⟩
    clear H
    obtain ⟨q1, q2⟩ := small he3 rfl
    refine (samePl_ok ga.plan.ep gb.plan.ep a3 c3 es3 a4 c4 es4 (Ls kCh a3 es3.length es3) (Ls kCh a4 es4.length es4) (fun _ _ h => h) (fun _ _ h => h) (by omega) q2).weak (fun _ _ h => h) ?_
    rintro v R h ⟨rfl, H⟩
    refine ⟨_, rfl, ⟨fun h => absurd ?_ h, fun _ => ?_⟩, H⟩
    · exact decide_eq_true (by rw [he3, he4, ea, eb, pab])
    clear H
    refine (ePlan_ok b1 ga).weak (fun _ _ h => h) ?_
    rintro v R h ⟨a5, c5, es5, ⟨rfl, he5⟩, H⟩
    refine ⟨ga.plan.ep, a5, es5.length, c5, Ls kCh a5 es5.length es5, rfl, ?_, H⟩
    rw [ea]; rfl
  rintro _ rfl
  refine ⟨fun h => absurd h (by decide), fun _ => ?_⟩
  refine (ePlan_ok b1 ga).weak (fun _ _ h => h) ?_
  rintro v R h ⟨a3, c3, es3, ⟨rfl, he3⟩, H⟩
  refine ⟨ga.plan.ep, a3, es3.length, c3, Ls kCh a3 es3.length es3, rfl, ?_, H⟩
  clear H
  obtain ⟨q1, q2⟩ := small he3 rfl
  rw [← hb2, show ga.plan = ⟨ga.plan.ep, es3.map (·.l)⟩ by rw [he3]] at r3
  refine (aftRun_ok ga.plan.ep a3 c3 es3 q2 (by omega) 3 nb nn xb wb r u2 (by omega) hl2 _ _ r3 hn.1 (Ls kCh a3 es3.length es3) (fun _ _ h => h)).weak (fun _ _ h => h) ?_
  rintro v R h ⟨b3, u3, ⟨rfl, hb3, hl3⟩, H⟩
  refine ⟨b3, ARep b3 gx, Ls kCh a3 es3.length es3, nn, wb, NodR wb u3 r, rfl, ?_, H⟩
  clear H
  rw [← hb3] at r4
  refine (aftRun_ok 0 a c es hes (by omega) 4 nb nn xb wb r u3 (by omega) hl3 _ _ r4 hn.1 (Ls kCh a es.length es) (fun _ _ h => h)).weak (fun _ _ h => h) ?_
  rintro v R h ⟨b4, u4, ⟨rfl, hb4, hl4⟩, H⟩
  refine ⟨b4, ARep b4 gd, Ls kCh a es.length es, nn, wb, NodR wb u4 r, rfl, ?_, H⟩
  clear H
  refine ⟨fun q => q = true, ?_, fun q hq => .of fun R h H => by rw [hq]; rfl⟩
  refine (eState_ok b3 gx).weak (fun _ _ h => h) ?_
  rintro v R h ⟨rfl, H⟩
  refine ⟨gx.st, rfl, ⟨fun _ => ?_, fun h => absurd sx h⟩, H⟩
  clear H
  refine (ePlan_ok b3 gx).weak (fun _ _ h => h) ?_
  rintro v R h ⟨a5, c5, es5, ⟨rfl, _⟩, H⟩
  refine ⟨gx.plan.ep, a5, es5.length, c5, Ls kCh a5 es5.length es5, rfl, ⟨fun _ => ?_, fun h => absurd ex h⟩, H⟩
  clear H
  refine (eState_ok b4 gd).weak (fun _ _ h => h) ?_
  rintro v R h ⟨rfl, H⟩
  refine ⟨gd.st, rfl, ⟨fun _ => ?_, fun h => absurd sd h⟩, H⟩
  clear H
  refine (ePlan_ok b4 gd).weak (fun _ _ h => h) ?_
  rintro v R h ⟨a6, c6, es6, ⟨rfl, he6⟩, H⟩
  refine ⟨gd.plan.ep, a6, es6.length, c6, Ls kCh a6 es6.length es6, rfl, ?_, H⟩
  clear H
  refine (ePlan_ok b1 ga).weak (fun _ _ h => h) ?_
  rintro v R h ⟨a7, c7, es7, ⟨rfl, he7⟩, H⟩
  refine ⟨ga.plan.ep, a7, es7.length, c7, Ls kCh a7 es7.length es7, rfl, ?_, H⟩
  clear H
  obtain ⟨p1, p2⟩ := small he6 pda
  refine (samePl_ok gd.plan.ep ga.plan.ep a6 c6 es6 a7 c7 es7 (Ls kCh a6 es6.length es6) (Ls kCh a7 es7.length es7) (fun _ _ h => h) (fun _ _ h => h) (by omega) p2).weak (fun _ _ h => h) ?_
  rintro v R h ⟨rfl, H⟩
  refine ⟨_, rfl, ⟨fun _ => ?_, fun h => absurd ?_ h⟩, H⟩
  · clear H
    refine ⟨.pointer (some ⟨r.sq, 0, none⟩), ndLdS, ?_⟩
    refine nd_seqE.weak (fun _ _ h => h) ?_
    rintro v R h ⟨rfl, H⟩
    refine ⟨u4.e, rfl, decide_eq_true ?_, H⟩
    rw [← hb4] at hse
    exact hse
  · exact decide_eq_true (by rw [he6, he7, ea, ed, pda])
end Go.Proofs.YtbmajijnjkicmaaGreatDoor



namespace Go.Proofs.YtbmajijnjkicmaaGreatDoor
open Go.Proofs.YtbmajijnjkicmaaGreatDoor RX
open Go.ChangeShapes Go.WideShapes Go.ChangeAt Go.RowKit
set_option maxRecDepth 100000

theorem fours_name : Tryz.prog.globalNamed "tideline/check.fours" = some 0 := by kernel_rfl
theorem fours_type : (Tryz.prog.globals[(0 : Nat)]?).map (·.type) = some 201 := by kernel_rfl
theorem cells32 : Tryz.prog.cellsOf 188 = 1 := by kernel_rfl
theorem gr_of {w : World} {r : List (String × DataW Unit)} {ps : List MemPlace} (h : DataW.LaidVars Tryz.prog w (("tideline/check.fours", Rows.laid_tideline_check_fours) :: r) ps) : GR (allOf w) := by
  obtain ⟨g, t, cs, fuel, p, q, hg, ht, hv, htr, _, _⟩ := h
  rw [fours_name] at hg
  cases hg
  rw [fours_type] at ht
  cases ht
  unfold World.var? at hv
  rw [fours_name] at hv
  simp only [Option.bind_some] at hv
  obtain ⟨ty, fr, hh⟩ : ∃ ty fr, w.heap[(0 : Nat)]? = some (.cells cs ty fr) := by
    split at hv
    · rename_i c ty fr e; cases hv; exact ⟨ty, fr, e⟩
    · cases hv
  refine ⟨cs, ty, fr, hh, fun i v hi => ?_⟩
  obtain ⟨xs, m, _, hx, hl, hn, hel⟩ := DataW.trod_array undF htr
  have hi16 : i < 16 := (List.getElem?_eq_some_iff.1 hi).1
  have hd : xs.map (·.1) = fours.map fun n : Nat => DataW.lit (.int .u32 ((n : Nat) : Int)) := by
    have := congrArg Prod.fst hx
    unfold Rows.laid_tideline_check_fours at this
    injection this with this
    exact this.symm
  have h1 := hel i hi16
  rw [cells32, Nat.mul_one] at h1
  have h3 : (xs.map (·.1))[i]? = some (DataW.lit (.int .u32 (v : Int))) := by rw [hd, List.getElem?_map, hi]; rfl
  rw [List.getElem?_map] at h3
  obtain ⟨y, hy, hy2⟩ := Option.map_eq_some_iff.1 h3
  rw [hy] at h1
  obtain ⟨z, hz, hz2, _⟩ := DataW.trod_int und32 h1
  rw [hz2] at hy2
  have e : z = (v : Int) := by
    injection hy2 with e
    injection e
  subst e
  have h5 : (List.take 1 (cs.toList.drop i))[0]? = some (Value.int .u32 (v : Int)) := by rw [hz]; rfl
  rw [List.getElem?_take, if_pos (by decide), List.getElem?_drop, Nat.add_zero] at h5
  simpa using h5
end Go.Proofs.YtbmajijnjkicmaaGreatDoor



namespace Go.Proofs.YtbmajijnjkicmaaGreatDoor
open Go.RowKit Go.ChangeShapes Go.WideShapes Go.Deep RX

set_option maxRecDepth 100000 in
theorem advanceAfter_walk {H : Type} (enc : TypeId × Value → H) (base : Nat) (v0 v1 : Value) (w : World)
    (k0 : Value.okWide Tryz.prog w .any base 3 v0) (h0 : ∃ d p, DataW.Trod enc Tryz.prog w 0 (fun _ => true) true 3 v0 d p ∧ Small Tryz.prog 3 d)
    (k1 : Value.okWide Tryz.prog w .any base 3 v1) (h1 : ∃ d p, DataW.Trod enc Tryz.prog w 0 (fun _ => true) true 3 v1 d p ∧ Small Tryz.prog 3 d) (hG : GR (allOf w)) :
    Calls Tryz.prog 3 #[v0, v1] w fun e w' => e = .returned (.bool true) ∧ Below w.heap.size w w' := by
  obtain ⟨n0, rfl, r0⟩ := int_openR k0 h0
  obtain ⟨n1, rfl, r1⟩ := int_openR k1 h1
  exact Tri.run (advAfter_ok n0 n1) trivial hG
end Go.Proofs.YtbmajijnjkicmaaGreatDoor



namespace Go.Proofs.YtbmajijnjkicmaaGreatDoor.advanceAfter
open Go.ChangeShapes Go.WideShapes Go.ChangeAt Go.RowKit
set_option linter.unusedVariables false

theorem own : ownKnob Tryz.prog.godebug = none := by kernel_rfl
theorem laidOut : laidOutB Tryz.prog = true := by kernel_rfl

def laidL : List (String × DataW Unit) := [("tideline/check.fours", Rows.laid_tideline_check_fours)]
set_option maxRecDepth 100000 in
theorem plainL (w : World) : laidMetH Tryz.prog laidL w = laidMet Tryz.prog laidL w := MakeChecks.laidMetH_plain _ _ _ (by kernel_rfl)
set_option maxRecDepth 100000 in
theorem door_met (os : Os) (args : Array Value) : laidMetH Tryz.prog laidL ((World.laidAll Tryz.prog os laidL).forCall (fun _ _ => 0) ⟨#[], args, []⟩).memory := by
  rw [plainL]
  exact laidMet_laidAll _ (by kernel_rfl) (by kernel_rfl)
end Go.Proofs.YtbmajijnjkicmaaGreatDoor.advanceAfter




namespace Go.Proofs.YtbmajijnjkicmaaGreatDoor.advanceAfter
open Go.ChangeShapes Go.WideShapes Go.ChangeAt Go.RowKit
set_option linter.unusedVariables false

set_option maxRecDepth 100000 in
theorem lifted (os : Os) (started : os.Started) (H : Type) (enc : TypeId × Value → H) :
    ReturnsInHanded {} Tryz.checked os 3 .any (fun w args => (Rows.advanceAfterSpec.pre enc Tryz.prog Tryz.f3 [] false w args ∧ laidMetH Tryz.prog laidL w) ∧ sizedMet enc Tryz.prog Tryz.f3 (OpenSpec.ofChange Rows.advanceAfterSpec) false w args) (Rows.advanceAfterSpec.post enc Tryz.prog Tryz.f3 false true false false) := by
  refine returnsInHanded_of_change_and (C := Tryz.checked) (X := fun w _ => laidMetH Tryz.prog laidL w) (fun _ _ _ hh h => h.of_heap hh) own started (by kernel_rfl) Tryz.func3
    (ChangeSpec.witness_shaped (enc := enc) (C := Tryz.checked) (os := os) (X := fun w _ => laidMetH Tryz.prog laidL w) false (World.laidAll Tryz.prog os laidL) #[.int .i64 0, .int .i64 0] 8 (World.laidAll_os _ _ _) (World.shaped_of_ZipB (by kernel_rfl) (by kernel_rfl)) (by kernel_rfl) (by kernel_rfl) (by kernel_rfl) (door_met os _)) ?_
  intro W base args ds gs before hval0 hW hcnd hsz0 hX _
  have hG : GR (allOf W) := by rw [plainL] at hX; obtain ⟨_, hv, _⟩ := hX; exact gr_of hv
  have hval : ∀ (j : Nat) t v, Tryz.f3.params[j]? = some t → args[j]? = some v → Value.okWide Tryz.prog W .any base t v := hval0
  have hW' := hW
  obtain ⟨p, q, hA0, hV, rfl, hfz, hnd⟩ := hW
  have hA : DataW.TrodAll enc Tryz.prog W 0 (fun _ => true) true Tryz.f3.params.toList args.toList ds p := hA0
  have hsz : (DataW.weightsEach Tryz.prog (Tryz.f3.params.toList ++ Rows.advanceAfterSpec.plain.varTypes Tryz.prog) (ds ++ gs)).all (· ≤ reachBytes) = true := hsz0
  clear hsz0
  rw [Tryz.params3] at hA hval hsz
  obtain ⟨v0, vs0, d0, ds0, p0, q0, hargs, rfl, rfl, h0, r0⟩ := trodAll_cons hA
  obtain ⟨v1, vs1, d1, ds1, p1, q1, rfl, rfl, rfl, h1, r1⟩ := trodAll_cons r0
  obtain ⟨rfl, rfl, rfl⟩ := trodAll_nil r1
  obtain rfl : args = #[v0, v1] := by cases args; simp_all
  obtain ⟨rfl, rfl⟩ := trodVars_none hV
  have lt0 : ∀ x ∈ p0, x.block < W.heap.size := by obtain ⟨m, hm⟩ := h0; exact DataW.trod_lt m _ _ _ hm
  have lt1 : ∀ x ∈ p1, x.block < W.heap.size := by obtain ⟨m, hm⟩ := h1; exact DataW.trod_lt m _ _ _ hm
  refine (advanceAfter_walk enc base v0 v1 W (hval 0 3 v0 rfl rfl) ⟨_, _, h0, Small.arg hsz (j := 0) rfl rfl⟩ (hval 1 3 v1 rfl rfl) ⟨_, _, h1, Small.arg hsz (j := 1) rfl rfl⟩ hG).mono fun e W' ⟨he, bel⟩ => ?_
  subst he
  exact ⟨_, rfl, _, _, _, [], _, [], hW', trodAll_mk1 (shut_bool Tryz.underlying4 _), (trodAll_cons_mk (Below.trod laidOut (by kernel_rfl) (of_decide_eq_true (by kernel_rfl)) h0 bel lt0) (trodAll_cons_mk (Below.trod laidOut (by kernel_rfl) (of_decide_eq_true (by kernel_rfl)) h1 bel lt1) trodAll_mk0)), rfl, bel.frame _, fun h => by cases h⟩

end Go.Proofs.YtbmajijnjkicmaaGreatDoor.advanceAfter




namespace Go.Proofs.YtbmajijnjkicmaaGreatDoor.advanceAfter
open Go.ChangeShapes Go.WideShapes Go.ChangeAt Go.RowKit
set_option linter.unusedVariables false

theorem and2 {a b : Bool} (h1 : a = true) (h2 : b = true) : (a && b) = true := by rw [h1, h2]; rfl
theorem c0 : (fun (P : Program) (f : FuncId) (fn : Func) (s : ChangeSpec) (c : OpenClaim) => (c.wf (OpenSpec.ofChange s) : Bool)) Tryz.pinned.checked.prog 3 Tryz.f3 Rows.advanceAfterSpec Rows.advanceAfterRow = true := by kernel_rfl
theorem c1 : (fun (P : Program) (f : FuncId) (fn : Func) (s : ChangeSpec) (c : OpenClaim) => (laidOutB P : Bool)) Tryz.pinned.checked.prog 3 Tryz.f3 Rows.advanceAfterSpec Rows.advanceAfterRow = true := by kernel_rfl
theorem c2 : (fun (P : Program) (f : FuncId) (fn : Func) (s : ChangeSpec) (c : OpenClaim) => (mapsRowed P : Bool)) Tryz.pinned.checked.prog 3 Tryz.f3 Rows.advanceAfterSpec Rows.advanceAfterRow = true := by kernel_rfl
theorem c3 : (fun (P : Program) (f : FuncId) (fn : Func) (s : ChangeSpec) (c : OpenClaim) => (fn.params.all (P.readableRec ·) : Bool)) Tryz.pinned.checked.prog 3 Tryz.f3 Rows.advanceAfterSpec Rows.advanceAfterRow = true := by kernel_rfl
theorem c4 : (fun (P : Program) (f : FuncId) (fn : Func) (s : ChangeSpec) (c : OpenClaim) => (namedTie P c.named s.vars : Bool)) Tryz.pinned.checked.prog 3 Tryz.f3 Rows.advanceAfterSpec Rows.advanceAfterRow = true := by kernel_rfl
theorem c5 : (fun (P : Program) (f : FuncId) (fn : Func) (s : ChangeSpec) (c : OpenClaim) => ((c.stops == []) : Bool)) Tryz.pinned.checked.prog 3 Tryz.f3 Rows.advanceAfterSpec Rows.advanceAfterRow = true := by kernel_rfl
theorem c6 : (fun (P : Program) (f : FuncId) (fn : Func) (s : ChangeSpec) (c : OpenClaim) => ((P.stops == []) : Bool)) Tryz.pinned.checked.prog 3 Tryz.f3 Rows.advanceAfterSpec Rows.advanceAfterRow = true := by kernel_rfl
theorem c7 : (fun (P : Program) (f : FuncId) (fn : Func) (s : ChangeSpec) (c : OpenClaim) => ((c.knobs == []) : Bool)) Tryz.pinned.checked.prog 3 Tryz.f3 Rows.advanceAfterSpec Rows.advanceAfterRow = true := by kernel_rfl
theorem c8 : (fun (P : Program) (f : FuncId) (fn : Func) (s : ChangeSpec) (c : OpenClaim) => ((P.stopKnobs == []) : Bool)) Tryz.pinned.checked.prog 3 Tryz.f3 Rows.advanceAfterSpec Rows.advanceAfterRow = true := by kernel_rfl
theorem c9 : (fun (P : Program) (f : FuncId) (fn : Func) (s : ChangeSpec) (c : OpenClaim) => ((c.inPlace == P.inPlace f) : Bool)) Tryz.pinned.checked.prog 3 Tryz.f3 Rows.advanceAfterSpec Rows.advanceAfterRow = true := by kernel_rfl
theorem c10 : (fun (P : Program) (f : FuncId) (fn : Func) (s : ChangeSpec) (c : OpenClaim) => ((c.unfollowed == P.unfollowed f) : Bool)) Tryz.pinned.checked.prog 3 Tryz.f3 Rows.advanceAfterSpec Rows.advanceAfterRow = true := by kernel_rfl
theorem c11 : (fun (P : Program) (f : FuncId) (fn : Func) (s : ChangeSpec) (c : OpenClaim) => ((c.recurses == P.recurses f) : Bool)) Tryz.pinned.checked.prog 3 Tryz.f3 Rows.advanceAfterSpec Rows.advanceAfterRow = true := by kernel_rfl
theorem c12 : (fun (P : Program) (f : FuncId) (fn : Func) (s : ChangeSpec) (c : OpenClaim) => ((c.named == P.varsNamed f) : Bool)) Tryz.pinned.checked.prog 3 Tryz.f3 Rows.advanceAfterSpec Rows.advanceAfterRow = true := by kernel_rfl
theorem c13 : (fun (P : Program) (f : FuncId) (fn : Func) (s : ChangeSpec) (c : OpenClaim) => ((c.maps == (fn.params.toList ++ s.plain.varTypes P).any (P.mapsRec ·)) : Bool)) Tryz.pinned.checked.prog 3 Tryz.f3 Rows.advanceAfterSpec Rows.advanceAfterRow = true := by kernel_rfl
theorem c14 : (fun (P : Program) (f : FuncId) (fn : Func) (s : ChangeSpec) (c : OpenClaim) => ((c.ifaces == (fn.params.toList ++ s.plain.varTypes P).any (P.ifacesRec ·)) : Bool)) Tryz.pinned.checked.prog 3 Tryz.f3 Rows.advanceAfterSpec Rows.advanceAfterRow = true := by kernel_rfl
theorem c15 : (fun (P : Program) (f : FuncId) (fn : Func) (s : ChangeSpec) (c : OpenClaim) => ((c.mapsOut == P.mapsAmong fn.resultTypes.toList) : Bool)) Tryz.pinned.checked.prog 3 Tryz.f3 Rows.advanceAfterSpec Rows.advanceAfterRow = true := by kernel_rfl
theorem c16 : (fun (P : Program) (f : FuncId) (fn : Func) (s : ChangeSpec) (c : OpenClaim) => ((c.loops == (fn.params.toList ++ s.plain.varTypes P).any (P.loopsFrom ·)) : Bool)) Tryz.pinned.checked.prog 3 Tryz.f3 Rows.advanceAfterSpec Rows.advanceAfterRow = true := by kernel_rfl
theorem c17 : (fun (P : Program) (f : FuncId) (fn : Func) (s : ChangeSpec) (c : OpenClaim) => ((c.wideKeys == (fn.params.toList ++ s.plain.varTypes P ++ fn.resultTypes.toList).any (P.wideKeysFrom ·)) : Bool)) Tryz.pinned.checked.prog 3 Tryz.f3 Rows.advanceAfterSpec Rows.advanceAfterRow = true := by kernel_rfl
theorem c18 : (fun (P : Program) (f : FuncId) (fn : Func) (s : ChangeSpec) (c : OpenClaim) => (s.vars.all (P.varReadable ·) : Bool)) Tryz.pinned.checked.prog 3 Tryz.f3 Rows.advanceAfterSpec Rows.advanceAfterRow = true := by kernel_rfl
theorem c19 : (fun (P : Program) (f : FuncId) (fn : Func) (s : ChangeSpec) (c : OpenClaim) => (fn.resultTypes.all (fun t => P.readableRec t && decide (t < P.types.size)) : Bool)) Tryz.pinned.checked.prog 3 Tryz.f3 Rows.advanceAfterSpec Rows.advanceAfterRow = true := by kernel_rfl
theorem c20 : (fun (P : Program) (f : FuncId) (fn : Func) (s : ChangeSpec) (c : OpenClaim) => ((c.ifacesOut == fn.resultTypes.toList.any (P.ifacesRec ·)) : Bool)) Tryz.pinned.checked.prog 3 Tryz.f3 Rows.advanceAfterSpec Rows.advanceAfterRow = true := by kernel_rfl
theorem c21 : (fun (P : Program) (f : FuncId) (fn : Func) (s : ChangeSpec) (c : OpenClaim) => ((c.loopsOut == fn.resultTypes.toList.any (P.loopsFrom ·)) : Bool)) Tryz.pinned.checked.prog 3 Tryz.f3 Rows.advanceAfterSpec Rows.advanceAfterRow = true := by kernel_rfl
theorem c22 : (fun (P : Program) (f : FuncId) (fn : Func) (s : ChangeSpec) (c : OpenClaim) => ((c.plainKeys == P.plainKeys) : Bool)) Tryz.pinned.checked.prog 3 Tryz.f3 Rows.advanceAfterSpec Rows.advanceAfterRow = true := by kernel_rfl
theorem c23 : (fun (P : Program) (f : FuncId) (fn : Func) (s : ChangeSpec) (c : OpenClaim) => (c.shortTexts.isNone : Bool)) Tryz.pinned.checked.prog 3 Tryz.f3 Rows.advanceAfterSpec Rows.advanceAfterRow = true := by kernel_rfl
theorem c24 : (fun (P : Program) (f : FuncId) (fn : Func) (s : ChangeSpec) (c : OpenClaim) => (P.stopsHeard : Bool)) Tryz.pinned.checked.prog 3 Tryz.f3 Rows.advanceAfterSpec Rows.advanceAfterRow = true := by kernel_rfl
theorem c25 : (fun (P : Program) (f : FuncId) (fn : Func) (s : ChangeSpec) (c : OpenClaim) => (P.mayEnter : Bool)) Tryz.pinned.checked.prog 3 Tryz.f3 Rows.advanceAfterSpec Rows.advanceAfterRow = true := by kernel_rfl
theorem c26 : (fun (P : Program) (f : FuncId) (fn : Func) (s : ChangeSpec) (c : OpenClaim) => ((c.lifted == P.liftsFinal) : Bool)) Tryz.pinned.checked.prog 3 Tryz.f3 Rows.advanceAfterSpec Rows.advanceAfterRow = true := by kernel_rfl
theorem c27 : (fun (P : Program) (f : FuncId) (fn : Func) (s : ChangeSpec) (c : OpenClaim) => ((P.make == some c.make) : Bool)) Tryz.pinned.checked.prog 3 Tryz.f3 Rows.advanceAfterSpec Rows.advanceAfterRow = true := by kernel_rfl
theorem c28 : (fun (P : Program) (f : FuncId) (fn : Func) (s : ChangeSpec) (c : OpenClaim) => ((c.kinds == (if c.domain.isEmpty then [] else fn.params.toList.map fun t => match P.underlying t with | some (.int k) => some k | _ => none)) : Bool)) Tryz.pinned.checked.prog 3 Tryz.f3 Rows.advanceAfterSpec Rows.advanceAfterRow = true := by kernel_rfl
theorem c29 : (fun (P : Program) (f : FuncId) (fn : Func) (s : ChangeSpec) (c : OpenClaim) => ((c.pinned == c.pinnedBy) : Bool)) Tryz.pinned.checked.prog 3 Tryz.f3 Rows.advanceAfterSpec Rows.advanceAfterRow = true := by kernel_rfl
theorem c30 : (fun (P : Program) (f : FuncId) (fn : Func) (s : ChangeSpec) (c : OpenClaim) => ((c.veiled == (fn.params.toList ++ s.plain.varTypes P ++ fn.resultTypes.toList).any (P.veiledRec ·)) : Bool)) Tryz.pinned.checked.prog 3 Tryz.f3 Rows.advanceAfterSpec Rows.advanceAfterRow = true := by kernel_rfl
theorem c31 : (fun (P : Program) (f : FuncId) (fn : Func) (s : ChangeSpec) (c : OpenClaim) => (c.veiledFits P fn.params.toList (fn.params.toList ++ s.plain.varTypes P ++ fn.resultTypes.toList) : Bool)) Tryz.pinned.checked.prog 3 Tryz.f3 Rows.advanceAfterSpec Rows.advanceAfterRow = true := by kernel_rfl
theorem inst : Tryz.f3.isInstance Tryz.pinned.checked.prog Rows.advanceAfterRow.origin Rows.advanceAfterRow.targs := (of_decide_eq_true (by kernel_rfl))
theorem wrap : Tryz.f3.isWrapper Tryz.pinned.checked.prog Rows.advanceAfterRow.wrapper Rows.advanceAfterRow.mainSum := by unfold Func.isWrapper; first | (rw [if_pos (by decide +kernel)]; kernel_rfl) | (rw [if_neg (by decide +kernel)]; exact ⟨rfl, rfl⟩)
theorem nmd : Tryz.pinned.checked.prog.funcNamed Rows.advanceAfterRow.func = some 3 := by kernel_rfl
end Go.Proofs.YtbmajijnjkicmaaGreatDoor.advanceAfter




namespace Go.Proofs.YtbmajijnjkicmaaGreatDoor.advanceAfter
open Go.ChangeShapes Go.WideShapes Go.ChangeAt Go.RowKit
set_option linter.unusedVariables false

set_option maxRecDepth 100000 in
theorem closed : joinedFacts Tryz.pinned.checked.prog 3 Tryz.f3 Rows.advanceAfterSpec Rows.advanceAfterRow = true := (and2 (and2 (and2 (and2 (and2 (and2 (and2 (and2 (and2 (and2 (and2 (and2 (and2 (and2 (and2 (and2 (and2 (and2 (and2 (and2 (and2 (and2 (and2 (and2 (and2 (and2 (and2 (and2 (and2 (and2 (and2 c0 c1) c2) c3) c4) c5) c6) c7) c8) c9) c10) c11) c12) c13) c14) c15) c16) c17) c18) c19) c20) c21) c22) c23) c24) c25) c26) c27) c28) c29) c30) c31)
theorem over : Rows.advanceAfterRow.holds Tryz.pinned (OpenSpec.ofChange Rows.advanceAfterSpec) :=
  OpenClaim.holds_of_wide 3 Tryz.f3 rfl rfl rfl rfl rfl rfl rfl ⟨rfl, rfl, rfl, rfl, rfl⟩ rfl rfl rfl rfl rfl nmd Tryz.func3 closed inst wrap (fun os started H enc _ => lifted os started H enc)
end Go.Proofs.YtbmajijnjkicmaaGreatDoor.advanceAfter


