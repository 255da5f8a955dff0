/- Slices as assertions: owned (OwC), read alone (RoC); append, loads. No condition. -/
import Derived.Test.YtmibmjehjagmbaaSndL
import Derived.Maps.AppendAt
import Derived.Laws.AppendOwnNone
import Derived.KernelRfl
namespace Go.Proofs.Ytmibmjehjagmbaa
open Go.Proofs.Ytmibmjehjagmbaa RX

theorem mixed : Try.prog.follows .mixedOrders = true := by kernel_rfl

/-- A slice of its own: nil, or at the head of a block. -/
def OwC (e : TypeId) (size : Nat) (a : Option Addr) (n c : Nat) (xs : List Value) : HP :=
  ⟨fun _ h => xs.length = n * size ∧ ((a = none ∧ n = 0 ∧ c = 0) ∨ ∃ g cur, a = some ⟨g, 0, none⟩ ∧ h g = some (.cells cur e (0, 0)) ∧ n ≤ c ∧ c ≤ maxLen ∧ cur.size = c * size ∧ cur.toList.take (n * size) = xs),
   fun _ l ⟨h1, h2⟩ => ⟨h1, h2.imp id fun ⟨g, cur, h3, h4, h5⟩ => ⟨g, cur, h3, l _ _ h4, h5⟩⟩⟩
/-- A slice that never turns. -/
def RoC (size : Nat) (a : Option Addr) (n : Nat) (xs : List Value) : HP :=
  ⟨fun R _ => xs.length = n * size ∧ (n ≠ 0 → ∃ g off cur ty fr, a = some ⟨g, off, none⟩ ∧ R g = some (.cells cur ty fr) ∧ (cur.toList.drop off).take xs.length = xs),
   fun l _ ⟨h1, h2⟩ => ⟨h1, fun hn => let ⟨g, off, cur, ty, fr, h3, h4, h5⟩ := h2 hn; ⟨g, off, cur, ty, fr, h3, l _ _ h4, h5⟩⟩⟩
/-- What is read through an assertion. -/
def Rd (S : HP) (a : Option Addr) (xs : List Value) : Prop := ∀ w R h F, Sat w R h F → S.p R h → ∀ (j : Nat) (u : Value), xs[j]? = some u → ∃ g off, a = some ⟨g, off, none⟩ ∧ w.cell? ⟨g, off + j, none⟩ = some u

theorem cell_at {w : World} {g : Nat} {cur : Array Value} {ty : TypeId} {fr : Nat × Nat} (h : w.heap[g]? = some (.cells cur ty fr)) (k : Nat) : w.cell? ⟨g, k, none⟩ = cur[k]? := by
  unfold World.cell?; rw [h]; rfl
theorem OwC.rd (e : TypeId) (size : Nat) (a : Option Addr) (n c : Nat) (xs : List Value) : Rd (OwC e size a n c xs) a xs := by
  rintro w R h F s ⟨hl, hh⟩ j u hj
  rcases hh with ⟨_, rfl, _⟩ | ⟨g, cur, rfl, hg, h1, h2, h3, rfl⟩
  · rw [List.getElem?_eq_none (by rw [hl]; omega)] at hj; cases hj
  · refine ⟨g, 0, rfl, ?_⟩
    rw [cell_at (s.oh _ _ hg)]
    rw [List.getElem?_take] at hj
    split at hj
    · simpa using hj
    · cases hj
theorem RoC.rd (size : Nat) (a : Option Addr) (n : Nat) (xs : List Value) : Rd (RoC size a n xs) a xs := by
  rintro w R h F s ⟨hl, hh⟩ j u hj
  have hn : n ≠ 0 := fun e => by subst e; rw [List.getElem?_eq_none (by rw [hl]; omega)] at hj; cases hj
  obtain ⟨g, off, cur, ty, fr, rfl, hR, hc⟩ := hh hn
  refine ⟨g, off, rfl, ?_⟩
  rw [cell_at (s.oR _ _ hR)]
  rw [← hc, List.getElem?_take] at hj
  split at hj
  · rw [List.getElem?_drop] at hj; simpa using hj
  · cases hj
theorem one_rd (g : Nat) (cs : Array Value) (ty : TypeId) : Rd (HP.one g (.cells cs ty (0, 0))) (some ⟨g, 0, none⟩) cs.toList := fun w R h F s hg j u hj => by
  refine ⟨g, 0, rfl, ?_⟩
  rw [cell_at (s.oh _ _ hg)]
  simpa using hj
theorem Rd.left {A B : HP} {a : Option Addr} {xs : List Value} (r : Rd A a xs) : Rd (HP.sep A B) a xs := fun w R h F s ⟨h1, h2, d, l1, l2, p, _⟩ => r w R h1 _ (s.cut d l1 l2) p
theorem Rd.right {A B : HP} {a : Option Addr} {xs : List Value} (r : Rd B a xs) : Rd (HP.sep A B) a xs := fun w R h F s ⟨h1, h2, d, l1, l2, _, p⟩ => r w R h2 _ (s.cut d.symm l2 l1) p
theorem OwC.share (e : TypeId) (size : Nat) (a : Option Addr) (n c : Nat) (xs : List Value) : HP.ent (OwC e size a n c xs) (RoC size a n xs) := by
  rintro R h d ⟨hl, hh⟩
  rcases hh with ⟨rfl, rfl, _⟩ | ⟨g, cur, rfl, hg, h1, h2, h3, rfl⟩
  · exact ⟨R, h, PH.le.refl _, d, PH.le.refl _, fun _ _ e => .inl e, hl, fun hn => absurd rfl hn⟩
  · obtain ⟨R', h', q1, q2, q3, q4, q5⟩ := HP.ent.share g (.cells cur e (0, 0)) R h d hg
    exact ⟨R', h', q1, q2, q3, q4, hl, fun _ => ⟨g, 0, cur, e, (0, 0), rfl, q5, by rw [List.drop_zero, hl]⟩⟩
theorem OwC.nil (e : TypeId) (size : Nat) : ∀ R h, (OwC e size none 0 0 []).p R h := fun _ _ => ⟨by simp, .inl ⟨rfl, rfl, rfl⟩⟩
theorem RoC.nil (size : Nat) (a : Option Addr) : ∀ R h, (RoC size a 0 []).p R h := fun _ _ => ⟨by simp, fun h => absurd rfl h⟩
theorem RoC.len {size : Nat} {a : Option Addr} {n : Nat} {xs : List Value} {R h : PH} (H : (RoC size a n xs).p R h) : xs.length = n * size := H.1
theorem OwC.len {e : TypeId} {size : Nat} {a : Option Addr} {n c : Nat} {xs : List Value} {R h : PH} (H : (OwC e size a n c xs).p R h) : xs.length = n * size := H.1
theorem OwC.le {e : TypeId} {size : Nat} {a : Option Addr} {n c : Nat} {xs : List Value} {R h : PH} (H : (OwC e size a n c xs).p R h) : n ≤ c := by
  rcases H.2 with ⟨_, e1, e2⟩ | ⟨g, cur, _, _, h1, _⟩
  · omega
  · exact h1
theorem RoC.some {size : Nat} {a : Option Addr} {n : Nat} {xs : List Value} {R h : PH} (H : (RoC size a n xs).p R h) (hn : 0 < n) : a.isSome = true := by
  obtain ⟨g, off, _, _, _, rfl, _⟩ := H.2 (by omega); rfl
theorem OwC.some {e : TypeId} {size : Nat} {a : Option Addr} {n c : Nat} {xs : List Value} {R h : PH} (H : (OwC e size a n c xs).p R h) (hn : 0 < n) : a.isSome = true := by
  rcases H.2 with ⟨_, e1, _⟩ | ⟨g, _, rfl, _⟩
  · omega
  · rfl

/-- Memory has grown, and one block of what was owned may have turned. -/
theorem Sat.grown {w w' : World} {R h F : PH} (s : Sat w R h F) {row : Option Nat} (hrow : ∀ g, row = some g → h g ≠ none) (hg : w.grownBy w' row) {g' : Nat} {o : Obj} (ho : w'.heap[g']? = some o) (hn : row = some g' ∨ w.heap.size ≤ g') :
    Sat w' R (PH.one g' o) F := by
  have hR : R g' = none := by
    rcases hn with e | e
    · exact (s.dRh g').resolve_right (hrow g' e)
    · cases hq : R g' with
      | none => rfl
      | some y => have := s.oR.lt hq; omega
  have hF : F g' = none := by
    rcases hn with e | e
    · exact (s.dhF g').resolve_left (hrow g' e)
    · cases hq : F g' with
      | none => rfl
      | some y => have := s.oF.lt hq; omega
  have kept : ∀ g : PH, g.own w → (∀ k, row = some k → g k = none) → g.own w' := fun g og gd k y e => by
    rw [hg.block k (og.lt e) (fun e' => by rw [gd k e'.symm] at e; cases e)]; exact og k y e
  refine ⟨fun k => ?_, s.dRF, fun k => ?_, kept R s.oR fun k e => (s.dRh k).resolve_right (hrow k e), fun k y e => ?_, kept F s.oF fun k e => (s.dhF k).resolve_left (hrow k e)⟩
  · by_cases e : k = g'
    · subst e; exact .inl hR
    · exact .inr (if_neg e)
  · by_cases e : k = g'
    · subst e; exact .inr hF
    · exact .inl (if_neg e)
  · obtain ⟨rfl, rfl⟩ := PH.one_some e; exact ho
/-- What never turns is had beside anything. -/
theorem RoC.join {size : Nat} {a : Option Addr} {n : Nat} {xs : List Value} {B : HP} {R h h' : PH} (H : (RoC size a n xs).p R h) (K : B.p R h') : (HP.sep (RoC size a n xs) B).p R h' := ⟨PH.none', h', PH.none_dj _, PH.none_le _, PH.le.refl _, H, K⟩
theorem RoC.joinR {size : Nat} {a : Option Addr} {n : Nat} {xs : List Value} {B : HP} {R h h' : PH} (H : (RoC size a n xs).p R h) (K : B.p R h') : (HP.sep B (RoC size a n xs)).p R h' := HP.sep_comm (RoC.join H K)
def appS (t ty : TypeId) (u v : Value) : Sem Next := do pure (.value (← Builtin.append_ #[t, t] ty #[u, v]))
theorem semOf_append {ρ : Env} {i j : Nat} {t ty : TypeId} {u v : V} (h : i ≠ j) : semOf ρ (.call ⟨.builtin .append, #[.tmp i, .tmp j], #[t, t]⟩) ty [(i, u), (j, v)] = appS t ty (u.den ρ) (v.den ρ) := by
  have h' : (i == j) = false := by simpa using h
  simp [semOf, execOp, resolve, arEval, invoke, builtin, h', appS]
/-- append onto a slice of its own. -/
theorem append_ok (t ty e : TypeId) (i : TypeInfo) (z : Value) (ht : Try.prog.underlying t = some (.slice e)) (hi : Try.prog.info? e = some i) (hz : i.zero = some z) (hzs : z.cells.size = i.size) (hsz : 0 < i.size)
    (a : Option Addr) (n c : Nat) (xs : List Value) (S : HP) (ad : Addr) (m c2 : Nat) (news : List Value) (hr : Rd S (some ad) news) (hl : news.length = m * i.size) (h1 : ∀ u ∈ news, u.oneCell' = true)
    (h63 : n + m ≤ maxLen) (hb : (n + m) * i.bytes ≤ 140737488355328) :
    OTri Try.prog (appS t ty (.slice a n c) (.slice (some ad) m c2)) (HP.sep (OwC e i.size a n c xs) S)
      (fun v => HP.ex fun a' => HP.ex fun c' => HP.and (v = .slice a' (n + m) c') (HP.sep (OwC e i.size a' (n + m) c' (xs ++ news)) S)) := by
  rintro w R h F s ⟨x1, x2, d, l1, l2, ⟨hxl, hx⟩, hS⟩
  have hown : w.ownsRow 0 e i.size (.slice a n c) n xs := by
    refine ⟨hxl, ?_⟩
    rcases hx with ⟨rfl, rfl, rfl⟩ | ⟨g, cur, rfl, hg, q⟩
    · exact .inl ⟨rfl, rfl⟩
    · exact .inr ⟨g, c, cur, rfl, Nat.zero_le _, s.oh _ _ (l1 _ _ hg), q⟩
  have hrd := hr w R x2 _ (s.cut d.symm l2 l1) hS
  have hnews : ∀ j u, news[j]? = some u → w.cell? (ad.add j) = some u := fun j u hj => by
    obtain ⟨g, off, e1, e2⟩ := hrd j u hj
    cases e1
    rw [addr_add]; exact e2
  obtain ⟨v', w', hrun, ho', hg, hnil, hblk⟩ := run_append_own_at (P := Try.prog) w 0 t ty e i z i.size i.bytes ht hi hz rfl rfl hzs hsz (.slice a n c) n xs hown ad m c2 news hl hnews h1 h63 hb (Nat.zero_le _)
  obtain ⟨hl', hsh⟩ := ho'
  have hS' : Same w w' := ⟨hg.os, hg.tape, hg.output, hg.size⟩
  have s1 := s.cut d l1 l2
  have hdF : x2.dj F := s.dhF.le l2 (PH.le.refl _)
  rcases hsh with ⟨rfl, h0⟩ | ⟨g', cap, cur, rfl, _, hcell, q1, q2, q3, q4⟩
  · have hn0 : n = 0 := by omega
    have hm0 : m = 0 := by omega
    have e1 := hnil.1 rfl
    cases e1.1
    have hsame : ∀ k, k < w.heap.size → w'.heap[k]? = w.heap[k]? := fun k hk => hg.block k hk (by simp [Value.ownBlock])
    have own' : ∀ g : PH, g.own w → g.own w' := fun g og k y e => by rw [hsame k (og.lt e)]; exact og k y e
    refine ⟨_, _, w', by unfold appS; rw [Sem.run_bind, hrun]; rfl, rfl, hS', R, x1.un x2, PH.le.refl _, ⟨(PH.dj_un (s.dRh.le (PH.le.refl _) l1).symm (s.dRh.le (PH.le.refl _) l2).symm).symm, s.dRF, PH.dj_un (s.dhF.le l1 (PH.le.refl _)) hdF, own' _ s.oR, own' _ (s.oh.le (PH.un_le l1 l2)), own' _ s.oF⟩, none, 0, ?_, x1, x2, d, PH.un_left _ _, PH.un_right d, ?_, hS⟩
    · rw [hn0, hm0]
    · exact ⟨hl', .inl ⟨rfl, by omega, rfl⟩⟩
  · have s2 := Sat.grown s1 (row := (Value.slice a n c).ownBlock) (fun g hgr => by
      rcases hx with ⟨rfl, _⟩ | ⟨g0, cur0, rfl, hg0, _⟩
      · cases hgr
      · cases hgr; rw [hg0]; simp) hg hcell (by
        rcases hblk with e | e
        · exact .inl e.symm
        · cases e; exact .inr (Nat.le_refl _))
    obtain ⟨s3, d3⟩ := s2.join hdF
    exact ⟨_, _, w', by unfold appS; rw [Sem.run_bind, hrun]; rfl, rfl, hS', R, _, PH.le.refl _, s3, some ⟨g', 0, none⟩, cap, rfl, PH.one g' (.cells cur e (0, 0)), x2, d3, PH.un_left _ _, PH.un_right d3, ⟨hl', .inr ⟨g', cur, rfl, PH.one_self _ _, q1, q2, q3, q4⟩⟩, hS⟩
/-! loads and slices of slices -/
def loadS (t : TypeId) (p : Value) : Sem Next := do pure (.value (← Instr.loadAt t p))
theorem semOf_load {ρ : Env} {i : Nat} {t ty : TypeId} {u : V} : semOf ρ (.load t (.tmp i)) ty [(i, u)] = loadS t (u.den ρ) := by
  simp [semOf, execOp, arEval, loadS]
theorem run_loadS {w : World} {t : TypeId} {g off : Nat} {d : TypeDesc} (hd : Try.prog.underlying t = some d) (vs : List Value) (hz : szT Try.prog t = vs.length) (hv : ∀ j v, vs[j]? = some v → w.cell? ⟨g, off + j, none⟩ = some v) :
    (loadS t (.pointer (some ⟨g, off, none⟩))).run Try.prog w = .ok (.value (if aggT Try.prog t then .agg vs.toArray else (vs[0]?).getD undef)) w ∨ (aggT Try.prog t = false ∧ vs.length ≠ 1) := by
  obtain ⟨i, hi⟩ := underlying_info hd
  by_cases ha : aggT Try.prog t = true
  · left
    unfold loadS
    rw [Sem.run_bind]
    simp only [Instr.loadAt, Instr.sureAddr, Sem.run_bind, Sem.run_pure, Result.andThen_ok, loadVar, RX.run_isAgg hd, ha, if_true, RX.run_sizeOf hi, hz, RX.run_loadCells vs hv]
  · have ha' : aggT Try.prog t = false := by simpa using ha
    by_cases hl : vs.length = 1
    · left
      obtain ⟨v, rfl⟩ := List.length_eq_one_iff.1 hl
      have h0 := hv 0 v rfl
      rw [Nat.add_zero] at h0
      unfold loadS
      rw [Sem.run_bind]
      simp only [Instr.loadAt, Instr.sureAddr, Sem.run_bind, Sem.run_pure, Result.andThen_ok, loadVar, RX.run_isAgg hd, ha', Bool.false_eq_true, if_false, RX.run_load h0]
      rfl
    · exact .inr ⟨ha', hl⟩
/-- The load of one element of a slice: a value of one cell. -/
theorem load1_ok {t : TypeId} {d : TypeDesc} (hd : Try.prog.underlying t = some d) (ha : aggT Try.prog t = false) (hz : szT Try.prog t = 1) {S : HP} {a : Option Addr} {xs : List Value} (hr : Rd S a xs) {k off : Nat} {v : Value} (hk : xs[k + off]? = some v) :
    ORead Try.prog (loadS t (.pointer (a.map fun x => (x.add k).add off))) S v := fun w R h F s hS => by
  obtain ⟨g, o, rfl, hc⟩ := hr w R h F s hS (k + off) v hk
  simp only [Option.map_some, addr_add]
  rcases run_loadS (w := w) (g := g) (off := o + k + off) hd [v] (by simpa using hz) (fun j u hj => by
    cases j with
    | zero => simp only [List.getElem?_cons_zero, Option.some.injEq] at hj; subst hj; rw [show o + k + off + 0 = o + (k + off) by omega]; exact hc
    | succ j => simp at hj) with e | e
  · rw [e, ha]; rfl
  · simp at e
/-- .. a struct. -/
theorem loadN_ok {t : TypeId} {d : TypeDesc} (hd : Try.prog.underlying t = some d) (ha : aggT Try.prog t = true) {S : HP} {a : Option Addr} {xs : List Value} (hr : Rd S a xs) {k off : Nat} {vs : List Value} (hz : szT Try.prog t = vs.length) (hp : 0 < vs.length) (hk : ∀ j v, vs[j]? = some v → xs[k + off + j]? = some v) :
    ORead Try.prog (loadS t (.pointer (a.map fun x => (x.add k).add off))) S (.agg vs.toArray) := fun w R h F s hS => by
  obtain ⟨v0, hv0⟩ : ∃ v, vs[0]? = some v := ⟨vs[0], by simp [hp]⟩
  obtain ⟨g, o, rfl, _⟩ := hr w R h F s hS (k + off + 0) v0 (hk 0 v0 hv0)
  simp only [Option.map_some, addr_add]
  rcases run_loadS (w := w) (g := g) (off := o + k + off) hd vs hz (fun j u hj => by
    obtain ⟨g', o', e, hc⟩ := hr w R h F s hS (k + off + j) u (hk j u hj)
    cases e
    rw [show o + k + off + j = o + (k + off + j) by omega]; exact hc) with e | e
  · rw [e, ha]; rfl
  · rw [ha] at e; exact absurd e.1 (by simp)

def sliceS (t : TypeId) (x : Value) (lo hi mx : Option Value) : Sem Next := do pure (.value (← Instr.sliceAt t x lo hi mx))
theorem semOf_slice {ρ : Env} {t ty : TypeId} {x : Operand} {lo hi mx : Option Operand} {ar : List (Nat × V)} : semOf ρ (.slice t x lo hi mx) ty ar = sliceS t (arEval ρ ar x) (lo.map (arEval ρ ar)) (hi.map (arEval ρ ar)) (mx.map (arEval ρ ar)) := rfl
def iv (x : Option Nat) : Option Value := x.map fun n => .int .i64 (n : Int)
theorem run_bound {w : World} {n y : Nat} {c : BoundsCode} (h : n ≤ y) : (Instr.sliceBound (.int .i64 (n : Int)) y c).run Try.prog w = .ok n w := by
  have : (0 : Int) ≤ n ∧ (n : Int) ≤ y := ⟨by omega, by omega⟩
  simp [Instr.sliceBound, asIntOf, this]
/-- A slice of a slice. -/
theorem slice_ok {t e : TypeId} (ht : Try.prog.underlying t = some (.slice e)) {i : TypeInfo} (hi : Try.prog.info? e = some i) (S : HP) (a : Option Addr) (n c : Nat) (lo hi' mx : Option Nat) (h1 : lo.getD 0 ≤ hi'.getD n) (h2 : hi'.getD n ≤ mx.getD c) (h3 : mx.getD c ≤ c) (h4 : mx.isSome = true → hi'.isSome = true) :
    ORead Try.prog (sliceS t (.slice a n c) (iv lo) (iv hi') (iv mx)) S (.slice (if mx.getD c = lo.getD 0 then a else a.map (·.add (lo.getD 0 * szT Try.prog e))) (hi'.getD n - lo.getD 0) (mx.getD c - lo.getD 0)) := fun w R h F s hS => by
  unfold sliceS
  rw [Sem.run_bind]
  have hb : (Instr.sliceBounds true n c (iv lo) (iv hi') (iv mx)).run Try.prog w = .ok (lo.getD 0, hi'.getD n, mx.getD c) w := by
    unfold Instr.sliceBounds iv
    cases mx <;> cases hi' <;> cases lo <;> simp only [Option.getD_some, Option.getD_none, Option.isSome_some, Option.isSome_none] at h1 h2 h3 h4 <;> first | (have h5 := h4 trivial; cases h5; done) | simp [Sem.run_bind, run_bound h1, run_bound h2, run_bound h3, run_bound (Nat.zero_le _)]
  have : (Instr.sliceAt t (.slice a n c) (iv lo) (iv hi') (iv mx)).run Try.prog w = .ok (.slice (if mx.getD c = lo.getD 0 then a else a.map (·.add (lo.getD 0 * szT Try.prog e))) (hi'.getD n - lo.getD 0) (mx.getD c - lo.getD 0)) w := by
    simp only [Instr.sliceAt, Instr.slice, Sem.run_bind, RX.run_underlying ht, Result.andThen_ok, hb, RX.run_sizeOf hi, Sem.run_pure]
  rw [this]; rfl
theorem RoC.sub {size : Nat} {a : Option Addr} {n : Nat} {xs : List Value} {R h : PH} (H : (RoC size a n xs).p R h) (lo hi c : Nat) (h1 : lo ≤ hi) (h2 : hi ≤ n) (h3 : hi ≤ c) :
    (RoC size (if c = lo then a else a.map (·.add (lo * size))) (hi - lo) ((xs.drop (lo * size)).take ((hi - lo) * size))).p R h := by
  obtain ⟨hl, hh⟩ := H
  have hlen : ((xs.drop (lo * size)).take ((hi - lo) * size)).length = (hi - lo) * size := by
    rw [List.length_take, List.length_drop, hl, ← Nat.sub_mul]
    exact Nat.min_eq_left (Nat.mul_le_mul_right _ (by omega))
  refine ⟨hlen, fun hn => ?_⟩
  obtain ⟨g, off, cur, ty, fr, rfl, hR, hc⟩ := hh (by omega)
  rw [if_neg (by omega)]
  simp only [Option.map_some, addr_add]
  refine ⟨g, off + lo * size, cur, ty, fr, rfl, hR, ?_⟩
  rw [hlen, ← hc, List.drop_take, List.drop_drop, List.take_take, hl]
  congr 1
  rw [← Nat.sub_mul]
  exact (Nat.min_eq_left (Nat.mul_le_mul_right _ (by omega))).symm
/-! a store into an element -/
def storeS (t : TypeId) (p x : Value) : Sem Next := do Instr.storeAt t p x; pure .skip
theorem store_ok {t : TypeId} {i : TypeInfo} (hi : Try.prog.info? t = some i) (e : TypeId) (size : Nat) (a : Option Addr) (n c : Nat) (xs : List Value) (k off : Nat) (x : Value) (vs : List Value) (hx : x.cells = vs.toArray) (hz : i.size = vs.length) (hp : 0 < vs.length) (h1 : ∀ v ∈ vs, v.oneCell' = true) (hk : k + off + vs.length ≤ n * size) :
    OTri Try.prog (storeS t (.pointer (a.map fun x => (x.add k).add off)) x) (OwC e size a n c xs) (fun v => HP.and (v = .tuple #[]) (OwC e size a n c (xs.take (k + off) ++ vs ++ xs.drop (k + off + vs.length)))) := by
  rintro w R h F s ⟨hl, hh⟩
  rcases hh with ⟨_, rfl, _⟩ | ⟨g, cur, rfl, hg, q1, q2, q3, q4⟩
  · rw [Nat.zero_mul] at hk; omega
  · have hw := s.oh _ _ hg
    simp only [Option.map_some, addr_add]
    have hsz : n * size ≤ cur.size := by rw [q3]; exact Nat.mul_le_mul_right _ q1
    have hst := run_storeCells_at (P := Try.prog) g (0 + k + off) e vs 0 cur w hw (by omega) h1
    have hrun : (storeS t (.pointer (some ⟨g, 0 + k + off, none⟩)) x).run Try.prog w = .ok .skip (w.setRow g (cur.toList.take (0 + k + off + 0) ++ vs ++ cur.toList.drop (0 + k + off + 0 + vs.length)).toArray) := by
      unfold storeS
      simp only [Instr.storeAt, Instr.sureAddr, Sem.run_bind, Sem.run_pure, Result.andThen_ok, storeVar, RX.run_sizeOf hi, hx, List.size_toArray, szT, hi, hz, ne_eq, not_true_eq_false, if_false, hst]
    refine ⟨.skip, _, _, hrun, rfl, ⟨rfl, rfl, rfl, by simp⟩, R, _, PH.le.refl _, s.turn (y := .cells (cur.toList.take (0 + k + off + 0) ++ vs ++ cur.toList.drop (0 + k + off + 0 + vs.length)).toArray e (0, 0)) hg (fun j hj => setRow_other w g j _ hj) (setRow_heap w g cur _ e (0, 0) hw), rfl, ?_, .inr ⟨g, _, rfl, if_pos rfl, q1, q2, ?_, ?_⟩⟩
    · simp only [List.length_append, List.length_take, List.length_drop, hl]
      omega
    · simp only [List.size_toArray, List.length_append, List.length_take, List.length_drop, Array.length_toList]
      omega
    · subst q4
      have e1 : (0 + k + off + 0) = k + off := by omega
      rw [e1]
      simp only [List.take_append, List.length_append, List.length_take, Array.length_toList, List.take_take, List.drop_take, List.length_drop]
      have m1 : min (k + off) cur.size = k + off := by omega
      have m2 : min (n * size) (k + off) = k + off := by omega
      have m3 : min (k + off) (n * size) = k + off := by omega
      rw [m1, m2, m3, List.take_of_length_le (by omega : vs.length ≤ n * size - (k + off))]
theorem semOf_store {ρ : Env} {i j : Nat} {t ty : TypeId} {u v : V} (h : i ≠ j) : semOf ρ (.store t (.tmp i) (.tmp j)) ty [(i, u), (j, v)] = storeS t (u.den ρ) (v.den ρ) := by
  have h' : (i == j) = false := by simpa using h
  simp [semOf, execOp, arEval, h', storeS]
end Go.Proofs.Ytmibmjehjagmbaa
