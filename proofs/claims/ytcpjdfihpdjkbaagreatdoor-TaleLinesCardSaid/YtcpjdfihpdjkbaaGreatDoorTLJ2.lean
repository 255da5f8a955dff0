/- Texts of this claim, joined. No condition. -/
import Derived.Test.YtcpjdfihpdjkbaaGreatDoorTLJ1
import Derived.Lib.Builder
import Derived.Lib.UnsafeStr
import Derived.Laws.Externs
import Derived.Lib.AppendStr
import Derived.KernelRfl
import Derived.Below
import Derived.Laws.IdiomStrings
import Derived.Lib.Join
import Derived.Lib.ItoaLen
import Derived.Lib.AtoiAllCases
set_option linter.unusedSimpArgs false
set_option linter.unusedVariables false

namespace Go.Proofs.YtcpjdfihpdjkbaaGreatDoor
set_option linter.unusedSimpArgs false
set_option linter.unusedVariables false
open Go.Proofs.YtcpjdfihpdjkbaaGreatDoor RX Go.Lib
set_option maxRecDepth 100000

theorem _root_.Go.Proofs.YtcpjdfihpdjkbaaGreatDoor.ORead.imp {P : Program} {s : Sem Next} {A A' : HP} {v : Value} (r : ORead P s A v) (f : ∀ R h, A'.p R h → A.p R h) : ORead P s A' v := fun w R h F st a => r w R h F st (f R h a)
theorem eqNilP {i : Nat} {ty u t e : TypeId} (hg : Tryz.prog.eqGuardType Tryz.prog.depth t = false) (hu : Tryz.prog.underlying t = some (.pointer e)) {p : Option Addr} {A : HP} : ORead Tryz.prog (semW (.binOp .eql t (.tmp i) (.const (.pointer none)) u) ty [(i, .pointer p)]) A (.bool (!p.isSome)) := fun w R hh F s _ => by
  have he : (Op.equal t (.pointer p) (.pointer none)).run Tryz.prog w = .ok (!p.isSome) w := RX.run_equal fun n => by cases p <;> simp [Op.equalIn, RX.run_underlying hu]
  simp only [semW, execOp, arW, List.find?_cons, beq_self_eq_true]
  simp [eqGuard, binOp, hg, program, Sem.run_bind, Result.andThen, he]
theorem nilChk' {p : Addr} {A : HP} : ORead Tryz.prog (nilS (.pointer (some p))) A (.pointer (some p)) := fun w R hh F s _ => by
  simp [nilS, semW, execOp, arW]
theorem guardB : Tryz.prog.eqGuardType Tryz.prog.depth 69 = false := by kernel_rfl
theorem undBp : Tryz.prog.underlying 69 = some (.pointer 71) := by kernel_rfl
theorem undUp : Tryz.prog.underlying 106 = some .unsafePointer := by kernel_rfl
theorem undB8 : Tryz.prog.underlying 22 = some (.slice 5) := by kernel_rfl
def BC (b : Nat) (p : Option Addr) (a : Option Addr) (n c : Nat) : HP := HP.one b (.cells #[.pointer p, .slice a n c] 71 (0, 0))
def BRep (b : Nat) (l : List UInt8) : HP := HP.ex fun p => HP.ex fun a => HP.ex fun c => HP.and (p = none ∨ p = some ⟨b, 0, none⟩) (HP.sep (BC b p a l.length c) (OwB a l.length c l))
theorem BRep.new (b : Nat) {R h : PH} (H : (HP.one b (.cells #[.pointer none, .slice none 0 0] 71 (0, 0))).p R h) : (BRep b []).p R h :=
  ⟨none, none, 0, .inl rfl, HP.sep_comm (HP.sep_mono (HP.tt_sep H) (fun _ _ => OwC.nil _ _ _ _) fun _ h => h)⟩
theorem loadP {b : Nat} {p a : Option Addr} {n c : Nat} {K : HP} : ORead Tryz.prog (loadS 69 (.pointer (some ⟨b, 0, none⟩))) (HP.sep (BC b p a n c) K) (.pointer p) := by
  have := load1_ok (t := 69) undBp (by kernel_rfl) (by kernel_rfl) (Rd.left (B := K) (one_rd b #[.pointer p, .slice a n c] 71)) (k := 0) (off := 0) (v := .pointer p) rfl
  simpa [BC, Addr.add_zero'] using this
theorem loadBuf {b : Nat} {p a : Option Addr} {n c : Nat} {K : HP} : ORead Tryz.prog (loadS 22 (.pointer (some ⟨b, 1, none⟩))) (HP.sep (BC b p a n c) K) (.slice a n c) := by
  have := load1_ok (t := 22) undB8 (by kernel_rfl) (by kernel_rfl) (Rd.left (B := K) (one_rd b #[.pointer p, .slice a n c] 71)) (k := 1) (off := 0) (v := .slice a n c) rfl
  simpa [BC, RX.addr_add] using this
theorem infoBld : (Tryz.prog.info? 71).map (·.size) = some 2 := by kernel_rfl
theorem liesBld : liesAt Tryz.prog Tryz.prog.depth 71 (2 / Tryz.prog.cellsOf 71) 0 71 1 = true := by kernel_rfl
def convSt (s d : TypeId) (u : Value) : Sem Next := do pure (.value (← convert s d u))
theorem semW_convSt {s d ty : TypeId} {i : Nat} {u : Value} : semW (.convert s d (.tmp i)) ty [(i, u)] = convSt s d u := by simp [semW, execOp, arW, convSt]
theorem BC.shape {b : Nat} {p a : Option Addr} {n c : Nat} {w : World} {R h F : PH} (s : Sat w R h F) (H : (BC b p a n c).p R h) : w.shape? b = some (71, 2) := by
  have := s.oh _ _ H
  simp [World.shape?, this]
theorem toUnsafe {b : Nat} {p a : Option Addr} {n c : Nat} {K : HP} : ORead Tryz.prog (convSt 69 106 (.pointer (some ⟨b, 0, none⟩))) (HP.sep (BC b p a n c) K) (.pointer (some ⟨b, 0, none⟩)) := fun w R h F s H => by
  obtain ⟨j, hj, hjs⟩ := Option.map_eq_some_iff.1 infoBld
  have := Lib.run_to_unsafe (P := Tryz.prog) (w := w) ⟨b, 0, none⟩ undBp undUp hj (by rw [hjs]; decide) (BC.shape s (HP.sep_left H)) (by decide : (0 : Nat) < 2)
  unfold convSt; rw [Sem.run_bind, this]; rfl
theorem fromUnsafe {b : Nat} {p a : Option Addr} {n c : Nat} {K : HP} : ORead Tryz.prog (convSt 106 69 (.pointer (some ⟨b, 0, none⟩))) (HP.sep (BC b p a n c) K) (.pointer (some ⟨b, 0, none⟩)) := fun w R h F s H => by
  obtain ⟨j, hj, hjs⟩ := Option.map_eq_some_iff.1 infoBld
  have := Lib.run_from_unsafe (P := Tryz.prog) (w := w) ⟨b, 0, none⟩ undUp undBp hj (BC.shape s (HP.sep_left H)) liesBld
  unfold convSt; rw [Sem.run_bind, this]; rfl
theorem noEsc {i : Nat} {x : Value} (A : HP) : OTri Tryz.prog (semW (.call ⟨.value (.func 57), #[.tmp i], #[106]⟩) 106 [(i, x)]) A (fun v => HP.and (v = x) A) := fun w R h F s a => by
  have hr : (callFunc 57 #[x]).run Tryz.prog w = .ok (.value x) w := by
    rw [run_callFunc_extern Tryz.func57 (by kernel_rfl) (by kernel_rfl) (by kernel_rfl) (e := Extern.AbiNoEscape.same) (by kernel_rfl)]
    rw [Lib.run_noEscape]; rfl
  refine ⟨.value x, x, w, ?_, rfl, Same.refl w, R, h, PH.le.refl _, s, rfl, a⟩
  rw [← hr]
  simp [semW, execOp, resolve, arW, invoke, Deferred.ofValue]
theorem storeP {b : Nat} {p a : Option Addr} {n c : Nat} (q : Option Addr) : OTri Tryz.prog (storeS 69 (.pointer (some ⟨b, 0, none⟩)) (.pointer q)) (BC b p a n c) (fun v => HP.and (v = .tuple #[]) (BC b q a n c)) := by
  obtain ⟨i, hi⟩ : ∃ i, Tryz.prog.info? 69 = some i := Option.isSome_iff_exists.1 (by kernel_rfl)
  have hz : i.size = 1 := by
    have : (Tryz.prog.info? 69).map (·.size) = some 1 := by kernel_rfl
    rw [hi] at this; simpa using this
  exact storeOne_ok hi 71 b #[.pointer p, .slice a n c] 0 (.pointer q) [.pointer q] rfl hz (by simp) (by simp [Value.oneCell']) (by simp) (by unfold maxLen; simp)
theorem storeBuf {b : Nat} {p a : Option Addr} {n c : Nat} (a' : Option Addr) (n' c' : Nat) : OTri Tryz.prog (storeS 22 (.pointer (some ⟨b, 1, none⟩)) (.slice a' n' c')) (BC b p a n c) (fun v => HP.and (v = .tuple #[]) (BC b p a' n' c')) := by
  obtain ⟨i, hi⟩ : ∃ i, Tryz.prog.info? 22 = some i := Option.isSome_iff_exists.1 (by kernel_rfl)
  have hz : i.size = 1 := by
    have : (Tryz.prog.info? 22).map (·.size) = some 1 := by kernel_rfl
    rw [hi] at this; simpa using this
  exact storeOne_ok hi 71 b #[.pointer p, .slice a n c] 1 (.slice a' n' c') [.slice a' n' c'] rfl hz (by simp) (by simp [Value.oneCell']) (by simp) (by unfold maxLen; simp)
theorem copyCheck_ok (b : Nat) (l : List UInt8) : Tri Tryz.prog 47 #[.pointer (some ⟨b, 0, none⟩)] (BRep b l) (fun v => HP.and (v = .tuple #[]) (BRep b l)) := by
  refine Tri.ex fun p => Tri.ex fun a => Tri.ex fun c => ?_
  refine Tri.fact (φ := p = none ∨ p = some ⟨b, 0, none⟩) (fun R h H => H.1) fun hp => ?_
  refine Tri.weak (A := HP.sep (BC b p a l.length c) (OwB a l.length c l)) ?_ (fun _ _ h => h.2) fun _ _ _ h => h
  refine tri_of_tree (ρ := [.v (.pointer (some ⟨b, 0, none⟩)), .p (HP.sep (BC b p a l.length c) (OwB a l.length c l))]) mixed Tryz.func47 tree_bCopyCheck ?_
  unfold t_bCopyCheck
  simp only [T.den, E.prop, E.den, RX.look, F1.app, F2.app, Uni.int_i, Uni.nat_n, Uni.bool_c, Uni.str_s, Uni.adr_a, Uni.val_v, Uni.hp_p, hden, cden, V.den, W.den, A.den, BR.den, SA.den, FV.den, capV, exs, exP, allP, Cur.app, List.map_cons, List.map_nil, List.cons_append, List.nil_append, List.drop_succ_cons, List.drop_zero, List.length_cons, List.length_nil, Nat.zero_add, Nat.reduceAdd, Int.neg_neg, Bool.not_not, List.append_nil, Nat.add_zero, List.getElem?_cons_zero, List.getElem?_cons_succ, Decidable.not_not, semW_eq, semW_load, semW_store, semW_storeC, semW_nil, ne_eq, Nat.reduceEqDiff, not_false_eq_true, oneC]
  refine ⟨b, nilChk', .pointer p, loadP, !p.isSome, eqNilP guardB undBp, fun h => ?_, fun h => ?_⟩
  · refine ⟨.pointer (some ⟨b, 0, none⟩), by rw [semW_convSt]; exact toUnsafe, ?_⟩
    refine (noEsc (HP.sep (BC b p a l.length c) (OwB a l.length c l))).weak (fun _ _ h => h) ?_
    rintro v R hh ⟨rfl, H⟩
    refine ⟨.pointer (some ⟨b, 0, none⟩), HP.tt, HP.sep (BC b p a l.length c) (OwB a l.length c l), rfl, ⟨.pointer (some ⟨b, 0, none⟩), ?_, b, nilChk', ?_⟩, HP.tt_sep H⟩
    · rw [semW_convSt]; exact fromUnsafe.imp fun _ _ H => HP.sep_right H
    · refine ((storeP (some ⟨b, 0, none⟩)).frame (OwB a l.length c l)).weak (fun _ _ H => HP.sep_left H) ?_
      rintro v R hh ⟨h1, h2, d, l1, l2, ⟨rfl, hc⟩, ho⟩
      refine ⟨BRep b l, rfl, .of fun R h H => ⟨trivial, H⟩, some ⟨b, 0, none⟩, a, c, .inr rfl, h1, h2, d, l1, l2, hc, ho⟩
  · have hp' : p = some ⟨b, 0, none⟩ := by
      rcases hp with rfl | rfl
      · simp at h
      · rfl
    subst hp'
    refine ⟨b, nilChk', .pointer (some ⟨b, 0, none⟩), loadP, false, ?_, fun h => by simp at h, fun _ => .of fun R h H => ⟨trivial, _, _, _, .inr rfl, H⟩⟩
    intro w R h F s H
    obtain ⟨j, hj, _⟩ := Option.map_eq_some_iff.1 infoBld
    have := Lib.run_neq_ptr_same (P := Tryz.prog) (w := w) ⟨b, 0, none⟩ undBp hj
    simp only [semW, execOp, arW, List.find?_cons, beq_self_eq_true]
    simp [eqGuard, guardB, program, Sem.run_bind, Result.andThen, this]

theorem putBuf {b : Nat} {p a a' : Option Addr} {n c n' c' : Nat} {l : List UInt8} {B : Value → HP} (hp : p = none ∨ p = some ⟨b, 0, none⟩) (hn : n' = l.length) (post : ∀ R h, (BRep b l).p R h → (B (.tuple #[])).p R h) :
    OTri Tryz.prog (storeS 22 (.pointer (some ⟨b, 1, none⟩)) (.slice a' n' c')) (HP.sep (BC b p a n c) (OwB a' n' c' l)) B := by
  subst hn
  refine ((storeBuf (p := p) (a := a) (n := n) (c := c) a' l.length c').frame (OwB a' l.length c' l)).weak (fun _ _ h => h) ?_
  rintro v R hh ⟨h1, h2, d, l1, l2, ⟨rfl, hc⟩, ho⟩
  exact post _ _ ⟨p, a', c', hp, h1, h2, d, l1, l2, hc, ho⟩
theorem wByteB_ok (b : Nat) (l : List UInt8) (x : UInt8) (hb : l.length ≤ 100000) : Tri Tryz.prog 34 #[.pointer (some ⟨b, 0, none⟩), .int .u8 x.toNat] (BRep b l) (fun v => HP.and (v = .nilIface) (BRep b (l ++ [x]))) := by
  refine tri_of_tree (ρ := [.v (.pointer (some ⟨b, 0, none⟩)), .p (BRep b l), .i x.toNat]) mixed Tryz.func34 tree_bWriteByte ?_
  unfold t_bWriteByte
  simp only [T.den, E.prop, E.den, RX.look, F1.app, F2.app, Uni.int_i, Uni.nat_n, Uni.bool_c, Uni.str_s, Uni.adr_a, Uni.val_v, Uni.hp_p, hden, cden, V.den, W.den, A.den, BR.den, SA.den, FV.den, capV, exs, exP, allP, Cur.app, List.map_cons, List.map_nil, List.cons_append, List.nil_append, List.drop_succ_cons, List.drop_zero, List.length_cons, List.length_nil, Nat.zero_add, Nat.reduceAdd, Int.neg_neg, Bool.not_not, List.append_nil, Nat.add_zero, List.getElem?_cons_zero, List.getElem?_cons_succ, Decidable.not_not, semW_eq, semW_load, semW_store, semW_storeC, semW_append, semW_nil, ne_eq, Nat.reduceEqDiff, not_false_eq_true, oneC]
  refine (copyCheck_ok b l).weak (fun _ _ h => h) ?_
  rintro v R h ⟨rfl, p, a, c, hp, H⟩
  refine ⟨HP.sep (BC b p a l.length c) (OwB a l.length c l), rfl, ⟨b, nilChk', a, l.length, c, loadBuf, fun y => ?_⟩, H⟩
  clear H
  have ap := append8 a l.length c l (HP.one y (.cells #[.int .u8 x.toNat] 5 (0, 0))) (some ⟨y, 0, none⟩) 1 1 [x] ⟨one_rd y #[.int .u8 x.toNat] 5, fun R h H hq => by cases hq⟩ rfl (fun _ => rfl) (by omega)
  refine (ap.frame (BC b p a l.length c)).weak (fun R h H => ?_) ?_
  · exact HP.sep_comm (HP.sep_assoc H)
  · rintro v R h ⟨h1, h2, d, l1, l2, ⟨a', c', rfl, H⟩, hBC⟩
    refine ⟨a', l.length + 1, c', OwB a' (l.length + 1) c' (l ++ [x]), BC b p a l.length c, rfl, ⟨b, nilChk', ?_⟩, HP.pick [_, _, _] [0, 2, 1] (by decide) rfl (HP.sep_assoc ⟨h1, h2, d, l1, l2, H, hBC⟩)⟩
    exact putBuf hp (by simp) fun R h H => ⟨BRep b (l ++ [x]), rfl, .of fun R h H => ⟨trivial, H⟩, H⟩

def usdS (ts : Array TypeId) (ty : TypeId) (x : Value) : Sem Next := do pure (.value (← Builtin.unsafeSliceData_ ts ty #[x]))
theorem semW_usd {ts : Array TypeId} {ty : TypeId} {i : Nat} {x : Value} : semW (.call ⟨.builtin .unsafeSliceData, #[.tmp i], ts⟩) ty [(i, x)] = usdS ts ty x := by
  simp [semW, execOp, resolve, arW, invoke, builtin, usdS]
def ussS (ts : Array TypeId) (ty : TypeId) (x y : Value) : Sem Next := do pure (.value (← Builtin.unsafeString_ ts ty #[x, y]))
theorem semW_uss {ts : Array TypeId} {ty : TypeId} {i j : Nat} {x y : Value} (h : i ≠ j) : semW (.call ⟨.builtin .unsafeString, #[.tmp i, .tmp j], ts⟩) ty [(i, x), (j, y)] = ussS ts ty x y := by
  have h' : (i == j) = false := by simpa using h
  simp [semW, execOp, resolve, arW, invoke, builtin, h', ussS]
theorem usd_ok (ts : Array TypeId) (ty : TypeId) (g n c : Nat) (hc : c ≠ 0) (A : HP) : OTri Tryz.prog (usdS ts ty (.slice (some ⟨g, 0, none⟩) n c)) A (fun v => HP.and (v = .pointer (some ⟨g, 0, none⟩)) A) :=
  OTri.ofRead (v := .pointer (some ⟨g, 0, none⟩)) (fun w R h F s a => by
    unfold usdS
    rw [Sem.run_bind, run_unsafeSliceData_row w ts ty ⟨g, 0, none⟩ n c hc]; rfl) fun R h H => ⟨rfl, H⟩
theorem undPb : Tryz.prog.underlying 96 = some (.pointer 5) := by kernel_rfl
theorem cells8 : Tryz.prog.cellsOf 5 = 1 := by kernel_rfl
theorem freeze_other {w : World} {g k n : Nat} (hk : k ≠ g) : (w.freeze ⟨g, 0, none⟩ n).heap[k]? = w.heap[k]? := by
  unfold World.freeze
  split
  · rfl
  · simp only [Array.getElem?_modify]
    rw [if_neg (Ne.symm hk)]
theorem freeze_same (w : World) (g n : Nat) : Same w (w.freeze ⟨g, 0, none⟩ n) := by
  unfold World.freeze
  split
  · exact Same.refl w
  · exact ⟨rfl, rfl, rfl, by simp⟩
theorem uss_ok (it ty : TypeId) (g c : Nat) (l : List UInt8) (h0 : l ≠ []) : OTri Tryz.prog (ussS #[96, it] ty (.pointer (some ⟨g, 0, none⟩)) (.int .i64 l.length)) (OwB (some ⟨g, 0, none⟩) l.length c l) (fun v => HP.and (v = sE l) HP.tt) := by
  rintro w R h F s ⟨hl, hx⟩
  rcases hx with ⟨h1, _⟩ | ⟨g', cur, e, hg, q1, q2, q3, q4⟩
  · cases h1
  cases e
  have hw := s.oh _ _ hg
  have hrun := run_unsafeString_row (P := Tryz.prog) w 96 it ty 5 undPb cells8 g cur.size (by simp [World.shape?, hw]) l h0 (by omega) (by unfold maxLen at q2; omega) (fun j x hj => by
    rw [RX.addr_add, cell_at hw]
    have : (cur.toList.take (l.length * 1))[0 + j]? = some (u8v x) := by rw [q4]; simp [hj]
    rw [List.getElem?_take] at this
    split at this
    · simpa [u8v] using this
    · cases this)
  refine ⟨.value (sE l), sE l, w.freeze ⟨g, 0, none⟩ l.length, by unfold ussS; rw [Sem.run_bind, hrun]; rfl, rfl, freeze_same w g _, R, PH.none', PH.le.refl _, ⟨PH.dj_none _, s.dRF, PH.none_dj _, ?_, (by intro k o e; cases e), ?_, s.gl⟩, rfl, trivial⟩
  · intro k o hk
    have : k ≠ g := fun e => by subst e; rcases s.dRh k with h1 | h1 <;> simp_all
    rw [freeze_other this]; exact s.oR k o hk
  · intro k o hk
    have : k ≠ g := fun e => by subst e; rcases s.dhF k with h1 | h1 <;> simp_all
    rw [freeze_other this]; exact s.oF k o hk
set_option maxHeartbeats 1000000 in
theorem stringB_ok (b : Nat) (l : List UInt8) (h0 : l ≠ []) : Tri Tryz.prog 31 #[.pointer (some ⟨b, 0, none⟩)] (BRep b l) (fun v => HP.and (v = sE l) HP.tt) := by
  refine Tri.ex fun p => Tri.ex fun a => Tri.ex fun c => ?_
  refine Tri.weak (A := HP.sep (BC b p a l.length c) (OwB a l.length c l)) ?_ (fun _ _ h => h.2) fun _ _ _ h => h
  have hl : l.length ≠ 0 := by simpa using h0
  refine Tri.fact (φ := (∃ g, a = some ⟨g, 0, none⟩) ∧ c ≠ 0) (fun R h H => ?_) ?_
  · rcases (HP.sep_right H).2 with ⟨_, h1, _⟩ | ⟨g, cur, rfl, _, h1, _⟩
    · exact absurd h1 hl
    · exact ⟨⟨g, rfl⟩, by omega⟩
  rintro ⟨⟨g, rfl⟩, hc⟩
  refine tri_of_tree (ρ := [.n b, .p (HP.sep (BC b p (some ⟨g, 0, none⟩) l.length c) (OwB (some ⟨g, 0, none⟩) l.length c l))]) mixed Tryz.func31 tree_bString ?_
  unfold t_bString
  simp only [T.den, E.prop, E.den, RX.look, F1.app, F2.app, Uni.int_i, Uni.nat_n, Uni.bool_c, Uni.str_s, Uni.adr_a, Uni.val_v, Uni.hp_p, hden, cden, V.den, W.den, A.den, BR.den, SA.den, FV.den, capV, exs, exP, allP, Cur.app, List.map_cons, List.map_nil, List.cons_append, List.nil_append, List.drop_succ_cons, List.drop_zero, List.length_cons, List.length_nil, Nat.zero_add, Nat.reduceAdd, Int.neg_neg, Bool.not_not, List.append_nil, Nat.add_zero, List.getElem?_cons_zero, List.getElem?_cons_succ, Decidable.not_not, semW_eq, semW_load, ne_eq, Nat.reduceEqDiff, not_false_eq_true]
  have ld : ∀ K : HP, ORead Tryz.prog (loadS 22 (.pointer (some ⟨b, 1, none⟩))) (HP.sep (BC b p (some ⟨g, 0, none⟩) l.length c) K) (.slice (some ⟨g, 0, none⟩) l.length c) := fun K => loadBuf
  have ld1 : ORead Tryz.prog (loadS 22 (.pointer (some ⟨b, 1, none⟩))) (BC b p (some ⟨g, 0, none⟩) l.length c) (.slice (some ⟨g, 0, none⟩) l.length c) := (ld HP.tt).imp fun _ _ H => HP.sep_tt H
  refine ⟨fun s P => s = l, ⟨some ⟨g, 0, none⟩, l.length, c, ld _, ?_, some ⟨g, 0, none⟩, l.length, c, ld _, ?_⟩, ?_⟩
  · rw [semW_usd]
    refine (usd_ok _ _ g l.length c hc (HP.sep (BC b p (some ⟨g, 0, none⟩) l.length c) (OwB (some ⟨g, 0, none⟩) l.length c l))).weak (fun _ _ h => h) ?_
    rintro v R h ⟨rfl, H⟩
    refine ⟨g, OwB (some ⟨g, 0, none⟩) l.length c l, BC b p (some ⟨g, 0, none⟩) l.length c, rfl, ⟨some ⟨g, 0, none⟩, l.length, c, ld1, ?_⟩, HP.sep_comm H⟩
    rw [semW_uss (by decide)]
    refine (uss_ok _ _ g c l h0).weak (fun _ _ h => h) ?_
    rintro v R h ⟨rfl, H⟩
    exact ⟨l, HP.tt, rfl, by simp [RX.look], H⟩
  · rw [semW_usd]
    refine (usd_ok _ _ g l.length c hc (HP.sep (BC b p (some ⟨g, 0, none⟩) l.length c) (OwB (some ⟨g, 0, none⟩) l.length c l))).weak (fun _ _ h => h) ?_
    rintro v R h ⟨rfl, H⟩
    refine ⟨g, OwB (some ⟨g, 0, none⟩) l.length c l, BC b p (some ⟨g, 0, none⟩) l.length c, rfl, ?_, HP.sep_comm H⟩
    rw [semW_uss (by decide)]
    refine (uss_ok _ _ g c l h0).weak (fun _ _ h => h) ?_
    rintro v R h ⟨rfl, H⟩
    exact ⟨l, HP.tt, rfl, by simp [RX.look], H⟩
  · rintro s P rfl
    exact .of fun R h H => ⟨rfl, trivial⟩
end Go.Proofs.YtcpjdfihpdjkbaaGreatDoor



namespace Go.Proofs.YtcpjdfihpdjkbaaGreatDoor.RX
set_option maxRecDepth 100000
-- tideline/tale.number: ρ := [.v of, .p ofP]
def t_tNumber : T :=
(.op (.makeInterface 85 (.tmp 4)) 50 [(4, .w (.agg [.val 0, .func 16 [], .func 36 []]))] [(.a 0, .prop 1)] [.v, .p, .p] (.w (.a (.val 2))) [(.a 2, .prop 3), (.a 0, .prop 4)]
(.ret (.w (.a (.val 2))) [(.a 0, .prop 4), (.a 2, .prop 3)]))
theorem tree_tNumber : tree Tryz.prog { absT := [71], outl := true, opn := true, rdf := true } Tryz.f21 [.a (.val 0)] [(.a 0, .prop 1)] 2 = t_tNumber := by kernel_rfl
def t_tData : T :=
(.op (.makeInterface 95 (.tmp 4)) 50 [(4, .w (.agg [.val 0, .func 17 [], .func 46 []]))] [(.a 0, .prop 1)] [.v, .p, .p] (.w (.a (.val 2))) [(.a 2, .prop 3), (.a 0, .prop 4)]
(.ret (.w (.a (.val 2))) [(.a 0, .prop 4), (.a 2, .prop 3)]))
theorem tree_tData : tree Tryz.prog { absT := [71], outl := true, opn := true, rdf := true } Tryz.f27 [.a (.val 0)] [(.a 0, .prop 1)] 2 = t_tData := by kernel_rfl
def t_tText : T :=
(.op (.makeInterface 104 (.tmp 8)) 50 [(8, .w (.agg [.val 0, .func 54 [], .func 55 []]))] [(.a 0, .prop 1)] [.v, .p, .p] (.w (.a (.val 2))) [(.a 2, .prop 3), (.a 0, .prop 4)]
(.ret (.w (.a (.val 2))) [(.a 0, .prop 4), (.a 2, .prop 3)]))
theorem tree_tText : tree Tryz.prog { absT := [71], outl := true, opn := true, rdf := true } Tryz.f38 [.a (.val 0)] [(.a 0, .prop 1)] 2 = t_tText := by kernel_rfl
def t_tTruth : T :=
(.op (.makeInterface 92 (.tmp 8)) 50 [(8, .w (.agg [.val 0, .func 44 [], .func 45 []]))] [(.a 0, .prop 1)] [.v, .p, .p] (.w (.a (.val 2))) [(.a 2, .prop 3), (.a 0, .prop 4)]
(.ret (.w (.a (.val 2))) [(.a 0, .prop 4), (.a 2, .prop 3)]))
theorem tree_tTruth : tree Tryz.prog { absT := [71], outl := true, opn := true, rdf := true } Tryz.f25 [.a (.val 0)] [(.a 0, .prop 1)] 2 = t_tTruth := by kernel_rfl
def t_tForm : T :=
(.call 21 [.a (.func 22 [])] [] [.v, .p] (.w (.a (.val 1))) [(.a 1, .prop 2)]
(.call 21 [.a (.func 23 [])] [] [.v, .p] (.w (.a (.val 3))) [(.a 3, .prop 4)]
(.br (.o2 .eq (.v 0) (.i 1))
(.new
(.call 24 [] [] [.a, .n, .n, .p] (.w (.a (.sl (.v 6) (.v 7) (.v 8)))) [(.a 6, .prop 9)]
(.op (.call ⟨.builtin .append, #[.tmp 12, .tmp 13], #[46, 46]⟩) 46 [(12, .w (.a (.sl (.b (.v 5) 0) (.n 1) (.n 1)))), (13, .w (.a (.sl (.v 6) (.v 7) (.v 8))))] [(.b (.v 5), .cells [.val 1] 50), (.a 1, .prop 2), (.a 6, .prop 9)] [.a, .n, .n, .p] (.w (.a (.sl (.v 10) (.v 11) (.v 12)))) [(.a 10, .prop 13), (.a 6, .prop 9)]
(.ret (.tup [.a (.str (.s [99, 97, 108, 108])), .a (.sl (.v 10) (.v 11) (.v 12))]) [(.a 10, .prop 13)]))))
(.br (.o2 .eq (.v 0) (.i 2))
(.new
(.ret (.tup [.a (.str (.s [115, 110, 97, 112])), .a (.sl (.b (.v 5) 0) (.n 1) (.n 1))]) [(.b (.v 5), .cells [.val 1] 50), (.a 1, .prop 2)]))
(.br (.o2 .eq (.v 0) (.i 3))
(.new
(.ret (.tup [.a (.str (.s [116, 114, 105, 109])), .a (.sl (.b (.v 5) 0) (.n 1) (.n 1))]) [(.b (.v 5), .cells [.val 1] 50), (.a 1, .prop 2)]))
(.br (.o2 .eq (.v 0) (.i 4))
(.new
(.ret (.tup [.a (.str (.s [103, 105, 118, 101, 117, 112])), .a (.sl (.b (.v 5) 0) (.n 1) (.n 1))]) [(.b (.v 5), .cells [.val 1] 50), (.a 1, .prop 2)]))
(.br (.o2 .eq (.v 0) (.i 5))
(.new
(.ret (.tup [.a (.str (.s [116, 105, 99, 107])), .a (.sl (.b (.v 5) 0) (.n 1) (.n 1))]) [(.b (.v 5), .cells [.val 1] 50), (.a 1, .prop 2)]))
(.br (.o2 .eq (.v 0) (.i 6))
(.call 25 [.a (.func 26 [])] [] [.v, .p] (.w (.a (.val 5))) [(.a 5, .prop 6)]
(.new
(.ret (.tup [.a (.str (.s [100, 101, 108, 105, 118, 101, 114])), .a (.sl (.b (.v 7) 0) (.n 2) (.n 2))]) [(.b (.v 7), .cells [.val 3, .val 5] 50), (.a 3, .prop 4), (.a 5, .prop 6)])))
(.br (.o2 .eq (.v 0) (.i 7))
(.new
(.ret (.tup [.a (.str (.s [100, 114, 111, 112])), .a (.sl (.b (.v 5) 0) (.n 1) (.n 1))]) [(.b (.v 5), .cells [.val 3] 50), (.a 3, .prop 4)]))
(.br (.o2 .eq (.v 0) (.i 8))
(.call 27 [.a (.func 28 [])] [] [.v, .p] (.w (.a (.val 5))) [(.a 5, .prop 6)]
(.new
(.ret (.tup [.a (.str (.s [99, 114, 97, 115, 104])), .a (.sl (.b (.v 7) 0) (.n 2) (.n 2))]) [(.b (.v 7), .cells [.val 1, .val 5] 50), (.a 1, .prop 2), (.a 5, .prop 6)])))
(.ret (.tup [.a (.str (.s [])), .a (.sl .nil (.n 0) (.n 0))]) [])))))))))))
theorem tree_tForm : tree Tryz.prog { absT := [71], outl := true, opn := true, rdf := true } Tryz.f13 [.a (.int .i64 (.v 0))] [] 1 = t_tForm := by kernel_rfl
def t_tCallForm : T :=
(.call 21 [.a (.func 37 [])] [] [.v, .p] (.w (.a (.val 0))) [(.a 0, .prop 1)]
(.call 38 [.a (.func 39 [])] [] [.v, .p] (.w (.a (.val 2))) [(.a 2, .prop 3)]
(.call 38 [.a (.func 40 [])] [] [.v, .p] (.w (.a (.val 4))) [(.a 4, .prop 5)]
(.call 21 [.a (.func 41 [])] [] [.v, .p] (.w (.a (.val 6))) [(.a 6, .prop 7)]
(.call 21 [.a (.func 42 [])] [] [.v, .p] (.w (.a (.val 8))) [(.a 8, .prop 9)]
(.call 27 [.a (.func 43 [])] [] [.v, .p] (.w (.a (.val 10))) [(.a 10, .prop 11)]
(.new
(.ret (.w (.a (.sl (.b (.v 12) 0) (.n 6) (.n 6)))) [(.b (.v 12), .cells [.val 0, .val 2, .val 4, .val 6, .val 8, .val 10] 50), (.a 0, .prop 1), (.a 2, .prop 3), (.a 4, .prop 5), (.a 6, .prop 7), (.a 8, .prop 9), (.a 10, .prop 11)]))))))))
theorem tree_tCallForm : tree Tryz.prog { absT := [71], outl := true, opn := true, rdf := true } Tryz.f24 [] [] 0 = t_tCallForm := by kernel_rfl
def t_tForm1 : T :=
(.ret (.w (.a (.ptr (.v 0) 1))) [(.b (.v 0), .prop 1)])
theorem tree_tForm1 : tree Tryz.prog { absT := [71], outl := true, opn := true, rdf := true } Tryz.f22 [.a (.ptr (.v 0) 0)] [(.b (.v 0), .prop 1)] 2 = t_tForm1 := by kernel_rfl
def t_tForm2 : T :=
(.ret (.w (.a (.ptr (.v 0) 2))) [(.b (.v 0), .prop 1)])
theorem tree_tForm2 : tree Tryz.prog { absT := [71], outl := true, opn := true, rdf := true } Tryz.f23 [.a (.ptr (.v 0) 0)] [(.b (.v 0), .prop 1)] 2 = t_tForm2 := by kernel_rfl
def t_tForm3 : T :=
(.ret (.w (.a (.ptr (.v 0) 3))) [(.b (.v 0), .prop 1)])
theorem tree_tForm3 : tree Tryz.prog { absT := [71], outl := true, opn := true, rdf := true } Tryz.f26 [.a (.ptr (.v 0) 0)] [(.b (.v 0), .prop 1)] 2 = t_tForm3 := by kernel_rfl
def t_tForm4 : T :=
(.ret (.w (.a (.ptr (.v 0) 10))) [(.b (.v 0), .prop 1)])
theorem tree_tForm4 : tree Tryz.prog { absT := [71], outl := true, opn := true, rdf := true } Tryz.f28 [.a (.ptr (.v 0) 0)] [(.b (.v 0), .prop 1)] 2 = t_tForm4 := by kernel_rfl
def t_tCallForm1 : T :=
(.ret (.w (.a (.ptr (.v 0) 4))) [(.b (.v 0), .prop 1)])
theorem tree_tCallForm1 : tree Tryz.prog { absT := [71], outl := true, opn := true, rdf := true } Tryz.f37 [.a (.ptr (.v 0) 0)] [(.b (.v 0), .prop 1)] 2 = t_tCallForm1 := by kernel_rfl
def t_tCallForm2 : T :=
(.ret (.w (.a (.ptr (.v 0) 5))) [(.b (.v 0), .prop 1)])
theorem tree_tCallForm2 : tree Tryz.prog { absT := [71], outl := true, opn := true, rdf := true } Tryz.f39 [.a (.ptr (.v 0) 0)] [(.b (.v 0), .prop 1)] 2 = t_tCallForm2 := by kernel_rfl
def t_tCallForm3 : T :=
(.ret (.w (.a (.ptr (.v 0) 6))) [(.b (.v 0), .prop 1)])
theorem tree_tCallForm3 : tree Tryz.prog { absT := [71], outl := true, opn := true, rdf := true } Tryz.f40 [.a (.ptr (.v 0) 0)] [(.b (.v 0), .prop 1)] 2 = t_tCallForm3 := by kernel_rfl
def t_tCallForm4 : T :=
(.ret (.w (.a (.ptr (.v 0) 7))) [(.b (.v 0), .prop 1)])
theorem tree_tCallForm4 : tree Tryz.prog { absT := [71], outl := true, opn := true, rdf := true } Tryz.f41 [.a (.ptr (.v 0) 0)] [(.b (.v 0), .prop 1)] 2 = t_tCallForm4 := by kernel_rfl
def t_tCallForm5 : T :=
(.ret (.w (.a (.ptr (.v 0) 8))) [(.b (.v 0), .prop 1)])
theorem tree_tCallForm5 : tree Tryz.prog { absT := [71], outl := true, opn := true, rdf := true } Tryz.f42 [.a (.ptr (.v 0) 0)] [(.b (.v 0), .prop 1)] 2 = t_tCallForm5 := by kernel_rfl
def t_tCallForm6 : T :=
(.ret (.w (.a (.ptr (.v 0) 9))) [(.b (.v 0), .prop 1)])
theorem tree_tCallForm6 : tree Tryz.prog { absT := [71], outl := true, opn := true, rdf := true } Tryz.f43 [.a (.ptr (.v 0) 0)] [(.b (.v 0), .prop 1)] 2 = t_tCallForm6 := by kernel_rfl
def t_tReadNumber : T :=
(.call 53 [.a (.str (.v 0))] [] [.i, .v, .p] (.tup [.a (.int .i64 (.v 1)), .a (.val 2)]) [(.a 2, .prop 3)]
(.read (.binOp .eql 74 (.tmp 12) (.const .nilIface) 74) 4 [(12, .w (.a (.val 2)))] [(.a 2, .prop 3)] [.c] (.w (.a (.bool (.v 4))))
(.ret (.tup [.a (.int .i64 (.v 1)), .a (.bool (.v 4))]) [])))
theorem tree_tReadNumber : tree Tryz.prog { absT := [71], outl := true, opn := true, rdf := true } Tryz.f36 [.a (.str (.v 0))] [] 1 = t_tReadNumber := by kernel_rfl
def t_tTellBytes : T :=
(.br (.o2 .eq (.o1 .ofNat (.v 1)) (.i 0))
(.ret (.w (.a (.str (.s [45])))) [(.a 0, .prop 3)])
(.new
(.loop [.i, .p] [.e (.o1 .neg (.o1 .neg (.i 0))), .p [(.b (.v 4), .cells [.nilp, .sl .nil (.n 0) (.n 0)] 71)]]
(.br (.o2 .lt (.v 5) (.o1 .ofNat (.v 1)))
(.need (.o2 .le (.i 0) (.v 5))
(.need (.o1 .isSome (.v 0))
(.read (.load 5 (.tmp 13)) 5 [(13, .w (.a (.eptr 0 (.v 5) 1 0)))] [(.a 0, .prop 3)] [.i] (.w (.a (.int .u8 (.v 7))))
(.read (.index 9 (.const (.string ⟨#[48, 49, 50, 51, 52, 53, 54, 55, 56, 57, 97, 98, 99, 100, 101, 102]⟩)) (.tmp 16)) 5 [(16, .w (.a (.int .u8 (.o2 (.shr .u8) (.v 7) (.i 4)))))] [] [.i] (.w (.a (.int .u8 (.v 8))))
(.call 34 [.a (.ptr (.v 4) 0), .a (.int .u8 (.v 8))] [(.b (.v 4), .prop 6)] [.v, .p, .p] (.w (.a (.val 9))) [(.a 9, .prop 10), (.b (.v 4), .prop 11)]
(.read (.index 9 (.const (.string ⟨#[48, 49, 50, 51, 52, 53, 54, 55, 56, 57, 97, 98, 99, 100, 101, 102]⟩)) (.tmp 20)) 5 [(20, .w (.a (.int .u8 (.o2 (.bit .and .u8) (.v 7) (.i 15)))))] [] [.i] (.w (.a (.int .u8 (.v 12))))
(.call 34 [.a (.ptr (.v 4) 0), .a (.int .u8 (.v 12))] [(.b (.v 4), .prop 11)] [.v, .p, .p] (.w (.a (.val 13))) [(.a 13, .prop 14), (.b (.v 4), .prop 15)]
(.need (.o1 (.inr .i64) (.o2 .add (.v 5) (.i 1)))
(.again 0 [.e (.o1 .neg (.o1 .neg (.o2 .add (.v 5) (.i 1)))), .p [(.b (.v 4), .prop 15)]])))))))))
(.call 31 [.a (.ptr (.v 4) 0)] [(.b (.v 4), .prop 6)] [.s, .p] (.w (.a (.str (.v 7)))) [(.b (.v 4), .prop 8)]
(.ret (.w (.a (.str (.v 7)))) [(.a 0, .prop 3)]))))))
theorem tree_tTellBytes : tree Tryz.prog { absT := [71], hv := [(0, [.b (.v 4)])], outl := true, opn := true, rdf := true } Tryz.f17 [.a (.sl (.v 0) (.v 1) (.v 2))] [(.a 0, .prop 3)] 4 = t_tTellBytes := by kernel_rfl
def t_tReadBytes : T :=
(.br (.o2 .seq (.v 0) (.s [45]))
(.ret (.tup [.a (.sl .nil (.n 0) (.n 0)), .a (.bool (.c true))]) [])
(.br (.o2 .eq (.o1 .ofNat (.o1 .size (.v 0))) (.i 0))
(.ret (.tup [.a (.sl .nil (.n 0) (.n 0)), .a (.bool (.c false))]) [])
(.br (.o1 .not (.o2 .eq (.o2 .rem (.o1 .ofNat (.o1 .size (.v 0))) (.i 2)) (.i 0)))
(.ret (.tup [.a (.sl .nil (.n 0) (.n 0)), .a (.bool (.c false))]) [])
(.need (.o1 (.inr .i64) (.o2 .quo (.o1 .ofNat (.o1 .size (.v 0))) (.i 2)))
(.op (.makeSlice 22 (.const (.int .i64 0)) (.tmp 21)) 22 [(21, .w (.a (.int .i64 (.o2 .quo (.o1 .ofNat (.o1 .size (.v 0))) (.i 2)))))] [] [.a, .n, .n, .p] (.w (.a (.sl (.v 1) (.v 2) (.v 3)))) [(.a 1, .prop 4)]
(.loop [.a, .n, .n, .p, .c, .a, .n, .n, .i, .p] [.a .nil, .e (.o2 .nadd (.n 0) (.n 0)), .e (.o2 .nadd (.n 0) (.n 0)), .p [], .e (.o1 .not (.o1 .not (.c false))), .a (.v 1), .e (.o2 .nadd (.v 2) (.n 0)), .e (.o2 .nadd (.v 3) (.n 0)), .e (.o1 .neg (.o1 .neg (.i 0))), .p [(.a 1, .prop 4)]]
(.br (.o2 .lt (.v 13) (.o1 .ofNat (.o1 .size (.v 0))))
(.read (.index 9 (.tmp 29) (.tmp 30)) 5 [(29, .w (.a (.str (.v 0)))), (30, .w (.a (.int .i64 (.v 13))))] [] [.i] (.w (.a (.int .u8 (.v 15))))
(.need (.o1 (.inr .i64) (.o2 .add (.v 13) (.i 1)))
(.read (.index 9 (.tmp 33) (.tmp 35)) 5 [(33, .w (.a (.str (.v 0)))), (35, .w (.a (.int .i64 (.o2 .add (.v 13) (.i 1)))))] [] [.i] (.w (.a (.int .u8 (.v 16))))
(.call 56 [.a (.str (.s [48, 49, 50, 51, 52, 53, 54, 55, 56, 57, 97, 98, 99, 100, 101, 102])), .a (.int .u8 (.v 15))] [] [.i] (.w (.a (.int .i64 (.v 17)))) []
(.call 56 [.a (.str (.s [48, 49, 50, 51, 52, 53, 54, 55, 56, 57, 97, 98, 99, 100, 101, 102])), .a (.int .u8 (.v 16))] [] [.i] (.w (.a (.int .i64 (.v 18)))) []
(.br (.o2 .lt (.v 17) (.i 0))
(.ret (.tup [.a (.sl .nil (.n 0) (.n 0)), .a (.bool (.c false))]) [])
(.br (.o2 .lt (.v 18) (.i 0))
(.ret (.tup [.a (.sl .nil (.n 0) (.n 0)), .a (.bool (.c false))]) [])
(.new
(.op (.call ⟨.builtin .append, #[.tmp 44, .tmp 50], #[22, 22]⟩) 22 [(44, .w (.a (.sl (.v 10) (.v 11) (.v 12)))), (50, .w (.a (.sl (.b (.v 19) 0) (.n 1) (.n 1))))] [(.a 10, .prop 14), (.b (.v 19), .cells [.int .u8 (.o1 (.wrap .u8) (.o2 (.bit .or .i64) (.o2 (.shl .i64) (.v 17) (.i 4)) (.v 18)))] 5)] [.a, .n, .n, .p] (.w (.a (.sl (.v 20) (.v 21) (.v 22)))) [(.a 20, .prop 23), (.b (.v 19), .cells [.int .u8 (.o1 (.wrap .u8) (.o2 (.bit .or .i64) (.o2 (.shl .i64) (.v 17) (.i 4)) (.v 18)))] 5)]
(.need (.o1 (.inr .i64) (.o2 .add (.v 13) (.i 2)))
(.again 0 [.a (.v 5), .e (.o2 .nadd (.v 6) (.n 0)), .e (.o2 .nadd (.v 7) (.n 0)), .p [(.a 5, .prop 8)], .e (.o1 .not (.o1 .not (.v 9))), .a (.v 20), .e (.o2 .nadd (.v 21) (.n 0)), .e (.o2 .nadd (.v 22) (.n 0)), .e (.o1 .neg (.o1 .neg (.o2 .add (.v 13) (.i 2)))), .p [(.a 20, .prop 23)]])))))))))))
(.ret (.tup [.a (.sl (.v 10) (.v 11) (.v 12)), .a (.bool (.c true))]) [(.a 10, .prop 14)]))))))))
theorem tree_tReadBytes : tree Tryz.prog { absT := [71], hv := [(0, [.a 1])], outl := true, opn := true, rdf := true } Tryz.f46 [.a (.str (.v 0))] [] 1 = t_tReadBytes := by kernel_rfl
def t_tText1 : T :=
(.op (.convert 9 22 (.tmp 3)) 22 [(3, .w (.a (.str (.v 0))))] [] [.a, .n, .n, .p] (.w (.a (.sl (.v 1) (.v 2) (.v 3)))) [(.a 1, .prop 4)]
(.call 17 [.a (.sl (.v 1) (.v 2) (.v 3))] [(.a 1, .prop 4)] [.s, .p] (.w (.a (.str (.v 5)))) [(.a 1, .prop 6)]
(.ret (.w (.a (.str (.v 5)))) [])))
theorem tree_tText1 : tree Tryz.prog { absT := [71], outl := true, opn := true, rdf := true } Tryz.f54 [.a (.str (.v 0))] [] 1 = t_tText1 := by kernel_rfl
def t_tText2 : T :=
(.call 46 [.a (.str (.v 0))] [] [.a, .n, .n, .p, .c] (.tup [.a (.sl (.v 1) (.v 2) (.v 3)), .a (.bool (.v 5))]) [(.a 1, .prop 4)]
(.read (.convert 22 9 (.tmp 11)) 9 [(11, .w (.a (.sl (.v 1) (.v 2) (.v 3))))] [(.a 1, .prop 4)] [.s] (.w (.a (.str (.v 6))))
(.ret (.tup [.a (.str (.v 6)), .a (.bool (.v 5))]) [])))
theorem tree_tText2 : tree Tryz.prog { absT := [71], outl := true, opn := true, rdf := true } Tryz.f55 [.a (.str (.v 0))] [] 1 = t_tText2 := by kernel_rfl
def t_tTruth1 : T :=
(.br (.v 0)
(.ret (.w (.a (.str (.s [49])))) [])
(.ret (.w (.a (.str (.s [48])))) []))
theorem tree_tTruth1 : tree Tryz.prog { absT := [71], outl := true, opn := true, rdf := true } Tryz.f44 [.a (.bool (.v 0))] [] 1 = t_tTruth1 := by kernel_rfl
def t_tTruth2 : T :=
(.br (.o2 .seq (.v 0) (.s [48]))
(.ret (.tup [.a (.bool (.o2 .seq (.v 0) (.s [49]))), .a (.bool (.c true))]) [])
(.ret (.tup [.a (.bool (.o2 .seq (.v 0) (.s [49]))), .a (.bool (.o2 .seq (.v 0) (.s [49])))]) []))
theorem tree_tTruth2 : tree Tryz.prog { absT := [71], outl := true, opn := true, rdf := true } Tryz.f45 [.a (.str (.v 0))] [] 1 = t_tTruth2 := by kernel_rfl
def t_tPutInt : T :=
(.new
(.callv 0 [.a (.ptr (.v 6) 0)] [(.a 0, .prop 1), (.b (.v 6), .prop 7)] [.v, .p, .p] (.w (.a (.val 9))) [(.a 9, .prop 10), (.a 0, .prop 11), (.b (.v 6), .prop 7)]
(.read (.nilCheck (.tmp 10)) 0 [(10, .w (.a (.val 9)))] [(.a 9, .prop 10), (.b (.v 6), .prop 7)] [] (.w (.a (.val 9)))
(.read (.load 3 (.tmp 11)) 3 [(11, .w (.a (.val 9)))] [(.a 9, .prop 10), (.b (.v 6), .prop 7)] [.i] (.w (.a (.int .i64 (.v 12))))
(.callv 2 [.a (.int .i64 (.v 12))] [(.a 2, .prop 3)] [.s, .p] (.w (.a (.str (.v 13)))) [(.a 2, .prop 14)]
(.ret (.w (.a (.str (.v 13)))) [(.a 0, .prop 11), (.a 2, .prop 14), (.a 4, .prop 5), (.b (.v 6), .prop 7)]))))))
theorem tree_tPutInt : tree Tryz.prog { absT := [71], opq := [60], outl := true, rdf := true, vlk := true } Tryz.f110 [.agg [.val 0, .val 2, .val 4], .a (.ptr (.v 6) 0)] [(.a 0, .prop 1), (.a 2, .prop 3), (.a 4, .prop 5), (.b (.v 6), .prop 7)] 8 = t_tPutInt := by kernel_rfl
def t_tTakeInt : T :=
(.new
(.callv 4 [.a (.str (.v 8))] [(.a 4, .prop 5)] [.i, .c, .p] (.tup [.a (.int .i64 (.v 10)), .a (.bool (.v 11))]) [(.a 4, .prop 12)]
(.br (.v 11)
 (.callv 0 [.a (.ptr (.v 6) 0)] [(.a 0, .prop 1), (.b (.v 6), .prop 7)] [.v, .p, .p] (.w (.a (.val 13))) [(.a 13, .prop 14), (.a 0, .prop 15), (.b (.v 6), .prop 7)]
(.read (.nilCheck (.tmp 20)) 0 [(20, .w (.a (.val 13)))] [(.a 13, .prop 14), (.b (.v 6), .prop 7)] [] (.w (.a (.val 13)))
(.op (.store 3 (.tmp 22) (.tmp 21)) 0 [(22, .w (.a (.val 13))), (21, .w (.a (.int .i64 (.v 10))))] [(.a 13, .prop 14), (.b (.v 6), .prop 7)] [.p, .p] (.tup []) [(.a 13, .prop 16), (.b (.v 6), .prop 17)]
(.ret (.w (.a (.bool (.v 11)))) [(.a 0, .prop 15), (.a 2, .prop 3), (.a 4, .prop 12), (.b (.v 6), .prop 17)]))))
(.ret (.w (.a (.bool (.v 11)))) [(.a 0, .prop 1), (.a 2, .prop 3), (.a 4, .prop 12), (.b (.v 6), .prop 7)]))))
theorem tree_tTakeInt : tree Tryz.prog { absT := [71], opq := [60], outl := true, rdf := true, vlk := true } Tryz.f111 [.agg [.val 0, .val 2, .val 4], .a (.ptr (.v 6) 0), .a (.str (.v 8))] [(.a 0, .prop 1), (.a 2, .prop 3), (.a 4, .prop 5), (.b (.v 6), .prop 7)] 9 = t_tTakeInt := by kernel_rfl
def t_tPutBool : T :=
(.new
(.callv 0 [.a (.ptr (.v 6) 0)] [(.a 0, .prop 1), (.b (.v 6), .prop 7)] [.v, .p, .p] (.w (.a (.val 9))) [(.a 9, .prop 10), (.a 0, .prop 11), (.b (.v 6), .prop 7)]
(.read (.nilCheck (.tmp 10)) 0 [(10, .w (.a (.val 9)))] [(.a 9, .prop 10), (.b (.v 6), .prop 7)] [] (.w (.a (.val 9)))
(.read (.load 4 (.tmp 11)) 4 [(11, .w (.a (.val 9)))] [(.a 9, .prop 10), (.b (.v 6), .prop 7)] [.c] (.w (.a (.bool (.v 12))))
(.callv 2 [.a (.bool (.v 12))] [(.a 2, .prop 3)] [.s, .p] (.w (.a (.str (.v 13)))) [(.a 2, .prop 14)]
(.ret (.w (.a (.str (.v 13)))) [(.a 0, .prop 11), (.a 2, .prop 14), (.a 4, .prop 5), (.b (.v 6), .prop 7)]))))))
theorem tree_tPutBool : tree Tryz.prog { absT := [71], opq := [64], outl := true, rdf := true, vlk := true } Tryz.f112 [.agg [.val 0, .val 2, .val 4], .a (.ptr (.v 6) 0)] [(.a 0, .prop 1), (.a 2, .prop 3), (.a 4, .prop 5), (.b (.v 6), .prop 7)] 8 = t_tPutBool := by kernel_rfl
def t_tTakeBool : T :=
(.new
(.callv 4 [.a (.str (.v 8))] [(.a 4, .prop 5)] [.c, .c, .p] (.tup [.a (.bool (.v 10)), .a (.bool (.v 11))]) [(.a 4, .prop 12)]
(.br (.v 11)
 (.callv 0 [.a (.ptr (.v 6) 0)] [(.a 0, .prop 1), (.b (.v 6), .prop 7)] [.v, .p, .p] (.w (.a (.val 13))) [(.a 13, .prop 14), (.a 0, .prop 15), (.b (.v 6), .prop 7)]
(.read (.nilCheck (.tmp 20)) 0 [(20, .w (.a (.val 13)))] [(.a 13, .prop 14), (.b (.v 6), .prop 7)] [] (.w (.a (.val 13)))
(.op (.store 4 (.tmp 22) (.tmp 21)) 0 [(22, .w (.a (.val 13))), (21, .w (.a (.bool (.v 10))))] [(.a 13, .prop 14), (.b (.v 6), .prop 7)] [.p, .p] (.tup []) [(.a 13, .prop 16), (.b (.v 6), .prop 17)]
(.ret (.w (.a (.bool (.v 11)))) [(.a 0, .prop 15), (.a 2, .prop 3), (.a 4, .prop 12), (.b (.v 6), .prop 17)]))))
(.ret (.w (.a (.bool (.v 11)))) [(.a 0, .prop 1), (.a 2, .prop 3), (.a 4, .prop 12), (.b (.v 6), .prop 7)]))))
theorem tree_tTakeBool : tree Tryz.prog { absT := [71], opq := [64], outl := true, rdf := true, vlk := true } Tryz.f113 [.agg [.val 0, .val 2, .val 4], .a (.ptr (.v 6) 0), .a (.str (.v 8))] [(.a 0, .prop 1), (.a 2, .prop 3), (.a 4, .prop 5), (.b (.v 6), .prop 7)] 9 = t_tTakeBool := by kernel_rfl
def t_tPutBytes : T :=
(.new
(.callv 0 [.a (.ptr (.v 6) 0)] [(.a 0, .prop 1), (.b (.v 6), .prop 7)] [.v, .p, .p] (.w (.a (.val 9))) [(.a 9, .prop 10), (.a 0, .prop 11), (.b (.v 6), .prop 7)]
(.read (.nilCheck (.tmp 10)) 0 [(10, .w (.a (.val 9)))] [(.a 9, .prop 10), (.b (.v 6), .prop 7)] [] (.w (.a (.val 9)))
(.read (.load 22 (.tmp 11)) 22 [(11, .w (.a (.val 9)))] [(.a 9, .prop 10), (.b (.v 6), .prop 7)] [.a, .n, .n] (.w (.a (.sl (.v 12) (.v 13) (.v 14))))
(.callv 2 [.a (.sl (.v 12) (.v 13) (.v 14))] [(.a 2, .prop 3), (.a 9, .prop 10), (.b (.v 6), .prop 7)] [.s, .p] (.w (.a (.str (.v 15)))) [(.a 2, .prop 16), (.a 9, .prop 10), (.b (.v 6), .prop 7)]
(.ret (.w (.a (.str (.v 15)))) [(.a 0, .prop 11), (.a 2, .prop 16), (.a 4, .prop 5), (.b (.v 6), .prop 7)]))))))
theorem tree_tPutBytes : tree Tryz.prog { absT := [71], opq := [67], outl := true, rdf := true, vlk := true } Tryz.f114 [.agg [.val 0, .val 2, .val 4], .a (.ptr (.v 6) 0)] [(.a 0, .prop 1), (.a 2, .prop 3), (.a 4, .prop 5), (.b (.v 6), .prop 7)] 8 = t_tPutBytes := by kernel_rfl
def t_tTakeBytes : T :=
(.new
(.callv 4 [.a (.str (.v 8))] [(.a 4, .prop 5)] [.a, .n, .n, .p, .c, .p] (.tup [.a (.sl (.v 10) (.v 11) (.v 12)), .a (.bool (.v 14))]) [(.a 10, .prop 13), (.a 4, .prop 15)]
(.br (.v 14)
 (.callv 0 [.a (.ptr (.v 6) 0)] [(.a 0, .prop 1), (.b (.v 6), .prop 7)] [.v, .p, .p] (.w (.a (.val 16))) [(.a 16, .prop 17), (.a 0, .prop 18), (.b (.v 6), .prop 7)]
(.read (.nilCheck (.tmp 20)) 0 [(20, .w (.a (.val 16)))] [(.a 16, .prop 17), (.b (.v 6), .prop 7)] [] (.w (.a (.val 16)))
(.op (.store 22 (.tmp 22) (.tmp 21)) 0 [(22, .w (.a (.val 16))), (21, .w (.a (.sl (.v 10) (.v 11) (.v 12))))] [(.a 16, .prop 17), (.b (.v 6), .prop 7), (.a 10, .prop 13)] [.p, .p] (.tup []) [(.a 16, .prop 19), (.b (.v 6), .prop 20), (.a 10, .prop 13)]
(.ret (.w (.a (.bool (.v 14)))) [(.a 0, .prop 18), (.a 2, .prop 3), (.a 4, .prop 15), (.b (.v 6), .prop 20)]))))
(.ret (.w (.a (.bool (.v 14)))) [(.a 0, .prop 1), (.a 2, .prop 3), (.a 4, .prop 15), (.b (.v 6), .prop 7)]))))
theorem tree_tTakeBytes : tree Tryz.prog { absT := [71], opq := [67], outl := true, rdf := true, vlk := true } Tryz.f115 [.agg [.val 0, .val 2, .val 4], .a (.ptr (.v 6) 0), .a (.str (.v 8))] [(.a 0, .prop 1), (.a 2, .prop 3), (.a 4, .prop 5), (.b (.v 6), .prop 7)] 9 = t_tTakeBytes := by kernel_rfl
def t_tPutStr : T :=
(.new
(.callv 0 [.a (.ptr (.v 6) 0)] [(.a 0, .prop 1), (.b (.v 6), .prop 7)] [.v, .p, .p] (.w (.a (.val 9))) [(.a 9, .prop 10), (.a 0, .prop 11), (.b (.v 6), .prop 7)]
(.read (.nilCheck (.tmp 10)) 0 [(10, .w (.a (.val 9)))] [(.a 9, .prop 10), (.b (.v 6), .prop 7)] [] (.w (.a (.val 9)))
(.read (.load 9 (.tmp 11)) 9 [(11, .w (.a (.val 9)))] [(.a 9, .prop 10), (.b (.v 6), .prop 7)] [.s] (.w (.a (.str (.v 12))))
(.callv 2 [.a (.str (.v 12))] [(.a 2, .prop 3)] [.s, .p] (.w (.a (.str (.v 13)))) [(.a 2, .prop 14)]
(.ret (.w (.a (.str (.v 13)))) [(.a 0, .prop 11), (.a 2, .prop 14), (.a 4, .prop 5), (.b (.v 6), .prop 7)]))))))
theorem tree_tPutStr : tree Tryz.prog { absT := [71], opq := [87], outl := true, rdf := true, vlk := true } Tryz.f116 [.agg [.val 0, .val 2, .val 4], .a (.ptr (.v 6) 0)] [(.a 0, .prop 1), (.a 2, .prop 3), (.a 4, .prop 5), (.b (.v 6), .prop 7)] 8 = t_tPutStr := by kernel_rfl
def t_tTakeStr : T :=
(.new
(.callv 4 [.a (.str (.v 8))] [(.a 4, .prop 5)] [.s, .c, .p] (.tup [.a (.str (.v 10)), .a (.bool (.v 11))]) [(.a 4, .prop 12)]
(.br (.v 11)
 (.callv 0 [.a (.ptr (.v 6) 0)] [(.a 0, .prop 1), (.b (.v 6), .prop 7)] [.v, .p, .p] (.w (.a (.val 13))) [(.a 13, .prop 14), (.a 0, .prop 15), (.b (.v 6), .prop 7)]
(.read (.nilCheck (.tmp 20)) 0 [(20, .w (.a (.val 13)))] [(.a 13, .prop 14), (.b (.v 6), .prop 7)] [] (.w (.a (.val 13)))
(.op (.store 9 (.tmp 22) (.tmp 21)) 0 [(22, .w (.a (.val 13))), (21, .w (.a (.str (.v 10))))] [(.a 13, .prop 14), (.b (.v 6), .prop 7)] [.p, .p] (.tup []) [(.a 13, .prop 16), (.b (.v 6), .prop 17)]
(.ret (.w (.a (.bool (.v 11)))) [(.a 0, .prop 15), (.a 2, .prop 3), (.a 4, .prop 12), (.b (.v 6), .prop 17)]))))
(.ret (.w (.a (.bool (.v 11)))) [(.a 0, .prop 1), (.a 2, .prop 3), (.a 4, .prop 12), (.b (.v 6), .prop 7)]))))
theorem tree_tTakeStr : tree Tryz.prog { absT := [71], opq := [87], outl := true, rdf := true, vlk := true } Tryz.f117 [.agg [.val 0, .val 2, .val 4], .a (.ptr (.v 6) 0), .a (.str (.v 8))] [(.a 0, .prop 1), (.a 2, .prop 3), (.a 4, .prop 5), (.b (.v 6), .prop 7)] 9 = t_tTakeStr := by kernel_rfl
def t_tLine : T :=
(.new
(.call 13 [.a (.int .i64 (.v 0))] [] [.s, .a, .n, .n, .p] (.tup [.a (.str (.v 18)), .a (.sl (.v 19) (.v 20) (.v 21))]) [(.a 19, .prop 22)]
(.br (.o2 .seq (.v 18) (.s []))
(.ret (.w (.a (.str (.s [63])))) [(.a 9, .prop 12), (.a 13, .prop 16)])
(.new
(.loop [.a, .n, .n, .i, .p, .p] [.a (.b (.v 23) 0), .e (.o2 .nadd (.n 1) (.n 0)), .e (.o2 .nadd (.n 1) (.n 0)), .e (.o1 .neg (.o1 .neg (.i 0))), .p [(.b (.v 23), .cells [.str (.v 18)] 9)], .p [(.b (.v 17), .cells [.int .i64 (.v 0), .int .i64 (.v 1), .int .i64 (.v 2), .bool (.v 3), .int .i64 (.v 4), .str (.v 5), .str (.v 6), .int .i64 (.v 7), .int .i64 (.v 8), .sl (.v 9) (.v 10) (.v 11), .sl (.v 13) (.v 14) (.v 15)] 26), (.a 9, .prop 12), (.a 13, .prop 16)]]
(.br (.o2 .lt (.v 27) (.o1 .ofNat (.v 20)))
(.need (.o2 .le (.i 0) (.v 27))
(.need (.o1 .isSome (.v 19))
(.read (.load 50 (.tmp 22)) 50 [(22, .w (.a (.eptr 19 (.v 27) 1 0)))] [(.a 19, .prop 22)] [.v] (.w (.a (.val 30)))
   (.callm 30 "tideline/tale.put" [.a (.ptr (.v 17) 0)] [(.a 19, .prop 22), (.b (.v 17), .prop 29)] [.s, .p] (.w (.a (.str (.v 31)))) [(.b (.v 17), .prop 32), (.a 19, .prop 22)]
(.new
(.op (.call ⟨.builtin .append, #[.tmp 24, .tmp 27], #[30, 30]⟩) 30 [(24, .w (.a (.sl (.v 24) (.v 25) (.v 26)))), (27, .w (.a (.sl (.b (.v 33) 0) (.n 1) (.n 1))))] [(.a 24, .prop 28), (.b (.v 33), .cells [.str (.v 31)] 9)] [.a, .n, .n, .p] (.w (.a (.sl (.v 34) (.v 35) (.v 36)))) [(.a 34, .prop 37), (.b (.v 33), .cells [.str (.v 31)] 9)]
(.need (.o1 (.inr .i64) (.o2 .add (.v 27) (.i 1)))
(.again 0 [.a (.v 34), .e (.o2 .nadd (.v 35) (.n 0)), .e (.o2 .nadd (.v 36) (.n 0)), .e (.o1 .neg (.o1 .neg (.o2 .add (.v 27) (.i 1)))), .p [(.a 34, .prop 37)], .p [(.b (.v 17), .prop 32)]]))))))))
(.call 14 [.a (.sl (.v 24) (.v 25) (.v 26)), .a (.str (.s [32]))] [(.a 24, .prop 28)] [.s, .p] (.w (.a (.str (.v 30)))) [(.a 24, .prop 31)]
(.ret (.w (.a (.str (.v 30)))) []))))))))
theorem tree_tLine : tree Tryz.prog { absT := [26], hv := [(0, [.b (.v 23), .b (.v 17)])], outl := true, snk := [(0, [.a 9, .a 13])], opn := true, rdf := true } Tryz.f6 [.agg [.int .i64 (.v 0), .int .i64 (.v 1), .int .i64 (.v 2), .bool (.v 3), .int .i64 (.v 4), .str (.v 5), .str (.v 6), .int .i64 (.v 7), .int .i64 (.v 8), .sl (.v 9) (.v 10) (.v 11), .sl (.v 13) (.v 14) (.v 15)]] [(.a 9, .prop 12), (.a 13, .prop 16)] 17 = t_tLine := by kernel_rfl
def t_tRead : T :=
(.new
(.call 15 [.a (.str (.v 0)), .a (.str (.s [32]))] [] [.a, .n, .n, .p] (.w (.a (.sl (.v 2) (.v 3) (.v 4)))) [(.a 2, .prop 5)]
(.loop [.i, .i] [.e (.o1 .neg (.o1 .neg (.i 0))), .e (.o1 .neg (.o1 .neg (.i 1)))]
(.br (.o2 .le (.v 7) (.i 8))
(.call 13 [.a (.int .i64 (.v 7))] [] [.s, .a, .n, .n, .p] (.tup [.a (.str (.v 8)), .a (.sl (.v 9) (.v 10) (.v 11))]) [(.a 9, .prop 12)]
(.need (.o2 .lt (.i 0) (.o1 .ofNat (.v 3)))
(.need (.o1 .isSome (.v 2))
(.read (.load 9 (.tmp 24)) 9 [(24, .w (.a (.eptr 2 (.i 0) 1 0)))] [(.a 2, .prop 5)] [.s] (.w (.a (.str (.v 13))))
(.br (.o1 .not (.o2 .seq (.v 8) (.v 13)))
(.need (.o1 (.inr .i64) (.o2 .add (.v 7) (.i 1)))
(.again 0 [.e (.o1 .neg (.o1 .neg (.v 6))), .e (.o1 .neg (.o1 .neg (.o2 .add (.v 7) (.i 1))))]))
(.need (.o1 (.inr .i64) (.o2 .sub (.o1 .ofNat (.v 3)) (.i 1)))
(.br (.o1 .not (.o2 .eq (.o1 .ofNat (.v 10)) (.o2 .sub (.o1 .ofNat (.v 3)) (.i 1))))
(.need (.o1 (.inr .i64) (.o2 .add (.v 7) (.i 1)))
(.again 0 [.e (.o1 .neg (.o1 .neg (.v 6))), .e (.o1 .neg (.o1 .neg (.o2 .add (.v 7) (.i 1))))]))
(.new
(.loop [.i, .i, .p, .p] [.e (.o1 .neg (.o1 .neg (.v 6))), .e (.o1 .neg (.o1 .neg (.i 0))), .p [(.b (.v 14), .cells [.int .i64 (.v 7), .int .i64 (.i 0), .int .i64 (.i 0), .bool (.c false), .int .i64 (.i 0), .str (.s []), .str (.s []), .int .i64 (.i 0), .int .i64 (.i 0), .sl .nil (.n 0) (.n 0), .sl .nil (.n 0) (.n 0)] 26)], .p [(.a 9, .prop 12)]]
(.br (.o2 .lt (.v 16) (.o1 .ofNat (.v 10)))
(.need (.o2 .le (.i 0) (.v 16))
(.need (.o1 .isSome (.v 9))
(.read (.load 50 (.tmp 42)) 50 [(42, .w (.a (.eptr 9 (.v 16) 1 0)))] [(.a 9, .prop 18)] [.v] (.w (.a (.val 19)))
(.need (.o1 (.inr .i64) (.o2 .add (.v 16) (.i 1)))
(.need (.o2 .le (.i 0) (.o2 .add (.v 16) (.i 1)))
(.need (.o2 .lt (.o2 .add (.v 16) (.i 1)) (.o1 .ofNat (.v 3)))
(.read (.load 9 (.tmp 48)) 9 [(48, .w (.a (.eptr 2 (.o2 .add (.v 16) (.i 1)) 1 0)))] [(.a 2, .prop 5)] [.s] (.w (.a (.str (.v 20))))
(.op (.makeFunc (.method "tideline/tale.take") #[.tmp 44] #[]) 55 [(44, .w (.a (.val 19)))] [(.a 9, .prop 18)] [.v, .p, .p] (.w (.a (.val 21))) [(.a 21, .prop 22), (.a 9, .prop 23)]
(.read (.nilCheck (.tmp 50)) 55 [(50, .w (.a (.val 21)))] [(.a 21, .prop 22)] [] (.w (.a (.val 21)))
      (.callm 19 "tideline/tale.take" [.a (.ptr (.v 14) 0), .a (.str (.v 20))] [(.a 9, .prop 23), (.b (.v 14), .prop 17)] [.c, .p] (.w (.a (.bool (.v 24)))) [(.b (.v 14), .prop 25), (.a 9, .prop 23)]
(.br (.o1 .not (.v 24))
(.ret (.tup [.agg [.int .i64 (.i 0), .int .i64 (.i 0), .int .i64 (.i 0), .bool (.c false), .int .i64 (.i 0), .str (.s []), .str (.s []), .int .i64 (.i 0), .int .i64 (.i 0), .sl .nil (.n 0) (.n 0), .sl .nil (.n 0) (.n 0)], .a (.int .i64 (.i 3))]) [])
(.again 0 [.e (.o1 .neg (.o1 .neg (.v 15))), .e (.o1 .neg (.o1 .neg (.o2 .add (.v 16) (.i 1)))), .p [(.b (.v 14), .prop 25)], .p [(.a 9, .prop 23)]]))))))))))))
(.read (.load 26 (.tmp 8)) 26 [(8, .w (.a (.ptr (.v 14) 0)))] [(.b (.v 14), .prop 17)] [.i, .i, .i, .c, .i, .s, .s, .i, .i, .a, .n, .n, .a, .n, .n] (.w (.agg [.int .i64 (.v 19), .int .i64 (.v 20), .int .i64 (.v 21), .bool (.v 22), .int .i64 (.v 23), .str (.v 24), .str (.v 25), .int .i64 (.v 26), .int .i64 (.v 27), .sl (.v 28) (.v 29) (.v 30), .sl (.v 31) (.v 32) (.v 33)]))
(.call 6 [.agg [.int .i64 (.v 19), .int .i64 (.v 20), .int .i64 (.v 21), .bool (.v 22), .int .i64 (.v 23), .str (.v 24), .str (.v 25), .int .i64 (.v 26), .int .i64 (.v 27), .sl (.v 28) (.v 29) (.v 30), .sl (.v 31) (.v 32) (.v 33)]] [(.b (.v 14), .prop 17)] [.s, .p] (.w (.a (.str (.v 34)))) [(.b (.v 14), .prop 35)]
(.br (.o1 .not (.o2 .seq (.v 34) (.v 0)))
(.ret (.tup [.agg [.int .i64 (.i 0), .int .i64 (.i 0), .int .i64 (.i 0), .bool (.c false), .int .i64 (.i 0), .str (.s []), .str (.s []), .int .i64 (.i 0), .int .i64 (.i 0), .sl .nil (.n 0) (.n 0), .sl .nil (.n 0) (.n 0)], .a (.int .i64 (.i 3))]) [])
(.read (.load 26 (.tmp 8)) 26 [(8, .w (.a (.ptr (.v 14) 0)))] [(.b (.v 14), .prop 35)] [.i, .i, .i, .c, .i, .s, .s, .i, .i, .a, .n, .n, .a, .n, .n] (.w (.agg [.int .i64 (.v 36), .int .i64 (.v 37), .int .i64 (.v 38), .bool (.v 39), .int .i64 (.v 40), .str (.v 41), .str (.v 42), .int .i64 (.v 43), .int .i64 (.v 44), .sl (.v 45) (.v 46) (.v 47), .sl (.v 48) (.v 49) (.v 50)]))
(.ret (.tup [.agg [.int .i64 (.v 36), .int .i64 (.v 37), .int .i64 (.v 38), .bool (.v 39), .int .i64 (.v 40), .str (.v 41), .str (.v 42), .int .i64 (.v 43), .int .i64 (.v 44), .sl (.v 45) (.v 46) (.v 47), .sl (.v 48) (.v 49) (.v 50)], .a (.int .i64 (.i 0))]) [(.b (.v 14), .prop 35)])))))))))))))))
(.ret (.tup [.agg [.int .i64 (.i 0), .int .i64 (.i 0), .int .i64 (.i 0), .bool (.c false), .int .i64 (.i 0), .str (.s []), .str (.s []), .int .i64 (.i 0), .int .i64 (.i 0), .sl .nil (.n 0) (.n 0), .sl .nil (.n 0) (.n 0)], .a (.int .i64 (.i 3))]) [])))))
theorem tree_tRead : tree Tryz.prog { absT := [26], hv := [(2, [.b (.v 14), .a 9])], outl := true, opn := true, rdf := true } Tryz.f7 [.a (.str (.v 0))] [] 1 = t_tRead := by kernel_rfl
end Go.Proofs.YtcpjdfihpdjkbaaGreatDoor.RX



namespace Go.Proofs.YtcpjdfihpdjkbaaGreatDoor
set_option linter.unusedSimpArgs false
set_option linter.unusedVariables false
open Go.Proofs.YtcpjdfihpdjkbaaGreatDoor RX Go.RowKit
set_option maxRecDepth 100000

theorem _root_.Go.Proofs.YtcpjdfihpdjkbaaGreatDoor.Sat.below {w w' : World} {R h F : PH} (s : Sat w R h F) (b : Below w.heap.size w w') : Sat w' R h F := by
  have k : ∀ g : PH, g.own w → g.own w' := fun g og i o e => by rw [b.block i (og.lt e)]; exact og i o e
  exact ⟨s.dRh, s.dRF, s.dhF, k R s.oR, k h s.oh, k F s.oF, s.gl⟩
theorem Tri.ofBelow {P : Program} {f : FuncId} {args : Array Value} {B : Value → Prop} (A : HP) (h : ∀ w R h F, Sat w R h F → A.p R h → Calls P f args w fun e w' => ∃ v, e = .returned v ∧ B v ∧ Below w.heap.size w w') : Tri P f args A (fun u => HP.and (B u) A) :=
  fun w R x F s a => (h w R x F s a).mono fun e w' ⟨v, he, hB, b⟩ => ⟨v, he, ⟨b.os, b.tape, b.output, b.size⟩, R, x, PH.le.refl _, s.below b, hB, a⟩
theorem below_grow (w : World) (os : Array Obj) (k : Nat) : Below w.heap.size w (Go.Sort.grow (w.drewN k) os) :=
  ⟨rfl, rfl, rfl, by simp [Go.Sort.grow, World.drewN], fun i hi => by simp [Go.Sort.grow, World.drewN, Array.getElem?_append, hi]⟩
theorem below_bytes (w : World) (e : TypeId) (s : ByteArray) : Below w.heap.size w (Lib.bytesWorld w e s) := by
  have hs : ∀ (x : World) (a : Addr) (n : Nat), Below a.block x (x.freeze a n) := fun x a n => by
    unfold World.freeze
    split
    · exact Below.refl _ _
    · refine ⟨rfl, rfl, rfl, by simp, fun i hi => ?_⟩
      simp only [Array.getElem?_modify]
      rw [if_neg (by omega)]
  unfold Lib.bytesWorld
  refine Below.trans (b := (w.drew.alloc (.cells (Lib.bytesCells w e s) e))) ?_ (hs (w.drew.alloc (.cells (Lib.bytesCells w e s) e)) ⟨w.heap.size, (Lib.bytesCells w e s).size, none⟩ 1)
  have e : (w.drew.alloc (.cells (Lib.bytesCells w e s) e)).heap = w.heap.push (.cells (Lib.bytesCells w e s) e) := rfl
  exact ⟨rfl, rfl, rfl, by rw [e]; simp, fun i hi => by rw [e, Array.getElem?_push, if_neg (Nat.ne_of_lt hi)]⟩

theorem var_of {w : World} {R h F : PH} (s : Sat w R h F) {g : Nat} {nm : String} {cs : Array Value} {ty : TypeId} {fr : Nat × Nat} (hn : Tryz.prog.globalNamed nm = some g) (hg : R g = some (.cells cs ty fr)) : w.var? Tryz.prog nm = some cs := by
  unfold World.var?
  rw [hn]
  simp only [Option.bind_some]
  rw [s.oR _ _ hg]
theorem tens_of {w : World} {R h F : PH} (s : Sat w R h F) : Lib.TabIs Tryz.prog w "internal/strconv.uint64pow10" .u64 Lib.pow10Tab := by
  obtain ⟨⟨ty, fr, e⟩, _⟩ := s.gl
  have := var_of s (nm := "internal/strconv.uint64pow10") (g := 1) (by kernel_rfl) e
  unfold Lib.TabIs
  rw [this]
  have : Lib.pow10Tab = tens := by decide
  rw [this]
theorem syn_of {w : World} {R h F : PH} (s : Sat w R h F) : ∃ tp p, w.var? Tryz.prog "strconv.ErrSyntax" = some #[.iface tp p] := by
  obtain ⟨_, ⟨tp, p, ty, fr, e⟩, _⟩ := s.gl
  exact ⟨tp, p, var_of s (g := 4) (by kernel_rfl) e⟩
theorem ran_of {w : World} {R h F : PH} (s : Sat w R h F) : ∃ tp p, w.var? Tryz.prog "strconv.ErrRange" = some #[.iface tp p] := by
  obtain ⟨_, _, ⟨tp, p, ty, fr, e⟩⟩ := s.gl
  exact ⟨tp, p, var_of s (g := 5) (by kernel_rfl) e⟩

theorem itoa_ok (n : Int) (hn : IntKind.i64.min ≤ n ∧ n ≤ IntKind.i64.max) (A : HP) : Tri Tryz.prog 16 #[.int .i64 n] A (fun v => HP.and (v = sE (Lib.itoa n)) A) :=
  Tri.ofBelow (B := fun v => v = sE (Lib.itoa n)) A fun w R h F s _ => (Tryz.strconv_Itoa n hn.1 hn.2 w (tens_of s)).mono fun e w' ⟨he, k, os, hw⟩ => ⟨_, he, rfl, hw ▸ below_grow w os k⟩
def atoiV (s : List UInt8) : Int := match Lib.atoiAll s with
  | .ok v => v
  | .range => Lib.atoiSat s
  | _ => 0
def atoiB (s : List UInt8) : Bool := match Lib.atoiAll s with
  | .ok _ => true
  | _ => false
theorem atoi_ok (s : List UInt8) (hs : s.length ≤ 1000000000) (A : HP) : Tri Tryz.prog 53 #[sE s] A (fun v => HP.and (∃ ev, v = .tuple #[.int .i64 (atoiV s), ev] ∧ (if atoiB s = true then ev = .nilIface else ∃ t x, ev = .iface t (.pointer (some x)))) A) :=
  Tri.ofBelow (B := fun v => ∃ ev, v = .tuple #[.int .i64 (atoiV s), ev] ∧ (if atoiB s = true then ev = .nilIface else ∃ t x, ev = .iface t (.pointer (some x)))) A fun w R h F st _ => by
    have hsz : (⟨s.toArray⟩ : ByteArray).size = s.length := rfl
    cases hc : Lib.atoiAll s with
    | ok v =>
      refine (Tryz.strconv_Atoi_ok ⟨s.toArray⟩ (by rw [hsz]; omega) v (by simpa using hc) w).mono fun e w' ⟨he, hw⟩ => ⟨_, he, ⟨.nilIface, by unfold atoiV; rw [hc], by unfold atoiB; rw [hc]; rfl⟩, ?_⟩
      rcases hw with rfl | ⟨t, rfl⟩
      · exact Below.refl _ _
      · exact below_bytes w _ t
    | range =>
      obtain ⟨tp, p, hv⟩ := ran_of st
      exact (Tryz.strconv_Atoi_range_var ⟨s.toArray⟩ (by rw [hsz]; omega) (by simpa using hc) tp p w hv).mono fun e w' ⟨N, he, _, _, hb⟩ => ⟨_, he, ⟨_, by unfold atoiV; rw [hc], by unfold atoiB; rw [hc]; exact ⟨_, _, rfl⟩⟩, hb⟩
    | _ =>
      obtain ⟨tp, p, hv⟩ := syn_of st
      exact (Tryz.strconv_Atoi_syntax_var ⟨s.toArray⟩ (by rw [hsz]; omega) (by exact hc) tp p w hv).mono fun e w' ⟨N, he, _, _, hb⟩ => ⟨_, he, ⟨_, by unfold atoiV; rw [hc], by unfold atoiB; rw [hc]; exact ⟨_, _, rfl⟩⟩, hb⟩
theorem eqNilI {i : Nat} {ty u t : TypeId} {ev : Value} {b : Bool} {ms : Array (String × TypeId)} (hu : Tryz.prog.underlying t = some (.interface ms)) (h : if b = true then ev = .nilIface else ∃ t x, ev = .iface t (.pointer (some x))) {A : HP} : ORead Tryz.prog (semW (.binOp .eql t (.tmp i) (.const .nilIface) u) ty [(i, ev)]) A (.bool b) := fun w R hh F s _ => by
  cases b with
  | true =>
    obtain rfl : ev = .nilIface := by simpa using h
    simp only [semW, execOp, arW, List.find?_cons, beq_self_eq_true]
    have he : (Op.equal t .nilIface .nilIface).run Tryz.prog w = .ok true w := RX.run_equal fun n => by simp [Op.equalIn, RX.run_underlying hu]
    simp [eqGuard, binOp, program, Sem.run_bind, Result.andThen, he]
  | false =>
    obtain ⟨tt, x, rfl⟩ : ∃ t x, ev = .iface t (.pointer (some x)) := by simpa using h
    have he : (Op.equal t (.iface tt (.pointer (some x))) .nilIface).run Tryz.prog w = .ok false w := RX.run_equal fun n => by simp [Op.equalIn, RX.run_underlying hu]
    simp only [semW, execOp, arW, List.find?_cons, beq_self_eq_true]
    simp [eqGuard, binOp, program, Sem.run_bind, Result.andThen, he]
theorem isIf {t : TypeId} (h : (match Tryz.prog.underlying t with | some (.interface _) => true | _ => false) = true) : ∃ ms, Tryz.prog.underlying t = some (.interface ms) := by
  split at h
  · rename_i ms e; exact ⟨ms, e⟩
  · cases h
theorem readNumber_ok (s : List UInt8) (hs : s.length ≤ 1000000000) (K : HP) : Tri Tryz.prog 36 #[sE s] K (fun v => HP.and (v = .tuple #[.int .i64 (atoiV s), .bool (atoiB s)]) K) := by
  refine Tri.weak (A := HP.sep HP.tt K) (B := fun v => HP.sep (HP.pure (v = .tuple #[.int .i64 (atoiV s), .bool (atoiB s)])) K) (Tri.frame ?_ K) (fun R h H => HP.tt_sep H) fun v R h H => ⟨HP.sep_left H, HP.sep_right H⟩
  refine tri_of_tree (ρ := [.s s]) mixed Tryz.func36 tree_tReadNumber ?_
  unfold t_tReadNumber
  simp only [T.den, E.prop, E.den, RX.look, F1.app, F2.app, Uni.int_i, Uni.nat_n, Uni.bool_c, Uni.str_s, Uni.adr_a, Uni.val_v, Uni.hp_p, hden, cden, V.den, W.den, A.den, BR.den, SA.den, FV.den, capV, exs, exP, allP, Cur.app, List.map_cons, List.map_nil, List.cons_append, List.nil_append, List.drop_succ_cons, List.drop_zero, List.length_cons, List.length_nil, Nat.zero_add, Nat.reduceAdd, Int.neg_neg, Bool.not_not, List.append_nil, Nat.add_zero, List.getElem?_cons_zero, List.getElem?_cons_succ, Decidable.not_not, semW_eq, ne_eq, Nat.reduceEqDiff, not_false_eq_true]
  refine (atoi_ok s hs HP.tt).weak (fun _ _ h => h) ?_
  rintro v R h ⟨⟨ev, rfl, he⟩, H⟩
  refine ⟨atoiV s, ev, HP.tt, ?_, ⟨atoiB s, ?_, .of fun R h H => rfl⟩, H⟩
  · have : oneC ev = ev := by
      split at he
      · subst he; rfl
      · obtain ⟨t, x, rfl⟩ := he; rfl
    rw [this]
  · have : oneC ev = ev := by
      split at he
      · subst he; rfl
      · obtain ⟨t, x, rfl⟩ := he; rfl
    rw [this]
    obtain ⟨ms, hu⟩ := isIf (t := 74) (by kernel_rfl)
    exact eqNilI hu he
end Go.Proofs.YtcpjdfihpdjkbaaGreatDoor



namespace Go.Proofs.YtcpjdfihpdjkbaaGreatDoor
set_option linter.unusedSimpArgs false
set_option linter.unusedVariables false
open Go.Proofs.YtcpjdfihpdjkbaaGreatDoor RX Go.RowKit
set_option maxRecDepth 100000

theorem inI64t (x : Int) (h1 : -9223372036854775808 ≤ x) (h2 : x ≤ 9223372036854775807) : IntKind.i64.min ≤ x ∧ x ≤ IntKind.i64.max := ⟨h1, h2⟩
def digsL : List UInt8 := [48, 49, 50, 51, 52, 53, 54, 55, 56, 57, 97, 98, 99, 100, 101, 102]
def hexD (n : Nat) : UInt8 := digsL.getD n 0
def hex1 (x : UInt8) : List UInt8 := [hexD (x.toNat / 16), hexD (x.toNat % 16)]
def hexL (l : List UInt8) : List UInt8 := l.flatMap hex1
def hexW (l : List UInt8) : List UInt8 := if l = [] then [45] else hexL l
theorem hexL_len (l : List UInt8) : (hexL l).length = 2 * l.length := by
  unfold hexL
  induction l with
  | nil => rfl
  | cons x r ih => rw [List.flatMap_cons, List.length_append, ih]; show 2 + _ = _; rw [List.length_cons]; omega
theorem und8b' : Tryz.prog.underlying 5 = some (.int .u8) := by kernel_rfl
theorem agg8b : aggT Tryz.prog 5 = false := by kernel_rfl
theorem sz8b : szT Tryz.prog 5 = 1 := by kernel_rfl
theorem loadB {S : HP} {a : Option Addr} {l : List UInt8} {k : Nat} {x : UInt8} (r : Rd S a (l.map u8v)) (hk : l[k]? = some x) : ORead Tryz.prog (loadS 5 (.pointer (a.map fun y => (y.add (k * 1)).add 0))) S (.int .u8 x.toNat) :=
  load1_ok und8b' agg8b sz8b r (k := k * 1) (off := 0) (by simp [hk, u8v])
theorem loadSt {S : HP} {a : Option Addr} {l : List (List UInt8)} {k : Nat} {x : List UInt8} (r : Rd S a (l.map sE)) (hk : l[k]? = some x) :
    ORead Tryz.prog (loadS 9 (.pointer (a.map fun y => (y.add (k * 1)).add 0))) S (sE x) :=
  load1_ok undStr aggStr szStr r (k := k * 1) (off := 0) (by simp [hk])
theorem strIxG {t ty : TypeId} {o1 o2 : Operand} {ar : List (Nat × Value)} {kd : IntKind} (ht : Tryz.prog.underlying t = some .string) {s : List UInt8} {k : Nat} {x : Int} {c : UInt8} (hx : x = k) (hk : s[k]? = some c) (h1 : arW ar o1 = .string ⟨s.toArray⟩) (h2 : arW ar o2 = .int kd x) {A : HP} :
    ORead Tryz.prog (semW (.index t o1 o2) ty ar) A (.int .u8 c.toNat) := fun w R hh F st _ => by
  subst hx
  have hkl : k < s.length := (List.getElem?_eq_some_iff.1 hk).1
  have e : (Instr.index t (.string ⟨s.toArray⟩) (.int kd k)).run Tryz.prog w = .ok (.int .u8 c.toNat) w := by
    have hb : (⟨s.toArray⟩ : ByteArray)[k]? = some c := by
      have hz : k < (⟨s.toArray⟩ : ByteArray).size := by simp [ByteArray.size]; exact hkl
      rw [getElem?_pos (⟨s.toArray⟩ : ByteArray) k hz]
      rw [List.getElem?_eq_getElem hkl] at hk
      exact hk
    unfold Instr.index
    simp [asIntOf, Sem.run_bind, RX.run_underlying ht, hb]
  simp only [semW, execOp, h1, h2]
  rw [Sem.run_bind, e]
  rfl
theorem shr4 (x : UInt8) : Int.fdiv (x.toNat : Int) (2 ^ (min (4 : Int).toNat IntKind.u8.bits)) = ((x.toNat / 16 : Nat) : Int) := by
  show Int.fdiv (x.toNat : Int) 16 = _
  rw [Int.fdiv_eq_ediv_of_nonneg _ (by decide)]; rfl
theorem and15 (x : UInt8) : bits .and .u8 (x.toNat : Int) 15 = ((x.toNat % 16 : Nat) : Int) := by
  have : ∀ n : Fin 256, bits .and .u8 ((n : Nat) : Int) 15 = ((n.val % 16 : Nat) : Int) := by decide
  exact this ⟨x.toNat, x.toNat_lt⟩
theorem digs_get {n : Nat} (h : n < 16) : digsL[n]? = some (hexD n) := by
  have : ∀ m : Fin 16, digsL[m.val]? = some (hexD m.val) := by decide
  exact this ⟨n, h⟩
set_option maxHeartbeats 1000000 in
theorem tellBytes_ok (S : HP) (a : Option Addr) (n c : Nat) (l : List UInt8) (hr : RdL S a n (l.map u8v)) (hl : l.length = n) (hn : n ≤ 20000) : Tri Tryz.prog 17 #[.slice a n c] S (fun v => HP.and (v = sE (hexW l)) S) := by
  refine Tri.fact (φ := a = none → n = 0) (fun R h H => hr.none R _ H) fun hnil => ?_
  refine tri_of_tree (ρ := [.a a, .n n, .n c, .p S]) mixed Tryz.func17 tree_tTellBytes ?_
  unfold t_tTellBytes
  simp only [T.den, E.prop, E.den, RX.look, F1.app, F2.app, Uni.int_i, Uni.nat_n, Uni.bool_c, Uni.str_s, Uni.adr_a, Uni.val_v, Uni.hp_p, hden, cden, V.den, W.den, A.den, BR.den, SA.den, FV.den, capV, exs, exP, allP, Cur.app, List.map_cons, List.map_nil, List.cons_append, List.nil_append, List.drop_succ_cons, List.drop_zero, List.length_cons, List.length_nil, Nat.zero_add, Nat.reduceAdd, Int.neg_neg, Bool.not_not, List.append_nil, Nat.add_zero, List.getElem?_cons_zero, List.getElem?_cons_succ, Decidable.not_not, semW_eq, semW_load, ne_eq, Nat.reduceEqDiff, not_false_eq_true]
  refine ⟨fun h => .of fun R h' H => ⟨?_, H⟩, fun h0 b => ?_⟩
  · have : l = [] := List.eq_nil_of_length_eq_zero (by omega)
    rw [this]; rfl
  have hne : l ≠ [] := fun e => by subst e; simp at hl; omega
  refine ⟨fun i P => ∃ k : Nat, i = k ∧ k ≤ n ∧ HP.ent P (BRep b (hexL (l.take k))), fun i _ => n - i.toNat, ⟨0, rfl, Nat.zero_le _, .of fun R h H => BRep.new b H⟩, ?_⟩
  rintro _ P ⟨k, rfl, hk, hP⟩
  refine ⟨fun hlt => ⟨by omega, fun _ => ⟨?_, fun _ => ?_⟩⟩, fun hge => ?_⟩
  · cases a with
    | none => have := hnil rfl; omega
    | some _ => rfl
  · have hkl : k < l.length := by omega
    have hlen : (hexL (l.take k)).length ≤ 40000 := by rw [hexL_len, List.length_take]; omega
    have hx16 : l[k].toNat / 16 < 16 := by have := l[k].toNat_lt; omega
    refine ⟨l[k].toNat, loadB hr.rd (List.getElem?_eq_getElem hkl), (hexD (l[k].toNat / 16)).toNat, strIxG undStr (shr4 _) (digs_get hx16) rfl rfl, ?_⟩
    refine (wByteB_ok b (hexL (l.take k)) (hexD (l[k].toNat / 16)) (by omega)).conseq (K := HP.tt) (hP.trans (.of fun R h H => HP.sep_tt H)) fun v => .of fun R h H => ?_
    obtain ⟨rfl, H1⟩ := HP.sep_left H
    refine ⟨.nilIface, HP.tt, BRep b (hexL (l.take k) ++ [hexD (l[k].toNat / 16)]), rfl, ⟨(hexD (l[k].toNat % 16)).toNat, strIxG undStr (and15 _) (digs_get (Nat.mod_lt _ (by decide))) rfl rfl, ?_⟩, HP.tt_sep H1⟩
    clear H H1
    refine (wByteB_ok b (hexL (l.take k) ++ [hexD (l[k].toNat / 16)]) (hexD (l[k].toNat % 16)) (by simp; omega)).weak (fun _ _ h => h) ?_
    rintro v R h ⟨rfl, H⟩
    refine ⟨.nilIface, HP.tt, BRep b (hexL (l.take k) ++ [hexD (l[k].toNat / 16)] ++ [hexD (l[k].toNat % 16)]), rfl, ⟨inI64t _ (by omega) (by omega), fun _ => ⟨⟨k + 1, by omega, by omega, .of fun R h H => ?_⟩, by first | omega | (dsimp only; omega)⟩⟩, HP.tt_sep H⟩
    have e : hexL (l.take (k + 1)) = hexL (l.take k) ++ [hexD (l[k].toNat / 16)] ++ [hexD (l[k].toNat % 16)] := by
      rw [List.take_succ_eq_append_getElem hkl]
      unfold hexL
      rw [List.flatMap_append]
      simp [hex1]
    rw [e]
    exact H
  · obtain rfl : k = n := by omega
    rw [List.take_of_length_le (by omega)] at hP
    have hj : hexL l ≠ [] := fun e => by have := hexL_len l; rw [e] at this; simp at this; omega
    refine (stringB_ok b (hexL l) hj).conseq (K := HP.tt) (hP.trans (.of fun R h H => HP.sep_tt H)) fun v => .of fun R h H => ?_
    obtain ⟨rfl, H1⟩ := HP.sep_left H
    exact ⟨hexL l, HP.tt, rfl, .of fun R h H => ⟨congrArg sE (if_neg hne).symm, H⟩, H1⟩

def hexI (c : UInt8) : Int := Lib.indexByte digsL c
def pairsB : List UInt8 → Option (List UInt8)
  | a :: b :: r => if hexI a < 0 ∨ hexI b < 0 then none else (pairsB r).map (UInt8.ofNat ((hexI a).toNat * 16 + (hexI b).toNat) :: ·)
  | [] => some []
  | [_] => none
def readB (s : List UInt8) : Option (List UInt8) := if s = [45] then some [] else if s = [] ∨ s.length % 2 ≠ 0 then none else pairsB s
theorem indexB_lt (c : UInt8) : ∀ l : List UInt8, Lib.indexByte l c < l.length
  | [] => by simp [Lib.indexByte]
  | b :: l => by
    have := indexB_lt c l
    unfold Lib.indexByte
    rw [List.length_cons]
    split
    · omega
    · split <;> omega
theorem hexI_lt (c : UInt8) : -1 ≤ hexI c ∧ hexI c < 16 := ⟨Lib.indexByte_ge _ _, indexB_lt c digsL⟩
theorem bytes_or : ((List.range 16).all fun x => (List.range 16).all fun y => decide (IntKind.u8.wrap (bits .or .i64 (IntKind.i64.wrap ((x : Int) * 2 ^ (min (4 : Int).toNat IntKind.i64.bits))) (y : Int)) = ((x * 16 + y : Nat) : Int))) = true := by kernel_rfl
theorem byte_or {x y : Int} (hx : 0 ≤ x ∧ x < 16) (hy : 0 ≤ y ∧ y < 16) : IntKind.u8.wrap (bits .or .i64 (IntKind.i64.wrap (x * 2 ^ (min (4 : Int).toNat IntKind.i64.bits))) y) = (UInt8.ofNat (x.toNat * 16 + y.toNat)).toNat := by
  obtain ⟨a, rfl⟩ : ∃ a : Nat, x = a := ⟨x.toNat, by omega⟩
  obtain ⟨b, rfl⟩ : ∃ b : Nat, y = b := ⟨y.toNat, by omega⟩
  have h1 := List.all_eq_true.1 bytes_or a (List.mem_range.2 (by omega))
  have h2 := of_decide_eq_true (List.all_eq_true.1 h1 b (List.mem_range.2 (by omega)))
  rw [h2]
  simp only [Int.toNat_natCast, UInt8.toNat_ofNat']
  omega
theorem semW_mk0 {t ty : TypeId} {i : Nat} {z u : Value} : semW (.makeSlice t (.const z) (.tmp i)) ty [(i, u)] = mkS t z u := by simp [semW, execOp, arW, mkS]
theorem mk0_ok (n : Nat) (hm : n ≤ 1000000000) (A : HP) :
    OTri Tryz.prog (mkS 22 (.int .i64 0) (.int .i64 n)) A (fun v => HP.ex fun x => HP.and (v = .slice (some ⟨x, 0, none⟩) 0 n) (HP.sep (OwB (some ⟨x, 0, none⟩) 0 n []) A)) := fun w R h F s a => by
  obtain ⟨i, hi, z1, z2, z3⟩ := info_parts info8
  have hr2 := run_make (P := Tryz.prog) w 22 5 i _ und8 hi z1 .i64 .i64 0 n (by omega) (by omega) (by rw [z3]; omega) (by omega)
  simp only [Int.toNat_natCast] at hr2
  obtain ⟨s1, d1⟩ := s.alloc (.cells (madeCells (Value.int .u8 0).cells (n * i.size)) 5)
  refine ⟨.value _, _, _, by unfold mkS; rw [Sem.run_bind, hr2]; rfl, rfl, Same.alloc w _, R, _, PH.le.refl _, s1, w.heap.size, rfl, _, _, d1, PH.un_left _ _, PH.un_right d1, ⟨by simp, .inr ⟨_, _, rfl, PH.one_self _ _, Nat.zero_le _, by unfold maxLen; omega, ?_, ?_⟩⟩, a⟩
  · rw [z2]; simp [madeCells, Value.cells]
  · simp
theorem pairs_step {a b : UInt8} {r : List UInt8} (ha : 0 ≤ hexI a) (hb : 0 ≤ hexI b) : pairsB (a :: b :: r) = (pairsB r).map (UInt8.ofNat ((hexI a).toNat * 16 + (hexI b).toNat) :: ·) := by
  rw [pairsB, if_neg (by omega)]
set_option maxHeartbeats 1000000 in
theorem readBytes_ok (s : List UInt8) (hs : s.length ≤ 1000000) : Tri Tryz.prog 46 #[sE s] HP.tt (fun v => HP.ex fun a => HP.ex fun c => HP.and (v = .tuple #[.slice a ((readB s).getD []).length c, .bool (readB s).isSome]) (OwB a ((readB s).getD []).length c ((readB s).getD []))) := by
  refine tri_of_tree (ρ := [.s s]) mixed Tryz.func46 tree_tReadBytes ?_
  unfold t_tReadBytes
  simp only [T.den, E.prop, E.den, RX.look, F1.app, F2.app, Uni.int_i, Uni.nat_n, Uni.bool_c, Uni.str_s, Uni.adr_a, Uni.val_v, Uni.hp_p, hden, cden, V.den, W.den, A.den, BR.den, SA.den, FV.den, capV, exs, exP, allP, Cur.app, List.map_cons, List.map_nil, List.cons_append, List.nil_append, List.drop_succ_cons, List.drop_zero, List.length_cons, List.length_nil, Nat.zero_add, Nat.reduceAdd, Int.neg_neg, Bool.not_not, List.append_nil, Nat.add_zero, List.getElem?_cons_zero, List.getElem?_cons_succ, Decidable.not_not, semW_eq, semW_append, ne_eq, Nat.reduceEqDiff, not_false_eq_true]
  have bad : readB s = none → ∀ {K : HP}, HP.ent K (HP.ex fun a => HP.ex fun c => HP.and (Value.tuple #[.slice none 0 0, .bool false] = .tuple #[.slice a ((readB s).getD []).length c, .bool (readB s).isSome]) (OwB a ((readB s).getD []).length c ((readB s).getD []))) := fun e K => .of fun R h _ => ⟨none, 0, by rw [e]; rfl, by rw [e]; exact OwC.nil _ _ _ _⟩
  refine ⟨fun h1 => .of fun R h _ => ⟨none, 0, ?_, ?_⟩, fun h1 => ⟨fun h2 => bad ?_, fun h2 => ⟨fun h3 => bad ?_, fun h3 => ?_⟩⟩⟩
  · have e : readB s = some [] := if_pos h1
    rw [e]; rfl
  · have e : readB s = some [] := if_pos h1
    rw [e]; exact OwC.nil _ _ _ _
  · unfold readB
    rw [if_neg h1, if_pos (.inl (List.eq_nil_of_length_eq_zero (by omega)))]
  · unfold readB
    rw [if_neg h1, if_pos (.inr fun e => h3 (by rw [Int.tmod_eq_emod_of_nonneg (by omega)]; omega))]
  have h3 : (s.length : Int).tmod 2 = 0 := by simpa using h3
  rw [Int.tmod_eq_emod_of_nonneg (by omega)] at h3
  have e : readB s = pairsB s := by
    unfold readB
    rw [if_neg h1, if_neg (by rintro (h | h); exact h2 (by rw [h]; rfl); omega)]
  rw [e] at bad ⊢
  obtain ⟨m, hm⟩ : ∃ m : Nat, s.length = 2 * m := ⟨s.length / 2, by omega⟩
  have hq : (s.length : Int).tdiv 2 = m := by rw [Int.tdiv_eq_ediv_of_nonneg (by omega)]; omega
  rw [hq]
  refine ⟨inI64t _ (by omega) (by omega), fun _ => ?_⟩
  rw [semW_mk0]
  refine (mk0_ok m (by omega) HP.tt).weak (fun _ _ h => h) ?_
  rintro v R h ⟨x, rfl, H⟩
  refine ⟨some ⟨x, 0, none⟩, 0, m, OwB (some ⟨x, 0, none⟩) 0 m [], rfl, ?_, HP.sep_left H⟩
  clear H
  refine ⟨fun _ _ _ _ _ a n c i P => ∃ (k : Nat) (l : List UInt8), i = ((2 * k : Nat) : Int) ∧ k ≤ m ∧ n = k ∧ l.length = k ∧ pairsB s = (pairsB (s.drop (2 * k))).map (l ++ ·) ∧ P = OwB a k c l, fun _ _ _ _ _ _ _ _ i _ => 2 * m - i.toNat,
    ⟨0, [], rfl, Nat.zero_le _, rfl, rfl, by simp, rfl⟩, ?_⟩
  rintro _ _ _ _ _ a n c _ _ ⟨k, l, rfl, hk, rfl, hl, hp, rfl⟩
  refine ⟨fun hlt => ?_, fun hge => ?_⟩
  · have h1k : 2 * n < s.length := by omega
    have h2k : 2 * n + 1 < s.length := by omega
    have hd : s.drop (2 * n) = s[2 * n] :: s[2 * n + 1] :: s.drop (2 * (n + 1)) := by
      rw [List.drop_eq_getElem_cons h1k, List.drop_eq_getElem_cons h2k]; rfl
    generalize hx : s[2 * n] = x1 at hd
    generalize hy : s[2 * n + 1] = x2 at hd
    have g1 : s[2 * n]? = some x1 := by rw [List.getElem?_eq_getElem h1k, hx]
    have g2 : s[2 * n + 1]? = some x2 := by rw [List.getElem?_eq_getElem h2k, hy]
    have b1 := hexI_lt x1
    have b2 := hexI_lt x2
    refine ⟨x1.toNat, strIxG undStr rfl g1 rfl rfl, inI64t _ (by omega) (by omega), fun _ => ⟨x2.toNat, strIxG undStr (by omega) g2 rfl rfl, ?_⟩⟩
    have ib := fun (c : UInt8) => indexByte_ok digsL (c.toNat : Int) HP.tt
    have e8 : ∀ c : UInt8, ((c.toNat : Int).toNat).toUInt8 = c := fun c => by simp
    refine (ib x1).weak (fun _ _ h => h) ?_
    rw [e8]
    rintro v R h ⟨rfl, H⟩
    refine ⟨hexI x1, rfl, ?_, H⟩
    clear H
    refine (ib x2).weak (fun _ _ h => h) ?_
    rw [e8]
    rintro v R h ⟨rfl, H⟩
    refine ⟨hexI x2, rfl, ?_, H⟩
    clear H
    rw [hd] at hp
    refine ⟨fun hn1 => bad ?_, fun hn1 => ⟨fun hn2 => bad ?_, fun hn2 y => ?_⟩⟩
    · rw [hp, pairsB, if_pos (.inl hn1)]; rfl
    · rw [hp, pairsB, if_pos (.inr hn2)]; rfl
    rw [pairs_step (by omega) (by omega)] at hp
    rw [byte_or ⟨by omega, b1.2⟩ ⟨by omega, b2.2⟩]
    generalize UInt8.ofNat ((hexI x1).toNat * 16 + (hexI x2).toNat) = z at hp ⊢
    refine (append8 a n c l (HP.one y (.cells #[.int .u8 z.toNat] 5 (0, 0))) (some ⟨y, 0, none⟩) 1 1 [z] ⟨one_rd y #[.int .u8 z.toNat] 5, fun R h H hq => by cases hq⟩ rfl (fun _ => rfl) (by omega)).weak (fun _ _ h => h) ?_
    rintro v R h ⟨a', c', rfl, H⟩
    refine ⟨a', n + 1, c', OwB a' (n + 1) c' (l ++ [z]), rfl, ⟨inI64t _ (by omega) (by omega), fun _ => ⟨⟨n + 1, l ++ [z], by omega, by omega, rfl, by simp [hl], ?_, rfl⟩, by dsimp only; omega⟩⟩, H⟩
    rw [hp]
    cases pairsB (s.drop (2 * (n + 1))) with
    | none => rfl
    | some q => simp
  · obtain rfl : n = m := by omega
    have : s.drop (2 * n) = [] := List.drop_eq_nil_of_le (by omega)
    rw [this] at hp
    have hp : pairsB s = some l := by rw [hp]; simp [pairsB]
    rw [hp]
    refine .of fun R h H => ⟨a, c, ?_, ?_⟩
    · show _ = Value.tuple #[.slice a l.length c, .bool true]
      rw [hl]
    · show (OwB a l.length c l).p R h
      rw [hl]; exact H
end Go.Proofs.YtcpjdfihpdjkbaaGreatDoor



namespace Go.Proofs.YtcpjdfihpdjkbaaGreatDoor
set_option linter.unusedSimpArgs false
set_option linter.unusedVariables false
open Go.Proofs.YtcpjdfihpdjkbaaGreatDoor RX Go.RowKit
set_option maxRecDepth 100000

structure EvS where
  kind : Int
  who : Int
  at_ : Int
  stays : Bool
  ck : Int
  path : List UInt8
  other : List UInt8
  off : Int
  n : Int
  data : List UInt8
  picks : List UInt8
structure EvA where
  da : Option Addr
  dc : Nat
  pa : Option Addr
  pc : Nat
def evL (e : EvS) (r : EvA) : List Value := [.int .i64 e.kind, .int .i64 e.who, .int .i64 e.at_, .bool e.stays, .int .i64 e.ck, sE e.path, sE e.other, .int .i64 e.off, .int .i64 e.n, .slice r.da e.data.length r.dc, .slice r.pa e.picks.length r.pc]
def in64 (x : Int) : Prop := IntKind.i64.min ≤ x ∧ x ≤ IntKind.i64.max
structure EvOk (e : EvS) : Prop where
  who : in64 e.who
  at_ : in64 e.at_
  ck : in64 e.ck
  off : in64 e.off
  n : in64 e.n
  path : e.path.length ≤ 20000
  other : e.other.length ≤ 20000
  data : e.data.length ≤ 20000
  picks : e.picks.length ≤ 20000
def EvO (b : Nat) (e : EvS) (r : EvA) : HP := HP.one b (.cells (evL e r).toArray 26 (0, 0))
def EvB (e : EvS) (r : EvA) : HP := HP.sep (RoB r.da e.data.length e.data) (RoB r.pa e.picks.length e.picks)
def EvHR (b : Nat) (e : EvS) (r : EvA) : HP := HP.and (EvOk e) (HP.sep (EvO b e r) (EvB e r))
abbrev fnV (f : FuncId) : Value := .func (.func f) #[] #[]

def OfT (of : FuncId) (k : Nat) : Prop := Fgo Tryz.prog of ∧ ∀ (b : Nat) (K : HP), Tri Tryz.prog of #[.pointer (some ⟨b, 0, none⟩)] K (fun v => HP.and (v = .pointer (some ⟨b, k, none⟩)) K)
theorem of_who : OfT 22 1 := ⟨⟨_, Tryz.func22, by kernel_rfl, by kernel_rfl⟩, fun b K => by
  refine tri_of_tree (ρ := [.n b, .p K]) mixed Tryz.func22 tree_tForm1 ?_
  unfold t_tForm1
  simp only [T.den, E.prop, E.den, RX.look, F1.app, F2.app, Uni.int_i, Uni.nat_n, Uni.bool_c, Uni.str_s, Uni.adr_a, Uni.val_v, Uni.hp_p, hden, cden, V.den, W.den, A.den, BR.den, SA.den, FV.den, capV, exs, exP, allP, Cur.app, List.map_cons, List.map_nil, List.cons_append, List.nil_append, List.drop_succ_cons, List.drop_zero, List.length_cons, List.length_nil, Nat.zero_add, Nat.reduceAdd, Int.neg_neg, Bool.not_not, List.append_nil, Nat.add_zero, List.getElem?_cons_zero, List.getElem?_cons_succ, Decidable.not_not, semW_eq, ne_eq, Nat.reduceEqDiff, not_false_eq_true]
  exact .of fun R h H => ⟨trivial, H⟩⟩
theorem of_at_ : OfT 23 2 := ⟨⟨_, Tryz.func23, by kernel_rfl, by kernel_rfl⟩, fun b K => by
  refine tri_of_tree (ρ := [.n b, .p K]) mixed Tryz.func23 tree_tForm2 ?_
  unfold t_tForm2
  simp only [T.den, E.prop, E.den, RX.look, F1.app, F2.app, Uni.int_i, Uni.nat_n, Uni.bool_c, Uni.str_s, Uni.adr_a, Uni.val_v, Uni.hp_p, hden, cden, V.den, W.den, A.den, BR.den, SA.den, FV.den, capV, exs, exP, allP, Cur.app, List.map_cons, List.map_nil, List.cons_append, List.nil_append, List.drop_succ_cons, List.drop_zero, List.length_cons, List.length_nil, Nat.zero_add, Nat.reduceAdd, Int.neg_neg, Bool.not_not, List.append_nil, Nat.add_zero, List.getElem?_cons_zero, List.getElem?_cons_succ, Decidable.not_not, semW_eq, ne_eq, Nat.reduceEqDiff, not_false_eq_true]
  exact .of fun R h H => ⟨trivial, H⟩⟩
theorem of_stays : OfT 26 3 := ⟨⟨_, Tryz.func26, by kernel_rfl, by kernel_rfl⟩, fun b K => by
  refine tri_of_tree (ρ := [.n b, .p K]) mixed Tryz.func26 tree_tForm3 ?_
  unfold t_tForm3
  simp only [T.den, E.prop, E.den, RX.look, F1.app, F2.app, Uni.int_i, Uni.nat_n, Uni.bool_c, Uni.str_s, Uni.adr_a, Uni.val_v, Uni.hp_p, hden, cden, V.den, W.den, A.den, BR.den, SA.den, FV.den, capV, exs, exP, allP, Cur.app, List.map_cons, List.map_nil, List.cons_append, List.nil_append, List.drop_succ_cons, List.drop_zero, List.length_cons, List.length_nil, Nat.zero_add, Nat.reduceAdd, Int.neg_neg, Bool.not_not, List.append_nil, Nat.add_zero, List.getElem?_cons_zero, List.getElem?_cons_succ, Decidable.not_not, semW_eq, ne_eq, Nat.reduceEqDiff, not_false_eq_true]
  exact .of fun R h H => ⟨trivial, H⟩⟩
theorem of_picks : OfT 28 10 := ⟨⟨_, Tryz.func28, by kernel_rfl, by kernel_rfl⟩, fun b K => by
  refine tri_of_tree (ρ := [.n b, .p K]) mixed Tryz.func28 tree_tForm4 ?_
  unfold t_tForm4
  simp only [T.den, E.prop, E.den, RX.look, F1.app, F2.app, Uni.int_i, Uni.nat_n, Uni.bool_c, Uni.str_s, Uni.adr_a, Uni.val_v, Uni.hp_p, hden, cden, V.den, W.den, A.den, BR.den, SA.den, FV.den, capV, exs, exP, allP, Cur.app, List.map_cons, List.map_nil, List.cons_append, List.nil_append, List.drop_succ_cons, List.drop_zero, List.length_cons, List.length_nil, Nat.zero_add, Nat.reduceAdd, Int.neg_neg, Bool.not_not, List.append_nil, Nat.add_zero, List.getElem?_cons_zero, List.getElem?_cons_succ, Decidable.not_not, semW_eq, ne_eq, Nat.reduceEqDiff, not_false_eq_true]
  exact .of fun R h H => ⟨trivial, H⟩⟩
theorem of_ck : OfT 37 4 := ⟨⟨_, Tryz.func37, by kernel_rfl, by kernel_rfl⟩, fun b K => by
  refine tri_of_tree (ρ := [.n b, .p K]) mixed Tryz.func37 tree_tCallForm1 ?_
  unfold t_tCallForm1
  simp only [T.den, E.prop, E.den, RX.look, F1.app, F2.app, Uni.int_i, Uni.nat_n, Uni.bool_c, Uni.str_s, Uni.adr_a, Uni.val_v, Uni.hp_p, hden, cden, V.den, W.den, A.den, BR.den, SA.den, FV.den, capV, exs, exP, allP, Cur.app, List.map_cons, List.map_nil, List.cons_append, List.nil_append, List.drop_succ_cons, List.drop_zero, List.length_cons, List.length_nil, Nat.zero_add, Nat.reduceAdd, Int.neg_neg, Bool.not_not, List.append_nil, Nat.add_zero, List.getElem?_cons_zero, List.getElem?_cons_succ, Decidable.not_not, semW_eq, ne_eq, Nat.reduceEqDiff, not_false_eq_true]
  exact .of fun R h H => ⟨trivial, H⟩⟩
theorem of_path : OfT 39 5 := ⟨⟨_, Tryz.func39, by kernel_rfl, by kernel_rfl⟩, fun b K => by
  refine tri_of_tree (ρ := [.n b, .p K]) mixed Tryz.func39 tree_tCallForm2 ?_
  unfold t_tCallForm2
  simp only [T.den, E.prop, E.den, RX.look, F1.app, F2.app, Uni.int_i, Uni.nat_n, Uni.bool_c, Uni.str_s, Uni.adr_a, Uni.val_v, Uni.hp_p, hden, cden, V.den, W.den, A.den, BR.den, SA.den, FV.den, capV, exs, exP, allP, Cur.app, List.map_cons, List.map_nil, List.cons_append, List.nil_append, List.drop_succ_cons, List.drop_zero, List.length_cons, List.length_nil, Nat.zero_add, Nat.reduceAdd, Int.neg_neg, Bool.not_not, List.append_nil, Nat.add_zero, List.getElem?_cons_zero, List.getElem?_cons_succ, Decidable.not_not, semW_eq, ne_eq, Nat.reduceEqDiff, not_false_eq_true]
  exact .of fun R h H => ⟨trivial, H⟩⟩
theorem of_other : OfT 40 6 := ⟨⟨_, Tryz.func40, by kernel_rfl, by kernel_rfl⟩, fun b K => by
  refine tri_of_tree (ρ := [.n b, .p K]) mixed Tryz.func40 tree_tCallForm3 ?_
  unfold t_tCallForm3
  simp only [T.den, E.prop, E.den, RX.look, F1.app, F2.app, Uni.int_i, Uni.nat_n, Uni.bool_c, Uni.str_s, Uni.adr_a, Uni.val_v, Uni.hp_p, hden, cden, V.den, W.den, A.den, BR.den, SA.den, FV.den, capV, exs, exP, allP, Cur.app, List.map_cons, List.map_nil, List.cons_append, List.nil_append, List.drop_succ_cons, List.drop_zero, List.length_cons, List.length_nil, Nat.zero_add, Nat.reduceAdd, Int.neg_neg, Bool.not_not, List.append_nil, Nat.add_zero, List.getElem?_cons_zero, List.getElem?_cons_succ, Decidable.not_not, semW_eq, ne_eq, Nat.reduceEqDiff, not_false_eq_true]
  exact .of fun R h H => ⟨trivial, H⟩⟩
theorem of_off : OfT 41 7 := ⟨⟨_, Tryz.func41, by kernel_rfl, by kernel_rfl⟩, fun b K => by
  refine tri_of_tree (ρ := [.n b, .p K]) mixed Tryz.func41 tree_tCallForm4 ?_
  unfold t_tCallForm4
  simp only [T.den, E.prop, E.den, RX.look, F1.app, F2.app, Uni.int_i, Uni.nat_n, Uni.bool_c, Uni.str_s, Uni.adr_a, Uni.val_v, Uni.hp_p, hden, cden, V.den, W.den, A.den, BR.den, SA.den, FV.den, capV, exs, exP, allP, Cur.app, List.map_cons, List.map_nil, List.cons_append, List.nil_append, List.drop_succ_cons, List.drop_zero, List.length_cons, List.length_nil, Nat.zero_add, Nat.reduceAdd, Int.neg_neg, Bool.not_not, List.append_nil, Nat.add_zero, List.getElem?_cons_zero, List.getElem?_cons_succ, Decidable.not_not, semW_eq, ne_eq, Nat.reduceEqDiff, not_false_eq_true]
  exact .of fun R h H => ⟨trivial, H⟩⟩
theorem of_n : OfT 42 8 := ⟨⟨_, Tryz.func42, by kernel_rfl, by kernel_rfl⟩, fun b K => by
  refine tri_of_tree (ρ := [.n b, .p K]) mixed Tryz.func42 tree_tCallForm5 ?_
  unfold t_tCallForm5
  simp only [T.den, E.prop, E.den, RX.look, F1.app, F2.app, Uni.int_i, Uni.nat_n, Uni.bool_c, Uni.str_s, Uni.adr_a, Uni.val_v, Uni.hp_p, hden, cden, V.den, W.den, A.den, BR.den, SA.den, FV.den, capV, exs, exP, allP, Cur.app, List.map_cons, List.map_nil, List.cons_append, List.nil_append, List.drop_succ_cons, List.drop_zero, List.length_cons, List.length_nil, Nat.zero_add, Nat.reduceAdd, Int.neg_neg, Bool.not_not, List.append_nil, Nat.add_zero, List.getElem?_cons_zero, List.getElem?_cons_succ, Decidable.not_not, semW_eq, ne_eq, Nat.reduceEqDiff, not_false_eq_true]
  exact .of fun R h H => ⟨trivial, H⟩⟩
theorem of_data : OfT 43 9 := ⟨⟨_, Tryz.func43, by kernel_rfl, by kernel_rfl⟩, fun b K => by
  refine tri_of_tree (ρ := [.n b, .p K]) mixed Tryz.func43 tree_tCallForm6 ?_
  unfold t_tCallForm6
  simp only [T.den, E.prop, E.den, RX.look, F1.app, F2.app, Uni.int_i, Uni.nat_n, Uni.bool_c, Uni.str_s, Uni.adr_a, Uni.val_v, Uni.hp_p, hden, cden, V.den, W.den, A.den, BR.den, SA.den, FV.den, capV, exs, exP, allP, Cur.app, List.map_cons, List.map_nil, List.cons_append, List.nil_append, List.drop_succ_cons, List.drop_zero, List.length_cons, List.length_nil, Nat.zero_add, Nat.reduceAdd, Int.neg_neg, Bool.not_not, List.append_nil, Nat.add_zero, List.getElem?_cons_zero, List.getElem?_cons_succ, Decidable.not_not, semW_eq, ne_eq, Nat.reduceEqDiff, not_false_eq_true]
  exact .of fun R h H => ⟨trivial, H⟩⟩
theorem OfT.v {of : FuncId} {k : Nat} (h : OfT of k) (b : Nat) (K : HP) : VTri Tryz.prog (fnV of) #[.pointer (some ⟨b, 0, none⟩)] K (fun v => HP.and (v = .pointer (some ⟨b, k, none⟩)) K) := .inl ⟨of, #[], rfl, h.1, h.2 b K⟩
theorem vOf {f : FuncId} {args : Array Value} {K : HP} {B : Value → HP} (g : Fgo Tryz.prog f) (t : Tri Tryz.prog f args K B) : VTri Tryz.prog (fnV f) args K B := .inl ⟨f, #[], rfl, g, t⟩
theorem ldE {t : TypeId} {d : TypeDesc} (hd : Tryz.prog.underlying t = some d) (ha : aggT Tryz.prog t = false) (hz : szT Tryz.prog t = 1) {b k : Nat} {e : EvS} {r : EvA} {v : Value} (hk : (evL e r)[k]? = some v) : ORead Tryz.prog (loadS t (.pointer (some ⟨b, k, none⟩))) (EvHR b e r) v :=
  ORead.ent (.of fun R h H => H.2) (ldB1 (Q := EvB e r) hd ha hz (by simpa using hk))
theorem infoBo : (Tryz.prog.info? 4).map (fun i => (i.zero, i.size, i.bytes)) = some (some (.bool false), 1, 1) := by kernel_rfl
theorem undBo : Tryz.prog.underlying 4 = some .bool := by kernel_rfl
theorem aggBo : aggT Tryz.prog 4 = false := by kernel_rfl
theorem szBo : szT Tryz.prog 4 = 1 := by kernel_rfl
theorem RdL.impT {S : HP} {a : Option Addr} {n : Nat} {l : List UInt8} (h : ∀ R x, S.p R x → (RoB a n l).p R x) : RdL S a n (l.map u8v) :=
  ⟨Rd.impR (RoC.rd 1 a n (l.map u8v)) h, fun R x H e => (RdL.ro 1 a n (l.map u8v)).none R x (h R x H) e⟩
def cnvST (s d : TypeId) (u : Value) : Sem Next := do pure (.value (← convert s d u))
theorem semW_cnvT {s d ty : TypeId} {i : Nat} {u : Value} : semW (.convert s d (.tmp i)) ty [(i, u)] = cnvST s d u := by simp [semW, execOp, arW, cnvST]
theorem strBT1 (l : List UInt8) (A : HP) : OTri Tryz.prog (cnvST 9 22 (sE l)) A (fun v => HP.ex fun x => HP.ex fun c => HP.ex fun C : Array Value => HP.and (v = .slice (some ⟨x, 0, none⟩) l.length c ∧ l.length ≤ c ∧ C.toList.take l.length = l.map u8v)
    (HP.sep (HP.one x (.cells C 5 (C.size, C.size + 1))) A)) := fun w R h F s a => by
  have hr := run_bytes_of_string (P := Tryz.prog) w 9 22 5 ⟨l.toArray⟩ undStr und8 und8b'
  have hz : (⟨l.toArray⟩ : ByteArray).size = l.length := by simp [ByteArray.size]
  rw [hz] at hr
  have s0 : Sat w.drew R h F := s.drew _
  obtain ⟨s1, d1⟩ := s0.alloc (.cells (bytesRow ⟨l.toArray⟩ (grownCap w l.length 0 5)) 5 ((bytesRow ⟨l.toArray⟩ (grownCap w l.length 0 5)).size, (bytesRow ⟨l.toArray⟩ (grownCap w l.length 0 5)).size + 1))
  have hc1 := grownCap_ge w l.length 0 5
  have hsame : Same w (w.drew.alloc (.cells (bytesRow ⟨l.toArray⟩ (grownCap w l.length 0 5)) 5 ((bytesRow ⟨l.toArray⟩ (grownCap w l.length 0 5)).size, (bytesRow ⟨l.toArray⟩ (grownCap w l.length 0 5)).size + 1))) := Same.trans (b := w.drew) ⟨rfl, rfl, rfl, Nat.le_refl _⟩ (Same.alloc w.drew _)
  refine ⟨_, _, _, by unfold cnvST sE; rw [Sem.run_bind, hr]; rfl, rfl, hsame, R, _, PH.le.refl _, s1, w.heap.size, _, bytesRow ⟨l.toArray⟩ (grownCap w l.length 0 5), ⟨rfl, hc1, ?_⟩, _, _, d1, PH.un_left _ _, PH.un_right d1, PH.one_self _ _, a⟩
  simp [bytesRow, u8v]
theorem strBT_ok (l : List UInt8) (A : HP) : OTri Tryz.prog (cnvST 9 22 (sE l)) A (fun v => HP.ex fun x => HP.ex fun c => HP.and (v = .slice (some ⟨x, 0, none⟩) l.length c ∧ l.length ≤ c) (HP.sep (RoB (some ⟨x, 0, none⟩) l.length l) A)) :=
  (strBT1 l A).post fun v R h d ⟨x, c, C, ⟨e, hc, ht⟩, H⟩ => by
    obtain ⟨R1, h1, q1, q2, q3, q4, H1⟩ := (HP.ent.sep (HP.ent.share _ _) A) R h d H
    refine ⟨R1, h1, q1, q2, q3, q4, x, c, ⟨e, hc⟩, HP.sep_mono H1 (fun y hy => ⟨by simp, fun _ => ⟨x, 0, C, _, _, rfl, hy, ?_⟩⟩) fun _ h => h⟩
    rw [List.drop_zero, List.length_map]; exact ht
theorem convT {i : Nat} {S : HP} {a : Option Addr} {n c : Nat} {l : List UInt8} (hr : RdL S a n (l.map u8v)) (hl : l.length = n) : ORead Tryz.prog (semW (.convert 22 9 (.tmp i)) 9 [(i, .slice a n c)]) S (sE l) := by
  have := conv_ok (ρ := [.v (.slice a n c)]) (i := i) (x := .w (.a (.val 0))) (S := S) (a := a) (n := n) (c := c) (l := l) rfl hr hl
  rw [semW_eq] at this
  exact this
def boolW (b : Bool) : List UInt8 := if b then [49] else [48]
theorem truth1_ok (x : Bool) (K : HP) : Tri Tryz.prog 44 #[.bool x] K (fun v => HP.and (v = sE (boolW x)) K) := by
  refine Tri.weak (A := HP.sep HP.tt K) (B := fun v => HP.sep (HP.pure (v = sE (boolW x))) K) (Tri.frame ?_ K) (fun R h H => HP.tt_sep H) fun v R h H => ⟨HP.sep_left H, HP.sep_right H⟩
  refine tri_of_tree (ρ := [.c x]) mixed Tryz.func44 tree_tTruth1 ?_
  unfold t_tTruth1
  simp only [T.den, E.prop, E.den, RX.look, F1.app, F2.app, Uni.int_i, Uni.nat_n, Uni.bool_c, Uni.str_s, Uni.adr_a, Uni.val_v, Uni.hp_p, hden, cden, V.den, W.den, A.den, BR.den, SA.den, FV.den, capV, exs, exP, allP, Cur.app, List.map_cons, List.map_nil, List.cons_append, List.nil_append, List.drop_succ_cons, List.drop_zero, List.length_cons, List.length_nil, Nat.zero_add, Nat.reduceAdd, Int.neg_neg, Bool.not_not, List.append_nil, Nat.add_zero, List.getElem?_cons_zero, List.getElem?_cons_succ, Decidable.not_not, semW_eq, ne_eq, Nat.reduceEqDiff, not_false_eq_true]
  refine ⟨fun h => .of fun R _ H => ?_, fun h => .of fun R _ H => ?_⟩
  · obtain rfl : x = true := h
    rfl
  · obtain rfl : x = false := by simpa using h
    rfl
def takeT (s : List UInt8) : Bool := decide (s = [48]) || decide (s = [49])
theorem truth2_ok (s : List UInt8) (K : HP) : Tri Tryz.prog 45 #[sE s] K (fun v => HP.and (v = .tuple #[.bool (decide (s = [49])), .bool (takeT s)]) K) := by
  refine Tri.weak (A := HP.sep HP.tt K) (B := fun v => HP.sep (HP.pure (v = .tuple #[.bool (decide (s = [49])), .bool (takeT s)])) K) (Tri.frame ?_ K) (fun R h H => HP.tt_sep H) fun v R h H => ⟨HP.sep_left H, HP.sep_right H⟩
  refine tri_of_tree (ρ := [.s s]) mixed Tryz.func45 tree_tTruth2 ?_
  unfold t_tTruth2
  simp only [T.den, E.prop, E.den, RX.look, F1.app, F2.app, Uni.int_i, Uni.nat_n, Uni.bool_c, Uni.str_s, Uni.adr_a, Uni.val_v, Uni.hp_p, hden, cden, V.den, W.den, A.den, BR.den, SA.den, FV.den, capV, exs, exP, allP, Cur.app, List.map_cons, List.map_nil, List.cons_append, List.nil_append, List.drop_succ_cons, List.drop_zero, List.length_cons, List.length_nil, Nat.zero_add, Nat.reduceAdd, Int.neg_neg, Bool.not_not, List.append_nil, Nat.add_zero, List.getElem?_cons_zero, List.getElem?_cons_succ, Decidable.not_not, semW_eq, ne_eq, Nat.reduceEqDiff, not_false_eq_true]
  unfold takeT
  refine ⟨fun h => .of fun R _ H => ?_, fun h => .of fun R _ H => ?_⟩
  · rw [decide_eq_true (show s = [48] from h)]; rfl
  · rw [decide_eq_false (show ¬ s = [48] from h)]; rfl
theorem text1_ok (s : List UInt8) (hs : s.length ≤ 20000) (K : HP) : Tri Tryz.prog 54 #[sE s] K (fun v => HP.and (v = sE (hexW s)) K) := by
  refine Tri.weak (A := HP.sep HP.tt K) (B := fun v => HP.sep (HP.pure (v = sE (hexW s))) K) (Tri.frame ?_ K) (fun R h H => HP.tt_sep H) fun v R h H => ⟨HP.sep_left H, HP.sep_right H⟩
  refine tri_of_tree (ρ := [.s s]) mixed Tryz.func54 tree_tText1 ?_
  unfold t_tText1
  simp only [T.den, E.prop, E.den, RX.look, F1.app, F2.app, Uni.int_i, Uni.nat_n, Uni.bool_c, Uni.str_s, Uni.adr_a, Uni.val_v, Uni.hp_p, hden, cden, V.den, W.den, A.den, BR.den, SA.den, FV.den, capV, exs, exP, allP, Cur.app, List.map_cons, List.map_nil, List.cons_append, List.nil_append, List.drop_succ_cons, List.drop_zero, List.length_cons, List.length_nil, Nat.zero_add, Nat.reduceAdd, Int.neg_neg, Bool.not_not, List.append_nil, Nat.add_zero, List.getElem?_cons_zero, List.getElem?_cons_succ, Decidable.not_not, semW_eq, ne_eq, Nat.reduceEqDiff, not_false_eq_true]
  rw [semW_cnvT]
  refine (strBT_ok s HP.tt).weak (fun _ _ h => h) ?_
  rintro v R h ⟨x, c, ⟨rfl, hc⟩, H⟩
  refine ⟨some ⟨x, 0, none⟩, s.length, c, RoB (some ⟨x, 0, none⟩) s.length s, rfl, ?_, HP.sep_left H⟩
  clear H
  refine (tellBytes_ok (RoB (some ⟨x, 0, none⟩) s.length s) (some ⟨x, 0, none⟩) s.length c s (RdL.ro _ _ _ _) rfl hs).weak (fun _ _ h => h) ?_
  rintro v R h ⟨rfl, H⟩
  exact ⟨hexW s, HP.tt, rfl, .of fun R h H => rfl, trivial⟩
theorem text2_ok (s : List UInt8) (hs : s.length ≤ 1000000) (K : HP) : Tri Tryz.prog 55 #[sE s] K (fun v => HP.and (v = .tuple #[sE ((readB s).getD []), .bool (readB s).isSome]) K) := by
  refine Tri.weak (A := HP.sep HP.tt K) (B := fun v => HP.sep (HP.pure (v = .tuple #[sE ((readB s).getD []), .bool (readB s).isSome])) K) (Tri.frame ?_ K) (fun R h H => HP.tt_sep H) fun v R h H => ⟨HP.sep_left H, HP.sep_right H⟩
  refine tri_of_tree (ρ := [.s s]) mixed Tryz.func55 tree_tText2 ?_
  unfold t_tText2
  simp only [T.den, E.prop, E.den, RX.look, F1.app, F2.app, Uni.int_i, Uni.nat_n, Uni.bool_c, Uni.str_s, Uni.adr_a, Uni.val_v, Uni.hp_p, hden, cden, V.den, W.den, A.den, BR.den, SA.den, FV.den, capV, exs, exP, allP, Cur.app, List.map_cons, List.map_nil, List.cons_append, List.nil_append, List.drop_succ_cons, List.drop_zero, List.length_cons, List.length_nil, Nat.zero_add, Nat.reduceAdd, Int.neg_neg, Bool.not_not, List.append_nil, Nat.add_zero, List.getElem?_cons_zero, List.getElem?_cons_succ, Decidable.not_not, semW_eq, ne_eq, Nat.reduceEqDiff, not_false_eq_true]
  refine (readBytes_ok s hs).weak (fun _ _ h => h) ?_
  rintro v R h ⟨a, c, rfl, H⟩
  refine ⟨a, ((readB s).getD []).length, c, OwB a ((readB s).getD []).length c ((readB s).getD []), (readB s).isSome, rfl, ⟨(readB s).getD [], ?_, .of fun R h H => rfl⟩, H⟩
  exact convT (RdL.ow _ _ _ _ _ _) rfl

theorem ldSlE {b k : Nat} {e : EvS} {r : EvA} {v : Value} (hk : (evL e r)[k]? = some v) : ORead Tryz.prog (loadS 22 (.pointer (some ⟨b, k, none⟩))) (EvHR b e r) v := ldE und8 (by kernel_rfl) (by kernel_rfl) hk
theorem stE {t : TypeId} {i : TypeInfo} (hi : Tryz.prog.info? t = some i) (hz : i.size = 1) {b k : Nat} {e e' : EvS} {r r' : EvA} {x : Value} (hx : x.cells = #[x]) (h1 : x.oneCell' = true) (hk : k < 11) (hs : (evL e r).set k x = evL e' r') (hok : EvOk e → EvOk e') (Q : HP) (hB : ∀ R h, (HP.sep (EvB e r) Q).p R h → (EvB e' r').p R h) :
    OTri Tryz.prog (storeS t (.pointer (some ⟨b, k, none⟩)) x) (HP.sep (EvHR b e r) Q) (fun v => HP.and (v = .tuple #[]) (EvHR b e' r')) := by
  refine OTri.fact (φ := EvOk e) (fun R h H => (HP.sep_left H).1) fun hE => ?_
  refine (stB1 (cs' := (evL e' r').toArray) (e := 26) hi hz (k := k) (cs := (evL e r).toArray) hx h1 (by simpa [evL] using hk) (by rw [← hs]; simp) (HP.sep (EvB e r) Q)).weak (fun R h H => HP.sep_assoc (HP.sep_mono H (fun _ h => h.2) fun _ h => h)) ?_
  rintro v R h ⟨e1, H⟩
  exact ⟨e1, hok hE, HP.sep_mono H (fun _ h => h) fun y hy => hB R y hy⟩
theorem putInt_ok {of : FuncId} {k : Nat} (ho : OfT of k) (b : Nat) (e : EvS) (r : EvA) {x : Int} (hk : (evL e r)[k]? = some (.int .i64 x)) (hx : in64 x) :
    Tri Tryz.prog 110 #[.agg #[fnV of, fnV 16, fnV 36], .pointer (some ⟨b, 0, none⟩)] (EvHR b e r) (fun v => HP.and (v = sE (Lib.itoa x)) (EvHR b e r)) := by
  refine Tri.weak (A := HP.sep HP.tt (HP.sep HP.tt (HP.sep HP.tt (EvHR b e r)))) ?_ (fun R h H => HP.tt_sep (HP.tt_sep (HP.tt_sep H))) fun _ _ _ h => h
  refine tri_of_tree (ρ := [.v (fnV of), .p HP.tt, .v (fnV 16), .p HP.tt, .v (fnV 36), .p HP.tt, .n b, .p (EvHR b e r)]) mixed Tryz.func110 tree_tPutInt ?_
  unfold t_tPutInt
  simp only [T.den, E.prop, E.den, RX.look, F1.app, F2.app, Uni.int_i, Uni.nat_n, Uni.bool_c, Uni.str_s, Uni.adr_a, Uni.val_v, Uni.hp_p, hden, cden, V.den, W.den, A.den, BR.den, SA.den, FV.den, capV, exs, exP, allP, Cur.app, List.map_cons, List.map_nil, List.cons_append, List.nil_append, List.drop_succ_cons, List.drop_zero, List.length_cons, List.length_nil, Nat.zero_add, Nat.reduceAdd, Int.neg_neg, Bool.not_not, List.append_nil, Nat.add_zero, List.getElem?_cons_zero, List.getElem?_cons_succ, Decidable.not_not, semW_eq, semW_load, semW_nil, ne_eq, Nat.reduceEqDiff, not_false_eq_true]
  intro _
  refine (ho.v b (EvHR b e r)).weak (fun R h H => HP.sep_right H) ?_
  rintro v R h ⟨rfl, H⟩
  refine ⟨.pointer (some ⟨b, k, none⟩), HP.tt, HP.tt, rfl, ⟨nilChk', x, (ldE undIb aggI szI hk).imp fun _ _ H => HP.sep_right H, ?_⟩, HP.tt_sep (HP.tt_sep H)⟩
  clear H
  refine (vOf ⟨_, Tryz.func16, by kernel_rfl, by kernel_rfl⟩ (itoa_ok x hx HP.tt)).weak (fun _ _ h => h) ?_
  rintro v R h ⟨rfl, H⟩
  exact ⟨Lib.itoa x, HP.tt, rfl, .of fun R h H => ⟨rfl, HP.sep_right (HP.sep_right (HP.sep_right H))⟩, H⟩
theorem putBool_ok {of : FuncId} {k : Nat} (ho : OfT of k) (b : Nat) (e : EvS) (r : EvA) {x : Bool} (hk : (evL e r)[k]? = some (.bool x)) :
    Tri Tryz.prog 112 #[.agg #[fnV of, fnV 44, fnV 45], .pointer (some ⟨b, 0, none⟩)] (EvHR b e r) (fun v => HP.and (v = sE (boolW x)) (EvHR b e r)) := by
  refine Tri.weak (A := HP.sep HP.tt (HP.sep HP.tt (HP.sep HP.tt (EvHR b e r)))) ?_ (fun R h H => HP.tt_sep (HP.tt_sep (HP.tt_sep H))) fun _ _ _ h => h
  refine tri_of_tree (ρ := [.v (fnV of), .p HP.tt, .v (fnV 44), .p HP.tt, .v (fnV 45), .p HP.tt, .n b, .p (EvHR b e r)]) mixed Tryz.func112 tree_tPutBool ?_
  unfold t_tPutBool
  simp only [T.den, E.prop, E.den, RX.look, F1.app, F2.app, Uni.int_i, Uni.nat_n, Uni.bool_c, Uni.str_s, Uni.adr_a, Uni.val_v, Uni.hp_p, hden, cden, V.den, W.den, A.den, BR.den, SA.den, FV.den, capV, exs, exP, allP, Cur.app, List.map_cons, List.map_nil, List.cons_append, List.nil_append, List.drop_succ_cons, List.drop_zero, List.length_cons, List.length_nil, Nat.zero_add, Nat.reduceAdd, Int.neg_neg, Bool.not_not, List.append_nil, Nat.add_zero, List.getElem?_cons_zero, List.getElem?_cons_succ, Decidable.not_not, semW_eq, semW_load, semW_nil, ne_eq, Nat.reduceEqDiff, not_false_eq_true]
  intro _
  refine (ho.v b (EvHR b e r)).weak (fun R h H => HP.sep_right H) ?_
  rintro v R h ⟨rfl, H⟩
  refine ⟨.pointer (some ⟨b, k, none⟩), HP.tt, HP.tt, rfl, ⟨nilChk', x, (ldE undBo aggBo szBo hk).imp fun _ _ H => HP.sep_right H, ?_⟩, HP.tt_sep (HP.tt_sep H)⟩
  clear H
  refine (vOf ⟨_, Tryz.func44, by kernel_rfl, by kernel_rfl⟩ (truth1_ok x HP.tt)).weak (fun _ _ h => h) ?_
  rintro v R h ⟨rfl, H⟩
  exact ⟨boolW x, HP.tt, rfl, .of fun R h H => ⟨rfl, HP.sep_right (HP.sep_right (HP.sep_right H))⟩, H⟩
theorem putStr_ok {of : FuncId} {k : Nat} (ho : OfT of k) (b : Nat) (e : EvS) (r : EvA) {x : List UInt8} (hk : (evL e r)[k]? = some (sE x)) (hx : x.length ≤ 20000) :
    Tri Tryz.prog 116 #[.agg #[fnV of, fnV 54, fnV 55], .pointer (some ⟨b, 0, none⟩)] (EvHR b e r) (fun v => HP.and (v = sE (hexW x)) (EvHR b e r)) := by
  refine Tri.weak (A := HP.sep HP.tt (HP.sep HP.tt (HP.sep HP.tt (EvHR b e r)))) ?_ (fun R h H => HP.tt_sep (HP.tt_sep (HP.tt_sep H))) fun _ _ _ h => h
  refine tri_of_tree (ρ := [.v (fnV of), .p HP.tt, .v (fnV 54), .p HP.tt, .v (fnV 55), .p HP.tt, .n b, .p (EvHR b e r)]) mixed Tryz.func116 tree_tPutStr ?_
  unfold t_tPutStr
  simp only [T.den, E.prop, E.den, RX.look, F1.app, F2.app, Uni.int_i, Uni.nat_n, Uni.bool_c, Uni.str_s, Uni.adr_a, Uni.val_v, Uni.hp_p, hden, cden, V.den, W.den, A.den, BR.den, SA.den, FV.den, capV, exs, exP, allP, Cur.app, List.map_cons, List.map_nil, List.cons_append, List.nil_append, List.drop_succ_cons, List.drop_zero, List.length_cons, List.length_nil, Nat.zero_add, Nat.reduceAdd, Int.neg_neg, Bool.not_not, List.append_nil, Nat.add_zero, List.getElem?_cons_zero, List.getElem?_cons_succ, Decidable.not_not, semW_eq, semW_load, semW_nil, ne_eq, Nat.reduceEqDiff, not_false_eq_true]
  intro _
  refine (ho.v b (EvHR b e r)).weak (fun R h H => HP.sep_right H) ?_
  rintro v R h ⟨rfl, H⟩
  refine ⟨.pointer (some ⟨b, k, none⟩), HP.tt, HP.tt, rfl, ⟨nilChk', x, (ldE undStr aggStr szStr hk).imp fun _ _ H => HP.sep_right H, ?_⟩, HP.tt_sep (HP.tt_sep H)⟩
  clear H
  refine (vOf ⟨_, Tryz.func54, by kernel_rfl, by kernel_rfl⟩ (text1_ok x hx HP.tt)).weak (fun _ _ h => h) ?_
  rintro v R h ⟨rfl, H⟩
  exact ⟨hexW x, HP.tt, rfl, .of fun R h H => ⟨rfl, HP.sep_right (HP.sep_right (HP.sep_right H))⟩, H⟩
theorem putBytes_ok {of : FuncId} {k : Nat} (ho : OfT of k) (b : Nat) (e : EvS) (r : EvA) {l : List UInt8} {a : Option Addr} {c : Nat} (hk : (evL e r)[k]? = some (.slice a l.length c)) (hl : l.length ≤ 20000) (hr : ∀ R h, (EvB e r).p R h → (RoB a l.length l).p R h) :
    Tri Tryz.prog 114 #[.agg #[fnV of, fnV 17, fnV 46], .pointer (some ⟨b, 0, none⟩)] (EvHR b e r) (fun v => HP.and (v = sE (hexW l)) (EvHR b e r)) := by
  refine Tri.weak (A := HP.sep HP.tt (HP.sep HP.tt (HP.sep HP.tt (EvHR b e r)))) ?_ (fun R h H => HP.tt_sep (HP.tt_sep (HP.tt_sep H))) fun _ _ _ h => h
  refine tri_of_tree (ρ := [.v (fnV of), .p HP.tt, .v (fnV 17), .p HP.tt, .v (fnV 46), .p HP.tt, .n b, .p (EvHR b e r)]) mixed Tryz.func114 tree_tPutBytes ?_
  unfold t_tPutBytes
  simp only [T.den, E.prop, E.den, RX.look, F1.app, F2.app, Uni.int_i, Uni.nat_n, Uni.bool_c, Uni.str_s, Uni.adr_a, Uni.val_v, Uni.hp_p, hden, cden, V.den, W.den, A.den, BR.den, SA.den, FV.den, capV, exs, exP, allP, Cur.app, List.map_cons, List.map_nil, List.cons_append, List.nil_append, List.drop_succ_cons, List.drop_zero, List.length_cons, List.length_nil, Nat.zero_add, Nat.reduceAdd, Int.neg_neg, Bool.not_not, List.append_nil, Nat.add_zero, List.getElem?_cons_zero, List.getElem?_cons_succ, Decidable.not_not, semW_eq, semW_load, semW_nil, ne_eq, Nat.reduceEqDiff, not_false_eq_true]
  intro _
  refine (ho.v b (EvHR b e r)).weak (fun R h H => HP.sep_right H) ?_
  rintro v R h ⟨rfl, H⟩
  refine ⟨.pointer (some ⟨b, k, none⟩), HP.tt, HP.tt, rfl, ⟨nilChk', a, l.length, c, (ldSlE hk).imp fun _ _ H => HP.sep_right H, ?_⟩, HP.tt_sep (HP.tt_sep H)⟩
  clear H
  refine (vOf ⟨_, Tryz.func17, by kernel_rfl, by kernel_rfl⟩ (tellBytes_ok (HP.sep HP.tt (HP.sep HP.tt (EvHR b e r))) a l.length c l (RdL.impT fun R h H => hr R _ (HP.sep_right (HP.sep_right (HP.sep_right H)).2)) rfl hl)).weak (fun _ _ h => h) ?_
  rintro v R h ⟨rfl, H⟩
  exact ⟨hexW l, HP.tt, rfl, .of fun R h H => ⟨rfl, HP.sep_right (HP.sep_right (HP.sep_right H))⟩, H⟩
theorem takeInt_ok {of : FuncId} {k : Nat} (ho : OfT of k) (hk : k < 11) (b : Nat) (e : EvS) (r : EvA) (s : List UInt8) (hs : s.length ≤ 20000) (e' : EvS) (hset : ∀ r, (evL e r).set k (.int .i64 (atoiV s)) = evL e' r) (hok : EvOk e → EvOk e') (hB : ∀ r, EvB e' r = EvB e r) :
    Tri Tryz.prog 111 #[.agg #[fnV of, fnV 16, fnV 36], .pointer (some ⟨b, 0, none⟩), sE s] (EvHR b e r) (fun v => HP.ex fun r' => HP.and (v = .bool (atoiB s)) (EvHR b (if atoiB s = true then e' else e) r')) := by
  refine Tri.weak (A := HP.sep HP.tt (HP.sep HP.tt (HP.sep HP.tt (EvHR b e r)))) ?_ (fun R h H => HP.tt_sep (HP.tt_sep (HP.tt_sep H))) fun _ _ _ h => h
  refine tri_of_tree (ρ := [.v (fnV of), .p HP.tt, .v (fnV 16), .p HP.tt, .v (fnV 36), .p HP.tt, .n b, .p (EvHR b e r), .s s]) mixed Tryz.func111 tree_tTakeInt ?_
  unfold t_tTakeInt
  simp only [T.den, E.prop, E.den, RX.look, F1.app, F2.app, Uni.int_i, Uni.nat_n, Uni.bool_c, Uni.str_s, Uni.adr_a, Uni.val_v, Uni.hp_p, hden, cden, V.den, W.den, A.den, BR.den, SA.den, FV.den, capV, exs, exP, allP, Cur.app, List.map_cons, List.map_nil, List.cons_append, List.nil_append, List.drop_succ_cons, List.drop_zero, List.length_cons, List.length_nil, Nat.zero_add, Nat.reduceAdd, Int.neg_neg, Bool.not_not, List.append_nil, Nat.add_zero, List.getElem?_cons_zero, List.getElem?_cons_succ, Decidable.not_not, semW_eq, semW_store, semW_storeC, semW_nil, ne_eq, Nat.reduceEqDiff, not_false_eq_true]
  intro _
  refine (vOf ⟨_, Tryz.func36, by kernel_rfl, by kernel_rfl⟩ (readNumber_ok s (by omega) HP.tt)).weak (fun _ _ h => h) ?_
  rintro v R h ⟨rfl, H⟩
  refine ⟨atoiV s, atoiB s, HP.tt, rfl, ⟨fun h1 => ?_, fun h1 => .of fun R h H => ⟨r, rfl, ?_⟩⟩, H⟩
  · clear H
    refine (ho.v b (EvHR b e r)).weak (fun R h H => HP.sep_right H) ?_
    rintro v R h ⟨rfl, H⟩
    refine ⟨.pointer (some ⟨b, k, none⟩), HP.tt, HP.tt, rfl, ⟨nilChk', ?_⟩, HP.tt_sep (HP.tt_sep H)⟩
    clear H
    obtain ⟨i, hi, z1, z2, z3⟩ := info_parts infoInt
    refine (stE hi z2 rfl rfl hk (hset r) hok HP.tt fun R h H => by rw [hB]; exact HP.sep_left H).weak (fun R h H => HP.sep_comm H) ?_
    rintro v R h ⟨rfl, H⟩
    refine ⟨HP.tt, EvHR b e' r, rfl, .of fun R h H => ⟨r, rfl, ?_⟩, HP.tt_sep H⟩
    rw [if_pos (show atoiB s = true from h1)]
    exact HP.sep_right (HP.sep_right (HP.sep_right H))
  · rw [if_neg (show ¬ atoiB s = true from h1)]
    exact HP.sep_right (HP.sep_right (HP.sep_right H))
theorem takeBool_ok {of : FuncId} {k : Nat} (ho : OfT of k) (hk : k < 11) (b : Nat) (e : EvS) (r : EvA) (s : List UInt8) (hs : s.length ≤ 20000) (e' : EvS) (hset : ∀ r, (evL e r).set k (.bool (decide (s = [49]))) = evL e' r) (hok : EvOk e → EvOk e') (hB : ∀ r, EvB e' r = EvB e r) :
    Tri Tryz.prog 113 #[.agg #[fnV of, fnV 44, fnV 45], .pointer (some ⟨b, 0, none⟩), sE s] (EvHR b e r) (fun v => HP.ex fun r' => HP.and (v = .bool (takeT s)) (EvHR b (if takeT s = true then e' else e) r')) := by
  refine Tri.weak (A := HP.sep HP.tt (HP.sep HP.tt (HP.sep HP.tt (EvHR b e r)))) ?_ (fun R h H => HP.tt_sep (HP.tt_sep (HP.tt_sep H))) fun _ _ _ h => h
  refine tri_of_tree (ρ := [.v (fnV of), .p HP.tt, .v (fnV 44), .p HP.tt, .v (fnV 45), .p HP.tt, .n b, .p (EvHR b e r), .s s]) mixed Tryz.func113 tree_tTakeBool ?_
  unfold t_tTakeBool
  simp only [T.den, E.prop, E.den, RX.look, F1.app, F2.app, Uni.int_i, Uni.nat_n, Uni.bool_c, Uni.str_s, Uni.adr_a, Uni.val_v, Uni.hp_p, hden, cden, V.den, W.den, A.den, BR.den, SA.den, FV.den, capV, exs, exP, allP, Cur.app, List.map_cons, List.map_nil, List.cons_append, List.nil_append, List.drop_succ_cons, List.drop_zero, List.length_cons, List.length_nil, Nat.zero_add, Nat.reduceAdd, Int.neg_neg, Bool.not_not, List.append_nil, Nat.add_zero, List.getElem?_cons_zero, List.getElem?_cons_succ, Decidable.not_not, semW_eq, semW_store, semW_storeC, semW_nil, ne_eq, Nat.reduceEqDiff, not_false_eq_true]
  intro _
  refine (vOf ⟨_, Tryz.func45, by kernel_rfl, by kernel_rfl⟩ (truth2_ok s HP.tt)).weak (fun _ _ h => h) ?_
  rintro v R h ⟨rfl, H⟩
  refine ⟨decide (s = [49]), takeT s, HP.tt, rfl, ⟨fun h1 => ?_, fun h1 => .of fun R h H => ⟨r, rfl, ?_⟩⟩, H⟩
  · clear H
    refine (ho.v b (EvHR b e r)).weak (fun R h H => HP.sep_right H) ?_
    rintro v R h ⟨rfl, H⟩
    refine ⟨.pointer (some ⟨b, k, none⟩), HP.tt, HP.tt, rfl, ⟨nilChk', ?_⟩, HP.tt_sep (HP.tt_sep H)⟩
    clear H
    obtain ⟨i, hi, z1, z2, z3⟩ := info_parts infoBo
    refine (stE hi z2 rfl rfl hk (hset r) hok HP.tt fun R h H => by rw [hB]; exact HP.sep_left H).weak (fun R h H => HP.sep_comm H) ?_
    rintro v R h ⟨rfl, H⟩
    refine ⟨HP.tt, EvHR b e' r, rfl, .of fun R h H => ⟨r, rfl, ?_⟩, HP.tt_sep H⟩
    rw [if_pos (show takeT s = true from h1)]
    exact HP.sep_right (HP.sep_right (HP.sep_right H))
  · rw [if_neg (show ¬ takeT s = true from h1)]
    exact HP.sep_right (HP.sep_right (HP.sep_right H))
theorem takeStr_ok {of : FuncId} {k : Nat} (ho : OfT of k) (hk : k < 11) (b : Nat) (e : EvS) (r : EvA) (s : List UInt8) (hs : s.length ≤ 20000) (e' : EvS) (hset : ∀ r, (evL e r).set k (sE ((readB s).getD [])) = evL e' r) (hok : EvOk e → EvOk e') (hB : ∀ r, EvB e' r = EvB e r) :
    Tri Tryz.prog 117 #[.agg #[fnV of, fnV 54, fnV 55], .pointer (some ⟨b, 0, none⟩), sE s] (EvHR b e r) (fun v => HP.ex fun r' => HP.and (v = .bool ((readB s).isSome)) (EvHR b (if (readB s).isSome = true then e' else e) r')) := by
  refine Tri.weak (A := HP.sep HP.tt (HP.sep HP.tt (HP.sep HP.tt (EvHR b e r)))) ?_ (fun R h H => HP.tt_sep (HP.tt_sep (HP.tt_sep H))) fun _ _ _ h => h
  refine tri_of_tree (ρ := [.v (fnV of), .p HP.tt, .v (fnV 54), .p HP.tt, .v (fnV 55), .p HP.tt, .n b, .p (EvHR b e r), .s s]) mixed Tryz.func117 tree_tTakeStr ?_
  unfold t_tTakeStr
  simp only [T.den, E.prop, E.den, RX.look, F1.app, F2.app, Uni.int_i, Uni.nat_n, Uni.bool_c, Uni.str_s, Uni.adr_a, Uni.val_v, Uni.hp_p, hden, cden, V.den, W.den, A.den, BR.den, SA.den, FV.den, capV, exs, exP, allP, Cur.app, List.map_cons, List.map_nil, List.cons_append, List.nil_append, List.drop_succ_cons, List.drop_zero, List.length_cons, List.length_nil, Nat.zero_add, Nat.reduceAdd, Int.neg_neg, Bool.not_not, List.append_nil, Nat.add_zero, List.getElem?_cons_zero, List.getElem?_cons_succ, Decidable.not_not, semW_eq, semW_store, semW_storeC, semW_nil, ne_eq, Nat.reduceEqDiff, not_false_eq_true]
  intro _
  refine (vOf ⟨_, Tryz.func55, by kernel_rfl, by kernel_rfl⟩ (text2_ok s (by omega) HP.tt)).weak (fun _ _ h => h) ?_
  rintro v R h ⟨rfl, H⟩
  refine ⟨(readB s).getD [], (readB s).isSome, HP.tt, rfl, ⟨fun h1 => ?_, fun h1 => .of fun R h H => ⟨r, rfl, ?_⟩⟩, H⟩
  · clear H
    refine (ho.v b (EvHR b e r)).weak (fun R h H => HP.sep_right H) ?_
    rintro v R h ⟨rfl, H⟩
    refine ⟨.pointer (some ⟨b, k, none⟩), HP.tt, HP.tt, rfl, ⟨nilChk', ?_⟩, HP.tt_sep (HP.tt_sep H)⟩
    clear H
    obtain ⟨i, hi, z1, z2, z3⟩ := info_parts infoStr
    refine (stE hi z2 rfl rfl hk (hset r) hok HP.tt fun R h H => by rw [hB]; exact HP.sep_left H).weak (fun R h H => HP.sep_comm H) ?_
    rintro v R h ⟨rfl, H⟩
    refine ⟨HP.tt, EvHR b e' r, rfl, .of fun R h H => ⟨r, rfl, ?_⟩, HP.tt_sep H⟩
    rw [if_pos (show (readB s).isSome = true from h1)]
    exact HP.sep_right (HP.sep_right (HP.sep_right H))
  · rw [if_neg (show ¬ (readB s).isSome = true from h1)]
    exact HP.sep_right (HP.sep_right (HP.sep_right H))
theorem readBytesR_ok (s : List UInt8) (hs : s.length ≤ 1000000) : Tri Tryz.prog 46 #[sE s] HP.tt (fun v => HP.ex fun a => HP.ex fun c => HP.and (v = .tuple #[.slice a ((readB s).getD []).length c, .bool (readB s).isSome]) (RoB a ((readB s).getD []).length ((readB s).getD []))) :=
  (readBytes_ok s hs).post fun v => fun R h d ⟨a, c, e, H⟩ => by
    obtain ⟨R1, h1, q1, q2, q3, q4, H1⟩ := OwC.share _ _ _ _ _ _ R h d H
    exact ⟨R1, h1, q1, q2, q3, q4, a, c, e, H1⟩
theorem infoSl8 : (Tryz.prog.info? 22).map (fun i => (i.zero, i.size, i.bytes)) = some (some (.slice none 0 0), 1, 24) := by kernel_rfl
theorem takeBytes_ok {of : FuncId} {k : Nat} (ho : OfT of k) (hk : k < 11) (b : Nat) (e : EvS) (r : EvA) (s : List UInt8) (hs : s.length ≤ 20000) (e' : EvS) (hset : ∀ r a c, ∃ r', (evL e r).set k (.slice a ((readB s).getD []).length c) = evL e' r' ∧ ∀ R h, (HP.sep (EvB e r) (RoB a ((readB s).getD []).length ((readB s).getD []))).p R h → (EvB e' r').p R h) (hok : EvOk e → EvOk e') :
    Tri Tryz.prog 115 #[.agg #[fnV of, fnV 17, fnV 46], .pointer (some ⟨b, 0, none⟩), sE s] (EvHR b e r) (fun v => HP.ex fun r' => HP.and (v = .bool ((readB s).isSome)) (EvHR b (if (readB s).isSome = true then e' else e) r')) := by
  refine Tri.weak (A := HP.sep HP.tt (HP.sep HP.tt (HP.sep HP.tt (EvHR b e r)))) ?_ (fun R h H => HP.tt_sep (HP.tt_sep (HP.tt_sep H))) fun _ _ _ h => h
  refine tri_of_tree (ρ := [.v (fnV of), .p HP.tt, .v (fnV 17), .p HP.tt, .v (fnV 46), .p HP.tt, .n b, .p (EvHR b e r), .s s]) mixed Tryz.func115 tree_tTakeBytes ?_
  unfold t_tTakeBytes
  simp only [T.den, E.prop, E.den, RX.look, F1.app, F2.app, Uni.int_i, Uni.nat_n, Uni.bool_c, Uni.str_s, Uni.adr_a, Uni.val_v, Uni.hp_p, hden, cden, V.den, W.den, A.den, BR.den, SA.den, FV.den, capV, exs, exP, allP, Cur.app, List.map_cons, List.map_nil, List.cons_append, List.nil_append, List.drop_succ_cons, List.drop_zero, List.length_cons, List.length_nil, Nat.zero_add, Nat.reduceAdd, Int.neg_neg, Bool.not_not, List.append_nil, Nat.add_zero, List.getElem?_cons_zero, List.getElem?_cons_succ, Decidable.not_not, semW_eq, semW_store, semW_storeC, semW_nil, ne_eq, Nat.reduceEqDiff, not_false_eq_true]
  intro _
  refine (vOf ⟨_, Tryz.func46, by kernel_rfl, by kernel_rfl⟩ (readBytesR_ok s (by omega))).weak (fun _ _ h => trivial) ?_
  rintro v R h ⟨a, c, rfl, H⟩
  refine ⟨a, ((readB s).getD []).length, c, RoB a ((readB s).getD []).length ((readB s).getD []), (readB s).isSome, HP.tt, rfl, ⟨fun h1 => ?_, fun h1 => .of fun R h H => ⟨r, rfl, ?_⟩⟩, HP.sep_tt H⟩
  · clear H
    refine (ho.v b (EvHR b e r)).weak (fun R h H => HP.sep_right H) ?_
    rintro v R h ⟨rfl, H⟩
    refine ⟨.pointer (some ⟨b, k, none⟩), HP.tt, HP.tt, rfl, ⟨nilChk', ?_⟩, HP.tt_sep (HP.tt_sep H)⟩
    clear H
    obtain ⟨i, hi, z1, z2, z3⟩ := info_parts infoSl8
    obtain ⟨r', hs1, hs2⟩ := hset r a c
    refine (stE hi z2 rfl rfl hk hs1 hok (RoB a ((readB s).getD []).length ((readB s).getD [])) hs2).conseq (K := RoB a ((readB s).getD []).length ((readB s).getD [])) (.of fun R h H => ?_) fun v => .of fun R h H => ?_
    · have hr : ∀ h', (RoB a ((readB s).getD []).length ((readB s).getD [])).p R h' := fun _ => (HP.sep_right (HP.sep_right H) : (RoB a ((readB s).getD []).length ((readB s).getD [])).p R h)
      exact HP.sep_mono (HP.sep_tt (HP.sep_right H)) (fun _ h => h) fun y _ => hr y
    · obtain ⟨h1', h2', d, l1, l2, ⟨rfl, H1⟩, H2⟩ := H
      refine ⟨HP.tt, EvHR b e' r', rfl, .of fun R h H => ⟨r', rfl, ?_⟩, HP.tt_sep ⟨h1', h2', d, l1, l2, H1, H2⟩⟩
      rw [if_pos (show (readB s).isSome = true from h1)]
      exact HP.sep_right (HP.sep_right (HP.sep_right H))
  · rw [if_neg (show ¬ (readB s).isSome = true from h1)]
    exact HP.sep_right (HP.sep_right (HP.sep_right H))
end Go.Proofs.YtcpjdfihpdjkbaaGreatDoor



namespace Go.Proofs.YtcpjdfihpdjkbaaGreatDoor
open Go.Proofs.YtcpjdfihpdjkbaaGreatDoor RX Go.RowKit
set_option maxRecDepth 100000

inductive Fld where
  | who | at_ | stays | ck | path | other | off | n | data | picks
def wInt (of : FuncId) : Value := .iface 85 (.agg #[fnV of, fnV 16, fnV 36])
def wBool (of : FuncId) : Value := .iface 92 (.agg #[fnV of, fnV 44, fnV 45])
def wStr (of : FuncId) : Value := .iface 104 (.agg #[fnV of, fnV 54, fnV 55])
def wBytes (of : FuncId) : Value := .iface 95 (.agg #[fnV of, fnV 17, fnV 46])
def Fld.val : Fld → Value
  | .who => wInt 22
  | .at_ => wInt 23
  | .stays => wBool 26
  | .ck => wInt 37
  | .path => wStr 39
  | .other => wStr 40
  | .off => wInt 41
  | .n => wInt 42
  | .data => wBytes 43
  | .picks => wBytes 28
def Fld.put (e : EvS) : Fld → List UInt8
  | .who => Lib.itoa e.who
  | .at_ => Lib.itoa e.at_
  | .stays => boolW e.stays
  | .ck => Lib.itoa e.ck
  | .path => hexW e.path
  | .other => hexW e.other
  | .off => Lib.itoa e.off
  | .n => Lib.itoa e.n
  | .data => hexW e.data
  | .picks => hexW e.picks
def numT (s : List UInt8) : Option Int := if atoiB s = true then some (atoiV s) else none
def boolT' (s : List UInt8) : Option Bool := if takeT s = true then some (decide (s = [49])) else none
def Fld.take (e : EvS) (s : List UInt8) : Fld → Option EvS
  | .who => (numT s).map fun x => { e with who := x }
  | .at_ => (numT s).map fun x => { e with at_ := x }
  | .stays => (boolT' s).map fun x => { e with stays := x }
  | .ck => (numT s).map fun x => { e with ck := x }
  | .path => (readB s).map fun x => { e with path := x }
  | .other => (readB s).map fun x => { e with other := x }
  | .off => (numT s).map fun x => { e with off := x }
  | .n => (numT s).map fun x => { e with n := x }
  | .data => (readB s).map fun x => { e with data := x }
  | .picks => (readB s).map fun x => { e with picks := x }
theorem mPutI (x : Value) : ∀ w, (method (Tryz.prog.types.size + Made.depth) 85 x "tideline/tale.put").run Tryz.prog w = .ok (110, x) w := fun w => by kernel_rfl
theorem mTakeI (x : Value) : ∀ w, (method (Tryz.prog.types.size + Made.depth) 85 x "tideline/tale.take").run Tryz.prog w = .ok (111, x) w := fun w => by kernel_rfl
theorem mPutB (x : Value) : ∀ w, (method (Tryz.prog.types.size + Made.depth) 92 x "tideline/tale.put").run Tryz.prog w = .ok (112, x) w := fun w => by kernel_rfl
theorem mTakeB (x : Value) : ∀ w, (method (Tryz.prog.types.size + Made.depth) 92 x "tideline/tale.take").run Tryz.prog w = .ok (113, x) w := fun w => by kernel_rfl
theorem mPutS (x : Value) : ∀ w, (method (Tryz.prog.types.size + Made.depth) 104 x "tideline/tale.put").run Tryz.prog w = .ok (116, x) w := fun w => by kernel_rfl
theorem mTakeS (x : Value) : ∀ w, (method (Tryz.prog.types.size + Made.depth) 104 x "tideline/tale.take").run Tryz.prog w = .ok (117, x) w := fun w => by kernel_rfl
theorem mPutY (x : Value) : ∀ w, (method (Tryz.prog.types.size + Made.depth) 95 x "tideline/tale.put").run Tryz.prog w = .ok (114, x) w := fun w => by kernel_rfl
theorem mTakeY (x : Value) : ∀ w, (method (Tryz.prog.types.size + Made.depth) 95 x "tideline/tale.take").run Tryz.prog w = .ok (115, x) w := fun w => by kernel_rfl
theorem MTri.fact {v : Value} {nm : String} {args : Array Value} {A : HP} {B : Value → HP} {φ : Prop} (hv : ∃ t x f r, v = .iface t x ∧ (∀ w, (method (Tryz.prog.types.size + Made.depth) t x nm).run Tryz.prog w = .ok (f, r) w) ∧ Fgo Tryz.prog f ∧ (φ → Tri Tryz.prog f (#[r] ++ args) A B)) (hf : ∀ R h, A.p R h → φ) : MTri Tryz.prog v nm args A B :=
  let ⟨t, x, f, r, e, hm, hg, ht⟩ := hv; ⟨t, x, f, r, e, hm, hg, Tri.fact hf ht⟩
theorem put_ok (f : Fld) (b : Nat) (e : EvS) (r : EvA) : MTri Tryz.prog f.val "tideline/tale.put" #[.pointer (some ⟨b, 0, none⟩)] (EvHR b e r) (fun v => HP.and (v = sE (f.put e)) (EvHR b e r)) := by
  refine MTri.fact (φ := EvOk e) ?_ (fun R h H => H.1)
  cases f
  · exact ⟨_, _, _, _, rfl, mPutI _, ⟨_, Tryz.func110, by kernel_rfl, by kernel_rfl⟩, fun h => putInt_ok of_who b e r rfl h.who⟩
  · exact ⟨_, _, _, _, rfl, mPutI _, ⟨_, Tryz.func110, by kernel_rfl, by kernel_rfl⟩, fun h => putInt_ok of_at_ b e r rfl h.at_⟩
  · exact ⟨_, _, _, _, rfl, mPutB _, ⟨_, Tryz.func112, by kernel_rfl, by kernel_rfl⟩, fun h => putBool_ok of_stays b e r rfl⟩
  · exact ⟨_, _, _, _, rfl, mPutI _, ⟨_, Tryz.func110, by kernel_rfl, by kernel_rfl⟩, fun h => putInt_ok of_ck b e r rfl h.ck⟩
  · exact ⟨_, _, _, _, rfl, mPutS _, ⟨_, Tryz.func116, by kernel_rfl, by kernel_rfl⟩, fun h => putStr_ok of_path b e r rfl h.path⟩
  · exact ⟨_, _, _, _, rfl, mPutS _, ⟨_, Tryz.func116, by kernel_rfl, by kernel_rfl⟩, fun h => putStr_ok of_other b e r rfl h.other⟩
  · exact ⟨_, _, _, _, rfl, mPutI _, ⟨_, Tryz.func110, by kernel_rfl, by kernel_rfl⟩, fun h => putInt_ok of_off b e r rfl h.off⟩
  · exact ⟨_, _, _, _, rfl, mPutI _, ⟨_, Tryz.func110, by kernel_rfl, by kernel_rfl⟩, fun h => putInt_ok of_n b e r rfl h.n⟩
  · exact ⟨_, _, _, _, rfl, mPutY _, ⟨_, Tryz.func114, by kernel_rfl, by kernel_rfl⟩, fun h => putBytes_ok of_data b e r rfl h.data fun R h H => HP.sep_left H⟩
  · exact ⟨_, _, _, _, rfl, mPutY _, ⟨_, Tryz.func114, by kernel_rfl, by kernel_rfl⟩, fun h => putBytes_ok of_picks b e r rfl h.picks fun R h H => HP.sep_right H⟩
theorem readB_len {s l : List UInt8} (h : readB s = some l) : l.length ≤ s.length := by
  have key : ∀ (n : Nat) (s l : List UInt8), s.length ≤ n → pairsB s = some l → l.length ≤ s.length := fun n => by
    induction n with
    | zero => intro s l hn h; obtain rfl : s = [] := List.eq_nil_of_length_eq_zero (by omega); cases h; exact Nat.le_refl _
    | succ n ih =>
      intro s l hn h
      match s, h with
      | [], h => cases h; exact Nat.le_refl _
      | [_], h => cases h
      | a :: b :: r, h =>
        rw [pairsB] at h
        split at h
        · cases h
        · obtain ⟨q, hq, rfl⟩ := Option.map_eq_some_iff.1 h
          have := ih r q (by simp at hn; omega) hq
          simp; omega
  unfold readB at h
  split at h
  · cases h; exact Nat.zero_le _
  · split at h
    · cases h
    · exact key _ _ _ (Nat.le_refl _) h
theorem atoiV_in (s : List UInt8) : in64 (atoiV s) := by
  unfold atoiV
  split
  · rename_i v h; exact Lib.atoiAll_bounds h
  · unfold Lib.atoiSat
    split <;> exact ⟨by decide, by decide⟩
  · exact ⟨by decide, by decide⟩
theorem take_ok (f : Fld) (b : Nat) (e : EvS) (r : EvA) (s : List UInt8) (hs : s.length ≤ 20000) : MTri Tryz.prog f.val "tideline/tale.take" #[.pointer (some ⟨b, 0, none⟩), sE s] (EvHR b e r) (fun v => HP.ex fun r' => HP.and (v = .bool (f.take e s).isSome) (EvHR b ((f.take e s).getD e) r')) := by
  have rl : ((readB s).getD []).length ≤ 20000 := by
    cases h : readB s with
    | none => exact Nat.zero_le _
    | some l => have := readB_len h; show l.length ≤ 20000; omega
  have ri := atoiV_in s
  have ei : ∀ (g : Int → EvS), (numT s).map g = if atoiB s = true then some (g (atoiV s)) else none := fun g => by unfold numT; split <;> rfl
  have eb : ∀ (g : Bool → EvS), (boolT' s).map g = if takeT s = true then some (g (decide (s = [49]))) else none := fun g => by unfold boolT'; split <;> rfl
  have ey : ∀ (g : List UInt8 → EvS), (readB s).map g = if (readB s).isSome = true then some (g ((readB s).getD [])) else none := fun g => by cases readB s <;> rfl
  have wk : ∀ {t : TypeId} {x : Value} {fn : FuncId} {c : Bool} {e' : EvS} {o : Option EvS} (ho : o = if c = true then some e' else none), Tri Tryz.prog fn #[x, .pointer (some ⟨b, 0, none⟩), sE s] (EvHR b e r) (fun v => HP.ex fun r' => HP.and (v = .bool c) (EvHR b (if c = true then e' else e) r')) →
      Tri Tryz.prog fn (#[x] ++ #[.pointer (some ⟨b, 0, none⟩), sE s]) (EvHR b e r) (fun v => HP.ex fun r' => HP.and (v = .bool o.isSome) (EvHR b (o.getD e) r')) := fun {t x fn c e' o} ho ht => by
    refine Tri.weak (B := fun v => HP.ex fun r' => HP.and (v = .bool c) (EvHR b (if c = true then e' else e) r')) ht (fun _ _ h => h) ?_
    rintro v R h ⟨r', hv, H⟩
    subst ho
    cases c with
    | true => exact ⟨r', hv, H⟩
    | false => exact ⟨r', hv, H⟩
  refine MTri.fact (φ := True) ?_ (fun R h H => trivial)
  have gI : Fgo Tryz.prog 111 := ⟨_, Tryz.func111, by kernel_rfl, by kernel_rfl⟩
  have gS : Fgo Tryz.prog 117 := ⟨_, Tryz.func117, by kernel_rfl, by kernel_rfl⟩
  have gY : Fgo Tryz.prog 115 := ⟨_, Tryz.func115, by kernel_rfl, by kernel_rfl⟩
  cases f
  · exact ⟨_, _, _, _, rfl, mTakeI _, gI, fun _ => wk (t := 0) (ei _) (takeInt_ok of_who (by decide) b e r s hs _ (fun _ => rfl) (fun h => { h with who := ri }) (fun _ => rfl))⟩
  · exact ⟨_, _, _, _, rfl, mTakeI _, gI, fun _ => wk (t := 0) (ei _) (takeInt_ok of_at_ (by decide) b e r s hs _ (fun _ => rfl) (fun h => { h with at_ := ri }) (fun _ => rfl))⟩
  · exact ⟨_, _, _, _, rfl, mTakeB _, ⟨_, Tryz.func113, by kernel_rfl, by kernel_rfl⟩, fun _ => wk (t := 0) (eb _) (takeBool_ok of_stays (by decide) b e r s hs _ (fun _ => rfl) (fun h => { h with }) (fun _ => rfl))⟩
  · exact ⟨_, _, _, _, rfl, mTakeI _, gI, fun _ => wk (t := 0) (ei _) (takeInt_ok of_ck (by decide) b e r s hs _ (fun _ => rfl) (fun h => { h with ck := ri }) (fun _ => rfl))⟩
  · exact ⟨_, _, _, _, rfl, mTakeS _, gS, fun _ => wk (t := 0) (ey _) (takeStr_ok of_path (by decide) b e r s hs _ (fun _ => rfl) (fun h => { h with path := rl }) (fun _ => rfl))⟩
  · exact ⟨_, _, _, _, rfl, mTakeS _, gS, fun _ => wk (t := 0) (ey _) (takeStr_ok of_other (by decide) b e r s hs _ (fun _ => rfl) (fun h => { h with other := rl }) (fun _ => rfl))⟩
  · exact ⟨_, _, _, _, rfl, mTakeI _, gI, fun _ => wk (t := 0) (ei _) (takeInt_ok of_off (by decide) b e r s hs _ (fun _ => rfl) (fun h => { h with off := ri }) (fun _ => rfl))⟩
  · exact ⟨_, _, _, _, rfl, mTakeI _, gI, fun _ => wk (t := 0) (ei _) (takeInt_ok of_n (by decide) b e r s hs _ (fun _ => rfl) (fun h => { h with n := ri }) (fun _ => rfl))⟩
  · exact ⟨_, _, _, _, rfl, mTakeY _, gY, fun _ => wk (t := 0) (ey _) (takeBytes_ok of_data (by decide) b e r s hs _ (fun r a c => ⟨{ r with da := a, dc := c }, rfl, fun R h H => HP.sep_mono (HP.sep_comm H) (fun _ h => h) fun _ h => HP.sep_right h⟩) (fun h => { h with data := rl }))⟩
  · exact ⟨_, _, _, _, rfl, mTakeY _, gY, fun _ => wk (t := 0) (ey _) (takeBytes_ok of_picks (by decide) b e r s hs _ (fun r a c => ⟨{ r with pa := a, pc := c }, rfl, fun R h H => HP.sep_mono H (fun _ h => HP.sep_left h) fun _ h => h⟩) (fun h => { h with picks := rl }))⟩
end Go.Proofs.YtcpjdfihpdjkbaaGreatDoor



namespace Go.Proofs.YtcpjdfihpdjkbaaGreatDoor
set_option linter.unusedSimpArgs false
set_option linter.unusedVariables false
open Go.Proofs.YtcpjdfihpdjkbaaGreatDoor RX Go.RowKit
set_option maxRecDepth 100000

theorem mkI_ok {t ty : TypeId} {i : Nat} {x : Value} {fs : Array Field} (hu : Tryz.prog.underlying t = some (.struct fs)) (A : HP) : OTri Tryz.prog (semW (.makeInterface t (.tmp i)) ty [(i, x)]) A (fun v => HP.and (v = .iface t x) A) :=
  OTri.ofRead (v := .iface t x) (fun w R h F s a => by
    simp [semW, execOp, arW, Instr.makeInterface, RX.run_underlying hu, Sem.run_bind]) fun R h H => ⟨rfl, H⟩
theorem isSt {t : TypeId} (h : (match Tryz.prog.underlying t with | some (.struct _) => true | _ => false) = true) : ∃ fs, Tryz.prog.underlying t = some (.struct fs) := by
  split at h
  · rename_i ms e; exact ⟨ms, e⟩
  · cases h
theorem number_ok (of : FuncId) : Tri Tryz.prog 21 #[fnV of] HP.tt (fun v => HP.and (v = wInt of) HP.tt) := by
  refine tri_of_tree (ρ := [.v (fnV of), .p HP.tt]) mixed Tryz.func21 tree_tNumber ?_
  unfold t_tNumber
  simp only [T.den, E.prop, E.den, RX.look, F1.app, F2.app, Uni.int_i, Uni.nat_n, Uni.bool_c, Uni.str_s, Uni.adr_a, Uni.val_v, Uni.hp_p, hden, cden, V.den, W.den, A.den, BR.den, SA.den, FV.den, capV, exs, exP, allP, Cur.app, List.map_cons, List.map_nil, List.cons_append, List.nil_append, List.drop_succ_cons, List.drop_zero, List.length_cons, List.length_nil, Nat.zero_add, Nat.reduceAdd, Int.neg_neg, Bool.not_not, List.append_nil, Nat.add_zero, List.getElem?_cons_zero, List.getElem?_cons_succ, Decidable.not_not, semW_eq, ne_eq, Nat.reduceEqDiff, not_false_eq_true]
  obtain ⟨fs, hu⟩ := isSt (t := 85) (by kernel_rfl)
  refine (mkI_ok hu HP.tt).weak (fun _ _ h => h) ?_
  rintro v R h ⟨rfl, H⟩
  exact ⟨wInt of, HP.tt, HP.tt, rfl, .of fun R h H => ⟨rfl, trivial⟩, HP.tt_sep trivial⟩
theorem data_ok (of : FuncId) : Tri Tryz.prog 27 #[fnV of] HP.tt (fun v => HP.and (v = wBytes of) HP.tt) := by
  refine tri_of_tree (ρ := [.v (fnV of), .p HP.tt]) mixed Tryz.func27 tree_tData ?_
  unfold t_tData
  simp only [T.den, E.prop, E.den, RX.look, F1.app, F2.app, Uni.int_i, Uni.nat_n, Uni.bool_c, Uni.str_s, Uni.adr_a, Uni.val_v, Uni.hp_p, hden, cden, V.den, W.den, A.den, BR.den, SA.den, FV.den, capV, exs, exP, allP, Cur.app, List.map_cons, List.map_nil, List.cons_append, List.nil_append, List.drop_succ_cons, List.drop_zero, List.length_cons, List.length_nil, Nat.zero_add, Nat.reduceAdd, Int.neg_neg, Bool.not_not, List.append_nil, Nat.add_zero, List.getElem?_cons_zero, List.getElem?_cons_succ, Decidable.not_not, semW_eq, ne_eq, Nat.reduceEqDiff, not_false_eq_true]
  obtain ⟨fs, hu⟩ := isSt (t := 95) (by kernel_rfl)
  refine (mkI_ok hu HP.tt).weak (fun _ _ h => h) ?_
  rintro v R h ⟨rfl, H⟩
  exact ⟨wBytes of, HP.tt, HP.tt, rfl, .of fun R h H => ⟨rfl, trivial⟩, HP.tt_sep trivial⟩
theorem text_ok (of : FuncId) : Tri Tryz.prog 38 #[fnV of] HP.tt (fun v => HP.and (v = wStr of) HP.tt) := by
  refine tri_of_tree (ρ := [.v (fnV of), .p HP.tt]) mixed Tryz.func38 tree_tText ?_
  unfold t_tText
  simp only [T.den, E.prop, E.den, RX.look, F1.app, F2.app, Uni.int_i, Uni.nat_n, Uni.bool_c, Uni.str_s, Uni.adr_a, Uni.val_v, Uni.hp_p, hden, cden, V.den, W.den, A.den, BR.den, SA.den, FV.den, capV, exs, exP, allP, Cur.app, List.map_cons, List.map_nil, List.cons_append, List.nil_append, List.drop_succ_cons, List.drop_zero, List.length_cons, List.length_nil, Nat.zero_add, Nat.reduceAdd, Int.neg_neg, Bool.not_not, List.append_nil, Nat.add_zero, List.getElem?_cons_zero, List.getElem?_cons_succ, Decidable.not_not, semW_eq, ne_eq, Nat.reduceEqDiff, not_false_eq_true]
  obtain ⟨fs, hu⟩ := isSt (t := 104) (by kernel_rfl)
  refine (mkI_ok hu HP.tt).weak (fun _ _ h => h) ?_
  rintro v R h ⟨rfl, H⟩
  exact ⟨wStr of, HP.tt, HP.tt, rfl, .of fun R h H => ⟨rfl, trivial⟩, HP.tt_sep trivial⟩
theorem truth_ok (of : FuncId) : Tri Tryz.prog 25 #[fnV of] HP.tt (fun v => HP.and (v = wBool of) HP.tt) := by
  refine tri_of_tree (ρ := [.v (fnV of), .p HP.tt]) mixed Tryz.func25 tree_tTruth ?_
  unfold t_tTruth
  simp only [T.den, E.prop, E.den, RX.look, F1.app, F2.app, Uni.int_i, Uni.nat_n, Uni.bool_c, Uni.str_s, Uni.adr_a, Uni.val_v, Uni.hp_p, hden, cden, V.den, W.den, A.den, BR.den, SA.den, FV.den, capV, exs, exP, allP, Cur.app, List.map_cons, List.map_nil, List.cons_append, List.nil_append, List.drop_succ_cons, List.drop_zero, List.length_cons, List.length_nil, Nat.zero_add, Nat.reduceAdd, Int.neg_neg, Bool.not_not, List.append_nil, Nat.add_zero, List.getElem?_cons_zero, List.getElem?_cons_succ, Decidable.not_not, semW_eq, ne_eq, Nat.reduceEqDiff, not_false_eq_true]
  obtain ⟨fs, hu⟩ := isSt (t := 92) (by kernel_rfl)
  refine (mkI_ok hu HP.tt).weak (fun _ _ h => h) ?_
  rintro v R h ⟨rfl, H⟩
  exact ⟨wBool of, HP.tt, HP.tt, rfl, .of fun R h H => ⟨rfl, trivial⟩, HP.tt_sep trivial⟩

def Wds (a : Option Addr) (n : Nat) (ws : List Fld) : HP := RoC 1 a n (ws.map Fld.val)
theorem one_ro (x : Nat) (ty : TypeId) (l : List Value) : HP.ent (HP.one x (.cells l.toArray ty (0, 0))) (RoC 1 (some ⟨x, 0, none⟩) l.length l) :=
  (HP.ent.share _ _).trans (.of fun R h H => ⟨by simp, fun _ => ⟨x, 0, _, _, _, rfl, H, by simp⟩⟩)
theorem infoWd : (Tryz.prog.info? 50).map (fun i => (i.zero, i.size, i.bytes)) = some (some .nilIface, 1, 16) := by kernel_rfl
theorem undWs : Tryz.prog.underlying 46 = some (.slice 50) := by kernel_rfl
theorem val_one : ∀ (ws : List Fld), ∀ u ∈ ws.map Fld.val, u.oneCell' = true := fun ws u hu => by
  obtain ⟨f, _, rfl⟩ := List.mem_map.1 hu
  cases f <;> rfl
theorem oneC_val (f : Fld) : oneC f.val = f.val := by cases f <;> rfl
def callF : List Fld := [.ck, .path, .other, .off, .n, .data]
theorem callForm_ok : Tri Tryz.prog 24 #[] HP.tt (fun v => HP.ex fun x => HP.and (v = .slice (some ⟨x, 0, none⟩) 6 6) (Wds (some ⟨x, 0, none⟩) 6 callF)) := by
  refine tri_of_tree (ρ := []) mixed Tryz.func24 tree_tCallForm ?_
  unfold t_tCallForm
  simp only [T.den, E.prop, E.den, RX.look, F1.app, F2.app, Uni.int_i, Uni.nat_n, Uni.bool_c, Uni.str_s, Uni.adr_a, Uni.val_v, Uni.hp_p, hden, cden, V.den, W.den, A.den, BR.den, SA.den, FV.den, capV, exs, exP, allP, Cur.app, List.map_cons, List.map_nil, List.cons_append, List.nil_append, List.drop_succ_cons, List.drop_zero, List.length_cons, List.length_nil, Nat.zero_add, Nat.reduceAdd, Int.neg_neg, Bool.not_not, List.append_nil, Nat.add_zero, List.getElem?_cons_zero, List.getElem?_cons_succ, Decidable.not_not, semW_eq, ne_eq, Nat.reduceEqDiff, not_false_eq_true]
  refine (number_ok 37).weak (fun _ _ h => h) ?_
  rintro v R h ⟨rfl, H⟩
  refine ⟨wInt 37, HP.tt, rfl, ?_, H⟩
  clear H
  refine (text_ok 39).weak (fun _ _ h => h) ?_
  rintro v R h ⟨rfl, H⟩
  refine ⟨wStr 39, HP.tt, rfl, ?_, H⟩
  clear H
  refine (text_ok 40).weak (fun _ _ h => h) ?_
  rintro v R h ⟨rfl, H⟩
  refine ⟨wStr 40, HP.tt, rfl, ?_, H⟩
  clear H
  refine (number_ok 41).weak (fun _ _ h => h) ?_
  rintro v R h ⟨rfl, H⟩
  refine ⟨wInt 41, HP.tt, rfl, ?_, H⟩
  clear H
  refine (number_ok 42).weak (fun _ _ h => h) ?_
  rintro v R h ⟨rfl, H⟩
  refine ⟨wInt 42, HP.tt, rfl, ?_, H⟩
  clear H
  refine (data_ok 43).weak (fun _ _ h => h) ?_
  rintro v R h ⟨rfl, H⟩
  refine ⟨wBytes 43, HP.tt, rfl, fun x => ?_, H⟩
  clear H
  refine ((HP.ent.of fun R h H => HP.sep_left H).trans (one_ro x _ (callF.map Fld.val))).trans (.of fun R h H => ⟨x, rfl, H⟩)
def formS (k : Int) : List UInt8 × List Fld :=
  if k = 1 then ([99, 97, 108, 108], .who :: callF) else if k = 2 then ([115, 110, 97, 112], [.who]) else if k = 3 then ([116, 114, 105, 109], [.who]) else if k = 4 then ([103, 105, 118, 101, 117, 112], [.who]) else if k = 5 then ([116, 105, 99, 107], [.who])
  else if k = 6 then ([100, 101, 108, 105, 118, 101, 114], [.at_, .stays]) else if k = 7 then ([100, 114, 111, 112], [.at_]) else if k = 8 then ([99, 114, 97, 115, 104], [.who, .picks]) else ([], [])
def FormP (q : List UInt8 × List Fld) (v : Value) : HP := HP.ex fun a => HP.ex fun c => HP.and (v = .tuple #[sE q.1, .slice a q.2.length c]) (Wds a q.2.length q.2)
theorem formP1 (x : Nat) (s : List UInt8) (ws : List Fld) {K : HP} : HP.ent (HP.sep (HP.one x (.cells (ws.map Fld.val).toArray 50 (0, 0))) K) (FormP (s, ws) (.tuple #[sE s, .slice (some ⟨x, 0, none⟩) ws.length ws.length])) :=
  ((HP.ent.of fun R h H => HP.sep_left H).trans (one_ro x _ (ws.map Fld.val))).trans (.of fun R h H => ⟨_, _, rfl, by rw [List.length_map] at H; exact H⟩)
theorem form_ok (k : Int) : Tri Tryz.prog 13 #[.int .i64 k] HP.tt (FormP (formS k)) := by
  refine tri_of_tree (ρ := [.i k]) mixed Tryz.func13 tree_tForm ?_
  unfold t_tForm
  simp only [T.den, E.prop, E.den, RX.look, F1.app, F2.app, Uni.int_i, Uni.nat_n, Uni.bool_c, Uni.str_s, Uni.adr_a, Uni.val_v, Uni.hp_p, hden, cden, V.den, W.den, A.den, BR.den, SA.den, FV.den, capV, exs, exP, allP, Cur.app, List.map_cons, List.map_nil, List.cons_append, List.nil_append, List.drop_succ_cons, List.drop_zero, List.length_cons, List.length_nil, Nat.zero_add, Nat.reduceAdd, Int.neg_neg, Bool.not_not, List.append_nil, Nat.add_zero, List.getElem?_cons_zero, List.getElem?_cons_succ, Decidable.not_not, semW_eq, semW_append, ne_eq, Nat.reduceEqDiff, not_false_eq_true]
  refine (number_ok 22).weak (fun _ _ h => h) ?_
  rintro v R h ⟨rfl, H⟩
  refine ⟨wInt 22, HP.tt, rfl, ?_, H⟩
  clear H
  refine (number_ok 23).weak (fun _ _ h => h) ?_
  rintro v R h ⟨rfl, H⟩
  refine ⟨wInt 23, HP.tt, rfl, ?_, H⟩
  clear H
  unfold formS
  refine ⟨fun h1 => ?_, fun h1 => ?_⟩
  · rw [if_pos h1]
    intro y
    refine callForm_ok.weak (fun _ _ h => h) ?_
    rintro v R h ⟨x, rfl, H⟩
    refine ⟨some ⟨x, 0, none⟩, 6, 6, Wds (some ⟨x, 0, none⟩) 6 callF, rfl, ?_, H⟩
    clear H
    obtain ⟨i, hi, z1, z2, z3⟩ := info_parts infoWd
    have ap := append_ok 46 46 50 i .nilIface undWs hi z1 (by rw [z2]; rfl) (by omega) (some ⟨y, 0, none⟩) 1 1 [wInt 22] (Wds (some ⟨x, 0, none⟩) 6 callF) ⟨x, 0, none⟩ 6 6 (callF.map Fld.val) (RoC.rd 1 _ 6 _) (by rw [z2]; rfl) (val_one _) (by unfold maxLen; omega) (by rw [z3]; decide)
    refine ap.weak (fun R h H => HP.sep_mono H (fun y' hy => ⟨by rw [z2]; rfl, .inr ⟨_, _, rfl, hy, Nat.le_refl _, by unfold maxLen; omega, by rw [z2]; rfl, by rw [z2]; rfl⟩⟩) fun y' hy => HP.sep_right hy) ?_
    rintro v R h ⟨a', c', rfl, H⟩
    refine ⟨a', 7, c', OwC 50 i.size a' 7 c' ([wInt 22] ++ callF.map Fld.val), rfl, ?_, H⟩
    rw [z2]
    exact (OwC.share _ _ _ _ _ _).trans (.of fun R h H => ⟨a', c', rfl, H⟩)
  rw [if_neg h1]
  refine ⟨fun h1 => ?_, fun h1 => ?_⟩
  · rw [if_pos h1]; intro y; exact formP1 y _ [.who]
  rw [if_neg h1]
  refine ⟨fun h1 => ?_, fun h1 => ?_⟩
  · rw [if_pos h1]; intro y; exact formP1 y _ [.who]
  rw [if_neg h1]
  refine ⟨fun h1 => ?_, fun h1 => ?_⟩
  · rw [if_pos h1]; intro y; exact formP1 y _ [.who]
  rw [if_neg h1]
  refine ⟨fun h1 => ?_, fun h1 => ?_⟩
  · rw [if_pos h1]; intro y; exact formP1 y _ [.who]
  rw [if_neg h1]
  refine ⟨fun h1 => ?_, fun h1 => ?_⟩
  · rw [if_pos h1]
    refine (truth_ok 26).weak (fun _ _ h => h) ?_
    rintro v R h ⟨rfl, H⟩
    exact ⟨wBool 26, HP.tt, rfl, fun y => formP1 y _ [.at_, .stays], H⟩
  rw [if_neg h1]
  refine ⟨fun h1 => ?_, fun h1 => ?_⟩
  · rw [if_pos h1]; intro y; exact formP1 y _ [.at_]
  rw [if_neg h1]
  refine ⟨fun h1 => ?_, fun h1 => ?_⟩
  · rw [if_pos h1]
    refine (data_ok 28).weak (fun _ _ h => h) ?_
    rintro v R h ⟨rfl, H⟩
    exact ⟨wBytes 28, HP.tt, rfl, fun y => formP1 y _ [.who, .picks], H⟩
  rw [if_neg h1]
  exact .of fun R h H => ⟨none, 0, rfl, RoC.nil _ _ _ _⟩
end Go.Proofs.YtcpjdfihpdjkbaaGreatDoor



namespace Go.Proofs.YtcpjdfihpdjkbaaGreatDoor
set_option linter.unusedSimpArgs false
set_option linter.unusedVariables false
open Go.Proofs.YtcpjdfihpdjkbaaGreatDoor RX Go.RowKit
set_option maxRecDepth 100000

theorem MTri.conseq {v : Value} {nm : String} {args : Array Value} {A A' K : HP} {B B' : Value → HP} (t : MTri Tryz.prog v nm args A B) (pre : HP.ent A' (HP.sep A K)) (post : ∀ v, HP.ent (HP.sep (B v) K) (B' v)) : MTri Tryz.prog v nm args A' B' :=
  let ⟨t, x, f, r, e, hm, hg, ht⟩ := t; ⟨t, x, f, r, e, hm, hg, ht.conseq pre post⟩
theorem join_ok (a : Option Addr) (n c : Nat) (l : List (List UInt8)) (sep : List UInt8) (hl : l.length = n) (h0 : n ≠ 0) (hn : n ≤ 1000000) (hb : (Lib.join l sep).length ≤ 140737488355328) :
    Tri Tryz.prog 14 #[.slice a n c, sE sep] (OwS a n c l) (fun v => HP.and (v = sE (Lib.join l sep)) (OwS a n c l)) :=
  Tri.ofBelow (B := fun v => v = sE (Lib.join l sep)) (OwS a n c l) fun w R h F s H => by
    obtain ⟨hx, ⟨_, h1, _⟩ | ⟨g, cur, rfl, hg, q1, q2, q3, q4⟩⟩ := H
    · exact absurd h1 h0
    have hw := s.oh _ _ hg
    have ecur : ∀ (j : Nat) x, (l.map fun x => (⟨x.toArray⟩ : ByteArray))[j]? = some x → w.cell? ⟨g, 0 + j, none⟩ = some (.string x) := fun j x hj => by
      rw [Nat.zero_add, cell_at hw]
      rw [List.getElem?_map] at hj
      obtain ⟨y, hy, rfl⟩ := Option.map_eq_some_iff.1 hj
      have : (cur.toList.take (n * 1))[j]? = some (sE y) := by rw [q4]; simp [hy]
      rw [List.getElem?_take] at this
      split at this
      · simpa [sE] using this
      · cases this
    have hmm : (l.map fun x => (⟨x.toArray⟩ : ByteArray)).map (·.data.toList) = l := by
      rw [List.map_map]
      exact List.map_id'' (fun x => by simp) l
    have := Tryz.strings_Join g 0 c (l.map fun x => (⟨x.toArray⟩ : ByteArray)) ⟨sep.toArray⟩ w ecur (s.oh.lt hg) (by rw [List.length_map]; omega) (by rw [List.length_map]; omega) (by rw [hmm]; simpa using hb)
    rw [List.length_map, hl, hmm] at this
    exact this.mono fun e w' ⟨he, hb⟩ => ⟨_, he, rfl, hb⟩
def lineS (e : EvS) : List UInt8 := if (formS e.kind).1 = [] then [63] else Lib.join ((formS e.kind).1 :: (formS e.kind).2.map (Fld.put e)) [32]
theorem hexW_len (l : List UInt8) : (hexW l).length ≤ 2 * l.length + 1 := by
  unfold hexW
  split
  · simp
  · rw [hexL_len]; omega
theorem put_len {e : EvS} (h : EvOk e) (f : Fld) : (f.put e).length ≤ 40001 := by
  have i : ∀ x, in64 x → (Lib.itoa x).length ≤ 40001 := fun x hx => by have := Lib.itoa_length_le x hx.1 hx.2; omega
  have y : ∀ l : List UInt8, l.length ≤ 20000 → (hexW l).length ≤ 40001 := fun l hl => by have := hexW_len l; omega
  cases f
  · exact i _ h.who
  · exact i _ h.at_
  · show (boolW e.stays).length ≤ _; unfold boolW; split <;> decide
  · exact i _ h.ck
  · exact y _ h.path
  · exact y _ h.other
  · exact i _ h.off
  · exact i _ h.n
  · exact y _ h.data
  · exact y _ h.picks
theorem form_len (k : Int) : (formS k).1.length ≤ 8 ∧ (formS k).2.length ≤ 7 := by
  unfold formS
  repeat' split
  all_goals exact ⟨by decide, by decide⟩
theorem join_len (sep : List UInt8) (B : Nat) : ∀ (l : List (List UInt8)), (∀ x ∈ l, x.length ≤ B) → (Lib.join l sep).length ≤ l.length * (B + sep.length)
  | [], _ => by simp [Lib.join_nil]
  | x :: r, h => by
    rw [Lib.join_cons, List.length_append, Lib.joinTail_length]
    have h1 := h x (by simp)
    have h2 : ∀ r : List (List UInt8), (∀ x ∈ r, x.length ≤ B) → Lib.lens r ≤ r.length * B := fun r => by
      induction r with
      | nil => intro _; simp [Lib.lens]
      | cons y r ih =>
        intro hh
        have a := hh y (by simp)
        have b := ih fun x hx => hh x (List.mem_cons_of_mem _ hx)
        unfold Lib.lens at b ⊢
        rw [List.map_cons, List.sum_cons, List.length_cons, Nat.add_mul]
        omega
    have h3 := h2 r fun x hx => h x (List.mem_cons_of_mem _ hx)
    rw [List.length_cons, Nat.add_mul, Nat.mul_add r.length]
    have : sep.length * r.length = r.length * sep.length := Nat.mul_comm _ _
    omega
theorem infoS : ∃ i, Tryz.prog.info? 9 = some i ∧ i.zero = some (.string .empty) ∧ i.size = 1 ∧ i.bytes = 16 := by
  obtain ⟨i, hi, z1, z2, z3⟩ := info_parts infoStr
  exact ⟨i, hi, z1, z2, z3⟩
theorem appendSt (a : Option Addr) (n c : Nat) (l : List (List UInt8)) (y : Nat) (x : List UInt8) (K : HP) (hn : n ≤ 1000000) :
    OTri Tryz.prog (appS 30 30 (.slice a n c) (.slice (some ⟨y, 0, none⟩) 1 1)) (HP.sep (OwS a n c l) (HP.one y (.cells #[sE x] 9 (0, 0))))
      (fun v => HP.ex fun a' => HP.ex fun c' => HP.and (v = .slice a' (n + 1) c') (HP.sep (OwS a' (n + 1) c' (l ++ [x])) (HP.one y (.cells #[sE x] 9 (0, 0))))) := by
  obtain ⟨i, hi, z1, z2, z3⟩ := infoS
  have := append_ok 30 30 9 i (.string .empty) undSs hi z1 (by rw [z2]; rfl) (by omega) a n c (l.map sE) (HP.one y (.cells #[sE x] 9 (0, 0))) ⟨y, 0, none⟩ 1 1 [sE x] (one_rd y #[sE x] 9) (by rw [z2]; rfl) (fun u hu => by simp at hu; subst hu; rfl) (by unfold maxLen; omega) (by rw [z3]; omega)
  rw [z2] at this
  exact this.weak (fun _ _ h => h) fun v R h ⟨a', c', e, H⟩ => ⟨a', c', e, by
    have e2 : (l ++ [x]).map sE = l.map sE ++ [sE x] := by simp
    show (HP.sep (OwC _ _ _ _ _ ((l ++ [x]).map sE)) _).p R h
    rw [e2]; exact H⟩
theorem wd_load {a : Option Addr} {n k : Nat} {ws : List Fld} {f : Fld} (hk : ws[k]? = some f) : ORead Tryz.prog (loadS 50 (.pointer (a.map fun y => (y.add (k * 1)).add 0))) (Wds a n ws) f.val := by
  obtain ⟨ms, hu⟩ := isIf (t := 50) (by kernel_rfl)
  exact load1_ok hu (by kernel_rfl) (by kernel_rfl) (RoC.rd 1 a n (ws.map Fld.val)) (k := k * 1) (off := 0) (by simp [hk])
theorem line_ok (e : EvS) (r : EvA) (he : EvOk e) :
    Tri Tryz.prog 6 #[.agg (evL e r).toArray] (EvB e r) (fun v => HP.and (v = sE (lineS e)) HP.tt) := by
  refine tri_of_tree (ρ := [.i e.kind, .i e.who, .i e.at_, .c e.stays, .i e.ck, .s e.path, .s e.other, .i e.off, .i e.n, .a r.da, .n e.data.length, .n r.dc, .p (RoB r.da e.data.length e.data), .a r.pa, .n e.picks.length, .n r.pc, .p (RoB r.pa e.picks.length e.picks)]) mixed Tryz.func6 tree_tLine ?_
  unfold t_tLine
  simp only [T.den, E.prop, E.den, RX.look, F1.app, F2.app, Uni.int_i, Uni.nat_n, Uni.bool_c, Uni.str_s, Uni.adr_a, Uni.val_v, Uni.hp_p, hden, cden, V.den, W.den, A.den, BR.den, SA.den, FV.den, capV, exs, exP, allP, Cur.app, List.map_cons, List.map_nil, List.cons_append, List.nil_append, List.drop_succ_cons, List.drop_zero, List.length_cons, List.length_nil, Nat.zero_add, Nat.reduceAdd, Int.neg_neg, Bool.not_not, List.append_nil, Nat.add_zero, List.getElem?_cons_zero, List.getElem?_cons_succ, Decidable.not_not, semW_eq, semW_load, semW_append, ne_eq, Nat.reduceEqDiff, not_false_eq_true]
  intro b
  refine (form_ok e.kind).weak (fun _ _ _ => trivial) ?_
  unfold lineS
  have hfl := form_len e.kind
  generalize formS e.kind = q at hfl ⊢
  obtain ⟨nm, ws⟩ := q
  rintro v R h ⟨a, c, rfl, H⟩
  have hsm : ws.length ≠ 0 → a.isSome = true := fun hn => RoC.some H (Nat.pos_of_ne_zero hn)
  refine ⟨nm, a, ws.length, c, Wds a ws.length ws, rfl, ⟨fun h1 => .of fun R h H => ⟨?_, trivial⟩, fun h1 z => ?_⟩, H⟩
  · show sE [63] = _
    rw [if_pos (show nm = [] from h1)]
  clear H
  rw [if_neg (show ¬ nm = [] from h1)]
  dsimp only at hfl
  refine ⟨fun a' n' c' i P Q => ∃ k : Nat, i = k ∧ k ≤ ws.length ∧ n' = k + 1 ∧ HP.ent P (OwS a' (k + 1) c' (nm :: (ws.take k).map (Fld.put e))) ∧ HP.ent Q (EvHR b e r), fun _ _ _ i _ _ => ws.length - i.toNat,
    ⟨0, rfl, Nat.zero_le _, rfl, .of fun R h H => ⟨rfl, .inr ⟨z, _, rfl, H, Nat.le_refl _, by unfold maxLen; omega, rfl, rfl⟩⟩, .of fun R h H => ⟨he, H⟩⟩, ?_⟩
  rintro a' _ c' _ P Q ⟨k, rfl, hk, rfl, hP, hQ⟩
  refine ⟨fun hlt => ?_, fun hge => ?_⟩
  · have hkl : k < ws.length := by omega
    have hg : ws[k]? = some ws[k] := List.getElem?_eq_getElem hkl
    generalize ws[k] = f at hg
    refine ⟨by omega, fun _ => ⟨hsm (by omega), fun _ => ⟨f.val, ?_, ?_⟩⟩⟩
    · rw [oneC_val]; exact wd_load hg
    refine (put_ok f b e r).conseq (K := Wds a ws.length ws) ((HP.ent.sep2 (HP.ent.refl _) hQ).trans (.of fun R h H => HP.sep_comm H)) fun v => .of fun R h ⟨h1, h2, d, l1, l2, ⟨e1, H1⟩, H2⟩ => ?_
    refine ⟨f.put e, EvHR b e r, e1, fun y => ?_, h1, h2, d, l1, l2, H1, H2⟩
    refine (appendSt a' (k + 1) c' _ y (f.put e) HP.tt (by omega)).conseq (K := HP.tt) ((HP.ent.sep2 hP (HP.ent.refl _)).trans (.of fun R h H => HP.sep_tt H)) fun v => .of fun R h H => ?_
    obtain ⟨a2, c2, rfl, H1⟩ := HP.sep_left H
    refine ⟨a2, k + 1 + 1, c2, _, rfl, ⟨inI64t _ (by omega) (by omega), fun _ => ⟨⟨k + 1, by omega, by omega, rfl, .of fun R h H => ?_, .refl _⟩, by dsimp only; omega⟩⟩, H1⟩
    have : (ws.take (k + 1)).map (Fld.put e) = (ws.take k).map (Fld.put e) ++ [f.put e] := by
      rw [List.take_add_one, hg, List.map_append]; rfl
    rw [this]
    exact H
  · obtain rfl : k = ws.length := by omega
    rw [List.take_length] at hP
    have hjl := join_len [32] 40001 (nm :: ws.map (Fld.put e)) fun x hx => by
      rcases List.mem_cons.1 hx with rfl | hx
      · omega
      · obtain ⟨f, _, rfl⟩ := List.mem_map.1 hx
        exact put_len he f
    refine (join_ok a' (ws.length + 1) c' (nm :: ws.map (Fld.put e)) [32] (by simp) (by omega) (by omega) ?_).conseq (K := HP.tt) (hP.trans (.of fun R h H => HP.sep_tt H)) fun v => .of fun R h H => ?_
    · rw [List.length_cons, List.length_map] at hjl
      have : (ws.length + 1) * (40001 + [(32 : UInt8)].length) ≤ 8 * 40002 := Nat.mul_le_mul (by omega) (by decide)
      omega
    obtain ⟨rfl, H1⟩ := HP.sep_left H
    exact ⟨_, HP.tt, rfl, .of fun R h H => ⟨rfl, trivial⟩, trivial⟩
end Go.Proofs.YtcpjdfihpdjkbaaGreatDoor



namespace Go.Proofs.YtcpjdfihpdjkbaaGreatDoor
set_option linter.unusedSimpArgs false
set_option linter.unusedVariables false
open Go.Proofs.YtcpjdfihpdjkbaaGreatDoor RX
set_option maxRecDepth 100000

theorem sliceStr (s : List UInt8) (lo hi : Option Nat) (h1 : lo.getD 0 ≤ hi.getD s.length) (h2 : hi.getD s.length ≤ s.length) (Q : HP) :
    ORead Tryz.prog (sliceS 9 (sE s) (iv lo) (iv hi) none) Q (sE ((s.take (hi.getD s.length)).drop (lo.getD 0))) := fun w R h F st a => by
  have e : (⟨s.toArray⟩ : ByteArray).extract (lo.getD 0) (hi.getD s.length) = ⟨((s.take (hi.getD s.length)).drop (lo.getD 0)).toArray⟩ := by
    have : ((⟨s.toArray⟩ : ByteArray).extract (lo.getD 0) (hi.getD s.length)).data = (((s.take (hi.getD s.length)).drop (lo.getD 0)).toArray) := by
      rw [ByteArray.data_extract]
      apply Array.ext'
      simp [List.drop_take]
    cases hq : (⟨s.toArray⟩ : ByteArray).extract (lo.getD 0) (hi.getD s.length)
    rw [hq] at this
    simp only at this
    rw [this]
  have hs : (⟨s.toArray⟩ : ByteArray).size = s.length := rfl
  unfold sliceS Instr.sliceAt Instr.slice sE
  cases lo <;> cases hi <;> simp only [Option.getD_some, Option.getD_none] at h1 h2 e ⊢ <;> simp [iv, RX.run_underlying undStr, Instr.sliceBounds, hs, run_bound, h1, h2, e]
theorem set_app {α : Type} {l : List α} {k : Nat} (h : l.length = k) (x y : α) (r : List α) : (l ++ y :: r).set k x = l ++ x :: r := by
  subst h; simp [List.set_append]
theorem sliceTo {t e : TypeId} {i : TypeInfo} (ht : Tryz.prog.underlying t = some (.slice e)) (hi : Tryz.prog.info? e = some i) (S : HP) (a : Option Addr) (n c k : Nat) (hk : k ≤ n) (hn : n ≤ c) :
    ORead Tryz.prog (sliceS t (.slice a n c) none (some (.int .i64 k)) none) S (.slice a k c) := by
  have := slice_ok ht hi S a n c none (some k) none (Nat.zero_le _) (by simp; omega) (Nat.le_refl _) (fun h => by cases h)
  have e1 : (a.map fun x => x.add 0) = a := by cases a <;> simp [Addr.add_zero']
  simpa [iv, e1] using this
theorem inI64' (x : Int) (h1 : -9223372036854775808 ≤ x) (h2 : x ≤ 9223372036854775807) : IntKind.i64.min ≤ x ∧ x ≤ IntKind.i64.max := ⟨h1, h2⟩
theorem storeStr {a : Option Addr} {n c : Nat} {l : List (List UInt8)} {k : Nat} (x : List UInt8) (hk : k < n) {P : HP} (hP : HP.ent P (OwS a n c l)) {B : Value → HP} (post : ∀ R h, (OwS a n c (l.set k x)).p R h → (B (.tuple #[])).p R h) :
    OTri Tryz.prog (storeS 9 (.pointer (a.map fun y => (y.add (k * 1)).add 0)) (sE x)) P B := by
  obtain ⟨i, hi, h1, h2, h3⟩ := info_parts infoStr
  have := store_ok (t := 9) hi 9 1 a n c (l.map sE) (k * 1) 0 (sE x) [sE x] rfl (by rw [h2]; rfl) (by simp) (by simp [sE, Value.oneCell']) (by simp; omega)
  refine (OTri.fact (φ := l.length = n) (fun R h H => by have := H.1; simpa using this) fun hl => ?_ : OTri _ _ (OwS a n c l) B).conseq (K := HP.tt) (hP.trans (.of fun R h H => HP.sep_tt H)) fun v => .of fun R h H => HP.sep_left H
  refine this.weak (fun _ _ h => h) ?_
  rintro v R h ⟨rfl, H⟩
  refine post R h ?_
  have e : (l.map sE).take (k * 1 + 0) ++ [sE x] ++ (l.map sE).drop (k * 1 + 0 + [sE x].length) = (l.set k x).map sE := by
    rw [List.map_set, List.set_eq_take_append_cons_drop, if_pos (by simp; omega)]
    simp
  rw [e] at H
  exact H
end Go.Proofs.YtcpjdfihpdjkbaaGreatDoor



namespace Go.Proofs.YtcpjdfihpdjkbaaGreatDoor
set_option linter.unusedSimpArgs false
set_option linter.unusedVariables false
open Go.Proofs.YtcpjdfihpdjkbaaGreatDoor RX Go.RowKit
set_option maxRecDepth 100000

set_option maxHeartbeats 1000000 in
theorem genSplitG_ok (ch : UInt8) (s : List UInt8) (hs : s.length ≤ 20000) : Tri Tryz.prog 32 #[sE s, sE [ch], .int .i64 0, .int .i64 (-1)] HP.tt (fun v => HP.ex fun a => HP.ex fun c => HP.and (v = .slice a (splitB ch s).length c) (OwS a (splitB ch s).length c (splitB ch s))) := by
  refine tri_of_tree (ρ := [.s s, .s [ch], .i 0, .i (-1)]) mixed Tryz.func32 tree_sGenSplit ?_
  unfold t_sGenSplit
  simp only [T.den, E.prop, E.den, RX.look, F1.app, F2.app, Uni.int_i, Uni.nat_n, Uni.bool_c, Uni.str_s, Uni.adr_a, Uni.val_v, Uni.hp_p, hden, cden, V.den, W.den, A.den, BR.den, SA.den, FV.den, capV, exs, exP, allP, Cur.app, List.map_cons, List.map_nil, List.cons_append, List.nil_append, List.drop_succ_cons, List.drop_zero, List.length_cons, List.length_nil, Nat.zero_add, Nat.reduceAdd, Int.neg_neg, Bool.not_not, List.append_nil, Nat.add_zero, List.getElem?_cons_zero, List.getElem?_cons_succ, Decidable.not_not, semW_eq, semW_store, semW_storeC, ne_eq, Nat.reduceEqDiff, not_false_eq_true]
  have hlen := splitB_len ch s
  have hcl : s.count ch ≤ s.length := List.count_le_length
  refine ⟨fun h => absurd h (by decide), fun _ => ⟨fun h => absurd h (by simp), fun _ => ⟨fun _ => ?_, fun h => absurd h (by decide)⟩⟩⟩
  refine (count1_ok s ch HP.tt).weak (fun _ _ h => h) ?_
  rintro v R h ⟨rfl, H⟩
  refine ⟨s.count ch, rfl, ⟨inI64' _ (by omega) (by omega), fun _ => ⟨inI64' _ (by omega) (by omega), fun _ => ?_⟩⟩, H⟩
  clear H
  rw [semW_mk]
  generalize hN : s.count ch = N at *
  have hmin : min ((N : Int) + 1) ((s.length : Int) + 1) = ((N + 1 : Nat) : Int) := by omega
  simp only [hmin]
  obtain ⟨i0, hi0, z1, z2, z3⟩ := info_parts infoStr
  refine (mk_ok undSs hi0 z1 rfl z2 (N + 1) (by rw [z3]; omega) (by unfold maxLen; omega) HP.tt).weak (fun _ _ h => h) ?_
  rintro v R h ⟨x, rfl, H⟩
  refine ⟨some ⟨x, 0, none⟩, N + 1, N + 1, OwS (some ⟨x, 0, none⟩) (N + 1) (N + 1) (List.replicate (N + 1) []), rfl, ⟨inI64' _ (by omega) (by omega), fun _ => ?_⟩, ?_⟩
  · clear H
    refine ⟨fun s' i P => ∃ (k : Nat) (done : List (List UInt8)), i = k ∧ k ≤ N ∧ done.length = k ∧ splitB ch s = done ++ splitB ch s' ∧ s'.count ch = N - k ∧ s'.length ≤ 20000 ∧ HP.ent P (OwS (some ⟨x, 0, none⟩) (N + 1) (N + 1) (done ++ List.replicate (N + 1 - k) [])),
      fun _ i _ => N - i.toNat, ⟨0, [], rfl, Nat.zero_le _, rfl, rfl, by omega, hs, .refl _⟩, ?_⟩
    rintro s' _ P ⟨k, done, rfl, hk, hd, hsp, hc, hs', hP⟩
    refine ⟨fun hlt => ?_, fun hge => ?_⟩
    · refine (index1_ok s' ch HP.tt).weak (fun _ _ h => h) ?_
      rintro v R h ⟨rfl, H⟩
      refine ⟨Lib.indexByte s' ch, rfl, ⟨fun hneg => ?_, fun hnn => ?_⟩, H⟩
      · have := idx_neg hneg; omega
      · clear H
        obtain ⟨o, ho⟩ : ∃ o : Nat, Lib.indexByte s' ch = o := ⟨_, (Int.toNat_of_nonneg (by omega)).symm⟩
        rw [ho]
        obtain ⟨q1, q2, q3⟩ := splitB_at ho
        simp only [Int.add_zero, Int.toNat_natCast]
        refine ⟨inI64' _ (by omega) (by omega), fun _ => ⟨s'.take o, sliceStr s' none (some o) (Nat.zero_le _) (by simp; omega) HP.tt, by omega, fun _ => ⟨by omega, fun _ => ⟨rfl, fun _ => ?_⟩⟩⟩⟩
        refine storeStr (k := k) (s'.take o) (by omega) hP fun R h H => ?_
        refine ⟨_, rfl, ⟨inI64' _ (by simp; omega) (by simp; omega), fun _ => ⟨s'.drop (o + 1), ?_, inI64' _ (by omega) (by omega), fun _ => ?_⟩⟩, H⟩
        · have := sliceStr s' (some (o + 1)) none (by simp; omega) (by simp) HP.tt
          simp only [Option.getD_none, List.take_length] at this
          exact this
        · refine ⟨⟨k + 1, done ++ [s'.take o], by omega, by omega, by simp [hd], by rw [hsp, q1]; simp, by omega, by simp; omega, .of fun R h H => ?_⟩, by first | omega | (dsimp only; omega)⟩
          have e : (done ++ List.replicate (N + 1 - k) []).set k (s'.take o) = done ++ [s'.take o] ++ List.replicate (N + 1 - (k + 1)) [] := by
            obtain ⟨m, hm⟩ : ∃ m, N + 1 - k = m + 1 := ⟨N - k, by omega⟩
            rw [hm, show N + 1 - (k + 1) = m by omega, List.replicate_succ, set_app hd]
            simp
          rw [← e]; exact H
    · obtain rfl : k = N := by omega
      have h0 : s'.count ch = 0 := by omega
      rw [splitB_none h0] at hsp
      simp only [Int.toNat_natCast]
      refine ⟨by omega, fun _ => ⟨by omega, fun _ => ⟨rfl, fun _ => ?_⟩⟩⟩
      refine storeStr (k := k) s' (by omega) hP fun R h H => ?_
      refine ⟨_, rfl, ⟨inI64' _ (by omega) (by omega), fun _ => ⟨some ⟨x, 0, none⟩, k + 1, k + 1, ?_, .of fun R h H => ?_⟩⟩, H⟩
      · exact sliceTo undSs hi0 _ _ _ _ (k + 1) (Nat.le_refl _) (Nat.le_refl _)
      · have e : (done ++ List.replicate (k + 1 - k) []).set k s' = splitB ch s := by
          rw [hsp, show k + 1 - k = 1 by omega]; exact set_app hd s' [] []
        rw [e] at H
        exact ⟨some ⟨x, 0, none⟩, k + 1, by rw [hlen], by rw [hlen]; exact H⟩
  · have e : (List.replicate (N + 1) (Value.string ByteArray.empty)) = (List.replicate (N + 1) ([] : List UInt8)).map sE := by
      rw [List.map_replicate]; rfl
    rw [e] at H
    exact HP.sep_left H
theorem splitG_ok (ch : UInt8) (s : List UInt8) (hs : s.length ≤ 20000) : Tri Tryz.prog 15 #[sE s, sE [ch]] HP.tt (fun v => HP.ex fun a => HP.ex fun c => HP.and (v = .slice a (splitB ch s).length c) (OwS a (splitB ch s).length c (splitB ch s))) := by
  refine tri_of_tree (ρ := [.s s, .s [ch]]) mixed Tryz.func15 tree_sSplit ?_
  unfold t_sSplit
  simp only [T.den, E.prop, E.den, RX.look, F1.app, F2.app, Uni.int_i, Uni.nat_n, Uni.bool_c, Uni.str_s, Uni.adr_a, Uni.val_v, Uni.hp_p, hden, cden, V.den, W.den, A.den, BR.den, SA.den, FV.den, capV, exs, exP, allP, Cur.app, List.map_cons, List.map_nil, List.cons_append, List.nil_append, List.drop_succ_cons, List.drop_zero, List.length_cons, List.length_nil, Nat.zero_add, Nat.reduceAdd, Int.neg_neg, Bool.not_not, List.append_nil, Nat.add_zero, List.getElem?_cons_zero, List.getElem?_cons_succ, Decidable.not_not, semW_eq, ne_eq, Nat.reduceEqDiff, not_false_eq_true]
  refine (genSplitG_ok ch s hs).weak (fun _ _ _ => trivial) ?_
  rintro v R h ⟨a, c, rfl, H⟩
  exact ⟨a, _, c, OwS a (splitB ch s).length c (splitB ch s), rfl, .of fun R h H => ⟨a, c, rfl, H⟩, H⟩

def takeAll : List Fld → List (List UInt8) → EvS → Option EvS
  | [], _, e => some e
  | _ :: _, [], _ => none
  | f :: fs, w :: ws, e => (f.take e w).bind (takeAll fs ws)
def zeroE (k : Int) : EvS := ⟨k, 0, 0, false, 0, [], [], 0, 0, [], []⟩
def readK (s : List UInt8) (told : List (List UInt8)) : List Int → Option EvS
  | [] => none
  | k :: r => if (formS k).1 ≠ told.headD [] ∨ (formS k).2.length + 1 ≠ told.length then readK s told r else match takeAll (formS k).2 told.tail (zeroE k) with
    | none => none
    | some e => if lineS e = s then some e else none
theorem readK_cons (s : List UInt8) (T : List (List UInt8)) (k : Int) (r : List Int) : readK s T (k :: r) = if (formS k).1 ≠ T.headD [] ∨ (formS k).2.length + 1 ≠ T.length then readK s T r else match takeAll (formS k).2 T.tail (zeroE k) with
    | none => none
    | some e => if lineS e = s then some e else none := rfl
def kinds (k : Nat) : List Int := (List.range' k (9 - k)).map fun n : Nat => (n : Int)
theorem kinds_cons {k : Nat} (h : k ≤ 8) : kinds k = (k : Int) :: kinds (k + 1) := by
  unfold kinds
  obtain ⟨m, hm⟩ : ∃ m, 9 - k = m + 1 := ⟨8 - k, by omega⟩
  rw [hm, List.range'_succ, List.map_cons, show 9 - (k + 1) = m by omega]
def readS (s : List UInt8) : Option EvS := readK s (splitB 32 s) (kinds 1)
def mfS (nm : String) (u : Value) : Sem Next := do pure (.value (← Instr.makeFunc (.method nm) #[u] #[]))
theorem semW_mf {nm : String} {ty : TypeId} {i : Nat} {u : Value} : semW (.makeFunc (.method nm) #[.tmp i] #[]) ty [(i, u)] = mfS nm u := by simp [semW, execOp, arW, mfS]
theorem mf_ok (nm : String) (u : Value) (A : HP) : OTri Tryz.prog (mfS nm u) A (fun v => HP.and (v = .func (.method nm) #[u] #[]) A) := by
  refine OTri.ofRead (v := .func (.method nm) #[u] #[]) (fun w R h F s a => ?_) fun R h H => ⟨rfl, H⟩
  rfl
theorem nilT (f : Fld) {A : HP} : ORead Tryz.prog (nilS (.func (.method "tideline/tale.take") #[f.val] #[])) A (.func (.method "tideline/tale.take") #[f.val] #[]) := fun w R h F s a => by
  cases f <;> kernel_rfl
theorem zero_ok (k : Int) : EvOk (zeroE k) :=
  have z : in64 0 := ⟨by decide, by decide⟩
  ⟨z, z, z, z, z, Nat.zero_le _, Nat.zero_le _, Nat.zero_le _, Nat.zero_le _⟩
theorem takeAll_cons (f : Fld) (fs : List Fld) (w : List UInt8) (ws : List (List UInt8)) (e : EvS) : takeAll (f :: fs) (w :: ws) e = (f.take e w).bind (takeAll fs ws) := rfl
theorem takeAll_bad {f : Fld} {fs : List Fld} {w : List UInt8} {ws : List (List UInt8)} {e : EvS} (h : f.take e w = none) : takeAll (f :: fs) (w :: ws) e = none := by
  unfold takeAll; rw [h]; rfl
theorem EvB.pers {e : EvS} {r : EvA} {R h : PH} (h' : PH) (H : (EvB e r).p R h) : (EvB e r).p R h' :=
  have a : (RoB r.da e.data.length e.data).p R h := HP.sep_left H
  have b : (RoB r.pa e.picks.length e.picks).p R h := HP.sep_right H
  ⟨PH.none', h', PH.none_dj _, PH.none_le _, PH.le.refl _, a, b⟩
theorem ldEv (b : Nat) (e : EvS) (r : EvA) : ORead Tryz.prog (loadS 26 (.pointer (some ⟨b, 0, none⟩))) (EvHR b e r) (.agg (evL e r).toArray) := by
  obtain ⟨fs, hu⟩ := isSt (t := 26) (by kernel_rfl)
  exact ORead.ent (.of fun R h H => H.2) (ldBN (Q := EvB e r) (vs := evL e r) hu (by kernel_rfl) (by kernel_rfl) (by simp [evL]) fun j v hj => by simpa using hj)
def ReadP (s : List UInt8) (v : Value) : HP := match readS s with
  | none => HP.pure (v = .tuple #[.agg (evL (zeroE 0) ⟨none, 0, none, 0⟩).toArray, .int .i64 3])
  | some e => HP.ex fun r => HP.and (v = .tuple #[.agg (evL e r).toArray, .int .i64 0] ∧ EvOk e) (EvB e r)
theorem splitB_all_len (c : UInt8) : ∀ s x, x ∈ splitB c s → x.length ≤ s.length := fun s => by
  induction s with
  | nil => intro x hx; simp [splitB] at hx; subst hx; simp
  | cons b r ih =>
    intro x hx
    unfold splitB at hx
    split at hx
    · rcases List.mem_cons.1 hx with rfl | hx
      · simp
      · have := ih x hx; simp; omega
    · cases hq : splitB c r with
      | nil => rw [hq] at hx; simp at hx; subst hx; simp
      | cons y q =>
        rw [hq] at hx ih
        rcases List.mem_cons.1 hx with rfl | hx
        · have := ih y (by simp); simp; omega
        · have := ih x (List.mem_cons_of_mem _ hx); simp; omega
set_option maxHeartbeats 1000000 in
theorem read_ok (s : List UInt8) (hs : s.length ≤ 20000) : Tri Tryz.prog 7 #[sE s] HP.tt (ReadP s) := by
  refine tri_of_tree (ρ := [.s s]) mixed Tryz.func7 tree_tRead ?_
  unfold t_tRead
  simp only [T.den, E.prop, E.den, RX.look, F1.app, F2.app, Uni.int_i, Uni.nat_n, Uni.bool_c, Uni.str_s, Uni.adr_a, Uni.val_v, Uni.hp_p, hden, cden, V.den, W.den, A.den, BR.den, SA.den, FV.den, capV, exs, exP, allP, Cur.app, List.map_cons, List.map_nil, List.cons_append, List.nil_append, List.drop_succ_cons, List.drop_zero, List.length_cons, List.length_nil, Nat.zero_add, Nat.reduceAdd, Int.neg_neg, Bool.not_not, List.append_nil, Nat.add_zero, List.getElem?_cons_zero, List.getElem?_cons_succ, Decidable.not_not, semW_eq, semW_load, semW_nil, ne_eq, Nat.reduceEqDiff, not_false_eq_true]
  intro _
  refine (splitG_ok 32 s hs).weak (fun _ _ _ => trivial) ?_
  have hbad : ∀ {K : HP}, readS s = none → HP.ent K (ReadP s (.tuple #[.agg (evL (zeroE 0) ⟨none, 0, none, 0⟩).toArray, .int .i64 3])) := fun {K} h => .of fun R x _ => by unfold ReadP; rw [h]; rfl
  have hlen := splitB_len 32 s
  have hct : s.count 32 ≤ s.length := List.count_le_length
  have hall := splitB_all_len 32 s
  unfold readS at hbad
  generalize hT : splitB 32 s = T at *
  rintro v R h ⟨a, c, rfl, H⟩
  have hTs : T.length ≠ 0 → a.isSome = true := fun hn => OwC.some H (Nat.pos_of_ne_zero hn)
  refine ⟨a, T.length, c, OwS a T.length c T, rfl, ?_, H⟩
  clear H
  refine ⟨fun _ kd => ∃ k : Nat, kd = k ∧ 1 ≤ k ∧ k ≤ 9 ∧ readK s T (kinds 1) = readK s T (kinds k), fun _ kd => 10 - kd.toNat, ⟨1, rfl, Nat.le_refl _, by omega, rfl⟩, ?_⟩
  rintro _ _ ⟨k, rfl, hk1, hk9, hK⟩
  refine ⟨fun hle => ?_, fun hgt => ?_⟩
  · have hk8 : k ≤ 8 := by omega
    rw [kinds_cons hk8, readK_cons] at hK
    refine (form_ok k).weak (fun _ _ _ => trivial) ?_
    generalize formS (k : Int) = q at hK ⊢
    obtain ⟨nm, ws⟩ := q
    dsimp only at hK
    rintro v R h ⟨wa, wc, rfl, H⟩
    have hWs : ws.length ≠ 0 → wa.isSome = true := fun hn => RoC.some H (Nat.pos_of_ne_zero hn)
    have h0 : 0 < T.length := by omega
    have hd : T[0]? = some (T.headD []) := by
      cases T with
      | nil => simp at h0
      | cons x r => rfl
    refine ⟨nm, wa, ws.length, wc, Wds wa ws.length ws, rfl, ⟨by omega, fun _ => ⟨hTs (by omega), fun _ => ⟨T.headD [], loadSt (RdL.ow _ _ _ _ _ _).rd hd, fun hne => ?_, fun he => ?_⟩⟩⟩, H⟩
    · rw [if_pos (.inl (show nm ≠ T.headD [] from hne))] at hK
      exact ⟨inI64t _ (by omega) (by omega), fun _ => ⟨⟨k + 1, by omega, by omega, by omega, hK⟩, by dsimp only; omega⟩⟩
    refine ⟨inI64t _ (by omega) (by omega), fun _ => ⟨fun hne => ?_, fun hl => ?_⟩⟩
    · rw [if_pos (.inr (by omega))] at hK
      exact ⟨inI64t _ (by omega) (by omega), fun _ => ⟨⟨k + 1, by omega, by omega, by omega, hK⟩, by dsimp only; omega⟩⟩
    have hl : ws.length + 1 = T.length := by omega
    rw [if_neg (by rintro (h | h); exact h he; exact h hl)] at hK
    intro b
    refine ⟨fun _ i P W => ∃ (q : Nat) (e : EvS) (r : EvA), i = q ∧ q ≤ ws.length ∧ EvOk e ∧ HP.ent P (EvHR b e r) ∧ W = Wds wa ws.length ws ∧ takeAll ws T.tail (zeroE k) = takeAll (ws.drop q) (T.tail.drop q) e, fun _ i _ _ => ws.length - i.toNat,
      ⟨0, zeroE k, ⟨none, 0, none, 0⟩, rfl, Nat.zero_le _, zero_ok k, .of fun R h H => ⟨zero_ok k, HP.sep_mono (HP.sep_tt H) (fun _ h => h) fun y _ => ⟨PH.none', y, PH.none_dj _, PH.none_le _, PH.le.refl _, RoC.nil _ _ _ _, RoC.nil _ _ _ _⟩⟩, rfl, rfl⟩, ?_⟩
    rintro _ _ P _ ⟨q, e, r, rfl, hq, hE, hP, rfl, hTA⟩
    refine ⟨fun hlt => ?_, fun hge => ?_⟩
    · have hql : q < ws.length := by omega
      have htl : q < T.tail.length := by rw [List.length_tail]; omega
      have gf : ws[q]? = some ws[q] := List.getElem?_eq_getElem hql
      have gw : T[q + 1]? = some T.tail[q] := by rw [List.getElem_tail]; exact List.getElem?_eq_getElem (by omega)
      have hwl : T.tail[q].length ≤ 20000 := by
        have := hall _ (List.mem_of_getElem? gw); omega
      rw [List.drop_eq_getElem_cons hql, List.drop_eq_getElem_cons htl] at hTA
      generalize ws[q] = f at gf hTA
      generalize T.tail[q] = w at gw hTA hwl
      refine ⟨by omega, fun _ => ⟨hWs (by omega), fun _ => ⟨f.val, by rw [oneC_val]; exact wd_load gf, inI64t _ (by omega) (by omega), fun _ => ⟨by omega, fun _ => ⟨by omega, fun _ => ⟨w, ?_, ?_⟩⟩⟩⟩⟩⟩
      · exact loadSt (RdL.ow _ _ _ _ _ _).rd (k := q + 1) gw
      rw [semW_mf]
      refine (mf_ok _ _ (Wds wa ws.length ws)).weak (fun _ _ h => h) ?_
      rw [oneC_val]
      rintro v R h ⟨rfl, H⟩
      refine ⟨.func (.method "tideline/tale.take") #[f.val] #[], HP.tt, Wds wa ws.length ws, rfl, ⟨nilT f, ?_⟩, HP.tt_sep H⟩
      clear H
      refine (take_ok f b e r w hwl).conseq (K := Wds wa ws.length ws) ((HP.ent.sep2 (HP.ent.refl _) hP).trans (.of fun R h H => HP.sep_comm H)) fun v => .of fun R h ⟨h1, h2, d, l1, l2, ⟨r', e1, H1⟩, H2⟩ => ?_
      refine ⟨(f.take e w).isSome, EvHR b ((f.take e w).getD e) r', e1, ⟨fun hno => hbad ?_, fun hyes => ?_⟩, h1, h2, d, l1, l2, H1, H2⟩
      · rw [hK, hTA]
        have : f.take e w = none := by
          cases hf : f.take e w with
          | none => rfl
          | some x => rw [hf] at hno; exact absurd rfl hno
        rw [takeAll_bad this]
      · obtain ⟨e', hf⟩ := Option.isSome_iff_exists.1 (show (f.take e w).isSome = true by simpa using hyes)
        have hE' := H1.1
        rw [hf] at hE' ⊢
        refine ⟨⟨q + 1, e', r', by omega, by omega, hE', .refl _, rfl, ?_⟩, by dsimp only; omega⟩
        rw [hTA, takeAll_cons, hf]; rfl
    · obtain rfl : q = ws.length := by omega
      rw [List.drop_length] at hTA
      have hTA : takeAll ws T.tail (zeroE k) = some e := hTA
      rw [hTA] at hK
      dsimp only at hK
      refine ⟨e.kind, e.who, e.at_, e.stays, e.ck, e.path, e.other, e.off, e.n, r.da, e.data.length, r.dc, r.pa, e.picks.length, r.pc, ORead.ent hP (ldEv b e r), ?_⟩
      refine (line_ok e r hE).conseq (K := EvHR b e r) (hP.trans (.of fun R h H => ?_)) fun v => .of fun R h ⟨h1, h2, d, l1, l2, ⟨e1, H1⟩, H2⟩ => ?_
      · exact HP.sep_mono (HP.tt_sep H) (fun y _ => EvB.pers y (HP.sep_right H.2)) fun _ h => h
      refine ⟨lineS e, EvHR b e r, e1, ⟨fun hne => hbad ?_, fun heq => ?_⟩, HP.sep_right ⟨h1, h2, d, l1, l2, H1, H2⟩⟩
      · rw [hK, if_neg (show ¬ lineS e = s from hne)]
      have heq : lineS e = s := by simpa using heq
      rw [if_pos heq] at hK
      refine ⟨e.kind, e.who, e.at_, e.stays, e.ck, e.path, e.other, e.off, e.n, r.da, e.data.length, r.dc, r.pa, e.picks.length, r.pc, ldEv b e r, .of fun R h H => ?_⟩
      unfold ReadP readS
      rw [hT, hK]
      exact ⟨r, ⟨rfl, hE⟩, HP.sep_right H.2⟩
  · have : kinds 9 = [] := rfl
    obtain rfl : k = 9 := by omega
    rw [this] at hK
    exact hbad hK
end Go.Proofs.YtcpjdfihpdjkbaaGreatDoor

