/- Texts of this claim, joined. No condition. -/
import Derived.Test.YtcpjdfihpdjkbaaGreatDoorTLJ1
import Derived.Test.YtcpjdfihpdjkbaaGreatDoorTLJ2
import Derived.Test.YtcpjdfihpdjkbaaGreatDoorTLJ3
import Derived.OpenShut
import Derived.Test.YtcpjdfihpdjkbaaGreatDoorRows
import Derived.ProofKit
import Derived.ShutString
import Derived.ChangeOld
import Derived.Below
import Derived.SizedLaws
import Derived.Lay
import Derived.LaidMore
import Derived.Test.YtcpjdfihpdjkbaaGreatDoorTie
import Derived.Test.YtcpjdfihpdjkbaaGreatDoorCards
import Derived.SevenTiedAt
set_option linter.unusedSimpArgs false
set_option linter.unusedVariables false

namespace Go.Proofs.YtcpjdfihpdjkbaaGreatDoor
set_option linter.unusedSimpArgs false
set_option linter.unusedVariables false
open Go.Proofs.YtcpjdfihpdjkbaaGreatDoor RX Go.RowKit
set_option maxRecDepth 100000

theorem put_len2 {e : EvS} (h : EvOk e) (hg : ¬ greatS e) (f : Fld) : (f.put e).length ≤ 2001 := by
  unfold greatS at hg
  have i : ∀ x, in64 x → (Lib.itoa x).length ≤ 2001 := fun x hx => by have := Lib.itoa_length_le x hx.1 hx.2; omega
  have y : ∀ l : List UInt8, l.length ≤ 1000 → (hexW l).length ≤ 2001 := fun l hl => by have := hexW_len l; omega
  cases f
  · exact i _ h.who
  · exact i _ h.at_
  · show (boolW e.stays).length ≤ _; unfold boolW; split <;> decide
  · exact i _ h.ck
  · exact y _ (by omega)
  · exact y _ (by omega)
  · exact i _ h.off
  · exact i _ h.n
  · exact y _ (by omega)
  · exact y _ (by omega)
theorem line_len2 {e : EvS} (he : EvOk e) (hg : ¬ greatS e) : (lineS e).length ≤ 20000 := by
  unfold lineS
  split
  · decide
  have hfl := form_len e.kind
  have hjl := join_len [32] 2001 ((formS e.kind).1 :: (formS e.kind).2.map (Fld.put e)) fun x hx => by
    rcases List.mem_cons.1 hx with rfl | hx
    · omega
    · obtain ⟨f, _, rfl⟩ := List.mem_map.1 hx
      exact put_len2 he hg f
  rw [List.length_cons, List.length_map] at hjl
  have : ((formS e.kind).2.length + 1) * (2001 + [(32 : UInt8)].length) ≤ 8 * 2002 := Nat.mul_le_mul (by omega) (by decide)
  omega
theorem read_q : readS [63] = none := by decide
def DdN (x : DeedI) : Prop := in64 x.id_client ∧ in64 x.id_birth ∧ in64 x.id_number ∧ in64 x.began ∧ in64 x.ended ∧ in64 x.answer_err
set_option maxHeartbeats 1000000 in
theorem taleLines_ok (e : EvS) (r : EvA) (x : DeedI) (ne : EvN e) (nx : DdN x) : Tri Tryz.prog 3 #[.agg (evL e r).toArray, .agg x.vals.toArray] (HP.sep (RoB r.da e.data.length e.data) (HP.sep (RoB r.pa e.picks.length e.picks) (DdP x))) (fun v => HP.and (v = .bool true) HP.tt) := by
  refine tri_of_tree (ρ := [.i e.kind, .i e.who, .i e.at_, .c e.stays, .i e.ck, .s e.path, .s e.other, .i e.off, .i e.n, .a r.da, .n e.data.length, .n r.dc, .p (RoB r.da e.data.length e.data), .a r.pa, .n e.picks.length, .n r.pc, .p (RoB r.pa e.picks.length e.picks), .i x.id_client, .i x.id_birth, .i x.id_number, .i x.call_kind, .s x.call_path, .s x.call_other, .i x.call_off, .i x.call_n, .a x.call_dataa, .n x.call_data.length, .n x.call_datac, .p (RoB x.call_dataa x.call_data.length x.call_data), .i x.began, .i x.ended, .i x.answer_err, .i x.answer_kind, .i x.answer_size, .i x.answer_links, .a x.answer_dataa, .n x.answer_data.length, .n x.answer_datac, .p (RoB x.answer_dataa x.answer_data.length x.answer_data), .a x.answer_namesa, .n x.answer_names.length, .n x.answer_namesc, .p (Ls kStrL x.answer_namesa x.answer_names.length x.answer_names)]) mixed Tryz.func3 tree_taleLines ?_
  unfold t_taleLines
  simp (maxSteps := 3000000) only [T.den, E.prop, E.den, RX.look, F1.app, F2.app, Uni.int_i, Uni.nat_n, Uni.bool_c, Uni.str_s, Uni.adr_a, Uni.val_v, Uni.hp_p, hden, cden, V.den, W.den, A.den, BR.den, SA.den, FV.den, capV, exs, exP, allP, Cur.app, List.map_cons, List.map_nil, List.cons_append, List.nil_append, List.drop_succ_cons, List.drop_zero, List.length_cons, List.length_nil, Nat.zero_add, Nat.reduceAdd, Int.neg_neg, Bool.not_not, List.append_nil, Nat.add_zero, List.getElem?_cons_zero, List.getElem?_cons_succ, Decidable.not_not, semW_eq, semW_load, ne_eq, Nat.reduceEqDiff, not_false_eq_true]
  intro b b2
  refine speaks22_ok.weak (fun _ _ h => h) ?_
  rintro v R h ⟨rfl, H⟩
  refine ⟨true, rfl, ⟨fun h => absurd rfl h, fun _ => ?_⟩, H⟩
  clear H
  refine (great22_ok e r).weak (fun _ _ h => h) ?_
  rintro v R h ⟨rfl, H⟩
  refine ⟨decide (greatS e), rfl, ⟨fun h => .of fun R h H => ⟨trivial, trivial⟩, fun gx => ⟨fun _ => .of fun R h H => ⟨trivial, trivial⟩, fun g1 => ⟨fun _ => .of fun R h H => ⟨trivial, trivial⟩, fun g2 => ?_⟩⟩⟩, H⟩
  clear H
  have gx : ¬ greatS e := by simpa using gx
  have oe := ne.ok gx
  have ox : DdOk x := ⟨nx.1, nx.2.1, nx.2.2.1, nx.2.2.2.1, nx.2.2.2.2.1, nx.2.2.2.2.2, by omega, by omega⟩
  refine (lineK_ok e r oe).weak (fun _ _ h => h) ?_
  rintro v R h ⟨rfl, H⟩
  refine ⟨lineS e, rfl, ?_, H⟩
  clear H
  have fin : ∀ {K : HP} {c : Bool}, c = true → HP.ent K (HP.and (Value.bool c = .bool true) HP.tt) := fun h => .of fun R x _ => ⟨by rw [h], trivial⟩
  refine (read_ok (lineS e) (line_len2 oe gx)).weak (fun _ _ h => trivial) ?_
  intro v R h H
  have hcase : (lineS e = [63] ∧ v = .tuple #[.agg (evL (zeroE 0) ⟨none, 0, none, 0⟩).toArray, .int .i64 3]) ∨ (¬ lineS e = [63] ∧ ∃ r', (v = .tuple #[.agg (evL (toldS e) r').toArray, .int .i64 0]) ∧ (EvB (toldS e) r').p R h) := by
    unfold ReadP at H
    by_cases hq : lineS e = [63]
    · rw [hq, read_q] at H
      exact .inl ⟨hq, H⟩
    · have hk : ¬ (e.kind < 1 ∨ 8 < e.kind) := fun h => hq (line_q.2 h)
      rw [read_line oe (by omega) (by omega)] at H
      obtain ⟨r', ⟨h1, _⟩, h2⟩ := H
      exact .inr ⟨hq, r', h1, h2⟩
  clear H
  rcases hcase with ⟨hq, rfl⟩ | ⟨hq, r', rfl, H⟩
  · refine ⟨0, 0, 0, false, 0, [], [], 0, 0, none, 0, 0, RoB none 0 [], none, 0, 0, RoB none 0 [], 3, rfl, fun b3 b4 => ?_, EvB.zero⟩
    refine (tTell_ok b4 x ox).weak (fun _ _ h => h) ?_
    rintro v R h ⟨a2, c2, rfl, H⟩
    have hs : a2.isSome = true := OwC.some (HP.sep_left H) (by decide)
    refine ⟨a2, 1, c2, OwS a2 1 c2 [tellS x], rfl, ⟨fun c => c = false, ?_, fun c hc => ⟨fun h => absurd (h.symm.trans hc) (by decide), fun _ => ?_⟩⟩, H⟩
    · clear H
      refine (rLine_ok e r oe).weak (fun _ _ h => h) ?_
      rintro v R h ⟨rfl, H⟩
      refine ⟨lineS e, rfl, ⟨fun h => absurd rfl h, fun _ => ⟨fun h => absurd rfl h, fun _ => ⟨by decide, fun _ => ⟨hs, fun _ => ⟨tellS x, loadSt (RdL.ow _ _ _ _ _ _).rd (k := 0) rfl, ?_⟩⟩⟩⟩⟩, H⟩
      clear H
      refine (rTell_ok x ox).weak (fun _ _ h => h) ?_
      rintro v R h ⟨rfl, H⟩
      exact ⟨tellS x, rfl, by show (!decide (tellS x = tellS x)) = false; simp, H⟩
    clear H
    refine ⟨fun _ => ⟨fun _ => ?_, fun h => absurd rfl h⟩, fun h => absurd hq h⟩
    refine (rSame_ok (zeroE 0) (zeroE 0) ⟨none, 0, none, 0⟩ ⟨none, 0, none, 0⟩ EvOk.zero EvOk.zero).weak (fun R h H => EvB2.of (h1 := h) (h2 := h) H H) ?_
    rintro v R h ⟨rfl, H⟩
    exact ⟨true, rfl, fin rfl, EvB.zero⟩
  · refine ⟨(toldS e).kind, (toldS e).who, (toldS e).at_, (toldS e).stays, (toldS e).ck, (toldS e).path, (toldS e).other, (toldS e).off, (toldS e).n, r'.da, (toldS e).data.length, r'.dc, RoB r'.da (toldS e).data.length (toldS e).data, r'.pa, (toldS e).picks.length, r'.pc, RoB r'.pa (toldS e).picks.length (toldS e).picks, 0, rfl, fun b3 b4 => ?_, H⟩
    clear H
    refine (tTell_ok b4 x ox).weak (fun _ _ h => h) ?_
    rintro v R h ⟨a2, c2, rfl, H⟩
    have hs : a2.isSome = true := OwC.some (HP.sep_left H) (by decide)
    refine ⟨a2, 1, c2, OwS a2 1 c2 [tellS x], rfl, ⟨fun c => c = false, ?_, fun c hc => ⟨fun h => absurd (h.symm.trans hc) (by decide), fun _ => ?_⟩⟩, H⟩
    · clear H
      refine (rLine_ok e r oe).weak (fun _ _ h => h) ?_
      rintro v R h ⟨rfl, H⟩
      refine ⟨lineS e, rfl, ⟨fun h => absurd rfl h, fun _ => ⟨fun h => absurd rfl h, fun _ => ⟨by decide, fun _ => ⟨hs, fun _ => ⟨tellS x, loadSt (RdL.ow _ _ _ _ _ _).rd (k := 0) rfl, ?_⟩⟩⟩⟩⟩, H⟩
      clear H
      refine (rTell_ok x ox).weak (fun _ _ h => h) ?_
      rintro v R h ⟨rfl, H⟩
      exact ⟨tellS x, rfl, by show (!decide (tellS x = tellS x)) = false; simp, H⟩
    clear H
    refine ⟨fun h => absurd h hq, fun _ => ⟨fun c _ _ => c = true, ⟨fun _ => ?_, fun h => absurd rfl h⟩, fun c _ _ hc => fin hc⟩⟩
    refine (rTold_ok e r).weak (fun _ _ h => h) ?_
    rintro v R h ⟨rfl, H⟩
    refine ⟨(toldS e).kind, (toldS e).who, (toldS e).at_, (toldS e).stays, (toldS e).ck, (toldS e).path, (toldS e).other, (toldS e).off, (toldS e).n, (toldA e r).da, (toldS e).data.length, (toldA e r).dc, RoB (toldA e r).da (toldS e).data.length (toldS e).data, (toldA e r).pa, (toldS e).picks.length, (toldA e r).pc, RoB (toldA e r).pa (toldS e).picks.length (toldS e).picks, RoB r.da e.data.length e.data, RoB r.pa e.picks.length e.picks, ?_, ?_, ?_⟩
    · rfl
    · clear H
      refine (rSame_ok (toldS e) (toldS e) r' (toldA e r) oe.told oe.told).weak (fun R h H => H) ?_
      rintro v R h ⟨rfl, H⟩
      exact ⟨true, by rw [decide_eq_true rfl], rfl, H⟩
    · exact H
end Go.Proofs.YtcpjdfihpdjkbaaGreatDoor



namespace Go.Proofs.YtcpjdfihpdjkbaaGreatDoor
open Go.RowKit Go.ChangeShapes Go.WideShapes Go.Deep RX
set_option maxRecDepth 100000
set_option linter.unusedVariables false
set_option linter.unusedSimpArgs false

structure EvI where
  kind : Int
  who : Int
  at_ : Int
  stays : Bool
  call_kind : Int
  call_path : List UInt8
  call_other : List UInt8
  call_off : Int
  call_n : Int
  call_data : List UInt8
  call_dataa : Option Addr
  call_datac : Nat
  picks : List UInt8
  picksa : Option Addr
  picksc : Nat
abbrev EvI.vals (x : EvI) : List Value := [.int .i64 x.kind, .int .i64 x.who, .int .i64 x.at_, .bool x.stays, .int .i64 x.call_kind, .string ⟨x.call_path.toArray⟩, .string ⟨x.call_other.toArray⟩, .int .i64 x.call_off, .int .i64 x.call_n, .slice x.call_dataa x.call_data.length x.call_datac, .slice x.picksa x.picks.length x.picksc]
def EvI.hp (x : EvI) : HP := HP.both (HP.pure (okI x.kind)) (HP.both (HP.pure (okI x.who)) (HP.both (HP.pure (okI x.at_)) (HP.both (HP.pure (okI x.call_kind)) (HP.both (HP.pure (x.call_path.length ≤ 9223372036854775807)) (HP.both (HP.pure (x.call_other.length ≤ 9223372036854775807)) (HP.both (HP.pure (okI x.call_off)) (HP.both (HP.pure (okI x.call_n)) (HP.both (HP.and (x.call_data.length ≤ 140737488355328) (RoB x.call_dataa x.call_data.length x.call_data)) (HP.and (x.picks.length ≤ 140737488355328) (RoB x.picksa x.picks.length x.picks))))))))))
theorem EvI.pers (x : EvI) (R h h' : PH) (H : (x.hp).p R h) : (x.hp).p R h' := ⟨H.1, ⟨H.2.1, ⟨H.2.2.1, ⟨H.2.2.2.1, ⟨H.2.2.2.2.1, ⟨H.2.2.2.2.2.1, ⟨H.2.2.2.2.2.2.1, ⟨H.2.2.2.2.2.2.2.1, ⟨H.2.2.2.2.2.2.2.2.1, H.2.2.2.2.2.2.2.2.2⟩⟩⟩⟩⟩⟩⟩⟩⟩
instance : Inhabited EvI := ⟨⟨0, 0, 0, false, 0, [], [], 0, 0, [], none, 0, [], none, 0⟩⟩
def kEvI : Kind EvI := ⟨11, by decide, EvI.vals, fun _ => rfl, EvI.hp, EvI.pers⟩
theorem EvI.of_trod {H : Type} {enc : TypeId × Value → H} {w : World} {cs : List Value} {n : Nat} {x : DataW H × List MemPlace} (h : DataW.trod enc Tryz.prog w 0 (fun _ => true) true n 26 cs = some x) (hs : Small Tryz.prog 26 x.1) : ∃ m : EvI, cs = kEvI.vals m ∧ ∀ h, (kEvI.hp m).p (allOf w) h := by
  obtain ⟨xs0, n0, _, hx0, hl0, hxl0, hf0⟩ := DataW.trod_struct Tryz.underlying26 h
  replace hxl0 : xs0.length = 6 := hxl0
  have hs0 : Small Tryz.prog 26 (.agg (xs0.map (·.1))) := by
    have e := hx0
    first | (subst e; exact hs) | (rw [e] at hs; exact hs) | (have e2 := congrArg Prod.fst e; rw [← e2]; exact hs) | (rw [← e]; exact hs)
  obtain ⟨c0, e0, w0⟩ := field_int Tryz.underlying3 (show 0 < xs0.length by omega) (by kernel_rfl) (hf0 0 _ rfl)
  obtain ⟨c1, e1, w1⟩ := field_int Tryz.underlying3 (show 1 < xs0.length by omega) (by kernel_rfl) (hf0 1 _ rfl)
  obtain ⟨c2, e2, w2⟩ := field_int Tryz.underlying3 (show 2 < xs0.length by omega) (by kernel_rfl) (hf0 2 _ rfl)
  obtain ⟨c3, e3⟩ := field_bool Tryz.underlying4 (show 3 < xs0.length by omega) (by kernel_rfl) (hf0 3 _ rfl)
  have g0_4 := hf0 4 _ rfl
  rw [List.getElem?_eq_getElem (show 4 < xs0.length by omega)] at g0_4
  have hp0_4 : Small Tryz.prog 24 xs0[4].1 := Small.part (i := 4) hs0 Tryz.underlying26 rfl (by rw [List.getElem?_map, List.getElem?_eq_getElem (show 4 < xs0.length by omega)]; rfl)
  obtain ⟨xs1, n1, _, hx1, hl1, hxl1, hf1⟩ := DataW.trod_struct Tryz.underlying24 g0_4
  replace hxl1 : xs1.length = 6 := hxl1
  have hs1 : Small Tryz.prog 24 (.agg (xs1.map (·.1))) := by
    have e := hx1
    first | (subst e; exact hp0_4) | (rw [e] at hp0_4; exact hp0_4) | (have e2 := congrArg Prod.fst e; rw [← e2]; exact hp0_4) | (rw [← e]; exact hp0_4)
  obtain ⟨c4, e4, w4⟩ := field_int Tryz.underlying3 (show 0 < xs1.length by omega) (by kernel_rfl) (hf1 0 _ rfl)
  rw [List.getElem?_take_of_lt (of_decide_eq_true (by kernel_rfl)), List.getElem?_drop] at e4
  obtain ⟨c5, e5, w5⟩ := field_str Tryz.underlying9 (show 1 < xs1.length by omega) (by kernel_rfl) (hf1 1 _ rfl)
  rw [List.getElem?_take_of_lt (of_decide_eq_true (by kernel_rfl)), List.getElem?_drop] at e5
  obtain ⟨c6, e6, w6⟩ := field_str Tryz.underlying9 (show 2 < xs1.length by omega) (by kernel_rfl) (hf1 2 _ rfl)
  rw [List.getElem?_take_of_lt (of_decide_eq_true (by kernel_rfl)), List.getElem?_drop] at e6
  obtain ⟨c7, e7, w7⟩ := field_int Tryz.underlying3 (show 3 < xs1.length by omega) (by kernel_rfl) (hf1 3 _ rfl)
  rw [List.getElem?_take_of_lt (of_decide_eq_true (by kernel_rfl)), List.getElem?_drop] at e7
  obtain ⟨c8, e8, w8⟩ := field_int Tryz.underlying3 (show 4 < xs1.length by omega) (by kernel_rfl) (hf1 4 _ rfl)
  rw [List.getElem?_take_of_lt (of_decide_eq_true (by kernel_rfl)), List.getElem?_drop] at e8
  obtain ⟨a9, l9, k9, e9⟩ := field_slice Tryz.underlying22 (show 5 < xs1.length by omega) (by kernel_rfl) (hf1 5 _ rfl)
  have q9 := hf1 5 _ rfl
  rw [List.getElem?_eq_getElem (show 5 < xs1.length by omega)] at q9
  have g9 : DataW.trod enc Tryz.prog w 0 (fun _ => true) true n1 22 [.slice a9 l9 k9] = some xs1[5] := by
    rw [← take1' e9]
    exact q9
  have s9 : Small Tryz.prog 22 xs1[5].1 := Small.part (i := 5) hs1 Tryz.underlying24 rfl (by rw [List.getElem?_map, List.getElem?_eq_getElem (show 5 < xs1.length by omega)]; rfl)
  obtain ⟨b9, d9, m9, r9, y9, z9⟩ := bytes_of_trod g9 s9
  simp only [Value.slice.injEq] at r9
  obtain ⟨rfl, rfl, rfl⟩ := r9
  rw [List.getElem?_take_of_lt (of_decide_eq_true (by kernel_rfl)), List.getElem?_drop] at e9
  obtain ⟨a10, l10, k10, e10⟩ := field_slice Tryz.underlying22 (show 5 < xs0.length by omega) (by kernel_rfl) (hf0 5 _ rfl)
  have q10 := hf0 5 _ rfl
  rw [List.getElem?_eq_getElem (show 5 < xs0.length by omega)] at q10
  have g10 : DataW.trod enc Tryz.prog w 0 (fun _ => true) true n0 22 [.slice a10 l10 k10] = some xs0[5] := by
    rw [← take1' e10]
    exact q10
  have s10 : Small Tryz.prog 22 xs0[5].1 := Small.part (i := 5) hs0 Tryz.underlying26 rfl (by rw [List.getElem?_map, List.getElem?_eq_getElem (show 5 < xs0.length by omega)]; rfl)
  obtain ⟨b10, d10, m10, r10, y10, z10⟩ := bytes_of_trod g10 s10
  simp only [Value.slice.injEq] at r10
  obtain ⟨rfl, rfl, rfl⟩ := r10
  have hlen : cs.length = 11 := hl0.trans (by kernel_rfl)
  refine ⟨⟨c0, c1, c2, c3, c4, c5, c6, c7, c8, d9, a9, k9, d10, a10, k10⟩, ?_, fun hh => ⟨int_wf w0, ⟨int_wf w1, ⟨int_wf w2, ⟨int_wf w4, ⟨w5, ⟨w6, ⟨int_wf w7, ⟨int_wf w8, ⟨⟨y9, z9 hh⟩, ⟨y10, z10 hh⟩⟩⟩⟩⟩⟩⟩⟩⟩⟩⟩
  clear h hl0 hf0 hl1 hf1 g0_4 q9 g9 s9 q10 g10 s10
  revert e0 e1 e2 e3 e4 e5 e6 e7 e8 e9 e10
  match cs, hlen with
  | [u0, u1, u2, u3, u4, u5, u6, u7, u8, u9, u10], _ =>
    intro e0
    obtain rfl : u0 = .int _ c0 := Option.some.inj e0
    intro e1
    obtain rfl : u1 = .int _ c1 := Option.some.inj e1
    intro e2
    obtain rfl : u2 = .int _ c2 := Option.some.inj e2
    intro e3
    obtain rfl : u3 = .bool c3 := Option.some.inj e3
    intro e4
    obtain rfl : u4 = .int _ c4 := Option.some.inj e4
    intro e5
    obtain rfl : u5 = .string ⟨c5.toArray⟩ := Option.some.inj e5
    intro e6
    obtain rfl : u6 = .string ⟨c6.toArray⟩ := Option.some.inj e6
    intro e7
    obtain rfl : u7 = .int _ c7 := Option.some.inj e7
    intro e8
    obtain rfl : u8 = .int _ c8 := Option.some.inj e8
    intro e9
    obtain rfl : u9 = .slice a9 d9.length k9 := Option.some.inj e9
    intro e10
    obtain rfl : u10 = .slice a10 d10.length k10 := Option.some.inj e10
    rfl
end Go.Proofs.YtcpjdfihpdjkbaaGreatDoor



namespace Go.Proofs.YtcpjdfihpdjkbaaGreatDoor
open Go.Proofs.YtcpjdfihpdjkbaaGreatDoor RX Go.RowKit
set_option maxRecDepth 100000

def EvI.s (m : EvI) : EvS := ⟨m.kind, m.who, m.at_, m.stays, m.call_kind, m.call_path, m.call_other, m.call_off, m.call_n, m.call_data, m.picks⟩
def EvI.r (m : EvI) : EvA := ⟨m.call_dataa, m.call_datac, m.picksa, m.picksc⟩
theorem EvI.n {m : EvI} {w : World} (z : ∀ h, (kEvI.hp m).p (allOf w) h) : EvN m.s := by
  obtain ⟨a, b, c, d, e, f, g, h, _⟩ : (EvI.hp m).p (allOf w) PH.none' := z PH.none'
  exact ⟨a, b, c, d, g, h⟩
theorem EvI.b {m : EvI} {w : World} (z : ∀ h, (kEvI.hp m).p (allOf w) h) (x : PH) : (EvB m.s m.r).p (allOf w) x := by
  obtain ⟨a, b, c, d, e, f, g, h, i, j⟩ : (EvI.hp m).p (allOf w) PH.none' := z PH.none'
  exact ⟨PH.none', x, PH.none_dj _, PH.none_le _, PH.le.refl _, i.2, j.2⟩
end Go.Proofs.YtcpjdfihpdjkbaaGreatDoor



namespace Go.Proofs.YtcpjdfihpdjkbaaGreatDoor
open Go.Proofs.YtcpjdfihpdjkbaaGreatDoor RX Go.RowKit
set_option maxRecDepth 100000

theorem DeedI.n {x : DeedI} {w : World} (z : ∀ h, (kDeedI.hp x).p (allOf w) h) : DdN x := by
  obtain ⟨a, b, c, _, _, _, _, _, _, d, e, f, _⟩ : (DeedI.hp x).p (allOf w) PH.none' := z PH.none'
  exact ⟨a, b, c, d, e, f⟩
theorem DeedI.b {x : DeedI} {w : World} (z : ∀ h, (kDeedI.hp x).p (allOf w) h) (y : PH) : (DdP x).p (allOf w) y := by
  obtain ⟨a, b, c, _, _, _, _, _, q1, d, e, f, _, _, _, q2, q3⟩ : (DeedI.hp x).p (allOf w) y := z y
  exact ⟨PH.none', y, PH.none_dj _, PH.none_le _, PH.le.refl _, q1.2, PH.none', y, PH.none_dj _, PH.none_le _, PH.le.refl _, q2.2, q3.2⟩
theorem taleLines_in (m : EvI) (x : DeedI) {w : World} (z0 : ∀ h, (kEvI.hp m).p (allOf w) h) (z1 : ∀ h, (kDeedI.hp x).p (allOf w) h) : Tri Tryz.prog 3 #[.agg (kEvI.vals m).toArray, .agg (kDeedI.vals x).toArray] (HP.sep (RoB m.r.da m.s.data.length m.s.data) (HP.sep (RoB m.r.pa m.s.picks.length m.s.picks) (DdP x))) (fun v => HP.pure (v = .bool true)) :=
  (taleLines_ok m.s m.r x (EvI.n z0) (DeedI.n z1)).weak (fun _ _ h => h) fun _ _ _ h => h.1
theorem lines_pre (m : EvI) (x : DeedI) {w : World} (z0 : ∀ h, (kEvI.hp m).p (allOf w) h) (z1 : ∀ h, (kDeedI.hp x).p (allOf w) h) (y : PH) : (HP.sep (RoB m.r.da m.s.data.length m.s.data) (HP.sep (RoB m.r.pa m.s.picks.length m.s.picks) (DdP x))).p (allOf w) y := by
  have a1 : (RoB m.r.da m.s.data.length m.s.data).p (allOf w) y := HP.sep_left (EvI.b z0 y)
  have a2 : (RoB m.r.pa m.s.picks.length m.s.picks).p (allOf w) y := HP.sep_right (EvI.b z0 y)
  exact ⟨PH.none', y, PH.none_dj _, PH.none_le _, PH.le.refl _, a1, PH.none', y, PH.none_dj _, PH.none_le _, PH.le.refl _, a2, DeedI.b z1 y⟩
end Go.Proofs.YtcpjdfihpdjkbaaGreatDoor



namespace Go.Proofs.YtcpjdfihpdjkbaaGreatDoor
open Go.Proofs.YtcpjdfihpdjkbaaGreatDoor RX
open Go.ChangeShapes Go.WideShapes Go.ChangeAt Go.RowKit
set_option maxRecDepth 100000

theorem laid_in {P : Program} {w : World} {n : String} {d : DataW Unit} : ∀ {l : List (String × DataW Unit)} {ps : List MemPlace}, DataW.LaidVars P w l ps → (n, d) ∈ l → ∃ g t cs fuel p ty fr, P.globalNamed n = some g ∧ (P.globals[g]?).map (·.type) = some t ∧ w.heap[(g : Nat)]? = some (.cells cs ty fr) ∧ DataW.trod (fun _ => ()) P w 0 (fun _ => true) false fuel t cs.toList = some (d, p)
  | [], _, _, hm => by cases hm
  | (n', d') :: r, ps, ⟨g, t, cs, fuel, p, q, hg, ht, hv, htr, hr, _⟩, hm => by
    rcases List.mem_cons.1 hm with e | hm
    · cases e
      unfold World.var? at hv
      rw [hg] at hv
      simp only [Option.bind_some] at hv
      split at hv
      · rename_i c ty fr e
        cases hv
        exact ⟨g, t, _, fuel, p, ty, fr, hg, ht, e, htr⟩
      · cases hv
    · exact laid_in hr hm
theorem trod_if {P : Program} {w : World} {t : TypeId} {ms : Array (String × TypeId)} {fuel : Nat} {cs : List Value} {nm : String} {x : DataW Unit} {p : List MemPlace} (hu : P.underlying t = some (.interface ms)) (h : DataW.trod (fun _ => ()) P w 0 (fun _ => true) false fuel t cs = some (.iface nm x, p)) : ∃ tp v, cs = [.iface tp v] := by
  cases fuel with
  | zero => simp [DataW.trod] at h
  | succ m =>
    unfold DataW.trod at h
    rw [hu] at h
    cases cs with
    | nil => simp at h
    | cons c r =>
      cases r with
      | cons _ _ => simp at h
      | nil =>
        cases c
        case iface u v => exact ⟨u, v, rfl⟩
        all_goals simp at h
theorem pow_type : (Tryz.prog.globals[(1 : Nat)]?).map (·.type) = some 120 := by kernel_rfl
theorem undPow : Tryz.prog.underlying 120 = some (.array 20 81) := by kernel_rfl
theorem und64u : Tryz.prog.underlying 81 = some (.int .u64) := by kernel_rfl
theorem cells64 : Tryz.prog.cellsOf 81 = 1 := by kernel_rfl
theorem cellsPow : Tryz.prog.cellsOf 120 = 20 := by kernel_rfl
theorem gre_of {w : World} {l : List (String × DataW Unit)} {ps : List MemPlace} (h : DataW.LaidVars Tryz.prog w l ps) {n : String} {nm : String} {x : DataW Unit} (hm : (n, .iface nm x) ∈ l) {g : Nat} (hg : Tryz.prog.globalNamed n = some g) (ht : (Tryz.prog.globals[g]?).map (·.type) = some 74) : GRe (allOf w) g := by
  obtain ⟨g', t, cs, fuel, p, ty, fr, hg', ht', hh, htr⟩ := laid_in h hm
  rw [hg] at hg'
  cases hg'
  rw [ht] at ht'
  cases ht'
  obtain ⟨ms, hu⟩ := isIf (t := 74) (by kernel_rfl)
  obtain ⟨tp, v, e⟩ := trod_if hu htr
  have : cs = #[.iface tp v] := by rw [← Array.toArray_toList (xs := cs), e]
  exact ⟨tp, v, ty, fr, by rw [← this]; exact hh⟩
theorem gr_of {w : World} {l : List (String × DataW Unit)} {ps : List MemPlace} (h : DataW.LaidVars Tryz.prog w l ps) (h1 : ("internal/strconv.uint64pow10", Rows.laid_internal_strconv_uint64pow10) ∈ l := by repeat (first | exact List.Mem.head _ | apply List.Mem.tail)) (h2 : ("strconv.ErrRange", Rows.laid_strconv_ErrRange) ∈ l := by repeat (first | exact List.Mem.head _ | apply List.Mem.tail)) (h3 : ("strconv.ErrSyntax", Rows.laid_strconv_ErrSyntax) ∈ l := by repeat (first | exact List.Mem.head _ | apply List.Mem.tail)) : GR (allOf w) := by
  refine ⟨?_, gre_of h h3 (g := 4) (by kernel_rfl) (by kernel_rfl), gre_of h h2 (g := 5) (by kernel_rfl) (by kernel_rfl)⟩
  obtain ⟨g, t, cs, fuel, p, ty, fr, hg, ht, hh, htr⟩ := laid_in h h1
  obtain rfl : g = 1 := Option.some.inj (hg.symm.trans (by kernel_rfl))
  rw [pow_type] at ht
  cases ht
  obtain ⟨xs, m, _, hx, hl, hn, hel⟩ := DataW.trod_array undPow htr
  have hd : xs.map (·.1) = tens.map fun n => DataW.lit (.int .u64 n) := by
    have := congrArg Prod.fst hx
    unfold Rows.laid_internal_strconv_uint64pow10 at this
    injection this with this
    exact this.symm
  have hcs : cs = (tens.map (Value.int .u64)).toArray := by
    rw [← Array.toArray_toList (xs := cs)]
    congr 1
    refine List.ext_getElem? fun i => ?_
    rw [cellsPow] at hl
    by_cases hi : i < 20
    · have h1 := hel i hi
      rw [cells64, Nat.mul_one] at h1
      obtain ⟨v, hv⟩ : ∃ v, tens[i]? = some v := ⟨tens[i]'(by show i < 20; exact hi), List.getElem?_eq_getElem _⟩
      have h3 : (xs.map (·.1))[i]? = some (DataW.lit (.int .u64 v)) := by rw [hd, List.getElem?_map, hv]; rfl
      rw [List.getElem?_map] at h3
      obtain ⟨y, hy, hy2⟩ := Option.map_eq_some_iff.1 h3
      rw [hy] at h1
      obtain ⟨z, hz, hz2, _⟩ := DataW.trod_int und64u h1
      rw [hz2] at hy2
      have e : z = v := by
        injection hy2 with e
        injection e
      subst e
      have h5 : (List.take 1 (cs.toList.drop i))[0]? = some (Value.int .u64 z) := by rw [hz]; rfl
      rw [List.getElem?_take, if_pos (by decide), List.getElem?_drop, Nat.add_zero] at h5
      rw [h5, List.getElem?_map, hv]; rfl
    · rw [List.getElem?_eq_none (by omega), List.getElem?_eq_none (by show 20 ≤ i; omega)]
  exact ⟨ty, fr, by rw [← hcs]; exact hh⟩
end Go.Proofs.YtcpjdfihpdjkbaaGreatDoor



namespace Go.Proofs.YtcpjdfihpdjkbaaGreatDoor
open Go.RowKit Go.ChangeShapes Go.WideShapes Go.Deep RX

set_option maxRecDepth 100000 in
theorem taleLines_walk {H : Type} (enc : TypeId × Value → H) (base : Nat) (v0 v1 : Value) (w : World)
    (k0 : Value.okWide Tryz.prog w .any base 26 v0) (h0 : ∃ d p, DataW.Trod enc Tryz.prog w 0 (fun _ => true) true 26 v0 d p ∧ Small Tryz.prog 26 d)
    (k1 : Value.okWide Tryz.prog w .any base 34 v1) (h1 : ∃ d p, DataW.Trod enc Tryz.prog w 0 (fun _ => true) true 34 v1 d p ∧ Small Tryz.prog 34 d) (hG : GR (allOf w)) :
    Calls Tryz.prog 3 #[v0, v1] w fun e w' => e = .returned (.bool true) ∧ Below w.heap.size w w' := by
  obtain ⟨m0, rfl, z0⟩ := struct_open kEvI Tryz.underlying26 EvI.of_trod k0 h0
  obtain ⟨m1, rfl, z1⟩ := struct_open kDeedI Tryz.underlying34 DeedI.of_trod k1 h1
  exact Tri.run (taleLines_in m0 m1 z0 z1) (lines_pre m0 m1 z0 z1 PH.none') hG
end Go.Proofs.YtcpjdfihpdjkbaaGreatDoor



namespace Go.Proofs.YtcpjdfihpdjkbaaGreatDoor.taleLines
open Go.ChangeShapes Go.WideShapes Go.ChangeAt Go.RowKit
set_option linter.unusedVariables false

theorem own : ownKnob Tryz.prog.godebug = none := by kernel_rfl
theorem laidOut : laidOutB Tryz.prog = true := by kernel_rfl

def laidL : List (String × DataW Unit) := [("math/bits.deBruijn32tab", Rows.laid_math_bits_deBruijn32tab), ("math/bits.deBruijn64tab", Rows.laid_math_bits_deBruijn64tab), ("internal/strconv.uint64pow10", Rows.laid_internal_strconv_uint64pow10), ("unicode/utf8.acceptRanges", Rows.laid_unicode_utf8_acceptRanges), ("strconv.ErrRange", Rows.laid_strconv_ErrRange), ("strconv.ErrSyntax", Rows.laid_strconv_ErrSyntax), ("unicode/utf8.first", Rows.laid_unicode_utf8_first)]
set_option maxRecDepth 100000 in
theorem plainL (w : World) : laidMetH Tryz.prog laidL w = laidMet Tryz.prog laidL w := MakeChecks.laidMetH_plain _ _ _ (by kernel_rfl)
set_option maxRecDepth 100000 in
theorem door_met (os : Os) (args : Array Value) : laidMetH Tryz.prog laidL ((World.laidAll Tryz.prog os laidL).forCall (fun _ _ => 0) ⟨#[], args, []⟩).memory := by
  rw [plainL]
  exact laidMet_laidAll _ (by kernel_rfl) (by kernel_rfl)
end Go.Proofs.YtcpjdfihpdjkbaaGreatDoor.taleLines




namespace Go.Proofs.YtcpjdfihpdjkbaaGreatDoor.taleLines
open Go.ChangeShapes Go.WideShapes Go.ChangeAt Go.RowKit
set_option linter.unusedVariables false

set_option maxRecDepth 100000 in
theorem lifted (os : Os) (started : os.Started) (H : Type) (enc : TypeId × Value → H) :
    ReturnsInHanded {} Tryz.checked os 3 .any (fun w args => (Rows.taleLinesSpec.pre enc Tryz.prog Tryz.f3 [] false w args ∧ laidMetH Tryz.prog laidL w) ∧ sizedMet enc Tryz.prog Tryz.f3 (OpenSpec.ofChange Rows.taleLinesSpec) false w args) (Rows.taleLinesSpec.post enc Tryz.prog Tryz.f3 false true false false) := by
  refine returnsInHanded_of_change_and (C := Tryz.checked) (X := fun w _ => laidMetH Tryz.prog laidL w) (fun _ _ _ hh h => h.of_heap hh) own started (by kernel_rfl) Tryz.func3
    (ChangeSpec.witness_shaped (enc := enc) (C := Tryz.checked) (os := os) (X := fun w _ => laidMetH Tryz.prog laidL w) false (World.laidAll Tryz.prog os laidL) #[.agg #[.int .i64 0, .int .i64 0, .int .i64 0, .bool false, .int .i64 0, .string .empty, .string .empty, .int .i64 0, .int .i64 0, .slice none 0 0, .slice none 0 0], .agg #[.int .i64 0, .int .i64 0, .int .i64 0, .int .i64 0, .string .empty, .string .empty, .int .i64 0, .int .i64 0, .slice none 0 0, .int .i64 0, .int .i64 0, .int .i64 0, .int .i64 0, .int .i64 0, .int .i64 0, .slice none 0 0, .slice none 0 0]] 8 (World.laidAll_os _ _ _) (World.shaped_of_ZipB (by kernel_rfl) (by kernel_rfl)) (by kernel_rfl) (by kernel_rfl) (by kernel_rfl) (door_met os _)) ?_
  intro W base args ds gs before hval0 hW hcnd hsz0 hX _
  have hG : GR (allOf W) := by rw [plainL] at hX; obtain ⟨_, hv, _⟩ := hX; exact gr_of hv
  have hval : ∀ (j : Nat) t v, Tryz.f3.params[j]? = some t → args[j]? = some v → Value.okWide Tryz.prog W .any base t v := hval0
  have hW' := hW
  obtain ⟨p, q, hA0, hV, rfl, hfz, hnd⟩ := hW
  have hA : DataW.TrodAll enc Tryz.prog W 0 (fun _ => true) true Tryz.f3.params.toList args.toList ds p := hA0
  have hsz : (DataW.weightsEach Tryz.prog (Tryz.f3.params.toList ++ Rows.taleLinesSpec.plain.varTypes Tryz.prog) (ds ++ gs)).all (· ≤ reachBytes) = true := hsz0
  clear hsz0
  rw [Tryz.params3] at hA hval hsz
  obtain ⟨v0, vs0, d0, ds0, p0, q0, hargs, rfl, rfl, h0, r0⟩ := trodAll_cons hA
  obtain ⟨v1, vs1, d1, ds1, p1, q1, rfl, rfl, rfl, h1, r1⟩ := trodAll_cons r0
  obtain ⟨rfl, rfl, rfl⟩ := trodAll_nil r1
  obtain rfl : args = #[v0, v1] := by cases args; simp_all
  obtain ⟨rfl, rfl⟩ := trodVars_none hV
  have lt0 : ∀ x ∈ p0, x.block < W.heap.size := by obtain ⟨m, hm⟩ := h0; exact DataW.trod_lt m _ _ _ hm
  have lt1 : ∀ x ∈ p1, x.block < W.heap.size := by obtain ⟨m, hm⟩ := h1; exact DataW.trod_lt m _ _ _ hm
  refine (taleLines_walk enc base v0 v1 W (hval 0 26 v0 rfl rfl) ⟨_, _, h0, Small.arg hsz (j := 0) rfl rfl⟩ (hval 1 34 v1 rfl rfl) ⟨_, _, h1, Small.arg hsz (j := 1) rfl rfl⟩ hG).mono fun e W' ⟨he, bel⟩ => ?_
  subst he
  exact ⟨_, rfl, _, _, _, [], _, [], hW', trodAll_mk1 (shut_bool Tryz.underlying4 _), (trodAll_cons_mk (Below.trod laidOut (by kernel_rfl) (of_decide_eq_true (by kernel_rfl)) h0 bel lt0) (trodAll_cons_mk (Below.trod laidOut (by kernel_rfl) (of_decide_eq_true (by kernel_rfl)) h1 bel lt1) trodAll_mk0)), rfl, bel.frame _, fun h => by cases h⟩

end Go.Proofs.YtcpjdfihpdjkbaaGreatDoor.taleLines




namespace Go.Proofs.YtcpjdfihpdjkbaaGreatDoor.taleLines
open Go.ChangeShapes Go.WideShapes Go.ChangeAt Go.RowKit
set_option linter.unusedVariables false

theorem and2 {a b : Bool} (h1 : a = true) (h2 : b = true) : (a && b) = true := by rw [h1, h2]; rfl
theorem c0 : (fun (P : Program) (f : FuncId) (fn : Func) (s : ChangeSpec) (c : OpenClaim) => (c.wf (OpenSpec.ofChange s) : Bool)) Tryz.pinned.checked.prog 3 Tryz.f3 Rows.taleLinesSpec Rows.taleLinesRow = true := by kernel_rfl
theorem c1 : (fun (P : Program) (f : FuncId) (fn : Func) (s : ChangeSpec) (c : OpenClaim) => (laidOutB P : Bool)) Tryz.pinned.checked.prog 3 Tryz.f3 Rows.taleLinesSpec Rows.taleLinesRow = true := by kernel_rfl
theorem c2 : (fun (P : Program) (f : FuncId) (fn : Func) (s : ChangeSpec) (c : OpenClaim) => (mapsRowed P : Bool)) Tryz.pinned.checked.prog 3 Tryz.f3 Rows.taleLinesSpec Rows.taleLinesRow = true := by kernel_rfl
theorem c3 : (fun (P : Program) (f : FuncId) (fn : Func) (s : ChangeSpec) (c : OpenClaim) => (fn.params.all (P.readableRec ·) : Bool)) Tryz.pinned.checked.prog 3 Tryz.f3 Rows.taleLinesSpec Rows.taleLinesRow = true := by kernel_rfl
theorem c4 : (fun (P : Program) (f : FuncId) (fn : Func) (s : ChangeSpec) (c : OpenClaim) => (namedTie P c.named s.vars : Bool)) Tryz.pinned.checked.prog 3 Tryz.f3 Rows.taleLinesSpec Rows.taleLinesRow = true := by kernel_rfl
theorem c5 : (fun (P : Program) (f : FuncId) (fn : Func) (s : ChangeSpec) (c : OpenClaim) => ((c.stops == []) : Bool)) Tryz.pinned.checked.prog 3 Tryz.f3 Rows.taleLinesSpec Rows.taleLinesRow = true := by kernel_rfl
theorem c6 : (fun (P : Program) (f : FuncId) (fn : Func) (s : ChangeSpec) (c : OpenClaim) => ((P.stops == []) : Bool)) Tryz.pinned.checked.prog 3 Tryz.f3 Rows.taleLinesSpec Rows.taleLinesRow = true := by kernel_rfl
theorem c7 : (fun (P : Program) (f : FuncId) (fn : Func) (s : ChangeSpec) (c : OpenClaim) => ((c.knobs == []) : Bool)) Tryz.pinned.checked.prog 3 Tryz.f3 Rows.taleLinesSpec Rows.taleLinesRow = true := by kernel_rfl
theorem c8 : (fun (P : Program) (f : FuncId) (fn : Func) (s : ChangeSpec) (c : OpenClaim) => ((P.stopKnobs == []) : Bool)) Tryz.pinned.checked.prog 3 Tryz.f3 Rows.taleLinesSpec Rows.taleLinesRow = true := by kernel_rfl
theorem c9 : (fun (P : Program) (f : FuncId) (fn : Func) (s : ChangeSpec) (c : OpenClaim) => ((c.inPlace == P.inPlace f) : Bool)) Tryz.pinned.checked.prog 3 Tryz.f3 Rows.taleLinesSpec Rows.taleLinesRow = true := by kernel_rfl
theorem c10 : (fun (P : Program) (f : FuncId) (fn : Func) (s : ChangeSpec) (c : OpenClaim) => ((c.unfollowed == P.unfollowed f) : Bool)) Tryz.pinned.checked.prog 3 Tryz.f3 Rows.taleLinesSpec Rows.taleLinesRow = true := by kernel_rfl
theorem c11 : (fun (P : Program) (f : FuncId) (fn : Func) (s : ChangeSpec) (c : OpenClaim) => ((c.recurses == P.recurses f) : Bool)) Tryz.pinned.checked.prog 3 Tryz.f3 Rows.taleLinesSpec Rows.taleLinesRow = true := by kernel_rfl
theorem c12 : (fun (P : Program) (f : FuncId) (fn : Func) (s : ChangeSpec) (c : OpenClaim) => ((c.named == P.varsNamed f) : Bool)) Tryz.pinned.checked.prog 3 Tryz.f3 Rows.taleLinesSpec Rows.taleLinesRow = true := by kernel_rfl
theorem c13 : (fun (P : Program) (f : FuncId) (fn : Func) (s : ChangeSpec) (c : OpenClaim) => ((c.maps == (fn.params.toList ++ s.plain.varTypes P).any (P.mapsRec ·)) : Bool)) Tryz.pinned.checked.prog 3 Tryz.f3 Rows.taleLinesSpec Rows.taleLinesRow = true := by kernel_rfl
theorem c14 : (fun (P : Program) (f : FuncId) (fn : Func) (s : ChangeSpec) (c : OpenClaim) => ((c.ifaces == (fn.params.toList ++ s.plain.varTypes P).any (P.ifacesRec ·)) : Bool)) Tryz.pinned.checked.prog 3 Tryz.f3 Rows.taleLinesSpec Rows.taleLinesRow = true := by kernel_rfl
theorem c15 : (fun (P : Program) (f : FuncId) (fn : Func) (s : ChangeSpec) (c : OpenClaim) => ((c.mapsOut == P.mapsAmong fn.resultTypes.toList) : Bool)) Tryz.pinned.checked.prog 3 Tryz.f3 Rows.taleLinesSpec Rows.taleLinesRow = true := by kernel_rfl
theorem c16 : (fun (P : Program) (f : FuncId) (fn : Func) (s : ChangeSpec) (c : OpenClaim) => ((c.loops == (fn.params.toList ++ s.plain.varTypes P).any (P.loopsFrom ·)) : Bool)) Tryz.pinned.checked.prog 3 Tryz.f3 Rows.taleLinesSpec Rows.taleLinesRow = true := by kernel_rfl
theorem c17 : (fun (P : Program) (f : FuncId) (fn : Func) (s : ChangeSpec) (c : OpenClaim) => ((c.wideKeys == (fn.params.toList ++ s.plain.varTypes P ++ fn.resultTypes.toList).any (P.wideKeysFrom ·)) : Bool)) Tryz.pinned.checked.prog 3 Tryz.f3 Rows.taleLinesSpec Rows.taleLinesRow = true := by kernel_rfl
theorem c18 : (fun (P : Program) (f : FuncId) (fn : Func) (s : ChangeSpec) (c : OpenClaim) => (s.vars.all (P.varReadable ·) : Bool)) Tryz.pinned.checked.prog 3 Tryz.f3 Rows.taleLinesSpec Rows.taleLinesRow = true := by kernel_rfl
theorem c19 : (fun (P : Program) (f : FuncId) (fn : Func) (s : ChangeSpec) (c : OpenClaim) => (fn.resultTypes.all (fun t => P.readableRec t && decide (t < P.types.size)) : Bool)) Tryz.pinned.checked.prog 3 Tryz.f3 Rows.taleLinesSpec Rows.taleLinesRow = true := by kernel_rfl
theorem c20 : (fun (P : Program) (f : FuncId) (fn : Func) (s : ChangeSpec) (c : OpenClaim) => ((c.ifacesOut == fn.resultTypes.toList.any (P.ifacesRec ·)) : Bool)) Tryz.pinned.checked.prog 3 Tryz.f3 Rows.taleLinesSpec Rows.taleLinesRow = true := by kernel_rfl
theorem c21 : (fun (P : Program) (f : FuncId) (fn : Func) (s : ChangeSpec) (c : OpenClaim) => ((c.loopsOut == fn.resultTypes.toList.any (P.loopsFrom ·)) : Bool)) Tryz.pinned.checked.prog 3 Tryz.f3 Rows.taleLinesSpec Rows.taleLinesRow = true := by kernel_rfl
theorem c22 : (fun (P : Program) (f : FuncId) (fn : Func) (s : ChangeSpec) (c : OpenClaim) => ((c.plainKeys == P.plainKeys) : Bool)) Tryz.pinned.checked.prog 3 Tryz.f3 Rows.taleLinesSpec Rows.taleLinesRow = true := by kernel_rfl
theorem c23 : (fun (P : Program) (f : FuncId) (fn : Func) (s : ChangeSpec) (c : OpenClaim) => (c.shortTexts.isNone : Bool)) Tryz.pinned.checked.prog 3 Tryz.f3 Rows.taleLinesSpec Rows.taleLinesRow = true := by kernel_rfl
theorem c24 : (fun (P : Program) (f : FuncId) (fn : Func) (s : ChangeSpec) (c : OpenClaim) => (P.stopsHeard : Bool)) Tryz.pinned.checked.prog 3 Tryz.f3 Rows.taleLinesSpec Rows.taleLinesRow = true := by kernel_rfl
theorem c25 : (fun (P : Program) (f : FuncId) (fn : Func) (s : ChangeSpec) (c : OpenClaim) => (P.mayEnter : Bool)) Tryz.pinned.checked.prog 3 Tryz.f3 Rows.taleLinesSpec Rows.taleLinesRow = true := by kernel_rfl
theorem c26 : (fun (P : Program) (f : FuncId) (fn : Func) (s : ChangeSpec) (c : OpenClaim) => ((c.lifted == P.liftsFinal) : Bool)) Tryz.pinned.checked.prog 3 Tryz.f3 Rows.taleLinesSpec Rows.taleLinesRow = true := by kernel_rfl
theorem c27 : (fun (P : Program) (f : FuncId) (fn : Func) (s : ChangeSpec) (c : OpenClaim) => ((P.make == some c.make) : Bool)) Tryz.pinned.checked.prog 3 Tryz.f3 Rows.taleLinesSpec Rows.taleLinesRow = true := by kernel_rfl
theorem c28 : (fun (P : Program) (f : FuncId) (fn : Func) (s : ChangeSpec) (c : OpenClaim) => ((c.kinds == (if c.domain.isEmpty then [] else fn.params.toList.map fun t => match P.underlying t with | some (.int k) => some k | _ => none)) : Bool)) Tryz.pinned.checked.prog 3 Tryz.f3 Rows.taleLinesSpec Rows.taleLinesRow = true := by kernel_rfl
theorem c29 : (fun (P : Program) (f : FuncId) (fn : Func) (s : ChangeSpec) (c : OpenClaim) => ((c.pinned == c.pinnedBy) : Bool)) Tryz.pinned.checked.prog 3 Tryz.f3 Rows.taleLinesSpec Rows.taleLinesRow = true := by kernel_rfl
theorem c30 : (fun (P : Program) (f : FuncId) (fn : Func) (s : ChangeSpec) (c : OpenClaim) => ((c.veiled == (fn.params.toList ++ s.plain.varTypes P ++ fn.resultTypes.toList).any (P.veiledRec ·)) : Bool)) Tryz.pinned.checked.prog 3 Tryz.f3 Rows.taleLinesSpec Rows.taleLinesRow = true := by kernel_rfl
theorem c31 : (fun (P : Program) (f : FuncId) (fn : Func) (s : ChangeSpec) (c : OpenClaim) => (c.veiledFits P fn.params.toList (fn.params.toList ++ s.plain.varTypes P ++ fn.resultTypes.toList) : Bool)) Tryz.pinned.checked.prog 3 Tryz.f3 Rows.taleLinesSpec Rows.taleLinesRow = true := by kernel_rfl
theorem inst : Tryz.f3.isInstance Tryz.pinned.checked.prog Rows.taleLinesRow.origin Rows.taleLinesRow.targs := (of_decide_eq_true (by kernel_rfl))
theorem wrap : Tryz.f3.isWrapper Tryz.pinned.checked.prog Rows.taleLinesRow.wrapper Rows.taleLinesRow.mainSum := by unfold Func.isWrapper; first | (rw [if_pos (by decide +kernel)]; kernel_rfl) | (rw [if_neg (by decide +kernel)]; exact ⟨rfl, rfl⟩)
theorem nmd : Tryz.pinned.checked.prog.funcNamed Rows.taleLinesRow.func = some 3 := by kernel_rfl
end Go.Proofs.YtcpjdfihpdjkbaaGreatDoor.taleLines




namespace Go.Proofs.YtcpjdfihpdjkbaaGreatDoor.taleLines
open Go.ChangeShapes Go.WideShapes Go.ChangeAt Go.RowKit
set_option linter.unusedVariables false

set_option maxRecDepth 100000 in
theorem closed : joinedFacts Tryz.pinned.checked.prog 3 Tryz.f3 Rows.taleLinesSpec Rows.taleLinesRow = true := (and2 (and2 (and2 (and2 (and2 (and2 (and2 (and2 (and2 (and2 (and2 (and2 (and2 (and2 (and2 (and2 (and2 (and2 (and2 (and2 (and2 (and2 (and2 (and2 (and2 (and2 (and2 (and2 (and2 (and2 (and2 c0 c1) c2) c3) c4) c5) c6) c7) c8) c9) c10) c11) c12) c13) c14) c15) c16) c17) c18) c19) c20) c21) c22) c23) c24) c25) c26) c27) c28) c29) c30) c31)
theorem over : Rows.taleLinesRow.holds Tryz.pinned (OpenSpec.ofChange Rows.taleLinesSpec) :=
  OpenClaim.holds_of_wide 3 Tryz.f3 rfl rfl rfl rfl rfl rfl rfl ⟨rfl, rfl, rfl, rfl, rfl⟩ rfl rfl rfl rfl rfl nmd Tryz.func3 closed inst wrap (fun os started H enc _ => lifted os started H enc)
end Go.Proofs.YtcpjdfihpdjkbaaGreatDoor.taleLines


