/- Contracts of the server: messages, replies, what is done to each kind of request. No condition. -/
import Derived.Test.YtmibmjehjagmbaaUnitJ
import Derived.Test.YtmibmjehjagmbaaTrSrv
namespace Go.Proofs.Ytmibmjehjagmbaa
set_option linter.unusedSimpArgs false
set_option linter.unusedVariables false
open Go.Proofs.Ytmibmjehjagmbaa RX

/-- A message as Go keeps it. -/
structure MR where
  fr : Int
  to : Int
  num : Int
  rep : Bool
  kind : Int
  ep : Int
  at' : Int
  what : Int
  ca : Option Addr
  cn : Nat
  cc : Nat
  br : Int
  bw : Int
  va : Option Addr
  vn : Nat
  vc : Nat
  err : Int
  tail : Int
  low : Int
  back : Int
abbrev MR.vals (m : MR) : Array Value := #[.int .i64 m.fr, .int .i64 m.to, .int .i64 m.num, .bool m.rep, .int .i64 m.kind, .int .i64 m.ep, .int .i64 m.at', .int .i64 m.what, .slice m.ca m.cn m.cc, .int .i64 m.br, .int .i64 m.bw, .slice m.va m.vn m.vc, .int .i64 m.err, .int .i64 m.tail, .int .i64 m.low, .int .i64 m.back]
abbrev MOne (b : Nat) (m : MR) : HP := HP.one b (.cells m.vals 80)
def repR (m : MR) (e : Int) : MR := ⟨m.to, m.fr, m.num, true, m.kind, m.ep, m.at', 0, none, 0, 0, 0, 0, none, 0, 0, e, 0, 0, 0⟩
theorem reply_ok (m : MR) (e : Int) (Dm Vm : HP) : Tri Try.prog 88 #[.agg m.vals, .int .i64 e] (HP.sep Dm Vm) (fun v => HP.and (v = .agg (repR m e).vals) (HP.sep Dm Vm)) := by
  refine tri_of_tree (ρ := [.i m.fr, .i m.to, .i m.num, .c m.rep, .i m.kind, .i m.ep, .i m.at', .i m.what, .a m.ca, .n m.cn, .n m.cc, .p Dm, .i m.br, .i m.bw, .a m.va, .n m.vn, .n m.vc, .p Vm, .i m.err, .i m.tail, .i m.low, .i m.back, .i e]) mixed Try.func88 tree_reply ?_
  unfold t_reply
  simp only [T.den, E.prop, E.den, RX.look, F1.app, F2.app, Uni.int_i, Uni.nat_n, Uni.bool_c, Uni.str_s, Uni.adr_a, Uni.val_v, Uni.hp_p, hden, cden, V.den, W.den, A.den, BR.den, SA.den, FV.den, capV, exs, exP, allP, Cur.app, List.map_cons, List.map_nil, List.cons_append, List.nil_append, List.drop_succ_cons, List.drop_zero, List.length_cons, List.length_nil, Nat.zero_add, Nat.reduceAdd, Int.neg_neg, Bool.not_not, List.append_nil, Nat.add_zero, List.getElem?_cons_zero, List.getElem?_cons_succ, Decidable.not_not]
  exact fun x y => .of fun R h H => ⟨rfl, H⟩
theorem semOf_insertC {ρ : Env} {i j : Nat} {t ty : TypeId} {u v : V} {k : Value} (h : i ≠ j) : semOf ρ (.insert t (.tmp i) (.const k) (.tmp j)) ty [(i, u), (j, v)] = updS t (u.den ρ) k (v.den ρ) := by
  have h' : (i == j) = false := by simpa using h
  simp [semOf, execOp, arEval, h', updS]
theorem undMf : Try.prog.underlying 152 = some (.map 3 150) := by kernel_rfl
def fv3 (f : FuncId) (bu bm br : Nat) : Value := .func (.func f) #[] #[.pointer (some ⟨bu, 0, none⟩), .pointer (some ⟨bm, 0, none⟩), .pointer (some ⟨br, 0, none⟩)]
def fv2 (f : FuncId) (bu bm : Nat) : Value := .func (.func f) #[] #[.pointer (some ⟨bu, 0, none⟩), .pointer (some ⟨bm, 0, none⟩)]
def deedsAL (bu bm br : Nat) : AL Int := [(1, fv3 119 bu bm br, 0), (2, fv3 120 bu bm br, 1), (3, fv2 121 bu bm, 2), (4, fv3 122 bu bm br, 3), (5, fv3 123 bu bm br, 4), (6, fv3 124 bu bm br, 5), (7, fv2 125 bu bm, 6)]
abbrev BoxU (bu ub : Nat) : HP := HP.one bu (.cells #[.pointer (some ⟨ub, 0, none⟩)] 26)
abbrev BoxR (br rb : Nat) : HP := HP.one br (.cells #[.pointer (some ⟨rb, 0, none⟩)] 154)
theorem ins_ok {mp : Nat} {l : AL Int} {c : Nat} (k : Int) (v : Value) (K : HP) : OTri Try.prog (updS 152 (.map (some mp)) (.int .i64 k) v) (HP.sep (HP.one mp (mapObj iE l c)) K) (fun x => HP.and (x = .tuple #[]) (HP.sep (HP.one mp (mapObj iE (alPut k v c l) (alClock k l c))) K)) :=
  ((upd_ok (r := mp) (l := l) (c := c) iK undMf k v).frame K).weak (fun _ _ h => h) (fun x R h ⟨h1, h2, d, l1, l2, ⟨e, H⟩, HK⟩ => ⟨e, h1, h2, d, l1, l2, H, HK⟩)
theorem deeds_ok (ub : Nat) (U : HP) (m : MR) (Dm Vm : HP) (rb : Nat) (Rc : HP) :
    Tri Try.prog 89 #[.pointer (some ⟨ub, 0, none⟩), .agg m.vals, .pointer (some ⟨rb, 0, none⟩)] (HP.sep U (HP.sep Dm (HP.sep Vm Rc)))
    (fun v => HP.ex fun mp => HP.ex fun bu => HP.ex fun bm => HP.ex fun br => HP.and (v = .map (some mp)) (HP.sep (HP.one mp (mapObj iE (deedsAL bu bm br) 7)) (HP.sep (BoxU bu ub) (HP.sep U (HP.sep (MOne bm m) (HP.sep Dm (HP.sep Vm (HP.sep (BoxR br rb) Rc)))))))) := by
  refine tri_of_tree (ρ := [.n ub, .p U, .i m.fr, .i m.to, .i m.num, .c m.rep, .i m.kind, .i m.ep, .i m.at', .i m.what, .a m.ca, .n m.cn, .n m.cc, .p Dm, .i m.br, .i m.bw, .a m.va, .n m.vn, .n m.vc, .p Vm, .i m.err, .i m.tail, .i m.low, .i m.back, .n rb, .p Rc]) mixed Try.func89 tree_deeds ?_
  unfold t_deeds
  simp only [T.den, E.prop, E.den, RX.look, F1.app, F2.app, Uni.int_i, Uni.nat_n, Uni.bool_c, Uni.str_s, Uni.adr_a, Uni.val_v, Uni.hp_p, hden, cden, V.den, W.den, A.den, BR.den, SA.den, FV.den, capV, exs, exP, allP, Cur.app, List.map_cons, List.map_nil, List.cons_append, List.nil_append, List.drop_succ_cons, List.drop_zero, List.length_cons, List.length_nil, Nat.zero_add, Nat.reduceAdd, Int.neg_neg, Bool.not_not, List.append_nil, Nat.add_zero, List.getElem?_cons_zero, List.getElem?_cons_succ, Decidable.not_not]
  intro bu bm br mp
  let K : HP := HP.sep (BoxU bu ub) (HP.sep U (HP.sep (MOne bm m) (HP.sep Dm (HP.sep Vm (HP.sep (BoxR br rb) Rc)))))
  rw [semOf_insertC (by decide)]
  simp only [T.den, E.prop, E.den, RX.look, F1.app, F2.app, Uni.int_i, Uni.nat_n, Uni.bool_c, Uni.str_s, Uni.adr_a, Uni.val_v, Uni.hp_p, hden, cden, V.den, W.den, A.den, BR.den, SA.den, FV.den, capV, exs, exP, allP, Cur.app, List.map_cons, List.map_nil, List.cons_append, List.nil_append, List.drop_succ_cons, List.drop_zero, List.length_cons, List.length_nil, Nat.zero_add, Nat.reduceAdd, Int.neg_neg, Bool.not_not, List.append_nil, Nat.add_zero, List.getElem?_cons_zero, List.getElem?_cons_succ, Decidable.not_not]
  refine (ins_ok (mp := mp) (l := []) (c := 0) 1 _ K).weak (fun _ _ h => h) ?_
  rintro v R h ⟨rfl, H⟩
  refine ⟨_, rfl, ?_, H⟩
  clear H
  rw [semOf_insertC (by decide)]
  simp only [T.den, E.prop, E.den, RX.look, F1.app, F2.app, Uni.int_i, Uni.nat_n, Uni.bool_c, Uni.str_s, Uni.adr_a, Uni.val_v, Uni.hp_p, hden, cden, V.den, W.den, A.den, BR.den, SA.den, FV.den, capV, exs, exP, allP, Cur.app, List.map_cons, List.map_nil, List.cons_append, List.nil_append, List.drop_succ_cons, List.drop_zero, List.length_cons, List.length_nil, Nat.zero_add, Nat.reduceAdd, Int.neg_neg, Bool.not_not, List.append_nil, Nat.add_zero, List.getElem?_cons_zero, List.getElem?_cons_succ, Decidable.not_not]
  refine (ins_ok 2 _ K).weak (fun _ _ h => h) ?_
  rintro v R h ⟨rfl, H⟩
  refine ⟨_, rfl, ?_, H⟩
  clear H
  rw [semOf_insertC (by decide)]
  simp only [T.den, E.prop, E.den, RX.look, F1.app, F2.app, Uni.int_i, Uni.nat_n, Uni.bool_c, Uni.str_s, Uni.adr_a, Uni.val_v, Uni.hp_p, hden, cden, V.den, W.den, A.den, BR.den, SA.den, FV.den, capV, exs, exP, allP, Cur.app, List.map_cons, List.map_nil, List.cons_append, List.nil_append, List.drop_succ_cons, List.drop_zero, List.length_cons, List.length_nil, Nat.zero_add, Nat.reduceAdd, Int.neg_neg, Bool.not_not, List.append_nil, Nat.add_zero, List.getElem?_cons_zero, List.getElem?_cons_succ, Decidable.not_not]
  refine (ins_ok 3 _ K).weak (fun _ _ h => h) ?_
  rintro v R h ⟨rfl, H⟩
  refine ⟨_, rfl, ?_, H⟩
  clear H
  rw [semOf_insertC (by decide)]
  simp only [T.den, E.prop, E.den, RX.look, F1.app, F2.app, Uni.int_i, Uni.nat_n, Uni.bool_c, Uni.str_s, Uni.adr_a, Uni.val_v, Uni.hp_p, hden, cden, V.den, W.den, A.den, BR.den, SA.den, FV.den, capV, exs, exP, allP, Cur.app, List.map_cons, List.map_nil, List.cons_append, List.nil_append, List.drop_succ_cons, List.drop_zero, List.length_cons, List.length_nil, Nat.zero_add, Nat.reduceAdd, Int.neg_neg, Bool.not_not, List.append_nil, Nat.add_zero, List.getElem?_cons_zero, List.getElem?_cons_succ, Decidable.not_not]
  refine (ins_ok 4 _ K).weak (fun _ _ h => h) ?_
  rintro v R h ⟨rfl, H⟩
  refine ⟨_, rfl, ?_, H⟩
  clear H
  rw [semOf_insertC (by decide)]
  simp only [T.den, E.prop, E.den, RX.look, F1.app, F2.app, Uni.int_i, Uni.nat_n, Uni.bool_c, Uni.str_s, Uni.adr_a, Uni.val_v, Uni.hp_p, hden, cden, V.den, W.den, A.den, BR.den, SA.den, FV.den, capV, exs, exP, allP, Cur.app, List.map_cons, List.map_nil, List.cons_append, List.nil_append, List.drop_succ_cons, List.drop_zero, List.length_cons, List.length_nil, Nat.zero_add, Nat.reduceAdd, Int.neg_neg, Bool.not_not, List.append_nil, Nat.add_zero, List.getElem?_cons_zero, List.getElem?_cons_succ, Decidable.not_not]
  refine (ins_ok 5 _ K).weak (fun _ _ h => h) ?_
  rintro v R h ⟨rfl, H⟩
  refine ⟨_, rfl, ?_, H⟩
  clear H
  rw [semOf_insertC (by decide)]
  simp only [T.den, E.prop, E.den, RX.look, F1.app, F2.app, Uni.int_i, Uni.nat_n, Uni.bool_c, Uni.str_s, Uni.adr_a, Uni.val_v, Uni.hp_p, hden, cden, V.den, W.den, A.den, BR.den, SA.den, FV.den, capV, exs, exP, allP, Cur.app, List.map_cons, List.map_nil, List.cons_append, List.nil_append, List.drop_succ_cons, List.drop_zero, List.length_cons, List.length_nil, Nat.zero_add, Nat.reduceAdd, Int.neg_neg, Bool.not_not, List.append_nil, Nat.add_zero, List.getElem?_cons_zero, List.getElem?_cons_succ, Decidable.not_not]
  refine (ins_ok 6 _ K).weak (fun _ _ h => h) ?_
  rintro v R h ⟨rfl, H⟩
  refine ⟨_, rfl, ?_, H⟩
  clear H
  rw [semOf_insertC (by decide)]
  simp only [T.den, E.prop, E.den, RX.look, F1.app, F2.app, Uni.int_i, Uni.nat_n, Uni.bool_c, Uni.str_s, Uni.adr_a, Uni.val_v, Uni.hp_p, hden, cden, V.den, W.den, A.den, BR.den, SA.den, FV.den, capV, exs, exP, allP, Cur.app, List.map_cons, List.map_nil, List.cons_append, List.nil_append, List.drop_succ_cons, List.drop_zero, List.length_cons, List.length_nil, Nat.zero_add, Nat.reduceAdd, Int.neg_neg, Bool.not_not, List.append_nil, Nat.add_zero, List.getElem?_cons_zero, List.getElem?_cons_succ, Decidable.not_not]
  refine (ins_ok 7 _ K).weak (fun _ _ h => h) ?_
  rintro v R h ⟨rfl, H⟩
  refine ⟨_, rfl, .of fun R h H => ⟨mp, bu, bm, br, rfl, ?_⟩, H⟩
  exact H
end Go.Proofs.Ytmibmjehjagmbaa
