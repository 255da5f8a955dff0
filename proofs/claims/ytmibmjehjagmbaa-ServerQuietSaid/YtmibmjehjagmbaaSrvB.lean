/- Contracts of the server: what a unit does to each kind of request. No condition. -/
import Derived.Test.YtmibmjehjagmbaaSrvA
namespace Go.Proofs.Ytmibmjehjagmbaa
set_option linter.unusedSimpArgs false
set_option linter.unusedVariables false
open Go.Proofs.Ytmibmjehjagmbaa RX

/-- A message. -/
structure MS where
  fr : Int
  to : Int
  num : Int
  rep : Bool
  kind : Int
  ep : Int
  at' : Int
  cell : CellS
  br : Int
  bw : Int
  val : List UInt8
  err : Int
  tail : Int
  low : Int
  back : Int
abbrev MS.raw (m : MS) (ca : Option Addr) (cc : Nat) (va : Option Addr) (vc : Nat) : MR := ⟨m.fr, m.to, m.num, m.rep, m.kind, m.ep, m.at', m.cell.what, ca, m.cell.data.length, cc, m.br, m.bw, va, m.val.length, vc, m.err, m.tail, m.low, m.back⟩
abbrev MS.Dro (m : MS) (ca : Option Addr) : HP := RoB ca m.cell.data.length m.cell.data
abbrev MS.Vro (m : MS) (va : Option Addr) : HP := RoB va m.val.length m.val
/-- What is done to a request: the error, what is told besides, the unit. -/
def deedS (room : Int) (s : USt) (ps : List Pg) (m r : MS) : Int × MS × USt × List Pg :=
  if m.kind = 1 then ((writeS room s ps m.ep m.at' m.cell).2.1, { r with cell := (writeS room s ps m.ep m.at' m.cell).1 }, (writeS room s ps m.ep m.at' m.cell).2.2)
  else if m.kind = 2 then ((readS s m.ep m.at').2, { r with cell := (readS s m.ep m.at').1 }, s, ps)
  else if m.kind = 3 then ((trimS room s ps m.ep m.at').1, r, (trimS room s ps m.ep m.at').2)
  else if m.kind = 4 then
    if s.epoch = m.ep then (0, { r with tail := max s.top s.low }, s, ps)
    else if (sealS room s ps m.ep).1 = 0 then (0, { r with tail := max (sealS room s ps m.ep).2.1.top (sealS room s ps m.ep).2.1.low }, (sealS room s ps m.ep).2)
    else ((sealS room s ps m.ep).1, r, (sealS room s ps m.ep).2)
  else if m.kind = 5 then if s.epoch = m.ep then (0, { r with tail := max s.top s.low }, s, ps) else (8, r, s, ps)
  else if m.kind = 6 then ((promiseS room s ps m.at' m.br m.bw).2.2.2.1, { r with br := (promiseS room s ps m.at' m.br m.bw).1, bw := (promiseS room s ps m.at' m.br m.bw).2.1, val := (promiseS room s ps m.at' m.br m.bw).2.2.1 }, (promiseS room s ps m.at' m.br m.bw).2.2.2.2)
  else ((acceptS room s ps m.at' m.br m.bw m.val).1, r, (acceptS room s ps m.at' m.br m.bw m.val).2)

section
variable (ub bd bu bm br rb : Nat) (room : Int) (s : USt) (ps : List Pg) (m r : MS) (ca : Option Addr) (cc : Nat) (va : Option Addr) (vc : Nat) (rca : Option Addr) (rcc : Nat) (rva : Option Addr) (rvc : Nat)
abbrev PreD : HP := HP.sep (BoxU bu ub) (HP.sep (UD ub bd room s ps) (HP.sep (MOne bm (m.raw ca cc va vc)) (HP.sep (m.Dro ca) (HP.sep (m.Vro va) (HP.sep (BoxR br rb) (HP.sep (MOne rb (r.raw rca rcc rva rvc)) (HP.sep (r.Dro rca) (r.Vro rva))))))))
abbrev PostD (x : Int × MS × USt × List Pg) (v : Value) : HP := HP.ex fun rca => HP.ex fun rcc => HP.ex fun rva => HP.ex fun rvc => HP.and (v = .int .i64 x.1) (PreD ub bd bu bm br rb room x.2.2.1 x.2.2.2 m x.2.1 ca cc va vc rca rcc rva rvc)
abbrev PreD' : HP := HP.sep (BoxU bu ub) (HP.sep (UD ub bd room s ps) (HP.sep (MOne bm (m.raw ca cc va vc)) (HP.sep (m.Dro ca) (m.Vro va))))

theorem deed1_ok (hk : m.kind = 1) : Tri Try.prog 119 #[.pointer (some ⟨bu, 0, none⟩), .pointer (some ⟨bm, 0, none⟩), .pointer (some ⟨br, 0, none⟩)] (PreD ub bd bu bm br rb room s ps m r ca cc va vc rca rcc rva rvc)
    (PostD ub bd bu bm br rb room m ca cc va vc (deedS room s ps m r)) := by
  have e : deedS room s ps m r = ((writeS room s ps m.ep m.at' m.cell).2.1, { r with cell := (writeS room s ps m.ep m.at' m.cell).1 }, (writeS room s ps m.ep m.at' m.cell).2.2) := if_pos hk
  rw [e]
  refine Tri.fact (φ := m.cell.data.length ≠ 0 → ca.isSome = true) (fun R h H hn => RoC.some (HP.sep_left (HP.sep_right (HP.sep_right (HP.sep_right H)))) (by omega)) fun hca => ?_
  refine tri_of_tree (ρ := [.n bu, .n ub, .p (UD ub bd room s ps), .n bm, .i m.fr, .i m.to, .i m.num, .c m.rep, .i m.kind, .i m.ep, .i m.at', .i m.cell.what, .a ca, .n m.cell.data.length, .n cc, .p (m.Dro ca), .i m.br, .i m.bw, .a va, .n m.val.length, .n vc, .p (m.Vro va), .i m.err, .i m.tail, .i m.low, .i m.back, .n br, .n rb,
    .i r.fr, .i r.to, .i r.num, .c r.rep, .i r.kind, .i r.ep, .i r.at', .i r.cell.what, .a rca, .n r.cell.data.length, .n rcc, .p (r.Dro rca), .i r.br, .i r.bw, .a rva, .n r.val.length, .n rvc, .p (r.Vro rva), .i r.err, .i r.tail, .i r.low, .i r.back]) mixed Try.func119 tree_deed1 ?_
  unfold t_deed1
  simp only [T.den, E.prop, E.den, RX.look, F1.app, F2.app, Uni.int_i, Uni.nat_n, Uni.bool_c, Uni.str_s, Uni.adr_a, Uni.val_v, Uni.hp_p, hden, cden, V.den, W.den, A.den, BR.den, SA.den, FV.den, capV, exs, exP, allP, Cur.app, List.map_cons, List.map_nil, List.cons_append, List.nil_append, List.drop_succ_cons, List.drop_zero, List.length_cons, List.length_nil, Nat.zero_add, Nat.reduceAdd, Int.neg_neg, Bool.not_not, List.append_nil, Nat.add_zero, List.getElem?_cons_zero, List.getElem?_cons_succ, Decidable.not_not]
  refine (uWrite_ok ub bd room s ps m.ep m.at' m.cell.what ca m.cell.data.length cc m.cell.data (m.Dro ca) (RdL.ro _ _ _ _) rfl hca).weak (fun _ _ h => h) ?_
  rintro v R h ⟨a', c', rfl, H⟩
  refine ⟨_, a', _, c', RoB a' (writeS room s ps m.ep m.at' m.cell).1.data.length (writeS room s ps m.ep m.at' m.cell).1.data, _, _, m.Dro ca, rfl, .of fun R h H => ⟨a', c', rva, rvc, rfl, ?_⟩, H⟩
  exact HP.sep_mono H (fun _ h => h) fun y1 H => HP.sep_mono H (fun _ h => h) fun y2 H => HP.sep_mono H (fun _ h => h) fun y3 H => HP.sep_mono H (fun _ h => h) fun y4 H => HP.sep_mono H (fun _ h => h) fun y5 H => HP.sep_mono H (fun _ h => h) fun y6 H => HP.sep_mono H (fun _ h => h) fun y7 H => HP.sep_mono H (fun _ h => h) fun y8 H => HP.sep_left H
theorem deed2_ok (hk : m.kind = 2) : Tri Try.prog 120 #[.pointer (some ⟨bu, 0, none⟩), .pointer (some ⟨bm, 0, none⟩), .pointer (some ⟨br, 0, none⟩)] (PreD ub bd bu bm br rb room s ps m r ca cc va vc rca rcc rva rvc)
    (PostD ub bd bu bm br rb room m ca cc va vc (deedS room s ps m r)) := by
  have e : deedS room s ps m r = ((readS s m.ep m.at').2, { r with cell := (readS s m.ep m.at').1 }, s, ps) := by unfold deedS; rw [if_neg (by omega), if_pos hk]
  rw [e]
  refine tri_of_tree (ρ := [.n bu, .n ub, .p (UD ub bd room s ps), .n bm, .i m.fr, .i m.to, .i m.num, .c m.rep, .i m.kind, .i m.ep, .i m.at', .i m.cell.what, .a ca, .n m.cell.data.length, .n cc, .p (m.Dro ca), .i m.br, .i m.bw, .a va, .n m.val.length, .n vc, .p (m.Vro va), .i m.err, .i m.tail, .i m.low, .i m.back, .n br, .n rb,
    .i r.fr, .i r.to, .i r.num, .c r.rep, .i r.kind, .i r.ep, .i r.at', .i r.cell.what, .a rca, .n r.cell.data.length, .n rcc, .p (r.Dro rca), .i r.br, .i r.bw, .a rva, .n r.val.length, .n rvc, .p (r.Vro rva), .i r.err, .i r.tail, .i r.low, .i r.back]) mixed Try.func120 tree_deed2 ?_
  unfold t_deed2
  simp only [T.den, E.prop, E.den, RX.look, F1.app, F2.app, Uni.int_i, Uni.nat_n, Uni.bool_c, Uni.str_s, Uni.adr_a, Uni.val_v, Uni.hp_p, hden, cden, V.den, W.den, A.den, BR.den, SA.den, FV.den, capV, exs, exP, allP, Cur.app, List.map_cons, List.map_nil, List.cons_append, List.nil_append, List.drop_succ_cons, List.drop_zero, List.length_cons, List.length_nil, Nat.zero_add, Nat.reduceAdd, Int.neg_neg, Bool.not_not, List.append_nil, Nat.add_zero, List.getElem?_cons_zero, List.getElem?_cons_succ, Decidable.not_not]
  refine (uRead_ok ub bd _ s m.ep m.at').weak (fun _ _ h => h) ?_
  rintro v R h ⟨a', c', rfl, H⟩
  refine ⟨_, a', _, c', RoB a' (readS s m.ep m.at').1.data.length (readS s m.ep m.at').1.data, _, UD ub bd room s ps, rfl, .of fun R h H => ⟨a', c', rva, rvc, rfl, ?_⟩, HP.sep_comm H⟩
  exact HP.sep_mono H (fun _ h => h) fun y1 H => HP.sep_mono H (fun _ h => h) fun y2 H => HP.sep_mono H (fun _ h => h) fun y3 H => HP.sep_mono H (fun _ h => h) fun y4 H => HP.sep_mono H (fun _ h => h) fun y5 H => HP.sep_mono H (fun _ h => h) fun y6 H => HP.sep_mono H (fun _ h => h) fun y7 H => HP.sep_mono H (fun _ h => h) fun y8 H => HP.sep_left H
theorem deed3_ok (hk : m.kind = 3) : Tri Try.prog 121 #[.pointer (some ⟨bu, 0, none⟩), .pointer (some ⟨bm, 0, none⟩)] (PreD' ub bd bu bm room s ps m ca cc va vc)
    (fun v => HP.and (v = .int .i64 (deedS room s ps m r).1 ∧ (deedS room s ps m r).2.1 = r) (PreD' ub bd bu bm room (deedS room s ps m r).2.2.1 (deedS room s ps m r).2.2.2 m ca cc va vc)) := by
  have e : deedS room s ps m r = ((trimS room s ps m.ep m.at').1, r, (trimS room s ps m.ep m.at').2) := by unfold deedS; rw [if_neg (by omega), if_neg (by omega), if_pos hk]
  rw [e]
  refine tri_of_tree (ρ := [.n bu, .n ub, .p (UD ub bd room s ps), .n bm, .i m.fr, .i m.to, .i m.num, .c m.rep, .i m.kind, .i m.ep, .i m.at', .i m.cell.what, .a ca, .n m.cell.data.length, .n cc, .p (m.Dro ca), .i m.br, .i m.bw, .a va, .n m.val.length, .n vc, .p (m.Vro va), .i m.err, .i m.tail, .i m.low, .i m.back]) mixed Try.func121 tree_deed3 ?_
  unfold t_deed3
  simp only [T.den, E.prop, E.den, RX.look, F1.app, F2.app, Uni.int_i, Uni.nat_n, Uni.bool_c, Uni.str_s, Uni.adr_a, Uni.val_v, Uni.hp_p, hden, cden, V.den, W.den, A.den, BR.den, SA.den, FV.den, capV, exs, exP, allP, Cur.app, List.map_cons, List.map_nil, List.cons_append, List.nil_append, List.drop_succ_cons, List.drop_zero, List.length_cons, List.length_nil, Nat.zero_add, Nat.reduceAdd, Int.neg_neg, Bool.not_not, List.append_nil, Nat.add_zero, List.getElem?_cons_zero, List.getElem?_cons_succ, Decidable.not_not]
  refine (uTrim_ok ub bd room s ps m.ep m.at').weak (fun _ _ h => h) ?_
  rintro v R h ⟨rfl, H⟩
  exact ⟨_, _, rfl, .of fun R h H => ⟨⟨rfl, trivial⟩, H⟩, H⟩
theorem deed4_ok (hk : m.kind = 4) : Tri Try.prog 122 #[.pointer (some ⟨bu, 0, none⟩), .pointer (some ⟨bm, 0, none⟩), .pointer (some ⟨br, 0, none⟩)] (PreD ub bd bu bm br rb room s ps m r ca cc va vc rca rcc rva rvc)
    (PostD ub bd bu bm br rb room m ca cc va vc (deedS room s ps m r)) := by
  have e : deedS room s ps m r = if s.epoch = m.ep then (0, { r with tail := max s.top s.low }, s, ps)
    else if (sealS room s ps m.ep).1 = 0 then (0, { r with tail := max (sealS room s ps m.ep).2.1.top (sealS room s ps m.ep).2.1.low }, (sealS room s ps m.ep).2)
    else ((sealS room s ps m.ep).1, r, (sealS room s ps m.ep).2) := by unfold deedS; rw [if_neg (by omega), if_neg (by omega), if_neg (by omega), if_pos hk]
  rw [e]
  refine tri_of_tree (ρ := [.n bu, .n ub, .p (UD ub bd room s ps), .n bm, .i m.fr, .i m.to, .i m.num, .c m.rep, .i m.kind, .i m.ep, .i m.at', .i m.cell.what, .a ca, .n m.cell.data.length, .n cc, .p (m.Dro ca), .i m.br, .i m.bw, .a va, .n m.val.length, .n vc, .p (m.Vro va), .i m.err, .i m.tail, .i m.low, .i m.back, .n br, .n rb,
    .i r.fr, .i r.to, .i r.num, .c r.rep, .i r.kind, .i r.ep, .i r.at', .i r.cell.what, .a rca, .n r.cell.data.length, .n rcc, .p (r.Dro rca), .i r.br, .i r.bw, .a rva, .n r.val.length, .n rvc, .p (r.Vro rva), .i r.err, .i r.tail, .i r.low, .i r.back]) mixed Try.func122 tree_deed4 ?_
  unfold t_deed4
  simp only [T.den, E.prop, E.den, RX.look, F1.app, F2.app, Uni.int_i, Uni.nat_n, Uni.bool_c, Uni.str_s, Uni.adr_a, Uni.val_v, Uni.hp_p, hden, cden, V.den, W.den, A.den, BR.den, SA.den, FV.den, capV, exs, exP, allP, Cur.app, List.map_cons, List.map_nil, List.cons_append, List.nil_append, List.drop_succ_cons, List.drop_zero, List.length_cons, List.length_nil, Nat.zero_add, Nat.reduceAdd, Int.neg_neg, Bool.not_not, List.append_nil, Nat.add_zero, List.getElem?_cons_zero, List.getElem?_cons_succ, Decidable.not_not]
  refine (uEpoch_ok ub bd _ s).weak (fun _ _ h => h) ?_
  rintro v R h ⟨rfl, H⟩
  refine ⟨_, rfl, ⟨fun h1 => ?_, fun h1 => ?_⟩, H⟩
  · rw [if_neg h1]
    refine (uSeal_ok ub bd room s ps m.ep).weak (fun _ _ h => h) ?_
    rintro v R h ⟨rfl, H⟩
    refine ⟨_, _, rfl, ⟨fun h2 => ?_, fun h2 => ?_⟩, H⟩
    · rw [if_neg h2]
      exact .of fun R h H => ⟨rca, rcc, rva, rvc, rfl, H⟩
    · rw [if_pos h2]
      refine (uTail_ok ub bd _ (sealS room s ps m.ep).2.1).weak (fun _ _ h => h) ?_
      rintro v R h ⟨rfl, H⟩
      exact ⟨_, rfl, .of fun R h H => ⟨rca, rcc, rva, rvc, rfl, H⟩, H⟩
  · rw [if_pos h1]
    refine (uTail_ok ub bd _ s).weak (fun _ _ h => h) ?_
    rintro v R h ⟨rfl, H⟩
    exact ⟨_, rfl, .of fun R h H => ⟨rca, rcc, rva, rvc, rfl, H⟩, H⟩
theorem deed5_ok (hk : m.kind = 5) : Tri Try.prog 123 #[.pointer (some ⟨bu, 0, none⟩), .pointer (some ⟨bm, 0, none⟩), .pointer (some ⟨br, 0, none⟩)] (PreD ub bd bu bm br rb room s ps m r ca cc va vc rca rcc rva rvc)
    (PostD ub bd bu bm br rb room m ca cc va vc (deedS room s ps m r)) := by
  have e : deedS room s ps m r = if s.epoch = m.ep then (0, { r with tail := max s.top s.low }, s, ps) else (8, r, s, ps) := by unfold deedS; rw [if_neg (by omega), if_neg (by omega), if_neg (by omega), if_neg (by omega), if_pos hk]
  rw [e]
  refine tri_of_tree (ρ := [.n bu, .n ub, .p (UD ub bd room s ps), .n bm, .i m.fr, .i m.to, .i m.num, .c m.rep, .i m.kind, .i m.ep, .i m.at', .i m.cell.what, .a ca, .n m.cell.data.length, .n cc, .p (m.Dro ca), .i m.br, .i m.bw, .a va, .n m.val.length, .n vc, .p (m.Vro va), .i m.err, .i m.tail, .i m.low, .i m.back, .n br, .n rb,
    .i r.fr, .i r.to, .i r.num, .c r.rep, .i r.kind, .i r.ep, .i r.at', .i r.cell.what, .a rca, .n r.cell.data.length, .n rcc, .p (r.Dro rca), .i r.br, .i r.bw, .a rva, .n r.val.length, .n rvc, .p (r.Vro rva), .i r.err, .i r.tail, .i r.low, .i r.back]) mixed Try.func123 tree_deed5 ?_
  unfold t_deed5
  simp only [T.den, E.prop, E.den, RX.look, F1.app, F2.app, Uni.int_i, Uni.nat_n, Uni.bool_c, Uni.str_s, Uni.adr_a, Uni.val_v, Uni.hp_p, hden, cden, V.den, W.den, A.den, BR.den, SA.den, FV.den, capV, exs, exP, allP, Cur.app, List.map_cons, List.map_nil, List.cons_append, List.nil_append, List.drop_succ_cons, List.drop_zero, List.length_cons, List.length_nil, Nat.zero_add, Nat.reduceAdd, Int.neg_neg, Bool.not_not, List.append_nil, Nat.add_zero, List.getElem?_cons_zero, List.getElem?_cons_succ, Decidable.not_not]
  refine (uEpoch_ok ub bd _ s).weak (fun _ _ h => h) ?_
  rintro v R h ⟨rfl, H⟩
  refine ⟨_, rfl, ⟨fun h1 => ?_, fun h1 => ?_⟩, H⟩
  · rw [if_neg h1]
    exact .of fun R h H => ⟨rca, rcc, rva, rvc, rfl, H⟩
  · rw [if_pos h1]
    refine (uTail_ok ub bd _ s).weak (fun _ _ h => h) ?_
    rintro v R h ⟨rfl, H⟩
    exact ⟨_, rfl, .of fun R h H => ⟨rca, rcc, rva, rvc, rfl, H⟩, H⟩
theorem deed6_ok (hk : m.kind = 6) : Tri Try.prog 124 #[.pointer (some ⟨bu, 0, none⟩), .pointer (some ⟨bm, 0, none⟩), .pointer (some ⟨br, 0, none⟩)] (PreD ub bd bu bm br rb room s ps m r ca cc va vc rca rcc rva rvc)
    (PostD ub bd bu bm br rb room m ca cc va vc (deedS room s ps m r)) := by
  have e : deedS room s ps m r = ((promiseS room s ps m.at' m.br m.bw).2.2.2.1, { r with br := (promiseS room s ps m.at' m.br m.bw).1, bw := (promiseS room s ps m.at' m.br m.bw).2.1, val := (promiseS room s ps m.at' m.br m.bw).2.2.1 }, (promiseS room s ps m.at' m.br m.bw).2.2.2.2) := by
    unfold deedS; rw [if_neg (by omega), if_neg (by omega), if_neg (by omega), if_neg (by omega), if_neg (by omega), if_pos hk]
  rw [e]
  refine tri_of_tree (ρ := [.n bu, .n ub, .p (UD ub bd room s ps), .n bm, .i m.fr, .i m.to, .i m.num, .c m.rep, .i m.kind, .i m.ep, .i m.at', .i m.cell.what, .a ca, .n m.cell.data.length, .n cc, .p (m.Dro ca), .i m.br, .i m.bw, .a va, .n m.val.length, .n vc, .p (m.Vro va), .i m.err, .i m.tail, .i m.low, .i m.back, .n br, .n rb,
    .i r.fr, .i r.to, .i r.num, .c r.rep, .i r.kind, .i r.ep, .i r.at', .i r.cell.what, .a rca, .n r.cell.data.length, .n rcc, .p (r.Dro rca), .i r.br, .i r.bw, .a rva, .n r.val.length, .n rvc, .p (r.Vro rva), .i r.err, .i r.tail, .i r.low, .i r.back]) mixed Try.func124 tree_deed6 ?_
  unfold t_deed6
  simp only [T.den, E.prop, E.den, RX.look, F1.app, F2.app, Uni.int_i, Uni.nat_n, Uni.bool_c, Uni.str_s, Uni.adr_a, Uni.val_v, Uni.hp_p, hden, cden, V.den, W.den, A.den, BR.den, SA.den, FV.den, capV, exs, exP, allP, Cur.app, List.map_cons, List.map_nil, List.cons_append, List.nil_append, List.drop_succ_cons, List.drop_zero, List.length_cons, List.length_nil, Nat.zero_add, Nat.reduceAdd, Int.neg_neg, Bool.not_not, List.append_nil, Nat.add_zero, List.getElem?_cons_zero, List.getElem?_cons_succ, Decidable.not_not]
  refine (uPromise_ok ub bd room s ps m.at' m.br m.bw).weak (fun _ _ h => h) ?_
  rintro v R h ⟨a', c', rfl, H⟩
  refine ⟨_, _, a', _, c', RoB a' (promiseS room s ps m.at' m.br m.bw).2.2.1.length (promiseS room s ps m.at' m.br m.bw).2.2.1, _, _, rfl, .of fun R h H => ⟨rca, rcc, a', c', rfl, ?_⟩, HP.sep_comm H⟩
  exact HP.sep_mono H (fun _ h => h) fun y1 H => HP.sep_mono H (fun _ h => h) fun y2 H => HP.sep_mono H (fun _ h => h) fun y3 H => HP.sep_mono H (fun _ h => h) fun y4 H => HP.sep_mono H (fun _ h => h) fun y5 H => HP.sep_mono H (fun _ h => h) fun y6 H => HP.sep_mono H (fun _ h => h) fun y7 H => HP.sep_mono H (fun _ h => h) fun y8 H => HP.sep_left H
theorem deed7_ok (hk : m.kind = 7) : Tri Try.prog 125 #[.pointer (some ⟨bu, 0, none⟩), .pointer (some ⟨bm, 0, none⟩)] (PreD' ub bd bu bm room s ps m ca cc va vc)
    (fun v => HP.and (v = .int .i64 (deedS room s ps m r).1 ∧ (deedS room s ps m r).2.1 = r) (PreD' ub bd bu bm room (deedS room s ps m r).2.2.1 (deedS room s ps m r).2.2.2 m ca cc va vc)) := by
  have e : deedS room s ps m r = ((acceptS room s ps m.at' m.br m.bw m.val).1, r, (acceptS room s ps m.at' m.br m.bw m.val).2) := by
    unfold deedS; rw [if_neg (by omega), if_neg (by omega), if_neg (by omega), if_neg (by omega), if_neg (by omega), if_neg (by omega)]
  rw [e]
  refine Tri.fact (φ := m.val.length ≠ 0 → va.isSome = true) (fun R h H hn => RoC.some (HP.sep_right (HP.sep_right (HP.sep_right (HP.sep_right H)))) (by omega)) fun hva => ?_
  refine tri_of_tree (ρ := [.n bu, .n ub, .p (UD ub bd room s ps), .n bm, .i m.fr, .i m.to, .i m.num, .c m.rep, .i m.kind, .i m.ep, .i m.at', .i m.cell.what, .a ca, .n m.cell.data.length, .n cc, .p (m.Dro ca), .i m.br, .i m.bw, .a va, .n m.val.length, .n vc, .p (m.Vro va), .i m.err, .i m.tail, .i m.low, .i m.back]) mixed Try.func125 tree_deed7 ?_
  unfold t_deed7
  simp only [T.den, E.prop, E.den, RX.look, F1.app, F2.app, Uni.int_i, Uni.nat_n, Uni.bool_c, Uni.str_s, Uni.adr_a, Uni.val_v, Uni.hp_p, hden, cden, V.den, W.den, A.den, BR.den, SA.den, FV.den, capV, exs, exP, allP, Cur.app, List.map_cons, List.map_nil, List.cons_append, List.nil_append, List.drop_succ_cons, List.drop_zero, List.length_cons, List.length_nil, Nat.zero_add, Nat.reduceAdd, Int.neg_neg, Bool.not_not, List.append_nil, Nat.add_zero, List.getElem?_cons_zero, List.getElem?_cons_succ, Decidable.not_not]
  refine (uAccept_ok ub bd room s ps m.at' m.br m.bw va m.val.length vc m.val (m.Vro va) (RdL.ro _ _ _ _) rfl hva).weak (fun _ _ h => h) ?_
  rintro v R h ⟨rfl, H⟩
  exact ⟨_, _, m.Vro va, rfl, .of fun R h H => ⟨⟨rfl, trivial⟩, H⟩, H⟩
end
end Go.Proofs.Ytmibmjehjagmbaa
