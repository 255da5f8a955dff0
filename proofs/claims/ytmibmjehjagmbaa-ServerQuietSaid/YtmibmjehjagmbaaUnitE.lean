/- Contracts of the unit: forget, follow. No condition. -/
import Derived.Test.YtmibmjehjagmbaaUnitD
namespace Go.Proofs.Ytmibmjehjagmbaa
set_option linter.unusedSimpArgs false
set_option linter.unusedVariables false
open Go.Proofs.Ytmibmjehjagmbaa RX

def forgS (s : USt) : USt := { s with cells := fun k => if k < s.low then none else s.cells k }
theorem uForget_ok (ub bd mc mi : Nat) (D I : HP) (s : USt) (lc : AL Int) (cc : Nat) :
    Tri Try.prog 60 #[.pointer (some ⟨ub, 0, none⟩)] (HP.sep (UOne ub bd mc mi s) (HP.sep D (HP.sep (MapH CellV iE mc s.cells lc cc) I)))
    (fun v => HP.and (v = .tuple #[]) (HP.sep (UOne ub bd mc mi s) (HP.sep D (HP.sep (MapE CellV iE mc (forgS s).cells) I)))) := by
  refine tri_of_tree (ρ := [.n ub, .n bd, .p D, .i s.epoch, .i s.low, .i s.top, .n mc, .p (MapH CellV iE mc s.cells lc cc), .n mi, .p I]) mixed Try.func60 tree_uForget ?_
  unfold t_uForget
  simp only [T.den, E.prop, E.den, RX.look, F1.app, F2.app, Uni.int_i, Uni.nat_n, Uni.bool_c, Uni.str_s, Uni.adr_a, Uni.val_v, Uni.hp_p, hden, cden, V.den, W.den, A.den, BR.den, SA.den, FV.den, capV, exs, exP, allP, Cur.app, List.map_cons, List.map_nil, List.cons_append, List.nil_append, List.drop_succ_cons, List.drop_zero, List.length_cons, List.length_nil, Nat.zero_add, Nat.reduceAdd, Int.neg_neg, Bool.not_not, List.append_nil, Nat.add_zero, List.getElem?_cons_zero, List.getElem?_cons_succ, Decidable.not_not]
  intro bx
  refine (delF_ok bx ub bd mc mi D I s lc cc).weak (fun _ _ h => h) ?_
  rintro v R h ⟨rfl, H⟩
  exact ⟨_, rfl, .of fun R h H => ⟨trivial, H⟩, H⟩
def endedR (r : List UInt8 × Bool) : Bool := !(r.2 || !r.1.isEmpty)
theorem endedR_no {r : List UInt8 × Bool} (h : ¬ (if r.2 = true ∨ r.1 ≠ [] then (3 : Int) else 0) = 0) : endedR r = false := by
  obtain ⟨l, w⟩ := r
  cases w <;> cases l <;> simp_all [endedR]
theorem endedR_yes {r : List UInt8 × Bool} (h : (if r.2 = true ∨ r.1 ≠ [] then (3 : Int) else 0) = 0) : endedR r = true := by
  obtain ⟨l, w⟩ := r
  cases w <;> cases l <;> simp_all [endedR]
theorem bytesR_len (s : List UInt8 × Bool) (most : Int) : (bytesR s most).1.length ≤ 140737488355328 := by
  have h1 := takeR_len (toldR s most).2 (toldR s most).1
  have h2 : (toldR s most).1 ≤ 4294967296 := by
    have := numR_lt s 4
    unfold toldR
    split
    · exact Nat.zero_le _
    · split
      · exact Nat.zero_le _
      · simp only; omega
  unfold bytesR
  omega
/-- What a page leads to. -/
def followS (s : USt) (b : List UInt8) : Option USt :=
  let k := numR (b, false) 1
  let n := intOf64 (numR k.2 8).1
  let r := (numR k.2 8).2
  match k.1 with
  | 1 => let d := bytesR r 65536
    if endedR d.2 && addrOk n then some { s with cells := fput s.cells n (some ⟨1, d.1⟩), top := max s.top (n + 1) } else none
  | 2 => if endedR r && addrOk n then some { s with cells := fput s.cells n (some ⟨2, []⟩), top := max s.top (n + 1) } else none
  | 3 => if endedR r && addrOk n then some { s with low := n } else none
  | 4 => if endedR r && numOk n then some { s with epoch := n } else none
  | 5 => let a := numR r 8
    let c := numR a.2 8
    if endedR c.2 && propOk n (intOf64 a.1) (intOf64 c.1) then some (promS s n (intOf64 a.1) (intOf64 c.1)) else none
  | 6 => let a := numR r 8
    let c := numR a.2 8
    let d := bytesR c.2 1000
    if endedR d.2 && propOk n (intOf64 a.1) (intOf64 c.1) then some (accS s n (intOf64 a.1) (intOf64 c.1) d.1) else none
  | _ => none
theorem uFollow_ok (ub bd mc mi : Nat) (D : HP) (s : USt) (lc : AL Int) (cc : Nat) (li : AL Int) (ci : Nat) (a : Option Addr) (n c : Nat) (l : List UInt8) (S : HP) (hr : RdL S a n (l.map u8v)) (hl : l.length = n) (hb : n ≤ 140737488355328) :
    Tri Try.prog 59 #[.pointer (some ⟨ub, 0, none⟩), .slice a n c] (HP.sep (UOne ub bd mc mi s) (HP.sep D (HP.sep (MapH CellV iE mc s.cells lc cc) (HP.sep (MapH InstV iE mi s.inst li ci) S))))
    (fun v => HP.and (v = .bool (followS s l).isSome) (HP.sep (UOne ub bd mc mi ((followS s l).getD s)) (HP.sep D (HP.sep (MapE CellV iE mc ((followS s l).getD s).cells) (HP.sep (MapE InstV iE mi ((followS s l).getD s).inst) S))))) := by
  refine tri_of_tree (ρ := [.n ub, .n bd, .p D, .i s.epoch, .i s.low, .i s.top, .n mc, .p (MapH CellV iE mc s.cells lc cc), .n mi, .p (MapH InstV iE mi s.inst li ci), .a a, .n n, .n c, .p S]) mixed Try.func59 tree_uFollow ?_
  unfold t_uFollow
  simp only [T.den, E.prop, E.den, RX.look, F1.app, F2.app, Uni.int_i, Uni.nat_n, Uni.bool_c, Uni.str_s, Uni.adr_a, Uni.val_v, Uni.hp_p, hden, cden, V.den, W.den, A.den, BR.den, SA.den, FV.den, capV, exs, exP, allP, Cur.app, List.map_cons, List.map_nil, List.cons_append, List.nil_append, List.drop_succ_cons, List.drop_zero, List.length_cons, List.length_nil, Nat.zero_add, Nat.reduceAdd, Int.neg_neg, Bool.not_not, List.append_nil, Nat.add_zero, List.getElem?_cons_zero, List.getElem?_cons_succ, Decidable.not_not]
  refine (rRead_ok a n c l S hr hl hb).weak (fun _ _ h => h) ?_
  rintro v R h ⟨rb, rfl, H⟩
  refine ⟨rb, _, S, rfl, ?_, HP.sep_comm H⟩
  refine (rByte_ok rb (l, false)).weak (fun _ _ h => h) ?_
  rintro v R h ⟨rfl, H⟩
  refine ⟨_, _, rfl, ?_, H⟩
  refine (rInt_ok rb _).weak (fun _ _ h => h) ?_
  rintro v R h ⟨rfl, H⟩
  refine ⟨_, _, rfl, ?_, H⟩
  clear H
  have hk : (numR (l, false) 1).1 < 256 := by simpa using numR_lt (l, false) 1
  have fail : followS s l = none → HP.ent (HP.sep (UOne ub bd mc mi s) (HP.sep D (HP.sep (MapH CellV iE mc s.cells lc cc) (HP.sep (MapH InstV iE mi s.inst li ci) S)))) (HP.and (Value.bool false = Value.bool (followS s l).isSome) (HP.sep (UOne ub bd mc mi ((followS s l).getD s)) (HP.sep D (HP.sep (MapE CellV iE mc ((followS s l).getD s).cells) (HP.sep (MapE InstV iE mi ((followS s l).getD s).inst) S))))) := fun e => by
    rw [e]
    exact .of fun R h H => ⟨rfl, HP.sep_mono H (fun _ h => h) fun y hy => HP.sep_mono hy (fun _ h => h) fun z hz => HP.sep_mono hz (fun q hq => ⟨_, _, hq⟩) fun u hu => HP.sep_mono hu (fun q hq => ⟨_, _, hq⟩) fun _ h => h⟩
  generalize hkk : (numR (l, false) 1).1 = k at hk
  have hmod : k % 256 = k := Nat.mod_eq_of_lt hk
  rw [hmod]
  refine ⟨fun h1 => ?_, fun h1 => ⟨fun h2 => ?_, fun h2 => ⟨fun h3 => ?_, fun h3 => ⟨fun h4 => ?_, fun h4 => ⟨fun h5 => ?_, fun h5 => ⟨fun h6 => ?_, fun h6 => ?_⟩⟩⟩⟩⟩⟩
  · have hk1 : k = 1 := by omega
    subst hk1
    refine (rBytes_ok rb _ 65536).weak (fun _ _ h => h) ?_
    rintro v R h ⟨da, dc, rfl, H⟩
    refine ⟨da, _, dc, OwB da _ dc _, _, rfl, fun y => ?_, HP.sep_comm H⟩
    refine (rEnd_ok rb _).weak (fun _ _ h => h) ?_
    rintro v R h ⟨rfl, H⟩
    refine ⟨_, _, rfl, ⟨fun he => fail ?_, fun he => ?_⟩, H⟩
    · simp only [followS, hkk, endedR_no he]; rfl
    · refine (uaddr_ok _).weak (fun _ _ h => h) ?_
      rintro v R h ⟨rfl, H⟩
      refine ⟨_, rfl, ⟨fun ha => fail ?_, fun ha => ?_⟩, H⟩
      · simp only [followS, hkk]; rw [if_neg (by simp [ha])]
      · have e : followS s l = some { s with cells := fput s.cells (intOf64 (numR (numR (l, false) 1).2 8).1) (some ⟨1, (bytesR (numR (numR (l, false) 1).2 8).2 65536).1⟩), top := max s.top (intOf64 (numR (numR (l, false) 1).2 8).1 + 1) } := by
          simp only [followS, hkk]; rw [if_pos (by rw [endedR_yes he, ha]; rfl)]
        rw [e]
        refine (uPut_ok ub bd mc mi D (MapH InstV iE mi s.inst li ci) s lc cc _ 1 da _ dc (bytesR (numR (numR (l, false) 1).2 8).2 65536).1 _ (RdL.ow _ 1 _ _ _ _) rfl (bytesR_len _ _) ha).weak (fun _ _ h => h) ?_
        rintro v R h ⟨rfl, H⟩
        refine ⟨bd, D, s.epoch, s.low, _, mc, _, mi, MapH InstV iE mi s.inst li ci, _, rfl, .of fun R h H => ⟨rfl, ?_⟩, H⟩
        exact HP.sep_mono H (fun _ h => h) fun y hy => HP.sep_mono hy (fun _ h => h) fun z hz => HP.sep_mono hz (fun _ h => h) fun u hu => HP.sep_mono hu (fun q hq => ⟨_, _, hq⟩) fun _ h => h
  · have hk2 : k = 2 := by omega
    subst hk2
    refine (rEnd_ok rb _).weak (fun _ _ h => h) ?_
    rintro v R h ⟨rfl, H⟩
    refine ⟨_, _, rfl, ⟨fun he => fail ?_, fun he => ?_⟩, H⟩
    · simp only [followS, hkk, endedR_no he]; rfl
    · refine (uaddr_ok _).weak (fun _ _ h => h) ?_
      rintro v R h ⟨rfl, H⟩
      refine ⟨_, rfl, ⟨fun ha => fail ?_, fun ha => ?_⟩, H⟩
      · simp only [followS, hkk]; rw [if_neg (by simp [ha])]
      · have e : followS s l = some { s with cells := fput s.cells (intOf64 (numR (numR (l, false) 1).2 8).1) (some ⟨2, []⟩), top := max s.top (intOf64 (numR (numR (l, false) 1).2 8).1 + 1) } := by
          simp only [followS, hkk]; rw [if_pos (by rw [endedR_yes he, ha]; rfl)]
        rw [e]
        refine (uPut_ok ub bd mc mi D (MapH InstV iE mi s.inst li ci) s lc cc _ 2 none 0 0 [] HP.tt ⟨fun _ _ _ _ _ _ _ _ hj => by simp at hj, fun _ _ _ _ => rfl⟩ rfl (by omega) ha).weak (fun R h H => HP.sep_mono H (fun _ h => h) fun y hy => HP.sep_mono hy (fun _ h => h) fun z hz => HP.sep_mono hz (fun _ h => h) fun q hq => HP.sep_tt hq) ?_
        rintro v R h ⟨rfl, H⟩
        refine ⟨bd, D, s.epoch, s.low, _, mc, _, mi, MapH InstV iE mi s.inst li ci, rfl, .of fun R h H => ⟨rfl, ?_⟩, HP.sep_mono H (fun _ h => h) fun y hy => HP.sep_mono hy (fun _ h => h) fun z hz => HP.sep_mono hz (fun _ h => h) fun q hq => HP.sep_left hq⟩
        exact HP.sep_mono H (fun _ h => h) fun y hy => HP.sep_mono hy (fun _ h => h) fun z hz => HP.sep_mono hz (fun _ h => h) fun u hu => HP.sep_mono hu (fun q hq => ⟨_, _, hq⟩) fun _ h => h
  · have hk3 : k = 3 := by omega
    subst hk3
    refine (rEnd_ok rb _).weak (fun _ _ h => h) ?_
    rintro v R h ⟨rfl, H⟩
    refine ⟨_, _, rfl, ⟨fun he => fail ?_, fun he => ?_⟩, H⟩
    · simp only [followS, hkk, endedR_no he]; rfl
    · refine (uaddr_ok _).weak (fun _ _ h => h) ?_
      rintro v R h ⟨rfl, H⟩
      refine ⟨_, rfl, ⟨fun ha => fail ?_, fun ha => ?_⟩, H⟩
      · simp only [followS, hkk]; rw [if_neg (by simp [ha])]
      · have e : followS s l = some { s with low := intOf64 (numR (numR (l, false) 1).2 8).1 } := by
          simp only [followS, hkk]; rw [if_pos (by rw [endedR_yes he, ha]; rfl)]
        rw [e]
        exact .of fun R h H => ⟨rfl, HP.sep_mono H (fun _ h => h) fun y hy => HP.sep_mono hy (fun _ h => h) fun z hz => HP.sep_mono hz (fun q hq => ⟨_, _, hq⟩) fun u hu => HP.sep_mono hu (fun q hq => ⟨_, _, hq⟩) fun _ h => h⟩
  · have hk3 : k = 4 := by omega
    subst hk3
    refine (rEnd_ok rb _).weak (fun _ _ h => h) ?_
    rintro v R h ⟨rfl, H⟩
    refine ⟨_, _, rfl, ⟨fun he => fail ?_, fun he => ?_⟩, H⟩
    · simp only [followS, hkk, endedR_no he]; rfl
    · refine (unum_ok _).weak (fun _ _ h => h) ?_
      rintro v R h ⟨rfl, H⟩
      refine ⟨_, rfl, ⟨fun ha => fail ?_, fun ha => ?_⟩, H⟩
      · simp only [followS, hkk]; rw [if_neg (by simp [ha])]
      · have e : followS s l = some { s with epoch := intOf64 (numR (numR (l, false) 1).2 8).1 } := by
          simp only [followS, hkk]; rw [if_pos (by rw [endedR_yes he, ha]; rfl)]
        rw [e]
        exact .of fun R h H => ⟨rfl, HP.sep_mono H (fun _ h => h) fun y hy => HP.sep_mono hy (fun _ h => h) fun z hz => HP.sep_mono hz (fun q hq => ⟨_, _, hq⟩) fun u hu => HP.sep_mono hu (fun q hq => ⟨_, _, hq⟩) fun _ h => h⟩
  · have hk5 : k = 5 := by omega
    subst hk5
    refine (rInt_ok rb _).weak (fun _ _ h => h) ?_
    rintro v R h ⟨rfl, H⟩
    refine ⟨_, _, rfl, ?_, H⟩
    refine (rInt_ok rb _).weak (fun _ _ h => h) ?_
    rintro v R h ⟨rfl, H⟩
    refine ⟨_, _, rfl, fun y => ?_, H⟩
    refine (rEnd_ok rb _).weak (fun _ _ h => h) ?_
    rintro v R h ⟨rfl, H⟩
    refine ⟨_, _, rfl, ⟨fun he => fail ?_, fun he => ?_⟩, H⟩
    · simp only [followS, hkk, endedR_no he]; rfl
    · refine (uprop_ok _ _ _).weak (fun _ _ h => h) ?_
      rintro v R h ⟨rfl, H⟩
      refine ⟨_, rfl, ⟨fun ha => fail ?_, fun ha => ?_⟩, H⟩
      · simp only [followS, hkk]; rw [if_neg (by simp [ha])]
      · have e : followS s l = some (promS s (intOf64 (numR (numR (l, false) 1).2 8).1) (intOf64 (numR (numR (numR (l, false) 1).2 8).2 8).1) (intOf64 (numR (numR (numR (numR (l, false) 1).2 8).2 8).2 8).1)) := by
          simp only [followS, hkk]; rw [if_pos (by rw [endedR_yes he, ha]; rfl)]
        rw [e]
        refine (uProm_ok ub bd mc mi D (MapH CellV iE mc s.cells lc cc) s li ci _ _ _).weak (fun _ _ h => h) ?_
        rintro v R h ⟨rfl, H⟩
        refine ⟨bd, D, s.epoch, s.low, s.top, mc, MapH CellV iE mc s.cells lc cc, mi, _, rfl, .of fun R h H => ⟨rfl, ?_⟩, H⟩
        exact HP.sep_mono H (fun _ h => h) fun y hy => HP.sep_mono hy (fun _ h => h) fun z hz => HP.sep_mono hz (fun q hq => ⟨_, _, hq⟩) fun _ h => h
  · have hk6 : k = 6 := by omega
    subst hk6
    refine (rInt_ok rb _).weak (fun _ _ h => h) ?_
    rintro v R h ⟨rfl, H⟩
    refine ⟨_, _, rfl, ?_, H⟩
    refine (rInt_ok rb _).weak (fun _ _ h => h) ?_
    rintro v R h ⟨rfl, H⟩
    refine ⟨_, _, rfl, fun y => ?_, H⟩
    refine (rBytes_ok rb _ 1000).weak (fun _ _ h => h) ?_
    rintro v R h ⟨da, dc, rfl, H⟩
    refine ⟨da, _, dc, OwB da _ dc _, _, rfl, ?_, HP.sep_comm H⟩
    refine (rEnd_ok rb _).weak (fun _ _ h => h) ?_
    rintro v R h ⟨rfl, H⟩
    refine ⟨_, _, rfl, ⟨fun he => fail ?_, fun he => ?_⟩, H⟩
    · simp only [followS, hkk, endedR_no he]; rfl
    · refine (uprop_ok _ _ _).weak (fun _ _ h => h) ?_
      rintro v R h ⟨rfl, H⟩
      refine ⟨_, rfl, ⟨fun ha => fail ?_, fun ha => ?_⟩, H⟩
      · simp only [followS, hkk]; rw [if_neg (by simp [ha])]
      · have e : followS s l = some (accS s (intOf64 (numR (numR (l, false) 1).2 8).1) (intOf64 (numR (numR (numR (l, false) 1).2 8).2 8).1) (intOf64 (numR (numR (numR (numR (l, false) 1).2 8).2 8).2 8).1) (bytesR (numR (numR (numR (numR (l, false) 1).2 8).2 8).2 8).2 1000).1) := by
          simp only [followS, hkk]; rw [if_pos (by rw [endedR_yes he, ha]; rfl)]
        rw [e]
        refine (uAcc_ok ub bd mc mi D (MapH CellV iE mc s.cells lc cc) s li ci _ _ _ da _ dc _ _ (RdL.ow _ 1 _ _ _ _) rfl (bytesR_len _ _)).weak (fun _ _ h => h) ?_
        rintro v R h ⟨rfl, H⟩
        refine ⟨bd, D, s.epoch, s.low, s.top, mc, MapH CellV iE mc s.cells lc cc, mi, _, _, rfl, .of fun R h H => ⟨rfl, ?_⟩, H⟩
        exact HP.sep_mono H (fun _ h => h) fun y hy => HP.sep_mono hy (fun _ h => h) fun z hz => HP.sep_mono hz (fun q hq => ⟨_, _, hq⟩) fun _ h => h
  · refine fail ?_
    simp only [followS, hkk]
    split <;> first | rfl | omega
end Go.Proofs.Ytmibmjehjagmbaa
