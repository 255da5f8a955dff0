/- Single operations on maps, as contracts. No condition. -/
import Derived.Test.YtmibmjehjagmbaaMem
import Derived.Test.YtmibmjehjagmbaaRange
namespace Go.Proofs.Ytmibmjehjagmbaa
open Go.Proofs.Ytmibmjehjagmbaa RX

section
variable {κ : Type} [DecidableEq κ] {enc : κ → Value} {kt et t ty : TypeId} {r m it c : Nat} {l : AL κ} {S : Array Nat}

/-- A map's entries as Go keeps them. -/
def MapI (l : AL κ) (c : Nat) : Prop := (l.map (·.1)).Nodup ∧ Stamps l c
def lookS (t : TypeId) (m k : Value) (ok : Bool) : Sem Next := do pure (.value (← Instr.lookup t m k ok))
theorem semOf_lookup {ρ : Env} {i j : Nat} {u v : V} {ok : Bool} (h : i ≠ j) : semOf ρ (.lookup t (.tmp i) (.tmp j) ok) ty [(i, u), (j, v)] = lookS t (u.den ρ) (v.den ρ) ok := by
  have h' : (i == j) = false := by simpa using h
  simp [semOf, execOp, arEval, h', lookS]
theorem run_zeroV {w : World} {i : TypeInfo} {z : Value} (hi : Try.prog.info? et = some i) (hz : i.zero = some z) : (zeroValue et).run Try.prog w = .ok z w := by
  unfold zeroValue
  simp only [Sem.run_bind, RX.run_typeInfo hi, Result.andThen_ok, hz]
  rfl
theorem look_ok (K : KeyEnc Try.prog kt enc) (ht : Try.prog.underlying t = some (.map kt et)) {i : TypeInfo} {z : Value} (hi : Try.prog.info? et = some i) (hz : i.zero = some z) (k : κ) (ok : Bool) {A : HP} (hA : ∀ R h, A.p R h → h r = some (mapObj enc l c)) :
    ORead Try.prog (lookS t (.map (some r)) (enc k) ok) A (if ok then .tuple #[(alFind k l).getD z, .bool (alFind k l).isSome] else (alFind k l).getD z) := fun w R h F s a => by
  unfold lookS
  rw [Sem.run_bind, run_lookup_raw K ht (s.oh _ _ (hA R h a)) k z (run_zeroV hi hz) ok]
  rfl
theorem Sat.setObj {w : World} {R h F : PH} (s : Sat w R h F) {b : Nat} {x y : Obj} (hb : h b = some x) : Sat (World.setObj w b y) R (fun k => if k = b then some y else h k) F :=
  s.turn hb (fun k hk => by rw [hp_setObj _ _ _ _ (s.oh.lt hb), if_neg (fun e => hk e.symm)]) (by rw [hp_setObj _ _ _ _ (s.oh.lt hb), if_pos rfl])
theorem Same.setObj (w : World) (b : Nat) (y : Obj) : Same w (World.setObj w b y) := ⟨rfl, rfl, rfl, by rw [size_setObj]; omega⟩
def updS (t : TypeId) (m k v : Value) : Sem Next := do Instr.mapUpdate t m k v; pure .skip
theorem semOf_update {ρ : Env} {i j q : Nat} {u v x : V} (h : i ≠ j) (h2 : i ≠ q) (h3 : j ≠ q) : semOf ρ (.mapUpdate t (.tmp i) (.tmp j) (.tmp q)) ty [(i, u), (j, v), (q, x)] = updS t (u.den ρ) (v.den ρ) (x.den ρ) := by
  have h' : (i == j) = false := by simpa using h
  have h2' : (i == q) = false := by simpa using h2
  have h3' : (j == q) = false := by simpa using h3
  simp [semOf, execOp, arEval, h', h2', h3', updS]
theorem upd_ok (K : KeyEnc Try.prog kt enc) (ht : Try.prog.underlying t = some (.map kt et)) (k : κ) (v : Value) :
    OTri Try.prog (updS t (.map (some r)) (enc k) v) (HP.one r (mapObj enc l c)) (fun x => HP.and (x = .tuple #[]) (HP.one r (mapObj enc (alPut k v c l) (alClock k l c)))) := fun w R h F s a => by
  refine ⟨.skip, _, _, by unfold updS; rw [Sem.run_bind, run_mapUpdate_raw K ht (s.oh _ _ a) k v]; rfl, rfl, Same.setObj _ _ _, R, _, PH.le.refl _, s.setObj a, rfl, if_pos rfl⟩
def delS (ts : Array TypeId) (ty : TypeId) (u v : Value) : Sem Next := do pure (.value (← Builtin.delete_ ts ty #[u, v]))
theorem semOf_delete {ρ : Env} {i j : Nat} {u v : V} {ts : Array TypeId} (h : i ≠ j) : semOf ρ (.call ⟨.builtin .delete, #[.tmp i, .tmp j], ts⟩) ty [(i, u), (j, v)] = delS ts ty (u.den ρ) (v.den ρ) := by
  have h' : (i == j) = false := by simpa using h
  simp [semOf, execOp, resolve, arEval, invoke, builtin, h', delS]
theorem del_ok (K : KeyEnc Try.prog kt enc) (ht : Try.prog.underlying t = some (.map kt et)) (k : κ) (ts : Array TypeId) (h0 : ts[0]? = some t) :
    OTri Try.prog (delS ts ty (.map (some r)) (enc k)) (HP.one r (mapObj enc l c)) (fun x => HP.and (x = .tuple #[]) (HP.one r (mapObj enc (alDel k l) c))) := fun w R h F s a => by
  refine ⟨.value _, _, _, by unfold delS; rw [Sem.run_bind, run_delete_raw K ht (s.oh _ _ a) k ts ty h0]; rfl, rfl, Same.setObj _ _ _, R, _, PH.le.refl _, s.setObj a, rfl, if_pos rfl⟩
def rangS (t : TypeId) (m : Value) : Sem Next := do pure (.value (← Instr.range t m))
theorem semOf_range {ρ : Env} {i : Nat} {u : V} : semOf ρ (.range t (.tmp i)) ty [(i, u)] = rangS t (u.den ρ) := by
  simp [semOf, execOp, arEval, rangS]
theorem range_ok {k e : TypeId} (ht : Try.prog.underlying t = some (.map k e)) :
    OTri Try.prog (rangS t (.map (some m))) (HP.one m (mapObj enc l c)) (fun v => HP.ex fun it => HP.and (v = .pointer (some ⟨it, 0, none⟩)) (HP.sep (HP.one it (.mapIter (some m) c #[] c)) (HP.one m (mapObj enc l c)))) := fun w R h F s a => by
  obtain ⟨s2, d2⟩ := s.alloc (.mapIter (some m) c #[] c)
  refine ⟨.value _, _, _, by unfold rangS; rw [Sem.run_bind, run_range_raw ht (s.oh _ _ a)]; rfl, rfl, Same.alloc _ _, R, _, PH.le.refl _, s2, w.heap.size, rfl, _, h, d2, PH.un_left _ _, PH.un_right d2, PH.one_self _ _, a⟩
def nextS (x : Value) (ty : TypeId) : Sem Next := do pure (.value (← Instr.next x false ty))
theorem semOf_next {ρ : Env} {i : Nat} {u : V} : semOf ρ (.next (.tmp i) false) ty [(i, u)] = nextS (u.den ρ) ty := by
  simp [semOf, execOp, arEval, nextS]
def nextE (enc : κ → Value) (l : AL κ) (S : Array Nat) (v : Value) : Option (κ × Value × Nat) → Prop
  | none => v = .tuple #[.bool false] ∧ ∀ x ∈ l, x.2.2 ∈ S
  | some x => v = .tuple #[.bool true, enc x.1, x.2.1] ∧ x ∈ l ∧ x.2.2 ∉ S
def nextI (S : Array Nat) : Option (κ × Value × Nat) → Array Nat
  | none => S
  | some x => S.push x.2.2
theorem next_ok (hs : Stamps l c) : OTri Try.prog (nextS (.pointer (some ⟨it, 0, none⟩)) ty) (HP.sep (HP.one it (.mapIter (some m) c S c)) (HP.one m (mapObj enc l c)))
    (fun v => HP.ex fun e => HP.and (nextE enc l S v e) (HP.sep (HP.one it (.mapIter (some m) c (nextI S e) c)) (HP.one m (mapObj enc l c)))) := fun w R h F s a => by
  have a1 := HP.sep_left a
  have a2 := HP.sep_right a
  have hne : m ≠ it := by
    obtain ⟨h1, h2, d, _, _, b1, b2⟩ := a
    intro e
    subst e
    rcases d m with e | e
    · rw [show h1 m = some _ from b1] at e; cases e
    · rw [show h2 m = some _ from b2] at e; cases e
  rcases run_next_raw (P := Try.prog) ty (s.oh _ _ a1) (s.oh _ _ a2) hs with ⟨hall, hrun⟩ | ⟨x, hx, hS, w1, hw1, hrun⟩
  · exact ⟨.value _, _, w, by unfold nextS; rw [Sem.run_bind, hrun]; rfl, rfl, Same.refl _, R, h, PH.le.refl _, s, none, ⟨rfl, hall⟩, a⟩
  · have s1 : Sat w1 R h F ∧ Same w w1 := by
      rcases hw1 with rfl | rfl
      · exact ⟨s, Same.refl _⟩
      · exact ⟨s.drew _, Same.drew w _⟩
    refine ⟨.value _, _, _, by unfold nextS; rw [Sem.run_bind, hrun]; rfl, rfl, s1.2.trans (Same.setObj _ _ _), R, _, PH.le.refl _, s1.1.setObj a1, some x, ⟨rfl, hx, hS⟩, PH.one it _, PH.one m (mapObj enc l c), fun k => ?_, PH.one_le (if_pos rfl), PH.one_le ?_, PH.one_self _ _, PH.one_self _ _⟩
    · by_cases e : k = it
      · subst e; exact .inr (if_neg (fun e => hne e.symm))
      · exact .inl (if_neg e)
    · exact (if_neg hne).trans a2
def entS (x : Value) : Sem Next := do pure (.value (← Instr.entry x))
theorem semOf_entry {ρ : Env} {i : Nat} {u : V} : semOf ρ (.entry (.tmp i)) ty [(i, u)] = entS (u.den ρ) := by
  simp [semOf, execOp, arEval, entS]
theorem entry_ok {x : κ × Value × Nat} (hs : Stamps l c) (hx : x ∈ l) {A : HP} (h1 : ∀ R h, A.p R h → h it = some (.mapIter (some m) c (S.push x.2.2) c)) (h2 : ∀ R h, A.p R h → h m = some (mapObj enc l c)) :
    ORead Try.prog (entS (.pointer (some ⟨it, 0, none⟩))) A (.tuple #[enc x.1, x.2.1]) := fun w R h F s a => by
  unfold entS
  rw [Sem.run_bind, run_entry_raw (P := Try.prog) (s.oh _ _ (h1 R h a)) (s.oh _ _ (h2 R h a)) hs hx]
  rfl
end
end Go.Proofs.Ytmibmjehjagmbaa
