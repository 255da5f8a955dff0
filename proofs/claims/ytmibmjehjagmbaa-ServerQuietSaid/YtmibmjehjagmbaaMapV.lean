/- Maps as assertions: what each key stands for, by parts that never turn. No condition. -/
import Derived.Test.YtmibmjehjagmbaaMapO
namespace Go.Proofs.Ytmibmjehjagmbaa
open Go.Proofs.Ytmibmjehjagmbaa RX

section
variable {κ : Type} [DecidableEq κ] {enc : κ → Value} {r c : Nat} {l : AL κ}

theorem alPut_none (k : κ) (v : Value) (c : Nat) : ∀ l : AL κ, alFind k l = none → alPut k v c l = l ++ [(k, v, c)]
  | [], _ => rfl
  | x :: l, h => by
    simp only [alFind] at h
    split at h
    · cases h
    · rename_i hk; simp [alPut, hk, alPut_none k v c l h]
theorem alPut_born (k : κ) (v : Value) (c : Nat) : ∀ l : AL κ, (alFind k l).isSome = true → (alPut k v c l).map (·.2.2) = l.map (·.2.2)
  | [], h => by cases h
  | x :: l, h => by
    simp only [alFind] at h
    simp only [alPut]
    split at h
    · rename_i hk; simp [hk]
    · rename_i hk; simp [hk, alPut_born k v c l h]
theorem MapI.nil (c : Nat) : MapI ([] : AL κ) c := ⟨List.nodup_nil, Stamps.nil c⟩
theorem MapI.put (h : MapI l c) (k : κ) (v : Value) : MapI (alPut k v c l) (alClock k l c) := by
  refine ⟨alPut_nodup k v c l h.1, ?_⟩
  unfold alClock
  cases hf : alFind k l with
  | none =>
    rw [alPut_none k v c l hf]
    exact h.2.snoc k v
  | some u =>
    have hb := alPut_born k v c l (by rw [hf]; rfl)
    refine ⟨fun x hx => ?_, by rw [hb]; exact h.2.nodup⟩
    have : x.2.2 ∈ (alPut k v c l).map (·.2.2) := List.mem_map.2 ⟨x, hx, rfl⟩
    rw [hb] at this
    obtain ⟨y, hy, e⟩ := List.mem_map.1 this
    rw [← e]
    exact h.2.low y hy
theorem alDel_sub (k : κ) : ∀ l : AL κ, (alDel k l).Sublist l
  | [] => List.Sublist.refl _
  | x :: l => by
    simp only [alDel]
    split
    · exact List.sublist_cons_self _ _
    · exact (alDel_sub k l).cons_cons _
theorem MapI.del (h : MapI l c) (k : κ) : MapI (alDel k l) c :=
  ⟨List.Nodup.sublist ((alDel_sub k l).map _) h.1, fun x hx => h.2.low x ((alDel_sub k l).subset hx), List.Nodup.sublist ((alDel_sub k l).map _) h.2.nodup⟩
theorem alFind_del (k k' : κ) : ∀ l : AL κ, (l.map (·.1)).Nodup → alFind k' (alDel k l) = if k' = k then none else alFind k' l
  | [], _ => by simp [alDel, alFind]
  | x :: l, h => by
    simp only [List.map_cons, List.nodup_cons] at h
    simp only [alDel]
    split
    · rename_i hk
      subst hk
      split
      · rename_i e
        subst e
        exact alFind_none_of _ l fun y hy e => h.1 (List.mem_map.2 ⟨y, hy, e⟩)
      · rename_i e; simp [alFind, e]
    · rename_i hk
      simp only [alFind]
      rw [alFind_del k k' l h.2]
      by_cases e : k' = x.1
      · rw [if_pos e, if_pos e, if_neg (fun e2 => hk (by rw [← e2, e]))]
      · rw [if_neg e, if_neg e]

/-- What a key's value stands for never turns. -/
def Pers {α : Type} (V : Value → α → HP) : Prop := ∀ v x R h h', (V v x).p R h → (V v x).p R h'
def Vals {α : Type} (V : Value → α → HP) (l : AL κ) (f : κ → Option α) : HP :=
  ⟨fun R h => ∀ k, match alFind k l, f k with
    | none, none => True
    | some v, some x => (V v x).p R h
    | _, _ => False,
   fun lR lh H k => by
    have := H k
    revert this
    cases alFind k l <;> cases f k <;> simp only [imp_self]
    exact fun p => (V _ _).mono lR lh p⟩
variable {α : Type} {V : Value → α → HP} {f : κ → Option α}
def fput (f : κ → Option α) (k : κ) (x : Option α) : κ → Option α := fun k' => if k' = k then x else f k'
theorem Vals.any (hV : Pers V) {R h h' : PH} (H : (Vals V l f).p R h) : (Vals V l f).p R h' := fun k => by
  have := H k
  revert this
  cases alFind k l <;> cases f k <;> simp only [imp_self]
  exact fun p => hV _ _ _ _ _ p
theorem Vals.nil {R h : PH} : (Vals V ([] : AL κ) (fun _ => none)).p R h := fun _ => trivial
theorem Vals.put {R h : PH} (H : (Vals V l f).p R h) (k : κ) (v : Value) (c : Nat) (x : α) (hv : (V v x).p R h) : (Vals V (alPut k v c l) (fput f k (some x))).p R h := fun k' => by
  rw [alFind_put, fput]
  by_cases e : k' = k
  · rw [if_pos e, if_pos e]; exact hv
  · rw [if_neg e, if_neg e]; exact H k'
theorem Vals.del {R h : PH} (H : (Vals V l f).p R h) (hn : (l.map (·.1)).Nodup) (k : κ) : (Vals V (alDel k l) (fput f k none)).p R h := fun k' => by
  rw [alFind_del _ _ _ hn, fput]
  by_cases e : k' = k
  · rw [if_pos e, if_pos e]; trivial
  · rw [if_neg e, if_neg e]; exact H k'
/-- A map. -/
def MapH (V : Value → α → HP) (enc : κ → Value) (r : Nat) (f : κ → Option α) (l : AL κ) (c : Nat) : HP := HP.and (MapI l c) (HP.sep (HP.one r (mapObj enc l c)) (Vals V l f))
def MapE (V : Value → α → HP) (enc : κ → Value) (r : Nat) (f : κ → Option α) : HP := HP.ex fun l => HP.ex fun c => MapH V enc r f l c
theorem MapE.new (V : Value → α → HP) (enc : κ → Value) (r : Nat) {R h : PH} (H : (HP.one r (.map #[] 0)).p R h) : (MapE V enc r (fun _ => none)).p R h :=
  ⟨[], 0, MapI.nil 0, HP.sep_mono (HP.sep_tt H) (fun _ h => h) fun _ _ => Vals.nil⟩
theorem MapH.at {R h : PH} (H : (MapH V enc r f l c).p R h) : h r = some (mapObj enc l c) := HP.sep_left H.2
theorem MapH.yes {R h : PH} (H : (MapH V enc r f l c).p R h) (hV : Pers V) {k : κ} {x : α} (e : f k = some x) (h' : PH) : ∃ v, alFind k l = some v ∧ (V v x).p R h' := by
  have := HP.sep_right H.2 k
  rw [e] at this
  revert this
  cases alFind k l with
  | none => exact fun h => h.elim
  | some v => exact fun h => ⟨v, rfl, hV _ _ _ _ _ h⟩
theorem MapH.no {R h : PH} (H : (MapH V enc r f l c).p R h) {k : κ} (e : f k = none) : alFind k l = none := by
  have := HP.sep_right H.2 k
  rw [e] at this
  revert this
  cases alFind k l with
  | none => exact fun _ => rfl
  | some v => exact fun h => h.elim
theorem MapH.put {kt et t : TypeId} (K : KeyEnc Try.prog kt enc) (ht : Try.prog.underlying t = some (.map kt et)) (hV : Pers V) (k : κ) (v : Value) (x : α) {A : HP} (hv : ∀ R h, A.p R h → (V v x).p R h) :
    OTri Try.prog (updS t (.map (some r)) (enc k) v) (HP.sep (MapH V enc r f l c) A) (fun z => HP.and (z = .tuple #[]) (HP.sep (MapE V enc r (fput f k (some x))) A)) := by
  refine OTri.fact (φ := MapI l c) (fun R h H => (HP.sep_left H).1) fun hI => ?_
  refine ((upd_ok (r := r) (l := l) (c := c) K ht k v).frame (HP.sep (Vals V l f) A)).weak (fun R h ⟨h1, h2, d, l1, l2, ⟨_, H⟩, hA⟩ => HP.sep_assoc ⟨h1, h2, d, l1, l2, H, hA⟩) ?_
  rintro z R h ⟨h1, h2, d, l1, l2, ⟨rfl, hone⟩, hrest⟩
  have hx := hv _ _ (HP.sep_right hrest)
  refine ⟨rfl, HP.sep_mono (HP.sep_assoc' ⟨h1, h2, d, l1, l2, hone, hrest⟩) (fun y hy => ⟨_, _, hI.put k v, HP.sep_mono hy (fun _ h => h) fun q hq => Vals.put hq k v c x (hV _ _ _ _ _ hx)⟩) fun _ h => h⟩
theorem MapH.del {kt et t : TypeId} (K : KeyEnc Try.prog kt enc) (ht : Try.prog.underlying t = some (.map kt et)) (k : κ) (ts : Array TypeId) (ty : TypeId) (h0 : ts[0]? = some t) :
    OTri Try.prog (delS ts ty (.map (some r)) (enc k)) (MapH V enc r f l c) (fun z => HP.and (z = .tuple #[]) (MapH V enc r (fput f k none) (alDel k l) c)) := by
  refine OTri.fact (φ := MapI l c) (fun R h H => H.1) fun hI => ?_
  refine ((del_ok (r := r) (l := l) (c := c) (ty := ty) K ht k ts h0).frame (Vals V l f)).weak (fun R h ⟨_, H⟩ => H) ?_
  rintro z R h ⟨h1, h2, d, l1, l2, ⟨rfl, hone⟩, hrest⟩
  exact ⟨rfl, hI.del k, h1, h2, d, l1, l2, hone, Vals.del hrest hI.1 k⟩
end
end Go.Proofs.Ytmibmjehjagmbaa
