/- Several results at once; stores into rows of structs. -/
import Derived.Test.YtnpokifaejcbeaaGreatDoorSgEnc
import Derived.Test.YtnpokifaejcbeaaGreatDoorSgJoin
set_option linter.unusedVariables false
set_option linter.unusedSimpArgs false
namespace Go.Sg
open Go.RowKit

section
variable {P : Program} {nt : Nat} {ρ O : Env}

inductive RO (P : Program) (ρ : Env) : List ResultVar → List DV → Prop
  | nil : RO P ρ [] []
  | cons {v : ResultVar} {r : DV} {vs : List ResultVar} {rs : List DV} (h : Out1 P ρ v r) (t : RO P ρ vs rs) : RO P ρ (v :: vs) (r :: rs)
theorem RO.len {vs : List ResultVar} {rs : List DV} (h : RO P ρ vs rs) : rs.length = vs.length := by
  induction h with
  | nil => rfl
  | cons h t ih => simp [ih]
theorem RO.get {vs : List ResultVar} {rs : List DV} (h : RO P ρ vs rs) : ∀ (j : Nat) (v : ResultVar) (d : DV), vs[j]? = some v → rs[j]? = some d → Out1 P ρ v d := by
  induction h with
  | nil => intro j v d h; simp at h
  | cons h t ih =>
    intro j v d hv hd
    cases j with
    | zero => simp at hv hd; subst hv; subst hd; exact h
    | succ j => exact ih j v d (by simpa using hv) (by simpa using hd)
theorem ret_tup {fn : Func} {a b : ResultVar} {vs : List ResultVar} {rs : List DV} (hf : fn.results.toList = a :: b :: vs) (h1 : hi ρ = outer O) (h : RO P ρ (a :: b :: vs) rs) : retQ P fn O (fun O' r' => O' = O ∧ r' = .tup rs) .ret ρ :=
  ret_pure h1 (by rw [hf]; cases a <;> exact ⟨rs, rfl, h.len, h.get⟩)
theorem roV {t : Nat} {r : DV} (h : ρ t = r) (h1 : isPl r = true) (h2 : sh r = r) : Out1 P ρ (.tmp t) r := ⟨by rw [h]; exact h1, by rw [h, h2]; exact RWk.refl _⟩
theorem roL {α : Type} [Inhabited α] {t z : Nat} {e : α → List DV} {l l' : List α} (h : ρ t = Sg.encL z e l') (hl : l' = l) : Out1 P ρ (.tmp t) (Sg.encL z e l) := by
  subst hl; exact roV h rfl rfl
theorem roN {α : Type} [Inhabited α] {t z : Nat} {e : α → List DV} {l : List α} (h : ρ t = .v (.slice none 0 0)) (hl : l = []) : Out1 P ρ (.tmp t) (Sg.encL z e l) := by
  subst hl; exact ⟨by rw [h]; rfl, by rw [h]; exact RWk.nilL e⟩
end
section
variable {P : Program} {nt : Nat} {ρ : Env} {Q : Exit → Env → Prop} {c : Code}
/-- A variable's cells, said anew. -/
theorem aw_toBx (s : Nat) {cs ds : List DV} (hlt : (decide (s < 100000)) = true) (h : ρ s = .bx cs) (hw : RWkL cs ds) (k : AW P nt c Q (set ρ s (.bx ds))) : AW P nt c Q ρ :=
  fun I A a w hs hd => k I A a w ⟨⟨fun t => by
      rw [set_apply]; split
      · rename_i e
        subst e
        have ho := hs.osim.own t
        rw [h] at ho
        obtain ⟨g, c', us, et, h1, h2, h3, h4, h5⟩ := ho
        refine ⟨g, c', us, et, h1, h2, by rw [← hw.len]; exact h3, h4, fun j d u hdj hu => ?_⟩
        obtain ⟨d', q1, q2⟩ := hw.get j d hdj
        exact q2 _ _ _ _ (h5 j d' u q1 hu)
      · exact hs.osim.own t, hs.osim.inj, hs.osim.sep, hs.osim.imm⟩, hs.size, hs.bound, fun i hi => by
      rw [set_apply]; split
      · rename_i e
        subst e
        have := hs.slot i hi
        rw [h] at this
        exact this
      · exact hs.slot i hi, fun t ht => by
      have := of_decide_eq_true hlt
      rw [set_apply, if_neg (by omega)]; exact hs.out t ht⟩ hd
end
theorem setMap {α : Type} (e : α → List DV) (l : List α) (i : Nat) (x : α) : (l.map e).set i (e x) = (l.set i x).map e := by rw [List.map_set]
theorem setMapI (l : List Int) (i : Nat) (x : Int) : (l.map eI).set i [vi x] = (l.set i x).map eI := by rw [List.map_set]
theorem setMapB (l : List Bool) (i : Nat) (x : Bool) : (l.map fun b => [vb b]).set i [vb x] = (l.set i x).map fun b => [vb b] := by rw [List.map_set]
theorem setAt {α : Type} (a : List α) (x y : α) (b : List α) : (a ++ x :: b).set a.length y = a ++ y :: b := by
  induction a with
  | nil => rfl
  | cons z a ih => simp [ih]
theorem getAt {α : Type} (d : α) (a : List α) (x : α) (b : List α) : (a ++ x :: b).getD a.length d = x := by simp [List.getD_eq_getElem?_getD]
theorem takeD {α : Type} (d : α) {l : List α} {i : Nat} (h : i < l.length) : l.take (i + 1) = l.take i ++ [l.getD i d] := by
  rw [List.take_add_one, List.getD_eq_getElem?_getD, List.getElem?_eq_getElem h]; rfl
theorem takeSet {α : Type} {l : List α} {i : Nat} (x : α) (h : i < l.length) : (l.set i x).take (i + 1) = l.take i ++ [x] := by
  rw [takeD x (by simpa using h), List.take_set_of_le (Nat.le_refl i), List.getD_eq_getElem?_getD, List.getElem?_set_self h]; rfl
theorem dropSet {α : Type} {l : List α} {i : Nat} (x : α) : (l.set i x).drop (i + 1) = l.drop (i + 1) := List.drop_set_of_lt (Nat.lt_succ_self i)
theorem exRow {t z n : Nat} {xs : List (List DV)} : (∃ e ys, DV.row t z xs = .row e z ys ∧ n ≤ ys.length) = (n ≤ xs.length) := by
  apply propext; constructor
  · rintro ⟨_, _, h, h2⟩; cases h; exact h2
  · intro h; exact ⟨_, _, rfl, h⟩
theorem farNe {k d : Nat} (h : d < 100000) : (k + 100000 != d) = true := by simp; omega
theorem farEq {k d : Nat} (h : d < 100000) : (k + 100000 = d) = False := by simp; omega
theorem RWk.slW {z n : Nat} {f g : Nat → List DV} (h : ∀ i, i < n → RWkL (f i) (g i)) : RWk (.sl z n f) (.sl z n g) := fun w I A x hr => by
  cases hr with
  | sl0 _ _ _ b c => exact .sl0 A z g b c
  | sl _ _ _ _ b o c us hn hc hm hI hz hcell hone hrel =>
    refine .sl A z n g b o c us hn hc hm hI (fun i hi => by rw [← (h i hi).len]; exact hz i hi) hcell hone (fun i j d hi hd => ?_)
    obtain ⟨d', h1, h2⟩ := (h i hi).get j d hd
    exact h2 _ _ _ _ (hrel i j d' hi h1)
theorem RWk.aggL {cs ds : List DV} (h : RWkL cs ds) : RWk (.agg cs) (.agg ds) := fun w I A x hr => by
  cases hr with
  | agg _ _ vs hl hone hrel =>
    refine .agg A ds vs (by rw [← h.len]; exact hl) hone fun j d u hd hu => ?_
    obtain ⟨d', h1, h2⟩ := h.get j d hd
    exact h2 _ _ _ _ (hrel j d' u h1 hu)
def eLI (l : List Int) : List DV := [encI l]
theorem snocLI (l : List (List Int)) (x : List Int) : l.map eLI ++ [[.sl 1 x.length fun i => eI (x.getD i default)]] = (l ++ [x]).map eLI := by simp [eLI, encL]
attribute [go_sem] eLI snocLI
attribute [go_sem] setMapI exRow farNe farEq
end Go.Sg
