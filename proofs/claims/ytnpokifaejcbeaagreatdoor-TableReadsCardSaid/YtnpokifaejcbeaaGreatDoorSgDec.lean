/- From a row's reading of its arguments to abstract values, type by type. -/
import Derived.Test.YtnpokifaejcbeaaGreatDoorSgRun
import Derived.ChangeArms
import Derived.WideShapes
import Derived.SizedLaws
set_option linter.unusedVariables false
set_option linter.unusedSimpArgs false
namespace Go.Sg
open Go.RowKit

/-- Cells and what they stand for. -/
inductive RC (w : World) (I : Nat → Prop) : List DV → List Value → Prop
  | nil : RC w I [] []
  | cons {d : DV} {x : Value} {l : List DV} {m : List Value} (h : Rel w I noOwn d x) (o : x.oneCell' = true) (t : RC w I l m) : RC w I (d :: l) (x :: m)

section
variable {w : World} {I : Nat → Prop}
theorem RC.len {l : List DV} {m : List Value} (h : RC w I l m) : m.length = l.length := by
  induction h with
  | nil => rfl
  | cons h o t ih => simp [ih]
theorem RC.get {l : List DV} {m : List Value} (h : RC w I l m) : ∀ (j : Nat) (d : DV) (u : Value), l[j]? = some d → m[j]? = some u → Rel w I noOwn d u := by
  induction h with
  | nil => intro j d u hd; simp at hd
  | cons h o t ih =>
    intro j d u hd hu
    cases j with
    | zero => simp at hd hu; subst hd; subst hu; exact h
    | succ j => exact ih j d u (by simpa using hd) (by simpa using hu)
theorem RC.one {l : List DV} {m : List Value} (h : RC w I l m) : ∀ u ∈ m, u.oneCell' = true := by
  induction h with
  | nil => simp
  | cons h o t ih => intro u hu; rcases List.mem_cons.1 hu with e | e; exact e ▸ o; exact ih u e
theorem RC.app {l l' : List DV} {m m' : List Value} (h : RC w I l m) (h' : RC w I l' m') : RC w I (l ++ l') (m ++ m') := by
  induction h with
  | nil => exact h'
  | cons h o t ih => exact .cons h o ih
theorem RC.join {l l' : List DV} {cs : List Value} {o s : Nat} (h : RC w I l ((cs.drop o).take s)) (h' : RC w I l' (cs.drop (o + s))) : RC w I (l ++ l') (cs.drop o) := by
  have := h.app h'
  rwa [← List.drop_drop, List.take_append_drop] at this
theorem RC.stop {cs : List Value} {n : Nat} (h : cs.length = n) : RC w I [] (cs.drop n) := by
  rw [List.drop_eq_nil_of_le (by omega)]; exact .nil
theorem RC.agg {l : List DV} {cs : Array Value} (h : RC w I l cs.toList) {A : Own} : Rel w I A (.agg l) (.agg cs) := by
  refine Rel.ofNoOwn (.agg noOwn l cs (by simpa using h.len.symm) h.one fun j d u hd hu => h.get j d u hd (by simpa using hu))
theorem RC.single {d : DV} {v : Value} (h : RC w I [d] [v]) {A : Own} : Rel w I A d v := by
  cases h with
  | cons h o t => exact h.ofNoOwn
end

/-- Every reading at type t is of one a, its cells e a. -/
def Dec (P : Program) (t : TypeId) {α : Type} (e : α → List DV) (ok : α → Prop) : Prop :=
  ∀ (H : Type) (enc : TypeId × Value → H) (w : World) (sp : Nat → Bool) (held : Bool) (fuel : Nat) (cs : List Value) (x : DataW H × List MemPlace), DataW.trod enc P w 0 sp held fuel t cs = some x → (∀ n ∈ x.1.weights P t, n ≤ reachBytes) →
    ∃ a : α, ok a ∧ RC w (fun g => g < w.heap.size) (e a) cs

section
variable {P : Program} {t : TypeId}
abbrev eB (b : Bool) : List DV := [vb b]
abbrev eS (s : ByteArray) : List DV := [vs s]
theorem dec_bool (ht : P.underlying t = some .bool) : Dec P t eB (fun _ => True) := fun H enc w sp held fuel cs x h hz => by
  obtain ⟨b, rfl, _⟩ := DataW.trod_bool ht h
  exact ⟨b, trivial, .cons (.v _ _) rfl .nil⟩
theorem dec_int (ht : P.underlying t = some (.int .i64)) : Dec P t eI (fun n => -9223372036854775808 ≤ n ∧ n ≤ 9223372036854775807) := fun H enc w sp held fuel cs x h hz => by
  obtain ⟨n, rfl, _, hw⟩ := DataW.trod_int ht h
  refine ⟨n, ?_, .cons (.v _ _) rfl .nil⟩
  simp [Lit.wf, IntKind.min, IntKind.max, IntKind.signed, IntKind.bits] at hw
  omega
theorem dec_string (ht : P.underlying t = some .string) : Dec P t eS (fun s => s.size ≤ 140737488355328) := fun H enc w sp held fuel cs x h hz => by
  obtain ⟨s, rfl, rfl, hs⟩ := DataW.trod_string ht h
  have := hz s.data.toList.length (by simp [DataW.weights])
  exact ⟨s, by
    show s.size ≤ _
    have h2 : s.size = s.data.toList.length := Array.length_toList.symm
    rw [h2]; unfold reachBytes at this; omega, .cons (.v _ _) rfl .nil⟩

theorem mapM_get {α β : Type} {f : α → Option β} : ∀ {l : List α} {r : List β}, l.mapM f = some r → r.length = l.length ∧ ∀ (j : Nat) (x : α), l[j]? = some x → f x = r[j]?
  | [], r, h => by
    have : r = [] := by simpa using h.symm
    subst this; exact ⟨rfl, by simp⟩
  | a :: l, r, h => by
    rw [List.mapM_cons] at h
    cases ha : f a with
    | none => simp [ha] at h
    | some y =>
      cases hl : l.mapM f with
      | none => simp [ha, hl] at h
      | some ys =>
        simp [ha, hl] at h
        subst h
        obtain ⟨h1, h2⟩ := mapM_get hl
        refine ⟨by simp [h1], fun j x hx => ?_⟩
        cases j with
        | zero => simp at hx; subst hx; simpa using ha
        | succ j => simpa using h2 j x (by simpa using hx)

theorem spot_none {w : World} {a : Addr} {v : Value} (h : w.cell? a = some v) : a.spot = none ∧ a.block < w.heap.size := by
  unfold World.cell? at h
  split at h
  · rename_i c e f hh
    refine ⟨?_, (Array.getElem?_eq_some_iff.1 hh).1⟩
    cases hs : a.spot with
    | none => rfl
    | some s => rw [hs] at h; simp at h
  · cases h

theorem cells_get {w : World} {b : Nat} {a : Addr} {n : Nat} {cs : List Value} (h : w.cells? b a n = some cs) : cs.length = n ∧ ∀ j, j < n → w.cell? (a.add j) = cs[j]? := by
  unfold World.cells? at h
  split at h
  · obtain ⟨h1, h2⟩ := mapM_get h
    refine ⟨by simpa using h1, fun j hj => h2 j j (by simp [hj])⟩
  · cases h

theorem weightsAll_mem {H : Type} {P : Program} {e : TypeId} : ∀ {l : List (DataW H)} {j : Nat} {d : DataW H}, l[j]? = some d → ∀ n ∈ d.weights P e, n ∈ DataW.weightsAll P e l
  | [], _, _, h, _, _ => by simp at h
  | d0 :: l, 0, d, h, n, hn => by
    simp only [List.getElem?_cons_zero, Option.some.injEq] at h
    subst h
    simp only [DataW.weightsAll, List.mem_append]
    exact .inl hn
  | d0 :: l, j + 1, d, h, n, hn => by
    simp only [List.getElem?_cons_succ] at h
    simp only [DataW.weightsAll, List.mem_append]
    exact .inr (weightsAll_mem h n hn)

theorem dec_slice {el : TypeId} {α : Type} [Inhabited α] {e : α → List DV} {ok : α → Prop} {z : Nat} (ht : P.underlying t = some (.slice el)) (hc : P.cellsOf el = z) (hz : 0 < z) (hby : 0 < P.bytesOf el) (hd : Dec P el e ok) (hlen : ∀ a, (e a).length = z) :
    Dec P t (fun l : List α => [encL z e l]) (fun l => (∀ a ∈ l, ok a) ∧ l.length ≤ 140737488355328) := fun H enc w sp held fuel cs x h hw => by
  rcases DataW.trod_slice ht h with ⟨rfl, _⟩ | ⟨a, len, cap, elems, rest, n, rfl, rfl, hx, hb, hl, hm, hle, hel, _, _⟩
  · exact ⟨[], ⟨by simp, by simp⟩, .cons rel_none rfl .nil⟩
  · have hreach : len ≤ 140737488355328 := by
      have h1 := hw (((elems.map (·.1)).length + (rest.map (·.1)).length) * P.bytesOf el) (by rw [hx]; simp [DataW.weights, ht])
      have h2 : (elems.map (·.1)).length = len := by simpa using hle
      rw [h2] at h1
      have h3 : len * 1 ≤ (len + (rest.map (·.1)).length) * P.bytesOf el := Nat.mul_le_mul (by omega) hby
      unfold reachBytes at h1
      omega
    have each : ∀ i, ∃ (p : α × List Value), i < len → ok p.1 ∧ RC w (fun g => g < w.heap.size) (e p.1) p.2 ∧ p.2.length = z ∧ ∀ j, j < z → w.cell? ((a.add (i * z)).add j) = p.2[j]? := fun i => by
      by_cases hi : i < len
      · have := hel i hi
        rw [List.getElem?_eq_getElem (by omega), Option.bind_eq_some_iff, hc] at this
        obtain ⟨cs', h1, h2⟩ := this
        obtain ⟨y, h3, h4⟩ := hd H enc w sp held n cs' _ h2 fun m hm => hw m (by
          rw [hx]
          simp only [DataW.weights, ht]
          refine List.mem_cons_of_mem _ (List.mem_append_left _ (weightsAll_mem (j := i) (d := elems[i].1) ?_ m hm))
          rw [List.getElem?_map, List.getElem?_eq_getElem (by omega)]; rfl)
        obtain ⟨h5, h6⟩ := cells_get h1
        exact ⟨(y, cs'), fun _ => ⟨h3, h4, h5, h6⟩⟩
      · exact ⟨(default, []), fun h => absurd h hi⟩
    have hch := Classical.axiomOfChoice each
    obtain ⟨f, hf⟩ := hch
    have hlen' : ((List.range len).map fun i => (f i).1).length = len := by simp
    have hget : ∀ i, i < len → ((List.range len).map fun i => (f i).1).getD i default = (f i).1 := fun i hi => by
      rw [List.getD_eq_getElem?_getD, List.getElem?_map, List.getElem?_range hi]; rfl
    refine ⟨(List.range len).map fun i => (f i).1, ⟨fun y hy => ?_, by rw [hlen']; exact hreach⟩, .cons ?_ rfl .nil⟩
    · obtain ⟨i, hi, rfl⟩ := List.mem_map.1 hy
      exact (hf i (by simpa using hi)).1
    · rcases Nat.eq_zero_or_pos len with h0 | h0
      · subst h0; exact rel_none
      · have hsp : a.spot = none ∧ a.block < w.heap.size := by
          obtain ⟨_, _, k3, k4⟩ := hf 0 h0
          have := k4 0 hz
          rw [List.getElem?_eq_getElem (by omega), Nat.zero_mul] at this
          exact spot_none this
        obtain ⟨b, o, s⟩ := a
        obtain ⟨rfl, hbl⟩ := hsp
        show Rel _ _ _ (.sl z ((List.range len).map fun i => (f i).1).length fun i => e (((List.range len).map fun i => (f i).1).getD i default)) _
        rw [hlen']
        refine .sl noOwn z len _ b o cap (fun i j => (f i).2.getD j undef) h0 hl hm hbl (fun i _ => hlen _) (fun i j hi hj => ?_) (fun i j hi hj => ?_) fun i j d hi hdd => ?_
        · obtain ⟨_, _, k3, k4⟩ := hf i hi
          have := k4 j hj
          rw [Addr.add_lit, Addr.add_lit, Nat.add_assoc] at this
          rw [this, List.getD_eq_getElem?_getD, List.getElem?_eq_getElem (by omega)]; rfl
        · obtain ⟨_, k2, k3, _⟩ := hf i hi
          rw [List.getD_eq_getElem?_getD, List.getElem?_eq_getElem (by omega)]
          exact k2.one _ (List.getElem_mem _)
        · obtain ⟨_, k2, k3, _⟩ := hf i hi
          rw [hget i hi] at hdd
          have hj : j < (f i).2.length := by
            have := k2.len
            have h2 : j < (e (f i).1).length := (List.getElem?_eq_some_iff.1 hdd).1
            omega
          rw [List.getD_eq_getElem?_getD, List.getElem?_eq_getElem hj]
          exact k2.get j d _ hdd (List.getElem?_eq_getElem hj)

/-- A field's reading. -/
theorem dec_field {fs : Array Field} {H : Type} {enc : TypeId × Value → H} {w : World} {sp : Nat → Bool} {held : Bool} {fuel : Nat} {cs : List Value} {x : DataW H × List MemPlace} (ht : P.underlying t = some (.struct fs))
    (h : DataW.trod enc P w 0 sp held fuel t cs = some x) (hw : ∀ n ∈ x.1.weights P t, n ≤ reachBytes) (i : Nat) {nm : Field} {α : Type} {e : α → List DV} {ok : α → Prop} {s : Nat} (hf : fs[i]? = some nm) (hs : P.cellsOf nm.type = s) (hd : Dec P nm.type e ok) :
    ∃ a : α, ok a ∧ RC w (fun g => g < w.heap.size) (e a) ((cs.drop nm.offset).take s) := by
  obtain ⟨xs, n, rfl, hx, h1, h2, h3⟩ := DataW.trod_struct ht h
  have := h3 i nm hf
  have hi : i < fs.size := (Array.getElem?_eq_some_iff.1 hf).1
  rw [List.getElem?_eq_getElem (by omega), hs] at this
  refine hd H enc w sp held n _ _ this fun m hm => hw m ?_
  rw [hx]
  simp only [DataW.weights, ht]
  refine DataW.weights_mem_each (j := i) (t := nm.type) (d := xs[i].1) ?_ ?_ m hm
  · rw [List.getElem?_map, Array.getElem?_toList, hf]; rfl
  · rw [List.getElem?_map, List.getElem?_eq_getElem (by omega)]; rfl

/-! ## Arguments -/

theorem arg_struct {fs : Array Field} {α : Type} {e : α → List DV} {ok : α → Prop} {H : Type} {enc : TypeId × Value → H} {w : World} {r : Reach} {base : Nat} {sp : Nat → Bool} {held : Bool} {v : Value} {d : DataW H} {ps : List MemPlace}
    (ht : P.underlying t = some (.struct fs)) (hd : Dec P t e ok) (hv : Value.okWide P w r base t v) (h : DataW.Trod enc P w 0 sp held t v d ps) (hw : ∀ n ∈ d.weights P t, n ≤ reachBytes) : ∃ a : α, ok a ∧ Rel w (fun g => g < w.heap.size) noOwn (.agg (e a)) v := by
  obtain ⟨cs, rfl, _⟩ := WideShapes.okWide_struct ht hv
  obtain ⟨fuel, h⟩ := h
  obtain ⟨a, h1, h2⟩ := hd H enc w sp held fuel _ _ h hw
  exact ⟨a, h1, RC.agg h2⟩

theorem arg_one {α : Type} {e : α → DV} {ok : α → Prop} {H : Type} {enc : TypeId × Value → H} {w : World} {sp : Nat → Bool} {held : Bool} {v : Value} {d : DataW H} {ps : List MemPlace}
    (hd : Dec P t (fun a => [e a]) ok) (hv : v.cells = #[v]) (h : DataW.Trod enc P w 0 sp held t v d ps) (hw : ∀ n ∈ d.weights P t, n ≤ reachBytes) : ∃ a : α, ok a ∧ Rel w (fun g => g < w.heap.size) noOwn (e a) v := by
  obtain ⟨fuel, h⟩ := h
  rw [hv] at h
  obtain ⟨a, h1, h2⟩ := hd H enc w sp held fuel _ _ h hw
  exact ⟨a, h1, RC.single h2⟩
end
end Go.Sg
