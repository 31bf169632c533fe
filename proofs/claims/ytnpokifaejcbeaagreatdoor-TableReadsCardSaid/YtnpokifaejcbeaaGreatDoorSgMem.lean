/- What stores, new blocks and moved ownership do to the environment. -/
import Derived.Test.YtnpokifaejcbeaaGreatDoorSgOpsOk
import Derived.Laws.CopyRow
import Derived.Maps.AppendAt
set_option linter.unusedVariables false
set_option linter.unusedSimpArgs false
namespace Go.Sg
open Go.RowKit

theorem allK_mono {p q : Nat → Bool} (h : ∀ s, p s = true → q s = true) : ∀ d, allK p d = true → allK q d = true := by
  intro d
  refine DV.rec (motive_1 := fun d => allK p d = true → allK q d = true) (motive_2 := fun l => allKL p l = true → allKL q l = true) (motive_3 := fun _ => True)
    ?_ ?_ ?_ ?_ ?_ ?_ ?_ ?_ ?_ ?_ ?_ ?_ ?_ ?_ ?_ ?_ ?_ ?_ ?_ ?_ ?_ d
  all_goals (intros; simp_all [allK, allKL])

def killD (k : Nat) (d : DV) : DV := if allK (fun s => s != k) d = true then d else .any
/-- In a variable only the cells go that mention k. -/
def killS (k : Nat) (d : DV) : DV := if allK (fun s => s != k) d = true then d else match d with
  | .bx cs => .bx (cs.map (killD k))
  | _ => .any
theorem allKL_killD (p : Nat → Bool) (k : Nat) : ∀ cs : List DV, allKL p cs = true → allKL p (cs.map (killD k)) = true
  | [], _ => rfl
  | c :: cs, h => by
    simp only [allKL, Bool.and_eq_true, List.map_cons] at h ⊢
    refine ⟨?_, allKL_killD p k cs h.2⟩
    unfold killD; split
    · exact h.1
    · rfl
def kill (k : Nat) (ρ : Env) : Env := fun i => if i < 100000 then killS k (ρ i) else ρ i
theorem kill_apply (k : Nat) (ρ : Env) (i : Nat) : kill k ρ i = if i < 100000 then killS k (ρ i) else ρ i := rfl

def upd (A : Own) (k : Nat) (v : Option (Option Nat × Nat)) : Own := fun s => if s = k then v else A s
theorem upd_same (A : Own) (k : Nat) (v : Option (Option Nat × Nat)) : upd A k v k = v := if_pos rfl
theorem upd_ne (A : Own) {k s : Nat} (v : Option (Option Nat × Nat)) (h : s ≠ k) : upd A k v s = A s := if_neg h

section
variable {P : Program} {nt : Nat} {w w' : World} {I I' : Nat → Prop} {A A' : Own} {ρ : Env} {a : Act}

theorem SlotRel.reown {s k : Nat} {d : DV} {x : Value} (h : SlotRel w I A s d x) (hs : s ≠ k) (hA : ∀ t, t ≠ k → A' t = A t) : SlotRel w I A' s (killS k d) x := by
  unfold killS
  split
  · rename_i hk
    have hc : ∀ t, (fun s => s != k) t = true → A' t = A t := fun t ht => hA t (by simpa using ht)
    cases d with
    | bx cs => obtain ⟨g, c, h1, h2⟩ := h; exact ⟨g, c, (hA s hs).trans h1, h2⟩
    | row e z xs => obtain ⟨B, c, h1, h2⟩ := h; exact ⟨B, c, (hA s hs).trans h1, h2⟩
    | cond g y => exact ⟨fun hg => (h.1 hg).congrA _ (by simpa [allK] using hk) hc, h.2⟩
    | any => exact .any A' x
    | v y => exact Rel.congrA h _ hk hc
    | sl z n f => exact Rel.congrA h _ hk hc
    | agg cs => exact Rel.congrA h _ hk hc
    | tup cs => exact Rel.congrA h _ hk hc
    | dp cs => exact Rel.congrA h _ hk hc
    | bp t o => exact Rel.congrA h _ hk hc
    | own t n => exact Rel.congrA h _ hk hc
    | rp t z i o => exact Rel.congrA h _ hk hc
    | fn f b c => exact Rel.congrA h _ hk hc
    | iface t y => exact Rel.congrA h _ hk hc
    | mr t => exact Rel.congrA h _ hk hc
    | ez => exact Rel.congrA h _ hk hc
    | mo es => obtain ⟨g, c, h1, h2⟩ := h; exact ⟨g, c, (hA s hs).trans h1, h2⟩
  · split
    · obtain ⟨g, c, h1, h2⟩ := h; exact ⟨g, c, (hA s hs).trans h1, h2⟩
    · exact .any A' x

theorem OwnRel.reown {s k : Nat} {d : DV} (h : OwnRel w I A s d) (hs : s ≠ k) (hA : ∀ t, t ≠ k → A' t = A t) : OwnRel w I A' s (killS k d) := by
  unfold killS
  split
  · rename_i hk
    cases d with
    | bx cs =>
      obtain ⟨g, c, us, et, h1, h2, h3, h4, h5⟩ := h
      exact ⟨g, c, us, et, (hA s hs).trans h1, h2, h3, h4, fun j d u hd hu => (h5 j d u hd hu).congrA _ (allKL_get (by simpa [allK] using hk) hd) fun t ht => hA t (by simpa using ht)⟩
    | row e z xs => obtain ⟨B, c, h1, h2⟩ := h; exact ⟨B, c, (hA s hs).trans h1, h2⟩
    | mo es => obtain ⟨g, c, vs, cl, h1, h2, h3⟩ := h; exact ⟨g, c, vs, cl, (hA s hs).trans h1, h2, h3⟩
    | _ => trivial
  · split
    · obtain ⟨g, c, us, et, h1, h2, h3, h4, h5⟩ := h
      refine ⟨g, c, us, et, (hA s hs).trans h1, h2, by simpa using h3, h4, fun j d u hd hu => ?_⟩
      rw [List.getElem?_map, Option.map_eq_some_iff] at hd
      obtain ⟨d', hd', rfl⟩ := hd
      unfold killD
      split
      · rename_i hk'
        exact (h5 j d' u hd' hu).congrA _ hk' fun t ht => hA t (by simpa using ht)
      · exact .any A' u
    · trivial

theorem isOut_kill {k : Nat} {d : DV} (h : isOut d) : isOut (killS k d) := by
  unfold killS; split
  · exact h
  · split
    · exact allKL_killD _ k _ h
    · rfl

/-- A slot that is local is not mentioned by what is out. -/
theorem isOut_ne {k : Nat} {d : DV} (h : isOut d) (hk : k < 100000) : allK (fun s => s != k) d = true :=
  allK_mono (fun s hs => by simp at hs ⊢; omega) d h

theorem kill_eq {k : Nat} {ρ : Env} (hk : k < 100000) {i : Nat} (ho : 100000 ≤ i → isOut (ρ i)) : kill k ρ i = killS k (ρ i) := by
  unfold kill
  split
  · rfl
  · unfold killS
    rw [if_pos (isOut_ne (ho (by omega)) hk)]

theorem getD_put (a : Act) (d i : Nat) (x : Value) (hd : d < a.tmps.size) : (a.put (some d) x).tmps.getD i undef = if i = d then x else a.tmps.getD i undef := by
  simp only [Act.put, Array.getD_eq_getD_getElem?, Array.getElem?_setIfInBounds]
  by_cases h : d = i
  · subst h; simp [hd]
  · have h' : ¬ i = d := fun e => h e.symm
    simp [h, h']

/-- A value without ownership goes into a slot. -/
theorem Sim.put (hs : Sim nt w I A ρ a) {d : Nat} {v : DV} {x : Value} (hd : d < nt) (hr : SlotRel w I A d v x) (ho : OwnRel w I A d v) : Sim nt w I A (set ρ d v) (a.put (some d) x) where
  osim := ⟨fun s => by
      unfold set; split
      · rename_i h; rw [h]; exact ho
      · exact hs.osim.own s, hs.osim.inj, hs.osim.sep, hs.osim.imm⟩
  size := by simp [Act.put, hs.size]
  bound := hs.bound
  slot := fun i hi => by
    rw [getD_put a d i x (by rw [hs.size]; exact hd)]
    unfold set
    split
    · rename_i h; rw [h]; exact hr
    · exact hs.slot i hi
  out := fun s h => by
    unfold set
    rw [if_neg (by have := hs.bound; omega)]
    exact hs.out s h

/-- An owner's value changes hands only by name: slot d now owns block B. -/
theorem Sim.own (hs : Sim nt w I A ρ a) {d : Nat} (hd : d < nt) {B : Option Nat} {c : Nat} {v : DV} {x : Value}
    (hB : ∀ g, B = some g → g < w.heap.size ∧ ¬ I g ∧ ∀ s c', s ≠ d → A s ≠ some (some g, c'))
    (hr : SlotRel w I (upd A d (some (B, c))) d v x) (ho : OwnRel w I (upd A d (some (B, c))) d v) :
    Sim nt w I (upd A d (some (B, c))) (set (kill d ρ) d v) (a.put (some d) x) where
  osim := by
    have hA : ∀ t, t ≠ d → upd A d (some (B, c)) t = A t := fun t h => upd_ne A _ h
    refine ⟨fun s => ?_, fun s t g c1 c2 h1 h2 => ?_, fun s g c1 h1 => ?_, hs.osim.imm⟩
    · unfold set; split
      · rename_i h; rw [h]; exact ho
      · rename_i h; rw [kill_eq (by have := hs.bound; omega) (hs.out s)]; exact (hs.osim.own s).reown h hA
    · unfold upd at h1 h2
      split at h1 <;> split at h2
      · simp_all
      · rename_i e1 e2
        simp only [Option.some.injEq, Prod.mk.injEq] at h1
        exact absurd h2 ((hB g h1.1).2.2 t c2 e2)
      · rename_i e1 e2
        simp only [Option.some.injEq, Prod.mk.injEq] at h2
        exact absurd h1 ((hB g h2.1).2.2 s c1 e1)
      · exact hs.osim.inj s t g c1 c2 h1 h2
    · unfold upd at h1
      split at h1
      · simp only [Option.some.injEq, Prod.mk.injEq] at h1
        exact ⟨(hB g h1.1).1, (hB g h1.1).2.1⟩
      · exact hs.osim.sep s g c1 h1
  size := by simp [Act.put, hs.size]
  bound := hs.bound
  slot := fun i hi => by
    rw [getD_put a d i x (by rw [hs.size]; exact hd)]
    unfold set
    split
    · rename_i h; rw [h]; exact hr
    · rename_i h; rw [kill_eq (by have := hs.bound; omega) (hs.out i)]; exact (hs.slot i hi).reown h fun t ht => upd_ne A _ ht
  out := fun s h => by
    unfold set
    rw [if_neg (by have := hs.bound; omega), kill_eq (by have := hs.bound; omega) (hs.out s)]
    exact isOut_kill (hs.out s h)

/-- A slot gives up what it owns. -/
theorem Sim.disown (hs : Sim nt w I A ρ a) {d : Nat} (hd : d < 100000) : Sim nt w I (upd A d none) (set (kill d ρ) d .any) a where
  osim := by
    have hA : ∀ t, t ≠ d → upd A d none t = A t := fun t h => upd_ne A _ h
    refine ⟨fun s => ?_, fun s t g c1 c2 h1 h2 => ?_, fun s g c1 h1 => ?_, hs.osim.imm⟩
    · unfold set; split
      · trivial
      · rename_i h; rw [kill_eq hd (hs.out s)]; exact (hs.osim.own s).reown h hA
    · unfold upd at h1 h2
      split at h1 <;> split at h2 <;> first | cases h1 | cases h2 | skip
      exact hs.osim.inj s t g c1 c2 h1 h2
    · unfold upd at h1
      split at h1
      · cases h1
      · exact hs.osim.sep s g c1 h1
  size := hs.size
  bound := hs.bound
  slot := fun i hi => by
    unfold set
    split
    · exact .any _ _
    · rename_i h; rw [kill_eq hd (hs.out i)]; exact (hs.slot i hi).reown h fun t ht => upd_ne A _ ht
  out := fun s h => by
    unfold set
    rw [if_neg (by omega), kill_eq hd (hs.out s)]
    exact isOut_kill (hs.out s h)

/-- The world has only grown. -/
structure Grow (w : World) (I : Nat → Prop) (w' : World) (I' : Nat → Prop) : Prop where
  os : w'.os = w.os
  tape : w'.tape = w.tape ∧ w.drawn ≤ w'.drawn
  output : w'.output = w.output
  size : w.heap.size ≤ w'.heap.size
  heap : ∀ g, g < w.heap.size → w'.heap[g]? = w.heap[g]?
  imm : ∀ g, I g → I' g
  new : ∀ g, I' g → I g ∨ (w.heap.size ≤ g ∧ g < w'.heap.size)

theorem Grow.refl (w : World) (I : Nat → Prop) : Grow w I w I := ⟨rfl, ⟨rfl, Nat.le_refl _⟩, rfl, Nat.le_refl _, fun _ _ => rfl, fun _ h => h, fun _ h => .inl h⟩

theorem Grow.ext (h : Grow w I w' I') (hs : OSim w I A ρ) : Ext w I A w' I' A where
  os := h.os
  tape := h.tape
  output := h.output
  size := h.size
  imm := h.imm
  old := fun g hg hA => ⟨h.heap g hg, fun hi => (h.new g hi).resolve_right fun ⟨h1, _⟩ => by omega, hA⟩
  loc := fun s g c hA _ hs => ⟨s, c, hs, hA⟩
  outA := fun _ _ => rfl

theorem Grow.rel (h : Grow w I w' I') (hs : OSim w I A ρ) {B : Own} {d : DV} {x : Value} (hr : Rel w I B d x) : Rel w' I' B d x :=
  hr.mono fun g hg => ⟨h.imm g hg, fun o => cell_of_heap (h.heap g (hs.imm g hg)) o⟩

theorem Grow.slot (h : Grow w I w' I') (hs : OSim w I A ρ) {s : Nat} {d : DV} {x : Value} (hr : SlotRel w I A s d x) : SlotRel w' I' A s d x := by
  cases d with
  | bx cs => exact hr
  | row e z xs => exact hr
  | cond g y => exact ⟨fun hg => h.rel hs (hr.1 hg), hr.2⟩
  | any => exact .any A x
  | v y => exact h.rel hs hr
  | sl z n f => exact h.rel hs hr
  | agg cs => exact h.rel hs hr
  | tup cs => exact h.rel hs hr
  | dp cs => exact h.rel hs hr
  | bp t o => exact h.rel hs hr
  | own t n => exact h.rel hs hr
  | rp t z i o => exact h.rel hs hr
  | fn f b c => exact h.rel hs hr
  | iface t y => exact h.rel hs hr
  | mr t => exact h.rel hs hr
  | ez => exact h.rel hs hr
  | mo es => exact hr

theorem RowRel.keep {e : TypeId} {z : Nat} {xs : List (List DV)} {B : Option Nat} {c : Nat} (h : RowRel w I e z xs B c) (hb : ∀ g, B = some g → w'.heap[g]? = w.heap[g]?)
    (hr : ∀ d x, Rel w I noOwn d x → Rel w' I' noOwn d x) : RowRel w' I' e z xs B c := by
  cases B with
  | none => exact h
  | some g =>
    obtain ⟨us, h1, h2, h3, h4, h5⟩ := h
    exact ⟨us, (hb g rfl).trans h1, h2, h3, h4, fun i x hx => ⟨(h5 i x hx).1, fun j d u hd hu => ⟨((h5 i x hx).2 j d u hd hu).1, hr _ _ ((h5 i x hx).2 j d u hd hu).2⟩⟩⟩

theorem OwnRel.keep {s : Nat} {d : DV} (h : OwnRel w I A s d) (hb : ∀ g c, A s = some (some g, c) → w'.heap[g]? = w.heap[g]?)
    (hr : ∀ B d x, Rel w I B d x → Rel w' I' B d x) : OwnRel w' I' A s d := by
  cases d with
  | bx cs =>
    obtain ⟨g, c, us, et, h1, h2, h3, h4, h5⟩ := h
    exact ⟨g, c, us, et, h1, (hb g c h1).trans h2, h3, h4, fun j d u hd hu => hr _ _ _ (h5 j d u hd hu)⟩
  | row e z xs =>
    obtain ⟨B, c, h1, h2⟩ := h
    exact ⟨B, c, h1, h2.keep (fun g hg => hb g c (by rw [h1, hg])) fun d x => hr _ d x⟩
  | mo es =>
    obtain ⟨g, c, vs, cl, h1, h2, h3⟩ := h
    exact ⟨g, c, vs, cl, h1, (hb g c h1).trans h2, h3⟩
  | _ => trivial

theorem Grow.osim (h : Grow w I w' I') (hs : OSim w I A ρ) : OSim w' I' A ρ where
  own := fun s => (hs.own s).keep (fun g c hg => h.heap g (hs.sep s g c hg).1) fun B d x hr => h.rel hs hr
  inj := hs.inj
  sep := fun s g c hA => by
    obtain ⟨h1, h2⟩ := hs.sep s g c hA
    exact ⟨Nat.lt_of_lt_of_le h1 h.size, fun hi => (h.new g hi).elim h2 fun ⟨h3, _⟩ => by omega⟩
  imm := hs.imm.step (fun g hg => (h.new g hg).elim (fun h1 => Nat.lt_of_lt_of_le (hs.imm g h1) h.size) fun h1 => h1.2) fun g hg => ⟨h.imm g hg, h.heap g (hs.imm g hg)⟩

theorem Sim.grow (hs : Sim nt w I A ρ a) (h : Grow w I w' I') : Sim nt w' I' A ρ a where
  osim := h.osim hs.osim
  size := hs.size
  bound := hs.bound
  slot := fun i hi => h.slot hs.osim (hs.slot i hi)
  out := hs.out

theorem Grow.alloc (hs : OSim w I A ρ) (o : Obj) : Grow w I (w.alloc o) I :=
  ⟨rfl, ⟨rfl, Nat.le_refl _⟩, rfl, by simp, fun g hg => Below.heap_alloc w o g hg, fun _ h => h, fun _ h => .inl h⟩

/-- One owned block turns: key s's own. -/
theorem Sim.turn (hs : Sim nt w I A ρ a) {s g c : Nat} (hA : A s = some (some g, c)) {us : Array Value} {et : TypeId} {old : Array Value} (hg : w.heap[g]? = some (.cells old et (0, 0))) {v : DV}
    (hsl : ∀ x, SlotRel w I A s (ρ s) x → SlotRel w I A s v x) (ho : OwnRel (w.setRow g us) I A s v) (hout : 100000 ≤ s → isOut v) :
    Sim nt (w.setRow g us) I A (set ρ s v) a := by
  have hI := (hs.osim.sep s g c hA).2
  have hrel : ∀ B d x, Rel w I B d x → Rel (w.setRow g us) I B d x := fun B d x hr => hr.mono fun g' hg' => ⟨hg', fun o => cell_of_heap (setRow_other w g g' us (fun e => hI (e ▸ hg'))) o⟩
  have hslot : ∀ t d x, SlotRel w I A t d x → SlotRel (w.setRow g us) I A t d x := fun t d x hr => by
    cases d with
    | bx cs => exact hr
    | row e z xs => exact hr
    | cond g y => exact ⟨fun hg => hrel _ _ _ (hr.1 hg), hr.2⟩
    | any => exact .any A x
    | v y => exact hrel _ _ _ hr
    | sl z n f => exact hrel _ _ _ hr
    | agg cs => exact hrel _ _ _ hr
    | tup cs => exact hrel _ _ _ hr
    | dp cs => exact hrel _ _ _ hr
    | bp t o => exact hrel _ _ _ hr
    | own t n => exact hrel _ _ _ hr
    | rp t z i o => exact hrel _ _ _ hr
    | fn f b c => exact hrel _ _ _ hr
    | iface t y => exact hrel _ _ _ hr
    | mr t => exact hrel _ _ _ hr
    | ez => exact hrel _ _ _ hr
    | mo es => exact hr
  refine ⟨⟨fun t => ?_, hs.osim.inj, fun t g' c' h' => ?_, hs.osim.imm.step (fun g' h' => by rw [size_setRow]; exact hs.osim.imm g' h') fun g' h' => ⟨h', setRow_other w g g' us fun e => hI (e ▸ h')⟩⟩, hs.size, hs.bound, fun i hi => ?_, fun t ht => ?_⟩
  · unfold set; split
    · rename_i e; rw [e]; exact ho
    · rename_i e
      exact (hs.osim.own t).keep (fun g' c' h' => setRow_other w g g' us fun e' => e (hs.osim.inj t s g c' c (e' ▸ h') hA)) hrel
  · rw [size_setRow]; exact hs.osim.sep t g' c' h'
  · unfold set; split
    · rename_i e; rw [e] at hi ⊢; exact hslot s v _ (hsl _ (hs.slot s hi))
    · exact hslot i _ _ (hs.slot i hi)
  · unfold set; split
    · rename_i e; exact hout (e ▸ ht)
    · exact hs.out t ht

theorem Ext.turn {s g c : Nat} (hA : A s = some (some g, c)) (us : Array Value) : Ext w I A (w.setRow g us) I A where
  os := rfl
  tape := ⟨rfl, Nat.le_refl _⟩
  output := rfl
  size := by rw [size_setRow]; exact Nat.le_refl _
  imm := fun _ h => h
  old := fun g' _ h' => ⟨setRow_other w g g' us fun e => h' s c (e ▸ hA), fun h => h, h'⟩
  loc := fun s g c hA _ hs => ⟨s, c, hs, hA⟩
  outA := fun _ _ => rfl

end
end Go.Sg
