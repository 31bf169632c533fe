/- Words for checks over lists, place by place. -/
import Derived.Test.YtnpokifaejcbeaaGreatDoorSgUse
set_option linter.unusedVariables false
set_option linter.unusedSimpArgs false
namespace Go.Sg
attribute [go_sem] i64id
/-- The first i elements pass. -/
def allTo {α : Type} [Inhabited α] (f : α → Bool) (l : List α) (i : Nat) : Prop := ∀ j, j < i → f (l.getD j default) = true
section
variable {α : Type} [Inhabited α] {f : α → Bool} {l : List α} {i n : Nat}
theorem allTo_0 (f : α → Bool) (l : List α) : allTo f l 0 := fun j h => absurd h (Nat.not_lt_zero _)
theorem allTo_s (h : allTo f l i) (g : f (l.getD i default) = true) : allTo f l (i + 1) := fun j hj => by
  rcases Nat.lt_or_eq_of_le (Nat.le_of_lt_succ hj) with q | q
  · exact h j q
  · rw [q]; exact g
theorem getD_mem (h : i < l.length) : l.getD i default ∈ l := by rw [List.getD_eq_getElem?_getD, List.getElem?_eq_getElem h]; exact List.getElem_mem h
theorem mem_getD {x : α} (h : x ∈ l) : ∃ i, i < l.length ∧ l.getD i default = x := by
  obtain ⟨i, hi, rfl⟩ := List.mem_iff_getElem.1 h
  exact ⟨i, hi, by rw [List.getD_eq_getElem?_getD, List.getElem?_eq_getElem hi]; rfl⟩
theorem all_t (h : allTo f l i) (g : l.length ≤ i) : l.all f = true := by
  rw [List.all_eq_true]; intro x hx
  obtain ⟨j, hj, rfl⟩ := mem_getD hx
  exact h j (Nat.lt_of_lt_of_le hj g)
theorem all_f (h : i < l.length) (g : f (l.getD i default) = false) : l.all f = false := by
  rw [← Bool.not_eq_true, List.all_eq_true]; intro q; rw [q _ (getD_mem h)] at g; cases g
theorem all_at (h : l.all f = true) (g : i < l.length) : f (l.getD i default) = true := (List.all_eq_true.1 h) _ (getD_mem g)
/-- The first i numbers pass. -/
def rgTo (f : Nat → Bool) (i : Nat) : Prop := ∀ j, j < i → f j = true
theorem rgTo_0 (f : Nat → Bool) : rgTo f 0 := fun j h => absurd h (Nat.not_lt_zero _)
theorem rgTo_s {f : Nat → Bool} (h : rgTo f i) (g : f i = true) : rgTo f (i + 1) := fun j hj => by
  rcases Nat.lt_or_eq_of_le (Nat.le_of_lt_succ hj) with q | q
  · exact h j q
  · rw [q]; exact g
theorem rg_t {f : Nat → Bool} (h : rgTo f i) (g : n ≤ i) : (List.range n).all f = true := by
  rw [List.all_eq_true]; intro x hx; exact h x (Nat.lt_of_lt_of_le (List.mem_range.1 hx) g)
theorem rg_f {f : Nat → Bool} (h : i < n) (g : f i = false) : (List.range n).all f = false := by
  rw [← Bool.not_eq_true, List.all_eq_true]; intro q; rw [q _ (List.mem_range.2 h)] at g; cases g
theorem rg_at {f : Nat → Bool} (h : (List.range n).all f = true) (g : i < n) : f i = true := (List.all_eq_true.1 h) _ (List.mem_range.2 g)
end
end Go.Sg
