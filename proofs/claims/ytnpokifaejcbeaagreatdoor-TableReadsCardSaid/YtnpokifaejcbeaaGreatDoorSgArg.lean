/- A row's arguments, opened by kinds. -/
import Derived.Test.YtnpokifaejcbeaaGreatDoorSgDec
set_option linter.unusedVariables false
set_option linter.unusedSimpArgs false
namespace Go.Sg
open Go.RowKit
section
variable {P : Program} {t : TypeId} {H : Type} {enc : TypeId × Value → H} {w : World} {r : Reach} {base : Nat} {sp : Nat → Bool} {held : Bool} {v : Value} {d : DataW H} {ps : List MemPlace} {α : Type} {ok : α → Prop}
theorem arg_slice {e : α → DV} {el : TypeId} (ht : P.underlying t = some (.slice el)) (hd : Dec P t (fun a => [e a]) ok) (hv : Value.okWide P w r base t v) (h : DataW.Trod enc P w 0 sp held t v d ps) (hw : ∀ n ∈ d.weights P t, n ≤ reachBytes) : ∃ a : α, ok a ∧ Rel w (fun g => g < w.heap.size) noOwn (e a) v := by
  obtain ⟨a, l, c, rfl⟩ := WideShapes.okWide_slice ht hv
  exact arg_one hd (by simp [Value.cells]) h hw
theorem arg_int {e : α → DV} {k : IntKind} (ht : P.underlying t = some (.int k)) (hd : Dec P t (fun a => [e a]) ok) (hv : Value.okWide P w r base t v) (h : DataW.Trod enc P w 0 sp held t v d ps) (hw : ∀ n ∈ d.weights P t, n ≤ reachBytes) : ∃ a : α, ok a ∧ Rel w (fun g => g < w.heap.size) noOwn (e a) v := by
  obtain ⟨n, rfl⟩ := WideShapes.okWide_int ht hv
  exact arg_one hd (by simp [Value.cells]) h hw
theorem arg_bool {e : α → DV} (ht : P.underlying t = some .bool) (hd : Dec P t (fun a => [e a]) ok) (hv : Value.okWide P w r base t v) (h : DataW.Trod enc P w 0 sp held t v d ps) (hw : ∀ n ∈ d.weights P t, n ≤ reachBytes) : ∃ a : α, ok a ∧ Rel w (fun g => g < w.heap.size) noOwn (e a) v := by
  obtain ⟨n, rfl⟩ := WideShapes.okWide_bool ht hv
  exact arg_one hd (by simp [Value.cells]) h hw
theorem arg_string {e : α → DV} (ht : P.underlying t = some .string) (hd : Dec P t (fun a => [e a]) ok) (hv : Value.okWide P w r base t v) (h : DataW.Trod enc P w 0 sp held t v d ps) (hw : ∀ n ∈ d.weights P t, n ≤ reachBytes) : ∃ a : α, ok a ∧ Rel w (fun g => g < w.heap.size) noOwn (e a) v := by
  obtain ⟨n, rfl⟩ := WideShapes.okWide_string ht hv
  exact arg_one hd (by simp [Value.cells]) h hw
end
end Go.Sg
