/- The reference's search and Solve. Printed by genw.py. -/
import Derived.Test.YtbndgcddihbhlaaSgB
import Derived.Test.YtbndgcddihbhlaaD11
set_option linter.unusedVariables false
set_option linter.unusedSimpArgs false
set_option maxRecDepth 8000
namespace Go.Sg
open Go.Proofs
theorem outer_set (O : Env) (s : Nat) (X : DV) : outer (set O s X) = set (outer O) (s + 100000) (sh X) := by
  funext i
  rw [set_apply]
  by_cases h : i < 100000
  · rw [outer_lo _ h, outer_lo _ h, if_neg (by omega)]
  · obtain ⟨k, rfl⟩ : ∃ k, i = k + 100000 := ⟨i - 100000, by omega⟩
    rw [outer_hi, outer_hi, set_apply]
    by_cases h2 : k = s
    · rw [if_pos h2, if_pos (by omega)]
    · rw [if_neg h2, if_neg (by omega)]
theorem set_set (ρ : Env) (d : Nat) (x y : DV) : set (set ρ d x) d y = set ρ d y := by
  funext i; simp only [set_apply]; split <;> rfl
end Go.Sg
