/- A walk's small goals, said once: `refine And.intro obl ?_`. -/
import Derived.Test.YtnpokifaejcbeaaGreatDoorSgTac
set_option linter.unusedVariables false
namespace Go.Sg
theorem obl {p : Prop} (h : p := by first | omega | assumption | (simp only [List.length_append, List.length_cons, List.length_nil]; omega) | (intros; first | omega | assumption | (simp_all; done) | grind)) : p := h
end Go.Sg
