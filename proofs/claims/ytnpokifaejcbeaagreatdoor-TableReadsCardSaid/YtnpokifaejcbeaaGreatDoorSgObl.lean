/- A walk's small goals, said once: `refine And.intro obl ?_`. -/
import Derived.Test.YtnpokifaejcbeaaGreatDoorSgTac
set_option linter.unusedVariables false
/- How conditions are written plainly: the set of push_cast serves as a name for these. -/
attribute [push_cast] decide_eq_true_eq decide_eq_false_iff_not Bool.not_eq_true' Bool.not_eq_false' beq_iff_eq bne_iff_ne beq_eq_false_iff_ne bne_eq_false_iff_eq Bool.not_eq_true Bool.not_eq_false Int.not_lt Int.not_le Nat.not_lt Nat.not_le ne_eq Int.ofNat_inj Bool.and_eq_true Bool.or_eq_true Bool.and_eq_false_iff Bool.or_eq_false_iff Bool.not_eq_eq_eq_not Bool.not_true Bool.not_false
namespace Go.Sg
theorem obl {p : Prop} (h : p := by first | omega | assumption | (simp only [List.length_append, List.length_cons, List.length_nil]; omega) | (intros; first | omega | assumption | (simp_all; done) | grind)) : p := h
theorem dfl {p : Prop} (h : p := by first | assumption | omega | (simp only [List.length_append, List.length_cons, List.length_nil] at *; omega) | (simp_all; done)) : p := h
/-- A long region's operations, as one list. -/
theorem aw_big {P : Program} {nt id : Nat} {d : Bool} {l l' : List Oper} {Q : Exit → Env → Prop} {ρ : Env} (hl : l = l') (h : AW P nt (.region id l'.toArray d) Q ρ) : AW P nt (.region id l.toArray d) Q ρ := hl ▸ h
end Go.Sg
