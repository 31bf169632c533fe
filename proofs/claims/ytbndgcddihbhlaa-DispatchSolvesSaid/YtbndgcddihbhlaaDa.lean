/- How rows' slices of trips and of starts are read. -/
import Derived.Test.YtbndgcddihbhlaaSt
set_option linter.unusedVariables false
namespace Go.Sg
open Go.Proofs
theorem dec26 : Dec Try.prog 26 (fun l : List Trip => [encL 2 eTrip l]) (fun l => (∀ a ∈ l, okTrip a) ∧ l.length ≤ 140737488355328) := dec_slice Try.underlying26 (by kernel_rfl) (by decide) (of_decide_eq_true (by kernel_rfl)) dec42 (fun _ => rfl)
end Go.Sg
