/- Contract of Delay, where nothing is amiss. Printed by genw.py. -/
import Derived.Test.YtbndgcddihbhlaaSgB
import Derived.Test.YtbndgcddihbhlaaD24
import Derived.Test.YtbndgcddihbhlaaD5
set_option linter.unusedVariables false
set_option linter.unusedSimpArgs false
set_option maxRecDepth 20000
namespace Go.Sg
open Go.Proofs
def stD (st : List (List Int)) : Dr := fun i j => (st.getD i default).getD j default
structure StOk (tr : List Trip) (st : List (List Int)) : Prop where
  l : st.length = tr.length
  r : ∀ i, i < tr.length → (st.getD i default).length = (tr.getD i default).fStops.length
  b : ∀ i j, i < tr.length → j < (tr.getD i default).fStops.length → duN tr i j ≤ stD st i j ∧ stD st i j ≤ 2147483648
end Go.Sg
