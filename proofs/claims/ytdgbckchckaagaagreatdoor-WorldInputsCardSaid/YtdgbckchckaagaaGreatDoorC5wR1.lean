/- Runs. -/
import Derived.Test.YtdgbckchckaagaaGreatDoorP11
set_option linter.unusedSectionVars false
set_option linter.unusedVariables false
set_option linter.unusedSimpArgs false
namespace Go.Rv.C52
open Go.RowKit Go.Sg
theorem bNr:aUj e2 (kR Go.Proofs.Tryz.prog (fun _=>false) 20000 (o8 [e0,e1] aAr) 200 e2.n0 (.inl e2.f) e2.l0 (sO e2.L0 .e) e2.n0)=true:=by kernel_rfl
end Go.Rv.C52
