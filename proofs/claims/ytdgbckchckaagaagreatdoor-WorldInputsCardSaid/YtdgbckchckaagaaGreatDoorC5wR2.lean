/- Runs. -/
import Derived.Test.YtdgbckchckaagaaGreatDoorP11
set_option linter.unusedSectionVars false
set_option linter.unusedVariables false
set_option linter.unusedSimpArgs false
namespace Go.Rv.C52
open Go.RowKit Go.Sg
theorem bOh:aUj e3 (kR Go.Proofs.Tryz.prog (fun _=>false) 20000 (o8 [e0,e1,e2] aAr) 200 e3.n0 (.inl e3.f) e3.l0 (sO e3.L0 .e) e3.n0)=true:=by kernel_rfl
end Go.Rv.C52
