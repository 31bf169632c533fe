/- Runs. -/
import Derived.Test.YtdgbckchckaagaaGreatDoorP11
set_option linter.unusedSectionVars false
set_option linter.unusedVariables false
set_option linter.unusedSimpArgs false
namespace Go.Rv.C52
open Go.RowKit Go.Sg
theorem bLb:aUj e0 (kR Go.Proofs.Tryz.prog (fun _=>false) 20000 (o8 [] aAr) 200 e0.n0 (.inl e0.f) e0.l0 (sO e0.L0 .e) e0.n0)=true:=by kernel_rfl
theorem bNk:aUj e1 (kR Go.Proofs.Tryz.prog (fun _=>false) 20000 (o8 [e0] aAr) 200 e1.n0 (.inl e1.f) e1.l0 (sO e1.L0 .e) e1.n0)=true:=by kernel_rfl
end Go.Rv.C52
