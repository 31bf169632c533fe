/- The example of the laws of autoroute: it gives true; run by the kernel over the own evaluator. -/
import Derived.Test.YtgjbmlffbpcdiaaGreatRvFun
import Derived.Test.YtgjbmlffbpcdiaaGreatSgEnc
import Derived.Test.YtgjbmlffbpcdiaaGreatProg
import Derived.KernelRfl
namespace Go.Sg
open Go.Rv
theorem alive_run : (match evFun Go.Proofs.Tryz.prog (fun _ => false) 3000 40 0 8 [] .e 0 with | some (.bool b, _, _) => b | _ => false) = true := by kernel_rfl
theorem mixed_on : Go.Proofs.Tryz.prog.follows .mixedOrders = true := by kernel_rfl
theorem alive_ok (O : Env) : PCall Go.Proofs.Tryz.prog O 8 [] (vb true) := by
  have h := alive_run
  split at h
  · next b h' n' he =>
    subst h
    exact pcall_run (evFun_ok mixed_on _ _ _ _ _ _ _ _ _ _ _ he (Nat.zero_le 0)) rfl rfl rfl O
  · cases h
end Go.Sg
