/- The example of the laws of dispatch: it gives true; run by the kernel over the own evaluator. -/
import Derived.Test.YtbndgcddihbhlaaRvFun
import Derived.Test.YtbndgcddihbhlaaSgEnc
import Derived.Test.YtbndgcddihbhlaaProg
import Derived.KernelRfl
namespace Go.Sg
open Go.Rv
theorem alive_run : (match evFun Go.Proofs.Try.prog (fun f => f == 48) 3000 40 0 (.inl 10) [] .e NG with | some (.bool b, _, _) => b | _ => false) = true := by kernel_rfl
theorem mixed_on : Go.Proofs.Try.prog.follows .mixedOrders = true := by kernel_rfl
theorem alive_ok (O : Env) : PCall Go.Proofs.Try.prog O 10 [] (vb true) := by
  have h := alive_run
  split at h
  · next b h' n' he =>
    subst h
    exact pcall_run (evFun_ok mixed_on _ _ _ _ _ _ _ _ _ _ _ he (Nat.zero_le _)) rfl rfl rfl O
  · cases h
end Go.Sg
