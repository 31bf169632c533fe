/- The example of the laws of tables: it gives true; run by the kernel over the own evaluator, with the package variables. -/
import Derived.Test.YtnpokifaejcbeaaGreatDoorRvB
import Derived.Test.YtnpokifaejcbeaaGreatDoorSgEnc
import Derived.Test.YtnpokifaejcbeaaGreatDoorProg
import Derived.KernelRfl
namespace Go.Sg
open Go.Rv
theorem alive_run : (match evFun Go.Proofs.Tryz.prog (fun _ => false) 3000 60 NG (.inl 10) [] (globH [0, 1, 2, 3, 4]) NG with | some (.bool b, _, _) => b | _ => false) = true := by kernel_rfl
theorem mixed_on : Go.Proofs.Tryz.prog.follows .mixedOrders = true := by kernel_rfl
theorem glob_ok : globOk [0, 1, 2, 3, 4] = true := by kernel_rfl
theorem alive_ok (O : Env) : PCall Go.Proofs.Tryz.prog O 10 [] (vb true) := by
  have h := alive_run
  split at h
  · next b h' n' he =>
    subst h
    exact pcall_runG _ glob_ok (evFun_ok mixed_on _ _ _ _ _ _ _ _ _ _ _ he (Nat.le_refl _)) rfl rfl rfl O
  · cases h
end Go.Sg
