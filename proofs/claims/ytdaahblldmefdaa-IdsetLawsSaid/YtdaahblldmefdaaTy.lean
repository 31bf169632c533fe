/- What the types of this translation say, each fact by the kernel; printed by a program of mine (gen_ty.py). -/
import Derived.Test.YtdaahblldmefdaaSgTac
import Derived.Test.YtdaahblldmefdaaProg
import Derived.KernelRfl
namespace Go.Sg
open Go.Proofs
theorem sl22 : slE Try.prog 22 = some (3, 1, 8) := by kernel_rfl
theorem ld3 : ldOf Try.prog 3 = some (none) := by kernel_rfl
theorem el22 : elOf Try.prog 22 = some (none, 1) := by kernel_rfl
theorem tk3 : tk Try.prog 3 = 4 := by kernel_rfl
theorem tk4 : tk Try.prog 4 = 3 := by kernel_rfl
theorem tk22 : tk Try.prog 22 = 2 := by kernel_rfl
theorem un3 : (Try.prog.underlying 3).isSome = true := by kernel_rfl
theorem ik38 : ikOf Try.prog 38 = some (.u64) := by kernel_rfl
theorem zc3 : zcOf Try.prog 3 = some ([.int .i64 0]) := by kernel_rfl
theorem sz3 : szOf Try.prog 3 = some (1) := by kernel_rfl
theorem hb8 : hasBody Try.prog 8 = true := by kernel_rfl
theorem hb9 : hasBody Try.prog 9 = true := by kernel_rfl
theorem hb10 : hasBody Try.prog 10 = true := by kernel_rfl
theorem hb11 : hasBody Try.prog 11 = true := by kernel_rfl
theorem hb12 : hasBody Try.prog 12 = true := by kernel_rfl
theorem hb13 : hasBody Try.prog 13 = true := by kernel_rfl
theorem hb14 : hasBody Try.prog 14 = true := by kernel_rfl
theorem hb15 : hasBody Try.prog 15 = true := by kernel_rfl
theorem hb16 : hasBody Try.prog 16 = true := by kernel_rfl
theorem hb17 : hasBody Try.prog 17 = true := by kernel_rfl
theorem hb18 : hasBody Try.prog 18 = true := by kernel_rfl
theorem hb19 : hasBody Try.prog 19 = true := by kernel_rfl
theorem hb20 : hasBody Try.prog 20 = true := by kernel_rfl
theorem hb21 : hasBody Try.prog 21 = true := by kernel_rfl
theorem hb22 : hasBody Try.prog 22 = true := by kernel_rfl
theorem hb23 : hasBody Try.prog 23 = true := by kernel_rfl
theorem hb24 : hasBody Try.prog 24 = true := by kernel_rfl
theorem hb25 : hasBody Try.prog 25 = true := by kernel_rfl
theorem hb26 : hasBody Try.prog 26 = true := by kernel_rfl
theorem hb27 : hasBody Try.prog 27 = true := by kernel_rfl
theorem hb28 : hasBody Try.prog 28 = true := by kernel_rfl
theorem hb29 : hasBody Try.prog 29 = true := by kernel_rfl
theorem hb30 : hasBody Try.prog 30 = true := by kernel_rfl
theorem hb31 : hasBody Try.prog 31 = true := by kernel_rfl
theorem hb32 : hasBody Try.prog 32 = true := by kernel_rfl
theorem hb33 : hasBody Try.prog 33 = true := by kernel_rfl
theorem hb34 : hasBody Try.prog 34 = true := by kernel_rfl
theorem hb35 : hasBody Try.prog 35 = true := by kernel_rfl
theorem hb36 : hasBody Try.prog 36 = true := by kernel_rfl
attribute [go_sem] sl22 ld3 el22 tk3 tk4 tk22 un3 ik38 zc3 sz3 hb8 hb9 hb10 hb11 hb12 hb13 hb14 hb15 hb16 hb17 hb18 hb19 hb20 hb21 hb22 hb23 hb24 hb25 hb26 hb27 hb28 hb29 hb30 hb31 hb32 hb33 hb34 hb35 hb36
theorem mixed : Try.prog.follows .mixedOrders = true := by kernel_rfl
end Go.Sg
