/- Contract of known. Printed by genw.py. -/
import Derived.Test.YtbndgcddihbhlaaSgB
import Derived.Test.YtbndgcddihbhlaaD18l0
set_option linter.unusedVariables false
set_option linter.unusedSimpArgs false
set_option maxRecDepth 400000
namespace Go.Sg
open Go.Proofs
theorem rpZ (n : Nat) : List.replicate n (List.map DV.v [Value.int .i64 0]) = (List.replicate n (0 : Int)).map eI := by rw [List.map_replicate]; rfl
theorem rp1 (n : Nat) : List.replicate n [DV.v (Value.int .i64 0)] = (List.replicate n (0 : Int)).map eI := rpZ n
theorem kO0 (ρ : Env) (rl : List Int) (kk : Nat) (be : Dr) : kO 0 ρ rl kk be = set (set (set ρ 90000 (.row 3 1 (rl.map eI))) 5 (.bx [.own 90000 kk])) 3 (.bx (drL be)) := rfl
theorem effF_cv {P : Program} {ρ : Env} {x : Operand} {args : Array Operand} {ts : Array TypeId} {dd : Option Nat} {K : Env → Prop} : effF P ρ (.call ⟨.value x, args, ts⟩) dd K = effG P ρ (.call ⟨.value x, args, ts⟩) dd K := by cases dd <;> rfl
theorem bld62 : bldOk Try.prog 62 = true := by kernel_rfl
theorem ord0 (tr : List Trip) : (fun _ => 0) = ordA tr ((List.replicate tr.length (0 : Int)).take 0) := by
  funext q; unfold ordA; rw [if_neg (by simp)]
theorem odr0 (tr : List Trip) (l : List Int) : Odr tr (l.take 0) := ⟨by simp, by simp⟩
set_option maxRecDepth 20000 in
set_option maxHeartbeats 8000000 in
theorem dispatch_problem_known_ok (O : Env) (tr : List Trip) (c : Cl) (ho : Ok tr) : ECall Try.prog O 24 [prV tr c] (fun O' r' => O' = O ∧ ∃ d, Full tr c d ∧ r' = .agg (drL d)) := by
  have hn := ho.n
  refine ecall_of_aw Try.func24 rfl (by kernel_rfl) ?_
  refine aw_seq fun K0 hK0 => ?_
  refine aw_reg [0] (by kernel_rfl) ?_
  simp (disch := omega) only [go_sem, seval, rpZ, rp1, kO0, Nat.reduceBNe, bld62, true_and, effF_cv]
  repeat refine And.intro obl ?_
  refine hK0 _ ?_; clear hK0
  refine aw_seq fun K1 hK1 => ?_
  refine aw_reg [1, 2] (by kernel_rfl) ?_
  simp (disch := omega) only [go_sem, seval, rpZ, rp1, kO0, Nat.reduceBNe, bld62, true_and, effF_cv]
  repeat refine And.intro obl ?_
  refine callG_exR (dispatch_problem_earliest_ok _ tr c ho) ?_
  rintro O2 r2 ⟨rfl, d0, hf0, rfl⟩
  simp (disch := omega) only [go_sem, seval, rpZ, rp1, kO0, Nat.reduceBNe, bld62, true_and, effF_cv]
  repeat refine And.intro obl ?_
  refine hK1 _ ?_; clear hK1
  refine aw_seq fun K2 hK2 => ?_
  refine aw_reg [1, 2, 3] (by kernel_rfl) ?_
  simp (disch := omega) only [go_sem, seval, rpZ, rp1, kO0, Nat.reduceBNe, bld62, true_and, effF_cv]
  repeat refine And.intro obl ?_
  refine hK2 _ ?_; clear hK2
  refine aw_seq fun K3 hK3 => ?_
  refine aw_frzB 1 rfl rfl rfl ?_
  refine aw_frzB 4 rfl rfl rfl ?_
  refine aw_weaken (Le.keepC [1, 2, 3, 4] _) ?_
  refine aw_region ?_
  refine effG_ok rfl (by kernel_rfl) (by kernel_rfl) ?_
  simp (disch := omega) only [go_sem, seval, rpZ, rp1, kO0, Nat.reduceBNe, bld62, true_and, effF_cv]
  repeat refine And.intro obl ?_
  refine ow_mkG (gh := 90000) (e := 3) (z := 1) (by_ := 8) (zs := [.int .i64 0]) (k := .i64) (k' := .i64) (n := 0) (c := (tr.length : Int)) rfl rfl rfl (by decide) (by decide) (by decide) (by kernel_rfl) (by simp (disch := omega) only [go_sem, seval, rpZ, rp1, kO0, Nat.reduceBNe, bld62, true_and, effF_cv]) rfl (by simp (disch := omega) only [go_sem, seval, rpZ, rp1, kO0, Nat.reduceBNe, bld62, true_and, effF_cv]) (by kernel_rfl) (by kernel_rfl) rfl (by omega) (by omega) (by omega) (by omega) ?_
  simp (disch := omega) only [go_sem, seval, rpZ, rp1, kO0, Nat.reduceBNe, bld62, true_and, effF_cv]
  repeat refine And.intro obl ?_
  refine effG_ok rfl (by kernel_rfl) (by kernel_rfl) ?_
  simp (disch := omega) only [go_sem, seval, rpZ, rp1, kO0, Nat.reduceBNe, bld62, true_and, effF_cv]
  repeat refine And.intro obl ?_
  refine effG_ok rfl (by kernel_rfl) (by kernel_rfl) ?_
  simp (disch := omega) only [go_sem, seval, rpZ, rp1, kO0, Nat.reduceBNe, bld62, true_and, effF_cv]
  repeat refine And.intro obl ?_
  repeat refine And.intro obl ?_
  refine hK3 _ ?_; clear hK3
  refine aw_seq fun K4 hK4 => ?_
  refine aw_reg [1, 2, 3, 4, 5, 90000] (by kernel_rfl) ?_
  simp (disch := omega) only [go_sem, seval, rpZ, rp1, kO0, Nat.reduceBNe, bld62, true_and, effF_cv]
  repeat refine And.intro obl ?_
  refine hK4 _ ?_; clear hK4
  refine aw_seq fun K5 hK5 => ?_
  refine aw_reg [1, 2, 3, 4, 5, 6, 90000] (by kernel_rfl) ?_
  simp (disch := omega) only [go_sem, seval, rpZ, rp1, kO0, Nat.reduceBNe, bld62, true_and, effF_cv]
  repeat refine And.intro obl ?_
  refine hK5 _ ?_; clear hK5
  refine aw_seq fun K6 hK6 => ?_
  refine aw_regI [1, 2, 3, 5, 6, 90000] [] [0, 1, 2, 3, 4] [4] mixed (by kernel_rfl) (fun q hq => ?_) (by kernel_rfl)
  cases hq
  simp (disch := omega) only [go_sem, seval, rpZ, rp1, kO0, Nat.reduceBNe, bld62, true_and, effF_cv]
  repeat refine And.intro obl ?_
  refine callD_to (dispatch_problem_begin_ok _ tr c ho) ?_ ?_
  · rfl
  simp (disch := omega) only [go_sem, seval, rpZ, rp1, kO0, Nat.reduceBNe, bld62, true_and, effF_cv]
  repeat refine And.intro obl ?_
  refine callG_exR (rest_0 _ tr c ho (List.replicate tr.length 0) d0 (bgD tr) (fun _ => 0) (by simp (disch := omega) only [go_sem, seval, rpZ, rp1, kO0, Nat.reduceBNe, bld62, true_and, effF_cv]) (by simp (disch := omega) only [go_sem, seval, rpZ, rp1, kO0, Nat.reduceBNe, bld62, true_and, effF_cv]) (by simp (disch := omega) only [go_sem, seval, rpZ, rp1, kO0, Nat.reduceBNe, bld62, true_and, effF_cv]) (by simp (disch := omega) only [go_sem, seval, rpZ, rp1, kO0, Nat.reduceBNe, bld62, true_and, effF_cv] <;> rfl) (by simp) (by omega) (odr0 tr _) (ord0 tr) .b hf0) ?_
  rintro O3 r3 ⟨rl2, be2, rfl, q1, q2, q3, rfl⟩
  simp (disch := omega) only [go_sem, seval, rpZ, rp1, kO0, Nat.reduceBNe, bld62, true_and, effF_cv]
  repeat refine And.intro obl ?_
  refine hK6 _ ?_; clear hK6
  refine aw_seq fun K7 hK7 => ?_
  refine aw_reg [2, 3] (by kernel_rfl) ?_
  simp (disch := omega) only [go_sem, seval, rpZ, rp1, kO0, Nat.reduceBNe, bld62, true_and, effF_cv]
  repeat refine And.intro obl ?_
  refine hK7 _ ?_; clear hK7
  refine aw_ret ?_
  refine ret_cellR 2 60 rfl (by simp (disch := omega) only [go_sem, seval, rpZ, rp1, kO0, Nat.reduceBNe, bld62, true_and, effF_cv]) (by simp (disch := omega) only [go_sem, seval, rpZ, rp1, kO0, Nat.reduceBNe, bld62, true_and, effF_cv]) (by simp (disch := omega) only [go_sem, seval, rpZ, rp1, kO0, Nat.reduceBNe, bld62, true_and, effF_cv]) (by simp (disch := omega) only [go_sem, seval, rpZ, rp1, kO0, Nat.reduceBNe, bld62, true_and, effF_cv]) (⟨be2, q3, rfl⟩)
end Go.Sg
