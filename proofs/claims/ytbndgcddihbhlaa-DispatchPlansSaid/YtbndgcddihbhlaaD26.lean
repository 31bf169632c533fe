/- The laws DispatchPlans and DispatchOptimal. Printed by genw.py. -/
import Derived.Test.YtbndgcddihbhlaaSgB
import Derived.Test.YtbndgcddihbhlaaEx
set_option linter.unusedVariables false
set_option linter.unusedSimpArgs false
set_option maxRecDepth 20000
namespace Go.Sg
open Go.Proofs
set_option maxHeartbeats 4000000 in
theorem law49_DispatchPlans_ok (O : Env) (t : Table) (tr : List Trip) (hk : okTable t) (hq : ∀ x ∈ tr, okTrip x) : PCall Try.prog O 8 [.agg (eTable t), encTr tr] (vb true) := by
  refine pcall_of_aw Try.func8 rfl (by kernel_rfl) ?_
  refine aw_seq fun K0 hK0 => ?_
  refine aw_reg [0, 1] (by kernel_rfl) ?_
  simp (disch := omega) only [go_sem, seval]
  repeat refine And.intro obl ?_
  refine hK0 _ ?_; clear hK0
  refine aw_seq fun K1 hK1 => ?_
  refine aw_seq fun K2 hK2 => ?_
  refine aw_reg [1, 2] (by kernel_rfl) ?_
  simp (disch := omega) only [go_sem, seval]
  repeat refine And.intro obl ?_
  refine callG_of _ (law49_small_ok _ t tr 9 hk hq (by decide)) ?_
  simp (disch := omega) only [go_sem, seval]
  repeat refine And.intro obl ?_
  refine hK2 _ ?_; clear hK2
  refine aw_cond _ (by rfl) (rfl) (fun c0 => ?_) (fun c0 => ?_)
  · try simp only [push_cast] at c0
    refine aw_seq fun K3 hK3 => ?_
    refine aw_reg [] (by kernel_rfl) ?_
    simp (disch := omega) only [go_sem, seval]
    repeat refine And.intro obl ?_
    refine callG_of _ (alive2_ok _) ?_
    simp (disch := omega) only [go_sem, seval]
    repeat refine And.intro obl ?_
    refine hK3 _ ?_; clear hK3
    refine aw_ret ?_
    refine ret_tmp 4 rfl (by simp (disch := omega) only [go_sem, seval]) ?_
    exact Exp.is (by simp (disch := omega) only [go_sem, seval] <;> refine congrArg vb ?_ <;> (exact dfl)) rfl rfl
  · try simp only [push_cast] at c0
    have hs := (sm_of c0).1
    refine aw_skip ?_
    refine hK1 _ ?_; clear hK1
    refine aw_seq fun K4 hK4 => ?_
    refine aw_reg [1, 2] (by kernel_rfl) ?_
    simp (disch := omega) only [go_sem, seval]
    repeat refine And.intro obl ?_
    refine callG_exR (solve_ex _ t tr hs) ?_
    rintro O2 r2 ⟨rfl, sc, er, rfl, hS⟩
    simp (disch := omega) only [go_sem, seval]
    repeat refine And.intro obl ?_
    refine hK4 _ ?_; clear hK4
    refine aw_seq fun K5 hK5 => ?_
    refine aw_seq fun K6 hK6 => ?_
    refine aw_reg [1, 2, 5, 6] (by kernel_rfl) ?_
    simp (disch := omega) only [go_sem, seval]
    repeat refine And.intro obl ?_
    refine hK6 _ ?_; clear hK6
    refine aw_cond _ (by rfl) (rfl) (fun c1 => ?_) (fun c1 => ?_)
    · try simp only [push_cast] at c1
      obtain ⟨hne, rfl, rfl⟩ := solS_ne hS c1
      refine aw_seq fun K7 hK7 => ?_
      refine aw_reg [1, 2, 5, 6] (by kernel_rfl) ?_
      simp (disch := omega) only [go_sem, seval]
      repeat refine And.intro obl ?_
      refine callG_of _ (timetable_Check_ok _ t tr) ?_
      simp (disch := omega) only [go_sem, seval]
      repeat refine And.intro obl ?_
      refine callC_to (fun g0 => alive2_ok _) ?_ ?_ ?_
      · first | exact fun _ => trivial | simp
      · rfl
      simp (disch := omega) only [go_sem, seval]
      repeat refine And.intro obl ?_
      refine hK7 _ ?_; clear hK7
      refine aw_ret ?_
      refine ret_tmp 4 rfl (by simp (disch := omega) only [go_sem, seval]) ?_
      exact Exp.is (by simp (disch := omega) only [go_sem, seval] <;> refine congrArg vb ?_ <;> ((simp; exact ⟨rfl, rfl⟩))) rfl rfl
    · try simp only [push_cast] at c1
      obtain ⟨hc0, best, hfull, hmin, rfl⟩ := solS_0 hS (by simpa using c1)
      have hff := full_feas hc0 hfull
      have hco : coD tr (stD (scD tr best).fStarts) (enA tr) = (scD tr best).fCost := sc_cost
      have hnn := co_nn (ok_chk hc0) (fun i j hi hj => ((full_st hc0 hfull).b i j hi hj).1)
      refine aw_skip ?_
      refine hK5 _ ?_; clear hK5
      refine aw_seq fun K8 hK8 => ?_
      refine aw_reg [1, 2, 5] (by kernel_rfl) ?_
      simp (disch := omega) only [go_sem, seval]
      repeat refine And.intro obl ?_
      refine callG_of _ (timetable_Delay_ok _ tr (scD tr best).fStarts (ok_chk hc0) (full_st hc0 hfull)) ?_
      simp (disch := omega) only [go_sem, seval]
      repeat refine And.intro obl ?_
      refine hK8 _ ?_; clear hK8
      refine aw_seq fun K9 hK9 => ?_
      refine aw_reg [1, 2, 5, 7, 8] (by kernel_rfl) ?_
      simp (disch := omega) only [go_sem, seval]
      repeat refine And.intro obl ?_
      refine callC_to (fun g1 => dispatch_Feasible_ok _ t tr (scD tr best).fStarts hs) ?_ ?_ ?_
      · first | exact fun _ => trivial | simp
      · rfl
      simp (disch := omega) only [go_sem, seval]
      repeat refine And.intro obl ?_
      refine callC_to (fun g2 => alive2_ok _) ?_ ?_ ?_
      · first | exact fun _ => trivial | simp
      · rfl
      simp (disch := omega) only [go_sem, seval]
      repeat refine And.intro obl ?_
      refine hK9 _ ?_; clear hK9
      refine aw_ret ?_
      refine ret_tmp 4 rfl (by simp (disch := omega) only [go_sem, seval]) ?_
      exact Exp.is (by simp (disch := omega) only [go_sem, seval] <;> refine congrArg vb ?_ <;> ((simp; exact ⟨⟨hco, hnn⟩, hff⟩))) rfl rfl
set_option maxHeartbeats 4000000 in
theorem law49_DispatchOptimal_ok (O : Env) (t : Table) (tr : List Trip) (st : List (List Int)) (hk : okTable t) (hq : ∀ x ∈ tr, okTrip x) : PCall Try.prog O 7 [.agg (eTable t), encTr tr, encSt st] (vb true) := by
  refine pcall_of_aw Try.func7 rfl (by kernel_rfl) ?_
  refine aw_seq fun K0 hK0 => ?_
  refine aw_reg [0, 1, 2] (by kernel_rfl) ?_
  simp (disch := omega) only [go_sem, seval]
  repeat refine And.intro obl ?_
  refine hK0 _ ?_; clear hK0
  refine aw_seq fun K1 hK1 => ?_
  refine aw_seq fun K2 hK2 => ?_
  refine aw_reg [1, 2, 3] (by kernel_rfl) ?_
  simp (disch := omega) only [go_sem, seval]
  repeat refine And.intro obl ?_
  refine callG_of _ (law49_small_ok _ t tr 9 hk hq (by decide)) ?_
  simp (disch := omega) only [go_sem, seval]
  repeat refine And.intro obl ?_
  refine callC_to (fun g0 => dispatch_Feasible_ok _ t tr st (sm_of (by simp at g0; exact g0.1)).1) ?_ ?_ ?_
  · first | exact fun _ => trivial | simp
  · rfl
  simp (disch := omega) only [go_sem, seval]
  repeat refine And.intro obl ?_
  refine hK2 _ ?_; clear hK2
  refine aw_cond _ (by rfl) (rfl) (fun c0 => ?_) (fun c0 => ?_)
  · try simp only [push_cast] at c0
    refine aw_seq fun K3 hK3 => ?_
    refine aw_reg [] (by kernel_rfl) ?_
    simp (disch := omega) only [go_sem, seval]
    repeat refine And.intro obl ?_
    refine callG_of _ (alive2_ok _) ?_
    simp (disch := omega) only [go_sem, seval]
    repeat refine And.intro obl ?_
    refine hK3 _ ?_; clear hK3
    refine aw_ret ?_
    refine ret_tmp 6 rfl (by simp (disch := omega) only [go_sem, seval]) ?_
    exact Exp.is (by simp (disch := omega) only [go_sem, seval] <;> refine congrArg vb ?_ <;> (exact dfl)) rfl rfl
  · try simp only [push_cast] at c0
    have hs := (sm_of c0.1.1).1
    have hfe := c0.2
    obtain ⟨hc0, hso, _⟩ := feas_of hfe
    refine aw_skip ?_
    refine hK1 _ ?_; clear hK1
    refine aw_seq fun K4 hK4 => ?_
    refine aw_reg [1, 2, 3] (by kernel_rfl) ?_
    simp (disch := omega) only [go_sem, seval]
    repeat refine And.intro obl ?_
    refine callG_exR (solve_ex _ t tr hs) ?_
    rintro O2 r2 ⟨rfl, sc, er, rfl, hS⟩
    simp (disch := omega) only [go_sem, seval]
    repeat refine And.intro obl ?_
    refine hK4 _ ?_; clear hK4
    refine aw_seq fun K5 hK5 => ?_
    obtain ⟨rfl, best, hfull, hmin, rfl⟩ := solS_c hS hc0
    have hopt := opt_law hfe hmin
    refine aw_reg [1, 2, 7, 8] (by kernel_rfl) ?_
    simp (disch := omega) only [go_sem, seval]
    repeat refine And.intro obl ?_
    refine callG_of _ (timetable_Delay_ok _ tr st (ok_chk hc0) hso) ?_
    simp (disch := omega) only [go_sem, seval]
    repeat refine And.intro obl ?_
    refine hK5 _ ?_; clear hK5
    refine aw_seq fun K6 hK6 => ?_
    refine aw_reg [2, 7, 8, 9, 10] (by kernel_rfl) ?_
    simp (disch := omega) only [go_sem, seval]
    repeat refine And.intro obl ?_
    refine callC_to (fun g1 => dispatch_Better_ok _ { fStarts := st, fCost := coD tr (stD st) (enA tr) } (scD tr best)) ?_ ?_ ?_
    · first | exact fun _ => trivial | simp
    · rfl
    simp (disch := omega) only [go_sem, seval]
    repeat refine And.intro obl ?_
    refine callC_to (fun g2 => alive2_ok _) ?_ ?_ ?_
    · first | exact fun _ => trivial | simp
    · rfl
    simp (disch := omega) only [go_sem, seval]
    repeat refine And.intro obl ?_
    refine hK6 _ ?_; clear hK6
    refine aw_ret ?_
    refine ret_tmp 6 rfl (by simp (disch := omega) only [go_sem, seval]) ?_
    exact Exp.is (by simp (disch := omega) only [go_sem, seval] <;> refine congrArg vb ?_ <;> (exact dfl)) rfl rfl
end Go.Sg
