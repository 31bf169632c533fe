/- The reference's Feasible, the sizes that the laws bound, and the law DispatchFeasible. Printed by genw.py. -/
import Derived.Test.YtbndgcddihbhlaaSgB
import Derived.Test.YtbndgcddihbhlaaD4
set_option linter.unusedVariables false
set_option linter.unusedSimpArgs false
set_option maxRecDepth 8000
namespace Go.Sg
open Go.Proofs
def rtS (r : Route) : Bool := decide (r.fPath.length + r.fSections.length + r.fOverSections.length + r.fPoints.length + r.fOverPoints.length + r.fFlank.length ≤ 200)
def spS (tr : List Trip) : Nat → Nat
  | 0 => 0
  | n + 1 => spS tr n + (tr.getD n default).fStops.length
def tsB (x : Trip) : Bool := decide (x.fStops.length ≤ 20)
def lgB (tr : List Trip) (i : Nat) : Bool := decide (4 < tr.length) || (List.range i).any fun k => decide (4 < (tr.getD k default).fStops.length)
def smB (t : Table) (tr : List Trip) (n : Nat) : Bool := ((t.fRoutes.all rtS && decide (t.fRoutes.length ≤ 100 ∧ tr.length ≤ 20)) && tr.all tsB) && (lgB tr tr.length || decide (spS tr tr.length ≤ n))
theorem lg_s (tr : List Trip) (i : Nat) : lgB tr (i + 1) = (lgB tr i || decide (4 < (tr.getD i default).fStops.length)) := by
  unfold lgB; rw [List.range_succ, List.any_append]; simp [Bool.or_assoc]
theorem sp_le {tr : List Trip} : ∀ i, allTo tsB tr i → spS tr i ≤ 20 * i
  | 0, _ => by simp [spS]
  | i + 1, h => by
    have h1 := sp_le i fun j hj => h j (by omega)
    have h2 : (tr.getD i default).fStops.length ≤ 20 := of_decide_eq_true (p := (tr.getD i default).fStops.length ≤ 20) (h i (by omega))
    unfold spS; omega
theorem sm_of {t : Table} {tr : List Trip} {n : Nat} (h : smB t tr n = true) : SmT t ∧ t.fRoutes.length ≤ 100 ∧ tr.length ≤ 20 ∧ (∀ x ∈ tr, x.fStops.length ≤ 20) ∧ (lgB tr tr.length = true ∨ spS tr tr.length ≤ n) := by
  simp only [smB, Bool.and_eq_true, decide_eq_true_eq, List.all_eq_true, Bool.or_eq_true] at h
  obtain ⟨⟨⟨h1, h2⟩, h3⟩, h4⟩ := h
  refine ⟨fun r hr => ?_, h2.1, h2.2, fun x hx => of_decide_eq_true (h3 x hx), h4⟩
  have := of_decide_eq_true (h1 r hr)
  exact ⟨by omega, by omega, by omega, by omega, by omega⟩
theorem ok_rt {t : Table} (h : okTable t) {i : Nat} (hi : i < t.fRoutes.length) : okRoute (t.fRoutes.getD i default) := h.1.1 _ (getD_mem hi)
theorem ok_r6 {r : Route} (h : okRoute r) : r.fPath.length ≤ 140737488355328 ∧ r.fSections.length ≤ 140737488355328 ∧ r.fOverSections.length ≤ 140737488355328 ∧ r.fPoints.length ≤ 140737488355328 ∧ r.fOverPoints.length ≤ 140737488355328 ∧ r.fFlank.length ≤ 140737488355328 := by
  obtain ⟨_, _, _, h3, h4, h5, _, _, _, h9, h10, h11, _⟩ := h
  exact ⟨h3.2, h5.2, h10.2, h4.2, h9.2, h11.2⟩
theorem law49_small_ok (O : Env) (t : Table) (tr : List Trip) (lim : Nat) (hk : okTable t) (hq : ∀ x ∈ tr, okTrip x) (hm : lim ≤ 1000) : PCall Try.prog O 9 [.agg (eTable t), encTr tr, vi lim] (vb (smB t tr lim)) := by
  refine pcall_has 0 rfl (.agg (d := encRt t.fRoutes) (by simp [eTable]) (.sl _ _ _)) fun ht => ?_
  refine pcall_has 1 rfl (.sl _ _ _) fun hn => ?_
  refine pcall_of_aw Try.func9 rfl (by kernel_rfl) ?_
  refine aw_seq fun K0 hK0 => ?_
  refine aw_reg [0, 1, 2] (by kernel_rfl) ?_
  simp (disch := omega) only [go_sem, seval]
  repeat refine And.intro obl ?_
  refine hK0 _ ?_; clear hK0
  refine aw_seq fun K1 hK1 => ?_
  refine aw_seq fun K2 hK2 => ?_
  refine aw_reg [1, 2, 3] (by kernel_rfl) ?_
  simp (disch := omega) only [go_sem, seval]
  repeat refine And.intro obl ?_
  refine hK2 _ ?_; clear hK2
  refine aw_block ?_
  refine aw_loopK [1, 2, 3, 14, 15, 16] (fun n ρ => ∃ i, n = t.fRoutes.length - i ∧ (i ≤ t.fRoutes.length) ∧ (allTo rtS t.fRoutes i) ∧ ρ = mkE O [(1, encTr tr), (2, vi lim), (3, .bx (eTable t)), (14, encRt t.fRoutes), (15, vi (t.fRoutes.length : Nat)), (16, vi (i : Nat))]) _ ⟨0, rfl, ?_, ?_, ?_⟩ ?_
  · exact dfl
  · exact allTo_0 _ _
  · simp (disch := omega) only [go_sem, seval] <;> first | rfl | omega | simp | simp_all
  rintro n ρ ⟨i, rfl, l0_0, l0_1, rfl⟩ K3 hK3
  refine aw_seq fun K4 hK4 => ?_
  refine aw_reg [1, 2, 3, 13, 14, 15, 16] (by kernel_rfl) ?_
  simp (disch := omega) only [go_sem, seval]
  repeat refine And.intro obl ?_
  refine hK4 _ ?_; clear hK4
  refine aw_seq fun K5 hK5 => ?_
  refine aw_cond _ (by rfl) (rfl) (fun c0 => ?_) (fun c0 => ?_)
  · try simp only [push_cast] at c0
    refine aw_skip ?_
    refine hK5 _ ?_; clear hK5
    refine aw_seq fun K6 hK6 => ?_
    refine aw_block ?_
    refine aw_seq fun K7 hK7 => ?_
    refine aw_reg [1, 2, 3, 13, 14, 15, 16] (by kernel_rfl) ?_
    simp (disch := omega) only [go_sem, seval]
    repeat refine And.intro obl ?_
    refine hK7 _ ?_; clear hK7
    refine aw_seq fun K8 hK8 => ?_
    have h6 := ok_r6 (ok_rt hk c0)
    refine aw_reg [1, 2, 3, 8, 13, 14, 15, 16] (by kernel_rfl) ?_
    simp (disch := omega) only [go_sem, seval]
    repeat refine And.intro obl ?_
    refine hK8 _ ?_; clear hK8
    refine aw_cond _ (by rfl) (rfl) (fun c1 => ?_) (fun c1 => ?_)
    · try simp only [push_cast] at c1
      refine aw_seq fun K9 hK9 => ?_
      refine aw_reg [] (by kernel_rfl) ?_
      simp (disch := omega) only [go_sem, seval]
      repeat refine And.intro obl ?_
      refine hK9 _ ?_; clear hK9
      refine aw_ret ?_
      refine ret_tmp 6 rfl (by simp (disch := omega) only [go_sem, seval]) ?_
      exact Exp.is (by simp (disch := omega) only [go_sem, seval] <;> refine congrArg vb ?_ <;> (rw [smB, all_f c0 (decide_eq_false (by omega))]; rfl)) rfl rfl
    · try simp only [push_cast] at c1
      refine aw_skip ?_
      refine hK6 _ ?_; clear hK6
      refine aw_reg [1, 2, 3, 13, 14, 15, 16] (by kernel_rfl) ?_
      simp (disch := omega) only [go_sem, seval]
      repeat refine And.intro obl ?_
      refine hK3 _ _ ?_ ⟨i + 1, rfl, ?_, ?_, ?_⟩
      · exact dfl
      · exact dfl
      · exact allTo_s l0_1 (decide_eq_true (by omega))
      · simp (disch := omega) only [go_sem, seval] <;> first | rfl | omega | simp | simp_all
  · try simp only [push_cast] at c0
    refine aw_exit ?_
    refine hK1 _ ?_; clear hK1
    refine aw_seq fun K10 hK10 => ?_
    refine aw_seq fun K11 hK11 => ?_
    refine aw_reg [1, 2, 3] (by kernel_rfl) ?_
    simp (disch := omega) only [go_sem, seval]
    repeat refine And.intro obl ?_
    refine hK11 _ ?_; clear hK11
    refine aw_cond _ (by rfl) (rfl) (fun c2 => ?_) (fun c2 => ?_)
    · try simp only [push_cast] at c2
      refine aw_seq fun K12 hK12 => ?_
      refine aw_reg [] (by kernel_rfl) ?_
      simp (disch := omega) only [go_sem, seval]
      repeat refine And.intro obl ?_
      refine hK12 _ ?_; clear hK12
      refine aw_ret ?_
      refine ret_tmp 6 rfl (by simp (disch := omega) only [go_sem, seval]) ?_
      exact Exp.is (by simp (disch := omega) only [go_sem, seval] <;> refine congrArg vb ?_ <;> (rw [smB, decide_eq_false (by omega), Bool.and_false]; rfl)) rfl rfl
    · try simp only [push_cast] at c2
      refine aw_skip ?_
      refine hK10 _ ?_; clear hK10
      refine aw_seq fun K13 hK13 => ?_
      refine aw_reg [1, 2] (by kernel_rfl) ?_
      simp (disch := omega) only [go_sem, seval]
      repeat refine And.intro obl ?_
      refine hK13 _ ?_; clear hK13
      refine aw_seq fun K14 hK14 => ?_
      refine aw_seq fun K15 hK15 => ?_
      refine aw_reg [1, 2, 9, 10] (by kernel_rfl) ?_
      simp (disch := omega) only [go_sem, seval]
      repeat refine And.intro obl ?_
      refine hK15 _ ?_; clear hK15
      refine aw_block ?_
      refine aw_loopK [2, 9, 10, 57, 58, 59] (fun n ρ => ∃ i, n = tr.length - i ∧ (i ≤ tr.length) ∧ (allTo tsB tr i) ∧ ρ = mkE O [(2, vi lim), (9, vi (spS tr i : Nat)), (10, vb (lgB tr i)), (57, encTr tr), (58, vi (tr.length : Nat)), (59, vi (i : Nat))]) _ ⟨0, rfl, ?_, ?_, ?_⟩ ?_
      · exact dfl
      · exact allTo_0 _ _
      · simp (disch := omega) only [go_sem, seval] <;> simp [lgB, spS]
      rintro n ρ ⟨i, rfl, l1_0, l1_1, rfl⟩ K16 hK16
      refine aw_seq fun K17 hK17 => ?_
      refine aw_reg [1, 2, 9, 10, 57, 58, 59] (by kernel_rfl) ?_
      simp (disch := omega) only [go_sem, seval]
      repeat refine And.intro obl ?_
      refine hK17 _ ?_; clear hK17
      refine aw_seq fun K18 hK18 => ?_
      refine aw_cond _ (by rfl) (rfl) (fun c3 => ?_) (fun c3 => ?_)
      · try simp only [push_cast] at c3
        refine aw_skip ?_
        refine hK18 _ ?_; clear hK18
        refine aw_seq fun K19 hK19 => ?_
        refine aw_block ?_
        refine aw_seq fun K20 hK20 => ?_
        refine aw_reg [1, 2, 9, 10, 57, 58, 59] (by kernel_rfl) ?_
        simp (disch := omega) only [go_sem, seval]
        repeat refine And.intro obl ?_
        refine hK20 _ ?_; clear hK20
        refine aw_seq fun K21 hK21 => ?_
        have hq1 := (hq _ (getD_mem c3)).2.2
        have hsp := sp_le i l1_1
        refine aw_reg [1, 2, 9, 10, 12, 57, 58, 59] (by kernel_rfl) ?_
        simp (disch := omega) only [go_sem, seval]
        repeat refine And.intro obl ?_
        refine hK21 _ ?_; clear hK21
        refine aw_seq fun K22 hK22 => ?_
        refine aw_reg [1, 2, 9, 10, 12, 57, 58, 59] (by kernel_rfl) ?_
        simp (disch := omega) only [go_sem, seval]
        repeat refine And.intro obl ?_
        refine hK22 _ ?_; clear hK22
        refine aw_seq fun K23 hK23 => ?_
        refine aw_reg [1, 2, 9, 10, 12, 57, 58, 59] (by kernel_rfl) ?_
        simp (disch := omega) only [go_sem, seval]
        repeat refine And.intro obl ?_
        refine hK23 _ ?_; clear hK23
        refine aw_cond _ (by rfl) (rfl) (fun c4 => ?_) (fun c4 => ?_)
        · try simp only [push_cast] at c4
          refine aw_seq fun K24 hK24 => ?_
          refine aw_reg [] (by kernel_rfl) ?_
          simp (disch := omega) only [go_sem, seval]
          repeat refine And.intro obl ?_
          refine hK24 _ ?_; clear hK24
          refine aw_ret ?_
          refine ret_tmp 6 rfl (by simp (disch := omega) only [go_sem, seval]) ?_
          exact Exp.is (by simp (disch := omega) only [go_sem, seval] <;> refine congrArg vb ?_ <;> (rw [smB, all_f c3 (decide_eq_false (by omega)), Bool.and_false]; rfl)) rfl rfl
        · try simp only [push_cast] at c4
          refine aw_skip ?_
          refine hK19 _ ?_; clear hK19
          refine aw_reg [1, 2, 9, 10, 57, 58, 59] (by kernel_rfl) ?_
          simp (disch := omega) only [go_sem, seval]
          repeat refine And.intro obl ?_
          refine hK16 _ _ ?_ ⟨i + 1, rfl, ?_, ?_, ?_⟩
          · exact dfl
          · exact dfl
          · exact allTo_s l1_1 (decide_eq_true (by omega))
          · simp (disch := omega) only [go_sem, seval] <;> simp [lg_s, spS]
      · try simp only [push_cast] at c3
        refine aw_exit ?_
        refine hK14 _ ?_; clear hK14
        refine aw_seq fun K25 hK25 => ?_
        refine aw_reg [2, 9, 10] (by kernel_rfl) ?_
        simp (disch := omega) only [go_sem, seval]
        repeat refine And.intro obl ?_
        refine hK25 _ ?_; clear hK25
        refine aw_ret ?_
        refine ret_tmp 6 rfl (by simp (disch := omega) only [go_sem, seval]) ?_
        exact Exp.is (by simp (disch := omega) only [go_sem, seval] <;> refine congrArg vb ?_ <;> (rw [smB, all_t l0_1 (by omega), all_t l1_1 (by omega), decide_eq_true (p := t.fRoutes.length ≤ 100 ∧ tr.length ≤ 20) c2, show i = tr.length by omega]; simp)) rfl rfl
end Go.Sg
