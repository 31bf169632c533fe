/- Contracts of mayBegin and blocked. Printed by genw.py. -/
import Derived.Test.YtgjbmlffbpcdiaaGreatA2
set_option linter.unusedVariables false
set_option linter.unusedSimpArgs false
set_option maxRecDepth 8000
namespace Go.Sg
open Go.Proofs
def rtS (tr : List Trip) (i j : Nat) : Int := ((tr.getD i default).fStops.getD j default).fRoute
def stS (st : List (List Int)) (i j : Nat) : Int := (st.getD i default).getD j default
def eaB (st : List (List Int)) (i j k m : Nat) : Bool := decide (stS st k m < stS st i j) || (decide (stS st k m = stS st i j) && decide (k < i))
def badB (t : Table) (s : Inter) (tr : List Trip) (st : List (List Int)) (pr : List Int) (i j k m : Nat) : Bool := (decide (k ≠ i) && decide (atN pr k ≤ m)) && (eaB st i j k m && cfB t s (rtS tr k m) (rtS tr i j))
def blkB (t : Table) (s : Inter) (tr : List Trip) (st : List (List Int)) (pr : List Int) (i j : Nat) : Bool := (List.range tr.length).any fun k => (List.range (tr.getD k default).fStops.length).any fun m => badB t s tr st pr i j k m
def mayB (t : Table) (s : Inter) (tr : List Trip) (st : List (List Int)) (pr : List Int) (now : Int) (i j : Nat) : Bool := ((exB t s (rtS tr i j) && (stN s (rtS tr i j) == 0)) && decide (stS st i j ≤ now)) && !blkB t s tr st pr i j
theorem blk_t {t : Table} {s : Inter} {tr : List Trip} {st : List (List Int)} {pr : List Int} {i j : Nat} (k m : Nat) (h1 : k < tr.length) (h2 : m < (tr.getD k default).fStops.length) (h : badB t s tr st pr i j k m = true) : blkB t s tr st pr i j = true := by
  unfold blkB; rw [List.any_eq_true]; refine ⟨k, List.mem_range.2 h1, ?_⟩; rw [List.any_eq_true]; exact ⟨m, List.mem_range.2 h2, h⟩
theorem blk_f {t : Table} {s : Inter} {tr : List Trip} {st : List (List Int)} {pr : List Int} {i j : Nat} (h : ∀ k, k < tr.length → ∀ m, m < (tr.getD k default).fStops.length → badB t s tr st pr i j k m = false) : blkB t s tr st pr i j = false := by
  rw [← Bool.not_eq_true]; intro hb; unfold blkB at hb; rw [List.any_eq_true] at hb
  obtain ⟨k, hk, hb⟩ := hb; rw [List.any_eq_true] at hb
  obtain ⟨m, hm, hb⟩ := hb
  rw [h k (List.mem_range.1 hk) m (List.mem_range.1 hm)] at hb; cases hb
theorem blk_step {tr : List Trip} {F : Nat → Nat → Bool} {k : Nat} (h : ∀ k', k' < k → ∀ m, m < (tr.getD k' default).fStops.length → F k' m = false) (hk : ∀ m, m < (tr.getD k default).fStops.length → F k m = false) : ∀ k', k' < k + 1 → ∀ m, m < (tr.getD k' default).fStops.length → F k' m = false := by
  intro k' hk'; rcases Nat.lt_or_eq_of_le (Nat.le_of_lt_succ hk') with g | rfl
  · exact h k' g
  · exact hk
theorem bad_step {F : Nat → Bool} {m : Nat} (h : ∀ m', m' < m → F m' = false) (hk : F m = false) : ∀ m', m' < m + 1 → F m' = false := by
  intro k' hk'; rcases Nat.lt_or_eq_of_le (Nat.le_of_lt_succ hk') with g | rfl
  · exact h k' g
  · exact hk

theorem autoroute_agenda_mayBegin_ok (O : Env) (t : Table) (s : Inter) (tr : List Trip) (st : List (List Int)) (pr : List Int) (now : Int) (i j : Nat) (hs : SmT t) (hl : st.length = tr.length) (hf : ∀ k, k < tr.length → (st.getD k default).length = (tr.getD k default).fStops.length) (hb : tr.length ≤ 1000) (hb2 : ∀ k, (tr.getD k default).fStops.length ≤ 1000) (hi : i < tr.length) (hj : j < (tr.getD i default).fStops.length) : PCall Tryz.prog O 23 [.agg (eTable t ++ eInter s ++ [encTr tr, encSt st, encI pr, vi now]), vi (i : Nat), vi (j : Nat)] (vb (mayB t s tr st pr now i j)) := by
  -- (signalling/autoroute.agenda).mayBegin
  have hfi := hf i hi
  refine pcall_of_aw Tryz.func23 rfl (by kernel_rfl) ?_
  refine aw_seq fun K0 hK0 => ?_
  refine aw_reg [0, 1, 2] (by kernel_rfl) ?_   -- r0.0
  simp (disch := omega) only [go_sem, ↓reduceIte, Nat.reduceEqDiff, Nat.reduceLT, Nat.reduceLeDiff, Nat.reduceAdd, Nat.reduceSub, Nat.reduceMul, reduceCtorEq, Int.reduceToNat, Int.reduceNeg]
  repeat refine And.intro (by first | omega | assumption | (simp only [List.length_append, List.length_cons, List.length_nil]; omega) | (intros; first | omega | assumption | (simp_all; done) | grind)) ?_   -- r0.0
  refine hK0 _ ?_; clear hK0
  refine aw_seq fun K1 hK1 => ?_
  refine aw_regDc [1, 2, 3] [] mixed (by kernel_rfl) ?_   -- r1.1
  simp (disch := omega) only [go_sem, ↓reduceIte, Nat.reduceEqDiff, Nat.reduceLT, Nat.reduceLeDiff, Nat.reduceAdd, Nat.reduceSub, Nat.reduceMul, reduceCtorEq, Int.reduceToNat, Int.reduceNeg]
  repeat refine And.intro (by first | omega | assumption | (simp only [List.length_append, List.length_cons, List.length_nil]; omega) | (intros; first | omega | assumption | (simp_all; done) | grind)) ?_   -- r1.1
  refine hK1 _ ?_; clear hK1
  refine aw_seq fun K2 hK2 => ?_
  refine aw_seq fun K3 hK3 => ?_
  refine aw_reg [1, 3, 7, 8] (by kernel_rfl) ?_   -- r2.2
  simp (disch := omega) only [go_sem, ↓reduceIte, Nat.reduceEqDiff, Nat.reduceLT, Nat.reduceLeDiff, Nat.reduceAdd, Nat.reduceSub, Nat.reduceMul, reduceCtorEq, Int.reduceToNat, Int.reduceNeg]
  repeat refine And.intro (by first | omega | assumption | (simp only [List.length_append, List.length_cons, List.length_nil]; omega) | (intros; first | omega | assumption | (simp_all; done) | grind)) ?_   -- r2.2
  refine callG_of _ (autoroute_view_exists_ok _ t s ((tr.getD i default).fStops.getD j default).fRoute) ?_   -- r2.2#0
  simp (disch := omega) only [go_sem, ↓reduceIte, Nat.reduceEqDiff, Nat.reduceLT, Nat.reduceLeDiff, Nat.reduceAdd, Nat.reduceSub, Nat.reduceMul, reduceCtorEq, Int.reduceToNat, Int.reduceNeg]
  repeat refine And.intro (by first | omega | assumption | (simp only [List.length_append, List.length_cons, List.length_nil]; omega) | (intros; first | omega | assumption | (simp_all; done) | grind)) ?_   -- r2.2
  refine callC_to (fun g0 => autoroute_view_state_ok _ t s ((tr.getD i default).fStops.getD j default).fRoute (by simpa using g0)) ?_ ?_ ?_   -- r2.2#1
  · first | exact fun _ => trivial | simp
  · rfl
  simp (disch := omega) only [go_sem, ↓reduceIte, Nat.reduceEqDiff, Nat.reduceLT, Nat.reduceLeDiff, Nat.reduceAdd, Nat.reduceSub, Nat.reduceMul, reduceCtorEq, Int.reduceToNat, Int.reduceNeg]
  repeat refine And.intro (by first | omega | assumption | (simp only [List.length_append, List.length_cons, List.length_nil]; omega) | (intros; first | omega | assumption | (simp_all; done) | grind)) ?_   -- r2.2
  refine hK3 _ ?_; clear hK3
  refine aw_cond _ (by rfl) (rfl) (fun c0 => ?_) (fun c0 => ?_)   -- c0
  · try simp only [decide_eq_true_eq, decide_eq_false_iff_not, Bool.not_eq_true', Bool.not_eq_false', beq_iff_eq, bne_iff_ne, beq_eq_false_iff_ne, bne_eq_false_iff_eq, Bool.not_eq_true, Bool.not_eq_false, Int.not_lt, Int.not_le, Nat.not_lt, Nat.not_le, ne_eq, Int.ofNat_inj, Bool.and_eq_true, Bool.or_eq_true, Bool.and_eq_false_iff, Bool.or_eq_false_iff, Bool.not_eq_eq_eq_not, Bool.not_true, Bool.not_false] at c0   -- c0.t
    refine aw_seq fun K4 hK4 => ?_
    refine aw_reg [] (by kernel_rfl) ?_   -- r3.3
    simp (disch := omega) only [go_sem, ↓reduceIte, Nat.reduceEqDiff, Nat.reduceLT, Nat.reduceLeDiff, Nat.reduceAdd, Nat.reduceSub, Nat.reduceMul, reduceCtorEq, Int.reduceToNat, Int.reduceNeg]
    repeat refine And.intro (by first | omega | assumption | (simp only [List.length_append, List.length_cons, List.length_nil]; omega) | (intros; first | omega | assumption | (simp_all; done) | grind)) ?_   -- r3.3
    refine hK4 _ ?_; clear hK4
    refine aw_ret ?_
    refine ret_tmp 6 rfl (by simp (disch := omega) only [go_sem, ↓reduceIte, Nat.reduceEqDiff, Nat.reduceLT, Nat.reduceLeDiff, Nat.reduceAdd, Nat.reduceSub, Nat.reduceMul, reduceCtorEq, Int.reduceToNat, Int.reduceNeg]) ?_   -- ret0
    exact Exp.is (by simp (disch := omega) only [go_sem, ↓reduceIte, Nat.reduceEqDiff, Nat.reduceLT, Nat.reduceLeDiff, Nat.reduceAdd, Nat.reduceSub, Nat.reduceMul, reduceCtorEq, Int.reduceToNat, Int.reduceNeg] <;> refine congrArg vb ?_ <;> (simp only [mayB, rtS, stS]; grind)) rfl rfl
  · try simp only [decide_eq_true_eq, decide_eq_false_iff_not, Bool.not_eq_true', Bool.not_eq_false', beq_iff_eq, bne_iff_ne, beq_eq_false_iff_ne, bne_eq_false_iff_eq, Bool.not_eq_true, Bool.not_eq_false, Int.not_lt, Int.not_le, Nat.not_lt, Nat.not_le, ne_eq, Int.ofNat_inj, Bool.and_eq_true, Bool.or_eq_true, Bool.and_eq_false_iff, Bool.or_eq_false_iff, Bool.not_eq_eq_eq_not, Bool.not_true, Bool.not_false] at c0   -- c0.f
    refine aw_skip ?_
    refine hK2 _ ?_; clear hK2
    refine aw_seq fun K5 hK5 => ?_
    refine aw_seq fun K6 hK6 => ?_
    refine aw_reg [1, 3, 7, 8] (by kernel_rfl) ?_   -- r4.4
    simp (disch := omega) only [go_sem, ↓reduceIte, Nat.reduceEqDiff, Nat.reduceLT, Nat.reduceLeDiff, Nat.reduceAdd, Nat.reduceSub, Nat.reduceMul, reduceCtorEq, Int.reduceToNat, Int.reduceNeg]
    repeat refine And.intro (by first | omega | assumption | (simp only [List.length_append, List.length_cons, List.length_nil]; omega) | (intros; first | omega | assumption | (simp_all; done) | grind)) ?_   -- r4.4
    refine hK6 _ ?_; clear hK6
    refine aw_block ?_
    refine aw_loopK [1, 3, 7, 8, 51, 52, 53] (fun n ρ => ∃ k, n = tr.length - k ∧ (k ≤ tr.length) ∧ (∀ k', k' < k → ∀ m, m < (tr.getD k' default).fStops.length → badB t s tr st pr i j k' m = false) ∧ ρ = mkE O [(1, vi (i : Nat)), (3, .bx (eTable t ++ eInter s ++ [encTr tr, encSt st, encI pr, vi now])), (7, vi ((tr.getD i default).fStops.getD j default).fRoute), (8, vi ((st.getD i default).getD j default)), (51, encTr tr), (52, vi (tr.length : Nat)), (53, vi (k : Nat))]) _ ⟨0, rfl, ?_, ?_, ?_⟩ ?_   -- L0
    · first | assumption | omega | (simp only [List.length_append, List.length_cons, List.length_nil] at *; omega) | (simp_all; done)   -- L0.init.inv0
    · intro k hk; omega   -- L0.init.inv1
    · simp (disch := omega) only [go_sem, ↓reduceIte, Nat.reduceEqDiff, Nat.reduceLT, Nat.reduceLeDiff, Nat.reduceAdd, Nat.reduceSub, Nat.reduceMul, reduceCtorEq, Int.reduceToNat, Int.reduceNeg] <;> first | rfl | omega | simp | simp_all   -- L0.init.env
    rintro n ρ ⟨k, rfl, l0_0, l0_1, rfl⟩ K7 hK7
    refine aw_seq fun K8 hK8 => ?_
    refine aw_reg [1, 3, 7, 8, 50, 51, 52, 53] (by kernel_rfl) ?_   -- r5.5
    simp (disch := omega) only [go_sem, ↓reduceIte, Nat.reduceEqDiff, Nat.reduceLT, Nat.reduceLeDiff, Nat.reduceAdd, Nat.reduceSub, Nat.reduceMul, reduceCtorEq, Int.reduceToNat, Int.reduceNeg]
    repeat refine And.intro (by first | omega | assumption | (simp only [List.length_append, List.length_cons, List.length_nil]; omega) | (intros; first | omega | assumption | (simp_all; done) | grind)) ?_   -- r5.5
    refine hK8 _ ?_; clear hK8
    refine aw_seq fun K9 hK9 => ?_
    refine aw_cond _ (by rfl) (rfl) (fun c1 => ?_) (fun c1 => ?_)   -- c1
    · try simp only [decide_eq_true_eq, decide_eq_false_iff_not, Bool.not_eq_true', Bool.not_eq_false', beq_iff_eq, bne_iff_ne, beq_eq_false_iff_ne, bne_eq_false_iff_eq, Bool.not_eq_true, Bool.not_eq_false, Int.not_lt, Int.not_le, Nat.not_lt, Nat.not_le, ne_eq, Int.ofNat_inj, Bool.and_eq_true, Bool.or_eq_true, Bool.and_eq_false_iff, Bool.or_eq_false_iff, Bool.not_eq_eq_eq_not, Bool.not_true, Bool.not_false] at c1   -- c1.t
      refine aw_skip ?_
      refine hK9 _ ?_; clear hK9
      refine aw_seq fun K10 hK10 => ?_
      refine aw_block ?_
      refine aw_seq fun K11 hK11 => ?_
      refine aw_reg [1, 3, 7, 8, 50, 51, 52, 53] (by kernel_rfl) ?_   -- r6.6
      simp (disch := omega) only [go_sem, ↓reduceIte, Nat.reduceEqDiff, Nat.reduceLT, Nat.reduceLeDiff, Nat.reduceAdd, Nat.reduceSub, Nat.reduceMul, reduceCtorEq, Int.reduceToNat, Int.reduceNeg]
      repeat refine And.intro (by first | omega | assumption | (simp only [List.length_append, List.length_cons, List.length_nil]; omega) | (intros; first | omega | assumption | (simp_all; done) | grind)) ?_   -- r6.6
      refine hK11 _ ?_; clear hK11
      refine aw_seq fun K12 hK12 => ?_
      refine aw_seq fun K13 hK13 => ?_
      refine aw_reg [1, 3, 7, 8, 9, 10, 50, 51, 52, 53] (by kernel_rfl) ?_   -- r7.7
      simp (disch := omega) only [go_sem, ↓reduceIte, Nat.reduceEqDiff, Nat.reduceLT, Nat.reduceLeDiff, Nat.reduceAdd, Nat.reduceSub, Nat.reduceMul, reduceCtorEq, Int.reduceToNat, Int.reduceNeg]
      repeat refine And.intro (by first | omega | assumption | (simp only [List.length_append, List.length_cons, List.length_nil]; omega) | (intros; first | omega | assumption | (simp_all; done) | grind)) ?_   -- r7.7
      refine hK13 _ ?_; clear hK13
      refine aw_cond _ (by rfl) (rfl) (fun c2 => ?_) (fun c2 => ?_)   -- c2
      · try simp only [decide_eq_true_eq, decide_eq_false_iff_not, Bool.not_eq_true', Bool.not_eq_false', beq_iff_eq, bne_iff_ne, beq_eq_false_iff_ne, bne_eq_false_iff_eq, Bool.not_eq_true, Bool.not_eq_false, Int.not_lt, Int.not_le, Nat.not_lt, Nat.not_le, ne_eq, Int.ofNat_inj, Bool.and_eq_true, Bool.or_eq_true, Bool.and_eq_false_iff, Bool.or_eq_false_iff, Bool.not_eq_eq_eq_not, Bool.not_true, Bool.not_false] at c2   -- c2.t
        refine aw_exit ?_
        refine hK10 _ ?_; clear hK10
        refine aw_reg [1, 3, 7, 8, 50, 51, 52, 53] (by kernel_rfl) ?_   -- r15.8
        simp (disch := omega) only [go_sem, ↓reduceIte, Nat.reduceEqDiff, Nat.reduceLT, Nat.reduceLeDiff, Nat.reduceAdd, Nat.reduceSub, Nat.reduceMul, reduceCtorEq, Int.reduceToNat, Int.reduceNeg]
        repeat refine And.intro (by first | omega | assumption | (simp only [List.length_append, List.length_cons, List.length_nil]; omega) | (intros; first | omega | assumption | (simp_all; done) | grind)) ?_   -- r15.8
        refine hK7 _ _ ?_ ⟨k + 1, rfl, ?_, ?_, ?_⟩   -- L0.0
        · first | assumption | omega | (simp only [List.length_append, List.length_cons, List.length_nil] at *; omega) | (simp_all; done)   -- L0.0.meas
        · first | assumption | omega | (simp only [List.length_append, List.length_cons, List.length_nil] at *; omega) | (simp_all; done)   -- L0.0.inv0
        · refine blk_step l0_1 ?_   -- L0.0.inv1
          intro m hm; simp [badB]; omega
        · simp (disch := omega) only [go_sem, ↓reduceIte, Nat.reduceEqDiff, Nat.reduceLT, Nat.reduceLeDiff, Nat.reduceAdd, Nat.reduceSub, Nat.reduceMul, reduceCtorEq, Int.reduceToNat, Int.reduceNeg] <;> first | rfl | omega | simp | simp_all   -- L0.0.env
      · try simp only [decide_eq_true_eq, decide_eq_false_iff_not, Bool.not_eq_true', Bool.not_eq_false', beq_iff_eq, bne_iff_ne, beq_eq_false_iff_ne, bne_eq_false_iff_eq, Bool.not_eq_true, Bool.not_eq_false, Int.not_lt, Int.not_le, Nat.not_lt, Nat.not_le, ne_eq, Int.ofNat_inj, Bool.and_eq_true, Bool.or_eq_true, Bool.and_eq_false_iff, Bool.or_eq_false_iff, Bool.not_eq_eq_eq_not, Bool.not_true, Bool.not_false] at c2   -- c2.f
        refine aw_skip ?_
        refine hK12 _ ?_; clear hK12
        refine aw_seq fun K14 hK14 => ?_
        refine aw_reg [1, 3, 7, 8, 9, 10, 50, 51, 52, 53] (by kernel_rfl) ?_   -- r8.9
        simp (disch := omega) only [go_sem, ↓reduceIte, Nat.reduceEqDiff, Nat.reduceLT, Nat.reduceLeDiff, Nat.reduceAdd, Nat.reduceSub, Nat.reduceMul, reduceCtorEq, Int.reduceToNat, Int.reduceNeg]
        repeat refine And.intro (by first | omega | assumption | (simp only [List.length_append, List.length_cons, List.length_nil]; omega) | (intros; first | omega | assumption | (simp_all; done) | grind)) ?_   -- r8.9
        refine callG_of _ (autoroute_done_ok _ pr k) ?_   -- r8.9#0
        simp (disch := omega) only [go_sem, ↓reduceIte, Nat.reduceEqDiff, Nat.reduceLT, Nat.reduceLeDiff, Nat.reduceAdd, Nat.reduceSub, Nat.reduceMul, reduceCtorEq, Int.reduceToNat, Int.reduceNeg]
        repeat refine And.intro (by first | omega | assumption | (simp only [List.length_append, List.length_cons, List.length_nil]; omega) | (intros; first | omega | assumption | (simp_all; done) | grind)) ?_   -- r8.9
        refine hK14 _ ?_; clear hK14
        refine aw_block ?_
        refine aw_loopK [1, 3, 7, 8, 51, 52, 53, 9, 10, 11] (fun n ρ => ∃ m, n = (tr.getD k default).fStops.length - m ∧ (atN pr k ≤ m) ∧ (∀ m', m' < m → badB t s tr st pr i j k m' = false) ∧ ρ = mkE O [(1, vi (i : Nat)), (3, .bx (eTable t ++ eInter s ++ [encTr tr, encSt st, encI pr, vi now])), (7, vi ((tr.getD i default).fStops.getD j default).fRoute), (8, vi ((st.getD i default).getD j default)), (51, encTr tr), (52, vi (tr.length : Nat)), (53, vi (k : Nat)), (9, vi (k : Nat)), (10, .bx (eTrip (tr.getD k default))), (11, vi (m : Nat))]) _ ⟨atN pr k, rfl, ?_, ?_, ?_⟩ ?_   -- L1
        · first | assumption | omega | (simp only [List.length_append, List.length_cons, List.length_nil] at *; omega) | (simp_all; done)   -- L1.init.inv0
        · intro m hm; simp only [badB]; rw [decide_eq_false (by omega : ¬ atN pr k ≤ m)]; simp   -- L1.init.inv1
        · simp (disch := omega) only [go_sem, ↓reduceIte, Nat.reduceEqDiff, Nat.reduceLT, Nat.reduceLeDiff, Nat.reduceAdd, Nat.reduceSub, Nat.reduceMul, reduceCtorEq, Int.reduceToNat, Int.reduceNeg] <;> first | rfl | omega | simp | simp_all   -- L1.init.env
        rintro n ρ ⟨m, rfl, l1_0, l1_1, rfl⟩ K15 hK15
        have hb3 := hb2 k
        have hfk := hf k (by omega)
        refine aw_seq fun K16 hK16 => ?_
        refine aw_seq fun K17 hK17 => ?_
        refine aw_reg [1, 3, 7, 8, 9, 10, 11, 50, 51, 52, 53] (by kernel_rfl) ?_   -- r9.10
        simp (disch := omega) only [go_sem, ↓reduceIte, Nat.reduceEqDiff, Nat.reduceLT, Nat.reduceLeDiff, Nat.reduceAdd, Nat.reduceSub, Nat.reduceMul, reduceCtorEq, Int.reduceToNat, Int.reduceNeg]
        repeat refine And.intro (by first | omega | assumption | (simp only [List.length_append, List.length_cons, List.length_nil]; omega) | (intros; first | omega | assumption | (simp_all; done) | grind)) ?_   -- r9.10
        refine hK17 _ ?_; clear hK17
        refine aw_cond _ (by rfl) (rfl) (fun c3 => ?_) (fun c3 => ?_)   -- c3
        · try simp only [decide_eq_true_eq, decide_eq_false_iff_not, Bool.not_eq_true', Bool.not_eq_false', beq_iff_eq, bne_iff_ne, beq_eq_false_iff_ne, bne_eq_false_iff_eq, Bool.not_eq_true, Bool.not_eq_false, Int.not_lt, Int.not_le, Nat.not_lt, Nat.not_le, ne_eq, Int.ofNat_inj, Bool.and_eq_true, Bool.or_eq_true, Bool.and_eq_false_iff, Bool.or_eq_false_iff, Bool.not_eq_eq_eq_not, Bool.not_true, Bool.not_false] at c3   -- c3.t
          refine aw_skip ?_
          refine hK16 _ ?_; clear hK16
          refine aw_seq fun K18 hK18 => ?_
          refine aw_block ?_
          refine aw_seq fun K19 hK19 => ?_
          refine aw_reg [1, 3, 7, 8, 9, 10, 11, 50, 51, 52, 53] (by kernel_rfl) ?_   -- r11.11
          simp (disch := omega) only [go_sem, ↓reduceIte, Nat.reduceEqDiff, Nat.reduceLT, Nat.reduceLeDiff, Nat.reduceAdd, Nat.reduceSub, Nat.reduceMul, reduceCtorEq, Int.reduceToNat, Int.reduceNeg]
          repeat refine And.intro (by first | omega | assumption | (simp only [List.length_append, List.length_cons, List.length_nil]; omega) | (intros; first | omega | assumption | (simp_all; done) | grind)) ?_   -- r11.11
          refine hK19 _ ?_; clear hK19
          refine aw_seq fun K20 hK20 => ?_
          refine aw_reg [1, 3, 7, 8, 9, 10, 11, 12, 50, 51, 52, 53] (by kernel_rfl) ?_   -- r12.12
          simp (disch := omega) only [go_sem, ↓reduceIte, Nat.reduceEqDiff, Nat.reduceLT, Nat.reduceLeDiff, Nat.reduceAdd, Nat.reduceSub, Nat.reduceMul, reduceCtorEq, Int.reduceToNat, Int.reduceNeg]
          repeat refine And.intro (by first | omega | assumption | (simp only [List.length_append, List.length_cons, List.length_nil]; omega) | (intros; first | omega | assumption | (simp_all; done) | grind)) ?_   -- r12.12
          refine hK20 _ ?_; clear hK20
          refine aw_seq fun K21 hK21 => ?_
          refine aw_regDc [1, 3, 7, 8, 9, 10, 11, 13, 50, 51, 52, 53] [] mixed (by kernel_rfl) ?_   -- r13.13
          simp (disch := omega) only [go_sem, ↓reduceIte, Nat.reduceEqDiff, Nat.reduceLT, Nat.reduceLeDiff, Nat.reduceAdd, Nat.reduceSub, Nat.reduceMul, reduceCtorEq, Int.reduceToNat, Int.reduceNeg]
          repeat refine And.intro (by first | omega | assumption | (simp only [List.length_append, List.length_cons, List.length_nil]; omega) | (intros; first | omega | assumption | (simp_all; done) | grind)) ?_   -- r13.13
          refine callC_to (fun g1 => autoroute_view_conflict_ok _ t s _ ((tr.getD i default).fStops.getD j default).fRoute hs) ?_ ?_ ?_   -- r13.13#0
          · first | exact fun _ => trivial | simp
          · rfl
          simp (disch := omega) only [go_sem, ↓reduceIte, Nat.reduceEqDiff, Nat.reduceLT, Nat.reduceLeDiff, Nat.reduceAdd, Nat.reduceSub, Nat.reduceMul, reduceCtorEq, Int.reduceToNat, Int.reduceNeg]
          repeat refine And.intro (by first | omega | assumption | (simp only [List.length_append, List.length_cons, List.length_nil]; omega) | (intros; first | omega | assumption | (simp_all; done) | grind)) ?_   -- r13.13
          refine hK21 _ ?_; clear hK21
          refine aw_cond _ (by rfl) (rfl) (fun c4 => ?_) (fun c4 => ?_)   -- c4
          · try simp only [decide_eq_true_eq, decide_eq_false_iff_not, Bool.not_eq_true', Bool.not_eq_false', beq_iff_eq, bne_iff_ne, beq_eq_false_iff_ne, bne_eq_false_iff_eq, Bool.not_eq_true, Bool.not_eq_false, Int.not_lt, Int.not_le, Nat.not_lt, Nat.not_le, ne_eq, Int.ofNat_inj, Bool.and_eq_true, Bool.or_eq_true, Bool.and_eq_false_iff, Bool.or_eq_false_iff, Bool.not_eq_eq_eq_not, Bool.not_true, Bool.not_false] at c4   -- c4.t
            refine aw_seq fun K22 hK22 => ?_
            refine aw_reg [] (by kernel_rfl) ?_   -- r14.14
            simp (disch := omega) only [go_sem, ↓reduceIte, Nat.reduceEqDiff, Nat.reduceLT, Nat.reduceLeDiff, Nat.reduceAdd, Nat.reduceSub, Nat.reduceMul, reduceCtorEq, Int.reduceToNat, Int.reduceNeg]
            repeat refine And.intro (by first | omega | assumption | (simp only [List.length_append, List.length_cons, List.length_nil]; omega) | (intros; first | omega | assumption | (simp_all; done) | grind)) ?_   -- r14.14
            refine hK22 _ ?_; clear hK22
            refine aw_ret ?_
            refine ret_tmp 6 rfl (by simp (disch := omega) only [go_sem, ↓reduceIte, Nat.reduceEqDiff, Nat.reduceLT, Nat.reduceLeDiff, Nat.reduceAdd, Nat.reduceSub, Nat.reduceMul, reduceCtorEq, Int.reduceToNat, Int.reduceNeg]) ?_   -- ret1
            exact Exp.is (by simp (disch := omega) only [go_sem, ↓reduceIte, Nat.reduceEqDiff, Nat.reduceLT, Nat.reduceLeDiff, Nat.reduceAdd, Nat.reduceSub, Nat.reduceMul, reduceCtorEq, Int.reduceToNat, Int.reduceNeg] <;> refine congrArg vb ?_ <;> (rw [mayB, blk_t k m (by omega) (by omega) (by simp only [badB, eaB, stS, rtS]; grind)]; simp)) rfl rfl
          · try simp only [decide_eq_true_eq, decide_eq_false_iff_not, Bool.not_eq_true', Bool.not_eq_false', beq_iff_eq, bne_iff_ne, beq_eq_false_iff_ne, bne_eq_false_iff_eq, Bool.not_eq_true, Bool.not_eq_false, Int.not_lt, Int.not_le, Nat.not_lt, Nat.not_le, ne_eq, Int.ofNat_inj, Bool.and_eq_true, Bool.or_eq_true, Bool.and_eq_false_iff, Bool.or_eq_false_iff, Bool.not_eq_eq_eq_not, Bool.not_true, Bool.not_false] at c4   -- c4.f
            refine aw_skip ?_
            refine hK18 _ ?_; clear hK18
            refine aw_reg [1, 3, 7, 8, 9, 10, 11, 50, 51, 52, 53] (by kernel_rfl) ?_   -- r10.15
            simp (disch := omega) only [go_sem, ↓reduceIte, Nat.reduceEqDiff, Nat.reduceLT, Nat.reduceLeDiff, Nat.reduceAdd, Nat.reduceSub, Nat.reduceMul, reduceCtorEq, Int.reduceToNat, Int.reduceNeg]
            repeat refine And.intro (by first | omega | assumption | (simp only [List.length_append, List.length_cons, List.length_nil]; omega) | (intros; first | omega | assumption | (simp_all; done) | grind)) ?_   -- r10.15
            refine hK15 _ _ ?_ ⟨m + 1, rfl, ?_, ?_, ?_⟩   -- L1.0
            · first | assumption | omega | (simp only [List.length_append, List.length_cons, List.length_nil] at *; omega) | (simp_all; done)   -- L1.0.meas
            · first | assumption | omega | (simp only [List.length_append, List.length_cons, List.length_nil] at *; omega) | (simp_all; done)   -- L1.0.inv0
            · refine bad_step l1_1 ?_   -- L1.0.inv1
              simp only [badB, eaB, stS, rtS]; grind
            · simp (disch := omega) only [go_sem, ↓reduceIte, Nat.reduceEqDiff, Nat.reduceLT, Nat.reduceLeDiff, Nat.reduceAdd, Nat.reduceSub, Nat.reduceMul, reduceCtorEq, Int.reduceToNat, Int.reduceNeg] <;> first | rfl | omega | simp | simp_all   -- L1.0.env
        · try simp only [decide_eq_true_eq, decide_eq_false_iff_not, Bool.not_eq_true', Bool.not_eq_false', beq_iff_eq, bne_iff_ne, beq_eq_false_iff_ne, bne_eq_false_iff_eq, Bool.not_eq_true, Bool.not_eq_false, Int.not_lt, Int.not_le, Nat.not_lt, Nat.not_le, ne_eq, Int.ofNat_inj, Bool.and_eq_true, Bool.or_eq_true, Bool.and_eq_false_iff, Bool.or_eq_false_iff, Bool.not_eq_eq_eq_not, Bool.not_true, Bool.not_false] at c3   -- c3.f
          refine aw_exit ?_
          refine hK10 _ ?_; clear hK10
          refine aw_reg [1, 3, 7, 8, 50, 51, 52, 53] (by kernel_rfl) ?_   -- r15.16
          simp (disch := omega) only [go_sem, ↓reduceIte, Nat.reduceEqDiff, Nat.reduceLT, Nat.reduceLeDiff, Nat.reduceAdd, Nat.reduceSub, Nat.reduceMul, reduceCtorEq, Int.reduceToNat, Int.reduceNeg]
          repeat refine And.intro (by first | omega | assumption | (simp only [List.length_append, List.length_cons, List.length_nil]; omega) | (intros; first | omega | assumption | (simp_all; done) | grind)) ?_   -- r15.16
          refine hK7 _ _ ?_ ⟨k + 1, rfl, ?_, ?_, ?_⟩   -- L0.1
          · first | assumption | omega | (simp only [List.length_append, List.length_cons, List.length_nil] at *; omega) | (simp_all; done)   -- L0.1.meas
          · first | assumption | omega | (simp only [List.length_append, List.length_cons, List.length_nil] at *; omega) | (simp_all; done)   -- L0.1.inv0
          · refine blk_step l0_1 ?_   -- L0.1.inv1
            intro m hm; exact l1_1 _ (by omega)
          · simp (disch := omega) only [go_sem, ↓reduceIte, Nat.reduceEqDiff, Nat.reduceLT, Nat.reduceLeDiff, Nat.reduceAdd, Nat.reduceSub, Nat.reduceMul, reduceCtorEq, Int.reduceToNat, Int.reduceNeg] <;> first | rfl | omega | simp | simp_all   -- L0.1.env
    · try simp only [decide_eq_true_eq, decide_eq_false_iff_not, Bool.not_eq_true', Bool.not_eq_false', beq_iff_eq, bne_iff_ne, beq_eq_false_iff_ne, bne_eq_false_iff_eq, Bool.not_eq_true, Bool.not_eq_false, Int.not_lt, Int.not_le, Nat.not_lt, Nat.not_le, ne_eq, Int.ofNat_inj, Bool.and_eq_true, Bool.or_eq_true, Bool.and_eq_false_iff, Bool.or_eq_false_iff, Bool.not_eq_eq_eq_not, Bool.not_true, Bool.not_false] at c1   -- c1.f
      refine aw_exit ?_
      refine hK5 _ ?_; clear hK5
      refine aw_seq fun K23 hK23 => ?_
      refine aw_reg [] (by kernel_rfl) ?_   -- r16.17
      simp (disch := omega) only [go_sem, ↓reduceIte, Nat.reduceEqDiff, Nat.reduceLT, Nat.reduceLeDiff, Nat.reduceAdd, Nat.reduceSub, Nat.reduceMul, reduceCtorEq, Int.reduceToNat, Int.reduceNeg]
      repeat refine And.intro (by first | omega | assumption | (simp only [List.length_append, List.length_cons, List.length_nil]; omega) | (intros; first | omega | assumption | (simp_all; done) | grind)) ?_   -- r16.17
      refine hK23 _ ?_; clear hK23
      refine aw_ret ?_
      refine ret_tmp 6 rfl (by simp (disch := omega) only [go_sem, ↓reduceIte, Nat.reduceEqDiff, Nat.reduceLT, Nat.reduceLeDiff, Nat.reduceAdd, Nat.reduceSub, Nat.reduceMul, reduceCtorEq, Int.reduceToNat, Int.reduceNeg]) ?_   -- ret2
      exact Exp.is (by simp (disch := omega) only [go_sem, ↓reduceIte, Nat.reduceEqDiff, Nat.reduceLT, Nat.reduceLeDiff, Nat.reduceAdd, Nat.reduceSub, Nat.reduceMul, reduceCtorEq, Int.reduceToNat, Int.reduceNeg] <;> refine congrArg vb ?_ <;> (rw [mayB, blk_f (fun k hk => l0_1 k (by omega))]; simp only [rtS, stS]; grind)) rfl rfl

theorem ref50_blocked_ok (O : Env) (t : Table) (s : Inter) (tr : List Trip) (p : Schedule) (pr : List Int) (i j : Nat) (hs : SmT t) (hl : p.fStarts.length = tr.length) (hf : ∀ k, k < tr.length → (p.fStarts.getD k default).length = (tr.getD k default).fStops.length) (hb : tr.length ≤ 1000) (hb2 : ∀ k, (tr.getD k default).fStops.length ≤ 1000) (hi : i < tr.length) (hj : j < (tr.getD i default).fStops.length) : PCall Tryz.prog O 27 [.agg (eTable t), .agg (eInter s), encTr tr, .agg (eSchedule p), encI pr, vi (i : Nat), vi (j : Nat)] (vb (blkB t s tr p.fStarts pr i j)) := by
  -- signalling/signallingref50.blocked
  have hfi := hf i hi
  refine pcall_of_aw Tryz.func27 rfl (by kernel_rfl) ?_
  refine aw_seq fun K0 hK0 => ?_
  refine aw_reg [0, 1, 2, 3, 4, 5, 6] (by kernel_rfl) ?_   -- r0.0
  simp (disch := omega) only [go_sem, ↓reduceIte, Nat.reduceEqDiff, Nat.reduceLT, Nat.reduceLeDiff, Nat.reduceAdd, Nat.reduceSub, Nat.reduceMul, reduceCtorEq, Int.reduceToNat, Int.reduceNeg]
  repeat refine And.intro (by first | omega | assumption | (simp only [List.length_append, List.length_cons, List.length_nil]; omega) | (intros; first | omega | assumption | (simp_all; done) | grind)) ?_   -- r0.0
  refine hK0 _ ?_; clear hK0
  refine aw_seq fun K1 hK1 => ?_
  refine aw_reg [2, 4, 5, 6, 7, 8, 10] (by kernel_rfl) ?_   -- r1.1
  simp (disch := omega) only [go_sem, ↓reduceIte, Nat.reduceEqDiff, Nat.reduceLT, Nat.reduceLeDiff, Nat.reduceAdd, Nat.reduceSub, Nat.reduceMul, reduceCtorEq, Int.reduceToNat, Int.reduceNeg]
  repeat refine And.intro (by first | omega | assumption | (simp only [List.length_append, List.length_cons, List.length_nil]; omega) | (intros; first | omega | assumption | (simp_all; done) | grind)) ?_   -- r1.1
  refine hK1 _ ?_; clear hK1
  refine aw_seq fun K2 hK2 => ?_
  refine aw_seq fun K3 hK3 => ?_
  refine aw_reg [2, 4, 5, 6, 7, 8, 10, 15] (by kernel_rfl) ?_   -- r2.2
  simp (disch := omega) only [go_sem, ↓reduceIte, Nat.reduceEqDiff, Nat.reduceLT, Nat.reduceLeDiff, Nat.reduceAdd, Nat.reduceSub, Nat.reduceMul, reduceCtorEq, Int.reduceToNat, Int.reduceNeg]
  repeat refine And.intro (by first | omega | assumption | (simp only [List.length_append, List.length_cons, List.length_nil]; omega) | (intros; first | omega | assumption | (simp_all; done) | grind)) ?_   -- r2.2
  refine hK3 _ ?_; clear hK3
  refine aw_block ?_
  refine aw_loopK [2, 4, 5, 6, 7, 8, 10, 15, 29, 30, 31] (fun n ρ => ∃ k, n = tr.length - k ∧ (k ≤ tr.length) ∧ (∀ k', k' < k → ∀ m, m < (tr.getD k' default).fStops.length → badB t s tr p.fStarts pr i j k' m = false) ∧ ρ = mkE O [(2, encTr tr), (4, encI pr), (5, vi (i : Nat)), (6, vi (j : Nat)), (7, .bx (eTable t)), (8, .bx (eInter s)), (10, .bx (eSchedule p)), (15, vi ((p.fStarts.getD i default).getD j default)), (29, encTr tr), (30, vi (tr.length : Nat)), (31, vi (k : Nat))]) _ ⟨0, rfl, ?_, ?_, ?_⟩ ?_   -- L0
  · first | assumption | omega | (simp only [List.length_append, List.length_cons, List.length_nil] at *; omega) | (simp_all; done)   -- L0.init.inv0
  · intro k hk; omega   -- L0.init.inv1
  · simp (disch := omega) only [go_sem, ↓reduceIte, Nat.reduceEqDiff, Nat.reduceLT, Nat.reduceLeDiff, Nat.reduceAdd, Nat.reduceSub, Nat.reduceMul, reduceCtorEq, Int.reduceToNat, Int.reduceNeg] <;> first | rfl | omega | simp | simp_all   -- L0.init.env
  rintro n ρ ⟨k, rfl, l0_0, l0_1, rfl⟩ K4 hK4
  refine aw_seq fun K5 hK5 => ?_
  refine aw_reg [2, 4, 5, 6, 7, 8, 10, 15, 29, 30, 31] (by kernel_rfl) ?_   -- r3.3
  simp (disch := omega) only [go_sem, ↓reduceIte, Nat.reduceEqDiff, Nat.reduceLT, Nat.reduceLeDiff, Nat.reduceAdd, Nat.reduceSub, Nat.reduceMul, reduceCtorEq, Int.reduceToNat, Int.reduceNeg]
  repeat refine And.intro (by first | omega | assumption | (simp only [List.length_append, List.length_cons, List.length_nil]; omega) | (intros; first | omega | assumption | (simp_all; done) | grind)) ?_   -- r3.3
  refine hK5 _ ?_; clear hK5
  refine aw_seq fun K6 hK6 => ?_
  refine aw_cond _ (by rfl) (rfl) (fun c0 => ?_) (fun c0 => ?_)   -- c0
  · try simp only [decide_eq_true_eq, decide_eq_false_iff_not, Bool.not_eq_true', Bool.not_eq_false', beq_iff_eq, bne_iff_ne, beq_eq_false_iff_ne, bne_eq_false_iff_eq, Bool.not_eq_true, Bool.not_eq_false, Int.not_lt, Int.not_le, Nat.not_lt, Nat.not_le, ne_eq, Int.ofNat_inj, Bool.and_eq_true, Bool.or_eq_true, Bool.and_eq_false_iff, Bool.or_eq_false_iff, Bool.not_eq_eq_eq_not, Bool.not_true, Bool.not_false] at c0   -- c0.t
    refine aw_skip ?_
    refine hK6 _ ?_; clear hK6
    refine aw_seq fun K7 hK7 => ?_
    refine aw_block ?_
    refine aw_seq fun K8 hK8 => ?_
    refine aw_reg [2, 4, 5, 6, 7, 8, 10, 15, 29, 30, 31] (by kernel_rfl) ?_   -- r4.4
    simp (disch := omega) only [go_sem, ↓reduceIte, Nat.reduceEqDiff, Nat.reduceLT, Nat.reduceLeDiff, Nat.reduceAdd, Nat.reduceSub, Nat.reduceMul, reduceCtorEq, Int.reduceToNat, Int.reduceNeg]
    repeat refine And.intro (by first | omega | assumption | (simp only [List.length_append, List.length_cons, List.length_nil]; omega) | (intros; first | omega | assumption | (simp_all; done) | grind)) ?_   -- r4.4
    refine hK8 _ ?_; clear hK8
    refine aw_seq fun K9 hK9 => ?_
    refine aw_reg [2, 4, 5, 6, 7, 8, 10, 15, 16, 17, 29, 30, 31] (by kernel_rfl) ?_   -- r5.5
    simp (disch := omega) only [go_sem, ↓reduceIte, Nat.reduceEqDiff, Nat.reduceLT, Nat.reduceLeDiff, Nat.reduceAdd, Nat.reduceSub, Nat.reduceMul, reduceCtorEq, Int.reduceToNat, Int.reduceNeg]
    repeat refine And.intro (by first | omega | assumption | (simp only [List.length_append, List.length_cons, List.length_nil]; omega) | (intros; first | omega | assumption | (simp_all; done) | grind)) ?_   -- r5.5
    refine hK9 _ ?_; clear hK9
    refine aw_block ?_
    refine aw_loopK [2, 4, 5, 6, 7, 8, 10, 15, 29, 30, 31, 16, 17, 37, 38, 39] (fun n ρ => ∃ m, n = (tr.getD k default).fStops.length - m ∧ (m ≤ (tr.getD k default).fStops.length) ∧ (∀ m', m' < m → badB t s tr p.fStarts pr i j k m' = false) ∧ ρ = mkE O [(2, encTr tr), (4, encI pr), (5, vi (i : Nat)), (6, vi (j : Nat)), (7, .bx (eTable t)), (8, .bx (eInter s)), (10, .bx (eSchedule p)), (15, vi ((p.fStarts.getD i default).getD j default)), (29, encTr tr), (30, vi (tr.length : Nat)), (31, vi (k : Nat)), (16, vi (k : Nat)), (17, .bx (eTrip (tr.getD k default))), (37, encL 4 eStop (tr.getD k default).fStops), (38, vi ((tr.getD k default).fStops.length : Nat)), (39, vi (m : Nat))]) _ ⟨0, rfl, ?_, ?_, ?_⟩ ?_   -- L1
    · first | assumption | omega | (simp only [List.length_append, List.length_cons, List.length_nil] at *; omega) | (simp_all; done)   -- L1.init.inv0
    · intro m hm; omega   -- L1.init.inv1
    · simp (disch := omega) only [go_sem, ↓reduceIte, Nat.reduceEqDiff, Nat.reduceLT, Nat.reduceLeDiff, Nat.reduceAdd, Nat.reduceSub, Nat.reduceMul, reduceCtorEq, Int.reduceToNat, Int.reduceNeg] <;> first | rfl | omega | simp | simp_all   -- L1.init.env
    rintro n ρ ⟨m, rfl, l1_0, l1_1, rfl⟩ K10 hK10
    have hb3 := hb2 k
    have hfk := hf k (by omega)
    refine aw_seq fun K11 hK11 => ?_
    refine aw_reg [2, 4, 5, 6, 7, 8, 10, 15, 16, 17, 29, 30, 31, 36, 37, 38, 39] (by kernel_rfl) ?_   -- r6.6
    simp (disch := omega) only [go_sem, ↓reduceIte, Nat.reduceEqDiff, Nat.reduceLT, Nat.reduceLeDiff, Nat.reduceAdd, Nat.reduceSub, Nat.reduceMul, reduceCtorEq, Int.reduceToNat, Int.reduceNeg]
    repeat refine And.intro (by first | omega | assumption | (simp only [List.length_append, List.length_cons, List.length_nil]; omega) | (intros; first | omega | assumption | (simp_all; done) | grind)) ?_   -- r6.6
    refine hK11 _ ?_; clear hK11
    refine aw_seq fun K12 hK12 => ?_
    refine aw_cond _ (by rfl) (rfl) (fun c1 => ?_) (fun c1 => ?_)   -- c1
    · try simp only [decide_eq_true_eq, decide_eq_false_iff_not, Bool.not_eq_true', Bool.not_eq_false', beq_iff_eq, bne_iff_ne, beq_eq_false_iff_ne, bne_eq_false_iff_eq, Bool.not_eq_true, Bool.not_eq_false, Int.not_lt, Int.not_le, Nat.not_lt, Nat.not_le, ne_eq, Int.ofNat_inj, Bool.and_eq_true, Bool.or_eq_true, Bool.and_eq_false_iff, Bool.or_eq_false_iff, Bool.not_eq_eq_eq_not, Bool.not_true, Bool.not_false] at c1   -- c1.t
      refine aw_skip ?_
      refine hK12 _ ?_; clear hK12
      refine aw_seq fun K13 hK13 => ?_
      refine aw_block ?_
      refine aw_seq fun K14 hK14 => ?_
      refine aw_reg [2, 4, 5, 6, 7, 8, 10, 15, 16, 17, 29, 30, 31, 36, 37, 38, 39] (by kernel_rfl) ?_   -- r7.7
      simp (disch := omega) only [go_sem, ↓reduceIte, Nat.reduceEqDiff, Nat.reduceLT, Nat.reduceLeDiff, Nat.reduceAdd, Nat.reduceSub, Nat.reduceMul, reduceCtorEq, Int.reduceToNat, Int.reduceNeg]
      repeat refine And.intro (by first | omega | assumption | (simp only [List.length_append, List.length_cons, List.length_nil]; omega) | (intros; first | omega | assumption | (simp_all; done) | grind)) ?_   -- r7.7
      refine hK14 _ ?_; clear hK14
      refine aw_seq fun K15 hK15 => ?_
      refine aw_reg [2, 4, 5, 6, 7, 8, 10, 15, 16, 17, 18, 19, 29, 30, 31, 36, 37, 38, 39] (by kernel_rfl) ?_   -- r8.8
      simp (disch := omega) only [go_sem, ↓reduceIte, Nat.reduceEqDiff, Nat.reduceLT, Nat.reduceLeDiff, Nat.reduceAdd, Nat.reduceSub, Nat.reduceMul, reduceCtorEq, Int.reduceToNat, Int.reduceNeg]
      repeat refine And.intro (by first | omega | assumption | (simp only [List.length_append, List.length_cons, List.length_nil]; omega) | (intros; first | omega | assumption | (simp_all; done) | grind)) ?_   -- r8.8
      refine hK15 _ ?_; clear hK15
      refine aw_seq fun K16 hK16 => ?_
      refine aw_regDc [2, 4, 5, 6, 7, 8, 10, 15, 16, 17, 18, 19, 20, 29, 30, 31, 36, 37, 38, 39] [] mixed (by kernel_rfl) ?_   -- r9.9
      simp (disch := omega) only [go_sem, ↓reduceIte, Nat.reduceEqDiff, Nat.reduceLT, Nat.reduceLeDiff, Nat.reduceAdd, Nat.reduceSub, Nat.reduceMul, reduceCtorEq, Int.reduceToNat, Int.reduceNeg]
      repeat refine And.intro (by first | omega | assumption | (simp only [List.length_append, List.length_cons, List.length_nil]; omega) | (intros; first | omega | assumption | (simp_all; done) | grind)) ?_   -- r9.9
      refine callC_to (fun g0 => ref50_At_ok _ pr k) ?_ ?_ ?_   -- r9.9#0
      · first | exact fun _ => trivial | simp
      · rfl
      simp (disch := omega) only [go_sem, ↓reduceIte, Nat.reduceEqDiff, Nat.reduceLT, Nat.reduceLeDiff, Nat.reduceAdd, Nat.reduceSub, Nat.reduceMul, reduceCtorEq, Int.reduceToNat, Int.reduceNeg]
      repeat refine And.intro (by first | omega | assumption | (simp only [List.length_append, List.length_cons, List.length_nil]; omega) | (intros; first | omega | assumption | (simp_all; done) | grind)) ?_   -- r9.9
      refine callC_to (fun g1 => ref50_conflict_ok _ t s _ _ hs) ?_ ?_ ?_   -- r9.9#1
      · first | exact fun _ => trivial | simp
      · rfl
      simp (disch := omega) only [go_sem, ↓reduceIte, Nat.reduceEqDiff, Nat.reduceLT, Nat.reduceLeDiff, Nat.reduceAdd, Nat.reduceSub, Nat.reduceMul, reduceCtorEq, Int.reduceToNat, Int.reduceNeg]
      repeat refine And.intro (by first | omega | assumption | (simp only [List.length_append, List.length_cons, List.length_nil]; omega) | (intros; first | omega | assumption | (simp_all; done) | grind)) ?_   -- r9.9
      refine hK16 _ ?_; clear hK16
      refine aw_cond _ (by rfl) (rfl) (fun c2 => ?_) (fun c2 => ?_)   -- c2
      · try simp only [decide_eq_true_eq, decide_eq_false_iff_not, Bool.not_eq_true', Bool.not_eq_false', beq_iff_eq, bne_iff_ne, beq_eq_false_iff_ne, bne_eq_false_iff_eq, Bool.not_eq_true, Bool.not_eq_false, Int.not_lt, Int.not_le, Nat.not_lt, Nat.not_le, ne_eq, Int.ofNat_inj, Bool.and_eq_true, Bool.or_eq_true, Bool.and_eq_false_iff, Bool.or_eq_false_iff, Bool.not_eq_eq_eq_not, Bool.not_true, Bool.not_false] at c2   -- c2.t
        refine aw_seq fun K17 hK17 => ?_
        refine aw_reg [] (by kernel_rfl) ?_   -- r10.10
        simp (disch := omega) only [go_sem, ↓reduceIte, Nat.reduceEqDiff, Nat.reduceLT, Nat.reduceLeDiff, Nat.reduceAdd, Nat.reduceSub, Nat.reduceMul, reduceCtorEq, Int.reduceToNat, Int.reduceNeg]
        repeat refine And.intro (by first | omega | assumption | (simp only [List.length_append, List.length_cons, List.length_nil]; omega) | (intros; first | omega | assumption | (simp_all; done) | grind)) ?_   -- r10.10
        refine hK17 _ ?_; clear hK17
        refine aw_ret ?_
        refine ret_tmp 14 rfl (by simp (disch := omega) only [go_sem, ↓reduceIte, Nat.reduceEqDiff, Nat.reduceLT, Nat.reduceLeDiff, Nat.reduceAdd, Nat.reduceSub, Nat.reduceMul, reduceCtorEq, Int.reduceToNat, Int.reduceNeg]) ?_   -- ret0
        exact Exp.is (by simp (disch := omega) only [go_sem, ↓reduceIte, Nat.reduceEqDiff, Nat.reduceLT, Nat.reduceLeDiff, Nat.reduceAdd, Nat.reduceSub, Nat.reduceMul, reduceCtorEq, Int.reduceToNat, Int.reduceNeg] <;> refine congrArg vb ?_ <;> (rw [blk_t k m (by omega) (by omega) (by simp only [badB, eaB, stS, rtS]; grind)])) rfl rfl
      · try simp only [decide_eq_true_eq, decide_eq_false_iff_not, Bool.not_eq_true', Bool.not_eq_false', beq_iff_eq, bne_iff_ne, beq_eq_false_iff_ne, bne_eq_false_iff_eq, Bool.not_eq_true, Bool.not_eq_false, Int.not_lt, Int.not_le, Nat.not_lt, Nat.not_le, ne_eq, Int.ofNat_inj, Bool.and_eq_true, Bool.or_eq_true, Bool.and_eq_false_iff, Bool.or_eq_false_iff, Bool.not_eq_eq_eq_not, Bool.not_true, Bool.not_false] at c2   -- c2.f
        refine aw_skip ?_
        refine hK13 _ ?_; clear hK13
        refine aw_reg [2, 4, 5, 6, 7, 8, 10, 15, 16, 17, 29, 30, 31, 36, 37, 38, 39] (by kernel_rfl) ?_   -- r11.11
        simp (disch := omega) only [go_sem, ↓reduceIte, Nat.reduceEqDiff, Nat.reduceLT, Nat.reduceLeDiff, Nat.reduceAdd, Nat.reduceSub, Nat.reduceMul, reduceCtorEq, Int.reduceToNat, Int.reduceNeg]
        repeat refine And.intro (by first | omega | assumption | (simp only [List.length_append, List.length_cons, List.length_nil]; omega) | (intros; first | omega | assumption | (simp_all; done) | grind)) ?_   -- r11.11
        refine hK10 _ _ ?_ ⟨m + 1, rfl, ?_, ?_, ?_⟩   -- L1.0
        · first | assumption | omega | (simp only [List.length_append, List.length_cons, List.length_nil] at *; omega) | (simp_all; done)   -- L1.0.meas
        · first | assumption | omega | (simp only [List.length_append, List.length_cons, List.length_nil] at *; omega) | (simp_all; done)   -- L1.0.inv0
        · refine bad_step l1_1 ?_   -- L1.0.inv1
          simp only [badB, eaB, stS, rtS]; grind
        · simp (disch := omega) only [go_sem, ↓reduceIte, Nat.reduceEqDiff, Nat.reduceLT, Nat.reduceLeDiff, Nat.reduceAdd, Nat.reduceSub, Nat.reduceMul, reduceCtorEq, Int.reduceToNat, Int.reduceNeg] <;> first | rfl | omega | simp | simp_all   -- L1.0.env
    · try simp only [decide_eq_true_eq, decide_eq_false_iff_not, Bool.not_eq_true', Bool.not_eq_false', beq_iff_eq, bne_iff_ne, beq_eq_false_iff_ne, bne_eq_false_iff_eq, Bool.not_eq_true, Bool.not_eq_false, Int.not_lt, Int.not_le, Nat.not_lt, Nat.not_le, ne_eq, Int.ofNat_inj, Bool.and_eq_true, Bool.or_eq_true, Bool.and_eq_false_iff, Bool.or_eq_false_iff, Bool.not_eq_eq_eq_not, Bool.not_true, Bool.not_false] at c1   -- c1.f
      refine aw_exit ?_
      refine hK7 _ ?_; clear hK7
      refine aw_reg [2, 4, 5, 6, 7, 8, 10, 15, 29, 30, 31] (by kernel_rfl) ?_   -- r12.12
      simp (disch := omega) only [go_sem, ↓reduceIte, Nat.reduceEqDiff, Nat.reduceLT, Nat.reduceLeDiff, Nat.reduceAdd, Nat.reduceSub, Nat.reduceMul, reduceCtorEq, Int.reduceToNat, Int.reduceNeg]
      repeat refine And.intro (by first | omega | assumption | (simp only [List.length_append, List.length_cons, List.length_nil]; omega) | (intros; first | omega | assumption | (simp_all; done) | grind)) ?_   -- r12.12
      refine hK4 _ _ ?_ ⟨k + 1, rfl, ?_, ?_, ?_⟩   -- L0.0
      · first | assumption | omega | (simp only [List.length_append, List.length_cons, List.length_nil] at *; omega) | (simp_all; done)   -- L0.0.meas
      · first | assumption | omega | (simp only [List.length_append, List.length_cons, List.length_nil] at *; omega) | (simp_all; done)   -- L0.0.inv0
      · refine blk_step l0_1 ?_   -- L0.0.inv1
        intro m hm; exact l1_1 _ (by omega)
      · simp (disch := omega) only [go_sem, ↓reduceIte, Nat.reduceEqDiff, Nat.reduceLT, Nat.reduceLeDiff, Nat.reduceAdd, Nat.reduceSub, Nat.reduceMul, reduceCtorEq, Int.reduceToNat, Int.reduceNeg] <;> first | rfl | omega | simp | simp_all   -- L0.0.env
  · try simp only [decide_eq_true_eq, decide_eq_false_iff_not, Bool.not_eq_true', Bool.not_eq_false', beq_iff_eq, bne_iff_ne, beq_eq_false_iff_ne, bne_eq_false_iff_eq, Bool.not_eq_true, Bool.not_eq_false, Int.not_lt, Int.not_le, Nat.not_lt, Nat.not_le, ne_eq, Int.ofNat_inj, Bool.and_eq_true, Bool.or_eq_true, Bool.and_eq_false_iff, Bool.or_eq_false_iff, Bool.not_eq_eq_eq_not, Bool.not_true, Bool.not_false] at c0   -- c0.f
    refine aw_exit ?_
    refine hK2 _ ?_; clear hK2
    refine aw_seq fun K18 hK18 => ?_
    refine aw_reg [] (by kernel_rfl) ?_   -- r13.13
    simp (disch := omega) only [go_sem, ↓reduceIte, Nat.reduceEqDiff, Nat.reduceLT, Nat.reduceLeDiff, Nat.reduceAdd, Nat.reduceSub, Nat.reduceMul, reduceCtorEq, Int.reduceToNat, Int.reduceNeg]
    repeat refine And.intro (by first | omega | assumption | (simp only [List.length_append, List.length_cons, List.length_nil]; omega) | (intros; first | omega | assumption | (simp_all; done) | grind)) ?_   -- r13.13
    refine hK18 _ ?_; clear hK18
    refine aw_ret ?_
    refine ret_tmp 14 rfl (by simp (disch := omega) only [go_sem, ↓reduceIte, Nat.reduceEqDiff, Nat.reduceLT, Nat.reduceLeDiff, Nat.reduceAdd, Nat.reduceSub, Nat.reduceMul, reduceCtorEq, Int.reduceToNat, Int.reduceNeg]) ?_   -- ret1
    exact Exp.is (by simp (disch := omega) only [go_sem, ↓reduceIte, Nat.reduceEqDiff, Nat.reduceLT, Nat.reduceLeDiff, Nat.reduceAdd, Nat.reduceSub, Nat.reduceMul, reduceCtorEq, Int.reduceToNat, Int.reduceNeg] <;> refine congrArg vb ?_ <;> (rw [blk_f (fun k hk => l0_1 k (by omega))])) rfl rfl

end Go.Sg
