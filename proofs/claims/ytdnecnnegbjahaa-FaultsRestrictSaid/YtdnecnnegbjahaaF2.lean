/- Contracts of the comparisons of the law, and of the reference's observations. Printed by genw.py. -/
import Derived.Test.YtdnecnnegbjahaaF1
import Derived.Test.YtdnecnnegbjahaaSgTup
set_option linter.unusedVariables false
set_option linter.unusedSimpArgs false
namespace Go.Sg
open Go.Proofs
abbrev encB (l : List Bool) : DV := encL 1 eB l
abbrev encR (l : List Read) : DV := encL 2 eRead l

theorem law28_flags_ok (O : Env) (a b : List Bool) : PCall Try.prog O 22 [encB a, encB b] (vb (decide (a = b))) := by
  -- signalling/signallinglaw28.flags
  refine pcall_has 0 rfl (.sl _ _ _) fun hl => ?_
  refine pcall_of_aw Try.func22 rfl (by kernel_rfl) ?_
  refine aw_seq fun K0 hK0 => ?_
  refine aw_reg [0, 1] (by kernel_rfl) ?_   -- r0.0
  simp (disch := omega) only [go_sem, ↓reduceIte, Nat.reduceEqDiff, Nat.reduceLT, Nat.reduceLeDiff, Nat.reduceAdd, Nat.reduceSub, Nat.reduceMul, reduceCtorEq, Int.reduceToNat, Int.reduceNeg]
  repeat refine And.intro (by first | omega | assumption | (simp only [List.length_append, List.length_cons, List.length_nil]; omega) | (intros; first | omega | assumption | (simp_all; done) | grind)) ?_   -- r0.0
  refine hK0 _ ?_; clear hK0
  refine aw_seq fun K1 hK1 => ?_
  refine aw_seq fun K2 hK2 => ?_
  refine aw_reg [0, 1] (by kernel_rfl) ?_   -- r1.1
  simp (disch := omega) only [go_sem, ↓reduceIte, Nat.reduceEqDiff, Nat.reduceLT, Nat.reduceLeDiff, Nat.reduceAdd, Nat.reduceSub, Nat.reduceMul, reduceCtorEq, Int.reduceToNat, Int.reduceNeg]
  repeat refine And.intro (by first | omega | assumption | (simp only [List.length_append, List.length_cons, List.length_nil]; omega) | (intros; first | omega | assumption | (simp_all; done) | grind)) ?_   -- r1.1
  refine hK2 _ ?_; clear hK2
  refine aw_cond _ (by rfl) (rfl) (fun c0 => ?_) (fun c0 => ?_)   -- c0
  · try simp only [decide_eq_true_eq, decide_eq_false_iff_not, Bool.not_eq_true', Bool.not_eq_false', beq_iff_eq, bne_iff_ne, beq_eq_false_iff_ne, bne_eq_false_iff_eq, Bool.not_eq_true, Bool.not_eq_false, Int.not_lt, Int.not_le, Nat.not_lt, Nat.not_le, ne_eq, Int.ofNat_inj, Bool.and_eq_true, Bool.or_eq_true, Bool.and_eq_false_iff, Bool.or_eq_false_iff, Bool.not_eq_eq_eq_not, Bool.not_true, Bool.not_false] at c0   -- c0.t
    refine aw_seq fun K3 hK3 => ?_
    refine aw_reg [] (by kernel_rfl) ?_   -- r2.2
    simp (disch := omega) only [go_sem, ↓reduceIte, Nat.reduceEqDiff, Nat.reduceLT, Nat.reduceLeDiff, Nat.reduceAdd, Nat.reduceSub, Nat.reduceMul, reduceCtorEq, Int.reduceToNat, Int.reduceNeg]
    repeat refine And.intro (by first | omega | assumption | (simp only [List.length_append, List.length_cons, List.length_nil]; omega) | (intros; first | omega | assumption | (simp_all; done) | grind)) ?_   -- r2.2
    refine hK3 _ ?_; clear hK3
    refine aw_ret ?_
    refine ret_tmp 4 rfl (by simp (disch := omega) only [go_sem, ↓reduceIte, Nat.reduceEqDiff, Nat.reduceLT, Nat.reduceLeDiff, Nat.reduceAdd, Nat.reduceSub, Nat.reduceMul, reduceCtorEq, Int.reduceToNat, Int.reduceNeg]) ?_   -- ret0
    exact Exp.is (by simp (disch := omega) only [go_sem, ↓reduceIte, Nat.reduceEqDiff, Nat.reduceLT, Nat.reduceLeDiff, Nat.reduceAdd, Nat.reduceSub, Nat.reduceMul, reduceCtorEq, Int.reduceToNat, Int.reduceNeg] <;> refine congrArg vb ?_ <;> (symm; rw [decide_eq_false_iff_not]; intro h; exact c0 (by rw [h]))) rfl rfl
  · try simp only [decide_eq_true_eq, decide_eq_false_iff_not, Bool.not_eq_true', Bool.not_eq_false', beq_iff_eq, bne_iff_ne, beq_eq_false_iff_ne, bne_eq_false_iff_eq, Bool.not_eq_true, Bool.not_eq_false, Int.not_lt, Int.not_le, Nat.not_lt, Nat.not_le, ne_eq, Int.ofNat_inj, Bool.and_eq_true, Bool.or_eq_true, Bool.and_eq_false_iff, Bool.or_eq_false_iff, Bool.not_eq_eq_eq_not, Bool.not_true, Bool.not_false] at c0   -- c0.f
    refine aw_skip ?_
    refine hK1 _ ?_; clear hK1
    refine aw_seq fun K4 hK4 => ?_
    refine aw_seq fun K5 hK5 => ?_
    refine aw_reg [0, 1] (by kernel_rfl) ?_   -- r3.3
    simp (disch := omega) only [go_sem, ↓reduceIte, Nat.reduceEqDiff, Nat.reduceLT, Nat.reduceLeDiff, Nat.reduceAdd, Nat.reduceSub, Nat.reduceMul, reduceCtorEq, Int.reduceToNat, Int.reduceNeg]
    repeat refine And.intro (by first | omega | assumption | (simp only [List.length_append, List.length_cons, List.length_nil]; omega) | (intros; first | omega | assumption | (simp_all; done) | grind)) ?_   -- r3.3
    refine hK5 _ ?_; clear hK5
    refine aw_block ?_
    refine aw_loopK [0, 1, 12, 13] (fun n ρ => ∃ i, n = a.length - i ∧ (i ≤ a.length) ∧ (decide (a = b) = decide (a.drop i = b.drop i)) ∧ ρ = mkE O [(0, encB a), (1, encB b), (12, vi (a.length : Nat)), (13, vi (i : Nat))]) _ ⟨0, rfl, ?_, ?_, ?_⟩ ?_   -- L0
    · first | assumption | omega | (simp only [List.length_append, List.length_cons, List.length_nil] at *; omega) | (simp_all; done)   -- L0.init.inv0
    · first | assumption | omega | (simp only [List.length_append, List.length_cons, List.length_nil] at *; omega) | (simp_all; done)   -- L0.init.inv1
    · simp (disch := omega) only [go_sem, ↓reduceIte, Nat.reduceEqDiff, Nat.reduceLT, Nat.reduceLeDiff, Nat.reduceAdd, Nat.reduceSub, Nat.reduceMul, reduceCtorEq, Int.reduceToNat, Int.reduceNeg] <;> first | rfl | omega | simp | simp_all   -- L0.init.env
    rintro n ρ ⟨i, rfl, l0_0, l0_1, rfl⟩ K6 hK6
    refine aw_seq fun K7 hK7 => ?_
    refine aw_reg [0, 1, 12, 13] (by kernel_rfl) ?_   -- r4.4
    simp (disch := omega) only [go_sem, ↓reduceIte, Nat.reduceEqDiff, Nat.reduceLT, Nat.reduceLeDiff, Nat.reduceAdd, Nat.reduceSub, Nat.reduceMul, reduceCtorEq, Int.reduceToNat, Int.reduceNeg]
    repeat refine And.intro (by first | omega | assumption | (simp only [List.length_append, List.length_cons, List.length_nil]; omega) | (intros; first | omega | assumption | (simp_all; done) | grind)) ?_   -- r4.4
    refine hK7 _ ?_; clear hK7
    refine aw_seq fun K8 hK8 => ?_
    refine aw_cond _ (by rfl) (rfl) (fun c1 => ?_) (fun c1 => ?_)   -- c1
    · try simp only [decide_eq_true_eq, decide_eq_false_iff_not, Bool.not_eq_true', Bool.not_eq_false', beq_iff_eq, bne_iff_ne, beq_eq_false_iff_ne, bne_eq_false_iff_eq, Bool.not_eq_true, Bool.not_eq_false, Int.not_lt, Int.not_le, Nat.not_lt, Nat.not_le, ne_eq, Int.ofNat_inj, Bool.and_eq_true, Bool.or_eq_true, Bool.and_eq_false_iff, Bool.or_eq_false_iff, Bool.not_eq_eq_eq_not, Bool.not_true, Bool.not_false] at c1   -- c1.t
      refine aw_skip ?_
      refine hK8 _ ?_; clear hK8
      refine aw_seq fun K9 hK9 => ?_
      refine aw_block ?_
      refine aw_seq fun K10 hK10 => ?_
      refine aw_reg [0, 1, 12, 13] (by kernel_rfl) ?_   -- r5.5
      simp (disch := omega) only [go_sem, ↓reduceIte, Nat.reduceEqDiff, Nat.reduceLT, Nat.reduceLeDiff, Nat.reduceAdd, Nat.reduceSub, Nat.reduceMul, reduceCtorEq, Int.reduceToNat, Int.reduceNeg]
      repeat refine And.intro (by first | omega | assumption | (simp only [List.length_append, List.length_cons, List.length_nil]; omega) | (intros; first | omega | assumption | (simp_all; done) | grind)) ?_   -- r5.5
      refine hK10 _ ?_; clear hK10
      refine aw_seq fun K11 hK11 => ?_
      refine aw_regDc [0, 1, 5, 12, 13] [] mixed (by kernel_rfl) ?_   -- r6.6
      simp (disch := omega) only [go_sem, ↓reduceIte, Nat.reduceEqDiff, Nat.reduceLT, Nat.reduceLeDiff, Nat.reduceAdd, Nat.reduceSub, Nat.reduceMul, reduceCtorEq, Int.reduceToNat, Int.reduceNeg]
      repeat refine And.intro (by first | omega | assumption | (simp only [List.length_append, List.length_cons, List.length_nil]; omega) | (intros; first | omega | assumption | (simp_all; done) | grind)) ?_   -- r6.6
      refine hK11 _ ?_; clear hK11
      refine aw_cond _ (by rfl) (rfl) (fun c2 => ?_) (fun c2 => ?_)   -- c2
      · try simp only [decide_eq_true_eq, decide_eq_false_iff_not, Bool.not_eq_true', Bool.not_eq_false', beq_iff_eq, bne_iff_ne, beq_eq_false_iff_ne, bne_eq_false_iff_eq, Bool.not_eq_true, Bool.not_eq_false, Int.not_lt, Int.not_le, Nat.not_lt, Nat.not_le, ne_eq, Int.ofNat_inj, Bool.and_eq_true, Bool.or_eq_true, Bool.and_eq_false_iff, Bool.or_eq_false_iff, Bool.not_eq_eq_eq_not, Bool.not_true, Bool.not_false] at c2   -- c2.t
        refine aw_seq fun K12 hK12 => ?_
        refine aw_reg [] (by kernel_rfl) ?_   -- r7.7
        simp (disch := omega) only [go_sem, ↓reduceIte, Nat.reduceEqDiff, Nat.reduceLT, Nat.reduceLeDiff, Nat.reduceAdd, Nat.reduceSub, Nat.reduceMul, reduceCtorEq, Int.reduceToNat, Int.reduceNeg]
        repeat refine And.intro (by first | omega | assumption | (simp only [List.length_append, List.length_cons, List.length_nil]; omega) | (intros; first | omega | assumption | (simp_all; done) | grind)) ?_   -- r7.7
        refine hK12 _ ?_; clear hK12
        refine aw_ret ?_
        refine ret_tmp 4 rfl (by simp (disch := omega) only [go_sem, ↓reduceIte, Nat.reduceEqDiff, Nat.reduceLT, Nat.reduceLeDiff, Nat.reduceAdd, Nat.reduceSub, Nat.reduceMul, reduceCtorEq, Int.reduceToNat, Int.reduceNeg]) ?_   -- ret1
        exact Exp.is (by simp (disch := omega) only [go_sem, ↓reduceIte, Nat.reduceEqDiff, Nat.reduceLT, Nat.reduceLeDiff, Nat.reduceAdd, Nat.reduceSub, Nat.reduceMul, reduceCtorEq, Int.reduceToNat, Int.reduceNeg] <;> refine congrArg vb ?_ <;> (rw [l0_1]; symm; rw [decide_eq_false_iff_not, dropD default c1, dropD default (show i < b.length by omega)]; intro h; injection h with h1 h2; rw [h1] at c2; simp at c2)) rfl rfl
      · try simp only [decide_eq_true_eq, decide_eq_false_iff_not, Bool.not_eq_true', Bool.not_eq_false', beq_iff_eq, bne_iff_ne, beq_eq_false_iff_ne, bne_eq_false_iff_eq, Bool.not_eq_true, Bool.not_eq_false, Int.not_lt, Int.not_le, Nat.not_lt, Nat.not_le, ne_eq, Int.ofNat_inj, Bool.and_eq_true, Bool.or_eq_true, Bool.and_eq_false_iff, Bool.or_eq_false_iff, Bool.not_eq_eq_eq_not, Bool.not_true, Bool.not_false] at c2   -- c2.f
        refine aw_skip ?_
        refine hK9 _ ?_; clear hK9
        refine aw_reg [0, 1, 12, 13] (by kernel_rfl) ?_   -- r8.8
        simp (disch := omega) only [go_sem, ↓reduceIte, Nat.reduceEqDiff, Nat.reduceLT, Nat.reduceLeDiff, Nat.reduceAdd, Nat.reduceSub, Nat.reduceMul, reduceCtorEq, Int.reduceToNat, Int.reduceNeg]
        repeat refine And.intro (by first | omega | assumption | (simp only [List.length_append, List.length_cons, List.length_nil]; omega) | (intros; first | omega | assumption | (simp_all; done) | grind)) ?_   -- r8.8
        refine hK6 _ _ ?_ ⟨i + 1, rfl, ?_, ?_, ?_⟩   -- L0.0
        · first | assumption | omega | (simp only [List.length_append, List.length_cons, List.length_nil] at *; omega) | (simp_all; done)   -- L0.0.meas
        · first | assumption | omega | (simp only [List.length_append, List.length_cons, List.length_nil] at *; omega) | (simp_all; done)   -- L0.0.inv0
        · have e : a.getD i default = b.getD i default := by simpa using c2   -- L0.0.inv1
          rw [l0_1, dropD default c1, dropD default (show i < b.length by omega), e]; simp
        · simp (disch := omega) only [go_sem, ↓reduceIte, Nat.reduceEqDiff, Nat.reduceLT, Nat.reduceLeDiff, Nat.reduceAdd, Nat.reduceSub, Nat.reduceMul, reduceCtorEq, Int.reduceToNat, Int.reduceNeg] <;> first | rfl | omega | simp | simp_all   -- L0.0.env
    · try simp only [decide_eq_true_eq, decide_eq_false_iff_not, Bool.not_eq_true', Bool.not_eq_false', beq_iff_eq, bne_iff_ne, beq_eq_false_iff_ne, bne_eq_false_iff_eq, Bool.not_eq_true, Bool.not_eq_false, Int.not_lt, Int.not_le, Nat.not_lt, Nat.not_le, ne_eq, Int.ofNat_inj, Bool.and_eq_true, Bool.or_eq_true, Bool.and_eq_false_iff, Bool.or_eq_false_iff, Bool.not_eq_eq_eq_not, Bool.not_true, Bool.not_false] at c1   -- c1.f
      refine aw_exit ?_
      refine hK4 _ ?_; clear hK4
      refine aw_seq fun K13 hK13 => ?_
      refine aw_reg [] (by kernel_rfl) ?_   -- r9.9
      simp (disch := omega) only [go_sem, ↓reduceIte, Nat.reduceEqDiff, Nat.reduceLT, Nat.reduceLeDiff, Nat.reduceAdd, Nat.reduceSub, Nat.reduceMul, reduceCtorEq, Int.reduceToNat, Int.reduceNeg]
      repeat refine And.intro (by first | omega | assumption | (simp only [List.length_append, List.length_cons, List.length_nil]; omega) | (intros; first | omega | assumption | (simp_all; done) | grind)) ?_   -- r9.9
      refine hK13 _ ?_; clear hK13
      refine aw_ret ?_
      refine ret_tmp 4 rfl (by simp (disch := omega) only [go_sem, ↓reduceIte, Nat.reduceEqDiff, Nat.reduceLT, Nat.reduceLeDiff, Nat.reduceAdd, Nat.reduceSub, Nat.reduceMul, reduceCtorEq, Int.reduceToNat, Int.reduceNeg]) ?_   -- ret2
      exact Exp.is (by simp (disch := omega) only [go_sem, ↓reduceIte, Nat.reduceEqDiff, Nat.reduceLT, Nat.reduceLeDiff, Nat.reduceAdd, Nat.reduceSub, Nat.reduceMul, reduceCtorEq, Int.reduceToNat, Int.reduceNeg] <;> refine congrArg vb ?_ <;> (rw [l0_1, dropE c1, dropE (by omega)]; simp)) rfl rfl

theorem law28_numbers_ok (O : Env) (a b : List Int) : PCall Try.prog O 25 [encI a, encI b] (vb (decide (a = b))) := by
  -- signalling/signallinglaw28.numbers
  refine pcall_has 0 rfl (.sl _ _ _) fun hl => ?_
  refine pcall_of_aw Try.func25 rfl (by kernel_rfl) ?_
  refine aw_seq fun K0 hK0 => ?_
  refine aw_reg [0, 1] (by kernel_rfl) ?_   -- r0.0
  simp (disch := omega) only [go_sem, ↓reduceIte, Nat.reduceEqDiff, Nat.reduceLT, Nat.reduceLeDiff, Nat.reduceAdd, Nat.reduceSub, Nat.reduceMul, reduceCtorEq, Int.reduceToNat, Int.reduceNeg]
  repeat refine And.intro (by first | omega | assumption | (simp only [List.length_append, List.length_cons, List.length_nil]; omega) | (intros; first | omega | assumption | (simp_all; done) | grind)) ?_   -- r0.0
  refine hK0 _ ?_; clear hK0
  refine aw_seq fun K1 hK1 => ?_
  refine aw_seq fun K2 hK2 => ?_
  refine aw_reg [0, 1] (by kernel_rfl) ?_   -- r1.1
  simp (disch := omega) only [go_sem, ↓reduceIte, Nat.reduceEqDiff, Nat.reduceLT, Nat.reduceLeDiff, Nat.reduceAdd, Nat.reduceSub, Nat.reduceMul, reduceCtorEq, Int.reduceToNat, Int.reduceNeg]
  repeat refine And.intro (by first | omega | assumption | (simp only [List.length_append, List.length_cons, List.length_nil]; omega) | (intros; first | omega | assumption | (simp_all; done) | grind)) ?_   -- r1.1
  refine hK2 _ ?_; clear hK2
  refine aw_cond _ (by rfl) (rfl) (fun c0 => ?_) (fun c0 => ?_)   -- c0
  · try simp only [decide_eq_true_eq, decide_eq_false_iff_not, Bool.not_eq_true', Bool.not_eq_false', beq_iff_eq, bne_iff_ne, beq_eq_false_iff_ne, bne_eq_false_iff_eq, Bool.not_eq_true, Bool.not_eq_false, Int.not_lt, Int.not_le, Nat.not_lt, Nat.not_le, ne_eq, Int.ofNat_inj, Bool.and_eq_true, Bool.or_eq_true, Bool.and_eq_false_iff, Bool.or_eq_false_iff, Bool.not_eq_eq_eq_not, Bool.not_true, Bool.not_false] at c0   -- c0.t
    refine aw_seq fun K3 hK3 => ?_
    refine aw_reg [] (by kernel_rfl) ?_   -- r2.2
    simp (disch := omega) only [go_sem, ↓reduceIte, Nat.reduceEqDiff, Nat.reduceLT, Nat.reduceLeDiff, Nat.reduceAdd, Nat.reduceSub, Nat.reduceMul, reduceCtorEq, Int.reduceToNat, Int.reduceNeg]
    repeat refine And.intro (by first | omega | assumption | (simp only [List.length_append, List.length_cons, List.length_nil]; omega) | (intros; first | omega | assumption | (simp_all; done) | grind)) ?_   -- r2.2
    refine hK3 _ ?_; clear hK3
    refine aw_ret ?_
    refine ret_tmp 4 rfl (by simp (disch := omega) only [go_sem, ↓reduceIte, Nat.reduceEqDiff, Nat.reduceLT, Nat.reduceLeDiff, Nat.reduceAdd, Nat.reduceSub, Nat.reduceMul, reduceCtorEq, Int.reduceToNat, Int.reduceNeg]) ?_   -- ret0
    exact Exp.is (by simp (disch := omega) only [go_sem, ↓reduceIte, Nat.reduceEqDiff, Nat.reduceLT, Nat.reduceLeDiff, Nat.reduceAdd, Nat.reduceSub, Nat.reduceMul, reduceCtorEq, Int.reduceToNat, Int.reduceNeg] <;> refine congrArg vb ?_ <;> (symm; rw [decide_eq_false_iff_not]; intro h; exact c0 (by rw [h]))) rfl rfl
  · try simp only [decide_eq_true_eq, decide_eq_false_iff_not, Bool.not_eq_true', Bool.not_eq_false', beq_iff_eq, bne_iff_ne, beq_eq_false_iff_ne, bne_eq_false_iff_eq, Bool.not_eq_true, Bool.not_eq_false, Int.not_lt, Int.not_le, Nat.not_lt, Nat.not_le, ne_eq, Int.ofNat_inj, Bool.and_eq_true, Bool.or_eq_true, Bool.and_eq_false_iff, Bool.or_eq_false_iff, Bool.not_eq_eq_eq_not, Bool.not_true, Bool.not_false] at c0   -- c0.f
    refine aw_skip ?_
    refine hK1 _ ?_; clear hK1
    refine aw_seq fun K4 hK4 => ?_
    refine aw_seq fun K5 hK5 => ?_
    refine aw_reg [0, 1] (by kernel_rfl) ?_   -- r3.3
    simp (disch := omega) only [go_sem, ↓reduceIte, Nat.reduceEqDiff, Nat.reduceLT, Nat.reduceLeDiff, Nat.reduceAdd, Nat.reduceSub, Nat.reduceMul, reduceCtorEq, Int.reduceToNat, Int.reduceNeg]
    repeat refine And.intro (by first | omega | assumption | (simp only [List.length_append, List.length_cons, List.length_nil]; omega) | (intros; first | omega | assumption | (simp_all; done) | grind)) ?_   -- r3.3
    refine hK5 _ ?_; clear hK5
    refine aw_block ?_
    refine aw_loopK [0, 1, 12, 13] (fun n ρ => ∃ i, n = a.length - i ∧ (i ≤ a.length) ∧ (decide (a = b) = decide (a.drop i = b.drop i)) ∧ ρ = mkE O [(0, encI a), (1, encI b), (12, vi (a.length : Nat)), (13, vi (i : Nat))]) _ ⟨0, rfl, ?_, ?_, ?_⟩ ?_   -- L0
    · first | assumption | omega | (simp only [List.length_append, List.length_cons, List.length_nil] at *; omega) | (simp_all; done)   -- L0.init.inv0
    · first | assumption | omega | (simp only [List.length_append, List.length_cons, List.length_nil] at *; omega) | (simp_all; done)   -- L0.init.inv1
    · simp (disch := omega) only [go_sem, ↓reduceIte, Nat.reduceEqDiff, Nat.reduceLT, Nat.reduceLeDiff, Nat.reduceAdd, Nat.reduceSub, Nat.reduceMul, reduceCtorEq, Int.reduceToNat, Int.reduceNeg] <;> first | rfl | omega | simp | simp_all   -- L0.init.env
    rintro n ρ ⟨i, rfl, l0_0, l0_1, rfl⟩ K6 hK6
    refine aw_seq fun K7 hK7 => ?_
    refine aw_reg [0, 1, 12, 13] (by kernel_rfl) ?_   -- r4.4
    simp (disch := omega) only [go_sem, ↓reduceIte, Nat.reduceEqDiff, Nat.reduceLT, Nat.reduceLeDiff, Nat.reduceAdd, Nat.reduceSub, Nat.reduceMul, reduceCtorEq, Int.reduceToNat, Int.reduceNeg]
    repeat refine And.intro (by first | omega | assumption | (simp only [List.length_append, List.length_cons, List.length_nil]; omega) | (intros; first | omega | assumption | (simp_all; done) | grind)) ?_   -- r4.4
    refine hK7 _ ?_; clear hK7
    refine aw_seq fun K8 hK8 => ?_
    refine aw_cond _ (by rfl) (rfl) (fun c1 => ?_) (fun c1 => ?_)   -- c1
    · try simp only [decide_eq_true_eq, decide_eq_false_iff_not, Bool.not_eq_true', Bool.not_eq_false', beq_iff_eq, bne_iff_ne, beq_eq_false_iff_ne, bne_eq_false_iff_eq, Bool.not_eq_true, Bool.not_eq_false, Int.not_lt, Int.not_le, Nat.not_lt, Nat.not_le, ne_eq, Int.ofNat_inj, Bool.and_eq_true, Bool.or_eq_true, Bool.and_eq_false_iff, Bool.or_eq_false_iff, Bool.not_eq_eq_eq_not, Bool.not_true, Bool.not_false] at c1   -- c1.t
      refine aw_skip ?_
      refine hK8 _ ?_; clear hK8
      refine aw_seq fun K9 hK9 => ?_
      refine aw_block ?_
      refine aw_seq fun K10 hK10 => ?_
      refine aw_reg [0, 1, 12, 13] (by kernel_rfl) ?_   -- r5.5
      simp (disch := omega) only [go_sem, ↓reduceIte, Nat.reduceEqDiff, Nat.reduceLT, Nat.reduceLeDiff, Nat.reduceAdd, Nat.reduceSub, Nat.reduceMul, reduceCtorEq, Int.reduceToNat, Int.reduceNeg]
      repeat refine And.intro (by first | omega | assumption | (simp only [List.length_append, List.length_cons, List.length_nil]; omega) | (intros; first | omega | assumption | (simp_all; done) | grind)) ?_   -- r5.5
      refine hK10 _ ?_; clear hK10
      refine aw_seq fun K11 hK11 => ?_
      refine aw_regDc [0, 1, 5, 12, 13] [] mixed (by kernel_rfl) ?_   -- r6.6
      simp (disch := omega) only [go_sem, ↓reduceIte, Nat.reduceEqDiff, Nat.reduceLT, Nat.reduceLeDiff, Nat.reduceAdd, Nat.reduceSub, Nat.reduceMul, reduceCtorEq, Int.reduceToNat, Int.reduceNeg]
      repeat refine And.intro (by first | omega | assumption | (simp only [List.length_append, List.length_cons, List.length_nil]; omega) | (intros; first | omega | assumption | (simp_all; done) | grind)) ?_   -- r6.6
      refine hK11 _ ?_; clear hK11
      refine aw_cond _ (by rfl) (rfl) (fun c2 => ?_) (fun c2 => ?_)   -- c2
      · try simp only [decide_eq_true_eq, decide_eq_false_iff_not, Bool.not_eq_true', Bool.not_eq_false', beq_iff_eq, bne_iff_ne, beq_eq_false_iff_ne, bne_eq_false_iff_eq, Bool.not_eq_true, Bool.not_eq_false, Int.not_lt, Int.not_le, Nat.not_lt, Nat.not_le, ne_eq, Int.ofNat_inj, Bool.and_eq_true, Bool.or_eq_true, Bool.and_eq_false_iff, Bool.or_eq_false_iff, Bool.not_eq_eq_eq_not, Bool.not_true, Bool.not_false] at c2   -- c2.t
        refine aw_seq fun K12 hK12 => ?_
        refine aw_reg [] (by kernel_rfl) ?_   -- r7.7
        simp (disch := omega) only [go_sem, ↓reduceIte, Nat.reduceEqDiff, Nat.reduceLT, Nat.reduceLeDiff, Nat.reduceAdd, Nat.reduceSub, Nat.reduceMul, reduceCtorEq, Int.reduceToNat, Int.reduceNeg]
        repeat refine And.intro (by first | omega | assumption | (simp only [List.length_append, List.length_cons, List.length_nil]; omega) | (intros; first | omega | assumption | (simp_all; done) | grind)) ?_   -- r7.7
        refine hK12 _ ?_; clear hK12
        refine aw_ret ?_
        refine ret_tmp 4 rfl (by simp (disch := omega) only [go_sem, ↓reduceIte, Nat.reduceEqDiff, Nat.reduceLT, Nat.reduceLeDiff, Nat.reduceAdd, Nat.reduceSub, Nat.reduceMul, reduceCtorEq, Int.reduceToNat, Int.reduceNeg]) ?_   -- ret1
        exact Exp.is (by simp (disch := omega) only [go_sem, ↓reduceIte, Nat.reduceEqDiff, Nat.reduceLT, Nat.reduceLeDiff, Nat.reduceAdd, Nat.reduceSub, Nat.reduceMul, reduceCtorEq, Int.reduceToNat, Int.reduceNeg] <;> refine congrArg vb ?_ <;> (rw [l0_1]; symm; rw [decide_eq_false_iff_not, dropD default c1, dropD default (show i < b.length by omega)]; intro h; injection h with h1 h2; rw [h1] at c2; simp at c2)) rfl rfl
      · try simp only [decide_eq_true_eq, decide_eq_false_iff_not, Bool.not_eq_true', Bool.not_eq_false', beq_iff_eq, bne_iff_ne, beq_eq_false_iff_ne, bne_eq_false_iff_eq, Bool.not_eq_true, Bool.not_eq_false, Int.not_lt, Int.not_le, Nat.not_lt, Nat.not_le, ne_eq, Int.ofNat_inj, Bool.and_eq_true, Bool.or_eq_true, Bool.and_eq_false_iff, Bool.or_eq_false_iff, Bool.not_eq_eq_eq_not, Bool.not_true, Bool.not_false] at c2   -- c2.f
        refine aw_skip ?_
        refine hK9 _ ?_; clear hK9
        refine aw_reg [0, 1, 12, 13] (by kernel_rfl) ?_   -- r8.8
        simp (disch := omega) only [go_sem, ↓reduceIte, Nat.reduceEqDiff, Nat.reduceLT, Nat.reduceLeDiff, Nat.reduceAdd, Nat.reduceSub, Nat.reduceMul, reduceCtorEq, Int.reduceToNat, Int.reduceNeg]
        repeat refine And.intro (by first | omega | assumption | (simp only [List.length_append, List.length_cons, List.length_nil]; omega) | (intros; first | omega | assumption | (simp_all; done) | grind)) ?_   -- r8.8
        refine hK6 _ _ ?_ ⟨i + 1, rfl, ?_, ?_, ?_⟩   -- L0.0
        · first | assumption | omega | (simp only [List.length_append, List.length_cons, List.length_nil] at *; omega) | (simp_all; done)   -- L0.0.meas
        · first | assumption | omega | (simp only [List.length_append, List.length_cons, List.length_nil] at *; omega) | (simp_all; done)   -- L0.0.inv0
        · have e : a.getD i default = b.getD i default := by simpa using c2   -- L0.0.inv1
          rw [l0_1, dropD default c1, dropD default (show i < b.length by omega), e]; simp
        · simp (disch := omega) only [go_sem, ↓reduceIte, Nat.reduceEqDiff, Nat.reduceLT, Nat.reduceLeDiff, Nat.reduceAdd, Nat.reduceSub, Nat.reduceMul, reduceCtorEq, Int.reduceToNat, Int.reduceNeg] <;> first | rfl | omega | simp | simp_all   -- L0.0.env
    · try simp only [decide_eq_true_eq, decide_eq_false_iff_not, Bool.not_eq_true', Bool.not_eq_false', beq_iff_eq, bne_iff_ne, beq_eq_false_iff_ne, bne_eq_false_iff_eq, Bool.not_eq_true, Bool.not_eq_false, Int.not_lt, Int.not_le, Nat.not_lt, Nat.not_le, ne_eq, Int.ofNat_inj, Bool.and_eq_true, Bool.or_eq_true, Bool.and_eq_false_iff, Bool.or_eq_false_iff, Bool.not_eq_eq_eq_not, Bool.not_true, Bool.not_false] at c1   -- c1.f
      refine aw_exit ?_
      refine hK4 _ ?_; clear hK4
      refine aw_seq fun K13 hK13 => ?_
      refine aw_reg [] (by kernel_rfl) ?_   -- r9.9
      simp (disch := omega) only [go_sem, ↓reduceIte, Nat.reduceEqDiff, Nat.reduceLT, Nat.reduceLeDiff, Nat.reduceAdd, Nat.reduceSub, Nat.reduceMul, reduceCtorEq, Int.reduceToNat, Int.reduceNeg]
      repeat refine And.intro (by first | omega | assumption | (simp only [List.length_append, List.length_cons, List.length_nil]; omega) | (intros; first | omega | assumption | (simp_all; done) | grind)) ?_   -- r9.9
      refine hK13 _ ?_; clear hK13
      refine aw_ret ?_
      refine ret_tmp 4 rfl (by simp (disch := omega) only [go_sem, ↓reduceIte, Nat.reduceEqDiff, Nat.reduceLT, Nat.reduceLeDiff, Nat.reduceAdd, Nat.reduceSub, Nat.reduceMul, reduceCtorEq, Int.reduceToNat, Int.reduceNeg]) ?_   -- ret2
      exact Exp.is (by simp (disch := omega) only [go_sem, ↓reduceIte, Nat.reduceEqDiff, Nat.reduceLT, Nat.reduceLeDiff, Nat.reduceAdd, Nat.reduceSub, Nat.reduceMul, reduceCtorEq, Int.reduceToNat, Int.reduceNeg] <;> refine congrArg vb ?_ <;> (rw [l0_1, dropE c1, dropE (by omega)]; simp)) rfl rfl

theorem law28_reads_ok (O : Env) (a b : List Read) : PCall Try.prog O 28 [encR a, encR b] (vb (decide (a = b))) := by
  -- signalling/signallinglaw28.reads
  refine pcall_has 0 rfl (.sl _ _ _) fun hl => ?_
  refine pcall_of_aw Try.func28 rfl (by kernel_rfl) ?_
  refine aw_seq fun K0 hK0 => ?_
  refine aw_reg [0, 1] (by kernel_rfl) ?_   -- r0.0
  simp (disch := omega) only [go_sem, ↓reduceIte, Nat.reduceEqDiff, Nat.reduceLT, Nat.reduceLeDiff, Nat.reduceAdd, Nat.reduceSub, Nat.reduceMul, reduceCtorEq, Int.reduceToNat, Int.reduceNeg]
  repeat refine And.intro (by first | omega | assumption | (simp only [List.length_append, List.length_cons, List.length_nil]; omega) | (intros; first | omega | assumption | (simp_all; done) | grind)) ?_   -- r0.0
  refine hK0 _ ?_; clear hK0
  refine aw_seq fun K1 hK1 => ?_
  refine aw_seq fun K2 hK2 => ?_
  refine aw_reg [0, 1] (by kernel_rfl) ?_   -- r1.1
  simp (disch := omega) only [go_sem, ↓reduceIte, Nat.reduceEqDiff, Nat.reduceLT, Nat.reduceLeDiff, Nat.reduceAdd, Nat.reduceSub, Nat.reduceMul, reduceCtorEq, Int.reduceToNat, Int.reduceNeg]
  repeat refine And.intro (by first | omega | assumption | (simp only [List.length_append, List.length_cons, List.length_nil]; omega) | (intros; first | omega | assumption | (simp_all; done) | grind)) ?_   -- r1.1
  refine hK2 _ ?_; clear hK2
  refine aw_cond _ (by rfl) (rfl) (fun c0 => ?_) (fun c0 => ?_)   -- c0
  · try simp only [decide_eq_true_eq, decide_eq_false_iff_not, Bool.not_eq_true', Bool.not_eq_false', beq_iff_eq, bne_iff_ne, beq_eq_false_iff_ne, bne_eq_false_iff_eq, Bool.not_eq_true, Bool.not_eq_false, Int.not_lt, Int.not_le, Nat.not_lt, Nat.not_le, ne_eq, Int.ofNat_inj, Bool.and_eq_true, Bool.or_eq_true, Bool.and_eq_false_iff, Bool.or_eq_false_iff, Bool.not_eq_eq_eq_not, Bool.not_true, Bool.not_false] at c0   -- c0.t
    refine aw_seq fun K3 hK3 => ?_
    refine aw_reg [] (by kernel_rfl) ?_   -- r2.2
    simp (disch := omega) only [go_sem, ↓reduceIte, Nat.reduceEqDiff, Nat.reduceLT, Nat.reduceLeDiff, Nat.reduceAdd, Nat.reduceSub, Nat.reduceMul, reduceCtorEq, Int.reduceToNat, Int.reduceNeg]
    repeat refine And.intro (by first | omega | assumption | (simp only [List.length_append, List.length_cons, List.length_nil]; omega) | (intros; first | omega | assumption | (simp_all; done) | grind)) ?_   -- r2.2
    refine hK3 _ ?_; clear hK3
    refine aw_ret ?_
    refine ret_tmp 4 rfl (by simp (disch := omega) only [go_sem, ↓reduceIte, Nat.reduceEqDiff, Nat.reduceLT, Nat.reduceLeDiff, Nat.reduceAdd, Nat.reduceSub, Nat.reduceMul, reduceCtorEq, Int.reduceToNat, Int.reduceNeg]) ?_   -- ret0
    exact Exp.is (by simp (disch := omega) only [go_sem, ↓reduceIte, Nat.reduceEqDiff, Nat.reduceLT, Nat.reduceLeDiff, Nat.reduceAdd, Nat.reduceSub, Nat.reduceMul, reduceCtorEq, Int.reduceToNat, Int.reduceNeg] <;> refine congrArg vb ?_ <;> (symm; rw [decide_eq_false_iff_not]; intro h; exact c0 (by rw [h]))) rfl rfl
  · try simp only [decide_eq_true_eq, decide_eq_false_iff_not, Bool.not_eq_true', Bool.not_eq_false', beq_iff_eq, bne_iff_ne, beq_eq_false_iff_ne, bne_eq_false_iff_eq, Bool.not_eq_true, Bool.not_eq_false, Int.not_lt, Int.not_le, Nat.not_lt, Nat.not_le, ne_eq, Int.ofNat_inj, Bool.and_eq_true, Bool.or_eq_true, Bool.and_eq_false_iff, Bool.or_eq_false_iff, Bool.not_eq_eq_eq_not, Bool.not_true, Bool.not_false] at c0   -- c0.f
    refine aw_skip ?_
    refine hK1 _ ?_; clear hK1
    refine aw_seq fun K4 hK4 => ?_
    refine aw_seq fun K5 hK5 => ?_
    refine aw_reg [0, 1] (by kernel_rfl) ?_   -- r3.3
    simp (disch := omega) only [go_sem, ↓reduceIte, Nat.reduceEqDiff, Nat.reduceLT, Nat.reduceLeDiff, Nat.reduceAdd, Nat.reduceSub, Nat.reduceMul, reduceCtorEq, Int.reduceToNat, Int.reduceNeg]
    repeat refine And.intro (by first | omega | assumption | (simp only [List.length_append, List.length_cons, List.length_nil]; omega) | (intros; first | omega | assumption | (simp_all; done) | grind)) ?_   -- r3.3
    refine hK5 _ ?_; clear hK5
    refine aw_block ?_
    refine aw_loopK [0, 1, 12, 13] (fun n ρ => ∃ i, n = a.length - i ∧ (i ≤ a.length) ∧ (decide (a = b) = decide (a.drop i = b.drop i)) ∧ ρ = mkE O [(0, encR a), (1, encR b), (12, vi (a.length : Nat)), (13, vi (i : Nat))]) _ ⟨0, rfl, ?_, ?_, ?_⟩ ?_   -- L0
    · first | assumption | omega | (simp only [List.length_append, List.length_cons, List.length_nil] at *; omega) | (simp_all; done)   -- L0.init.inv0
    · first | assumption | omega | (simp only [List.length_append, List.length_cons, List.length_nil] at *; omega) | (simp_all; done)   -- L0.init.inv1
    · simp (disch := omega) only [go_sem, ↓reduceIte, Nat.reduceEqDiff, Nat.reduceLT, Nat.reduceLeDiff, Nat.reduceAdd, Nat.reduceSub, Nat.reduceMul, reduceCtorEq, Int.reduceToNat, Int.reduceNeg] <;> first | rfl | omega | simp | simp_all   -- L0.init.env
    rintro n ρ ⟨i, rfl, l0_0, l0_1, rfl⟩ K6 hK6
    refine aw_seq fun K7 hK7 => ?_
    refine aw_reg [0, 1, 12, 13] (by kernel_rfl) ?_   -- r4.4
    simp (disch := omega) only [go_sem, ↓reduceIte, Nat.reduceEqDiff, Nat.reduceLT, Nat.reduceLeDiff, Nat.reduceAdd, Nat.reduceSub, Nat.reduceMul, reduceCtorEq, Int.reduceToNat, Int.reduceNeg]
    repeat refine And.intro (by first | omega | assumption | (simp only [List.length_append, List.length_cons, List.length_nil]; omega) | (intros; first | omega | assumption | (simp_all; done) | grind)) ?_   -- r4.4
    refine hK7 _ ?_; clear hK7
    refine aw_seq fun K8 hK8 => ?_
    refine aw_cond _ (by rfl) (rfl) (fun c1 => ?_) (fun c1 => ?_)   -- c1
    · try simp only [decide_eq_true_eq, decide_eq_false_iff_not, Bool.not_eq_true', Bool.not_eq_false', beq_iff_eq, bne_iff_ne, beq_eq_false_iff_ne, bne_eq_false_iff_eq, Bool.not_eq_true, Bool.not_eq_false, Int.not_lt, Int.not_le, Nat.not_lt, Nat.not_le, ne_eq, Int.ofNat_inj, Bool.and_eq_true, Bool.or_eq_true, Bool.and_eq_false_iff, Bool.or_eq_false_iff, Bool.not_eq_eq_eq_not, Bool.not_true, Bool.not_false] at c1   -- c1.t
      refine aw_skip ?_
      refine hK8 _ ?_; clear hK8
      refine aw_seq fun K9 hK9 => ?_
      refine aw_block ?_
      refine aw_seq fun K10 hK10 => ?_
      refine aw_reg [0, 1, 12, 13] (by kernel_rfl) ?_   -- r5.5
      simp (disch := omega) only [go_sem, ↓reduceIte, Nat.reduceEqDiff, Nat.reduceLT, Nat.reduceLeDiff, Nat.reduceAdd, Nat.reduceSub, Nat.reduceMul, reduceCtorEq, Int.reduceToNat, Int.reduceNeg]
      repeat refine And.intro (by first | omega | assumption | (simp only [List.length_append, List.length_cons, List.length_nil]; omega) | (intros; first | omega | assumption | (simp_all; done) | grind)) ?_   -- r5.5
      refine hK10 _ ?_; clear hK10
      refine aw_seq fun K11 hK11 => ?_
      refine aw_regDc [0, 1, 5, 12, 13] [] mixed (by kernel_rfl) ?_   -- r6.6
      simp (disch := omega) only [go_sem, ↓reduceIte, Nat.reduceEqDiff, Nat.reduceLT, Nat.reduceLeDiff, Nat.reduceAdd, Nat.reduceSub, Nat.reduceMul, reduceCtorEq, Int.reduceToNat, Int.reduceNeg]
      repeat refine And.intro (by first | omega | assumption | (simp only [List.length_append, List.length_cons, List.length_nil]; omega) | (intros; first | omega | assumption | (simp_all; done) | grind)) ?_   -- r6.6
      refine hK11 _ ?_; clear hK11
      refine aw_cond _ (by rfl) (rfl) (fun c2 => ?_) (fun c2 => ?_)   -- c2
      · try simp only [decide_eq_true_eq, decide_eq_false_iff_not, Bool.not_eq_true', Bool.not_eq_false', beq_iff_eq, bne_iff_ne, beq_eq_false_iff_ne, bne_eq_false_iff_eq, Bool.not_eq_true, Bool.not_eq_false, Int.not_lt, Int.not_le, Nat.not_lt, Nat.not_le, ne_eq, Int.ofNat_inj, Bool.and_eq_true, Bool.or_eq_true, Bool.and_eq_false_iff, Bool.or_eq_false_iff, Bool.not_eq_eq_eq_not, Bool.not_true, Bool.not_false] at c2   -- c2.t
        refine aw_seq fun K12 hK12 => ?_
        refine aw_reg [] (by kernel_rfl) ?_   -- r7.7
        simp (disch := omega) only [go_sem, ↓reduceIte, Nat.reduceEqDiff, Nat.reduceLT, Nat.reduceLeDiff, Nat.reduceAdd, Nat.reduceSub, Nat.reduceMul, reduceCtorEq, Int.reduceToNat, Int.reduceNeg]
        repeat refine And.intro (by first | omega | assumption | (simp only [List.length_append, List.length_cons, List.length_nil]; omega) | (intros; first | omega | assumption | (simp_all; done) | grind)) ?_   -- r7.7
        refine hK12 _ ?_; clear hK12
        refine aw_ret ?_
        refine ret_tmp 4 rfl (by simp (disch := omega) only [go_sem, ↓reduceIte, Nat.reduceEqDiff, Nat.reduceLT, Nat.reduceLeDiff, Nat.reduceAdd, Nat.reduceSub, Nat.reduceMul, reduceCtorEq, Int.reduceToNat, Int.reduceNeg]) ?_   -- ret1
        exact Exp.is (by simp (disch := omega) only [go_sem, ↓reduceIte, Nat.reduceEqDiff, Nat.reduceLT, Nat.reduceLeDiff, Nat.reduceAdd, Nat.reduceSub, Nat.reduceMul, reduceCtorEq, Int.reduceToNat, Int.reduceNeg] <;> refine congrArg vb ?_ <;> (rw [l0_1]; symm; rw [decide_eq_false_iff_not, dropD default c1, dropD default (show i < b.length by omega)]; intro h; injection h with h1 h2; rw [h1] at c2; simp at c2)) rfl rfl
      · try simp only [decide_eq_true_eq, decide_eq_false_iff_not, Bool.not_eq_true', Bool.not_eq_false', beq_iff_eq, bne_iff_ne, beq_eq_false_iff_ne, bne_eq_false_iff_eq, Bool.not_eq_true, Bool.not_eq_false, Int.not_lt, Int.not_le, Nat.not_lt, Nat.not_le, ne_eq, Int.ofNat_inj, Bool.and_eq_true, Bool.or_eq_true, Bool.and_eq_false_iff, Bool.or_eq_false_iff, Bool.not_eq_eq_eq_not, Bool.not_true, Bool.not_false] at c2   -- c2.f
        refine aw_skip ?_
        refine hK9 _ ?_; clear hK9
        refine aw_reg [0, 1, 12, 13] (by kernel_rfl) ?_   -- r8.8
        simp (disch := omega) only [go_sem, ↓reduceIte, Nat.reduceEqDiff, Nat.reduceLT, Nat.reduceLeDiff, Nat.reduceAdd, Nat.reduceSub, Nat.reduceMul, reduceCtorEq, Int.reduceToNat, Int.reduceNeg]
        repeat refine And.intro (by first | omega | assumption | (simp only [List.length_append, List.length_cons, List.length_nil]; omega) | (intros; first | omega | assumption | (simp_all; done) | grind)) ?_   -- r8.8
        refine hK6 _ _ ?_ ⟨i + 1, rfl, ?_, ?_, ?_⟩   -- L0.0
        · first | assumption | omega | (simp only [List.length_append, List.length_cons, List.length_nil] at *; omega) | (simp_all; done)   -- L0.0.meas
        · first | assumption | omega | (simp only [List.length_append, List.length_cons, List.length_nil] at *; omega) | (simp_all; done)   -- L0.0.inv0
        · have e : a.getD i default = b.getD i default := (extRead _ _).2 (by simpa [and_assoc] using c2)   -- L0.0.inv1
          rw [l0_1, dropD default c1, dropD default (show i < b.length by omega), e]; simp
        · simp (disch := omega) only [go_sem, ↓reduceIte, Nat.reduceEqDiff, Nat.reduceLT, Nat.reduceLeDiff, Nat.reduceAdd, Nat.reduceSub, Nat.reduceMul, reduceCtorEq, Int.reduceToNat, Int.reduceNeg] <;> first | rfl | omega | simp | simp_all   -- L0.0.env
    · try simp only [decide_eq_true_eq, decide_eq_false_iff_not, Bool.not_eq_true', Bool.not_eq_false', beq_iff_eq, bne_iff_ne, beq_eq_false_iff_ne, bne_eq_false_iff_eq, Bool.not_eq_true, Bool.not_eq_false, Int.not_lt, Int.not_le, Nat.not_lt, Nat.not_le, ne_eq, Int.ofNat_inj, Bool.and_eq_true, Bool.or_eq_true, Bool.and_eq_false_iff, Bool.or_eq_false_iff, Bool.not_eq_eq_eq_not, Bool.not_true, Bool.not_false] at c1   -- c1.f
      refine aw_exit ?_
      refine hK4 _ ?_; clear hK4
      refine aw_seq fun K13 hK13 => ?_
      refine aw_reg [] (by kernel_rfl) ?_   -- r9.9
      simp (disch := omega) only [go_sem, ↓reduceIte, Nat.reduceEqDiff, Nat.reduceLT, Nat.reduceLeDiff, Nat.reduceAdd, Nat.reduceSub, Nat.reduceMul, reduceCtorEq, Int.reduceToNat, Int.reduceNeg]
      repeat refine And.intro (by first | omega | assumption | (simp only [List.length_append, List.length_cons, List.length_nil]; omega) | (intros; first | omega | assumption | (simp_all; done) | grind)) ?_   -- r9.9
      refine hK13 _ ?_; clear hK13
      refine aw_ret ?_
      refine ret_tmp 4 rfl (by simp (disch := omega) only [go_sem, ↓reduceIte, Nat.reduceEqDiff, Nat.reduceLT, Nat.reduceLeDiff, Nat.reduceAdd, Nat.reduceSub, Nat.reduceMul, reduceCtorEq, Int.reduceToNat, Int.reduceNeg]) ?_   -- ret2
      exact Exp.is (by simp (disch := omega) only [go_sem, ↓reduceIte, Nat.reduceEqDiff, Nat.reduceLT, Nat.reduceLeDiff, Nat.reduceAdd, Nat.reduceSub, Nat.reduceMul, reduceCtorEq, Int.reduceToNat, Int.reduceNeg] <;> refine congrArg vb ?_ <;> (rw [l0_1, dropE c1, dropE (by omega)]; simp)) rfl rfl

abbrev rowB (l : List Bool) : DV := rowL 4 1 eB l
theorem mapSnocB (l : List Bool) (x : Bool) : l.map eB ++ [[vb x]] = (l ++ [x]).map eB := by simp
attribute [go_sem] mapSnocB
def secG (h : Int → Bool) : Nat → List Bool → List Bool
  | _, [] => []
  | i, x :: xs => (x || h i) :: secG h (i + 1) xs
def ptsG (h : Int → Bool) : Nat → List Int → List Int
  | _, [] => []
  | i, x :: xs => (if h i then 0 else x) :: ptsG h (i + 1) xs
def redG (h : Int → Bool) (l : List Read) : List Read := l.filter fun x => !h x.fId
abbrev secF (l : List Fault) (now : Int) := secG fun a => actF l 1 a now
abbrev ptsF (l : List Fault) (now : Int) := ptsG fun a => actF l 2 a now
abbrev redF (l : List Fault) (now : Int) := redG fun a => actF l 4 a now

theorem ref28_Sections_r (O : Env) (l : List Fault) (oc : List Bool) (now : Int) (hb : l.length ≤ 1000) (ho : oc.length ≤ 1000) : PCall Try.prog O 24 [encF l, encB oc, vi now] (rowB (secF l now 0 oc)) := by
  -- signalling/signallingref28.Sections
  refine pcall_of_aw Try.func24 rfl (by kernel_rfl) ?_
  refine aw_seq fun K0 hK0 => ?_
  refine aw_reg [0, 1, 2] (by kernel_rfl) ?_   -- r0.0
  simp (disch := omega) only [go_sem, ↓reduceIte, Nat.reduceEqDiff, Nat.reduceLT, Nat.reduceLeDiff, Nat.reduceAdd, Nat.reduceSub, Nat.reduceMul, reduceCtorEq, Int.reduceToNat, Int.reduceNeg]
  repeat refine And.intro (by first | omega | assumption | (simp only [List.length_append, List.length_cons, List.length_nil]; omega) | (intros; first | omega | assumption | (simp_all; done) | grind)) ?_   -- r0.0
  refine hK0 _ ?_; clear hK0
  refine aw_seq fun K1 hK1 => ?_
  refine aw_reg [0, 1, 2] (by kernel_rfl) ?_   -- r1.1
  simp (disch := omega) only [go_sem, ↓reduceIte, Nat.reduceEqDiff, Nat.reduceLT, Nat.reduceLeDiff, Nat.reduceAdd, Nat.reduceSub, Nat.reduceMul, reduceCtorEq, Int.reduceToNat, Int.reduceNeg]
  repeat refine And.intro (by first | omega | assumption | (simp only [List.length_append, List.length_cons, List.length_nil]; omega) | (intros; first | omega | assumption | (simp_all; done) | grind)) ?_   -- r1.1
  refine hK1 _ ?_; clear hK1
  refine aw_seq fun K2 hK2 => ?_
  refine aw_seq fun K3 hK3 => ?_
  refine aw_reg [0, 1, 2, 7] (by kernel_rfl) ?_   -- r2.2
  simp (disch := omega) only [go_sem, ↓reduceIte, Nat.reduceEqDiff, Nat.reduceLT, Nat.reduceLeDiff, Nat.reduceAdd, Nat.reduceSub, Nat.reduceMul, reduceCtorEq, Int.reduceToNat, Int.reduceNeg]
  repeat refine And.intro (by first | omega | assumption | (simp only [List.length_append, List.length_cons, List.length_nil]; omega) | (intros; first | omega | assumption | (simp_all; done) | grind)) ?_   -- r2.2
  refine hK3 _ ?_; clear hK3
  refine aw_block ?_
  refine aw_nilR 7 4 1 eB rfl rfl ?_
  refine aw_loopK [0, 2, 7, 10, 11, 12] (fun n ρ => ∃ i, ∃ out, n = oc.length - i ∧ (i ≤ oc.length) ∧ (out ++ secF l now i (oc.drop i) = secF l now 0 oc) ∧ (out.length ≤ i) ∧ ρ = mkE O [(0, encF l), (2, vi now), (7, rowB out), (10, encB oc), (11, vi (oc.length : Nat)), (12, vi (i : Nat))]) _ ⟨0, [], rfl, ?_, ?_, ?_, ?_⟩ ?_   -- L0
  · first | assumption | omega | (simp only [List.length_append, List.length_cons, List.length_nil] at *; omega) | (simp_all; done)   -- L0.init.inv0
  · rfl   -- L0.init.inv1
  · first | assumption | omega | (simp only [List.length_append, List.length_cons, List.length_nil] at *; omega) | (simp_all; done)   -- L0.init.inv2
  · simp (disch := omega) only [go_sem, ↓reduceIte, Nat.reduceEqDiff, Nat.reduceLT, Nat.reduceLeDiff, Nat.reduceAdd, Nat.reduceSub, Nat.reduceMul, reduceCtorEq, Int.reduceToNat, Int.reduceNeg] <;> first | rfl | omega | simp | simp_all   -- L0.init.env
  rintro n ρ ⟨i, out, rfl, l0_0, l0_1, l0_2, rfl⟩ K4 hK4
  refine aw_seq fun K5 hK5 => ?_
  refine aw_reg [0, 1, 2, 7, 10, 11, 12] (by kernel_rfl) ?_   -- r3.3
  simp (disch := omega) only [go_sem, ↓reduceIte, Nat.reduceEqDiff, Nat.reduceLT, Nat.reduceLeDiff, Nat.reduceAdd, Nat.reduceSub, Nat.reduceMul, reduceCtorEq, Int.reduceToNat, Int.reduceNeg]
  repeat refine And.intro (by first | omega | assumption | (simp only [List.length_append, List.length_cons, List.length_nil]; omega) | (intros; first | omega | assumption | (simp_all; done) | grind)) ?_   -- r3.3
  refine hK5 _ ?_; clear hK5
  refine aw_seq fun K6 hK6 => ?_
  refine aw_cond _ (by rfl) (rfl) (fun c0 => ?_) (fun c0 => ?_)   -- c0
  · try simp only [decide_eq_true_eq, decide_eq_false_iff_not, Bool.not_eq_true', Bool.not_eq_false', beq_iff_eq, bne_iff_ne, beq_eq_false_iff_ne, bne_eq_false_iff_eq, Bool.not_eq_true, Bool.not_eq_false, Int.not_lt, Int.not_le, Nat.not_lt, Nat.not_le, ne_eq, Int.ofNat_inj, Bool.and_eq_true, Bool.or_eq_true, Bool.and_eq_false_iff, Bool.or_eq_false_iff, Bool.not_eq_eq_eq_not, Bool.not_true, Bool.not_false] at c0   -- c0.t
    refine aw_skip ?_
    refine hK6 _ ?_; clear hK6
    refine aw_seq fun K7 hK7 => ?_
    refine aw_block ?_
    refine aw_seq fun K8 hK8 => ?_
    refine aw_reg [0, 1, 2, 7, 10, 11, 12] (by kernel_rfl) ?_   -- r4.4
    simp (disch := omega) only [go_sem, ↓reduceIte, Nat.reduceEqDiff, Nat.reduceLT, Nat.reduceLeDiff, Nat.reduceAdd, Nat.reduceSub, Nat.reduceMul, reduceCtorEq, Int.reduceToNat, Int.reduceNeg]
    repeat refine And.intro (by first | omega | assumption | (simp only [List.length_append, List.length_cons, List.length_nil]; omega) | (intros; first | omega | assumption | (simp_all; done) | grind)) ?_   -- r4.4
    refine hK8 _ ?_; clear hK8
    refine aw_reg [0, 1, 2, 7, 8, 9, 10, 11, 12] (by kernel_rfl) ?_   -- r5.5
    simp (disch := omega) only [go_sem, ↓reduceIte, Nat.reduceEqDiff, Nat.reduceLT, Nat.reduceLeDiff, Nat.reduceAdd, Nat.reduceSub, Nat.reduceMul, reduceCtorEq, Int.reduceToNat, Int.reduceNeg]
    repeat refine And.intro (by first | omega | assumption | (simp only [List.length_append, List.length_cons, List.length_nil]; omega) | (intros; first | omega | assumption | (simp_all; done) | grind)) ?_   -- r5.5
    refine callC_to (fun g0 => ref28_Active_ok _ l 1 i now (by omega)) ?_ ?_ ?_   -- r5.5#0
    · first | exact fun _ => trivial | simp
    · rfl
    simp (disch := omega) only [go_sem, ↓reduceIte, Nat.reduceEqDiff, Nat.reduceLT, Nat.reduceLeDiff, Nat.reduceAdd, Nat.reduceSub, Nat.reduceMul, reduceCtorEq, Int.reduceToNat, Int.reduceNeg]
    repeat refine And.intro (by first | omega | assumption | (simp only [List.length_append, List.length_cons, List.length_nil]; omega) | (intros; first | omega | assumption | (simp_all; done) | grind)) ?_   -- r5.5
    refine hK7 _ ?_; clear hK7
    refine aw_reg [0, 1, 2, 7, 10, 11, 12] (by kernel_rfl) ?_   -- r6.6
    simp (disch := omega) only [go_sem, ↓reduceIte, Nat.reduceEqDiff, Nat.reduceLT, Nat.reduceLeDiff, Nat.reduceAdd, Nat.reduceSub, Nat.reduceMul, reduceCtorEq, Int.reduceToNat, Int.reduceNeg]
    repeat refine And.intro (by first | omega | assumption | (simp only [List.length_append, List.length_cons, List.length_nil]; omega) | (intros; first | omega | assumption | (simp_all; done) | grind)) ?_   -- r6.6
    refine hK4 _ _ ?_ ⟨i + 1, out ++ [(oc.getD i default || actF l 1 i now)], rfl, ?_, ?_, ?_, ?_⟩   -- L0.0
    · first | assumption | omega | (simp only [List.length_append, List.length_cons, List.length_nil] at *; omega) | (simp_all; done)   -- L0.0.meas
    · first | assumption | omega | (simp only [List.length_append, List.length_cons, List.length_nil] at *; omega) | (simp_all; done)   -- L0.0.inv0
    · unfold secF at *   -- L0.0.inv1
      rw [← l0_1, dropD default c0, secG]; simp
    · first | assumption | omega | (simp only [List.length_append, List.length_cons, List.length_nil] at *; omega) | (simp_all; done)   -- L0.0.inv2
    · simp (disch := omega) only [go_sem, ↓reduceIte, Nat.reduceEqDiff, Nat.reduceLT, Nat.reduceLeDiff, Nat.reduceAdd, Nat.reduceSub, Nat.reduceMul, reduceCtorEq, Int.reduceToNat, Int.reduceNeg] <;> first | rfl | omega | simp | simp_all   -- L0.0.env
  · try simp only [decide_eq_true_eq, decide_eq_false_iff_not, Bool.not_eq_true', Bool.not_eq_false', beq_iff_eq, bne_iff_ne, beq_eq_false_iff_ne, bne_eq_false_iff_eq, Bool.not_eq_true, Bool.not_eq_false, Int.not_lt, Int.not_le, Nat.not_lt, Nat.not_le, ne_eq, Int.ofNat_inj, Bool.and_eq_true, Bool.or_eq_true, Bool.and_eq_false_iff, Bool.or_eq_false_iff, Bool.not_eq_eq_eq_not, Bool.not_true, Bool.not_false] at c0   -- c0.f
    refine aw_exit ?_
    refine hK2 _ ?_; clear hK2
    refine aw_seq fun K9 hK9 => ?_
    refine aw_reg [7] (by kernel_rfl) ?_   -- r7.7
    simp (disch := omega) only [go_sem, ↓reduceIte, Nat.reduceEqDiff, Nat.reduceLT, Nat.reduceLeDiff, Nat.reduceAdd, Nat.reduceSub, Nat.reduceMul, reduceCtorEq, Int.reduceToNat, Int.reduceNeg]
    repeat refine And.intro (by first | omega | assumption | (simp only [List.length_append, List.length_cons, List.length_nil]; omega) | (intros; first | omega | assumption | (simp_all; done) | grind)) ?_   -- r7.7
    refine hK9 _ ?_; clear hK9
    refine aw_ret ?_
    refine ret_tmp 6 rfl (by simp (disch := omega) only [go_sem, ↓reduceIte, Nat.reduceEqDiff, Nat.reduceLT, Nat.reduceLeDiff, Nat.reduceAdd, Nat.reduceSub, Nat.reduceMul, reduceCtorEq, Int.reduceToNat, Int.reduceNeg]) ?_   -- ret0
    exact Exp.ownL rfl (by omega) rfl rfl (by rw [dropE c0] at l0_1; simpa [secG] using l0_1)

theorem ref28_Points_r (O : Env) (l : List Fault) (oc : List Int) (now : Int) (hb : l.length ≤ 1000) (ho : oc.length ≤ 1000) : PCall Try.prog O 27 [encF l, encI oc, vi now] (rowI (ptsF l now 0 oc)) := by
  -- signalling/signallingref28.Points
  refine pcall_of_aw Try.func27 rfl (by kernel_rfl) ?_
  refine aw_seq fun K0 hK0 => ?_
  refine aw_reg [0, 1, 2] (by kernel_rfl) ?_   -- r0.0
  simp (disch := omega) only [go_sem, ↓reduceIte, Nat.reduceEqDiff, Nat.reduceLT, Nat.reduceLeDiff, Nat.reduceAdd, Nat.reduceSub, Nat.reduceMul, reduceCtorEq, Int.reduceToNat, Int.reduceNeg]
  repeat refine And.intro (by first | omega | assumption | (simp only [List.length_append, List.length_cons, List.length_nil]; omega) | (intros; first | omega | assumption | (simp_all; done) | grind)) ?_   -- r0.0
  refine hK0 _ ?_; clear hK0
  refine aw_seq fun K1 hK1 => ?_
  refine aw_reg [0, 1, 2] (by kernel_rfl) ?_   -- r1.1
  simp (disch := omega) only [go_sem, ↓reduceIte, Nat.reduceEqDiff, Nat.reduceLT, Nat.reduceLeDiff, Nat.reduceAdd, Nat.reduceSub, Nat.reduceMul, reduceCtorEq, Int.reduceToNat, Int.reduceNeg]
  repeat refine And.intro (by first | omega | assumption | (simp only [List.length_append, List.length_cons, List.length_nil]; omega) | (intros; first | omega | assumption | (simp_all; done) | grind)) ?_   -- r1.1
  refine hK1 _ ?_; clear hK1
  refine aw_seq fun K2 hK2 => ?_
  refine aw_seq fun K3 hK3 => ?_
  refine aw_reg [0, 1, 2, 7] (by kernel_rfl) ?_   -- r2.2
  simp (disch := omega) only [go_sem, ↓reduceIte, Nat.reduceEqDiff, Nat.reduceLT, Nat.reduceLeDiff, Nat.reduceAdd, Nat.reduceSub, Nat.reduceMul, reduceCtorEq, Int.reduceToNat, Int.reduceNeg]
  repeat refine And.intro (by first | omega | assumption | (simp only [List.length_append, List.length_cons, List.length_nil]; omega) | (intros; first | omega | assumption | (simp_all; done) | grind)) ?_   -- r2.2
  refine hK3 _ ?_; clear hK3
  refine aw_block ?_
  refine aw_nilR 7 3 1 eI rfl rfl ?_
  refine aw_loopK [0, 2, 7, 10, 11, 12] (fun n ρ => ∃ i, ∃ out, n = oc.length - i ∧ (i ≤ oc.length) ∧ (out ++ ptsF l now i (oc.drop i) = ptsF l now 0 oc) ∧ (out.length ≤ i) ∧ ρ = mkE O [(0, encF l), (2, vi now), (7, rowI out), (10, encI oc), (11, vi (oc.length : Nat)), (12, vi (i : Nat))]) _ ⟨0, [], rfl, ?_, ?_, ?_, ?_⟩ ?_   -- L0
  · first | assumption | omega | (simp only [List.length_append, List.length_cons, List.length_nil] at *; omega) | (simp_all; done)   -- L0.init.inv0
  · rfl   -- L0.init.inv1
  · first | assumption | omega | (simp only [List.length_append, List.length_cons, List.length_nil] at *; omega) | (simp_all; done)   -- L0.init.inv2
  · simp (disch := omega) only [go_sem, ↓reduceIte, Nat.reduceEqDiff, Nat.reduceLT, Nat.reduceLeDiff, Nat.reduceAdd, Nat.reduceSub, Nat.reduceMul, reduceCtorEq, Int.reduceToNat, Int.reduceNeg] <;> first | rfl | omega | simp | simp_all   -- L0.init.env
  rintro n ρ ⟨i, out, rfl, l0_0, l0_1, l0_2, rfl⟩ K4 hK4
  refine aw_seq fun K5 hK5 => ?_
  refine aw_reg [0, 1, 2, 7, 10, 11, 12] (by kernel_rfl) ?_   -- r3.3
  simp (disch := omega) only [go_sem, ↓reduceIte, Nat.reduceEqDiff, Nat.reduceLT, Nat.reduceLeDiff, Nat.reduceAdd, Nat.reduceSub, Nat.reduceMul, reduceCtorEq, Int.reduceToNat, Int.reduceNeg]
  repeat refine And.intro (by first | omega | assumption | (simp only [List.length_append, List.length_cons, List.length_nil]; omega) | (intros; first | omega | assumption | (simp_all; done) | grind)) ?_   -- r3.3
  refine hK5 _ ?_; clear hK5
  refine aw_seq fun K6 hK6 => ?_
  refine aw_cond _ (by rfl) (rfl) (fun c0 => ?_) (fun c0 => ?_)   -- c0
  · try simp only [decide_eq_true_eq, decide_eq_false_iff_not, Bool.not_eq_true', Bool.not_eq_false', beq_iff_eq, bne_iff_ne, beq_eq_false_iff_ne, bne_eq_false_iff_eq, Bool.not_eq_true, Bool.not_eq_false, Int.not_lt, Int.not_le, Nat.not_lt, Nat.not_le, ne_eq, Int.ofNat_inj, Bool.and_eq_true, Bool.or_eq_true, Bool.and_eq_false_iff, Bool.or_eq_false_iff, Bool.not_eq_eq_eq_not, Bool.not_true, Bool.not_false] at c0   -- c0.t
    refine aw_skip ?_
    refine hK6 _ ?_; clear hK6
    refine aw_seq fun K7 hK7 => ?_
    refine aw_block ?_
    refine aw_seq fun K8 hK8 => ?_
    refine aw_reg [0, 1, 2, 7, 10, 11, 12] (by kernel_rfl) ?_   -- r4.4
    simp (disch := omega) only [go_sem, ↓reduceIte, Nat.reduceEqDiff, Nat.reduceLT, Nat.reduceLeDiff, Nat.reduceAdd, Nat.reduceSub, Nat.reduceMul, reduceCtorEq, Int.reduceToNat, Int.reduceNeg]
    repeat refine And.intro (by first | omega | assumption | (simp only [List.length_append, List.length_cons, List.length_nil]; omega) | (intros; first | omega | assumption | (simp_all; done) | grind)) ?_   -- r4.4
    refine hK8 _ ?_; clear hK8
    refine aw_seqJ [0, 2, 7, 9, 10, 11, 12] (fun ρ => ρ = mkE O [(0, encF l), (2, vi now), (7, rowI out), (9, vi (if actF l 2 i now then 0 else oc.getD i default)), (10, encI oc), (11, vi (oc.length : Nat)), (12, vi (i : Nat))]) (fun K9 hK9 => ?_) ?_
    · skip
      refine aw_seq fun K10 hK10 => ?_
      refine aw_reg [0, 1, 2, 7, 8, 9, 10, 11, 12] (by kernel_rfl) ?_   -- r5.5
      simp (disch := omega) only [go_sem, ↓reduceIte, Nat.reduceEqDiff, Nat.reduceLT, Nat.reduceLeDiff, Nat.reduceAdd, Nat.reduceSub, Nat.reduceMul, reduceCtorEq, Int.reduceToNat, Int.reduceNeg]
      repeat refine And.intro (by first | omega | assumption | (simp only [List.length_append, List.length_cons, List.length_nil]; omega) | (intros; first | omega | assumption | (simp_all; done) | grind)) ?_   -- r5.5
      refine callG_of _ (ref28_Active_ok _ l 2 i now (by omega)) ?_   -- r5.5#0
      simp (disch := omega) only [go_sem, ↓reduceIte, Nat.reduceEqDiff, Nat.reduceLT, Nat.reduceLeDiff, Nat.reduceAdd, Nat.reduceSub, Nat.reduceMul, reduceCtorEq, Int.reduceToNat, Int.reduceNeg]
      repeat refine And.intro (by first | omega | assumption | (simp only [List.length_append, List.length_cons, List.length_nil]; omega) | (intros; first | omega | assumption | (simp_all; done) | grind)) ?_   -- r5.5
      refine hK10 _ ?_; clear hK10
      refine aw_cond _ (by rfl) (rfl) (fun c1 => ?_) (fun c1 => ?_)   -- c1
      · try simp only [decide_eq_true_eq, decide_eq_false_iff_not, Bool.not_eq_true', Bool.not_eq_false', beq_iff_eq, bne_iff_ne, beq_eq_false_iff_ne, bne_eq_false_iff_eq, Bool.not_eq_true, Bool.not_eq_false, Int.not_lt, Int.not_le, Nat.not_lt, Nat.not_le, ne_eq, Int.ofNat_inj, Bool.and_eq_true, Bool.or_eq_true, Bool.and_eq_false_iff, Bool.or_eq_false_iff, Bool.not_eq_eq_eq_not, Bool.not_true, Bool.not_false] at c1   -- c1.t
        refine aw_reg [0, 1, 2, 7, 10, 11, 12] (by kernel_rfl) ?_   -- r6.6
        simp (disch := omega) only [go_sem, ↓reduceIte, Nat.reduceEqDiff, Nat.reduceLT, Nat.reduceLeDiff, Nat.reduceAdd, Nat.reduceSub, Nat.reduceMul, reduceCtorEq, Int.reduceToNat, Int.reduceNeg]
        repeat refine And.intro (by first | omega | assumption | (simp only [List.length_append, List.length_cons, List.length_nil]; omega) | (intros; first | omega | assumption | (simp_all; done) | grind)) ?_   -- r6.6
        refine hK9 _ ?_   -- J7.0
        · simp (disch := omega) only [go_sem, ↓reduceIte, Nat.reduceEqDiff, Nat.reduceLT, Nat.reduceLeDiff, Nat.reduceAdd, Nat.reduceSub, Nat.reduceMul, reduceCtorEq, Int.reduceToNat, Int.reduceNeg] <;> simp only [c1, ↓reduceIte, Bool.false_eq_true]   -- J7.0.env
      · try simp only [decide_eq_true_eq, decide_eq_false_iff_not, Bool.not_eq_true', Bool.not_eq_false', beq_iff_eq, bne_iff_ne, beq_eq_false_iff_ne, bne_eq_false_iff_eq, Bool.not_eq_true, Bool.not_eq_false, Int.not_lt, Int.not_le, Nat.not_lt, Nat.not_le, ne_eq, Int.ofNat_inj, Bool.and_eq_true, Bool.or_eq_true, Bool.and_eq_false_iff, Bool.or_eq_false_iff, Bool.not_eq_eq_eq_not, Bool.not_true, Bool.not_false] at c1   -- c1.f
        refine aw_skip ?_
        refine hK9 _ ?_   -- J7.1
        · simp (disch := omega) only [go_sem, ↓reduceIte, Nat.reduceEqDiff, Nat.reduceLT, Nat.reduceLeDiff, Nat.reduceAdd, Nat.reduceSub, Nat.reduceMul, reduceCtorEq, Int.reduceToNat, Int.reduceNeg] <;> simp only [c1, ↓reduceIte, Bool.false_eq_true]   -- J7.1.env
    rintro ρ rfl
    refine aw_reg [0, 1, 2, 7, 9, 10, 11, 12] (by kernel_rfl) ?_   -- r7.7
    simp (disch := omega) only [go_sem, ↓reduceIte, Nat.reduceEqDiff, Nat.reduceLT, Nat.reduceLeDiff, Nat.reduceAdd, Nat.reduceSub, Nat.reduceMul, reduceCtorEq, Int.reduceToNat, Int.reduceNeg]
    repeat refine And.intro (by first | omega | assumption | (simp only [List.length_append, List.length_cons, List.length_nil]; omega) | (intros; first | omega | assumption | (simp_all; done) | grind)) ?_   -- r7.7
    refine hK7 _ ?_; clear hK7
    refine aw_reg [0, 1, 2, 7, 10, 11, 12] (by kernel_rfl) ?_   -- r8.8
    simp (disch := omega) only [go_sem, ↓reduceIte, Nat.reduceEqDiff, Nat.reduceLT, Nat.reduceLeDiff, Nat.reduceAdd, Nat.reduceSub, Nat.reduceMul, reduceCtorEq, Int.reduceToNat, Int.reduceNeg]
    repeat refine And.intro (by first | omega | assumption | (simp only [List.length_append, List.length_cons, List.length_nil]; omega) | (intros; first | omega | assumption | (simp_all; done) | grind)) ?_   -- r8.8
    refine hK4 _ _ ?_ ⟨i + 1, out ++ [if actF l 2 i now then 0 else oc.getD i default], rfl, ?_, ?_, ?_, ?_⟩   -- L0.0
    · first | assumption | omega | (simp only [List.length_append, List.length_cons, List.length_nil] at *; omega) | (simp_all; done)   -- L0.0.meas
    · first | assumption | omega | (simp only [List.length_append, List.length_cons, List.length_nil] at *; omega) | (simp_all; done)   -- L0.0.inv0
    · unfold ptsF at *   -- L0.0.inv1
      rw [← l0_1, dropD default c0, ptsG]; simp
    · first | assumption | omega | (simp only [List.length_append, List.length_cons, List.length_nil] at *; omega) | (simp_all; done)   -- L0.0.inv2
    · simp (disch := omega) only [go_sem, ↓reduceIte, Nat.reduceEqDiff, Nat.reduceLT, Nat.reduceLeDiff, Nat.reduceAdd, Nat.reduceSub, Nat.reduceMul, reduceCtorEq, Int.reduceToNat, Int.reduceNeg] <;> first | rfl | omega | simp | simp_all   -- L0.0.env
  · try simp only [decide_eq_true_eq, decide_eq_false_iff_not, Bool.not_eq_true', Bool.not_eq_false', beq_iff_eq, bne_iff_ne, beq_eq_false_iff_ne, bne_eq_false_iff_eq, Bool.not_eq_true, Bool.not_eq_false, Int.not_lt, Int.not_le, Nat.not_lt, Nat.not_le, ne_eq, Int.ofNat_inj, Bool.and_eq_true, Bool.or_eq_true, Bool.and_eq_false_iff, Bool.or_eq_false_iff, Bool.not_eq_eq_eq_not, Bool.not_true, Bool.not_false] at c0   -- c0.f
    refine aw_exit ?_
    refine hK2 _ ?_; clear hK2
    refine aw_seq fun K11 hK11 => ?_
    refine aw_reg [7] (by kernel_rfl) ?_   -- r9.9
    simp (disch := omega) only [go_sem, ↓reduceIte, Nat.reduceEqDiff, Nat.reduceLT, Nat.reduceLeDiff, Nat.reduceAdd, Nat.reduceSub, Nat.reduceMul, reduceCtorEq, Int.reduceToNat, Int.reduceNeg]
    repeat refine And.intro (by first | omega | assumption | (simp only [List.length_append, List.length_cons, List.length_nil]; omega) | (intros; first | omega | assumption | (simp_all; done) | grind)) ?_   -- r9.9
    refine hK11 _ ?_; clear hK11
    refine aw_ret ?_
    refine ret_tmp 6 rfl (by simp (disch := omega) only [go_sem, ↓reduceIte, Nat.reduceEqDiff, Nat.reduceLT, Nat.reduceLeDiff, Nat.reduceAdd, Nat.reduceSub, Nat.reduceMul, reduceCtorEq, Int.reduceToNat, Int.reduceNeg]) ?_   -- ret0
    exact Exp.ownL rfl (by omega) rfl rfl (by rw [dropE c0] at l0_1; simpa [ptsG] using l0_1)

theorem ref28_Reads_r (O : Env) (l : List Fault) (oc : List Read) (now : Int) (hb : l.length ≤ 1000) (ho : oc.length ≤ 1000) : PCall Try.prog O 30 [encF l, encR oc, vi now] (rowL 46 2 eRead (redF l now oc)) := by
  -- signalling/signallingref28.Reads
  refine pcall_of_aw Try.func30 rfl (by kernel_rfl) ?_
  refine aw_seq fun K0 hK0 => ?_
  refine aw_reg [0, 1, 2] (by kernel_rfl) ?_   -- r0.0
  simp (disch := omega) only [go_sem, ↓reduceIte, Nat.reduceEqDiff, Nat.reduceLT, Nat.reduceLeDiff, Nat.reduceAdd, Nat.reduceSub, Nat.reduceMul, reduceCtorEq, Int.reduceToNat, Int.reduceNeg]
  repeat refine And.intro (by first | omega | assumption | (simp only [List.length_append, List.length_cons, List.length_nil]; omega) | (intros; first | omega | assumption | (simp_all; done) | grind)) ?_   -- r0.0
  refine hK0 _ ?_; clear hK0
  refine aw_seq fun K1 hK1 => ?_
  refine aw_reg [0, 1, 2] (by kernel_rfl) ?_   -- r1.1
  simp (disch := omega) only [go_sem, ↓reduceIte, Nat.reduceEqDiff, Nat.reduceLT, Nat.reduceLeDiff, Nat.reduceAdd, Nat.reduceSub, Nat.reduceMul, reduceCtorEq, Int.reduceToNat, Int.reduceNeg]
  repeat refine And.intro (by first | omega | assumption | (simp only [List.length_append, List.length_cons, List.length_nil]; omega) | (intros; first | omega | assumption | (simp_all; done) | grind)) ?_   -- r1.1
  refine hK1 _ ?_; clear hK1
  refine aw_seq fun K2 hK2 => ?_
  refine aw_seq fun K3 hK3 => ?_
  refine aw_reg [0, 1, 2, 7] (by kernel_rfl) ?_   -- r2.2
  simp (disch := omega) only [go_sem, ↓reduceIte, Nat.reduceEqDiff, Nat.reduceLT, Nat.reduceLeDiff, Nat.reduceAdd, Nat.reduceSub, Nat.reduceMul, reduceCtorEq, Int.reduceToNat, Int.reduceNeg]
  repeat refine And.intro (by first | omega | assumption | (simp only [List.length_append, List.length_cons, List.length_nil]; omega) | (intros; first | omega | assumption | (simp_all; done) | grind)) ?_   -- r2.2
  refine hK3 _ ?_; clear hK3
  refine aw_block ?_
  refine aw_nilR 7 46 2 eRead rfl rfl ?_
  refine aw_loopK [0, 2, 7, 10, 11, 12] (fun n ρ => ∃ i, ∃ out, n = oc.length - i ∧ (i ≤ oc.length) ∧ (out ++ redF l now (oc.drop i) = redF l now oc) ∧ (out.length ≤ i) ∧ ρ = mkE O [(0, encF l), (2, vi now), (7, rowL 46 2 eRead out), (10, encR oc), (11, vi (oc.length : Nat)), (12, vi (i : Nat))]) _ ⟨0, [], rfl, ?_, ?_, ?_, ?_⟩ ?_   -- L0
  · first | assumption | omega | (simp only [List.length_append, List.length_cons, List.length_nil] at *; omega) | (simp_all; done)   -- L0.init.inv0
  · rfl   -- L0.init.inv1
  · first | assumption | omega | (simp only [List.length_append, List.length_cons, List.length_nil] at *; omega) | (simp_all; done)   -- L0.init.inv2
  · simp (disch := omega) only [go_sem, ↓reduceIte, Nat.reduceEqDiff, Nat.reduceLT, Nat.reduceLeDiff, Nat.reduceAdd, Nat.reduceSub, Nat.reduceMul, reduceCtorEq, Int.reduceToNat, Int.reduceNeg] <;> first | rfl | omega | simp | simp_all   -- L0.init.env
  rintro n ρ ⟨i, out, rfl, l0_0, l0_1, l0_2, rfl⟩ K4 hK4
  refine aw_seq fun K5 hK5 => ?_
  refine aw_reg [0, 1, 2, 7, 10, 11, 12] (by kernel_rfl) ?_   -- r3.3
  simp (disch := omega) only [go_sem, ↓reduceIte, Nat.reduceEqDiff, Nat.reduceLT, Nat.reduceLeDiff, Nat.reduceAdd, Nat.reduceSub, Nat.reduceMul, reduceCtorEq, Int.reduceToNat, Int.reduceNeg]
  repeat refine And.intro (by first | omega | assumption | (simp only [List.length_append, List.length_cons, List.length_nil]; omega) | (intros; first | omega | assumption | (simp_all; done) | grind)) ?_   -- r3.3
  refine hK5 _ ?_; clear hK5
  refine aw_seq fun K6 hK6 => ?_
  refine aw_cond _ (by rfl) (rfl) (fun c0 => ?_) (fun c0 => ?_)   -- c0
  · try simp only [decide_eq_true_eq, decide_eq_false_iff_not, Bool.not_eq_true', Bool.not_eq_false', beq_iff_eq, bne_iff_ne, beq_eq_false_iff_ne, bne_eq_false_iff_eq, Bool.not_eq_true, Bool.not_eq_false, Int.not_lt, Int.not_le, Nat.not_lt, Nat.not_le, ne_eq, Int.ofNat_inj, Bool.and_eq_true, Bool.or_eq_true, Bool.and_eq_false_iff, Bool.or_eq_false_iff, Bool.not_eq_eq_eq_not, Bool.not_true, Bool.not_false] at c0   -- c0.t
    refine aw_skip ?_
    refine hK6 _ ?_; clear hK6
    refine aw_seq fun K7 hK7 => ?_
    refine aw_block ?_
    refine aw_seq fun K8 hK8 => ?_
    refine aw_reg [0, 1, 2, 7, 10, 11, 12] (by kernel_rfl) ?_   -- r4.4
    simp (disch := omega) only [go_sem, ↓reduceIte, Nat.reduceEqDiff, Nat.reduceLT, Nat.reduceLeDiff, Nat.reduceAdd, Nat.reduceSub, Nat.reduceMul, reduceCtorEq, Int.reduceToNat, Int.reduceNeg]
    repeat refine And.intro (by first | omega | assumption | (simp only [List.length_append, List.length_cons, List.length_nil]; omega) | (intros; first | omega | assumption | (simp_all; done) | grind)) ?_   -- r4.4
    refine hK8 _ ?_; clear hK8
    refine aw_seq fun K9 hK9 => ?_
    refine aw_reg [0, 1, 2, 7, 9, 10, 11, 12] (by kernel_rfl) ?_   -- r5.5
    simp (disch := omega) only [go_sem, ↓reduceIte, Nat.reduceEqDiff, Nat.reduceLT, Nat.reduceLeDiff, Nat.reduceAdd, Nat.reduceSub, Nat.reduceMul, reduceCtorEq, Int.reduceToNat, Int.reduceNeg]
    repeat refine And.intro (by first | omega | assumption | (simp only [List.length_append, List.length_cons, List.length_nil]; omega) | (intros; first | omega | assumption | (simp_all; done) | grind)) ?_   -- r5.5
    refine callG_of _ (ref28_Active_ok _ l 4 (oc.getD i default).fId now (by omega)) ?_   -- r5.5#0
    simp (disch := omega) only [go_sem, ↓reduceIte, Nat.reduceEqDiff, Nat.reduceLT, Nat.reduceLeDiff, Nat.reduceAdd, Nat.reduceSub, Nat.reduceMul, reduceCtorEq, Int.reduceToNat, Int.reduceNeg]
    repeat refine And.intro (by first | omega | assumption | (simp only [List.length_append, List.length_cons, List.length_nil]; omega) | (intros; first | omega | assumption | (simp_all; done) | grind)) ?_   -- r5.5
    refine hK9 _ ?_; clear hK9
    refine aw_cond _ (by rfl) (rfl) (fun c1 => ?_) (fun c1 => ?_)   -- c1
    · try simp only [decide_eq_true_eq, decide_eq_false_iff_not, Bool.not_eq_true', Bool.not_eq_false', beq_iff_eq, bne_iff_ne, beq_eq_false_iff_ne, bne_eq_false_iff_eq, Bool.not_eq_true, Bool.not_eq_false, Int.not_lt, Int.not_le, Nat.not_lt, Nat.not_le, ne_eq, Int.ofNat_inj, Bool.and_eq_true, Bool.or_eq_true, Bool.and_eq_false_iff, Bool.or_eq_false_iff, Bool.not_eq_eq_eq_not, Bool.not_true, Bool.not_false] at c1   -- c1.t
      refine aw_reg [0, 1, 2, 7, 9, 10, 11, 12] (by kernel_rfl) ?_   -- r6.6
      simp (disch := omega) only [go_sem, ↓reduceIte, Nat.reduceEqDiff, Nat.reduceLT, Nat.reduceLeDiff, Nat.reduceAdd, Nat.reduceSub, Nat.reduceMul, reduceCtorEq, Int.reduceToNat, Int.reduceNeg]
      repeat refine And.intro (by first | omega | assumption | (simp only [List.length_append, List.length_cons, List.length_nil]; omega) | (intros; first | omega | assumption | (simp_all; done) | grind)) ?_   -- r6.6
      refine hK7 _ ?_; clear hK7
      refine aw_reg [0, 1, 2, 7, 10, 11, 12] (by kernel_rfl) ?_   -- r7.7
      simp (disch := omega) only [go_sem, ↓reduceIte, Nat.reduceEqDiff, Nat.reduceLT, Nat.reduceLeDiff, Nat.reduceAdd, Nat.reduceSub, Nat.reduceMul, reduceCtorEq, Int.reduceToNat, Int.reduceNeg]
      repeat refine And.intro (by first | omega | assumption | (simp only [List.length_append, List.length_cons, List.length_nil]; omega) | (intros; first | omega | assumption | (simp_all; done) | grind)) ?_   -- r7.7
      refine hK4 _ _ ?_ ⟨i + 1, out ++ [oc.getD i default], rfl, ?_, ?_, ?_, ?_⟩   -- L0.0
      · first | assumption | omega | (simp only [List.length_append, List.length_cons, List.length_nil] at *; omega) | (simp_all; done)   -- L0.0.meas
      · first | assumption | omega | (simp only [List.length_append, List.length_cons, List.length_nil] at *; omega) | (simp_all; done)   -- L0.0.inv0
      · rw [← l0_1, dropD default c0]; unfold redF redG; rw [List.filter_cons, if_pos (by simpa using c1)]; simp   -- L0.0.inv1
      · first | assumption | omega | (simp only [List.length_append, List.length_cons, List.length_nil] at *; omega) | (simp_all; done)   -- L0.0.inv2
      · simp (disch := omega) only [go_sem, ↓reduceIte, Nat.reduceEqDiff, Nat.reduceLT, Nat.reduceLeDiff, Nat.reduceAdd, Nat.reduceSub, Nat.reduceMul, reduceCtorEq, Int.reduceToNat, Int.reduceNeg] <;> first | rfl | omega | simp | simp_all   -- L0.0.env
    · try simp only [decide_eq_true_eq, decide_eq_false_iff_not, Bool.not_eq_true', Bool.not_eq_false', beq_iff_eq, bne_iff_ne, beq_eq_false_iff_ne, bne_eq_false_iff_eq, Bool.not_eq_true, Bool.not_eq_false, Int.not_lt, Int.not_le, Nat.not_lt, Nat.not_le, ne_eq, Int.ofNat_inj, Bool.and_eq_true, Bool.or_eq_true, Bool.and_eq_false_iff, Bool.or_eq_false_iff, Bool.not_eq_eq_eq_not, Bool.not_true, Bool.not_false] at c1   -- c1.f
      refine aw_skip ?_
      refine hK7 _ ?_; clear hK7
      refine aw_reg [0, 1, 2, 7, 10, 11, 12] (by kernel_rfl) ?_   -- r7.8
      simp (disch := omega) only [go_sem, ↓reduceIte, Nat.reduceEqDiff, Nat.reduceLT, Nat.reduceLeDiff, Nat.reduceAdd, Nat.reduceSub, Nat.reduceMul, reduceCtorEq, Int.reduceToNat, Int.reduceNeg]
      repeat refine And.intro (by first | omega | assumption | (simp only [List.length_append, List.length_cons, List.length_nil]; omega) | (intros; first | omega | assumption | (simp_all; done) | grind)) ?_   -- r7.8
      refine hK4 _ _ ?_ ⟨i + 1, out, rfl, ?_, ?_, ?_, ?_⟩   -- L0.1
      · first | assumption | omega | (simp only [List.length_append, List.length_cons, List.length_nil] at *; omega) | (simp_all; done)   -- L0.1.meas
      · first | assumption | omega | (simp only [List.length_append, List.length_cons, List.length_nil] at *; omega) | (simp_all; done)   -- L0.1.inv0
      · rw [← l0_1, dropD default c0]; unfold redF redG; rw [List.filter_cons, if_neg (by simpa using c1)]   -- L0.1.inv1
      · first | assumption | omega | (simp only [List.length_append, List.length_cons, List.length_nil] at *; omega) | (simp_all; done)   -- L0.1.inv2
      · simp (disch := omega) only [go_sem, ↓reduceIte, Nat.reduceEqDiff, Nat.reduceLT, Nat.reduceLeDiff, Nat.reduceAdd, Nat.reduceSub, Nat.reduceMul, reduceCtorEq, Int.reduceToNat, Int.reduceNeg] <;> first | rfl | omega | simp | simp_all   -- L0.1.env
  · try simp only [decide_eq_true_eq, decide_eq_false_iff_not, Bool.not_eq_true', Bool.not_eq_false', beq_iff_eq, bne_iff_ne, beq_eq_false_iff_ne, bne_eq_false_iff_eq, Bool.not_eq_true, Bool.not_eq_false, Int.not_lt, Int.not_le, Nat.not_lt, Nat.not_le, ne_eq, Int.ofNat_inj, Bool.and_eq_true, Bool.or_eq_true, Bool.and_eq_false_iff, Bool.or_eq_false_iff, Bool.not_eq_eq_eq_not, Bool.not_true, Bool.not_false] at c0   -- c0.f
    refine aw_exit ?_
    refine hK2 _ ?_; clear hK2
    refine aw_seq fun K10 hK10 => ?_
    refine aw_reg [7] (by kernel_rfl) ?_   -- r8.9
    simp (disch := omega) only [go_sem, ↓reduceIte, Nat.reduceEqDiff, Nat.reduceLT, Nat.reduceLeDiff, Nat.reduceAdd, Nat.reduceSub, Nat.reduceMul, reduceCtorEq, Int.reduceToNat, Int.reduceNeg]
    repeat refine And.intro (by first | omega | assumption | (simp only [List.length_append, List.length_cons, List.length_nil]; omega) | (intros; first | omega | assumption | (simp_all; done) | grind)) ?_   -- r8.9
    refine hK10 _ ?_; clear hK10
    refine aw_ret ?_
    refine ret_tmp 6 rfl (by simp (disch := omega) only [go_sem, ↓reduceIte, Nat.reduceEqDiff, Nat.reduceLT, Nat.reduceLeDiff, Nat.reduceAdd, Nat.reduceSub, Nat.reduceMul, reduceCtorEq, Int.reduceToNat, Int.reduceNeg]) ?_   -- ret0
    exact Exp.ownL rfl (by omega) rfl rfl (by rw [dropE c0] at l0_1; simpa [redG] using l0_1)

end Go.Sg
