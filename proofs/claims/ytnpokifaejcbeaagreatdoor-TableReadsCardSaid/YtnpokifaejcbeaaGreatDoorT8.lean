/- Contracts of Same, of the program and of the reference. Printed by genw.py. -/
import Derived.Test.YtnpokifaejcbeaaGreatDoorSgObl
import Derived.Test.YtnpokifaejcbeaaGreatDoorT7
set_option linter.unusedVariables false
set_option linter.unusedSimpArgs false
set_option maxRecDepth 8000
namespace Go.Sg
open Go.Proofs

theorem slices_EqualFunc_Route_ok (O : Env) (a b : List Route) : PCall Tryz.prog O 70 [encRt a, encRt b, .fn 71 [] []] (vb (a == b)) := by
  -- slices.EqualFunc[[]signalling/api.Route,[]signalling/api.Route,signalling/api.Route,signalling/api.Route]
  refine pcall_has 0 rfl (.sl _ _ _) fun ha => ?_
  refine pcall_has 1 rfl (.sl _ _ _) fun hb => ?_
  refine pcall_of_aw Tryz.func70 rfl (by kernel_rfl) ?_
  refine aw_seq fun K0 hK0 => ?_
  refine aw_reg [0, 1, 2] (by kernel_rfl) ?_
  simp (disch := omega) only [go_sem, ↓reduceIte, Nat.reduceEqDiff, Nat.reduceLT, Nat.reduceLeDiff, Nat.reduceAdd, Nat.reduceSub, Nat.reduceMul, reduceCtorEq, Int.reduceToNat, Int.reduceNeg, show hasBody Tryz.prog 71 = true from rfl]
  repeat refine And.intro obl ?_
  refine hK0 _ ?_; clear hK0
  refine aw_seq fun K1 hK1 => ?_
  refine aw_seq fun K2 hK2 => ?_
  refine aw_reg [0, 1, 2] (by kernel_rfl) ?_
  simp (disch := omega) only [go_sem, ↓reduceIte, Nat.reduceEqDiff, Nat.reduceLT, Nat.reduceLeDiff, Nat.reduceAdd, Nat.reduceSub, Nat.reduceMul, reduceCtorEq, Int.reduceToNat, Int.reduceNeg, show hasBody Tryz.prog 71 = true from rfl]
  repeat refine And.intro obl ?_
  refine hK2 _ ?_; clear hK2
  refine aw_cond _ (by rfl) (rfl) (fun c0 => ?_) (fun c0 => ?_)
  · try simp only [push_cast] at c0
    refine aw_seq fun K3 hK3 => ?_
    refine aw_reg [] (by kernel_rfl) ?_
    simp (disch := omega) only [go_sem, ↓reduceIte, Nat.reduceEqDiff, Nat.reduceLT, Nat.reduceLeDiff, Nat.reduceAdd, Nat.reduceSub, Nat.reduceMul, reduceCtorEq, Int.reduceToNat, Int.reduceNeg, show hasBody Tryz.prog 71 = true from rfl]
    repeat refine And.intro obl ?_
    refine hK3 _ ?_; clear hK3
    refine aw_ret ?_
    refine ret_tmp 6 rfl (by simp (disch := omega) only [go_sem, ↓reduceIte, Nat.reduceEqDiff, Nat.reduceLT, Nat.reduceLeDiff, Nat.reduceAdd, Nat.reduceSub, Nat.reduceMul, reduceCtorEq, Int.reduceToNat, Int.reduceNeg, show hasBody Tryz.prog 71 = true from rfl]) ?_
    exact Exp.is (by simp (disch := omega) only [go_sem, ↓reduceIte, Nat.reduceEqDiff, Nat.reduceLT, Nat.reduceLeDiff, Nat.reduceAdd, Nat.reduceSub, Nat.reduceMul, reduceCtorEq, Int.reduceToNat, Int.reduceNeg, show hasBody Tryz.prog 71 = true from rfl] <;> refine congrArg vb ?_ <;> (symm; rw [beq_eq_false_iff_ne]; intro h; exact c0 (by rw [h]))) rfl rfl
  · try simp only [push_cast] at c0
    refine aw_skip ?_
    refine hK1 _ ?_; clear hK1
    refine aw_seq fun K4 hK4 => ?_
    refine aw_seq fun K5 hK5 => ?_
    refine aw_reg [0, 1, 2] (by kernel_rfl) ?_
    simp (disch := omega) only [go_sem, ↓reduceIte, Nat.reduceEqDiff, Nat.reduceLT, Nat.reduceLeDiff, Nat.reduceAdd, Nat.reduceSub, Nat.reduceMul, reduceCtorEq, Int.reduceToNat, Int.reduceNeg, show hasBody Tryz.prog 71 = true from rfl]
    repeat refine And.intro obl ?_
    refine hK5 _ ?_; clear hK5
    refine aw_block ?_
    refine aw_loopK [1, 2, 15, 16, 17] (fun n ρ => ∃ i, n = a.length - i ∧ (i ≤ a.length) ∧ ((a == b) = (a.drop i == b.drop i)) ∧ ρ = mkE O [(1, encRt b), (2, .fn 71 [] []), (15, encRt a), (16, vi (a.length : Nat)), (17, vi (i : Nat))]) _ ⟨0, rfl, ?_, ?_, ?_⟩ ?_
    · exact dfl
    · rfl
    · simp (disch := omega) only [go_sem, ↓reduceIte, Nat.reduceEqDiff, Nat.reduceLT, Nat.reduceLeDiff, Nat.reduceAdd, Nat.reduceSub, Nat.reduceMul, reduceCtorEq, Int.reduceToNat, Int.reduceNeg, show hasBody Tryz.prog 71 = true from rfl] <;> first | rfl | omega | simp | simp_all
    rintro n ρ ⟨i, rfl, l0_0, l0_1, rfl⟩ K6 hK6
    refine aw_seq fun K7 hK7 => ?_
    refine aw_reg [0, 1, 2, 15, 16, 17] (by kernel_rfl) ?_
    simp (disch := omega) only [go_sem, ↓reduceIte, Nat.reduceEqDiff, Nat.reduceLT, Nat.reduceLeDiff, Nat.reduceAdd, Nat.reduceSub, Nat.reduceMul, reduceCtorEq, Int.reduceToNat, Int.reduceNeg, show hasBody Tryz.prog 71 = true from rfl]
    repeat refine And.intro obl ?_
    refine hK7 _ ?_; clear hK7
    refine aw_seq fun K8 hK8 => ?_
    refine aw_cond _ (by rfl) (rfl) (fun c1 => ?_) (fun c1 => ?_)
    · try simp only [push_cast] at c1
      refine aw_skip ?_
      refine hK8 _ ?_; clear hK8
      refine aw_seq fun K9 hK9 => ?_
      refine aw_block ?_
      refine aw_seq fun K10 hK10 => ?_
      refine aw_reg [0, 1, 2, 15, 16, 17] (by kernel_rfl) ?_
      simp (disch := omega) only [go_sem, ↓reduceIte, Nat.reduceEqDiff, Nat.reduceLT, Nat.reduceLeDiff, Nat.reduceAdd, Nat.reduceSub, Nat.reduceMul, reduceCtorEq, Int.reduceToNat, Int.reduceNeg, show hasBody Tryz.prog 71 = true from rfl]
      repeat refine And.intro obl ?_
      refine hK10 _ ?_; clear hK10
      refine aw_seq fun K11 hK11 => ?_
      refine aw_reg [0, 1, 2, 7, 8, 15, 16, 17] (by kernel_rfl) ?_
      simp (disch := omega) only [go_sem, ↓reduceIte, Nat.reduceEqDiff, Nat.reduceLT, Nat.reduceLeDiff, Nat.reduceAdd, Nat.reduceSub, Nat.reduceMul, reduceCtorEq, Int.reduceToNat, Int.reduceNeg, show hasBody Tryz.prog 71 = true from rfl]
      repeat refine And.intro obl ?_
      refine hK11 _ ?_; clear hK11
      refine aw_seq fun K12 hK12 => ?_
      refine aw_reg [0, 1, 2, 8, 9, 15, 16, 17] (by kernel_rfl) ?_
      simp (disch := omega) only [go_sem, ↓reduceIte, Nat.reduceEqDiff, Nat.reduceLT, Nat.reduceLeDiff, Nat.reduceAdd, Nat.reduceSub, Nat.reduceMul, reduceCtorEq, Int.reduceToNat, Int.reduceNeg, show hasBody Tryz.prog 71 = true from rfl]
      repeat refine And.intro obl ?_
      refine callG_of _ (route_Same_ok _ (a.getD i default) (b.getD i default)) ?_
      simp (disch := omega) only [go_sem, ↓reduceIte, Nat.reduceEqDiff, Nat.reduceLT, Nat.reduceLeDiff, Nat.reduceAdd, Nat.reduceSub, Nat.reduceMul, reduceCtorEq, Int.reduceToNat, Int.reduceNeg, show hasBody Tryz.prog 71 = true from rfl]
      repeat refine And.intro obl ?_
      refine hK12 _ ?_; clear hK12
      refine aw_cond _ (by rfl) (rfl) (fun c2 => ?_) (fun c2 => ?_)
      · try simp only [push_cast] at c2
        have c2 : a.getD i default ≠ b.getD i default := of_decide_eq_false (by simpa [rtSame] using c2)
        refine aw_seq fun K13 hK13 => ?_
        refine aw_reg [] (by kernel_rfl) ?_
        simp (disch := omega) only [go_sem, ↓reduceIte, Nat.reduceEqDiff, Nat.reduceLT, Nat.reduceLeDiff, Nat.reduceAdd, Nat.reduceSub, Nat.reduceMul, reduceCtorEq, Int.reduceToNat, Int.reduceNeg, show hasBody Tryz.prog 71 = true from rfl]
        repeat refine And.intro obl ?_
        refine hK13 _ ?_; clear hK13
        refine aw_ret ?_
        refine ret_tmp 6 rfl (by simp (disch := omega) only [go_sem, ↓reduceIte, Nat.reduceEqDiff, Nat.reduceLT, Nat.reduceLeDiff, Nat.reduceAdd, Nat.reduceSub, Nat.reduceMul, reduceCtorEq, Int.reduceToNat, Int.reduceNeg, show hasBody Tryz.prog 71 = true from rfl]) ?_
        exact Exp.is (by simp (disch := omega) only [go_sem, ↓reduceIte, Nat.reduceEqDiff, Nat.reduceLT, Nat.reduceLeDiff, Nat.reduceAdd, Nat.reduceSub, Nat.reduceMul, reduceCtorEq, Int.reduceToNat, Int.reduceNeg, show hasBody Tryz.prog 71 = true from rfl] <;> refine congrArg vb ?_ <;> (rw [l0_1, dropD default c1, dropD default (show i < b.length by omega)]; symm; rw [beq_eq_false_iff_ne]; intro h; exact c2 (by injection h))) rfl rfl
      · try simp only [push_cast] at c2
        have c2 : a.getD i default = b.getD i default := of_decide_eq_true (by simpa [rtSame] using c2)
        refine aw_skip ?_
        refine hK9 _ ?_; clear hK9
        refine aw_reg [0, 1, 2, 15, 16, 17] (by kernel_rfl) ?_
        simp (disch := omega) only [go_sem, ↓reduceIte, Nat.reduceEqDiff, Nat.reduceLT, Nat.reduceLeDiff, Nat.reduceAdd, Nat.reduceSub, Nat.reduceMul, reduceCtorEq, Int.reduceToNat, Int.reduceNeg, show hasBody Tryz.prog 71 = true from rfl]
        repeat refine And.intro obl ?_
        refine hK6 _ _ ?_ ⟨i + 1, rfl, ?_, ?_, ?_⟩
        · exact dfl
        · exact dfl
        · rw [l0_1, dropD default c1, dropD default (show i < b.length by omega), c2]; simp
        · simp (disch := omega) only [go_sem, ↓reduceIte, Nat.reduceEqDiff, Nat.reduceLT, Nat.reduceLeDiff, Nat.reduceAdd, Nat.reduceSub, Nat.reduceMul, reduceCtorEq, Int.reduceToNat, Int.reduceNeg, show hasBody Tryz.prog 71 = true from rfl] <;> first | rfl | omega | simp | simp_all
    · try simp only [push_cast] at c1
      refine aw_exit ?_
      refine hK4 _ ?_; clear hK4
      refine aw_seq fun K14 hK14 => ?_
      refine aw_reg [] (by kernel_rfl) ?_
      simp (disch := omega) only [go_sem, ↓reduceIte, Nat.reduceEqDiff, Nat.reduceLT, Nat.reduceLeDiff, Nat.reduceAdd, Nat.reduceSub, Nat.reduceMul, reduceCtorEq, Int.reduceToNat, Int.reduceNeg, show hasBody Tryz.prog 71 = true from rfl]
      repeat refine And.intro obl ?_
      refine hK14 _ ?_; clear hK14
      refine aw_ret ?_
      refine ret_tmp 6 rfl (by simp (disch := omega) only [go_sem, ↓reduceIte, Nat.reduceEqDiff, Nat.reduceLT, Nat.reduceLeDiff, Nat.reduceAdd, Nat.reduceSub, Nat.reduceMul, reduceCtorEq, Int.reduceToNat, Int.reduceNeg, show hasBody Tryz.prog 71 = true from rfl]) ?_
      exact Exp.is (by simp (disch := omega) only [go_sem, ↓reduceIte, Nat.reduceEqDiff, Nat.reduceLT, Nat.reduceLeDiff, Nat.reduceAdd, Nat.reduceSub, Nat.reduceMul, reduceCtorEq, Int.reduceToNat, Int.reduceNeg, show hasBody Tryz.prog 71 = true from rfl] <;> refine congrArg vb ?_ <;> (rw [l0_1, dropE c1, dropE (by omega)]; rfl)) rfl rfl

def tbSame (t u : Table) : Bool := decide (t = u)

set_option maxHeartbeats 2000000 in
theorem table_Same_ok (O : Env) (t u : Table) : PCall Tryz.prog O 32 [.agg (eTable t), .agg (eTable u)] (vb (tbSame t u)) := by
  -- signalling/table.Same
  refine pcall_of_aw Tryz.func32 rfl (by kernel_rfl) ?_
  refine aw_seq fun K0 hK0 => ?_
  refine aw_reg [0, 1] (by kernel_rfl) ?_
  simp (disch := omega) only [go_sem, ↓reduceIte, Nat.reduceEqDiff, Nat.reduceLT, Nat.reduceLeDiff, Nat.reduceAdd, Nat.reduceSub, Nat.reduceMul, reduceCtorEq, Int.reduceToNat, Int.reduceNeg]
  repeat refine And.intro obl ?_
  refine hK0 _ ?_; clear hK0
  refine aw_seq fun K1 hK1 => ?_
  refine aw_reg [2, 3] (by kernel_rfl) ?_
  simp (disch := omega) only [go_sem, ↓reduceIte, Nat.reduceEqDiff, Nat.reduceLT, Nat.reduceLeDiff, Nat.reduceAdd, Nat.reduceSub, Nat.reduceMul, reduceCtorEq, Int.reduceToNat, Int.reduceNeg]
  repeat refine And.intro obl ?_
  refine callC_to (fun g0 => slices_Equal_int_ok _ t.fPoints u.fPoints) ?_ ?_ ?_
  · first | exact fun _ => trivial | simp
  · rfl
  simp (disch := omega) only [go_sem, ↓reduceIte, Nat.reduceEqDiff, Nat.reduceLT, Nat.reduceLeDiff, Nat.reduceAdd, Nat.reduceSub, Nat.reduceMul, reduceCtorEq, Int.reduceToNat, Int.reduceNeg]
  repeat refine And.intro obl ?_
  refine callC_to (fun g1 => slices_Equal_int_ok _ t.fHomes u.fHomes) ?_ ?_ ?_
  · first | exact fun _ => trivial | simp
  · rfl
  simp (disch := omega) only [go_sem, ↓reduceIte, Nat.reduceEqDiff, Nat.reduceLT, Nat.reduceLeDiff, Nat.reduceAdd, Nat.reduceSub, Nat.reduceMul, reduceCtorEq, Int.reduceToNat, Int.reduceNeg]
  repeat refine And.intro obl ?_
  refine callC_to (fun g2 => slices_EqualFunc_Route_ok _ t.fRoutes u.fRoutes) ?_ ?_ ?_
  · first | exact fun _ => trivial | simp
  · rfl
  simp (disch := omega) only [go_sem, ↓reduceIte, Nat.reduceEqDiff, Nat.reduceLT, Nat.reduceLeDiff, Nat.reduceAdd, Nat.reduceSub, Nat.reduceMul, reduceCtorEq, Int.reduceToNat, Int.reduceNeg]
  repeat refine And.intro obl ?_
  refine hK1 _ ?_; clear hK1
  refine aw_ret ?_
  refine ret_tmp 4 rfl (by simp (disch := omega) only [go_sem, ↓reduceIte, Nat.reduceEqDiff, Nat.reduceLT, Nat.reduceLeDiff, Nat.reduceAdd, Nat.reduceSub, Nat.reduceMul, reduceCtorEq, Int.reduceToNat, Int.reduceNeg]) ?_
  exact Exp.is (by simp (disch := omega) only [go_sem, ↓reduceIte, Nat.reduceEqDiff, Nat.reduceLT, Nat.reduceLeDiff, Nat.reduceAdd, Nat.reduceSub, Nat.reduceMul, reduceCtorEq, Int.reduceToNat, Int.reduceNeg] <;> refine congrArg vb ?_ <;> (rw [tbSame, Bool.eq_iff_iff]; simp [extTable, and_assoc]; grind)) rfl rfl

set_option maxHeartbeats 2000000 in
theorem ref16_Same_ok (O : Env) (t u : Table) : PCall Tryz.prog O 13 [.agg (eTable t), .agg (eTable u)] (vb (tbSame t u)) := by
  -- signalling/signallingref16.Same
  refine pcall_has 0 rfl (.agg (d := encRt t.fRoutes) (by simp [eTable]) (.sl _ _ _)) fun ha => ?_
  refine pcall_has 1 rfl (.agg (d := encRt u.fRoutes) (by simp [eTable]) (.sl _ _ _)) fun hb => ?_
  refine pcall_of_aw Tryz.func13 rfl (by kernel_rfl) ?_
  refine aw_seq fun K0 hK0 => ?_
  refine aw_reg [0, 1] (by kernel_rfl) ?_
  simp (disch := omega) only [go_sem, ↓reduceIte, Nat.reduceEqDiff, Nat.reduceLT, Nat.reduceLeDiff, Nat.reduceAdd, Nat.reduceSub, Nat.reduceMul, reduceCtorEq, Int.reduceToNat, Int.reduceNeg]
  repeat refine And.intro obl ?_
  refine hK0 _ ?_; clear hK0
  refine aw_seq fun K1 hK1 => ?_
  refine aw_seq fun K2 hK2 => ?_
  refine aw_reg [2, 3] (by kernel_rfl) ?_
  simp (disch := omega) only [go_sem, ↓reduceIte, Nat.reduceEqDiff, Nat.reduceLT, Nat.reduceLeDiff, Nat.reduceAdd, Nat.reduceSub, Nat.reduceMul, reduceCtorEq, Int.reduceToNat, Int.reduceNeg]
  repeat refine And.intro obl ?_
  refine callC_to (fun g0 => ref07_SameInts_ok _ t.fPoints u.fPoints) ?_ ?_ ?_
  · first | exact fun _ => trivial | simp
  · rfl
  simp (disch := omega) only [go_sem, ↓reduceIte, Nat.reduceEqDiff, Nat.reduceLT, Nat.reduceLeDiff, Nat.reduceAdd, Nat.reduceSub, Nat.reduceMul, reduceCtorEq, Int.reduceToNat, Int.reduceNeg]
  repeat refine And.intro obl ?_
  refine callC_to (fun g1 => ref07_SameInts_ok _ t.fHomes u.fHomes) ?_ ?_ ?_
  · first | exact fun _ => trivial | simp
  · rfl
  simp (disch := omega) only [go_sem, ↓reduceIte, Nat.reduceEqDiff, Nat.reduceLT, Nat.reduceLeDiff, Nat.reduceAdd, Nat.reduceSub, Nat.reduceMul, reduceCtorEq, Int.reduceToNat, Int.reduceNeg]
  repeat refine And.intro obl ?_
  refine hK2 _ ?_; clear hK2
  refine aw_cond _ (by rfl) (rfl) (fun c0 => ?_) (fun c0 => ?_)
  · try simp only [push_cast] at c0
    refine aw_seq fun K3 hK3 => ?_
    refine aw_reg [] (by kernel_rfl) ?_
    simp (disch := omega) only [go_sem, ↓reduceIte, Nat.reduceEqDiff, Nat.reduceLT, Nat.reduceLeDiff, Nat.reduceAdd, Nat.reduceSub, Nat.reduceMul, reduceCtorEq, Int.reduceToNat, Int.reduceNeg]
    repeat refine And.intro obl ?_
    refine hK3 _ ?_; clear hK3
    refine aw_ret ?_
    refine ret_tmp 4 rfl (by simp (disch := omega) only [go_sem, ↓reduceIte, Nat.reduceEqDiff, Nat.reduceLT, Nat.reduceLeDiff, Nat.reduceAdd, Nat.reduceSub, Nat.reduceMul, reduceCtorEq, Int.reduceToNat, Int.reduceNeg]) ?_
    exact Exp.is (by simp (disch := omega) only [go_sem, ↓reduceIte, Nat.reduceEqDiff, Nat.reduceLT, Nat.reduceLeDiff, Nat.reduceAdd, Nat.reduceSub, Nat.reduceMul, reduceCtorEq, Int.reduceToNat, Int.reduceNeg] <;> refine congrArg vb ?_ <;> (symm; rw [tbSame, decide_eq_false_iff_not, extTable]; grind)) rfl rfl
  · try simp only [push_cast] at c0
    have hl : t.fRoutes.length = u.fRoutes.length := by grind
    refine aw_skip ?_
    refine hK1 _ ?_; clear hK1
    refine aw_seq fun K4 hK4 => ?_
    refine aw_seq fun K5 hK5 => ?_
    refine aw_reg [2, 3] (by kernel_rfl) ?_
    simp (disch := omega) only [go_sem, ↓reduceIte, Nat.reduceEqDiff, Nat.reduceLT, Nat.reduceLeDiff, Nat.reduceAdd, Nat.reduceSub, Nat.reduceMul, reduceCtorEq, Int.reduceToNat, Int.reduceNeg]
    repeat refine And.intro obl ?_
    refine hK5 _ ?_; clear hK5
    refine aw_block ?_
    refine aw_loopK [2, 3, 45, 46] (fun n ρ => ∃ i, n = t.fRoutes.length - i ∧ (i ≤ t.fRoutes.length) ∧ ((t.fRoutes == u.fRoutes) = (t.fRoutes.drop i == u.fRoutes.drop i)) ∧ ρ = mkE O [(2, .bx (eTable t)), (3, .bx (eTable u)), (45, vi (t.fRoutes.length : Nat)), (46, vi (i : Nat))]) _ ⟨0, rfl, ?_, ?_, ?_⟩ ?_
    · exact dfl
    · rfl
    · simp (disch := omega) only [go_sem, ↓reduceIte, Nat.reduceEqDiff, Nat.reduceLT, Nat.reduceLeDiff, Nat.reduceAdd, Nat.reduceSub, Nat.reduceMul, reduceCtorEq, Int.reduceToNat, Int.reduceNeg] <;> first | rfl | omega | simp | simp_all
    rintro n ρ ⟨i, rfl, l0_0, l0_1, rfl⟩ K6 hK6
    refine aw_seq fun K7 hK7 => ?_
    refine aw_reg [2, 3, 45, 46] (by kernel_rfl) ?_
    simp (disch := omega) only [go_sem, ↓reduceIte, Nat.reduceEqDiff, Nat.reduceLT, Nat.reduceLeDiff, Nat.reduceAdd, Nat.reduceSub, Nat.reduceMul, reduceCtorEq, Int.reduceToNat, Int.reduceNeg]
    repeat refine And.intro obl ?_
    refine hK7 _ ?_; clear hK7
    refine aw_seq fun K8 hK8 => ?_
    refine aw_cond _ (by rfl) (rfl) (fun c1 => ?_) (fun c1 => ?_)
    · try simp only [push_cast] at c1
      refine aw_skip ?_
      refine hK8 _ ?_; clear hK8
      refine aw_seq fun K9 hK9 => ?_
      refine aw_block ?_
      refine aw_seq fun K10 hK10 => ?_
      refine aw_reg [2, 3, 45, 46] (by kernel_rfl) ?_
      simp (disch := omega) only [go_sem, ↓reduceIte, Nat.reduceEqDiff, Nat.reduceLT, Nat.reduceLeDiff, Nat.reduceAdd, Nat.reduceSub, Nat.reduceMul, reduceCtorEq, Int.reduceToNat, Int.reduceNeg]
      repeat refine And.intro obl ?_
      refine hK10 _ ?_; clear hK10
      refine aw_seq fun K11 hK11 => ?_
      refine aw_regDc [2, 3, 5, 45, 46] [] mixed (by kernel_rfl) ?_
      simp (disch := omega) only [go_sem, ↓reduceIte, Nat.reduceEqDiff, Nat.reduceLT, Nat.reduceLeDiff, Nat.reduceAdd, Nat.reduceSub, Nat.reduceMul, reduceCtorEq, Int.reduceToNat, Int.reduceNeg]
      repeat refine And.intro obl ?_
      refine callD_to (ref12_Same_ok _ (t.fRoutes.getD i default) (u.fRoutes.getD i default)) ?_ ?_
      · rfl
      simp (disch := omega) only [go_sem, ↓reduceIte, Nat.reduceEqDiff, Nat.reduceLT, Nat.reduceLeDiff, Nat.reduceAdd, Nat.reduceSub, Nat.reduceMul, reduceCtorEq, Int.reduceToNat, Int.reduceNeg]
      repeat refine And.intro obl ?_
      refine hK11 _ ?_; clear hK11
      refine aw_cond _ (by rfl) (rfl) (fun c2 => ?_) (fun c2 => ?_)
      · try simp only [push_cast] at c2
        have c2 : t.fRoutes.getD i default ≠ u.fRoutes.getD i default := of_decide_eq_false (by simpa [rtSame] using c2)
        refine aw_seq fun K12 hK12 => ?_
        refine aw_reg [] (by kernel_rfl) ?_
        simp (disch := omega) only [go_sem, ↓reduceIte, Nat.reduceEqDiff, Nat.reduceLT, Nat.reduceLeDiff, Nat.reduceAdd, Nat.reduceSub, Nat.reduceMul, reduceCtorEq, Int.reduceToNat, Int.reduceNeg]
        repeat refine And.intro obl ?_
        refine hK12 _ ?_; clear hK12
        refine aw_ret ?_
        refine ret_tmp 4 rfl (by simp (disch := omega) only [go_sem, ↓reduceIte, Nat.reduceEqDiff, Nat.reduceLT, Nat.reduceLeDiff, Nat.reduceAdd, Nat.reduceSub, Nat.reduceMul, reduceCtorEq, Int.reduceToNat, Int.reduceNeg]) ?_
        exact Exp.is (by simp (disch := omega) only [go_sem, ↓reduceIte, Nat.reduceEqDiff, Nat.reduceLT, Nat.reduceLeDiff, Nat.reduceAdd, Nat.reduceSub, Nat.reduceMul, reduceCtorEq, Int.reduceToNat, Int.reduceNeg] <;> refine congrArg vb ?_ <;> (symm; rw [tbSame, decide_eq_false_iff_not, extTable]; intro h; have h1 : (t.fRoutes == u.fRoutes) = true := (by simpa using h.1); rw [l0_1, dropD default c1, dropD default (show i < u.fRoutes.length by omega)] at h1; simp at h1; exact c2 (by simpa using h1.1))) rfl rfl
      · try simp only [push_cast] at c2
        have c2 : t.fRoutes.getD i default = u.fRoutes.getD i default := of_decide_eq_true (by simpa [rtSame] using c2)
        refine aw_skip ?_
        refine hK9 _ ?_; clear hK9
        refine aw_reg [2, 3, 45, 46] (by kernel_rfl) ?_
        simp (disch := omega) only [go_sem, ↓reduceIte, Nat.reduceEqDiff, Nat.reduceLT, Nat.reduceLeDiff, Nat.reduceAdd, Nat.reduceSub, Nat.reduceMul, reduceCtorEq, Int.reduceToNat, Int.reduceNeg]
        repeat refine And.intro obl ?_
        refine hK6 _ _ ?_ ⟨i + 1, rfl, ?_, ?_, ?_⟩
        · exact dfl
        · exact dfl
        · rw [l0_1, dropD default c1, dropD default (show i < u.fRoutes.length by omega), c2]; simp
        · simp (disch := omega) only [go_sem, ↓reduceIte, Nat.reduceEqDiff, Nat.reduceLT, Nat.reduceLeDiff, Nat.reduceAdd, Nat.reduceSub, Nat.reduceMul, reduceCtorEq, Int.reduceToNat, Int.reduceNeg] <;> first | rfl | omega | simp | simp_all
    · try simp only [push_cast] at c1
      refine aw_exit ?_
      refine hK4 _ ?_; clear hK4
      refine aw_seq fun K13 hK13 => ?_
      refine aw_reg [] (by kernel_rfl) ?_
      simp (disch := omega) only [go_sem, ↓reduceIte, Nat.reduceEqDiff, Nat.reduceLT, Nat.reduceLeDiff, Nat.reduceAdd, Nat.reduceSub, Nat.reduceMul, reduceCtorEq, Int.reduceToNat, Int.reduceNeg]
      repeat refine And.intro obl ?_
      refine hK13 _ ?_; clear hK13
      refine aw_ret ?_
      refine ret_tmp 4 rfl (by simp (disch := omega) only [go_sem, ↓reduceIte, Nat.reduceEqDiff, Nat.reduceLT, Nat.reduceLeDiff, Nat.reduceAdd, Nat.reduceSub, Nat.reduceMul, reduceCtorEq, Int.reduceToNat, Int.reduceNeg]) ?_
      exact Exp.is (by simp (disch := omega) only [go_sem, ↓reduceIte, Nat.reduceEqDiff, Nat.reduceLT, Nat.reduceLeDiff, Nat.reduceAdd, Nat.reduceSub, Nat.reduceMul, reduceCtorEq, Int.reduceToNat, Int.reduceNeg] <;> refine congrArg vb ?_ <;> (have h1 : (t.fRoutes == u.fRoutes) = true := (by rw [l0_1, dropE c1, dropE (by omega)]; rfl); have h1 : t.fRoutes = u.fRoutes := (by simpa using h1); rw [tbSame, Bool.eq_iff_iff]; simp [extTable]; grind)) rfl rfl

end Go.Sg
