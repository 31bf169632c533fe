/- Contracts of the conflicts of routes and of Wait. Printed by genw.py. -/
import Derived.Test.YtgjbmlffbpcdiaaGreatC2
import Derived.Test.YtgjbmlffbpcdiaaGreatA1
import Derived.Test.YtgjbmlffbpcdiaaGreatAl
set_option linter.unusedVariables false
set_option linter.unusedSimpArgs false
set_option maxRecDepth 8000
namespace Go.Sg
open Go.Proofs
def rtN (t : Table) (r : Int) : Route := t.fRoutes.getD r.toNat default
def cfB (t : Table) (s : Inter) (a b : Int) : Bool := (exB t s a && exB t s b) && (betB (rtN t a) (rtN t b) != 0)
def SmT (t : Table) : Prop := ∀ r ∈ t.fRoutes, Sml r
theorem smt_of {t : Table} (h : fewB t = true) : SmT t := fun r hr => by
  have h1 := (few_of h).2 r hr
  unfold rsB at h1
  have h1 := of_decide_eq_true h1
  exact ⟨by omega, by omega, by omega, by omega, by omega⟩
theorem rt_sml {t : Table} {s : Inter} {r : Int} (hs : SmT t) (h : exB t s r = true) : Sml (t.fRoutes.getD r.toNat default) := hs _ (gm default (ex_of h).2.1)
theorem exl {t : Table} {s : Inter} {r : Int} (h : exB t s r = true) : r.toNat < t.fRoutes.length := (ex_of h).2.1
theorem exs {t : Table} {s : Inter} {r : Int} (h : exB t s r = true) : r.toNat < s.fRoutes.length := (ex_of h).2.2
theorem ex0 {t : Table} {s : Inter} {r : Int} (h : exB t s r = true) : 0 ≤ r := (ex_of h).1

theorem autoroute_view_conflict_ok (O : Env) (t : Table) (s : Inter) (a b : Int) (hs : SmT t) : PCall Tryz.prog O 30 [.agg (eTable t ++ eInter s), vi a, vi b] (vb (cfB t s a b)) := by
  -- (signalling/autoroute.view).conflict
  refine pcall_of_aw Tryz.func30 rfl (by kernel_rfl) ?_
  refine aw_seq fun K0 hK0 => ?_
  refine aw_reg [0, 1, 2] (by kernel_rfl) ?_   -- r0.0
  simp (disch := omega) only [go_sem, ↓reduceIte, Nat.reduceEqDiff, Nat.reduceLT, Nat.reduceLeDiff, Nat.reduceAdd, Nat.reduceSub, Nat.reduceMul, reduceCtorEq, Int.reduceToNat, Int.reduceNeg]
  repeat refine And.intro (by first | omega | assumption | (simp only [List.length_append, List.length_cons, List.length_nil]; omega) | (intros; first | omega | assumption | (simp_all; done) | grind)) ?_   -- r0.0
  refine hK0 _ ?_; clear hK0
  refine aw_seq fun K1 hK1 => ?_
  refine aw_regDc [1, 2, 3] [] mixed (by kernel_rfl) ?_   -- r1.1
  simp (disch := omega) only [go_sem, ↓reduceIte, Nat.reduceEqDiff, Nat.reduceLT, Nat.reduceLeDiff, Nat.reduceAdd, Nat.reduceSub, Nat.reduceMul, reduceCtorEq, Int.reduceToNat, Int.reduceNeg]
  repeat refine And.intro (by first | omega | assumption | (intros; first | omega | assumption | (simp only [exB, Bool.and_eq_true, decide_eq_true_eq] at *; omega) | (simp_all; done) | grind)) ?_   -- r1.1
  refine callD_to (autoroute_view_exists_ok _ t s a) ?_ ?_   -- r1.1#0
  · rfl
  simp (disch := omega) only [go_sem, ↓reduceIte, Nat.reduceEqDiff, Nat.reduceLT, Nat.reduceLeDiff, Nat.reduceAdd, Nat.reduceSub, Nat.reduceMul, reduceCtorEq, Int.reduceToNat, Int.reduceNeg]
  repeat refine And.intro (by first | omega | assumption | (intros; first | omega | assumption | (simp only [exB, Bool.and_eq_true, decide_eq_true_eq] at *; omega) | (simp_all; done) | grind)) ?_   -- r1.1
  refine callC_to (fun g0 => autoroute_view_exists_ok _ t s b) ?_ ?_ ?_   -- r1.1#1
  · first | exact fun _ => trivial | simp
  · rfl
  simp (disch := omega) only [go_sem, ↓reduceIte, Nat.reduceEqDiff, Nat.reduceLT, Nat.reduceLeDiff, Nat.reduceAdd, Nat.reduceSub, Nat.reduceMul, reduceCtorEq, Int.reduceToNat, Int.reduceNeg]
  repeat refine And.intro (by first | omega | assumption | (intros; first | omega | assumption | (simp only [exB, Bool.and_eq_true, decide_eq_true_eq] at *; omega) | (simp_all; done) | grind)) ?_   -- r1.1
  refine callC_to (fun g1 => conflict_Between_ok _ _ _ (rt_sml (s := s) hs (by simp only [Bool.and_eq_true] at g1; exact g1.1)) (rt_sml (s := s) hs (by simp only [Bool.and_eq_true] at g1; exact g1.2))) ?_ ?_ ?_   -- r1.1#2
  · first | exact fun _ => trivial | simp
  · rfl
  simp (disch := omega) only [go_sem, ↓reduceIte, Nat.reduceEqDiff, Nat.reduceLT, Nat.reduceLeDiff, Nat.reduceAdd, Nat.reduceSub, Nat.reduceMul, reduceCtorEq, Int.reduceToNat, Int.reduceNeg]
  repeat refine And.intro (by first | omega | assumption | (intros; first | omega | assumption | (simp only [exB, Bool.and_eq_true, decide_eq_true_eq] at *; omega) | (simp_all; done) | grind)) ?_   -- r1.1
  refine hK1 _ ?_; clear hK1
  refine aw_ret ?_
  refine ret_tmp 6 rfl (by simp (disch := omega) only [go_sem, ↓reduceIte, Nat.reduceEqDiff, Nat.reduceLT, Nat.reduceLeDiff, Nat.reduceAdd, Nat.reduceSub, Nat.reduceMul, reduceCtorEq, Int.reduceToNat, Int.reduceNeg]) ?_   -- ret0
  exact Exp.is (by simp (disch := omega) only [go_sem, ↓reduceIte, Nat.reduceEqDiff, Nat.reduceLT, Nat.reduceLeDiff, Nat.reduceAdd, Nat.reduceSub, Nat.reduceMul, reduceCtorEq, Int.reduceToNat, Int.reduceNeg] <;> refine congrArg vb ?_ <;> (rfl)) rfl rfl

theorem ref50_conflict_ok (O : Env) (t : Table) (s : Inter) (a b : Int) (hs : SmT t) : PCall Tryz.prog O 31 [.agg (eTable t), .agg (eInter s), vi a, vi b] (vb (cfB t s a b)) := by
  -- signalling/signallingref50.conflict
  refine pcall_of_aw Tryz.func31 rfl (by kernel_rfl) ?_
  refine aw_seq fun K0 hK0 => ?_
  refine aw_reg [0, 1, 2, 3] (by kernel_rfl) ?_   -- r0.0
  simp (disch := omega) only [go_sem, ↓reduceIte, Nat.reduceEqDiff, Nat.reduceLT, Nat.reduceLeDiff, Nat.reduceAdd, Nat.reduceSub, Nat.reduceMul, reduceCtorEq, Int.reduceToNat, Int.reduceNeg]
  repeat refine And.intro (by first | omega | assumption | (simp only [List.length_append, List.length_cons, List.length_nil]; omega) | (intros; first | omega | assumption | (simp_all; done) | grind)) ?_   -- r0.0
  refine hK0 _ ?_; clear hK0
  refine aw_seq fun K1 hK1 => ?_
  refine aw_regDc [2, 3, 4, 5] [] mixed (by kernel_rfl) ?_   -- r1.1
  simp (disch := omega) only [go_sem, ↓reduceIte, Nat.reduceEqDiff, Nat.reduceLT, Nat.reduceLeDiff, Nat.reduceAdd, Nat.reduceSub, Nat.reduceMul, reduceCtorEq, Int.reduceToNat, Int.reduceNeg]
  repeat refine And.intro (by first | omega | assumption | (intros; first | omega | assumption | (simp only [exB, Bool.and_eq_true, decide_eq_true_eq] at *; omega) | (simp_all; done) | grind)) ?_   -- r1.1
  refine callD_to (ref50_exists_ok _ t s a) ?_ ?_   -- r1.1#0
  · rfl
  simp (disch := omega) only [go_sem, ↓reduceIte, Nat.reduceEqDiff, Nat.reduceLT, Nat.reduceLeDiff, Nat.reduceAdd, Nat.reduceSub, Nat.reduceMul, reduceCtorEq, Int.reduceToNat, Int.reduceNeg]
  repeat refine And.intro (by first | omega | assumption | (intros; first | omega | assumption | (simp only [exB, Bool.and_eq_true, decide_eq_true_eq] at *; omega) | (simp_all; done) | grind)) ?_   -- r1.1
  refine callC_to (fun g0 => ref50_exists_ok _ t s b) ?_ ?_ ?_   -- r1.1#1
  · first | exact fun _ => trivial | simp
  · rfl
  simp (disch := omega) only [go_sem, ↓reduceIte, Nat.reduceEqDiff, Nat.reduceLT, Nat.reduceLeDiff, Nat.reduceAdd, Nat.reduceSub, Nat.reduceMul, reduceCtorEq, Int.reduceToNat, Int.reduceNeg]
  repeat refine And.intro (by first | omega | assumption | (intros; first | omega | assumption | (simp only [exB, Bool.and_eq_true, decide_eq_true_eq] at *; omega) | (simp_all; done) | grind)) ?_   -- r1.1
  refine callC_to (fun g1 => ref15_Between_ok _ _ _ (rt_sml (s := s) hs (by simp only [Bool.and_eq_true] at g1; exact g1.1)) (rt_sml (s := s) hs (by simp only [Bool.and_eq_true] at g1; exact g1.2))) ?_ ?_ ?_   -- r1.1#2
  · first | exact fun _ => trivial | simp
  · rfl
  simp (disch := omega) only [go_sem, ↓reduceIte, Nat.reduceEqDiff, Nat.reduceLT, Nat.reduceLeDiff, Nat.reduceAdd, Nat.reduceSub, Nat.reduceMul, reduceCtorEq, Int.reduceToNat, Int.reduceNeg]
  repeat refine And.intro (by first | omega | assumption | (intros; first | omega | assumption | (simp only [exB, Bool.and_eq_true, decide_eq_true_eq] at *; omega) | (simp_all; done) | grind)) ?_   -- r1.1
  refine hK1 _ ?_; clear hK1
  refine aw_ret ?_
  refine ret_tmp 8 rfl (by simp (disch := omega) only [go_sem, ↓reduceIte, Nat.reduceEqDiff, Nat.reduceLT, Nat.reduceLeDiff, Nat.reduceAdd, Nat.reduceSub, Nat.reduceMul, reduceCtorEq, Int.reduceToNat, Int.reduceNeg]) ?_   -- ret0
  exact Exp.is (by simp (disch := omega) only [go_sem, ↓reduceIte, Nat.reduceEqDiff, Nat.reduceLT, Nat.reduceLeDiff, Nat.reduceAdd, Nat.reduceSub, Nat.reduceMul, reduceCtorEq, Int.reduceToNat, Int.reduceNeg] <;> refine congrArg vb ?_ <;> (rfl)) rfl rfl

end Go.Sg
