/- Contracts of Find, and the law TableDrops. Printed by genw.py. -/
import Derived.Test.YtnpokifaejcbeaaGreatDoorSgObl
import Derived.Test.YtnpokifaejcbeaaGreatDoorT4
set_option linter.unusedVariables false
set_option linter.unusedSimpArgs false
set_option maxRecDepth 8000
namespace Go.Sg
open Go.Proofs
def nmB (x : ByteArray) (r : Route) : Bool := decide (r.fName = x)
theorem fnd_idx {t : Table} {x : ByteArray} : (if t.fRoutes.any (nmB x) then (t.fRoutes.findIdx (nmB x) : Int) else -1) = fndI t x t.fRoutes.length := by
  by_cases h : t.fRoutes.any (nmB x) = true
  · rw [if_pos h]
    have hlt : t.fRoutes.findIdx (nmB x) < t.fRoutes.length := List.findIdx_lt_length.2 (by simpa using h)
    have hat : nmN t (t.fRoutes.findIdx (nmB x)) = x := by
      have := List.findIdx_getElem (w := hlt)
      have := of_decide_eq_true (p := (t.fRoutes[t.fRoutes.findIdx (nmB x)]).fName = x) this
      simpa [nmN, List.getD_eq_getElem?_getD, hlt] using this
    rw [fnd_first (t.fRoutes.findIdx (nmB x)) (by omega) fun j hj he => ?_, fnd_s hlt, if_pos hat]
    have := List.not_of_lt_findIdx hj
    refine absurd this ?_
    rw [Bool.not_eq_false]
    exact decide_eq_true (by simpa [nmN, List.getD_eq_getElem?_getD, show j < t.fRoutes.length by omega] using he)
  · rw [if_neg h, fnd_first t.fRoutes.length (Nat.le_refl _) fun j hj he => ?_, Nat.sub_self]
    · rfl
    · rw [Bool.not_eq_true] at h
      have := all_at (f := fun r => !nmB x r) (l := t.fRoutes) (by rw [List.all_eq_true]; intro r hr; rw [List.any_eq_false] at h; simpa using h r hr) hj
      simp only [nmB, Bool.not_eq_true', decide_eq_false_iff_not] at this
      exact this he

theorem slices_IndexFunc_Route_ok (O : Env) (l : List Route) (g s : Nat) (cs : List DV) (p : Route → Bool) (hO : O s = .bx cs) (hcs : renL (· + 100000) cs = cs) (hg : hasBody Tryz.prog g = true) (hk : ∀ (ρ : Env) (k : Nat) (x : Route), ρ k = .bx cs → PCall Tryz.prog ρ g [.agg (eRoute x), .bp k 0] (vb (p x))) : PCall Tryz.prog O 52 [encRt l, .fn g [] [.bp s 0]] (vi (if l.any p then (l.findIdx p : Nat) else -1)) := by
  -- slices.IndexFunc[[]signalling/api.Route,signalling/api.Route]
  refine pcall_has 0 rfl (.sl _ _ _) fun hl => ?_
  refine pcall_of_aw Tryz.func52 rfl (by kernel_rfl) ?_
  refine aw_seq fun K0 hK0 => ?_
  refine aw_reg [0, 1] (by kernel_rfl) ?_
  simp (disch := omega) only [go_sem, ↓reduceIte, Nat.reduceEqDiff, Nat.reduceLT, Nat.reduceLeDiff, Nat.reduceAdd, Nat.reduceSub, Nat.reduceMul, reduceCtorEq, Int.reduceToNat, Int.reduceNeg, hg]
  repeat refine And.intro obl ?_
  refine hK0 _ ?_; clear hK0
  refine aw_seq fun K1 hK1 => ?_
  refine aw_seq fun K2 hK2 => ?_
  refine aw_reg [0, 1] (by kernel_rfl) ?_
  simp (disch := omega) only [go_sem, ↓reduceIte, Nat.reduceEqDiff, Nat.reduceLT, Nat.reduceLeDiff, Nat.reduceAdd, Nat.reduceSub, Nat.reduceMul, reduceCtorEq, Int.reduceToNat, Int.reduceNeg, hg]
  repeat refine And.intro obl ?_
  refine hK2 _ ?_; clear hK2
  refine aw_block ?_
  refine aw_loopK [0, 1, 7, 8] (fun n ρ => ∃ i, n = l.length - i ∧ (i ≤ l.length) ∧ ((if l.any p then (l.findIdx p : Int) else -1) = (if (l.drop i).any p then (((l.drop i).findIdx p + i : Nat) : Int) else -1)) ∧ ρ = mkE O [(0, encRt l), (1, .fn g [] [.bp (s + 100000) 0]), (7, vi (l.length : Nat)), (8, vi (i : Nat))]) _ ⟨0, rfl, ?_, ?_, ?_⟩ ?_
  · exact dfl
  · simp
  · simp (disch := omega) only [go_sem, ↓reduceIte, Nat.reduceEqDiff, Nat.reduceLT, Nat.reduceLeDiff, Nat.reduceAdd, Nat.reduceSub, Nat.reduceMul, reduceCtorEq, Int.reduceToNat, Int.reduceNeg, hg] <;> first | rfl | omega | simp | simp_all
  rintro n ρ ⟨i, rfl, l0_0, l0_1, rfl⟩ K3 hK3
  refine aw_seq fun K4 hK4 => ?_
  refine aw_reg [0, 1, 7, 8] (by kernel_rfl) ?_
  simp (disch := omega) only [go_sem, ↓reduceIte, Nat.reduceEqDiff, Nat.reduceLT, Nat.reduceLeDiff, Nat.reduceAdd, Nat.reduceSub, Nat.reduceMul, reduceCtorEq, Int.reduceToNat, Int.reduceNeg, hg]
  repeat refine And.intro obl ?_
  refine hK4 _ ?_; clear hK4
  refine aw_seq fun K5 hK5 => ?_
  refine aw_cond _ (by rfl) (rfl) (fun c0 => ?_) (fun c0 => ?_)
  · try simp only [push_cast] at c0
    refine aw_skip ?_
    refine hK5 _ ?_; clear hK5
    refine aw_seq fun K6 hK6 => ?_
    refine aw_block ?_
    refine aw_seq fun K7 hK7 => ?_
    refine aw_reg [0, 1, 7, 8] (by kernel_rfl) ?_
    simp (disch := omega) only [go_sem, ↓reduceIte, Nat.reduceEqDiff, Nat.reduceLT, Nat.reduceLeDiff, Nat.reduceAdd, Nat.reduceSub, Nat.reduceMul, reduceCtorEq, Int.reduceToNat, Int.reduceNeg, hg]
    repeat refine And.intro obl ?_
    refine hK7 _ ?_; clear hK7
    refine aw_seq fun K8 hK8 => ?_
    refine aw_reg [0, 1, 5, 7, 8] (by kernel_rfl) ?_
    simp (disch := omega) only [go_sem, ↓reduceIte, Nat.reduceEqDiff, Nat.reduceLT, Nat.reduceLeDiff, Nat.reduceAdd, Nat.reduceSub, Nat.reduceMul, reduceCtorEq, Int.reduceToNat, Int.reduceNeg, hg]
    repeat refine And.intro obl ?_
    refine callG_of _ (hk _ (s + 100000) (l.getD i default) ?_) ?_
    · repeat rw [set_apply, if_neg (by omega)]
      rw [outer_hi, hO]; exact congrArg DV.bx hcs
    simp (disch := omega) only [go_sem, ↓reduceIte, Nat.reduceEqDiff, Nat.reduceLT, Nat.reduceLeDiff, Nat.reduceAdd, Nat.reduceSub, Nat.reduceMul, reduceCtorEq, Int.reduceToNat, Int.reduceNeg, hg]
    repeat refine And.intro obl ?_
    refine hK8 _ ?_; clear hK8
    refine aw_cond _ (by rfl) (rfl) (fun c1 => ?_) (fun c1 => ?_)
    · try simp only [push_cast] at c1
      refine aw_seq fun K9 hK9 => ?_
      refine aw_reg [5] (by kernel_rfl) ?_
      simp (disch := omega) only [go_sem, ↓reduceIte, Nat.reduceEqDiff, Nat.reduceLT, Nat.reduceLeDiff, Nat.reduceAdd, Nat.reduceSub, Nat.reduceMul, reduceCtorEq, Int.reduceToNat, Int.reduceNeg, hg]
      repeat refine And.intro obl ?_
      refine hK9 _ ?_; clear hK9
      refine aw_ret ?_
      refine ret_tmp 4 rfl (by simp (disch := omega) only [go_sem, ↓reduceIte, Nat.reduceEqDiff, Nat.reduceLT, Nat.reduceLeDiff, Nat.reduceAdd, Nat.reduceSub, Nat.reduceMul, reduceCtorEq, Int.reduceToNat, Int.reduceNeg, hg]) ?_
      exact Exp.is (by simp (disch := omega) only [go_sem, ↓reduceIte, Nat.reduceEqDiff, Nat.reduceLT, Nat.reduceLeDiff, Nat.reduceAdd, Nat.reduceSub, Nat.reduceMul, reduceCtorEq, Int.reduceToNat, Int.reduceNeg, hg] <;> (refine congrArg vi ?_; rw [l0_1, dropD default c0, List.any_cons, List.findIdx_cons, c1]; simp)) rfl rfl
    · try simp only [push_cast] at c1
      refine aw_skip ?_
      refine hK6 _ ?_; clear hK6
      refine aw_reg [0, 1, 7, 8] (by kernel_rfl) ?_
      simp (disch := omega) only [go_sem, ↓reduceIte, Nat.reduceEqDiff, Nat.reduceLT, Nat.reduceLeDiff, Nat.reduceAdd, Nat.reduceSub, Nat.reduceMul, reduceCtorEq, Int.reduceToNat, Int.reduceNeg, hg]
      repeat refine And.intro obl ?_
      refine hK3 _ _ ?_ ⟨i + 1, rfl, ?_, ?_, ?_⟩
      · exact dfl
      · exact dfl
      · rw [l0_1, dropD default c0, List.any_cons, List.findIdx_cons, c1]; simp only [Bool.false_or, cond_false]; rw [show List.findIdx p (List.drop (i + 1) l) + 1 + i = List.findIdx p (List.drop (i + 1) l) + (i + 1) by omega]
      · simp (disch := omega) only [go_sem, ↓reduceIte, Nat.reduceEqDiff, Nat.reduceLT, Nat.reduceLeDiff, Nat.reduceAdd, Nat.reduceSub, Nat.reduceMul, reduceCtorEq, Int.reduceToNat, Int.reduceNeg, hg] <;> first | rfl | omega | simp | simp_all
  · try simp only [push_cast] at c0
    refine aw_exit ?_
    refine hK1 _ ?_; clear hK1
    refine aw_seq fun K10 hK10 => ?_
    refine aw_reg [] (by kernel_rfl) ?_
    simp (disch := omega) only [go_sem, ↓reduceIte, Nat.reduceEqDiff, Nat.reduceLT, Nat.reduceLeDiff, Nat.reduceAdd, Nat.reduceSub, Nat.reduceMul, reduceCtorEq, Int.reduceToNat, Int.reduceNeg, hg]
    repeat refine And.intro obl ?_
    refine hK10 _ ?_; clear hK10
    refine aw_ret ?_
    refine ret_tmp 4 rfl (by simp (disch := omega) only [go_sem, ↓reduceIte, Nat.reduceEqDiff, Nat.reduceLT, Nat.reduceLeDiff, Nat.reduceAdd, Nat.reduceSub, Nat.reduceMul, reduceCtorEq, Int.reduceToNat, Int.reduceNeg, hg]) ?_
    exact Exp.is (by simp (disch := omega) only [go_sem, ↓reduceIte, Nat.reduceEqDiff, Nat.reduceLT, Nat.reduceLeDiff, Nat.reduceAdd, Nat.reduceSub, Nat.reduceMul, reduceCtorEq, Int.reduceToNat, Int.reduceNeg, hg] <;> (refine congrArg vi ?_; rw [l0_1, dropE c0]; rfl)) rfl rfl

theorem table_Find_1_ok (O : Env) (x : Route) (nm : ByteArray) (k : Nat) (h : O k = .bx [vs nm]) : PCall Tryz.prog O 53 [.agg (eRoute x), .bp k 0] (vb (nmB nm x)) := by
  -- signalling/table.Find$1
  refine pcall_of_aw Tryz.func53 rfl (by kernel_rfl) ?_
  refine aw_seq fun K0 hK0 => ?_
  refine aw_reg [0, 1] (by kernel_rfl) ?_
  simp (disch := omega) only [go_sem, ↓reduceIte, Nat.reduceEqDiff, Nat.reduceLT, Nat.reduceLeDiff, Nat.reduceAdd, Nat.reduceSub, Nat.reduceMul, reduceCtorEq, Int.reduceToNat, Int.reduceNeg, h, outer_hi]
  repeat refine And.intro obl ?_
  refine hK0 _ ?_; clear hK0
  refine aw_seq fun K1 hK1 => ?_
  refine aw_reg [1, 2] (by kernel_rfl) ?_
  simp (disch := omega) only [go_sem, ↓reduceIte, Nat.reduceEqDiff, Nat.reduceLT, Nat.reduceLeDiff, Nat.reduceAdd, Nat.reduceSub, Nat.reduceMul, reduceCtorEq, Int.reduceToNat, Int.reduceNeg, h, outer_hi]
  repeat refine And.intro obl ?_
  refine hK1 _ ?_; clear hK1
  refine aw_ret ?_
  refine ret_tmp 3 rfl (by simp (disch := omega) only [go_sem, ↓reduceIte, Nat.reduceEqDiff, Nat.reduceLT, Nat.reduceLeDiff, Nat.reduceAdd, Nat.reduceSub, Nat.reduceMul, reduceCtorEq, Int.reduceToNat, Int.reduceNeg, h, outer_hi]) ?_
  exact Exp.is (by simp (disch := omega) only [go_sem, ↓reduceIte, Nat.reduceEqDiff, Nat.reduceLT, Nat.reduceLeDiff, Nat.reduceAdd, Nat.reduceSub, Nat.reduceMul, reduceCtorEq, Int.reduceToNat, Int.reduceNeg, h, outer_hi] <;> refine congrArg vb ?_ <;> (rw [nmB, Bool.eq_iff_iff]; simp [str_eq])) rfl rfl

theorem table_Find_ok (O : Env) (t : Table) (x : ByteArray) : PCall Tryz.prog O 17 [.agg (eTable t), vs x] (vi (fndI t x t.fRoutes.length)) := by
  -- signalling/table.Find
  refine pcall_of_aw Tryz.func17 rfl (by kernel_rfl) ?_
  refine aw_seq fun K0 hK0 => ?_
  refine aw_reg [0, 1] (by kernel_rfl) ?_
  simp (disch := omega) only [go_sem, ↓reduceIte, Nat.reduceEqDiff, Nat.reduceLT, Nat.reduceLeDiff, Nat.reduceAdd, Nat.reduceSub, Nat.reduceMul, reduceCtorEq, Int.reduceToNat, Int.reduceNeg]
  repeat refine And.intro obl ?_
  refine hK0 _ ?_; clear hK0
  refine aw_seq fun K1 hK1 => ?_
  refine aw_reg [2, 3] (by kernel_rfl) ?_
  simp (disch := omega) only [go_sem, ↓reduceIte, Nat.reduceEqDiff, Nat.reduceLT, Nat.reduceLeDiff, Nat.reduceAdd, Nat.reduceSub, Nat.reduceMul, reduceCtorEq, Int.reduceToNat, Int.reduceNeg]
  repeat refine And.intro obl ?_
  refine callG_of _ (slices_IndexFunc_Route_ok _ t.fRoutes 53 3 [vs x] (nmB x) (by rfl) rfl rfl (fun ρ k r h => table_Find_1_ok ρ r x k h)) ?_
  simp (disch := omega) only [go_sem, ↓reduceIte, Nat.reduceEqDiff, Nat.reduceLT, Nat.reduceLeDiff, Nat.reduceAdd, Nat.reduceSub, Nat.reduceMul, reduceCtorEq, Int.reduceToNat, Int.reduceNeg]
  repeat refine And.intro obl ?_
  refine hK1 _ ?_; clear hK1
  refine aw_ret ?_
  refine ret_tmp 4 rfl (by simp (disch := omega) only [go_sem, ↓reduceIte, Nat.reduceEqDiff, Nat.reduceLT, Nat.reduceLeDiff, Nat.reduceAdd, Nat.reduceSub, Nat.reduceMul, reduceCtorEq, Int.reduceToNat, Int.reduceNeg]) ?_
  exact Exp.is (by simp (disch := omega) only [go_sem, ↓reduceIte, Nat.reduceEqDiff, Nat.reduceLT, Nat.reduceLeDiff, Nat.reduceAdd, Nat.reduceSub, Nat.reduceMul, reduceCtorEq, Int.reduceToNat, Int.reduceNeg] <;> (rw [← fnd_idx])) rfl rfl

end Go.Sg
