/- slices.Index and slices.Contains on a row of the caller's. Printed by genw.py. -/
import Derived.Test.YtbndgcddihbhlaaSgB
import Derived.Test.YtbndgcddihbhlaaD16
set_option linter.unusedVariables false
set_option linter.unusedSimpArgs false
set_option maxRecDepth 8000
namespace Go.Sg
open Go.Proofs
theorem row_at {rl : List Int} {i : Nat} (h : i < rl.length) : ((rl.map eI).getD i []).getD 0 .any = vi (rl.getD i default) := by
  rw [List.getD_eq_getElem?_getD (l := rl.map eI), List.getElem?_map, List.getElem?_eq_getElem h, List.getD_eq_getElem?_getD (l := rl), List.getElem?_eq_getElem h]; rfl
theorem row_ln {rl : List Int} {i : Nat} (h : i < rl.length) : (0 < ((rl.map eI).getD i []).length) = True := by
  rw [List.getD_eq_getElem?_getD (l := rl.map eI), List.getElem?_map, List.getElem?_eq_getElem h]; simp [eI]
theorem tk_at {rl : List Int} {k i : Nat} (hi : i < k) : (rl.take k).getD i default = rl.getD i default := by
  rw [List.getD_eq_getElem?_getD, List.getElem?_take, if_pos hi, List.getD_eq_getElem?_getD]
theorem slices_Index_own (O : Env) (rl : List Int) (k s : Nat) (x : Int) (hO : O s = .row 3 1 (rl.map eI)) (hk : k ≤ rl.length) (hb : k ≤ 1000) : PCall Try.prog O 68 [.own s k, vi x] (vi (if (rl.take k).contains x then ((rl.take k).idxOf x : Int) else -1)) := by
  have hx : outer O (s + 100000) = .row 3 1 (rl.map eI) := by rw [outer_hi, hO]; rfl
  have hkl : (rl.take k).length = k := by rw [List.length_take]; omega
  refine pcall_of_aw Try.func68 rfl (by kernel_rfl) ?_
  refine aw_seq fun K0 hK0 => ?_
  refine aw_reg [0, 1] (by kernel_rfl) ?_
  simp (disch := omega) only [go_sem, seval, hx, row_at, row_ln, List.length_map, Nat.mul_one, Nat.add_zero]
  repeat refine And.intro obl ?_
  refine hK0 _ ?_; clear hK0
  refine aw_seq fun K1 hK1 => ?_
  refine aw_seq fun K2 hK2 => ?_
  refine aw_reg [0, 1] (by kernel_rfl) ?_
  simp (disch := omega) only [go_sem, seval, hx, row_at, row_ln, List.length_map, Nat.mul_one, Nat.add_zero]
  repeat refine And.intro obl ?_
  refine hK2 _ ?_; clear hK2
  refine aw_block ?_
  refine aw_loopK [0, 1, 7, 8] (fun n ρ => ∃ i, n = k - i ∧ (i ≤ k) ∧ ((if (rl.take k).contains x then ((rl.take k).idxOf x : Int) else -1) = (if ((rl.take k).drop i).contains x then ((((rl.take k).drop i).idxOf x + i : Nat) : Int) else -1)) ∧ ρ = mkE O [(0, .own (s + 100000) k), (1, vi x), (7, vi (k : Nat)), (8, vi (i : Nat))]) _ ⟨0, rfl, ?_, ?_, ?_⟩ ?_
  · exact dfl
  · simp
  · simp (disch := omega) only [go_sem, seval, hx, row_at, row_ln, List.length_map, Nat.mul_one, Nat.add_zero] <;> first | rfl | omega | simp | simp_all
  rintro n ρ ⟨i, rfl, l0_0, l0_1, rfl⟩ K3 hK3
  refine aw_seq fun K4 hK4 => ?_
  refine aw_reg [0, 1, 7, 8] (by kernel_rfl) ?_
  simp (disch := omega) only [go_sem, seval, hx, row_at, row_ln, List.length_map, Nat.mul_one, Nat.add_zero]
  repeat refine And.intro obl ?_
  refine hK4 _ ?_; clear hK4
  refine aw_seq fun K5 hK5 => ?_
  refine aw_cond _ (by rfl) (rfl) (fun c0 => ?_) (fun c0 => ?_)
  · try simp only [push_cast] at c0
    refine aw_skip ?_
    refine hK5 _ ?_; clear hK5
    refine aw_seq fun K6 hK6 => ?_
    refine aw_block ?_
    refine aw_seq fun K7 hK7 => ?_
    refine aw_reg [0, 1, 7, 8] (by kernel_rfl) ?_
    simp (disch := omega) only [go_sem, seval, hx, row_at, row_ln, List.length_map, Nat.mul_one, Nat.add_zero]
    repeat refine And.intro obl ?_
    refine hK7 _ ?_; clear hK7
    refine aw_seq fun K8 hK8 => ?_
    have hat := tk_at (rl := rl) c0
    have hir : i < rl.length := by omega
    refine aw_reg [0, 1, 5, 7, 8] (by kernel_rfl) ?_
    simp (disch := omega) only [go_sem, seval, hx, row_at, row_ln, List.length_map, Nat.mul_one, Nat.add_zero]
    repeat refine And.intro obl ?_
    refine hK8 _ ?_; clear hK8
    refine aw_cond _ (by rfl) (rfl) (fun c1 => ?_) (fun c1 => ?_)
    · try simp only [push_cast] at c1
      refine aw_seq fun K9 hK9 => ?_
      refine aw_reg [5] (by kernel_rfl) ?_
      simp (disch := omega) only [go_sem, seval, hx, row_at, row_ln, List.length_map, Nat.mul_one, Nat.add_zero]
      repeat refine And.intro obl ?_
      refine hK9 _ ?_; clear hK9
      refine aw_ret ?_
      refine ret_tmp 4 rfl (by simp (disch := omega) only [go_sem, seval, hx, row_at, row_ln, List.length_map, Nat.mul_one, Nat.add_zero]) ?_
      exact Exp.is (by simp (disch := omega) only [go_sem, seval, hx, row_at, row_ln, List.length_map, Nat.mul_one, Nat.add_zero] <;> (refine congrArg vi ?_; rw [← hat] at c1; rw [l0_1, dropD default (by omega)]; simp [c1])) rfl rfl
    · try simp only [push_cast] at c1
      refine aw_skip ?_
      refine hK6 _ ?_; clear hK6
      refine aw_reg [0, 1, 7, 8] (by kernel_rfl) ?_
      simp (disch := omega) only [go_sem, seval, hx, row_at, row_ln, List.length_map, Nat.mul_one, Nat.add_zero]
      repeat refine And.intro obl ?_
      refine hK3 _ _ ?_ ⟨i + 1, rfl, ?_, ?_, ?_⟩
      · exact dfl
      · exact dfl
      · rw [← hat] at c1; rw [l0_1, dropD default (by omega), List.contains_cons, List.idxOf_cons, beq_eq_false_iff_ne.2 c1, beq_eq_false_iff_ne.2 (Ne.symm c1)]; simp only [Bool.false_or, cond_false]; rw [show List.idxOf x (List.drop (i + 1) (rl.take k)) + 1 + i = List.idxOf x (List.drop (i + 1) (rl.take k)) + (i + 1) by omega]
      · simp (disch := omega) only [go_sem, seval, hx, row_at, row_ln, List.length_map, Nat.mul_one, Nat.add_zero] <;> first | rfl | omega | simp | simp_all
  · try simp only [push_cast] at c0
    refine aw_exit ?_
    refine hK1 _ ?_; clear hK1
    refine aw_seq fun K10 hK10 => ?_
    refine aw_reg [] (by kernel_rfl) ?_
    simp (disch := omega) only [go_sem, seval, hx, row_at, row_ln, List.length_map, Nat.mul_one, Nat.add_zero]
    repeat refine And.intro obl ?_
    refine hK10 _ ?_; clear hK10
    refine aw_ret ?_
    refine ret_tmp 4 rfl (by simp (disch := omega) only [go_sem, seval, hx, row_at, row_ln, List.length_map, Nat.mul_one, Nat.add_zero]) ?_
    exact Exp.is (by simp (disch := omega) only [go_sem, seval, hx, row_at, row_ln, List.length_map, Nat.mul_one, Nat.add_zero] <;> (refine congrArg vi ?_; rw [l0_1, dropE (by omega)]; rfl)) rfl rfl
theorem slices_Contains_own (O : Env) (rl : List Int) (k s : Nat) (x : Int) (hO : O s = .row 3 1 (rl.map eI)) (hk : k ≤ rl.length) (hb : k ≤ 1000) : PCall Try.prog O 49 [.own s k, vi x] (vb ((rl.take k).contains x)) := by
  have hx : outer O (s + 100000) = .row 3 1 (rl.map eI) := by rw [outer_hi, hO]; rfl
  refine pcall_of_aw Try.func49 rfl (by kernel_rfl) ?_
  refine aw_seq fun K0 hK0 => ?_
  refine aw_reg [0, 1] (by kernel_rfl) ?_
  simp (disch := omega) only [go_sem, seval, hx]
  repeat refine And.intro obl ?_
  refine hK0 _ ?_; clear hK0
  refine aw_seq fun K1 hK1 => ?_
  refine aw_reg [0, 1] (by kernel_rfl) ?_
  simp (disch := omega) only [go_sem, seval, hx]
  repeat refine And.intro obl ?_
  refine callG_of _ (slices_Index_own _ rl k (s + 100000) x (by simp (disch := omega) only [go_sem, seval, hx, if_false]) hk hb) ?_
  simp (disch := omega) only [go_sem, seval, hx]
  repeat refine And.intro obl ?_
  refine hK1 _ ?_; clear hK1
  refine aw_ret ?_
  refine ret_tmp 4 rfl (by simp (disch := omega) only [go_sem, seval, hx]) ?_
  exact Exp.is (by simp (disch := omega) only [go_sem, seval, hx] <;> refine congrArg vb ?_ <;> (cases h : (rl.take k).contains x <;> simp)) rfl rfl
end Go.Sg
