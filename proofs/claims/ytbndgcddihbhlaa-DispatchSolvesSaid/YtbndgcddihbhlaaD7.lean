/- Contracts of compare, covers, before, begin, place. Printed by genw.py. -/
import Derived.Test.YtbndgcddihbhlaaSgB
import Derived.Test.YtbndgcddihbhlaaD6
set_option linter.unusedVariables false
set_option linter.unusedSimpArgs false
set_option maxRecDepth 8000
namespace Go.Sg
open Go.Proofs
def dfJ (x y : Nat → Int) (j : Nat) : Nat → Int
  | 0 => 0
  | n + 1 => if x j ≠ y j then x j - y j else dfJ x y (j + 1) n
def dfN (d e : Dr) (a : Pl) (i : Nat) : Nat → Int
  | 0 => 0
  | n + 1 => if dfJ (d i) (e i) 0 (a i) ≠ 0 then dfJ (d i) (e i) 0 (a i) else dfN d e a (i + 1) n
def cmD (tr : List Trip) (d e : Dr) (a : Pl) : Int := if coD tr d a - coD tr e a ≠ 0 then coD tr d a - coD tr e a else dfN d e a 0 tr.length
theorem dfJ_s {x y : Nat → Int} {j n : Nat} (h : j < n) (h2 : x j = y j) : dfJ x y j (n - j) = dfJ x y (j + 1) (n - (j + 1)) := by
  rw [show n - j = (n - (j + 1)) + 1 by omega, dfJ, if_neg (by omega)]
theorem dfJ_d {x y : Nat → Int} {j n : Nat} (h : j < n) (h2 : ¬ x j = y j) : dfJ x y j (n - j) = x j - y j := by
  rw [show n - j = (n - (j + 1)) + 1 by omega, dfJ, if_pos h2]
theorem dfJ_e {x y : Nat → Int} {j n : Nat} (h : n ≤ j) : dfJ x y j (n - j) = 0 := by rw [show n - j = 0 by omega]; rfl
theorem dfN_s {d e : Dr} {a : Pl} {i n : Nat} (h : i < n) (h2 : dfJ (d i) (e i) 0 (a i) = 0) : dfN d e a i (n - i) = dfN d e a (i + 1) (n - (i + 1)) := by
  rw [show n - i = (n - (i + 1)) + 1 by omega, dfN, if_neg (by omega)]
theorem dfN_d {d e : Dr} {a : Pl} {i n : Nat} (h : i < n) (h2 : dfJ (d i) (e i) 0 (a i) ≠ 0) : dfN d e a i (n - i) = dfJ (d i) (e i) 0 (a i) := by
  rw [show n - i = (n - (i + 1)) + 1 by omega, dfN, if_pos h2]
theorem dfN_e {d e : Dr} {a : Pl} {i n : Nat} (h : n ≤ i) : dfN d e a i (n - i) = 0 := by rw [show n - i = 0 by omega]; rfl
theorem coD_b {tr : List Trip} (h : Ok tr) {d : Dr} (hd : Bd d) {a : Pl} (ha : Pk tr a) : -3518437208883200 ≤ coD tr d a ∧ coD tr d a ≤ 3518437208883200 := by
  have h1 := coN_b h hd ha tr.length (Nat.le_refl _)
  have h2 := h.n
  unfold coD; omega
theorem cm1 {tr : List Trip} {d e : Dr} {a : Pl} (h : ¬ coD tr d a - coD tr e a = 0) : cmD tr d e a = coD tr d a - coD tr e a := by rw [cmD, if_pos h]
theorem cm2 {tr : List Trip} {d e : Dr} {a : Pl} (h : coD tr d a - coD tr e a = 0) : cmD tr d e a = dfN d e a 0 tr.length := by rw [cmD, if_neg (by omega)]
def cvJ (d e : Dr) (a : Pl) (i y : Nat) : Bool := decide (a i ≤ y → d i y ≤ e i y)
def cvI (tr : List Trip) (d e : Dr) (a : Pl) (i : Nat) : Bool := (List.range (tr.getD i default).fStops.length).all (cvJ d e a i)
def cvB (tr : List Trip) (d e : Dr) (a : Pl) : Bool := (List.range tr.length).all (cvI tr d e a) && decide (cmD tr d e a ≤ 0)
theorem pk_en (tr : List Trip) : Pk tr (enA tr) := fun i hi => by unfold enA; rw [if_pos hi]; exact Nat.le_refl _
def beB (tr : List Trip) (d e : Dr) : Bool := decide (cmD tr d e (enA tr) < 0)
set_option maxHeartbeats 4000000 in
theorem dispatch_problem_compare_ok (O : Env) (tr : List Trip) (c : Cl) (d e : Dr) (a : Pl) (ho : Ok tr) (hd : Bd d) (he : Bd e) (ha : Pk tr a) : PCall Try.prog O 51 [prV tr c, .agg (drL d), .agg (drL e), .agg (plL a)] (vi (cmD tr d e a)) := by
  have hn := ho.n
  have cd := coD_b ho hd ha
  have ce := coD_b ho he ha
  refine pcall_of_aw Try.func51 rfl (by kernel_rfl) ?_
  refine aw_seq fun K0 hK0 => ?_
  refine aw_reg [0, 1, 2, 3] (by kernel_rfl) ?_
  simp (disch := omega) only [go_sem, seval]
  repeat refine And.intro obl ?_
  refine hK0 _ ?_; clear hK0
  refine aw_seq fun K1 hK1 => ?_
  refine aw_seq fun K2 hK2 => ?_
  refine aw_regDc [0, 5, 6, 7] [] mixed (by kernel_rfl) ?_
  simp (disch := omega) only [go_sem, seval]
  repeat refine And.intro obl ?_
  refine callD_to (dispatch_problem_cost_ok _ tr c d a ho hd ha) ?_ ?_
  · rfl
  simp (disch := omega) only [go_sem, seval]
  repeat refine And.intro obl ?_
  refine callD_to (dispatch_problem_cost_ok _ tr c e a ho he ha) ?_ ?_
  · rfl
  simp (disch := omega) only [go_sem, seval]
  repeat refine And.intro obl ?_
  refine hK2 _ ?_; clear hK2
  refine aw_seq fun K3 hK3 => ?_
  refine aw_reg [0, 5, 6, 7, 9] (by kernel_rfl) ?_
  simp (disch := omega) only [go_sem, seval]
  repeat refine And.intro obl ?_
  refine hK3 _ ?_; clear hK3
  refine aw_cond _ (by rfl) (rfl) (fun c0 => ?_) (fun c0 => ?_)
  · try simp only [push_cast] at c0
    refine aw_seq fun K4 hK4 => ?_
    refine aw_reg [9] (by kernel_rfl) ?_
    simp (disch := omega) only [go_sem, seval]
    repeat refine And.intro obl ?_
    refine hK4 _ ?_; clear hK4
    refine aw_ret ?_
    refine ret_tmp 8 rfl (by simp (disch := omega) only [go_sem, seval]) ?_
    exact Exp.is (by simp (disch := omega) only [go_sem, seval] <;> (rw [cm1 (by omega)])) rfl rfl
  · try simp only [push_cast] at c0
    refine aw_skip ?_
    refine hK1 _ ?_; clear hK1
    refine aw_seq fun K5 hK5 => ?_
    refine aw_seq fun K6 hK6 => ?_
    refine aw_reg [0, 5, 6, 7] (by kernel_rfl) ?_
    simp (disch := omega) only [go_sem, seval]
    repeat refine And.intro obl ?_
    refine hK6 _ ?_; clear hK6
    refine aw_block ?_
    refine aw_loopK [5, 6, 7, 28, 29] (fun n ρ => ∃ i, n = tr.length - i ∧ (i ≤ tr.length) ∧ (dfN d e a 0 tr.length = dfN d e a i (tr.length - i)) ∧ ρ = mkE O [(5, .bx (drL d)), (6, .bx (drL e)), (7, .bx (plL a)), (28, vi (tr.length : Nat)), (29, vi (i : Nat))]) _ ⟨0, rfl, ?_, ?_, ?_⟩ ?_
    · exact dfl
    · rfl
    · simp (disch := omega) only [go_sem, seval] <;> first | rfl | omega | simp | simp_all
    rintro n ρ ⟨i, rfl, l0_0, l0_1, rfl⟩ K7 hK7
    refine aw_seq fun K8 hK8 => ?_
    refine aw_reg [5, 6, 7, 28, 29] (by kernel_rfl) ?_
    simp (disch := omega) only [go_sem, seval]
    repeat refine And.intro obl ?_
    refine hK8 _ ?_; clear hK8
    refine aw_seq fun K9 hK9 => ?_
    refine aw_cond _ (by rfl) (rfl) (fun c1 => ?_) (fun c1 => ?_)
    · try simp only [push_cast] at c1
      refine aw_skip ?_
      refine hK9 _ ?_; clear hK9
      refine aw_seq fun K10 hK10 => ?_
      refine aw_block ?_
      refine aw_seq fun K11 hK11 => ?_
      have hl := ho.l i c1
      have hai := ha i c1
      refine aw_reg [5, 6, 7, 28, 29] (by kernel_rfl) ?_
      simp (disch := omega) only [go_sem, seval]
      repeat refine And.intro obl ?_
      refine hK11 _ ?_; clear hK11
      refine aw_seq fun K12 hK12 => ?_
      refine aw_reg [5, 6, 7, 10, 28, 29] (by kernel_rfl) ?_
      simp (disch := omega) only [go_sem, seval]
      repeat refine And.intro obl ?_
      refine hK12 _ ?_; clear hK12
      refine aw_block ?_
      refine aw_loopK [5, 6, 7, 28, 29, 10, 34, 35] (fun n ρ => ∃ j, n = a i - j ∧ (j ≤ a i) ∧ (dfJ (d i) (e i) 0 (a i) = dfJ (d i) (e i) j (a i - j)) ∧ ρ = mkE O [(5, .bx (drL d)), (6, .bx (drL e)), (7, .bx (plL a)), (28, vi (tr.length : Nat)), (29, vi (i : Nat)), (10, vi (i : Nat)), (34, vi (a i : Nat)), (35, vi (j : Nat))]) _ ⟨0, rfl, ?_, ?_, ?_⟩ ?_
      · exact dfl
      · rfl
      · simp (disch := omega) only [go_sem, seval] <;> first | rfl | omega | simp | simp_all
      rintro n ρ ⟨j, rfl, l1_0, l1_1, rfl⟩ K13 hK13
      refine aw_seq fun K14 hK14 => ?_
      refine aw_reg [5, 6, 7, 10, 28, 29, 34, 35] (by kernel_rfl) ?_
      simp (disch := omega) only [go_sem, seval]
      repeat refine And.intro obl ?_
      refine hK14 _ ?_; clear hK14
      refine aw_seq fun K15 hK15 => ?_
      refine aw_cond _ (by rfl) (rfl) (fun c2 => ?_) (fun c2 => ?_)
      · try simp only [push_cast] at c2
        refine aw_skip ?_
        refine hK15 _ ?_; clear hK15
        refine aw_seq fun K16 hK16 => ?_
        refine aw_block ?_
        refine aw_seq fun K17 hK17 => ?_
        refine aw_reg [5, 6, 7, 10, 28, 29, 34, 35] (by kernel_rfl) ?_
        simp (disch := omega) only [go_sem, seval]
        repeat refine And.intro obl ?_
        refine hK17 _ ?_; clear hK17
        refine aw_seq fun K18 hK18 => ?_
        have b1 := hd i j
        have b2 := he i j
        refine aw_regDc [5, 6, 7, 10, 11, 28, 29, 34, 35] [] mixed (by kernel_rfl) ?_
        simp (disch := omega) only [go_sem, seval]
        repeat refine And.intro obl ?_
        refine hK18 _ ?_; clear hK18
        refine aw_cond _ (by rfl) (rfl) (fun c3 => ?_) (fun c3 => ?_)
        · try simp only [push_cast] at c3
          refine aw_seq fun K19 hK19 => ?_
          refine aw_regDc [5, 6, 10, 11] [] mixed (by kernel_rfl) ?_
          simp (disch := omega) only [go_sem, seval]
          repeat refine And.intro obl ?_
          refine hK19 _ ?_; clear hK19
          refine aw_ret ?_
          refine ret_tmp 8 rfl (by simp (disch := omega) only [go_sem, seval]) ?_
          exact Exp.is (by simp (disch := omega) only [go_sem, seval] <;> (rw [cm2 (by omega), l0_1, dfN_d c1 (by rw [l1_1, dfJ_d c2 (by omega)]; omega), l1_1, dfJ_d c2 (by omega)])) rfl rfl
        · try simp only [push_cast] at c3
          refine aw_skip ?_
          refine hK16 _ ?_; clear hK16
          refine aw_reg [5, 6, 7, 10, 28, 29, 34, 35] (by kernel_rfl) ?_
          simp (disch := omega) only [go_sem, seval]
          repeat refine And.intro obl ?_
          refine hK13 _ _ ?_ ⟨j + 1, rfl, ?_, ?_, ?_⟩
          · exact dfl
          · exact dfl
          · rw [l1_1, dfJ_s c2 (by omega)]
          · simp (disch := omega) only [go_sem, seval] <;> first | rfl | omega | simp | simp_all
      · try simp only [push_cast] at c2
        refine aw_exit ?_
        refine hK10 _ ?_; clear hK10
        refine aw_reg [5, 6, 7, 28, 29] (by kernel_rfl) ?_
        simp (disch := omega) only [go_sem, seval]
        repeat refine And.intro obl ?_
        refine hK7 _ _ ?_ ⟨i + 1, rfl, ?_, ?_, ?_⟩
        · exact dfl
        · exact dfl
        · rw [l0_1, dfN_s c1 (by rw [l1_1, dfJ_e (by omega)])]
        · simp (disch := omega) only [go_sem, seval] <;> first | rfl | omega | simp | simp_all
    · try simp only [push_cast] at c1
      refine aw_exit ?_
      refine hK5 _ ?_; clear hK5
      refine aw_seq fun K20 hK20 => ?_
      refine aw_reg [] (by kernel_rfl) ?_
      simp (disch := omega) only [go_sem, seval]
      repeat refine And.intro obl ?_
      refine hK20 _ ?_; clear hK20
      refine aw_ret ?_
      refine ret_tmp 8 rfl (by simp (disch := omega) only [go_sem, seval]) ?_
      exact Exp.is (by simp (disch := omega) only [go_sem, seval] <;> (rw [cm2 (by omega), l0_1, dfN_e (by omega)])) rfl rfl
theorem dispatch_problem_before_ok (O : Env) (tr : List Trip) (c : Cl) (d e : Dr) (ho : Ok tr) (hd : Bd d) (he : Bd e) : PCall Try.prog O 28 [prV tr c, .agg (drL d), .agg (drL e)] (vb (beB tr d e)) := by
  refine pcall_of_aw Try.func28 rfl (by kernel_rfl) ?_
  refine aw_seq fun K0 hK0 => ?_
  refine aw_reg [0, 1, 2] (by kernel_rfl) ?_
  simp (disch := omega) only [go_sem, seval]
  repeat refine And.intro obl ?_
  refine hK0 _ ?_; clear hK0
  refine aw_seq fun K1 hK1 => ?_
  refine aw_regDc [0, 4, 5] [] mixed (by kernel_rfl) ?_
  simp (disch := omega) only [go_sem, seval]
  repeat refine And.intro obl ?_
  refine callD_to (dispatch_problem_ends_ok _ tr c ho) ?_ ?_
  · rfl
  simp (disch := omega) only [go_sem, seval]
  repeat refine And.intro obl ?_
  refine callD_to (dispatch_problem_compare_ok _ tr c d e (enA tr) ho hd he (pk_en tr)) ?_ ?_
  · rfl
  simp (disch := omega) only [go_sem, seval]
  repeat refine And.intro obl ?_
  refine hK1 _ ?_; clear hK1
  refine aw_ret ?_
  refine ret_tmp 6 rfl (by simp (disch := omega) only [go_sem, seval]) ?_
  exact Exp.is (by simp (disch := omega) only [go_sem, seval] <;> refine congrArg vb ?_ <;> (rfl)) rfl rfl
end Go.Sg
