/- Contracts of covers, begin, place. Printed by genw.py. -/
import Derived.Test.YtbndgcddihbhlaaSgB
import Derived.Test.YtbndgcddihbhlaaD7
set_option linter.unusedVariables false
set_option linter.unusedSimpArgs false
set_option maxRecDepth 8000
namespace Go.Sg
open Go.Proofs
theorem cv_n {tr : List Trip} {d e : Dr} {a : Pl} {i j : Nat} (hi : i < tr.length) (h1 : a i ≤ j) (h2 : j < (tr.getD i default).fStops.length) (h : ¬ d i j ≤ e i j) : cvB tr d e a = false := by
  rw [cvB, rg_f hi (rg_f h2 (decide_eq_false fun q => h (q h1)))]; rfl
theorem cv_y {tr : List Trip} {d e : Dr} {a : Pl} {i : Nat} (h : rgTo (cvI tr d e a) i) (h2 : tr.length ≤ i) : cvB tr d e a = decide (cmD tr d e a ≤ 0) := by rw [cvB, rg_t h h2]; rfl
theorem upD_eq (d : Dr) (i j : Nat) (v : Int) : upD d i j v i j = v := by simp [upD]
theorem upD_ne (d : Dr) (i j k : Nat) (v : Int) (h : k ≠ j) : upD d i j v i k = d i k := by simp [upD, h]
theorem bgP_pre (tr : List Trip) (i j : Nat) (h : 0 < j) : bgP tr i j i (j - 1) = bgR tr i (j - 1) := by unfold bgP; rw [if_pos (Or.inr ⟨rfl, by omega⟩)]
theorem bgR_s {tr : List Trip} {i j : Nat} (h : 0 < j) (x : Int) (hx : x = bgR tr i (j - 1) + ((tr.getD i default).fStops.getD (j - 1) default).fRun) : (if ((tr.getD i default).fStops.getD j default).fDue < x then x else ((tr.getD i default).fStops.getD j default).fDue) = bgR tr i j := by
  obtain ⟨m, rfl⟩ : ∃ m, j = m + 1 := ⟨j - 1, by omega⟩
  simp only [Nat.add_sub_cancel] at hx
  simp only [bgR, duN, ruN]
  rw [← hx]
  split <;> omega
theorem bgP_z {tr : List Trip} {i j : Nat} (h : j = 0) : upD (bgP tr i j) i j (((tr.getD i default).fStops.getD j default).fDue) = bgP tr i (j + 1) := by subst h; exact bgP_s0 tr i
set_option maxHeartbeats 4000000 in
theorem dispatch_problem_covers_ok (O : Env) (tr : List Trip) (c : Cl) (d e : Dr) (a : Pl) (ho : Ok tr) (hd : Bd d) (he : Bd e) (ha : Pk tr a) : PCall Try.prog O 53 [prV tr c, .agg (drL d), .agg (drL e), .agg (plL a)] (vb (cvB tr d e a)) := by
  have hn := ho.n
  refine pcall_of_aw Try.func53 rfl (by kernel_rfl) ?_
  refine aw_seq fun K0 hK0 => ?_
  refine aw_reg [0, 1, 2, 3] (by kernel_rfl) ?_
  simp (disch := omega) only [go_sem, seval]
  repeat refine And.intro obl ?_
  refine hK0 _ ?_; clear hK0
  refine aw_seq fun K1 hK1 => ?_
  refine aw_seq fun K2 hK2 => ?_
  refine aw_reg [0, 5, 6, 7] (by kernel_rfl) ?_
  simp (disch := omega) only [go_sem, seval]
  repeat refine And.intro obl ?_
  refine hK2 _ ?_; clear hK2
  refine aw_block ?_
  refine aw_loopK [0, 5, 6, 7, 15, 16, 17] (fun n ρ => ∃ i, n = tr.length - i ∧ (i ≤ tr.length) ∧ (rgTo (cvI tr d e a) i) ∧ ρ = mkE O [(0, prV tr c), (5, .bx (drL d)), (6, .bx (drL e)), (7, .bx (plL a)), (15, encTr tr), (16, vi (tr.length : Nat)), (17, vi (i : Nat))]) _ ⟨0, rfl, ?_, ?_, ?_⟩ ?_
  · exact dfl
  · exact rgTo_0 _
  · simp (disch := omega) only [go_sem, seval] <;> first | rfl | omega | simp | simp_all
  rintro n ρ ⟨i, rfl, l0_0, l0_1, rfl⟩ K3 hK3
  refine aw_seq fun K4 hK4 => ?_
  refine aw_reg [0, 5, 6, 7, 12, 13, 14, 15, 16, 17] (by kernel_rfl) ?_
  simp (disch := omega) only [go_sem, seval]
  repeat refine And.intro obl ?_
  refine hK4 _ ?_; clear hK4
  refine aw_seq fun K5 hK5 => ?_
  refine aw_cond _ (by rfl) (rfl) (fun c0 => ?_) (fun c0 => ?_)
  · try simp only [push_cast] at c0
    refine aw_skip ?_
    refine hK5 _ ?_; clear hK5
    refine aw_seq fun K6 hK6 => ?_
    refine aw_block ?_
    refine aw_seq fun K7 hK7 => ?_
    have hl := ho.l i c0
    have hai := ha i c0
    refine aw_reg [0, 5, 6, 7, 12, 13, 14, 15, 16, 17] (by kernel_rfl) ?_
    simp (disch := omega) only [go_sem, seval]
    repeat refine And.intro obl ?_
    refine hK7 _ ?_; clear hK7
    refine aw_seq fun K8 hK8 => ?_
    refine aw_reg [0, 5, 6, 7, 9, 10, 12, 13, 14, 15, 16, 17] (by kernel_rfl) ?_
    simp (disch := omega) only [go_sem, seval]
    repeat refine And.intro obl ?_
    refine hK8 _ ?_; clear hK8
    refine aw_block ?_
    refine aw_loopK [0, 5, 6, 7, 15, 16, 17, 9, 10, 11] (fun n ρ => ∃ j, n = (tr.getD i default).fStops.length - j ∧ (a i ≤ j) ∧ (j ≤ (tr.getD i default).fStops.length) ∧ (rgTo (cvJ d e a i) j) ∧ ρ = mkE O [(0, prV tr c), (5, .bx (drL d)), (6, .bx (drL e)), (7, .bx (plL a)), (15, encTr tr), (16, vi (tr.length : Nat)), (17, vi (i : Nat)), (9, vi (i : Nat)), (10, .bx (eTrip (tr.getD i default))), (11, vi (j : Nat))]) _ ⟨a i, rfl, ?_, ?_, ?_, ?_⟩ ?_
    · exact dfl
    · exact dfl
    · exact fun y hy => decide_eq_true fun q => by omega
    · simp (disch := omega) only [go_sem, seval] <;> first | rfl | omega | simp | simp_all
    rintro n ρ ⟨j, rfl, l1_0, l1_1, l1_2, rfl⟩ K9 hK9
    refine aw_seq fun K10 hK10 => ?_
    refine aw_seq fun K11 hK11 => ?_
    refine aw_reg [0, 5, 6, 7, 9, 10, 11, 12, 13, 14, 15, 16, 17] (by kernel_rfl) ?_
    simp (disch := omega) only [go_sem, seval]
    repeat refine And.intro obl ?_
    refine hK11 _ ?_; clear hK11
    refine aw_cond _ (by rfl) (rfl) (fun c1 => ?_) (fun c1 => ?_)
    · try simp only [push_cast] at c1
      refine aw_skip ?_
      refine hK10 _ ?_; clear hK10
      refine aw_seq fun K12 hK12 => ?_
      refine aw_block ?_
      refine aw_seq fun K13 hK13 => ?_
      refine aw_regDc [0, 5, 6, 7, 9, 10, 11, 12, 13, 14, 15, 16, 17] [] mixed (by kernel_rfl) ?_
      simp (disch := omega) only [go_sem, seval]
      repeat refine And.intro obl ?_
      refine hK13 _ ?_; clear hK13
      refine aw_cond _ (by rfl) (rfl) (fun c2 => ?_) (fun c2 => ?_)
      · try simp only [push_cast] at c2
        refine aw_seq fun K14 hK14 => ?_
        refine aw_reg [] (by kernel_rfl) ?_
        simp (disch := omega) only [go_sem, seval]
        repeat refine And.intro obl ?_
        refine hK14 _ ?_; clear hK14
        refine aw_ret ?_
        refine ret_tmp 8 rfl (by simp (disch := omega) only [go_sem, seval]) ?_
        exact Exp.is (by simp (disch := omega) only [go_sem, seval] <;> refine congrArg vb ?_ <;> (rw [cv_n c0 l1_0 c1 (by omega)])) rfl rfl
      · try simp only [push_cast] at c2
        refine aw_skip ?_
        refine hK12 _ ?_; clear hK12
        refine aw_reg [0, 5, 6, 7, 9, 10, 11, 12, 13, 14, 15, 16, 17] (by kernel_rfl) ?_
        simp (disch := omega) only [go_sem, seval]
        repeat refine And.intro obl ?_
        refine hK9 _ _ ?_ ⟨j + 1, rfl, ?_, ?_, ?_, ?_⟩
        · exact dfl
        · exact dfl
        · exact dfl
        · exact rgTo_s l1_2 (decide_eq_true fun _ => by omega)
        · simp (disch := omega) only [go_sem, seval] <;> first | rfl | omega | simp | simp_all
    · try simp only [push_cast] at c1
      refine aw_exit ?_
      refine hK6 _ ?_; clear hK6
      refine aw_reg [0, 5, 6, 7, 12, 13, 14, 15, 16, 17] (by kernel_rfl) ?_
      simp (disch := omega) only [go_sem, seval]
      repeat refine And.intro obl ?_
      refine hK3 _ _ ?_ ⟨i + 1, rfl, ?_, ?_, ?_⟩
      · exact dfl
      · exact dfl
      · exact rgTo_s l0_1 (rg_t l1_2 (by omega))
      · simp (disch := omega) only [go_sem, seval] <;> first | rfl | omega | simp | simp_all
  · try simp only [push_cast] at c0
    refine aw_exit ?_
    refine hK1 _ ?_; clear hK1
    refine aw_seq fun K15 hK15 => ?_
    refine aw_reg [0, 5, 6, 7] (by kernel_rfl) ?_
    simp (disch := omega) only [go_sem, seval]
    repeat refine And.intro obl ?_
    refine callG_of _ (dispatch_problem_compare_ok _ tr c d e a ho hd he ha) ?_
    simp (disch := omega) only [go_sem, seval]
    repeat refine And.intro obl ?_
    refine hK15 _ ?_; clear hK15
    refine aw_ret ?_
    refine ret_tmp 8 rfl (by simp (disch := omega) only [go_sem, seval]) ?_
    exact Exp.is (by simp (disch := omega) only [go_sem, seval] <;> refine congrArg vb ?_ <;> (rw [cv_y l0_1 (by omega)])) rfl rfl
set_option maxHeartbeats 4000000 in
theorem dispatch_problem_begin_ok (O : Env) (tr : List Trip) (c : Cl) (ho : Ok tr) : PCall Try.prog O 25 [prV tr c] (.agg (drL (bgD tr))) := by
  have hn := ho.n
  refine pcall_of_aw Try.func25 rfl (by kernel_rfl) ?_
  refine aw_seq fun K0 hK0 => ?_
  refine aw_reg [0] (by kernel_rfl) ?_
  simp (disch := omega) only [go_sem, seval, upD_eq, bgP_pre]
  repeat refine And.intro obl ?_
  refine hK0 _ ?_; clear hK0
  refine aw_seq fun K1 hK1 => ?_
  refine aw_reg [0, 2] (by kernel_rfl) ?_
  simp (disch := omega) only [go_sem, seval, upD_eq, bgP_pre]
  repeat refine And.intro obl ?_
  refine hK1 _ ?_; clear hK1
  refine aw_seq fun K2 hK2 => ?_
  refine aw_seq fun K3 hK3 => ?_
  refine aw_reg [0, 2, 3] (by kernel_rfl) ?_
  simp (disch := omega) only [go_sem, seval, upD_eq, bgP_pre]
  repeat refine And.intro obl ?_
  refine hK3 _ ?_; clear hK3
  refine aw_block ?_
  refine aw_loopK [2, 3, 11, 12, 13] (fun n ρ => ∃ i, n = tr.length - i ∧ (i ≤ tr.length) ∧ ρ = mkE O [(2, .bx (drL (fun _ _ => 0))), (3, .bx (drL (bgP tr i 0))), (11, encTr tr), (12, vi (tr.length : Nat)), (13, vi (i : Nat))]) _ ⟨0, rfl, ?_, ?_⟩ ?_
  · exact dfl
  · simp (disch := omega) only [go_sem, seval, upD_eq, bgP_pre] <;> rfl
  rintro n ρ ⟨i, rfl, l0_0, rfl⟩ K4 hK4
  refine aw_seq fun K5 hK5 => ?_
  refine aw_reg [0, 2, 3, 8, 9, 10, 11, 12, 13] (by kernel_rfl) ?_
  simp (disch := omega) only [go_sem, seval, upD_eq, bgP_pre]
  repeat refine And.intro obl ?_
  refine hK5 _ ?_; clear hK5
  refine aw_seq fun K6 hK6 => ?_
  refine aw_cond _ (by rfl) (rfl) (fun c0 => ?_) (fun c0 => ?_)
  · try simp only [push_cast] at c0
    refine aw_skip ?_
    refine hK6 _ ?_; clear hK6
    refine aw_seq fun K7 hK7 => ?_
    refine aw_block ?_
    refine aw_seq fun K8 hK8 => ?_
    have hl := ho.l i c0
    refine aw_reg [0, 2, 3, 8, 9, 10, 11, 12, 13] (by kernel_rfl) ?_
    simp (disch := omega) only [go_sem, seval, upD_eq, bgP_pre]
    repeat refine And.intro obl ?_
    refine hK8 _ ?_; clear hK8
    refine aw_seq fun K9 hK9 => ?_
    refine aw_reg [0, 2, 3, 4, 5, 8, 9, 10, 11, 12, 13] (by kernel_rfl) ?_
    simp (disch := omega) only [go_sem, seval, upD_eq, bgP_pre]
    repeat refine And.intro obl ?_
    refine hK9 _ ?_; clear hK9
    refine aw_block ?_
    refine aw_loopK [2, 3, 11, 12, 13, 4, 5, 19, 20, 21] (fun n ρ => ∃ j, n = (tr.getD i default).fStops.length - j ∧ (j ≤ (tr.getD i default).fStops.length) ∧ ρ = mkE O [(2, .bx (drL (fun _ _ => 0))), (3, .bx (drL (bgP tr i j))), (11, encTr tr), (12, vi (tr.length : Nat)), (13, vi (i : Nat)), (4, vi (i : Nat)), (5, .bx (eTrip (tr.getD i default))), (19, encSp (tr.getD i default).fStops), (20, vi ((tr.getD i default).fStops.length : Nat)), (21, vi (j : Nat))]) _ ⟨0, rfl, ?_, ?_⟩ ?_
    · exact dfl
    · simp (disch := omega) only [go_sem, seval, upD_eq, bgP_pre] <;> first | rfl | omega | simp | simp_all
    rintro n ρ ⟨j, rfl, l1_0, rfl⟩ K10 hK10
    refine aw_seq fun K11 hK11 => ?_
    refine aw_reg [0, 2, 3, 4, 5, 8, 9, 10, 11, 12, 13, 18, 19, 20, 21] (by kernel_rfl) ?_
    simp (disch := omega) only [go_sem, seval, upD_eq, bgP_pre]
    repeat refine And.intro obl ?_
    refine hK11 _ ?_; clear hK11
    refine aw_seq fun K12 hK12 => ?_
    refine aw_cond _ (by rfl) (rfl) (fun c1 => ?_) (fun c1 => ?_)
    · try simp only [push_cast] at c1
      refine aw_skip ?_
      refine hK12 _ ?_; clear hK12
      refine aw_seq fun K13 hK13 => ?_
      refine aw_block ?_
      refine aw_seq fun K14 hK14 => ?_
      refine aw_reg [0, 2, 3, 4, 5, 8, 9, 10, 11, 12, 13, 18, 19, 20, 21] (by kernel_rfl) ?_
      simp (disch := omega) only [go_sem, seval, upD_eq, bgP_pre]
      repeat refine And.intro obl ?_
      refine hK14 _ ?_; clear hK14
      refine aw_seq fun K15 hK15 => ?_
      refine aw_regDc [0, 2, 3, 4, 5, 6, 7, 8, 9, 10, 11, 12, 13, 18, 19, 20, 21] [] mixed (by kernel_rfl) ?_
      simp (disch := omega) only [go_sem, seval, upD_eq, bgP_pre]
      repeat refine And.intro obl ?_
      refine hK15 _ ?_; clear hK15
      refine aw_seq fun K16 hK16 => ?_
      refine aw_reg [0, 2, 3, 4, 5, 6, 7, 8, 9, 10, 11, 12, 13, 18, 19, 20, 21] (by kernel_rfl) ?_
      simp (disch := omega) only [go_sem, seval, upD_eq, bgP_pre]
      repeat refine And.intro obl ?_
      refine hK16 _ ?_; clear hK16
      refine aw_cond _ (by rfl) (rfl) (fun c2 => ?_) (fun c2 => ?_)
      · try simp only [push_cast] at c2
        have b1 := bgR_b ho c0 (j - 1) (by omega)
        have b2 := ho.s i (j - 1) c0 (by omega)
        have hjm := bgP_pre tr i j (by omega)
        have hun := upD_ne (bgP tr i j) i j (j - 1) (((tr.getD i default).fStops.getD j default).fDue) (by omega)
        refine aw_regDc [0, 2, 3, 4, 5, 6, 7, 8, 9, 10, 11, 12, 13, 18, 19, 20, 21] [] mixed (by kernel_rfl) ?_
        simp (disch := omega) only [go_sem, seval, upD_eq, bgP_pre]
        repeat refine And.intro obl ?_
        refine hK13 _ ?_; clear hK13
        refine aw_reg [0, 2, 3, 4, 5, 8, 9, 10, 11, 12, 13, 18, 19, 20, 21] (by kernel_rfl) ?_
        simp (disch := omega) only [go_sem, seval, upD_eq, bgP_pre]
        repeat refine And.intro obl ?_
        refine hK10 _ _ ?_ ⟨j + 1, rfl, ?_, ?_⟩
        · exact dfl
        · exact dfl
        · simp (disch := omega) only [go_sem, seval, upD_eq, bgP_pre] <;> rw [upD_ne _ _ _ _ _ (show j - 1 ≠ j by omega), hjm, bgP_s tr i j _ _ (bgR_s (by omega) _ rfl)]; rfl
      · try simp only [push_cast] at c2
        refine aw_skip ?_
        refine hK13 _ ?_; clear hK13
        refine aw_reg [0, 2, 3, 4, 5, 8, 9, 10, 11, 12, 13, 18, 19, 20, 21] (by kernel_rfl) ?_
        simp (disch := omega) only [go_sem, seval, upD_eq, bgP_pre]
        repeat refine And.intro obl ?_
        refine hK10 _ _ ?_ ⟨j + 1, rfl, ?_, ?_⟩
        · exact dfl
        · exact dfl
        · simp (disch := omega) only [go_sem, seval, upD_eq, bgP_pre] <;> rw [bgP_z (by omega)]; rfl
    · try simp only [push_cast] at c1
      refine aw_exit ?_
      refine hK7 _ ?_; clear hK7
      refine aw_reg [0, 2, 3, 8, 9, 10, 11, 12, 13] (by kernel_rfl) ?_
      simp (disch := omega) only [go_sem, seval, upD_eq, bgP_pre]
      repeat refine And.intro obl ?_
      refine hK4 _ _ ?_ ⟨i + 1, rfl, ?_, ?_⟩
      · exact dfl
      · exact dfl
      · simp (disch := omega) only [go_sem, seval, upD_eq, bgP_pre] <;> rw [bgP_row (by omega)]; rfl
  · try simp only [push_cast] at c0
    refine aw_exit ?_
    refine hK2 _ ?_; clear hK2
    refine aw_seq fun K17 hK17 => ?_
    refine aw_reg [2, 3] (by kernel_rfl) ?_
    simp (disch := omega) only [go_sem, seval, upD_eq, bgP_pre]
    repeat refine And.intro obl ?_
    refine hK17 _ ?_; clear hK17
    refine aw_ret ?_
    refine ret_cell 2 60 rfl (by simp (disch := omega) only [go_sem, seval, upD_eq, bgP_pre]) (by simp (disch := omega) only [go_sem, seval, upD_eq, bgP_pre] <;> (rw [bgP_end (by omega) (by omega)])) (by simp (disch := omega) only [go_sem, seval, upD_eq, bgP_pre]) (by simp (disch := omega) only [go_sem, seval, upD_eq, bgP_pre])
end Go.Sg
