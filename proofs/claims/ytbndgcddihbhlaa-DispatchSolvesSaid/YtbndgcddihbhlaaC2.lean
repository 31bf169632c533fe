/- Contracts of Between and Matrix of the package conflict and its reference. Printed by genw.py. -/
import Derived.Test.YtbndgcddihbhlaaSgB
import Derived.Test.YtbndgcddihbhlaaC1
set_option linter.unusedVariables false
set_option linter.unusedSimpArgs false
namespace Go.Sg
open Go.Proofs
def beyB (a b : Route) : Bool := metB a.fOverSections b.fSections && !folB a b || metB b.fOverSections a.fSections && !folB b a
def ovlB (a b : Route) : Bool := metB a.fOverSections b.fOverSections && !folB a b && !folB b a
def bt3 (a b : Route) : Int := if ovlB a b = true then 4 else 0
def bt2 (a b : Route) : Int := if beyB a b = true then 3 else bt3 a b
def bt1 (a b : Route) : Int := if metB a.fSections b.fSections = true then 2 else bt2 a b
def betB (a b : Route) : Int := if agrB (setL a) (setL b) = false then 1 else bt1 a b
def btN (a b : Route) : Nat → Int
  | 0 => betB a b
  | 1 => bt1 a b
  | 2 => bt2 a b
  | 3 => bt3 a b
  | _ => 0
abbrev encRt (l : List Route) : DV := encL 14 eRoute l
theorem conflict_pair_positions_ok (O : Env) (a b : Route) (ha : Sml a) (hb : Sml b) : PCall Try.prog O 40 [.agg (eRoute a ++ eRoute b)] (vb (!agrB (setL a) (setL b))) := by
  refine pcall_of_aw Try.func40 rfl (by kernel_rfl) ?_
  refine aw_seq fun K0 hK0 => ?_
  refine aw_reg [0] (by kernel_rfl) ?_
  simp (disch := omega) only [go_sem, seval]
  repeat refine And.intro obl ?_
  refine hK0 _ ?_; clear hK0
  refine aw_seq fun K1 hK1 => ?_
  refine aw_regDc [1] [] mixed (by kernel_rfl) ?_
  simp (disch := omega) only [go_sem, seval]
  repeat refine And.intro obl ?_
  refine callD_to (pcall_args [encLS [a.fPoints, a.fOverPoints, a.fFlank]] (.cons (RWk.litL [a.fPoints, a.fOverPoints, a.fFlank] rfl rfl) .nil) (slices_Concat_Setting_ok _ [a.fPoints, a.fOverPoints, a.fFlank] (by have := setL_len ha; unfold setL at this; omega))) ?_ ?_
  · rfl
  simp (disch := omega) only [go_sem, seval]
  repeat refine And.intro obl ?_
  refine callD_to (pcall_args [encLS [b.fPoints, b.fOverPoints, b.fFlank]] (.cons (RWk.litL [b.fPoints, b.fOverPoints, b.fFlank] rfl rfl) .nil) (slices_Concat_Setting_ok _ [b.fPoints, b.fOverPoints, b.fFlank] (by have := setL_len hb; unfold setL at this; omega))) ?_ ?_
  · rfl
  simp (disch := omega) only [go_sem, seval]
  repeat refine And.intro obl ?_
  refine callD_to (conflict_Agree_ok _ (setL a) (setL b)) ?_ ?_
  · rfl
  simp (disch := omega) only [go_sem, seval]
  repeat refine And.intro obl ?_
  refine hK1 _ ?_; clear hK1
  refine aw_ret ?_
  refine ret_tmp 2 rfl (by simp (disch := omega) only [go_sem, seval]) ?_
  exact Exp.is (by simp (disch := omega) only [go_sem, seval] <;> refine congrArg vb ?_ <;> (rfl)) rfl rfl
theorem conflict_pair_paths_ok (O : Env) (a b : Route) (ha : Sml a) (hb : Sml b) : PCall Try.prog O 41 [.agg (eRoute a ++ eRoute b)] (vb (metB a.fSections b.fSections)) := by
  refine pcall_of_aw Try.func41 rfl (by kernel_rfl) ?_
  refine aw_seq fun K0 hK0 => ?_
  refine aw_reg [0] (by kernel_rfl) ?_
  simp (disch := omega) only [go_sem, seval]
  repeat refine And.intro obl ?_
  refine hK0 _ ?_; clear hK0
  refine aw_seq fun K1 hK1 => ?_
  refine aw_reg [1] (by kernel_rfl) ?_
  simp (disch := omega) only [go_sem, seval]
  repeat refine And.intro obl ?_
  refine callG_of _ (conflict_meet_ok _ a.fSections b.fSections (by have := ha.s; omega) (by have := hb.s; omega)) ?_
  simp (disch := omega) only [go_sem, seval]
  repeat refine And.intro obl ?_
  refine hK1 _ ?_; clear hK1
  refine aw_ret ?_
  refine ret_tmp 2 rfl (by simp (disch := omega) only [go_sem, seval]) ?_
  exact Exp.is (by simp (disch := omega) only [go_sem, seval] <;> refine congrArg vb ?_ <;> (rfl)) rfl rfl
theorem conflict_pair_beyond_ok (O : Env) (a b : Route) (ha : Sml a) (hb : Sml b) : PCall Try.prog O 42 [.agg (eRoute a ++ eRoute b)] (vb (beyB a b)) := by
  refine pcall_of_aw Try.func42 rfl (by kernel_rfl) ?_
  refine aw_seq fun K0 hK0 => ?_
  refine aw_reg [0] (by kernel_rfl) ?_
  simp (disch := omega) only [go_sem, seval]
  repeat refine And.intro obl ?_
  refine hK0 _ ?_; clear hK0
  refine aw_seq fun K1 hK1 => ?_
  refine aw_reg [1] (by kernel_rfl) ?_
  simp (disch := omega) only [go_sem, seval]
  repeat refine And.intro obl ?_
  refine callG_of _ (conflict_meet_ok _ a.fOverSections b.fSections (by have := ha.v; omega) (by have := hb.s; omega)) ?_
  simp (disch := omega) only [go_sem, seval]
  repeat refine And.intro obl ?_
  refine callC_to (fun g0 => conflict_Follows_ok _ a b) ?_ ?_ ?_
  · first | exact fun _ => trivial | simp
  · rfl
  simp (disch := omega) only [go_sem, seval]
  repeat refine And.intro obl ?_
  refine callC_to (fun g1 => conflict_meet_ok _ b.fOverSections a.fSections (by have := hb.v; omega) (by have := ha.s; omega)) ?_ ?_ ?_
  · first | exact fun _ => trivial | simp
  · rfl
  simp (disch := omega) only [go_sem, seval]
  repeat refine And.intro obl ?_
  refine callC_to (fun g2 => conflict_Follows_ok _ b a) ?_ ?_ ?_
  · first | exact fun _ => trivial | simp
  · rfl
  simp (disch := omega) only [go_sem, seval]
  repeat refine And.intro obl ?_
  refine hK1 _ ?_; clear hK1
  refine aw_ret ?_
  refine ret_tmp 2 rfl (by simp (disch := omega) only [go_sem, seval]) ?_
  exact Exp.is (by simp (disch := omega) only [go_sem, seval] <;> refine congrArg vb ?_ <;> (rfl)) rfl rfl
theorem conflict_pair_overlaps_ok (O : Env) (a b : Route) (ha : Sml a) (hb : Sml b) : PCall Try.prog O 43 [.agg (eRoute a ++ eRoute b)] (vb (ovlB a b)) := by
  refine pcall_of_aw Try.func43 rfl (by kernel_rfl) ?_
  refine aw_seq fun K0 hK0 => ?_
  refine aw_reg [0] (by kernel_rfl) ?_
  simp (disch := omega) only [go_sem, seval]
  repeat refine And.intro obl ?_
  refine hK0 _ ?_; clear hK0
  refine aw_seq fun K1 hK1 => ?_
  refine aw_reg [1] (by kernel_rfl) ?_
  simp (disch := omega) only [go_sem, seval]
  repeat refine And.intro obl ?_
  refine callG_of _ (conflict_meet_ok _ a.fOverSections b.fOverSections (by have := ha.v; omega) (by have := hb.v; omega)) ?_
  simp (disch := omega) only [go_sem, seval]
  repeat refine And.intro obl ?_
  refine callC_to (fun g0 => conflict_Follows_ok _ a b) ?_ ?_ ?_
  · first | exact fun _ => trivial | simp
  · rfl
  simp (disch := omega) only [go_sem, seval]
  repeat refine And.intro obl ?_
  refine callC_to (fun g1 => conflict_Follows_ok _ b a) ?_ ?_ ?_
  · first | exact fun _ => trivial | simp
  · rfl
  simp (disch := omega) only [go_sem, seval]
  repeat refine And.intro obl ?_
  refine hK1 _ ?_; clear hK1
  refine aw_ret ?_
  refine ret_tmp 2 rfl (by simp (disch := omega) only [go_sem, seval]) ?_
  exact Exp.is (by simp (disch := omega) only [go_sem, seval] <;> refine congrArg vb ?_ <;> (rfl)) rfl rfl
theorem conflict_Between_ok (O : Env) (a b : Route) (ha : Sml a) (hb : Sml b) : PCall Try.prog O 19 [.agg (eRoute a), .agg (eRoute b)] (vi (betB a b)) := by
  refine pcall_of_aw Try.func19 rfl (by kernel_rfl) ?_
  refine aw_seq fun K0 hK0 => ?_
  refine aw_reg [0, 1] (by kernel_rfl) ?_
  simp (disch := omega) only [go_sem, seval, i64id]
  repeat refine And.intro obl ?_
  refine hK0 _ ?_; clear hK0
  refine aw_seq fun K1 hK1 => ?_
  refine aw_reg [2, 3] (by kernel_rfl) ?_
  simp (disch := omega) only [go_sem, seval, i64id]
  repeat refine And.intro obl ?_
  refine hK1 _ ?_; clear hK1
  refine aw_seq fun K2 hK2 => ?_
  refine aw_seq fun K3 hK3 => ?_
  refine aw_reg [2, 3, 5] (by kernel_rfl) ?_
  simp (disch := omega) only [go_sem, seval, i64id]
  repeat refine And.intro obl ?_
  refine hK3 _ ?_; clear hK3
  refine aw_block ?_
  refine aw_loopK [2, 3, 9, 10, 11] (fun n ρ => ∃ i, n = 4 - i ∧ (i ≤ 4) ∧ (betB a b = btN a b i) ∧ ρ = mkE O [(2, .bx (eRoute a)), (3, .bx (eRoute b)), (9, .sl 1 4 fun i => ([[.fn 40 [] []], [.fn 41 [] []], [.fn 42 [] []], [.fn 43 [] []]] : List (List DV)).getD i []), (10, vi 4), (11, vi (i : Nat))]) _ ⟨0, rfl, ?_, ?_, ?_⟩ ?_
  · exact dfl
  · rfl
  · simp (disch := omega) only [go_sem, seval, i64id] <;> first | rfl | omega | simp | simp_all
  rintro n ρ ⟨i, rfl, l0_0, l0_1, rfl⟩ K4 hK4
  rcases (show i = 0 ∨ i = 1 ∨ i = 2 ∨ i = 3 ∨ i = 4 by omega) with rfl | rfl | rfl | rfl | rfl
  · skip
    refine aw_seq fun K5 hK5 => ?_
    refine aw_reg [2, 3, 5, 9, 10, 11] (by kernel_rfl) ?_
    simp (disch := omega) only [go_sem, seval, i64id]
    repeat refine And.intro obl ?_
    refine hK5 _ ?_; clear hK5
    refine aw_seq fun K6 hK6 => ?_
    refine aw_cond true (by rfl) (rfl) (fun _ => ?_) (fun h => by cases h)
    refine aw_skip ?_
    refine hK6 _ ?_; clear hK6
    refine aw_seq fun K7 hK7 => ?_
    refine aw_block ?_
    refine aw_seq fun K8 hK8 => ?_
    refine aw_reg [2, 3, 5, 9, 10, 11] (by kernel_rfl) ?_
    simp (disch := omega) only [go_sem, seval, i64id]
    repeat refine And.intro obl ?_
    refine hK8 _ ?_; clear hK8
    refine aw_seq fun K9 hK9 => ?_
    refine aw_reg [2, 3, 5, 6, 7, 9, 10, 11, 14] (by kernel_rfl) ?_
    simp (disch := omega) only [go_sem, seval, i64id]
    repeat refine And.intro obl ?_
    refine callG_of _ (conflict_pair_positions_ok _ a b ha hb) ?_
    simp (disch := omega) only [go_sem, seval, i64id]
    repeat refine And.intro obl ?_
    refine hK9 _ ?_; clear hK9
    refine aw_cond _ (by rfl) (rfl) (fun c1 => ?_) (fun c1 => ?_)
    · try simp only [push_cast] at c1
      refine aw_seq fun K10 hK10 => ?_
      refine aw_reg [6] (by kernel_rfl) ?_
      simp (disch := omega) only [go_sem, seval, i64id]
      repeat refine And.intro obl ?_
      refine hK10 _ ?_; clear hK10
      refine aw_ret ?_
      refine ret_tmp 4 rfl (by simp (disch := omega) only [go_sem, seval, i64id]) ?_
      exact Exp.is (by simp (disch := omega) only [go_sem, seval, i64id] <;> (rw [l0_1]; simp [btN, betB, c1])) rfl rfl
    · try simp only [push_cast] at c1
      refine aw_skip ?_
      refine hK7 _ ?_; clear hK7
      refine aw_reg [2, 3, 5, 9, 10, 11] (by kernel_rfl) ?_
      simp (disch := omega) only [go_sem, seval, i64id]
      repeat refine And.intro obl ?_
      refine hK4 _ _ ?_ ⟨1, rfl, ?_, ?_, ?_⟩
      · exact dfl
      · exact dfl
      · rw [l0_1]; simp only [btN, betB]; simp [c1]
      · simp (disch := omega) only [go_sem, seval, i64id] <;> first | rfl | omega | simp | simp_all
  · skip
    refine aw_seq fun K11 hK11 => ?_
    refine aw_reg [2, 3, 5, 9, 10, 11] (by kernel_rfl) ?_
    simp (disch := omega) only [go_sem, seval, i64id]
    repeat refine And.intro obl ?_
    refine hK11 _ ?_; clear hK11
    refine aw_seq fun K12 hK12 => ?_
    refine aw_cond true (by rfl) (rfl) (fun _ => ?_) (fun h => by cases h)
    refine aw_skip ?_
    refine hK12 _ ?_; clear hK12
    refine aw_seq fun K13 hK13 => ?_
    refine aw_block ?_
    refine aw_seq fun K14 hK14 => ?_
    refine aw_reg [2, 3, 5, 9, 10, 11] (by kernel_rfl) ?_
    simp (disch := omega) only [go_sem, seval, i64id]
    repeat refine And.intro obl ?_
    refine hK14 _ ?_; clear hK14
    refine aw_seq fun K15 hK15 => ?_
    refine aw_reg [2, 3, 5, 6, 7, 9, 10, 11, 14] (by kernel_rfl) ?_
    simp (disch := omega) only [go_sem, seval, i64id]
    repeat refine And.intro obl ?_
    refine callG_of _ (conflict_pair_paths_ok _ a b ha hb) ?_
    simp (disch := omega) only [go_sem, seval, i64id]
    repeat refine And.intro obl ?_
    refine hK15 _ ?_; clear hK15
    refine aw_cond _ (by rfl) (rfl) (fun c3 => ?_) (fun c3 => ?_)
    · try simp only [push_cast] at c3
      refine aw_seq fun K16 hK16 => ?_
      refine aw_reg [6] (by kernel_rfl) ?_
      simp (disch := omega) only [go_sem, seval, i64id]
      repeat refine And.intro obl ?_
      refine hK16 _ ?_; clear hK16
      refine aw_ret ?_
      refine ret_tmp 4 rfl (by simp (disch := omega) only [go_sem, seval, i64id]) ?_
      exact Exp.is (by simp (disch := omega) only [go_sem, seval, i64id] <;> (rw [l0_1]; simp [btN, bt1, c3])) rfl rfl
    · try simp only [push_cast] at c3
      refine aw_skip ?_
      refine hK13 _ ?_; clear hK13
      refine aw_reg [2, 3, 5, 9, 10, 11] (by kernel_rfl) ?_
      simp (disch := omega) only [go_sem, seval, i64id]
      repeat refine And.intro obl ?_
      refine hK4 _ _ ?_ ⟨2, rfl, ?_, ?_, ?_⟩
      · exact dfl
      · exact dfl
      · rw [l0_1]; simp only [btN, bt1]; simp [c3]
      · simp (disch := omega) only [go_sem, seval, i64id] <;> first | rfl | omega | simp | simp_all
  · skip
    refine aw_seq fun K17 hK17 => ?_
    refine aw_reg [2, 3, 5, 9, 10, 11] (by kernel_rfl) ?_
    simp (disch := omega) only [go_sem, seval, i64id]
    repeat refine And.intro obl ?_
    refine hK17 _ ?_; clear hK17
    refine aw_seq fun K18 hK18 => ?_
    refine aw_cond true (by rfl) (rfl) (fun _ => ?_) (fun h => by cases h)
    refine aw_skip ?_
    refine hK18 _ ?_; clear hK18
    refine aw_seq fun K19 hK19 => ?_
    refine aw_block ?_
    refine aw_seq fun K20 hK20 => ?_
    refine aw_reg [2, 3, 5, 9, 10, 11] (by kernel_rfl) ?_
    simp (disch := omega) only [go_sem, seval, i64id]
    repeat refine And.intro obl ?_
    refine hK20 _ ?_; clear hK20
    refine aw_seq fun K21 hK21 => ?_
    refine aw_reg [2, 3, 5, 6, 7, 9, 10, 11, 14] (by kernel_rfl) ?_
    simp (disch := omega) only [go_sem, seval, i64id]
    repeat refine And.intro obl ?_
    refine callG_of _ (conflict_pair_beyond_ok _ a b ha hb) ?_
    simp (disch := omega) only [go_sem, seval, i64id]
    repeat refine And.intro obl ?_
    refine hK21 _ ?_; clear hK21
    refine aw_cond _ (by rfl) (rfl) (fun c5 => ?_) (fun c5 => ?_)
    · try simp only [push_cast] at c5
      refine aw_seq fun K22 hK22 => ?_
      refine aw_reg [6] (by kernel_rfl) ?_
      simp (disch := omega) only [go_sem, seval, i64id]
      repeat refine And.intro obl ?_
      refine hK22 _ ?_; clear hK22
      refine aw_ret ?_
      refine ret_tmp 4 rfl (by simp (disch := omega) only [go_sem, seval, i64id]) ?_
      exact Exp.is (by simp (disch := omega) only [go_sem, seval, i64id] <;> (rw [l0_1]; simp [btN, bt2, c5])) rfl rfl
    · try simp only [push_cast] at c5
      refine aw_skip ?_
      refine hK19 _ ?_; clear hK19
      refine aw_reg [2, 3, 5, 9, 10, 11] (by kernel_rfl) ?_
      simp (disch := omega) only [go_sem, seval, i64id]
      repeat refine And.intro obl ?_
      refine hK4 _ _ ?_ ⟨3, rfl, ?_, ?_, ?_⟩
      · exact dfl
      · exact dfl
      · rw [l0_1]; simp only [btN, bt2]; simp [c5]
      · simp (disch := omega) only [go_sem, seval, i64id] <;> first | rfl | omega | simp | simp_all
  · skip
    refine aw_seq fun K23 hK23 => ?_
    refine aw_reg [2, 3, 5, 9, 10, 11] (by kernel_rfl) ?_
    simp (disch := omega) only [go_sem, seval, i64id]
    repeat refine And.intro obl ?_
    refine hK23 _ ?_; clear hK23
    refine aw_seq fun K24 hK24 => ?_
    refine aw_cond true (by rfl) (rfl) (fun _ => ?_) (fun h => by cases h)
    refine aw_skip ?_
    refine hK24 _ ?_; clear hK24
    refine aw_seq fun K25 hK25 => ?_
    refine aw_block ?_
    refine aw_seq fun K26 hK26 => ?_
    refine aw_reg [2, 3, 5, 9, 10, 11] (by kernel_rfl) ?_
    simp (disch := omega) only [go_sem, seval, i64id]
    repeat refine And.intro obl ?_
    refine hK26 _ ?_; clear hK26
    refine aw_seq fun K27 hK27 => ?_
    refine aw_reg [2, 3, 5, 6, 7, 9, 10, 11, 14] (by kernel_rfl) ?_
    simp (disch := omega) only [go_sem, seval, i64id]
    repeat refine And.intro obl ?_
    refine callG_of _ (conflict_pair_overlaps_ok _ a b ha hb) ?_
    simp (disch := omega) only [go_sem, seval, i64id]
    repeat refine And.intro obl ?_
    refine hK27 _ ?_; clear hK27
    refine aw_cond _ (by rfl) (rfl) (fun c7 => ?_) (fun c7 => ?_)
    · try simp only [push_cast] at c7
      refine aw_seq fun K28 hK28 => ?_
      refine aw_reg [6] (by kernel_rfl) ?_
      simp (disch := omega) only [go_sem, seval, i64id]
      repeat refine And.intro obl ?_
      refine hK28 _ ?_; clear hK28
      refine aw_ret ?_
      refine ret_tmp 4 rfl (by simp (disch := omega) only [go_sem, seval, i64id]) ?_
      exact Exp.is (by simp (disch := omega) only [go_sem, seval, i64id] <;> (rw [l0_1]; simp [btN, bt3, c7])) rfl rfl
    · try simp only [push_cast] at c7
      refine aw_skip ?_
      refine hK25 _ ?_; clear hK25
      refine aw_reg [2, 3, 5, 9, 10, 11] (by kernel_rfl) ?_
      simp (disch := omega) only [go_sem, seval, i64id]
      repeat refine And.intro obl ?_
      refine hK4 _ _ ?_ ⟨4, rfl, ?_, ?_, ?_⟩
      · exact dfl
      · exact dfl
      · rw [l0_1]; simp only [btN, bt3]; simp [c7]
      · simp (disch := omega) only [go_sem, seval, i64id] <;> first | rfl | omega | simp | simp_all
  · skip
    refine aw_seq fun K29 hK29 => ?_
    refine aw_reg [2, 3, 5, 9, 10, 11] (by kernel_rfl) ?_
    simp (disch := omega) only [go_sem, seval, i64id]
    repeat refine And.intro obl ?_
    refine hK29 _ ?_; clear hK29
    refine aw_seq fun K30 hK30 => ?_
    refine aw_cond false (by rfl) (rfl) (fun h => by cases h) (fun _ => ?_)
    refine aw_exit ?_
    refine hK2 _ ?_; clear hK2
    refine aw_seq fun K31 hK31 => ?_
    refine aw_reg [] (by kernel_rfl) ?_
    simp (disch := omega) only [go_sem, seval, i64id]
    repeat refine And.intro obl ?_
    refine hK31 _ ?_; clear hK31
    refine aw_ret ?_
    refine ret_tmp 4 rfl (by simp (disch := omega) only [go_sem, seval, i64id]) ?_
    exact Exp.is (by simp (disch := omega) only [go_sem, seval, i64id] <;> (rw [l0_1]; rfl)) rfl rfl
theorem ref15_Between_ok (O : Env) (a b : Route) (ha : Sml a) (hb : Sml b) : PCall Try.prog O 70 [.agg (eRoute a), .agg (eRoute b)] (vi (betB a b)) := by
  refine pcall_of_aw Try.func70 rfl (by kernel_rfl) ?_
  refine aw_seq fun K0 hK0 => ?_
  refine aw_reg [0, 1] (by kernel_rfl) ?_
  simp (disch := omega) only [go_sem, seval]
  repeat refine And.intro obl ?_
  refine hK0 _ ?_; clear hK0
  refine aw_seq fun K1 hK1 => ?_
  refine aw_seq fun K2 hK2 => ?_
  refine aw_regDc [2, 3] [] mixed (by kernel_rfl) ?_
  simp (disch := omega) only [go_sem, seval]
  repeat refine And.intro obl ?_
  refine callD_to (ref15_settings_ok _ a ha) ?_ ?_
  · rfl
  simp (disch := omega) only [go_sem, seval]
  repeat refine And.intro obl ?_
  refine callD_to (ref15_settings_ok _ b hb) ?_ ?_
  · rfl
  simp (disch := omega) only [go_sem, seval]
  repeat refine And.intro obl ?_
  refine callD_to (ref15_Agree_ok _ (setL a) (setL b)) ?_ ?_
  · rfl
  simp (disch := omega) only [go_sem, seval]
  repeat refine And.intro obl ?_
  refine hK2 _ ?_; clear hK2
  refine aw_cond _ (by rfl) (rfl) (fun c0 => ?_) (fun c0 => ?_)
  · try simp only [push_cast] at c0
    refine aw_seq fun K3 hK3 => ?_
    refine aw_reg [] (by kernel_rfl) ?_
    simp (disch := omega) only [go_sem, seval]
    repeat refine And.intro obl ?_
    refine hK3 _ ?_; clear hK3
    refine aw_ret ?_
    refine ret_tmp 4 rfl (by simp (disch := omega) only [go_sem, seval]) ?_
    exact Exp.is (by simp (disch := omega) only [go_sem, seval] <;> (simp [betB, c0])) rfl rfl
  · try simp only [push_cast] at c0
    refine aw_skip ?_
    refine hK1 _ ?_; clear hK1
    refine aw_seq fun K4 hK4 => ?_
    refine aw_seq fun K5 hK5 => ?_
    refine aw_reg [2, 3] (by kernel_rfl) ?_
    simp (disch := omega) only [go_sem, seval]
    repeat refine And.intro obl ?_
    refine callG_of _ (ref15_meet_ok _ a.fSections b.fSections (by have := ha.s; omega) (by have := hb.s; omega)) ?_
    simp (disch := omega) only [go_sem, seval]
    repeat refine And.intro obl ?_
    refine hK5 _ ?_; clear hK5
    refine aw_cond _ (by rfl) (rfl) (fun c1 => ?_) (fun c1 => ?_)
    · try simp only [push_cast] at c1
      refine aw_seq fun K6 hK6 => ?_
      refine aw_reg [] (by kernel_rfl) ?_
      simp (disch := omega) only [go_sem, seval]
      repeat refine And.intro obl ?_
      refine hK6 _ ?_; clear hK6
      refine aw_ret ?_
      refine ret_tmp 4 rfl (by simp (disch := omega) only [go_sem, seval]) ?_
      exact Exp.is (by simp (disch := omega) only [go_sem, seval] <;> (simp [betB, bt1, c0, c1])) rfl rfl
    · try simp only [push_cast] at c1
      refine aw_skip ?_
      refine hK4 _ ?_; clear hK4
      refine aw_seq fun K7 hK7 => ?_
      refine aw_seq fun K8 hK8 => ?_
      refine aw_reg [2, 3] (by kernel_rfl) ?_
      simp (disch := omega) only [go_sem, seval]
      repeat refine And.intro obl ?_
      refine callG_of _ (ref15_meet_ok _ a.fOverSections b.fSections (by have := ha.v; omega) (by have := hb.s; omega)) ?_
      simp (disch := omega) only [go_sem, seval]
      repeat refine And.intro obl ?_
      refine callC_to (fun g0 => ref15_Follows_ok _ a b) ?_ ?_ ?_
      · first | exact fun _ => trivial | simp
      · rfl
      simp (disch := omega) only [go_sem, seval]
      repeat refine And.intro obl ?_
      refine callC_to (fun g1 => ref15_meet_ok _ b.fOverSections a.fSections (by have := hb.v; omega) (by have := ha.s; omega)) ?_ ?_ ?_
      · first | exact fun _ => trivial | simp
      · rfl
      simp (disch := omega) only [go_sem, seval]
      repeat refine And.intro obl ?_
      refine callC_to (fun g2 => ref15_Follows_ok _ b a) ?_ ?_ ?_
      · first | exact fun _ => trivial | simp
      · rfl
      simp (disch := omega) only [go_sem, seval]
      repeat refine And.intro obl ?_
      refine hK8 _ ?_; clear hK8
      refine aw_cond (beyB a b) (by rfl) (rfl) (fun c2 => ?_) (fun c2 => ?_)
      · try simp only [push_cast] at c2
        refine aw_seq fun K9 hK9 => ?_
        refine aw_reg [] (by kernel_rfl) ?_
        simp (disch := omega) only [go_sem, seval]
        repeat refine And.intro obl ?_
        refine hK9 _ ?_; clear hK9
        refine aw_ret ?_
        refine ret_tmp 4 rfl (by simp (disch := omega) only [go_sem, seval]) ?_
        exact Exp.is (by simp (disch := omega) only [go_sem, seval] <;> (simp [betB, bt1, bt2, c0, c1, c2])) rfl rfl
      · try simp only [push_cast] at c2
        refine aw_skip ?_
        refine hK7 _ ?_; clear hK7
        refine aw_seq fun K10 hK10 => ?_
        refine aw_seq fun K11 hK11 => ?_
        refine aw_reg [2, 3] (by kernel_rfl) ?_
        simp (disch := omega) only [go_sem, seval]
        repeat refine And.intro obl ?_
        refine callG_of _ (ref15_meet_ok _ a.fOverSections b.fOverSections (by have := ha.v; omega) (by have := hb.v; omega)) ?_
        simp (disch := omega) only [go_sem, seval]
        repeat refine And.intro obl ?_
        refine callC_to (fun g3 => ref15_Follows_ok _ a b) ?_ ?_ ?_
        · first | exact fun _ => trivial | simp
        · rfl
        simp (disch := omega) only [go_sem, seval]
        repeat refine And.intro obl ?_
        refine callC_to (fun g4 => ref15_Follows_ok _ b a) ?_ ?_ ?_
        · first | exact fun _ => trivial | simp
        · rfl
        simp (disch := omega) only [go_sem, seval]
        repeat refine And.intro obl ?_
        refine hK11 _ ?_; clear hK11
        refine aw_cond (ovlB a b) (by rfl) (rfl) (fun c3 => ?_) (fun c3 => ?_)
        · try simp only [push_cast] at c3
          refine aw_seq fun K12 hK12 => ?_
          refine aw_reg [] (by kernel_rfl) ?_
          simp (disch := omega) only [go_sem, seval]
          repeat refine And.intro obl ?_
          refine hK12 _ ?_; clear hK12
          refine aw_ret ?_
          refine ret_tmp 4 rfl (by simp (disch := omega) only [go_sem, seval]) ?_
          exact Exp.is (by simp (disch := omega) only [go_sem, seval] <;> (simp [betB, bt1, bt2, bt3, c0, c1, c2, c3])) rfl rfl
        · try simp only [push_cast] at c3
          refine aw_skip ?_
          refine hK10 _ ?_; clear hK10
          refine aw_seq fun K13 hK13 => ?_
          refine aw_reg [] (by kernel_rfl) ?_
          simp (disch := omega) only [go_sem, seval]
          repeat refine And.intro obl ?_
          refine hK13 _ ?_; clear hK13
          refine aw_ret ?_
          refine ret_tmp 4 rfl (by simp (disch := omega) only [go_sem, seval]) ?_
          exact Exp.is (by simp (disch := omega) only [go_sem, seval] <;> (simp [betB, bt1, bt2, bt3, c0, c1, c2, c3])) rfl rfl
end Go.Sg
