/- The laws of the package conflict. Printed by genw.py. -/
import Derived.Test.YtdnecnnegbjahaaC2
set_option linter.unusedVariables false
set_option linter.unusedSimpArgs false
namespace Go.Sg
open Go.Proofs
def rtA : Route := ⟨⟨#[115, 49, 45, 115, 50]⟩, 0, 1, [], [], [1], 0, 0, [], [], [2], [], [], []⟩
theorem wkA : RWkL [.v (.string { data := #[115, 49, 45, 115, 50] }), vi 0, vi 1, .v (.slice none 0 0), .v (.slice none 0 0), .sl 1 1 (fun i => [[vi 1]].getD i []), vi 0, vi 0, .v (.slice none 0 0), .v (.slice none 0 0), .sl 1 1 (fun i => [[vi 2]].getD i []), .v (.slice none 0 0), .v (.slice none 0 0), .v (.slice none 0 0)] (eRoute rtA) := (.cons (RWk.refl _) (.cons (RWk.refl _) (.cons (RWk.refl _) (.cons (RWk.nilL _) (.cons (RWk.nilL _) (.cons (RWk.litL [1] rfl rfl) (.cons (RWk.refl _) (.cons (RWk.refl _) (.cons (RWk.nilL _) (.cons (RWk.nilL _) (.cons (RWk.litL [2] rfl rfl) (.cons (RWk.nilL _) (.cons (RWk.nilL _) (.cons (RWk.nilL _) .nil))))))))))))))
theorem smA : Sml rtA := by constructor <;> decide
def rtB : Route := ⟨⟨#[115, 50, 45, 101, 110, 100]⟩, 1, -1, [], [], [2], 0, 0, [], [], [], [], [], []⟩
theorem wkB : RWkL [.v (.string { data := #[115, 50, 45, 101, 110, 100] }), vi 1, vi (-1), .v (.slice none 0 0), .v (.slice none 0 0), .sl 1 1 (fun i => [[vi 2]].getD i []), vi 0, vi 0, .v (.slice none 0 0), .v (.slice none 0 0), .v (.slice none 0 0), .v (.slice none 0 0), .v (.slice none 0 0), .v (.slice none 0 0)] (eRoute rtB) := (.cons (RWk.refl _) (.cons (RWk.refl _) (.cons (RWk.refl _) (.cons (RWk.nilL _) (.cons (RWk.nilL _) (.cons (RWk.litL [2] rfl rfl) (.cons (RWk.refl _) (.cons (RWk.refl _) (.cons (RWk.nilL _) (.cons (RWk.nilL _) (.cons (RWk.nilL _) (.cons (RWk.nilL _) (.cons (RWk.nilL _) (.cons (RWk.nilL _) .nil))))))))))))))
theorem smB : Sml rtB := by constructor <;> decide
def rtC : Route := ⟨⟨#[115, 51, 45, 101, 110, 100]⟩, 2, -1, [], [], [2], 0, 0, [], [], [], [], [], []⟩
theorem wkC : RWkL [.v (.string { data := #[115, 51, 45, 101, 110, 100] }), vi 2, vi (-1), .v (.slice none 0 0), .v (.slice none 0 0), .sl 1 1 (fun i => [[vi 2]].getD i []), vi 0, vi 0, .v (.slice none 0 0), .v (.slice none 0 0), .v (.slice none 0 0), .v (.slice none 0 0), .v (.slice none 0 0), .v (.slice none 0 0)] (eRoute rtC) := (.cons (RWk.refl _) (.cons (RWk.refl _) (.cons (RWk.refl _) (.cons (RWk.nilL _) (.cons (RWk.nilL _) (.cons (RWk.litL [2] rfl rfl) (.cons (RWk.refl _) (.cons (RWk.refl _) (.cons (RWk.nilL _) (.cons (RWk.nilL _) (.cons (RWk.nilL _) (.cons (RWk.nilL _) (.cons (RWk.nilL _) (.cons (RWk.nilL _) .nil))))))))))))))
theorem smC : Sml rtC := by constructor <;> decide
theorem metD (a b : List Int) : metB a b = decide (0 < (chosenS a b true).length) := (met_eq a b).symm
theorem matAB : matB [rtA, rtB] = [[2, 0], [0, 2]] := by simp only [matB, List.map_cons, List.map_nil, betB, bt1, bt2, bt3, beyB, ovlB, metD]; decide
theorem betAC : betB rtA rtC = 3 := by simp only [betB, bt1, bt2, bt3, beyB, ovlB, metD]; decide

theorem alM (O : Env) : PCall Try.prog O 39 [encRt [rtA, rtB]] (encL 1 eLI [[2, 0], [0, 2]]) := by
  have := conflict_Matrix_ok O [rtA, rtB] (by decide) (by intro r hr; simp at hr; rcases hr with rfl | rfl; exact smA; exact smB)
  rwa [matAB] at this
theorem alB (O : Env) : PCall Try.prog O 37 [.agg (eRoute rtA), .agg (eRoute rtC)] (vi 3) := by
  have := conflict_Between_ok O rtA rtC smA smC
  rwa [betAC] at this
abbrev alp : List Setting := [⟨3, 1⟩, ⟨5, 2⟩]
abbrev alq : List Setting := [⟨5, 2⟩, ⟨7, 1⟩]
theorem alG1 (O : Env) : PCall Try.prog O 33 [encS alp, encS alq] (vb true) := by
  have := conflict_Agree_ok O alp alq
  rwa [show agrB alp alq = true by decide] at this
theorem alG2 (O : Env) : PCall Try.prog O 33 [encS alp, encS [⟨3, 2⟩]] (vb false) := by
  have := conflict_Agree_ok O alp [⟨3, 2⟩]
  rwa [show agrB alp [⟨3, 2⟩] = false by decide] at this
theorem alF (O : Env) : PCall Try.prog O 35 [.agg (eRoute rtA), .agg (eRoute rtB)] (vb true) := by
  have := conflict_Follows_ok O rtA rtB
  rwa [show folB rtA rtB = true by decide] at this

set_option maxHeartbeats 1000000 in
theorem law15_alive_ok (O : Env)  : PCall Try.prog O 32 [] (vb true) := by
  -- signalling/signallinglaw15.alive
  refine pcall_of_aw Try.func32 rfl (by kernel_rfl) ?_
  refine aw_seq fun K0 hK0 => ?_
  refine aw_reg [] (by kernel_rfl) ?_   -- r0.0
  simp (disch := omega) only [go_sem, ↓reduceIte, Nat.reduceEqDiff, Nat.reduceLT, Nat.reduceLeDiff, Nat.reduceAdd, Nat.reduceSub, Nat.reduceMul, reduceCtorEq, Int.reduceToNat, Int.reduceNeg]
  repeat refine And.intro (by first | omega | assumption | (simp only [List.length_append, List.length_cons, List.length_nil]; omega) | (intros; first | omega | assumption | (simp_all; done) | grind)) ?_   -- r0.0
  refine hK0 _ ?_; clear hK0
  refine aw_seq fun K1 hK1 => ?_
  refine aw_reg [] (by kernel_rfl) ?_   -- r1.1
  simp (disch := omega) only [go_sem, ↓reduceIte, Nat.reduceEqDiff, Nat.reduceLT, Nat.reduceLeDiff, Nat.reduceAdd, Nat.reduceSub, Nat.reduceMul, reduceCtorEq, Int.reduceToNat, Int.reduceNeg]
  repeat refine And.intro (by first | omega | assumption | (simp only [List.length_append, List.length_cons, List.length_nil]; omega) | (intros; first | omega | assumption | (simp_all; done) | grind)) ?_   -- r1.1
  refine hK1 _ ?_; clear hK1
  refine aw_seq fun K2 hK2 => ?_
  refine aw_toBx 1 rfl rfl wkA ?_   -- r2.2
  refine aw_reg [1] (by kernel_rfl) ?_   -- r2.2
  simp (disch := omega) only [go_sem, ↓reduceIte, Nat.reduceEqDiff, Nat.reduceLT, Nat.reduceLeDiff, Nat.reduceAdd, Nat.reduceSub, Nat.reduceMul, reduceCtorEq, Int.reduceToNat, Int.reduceNeg]
  repeat refine And.intro (by first | omega | assumption | (simp only [List.length_append, List.length_cons, List.length_nil]; omega) | (intros; first | omega | assumption | (simp_all; done) | grind)) ?_   -- r2.2
  refine hK2 _ ?_; clear hK2
  refine aw_seq fun K3 hK3 => ?_
  refine aw_toBx 2 rfl rfl wkB ?_   -- r3.3
  refine aw_reg [1, 2] (by kernel_rfl) ?_   -- r3.3
  simp (disch := omega) only [go_sem, ↓reduceIte, Nat.reduceEqDiff, Nat.reduceLT, Nat.reduceLeDiff, Nat.reduceAdd, Nat.reduceSub, Nat.reduceMul, reduceCtorEq, Int.reduceToNat, Int.reduceNeg]
  repeat refine And.intro (by first | omega | assumption | (simp only [List.length_append, List.length_cons, List.length_nil]; omega) | (intros; first | omega | assumption | (simp_all; done) | grind)) ?_   -- r3.3
  refine hK3 _ ?_; clear hK3
  refine aw_seq fun K4 hK4 => ?_
  refine aw_toBx 3 rfl rfl wkC ?_   -- r4.4
  refine aw_reg [1, 2, 3] (by kernel_rfl) ?_   -- r4.4
  simp (disch := omega) only [go_sem, ↓reduceIte, Nat.reduceEqDiff, Nat.reduceLT, Nat.reduceLeDiff, Nat.reduceAdd, Nat.reduceSub, Nat.reduceMul, reduceCtorEq, Int.reduceToNat, Int.reduceNeg]
  repeat refine And.intro (by first | omega | assumption | (simp only [List.length_append, List.length_cons, List.length_nil]; omega) | (intros; first | omega | assumption | (simp_all; done) | grind)) ?_   -- r4.4
  refine callG_of _ (pcall_args [encRt [rtA, rtB]] (.cons (RWk.litL [rtA, rtB] rfl rfl) .nil) (alM _)) ?_   -- r4.4#0
  simp (disch := omega) only [go_sem, ↓reduceIte, Nat.reduceEqDiff, Nat.reduceLT, Nat.reduceLeDiff, Nat.reduceAdd, Nat.reduceSub, Nat.reduceMul, reduceCtorEq, Int.reduceToNat, Int.reduceNeg]
  repeat refine And.intro (by first | omega | assumption | (simp only [List.length_append, List.length_cons, List.length_nil]; omega) | (intros; first | omega | assumption | (simp_all; done) | grind)) ?_   -- r4.4
  refine hK4 _ ?_; clear hK4
  refine aw_seq fun K5 hK5 => ?_
  refine aw_seq fun K6 hK6 => ?_
  refine aw_reg [1, 2, 3, 4] (by kernel_rfl) ?_   -- r5.5
  simp (disch := omega) only [go_sem, ↓reduceIte, Nat.reduceEqDiff, Nat.reduceLT, Nat.reduceLeDiff, Nat.reduceAdd, Nat.reduceSub, Nat.reduceMul, reduceCtorEq, Int.reduceToNat, Int.reduceNeg]
  repeat refine And.intro (by first | omega | assumption | (simp only [List.length_append, List.length_cons, List.length_nil]; omega) | (intros; first | omega | assumption | (simp_all; done) | grind)) ?_   -- r5.5
  refine hK6 _ ?_; clear hK6
  refine aw_cond false (by rfl) (rfl) (fun h => by cases h) (fun _ => ?_)   -- c0
  refine aw_skip ?_
  refine hK5 _ ?_; clear hK5
  refine aw_seq fun K7 hK7 => ?_
  refine aw_reg [1, 2, 3, 4] (by kernel_rfl) ?_   -- r7.6
  simp (disch := omega) only [go_sem, ↓reduceIte, Nat.reduceEqDiff, Nat.reduceLT, Nat.reduceLeDiff, Nat.reduceAdd, Nat.reduceSub, Nat.reduceMul, reduceCtorEq, Int.reduceToNat, Int.reduceNeg]
  repeat refine And.intro (by first | omega | assumption | (simp only [List.length_append, List.length_cons, List.length_nil]; omega) | (intros; first | omega | assumption | (simp_all; done) | grind)) ?_   -- r7.6
  refine hK7 _ ?_; clear hK7
  refine aw_seq fun K8 hK8 => ?_
  refine aw_to 5 (encS alp) rfl rfl (RWk.litL alp rfl rfl) rfl rfl ?_   -- r8.7
  refine aw_reg [1, 2, 3, 4, 5] (by kernel_rfl) ?_   -- r8.7
  simp (disch := omega) only [go_sem, ↓reduceIte, Nat.reduceEqDiff, Nat.reduceLT, Nat.reduceLeDiff, Nat.reduceAdd, Nat.reduceSub, Nat.reduceMul, reduceCtorEq, Int.reduceToNat, Int.reduceNeg]
  repeat refine And.intro (by first | omega | assumption | (simp only [List.length_append, List.length_cons, List.length_nil]; omega) | (intros; first | omega | assumption | (simp_all; done) | grind)) ?_   -- r8.7
  refine hK8 _ ?_; clear hK8
  refine aw_seq fun K9 hK9 => ?_
  refine aw_to 6 (encS alq) rfl rfl (RWk.litL alq rfl rfl) rfl rfl ?_   -- r9.8
  refine aw_reg [1, 2, 3, 4, 5, 6] (by kernel_rfl) ?_   -- r9.8
  simp (disch := omega) only [go_sem, ↓reduceIte, Nat.reduceEqDiff, Nat.reduceLT, Nat.reduceLeDiff, Nat.reduceAdd, Nat.reduceSub, Nat.reduceMul, reduceCtorEq, Int.reduceToNat, Int.reduceNeg]
  repeat refine And.intro (by first | omega | assumption | (simp only [List.length_append, List.length_cons, List.length_nil]; omega) | (intros; first | omega | assumption | (simp_all; done) | grind)) ?_   -- r9.8
  refine callG_of _ (alG1 _) ?_   -- r9.8#0
  simp (disch := omega) only [go_sem, ↓reduceIte, Nat.reduceEqDiff, Nat.reduceLT, Nat.reduceLeDiff, Nat.reduceAdd, Nat.reduceSub, Nat.reduceMul, reduceCtorEq, Int.reduceToNat, Int.reduceNeg]
  repeat refine And.intro (by first | omega | assumption | (simp only [List.length_append, List.length_cons, List.length_nil]; omega) | (intros; first | omega | assumption | (simp_all; done) | grind)) ?_   -- r9.8
  refine callC_to (fun g0 => pcall_args [encS alp, encS [⟨3, 2⟩]] (.cons (RWk.refl _) (.cons (RWk.litL _ rfl rfl) .nil)) (alG2 _)) ?_ ?_ ?_   -- r9.8#1
  · first | exact fun _ => trivial | simp
  · rfl
  simp (disch := omega) only [go_sem, ↓reduceIte, Nat.reduceEqDiff, Nat.reduceLT, Nat.reduceLeDiff, Nat.reduceAdd, Nat.reduceSub, Nat.reduceMul, reduceCtorEq, Int.reduceToNat, Int.reduceNeg]
  repeat refine And.intro (by first | omega | assumption | (simp only [List.length_append, List.length_cons, List.length_nil]; omega) | (intros; first | omega | assumption | (simp_all; done) | grind)) ?_   -- r9.8
  refine callC_to (fun g1 => alF _) ?_ ?_ ?_   -- r9.8#2
  · first | exact fun _ => trivial | simp
  · rfl
  simp (disch := omega) only [go_sem, ↓reduceIte, Nat.reduceEqDiff, Nat.reduceLT, Nat.reduceLeDiff, Nat.reduceAdd, Nat.reduceSub, Nat.reduceMul, reduceCtorEq, Int.reduceToNat, Int.reduceNeg]
  repeat refine And.intro (by first | omega | assumption | (simp only [List.length_append, List.length_cons, List.length_nil]; omega) | (intros; first | omega | assumption | (simp_all; done) | grind)) ?_   -- r9.8
  refine callC_to (fun g2 => alB _) ?_ ?_ ?_   -- r9.8#3
  · first | exact fun _ => trivial | simp
  · rfl
  simp (disch := omega) only [go_sem, ↓reduceIte, Nat.reduceEqDiff, Nat.reduceLT, Nat.reduceLeDiff, Nat.reduceAdd, Nat.reduceSub, Nat.reduceMul, reduceCtorEq, Int.reduceToNat, Int.reduceNeg]
  repeat refine And.intro (by first | omega | assumption | (simp only [List.length_append, List.length_cons, List.length_nil]; omega) | (intros; first | omega | assumption | (simp_all; done) | grind)) ?_   -- r9.8
  refine hK9 _ ?_; clear hK9
  refine aw_ret ?_
  refine ret_tmp 0 rfl (by simp (disch := omega) only [go_sem, ↓reduceIte, Nat.reduceEqDiff, Nat.reduceLT, Nat.reduceLeDiff, Nat.reduceAdd, Nat.reduceSub, Nat.reduceMul, reduceCtorEq, Int.reduceToNat, Int.reduceNeg]) ?_   -- ret0
  exact Exp.is (by simp (disch := omega) only [go_sem, ↓reduceIte, Nat.reduceEqDiff, Nat.reduceLT, Nat.reduceLeDiff, Nat.reduceAdd, Nat.reduceSub, Nat.reduceMul, reduceCtorEq, Int.reduceToNat, Int.reduceNeg] <;> refine congrArg vb ?_ <;> (first | assumption | omega | (simp only [List.length_append, List.length_cons, List.length_nil] at *; omega) | (simp_all; done))) rfl rfl

end Go.Sg
