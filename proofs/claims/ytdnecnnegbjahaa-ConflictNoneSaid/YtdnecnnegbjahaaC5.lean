/- The law that routes without a conflict agree and share nothing. Printed by genw.py. -/
import Derived.Test.YtdnecnnegbjahaaC4
set_option linter.unusedVariables false
set_option linter.unusedSimpArgs false
namespace Go.Sg
open Go.Proofs

set_option maxRecDepth 20000 in
set_option maxHeartbeats 4000000 in
theorem law15_settings_r (O : Env) (r : Route) (hs : Sml r) : PCall Try.prog O 40 [.agg (eRoute r)] (rowS (setL r)) := by
  -- signalling/signallinglaw15.settings
  obtain ⟨h1, h2, h3, h4, h5⟩ := hs
  refine pcall_of_aw Try.func40 rfl (by kernel_rfl) ?_
  refine aw_seq fun K0 hK0 => ?_
  refine aw_reg [0] (by kernel_rfl) ?_   -- r0.0
  simp (disch := omega) only [go_sem, ↓reduceIte, Nat.reduceEqDiff, Nat.reduceLT, Nat.reduceLeDiff, Nat.reduceAdd, Nat.reduceSub, Nat.reduceMul, reduceCtorEq, Int.reduceToNat, Int.reduceNeg, List.take_length, ← List.map_append]
  repeat refine And.intro (by first | omega | assumption | (simp only [List.length_append, List.length_cons, List.length_nil]; omega) | (intros; first | omega | assumption | (simp_all; done) | grind)) ?_   -- r0.0
  refine hK0 _ ?_; clear hK0
  refine aw_seq fun K1 hK1 => ?_
  refine aw_drawX [1] [] [(2, 12)] mixed (by kernel_rfl) (fun Y hY hY0 => ?_)   -- r1.1
  have s_11111111111 : ∀ ρ, keepC [1, 4, 5, 7, 8, 10, 11, 12, 2] ρ = mkE O [(1, .bx (eRoute r)), (4, .bp 1 4), (5, encS r.fPoints), (7, .bp 1 9), (8, encS r.fOverPoints), (10, .bp 1 11), (11, encS r.fFlank), (12, .row 62 2 ((r.fPoints ++ r.fOverPoints ++ r.fFlank).map eSetting)), (2, .own 12 (r.fPoints ++ r.fOverPoints ++ r.fFlank).length)] → Y 0 #[true, true, true, true, true, true, true, true, true, true, true] ρ := by
    intro ρ hρ
    refine hY0 _ [1, 4, 5, 7, 8, 10, 11, 12, 2] _ (by kernel_rfl) ?_
    rw [hρ]
    clear hY hY0 hρ
    simp (disch := omega) only [go_sem, ↓reduceIte, Nat.reduceEqDiff, Nat.reduceLT, Nat.reduceLeDiff, Nat.reduceAdd, Nat.reduceSub, Nat.reduceMul, reduceCtorEq, Int.reduceToNat, Int.reduceNeg, List.take_length, ← List.map_append]
    repeat refine And.intro (by first | omega | assumption | (simp only [List.length_append, List.length_cons, List.length_nil]; omega) | (intros; first | omega | assumption | (simp_all; done) | grind)) ?_   -- r1.1
    refine hK1 _ ?_; clear hK1
    refine aw_ret ?_
    refine ret_tmp 2 rfl (by simp (disch := omega) only [go_sem, ↓reduceIte, Nat.reduceEqDiff, Nat.reduceLT, Nat.reduceLeDiff, Nat.reduceAdd, Nat.reduceSub, Nat.reduceMul, reduceCtorEq, Int.reduceToNat, Int.reduceNeg, List.take_length, ← List.map_append]) ?_   -- ret0
    exact Exp.rowL rfl (by rw [setL_eq])
  have s_11111111110 : ∀ ρ, keepC [1, 4, 5, 7, 8, 10, 11, 12] ρ = mkE O [(1, .bx (eRoute r)), (4, .bp 1 4), (5, encS r.fPoints), (7, .bp 1 9), (8, encS r.fOverPoints), (10, .bp 1 11), (11, encS r.fFlank), (12, .row 62 2 ((r.fPoints ++ r.fOverPoints ++ r.fFlank).map eSetting))] → Y 1 #[true, true, true, true, true, true, true, true, true, true, false] ρ := by
    intro ρ hρ
    refine hY 0 _ [1, 4, 5, 7, 8, 10, 11, 12] [10] _ (by kernel_rfl) rfl ⟨?_, trivial⟩
    · show opX _ _ _ _ _ _
      rw [hρ]
      refine opX_of (f := false) rfl (by decide) ?_
      simp (disch := omega) only [go_sem, ↓reduceIte, Nat.reduceEqDiff, Nat.reduceLT, Nat.reduceLeDiff, Nat.reduceAdd, Nat.reduceSub, Nat.reduceMul, reduceCtorEq, Int.reduceToNat, Int.reduceNeg, List.take_length, ← List.map_append]
      repeat refine And.intro (by first | omega | assumption | (simp only [List.length_append, List.length_cons, List.length_nil]; omega) | (intros; first | omega | assumption | (simp_all; done) | grind)) ?_   -- r1.1
      refine s_11111111111 _ ?_
      simp (disch := omega) only [go_sem, ↓reduceIte, Nat.reduceEqDiff, Nat.reduceLT, Nat.reduceLeDiff, Nat.reduceAdd, Nat.reduceSub, Nat.reduceMul, reduceCtorEq, Int.reduceToNat, Int.reduceNeg, List.take_length, ← List.map_append] <;> first | rfl | omega | simp | simp_all
  have s_11111111100 : ∀ ρ, keepC [1, 4, 5, 7, 8, 9, 10, 11] ρ = mkE O [(1, .bx (eRoute r)), (4, .bp 1 4), (5, encS r.fPoints), (7, .bp 1 9), (8, encS r.fOverPoints), (9, .row 62 2 ((r.fPoints ++ r.fOverPoints).map eSetting)), (10, .bp 1 11), (11, encS r.fFlank)] → Y 2 #[true, true, true, true, true, true, true, true, true, false, false] ρ := by
    intro ρ hρ
    clear s_11111111111
    refine hY 1 _ [1, 4, 5, 7, 8, 9, 10, 11] [9] _ (by kernel_rfl) rfl ⟨?_, trivial⟩
    · show opX _ _ _ _ _ _
      rw [hρ]
      refine opX_of (f := false) rfl (by decide) ?_
      simp (disch := omega) only [go_sem, ↓reduceIte, Nat.reduceEqDiff, Nat.reduceLT, Nat.reduceLeDiff, Nat.reduceAdd, Nat.reduceSub, Nat.reduceMul, reduceCtorEq, Int.reduceToNat, Int.reduceNeg, List.take_length, ← List.map_append]
      repeat refine And.intro (by first | omega | assumption | (simp only [List.length_append, List.length_cons, List.length_nil]; omega) | (intros; first | omega | assumption | (simp_all; done) | grind)) ?_   -- r1.1
      refine s_11111111110 _ ?_
      simp (disch := omega) only [go_sem, ↓reduceIte, Nat.reduceEqDiff, Nat.reduceLT, Nat.reduceLeDiff, Nat.reduceAdd, Nat.reduceSub, Nat.reduceMul, reduceCtorEq, Int.reduceToNat, Int.reduceNeg, List.take_length, ← List.map_append] <;> first | rfl | omega | simp | simp_all
  have s_11111111000 : ∀ ρ, keepC [1, 4, 5, 7, 8, 9, 10] ρ = mkE O [(1, .bx (eRoute r)), (4, .bp 1 4), (5, encS r.fPoints), (7, .bp 1 9), (8, encS r.fOverPoints), (9, .row 62 2 ((r.fPoints ++ r.fOverPoints).map eSetting)), (10, .bp 1 11)] → Y 3 #[true, true, true, true, true, true, true, true, false, false, false] ρ := by
    intro ρ hρ
    clear s_11111111111 s_11111111110
    refine hY 2 _ [1, 4, 5, 7, 8, 9, 10] [8] _ (by kernel_rfl) rfl ⟨?_, trivial⟩
    · show opX _ _ _ _ _ _
      rw [hρ]
      refine opX_of (f := false) rfl (by decide) ?_
      simp (disch := omega) only [go_sem, ↓reduceIte, Nat.reduceEqDiff, Nat.reduceLT, Nat.reduceLeDiff, Nat.reduceAdd, Nat.reduceSub, Nat.reduceMul, reduceCtorEq, Int.reduceToNat, Int.reduceNeg, List.take_length, ← List.map_append]
      repeat refine And.intro (by first | omega | assumption | (simp only [List.length_append, List.length_cons, List.length_nil]; omega) | (intros; first | omega | assumption | (simp_all; done) | grind)) ?_   -- r1.1
      refine s_11111111100 _ ?_
      simp (disch := omega) only [go_sem, ↓reduceIte, Nat.reduceEqDiff, Nat.reduceLT, Nat.reduceLeDiff, Nat.reduceAdd, Nat.reduceSub, Nat.reduceMul, reduceCtorEq, Int.reduceToNat, Int.reduceNeg, List.take_length, ← List.map_append] <;> first | rfl | omega | simp | simp_all
  have s_11111101100 : ∀ ρ, keepC [1, 4, 5, 6, 7, 8, 10, 11] ρ = mkE O [(1, .bx (eRoute r)), (4, .bp 1 4), (5, encS r.fPoints), (6, .row 62 2 (r.fPoints.map eSetting)), (7, .bp 1 9), (8, encS r.fOverPoints), (10, .bp 1 11), (11, encS r.fFlank)] → Y 3 #[true, true, true, true, true, true, false, true, true, false, false] ρ := by
    intro ρ hρ
    clear s_11111111111 s_11111111110
    refine hY 2 _ [1, 4, 5, 6, 7, 8, 10, 11] [6] _ (by kernel_rfl) rfl ⟨?_, trivial⟩
    · show opX _ _ _ _ _ _
      rw [hρ]
      refine opX_of (f := false) rfl (by decide) ?_
      simp (disch := omega) only [go_sem, ↓reduceIte, Nat.reduceEqDiff, Nat.reduceLT, Nat.reduceLeDiff, Nat.reduceAdd, Nat.reduceSub, Nat.reduceMul, reduceCtorEq, Int.reduceToNat, Int.reduceNeg, List.take_length, ← List.map_append]
      repeat refine And.intro (by first | omega | assumption | (simp only [List.length_append, List.length_cons, List.length_nil]; omega) | (intros; first | omega | assumption | (simp_all; done) | grind)) ?_   -- r1.1
      refine s_11111111100 _ ?_
      simp (disch := omega) only [go_sem, ↓reduceIte, Nat.reduceEqDiff, Nat.reduceLT, Nat.reduceLeDiff, Nat.reduceAdd, Nat.reduceSub, Nat.reduceMul, reduceCtorEq, Int.reduceToNat, Int.reduceNeg, List.take_length, ← List.map_append] <;> first | rfl | omega | simp | simp_all
  have s_11111110000 : ∀ ρ, keepC [1, 4, 5, 7, 8, 9] ρ = mkE O [(1, .bx (eRoute r)), (4, .bp 1 4), (5, encS r.fPoints), (7, .bp 1 9), (8, encS r.fOverPoints), (9, .row 62 2 ((r.fPoints ++ r.fOverPoints).map eSetting))] → Y 4 #[true, true, true, true, true, true, true, false, false, false, false] ρ := by
    intro ρ hρ
    clear s_11111111111 s_11111111110 s_11111111100 s_11111101100
    refine hY 3 _ [1, 4, 5, 7, 8, 9] [7] _ (by kernel_rfl) rfl ⟨?_, trivial⟩
    · show opX _ _ _ _ _ _
      rw [hρ]
      refine opX_of (f := false) rfl (by decide) ?_
      simp (disch := omega) only [go_sem, ↓reduceIte, Nat.reduceEqDiff, Nat.reduceLT, Nat.reduceLeDiff, Nat.reduceAdd, Nat.reduceSub, Nat.reduceMul, reduceCtorEq, Int.reduceToNat, Int.reduceNeg, List.take_length, ← List.map_append]
      repeat refine And.intro (by first | omega | assumption | (simp only [List.length_append, List.length_cons, List.length_nil]; omega) | (intros; first | omega | assumption | (simp_all; done) | grind)) ?_   -- r1.1
      refine s_11111111000 _ ?_
      simp (disch := omega) only [go_sem, ↓reduceIte, Nat.reduceEqDiff, Nat.reduceLT, Nat.reduceLeDiff, Nat.reduceAdd, Nat.reduceSub, Nat.reduceMul, reduceCtorEq, Int.reduceToNat, Int.reduceNeg, List.take_length, ← List.map_append] <;> first | rfl | omega | simp | simp_all
  have s_11111101000 : ∀ ρ, keepC [1, 4, 5, 6, 7, 8, 10] ρ = mkE O [(1, .bx (eRoute r)), (4, .bp 1 4), (5, encS r.fPoints), (6, .row 62 2 (r.fPoints.map eSetting)), (7, .bp 1 9), (8, encS r.fOverPoints), (10, .bp 1 11)] → Y 4 #[true, true, true, true, true, true, false, true, false, false, false] ρ := by
    intro ρ hρ
    clear s_11111111111 s_11111111110 s_11111111100
    refine hY 3 _ [1, 4, 5, 6, 7, 8, 10] [6, 8] _ (by kernel_rfl) rfl ⟨?_, ?_, trivial⟩
    · show opX _ _ _ _ _ _
      rw [hρ]
      refine opX_of (f := false) rfl (by decide) ?_
      simp (disch := omega) only [go_sem, ↓reduceIte, Nat.reduceEqDiff, Nat.reduceLT, Nat.reduceLeDiff, Nat.reduceAdd, Nat.reduceSub, Nat.reduceMul, reduceCtorEq, Int.reduceToNat, Int.reduceNeg, List.take_length, ← List.map_append]
      repeat refine And.intro (by first | omega | assumption | (simp only [List.length_append, List.length_cons, List.length_nil]; omega) | (intros; first | omega | assumption | (simp_all; done) | grind)) ?_   -- r1.1
      refine s_11111111000 _ ?_
      simp (disch := omega) only [go_sem, ↓reduceIte, Nat.reduceEqDiff, Nat.reduceLT, Nat.reduceLeDiff, Nat.reduceAdd, Nat.reduceSub, Nat.reduceMul, reduceCtorEq, Int.reduceToNat, Int.reduceNeg, List.take_length, ← List.map_append] <;> first | rfl | omega | simp | simp_all
    · show opX _ _ _ _ _ _
      rw [hρ]
      refine opX_of (f := false) rfl (by decide) ?_
      simp (disch := omega) only [go_sem, ↓reduceIte, Nat.reduceEqDiff, Nat.reduceLT, Nat.reduceLeDiff, Nat.reduceAdd, Nat.reduceSub, Nat.reduceMul, reduceCtorEq, Int.reduceToNat, Int.reduceNeg, List.take_length, ← List.map_append]
      repeat refine And.intro (by first | omega | assumption | (simp only [List.length_append, List.length_cons, List.length_nil]; omega) | (intros; first | omega | assumption | (simp_all; done) | grind)) ?_   -- r1.1
      refine s_11111101100 _ ?_
      simp (disch := omega) only [go_sem, ↓reduceIte, Nat.reduceEqDiff, Nat.reduceLT, Nat.reduceLeDiff, Nat.reduceAdd, Nat.reduceSub, Nat.reduceMul, reduceCtorEq, Int.reduceToNat, Int.reduceNeg, List.take_length, ← List.map_append] <;> first | rfl | omega | simp | simp_all
  have s_11111001100 : ∀ ρ, keepC [1, 4, 5, 6, 7, 10, 11] ρ = mkE O [(1, .bx (eRoute r)), (4, .bp 1 4), (5, encS r.fPoints), (6, .row 62 2 (r.fPoints.map eSetting)), (7, .bp 1 9), (10, .bp 1 11), (11, encS r.fFlank)] → Y 4 #[true, true, true, true, true, false, false, true, true, false, false] ρ := by
    intro ρ hρ
    clear s_11111111111 s_11111111110 s_11111111100 s_11111111000
    refine hY 3 _ [1, 4, 5, 6, 7, 10, 11] [5] _ (by kernel_rfl) rfl ⟨?_, trivial⟩
    · show opX _ _ _ _ _ _
      rw [hρ]
      refine opX_of (f := false) rfl (by decide) ?_
      simp (disch := omega) only [go_sem, ↓reduceIte, Nat.reduceEqDiff, Nat.reduceLT, Nat.reduceLeDiff, Nat.reduceAdd, Nat.reduceSub, Nat.reduceMul, reduceCtorEq, Int.reduceToNat, Int.reduceNeg, List.take_length, ← List.map_append]
      repeat refine And.intro (by first | omega | assumption | (simp only [List.length_append, List.length_cons, List.length_nil]; omega) | (intros; first | omega | assumption | (simp_all; done) | grind)) ?_   -- r1.1
      refine s_11111101100 _ ?_
      simp (disch := omega) only [go_sem, ↓reduceIte, Nat.reduceEqDiff, Nat.reduceLT, Nat.reduceLeDiff, Nat.reduceAdd, Nat.reduceSub, Nat.reduceMul, reduceCtorEq, Int.reduceToNat, Int.reduceNeg, List.take_length, ← List.map_append] <;> first | rfl | omega | simp | simp_all
  have s_11101101100 : ∀ ρ, keepC [1, 3, 4, 5, 7, 8, 10, 11] ρ = mkE O [(1, .bx (eRoute r)), (3, .row 62 2 []), (4, .bp 1 4), (5, encS r.fPoints), (7, .bp 1 9), (8, encS r.fOverPoints), (10, .bp 1 11), (11, encS r.fFlank)] → Y 4 #[true, true, true, false, true, true, false, true, true, false, false] ρ := by
    intro ρ hρ
    clear s_11111111111 s_11111111110 s_11111111100 s_11111111000
    refine hY 3 _ [1, 3, 4, 5, 7, 8, 10, 11] [3] _ (by kernel_rfl) rfl ⟨?_, trivial⟩
    · show opX _ _ _ _ _ _
      rw [hρ]
      refine opX_of (f := false) rfl (by decide) ?_
      simp (disch := omega) only [go_sem, ↓reduceIte, Nat.reduceEqDiff, Nat.reduceLT, Nat.reduceLeDiff, Nat.reduceAdd, Nat.reduceSub, Nat.reduceMul, reduceCtorEq, Int.reduceToNat, Int.reduceNeg, List.take_length, ← List.map_append]
      repeat refine And.intro (by first | omega | assumption | (simp only [List.length_append, List.length_cons, List.length_nil]; omega) | (intros; first | omega | assumption | (simp_all; done) | grind)) ?_   -- r1.1
      refine s_11111101100 _ ?_
      simp (disch := omega) only [go_sem, ↓reduceIte, Nat.reduceEqDiff, Nat.reduceLT, Nat.reduceLeDiff, Nat.reduceAdd, Nat.reduceSub, Nat.reduceMul, reduceCtorEq, Int.reduceToNat, Int.reduceNeg, List.take_length, ← List.map_append] <;> first | rfl | omega | simp | simp_all
  have s_11111100000 : ∀ ρ, keepC [1, 4, 5, 6, 7, 8] ρ = mkE O [(1, .bx (eRoute r)), (4, .bp 1 4), (5, encS r.fPoints), (6, .row 62 2 (r.fPoints.map eSetting)), (7, .bp 1 9), (8, encS r.fOverPoints)] → Y 5 #[true, true, true, true, true, true, false, false, false, false, false] ρ := by
    intro ρ hρ
    clear s_11111111111 s_11111111110 s_11111111100 s_11111111000 s_11111101100 s_11111001100 s_11101101100
    refine hY 4 _ [1, 4, 5, 6, 7, 8] [6, 7] _ (by kernel_rfl) rfl ⟨?_, ?_, trivial⟩
    · show opX _ _ _ _ _ _
      rw [hρ]
      refine opX_of (f := false) rfl (by decide) ?_
      simp (disch := omega) only [go_sem, ↓reduceIte, Nat.reduceEqDiff, Nat.reduceLT, Nat.reduceLeDiff, Nat.reduceAdd, Nat.reduceSub, Nat.reduceMul, reduceCtorEq, Int.reduceToNat, Int.reduceNeg, List.take_length, ← List.map_append]
      repeat refine And.intro (by first | omega | assumption | (simp only [List.length_append, List.length_cons, List.length_nil]; omega) | (intros; first | omega | assumption | (simp_all; done) | grind)) ?_   -- r1.1
      refine s_11111110000 _ ?_
      simp (disch := omega) only [go_sem, ↓reduceIte, Nat.reduceEqDiff, Nat.reduceLT, Nat.reduceLeDiff, Nat.reduceAdd, Nat.reduceSub, Nat.reduceMul, reduceCtorEq, Int.reduceToNat, Int.reduceNeg, List.take_length, ← List.map_append] <;> first | rfl | omega | simp | simp_all
    · show opX _ _ _ _ _ _
      rw [hρ]
      refine opX_of (f := false) rfl (by decide) ?_
      simp (disch := omega) only [go_sem, ↓reduceIte, Nat.reduceEqDiff, Nat.reduceLT, Nat.reduceLeDiff, Nat.reduceAdd, Nat.reduceSub, Nat.reduceMul, reduceCtorEq, Int.reduceToNat, Int.reduceNeg, List.take_length, ← List.map_append]
      repeat refine And.intro (by first | omega | assumption | (simp only [List.length_append, List.length_cons, List.length_nil]; omega) | (intros; first | omega | assumption | (simp_all; done) | grind)) ?_   -- r1.1
      refine s_11111101000 _ ?_
      simp (disch := omega) only [go_sem, ↓reduceIte, Nat.reduceEqDiff, Nat.reduceLT, Nat.reduceLeDiff, Nat.reduceAdd, Nat.reduceSub, Nat.reduceMul, reduceCtorEq, Int.reduceToNat, Int.reduceNeg, List.take_length, ← List.map_append] <;> first | rfl | omega | simp | simp_all
  have s_11111001000 : ∀ ρ, keepC [1, 4, 5, 6, 7, 10] ρ = mkE O [(1, .bx (eRoute r)), (4, .bp 1 4), (5, encS r.fPoints), (6, .row 62 2 (r.fPoints.map eSetting)), (7, .bp 1 9), (10, .bp 1 11)] → Y 5 #[true, true, true, true, true, false, false, true, false, false, false] ρ := by
    intro ρ hρ
    clear s_11111111111 s_11111111110 s_11111111100 s_11111111000 s_11111101100 s_11111110000 s_11101101100
    refine hY 4 _ [1, 4, 5, 6, 7, 10] [5, 8] _ (by kernel_rfl) rfl ⟨?_, ?_, trivial⟩
    · show opX _ _ _ _ _ _
      rw [hρ]
      refine opX_of (f := false) rfl (by decide) ?_
      simp (disch := omega) only [go_sem, ↓reduceIte, Nat.reduceEqDiff, Nat.reduceLT, Nat.reduceLeDiff, Nat.reduceAdd, Nat.reduceSub, Nat.reduceMul, reduceCtorEq, Int.reduceToNat, Int.reduceNeg, List.take_length, ← List.map_append]
      repeat refine And.intro (by first | omega | assumption | (simp only [List.length_append, List.length_cons, List.length_nil]; omega) | (intros; first | omega | assumption | (simp_all; done) | grind)) ?_   -- r1.1
      refine s_11111101000 _ ?_
      simp (disch := omega) only [go_sem, ↓reduceIte, Nat.reduceEqDiff, Nat.reduceLT, Nat.reduceLeDiff, Nat.reduceAdd, Nat.reduceSub, Nat.reduceMul, reduceCtorEq, Int.reduceToNat, Int.reduceNeg, List.take_length, ← List.map_append] <;> first | rfl | omega | simp | simp_all
    · show opX _ _ _ _ _ _
      rw [hρ]
      refine opX_of (f := false) rfl (by decide) ?_
      simp (disch := omega) only [go_sem, ↓reduceIte, Nat.reduceEqDiff, Nat.reduceLT, Nat.reduceLeDiff, Nat.reduceAdd, Nat.reduceSub, Nat.reduceMul, reduceCtorEq, Int.reduceToNat, Int.reduceNeg, List.take_length, ← List.map_append]
      repeat refine And.intro (by first | omega | assumption | (simp only [List.length_append, List.length_cons, List.length_nil]; omega) | (intros; first | omega | assumption | (simp_all; done) | grind)) ?_   -- r1.1
      refine s_11111001100 _ ?_
      simp (disch := omega) only [go_sem, ↓reduceIte, Nat.reduceEqDiff, Nat.reduceLT, Nat.reduceLeDiff, Nat.reduceAdd, Nat.reduceSub, Nat.reduceMul, reduceCtorEq, Int.reduceToNat, Int.reduceNeg, List.take_length, ← List.map_append] <;> first | rfl | omega | simp | simp_all
  have s_11110001100 : ∀ ρ, keepC [1, 4, 5, 6, 10, 11] ρ = mkE O [(1, .bx (eRoute r)), (4, .bp 1 4), (5, encS r.fPoints), (6, .row 62 2 (r.fPoints.map eSetting)), (10, .bp 1 11), (11, encS r.fFlank)] → Y 5 #[true, true, true, true, false, false, false, true, true, false, false] ρ := by
    intro ρ hρ
    clear s_11111111111 s_11111111110 s_11111111100 s_11111111000 s_11111101100 s_11111110000 s_11111101000 s_11101101100
    refine hY 4 _ [1, 4, 5, 6, 10, 11] [4] _ (by kernel_rfl) rfl ⟨?_, trivial⟩
    · show opX _ _ _ _ _ _
      rw [hρ]
      refine opX_of (f := false) rfl (by decide) ?_
      simp (disch := omega) only [go_sem, ↓reduceIte, Nat.reduceEqDiff, Nat.reduceLT, Nat.reduceLeDiff, Nat.reduceAdd, Nat.reduceSub, Nat.reduceMul, reduceCtorEq, Int.reduceToNat, Int.reduceNeg, List.take_length, ← List.map_append]
      repeat refine And.intro (by first | omega | assumption | (simp only [List.length_append, List.length_cons, List.length_nil]; omega) | (intros; first | omega | assumption | (simp_all; done) | grind)) ?_   -- r1.1
      refine s_11111001100 _ ?_
      simp (disch := omega) only [go_sem, ↓reduceIte, Nat.reduceEqDiff, Nat.reduceLT, Nat.reduceLeDiff, Nat.reduceAdd, Nat.reduceSub, Nat.reduceMul, reduceCtorEq, Int.reduceToNat, Int.reduceNeg, List.take_length, ← List.map_append] <;> first | rfl | omega | simp | simp_all
  have s_11101101000 : ∀ ρ, keepC [1, 3, 4, 5, 7, 8, 10] ρ = mkE O [(1, .bx (eRoute r)), (3, .row 62 2 []), (4, .bp 1 4), (5, encS r.fPoints), (7, .bp 1 9), (8, encS r.fOverPoints), (10, .bp 1 11)] → Y 5 #[true, true, true, false, true, true, false, true, false, false, false] ρ := by
    intro ρ hρ
    clear s_11111111111 s_11111111110 s_11111111100 s_11111111000 s_11111101100 s_11111110000 s_11111001100
    refine hY 4 _ [1, 3, 4, 5, 7, 8, 10] [3, 8] _ (by kernel_rfl) rfl ⟨?_, ?_, trivial⟩
    · show opX _ _ _ _ _ _
      rw [hρ]
      refine opX_of (f := false) rfl (by decide) ?_
      simp (disch := omega) only [go_sem, ↓reduceIte, Nat.reduceEqDiff, Nat.reduceLT, Nat.reduceLeDiff, Nat.reduceAdd, Nat.reduceSub, Nat.reduceMul, reduceCtorEq, Int.reduceToNat, Int.reduceNeg, List.take_length, ← List.map_append]
      repeat refine And.intro (by first | omega | assumption | (simp only [List.length_append, List.length_cons, List.length_nil]; omega) | (intros; first | omega | assumption | (simp_all; done) | grind)) ?_   -- r1.1
      refine s_11111101000 _ ?_
      simp (disch := omega) only [go_sem, ↓reduceIte, Nat.reduceEqDiff, Nat.reduceLT, Nat.reduceLeDiff, Nat.reduceAdd, Nat.reduceSub, Nat.reduceMul, reduceCtorEq, Int.reduceToNat, Int.reduceNeg, List.take_length, ← List.map_append] <;> first | rfl | omega | simp | simp_all
    · show opX _ _ _ _ _ _
      rw [hρ]
      refine opX_of (f := false) rfl (by decide) ?_
      simp (disch := omega) only [go_sem, ↓reduceIte, Nat.reduceEqDiff, Nat.reduceLT, Nat.reduceLeDiff, Nat.reduceAdd, Nat.reduceSub, Nat.reduceMul, reduceCtorEq, Int.reduceToNat, Int.reduceNeg, List.take_length, ← List.map_append]
      repeat refine And.intro (by first | omega | assumption | (simp only [List.length_append, List.length_cons, List.length_nil]; omega) | (intros; first | omega | assumption | (simp_all; done) | grind)) ?_   -- r1.1
      refine s_11101101100 _ ?_
      simp (disch := omega) only [go_sem, ↓reduceIte, Nat.reduceEqDiff, Nat.reduceLT, Nat.reduceLeDiff, Nat.reduceAdd, Nat.reduceSub, Nat.reduceMul, reduceCtorEq, Int.reduceToNat, Int.reduceNeg, List.take_length, ← List.map_append] <;> first | rfl | omega | simp | simp_all
  have s_11101001100 : ∀ ρ, keepC [1, 3, 4, 5, 7, 10, 11] ρ = mkE O [(1, .bx (eRoute r)), (3, .row 62 2 []), (4, .bp 1 4), (5, encS r.fPoints), (7, .bp 1 9), (10, .bp 1 11), (11, encS r.fFlank)] → Y 5 #[true, true, true, false, true, false, false, true, true, false, false] ρ := by
    intro ρ hρ
    clear s_11111111111 s_11111111110 s_11111111100 s_11111111000 s_11111101100 s_11111110000 s_11111101000
    refine hY 4 _ [1, 3, 4, 5, 7, 10, 11] [3, 5] _ (by kernel_rfl) rfl ⟨?_, ?_, trivial⟩
    · show opX _ _ _ _ _ _
      rw [hρ]
      refine opX_of (f := false) rfl (by decide) ?_
      simp (disch := omega) only [go_sem, ↓reduceIte, Nat.reduceEqDiff, Nat.reduceLT, Nat.reduceLeDiff, Nat.reduceAdd, Nat.reduceSub, Nat.reduceMul, reduceCtorEq, Int.reduceToNat, Int.reduceNeg, List.take_length, ← List.map_append]
      repeat refine And.intro (by first | omega | assumption | (simp only [List.length_append, List.length_cons, List.length_nil]; omega) | (intros; first | omega | assumption | (simp_all; done) | grind)) ?_   -- r1.1
      refine s_11111001100 _ ?_
      simp (disch := omega) only [go_sem, ↓reduceIte, Nat.reduceEqDiff, Nat.reduceLT, Nat.reduceLeDiff, Nat.reduceAdd, Nat.reduceSub, Nat.reduceMul, reduceCtorEq, Int.reduceToNat, Int.reduceNeg, List.take_length, ← List.map_append] <;> first | rfl | omega | simp | simp_all
    · show opX _ _ _ _ _ _
      rw [hρ]
      refine opX_of (f := false) rfl (by decide) ?_
      simp (disch := omega) only [go_sem, ↓reduceIte, Nat.reduceEqDiff, Nat.reduceLT, Nat.reduceLeDiff, Nat.reduceAdd, Nat.reduceSub, Nat.reduceMul, reduceCtorEq, Int.reduceToNat, Int.reduceNeg, List.take_length, ← List.map_append]
      repeat refine And.intro (by first | omega | assumption | (simp only [List.length_append, List.length_cons, List.length_nil]; omega) | (intros; first | omega | assumption | (simp_all; done) | grind)) ?_   -- r1.1
      refine s_11101101100 _ ?_
      simp (disch := omega) only [go_sem, ↓reduceIte, Nat.reduceEqDiff, Nat.reduceLT, Nat.reduceLeDiff, Nat.reduceAdd, Nat.reduceSub, Nat.reduceMul, reduceCtorEq, Int.reduceToNat, Int.reduceNeg, List.take_length, ← List.map_append] <;> first | rfl | omega | simp | simp_all
  have s_11001101100 : ∀ ρ, keepC [1, 3, 4, 7, 8, 10, 11] ρ = mkE O [(1, .bx (eRoute r)), (3, .row 62 2 []), (4, .bp 1 4), (7, .bp 1 9), (8, encS r.fOverPoints), (10, .bp 1 11), (11, encS r.fFlank)] → Y 5 #[true, true, false, false, true, true, false, true, true, false, false] ρ := by
    intro ρ hρ
    clear s_11111111111 s_11111111110 s_11111111100 s_11111111000 s_11111101100 s_11111110000 s_11111101000 s_11111001100
    refine hY 4 _ [1, 3, 4, 7, 8, 10, 11] [2] _ (by kernel_rfl) rfl ⟨?_, trivial⟩
    · show opX _ _ _ _ _ _
      rw [hρ]
      refine opX_of (f := false) rfl (by decide) ?_
      simp (disch := omega) only [go_sem, ↓reduceIte, Nat.reduceEqDiff, Nat.reduceLT, Nat.reduceLeDiff, Nat.reduceAdd, Nat.reduceSub, Nat.reduceMul, reduceCtorEq, Int.reduceToNat, Int.reduceNeg, List.take_length, ← List.map_append]
      repeat refine And.intro (by first | omega | assumption | (simp only [List.length_append, List.length_cons, List.length_nil]; omega) | (intros; first | omega | assumption | (simp_all; done) | grind)) ?_   -- r1.1
      refine s_11101101100 _ ?_
      simp (disch := omega) only [go_sem, ↓reduceIte, Nat.reduceEqDiff, Nat.reduceLT, Nat.reduceLeDiff, Nat.reduceAdd, Nat.reduceSub, Nat.reduceMul, reduceCtorEq, Int.reduceToNat, Int.reduceNeg, List.take_length, ← List.map_append] <;> first | rfl | omega | simp | simp_all
  have s_01101101100 : ∀ ρ, keepC [1, 4, 5, 7, 8, 10, 11] ρ = mkE O [(1, .bx (eRoute r)), (4, .bp 1 4), (5, encS r.fPoints), (7, .bp 1 9), (8, encS r.fOverPoints), (10, .bp 1 11), (11, encS r.fFlank)] → Y 5 #[false, true, true, false, true, true, false, true, true, false, false] ρ := by
    intro ρ hρ
    clear s_11111111111 s_11111111110 s_11111111100 s_11111111000 s_11111101100 s_11111110000 s_11111101000 s_11111001100
    refine hY 4 _ [1, 4, 5, 7, 8, 10, 11] [0] _ (by kernel_rfl) rfl ⟨?_, trivial⟩
    · show opX _ _ _ _ _ _
      rw [hρ]
      refine opX_of (f := false) rfl (by decide) ?_
      simp (disch := omega) only [go_sem, ↓reduceIte, Nat.reduceEqDiff, Nat.reduceLT, Nat.reduceLeDiff, Nat.reduceAdd, Nat.reduceSub, Nat.reduceMul, reduceCtorEq, Int.reduceToNat, Int.reduceNeg, List.take_length, ← List.map_append]
      repeat refine And.intro (by first | omega | assumption | (simp only [List.length_append, List.length_cons, List.length_nil]; omega) | (intros; first | omega | assumption | (simp_all; done) | grind)) ?_   -- r1.1
      refine s_11101101100 _ ?_
      simp (disch := omega) only [go_sem, ↓reduceIte, Nat.reduceEqDiff, Nat.reduceLT, Nat.reduceLeDiff, Nat.reduceAdd, Nat.reduceSub, Nat.reduceMul, reduceCtorEq, Int.reduceToNat, Int.reduceNeg, List.take_length, ← List.map_append] <;> first | rfl | omega | simp | simp_all
  have s_11111000000 : ∀ ρ, keepC [1, 4, 5, 6, 7] ρ = mkE O [(1, .bx (eRoute r)), (4, .bp 1 4), (5, encS r.fPoints), (6, .row 62 2 (r.fPoints.map eSetting)), (7, .bp 1 9)] → Y 6 #[true, true, true, true, true, false, false, false, false, false, false] ρ := by
    intro ρ hρ
    clear s_11111111111 s_11111111110 s_11111111100 s_11111111000 s_11111101100 s_11111110000 s_11111101000 s_11111001100 s_11101101100 s_11110001100 s_11101101000 s_11101001100 s_11001101100 s_01101101100
    refine hY 5 _ [1, 4, 5, 6, 7] [5, 7] _ (by kernel_rfl) rfl ⟨?_, ?_, trivial⟩
    · show opX _ _ _ _ _ _
      rw [hρ]
      refine opX_of (f := false) rfl (by decide) ?_
      simp (disch := omega) only [go_sem, ↓reduceIte, Nat.reduceEqDiff, Nat.reduceLT, Nat.reduceLeDiff, Nat.reduceAdd, Nat.reduceSub, Nat.reduceMul, reduceCtorEq, Int.reduceToNat, Int.reduceNeg, List.take_length, ← List.map_append]
      repeat refine And.intro (by first | omega | assumption | (simp only [List.length_append, List.length_cons, List.length_nil]; omega) | (intros; first | omega | assumption | (simp_all; done) | grind)) ?_   -- r1.1
      refine s_11111100000 _ ?_
      simp (disch := omega) only [go_sem, ↓reduceIte, Nat.reduceEqDiff, Nat.reduceLT, Nat.reduceLeDiff, Nat.reduceAdd, Nat.reduceSub, Nat.reduceMul, reduceCtorEq, Int.reduceToNat, Int.reduceNeg, List.take_length, ← List.map_append] <;> first | rfl | omega | simp | simp_all
    · show opX _ _ _ _ _ _
      rw [hρ]
      refine opX_of (f := false) rfl (by decide) ?_
      simp (disch := omega) only [go_sem, ↓reduceIte, Nat.reduceEqDiff, Nat.reduceLT, Nat.reduceLeDiff, Nat.reduceAdd, Nat.reduceSub, Nat.reduceMul, reduceCtorEq, Int.reduceToNat, Int.reduceNeg, List.take_length, ← List.map_append]
      repeat refine And.intro (by first | omega | assumption | (simp only [List.length_append, List.length_cons, List.length_nil]; omega) | (intros; first | omega | assumption | (simp_all; done) | grind)) ?_   -- r1.1
      refine s_11111001000 _ ?_
      simp (disch := omega) only [go_sem, ↓reduceIte, Nat.reduceEqDiff, Nat.reduceLT, Nat.reduceLeDiff, Nat.reduceAdd, Nat.reduceSub, Nat.reduceMul, reduceCtorEq, Int.reduceToNat, Int.reduceNeg, List.take_length, ← List.map_append] <;> first | rfl | omega | simp | simp_all
  have s_11110001000 : ∀ ρ, keepC [1, 4, 5, 6, 10] ρ = mkE O [(1, .bx (eRoute r)), (4, .bp 1 4), (5, encS r.fPoints), (6, .row 62 2 (r.fPoints.map eSetting)), (10, .bp 1 11)] → Y 6 #[true, true, true, true, false, false, false, true, false, false, false] ρ := by
    intro ρ hρ
    clear s_11111111111 s_11111111110 s_11111111100 s_11111111000 s_11111101100 s_11111110000 s_11111101000 s_11111001100 s_11101101100 s_11111100000 s_11101101000 s_11101001100 s_11001101100 s_01101101100
    refine hY 5 _ [1, 4, 5, 6, 10] [4, 8] _ (by kernel_rfl) rfl ⟨?_, ?_, trivial⟩
    · show opX _ _ _ _ _ _
      rw [hρ]
      refine opX_of (f := false) rfl (by decide) ?_
      simp (disch := omega) only [go_sem, ↓reduceIte, Nat.reduceEqDiff, Nat.reduceLT, Nat.reduceLeDiff, Nat.reduceAdd, Nat.reduceSub, Nat.reduceMul, reduceCtorEq, Int.reduceToNat, Int.reduceNeg, List.take_length, ← List.map_append]
      repeat refine And.intro (by first | omega | assumption | (simp only [List.length_append, List.length_cons, List.length_nil]; omega) | (intros; first | omega | assumption | (simp_all; done) | grind)) ?_   -- r1.1
      refine s_11111001000 _ ?_
      simp (disch := omega) only [go_sem, ↓reduceIte, Nat.reduceEqDiff, Nat.reduceLT, Nat.reduceLeDiff, Nat.reduceAdd, Nat.reduceSub, Nat.reduceMul, reduceCtorEq, Int.reduceToNat, Int.reduceNeg, List.take_length, ← List.map_append] <;> first | rfl | omega | simp | simp_all
    · show opX _ _ _ _ _ _
      rw [hρ]
      refine opX_of (f := false) rfl (by decide) ?_
      simp (disch := omega) only [go_sem, ↓reduceIte, Nat.reduceEqDiff, Nat.reduceLT, Nat.reduceLeDiff, Nat.reduceAdd, Nat.reduceSub, Nat.reduceMul, reduceCtorEq, Int.reduceToNat, Int.reduceNeg, List.take_length, ← List.map_append]
      repeat refine And.intro (by first | omega | assumption | (simp only [List.length_append, List.length_cons, List.length_nil]; omega) | (intros; first | omega | assumption | (simp_all; done) | grind)) ?_   -- r1.1
      refine s_11110001100 _ ?_
      simp (disch := omega) only [go_sem, ↓reduceIte, Nat.reduceEqDiff, Nat.reduceLT, Nat.reduceLeDiff, Nat.reduceAdd, Nat.reduceSub, Nat.reduceMul, reduceCtorEq, Int.reduceToNat, Int.reduceNeg, List.take_length, ← List.map_append] <;> first | rfl | omega | simp | simp_all
  have s_11101100000 : ∀ ρ, keepC [1, 3, 4, 5, 7, 8] ρ = mkE O [(1, .bx (eRoute r)), (3, .row 62 2 []), (4, .bp 1 4), (5, encS r.fPoints), (7, .bp 1 9), (8, encS r.fOverPoints)] → Y 6 #[true, true, true, false, true, true, false, false, false, false, false] ρ := by
    intro ρ hρ
    clear s_11111111111 s_11111111110 s_11111111100 s_11111111000 s_11111101100 s_11111110000 s_11111101000 s_11111001100 s_11101101100 s_11111001000 s_11110001100 s_11101001100 s_11001101100 s_01101101100
    refine hY 5 _ [1, 3, 4, 5, 7, 8] [3, 7] _ (by kernel_rfl) rfl ⟨?_, ?_, trivial⟩
    · show opX _ _ _ _ _ _
      rw [hρ]
      refine opX_of (f := false) rfl (by decide) ?_
      simp (disch := omega) only [go_sem, ↓reduceIte, Nat.reduceEqDiff, Nat.reduceLT, Nat.reduceLeDiff, Nat.reduceAdd, Nat.reduceSub, Nat.reduceMul, reduceCtorEq, Int.reduceToNat, Int.reduceNeg, List.take_length, ← List.map_append]
      repeat refine And.intro (by first | omega | assumption | (simp only [List.length_append, List.length_cons, List.length_nil]; omega) | (intros; first | omega | assumption | (simp_all; done) | grind)) ?_   -- r1.1
      refine s_11111100000 _ ?_
      simp (disch := omega) only [go_sem, ↓reduceIte, Nat.reduceEqDiff, Nat.reduceLT, Nat.reduceLeDiff, Nat.reduceAdd, Nat.reduceSub, Nat.reduceMul, reduceCtorEq, Int.reduceToNat, Int.reduceNeg, List.take_length, ← List.map_append] <;> first | rfl | omega | simp | simp_all
    · show opX _ _ _ _ _ _
      rw [hρ]
      refine opX_of (f := false) rfl (by decide) ?_
      simp (disch := omega) only [go_sem, ↓reduceIte, Nat.reduceEqDiff, Nat.reduceLT, Nat.reduceLeDiff, Nat.reduceAdd, Nat.reduceSub, Nat.reduceMul, reduceCtorEq, Int.reduceToNat, Int.reduceNeg, List.take_length, ← List.map_append]
      repeat refine And.intro (by first | omega | assumption | (simp only [List.length_append, List.length_cons, List.length_nil]; omega) | (intros; first | omega | assumption | (simp_all; done) | grind)) ?_   -- r1.1
      refine s_11101101000 _ ?_
      simp (disch := omega) only [go_sem, ↓reduceIte, Nat.reduceEqDiff, Nat.reduceLT, Nat.reduceLeDiff, Nat.reduceAdd, Nat.reduceSub, Nat.reduceMul, reduceCtorEq, Int.reduceToNat, Int.reduceNeg, List.take_length, ← List.map_append] <;> first | rfl | omega | simp | simp_all
  have s_11101001000 : ∀ ρ, keepC [1, 3, 4, 5, 7, 10] ρ = mkE O [(1, .bx (eRoute r)), (3, .row 62 2 []), (4, .bp 1 4), (5, encS r.fPoints), (7, .bp 1 9), (10, .bp 1 11)] → Y 6 #[true, true, true, false, true, false, false, true, false, false, false] ρ := by
    intro ρ hρ
    clear s_11111111111 s_11111111110 s_11111111100 s_11111111000 s_11111101100 s_11111110000 s_11111101000 s_11111001100 s_11101101100 s_11111100000 s_11110001100 s_11001101100 s_01101101100
    refine hY 5 _ [1, 3, 4, 5, 7, 10] [3, 5, 8] _ (by kernel_rfl) rfl ⟨?_, ?_, ?_, trivial⟩
    · show opX _ _ _ _ _ _
      rw [hρ]
      refine opX_of (f := false) rfl (by decide) ?_
      simp (disch := omega) only [go_sem, ↓reduceIte, Nat.reduceEqDiff, Nat.reduceLT, Nat.reduceLeDiff, Nat.reduceAdd, Nat.reduceSub, Nat.reduceMul, reduceCtorEq, Int.reduceToNat, Int.reduceNeg, List.take_length, ← List.map_append]
      repeat refine And.intro (by first | omega | assumption | (simp only [List.length_append, List.length_cons, List.length_nil]; omega) | (intros; first | omega | assumption | (simp_all; done) | grind)) ?_   -- r1.1
      refine s_11111001000 _ ?_
      simp (disch := omega) only [go_sem, ↓reduceIte, Nat.reduceEqDiff, Nat.reduceLT, Nat.reduceLeDiff, Nat.reduceAdd, Nat.reduceSub, Nat.reduceMul, reduceCtorEq, Int.reduceToNat, Int.reduceNeg, List.take_length, ← List.map_append] <;> first | rfl | omega | simp | simp_all
    · show opX _ _ _ _ _ _
      rw [hρ]
      refine opX_of (f := false) rfl (by decide) ?_
      simp (disch := omega) only [go_sem, ↓reduceIte, Nat.reduceEqDiff, Nat.reduceLT, Nat.reduceLeDiff, Nat.reduceAdd, Nat.reduceSub, Nat.reduceMul, reduceCtorEq, Int.reduceToNat, Int.reduceNeg, List.take_length, ← List.map_append]
      repeat refine And.intro (by first | omega | assumption | (simp only [List.length_append, List.length_cons, List.length_nil]; omega) | (intros; first | omega | assumption | (simp_all; done) | grind)) ?_   -- r1.1
      refine s_11101101000 _ ?_
      simp (disch := omega) only [go_sem, ↓reduceIte, Nat.reduceEqDiff, Nat.reduceLT, Nat.reduceLeDiff, Nat.reduceAdd, Nat.reduceSub, Nat.reduceMul, reduceCtorEq, Int.reduceToNat, Int.reduceNeg, List.take_length, ← List.map_append] <;> first | rfl | omega | simp | simp_all
    · show opX _ _ _ _ _ _
      rw [hρ]
      refine opX_of (f := false) rfl (by decide) ?_
      simp (disch := omega) only [go_sem, ↓reduceIte, Nat.reduceEqDiff, Nat.reduceLT, Nat.reduceLeDiff, Nat.reduceAdd, Nat.reduceSub, Nat.reduceMul, reduceCtorEq, Int.reduceToNat, Int.reduceNeg, List.take_length, ← List.map_append]
      repeat refine And.intro (by first | omega | assumption | (simp only [List.length_append, List.length_cons, List.length_nil]; omega) | (intros; first | omega | assumption | (simp_all; done) | grind)) ?_   -- r1.1
      refine s_11101001100 _ ?_
      simp (disch := omega) only [go_sem, ↓reduceIte, Nat.reduceEqDiff, Nat.reduceLT, Nat.reduceLeDiff, Nat.reduceAdd, Nat.reduceSub, Nat.reduceMul, reduceCtorEq, Int.reduceToNat, Int.reduceNeg, List.take_length, ← List.map_append] <;> first | rfl | omega | simp | simp_all
  have s_11100001100 : ∀ ρ, keepC [1, 3, 4, 5, 10, 11] ρ = mkE O [(1, .bx (eRoute r)), (3, .row 62 2 []), (4, .bp 1 4), (5, encS r.fPoints), (10, .bp 1 11), (11, encS r.fFlank)] → Y 6 #[true, true, true, false, false, false, false, true, true, false, false] ρ := by
    intro ρ hρ
    clear s_11111111111 s_11111111110 s_11111111100 s_11111111000 s_11111101100 s_11111110000 s_11111101000 s_11111001100 s_11101101100 s_11111100000 s_11111001000 s_11101101000 s_11001101100 s_01101101100
    refine hY 5 _ [1, 3, 4, 5, 10, 11] [3, 4] _ (by kernel_rfl) rfl ⟨?_, ?_, trivial⟩
    · show opX _ _ _ _ _ _
      rw [hρ]
      refine opX_of (f := false) rfl (by decide) ?_
      simp (disch := omega) only [go_sem, ↓reduceIte, Nat.reduceEqDiff, Nat.reduceLT, Nat.reduceLeDiff, Nat.reduceAdd, Nat.reduceSub, Nat.reduceMul, reduceCtorEq, Int.reduceToNat, Int.reduceNeg, List.take_length, ← List.map_append]
      repeat refine And.intro (by first | omega | assumption | (simp only [List.length_append, List.length_cons, List.length_nil]; omega) | (intros; first | omega | assumption | (simp_all; done) | grind)) ?_   -- r1.1
      refine s_11110001100 _ ?_
      simp (disch := omega) only [go_sem, ↓reduceIte, Nat.reduceEqDiff, Nat.reduceLT, Nat.reduceLeDiff, Nat.reduceAdd, Nat.reduceSub, Nat.reduceMul, reduceCtorEq, Int.reduceToNat, Int.reduceNeg, List.take_length, ← List.map_append] <;> first | rfl | omega | simp | simp_all
    · show opX _ _ _ _ _ _
      rw [hρ]
      refine opX_of (f := false) rfl (by decide) ?_
      simp (disch := omega) only [go_sem, ↓reduceIte, Nat.reduceEqDiff, Nat.reduceLT, Nat.reduceLeDiff, Nat.reduceAdd, Nat.reduceSub, Nat.reduceMul, reduceCtorEq, Int.reduceToNat, Int.reduceNeg, List.take_length, ← List.map_append]
      repeat refine And.intro (by first | omega | assumption | (simp only [List.length_append, List.length_cons, List.length_nil]; omega) | (intros; first | omega | assumption | (simp_all; done) | grind)) ?_   -- r1.1
      refine s_11101001100 _ ?_
      simp (disch := omega) only [go_sem, ↓reduceIte, Nat.reduceEqDiff, Nat.reduceLT, Nat.reduceLeDiff, Nat.reduceAdd, Nat.reduceSub, Nat.reduceMul, reduceCtorEq, Int.reduceToNat, Int.reduceNeg, List.take_length, ← List.map_append] <;> first | rfl | omega | simp | simp_all
  have s_11001101000 : ∀ ρ, keepC [1, 3, 4, 7, 8, 10] ρ = mkE O [(1, .bx (eRoute r)), (3, .row 62 2 []), (4, .bp 1 4), (7, .bp 1 9), (8, encS r.fOverPoints), (10, .bp 1 11)] → Y 6 #[true, true, false, false, true, true, false, true, false, false, false] ρ := by
    intro ρ hρ
    clear s_11111111111 s_11111111110 s_11111111100 s_11111111000 s_11111101100 s_11111110000 s_11111101000 s_11111001100 s_11101101100 s_11111100000 s_11111001000 s_11110001100 s_11101001100 s_01101101100
    refine hY 5 _ [1, 3, 4, 7, 8, 10] [2, 8] _ (by kernel_rfl) rfl ⟨?_, ?_, trivial⟩
    · show opX _ _ _ _ _ _
      rw [hρ]
      refine opX_of (f := false) rfl (by decide) ?_
      simp (disch := omega) only [go_sem, ↓reduceIte, Nat.reduceEqDiff, Nat.reduceLT, Nat.reduceLeDiff, Nat.reduceAdd, Nat.reduceSub, Nat.reduceMul, reduceCtorEq, Int.reduceToNat, Int.reduceNeg, List.take_length, ← List.map_append]
      repeat refine And.intro (by first | omega | assumption | (simp only [List.length_append, List.length_cons, List.length_nil]; omega) | (intros; first | omega | assumption | (simp_all; done) | grind)) ?_   -- r1.1
      refine s_11101101000 _ ?_
      simp (disch := omega) only [go_sem, ↓reduceIte, Nat.reduceEqDiff, Nat.reduceLT, Nat.reduceLeDiff, Nat.reduceAdd, Nat.reduceSub, Nat.reduceMul, reduceCtorEq, Int.reduceToNat, Int.reduceNeg, List.take_length, ← List.map_append] <;> first | rfl | omega | simp | simp_all
    · show opX _ _ _ _ _ _
      rw [hρ]
      refine opX_of (f := false) rfl (by decide) ?_
      simp (disch := omega) only [go_sem, ↓reduceIte, Nat.reduceEqDiff, Nat.reduceLT, Nat.reduceLeDiff, Nat.reduceAdd, Nat.reduceSub, Nat.reduceMul, reduceCtorEq, Int.reduceToNat, Int.reduceNeg, List.take_length, ← List.map_append]
      repeat refine And.intro (by first | omega | assumption | (simp only [List.length_append, List.length_cons, List.length_nil]; omega) | (intros; first | omega | assumption | (simp_all; done) | grind)) ?_   -- r1.1
      refine s_11001101100 _ ?_
      simp (disch := omega) only [go_sem, ↓reduceIte, Nat.reduceEqDiff, Nat.reduceLT, Nat.reduceLeDiff, Nat.reduceAdd, Nat.reduceSub, Nat.reduceMul, reduceCtorEq, Int.reduceToNat, Int.reduceNeg, List.take_length, ← List.map_append] <;> first | rfl | omega | simp | simp_all
  have s_11001001100 : ∀ ρ, keepC [1, 3, 4, 7, 10, 11] ρ = mkE O [(1, .bx (eRoute r)), (3, .row 62 2 []), (4, .bp 1 4), (7, .bp 1 9), (10, .bp 1 11), (11, encS r.fFlank)] → Y 6 #[true, true, false, false, true, false, false, true, true, false, false] ρ := by
    intro ρ hρ
    clear s_11111111111 s_11111111110 s_11111111100 s_11111111000 s_11111101100 s_11111110000 s_11111101000 s_11111001100 s_11101101100 s_11111100000 s_11111001000 s_11110001100 s_11101101000 s_01101101100
    refine hY 5 _ [1, 3, 4, 7, 10, 11] [2, 5] _ (by kernel_rfl) rfl ⟨?_, ?_, trivial⟩
    · show opX _ _ _ _ _ _
      rw [hρ]
      refine opX_of (f := false) rfl (by decide) ?_
      simp (disch := omega) only [go_sem, ↓reduceIte, Nat.reduceEqDiff, Nat.reduceLT, Nat.reduceLeDiff, Nat.reduceAdd, Nat.reduceSub, Nat.reduceMul, reduceCtorEq, Int.reduceToNat, Int.reduceNeg, List.take_length, ← List.map_append]
      repeat refine And.intro (by first | omega | assumption | (simp only [List.length_append, List.length_cons, List.length_nil]; omega) | (intros; first | omega | assumption | (simp_all; done) | grind)) ?_   -- r1.1
      refine s_11101001100 _ ?_
      simp (disch := omega) only [go_sem, ↓reduceIte, Nat.reduceEqDiff, Nat.reduceLT, Nat.reduceLeDiff, Nat.reduceAdd, Nat.reduceSub, Nat.reduceMul, reduceCtorEq, Int.reduceToNat, Int.reduceNeg, List.take_length, ← List.map_append] <;> first | rfl | omega | simp | simp_all
    · show opX _ _ _ _ _ _
      rw [hρ]
      refine opX_of (f := false) rfl (by decide) ?_
      simp (disch := omega) only [go_sem, ↓reduceIte, Nat.reduceEqDiff, Nat.reduceLT, Nat.reduceLeDiff, Nat.reduceAdd, Nat.reduceSub, Nat.reduceMul, reduceCtorEq, Int.reduceToNat, Int.reduceNeg, List.take_length, ← List.map_append]
      repeat refine And.intro (by first | omega | assumption | (simp only [List.length_append, List.length_cons, List.length_nil]; omega) | (intros; first | omega | assumption | (simp_all; done) | grind)) ?_   -- r1.1
      refine s_11001101100 _ ?_
      simp (disch := omega) only [go_sem, ↓reduceIte, Nat.reduceEqDiff, Nat.reduceLT, Nat.reduceLeDiff, Nat.reduceAdd, Nat.reduceSub, Nat.reduceMul, reduceCtorEq, Int.reduceToNat, Int.reduceNeg, List.take_length, ← List.map_append] <;> first | rfl | omega | simp | simp_all
  have s_10001101100 : ∀ ρ, keepC [1, 3, 7, 8, 10, 11] ρ = mkE O [(1, .bx (eRoute r)), (3, .row 62 2 []), (7, .bp 1 9), (8, encS r.fOverPoints), (10, .bp 1 11), (11, encS r.fFlank)] → Y 6 #[true, false, false, false, true, true, false, true, true, false, false] ρ := by
    intro ρ hρ
    clear s_11111111111 s_11111111110 s_11111111100 s_11111111000 s_11111101100 s_11111110000 s_11111101000 s_11111001100 s_11101101100 s_11111100000 s_11111001000 s_11110001100 s_11101101000 s_11101001100 s_01101101100
    refine hY 5 _ [1, 3, 7, 8, 10, 11] [1] _ (by kernel_rfl) rfl ⟨?_, trivial⟩
    · show opX _ _ _ _ _ _
      rw [hρ]
      refine opX_of (f := false) rfl (by decide) ?_
      simp (disch := omega) only [go_sem, ↓reduceIte, Nat.reduceEqDiff, Nat.reduceLT, Nat.reduceLeDiff, Nat.reduceAdd, Nat.reduceSub, Nat.reduceMul, reduceCtorEq, Int.reduceToNat, Int.reduceNeg, List.take_length, ← List.map_append]
      repeat refine And.intro (by first | omega | assumption | (simp only [List.length_append, List.length_cons, List.length_nil]; omega) | (intros; first | omega | assumption | (simp_all; done) | grind)) ?_   -- r1.1
      refine s_11001101100 _ ?_
      simp (disch := omega) only [go_sem, ↓reduceIte, Nat.reduceEqDiff, Nat.reduceLT, Nat.reduceLeDiff, Nat.reduceAdd, Nat.reduceSub, Nat.reduceMul, reduceCtorEq, Int.reduceToNat, Int.reduceNeg, List.take_length, ← List.map_append] <;> first | rfl | omega | simp | simp_all
  have s_01101101000 : ∀ ρ, keepC [1, 4, 5, 7, 8, 10] ρ = mkE O [(1, .bx (eRoute r)), (4, .bp 1 4), (5, encS r.fPoints), (7, .bp 1 9), (8, encS r.fOverPoints), (10, .bp 1 11)] → Y 6 #[false, true, true, false, true, true, false, true, false, false, false] ρ := by
    intro ρ hρ
    clear s_11111111111 s_11111111110 s_11111111100 s_11111111000 s_11111101100 s_11111110000 s_11111101000 s_11111001100 s_11101101100 s_11111100000 s_11111001000 s_11110001100 s_11101001100 s_11001101100
    refine hY 5 _ [1, 4, 5, 7, 8, 10] [0, 8] _ (by kernel_rfl) rfl ⟨?_, ?_, trivial⟩
    · show opX _ _ _ _ _ _
      rw [hρ]
      refine opX_of (f := false) rfl (by decide) ?_
      simp (disch := omega) only [go_sem, ↓reduceIte, Nat.reduceEqDiff, Nat.reduceLT, Nat.reduceLeDiff, Nat.reduceAdd, Nat.reduceSub, Nat.reduceMul, reduceCtorEq, Int.reduceToNat, Int.reduceNeg, List.take_length, ← List.map_append]
      repeat refine And.intro (by first | omega | assumption | (simp only [List.length_append, List.length_cons, List.length_nil]; omega) | (intros; first | omega | assumption | (simp_all; done) | grind)) ?_   -- r1.1
      refine s_11101101000 _ ?_
      simp (disch := omega) only [go_sem, ↓reduceIte, Nat.reduceEqDiff, Nat.reduceLT, Nat.reduceLeDiff, Nat.reduceAdd, Nat.reduceSub, Nat.reduceMul, reduceCtorEq, Int.reduceToNat, Int.reduceNeg, List.take_length, ← List.map_append] <;> first | rfl | omega | simp | simp_all
    · show opX _ _ _ _ _ _
      rw [hρ]
      refine opX_of (f := false) rfl (by decide) ?_
      simp (disch := omega) only [go_sem, ↓reduceIte, Nat.reduceEqDiff, Nat.reduceLT, Nat.reduceLeDiff, Nat.reduceAdd, Nat.reduceSub, Nat.reduceMul, reduceCtorEq, Int.reduceToNat, Int.reduceNeg, List.take_length, ← List.map_append]
      repeat refine And.intro (by first | omega | assumption | (simp only [List.length_append, List.length_cons, List.length_nil]; omega) | (intros; first | omega | assumption | (simp_all; done) | grind)) ?_   -- r1.1
      refine s_01101101100 _ ?_
      simp (disch := omega) only [go_sem, ↓reduceIte, Nat.reduceEqDiff, Nat.reduceLT, Nat.reduceLeDiff, Nat.reduceAdd, Nat.reduceSub, Nat.reduceMul, reduceCtorEq, Int.reduceToNat, Int.reduceNeg, List.take_length, ← List.map_append] <;> first | rfl | omega | simp | simp_all
  have s_01101001100 : ∀ ρ, keepC [1, 4, 5, 7, 10, 11] ρ = mkE O [(1, .bx (eRoute r)), (4, .bp 1 4), (5, encS r.fPoints), (7, .bp 1 9), (10, .bp 1 11), (11, encS r.fFlank)] → Y 6 #[false, true, true, false, true, false, false, true, true, false, false] ρ := by
    intro ρ hρ
    clear s_11111111111 s_11111111110 s_11111111100 s_11111111000 s_11111101100 s_11111110000 s_11111101000 s_11111001100 s_11101101100 s_11111100000 s_11111001000 s_11110001100 s_11101101000 s_11001101100
    refine hY 5 _ [1, 4, 5, 7, 10, 11] [0, 5] _ (by kernel_rfl) rfl ⟨?_, ?_, trivial⟩
    · show opX _ _ _ _ _ _
      rw [hρ]
      refine opX_of (f := false) rfl (by decide) ?_
      simp (disch := omega) only [go_sem, ↓reduceIte, Nat.reduceEqDiff, Nat.reduceLT, Nat.reduceLeDiff, Nat.reduceAdd, Nat.reduceSub, Nat.reduceMul, reduceCtorEq, Int.reduceToNat, Int.reduceNeg, List.take_length, ← List.map_append]
      repeat refine And.intro (by first | omega | assumption | (simp only [List.length_append, List.length_cons, List.length_nil]; omega) | (intros; first | omega | assumption | (simp_all; done) | grind)) ?_   -- r1.1
      refine s_11101001100 _ ?_
      simp (disch := omega) only [go_sem, ↓reduceIte, Nat.reduceEqDiff, Nat.reduceLT, Nat.reduceLeDiff, Nat.reduceAdd, Nat.reduceSub, Nat.reduceMul, reduceCtorEq, Int.reduceToNat, Int.reduceNeg, List.take_length, ← List.map_append] <;> first | rfl | omega | simp | simp_all
    · show opX _ _ _ _ _ _
      rw [hρ]
      refine opX_of (f := false) rfl (by decide) ?_
      simp (disch := omega) only [go_sem, ↓reduceIte, Nat.reduceEqDiff, Nat.reduceLT, Nat.reduceLeDiff, Nat.reduceAdd, Nat.reduceSub, Nat.reduceMul, reduceCtorEq, Int.reduceToNat, Int.reduceNeg, List.take_length, ← List.map_append]
      repeat refine And.intro (by first | omega | assumption | (simp only [List.length_append, List.length_cons, List.length_nil]; omega) | (intros; first | omega | assumption | (simp_all; done) | grind)) ?_   -- r1.1
      refine s_01101101100 _ ?_
      simp (disch := omega) only [go_sem, ↓reduceIte, Nat.reduceEqDiff, Nat.reduceLT, Nat.reduceLeDiff, Nat.reduceAdd, Nat.reduceSub, Nat.reduceMul, reduceCtorEq, Int.reduceToNat, Int.reduceNeg, List.take_length, ← List.map_append] <;> first | rfl | omega | simp | simp_all
  have s_01001101100 : ∀ ρ, keepC [1, 4, 7, 8, 10, 11] ρ = mkE O [(1, .bx (eRoute r)), (4, .bp 1 4), (7, .bp 1 9), (8, encS r.fOverPoints), (10, .bp 1 11), (11, encS r.fFlank)] → Y 6 #[false, true, false, false, true, true, false, true, true, false, false] ρ := by
    intro ρ hρ
    clear s_11111111111 s_11111111110 s_11111111100 s_11111111000 s_11111101100 s_11111110000 s_11111101000 s_11111001100 s_11101101100 s_11111100000 s_11111001000 s_11110001100 s_11101101000 s_11101001100
    refine hY 5 _ [1, 4, 7, 8, 10, 11] [0, 2] _ (by kernel_rfl) rfl ⟨?_, ?_, trivial⟩
    · show opX _ _ _ _ _ _
      rw [hρ]
      refine opX_of (f := false) rfl (by decide) ?_
      simp (disch := omega) only [go_sem, ↓reduceIte, Nat.reduceEqDiff, Nat.reduceLT, Nat.reduceLeDiff, Nat.reduceAdd, Nat.reduceSub, Nat.reduceMul, reduceCtorEq, Int.reduceToNat, Int.reduceNeg, List.take_length, ← List.map_append]
      repeat refine And.intro (by first | omega | assumption | (simp only [List.length_append, List.length_cons, List.length_nil]; omega) | (intros; first | omega | assumption | (simp_all; done) | grind)) ?_   -- r1.1
      refine s_11001101100 _ ?_
      simp (disch := omega) only [go_sem, ↓reduceIte, Nat.reduceEqDiff, Nat.reduceLT, Nat.reduceLeDiff, Nat.reduceAdd, Nat.reduceSub, Nat.reduceMul, reduceCtorEq, Int.reduceToNat, Int.reduceNeg, List.take_length, ← List.map_append] <;> first | rfl | omega | simp | simp_all
    · show opX _ _ _ _ _ _
      rw [hρ]
      refine opX_of (f := false) rfl (by decide) ?_
      simp (disch := omega) only [go_sem, ↓reduceIte, Nat.reduceEqDiff, Nat.reduceLT, Nat.reduceLeDiff, Nat.reduceAdd, Nat.reduceSub, Nat.reduceMul, reduceCtorEq, Int.reduceToNat, Int.reduceNeg, List.take_length, ← List.map_append]
      repeat refine And.intro (by first | omega | assumption | (simp only [List.length_append, List.length_cons, List.length_nil]; omega) | (intros; first | omega | assumption | (simp_all; done) | grind)) ?_   -- r1.1
      refine s_01101101100 _ ?_
      simp (disch := omega) only [go_sem, ↓reduceIte, Nat.reduceEqDiff, Nat.reduceLT, Nat.reduceLeDiff, Nat.reduceAdd, Nat.reduceSub, Nat.reduceMul, reduceCtorEq, Int.reduceToNat, Int.reduceNeg, List.take_length, ← List.map_append] <;> first | rfl | omega | simp | simp_all
  have s_11110000000 : ∀ ρ, keepC [1, 4, 5, 6] ρ = mkE O [(1, .bx (eRoute r)), (4, .bp 1 4), (5, encS r.fPoints), (6, .row 62 2 (r.fPoints.map eSetting))] → Y 7 #[true, true, true, true, false, false, false, false, false, false, false] ρ := by
    intro ρ hρ
    clear s_11111111111 s_11111111110 s_11111111100 s_11111111000 s_11111101100 s_11111110000 s_11111101000 s_11111001100 s_11101101100 s_11111100000 s_11111001000 s_11110001100 s_11101101000 s_11101001100 s_11001101100 s_01101101100 s_11101100000 s_11101001000 s_11100001100 s_11001101000 s_11001001100 s_10001101100 s_01101101000 s_01101001100 s_01001101100
    refine hY 6 _ [1, 4, 5, 6] [4, 7] _ (by kernel_rfl) rfl ⟨?_, ?_, trivial⟩
    · show opX _ _ _ _ _ _
      rw [hρ]
      refine opX_of (f := false) rfl (by decide) ?_
      simp (disch := omega) only [go_sem, ↓reduceIte, Nat.reduceEqDiff, Nat.reduceLT, Nat.reduceLeDiff, Nat.reduceAdd, Nat.reduceSub, Nat.reduceMul, reduceCtorEq, Int.reduceToNat, Int.reduceNeg, List.take_length, ← List.map_append]
      repeat refine And.intro (by first | omega | assumption | (simp only [List.length_append, List.length_cons, List.length_nil]; omega) | (intros; first | omega | assumption | (simp_all; done) | grind)) ?_   -- r1.1
      refine s_11111000000 _ ?_
      simp (disch := omega) only [go_sem, ↓reduceIte, Nat.reduceEqDiff, Nat.reduceLT, Nat.reduceLeDiff, Nat.reduceAdd, Nat.reduceSub, Nat.reduceMul, reduceCtorEq, Int.reduceToNat, Int.reduceNeg, List.take_length, ← List.map_append] <;> first | rfl | omega | simp | simp_all
    · show opX _ _ _ _ _ _
      rw [hρ]
      refine opX_of (f := false) rfl (by decide) ?_
      simp (disch := omega) only [go_sem, ↓reduceIte, Nat.reduceEqDiff, Nat.reduceLT, Nat.reduceLeDiff, Nat.reduceAdd, Nat.reduceSub, Nat.reduceMul, reduceCtorEq, Int.reduceToNat, Int.reduceNeg, List.take_length, ← List.map_append]
      repeat refine And.intro (by first | omega | assumption | (simp only [List.length_append, List.length_cons, List.length_nil]; omega) | (intros; first | omega | assumption | (simp_all; done) | grind)) ?_   -- r1.1
      refine s_11110001000 _ ?_
      simp (disch := omega) only [go_sem, ↓reduceIte, Nat.reduceEqDiff, Nat.reduceLT, Nat.reduceLeDiff, Nat.reduceAdd, Nat.reduceSub, Nat.reduceMul, reduceCtorEq, Int.reduceToNat, Int.reduceNeg, List.take_length, ← List.map_append] <;> first | rfl | omega | simp | simp_all
  have s_11101000000 : ∀ ρ, keepC [1, 3, 4, 5, 7] ρ = mkE O [(1, .bx (eRoute r)), (3, .row 62 2 []), (4, .bp 1 4), (5, encS r.fPoints), (7, .bp 1 9)] → Y 7 #[true, true, true, false, true, false, false, false, false, false, false] ρ := by
    intro ρ hρ
    clear s_11111111111 s_11111111110 s_11111111100 s_11111111000 s_11111101100 s_11111110000 s_11111101000 s_11111001100 s_11101101100 s_11111100000 s_11111001000 s_11110001100 s_11101101000 s_11101001100 s_11001101100 s_01101101100 s_11110001000 s_11100001100 s_11001101000 s_11001001100 s_10001101100 s_01101101000 s_01101001100 s_01001101100
    refine hY 6 _ [1, 3, 4, 5, 7] [3, 5, 7] _ (by kernel_rfl) rfl ⟨?_, ?_, ?_, trivial⟩
    · show opX _ _ _ _ _ _
      rw [hρ]
      refine opX_of (f := false) rfl (by decide) ?_
      simp (disch := omega) only [go_sem, ↓reduceIte, Nat.reduceEqDiff, Nat.reduceLT, Nat.reduceLeDiff, Nat.reduceAdd, Nat.reduceSub, Nat.reduceMul, reduceCtorEq, Int.reduceToNat, Int.reduceNeg, List.take_length, ← List.map_append]
      repeat refine And.intro (by first | omega | assumption | (simp only [List.length_append, List.length_cons, List.length_nil]; omega) | (intros; first | omega | assumption | (simp_all; done) | grind)) ?_   -- r1.1
      refine s_11111000000 _ ?_
      simp (disch := omega) only [go_sem, ↓reduceIte, Nat.reduceEqDiff, Nat.reduceLT, Nat.reduceLeDiff, Nat.reduceAdd, Nat.reduceSub, Nat.reduceMul, reduceCtorEq, Int.reduceToNat, Int.reduceNeg, List.take_length, ← List.map_append] <;> first | rfl | omega | simp | simp_all
    · show opX _ _ _ _ _ _
      rw [hρ]
      refine opX_of (f := false) rfl (by decide) ?_
      simp (disch := omega) only [go_sem, ↓reduceIte, Nat.reduceEqDiff, Nat.reduceLT, Nat.reduceLeDiff, Nat.reduceAdd, Nat.reduceSub, Nat.reduceMul, reduceCtorEq, Int.reduceToNat, Int.reduceNeg, List.take_length, ← List.map_append]
      repeat refine And.intro (by first | omega | assumption | (simp only [List.length_append, List.length_cons, List.length_nil]; omega) | (intros; first | omega | assumption | (simp_all; done) | grind)) ?_   -- r1.1
      refine s_11101100000 _ ?_
      simp (disch := omega) only [go_sem, ↓reduceIte, Nat.reduceEqDiff, Nat.reduceLT, Nat.reduceLeDiff, Nat.reduceAdd, Nat.reduceSub, Nat.reduceMul, reduceCtorEq, Int.reduceToNat, Int.reduceNeg, List.take_length, ← List.map_append] <;> first | rfl | omega | simp | simp_all
    · show opX _ _ _ _ _ _
      rw [hρ]
      refine opX_of (f := false) rfl (by decide) ?_
      simp (disch := omega) only [go_sem, ↓reduceIte, Nat.reduceEqDiff, Nat.reduceLT, Nat.reduceLeDiff, Nat.reduceAdd, Nat.reduceSub, Nat.reduceMul, reduceCtorEq, Int.reduceToNat, Int.reduceNeg, List.take_length, ← List.map_append]
      repeat refine And.intro (by first | omega | assumption | (simp only [List.length_append, List.length_cons, List.length_nil]; omega) | (intros; first | omega | assumption | (simp_all; done) | grind)) ?_   -- r1.1
      refine s_11101001000 _ ?_
      simp (disch := omega) only [go_sem, ↓reduceIte, Nat.reduceEqDiff, Nat.reduceLT, Nat.reduceLeDiff, Nat.reduceAdd, Nat.reduceSub, Nat.reduceMul, reduceCtorEq, Int.reduceToNat, Int.reduceNeg, List.take_length, ← List.map_append] <;> first | rfl | omega | simp | simp_all
  have s_11100001000 : ∀ ρ, keepC [1, 3, 4, 5, 10] ρ = mkE O [(1, .bx (eRoute r)), (3, .row 62 2 []), (4, .bp 1 4), (5, encS r.fPoints), (10, .bp 1 11)] → Y 7 #[true, true, true, false, false, false, false, true, false, false, false] ρ := by
    intro ρ hρ
    clear s_11111111111 s_11111111110 s_11111111100 s_11111111000 s_11111101100 s_11111110000 s_11111101000 s_11111001100 s_11101101100 s_11111100000 s_11111001000 s_11110001100 s_11101101000 s_11101001100 s_11001101100 s_01101101100 s_11111000000 s_11101100000 s_11001101000 s_11001001100 s_10001101100 s_01101101000 s_01101001100 s_01001101100
    refine hY 6 _ [1, 3, 4, 5, 10] [3, 4, 8] _ (by kernel_rfl) rfl ⟨?_, ?_, ?_, trivial⟩
    · show opX _ _ _ _ _ _
      rw [hρ]
      refine opX_of (f := false) rfl (by decide) ?_
      simp (disch := omega) only [go_sem, ↓reduceIte, Nat.reduceEqDiff, Nat.reduceLT, Nat.reduceLeDiff, Nat.reduceAdd, Nat.reduceSub, Nat.reduceMul, reduceCtorEq, Int.reduceToNat, Int.reduceNeg, List.take_length, ← List.map_append]
      repeat refine And.intro (by first | omega | assumption | (simp only [List.length_append, List.length_cons, List.length_nil]; omega) | (intros; first | omega | assumption | (simp_all; done) | grind)) ?_   -- r1.1
      refine s_11110001000 _ ?_
      simp (disch := omega) only [go_sem, ↓reduceIte, Nat.reduceEqDiff, Nat.reduceLT, Nat.reduceLeDiff, Nat.reduceAdd, Nat.reduceSub, Nat.reduceMul, reduceCtorEq, Int.reduceToNat, Int.reduceNeg, List.take_length, ← List.map_append] <;> first | rfl | omega | simp | simp_all
    · show opX _ _ _ _ _ _
      rw [hρ]
      refine opX_of (f := false) rfl (by decide) ?_
      simp (disch := omega) only [go_sem, ↓reduceIte, Nat.reduceEqDiff, Nat.reduceLT, Nat.reduceLeDiff, Nat.reduceAdd, Nat.reduceSub, Nat.reduceMul, reduceCtorEq, Int.reduceToNat, Int.reduceNeg, List.take_length, ← List.map_append]
      repeat refine And.intro (by first | omega | assumption | (simp only [List.length_append, List.length_cons, List.length_nil]; omega) | (intros; first | omega | assumption | (simp_all; done) | grind)) ?_   -- r1.1
      refine s_11101001000 _ ?_
      simp (disch := omega) only [go_sem, ↓reduceIte, Nat.reduceEqDiff, Nat.reduceLT, Nat.reduceLeDiff, Nat.reduceAdd, Nat.reduceSub, Nat.reduceMul, reduceCtorEq, Int.reduceToNat, Int.reduceNeg, List.take_length, ← List.map_append] <;> first | rfl | omega | simp | simp_all
    · show opX _ _ _ _ _ _
      rw [hρ]
      refine opX_of (f := false) rfl (by decide) ?_
      simp (disch := omega) only [go_sem, ↓reduceIte, Nat.reduceEqDiff, Nat.reduceLT, Nat.reduceLeDiff, Nat.reduceAdd, Nat.reduceSub, Nat.reduceMul, reduceCtorEq, Int.reduceToNat, Int.reduceNeg, List.take_length, ← List.map_append]
      repeat refine And.intro (by first | omega | assumption | (simp only [List.length_append, List.length_cons, List.length_nil]; omega) | (intros; first | omega | assumption | (simp_all; done) | grind)) ?_   -- r1.1
      refine s_11100001100 _ ?_
      simp (disch := omega) only [go_sem, ↓reduceIte, Nat.reduceEqDiff, Nat.reduceLT, Nat.reduceLeDiff, Nat.reduceAdd, Nat.reduceSub, Nat.reduceMul, reduceCtorEq, Int.reduceToNat, Int.reduceNeg, List.take_length, ← List.map_append] <;> first | rfl | omega | simp | simp_all
  have s_11001100000 : ∀ ρ, keepC [1, 3, 4, 7, 8] ρ = mkE O [(1, .bx (eRoute r)), (3, .row 62 2 []), (4, .bp 1 4), (7, .bp 1 9), (8, encS r.fOverPoints)] → Y 7 #[true, true, false, false, true, true, false, false, false, false, false] ρ := by
    intro ρ hρ
    clear s_11111111111 s_11111111110 s_11111111100 s_11111111000 s_11111101100 s_11111110000 s_11111101000 s_11111001100 s_11101101100 s_11111100000 s_11111001000 s_11110001100 s_11101101000 s_11101001100 s_11001101100 s_01101101100 s_11111000000 s_11110001000 s_11101001000 s_11100001100 s_11001001100 s_10001101100 s_01101101000 s_01101001100 s_01001101100
    refine hY 6 _ [1, 3, 4, 7, 8] [2, 7] _ (by kernel_rfl) rfl ⟨?_, ?_, trivial⟩
    · show opX _ _ _ _ _ _
      rw [hρ]
      refine opX_of (f := false) rfl (by decide) ?_
      simp (disch := omega) only [go_sem, ↓reduceIte, Nat.reduceEqDiff, Nat.reduceLT, Nat.reduceLeDiff, Nat.reduceAdd, Nat.reduceSub, Nat.reduceMul, reduceCtorEq, Int.reduceToNat, Int.reduceNeg, List.take_length, ← List.map_append]
      repeat refine And.intro (by first | omega | assumption | (simp only [List.length_append, List.length_cons, List.length_nil]; omega) | (intros; first | omega | assumption | (simp_all; done) | grind)) ?_   -- r1.1
      refine s_11101100000 _ ?_
      simp (disch := omega) only [go_sem, ↓reduceIte, Nat.reduceEqDiff, Nat.reduceLT, Nat.reduceLeDiff, Nat.reduceAdd, Nat.reduceSub, Nat.reduceMul, reduceCtorEq, Int.reduceToNat, Int.reduceNeg, List.take_length, ← List.map_append] <;> first | rfl | omega | simp | simp_all
    · show opX _ _ _ _ _ _
      rw [hρ]
      refine opX_of (f := false) rfl (by decide) ?_
      simp (disch := omega) only [go_sem, ↓reduceIte, Nat.reduceEqDiff, Nat.reduceLT, Nat.reduceLeDiff, Nat.reduceAdd, Nat.reduceSub, Nat.reduceMul, reduceCtorEq, Int.reduceToNat, Int.reduceNeg, List.take_length, ← List.map_append]
      repeat refine And.intro (by first | omega | assumption | (simp only [List.length_append, List.length_cons, List.length_nil]; omega) | (intros; first | omega | assumption | (simp_all; done) | grind)) ?_   -- r1.1
      refine s_11001101000 _ ?_
      simp (disch := omega) only [go_sem, ↓reduceIte, Nat.reduceEqDiff, Nat.reduceLT, Nat.reduceLeDiff, Nat.reduceAdd, Nat.reduceSub, Nat.reduceMul, reduceCtorEq, Int.reduceToNat, Int.reduceNeg, List.take_length, ← List.map_append] <;> first | rfl | omega | simp | simp_all
  have s_11001001000 : ∀ ρ, keepC [1, 3, 4, 7, 10] ρ = mkE O [(1, .bx (eRoute r)), (3, .row 62 2 []), (4, .bp 1 4), (7, .bp 1 9), (10, .bp 1 11)] → Y 7 #[true, true, false, false, true, false, false, true, false, false, false] ρ := by
    intro ρ hρ
    clear s_11111111111 s_11111111110 s_11111111100 s_11111111000 s_11111101100 s_11111110000 s_11111101000 s_11111001100 s_11101101100 s_11111100000 s_11111001000 s_11110001100 s_11101101000 s_11101001100 s_11001101100 s_01101101100 s_11111000000 s_11110001000 s_11101100000 s_11100001100 s_10001101100 s_01101101000 s_01101001100 s_01001101100
    refine hY 6 _ [1, 3, 4, 7, 10] [2, 5, 8] _ (by kernel_rfl) rfl ⟨?_, ?_, ?_, trivial⟩
    · show opX _ _ _ _ _ _
      rw [hρ]
      refine opX_of (f := false) rfl (by decide) ?_
      simp (disch := omega) only [go_sem, ↓reduceIte, Nat.reduceEqDiff, Nat.reduceLT, Nat.reduceLeDiff, Nat.reduceAdd, Nat.reduceSub, Nat.reduceMul, reduceCtorEq, Int.reduceToNat, Int.reduceNeg, List.take_length, ← List.map_append]
      repeat refine And.intro (by first | omega | assumption | (simp only [List.length_append, List.length_cons, List.length_nil]; omega) | (intros; first | omega | assumption | (simp_all; done) | grind)) ?_   -- r1.1
      refine s_11101001000 _ ?_
      simp (disch := omega) only [go_sem, ↓reduceIte, Nat.reduceEqDiff, Nat.reduceLT, Nat.reduceLeDiff, Nat.reduceAdd, Nat.reduceSub, Nat.reduceMul, reduceCtorEq, Int.reduceToNat, Int.reduceNeg, List.take_length, ← List.map_append] <;> first | rfl | omega | simp | simp_all
    · show opX _ _ _ _ _ _
      rw [hρ]
      refine opX_of (f := false) rfl (by decide) ?_
      simp (disch := omega) only [go_sem, ↓reduceIte, Nat.reduceEqDiff, Nat.reduceLT, Nat.reduceLeDiff, Nat.reduceAdd, Nat.reduceSub, Nat.reduceMul, reduceCtorEq, Int.reduceToNat, Int.reduceNeg, List.take_length, ← List.map_append]
      repeat refine And.intro (by first | omega | assumption | (simp only [List.length_append, List.length_cons, List.length_nil]; omega) | (intros; first | omega | assumption | (simp_all; done) | grind)) ?_   -- r1.1
      refine s_11001101000 _ ?_
      simp (disch := omega) only [go_sem, ↓reduceIte, Nat.reduceEqDiff, Nat.reduceLT, Nat.reduceLeDiff, Nat.reduceAdd, Nat.reduceSub, Nat.reduceMul, reduceCtorEq, Int.reduceToNat, Int.reduceNeg, List.take_length, ← List.map_append] <;> first | rfl | omega | simp | simp_all
    · show opX _ _ _ _ _ _
      rw [hρ]
      refine opX_of (f := false) rfl (by decide) ?_
      simp (disch := omega) only [go_sem, ↓reduceIte, Nat.reduceEqDiff, Nat.reduceLT, Nat.reduceLeDiff, Nat.reduceAdd, Nat.reduceSub, Nat.reduceMul, reduceCtorEq, Int.reduceToNat, Int.reduceNeg, List.take_length, ← List.map_append]
      repeat refine And.intro (by first | omega | assumption | (simp only [List.length_append, List.length_cons, List.length_nil]; omega) | (intros; first | omega | assumption | (simp_all; done) | grind)) ?_   -- r1.1
      refine s_11001001100 _ ?_
      simp (disch := omega) only [go_sem, ↓reduceIte, Nat.reduceEqDiff, Nat.reduceLT, Nat.reduceLeDiff, Nat.reduceAdd, Nat.reduceSub, Nat.reduceMul, reduceCtorEq, Int.reduceToNat, Int.reduceNeg, List.take_length, ← List.map_append] <;> first | rfl | omega | simp | simp_all
  have s_11000001100 : ∀ ρ, keepC [1, 3, 4, 10, 11] ρ = mkE O [(1, .bx (eRoute r)), (3, .row 62 2 []), (4, .bp 1 4), (10, .bp 1 11), (11, encS r.fFlank)] → Y 7 #[true, true, false, false, false, false, false, true, true, false, false] ρ := by
    intro ρ hρ
    clear s_11111111111 s_11111111110 s_11111111100 s_11111111000 s_11111101100 s_11111110000 s_11111101000 s_11111001100 s_11101101100 s_11111100000 s_11111001000 s_11110001100 s_11101101000 s_11101001100 s_11001101100 s_01101101100 s_11111000000 s_11110001000 s_11101100000 s_11101001000 s_11001101000 s_10001101100 s_01101101000 s_01101001100 s_01001101100
    refine hY 6 _ [1, 3, 4, 10, 11] [2, 4] _ (by kernel_rfl) rfl ⟨?_, ?_, trivial⟩
    · show opX _ _ _ _ _ _
      rw [hρ]
      refine opX_of (f := false) rfl (by decide) ?_
      simp (disch := omega) only [go_sem, ↓reduceIte, Nat.reduceEqDiff, Nat.reduceLT, Nat.reduceLeDiff, Nat.reduceAdd, Nat.reduceSub, Nat.reduceMul, reduceCtorEq, Int.reduceToNat, Int.reduceNeg, List.take_length, ← List.map_append]
      repeat refine And.intro (by first | omega | assumption | (simp only [List.length_append, List.length_cons, List.length_nil]; omega) | (intros; first | omega | assumption | (simp_all; done) | grind)) ?_   -- r1.1
      refine s_11100001100 _ ?_
      simp (disch := omega) only [go_sem, ↓reduceIte, Nat.reduceEqDiff, Nat.reduceLT, Nat.reduceLeDiff, Nat.reduceAdd, Nat.reduceSub, Nat.reduceMul, reduceCtorEq, Int.reduceToNat, Int.reduceNeg, List.take_length, ← List.map_append] <;> first | rfl | omega | simp | simp_all
    · show opX _ _ _ _ _ _
      rw [hρ]
      refine opX_of (f := false) rfl (by decide) ?_
      simp (disch := omega) only [go_sem, ↓reduceIte, Nat.reduceEqDiff, Nat.reduceLT, Nat.reduceLeDiff, Nat.reduceAdd, Nat.reduceSub, Nat.reduceMul, reduceCtorEq, Int.reduceToNat, Int.reduceNeg, List.take_length, ← List.map_append]
      repeat refine And.intro (by first | omega | assumption | (simp only [List.length_append, List.length_cons, List.length_nil]; omega) | (intros; first | omega | assumption | (simp_all; done) | grind)) ?_   -- r1.1
      refine s_11001001100 _ ?_
      simp (disch := omega) only [go_sem, ↓reduceIte, Nat.reduceEqDiff, Nat.reduceLT, Nat.reduceLeDiff, Nat.reduceAdd, Nat.reduceSub, Nat.reduceMul, reduceCtorEq, Int.reduceToNat, Int.reduceNeg, List.take_length, ← List.map_append] <;> first | rfl | omega | simp | simp_all
  have s_10001101000 : ∀ ρ, keepC [1, 3, 7, 8, 10] ρ = mkE O [(1, .bx (eRoute r)), (3, .row 62 2 []), (7, .bp 1 9), (8, encS r.fOverPoints), (10, .bp 1 11)] → Y 7 #[true, false, false, false, true, true, false, true, false, false, false] ρ := by
    intro ρ hρ
    clear s_11111111111 s_11111111110 s_11111111100 s_11111111000 s_11111101100 s_11111110000 s_11111101000 s_11111001100 s_11101101100 s_11111100000 s_11111001000 s_11110001100 s_11101101000 s_11101001100 s_11001101100 s_01101101100 s_11111000000 s_11110001000 s_11101100000 s_11101001000 s_11100001100 s_11001001100 s_01101101000 s_01101001100 s_01001101100
    refine hY 6 _ [1, 3, 7, 8, 10] [1, 8] _ (by kernel_rfl) rfl ⟨?_, ?_, trivial⟩
    · show opX _ _ _ _ _ _
      rw [hρ]
      refine opX_of (f := false) rfl (by decide) ?_
      simp (disch := omega) only [go_sem, ↓reduceIte, Nat.reduceEqDiff, Nat.reduceLT, Nat.reduceLeDiff, Nat.reduceAdd, Nat.reduceSub, Nat.reduceMul, reduceCtorEq, Int.reduceToNat, Int.reduceNeg, List.take_length, ← List.map_append]
      repeat refine And.intro (by first | omega | assumption | (simp only [List.length_append, List.length_cons, List.length_nil]; omega) | (intros; first | omega | assumption | (simp_all; done) | grind)) ?_   -- r1.1
      refine s_11001101000 _ ?_
      simp (disch := omega) only [go_sem, ↓reduceIte, Nat.reduceEqDiff, Nat.reduceLT, Nat.reduceLeDiff, Nat.reduceAdd, Nat.reduceSub, Nat.reduceMul, reduceCtorEq, Int.reduceToNat, Int.reduceNeg, List.take_length, ← List.map_append] <;> first | rfl | omega | simp | simp_all
    · show opX _ _ _ _ _ _
      rw [hρ]
      refine opX_of (f := false) rfl (by decide) ?_
      simp (disch := omega) only [go_sem, ↓reduceIte, Nat.reduceEqDiff, Nat.reduceLT, Nat.reduceLeDiff, Nat.reduceAdd, Nat.reduceSub, Nat.reduceMul, reduceCtorEq, Int.reduceToNat, Int.reduceNeg, List.take_length, ← List.map_append]
      repeat refine And.intro (by first | omega | assumption | (simp only [List.length_append, List.length_cons, List.length_nil]; omega) | (intros; first | omega | assumption | (simp_all; done) | grind)) ?_   -- r1.1
      refine s_10001101100 _ ?_
      simp (disch := omega) only [go_sem, ↓reduceIte, Nat.reduceEqDiff, Nat.reduceLT, Nat.reduceLeDiff, Nat.reduceAdd, Nat.reduceSub, Nat.reduceMul, reduceCtorEq, Int.reduceToNat, Int.reduceNeg, List.take_length, ← List.map_append] <;> first | rfl | omega | simp | simp_all
  have s_10001001100 : ∀ ρ, keepC [1, 3, 7, 10, 11] ρ = mkE O [(1, .bx (eRoute r)), (3, .row 62 2 []), (7, .bp 1 9), (10, .bp 1 11), (11, encS r.fFlank)] → Y 7 #[true, false, false, false, true, false, false, true, true, false, false] ρ := by
    intro ρ hρ
    clear s_11111111111 s_11111111110 s_11111111100 s_11111111000 s_11111101100 s_11111110000 s_11111101000 s_11111001100 s_11101101100 s_11111100000 s_11111001000 s_11110001100 s_11101101000 s_11101001100 s_11001101100 s_01101101100 s_11111000000 s_11110001000 s_11101100000 s_11101001000 s_11100001100 s_11001101000 s_01101101000 s_01101001100 s_01001101100
    refine hY 6 _ [1, 3, 7, 10, 11] [1, 5] _ (by kernel_rfl) rfl ⟨?_, ?_, trivial⟩
    · show opX _ _ _ _ _ _
      rw [hρ]
      refine opX_of (f := false) rfl (by decide) ?_
      simp (disch := omega) only [go_sem, ↓reduceIte, Nat.reduceEqDiff, Nat.reduceLT, Nat.reduceLeDiff, Nat.reduceAdd, Nat.reduceSub, Nat.reduceMul, reduceCtorEq, Int.reduceToNat, Int.reduceNeg, List.take_length, ← List.map_append]
      repeat refine And.intro (by first | omega | assumption | (simp only [List.length_append, List.length_cons, List.length_nil]; omega) | (intros; first | omega | assumption | (simp_all; done) | grind)) ?_   -- r1.1
      refine s_11001001100 _ ?_
      simp (disch := omega) only [go_sem, ↓reduceIte, Nat.reduceEqDiff, Nat.reduceLT, Nat.reduceLeDiff, Nat.reduceAdd, Nat.reduceSub, Nat.reduceMul, reduceCtorEq, Int.reduceToNat, Int.reduceNeg, List.take_length, ← List.map_append] <;> first | rfl | omega | simp | simp_all
    · show opX _ _ _ _ _ _
      rw [hρ]
      refine opX_of (f := false) rfl (by decide) ?_
      simp (disch := omega) only [go_sem, ↓reduceIte, Nat.reduceEqDiff, Nat.reduceLT, Nat.reduceLeDiff, Nat.reduceAdd, Nat.reduceSub, Nat.reduceMul, reduceCtorEq, Int.reduceToNat, Int.reduceNeg, List.take_length, ← List.map_append]
      repeat refine And.intro (by first | omega | assumption | (simp only [List.length_append, List.length_cons, List.length_nil]; omega) | (intros; first | omega | assumption | (simp_all; done) | grind)) ?_   -- r1.1
      refine s_10001101100 _ ?_
      simp (disch := omega) only [go_sem, ↓reduceIte, Nat.reduceEqDiff, Nat.reduceLT, Nat.reduceLeDiff, Nat.reduceAdd, Nat.reduceSub, Nat.reduceMul, reduceCtorEq, Int.reduceToNat, Int.reduceNeg, List.take_length, ← List.map_append] <;> first | rfl | omega | simp | simp_all
  have s_01101100000 : ∀ ρ, keepC [1, 4, 5, 7, 8] ρ = mkE O [(1, .bx (eRoute r)), (4, .bp 1 4), (5, encS r.fPoints), (7, .bp 1 9), (8, encS r.fOverPoints)] → Y 7 #[false, true, true, false, true, true, false, false, false, false, false] ρ := by
    intro ρ hρ
    clear s_11111111111 s_11111111110 s_11111111100 s_11111111000 s_11111101100 s_11111110000 s_11111101000 s_11111001100 s_11101101100 s_11111100000 s_11111001000 s_11110001100 s_11101101000 s_11101001100 s_11001101100 s_01101101100 s_11111000000 s_11110001000 s_11101001000 s_11100001100 s_11001101000 s_11001001100 s_10001101100 s_01101001100 s_01001101100
    refine hY 6 _ [1, 4, 5, 7, 8] [0, 7] _ (by kernel_rfl) rfl ⟨?_, ?_, trivial⟩
    · show opX _ _ _ _ _ _
      rw [hρ]
      refine opX_of (f := false) rfl (by decide) ?_
      simp (disch := omega) only [go_sem, ↓reduceIte, Nat.reduceEqDiff, Nat.reduceLT, Nat.reduceLeDiff, Nat.reduceAdd, Nat.reduceSub, Nat.reduceMul, reduceCtorEq, Int.reduceToNat, Int.reduceNeg, List.take_length, ← List.map_append]
      repeat refine And.intro (by first | omega | assumption | (simp only [List.length_append, List.length_cons, List.length_nil]; omega) | (intros; first | omega | assumption | (simp_all; done) | grind)) ?_   -- r1.1
      refine s_11101100000 _ ?_
      simp (disch := omega) only [go_sem, ↓reduceIte, Nat.reduceEqDiff, Nat.reduceLT, Nat.reduceLeDiff, Nat.reduceAdd, Nat.reduceSub, Nat.reduceMul, reduceCtorEq, Int.reduceToNat, Int.reduceNeg, List.take_length, ← List.map_append] <;> first | rfl | omega | simp | simp_all
    · show opX _ _ _ _ _ _
      rw [hρ]
      refine opX_of (f := false) rfl (by decide) ?_
      simp (disch := omega) only [go_sem, ↓reduceIte, Nat.reduceEqDiff, Nat.reduceLT, Nat.reduceLeDiff, Nat.reduceAdd, Nat.reduceSub, Nat.reduceMul, reduceCtorEq, Int.reduceToNat, Int.reduceNeg, List.take_length, ← List.map_append]
      repeat refine And.intro (by first | omega | assumption | (simp only [List.length_append, List.length_cons, List.length_nil]; omega) | (intros; first | omega | assumption | (simp_all; done) | grind)) ?_   -- r1.1
      refine s_01101101000 _ ?_
      simp (disch := omega) only [go_sem, ↓reduceIte, Nat.reduceEqDiff, Nat.reduceLT, Nat.reduceLeDiff, Nat.reduceAdd, Nat.reduceSub, Nat.reduceMul, reduceCtorEq, Int.reduceToNat, Int.reduceNeg, List.take_length, ← List.map_append] <;> first | rfl | omega | simp | simp_all
  have s_01101001000 : ∀ ρ, keepC [1, 4, 5, 7, 10] ρ = mkE O [(1, .bx (eRoute r)), (4, .bp 1 4), (5, encS r.fPoints), (7, .bp 1 9), (10, .bp 1 11)] → Y 7 #[false, true, true, false, true, false, false, true, false, false, false] ρ := by
    intro ρ hρ
    clear s_11111111111 s_11111111110 s_11111111100 s_11111111000 s_11111101100 s_11111110000 s_11111101000 s_11111001100 s_11101101100 s_11111100000 s_11111001000 s_11110001100 s_11101101000 s_11101001100 s_11001101100 s_01101101100 s_11111000000 s_11110001000 s_11101100000 s_11100001100 s_11001101000 s_11001001100 s_10001101100 s_01001101100
    refine hY 6 _ [1, 4, 5, 7, 10] [0, 5, 8] _ (by kernel_rfl) rfl ⟨?_, ?_, ?_, trivial⟩
    · show opX _ _ _ _ _ _
      rw [hρ]
      refine opX_of (f := false) rfl (by decide) ?_
      simp (disch := omega) only [go_sem, ↓reduceIte, Nat.reduceEqDiff, Nat.reduceLT, Nat.reduceLeDiff, Nat.reduceAdd, Nat.reduceSub, Nat.reduceMul, reduceCtorEq, Int.reduceToNat, Int.reduceNeg, List.take_length, ← List.map_append]
      repeat refine And.intro (by first | omega | assumption | (simp only [List.length_append, List.length_cons, List.length_nil]; omega) | (intros; first | omega | assumption | (simp_all; done) | grind)) ?_   -- r1.1
      refine s_11101001000 _ ?_
      simp (disch := omega) only [go_sem, ↓reduceIte, Nat.reduceEqDiff, Nat.reduceLT, Nat.reduceLeDiff, Nat.reduceAdd, Nat.reduceSub, Nat.reduceMul, reduceCtorEq, Int.reduceToNat, Int.reduceNeg, List.take_length, ← List.map_append] <;> first | rfl | omega | simp | simp_all
    · show opX _ _ _ _ _ _
      rw [hρ]
      refine opX_of (f := false) rfl (by decide) ?_
      simp (disch := omega) only [go_sem, ↓reduceIte, Nat.reduceEqDiff, Nat.reduceLT, Nat.reduceLeDiff, Nat.reduceAdd, Nat.reduceSub, Nat.reduceMul, reduceCtorEq, Int.reduceToNat, Int.reduceNeg, List.take_length, ← List.map_append]
      repeat refine And.intro (by first | omega | assumption | (simp only [List.length_append, List.length_cons, List.length_nil]; omega) | (intros; first | omega | assumption | (simp_all; done) | grind)) ?_   -- r1.1
      refine s_01101101000 _ ?_
      simp (disch := omega) only [go_sem, ↓reduceIte, Nat.reduceEqDiff, Nat.reduceLT, Nat.reduceLeDiff, Nat.reduceAdd, Nat.reduceSub, Nat.reduceMul, reduceCtorEq, Int.reduceToNat, Int.reduceNeg, List.take_length, ← List.map_append] <;> first | rfl | omega | simp | simp_all
    · show opX _ _ _ _ _ _
      rw [hρ]
      refine opX_of (f := false) rfl (by decide) ?_
      simp (disch := omega) only [go_sem, ↓reduceIte, Nat.reduceEqDiff, Nat.reduceLT, Nat.reduceLeDiff, Nat.reduceAdd, Nat.reduceSub, Nat.reduceMul, reduceCtorEq, Int.reduceToNat, Int.reduceNeg, List.take_length, ← List.map_append]
      repeat refine And.intro (by first | omega | assumption | (simp only [List.length_append, List.length_cons, List.length_nil]; omega) | (intros; first | omega | assumption | (simp_all; done) | grind)) ?_   -- r1.1
      refine s_01101001100 _ ?_
      simp (disch := omega) only [go_sem, ↓reduceIte, Nat.reduceEqDiff, Nat.reduceLT, Nat.reduceLeDiff, Nat.reduceAdd, Nat.reduceSub, Nat.reduceMul, reduceCtorEq, Int.reduceToNat, Int.reduceNeg, List.take_length, ← List.map_append] <;> first | rfl | omega | simp | simp_all
  have s_01100001100 : ∀ ρ, keepC [1, 4, 5, 10, 11] ρ = mkE O [(1, .bx (eRoute r)), (4, .bp 1 4), (5, encS r.fPoints), (10, .bp 1 11), (11, encS r.fFlank)] → Y 7 #[false, true, true, false, false, false, false, true, true, false, false] ρ := by
    intro ρ hρ
    clear s_11111111111 s_11111111110 s_11111111100 s_11111111000 s_11111101100 s_11111110000 s_11111101000 s_11111001100 s_11101101100 s_11111100000 s_11111001000 s_11110001100 s_11101101000 s_11101001100 s_11001101100 s_01101101100 s_11111000000 s_11110001000 s_11101100000 s_11101001000 s_11001101000 s_11001001100 s_10001101100 s_01101101000 s_01001101100
    refine hY 6 _ [1, 4, 5, 10, 11] [0, 4] _ (by kernel_rfl) rfl ⟨?_, ?_, trivial⟩
    · show opX _ _ _ _ _ _
      rw [hρ]
      refine opX_of (f := false) rfl (by decide) ?_
      simp (disch := omega) only [go_sem, ↓reduceIte, Nat.reduceEqDiff, Nat.reduceLT, Nat.reduceLeDiff, Nat.reduceAdd, Nat.reduceSub, Nat.reduceMul, reduceCtorEq, Int.reduceToNat, Int.reduceNeg, List.take_length, ← List.map_append]
      repeat refine And.intro (by first | omega | assumption | (simp only [List.length_append, List.length_cons, List.length_nil]; omega) | (intros; first | omega | assumption | (simp_all; done) | grind)) ?_   -- r1.1
      refine s_11100001100 _ ?_
      simp (disch := omega) only [go_sem, ↓reduceIte, Nat.reduceEqDiff, Nat.reduceLT, Nat.reduceLeDiff, Nat.reduceAdd, Nat.reduceSub, Nat.reduceMul, reduceCtorEq, Int.reduceToNat, Int.reduceNeg, List.take_length, ← List.map_append] <;> first | rfl | omega | simp | simp_all
    · show opX _ _ _ _ _ _
      rw [hρ]
      refine opX_of (f := false) rfl (by decide) ?_
      simp (disch := omega) only [go_sem, ↓reduceIte, Nat.reduceEqDiff, Nat.reduceLT, Nat.reduceLeDiff, Nat.reduceAdd, Nat.reduceSub, Nat.reduceMul, reduceCtorEq, Int.reduceToNat, Int.reduceNeg, List.take_length, ← List.map_append]
      repeat refine And.intro (by first | omega | assumption | (simp only [List.length_append, List.length_cons, List.length_nil]; omega) | (intros; first | omega | assumption | (simp_all; done) | grind)) ?_   -- r1.1
      refine s_01101001100 _ ?_
      simp (disch := omega) only [go_sem, ↓reduceIte, Nat.reduceEqDiff, Nat.reduceLT, Nat.reduceLeDiff, Nat.reduceAdd, Nat.reduceSub, Nat.reduceMul, reduceCtorEq, Int.reduceToNat, Int.reduceNeg, List.take_length, ← List.map_append] <;> first | rfl | omega | simp | simp_all
  have s_01001101000 : ∀ ρ, keepC [1, 4, 7, 8, 10] ρ = mkE O [(1, .bx (eRoute r)), (4, .bp 1 4), (7, .bp 1 9), (8, encS r.fOverPoints), (10, .bp 1 11)] → Y 7 #[false, true, false, false, true, true, false, true, false, false, false] ρ := by
    intro ρ hρ
    clear s_11111111111 s_11111111110 s_11111111100 s_11111111000 s_11111101100 s_11111110000 s_11111101000 s_11111001100 s_11101101100 s_11111100000 s_11111001000 s_11110001100 s_11101101000 s_11101001100 s_11001101100 s_01101101100 s_11111000000 s_11110001000 s_11101100000 s_11101001000 s_11100001100 s_11001001100 s_10001101100 s_01101001100
    refine hY 6 _ [1, 4, 7, 8, 10] [0, 2, 8] _ (by kernel_rfl) rfl ⟨?_, ?_, ?_, trivial⟩
    · show opX _ _ _ _ _ _
      rw [hρ]
      refine opX_of (f := false) rfl (by decide) ?_
      simp (disch := omega) only [go_sem, ↓reduceIte, Nat.reduceEqDiff, Nat.reduceLT, Nat.reduceLeDiff, Nat.reduceAdd, Nat.reduceSub, Nat.reduceMul, reduceCtorEq, Int.reduceToNat, Int.reduceNeg, List.take_length, ← List.map_append]
      repeat refine And.intro (by first | omega | assumption | (simp only [List.length_append, List.length_cons, List.length_nil]; omega) | (intros; first | omega | assumption | (simp_all; done) | grind)) ?_   -- r1.1
      refine s_11001101000 _ ?_
      simp (disch := omega) only [go_sem, ↓reduceIte, Nat.reduceEqDiff, Nat.reduceLT, Nat.reduceLeDiff, Nat.reduceAdd, Nat.reduceSub, Nat.reduceMul, reduceCtorEq, Int.reduceToNat, Int.reduceNeg, List.take_length, ← List.map_append] <;> first | rfl | omega | simp | simp_all
    · show opX _ _ _ _ _ _
      rw [hρ]
      refine opX_of (f := false) rfl (by decide) ?_
      simp (disch := omega) only [go_sem, ↓reduceIte, Nat.reduceEqDiff, Nat.reduceLT, Nat.reduceLeDiff, Nat.reduceAdd, Nat.reduceSub, Nat.reduceMul, reduceCtorEq, Int.reduceToNat, Int.reduceNeg, List.take_length, ← List.map_append]
      repeat refine And.intro (by first | omega | assumption | (simp only [List.length_append, List.length_cons, List.length_nil]; omega) | (intros; first | omega | assumption | (simp_all; done) | grind)) ?_   -- r1.1
      refine s_01101101000 _ ?_
      simp (disch := omega) only [go_sem, ↓reduceIte, Nat.reduceEqDiff, Nat.reduceLT, Nat.reduceLeDiff, Nat.reduceAdd, Nat.reduceSub, Nat.reduceMul, reduceCtorEq, Int.reduceToNat, Int.reduceNeg, List.take_length, ← List.map_append] <;> first | rfl | omega | simp | simp_all
    · show opX _ _ _ _ _ _
      rw [hρ]
      refine opX_of (f := false) rfl (by decide) ?_
      simp (disch := omega) only [go_sem, ↓reduceIte, Nat.reduceEqDiff, Nat.reduceLT, Nat.reduceLeDiff, Nat.reduceAdd, Nat.reduceSub, Nat.reduceMul, reduceCtorEq, Int.reduceToNat, Int.reduceNeg, List.take_length, ← List.map_append]
      repeat refine And.intro (by first | omega | assumption | (simp only [List.length_append, List.length_cons, List.length_nil]; omega) | (intros; first | omega | assumption | (simp_all; done) | grind)) ?_   -- r1.1
      refine s_01001101100 _ ?_
      simp (disch := omega) only [go_sem, ↓reduceIte, Nat.reduceEqDiff, Nat.reduceLT, Nat.reduceLeDiff, Nat.reduceAdd, Nat.reduceSub, Nat.reduceMul, reduceCtorEq, Int.reduceToNat, Int.reduceNeg, List.take_length, ← List.map_append] <;> first | rfl | omega | simp | simp_all
  have s_01001001100 : ∀ ρ, keepC [1, 4, 7, 10, 11] ρ = mkE O [(1, .bx (eRoute r)), (4, .bp 1 4), (7, .bp 1 9), (10, .bp 1 11), (11, encS r.fFlank)] → Y 7 #[false, true, false, false, true, false, false, true, true, false, false] ρ := by
    intro ρ hρ
    clear s_11111111111 s_11111111110 s_11111111100 s_11111111000 s_11111101100 s_11111110000 s_11111101000 s_11111001100 s_11101101100 s_11111100000 s_11111001000 s_11110001100 s_11101101000 s_11101001100 s_11001101100 s_01101101100 s_11111000000 s_11110001000 s_11101100000 s_11101001000 s_11100001100 s_11001101000 s_10001101100 s_01101101000
    refine hY 6 _ [1, 4, 7, 10, 11] [0, 2, 5] _ (by kernel_rfl) rfl ⟨?_, ?_, ?_, trivial⟩
    · show opX _ _ _ _ _ _
      rw [hρ]
      refine opX_of (f := false) rfl (by decide) ?_
      simp (disch := omega) only [go_sem, ↓reduceIte, Nat.reduceEqDiff, Nat.reduceLT, Nat.reduceLeDiff, Nat.reduceAdd, Nat.reduceSub, Nat.reduceMul, reduceCtorEq, Int.reduceToNat, Int.reduceNeg, List.take_length, ← List.map_append]
      repeat refine And.intro (by first | omega | assumption | (simp only [List.length_append, List.length_cons, List.length_nil]; omega) | (intros; first | omega | assumption | (simp_all; done) | grind)) ?_   -- r1.1
      refine s_11001001100 _ ?_
      simp (disch := omega) only [go_sem, ↓reduceIte, Nat.reduceEqDiff, Nat.reduceLT, Nat.reduceLeDiff, Nat.reduceAdd, Nat.reduceSub, Nat.reduceMul, reduceCtorEq, Int.reduceToNat, Int.reduceNeg, List.take_length, ← List.map_append] <;> first | rfl | omega | simp | simp_all
    · show opX _ _ _ _ _ _
      rw [hρ]
      refine opX_of (f := false) rfl (by decide) ?_
      simp (disch := omega) only [go_sem, ↓reduceIte, Nat.reduceEqDiff, Nat.reduceLT, Nat.reduceLeDiff, Nat.reduceAdd, Nat.reduceSub, Nat.reduceMul, reduceCtorEq, Int.reduceToNat, Int.reduceNeg, List.take_length, ← List.map_append]
      repeat refine And.intro (by first | omega | assumption | (simp only [List.length_append, List.length_cons, List.length_nil]; omega) | (intros; first | omega | assumption | (simp_all; done) | grind)) ?_   -- r1.1
      refine s_01101001100 _ ?_
      simp (disch := omega) only [go_sem, ↓reduceIte, Nat.reduceEqDiff, Nat.reduceLT, Nat.reduceLeDiff, Nat.reduceAdd, Nat.reduceSub, Nat.reduceMul, reduceCtorEq, Int.reduceToNat, Int.reduceNeg, List.take_length, ← List.map_append] <;> first | rfl | omega | simp | simp_all
    · show opX _ _ _ _ _ _
      rw [hρ]
      refine opX_of (f := false) rfl (by decide) ?_
      simp (disch := omega) only [go_sem, ↓reduceIte, Nat.reduceEqDiff, Nat.reduceLT, Nat.reduceLeDiff, Nat.reduceAdd, Nat.reduceSub, Nat.reduceMul, reduceCtorEq, Int.reduceToNat, Int.reduceNeg, List.take_length, ← List.map_append]
      repeat refine And.intro (by first | omega | assumption | (simp only [List.length_append, List.length_cons, List.length_nil]; omega) | (intros; first | omega | assumption | (simp_all; done) | grind)) ?_   -- r1.1
      refine s_01001101100 _ ?_
      simp (disch := omega) only [go_sem, ↓reduceIte, Nat.reduceEqDiff, Nat.reduceLT, Nat.reduceLeDiff, Nat.reduceAdd, Nat.reduceSub, Nat.reduceMul, reduceCtorEq, Int.reduceToNat, Int.reduceNeg, List.take_length, ← List.map_append] <;> first | rfl | omega | simp | simp_all
  have s_00001101100 : ∀ ρ, keepC [1, 7, 8, 10, 11] ρ = mkE O [(1, .bx (eRoute r)), (7, .bp 1 9), (8, encS r.fOverPoints), (10, .bp 1 11), (11, encS r.fFlank)] → Y 7 #[false, false, false, false, true, true, false, true, true, false, false] ρ := by
    intro ρ hρ
    clear s_11111111111 s_11111111110 s_11111111100 s_11111111000 s_11111101100 s_11111110000 s_11111101000 s_11111001100 s_11101101100 s_11111100000 s_11111001000 s_11110001100 s_11101101000 s_11101001100 s_11001101100 s_01101101100 s_11111000000 s_11110001000 s_11101100000 s_11101001000 s_11100001100 s_11001101000 s_11001001100 s_01101101000 s_01101001100
    refine hY 6 _ [1, 7, 8, 10, 11] [0, 1] _ (by kernel_rfl) rfl ⟨?_, ?_, trivial⟩
    · show opX _ _ _ _ _ _
      rw [hρ]
      refine opX_of (f := false) rfl (by decide) ?_
      simp (disch := omega) only [go_sem, ↓reduceIte, Nat.reduceEqDiff, Nat.reduceLT, Nat.reduceLeDiff, Nat.reduceAdd, Nat.reduceSub, Nat.reduceMul, reduceCtorEq, Int.reduceToNat, Int.reduceNeg, List.take_length, ← List.map_append]
      repeat refine And.intro (by first | omega | assumption | (simp only [List.length_append, List.length_cons, List.length_nil]; omega) | (intros; first | omega | assumption | (simp_all; done) | grind)) ?_   -- r1.1
      refine s_10001101100 _ ?_
      simp (disch := omega) only [go_sem, ↓reduceIte, Nat.reduceEqDiff, Nat.reduceLT, Nat.reduceLeDiff, Nat.reduceAdd, Nat.reduceSub, Nat.reduceMul, reduceCtorEq, Int.reduceToNat, Int.reduceNeg, List.take_length, ← List.map_append] <;> first | rfl | omega | simp | simp_all
    · show opX _ _ _ _ _ _
      rw [hρ]
      refine opX_of (f := false) rfl (by decide) ?_
      simp (disch := omega) only [go_sem, ↓reduceIte, Nat.reduceEqDiff, Nat.reduceLT, Nat.reduceLeDiff, Nat.reduceAdd, Nat.reduceSub, Nat.reduceMul, reduceCtorEq, Int.reduceToNat, Int.reduceNeg, List.take_length, ← List.map_append]
      repeat refine And.intro (by first | omega | assumption | (simp only [List.length_append, List.length_cons, List.length_nil]; omega) | (intros; first | omega | assumption | (simp_all; done) | grind)) ?_   -- r1.1
      refine s_01001101100 _ ?_
      simp (disch := omega) only [go_sem, ↓reduceIte, Nat.reduceEqDiff, Nat.reduceLT, Nat.reduceLeDiff, Nat.reduceAdd, Nat.reduceSub, Nat.reduceMul, reduceCtorEq, Int.reduceToNat, Int.reduceNeg, List.take_length, ← List.map_append] <;> first | rfl | omega | simp | simp_all
  have s_11100000000 : ∀ ρ, keepC [1, 3, 4, 5] ρ = mkE O [(1, .bx (eRoute r)), (3, .row 62 2 []), (4, .bp 1 4), (5, encS r.fPoints)] → Y 8 #[true, true, true, false, false, false, false, false, false, false, false] ρ := by
    intro ρ hρ
    clear s_11111111111 s_11111111110 s_11111111100 s_11111111000 s_11111101100 s_11111110000 s_11111101000 s_11111001100 s_11101101100 s_11111100000 s_11111001000 s_11110001100 s_11101101000 s_11101001100 s_11001101100 s_01101101100 s_11111000000 s_11110001000 s_11101100000 s_11101001000 s_11100001100 s_11001101000 s_11001001100 s_10001101100 s_01101101000 s_01101001100 s_01001101100 s_11001100000 s_11001001000 s_11000001100 s_10001101000 s_10001001100 s_01101100000 s_01101001000 s_01100001100 s_01001101000 s_01001001100 s_00001101100
    refine hY 7 _ [1, 3, 4, 5] [3, 4, 7] _ (by kernel_rfl) rfl ⟨?_, ?_, ?_, trivial⟩
    · show opX _ _ _ _ _ _
      rw [hρ]
      refine opX_of (f := false) rfl (by decide) ?_
      simp (disch := omega) only [go_sem, ↓reduceIte, Nat.reduceEqDiff, Nat.reduceLT, Nat.reduceLeDiff, Nat.reduceAdd, Nat.reduceSub, Nat.reduceMul, reduceCtorEq, Int.reduceToNat, Int.reduceNeg, List.take_length, ← List.map_append]
      repeat refine And.intro (by first | omega | assumption | (simp only [List.length_append, List.length_cons, List.length_nil]; omega) | (intros; first | omega | assumption | (simp_all; done) | grind)) ?_   -- r1.1
      refine s_11110000000 _ ?_
      simp (disch := omega) only [go_sem, ↓reduceIte, Nat.reduceEqDiff, Nat.reduceLT, Nat.reduceLeDiff, Nat.reduceAdd, Nat.reduceSub, Nat.reduceMul, reduceCtorEq, Int.reduceToNat, Int.reduceNeg, List.take_length, ← List.map_append] <;> first | rfl | omega | simp | simp_all
    · show opX _ _ _ _ _ _
      rw [hρ]
      refine opX_of (f := false) rfl (by decide) ?_
      simp (disch := omega) only [go_sem, ↓reduceIte, Nat.reduceEqDiff, Nat.reduceLT, Nat.reduceLeDiff, Nat.reduceAdd, Nat.reduceSub, Nat.reduceMul, reduceCtorEq, Int.reduceToNat, Int.reduceNeg, List.take_length, ← List.map_append]
      repeat refine And.intro (by first | omega | assumption | (simp only [List.length_append, List.length_cons, List.length_nil]; omega) | (intros; first | omega | assumption | (simp_all; done) | grind)) ?_   -- r1.1
      refine s_11101000000 _ ?_
      simp (disch := omega) only [go_sem, ↓reduceIte, Nat.reduceEqDiff, Nat.reduceLT, Nat.reduceLeDiff, Nat.reduceAdd, Nat.reduceSub, Nat.reduceMul, reduceCtorEq, Int.reduceToNat, Int.reduceNeg, List.take_length, ← List.map_append] <;> first | rfl | omega | simp | simp_all
    · show opX _ _ _ _ _ _
      rw [hρ]
      refine opX_of (f := false) rfl (by decide) ?_
      simp (disch := omega) only [go_sem, ↓reduceIte, Nat.reduceEqDiff, Nat.reduceLT, Nat.reduceLeDiff, Nat.reduceAdd, Nat.reduceSub, Nat.reduceMul, reduceCtorEq, Int.reduceToNat, Int.reduceNeg, List.take_length, ← List.map_append]
      repeat refine And.intro (by first | omega | assumption | (simp only [List.length_append, List.length_cons, List.length_nil]; omega) | (intros; first | omega | assumption | (simp_all; done) | grind)) ?_   -- r1.1
      refine s_11100001000 _ ?_
      simp (disch := omega) only [go_sem, ↓reduceIte, Nat.reduceEqDiff, Nat.reduceLT, Nat.reduceLeDiff, Nat.reduceAdd, Nat.reduceSub, Nat.reduceMul, reduceCtorEq, Int.reduceToNat, Int.reduceNeg, List.take_length, ← List.map_append] <;> first | rfl | omega | simp | simp_all
  have s_11001000000 : ∀ ρ, keepC [1, 3, 4, 7] ρ = mkE O [(1, .bx (eRoute r)), (3, .row 62 2 []), (4, .bp 1 4), (7, .bp 1 9)] → Y 8 #[true, true, false, false, true, false, false, false, false, false, false] ρ := by
    intro ρ hρ
    clear s_11111111111 s_11111111110 s_11111111100 s_11111111000 s_11111101100 s_11111110000 s_11111101000 s_11111001100 s_11101101100 s_11111100000 s_11111001000 s_11110001100 s_11101101000 s_11101001100 s_11001101100 s_01101101100 s_11111000000 s_11110001000 s_11101100000 s_11101001000 s_11100001100 s_11001101000 s_11001001100 s_10001101100 s_01101101000 s_01101001100 s_01001101100 s_11110000000 s_11100001000 s_11000001100 s_10001101000 s_10001001100 s_01101100000 s_01101001000 s_01100001100 s_01001101000 s_01001001100 s_00001101100
    refine hY 7 _ [1, 3, 4, 7] [2, 5, 7] _ (by kernel_rfl) rfl ⟨?_, ?_, ?_, trivial⟩
    · show opX _ _ _ _ _ _
      rw [hρ]
      refine opX_of (f := false) rfl (by decide) ?_
      simp (disch := omega) only [go_sem, ↓reduceIte, Nat.reduceEqDiff, Nat.reduceLT, Nat.reduceLeDiff, Nat.reduceAdd, Nat.reduceSub, Nat.reduceMul, reduceCtorEq, Int.reduceToNat, Int.reduceNeg, List.take_length, ← List.map_append]
      repeat refine And.intro (by first | omega | assumption | (simp only [List.length_append, List.length_cons, List.length_nil]; omega) | (intros; first | omega | assumption | (simp_all; done) | grind)) ?_   -- r1.1
      refine s_11101000000 _ ?_
      simp (disch := omega) only [go_sem, ↓reduceIte, Nat.reduceEqDiff, Nat.reduceLT, Nat.reduceLeDiff, Nat.reduceAdd, Nat.reduceSub, Nat.reduceMul, reduceCtorEq, Int.reduceToNat, Int.reduceNeg, List.take_length, ← List.map_append] <;> first | rfl | omega | simp | simp_all
    · show opX _ _ _ _ _ _
      rw [hρ]
      refine opX_of (f := false) rfl (by decide) ?_
      simp (disch := omega) only [go_sem, ↓reduceIte, Nat.reduceEqDiff, Nat.reduceLT, Nat.reduceLeDiff, Nat.reduceAdd, Nat.reduceSub, Nat.reduceMul, reduceCtorEq, Int.reduceToNat, Int.reduceNeg, List.take_length, ← List.map_append]
      repeat refine And.intro (by first | omega | assumption | (simp only [List.length_append, List.length_cons, List.length_nil]; omega) | (intros; first | omega | assumption | (simp_all; done) | grind)) ?_   -- r1.1
      refine s_11001100000 _ ?_
      simp (disch := omega) only [go_sem, ↓reduceIte, Nat.reduceEqDiff, Nat.reduceLT, Nat.reduceLeDiff, Nat.reduceAdd, Nat.reduceSub, Nat.reduceMul, reduceCtorEq, Int.reduceToNat, Int.reduceNeg, List.take_length, ← List.map_append] <;> first | rfl | omega | simp | simp_all
    · show opX _ _ _ _ _ _
      rw [hρ]
      refine opX_of (f := false) rfl (by decide) ?_
      simp (disch := omega) only [go_sem, ↓reduceIte, Nat.reduceEqDiff, Nat.reduceLT, Nat.reduceLeDiff, Nat.reduceAdd, Nat.reduceSub, Nat.reduceMul, reduceCtorEq, Int.reduceToNat, Int.reduceNeg, List.take_length, ← List.map_append]
      repeat refine And.intro (by first | omega | assumption | (simp only [List.length_append, List.length_cons, List.length_nil]; omega) | (intros; first | omega | assumption | (simp_all; done) | grind)) ?_   -- r1.1
      refine s_11001001000 _ ?_
      simp (disch := omega) only [go_sem, ↓reduceIte, Nat.reduceEqDiff, Nat.reduceLT, Nat.reduceLeDiff, Nat.reduceAdd, Nat.reduceSub, Nat.reduceMul, reduceCtorEq, Int.reduceToNat, Int.reduceNeg, List.take_length, ← List.map_append] <;> first | rfl | omega | simp | simp_all
  have s_11000001000 : ∀ ρ, keepC [1, 3, 4, 10] ρ = mkE O [(1, .bx (eRoute r)), (3, .row 62 2 []), (4, .bp 1 4), (10, .bp 1 11)] → Y 8 #[true, true, false, false, false, false, false, true, false, false, false] ρ := by
    intro ρ hρ
    clear s_11111111111 s_11111111110 s_11111111100 s_11111111000 s_11111101100 s_11111110000 s_11111101000 s_11111001100 s_11101101100 s_11111100000 s_11111001000 s_11110001100 s_11101101000 s_11101001100 s_11001101100 s_01101101100 s_11111000000 s_11110001000 s_11101100000 s_11101001000 s_11100001100 s_11001101000 s_11001001100 s_10001101100 s_01101101000 s_01101001100 s_01001101100 s_11110000000 s_11101000000 s_11001100000 s_10001101000 s_10001001100 s_01101100000 s_01101001000 s_01100001100 s_01001101000 s_01001001100 s_00001101100
    refine hY 7 _ [1, 3, 4, 10] [2, 4, 8] _ (by kernel_rfl) rfl ⟨?_, ?_, ?_, trivial⟩
    · show opX _ _ _ _ _ _
      rw [hρ]
      refine opX_of (f := false) rfl (by decide) ?_
      simp (disch := omega) only [go_sem, ↓reduceIte, Nat.reduceEqDiff, Nat.reduceLT, Nat.reduceLeDiff, Nat.reduceAdd, Nat.reduceSub, Nat.reduceMul, reduceCtorEq, Int.reduceToNat, Int.reduceNeg, List.take_length, ← List.map_append]
      repeat refine And.intro (by first | omega | assumption | (simp only [List.length_append, List.length_cons, List.length_nil]; omega) | (intros; first | omega | assumption | (simp_all; done) | grind)) ?_   -- r1.1
      refine s_11100001000 _ ?_
      simp (disch := omega) only [go_sem, ↓reduceIte, Nat.reduceEqDiff, Nat.reduceLT, Nat.reduceLeDiff, Nat.reduceAdd, Nat.reduceSub, Nat.reduceMul, reduceCtorEq, Int.reduceToNat, Int.reduceNeg, List.take_length, ← List.map_append] <;> first | rfl | omega | simp | simp_all
    · show opX _ _ _ _ _ _
      rw [hρ]
      refine opX_of (f := false) rfl (by decide) ?_
      simp (disch := omega) only [go_sem, ↓reduceIte, Nat.reduceEqDiff, Nat.reduceLT, Nat.reduceLeDiff, Nat.reduceAdd, Nat.reduceSub, Nat.reduceMul, reduceCtorEq, Int.reduceToNat, Int.reduceNeg, List.take_length, ← List.map_append]
      repeat refine And.intro (by first | omega | assumption | (simp only [List.length_append, List.length_cons, List.length_nil]; omega) | (intros; first | omega | assumption | (simp_all; done) | grind)) ?_   -- r1.1
      refine s_11001001000 _ ?_
      simp (disch := omega) only [go_sem, ↓reduceIte, Nat.reduceEqDiff, Nat.reduceLT, Nat.reduceLeDiff, Nat.reduceAdd, Nat.reduceSub, Nat.reduceMul, reduceCtorEq, Int.reduceToNat, Int.reduceNeg, List.take_length, ← List.map_append] <;> first | rfl | omega | simp | simp_all
    · show opX _ _ _ _ _ _
      rw [hρ]
      refine opX_of (f := false) rfl (by decide) ?_
      simp (disch := omega) only [go_sem, ↓reduceIte, Nat.reduceEqDiff, Nat.reduceLT, Nat.reduceLeDiff, Nat.reduceAdd, Nat.reduceSub, Nat.reduceMul, reduceCtorEq, Int.reduceToNat, Int.reduceNeg, List.take_length, ← List.map_append]
      repeat refine And.intro (by first | omega | assumption | (simp only [List.length_append, List.length_cons, List.length_nil]; omega) | (intros; first | omega | assumption | (simp_all; done) | grind)) ?_   -- r1.1
      refine s_11000001100 _ ?_
      simp (disch := omega) only [go_sem, ↓reduceIte, Nat.reduceEqDiff, Nat.reduceLT, Nat.reduceLeDiff, Nat.reduceAdd, Nat.reduceSub, Nat.reduceMul, reduceCtorEq, Int.reduceToNat, Int.reduceNeg, List.take_length, ← List.map_append] <;> first | rfl | omega | simp | simp_all
  have s_10001100000 : ∀ ρ, keepC [1, 3, 7, 8] ρ = mkE O [(1, .bx (eRoute r)), (3, .row 62 2 []), (7, .bp 1 9), (8, encS r.fOverPoints)] → Y 8 #[true, false, false, false, true, true, false, false, false, false, false] ρ := by
    intro ρ hρ
    clear s_11111111111 s_11111111110 s_11111111100 s_11111111000 s_11111101100 s_11111110000 s_11111101000 s_11111001100 s_11101101100 s_11111100000 s_11111001000 s_11110001100 s_11101101000 s_11101001100 s_11001101100 s_01101101100 s_11111000000 s_11110001000 s_11101100000 s_11101001000 s_11100001100 s_11001101000 s_11001001100 s_10001101100 s_01101101000 s_01101001100 s_01001101100 s_11110000000 s_11101000000 s_11100001000 s_11001001000 s_11000001100 s_10001001100 s_01101100000 s_01101001000 s_01100001100 s_01001101000 s_01001001100 s_00001101100
    refine hY 7 _ [1, 3, 7, 8] [1, 7] _ (by kernel_rfl) rfl ⟨?_, ?_, trivial⟩
    · show opX _ _ _ _ _ _
      rw [hρ]
      refine opX_of (f := false) rfl (by decide) ?_
      simp (disch := omega) only [go_sem, ↓reduceIte, Nat.reduceEqDiff, Nat.reduceLT, Nat.reduceLeDiff, Nat.reduceAdd, Nat.reduceSub, Nat.reduceMul, reduceCtorEq, Int.reduceToNat, Int.reduceNeg, List.take_length, ← List.map_append]
      repeat refine And.intro (by first | omega | assumption | (simp only [List.length_append, List.length_cons, List.length_nil]; omega) | (intros; first | omega | assumption | (simp_all; done) | grind)) ?_   -- r1.1
      refine s_11001100000 _ ?_
      simp (disch := omega) only [go_sem, ↓reduceIte, Nat.reduceEqDiff, Nat.reduceLT, Nat.reduceLeDiff, Nat.reduceAdd, Nat.reduceSub, Nat.reduceMul, reduceCtorEq, Int.reduceToNat, Int.reduceNeg, List.take_length, ← List.map_append] <;> first | rfl | omega | simp | simp_all
    · show opX _ _ _ _ _ _
      rw [hρ]
      refine opX_of (f := false) rfl (by decide) ?_
      simp (disch := omega) only [go_sem, ↓reduceIte, Nat.reduceEqDiff, Nat.reduceLT, Nat.reduceLeDiff, Nat.reduceAdd, Nat.reduceSub, Nat.reduceMul, reduceCtorEq, Int.reduceToNat, Int.reduceNeg, List.take_length, ← List.map_append]
      repeat refine And.intro (by first | omega | assumption | (simp only [List.length_append, List.length_cons, List.length_nil]; omega) | (intros; first | omega | assumption | (simp_all; done) | grind)) ?_   -- r1.1
      refine s_10001101000 _ ?_
      simp (disch := omega) only [go_sem, ↓reduceIte, Nat.reduceEqDiff, Nat.reduceLT, Nat.reduceLeDiff, Nat.reduceAdd, Nat.reduceSub, Nat.reduceMul, reduceCtorEq, Int.reduceToNat, Int.reduceNeg, List.take_length, ← List.map_append] <;> first | rfl | omega | simp | simp_all
  have s_10001001000 : ∀ ρ, keepC [1, 3, 7, 10] ρ = mkE O [(1, .bx (eRoute r)), (3, .row 62 2 []), (7, .bp 1 9), (10, .bp 1 11)] → Y 8 #[true, false, false, false, true, false, false, true, false, false, false] ρ := by
    intro ρ hρ
    clear s_11111111111 s_11111111110 s_11111111100 s_11111111000 s_11111101100 s_11111110000 s_11111101000 s_11111001100 s_11101101100 s_11111100000 s_11111001000 s_11110001100 s_11101101000 s_11101001100 s_11001101100 s_01101101100 s_11111000000 s_11110001000 s_11101100000 s_11101001000 s_11100001100 s_11001101000 s_11001001100 s_10001101100 s_01101101000 s_01101001100 s_01001101100 s_11110000000 s_11101000000 s_11100001000 s_11001100000 s_11000001100 s_01101100000 s_01101001000 s_01100001100 s_01001101000 s_01001001100 s_00001101100
    refine hY 7 _ [1, 3, 7, 10] [1, 5, 8] _ (by kernel_rfl) rfl ⟨?_, ?_, ?_, trivial⟩
    · show opX _ _ _ _ _ _
      rw [hρ]
      refine opX_of (f := false) rfl (by decide) ?_
      simp (disch := omega) only [go_sem, ↓reduceIte, Nat.reduceEqDiff, Nat.reduceLT, Nat.reduceLeDiff, Nat.reduceAdd, Nat.reduceSub, Nat.reduceMul, reduceCtorEq, Int.reduceToNat, Int.reduceNeg, List.take_length, ← List.map_append]
      repeat refine And.intro (by first | omega | assumption | (simp only [List.length_append, List.length_cons, List.length_nil]; omega) | (intros; first | omega | assumption | (simp_all; done) | grind)) ?_   -- r1.1
      refine s_11001001000 _ ?_
      simp (disch := omega) only [go_sem, ↓reduceIte, Nat.reduceEqDiff, Nat.reduceLT, Nat.reduceLeDiff, Nat.reduceAdd, Nat.reduceSub, Nat.reduceMul, reduceCtorEq, Int.reduceToNat, Int.reduceNeg, List.take_length, ← List.map_append] <;> first | rfl | omega | simp | simp_all
    · show opX _ _ _ _ _ _
      rw [hρ]
      refine opX_of (f := false) rfl (by decide) ?_
      simp (disch := omega) only [go_sem, ↓reduceIte, Nat.reduceEqDiff, Nat.reduceLT, Nat.reduceLeDiff, Nat.reduceAdd, Nat.reduceSub, Nat.reduceMul, reduceCtorEq, Int.reduceToNat, Int.reduceNeg, List.take_length, ← List.map_append]
      repeat refine And.intro (by first | omega | assumption | (simp only [List.length_append, List.length_cons, List.length_nil]; omega) | (intros; first | omega | assumption | (simp_all; done) | grind)) ?_   -- r1.1
      refine s_10001101000 _ ?_
      simp (disch := omega) only [go_sem, ↓reduceIte, Nat.reduceEqDiff, Nat.reduceLT, Nat.reduceLeDiff, Nat.reduceAdd, Nat.reduceSub, Nat.reduceMul, reduceCtorEq, Int.reduceToNat, Int.reduceNeg, List.take_length, ← List.map_append] <;> first | rfl | omega | simp | simp_all
    · show opX _ _ _ _ _ _
      rw [hρ]
      refine opX_of (f := false) rfl (by decide) ?_
      simp (disch := omega) only [go_sem, ↓reduceIte, Nat.reduceEqDiff, Nat.reduceLT, Nat.reduceLeDiff, Nat.reduceAdd, Nat.reduceSub, Nat.reduceMul, reduceCtorEq, Int.reduceToNat, Int.reduceNeg, List.take_length, ← List.map_append]
      repeat refine And.intro (by first | omega | assumption | (simp only [List.length_append, List.length_cons, List.length_nil]; omega) | (intros; first | omega | assumption | (simp_all; done) | grind)) ?_   -- r1.1
      refine s_10001001100 _ ?_
      simp (disch := omega) only [go_sem, ↓reduceIte, Nat.reduceEqDiff, Nat.reduceLT, Nat.reduceLeDiff, Nat.reduceAdd, Nat.reduceSub, Nat.reduceMul, reduceCtorEq, Int.reduceToNat, Int.reduceNeg, List.take_length, ← List.map_append] <;> first | rfl | omega | simp | simp_all
  have s_10000001100 : ∀ ρ, keepC [1, 3, 10, 11] ρ = mkE O [(1, .bx (eRoute r)), (3, .row 62 2 []), (10, .bp 1 11), (11, encS r.fFlank)] → Y 8 #[true, false, false, false, false, false, false, true, true, false, false] ρ := by
    intro ρ hρ
    clear s_11111111111 s_11111111110 s_11111111100 s_11111111000 s_11111101100 s_11111110000 s_11111101000 s_11111001100 s_11101101100 s_11111100000 s_11111001000 s_11110001100 s_11101101000 s_11101001100 s_11001101100 s_01101101100 s_11111000000 s_11110001000 s_11101100000 s_11101001000 s_11100001100 s_11001101000 s_11001001100 s_10001101100 s_01101101000 s_01101001100 s_01001101100 s_11110000000 s_11101000000 s_11100001000 s_11001100000 s_11001001000 s_10001101000 s_01101100000 s_01101001000 s_01100001100 s_01001101000 s_01001001100 s_00001101100
    refine hY 7 _ [1, 3, 10, 11] [1, 4] _ (by kernel_rfl) rfl ⟨?_, ?_, trivial⟩
    · show opX _ _ _ _ _ _
      rw [hρ]
      refine opX_of (f := false) rfl (by decide) ?_
      simp (disch := omega) only [go_sem, ↓reduceIte, Nat.reduceEqDiff, Nat.reduceLT, Nat.reduceLeDiff, Nat.reduceAdd, Nat.reduceSub, Nat.reduceMul, reduceCtorEq, Int.reduceToNat, Int.reduceNeg, List.take_length, ← List.map_append]
      repeat refine And.intro (by first | omega | assumption | (simp only [List.length_append, List.length_cons, List.length_nil]; omega) | (intros; first | omega | assumption | (simp_all; done) | grind)) ?_   -- r1.1
      refine s_11000001100 _ ?_
      simp (disch := omega) only [go_sem, ↓reduceIte, Nat.reduceEqDiff, Nat.reduceLT, Nat.reduceLeDiff, Nat.reduceAdd, Nat.reduceSub, Nat.reduceMul, reduceCtorEq, Int.reduceToNat, Int.reduceNeg, List.take_length, ← List.map_append] <;> first | rfl | omega | simp | simp_all
    · show opX _ _ _ _ _ _
      rw [hρ]
      refine opX_of (f := false) rfl (by decide) ?_
      simp (disch := omega) only [go_sem, ↓reduceIte, Nat.reduceEqDiff, Nat.reduceLT, Nat.reduceLeDiff, Nat.reduceAdd, Nat.reduceSub, Nat.reduceMul, reduceCtorEq, Int.reduceToNat, Int.reduceNeg, List.take_length, ← List.map_append]
      repeat refine And.intro (by first | omega | assumption | (simp only [List.length_append, List.length_cons, List.length_nil]; omega) | (intros; first | omega | assumption | (simp_all; done) | grind)) ?_   -- r1.1
      refine s_10001001100 _ ?_
      simp (disch := omega) only [go_sem, ↓reduceIte, Nat.reduceEqDiff, Nat.reduceLT, Nat.reduceLeDiff, Nat.reduceAdd, Nat.reduceSub, Nat.reduceMul, reduceCtorEq, Int.reduceToNat, Int.reduceNeg, List.take_length, ← List.map_append] <;> first | rfl | omega | simp | simp_all
  have s_01101000000 : ∀ ρ, keepC [1, 4, 5, 7] ρ = mkE O [(1, .bx (eRoute r)), (4, .bp 1 4), (5, encS r.fPoints), (7, .bp 1 9)] → Y 8 #[false, true, true, false, true, false, false, false, false, false, false] ρ := by
    intro ρ hρ
    clear s_11111111111 s_11111111110 s_11111111100 s_11111111000 s_11111101100 s_11111110000 s_11111101000 s_11111001100 s_11101101100 s_11111100000 s_11111001000 s_11110001100 s_11101101000 s_11101001100 s_11001101100 s_01101101100 s_11111000000 s_11110001000 s_11101100000 s_11101001000 s_11100001100 s_11001101000 s_11001001100 s_10001101100 s_01101101000 s_01101001100 s_01001101100 s_11110000000 s_11100001000 s_11001100000 s_11001001000 s_11000001100 s_10001101000 s_10001001100 s_01100001100 s_01001101000 s_01001001100 s_00001101100
    refine hY 7 _ [1, 4, 5, 7] [0, 5, 7] _ (by kernel_rfl) rfl ⟨?_, ?_, ?_, trivial⟩
    · show opX _ _ _ _ _ _
      rw [hρ]
      refine opX_of (f := false) rfl (by decide) ?_
      simp (disch := omega) only [go_sem, ↓reduceIte, Nat.reduceEqDiff, Nat.reduceLT, Nat.reduceLeDiff, Nat.reduceAdd, Nat.reduceSub, Nat.reduceMul, reduceCtorEq, Int.reduceToNat, Int.reduceNeg, List.take_length, ← List.map_append]
      repeat refine And.intro (by first | omega | assumption | (simp only [List.length_append, List.length_cons, List.length_nil]; omega) | (intros; first | omega | assumption | (simp_all; done) | grind)) ?_   -- r1.1
      refine s_11101000000 _ ?_
      simp (disch := omega) only [go_sem, ↓reduceIte, Nat.reduceEqDiff, Nat.reduceLT, Nat.reduceLeDiff, Nat.reduceAdd, Nat.reduceSub, Nat.reduceMul, reduceCtorEq, Int.reduceToNat, Int.reduceNeg, List.take_length, ← List.map_append] <;> first | rfl | omega | simp | simp_all
    · show opX _ _ _ _ _ _
      rw [hρ]
      refine opX_of (f := false) rfl (by decide) ?_
      simp (disch := omega) only [go_sem, ↓reduceIte, Nat.reduceEqDiff, Nat.reduceLT, Nat.reduceLeDiff, Nat.reduceAdd, Nat.reduceSub, Nat.reduceMul, reduceCtorEq, Int.reduceToNat, Int.reduceNeg, List.take_length, ← List.map_append]
      repeat refine And.intro (by first | omega | assumption | (simp only [List.length_append, List.length_cons, List.length_nil]; omega) | (intros; first | omega | assumption | (simp_all; done) | grind)) ?_   -- r1.1
      refine s_01101100000 _ ?_
      simp (disch := omega) only [go_sem, ↓reduceIte, Nat.reduceEqDiff, Nat.reduceLT, Nat.reduceLeDiff, Nat.reduceAdd, Nat.reduceSub, Nat.reduceMul, reduceCtorEq, Int.reduceToNat, Int.reduceNeg, List.take_length, ← List.map_append] <;> first | rfl | omega | simp | simp_all
    · show opX _ _ _ _ _ _
      rw [hρ]
      refine opX_of (f := false) rfl (by decide) ?_
      simp (disch := omega) only [go_sem, ↓reduceIte, Nat.reduceEqDiff, Nat.reduceLT, Nat.reduceLeDiff, Nat.reduceAdd, Nat.reduceSub, Nat.reduceMul, reduceCtorEq, Int.reduceToNat, Int.reduceNeg, List.take_length, ← List.map_append]
      repeat refine And.intro (by first | omega | assumption | (simp only [List.length_append, List.length_cons, List.length_nil]; omega) | (intros; first | omega | assumption | (simp_all; done) | grind)) ?_   -- r1.1
      refine s_01101001000 _ ?_
      simp (disch := omega) only [go_sem, ↓reduceIte, Nat.reduceEqDiff, Nat.reduceLT, Nat.reduceLeDiff, Nat.reduceAdd, Nat.reduceSub, Nat.reduceMul, reduceCtorEq, Int.reduceToNat, Int.reduceNeg, List.take_length, ← List.map_append] <;> first | rfl | omega | simp | simp_all
  have s_01100001000 : ∀ ρ, keepC [1, 4, 5, 10] ρ = mkE O [(1, .bx (eRoute r)), (4, .bp 1 4), (5, encS r.fPoints), (10, .bp 1 11)] → Y 8 #[false, true, true, false, false, false, false, true, false, false, false] ρ := by
    intro ρ hρ
    clear s_11111111111 s_11111111110 s_11111111100 s_11111111000 s_11111101100 s_11111110000 s_11111101000 s_11111001100 s_11101101100 s_11111100000 s_11111001000 s_11110001100 s_11101101000 s_11101001100 s_11001101100 s_01101101100 s_11111000000 s_11110001000 s_11101100000 s_11101001000 s_11100001100 s_11001101000 s_11001001100 s_10001101100 s_01101101000 s_01101001100 s_01001101100 s_11110000000 s_11101000000 s_11001100000 s_11001001000 s_11000001100 s_10001101000 s_10001001100 s_01101100000 s_01001101000 s_01001001100 s_00001101100
    refine hY 7 _ [1, 4, 5, 10] [0, 4, 8] _ (by kernel_rfl) rfl ⟨?_, ?_, ?_, trivial⟩
    · show opX _ _ _ _ _ _
      rw [hρ]
      refine opX_of (f := false) rfl (by decide) ?_
      simp (disch := omega) only [go_sem, ↓reduceIte, Nat.reduceEqDiff, Nat.reduceLT, Nat.reduceLeDiff, Nat.reduceAdd, Nat.reduceSub, Nat.reduceMul, reduceCtorEq, Int.reduceToNat, Int.reduceNeg, List.take_length, ← List.map_append]
      repeat refine And.intro (by first | omega | assumption | (simp only [List.length_append, List.length_cons, List.length_nil]; omega) | (intros; first | omega | assumption | (simp_all; done) | grind)) ?_   -- r1.1
      refine s_11100001000 _ ?_
      simp (disch := omega) only [go_sem, ↓reduceIte, Nat.reduceEqDiff, Nat.reduceLT, Nat.reduceLeDiff, Nat.reduceAdd, Nat.reduceSub, Nat.reduceMul, reduceCtorEq, Int.reduceToNat, Int.reduceNeg, List.take_length, ← List.map_append] <;> first | rfl | omega | simp | simp_all
    · show opX _ _ _ _ _ _
      rw [hρ]
      refine opX_of (f := false) rfl (by decide) ?_
      simp (disch := omega) only [go_sem, ↓reduceIte, Nat.reduceEqDiff, Nat.reduceLT, Nat.reduceLeDiff, Nat.reduceAdd, Nat.reduceSub, Nat.reduceMul, reduceCtorEq, Int.reduceToNat, Int.reduceNeg, List.take_length, ← List.map_append]
      repeat refine And.intro (by first | omega | assumption | (simp only [List.length_append, List.length_cons, List.length_nil]; omega) | (intros; first | omega | assumption | (simp_all; done) | grind)) ?_   -- r1.1
      refine s_01101001000 _ ?_
      simp (disch := omega) only [go_sem, ↓reduceIte, Nat.reduceEqDiff, Nat.reduceLT, Nat.reduceLeDiff, Nat.reduceAdd, Nat.reduceSub, Nat.reduceMul, reduceCtorEq, Int.reduceToNat, Int.reduceNeg, List.take_length, ← List.map_append] <;> first | rfl | omega | simp | simp_all
    · show opX _ _ _ _ _ _
      rw [hρ]
      refine opX_of (f := false) rfl (by decide) ?_
      simp (disch := omega) only [go_sem, ↓reduceIte, Nat.reduceEqDiff, Nat.reduceLT, Nat.reduceLeDiff, Nat.reduceAdd, Nat.reduceSub, Nat.reduceMul, reduceCtorEq, Int.reduceToNat, Int.reduceNeg, List.take_length, ← List.map_append]
      repeat refine And.intro (by first | omega | assumption | (simp only [List.length_append, List.length_cons, List.length_nil]; omega) | (intros; first | omega | assumption | (simp_all; done) | grind)) ?_   -- r1.1
      refine s_01100001100 _ ?_
      simp (disch := omega) only [go_sem, ↓reduceIte, Nat.reduceEqDiff, Nat.reduceLT, Nat.reduceLeDiff, Nat.reduceAdd, Nat.reduceSub, Nat.reduceMul, reduceCtorEq, Int.reduceToNat, Int.reduceNeg, List.take_length, ← List.map_append] <;> first | rfl | omega | simp | simp_all
  have s_01001100000 : ∀ ρ, keepC [1, 4, 7, 8] ρ = mkE O [(1, .bx (eRoute r)), (4, .bp 1 4), (7, .bp 1 9), (8, encS r.fOverPoints)] → Y 8 #[false, true, false, false, true, true, false, false, false, false, false] ρ := by
    intro ρ hρ
    clear s_11111111111 s_11111111110 s_11111111100 s_11111111000 s_11111101100 s_11111110000 s_11111101000 s_11111001100 s_11101101100 s_11111100000 s_11111001000 s_11110001100 s_11101101000 s_11101001100 s_11001101100 s_01101101100 s_11111000000 s_11110001000 s_11101100000 s_11101001000 s_11100001100 s_11001101000 s_11001001100 s_10001101100 s_01101101000 s_01101001100 s_01001101100 s_11110000000 s_11101000000 s_11100001000 s_11001001000 s_11000001100 s_10001101000 s_10001001100 s_01101001000 s_01100001100 s_01001001100 s_00001101100
    refine hY 7 _ [1, 4, 7, 8] [0, 2, 7] _ (by kernel_rfl) rfl ⟨?_, ?_, ?_, trivial⟩
    · show opX _ _ _ _ _ _
      rw [hρ]
      refine opX_of (f := false) rfl (by decide) ?_
      simp (disch := omega) only [go_sem, ↓reduceIte, Nat.reduceEqDiff, Nat.reduceLT, Nat.reduceLeDiff, Nat.reduceAdd, Nat.reduceSub, Nat.reduceMul, reduceCtorEq, Int.reduceToNat, Int.reduceNeg, List.take_length, ← List.map_append]
      repeat refine And.intro (by first | omega | assumption | (simp only [List.length_append, List.length_cons, List.length_nil]; omega) | (intros; first | omega | assumption | (simp_all; done) | grind)) ?_   -- r1.1
      refine s_11001100000 _ ?_
      simp (disch := omega) only [go_sem, ↓reduceIte, Nat.reduceEqDiff, Nat.reduceLT, Nat.reduceLeDiff, Nat.reduceAdd, Nat.reduceSub, Nat.reduceMul, reduceCtorEq, Int.reduceToNat, Int.reduceNeg, List.take_length, ← List.map_append] <;> first | rfl | omega | simp | simp_all
    · show opX _ _ _ _ _ _
      rw [hρ]
      refine opX_of (f := false) rfl (by decide) ?_
      simp (disch := omega) only [go_sem, ↓reduceIte, Nat.reduceEqDiff, Nat.reduceLT, Nat.reduceLeDiff, Nat.reduceAdd, Nat.reduceSub, Nat.reduceMul, reduceCtorEq, Int.reduceToNat, Int.reduceNeg, List.take_length, ← List.map_append]
      repeat refine And.intro (by first | omega | assumption | (simp only [List.length_append, List.length_cons, List.length_nil]; omega) | (intros; first | omega | assumption | (simp_all; done) | grind)) ?_   -- r1.1
      refine s_01101100000 _ ?_
      simp (disch := omega) only [go_sem, ↓reduceIte, Nat.reduceEqDiff, Nat.reduceLT, Nat.reduceLeDiff, Nat.reduceAdd, Nat.reduceSub, Nat.reduceMul, reduceCtorEq, Int.reduceToNat, Int.reduceNeg, List.take_length, ← List.map_append] <;> first | rfl | omega | simp | simp_all
    · show opX _ _ _ _ _ _
      rw [hρ]
      refine opX_of (f := false) rfl (by decide) ?_
      simp (disch := omega) only [go_sem, ↓reduceIte, Nat.reduceEqDiff, Nat.reduceLT, Nat.reduceLeDiff, Nat.reduceAdd, Nat.reduceSub, Nat.reduceMul, reduceCtorEq, Int.reduceToNat, Int.reduceNeg, List.take_length, ← List.map_append]
      repeat refine And.intro (by first | omega | assumption | (simp only [List.length_append, List.length_cons, List.length_nil]; omega) | (intros; first | omega | assumption | (simp_all; done) | grind)) ?_   -- r1.1
      refine s_01001101000 _ ?_
      simp (disch := omega) only [go_sem, ↓reduceIte, Nat.reduceEqDiff, Nat.reduceLT, Nat.reduceLeDiff, Nat.reduceAdd, Nat.reduceSub, Nat.reduceMul, reduceCtorEq, Int.reduceToNat, Int.reduceNeg, List.take_length, ← List.map_append] <;> first | rfl | omega | simp | simp_all
  have s_01001001000 : ∀ ρ, keepC [1, 4, 7, 10] ρ = mkE O [(1, .bx (eRoute r)), (4, .bp 1 4), (7, .bp 1 9), (10, .bp 1 11)] → Y 8 #[false, true, false, false, true, false, false, true, false, false, false] ρ := by
    intro ρ hρ
    clear s_11111111111 s_11111111110 s_11111111100 s_11111111000 s_11111101100 s_11111110000 s_11111101000 s_11111001100 s_11101101100 s_11111100000 s_11111001000 s_11110001100 s_11101101000 s_11101001100 s_11001101100 s_01101101100 s_11111000000 s_11110001000 s_11101100000 s_11101001000 s_11100001100 s_11001101000 s_11001001100 s_10001101100 s_01101101000 s_01101001100 s_01001101100 s_11110000000 s_11101000000 s_11100001000 s_11001100000 s_11000001100 s_10001101000 s_10001001100 s_01101100000 s_01100001100 s_00001101100
    refine hY 7 _ [1, 4, 7, 10] [0, 2, 5, 8] _ (by kernel_rfl) rfl ⟨?_, ?_, ?_, ?_, trivial⟩
    · show opX _ _ _ _ _ _
      rw [hρ]
      refine opX_of (f := false) rfl (by decide) ?_
      simp (disch := omega) only [go_sem, ↓reduceIte, Nat.reduceEqDiff, Nat.reduceLT, Nat.reduceLeDiff, Nat.reduceAdd, Nat.reduceSub, Nat.reduceMul, reduceCtorEq, Int.reduceToNat, Int.reduceNeg, List.take_length, ← List.map_append]
      repeat refine And.intro (by first | omega | assumption | (simp only [List.length_append, List.length_cons, List.length_nil]; omega) | (intros; first | omega | assumption | (simp_all; done) | grind)) ?_   -- r1.1
      refine s_11001001000 _ ?_
      simp (disch := omega) only [go_sem, ↓reduceIte, Nat.reduceEqDiff, Nat.reduceLT, Nat.reduceLeDiff, Nat.reduceAdd, Nat.reduceSub, Nat.reduceMul, reduceCtorEq, Int.reduceToNat, Int.reduceNeg, List.take_length, ← List.map_append] <;> first | rfl | omega | simp | simp_all
    · show opX _ _ _ _ _ _
      rw [hρ]
      refine opX_of (f := false) rfl (by decide) ?_
      simp (disch := omega) only [go_sem, ↓reduceIte, Nat.reduceEqDiff, Nat.reduceLT, Nat.reduceLeDiff, Nat.reduceAdd, Nat.reduceSub, Nat.reduceMul, reduceCtorEq, Int.reduceToNat, Int.reduceNeg, List.take_length, ← List.map_append]
      repeat refine And.intro (by first | omega | assumption | (simp only [List.length_append, List.length_cons, List.length_nil]; omega) | (intros; first | omega | assumption | (simp_all; done) | grind)) ?_   -- r1.1
      refine s_01101001000 _ ?_
      simp (disch := omega) only [go_sem, ↓reduceIte, Nat.reduceEqDiff, Nat.reduceLT, Nat.reduceLeDiff, Nat.reduceAdd, Nat.reduceSub, Nat.reduceMul, reduceCtorEq, Int.reduceToNat, Int.reduceNeg, List.take_length, ← List.map_append] <;> first | rfl | omega | simp | simp_all
    · show opX _ _ _ _ _ _
      rw [hρ]
      refine opX_of (f := false) rfl (by decide) ?_
      simp (disch := omega) only [go_sem, ↓reduceIte, Nat.reduceEqDiff, Nat.reduceLT, Nat.reduceLeDiff, Nat.reduceAdd, Nat.reduceSub, Nat.reduceMul, reduceCtorEq, Int.reduceToNat, Int.reduceNeg, List.take_length, ← List.map_append]
      repeat refine And.intro (by first | omega | assumption | (simp only [List.length_append, List.length_cons, List.length_nil]; omega) | (intros; first | omega | assumption | (simp_all; done) | grind)) ?_   -- r1.1
      refine s_01001101000 _ ?_
      simp (disch := omega) only [go_sem, ↓reduceIte, Nat.reduceEqDiff, Nat.reduceLT, Nat.reduceLeDiff, Nat.reduceAdd, Nat.reduceSub, Nat.reduceMul, reduceCtorEq, Int.reduceToNat, Int.reduceNeg, List.take_length, ← List.map_append] <;> first | rfl | omega | simp | simp_all
    · show opX _ _ _ _ _ _
      rw [hρ]
      refine opX_of (f := false) rfl (by decide) ?_
      simp (disch := omega) only [go_sem, ↓reduceIte, Nat.reduceEqDiff, Nat.reduceLT, Nat.reduceLeDiff, Nat.reduceAdd, Nat.reduceSub, Nat.reduceMul, reduceCtorEq, Int.reduceToNat, Int.reduceNeg, List.take_length, ← List.map_append]
      repeat refine And.intro (by first | omega | assumption | (simp only [List.length_append, List.length_cons, List.length_nil]; omega) | (intros; first | omega | assumption | (simp_all; done) | grind)) ?_   -- r1.1
      refine s_01001001100 _ ?_
      simp (disch := omega) only [go_sem, ↓reduceIte, Nat.reduceEqDiff, Nat.reduceLT, Nat.reduceLeDiff, Nat.reduceAdd, Nat.reduceSub, Nat.reduceMul, reduceCtorEq, Int.reduceToNat, Int.reduceNeg, List.take_length, ← List.map_append] <;> first | rfl | omega | simp | simp_all
  have s_01000001100 : ∀ ρ, keepC [1, 4, 10, 11] ρ = mkE O [(1, .bx (eRoute r)), (4, .bp 1 4), (10, .bp 1 11), (11, encS r.fFlank)] → Y 8 #[false, true, false, false, false, false, false, true, true, false, false] ρ := by
    intro ρ hρ
    clear s_11111111111 s_11111111110 s_11111111100 s_11111111000 s_11111101100 s_11111110000 s_11111101000 s_11111001100 s_11101101100 s_11111100000 s_11111001000 s_11110001100 s_11101101000 s_11101001100 s_11001101100 s_01101101100 s_11111000000 s_11110001000 s_11101100000 s_11101001000 s_11100001100 s_11001101000 s_11001001100 s_10001101100 s_01101101000 s_01101001100 s_01001101100 s_11110000000 s_11101000000 s_11100001000 s_11001100000 s_11001001000 s_10001101000 s_10001001100 s_01101100000 s_01101001000 s_01001101000 s_00001101100
    refine hY 7 _ [1, 4, 10, 11] [0, 2, 4] _ (by kernel_rfl) rfl ⟨?_, ?_, ?_, trivial⟩
    · show opX _ _ _ _ _ _
      rw [hρ]
      refine opX_of (f := false) rfl (by decide) ?_
      simp (disch := omega) only [go_sem, ↓reduceIte, Nat.reduceEqDiff, Nat.reduceLT, Nat.reduceLeDiff, Nat.reduceAdd, Nat.reduceSub, Nat.reduceMul, reduceCtorEq, Int.reduceToNat, Int.reduceNeg, List.take_length, ← List.map_append]
      repeat refine And.intro (by first | omega | assumption | (simp only [List.length_append, List.length_cons, List.length_nil]; omega) | (intros; first | omega | assumption | (simp_all; done) | grind)) ?_   -- r1.1
      refine s_11000001100 _ ?_
      simp (disch := omega) only [go_sem, ↓reduceIte, Nat.reduceEqDiff, Nat.reduceLT, Nat.reduceLeDiff, Nat.reduceAdd, Nat.reduceSub, Nat.reduceMul, reduceCtorEq, Int.reduceToNat, Int.reduceNeg, List.take_length, ← List.map_append] <;> first | rfl | omega | simp | simp_all
    · show opX _ _ _ _ _ _
      rw [hρ]
      refine opX_of (f := false) rfl (by decide) ?_
      simp (disch := omega) only [go_sem, ↓reduceIte, Nat.reduceEqDiff, Nat.reduceLT, Nat.reduceLeDiff, Nat.reduceAdd, Nat.reduceSub, Nat.reduceMul, reduceCtorEq, Int.reduceToNat, Int.reduceNeg, List.take_length, ← List.map_append]
      repeat refine And.intro (by first | omega | assumption | (simp only [List.length_append, List.length_cons, List.length_nil]; omega) | (intros; first | omega | assumption | (simp_all; done) | grind)) ?_   -- r1.1
      refine s_01100001100 _ ?_
      simp (disch := omega) only [go_sem, ↓reduceIte, Nat.reduceEqDiff, Nat.reduceLT, Nat.reduceLeDiff, Nat.reduceAdd, Nat.reduceSub, Nat.reduceMul, reduceCtorEq, Int.reduceToNat, Int.reduceNeg, List.take_length, ← List.map_append] <;> first | rfl | omega | simp | simp_all
    · show opX _ _ _ _ _ _
      rw [hρ]
      refine opX_of (f := false) rfl (by decide) ?_
      simp (disch := omega) only [go_sem, ↓reduceIte, Nat.reduceEqDiff, Nat.reduceLT, Nat.reduceLeDiff, Nat.reduceAdd, Nat.reduceSub, Nat.reduceMul, reduceCtorEq, Int.reduceToNat, Int.reduceNeg, List.take_length, ← List.map_append]
      repeat refine And.intro (by first | omega | assumption | (simp only [List.length_append, List.length_cons, List.length_nil]; omega) | (intros; first | omega | assumption | (simp_all; done) | grind)) ?_   -- r1.1
      refine s_01001001100 _ ?_
      simp (disch := omega) only [go_sem, ↓reduceIte, Nat.reduceEqDiff, Nat.reduceLT, Nat.reduceLeDiff, Nat.reduceAdd, Nat.reduceSub, Nat.reduceMul, reduceCtorEq, Int.reduceToNat, Int.reduceNeg, List.take_length, ← List.map_append] <;> first | rfl | omega | simp | simp_all
  have s_00001101000 : ∀ ρ, keepC [1, 7, 8, 10] ρ = mkE O [(1, .bx (eRoute r)), (7, .bp 1 9), (8, encS r.fOverPoints), (10, .bp 1 11)] → Y 8 #[false, false, false, false, true, true, false, true, false, false, false] ρ := by
    intro ρ hρ
    clear s_11111111111 s_11111111110 s_11111111100 s_11111111000 s_11111101100 s_11111110000 s_11111101000 s_11111001100 s_11101101100 s_11111100000 s_11111001000 s_11110001100 s_11101101000 s_11101001100 s_11001101100 s_01101101100 s_11111000000 s_11110001000 s_11101100000 s_11101001000 s_11100001100 s_11001101000 s_11001001100 s_10001101100 s_01101101000 s_01101001100 s_01001101100 s_11110000000 s_11101000000 s_11100001000 s_11001100000 s_11001001000 s_11000001100 s_10001001100 s_01101100000 s_01101001000 s_01100001100 s_01001001100
    refine hY 7 _ [1, 7, 8, 10] [0, 1, 8] _ (by kernel_rfl) rfl ⟨?_, ?_, ?_, trivial⟩
    · show opX _ _ _ _ _ _
      rw [hρ]
      refine opX_of (f := false) rfl (by decide) ?_
      simp (disch := omega) only [go_sem, ↓reduceIte, Nat.reduceEqDiff, Nat.reduceLT, Nat.reduceLeDiff, Nat.reduceAdd, Nat.reduceSub, Nat.reduceMul, reduceCtorEq, Int.reduceToNat, Int.reduceNeg, List.take_length, ← List.map_append]
      repeat refine And.intro (by first | omega | assumption | (simp only [List.length_append, List.length_cons, List.length_nil]; omega) | (intros; first | omega | assumption | (simp_all; done) | grind)) ?_   -- r1.1
      refine s_10001101000 _ ?_
      simp (disch := omega) only [go_sem, ↓reduceIte, Nat.reduceEqDiff, Nat.reduceLT, Nat.reduceLeDiff, Nat.reduceAdd, Nat.reduceSub, Nat.reduceMul, reduceCtorEq, Int.reduceToNat, Int.reduceNeg, List.take_length, ← List.map_append] <;> first | rfl | omega | simp | simp_all
    · show opX _ _ _ _ _ _
      rw [hρ]
      refine opX_of (f := false) rfl (by decide) ?_
      simp (disch := omega) only [go_sem, ↓reduceIte, Nat.reduceEqDiff, Nat.reduceLT, Nat.reduceLeDiff, Nat.reduceAdd, Nat.reduceSub, Nat.reduceMul, reduceCtorEq, Int.reduceToNat, Int.reduceNeg, List.take_length, ← List.map_append]
      repeat refine And.intro (by first | omega | assumption | (simp only [List.length_append, List.length_cons, List.length_nil]; omega) | (intros; first | omega | assumption | (simp_all; done) | grind)) ?_   -- r1.1
      refine s_01001101000 _ ?_
      simp (disch := omega) only [go_sem, ↓reduceIte, Nat.reduceEqDiff, Nat.reduceLT, Nat.reduceLeDiff, Nat.reduceAdd, Nat.reduceSub, Nat.reduceMul, reduceCtorEq, Int.reduceToNat, Int.reduceNeg, List.take_length, ← List.map_append] <;> first | rfl | omega | simp | simp_all
    · show opX _ _ _ _ _ _
      rw [hρ]
      refine opX_of (f := false) rfl (by decide) ?_
      simp (disch := omega) only [go_sem, ↓reduceIte, Nat.reduceEqDiff, Nat.reduceLT, Nat.reduceLeDiff, Nat.reduceAdd, Nat.reduceSub, Nat.reduceMul, reduceCtorEq, Int.reduceToNat, Int.reduceNeg, List.take_length, ← List.map_append]
      repeat refine And.intro (by first | omega | assumption | (simp only [List.length_append, List.length_cons, List.length_nil]; omega) | (intros; first | omega | assumption | (simp_all; done) | grind)) ?_   -- r1.1
      refine s_00001101100 _ ?_
      simp (disch := omega) only [go_sem, ↓reduceIte, Nat.reduceEqDiff, Nat.reduceLT, Nat.reduceLeDiff, Nat.reduceAdd, Nat.reduceSub, Nat.reduceMul, reduceCtorEq, Int.reduceToNat, Int.reduceNeg, List.take_length, ← List.map_append] <;> first | rfl | omega | simp | simp_all
  have s_00001001100 : ∀ ρ, keepC [1, 7, 10, 11] ρ = mkE O [(1, .bx (eRoute r)), (7, .bp 1 9), (10, .bp 1 11), (11, encS r.fFlank)] → Y 8 #[false, false, false, false, true, false, false, true, true, false, false] ρ := by
    intro ρ hρ
    clear s_11111111111 s_11111111110 s_11111111100 s_11111111000 s_11111101100 s_11111110000 s_11111101000 s_11111001100 s_11101101100 s_11111100000 s_11111001000 s_11110001100 s_11101101000 s_11101001100 s_11001101100 s_01101101100 s_11111000000 s_11110001000 s_11101100000 s_11101001000 s_11100001100 s_11001101000 s_11001001100 s_10001101100 s_01101101000 s_01101001100 s_01001101100 s_11110000000 s_11101000000 s_11100001000 s_11001100000 s_11001001000 s_11000001100 s_10001101000 s_01101100000 s_01101001000 s_01100001100 s_01001101000
    refine hY 7 _ [1, 7, 10, 11] [0, 1, 5] _ (by kernel_rfl) rfl ⟨?_, ?_, ?_, trivial⟩
    · show opX _ _ _ _ _ _
      rw [hρ]
      refine opX_of (f := false) rfl (by decide) ?_
      simp (disch := omega) only [go_sem, ↓reduceIte, Nat.reduceEqDiff, Nat.reduceLT, Nat.reduceLeDiff, Nat.reduceAdd, Nat.reduceSub, Nat.reduceMul, reduceCtorEq, Int.reduceToNat, Int.reduceNeg, List.take_length, ← List.map_append]
      repeat refine And.intro (by first | omega | assumption | (simp only [List.length_append, List.length_cons, List.length_nil]; omega) | (intros; first | omega | assumption | (simp_all; done) | grind)) ?_   -- r1.1
      refine s_10001001100 _ ?_
      simp (disch := omega) only [go_sem, ↓reduceIte, Nat.reduceEqDiff, Nat.reduceLT, Nat.reduceLeDiff, Nat.reduceAdd, Nat.reduceSub, Nat.reduceMul, reduceCtorEq, Int.reduceToNat, Int.reduceNeg, List.take_length, ← List.map_append] <;> first | rfl | omega | simp | simp_all
    · show opX _ _ _ _ _ _
      rw [hρ]
      refine opX_of (f := false) rfl (by decide) ?_
      simp (disch := omega) only [go_sem, ↓reduceIte, Nat.reduceEqDiff, Nat.reduceLT, Nat.reduceLeDiff, Nat.reduceAdd, Nat.reduceSub, Nat.reduceMul, reduceCtorEq, Int.reduceToNat, Int.reduceNeg, List.take_length, ← List.map_append]
      repeat refine And.intro (by first | omega | assumption | (simp only [List.length_append, List.length_cons, List.length_nil]; omega) | (intros; first | omega | assumption | (simp_all; done) | grind)) ?_   -- r1.1
      refine s_01001001100 _ ?_
      simp (disch := omega) only [go_sem, ↓reduceIte, Nat.reduceEqDiff, Nat.reduceLT, Nat.reduceLeDiff, Nat.reduceAdd, Nat.reduceSub, Nat.reduceMul, reduceCtorEq, Int.reduceToNat, Int.reduceNeg, List.take_length, ← List.map_append] <;> first | rfl | omega | simp | simp_all
    · show opX _ _ _ _ _ _
      rw [hρ]
      refine opX_of (f := false) rfl (by decide) ?_
      simp (disch := omega) only [go_sem, ↓reduceIte, Nat.reduceEqDiff, Nat.reduceLT, Nat.reduceLeDiff, Nat.reduceAdd, Nat.reduceSub, Nat.reduceMul, reduceCtorEq, Int.reduceToNat, Int.reduceNeg, List.take_length, ← List.map_append]
      repeat refine And.intro (by first | omega | assumption | (simp only [List.length_append, List.length_cons, List.length_nil]; omega) | (intros; first | omega | assumption | (simp_all; done) | grind)) ?_   -- r1.1
      refine s_00001101100 _ ?_
      simp (disch := omega) only [go_sem, ↓reduceIte, Nat.reduceEqDiff, Nat.reduceLT, Nat.reduceLeDiff, Nat.reduceAdd, Nat.reduceSub, Nat.reduceMul, reduceCtorEq, Int.reduceToNat, Int.reduceNeg, List.take_length, ← List.map_append] <;> first | rfl | omega | simp | simp_all
  have s_11000000000 : ∀ ρ, keepC [1, 3, 4] ρ = mkE O [(1, .bx (eRoute r)), (3, .row 62 2 []), (4, .bp 1 4)] → Y 9 #[true, true, false, false, false, false, false, false, false, false, false] ρ := by
    intro ρ hρ
    clear s_11111111111 s_11111111110 s_11111111100 s_11111111000 s_11111101100 s_11111110000 s_11111101000 s_11111001100 s_11101101100 s_11111100000 s_11111001000 s_11110001100 s_11101101000 s_11101001100 s_11001101100 s_01101101100 s_11111000000 s_11110001000 s_11101100000 s_11101001000 s_11100001100 s_11001101000 s_11001001100 s_10001101100 s_01101101000 s_01101001100 s_01001101100 s_11110000000 s_11101000000 s_11100001000 s_11001100000 s_11001001000 s_11000001100 s_10001101000 s_10001001100 s_01101100000 s_01101001000 s_01100001100 s_01001101000 s_01001001100 s_00001101100 s_10001100000 s_10001001000 s_10000001100 s_01101000000 s_01100001000 s_01001100000 s_01001001000 s_01000001100 s_00001101000 s_00001001100
    refine hY 8 _ [1, 3, 4] [2, 4, 7] _ (by kernel_rfl) rfl ⟨?_, ?_, ?_, trivial⟩
    · show opX _ _ _ _ _ _
      rw [hρ]
      refine opX_of (f := false) rfl (by decide) ?_
      simp (disch := omega) only [go_sem, ↓reduceIte, Nat.reduceEqDiff, Nat.reduceLT, Nat.reduceLeDiff, Nat.reduceAdd, Nat.reduceSub, Nat.reduceMul, reduceCtorEq, Int.reduceToNat, Int.reduceNeg, List.take_length, ← List.map_append]
      repeat refine And.intro (by first | omega | assumption | (simp only [List.length_append, List.length_cons, List.length_nil]; omega) | (intros; first | omega | assumption | (simp_all; done) | grind)) ?_   -- r1.1
      refine s_11100000000 _ ?_
      simp (disch := omega) only [go_sem, ↓reduceIte, Nat.reduceEqDiff, Nat.reduceLT, Nat.reduceLeDiff, Nat.reduceAdd, Nat.reduceSub, Nat.reduceMul, reduceCtorEq, Int.reduceToNat, Int.reduceNeg, List.take_length, ← List.map_append] <;> first | rfl | omega | simp | simp_all
    · show opX _ _ _ _ _ _
      rw [hρ]
      refine opX_of (f := false) rfl (by decide) ?_
      simp (disch := omega) only [go_sem, ↓reduceIte, Nat.reduceEqDiff, Nat.reduceLT, Nat.reduceLeDiff, Nat.reduceAdd, Nat.reduceSub, Nat.reduceMul, reduceCtorEq, Int.reduceToNat, Int.reduceNeg, List.take_length, ← List.map_append]
      repeat refine And.intro (by first | omega | assumption | (simp only [List.length_append, List.length_cons, List.length_nil]; omega) | (intros; first | omega | assumption | (simp_all; done) | grind)) ?_   -- r1.1
      refine s_11001000000 _ ?_
      simp (disch := omega) only [go_sem, ↓reduceIte, Nat.reduceEqDiff, Nat.reduceLT, Nat.reduceLeDiff, Nat.reduceAdd, Nat.reduceSub, Nat.reduceMul, reduceCtorEq, Int.reduceToNat, Int.reduceNeg, List.take_length, ← List.map_append] <;> first | rfl | omega | simp | simp_all
    · show opX _ _ _ _ _ _
      rw [hρ]
      refine opX_of (f := false) rfl (by decide) ?_
      simp (disch := omega) only [go_sem, ↓reduceIte, Nat.reduceEqDiff, Nat.reduceLT, Nat.reduceLeDiff, Nat.reduceAdd, Nat.reduceSub, Nat.reduceMul, reduceCtorEq, Int.reduceToNat, Int.reduceNeg, List.take_length, ← List.map_append]
      repeat refine And.intro (by first | omega | assumption | (simp only [List.length_append, List.length_cons, List.length_nil]; omega) | (intros; first | omega | assumption | (simp_all; done) | grind)) ?_   -- r1.1
      refine s_11000001000 _ ?_
      simp (disch := omega) only [go_sem, ↓reduceIte, Nat.reduceEqDiff, Nat.reduceLT, Nat.reduceLeDiff, Nat.reduceAdd, Nat.reduceSub, Nat.reduceMul, reduceCtorEq, Int.reduceToNat, Int.reduceNeg, List.take_length, ← List.map_append] <;> first | rfl | omega | simp | simp_all
  have s_10001000000 : ∀ ρ, keepC [1, 3, 7] ρ = mkE O [(1, .bx (eRoute r)), (3, .row 62 2 []), (7, .bp 1 9)] → Y 9 #[true, false, false, false, true, false, false, false, false, false, false] ρ := by
    intro ρ hρ
    clear s_11111111111 s_11111111110 s_11111111100 s_11111111000 s_11111101100 s_11111110000 s_11111101000 s_11111001100 s_11101101100 s_11111100000 s_11111001000 s_11110001100 s_11101101000 s_11101001100 s_11001101100 s_01101101100 s_11111000000 s_11110001000 s_11101100000 s_11101001000 s_11100001100 s_11001101000 s_11001001100 s_10001101100 s_01101101000 s_01101001100 s_01001101100 s_11110000000 s_11101000000 s_11100001000 s_11001100000 s_11001001000 s_11000001100 s_10001101000 s_10001001100 s_01101100000 s_01101001000 s_01100001100 s_01001101000 s_01001001100 s_00001101100 s_11100000000 s_11000001000 s_10000001100 s_01101000000 s_01100001000 s_01001100000 s_01001001000 s_01000001100 s_00001101000 s_00001001100
    refine hY 8 _ [1, 3, 7] [1, 5, 7] _ (by kernel_rfl) rfl ⟨?_, ?_, ?_, trivial⟩
    · show opX _ _ _ _ _ _
      rw [hρ]
      refine opX_of (f := false) rfl (by decide) ?_
      simp (disch := omega) only [go_sem, ↓reduceIte, Nat.reduceEqDiff, Nat.reduceLT, Nat.reduceLeDiff, Nat.reduceAdd, Nat.reduceSub, Nat.reduceMul, reduceCtorEq, Int.reduceToNat, Int.reduceNeg, List.take_length, ← List.map_append]
      repeat refine And.intro (by first | omega | assumption | (simp only [List.length_append, List.length_cons, List.length_nil]; omega) | (intros; first | omega | assumption | (simp_all; done) | grind)) ?_   -- r1.1
      refine s_11001000000 _ ?_
      simp (disch := omega) only [go_sem, ↓reduceIte, Nat.reduceEqDiff, Nat.reduceLT, Nat.reduceLeDiff, Nat.reduceAdd, Nat.reduceSub, Nat.reduceMul, reduceCtorEq, Int.reduceToNat, Int.reduceNeg, List.take_length, ← List.map_append] <;> first | rfl | omega | simp | simp_all
    · show opX _ _ _ _ _ _
      rw [hρ]
      refine opX_of (f := false) rfl (by decide) ?_
      simp (disch := omega) only [go_sem, ↓reduceIte, Nat.reduceEqDiff, Nat.reduceLT, Nat.reduceLeDiff, Nat.reduceAdd, Nat.reduceSub, Nat.reduceMul, reduceCtorEq, Int.reduceToNat, Int.reduceNeg, List.take_length, ← List.map_append]
      repeat refine And.intro (by first | omega | assumption | (simp only [List.length_append, List.length_cons, List.length_nil]; omega) | (intros; first | omega | assumption | (simp_all; done) | grind)) ?_   -- r1.1
      refine s_10001100000 _ ?_
      simp (disch := omega) only [go_sem, ↓reduceIte, Nat.reduceEqDiff, Nat.reduceLT, Nat.reduceLeDiff, Nat.reduceAdd, Nat.reduceSub, Nat.reduceMul, reduceCtorEq, Int.reduceToNat, Int.reduceNeg, List.take_length, ← List.map_append] <;> first | rfl | omega | simp | simp_all
    · show opX _ _ _ _ _ _
      rw [hρ]
      refine opX_of (f := false) rfl (by decide) ?_
      simp (disch := omega) only [go_sem, ↓reduceIte, Nat.reduceEqDiff, Nat.reduceLT, Nat.reduceLeDiff, Nat.reduceAdd, Nat.reduceSub, Nat.reduceMul, reduceCtorEq, Int.reduceToNat, Int.reduceNeg, List.take_length, ← List.map_append]
      repeat refine And.intro (by first | omega | assumption | (simp only [List.length_append, List.length_cons, List.length_nil]; omega) | (intros; first | omega | assumption | (simp_all; done) | grind)) ?_   -- r1.1
      refine s_10001001000 _ ?_
      simp (disch := omega) only [go_sem, ↓reduceIte, Nat.reduceEqDiff, Nat.reduceLT, Nat.reduceLeDiff, Nat.reduceAdd, Nat.reduceSub, Nat.reduceMul, reduceCtorEq, Int.reduceToNat, Int.reduceNeg, List.take_length, ← List.map_append] <;> first | rfl | omega | simp | simp_all
  have s_10000001000 : ∀ ρ, keepC [1, 3, 10] ρ = mkE O [(1, .bx (eRoute r)), (3, .row 62 2 []), (10, .bp 1 11)] → Y 9 #[true, false, false, false, false, false, false, true, false, false, false] ρ := by
    intro ρ hρ
    clear s_11111111111 s_11111111110 s_11111111100 s_11111111000 s_11111101100 s_11111110000 s_11111101000 s_11111001100 s_11101101100 s_11111100000 s_11111001000 s_11110001100 s_11101101000 s_11101001100 s_11001101100 s_01101101100 s_11111000000 s_11110001000 s_11101100000 s_11101001000 s_11100001100 s_11001101000 s_11001001100 s_10001101100 s_01101101000 s_01101001100 s_01001101100 s_11110000000 s_11101000000 s_11100001000 s_11001100000 s_11001001000 s_11000001100 s_10001101000 s_10001001100 s_01101100000 s_01101001000 s_01100001100 s_01001101000 s_01001001100 s_00001101100 s_11100000000 s_11001000000 s_10001100000 s_01101000000 s_01100001000 s_01001100000 s_01001001000 s_01000001100 s_00001101000 s_00001001100
    refine hY 8 _ [1, 3, 10] [1, 4, 8] _ (by kernel_rfl) rfl ⟨?_, ?_, ?_, trivial⟩
    · show opX _ _ _ _ _ _
      rw [hρ]
      refine opX_of (f := false) rfl (by decide) ?_
      simp (disch := omega) only [go_sem, ↓reduceIte, Nat.reduceEqDiff, Nat.reduceLT, Nat.reduceLeDiff, Nat.reduceAdd, Nat.reduceSub, Nat.reduceMul, reduceCtorEq, Int.reduceToNat, Int.reduceNeg, List.take_length, ← List.map_append]
      repeat refine And.intro (by first | omega | assumption | (simp only [List.length_append, List.length_cons, List.length_nil]; omega) | (intros; first | omega | assumption | (simp_all; done) | grind)) ?_   -- r1.1
      refine s_11000001000 _ ?_
      simp (disch := omega) only [go_sem, ↓reduceIte, Nat.reduceEqDiff, Nat.reduceLT, Nat.reduceLeDiff, Nat.reduceAdd, Nat.reduceSub, Nat.reduceMul, reduceCtorEq, Int.reduceToNat, Int.reduceNeg, List.take_length, ← List.map_append] <;> first | rfl | omega | simp | simp_all
    · show opX _ _ _ _ _ _
      rw [hρ]
      refine opX_of (f := false) rfl (by decide) ?_
      simp (disch := omega) only [go_sem, ↓reduceIte, Nat.reduceEqDiff, Nat.reduceLT, Nat.reduceLeDiff, Nat.reduceAdd, Nat.reduceSub, Nat.reduceMul, reduceCtorEq, Int.reduceToNat, Int.reduceNeg, List.take_length, ← List.map_append]
      repeat refine And.intro (by first | omega | assumption | (simp only [List.length_append, List.length_cons, List.length_nil]; omega) | (intros; first | omega | assumption | (simp_all; done) | grind)) ?_   -- r1.1
      refine s_10001001000 _ ?_
      simp (disch := omega) only [go_sem, ↓reduceIte, Nat.reduceEqDiff, Nat.reduceLT, Nat.reduceLeDiff, Nat.reduceAdd, Nat.reduceSub, Nat.reduceMul, reduceCtorEq, Int.reduceToNat, Int.reduceNeg, List.take_length, ← List.map_append] <;> first | rfl | omega | simp | simp_all
    · show opX _ _ _ _ _ _
      rw [hρ]
      refine opX_of (f := false) rfl (by decide) ?_
      simp (disch := omega) only [go_sem, ↓reduceIte, Nat.reduceEqDiff, Nat.reduceLT, Nat.reduceLeDiff, Nat.reduceAdd, Nat.reduceSub, Nat.reduceMul, reduceCtorEq, Int.reduceToNat, Int.reduceNeg, List.take_length, ← List.map_append]
      repeat refine And.intro (by first | omega | assumption | (simp only [List.length_append, List.length_cons, List.length_nil]; omega) | (intros; first | omega | assumption | (simp_all; done) | grind)) ?_   -- r1.1
      refine s_10000001100 _ ?_
      simp (disch := omega) only [go_sem, ↓reduceIte, Nat.reduceEqDiff, Nat.reduceLT, Nat.reduceLeDiff, Nat.reduceAdd, Nat.reduceSub, Nat.reduceMul, reduceCtorEq, Int.reduceToNat, Int.reduceNeg, List.take_length, ← List.map_append] <;> first | rfl | omega | simp | simp_all
  have s_01100000000 : ∀ ρ, keepC [1, 4, 5] ρ = mkE O [(1, .bx (eRoute r)), (4, .bp 1 4), (5, encS r.fPoints)] → Y 9 #[false, true, true, false, false, false, false, false, false, false, false] ρ := by
    intro ρ hρ
    clear s_11111111111 s_11111111110 s_11111111100 s_11111111000 s_11111101100 s_11111110000 s_11111101000 s_11111001100 s_11101101100 s_11111100000 s_11111001000 s_11110001100 s_11101101000 s_11101001100 s_11001101100 s_01101101100 s_11111000000 s_11110001000 s_11101100000 s_11101001000 s_11100001100 s_11001101000 s_11001001100 s_10001101100 s_01101101000 s_01101001100 s_01001101100 s_11110000000 s_11101000000 s_11100001000 s_11001100000 s_11001001000 s_11000001100 s_10001101000 s_10001001100 s_01101100000 s_01101001000 s_01100001100 s_01001101000 s_01001001100 s_00001101100 s_11001000000 s_11000001000 s_10001100000 s_10001001000 s_10000001100 s_01001100000 s_01001001000 s_01000001100 s_00001101000 s_00001001100
    refine hY 8 _ [1, 4, 5] [0, 4, 7] _ (by kernel_rfl) rfl ⟨?_, ?_, ?_, trivial⟩
    · show opX _ _ _ _ _ _
      rw [hρ]
      refine opX_of (f := false) rfl (by decide) ?_
      simp (disch := omega) only [go_sem, ↓reduceIte, Nat.reduceEqDiff, Nat.reduceLT, Nat.reduceLeDiff, Nat.reduceAdd, Nat.reduceSub, Nat.reduceMul, reduceCtorEq, Int.reduceToNat, Int.reduceNeg, List.take_length, ← List.map_append]
      repeat refine And.intro (by first | omega | assumption | (simp only [List.length_append, List.length_cons, List.length_nil]; omega) | (intros; first | omega | assumption | (simp_all; done) | grind)) ?_   -- r1.1
      refine s_11100000000 _ ?_
      simp (disch := omega) only [go_sem, ↓reduceIte, Nat.reduceEqDiff, Nat.reduceLT, Nat.reduceLeDiff, Nat.reduceAdd, Nat.reduceSub, Nat.reduceMul, reduceCtorEq, Int.reduceToNat, Int.reduceNeg, List.take_length, ← List.map_append] <;> first | rfl | omega | simp | simp_all
    · show opX _ _ _ _ _ _
      rw [hρ]
      refine opX_of (f := false) rfl (by decide) ?_
      simp (disch := omega) only [go_sem, ↓reduceIte, Nat.reduceEqDiff, Nat.reduceLT, Nat.reduceLeDiff, Nat.reduceAdd, Nat.reduceSub, Nat.reduceMul, reduceCtorEq, Int.reduceToNat, Int.reduceNeg, List.take_length, ← List.map_append]
      repeat refine And.intro (by first | omega | assumption | (simp only [List.length_append, List.length_cons, List.length_nil]; omega) | (intros; first | omega | assumption | (simp_all; done) | grind)) ?_   -- r1.1
      refine s_01101000000 _ ?_
      simp (disch := omega) only [go_sem, ↓reduceIte, Nat.reduceEqDiff, Nat.reduceLT, Nat.reduceLeDiff, Nat.reduceAdd, Nat.reduceSub, Nat.reduceMul, reduceCtorEq, Int.reduceToNat, Int.reduceNeg, List.take_length, ← List.map_append] <;> first | rfl | omega | simp | simp_all
    · show opX _ _ _ _ _ _
      rw [hρ]
      refine opX_of (f := false) rfl (by decide) ?_
      simp (disch := omega) only [go_sem, ↓reduceIte, Nat.reduceEqDiff, Nat.reduceLT, Nat.reduceLeDiff, Nat.reduceAdd, Nat.reduceSub, Nat.reduceMul, reduceCtorEq, Int.reduceToNat, Int.reduceNeg, List.take_length, ← List.map_append]
      repeat refine And.intro (by first | omega | assumption | (simp only [List.length_append, List.length_cons, List.length_nil]; omega) | (intros; first | omega | assumption | (simp_all; done) | grind)) ?_   -- r1.1
      refine s_01100001000 _ ?_
      simp (disch := omega) only [go_sem, ↓reduceIte, Nat.reduceEqDiff, Nat.reduceLT, Nat.reduceLeDiff, Nat.reduceAdd, Nat.reduceSub, Nat.reduceMul, reduceCtorEq, Int.reduceToNat, Int.reduceNeg, List.take_length, ← List.map_append] <;> first | rfl | omega | simp | simp_all
  have s_01001000000 : ∀ ρ, keepC [1, 4, 7] ρ = mkE O [(1, .bx (eRoute r)), (4, .bp 1 4), (7, .bp 1 9)] → Y 9 #[false, true, false, false, true, false, false, false, false, false, false] ρ := by
    intro ρ hρ
    clear s_11111111111 s_11111111110 s_11111111100 s_11111111000 s_11111101100 s_11111110000 s_11111101000 s_11111001100 s_11101101100 s_11111100000 s_11111001000 s_11110001100 s_11101101000 s_11101001100 s_11001101100 s_01101101100 s_11111000000 s_11110001000 s_11101100000 s_11101001000 s_11100001100 s_11001101000 s_11001001100 s_10001101100 s_01101101000 s_01101001100 s_01001101100 s_11110000000 s_11101000000 s_11100001000 s_11001100000 s_11001001000 s_11000001100 s_10001101000 s_10001001100 s_01101100000 s_01101001000 s_01100001100 s_01001101000 s_01001001100 s_00001101100 s_11100000000 s_11000001000 s_10001100000 s_10001001000 s_10000001100 s_01100001000 s_01000001100 s_00001101000 s_00001001100
    refine hY 8 _ [1, 4, 7] [0, 2, 5, 7] _ (by kernel_rfl) rfl ⟨?_, ?_, ?_, ?_, trivial⟩
    · show opX _ _ _ _ _ _
      rw [hρ]
      refine opX_of (f := false) rfl (by decide) ?_
      simp (disch := omega) only [go_sem, ↓reduceIte, Nat.reduceEqDiff, Nat.reduceLT, Nat.reduceLeDiff, Nat.reduceAdd, Nat.reduceSub, Nat.reduceMul, reduceCtorEq, Int.reduceToNat, Int.reduceNeg, List.take_length, ← List.map_append]
      repeat refine And.intro (by first | omega | assumption | (simp only [List.length_append, List.length_cons, List.length_nil]; omega) | (intros; first | omega | assumption | (simp_all; done) | grind)) ?_   -- r1.1
      refine s_11001000000 _ ?_
      simp (disch := omega) only [go_sem, ↓reduceIte, Nat.reduceEqDiff, Nat.reduceLT, Nat.reduceLeDiff, Nat.reduceAdd, Nat.reduceSub, Nat.reduceMul, reduceCtorEq, Int.reduceToNat, Int.reduceNeg, List.take_length, ← List.map_append] <;> first | rfl | omega | simp | simp_all
    · show opX _ _ _ _ _ _
      rw [hρ]
      refine opX_of (f := false) rfl (by decide) ?_
      simp (disch := omega) only [go_sem, ↓reduceIte, Nat.reduceEqDiff, Nat.reduceLT, Nat.reduceLeDiff, Nat.reduceAdd, Nat.reduceSub, Nat.reduceMul, reduceCtorEq, Int.reduceToNat, Int.reduceNeg, List.take_length, ← List.map_append]
      repeat refine And.intro (by first | omega | assumption | (simp only [List.length_append, List.length_cons, List.length_nil]; omega) | (intros; first | omega | assumption | (simp_all; done) | grind)) ?_   -- r1.1
      refine s_01101000000 _ ?_
      simp (disch := omega) only [go_sem, ↓reduceIte, Nat.reduceEqDiff, Nat.reduceLT, Nat.reduceLeDiff, Nat.reduceAdd, Nat.reduceSub, Nat.reduceMul, reduceCtorEq, Int.reduceToNat, Int.reduceNeg, List.take_length, ← List.map_append] <;> first | rfl | omega | simp | simp_all
    · show opX _ _ _ _ _ _
      rw [hρ]
      refine opX_of (f := false) rfl (by decide) ?_
      simp (disch := omega) only [go_sem, ↓reduceIte, Nat.reduceEqDiff, Nat.reduceLT, Nat.reduceLeDiff, Nat.reduceAdd, Nat.reduceSub, Nat.reduceMul, reduceCtorEq, Int.reduceToNat, Int.reduceNeg, List.take_length, ← List.map_append]
      repeat refine And.intro (by first | omega | assumption | (simp only [List.length_append, List.length_cons, List.length_nil]; omega) | (intros; first | omega | assumption | (simp_all; done) | grind)) ?_   -- r1.1
      refine s_01001100000 _ ?_
      simp (disch := omega) only [go_sem, ↓reduceIte, Nat.reduceEqDiff, Nat.reduceLT, Nat.reduceLeDiff, Nat.reduceAdd, Nat.reduceSub, Nat.reduceMul, reduceCtorEq, Int.reduceToNat, Int.reduceNeg, List.take_length, ← List.map_append] <;> first | rfl | omega | simp | simp_all
    · show opX _ _ _ _ _ _
      rw [hρ]
      refine opX_of (f := false) rfl (by decide) ?_
      simp (disch := omega) only [go_sem, ↓reduceIte, Nat.reduceEqDiff, Nat.reduceLT, Nat.reduceLeDiff, Nat.reduceAdd, Nat.reduceSub, Nat.reduceMul, reduceCtorEq, Int.reduceToNat, Int.reduceNeg, List.take_length, ← List.map_append]
      repeat refine And.intro (by first | omega | assumption | (simp only [List.length_append, List.length_cons, List.length_nil]; omega) | (intros; first | omega | assumption | (simp_all; done) | grind)) ?_   -- r1.1
      refine s_01001001000 _ ?_
      simp (disch := omega) only [go_sem, ↓reduceIte, Nat.reduceEqDiff, Nat.reduceLT, Nat.reduceLeDiff, Nat.reduceAdd, Nat.reduceSub, Nat.reduceMul, reduceCtorEq, Int.reduceToNat, Int.reduceNeg, List.take_length, ← List.map_append] <;> first | rfl | omega | simp | simp_all
  have s_01000001000 : ∀ ρ, keepC [1, 4, 10] ρ = mkE O [(1, .bx (eRoute r)), (4, .bp 1 4), (10, .bp 1 11)] → Y 9 #[false, true, false, false, false, false, false, true, false, false, false] ρ := by
    intro ρ hρ
    clear s_11111111111 s_11111111110 s_11111111100 s_11111111000 s_11111101100 s_11111110000 s_11111101000 s_11111001100 s_11101101100 s_11111100000 s_11111001000 s_11110001100 s_11101101000 s_11101001100 s_11001101100 s_01101101100 s_11111000000 s_11110001000 s_11101100000 s_11101001000 s_11100001100 s_11001101000 s_11001001100 s_10001101100 s_01101101000 s_01101001100 s_01001101100 s_11110000000 s_11101000000 s_11100001000 s_11001100000 s_11001001000 s_11000001100 s_10001101000 s_10001001100 s_01101100000 s_01101001000 s_01100001100 s_01001101000 s_01001001100 s_00001101100 s_11100000000 s_11001000000 s_10001100000 s_10001001000 s_10000001100 s_01101000000 s_01001100000 s_00001101000 s_00001001100
    refine hY 8 _ [1, 4, 10] [0, 2, 4, 8] _ (by kernel_rfl) rfl ⟨?_, ?_, ?_, ?_, trivial⟩
    · show opX _ _ _ _ _ _
      rw [hρ]
      refine opX_of (f := false) rfl (by decide) ?_
      simp (disch := omega) only [go_sem, ↓reduceIte, Nat.reduceEqDiff, Nat.reduceLT, Nat.reduceLeDiff, Nat.reduceAdd, Nat.reduceSub, Nat.reduceMul, reduceCtorEq, Int.reduceToNat, Int.reduceNeg, List.take_length, ← List.map_append]
      repeat refine And.intro (by first | omega | assumption | (simp only [List.length_append, List.length_cons, List.length_nil]; omega) | (intros; first | omega | assumption | (simp_all; done) | grind)) ?_   -- r1.1
      refine s_11000001000 _ ?_
      simp (disch := omega) only [go_sem, ↓reduceIte, Nat.reduceEqDiff, Nat.reduceLT, Nat.reduceLeDiff, Nat.reduceAdd, Nat.reduceSub, Nat.reduceMul, reduceCtorEq, Int.reduceToNat, Int.reduceNeg, List.take_length, ← List.map_append] <;> first | rfl | omega | simp | simp_all
    · show opX _ _ _ _ _ _
      rw [hρ]
      refine opX_of (f := false) rfl (by decide) ?_
      simp (disch := omega) only [go_sem, ↓reduceIte, Nat.reduceEqDiff, Nat.reduceLT, Nat.reduceLeDiff, Nat.reduceAdd, Nat.reduceSub, Nat.reduceMul, reduceCtorEq, Int.reduceToNat, Int.reduceNeg, List.take_length, ← List.map_append]
      repeat refine And.intro (by first | omega | assumption | (simp only [List.length_append, List.length_cons, List.length_nil]; omega) | (intros; first | omega | assumption | (simp_all; done) | grind)) ?_   -- r1.1
      refine s_01100001000 _ ?_
      simp (disch := omega) only [go_sem, ↓reduceIte, Nat.reduceEqDiff, Nat.reduceLT, Nat.reduceLeDiff, Nat.reduceAdd, Nat.reduceSub, Nat.reduceMul, reduceCtorEq, Int.reduceToNat, Int.reduceNeg, List.take_length, ← List.map_append] <;> first | rfl | omega | simp | simp_all
    · show opX _ _ _ _ _ _
      rw [hρ]
      refine opX_of (f := false) rfl (by decide) ?_
      simp (disch := omega) only [go_sem, ↓reduceIte, Nat.reduceEqDiff, Nat.reduceLT, Nat.reduceLeDiff, Nat.reduceAdd, Nat.reduceSub, Nat.reduceMul, reduceCtorEq, Int.reduceToNat, Int.reduceNeg, List.take_length, ← List.map_append]
      repeat refine And.intro (by first | omega | assumption | (simp only [List.length_append, List.length_cons, List.length_nil]; omega) | (intros; first | omega | assumption | (simp_all; done) | grind)) ?_   -- r1.1
      refine s_01001001000 _ ?_
      simp (disch := omega) only [go_sem, ↓reduceIte, Nat.reduceEqDiff, Nat.reduceLT, Nat.reduceLeDiff, Nat.reduceAdd, Nat.reduceSub, Nat.reduceMul, reduceCtorEq, Int.reduceToNat, Int.reduceNeg, List.take_length, ← List.map_append] <;> first | rfl | omega | simp | simp_all
    · show opX _ _ _ _ _ _
      rw [hρ]
      refine opX_of (f := false) rfl (by decide) ?_
      simp (disch := omega) only [go_sem, ↓reduceIte, Nat.reduceEqDiff, Nat.reduceLT, Nat.reduceLeDiff, Nat.reduceAdd, Nat.reduceSub, Nat.reduceMul, reduceCtorEq, Int.reduceToNat, Int.reduceNeg, List.take_length, ← List.map_append]
      repeat refine And.intro (by first | omega | assumption | (simp only [List.length_append, List.length_cons, List.length_nil]; omega) | (intros; first | omega | assumption | (simp_all; done) | grind)) ?_   -- r1.1
      refine s_01000001100 _ ?_
      simp (disch := omega) only [go_sem, ↓reduceIte, Nat.reduceEqDiff, Nat.reduceLT, Nat.reduceLeDiff, Nat.reduceAdd, Nat.reduceSub, Nat.reduceMul, reduceCtorEq, Int.reduceToNat, Int.reduceNeg, List.take_length, ← List.map_append] <;> first | rfl | omega | simp | simp_all
  have s_00001100000 : ∀ ρ, keepC [1, 7, 8] ρ = mkE O [(1, .bx (eRoute r)), (7, .bp 1 9), (8, encS r.fOverPoints)] → Y 9 #[false, false, false, false, true, true, false, false, false, false, false] ρ := by
    intro ρ hρ
    clear s_11111111111 s_11111111110 s_11111111100 s_11111111000 s_11111101100 s_11111110000 s_11111101000 s_11111001100 s_11101101100 s_11111100000 s_11111001000 s_11110001100 s_11101101000 s_11101001100 s_11001101100 s_01101101100 s_11111000000 s_11110001000 s_11101100000 s_11101001000 s_11100001100 s_11001101000 s_11001001100 s_10001101100 s_01101101000 s_01101001100 s_01001101100 s_11110000000 s_11101000000 s_11100001000 s_11001100000 s_11001001000 s_11000001100 s_10001101000 s_10001001100 s_01101100000 s_01101001000 s_01100001100 s_01001101000 s_01001001100 s_00001101100 s_11100000000 s_11001000000 s_11000001000 s_10001001000 s_10000001100 s_01101000000 s_01100001000 s_01001001000 s_01000001100 s_00001001100
    refine hY 8 _ [1, 7, 8] [0, 1, 7] _ (by kernel_rfl) rfl ⟨?_, ?_, ?_, trivial⟩
    · show opX _ _ _ _ _ _
      rw [hρ]
      refine opX_of (f := false) rfl (by decide) ?_
      simp (disch := omega) only [go_sem, ↓reduceIte, Nat.reduceEqDiff, Nat.reduceLT, Nat.reduceLeDiff, Nat.reduceAdd, Nat.reduceSub, Nat.reduceMul, reduceCtorEq, Int.reduceToNat, Int.reduceNeg, List.take_length, ← List.map_append]
      repeat refine And.intro (by first | omega | assumption | (simp only [List.length_append, List.length_cons, List.length_nil]; omega) | (intros; first | omega | assumption | (simp_all; done) | grind)) ?_   -- r1.1
      refine s_10001100000 _ ?_
      simp (disch := omega) only [go_sem, ↓reduceIte, Nat.reduceEqDiff, Nat.reduceLT, Nat.reduceLeDiff, Nat.reduceAdd, Nat.reduceSub, Nat.reduceMul, reduceCtorEq, Int.reduceToNat, Int.reduceNeg, List.take_length, ← List.map_append] <;> first | rfl | omega | simp | simp_all
    · show opX _ _ _ _ _ _
      rw [hρ]
      refine opX_of (f := false) rfl (by decide) ?_
      simp (disch := omega) only [go_sem, ↓reduceIte, Nat.reduceEqDiff, Nat.reduceLT, Nat.reduceLeDiff, Nat.reduceAdd, Nat.reduceSub, Nat.reduceMul, reduceCtorEq, Int.reduceToNat, Int.reduceNeg, List.take_length, ← List.map_append]
      repeat refine And.intro (by first | omega | assumption | (simp only [List.length_append, List.length_cons, List.length_nil]; omega) | (intros; first | omega | assumption | (simp_all; done) | grind)) ?_   -- r1.1
      refine s_01001100000 _ ?_
      simp (disch := omega) only [go_sem, ↓reduceIte, Nat.reduceEqDiff, Nat.reduceLT, Nat.reduceLeDiff, Nat.reduceAdd, Nat.reduceSub, Nat.reduceMul, reduceCtorEq, Int.reduceToNat, Int.reduceNeg, List.take_length, ← List.map_append] <;> first | rfl | omega | simp | simp_all
    · show opX _ _ _ _ _ _
      rw [hρ]
      refine opX_of (f := false) rfl (by decide) ?_
      simp (disch := omega) only [go_sem, ↓reduceIte, Nat.reduceEqDiff, Nat.reduceLT, Nat.reduceLeDiff, Nat.reduceAdd, Nat.reduceSub, Nat.reduceMul, reduceCtorEq, Int.reduceToNat, Int.reduceNeg, List.take_length, ← List.map_append]
      repeat refine And.intro (by first | omega | assumption | (simp only [List.length_append, List.length_cons, List.length_nil]; omega) | (intros; first | omega | assumption | (simp_all; done) | grind)) ?_   -- r1.1
      refine s_00001101000 _ ?_
      simp (disch := omega) only [go_sem, ↓reduceIte, Nat.reduceEqDiff, Nat.reduceLT, Nat.reduceLeDiff, Nat.reduceAdd, Nat.reduceSub, Nat.reduceMul, reduceCtorEq, Int.reduceToNat, Int.reduceNeg, List.take_length, ← List.map_append] <;> first | rfl | omega | simp | simp_all
  have s_00001001000 : ∀ ρ, keepC [1, 7, 10] ρ = mkE O [(1, .bx (eRoute r)), (7, .bp 1 9), (10, .bp 1 11)] → Y 9 #[false, false, false, false, true, false, false, true, false, false, false] ρ := by
    intro ρ hρ
    clear s_11111111111 s_11111111110 s_11111111100 s_11111111000 s_11111101100 s_11111110000 s_11111101000 s_11111001100 s_11101101100 s_11111100000 s_11111001000 s_11110001100 s_11101101000 s_11101001100 s_11001101100 s_01101101100 s_11111000000 s_11110001000 s_11101100000 s_11101001000 s_11100001100 s_11001101000 s_11001001100 s_10001101100 s_01101101000 s_01101001100 s_01001101100 s_11110000000 s_11101000000 s_11100001000 s_11001100000 s_11001001000 s_11000001100 s_10001101000 s_10001001100 s_01101100000 s_01101001000 s_01100001100 s_01001101000 s_01001001100 s_00001101100 s_11100000000 s_11001000000 s_11000001000 s_10001100000 s_10000001100 s_01101000000 s_01100001000 s_01001100000 s_01000001100
    refine hY 8 _ [1, 7, 10] [0, 1, 5, 8] _ (by kernel_rfl) rfl ⟨?_, ?_, ?_, ?_, trivial⟩
    · show opX _ _ _ _ _ _
      rw [hρ]
      refine opX_of (f := false) rfl (by decide) ?_
      simp (disch := omega) only [go_sem, ↓reduceIte, Nat.reduceEqDiff, Nat.reduceLT, Nat.reduceLeDiff, Nat.reduceAdd, Nat.reduceSub, Nat.reduceMul, reduceCtorEq, Int.reduceToNat, Int.reduceNeg, List.take_length, ← List.map_append]
      repeat refine And.intro (by first | omega | assumption | (simp only [List.length_append, List.length_cons, List.length_nil]; omega) | (intros; first | omega | assumption | (simp_all; done) | grind)) ?_   -- r1.1
      refine s_10001001000 _ ?_
      simp (disch := omega) only [go_sem, ↓reduceIte, Nat.reduceEqDiff, Nat.reduceLT, Nat.reduceLeDiff, Nat.reduceAdd, Nat.reduceSub, Nat.reduceMul, reduceCtorEq, Int.reduceToNat, Int.reduceNeg, List.take_length, ← List.map_append] <;> first | rfl | omega | simp | simp_all
    · show opX _ _ _ _ _ _
      rw [hρ]
      refine opX_of (f := false) rfl (by decide) ?_
      simp (disch := omega) only [go_sem, ↓reduceIte, Nat.reduceEqDiff, Nat.reduceLT, Nat.reduceLeDiff, Nat.reduceAdd, Nat.reduceSub, Nat.reduceMul, reduceCtorEq, Int.reduceToNat, Int.reduceNeg, List.take_length, ← List.map_append]
      repeat refine And.intro (by first | omega | assumption | (simp only [List.length_append, List.length_cons, List.length_nil]; omega) | (intros; first | omega | assumption | (simp_all; done) | grind)) ?_   -- r1.1
      refine s_01001001000 _ ?_
      simp (disch := omega) only [go_sem, ↓reduceIte, Nat.reduceEqDiff, Nat.reduceLT, Nat.reduceLeDiff, Nat.reduceAdd, Nat.reduceSub, Nat.reduceMul, reduceCtorEq, Int.reduceToNat, Int.reduceNeg, List.take_length, ← List.map_append] <;> first | rfl | omega | simp | simp_all
    · show opX _ _ _ _ _ _
      rw [hρ]
      refine opX_of (f := false) rfl (by decide) ?_
      simp (disch := omega) only [go_sem, ↓reduceIte, Nat.reduceEqDiff, Nat.reduceLT, Nat.reduceLeDiff, Nat.reduceAdd, Nat.reduceSub, Nat.reduceMul, reduceCtorEq, Int.reduceToNat, Int.reduceNeg, List.take_length, ← List.map_append]
      repeat refine And.intro (by first | omega | assumption | (simp only [List.length_append, List.length_cons, List.length_nil]; omega) | (intros; first | omega | assumption | (simp_all; done) | grind)) ?_   -- r1.1
      refine s_00001101000 _ ?_
      simp (disch := omega) only [go_sem, ↓reduceIte, Nat.reduceEqDiff, Nat.reduceLT, Nat.reduceLeDiff, Nat.reduceAdd, Nat.reduceSub, Nat.reduceMul, reduceCtorEq, Int.reduceToNat, Int.reduceNeg, List.take_length, ← List.map_append] <;> first | rfl | omega | simp | simp_all
    · show opX _ _ _ _ _ _
      rw [hρ]
      refine opX_of (f := false) rfl (by decide) ?_
      simp (disch := omega) only [go_sem, ↓reduceIte, Nat.reduceEqDiff, Nat.reduceLT, Nat.reduceLeDiff, Nat.reduceAdd, Nat.reduceSub, Nat.reduceMul, reduceCtorEq, Int.reduceToNat, Int.reduceNeg, List.take_length, ← List.map_append]
      repeat refine And.intro (by first | omega | assumption | (simp only [List.length_append, List.length_cons, List.length_nil]; omega) | (intros; first | omega | assumption | (simp_all; done) | grind)) ?_   -- r1.1
      refine s_00001001100 _ ?_
      simp (disch := omega) only [go_sem, ↓reduceIte, Nat.reduceEqDiff, Nat.reduceLT, Nat.reduceLeDiff, Nat.reduceAdd, Nat.reduceSub, Nat.reduceMul, reduceCtorEq, Int.reduceToNat, Int.reduceNeg, List.take_length, ← List.map_append] <;> first | rfl | omega | simp | simp_all
  have s_00000001100 : ∀ ρ, keepC [1, 10, 11] ρ = mkE O [(1, .bx (eRoute r)), (10, .bp 1 11), (11, encS r.fFlank)] → Y 9 #[false, false, false, false, false, false, false, true, true, false, false] ρ := by
    intro ρ hρ
    clear s_11111111111 s_11111111110 s_11111111100 s_11111111000 s_11111101100 s_11111110000 s_11111101000 s_11111001100 s_11101101100 s_11111100000 s_11111001000 s_11110001100 s_11101101000 s_11101001100 s_11001101100 s_01101101100 s_11111000000 s_11110001000 s_11101100000 s_11101001000 s_11100001100 s_11001101000 s_11001001100 s_10001101100 s_01101101000 s_01101001100 s_01001101100 s_11110000000 s_11101000000 s_11100001000 s_11001100000 s_11001001000 s_11000001100 s_10001101000 s_10001001100 s_01101100000 s_01101001000 s_01100001100 s_01001101000 s_01001001100 s_00001101100 s_11100000000 s_11001000000 s_11000001000 s_10001100000 s_10001001000 s_01101000000 s_01100001000 s_01001100000 s_01001001000 s_00001101000
    refine hY 8 _ [1, 10, 11] [0, 1, 4] _ (by kernel_rfl) rfl ⟨?_, ?_, ?_, trivial⟩
    · show opX _ _ _ _ _ _
      rw [hρ]
      refine opX_of (f := false) rfl (by decide) ?_
      simp (disch := omega) only [go_sem, ↓reduceIte, Nat.reduceEqDiff, Nat.reduceLT, Nat.reduceLeDiff, Nat.reduceAdd, Nat.reduceSub, Nat.reduceMul, reduceCtorEq, Int.reduceToNat, Int.reduceNeg, List.take_length, ← List.map_append]
      repeat refine And.intro (by first | omega | assumption | (simp only [List.length_append, List.length_cons, List.length_nil]; omega) | (intros; first | omega | assumption | (simp_all; done) | grind)) ?_   -- r1.1
      refine s_10000001100 _ ?_
      simp (disch := omega) only [go_sem, ↓reduceIte, Nat.reduceEqDiff, Nat.reduceLT, Nat.reduceLeDiff, Nat.reduceAdd, Nat.reduceSub, Nat.reduceMul, reduceCtorEq, Int.reduceToNat, Int.reduceNeg, List.take_length, ← List.map_append] <;> first | rfl | omega | simp | simp_all
    · show opX _ _ _ _ _ _
      rw [hρ]
      refine opX_of (f := false) rfl (by decide) ?_
      simp (disch := omega) only [go_sem, ↓reduceIte, Nat.reduceEqDiff, Nat.reduceLT, Nat.reduceLeDiff, Nat.reduceAdd, Nat.reduceSub, Nat.reduceMul, reduceCtorEq, Int.reduceToNat, Int.reduceNeg, List.take_length, ← List.map_append]
      repeat refine And.intro (by first | omega | assumption | (simp only [List.length_append, List.length_cons, List.length_nil]; omega) | (intros; first | omega | assumption | (simp_all; done) | grind)) ?_   -- r1.1
      refine s_01000001100 _ ?_
      simp (disch := omega) only [go_sem, ↓reduceIte, Nat.reduceEqDiff, Nat.reduceLT, Nat.reduceLeDiff, Nat.reduceAdd, Nat.reduceSub, Nat.reduceMul, reduceCtorEq, Int.reduceToNat, Int.reduceNeg, List.take_length, ← List.map_append] <;> first | rfl | omega | simp | simp_all
    · show opX _ _ _ _ _ _
      rw [hρ]
      refine opX_of (f := false) rfl (by decide) ?_
      simp (disch := omega) only [go_sem, ↓reduceIte, Nat.reduceEqDiff, Nat.reduceLT, Nat.reduceLeDiff, Nat.reduceAdd, Nat.reduceSub, Nat.reduceMul, reduceCtorEq, Int.reduceToNat, Int.reduceNeg, List.take_length, ← List.map_append]
      repeat refine And.intro (by first | omega | assumption | (simp only [List.length_append, List.length_cons, List.length_nil]; omega) | (intros; first | omega | assumption | (simp_all; done) | grind)) ?_   -- r1.1
      refine s_00001001100 _ ?_
      simp (disch := omega) only [go_sem, ↓reduceIte, Nat.reduceEqDiff, Nat.reduceLT, Nat.reduceLeDiff, Nat.reduceAdd, Nat.reduceSub, Nat.reduceMul, reduceCtorEq, Int.reduceToNat, Int.reduceNeg, List.take_length, ← List.map_append] <;> first | rfl | omega | simp | simp_all
  have s_10000000000 : ∀ ρ, keepC [1, 3] ρ = mkE O [(1, .bx (eRoute r)), (3, .row 62 2 [])] → Y 10 #[true, false, false, false, false, false, false, false, false, false, false] ρ := by
    intro ρ hρ
    clear s_11111111111 s_11111111110 s_11111111100 s_11111111000 s_11111101100 s_11111110000 s_11111101000 s_11111001100 s_11101101100 s_11111100000 s_11111001000 s_11110001100 s_11101101000 s_11101001100 s_11001101100 s_01101101100 s_11111000000 s_11110001000 s_11101100000 s_11101001000 s_11100001100 s_11001101000 s_11001001100 s_10001101100 s_01101101000 s_01101001100 s_01001101100 s_11110000000 s_11101000000 s_11100001000 s_11001100000 s_11001001000 s_11000001100 s_10001101000 s_10001001100 s_01101100000 s_01101001000 s_01100001100 s_01001101000 s_01001001100 s_00001101100 s_11100000000 s_11001000000 s_11000001000 s_10001100000 s_10001001000 s_10000001100 s_01101000000 s_01100001000 s_01001100000 s_01001001000 s_01000001100 s_00001101000 s_00001001100 s_01100000000 s_01001000000 s_01000001000 s_00001100000 s_00001001000 s_00000001100
    refine hY 9 _ [1, 3] [1, 4, 7] _ (by kernel_rfl) rfl ⟨?_, ?_, ?_, trivial⟩
    · show opX _ _ _ _ _ _
      rw [hρ]
      refine opX_of (f := false) rfl (by decide) ?_
      simp (disch := omega) only [go_sem, ↓reduceIte, Nat.reduceEqDiff, Nat.reduceLT, Nat.reduceLeDiff, Nat.reduceAdd, Nat.reduceSub, Nat.reduceMul, reduceCtorEq, Int.reduceToNat, Int.reduceNeg, List.take_length, ← List.map_append]
      repeat refine And.intro (by first | omega | assumption | (simp only [List.length_append, List.length_cons, List.length_nil]; omega) | (intros; first | omega | assumption | (simp_all; done) | grind)) ?_   -- r1.1
      refine s_11000000000 _ ?_
      simp (disch := omega) only [go_sem, ↓reduceIte, Nat.reduceEqDiff, Nat.reduceLT, Nat.reduceLeDiff, Nat.reduceAdd, Nat.reduceSub, Nat.reduceMul, reduceCtorEq, Int.reduceToNat, Int.reduceNeg, List.take_length, ← List.map_append] <;> first | rfl | omega | simp | simp_all
    · show opX _ _ _ _ _ _
      rw [hρ]
      refine opX_of (f := false) rfl (by decide) ?_
      simp (disch := omega) only [go_sem, ↓reduceIte, Nat.reduceEqDiff, Nat.reduceLT, Nat.reduceLeDiff, Nat.reduceAdd, Nat.reduceSub, Nat.reduceMul, reduceCtorEq, Int.reduceToNat, Int.reduceNeg, List.take_length, ← List.map_append]
      repeat refine And.intro (by first | omega | assumption | (simp only [List.length_append, List.length_cons, List.length_nil]; omega) | (intros; first | omega | assumption | (simp_all; done) | grind)) ?_   -- r1.1
      refine s_10001000000 _ ?_
      simp (disch := omega) only [go_sem, ↓reduceIte, Nat.reduceEqDiff, Nat.reduceLT, Nat.reduceLeDiff, Nat.reduceAdd, Nat.reduceSub, Nat.reduceMul, reduceCtorEq, Int.reduceToNat, Int.reduceNeg, List.take_length, ← List.map_append] <;> first | rfl | omega | simp | simp_all
    · show opX _ _ _ _ _ _
      rw [hρ]
      refine opX_of (f := false) rfl (by decide) ?_
      simp (disch := omega) only [go_sem, ↓reduceIte, Nat.reduceEqDiff, Nat.reduceLT, Nat.reduceLeDiff, Nat.reduceAdd, Nat.reduceSub, Nat.reduceMul, reduceCtorEq, Int.reduceToNat, Int.reduceNeg, List.take_length, ← List.map_append]
      repeat refine And.intro (by first | omega | assumption | (simp only [List.length_append, List.length_cons, List.length_nil]; omega) | (intros; first | omega | assumption | (simp_all; done) | grind)) ?_   -- r1.1
      refine s_10000001000 _ ?_
      simp (disch := omega) only [go_sem, ↓reduceIte, Nat.reduceEqDiff, Nat.reduceLT, Nat.reduceLeDiff, Nat.reduceAdd, Nat.reduceSub, Nat.reduceMul, reduceCtorEq, Int.reduceToNat, Int.reduceNeg, List.take_length, ← List.map_append] <;> first | rfl | omega | simp | simp_all
  have s_01000000000 : ∀ ρ, keepC [1, 4] ρ = mkE O [(1, .bx (eRoute r)), (4, .bp 1 4)] → Y 10 #[false, true, false, false, false, false, false, false, false, false, false] ρ := by
    intro ρ hρ
    clear s_11111111111 s_11111111110 s_11111111100 s_11111111000 s_11111101100 s_11111110000 s_11111101000 s_11111001100 s_11101101100 s_11111100000 s_11111001000 s_11110001100 s_11101101000 s_11101001100 s_11001101100 s_01101101100 s_11111000000 s_11110001000 s_11101100000 s_11101001000 s_11100001100 s_11001101000 s_11001001100 s_10001101100 s_01101101000 s_01101001100 s_01001101100 s_11110000000 s_11101000000 s_11100001000 s_11001100000 s_11001001000 s_11000001100 s_10001101000 s_10001001100 s_01101100000 s_01101001000 s_01100001100 s_01001101000 s_01001001100 s_00001101100 s_11100000000 s_11001000000 s_11000001000 s_10001100000 s_10001001000 s_10000001100 s_01101000000 s_01100001000 s_01001100000 s_01001001000 s_01000001100 s_00001101000 s_00001001100 s_10001000000 s_10000001000 s_00001100000 s_00001001000 s_00000001100
    refine hY 9 _ [1, 4] [0, 2, 4, 7] _ (by kernel_rfl) rfl ⟨?_, ?_, ?_, ?_, trivial⟩
    · show opX _ _ _ _ _ _
      rw [hρ]
      refine opX_of (f := false) rfl (by decide) ?_
      simp (disch := omega) only [go_sem, ↓reduceIte, Nat.reduceEqDiff, Nat.reduceLT, Nat.reduceLeDiff, Nat.reduceAdd, Nat.reduceSub, Nat.reduceMul, reduceCtorEq, Int.reduceToNat, Int.reduceNeg, List.take_length, ← List.map_append]
      repeat refine And.intro (by first | omega | assumption | (simp only [List.length_append, List.length_cons, List.length_nil]; omega) | (intros; first | omega | assumption | (simp_all; done) | grind)) ?_   -- r1.1
      refine s_11000000000 _ ?_
      simp (disch := omega) only [go_sem, ↓reduceIte, Nat.reduceEqDiff, Nat.reduceLT, Nat.reduceLeDiff, Nat.reduceAdd, Nat.reduceSub, Nat.reduceMul, reduceCtorEq, Int.reduceToNat, Int.reduceNeg, List.take_length, ← List.map_append] <;> first | rfl | omega | simp | simp_all
    · show opX _ _ _ _ _ _
      rw [hρ]
      refine opX_of (f := false) rfl (by decide) ?_
      simp (disch := omega) only [go_sem, ↓reduceIte, Nat.reduceEqDiff, Nat.reduceLT, Nat.reduceLeDiff, Nat.reduceAdd, Nat.reduceSub, Nat.reduceMul, reduceCtorEq, Int.reduceToNat, Int.reduceNeg, List.take_length, ← List.map_append]
      repeat refine And.intro (by first | omega | assumption | (simp only [List.length_append, List.length_cons, List.length_nil]; omega) | (intros; first | omega | assumption | (simp_all; done) | grind)) ?_   -- r1.1
      refine s_01100000000 _ ?_
      simp (disch := omega) only [go_sem, ↓reduceIte, Nat.reduceEqDiff, Nat.reduceLT, Nat.reduceLeDiff, Nat.reduceAdd, Nat.reduceSub, Nat.reduceMul, reduceCtorEq, Int.reduceToNat, Int.reduceNeg, List.take_length, ← List.map_append] <;> first | rfl | omega | simp | simp_all
    · show opX _ _ _ _ _ _
      rw [hρ]
      refine opX_of (f := false) rfl (by decide) ?_
      simp (disch := omega) only [go_sem, ↓reduceIte, Nat.reduceEqDiff, Nat.reduceLT, Nat.reduceLeDiff, Nat.reduceAdd, Nat.reduceSub, Nat.reduceMul, reduceCtorEq, Int.reduceToNat, Int.reduceNeg, List.take_length, ← List.map_append]
      repeat refine And.intro (by first | omega | assumption | (simp only [List.length_append, List.length_cons, List.length_nil]; omega) | (intros; first | omega | assumption | (simp_all; done) | grind)) ?_   -- r1.1
      refine s_01001000000 _ ?_
      simp (disch := omega) only [go_sem, ↓reduceIte, Nat.reduceEqDiff, Nat.reduceLT, Nat.reduceLeDiff, Nat.reduceAdd, Nat.reduceSub, Nat.reduceMul, reduceCtorEq, Int.reduceToNat, Int.reduceNeg, List.take_length, ← List.map_append] <;> first | rfl | omega | simp | simp_all
    · show opX _ _ _ _ _ _
      rw [hρ]
      refine opX_of (f := false) rfl (by decide) ?_
      simp (disch := omega) only [go_sem, ↓reduceIte, Nat.reduceEqDiff, Nat.reduceLT, Nat.reduceLeDiff, Nat.reduceAdd, Nat.reduceSub, Nat.reduceMul, reduceCtorEq, Int.reduceToNat, Int.reduceNeg, List.take_length, ← List.map_append]
      repeat refine And.intro (by first | omega | assumption | (simp only [List.length_append, List.length_cons, List.length_nil]; omega) | (intros; first | omega | assumption | (simp_all; done) | grind)) ?_   -- r1.1
      refine s_01000001000 _ ?_
      simp (disch := omega) only [go_sem, ↓reduceIte, Nat.reduceEqDiff, Nat.reduceLT, Nat.reduceLeDiff, Nat.reduceAdd, Nat.reduceSub, Nat.reduceMul, reduceCtorEq, Int.reduceToNat, Int.reduceNeg, List.take_length, ← List.map_append] <;> first | rfl | omega | simp | simp_all
  have s_00001000000 : ∀ ρ, keepC [1, 7] ρ = mkE O [(1, .bx (eRoute r)), (7, .bp 1 9)] → Y 10 #[false, false, false, false, true, false, false, false, false, false, false] ρ := by
    intro ρ hρ
    clear s_11111111111 s_11111111110 s_11111111100 s_11111111000 s_11111101100 s_11111110000 s_11111101000 s_11111001100 s_11101101100 s_11111100000 s_11111001000 s_11110001100 s_11101101000 s_11101001100 s_11001101100 s_01101101100 s_11111000000 s_11110001000 s_11101100000 s_11101001000 s_11100001100 s_11001101000 s_11001001100 s_10001101100 s_01101101000 s_01101001100 s_01001101100 s_11110000000 s_11101000000 s_11100001000 s_11001100000 s_11001001000 s_11000001100 s_10001101000 s_10001001100 s_01101100000 s_01101001000 s_01100001100 s_01001101000 s_01001001100 s_00001101100 s_11100000000 s_11001000000 s_11000001000 s_10001100000 s_10001001000 s_10000001100 s_01101000000 s_01100001000 s_01001100000 s_01001001000 s_01000001100 s_00001101000 s_00001001100 s_11000000000 s_10000001000 s_01100000000 s_01000001000 s_00000001100
    refine hY 9 _ [1, 7] [0, 1, 5, 7] _ (by kernel_rfl) rfl ⟨?_, ?_, ?_, ?_, trivial⟩
    · show opX _ _ _ _ _ _
      rw [hρ]
      refine opX_of (f := false) rfl (by decide) ?_
      simp (disch := omega) only [go_sem, ↓reduceIte, Nat.reduceEqDiff, Nat.reduceLT, Nat.reduceLeDiff, Nat.reduceAdd, Nat.reduceSub, Nat.reduceMul, reduceCtorEq, Int.reduceToNat, Int.reduceNeg, List.take_length, ← List.map_append]
      repeat refine And.intro (by first | omega | assumption | (simp only [List.length_append, List.length_cons, List.length_nil]; omega) | (intros; first | omega | assumption | (simp_all; done) | grind)) ?_   -- r1.1
      refine s_10001000000 _ ?_
      simp (disch := omega) only [go_sem, ↓reduceIte, Nat.reduceEqDiff, Nat.reduceLT, Nat.reduceLeDiff, Nat.reduceAdd, Nat.reduceSub, Nat.reduceMul, reduceCtorEq, Int.reduceToNat, Int.reduceNeg, List.take_length, ← List.map_append] <;> first | rfl | omega | simp | simp_all
    · show opX _ _ _ _ _ _
      rw [hρ]
      refine opX_of (f := false) rfl (by decide) ?_
      simp (disch := omega) only [go_sem, ↓reduceIte, Nat.reduceEqDiff, Nat.reduceLT, Nat.reduceLeDiff, Nat.reduceAdd, Nat.reduceSub, Nat.reduceMul, reduceCtorEq, Int.reduceToNat, Int.reduceNeg, List.take_length, ← List.map_append]
      repeat refine And.intro (by first | omega | assumption | (simp only [List.length_append, List.length_cons, List.length_nil]; omega) | (intros; first | omega | assumption | (simp_all; done) | grind)) ?_   -- r1.1
      refine s_01001000000 _ ?_
      simp (disch := omega) only [go_sem, ↓reduceIte, Nat.reduceEqDiff, Nat.reduceLT, Nat.reduceLeDiff, Nat.reduceAdd, Nat.reduceSub, Nat.reduceMul, reduceCtorEq, Int.reduceToNat, Int.reduceNeg, List.take_length, ← List.map_append] <;> first | rfl | omega | simp | simp_all
    · show opX _ _ _ _ _ _
      rw [hρ]
      refine opX_of (f := false) rfl (by decide) ?_
      simp (disch := omega) only [go_sem, ↓reduceIte, Nat.reduceEqDiff, Nat.reduceLT, Nat.reduceLeDiff, Nat.reduceAdd, Nat.reduceSub, Nat.reduceMul, reduceCtorEq, Int.reduceToNat, Int.reduceNeg, List.take_length, ← List.map_append]
      repeat refine And.intro (by first | omega | assumption | (simp only [List.length_append, List.length_cons, List.length_nil]; omega) | (intros; first | omega | assumption | (simp_all; done) | grind)) ?_   -- r1.1
      refine s_00001100000 _ ?_
      simp (disch := omega) only [go_sem, ↓reduceIte, Nat.reduceEqDiff, Nat.reduceLT, Nat.reduceLeDiff, Nat.reduceAdd, Nat.reduceSub, Nat.reduceMul, reduceCtorEq, Int.reduceToNat, Int.reduceNeg, List.take_length, ← List.map_append] <;> first | rfl | omega | simp | simp_all
    · show opX _ _ _ _ _ _
      rw [hρ]
      refine opX_of (f := false) rfl (by decide) ?_
      simp (disch := omega) only [go_sem, ↓reduceIte, Nat.reduceEqDiff, Nat.reduceLT, Nat.reduceLeDiff, Nat.reduceAdd, Nat.reduceSub, Nat.reduceMul, reduceCtorEq, Int.reduceToNat, Int.reduceNeg, List.take_length, ← List.map_append]
      repeat refine And.intro (by first | omega | assumption | (simp only [List.length_append, List.length_cons, List.length_nil]; omega) | (intros; first | omega | assumption | (simp_all; done) | grind)) ?_   -- r1.1
      refine s_00001001000 _ ?_
      simp (disch := omega) only [go_sem, ↓reduceIte, Nat.reduceEqDiff, Nat.reduceLT, Nat.reduceLeDiff, Nat.reduceAdd, Nat.reduceSub, Nat.reduceMul, reduceCtorEq, Int.reduceToNat, Int.reduceNeg, List.take_length, ← List.map_append] <;> first | rfl | omega | simp | simp_all
  have s_00000001000 : ∀ ρ, keepC [1, 10] ρ = mkE O [(1, .bx (eRoute r)), (10, .bp 1 11)] → Y 10 #[false, false, false, false, false, false, false, true, false, false, false] ρ := by
    intro ρ hρ
    clear s_11111111111 s_11111111110 s_11111111100 s_11111111000 s_11111101100 s_11111110000 s_11111101000 s_11111001100 s_11101101100 s_11111100000 s_11111001000 s_11110001100 s_11101101000 s_11101001100 s_11001101100 s_01101101100 s_11111000000 s_11110001000 s_11101100000 s_11101001000 s_11100001100 s_11001101000 s_11001001100 s_10001101100 s_01101101000 s_01101001100 s_01001101100 s_11110000000 s_11101000000 s_11100001000 s_11001100000 s_11001001000 s_11000001100 s_10001101000 s_10001001100 s_01101100000 s_01101001000 s_01100001100 s_01001101000 s_01001001100 s_00001101100 s_11100000000 s_11001000000 s_11000001000 s_10001100000 s_10001001000 s_10000001100 s_01101000000 s_01100001000 s_01001100000 s_01001001000 s_01000001100 s_00001101000 s_00001001100 s_11000000000 s_10001000000 s_01100000000 s_01001000000 s_00001100000
    refine hY 9 _ [1, 10] [0, 1, 4, 8] _ (by kernel_rfl) rfl ⟨?_, ?_, ?_, ?_, trivial⟩
    · show opX _ _ _ _ _ _
      rw [hρ]
      refine opX_of (f := false) rfl (by decide) ?_
      simp (disch := omega) only [go_sem, ↓reduceIte, Nat.reduceEqDiff, Nat.reduceLT, Nat.reduceLeDiff, Nat.reduceAdd, Nat.reduceSub, Nat.reduceMul, reduceCtorEq, Int.reduceToNat, Int.reduceNeg, List.take_length, ← List.map_append]
      repeat refine And.intro (by first | omega | assumption | (simp only [List.length_append, List.length_cons, List.length_nil]; omega) | (intros; first | omega | assumption | (simp_all; done) | grind)) ?_   -- r1.1
      refine s_10000001000 _ ?_
      simp (disch := omega) only [go_sem, ↓reduceIte, Nat.reduceEqDiff, Nat.reduceLT, Nat.reduceLeDiff, Nat.reduceAdd, Nat.reduceSub, Nat.reduceMul, reduceCtorEq, Int.reduceToNat, Int.reduceNeg, List.take_length, ← List.map_append] <;> first | rfl | omega | simp | simp_all
    · show opX _ _ _ _ _ _
      rw [hρ]
      refine opX_of (f := false) rfl (by decide) ?_
      simp (disch := omega) only [go_sem, ↓reduceIte, Nat.reduceEqDiff, Nat.reduceLT, Nat.reduceLeDiff, Nat.reduceAdd, Nat.reduceSub, Nat.reduceMul, reduceCtorEq, Int.reduceToNat, Int.reduceNeg, List.take_length, ← List.map_append]
      repeat refine And.intro (by first | omega | assumption | (simp only [List.length_append, List.length_cons, List.length_nil]; omega) | (intros; first | omega | assumption | (simp_all; done) | grind)) ?_   -- r1.1
      refine s_01000001000 _ ?_
      simp (disch := omega) only [go_sem, ↓reduceIte, Nat.reduceEqDiff, Nat.reduceLT, Nat.reduceLeDiff, Nat.reduceAdd, Nat.reduceSub, Nat.reduceMul, reduceCtorEq, Int.reduceToNat, Int.reduceNeg, List.take_length, ← List.map_append] <;> first | rfl | omega | simp | simp_all
    · show opX _ _ _ _ _ _
      rw [hρ]
      refine opX_of (f := false) rfl (by decide) ?_
      simp (disch := omega) only [go_sem, ↓reduceIte, Nat.reduceEqDiff, Nat.reduceLT, Nat.reduceLeDiff, Nat.reduceAdd, Nat.reduceSub, Nat.reduceMul, reduceCtorEq, Int.reduceToNat, Int.reduceNeg, List.take_length, ← List.map_append]
      repeat refine And.intro (by first | omega | assumption | (simp only [List.length_append, List.length_cons, List.length_nil]; omega) | (intros; first | omega | assumption | (simp_all; done) | grind)) ?_   -- r1.1
      refine s_00001001000 _ ?_
      simp (disch := omega) only [go_sem, ↓reduceIte, Nat.reduceEqDiff, Nat.reduceLT, Nat.reduceLeDiff, Nat.reduceAdd, Nat.reduceSub, Nat.reduceMul, reduceCtorEq, Int.reduceToNat, Int.reduceNeg, List.take_length, ← List.map_append] <;> first | rfl | omega | simp | simp_all
    · show opX _ _ _ _ _ _
      rw [hρ]
      refine opX_of (f := false) rfl (by decide) ?_
      simp (disch := omega) only [go_sem, ↓reduceIte, Nat.reduceEqDiff, Nat.reduceLT, Nat.reduceLeDiff, Nat.reduceAdd, Nat.reduceSub, Nat.reduceMul, reduceCtorEq, Int.reduceToNat, Int.reduceNeg, List.take_length, ← List.map_append]
      repeat refine And.intro (by first | omega | assumption | (simp only [List.length_append, List.length_cons, List.length_nil]; omega) | (intros; first | omega | assumption | (simp_all; done) | grind)) ?_   -- r1.1
      refine s_00000001100 _ ?_
      simp (disch := omega) only [go_sem, ↓reduceIte, Nat.reduceEqDiff, Nat.reduceLT, Nat.reduceLeDiff, Nat.reduceAdd, Nat.reduceSub, Nat.reduceMul, reduceCtorEq, Int.reduceToNat, Int.reduceNeg, List.take_length, ← List.map_append] <;> first | rfl | omega | simp | simp_all
  have s_00000000000 : ∀ ρ, keepC [1] ρ = mkE O [(1, .bx (eRoute r))] → Y 11 #[false, false, false, false, false, false, false, false, false, false, false] ρ := by
    intro ρ hρ
    clear s_11111111111 s_11111111110 s_11111111100 s_11111111000 s_11111101100 s_11111110000 s_11111101000 s_11111001100 s_11101101100 s_11111100000 s_11111001000 s_11110001100 s_11101101000 s_11101001100 s_11001101100 s_01101101100 s_11111000000 s_11110001000 s_11101100000 s_11101001000 s_11100001100 s_11001101000 s_11001001100 s_10001101100 s_01101101000 s_01101001100 s_01001101100 s_11110000000 s_11101000000 s_11100001000 s_11001100000 s_11001001000 s_11000001100 s_10001101000 s_10001001100 s_01101100000 s_01101001000 s_01100001100 s_01001101000 s_01001001100 s_00001101100 s_11100000000 s_11001000000 s_11000001000 s_10001100000 s_10001001000 s_10000001100 s_01101000000 s_01100001000 s_01001100000 s_01001001000 s_01000001100 s_00001101000 s_00001001100 s_11000000000 s_10001000000 s_10000001000 s_01100000000 s_01001000000 s_01000001000 s_00001100000 s_00001001000 s_00000001100
    refine hY 10 _ [1] [0, 1, 4, 7] _ (by kernel_rfl) rfl ⟨?_, ?_, ?_, ?_, trivial⟩
    · show opX _ _ _ _ _ _
      rw [hρ]
      refine opX_of (f := false) rfl (by decide) ?_
      simp (disch := omega) only [go_sem, ↓reduceIte, Nat.reduceEqDiff, Nat.reduceLT, Nat.reduceLeDiff, Nat.reduceAdd, Nat.reduceSub, Nat.reduceMul, reduceCtorEq, Int.reduceToNat, Int.reduceNeg, List.take_length, ← List.map_append]
      repeat refine And.intro (by first | omega | assumption | (simp only [List.length_append, List.length_cons, List.length_nil]; omega) | (intros; first | omega | assumption | (simp_all; done) | grind)) ?_   -- r1.1
      refine s_10000000000 _ ?_
      simp (disch := omega) only [go_sem, ↓reduceIte, Nat.reduceEqDiff, Nat.reduceLT, Nat.reduceLeDiff, Nat.reduceAdd, Nat.reduceSub, Nat.reduceMul, reduceCtorEq, Int.reduceToNat, Int.reduceNeg, List.take_length, ← List.map_append] <;> first | rfl | omega | simp | simp_all
    · show opX _ _ _ _ _ _
      rw [hρ]
      refine opX_of (f := false) rfl (by decide) ?_
      simp (disch := omega) only [go_sem, ↓reduceIte, Nat.reduceEqDiff, Nat.reduceLT, Nat.reduceLeDiff, Nat.reduceAdd, Nat.reduceSub, Nat.reduceMul, reduceCtorEq, Int.reduceToNat, Int.reduceNeg, List.take_length, ← List.map_append]
      repeat refine And.intro (by first | omega | assumption | (simp only [List.length_append, List.length_cons, List.length_nil]; omega) | (intros; first | omega | assumption | (simp_all; done) | grind)) ?_   -- r1.1
      refine s_01000000000 _ ?_
      simp (disch := omega) only [go_sem, ↓reduceIte, Nat.reduceEqDiff, Nat.reduceLT, Nat.reduceLeDiff, Nat.reduceAdd, Nat.reduceSub, Nat.reduceMul, reduceCtorEq, Int.reduceToNat, Int.reduceNeg, List.take_length, ← List.map_append] <;> first | rfl | omega | simp | simp_all
    · show opX _ _ _ _ _ _
      rw [hρ]
      refine opX_of (f := false) rfl (by decide) ?_
      simp (disch := omega) only [go_sem, ↓reduceIte, Nat.reduceEqDiff, Nat.reduceLT, Nat.reduceLeDiff, Nat.reduceAdd, Nat.reduceSub, Nat.reduceMul, reduceCtorEq, Int.reduceToNat, Int.reduceNeg, List.take_length, ← List.map_append]
      repeat refine And.intro (by first | omega | assumption | (simp only [List.length_append, List.length_cons, List.length_nil]; omega) | (intros; first | omega | assumption | (simp_all; done) | grind)) ?_   -- r1.1
      refine s_00001000000 _ ?_
      simp (disch := omega) only [go_sem, ↓reduceIte, Nat.reduceEqDiff, Nat.reduceLT, Nat.reduceLeDiff, Nat.reduceAdd, Nat.reduceSub, Nat.reduceMul, reduceCtorEq, Int.reduceToNat, Int.reduceNeg, List.take_length, ← List.map_append] <;> first | rfl | omega | simp | simp_all
    · show opX _ _ _ _ _ _
      rw [hρ]
      refine opX_of (f := false) rfl (by decide) ?_
      simp (disch := omega) only [go_sem, ↓reduceIte, Nat.reduceEqDiff, Nat.reduceLT, Nat.reduceLeDiff, Nat.reduceAdd, Nat.reduceSub, Nat.reduceMul, reduceCtorEq, Int.reduceToNat, Int.reduceNeg, List.take_length, ← List.map_append]
      repeat refine And.intro (by first | omega | assumption | (simp only [List.length_append, List.length_cons, List.length_nil]; omega) | (intros; first | omega | assumption | (simp_all; done) | grind)) ?_   -- r1.1
      refine s_00000001000 _ ?_
      simp (disch := omega) only [go_sem, ↓reduceIte, Nat.reduceEqDiff, Nat.reduceLT, Nat.reduceLeDiff, Nat.reduceAdd, Nat.reduceSub, Nat.reduceMul, reduceCtorEq, Int.reduceToNat, Int.reduceNeg, List.take_length, ← List.map_append] <;> first | rfl | omega | simp | simp_all
  refine s_00000000000 _ ?_
  simp (disch := omega) only [go_sem, ↓reduceIte, Nat.reduceEqDiff, Nat.reduceLT, Nat.reduceLeDiff, Nat.reduceAdd, Nat.reduceSub, Nat.reduceMul, reduceCtorEq, Int.reduceToNat, Int.reduceNeg, List.take_length, ← List.map_append] <;> first | rfl | omega | simp | simp_all

end Go.Sg
