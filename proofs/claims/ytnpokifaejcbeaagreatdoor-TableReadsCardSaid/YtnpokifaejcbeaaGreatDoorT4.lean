/- Contracts of the checks of tables, fourth part: the reference's Check, and the law TableChecks. Printed by genw.py. -/
import Derived.Test.YtnpokifaejcbeaaGreatDoorSgObl
import Derived.Test.YtnpokifaejcbeaaGreatDoorT3
import Derived.Test.YtnpokifaejcbeaaGreatDoorAl
set_option linter.unusedVariables false
set_option linter.unusedSimpArgs false
set_option maxRecDepth 8000
namespace Go.Sg
open Go.Proofs
theorem all_and {α : Type} {l : List α} {f g : α → Bool} (h : l.all (fun x => f x && g x) = true) : l.all f = true ∧ l.all g = true := by
  rw [List.all_eq_true] at h
  exact ⟨List.all_eq_true.2 fun x hx => ((Bool.and_eq_true _ _).mp (h x hx)).1, List.all_eq_true.2 fun x hx => ((Bool.and_eq_true _ _).mp (h x hx)).2⟩
theorem all_nand {α : Type} {l : List α} {f g : α → Bool} (h : l.all (fun x => f x && g x) = false) : l.all f = false ∨ l.all g = false := by
  cases h1 : l.all f with
  | false => exact .inl rfl
  | true =>
    cases h2 : l.all g with
    | false => exact .inr rfl
    | true =>
      rw [List.all_eq_true] at h1 h2
      rw [List.all_eq_true.2 fun x hx => (Bool.and_eq_true _ _).mpr ⟨h1 x hx, h2 x hx⟩] at h
      cases h
def rsB (t : Table) (r : Route) : Bool := rtB t r && seB t r
theorem chk34 {t : Table} (h : limB t = true) (h2 : ptsB t = true) (h3 : t.fRoutes.all (rsB t) = false) : chk t = 1 := by
  rcases all_nand h3 with h4 | h4
  · exact chk3 h h2 h4
  · exact chk4 h h2 h4
theorem few_no {t : Table} (h : decide (t.fRoutes.length ≤ 80 ∧ t.fPoints.length ≤ 80 ∧ t.fHomes.length ≤ 80) = false) : fewB t = false := by rw [fewB, h]; rfl

set_option maxHeartbeats 2000000 in
theorem ref16_Check_ok (O : Env) (t : Table) (hf : fewB t = true) : PCall Tryz.prog O 16 [.agg (eTable t)] (vi (chk t)) := by
  -- signalling/signallingref16.Check
  refine pcall_has 0 rfl (.agg (d := encRt t.fRoutes) (by simp [eTable]) (.sl _ _ _)) fun hr => ?_
  refine pcall_has 0 rfl (.agg (d := encI t.fPoints) (by simp [eTable]) (.sl _ _ _)) fun hp => ?_
  refine pcall_has 0 rfl (.agg (d := encI t.fHomes) (by simp [eTable]) (.sl _ _ _)) fun hh => ?_
  refine pcall_of_aw Tryz.func16 rfl (by kernel_rfl) ?_
  refine aw_seq fun K0 hK0 => ?_
  refine aw_reg [0] (by kernel_rfl) ?_
  simp (disch := omega) only [go_sem, ↓reduceIte, Nat.reduceEqDiff, Nat.reduceLT, Nat.reduceLeDiff, Nat.reduceAdd, Nat.reduceSub, Nat.reduceMul, reduceCtorEq, Int.reduceToNat, Int.reduceNeg]
  repeat refine And.intro obl ?_
  refine hK0 _ ?_; clear hK0
  refine aw_seq fun K1 hK1 => ?_
  refine aw_seq fun K2 hK2 => ?_
  refine aw_reg [1] (by kernel_rfl) ?_
  simp (disch := omega) only [go_sem, ↓reduceIte, Nat.reduceEqDiff, Nat.reduceLT, Nat.reduceLeDiff, Nat.reduceAdd, Nat.reduceSub, Nat.reduceMul, reduceCtorEq, Int.reduceToNat, Int.reduceNeg]
  repeat refine And.intro obl ?_
  refine hK2 _ ?_; clear hK2
  refine aw_cond _ (by rfl) (rfl) (fun c0 => ?_) (fun c0 => ?_)
  · try simp only [push_cast] at c0
    refine aw_seq fun K3 hK3 => ?_
    refine aw_reg [] (by kernel_rfl) ?_
    simp (disch := omega) only [go_sem, ↓reduceIte, Nat.reduceEqDiff, Nat.reduceLT, Nat.reduceLeDiff, Nat.reduceAdd, Nat.reduceSub, Nat.reduceMul, reduceCtorEq, Int.reduceToNat, Int.reduceNeg]
    repeat refine And.intro obl ?_
    refine hK3 _ ?_; clear hK3
    refine aw_ret ?_
    refine ret_tmp 2 rfl (by simp (disch := omega) only [go_sem, ↓reduceIte, Nat.reduceEqDiff, Nat.reduceLT, Nat.reduceLeDiff, Nat.reduceAdd, Nat.reduceSub, Nat.reduceMul, reduceCtorEq, Int.reduceToNat, Int.reduceNeg]) ?_
    exact Exp.is (by simp (disch := omega) only [go_sem, ↓reduceIte, Nat.reduceEqDiff, Nat.reduceLT, Nat.reduceLeDiff, Nat.reduceAdd, Nat.reduceSub, Nat.reduceMul, reduceCtorEq, Int.reduceToNat, Int.reduceNeg] <;> (rw [chk1 (decide_eq_false (by omega))])) rfl rfl
  · try simp only [push_cast] at c0
    have hL : limB t = true := decide_eq_true (by omega)
    refine aw_skip ?_
    refine hK1 _ ?_; clear hK1
    refine aw_seq fun K4 hK4 => ?_
    refine aw_seq fun K5 hK5 => ?_
    refine aw_reg [1] (by kernel_rfl) ?_
    simp (disch := omega) only [go_sem, ↓reduceIte, Nat.reduceEqDiff, Nat.reduceLT, Nat.reduceLeDiff, Nat.reduceAdd, Nat.reduceSub, Nat.reduceMul, reduceCtorEq, Int.reduceToNat, Int.reduceNeg]
    repeat refine And.intro obl ?_
    refine hK5 _ ?_; clear hK5
    refine aw_cond _ (by rfl) (rfl) (fun c1 => ?_) (fun c1 => ?_)
    · try simp only [push_cast] at c1
      refine aw_seq fun K6 hK6 => ?_
      refine aw_reg [] (by kernel_rfl) ?_
      simp (disch := omega) only [go_sem, ↓reduceIte, Nat.reduceEqDiff, Nat.reduceLT, Nat.reduceLeDiff, Nat.reduceAdd, Nat.reduceSub, Nat.reduceMul, reduceCtorEq, Int.reduceToNat, Int.reduceNeg]
      repeat refine And.intro obl ?_
      refine hK6 _ ?_; clear hK6
      refine aw_ret ?_
      refine ret_tmp 2 rfl (by simp (disch := omega) only [go_sem, ↓reduceIte, Nat.reduceEqDiff, Nat.reduceLT, Nat.reduceLeDiff, Nat.reduceAdd, Nat.reduceSub, Nat.reduceMul, reduceCtorEq, Int.reduceToNat, Int.reduceNeg]) ?_
      exact Exp.is (by simp (disch := omega) only [go_sem, ↓reduceIte, Nat.reduceEqDiff, Nat.reduceLT, Nat.reduceLeDiff, Nat.reduceAdd, Nat.reduceSub, Nat.reduceMul, reduceCtorEq, Int.reduceToNat, Int.reduceNeg] <;> (rw [chk2 hL (by rw [ptsB, decide_eq_false (by omega)]; rfl)])) rfl rfl
    · try simp only [push_cast] at c1
      refine aw_skip ?_
      refine hK4 _ ?_; clear hK4
      refine aw_seq fun K7 hK7 => ?_
      refine aw_seq fun K8 hK8 => ?_
      refine aw_reg [1] (by kernel_rfl) ?_
      simp (disch := omega) only [go_sem, ↓reduceIte, Nat.reduceEqDiff, Nat.reduceLT, Nat.reduceLeDiff, Nat.reduceAdd, Nat.reduceSub, Nat.reduceMul, reduceCtorEq, Int.reduceToNat, Int.reduceNeg]
      repeat refine And.intro obl ?_
      refine hK8 _ ?_; clear hK8
      refine aw_block ?_
      refine aw_loopK [1, 49, 50, 51] (fun n ρ => ∃ i, n = t.fPoints.length - i ∧ (i ≤ t.fPoints.length) ∧ (rgTo (ptB t) i) ∧ ρ = mkE O [(1, .bx (eTable t)), (49, encI t.fPoints), (50, vi (t.fPoints.length : Nat)), (51, vi (i : Nat))]) _ ⟨0, rfl, ?_, ?_, ?_⟩ ?_
      · exact dfl
      · exact rgTo_0 _
      · simp (disch := omega) only [go_sem, ↓reduceIte, Nat.reduceEqDiff, Nat.reduceLT, Nat.reduceLeDiff, Nat.reduceAdd, Nat.reduceSub, Nat.reduceMul, reduceCtorEq, Int.reduceToNat, Int.reduceNeg] <;> first | rfl | omega | simp | simp_all
      rintro n ρ ⟨i, rfl, l0_0, l0_1, rfl⟩ K9 hK9
      refine aw_seq fun K10 hK10 => ?_
      refine aw_reg [1, 48, 49, 50, 51] (by kernel_rfl) ?_
      simp (disch := omega) only [go_sem, ↓reduceIte, Nat.reduceEqDiff, Nat.reduceLT, Nat.reduceLeDiff, Nat.reduceAdd, Nat.reduceSub, Nat.reduceMul, reduceCtorEq, Int.reduceToNat, Int.reduceNeg]
      repeat refine And.intro obl ?_
      refine hK10 _ ?_; clear hK10
      refine aw_seq fun K11 hK11 => ?_
      refine aw_cond _ (by rfl) (rfl) (fun c2 => ?_) (fun c2 => ?_)
      · try simp only [push_cast] at c2
        refine aw_skip ?_
        refine hK11 _ ?_; clear hK11
        refine aw_seq fun K12 hK12 => ?_
        refine aw_block ?_
        refine aw_seq fun K13 hK13 => ?_
        refine aw_reg [1, 48, 49, 50, 51] (by kernel_rfl) ?_
        simp (disch := omega) only [go_sem, ↓reduceIte, Nat.reduceEqDiff, Nat.reduceLT, Nat.reduceLeDiff, Nat.reduceAdd, Nat.reduceSub, Nat.reduceMul, reduceCtorEq, Int.reduceToNat, Int.reduceNeg]
        repeat refine And.intro obl ?_
        refine hK13 _ ?_; clear hK13
        refine aw_seq fun K14 hK14 => ?_
        refine aw_regDc [1, 3, 4, 48, 49, 50, 51] [] mixed (by kernel_rfl) ?_
        simp (disch := omega) only [go_sem, ↓reduceIte, Nat.reduceEqDiff, Nat.reduceLT, Nat.reduceLeDiff, Nat.reduceAdd, Nat.reduceSub, Nat.reduceMul, reduceCtorEq, Int.reduceToNat, Int.reduceNeg]
        repeat refine And.intro obl ?_
        refine hK14 _ ?_; clear hK14
        refine aw_cond _ (by rfl) (rfl) (fun c3 => ?_) (fun c3 => ?_)
        · try simp only [push_cast] at c3
          refine aw_seq fun K15 hK15 => ?_
          refine aw_reg [] (by kernel_rfl) ?_
          simp (disch := omega) only [go_sem, ↓reduceIte, Nat.reduceEqDiff, Nat.reduceLT, Nat.reduceLeDiff, Nat.reduceAdd, Nat.reduceSub, Nat.reduceMul, reduceCtorEq, Int.reduceToNat, Int.reduceNeg]
          repeat refine And.intro obl ?_
          refine hK15 _ ?_; clear hK15
          refine aw_ret ?_
          refine ret_tmp 2 rfl (by simp (disch := omega) only [go_sem, ↓reduceIte, Nat.reduceEqDiff, Nat.reduceLT, Nat.reduceLeDiff, Nat.reduceAdd, Nat.reduceSub, Nat.reduceMul, reduceCtorEq, Int.reduceToNat, Int.reduceNeg]) ?_
          exact Exp.is (by simp (disch := omega) only [go_sem, ↓reduceIte, Nat.reduceEqDiff, Nat.reduceLT, Nat.reduceLeDiff, Nat.reduceAdd, Nat.reduceSub, Nat.reduceMul, reduceCtorEq, Int.reduceToNat, Int.reduceNeg] <;> (rw [chk2 hL (by rw [ptsB, rg_f (i := i) (by omega) (decide_eq_false (by simp only [ptN, hmN] at *; omega)), Bool.and_false])])) rfl rfl
        · try simp only [push_cast] at c3
          refine aw_skip ?_
          refine hK12 _ ?_; clear hK12
          refine aw_reg [1, 48, 49, 50, 51] (by kernel_rfl) ?_
          simp (disch := omega) only [go_sem, ↓reduceIte, Nat.reduceEqDiff, Nat.reduceLT, Nat.reduceLeDiff, Nat.reduceAdd, Nat.reduceSub, Nat.reduceMul, reduceCtorEq, Int.reduceToNat, Int.reduceNeg]
          repeat refine And.intro obl ?_
          refine hK9 _ _ ?_ ⟨i + 1, rfl, ?_, ?_, ?_⟩
          · exact dfl
          · exact dfl
          · exact rgTo_s l0_1 (decide_eq_true (by simp only [ptN, hmN] at *; omega))
          · simp (disch := omega) only [go_sem, ↓reduceIte, Nat.reduceEqDiff, Nat.reduceLT, Nat.reduceLeDiff, Nat.reduceAdd, Nat.reduceSub, Nat.reduceMul, reduceCtorEq, Int.reduceToNat, Int.reduceNeg] <;> first | rfl | omega | simp | simp_all
      · try simp only [push_cast] at c2
        refine aw_exit ?_
        refine hK7 _ ?_; clear hK7
        refine aw_seq fun K16 hK16 => ?_
        refine aw_seq fun K17 hK17 => ?_
        refine aw_reg [1] (by kernel_rfl) ?_
        simp (disch := omega) only [go_sem, ↓reduceIte, Nat.reduceEqDiff, Nat.reduceLT, Nat.reduceLeDiff, Nat.reduceAdd, Nat.reduceSub, Nat.reduceMul, reduceCtorEq, Int.reduceToNat, Int.reduceNeg]
        repeat refine And.intro obl ?_
        refine hK17 _ ?_; clear hK17
        refine aw_block ?_
        have hP : ptsB t = true := by rw [ptsB, rg_t l0_1 (by omega), decide_eq_true (by omega)]; rfl
        refine aw_loopK [1, 92, 93, 94] (fun n ρ => ∃ i, n = t.fRoutes.length - i ∧ (i ≤ t.fRoutes.length) ∧ (allTo (rsB t) t.fRoutes i) ∧ ρ = mkE O [(1, .bx (eTable t)), (92, encRt t.fRoutes), (93, vi (t.fRoutes.length : Nat)), (94, vi (i : Nat))]) _ ⟨0, rfl, ?_, ?_, ?_⟩ ?_
        · exact dfl
        · exact allTo_0 _ _
        · simp (disch := omega) only [go_sem, ↓reduceIte, Nat.reduceEqDiff, Nat.reduceLT, Nat.reduceLeDiff, Nat.reduceAdd, Nat.reduceSub, Nat.reduceMul, reduceCtorEq, Int.reduceToNat, Int.reduceNeg] <;> first | rfl | omega | simp | simp_all
        rintro n ρ ⟨i, rfl, l1_0, l1_1, rfl⟩ K18 hK18
        refine aw_seq fun K19 hK19 => ?_
        refine aw_reg [1, 91, 92, 93, 94] (by kernel_rfl) ?_
        simp (disch := omega) only [go_sem, ↓reduceIte, Nat.reduceEqDiff, Nat.reduceLT, Nat.reduceLeDiff, Nat.reduceAdd, Nat.reduceSub, Nat.reduceMul, reduceCtorEq, Int.reduceToNat, Int.reduceNeg]
        repeat refine And.intro obl ?_
        refine hK19 _ ?_; clear hK19
        refine aw_seq fun K20 hK20 => ?_
        refine aw_cond _ (by rfl) (rfl) (fun c4 => ?_) (fun c4 => ?_)
        · try simp only [push_cast] at c4
          refine aw_skip ?_
          refine hK20 _ ?_; clear hK20
          refine aw_seq fun K21 hK21 => ?_
          refine aw_block ?_
          refine aw_seq fun K22 hK22 => ?_
          refine aw_reg [1, 91, 92, 93, 94] (by kernel_rfl) ?_
          simp (disch := omega) only [go_sem, ↓reduceIte, Nat.reduceEqDiff, Nat.reduceLT, Nat.reduceLeDiff, Nat.reduceAdd, Nat.reduceSub, Nat.reduceMul, reduceCtorEq, Int.reduceToNat, Int.reduceNeg]
          repeat refine And.intro obl ?_
          refine hK22 _ ?_; clear hK22
          refine aw_seq fun K23 hK23 => ?_
          refine aw_reg [1, 6, 91, 92, 93, 94] (by kernel_rfl) ?_
          simp (disch := omega) only [go_sem, ↓reduceIte, Nat.reduceEqDiff, Nat.reduceLT, Nat.reduceLeDiff, Nat.reduceAdd, Nat.reduceSub, Nat.reduceMul, reduceCtorEq, Int.reduceToNat, Int.reduceNeg]
          repeat refine And.intro obl ?_
          refine callG_of _ (ref16_right_ok _ t (t.fRoutes.getD i default) (few_r hf c4)) ?_
          simp (disch := omega) only [go_sem, ↓reduceIte, Nat.reduceEqDiff, Nat.reduceLT, Nat.reduceLeDiff, Nat.reduceAdd, Nat.reduceSub, Nat.reduceMul, reduceCtorEq, Int.reduceToNat, Int.reduceNeg]
          repeat refine And.intro obl ?_
          refine callC_to (fun g0 => ref16_settings_ok _ t (t.fRoutes.getD i default).fPoints) ?_ ?_ ?_
          · first | exact fun _ => trivial | simp
          · rfl
          simp (disch := omega) only [go_sem, ↓reduceIte, Nat.reduceEqDiff, Nat.reduceLT, Nat.reduceLeDiff, Nat.reduceAdd, Nat.reduceSub, Nat.reduceMul, reduceCtorEq, Int.reduceToNat, Int.reduceNeg]
          repeat refine And.intro obl ?_
          refine callC_to (fun g1 => ref16_settings_ok _ t (t.fRoutes.getD i default).fOverPoints) ?_ ?_ ?_
          · first | exact fun _ => trivial | simp
          · rfl
          simp (disch := omega) only [go_sem, ↓reduceIte, Nat.reduceEqDiff, Nat.reduceLT, Nat.reduceLeDiff, Nat.reduceAdd, Nat.reduceSub, Nat.reduceMul, reduceCtorEq, Int.reduceToNat, Int.reduceNeg]
          repeat refine And.intro obl ?_
          refine callC_to (fun g2 => ref16_settings_ok _ t (t.fRoutes.getD i default).fFlank) ?_ ?_ ?_
          · first | exact fun _ => trivial | simp
          · rfl
          simp (disch := omega) only [go_sem, ↓reduceIte, Nat.reduceEqDiff, Nat.reduceLT, Nat.reduceLeDiff, Nat.reduceAdd, Nat.reduceSub, Nat.reduceMul, reduceCtorEq, Int.reduceToNat, Int.reduceNeg]
          repeat refine And.intro obl ?_
          refine hK23 _ ?_; clear hK23
          refine aw_cond _ (by rfl) (rfl) (fun c5 => ?_) (fun c5 => ?_)
          · try simp only [push_cast] at c5
            refine aw_seq fun K24 hK24 => ?_
            refine aw_reg [] (by kernel_rfl) ?_
            simp (disch := omega) only [go_sem, ↓reduceIte, Nat.reduceEqDiff, Nat.reduceLT, Nat.reduceLeDiff, Nat.reduceAdd, Nat.reduceSub, Nat.reduceMul, reduceCtorEq, Int.reduceToNat, Int.reduceNeg]
            repeat refine And.intro obl ?_
            refine hK24 _ ?_; clear hK24
            refine aw_ret ?_
            refine ret_tmp 2 rfl (by simp (disch := omega) only [go_sem, ↓reduceIte, Nat.reduceEqDiff, Nat.reduceLT, Nat.reduceLeDiff, Nat.reduceAdd, Nat.reduceSub, Nat.reduceMul, reduceCtorEq, Int.reduceToNat, Int.reduceNeg]) ?_
            exact Exp.is (by simp (disch := omega) only [go_sem, ↓reduceIte, Nat.reduceEqDiff, Nat.reduceLT, Nat.reduceLeDiff, Nat.reduceAdd, Nat.reduceSub, Nat.reduceMul, reduceCtorEq, Int.reduceToNat, Int.reduceNeg] <;> (rw [chk34 hL hP (all_f c4 (by rw [rsB, seB, ← Bool.not_eq_true]; intro h; simp only [Bool.and_eq_true] at h; simp only [h.1, h.2.1.1, h.2.1.2, h.2.2] at c5; simp at c5))])) rfl rfl
          · try simp only [push_cast] at c5
            refine aw_skip ?_
            refine hK21 _ ?_; clear hK21
            refine aw_reg [1, 91, 92, 93, 94] (by kernel_rfl) ?_
            simp (disch := omega) only [go_sem, ↓reduceIte, Nat.reduceEqDiff, Nat.reduceLT, Nat.reduceLeDiff, Nat.reduceAdd, Nat.reduceSub, Nat.reduceMul, reduceCtorEq, Int.reduceToNat, Int.reduceNeg]
            repeat refine And.intro obl ?_
            refine hK18 _ _ ?_ ⟨i + 1, rfl, ?_, ?_, ?_⟩
            · exact dfl
            · exact dfl
            · exact allTo_s l1_1 (by rw [rsB, seB]; simpa [and_assoc] using c5)
            · simp (disch := omega) only [go_sem, ↓reduceIte, Nat.reduceEqDiff, Nat.reduceLT, Nat.reduceLeDiff, Nat.reduceAdd, Nat.reduceSub, Nat.reduceMul, reduceCtorEq, Int.reduceToNat, Int.reduceNeg] <;> first | rfl | omega | simp | simp_all
        · try simp only [push_cast] at c4
          refine aw_exit ?_
          refine hK16 _ ?_; clear hK16
          refine aw_seq fun K25 hK25 => ?_
          refine aw_seq fun K26 hK26 => ?_
          refine aw_reg [1] (by kernel_rfl) ?_
          simp (disch := omega) only [go_sem, ↓reduceIte, Nat.reduceEqDiff, Nat.reduceLT, Nat.reduceLeDiff, Nat.reduceAdd, Nat.reduceSub, Nat.reduceMul, reduceCtorEq, Int.reduceToNat, Int.reduceNeg]
          repeat refine And.intro obl ?_
          refine hK26 _ ?_; clear hK26
          refine aw_block ?_
          obtain ⟨hA, hB⟩ := all_and (all_t l1_1 (by omega))
          refine aw_loopK [1, 125, 126, 127] (fun n ρ => ∃ i, n = t.fRoutes.length - i ∧ (i ≤ t.fRoutes.length) ∧ (allTo agB t.fRoutes i) ∧ ρ = mkE O [(1, .bx (eTable t)), (125, encRt t.fRoutes), (126, vi (t.fRoutes.length : Nat)), (127, vi (i : Nat))]) _ ⟨0, rfl, ?_, ?_, ?_⟩ ?_
          · exact dfl
          · exact allTo_0 _ _
          · simp (disch := omega) only [go_sem, ↓reduceIte, Nat.reduceEqDiff, Nat.reduceLT, Nat.reduceLeDiff, Nat.reduceAdd, Nat.reduceSub, Nat.reduceMul, reduceCtorEq, Int.reduceToNat, Int.reduceNeg] <;> first | rfl | omega | simp | simp_all
          rintro n ρ ⟨i, rfl, l2_0, l2_1, rfl⟩ K27 hK27
          refine aw_seq fun K28 hK28 => ?_
          refine aw_reg [1, 124, 125, 126, 127] (by kernel_rfl) ?_
          simp (disch := omega) only [go_sem, ↓reduceIte, Nat.reduceEqDiff, Nat.reduceLT, Nat.reduceLeDiff, Nat.reduceAdd, Nat.reduceSub, Nat.reduceMul, reduceCtorEq, Int.reduceToNat, Int.reduceNeg]
          repeat refine And.intro obl ?_
          refine hK28 _ ?_; clear hK28
          refine aw_seq fun K29 hK29 => ?_
          refine aw_cond _ (by rfl) (rfl) (fun c6 => ?_) (fun c6 => ?_)
          · try simp only [push_cast] at c6
            refine aw_skip ?_
            refine hK29 _ ?_; clear hK29
            refine aw_seq fun K30 hK30 => ?_
            refine aw_block ?_
            refine aw_seq fun K31 hK31 => ?_
            refine aw_reg [1, 124, 125, 126, 127] (by kernel_rfl) ?_
            simp (disch := omega) only [go_sem, ↓reduceIte, Nat.reduceEqDiff, Nat.reduceLT, Nat.reduceLeDiff, Nat.reduceAdd, Nat.reduceSub, Nat.reduceMul, reduceCtorEq, Int.reduceToNat, Int.reduceNeg]
            repeat refine And.intro obl ?_
            refine hK31 _ ?_; clear hK31
            refine aw_seq fun K32 hK32 => ?_
            refine aw_reg [1, 8, 124, 125, 126, 127] (by kernel_rfl) ?_
            simp (disch := omega) only [go_sem, ↓reduceIte, Nat.reduceEqDiff, Nat.reduceLT, Nat.reduceLeDiff, Nat.reduceAdd, Nat.reduceSub, Nat.reduceMul, reduceCtorEq, Int.reduceToNat, Int.reduceNeg]
            repeat refine And.intro obl ?_
            refine callG_of _ (ref16_agree_ok _ (t.fRoutes.getD i default).fPoints (t.fRoutes.getD i default).fOverPoints) ?_
            simp (disch := omega) only [go_sem, ↓reduceIte, Nat.reduceEqDiff, Nat.reduceLT, Nat.reduceLeDiff, Nat.reduceAdd, Nat.reduceSub, Nat.reduceMul, reduceCtorEq, Int.reduceToNat, Int.reduceNeg]
            repeat refine And.intro obl ?_
            refine callC_to (fun g3 => ref16_agree_ok _ (t.fRoutes.getD i default).fPoints (t.fRoutes.getD i default).fFlank) ?_ ?_ ?_
            · first | exact fun _ => trivial | simp
            · rfl
            simp (disch := omega) only [go_sem, ↓reduceIte, Nat.reduceEqDiff, Nat.reduceLT, Nat.reduceLeDiff, Nat.reduceAdd, Nat.reduceSub, Nat.reduceMul, reduceCtorEq, Int.reduceToNat, Int.reduceNeg]
            repeat refine And.intro obl ?_
            refine callC_to (fun g4 => ref16_agree_ok _ (t.fRoutes.getD i default).fOverPoints (t.fRoutes.getD i default).fFlank) ?_ ?_ ?_
            · first | exact fun _ => trivial | simp
            · rfl
            simp (disch := omega) only [go_sem, ↓reduceIte, Nat.reduceEqDiff, Nat.reduceLT, Nat.reduceLeDiff, Nat.reduceAdd, Nat.reduceSub, Nat.reduceMul, reduceCtorEq, Int.reduceToNat, Int.reduceNeg]
            repeat refine And.intro obl ?_
            refine hK32 _ ?_; clear hK32
            refine aw_cond _ (by rfl) (rfl) (fun c7 => ?_) (fun c7 => ?_)
            · try simp only [push_cast] at c7
              refine aw_seq fun K33 hK33 => ?_
              refine aw_reg [] (by kernel_rfl) ?_
              simp (disch := omega) only [go_sem, ↓reduceIte, Nat.reduceEqDiff, Nat.reduceLT, Nat.reduceLeDiff, Nat.reduceAdd, Nat.reduceSub, Nat.reduceMul, reduceCtorEq, Int.reduceToNat, Int.reduceNeg]
              repeat refine And.intro obl ?_
              refine hK33 _ ?_; clear hK33
              refine aw_ret ?_
              refine ret_tmp 2 rfl (by simp (disch := omega) only [go_sem, ↓reduceIte, Nat.reduceEqDiff, Nat.reduceLT, Nat.reduceLeDiff, Nat.reduceAdd, Nat.reduceSub, Nat.reduceMul, reduceCtorEq, Int.reduceToNat, Int.reduceNeg]) ?_
              exact Exp.is (by simp (disch := omega) only [go_sem, ↓reduceIte, Nat.reduceEqDiff, Nat.reduceLT, Nat.reduceLeDiff, Nat.reduceAdd, Nat.reduceSub, Nat.reduceMul, reduceCtorEq, Int.reduceToNat, Int.reduceNeg] <;> (rw [chk5 hL hP hA hB (all_f c6 (by rw [agB, ← Bool.not_eq_true]; intro h; simp only [Bool.and_eq_true] at h; simp only [h.1.1, h.1.2, h.2] at c7; simp at c7))])) rfl rfl
            · try simp only [push_cast] at c7
              refine aw_skip ?_
              refine hK30 _ ?_; clear hK30
              refine aw_reg [1, 124, 125, 126, 127] (by kernel_rfl) ?_
              simp (disch := omega) only [go_sem, ↓reduceIte, Nat.reduceEqDiff, Nat.reduceLT, Nat.reduceLeDiff, Nat.reduceAdd, Nat.reduceSub, Nat.reduceMul, reduceCtorEq, Int.reduceToNat, Int.reduceNeg]
              repeat refine And.intro obl ?_
              refine hK27 _ _ ?_ ⟨i + 1, rfl, ?_, ?_, ?_⟩
              · exact dfl
              · exact dfl
              · exact allTo_s l2_1 (by rw [agB]; simpa [and_assoc] using c7)
              · simp (disch := omega) only [go_sem, ↓reduceIte, Nat.reduceEqDiff, Nat.reduceLT, Nat.reduceLeDiff, Nat.reduceAdd, Nat.reduceSub, Nat.reduceMul, reduceCtorEq, Int.reduceToNat, Int.reduceNeg] <;> first | rfl | omega | simp | simp_all
          · try simp only [push_cast] at c6
            refine aw_exit ?_
            refine hK25 _ ?_; clear hK25
            refine aw_seq fun K34 hK34 => ?_
            refine aw_seq fun K35 hK35 => ?_
            refine aw_reg [1] (by kernel_rfl) ?_
            simp (disch := omega) only [go_sem, ↓reduceIte, Nat.reduceEqDiff, Nat.reduceLT, Nat.reduceLeDiff, Nat.reduceAdd, Nat.reduceSub, Nat.reduceMul, reduceCtorEq, Int.reduceToNat, Int.reduceNeg]
            repeat refine And.intro obl ?_
            refine hK35 _ ?_; clear hK35
            refine aw_block ?_
            have hC := all_t l2_1 (by omega)
            refine aw_loopK [1, 155, 156, 157] (fun n ρ => ∃ i, n = t.fRoutes.length - i ∧ (i ≤ t.fRoutes.length) ∧ (rgTo (nuB t) i) ∧ ρ = mkE O [(1, .bx (eTable t)), (155, encRt t.fRoutes), (156, vi (t.fRoutes.length : Nat)), (157, vi (i : Nat))]) _ ⟨0, rfl, ?_, ?_, ?_⟩ ?_
            · exact dfl
            · exact rgTo_0 _
            · simp (disch := omega) only [go_sem, ↓reduceIte, Nat.reduceEqDiff, Nat.reduceLT, Nat.reduceLeDiff, Nat.reduceAdd, Nat.reduceSub, Nat.reduceMul, reduceCtorEq, Int.reduceToNat, Int.reduceNeg] <;> first | rfl | omega | simp | simp_all
            rintro n ρ ⟨i, rfl, l3_0, l3_1, rfl⟩ K36 hK36
            refine aw_seq fun K37 hK37 => ?_
            refine aw_reg [1, 154, 155, 156, 157] (by kernel_rfl) ?_
            simp (disch := omega) only [go_sem, ↓reduceIte, Nat.reduceEqDiff, Nat.reduceLT, Nat.reduceLeDiff, Nat.reduceAdd, Nat.reduceSub, Nat.reduceMul, reduceCtorEq, Int.reduceToNat, Int.reduceNeg]
            repeat refine And.intro obl ?_
            refine hK37 _ ?_; clear hK37
            refine aw_seq fun K38 hK38 => ?_
            refine aw_cond _ (by rfl) (rfl) (fun c8 => ?_) (fun c8 => ?_)
            · try simp only [push_cast] at c8
              refine aw_skip ?_
              refine hK38 _ ?_; clear hK38
              refine aw_seq fun K39 hK39 => ?_
              refine aw_block ?_
              refine aw_seq fun K40 hK40 => ?_
              refine aw_reg [1, 154, 155, 156, 157] (by kernel_rfl) ?_
              simp (disch := omega) only [go_sem, ↓reduceIte, Nat.reduceEqDiff, Nat.reduceLT, Nat.reduceLeDiff, Nat.reduceAdd, Nat.reduceSub, Nat.reduceMul, reduceCtorEq, Int.reduceToNat, Int.reduceNeg]
              repeat refine And.intro obl ?_
              refine hK40 _ ?_; clear hK40
              refine aw_seq fun K41 hK41 => ?_
              refine aw_reg [1, 9, 10, 154, 155, 156, 157] (by kernel_rfl) ?_
              simp (disch := omega) only [go_sem, ↓reduceIte, Nat.reduceEqDiff, Nat.reduceLT, Nat.reduceLeDiff, Nat.reduceAdd, Nat.reduceSub, Nat.reduceMul, reduceCtorEq, Int.reduceToNat, Int.reduceNeg]
              repeat refine And.intro obl ?_
              refine callG_of _ (ref16_Find_ok _ t (nmN t i)) ?_
              simp (disch := omega) only [go_sem, ↓reduceIte, Nat.reduceEqDiff, Nat.reduceLT, Nat.reduceLeDiff, Nat.reduceAdd, Nat.reduceSub, Nat.reduceMul, reduceCtorEq, Int.reduceToNat, Int.reduceNeg]
              repeat refine And.intro obl ?_
              refine hK41 _ ?_; clear hK41
              refine aw_cond _ (by rfl) (rfl) (fun c9 => ?_) (fun c9 => ?_)
              · try simp only [push_cast] at c9
                refine aw_seq fun K42 hK42 => ?_
                refine aw_reg [] (by kernel_rfl) ?_
                simp (disch := omega) only [go_sem, ↓reduceIte, Nat.reduceEqDiff, Nat.reduceLT, Nat.reduceLeDiff, Nat.reduceAdd, Nat.reduceSub, Nat.reduceMul, reduceCtorEq, Int.reduceToNat, Int.reduceNeg]
                repeat refine And.intro obl ?_
                refine hK42 _ ?_; clear hK42
                refine aw_ret ?_
                refine ret_tmp 2 rfl (by simp (disch := omega) only [go_sem, ↓reduceIte, Nat.reduceEqDiff, Nat.reduceLT, Nat.reduceLeDiff, Nat.reduceAdd, Nat.reduceSub, Nat.reduceMul, reduceCtorEq, Int.reduceToNat, Int.reduceNeg]) ?_
                exact Exp.is (by simp (disch := omega) only [go_sem, ↓reduceIte, Nat.reduceEqDiff, Nat.reduceLT, Nat.reduceLeDiff, Nat.reduceAdd, Nat.reduceSub, Nat.reduceMul, reduceCtorEq, Int.reduceToNat, Int.reduceNeg] <;> (rw [chk6 hL hP hA hB hC (rg_f c8 (Bool.eq_false_iff.2 fun h => c9 ((fnd_eq c8).2 h)))])) rfl rfl
              · try simp only [push_cast] at c9
                refine aw_skip ?_
                refine hK39 _ ?_; clear hK39
                refine aw_reg [1, 154, 155, 156, 157] (by kernel_rfl) ?_
                simp (disch := omega) only [go_sem, ↓reduceIte, Nat.reduceEqDiff, Nat.reduceLT, Nat.reduceLeDiff, Nat.reduceAdd, Nat.reduceSub, Nat.reduceMul, reduceCtorEq, Int.reduceToNat, Int.reduceNeg]
                repeat refine And.intro obl ?_
                refine hK36 _ _ ?_ ⟨i + 1, rfl, ?_, ?_, ?_⟩
                · exact dfl
                · exact dfl
                · exact rgTo_s l3_1 ((fnd_eq c8).1 c9)
                · simp (disch := omega) only [go_sem, ↓reduceIte, Nat.reduceEqDiff, Nat.reduceLT, Nat.reduceLeDiff, Nat.reduceAdd, Nat.reduceSub, Nat.reduceMul, reduceCtorEq, Int.reduceToNat, Int.reduceNeg] <;> first | rfl | omega | simp | simp_all
            · try simp only [push_cast] at c8
              refine aw_exit ?_
              refine hK34 _ ?_; clear hK34
              refine aw_seq fun K43 hK43 => ?_
              refine aw_reg [] (by kernel_rfl) ?_
              simp (disch := omega) only [go_sem, ↓reduceIte, Nat.reduceEqDiff, Nat.reduceLT, Nat.reduceLeDiff, Nat.reduceAdd, Nat.reduceSub, Nat.reduceMul, reduceCtorEq, Int.reduceToNat, Int.reduceNeg]
              repeat refine And.intro obl ?_
              refine hK43 _ ?_; clear hK43
              refine aw_ret ?_
              refine ret_tmp 2 rfl (by simp (disch := omega) only [go_sem, ↓reduceIte, Nat.reduceEqDiff, Nat.reduceLT, Nat.reduceLeDiff, Nat.reduceAdd, Nat.reduceSub, Nat.reduceMul, reduceCtorEq, Int.reduceToNat, Int.reduceNeg]) ?_
              exact Exp.is (by simp (disch := omega) only [go_sem, ↓reduceIte, Nat.reduceEqDiff, Nat.reduceLT, Nat.reduceLeDiff, Nat.reduceAdd, Nat.reduceSub, Nat.reduceMul, reduceCtorEq, Int.reduceToNat, Int.reduceNeg] <;> (rw [chk7 hL hP hA hB hC (rg_t l3_1 (by omega))])) rfl rfl

set_option maxHeartbeats 2000000 in
theorem law16_Few_ok (O : Env) (t : Table) : PCall Tryz.prog O 14 [.agg (eTable t)] (vb (fewB t)) := by
  -- signalling/signallinglaw16.Few
  refine pcall_has 0 rfl (.agg (d := encRt t.fRoutes) (by simp [eTable]) (.sl _ _ _)) fun hr => ?_
  refine pcall_has 0 rfl (.agg (d := encI t.fPoints) (by simp [eTable]) (.sl _ _ _)) fun hp => ?_
  refine pcall_has 0 rfl (.agg (d := encI t.fHomes) (by simp [eTable]) (.sl _ _ _)) fun hh => ?_
  refine pcall_of_aw Tryz.func14 rfl (by kernel_rfl) ?_
  refine aw_seq fun K0 hK0 => ?_
  refine aw_reg [0] (by kernel_rfl) ?_
  simp (disch := omega) only [go_sem, ↓reduceIte, Nat.reduceEqDiff, Nat.reduceLT, Nat.reduceLeDiff, Nat.reduceAdd, Nat.reduceSub, Nat.reduceMul, reduceCtorEq, Int.reduceToNat, Int.reduceNeg]
  repeat refine And.intro obl ?_
  refine hK0 _ ?_; clear hK0
  refine aw_seq fun K1 hK1 => ?_
  refine aw_seq fun K2 hK2 => ?_
  refine aw_reg [1] (by kernel_rfl) ?_
  simp (disch := omega) only [go_sem, ↓reduceIte, Nat.reduceEqDiff, Nat.reduceLT, Nat.reduceLeDiff, Nat.reduceAdd, Nat.reduceSub, Nat.reduceMul, reduceCtorEq, Int.reduceToNat, Int.reduceNeg]
  repeat refine And.intro obl ?_
  refine hK2 _ ?_; clear hK2
  refine aw_cond _ (by rfl) (rfl) (fun c0 => ?_) (fun c0 => ?_)
  · try simp only [push_cast] at c0
    refine aw_seq fun K3 hK3 => ?_
    refine aw_reg [] (by kernel_rfl) ?_
    simp (disch := omega) only [go_sem, ↓reduceIte, Nat.reduceEqDiff, Nat.reduceLT, Nat.reduceLeDiff, Nat.reduceAdd, Nat.reduceSub, Nat.reduceMul, reduceCtorEq, Int.reduceToNat, Int.reduceNeg]
    repeat refine And.intro obl ?_
    refine hK3 _ ?_; clear hK3
    refine aw_ret ?_
    refine ret_tmp 2 rfl (by simp (disch := omega) only [go_sem, ↓reduceIte, Nat.reduceEqDiff, Nat.reduceLT, Nat.reduceLeDiff, Nat.reduceAdd, Nat.reduceSub, Nat.reduceMul, reduceCtorEq, Int.reduceToNat, Int.reduceNeg]) ?_
    exact Exp.is (by simp (disch := omega) only [go_sem, ↓reduceIte, Nat.reduceEqDiff, Nat.reduceLT, Nat.reduceLeDiff, Nat.reduceAdd, Nat.reduceSub, Nat.reduceMul, reduceCtorEq, Int.reduceToNat, Int.reduceNeg] <;> refine congrArg vb ?_ <;> (exact (few_no (decide_eq_false (by omega))).symm)) rfl rfl
  · try simp only [push_cast] at c0
    refine aw_skip ?_
    refine hK1 _ ?_; clear hK1
    refine aw_seq fun K4 hK4 => ?_
    refine aw_seq fun K5 hK5 => ?_
    refine aw_reg [1] (by kernel_rfl) ?_
    simp (disch := omega) only [go_sem, ↓reduceIte, Nat.reduceEqDiff, Nat.reduceLT, Nat.reduceLeDiff, Nat.reduceAdd, Nat.reduceSub, Nat.reduceMul, reduceCtorEq, Int.reduceToNat, Int.reduceNeg]
    repeat refine And.intro obl ?_
    refine hK5 _ ?_; clear hK5
    refine aw_block ?_
    refine aw_loopK [22, 23, 24] (fun n ρ => ∃ i, n = t.fRoutes.length - i ∧ (i ≤ t.fRoutes.length) ∧ (allTo fwR t.fRoutes i) ∧ ρ = mkE O [(22, encRt t.fRoutes), (23, vi (t.fRoutes.length : Nat)), (24, vi (i : Nat))]) _ ⟨0, rfl, ?_, ?_, ?_⟩ ?_
    · exact dfl
    · exact allTo_0 _ _
    · simp (disch := omega) only [go_sem, ↓reduceIte, Nat.reduceEqDiff, Nat.reduceLT, Nat.reduceLeDiff, Nat.reduceAdd, Nat.reduceSub, Nat.reduceMul, reduceCtorEq, Int.reduceToNat, Int.reduceNeg] <;> first | rfl | omega | simp | simp_all
    rintro n ρ ⟨i, rfl, l0_0, l0_1, rfl⟩ K6 hK6
    refine aw_seq fun K7 hK7 => ?_
    refine aw_reg [1, 21, 22, 23, 24] (by kernel_rfl) ?_
    simp (disch := omega) only [go_sem, ↓reduceIte, Nat.reduceEqDiff, Nat.reduceLT, Nat.reduceLeDiff, Nat.reduceAdd, Nat.reduceSub, Nat.reduceMul, reduceCtorEq, Int.reduceToNat, Int.reduceNeg]
    repeat refine And.intro obl ?_
    refine hK7 _ ?_; clear hK7
    refine aw_seq fun K8 hK8 => ?_
    refine aw_cond _ (by rfl) (rfl) (fun c1 => ?_) (fun c1 => ?_)
    · try simp only [push_cast] at c1
      refine aw_skip ?_
      refine hK8 _ ?_; clear hK8
      refine aw_seq fun K9 hK9 => ?_
      refine aw_block ?_
      refine aw_seq fun K10 hK10 => ?_
      refine aw_reg [1, 21, 22, 23, 24] (by kernel_rfl) ?_
      simp (disch := omega) only [go_sem, ↓reduceIte, Nat.reduceEqDiff, Nat.reduceLT, Nat.reduceLeDiff, Nat.reduceAdd, Nat.reduceSub, Nat.reduceMul, reduceCtorEq, Int.reduceToNat, Int.reduceNeg]
      repeat refine And.intro obl ?_
      refine hK10 _ ?_; clear hK10
      refine aw_seq fun K11 hK11 => ?_
      refine aw_reg [1, 4, 21, 22, 23, 24] (by kernel_rfl) ?_
      simp (disch := omega) only [go_sem, ↓reduceIte, Nat.reduceEqDiff, Nat.reduceLT, Nat.reduceLeDiff, Nat.reduceAdd, Nat.reduceSub, Nat.reduceMul, reduceCtorEq, Int.reduceToNat, Int.reduceNeg]
      repeat refine And.intro obl ?_
      refine hK11 _ ?_; clear hK11
      refine aw_cond _ (by rfl) (rfl) (fun c2 => ?_) (fun c2 => ?_)
      · try simp only [push_cast] at c2
        refine aw_seq fun K12 hK12 => ?_
        refine aw_reg [] (by kernel_rfl) ?_
        simp (disch := omega) only [go_sem, ↓reduceIte, Nat.reduceEqDiff, Nat.reduceLT, Nat.reduceLeDiff, Nat.reduceAdd, Nat.reduceSub, Nat.reduceMul, reduceCtorEq, Int.reduceToNat, Int.reduceNeg]
        repeat refine And.intro obl ?_
        refine hK12 _ ?_; clear hK12
        refine aw_ret ?_
        refine ret_tmp 2 rfl (by simp (disch := omega) only [go_sem, ↓reduceIte, Nat.reduceEqDiff, Nat.reduceLT, Nat.reduceLeDiff, Nat.reduceAdd, Nat.reduceSub, Nat.reduceMul, reduceCtorEq, Int.reduceToNat, Int.reduceNeg]) ?_
        exact Exp.is (by simp (disch := omega) only [go_sem, ↓reduceIte, Nat.reduceEqDiff, Nat.reduceLT, Nat.reduceLeDiff, Nat.reduceAdd, Nat.reduceSub, Nat.reduceMul, reduceCtorEq, Int.reduceToNat, Int.reduceNeg] <;> refine congrArg vb ?_ <;> (rw [fewB, all_f c1 (decide_eq_false (by omega)), Bool.and_false])) rfl rfl
      · try simp only [push_cast] at c2
        refine aw_skip ?_
        refine hK9 _ ?_; clear hK9
        refine aw_reg [1, 21, 22, 23, 24] (by kernel_rfl) ?_
        simp (disch := omega) only [go_sem, ↓reduceIte, Nat.reduceEqDiff, Nat.reduceLT, Nat.reduceLeDiff, Nat.reduceAdd, Nat.reduceSub, Nat.reduceMul, reduceCtorEq, Int.reduceToNat, Int.reduceNeg]
        repeat refine And.intro obl ?_
        refine hK6 _ _ ?_ ⟨i + 1, rfl, ?_, ?_, ?_⟩
        · exact dfl
        · exact dfl
        · exact allTo_s l0_1 (decide_eq_true (by omega))
        · simp (disch := omega) only [go_sem, ↓reduceIte, Nat.reduceEqDiff, Nat.reduceLT, Nat.reduceLeDiff, Nat.reduceAdd, Nat.reduceSub, Nat.reduceMul, reduceCtorEq, Int.reduceToNat, Int.reduceNeg] <;> first | rfl | omega | simp | simp_all
    · try simp only [push_cast] at c1
      refine aw_exit ?_
      refine hK4 _ ?_; clear hK4
      refine aw_seq fun K13 hK13 => ?_
      refine aw_reg [] (by kernel_rfl) ?_
      simp (disch := omega) only [go_sem, ↓reduceIte, Nat.reduceEqDiff, Nat.reduceLT, Nat.reduceLeDiff, Nat.reduceAdd, Nat.reduceSub, Nat.reduceMul, reduceCtorEq, Int.reduceToNat, Int.reduceNeg]
      repeat refine And.intro obl ?_
      refine hK13 _ ?_; clear hK13
      refine aw_ret ?_
      refine ret_tmp 2 rfl (by simp (disch := omega) only [go_sem, ↓reduceIte, Nat.reduceEqDiff, Nat.reduceLT, Nat.reduceLeDiff, Nat.reduceAdd, Nat.reduceSub, Nat.reduceMul, reduceCtorEq, Int.reduceToNat, Int.reduceNeg]) ?_
      exact Exp.is (by simp (disch := omega) only [go_sem, ↓reduceIte, Nat.reduceEqDiff, Nat.reduceLT, Nat.reduceLeDiff, Nat.reduceAdd, Nat.reduceSub, Nat.reduceMul, reduceCtorEq, Int.reduceToNat, Int.reduceNeg] <;> refine congrArg vb ?_ <;> (rw [fewB, all_t l0_1 (by omega), decide_eq_true (by omega)]; rfl)) rfl rfl

theorem law16_TableChecks_ok (O : Env) (t : Table) : PCall Tryz.prog O 4 [.agg (eTable t)] (vb true) := by
  -- signalling/signallinglaw16.TableChecks
  refine pcall_of_aw Tryz.func4 rfl (by kernel_rfl) ?_
  refine aw_seq fun K0 hK0 => ?_
  refine aw_reg [0] (by kernel_rfl) ?_
  simp (disch := omega) only [go_sem, ↓reduceIte, Nat.reduceEqDiff, Nat.reduceLT, Nat.reduceLeDiff, Nat.reduceAdd, Nat.reduceSub, Nat.reduceMul, reduceCtorEq, Int.reduceToNat, Int.reduceNeg]
  repeat refine And.intro obl ?_
  refine hK0 _ ?_; clear hK0
  refine aw_seq fun K1 hK1 => ?_
  refine aw_regDc [1] [] mixed (by kernel_rfl) ?_
  simp (disch := omega) only [go_sem, ↓reduceIte, Nat.reduceEqDiff, Nat.reduceLT, Nat.reduceLeDiff, Nat.reduceAdd, Nat.reduceSub, Nat.reduceMul, reduceCtorEq, Int.reduceToNat, Int.reduceNeg]
  repeat refine And.intro obl ?_
  refine callD_to (law16_Few_ok _ t) ?_ ?_
  · rfl
  simp (disch := omega) only [go_sem, ↓reduceIte, Nat.reduceEqDiff, Nat.reduceLT, Nat.reduceLeDiff, Nat.reduceAdd, Nat.reduceSub, Nat.reduceMul, reduceCtorEq, Int.reduceToNat, Int.reduceNeg]
  repeat refine And.intro obl ?_
  refine callC_to (fun g0 => table_Check_ok _ t (by simpa using g0)) ?_ ?_ ?_
  · first | exact fun _ => trivial | simp
  · rfl
  simp (disch := omega) only [go_sem, ↓reduceIte, Nat.reduceEqDiff, Nat.reduceLT, Nat.reduceLeDiff, Nat.reduceAdd, Nat.reduceSub, Nat.reduceMul, reduceCtorEq, Int.reduceToNat, Int.reduceNeg]
  repeat refine And.intro obl ?_
  refine callC_to (fun g1 => ref16_Check_ok _ t (by simpa using g1)) ?_ ?_ ?_
  · first | exact fun _ => trivial | simp
  · rfl
  simp (disch := omega) only [go_sem, ↓reduceIte, Nat.reduceEqDiff, Nat.reduceLT, Nat.reduceLeDiff, Nat.reduceAdd, Nat.reduceSub, Nat.reduceMul, reduceCtorEq, Int.reduceToNat, Int.reduceNeg]
  repeat refine And.intro obl ?_
  refine callC_to (fun g2 => alive_ok _) ?_ ?_ ?_
  · first | exact fun _ => trivial | simp
  · rfl
  simp (disch := omega) only [go_sem, ↓reduceIte, Nat.reduceEqDiff, Nat.reduceLT, Nat.reduceLeDiff, Nat.reduceAdd, Nat.reduceSub, Nat.reduceMul, reduceCtorEq, Int.reduceToNat, Int.reduceNeg]
  repeat refine And.intro obl ?_
  refine hK1 _ ?_; clear hK1
  refine aw_ret ?_
  refine ret_tmp 2 rfl (by simp (disch := omega) only [go_sem, ↓reduceIte, Nat.reduceEqDiff, Nat.reduceLT, Nat.reduceLeDiff, Nat.reduceAdd, Nat.reduceSub, Nat.reduceMul, reduceCtorEq, Int.reduceToNat, Int.reduceNeg]) ?_
  exact Exp.is (by simp (disch := omega) only [go_sem, ↓reduceIte, Nat.reduceEqDiff, Nat.reduceLT, Nat.reduceLeDiff, Nat.reduceAdd, Nat.reduceSub, Nat.reduceMul, reduceCtorEq, Int.reduceToNat, Int.reduceNeg] <;> refine congrArg vb ?_ <;> (simp)) rfl rfl

end Go.Sg
