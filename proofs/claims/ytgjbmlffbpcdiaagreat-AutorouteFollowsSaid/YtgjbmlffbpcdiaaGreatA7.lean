/- The law that routes are called in the order of the plan. Printed by genw.py. -/
import Derived.Test.YtgjbmlffbpcdiaaGreatA6
set_option linter.unusedVariables false
set_option linter.unusedSimpArgs false
set_option maxRecDepth 8000
namespace Go.Sg
open Go.Proofs

set_option maxHeartbeats 4000000 in
theorem law50_AutorouteFollows_ok (O : Env) (t : Table) (s : Inter) (c : Case) : PCall Tryz.prog O 5 [.agg (eTable t), .agg (eInter s), .agg (eCase c)] (vb true) := by
  -- signalling/signallinglaw50.AutorouteFollows
  refine pcall_of_aw Tryz.func5 rfl (by kernel_rfl) ?_
  refine aw_seq fun K0 hK0 => ?_
  refine aw_reg [0, 1, 2] (by kernel_rfl) ?_   -- r0.0
  simp (disch := omega) only [go_sem, ↓reduceIte, Nat.reduceEqDiff, Nat.reduceLT, Nat.reduceLeDiff, Nat.reduceAdd, Nat.reduceSub, Nat.reduceMul, reduceCtorEq, Int.reduceToNat, Int.reduceNeg]
  repeat refine And.intro (by first | omega | assumption | (simp only [List.length_append, List.length_cons, List.length_nil]; omega) | (intros; first | omega | assumption | (simp_all; done) | grind)) ?_   -- r0.0
  refine hK0 _ ?_; clear hK0
  refine aw_seq fun K1 hK1 => ?_
  refine aw_seq fun K2 hK2 => ?_
  refine aw_reg [3, 4, 5] (by kernel_rfl) ?_   -- r1.1
  simp (disch := omega) only [go_sem, ↓reduceIte, Nat.reduceEqDiff, Nat.reduceLT, Nat.reduceLeDiff, Nat.reduceAdd, Nat.reduceSub, Nat.reduceMul, reduceCtorEq, Int.reduceToNat, Int.reduceNeg]
  repeat refine And.intro (by first | omega | assumption | (simp only [List.length_append, List.length_cons, List.length_nil]; omega) | (intros; first | omega | assumption | (simp_all; done) | grind)) ?_   -- r1.1
  refine callG_of _ (law50_small_ok _ t s c) ?_   -- r1.1#0
  simp (disch := omega) only [go_sem, ↓reduceIte, Nat.reduceEqDiff, Nat.reduceLT, Nat.reduceLeDiff, Nat.reduceAdd, Nat.reduceSub, Nat.reduceMul, reduceCtorEq, Int.reduceToNat, Int.reduceNeg]
  repeat refine And.intro (by first | omega | assumption | (simp only [List.length_append, List.length_cons, List.length_nil]; omega) | (intros; first | omega | assumption | (simp_all; done) | grind)) ?_   -- r1.1
  refine hK2 _ ?_; clear hK2
  refine aw_cond _ (by rfl) (rfl) (fun c0 => ?_) (fun c0 => ?_)   -- c0
  · try simp only [decide_eq_true_eq, decide_eq_false_iff_not, Bool.not_eq_true', Bool.not_eq_false', beq_iff_eq, bne_iff_ne, beq_eq_false_iff_ne, bne_eq_false_iff_eq, Bool.not_eq_true, Bool.not_eq_false, Int.not_lt, Int.not_le, Nat.not_lt, Nat.not_le, ne_eq, Int.ofNat_inj, Bool.and_eq_true, Bool.or_eq_true, Bool.and_eq_false_iff, Bool.or_eq_false_iff, Bool.not_eq_eq_eq_not, Bool.not_true, Bool.not_false] at c0   -- c0.t
    refine aw_seq fun K3 hK3 => ?_
    refine aw_reg [] (by kernel_rfl) ?_   -- r2.2
    simp (disch := omega) only [go_sem, ↓reduceIte, Nat.reduceEqDiff, Nat.reduceLT, Nat.reduceLeDiff, Nat.reduceAdd, Nat.reduceSub, Nat.reduceMul, reduceCtorEq, Int.reduceToNat, Int.reduceNeg]
    repeat refine And.intro (by first | omega | assumption | (simp only [List.length_append, List.length_cons, List.length_nil]; omega) | (intros; first | omega | assumption | (simp_all; done) | grind)) ?_   -- r2.2
    refine callG_of _ (alive_ok _) ?_   -- r2.2#0
    simp (disch := omega) only [go_sem, ↓reduceIte, Nat.reduceEqDiff, Nat.reduceLT, Nat.reduceLeDiff, Nat.reduceAdd, Nat.reduceSub, Nat.reduceMul, reduceCtorEq, Int.reduceToNat, Int.reduceNeg]
    repeat refine And.intro (by first | omega | assumption | (simp only [List.length_append, List.length_cons, List.length_nil]; omega) | (intros; first | omega | assumption | (simp_all; done) | grind)) ?_   -- r2.2
    refine hK3 _ ?_; clear hK3
    refine aw_ret ?_
    refine ret_tmp 6 rfl (by simp (disch := omega) only [go_sem, ↓reduceIte, Nat.reduceEqDiff, Nat.reduceLT, Nat.reduceLeDiff, Nat.reduceAdd, Nat.reduceSub, Nat.reduceMul, reduceCtorEq, Int.reduceToNat, Int.reduceNeg]) ?_   -- ret0
    exact Exp.is (by simp (disch := omega) only [go_sem, ↓reduceIte, Nat.reduceEqDiff, Nat.reduceLT, Nat.reduceLeDiff, Nat.reduceAdd, Nat.reduceSub, Nat.reduceMul, reduceCtorEq, Int.reduceToNat, Int.reduceNeg] <;> refine congrArg vb ?_ <;> (first | assumption | omega | (simp only [List.length_append, List.length_cons, List.length_nil] at *; omega) | (simp_all; done))) rfl rfl
  · try simp only [decide_eq_true_eq, decide_eq_false_iff_not, Bool.not_eq_true', Bool.not_eq_false', beq_iff_eq, bne_iff_ne, beq_eq_false_iff_ne, bne_eq_false_iff_eq, Bool.not_eq_true, Bool.not_eq_false, Int.not_lt, Int.not_le, Nat.not_lt, Nat.not_le, ne_eq, Int.ofNat_inj, Bool.and_eq_true, Bool.or_eq_true, Bool.and_eq_false_iff, Bool.or_eq_false_iff, Bool.not_eq_eq_eq_not, Bool.not_true, Bool.not_false] at c0   -- c0.f
    have hq := smal_of c0
    have hs := smt_of hq.1.1
    have hn := (few_of hq.1.1).1
    have hb : c.fTrips.length ≤ 1000 := Nat.le_trans hq.1.2.2.1 (by decide)
    have hb2 := trB hq.2.1
    refine aw_skip ?_
    refine hK1 _ ?_; clear hK1
    refine aw_seq fun K4 hK4 => ?_
    refine aw_reg [3, 4, 5] (by kernel_rfl) ?_   -- r3.3
    simp (disch := omega) only [go_sem, ↓reduceIte, Nat.reduceEqDiff, Nat.reduceLT, Nat.reduceLeDiff, Nat.reduceAdd, Nat.reduceSub, Nat.reduceMul, reduceCtorEq, Int.reduceToNat, Int.reduceNeg]
    repeat refine And.intro (by first | omega | assumption | (simp only [List.length_append, List.length_cons, List.length_nil]; omega) | (intros; first | omega | assumption | (simp_all; done) | grind)) ?_   -- r3.3
    refine callG_of _ (autoroute_Calls_ok _ t s c.fTrips c.fPlan c.fProgress c.fNow hs hn hb hb2) ?_   -- r3.3#0
    simp (disch := omega) only [go_sem, ↓reduceIte, Nat.reduceEqDiff, Nat.reduceLT, Nat.reduceLeDiff, Nat.reduceAdd, Nat.reduceSub, Nat.reduceMul, reduceCtorEq, Int.reduceToNat, Int.reduceNeg]
    repeat refine And.intro (by first | omega | assumption | (simp only [List.length_append, List.length_cons, List.length_nil]; omega) | (intros; first | omega | assumption | (simp_all; done) | grind)) ?_   -- r3.3
    refine hK4 _ ?_; clear hK4
    refine aw_seq fun K5 hK5 => ?_
    refine aw_seq fun K6 hK6 => ?_
    refine aw_reg [3, 4, 5, 7, 8, 25, 36] (by kernel_rfl) ?_   -- r4.4
    simp (disch := omega) only [go_sem, ↓reduceIte, Nat.reduceEqDiff, Nat.reduceLT, Nat.reduceLeDiff, Nat.reduceAdd, Nat.reduceSub, Nat.reduceMul, reduceCtorEq, Int.reduceToNat, Int.reduceNeg]
    repeat refine And.intro (by first | omega | assumption | (simp only [List.length_append, List.length_cons, List.length_nil]; omega) | (intros; first | omega | assumption | (simp_all; done) | grind)) ?_   -- r4.4
    refine callG_of _ (ref50_Fits_ok _ c.fTrips c.fPlan) ?_   -- r4.4#0
    simp (disch := omega) only [go_sem, ↓reduceIte, Nat.reduceEqDiff, Nat.reduceLT, Nat.reduceLeDiff, Nat.reduceAdd, Nat.reduceSub, Nat.reduceMul, reduceCtorEq, Int.reduceToNat, Int.reduceNeg]
    repeat refine And.intro (by first | omega | assumption | (simp only [List.length_append, List.length_cons, List.length_nil]; omega) | (intros; first | omega | assumption | (simp_all; done) | grind)) ?_   -- r4.4
    refine hK6 _ ?_; clear hK6
    refine aw_cond _ (by rfl) (rfl) (fun c1 => ?_) (fun c1 => ?_)   -- c1
    · try simp only [decide_eq_true_eq, decide_eq_false_iff_not, Bool.not_eq_true', Bool.not_eq_false', beq_iff_eq, bne_iff_ne, beq_eq_false_iff_ne, bne_eq_false_iff_eq, Bool.not_eq_true, Bool.not_eq_false, Int.not_lt, Int.not_le, Nat.not_lt, Nat.not_le, ne_eq, Int.ofNat_inj, Bool.and_eq_true, Bool.or_eq_true, Bool.and_eq_false_iff, Bool.or_eq_false_iff, Bool.not_eq_eq_eq_not, Bool.not_true, Bool.not_false] at c1   -- c1.t
      rw [show dcsS t s c.fTrips c.fPlan c.fProgress c.fNow = [] from if_neg (by simp [c1]), show clsS t s c.fTrips c.fPlan c.fProgress c.fNow = [] from if_neg (by simp [c1])]
      refine aw_seq fun K7 hK7 => ?_
      refine aw_reg [7, 8, 25, 36] (by kernel_rfl) ?_   -- r5.5
      simp (disch := omega) only [go_sem, ↓reduceIte, Nat.reduceEqDiff, Nat.reduceLT, Nat.reduceLeDiff, Nat.reduceAdd, Nat.reduceSub, Nat.reduceMul, reduceCtorEq, Int.reduceToNat, Int.reduceNeg]
      repeat refine And.intro (by first | omega | assumption | (simp only [List.length_append, List.length_cons, List.length_nil]; omega) | (intros; first | omega | assumption | (simp_all; done) | grind)) ?_   -- r5.5
      refine callC_to (fun g0 => alive_ok _) ?_ ?_ ?_   -- r5.5#0
      · first | exact fun _ => trivial | simp
      · rfl
      simp (disch := omega) only [go_sem, ↓reduceIte, Nat.reduceEqDiff, Nat.reduceLT, Nat.reduceLeDiff, Nat.reduceAdd, Nat.reduceSub, Nat.reduceMul, reduceCtorEq, Int.reduceToNat, Int.reduceNeg]
      repeat refine And.intro (by first | omega | assumption | (simp only [List.length_append, List.length_cons, List.length_nil]; omega) | (intros; first | omega | assumption | (simp_all; done) | grind)) ?_   -- r5.5
      refine hK7 _ ?_; clear hK7
      refine aw_ret ?_
      refine ret_tmp 6 rfl (by simp (disch := omega) only [go_sem, ↓reduceIte, Nat.reduceEqDiff, Nat.reduceLT, Nat.reduceLeDiff, Nat.reduceAdd, Nat.reduceSub, Nat.reduceMul, reduceCtorEq, Int.reduceToNat, Int.reduceNeg]) ?_   -- ret1
      exact Exp.is (by simp (disch := omega) only [go_sem, ↓reduceIte, Nat.reduceEqDiff, Nat.reduceLT, Nat.reduceLeDiff, Nat.reduceAdd, Nat.reduceSub, Nat.reduceMul, reduceCtorEq, Int.reduceToNat, Int.reduceNeg] <;> refine congrArg vb ?_ <;> (first | assumption | omega | (simp only [List.length_append, List.length_cons, List.length_nil] at *; omega) | (simp_all; done))) rfl rfl
    · try simp only [decide_eq_true_eq, decide_eq_false_iff_not, Bool.not_eq_true', Bool.not_eq_false', beq_iff_eq, bne_iff_ne, beq_eq_false_iff_ne, bne_eq_false_iff_eq, Bool.not_eq_true, Bool.not_eq_false, Int.not_lt, Int.not_le, Nat.not_lt, Nat.not_le, ne_eq, Int.ofNat_inj, Bool.and_eq_true, Bool.or_eq_true, Bool.and_eq_false_iff, Bool.or_eq_false_iff, Bool.not_eq_eq_eq_not, Bool.not_true, Bool.not_false] at c1   -- c1.f
      have hfl := (fit_of c1).1
      have hff := (fit_of c1).2
      rw [show dcsS t s c.fTrips c.fPlan c.fProgress c.fNow = dcL t s c.fTrips c.fPlan.fStarts c.fProgress c.fNow c.fTrips.length from if_pos c1, show clsS t s c.fTrips c.fPlan c.fProgress c.fNow = mk ((dcL t s c.fTrips c.fPlan.fStarts c.fProgress c.fNow c.fTrips.length).map Decision.fRoute) from if_pos c1]
      have hDl : (dcL t s c.fTrips c.fPlan.fStarts c.fProgress c.fNow c.fTrips.length).length ≤ c.fTrips.length := dc_len _
      have hCl := cls_len (t := t) (s := s) (tr := c.fTrips) (st := c.fPlan.fStarts) (pr := c.fProgress) (now := c.fNow) c.fTrips.length
      obtain ⟨J, hJ, hM⟩ := dc_idx (t := t) (s := s) (tr := c.fTrips) (st := c.fPlan.fStarts) (pr := c.fProgress) (now := c.fNow) c.fTrips.length
      generalize hD : dcL t s c.fTrips c.fPlan.fStarts c.fProgress c.fNow c.fTrips.length = D at *
      have hT : ∀ i, i < D.length → (D.getD i default).fTrip = ((J i : Nat) : Int) := fun i h => by rw [(hJ i h).1]; rfl
      have hS : ∀ i, i < D.length → (D.getD i default).fStop = ((atN c.fProgress (J i) : Nat) : Int) := fun i h => by rw [(hJ i h).1]; rfl
      have hR : ∀ i, i < D.length → (D.getD i default).fRoute = rtS c.fTrips (J i) (atN c.fProgress (J i)) := fun i h => by rw [(hJ i h).1]; rfl
      have hE : ∀ i, i < D.length → 0 ≤ (D.getD i default).fRoute ∧ (D.getD i default).fRoute.toNat < t.fRoutes.length := fun i h => by rw [hR i h]; exact ⟨(may_of (hJ i h).2.1).2.1.1, (may_of (hJ i h).2.1).2.1.2.1⟩
      have hcM := cls_mem hE
      have hcU := cls_up (D.map Decision.fRoute)
      generalize hC : mk (D.map Decision.fRoute) = C at *
      have hC2 : C.length ≤ 1000 := (by rw [← hC]; have := mk_len (D.map Decision.fRoute); rw [List.length_map] at this; omega)
      refine aw_skip ?_
      refine hK5 _ ?_; clear hK5
      refine aw_seq fun K8 hK8 => ?_
      refine aw_reg [3, 4, 5, 7, 8, 25, 36] (by kernel_rfl) ?_   -- r6.6
      simp (disch := omega) only [go_sem, ↓reduceIte, Nat.reduceEqDiff, Nat.reduceLT, Nat.reduceLeDiff, Nat.reduceAdd, Nat.reduceSub, Nat.reduceMul, reduceCtorEq, Int.reduceToNat, Int.reduceNeg]
      repeat refine And.intro (by first | omega | assumption | (simp only [List.length_append, List.length_cons, List.length_nil]; omega) | (intros; first | omega | assumption | (simp_all; done) | grind)) ?_   -- r6.6
      refine hK8 _ ?_; clear hK8
      refine aw_seq fun K9 hK9 => ?_
      refine aw_reg [3, 4, 5, 7, 8, 9, 25, 36] (by kernel_rfl) ?_   -- r7.7
      simp (disch := omega) only [go_sem, ↓reduceIte, Nat.reduceEqDiff, Nat.reduceLT, Nat.reduceLeDiff, Nat.reduceAdd, Nat.reduceSub, Nat.reduceMul, reduceCtorEq, Int.reduceToNat, Int.reduceNeg]
      repeat refine And.intro (by first | omega | assumption | (simp only [List.length_append, List.length_cons, List.length_nil]; omega) | (intros; first | omega | assumption | (simp_all; done) | grind)) ?_   -- r7.7
      refine hK9 _ ?_; clear hK9
      refine aw_seq fun K10 hK10 => ?_
      refine aw_seq fun K11 hK11 => ?_
      refine aw_reg [3, 4, 5, 7, 8, 9, 10, 25, 36] (by kernel_rfl) ?_   -- r8.8
      simp (disch := omega) only [go_sem, ↓reduceIte, Nat.reduceEqDiff, Nat.reduceLT, Nat.reduceLeDiff, Nat.reduceAdd, Nat.reduceSub, Nat.reduceMul, reduceCtorEq, Int.reduceToNat, Int.reduceNeg]
      repeat refine And.intro (by first | omega | assumption | (simp only [List.length_append, List.length_cons, List.length_nil]; omega) | (intros; first | omega | assumption | (simp_all; done) | grind)) ?_   -- r8.8
      refine hK11 _ ?_; clear hK11
      refine aw_block ?_
      refine aw_loopK [3, 4, 5, 7, 8, 9, 10, 58, 59, 60] (fun n ρ => ∃ i, ∃ cd, n = D.length - i ∧ (i ≤ D.length) ∧ (cd = cdF D t.fRoutes.length i) ∧ (cd.length = t.fRoutes.length) ∧ (cnt cd ≤ i) ∧ ρ = mkE O [(3, .bx (eTable t)), (4, .bx (eInter s)), (5, .bx (eCase c)), (7, encI C), (8, encDc D), (9, rowL 4 1 eB cd), (10, vi (cnt cd : Nat)), (58, encDc D), (59, vi (D.length : Nat)), (60, vi (i : Nat))]) _ ⟨0, List.replicate t.fRoutes.length false, rfl, ?_, ?_, ?_, ?_, ?_⟩ ?_   -- L0
      · first | assumption | omega | (simp only [List.length_append, List.length_cons, List.length_nil] at *; omega) | (simp_all; done)   -- L0.init.inv0
      · exact (cdF_0 _ _).symm   -- L0.init.inv1
      · simp   -- L0.init.inv2
      · unfold cnt; rw [List.count_eq_zero.2 (by simp)]; exact Nat.le_refl _   -- L0.init.inv3
      · simp (disch := omega) only [go_sem, ↓reduceIte, Nat.reduceEqDiff, Nat.reduceLT, Nat.reduceLeDiff, Nat.reduceAdd, Nat.reduceSub, Nat.reduceMul, reduceCtorEq, Int.reduceToNat, Int.reduceNeg] <;> (rw [show cnt (List.replicate t.fRoutes.length false) = 0 from (by unfold cnt; exact List.count_eq_zero.2 (by simp)), List.map_replicate]; rfl)   -- L0.init.env
      rintro n ρ ⟨i, cd, rfl, l0_0, l0_1, l0_2, l0_3, rfl⟩ K12 hK12
      refine aw_seq fun K13 hK13 => ?_
      refine aw_reg [3, 4, 5, 7, 8, 9, 10, 25, 36, 58, 59, 60] (by kernel_rfl) ?_   -- r9.9
      simp (disch := omega) only [go_sem, ↓reduceIte, Nat.reduceEqDiff, Nat.reduceLT, Nat.reduceLeDiff, Nat.reduceAdd, Nat.reduceSub, Nat.reduceMul, reduceCtorEq, Int.reduceToNat, Int.reduceNeg, hT, hS, hR]
      repeat refine And.intro (by first | omega | assumption | (simp only [List.length_append, List.length_cons, List.length_nil]; omega) | (intros; first | omega | assumption | (simp_all; done) | grind)) ?_   -- r9.9
      refine hK13 _ ?_; clear hK13
      refine aw_seq fun K14 hK14 => ?_
      refine aw_cond _ (by rfl) (rfl) (fun c2 => ?_) (fun c2 => ?_)   -- c2
      · try simp only [decide_eq_true_eq, decide_eq_false_iff_not, Bool.not_eq_true', Bool.not_eq_false', beq_iff_eq, bne_iff_ne, beq_eq_false_iff_ne, bne_eq_false_iff_eq, Bool.not_eq_true, Bool.not_eq_false, Int.not_lt, Int.not_le, Nat.not_lt, Nat.not_le, ne_eq, Int.ofNat_inj, Bool.and_eq_true, Bool.or_eq_true, Bool.and_eq_false_iff, Bool.or_eq_false_iff, Bool.not_eq_eq_eq_not, Bool.not_true, Bool.not_false] at c2   -- c2.t
        have hji := hJ i c2
        obtain ⟨ha, ⟨hr0, hr1, hr2⟩, hst, hle, hbl⟩ := may_of hji.2.1
        have hji3 := hji.2.2
        have hfi := hff (J i) hji3
        refine aw_skip ?_
        refine hK14 _ ?_; clear hK14
        refine aw_seq fun K15 hK15 => ?_
        refine aw_block ?_
        refine aw_seq fun K16 hK16 => ?_
        refine aw_reg [3, 4, 5, 7, 8, 9, 10, 25, 36, 58, 59, 60] (by kernel_rfl) ?_   -- r10.10
        simp (disch := omega) only [go_sem, ↓reduceIte, Nat.reduceEqDiff, Nat.reduceLT, Nat.reduceLeDiff, Nat.reduceAdd, Nat.reduceSub, Nat.reduceMul, reduceCtorEq, Int.reduceToNat, Int.reduceNeg, hT, hS, hR]
        repeat refine And.intro (by first | omega | assumption | (simp only [List.length_append, List.length_cons, List.length_nil]; omega) | (intros; first | omega | assumption | (simp_all; done) | grind)) ?_   -- r10.10
        refine hK16 _ ?_; clear hK16
        refine aw_seq fun K17 hK17 => ?_
        refine aw_seq fun K18 hK18 => ?_
        refine aw_regDc [3, 4, 5, 7, 8, 9, 10, 11, 12, 25, 36, 58, 59, 60] [] mixed (by kernel_rfl) ?_   -- r11.11
        simp (disch := omega) only [go_sem, ↓reduceIte, Nat.reduceEqDiff, Nat.reduceLT, Nat.reduceLeDiff, Nat.reduceAdd, Nat.reduceSub, Nat.reduceMul, reduceCtorEq, Int.reduceToNat, Int.reduceNeg, hT, hS, hR]
        repeat refine And.intro (by first | omega | assumption | (simp only [List.length_append, List.length_cons, List.length_nil]; omega) | (intros; first | omega | assumption | (simp_all; done) | grind)) ?_   -- r11.11
        refine callC_to (fun g1 => ref50_At_ok _ c.fProgress (J i)) ?_ ?_ ?_   -- r11.11#0
        · first | exact fun _ => trivial | simp
        · rfl
        simp (disch := omega) only [go_sem, ↓reduceIte, Nat.reduceEqDiff, Nat.reduceLT, Nat.reduceLeDiff, Nat.reduceAdd, Nat.reduceSub, Nat.reduceMul, reduceCtorEq, Int.reduceToNat, Int.reduceNeg, hT, hS, hR]
        repeat refine And.intro (by first | omega | assumption | (simp only [List.length_append, List.length_cons, List.length_nil]; omega) | (intros; first | omega | assumption | (simp_all; done) | grind)) ?_   -- r11.11
        refine hK18 _ ?_; clear hK18
        refine aw_cond _ (by rfl) (rfl) (fun c3 => ?_) (fun c3 => ?_)   -- c3
        · try simp only [decide_eq_true_eq, decide_eq_false_iff_not, Bool.not_eq_true', Bool.not_eq_false', beq_iff_eq, bne_iff_ne, beq_eq_false_iff_ne, bne_eq_false_iff_eq, Bool.not_eq_true, Bool.not_eq_false, Int.not_lt, Int.not_le, Nat.not_lt, Nat.not_le, ne_eq, Int.ofNat_inj, Bool.and_eq_true, Bool.or_eq_true, Bool.and_eq_false_iff, Bool.or_eq_false_iff, Bool.not_eq_eq_eq_not, Bool.not_true, Bool.not_false] at c3   -- c3.t
          exfalso; have hm := hM (i - 1) i; first | omega | (simp at c3; omega) | grind
        · try simp only [decide_eq_true_eq, decide_eq_false_iff_not, Bool.not_eq_true', Bool.not_eq_false', beq_iff_eq, bne_iff_ne, beq_eq_false_iff_ne, bne_eq_false_iff_eq, Bool.not_eq_true, Bool.not_eq_false, Int.not_lt, Int.not_le, Nat.not_lt, Nat.not_le, ne_eq, Int.ofNat_inj, Bool.and_eq_true, Bool.or_eq_true, Bool.and_eq_false_iff, Bool.or_eq_false_iff, Bool.not_eq_eq_eq_not, Bool.not_true, Bool.not_false] at c3   -- c3.f
          refine aw_skip ?_
          refine hK17 _ ?_; clear hK17
          refine aw_seq fun K19 hK19 => ?_
          refine aw_seq fun K20 hK20 => ?_
          refine aw_reg [3, 4, 5, 7, 8, 9, 10, 12, 25, 36, 58, 59, 60] (by kernel_rfl) ?_   -- r13.12
          simp (disch := omega) only [go_sem, ↓reduceIte, Nat.reduceEqDiff, Nat.reduceLT, Nat.reduceLeDiff, Nat.reduceAdd, Nat.reduceSub, Nat.reduceMul, reduceCtorEq, Int.reduceToNat, Int.reduceNeg, hT, hS, hR]
          repeat refine And.intro (by first | omega | assumption | (simp only [List.length_append, List.length_cons, List.length_nil]; omega) | (intros; first | omega | assumption | (simp_all; done) | grind)) ?_   -- r13.12
          refine hK20 _ ?_; clear hK20
          refine aw_cond _ (by rfl) (rfl) (fun c4 => ?_) (fun c4 => ?_)   -- c4
          · try simp only [decide_eq_true_eq, decide_eq_false_iff_not, Bool.not_eq_true', Bool.not_eq_false', beq_iff_eq, bne_iff_ne, beq_eq_false_iff_ne, bne_eq_false_iff_eq, Bool.not_eq_true, Bool.not_eq_false, Int.not_lt, Int.not_le, Nat.not_lt, Nat.not_le, ne_eq, Int.ofNat_inj, Bool.and_eq_true, Bool.or_eq_true, Bool.and_eq_false_iff, Bool.or_eq_false_iff, Bool.not_eq_eq_eq_not, Bool.not_true, Bool.not_false] at c4   -- c4.t
            exfalso; omega
          · try simp only [decide_eq_true_eq, decide_eq_false_iff_not, Bool.not_eq_true', Bool.not_eq_false', beq_iff_eq, bne_iff_ne, beq_eq_false_iff_ne, bne_eq_false_iff_eq, Bool.not_eq_true, Bool.not_eq_false, Int.not_lt, Int.not_le, Nat.not_lt, Nat.not_le, ne_eq, Int.ofNat_inj, Bool.and_eq_true, Bool.or_eq_true, Bool.and_eq_false_iff, Bool.or_eq_false_iff, Bool.not_eq_eq_eq_not, Bool.not_true, Bool.not_false] at c4   -- c4.f
            refine aw_skip ?_
            refine hK19 _ ?_; clear hK19
            refine aw_seq fun K21 hK21 => ?_
            refine aw_regDc [3, 4, 5, 7, 8, 9, 10, 12, 25, 36, 58, 59, 60] [] mixed (by kernel_rfl) ?_   -- r15.13
            simp (disch := omega) only [go_sem, ↓reduceIte, Nat.reduceEqDiff, Nat.reduceLT, Nat.reduceLeDiff, Nat.reduceAdd, Nat.reduceSub, Nat.reduceMul, reduceCtorEq, Int.reduceToNat, Int.reduceNeg, hT, hS, hR]
            repeat refine And.intro (by first | omega | assumption | (simp only [List.length_append, List.length_cons, List.length_nil]; omega) | (intros; first | omega | assumption | (simp_all; done) | grind)) ?_   -- r15.13
            refine hK21 _ ?_; clear hK21
            refine aw_seq fun K22 hK22 => ?_
            refine aw_seq fun K23 hK23 => ?_
            refine aw_regDc [3, 4, 5, 7, 8, 9, 10, 12, 13, 25, 36, 58, 59, 60] [] mixed (by kernel_rfl) ?_   -- r16.14
            simp (disch := omega) only [go_sem, ↓reduceIte, Nat.reduceEqDiff, Nat.reduceLT, Nat.reduceLeDiff, Nat.reduceAdd, Nat.reduceSub, Nat.reduceMul, reduceCtorEq, Int.reduceToNat, Int.reduceNeg, hT, hS, hR]
            repeat refine And.intro (by first | omega | assumption | (simp only [List.length_append, List.length_cons, List.length_nil]; omega) | (intros; first | omega | assumption | (simp_all; done) | grind)) ?_   -- r16.14
            refine hK23 _ ?_; clear hK23
            refine aw_cond _ (by rfl) (rfl) (fun c5 => ?_) (fun c5 => ?_)   -- c5
            · try simp only [decide_eq_true_eq, decide_eq_false_iff_not, Bool.not_eq_true', Bool.not_eq_false', beq_iff_eq, bne_iff_ne, beq_eq_false_iff_ne, bne_eq_false_iff_eq, Bool.not_eq_true, Bool.not_eq_false, Int.not_lt, Int.not_le, Nat.not_lt, Nat.not_le, ne_eq, Int.ofNat_inj, Bool.and_eq_true, Bool.or_eq_true, Bool.and_eq_false_iff, Bool.or_eq_false_iff, Bool.not_eq_eq_eq_not, Bool.not_true, Bool.not_false] at c5   -- c5.t
              exfalso; simp only [rtS, stS, stN] at *; grind
            · try simp only [decide_eq_true_eq, decide_eq_false_iff_not, Bool.not_eq_true', Bool.not_eq_false', beq_iff_eq, bne_iff_ne, beq_eq_false_iff_ne, bne_eq_false_iff_eq, Bool.not_eq_true, Bool.not_eq_false, Int.not_lt, Int.not_le, Nat.not_lt, Nat.not_le, ne_eq, Int.ofNat_inj, Bool.and_eq_true, Bool.or_eq_true, Bool.and_eq_false_iff, Bool.or_eq_false_iff, Bool.not_eq_eq_eq_not, Bool.not_true, Bool.not_false] at c5   -- c5.f
              refine aw_skip ?_
              refine hK22 _ ?_; clear hK22
              refine aw_seq fun K24 hK24 => ?_
              refine aw_seq fun K25 hK25 => ?_
              refine aw_reg [3, 4, 5, 7, 8, 9, 10, 12, 13, 25, 36, 58, 59, 60] (by kernel_rfl) ?_   -- r18.15
              simp (disch := omega) only [go_sem, ↓reduceIte, Nat.reduceEqDiff, Nat.reduceLT, Nat.reduceLeDiff, Nat.reduceAdd, Nat.reduceSub, Nat.reduceMul, reduceCtorEq, Int.reduceToNat, Int.reduceNeg, hT, hS, hR]
              repeat refine And.intro (by first | omega | assumption | (simp only [List.length_append, List.length_cons, List.length_nil]; omega) | (intros; first | omega | assumption | (simp_all; done) | grind)) ?_   -- r18.15
              refine hK25 _ ?_; clear hK25
              refine aw_block ?_
              refine aw_loopK [3, 4, 5, 7, 8, 9, 10, 58, 59, 60, 12, 13, 175, 176, 177] (fun n ρ => ∃ k, n = c.fTrips.length - k ∧ (k ≤ c.fTrips.length) ∧ ρ = mkE O [(3, .bx (eTable t)), (4, .bx (eInter s)), (5, .bx (eCase c)), (7, encI C), (8, encDc D), (9, rowL 4 1 eB cd), (10, vi (cnt cd : Nat)), (58, encDc D), (59, vi (D.length : Nat)), (60, vi (i : Nat)), (12, .bx (eDecision (D.getD i default))), (13, vi ((c.fPlan.fStarts.getD (J i) default).getD (atN c.fProgress (J i)) default)), (175, encTr c.fTrips), (176, vi (c.fTrips.length : Nat)), (177, vi (k : Nat))]) _ ⟨0, rfl, ?_, ?_⟩ ?_   -- L1
              · first | assumption | omega | (simp only [List.length_append, List.length_cons, List.length_nil] at *; omega) | (simp_all; done)   -- L1.init.inv0
              · simp (disch := omega) only [go_sem, ↓reduceIte, Nat.reduceEqDiff, Nat.reduceLT, Nat.reduceLeDiff, Nat.reduceAdd, Nat.reduceSub, Nat.reduceMul, reduceCtorEq, Int.reduceToNat, Int.reduceNeg, hT, hS, hR] <;> first | rfl | omega | simp | simp_all   -- L1.init.env
              rintro n ρ ⟨k, rfl, l1_0, rfl⟩ K26 hK26
              refine aw_seq fun K27 hK27 => ?_
              refine aw_reg [3, 4, 5, 7, 8, 9, 10, 12, 13, 25, 36, 58, 59, 60, 174, 175, 176, 177] (by kernel_rfl) ?_   -- r19.16
              simp (disch := omega) only [go_sem, ↓reduceIte, Nat.reduceEqDiff, Nat.reduceLT, Nat.reduceLeDiff, Nat.reduceAdd, Nat.reduceSub, Nat.reduceMul, reduceCtorEq, Int.reduceToNat, Int.reduceNeg, hT, hS, hR]
              repeat refine And.intro (by first | omega | assumption | (simp only [List.length_append, List.length_cons, List.length_nil]; omega) | (intros; first | omega | assumption | (simp_all; done) | grind)) ?_   -- r19.16
              refine hK27 _ ?_; clear hK27
              refine aw_seq fun K28 hK28 => ?_
              refine aw_cond _ (by rfl) (rfl) (fun c6 => ?_) (fun c6 => ?_)   -- c6
              · try simp only [decide_eq_true_eq, decide_eq_false_iff_not, Bool.not_eq_true', Bool.not_eq_false', beq_iff_eq, bne_iff_ne, beq_eq_false_iff_ne, bne_eq_false_iff_eq, Bool.not_eq_true, Bool.not_eq_false, Int.not_lt, Int.not_le, Nat.not_lt, Nat.not_le, ne_eq, Int.ofNat_inj, Bool.and_eq_true, Bool.or_eq_true, Bool.and_eq_false_iff, Bool.or_eq_false_iff, Bool.not_eq_eq_eq_not, Bool.not_true, Bool.not_false] at c6   -- c6.t
                refine aw_skip ?_
                refine hK28 _ ?_; clear hK28
                refine aw_seq fun K29 hK29 => ?_
                refine aw_block ?_
                refine aw_seq fun K30 hK30 => ?_
                refine aw_reg [3, 4, 5, 7, 8, 9, 10, 12, 13, 25, 36, 58, 59, 60, 174, 175, 176, 177] (by kernel_rfl) ?_   -- r20.17
                simp (disch := omega) only [go_sem, ↓reduceIte, Nat.reduceEqDiff, Nat.reduceLT, Nat.reduceLeDiff, Nat.reduceAdd, Nat.reduceSub, Nat.reduceMul, reduceCtorEq, Int.reduceToNat, Int.reduceNeg, hT, hS, hR]
                repeat refine And.intro (by first | omega | assumption | (simp only [List.length_append, List.length_cons, List.length_nil]; omega) | (intros; first | omega | assumption | (simp_all; done) | grind)) ?_   -- r20.17
                refine hK30 _ ?_; clear hK30
                refine aw_seq fun K31 hK31 => ?_
                refine aw_reg [3, 4, 5, 7, 8, 9, 10, 12, 13, 14, 15, 25, 36, 58, 59, 60, 174, 175, 176, 177] (by kernel_rfl) ?_   -- r21.18
                simp (disch := omega) only [go_sem, ↓reduceIte, Nat.reduceEqDiff, Nat.reduceLT, Nat.reduceLeDiff, Nat.reduceAdd, Nat.reduceSub, Nat.reduceMul, reduceCtorEq, Int.reduceToNat, Int.reduceNeg, hT, hS, hR]
                repeat refine And.intro (by first | omega | assumption | (simp only [List.length_append, List.length_cons, List.length_nil]; omega) | (intros; first | omega | assumption | (simp_all; done) | grind)) ?_   -- r21.18
                refine callG_of _ (ref50_At_ok _ c.fProgress k) ?_   -- r21.18#0
                simp (disch := omega) only [go_sem, ↓reduceIte, Nat.reduceEqDiff, Nat.reduceLT, Nat.reduceLeDiff, Nat.reduceAdd, Nat.reduceSub, Nat.reduceMul, reduceCtorEq, Int.reduceToNat, Int.reduceNeg, hT, hS, hR]
                repeat refine And.intro (by first | omega | assumption | (simp only [List.length_append, List.length_cons, List.length_nil]; omega) | (intros; first | omega | assumption | (simp_all; done) | grind)) ?_   -- r21.18
                refine hK31 _ ?_; clear hK31
                refine aw_block ?_
                refine aw_loopK [3, 4, 5, 7, 8, 9, 10, 58, 59, 60, 12, 13, 175, 176, 177, 14, 15, 16] (fun n ρ => ∃ m, n = (c.fTrips.getD k default).fStops.length - m ∧ (atN c.fProgress k ≤ m) ∧ ρ = mkE O [(3, .bx (eTable t)), (4, .bx (eInter s)), (5, .bx (eCase c)), (7, encI C), (8, encDc D), (9, rowL 4 1 eB cd), (10, vi (cnt cd : Nat)), (58, encDc D), (59, vi (D.length : Nat)), (60, vi (i : Nat)), (12, .bx (eDecision (D.getD i default))), (13, vi ((c.fPlan.fStarts.getD (J i) default).getD (atN c.fProgress (J i)) default)), (175, encTr c.fTrips), (176, vi (c.fTrips.length : Nat)), (177, vi (k : Nat)), (14, vi (k : Nat)), (15, .bx (eTrip (c.fTrips.getD k default))), (16, vi (m : Nat))]) _ ⟨atN c.fProgress k, rfl, ?_, ?_⟩ ?_   -- L2
                · first | assumption | omega | (simp only [List.length_append, List.length_cons, List.length_nil] at *; omega) | (simp_all; done)   -- L2.init.inv0
                · simp (disch := omega) only [go_sem, ↓reduceIte, Nat.reduceEqDiff, Nat.reduceLT, Nat.reduceLeDiff, Nat.reduceAdd, Nat.reduceSub, Nat.reduceMul, reduceCtorEq, Int.reduceToNat, Int.reduceNeg, hT, hS, hR] <;> first | rfl | omega | simp | simp_all   -- L2.init.env
                rintro n ρ ⟨m, rfl, l2_0, rfl⟩ K32 hK32
                have hb3 := hb2 k
                have hfk := hff k (by omega)
                refine aw_seq fun K33 hK33 => ?_
                refine aw_seq fun K34 hK34 => ?_
                refine aw_reg [3, 4, 5, 7, 8, 9, 10, 12, 13, 14, 15, 16, 25, 36, 58, 59, 60, 174, 175, 176, 177] (by kernel_rfl) ?_   -- r22.19
                simp (disch := omega) only [go_sem, ↓reduceIte, Nat.reduceEqDiff, Nat.reduceLT, Nat.reduceLeDiff, Nat.reduceAdd, Nat.reduceSub, Nat.reduceMul, reduceCtorEq, Int.reduceToNat, Int.reduceNeg, hT, hS, hR]
                repeat refine And.intro (by first | omega | assumption | (simp only [List.length_append, List.length_cons, List.length_nil]; omega) | (intros; first | omega | assumption | (simp_all; done) | grind)) ?_   -- r22.19
                refine hK34 _ ?_; clear hK34
                refine aw_cond _ (by rfl) (rfl) (fun c7 => ?_) (fun c7 => ?_)   -- c7
                · try simp only [decide_eq_true_eq, decide_eq_false_iff_not, Bool.not_eq_true', Bool.not_eq_false', beq_iff_eq, bne_iff_ne, beq_eq_false_iff_ne, bne_eq_false_iff_eq, Bool.not_eq_true, Bool.not_eq_false, Int.not_lt, Int.not_le, Nat.not_lt, Nat.not_le, ne_eq, Int.ofNat_inj, Bool.and_eq_true, Bool.or_eq_true, Bool.and_eq_false_iff, Bool.or_eq_false_iff, Bool.not_eq_eq_eq_not, Bool.not_true, Bool.not_false] at c7   -- c7.t
                  refine aw_skip ?_
                  refine hK33 _ ?_; clear hK33
                  refine aw_seq fun K35 hK35 => ?_
                  refine aw_block ?_
                  refine aw_seq fun K36 hK36 => ?_
                  refine aw_regDc [3, 4, 5, 7, 8, 9, 10, 12, 13, 14, 15, 16, 25, 36, 58, 59, 60, 174, 175, 176, 177] [] mixed (by kernel_rfl) ?_   -- r24.20
                  simp (disch := omega) only [go_sem, ↓reduceIte, Nat.reduceEqDiff, Nat.reduceLT, Nat.reduceLeDiff, Nat.reduceAdd, Nat.reduceSub, Nat.reduceMul, reduceCtorEq, Int.reduceToNat, Int.reduceNeg, hT, hS, hR]
                  repeat refine And.intro (by first | omega | assumption | (simp only [List.length_append, List.length_cons, List.length_nil]; omega) | (intros; first | omega | assumption | (simp_all; done) | grind)) ?_   -- r24.20
                  refine callC_to (fun g2 => law50_conflict_ok _ t s _ _ hs) ?_ ?_ ?_   -- r24.20#0
                  · first | exact fun _ => trivial | simp
                  · rfl
                  simp (disch := omega) only [go_sem, ↓reduceIte, Nat.reduceEqDiff, Nat.reduceLT, Nat.reduceLeDiff, Nat.reduceAdd, Nat.reduceSub, Nat.reduceMul, reduceCtorEq, Int.reduceToNat, Int.reduceNeg, hT, hS, hR]
                  repeat refine And.intro (by first | omega | assumption | (simp only [List.length_append, List.length_cons, List.length_nil]; omega) | (intros; first | omega | assumption | (simp_all; done) | grind)) ?_   -- r24.20
                  refine hK36 _ ?_; clear hK36
                  refine aw_cond _ (by rfl) (rfl) (fun c8 => ?_) (fun c8 => ?_)   -- c8
                  · try simp only [decide_eq_true_eq, decide_eq_false_iff_not, Bool.not_eq_true', Bool.not_eq_false', beq_iff_eq, bne_iff_ne, beq_eq_false_iff_ne, bne_eq_false_iff_eq, Bool.not_eq_true, Bool.not_eq_false, Int.not_lt, Int.not_le, Nat.not_lt, Nat.not_le, ne_eq, Int.ofNat_inj, Bool.and_eq_true, Bool.or_eq_true, Bool.and_eq_false_iff, Bool.or_eq_false_iff, Bool.not_eq_eq_eq_not, Bool.not_true, Bool.not_false] at c8   -- c8.t
                    exfalso; have hbd := blk_no hbl k m (by omega) (by omega); simp only [badB, eaB, stS, rtS] at *; grind
                  · try simp only [decide_eq_true_eq, decide_eq_false_iff_not, Bool.not_eq_true', Bool.not_eq_false', beq_iff_eq, bne_iff_ne, beq_eq_false_iff_ne, bne_eq_false_iff_eq, Bool.not_eq_true, Bool.not_eq_false, Int.not_lt, Int.not_le, Nat.not_lt, Nat.not_le, ne_eq, Int.ofNat_inj, Bool.and_eq_true, Bool.or_eq_true, Bool.and_eq_false_iff, Bool.or_eq_false_iff, Bool.not_eq_eq_eq_not, Bool.not_true, Bool.not_false] at c8   -- c8.f
                    refine aw_skip ?_
                    refine hK35 _ ?_; clear hK35
                    refine aw_reg [3, 4, 5, 7, 8, 9, 10, 12, 13, 14, 15, 16, 25, 36, 58, 59, 60, 174, 175, 176, 177] (by kernel_rfl) ?_   -- r23.21
                    simp (disch := omega) only [go_sem, ↓reduceIte, Nat.reduceEqDiff, Nat.reduceLT, Nat.reduceLeDiff, Nat.reduceAdd, Nat.reduceSub, Nat.reduceMul, reduceCtorEq, Int.reduceToNat, Int.reduceNeg, hT, hS, hR]
                    repeat refine And.intro (by first | omega | assumption | (simp only [List.length_append, List.length_cons, List.length_nil]; omega) | (intros; first | omega | assumption | (simp_all; done) | grind)) ?_   -- r23.21
                    refine hK32 _ _ ?_ ⟨m + 1, rfl, ?_, ?_⟩   -- L2.0
                    · first | assumption | omega | (simp only [List.length_append, List.length_cons, List.length_nil] at *; omega) | (simp_all; done)   -- L2.0.meas
                    · first | assumption | omega | (simp only [List.length_append, List.length_cons, List.length_nil] at *; omega) | (simp_all; done)   -- L2.0.inv0
                    · simp (disch := omega) only [go_sem, ↓reduceIte, Nat.reduceEqDiff, Nat.reduceLT, Nat.reduceLeDiff, Nat.reduceAdd, Nat.reduceSub, Nat.reduceMul, reduceCtorEq, Int.reduceToNat, Int.reduceNeg, hT, hS, hR] <;> first | rfl | omega | simp | simp_all   -- L2.0.env
                · try simp only [decide_eq_true_eq, decide_eq_false_iff_not, Bool.not_eq_true', Bool.not_eq_false', beq_iff_eq, bne_iff_ne, beq_eq_false_iff_ne, bne_eq_false_iff_eq, Bool.not_eq_true, Bool.not_eq_false, Int.not_lt, Int.not_le, Nat.not_lt, Nat.not_le, ne_eq, Int.ofNat_inj, Bool.and_eq_true, Bool.or_eq_true, Bool.and_eq_false_iff, Bool.or_eq_false_iff, Bool.not_eq_eq_eq_not, Bool.not_true, Bool.not_false] at c7   -- c7.f
                  refine aw_exit ?_
                  refine hK29 _ ?_; clear hK29
                  refine aw_reg [3, 4, 5, 7, 8, 9, 10, 12, 13, 25, 36, 58, 59, 60, 174, 175, 176, 177] (by kernel_rfl) ?_   -- r26.22
                  simp (disch := omega) only [go_sem, ↓reduceIte, Nat.reduceEqDiff, Nat.reduceLT, Nat.reduceLeDiff, Nat.reduceAdd, Nat.reduceSub, Nat.reduceMul, reduceCtorEq, Int.reduceToNat, Int.reduceNeg, hT, hS, hR]
                  repeat refine And.intro (by first | omega | assumption | (simp only [List.length_append, List.length_cons, List.length_nil]; omega) | (intros; first | omega | assumption | (simp_all; done) | grind)) ?_   -- r26.22
                  refine hK26 _ _ ?_ ⟨k + 1, rfl, ?_, ?_⟩   -- L1.0
                  · first | assumption | omega | (simp only [List.length_append, List.length_cons, List.length_nil] at *; omega) | (simp_all; done)   -- L1.0.meas
                  · first | assumption | omega | (simp only [List.length_append, List.length_cons, List.length_nil] at *; omega) | (simp_all; done)   -- L1.0.inv0
                  · simp (disch := omega) only [go_sem, ↓reduceIte, Nat.reduceEqDiff, Nat.reduceLT, Nat.reduceLeDiff, Nat.reduceAdd, Nat.reduceSub, Nat.reduceMul, reduceCtorEq, Int.reduceToNat, Int.reduceNeg, hT, hS, hR] <;> first | rfl | omega | simp | simp_all   -- L1.0.env
              · try simp only [decide_eq_true_eq, decide_eq_false_iff_not, Bool.not_eq_true', Bool.not_eq_false', beq_iff_eq, bne_iff_ne, beq_eq_false_iff_ne, bne_eq_false_iff_eq, Bool.not_eq_true, Bool.not_eq_false, Int.not_lt, Int.not_le, Nat.not_lt, Nat.not_le, ne_eq, Int.ofNat_inj, Bool.and_eq_true, Bool.or_eq_true, Bool.and_eq_false_iff, Bool.or_eq_false_iff, Bool.not_eq_eq_eq_not, Bool.not_true, Bool.not_false] at c6   -- c6.f
                refine aw_exit ?_
                refine hK24 _ ?_; clear hK24
                refine aw_seq fun K37 hK37 => ?_
                refine aw_seq fun K38 hK38 => ?_
                refine aw_reg [3, 4, 5, 7, 8, 9, 10, 12, 25, 36, 58, 59, 60] (by kernel_rfl) ?_   -- r27.23
                simp (disch := omega) only [go_sem, ↓reduceIte, Nat.reduceEqDiff, Nat.reduceLT, Nat.reduceLeDiff, Nat.reduceAdd, Nat.reduceSub, Nat.reduceMul, reduceCtorEq, Int.reduceToNat, Int.reduceNeg, hT, hS, hR]
                repeat refine And.intro (by first | omega | assumption | (simp only [List.length_append, List.length_cons, List.length_nil]; omega) | (intros; first | omega | assumption | (simp_all; done) | grind)) ?_   -- r27.23
                refine hK38 _ ?_; clear hK38
                refine aw_cond _ (by rfl) (rfl) (fun c9 => ?_) (fun c9 => ?_)   -- c9
                · try simp only [decide_eq_true_eq, decide_eq_false_iff_not, Bool.not_eq_true', Bool.not_eq_false', beq_iff_eq, bne_iff_ne, beq_eq_false_iff_ne, bne_eq_false_iff_eq, Bool.not_eq_true, Bool.not_eq_false, Int.not_lt, Int.not_le, Nat.not_lt, Nat.not_le, ne_eq, Int.ofNat_inj, Bool.and_eq_true, Bool.or_eq_true, Bool.and_eq_false_iff, Bool.or_eq_false_iff, Bool.not_eq_eq_eq_not, Bool.not_true, Bool.not_false] at c9   -- c9.t
                  have hcn := cnt_f (l := cd) (r := (rtS c.fTrips (J i) (atN c.fProgress (J i))).toNat) (by omega) c9
                  refine aw_reg [3, 4, 5, 7, 8, 9, 10, 12, 25, 36, 58, 59, 60] (by kernel_rfl) ?_   -- r28.24
                  simp (disch := omega) only [go_sem, ↓reduceIte, Nat.reduceEqDiff, Nat.reduceLT, Nat.reduceLeDiff, Nat.reduceAdd, Nat.reduceSub, Nat.reduceMul, reduceCtorEq, Int.reduceToNat, Int.reduceNeg, hT, hS, hR]
                  repeat refine And.intro (by first | omega | assumption | (simp only [List.length_append, List.length_cons, List.length_nil]; omega) | (intros; first | omega | assumption | (simp_all; done) | grind)) ?_   -- r28.24
                  refine hK37 _ ?_; clear hK37
                  refine aw_reg [3, 4, 5, 7, 8, 9, 10, 12, 25, 36, 58, 59, 60] (by kernel_rfl) ?_   -- r29.25
                  simp (disch := omega) only [go_sem, ↓reduceIte, Nat.reduceEqDiff, Nat.reduceLT, Nat.reduceLeDiff, Nat.reduceAdd, Nat.reduceSub, Nat.reduceMul, reduceCtorEq, Int.reduceToNat, Int.reduceNeg, hT, hS, hR]
                  repeat refine And.intro (by first | omega | assumption | (simp only [List.length_append, List.length_cons, List.length_nil]; omega) | (intros; first | omega | assumption | (simp_all; done) | grind)) ?_   -- r29.25
                  refine hK15 _ ?_; clear hK15
                  refine aw_reg [3, 4, 5, 7, 8, 9, 10, 25, 36, 58, 59, 60] (by kernel_rfl) ?_   -- r30.26
                  simp (disch := omega) only [go_sem, ↓reduceIte, Nat.reduceEqDiff, Nat.reduceLT, Nat.reduceLeDiff, Nat.reduceAdd, Nat.reduceSub, Nat.reduceMul, reduceCtorEq, Int.reduceToNat, Int.reduceNeg, hT, hS, hR]
                  repeat refine And.intro (by first | omega | assumption | (simp only [List.length_append, List.length_cons, List.length_nil]; omega) | (intros; first | omega | assumption | (simp_all; done) | grind)) ?_   -- r30.26
                  refine hK12 _ _ ?_ ⟨i + 1, cd.set (D.getD i default).fRoute.toNat true, rfl, ?_, ?_, ?_, ?_, ?_⟩   -- L0.0
                  · first | assumption | omega | (simp only [List.length_append, List.length_cons, List.length_nil] at *; omega) | (simp_all; done)   -- L0.0.meas
                  · first | assumption | omega | (simp only [List.length_append, List.length_cons, List.length_nil] at *; omega) | (simp_all; done)   -- L0.0.inv0
                  · rw [cdF_t c2 (hE i c2).1, l0_1]   -- L0.0.inv1
                  · rw [List.length_set]; exact l0_2   -- L0.0.inv2
                  · rw [hR i c2, hcn]; omega   -- L0.0.inv3
                  · simp (disch := omega) only [go_sem, ↓reduceIte, Nat.reduceEqDiff, Nat.reduceLT, Nat.reduceLeDiff, Nat.reduceAdd, Nat.reduceSub, Nat.reduceMul, reduceCtorEq, Int.reduceToNat, Int.reduceNeg, hT, hS, hR] <;> first | rfl | (simp only [hcn]; done) | (rw [hcn]; simp; done) | (rw [hcn]; rfl) | simp_all   -- L0.0.env
                · try simp only [decide_eq_true_eq, decide_eq_false_iff_not, Bool.not_eq_true', Bool.not_eq_false', beq_iff_eq, bne_iff_ne, beq_eq_false_iff_ne, bne_eq_false_iff_eq, Bool.not_eq_true, Bool.not_eq_false, Int.not_lt, Int.not_le, Nat.not_lt, Nat.not_le, ne_eq, Int.ofNat_inj, Bool.and_eq_true, Bool.or_eq_true, Bool.and_eq_false_iff, Bool.or_eq_false_iff, Bool.not_eq_eq_eq_not, Bool.not_true, Bool.not_false] at c9   -- c9.f
                  have hcn := cnt_t (l := cd) (r := (rtS c.fTrips (J i) (atN c.fProgress (J i))).toNat) (by omega) c9
                  refine aw_skip ?_
                  refine hK37 _ ?_; clear hK37
                  refine aw_reg [3, 4, 5, 7, 8, 9, 10, 12, 25, 36, 58, 59, 60] (by kernel_rfl) ?_   -- r29.27
                  simp (disch := omega) only [go_sem, ↓reduceIte, Nat.reduceEqDiff, Nat.reduceLT, Nat.reduceLeDiff, Nat.reduceAdd, Nat.reduceSub, Nat.reduceMul, reduceCtorEq, Int.reduceToNat, Int.reduceNeg, hT, hS, hR]
                  repeat refine And.intro (by first | omega | assumption | (simp only [List.length_append, List.length_cons, List.length_nil]; omega) | (intros; first | omega | assumption | (simp_all; done) | grind)) ?_   -- r29.27
                  refine hK15 _ ?_; clear hK15
                  refine aw_reg [3, 4, 5, 7, 8, 9, 10, 25, 36, 58, 59, 60] (by kernel_rfl) ?_   -- r30.28
                  simp (disch := omega) only [go_sem, ↓reduceIte, Nat.reduceEqDiff, Nat.reduceLT, Nat.reduceLeDiff, Nat.reduceAdd, Nat.reduceSub, Nat.reduceMul, reduceCtorEq, Int.reduceToNat, Int.reduceNeg, hT, hS, hR]
                  repeat refine And.intro (by first | omega | assumption | (simp only [List.length_append, List.length_cons, List.length_nil]; omega) | (intros; first | omega | assumption | (simp_all; done) | grind)) ?_   -- r30.28
                  refine hK12 _ _ ?_ ⟨i + 1, cd.set (D.getD i default).fRoute.toNat true, rfl, ?_, ?_, ?_, ?_, ?_⟩   -- L0.1
                  · first | assumption | omega | (simp only [List.length_append, List.length_cons, List.length_nil] at *; omega) | (simp_all; done)   -- L0.1.meas
                  · first | assumption | omega | (simp only [List.length_append, List.length_cons, List.length_nil] at *; omega) | (simp_all; done)   -- L0.1.inv0
                  · rw [cdF_t c2 (hE i c2).1, l0_1]   -- L0.1.inv1
                  · rw [List.length_set]; exact l0_2   -- L0.1.inv2
                  · rw [hR i c2, hcn]; omega   -- L0.1.inv3
                  · simp (disch := omega) only [go_sem, ↓reduceIte, Nat.reduceEqDiff, Nat.reduceLT, Nat.reduceLeDiff, Nat.reduceAdd, Nat.reduceSub, Nat.reduceMul, reduceCtorEq, Int.reduceToNat, Int.reduceNeg, hT, hS, hR] <;> first | rfl | (simp only [hcn]; done) | (rw [hcn]; simp; done) | (rw [hcn]; rfl) | simp_all   -- L0.1.env
      · try simp only [decide_eq_true_eq, decide_eq_false_iff_not, Bool.not_eq_true', Bool.not_eq_false', beq_iff_eq, bne_iff_ne, beq_eq_false_iff_ne, bne_eq_false_iff_eq, Bool.not_eq_true, Bool.not_eq_false, Int.not_lt, Int.not_le, Nat.not_lt, Nat.not_le, ne_eq, Int.ofNat_inj, Bool.and_eq_true, Bool.or_eq_true, Bool.and_eq_false_iff, Bool.or_eq_false_iff, Bool.not_eq_eq_eq_not, Bool.not_true, Bool.not_false] at c2   -- c2.f
        have hcd : cdF D t.fRoutes.length D.length = cd := (by rw [l0_1, show i = D.length by omega])
        rw [hcd] at hcM hCl
        refine aw_exit ?_
        refine hK10 _ ?_; clear hK10
        refine aw_seq fun K39 hK39 => ?_
        refine aw_seq fun K40 hK40 => ?_
        refine aw_reg [7, 9, 10, 25, 36] (by kernel_rfl) ?_   -- r31.29
        simp (disch := omega) only [go_sem, ↓reduceIte, Nat.reduceEqDiff, Nat.reduceLT, Nat.reduceLeDiff, Nat.reduceAdd, Nat.reduceSub, Nat.reduceMul, reduceCtorEq, Int.reduceToNat, Int.reduceNeg, hT, hS, hR]
        repeat refine And.intro (by first | omega | assumption | (simp only [List.length_append, List.length_cons, List.length_nil]; omega) | (intros; first | omega | assumption | (simp_all; done) | grind)) ?_   -- r31.29
        refine hK40 _ ?_; clear hK40
        refine aw_block ?_
        refine aw_loopK [7, 9, 10, 256, 257, 258] (fun n ρ => ∃ j, n = C.length - j ∧ (j ≤ C.length) ∧ ρ = mkE O [(7, encI C), (9, rowL 4 1 eB cd), (10, vi (cnt cd : Nat)), (256, encI C), (257, vi (C.length : Nat)), (258, vi (j : Nat))]) _ ⟨0, rfl, ?_, ?_⟩ ?_   -- L3
        · first | assumption | omega | (simp only [List.length_append, List.length_cons, List.length_nil] at *; omega) | (simp_all; done)   -- L3.init.inv0
        · simp (disch := omega) only [go_sem, ↓reduceIte, Nat.reduceEqDiff, Nat.reduceLT, Nat.reduceLeDiff, Nat.reduceAdd, Nat.reduceSub, Nat.reduceMul, reduceCtorEq, Int.reduceToNat, Int.reduceNeg, hT, hS, hR] <;> first | rfl | omega | simp | simp_all   -- L3.init.env
        rintro n ρ ⟨j, rfl, l3_0, rfl⟩ K41 hK41
        refine aw_seq fun K42 hK42 => ?_
        refine aw_reg [7, 9, 10, 25, 36, 256, 257, 258] (by kernel_rfl) ?_   -- r32.30
        simp (disch := omega) only [go_sem, ↓reduceIte, Nat.reduceEqDiff, Nat.reduceLT, Nat.reduceLeDiff, Nat.reduceAdd, Nat.reduceSub, Nat.reduceMul, reduceCtorEq, Int.reduceToNat, Int.reduceNeg, hT, hS, hR]
        repeat refine And.intro (by first | omega | assumption | (simp only [List.length_append, List.length_cons, List.length_nil]; omega) | (intros; first | omega | assumption | (simp_all; done) | grind)) ?_   -- r32.30
        refine hK42 _ ?_; clear hK42
        refine aw_seq fun K43 hK43 => ?_
        refine aw_cond _ (by rfl) (rfl) (fun c10 => ?_) (fun c10 => ?_)   -- c10
        · try simp only [decide_eq_true_eq, decide_eq_false_iff_not, Bool.not_eq_true', Bool.not_eq_false', beq_iff_eq, bne_iff_ne, beq_eq_false_iff_ne, bne_eq_false_iff_eq, Bool.not_eq_true, Bool.not_eq_false, Int.not_lt, Int.not_le, Nat.not_lt, Nat.not_le, ne_eq, Int.ofNat_inj, Bool.and_eq_true, Bool.or_eq_true, Bool.and_eq_false_iff, Bool.or_eq_false_iff, Bool.not_eq_eq_eq_not, Bool.not_true, Bool.not_false] at c10   -- c10.t
          have hcm := hcM j c10
          refine aw_skip ?_
          refine hK43 _ ?_; clear hK43
          refine aw_seq fun K44 hK44 => ?_
          refine aw_block ?_
          refine aw_seq fun K45 hK45 => ?_
          refine aw_reg [7, 9, 10, 25, 36, 256, 257, 258] (by kernel_rfl) ?_   -- r33.31
          simp (disch := omega) only [go_sem, ↓reduceIte, Nat.reduceEqDiff, Nat.reduceLT, Nat.reduceLeDiff, Nat.reduceAdd, Nat.reduceSub, Nat.reduceMul, reduceCtorEq, Int.reduceToNat, Int.reduceNeg, hT, hS, hR]
          repeat refine And.intro (by first | omega | assumption | (simp only [List.length_append, List.length_cons, List.length_nil]; omega) | (intros; first | omega | assumption | (simp_all; done) | grind)) ?_   -- r33.31
          refine hK45 _ ?_; clear hK45
          refine aw_seq fun K46 hK46 => ?_
          refine aw_reg [7, 9, 10, 17, 18, 25, 36, 256, 257, 258] (by kernel_rfl) ?_   -- r34.32
          simp (disch := omega) only [go_sem, ↓reduceIte, Nat.reduceEqDiff, Nat.reduceLT, Nat.reduceLeDiff, Nat.reduceAdd, Nat.reduceSub, Nat.reduceMul, reduceCtorEq, Int.reduceToNat, Int.reduceNeg, hT, hS, hR]
          repeat refine And.intro (by first | omega | assumption | (intro h; refine ⟨h, ?_⟩; omega) | (intro h; refine ⟨h, ?_, ?_⟩ <;> omega) | (simp only [List.length_append, List.length_cons, List.length_nil]; omega) | (intros; first | omega | assumption | (simp_all; done) | grind)) ?_   -- r34.32
          refine hK46 _ ?_; clear hK46
          refine aw_cond _ (by rfl) (rfl) (fun c11 => ?_) (fun c11 => ?_)   -- c11
          · try simp only [decide_eq_true_eq, decide_eq_false_iff_not, Bool.not_eq_true', Bool.not_eq_false', beq_iff_eq, bne_iff_ne, beq_eq_false_iff_ne, bne_eq_false_iff_eq, Bool.not_eq_true, Bool.not_eq_false, Int.not_lt, Int.not_le, Nat.not_lt, Nat.not_le, ne_eq, Int.ofNat_inj, Bool.and_eq_true, Bool.or_eq_true, Bool.and_eq_false_iff, Bool.or_eq_false_iff, Bool.not_eq_eq_eq_not, Bool.not_true, Bool.not_false] at c11   -- c11.t
            exfalso; have hu := hcU (j - 1) j; grind
          · try simp only [decide_eq_true_eq, decide_eq_false_iff_not, Bool.not_eq_true', Bool.not_eq_false', beq_iff_eq, bne_iff_ne, beq_eq_false_iff_ne, bne_eq_false_iff_eq, Bool.not_eq_true, Bool.not_eq_false, Int.not_lt, Int.not_le, Nat.not_lt, Nat.not_le, ne_eq, Int.ofNat_inj, Bool.and_eq_true, Bool.or_eq_true, Bool.and_eq_false_iff, Bool.or_eq_false_iff, Bool.not_eq_eq_eq_not, Bool.not_true, Bool.not_false] at c11   -- c11.f
            refine aw_skip ?_
            refine hK44 _ ?_; clear hK44
            refine aw_reg [7, 9, 10, 25, 36, 256, 257, 258] (by kernel_rfl) ?_   -- r36.33
            simp (disch := omega) only [go_sem, ↓reduceIte, Nat.reduceEqDiff, Nat.reduceLT, Nat.reduceLeDiff, Nat.reduceAdd, Nat.reduceSub, Nat.reduceMul, reduceCtorEq, Int.reduceToNat, Int.reduceNeg, hT, hS, hR]
            repeat refine And.intro (by first | omega | assumption | (simp only [List.length_append, List.length_cons, List.length_nil]; omega) | (intros; first | omega | assumption | (simp_all; done) | grind)) ?_   -- r36.33
            refine hK41 _ _ ?_ ⟨j + 1, rfl, ?_, ?_⟩   -- L3.0
            · first | assumption | omega | (simp only [List.length_append, List.length_cons, List.length_nil] at *; omega) | (simp_all; done)   -- L3.0.meas
            · first | assumption | omega | (simp only [List.length_append, List.length_cons, List.length_nil] at *; omega) | (simp_all; done)   -- L3.0.inv0
            · simp (disch := omega) only [go_sem, ↓reduceIte, Nat.reduceEqDiff, Nat.reduceLT, Nat.reduceLeDiff, Nat.reduceAdd, Nat.reduceSub, Nat.reduceMul, reduceCtorEq, Int.reduceToNat, Int.reduceNeg, hT, hS, hR] <;> first | rfl | omega | simp | simp_all   -- L3.0.env
        · try simp only [decide_eq_true_eq, decide_eq_false_iff_not, Bool.not_eq_true', Bool.not_eq_false', beq_iff_eq, bne_iff_ne, beq_eq_false_iff_ne, bne_eq_false_iff_eq, Bool.not_eq_true, Bool.not_eq_false, Int.not_lt, Int.not_le, Nat.not_lt, Nat.not_le, ne_eq, Int.ofNat_inj, Bool.and_eq_true, Bool.or_eq_true, Bool.and_eq_false_iff, Bool.or_eq_false_iff, Bool.not_eq_eq_eq_not, Bool.not_true, Bool.not_false] at c10   -- c10.f
          refine aw_exit ?_
          refine hK39 _ ?_; clear hK39
          refine aw_seq fun K47 hK47 => ?_
          refine aw_reg [7, 10, 25, 36] (by kernel_rfl) ?_   -- r37.34
          simp (disch := omega) only [go_sem, ↓reduceIte, Nat.reduceEqDiff, Nat.reduceLT, Nat.reduceLeDiff, Nat.reduceAdd, Nat.reduceSub, Nat.reduceMul, reduceCtorEq, Int.reduceToNat, Int.reduceNeg, hT, hS, hR]
          repeat refine And.intro (by first | omega | assumption | (simp only [List.length_append, List.length_cons, List.length_nil]; omega) | (intros; first | omega | assumption | (simp_all; done) | grind)) ?_   -- r37.34
          refine callC_to (fun g3 => alive_ok _) ?_ ?_ ?_   -- r37.34#0
          · first | exact fun _ => trivial | simp
          · rfl
          simp (disch := omega) only [go_sem, ↓reduceIte, Nat.reduceEqDiff, Nat.reduceLT, Nat.reduceLeDiff, Nat.reduceAdd, Nat.reduceSub, Nat.reduceMul, reduceCtorEq, Int.reduceToNat, Int.reduceNeg, hT, hS, hR]
          repeat refine And.intro (by first | omega | assumption | (simp only [List.length_append, List.length_cons, List.length_nil]; omega) | (intros; first | omega | assumption | (simp_all; done) | grind)) ?_   -- r37.34
          refine hK47 _ ?_; clear hK47
          refine aw_ret ?_
          refine ret_tmp 6 rfl (by simp (disch := omega) only [go_sem, ↓reduceIte, Nat.reduceEqDiff, Nat.reduceLT, Nat.reduceLeDiff, Nat.reduceAdd, Nat.reduceSub, Nat.reduceMul, reduceCtorEq, Int.reduceToNat, Int.reduceNeg, hT, hS, hR]) ?_   -- ret2
          exact Exp.is (by simp (disch := omega) only [go_sem, ↓reduceIte, Nat.reduceEqDiff, Nat.reduceLT, Nat.reduceLeDiff, Nat.reduceAdd, Nat.reduceSub, Nat.reduceMul, reduceCtorEq, Int.reduceToNat, Int.reduceNeg, hT, hS, hR] <;> refine congrArg vb ?_ <;> (simp [hCl])) rfl rfl

end Go.Sg
