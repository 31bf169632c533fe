/- The law that called routes are apart and that a free route is called. Printed by genw.py. -/
import Derived.Test.YtgjbmlffbpcdiaaGreatA6
set_option linter.unusedVariables false
set_option linter.unusedSimpArgs false
set_option maxRecDepth 8000
namespace Go.Sg
open Go.Proofs
theorem met_iff (a b : List Int) : metB a b = true ↔ ∃ x, x ∈ a ∧ x ∈ b := by
  unfold metB
  rw [decide_eq_true_eq]
  constructor
  · intro h; exact ⟨(com a b)[0], (com_mem a b _).1 (List.getElem_mem h)⟩
  · rintro ⟨x, h1, h2⟩; exact List.length_pos_of_mem ((com_mem a b x).2 ⟨h1, h2⟩)
theorem met_symm (a b : List Int) : metB a b = metB b a := by
  rw [Bool.eq_iff_iff, met_iff, met_iff]
  exact ⟨fun ⟨x, h1, h2⟩ => ⟨x, h2, h1⟩, fun ⟨x, h1, h2⟩ => ⟨x, h2, h1⟩⟩
theorem agr_iff (a b : List Setting) : agrB a b = true ↔ ∀ s ∈ a, ∀ t ∈ b, s.fEl = t.fEl → s.fPos = t.fPos := by
  unfold agrB okS
  simp only [List.all_eq_true, Bool.not_eq_true', Bool.and_eq_false_iff, beq_eq_false_iff_ne, bne_eq_false_iff_eq]
  constructor
  · intro h s hs t ht he; exact (h s hs t ht).resolve_left fun hn => hn he
  · intro h s hs t ht
    by_cases he : s.fEl = t.fEl
    · exact .inr (h s hs t ht he)
    · exact .inl he
theorem agr_symm (a b : List Setting) : agrB a b = agrB b a := by
  rw [Bool.eq_iff_iff, agr_iff, agr_iff]
  exact ⟨fun h s hs t ht e => (h t ht s hs e.symm).symm, fun h s hs t ht e => (h t ht s hs e.symm).symm⟩
theorem bet_symm (a b : Route) : betB a b = betB b a := by
  have h1 : beyB a b = beyB b a := by unfold beyB; rw [Bool.or_comm]
  have h2 : ovlB a b = ovlB b a := by unfold ovlB; rw [met_symm a.fOverSections b.fOverSections, Bool.and_assoc, Bool.and_comm (!folB a b), ← Bool.and_assoc]
  unfold betB bt1 bt2 bt3
  rw [h1, h2, agr_symm (setL a), met_symm a.fSections b.fSections]
theorem cf_symm (t : Table) (s : Inter) (a b : Int) : cfB t s a b = cfB t s b a := by
  unfold cfB; rw [bet_symm (rtN t a), Bool.and_comm (exB t s a)]
/-- Two decisions of one call do not conflict. -/
theorem apart {t : Table} {s : Inter} {tr : List Trip} {st : List (List Int)} {pr : List Int} {now : Int} {i j : Nat} (hi : i < tr.length) (hj : j < tr.length) (hij : j < i) (h1 : cP t s tr st pr now i = true) (h2 : cP t s tr st pr now j = true) : cfB t s (rtS tr i (atN pr i)) (rtS tr j (atN pr j)) = false := by
  obtain ⟨a1, _, _, _, b1⟩ := may_of h1
  obtain ⟨a2, _, _, _, b2⟩ := may_of h2
  have e1 := blk_no b1 j (atN pr j) hj a2
  have e2 := blk_no b2 i (atN pr i) hi a1
  have hs := cf_symm t s (rtS tr i (atN pr i)) (rtS tr j (atN pr j))
  simp only [badB, eaB] at e1 e2
  rcases Int.lt_trichotomy (stS st i (atN pr i)) (stS st j (atN pr j)) with h | h | h <;> grind
/-- A stop whose time has come, whose route exists and is idle, and with which no other trip's route conflicts, may begin. -/
theorem freeP {t : Table} {s : Inter} {tr : List Trip} {st : List (List Int)} {pr : List Int} {now : Int} {i : Nat} (ha : atN pr i < (tr.getD i default).fStops.length) (he : exB t s (rtS tr i (atN pr i)) = true) (hst : stN s (rtS tr i (atN pr i)) = 0) (hn : stS st i (atN pr i) ≤ now) (hf : ∀ k, k < tr.length → k ≠ i → ∀ m, m < (tr.getD k default).fStops.length → cfB t s (rtS tr i (atN pr i)) (rtS tr k m) = false) : cP t s tr st pr now i = true := by
  have hb : blkB t s tr st pr i (atN pr i) = false := blk_f fun k hk m hm => by
    by_cases hki : k = i
    · subst hki; simp [badB]
    · simp only [badB]; rw [cf_symm, hf k hk hki m hm]; simp
  simp only [cP, mayB, hb, he, hst, decide_eq_true ha, decide_eq_true hn]; rfl
/-- How free a stop is seen to be once the trips before k, and of the trip k the stops before m, are looked at. -/
def noc (t : Table) (s : Inter) (tr : List Trip) (i : Nat) (r : Int) (k m : Nat) : Prop := (∀ k', k' < k → k' ≠ i → ∀ m', m' < (tr.getD k' default).fStops.length → cfB t s r (rtS tr k' m') = false) ∧ (k ≠ i → ∀ m', m' < m → cfB t s r (rtS tr k m') = false)
theorem noc_0 {t : Table} {s : Inter} {tr : List Trip} {i : Nat} {r : Int} : noc t s tr i r 0 0 := ⟨fun k h => by omega, fun _ m h => by omega⟩
theorem noc_m {t : Table} {s : Inter} {tr : List Trip} {i k m : Nat} {r : Int} (h : noc t s tr i r k m) (h2 : k = i ∨ cfB t s r (rtS tr k m) = false) : noc t s tr i r k (m + 1) := by
  refine ⟨h.1, fun hk m' hm => ?_⟩
  rcases Nat.lt_or_eq_of_le (Nat.le_of_lt_succ hm) with g | rfl
  · exact h.2 hk m' g
  · exact h2.resolve_left hk
theorem noc_k {t : Table} {s : Inter} {tr : List Trip} {i k m : Nat} {r : Int} (h : noc t s tr i r k m) (h2 : (tr.getD k default).fStops.length ≤ m) : noc t s tr i r (k + 1) 0 := by
  refine ⟨fun k' hk hki m' hm' => ?_, fun _ m h => by omega⟩
  rcases Nat.lt_or_eq_of_le (Nat.le_of_lt_succ hk) with g | rfl
  · exact h.1 k' g hki m' hm'
  · exact h.2 hki m' (by omega)

set_option maxHeartbeats 4000000 in
theorem law50_AutorouteApart_ok (O : Env) (t : Table) (s : Inter) (c : Case) : PCall Tryz.prog O 6 [.agg (eTable t), .agg (eInter s), .agg (eCase c)] (vb true) := by
  -- signalling/signallinglaw50.AutorouteApart
  refine pcall_of_aw Tryz.func6 rfl (by kernel_rfl) ?_
  refine aw_seq fun K0 hK0 => ?_
  refine aw_reg [0, 1, 2] (by kernel_rfl) ?_   -- r0.0
  simp (disch := omega) only [go_sem, ↓reduceIte, Nat.reduceEqDiff, Nat.reduceLT, Nat.reduceLeDiff, Nat.reduceAdd, Nat.reduceSub, Nat.reduceMul, reduceCtorEq, Int.reduceToNat, Int.reduceNeg]
  repeat refine And.intro (by first | omega | assumption | (simp only [List.length_append, List.length_cons, List.length_nil]; omega) | (intros; first | omega | assumption | (simp_all; done) | grind)) ?_   -- r0.0
  refine hK0 _ ?_; clear hK0
  refine aw_seq fun K1 hK1 => ?_
  refine aw_seq fun K2 hK2 => ?_
  refine aw_reg [3, 4, 5] (by kernel_rfl) ?_   -- r1.1
  simp (disch := omega) only [go_sem, ↓reduceIte, Nat.reduceEqDiff, Nat.reduceLT, Nat.reduceLeDiff, Nat.reduceAdd, Nat.reduceSub, Nat.reduceMul, reduceCtorEq, Int.reduceToNat, Int.reduceNeg]
  repeat refine And.intro (by first | omega | assumption | (simp only [List.length_append, List.length_cons, List.length_nil]; omega) | (intros; first | omega | assumption | (simp_all; done) | grind)) ?_   -- r1.1
  refine callG_of _ (law50_small_ok _ t s c) ?_   -- r1.1#0
  simp (disch := omega) only [go_sem, ↓reduceIte, Nat.reduceEqDiff, Nat.reduceLT, Nat.reduceLeDiff, Nat.reduceAdd, Nat.reduceSub, Nat.reduceMul, reduceCtorEq, Int.reduceToNat, Int.reduceNeg]
  repeat refine And.intro (by first | omega | assumption | (simp only [List.length_append, List.length_cons, List.length_nil]; omega) | (intros; first | omega | assumption | (simp_all; done) | grind)) ?_   -- r1.1
  refine callC_to (fun g0 => ref50_Fits_ok _ c.fTrips c.fPlan) ?_ ?_ ?_   -- r1.1#1
  · first | exact fun _ => trivial | simp
  · rfl
  simp (disch := omega) only [go_sem, ↓reduceIte, Nat.reduceEqDiff, Nat.reduceLT, Nat.reduceLeDiff, Nat.reduceAdd, Nat.reduceSub, Nat.reduceMul, reduceCtorEq, Int.reduceToNat, Int.reduceNeg]
  repeat refine And.intro (by first | omega | assumption | (simp only [List.length_append, List.length_cons, List.length_nil]; omega) | (intros; first | omega | assumption | (simp_all; done) | grind)) ?_   -- r1.1
  refine hK2 _ ?_; clear hK2
  refine aw_cond _ (by rfl) (rfl) (fun c0 => ?_) (fun c0 => ?_)   -- c0
  · try simp only [decide_eq_true_eq, decide_eq_false_iff_not, Bool.not_eq_true', Bool.not_eq_false', beq_iff_eq, bne_iff_ne, beq_eq_false_iff_ne, bne_eq_false_iff_eq, Bool.not_eq_true, Bool.not_eq_false, Int.not_lt, Int.not_le, Nat.not_lt, Nat.not_le, ne_eq, Int.ofNat_inj, Bool.and_eq_true, Bool.or_eq_true, Bool.and_eq_false_iff, Bool.or_eq_false_iff, Bool.not_eq_eq_eq_not, Bool.not_true, Bool.not_false] at c0   -- c0.t
    refine aw_seq fun K3 hK3 => ?_
    refine aw_reg [] (by kernel_rfl) ?_   -- r2.2
    simp (disch := omega) only [go_sem, ↓reduceIte, Nat.reduceEqDiff, Nat.reduceLT, Nat.reduceLeDiff, Nat.reduceAdd, Nat.reduceSub, Nat.reduceMul, reduceCtorEq, Int.reduceToNat, Int.reduceNeg]
    repeat refine And.intro (by first | omega | assumption | (simp only [List.length_append, List.length_cons, List.length_nil]; omega) | (intros; first | omega | assumption | (simp_all; done) | grind)) ?_   -- r2.2
    refine callG_of _ (alive_ok _) ?_   -- r2.2#0
    simp (disch := omega) only [go_sem, ↓reduceIte, Nat.reduceEqDiff, Nat.reduceLT, Nat.reduceLeDiff, Nat.reduceAdd, Nat.reduceSub, Nat.reduceMul, reduceCtorEq, Int.reduceToNat, Int.reduceNeg]
    repeat refine And.intro (by first | omega | assumption | (simp only [List.length_append, List.length_cons, List.length_nil]; omega) | (intros; first | omega | assumption | (simp_all; done) | grind)) ?_   -- r2.2
    refine hK3 _ ?_; clear hK3
    refine aw_ret ?_
    refine ret_tmp 6 rfl (by simp (disch := omega) only [go_sem, ↓reduceIte, Nat.reduceEqDiff, Nat.reduceLT, Nat.reduceLeDiff, Nat.reduceAdd, Nat.reduceSub, Nat.reduceMul, reduceCtorEq, Int.reduceToNat, Int.reduceNeg]) ?_   -- ret0
    exact Exp.is (by simp (disch := omega) only [go_sem, ↓reduceIte, Nat.reduceEqDiff, Nat.reduceLT, Nat.reduceLeDiff, Nat.reduceAdd, Nat.reduceSub, Nat.reduceMul, reduceCtorEq, Int.reduceToNat, Int.reduceNeg] <;> refine congrArg vb ?_ <;> (first | assumption | omega | (simp only [List.length_append, List.length_cons, List.length_nil] at *; omega) | (simp_all; done))) rfl rfl
  · try simp only [decide_eq_true_eq, decide_eq_false_iff_not, Bool.not_eq_true', Bool.not_eq_false', beq_iff_eq, bne_iff_ne, beq_eq_false_iff_ne, bne_eq_false_iff_eq, Bool.not_eq_true, Bool.not_eq_false, Int.not_lt, Int.not_le, Nat.not_lt, Nat.not_le, ne_eq, Int.ofNat_inj, Bool.and_eq_true, Bool.or_eq_true, Bool.and_eq_false_iff, Bool.or_eq_false_iff, Bool.not_eq_eq_eq_not, Bool.not_true, Bool.not_false] at c0   -- c0.f
    obtain ⟨c0, c1⟩ := c0
    have hq := smal_of c0
    have hs := smt_of hq.1.1
    have hn := (few_of hq.1.1).1
    have hb : c.fTrips.length ≤ 1000 := Nat.le_trans hq.1.2.2.1 (by decide)
    have hb2 := trB hq.2.1
    
    refine aw_skip ?_
    refine hK1 _ ?_; clear hK1
    refine aw_seq fun K4 hK4 => ?_
    refine aw_reg [3, 4, 5] (by kernel_rfl) ?_   -- r3.3
    simp (disch := omega) only [go_sem, ↓reduceIte, Nat.reduceEqDiff, Nat.reduceLT, Nat.reduceLeDiff, Nat.reduceAdd, Nat.reduceSub, Nat.reduceMul, reduceCtorEq, Int.reduceToNat, Int.reduceNeg]
    repeat refine And.intro (by first | omega | assumption | (simp only [List.length_append, List.length_cons, List.length_nil]; omega) | (intros; first | omega | assumption | (simp_all; done) | grind)) ?_   -- r3.3
    refine callG_of _ (autoroute_Calls_ok _ t s c.fTrips c.fPlan c.fProgress c.fNow hs hn hb hb2) ?_   -- r3.3#0
    simp (disch := omega) only [go_sem, ↓reduceIte, Nat.reduceEqDiff, Nat.reduceLT, Nat.reduceLeDiff, Nat.reduceAdd, Nat.reduceSub, Nat.reduceMul, reduceCtorEq, Int.reduceToNat, Int.reduceNeg]
    repeat refine And.intro (by first | omega | assumption | (simp only [List.length_append, List.length_cons, List.length_nil]; omega) | (intros; first | omega | assumption | (simp_all; done) | grind)) ?_   -- r3.3
    refine hK4 _ ?_; clear hK4
    refine aw_seq fun K5 hK5 => ?_
    refine aw_seq fun K6 hK6 => ?_
    have hfl := (fit_of c1).1   -- r4.4
    have hff := (fit_of c1).2
    rw [show dcsS t s c.fTrips c.fPlan c.fProgress c.fNow = dcL t s c.fTrips c.fPlan.fStarts c.fProgress c.fNow c.fTrips.length from if_pos c1, show clsS t s c.fTrips c.fPlan c.fProgress c.fNow = mk ((dcL t s c.fTrips c.fPlan.fStarts c.fProgress c.fNow c.fTrips.length).map Decision.fRoute) from if_pos c1]
    have hDl : (dcL t s c.fTrips c.fPlan.fStarts c.fProgress c.fNow c.fTrips.length).length ≤ c.fTrips.length := dc_len _
    have hMm : ∀ i, i < c.fTrips.length → cP t s c.fTrips c.fPlan.fStarts c.fProgress c.fNow i = true → rtS c.fTrips i (atN c.fProgress i) ∈ mk ((dcL t s c.fTrips c.fPlan.fStarts c.fProgress c.fNow c.fTrips.length).map Decision.fRoute) := fun i hi hp => (mk_mem _ _).2 (List.mem_map.2 ⟨_, mem_dc hi hp, rfl⟩)
    obtain ⟨J, hJ, hM⟩ := dc_idx (t := t) (s := s) (tr := c.fTrips) (st := c.fPlan.fStarts) (pr := c.fProgress) (now := c.fNow) c.fTrips.length
    generalize hD : dcL t s c.fTrips c.fPlan.fStarts c.fProgress c.fNow c.fTrips.length = D at *
    have hR : ∀ i, i < D.length → (D.getD i default).fRoute = rtS c.fTrips (J i) (atN c.fProgress (J i)) := fun i h => by rw [(hJ i h).1]; rfl
    have hCl : (mk (D.map Decision.fRoute)).length ≤ 1000 := (by have := mk_len (D.map Decision.fRoute); rw [List.length_map] at this; omega)
    generalize hC : mk (D.map Decision.fRoute) = C at *
    refine aw_reg [3, 4, 5, 7, 8, 39, 50] (by kernel_rfl) ?_   -- r4.4
    simp (disch := omega) only [go_sem, ↓reduceIte, Nat.reduceEqDiff, Nat.reduceLT, Nat.reduceLeDiff, Nat.reduceAdd, Nat.reduceSub, Nat.reduceMul, reduceCtorEq, Int.reduceToNat, Int.reduceNeg]
    repeat refine And.intro (by first | omega | assumption | (simp only [List.length_append, List.length_cons, List.length_nil]; omega) | (intros; first | omega | assumption | (simp_all; done) | grind)) ?_   -- r4.4
    refine hK6 _ ?_; clear hK6
    refine aw_block ?_
    refine aw_loopK [3, 4, 5, 7, 8, 53, 54, 55] (fun n ρ => ∃ i, n = D.length - i ∧ (i ≤ D.length) ∧ ρ = mkE O [(3, .bx (eTable t)), (4, .bx (eInter s)), (5, .bx (eCase c)), (7, encI C), (8, encDc D), (53, encDc D), (54, vi (D.length : Nat)), (55, vi (i : Nat))]) _ ⟨0, rfl, ?_, ?_⟩ ?_   -- L0
    · first | assumption | omega | (simp only [List.length_append, List.length_cons, List.length_nil] at *; omega) | (simp_all; done)   -- L0.init.inv0
    · simp (disch := omega) only [go_sem, ↓reduceIte, Nat.reduceEqDiff, Nat.reduceLT, Nat.reduceLeDiff, Nat.reduceAdd, Nat.reduceSub, Nat.reduceMul, reduceCtorEq, Int.reduceToNat, Int.reduceNeg] <;> first | rfl | omega | simp | simp_all   -- L0.init.env
    rintro n ρ ⟨i, rfl, l0_0, rfl⟩ K7 hK7
    refine aw_seq fun K8 hK8 => ?_
    refine aw_reg [3, 4, 5, 7, 8, 39, 50, 53, 54, 55] (by kernel_rfl) ?_   -- r5.5
    simp (disch := omega) only [go_sem, ↓reduceIte, Nat.reduceEqDiff, Nat.reduceLT, Nat.reduceLeDiff, Nat.reduceAdd, Nat.reduceSub, Nat.reduceMul, reduceCtorEq, Int.reduceToNat, Int.reduceNeg, hR]
    repeat refine And.intro (by first | omega | assumption | (simp only [List.length_append, List.length_cons, List.length_nil]; omega) | (intros; first | omega | assumption | (simp_all; done) | grind)) ?_   -- r5.5
    refine hK8 _ ?_; clear hK8
    refine aw_seq fun K9 hK9 => ?_
    refine aw_cond _ (by rfl) (rfl) (fun c1 => ?_) (fun c1 => ?_)   -- c1
    · try simp only [decide_eq_true_eq, decide_eq_false_iff_not, Bool.not_eq_true', Bool.not_eq_false', beq_iff_eq, bne_iff_ne, beq_eq_false_iff_ne, bne_eq_false_iff_eq, Bool.not_eq_true, Bool.not_eq_false, Int.not_lt, Int.not_le, Nat.not_lt, Nat.not_le, ne_eq, Int.ofNat_inj, Bool.and_eq_true, Bool.or_eq_true, Bool.and_eq_false_iff, Bool.or_eq_false_iff, Bool.not_eq_eq_eq_not, Bool.not_true, Bool.not_false] at c1   -- c1.t
      have hJi := hJ i (by omega)
      refine aw_skip ?_
      refine hK9 _ ?_; clear hK9
      refine aw_seq fun K10 hK10 => ?_
      refine aw_block ?_
      refine aw_seq fun K11 hK11 => ?_
      refine aw_reg [3, 4, 5, 7, 8, 39, 50, 53, 54, 55] (by kernel_rfl) ?_   -- r6.6
      simp (disch := omega) only [go_sem, ↓reduceIte, Nat.reduceEqDiff, Nat.reduceLT, Nat.reduceLeDiff, Nat.reduceAdd, Nat.reduceSub, Nat.reduceMul, reduceCtorEq, Int.reduceToNat, Int.reduceNeg, hR]
      repeat refine And.intro (by first | omega | assumption | (simp only [List.length_append, List.length_cons, List.length_nil]; omega) | (intros; first | omega | assumption | (simp_all; done) | grind)) ?_   -- r6.6
      refine hK11 _ ?_; clear hK11
      refine aw_seq fun K12 hK12 => ?_
      refine aw_reg [3, 4, 5, 7, 8, 9, 10, 39, 50, 53, 54, 55] (by kernel_rfl) ?_   -- r7.7
      simp (disch := omega) only [go_sem, ↓reduceIte, Nat.reduceEqDiff, Nat.reduceLT, Nat.reduceLeDiff, Nat.reduceAdd, Nat.reduceSub, Nat.reduceMul, reduceCtorEq, Int.reduceToNat, Int.reduceNeg, hR]
      repeat refine And.intro (by first | omega | assumption | (simp only [List.length_append, List.length_cons, List.length_nil]; omega) | (intros; first | omega | assumption | (simp_all; done) | grind)) ?_   -- r7.7
      refine hK12 _ ?_; clear hK12
      refine aw_block ?_
      refine aw_loopK [3, 4, 5, 7, 8, 53, 54, 55, 10, 62, 63, 64] (fun n ρ => ∃ j, n = i - j ∧ (j ≤ i) ∧ ρ = mkE O [(3, .bx (eTable t)), (4, .bx (eInter s)), (5, .bx (eCase c)), (7, encI C), (8, encDc D), (53, encDc D), (54, vi (D.length : Nat)), (55, vi (i : Nat)), (10, .bx (eDecision (D.getD i default))), (62, .sl 5 i fun j => eDecision (D.getD j default)), (63, vi (i : Nat)), (64, vi (j : Nat))]) _ ⟨0, rfl, ?_, ?_⟩ ?_   -- L1
      · first | assumption | omega | (simp only [List.length_append, List.length_cons, List.length_nil] at *; omega) | (simp_all; done)   -- L1.init.inv0
      · simp (disch := omega) only [go_sem, ↓reduceIte, Nat.reduceEqDiff, Nat.reduceLT, Nat.reduceLeDiff, Nat.reduceAdd, Nat.reduceSub, Nat.reduceMul, reduceCtorEq, Int.reduceToNat, Int.reduceNeg, hR] <;> first | rfl | omega | simp | simp_all   -- L1.init.env
      rintro n ρ ⟨j, rfl, l1_0, rfl⟩ K13 hK13
      refine aw_seq fun K14 hK14 => ?_
      refine aw_reg [3, 4, 5, 7, 8, 10, 39, 50, 53, 54, 55, 60, 61, 62, 63, 64] (by kernel_rfl) ?_   -- r8.8
      simp (disch := omega) only [go_sem, ↓reduceIte, Nat.reduceEqDiff, Nat.reduceLT, Nat.reduceLeDiff, Nat.reduceAdd, Nat.reduceSub, Nat.reduceMul, reduceCtorEq, Int.reduceToNat, Int.reduceNeg, hR]
      repeat refine And.intro (by first | omega | assumption | (simp only [List.length_append, List.length_cons, List.length_nil]; omega) | (intros; first | omega | assumption | (simp_all; done) | grind)) ?_   -- r8.8
      refine hK14 _ ?_; clear hK14
      refine aw_seq fun K15 hK15 => ?_
      refine aw_cond _ (by rfl) (rfl) (fun c2 => ?_) (fun c2 => ?_)   -- c2
      · try simp only [decide_eq_true_eq, decide_eq_false_iff_not, Bool.not_eq_true', Bool.not_eq_false', beq_iff_eq, bne_iff_ne, beq_eq_false_iff_ne, bne_eq_false_iff_eq, Bool.not_eq_true, Bool.not_eq_false, Int.not_lt, Int.not_le, Nat.not_lt, Nat.not_le, ne_eq, Int.ofNat_inj, Bool.and_eq_true, Bool.or_eq_true, Bool.and_eq_false_iff, Bool.or_eq_false_iff, Bool.not_eq_eq_eq_not, Bool.not_true, Bool.not_false] at c2   -- c2.t
        refine aw_skip ?_
        refine hK15 _ ?_; clear hK15
        refine aw_seq fun K16 hK16 => ?_
        refine aw_block ?_
        refine aw_seq fun K17 hK17 => ?_
        refine aw_reg [3, 4, 5, 7, 8, 10, 39, 50, 53, 54, 55, 60, 61, 62, 63, 64] (by kernel_rfl) ?_   -- r9.9
        simp (disch := omega) only [go_sem, ↓reduceIte, Nat.reduceEqDiff, Nat.reduceLT, Nat.reduceLeDiff, Nat.reduceAdd, Nat.reduceSub, Nat.reduceMul, reduceCtorEq, Int.reduceToNat, Int.reduceNeg, hR]
        repeat refine And.intro (by first | omega | assumption | (simp only [List.length_append, List.length_cons, List.length_nil]; omega) | (intros; first | omega | assumption | (simp_all; done) | grind)) ?_   -- r9.9
        refine hK17 _ ?_; clear hK17
        refine aw_seq fun K18 hK18 => ?_
        refine aw_reg [3, 4, 5, 7, 8, 10, 12, 39, 50, 53, 54, 55, 60, 61, 62, 63, 64] (by kernel_rfl) ?_   -- r10.10
        simp (disch := omega) only [go_sem, ↓reduceIte, Nat.reduceEqDiff, Nat.reduceLT, Nat.reduceLeDiff, Nat.reduceAdd, Nat.reduceSub, Nat.reduceMul, reduceCtorEq, Int.reduceToNat, Int.reduceNeg, hR]
        repeat refine And.intro (by first | omega | assumption | (simp only [List.length_append, List.length_cons, List.length_nil]; omega) | (intros; first | omega | assumption | (simp_all; done) | grind)) ?_   -- r10.10
        refine callG_of _ (law50_conflict_ok _ t s _ _ hs) ?_   -- r10.10#0
        simp (disch := omega) only [go_sem, ↓reduceIte, Nat.reduceEqDiff, Nat.reduceLT, Nat.reduceLeDiff, Nat.reduceAdd, Nat.reduceSub, Nat.reduceMul, reduceCtorEq, Int.reduceToNat, Int.reduceNeg, hR]
        repeat refine And.intro (by first | omega | assumption | (simp only [List.length_append, List.length_cons, List.length_nil]; omega) | (intros; first | omega | assumption | (simp_all; done) | grind)) ?_   -- r10.10
        refine hK18 _ ?_; clear hK18
        refine aw_cond _ (by rfl) (rfl) (fun c3 => ?_) (fun c3 => ?_)   -- c3
        · try simp only [decide_eq_true_eq, decide_eq_false_iff_not, Bool.not_eq_true', Bool.not_eq_false', beq_iff_eq, bne_iff_ne, beq_eq_false_iff_ne, bne_eq_false_iff_eq, Bool.not_eq_true, Bool.not_eq_false, Int.not_lt, Int.not_le, Nat.not_lt, Nat.not_le, ne_eq, Int.ofNat_inj, Bool.and_eq_true, Bool.or_eq_true, Bool.and_eq_false_iff, Bool.or_eq_false_iff, Bool.not_eq_eq_eq_not, Bool.not_true, Bool.not_false] at c3   -- c3.t
          exfalso; have hJi := hJ i (by omega)
          have hJj := hJ j (by omega)
          have ha := apart hJi.2.2 hJj.2.2 (hM j i (by omega) (by omega)) hJi.2.1 hJj.2.1
          rw [ha] at c3; cases c3
        · try simp only [decide_eq_true_eq, decide_eq_false_iff_not, Bool.not_eq_true', Bool.not_eq_false', beq_iff_eq, bne_iff_ne, beq_eq_false_iff_ne, bne_eq_false_iff_eq, Bool.not_eq_true, Bool.not_eq_false, Int.not_lt, Int.not_le, Nat.not_lt, Nat.not_le, ne_eq, Int.ofNat_inj, Bool.and_eq_true, Bool.or_eq_true, Bool.and_eq_false_iff, Bool.or_eq_false_iff, Bool.not_eq_eq_eq_not, Bool.not_true, Bool.not_false] at c3   -- c3.f
          refine aw_skip ?_
          refine hK16 _ ?_; clear hK16
          refine aw_reg [3, 4, 5, 7, 8, 10, 39, 50, 53, 54, 55, 60, 61, 62, 63, 64] (by kernel_rfl) ?_   -- r12.11
          simp (disch := omega) only [go_sem, ↓reduceIte, Nat.reduceEqDiff, Nat.reduceLT, Nat.reduceLeDiff, Nat.reduceAdd, Nat.reduceSub, Nat.reduceMul, reduceCtorEq, Int.reduceToNat, Int.reduceNeg, hR]
          repeat refine And.intro (by first | omega | assumption | (simp only [List.length_append, List.length_cons, List.length_nil]; omega) | (intros; first | omega | assumption | (simp_all; done) | grind)) ?_   -- r12.11
          refine hK13 _ _ ?_ ⟨j + 1, rfl, ?_, ?_⟩   -- L1.0
          · first | assumption | omega | (simp only [List.length_append, List.length_cons, List.length_nil] at *; omega) | (simp_all; done)   -- L1.0.meas
          · first | assumption | omega | (simp only [List.length_append, List.length_cons, List.length_nil] at *; omega) | (simp_all; done)   -- L1.0.inv0
          · simp (disch := omega) only [go_sem, ↓reduceIte, Nat.reduceEqDiff, Nat.reduceLT, Nat.reduceLeDiff, Nat.reduceAdd, Nat.reduceSub, Nat.reduceMul, reduceCtorEq, Int.reduceToNat, Int.reduceNeg, hR] <;> first | rfl | omega | simp | simp_all   -- L1.0.env
      · try simp only [decide_eq_true_eq, decide_eq_false_iff_not, Bool.not_eq_true', Bool.not_eq_false', beq_iff_eq, bne_iff_ne, beq_eq_false_iff_ne, bne_eq_false_iff_eq, Bool.not_eq_true, Bool.not_eq_false, Int.not_lt, Int.not_le, Nat.not_lt, Nat.not_le, ne_eq, Int.ofNat_inj, Bool.and_eq_true, Bool.or_eq_true, Bool.and_eq_false_iff, Bool.or_eq_false_iff, Bool.not_eq_eq_eq_not, Bool.not_true, Bool.not_false] at c2   -- c2.f
        refine aw_exit ?_
        refine hK10 _ ?_; clear hK10
        refine aw_reg [3, 4, 5, 7, 8, 39, 50, 53, 54, 55] (by kernel_rfl) ?_   -- r13.12
        simp (disch := omega) only [go_sem, ↓reduceIte, Nat.reduceEqDiff, Nat.reduceLT, Nat.reduceLeDiff, Nat.reduceAdd, Nat.reduceSub, Nat.reduceMul, reduceCtorEq, Int.reduceToNat, Int.reduceNeg, hR]
        repeat refine And.intro (by first | omega | assumption | (simp only [List.length_append, List.length_cons, List.length_nil]; omega) | (intros; first | omega | assumption | (simp_all; done) | grind)) ?_   -- r13.12
        refine hK7 _ _ ?_ ⟨i + 1, rfl, ?_, ?_⟩   -- L0.0
        · first | assumption | omega | (simp only [List.length_append, List.length_cons, List.length_nil] at *; omega) | (simp_all; done)   -- L0.0.meas
        · first | assumption | omega | (simp only [List.length_append, List.length_cons, List.length_nil] at *; omega) | (simp_all; done)   -- L0.0.inv0
        · simp (disch := omega) only [go_sem, ↓reduceIte, Nat.reduceEqDiff, Nat.reduceLT, Nat.reduceLeDiff, Nat.reduceAdd, Nat.reduceSub, Nat.reduceMul, reduceCtorEq, Int.reduceToNat, Int.reduceNeg, hR] <;> first | rfl | omega | simp | simp_all   -- L0.0.env
    · try simp only [decide_eq_true_eq, decide_eq_false_iff_not, Bool.not_eq_true', Bool.not_eq_false', beq_iff_eq, bne_iff_ne, beq_eq_false_iff_ne, bne_eq_false_iff_eq, Bool.not_eq_true, Bool.not_eq_false, Int.not_lt, Int.not_le, Nat.not_lt, Nat.not_le, ne_eq, Int.ofNat_inj, Bool.and_eq_true, Bool.or_eq_true, Bool.and_eq_false_iff, Bool.or_eq_false_iff, Bool.not_eq_eq_eq_not, Bool.not_true, Bool.not_false] at c1   -- c1.f
      refine aw_exit ?_
      refine hK5 _ ?_; clear hK5
      refine aw_seq fun K19 hK19 => ?_
      refine aw_seq fun K20 hK20 => ?_
      refine aw_reg [3, 4, 5, 7, 39, 50] (by kernel_rfl) ?_   -- r14.13
      simp (disch := omega) only [go_sem, ↓reduceIte, Nat.reduceEqDiff, Nat.reduceLT, Nat.reduceLeDiff, Nat.reduceAdd, Nat.reduceSub, Nat.reduceMul, reduceCtorEq, Int.reduceToNat, Int.reduceNeg, hR]
      repeat refine And.intro (by first | omega | assumption | (simp only [List.length_append, List.length_cons, List.length_nil]; omega) | (intros; first | omega | assumption | (simp_all; done) | grind)) ?_   -- r14.13
      refine hK20 _ ?_; clear hK20
      refine aw_block ?_
      refine aw_loopK [3, 4, 5, 7, 78, 79, 80] (fun n ρ => ∃ i, n = c.fTrips.length - i ∧ (i ≤ c.fTrips.length) ∧ ρ = mkE O [(3, .bx (eTable t)), (4, .bx (eInter s)), (5, .bx (eCase c)), (7, encI C), (78, encTr c.fTrips), (79, vi (c.fTrips.length : Nat)), (80, vi (i : Nat))]) _ ⟨0, rfl, ?_, ?_⟩ ?_   -- L2
      · first | assumption | omega | (simp only [List.length_append, List.length_cons, List.length_nil] at *; omega) | (simp_all; done)   -- L2.init.inv0
      · simp (disch := omega) only [go_sem, ↓reduceIte, Nat.reduceEqDiff, Nat.reduceLT, Nat.reduceLeDiff, Nat.reduceAdd, Nat.reduceSub, Nat.reduceMul, reduceCtorEq, Int.reduceToNat, Int.reduceNeg, hR] <;> first | rfl | omega | simp | simp_all   -- L2.init.env
      rintro n ρ ⟨i, rfl, l2_0, rfl⟩ K21 hK21
      refine aw_seq fun K22 hK22 => ?_
      refine aw_reg [3, 4, 5, 7, 39, 50, 77, 78, 79, 80] (by kernel_rfl) ?_   -- r15.14
      simp (disch := omega) only [go_sem, ↓reduceIte, Nat.reduceEqDiff, Nat.reduceLT, Nat.reduceLeDiff, Nat.reduceAdd, Nat.reduceSub, Nat.reduceMul, reduceCtorEq, Int.reduceToNat, Int.reduceNeg, hR]
      repeat refine And.intro (by first | omega | assumption | (simp only [List.length_append, List.length_cons, List.length_nil]; omega) | (intros; first | omega | assumption | (simp_all; done) | grind)) ?_   -- r15.14
      refine hK22 _ ?_; clear hK22
      refine aw_seq fun K23 hK23 => ?_
      refine aw_cond _ (by rfl) (rfl) (fun c4 => ?_) (fun c4 => ?_)   -- c4
      · try simp only [decide_eq_true_eq, decide_eq_false_iff_not, Bool.not_eq_true', Bool.not_eq_false', beq_iff_eq, bne_iff_ne, beq_eq_false_iff_ne, bne_eq_false_iff_eq, Bool.not_eq_true, Bool.not_eq_false, Int.not_lt, Int.not_le, Nat.not_lt, Nat.not_le, ne_eq, Int.ofNat_inj, Bool.and_eq_true, Bool.or_eq_true, Bool.and_eq_false_iff, Bool.or_eq_false_iff, Bool.not_eq_eq_eq_not, Bool.not_true, Bool.not_false] at c4   -- c4.t
        refine aw_skip ?_
        refine hK23 _ ?_; clear hK23
        refine aw_seq fun K24 hK24 => ?_
        refine aw_block ?_
        refine aw_seq fun K25 hK25 => ?_
        refine aw_reg [3, 4, 5, 7, 39, 50, 77, 78, 79, 80] (by kernel_rfl) ?_   -- r16.15
        simp (disch := omega) only [go_sem, ↓reduceIte, Nat.reduceEqDiff, Nat.reduceLT, Nat.reduceLeDiff, Nat.reduceAdd, Nat.reduceSub, Nat.reduceMul, reduceCtorEq, Int.reduceToNat, Int.reduceNeg, hR]
        repeat refine And.intro (by first | omega | assumption | (simp only [List.length_append, List.length_cons, List.length_nil]; omega) | (intros; first | omega | assumption | (simp_all; done) | grind)) ?_   -- r16.15
        refine hK25 _ ?_; clear hK25
        refine aw_seq fun K26 hK26 => ?_
        refine aw_reg [3, 4, 5, 7, 13, 14, 39, 50, 77, 78, 79, 80] (by kernel_rfl) ?_   -- r17.16
        simp (disch := omega) only [go_sem, ↓reduceIte, Nat.reduceEqDiff, Nat.reduceLT, Nat.reduceLeDiff, Nat.reduceAdd, Nat.reduceSub, Nat.reduceMul, reduceCtorEq, Int.reduceToNat, Int.reduceNeg, hR]
        repeat refine And.intro (by first | omega | assumption | (simp only [List.length_append, List.length_cons, List.length_nil]; omega) | (intros; first | omega | assumption | (simp_all; done) | grind)) ?_   -- r17.16
        refine callG_of _ (ref50_At_ok _ c.fProgress i) ?_   -- r17.16#0
        simp (disch := omega) only [go_sem, ↓reduceIte, Nat.reduceEqDiff, Nat.reduceLT, Nat.reduceLeDiff, Nat.reduceAdd, Nat.reduceSub, Nat.reduceMul, reduceCtorEq, Int.reduceToNat, Int.reduceNeg, hR]
        repeat refine And.intro (by first | omega | assumption | (simp only [List.length_append, List.length_cons, List.length_nil]; omega) | (intros; first | omega | assumption | (simp_all; done) | grind)) ?_   -- r17.16
        refine hK26 _ ?_; clear hK26
        refine aw_seq fun K27 hK27 => ?_
        refine aw_seq fun K28 hK28 => ?_
        refine aw_regDc [3, 4, 5, 7, 13, 14, 15, 39, 50, 77, 78, 79, 80] [] mixed (by kernel_rfl) ?_   -- r18.17
        simp (disch := omega) only [go_sem, ↓reduceIte, Nat.reduceEqDiff, Nat.reduceLT, Nat.reduceLeDiff, Nat.reduceAdd, Nat.reduceSub, Nat.reduceMul, reduceCtorEq, Int.reduceToNat, Int.reduceNeg, hR]
        repeat refine And.intro (by first | omega | assumption | (simp only [List.length_append, List.length_cons, List.length_nil]; omega) | (intros; first | omega | assumption | (simp_all; done) | grind)) ?_   -- r18.17
        refine hK28 _ ?_; clear hK28
        refine aw_cond _ (by rfl) (rfl) (fun c5 => ?_) (fun c5 => ?_)   -- c5
        · try simp only [decide_eq_true_eq, decide_eq_false_iff_not, Bool.not_eq_true', Bool.not_eq_false', beq_iff_eq, bne_iff_ne, beq_eq_false_iff_ne, bne_eq_false_iff_eq, Bool.not_eq_true, Bool.not_eq_false, Int.not_lt, Int.not_le, Nat.not_lt, Nat.not_le, ne_eq, Int.ofNat_inj, Bool.and_eq_true, Bool.or_eq_true, Bool.and_eq_false_iff, Bool.or_eq_false_iff, Bool.not_eq_eq_eq_not, Bool.not_true, Bool.not_false] at c5   -- c5.t
          refine aw_exit ?_
          refine hK24 _ ?_; clear hK24
          refine aw_reg [3, 4, 5, 7, 39, 50, 77, 78, 79, 80] (by kernel_rfl) ?_   -- r38.18
          simp (disch := omega) only [go_sem, ↓reduceIte, Nat.reduceEqDiff, Nat.reduceLT, Nat.reduceLeDiff, Nat.reduceAdd, Nat.reduceSub, Nat.reduceMul, reduceCtorEq, Int.reduceToNat, Int.reduceNeg, hR]
          repeat refine And.intro (by first | omega | assumption | (simp only [List.length_append, List.length_cons, List.length_nil]; omega) | (intros; first | omega | assumption | (simp_all; done) | grind)) ?_   -- r38.18
          refine hK21 _ _ ?_ ⟨i + 1, rfl, ?_, ?_⟩   -- L2.0
          · first | assumption | omega | (simp only [List.length_append, List.length_cons, List.length_nil] at *; omega) | (simp_all; done)   -- L2.0.meas
          · first | assumption | omega | (simp only [List.length_append, List.length_cons, List.length_nil] at *; omega) | (simp_all; done)   -- L2.0.inv0
          · simp (disch := omega) only [go_sem, ↓reduceIte, Nat.reduceEqDiff, Nat.reduceLT, Nat.reduceLeDiff, Nat.reduceAdd, Nat.reduceSub, Nat.reduceMul, reduceCtorEq, Int.reduceToNat, Int.reduceNeg, hR] <;> first | rfl | omega | simp | simp_all   -- L2.0.env
        · try simp only [decide_eq_true_eq, decide_eq_false_iff_not, Bool.not_eq_true', Bool.not_eq_false', beq_iff_eq, bne_iff_ne, beq_eq_false_iff_ne, bne_eq_false_iff_eq, Bool.not_eq_true, Bool.not_eq_false, Int.not_lt, Int.not_le, Nat.not_lt, Nat.not_le, ne_eq, Int.ofNat_inj, Bool.and_eq_true, Bool.or_eq_true, Bool.and_eq_false_iff, Bool.or_eq_false_iff, Bool.not_eq_eq_eq_not, Bool.not_true, Bool.not_false] at c5   -- c5.f
          refine aw_skip ?_
          refine hK27 _ ?_; clear hK27
          refine aw_seq fun K29 hK29 => ?_
          refine aw_reg [3, 4, 5, 7, 13, 14, 15, 39, 50, 77, 78, 79, 80] (by kernel_rfl) ?_   -- r19.19
          simp (disch := omega) only [go_sem, ↓reduceIte, Nat.reduceEqDiff, Nat.reduceLT, Nat.reduceLeDiff, Nat.reduceAdd, Nat.reduceSub, Nat.reduceMul, reduceCtorEq, Int.reduceToNat, Int.reduceNeg, hR]
          repeat refine And.intro (by first | omega | assumption | (simp only [List.length_append, List.length_cons, List.length_nil]; omega) | (intros; first | omega | assumption | (simp_all; done) | grind)) ?_   -- r19.19
          refine hK29 _ ?_; clear hK29
          refine aw_seq fun K30 hK30 => ?_
          refine aw_reg [3, 4, 5, 7, 13, 16, 39, 50, 77, 78, 79, 80] (by kernel_rfl) ?_   -- r20.20
          simp (disch := omega) only [go_sem, ↓reduceIte, Nat.reduceEqDiff, Nat.reduceLT, Nat.reduceLeDiff, Nat.reduceAdd, Nat.reduceSub, Nat.reduceMul, reduceCtorEq, Int.reduceToNat, Int.reduceNeg, hR]
          repeat refine And.intro (by first | omega | assumption | (simp only [List.length_append, List.length_cons, List.length_nil]; omega) | (intros; first | omega | assumption | (simp_all; done) | grind)) ?_   -- r20.20
          refine hK30 _ ?_; clear hK30
          refine aw_seq fun K31 hK31 => ?_
          refine aw_seq fun K32 hK32 => ?_
          refine aw_reg [3, 4, 5, 7, 13, 16, 17, 39, 50, 77, 78, 79, 80] (by kernel_rfl) ?_   -- r21.21
          simp (disch := omega) only [go_sem, ↓reduceIte, Nat.reduceEqDiff, Nat.reduceLT, Nat.reduceLeDiff, Nat.reduceAdd, Nat.reduceSub, Nat.reduceMul, reduceCtorEq, Int.reduceToNat, Int.reduceNeg, hR]
          repeat refine And.intro (by first | omega | assumption | (simp only [List.length_append, List.length_cons, List.length_nil]; omega) | (intros; first | omega | assumption | (simp_all; done) | grind)) ?_   -- r21.21
          refine hK32 _ ?_; clear hK32
          refine aw_block ?_
          refine aw_loopK [3, 4, 5, 7, 78, 79, 80, 13, 16, 17, 140, 141, 142] (fun n ρ => ∃ k, ∃ (fr : Bool), n = c.fTrips.length - k ∧ (k ≤ c.fTrips.length) ∧ (fr = true → (exB t s (rtS c.fTrips i (atN c.fProgress i)) = true ∧ stN s (rtS c.fTrips i (atN c.fProgress i)) = 0) ∧ noc t s c.fTrips i (rtS c.fTrips i (atN c.fProgress i)) k 0) ∧ ρ = mkE O [(3, .bx (eTable t)), (4, .bx (eInter s)), (5, .bx (eCase c)), (7, encI C), (78, encTr c.fTrips), (79, vi (c.fTrips.length : Nat)), (80, vi (i : Nat)), (13, vi (i : Nat)), (16, vi ((c.fTrips.getD i default).fStops.getD (atN c.fProgress i) default).fRoute), (17, vb fr), (140, encTr c.fTrips), (141, vi (c.fTrips.length : Nat)), (142, vi (k : Nat))]) _ ⟨0, (exB t s (rtS c.fTrips i (atN c.fProgress i)) && (stN s (rtS c.fTrips i (atN c.fProgress i)) == 0)), rfl, ?_, ?_, ?_⟩ ?_   -- L3
          · first | assumption | omega | (simp only [List.length_append, List.length_cons, List.length_nil] at *; omega) | (simp_all; done)   -- L3.init.inv0
          · intro h; rw [Bool.and_eq_true, beq_iff_eq] at h; exact ⟨h, noc_0⟩   -- L3.init.inv1
          · simp (disch := omega) only [go_sem, ↓reduceIte, Nat.reduceEqDiff, Nat.reduceLT, Nat.reduceLeDiff, Nat.reduceAdd, Nat.reduceSub, Nat.reduceMul, reduceCtorEq, Int.reduceToNat, Int.reduceNeg, hR] <;> first | rfl | omega | simp | simp_all   -- L3.init.env
          rintro n ρ ⟨k, fr, rfl, l3_0, l3_1, rfl⟩ K33 hK33
          refine aw_seq fun K34 hK34 => ?_
          refine aw_reg [3, 4, 5, 7, 13, 16, 17, 39, 50, 77, 78, 79, 80, 139, 140, 141, 142] (by kernel_rfl) ?_   -- r22.22
          simp (disch := omega) only [go_sem, ↓reduceIte, Nat.reduceEqDiff, Nat.reduceLT, Nat.reduceLeDiff, Nat.reduceAdd, Nat.reduceSub, Nat.reduceMul, reduceCtorEq, Int.reduceToNat, Int.reduceNeg, hR]
          repeat refine And.intro (by first | omega | assumption | (simp only [List.length_append, List.length_cons, List.length_nil]; omega) | (intros; first | omega | assumption | (simp_all; done) | grind)) ?_   -- r22.22
          refine hK34 _ ?_; clear hK34
          refine aw_seq fun K35 hK35 => ?_
          refine aw_cond _ (by rfl) (rfl) (fun c6 => ?_) (fun c6 => ?_)   -- c6
          · try simp only [decide_eq_true_eq, decide_eq_false_iff_not, Bool.not_eq_true', Bool.not_eq_false', beq_iff_eq, bne_iff_ne, beq_eq_false_iff_ne, bne_eq_false_iff_eq, Bool.not_eq_true, Bool.not_eq_false, Int.not_lt, Int.not_le, Nat.not_lt, Nat.not_le, ne_eq, Int.ofNat_inj, Bool.and_eq_true, Bool.or_eq_true, Bool.and_eq_false_iff, Bool.or_eq_false_iff, Bool.not_eq_eq_eq_not, Bool.not_true, Bool.not_false] at c6   -- c6.t
            refine aw_skip ?_
            refine hK35 _ ?_; clear hK35
            refine aw_seq fun K36 hK36 => ?_
            refine aw_block ?_
            refine aw_seq fun K37 hK37 => ?_
            refine aw_reg [3, 4, 5, 7, 13, 16, 17, 39, 50, 77, 78, 79, 80, 139, 140, 141, 142] (by kernel_rfl) ?_   -- r23.23
            simp (disch := omega) only [go_sem, ↓reduceIte, Nat.reduceEqDiff, Nat.reduceLT, Nat.reduceLeDiff, Nat.reduceAdd, Nat.reduceSub, Nat.reduceMul, reduceCtorEq, Int.reduceToNat, Int.reduceNeg, hR]
            repeat refine And.intro (by first | omega | assumption | (simp only [List.length_append, List.length_cons, List.length_nil]; omega) | (intros; first | omega | assumption | (simp_all; done) | grind)) ?_   -- r23.23
            refine hK37 _ ?_; clear hK37
            refine aw_seq fun K38 hK38 => ?_
            refine aw_reg [3, 4, 5, 7, 13, 16, 17, 18, 19, 39, 50, 77, 78, 79, 80, 139, 140, 141, 142] (by kernel_rfl) ?_   -- r24.24
            simp (disch := omega) only [go_sem, ↓reduceIte, Nat.reduceEqDiff, Nat.reduceLT, Nat.reduceLeDiff, Nat.reduceAdd, Nat.reduceSub, Nat.reduceMul, reduceCtorEq, Int.reduceToNat, Int.reduceNeg, hR]
            repeat refine And.intro (by first | omega | assumption | (simp only [List.length_append, List.length_cons, List.length_nil]; omega) | (intros; first | omega | assumption | (simp_all; done) | grind)) ?_   -- r24.24
            refine hK38 _ ?_; clear hK38
            refine aw_block ?_
            refine aw_loopK [3, 4, 5, 7, 78, 79, 80, 13, 16, 17, 140, 141, 142, 18, 19, 148, 149, 150] (fun n ρ => ∃ m, ∃ (fr : Bool), n = (c.fTrips.getD k default).fStops.length - m ∧ (m ≤ (c.fTrips.getD k default).fStops.length) ∧ (fr = true → (exB t s (rtS c.fTrips i (atN c.fProgress i)) = true ∧ stN s (rtS c.fTrips i (atN c.fProgress i)) = 0) ∧ noc t s c.fTrips i (rtS c.fTrips i (atN c.fProgress i)) k m) ∧ ρ = mkE O [(3, .bx (eTable t)), (4, .bx (eInter s)), (5, .bx (eCase c)), (7, encI C), (78, encTr c.fTrips), (79, vi (c.fTrips.length : Nat)), (80, vi (i : Nat)), (13, vi (i : Nat)), (16, vi ((c.fTrips.getD i default).fStops.getD (atN c.fProgress i) default).fRoute), (17, vb fr), (140, encTr c.fTrips), (141, vi (c.fTrips.length : Nat)), (142, vi (k : Nat)), (18, vi (k : Nat)), (19, .bx (eTrip (c.fTrips.getD k default))), (148, encL 4 eStop (c.fTrips.getD k default).fStops), (149, vi ((c.fTrips.getD k default).fStops.length : Nat)), (150, vi (m : Nat))]) _ ⟨0, fr, rfl, ?_, ?_, ?_⟩ ?_   -- L4
            · first | assumption | omega | (simp only [List.length_append, List.length_cons, List.length_nil] at *; omega) | (simp_all; done)   -- L4.init.inv0
            · exact l3_1   -- L4.init.inv1
            · simp (disch := omega) only [go_sem, ↓reduceIte, Nat.reduceEqDiff, Nat.reduceLT, Nat.reduceLeDiff, Nat.reduceAdd, Nat.reduceSub, Nat.reduceMul, reduceCtorEq, Int.reduceToNat, Int.reduceNeg, hR] <;> first | rfl | omega | simp | simp_all   -- L4.init.env
            rintro n ρ ⟨m, fr, rfl, l4_0, l4_1, rfl⟩ K39 hK39
            have hb3 := hb2 k
            refine aw_seq fun K40 hK40 => ?_
            refine aw_reg [3, 4, 5, 7, 13, 16, 17, 18, 19, 39, 50, 77, 78, 79, 80, 139, 140, 141, 142, 147, 148, 149, 150] (by kernel_rfl) ?_   -- r25.25
            simp (disch := omega) only [go_sem, ↓reduceIte, Nat.reduceEqDiff, Nat.reduceLT, Nat.reduceLeDiff, Nat.reduceAdd, Nat.reduceSub, Nat.reduceMul, reduceCtorEq, Int.reduceToNat, Int.reduceNeg, hR]
            repeat refine And.intro (by first | omega | assumption | (simp only [List.length_append, List.length_cons, List.length_nil]; omega) | (intros; first | omega | assumption | (simp_all; done) | grind)) ?_   -- r25.25
            refine hK40 _ ?_; clear hK40
            refine aw_seq fun K41 hK41 => ?_
            refine aw_cond _ (by rfl) (rfl) (fun c7 => ?_) (fun c7 => ?_)   -- c7
            · try simp only [decide_eq_true_eq, decide_eq_false_iff_not, Bool.not_eq_true', Bool.not_eq_false', beq_iff_eq, bne_iff_ne, beq_eq_false_iff_ne, bne_eq_false_iff_eq, Bool.not_eq_true, Bool.not_eq_false, Int.not_lt, Int.not_le, Nat.not_lt, Nat.not_le, ne_eq, Int.ofNat_inj, Bool.and_eq_true, Bool.or_eq_true, Bool.and_eq_false_iff, Bool.or_eq_false_iff, Bool.not_eq_eq_eq_not, Bool.not_true, Bool.not_false] at c7   -- c7.t
              refine aw_skip ?_
              refine hK41 _ ?_; clear hK41
              refine aw_seq fun K42 hK42 => ?_
              refine aw_block ?_
              refine aw_seq fun K43 hK43 => ?_
              refine aw_reg [3, 4, 5, 7, 13, 16, 17, 18, 19, 39, 50, 77, 78, 79, 80, 139, 140, 141, 142, 147, 148, 149, 150] (by kernel_rfl) ?_   -- r26.26
              simp (disch := omega) only [go_sem, ↓reduceIte, Nat.reduceEqDiff, Nat.reduceLT, Nat.reduceLeDiff, Nat.reduceAdd, Nat.reduceSub, Nat.reduceMul, reduceCtorEq, Int.reduceToNat, Int.reduceNeg, hR]
              repeat refine And.intro (by first | omega | assumption | (simp only [List.length_append, List.length_cons, List.length_nil]; omega) | (intros; first | omega | assumption | (simp_all; done) | grind)) ?_   -- r26.26
              refine hK43 _ ?_; clear hK43
              refine aw_reg [3, 4, 5, 7, 13, 16, 17, 18, 19, 21, 39, 50, 77, 78, 79, 80, 139, 140, 141, 142, 147, 148, 149, 150] (by kernel_rfl) ?_   -- r27.27
              simp (disch := omega) only [go_sem, ↓reduceIte, Nat.reduceEqDiff, Nat.reduceLT, Nat.reduceLeDiff, Nat.reduceAdd, Nat.reduceSub, Nat.reduceMul, reduceCtorEq, Int.reduceToNat, Int.reduceNeg, hR]
              repeat refine And.intro (by first | omega | assumption | (simp only [List.length_append, List.length_cons, List.length_nil]; omega) | (intros; first | omega | assumption | (simp_all; done) | grind)) ?_   -- r27.27
              refine callC_to (fun g1 => law50_conflict_ok _ t s (rtS c.fTrips i (atN c.fProgress i)) _ hs) ?_ ?_ ?_   -- r27.27#0
              · first | exact fun _ => trivial | simp
              · rfl
              simp (disch := omega) only [go_sem, ↓reduceIte, Nat.reduceEqDiff, Nat.reduceLT, Nat.reduceLeDiff, Nat.reduceAdd, Nat.reduceSub, Nat.reduceMul, reduceCtorEq, Int.reduceToNat, Int.reduceNeg, hR]
              repeat refine And.intro (by first | omega | assumption | (simp only [List.length_append, List.length_cons, List.length_nil]; omega) | (intros; first | omega | assumption | (simp_all; done) | grind)) ?_   -- r27.27
              refine hK42 _ ?_; clear hK42
              refine aw_reg [3, 4, 5, 7, 13, 16, 17, 18, 19, 39, 50, 77, 78, 79, 80, 139, 140, 141, 142, 147, 148, 149, 150] (by kernel_rfl) ?_   -- r28.28
              simp (disch := omega) only [go_sem, ↓reduceIte, Nat.reduceEqDiff, Nat.reduceLT, Nat.reduceLeDiff, Nat.reduceAdd, Nat.reduceSub, Nat.reduceMul, reduceCtorEq, Int.reduceToNat, Int.reduceNeg, hR]
              repeat refine And.intro (by first | omega | assumption | (simp only [List.length_append, List.length_cons, List.length_nil]; omega) | (intros; first | omega | assumption | (simp_all; done) | grind)) ?_   -- r28.28
              refine hK39 _ _ ?_ ⟨m + 1, (fr && (decide (k = i) || !cfB t s (rtS c.fTrips i (atN c.fProgress i)) (rtS c.fTrips k m))), rfl, ?_, ?_, ?_⟩   -- L4.0
              · first | assumption | omega | (simp only [List.length_append, List.length_cons, List.length_nil] at *; omega) | (simp_all; done)   -- L4.0.meas
              · first | assumption | omega | (simp only [List.length_append, List.length_cons, List.length_nil] at *; omega) | (simp_all; done)   -- L4.0.inv0
              · intro h; simp only [Bool.and_eq_true, Bool.or_eq_true, decide_eq_true_eq, Bool.not_eq_true'] at h; have h4 := l4_1 h.1; exact ⟨h4.1, noc_m h4.2 h.2⟩   -- L4.0.inv1
              · simp (disch := omega) only [go_sem, ↓reduceIte, Nat.reduceEqDiff, Nat.reduceLT, Nat.reduceLeDiff, Nat.reduceAdd, Nat.reduceSub, Nat.reduceMul, reduceCtorEq, Int.reduceToNat, Int.reduceNeg, hR] <;> first | rfl | omega | simp | simp_all   -- L4.0.env
            · try simp only [decide_eq_true_eq, decide_eq_false_iff_not, Bool.not_eq_true', Bool.not_eq_false', beq_iff_eq, bne_iff_ne, beq_eq_false_iff_ne, bne_eq_false_iff_eq, Bool.not_eq_true, Bool.not_eq_false, Int.not_lt, Int.not_le, Nat.not_lt, Nat.not_le, ne_eq, Int.ofNat_inj, Bool.and_eq_true, Bool.or_eq_true, Bool.and_eq_false_iff, Bool.or_eq_false_iff, Bool.not_eq_eq_eq_not, Bool.not_true, Bool.not_false] at c7   -- c7.f
              refine aw_exit ?_
              refine hK36 _ ?_; clear hK36
              refine aw_reg [3, 4, 5, 7, 13, 16, 17, 39, 50, 77, 78, 79, 80, 139, 140, 141, 142] (by kernel_rfl) ?_   -- r29.29
              simp (disch := omega) only [go_sem, ↓reduceIte, Nat.reduceEqDiff, Nat.reduceLT, Nat.reduceLeDiff, Nat.reduceAdd, Nat.reduceSub, Nat.reduceMul, reduceCtorEq, Int.reduceToNat, Int.reduceNeg, hR]
              repeat refine And.intro (by first | omega | assumption | (simp only [List.length_append, List.length_cons, List.length_nil]; omega) | (intros; first | omega | assumption | (simp_all; done) | grind)) ?_   -- r29.29
              refine hK33 _ _ ?_ ⟨k + 1, fr, rfl, ?_, ?_, ?_⟩   -- L3.0
              · first | assumption | omega | (simp only [List.length_append, List.length_cons, List.length_nil] at *; omega) | (simp_all; done)   -- L3.0.meas
              · first | assumption | omega | (simp only [List.length_append, List.length_cons, List.length_nil] at *; omega) | (simp_all; done)   -- L3.0.inv0
              · intro h; have h4 := l4_1 h; exact ⟨h4.1, noc_k h4.2 (by omega)⟩   -- L3.0.inv1
              · simp (disch := omega) only [go_sem, ↓reduceIte, Nat.reduceEqDiff, Nat.reduceLT, Nat.reduceLeDiff, Nat.reduceAdd, Nat.reduceSub, Nat.reduceMul, reduceCtorEq, Int.reduceToNat, Int.reduceNeg, hR] <;> first | rfl | omega | simp | simp_all   -- L3.0.env
          · try simp only [decide_eq_true_eq, decide_eq_false_iff_not, Bool.not_eq_true', Bool.not_eq_false', beq_iff_eq, bne_iff_ne, beq_eq_false_iff_ne, bne_eq_false_iff_eq, Bool.not_eq_true, Bool.not_eq_false, Int.not_lt, Int.not_le, Nat.not_lt, Nat.not_le, ne_eq, Int.ofNat_inj, Bool.and_eq_true, Bool.or_eq_true, Bool.and_eq_false_iff, Bool.or_eq_false_iff, Bool.not_eq_eq_eq_not, Bool.not_true, Bool.not_false] at c6   -- c6.f
            refine aw_exit ?_
            refine hK31 _ ?_; clear hK31
            refine aw_seq fun K44 hK44 => ?_
            refine aw_reg [3, 4, 5, 7, 16, 17, 39, 50, 77, 78, 79, 80] (by kernel_rfl) ?_   -- r30.30
            simp (disch := omega) only [go_sem, ↓reduceIte, Nat.reduceEqDiff, Nat.reduceLT, Nat.reduceLeDiff, Nat.reduceAdd, Nat.reduceSub, Nat.reduceMul, reduceCtorEq, Int.reduceToNat, Int.reduceNeg, hR]
            repeat refine And.intro (by first | omega | assumption | (simp only [List.length_append, List.length_cons, List.length_nil]; omega) | (intros; first | omega | assumption | (simp_all; done) | grind)) ?_   -- r30.30
            refine hK44 _ ?_; clear hK44
            refine aw_seq fun K45 hK45 => ?_
            refine aw_seq fun K46 hK46 => ?_
            refine aw_reg [3, 4, 5, 7, 16, 17, 22, 39, 50, 77, 78, 79, 80] (by kernel_rfl) ?_   -- r31.31
            simp (disch := omega) only [go_sem, ↓reduceIte, Nat.reduceEqDiff, Nat.reduceLT, Nat.reduceLeDiff, Nat.reduceAdd, Nat.reduceSub, Nat.reduceMul, reduceCtorEq, Int.reduceToNat, Int.reduceNeg, hR]
            repeat refine And.intro (by first | omega | assumption | (simp only [List.length_append, List.length_cons, List.length_nil]; omega) | (intros; first | omega | assumption | (simp_all; done) | grind)) ?_   -- r31.31
            refine hK46 _ ?_; clear hK46
            refine aw_block ?_
            refine aw_loopK [3, 4, 5, 7, 78, 79, 80, 16, 17, 22, 171, 172, 173] (fun n ρ => ∃ q, ∃ (fd : Bool), n = C.length - q ∧ (q ≤ C.length) ∧ (∀ q1, q1 < q → C.getD q1 default = (rtS c.fTrips i (atN c.fProgress i)) → fd = true) ∧ ρ = mkE O [(3, .bx (eTable t)), (4, .bx (eInter s)), (5, .bx (eCase c)), (7, encI C), (78, encTr c.fTrips), (79, vi (c.fTrips.length : Nat)), (80, vi (i : Nat)), (16, vi ((c.fTrips.getD i default).fStops.getD (atN c.fProgress i) default).fRoute), (17, vb fr), (22, vb fd), (171, encI C), (172, vi (C.length : Nat)), (173, vi (q : Nat))]) _ ⟨0, false, rfl, ?_, ?_, ?_⟩ ?_   -- L5
            · first | assumption | omega | (simp only [List.length_append, List.length_cons, List.length_nil] at *; omega) | (simp_all; done)   -- L5.init.inv0
            · intro q1 h; omega   -- L5.init.inv1
            · simp (disch := omega) only [go_sem, ↓reduceIte, Nat.reduceEqDiff, Nat.reduceLT, Nat.reduceLeDiff, Nat.reduceAdd, Nat.reduceSub, Nat.reduceMul, reduceCtorEq, Int.reduceToNat, Int.reduceNeg, hR] <;> first | rfl | omega | simp | simp_all   -- L5.init.env
            rintro n ρ ⟨q, fd, rfl, l5_0, l5_1, rfl⟩ K47 hK47
            refine aw_seq fun K48 hK48 => ?_
            refine aw_reg [3, 4, 5, 7, 16, 17, 22, 39, 50, 77, 78, 79, 80, 171, 172, 173] (by kernel_rfl) ?_   -- r32.32
            simp (disch := omega) only [go_sem, ↓reduceIte, Nat.reduceEqDiff, Nat.reduceLT, Nat.reduceLeDiff, Nat.reduceAdd, Nat.reduceSub, Nat.reduceMul, reduceCtorEq, Int.reduceToNat, Int.reduceNeg, hR]
            repeat refine And.intro (by first | omega | assumption | (simp only [List.length_append, List.length_cons, List.length_nil]; omega) | (intros; first | omega | assumption | (simp_all; done) | grind)) ?_   -- r32.32
            refine hK48 _ ?_; clear hK48
            refine aw_seq fun K49 hK49 => ?_
            refine aw_cond _ (by rfl) (rfl) (fun c8 => ?_) (fun c8 => ?_)   -- c8
            · try simp only [decide_eq_true_eq, decide_eq_false_iff_not, Bool.not_eq_true', Bool.not_eq_false', beq_iff_eq, bne_iff_ne, beq_eq_false_iff_ne, bne_eq_false_iff_eq, Bool.not_eq_true, Bool.not_eq_false, Int.not_lt, Int.not_le, Nat.not_lt, Nat.not_le, ne_eq, Int.ofNat_inj, Bool.and_eq_true, Bool.or_eq_true, Bool.and_eq_false_iff, Bool.or_eq_false_iff, Bool.not_eq_eq_eq_not, Bool.not_true, Bool.not_false] at c8   -- c8.t
              refine aw_skip ?_
              refine hK49 _ ?_; clear hK49
              refine aw_seq fun K50 hK50 => ?_
              refine aw_block ?_
              refine aw_seq fun K51 hK51 => ?_
              refine aw_reg [3, 4, 5, 7, 16, 17, 22, 39, 50, 77, 78, 79, 80, 171, 172, 173] (by kernel_rfl) ?_   -- r33.33
              simp (disch := omega) only [go_sem, ↓reduceIte, Nat.reduceEqDiff, Nat.reduceLT, Nat.reduceLeDiff, Nat.reduceAdd, Nat.reduceSub, Nat.reduceMul, reduceCtorEq, Int.reduceToNat, Int.reduceNeg, hR]
              repeat refine And.intro (by first | omega | assumption | (simp only [List.length_append, List.length_cons, List.length_nil]; omega) | (intros; first | omega | assumption | (simp_all; done) | grind)) ?_   -- r33.33
              refine hK51 _ ?_; clear hK51
              refine aw_reg [3, 4, 5, 7, 16, 17, 22, 24, 39, 50, 77, 78, 79, 80, 171, 172, 173] (by kernel_rfl) ?_   -- r34.34
              simp (disch := omega) only [go_sem, ↓reduceIte, Nat.reduceEqDiff, Nat.reduceLT, Nat.reduceLeDiff, Nat.reduceAdd, Nat.reduceSub, Nat.reduceMul, reduceCtorEq, Int.reduceToNat, Int.reduceNeg, hR]
              repeat refine And.intro (by first | omega | assumption | (simp only [List.length_append, List.length_cons, List.length_nil]; omega) | (intros; first | omega | assumption | (simp_all; done) | grind)) ?_   -- r34.34
              refine hK50 _ ?_; clear hK50
              refine aw_reg [3, 4, 5, 7, 16, 17, 22, 39, 50, 77, 78, 79, 80, 171, 172, 173] (by kernel_rfl) ?_   -- r35.35
              simp (disch := omega) only [go_sem, ↓reduceIte, Nat.reduceEqDiff, Nat.reduceLT, Nat.reduceLeDiff, Nat.reduceAdd, Nat.reduceSub, Nat.reduceMul, reduceCtorEq, Int.reduceToNat, Int.reduceNeg, hR]
              repeat refine And.intro (by first | omega | assumption | (simp only [List.length_append, List.length_cons, List.length_nil]; omega) | (intros; first | omega | assumption | (simp_all; done) | grind)) ?_   -- r35.35
              refine hK47 _ _ ?_ ⟨q + 1, (fd || decide (C.getD q default = (rtS c.fTrips i (atN c.fProgress i)))), rfl, ?_, ?_, ?_⟩   -- L5.0
              · first | assumption | omega | (simp only [List.length_append, List.length_cons, List.length_nil] at *; omega) | (simp_all; done)   -- L5.0.meas
              · first | assumption | omega | (simp only [List.length_append, List.length_cons, List.length_nil] at *; omega) | (simp_all; done)   -- L5.0.inv0
              · intro q1 h he; rcases Nat.lt_or_eq_of_le (Nat.le_of_lt_succ h) with g | rfl   -- L5.0.inv1
                · simp [l5_1 q1 g he]
                · rw [decide_eq_true he, Bool.or_true]
              · simp (disch := omega) only [go_sem, ↓reduceIte, Nat.reduceEqDiff, Nat.reduceLT, Nat.reduceLeDiff, Nat.reduceAdd, Nat.reduceSub, Nat.reduceMul, reduceCtorEq, Int.reduceToNat, Int.reduceNeg, hR] <;> first | rfl | omega | simp | simp_all   -- L5.0.env
            · try simp only [decide_eq_true_eq, decide_eq_false_iff_not, Bool.not_eq_true', Bool.not_eq_false', beq_iff_eq, bne_iff_ne, beq_eq_false_iff_ne, bne_eq_false_iff_eq, Bool.not_eq_true, Bool.not_eq_false, Int.not_lt, Int.not_le, Nat.not_lt, Nat.not_le, ne_eq, Int.ofNat_inj, Bool.and_eq_true, Bool.or_eq_true, Bool.and_eq_false_iff, Bool.or_eq_false_iff, Bool.not_eq_eq_eq_not, Bool.not_true, Bool.not_false] at c8   -- c8.f
              refine aw_exit ?_
              refine hK45 _ ?_; clear hK45
              refine aw_seq fun K52 hK52 => ?_
              refine aw_reg [3, 4, 5, 7, 17, 22, 39, 50, 77, 78, 79, 80] (by kernel_rfl) ?_   -- r36.36
              simp (disch := omega) only [go_sem, ↓reduceIte, Nat.reduceEqDiff, Nat.reduceLT, Nat.reduceLeDiff, Nat.reduceAdd, Nat.reduceSub, Nat.reduceMul, reduceCtorEq, Int.reduceToNat, Int.reduceNeg, hR]
              repeat refine And.intro (by first | omega | assumption | (simp only [List.length_append, List.length_cons, List.length_nil]; omega) | (intros; first | omega | assumption | (simp_all; done) | grind)) ?_   -- r36.36
              refine hK52 _ ?_; clear hK52
              refine aw_cond _ (by rfl) (rfl) (fun c9 => ?_) (fun c9 => ?_)   -- c9
              · try simp only [decide_eq_true_eq, decide_eq_false_iff_not, Bool.not_eq_true', Bool.not_eq_false', beq_iff_eq, bne_iff_ne, beq_eq_false_iff_ne, bne_eq_false_iff_eq, Bool.not_eq_true, Bool.not_eq_false, Int.not_lt, Int.not_le, Nat.not_lt, Nat.not_le, ne_eq, Int.ofNat_inj, Bool.and_eq_true, Bool.or_eq_true, Bool.and_eq_false_iff, Bool.or_eq_false_iff, Bool.not_eq_eq_eq_not, Bool.not_true, Bool.not_false] at c9   -- c9.t
                exfalso
                obtain ⟨hx, hnc⟩ := l3_1 c9.1
                have hp := freeP (t := t) (s := s) (tr := c.fTrips) (now := c.fNow) (st := c.fPlan.fStarts) (pr := c.fProgress) (i := i) c5.1 hx.1 hx.2 c5.2 (fun k hk hki m hm => hnc.1 k (by omega) hki m hm)
                have hm := hMm i c4 hp
                obtain ⟨q1, hq1, he⟩ := List.getElem_of_mem hm
                have h5 := l5_1 q1 (by omega) (by rw [List.getD_eq_getElem?_getD, List.getElem?_eq_getElem hq1]; exact he)
                rw [h5] at c9; simp at c9
              · try simp only [decide_eq_true_eq, decide_eq_false_iff_not, Bool.not_eq_true', Bool.not_eq_false', beq_iff_eq, bne_iff_ne, beq_eq_false_iff_ne, bne_eq_false_iff_eq, Bool.not_eq_true, Bool.not_eq_false, Int.not_lt, Int.not_le, Nat.not_lt, Nat.not_le, ne_eq, Int.ofNat_inj, Bool.and_eq_true, Bool.or_eq_true, Bool.and_eq_false_iff, Bool.or_eq_false_iff, Bool.not_eq_eq_eq_not, Bool.not_true, Bool.not_false] at c9   -- c9.f
                refine aw_skip ?_
                refine hK24 _ ?_; clear hK24
                refine aw_reg [3, 4, 5, 7, 39, 50, 77, 78, 79, 80] (by kernel_rfl) ?_   -- r38.37
                simp (disch := omega) only [go_sem, ↓reduceIte, Nat.reduceEqDiff, Nat.reduceLT, Nat.reduceLeDiff, Nat.reduceAdd, Nat.reduceSub, Nat.reduceMul, reduceCtorEq, Int.reduceToNat, Int.reduceNeg, hR]
                repeat refine And.intro (by first | omega | assumption | (simp only [List.length_append, List.length_cons, List.length_nil]; omega) | (intros; first | omega | assumption | (simp_all; done) | grind)) ?_   -- r38.37
                refine hK21 _ _ ?_ ⟨i + 1, rfl, ?_, ?_⟩   -- L2.1
                · first | assumption | omega | (simp only [List.length_append, List.length_cons, List.length_nil] at *; omega) | (simp_all; done)   -- L2.1.meas
                · first | assumption | omega | (simp only [List.length_append, List.length_cons, List.length_nil] at *; omega) | (simp_all; done)   -- L2.1.inv0
                · simp (disch := omega) only [go_sem, ↓reduceIte, Nat.reduceEqDiff, Nat.reduceLT, Nat.reduceLeDiff, Nat.reduceAdd, Nat.reduceSub, Nat.reduceMul, reduceCtorEq, Int.reduceToNat, Int.reduceNeg, hR] <;> first | rfl | omega | simp | simp_all   -- L2.1.env
      · try simp only [decide_eq_true_eq, decide_eq_false_iff_not, Bool.not_eq_true', Bool.not_eq_false', beq_iff_eq, bne_iff_ne, beq_eq_false_iff_ne, bne_eq_false_iff_eq, Bool.not_eq_true, Bool.not_eq_false, Int.not_lt, Int.not_le, Nat.not_lt, Nat.not_le, ne_eq, Int.ofNat_inj, Bool.and_eq_true, Bool.or_eq_true, Bool.and_eq_false_iff, Bool.or_eq_false_iff, Bool.not_eq_eq_eq_not, Bool.not_true, Bool.not_false] at c4   -- c4.f
        refine aw_exit ?_
        refine hK19 _ ?_; clear hK19
        refine aw_seq fun K53 hK53 => ?_
        refine aw_reg [] (by kernel_rfl) ?_   -- r39.38
        simp (disch := omega) only [go_sem, ↓reduceIte, Nat.reduceEqDiff, Nat.reduceLT, Nat.reduceLeDiff, Nat.reduceAdd, Nat.reduceSub, Nat.reduceMul, reduceCtorEq, Int.reduceToNat, Int.reduceNeg, hR]
        repeat refine And.intro (by first | omega | assumption | (simp only [List.length_append, List.length_cons, List.length_nil]; omega) | (intros; first | omega | assumption | (simp_all; done) | grind)) ?_   -- r39.38
        refine callG_of _ (alive_ok _) ?_   -- r39.38#0
        simp (disch := omega) only [go_sem, ↓reduceIte, Nat.reduceEqDiff, Nat.reduceLT, Nat.reduceLeDiff, Nat.reduceAdd, Nat.reduceSub, Nat.reduceMul, reduceCtorEq, Int.reduceToNat, Int.reduceNeg, hR]
        repeat refine And.intro (by first | omega | assumption | (simp only [List.length_append, List.length_cons, List.length_nil]; omega) | (intros; first | omega | assumption | (simp_all; done) | grind)) ?_   -- r39.38
        refine hK53 _ ?_; clear hK53
        refine aw_ret ?_
        refine ret_tmp 6 rfl (by simp (disch := omega) only [go_sem, ↓reduceIte, Nat.reduceEqDiff, Nat.reduceLT, Nat.reduceLeDiff, Nat.reduceAdd, Nat.reduceSub, Nat.reduceMul, reduceCtorEq, Int.reduceToNat, Int.reduceNeg, hR]) ?_   -- ret1
        exact Exp.is (by simp (disch := omega) only [go_sem, ↓reduceIte, Nat.reduceEqDiff, Nat.reduceLT, Nat.reduceLeDiff, Nat.reduceAdd, Nat.reduceSub, Nat.reduceMul, reduceCtorEq, Int.reduceToNat, Int.reduceNeg, hR] <;> refine congrArg vb ?_ <;> (first | assumption | omega | (simp only [List.length_append, List.length_cons, List.length_nil] at *; omega) | (simp_all; done))) rfl rfl

end Go.Sg
