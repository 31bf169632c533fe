/- Contracts of small helpers of the laws of autoroute: sizes, comparisons, progress, existence. Printed by genw.py. -/
import Derived.Test.YtgjbmlffbpcdiaaGreatSt
import Derived.Test.YtgjbmlffbpcdiaaGreatSgEnc
import Derived.Test.YtgjbmlffbpcdiaaGreatSgUse
import Derived.Test.YtgjbmlffbpcdiaaGreatSgLib
set_option linter.unusedVariables false
set_option linter.unusedSimpArgs false
set_option maxRecDepth 8000
namespace Go.Sg
open Go.Proofs
attribute [go_sem] i64id
abbrev encTr (l : List Trip) : DV := encL 2 eTrip l
abbrev encSt (l : List (List Int)) : DV := encL 1 (fun l : (List Int) => [encL 1 eI l]) l
abbrev encDc (l : List Decision) : DV := encL 5 eDecision l
def rsB (r : Route) : Bool := decide (r.fPath.length ≤ 80 ∧ r.fPoints.length ≤ 80 ∧ r.fSections.length ≤ 80 ∧ r.fOver.length ≤ 80 ∧ r.fOverPoints.length ≤ 80 ∧ r.fOverSections.length ≤ 80 ∧ r.fFlank.length ≤ 80 ∧ r.fGuards.length ≤ 80 ∧ r.fGaps.length ≤ 80)
def fewB (t : Table) : Bool := decide (t.fRoutes.length ≤ 80 ∧ t.fPoints.length ≤ 80 ∧ t.fHomes.length ≤ 80) && t.fRoutes.all rsB
def smalB (t : Table) (s : Inter) (c : Case) : Bool := (fewB t && decide (s.fRoutes.length ≤ 100 ∧ c.fTrips.length ≤ 12 ∧ c.fPlan.fStarts.length ≤ 20 ∧ c.fProgress.length ≤ 20)) && (c.fTrips.all (fun x => decide (x.fStops.length ≤ 20)) && c.fPlan.fStarts.all (fun x => decide (x.length ≤ 40)))
def exB (t : Table) (s : Inter) (r : Int) : Bool := decide (0 ≤ r) && decide (r < (t.fRoutes.length : Int)) && decide (r < (s.fRoutes.length : Int))
def atN (p : List Int) (i : Nat) : Nat := (p.getD i 0).toNat
def fitB (tr : List Trip) (st : List (List Int)) : Bool := decide (st.length = tr.length) && (List.range tr.length).all fun i => decide ((st.getD i default).length = (tr.getD i default).fStops.length)
theorem fit_t {tr : List Trip} {st : List (List Int)} (h : st.length = tr.length) (g : ∀ i, i < tr.length → (st.getD i default).length = (tr.getD i default).fStops.length) : fitB tr st = true := by
  unfold fitB; rw [decide_eq_true h, Bool.true_and, List.all_eq_true]; intro i hi; exact decide_eq_true (g i (List.mem_range.1 hi))
theorem fit_f {tr : List Trip} {st : List (List Int)} {i : Nat} (hi : i < tr.length) (g : (st.getD i default).length ≠ (tr.getD i default).fStops.length) : fitB tr st = false := by
  unfold fitB; rw [Bool.and_eq_false_iff]; right; rw [← Bool.not_eq_true, List.all_eq_true]; intro h; exact g (of_decide_eq_true (h i (List.mem_range.2 hi)))
theorem fit_of {tr : List Trip} {st : List (List Int)} (h : fitB tr st = true) : st.length = tr.length ∧ ∀ i, i < tr.length → (st.getD i default).length = (tr.getD i default).fStops.length := by
  unfold fitB at h; rw [Bool.and_eq_true, List.all_eq_true] at h
  exact ⟨of_decide_eq_true h.1, fun i hi => of_decide_eq_true (h.2 i (List.mem_range.2 hi))⟩
theorem smal_f {t : Table} {s : Inter} {c : Case} (h : (((fewB t = false ∨ 100 < s.fRoutes.length) ∨ 12 < c.fTrips.length) ∨ 20 < c.fPlan.fStarts.length) ∨ 20 < c.fProgress.length) : smalB t s c = false := by
  have hx : (fewB t && decide (s.fRoutes.length ≤ 100 ∧ c.fTrips.length ≤ 12 ∧ c.fPlan.fStarts.length ≤ 20 ∧ c.fProgress.length ≤ 20)) = false := by
    rw [Bool.and_eq_false_iff, decide_eq_false_iff_not]
    rcases h with (((h | h) | h) | h) | h
    · exact .inl h
    all_goals (right; omega)
  rw [smalB, hx]; rfl
theorem smal_t {t : Table} {s : Inter} {c : Case} (h : (((fewB t = true ∧ s.fRoutes.length ≤ 100) ∧ c.fTrips.length ≤ 12) ∧ c.fPlan.fStarts.length ≤ 20) ∧ c.fProgress.length ≤ 20) : smalB t s c = (c.fTrips.all (fun x => decide (x.fStops.length ≤ 20)) && c.fPlan.fStarts.all (fun x => decide (x.length ≤ 40))) := by
  obtain ⟨⟨⟨⟨h1, h2⟩, h3⟩, h4⟩, h5⟩ := h
  rw [smalB, h1, decide_eq_true ⟨h2, h3, h4, h5⟩, Bool.true_and, Bool.true_and]
theorem smal_of {t : Table} {s : Inter} {c : Case} (h : smalB t s c = true) : (fewB t = true ∧ s.fRoutes.length ≤ 100 ∧ c.fTrips.length ≤ 12 ∧ c.fPlan.fStarts.length ≤ 20 ∧ c.fProgress.length ≤ 20) ∧ (∀ x ∈ c.fTrips, x.fStops.length ≤ 20) ∧ ∀ x ∈ c.fPlan.fStarts, x.length ≤ 40 := by
  simp only [smalB, Bool.and_eq_true, decide_eq_true_eq, List.all_eq_true] at h
  exact ⟨⟨h.1.1, h.1.2⟩, h.2⟩
theorem few_of {t : Table} (h : fewB t = true) : t.fRoutes.length ≤ 80 ∧ ∀ r ∈ t.fRoutes, rsB r = true := by
  simp only [fewB, Bool.and_eq_true, decide_eq_true_eq, List.all_eq_true] at h
  exact ⟨h.1.1, h.2⟩
theorem at_hi {p : List Int} {i : Nat} (h : p.length ≤ i) : atN p i = 0 := by unfold atN; rw [List.getD_eq_getElem?_getD, List.getElem?_eq_none h]; rfl
theorem at_pos {p : List Int} {i : Nat} (h : 0 < p.getD i default) : p.getD i default = ((atN p i : Nat) : Int) := by unfold atN; have hd : p.getD i 0 = p.getD i default := rfl; rw [hd]; omega
theorem at_zero {p : List Int} {i : Nat} (h : i < p.length → p.getD i default ≤ 0) : (0 : Int) = ((atN p i : Nat) : Int) := by
  unfold atN; have hd : p.getD i 0 = p.getD i default := rfl
  rcases Nat.lt_or_ge i p.length with g | g
  · have := h g; rw [hd]; omega
  · rw [List.getD_eq_getElem?_getD, List.getElem?_eq_none g]; rfl
theorem at_if {p : List Int} {i : Nat} : (if 0 > p.getD i default then 0 else p.getD i default) = ((atN p i : Nat) : Int) := by
  unfold atN; have hd : p.getD i 0 = p.getD i default := rfl; rw [hd]; split <;> omega
theorem at_max {p : List Int} (i : Nat) : ((atN p i : Nat) : Int) = max (p.getD i 0) 0 := by unfold atN; omega

theorem law16_Few_ok (O : Env) (t : Table) : PCall Tryz.prog O 18 [.agg (eTable t)] (vb (fewB t)) := by
  -- signalling/signallinglaw16.Few
  refine pcall_of_aw Tryz.func18 rfl (by kernel_rfl) ?_
  refine aw_seq fun K0 hK0 => ?_
  refine aw_reg [0] (by kernel_rfl) ?_   -- r0.0
  simp (disch := omega) only [go_sem, ↓reduceIte, Nat.reduceEqDiff, Nat.reduceLT, Nat.reduceLeDiff, Nat.reduceAdd, Nat.reduceSub, Nat.reduceMul, reduceCtorEq, Int.reduceToNat, Int.reduceNeg]
  repeat refine And.intro (by first | omega | assumption | (simp only [List.length_append, List.length_cons, List.length_nil]; omega) | (intros; first | omega | assumption | (simp_all; done) | grind)) ?_   -- r0.0
  refine hK0 _ ?_; clear hK0
  refine aw_seq fun K1 hK1 => ?_
  refine aw_seq fun K2 hK2 => ?_
  refine aw_reg [1] (by kernel_rfl) ?_   -- r1.1
  simp (disch := omega) only [go_sem, ↓reduceIte, Nat.reduceEqDiff, Nat.reduceLT, Nat.reduceLeDiff, Nat.reduceAdd, Nat.reduceSub, Nat.reduceMul, reduceCtorEq, Int.reduceToNat, Int.reduceNeg]
  repeat refine And.intro (by first | omega | assumption | (simp only [List.length_append, List.length_cons, List.length_nil]; omega) | (intros; first | omega | assumption | (simp_all; done) | grind)) ?_   -- r1.1
  refine hK2 _ ?_; clear hK2
  refine aw_cond _ (by rfl) (rfl) (fun c0 => ?_) (fun c0 => ?_)   -- c0
  · try simp only [decide_eq_true_eq, decide_eq_false_iff_not, Bool.not_eq_true', Bool.not_eq_false', beq_iff_eq, bne_iff_ne, beq_eq_false_iff_ne, bne_eq_false_iff_eq, Bool.not_eq_true, Bool.not_eq_false, Int.not_lt, Int.not_le, Nat.not_lt, Nat.not_le, ne_eq, Int.ofNat_inj, Bool.and_eq_true, Bool.or_eq_true, Bool.and_eq_false_iff, Bool.or_eq_false_iff, Bool.not_eq_eq_eq_not, Bool.not_true, Bool.not_false] at c0   -- c0.t
    refine aw_seq fun K3 hK3 => ?_
    refine aw_reg [] (by kernel_rfl) ?_   -- r2.2
    simp (disch := omega) only [go_sem, ↓reduceIte, Nat.reduceEqDiff, Nat.reduceLT, Nat.reduceLeDiff, Nat.reduceAdd, Nat.reduceSub, Nat.reduceMul, reduceCtorEq, Int.reduceToNat, Int.reduceNeg]
    repeat refine And.intro (by first | omega | assumption | (simp only [List.length_append, List.length_cons, List.length_nil]; omega) | (intros; first | omega | assumption | (simp_all; done) | grind)) ?_   -- r2.2
    refine hK3 _ ?_; clear hK3
    refine aw_ret ?_
    refine ret_tmp 2 rfl (by simp (disch := omega) only [go_sem, ↓reduceIte, Nat.reduceEqDiff, Nat.reduceLT, Nat.reduceLeDiff, Nat.reduceAdd, Nat.reduceSub, Nat.reduceMul, reduceCtorEq, Int.reduceToNat, Int.reduceNeg]) ?_   -- ret0
    exact Exp.is (by simp (disch := omega) only [go_sem, ↓reduceIte, Nat.reduceEqDiff, Nat.reduceLT, Nat.reduceLeDiff, Nat.reduceAdd, Nat.reduceSub, Nat.reduceMul, reduceCtorEq, Int.reduceToNat, Int.reduceNeg] <;> refine congrArg vb ?_ <;> (rw [fewB, decide_eq_false (by omega)]; rfl)) rfl rfl
  · try simp only [decide_eq_true_eq, decide_eq_false_iff_not, Bool.not_eq_true', Bool.not_eq_false', beq_iff_eq, bne_iff_ne, beq_eq_false_iff_ne, bne_eq_false_iff_eq, Bool.not_eq_true, Bool.not_eq_false, Int.not_lt, Int.not_le, Nat.not_lt, Nat.not_le, ne_eq, Int.ofNat_inj, Bool.and_eq_true, Bool.or_eq_true, Bool.and_eq_false_iff, Bool.or_eq_false_iff, Bool.not_eq_eq_eq_not, Bool.not_true, Bool.not_false] at c0   -- c0.f
    refine aw_skip ?_
    refine hK1 _ ?_; clear hK1
    refine aw_seq fun K4 hK4 => ?_
    refine aw_seq fun K5 hK5 => ?_
    refine aw_reg [1] (by kernel_rfl) ?_   -- r3.3
    simp (disch := omega) only [go_sem, ↓reduceIte, Nat.reduceEqDiff, Nat.reduceLT, Nat.reduceLeDiff, Nat.reduceAdd, Nat.reduceSub, Nat.reduceMul, reduceCtorEq, Int.reduceToNat, Int.reduceNeg]
    repeat refine And.intro (by first | omega | assumption | (simp only [List.length_append, List.length_cons, List.length_nil]; omega) | (intros; first | omega | assumption | (simp_all; done) | grind)) ?_   -- r3.3
    refine hK5 _ ?_; clear hK5
    refine aw_block ?_
    refine aw_loopK [22, 23, 24] (fun n ρ => ∃ i, n = t.fRoutes.length - i ∧ (i ≤ t.fRoutes.length) ∧ (t.fRoutes.all rsB = (t.fRoutes.drop i).all rsB) ∧ ρ = mkE O [(22, encL 14 eRoute t.fRoutes), (23, vi (t.fRoutes.length : Nat)), (24, vi (i : Nat))]) _ ⟨0, rfl, ?_, ?_, ?_⟩ ?_   -- L0
    · first | assumption | omega | (simp only [List.length_append, List.length_cons, List.length_nil] at *; omega) | (simp_all; done)   -- L0.init.inv0
    · rfl   -- L0.init.inv1
    · simp (disch := omega) only [go_sem, ↓reduceIte, Nat.reduceEqDiff, Nat.reduceLT, Nat.reduceLeDiff, Nat.reduceAdd, Nat.reduceSub, Nat.reduceMul, reduceCtorEq, Int.reduceToNat, Int.reduceNeg] <;> first | rfl | omega | simp | simp_all   -- L0.init.env
    rintro n ρ ⟨i, rfl, l0_0, l0_1, rfl⟩ K6 hK6
    refine aw_seq fun K7 hK7 => ?_
    refine aw_reg [1, 21, 22, 23, 24] (by kernel_rfl) ?_   -- r4.4
    simp (disch := omega) only [go_sem, ↓reduceIte, Nat.reduceEqDiff, Nat.reduceLT, Nat.reduceLeDiff, Nat.reduceAdd, Nat.reduceSub, Nat.reduceMul, reduceCtorEq, Int.reduceToNat, Int.reduceNeg]
    repeat refine And.intro (by first | omega | assumption | (simp only [List.length_append, List.length_cons, List.length_nil]; omega) | (intros; first | omega | assumption | (simp_all; done) | grind)) ?_   -- r4.4
    refine hK7 _ ?_; clear hK7
    refine aw_seq fun K8 hK8 => ?_
    refine aw_cond _ (by rfl) (rfl) (fun c1 => ?_) (fun c1 => ?_)   -- c1
    · try simp only [decide_eq_true_eq, decide_eq_false_iff_not, Bool.not_eq_true', Bool.not_eq_false', beq_iff_eq, bne_iff_ne, beq_eq_false_iff_ne, bne_eq_false_iff_eq, Bool.not_eq_true, Bool.not_eq_false, Int.not_lt, Int.not_le, Nat.not_lt, Nat.not_le, ne_eq, Int.ofNat_inj, Bool.and_eq_true, Bool.or_eq_true, Bool.and_eq_false_iff, Bool.or_eq_false_iff, Bool.not_eq_eq_eq_not, Bool.not_true, Bool.not_false] at c1   -- c1.t
      refine aw_skip ?_
      refine hK8 _ ?_; clear hK8
      refine aw_seq fun K9 hK9 => ?_
      refine aw_block ?_
      refine aw_seq fun K10 hK10 => ?_
      refine aw_reg [1, 21, 22, 23, 24] (by kernel_rfl) ?_   -- r5.5
      simp (disch := omega) only [go_sem, ↓reduceIte, Nat.reduceEqDiff, Nat.reduceLT, Nat.reduceLeDiff, Nat.reduceAdd, Nat.reduceSub, Nat.reduceMul, reduceCtorEq, Int.reduceToNat, Int.reduceNeg]
      repeat refine And.intro (by first | omega | assumption | (simp only [List.length_append, List.length_cons, List.length_nil]; omega) | (intros; first | omega | assumption | (simp_all; done) | grind)) ?_   -- r5.5
      refine hK10 _ ?_; clear hK10
      refine aw_seq fun K11 hK11 => ?_
      refine aw_reg [1, 4, 21, 22, 23, 24] (by kernel_rfl) ?_   -- r6.6
      simp (disch := omega) only [go_sem, ↓reduceIte, Nat.reduceEqDiff, Nat.reduceLT, Nat.reduceLeDiff, Nat.reduceAdd, Nat.reduceSub, Nat.reduceMul, reduceCtorEq, Int.reduceToNat, Int.reduceNeg]
      repeat refine And.intro (by first | omega | assumption | (simp only [List.length_append, List.length_cons, List.length_nil]; omega) | (intros; first | omega | assumption | (simp_all; done) | grind)) ?_   -- r6.6
      refine hK11 _ ?_; clear hK11
      refine aw_cond _ (by rfl) (rfl) (fun c2 => ?_) (fun c2 => ?_)   -- c2
      · try simp only [decide_eq_true_eq, decide_eq_false_iff_not, Bool.not_eq_true', Bool.not_eq_false', beq_iff_eq, bne_iff_ne, beq_eq_false_iff_ne, bne_eq_false_iff_eq, Bool.not_eq_true, Bool.not_eq_false, Int.not_lt, Int.not_le, Nat.not_lt, Nat.not_le, ne_eq, Int.ofNat_inj, Bool.and_eq_true, Bool.or_eq_true, Bool.and_eq_false_iff, Bool.or_eq_false_iff, Bool.not_eq_eq_eq_not, Bool.not_true, Bool.not_false] at c2   -- c2.t
        refine aw_seq fun K12 hK12 => ?_
        refine aw_reg [] (by kernel_rfl) ?_   -- r7.7
        simp (disch := omega) only [go_sem, ↓reduceIte, Nat.reduceEqDiff, Nat.reduceLT, Nat.reduceLeDiff, Nat.reduceAdd, Nat.reduceSub, Nat.reduceMul, reduceCtorEq, Int.reduceToNat, Int.reduceNeg]
        repeat refine And.intro (by first | omega | assumption | (simp only [List.length_append, List.length_cons, List.length_nil]; omega) | (intros; first | omega | assumption | (simp_all; done) | grind)) ?_   -- r7.7
        refine hK12 _ ?_; clear hK12
        refine aw_ret ?_
        refine ret_tmp 2 rfl (by simp (disch := omega) only [go_sem, ↓reduceIte, Nat.reduceEqDiff, Nat.reduceLT, Nat.reduceLeDiff, Nat.reduceAdd, Nat.reduceSub, Nat.reduceMul, reduceCtorEq, Int.reduceToNat, Int.reduceNeg]) ?_   -- ret1
        exact Exp.is (by simp (disch := omega) only [go_sem, ↓reduceIte, Nat.reduceEqDiff, Nat.reduceLT, Nat.reduceLeDiff, Nat.reduceAdd, Nat.reduceSub, Nat.reduceMul, reduceCtorEq, Int.reduceToNat, Int.reduceNeg] <;> refine congrArg vb ?_ <;> (rw [fewB, l0_1, dropD default c1, List.all_cons, show rsB (t.fRoutes.getD i default) = false from decide_eq_false (by omega), Bool.false_and, Bool.and_false])) rfl rfl
      · try simp only [decide_eq_true_eq, decide_eq_false_iff_not, Bool.not_eq_true', Bool.not_eq_false', beq_iff_eq, bne_iff_ne, beq_eq_false_iff_ne, bne_eq_false_iff_eq, Bool.not_eq_true, Bool.not_eq_false, Int.not_lt, Int.not_le, Nat.not_lt, Nat.not_le, ne_eq, Int.ofNat_inj, Bool.and_eq_true, Bool.or_eq_true, Bool.and_eq_false_iff, Bool.or_eq_false_iff, Bool.not_eq_eq_eq_not, Bool.not_true, Bool.not_false] at c2   -- c2.f
        refine aw_skip ?_
        refine hK9 _ ?_; clear hK9
        refine aw_reg [1, 21, 22, 23, 24] (by kernel_rfl) ?_   -- r8.8
        simp (disch := omega) only [go_sem, ↓reduceIte, Nat.reduceEqDiff, Nat.reduceLT, Nat.reduceLeDiff, Nat.reduceAdd, Nat.reduceSub, Nat.reduceMul, reduceCtorEq, Int.reduceToNat, Int.reduceNeg]
        repeat refine And.intro (by first | omega | assumption | (simp only [List.length_append, List.length_cons, List.length_nil]; omega) | (intros; first | omega | assumption | (simp_all; done) | grind)) ?_   -- r8.8
        refine hK6 _ _ ?_ ⟨i + 1, rfl, ?_, ?_, ?_⟩   -- L0.0
        · first | assumption | omega | (simp only [List.length_append, List.length_cons, List.length_nil] at *; omega) | (simp_all; done)   -- L0.0.meas
        · first | assumption | omega | (simp only [List.length_append, List.length_cons, List.length_nil] at *; omega) | (simp_all; done)   -- L0.0.inv0
        · rw [l0_1, dropD default c1, List.all_cons, rsB, decide_eq_true (by omega), Bool.true_and]   -- L0.0.inv1
        · simp (disch := omega) only [go_sem, ↓reduceIte, Nat.reduceEqDiff, Nat.reduceLT, Nat.reduceLeDiff, Nat.reduceAdd, Nat.reduceSub, Nat.reduceMul, reduceCtorEq, Int.reduceToNat, Int.reduceNeg] <;> first | rfl | omega | simp | simp_all   -- L0.0.env
    · try simp only [decide_eq_true_eq, decide_eq_false_iff_not, Bool.not_eq_true', Bool.not_eq_false', beq_iff_eq, bne_iff_ne, beq_eq_false_iff_ne, bne_eq_false_iff_eq, Bool.not_eq_true, Bool.not_eq_false, Int.not_lt, Int.not_le, Nat.not_lt, Nat.not_le, ne_eq, Int.ofNat_inj, Bool.and_eq_true, Bool.or_eq_true, Bool.and_eq_false_iff, Bool.or_eq_false_iff, Bool.not_eq_eq_eq_not, Bool.not_true, Bool.not_false] at c1   -- c1.f
      refine aw_exit ?_
      refine hK4 _ ?_; clear hK4
      refine aw_seq fun K13 hK13 => ?_
      refine aw_reg [] (by kernel_rfl) ?_   -- r9.9
      simp (disch := omega) only [go_sem, ↓reduceIte, Nat.reduceEqDiff, Nat.reduceLT, Nat.reduceLeDiff, Nat.reduceAdd, Nat.reduceSub, Nat.reduceMul, reduceCtorEq, Int.reduceToNat, Int.reduceNeg]
      repeat refine And.intro (by first | omega | assumption | (simp only [List.length_append, List.length_cons, List.length_nil]; omega) | (intros; first | omega | assumption | (simp_all; done) | grind)) ?_   -- r9.9
      refine hK13 _ ?_; clear hK13
      refine aw_ret ?_
      refine ret_tmp 2 rfl (by simp (disch := omega) only [go_sem, ↓reduceIte, Nat.reduceEqDiff, Nat.reduceLT, Nat.reduceLeDiff, Nat.reduceAdd, Nat.reduceSub, Nat.reduceMul, reduceCtorEq, Int.reduceToNat, Int.reduceNeg]) ?_   -- ret2
      exact Exp.is (by simp (disch := omega) only [go_sem, ↓reduceIte, Nat.reduceEqDiff, Nat.reduceLT, Nat.reduceLeDiff, Nat.reduceAdd, Nat.reduceSub, Nat.reduceMul, reduceCtorEq, Int.reduceToNat, Int.reduceNeg] <;> refine congrArg vb ?_ <;> (rw [fewB, decide_eq_true (by omega), l0_1, dropE c1]; rfl)) rfl rfl

theorem law50_small_ok (O : Env) (t : Table) (s : Inter) (c : Case) : PCall Tryz.prog O 7 [.agg (eTable t), .agg (eInter s), .agg (eCase c)] (vb (smalB t s c)) := by
  -- signalling/signallinglaw50.small
  refine pcall_of_aw Tryz.func7 rfl (by kernel_rfl) ?_
  refine aw_seq fun K0 hK0 => ?_
  refine aw_reg [0, 1, 2] (by kernel_rfl) ?_   -- r0.0
  simp (disch := omega) only [go_sem, ↓reduceIte, Nat.reduceEqDiff, Nat.reduceLT, Nat.reduceLeDiff, Nat.reduceAdd, Nat.reduceSub, Nat.reduceMul, reduceCtorEq, Int.reduceToNat, Int.reduceNeg]
  repeat refine And.intro (by first | omega | assumption | (simp only [List.length_append, List.length_cons, List.length_nil]; omega) | (intros; first | omega | assumption | (simp_all; done) | grind)) ?_   -- r0.0
  refine hK0 _ ?_; clear hK0
  refine aw_seq fun K1 hK1 => ?_
  refine aw_seq fun K2 hK2 => ?_
  refine aw_reg [3, 4, 5] (by kernel_rfl) ?_   -- r1.1
  simp (disch := omega) only [go_sem, ↓reduceIte, Nat.reduceEqDiff, Nat.reduceLT, Nat.reduceLeDiff, Nat.reduceAdd, Nat.reduceSub, Nat.reduceMul, reduceCtorEq, Int.reduceToNat, Int.reduceNeg]
  repeat refine And.intro (by first | omega | assumption | (simp only [List.length_append, List.length_cons, List.length_nil]; omega) | (intros; first | omega | assumption | (simp_all; done) | grind)) ?_   -- r1.1
  refine callG_of _ (law16_Few_ok _ _) ?_   -- r1.1#0
  simp (disch := omega) only [go_sem, ↓reduceIte, Nat.reduceEqDiff, Nat.reduceLT, Nat.reduceLeDiff, Nat.reduceAdd, Nat.reduceSub, Nat.reduceMul, reduceCtorEq, Int.reduceToNat, Int.reduceNeg]
  repeat refine And.intro (by first | omega | assumption | (simp only [List.length_append, List.length_cons, List.length_nil]; omega) | (intros; first | omega | assumption | (simp_all; done) | grind)) ?_   -- r1.1
  refine hK2 _ ?_; clear hK2
  refine aw_cond _ (by rfl) (rfl) (fun c0 => ?_) (fun c0 => ?_)   -- c0
  · try simp only [decide_eq_true_eq, decide_eq_false_iff_not, Bool.not_eq_true', Bool.not_eq_false', beq_iff_eq, bne_iff_ne, beq_eq_false_iff_ne, bne_eq_false_iff_eq, Bool.not_eq_true, Bool.not_eq_false, Int.not_lt, Int.not_le, Nat.not_lt, Nat.not_le, ne_eq, Int.ofNat_inj, Bool.and_eq_true, Bool.or_eq_true, Bool.and_eq_false_iff, Bool.or_eq_false_iff, Bool.not_eq_eq_eq_not, Bool.not_true, Bool.not_false] at c0   -- c0.t
    refine aw_seq fun K3 hK3 => ?_
    refine aw_reg [] (by kernel_rfl) ?_   -- r2.2
    simp (disch := omega) only [go_sem, ↓reduceIte, Nat.reduceEqDiff, Nat.reduceLT, Nat.reduceLeDiff, Nat.reduceAdd, Nat.reduceSub, Nat.reduceMul, reduceCtorEq, Int.reduceToNat, Int.reduceNeg]
    repeat refine And.intro (by first | omega | assumption | (simp only [List.length_append, List.length_cons, List.length_nil]; omega) | (intros; first | omega | assumption | (simp_all; done) | grind)) ?_   -- r2.2
    refine hK3 _ ?_; clear hK3
    refine aw_ret ?_
    refine ret_tmp 6 rfl (by simp (disch := omega) only [go_sem, ↓reduceIte, Nat.reduceEqDiff, Nat.reduceLT, Nat.reduceLeDiff, Nat.reduceAdd, Nat.reduceSub, Nat.reduceMul, reduceCtorEq, Int.reduceToNat, Int.reduceNeg]) ?_   -- ret0
    exact Exp.is (by simp (disch := omega) only [go_sem, ↓reduceIte, Nat.reduceEqDiff, Nat.reduceLT, Nat.reduceLeDiff, Nat.reduceAdd, Nat.reduceSub, Nat.reduceMul, reduceCtorEq, Int.reduceToNat, Int.reduceNeg] <;> refine congrArg vb ?_ <;> (exact (smal_f c0).symm)) rfl rfl
  · try simp only [decide_eq_true_eq, decide_eq_false_iff_not, Bool.not_eq_true', Bool.not_eq_false', beq_iff_eq, bne_iff_ne, beq_eq_false_iff_ne, bne_eq_false_iff_eq, Bool.not_eq_true, Bool.not_eq_false, Int.not_lt, Int.not_le, Nat.not_lt, Nat.not_le, ne_eq, Int.ofNat_inj, Bool.and_eq_true, Bool.or_eq_true, Bool.and_eq_false_iff, Bool.or_eq_false_iff, Bool.not_eq_eq_eq_not, Bool.not_true, Bool.not_false] at c0   -- c0.f
    refine aw_skip ?_
    refine hK1 _ ?_; clear hK1
    refine aw_seq fun K4 hK4 => ?_
    refine aw_seq fun K5 hK5 => ?_
    refine aw_reg [5] (by kernel_rfl) ?_   -- r3.3
    simp (disch := omega) only [go_sem, ↓reduceIte, Nat.reduceEqDiff, Nat.reduceLT, Nat.reduceLeDiff, Nat.reduceAdd, Nat.reduceSub, Nat.reduceMul, reduceCtorEq, Int.reduceToNat, Int.reduceNeg]
    repeat refine And.intro (by first | omega | assumption | (simp only [List.length_append, List.length_cons, List.length_nil]; omega) | (intros; first | omega | assumption | (simp_all; done) | grind)) ?_   -- r3.3
    refine hK5 _ ?_; clear hK5
    refine aw_block ?_
    refine aw_loopK [5, 40, 41, 42] (fun n ρ => ∃ i, n = c.fTrips.length - i ∧ (i ≤ c.fTrips.length) ∧ (c.fTrips.all (fun x => decide (x.fStops.length ≤ 20)) = (c.fTrips.drop i).all (fun x => decide (x.fStops.length ≤ 20))) ∧ ρ = mkE O [(5, .bx (eCase c)), (40, encTr c.fTrips), (41, vi (c.fTrips.length : Nat)), (42, vi (i : Nat))]) _ ⟨0, rfl, ?_, ?_, ?_⟩ ?_   -- L0
    · first | assumption | omega | (simp only [List.length_append, List.length_cons, List.length_nil] at *; omega) | (simp_all; done)   -- L0.init.inv0
    · rfl   -- L0.init.inv1
    · simp (disch := omega) only [go_sem, ↓reduceIte, Nat.reduceEqDiff, Nat.reduceLT, Nat.reduceLeDiff, Nat.reduceAdd, Nat.reduceSub, Nat.reduceMul, reduceCtorEq, Int.reduceToNat, Int.reduceNeg] <;> first | rfl | omega | simp | simp_all   -- L0.init.env
    rintro n ρ ⟨i, rfl, l0_0, l0_1, rfl⟩ K6 hK6
    refine aw_seq fun K7 hK7 => ?_
    refine aw_reg [5, 39, 40, 41, 42] (by kernel_rfl) ?_   -- r4.4
    simp (disch := omega) only [go_sem, ↓reduceIte, Nat.reduceEqDiff, Nat.reduceLT, Nat.reduceLeDiff, Nat.reduceAdd, Nat.reduceSub, Nat.reduceMul, reduceCtorEq, Int.reduceToNat, Int.reduceNeg]
    repeat refine And.intro (by first | omega | assumption | (simp only [List.length_append, List.length_cons, List.length_nil]; omega) | (intros; first | omega | assumption | (simp_all; done) | grind)) ?_   -- r4.4
    refine hK7 _ ?_; clear hK7
    refine aw_seq fun K8 hK8 => ?_
    refine aw_cond _ (by rfl) (rfl) (fun c1 => ?_) (fun c1 => ?_)   -- c1
    · try simp only [decide_eq_true_eq, decide_eq_false_iff_not, Bool.not_eq_true', Bool.not_eq_false', beq_iff_eq, bne_iff_ne, beq_eq_false_iff_ne, bne_eq_false_iff_eq, Bool.not_eq_true, Bool.not_eq_false, Int.not_lt, Int.not_le, Nat.not_lt, Nat.not_le, ne_eq, Int.ofNat_inj, Bool.and_eq_true, Bool.or_eq_true, Bool.and_eq_false_iff, Bool.or_eq_false_iff, Bool.not_eq_eq_eq_not, Bool.not_true, Bool.not_false] at c1   -- c1.t
      refine aw_skip ?_
      refine hK8 _ ?_; clear hK8
      refine aw_seq fun K9 hK9 => ?_
      refine aw_block ?_
      refine aw_seq fun K10 hK10 => ?_
      refine aw_reg [5, 39, 40, 41, 42] (by kernel_rfl) ?_   -- r5.5
      simp (disch := omega) only [go_sem, ↓reduceIte, Nat.reduceEqDiff, Nat.reduceLT, Nat.reduceLeDiff, Nat.reduceAdd, Nat.reduceSub, Nat.reduceMul, reduceCtorEq, Int.reduceToNat, Int.reduceNeg]
      repeat refine And.intro (by first | omega | assumption | (simp only [List.length_append, List.length_cons, List.length_nil]; omega) | (intros; first | omega | assumption | (simp_all; done) | grind)) ?_   -- r5.5
      refine hK10 _ ?_; clear hK10
      refine aw_seq fun K11 hK11 => ?_
      refine aw_reg [5, 8, 39, 40, 41, 42] (by kernel_rfl) ?_   -- r6.6
      simp (disch := omega) only [go_sem, ↓reduceIte, Nat.reduceEqDiff, Nat.reduceLT, Nat.reduceLeDiff, Nat.reduceAdd, Nat.reduceSub, Nat.reduceMul, reduceCtorEq, Int.reduceToNat, Int.reduceNeg]
      repeat refine And.intro (by first | omega | assumption | (simp only [List.length_append, List.length_cons, List.length_nil]; omega) | (intros; first | omega | assumption | (simp_all; done) | grind)) ?_   -- r6.6
      refine hK11 _ ?_; clear hK11
      refine aw_cond _ (by rfl) (rfl) (fun c2 => ?_) (fun c2 => ?_)   -- c2
      · try simp only [decide_eq_true_eq, decide_eq_false_iff_not, Bool.not_eq_true', Bool.not_eq_false', beq_iff_eq, bne_iff_ne, beq_eq_false_iff_ne, bne_eq_false_iff_eq, Bool.not_eq_true, Bool.not_eq_false, Int.not_lt, Int.not_le, Nat.not_lt, Nat.not_le, ne_eq, Int.ofNat_inj, Bool.and_eq_true, Bool.or_eq_true, Bool.and_eq_false_iff, Bool.or_eq_false_iff, Bool.not_eq_eq_eq_not, Bool.not_true, Bool.not_false] at c2   -- c2.t
        refine aw_seq fun K12 hK12 => ?_
        refine aw_reg [] (by kernel_rfl) ?_   -- r7.7
        simp (disch := omega) only [go_sem, ↓reduceIte, Nat.reduceEqDiff, Nat.reduceLT, Nat.reduceLeDiff, Nat.reduceAdd, Nat.reduceSub, Nat.reduceMul, reduceCtorEq, Int.reduceToNat, Int.reduceNeg]
        repeat refine And.intro (by first | omega | assumption | (simp only [List.length_append, List.length_cons, List.length_nil]; omega) | (intros; first | omega | assumption | (simp_all; done) | grind)) ?_   -- r7.7
        refine hK12 _ ?_; clear hK12
        refine aw_ret ?_
        refine ret_tmp 6 rfl (by simp (disch := omega) only [go_sem, ↓reduceIte, Nat.reduceEqDiff, Nat.reduceLT, Nat.reduceLeDiff, Nat.reduceAdd, Nat.reduceSub, Nat.reduceMul, reduceCtorEq, Int.reduceToNat, Int.reduceNeg]) ?_   -- ret1
        exact Exp.is (by simp (disch := omega) only [go_sem, ↓reduceIte, Nat.reduceEqDiff, Nat.reduceLT, Nat.reduceLeDiff, Nat.reduceAdd, Nat.reduceSub, Nat.reduceMul, reduceCtorEq, Int.reduceToNat, Int.reduceNeg] <;> refine congrArg vb ?_ <;> (rw [smal_t c0, l0_1, dropD default c1, List.all_cons, decide_eq_false (by omega), Bool.false_and, Bool.false_and])) rfl rfl
      · try simp only [decide_eq_true_eq, decide_eq_false_iff_not, Bool.not_eq_true', Bool.not_eq_false', beq_iff_eq, bne_iff_ne, beq_eq_false_iff_ne, bne_eq_false_iff_eq, Bool.not_eq_true, Bool.not_eq_false, Int.not_lt, Int.not_le, Nat.not_lt, Nat.not_le, ne_eq, Int.ofNat_inj, Bool.and_eq_true, Bool.or_eq_true, Bool.and_eq_false_iff, Bool.or_eq_false_iff, Bool.not_eq_eq_eq_not, Bool.not_true, Bool.not_false] at c2   -- c2.f
        refine aw_skip ?_
        refine hK9 _ ?_; clear hK9
        refine aw_reg [5, 39, 40, 41, 42] (by kernel_rfl) ?_   -- r8.8
        simp (disch := omega) only [go_sem, ↓reduceIte, Nat.reduceEqDiff, Nat.reduceLT, Nat.reduceLeDiff, Nat.reduceAdd, Nat.reduceSub, Nat.reduceMul, reduceCtorEq, Int.reduceToNat, Int.reduceNeg]
        repeat refine And.intro (by first | omega | assumption | (simp only [List.length_append, List.length_cons, List.length_nil]; omega) | (intros; first | omega | assumption | (simp_all; done) | grind)) ?_   -- r8.8
        refine hK6 _ _ ?_ ⟨i + 1, rfl, ?_, ?_, ?_⟩   -- L0.0
        · first | assumption | omega | (simp only [List.length_append, List.length_cons, List.length_nil] at *; omega) | (simp_all; done)   -- L0.0.meas
        · first | assumption | omega | (simp only [List.length_append, List.length_cons, List.length_nil] at *; omega) | (simp_all; done)   -- L0.0.inv0
        · rw [l0_1, dropD default c1, List.all_cons, decide_eq_true (by omega), Bool.true_and]   -- L0.0.inv1
        · simp (disch := omega) only [go_sem, ↓reduceIte, Nat.reduceEqDiff, Nat.reduceLT, Nat.reduceLeDiff, Nat.reduceAdd, Nat.reduceSub, Nat.reduceMul, reduceCtorEq, Int.reduceToNat, Int.reduceNeg] <;> first | rfl | omega | simp | simp_all   -- L0.0.env
    · try simp only [decide_eq_true_eq, decide_eq_false_iff_not, Bool.not_eq_true', Bool.not_eq_false', beq_iff_eq, bne_iff_ne, beq_eq_false_iff_ne, bne_eq_false_iff_eq, Bool.not_eq_true, Bool.not_eq_false, Int.not_lt, Int.not_le, Nat.not_lt, Nat.not_le, ne_eq, Int.ofNat_inj, Bool.and_eq_true, Bool.or_eq_true, Bool.and_eq_false_iff, Bool.or_eq_false_iff, Bool.not_eq_eq_eq_not, Bool.not_true, Bool.not_false] at c1   -- c1.f
      refine aw_exit ?_
      refine hK4 _ ?_; clear hK4
      refine aw_seq fun K13 hK13 => ?_
      refine aw_seq fun K14 hK14 => ?_
      refine aw_reg [5] (by kernel_rfl) ?_   -- r9.9
      simp (disch := omega) only [go_sem, ↓reduceIte, Nat.reduceEqDiff, Nat.reduceLT, Nat.reduceLeDiff, Nat.reduceAdd, Nat.reduceSub, Nat.reduceMul, reduceCtorEq, Int.reduceToNat, Int.reduceNeg]
      repeat refine And.intro (by first | omega | assumption | (simp only [List.length_append, List.length_cons, List.length_nil]; omega) | (intros; first | omega | assumption | (simp_all; done) | grind)) ?_   -- r9.9
      refine hK14 _ ?_; clear hK14
      refine aw_block ?_
      refine aw_loopK [53, 54, 55] (fun n ρ => ∃ k, n = c.fPlan.fStarts.length - k ∧ (k ≤ c.fPlan.fStarts.length) ∧ (c.fPlan.fStarts.all (fun x => decide (x.length ≤ 40)) = (c.fPlan.fStarts.drop k).all (fun x => decide (x.length ≤ 40))) ∧ ρ = mkE O [(53, encSt c.fPlan.fStarts), (54, vi (c.fPlan.fStarts.length : Nat)), (55, vi (k : Nat))]) _ ⟨0, rfl, ?_, ?_, ?_⟩ ?_   -- L1
      · first | assumption | omega | (simp only [List.length_append, List.length_cons, List.length_nil] at *; omega) | (simp_all; done)   -- L1.init.inv0
      · rfl   -- L1.init.inv1
      · simp (disch := omega) only [go_sem, ↓reduceIte, Nat.reduceEqDiff, Nat.reduceLT, Nat.reduceLeDiff, Nat.reduceAdd, Nat.reduceSub, Nat.reduceMul, reduceCtorEq, Int.reduceToNat, Int.reduceNeg] <;> first | rfl | omega | simp | simp_all   -- L1.init.env
      rintro n ρ ⟨k, rfl, l1_0, l1_1, rfl⟩ K15 hK15
      refine aw_seq fun K16 hK16 => ?_
      refine aw_reg [5, 51, 52, 53, 54, 55] (by kernel_rfl) ?_   -- r10.10
      simp (disch := omega) only [go_sem, ↓reduceIte, Nat.reduceEqDiff, Nat.reduceLT, Nat.reduceLeDiff, Nat.reduceAdd, Nat.reduceSub, Nat.reduceMul, reduceCtorEq, Int.reduceToNat, Int.reduceNeg]
      repeat refine And.intro (by first | omega | assumption | (simp only [List.length_append, List.length_cons, List.length_nil]; omega) | (intros; first | omega | assumption | (simp_all; done) | grind)) ?_   -- r10.10
      refine hK16 _ ?_; clear hK16
      refine aw_seq fun K17 hK17 => ?_
      refine aw_cond _ (by rfl) (rfl) (fun c3 => ?_) (fun c3 => ?_)   -- c3
      · try simp only [decide_eq_true_eq, decide_eq_false_iff_not, Bool.not_eq_true', Bool.not_eq_false', beq_iff_eq, bne_iff_ne, beq_eq_false_iff_ne, bne_eq_false_iff_eq, Bool.not_eq_true, Bool.not_eq_false, Int.not_lt, Int.not_le, Nat.not_lt, Nat.not_le, ne_eq, Int.ofNat_inj, Bool.and_eq_true, Bool.or_eq_true, Bool.and_eq_false_iff, Bool.or_eq_false_iff, Bool.not_eq_eq_eq_not, Bool.not_true, Bool.not_false] at c3   -- c3.t
        refine aw_skip ?_
        refine hK17 _ ?_; clear hK17
        refine aw_seq fun K18 hK18 => ?_
        refine aw_block ?_
        refine aw_seq fun K19 hK19 => ?_
        refine aw_reg [5, 51, 52, 53, 54, 55] (by kernel_rfl) ?_   -- r11.11
        simp (disch := omega) only [go_sem, ↓reduceIte, Nat.reduceEqDiff, Nat.reduceLT, Nat.reduceLeDiff, Nat.reduceAdd, Nat.reduceSub, Nat.reduceMul, reduceCtorEq, Int.reduceToNat, Int.reduceNeg]
        repeat refine And.intro (by first | omega | assumption | (simp only [List.length_append, List.length_cons, List.length_nil]; omega) | (intros; first | omega | assumption | (simp_all; done) | grind)) ?_   -- r11.11
        refine hK19 _ ?_; clear hK19
        refine aw_seq fun K20 hK20 => ?_
        refine aw_reg [5, 10, 51, 52, 53, 54, 55, 57] (by kernel_rfl) ?_   -- r12.12
        simp (disch := omega) only [go_sem, ↓reduceIte, Nat.reduceEqDiff, Nat.reduceLT, Nat.reduceLeDiff, Nat.reduceAdd, Nat.reduceSub, Nat.reduceMul, reduceCtorEq, Int.reduceToNat, Int.reduceNeg]
        repeat refine And.intro (by first | omega | assumption | (simp only [List.length_append, List.length_cons, List.length_nil]; omega) | (intros; first | omega | assumption | (simp_all; done) | grind)) ?_   -- r12.12
        refine hK20 _ ?_; clear hK20
        refine aw_cond _ (by rfl) (rfl) (fun c4 => ?_) (fun c4 => ?_)   -- c4
        · try simp only [decide_eq_true_eq, decide_eq_false_iff_not, Bool.not_eq_true', Bool.not_eq_false', beq_iff_eq, bne_iff_ne, beq_eq_false_iff_ne, bne_eq_false_iff_eq, Bool.not_eq_true, Bool.not_eq_false, Int.not_lt, Int.not_le, Nat.not_lt, Nat.not_le, ne_eq, Int.ofNat_inj, Bool.and_eq_true, Bool.or_eq_true, Bool.and_eq_false_iff, Bool.or_eq_false_iff, Bool.not_eq_eq_eq_not, Bool.not_true, Bool.not_false] at c4   -- c4.t
          refine aw_seq fun K21 hK21 => ?_
          refine aw_reg [] (by kernel_rfl) ?_   -- r13.13
          simp (disch := omega) only [go_sem, ↓reduceIte, Nat.reduceEqDiff, Nat.reduceLT, Nat.reduceLeDiff, Nat.reduceAdd, Nat.reduceSub, Nat.reduceMul, reduceCtorEq, Int.reduceToNat, Int.reduceNeg]
          repeat refine And.intro (by first | omega | assumption | (simp only [List.length_append, List.length_cons, List.length_nil]; omega) | (intros; first | omega | assumption | (simp_all; done) | grind)) ?_   -- r13.13
          refine hK21 _ ?_; clear hK21
          refine aw_ret ?_
          refine ret_tmp 6 rfl (by simp (disch := omega) only [go_sem, ↓reduceIte, Nat.reduceEqDiff, Nat.reduceLT, Nat.reduceLeDiff, Nat.reduceAdd, Nat.reduceSub, Nat.reduceMul, reduceCtorEq, Int.reduceToNat, Int.reduceNeg]) ?_   -- ret2
          exact Exp.is (by simp (disch := omega) only [go_sem, ↓reduceIte, Nat.reduceEqDiff, Nat.reduceLT, Nat.reduceLeDiff, Nat.reduceAdd, Nat.reduceSub, Nat.reduceMul, reduceCtorEq, Int.reduceToNat, Int.reduceNeg] <;> refine congrArg vb ?_ <;> (rw [smal_t c0, l1_1, dropD default c3, List.all_cons, decide_eq_false (by omega), Bool.false_and, Bool.and_false])) rfl rfl
        · try simp only [decide_eq_true_eq, decide_eq_false_iff_not, Bool.not_eq_true', Bool.not_eq_false', beq_iff_eq, bne_iff_ne, beq_eq_false_iff_ne, bne_eq_false_iff_eq, Bool.not_eq_true, Bool.not_eq_false, Int.not_lt, Int.not_le, Nat.not_lt, Nat.not_le, ne_eq, Int.ofNat_inj, Bool.and_eq_true, Bool.or_eq_true, Bool.and_eq_false_iff, Bool.or_eq_false_iff, Bool.not_eq_eq_eq_not, Bool.not_true, Bool.not_false] at c4   -- c4.f
          refine aw_skip ?_
          refine hK18 _ ?_; clear hK18
          refine aw_reg [5, 51, 52, 53, 54, 55] (by kernel_rfl) ?_   -- r14.14
          simp (disch := omega) only [go_sem, ↓reduceIte, Nat.reduceEqDiff, Nat.reduceLT, Nat.reduceLeDiff, Nat.reduceAdd, Nat.reduceSub, Nat.reduceMul, reduceCtorEq, Int.reduceToNat, Int.reduceNeg]
          repeat refine And.intro (by first | omega | assumption | (simp only [List.length_append, List.length_cons, List.length_nil]; omega) | (intros; first | omega | assumption | (simp_all; done) | grind)) ?_   -- r14.14
          refine hK15 _ _ ?_ ⟨k + 1, rfl, ?_, ?_, ?_⟩   -- L1.0
          · first | assumption | omega | (simp only [List.length_append, List.length_cons, List.length_nil] at *; omega) | (simp_all; done)   -- L1.0.meas
          · first | assumption | omega | (simp only [List.length_append, List.length_cons, List.length_nil] at *; omega) | (simp_all; done)   -- L1.0.inv0
          · rw [l1_1, dropD default c3, List.all_cons, decide_eq_true (by omega), Bool.true_and]   -- L1.0.inv1
          · simp (disch := omega) only [go_sem, ↓reduceIte, Nat.reduceEqDiff, Nat.reduceLT, Nat.reduceLeDiff, Nat.reduceAdd, Nat.reduceSub, Nat.reduceMul, reduceCtorEq, Int.reduceToNat, Int.reduceNeg] <;> first | rfl | omega | simp | simp_all   -- L1.0.env
      · try simp only [decide_eq_true_eq, decide_eq_false_iff_not, Bool.not_eq_true', Bool.not_eq_false', beq_iff_eq, bne_iff_ne, beq_eq_false_iff_ne, bne_eq_false_iff_eq, Bool.not_eq_true, Bool.not_eq_false, Int.not_lt, Int.not_le, Nat.not_lt, Nat.not_le, ne_eq, Int.ofNat_inj, Bool.and_eq_true, Bool.or_eq_true, Bool.and_eq_false_iff, Bool.or_eq_false_iff, Bool.not_eq_eq_eq_not, Bool.not_true, Bool.not_false] at c3   -- c3.f
        refine aw_exit ?_
        refine hK13 _ ?_; clear hK13
        refine aw_seq fun K22 hK22 => ?_
        refine aw_reg [] (by kernel_rfl) ?_   -- r15.15
        simp (disch := omega) only [go_sem, ↓reduceIte, Nat.reduceEqDiff, Nat.reduceLT, Nat.reduceLeDiff, Nat.reduceAdd, Nat.reduceSub, Nat.reduceMul, reduceCtorEq, Int.reduceToNat, Int.reduceNeg]
        repeat refine And.intro (by first | omega | assumption | (simp only [List.length_append, List.length_cons, List.length_nil]; omega) | (intros; first | omega | assumption | (simp_all; done) | grind)) ?_   -- r15.15
        refine hK22 _ ?_; clear hK22
        refine aw_ret ?_
        refine ret_tmp 6 rfl (by simp (disch := omega) only [go_sem, ↓reduceIte, Nat.reduceEqDiff, Nat.reduceLT, Nat.reduceLeDiff, Nat.reduceAdd, Nat.reduceSub, Nat.reduceMul, reduceCtorEq, Int.reduceToNat, Int.reduceNeg]) ?_   -- ret3
        exact Exp.is (by simp (disch := omega) only [go_sem, ↓reduceIte, Nat.reduceEqDiff, Nat.reduceLT, Nat.reduceLeDiff, Nat.reduceAdd, Nat.reduceSub, Nat.reduceMul, reduceCtorEq, Int.reduceToNat, Int.reduceNeg] <;> refine congrArg vb ?_ <;> (rw [smal_t c0, l0_1, dropE c1, l1_1, dropE c3]; rfl)) rfl rfl

theorem ref07_SameInts_ok (O : Env) (a b : List Int) : PCall Tryz.prog O 11 [encI a, encI b] (vb (a == b)) := by
  -- signalling/signallingref07.SameInts
  refine pcall_has 0 rfl (.sl _ _ _) fun ha => ?_
  refine pcall_has 1 rfl (.sl _ _ _) fun hb => ?_
  refine pcall_of_aw Tryz.func11 rfl (by kernel_rfl) ?_
  refine aw_seq fun K0 hK0 => ?_
  refine aw_reg [0, 1] (by kernel_rfl) ?_   -- r0.0
  simp (disch := omega) only [go_sem, ↓reduceIte, Nat.reduceEqDiff, Nat.reduceLT, Nat.reduceLeDiff, Nat.reduceAdd, Nat.reduceSub, Nat.reduceMul, reduceCtorEq, Int.reduceToNat, Int.reduceNeg]
  repeat refine And.intro (by first | omega | assumption | (simp only [List.length_append, List.length_cons, List.length_nil]; omega) | (intros; first | omega | assumption | (simp_all; done) | grind)) ?_   -- r0.0
  refine hK0 _ ?_; clear hK0
  refine aw_seq fun K1 hK1 => ?_
  refine aw_seq fun K2 hK2 => ?_
  refine aw_reg [0, 1] (by kernel_rfl) ?_   -- r1.1
  simp (disch := omega) only [go_sem, ↓reduceIte, Nat.reduceEqDiff, Nat.reduceLT, Nat.reduceLeDiff, Nat.reduceAdd, Nat.reduceSub, Nat.reduceMul, reduceCtorEq, Int.reduceToNat, Int.reduceNeg]
  repeat refine And.intro (by first | omega | assumption | (simp only [List.length_append, List.length_cons, List.length_nil]; omega) | (intros; first | omega | assumption | (simp_all; done) | grind)) ?_   -- r1.1
  refine hK2 _ ?_; clear hK2
  refine aw_cond _ (by rfl) (rfl) (fun c0 => ?_) (fun c0 => ?_)   -- c0
  · try simp only [decide_eq_true_eq, decide_eq_false_iff_not, Bool.not_eq_true', Bool.not_eq_false', beq_iff_eq, bne_iff_ne, beq_eq_false_iff_ne, bne_eq_false_iff_eq, Bool.not_eq_true, Bool.not_eq_false, Int.not_lt, Int.not_le, Nat.not_lt, Nat.not_le, ne_eq, Int.ofNat_inj, Bool.and_eq_true, Bool.or_eq_true, Bool.and_eq_false_iff, Bool.or_eq_false_iff, Bool.not_eq_eq_eq_not, Bool.not_true, Bool.not_false] at c0   -- c0.t
    refine aw_seq fun K3 hK3 => ?_
    refine aw_reg [] (by kernel_rfl) ?_   -- r2.2
    simp (disch := omega) only [go_sem, ↓reduceIte, Nat.reduceEqDiff, Nat.reduceLT, Nat.reduceLeDiff, Nat.reduceAdd, Nat.reduceSub, Nat.reduceMul, reduceCtorEq, Int.reduceToNat, Int.reduceNeg]
    repeat refine And.intro (by first | omega | assumption | (simp only [List.length_append, List.length_cons, List.length_nil]; omega) | (intros; first | omega | assumption | (simp_all; done) | grind)) ?_   -- r2.2
    refine hK3 _ ?_; clear hK3
    refine aw_ret ?_
    refine ret_tmp 4 rfl (by simp (disch := omega) only [go_sem, ↓reduceIte, Nat.reduceEqDiff, Nat.reduceLT, Nat.reduceLeDiff, Nat.reduceAdd, Nat.reduceSub, Nat.reduceMul, reduceCtorEq, Int.reduceToNat, Int.reduceNeg]) ?_   -- ret0
    exact Exp.is (by simp (disch := omega) only [go_sem, ↓reduceIte, Nat.reduceEqDiff, Nat.reduceLT, Nat.reduceLeDiff, Nat.reduceAdd, Nat.reduceSub, Nat.reduceMul, reduceCtorEq, Int.reduceToNat, Int.reduceNeg] <;> refine congrArg vb ?_ <;> (symm; rw [beq_eq_false_iff_ne]; intro h; exact c0 (by rw [h]))) rfl rfl
  · try simp only [decide_eq_true_eq, decide_eq_false_iff_not, Bool.not_eq_true', Bool.not_eq_false', beq_iff_eq, bne_iff_ne, beq_eq_false_iff_ne, bne_eq_false_iff_eq, Bool.not_eq_true, Bool.not_eq_false, Int.not_lt, Int.not_le, Nat.not_lt, Nat.not_le, ne_eq, Int.ofNat_inj, Bool.and_eq_true, Bool.or_eq_true, Bool.and_eq_false_iff, Bool.or_eq_false_iff, Bool.not_eq_eq_eq_not, Bool.not_true, Bool.not_false] at c0   -- c0.f
    refine aw_skip ?_
    refine hK1 _ ?_; clear hK1
    refine aw_seq fun K4 hK4 => ?_
    refine aw_seq fun K5 hK5 => ?_
    refine aw_reg [0, 1] (by kernel_rfl) ?_   -- r3.3
    simp (disch := omega) only [go_sem, ↓reduceIte, Nat.reduceEqDiff, Nat.reduceLT, Nat.reduceLeDiff, Nat.reduceAdd, Nat.reduceSub, Nat.reduceMul, reduceCtorEq, Int.reduceToNat, Int.reduceNeg]
    repeat refine And.intro (by first | omega | assumption | (simp only [List.length_append, List.length_cons, List.length_nil]; omega) | (intros; first | omega | assumption | (simp_all; done) | grind)) ?_   -- r3.3
    refine hK5 _ ?_; clear hK5
    refine aw_block ?_
    refine aw_loopK [0, 1, 12, 13] (fun n ρ => ∃ i, n = a.length - i ∧ (i ≤ a.length) ∧ ((a == b) = (a.drop i == b.drop i)) ∧ ρ = mkE O [(0, encI a), (1, encI b), (12, vi (a.length : Nat)), (13, vi (i : Nat))]) _ ⟨0, rfl, ?_, ?_, ?_⟩ ?_   -- L0
    · first | assumption | omega | (simp only [List.length_append, List.length_cons, List.length_nil] at *; omega) | (simp_all; done)   -- L0.init.inv0
    · rfl   -- L0.init.inv1
    · simp (disch := omega) only [go_sem, ↓reduceIte, Nat.reduceEqDiff, Nat.reduceLT, Nat.reduceLeDiff, Nat.reduceAdd, Nat.reduceSub, Nat.reduceMul, reduceCtorEq, Int.reduceToNat, Int.reduceNeg] <;> first | rfl | omega | simp | simp_all   -- L0.init.env
    rintro n ρ ⟨i, rfl, l0_0, l0_1, rfl⟩ K6 hK6
    refine aw_seq fun K7 hK7 => ?_
    refine aw_reg [0, 1, 12, 13] (by kernel_rfl) ?_   -- r4.4
    simp (disch := omega) only [go_sem, ↓reduceIte, Nat.reduceEqDiff, Nat.reduceLT, Nat.reduceLeDiff, Nat.reduceAdd, Nat.reduceSub, Nat.reduceMul, reduceCtorEq, Int.reduceToNat, Int.reduceNeg]
    repeat refine And.intro (by first | omega | assumption | (simp only [List.length_append, List.length_cons, List.length_nil]; omega) | (intros; first | omega | assumption | (simp_all; done) | grind)) ?_   -- r4.4
    refine hK7 _ ?_; clear hK7
    refine aw_seq fun K8 hK8 => ?_
    refine aw_cond _ (by rfl) (rfl) (fun c1 => ?_) (fun c1 => ?_)   -- c1
    · try simp only [decide_eq_true_eq, decide_eq_false_iff_not, Bool.not_eq_true', Bool.not_eq_false', beq_iff_eq, bne_iff_ne, beq_eq_false_iff_ne, bne_eq_false_iff_eq, Bool.not_eq_true, Bool.not_eq_false, Int.not_lt, Int.not_le, Nat.not_lt, Nat.not_le, ne_eq, Int.ofNat_inj, Bool.and_eq_true, Bool.or_eq_true, Bool.and_eq_false_iff, Bool.or_eq_false_iff, Bool.not_eq_eq_eq_not, Bool.not_true, Bool.not_false] at c1   -- c1.t
      refine aw_skip ?_
      refine hK8 _ ?_; clear hK8
      refine aw_seq fun K9 hK9 => ?_
      refine aw_block ?_
      refine aw_seq fun K10 hK10 => ?_
      refine aw_reg [0, 1, 12, 13] (by kernel_rfl) ?_   -- r5.5
      simp (disch := omega) only [go_sem, ↓reduceIte, Nat.reduceEqDiff, Nat.reduceLT, Nat.reduceLeDiff, Nat.reduceAdd, Nat.reduceSub, Nat.reduceMul, reduceCtorEq, Int.reduceToNat, Int.reduceNeg]
      repeat refine And.intro (by first | omega | assumption | (simp only [List.length_append, List.length_cons, List.length_nil]; omega) | (intros; first | omega | assumption | (simp_all; done) | grind)) ?_   -- r5.5
      refine hK10 _ ?_; clear hK10
      refine aw_seq fun K11 hK11 => ?_
      refine aw_regDc [0, 1, 5, 12, 13] [] mixed (by kernel_rfl) ?_   -- r6.6
      simp (disch := omega) only [go_sem, ↓reduceIte, Nat.reduceEqDiff, Nat.reduceLT, Nat.reduceLeDiff, Nat.reduceAdd, Nat.reduceSub, Nat.reduceMul, reduceCtorEq, Int.reduceToNat, Int.reduceNeg]
      repeat refine And.intro (by first | omega | assumption | (simp only [List.length_append, List.length_cons, List.length_nil]; omega) | (intros; first | omega | assumption | (simp_all; done) | grind)) ?_   -- r6.6
      refine hK11 _ ?_; clear hK11
      refine aw_cond _ (by rfl) (rfl) (fun c2 => ?_) (fun c2 => ?_)   -- c2
      · try simp only [decide_eq_true_eq, decide_eq_false_iff_not, Bool.not_eq_true', Bool.not_eq_false', beq_iff_eq, bne_iff_ne, beq_eq_false_iff_ne, bne_eq_false_iff_eq, Bool.not_eq_true, Bool.not_eq_false, Int.not_lt, Int.not_le, Nat.not_lt, Nat.not_le, ne_eq, Int.ofNat_inj, Bool.and_eq_true, Bool.or_eq_true, Bool.and_eq_false_iff, Bool.or_eq_false_iff, Bool.not_eq_eq_eq_not, Bool.not_true, Bool.not_false] at c2   -- c2.t
        refine aw_seq fun K12 hK12 => ?_
        refine aw_reg [] (by kernel_rfl) ?_   -- r7.7
        simp (disch := omega) only [go_sem, ↓reduceIte, Nat.reduceEqDiff, Nat.reduceLT, Nat.reduceLeDiff, Nat.reduceAdd, Nat.reduceSub, Nat.reduceMul, reduceCtorEq, Int.reduceToNat, Int.reduceNeg]
        repeat refine And.intro (by first | omega | assumption | (simp only [List.length_append, List.length_cons, List.length_nil]; omega) | (intros; first | omega | assumption | (simp_all; done) | grind)) ?_   -- r7.7
        refine hK12 _ ?_; clear hK12
        refine aw_ret ?_
        refine ret_tmp 4 rfl (by simp (disch := omega) only [go_sem, ↓reduceIte, Nat.reduceEqDiff, Nat.reduceLT, Nat.reduceLeDiff, Nat.reduceAdd, Nat.reduceSub, Nat.reduceMul, reduceCtorEq, Int.reduceToNat, Int.reduceNeg]) ?_   -- ret1
        exact Exp.is (by simp (disch := omega) only [go_sem, ↓reduceIte, Nat.reduceEqDiff, Nat.reduceLT, Nat.reduceLeDiff, Nat.reduceAdd, Nat.reduceSub, Nat.reduceMul, reduceCtorEq, Int.reduceToNat, Int.reduceNeg] <;> refine congrArg vb ?_ <;> (rw [l0_1, dropD default c1, dropD default (show i < b.length by omega)]; symm; rw [beq_eq_false_iff_ne]; intro h; exact c2 (by injection h))) rfl rfl
      · try simp only [decide_eq_true_eq, decide_eq_false_iff_not, Bool.not_eq_true', Bool.not_eq_false', beq_iff_eq, bne_iff_ne, beq_eq_false_iff_ne, bne_eq_false_iff_eq, Bool.not_eq_true, Bool.not_eq_false, Int.not_lt, Int.not_le, Nat.not_lt, Nat.not_le, ne_eq, Int.ofNat_inj, Bool.and_eq_true, Bool.or_eq_true, Bool.and_eq_false_iff, Bool.or_eq_false_iff, Bool.not_eq_eq_eq_not, Bool.not_true, Bool.not_false] at c2   -- c2.f
        refine aw_skip ?_
        refine hK9 _ ?_; clear hK9
        refine aw_reg [0, 1, 12, 13] (by kernel_rfl) ?_   -- r8.8
        simp (disch := omega) only [go_sem, ↓reduceIte, Nat.reduceEqDiff, Nat.reduceLT, Nat.reduceLeDiff, Nat.reduceAdd, Nat.reduceSub, Nat.reduceMul, reduceCtorEq, Int.reduceToNat, Int.reduceNeg]
        repeat refine And.intro (by first | omega | assumption | (simp only [List.length_append, List.length_cons, List.length_nil]; omega) | (intros; first | omega | assumption | (simp_all; done) | grind)) ?_   -- r8.8
        refine hK6 _ _ ?_ ⟨i + 1, rfl, ?_, ?_, ?_⟩   -- L0.0
        · first | assumption | omega | (simp only [List.length_append, List.length_cons, List.length_nil] at *; omega) | (simp_all; done)   -- L0.0.meas
        · first | assumption | omega | (simp only [List.length_append, List.length_cons, List.length_nil] at *; omega) | (simp_all; done)   -- L0.0.inv0
        · rw [l0_1, dropD default c1, dropD default (show i < b.length by omega), c2]; simp   -- L0.0.inv1
        · simp (disch := omega) only [go_sem, ↓reduceIte, Nat.reduceEqDiff, Nat.reduceLT, Nat.reduceLeDiff, Nat.reduceAdd, Nat.reduceSub, Nat.reduceMul, reduceCtorEq, Int.reduceToNat, Int.reduceNeg] <;> first | rfl | omega | simp | simp_all   -- L0.0.env
    · try simp only [decide_eq_true_eq, decide_eq_false_iff_not, Bool.not_eq_true', Bool.not_eq_false', beq_iff_eq, bne_iff_ne, beq_eq_false_iff_ne, bne_eq_false_iff_eq, Bool.not_eq_true, Bool.not_eq_false, Int.not_lt, Int.not_le, Nat.not_lt, Nat.not_le, ne_eq, Int.ofNat_inj, Bool.and_eq_true, Bool.or_eq_true, Bool.and_eq_false_iff, Bool.or_eq_false_iff, Bool.not_eq_eq_eq_not, Bool.not_true, Bool.not_false] at c1   -- c1.f
      refine aw_exit ?_
      refine hK4 _ ?_; clear hK4
      refine aw_seq fun K13 hK13 => ?_
      refine aw_reg [] (by kernel_rfl) ?_   -- r9.9
      simp (disch := omega) only [go_sem, ↓reduceIte, Nat.reduceEqDiff, Nat.reduceLT, Nat.reduceLeDiff, Nat.reduceAdd, Nat.reduceSub, Nat.reduceMul, reduceCtorEq, Int.reduceToNat, Int.reduceNeg]
      repeat refine And.intro (by first | omega | assumption | (simp only [List.length_append, List.length_cons, List.length_nil]; omega) | (intros; first | omega | assumption | (simp_all; done) | grind)) ?_   -- r9.9
      refine hK13 _ ?_; clear hK13
      refine aw_ret ?_
      refine ret_tmp 4 rfl (by simp (disch := omega) only [go_sem, ↓reduceIte, Nat.reduceEqDiff, Nat.reduceLT, Nat.reduceLeDiff, Nat.reduceAdd, Nat.reduceSub, Nat.reduceMul, reduceCtorEq, Int.reduceToNat, Int.reduceNeg]) ?_   -- ret2
      exact Exp.is (by simp (disch := omega) only [go_sem, ↓reduceIte, Nat.reduceEqDiff, Nat.reduceLT, Nat.reduceLeDiff, Nat.reduceAdd, Nat.reduceSub, Nat.reduceMul, reduceCtorEq, Int.reduceToNat, Int.reduceNeg] <;> refine congrArg vb ?_ <;> (rw [l0_1, dropE c1, dropE (by omega)]; rfl)) rfl rfl

theorem law50_same_ok (O : Env) (a b : List Decision) : PCall Tryz.prog O 12 [encDc a, encDc b] (vb (a == b)) := by
  -- signalling/signallinglaw50.same
  refine pcall_has 0 rfl (.sl _ _ _) fun ha => ?_
  refine pcall_has 1 rfl (.sl _ _ _) fun hb => ?_
  refine pcall_of_aw Tryz.func12 rfl (by kernel_rfl) ?_
  refine aw_seq fun K0 hK0 => ?_
  refine aw_reg [0, 1] (by kernel_rfl) ?_   -- r0.0
  simp (disch := omega) only [go_sem, ↓reduceIte, Nat.reduceEqDiff, Nat.reduceLT, Nat.reduceLeDiff, Nat.reduceAdd, Nat.reduceSub, Nat.reduceMul, reduceCtorEq, Int.reduceToNat, Int.reduceNeg]
  repeat refine And.intro (by first | omega | assumption | (simp only [List.length_append, List.length_cons, List.length_nil]; omega) | (intros; first | omega | assumption | (simp_all; done) | grind)) ?_   -- r0.0
  refine hK0 _ ?_; clear hK0
  refine aw_seq fun K1 hK1 => ?_
  refine aw_seq fun K2 hK2 => ?_
  refine aw_reg [0, 1] (by kernel_rfl) ?_   -- r1.1
  simp (disch := omega) only [go_sem, ↓reduceIte, Nat.reduceEqDiff, Nat.reduceLT, Nat.reduceLeDiff, Nat.reduceAdd, Nat.reduceSub, Nat.reduceMul, reduceCtorEq, Int.reduceToNat, Int.reduceNeg]
  repeat refine And.intro (by first | omega | assumption | (simp only [List.length_append, List.length_cons, List.length_nil]; omega) | (intros; first | omega | assumption | (simp_all; done) | grind)) ?_   -- r1.1
  refine hK2 _ ?_; clear hK2
  refine aw_cond _ (by rfl) (rfl) (fun c0 => ?_) (fun c0 => ?_)   -- c0
  · try simp only [decide_eq_true_eq, decide_eq_false_iff_not, Bool.not_eq_true', Bool.not_eq_false', beq_iff_eq, bne_iff_ne, beq_eq_false_iff_ne, bne_eq_false_iff_eq, Bool.not_eq_true, Bool.not_eq_false, Int.not_lt, Int.not_le, Nat.not_lt, Nat.not_le, ne_eq, Int.ofNat_inj, Bool.and_eq_true, Bool.or_eq_true, Bool.and_eq_false_iff, Bool.or_eq_false_iff, Bool.not_eq_eq_eq_not, Bool.not_true, Bool.not_false] at c0   -- c0.t
    refine aw_seq fun K3 hK3 => ?_
    refine aw_reg [] (by kernel_rfl) ?_   -- r2.2
    simp (disch := omega) only [go_sem, ↓reduceIte, Nat.reduceEqDiff, Nat.reduceLT, Nat.reduceLeDiff, Nat.reduceAdd, Nat.reduceSub, Nat.reduceMul, reduceCtorEq, Int.reduceToNat, Int.reduceNeg]
    repeat refine And.intro (by first | omega | assumption | (simp only [List.length_append, List.length_cons, List.length_nil]; omega) | (intros; first | omega | assumption | (simp_all; done) | grind)) ?_   -- r2.2
    refine hK3 _ ?_; clear hK3
    refine aw_ret ?_
    refine ret_tmp 4 rfl (by simp (disch := omega) only [go_sem, ↓reduceIte, Nat.reduceEqDiff, Nat.reduceLT, Nat.reduceLeDiff, Nat.reduceAdd, Nat.reduceSub, Nat.reduceMul, reduceCtorEq, Int.reduceToNat, Int.reduceNeg]) ?_   -- ret0
    exact Exp.is (by simp (disch := omega) only [go_sem, ↓reduceIte, Nat.reduceEqDiff, Nat.reduceLT, Nat.reduceLeDiff, Nat.reduceAdd, Nat.reduceSub, Nat.reduceMul, reduceCtorEq, Int.reduceToNat, Int.reduceNeg] <;> refine congrArg vb ?_ <;> (symm; rw [beq_eq_false_iff_ne]; intro h; exact c0 (by rw [h]))) rfl rfl
  · try simp only [decide_eq_true_eq, decide_eq_false_iff_not, Bool.not_eq_true', Bool.not_eq_false', beq_iff_eq, bne_iff_ne, beq_eq_false_iff_ne, bne_eq_false_iff_eq, Bool.not_eq_true, Bool.not_eq_false, Int.not_lt, Int.not_le, Nat.not_lt, Nat.not_le, ne_eq, Int.ofNat_inj, Bool.and_eq_true, Bool.or_eq_true, Bool.and_eq_false_iff, Bool.or_eq_false_iff, Bool.not_eq_eq_eq_not, Bool.not_true, Bool.not_false] at c0   -- c0.f
    refine aw_skip ?_
    refine hK1 _ ?_; clear hK1
    refine aw_seq fun K4 hK4 => ?_
    refine aw_seq fun K5 hK5 => ?_
    refine aw_reg [0, 1] (by kernel_rfl) ?_   -- r3.3
    simp (disch := omega) only [go_sem, ↓reduceIte, Nat.reduceEqDiff, Nat.reduceLT, Nat.reduceLeDiff, Nat.reduceAdd, Nat.reduceSub, Nat.reduceMul, reduceCtorEq, Int.reduceToNat, Int.reduceNeg]
    repeat refine And.intro (by first | omega | assumption | (simp only [List.length_append, List.length_cons, List.length_nil]; omega) | (intros; first | omega | assumption | (simp_all; done) | grind)) ?_   -- r3.3
    refine hK5 _ ?_; clear hK5
    refine aw_block ?_
    refine aw_loopK [0, 1, 12, 13] (fun n ρ => ∃ i, n = a.length - i ∧ (i ≤ a.length) ∧ ((a == b) = (a.drop i == b.drop i)) ∧ ρ = mkE O [(0, encDc a), (1, encDc b), (12, vi (a.length : Nat)), (13, vi (i : Nat))]) _ ⟨0, rfl, ?_, ?_, ?_⟩ ?_   -- L0
    · first | assumption | omega | (simp only [List.length_append, List.length_cons, List.length_nil] at *; omega) | (simp_all; done)   -- L0.init.inv0
    · rfl   -- L0.init.inv1
    · simp (disch := omega) only [go_sem, ↓reduceIte, Nat.reduceEqDiff, Nat.reduceLT, Nat.reduceLeDiff, Nat.reduceAdd, Nat.reduceSub, Nat.reduceMul, reduceCtorEq, Int.reduceToNat, Int.reduceNeg] <;> first | rfl | omega | simp | simp_all   -- L0.init.env
    rintro n ρ ⟨i, rfl, l0_0, l0_1, rfl⟩ K6 hK6
    refine aw_seq fun K7 hK7 => ?_
    refine aw_reg [0, 1, 12, 13] (by kernel_rfl) ?_   -- r4.4
    simp (disch := omega) only [go_sem, ↓reduceIte, Nat.reduceEqDiff, Nat.reduceLT, Nat.reduceLeDiff, Nat.reduceAdd, Nat.reduceSub, Nat.reduceMul, reduceCtorEq, Int.reduceToNat, Int.reduceNeg]
    repeat refine And.intro (by first | omega | assumption | (simp only [List.length_append, List.length_cons, List.length_nil]; omega) | (intros; first | omega | assumption | (simp_all; done) | grind)) ?_   -- r4.4
    refine hK7 _ ?_; clear hK7
    refine aw_seq fun K8 hK8 => ?_
    refine aw_cond _ (by rfl) (rfl) (fun c1 => ?_) (fun c1 => ?_)   -- c1
    · try simp only [decide_eq_true_eq, decide_eq_false_iff_not, Bool.not_eq_true', Bool.not_eq_false', beq_iff_eq, bne_iff_ne, beq_eq_false_iff_ne, bne_eq_false_iff_eq, Bool.not_eq_true, Bool.not_eq_false, Int.not_lt, Int.not_le, Nat.not_lt, Nat.not_le, ne_eq, Int.ofNat_inj, Bool.and_eq_true, Bool.or_eq_true, Bool.and_eq_false_iff, Bool.or_eq_false_iff, Bool.not_eq_eq_eq_not, Bool.not_true, Bool.not_false] at c1   -- c1.t
      refine aw_skip ?_
      refine hK8 _ ?_; clear hK8
      refine aw_seq fun K9 hK9 => ?_
      refine aw_block ?_
      refine aw_seq fun K10 hK10 => ?_
      refine aw_reg [0, 1, 12, 13] (by kernel_rfl) ?_   -- r5.5
      simp (disch := omega) only [go_sem, ↓reduceIte, Nat.reduceEqDiff, Nat.reduceLT, Nat.reduceLeDiff, Nat.reduceAdd, Nat.reduceSub, Nat.reduceMul, reduceCtorEq, Int.reduceToNat, Int.reduceNeg]
      repeat refine And.intro (by first | omega | assumption | (simp only [List.length_append, List.length_cons, List.length_nil]; omega) | (intros; first | omega | assumption | (simp_all; done) | grind)) ?_   -- r5.5
      refine hK10 _ ?_; clear hK10
      refine aw_seq fun K11 hK11 => ?_
      refine aw_regDc [0, 1, 5, 12, 13] [] mixed (by kernel_rfl) ?_   -- r6.6
      simp (disch := omega) only [go_sem, ↓reduceIte, Nat.reduceEqDiff, Nat.reduceLT, Nat.reduceLeDiff, Nat.reduceAdd, Nat.reduceSub, Nat.reduceMul, reduceCtorEq, Int.reduceToNat, Int.reduceNeg]
      repeat refine And.intro (by first | omega | assumption | (simp only [List.length_append, List.length_cons, List.length_nil]; omega) | (intros; first | omega | assumption | (simp_all; done) | grind)) ?_   -- r6.6
      refine hK11 _ ?_; clear hK11
      refine aw_cond _ (by rfl) (rfl) (fun c2 => ?_) (fun c2 => ?_)   -- c2
      · try simp only [decide_eq_true_eq, decide_eq_false_iff_not, Bool.not_eq_true', Bool.not_eq_false', beq_iff_eq, bne_iff_ne, beq_eq_false_iff_ne, bne_eq_false_iff_eq, Bool.not_eq_true, Bool.not_eq_false, Int.not_lt, Int.not_le, Nat.not_lt, Nat.not_le, ne_eq, Int.ofNat_inj, Bool.and_eq_true, Bool.or_eq_true, Bool.and_eq_false_iff, Bool.or_eq_false_iff, Bool.not_eq_eq_eq_not, Bool.not_true, Bool.not_false] at c2   -- c2.t
        have c2 : a.getD i default ≠ b.getD i default := (by intro h; rw [h] at c2; simp at c2)
        refine aw_seq fun K12 hK12 => ?_
        refine aw_reg [] (by kernel_rfl) ?_   -- r7.7
        simp (disch := omega) only [go_sem, ↓reduceIte, Nat.reduceEqDiff, Nat.reduceLT, Nat.reduceLeDiff, Nat.reduceAdd, Nat.reduceSub, Nat.reduceMul, reduceCtorEq, Int.reduceToNat, Int.reduceNeg]
        repeat refine And.intro (by first | omega | assumption | (simp only [List.length_append, List.length_cons, List.length_nil]; omega) | (intros; first | omega | assumption | (simp_all; done) | grind)) ?_   -- r7.7
        refine hK12 _ ?_; clear hK12
        refine aw_ret ?_
        refine ret_tmp 4 rfl (by simp (disch := omega) only [go_sem, ↓reduceIte, Nat.reduceEqDiff, Nat.reduceLT, Nat.reduceLeDiff, Nat.reduceAdd, Nat.reduceSub, Nat.reduceMul, reduceCtorEq, Int.reduceToNat, Int.reduceNeg]) ?_   -- ret1
        exact Exp.is (by simp (disch := omega) only [go_sem, ↓reduceIte, Nat.reduceEqDiff, Nat.reduceLT, Nat.reduceLeDiff, Nat.reduceAdd, Nat.reduceSub, Nat.reduceMul, reduceCtorEq, Int.reduceToNat, Int.reduceNeg] <;> refine congrArg vb ?_ <;> (rw [l0_1, dropD default c1, dropD default (show i < b.length by omega)]; symm; rw [beq_eq_false_iff_ne]; intro h; exact c2 (by injection h))) rfl rfl
      · try simp only [decide_eq_true_eq, decide_eq_false_iff_not, Bool.not_eq_true', Bool.not_eq_false', beq_iff_eq, bne_iff_ne, beq_eq_false_iff_ne, bne_eq_false_iff_eq, Bool.not_eq_true, Bool.not_eq_false, Int.not_lt, Int.not_le, Nat.not_lt, Nat.not_le, ne_eq, Int.ofNat_inj, Bool.and_eq_true, Bool.or_eq_true, Bool.and_eq_false_iff, Bool.or_eq_false_iff, Bool.not_eq_eq_eq_not, Bool.not_true, Bool.not_false] at c2   -- c2.f
        have c2 : a.getD i default = b.getD i default := (by rw [extDecision]; simpa using c2)
        refine aw_skip ?_
        refine hK9 _ ?_; clear hK9
        refine aw_reg [0, 1, 12, 13] (by kernel_rfl) ?_   -- r8.8
        simp (disch := omega) only [go_sem, ↓reduceIte, Nat.reduceEqDiff, Nat.reduceLT, Nat.reduceLeDiff, Nat.reduceAdd, Nat.reduceSub, Nat.reduceMul, reduceCtorEq, Int.reduceToNat, Int.reduceNeg]
        repeat refine And.intro (by first | omega | assumption | (simp only [List.length_append, List.length_cons, List.length_nil]; omega) | (intros; first | omega | assumption | (simp_all; done) | grind)) ?_   -- r8.8
        refine hK6 _ _ ?_ ⟨i + 1, rfl, ?_, ?_, ?_⟩   -- L0.0
        · first | assumption | omega | (simp only [List.length_append, List.length_cons, List.length_nil] at *; omega) | (simp_all; done)   -- L0.0.meas
        · first | assumption | omega | (simp only [List.length_append, List.length_cons, List.length_nil] at *; omega) | (simp_all; done)   -- L0.0.inv0
        · rw [l0_1, dropD default c1, dropD default (show i < b.length by omega), c2]; simp   -- L0.0.inv1
        · simp (disch := omega) only [go_sem, ↓reduceIte, Nat.reduceEqDiff, Nat.reduceLT, Nat.reduceLeDiff, Nat.reduceAdd, Nat.reduceSub, Nat.reduceMul, reduceCtorEq, Int.reduceToNat, Int.reduceNeg] <;> first | rfl | omega | simp | simp_all   -- L0.0.env
    · try simp only [decide_eq_true_eq, decide_eq_false_iff_not, Bool.not_eq_true', Bool.not_eq_false', beq_iff_eq, bne_iff_ne, beq_eq_false_iff_ne, bne_eq_false_iff_eq, Bool.not_eq_true, Bool.not_eq_false, Int.not_lt, Int.not_le, Nat.not_lt, Nat.not_le, ne_eq, Int.ofNat_inj, Bool.and_eq_true, Bool.or_eq_true, Bool.and_eq_false_iff, Bool.or_eq_false_iff, Bool.not_eq_eq_eq_not, Bool.not_true, Bool.not_false] at c1   -- c1.f
      refine aw_exit ?_
      refine hK4 _ ?_; clear hK4
      refine aw_seq fun K13 hK13 => ?_
      refine aw_reg [] (by kernel_rfl) ?_   -- r9.9
      simp (disch := omega) only [go_sem, ↓reduceIte, Nat.reduceEqDiff, Nat.reduceLT, Nat.reduceLeDiff, Nat.reduceAdd, Nat.reduceSub, Nat.reduceMul, reduceCtorEq, Int.reduceToNat, Int.reduceNeg]
      repeat refine And.intro (by first | omega | assumption | (simp only [List.length_append, List.length_cons, List.length_nil]; omega) | (intros; first | omega | assumption | (simp_all; done) | grind)) ?_   -- r9.9
      refine hK13 _ ?_; clear hK13
      refine aw_ret ?_
      refine ret_tmp 4 rfl (by simp (disch := omega) only [go_sem, ↓reduceIte, Nat.reduceEqDiff, Nat.reduceLT, Nat.reduceLeDiff, Nat.reduceAdd, Nat.reduceSub, Nat.reduceMul, reduceCtorEq, Int.reduceToNat, Int.reduceNeg]) ?_   -- ret2
      exact Exp.is (by simp (disch := omega) only [go_sem, ↓reduceIte, Nat.reduceEqDiff, Nat.reduceLT, Nat.reduceLeDiff, Nat.reduceAdd, Nat.reduceSub, Nat.reduceMul, reduceCtorEq, Int.reduceToNat, Int.reduceNeg] <;> refine congrArg vb ?_ <;> (rw [l0_1, dropE c1, dropE (by omega)]; rfl)) rfl rfl

theorem ref50_Fits_ok (O : Env) (tr : List Trip) (p : Schedule) : PCall Tryz.prog O 15 [encTr tr, .agg (eSchedule p)] (vb (fitB tr p.fStarts)) := by
  -- signalling/signallingref50.Fits
  refine pcall_has 0 rfl (.sl _ _ _) fun ha => ?_
  refine pcall_of_aw Tryz.func15 rfl (by kernel_rfl) ?_
  refine aw_seq fun K0 hK0 => ?_
  refine aw_reg [0, 1] (by kernel_rfl) ?_   -- r0.0
  simp (disch := omega) only [go_sem, ↓reduceIte, Nat.reduceEqDiff, Nat.reduceLT, Nat.reduceLeDiff, Nat.reduceAdd, Nat.reduceSub, Nat.reduceMul, reduceCtorEq, Int.reduceToNat, Int.reduceNeg]
  repeat refine And.intro (by first | omega | assumption | (simp only [List.length_append, List.length_cons, List.length_nil]; omega) | (intros; first | omega | assumption | (simp_all; done) | grind)) ?_   -- r0.0
  refine hK0 _ ?_; clear hK0
  refine aw_seq fun K1 hK1 => ?_
  refine aw_seq fun K2 hK2 => ?_
  refine aw_reg [0, 3] (by kernel_rfl) ?_   -- r1.1
  simp (disch := omega) only [go_sem, ↓reduceIte, Nat.reduceEqDiff, Nat.reduceLT, Nat.reduceLeDiff, Nat.reduceAdd, Nat.reduceSub, Nat.reduceMul, reduceCtorEq, Int.reduceToNat, Int.reduceNeg]
  repeat refine And.intro (by first | omega | assumption | (simp only [List.length_append, List.length_cons, List.length_nil]; omega) | (intros; first | omega | assumption | (simp_all; done) | grind)) ?_   -- r1.1
  refine hK2 _ ?_; clear hK2
  refine aw_cond _ (by rfl) (rfl) (fun c0 => ?_) (fun c0 => ?_)   -- c0
  · try simp only [decide_eq_true_eq, decide_eq_false_iff_not, Bool.not_eq_true', Bool.not_eq_false', beq_iff_eq, bne_iff_ne, beq_eq_false_iff_ne, bne_eq_false_iff_eq, Bool.not_eq_true, Bool.not_eq_false, Int.not_lt, Int.not_le, Nat.not_lt, Nat.not_le, ne_eq, Int.ofNat_inj, Bool.and_eq_true, Bool.or_eq_true, Bool.and_eq_false_iff, Bool.or_eq_false_iff, Bool.not_eq_eq_eq_not, Bool.not_true, Bool.not_false] at c0   -- c0.t
    refine aw_seq fun K3 hK3 => ?_
    refine aw_reg [] (by kernel_rfl) ?_   -- r2.2
    simp (disch := omega) only [go_sem, ↓reduceIte, Nat.reduceEqDiff, Nat.reduceLT, Nat.reduceLeDiff, Nat.reduceAdd, Nat.reduceSub, Nat.reduceMul, reduceCtorEq, Int.reduceToNat, Int.reduceNeg]
    repeat refine And.intro (by first | omega | assumption | (simp only [List.length_append, List.length_cons, List.length_nil]; omega) | (intros; first | omega | assumption | (simp_all; done) | grind)) ?_   -- r2.2
    refine hK3 _ ?_; clear hK3
    refine aw_ret ?_
    refine ret_tmp 4 rfl (by simp (disch := omega) only [go_sem, ↓reduceIte, Nat.reduceEqDiff, Nat.reduceLT, Nat.reduceLeDiff, Nat.reduceAdd, Nat.reduceSub, Nat.reduceMul, reduceCtorEq, Int.reduceToNat, Int.reduceNeg]) ?_   -- ret0
    exact Exp.is (by simp (disch := omega) only [go_sem, ↓reduceIte, Nat.reduceEqDiff, Nat.reduceLT, Nat.reduceLeDiff, Nat.reduceAdd, Nat.reduceSub, Nat.reduceMul, reduceCtorEq, Int.reduceToNat, Int.reduceNeg] <;> refine congrArg vb ?_ <;> (symm; rw [fitB, decide_eq_false (by omega)]; rfl)) rfl rfl
  · try simp only [decide_eq_true_eq, decide_eq_false_iff_not, Bool.not_eq_true', Bool.not_eq_false', beq_iff_eq, bne_iff_ne, beq_eq_false_iff_ne, bne_eq_false_iff_eq, Bool.not_eq_true, Bool.not_eq_false, Int.not_lt, Int.not_le, Nat.not_lt, Nat.not_le, ne_eq, Int.ofNat_inj, Bool.and_eq_true, Bool.or_eq_true, Bool.and_eq_false_iff, Bool.or_eq_false_iff, Bool.not_eq_eq_eq_not, Bool.not_true, Bool.not_false] at c0   -- c0.f
    refine aw_skip ?_
    refine hK1 _ ?_; clear hK1
    refine aw_seq fun K4 hK4 => ?_
    refine aw_seq fun K5 hK5 => ?_
    refine aw_reg [0, 3] (by kernel_rfl) ?_   -- r3.3
    simp (disch := omega) only [go_sem, ↓reduceIte, Nat.reduceEqDiff, Nat.reduceLT, Nat.reduceLeDiff, Nat.reduceAdd, Nat.reduceSub, Nat.reduceMul, reduceCtorEq, Int.reduceToNat, Int.reduceNeg]
    repeat refine And.intro (by first | omega | assumption | (simp only [List.length_append, List.length_cons, List.length_nil]; omega) | (intros; first | omega | assumption | (simp_all; done) | grind)) ?_   -- r3.3
    refine hK5 _ ?_; clear hK5
    refine aw_block ?_
    refine aw_loopK [0, 3, 13, 14] (fun n ρ => ∃ i, n = tr.length - i ∧ (i ≤ tr.length) ∧ (∀ j, j < i → (p.fStarts.getD j default).length = (tr.getD j default).fStops.length) ∧ ρ = mkE O [(0, encTr tr), (3, .bx (eSchedule p)), (13, vi (tr.length : Nat)), (14, vi (i : Nat))]) _ ⟨0, rfl, ?_, ?_, ?_⟩ ?_   -- L0
    · first | assumption | omega | (simp only [List.length_append, List.length_cons, List.length_nil] at *; omega) | (simp_all; done)   -- L0.init.inv0
    · intro j hj; omega   -- L0.init.inv1
    · simp (disch := omega) only [go_sem, ↓reduceIte, Nat.reduceEqDiff, Nat.reduceLT, Nat.reduceLeDiff, Nat.reduceAdd, Nat.reduceSub, Nat.reduceMul, reduceCtorEq, Int.reduceToNat, Int.reduceNeg] <;> first | rfl | omega | simp | simp_all   -- L0.init.env
    rintro n ρ ⟨i, rfl, l0_0, l0_1, rfl⟩ K6 hK6
    refine aw_seq fun K7 hK7 => ?_
    refine aw_reg [0, 3, 13, 14] (by kernel_rfl) ?_   -- r4.4
    simp (disch := omega) only [go_sem, ↓reduceIte, Nat.reduceEqDiff, Nat.reduceLT, Nat.reduceLeDiff, Nat.reduceAdd, Nat.reduceSub, Nat.reduceMul, reduceCtorEq, Int.reduceToNat, Int.reduceNeg]
    repeat refine And.intro (by first | omega | assumption | (simp only [List.length_append, List.length_cons, List.length_nil]; omega) | (intros; first | omega | assumption | (simp_all; done) | grind)) ?_   -- r4.4
    refine hK7 _ ?_; clear hK7
    refine aw_seq fun K8 hK8 => ?_
    refine aw_cond _ (by rfl) (rfl) (fun c1 => ?_) (fun c1 => ?_)   -- c1
    · try simp only [decide_eq_true_eq, decide_eq_false_iff_not, Bool.not_eq_true', Bool.not_eq_false', beq_iff_eq, bne_iff_ne, beq_eq_false_iff_ne, bne_eq_false_iff_eq, Bool.not_eq_true, Bool.not_eq_false, Int.not_lt, Int.not_le, Nat.not_lt, Nat.not_le, ne_eq, Int.ofNat_inj, Bool.and_eq_true, Bool.or_eq_true, Bool.and_eq_false_iff, Bool.or_eq_false_iff, Bool.not_eq_eq_eq_not, Bool.not_true, Bool.not_false] at c1   -- c1.t
      refine aw_skip ?_
      refine hK8 _ ?_; clear hK8
      refine aw_seq fun K9 hK9 => ?_
      refine aw_block ?_
      refine aw_seq fun K10 hK10 => ?_
      refine aw_reg [0, 3, 13, 14] (by kernel_rfl) ?_   -- r5.5
      simp (disch := omega) only [go_sem, ↓reduceIte, Nat.reduceEqDiff, Nat.reduceLT, Nat.reduceLeDiff, Nat.reduceAdd, Nat.reduceSub, Nat.reduceMul, reduceCtorEq, Int.reduceToNat, Int.reduceNeg]
      repeat refine And.intro (by first | omega | assumption | (simp only [List.length_append, List.length_cons, List.length_nil]; omega) | (intros; first | omega | assumption | (simp_all; done) | grind)) ?_   -- r5.5
      refine hK10 _ ?_; clear hK10
      refine aw_seq fun K11 hK11 => ?_
      refine aw_regDc [0, 3, 5, 13, 14] [] mixed (by kernel_rfl) ?_   -- r6.6
      simp (disch := omega) only [go_sem, ↓reduceIte, Nat.reduceEqDiff, Nat.reduceLT, Nat.reduceLeDiff, Nat.reduceAdd, Nat.reduceSub, Nat.reduceMul, reduceCtorEq, Int.reduceToNat, Int.reduceNeg]
      repeat refine And.intro (by first | omega | assumption | (simp only [List.length_append, List.length_cons, List.length_nil]; omega) | (intros; first | omega | assumption | (simp_all; done) | grind)) ?_   -- r6.6
      refine hK11 _ ?_; clear hK11
      refine aw_cond _ (by rfl) (rfl) (fun c2 => ?_) (fun c2 => ?_)   -- c2
      · try simp only [decide_eq_true_eq, decide_eq_false_iff_not, Bool.not_eq_true', Bool.not_eq_false', beq_iff_eq, bne_iff_ne, beq_eq_false_iff_ne, bne_eq_false_iff_eq, Bool.not_eq_true, Bool.not_eq_false, Int.not_lt, Int.not_le, Nat.not_lt, Nat.not_le, ne_eq, Int.ofNat_inj, Bool.and_eq_true, Bool.or_eq_true, Bool.and_eq_false_iff, Bool.or_eq_false_iff, Bool.not_eq_eq_eq_not, Bool.not_true, Bool.not_false] at c2   -- c2.t
        refine aw_seq fun K12 hK12 => ?_
        refine aw_reg [] (by kernel_rfl) ?_   -- r7.7
        simp (disch := omega) only [go_sem, ↓reduceIte, Nat.reduceEqDiff, Nat.reduceLT, Nat.reduceLeDiff, Nat.reduceAdd, Nat.reduceSub, Nat.reduceMul, reduceCtorEq, Int.reduceToNat, Int.reduceNeg]
        repeat refine And.intro (by first | omega | assumption | (simp only [List.length_append, List.length_cons, List.length_nil]; omega) | (intros; first | omega | assumption | (simp_all; done) | grind)) ?_   -- r7.7
        refine hK12 _ ?_; clear hK12
        refine aw_ret ?_
        refine ret_tmp 4 rfl (by simp (disch := omega) only [go_sem, ↓reduceIte, Nat.reduceEqDiff, Nat.reduceLT, Nat.reduceLeDiff, Nat.reduceAdd, Nat.reduceSub, Nat.reduceMul, reduceCtorEq, Int.reduceToNat, Int.reduceNeg]) ?_   -- ret1
        exact Exp.is (by simp (disch := omega) only [go_sem, ↓reduceIte, Nat.reduceEqDiff, Nat.reduceLT, Nat.reduceLeDiff, Nat.reduceAdd, Nat.reduceSub, Nat.reduceMul, reduceCtorEq, Int.reduceToNat, Int.reduceNeg] <;> refine congrArg vb ?_ <;> (exact (fit_f c1 (by omega)).symm)) rfl rfl
      · try simp only [decide_eq_true_eq, decide_eq_false_iff_not, Bool.not_eq_true', Bool.not_eq_false', beq_iff_eq, bne_iff_ne, beq_eq_false_iff_ne, bne_eq_false_iff_eq, Bool.not_eq_true, Bool.not_eq_false, Int.not_lt, Int.not_le, Nat.not_lt, Nat.not_le, ne_eq, Int.ofNat_inj, Bool.and_eq_true, Bool.or_eq_true, Bool.and_eq_false_iff, Bool.or_eq_false_iff, Bool.not_eq_eq_eq_not, Bool.not_true, Bool.not_false] at c2   -- c2.f
        refine aw_skip ?_
        refine hK9 _ ?_; clear hK9
        refine aw_reg [0, 3, 13, 14] (by kernel_rfl) ?_   -- r8.8
        simp (disch := omega) only [go_sem, ↓reduceIte, Nat.reduceEqDiff, Nat.reduceLT, Nat.reduceLeDiff, Nat.reduceAdd, Nat.reduceSub, Nat.reduceMul, reduceCtorEq, Int.reduceToNat, Int.reduceNeg]
        repeat refine And.intro (by first | omega | assumption | (simp only [List.length_append, List.length_cons, List.length_nil]; omega) | (intros; first | omega | assumption | (simp_all; done) | grind)) ?_   -- r8.8
        refine hK6 _ _ ?_ ⟨i + 1, rfl, ?_, ?_, ?_⟩   -- L0.0
        · first | assumption | omega | (simp only [List.length_append, List.length_cons, List.length_nil] at *; omega) | (simp_all; done)   -- L0.0.meas
        · first | assumption | omega | (simp only [List.length_append, List.length_cons, List.length_nil] at *; omega) | (simp_all; done)   -- L0.0.inv0
        · intro j hj; rcases Nat.lt_or_eq_of_le (Nat.le_of_lt_succ hj) with h | h   -- L0.0.inv1
          · exact l0_1 j h
          · subst h; omega
        · simp (disch := omega) only [go_sem, ↓reduceIte, Nat.reduceEqDiff, Nat.reduceLT, Nat.reduceLeDiff, Nat.reduceAdd, Nat.reduceSub, Nat.reduceMul, reduceCtorEq, Int.reduceToNat, Int.reduceNeg] <;> first | rfl | omega | simp | simp_all   -- L0.0.env
    · try simp only [decide_eq_true_eq, decide_eq_false_iff_not, Bool.not_eq_true', Bool.not_eq_false', beq_iff_eq, bne_iff_ne, beq_eq_false_iff_ne, bne_eq_false_iff_eq, Bool.not_eq_true, Bool.not_eq_false, Int.not_lt, Int.not_le, Nat.not_lt, Nat.not_le, ne_eq, Int.ofNat_inj, Bool.and_eq_true, Bool.or_eq_true, Bool.and_eq_false_iff, Bool.or_eq_false_iff, Bool.not_eq_eq_eq_not, Bool.not_true, Bool.not_false] at c1   -- c1.f
      refine aw_exit ?_
      refine hK4 _ ?_; clear hK4
      refine aw_seq fun K13 hK13 => ?_
      refine aw_reg [] (by kernel_rfl) ?_   -- r9.9
      simp (disch := omega) only [go_sem, ↓reduceIte, Nat.reduceEqDiff, Nat.reduceLT, Nat.reduceLeDiff, Nat.reduceAdd, Nat.reduceSub, Nat.reduceMul, reduceCtorEq, Int.reduceToNat, Int.reduceNeg]
      repeat refine And.intro (by first | omega | assumption | (simp only [List.length_append, List.length_cons, List.length_nil]; omega) | (intros; first | omega | assumption | (simp_all; done) | grind)) ?_   -- r9.9
      refine hK13 _ ?_; clear hK13
      refine aw_ret ?_
      refine ret_tmp 4 rfl (by simp (disch := omega) only [go_sem, ↓reduceIte, Nat.reduceEqDiff, Nat.reduceLT, Nat.reduceLeDiff, Nat.reduceAdd, Nat.reduceSub, Nat.reduceMul, reduceCtorEq, Int.reduceToNat, Int.reduceNeg]) ?_   -- ret2
      exact Exp.is (by simp (disch := omega) only [go_sem, ↓reduceIte, Nat.reduceEqDiff, Nat.reduceLT, Nat.reduceLeDiff, Nat.reduceAdd, Nat.reduceSub, Nat.reduceMul, reduceCtorEq, Int.reduceToNat, Int.reduceNeg] <;> refine congrArg vb ?_ <;> (exact (fit_t (by omega) fun i hi => l0_1 i (by omega)).symm)) rfl rfl

theorem autoroute_fits_ok (O : Env) (tr : List Trip) (p : Schedule) : PCall Tryz.prog O 22 [encTr tr, .agg (eSchedule p)] (vb (fitB tr p.fStarts)) := by
  -- signalling/autoroute.fits
  refine pcall_has 0 rfl (.sl _ _ _) fun ha => ?_
  refine pcall_of_aw Tryz.func22 rfl (by kernel_rfl) ?_
  refine aw_seq fun K0 hK0 => ?_
  refine aw_reg [0, 1] (by kernel_rfl) ?_   -- r0.0
  simp (disch := omega) only [go_sem, ↓reduceIte, Nat.reduceEqDiff, Nat.reduceLT, Nat.reduceLeDiff, Nat.reduceAdd, Nat.reduceSub, Nat.reduceMul, reduceCtorEq, Int.reduceToNat, Int.reduceNeg]
  repeat refine And.intro (by first | omega | assumption | (simp only [List.length_append, List.length_cons, List.length_nil]; omega) | (intros; first | omega | assumption | (simp_all; done) | grind)) ?_   -- r0.0
  refine hK0 _ ?_; clear hK0
  refine aw_seq fun K1 hK1 => ?_
  refine aw_seq fun K2 hK2 => ?_
  refine aw_reg [0, 3] (by kernel_rfl) ?_   -- r1.1
  simp (disch := omega) only [go_sem, ↓reduceIte, Nat.reduceEqDiff, Nat.reduceLT, Nat.reduceLeDiff, Nat.reduceAdd, Nat.reduceSub, Nat.reduceMul, reduceCtorEq, Int.reduceToNat, Int.reduceNeg]
  repeat refine And.intro (by first | omega | assumption | (simp only [List.length_append, List.length_cons, List.length_nil]; omega) | (intros; first | omega | assumption | (simp_all; done) | grind)) ?_   -- r1.1
  refine hK2 _ ?_; clear hK2
  refine aw_cond _ (by rfl) (rfl) (fun c0 => ?_) (fun c0 => ?_)   -- c0
  · try simp only [decide_eq_true_eq, decide_eq_false_iff_not, Bool.not_eq_true', Bool.not_eq_false', beq_iff_eq, bne_iff_ne, beq_eq_false_iff_ne, bne_eq_false_iff_eq, Bool.not_eq_true, Bool.not_eq_false, Int.not_lt, Int.not_le, Nat.not_lt, Nat.not_le, ne_eq, Int.ofNat_inj, Bool.and_eq_true, Bool.or_eq_true, Bool.and_eq_false_iff, Bool.or_eq_false_iff, Bool.not_eq_eq_eq_not, Bool.not_true, Bool.not_false] at c0   -- c0.t
    refine aw_seq fun K3 hK3 => ?_
    refine aw_reg [] (by kernel_rfl) ?_   -- r2.2
    simp (disch := omega) only [go_sem, ↓reduceIte, Nat.reduceEqDiff, Nat.reduceLT, Nat.reduceLeDiff, Nat.reduceAdd, Nat.reduceSub, Nat.reduceMul, reduceCtorEq, Int.reduceToNat, Int.reduceNeg]
    repeat refine And.intro (by first | omega | assumption | (simp only [List.length_append, List.length_cons, List.length_nil]; omega) | (intros; first | omega | assumption | (simp_all; done) | grind)) ?_   -- r2.2
    refine hK3 _ ?_; clear hK3
    refine aw_ret ?_
    refine ret_tmp 4 rfl (by simp (disch := omega) only [go_sem, ↓reduceIte, Nat.reduceEqDiff, Nat.reduceLT, Nat.reduceLeDiff, Nat.reduceAdd, Nat.reduceSub, Nat.reduceMul, reduceCtorEq, Int.reduceToNat, Int.reduceNeg]) ?_   -- ret0
    exact Exp.is (by simp (disch := omega) only [go_sem, ↓reduceIte, Nat.reduceEqDiff, Nat.reduceLT, Nat.reduceLeDiff, Nat.reduceAdd, Nat.reduceSub, Nat.reduceMul, reduceCtorEq, Int.reduceToNat, Int.reduceNeg] <;> refine congrArg vb ?_ <;> (symm; rw [fitB, decide_eq_false (by omega)]; rfl)) rfl rfl
  · try simp only [decide_eq_true_eq, decide_eq_false_iff_not, Bool.not_eq_true', Bool.not_eq_false', beq_iff_eq, bne_iff_ne, beq_eq_false_iff_ne, bne_eq_false_iff_eq, Bool.not_eq_true, Bool.not_eq_false, Int.not_lt, Int.not_le, Nat.not_lt, Nat.not_le, ne_eq, Int.ofNat_inj, Bool.and_eq_true, Bool.or_eq_true, Bool.and_eq_false_iff, Bool.or_eq_false_iff, Bool.not_eq_eq_eq_not, Bool.not_true, Bool.not_false] at c0   -- c0.f
    refine aw_skip ?_
    refine hK1 _ ?_; clear hK1
    refine aw_seq fun K4 hK4 => ?_
    refine aw_seq fun K5 hK5 => ?_
    refine aw_reg [0, 3] (by kernel_rfl) ?_   -- r3.3
    simp (disch := omega) only [go_sem, ↓reduceIte, Nat.reduceEqDiff, Nat.reduceLT, Nat.reduceLeDiff, Nat.reduceAdd, Nat.reduceSub, Nat.reduceMul, reduceCtorEq, Int.reduceToNat, Int.reduceNeg]
    repeat refine And.intro (by first | omega | assumption | (simp only [List.length_append, List.length_cons, List.length_nil]; omega) | (intros; first | omega | assumption | (simp_all; done) | grind)) ?_   -- r3.3
    refine hK5 _ ?_; clear hK5
    refine aw_block ?_
    refine aw_loopK [3, 13, 14, 15] (fun n ρ => ∃ i, n = tr.length - i ∧ (i ≤ tr.length) ∧ (∀ j, j < i → (p.fStarts.getD j default).length = (tr.getD j default).fStops.length) ∧ ρ = mkE O [(3, .bx (eSchedule p)), (13, encTr tr), (14, vi (tr.length : Nat)), (15, vi (i : Nat))]) _ ⟨0, rfl, ?_, ?_, ?_⟩ ?_   -- L0
    · first | assumption | omega | (simp only [List.length_append, List.length_cons, List.length_nil] at *; omega) | (simp_all; done)   -- L0.init.inv0
    · intro j hj; omega   -- L0.init.inv1
    · simp (disch := omega) only [go_sem, ↓reduceIte, Nat.reduceEqDiff, Nat.reduceLT, Nat.reduceLeDiff, Nat.reduceAdd, Nat.reduceSub, Nat.reduceMul, reduceCtorEq, Int.reduceToNat, Int.reduceNeg] <;> first | rfl | omega | simp | simp_all   -- L0.init.env
    rintro n ρ ⟨i, rfl, l0_0, l0_1, rfl⟩ K6 hK6
    refine aw_seq fun K7 hK7 => ?_
    refine aw_reg [0, 3, 13, 14, 15] (by kernel_rfl) ?_   -- r4.4
    simp (disch := omega) only [go_sem, ↓reduceIte, Nat.reduceEqDiff, Nat.reduceLT, Nat.reduceLeDiff, Nat.reduceAdd, Nat.reduceSub, Nat.reduceMul, reduceCtorEq, Int.reduceToNat, Int.reduceNeg]
    repeat refine And.intro (by first | omega | assumption | (simp only [List.length_append, List.length_cons, List.length_nil]; omega) | (intros; first | omega | assumption | (simp_all; done) | grind)) ?_   -- r4.4
    refine hK7 _ ?_; clear hK7
    refine aw_seq fun K8 hK8 => ?_
    refine aw_cond _ (by rfl) (rfl) (fun c1 => ?_) (fun c1 => ?_)   -- c1
    · try simp only [decide_eq_true_eq, decide_eq_false_iff_not, Bool.not_eq_true', Bool.not_eq_false', beq_iff_eq, bne_iff_ne, beq_eq_false_iff_ne, bne_eq_false_iff_eq, Bool.not_eq_true, Bool.not_eq_false, Int.not_lt, Int.not_le, Nat.not_lt, Nat.not_le, ne_eq, Int.ofNat_inj, Bool.and_eq_true, Bool.or_eq_true, Bool.and_eq_false_iff, Bool.or_eq_false_iff, Bool.not_eq_eq_eq_not, Bool.not_true, Bool.not_false] at c1   -- c1.t
      refine aw_skip ?_
      refine hK8 _ ?_; clear hK8
      refine aw_seq fun K9 hK9 => ?_
      refine aw_block ?_
      refine aw_seq fun K10 hK10 => ?_
      refine aw_reg [0, 3, 13, 14, 15] (by kernel_rfl) ?_   -- r5.5
      simp (disch := omega) only [go_sem, ↓reduceIte, Nat.reduceEqDiff, Nat.reduceLT, Nat.reduceLeDiff, Nat.reduceAdd, Nat.reduceSub, Nat.reduceMul, reduceCtorEq, Int.reduceToNat, Int.reduceNeg]
      repeat refine And.intro (by first | omega | assumption | (simp only [List.length_append, List.length_cons, List.length_nil]; omega) | (intros; first | omega | assumption | (simp_all; done) | grind)) ?_   -- r5.5
      refine hK10 _ ?_; clear hK10
      refine aw_seq fun K11 hK11 => ?_
      refine aw_regDc [0, 3, 5, 6, 13, 14, 15] [] mixed (by kernel_rfl) ?_   -- r6.6
      simp (disch := omega) only [go_sem, ↓reduceIte, Nat.reduceEqDiff, Nat.reduceLT, Nat.reduceLeDiff, Nat.reduceAdd, Nat.reduceSub, Nat.reduceMul, reduceCtorEq, Int.reduceToNat, Int.reduceNeg]
      repeat refine And.intro (by first | omega | assumption | (simp only [List.length_append, List.length_cons, List.length_nil]; omega) | (intros; first | omega | assumption | (simp_all; done) | grind)) ?_   -- r6.6
      refine hK11 _ ?_; clear hK11
      refine aw_cond _ (by rfl) (rfl) (fun c2 => ?_) (fun c2 => ?_)   -- c2
      · try simp only [decide_eq_true_eq, decide_eq_false_iff_not, Bool.not_eq_true', Bool.not_eq_false', beq_iff_eq, bne_iff_ne, beq_eq_false_iff_ne, bne_eq_false_iff_eq, Bool.not_eq_true, Bool.not_eq_false, Int.not_lt, Int.not_le, Nat.not_lt, Nat.not_le, ne_eq, Int.ofNat_inj, Bool.and_eq_true, Bool.or_eq_true, Bool.and_eq_false_iff, Bool.or_eq_false_iff, Bool.not_eq_eq_eq_not, Bool.not_true, Bool.not_false] at c2   -- c2.t
        refine aw_seq fun K12 hK12 => ?_
        refine aw_reg [] (by kernel_rfl) ?_   -- r7.7
        simp (disch := omega) only [go_sem, ↓reduceIte, Nat.reduceEqDiff, Nat.reduceLT, Nat.reduceLeDiff, Nat.reduceAdd, Nat.reduceSub, Nat.reduceMul, reduceCtorEq, Int.reduceToNat, Int.reduceNeg]
        repeat refine And.intro (by first | omega | assumption | (simp only [List.length_append, List.length_cons, List.length_nil]; omega) | (intros; first | omega | assumption | (simp_all; done) | grind)) ?_   -- r7.7
        refine hK12 _ ?_; clear hK12
        refine aw_ret ?_
        refine ret_tmp 4 rfl (by simp (disch := omega) only [go_sem, ↓reduceIte, Nat.reduceEqDiff, Nat.reduceLT, Nat.reduceLeDiff, Nat.reduceAdd, Nat.reduceSub, Nat.reduceMul, reduceCtorEq, Int.reduceToNat, Int.reduceNeg]) ?_   -- ret1
        exact Exp.is (by simp (disch := omega) only [go_sem, ↓reduceIte, Nat.reduceEqDiff, Nat.reduceLT, Nat.reduceLeDiff, Nat.reduceAdd, Nat.reduceSub, Nat.reduceMul, reduceCtorEq, Int.reduceToNat, Int.reduceNeg] <;> refine congrArg vb ?_ <;> (exact (fit_f c1 (by omega)).symm)) rfl rfl
      · try simp only [decide_eq_true_eq, decide_eq_false_iff_not, Bool.not_eq_true', Bool.not_eq_false', beq_iff_eq, bne_iff_ne, beq_eq_false_iff_ne, bne_eq_false_iff_eq, Bool.not_eq_true, Bool.not_eq_false, Int.not_lt, Int.not_le, Nat.not_lt, Nat.not_le, ne_eq, Int.ofNat_inj, Bool.and_eq_true, Bool.or_eq_true, Bool.and_eq_false_iff, Bool.or_eq_false_iff, Bool.not_eq_eq_eq_not, Bool.not_true, Bool.not_false] at c2   -- c2.f
        refine aw_skip ?_
        refine hK9 _ ?_; clear hK9
        refine aw_reg [0, 3, 13, 14, 15] (by kernel_rfl) ?_   -- r8.8
        simp (disch := omega) only [go_sem, ↓reduceIte, Nat.reduceEqDiff, Nat.reduceLT, Nat.reduceLeDiff, Nat.reduceAdd, Nat.reduceSub, Nat.reduceMul, reduceCtorEq, Int.reduceToNat, Int.reduceNeg]
        repeat refine And.intro (by first | omega | assumption | (simp only [List.length_append, List.length_cons, List.length_nil]; omega) | (intros; first | omega | assumption | (simp_all; done) | grind)) ?_   -- r8.8
        refine hK6 _ _ ?_ ⟨i + 1, rfl, ?_, ?_, ?_⟩   -- L0.0
        · first | assumption | omega | (simp only [List.length_append, List.length_cons, List.length_nil] at *; omega) | (simp_all; done)   -- L0.0.meas
        · first | assumption | omega | (simp only [List.length_append, List.length_cons, List.length_nil] at *; omega) | (simp_all; done)   -- L0.0.inv0
        · intro j hj; rcases Nat.lt_or_eq_of_le (Nat.le_of_lt_succ hj) with h | h   -- L0.0.inv1
          · exact l0_1 j h
          · subst h; omega
        · simp (disch := omega) only [go_sem, ↓reduceIte, Nat.reduceEqDiff, Nat.reduceLT, Nat.reduceLeDiff, Nat.reduceAdd, Nat.reduceSub, Nat.reduceMul, reduceCtorEq, Int.reduceToNat, Int.reduceNeg] <;> first | rfl | omega | simp | simp_all   -- L0.0.env
    · try simp only [decide_eq_true_eq, decide_eq_false_iff_not, Bool.not_eq_true', Bool.not_eq_false', beq_iff_eq, bne_iff_ne, beq_eq_false_iff_ne, bne_eq_false_iff_eq, Bool.not_eq_true, Bool.not_eq_false, Int.not_lt, Int.not_le, Nat.not_lt, Nat.not_le, ne_eq, Int.ofNat_inj, Bool.and_eq_true, Bool.or_eq_true, Bool.and_eq_false_iff, Bool.or_eq_false_iff, Bool.not_eq_eq_eq_not, Bool.not_true, Bool.not_false] at c1   -- c1.f
      refine aw_exit ?_
      refine hK4 _ ?_; clear hK4
      refine aw_seq fun K13 hK13 => ?_
      refine aw_reg [] (by kernel_rfl) ?_   -- r9.9
      simp (disch := omega) only [go_sem, ↓reduceIte, Nat.reduceEqDiff, Nat.reduceLT, Nat.reduceLeDiff, Nat.reduceAdd, Nat.reduceSub, Nat.reduceMul, reduceCtorEq, Int.reduceToNat, Int.reduceNeg]
      repeat refine And.intro (by first | omega | assumption | (simp only [List.length_append, List.length_cons, List.length_nil]; omega) | (intros; first | omega | assumption | (simp_all; done) | grind)) ?_   -- r9.9
      refine hK13 _ ?_; clear hK13
      refine aw_ret ?_
      refine ret_tmp 4 rfl (by simp (disch := omega) only [go_sem, ↓reduceIte, Nat.reduceEqDiff, Nat.reduceLT, Nat.reduceLeDiff, Nat.reduceAdd, Nat.reduceSub, Nat.reduceMul, reduceCtorEq, Int.reduceToNat, Int.reduceNeg]) ?_   -- ret2
      exact Exp.is (by simp (disch := omega) only [go_sem, ↓reduceIte, Nat.reduceEqDiff, Nat.reduceLT, Nat.reduceLeDiff, Nat.reduceAdd, Nat.reduceSub, Nat.reduceMul, reduceCtorEq, Int.reduceToNat, Int.reduceNeg] <;> refine congrArg vb ?_ <;> (exact (fit_t (by omega) fun i hi => l0_1 i (by omega)).symm)) rfl rfl

theorem ref50_At_ok (O : Env) (p : List Int) (i : Nat) : PCall Tryz.prog O 16 [encI p, vi (i : Nat)] (vi (atN p i : Nat)) := by
  -- signalling/signallingref50.At
  refine pcall_has 0 rfl (.sl _ _ _) fun ha => ?_
  refine pcall_of_aw Tryz.func16 rfl (by kernel_rfl) ?_
  refine aw_seq fun K0 hK0 => ?_
  refine aw_reg [0, 1] (by kernel_rfl) ?_   -- r0.0
  simp (disch := omega) only [go_sem, ↓reduceIte, Nat.reduceEqDiff, Nat.reduceLT, Nat.reduceLeDiff, Nat.reduceAdd, Nat.reduceSub, Nat.reduceMul, reduceCtorEq, Int.reduceToNat, Int.reduceNeg]
  repeat refine And.intro (by first | omega | assumption | (simp only [List.length_append, List.length_cons, List.length_nil]; omega) | (intros; first | omega | assumption | (simp_all; done) | grind)) ?_   -- r0.0
  refine hK0 _ ?_; clear hK0
  refine aw_seq fun K1 hK1 => ?_
  refine aw_seq fun K2 hK2 => ?_
  refine aw_reg [0, 1] (by kernel_rfl) ?_   -- r1.1
  simp (disch := omega) only [go_sem, ↓reduceIte, Nat.reduceEqDiff, Nat.reduceLT, Nat.reduceLeDiff, Nat.reduceAdd, Nat.reduceSub, Nat.reduceMul, reduceCtorEq, Int.reduceToNat, Int.reduceNeg]
  repeat refine And.intro (by first | omega | assumption | (simp only [List.length_append, List.length_cons, List.length_nil]; omega) | (intros; first | omega | assumption | (simp_all; done) | grind)) ?_   -- r1.1
  refine hK2 _ ?_; clear hK2
  refine aw_cond _ (by rfl) (rfl) (fun c0 => ?_) (fun c0 => ?_)   -- c0
  · try simp only [decide_eq_true_eq, decide_eq_false_iff_not, Bool.not_eq_true', Bool.not_eq_false', beq_iff_eq, bne_iff_ne, beq_eq_false_iff_ne, bne_eq_false_iff_eq, Bool.not_eq_true, Bool.not_eq_false, Int.not_lt, Int.not_le, Nat.not_lt, Nat.not_le, ne_eq, Int.ofNat_inj, Bool.and_eq_true, Bool.or_eq_true, Bool.and_eq_false_iff, Bool.or_eq_false_iff, Bool.not_eq_eq_eq_not, Bool.not_true, Bool.not_false] at c0   -- c0.t
    refine aw_seq fun K3 hK3 => ?_
    refine aw_reg [0, 1] (by kernel_rfl) ?_   -- r2.2
    simp (disch := omega) only [go_sem, ↓reduceIte, Nat.reduceEqDiff, Nat.reduceLT, Nat.reduceLeDiff, Nat.reduceAdd, Nat.reduceSub, Nat.reduceMul, reduceCtorEq, Int.reduceToNat, Int.reduceNeg]
    repeat refine And.intro (by first | omega | assumption | (simp only [List.length_append, List.length_cons, List.length_nil]; omega) | (intros; first | omega | assumption | (simp_all; done) | grind)) ?_   -- r2.2
    refine hK3 _ ?_; clear hK3
    refine aw_ret ?_
    refine ret_tmp 4 rfl (by simp (disch := omega) only [go_sem, ↓reduceIte, Nat.reduceEqDiff, Nat.reduceLT, Nat.reduceLeDiff, Nat.reduceAdd, Nat.reduceSub, Nat.reduceMul, reduceCtorEq, Int.reduceToNat, Int.reduceNeg]) ?_   -- ret0
    exact Exp.is (by simp (disch := omega) only [go_sem, ↓reduceIte, Nat.reduceEqDiff, Nat.reduceLT, Nat.reduceLeDiff, Nat.reduceAdd, Nat.reduceSub, Nat.reduceMul, reduceCtorEq, Int.reduceToNat, Int.reduceNeg] <;> (rw [at_pos c0.2])) rfl rfl
  · try simp only [decide_eq_true_eq, decide_eq_false_iff_not, Bool.not_eq_true', Bool.not_eq_false', beq_iff_eq, bne_iff_ne, beq_eq_false_iff_ne, bne_eq_false_iff_eq, Bool.not_eq_true, Bool.not_eq_false, Int.not_lt, Int.not_le, Nat.not_lt, Nat.not_le, ne_eq, Int.ofNat_inj, Bool.and_eq_true, Bool.or_eq_true, Bool.and_eq_false_iff, Bool.or_eq_false_iff, Bool.not_eq_eq_eq_not, Bool.not_true, Bool.not_false] at c0   -- c0.f
    have c0 : i < p.length → p.getD i default ≤ 0 := (by simp at *; omega)
    refine aw_skip ?_
    refine hK1 _ ?_; clear hK1
    refine aw_seq fun K4 hK4 => ?_
    refine aw_reg [] (by kernel_rfl) ?_   -- r3.3
    simp (disch := omega) only [go_sem, ↓reduceIte, Nat.reduceEqDiff, Nat.reduceLT, Nat.reduceLeDiff, Nat.reduceAdd, Nat.reduceSub, Nat.reduceMul, reduceCtorEq, Int.reduceToNat, Int.reduceNeg]
    repeat refine And.intro (by first | omega | assumption | (simp only [List.length_append, List.length_cons, List.length_nil]; omega) | (intros; first | omega | assumption | (simp_all; done) | grind)) ?_   -- r3.3
    refine hK4 _ ?_; clear hK4
    refine aw_ret ?_
    refine ret_tmp 4 rfl (by simp (disch := omega) only [go_sem, ↓reduceIte, Nat.reduceEqDiff, Nat.reduceLT, Nat.reduceLeDiff, Nat.reduceAdd, Nat.reduceSub, Nat.reduceMul, reduceCtorEq, Int.reduceToNat, Int.reduceNeg]) ?_   -- ret1
    exact Exp.is (by simp (disch := omega) only [go_sem, ↓reduceIte, Nat.reduceEqDiff, Nat.reduceLT, Nat.reduceLeDiff, Nat.reduceAdd, Nat.reduceSub, Nat.reduceMul, reduceCtorEq, Int.reduceToNat, Int.reduceNeg] <;> (rw [at_zero c0])) rfl rfl

theorem autoroute_done_ok (O : Env) (p : List Int) (i : Nat) : PCall Tryz.prog O 24 [encI p, vi (i : Nat)] (vi (atN p i : Nat)) := by
  -- signalling/autoroute.done
  refine pcall_has 0 rfl (.sl _ _ _) fun ha => ?_
  refine pcall_of_aw Tryz.func24 rfl (by kernel_rfl) ?_
  refine aw_seq fun K0 hK0 => ?_
  refine aw_reg [0, 1] (by kernel_rfl) ?_   -- r0.0
  simp (disch := omega) only [go_sem, ↓reduceIte, Nat.reduceEqDiff, Nat.reduceLT, Nat.reduceLeDiff, Nat.reduceAdd, Nat.reduceSub, Nat.reduceMul, reduceCtorEq, Int.reduceToNat, Int.reduceNeg]
  repeat refine And.intro (by first | omega | assumption | (simp only [List.length_append, List.length_cons, List.length_nil]; omega) | (intros; first | omega | assumption | (simp_all; done) | grind)) ?_   -- r0.0
  refine hK0 _ ?_; clear hK0
  refine aw_seq fun K1 hK1 => ?_
  refine aw_seq fun K2 hK2 => ?_
  refine aw_reg [0, 1] (by kernel_rfl) ?_   -- r1.1
  simp (disch := omega) only [go_sem, ↓reduceIte, Nat.reduceEqDiff, Nat.reduceLT, Nat.reduceLeDiff, Nat.reduceAdd, Nat.reduceSub, Nat.reduceMul, reduceCtorEq, Int.reduceToNat, Int.reduceNeg]
  repeat refine And.intro (by first | omega | assumption | (simp only [List.length_append, List.length_cons, List.length_nil]; omega) | (intros; first | omega | assumption | (simp_all; done) | grind)) ?_   -- r1.1
  refine hK2 _ ?_; clear hK2
  refine aw_cond _ (by rfl) (rfl) (fun c0 => ?_) (fun c0 => ?_)   -- c0
  · try simp only [decide_eq_true_eq, decide_eq_false_iff_not, Bool.not_eq_true', Bool.not_eq_false', beq_iff_eq, bne_iff_ne, beq_eq_false_iff_ne, bne_eq_false_iff_eq, Bool.not_eq_true, Bool.not_eq_false, Int.not_lt, Int.not_le, Nat.not_lt, Nat.not_le, ne_eq, Int.ofNat_inj, Bool.and_eq_true, Bool.or_eq_true, Bool.and_eq_false_iff, Bool.or_eq_false_iff, Bool.not_eq_eq_eq_not, Bool.not_true, Bool.not_false] at c0   -- c0.t
    refine aw_seq fun K3 hK3 => ?_
    refine aw_reg [] (by kernel_rfl) ?_   -- r2.2
    simp (disch := omega) only [go_sem, ↓reduceIte, Nat.reduceEqDiff, Nat.reduceLT, Nat.reduceLeDiff, Nat.reduceAdd, Nat.reduceSub, Nat.reduceMul, reduceCtorEq, Int.reduceToNat, Int.reduceNeg]
    repeat refine And.intro (by first | omega | assumption | (simp only [List.length_append, List.length_cons, List.length_nil]; omega) | (intros; first | omega | assumption | (simp_all; done) | grind)) ?_   -- r2.2
    refine hK3 _ ?_; clear hK3
    refine aw_ret ?_
    refine ret_tmp 4 rfl (by simp (disch := omega) only [go_sem, ↓reduceIte, Nat.reduceEqDiff, Nat.reduceLT, Nat.reduceLeDiff, Nat.reduceAdd, Nat.reduceSub, Nat.reduceMul, reduceCtorEq, Int.reduceToNat, Int.reduceNeg]) ?_   -- ret0
    exact Exp.is (by simp (disch := omega) only [go_sem, ↓reduceIte, Nat.reduceEqDiff, Nat.reduceLT, Nat.reduceLeDiff, Nat.reduceAdd, Nat.reduceSub, Nat.reduceMul, reduceCtorEq, Int.reduceToNat, Int.reduceNeg] <;> (rw [at_hi (by omega)]; rfl)) rfl rfl
  · try simp only [decide_eq_true_eq, decide_eq_false_iff_not, Bool.not_eq_true', Bool.not_eq_false', beq_iff_eq, bne_iff_ne, beq_eq_false_iff_ne, bne_eq_false_iff_eq, Bool.not_eq_true, Bool.not_eq_false, Int.not_lt, Int.not_le, Nat.not_lt, Nat.not_le, ne_eq, Int.ofNat_inj, Bool.and_eq_true, Bool.or_eq_true, Bool.and_eq_false_iff, Bool.or_eq_false_iff, Bool.not_eq_eq_eq_not, Bool.not_true, Bool.not_false] at c0   -- c0.f
    refine aw_skip ?_
    refine hK1 _ ?_; clear hK1
    refine aw_seq fun K4 hK4 => ?_
    refine aw_reg [0, 1] (by kernel_rfl) ?_   -- r3.3
    simp (disch := omega) only [go_sem, ↓reduceIte, Nat.reduceEqDiff, Nat.reduceLT, Nat.reduceLeDiff, Nat.reduceAdd, Nat.reduceSub, Nat.reduceMul, reduceCtorEq, Int.reduceToNat, Int.reduceNeg]
    repeat refine And.intro (by first | omega | assumption | (simp only [List.length_append, List.length_cons, List.length_nil]; omega) | (intros; first | omega | assumption | (simp_all; done) | grind)) ?_   -- r3.3
    refine hK4 _ ?_; clear hK4
    refine aw_ret ?_
    refine ret_tmp 4 rfl (by simp (disch := omega) only [go_sem, ↓reduceIte, Nat.reduceEqDiff, Nat.reduceLT, Nat.reduceLeDiff, Nat.reduceAdd, Nat.reduceSub, Nat.reduceMul, reduceCtorEq, Int.reduceToNat, Int.reduceNeg]) ?_   -- ret1
    exact Exp.is (by simp (disch := omega) only [go_sem, ↓reduceIte, Nat.reduceEqDiff, Nat.reduceLT, Nat.reduceLeDiff, Nat.reduceAdd, Nat.reduceSub, Nat.reduceMul, reduceCtorEq, Int.reduceToNat, Int.reduceNeg] <;> (rw [at_if])) rfl rfl

theorem ref50_exists_ok (O : Env) (t : Table) (s : Inter) (r : Int) : PCall Tryz.prog O 26 [.agg (eTable t), .agg (eInter s), vi r] (vb (exB t s r)) := by
  -- signalling/signallingref50.exists
  refine pcall_of_aw Tryz.func26 rfl (by kernel_rfl) ?_
  refine aw_seq fun K0 hK0 => ?_
  refine aw_reg [0, 1, 2] (by kernel_rfl) ?_   -- r0.0
  simp (disch := omega) only [go_sem, ↓reduceIte, Nat.reduceEqDiff, Nat.reduceLT, Nat.reduceLeDiff, Nat.reduceAdd, Nat.reduceSub, Nat.reduceMul, reduceCtorEq, Int.reduceToNat, Int.reduceNeg]
  repeat refine And.intro (by first | omega | assumption | (simp only [List.length_append, List.length_cons, List.length_nil]; omega) | (intros; first | omega | assumption | (simp_all; done) | grind)) ?_   -- r0.0
  refine hK0 _ ?_; clear hK0
  refine aw_seq fun K1 hK1 => ?_
  refine aw_reg [2, 3, 4] (by kernel_rfl) ?_   -- r1.1
  simp (disch := omega) only [go_sem, ↓reduceIte, Nat.reduceEqDiff, Nat.reduceLT, Nat.reduceLeDiff, Nat.reduceAdd, Nat.reduceSub, Nat.reduceMul, reduceCtorEq, Int.reduceToNat, Int.reduceNeg]
  repeat refine And.intro (by first | omega | assumption | (simp only [List.length_append, List.length_cons, List.length_nil]; omega) | (intros; first | omega | assumption | (simp_all; done) | grind)) ?_   -- r1.1
  refine hK1 _ ?_; clear hK1
  refine aw_ret ?_
  refine ret_tmp 6 rfl (by simp (disch := omega) only [go_sem, ↓reduceIte, Nat.reduceEqDiff, Nat.reduceLT, Nat.reduceLeDiff, Nat.reduceAdd, Nat.reduceSub, Nat.reduceMul, reduceCtorEq, Int.reduceToNat, Int.reduceNeg]) ?_   -- ret0
  exact Exp.is (by simp (disch := omega) only [go_sem, ↓reduceIte, Nat.reduceEqDiff, Nat.reduceLT, Nat.reduceLeDiff, Nat.reduceAdd, Nat.reduceSub, Nat.reduceMul, reduceCtorEq, Int.reduceToNat, Int.reduceNeg] <;> refine congrArg vb ?_ <;> (rfl)) rfl rfl

theorem autoroute_view_exists_ok (O : Env) (t : Table) (s : Inter) (r : Int) : PCall Tryz.prog O 28 [.agg (eTable t ++ eInter s), vi r] (vb (exB t s r)) := by
  -- (signalling/autoroute.view).exists
  refine pcall_of_aw Tryz.func28 rfl (by kernel_rfl) ?_
  refine aw_seq fun K0 hK0 => ?_
  refine aw_reg [0, 1] (by kernel_rfl) ?_   -- r0.0
  simp (disch := omega) only [go_sem, ↓reduceIte, Nat.reduceEqDiff, Nat.reduceLT, Nat.reduceLeDiff, Nat.reduceAdd, Nat.reduceSub, Nat.reduceMul, reduceCtorEq, Int.reduceToNat, Int.reduceNeg]
  repeat refine And.intro (by first | omega | assumption | (simp only [List.length_append, List.length_cons, List.length_nil]; omega) | (intros; first | omega | assumption | (simp_all; done) | grind)) ?_   -- r0.0
  refine hK0 _ ?_; clear hK0
  refine aw_seq fun K1 hK1 => ?_
  refine aw_reg [1, 2] (by kernel_rfl) ?_   -- r1.1
  simp (disch := omega) only [go_sem, ↓reduceIte, Nat.reduceEqDiff, Nat.reduceLT, Nat.reduceLeDiff, Nat.reduceAdd, Nat.reduceSub, Nat.reduceMul, reduceCtorEq, Int.reduceToNat, Int.reduceNeg]
  repeat refine And.intro (by first | omega | assumption | (simp only [List.length_append, List.length_cons, List.length_nil]; omega) | (intros; first | omega | assumption | (simp_all; done) | grind)) ?_   -- r1.1
  refine hK1 _ ?_; clear hK1
  refine aw_ret ?_
  refine ret_tmp 4 rfl (by simp (disch := omega) only [go_sem, ↓reduceIte, Nat.reduceEqDiff, Nat.reduceLT, Nat.reduceLeDiff, Nat.reduceAdd, Nat.reduceSub, Nat.reduceMul, reduceCtorEq, Int.reduceToNat, Int.reduceNeg]) ?_   -- ret0
  exact Exp.is (by simp (disch := omega) only [go_sem, ↓reduceIte, Nat.reduceEqDiff, Nat.reduceLT, Nat.reduceLeDiff, Nat.reduceAdd, Nat.reduceSub, Nat.reduceMul, reduceCtorEq, Int.reduceToNat, Int.reduceNeg] <;> refine congrArg vb ?_ <;> (rfl)) rfl rfl

def stN (s : Inter) (r : Int) : Int := (s.fRoutes.getD r.toNat default).fState
theorem ex_of {t : Table} {s : Inter} {r : Int} (h : exB t s r = true) : 0 ≤ r ∧ r.toNat < t.fRoutes.length ∧ r.toNat < s.fRoutes.length := by
  simp only [exB, Bool.and_eq_true, decide_eq_true_eq] at h; omega

theorem autoroute_view_state_ok (O : Env) (t : Table) (s : Inter) (r : Int) (he : exB t s r = true) : PCall Tryz.prog O 29 [.agg (eTable t ++ eInter s), vi r] (vi (stN s r)) := by
  -- (signalling/autoroute.view).state
  have he := ex_of he
  refine pcall_of_aw Tryz.func29 rfl (by kernel_rfl) ?_
  refine aw_seq fun K0 hK0 => ?_
  refine aw_reg [0, 1] (by kernel_rfl) ?_   -- r0.0
  simp (disch := omega) only [go_sem, ↓reduceIte, Nat.reduceEqDiff, Nat.reduceLT, Nat.reduceLeDiff, Nat.reduceAdd, Nat.reduceSub, Nat.reduceMul, reduceCtorEq, Int.reduceToNat, Int.reduceNeg]
  repeat refine And.intro (by first | omega | assumption | (simp only [List.length_append, List.length_cons, List.length_nil]; omega) | (intros; first | omega | assumption | (simp_all; done) | grind)) ?_   -- r0.0
  refine hK0 _ ?_; clear hK0
  refine aw_seq fun K1 hK1 => ?_
  refine aw_reg [1, 2] (by kernel_rfl) ?_   -- r1.1
  simp (disch := omega) only [go_sem, ↓reduceIte, Nat.reduceEqDiff, Nat.reduceLT, Nat.reduceLeDiff, Nat.reduceAdd, Nat.reduceSub, Nat.reduceMul, reduceCtorEq, Int.reduceToNat, Int.reduceNeg]
  repeat refine And.intro (by first | omega | assumption | (simp only [List.length_append, List.length_cons, List.length_nil]; omega) | (intros; first | omega | assumption | (simp_all; done) | grind)) ?_   -- r1.1
  refine hK1 _ ?_; clear hK1
  refine aw_ret ?_
  refine ret_tmp 4 rfl (by simp (disch := omega) only [go_sem, ↓reduceIte, Nat.reduceEqDiff, Nat.reduceLT, Nat.reduceLeDiff, Nat.reduceAdd, Nat.reduceSub, Nat.reduceMul, reduceCtorEq, Int.reduceToNat, Int.reduceNeg]) ?_   -- ret0
  exact Exp.is (by simp (disch := omega) only [go_sem, ↓reduceIte, Nat.reduceEqDiff, Nat.reduceLT, Nat.reduceLeDiff, Nat.reduceAdd, Nat.reduceSub, Nat.reduceMul, reduceCtorEq, Int.reduceToNat, Int.reduceNeg] <;> (rfl)) rfl rfl

end Go.Sg
