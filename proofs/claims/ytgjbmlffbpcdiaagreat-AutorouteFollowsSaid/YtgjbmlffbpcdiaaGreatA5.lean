/- Contracts of Calls and its law. Printed by genw.py. -/
import Derived.Test.YtgjbmlffbpcdiaaGreatA4
set_option linter.unusedVariables false
set_option linter.unusedSimpArgs false
set_option maxRecDepth 8000
namespace Go.Sg
open Go.Proofs
section
variable (t : Table) (s : Inter) (tr : List Trip) (st : List (List Int)) (pr : List Int) (now : Int)
def cP (i : Nat) : Bool := decide (atN pr i < (tr.getD i default).fStops.length) && mayB t s tr st pr now i (atN pr i)
def cD (i : Nat) : Decision := ⟨now, i, atN pr i, rtS tr i (atN pr i), IntKind.i64.wrap (now - ((tr.getD i default).fStops.getD (atN pr i) default).fDue)⟩
def dcL (n : Nat) : List Decision := ((List.range n).filter (cP t s tr st pr now)).map (cD tr pr now)
def cdL (m n : Nat) : List Bool := (List.range m).map fun (r : Nat) => (dcL t s tr st pr now n).any fun x => x.fRoute == (r : Int)
def rsL (m n j : Nat) : List Int := ((List.range j).filter fun r => (cdL t s tr st pr now m n).getD r default).map fun (r : Nat) => (r : Int)
variable {t s tr st pr now}
theorem dc_t {n : Nat} (h : cP t s tr st pr now n = true) : dcL t s tr st pr now (n + 1) = dcL t s tr st pr now n ++ [cD tr pr now n] := by
  unfold dcL; rw [List.range_succ, List.filter_append, List.map_append, List.filter_cons, h]; rfl
theorem dc_f {n : Nat} (h : cP t s tr st pr now n = false) : dcL t s tr st pr now (n + 1) = dcL t s tr st pr now n := by
  unfold dcL; rw [List.range_succ, List.filter_append, List.filter_cons, h]; simp
theorem dc_len (n : Nat) : (dcL t s tr st pr now n).length ≤ n := by
  unfold dcL; rw [List.length_map]; have := List.length_filter_le (cP t s tr st pr now) (List.range n); simpa using this
theorem cP_ex {n : Nat} (h : cP t s tr st pr now n = true) : exB t s (rtS tr n (atN pr n)) = true := by
  simp only [cP, mayB, Bool.and_eq_true] at h; exact h.2.1.1.1
theorem dc_mem {n : Nat} {x : Decision} (h : x ∈ dcL t s tr st pr now n) : ∃ i, i < n ∧ cP t s tr st pr now i = true ∧ x = cD tr pr now i := by
  unfold dcL at h; rw [List.mem_map] at h
  obtain ⟨i, hi, rfl⟩ := h
  rw [List.mem_filter, List.mem_range] at hi
  exact ⟨i, hi.1, hi.2, rfl⟩
theorem mem_dc {n i : Nat} (h : i < n) (h2 : cP t s tr st pr now i = true) : cD tr pr now i ∈ dcL t s tr st pr now n := by
  unfold dcL; exact List.mem_map_of_mem (List.mem_filter.2 ⟨List.mem_range.2 h, h2⟩)
theorem cd_0 (m : Nat) : cdL t s tr st pr now m 0 = List.replicate m false := by
  apply List.ext_getElem (by simp [cdL]); intro i h1 h2; simp [cdL, dcL]
theorem cd_len (m n : Nat) : (cdL t s tr st pr now m n).length = m := by simp [cdL]
theorem cd_f {m n : Nat} (h : cP t s tr st pr now n = false) : cdL t s tr st pr now m (n + 1) = cdL t s tr st pr now m n := by unfold cdL; rw [dc_f h]
theorem cd_t {m n : Nat} (h : cP t s tr st pr now n = true) : cdL t s tr st pr now m (n + 1) = (cdL t s tr st pr now m n).set (rtS tr n (atN pr n)).toNat true := by
  have h0 := ex0 (cP_ex h)
  apply List.ext_getElem (by simp [cdL])
  intro i h1 h2
  rw [List.getElem_set]
  simp only [cdL, List.getElem_map, List.getElem_range, dc_t h, List.any_append, List.any_cons, List.any_nil, Bool.or_false]
  have he : (cD tr pr now n).fRoute = rtS tr n (atN pr n) := rfl
  rw [he]
  split
  · next hh => subst hh; rw [show (rtS tr n (atN pr n) == ((rtS tr n (atN pr n)).toNat : Int)) = true by rw [beq_iff_eq]; omega, Bool.or_true]
  · next hh => rw [show (rtS tr n (atN pr n) == (i : Int)) = false by rw [beq_eq_false_iff_ne]; omega, Bool.or_false]
theorem rs_t {m n j : Nat} (h : (cdL t s tr st pr now m n).getD j default = true) : rsL t s tr st pr now m n (j + 1) = rsL t s tr st pr now m n j ++ [(j : Int)] := by
  unfold rsL; rw [List.range_succ, List.filter_append, List.map_append, List.filter_cons, h]; rfl
theorem rs_f {m n j : Nat} (h : (cdL t s tr st pr now m n).getD j default = false) : rsL t s tr st pr now m n (j + 1) = rsL t s tr st pr now m n j := by
  unfold rsL; rw [List.range_succ, List.filter_append, List.filter_cons, h]; simp
theorem rs_mk (n : Nat) : rsL t s tr st pr now t.fRoutes.length n t.fRoutes.length = mk ((dcL t s tr st pr now n).map Decision.fRoute) := by
  refine ss_ext ?_ (mk_ss _) fun y => ?_
  · unfold rsL SS
    rw [List.pairwise_map]
    refine (List.Pairwise.filter _ List.pairwise_lt_range).imp ?_
    intro a b h; omega
  · rw [mk_mem]
    unfold rsL
    simp only [List.mem_map, List.mem_filter, List.mem_range]
    constructor
    · rintro ⟨r, ⟨h1, h2⟩, rfl⟩
      rw [List.getD_eq_getElem?_getD, List.getElem?_eq_getElem (by rw [cd_len]; exact h1)] at h2
      simp only [cdL, List.getElem_map, List.getElem_range, Option.getD_some, List.any_eq_true, beq_iff_eq] at h2
      obtain ⟨x, hx, he⟩ := h2
      exact ⟨x, hx, he⟩
    · rintro ⟨x, hx, rfl⟩
      obtain ⟨i, hi, hp, rfl⟩ := dc_mem hx
      have h3 := ex_of (cP_ex hp)
      have he : (cD tr pr now i).fRoute = rtS tr i (atN pr i) := rfl
      rw [he]
      refine ⟨(rtS tr i (atN pr i)).toNat, ⟨h3.2.1, ?_⟩, by omega⟩
      rw [List.getD_eq_getElem?_getD, List.getElem?_eq_getElem (by rw [cd_len]; exact h3.2.1)]
      simp only [cdL, List.getElem_map, List.getElem_range, Option.getD_some, List.any_eq_true, beq_iff_eq]
      exact ⟨_, hx, by rw [he]; omega⟩
end
def clsS (t : Table) (s : Inter) (tr : List Trip) (p : Schedule) (pr : List Int) (now : Int) : List Int := if fitB tr p.fStarts = true then mk ((dcL t s tr p.fStarts pr now tr.length).map Decision.fRoute) else []
def dcsS (t : Table) (s : Inter) (tr : List Trip) (p : Schedule) (pr : List Int) (now : Int) : List Decision := if fitB tr p.fStarts = true then dcL t s tr p.fStarts pr now tr.length else []
theorem setB (l : List Bool) (i : Nat) (b : Bool) : (l.map eB).set i [vb b] = (l.set i b).map eB := by rw [List.map_set]
attribute [go_sem] setB
abbrev rowD (l : List Decision) : DV := rowL 47 5 eDecision l
abbrev rowB (l : List Bool) : DV := rowL 4 1 eB l

theorem autoroute_Calls_ok (O : Env) (t : Table) (s : Inter) (tr : List Trip) (p : Schedule) (pr : List Int) (now : Int) (hs : SmT t) (hn : t.fRoutes.length ≤ 80) (hb : tr.length ≤ 1000) (hb2 : ∀ k, (tr.getD k default).fStops.length ≤ 1000) : PCall Tryz.prog O 9 [.agg (eTable t), .agg (eInter s), encTr tr, .agg (eSchedule p), encI pr, vi now] (.tup [encI (clsS t s tr p pr now), encDc (dcsS t s tr p pr now)]) := by
  -- signalling/autoroute.Calls
  refine pcall_of_aw Tryz.func9 rfl (by kernel_rfl) ?_
  refine aw_seq fun K0 hK0 => ?_
  refine aw_reg [0, 1, 2, 3, 4, 5] (by kernel_rfl) ?_   -- r0.0
  simp (disch := omega) only [go_sem, ↓reduceIte, Nat.reduceEqDiff, Nat.reduceLT, Nat.reduceLeDiff, Nat.reduceAdd, Nat.reduceSub, Nat.reduceMul, reduceCtorEq, Int.reduceToNat, Int.reduceNeg]
  repeat refine And.intro (by first | omega | assumption | (simp only [List.length_append, List.length_cons, List.length_nil]; omega) | (intros; first | omega | assumption | (simp_all; done) | grind)) ?_   -- r0.0
  refine hK0 _ ?_; clear hK0
  refine aw_seq fun K1 hK1 => ?_
  refine aw_seq fun K2 hK2 => ?_
  refine aw_reg [2, 4, 5, 6, 7, 9] (by kernel_rfl) ?_   -- r1.1
  simp (disch := omega) only [go_sem, ↓reduceIte, Nat.reduceEqDiff, Nat.reduceLT, Nat.reduceLeDiff, Nat.reduceAdd, Nat.reduceSub, Nat.reduceMul, reduceCtorEq, Int.reduceToNat, Int.reduceNeg]
  repeat refine And.intro (by first | omega | assumption | (simp only [List.length_append, List.length_cons, List.length_nil]; omega) | (intros; first | omega | assumption | (simp_all; done) | grind)) ?_   -- r1.1
  refine callG_of _ (autoroute_fits_ok _ tr p) ?_   -- r1.1#0
  simp (disch := omega) only [go_sem, ↓reduceIte, Nat.reduceEqDiff, Nat.reduceLT, Nat.reduceLeDiff, Nat.reduceAdd, Nat.reduceSub, Nat.reduceMul, reduceCtorEq, Int.reduceToNat, Int.reduceNeg]
  repeat refine And.intro (by first | omega | assumption | (simp only [List.length_append, List.length_cons, List.length_nil]; omega) | (intros; first | omega | assumption | (simp_all; done) | grind)) ?_   -- r1.1
  refine hK2 _ ?_; clear hK2
  refine aw_cond _ (by rfl) (rfl) (fun c0 => ?_) (fun c0 => ?_)   -- c0
  · try simp only [decide_eq_true_eq, decide_eq_false_iff_not, Bool.not_eq_true', Bool.not_eq_false', beq_iff_eq, bne_iff_ne, beq_eq_false_iff_ne, bne_eq_false_iff_eq, Bool.not_eq_true, Bool.not_eq_false, Int.not_lt, Int.not_le, Nat.not_lt, Nat.not_le, ne_eq, Int.ofNat_inj, Bool.and_eq_true, Bool.or_eq_true, Bool.and_eq_false_iff, Bool.or_eq_false_iff, Bool.not_eq_eq_eq_not, Bool.not_true, Bool.not_false] at c0   -- c0.t
    refine aw_seq fun K3 hK3 => ?_
    refine aw_reg [] (by kernel_rfl) ?_   -- r2.2
    simp (disch := omega) only [go_sem, ↓reduceIte, Nat.reduceEqDiff, Nat.reduceLT, Nat.reduceLeDiff, Nat.reduceAdd, Nat.reduceSub, Nat.reduceMul, reduceCtorEq, Int.reduceToNat, Int.reduceNeg]
    repeat refine And.intro (by first | omega | assumption | (simp only [List.length_append, List.length_cons, List.length_nil]; omega) | (intros; first | omega | assumption | (simp_all; done) | grind)) ?_   -- r2.2
    refine hK3 _ ?_; clear hK3
    refine aw_ret ?_
    refine ret_tup rfl (by simp (disch := omega) only [go_sem, ↓reduceIte, Nat.reduceEqDiff, Nat.reduceLT, Nat.reduceLeDiff, Nat.reduceAdd, Nat.reduceSub, Nat.reduceMul, reduceCtorEq, Int.reduceToNat, Int.reduceNeg]) (.cons ?_ (.cons ?_ .nil))   -- ret0
    · exact roN (by simp (disch := omega) only [go_sem, ↓reduceIte, Nat.reduceEqDiff, Nat.reduceLT, Nat.reduceLeDiff, Nat.reduceAdd, Nat.reduceSub, Nat.reduceMul, reduceCtorEq, Int.reduceToNat, Int.reduceNeg]) (by rw [clsS, if_neg (by simp [c0])])   -- ret0.0
    · exact roN (by simp (disch := omega) only [go_sem, ↓reduceIte, Nat.reduceEqDiff, Nat.reduceLT, Nat.reduceLeDiff, Nat.reduceAdd, Nat.reduceSub, Nat.reduceMul, reduceCtorEq, Int.reduceToNat, Int.reduceNeg]) (by rw [dcsS, if_neg (by simp [c0])])   -- ret0.1
  · try simp only [decide_eq_true_eq, decide_eq_false_iff_not, Bool.not_eq_true', Bool.not_eq_false', beq_iff_eq, bne_iff_ne, beq_eq_false_iff_ne, bne_eq_false_iff_eq, Bool.not_eq_true, Bool.not_eq_false, Int.not_lt, Int.not_le, Nat.not_lt, Nat.not_le, ne_eq, Int.ofNat_inj, Bool.and_eq_true, Bool.or_eq_true, Bool.and_eq_false_iff, Bool.or_eq_false_iff, Bool.not_eq_eq_eq_not, Bool.not_true, Bool.not_false] at c0   -- c0.f
    have hl := (fit_of c0).1
    have hf := (fit_of c0).2
    refine aw_skip ?_
    refine hK1 _ ?_; clear hK1
    refine aw_seq fun K4 hK4 => ?_
    refine aw_reg [2, 4, 5, 6, 7, 9] (by kernel_rfl) ?_   -- r3.3
    simp (disch := omega) only [go_sem, ↓reduceIte, Nat.reduceEqDiff, Nat.reduceLT, Nat.reduceLeDiff, Nat.reduceAdd, Nat.reduceSub, Nat.reduceMul, reduceCtorEq, Int.reduceToNat, Int.reduceNeg]
    repeat refine And.intro (by first | omega | assumption | (simp only [List.length_append, List.length_cons, List.length_nil]; omega) | (intros; first | omega | assumption | (simp_all; done) | grind)) ?_   -- r3.3
    refine hK4 _ ?_; clear hK4
    refine aw_seq fun K5 hK5 => ?_
    refine aw_reg [2, 4, 5, 14] (by kernel_rfl) ?_   -- r4.4
    simp (disch := omega) only [go_sem, ↓reduceIte, Nat.reduceEqDiff, Nat.reduceLT, Nat.reduceLeDiff, Nat.reduceAdd, Nat.reduceSub, Nat.reduceMul, reduceCtorEq, Int.reduceToNat, Int.reduceNeg]
    repeat refine And.intro (by first | omega | assumption | (simp only [List.length_append, List.length_cons, List.length_nil]; omega) | (intros; first | omega | assumption | (simp_all; done) | grind)) ?_   -- r4.4
    refine hK5 _ ?_; clear hK5
    refine aw_seq fun K6 hK6 => ?_
    refine aw_reg [2, 4, 5, 14, 15, 35] (by kernel_rfl) ?_   -- r5.5
    simp (disch := omega) only [go_sem, ↓reduceIte, Nat.reduceEqDiff, Nat.reduceLT, Nat.reduceLeDiff, Nat.reduceAdd, Nat.reduceSub, Nat.reduceMul, reduceCtorEq, Int.reduceToNat, Int.reduceNeg]
    repeat refine And.intro (by first | omega | assumption | (simp only [List.length_append, List.length_cons, List.length_nil]; omega) | (intros; first | omega | assumption | (simp_all; done) | grind)) ?_   -- r5.5
    refine hK6 _ ?_; clear hK6
    refine aw_seq fun K7 hK7 => ?_
    refine aw_reg [2, 4, 5, 14, 15, 16, 35] (by kernel_rfl) ?_   -- r6.6
    simp (disch := omega) only [go_sem, ↓reduceIte, Nat.reduceEqDiff, Nat.reduceLT, Nat.reduceLeDiff, Nat.reduceAdd, Nat.reduceSub, Nat.reduceMul, reduceCtorEq, Int.reduceToNat, Int.reduceNeg]
    repeat refine And.intro (by first | omega | assumption | (simp only [List.length_append, List.length_cons, List.length_nil]; omega) | (intros; first | omega | assumption | (simp_all; done) | grind)) ?_   -- r6.6
    refine hK7 _ ?_; clear hK7
    refine aw_seq fun K8 hK8 => ?_
    refine aw_seq fun K9 hK9 => ?_
    refine aw_reg [2, 4, 5, 14, 15, 16, 17, 35] (by kernel_rfl) ?_   -- r7.7
    simp (disch := omega) only [go_sem, ↓reduceIte, Nat.reduceEqDiff, Nat.reduceLT, Nat.reduceLeDiff, Nat.reduceAdd, Nat.reduceSub, Nat.reduceMul, reduceCtorEq, Int.reduceToNat, Int.reduceNeg]
    repeat refine And.intro (by first | omega | assumption | (simp only [List.length_append, List.length_cons, List.length_nil]; omega) | (intros; first | omega | assumption | (simp_all; done) | grind)) ?_   -- r7.7
    refine hK9 _ ?_; clear hK9
    refine aw_block ?_
    refine aw_nilR 16 3 1 eI rfl rfl ?_
    refine aw_nilR 17 47 5 eDecision rfl rfl ?_
    refine aw_loopK [4, 5, 15, 16, 17, 37, 38, 39] (fun n ρ => ∃ i, ∃ cl, ∃ dc, n = tr.length - i ∧ (i ≤ tr.length) ∧ (cl = (dcL t s tr p.fStarts pr now i).map Decision.fRoute) ∧ (dc = dcL t s tr p.fStarts pr now i) ∧ (dc.length ≤ i) ∧ (cl.length ≤ i) ∧ ρ = mkE O [(4, encI pr), (5, vi now), (15, .fn 23 [.agg (eTable t ++ eInter s ++ [encTr tr, encSt p.fStarts, encI pr, vi now])] []), (16, rowI cl), (17, rowD dc), (37, encTr tr), (38, vi (tr.length : Nat)), (39, vi (i : Nat))]) _ ⟨0, [], [], rfl, ?_, ?_, ?_, ?_, ?_, ?_⟩ ?_   -- L0
    · first | assumption | omega | (simp only [List.length_append, List.length_cons, List.length_nil] at *; omega) | (simp_all; done)   -- L0.init.inv0
    · rfl   -- L0.init.inv1
    · rfl   -- L0.init.inv2
    · first | assumption | omega | (simp only [List.length_append, List.length_cons, List.length_nil] at *; omega) | (simp_all; done)   -- L0.init.inv3
    · first | assumption | omega | (simp only [List.length_append, List.length_cons, List.length_nil] at *; omega) | (simp_all; done)   -- L0.init.inv4
    · simp (disch := omega) only [go_sem, ↓reduceIte, Nat.reduceEqDiff, Nat.reduceLT, Nat.reduceLeDiff, Nat.reduceAdd, Nat.reduceSub, Nat.reduceMul, reduceCtorEq, Int.reduceToNat, Int.reduceNeg] <;> first | rfl | omega | simp | simp_all   -- L0.init.env
    rintro n ρ ⟨i, cl, dc, rfl, l0_0, l0_1, l0_2, l0_3, l0_4, rfl⟩ K10 hK10
    have hb3 := hb2 i
    refine aw_seq fun K11 hK11 => ?_
    refine aw_reg [2, 4, 5, 14, 15, 16, 17, 35, 37, 38, 39] (by kernel_rfl) ?_   -- r8.8
    simp (disch := omega) only [go_sem, ↓reduceIte, Nat.reduceEqDiff, Nat.reduceLT, Nat.reduceLeDiff, Nat.reduceAdd, Nat.reduceSub, Nat.reduceMul, reduceCtorEq, Int.reduceToNat, Int.reduceNeg]
    repeat refine And.intro (by first | omega | assumption | (simp only [List.length_append, List.length_cons, List.length_nil]; omega) | (intros; first | omega | assumption | (simp_all; done) | grind)) ?_   -- r8.8
    refine hK11 _ ?_; clear hK11
    refine aw_seq fun K12 hK12 => ?_
    refine aw_cond _ (by rfl) (rfl) (fun c1 => ?_) (fun c1 => ?_)   -- c1
    · try simp only [decide_eq_true_eq, decide_eq_false_iff_not, Bool.not_eq_true', Bool.not_eq_false', beq_iff_eq, bne_iff_ne, beq_eq_false_iff_ne, bne_eq_false_iff_eq, Bool.not_eq_true, Bool.not_eq_false, Int.not_lt, Int.not_le, Nat.not_lt, Nat.not_le, ne_eq, Int.ofNat_inj, Bool.and_eq_true, Bool.or_eq_true, Bool.and_eq_false_iff, Bool.or_eq_false_iff, Bool.not_eq_eq_eq_not, Bool.not_true, Bool.not_false] at c1   -- c1.t
      refine aw_skip ?_
      refine hK12 _ ?_; clear hK12
      refine aw_seq fun K13 hK13 => ?_
      refine aw_block ?_
      refine aw_seq fun K14 hK14 => ?_
      refine aw_reg [2, 4, 5, 14, 15, 16, 17, 35, 37, 38, 39] (by kernel_rfl) ?_   -- r9.9
      simp (disch := omega) only [go_sem, ↓reduceIte, Nat.reduceEqDiff, Nat.reduceLT, Nat.reduceLeDiff, Nat.reduceAdd, Nat.reduceSub, Nat.reduceMul, reduceCtorEq, Int.reduceToNat, Int.reduceNeg]
      repeat refine And.intro (by first | omega | assumption | (simp only [List.length_append, List.length_cons, List.length_nil]; omega) | (intros; first | omega | assumption | (simp_all; done) | grind)) ?_   -- r9.9
      refine hK14 _ ?_; clear hK14
      refine aw_seq fun K15 hK15 => ?_
      refine aw_reg [2, 4, 5, 14, 15, 16, 17, 18, 19, 35, 37, 38, 39] (by kernel_rfl) ?_   -- r10.10
      simp (disch := omega) only [go_sem, ↓reduceIte, Nat.reduceEqDiff, Nat.reduceLT, Nat.reduceLeDiff, Nat.reduceAdd, Nat.reduceSub, Nat.reduceMul, reduceCtorEq, Int.reduceToNat, Int.reduceNeg]
      repeat refine And.intro (by first | omega | assumption | (simp only [List.length_append, List.length_cons, List.length_nil]; omega) | (intros; first | omega | assumption | (simp_all; done) | grind)) ?_   -- r10.10
      refine callG_of _ (autoroute_done_ok _ pr i) ?_   -- r10.10#0
      simp (disch := omega) only [go_sem, ↓reduceIte, Nat.reduceEqDiff, Nat.reduceLT, Nat.reduceLeDiff, Nat.reduceAdd, Nat.reduceSub, Nat.reduceMul, reduceCtorEq, Int.reduceToNat, Int.reduceNeg]
      repeat refine And.intro (by first | omega | assumption | (simp only [List.length_append, List.length_cons, List.length_nil]; omega) | (intros; first | omega | assumption | (simp_all; done) | grind)) ?_   -- r10.10
      refine hK15 _ ?_; clear hK15
      refine aw_seq fun K16 hK16 => ?_
      refine aw_seq fun K17 hK17 => ?_
      refine aw_reg [2, 4, 5, 14, 15, 16, 17, 18, 19, 20, 35, 37, 38, 39] (by kernel_rfl) ?_   -- r11.11
      simp (disch := omega) only [go_sem, ↓reduceIte, Nat.reduceEqDiff, Nat.reduceLT, Nat.reduceLeDiff, Nat.reduceAdd, Nat.reduceSub, Nat.reduceMul, reduceCtorEq, Int.reduceToNat, Int.reduceNeg]
      repeat refine And.intro (by first | omega | assumption | (simp only [List.length_append, List.length_cons, List.length_nil]; omega) | (intros; first | omega | assumption | (simp_all; done) | grind)) ?_   -- r11.11
      refine callC_to (fun g0 => autoroute_agenda_mayBegin_ok _ t s tr p.fStarts pr now i (atN pr i) hs hl hf hb hb2 (by omega) (by simpa using g0)) ?_ ?_ ?_   -- r11.11#0
      · first | exact fun _ => trivial | simp
      · rfl
      simp (disch := omega) only [go_sem, ↓reduceIte, Nat.reduceEqDiff, Nat.reduceLT, Nat.reduceLeDiff, Nat.reduceAdd, Nat.reduceSub, Nat.reduceMul, reduceCtorEq, Int.reduceToNat, Int.reduceNeg]
      repeat refine And.intro (by first | omega | assumption | (simp only [List.length_append, List.length_cons, List.length_nil]; omega) | (intros; first | omega | assumption | (simp_all; done) | grind)) ?_   -- r11.11
      refine hK17 _ ?_; clear hK17
      refine aw_cond _ (by rfl) (rfl) (fun c2 => ?_) (fun c2 => ?_)   -- c2
      · try simp only [decide_eq_true_eq, decide_eq_false_iff_not, Bool.not_eq_true', Bool.not_eq_false', beq_iff_eq, bne_iff_ne, beq_eq_false_iff_ne, bne_eq_false_iff_eq, Bool.not_eq_true, Bool.not_eq_false, Int.not_lt, Int.not_le, Nat.not_lt, Nat.not_le, ne_eq, Int.ofNat_inj, Bool.and_eq_true, Bool.or_eq_true, Bool.and_eq_false_iff, Bool.or_eq_false_iff, Bool.not_eq_eq_eq_not, Bool.not_true, Bool.not_false] at c2   -- c2.t
        have hP : cP t s tr p.fStarts pr now i = false := (by simp only [cP]; grind)
        refine aw_exit ?_
        refine hK13 _ ?_; clear hK13
        refine aw_reg [2, 4, 5, 14, 15, 16, 17, 35, 37, 38, 39] (by kernel_rfl) ?_   -- r15.12
        simp (disch := omega) only [go_sem, ↓reduceIte, Nat.reduceEqDiff, Nat.reduceLT, Nat.reduceLeDiff, Nat.reduceAdd, Nat.reduceSub, Nat.reduceMul, reduceCtorEq, Int.reduceToNat, Int.reduceNeg]
        repeat refine And.intro (by first | omega | assumption | (simp only [List.length_append, List.length_cons, List.length_nil]; omega) | (intros; first | omega | assumption | (simp_all; done) | grind)) ?_   -- r15.12
        refine hK10 _ _ ?_ ⟨i + 1, cl, dc, rfl, ?_, ?_, ?_, ?_, ?_, ?_⟩   -- L0.0
        · first | assumption | omega | (simp only [List.length_append, List.length_cons, List.length_nil] at *; omega) | (simp_all; done)   -- L0.0.meas
        · first | assumption | omega | (simp only [List.length_append, List.length_cons, List.length_nil] at *; omega) | (simp_all; done)   -- L0.0.inv0
        · rw [dc_f hP]; exact l0_1   -- L0.0.inv1
        · rw [dc_f hP]; exact l0_2   -- L0.0.inv2
        · first | assumption | omega | (simp only [List.length_append, List.length_cons, List.length_nil] at *; omega) | (simp_all; done)   -- L0.0.inv3
        · first | assumption | omega | (simp only [List.length_append, List.length_cons, List.length_nil] at *; omega) | (simp_all; done)   -- L0.0.inv4
        · simp (disch := omega) only [go_sem, ↓reduceIte, Nat.reduceEqDiff, Nat.reduceLT, Nat.reduceLeDiff, Nat.reduceAdd, Nat.reduceSub, Nat.reduceMul, reduceCtorEq, Int.reduceToNat, Int.reduceNeg] <;> first | rfl | omega | simp | simp_all   -- L0.0.env
      · try simp only [decide_eq_true_eq, decide_eq_false_iff_not, Bool.not_eq_true', Bool.not_eq_false', beq_iff_eq, bne_iff_ne, beq_eq_false_iff_ne, bne_eq_false_iff_eq, Bool.not_eq_true, Bool.not_eq_false, Int.not_lt, Int.not_le, Nat.not_lt, Nat.not_le, ne_eq, Int.ofNat_inj, Bool.and_eq_true, Bool.or_eq_true, Bool.and_eq_false_iff, Bool.or_eq_false_iff, Bool.not_eq_eq_eq_not, Bool.not_true, Bool.not_false] at c2   -- c2.f
        have hP : cP t s tr p.fStarts pr now i = true := (by simp only [cP]; grind)
        refine aw_skip ?_
        refine hK16 _ ?_; clear hK16
        refine aw_seq fun K18 hK18 => ?_
        refine aw_reg [2, 4, 5, 14, 15, 16, 17, 18, 19, 20, 35, 37, 38, 39] (by kernel_rfl) ?_   -- r12.13
        simp (disch := omega) only [go_sem, ↓reduceIte, Nat.reduceEqDiff, Nat.reduceLT, Nat.reduceLeDiff, Nat.reduceAdd, Nat.reduceSub, Nat.reduceMul, reduceCtorEq, Int.reduceToNat, Int.reduceNeg]
        repeat refine And.intro (by first | omega | assumption | (simp only [List.length_append, List.length_cons, List.length_nil]; omega) | (intros; first | omega | assumption | (simp_all; done) | grind)) ?_   -- r12.13
        refine hK18 _ ?_; clear hK18
        refine aw_seq fun K19 hK19 => ?_
        refine aw_reg [2, 4, 5, 14, 15, 16, 17, 18, 20, 21, 35, 37, 38, 39] (by kernel_rfl) ?_   -- r13.14
        simp (disch := omega) only [go_sem, ↓reduceIte, Nat.reduceEqDiff, Nat.reduceLT, Nat.reduceLeDiff, Nat.reduceAdd, Nat.reduceSub, Nat.reduceMul, reduceCtorEq, Int.reduceToNat, Int.reduceNeg]
        repeat refine And.intro (by first | omega | assumption | (simp only [List.length_append, List.length_cons, List.length_nil]; omega) | (intros; first | omega | assumption | (simp_all; done) | grind)) ?_   -- r13.14
        refine hK19 _ ?_; clear hK19
        refine aw_reg [2, 4, 5, 14, 15, 16, 17, 18, 20, 21, 35, 37, 38, 39] (by kernel_rfl) ?_   -- r14.15
        simp (disch := omega) only [go_sem, ↓reduceIte, Nat.reduceEqDiff, Nat.reduceLT, Nat.reduceLeDiff, Nat.reduceAdd, Nat.reduceSub, Nat.reduceMul, reduceCtorEq, Int.reduceToNat, Int.reduceNeg]
        repeat refine And.intro (by first | omega | assumption | (simp only [List.length_append, List.length_cons, List.length_nil]; omega) | (intros; first | omega | assumption | (simp_all; done) | grind)) ?_   -- r14.15
        refine hK13 _ ?_; clear hK13
        refine aw_reg [2, 4, 5, 14, 15, 16, 17, 35, 37, 38, 39] (by kernel_rfl) ?_   -- r15.16
        simp (disch := omega) only [go_sem, ↓reduceIte, Nat.reduceEqDiff, Nat.reduceLT, Nat.reduceLeDiff, Nat.reduceAdd, Nat.reduceSub, Nat.reduceMul, reduceCtorEq, Int.reduceToNat, Int.reduceNeg]
        repeat refine And.intro (by first | omega | assumption | (simp only [List.length_append, List.length_cons, List.length_nil]; omega) | (intros; first | omega | assumption | (simp_all; done) | grind)) ?_   -- r15.16
        refine hK10 _ _ ?_ ⟨i + 1, cl ++ [rtS tr i (atN pr i)], dc ++ [cD tr pr now i], rfl, ?_, ?_, ?_, ?_, ?_, ?_⟩   -- L0.1
        · first | assumption | omega | (simp only [List.length_append, List.length_cons, List.length_nil] at *; omega) | (simp_all; done)   -- L0.1.meas
        · first | assumption | omega | (simp only [List.length_append, List.length_cons, List.length_nil] at *; omega) | (simp_all; done)   -- L0.1.inv0
        · rw [dc_t hP, l0_1, List.map_append]; rfl   -- L0.1.inv1
        · rw [dc_t hP, l0_2]   -- L0.1.inv2
        · first | assumption | omega | (simp only [List.length_append, List.length_cons, List.length_nil] at *; omega) | (simp_all; done)   -- L0.1.inv3
        · first | assumption | omega | (simp only [List.length_append, List.length_cons, List.length_nil] at *; omega) | (simp_all; done)   -- L0.1.inv4
        · simp (disch := omega) only [go_sem, ↓reduceIte, Nat.reduceEqDiff, Nat.reduceLT, Nat.reduceLeDiff, Nat.reduceAdd, Nat.reduceSub, Nat.reduceMul, reduceCtorEq, Int.reduceToNat, Int.reduceNeg] <;> first | rfl | omega | simp | simp_all   -- L0.1.env
    · try simp only [decide_eq_true_eq, decide_eq_false_iff_not, Bool.not_eq_true', Bool.not_eq_false', beq_iff_eq, bne_iff_ne, beq_eq_false_iff_ne, bne_eq_false_iff_eq, Bool.not_eq_true, Bool.not_eq_false, Int.not_lt, Int.not_le, Nat.not_lt, Nat.not_le, ne_eq, Int.ofNat_inj, Bool.and_eq_true, Bool.or_eq_true, Bool.and_eq_false_iff, Bool.or_eq_false_iff, Bool.not_eq_eq_eq_not, Bool.not_true, Bool.not_false] at c1   -- c1.f
      refine aw_exit ?_
      refine hK8 _ ?_; clear hK8
      refine aw_seq fun K20 hK20 => ?_
      refine aw_frzL 16 _ rfl rfl ?_   -- r16.17
      refine aw_frzL 17 _ rfl rfl ?_
      refine aw_reg [16, 17] (by kernel_rfl) ?_   -- r16.17
      simp (disch := omega) only [go_sem, ↓reduceIte, Nat.reduceEqDiff, Nat.reduceLT, Nat.reduceLeDiff, Nat.reduceAdd, Nat.reduceSub, Nat.reduceMul, reduceCtorEq, Int.reduceToNat, Int.reduceNeg]
      repeat refine And.intro (by first | omega | assumption | (simp only [List.length_append, List.length_cons, List.length_nil]; omega) | (intros; first | omega | assumption | (simp_all; done) | grind)) ?_   -- r16.17
      refine callG_of _ (idset_Make_ok _ cl (by omega)) ?_   -- r16.17#0
      simp (disch := omega) only [go_sem, ↓reduceIte, Nat.reduceEqDiff, Nat.reduceLT, Nat.reduceLeDiff, Nat.reduceAdd, Nat.reduceSub, Nat.reduceMul, reduceCtorEq, Int.reduceToNat, Int.reduceNeg]
      repeat refine And.intro (by first | omega | assumption | (simp only [List.length_append, List.length_cons, List.length_nil]; omega) | (intros; first | omega | assumption | (simp_all; done) | grind)) ?_   -- r16.17
      refine hK20 _ ?_; clear hK20
      refine aw_ret ?_
      refine ret_tup rfl (by simp (disch := omega) only [go_sem, ↓reduceIte, Nat.reduceEqDiff, Nat.reduceLT, Nat.reduceLeDiff, Nat.reduceAdd, Nat.reduceSub, Nat.reduceMul, reduceCtorEq, Int.reduceToNat, Int.reduceNeg]) (.cons ?_ (.cons ?_ .nil))   -- ret1
      · exact roL rfl (by rw [clsS, if_pos c0, l0_1, show i = tr.length by omega])   -- ret1.0
      · exact roL rfl (by rw [dcsS, if_pos c0, l0_2, show i = tr.length by omega])   -- ret1.1

theorem ref50_Calls_ok (O : Env) (t : Table) (s : Inter) (tr : List Trip) (p : Schedule) (pr : List Int) (now : Int) (hs : SmT t) (hn : t.fRoutes.length ≤ 80) (hb : tr.length ≤ 1000) (hb2 : ∀ k, (tr.getD k default).fStops.length ≤ 1000) : PCall Tryz.prog O 10 [.agg (eTable t), .agg (eInter s), encTr tr, .agg (eSchedule p), encI pr, vi now] (.tup [encI (clsS t s tr p pr now), encDc (dcsS t s tr p pr now)]) := by
  -- signalling/signallingref50.Calls
  refine pcall_of_aw Tryz.func10 rfl (by kernel_rfl) ?_
  refine aw_seq fun K0 hK0 => ?_
  refine aw_reg [0, 1, 2, 3, 4, 5] (by kernel_rfl) ?_   -- r0.0
  simp (disch := omega) only [go_sem, ↓reduceIte, Nat.reduceEqDiff, Nat.reduceLT, Nat.reduceLeDiff, Nat.reduceAdd, Nat.reduceSub, Nat.reduceMul, reduceCtorEq, Int.reduceToNat, Int.reduceNeg]
  repeat refine And.intro (by first | omega | assumption | (simp only [List.length_append, List.length_cons, List.length_nil]; omega) | (intros; first | omega | assumption | (simp_all; done) | grind)) ?_   -- r0.0
  refine hK0 _ ?_; clear hK0
  refine aw_seq fun K1 hK1 => ?_
  refine aw_seq fun K2 hK2 => ?_
  refine aw_reg [2, 4, 5, 6, 7, 9] (by kernel_rfl) ?_   -- r1.1
  simp (disch := omega) only [go_sem, ↓reduceIte, Nat.reduceEqDiff, Nat.reduceLT, Nat.reduceLeDiff, Nat.reduceAdd, Nat.reduceSub, Nat.reduceMul, reduceCtorEq, Int.reduceToNat, Int.reduceNeg]
  repeat refine And.intro (by first | omega | assumption | (simp only [List.length_append, List.length_cons, List.length_nil]; omega) | (intros; first | omega | assumption | (simp_all; done) | grind)) ?_   -- r1.1
  refine callG_of _ (ref50_Fits_ok _ tr p) ?_   -- r1.1#0
  simp (disch := omega) only [go_sem, ↓reduceIte, Nat.reduceEqDiff, Nat.reduceLT, Nat.reduceLeDiff, Nat.reduceAdd, Nat.reduceSub, Nat.reduceMul, reduceCtorEq, Int.reduceToNat, Int.reduceNeg]
  repeat refine And.intro (by first | omega | assumption | (simp only [List.length_append, List.length_cons, List.length_nil]; omega) | (intros; first | omega | assumption | (simp_all; done) | grind)) ?_   -- r1.1
  refine hK2 _ ?_; clear hK2
  refine aw_cond _ (by rfl) (rfl) (fun c0 => ?_) (fun c0 => ?_)   -- c0
  · try simp only [decide_eq_true_eq, decide_eq_false_iff_not, Bool.not_eq_true', Bool.not_eq_false', beq_iff_eq, bne_iff_ne, beq_eq_false_iff_ne, bne_eq_false_iff_eq, Bool.not_eq_true, Bool.not_eq_false, Int.not_lt, Int.not_le, Nat.not_lt, Nat.not_le, ne_eq, Int.ofNat_inj, Bool.and_eq_true, Bool.or_eq_true, Bool.and_eq_false_iff, Bool.or_eq_false_iff, Bool.not_eq_eq_eq_not, Bool.not_true, Bool.not_false] at c0   -- c0.t
    refine aw_seq fun K3 hK3 => ?_
    refine aw_reg [] (by kernel_rfl) ?_   -- r2.2
    simp (disch := omega) only [go_sem, ↓reduceIte, Nat.reduceEqDiff, Nat.reduceLT, Nat.reduceLeDiff, Nat.reduceAdd, Nat.reduceSub, Nat.reduceMul, reduceCtorEq, Int.reduceToNat, Int.reduceNeg]
    repeat refine And.intro (by first | omega | assumption | (simp only [List.length_append, List.length_cons, List.length_nil]; omega) | (intros; first | omega | assumption | (simp_all; done) | grind)) ?_   -- r2.2
    refine hK3 _ ?_; clear hK3
    refine aw_ret ?_
    refine ret_tup rfl (by simp (disch := omega) only [go_sem, ↓reduceIte, Nat.reduceEqDiff, Nat.reduceLT, Nat.reduceLeDiff, Nat.reduceAdd, Nat.reduceSub, Nat.reduceMul, reduceCtorEq, Int.reduceToNat, Int.reduceNeg]) (.cons ?_ (.cons ?_ .nil))   -- ret0
    · exact roN (by simp (disch := omega) only [go_sem, ↓reduceIte, Nat.reduceEqDiff, Nat.reduceLT, Nat.reduceLeDiff, Nat.reduceAdd, Nat.reduceSub, Nat.reduceMul, reduceCtorEq, Int.reduceToNat, Int.reduceNeg]) (by rw [clsS, if_neg (by simp [c0])])   -- ret0.0
    · exact roN (by simp (disch := omega) only [go_sem, ↓reduceIte, Nat.reduceEqDiff, Nat.reduceLT, Nat.reduceLeDiff, Nat.reduceAdd, Nat.reduceSub, Nat.reduceMul, reduceCtorEq, Int.reduceToNat, Int.reduceNeg]) (by rw [dcsS, if_neg (by simp [c0])])   -- ret0.1
  · try simp only [decide_eq_true_eq, decide_eq_false_iff_not, Bool.not_eq_true', Bool.not_eq_false', beq_iff_eq, bne_iff_ne, beq_eq_false_iff_ne, bne_eq_false_iff_eq, Bool.not_eq_true, Bool.not_eq_false, Int.not_lt, Int.not_le, Nat.not_lt, Nat.not_le, ne_eq, Int.ofNat_inj, Bool.and_eq_true, Bool.or_eq_true, Bool.and_eq_false_iff, Bool.or_eq_false_iff, Bool.not_eq_eq_eq_not, Bool.not_true, Bool.not_false] at c0   -- c0.f
    have hl := (fit_of c0).1
    have hf := (fit_of c0).2
    refine aw_skip ?_
    refine hK1 _ ?_; clear hK1
    refine aw_seq fun K4 hK4 => ?_
    refine aw_reg [2, 4, 5, 6, 7, 9] (by kernel_rfl) ?_   -- r3.3
    simp (disch := omega) only [go_sem, ↓reduceIte, Nat.reduceEqDiff, Nat.reduceLT, Nat.reduceLeDiff, Nat.reduceAdd, Nat.reduceSub, Nat.reduceMul, reduceCtorEq, Int.reduceToNat, Int.reduceNeg]
    repeat refine And.intro (by first | omega | assumption | (simp only [List.length_append, List.length_cons, List.length_nil]; omega) | (intros; first | omega | assumption | (simp_all; done) | grind)) ?_   -- r3.3
    refine hK4 _ ?_; clear hK4
    refine aw_seq fun K5 hK5 => ?_
    refine aw_reg [2, 4, 5, 6, 7, 9, 14] (by kernel_rfl) ?_   -- r4.4
    simp (disch := omega) only [go_sem, ↓reduceIte, Nat.reduceEqDiff, Nat.reduceLT, Nat.reduceLeDiff, Nat.reduceAdd, Nat.reduceSub, Nat.reduceMul, reduceCtorEq, Int.reduceToNat, Int.reduceNeg]
    repeat refine And.intro (by first | omega | assumption | (simp only [List.length_append, List.length_cons, List.length_nil]; omega) | (intros; first | omega | assumption | (simp_all; done) | grind)) ?_   -- r4.4
    refine hK5 _ ?_; clear hK5
    refine aw_seq fun K6 hK6 => ?_
    refine aw_seq fun K7 hK7 => ?_
    refine aw_reg [2, 4, 5, 6, 7, 9, 14, 15] (by kernel_rfl) ?_   -- r5.5
    simp (disch := omega) only [go_sem, ↓reduceIte, Nat.reduceEqDiff, Nat.reduceLT, Nat.reduceLeDiff, Nat.reduceAdd, Nat.reduceSub, Nat.reduceMul, reduceCtorEq, Int.reduceToNat, Int.reduceNeg]
    repeat refine And.intro (by first | omega | assumption | (simp only [List.length_append, List.length_cons, List.length_nil]; omega) | (intros; first | omega | assumption | (simp_all; done) | grind)) ?_   -- r5.5
    refine hK7 _ ?_; clear hK7
    refine aw_block ?_
    refine aw_nilR 14 47 5 eDecision rfl rfl ?_
    refine aw_loopK [2, 4, 5, 6, 7, 9, 14, 15, 30, 31, 32] (fun n ρ => ∃ i, ∃ dc, ∃ cd, n = tr.length - i ∧ (i ≤ tr.length) ∧ (dc = dcL t s tr p.fStarts pr now i) ∧ (dc.length ≤ i) ∧ (cd = cdL t s tr p.fStarts pr now t.fRoutes.length i) ∧ (cd.length = t.fRoutes.length) ∧ ρ = mkE O [(2, encTr tr), (4, encI pr), (5, vi now), (6, .bx (eTable t)), (7, .bx (eInter s)), (9, .bx (eSchedule p)), (14, rowD dc), (15, rowB cd), (30, encTr tr), (31, vi (tr.length : Nat)), (32, vi (i : Nat))]) _ ⟨0, [], List.replicate t.fRoutes.length false, rfl, ?_, ?_, ?_, ?_, ?_, ?_⟩ ?_   -- L0
    · first | assumption | omega | (simp only [List.length_append, List.length_cons, List.length_nil] at *; omega) | (simp_all; done)   -- L0.init.inv0
    · rfl   -- L0.init.inv1
    · first | assumption | omega | (simp only [List.length_append, List.length_cons, List.length_nil] at *; omega) | (simp_all; done)   -- L0.init.inv2
    · exact (cd_0 _).symm   -- L0.init.inv3
    · simp   -- L0.init.inv4
    · simp (disch := omega) only [go_sem, ↓reduceIte, Nat.reduceEqDiff, Nat.reduceLT, Nat.reduceLeDiff, Nat.reduceAdd, Nat.reduceSub, Nat.reduceMul, reduceCtorEq, Int.reduceToNat, Int.reduceNeg] <;> first | rfl | omega | simp | simp_all   -- L0.init.env
    rintro n ρ ⟨i, dc, cd, rfl, l0_0, l0_1, l0_2, l0_3, l0_4, rfl⟩ K8 hK8
    have hb3 := hb2 i
    have hfk := hf i
    refine aw_seq fun K9 hK9 => ?_
    refine aw_reg [2, 4, 5, 6, 7, 9, 14, 15, 30, 31, 32] (by kernel_rfl) ?_   -- r6.6
    simp (disch := omega) only [go_sem, ↓reduceIte, Nat.reduceEqDiff, Nat.reduceLT, Nat.reduceLeDiff, Nat.reduceAdd, Nat.reduceSub, Nat.reduceMul, reduceCtorEq, Int.reduceToNat, Int.reduceNeg]
    repeat refine And.intro (by first | omega | assumption | (simp only [List.length_append, List.length_cons, List.length_nil]; omega) | (intros; first | omega | assumption | (simp_all; done) | grind)) ?_   -- r6.6
    refine hK9 _ ?_; clear hK9
    refine aw_seq fun K10 hK10 => ?_
    refine aw_cond _ (by rfl) (rfl) (fun c1 => ?_) (fun c1 => ?_)   -- c1
    · try simp only [decide_eq_true_eq, decide_eq_false_iff_not, Bool.not_eq_true', Bool.not_eq_false', beq_iff_eq, bne_iff_ne, beq_eq_false_iff_ne, bne_eq_false_iff_eq, Bool.not_eq_true, Bool.not_eq_false, Int.not_lt, Int.not_le, Nat.not_lt, Nat.not_le, ne_eq, Int.ofNat_inj, Bool.and_eq_true, Bool.or_eq_true, Bool.and_eq_false_iff, Bool.or_eq_false_iff, Bool.not_eq_eq_eq_not, Bool.not_true, Bool.not_false] at c1   -- c1.t
      have hfj := hfk (by omega)
      refine aw_skip ?_
      refine hK10 _ ?_; clear hK10
      refine aw_seq fun K11 hK11 => ?_
      refine aw_block ?_
      refine aw_seq fun K12 hK12 => ?_
      refine aw_reg [2, 4, 5, 6, 7, 9, 14, 15, 30, 31, 32] (by kernel_rfl) ?_   -- r7.7
      simp (disch := omega) only [go_sem, ↓reduceIte, Nat.reduceEqDiff, Nat.reduceLT, Nat.reduceLeDiff, Nat.reduceAdd, Nat.reduceSub, Nat.reduceMul, reduceCtorEq, Int.reduceToNat, Int.reduceNeg]
      repeat refine And.intro (by first | omega | assumption | (simp only [List.length_append, List.length_cons, List.length_nil]; omega) | (intros; first | omega | assumption | (simp_all; done) | grind)) ?_   -- r7.7
      refine hK12 _ ?_; clear hK12
      refine aw_seq fun K13 hK13 => ?_
      refine aw_reg [2, 4, 5, 6, 7, 9, 14, 15, 16, 17, 30, 31, 32] (by kernel_rfl) ?_   -- r8.8
      simp (disch := omega) only [go_sem, ↓reduceIte, Nat.reduceEqDiff, Nat.reduceLT, Nat.reduceLeDiff, Nat.reduceAdd, Nat.reduceSub, Nat.reduceMul, reduceCtorEq, Int.reduceToNat, Int.reduceNeg]
      repeat refine And.intro (by first | omega | assumption | (simp only [List.length_append, List.length_cons, List.length_nil]; omega) | (intros; first | omega | assumption | (simp_all; done) | grind)) ?_   -- r8.8
      refine callG_of _ (ref50_At_ok _ pr i) ?_   -- r8.8#0
      simp (disch := omega) only [go_sem, ↓reduceIte, Nat.reduceEqDiff, Nat.reduceLT, Nat.reduceLeDiff, Nat.reduceAdd, Nat.reduceSub, Nat.reduceMul, reduceCtorEq, Int.reduceToNat, Int.reduceNeg]
      repeat refine And.intro (by first | omega | assumption | (simp only [List.length_append, List.length_cons, List.length_nil]; omega) | (intros; first | omega | assumption | (simp_all; done) | grind)) ?_   -- r8.8
      refine hK13 _ ?_; clear hK13
      refine aw_seq fun K14 hK14 => ?_
      refine aw_seq fun K15 hK15 => ?_
      refine aw_reg [2, 4, 5, 6, 7, 9, 14, 15, 16, 17, 18, 30, 31, 32] (by kernel_rfl) ?_   -- r9.9
      simp (disch := omega) only [go_sem, ↓reduceIte, Nat.reduceEqDiff, Nat.reduceLT, Nat.reduceLeDiff, Nat.reduceAdd, Nat.reduceSub, Nat.reduceMul, reduceCtorEq, Int.reduceToNat, Int.reduceNeg]
      repeat refine And.intro (by first | omega | assumption | (simp only [List.length_append, List.length_cons, List.length_nil]; omega) | (intros; first | omega | assumption | (simp_all; done) | grind)) ?_   -- r9.9
      refine hK15 _ ?_; clear hK15
      refine aw_cond _ (by rfl) (rfl) (fun c2 => ?_) (fun c2 => ?_)   -- c2
      · try simp only [decide_eq_true_eq, decide_eq_false_iff_not, Bool.not_eq_true', Bool.not_eq_false', beq_iff_eq, bne_iff_ne, beq_eq_false_iff_ne, bne_eq_false_iff_eq, Bool.not_eq_true, Bool.not_eq_false, Int.not_lt, Int.not_le, Nat.not_lt, Nat.not_le, ne_eq, Int.ofNat_inj, Bool.and_eq_true, Bool.or_eq_true, Bool.and_eq_false_iff, Bool.or_eq_false_iff, Bool.not_eq_eq_eq_not, Bool.not_true, Bool.not_false] at c2   -- c2.t
        have hP : cP t s tr p.fStarts pr now i = false := (by simp only [cP]; grind)
        refine aw_exit ?_
        refine hK11 _ ?_; clear hK11
        refine aw_reg [2, 4, 5, 6, 7, 9, 14, 15, 30, 31, 32] (by kernel_rfl) ?_   -- r14.10
        simp (disch := omega) only [go_sem, ↓reduceIte, Nat.reduceEqDiff, Nat.reduceLT, Nat.reduceLeDiff, Nat.reduceAdd, Nat.reduceSub, Nat.reduceMul, reduceCtorEq, Int.reduceToNat, Int.reduceNeg]
        repeat refine And.intro (by first | omega | assumption | (simp only [List.length_append, List.length_cons, List.length_nil]; omega) | (intros; first | omega | assumption | (simp_all; done) | grind)) ?_   -- r14.10
        refine hK8 _ _ ?_ ⟨i + 1, dc, cd, rfl, ?_, ?_, ?_, ?_, ?_, ?_⟩   -- L0.0
        · first | assumption | omega | (simp only [List.length_append, List.length_cons, List.length_nil] at *; omega) | (simp_all; done)   -- L0.0.meas
        · first | assumption | omega | (simp only [List.length_append, List.length_cons, List.length_nil] at *; omega) | (simp_all; done)   -- L0.0.inv0
        · rw [dc_f hP]; exact l0_1   -- L0.0.inv1
        · first | assumption | omega | (simp only [List.length_append, List.length_cons, List.length_nil] at *; omega) | (simp_all; done)   -- L0.0.inv2
        · rw [cd_f hP]; exact l0_3   -- L0.0.inv3
        · first | assumption | omega | (simp only [List.length_append, List.length_cons, List.length_nil] at *; omega) | (simp_all; done)   -- L0.0.inv4
        · simp (disch := omega) only [go_sem, ↓reduceIte, Nat.reduceEqDiff, Nat.reduceLT, Nat.reduceLeDiff, Nat.reduceAdd, Nat.reduceSub, Nat.reduceMul, reduceCtorEq, Int.reduceToNat, Int.reduceNeg] <;> first | rfl | omega | simp | simp_all   -- L0.0.env
      · try simp only [decide_eq_true_eq, decide_eq_false_iff_not, Bool.not_eq_true', Bool.not_eq_false', beq_iff_eq, bne_iff_ne, beq_eq_false_iff_ne, bne_eq_false_iff_eq, Bool.not_eq_true, Bool.not_eq_false, Int.not_lt, Int.not_le, Nat.not_lt, Nat.not_le, ne_eq, Int.ofNat_inj, Bool.and_eq_true, Bool.or_eq_true, Bool.and_eq_false_iff, Bool.or_eq_false_iff, Bool.not_eq_eq_eq_not, Bool.not_true, Bool.not_false] at c2   -- c2.f
        refine aw_skip ?_
        refine hK14 _ ?_; clear hK14
        refine aw_seq fun K16 hK16 => ?_
        refine aw_reg [2, 4, 5, 6, 7, 9, 14, 15, 16, 17, 18, 30, 31, 32] (by kernel_rfl) ?_   -- r10.11
        simp (disch := omega) only [go_sem, ↓reduceIte, Nat.reduceEqDiff, Nat.reduceLT, Nat.reduceLeDiff, Nat.reduceAdd, Nat.reduceSub, Nat.reduceMul, reduceCtorEq, Int.reduceToNat, Int.reduceNeg]
        repeat refine And.intro (by first | omega | assumption | (simp only [List.length_append, List.length_cons, List.length_nil]; omega) | (intros; first | omega | assumption | (simp_all; done) | grind)) ?_   -- r10.11
        refine hK16 _ ?_; clear hK16
        refine aw_seq fun K17 hK17 => ?_
        refine aw_reg [2, 4, 5, 6, 7, 9, 14, 15, 16, 18, 19, 30, 31, 32] (by kernel_rfl) ?_   -- r11.12
        simp (disch := omega) only [go_sem, ↓reduceIte, Nat.reduceEqDiff, Nat.reduceLT, Nat.reduceLeDiff, Nat.reduceAdd, Nat.reduceSub, Nat.reduceMul, reduceCtorEq, Int.reduceToNat, Int.reduceNeg]
        repeat refine And.intro (by first | omega | assumption | (intro h; have h9 := ex_of h; refine ⟨h, ?_, ?_⟩ <;> omega) | (intro h; refine ⟨h, ?_⟩; omega) | (simp only [List.length_append, List.length_cons, List.length_nil]; omega) | (intros; first | omega | assumption | (simp_all; done) | grind)) ?_   -- r11.12
        refine callG_of _ (ref50_exists_ok _ t s _) ?_   -- r11.12#0
        simp (disch := omega) only [go_sem, ↓reduceIte, Nat.reduceEqDiff, Nat.reduceLT, Nat.reduceLeDiff, Nat.reduceAdd, Nat.reduceSub, Nat.reduceMul, reduceCtorEq, Int.reduceToNat, Int.reduceNeg]
        repeat refine And.intro (by first | omega | assumption | (intro h; have h9 := ex_of h; refine ⟨h, ?_, ?_⟩ <;> omega) | (intro h; refine ⟨h, ?_⟩; omega) | (simp only [List.length_append, List.length_cons, List.length_nil]; omega) | (intros; first | omega | assumption | (simp_all; done) | grind)) ?_   -- r11.12
        refine callC_to (fun g0 => ref50_blocked_ok _ t s tr p pr i (atN pr i) hs hl hf hb hb2 (by omega) (by omega)) ?_ ?_ ?_   -- r11.12#1
        · first | exact fun _ => trivial | simp
        · rfl
        simp (disch := omega) only [go_sem, ↓reduceIte, Nat.reduceEqDiff, Nat.reduceLT, Nat.reduceLeDiff, Nat.reduceAdd, Nat.reduceSub, Nat.reduceMul, reduceCtorEq, Int.reduceToNat, Int.reduceNeg]
        repeat refine And.intro (by first | omega | assumption | (intro h; have h9 := ex_of h; refine ⟨h, ?_, ?_⟩ <;> omega) | (intro h; refine ⟨h, ?_⟩; omega) | (simp only [List.length_append, List.length_cons, List.length_nil]; omega) | (intros; first | omega | assumption | (simp_all; done) | grind)) ?_   -- r11.12
        refine hK17 _ ?_; clear hK17
        refine aw_cond _ (by rfl) (rfl) (fun c3 => ?_) (fun c3 => ?_)   -- c3
        · try simp only [decide_eq_true_eq, decide_eq_false_iff_not, Bool.not_eq_true', Bool.not_eq_false', beq_iff_eq, bne_iff_ne, beq_eq_false_iff_ne, bne_eq_false_iff_eq, Bool.not_eq_true, Bool.not_eq_false, Int.not_lt, Int.not_le, Nat.not_lt, Nat.not_le, ne_eq, Int.ofNat_inj, Bool.and_eq_true, Bool.or_eq_true, Bool.and_eq_false_iff, Bool.or_eq_false_iff, Bool.not_eq_eq_eq_not, Bool.not_true, Bool.not_false] at c3   -- c3.t
          have hP : cP t s tr p.fStarts pr now i = true := (by simp only [cP, mayB, rtS, stS, stN]; grind)
          have h9 := ex_of (cP_ex hP)
          simp only [rtS] at h9
          refine aw_seq fun K18 hK18 => ?_
          refine aw_reg [2, 4, 5, 6, 7, 9, 14, 15, 16, 18, 19, 30, 31, 32] (by kernel_rfl) ?_   -- r12.13
          simp (disch := omega) only [go_sem, ↓reduceIte, Nat.reduceEqDiff, Nat.reduceLT, Nat.reduceLeDiff, Nat.reduceAdd, Nat.reduceSub, Nat.reduceMul, reduceCtorEq, Int.reduceToNat, Int.reduceNeg]
          repeat refine And.intro (by first | omega | assumption | (simp only [List.length_append, List.length_cons, List.length_nil]; omega) | (intros; first | omega | assumption | (simp_all; done) | grind)) ?_   -- r12.13
          refine hK18 _ ?_; clear hK18
          refine aw_reg [2, 4, 5, 6, 7, 9, 14, 15, 16, 18, 19, 30, 31, 32] (by kernel_rfl) ?_   -- r13.14
          simp (disch := omega) only [go_sem, ↓reduceIte, Nat.reduceEqDiff, Nat.reduceLT, Nat.reduceLeDiff, Nat.reduceAdd, Nat.reduceSub, Nat.reduceMul, reduceCtorEq, Int.reduceToNat, Int.reduceNeg]
          repeat refine And.intro (by first | omega | assumption | (simp only [List.length_append, List.length_cons, List.length_nil]; omega) | (intros; first | omega | assumption | (simp_all; done) | grind)) ?_   -- r13.14
          refine hK11 _ ?_; clear hK11
          refine aw_reg [2, 4, 5, 6, 7, 9, 14, 15, 30, 31, 32] (by kernel_rfl) ?_   -- r14.15
          simp (disch := omega) only [go_sem, ↓reduceIte, Nat.reduceEqDiff, Nat.reduceLT, Nat.reduceLeDiff, Nat.reduceAdd, Nat.reduceSub, Nat.reduceMul, reduceCtorEq, Int.reduceToNat, Int.reduceNeg]
          repeat refine And.intro (by first | omega | assumption | (simp only [List.length_append, List.length_cons, List.length_nil]; omega) | (intros; first | omega | assumption | (simp_all; done) | grind)) ?_   -- r14.15
          refine hK8 _ _ ?_ ⟨i + 1, dc ++ [cD tr pr now i], cd.set (rtS tr i (atN pr i)).toNat true, rfl, ?_, ?_, ?_, ?_, ?_, ?_⟩   -- L0.1
          · first | assumption | omega | (simp only [List.length_append, List.length_cons, List.length_nil] at *; omega) | (simp_all; done)   -- L0.1.meas
          · first | assumption | omega | (simp only [List.length_append, List.length_cons, List.length_nil] at *; omega) | (simp_all; done)   -- L0.1.inv0
          · rw [dc_t hP, l0_1]   -- L0.1.inv1
          · first | assumption | omega | (simp only [List.length_append, List.length_cons, List.length_nil] at *; omega) | (simp_all; done)   -- L0.1.inv2
          · rw [cd_t hP, l0_3]   -- L0.1.inv3
          · rw [List.length_set]; exact l0_4   -- L0.1.inv4
          · simp (disch := omega) only [go_sem, ↓reduceIte, Nat.reduceEqDiff, Nat.reduceLT, Nat.reduceLeDiff, Nat.reduceAdd, Nat.reduceSub, Nat.reduceMul, reduceCtorEq, Int.reduceToNat, Int.reduceNeg] <;> first | rfl | omega | simp | simp_all   -- L0.1.env
        · try simp only [decide_eq_true_eq, decide_eq_false_iff_not, Bool.not_eq_true', Bool.not_eq_false', beq_iff_eq, bne_iff_ne, beq_eq_false_iff_ne, bne_eq_false_iff_eq, Bool.not_eq_true, Bool.not_eq_false, Int.not_lt, Int.not_le, Nat.not_lt, Nat.not_le, ne_eq, Int.ofNat_inj, Bool.and_eq_true, Bool.or_eq_true, Bool.and_eq_false_iff, Bool.or_eq_false_iff, Bool.not_eq_eq_eq_not, Bool.not_true, Bool.not_false] at c3   -- c3.f
          have hP : cP t s tr p.fStarts pr now i = false := (by simp only [cP, mayB, rtS, stS, stN]; grind)
          refine aw_skip ?_
          refine hK11 _ ?_; clear hK11
          refine aw_reg [2, 4, 5, 6, 7, 9, 14, 15, 30, 31, 32] (by kernel_rfl) ?_   -- r14.16
          simp (disch := omega) only [go_sem, ↓reduceIte, Nat.reduceEqDiff, Nat.reduceLT, Nat.reduceLeDiff, Nat.reduceAdd, Nat.reduceSub, Nat.reduceMul, reduceCtorEq, Int.reduceToNat, Int.reduceNeg]
          repeat refine And.intro (by first | omega | assumption | (simp only [List.length_append, List.length_cons, List.length_nil]; omega) | (intros; first | omega | assumption | (simp_all; done) | grind)) ?_   -- r14.16
          refine hK8 _ _ ?_ ⟨i + 1, dc, cd, rfl, ?_, ?_, ?_, ?_, ?_, ?_⟩   -- L0.2
          · first | assumption | omega | (simp only [List.length_append, List.length_cons, List.length_nil] at *; omega) | (simp_all; done)   -- L0.2.meas
          · first | assumption | omega | (simp only [List.length_append, List.length_cons, List.length_nil] at *; omega) | (simp_all; done)   -- L0.2.inv0
          · rw [dc_f hP]; exact l0_1   -- L0.2.inv1
          · first | assumption | omega | (simp only [List.length_append, List.length_cons, List.length_nil] at *; omega) | (simp_all; done)   -- L0.2.inv2
          · rw [cd_f hP]; exact l0_3   -- L0.2.inv3
          · first | assumption | omega | (simp only [List.length_append, List.length_cons, List.length_nil] at *; omega) | (simp_all; done)   -- L0.2.inv4
          · simp (disch := omega) only [go_sem, ↓reduceIte, Nat.reduceEqDiff, Nat.reduceLT, Nat.reduceLeDiff, Nat.reduceAdd, Nat.reduceSub, Nat.reduceMul, reduceCtorEq, Int.reduceToNat, Int.reduceNeg] <;> first | rfl | omega | simp | simp_all   -- L0.2.env
    · try simp only [decide_eq_true_eq, decide_eq_false_iff_not, Bool.not_eq_true', Bool.not_eq_false', beq_iff_eq, bne_iff_ne, beq_eq_false_iff_ne, bne_eq_false_iff_eq, Bool.not_eq_true, Bool.not_eq_false, Int.not_lt, Int.not_le, Nat.not_lt, Nat.not_le, ne_eq, Int.ofNat_inj, Bool.and_eq_true, Bool.or_eq_true, Bool.and_eq_false_iff, Bool.or_eq_false_iff, Bool.not_eq_eq_eq_not, Bool.not_true, Bool.not_false] at c1   -- c1.f
      refine aw_exit ?_
      refine hK6 _ ?_; clear hK6
      refine aw_seq fun K19 hK19 => ?_
      refine aw_reg [14, 15] (by kernel_rfl) ?_   -- r15.17
      simp (disch := omega) only [go_sem, ↓reduceIte, Nat.reduceEqDiff, Nat.reduceLT, Nat.reduceLeDiff, Nat.reduceAdd, Nat.reduceSub, Nat.reduceMul, reduceCtorEq, Int.reduceToNat, Int.reduceNeg]
      repeat refine And.intro (by first | omega | assumption | (simp only [List.length_append, List.length_cons, List.length_nil]; omega) | (intros; first | omega | assumption | (simp_all; done) | grind)) ?_   -- r15.17
      refine hK19 _ ?_; clear hK19
      refine aw_seq fun K20 hK20 => ?_
      refine aw_seq fun K21 hK21 => ?_
      refine aw_reg [14, 15, 20] (by kernel_rfl) ?_   -- r16.18
      simp (disch := omega) only [go_sem, ↓reduceIte, Nat.reduceEqDiff, Nat.reduceLT, Nat.reduceLeDiff, Nat.reduceAdd, Nat.reduceSub, Nat.reduceMul, reduceCtorEq, Int.reduceToNat, Int.reduceNeg]
      repeat refine And.intro (by first | omega | assumption | (simp only [List.length_append, List.length_cons, List.length_nil]; omega) | (intros; first | omega | assumption | (simp_all; done) | grind)) ?_   -- r16.18
      refine hK21 _ ?_; clear hK21
      refine aw_block ?_
      refine aw_nilR 20 3 1 eI rfl rfl ?_
      refine aw_frzL 14 _ rfl rfl ?_
      refine aw_loopK [14, 15, 20, 107, 108] (fun n ρ => ∃ j, ∃ out, n = t.fRoutes.length - j ∧ (j ≤ t.fRoutes.length) ∧ (out = rsL t s tr p.fStarts pr now t.fRoutes.length tr.length j) ∧ (out.length ≤ j) ∧ ρ = mkE O [(14, encDc dc), (15, rowB cd), (20, rowI out), (107, vi (t.fRoutes.length : Nat)), (108, vi (j : Nat))]) _ ⟨0, [], rfl, ?_, ?_, ?_, ?_⟩ ?_   -- L1
      · first | assumption | omega | (simp only [List.length_append, List.length_cons, List.length_nil] at *; omega) | (simp_all; done)   -- L1.init.inv0
      · rfl   -- L1.init.inv1
      · first | assumption | omega | (simp only [List.length_append, List.length_cons, List.length_nil] at *; omega) | (simp_all; done)   -- L1.init.inv2
      · simp (disch := omega) only [go_sem, ↓reduceIte, Nat.reduceEqDiff, Nat.reduceLT, Nat.reduceLeDiff, Nat.reduceAdd, Nat.reduceSub, Nat.reduceMul, reduceCtorEq, Int.reduceToNat, Int.reduceNeg] <;> (rw [l0_4]; rfl)   -- L1.init.env
      rintro n ρ ⟨j, out, rfl, l1_0, l1_1, l1_2, rfl⟩ K22 hK22
      refine aw_seq fun K23 hK23 => ?_
      refine aw_reg [14, 15, 20, 107, 108] (by kernel_rfl) ?_   -- r17.19
      simp (disch := omega) only [go_sem, ↓reduceIte, Nat.reduceEqDiff, Nat.reduceLT, Nat.reduceLeDiff, Nat.reduceAdd, Nat.reduceSub, Nat.reduceMul, reduceCtorEq, Int.reduceToNat, Int.reduceNeg]
      repeat refine And.intro (by first | omega | assumption | (simp only [List.length_append, List.length_cons, List.length_nil]; omega) | (intros; first | omega | assumption | (simp_all; done) | grind)) ?_   -- r17.19
      refine hK23 _ ?_; clear hK23
      refine aw_seq fun K24 hK24 => ?_
      refine aw_cond _ (by rfl) (rfl) (fun c4 => ?_) (fun c4 => ?_)   -- c4
      · try simp only [decide_eq_true_eq, decide_eq_false_iff_not, Bool.not_eq_true', Bool.not_eq_false', beq_iff_eq, bne_iff_ne, beq_eq_false_iff_ne, bne_eq_false_iff_eq, Bool.not_eq_true, Bool.not_eq_false, Int.not_lt, Int.not_le, Nat.not_lt, Nat.not_le, ne_eq, Int.ofNat_inj, Bool.and_eq_true, Bool.or_eq_true, Bool.and_eq_false_iff, Bool.or_eq_false_iff, Bool.not_eq_eq_eq_not, Bool.not_true, Bool.not_false] at c4   -- c4.t
        refine aw_skip ?_
        refine hK24 _ ?_; clear hK24
        refine aw_seq fun K25 hK25 => ?_
        refine aw_block ?_
        refine aw_seq fun K26 hK26 => ?_
        refine aw_reg [14, 15, 20, 107, 108] (by kernel_rfl) ?_   -- r18.20
        simp (disch := omega) only [go_sem, ↓reduceIte, Nat.reduceEqDiff, Nat.reduceLT, Nat.reduceLeDiff, Nat.reduceAdd, Nat.reduceSub, Nat.reduceMul, reduceCtorEq, Int.reduceToNat, Int.reduceNeg]
        repeat refine And.intro (by first | omega | assumption | (simp only [List.length_append, List.length_cons, List.length_nil]; omega) | (intros; first | omega | assumption | (simp_all; done) | grind)) ?_   -- r18.20
        refine hK26 _ ?_; clear hK26
        refine aw_seq fun K27 hK27 => ?_
        refine aw_reg [14, 15, 20, 21, 107, 108] (by kernel_rfl) ?_   -- r19.21
        simp (disch := omega) only [go_sem, ↓reduceIte, Nat.reduceEqDiff, Nat.reduceLT, Nat.reduceLeDiff, Nat.reduceAdd, Nat.reduceSub, Nat.reduceMul, reduceCtorEq, Int.reduceToNat, Int.reduceNeg]
        repeat refine And.intro (by first | omega | assumption | (simp only [List.length_append, List.length_cons, List.length_nil]; omega) | (intros; first | omega | assumption | (simp_all; done) | grind)) ?_   -- r19.21
        refine hK27 _ ?_; clear hK27
        refine aw_cond _ (by rfl) (rfl) (fun c5 => ?_) (fun c5 => ?_)   -- c5
        · try simp only [decide_eq_true_eq, decide_eq_false_iff_not, Bool.not_eq_true', Bool.not_eq_false', beq_iff_eq, bne_iff_ne, beq_eq_false_iff_ne, bne_eq_false_iff_eq, Bool.not_eq_true, Bool.not_eq_false, Int.not_lt, Int.not_le, Nat.not_lt, Nat.not_le, ne_eq, Int.ofNat_inj, Bool.and_eq_true, Bool.or_eq_true, Bool.and_eq_false_iff, Bool.or_eq_false_iff, Bool.not_eq_eq_eq_not, Bool.not_true, Bool.not_false] at c5   -- c5.t
          refine aw_reg [14, 15, 20, 21, 107, 108] (by kernel_rfl) ?_   -- r20.22
          simp (disch := omega) only [go_sem, ↓reduceIte, Nat.reduceEqDiff, Nat.reduceLT, Nat.reduceLeDiff, Nat.reduceAdd, Nat.reduceSub, Nat.reduceMul, reduceCtorEq, Int.reduceToNat, Int.reduceNeg]
          repeat refine And.intro (by first | omega | assumption | (simp only [List.length_append, List.length_cons, List.length_nil]; omega) | (intros; first | omega | assumption | (simp_all; done) | grind)) ?_   -- r20.22
          refine hK25 _ ?_; clear hK25
          refine aw_reg [14, 15, 20, 107, 108] (by kernel_rfl) ?_   -- r21.23
          simp (disch := omega) only [go_sem, ↓reduceIte, Nat.reduceEqDiff, Nat.reduceLT, Nat.reduceLeDiff, Nat.reduceAdd, Nat.reduceSub, Nat.reduceMul, reduceCtorEq, Int.reduceToNat, Int.reduceNeg]
          repeat refine And.intro (by first | omega | assumption | (simp only [List.length_append, List.length_cons, List.length_nil]; omega) | (intros; first | omega | assumption | (simp_all; done) | grind)) ?_   -- r21.23
          refine hK22 _ _ ?_ ⟨j + 1, out ++ [(j : Int)], rfl, ?_, ?_, ?_, ?_⟩   -- L1.0
          · first | assumption | omega | (simp only [List.length_append, List.length_cons, List.length_nil] at *; omega) | (simp_all; done)   -- L1.0.meas
          · first | assumption | omega | (simp only [List.length_append, List.length_cons, List.length_nil] at *; omega) | (simp_all; done)   -- L1.0.inv0
          · rw [l1_1, rs_t]; grind   -- L1.0.inv1
          · first | assumption | omega | (simp only [List.length_append, List.length_cons, List.length_nil] at *; omega) | (simp_all; done)   -- L1.0.inv2
          · simp (disch := omega) only [go_sem, ↓reduceIte, Nat.reduceEqDiff, Nat.reduceLT, Nat.reduceLeDiff, Nat.reduceAdd, Nat.reduceSub, Nat.reduceMul, reduceCtorEq, Int.reduceToNat, Int.reduceNeg] <;> first | rfl | omega | simp | simp_all   -- L1.0.env
        · try simp only [decide_eq_true_eq, decide_eq_false_iff_not, Bool.not_eq_true', Bool.not_eq_false', beq_iff_eq, bne_iff_ne, beq_eq_false_iff_ne, bne_eq_false_iff_eq, Bool.not_eq_true, Bool.not_eq_false, Int.not_lt, Int.not_le, Nat.not_lt, Nat.not_le, ne_eq, Int.ofNat_inj, Bool.and_eq_true, Bool.or_eq_true, Bool.and_eq_false_iff, Bool.or_eq_false_iff, Bool.not_eq_eq_eq_not, Bool.not_true, Bool.not_false] at c5   -- c5.f
          refine aw_skip ?_
          refine hK25 _ ?_; clear hK25
          refine aw_reg [14, 15, 20, 107, 108] (by kernel_rfl) ?_   -- r21.24
          simp (disch := omega) only [go_sem, ↓reduceIte, Nat.reduceEqDiff, Nat.reduceLT, Nat.reduceLeDiff, Nat.reduceAdd, Nat.reduceSub, Nat.reduceMul, reduceCtorEq, Int.reduceToNat, Int.reduceNeg]
          repeat refine And.intro (by first | omega | assumption | (simp only [List.length_append, List.length_cons, List.length_nil]; omega) | (intros; first | omega | assumption | (simp_all; done) | grind)) ?_   -- r21.24
          refine hK22 _ _ ?_ ⟨j + 1, out, rfl, ?_, ?_, ?_, ?_⟩   -- L1.1
          · first | assumption | omega | (simp only [List.length_append, List.length_cons, List.length_nil] at *; omega) | (simp_all; done)   -- L1.1.meas
          · first | assumption | omega | (simp only [List.length_append, List.length_cons, List.length_nil] at *; omega) | (simp_all; done)   -- L1.1.inv0
          · rw [l1_1, rs_f]; grind   -- L1.1.inv1
          · first | assumption | omega | (simp only [List.length_append, List.length_cons, List.length_nil] at *; omega) | (simp_all; done)   -- L1.1.inv2
          · simp (disch := omega) only [go_sem, ↓reduceIte, Nat.reduceEqDiff, Nat.reduceLT, Nat.reduceLeDiff, Nat.reduceAdd, Nat.reduceSub, Nat.reduceMul, reduceCtorEq, Int.reduceToNat, Int.reduceNeg] <;> first | rfl | omega | simp | simp_all   -- L1.1.env
      · try simp only [decide_eq_true_eq, decide_eq_false_iff_not, Bool.not_eq_true', Bool.not_eq_false', beq_iff_eq, bne_iff_ne, beq_eq_false_iff_ne, bne_eq_false_iff_eq, Bool.not_eq_true, Bool.not_eq_false, Int.not_lt, Int.not_le, Nat.not_lt, Nat.not_le, ne_eq, Int.ofNat_inj, Bool.and_eq_true, Bool.or_eq_true, Bool.and_eq_false_iff, Bool.or_eq_false_iff, Bool.not_eq_eq_eq_not, Bool.not_true, Bool.not_false] at c4   -- c4.f
        refine aw_exit ?_
        refine hK20 _ ?_; clear hK20
        refine aw_seq fun K28 hK28 => ?_
        refine aw_frzL 20 _ rfl rfl ?_   -- r22.25
        refine aw_reg [14, 20] (by kernel_rfl) ?_   -- r22.25
        simp (disch := omega) only [go_sem, ↓reduceIte, Nat.reduceEqDiff, Nat.reduceLT, Nat.reduceLeDiff, Nat.reduceAdd, Nat.reduceSub, Nat.reduceMul, reduceCtorEq, Int.reduceToNat, Int.reduceNeg]
        repeat refine And.intro (by first | omega | assumption | (simp only [List.length_append, List.length_cons, List.length_nil]; omega) | (intros; first | omega | assumption | (simp_all; done) | grind)) ?_   -- r22.25
        refine hK28 _ ?_; clear hK28
        refine aw_ret ?_
        refine ret_tup rfl (by simp (disch := omega) only [go_sem, ↓reduceIte, Nat.reduceEqDiff, Nat.reduceLT, Nat.reduceLeDiff, Nat.reduceAdd, Nat.reduceSub, Nat.reduceMul, reduceCtorEq, Int.reduceToNat, Int.reduceNeg]) (.cons ?_ (.cons ?_ .nil))   -- ret1
        · exact roL rfl (by rw [clsS, if_pos c0, l1_1, show j = t.fRoutes.length by omega, rs_mk])   -- ret1.0
        · exact roL rfl (by rw [dcsS, if_pos c0, l0_1, show i = tr.length by omega])   -- ret1.1

theorem trB {tr : List Trip} (h : ∀ x ∈ tr, x.fStops.length ≤ 20) (k : Nat) : (tr.getD k default).fStops.length ≤ 1000 := by
  rcases Nat.lt_or_ge k tr.length with g | g
  · have := h _ (gm default g); omega
  · rw [List.getD_eq_getElem?_getD, List.getElem?_eq_none g]; decide

theorem law50_AutorouteCalls_ok (O : Env) (t : Table) (s : Inter) (c : Case) : PCall Tryz.prog O 3 [.agg (eTable t), .agg (eInter s), .agg (eCase c)] (vb true) := by
  -- signalling/signallinglaw50.AutorouteCalls
  refine pcall_of_aw Tryz.func3 rfl (by kernel_rfl) ?_
  refine aw_seq fun K0 hK0 => ?_
  refine aw_reg [0, 1, 2] (by kernel_rfl) ?_   -- r0.0
  simp (disch := omega) only [go_sem, ↓reduceIte, Nat.reduceEqDiff, Nat.reduceLT, Nat.reduceLeDiff, Nat.reduceAdd, Nat.reduceSub, Nat.reduceMul, reduceCtorEq, Int.reduceToNat, Int.reduceNeg]
  repeat refine And.intro (by first | omega | assumption | (simp only [List.length_append, List.length_cons, List.length_nil]; omega) | (intros; first | omega | assumption | (simp_all; done) | grind)) ?_   -- r0.0
  refine hK0 _ ?_; clear hK0
  refine aw_seq fun K1 hK1 => ?_
  refine aw_seq fun K2 hK2 => ?_
  refine aw_reg [3, 4, 5] (by kernel_rfl) ?_   -- r1.1
  simp (disch := omega) only [go_sem, ↓reduceIte, Nat.reduceEqDiff, Nat.reduceLT, Nat.reduceLeDiff, Nat.reduceAdd, Nat.reduceSub, Nat.reduceMul, reduceCtorEq, Int.reduceToNat, Int.reduceNeg]
  repeat refine And.intro (by first | omega | assumption | (simp only [List.length_append, List.length_cons, List.length_nil]; omega) | (intros; first | omega | assumption | (simp_all; done) | grind)) ?_   -- r1.1
  refine callG_of _ (law50_small_ok _ t s c) ?_   -- r1.1#0
  simp (disch := omega) only [go_sem, ↓reduceIte, Nat.reduceEqDiff, Nat.reduceLT, Nat.reduceLeDiff, Nat.reduceAdd, Nat.reduceSub, Nat.reduceMul, reduceCtorEq, Int.reduceToNat, Int.reduceNeg]
  repeat refine And.intro (by first | omega | assumption | (simp only [List.length_append, List.length_cons, List.length_nil]; omega) | (intros; first | omega | assumption | (simp_all; done) | grind)) ?_   -- r1.1
  refine hK2 _ ?_; clear hK2
  refine aw_cond _ (by rfl) (rfl) (fun c0 => ?_) (fun c0 => ?_)   -- c0
  · try simp only [decide_eq_true_eq, decide_eq_false_iff_not, Bool.not_eq_true', Bool.not_eq_false', beq_iff_eq, bne_iff_ne, beq_eq_false_iff_ne, bne_eq_false_iff_eq, Bool.not_eq_true, Bool.not_eq_false, Int.not_lt, Int.not_le, Nat.not_lt, Nat.not_le, ne_eq, Int.ofNat_inj, Bool.and_eq_true, Bool.or_eq_true, Bool.and_eq_false_iff, Bool.or_eq_false_iff, Bool.not_eq_eq_eq_not, Bool.not_true, Bool.not_false] at c0   -- c0.t
    refine aw_seq fun K3 hK3 => ?_
    refine aw_reg [] (by kernel_rfl) ?_   -- r2.2
    simp (disch := omega) only [go_sem, ↓reduceIte, Nat.reduceEqDiff, Nat.reduceLT, Nat.reduceLeDiff, Nat.reduceAdd, Nat.reduceSub, Nat.reduceMul, reduceCtorEq, Int.reduceToNat, Int.reduceNeg]
    repeat refine And.intro (by first | omega | assumption | (simp only [List.length_append, List.length_cons, List.length_nil]; omega) | (intros; first | omega | assumption | (simp_all; done) | grind)) ?_   -- r2.2
    refine callG_of _ (alive_ok _) ?_   -- r2.2#0
    simp (disch := omega) only [go_sem, ↓reduceIte, Nat.reduceEqDiff, Nat.reduceLT, Nat.reduceLeDiff, Nat.reduceAdd, Nat.reduceSub, Nat.reduceMul, reduceCtorEq, Int.reduceToNat, Int.reduceNeg]
    repeat refine And.intro (by first | omega | assumption | (simp only [List.length_append, List.length_cons, List.length_nil]; omega) | (intros; first | omega | assumption | (simp_all; done) | grind)) ?_   -- r2.2
    refine hK3 _ ?_; clear hK3
    refine aw_ret ?_
    refine ret_tmp 6 rfl (by simp (disch := omega) only [go_sem, ↓reduceIte, Nat.reduceEqDiff, Nat.reduceLT, Nat.reduceLeDiff, Nat.reduceAdd, Nat.reduceSub, Nat.reduceMul, reduceCtorEq, Int.reduceToNat, Int.reduceNeg]) ?_   -- ret0
    exact Exp.is (by simp (disch := omega) only [go_sem, ↓reduceIte, Nat.reduceEqDiff, Nat.reduceLT, Nat.reduceLeDiff, Nat.reduceAdd, Nat.reduceSub, Nat.reduceMul, reduceCtorEq, Int.reduceToNat, Int.reduceNeg] <;> refine congrArg vb ?_ <;> (first | assumption | omega | (simp only [List.length_append, List.length_cons, List.length_nil] at *; omega) | (simp_all; done))) rfl rfl
  · try simp only [decide_eq_true_eq, decide_eq_false_iff_not, Bool.not_eq_true', Bool.not_eq_false', beq_iff_eq, bne_iff_ne, beq_eq_false_iff_ne, bne_eq_false_iff_eq, Bool.not_eq_true, Bool.not_eq_false, Int.not_lt, Int.not_le, Nat.not_lt, Nat.not_le, ne_eq, Int.ofNat_inj, Bool.and_eq_true, Bool.or_eq_true, Bool.and_eq_false_iff, Bool.or_eq_false_iff, Bool.not_eq_eq_eq_not, Bool.not_true, Bool.not_false] at c0   -- c0.f
    have hq := smal_of c0
    have hs := smt_of hq.1.1
    have hn := (few_of hq.1.1).1
    have hb : c.fTrips.length ≤ 1000 := Nat.le_trans hq.1.2.2.1 (by decide)
    have hb2 := trB hq.2.1
    refine aw_skip ?_
    refine hK1 _ ?_; clear hK1
    refine aw_seq fun K4 hK4 => ?_
    refine aw_reg [3, 4, 5] (by kernel_rfl) ?_   -- r3.3
    simp (disch := omega) only [go_sem, ↓reduceIte, Nat.reduceEqDiff, Nat.reduceLT, Nat.reduceLeDiff, Nat.reduceAdd, Nat.reduceSub, Nat.reduceMul, reduceCtorEq, Int.reduceToNat, Int.reduceNeg]
    repeat refine And.intro (by first | omega | assumption | (simp only [List.length_append, List.length_cons, List.length_nil]; omega) | (intros; first | omega | assumption | (simp_all; done) | grind)) ?_   -- r3.3
    refine callG_of _ (autoroute_Calls_ok _ t s c.fTrips c.fPlan c.fProgress c.fNow hs hn hb hb2) ?_   -- r3.3#0
    simp (disch := omega) only [go_sem, ↓reduceIte, Nat.reduceEqDiff, Nat.reduceLT, Nat.reduceLeDiff, Nat.reduceAdd, Nat.reduceSub, Nat.reduceMul, reduceCtorEq, Int.reduceToNat, Int.reduceNeg]
    repeat refine And.intro (by first | omega | assumption | (simp only [List.length_append, List.length_cons, List.length_nil]; omega) | (intros; first | omega | assumption | (simp_all; done) | grind)) ?_   -- r3.3
    refine hK4 _ ?_; clear hK4
    refine aw_seq fun K5 hK5 => ?_
    refine aw_reg [3, 4, 5, 7, 8, 17, 28] (by kernel_rfl) ?_   -- r4.4
    simp (disch := omega) only [go_sem, ↓reduceIte, Nat.reduceEqDiff, Nat.reduceLT, Nat.reduceLeDiff, Nat.reduceAdd, Nat.reduceSub, Nat.reduceMul, reduceCtorEq, Int.reduceToNat, Int.reduceNeg]
    repeat refine And.intro (by first | omega | assumption | (simp only [List.length_append, List.length_cons, List.length_nil]; omega) | (intros; first | omega | assumption | (simp_all; done) | grind)) ?_   -- r4.4
    refine callG_of _ (ref50_Calls_ok _ t s c.fTrips c.fPlan c.fProgress c.fNow hs hn hb hb2) ?_   -- r4.4#0
    simp (disch := omega) only [go_sem, ↓reduceIte, Nat.reduceEqDiff, Nat.reduceLT, Nat.reduceLeDiff, Nat.reduceAdd, Nat.reduceSub, Nat.reduceMul, reduceCtorEq, Int.reduceToNat, Int.reduceNeg]
    repeat refine And.intro (by first | omega | assumption | (simp only [List.length_append, List.length_cons, List.length_nil]; omega) | (intros; first | omega | assumption | (simp_all; done) | grind)) ?_   -- r4.4
    refine hK5 _ ?_; clear hK5
    refine aw_seq fun K6 hK6 => ?_
    refine aw_reg [7, 8, 9, 10, 17, 28, 31, 42] (by kernel_rfl) ?_   -- r5.5
    simp (disch := omega) only [go_sem, ↓reduceIte, Nat.reduceEqDiff, Nat.reduceLT, Nat.reduceLeDiff, Nat.reduceAdd, Nat.reduceSub, Nat.reduceMul, reduceCtorEq, Int.reduceToNat, Int.reduceNeg]
    repeat refine And.intro (by first | omega | assumption | (simp only [List.length_append, List.length_cons, List.length_nil]; omega) | (intros; first | omega | assumption | (simp_all; done) | grind)) ?_   -- r5.5
    refine callG_of _ (ref07_SameInts_ok _ (clsS t s c.fTrips c.fPlan c.fProgress c.fNow) (clsS t s c.fTrips c.fPlan c.fProgress c.fNow)) ?_   -- r5.5#0
    simp (disch := omega) only [go_sem, ↓reduceIte, Nat.reduceEqDiff, Nat.reduceLT, Nat.reduceLeDiff, Nat.reduceAdd, Nat.reduceSub, Nat.reduceMul, reduceCtorEq, Int.reduceToNat, Int.reduceNeg]
    repeat refine And.intro (by first | omega | assumption | (simp only [List.length_append, List.length_cons, List.length_nil]; omega) | (intros; first | omega | assumption | (simp_all; done) | grind)) ?_   -- r5.5
    refine callC_to (fun g0 => law50_same_ok _ (dcsS t s c.fTrips c.fPlan c.fProgress c.fNow) (dcsS t s c.fTrips c.fPlan c.fProgress c.fNow)) ?_ ?_ ?_   -- r5.5#1
    · first | exact fun _ => trivial | simp
    · rfl
    simp (disch := omega) only [go_sem, ↓reduceIte, Nat.reduceEqDiff, Nat.reduceLT, Nat.reduceLeDiff, Nat.reduceAdd, Nat.reduceSub, Nat.reduceMul, reduceCtorEq, Int.reduceToNat, Int.reduceNeg]
    repeat refine And.intro (by first | omega | assumption | (simp only [List.length_append, List.length_cons, List.length_nil]; omega) | (intros; first | omega | assumption | (simp_all; done) | grind)) ?_   -- r5.5
    refine callC_to (fun g1 => alive_ok _) ?_ ?_ ?_   -- r5.5#2
    · first | exact fun _ => trivial | simp
    · rfl
    simp (disch := omega) only [go_sem, ↓reduceIte, Nat.reduceEqDiff, Nat.reduceLT, Nat.reduceLeDiff, Nat.reduceAdd, Nat.reduceSub, Nat.reduceMul, reduceCtorEq, Int.reduceToNat, Int.reduceNeg]
    repeat refine And.intro (by first | omega | assumption | (simp only [List.length_append, List.length_cons, List.length_nil]; omega) | (intros; first | omega | assumption | (simp_all; done) | grind)) ?_   -- r5.5
    refine hK6 _ ?_; clear hK6
    refine aw_ret ?_
    refine ret_tmp 6 rfl (by simp (disch := omega) only [go_sem, ↓reduceIte, Nat.reduceEqDiff, Nat.reduceLT, Nat.reduceLeDiff, Nat.reduceAdd, Nat.reduceSub, Nat.reduceMul, reduceCtorEq, Int.reduceToNat, Int.reduceNeg]) ?_   -- ret1
    exact Exp.is (by simp (disch := omega) only [go_sem, ↓reduceIte, Nat.reduceEqDiff, Nat.reduceLT, Nat.reduceLeDiff, Nat.reduceAdd, Nat.reduceSub, Nat.reduceMul, reduceCtorEq, Int.reduceToNat, Int.reduceNeg] <;> refine congrArg vb ?_ <;> (simp)) rfl rfl

end Go.Sg
