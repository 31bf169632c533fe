/- The law that routes are called in the order of the plan. Printed by genw.py. -/
import Derived.Test.YtgjbmlffbpcdiaaGreatA5
set_option linter.unusedVariables false
set_option linter.unusedSimpArgs false
set_option maxRecDepth 8000
namespace Go.Sg
open Go.Proofs
theorem dc_idx {t : Table} {s : Inter} {tr : List Trip} {st : List (List Int)} {pr : List Int} {now : Int} (n : Nat) : ∃ J : Nat → Nat, (∀ i, i < (dcL t s tr st pr now n).length → (dcL t s tr st pr now n).getD i default = cD tr pr now (J i) ∧ cP t s tr st pr now (J i) = true ∧ J i < n) ∧ ∀ i i', i < i' → i' < (dcL t s tr st pr now n).length → J i < J i' := by
  refine ⟨fun i => ((List.range n).filter (cP t s tr st pr now)).getD i default, fun i hi => ?_, fun i i' h h' => ?_⟩
  · unfold dcL at hi ⊢
    rw [List.length_map] at hi
    have hm := gm (default : Nat) hi
    rw [List.mem_filter, List.mem_range] at hm
    refine ⟨?_, hm.2, hm.1⟩
    simp only [List.getD_eq_getElem?_getD, List.getElem?_map, List.getElem?_eq_getElem hi]; rfl
  · unfold dcL at h'
    rw [List.length_map] at h'
    have hp : ((List.range n).filter (cP t s tr st pr now)).Pairwise (· < ·) := List.Pairwise.filter _ List.pairwise_lt_range
    have hii := Nat.lt_trans h h'
    have := (List.pairwise_iff_getElem.1 hp) i i' hii h' h
    simp only [List.getD_eq_getElem?_getD, List.getElem?_eq_getElem h', List.getElem?_eq_getElem hii, Option.getD_some]
    exact this
theorem may_of {t : Table} {s : Inter} {tr : List Trip} {st : List (List Int)} {pr : List Int} {now : Int} {i : Nat} (h : cP t s tr st pr now i = true) : atN pr i < (tr.getD i default).fStops.length ∧ (0 ≤ rtS tr i (atN pr i) ∧ (rtS tr i (atN pr i)).toNat < t.fRoutes.length ∧ (rtS tr i (atN pr i)).toNat < s.fRoutes.length) ∧ stN s (rtS tr i (atN pr i)) = 0 ∧ stS st i (atN pr i) ≤ now ∧ blkB t s tr st pr i (atN pr i) = false := by
  have he := ex_of (cP_ex h)
  simp only [cP, mayB, Bool.and_eq_true, decide_eq_true_eq, beq_iff_eq, Bool.not_eq_true'] at h
  exact ⟨h.1, he, h.2.1.1.2, h.2.1.2, h.2.2⟩
theorem blk_no {t : Table} {s : Inter} {tr : List Trip} {st : List (List Int)} {pr : List Int} {i j : Nat} (h : blkB t s tr st pr i j = false) (k m : Nat) (h1 : k < tr.length) (h2 : m < (tr.getD k default).fStops.length) : badB t s tr st pr i j k m = false := by
  rw [← Bool.not_eq_true]; intro hb; rw [blk_t k m h1 h2 hb] at h; cases h
def cnt (l : List Bool) : Nat := l.count true
theorem cnt_f {l : List Bool} {r : Nat} (h : r < l.length) (h2 : l.getD r default = false) : cnt (l.set r true) = cnt l + 1 := by
  unfold cnt; rw [List.getD_eq_getElem?_getD, List.getElem?_eq_getElem h, Option.getD_some] at h2
  rw [List.count_set h, h2]; simp
theorem cnt_t {l : List Bool} {r : Nat} (h : r < l.length) (h2 : l.getD r default = true) : l.set r true = l := by
  rw [List.getD_eq_getElem?_getD, List.getElem?_eq_getElem h, Option.getD_some] at h2
  rw [← h2]; exact List.set_getElem_self h
def cdF (D : List Decision) (m i : Nat) : List Bool := (List.range m).map fun (r : Nat) => (D.take i).any fun x => x.fRoute == (r : Int)
theorem cdF_0 (D : List Decision) (m : Nat) : cdF D m 0 = List.replicate m false := by
  apply List.ext_getElem (by simp [cdF]); intro i h1 h2; simp [cdF]
theorem cdF_len (D : List Decision) (m i : Nat) : (cdF D m i).length = m := by simp [cdF]
theorem cdF_t {D : List Decision} {m i : Nat} (hi : i < D.length) (h0 : 0 ≤ (D.getD i default).fRoute) : cdF D m (i + 1) = (cdF D m i).set (D.getD i default).fRoute.toNat true := by
  apply List.ext_getElem (by simp [cdF])
  intro j h1 h2
  rw [List.getElem_set]
  have ht : D.take (i + 1) = D.take i ++ [D.getD i default] := by
    rw [List.take_add_one, List.getElem?_eq_getElem hi, List.getD_eq_getElem?_getD, List.getElem?_eq_getElem hi]; rfl
  simp only [cdF, List.getElem_map, List.getElem_range, ht, List.any_append, List.any_cons, List.any_nil, Bool.or_false]
  split
  · next hh => subst hh; rw [show ((D.getD i default).fRoute == ((D.getD i default).fRoute.toNat : Int)) = true by rw [beq_iff_eq]; omega, Bool.or_true]
  · next hh => rw [show ((D.getD i default).fRoute == (j : Int)) = false by rw [beq_eq_false_iff_ne]; omega, Bool.or_false]
theorem cdF_get {D : List Decision} {m i r : Nat} (h : r < m) : (cdF D m i).getD r default = (D.take i).any fun x => x.fRoute == (r : Int) := by
  rw [List.getD_eq_getElem?_getD, List.getElem?_eq_getElem (by rw [cdF_len]; exact h)]; simp [cdF]
theorem cnt_range (l : List Bool) : cnt l = ((List.range l.length).filter fun r => l.getD r default).length := by
  have h : l = (List.range l.length).map fun r => l.getD r default := by
    apply List.ext_getElem (by simp); intro i h1 h2; simp [List.getElem?_eq_getElem h1]
  unfold cnt
  conv => lhs; rw [h]
  rw [List.count, List.countP_map, List.countP_eq_length_filter]
  congr 1; apply List.filter_congr; intro x _; simp
theorem cls_len {t : Table} {s : Inter} {tr : List Trip} {st : List (List Int)} {pr : List Int} {now : Int} (n : Nat) : (mk ((dcL t s tr st pr now n).map Decision.fRoute)).length = cnt (cdF (dcL t s tr st pr now n) t.fRoutes.length (dcL t s tr st pr now n).length) := by
  rw [← rs_mk, cnt_range, cdF_len]
  unfold rsL; rw [List.length_map]
  congr 1; apply List.filter_congr; intro x hx
  have hx := List.mem_range.1 hx
  rw [cdF_get hx, List.take_length, List.getD_eq_getElem?_getD, List.getElem?_eq_getElem (by rw [cd_len]; exact hx)]; simp [cdL]
theorem cls_mem {D : List Decision} {m : Nat} (hD : ∀ i, i < D.length → 0 ≤ (D.getD i default).fRoute ∧ (D.getD i default).fRoute.toNat < m) : ∀ i, i < (mk (D.map Decision.fRoute)).length → 0 ≤ (mk (D.map Decision.fRoute)).getD i default ∧ ((mk (D.map Decision.fRoute)).getD i default).toNat < m ∧ (cdF D m D.length).getD ((mk (D.map Decision.fRoute)).getD i default).toNat default = true := by
  intro i hi
  have hm := gm (default : Int) hi
  rw [mk_mem, List.mem_map] at hm
  obtain ⟨x, hx, he⟩ := hm
  rw [← he]
  obtain ⟨k, hk, rfl⟩ := List.getElem_of_mem hx
  have h := hD k hk
  have hg : D.getD k default = D[k] := by rw [List.getD_eq_getElem?_getD, List.getElem?_eq_getElem hk]; rfl
  rw [hg] at h
  refine ⟨h.1, h.2, ?_⟩
  rw [cdF_get h.2, List.take_length, List.any_eq_true]
  exact ⟨_, hx, by rw [beq_iff_eq]; omega⟩
theorem cls_up (l : List Int) : ∀ i i', i < i' → i' < (mk l).length → (mk l).getD i default < (mk l).getD i' default := by
  intro i i' h h'
  have hii := Nat.lt_trans h h'
  have := (List.pairwise_iff_getElem.1 (mk_ss l)) i i' hii h' h
  simp only [List.getD_eq_getElem?_getD, List.getElem?_eq_getElem h', List.getElem?_eq_getElem hii, Option.getD_some]
  exact this

theorem law50_conflict_ok (O : Env) (t : Table) (s : Inter) (a b : Int) (hs : SmT t) : PCall Tryz.prog O 17 [.agg (eTable t), .agg (eInter s), vi a, vi b] (vb (cfB t s a b)) := by
  -- signalling/signallinglaw50.conflict
  refine pcall_of_aw Tryz.func17 rfl (by kernel_rfl) ?_
  refine aw_seq fun K0 hK0 => ?_
  refine aw_reg [0, 1, 2, 3] (by kernel_rfl) ?_   -- r0.0
  simp (disch := omega) only [go_sem, ↓reduceIte, Nat.reduceEqDiff, Nat.reduceLT, Nat.reduceLeDiff, Nat.reduceAdd, Nat.reduceSub, Nat.reduceMul, reduceCtorEq, Int.reduceToNat, Int.reduceNeg]
  repeat refine And.intro (by first | omega | assumption | (simp only [List.length_append, List.length_cons, List.length_nil]; omega) | (intros; first | omega | assumption | (simp_all; done) | grind)) ?_   -- r0.0
  refine hK0 _ ?_; clear hK0
  refine aw_seq fun K1 hK1 => ?_
  refine aw_reg [2, 3, 4, 5] (by kernel_rfl) ?_   -- r1.1
  simp (disch := omega) only [go_sem, ↓reduceIte, Nat.reduceEqDiff, Nat.reduceLT, Nat.reduceLeDiff, Nat.reduceAdd, Nat.reduceSub, Nat.reduceMul, reduceCtorEq, Int.reduceToNat, Int.reduceNeg]
  repeat refine And.intro (by first | omega | assumption | (simp only [List.length_append, List.length_cons, List.length_nil]; omega) | (intros; first | omega | assumption | (simp_all; done) | grind)) ?_   -- r1.1
  refine hK1 _ ?_; clear hK1
  refine aw_seq fun K2 hK2 => ?_
  refine aw_regDc [2, 3, 4, 9] [] mixed (by kernel_rfl) ?_   -- r2.2
  simp (disch := omega) only [go_sem, ↓reduceIte, Nat.reduceEqDiff, Nat.reduceLT, Nat.reduceLeDiff, Nat.reduceAdd, Nat.reduceSub, Nat.reduceMul, reduceCtorEq, Int.reduceToNat, Int.reduceNeg]
  repeat refine And.intro (by first | omega | assumption | (simp only [List.length_append, List.length_cons, List.length_nil]; omega) | (intros; first | omega | assumption | (simp_all; done) | grind)) ?_   -- r2.2
  refine callC_to (fun g0 => ref15_Between_ok _ _ _ (hs _ (gm default (by simp only [Bool.and_eq_true, decide_eq_true_eq] at g0; split at g0 <;> omega))) (hs _ (gm default (by simp only [Bool.and_eq_true, decide_eq_true_eq] at g0; split at g0 <;> omega)))) ?_ ?_ ?_   -- r2.2#0
  · first | exact fun _ => trivial | simp
  · rfl
  simp (disch := omega) only [go_sem, ↓reduceIte, Nat.reduceEqDiff, Nat.reduceLT, Nat.reduceLeDiff, Nat.reduceAdd, Nat.reduceSub, Nat.reduceMul, reduceCtorEq, Int.reduceToNat, Int.reduceNeg]
  repeat refine And.intro (by first | omega | assumption | (simp only [List.length_append, List.length_cons, List.length_nil]; omega) | (intros; first | omega | assumption | (simp_all; done) | grind)) ?_   -- r2.2
  refine hK2 _ ?_; clear hK2
  refine aw_ret ?_
  refine ret_tmp 8 rfl (by simp (disch := omega) only [go_sem, ↓reduceIte, Nat.reduceEqDiff, Nat.reduceLT, Nat.reduceLeDiff, Nat.reduceAdd, Nat.reduceSub, Nat.reduceMul, reduceCtorEq, Int.reduceToNat, Int.reduceNeg]) ?_   -- ret0
  exact Exp.is (by simp (disch := omega) only [go_sem, ↓reduceIte, Nat.reduceEqDiff, Nat.reduceLT, Nat.reduceLeDiff, Nat.reduceAdd, Nat.reduceSub, Nat.reduceMul, reduceCtorEq, Int.reduceToNat, Int.reduceNeg] <;> refine congrArg vb ?_ <;> (simp [cfB, exB, rtN]; split <;> grind)) rfl rfl

end Go.Sg
