/- The law TableDrops. Printed by genw.py. -/
import Derived.Test.YtnpokifaejcbeaaGreatDoorSgObl
import Derived.Test.YtnpokifaejcbeaaGreatDoorT5
import Derived.Test.YtnpokifaejcbeaaGreatDoorSgWet
import Derived.Test.YtnpokifaejcbeaaGreatDoorSgDec
set_option linter.unusedVariables false
set_option linter.unusedSimpArgs false
set_option maxRecDepth 8000
namespace Go.Sg
open Go.Proofs
theorem few_n {t : Table} (h : fewB t = true) : t.fRoutes.length ≤ 80 := by
  unfold fewB at h
  rw [Bool.and_eq_true] at h
  exact (of_decide_eq_true h.1).1
theorem rngMap {α : Type} [Inhabited α] {e : α → List DV} {g : Nat → List DV} {n : Nat} {l : List α} (hn : n = l.length) (h : ∀ i, i < n → g i = e (l.getD i default)) : (List.range n).map g = l.map e := by
  subst hn
  rw [← rangeGetD e l]
  exact List.map_congr_left fun i hi => h i (List.mem_range.1 hi)
theorem getD_take {α : Type} (d : α) {l : List α} {i j : Nat} (h : j < i) : (l.take i).getD j d = l.getD j d := by simp [List.getD_eq_getElem?_getD, List.getElem?_take, h]
theorem getD_drop {α : Type} (d : α) {l : List α} {i j : Nat} : (l.drop i).getD j d = l.getD (i + j) d := by simp [List.getD_eq_getElem?_getD, List.getElem?_drop]
theorem settleM {α : Type} [Inhabited α] {z : Nat} (e : α → List DV) (l : List α) {xs : List (List DV)} (h : xs = l.map e) : RWk (frz z xs) (encL z e l) := by subst h; exact RWk.frzL e l
def eU8 (n : Int) : List DV := [.v (.int .u8 n)]
def drR (t : Table) (i : Nat) : List Route := t.fRoutes.take i ++ t.fRoutes.drop (i + 1)
def drT (t : Table) (i : Nat) : Table := { t with fRoutes := drR t i }
section
variable {t : Table} {i : Nat}
theorem drR_len (hi : i < t.fRoutes.length) : (drR t i).length = t.fRoutes.length - 1 := by
  unfold drR; rw [List.length_append, List.length_take, List.length_drop]; omega
theorem drR_get (hi : i < t.fRoutes.length) (j : Nat) : (drR t i).getD j default = t.fRoutes.getD (if j < i then j else j + 1) default := by
  unfold drR
  rw [List.getD_eq_getElem?_getD, List.getElem?_append, List.length_take, Nat.min_eq_left (Nat.le_of_lt hi)]
  split
  · rename_i h; rw [List.getElem?_take, if_pos h, List.getD_eq_getElem?_getD]
  · rename_i h; rw [List.getElem?_drop, List.getD_eq_getElem?_getD]; congr 2; omega
theorem drR_all {f : Route → Bool} (h : t.fRoutes.all f = true) : (drR t i).all f = true := by
  unfold drR
  rw [List.all_append, Bool.and_eq_true]
  rw [List.all_eq_true] at h
  exact ⟨List.all_eq_true.2 fun x hx => h x (List.mem_of_mem_take hx), List.all_eq_true.2 fun x hx => h x (List.mem_of_mem_drop hx)⟩
theorem few_dr (h : fewB t = true) : fewB (drT t i) = true := by
  unfold fewB at h ⊢
  rw [Bool.and_eq_true] at h ⊢
  refine ⟨?_, drR_all h.2⟩
  have h1 := of_decide_eq_true h.1
  refine decide_eq_true ⟨?_, h1.2⟩
  have : (drR t i).length ≤ t.fRoutes.length := by unfold drR; rw [List.length_append, List.length_take, List.length_drop]; omega
  exact Nat.le_trans this h1.1
theorem chk_0 (h : chk t = 0) : limB t = true ∧ ptsB t = true ∧ t.fRoutes.all (rtB t) = true ∧ t.fRoutes.all (seB t) = true ∧ t.fRoutes.all agB = true ∧ (List.range t.fRoutes.length).all (nuB t) = true := by
  unfold chk at h
  repeat' split at h
  all_goals simp_all
theorem nm_ne (h : (List.range t.fRoutes.length).all (nuB t) = true) {a b : Nat} (ha : a < t.fRoutes.length) (hb : b < t.fRoutes.length) (hab : a ≠ b) : nmN t a ≠ nmN t b := by
  rcases Nat.lt_or_gt_of_ne hab with q | q
  · exact nu_at (rg_at h hb) q
  · exact Ne.symm (nu_at (rg_at h ha) q)
theorem chk_dr (h : chk t = 0) (hi : i < t.fRoutes.length) : chk (drT t i) = 0 := by
  obtain ⟨h1, h2, h3, h4, h5, h6⟩ := chk_0 h
  refine chk7 ?_ h2 (drR_all h3) (drR_all h4) (drR_all h5) ?_
  · unfold limB at h1 ⊢
    have h1 := of_decide_eq_true h1
    refine decide_eq_true ⟨?_, h1.2⟩
    show (drR t i).length ≤ 48
    rw [drR_len hi]; omega
  · rw [List.all_eq_true]
    intro j hj
    have hj : j < (drR t i).length := List.mem_range.1 hj
    rw [drR_len hi] at hj
    unfold nuB
    rw [List.all_eq_true]
    intro k hk
    have hk := List.mem_range.1 hk
    refine decide_eq_true ?_
    show ((drR t i).getD k default).fName ≠ ((drR t i).getD j default).fName
    rw [drR_get hi, drR_get hi]
    exact nm_ne h6 (by split <;> omega) (by split <;> omega) (by split <;> split <;> omega)
theorem fnd_dr (h : chk t = 0) (hi : i < t.fRoutes.length) : fndI (drT t i) (nmN t i) (drT t i).fRoutes.length = -1 := by
  obtain ⟨h1, h2, h3, h4, h5, h6⟩ := chk_0 h
  rw [fnd_first (t := drT t i) (drT t i).fRoutes.length (Nat.le_refl _) fun j hj => ?_, Nat.sub_self]
  · rfl
  · have hj : j < (drR t i).length := hj
    rw [drR_len hi] at hj
    show ((drR t i).getD j default).fName ≠ _
    rw [drR_get hi]
    exact nm_ne h6 (by split <;> omega) hi (by split <;> omega)
end

theorem td_at (O : Env) (t : Table) (n8 : Int) (i : Nat) (hi : n8.tmod (t.fRoutes.length : Int) = (i : Int)) (hlt : 0 < t.fRoutes.length → i < t.fRoutes.length) (h0 : 0 ≤ n8) (h1 : n8 ≤ 255) : PCall Tryz.prog O 5 [.agg (eTable t), .v (.int .u8 n8)] (vb true) := by
  -- signalling/signallinglaw16.TableDrops
  refine pcall_of_aw Tryz.func5 rfl (by kernel_rfl) ?_
  refine aw_seq fun K0 hK0 => ?_
  refine aw_reg [0, 1] (by kernel_rfl) ?_
  simp (disch := omega) only [go_sem, ↓reduceIte, Nat.reduceEqDiff, Nat.reduceLT, Nat.reduceLeDiff, Nat.reduceAdd, Nat.reduceSub, Nat.reduceMul, reduceCtorEq, Int.reduceToNat, Int.reduceNeg, i64id, hi, List.length_range]
  repeat refine And.intro obl ?_
  refine hK0 _ ?_; clear hK0
  refine aw_seq fun K1 hK1 => ?_
  refine aw_seq fun K2 hK2 => ?_
  refine aw_reg [1, 2] (by kernel_rfl) ?_
  simp (disch := omega) only [go_sem, ↓reduceIte, Nat.reduceEqDiff, Nat.reduceLT, Nat.reduceLeDiff, Nat.reduceAdd, Nat.reduceSub, Nat.reduceMul, reduceCtorEq, Int.reduceToNat, Int.reduceNeg, i64id, hi, List.length_range]
  repeat refine And.intro obl ?_
  refine callG_of _ (law16_Few_ok _ t) ?_
  simp (disch := omega) only [go_sem, ↓reduceIte, Nat.reduceEqDiff, Nat.reduceLT, Nat.reduceLeDiff, Nat.reduceAdd, Nat.reduceSub, Nat.reduceMul, reduceCtorEq, Int.reduceToNat, Int.reduceNeg, i64id, hi, List.length_range]
  repeat refine And.intro obl ?_
  refine callC_to (fun g0 => table_Check_ok _ t (by simp at g0; exact g0.1)) ?_ ?_ ?_
  · first | exact fun _ => trivial | simp
  · rfl
  simp (disch := omega) only [go_sem, ↓reduceIte, Nat.reduceEqDiff, Nat.reduceLT, Nat.reduceLeDiff, Nat.reduceAdd, Nat.reduceSub, Nat.reduceMul, reduceCtorEq, Int.reduceToNat, Int.reduceNeg, i64id, hi, List.length_range]
  repeat refine And.intro obl ?_
  refine hK2 _ ?_; clear hK2
  refine aw_cond _ (by rfl) (rfl) (fun c0 => ?_) (fun c0 => ?_)
  · try simp only [push_cast] at c0
    refine aw_seq fun K3 hK3 => ?_
    refine aw_reg [] (by kernel_rfl) ?_
    simp (disch := omega) only [go_sem, ↓reduceIte, Nat.reduceEqDiff, Nat.reduceLT, Nat.reduceLeDiff, Nat.reduceAdd, Nat.reduceSub, Nat.reduceMul, reduceCtorEq, Int.reduceToNat, Int.reduceNeg, i64id, hi, List.length_range]
    repeat refine And.intro obl ?_
    refine callG_of _ (alive_ok _) ?_
    simp (disch := omega) only [go_sem, ↓reduceIte, Nat.reduceEqDiff, Nat.reduceLT, Nat.reduceLeDiff, Nat.reduceAdd, Nat.reduceSub, Nat.reduceMul, reduceCtorEq, Int.reduceToNat, Int.reduceNeg, i64id, hi, List.length_range]
    repeat refine And.intro obl ?_
    refine hK3 _ ?_; clear hK3
    refine aw_ret ?_
    refine ret_tmp 4 rfl (by simp (disch := omega) only [go_sem, ↓reduceIte, Nat.reduceEqDiff, Nat.reduceLT, Nat.reduceLeDiff, Nat.reduceAdd, Nat.reduceSub, Nat.reduceMul, reduceCtorEq, Int.reduceToNat, Int.reduceNeg, i64id, hi, List.length_range]) ?_
    exact Exp.is (by simp (disch := omega) only [go_sem, ↓reduceIte, Nat.reduceEqDiff, Nat.reduceLT, Nat.reduceLeDiff, Nat.reduceAdd, Nat.reduceSub, Nat.reduceMul, reduceCtorEq, Int.reduceToNat, Int.reduceNeg, i64id, hi, List.length_range] <;> refine congrArg vb ?_ <;> (exact dfl)) rfl rfl
  · try simp only [push_cast] at c0
    have hF : fewB t = true ∧ 0 < t.fRoutes.length ∧ chk t = 0 := by
      have hx := c0
      simp at hx
      grind
    have hil := hlt hF.2.1
    have h80 := few_n hF.1
    have hfd := few_dr (i := i) hF.1
    refine aw_skip ?_
    refine hK1 _ ?_; clear hK1
    refine aw_seq fun K4 hK4 => ?_
    refine aw_reg [1, 2] (by kernel_rfl) ?_
    simp (disch := omega) only [go_sem, ↓reduceIte, Nat.reduceEqDiff, Nat.reduceLT, Nat.reduceLeDiff, Nat.reduceAdd, Nat.reduceSub, Nat.reduceMul, reduceCtorEq, Int.reduceToNat, Int.reduceNeg, i64id, hi, List.length_range]
    repeat refine And.intro obl ?_
    refine hK4 _ ?_; clear hK4
    refine aw_seq fun K5 hK5 => ?_
    refine aw_reg [2, 5] (by kernel_rfl) ?_
    simp (disch := omega) only [go_sem, ↓reduceIte, Nat.reduceEqDiff, Nat.reduceLT, Nat.reduceLeDiff, Nat.reduceAdd, Nat.reduceSub, Nat.reduceMul, reduceCtorEq, Int.reduceToNat, Int.reduceNeg, i64id, hi, List.length_range]
    repeat refine And.intro obl ?_
    refine hK5 _ ?_; clear hK5
    refine aw_seq fun K6 hK6 => ?_
    refine aw_regW [2, 5, 6] [] [29, 34, 40] [1, 2, 3, 4, 6, 7, 8, 9, 10, 0, 5, 11, 12, 13] [5, 11] [11] [] mixed (by kernel_rfl) (fun q hq => ?_) (by kernel_rfl) (by simp (disch := omega) only [go_sem, ↓reduceIte, Nat.reduceEqDiff, Nat.reduceLT, Nat.reduceLeDiff, Nat.reduceAdd, Nat.reduceSub, Nat.reduceMul, reduceCtorEq, Int.reduceToNat, Int.reduceNeg, i64id, hi, List.length_range] <;> repeat' first | exact rfl | exact trivial | apply And.intro)
    cases hq
    simp (disch := omega) only [go_sem, ↓reduceIte, Nat.reduceEqDiff, Nat.reduceLT, Nat.reduceLeDiff, Nat.reduceAdd, Nat.reduceSub, Nat.reduceMul, reduceCtorEq, Int.reduceToNat, Int.reduceNeg, i64id, hi, List.length_range]
    repeat first | refine And.intro rfl ?_ | refine And.intro obl ?_
    refine settleD_of (encL _ eRoute (drR t i)) (settleM _ _ ?_) rfl rfl ?_
    · rw [rngMap (l := t.fRoutes.take i) (e := eRoute) (by simp; omega) (fun j hj => by rw [getD_take _ hj]; rfl), rngMap (l := t.fRoutes.drop (i + 1)) (e := eRoute) (by simp) (fun j hj => by rw [getD_drop]; rfl), ← List.map_append]; rfl
    simp (disch := omega) only [go_sem, ↓reduceIte, Nat.reduceEqDiff, Nat.reduceLT, Nat.reduceLeDiff, Nat.reduceAdd, Nat.reduceSub, Nat.reduceMul, reduceCtorEq, Int.reduceToNat, Int.reduceNeg, i64id, hi, List.length_range]
    repeat first | refine And.intro rfl ?_ | refine And.intro obl ?_
    refine hK6 _ ?_; clear hK6
    refine aw_seq fun K7 hK7 => ?_
    refine aw_regDc [2, 5, 6] [] mixed (by kernel_rfl) ?_
    simp (disch := omega) only [go_sem, ↓reduceIte, Nat.reduceEqDiff, Nat.reduceLT, Nat.reduceLeDiff, Nat.reduceAdd, Nat.reduceSub, Nat.reduceMul, reduceCtorEq, Int.reduceToNat, Int.reduceNeg, i64id, hi, List.length_range]
    repeat refine And.intro obl ?_
    refine callD_to (table_Check_ok _ (drT t i) hfd) ?_ ?_
    · rfl
    simp (disch := omega) only [go_sem, ↓reduceIte, Nat.reduceEqDiff, Nat.reduceLT, Nat.reduceLeDiff, Nat.reduceAdd, Nat.reduceSub, Nat.reduceMul, reduceCtorEq, Int.reduceToNat, Int.reduceNeg, i64id, hi, List.length_range]
    repeat refine And.intro obl ?_
    refine callC_to (fun g1 => table_Find_ok _ (drT t i) (nmN t i)) ?_ ?_ ?_
    · first | exact fun _ => trivial | simp
    · rfl
    simp (disch := omega) only [go_sem, ↓reduceIte, Nat.reduceEqDiff, Nat.reduceLT, Nat.reduceLeDiff, Nat.reduceAdd, Nat.reduceSub, Nat.reduceMul, reduceCtorEq, Int.reduceToNat, Int.reduceNeg, i64id, hi, List.length_range]
    repeat refine And.intro obl ?_
    refine callC_to (fun g2 => alive_ok _) ?_ ?_ ?_
    · first | exact fun _ => trivial | simp
    · rfl
    simp (disch := omega) only [go_sem, ↓reduceIte, Nat.reduceEqDiff, Nat.reduceLT, Nat.reduceLeDiff, Nat.reduceAdd, Nat.reduceSub, Nat.reduceMul, reduceCtorEq, Int.reduceToNat, Int.reduceNeg, i64id, hi, List.length_range]
    repeat refine And.intro obl ?_
    refine hK7 _ ?_; clear hK7
    refine aw_ret ?_
    refine ret_tmp 4 rfl (by simp (disch := omega) only [go_sem, ↓reduceIte, Nat.reduceEqDiff, Nat.reduceLT, Nat.reduceLeDiff, Nat.reduceAdd, Nat.reduceSub, Nat.reduceMul, reduceCtorEq, Int.reduceToNat, Int.reduceNeg, i64id, hi, List.length_range]) ?_
    exact Exp.is (by simp (disch := omega) only [go_sem, ↓reduceIte, Nat.reduceEqDiff, Nat.reduceLT, Nat.reduceLeDiff, Nat.reduceAdd, Nat.reduceSub, Nat.reduceMul, reduceCtorEq, Int.reduceToNat, Int.reduceNeg, i64id, hi, List.length_range] <;> refine congrArg vb ?_ <;> (simp [chk_dr hF.2.2 hil, fnd_dr hF.2.2 hil])) rfl rfl

theorem law16_TableDrops_ok (O : Env) (t : Table) (n : Int) (h : 0 ≤ n ∧ n ≤ 255) : PCall Tryz.prog O 5 [.agg (eTable t), .v (.int .u8 n)] (vb true) := by
  have h0 : 0 ≤ n.tmod (t.fRoutes.length : Int) := Int.tmod_nonneg _ h.1
  refine td_at O t n (n.tmod (t.fRoutes.length : Int)).toNat (by omega) (fun hl => ?_) h.1 h.2
  have := Int.tmod_lt_of_pos n (b := (t.fRoutes.length : Int)) (by omega)
  omega
theorem dec5 : Dec Tryz.prog 5 eU8 (fun n => 0 ≤ n ∧ n ≤ 255) := fun H enc w sp held fuel cs x h hz => by
  obtain ⟨n, rfl, _, hw⟩ := DataW.trod_int Tryz.underlying5 h
  refine ⟨n, ?_, .cons (.v _ _) rfl .nil⟩
  simp [Lit.wf, IntKind.min, IntKind.max, IntKind.signed, IntKind.bits] at hw
  omega

end Go.Sg
