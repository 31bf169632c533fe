/- Contracts of the checks of tables, third part: Check, of the program and of the reference. Printed by genw.py. -/
import Derived.Test.YtnpokifaejcbeaaGreatDoorSgObl
import Derived.Test.YtnpokifaejcbeaaGreatDoorT2
set_option linter.unusedVariables false
set_option linter.unusedSimpArgs false
set_option maxRecDepth 8000
namespace Go.Sg
open Go.Proofs
def limB (t : Table) : Bool := decide (t.fRoutes.length ≤ 48 ∧ t.fPoints.length ≤ 32 ∧ 0 ≤ t.fSections ∧ t.fSections ≤ 24 ∧ 0 ≤ t.fSignals ∧ t.fSignals ≤ 20)
def seB (t : Table) (r : Route) : Bool := stsB t r.fPoints && stsB t r.fOverPoints && stsB t r.fFlank
def agB (r : Route) : Bool := agrB r.fPoints r.fOverPoints && agrB r.fPoints r.fFlank && agrB r.fOverPoints r.fFlank
abbrev nmN (t : Table) (i : Nat) : ByteArray := (t.fRoutes.getD i default).fName
def nuB (t : Table) (i : Nat) : Bool := (List.range i).all fun k => decide (nmN t k ≠ nmN t i)
def chk (t : Table) : Int :=
  if limB t = false then 2 else if ptsB t = false then 1 else if t.fRoutes.all (rtB t) = false then 1 else if t.fRoutes.all (seB t) = false then 1 else if t.fRoutes.all agB = false then 10 else if (List.range t.fRoutes.length).all (nuB t) = false then 8 else 0
section
variable {t : Table}
theorem chk1 (h : limB t = false) : chk t = 2 := by rw [chk, if_pos h]
theorem chk2 (h : limB t = true) (h2 : ptsB t = false) : chk t = 1 := by rw [chk, if_neg (by rw [h]; simp), if_pos h2]
theorem chk3 (h : limB t = true) (h2 : ptsB t = true) (h3 : t.fRoutes.all (rtB t) = false) : chk t = 1 := by rw [chk, if_neg (by rw [h]; simp), if_neg (by rw [h2]; simp), if_pos h3]
theorem chk4 (h : limB t = true) (h2 : ptsB t = true) (h4 : t.fRoutes.all (seB t) = false) : chk t = 1 := by
  rw [chk, if_neg (by rw [h]; simp), if_neg (by rw [h2]; simp)]
  split
  · rfl
  · first | rfl | rw [if_pos h4]
theorem chk5 (h : limB t = true) (h2 : ptsB t = true) (h3 : t.fRoutes.all (rtB t) = true) (h4 : t.fRoutes.all (seB t) = true) (h5 : t.fRoutes.all agB = false) : chk t = 10 := by rw [chk, if_neg (by rw [h]; simp), if_neg (by rw [h2]; simp), if_neg (by rw [h3]; simp), if_neg (by rw [h4]; simp), if_pos h5]
theorem chk6 (h : limB t = true) (h2 : ptsB t = true) (h3 : t.fRoutes.all (rtB t) = true) (h4 : t.fRoutes.all (seB t) = true) (h5 : t.fRoutes.all agB = true) (h6 : (List.range t.fRoutes.length).all (nuB t) = false) : chk t = 8 := by rw [chk, if_neg (by rw [h]; simp), if_neg (by rw [h2]; simp), if_neg (by rw [h3]; simp), if_neg (by rw [h4]; simp), if_neg (by rw [h5]; simp), if_pos h6]
theorem chk7 (h : limB t = true) (h2 : ptsB t = true) (h3 : t.fRoutes.all (rtB t) = true) (h4 : t.fRoutes.all (seB t) = true) (h5 : t.fRoutes.all agB = true) (h6 : (List.range t.fRoutes.length).all (nuB t) = true) : chk t = 0 := by rw [chk, if_neg (by rw [h]; simp), if_neg (by rw [h2]; simp), if_neg (by rw [h3]; simp), if_neg (by rw [h4]; simp), if_neg (by rw [h5]; simp), if_neg (by rw [h6]; simp)]
theorem lim_of (h : limB t = true) : t.fSections ≤ 24 := by
  have := of_decide_eq_true h
  omega
def fwR (r : Route) : Bool := decide (r.fPath.length ≤ 80 ∧ r.fPoints.length ≤ 80 ∧ r.fSections.length ≤ 80 ∧ r.fOver.length ≤ 80 ∧ r.fOverPoints.length ≤ 80 ∧ r.fOverSections.length ≤ 80 ∧ r.fFlank.length ≤ 80 ∧ r.fGuards.length ≤ 80 ∧ r.fGaps.length ≤ 80)
def fewB (t : Table) : Bool := decide (t.fRoutes.length ≤ 80 ∧ t.fPoints.length ≤ 80 ∧ t.fHomes.length ≤ 80) && t.fRoutes.all fwR
theorem few_r (h : fewB t = true) {i : Nat} (hi : i < t.fRoutes.length) : ((t.fRoutes.getD i default).fSections ++ (t.fRoutes.getD i default).fOverSections).length ≤ 100000 := by
  unfold fewB at h
  rw [Bool.and_eq_true] at h
  have h3 : fwR (t.fRoutes.getD i default) = true := all_at h.2 hi
  unfold fwR at h3
  have := of_decide_eq_true h3
  rw [List.length_append]
  omega
/-- The names that have been met. -/
def nmsL (t : Table) (i : Nat) : List (Value × Value) := (List.range i).map fun k => (.string (nmN t k), .bool true)
theorem nms_s (t : Table) (i : Nat) : nmsL t i ++ [(.string (t.fRoutes.getD i default).fName, .bool true)] = nmsL t (i + 1) := by
  unfold nmsL; rw [List.range_succ, List.map_append]; rfl
theorem nms_mem {i : Nat} {e : Value × Value} (h : e ∈ nmsL t i) : ∃ k, k < i ∧ e = (.string (nmN t k), .bool true) := by
  unfold nmsL at h
  obtain ⟨k, hk, rfl⟩ := List.mem_map.1 h
  exact ⟨k, List.mem_range.1 hk, rfl⟩
theorem nu_at {i k : Nat} (h : nuB t i = true) (hk : k < i) : nmN t k ≠ nmN t i := of_decide_eq_true (rg_at h hk)
theorem nms_keys : ∀ {i : Nat}, rgTo (nuB t) i → Keys (nmsL t i)
  | 0, _ => ⟨fun e he => (by obtain ⟨k, hk, _⟩ := nms_mem he; omega), List.nodup_nil⟩
  | i + 1, h => by
    obtain ⟨h1, h2⟩ := nms_keys (i := i) fun j hj => h j (by omega)
    refine ⟨fun e he => ?_, ?_⟩
    · obtain ⟨k, hk, rfl⟩ := nms_mem he; rfl
    · rw [← nms_s, List.map_append, List.nodup_append]
      refine ⟨h2, by simp, fun a ha b hb => ?_⟩
      obtain ⟨e, he, rfl⟩ := List.mem_map.1 ha
      obtain ⟨k, hk, rfl⟩ := nms_mem he
      simp only [List.map_cons, List.map_nil, List.mem_singleton] at hb
      subst hb
      intro e
      simp only [Value.string.injEq] at e
      exact nu_at (h i (by omega)) hk e
theorem nms_new {i : Nat} (h : nuB t i = true) : NewK (nmsL t i) (t.fRoutes.getD i default).fName :=
  ⟨fun e he => (by obtain ⟨k, hk, rfl⟩ := nms_mem he; rfl), fun e he => by
    obtain ⟨k, hk, rfl⟩ := nms_mem he
    intro e
    simp only [Value.string.injEq] at e
    exact nu_at h hk e⟩
theorem nms_get {i : Nat} (h : Keys (nmsL t i)) : getM (nmsL t i) (t.fRoutes.getD i default).fName (.bool false) = .bool (!nuB t i) := by
  cases hq : nuB t i with
  | true => exact getM_not (nms_new hq).2
  | false =>
    have : ∃ k, k < i ∧ nmN t k = nmN t i := by
      apply Classical.byContradiction
      intro hno
      rw [← Bool.not_eq_true] at hq
      refine hq ?_
      unfold nuB
      rw [List.all_eq_true]
      intro k hk
      exact decide_eq_true fun e => hno ⟨k, List.mem_range.1 hk, e⟩
    obtain ⟨k, hk, e⟩ := this
    refine getM_mem h.2 ?_
    unfold nmsL
    exact List.mem_map.2 ⟨k, List.mem_range.2 hk, by rw [e]; rfl⟩
theorem str_eq {a b : ByteArray} : a.toList = b.toList ↔ a = b := by
  constructor
  · intro h
    rw [ByteArray.toList_eq, ByteArray.toList_eq] at h
    cases a; cases b
    congr
    exact Array.toList_inj.1 h
  · intro h; rw [h]
/-- The first route with a name. -/
def fndI (t : Table) (x : ByteArray) : Nat → Int
  | 0 => -1
  | n + 1 => if nmN t (t.fRoutes.length - (n + 1)) = x then ((t.fRoutes.length - (n + 1) : Nat) : Int) else fndI t x n
theorem fnd_s {x : ByteArray} {i : Nat} (hi : i < t.fRoutes.length) : fndI t x (t.fRoutes.length - i) = if nmN t i = x then (i : Int) else fndI t x (t.fRoutes.length - (i + 1)) := by
  rw [show t.fRoutes.length - i = (t.fRoutes.length - (i + 1)) + 1 by omega, fndI, show t.fRoutes.length - (t.fRoutes.length - (i + 1) + 1) = i by omega]
theorem fnd_first {x : ByteArray} : ∀ k, k ≤ t.fRoutes.length → (∀ j, j < k → nmN t j ≠ x) → fndI t x t.fRoutes.length = fndI t x (t.fRoutes.length - k)
  | 0, _, _ => rfl
  | k + 1, hk, h => by
    rw [fnd_first k (by omega) fun j hj => h j (by omega), fnd_s (by omega), if_neg (h k (by omega))]
theorem fnd_eq {i : Nat} (hi : i < t.fRoutes.length) : (fndI t (nmN t i) t.fRoutes.length = (i : Int)) ↔ nuB t i = true := by
  constructor
  · intro h
    unfold nuB; rw [List.all_eq_true]
    intro k hk
    have hk := List.mem_range.1 hk
    refine decide_eq_true fun e => ?_
    have key : ∀ n, n ≤ i → (∃ j, j < n ∧ nmN t j = nmN t i) → ∃ j, j < n ∧ fndI t (nmN t i) t.fRoutes.length = (j : Int) := by
      intro n
      induction n with
      | zero => intro _ ⟨j, hj, _⟩; omega
      | succ n ih =>
        intro hn ⟨j, hj, hje⟩
        by_cases hex : ∃ j, j < n ∧ nmN t j = nmN t i
        · obtain ⟨j', hj', he⟩ := ih (by omega) hex
          exact ⟨j', by omega, he⟩
        · have hjn : j = n := by
            rcases Nat.lt_or_eq_of_le (Nat.le_of_lt_succ hj) with q | q
            · exact absurd ⟨j, q, hje⟩ hex
            · exact q
          subst hjn
          refine ⟨j, by omega, ?_⟩
          rw [fnd_first j (by omega) fun j' hj' he => hex ⟨j', hj', he⟩, fnd_s (by omega), if_pos hje]
    obtain ⟨j, hj, he⟩ := key i (Nat.le_refl _) ⟨k, hk, e⟩
    rw [h] at he
    omega
  · intro h
    rw [fnd_first i (by omega) fun j hj he => nu_at h hj he, fnd_s hi, if_pos rfl]
end

theorem ref16_Find_ok (O : Env) (t : Table) (x : ByteArray) : PCall Tryz.prog O 24 [.agg (eTable t), vs x] (vi (fndI t x t.fRoutes.length)) := by
  -- signalling/signallingref16.Find
  refine pcall_has 0 rfl (.agg (d := encRt t.fRoutes) (by simp [eTable]) (.sl _ _ _)) fun hr => ?_
  refine pcall_has 0 rfl (.agg (d := encI t.fPoints) (by simp [eTable]) (.sl _ _ _)) fun hp => ?_
  refine pcall_of_aw Tryz.func24 rfl (by kernel_rfl) ?_
  refine aw_seq fun K0 hK0 => ?_
  refine aw_reg [0, 1] (by kernel_rfl) ?_
  simp (disch := omega) only [go_sem, ↓reduceIte, Nat.reduceEqDiff, Nat.reduceLT, Nat.reduceLeDiff, Nat.reduceAdd, Nat.reduceSub, Nat.reduceMul, reduceCtorEq, Int.reduceToNat, Int.reduceNeg]
  repeat refine And.intro obl ?_
  refine hK0 _ ?_; clear hK0
  refine aw_seq fun K1 hK1 => ?_
  refine aw_seq fun K2 hK2 => ?_
  refine aw_reg [1, 2] (by kernel_rfl) ?_
  simp (disch := omega) only [go_sem, ↓reduceIte, Nat.reduceEqDiff, Nat.reduceLT, Nat.reduceLeDiff, Nat.reduceAdd, Nat.reduceSub, Nat.reduceMul, reduceCtorEq, Int.reduceToNat, Int.reduceNeg]
  repeat refine And.intro obl ?_
  refine hK2 _ ?_; clear hK2
  refine aw_block ?_
  refine aw_loopK [1, 8, 9, 10] (fun n ρ => ∃ i, n = t.fRoutes.length - i ∧ (i ≤ t.fRoutes.length) ∧ (fndI t x t.fRoutes.length = fndI t x (t.fRoutes.length - i)) ∧ ρ = mkE O [(1, vs x), (8, encRt t.fRoutes), (9, vi (t.fRoutes.length : Nat)), (10, vi (i : Nat))]) _ ⟨0, rfl, ?_, ?_, ?_⟩ ?_
  · exact dfl
  · rfl
  · simp (disch := omega) only [go_sem, ↓reduceIte, Nat.reduceEqDiff, Nat.reduceLT, Nat.reduceLeDiff, Nat.reduceAdd, Nat.reduceSub, Nat.reduceMul, reduceCtorEq, Int.reduceToNat, Int.reduceNeg] <;> first | rfl | omega | simp | simp_all
  rintro n ρ ⟨i, rfl, l0_0, l0_1, rfl⟩ K3 hK3
  refine aw_seq fun K4 hK4 => ?_
  refine aw_reg [1, 2, 7, 8, 9, 10] (by kernel_rfl) ?_
  simp (disch := omega) only [go_sem, ↓reduceIte, Nat.reduceEqDiff, Nat.reduceLT, Nat.reduceLeDiff, Nat.reduceAdd, Nat.reduceSub, Nat.reduceMul, reduceCtorEq, Int.reduceToNat, Int.reduceNeg]
  repeat refine And.intro obl ?_
  refine hK4 _ ?_; clear hK4
  refine aw_seq fun K5 hK5 => ?_
  refine aw_cond _ (by rfl) (rfl) (fun c0 => ?_) (fun c0 => ?_)
  · try simp only [push_cast] at c0
    refine aw_skip ?_
    refine hK5 _ ?_; clear hK5
    refine aw_seq fun K6 hK6 => ?_
    refine aw_block ?_
    refine aw_seq fun K7 hK7 => ?_
    refine aw_reg [1, 2, 7, 8, 9, 10] (by kernel_rfl) ?_
    simp (disch := omega) only [go_sem, ↓reduceIte, Nat.reduceEqDiff, Nat.reduceLT, Nat.reduceLeDiff, Nat.reduceAdd, Nat.reduceSub, Nat.reduceMul, reduceCtorEq, Int.reduceToNat, Int.reduceNeg]
    repeat refine And.intro obl ?_
    refine hK7 _ ?_; clear hK7
    refine aw_seq fun K8 hK8 => ?_
    refine aw_reg [1, 2, 5, 6, 7, 8, 9, 10] (by kernel_rfl) ?_
    simp (disch := omega) only [go_sem, ↓reduceIte, Nat.reduceEqDiff, Nat.reduceLT, Nat.reduceLeDiff, Nat.reduceAdd, Nat.reduceSub, Nat.reduceMul, reduceCtorEq, Int.reduceToNat, Int.reduceNeg]
    repeat refine And.intro obl ?_
    refine hK8 _ ?_; clear hK8
    refine aw_cond _ (by rfl) (rfl) (fun c1 => ?_) (fun c1 => ?_)
    · try simp only [push_cast] at c1
      refine aw_seq fun K9 hK9 => ?_
      refine aw_reg [5] (by kernel_rfl) ?_
      simp (disch := omega) only [go_sem, ↓reduceIte, Nat.reduceEqDiff, Nat.reduceLT, Nat.reduceLeDiff, Nat.reduceAdd, Nat.reduceSub, Nat.reduceMul, reduceCtorEq, Int.reduceToNat, Int.reduceNeg]
      repeat refine And.intro obl ?_
      refine hK9 _ ?_; clear hK9
      refine aw_ret ?_
      refine ret_tmp 4 rfl (by simp (disch := omega) only [go_sem, ↓reduceIte, Nat.reduceEqDiff, Nat.reduceLT, Nat.reduceLeDiff, Nat.reduceAdd, Nat.reduceSub, Nat.reduceMul, reduceCtorEq, Int.reduceToNat, Int.reduceNeg]) ?_
      exact Exp.is (by simp (disch := omega) only [go_sem, ↓reduceIte, Nat.reduceEqDiff, Nat.reduceLT, Nat.reduceLeDiff, Nat.reduceAdd, Nat.reduceSub, Nat.reduceMul, reduceCtorEq, Int.reduceToNat, Int.reduceNeg] <;> (rw [l0_1, fnd_s c0, if_pos (str_eq.1 c1)])) rfl rfl
    · try simp only [push_cast] at c1
      refine aw_skip ?_
      refine hK6 _ ?_; clear hK6
      refine aw_reg [1, 2, 7, 8, 9, 10] (by kernel_rfl) ?_
      simp (disch := omega) only [go_sem, ↓reduceIte, Nat.reduceEqDiff, Nat.reduceLT, Nat.reduceLeDiff, Nat.reduceAdd, Nat.reduceSub, Nat.reduceMul, reduceCtorEq, Int.reduceToNat, Int.reduceNeg]
      repeat refine And.intro obl ?_
      refine hK3 _ _ ?_ ⟨i + 1, rfl, ?_, ?_, ?_⟩
      · exact dfl
      · exact dfl
      · rw [l0_1, fnd_s c0, if_neg fun e => c1 (str_eq.2 e)]
      · simp (disch := omega) only [go_sem, ↓reduceIte, Nat.reduceEqDiff, Nat.reduceLT, Nat.reduceLeDiff, Nat.reduceAdd, Nat.reduceSub, Nat.reduceMul, reduceCtorEq, Int.reduceToNat, Int.reduceNeg] <;> first | rfl | omega | simp | simp_all
  · try simp only [push_cast] at c0
    refine aw_exit ?_
    refine hK1 _ ?_; clear hK1
    refine aw_seq fun K10 hK10 => ?_
    refine aw_reg [] (by kernel_rfl) ?_
    simp (disch := omega) only [go_sem, ↓reduceIte, Nat.reduceEqDiff, Nat.reduceLT, Nat.reduceLeDiff, Nat.reduceAdd, Nat.reduceSub, Nat.reduceMul, reduceCtorEq, Int.reduceToNat, Int.reduceNeg]
    repeat refine And.intro obl ?_
    refine hK10 _ ?_; clear hK10
    refine aw_ret ?_
    refine ret_tmp 4 rfl (by simp (disch := omega) only [go_sem, ↓reduceIte, Nat.reduceEqDiff, Nat.reduceLT, Nat.reduceLeDiff, Nat.reduceAdd, Nat.reduceSub, Nat.reduceMul, reduceCtorEq, Int.reduceToNat, Int.reduceNeg]) ?_
    exact Exp.is (by simp (disch := omega) only [go_sem, ↓reduceIte, Nat.reduceEqDiff, Nat.reduceLT, Nat.reduceLeDiff, Nat.reduceAdd, Nat.reduceSub, Nat.reduceMul, reduceCtorEq, Int.reduceToNat, Int.reduceNeg] <;> (rw [l0_1, show t.fRoutes.length - i = 0 by omega]; rfl)) rfl rfl

set_option maxHeartbeats 2000000 in
theorem table_Check_ok (O : Env) (t : Table) (hf : fewB t = true) : PCall Tryz.prog O 15 [.agg (eTable t)] (vi (chk t)) := by
  -- signalling/table.Check
  refine pcall_has 0 rfl (.agg (d := encRt t.fRoutes) (by simp [eTable]) (.sl _ _ _)) fun hr => ?_
  refine pcall_has 0 rfl (.agg (d := encI t.fPoints) (by simp [eTable]) (.sl _ _ _)) fun hp => ?_
  refine pcall_of_aw Tryz.func15 rfl (by kernel_rfl) ?_
  refine aw_seq fun K0 hK0 => ?_
  refine aw_reg [0] (by kernel_rfl) ?_
  simp (disch := omega) only [go_sem, ↓reduceIte, Nat.reduceEqDiff, Nat.reduceLT, Nat.reduceLeDiff, Nat.reduceAdd, Nat.reduceSub, Nat.reduceMul, reduceCtorEq, Int.reduceToNat, Int.reduceNeg, nms_s]
  repeat refine And.intro obl ?_
  refine hK0 _ ?_; clear hK0
  refine aw_seq fun K1 hK1 => ?_
  refine aw_seq fun K2 hK2 => ?_
  refine aw_reg [1] (by kernel_rfl) ?_
  simp (disch := omega) only [go_sem, ↓reduceIte, Nat.reduceEqDiff, Nat.reduceLT, Nat.reduceLeDiff, Nat.reduceAdd, Nat.reduceSub, Nat.reduceMul, reduceCtorEq, Int.reduceToNat, Int.reduceNeg, nms_s]
  repeat refine And.intro obl ?_
  refine callC_to (fun g0 => table_within_ok _ t.fSections 25) ?_ ?_ ?_
  · first | exact fun _ => trivial | simp
  · rfl
  simp (disch := omega) only [go_sem, ↓reduceIte, Nat.reduceEqDiff, Nat.reduceLT, Nat.reduceLeDiff, Nat.reduceAdd, Nat.reduceSub, Nat.reduceMul, reduceCtorEq, Int.reduceToNat, Int.reduceNeg, nms_s]
  repeat refine And.intro obl ?_
  refine callC_to (fun g1 => table_within_ok _ t.fSignals 21) ?_ ?_ ?_
  · first | exact fun _ => trivial | simp
  · rfl
  simp (disch := omega) only [go_sem, ↓reduceIte, Nat.reduceEqDiff, Nat.reduceLT, Nat.reduceLeDiff, Nat.reduceAdd, Nat.reduceSub, Nat.reduceMul, reduceCtorEq, Int.reduceToNat, Int.reduceNeg, nms_s]
  repeat refine And.intro obl ?_
  refine hK2 _ ?_; clear hK2
  refine aw_cond _ (by rfl) (rfl) (fun c0 => ?_) (fun c0 => ?_)
  · try simp only [push_cast] at c0
    refine aw_seq fun K3 hK3 => ?_
    refine aw_reg [] (by kernel_rfl) ?_
    simp (disch := omega) only [go_sem, ↓reduceIte, Nat.reduceEqDiff, Nat.reduceLT, Nat.reduceLeDiff, Nat.reduceAdd, Nat.reduceSub, Nat.reduceMul, reduceCtorEq, Int.reduceToNat, Int.reduceNeg, nms_s]
    repeat refine And.intro obl ?_
    refine hK3 _ ?_; clear hK3
    refine aw_ret ?_
    refine ret_tmp 2 rfl (by simp (disch := omega) only [go_sem, ↓reduceIte, Nat.reduceEqDiff, Nat.reduceLT, Nat.reduceLeDiff, Nat.reduceAdd, Nat.reduceSub, Nat.reduceMul, reduceCtorEq, Int.reduceToNat, Int.reduceNeg, nms_s]) ?_
    exact Exp.is (by simp (disch := omega) only [go_sem, ↓reduceIte, Nat.reduceEqDiff, Nat.reduceLT, Nat.reduceLeDiff, Nat.reduceAdd, Nat.reduceSub, Nat.reduceMul, reduceCtorEq, Int.reduceToNat, Int.reduceNeg, nms_s] <;> (rw [chk1 (decide_eq_false (by omega))])) rfl rfl
  · try simp only [push_cast] at c0
    have hL : limB t = true := decide_eq_true (by omega)
    refine aw_skip ?_
    refine hK1 _ ?_; clear hK1
    refine aw_seq fun K4 hK4 => ?_
    refine aw_seq fun K5 hK5 => ?_
    refine aw_reg [1] (by kernel_rfl) ?_
    simp (disch := omega) only [go_sem, ↓reduceIte, Nat.reduceEqDiff, Nat.reduceLT, Nat.reduceLeDiff, Nat.reduceAdd, Nat.reduceSub, Nat.reduceMul, reduceCtorEq, Int.reduceToNat, Int.reduceNeg, nms_s]
    repeat refine And.intro obl ?_
    refine callG_of _ (table_pointsRight_ok _ t) ?_
    simp (disch := omega) only [go_sem, ↓reduceIte, Nat.reduceEqDiff, Nat.reduceLT, Nat.reduceLeDiff, Nat.reduceAdd, Nat.reduceSub, Nat.reduceMul, reduceCtorEq, Int.reduceToNat, Int.reduceNeg, nms_s]
    repeat refine And.intro obl ?_
    refine hK5 _ ?_; clear hK5
    refine aw_cond _ (by rfl) (rfl) (fun c1 => ?_) (fun c1 => ?_)
    · try simp only [push_cast] at c1
      refine aw_seq fun K6 hK6 => ?_
      refine aw_reg [] (by kernel_rfl) ?_
      simp (disch := omega) only [go_sem, ↓reduceIte, Nat.reduceEqDiff, Nat.reduceLT, Nat.reduceLeDiff, Nat.reduceAdd, Nat.reduceSub, Nat.reduceMul, reduceCtorEq, Int.reduceToNat, Int.reduceNeg, nms_s]
      repeat refine And.intro obl ?_
      refine hK6 _ ?_; clear hK6
      refine aw_ret ?_
      refine ret_tmp 2 rfl (by simp (disch := omega) only [go_sem, ↓reduceIte, Nat.reduceEqDiff, Nat.reduceLT, Nat.reduceLeDiff, Nat.reduceAdd, Nat.reduceSub, Nat.reduceMul, reduceCtorEq, Int.reduceToNat, Int.reduceNeg, nms_s]) ?_
      exact Exp.is (by simp (disch := omega) only [go_sem, ↓reduceIte, Nat.reduceEqDiff, Nat.reduceLT, Nat.reduceLeDiff, Nat.reduceAdd, Nat.reduceSub, Nat.reduceMul, reduceCtorEq, Int.reduceToNat, Int.reduceNeg, nms_s] <;> (rw [chk2 hL (by simpa using c1)])) rfl rfl
    · try simp only [push_cast] at c1
      have hP : ptsB t = true := by simpa using c1
      refine aw_skip ?_
      refine hK4 _ ?_; clear hK4
      refine aw_seq fun K7 hK7 => ?_
      refine aw_seq fun K8 hK8 => ?_
      refine aw_reg [1] (by kernel_rfl) ?_
      simp (disch := omega) only [go_sem, ↓reduceIte, Nat.reduceEqDiff, Nat.reduceLT, Nat.reduceLeDiff, Nat.reduceAdd, Nat.reduceSub, Nat.reduceMul, reduceCtorEq, Int.reduceToNat, Int.reduceNeg, nms_s]
      repeat refine And.intro obl ?_
      refine hK8 _ ?_; clear hK8
      refine aw_block ?_
      refine aw_loopK [1, 38, 39, 40] (fun n ρ => ∃ i, n = t.fRoutes.length - i ∧ (i ≤ t.fRoutes.length) ∧ (allTo (rtB t) t.fRoutes i) ∧ ρ = mkE O [(1, .bx (eTable t)), (38, encRt t.fRoutes), (39, vi (t.fRoutes.length : Nat)), (40, vi (i : Nat))]) _ ⟨0, rfl, ?_, ?_, ?_⟩ ?_
      · exact dfl
      · exact allTo_0 _ _
      · simp (disch := omega) only [go_sem, ↓reduceIte, Nat.reduceEqDiff, Nat.reduceLT, Nat.reduceLeDiff, Nat.reduceAdd, Nat.reduceSub, Nat.reduceMul, reduceCtorEq, Int.reduceToNat, Int.reduceNeg, nms_s] <;> first | rfl | omega | simp | simp_all
      rintro n ρ ⟨i, rfl, l0_0, l0_1, rfl⟩ K9 hK9
      refine aw_seq fun K10 hK10 => ?_
      refine aw_reg [1, 37, 38, 39, 40] (by kernel_rfl) ?_
      simp (disch := omega) only [go_sem, ↓reduceIte, Nat.reduceEqDiff, Nat.reduceLT, Nat.reduceLeDiff, Nat.reduceAdd, Nat.reduceSub, Nat.reduceMul, reduceCtorEq, Int.reduceToNat, Int.reduceNeg, nms_s]
      repeat refine And.intro obl ?_
      refine hK10 _ ?_; clear hK10
      refine aw_seq fun K11 hK11 => ?_
      refine aw_cond _ (by rfl) (rfl) (fun c2 => ?_) (fun c2 => ?_)
      · try simp only [push_cast] at c2
        refine aw_skip ?_
        refine hK11 _ ?_; clear hK11
        refine aw_seq fun K12 hK12 => ?_
        refine aw_block ?_
        refine aw_seq fun K13 hK13 => ?_
        refine aw_reg [1, 37, 38, 39, 40] (by kernel_rfl) ?_
        simp (disch := omega) only [go_sem, ↓reduceIte, Nat.reduceEqDiff, Nat.reduceLT, Nat.reduceLeDiff, Nat.reduceAdd, Nat.reduceSub, Nat.reduceMul, reduceCtorEq, Int.reduceToNat, Int.reduceNeg, nms_s]
        repeat refine And.intro obl ?_
        refine hK13 _ ?_; clear hK13
        refine aw_seq fun K14 hK14 => ?_
        refine aw_reg [1, 4, 37, 38, 39, 40] (by kernel_rfl) ?_
        simp (disch := omega) only [go_sem, ↓reduceIte, Nat.reduceEqDiff, Nat.reduceLT, Nat.reduceLeDiff, Nat.reduceAdd, Nat.reduceSub, Nat.reduceMul, reduceCtorEq, Int.reduceToNat, Int.reduceNeg, nms_s]
        repeat refine And.intro obl ?_
        refine callG_of _ (table_routeRight_ok _ t (t.fRoutes.getD i default) (lim_of hL) (few_r hf c2)) ?_
        simp (disch := omega) only [go_sem, ↓reduceIte, Nat.reduceEqDiff, Nat.reduceLT, Nat.reduceLeDiff, Nat.reduceAdd, Nat.reduceSub, Nat.reduceMul, reduceCtorEq, Int.reduceToNat, Int.reduceNeg, nms_s]
        repeat refine And.intro obl ?_
        refine hK14 _ ?_; clear hK14
        refine aw_cond _ (by rfl) (rfl) (fun c3 => ?_) (fun c3 => ?_)
        · try simp only [push_cast] at c3
          refine aw_seq fun K15 hK15 => ?_
          refine aw_reg [] (by kernel_rfl) ?_
          simp (disch := omega) only [go_sem, ↓reduceIte, Nat.reduceEqDiff, Nat.reduceLT, Nat.reduceLeDiff, Nat.reduceAdd, Nat.reduceSub, Nat.reduceMul, reduceCtorEq, Int.reduceToNat, Int.reduceNeg, nms_s]
          repeat refine And.intro obl ?_
          refine hK15 _ ?_; clear hK15
          refine aw_ret ?_
          refine ret_tmp 2 rfl (by simp (disch := omega) only [go_sem, ↓reduceIte, Nat.reduceEqDiff, Nat.reduceLT, Nat.reduceLeDiff, Nat.reduceAdd, Nat.reduceSub, Nat.reduceMul, reduceCtorEq, Int.reduceToNat, Int.reduceNeg, nms_s]) ?_
          exact Exp.is (by simp (disch := omega) only [go_sem, ↓reduceIte, Nat.reduceEqDiff, Nat.reduceLT, Nat.reduceLeDiff, Nat.reduceAdd, Nat.reduceSub, Nat.reduceMul, reduceCtorEq, Int.reduceToNat, Int.reduceNeg, nms_s] <;> (rw [chk3 hL hP (all_f c2 (by simpa using c3))])) rfl rfl
        · try simp only [push_cast] at c3
          refine aw_skip ?_
          refine hK12 _ ?_; clear hK12
          refine aw_reg [1, 37, 38, 39, 40] (by kernel_rfl) ?_
          simp (disch := omega) only [go_sem, ↓reduceIte, Nat.reduceEqDiff, Nat.reduceLT, Nat.reduceLeDiff, Nat.reduceAdd, Nat.reduceSub, Nat.reduceMul, reduceCtorEq, Int.reduceToNat, Int.reduceNeg, nms_s]
          repeat refine And.intro obl ?_
          refine hK9 _ _ ?_ ⟨i + 1, rfl, ?_, ?_, ?_⟩
          · exact dfl
          · exact dfl
          · exact allTo_s l0_1 (by simpa using c3)
          · simp (disch := omega) only [go_sem, ↓reduceIte, Nat.reduceEqDiff, Nat.reduceLT, Nat.reduceLeDiff, Nat.reduceAdd, Nat.reduceSub, Nat.reduceMul, reduceCtorEq, Int.reduceToNat, Int.reduceNeg, nms_s] <;> first | rfl | omega | simp | simp_all
      · try simp only [push_cast] at c2
        refine aw_exit ?_
        refine hK7 _ ?_; clear hK7
        refine aw_seq fun K16 hK16 => ?_
        refine aw_seq fun K17 hK17 => ?_
        refine aw_reg [1] (by kernel_rfl) ?_
        simp (disch := omega) only [go_sem, ↓reduceIte, Nat.reduceEqDiff, Nat.reduceLT, Nat.reduceLeDiff, Nat.reduceAdd, Nat.reduceSub, Nat.reduceMul, reduceCtorEq, Int.reduceToNat, Int.reduceNeg, nms_s]
        repeat refine And.intro obl ?_
        refine hK17 _ ?_; clear hK17
        refine aw_block ?_
        have hA := all_t l0_1 (by omega)
        refine aw_loopK [1, 50, 51, 52] (fun n ρ => ∃ i, n = t.fRoutes.length - i ∧ (i ≤ t.fRoutes.length) ∧ (allTo (seB t) t.fRoutes i) ∧ ρ = mkE O [(1, .bx (eTable t)), (50, encRt t.fRoutes), (51, vi (t.fRoutes.length : Nat)), (52, vi (i : Nat))]) _ ⟨0, rfl, ?_, ?_, ?_⟩ ?_
        · exact dfl
        · exact allTo_0 _ _
        · simp (disch := omega) only [go_sem, ↓reduceIte, Nat.reduceEqDiff, Nat.reduceLT, Nat.reduceLeDiff, Nat.reduceAdd, Nat.reduceSub, Nat.reduceMul, reduceCtorEq, Int.reduceToNat, Int.reduceNeg, nms_s] <;> first | rfl | omega | simp | simp_all
        rintro n ρ ⟨i, rfl, l1_0, l1_1, rfl⟩ K18 hK18
        refine aw_seq fun K19 hK19 => ?_
        refine aw_reg [1, 49, 50, 51, 52] (by kernel_rfl) ?_
        simp (disch := omega) only [go_sem, ↓reduceIte, Nat.reduceEqDiff, Nat.reduceLT, Nat.reduceLeDiff, Nat.reduceAdd, Nat.reduceSub, Nat.reduceMul, reduceCtorEq, Int.reduceToNat, Int.reduceNeg, nms_s]
        repeat refine And.intro obl ?_
        refine hK19 _ ?_; clear hK19
        refine aw_seq fun K20 hK20 => ?_
        refine aw_cond _ (by rfl) (rfl) (fun c4 => ?_) (fun c4 => ?_)
        · try simp only [push_cast] at c4
          refine aw_skip ?_
          refine hK20 _ ?_; clear hK20
          refine aw_seq fun K21 hK21 => ?_
          refine aw_block ?_
          refine aw_seq fun K22 hK22 => ?_
          refine aw_reg [1, 49, 50, 51, 52] (by kernel_rfl) ?_
          simp (disch := omega) only [go_sem, ↓reduceIte, Nat.reduceEqDiff, Nat.reduceLT, Nat.reduceLeDiff, Nat.reduceAdd, Nat.reduceSub, Nat.reduceMul, reduceCtorEq, Int.reduceToNat, Int.reduceNeg, nms_s]
          repeat refine And.intro obl ?_
          refine hK22 _ ?_; clear hK22
          refine aw_seq fun K23 hK23 => ?_
          refine aw_reg [1, 6, 49, 50, 51, 52] (by kernel_rfl) ?_
          simp (disch := omega) only [go_sem, ↓reduceIte, Nat.reduceEqDiff, Nat.reduceLT, Nat.reduceLeDiff, Nat.reduceAdd, Nat.reduceSub, Nat.reduceMul, reduceCtorEq, Int.reduceToNat, Int.reduceNeg, nms_s]
          repeat refine And.intro obl ?_
          refine callG_of _ (table_settingsRight_ok _ t (t.fRoutes.getD i default).fPoints) ?_
          simp (disch := omega) only [go_sem, ↓reduceIte, Nat.reduceEqDiff, Nat.reduceLT, Nat.reduceLeDiff, Nat.reduceAdd, Nat.reduceSub, Nat.reduceMul, reduceCtorEq, Int.reduceToNat, Int.reduceNeg, nms_s]
          repeat refine And.intro obl ?_
          refine callC_to (fun g2 => table_settingsRight_ok _ t (t.fRoutes.getD i default).fOverPoints) ?_ ?_ ?_
          · first | exact fun _ => trivial | simp
          · rfl
          simp (disch := omega) only [go_sem, ↓reduceIte, Nat.reduceEqDiff, Nat.reduceLT, Nat.reduceLeDiff, Nat.reduceAdd, Nat.reduceSub, Nat.reduceMul, reduceCtorEq, Int.reduceToNat, Int.reduceNeg, nms_s]
          repeat refine And.intro obl ?_
          refine callC_to (fun g3 => table_settingsRight_ok _ t (t.fRoutes.getD i default).fFlank) ?_ ?_ ?_
          · first | exact fun _ => trivial | simp
          · rfl
          simp (disch := omega) only [go_sem, ↓reduceIte, Nat.reduceEqDiff, Nat.reduceLT, Nat.reduceLeDiff, Nat.reduceAdd, Nat.reduceSub, Nat.reduceMul, reduceCtorEq, Int.reduceToNat, Int.reduceNeg, nms_s]
          repeat refine And.intro obl ?_
          refine hK23 _ ?_; clear hK23
          refine aw_cond _ (by rfl) (rfl) (fun c5 => ?_) (fun c5 => ?_)
          · try simp only [push_cast] at c5
            refine aw_seq fun K24 hK24 => ?_
            refine aw_reg [] (by kernel_rfl) ?_
            simp (disch := omega) only [go_sem, ↓reduceIte, Nat.reduceEqDiff, Nat.reduceLT, Nat.reduceLeDiff, Nat.reduceAdd, Nat.reduceSub, Nat.reduceMul, reduceCtorEq, Int.reduceToNat, Int.reduceNeg, nms_s]
            repeat refine And.intro obl ?_
            refine hK24 _ ?_; clear hK24
            refine aw_ret ?_
            refine ret_tmp 2 rfl (by simp (disch := omega) only [go_sem, ↓reduceIte, Nat.reduceEqDiff, Nat.reduceLT, Nat.reduceLeDiff, Nat.reduceAdd, Nat.reduceSub, Nat.reduceMul, reduceCtorEq, Int.reduceToNat, Int.reduceNeg, nms_s]) ?_
            exact Exp.is (by simp (disch := omega) only [go_sem, ↓reduceIte, Nat.reduceEqDiff, Nat.reduceLT, Nat.reduceLeDiff, Nat.reduceAdd, Nat.reduceSub, Nat.reduceMul, reduceCtorEq, Int.reduceToNat, Int.reduceNeg, nms_s] <;> (rw [chk4 hL hP (all_f c4 (by rw [seB, ← Bool.not_eq_true]; intro h; simp only [Bool.and_eq_true] at h; simp only [h.1.1, h.1.2, h.2] at c5; simp at c5))])) rfl rfl
          · try simp only [push_cast] at c5
            refine aw_skip ?_
            refine hK21 _ ?_; clear hK21
            refine aw_reg [1, 49, 50, 51, 52] (by kernel_rfl) ?_
            simp (disch := omega) only [go_sem, ↓reduceIte, Nat.reduceEqDiff, Nat.reduceLT, Nat.reduceLeDiff, Nat.reduceAdd, Nat.reduceSub, Nat.reduceMul, reduceCtorEq, Int.reduceToNat, Int.reduceNeg, nms_s]
            repeat refine And.intro obl ?_
            refine hK18 _ _ ?_ ⟨i + 1, rfl, ?_, ?_, ?_⟩
            · exact dfl
            · exact dfl
            · exact allTo_s l1_1 (by rw [seB]; simpa [and_assoc] using c5)
            · simp (disch := omega) only [go_sem, ↓reduceIte, Nat.reduceEqDiff, Nat.reduceLT, Nat.reduceLeDiff, Nat.reduceAdd, Nat.reduceSub, Nat.reduceMul, reduceCtorEq, Int.reduceToNat, Int.reduceNeg, nms_s] <;> first | rfl | omega | simp | simp_all
        · try simp only [push_cast] at c4
          refine aw_exit ?_
          refine hK16 _ ?_; clear hK16
          refine aw_seq fun K25 hK25 => ?_
          refine aw_seq fun K26 hK26 => ?_
          refine aw_reg [1] (by kernel_rfl) ?_
          simp (disch := omega) only [go_sem, ↓reduceIte, Nat.reduceEqDiff, Nat.reduceLT, Nat.reduceLeDiff, Nat.reduceAdd, Nat.reduceSub, Nat.reduceMul, reduceCtorEq, Int.reduceToNat, Int.reduceNeg, nms_s]
          repeat refine And.intro obl ?_
          refine hK26 _ ?_; clear hK26
          refine aw_block ?_
          have hB := all_t l1_1 (by omega)
          refine aw_loopK [1, 77, 78, 79] (fun n ρ => ∃ i, n = t.fRoutes.length - i ∧ (i ≤ t.fRoutes.length) ∧ (allTo agB t.fRoutes i) ∧ ρ = mkE O [(1, .bx (eTable t)), (77, encRt t.fRoutes), (78, vi (t.fRoutes.length : Nat)), (79, vi (i : Nat))]) _ ⟨0, rfl, ?_, ?_, ?_⟩ ?_
          · exact dfl
          · exact allTo_0 _ _
          · simp (disch := omega) only [go_sem, ↓reduceIte, Nat.reduceEqDiff, Nat.reduceLT, Nat.reduceLeDiff, Nat.reduceAdd, Nat.reduceSub, Nat.reduceMul, reduceCtorEq, Int.reduceToNat, Int.reduceNeg, nms_s] <;> first | rfl | omega | simp | simp_all
          rintro n ρ ⟨i, rfl, l2_0, l2_1, rfl⟩ K27 hK27
          refine aw_seq fun K28 hK28 => ?_
          refine aw_reg [1, 76, 77, 78, 79] (by kernel_rfl) ?_
          simp (disch := omega) only [go_sem, ↓reduceIte, Nat.reduceEqDiff, Nat.reduceLT, Nat.reduceLeDiff, Nat.reduceAdd, Nat.reduceSub, Nat.reduceMul, reduceCtorEq, Int.reduceToNat, Int.reduceNeg, nms_s]
          repeat refine And.intro obl ?_
          refine hK28 _ ?_; clear hK28
          refine aw_seq fun K29 hK29 => ?_
          refine aw_cond _ (by rfl) (rfl) (fun c6 => ?_) (fun c6 => ?_)
          · try simp only [push_cast] at c6
            refine aw_skip ?_
            refine hK29 _ ?_; clear hK29
            refine aw_seq fun K30 hK30 => ?_
            refine aw_block ?_
            refine aw_seq fun K31 hK31 => ?_
            refine aw_reg [1, 76, 77, 78, 79] (by kernel_rfl) ?_
            simp (disch := omega) only [go_sem, ↓reduceIte, Nat.reduceEqDiff, Nat.reduceLT, Nat.reduceLeDiff, Nat.reduceAdd, Nat.reduceSub, Nat.reduceMul, reduceCtorEq, Int.reduceToNat, Int.reduceNeg, nms_s]
            repeat refine And.intro obl ?_
            refine hK31 _ ?_; clear hK31
            refine aw_seq fun K32 hK32 => ?_
            refine aw_reg [1, 8, 76, 77, 78, 79] (by kernel_rfl) ?_
            simp (disch := omega) only [go_sem, ↓reduceIte, Nat.reduceEqDiff, Nat.reduceLT, Nat.reduceLeDiff, Nat.reduceAdd, Nat.reduceSub, Nat.reduceMul, reduceCtorEq, Int.reduceToNat, Int.reduceNeg, nms_s]
            repeat refine And.intro obl ?_
            refine callG_of _ (conflict_Agree_ok _ (t.fRoutes.getD i default).fPoints (t.fRoutes.getD i default).fOverPoints) ?_
            simp (disch := omega) only [go_sem, ↓reduceIte, Nat.reduceEqDiff, Nat.reduceLT, Nat.reduceLeDiff, Nat.reduceAdd, Nat.reduceSub, Nat.reduceMul, reduceCtorEq, Int.reduceToNat, Int.reduceNeg, nms_s]
            repeat refine And.intro obl ?_
            refine callC_to (fun g4 => conflict_Agree_ok _ (t.fRoutes.getD i default).fPoints (t.fRoutes.getD i default).fFlank) ?_ ?_ ?_
            · first | exact fun _ => trivial | simp
            · rfl
            simp (disch := omega) only [go_sem, ↓reduceIte, Nat.reduceEqDiff, Nat.reduceLT, Nat.reduceLeDiff, Nat.reduceAdd, Nat.reduceSub, Nat.reduceMul, reduceCtorEq, Int.reduceToNat, Int.reduceNeg, nms_s]
            repeat refine And.intro obl ?_
            refine callC_to (fun g5 => conflict_Agree_ok _ (t.fRoutes.getD i default).fOverPoints (t.fRoutes.getD i default).fFlank) ?_ ?_ ?_
            · first | exact fun _ => trivial | simp
            · rfl
            simp (disch := omega) only [go_sem, ↓reduceIte, Nat.reduceEqDiff, Nat.reduceLT, Nat.reduceLeDiff, Nat.reduceAdd, Nat.reduceSub, Nat.reduceMul, reduceCtorEq, Int.reduceToNat, Int.reduceNeg, nms_s]
            repeat refine And.intro obl ?_
            refine hK32 _ ?_; clear hK32
            refine aw_cond _ (by rfl) (rfl) (fun c7 => ?_) (fun c7 => ?_)
            · try simp only [push_cast] at c7
              refine aw_seq fun K33 hK33 => ?_
              refine aw_reg [] (by kernel_rfl) ?_
              simp (disch := omega) only [go_sem, ↓reduceIte, Nat.reduceEqDiff, Nat.reduceLT, Nat.reduceLeDiff, Nat.reduceAdd, Nat.reduceSub, Nat.reduceMul, reduceCtorEq, Int.reduceToNat, Int.reduceNeg, nms_s]
              repeat refine And.intro obl ?_
              refine hK33 _ ?_; clear hK33
              refine aw_ret ?_
              refine ret_tmp 2 rfl (by simp (disch := omega) only [go_sem, ↓reduceIte, Nat.reduceEqDiff, Nat.reduceLT, Nat.reduceLeDiff, Nat.reduceAdd, Nat.reduceSub, Nat.reduceMul, reduceCtorEq, Int.reduceToNat, Int.reduceNeg, nms_s]) ?_
              exact Exp.is (by simp (disch := omega) only [go_sem, ↓reduceIte, Nat.reduceEqDiff, Nat.reduceLT, Nat.reduceLeDiff, Nat.reduceAdd, Nat.reduceSub, Nat.reduceMul, reduceCtorEq, Int.reduceToNat, Int.reduceNeg, nms_s] <;> (rw [chk5 hL hP hA hB (all_f c6 (by rw [agB, ← Bool.not_eq_true]; intro h; simp only [Bool.and_eq_true] at h; simp only [h.1.1, h.1.2, h.2] at c7; simp at c7))])) rfl rfl
            · try simp only [push_cast] at c7
              refine aw_skip ?_
              refine hK30 _ ?_; clear hK30
              refine aw_reg [1, 76, 77, 78, 79] (by kernel_rfl) ?_
              simp (disch := omega) only [go_sem, ↓reduceIte, Nat.reduceEqDiff, Nat.reduceLT, Nat.reduceLeDiff, Nat.reduceAdd, Nat.reduceSub, Nat.reduceMul, reduceCtorEq, Int.reduceToNat, Int.reduceNeg, nms_s]
              repeat refine And.intro obl ?_
              refine hK27 _ _ ?_ ⟨i + 1, rfl, ?_, ?_, ?_⟩
              · exact dfl
              · exact dfl
              · exact allTo_s l2_1 (by rw [agB]; simpa [and_assoc] using c7)
              · simp (disch := omega) only [go_sem, ↓reduceIte, Nat.reduceEqDiff, Nat.reduceLT, Nat.reduceLeDiff, Nat.reduceAdd, Nat.reduceSub, Nat.reduceMul, reduceCtorEq, Int.reduceToNat, Int.reduceNeg, nms_s] <;> first | rfl | omega | simp | simp_all
          · try simp only [push_cast] at c6
            refine aw_exit ?_
            refine hK25 _ ?_; clear hK25
            refine aw_seq fun K34 hK34 => ?_
            refine aw_reg [1] (by kernel_rfl) ?_
            simp (disch := omega) only [go_sem, ↓reduceIte, Nat.reduceEqDiff, Nat.reduceLT, Nat.reduceLeDiff, Nat.reduceAdd, Nat.reduceSub, Nat.reduceMul, reduceCtorEq, Int.reduceToNat, Int.reduceNeg, nms_s]
            repeat refine And.intro obl ?_
            refine hK34 _ ?_; clear hK34
            refine aw_seq fun K35 hK35 => ?_
            refine aw_seq fun K36 hK36 => ?_
            refine aw_reg [1, 9] (by kernel_rfl) ?_
            simp (disch := omega) only [go_sem, ↓reduceIte, Nat.reduceEqDiff, Nat.reduceLT, Nat.reduceLeDiff, Nat.reduceAdd, Nat.reduceSub, Nat.reduceMul, reduceCtorEq, Int.reduceToNat, Int.reduceNeg, nms_s]
            repeat refine And.intro obl ?_
            refine hK36 _ ?_; clear hK36
            refine aw_block ?_
            have hC := all_t l2_1 (by omega)
            refine aw_loopK [9, 108, 109, 110] (fun n ρ => ∃ i, n = t.fRoutes.length - i ∧ (i ≤ t.fRoutes.length) ∧ (rgTo (nuB t) i) ∧ ρ = mkE O [(9, .mo (nmsL t i)), (108, encRt t.fRoutes), (109, vi (t.fRoutes.length : Nat)), (110, vi (i : Nat))]) _ ⟨0, rfl, ?_, ?_, ?_⟩ ?_
            · exact dfl
            · exact rgTo_0 _
            · simp (disch := omega) only [go_sem, ↓reduceIte, Nat.reduceEqDiff, Nat.reduceLT, Nat.reduceLeDiff, Nat.reduceAdd, Nat.reduceSub, Nat.reduceMul, reduceCtorEq, Int.reduceToNat, Int.reduceNeg, nms_s] <;> first | rfl | omega | simp | simp_all
            rintro n ρ ⟨i, rfl, l3_0, l3_1, rfl⟩ K37 hK37
            have hK := nms_keys l3_1
            have hG := nms_get hK
            refine aw_seq fun K38 hK38 => ?_
            refine aw_reg [1, 9, 107, 108, 109, 110] (by kernel_rfl) ?_
            simp (disch := omega) only [go_sem, ↓reduceIte, Nat.reduceEqDiff, Nat.reduceLT, Nat.reduceLeDiff, Nat.reduceAdd, Nat.reduceSub, Nat.reduceMul, reduceCtorEq, Int.reduceToNat, Int.reduceNeg, nms_s, hG]
            repeat refine And.intro obl ?_
            refine hK38 _ ?_; clear hK38
            refine aw_seq fun K39 hK39 => ?_
            refine aw_cond _ (by rfl) (rfl) (fun c8 => ?_) (fun c8 => ?_)
            · try simp only [push_cast] at c8
              refine aw_skip ?_
              refine hK39 _ ?_; clear hK39
              refine aw_seq fun K40 hK40 => ?_
              refine aw_block ?_
              refine aw_seq fun K41 hK41 => ?_
              refine aw_reg [1, 9, 107, 108, 109, 110] (by kernel_rfl) ?_
              simp (disch := omega) only [go_sem, ↓reduceIte, Nat.reduceEqDiff, Nat.reduceLT, Nat.reduceLeDiff, Nat.reduceAdd, Nat.reduceSub, Nat.reduceMul, reduceCtorEq, Int.reduceToNat, Int.reduceNeg, nms_s, hG]
              repeat refine And.intro obl ?_
              refine hK41 _ ?_; clear hK41
              refine aw_seq fun K42 hK42 => ?_
              refine aw_seq fun K43 hK43 => ?_
              refine aw_reg [1, 9, 11, 107, 108, 109, 110] (by kernel_rfl) ?_
              simp (disch := omega) only [go_sem, ↓reduceIte, Nat.reduceEqDiff, Nat.reduceLT, Nat.reduceLeDiff, Nat.reduceAdd, Nat.reduceSub, Nat.reduceMul, reduceCtorEq, Int.reduceToNat, Int.reduceNeg, nms_s, hG]
              repeat refine And.intro obl ?_
              refine hK43 _ ?_; clear hK43
              refine aw_cond _ (by rfl) (rfl) (fun c9 => ?_) (fun c9 => ?_)
              · try simp only [push_cast] at c9
                refine aw_seq fun K44 hK44 => ?_
                refine aw_reg [] (by kernel_rfl) ?_
                simp (disch := omega) only [go_sem, ↓reduceIte, Nat.reduceEqDiff, Nat.reduceLT, Nat.reduceLeDiff, Nat.reduceAdd, Nat.reduceSub, Nat.reduceMul, reduceCtorEq, Int.reduceToNat, Int.reduceNeg, nms_s, hG]
                repeat refine And.intro obl ?_
                refine hK44 _ ?_; clear hK44
                refine aw_ret ?_
                refine ret_tmp 2 rfl (by simp (disch := omega) only [go_sem, ↓reduceIte, Nat.reduceEqDiff, Nat.reduceLT, Nat.reduceLeDiff, Nat.reduceAdd, Nat.reduceSub, Nat.reduceMul, reduceCtorEq, Int.reduceToNat, Int.reduceNeg, nms_s, hG]) ?_
                exact Exp.is (by simp (disch := omega) only [go_sem, ↓reduceIte, Nat.reduceEqDiff, Nat.reduceLT, Nat.reduceLeDiff, Nat.reduceAdd, Nat.reduceSub, Nat.reduceMul, reduceCtorEq, Int.reduceToNat, Int.reduceNeg, nms_s, hG] <;> (rw [chk6 hL hP hA hB hC (rg_f c8 (by simpa using c9))])) rfl rfl
              · try simp only [push_cast] at c9
                have hN : nuB t i = true := by simpa using c9
                have hNK := nms_new hN
                refine aw_skip ?_
                refine hK42 _ ?_; clear hK42
                refine aw_reg [1, 9, 11, 107, 108, 109, 110] (by kernel_rfl) ?_
                simp (disch := omega) only [go_sem, ↓reduceIte, Nat.reduceEqDiff, Nat.reduceLT, Nat.reduceLeDiff, Nat.reduceAdd, Nat.reduceSub, Nat.reduceMul, reduceCtorEq, Int.reduceToNat, Int.reduceNeg, nms_s, hG]
                repeat refine And.intro obl ?_
                refine hK40 _ ?_; clear hK40
                refine aw_reg [1, 9, 107, 108, 109, 110] (by kernel_rfl) ?_
                simp (disch := omega) only [go_sem, ↓reduceIte, Nat.reduceEqDiff, Nat.reduceLT, Nat.reduceLeDiff, Nat.reduceAdd, Nat.reduceSub, Nat.reduceMul, reduceCtorEq, Int.reduceToNat, Int.reduceNeg, nms_s, hG]
                repeat refine And.intro obl ?_
                refine hK37 _ _ ?_ ⟨i + 1, rfl, ?_, ?_, ?_⟩
                · exact dfl
                · exact dfl
                · exact rgTo_s l3_1 hN
                · simp (disch := omega) only [go_sem, ↓reduceIte, Nat.reduceEqDiff, Nat.reduceLT, Nat.reduceLeDiff, Nat.reduceAdd, Nat.reduceSub, Nat.reduceMul, reduceCtorEq, Int.reduceToNat, Int.reduceNeg, nms_s, hG] <;> first | rfl | omega | simp | simp_all
            · try simp only [push_cast] at c8
              refine aw_exit ?_
              refine hK35 _ ?_; clear hK35
              refine aw_seq fun K45 hK45 => ?_
              refine aw_reg [] (by kernel_rfl) ?_
              simp (disch := omega) only [go_sem, ↓reduceIte, Nat.reduceEqDiff, Nat.reduceLT, Nat.reduceLeDiff, Nat.reduceAdd, Nat.reduceSub, Nat.reduceMul, reduceCtorEq, Int.reduceToNat, Int.reduceNeg, nms_s, hG]
              repeat refine And.intro obl ?_
              refine hK45 _ ?_; clear hK45
              refine aw_ret ?_
              refine ret_tmp 2 rfl (by simp (disch := omega) only [go_sem, ↓reduceIte, Nat.reduceEqDiff, Nat.reduceLT, Nat.reduceLeDiff, Nat.reduceAdd, Nat.reduceSub, Nat.reduceMul, reduceCtorEq, Int.reduceToNat, Int.reduceNeg, nms_s, hG]) ?_
              exact Exp.is (by simp (disch := omega) only [go_sem, ↓reduceIte, Nat.reduceEqDiff, Nat.reduceLT, Nat.reduceLeDiff, Nat.reduceAdd, Nat.reduceSub, Nat.reduceMul, reduceCtorEq, Int.reduceToNat, Int.reduceNeg, nms_s, hG] <;> (rw [chk7 hL hP hA hB hC (rg_t l3_1 (by omega))])) rfl rfl

end Go.Sg
