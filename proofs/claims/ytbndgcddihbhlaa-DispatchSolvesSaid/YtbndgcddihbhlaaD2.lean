/- Contracts of the timetable's checks, of the program and of the reference. Printed by genw.py. -/
import Derived.Test.YtbndgcddihbhlaaSgB
import Derived.Test.YtbndgcddihbhlaaC2
import Derived.Test.YtbndgcddihbhlaaSgC
set_option linter.unusedVariables false
set_option linter.unusedSimpArgs false
set_option maxRecDepth 8000
namespace Go.Sg
open Go.Proofs
attribute [go_sem] i64id
abbrev encTr (l : List Trip) : DV := encL 2 eTrip l
abbrev encSp (l : List Stop) : DV := encL 4 eStop l
def spB (t : Table) (s : Stop) : Bool := decide (0 ≤ s.fRoute ∧ s.fRoute < t.fRoutes.length ∧ 0 ≤ s.fDue ∧ s.fDue ≤ 1073741824 ∧ 1 ≤ s.fRun ∧ s.fRun ≤ 1000 ∧ 0 ≤ s.fWeight ∧ s.fWeight ≤ 100)
def plB (t : Table) (p : Trip) : Bool := decide (1 ≤ p.fTrain ∧ p.fTrain ≤ 99) && p.fStops.all (spB t)
def lnB (p : Trip) : Bool := decide (1 ≤ p.fStops.length ∧ p.fStops.length ≤ 4)
def trN (tr : List Trip) (i : Nat) : Int := (tr.getD i default).fTrain
def ndB (tr : List Trip) (i : Nat) : Bool := (List.range i).all fun k => !(trN tr i == trN tr k)
def spN (p : Trip) (j : Nat) : Stop := p.fStops.getD j default
def rtT (t : Table) (s : Stop) : Route := t.fRoutes.getD s.fRoute.toNat default
def fwB (t : Table) (p : Trip) (j : Nat) : Bool := folB (rtT t (spN p j)) (rtT t (spN p (j + 1)))
def odB (p : Trip) (j : Nat) : Bool := decide ((spN p j).fDue < (spN p (j + 1)).fDue)
def fwA (t : Table) (p : Trip) : Bool := (List.range (p.fStops.length - 1)).all (fwB t p)
def odA (p : Trip) : Bool := (List.range (p.fStops.length - 1)).all (odB p)
def chkI (t : Table) (tr : List Trip) : Int :=
  if 4 < tr.length then 2 else if tr.all lnB = false then 2 else if tr.all (plB t) = false then 1 else if (List.range tr.length).all (ndB tr) = false then 8 else if tr.all (fwA t) = false then 10 else if tr.all odA = false then 7 else 0
section
variable {t : Table} {tr : List Trip}
theorem chk1 (h : 4 < tr.length) : chkI t tr = 2 := by rw [chkI, if_pos h]
theorem chk2 (h : ¬ 4 < tr.length) (h2 : tr.all lnB = false) : chkI t tr = 2 := by rw [chkI, if_neg h, if_pos h2]
theorem chk3 (h : ¬ 4 < tr.length) (h2 : tr.all lnB = true) (h3 : tr.all (plB t) = false) : chkI t tr = 1 := by rw [chkI, if_neg h, if_neg (by rw [h2]; simp), if_pos h3]
theorem chk4 (h : ¬ 4 < tr.length) (h2 : tr.all lnB = true) (h3 : tr.all (plB t) = true) (h4 : (List.range tr.length).all (ndB tr) = false) : chkI t tr = 8 := by rw [chkI, if_neg h, if_neg (by rw [h2]; simp), if_neg (by rw [h3]; simp), if_pos h4]
theorem chk5 (h : ¬ 4 < tr.length) (h2 : tr.all lnB = true) (h3 : tr.all (plB t) = true) (h4 : (List.range tr.length).all (ndB tr) = true) (h5 : tr.all (fwA t) = false) : chkI t tr = 10 := by rw [chkI, if_neg h, if_neg (by rw [h2]; simp), if_neg (by rw [h3]; simp), if_neg (by rw [h4]; simp), if_pos h5]
theorem chk6 (h : ¬ 4 < tr.length) (h2 : tr.all lnB = true) (h3 : tr.all (plB t) = true) (h4 : (List.range tr.length).all (ndB tr) = true) (h5 : tr.all (fwA t) = true) (h6 : tr.all odA = false) : chkI t tr = 7 := by rw [chkI, if_neg h, if_neg (by rw [h2]; simp), if_neg (by rw [h3]; simp), if_neg (by rw [h4]; simp), if_neg (by rw [h5]; simp), if_pos h6]
theorem chk7 (h : ¬ 4 < tr.length) (h2 : tr.all lnB = true) (h3 : tr.all (plB t) = true) (h4 : (List.range tr.length).all (ndB tr) = true) (h5 : tr.all (fwA t) = true) (h6 : tr.all odA = true) : chkI t tr = 0 := by rw [chkI, if_neg h, if_neg (by rw [h2]; simp), if_neg (by rw [h3]; simp), if_neg (by rw [h4]; simp), if_neg (by rw [h5]; simp), if_neg (by rw [h6]; simp)]
theorem chk0 (h : chkI t tr = 0) : tr.length ≤ 4 ∧ tr.all lnB = true ∧ tr.all (plB t) = true ∧ (List.range tr.length).all (ndB tr) = true ∧ tr.all (fwA t) = true ∧ tr.all odA = true := by
  unfold chkI at h
  split at h; · cases h
  split at h; · cases h
  split at h; · cases h
  split at h; · cases h
  split at h; · cases h
  split at h; · cases h
  rename_i h1 h2 h3 h4 h5 h6
  exact ⟨by omega, by simpa using h2, by simpa using h3, by simpa using h4, by simpa using h5, by simpa using h6⟩
theorem st_of {s : Stop} (h : spB t s = true) : 0 ≤ s.fRoute ∧ s.fRoute < t.fRoutes.length ∧ 0 ≤ s.fDue ∧ s.fDue ≤ 1073741824 ∧ 1 ≤ s.fRun ∧ s.fRun ≤ 1000 ∧ 0 ≤ s.fWeight ∧ s.fWeight ≤ 100 := of_decide_eq_true h
theorem pl_of {p : Trip} (h : plB t p = true) : (1 ≤ p.fTrain ∧ p.fTrain ≤ 99) ∧ ∀ j, j < p.fStops.length → spB t (spN p j) = true := by
  unfold plB at h
  rw [Bool.and_eq_true] at h
  exact ⟨of_decide_eq_true h.1, fun j hj => all_at h.2 hj⟩
end
theorem timetable_plain_ok (O : Env) (t : Table) (p : Trip) : PCall Try.prog O 44 [.agg (eTable t), .agg (eTrip p)] (vb (plB t p)) := by
  refine pcall_has 0 rfl (.agg (d := encRt t.fRoutes) (by simp [eTable]) (.sl _ _ _)) fun ht => ?_
  refine pcall_has 1 rfl (.agg (d := encSp p.fStops) (by simp [eTrip]) (.sl _ _ _)) fun hp => ?_
  refine pcall_of_aw Try.func44 rfl (by kernel_rfl) ?_
  refine aw_seq fun K0 hK0 => ?_
  refine aw_reg [0, 1] (by kernel_rfl) ?_
  simp (disch := omega) only [go_sem, seval]
  repeat refine And.intro obl ?_
  refine hK0 _ ?_; clear hK0
  refine aw_seq fun K1 hK1 => ?_
  refine aw_seq fun K2 hK2 => ?_
  refine aw_reg [2, 3] (by kernel_rfl) ?_
  simp (disch := omega) only [go_sem, seval]
  repeat refine And.intro obl ?_
  refine hK2 _ ?_; clear hK2
  refine aw_cond _ (by rfl) (rfl) (fun c0 => ?_) (fun c0 => ?_)
  · try simp only [push_cast] at c0
    refine aw_seq fun K3 hK3 => ?_
    refine aw_reg [] (by kernel_rfl) ?_
    simp (disch := omega) only [go_sem, seval]
    repeat refine And.intro obl ?_
    refine hK3 _ ?_; clear hK3
    refine aw_ret ?_
    refine ret_tmp 4 rfl (by simp (disch := omega) only [go_sem, seval]) ?_
    exact Exp.is (by simp (disch := omega) only [go_sem, seval] <;> refine congrArg vb ?_ <;> (rw [plB, decide_eq_false (by omega)]; rfl)) rfl rfl
  · try simp only [push_cast] at c0
    refine aw_skip ?_
    refine hK1 _ ?_; clear hK1
    refine aw_seq fun K4 hK4 => ?_
    refine aw_seq fun K5 hK5 => ?_
    refine aw_reg [2, 3] (by kernel_rfl) ?_
    simp (disch := omega) only [go_sem, seval]
    repeat refine And.intro obl ?_
    refine hK5 _ ?_; clear hK5
    refine aw_block ?_
    refine aw_loopK [2, 3, 17, 18] (fun n ρ => ∃ i, n = p.fStops.length - i ∧ (i ≤ p.fStops.length) ∧ (allTo (spB t) p.fStops i) ∧ ρ = mkE O [(2, .bx (eTable t)), (3, .bx (eTrip p)), (17, vi (p.fStops.length : Nat)), (18, vi (i : Nat))]) _ ⟨0, rfl, ?_, ?_, ?_⟩ ?_
    · exact dfl
    · exact allTo_0 _ _
    · simp (disch := omega) only [go_sem, seval] <;> first | rfl | omega | simp | simp_all
    rintro n ρ ⟨i, rfl, l0_0, l0_1, rfl⟩ K6 hK6
    refine aw_seq fun K7 hK7 => ?_
    refine aw_reg [2, 3, 17, 18] (by kernel_rfl) ?_
    simp (disch := omega) only [go_sem, seval]
    repeat refine And.intro obl ?_
    refine hK7 _ ?_; clear hK7
    refine aw_seq fun K8 hK8 => ?_
    refine aw_cond _ (by rfl) (rfl) (fun c1 => ?_) (fun c1 => ?_)
    · try simp only [push_cast] at c1
      refine aw_skip ?_
      refine hK8 _ ?_; clear hK8
      refine aw_seq fun K9 hK9 => ?_
      refine aw_block ?_
      refine aw_seq fun K10 hK10 => ?_
      refine aw_reg [2, 3, 17, 18] (by kernel_rfl) ?_
      simp (disch := omega) only [go_sem, seval]
      repeat refine And.intro obl ?_
      refine hK10 _ ?_; clear hK10
      refine aw_seq fun K11 hK11 => ?_
      refine aw_reg [2, 3, 5, 17, 18] (by kernel_rfl) ?_
      simp (disch := omega) only [go_sem, seval]
      repeat refine And.intro obl ?_
      refine hK11 _ ?_; clear hK11
      refine aw_seq fun K12 hK12 => ?_
      refine aw_seq fun K13 hK13 => ?_
      refine aw_reg [2, 3, 6, 17, 18] (by kernel_rfl) ?_
      simp (disch := omega) only [go_sem, seval]
      repeat refine And.intro obl ?_
      refine hK13 _ ?_; clear hK13
      refine aw_cond _ (by rfl) (rfl) (fun c2 => ?_) (fun c2 => ?_)
      · try simp only [push_cast] at c2
        refine aw_seq fun K14 hK14 => ?_
        refine aw_reg [] (by kernel_rfl) ?_
        simp (disch := omega) only [go_sem, seval]
        repeat refine And.intro obl ?_
        refine hK14 _ ?_; clear hK14
        refine aw_ret ?_
        refine ret_tmp 4 rfl (by simp (disch := omega) only [go_sem, seval]) ?_
        exact Exp.is (by simp (disch := omega) only [go_sem, seval] <;> refine congrArg vb ?_ <;> (rw [plB, all_f c1 (decide_eq_false (by omega)), Bool.and_false])) rfl rfl
      · try simp only [push_cast] at c2
        refine aw_skip ?_
        refine hK12 _ ?_; clear hK12
        refine aw_seq fun K15 hK15 => ?_
        refine aw_reg [2, 3, 6, 17, 18] (by kernel_rfl) ?_
        simp (disch := omega) only [go_sem, seval]
        repeat refine And.intro obl ?_
        refine hK15 _ ?_; clear hK15
        refine aw_cond _ (by rfl) (rfl) (fun c3 => ?_) (fun c3 => ?_)
        · try simp only [push_cast] at c3
          refine aw_seq fun K16 hK16 => ?_
          refine aw_reg [] (by kernel_rfl) ?_
          simp (disch := omega) only [go_sem, seval]
          repeat refine And.intro obl ?_
          refine hK16 _ ?_; clear hK16
          refine aw_ret ?_
          refine ret_tmp 4 rfl (by simp (disch := omega) only [go_sem, seval]) ?_
          exact Exp.is (by simp (disch := omega) only [go_sem, seval] <;> refine congrArg vb ?_ <;> (rw [plB, all_f c1 (decide_eq_false (by omega)), Bool.and_false])) rfl rfl
        · try simp only [push_cast] at c3
          refine aw_skip ?_
          refine hK9 _ ?_; clear hK9
          refine aw_reg [2, 3, 17, 18] (by kernel_rfl) ?_
          simp (disch := omega) only [go_sem, seval]
          repeat refine And.intro obl ?_
          refine hK6 _ _ ?_ ⟨i + 1, rfl, ?_, ?_, ?_⟩
          · exact dfl
          · exact dfl
          · exact allTo_s l0_1 (decide_eq_true (by omega))
          · simp (disch := omega) only [go_sem, seval] <;> first | rfl | omega | simp | simp_all
    · try simp only [push_cast] at c1
      refine aw_exit ?_
      refine hK4 _ ?_; clear hK4
      refine aw_seq fun K17 hK17 => ?_
      refine aw_reg [] (by kernel_rfl) ?_
      simp (disch := omega) only [go_sem, seval]
      repeat refine And.intro obl ?_
      refine hK17 _ ?_; clear hK17
      refine aw_ret ?_
      refine ret_tmp 4 rfl (by simp (disch := omega) only [go_sem, seval]) ?_
      exact Exp.is (by simp (disch := omega) only [go_sem, seval] <;> refine congrArg vb ?_ <;> (rw [plB, all_t l0_1 (by omega), decide_eq_true (by omega)]; rfl)) rfl rfl
theorem ref48_right_ok (O : Env) (t : Table) (p : Trip) : PCall Try.prog O 58 [.agg (eTable t), .agg (eTrip p)] (vb (plB t p)) := by
  refine pcall_has 0 rfl (.agg (d := encRt t.fRoutes) (by simp [eTable]) (.sl _ _ _)) fun ht => ?_
  refine pcall_has 1 rfl (.agg (d := encSp p.fStops) (by simp [eTrip]) (.sl _ _ _)) fun hp => ?_
  refine pcall_of_aw Try.func58 rfl (by kernel_rfl) ?_
  refine aw_seq fun K0 hK0 => ?_
  refine aw_reg [0, 1] (by kernel_rfl) ?_
  simp (disch := omega) only [go_sem, seval]
  repeat refine And.intro obl ?_
  refine hK0 _ ?_; clear hK0
  refine aw_seq fun K1 hK1 => ?_
  refine aw_seq fun K2 hK2 => ?_
  refine aw_reg [2, 3] (by kernel_rfl) ?_
  simp (disch := omega) only [go_sem, seval]
  repeat refine And.intro obl ?_
  refine hK2 _ ?_; clear hK2
  refine aw_cond _ (by rfl) (rfl) (fun c0 => ?_) (fun c0 => ?_)
  · try simp only [push_cast] at c0
    refine aw_seq fun K3 hK3 => ?_
    refine aw_reg [] (by kernel_rfl) ?_
    simp (disch := omega) only [go_sem, seval]
    repeat refine And.intro obl ?_
    refine hK3 _ ?_; clear hK3
    refine aw_ret ?_
    refine ret_tmp 4 rfl (by simp (disch := omega) only [go_sem, seval]) ?_
    exact Exp.is (by simp (disch := omega) only [go_sem, seval] <;> refine congrArg vb ?_ <;> (rw [plB, decide_eq_false (by omega)]; rfl)) rfl rfl
  · try simp only [push_cast] at c0
    refine aw_skip ?_
    refine hK1 _ ?_; clear hK1
    refine aw_seq fun K4 hK4 => ?_
    refine aw_seq fun K5 hK5 => ?_
    refine aw_reg [2, 3] (by kernel_rfl) ?_
    simp (disch := omega) only [go_sem, seval]
    repeat refine And.intro obl ?_
    refine hK5 _ ?_; clear hK5
    refine aw_block ?_
    refine aw_loopK [2, 3, 5] (fun n ρ => ∃ i, n = p.fStops.length - i ∧ (i ≤ p.fStops.length) ∧ (allTo (spB t) p.fStops i) ∧ ρ = mkE O [(2, .bx (eTable t)), (3, .bx (eTrip p)), (5, vi (i : Nat))]) _ ⟨0, rfl, ?_, ?_, ?_⟩ ?_
    · exact dfl
    · exact allTo_0 _ _
    · simp (disch := omega) only [go_sem, seval] <;> first | rfl | omega | simp | simp_all
    rintro n ρ ⟨i, rfl, l0_0, l0_1, rfl⟩ K6 hK6
    refine aw_seq fun K7 hK7 => ?_
    refine aw_seq fun K8 hK8 => ?_
    refine aw_reg [2, 3, 5] (by kernel_rfl) ?_
    simp (disch := omega) only [go_sem, seval]
    repeat refine And.intro obl ?_
    refine hK8 _ ?_; clear hK8
    refine aw_cond _ (by rfl) (rfl) (fun c1 => ?_) (fun c1 => ?_)
    · try simp only [push_cast] at c1
      refine aw_skip ?_
      refine hK7 _ ?_; clear hK7
      refine aw_seq fun K9 hK9 => ?_
      refine aw_block ?_
      refine aw_seq fun K10 hK10 => ?_
      refine aw_reg [2, 3, 5] (by kernel_rfl) ?_
      simp (disch := omega) only [go_sem, seval]
      repeat refine And.intro obl ?_
      refine hK10 _ ?_; clear hK10
      refine aw_seq fun K11 hK11 => ?_
      refine aw_reg [2, 3, 5, 6] (by kernel_rfl) ?_
      simp (disch := omega) only [go_sem, seval]
      repeat refine And.intro obl ?_
      refine hK11 _ ?_; clear hK11
      refine aw_cond _ (by rfl) (rfl) (fun c2 => ?_) (fun c2 => ?_)
      · try simp only [push_cast] at c2
        refine aw_seq fun K12 hK12 => ?_
        refine aw_reg [] (by kernel_rfl) ?_
        simp (disch := omega) only [go_sem, seval]
        repeat refine And.intro obl ?_
        refine hK12 _ ?_; clear hK12
        refine aw_ret ?_
        refine ret_tmp 4 rfl (by simp (disch := omega) only [go_sem, seval]) ?_
        exact Exp.is (by simp (disch := omega) only [go_sem, seval] <;> refine congrArg vb ?_ <;> (rw [plB, all_f c1 (decide_eq_false (by omega)), Bool.and_false])) rfl rfl
      · try simp only [push_cast] at c2
        refine aw_skip ?_
        refine hK9 _ ?_; clear hK9
        refine aw_reg [2, 3, 5] (by kernel_rfl) ?_
        simp (disch := omega) only [go_sem, seval]
        repeat refine And.intro obl ?_
        refine hK6 _ _ ?_ ⟨i + 1, rfl, ?_, ?_, ?_⟩
        · exact dfl
        · exact dfl
        · exact allTo_s l0_1 (decide_eq_true (by omega))
        · simp (disch := omega) only [go_sem, seval] <;> first | rfl | omega | simp | simp_all
    · try simp only [push_cast] at c1
      refine aw_exit ?_
      refine hK4 _ ?_; clear hK4
      refine aw_seq fun K13 hK13 => ?_
      refine aw_reg [] (by kernel_rfl) ?_
      simp (disch := omega) only [go_sem, seval]
      repeat refine And.intro obl ?_
      refine hK13 _ ?_; clear hK13
      refine aw_ret ?_
      refine ret_tmp 4 rfl (by simp (disch := omega) only [go_sem, seval]) ?_
      exact Exp.is (by simp (disch := omega) only [go_sem, seval] <;> refine congrArg vb ?_ <;> (rw [plB, all_t l0_1 (by omega), decide_eq_true (by omega)]; rfl)) rfl rfl
theorem nd_f {tr : List Trip} {i k : Nat} (hk : k < i) (h : trN tr i = trN tr k) : ndB tr i = false := rg_f hk (by rw [h]; simp)
theorem ln_at {tr : List Trip} (h : tr.all lnB = true) {i : Nat} (hi : i < tr.length) : 1 ≤ (tr.getD i default).fStops.length ∧ (tr.getD i default).fStops.length ≤ 4 := of_decide_eq_true (p := 1 ≤ (tr.getD i default).fStops.length ∧ (tr.getD i default).fStops.length ≤ 4) (all_at (f := lnB) h hi)
theorem pl_at {t : Table} {tr : List Trip} (h : tr.all (plB t) = true) {i j : Nat} (hi : i < tr.length) (hj : j < (tr.getD i default).fStops.length) : spB t ((tr.getD i default).fStops.getD j default) = true := (pl_of (all_at h hi)).2 j hj
theorem st_r {t : Table} {s : Stop} (h : spB t s = true) : 0 ≤ s.fRoute ∧ s.fRoute.toNat < t.fRoutes.length := by have := st_of h; omega
def tripI (tr : List Trip) (x : Int) : Nat → Int
  | 0 => -1
  | n + 1 => if trN tr (tr.length - (n + 1)) = x then ((tr.length - (n + 1) : Nat) : Int) else tripI tr x n
theorem trip_s {tr : List Trip} {x : Int} {i : Nat} (hi : i < tr.length) : tripI tr x (tr.length - i) = if trN tr i = x then (i : Int) else tripI tr x (tr.length - (i + 1)) := by
  rw [show tr.length - i = (tr.length - (i + 1)) + 1 by omega, tripI, show tr.length - (tr.length - (i + 1) + 1) = i by omega]
theorem trip_first {tr : List Trip} {i : Nat} (hi : i < tr.length) : ∀ k, k ≤ i → (∀ j, j < k → trN tr j ≠ trN tr i) → tripI tr (trN tr i) tr.length = tripI tr (trN tr i) (tr.length - k)
  | 0, _, _ => rfl
  | k + 1, hk, h => by
    rw [trip_first hi k (by omega) fun j hj => h j (by omega), trip_s (by omega), if_neg (h k (by omega))]
theorem trip_eq {tr : List Trip} {i : Nat} (hi : i < tr.length) : (tripI tr (trN tr i) tr.length = (i : Int)) ↔ ndB tr i = true := by
  constructor
  · intro h
    unfold ndB; rw [List.all_eq_true]
    intro k hk
    have hk := List.mem_range.1 hk
    rw [Bool.not_eq_true', beq_eq_false_iff_ne]
    intro e
    have key : ∀ n, n ≤ i → (∃ j, j < n ∧ trN tr j = trN tr i) → ∃ j, j < n ∧ tripI tr (trN tr i) tr.length = (j : Int) := by
      intro n
      induction n with
      | zero => intro _ ⟨j, hj, _⟩; omega
      | succ n ih =>
        intro hn ⟨j, hj, hje⟩
        by_cases hex : ∃ j, j < n ∧ trN tr j = trN tr i
        · obtain ⟨j', hj', he⟩ := ih (by omega) hex
          exact ⟨j', by omega, he⟩
        · have hjn : j = n := by
            rcases Nat.lt_or_eq_of_le (Nat.le_of_lt_succ hj) with q | q
            · exact absurd ⟨j, q, hje⟩ hex
            · exact q
          subst hjn
          refine ⟨j, by omega, ?_⟩
          rw [trip_first hi j (by omega) fun j' hj' he => hex ⟨j', hj', he⟩, trip_s (by omega), if_pos hje]
    obtain ⟨j, hj, he⟩ := key i (Nat.le_refl _) ⟨k, hk, e.symm⟩
    rw [h] at he
    omega
  · intro h
    rw [trip_first hi i (Nat.le_refl _) fun j hj he => by
      have := rg_at h hj
      simp only [Bool.not_eq_true', beq_eq_false_iff_ne] at this
      exact this he.symm, trip_s hi, if_pos rfl]
set_option maxHeartbeats 2000000 in
theorem timetable_Check_ok (O : Env) (t : Table) (tr : List Trip) : PCall Try.prog O 21 [.agg (eTable t), encTr tr] (vi (chkI t tr)) := by
  refine pcall_has 0 rfl (.agg (d := encRt t.fRoutes) (by simp [eTable]) (.sl _ _ _)) fun ht => ?_
  refine pcall_has 1 rfl (.sl _ _ _) fun hn => ?_
  refine pcall_of_aw Try.func21 rfl (by kernel_rfl) ?_
  refine aw_seq fun K0 hK0 => ?_
  refine aw_reg [0, 1] (by kernel_rfl) ?_
  simp (disch := omega) only [go_sem, seval]
  repeat refine And.intro obl ?_
  refine hK0 _ ?_; clear hK0
  refine aw_seq fun K1 hK1 => ?_
  refine aw_seq fun K2 hK2 => ?_
  refine aw_reg [1, 2] (by kernel_rfl) ?_
  simp (disch := omega) only [go_sem, seval]
  repeat refine And.intro obl ?_
  refine hK2 _ ?_; clear hK2
  refine aw_cond _ (by rfl) (rfl) (fun c0 => ?_) (fun c0 => ?_)
  · try simp only [push_cast] at c0
    refine aw_seq fun K3 hK3 => ?_
    refine aw_reg [] (by kernel_rfl) ?_
    simp (disch := omega) only [go_sem, seval]
    repeat refine And.intro obl ?_
    refine hK3 _ ?_; clear hK3
    refine aw_ret ?_
    refine ret_tmp 4 rfl (by simp (disch := omega) only [go_sem, seval]) ?_
    exact Exp.is (by simp (disch := omega) only [go_sem, seval] <;> (rw [chk1 c0])) rfl rfl
  · try simp only [push_cast] at c0
    refine aw_skip ?_
    refine hK1 _ ?_; clear hK1
    refine aw_seq fun K4 hK4 => ?_
    refine aw_seq fun K5 hK5 => ?_
    refine aw_reg [1, 2] (by kernel_rfl) ?_
    simp (disch := omega) only [go_sem, seval]
    repeat refine And.intro obl ?_
    refine hK5 _ ?_; clear hK5
    refine aw_block ?_
    refine aw_loopK [1, 2, 24, 25, 26] (fun n ρ => ∃ i, n = tr.length - i ∧ (i ≤ tr.length) ∧ (allTo lnB tr i) ∧ ρ = mkE O [(1, encTr tr), (2, .bx (eTable t)), (24, encTr tr), (25, vi (tr.length : Nat)), (26, vi (i : Nat))]) _ ⟨0, rfl, ?_, ?_, ?_⟩ ?_
    · exact dfl
    · exact allTo_0 _ _
    · simp (disch := omega) only [go_sem, seval] <;> first | rfl | omega | simp | simp_all
    rintro n ρ ⟨i, rfl, l0_0, l0_1, rfl⟩ K6 hK6
    refine aw_seq fun K7 hK7 => ?_
    refine aw_reg [1, 2, 24, 25, 26] (by kernel_rfl) ?_
    simp (disch := omega) only [go_sem, seval]
    repeat refine And.intro obl ?_
    refine hK7 _ ?_; clear hK7
    refine aw_seq fun K8 hK8 => ?_
    refine aw_cond _ (by rfl) (rfl) (fun c1 => ?_) (fun c1 => ?_)
    · try simp only [push_cast] at c1
      refine aw_skip ?_
      refine hK8 _ ?_; clear hK8
      refine aw_seq fun K9 hK9 => ?_
      refine aw_block ?_
      refine aw_seq fun K10 hK10 => ?_
      refine aw_reg [1, 2, 24, 25, 26] (by kernel_rfl) ?_
      simp (disch := omega) only [go_sem, seval]
      repeat refine And.intro obl ?_
      refine hK10 _ ?_; clear hK10
      refine aw_seq fun K11 hK11 => ?_
      refine aw_reg [1, 2, 6, 24, 25, 26] (by kernel_rfl) ?_
      simp (disch := omega) only [go_sem, seval]
      repeat refine And.intro obl ?_
      refine hK11 _ ?_; clear hK11
      refine aw_cond _ (by rfl) (rfl) (fun c2 => ?_) (fun c2 => ?_)
      · try simp only [push_cast] at c2
        refine aw_seq fun K12 hK12 => ?_
        refine aw_reg [] (by kernel_rfl) ?_
        simp (disch := omega) only [go_sem, seval]
        repeat refine And.intro obl ?_
        refine hK12 _ ?_; clear hK12
        refine aw_ret ?_
        refine ret_tmp 4 rfl (by simp (disch := omega) only [go_sem, seval]) ?_
        exact Exp.is (by simp (disch := omega) only [go_sem, seval] <;> (rw [chk2 (by omega) (all_f c1 (decide_eq_false (by omega)))])) rfl rfl
      · try simp only [push_cast] at c2
        refine aw_skip ?_
        refine hK9 _ ?_; clear hK9
        refine aw_reg [1, 2, 24, 25, 26] (by kernel_rfl) ?_
        simp (disch := omega) only [go_sem, seval]
        repeat refine And.intro obl ?_
        refine hK6 _ _ ?_ ⟨i + 1, rfl, ?_, ?_, ?_⟩
        · exact dfl
        · exact dfl
        · exact allTo_s l0_1 (decide_eq_true (by omega))
        · simp (disch := omega) only [go_sem, seval] <;> first | rfl | omega | simp | simp_all
    · try simp only [push_cast] at c1
      refine aw_exit ?_
      refine hK4 _ ?_; clear hK4
      refine aw_seq fun K13 hK13 => ?_
      refine aw_seq fun K14 hK14 => ?_
      refine aw_reg [1, 2] (by kernel_rfl) ?_
      simp (disch := omega) only [go_sem, seval]
      repeat refine And.intro obl ?_
      refine hK14 _ ?_; clear hK14
      refine aw_block ?_
      have hA := all_t l0_1 (by omega)
      refine aw_loopK [1, 2, 41, 42, 43] (fun n ρ => ∃ i, n = tr.length - i ∧ (i ≤ tr.length) ∧ (allTo (plB t) tr i) ∧ ρ = mkE O [(1, encTr tr), (2, .bx (eTable t)), (41, encTr tr), (42, vi (tr.length : Nat)), (43, vi (i : Nat))]) _ ⟨0, rfl, ?_, ?_, ?_⟩ ?_
      · exact dfl
      · exact allTo_0 _ _
      · simp (disch := omega) only [go_sem, seval] <;> first | rfl | omega | simp | simp_all
      rintro n ρ ⟨i, rfl, l1_0, l1_1, rfl⟩ K15 hK15
      refine aw_seq fun K16 hK16 => ?_
      refine aw_reg [1, 2, 41, 42, 43] (by kernel_rfl) ?_
      simp (disch := omega) only [go_sem, seval]
      repeat refine And.intro obl ?_
      refine hK16 _ ?_; clear hK16
      refine aw_seq fun K17 hK17 => ?_
      refine aw_cond _ (by rfl) (rfl) (fun c3 => ?_) (fun c3 => ?_)
      · try simp only [push_cast] at c3
        refine aw_skip ?_
        refine hK17 _ ?_; clear hK17
        refine aw_seq fun K18 hK18 => ?_
        refine aw_block ?_
        refine aw_seq fun K19 hK19 => ?_
        refine aw_reg [1, 2, 41, 42, 43] (by kernel_rfl) ?_
        simp (disch := omega) only [go_sem, seval]
        repeat refine And.intro obl ?_
        refine hK19 _ ?_; clear hK19
        refine aw_seq fun K20 hK20 => ?_
        refine aw_reg [1, 2, 8, 41, 42, 43] (by kernel_rfl) ?_
        simp (disch := omega) only [go_sem, seval]
        repeat refine And.intro obl ?_
        refine callG_of _ (timetable_plain_ok _ t (tr.getD i default)) ?_
        simp (disch := omega) only [go_sem, seval]
        repeat refine And.intro obl ?_
        refine hK20 _ ?_; clear hK20
        refine aw_cond _ (by rfl) (rfl) (fun c4 => ?_) (fun c4 => ?_)
        · try simp only [push_cast] at c4
          refine aw_seq fun K21 hK21 => ?_
          refine aw_reg [] (by kernel_rfl) ?_
          simp (disch := omega) only [go_sem, seval]
          repeat refine And.intro obl ?_
          refine hK21 _ ?_; clear hK21
          refine aw_ret ?_
          refine ret_tmp 4 rfl (by simp (disch := omega) only [go_sem, seval]) ?_
          exact Exp.is (by simp (disch := omega) only [go_sem, seval] <;> (rw [chk3 (by omega) hA (all_f c3 (by simpa using c4))])) rfl rfl
        · try simp only [push_cast] at c4
          refine aw_skip ?_
          refine hK18 _ ?_; clear hK18
          refine aw_reg [1, 2, 41, 42, 43] (by kernel_rfl) ?_
          simp (disch := omega) only [go_sem, seval]
          repeat refine And.intro obl ?_
          refine hK15 _ _ ?_ ⟨i + 1, rfl, ?_, ?_, ?_⟩
          · exact dfl
          · exact dfl
          · exact allTo_s l1_1 (by simpa using c4)
          · simp (disch := omega) only [go_sem, seval] <;> first | rfl | omega | simp | simp_all
      · try simp only [push_cast] at c3
        refine aw_exit ?_
        refine hK13 _ ?_; clear hK13
        refine aw_seq fun K22 hK22 => ?_
        refine aw_seq fun K23 hK23 => ?_
        refine aw_reg [1, 2] (by kernel_rfl) ?_
        simp (disch := omega) only [go_sem, seval]
        repeat refine And.intro obl ?_
        refine hK23 _ ?_; clear hK23
        refine aw_block ?_
        have hP := all_t l1_1 (by omega)
        refine aw_loopK [1, 2, 52, 53, 54] (fun n ρ => ∃ i, n = tr.length - i ∧ (i ≤ tr.length) ∧ (rgTo (ndB tr) i) ∧ ρ = mkE O [(1, encTr tr), (2, .bx (eTable t)), (52, encTr tr), (53, vi (tr.length : Nat)), (54, vi (i : Nat))]) _ ⟨0, rfl, ?_, ?_, ?_⟩ ?_
        · exact dfl
        · exact rgTo_0 _
        · simp (disch := omega) only [go_sem, seval] <;> first | rfl | omega | simp | simp_all
        rintro n ρ ⟨i, rfl, l2_0, l2_1, rfl⟩ K24 hK24
        refine aw_seq fun K25 hK25 => ?_
        refine aw_reg [1, 2, 52, 53, 54] (by kernel_rfl) ?_
        simp (disch := omega) only [go_sem, seval]
        repeat refine And.intro obl ?_
        refine hK25 _ ?_; clear hK25
        refine aw_seq fun K26 hK26 => ?_
        refine aw_cond _ (by rfl) (rfl) (fun c5 => ?_) (fun c5 => ?_)
        · try simp only [push_cast] at c5
          refine aw_skip ?_
          refine hK26 _ ?_; clear hK26
          refine aw_seq fun K27 hK27 => ?_
          refine aw_block ?_
          refine aw_seq fun K28 hK28 => ?_
          refine aw_reg [1, 2, 52, 53, 54] (by kernel_rfl) ?_
          simp (disch := omega) only [go_sem, seval]
          repeat refine And.intro obl ?_
          refine hK28 _ ?_; clear hK28
          refine aw_seq fun K29 hK29 => ?_
          refine aw_reg [1, 2, 9, 10, 52, 53, 54] (by kernel_rfl) ?_
          simp (disch := omega) only [go_sem, seval]
          repeat refine And.intro obl ?_
          refine hK29 _ ?_; clear hK29
          refine aw_block ?_
          refine aw_loopK [1, 2, 52, 53, 54, 10, 61, 62, 63] (fun n ρ => ∃ k, n = i - k ∧ (k ≤ i) ∧ (rgTo (fun k => !(trN tr i == trN tr k)) k) ∧ ρ = mkE O [(1, encTr tr), (2, .bx (eTable t)), (52, encTr tr), (53, vi (tr.length : Nat)), (54, vi (i : Nat)), (10, .bx (eTrip (tr.getD i default))), (61, .sl 2 i fun k => eTrip (tr.getD k default)), (62, vi (i : Nat)), (63, vi (k : Nat))]) _ ⟨0, rfl, ?_, ?_, ?_⟩ ?_
          · exact dfl
          · exact rgTo_0 _
          · simp (disch := omega) only [go_sem, seval] <;> first | rfl | omega | simp | simp_all
          rintro n ρ ⟨k, rfl, l3_0, l3_1, rfl⟩ K30 hK30
          refine aw_seq fun K31 hK31 => ?_
          refine aw_reg [1, 2, 10, 52, 53, 54, 59, 60, 61, 62, 63] (by kernel_rfl) ?_
          simp (disch := omega) only [go_sem, seval]
          repeat refine And.intro obl ?_
          refine hK31 _ ?_; clear hK31
          refine aw_seq fun K32 hK32 => ?_
          refine aw_cond _ (by rfl) (rfl) (fun c6 => ?_) (fun c6 => ?_)
          · try simp only [push_cast] at c6
            refine aw_skip ?_
            refine hK32 _ ?_; clear hK32
            refine aw_seq fun K33 hK33 => ?_
            refine aw_block ?_
            refine aw_seq fun K34 hK34 => ?_
            refine aw_reg [1, 2, 10, 52, 53, 54, 59, 60, 61, 62, 63] (by kernel_rfl) ?_
            simp (disch := omega) only [go_sem, seval]
            repeat refine And.intro obl ?_
            refine hK34 _ ?_; clear hK34
            refine aw_seq fun K35 hK35 => ?_
            refine aw_reg [1, 2, 10, 12, 52, 53, 54, 59, 60, 61, 62, 63] (by kernel_rfl) ?_
            simp (disch := omega) only [go_sem, seval]
            repeat refine And.intro obl ?_
            refine hK35 _ ?_; clear hK35
            refine aw_cond _ (by rfl) (rfl) (fun c7 => ?_) (fun c7 => ?_)
            · try simp only [push_cast] at c7
              refine aw_seq fun K36 hK36 => ?_
              refine aw_reg [] (by kernel_rfl) ?_
              simp (disch := omega) only [go_sem, seval]
              repeat refine And.intro obl ?_
              refine hK36 _ ?_; clear hK36
              refine aw_ret ?_
              refine ret_tmp 4 rfl (by simp (disch := omega) only [go_sem, seval]) ?_
              exact Exp.is (by simp (disch := omega) only [go_sem, seval] <;> (rw [chk4 (by omega) hA hP (rg_f c5 (nd_f (k := k) c6 c7))])) rfl rfl
            · try simp only [push_cast] at c7
              refine aw_skip ?_
              refine hK33 _ ?_; clear hK33
              refine aw_reg [1, 2, 10, 52, 53, 54, 59, 60, 61, 62, 63] (by kernel_rfl) ?_
              simp (disch := omega) only [go_sem, seval]
              repeat refine And.intro obl ?_
              refine hK30 _ _ ?_ ⟨k + 1, rfl, ?_, ?_, ?_⟩
              · exact dfl
              · exact dfl
              · exact rgTo_s l3_1 (by simpa [trN] using c7)
              · simp (disch := omega) only [go_sem, seval] <;> first | rfl | omega | simp | simp_all
          · try simp only [push_cast] at c6
            refine aw_exit ?_
            refine hK27 _ ?_; clear hK27
            refine aw_reg [1, 2, 52, 53, 54] (by kernel_rfl) ?_
            simp (disch := omega) only [go_sem, seval]
            repeat refine And.intro obl ?_
            refine hK24 _ _ ?_ ⟨i + 1, rfl, ?_, ?_, ?_⟩
            · exact dfl
            · exact dfl
            · exact rgTo_s l2_1 (rg_t l3_1 (by omega))
            · simp (disch := omega) only [go_sem, seval] <;> first | rfl | omega | simp | simp_all
        · try simp only [push_cast] at c5
          refine aw_exit ?_
          refine hK22 _ ?_; clear hK22
          refine aw_seq fun K37 hK37 => ?_
          refine aw_seq fun K38 hK38 => ?_
          refine aw_reg [1, 2] (by kernel_rfl) ?_
          simp (disch := omega) only [go_sem, seval]
          repeat refine And.intro obl ?_
          refine hK38 _ ?_; clear hK38
          refine aw_block ?_
          have hD := rg_t l2_1 (n := tr.length) (by omega)
          refine aw_loopK [1, 2, 74, 75, 76] (fun n ρ => ∃ i, n = tr.length - i ∧ (i ≤ tr.length) ∧ (allTo (fwA t) tr i) ∧ ρ = mkE O [(1, encTr tr), (2, .bx (eTable t)), (74, encTr tr), (75, vi (tr.length : Nat)), (76, vi (i : Nat))]) _ ⟨0, rfl, ?_, ?_, ?_⟩ ?_
          · exact dfl
          · exact allTo_0 _ _
          · simp (disch := omega) only [go_sem, seval] <;> first | rfl | omega | simp | simp_all
          rintro n ρ ⟨i, rfl, l4_0, l4_1, rfl⟩ K39 hK39
          refine aw_seq fun K40 hK40 => ?_
          refine aw_reg [1, 2, 74, 75, 76] (by kernel_rfl) ?_
          simp (disch := omega) only [go_sem, seval]
          repeat refine And.intro obl ?_
          refine hK40 _ ?_; clear hK40
          refine aw_seq fun K41 hK41 => ?_
          refine aw_cond _ (by rfl) (rfl) (fun c8 => ?_) (fun c8 => ?_)
          · try simp only [push_cast] at c8
            refine aw_skip ?_
            refine hK41 _ ?_; clear hK41
            refine aw_seq fun K42 hK42 => ?_
            refine aw_block ?_
            refine aw_seq fun K43 hK43 => ?_
            refine aw_reg [1, 2, 74, 75, 76] (by kernel_rfl) ?_
            simp (disch := omega) only [go_sem, seval]
            repeat refine And.intro obl ?_
            refine hK43 _ ?_; clear hK43
            refine aw_seq fun K44 hK44 => ?_
            have hl := ln_at hA c8
            refine aw_reg [1, 2, 14, 74, 75, 76] (by kernel_rfl) ?_
            simp (disch := omega) only [go_sem, seval]
            repeat refine And.intro obl ?_
            refine hK44 _ ?_; clear hK44
            refine aw_block ?_
            refine aw_loopK [1, 2, 74, 75, 76, 14, 83, 84] (fun n ρ => ∃ j, n = (tr.getD i default).fStops.length - j ∧ (j ≤ (tr.getD i default).fStops.length - 1) ∧ (rgTo (fwB t (tr.getD i default)) j) ∧ ρ = mkE O [(1, encTr tr), (2, .bx (eTable t)), (74, encTr tr), (75, vi (tr.length : Nat)), (76, vi (i : Nat)), (14, .bx (eTrip (tr.getD i default))), (83, vi (((tr.getD i default).fStops.length : Nat) - 1)), (84, vi (j : Nat))]) _ ⟨0, rfl, ?_, ?_, ?_⟩ ?_
            · exact dfl
            · exact rgTo_0 _
            · simp (disch := omega) only [go_sem, seval] <;> first | rfl | omega | simp | simp_all
            rintro n ρ ⟨j, rfl, l5_0, l5_1, rfl⟩ K45 hK45
            refine aw_seq fun K46 hK46 => ?_
            refine aw_reg [1, 2, 14, 74, 75, 76, 83, 84] (by kernel_rfl) ?_
            simp (disch := omega) only [go_sem, seval]
            repeat refine And.intro obl ?_
            refine hK46 _ ?_; clear hK46
            refine aw_seq fun K47 hK47 => ?_
            refine aw_cond _ (by rfl) (rfl) (fun c9 => ?_) (fun c9 => ?_)
            · try simp only [push_cast] at c9
              refine aw_skip ?_
              refine hK47 _ ?_; clear hK47
              refine aw_seq fun K48 hK48 => ?_
              refine aw_block ?_
              refine aw_seq fun K49 hK49 => ?_
              refine aw_reg [1, 2, 14, 74, 75, 76, 83, 84] (by kernel_rfl) ?_
              simp (disch := omega) only [go_sem, seval]
              repeat refine And.intro obl ?_
              refine hK49 _ ?_; clear hK49
              refine aw_seq fun K50 hK50 => ?_
              have hj : j + 1 < (tr.getD i default).fStops.length := by omega
              have h1 := st_r (pl_at hP c8 (j := j) (by omega))
              have h2 := st_r (pl_at hP c8 hj)
              refine aw_regV [1, 2, 14, 15, 74, 75, 76, 83, 84] [16, 17] [1, 2, 14, 15, 74, 75, 76, 83, 84, 87, 88, 89, 90, 91, 92, 93, 94, 95, 96, 97, 98, 99, 100, 101, 102, 103, 104, 105, 106, 107] [0, 1, 2, 3, 4, 5, 6, 7, 8, 9, 10, 11, 12, 13, 14, 15, 16, 17, 18, 19, 20] [21, 22] [23, 24] [(16, 50, 96), (17, 50, 107)] mixed (by kernel_rfl) (by rfl) (by rfl) (by simp only [ptA, List.filterMap_cons, List.filterMap_nil, List.getElem?_cons_succ, List.getElem?_cons_zero]; rfl) ?_
              simp (disch := omega) only [go_sem, seval]
              repeat refine And.intro obl ?_
              refine And.intro (by rfl) ?_
              try simp (disch := omega) only [go_sem, seval]
              repeat refine And.intro obl ?_
              refine hK50 _ ?_; clear hK50
              refine aw_seq fun K51 hK51 => ?_
              refine aw_reg [1, 2, 14, 16, 17, 74, 75, 76, 83, 84] (by kernel_rfl) ?_
              simp (disch := omega) only [go_sem, seval]
              repeat refine And.intro obl ?_
              refine callG_of _ (conflict_Follows_ok _ (rtT t (spN (tr.getD i default) j)) (rtT t (spN (tr.getD i default) (j + 1)))) ?_
              simp (disch := omega) only [go_sem, seval]
              repeat refine And.intro obl ?_
              refine hK51 _ ?_; clear hK51
              refine aw_cond _ (by rfl) (rfl) (fun c10 => ?_) (fun c10 => ?_)
              · try simp only [push_cast] at c10
                refine aw_seq fun K52 hK52 => ?_
                refine aw_reg [] (by kernel_rfl) ?_
                simp (disch := omega) only [go_sem, seval]
                repeat refine And.intro obl ?_
                refine hK52 _ ?_; clear hK52
                refine aw_ret ?_
                refine ret_tmp 4 rfl (by simp (disch := omega) only [go_sem, seval]) ?_
                exact Exp.is (by simp (disch := omega) only [go_sem, seval] <;> (rw [chk5 (by omega) hA hP hD (all_f c8 (rg_f (i := j) (by omega) (by simpa [fwB] using c10)))])) rfl rfl
              · try simp only [push_cast] at c10
                refine aw_skip ?_
                refine hK48 _ ?_; clear hK48
                refine aw_reg [1, 2, 14, 74, 75, 76, 83, 84] (by kernel_rfl) ?_
                simp (disch := omega) only [go_sem, seval]
                repeat refine And.intro obl ?_
                refine hK45 _ _ ?_ ⟨j + 1, rfl, ?_, ?_, ?_⟩
                · exact dfl
                · exact dfl
                · exact rgTo_s l5_1 (by simpa [fwB] using c10)
                · simp (disch := omega) only [go_sem, seval] <;> first | rfl | omega | simp | simp_all
            · try simp only [push_cast] at c9
              refine aw_exit ?_
              refine hK42 _ ?_; clear hK42
              refine aw_reg [1, 2, 74, 75, 76] (by kernel_rfl) ?_
              simp (disch := omega) only [go_sem, seval]
              repeat refine And.intro obl ?_
              refine hK39 _ _ ?_ ⟨i + 1, rfl, ?_, ?_, ?_⟩
              · exact dfl
              · exact dfl
              · exact allTo_s l4_1 (rg_t l5_1 (by omega))
              · simp (disch := omega) only [go_sem, seval] <;> first | rfl | omega | simp | simp_all
          · try simp only [push_cast] at c8
            refine aw_exit ?_
            refine hK37 _ ?_; clear hK37
            refine aw_seq fun K53 hK53 => ?_
            refine aw_seq fun K54 hK54 => ?_
            refine aw_reg [1] (by kernel_rfl) ?_
            simp (disch := omega) only [go_sem, seval]
            repeat refine And.intro obl ?_
            refine hK54 _ ?_; clear hK54
            refine aw_block ?_
            have hF := all_t l4_1 (by omega)
            refine aw_loopK [114, 115, 116] (fun n ρ => ∃ i, n = tr.length - i ∧ (i ≤ tr.length) ∧ (allTo odA tr i) ∧ ρ = mkE O [(114, encTr tr), (115, vi (tr.length : Nat)), (116, vi (i : Nat))]) _ ⟨0, rfl, ?_, ?_, ?_⟩ ?_
            · exact dfl
            · exact allTo_0 _ _
            · simp (disch := omega) only [go_sem, seval] <;> first | rfl | omega | simp | simp_all
            rintro n ρ ⟨i, rfl, l6_0, l6_1, rfl⟩ K55 hK55
            refine aw_seq fun K56 hK56 => ?_
            refine aw_reg [1, 114, 115, 116] (by kernel_rfl) ?_
            simp (disch := omega) only [go_sem, seval]
            repeat refine And.intro obl ?_
            refine hK56 _ ?_; clear hK56
            refine aw_seq fun K57 hK57 => ?_
            refine aw_cond _ (by rfl) (rfl) (fun c11 => ?_) (fun c11 => ?_)
            · try simp only [push_cast] at c11
              refine aw_skip ?_
              refine hK57 _ ?_; clear hK57
              refine aw_seq fun K58 hK58 => ?_
              refine aw_block ?_
              refine aw_seq fun K59 hK59 => ?_
              refine aw_reg [1, 114, 115, 116] (by kernel_rfl) ?_
              simp (disch := omega) only [go_sem, seval]
              repeat refine And.intro obl ?_
              refine hK59 _ ?_; clear hK59
              refine aw_seq fun K60 hK60 => ?_
              have hl := ln_at hA c11
              refine aw_reg [1, 19, 114, 115, 116] (by kernel_rfl) ?_
              simp (disch := omega) only [go_sem, seval]
              repeat refine And.intro obl ?_
              refine hK60 _ ?_; clear hK60
              refine aw_block ?_
              refine aw_loopK [114, 115, 116, 19, 123, 124] (fun n ρ => ∃ j, n = (tr.getD i default).fStops.length - j ∧ (j ≤ (tr.getD i default).fStops.length - 1) ∧ (rgTo (odB (tr.getD i default)) j) ∧ ρ = mkE O [(114, encTr tr), (115, vi (tr.length : Nat)), (116, vi (i : Nat)), (19, .bx (eTrip (tr.getD i default))), (123, vi (((tr.getD i default).fStops.length : Nat) - 1)), (124, vi (j : Nat))]) _ ⟨0, rfl, ?_, ?_, ?_⟩ ?_
              · exact dfl
              · exact rgTo_0 _
              · simp (disch := omega) only [go_sem, seval] <;> first | rfl | omega | simp | simp_all
              rintro n ρ ⟨j, rfl, l7_0, l7_1, rfl⟩ K61 hK61
              refine aw_seq fun K62 hK62 => ?_
              refine aw_reg [1, 19, 114, 115, 116, 123, 124] (by kernel_rfl) ?_
              simp (disch := omega) only [go_sem, seval]
              repeat refine And.intro obl ?_
              refine hK62 _ ?_; clear hK62
              refine aw_seq fun K63 hK63 => ?_
              refine aw_cond _ (by rfl) (rfl) (fun c12 => ?_) (fun c12 => ?_)
              · try simp only [push_cast] at c12
                refine aw_skip ?_
                refine hK63 _ ?_; clear hK63
                refine aw_seq fun K64 hK64 => ?_
                refine aw_block ?_
                refine aw_seq fun K65 hK65 => ?_
                refine aw_reg [1, 19, 114, 115, 116, 123, 124] (by kernel_rfl) ?_
                simp (disch := omega) only [go_sem, seval]
                repeat refine And.intro obl ?_
                refine hK65 _ ?_; clear hK65
                refine aw_seq fun K66 hK66 => ?_
                refine aw_regDc [1, 19, 20, 114, 115, 116, 123, 124] [] mixed (by kernel_rfl) ?_
                simp (disch := omega) only [go_sem, seval]
                repeat refine And.intro obl ?_
                refine hK66 _ ?_; clear hK66
                refine aw_cond _ (by rfl) (rfl) (fun c13 => ?_) (fun c13 => ?_)
                · try simp only [push_cast] at c13
                  refine aw_seq fun K67 hK67 => ?_
                  refine aw_reg [] (by kernel_rfl) ?_
                  simp (disch := omega) only [go_sem, seval]
                  repeat refine And.intro obl ?_
                  refine hK67 _ ?_; clear hK67
                  refine aw_ret ?_
                  refine ret_tmp 4 rfl (by simp (disch := omega) only [go_sem, seval]) ?_
                  exact Exp.is (by simp (disch := omega) only [go_sem, seval] <;> (rw [chk6 (by omega) hA hP hD hF (all_f c11 (rg_f (i := j) (by omega) (decide_eq_false (Int.not_lt.2 c13))))])) rfl rfl
                · try simp only [push_cast] at c13
                  refine aw_skip ?_
                  refine hK64 _ ?_; clear hK64
                  refine aw_reg [1, 19, 114, 115, 116, 123, 124] (by kernel_rfl) ?_
                  simp (disch := omega) only [go_sem, seval]
                  repeat refine And.intro obl ?_
                  refine hK61 _ _ ?_ ⟨j + 1, rfl, ?_, ?_, ?_⟩
                  · exact dfl
                  · exact dfl
                  · exact rgTo_s l7_1 (decide_eq_true c13)
                  · simp (disch := omega) only [go_sem, seval] <;> first | rfl | omega | simp | simp_all
              · try simp only [push_cast] at c12
                refine aw_exit ?_
                refine hK58 _ ?_; clear hK58
                refine aw_reg [1, 114, 115, 116] (by kernel_rfl) ?_
                simp (disch := omega) only [go_sem, seval]
                repeat refine And.intro obl ?_
                refine hK55 _ _ ?_ ⟨i + 1, rfl, ?_, ?_, ?_⟩
                · exact dfl
                · exact dfl
                · exact allTo_s l6_1 (rg_t l7_1 (by omega))
                · simp (disch := omega) only [go_sem, seval] <;> first | rfl | omega | simp | simp_all
            · try simp only [push_cast] at c11
              refine aw_exit ?_
              refine hK53 _ ?_; clear hK53
              refine aw_seq fun K68 hK68 => ?_
              refine aw_reg [] (by kernel_rfl) ?_
              simp (disch := omega) only [go_sem, seval]
              repeat refine And.intro obl ?_
              refine hK68 _ ?_; clear hK68
              refine aw_ret ?_
              refine ret_tmp 4 rfl (by simp (disch := omega) only [go_sem, seval]) ?_
              exact Exp.is (by simp (disch := omega) only [go_sem, seval] <;> (rw [chk7 (by omega) hA hP hD hF (all_t l6_1 (by omega))])) rfl rfl
end Go.Sg
