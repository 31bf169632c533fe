/- Contracts of Feasible, of the program and of the reference, and of the sizes that the laws bound. Printed by genw.py. -/
import Derived.Test.YtbndgcddihbhlaaSgB
import Derived.Test.YtbndgcddihbhlaaD3
import Derived.Test.YtbndgcddihbhlaaD1
set_option linter.unusedVariables false
set_option linter.unusedSimpArgs false
set_option maxRecDepth 8000
namespace Go.Sg
open Go.Proofs
def SmT (t : Table) : Prop := ∀ r ∈ t.fRoutes, Sml r
def clB (t : Table) (a b : Stop) : Bool := betB (rtT t a) (rtT t b) != 0
def inN (x : List Int) (j : Nat) : Int := x.getD j default
def lnE (tr : List Trip) (st : List (List Int)) (i : Nat) : Bool := decide ((st.getD i default).length = (tr.getD i default).fStops.length)
def shB (tr : List Trip) (st : List (List Int)) : Bool := decide (st.length = tr.length) && (List.range tr.length).all (lnE tr st)
def okJ (p : Trip) (x : List Int) (j : Nat) : Bool := decide ((spN p j).fDue ≤ inN x j ∧ inN x j ≤ 2147483648 ∧ (0 < j → inN x (j - 1) + (spN p (j - 1)).fRun ≤ inN x j))
def okX (p : Trip) (x : List Int) : Bool := (List.range p.fStops.length).all (okJ p x)
def okI (tr : List Trip) (st : List (List Int)) (i : Nat) : Bool := okX (tr.getD i default) (st.getD i default)
def apJ (t : Table) (p q : Trip) (x y : List Int) (i k : Nat) : Bool := !((decide (inN x i < inN y k + (spN q k).fRun) && decide (inN y k < inN x i + (spN p i).fRun)) && clB t (spN p i) (spN q k))
def apI (t : Table) (p q : Trip) (x y : List Int) (i : Nat) : Bool := (List.range q.fStops.length).all (apJ t p q x y i)
def apB (t : Table) (p q : Trip) (x y : List Int) : Bool := (List.range p.fStops.length).all (apI t p q x y)
def prK (t : Table) (tr : List Trip) (st : List (List Int)) (i k : Nat) : Bool := apB t (tr.getD i default) (tr.getD k default) (st.getD i default) (st.getD k default)
def prI (t : Table) (tr : List Trip) (st : List (List Int)) (i : Nat) : Bool := (List.range i).all (prK t tr st i)
def feasB (t : Table) (tr : List Trip) (st : List (List Int)) : Bool := ((decide (chkI t tr = 0) && shB tr st) && (List.range tr.length).all (okI tr st)) && (List.range tr.length).all (prI t tr st)
section
variable {t : Table} {tr : List Trip} {st : List (List Int)}
theorem feas0 (h : chkI t tr ≠ 0) : feasB t tr st = false := by rw [feasB, decide_eq_false h]; rfl
theorem feas1 (h : shB tr st = false) : feasB t tr st = false := by rw [feasB, h, Bool.and_false]; rfl
theorem feas2 (h : (List.range tr.length).all (okI tr st) = false) : feasB t tr st = false := by rw [feasB, h, Bool.and_false]; rfl
theorem feas3 (h : (List.range tr.length).all (prI t tr st) = false) : feasB t tr st = false := by rw [feasB, h, Bool.and_false]
theorem feas4 (h : chkI t tr = 0) (h1 : shB tr st = true) (h2 : (List.range tr.length).all (okI tr st) = true) (h3 : (List.range tr.length).all (prI t tr st) = true) : feasB t tr st = true := by rw [feasB, decide_eq_true h, h1, h2, h3]; rfl
theorem ok_of {p : Trip} {x : List Int} {j : Nat} (h : okJ p x j = true) : (spN p j).fDue ≤ inN x j ∧ inN x j ≤ 2147483648 ∧ (0 < j → inN x (j - 1) + (spN p (j - 1)).fRun ≤ inN x j) := of_decide_eq_true h
structure Nice (t : Table) (p : Trip) (x : List Int) : Prop where
  len : x.length = p.fStops.length
  few : p.fStops.length ≤ 4
  st : ∀ j, j < p.fStops.length → spB t (spN p j) = true
  x : ∀ j, j < p.fStops.length → 0 ≤ inN x j ∧ inN x j ≤ 2147483648
theorem nice_of (h : chkI t tr = 0) (hs : ∀ i, i < tr.length → lnE tr st i = true) (hx : (List.range tr.length).all (okI tr st) = true) {i : Nat} (hi : i < tr.length) : Nice t (tr.getD i default) (st.getD i default) := by
  obtain ⟨h1, h2, h3, h4, h5, h6⟩ := chk0 h
  have hl := ln_at h2 hi
  refine ⟨of_decide_eq_true (p := (st.getD i default).length = (tr.getD i default).fStops.length) (hs i hi), hl.2, fun j hj => pl_at h3 hi hj, fun j hj => ?_⟩
  have a := ok_of (rg_at (rg_at hx hi) hj)
  have b := st_of (pl_at h3 hi hj)
  have : (spN (tr.getD i default) j).fDue = ((tr.getD i default).fStops.getD j default).fDue := rfl
  omega
end
theorem dispatch_clash_ok (O : Env) (t : Table) (a b : Stop) (ha : spB t a = true) (hb : spB t b = true) (hs : SmT t) : PCall Try.prog O 46 [.agg (eTable t), .agg (eStop a), .agg (eStop b)] (vb (clB t a b)) := by
  have h1 := st_r ha
  have h2 := st_r hb
  refine pcall_of_aw Try.func46 rfl (by kernel_rfl) ?_
  refine aw_seq fun K0 hK0 => ?_
  refine aw_reg [0, 1, 2] (by kernel_rfl) ?_
  simp (disch := omega) only [go_sem, seval]
  repeat refine And.intro obl ?_
  refine hK0 _ ?_; clear hK0
  refine aw_seq fun K1 hK1 => ?_
  refine aw_regDc [3, 4, 5] [] mixed (by kernel_rfl) ?_
  simp (disch := omega) only [go_sem, seval]
  repeat refine And.intro obl ?_
  refine callD_to (conflict_Between_ok _ (rtT t a) (rtT t b) (hs _ (getD_mem h1.2)) (hs _ (getD_mem h2.2))) ?_ ?_
  · rfl
  simp (disch := omega) only [go_sem, seval]
  repeat refine And.intro obl ?_
  refine hK1 _ ?_; clear hK1
  refine aw_ret ?_
  refine ret_tmp 6 rfl (by simp (disch := omega) only [go_sem, seval]) ?_
  exact Exp.is (by simp (disch := omega) only [go_sem, seval] <;> refine congrArg vb ?_ <;> (rfl)) rfl rfl
theorem ref49_conflict_ok (O : Env) (t : Table) (a b : Stop) (ha : spB t a = true) (hb : spB t b = true) (hs : SmT t) : PCall Try.prog O 63 [.agg (eTable t), .agg (eStop a), .agg (eStop b)] (vb (clB t a b)) := by
  have h1 := st_r ha
  have h2 := st_r hb
  refine pcall_of_aw Try.func63 rfl (by kernel_rfl) ?_
  refine aw_seq fun K0 hK0 => ?_
  refine aw_reg [0, 1, 2] (by kernel_rfl) ?_
  simp (disch := omega) only [go_sem, seval]
  repeat refine And.intro obl ?_
  refine hK0 _ ?_; clear hK0
  refine aw_seq fun K1 hK1 => ?_
  refine aw_regDc [3, 4, 5] [] mixed (by kernel_rfl) ?_
  simp (disch := omega) only [go_sem, seval]
  repeat refine And.intro obl ?_
  refine callD_to (ref15_Between_ok _ (rtT t a) (rtT t b) (hs _ (getD_mem h1.2)) (hs _ (getD_mem h2.2))) ?_ ?_
  · rfl
  simp (disch := omega) only [go_sem, seval]
  repeat refine And.intro obl ?_
  refine hK1 _ ?_; clear hK1
  refine aw_ret ?_
  refine ret_tmp 6 rfl (by simp (disch := omega) only [go_sem, seval]) ?_
  exact Exp.is (by simp (disch := omega) only [go_sem, seval] <;> refine congrArg vb ?_ <;> (rfl)) rfl rfl
theorem dispatch_apart_ok (O : Env) (t : Table) (p q : Trip) (x y : List Int) (hx : Nice t p x) (hy : Nice t q y) (hs : SmT t) : PCall Try.prog O 34 [.agg (eTable t), .agg (eTrip p), encI x, .agg (eTrip q), encI y] (vb (apB t p q x y)) := by
  have lx := hx.len
  have ly := hy.len
  have fx := hx.few
  have fy := hy.few
  refine pcall_of_aw Try.func34 rfl (by kernel_rfl) ?_
  refine aw_seq fun K0 hK0 => ?_
  refine aw_reg [0, 1, 2, 3, 4] (by kernel_rfl) ?_
  simp (disch := omega) only [go_sem, seval]
  repeat refine And.intro obl ?_
  refine hK0 _ ?_; clear hK0
  refine aw_seq fun K1 hK1 => ?_
  refine aw_seq fun K2 hK2 => ?_
  refine aw_reg [2, 4, 5, 6, 8] (by kernel_rfl) ?_
  simp (disch := omega) only [go_sem, seval]
  repeat refine And.intro obl ?_
  refine hK2 _ ?_; clear hK2
  refine aw_block ?_
  refine aw_loopK [5, 2, 4, 8, 17, 18, 19] (fun n ρ => ∃ i, n = p.fStops.length - i ∧ (i ≤ p.fStops.length) ∧ (rgTo (apI t p q x y) i) ∧ ρ = mkE O [(5, .bx (eTable t)), (2, encI x), (4, encI y), (8, .bx (eTrip q)), (17, encSp p.fStops), (18, vi (p.fStops.length : Nat)), (19, vi (i : Nat))]) _ ⟨0, rfl, ?_, ?_, ?_⟩ ?_
  · exact dfl
  · exact rgTo_0 _
  · simp (disch := omega) only [go_sem, seval] <;> first | rfl | omega | simp | simp_all
  rintro n ρ ⟨i, rfl, l0_0, l0_1, rfl⟩ K3 hK3
  refine aw_seq fun K4 hK4 => ?_
  refine aw_reg [2, 4, 5, 6, 8, 16, 17, 18, 19] (by kernel_rfl) ?_
  simp (disch := omega) only [go_sem, seval]
  repeat refine And.intro obl ?_
  refine hK4 _ ?_; clear hK4
  refine aw_seq fun K5 hK5 => ?_
  refine aw_cond _ (by rfl) (rfl) (fun c0 => ?_) (fun c0 => ?_)
  · try simp only [push_cast] at c0
    refine aw_skip ?_
    refine hK5 _ ?_; clear hK5
    refine aw_seq fun K6 hK6 => ?_
    refine aw_block ?_
    refine aw_seq fun K7 hK7 => ?_
    refine aw_reg [2, 4, 5, 6, 8, 16, 17, 18, 19] (by kernel_rfl) ?_
    simp (disch := omega) only [go_sem, seval]
    repeat refine And.intro obl ?_
    refine hK7 _ ?_; clear hK7
    refine aw_seq fun K8 hK8 => ?_
    refine aw_reg [2, 4, 5, 6, 8, 11, 12, 16, 17, 18, 19] (by kernel_rfl) ?_
    simp (disch := omega) only [go_sem, seval]
    repeat refine And.intro obl ?_
    refine hK8 _ ?_; clear hK8
    refine aw_block ?_
    refine aw_loopK [5, 2, 4, 8, 17, 18, 19, 11, 12, 25, 26, 27] (fun n ρ => ∃ k, n = q.fStops.length - k ∧ (k ≤ q.fStops.length) ∧ (rgTo (apJ t p q x y i) k) ∧ ρ = mkE O [(5, .bx (eTable t)), (2, encI x), (4, encI y), (8, .bx (eTrip q)), (17, encSp p.fStops), (18, vi (p.fStops.length : Nat)), (19, vi (i : Nat)), (11, vi (i : Nat)), (12, .bx (eStop (p.fStops.getD i default))), (25, encSp q.fStops), (26, vi (q.fStops.length : Nat)), (27, vi (k : Nat))]) _ ⟨0, rfl, ?_, ?_, ?_⟩ ?_
    · exact dfl
    · exact rgTo_0 _
    · simp (disch := omega) only [go_sem, seval] <;> first | rfl | omega | simp | simp_all
    rintro n ρ ⟨k, rfl, l1_0, l1_1, rfl⟩ K9 hK9
    refine aw_seq fun K10 hK10 => ?_
    refine aw_reg [2, 4, 5, 6, 8, 11, 12, 16, 17, 18, 19, 24, 25, 26, 27] (by kernel_rfl) ?_
    simp (disch := omega) only [go_sem, seval]
    repeat refine And.intro obl ?_
    refine hK10 _ ?_; clear hK10
    refine aw_seq fun K11 hK11 => ?_
    refine aw_cond _ (by rfl) (rfl) (fun c1 => ?_) (fun c1 => ?_)
    · try simp only [push_cast] at c1
      refine aw_skip ?_
      refine hK11 _ ?_; clear hK11
      refine aw_seq fun K12 hK12 => ?_
      refine aw_block ?_
      refine aw_seq fun K13 hK13 => ?_
      refine aw_reg [2, 4, 5, 6, 8, 11, 12, 16, 17, 18, 19, 24, 25, 26, 27] (by kernel_rfl) ?_
      simp (disch := omega) only [go_sem, seval]
      repeat refine And.intro obl ?_
      refine hK13 _ ?_; clear hK13
      refine aw_seq fun K14 hK14 => ?_
      have h1 := hx.x i c0
      have h2 := hy.x k c1
      have h3 := st_of (hx.st i c0)
      have h4 := st_of (hy.st k c1)
      unfold inN at h1 h2
      unfold spN at h3 h4
      refine aw_regDc [2, 4, 5, 6, 8, 11, 12, 13, 14, 16, 17, 18, 19, 24, 25, 26, 27] [] mixed (by kernel_rfl) ?_
      simp (disch := omega) only [go_sem, seval]
      repeat refine And.intro obl ?_
      refine hK14 _ ?_; clear hK14
      refine aw_seq fun K15 hK15 => ?_
      refine aw_reg [2, 4, 5, 6, 8, 11, 12, 14, 15, 16, 17, 18, 19, 24, 25, 26, 27] (by kernel_rfl) ?_
      simp (disch := omega) only [go_sem, seval]
      repeat refine And.intro obl ?_
      refine callC_to (fun g0 => dispatch_clash_ok _ t (spN p i) (spN q k) (hx.st i c0) (hy.st k c1) hs) ?_ ?_ ?_
      · first | exact fun _ => trivial | simp
      · rfl
      simp (disch := omega) only [go_sem, seval]
      repeat refine And.intro obl ?_
      refine hK15 _ ?_; clear hK15
      refine aw_cond _ (by rfl) (rfl) (fun c2 => ?_) (fun c2 => ?_)
      · try simp only [push_cast] at c2
        refine aw_seq fun K16 hK16 => ?_
        refine aw_reg [] (by kernel_rfl) ?_
        simp (disch := omega) only [go_sem, seval]
        repeat refine And.intro obl ?_
        refine hK16 _ ?_; clear hK16
        refine aw_ret ?_
        refine ret_tmp 10 rfl (by simp (disch := omega) only [go_sem, seval]) ?_
        exact Exp.is (by simp (disch := omega) only [go_sem, seval] <;> refine congrArg vb ?_ <;> (rw [apB, rg_f c0 (rg_f (i := k) c1 (by simp only [apJ, inN, spN] at *; simpa using c2))])) rfl rfl
      · try simp only [push_cast] at c2
        refine aw_skip ?_
        refine hK12 _ ?_; clear hK12
        refine aw_reg [2, 4, 5, 6, 8, 11, 12, 16, 17, 18, 19, 24, 25, 26, 27] (by kernel_rfl) ?_
        simp (disch := omega) only [go_sem, seval]
        repeat refine And.intro obl ?_
        refine hK9 _ _ ?_ ⟨k + 1, rfl, ?_, ?_, ?_⟩
        · exact dfl
        · exact dfl
        · exact rgTo_s l1_1 (by simp only [apJ, inN, spN] at *; simpa using c2)
        · simp (disch := omega) only [go_sem, seval] <;> first | rfl | omega | simp | simp_all
    · try simp only [push_cast] at c1
      refine aw_exit ?_
      refine hK6 _ ?_; clear hK6
      refine aw_reg [2, 4, 5, 6, 8, 16, 17, 18, 19] (by kernel_rfl) ?_
      simp (disch := omega) only [go_sem, seval]
      repeat refine And.intro obl ?_
      refine hK3 _ _ ?_ ⟨i + 1, rfl, ?_, ?_, ?_⟩
      · exact dfl
      · exact dfl
      · exact rgTo_s l0_1 (rg_t l1_1 (by omega))
      · simp (disch := omega) only [go_sem, seval] <;> first | rfl | omega | simp | simp_all
  · try simp only [push_cast] at c0
    refine aw_exit ?_
    refine hK1 _ ?_; clear hK1
    refine aw_seq fun K17 hK17 => ?_
    refine aw_reg [] (by kernel_rfl) ?_
    simp (disch := omega) only [go_sem, seval]
    repeat refine And.intro obl ?_
    refine hK17 _ ?_; clear hK17
    refine aw_ret ?_
    refine ret_tmp 10 rfl (by simp (disch := omega) only [go_sem, seval]) ?_
    exact Exp.is (by simp (disch := omega) only [go_sem, seval] <;> refine congrArg vb ?_ <;> (rw [apB, rg_t l0_1 (by omega)])) rfl rfl
theorem feas01 {t : Table} {tr : List Trip} {st : List (List Int)} (h : ¬chkI t tr = 0 ∨ ¬st.length = tr.length) : feasB t tr st = false := by
  rcases h with h | h
  · exact feas0 h
  · exact feas1 (by rw [shB, decide_eq_false h]; rfl)
theorem shB_f {tr : List Trip} {st : List (List Int)} {i : Nat} (hi : i < tr.length) (h : ¬(st.getD i default).length = (tr.getD i default).fStops.length) : shB tr st = false := by
  rw [shB, rg_f hi (show lnE tr st i = false from decide_eq_false h), Bool.and_false]
theorem shB_t {tr : List Trip} {st : List (List Int)} {i : Nat} (h : st.length = tr.length) (h1 : rgTo (lnE tr st) i) (h2 : tr.length ≤ i) : shB tr st = true := by
  rw [shB, decide_eq_true h, rg_t h1 h2]; rfl
theorem okJ_f1 {p : Trip} {x : List Int} {j : Nat} (h : x.getD j default < (p.fStops.getD j default).fDue ∨ 2147483648 < x.getD j default) : okJ p x j = false := by
  refine decide_eq_false ?_
  unfold inN spN
  omega
theorem okJ_f2 {p : Trip} {x : List Int} {j : Nat} (h : 0 < j ∧ x.getD j default < x.getD (j - 1) default + (p.fStops.getD (j - 1) default).fRun) : okJ p x j = false := by
  refine decide_eq_false ?_
  unfold inN spN
  omega
theorem okJ_t {p : Trip} {x : List Int} {j : Nat} (h : (p.fStops.getD j default).fDue ≤ x.getD j default ∧ x.getD j default ≤ 2147483648) (g : ¬ 0 < j ∨ x.getD (j - 1) default + (p.fStops.getD (j - 1) default).fRun ≤ x.getD j default) : okJ p x j = true := by
  refine decide_eq_true ?_
  unfold inN spN
  omega
theorem before {t : Table} {tr : List Trip} {st : List (List Int)} (hP : tr.all (plB t) = true) {i j : Nat} (hi : i < tr.length) (hj : j < (tr.getD i default).fStops.length) (h : ((tr.getD i default).fStops.getD j default).fDue ≤ (st.getD i default).getD j default ∧ (st.getD i default).getD j default ≤ 2147483648) (g : rgTo (okJ (tr.getD i default) (st.getD i default)) j) :
    (0 ≤ (st.getD i default).getD (j - 1) default ∧ (st.getD i default).getD (j - 1) default ≤ 2147483648) ∧ 1 ≤ ((tr.getD i default).fStops.getD (j - 1) default).fRun ∧ ((tr.getD i default).fStops.getD (j - 1) default).fRun ≤ 1000 := by
  have h1 := st_of (pl_at hP hi hj)
  rcases Nat.eq_zero_or_pos j with rfl | hp
  · simp only [Nat.zero_sub]; omega
  · have h2 := st_of (pl_at hP hi (j := j - 1) (by omega))
    have h3 := ok_of (g (j - 1) (by omega))
    unfold inN spN at h3
    omega
set_option maxHeartbeats 2000000 in
theorem dispatch_Feasible_ok (O : Env) (t : Table) (tr : List Trip) (st : List (List Int)) (hs : SmT t) : PCall Try.prog O 14 [.agg (eTable t), encTr tr, encSt st] (vb (feasB t tr st)) := by
  refine pcall_has 1 rfl (.sl _ _ _) fun hn => ?_
  refine pcall_has 2 rfl (.sl _ _ _) fun hm => ?_
  refine pcall_of_aw Try.func14 rfl (by kernel_rfl) ?_
  refine aw_seq fun K0 hK0 => ?_
  refine aw_reg [0, 1, 2] (by kernel_rfl) ?_
  simp (disch := omega) only [go_sem, seval]
  repeat refine And.intro obl ?_
  refine hK0 _ ?_; clear hK0
  refine aw_seq fun K1 hK1 => ?_
  refine aw_seq fun K2 hK2 => ?_
  refine aw_reg [1, 2, 3] (by kernel_rfl) ?_
  simp (disch := omega) only [go_sem, seval]
  repeat refine And.intro obl ?_
  refine callG_of _ (timetable_Check_ok _ t tr) ?_
  simp (disch := omega) only [go_sem, seval]
  repeat refine And.intro obl ?_
  refine hK2 _ ?_; clear hK2
  refine aw_cond _ (by rfl) (rfl) (fun c0 => ?_) (fun c0 => ?_)
  · try simp only [push_cast] at c0
    refine aw_seq fun K3 hK3 => ?_
    refine aw_reg [] (by kernel_rfl) ?_
    simp (disch := omega) only [go_sem, seval]
    repeat refine And.intro obl ?_
    refine hK3 _ ?_; clear hK3
    refine aw_ret ?_
    refine ret_tmp 6 rfl (by simp (disch := omega) only [go_sem, seval]) ?_
    exact Exp.is (by simp (disch := omega) only [go_sem, seval] <;> refine congrArg vb ?_ <;> (rw [feas01 c0])) rfl rfl
  · try simp only [push_cast] at c0
    refine aw_skip ?_
    refine hK1 _ ?_; clear hK1
    refine aw_seq fun K4 hK4 => ?_
    refine aw_seq fun K5 hK5 => ?_
    refine aw_reg [1, 2, 3] (by kernel_rfl) ?_
    simp (disch := omega) only [go_sem, seval]
    repeat refine And.intro obl ?_
    refine hK5 _ ?_; clear hK5
    refine aw_block ?_
    have hk := chk0 c0.1
    have hP := hk.2.2.1
    refine aw_loopK [1, 2, 3, 24, 25, 26] (fun n ρ => ∃ i, n = tr.length - i ∧ (i ≤ tr.length) ∧ (rgTo (lnE tr st) i) ∧ (rgTo (okI tr st) i) ∧ ρ = mkE O [(1, encTr tr), (2, encSt st), (3, .bx (eTable t)), (24, encTr tr), (25, vi (tr.length : Nat)), (26, vi (i : Nat))]) _ ⟨0, rfl, ?_, ?_, ?_, ?_⟩ ?_
    · exact dfl
    · exact rgTo_0 _
    · exact rgTo_0 _
    · simp (disch := omega) only [go_sem, seval] <;> first | rfl | omega | simp | simp_all
    rintro n ρ ⟨i, rfl, l0_0, l0_1, l0_2, rfl⟩ K6 hK6
    refine aw_seq fun K7 hK7 => ?_
    refine aw_reg [1, 2, 3, 24, 25, 26] (by kernel_rfl) ?_
    simp (disch := omega) only [go_sem, seval]
    repeat refine And.intro obl ?_
    refine hK7 _ ?_; clear hK7
    refine aw_seq fun K8 hK8 => ?_
    refine aw_cond _ (by rfl) (rfl) (fun c1 => ?_) (fun c1 => ?_)
    · try simp only [push_cast] at c1
      refine aw_skip ?_
      refine hK8 _ ?_; clear hK8
      refine aw_seq fun K9 hK9 => ?_
      refine aw_block ?_
      refine aw_seq fun K10 hK10 => ?_
      refine aw_reg [1, 2, 3, 24, 25, 26] (by kernel_rfl) ?_
      simp (disch := omega) only [go_sem, seval]
      repeat refine And.intro obl ?_
      refine hK10 _ ?_; clear hK10
      refine aw_seq fun K11 hK11 => ?_
      refine aw_seq fun K12 hK12 => ?_
      refine aw_regDc [1, 2, 3, 7, 8, 24, 25, 26] [] mixed (by kernel_rfl) ?_
      simp (disch := omega) only [go_sem, seval]
      repeat refine And.intro obl ?_
      refine hK12 _ ?_; clear hK12
      refine aw_cond _ (by rfl) (rfl) (fun c2 => ?_) (fun c2 => ?_)
      · try simp only [push_cast] at c2
        refine aw_seq fun K13 hK13 => ?_
        refine aw_reg [] (by kernel_rfl) ?_
        simp (disch := omega) only [go_sem, seval]
        repeat refine And.intro obl ?_
        refine hK13 _ ?_; clear hK13
        refine aw_ret ?_
        refine ret_tmp 6 rfl (by simp (disch := omega) only [go_sem, seval]) ?_
        exact Exp.is (by simp (disch := omega) only [go_sem, seval] <;> refine congrArg vb ?_ <;> (rw [feas1 (shB_f c1 c2)])) rfl rfl
      · try simp only [push_cast] at c2
        refine aw_skip ?_
        refine hK11 _ ?_; clear hK11
        refine aw_seq fun K14 hK14 => ?_
        refine aw_reg [1, 2, 3, 7, 8, 24, 25, 26] (by kernel_rfl) ?_
        simp (disch := omega) only [go_sem, seval]
        repeat refine And.intro obl ?_
        have hl := ln_at hk.2.1 c1
        refine hK14 _ ?_; clear hK14
        refine aw_block ?_
        refine aw_loopK [1, 2, 3, 24, 25, 26, 7, 8, 41, 42, 43] (fun n ρ => ∃ j, n = (tr.getD i default).fStops.length - j ∧ (j ≤ (tr.getD i default).fStops.length) ∧ (rgTo (okJ (tr.getD i default) (st.getD i default)) j) ∧ ρ = mkE O [(1, encTr tr), (2, encSt st), (3, .bx (eTable t)), (24, encTr tr), (25, vi (tr.length : Nat)), (26, vi (i : Nat)), (7, vi (i : Nat)), (8, .bx (eTrip (tr.getD i default))), (41, encSp (tr.getD i default).fStops), (42, vi ((tr.getD i default).fStops.length : Nat)), (43, vi (j : Nat))]) _ ⟨0, rfl, ?_, ?_, ?_⟩ ?_
        · exact dfl
        · exact rgTo_0 _
        · simp (disch := omega) only [go_sem, seval] <;> first | rfl | omega | simp | simp_all
        rintro n ρ ⟨j, rfl, l1_0, l1_1, rfl⟩ K15 hK15
        refine aw_seq fun K16 hK16 => ?_
        refine aw_reg [1, 2, 3, 7, 8, 24, 25, 26, 40, 41, 42, 43] (by kernel_rfl) ?_
        simp (disch := omega) only [go_sem, seval]
        repeat refine And.intro obl ?_
        refine hK16 _ ?_; clear hK16
        refine aw_seq fun K17 hK17 => ?_
        refine aw_cond _ (by rfl) (rfl) (fun c3 => ?_) (fun c3 => ?_)
        · try simp only [push_cast] at c3
          refine aw_skip ?_
          refine hK17 _ ?_; clear hK17
          refine aw_seq fun K18 hK18 => ?_
          refine aw_block ?_
          refine aw_seq fun K19 hK19 => ?_
          refine aw_reg [1, 2, 3, 7, 8, 24, 25, 26, 40, 41, 42, 43] (by kernel_rfl) ?_
          simp (disch := omega) only [go_sem, seval]
          repeat refine And.intro obl ?_
          refine hK19 _ ?_; clear hK19
          refine aw_seq fun K20 hK20 => ?_
          refine aw_seq fun K21 hK21 => ?_
          refine aw_regDc [1, 2, 3, 7, 8, 9, 10, 24, 25, 26, 40, 41, 42, 43] [] mixed (by kernel_rfl) ?_
          simp (disch := omega) only [go_sem, seval]
          repeat refine And.intro obl ?_
          refine hK21 _ ?_; clear hK21
          refine aw_cond _ (by rfl) (rfl) (fun c4 => ?_) (fun c4 => ?_)
          · try simp only [push_cast] at c4
            refine aw_seq fun K22 hK22 => ?_
            refine aw_reg [] (by kernel_rfl) ?_
            simp (disch := omega) only [go_sem, seval]
            repeat refine And.intro obl ?_
            refine hK22 _ ?_; clear hK22
            refine aw_ret ?_
            refine ret_tmp 6 rfl (by simp (disch := omega) only [go_sem, seval]) ?_
            exact Exp.is (by simp (disch := omega) only [go_sem, seval] <;> refine congrArg vb ?_ <;> (rw [feas2 (rg_f c1 (rg_f c3 (okJ_f1 c4)))])) rfl rfl
          · try simp only [push_cast] at c4
            refine aw_skip ?_
            refine hK20 _ ?_; clear hK20
            refine aw_seq fun K23 hK23 => ?_
            have hb := before hP c1 c3 c4 l1_1
            refine aw_regDc [1, 2, 3, 7, 8, 9, 24, 25, 26, 40, 41, 42, 43] [] mixed (by kernel_rfl) ?_
            simp (disch := omega) only [go_sem, seval]
            repeat refine And.intro obl ?_
            refine hK23 _ ?_; clear hK23
            refine aw_cond _ (by rfl) (rfl) (fun c5 => ?_) (fun c5 => ?_)
            · try simp only [push_cast] at c5
              refine aw_seq fun K24 hK24 => ?_
              refine aw_reg [] (by kernel_rfl) ?_
              simp (disch := omega) only [go_sem, seval]
              repeat refine And.intro obl ?_
              refine hK24 _ ?_; clear hK24
              refine aw_ret ?_
              refine ret_tmp 6 rfl (by simp (disch := omega) only [go_sem, seval]) ?_
              exact Exp.is (by simp (disch := omega) only [go_sem, seval] <;> refine congrArg vb ?_ <;> (rw [feas2 (rg_f c1 (rg_f c3 (okJ_f2 c5)))])) rfl rfl
            · try simp only [push_cast] at c5
              refine aw_skip ?_
              refine hK18 _ ?_; clear hK18
              refine aw_reg [1, 2, 3, 7, 8, 24, 25, 26, 40, 41, 42, 43] (by kernel_rfl) ?_
              simp (disch := omega) only [go_sem, seval]
              repeat refine And.intro obl ?_
              refine hK15 _ _ ?_ ⟨j + 1, rfl, ?_, ?_, ?_⟩
              · exact dfl
              · exact dfl
              · exact rgTo_s l1_1 (okJ_t c4 (by omega))
              · simp (disch := omega) only [go_sem, seval] <;> first | rfl | omega | simp | simp_all
        · try simp only [push_cast] at c3
          refine aw_exit ?_
          refine hK9 _ ?_; clear hK9
          refine aw_reg [1, 2, 3, 24, 25, 26] (by kernel_rfl) ?_
          simp (disch := omega) only [go_sem, seval]
          repeat refine And.intro obl ?_
          refine hK6 _ _ ?_ ⟨i + 1, rfl, ?_, ?_, ?_, ?_⟩
          · exact dfl
          · exact dfl
          · exact rgTo_s l0_1 (decide_eq_true c2)
          · exact rgTo_s l0_2 (rg_t l1_1 (by omega))
          · simp (disch := omega) only [go_sem, seval] <;> first | rfl | omega | simp | simp_all
    · try simp only [push_cast] at c1
      refine aw_exit ?_
      refine hK4 _ ?_; clear hK4
      refine aw_seq fun K25 hK25 => ?_
      refine aw_seq fun K26 hK26 => ?_
      refine aw_reg [1, 2, 3] (by kernel_rfl) ?_
      simp (disch := omega) only [go_sem, seval]
      repeat refine And.intro obl ?_
      refine hK26 _ ?_; clear hK26
      refine aw_block ?_
      have hX := rg_t l0_2 (n := tr.length) (by omega)
      have hN := fun i hi => nice_of (st := st) c0.1 (fun i hi => l0_1 i (by omega)) hX (i := i) hi
      have hS := shB_t c0.2 l0_1 (by omega)
      refine aw_loopK [1, 2, 3, 99, 100] (fun n ρ => ∃ i, n = tr.length - i ∧ (i ≤ tr.length) ∧ (rgTo (prI t tr st) i) ∧ ρ = mkE O [(1, encTr tr), (2, encSt st), (3, .bx (eTable t)), (99, vi (tr.length : Nat)), (100, vi (i : Nat))]) _ ⟨0, rfl, ?_, ?_, ?_⟩ ?_
      · exact dfl
      · exact rgTo_0 _
      · simp (disch := omega) only [go_sem, seval] <;> first | rfl | omega | simp | simp_all
      rintro n ρ ⟨i, rfl, l2_0, l2_1, rfl⟩ K27 hK27
      refine aw_seq fun K28 hK28 => ?_
      refine aw_reg [1, 2, 3, 99, 100] (by kernel_rfl) ?_
      simp (disch := omega) only [go_sem, seval]
      repeat refine And.intro obl ?_
      refine hK28 _ ?_; clear hK28
      refine aw_seq fun K29 hK29 => ?_
      refine aw_cond _ (by rfl) (rfl) (fun c6 => ?_) (fun c6 => ?_)
      · try simp only [push_cast] at c6
        refine aw_skip ?_
        refine hK29 _ ?_; clear hK29
        refine aw_seq fun K30 hK30 => ?_
        refine aw_block ?_
        refine aw_seq fun K31 hK31 => ?_
        refine aw_reg [1, 2, 3, 99, 100] (by kernel_rfl) ?_
        simp (disch := omega) only [go_sem, seval]
        repeat refine And.intro obl ?_
        refine hK31 _ ?_; clear hK31
        refine aw_seq fun K32 hK32 => ?_
        refine aw_reg [1, 2, 3, 11, 99, 100] (by kernel_rfl) ?_
        simp (disch := omega) only [go_sem, seval]
        repeat refine And.intro obl ?_
        refine hK32 _ ?_; clear hK32
        refine aw_block ?_
        refine aw_loopK [1, 2, 3, 99, 100, 11, 103, 104] (fun n ρ => ∃ k, n = i - k ∧ (k ≤ i) ∧ (rgTo (prK t tr st i) k) ∧ ρ = mkE O [(1, encTr tr), (2, encSt st), (3, .bx (eTable t)), (99, vi (tr.length : Nat)), (100, vi (i : Nat)), (11, vi (i : Nat)), (103, vi (i : Nat)), (104, vi (k : Nat))]) _ ⟨0, rfl, ?_, ?_, ?_⟩ ?_
        · exact dfl
        · exact rgTo_0 _
        · simp (disch := omega) only [go_sem, seval] <;> first | rfl | omega | simp | simp_all
        rintro n ρ ⟨k, rfl, l3_0, l3_1, rfl⟩ K33 hK33
        refine aw_seq fun K34 hK34 => ?_
        refine aw_reg [1, 2, 3, 11, 99, 100, 103, 104] (by kernel_rfl) ?_
        simp (disch := omega) only [go_sem, seval]
        repeat refine And.intro obl ?_
        refine hK34 _ ?_; clear hK34
        refine aw_seq fun K35 hK35 => ?_
        refine aw_cond _ (by rfl) (rfl) (fun c7 => ?_) (fun c7 => ?_)
        · try simp only [push_cast] at c7
          refine aw_skip ?_
          refine hK35 _ ?_; clear hK35
          refine aw_seq fun K36 hK36 => ?_
          refine aw_block ?_
          refine aw_seq fun K37 hK37 => ?_
          refine aw_reg [1, 2, 3, 11, 99, 100, 103, 104] (by kernel_rfl) ?_
          simp (disch := omega) only [go_sem, seval]
          repeat refine And.intro obl ?_
          refine hK37 _ ?_; clear hK37
          refine aw_seq fun K38 hK38 => ?_
          refine aw_regDc [1, 2, 3, 11, 12, 99, 100, 103, 104] [] mixed (by kernel_rfl) ?_
          simp (disch := omega) only [go_sem, seval]
          repeat refine And.intro obl ?_
          refine callD_to (dispatch_apart_ok _ t (tr.getD i default) (tr.getD k default) (st.getD i default) (st.getD k default) (hN i c6) (hN k (by omega)) hs) ?_ ?_
          · rfl
          simp (disch := omega) only [go_sem, seval]
          repeat refine And.intro obl ?_
          refine hK38 _ ?_; clear hK38
          refine aw_cond _ (by rfl) (rfl) (fun c8 => ?_) (fun c8 => ?_)
          · try simp only [push_cast] at c8
            refine aw_seq fun K39 hK39 => ?_
            refine aw_reg [] (by kernel_rfl) ?_
            simp (disch := omega) only [go_sem, seval]
            repeat refine And.intro obl ?_
            refine hK39 _ ?_; clear hK39
            refine aw_ret ?_
            refine ret_tmp 6 rfl (by simp (disch := omega) only [go_sem, seval]) ?_
            exact Exp.is (by simp (disch := omega) only [go_sem, seval] <;> refine congrArg vb ?_ <;> (rw [feas3 (rg_f c6 (rg_f c7 c8))])) rfl rfl
          · try simp only [push_cast] at c8
            refine aw_skip ?_
            refine hK36 _ ?_; clear hK36
            refine aw_reg [1, 2, 3, 11, 99, 100, 103, 104] (by kernel_rfl) ?_
            simp (disch := omega) only [go_sem, seval]
            repeat refine And.intro obl ?_
            refine hK33 _ _ ?_ ⟨k + 1, rfl, ?_, ?_, ?_⟩
            · exact dfl
            · exact dfl
            · exact rgTo_s l3_1 c8
            · simp (disch := omega) only [go_sem, seval] <;> first | rfl | omega | simp | simp_all
        · try simp only [push_cast] at c7
          refine aw_exit ?_
          refine hK30 _ ?_; clear hK30
          refine aw_reg [1, 2, 3, 99, 100] (by kernel_rfl) ?_
          simp (disch := omega) only [go_sem, seval]
          repeat refine And.intro obl ?_
          refine hK27 _ _ ?_ ⟨i + 1, rfl, ?_, ?_, ?_⟩
          · exact dfl
          · exact dfl
          · exact rgTo_s l2_1 (rg_t l3_1 (by omega))
          · simp (disch := omega) only [go_sem, seval] <;> first | rfl | omega | simp | simp_all
      · try simp only [push_cast] at c6
        refine aw_exit ?_
        refine hK25 _ ?_; clear hK25
        refine aw_seq fun K40 hK40 => ?_
        refine aw_reg [] (by kernel_rfl) ?_
        simp (disch := omega) only [go_sem, seval]
        repeat refine And.intro obl ?_
        refine hK40 _ ?_; clear hK40
        refine aw_ret ?_
        refine ret_tmp 6 rfl (by simp (disch := omega) only [go_sem, seval]) ?_
        exact Exp.is (by simp (disch := omega) only [go_sem, seval] <;> refine congrArg vb ?_ <;> (rw [feas4 c0.1 hS hX (rg_t l2_1 (by omega))])) rfl rfl
end Go.Sg
