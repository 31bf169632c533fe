/- Contracts of the reference's timetable check. Printed by genw.py. -/
import Derived.Test.YtbndgcddihbhlaaSgB
import Derived.Test.YtbndgcddihbhlaaD2
set_option linter.unusedVariables false
set_option linter.unusedSimpArgs false
set_option maxRecDepth 8000
namespace Go.Sg
open Go.Proofs
theorem ref48_Trip_ok (O : Env) (t : Table) (tr : List Trip) (x : Int) : PCall Try.prog O 59 [.agg (eTable t), encTr tr, vi x] (vi (tripI tr x tr.length)) := by
  refine pcall_has 0 rfl (.agg (d := encRt t.fRoutes) (by simp [eTable]) (.sl _ _ _)) fun ht => ?_
  refine pcall_has 1 rfl (.sl _ _ _) fun hn => ?_
  refine pcall_of_aw Try.func59 rfl (by kernel_rfl) ?_
  refine aw_seq fun K0 hK0 => ?_
  refine aw_reg [0, 1, 2] (by kernel_rfl) ?_
  simp (disch := omega) only [go_sem, seval]
  repeat refine And.intro obl ?_
  refine hK0 _ ?_; clear hK0
  refine aw_seq fun K1 hK1 => ?_
  refine aw_seq fun K2 hK2 => ?_
  refine aw_reg [1, 2] (by kernel_rfl) ?_
  simp (disch := omega) only [go_sem, seval]
  repeat refine And.intro obl ?_
  refine hK2 _ ?_; clear hK2
  refine aw_block ?_
  refine aw_loopK [1, 2, 7] (fun n ρ => ∃ i, n = tr.length - i ∧ (i ≤ tr.length) ∧ (tripI tr x tr.length = tripI tr x (tr.length - i)) ∧ ρ = mkE O [(1, encTr tr), (2, vi x), (7, vi (i : Nat))]) _ ⟨0, rfl, ?_, ?_, ?_⟩ ?_
  · exact dfl
  · rfl
  · simp (disch := omega) only [go_sem, seval] <;> first | rfl | omega | simp | simp_all
  rintro n ρ ⟨i, rfl, l0_0, l0_1, rfl⟩ K3 hK3
  refine aw_seq fun K4 hK4 => ?_
  refine aw_seq fun K5 hK5 => ?_
  refine aw_reg [1, 2, 7] (by kernel_rfl) ?_
  simp (disch := omega) only [go_sem, seval]
  repeat refine And.intro obl ?_
  refine hK5 _ ?_; clear hK5
  refine aw_cond _ (by rfl) (rfl) (fun c0 => ?_) (fun c0 => ?_)
  · try simp only [push_cast] at c0
    refine aw_skip ?_
    refine hK4 _ ?_; clear hK4
    refine aw_seq fun K6 hK6 => ?_
    refine aw_block ?_
    refine aw_seq fun K7 hK7 => ?_
    refine aw_reg [1, 2, 7] (by kernel_rfl) ?_
    simp (disch := omega) only [go_sem, seval]
    repeat refine And.intro obl ?_
    refine hK7 _ ?_; clear hK7
    refine aw_cond _ (by rfl) (rfl) (fun c1 => ?_) (fun c1 => ?_)
    · try simp only [push_cast] at c1
      refine aw_seq fun K8 hK8 => ?_
      refine aw_reg [7] (by kernel_rfl) ?_
      simp (disch := omega) only [go_sem, seval]
      repeat refine And.intro obl ?_
      refine hK8 _ ?_; clear hK8
      refine aw_ret ?_
      refine ret_tmp 6 rfl (by simp (disch := omega) only [go_sem, seval]) ?_
      exact Exp.is (by simp (disch := omega) only [go_sem, seval] <;> (rw [l0_1, trip_s c0, if_pos (show trN tr i = x from c1)])) rfl rfl
    · try simp only [push_cast] at c1
      refine aw_skip ?_
      refine hK6 _ ?_; clear hK6
      refine aw_reg [1, 2, 7] (by kernel_rfl) ?_
      simp (disch := omega) only [go_sem, seval]
      repeat refine And.intro obl ?_
      refine hK3 _ _ ?_ ⟨i + 1, rfl, ?_, ?_, ?_⟩
      · exact dfl
      · exact dfl
      · rw [l0_1, trip_s c0, if_neg (show ¬ trN tr i = x from c1)]
      · simp (disch := omega) only [go_sem, seval] <;> first | rfl | omega | simp | simp_all
  · try simp only [push_cast] at c0
    refine aw_exit ?_
    refine hK1 _ ?_; clear hK1
    refine aw_seq fun K9 hK9 => ?_
    refine aw_reg [] (by kernel_rfl) ?_
    simp (disch := omega) only [go_sem, seval]
    repeat refine And.intro obl ?_
    refine hK9 _ ?_; clear hK9
    refine aw_ret ?_
    refine ret_tmp 6 rfl (by simp (disch := omega) only [go_sem, seval]) ?_
    exact Exp.is (by simp (disch := omega) only [go_sem, seval] <;> (rw [l0_1, show tr.length - i = 0 by omega]; rfl)) rfl rfl
set_option maxHeartbeats 2000000 in
theorem ref48_Check_ok (O : Env) (t : Table) (tr : List Trip) : PCall Try.prog O 32 [.agg (eTable t), encTr tr] (vi (chkI t tr)) := by
  refine pcall_has 0 rfl (.agg (d := encRt t.fRoutes) (by simp [eTable]) (.sl _ _ _)) fun ht => ?_
  refine pcall_has 1 rfl (.sl _ _ _) fun hn => ?_
  refine pcall_of_aw Try.func32 rfl (by kernel_rfl) ?_
  refine aw_seq fun K0 hK0 => ?_
  refine aw_reg [0, 1] (by kernel_rfl) ?_
  simp (disch := omega) only [go_sem, seval]
  repeat refine And.intro obl ?_
  refine hK0 _ ?_; clear hK0
  refine aw_seq fun K1 hK1 => ?_
  refine aw_seq fun K2 hK2 => ?_
  refine aw_reg [1, 2] (by kernel_rfl) ?_
  simp (disch := omega) only [go_sem, seval]
  repeat refine And.intro obl ?_
  refine hK2 _ ?_; clear hK2
  refine aw_cond _ (by rfl) (rfl) (fun c0 => ?_) (fun c0 => ?_)
  · try simp only [push_cast] at c0
    refine aw_seq fun K3 hK3 => ?_
    refine aw_reg [] (by kernel_rfl) ?_
    simp (disch := omega) only [go_sem, seval]
    repeat refine And.intro obl ?_
    refine hK3 _ ?_; clear hK3
    refine aw_ret ?_
    refine ret_tmp 4 rfl (by simp (disch := omega) only [go_sem, seval]) ?_
    exact Exp.is (by simp (disch := omega) only [go_sem, seval] <;> (rw [chk1 c0])) rfl rfl
  · try simp only [push_cast] at c0
    refine aw_skip ?_
    refine hK1 _ ?_; clear hK1
    refine aw_seq fun K4 hK4 => ?_
    refine aw_seq fun K5 hK5 => ?_
    refine aw_reg [1, 2] (by kernel_rfl) ?_
    simp (disch := omega) only [go_sem, seval]
    repeat refine And.intro obl ?_
    refine hK5 _ ?_; clear hK5
    refine aw_block ?_
    refine aw_loopK [1, 2, 5] (fun n ρ => ∃ i, n = tr.length - i ∧ (i ≤ tr.length) ∧ (allTo lnB tr i) ∧ ρ = mkE O [(1, encTr tr), (2, .bx (eTable t)), (5, vi (i : Nat))]) _ ⟨0, rfl, ?_, ?_, ?_⟩ ?_
    · exact dfl
    · exact allTo_0 _ _
    · simp (disch := omega) only [go_sem, seval] <;> first | rfl | omega | simp | simp_all
    rintro n ρ ⟨i, rfl, l0_0, l0_1, rfl⟩ K6 hK6
    refine aw_seq fun K7 hK7 => ?_
    refine aw_seq fun K8 hK8 => ?_
    refine aw_reg [1, 2, 5] (by kernel_rfl) ?_
    simp (disch := omega) only [go_sem, seval]
    repeat refine And.intro obl ?_
    refine hK8 _ ?_; clear hK8
    refine aw_cond _ (by rfl) (rfl) (fun c1 => ?_) (fun c1 => ?_)
    · try simp only [push_cast] at c1
      refine aw_skip ?_
      refine hK7 _ ?_; clear hK7
      refine aw_seq fun K9 hK9 => ?_
      refine aw_block ?_
      refine aw_seq fun K10 hK10 => ?_
      refine aw_reg [1, 2, 5] (by kernel_rfl) ?_
      simp (disch := omega) only [go_sem, seval]
      repeat refine And.intro obl ?_
      refine hK10 _ ?_; clear hK10
      refine aw_cond _ (by rfl) (rfl) (fun c2 => ?_) (fun c2 => ?_)
      · try simp only [push_cast] at c2
        refine aw_seq fun K11 hK11 => ?_
        refine aw_reg [] (by kernel_rfl) ?_
        simp (disch := omega) only [go_sem, seval]
        repeat refine And.intro obl ?_
        refine hK11 _ ?_; clear hK11
        refine aw_ret ?_
        refine ret_tmp 4 rfl (by simp (disch := omega) only [go_sem, seval]) ?_
        exact Exp.is (by simp (disch := omega) only [go_sem, seval] <;> (rw [chk2 (by omega) (all_f c1 (decide_eq_false (by omega)))])) rfl rfl
      · try simp only [push_cast] at c2
        refine aw_skip ?_
        refine hK9 _ ?_; clear hK9
        refine aw_reg [1, 2, 5] (by kernel_rfl) ?_
        simp (disch := omega) only [go_sem, seval]
        repeat refine And.intro obl ?_
        refine hK6 _ _ ?_ ⟨i + 1, rfl, ?_, ?_, ?_⟩
        · exact dfl
        · exact dfl
        · exact allTo_s l0_1 (decide_eq_true (by omega))
        · simp (disch := omega) only [go_sem, seval] <;> first | rfl | omega | simp | simp_all
    · try simp only [push_cast] at c1
      refine aw_exit ?_
      refine hK4 _ ?_; clear hK4
      refine aw_seq fun K12 hK12 => ?_
      refine aw_seq fun K13 hK13 => ?_
      refine aw_reg [1, 2] (by kernel_rfl) ?_
      simp (disch := omega) only [go_sem, seval]
      repeat refine And.intro obl ?_
      refine hK13 _ ?_; clear hK13
      refine aw_block ?_
      have hA := all_t l0_1 (by omega)
      refine aw_loopK [1, 2, 6] (fun n ρ => ∃ i, n = tr.length - i ∧ (i ≤ tr.length) ∧ (allTo (plB t) tr i) ∧ ρ = mkE O [(1, encTr tr), (2, .bx (eTable t)), (6, vi (i : Nat))]) _ ⟨0, rfl, ?_, ?_, ?_⟩ ?_
      · exact dfl
      · exact allTo_0 _ _
      · simp (disch := omega) only [go_sem, seval] <;> first | rfl | omega | simp | simp_all
      rintro n ρ ⟨i, rfl, l1_0, l1_1, rfl⟩ K14 hK14
      refine aw_seq fun K15 hK15 => ?_
      refine aw_seq fun K16 hK16 => ?_
      refine aw_reg [1, 2, 6] (by kernel_rfl) ?_
      simp (disch := omega) only [go_sem, seval]
      repeat refine And.intro obl ?_
      refine hK16 _ ?_; clear hK16
      refine aw_cond _ (by rfl) (rfl) (fun c3 => ?_) (fun c3 => ?_)
      · try simp only [push_cast] at c3
        refine aw_skip ?_
        refine hK15 _ ?_; clear hK15
        refine aw_seq fun K17 hK17 => ?_
        refine aw_block ?_
        refine aw_seq fun K18 hK18 => ?_
        refine aw_regDc [1, 2, 6] [] mixed (by kernel_rfl) ?_
        simp (disch := omega) only [go_sem, seval]
        repeat refine And.intro obl ?_
        refine callD_to (ref48_right_ok _ t (tr.getD i default)) ?_ ?_
        · rfl
        simp (disch := omega) only [go_sem, seval]
        repeat refine And.intro obl ?_
        refine hK18 _ ?_; clear hK18
        refine aw_cond _ (by rfl) (rfl) (fun c4 => ?_) (fun c4 => ?_)
        · try simp only [push_cast] at c4
          refine aw_seq fun K19 hK19 => ?_
          refine aw_reg [] (by kernel_rfl) ?_
          simp (disch := omega) only [go_sem, seval]
          repeat refine And.intro obl ?_
          refine hK19 _ ?_; clear hK19
          refine aw_ret ?_
          refine ret_tmp 4 rfl (by simp (disch := omega) only [go_sem, seval]) ?_
          exact Exp.is (by simp (disch := omega) only [go_sem, seval] <;> (rw [chk3 (by omega) hA (all_f c3 (by simpa using c4))])) rfl rfl
        · try simp only [push_cast] at c4
          refine aw_skip ?_
          refine hK17 _ ?_; clear hK17
          refine aw_reg [1, 2, 6] (by kernel_rfl) ?_
          simp (disch := omega) only [go_sem, seval]
          repeat refine And.intro obl ?_
          refine hK14 _ _ ?_ ⟨i + 1, rfl, ?_, ?_, ?_⟩
          · exact dfl
          · exact dfl
          · exact allTo_s l1_1 (by simpa using c4)
          · simp (disch := omega) only [go_sem, seval] <;> first | rfl | omega | simp | simp_all
      · try simp only [push_cast] at c3
        refine aw_exit ?_
        refine hK12 _ ?_; clear hK12
        refine aw_seq fun K20 hK20 => ?_
        refine aw_seq fun K21 hK21 => ?_
        refine aw_reg [1, 2] (by kernel_rfl) ?_
        simp (disch := omega) only [go_sem, seval]
        repeat refine And.intro obl ?_
        refine hK21 _ ?_; clear hK21
        refine aw_block ?_
        have hP := all_t l1_1 (by omega)
        refine aw_loopK [1, 2, 7] (fun n ρ => ∃ i, n = tr.length - i ∧ (i ≤ tr.length) ∧ (rgTo (ndB tr) i) ∧ ρ = mkE O [(1, encTr tr), (2, .bx (eTable t)), (7, vi (i : Nat))]) _ ⟨0, rfl, ?_, ?_, ?_⟩ ?_
        · exact dfl
        · exact rgTo_0 _
        · simp (disch := omega) only [go_sem, seval] <;> first | rfl | omega | simp | simp_all
        rintro n ρ ⟨i, rfl, l2_0, l2_1, rfl⟩ K22 hK22
        refine aw_seq fun K23 hK23 => ?_
        refine aw_seq fun K24 hK24 => ?_
        refine aw_reg [1, 2, 7] (by kernel_rfl) ?_
        simp (disch := omega) only [go_sem, seval]
        repeat refine And.intro obl ?_
        refine hK24 _ ?_; clear hK24
        refine aw_cond _ (by rfl) (rfl) (fun c5 => ?_) (fun c5 => ?_)
        · try simp only [push_cast] at c5
          refine aw_skip ?_
          refine hK23 _ ?_; clear hK23
          refine aw_seq fun K25 hK25 => ?_
          refine aw_block ?_
          refine aw_seq fun K26 hK26 => ?_
          refine aw_regDc [1, 2, 7] [] mixed (by kernel_rfl) ?_
          simp (disch := omega) only [go_sem, seval]
          repeat refine And.intro obl ?_
          refine callD_to (ref48_Trip_ok _ t tr (trN tr i)) ?_ ?_
          · rfl
          simp (disch := omega) only [go_sem, seval]
          repeat refine And.intro obl ?_
          refine hK26 _ ?_; clear hK26
          refine aw_cond _ (by rfl) (rfl) (fun c6 => ?_) (fun c6 => ?_)
          · try simp only [push_cast] at c6
            refine aw_seq fun K27 hK27 => ?_
            refine aw_reg [] (by kernel_rfl) ?_
            simp (disch := omega) only [go_sem, seval]
            repeat refine And.intro obl ?_
            refine hK27 _ ?_; clear hK27
            refine aw_ret ?_
            refine ret_tmp 4 rfl (by simp (disch := omega) only [go_sem, seval]) ?_
            exact Exp.is (by simp (disch := omega) only [go_sem, seval] <;> (rw [chk4 (by omega) hA hP (rg_f c5 (Bool.eq_false_iff.2 fun h => c6 ((trip_eq c5).2 h)))])) rfl rfl
          · try simp only [push_cast] at c6
            refine aw_skip ?_
            refine hK25 _ ?_; clear hK25
            refine aw_reg [1, 2, 7] (by kernel_rfl) ?_
            simp (disch := omega) only [go_sem, seval]
            repeat refine And.intro obl ?_
            refine hK22 _ _ ?_ ⟨i + 1, rfl, ?_, ?_, ?_⟩
            · exact dfl
            · exact dfl
            · exact rgTo_s l2_1 ((trip_eq c5).1 c6)
            · simp (disch := omega) only [go_sem, seval] <;> first | rfl | omega | simp | simp_all
        · try simp only [push_cast] at c5
          refine aw_exit ?_
          refine hK20 _ ?_; clear hK20
          refine aw_seq fun K28 hK28 => ?_
          refine aw_seq fun K29 hK29 => ?_
          refine aw_reg [1, 2] (by kernel_rfl) ?_
          simp (disch := omega) only [go_sem, seval]
          repeat refine And.intro obl ?_
          refine hK29 _ ?_; clear hK29
          refine aw_block ?_
          have hD := rg_t l2_1 (n := tr.length) (by omega)
          refine aw_loopK [1, 2, 8] (fun n ρ => ∃ i, n = tr.length - i ∧ (i ≤ tr.length) ∧ (allTo (fwA t) tr i) ∧ ρ = mkE O [(1, encTr tr), (2, .bx (eTable t)), (8, vi (i : Nat))]) _ ⟨0, rfl, ?_, ?_, ?_⟩ ?_
          · exact dfl
          · exact allTo_0 _ _
          · simp (disch := omega) only [go_sem, seval] <;> first | rfl | omega | simp | simp_all
          rintro n ρ ⟨i, rfl, l3_0, l3_1, rfl⟩ K30 hK30
          refine aw_seq fun K31 hK31 => ?_
          refine aw_seq fun K32 hK32 => ?_
          refine aw_reg [1, 2, 8] (by kernel_rfl) ?_
          simp (disch := omega) only [go_sem, seval]
          repeat refine And.intro obl ?_
          refine hK32 _ ?_; clear hK32
          refine aw_cond _ (by rfl) (rfl) (fun c7 => ?_) (fun c7 => ?_)
          · try simp only [push_cast] at c7
            refine aw_skip ?_
            refine hK31 _ ?_; clear hK31
            refine aw_seq fun K33 hK33 => ?_
            refine aw_block ?_
            refine aw_seq fun K34 hK34 => ?_
            refine aw_reg [1, 2, 8] (by kernel_rfl) ?_
            simp (disch := omega) only [go_sem, seval]
            repeat refine And.intro obl ?_
            have hl := ln_at hA c7
            refine hK34 _ ?_; clear hK34
            refine aw_seq fun K35 hK35 => ?_
            refine aw_reg [1, 2, 8, 9, 74, 75, 76, 77] (by kernel_rfl) ?_
            simp (disch := omega) only [go_sem, seval]
            repeat refine And.intro obl ?_
            refine hK35 _ ?_; clear hK35
            refine aw_block ?_
            refine aw_loopK [1, 2, 8, 9, 10] (fun n ρ => ∃ j, n = (tr.getD i default).fStops.length - j ∧ (j + 1 ≤ (tr.getD i default).fStops.length) ∧ (rgTo (fwB t (tr.getD i default)) j) ∧ ρ = mkE O [(1, encTr tr), (2, .bx (eTable t)), (8, vi (i : Nat)), (9, encSp (tr.getD i default).fStops), (10, vi ((j + 1 : Nat) : Int))]) _ ⟨0, rfl, ?_, ?_, ?_⟩ ?_
            · exact dfl
            · exact rgTo_0 _
            · simp (disch := omega) only [go_sem, seval] <;> first | rfl | omega | simp | simp_all
            rintro n ρ ⟨j, rfl, l4_0, l4_1, rfl⟩ K36 hK36
            refine aw_seq fun K37 hK37 => ?_
            refine aw_seq fun K38 hK38 => ?_
            refine aw_reg [1, 2, 8, 9, 10, 74, 75, 76, 77] (by kernel_rfl) ?_
            simp (disch := omega) only [go_sem, seval]
            repeat refine And.intro obl ?_
            refine hK38 _ ?_; clear hK38
            refine aw_cond _ (by rfl) (rfl) (fun c8 => ?_) (fun c8 => ?_)
            · try simp only [push_cast] at c8
              refine aw_skip ?_
              refine hK37 _ ?_; clear hK37
              refine aw_seq fun K39 hK39 => ?_
              refine aw_block ?_
              refine aw_seq fun K40 hK40 => ?_
              have hj : j + 1 < (tr.getD i default).fStops.length := by omega
              have h1 := st_r (pl_at hP c7 (j := j) (by omega))
              have h2 := st_r (pl_at hP c7 hj)
              refine aw_regDc [1, 2, 8, 9, 10, 74, 75, 76, 77] [] mixed (by kernel_rfl) ?_
              simp (disch := omega) only [go_sem, seval]
              repeat refine And.intro obl ?_
              refine callD_to (ref15_Follows_ok _ (rtT t (spN (tr.getD i default) j)) (rtT t (spN (tr.getD i default) (j + 1)))) ?_ ?_
              · rfl
              simp (disch := omega) only [go_sem, seval]
              repeat refine And.intro obl ?_
              refine hK40 _ ?_; clear hK40
              refine aw_cond _ (by rfl) (rfl) (fun c9 => ?_) (fun c9 => ?_)
              · try simp only [push_cast] at c9
                refine aw_seq fun K41 hK41 => ?_
                refine aw_reg [] (by kernel_rfl) ?_
                simp (disch := omega) only [go_sem, seval]
                repeat refine And.intro obl ?_
                refine hK41 _ ?_; clear hK41
                refine aw_ret ?_
                refine ret_tmp 4 rfl (by simp (disch := omega) only [go_sem, seval]) ?_
                exact Exp.is (by simp (disch := omega) only [go_sem, seval] <;> (rw [chk5 (by omega) hA hP hD (all_f c7 (rg_f (i := j) (by omega) (by simpa [fwB] using c9)))])) rfl rfl
              · try simp only [push_cast] at c9
                refine aw_skip ?_
                refine hK39 _ ?_; clear hK39
                refine aw_reg [1, 2, 8, 9, 10, 74, 75, 76, 77] (by kernel_rfl) ?_
                simp (disch := omega) only [go_sem, seval]
                repeat refine And.intro obl ?_
                refine hK36 _ _ ?_ ⟨j + 1, rfl, ?_, ?_, ?_⟩
                · exact dfl
                · exact dfl
                · exact rgTo_s l4_1 (by simpa [fwB] using c9)
                · simp (disch := omega) only [go_sem, seval] <;> first | rfl | omega | simp | simp_all
            · try simp only [push_cast] at c8
              refine aw_exit ?_
              refine hK33 _ ?_; clear hK33
              refine aw_reg [1, 2, 8] (by kernel_rfl) ?_
              simp (disch := omega) only [go_sem, seval]
              repeat refine And.intro obl ?_
              refine hK30 _ _ ?_ ⟨i + 1, rfl, ?_, ?_, ?_⟩
              · exact dfl
              · exact dfl
              · exact allTo_s l3_1 (rg_t l4_1 (by omega))
              · simp (disch := omega) only [go_sem, seval] <;> first | rfl | omega | simp | simp_all
          · try simp only [push_cast] at c7
            refine aw_exit ?_
            refine hK28 _ ?_; clear hK28
            refine aw_seq fun K42 hK42 => ?_
            refine aw_seq fun K43 hK43 => ?_
            refine aw_reg [1] (by kernel_rfl) ?_
            simp (disch := omega) only [go_sem, seval]
            repeat refine And.intro obl ?_
            refine hK43 _ ?_; clear hK43
            refine aw_block ?_
            have hF := all_t l3_1 (by omega)
            refine aw_loopK [1, 11] (fun n ρ => ∃ i, n = tr.length - i ∧ (i ≤ tr.length) ∧ (allTo odA tr i) ∧ ρ = mkE O [(1, encTr tr), (11, vi (i : Nat))]) _ ⟨0, rfl, ?_, ?_, ?_⟩ ?_
            · exact dfl
            · exact allTo_0 _ _
            · simp (disch := omega) only [go_sem, seval] <;> first | rfl | omega | simp | simp_all
            rintro n ρ ⟨i, rfl, l5_0, l5_1, rfl⟩ K44 hK44
            refine aw_seq fun K45 hK45 => ?_
            refine aw_seq fun K46 hK46 => ?_
            refine aw_reg [1, 11] (by kernel_rfl) ?_
            simp (disch := omega) only [go_sem, seval]
            repeat refine And.intro obl ?_
            refine hK46 _ ?_; clear hK46
            refine aw_cond _ (by rfl) (rfl) (fun c10 => ?_) (fun c10 => ?_)
            · try simp only [push_cast] at c10
              refine aw_skip ?_
              refine hK45 _ ?_; clear hK45
              refine aw_seq fun K47 hK47 => ?_
              refine aw_block ?_
              refine aw_seq fun K48 hK48 => ?_
              refine aw_reg [1, 11] (by kernel_rfl) ?_
              simp (disch := omega) only [go_sem, seval]
              repeat refine And.intro obl ?_
              have hl := ln_at hA c10
              refine hK48 _ ?_; clear hK48
              refine aw_seq fun K49 hK49 => ?_
              refine aw_reg [1, 11, 12, 112, 113, 114, 115] (by kernel_rfl) ?_
              simp (disch := omega) only [go_sem, seval]
              repeat refine And.intro obl ?_
              refine hK49 _ ?_; clear hK49
              refine aw_block ?_
              refine aw_loopK [1, 11, 12, 13] (fun n ρ => ∃ j, n = (tr.getD i default).fStops.length - j ∧ (j + 1 ≤ (tr.getD i default).fStops.length) ∧ (rgTo (odB (tr.getD i default)) j) ∧ ρ = mkE O [(1, encTr tr), (11, vi (i : Nat)), (12, encSp (tr.getD i default).fStops), (13, vi ((j + 1 : Nat) : Int))]) _ ⟨0, rfl, ?_, ?_, ?_⟩ ?_
              · exact dfl
              · exact rgTo_0 _
              · simp (disch := omega) only [go_sem, seval] <;> first | rfl | omega | simp | simp_all
              rintro n ρ ⟨j, rfl, l6_0, l6_1, rfl⟩ K50 hK50
              refine aw_seq fun K51 hK51 => ?_
              refine aw_seq fun K52 hK52 => ?_
              refine aw_reg [1, 11, 12, 13, 112, 113, 114, 115] (by kernel_rfl) ?_
              simp (disch := omega) only [go_sem, seval]
              repeat refine And.intro obl ?_
              refine hK52 _ ?_; clear hK52
              refine aw_cond _ (by rfl) (rfl) (fun c11 => ?_) (fun c11 => ?_)
              · try simp only [push_cast] at c11
                refine aw_skip ?_
                refine hK51 _ ?_; clear hK51
                refine aw_seq fun K53 hK53 => ?_
                refine aw_block ?_
                refine aw_seq fun K54 hK54 => ?_
                refine aw_regDc [1, 11, 12, 13, 112, 113, 114, 115] [] mixed (by kernel_rfl) ?_
                simp (disch := omega) only [go_sem, seval]
                repeat refine And.intro obl ?_
                refine hK54 _ ?_; clear hK54
                refine aw_cond _ (by rfl) (rfl) (fun c12 => ?_) (fun c12 => ?_)
                · try simp only [push_cast] at c12
                  refine aw_seq fun K55 hK55 => ?_
                  refine aw_reg [] (by kernel_rfl) ?_
                  simp (disch := omega) only [go_sem, seval]
                  repeat refine And.intro obl ?_
                  refine hK55 _ ?_; clear hK55
                  refine aw_ret ?_
                  refine ret_tmp 4 rfl (by simp (disch := omega) only [go_sem, seval]) ?_
                  exact Exp.is (by simp (disch := omega) only [go_sem, seval] <;> (rw [chk6 (by omega) hA hP hD hF (all_f c10 (rg_f (i := j) (by omega) (decide_eq_false (Int.not_lt.2 c12))))])) rfl rfl
                · try simp only [push_cast] at c12
                  refine aw_skip ?_
                  refine hK53 _ ?_; clear hK53
                  refine aw_reg [1, 11, 12, 13, 112, 113, 114, 115] (by kernel_rfl) ?_
                  simp (disch := omega) only [go_sem, seval]
                  repeat refine And.intro obl ?_
                  refine hK50 _ _ ?_ ⟨j + 1, rfl, ?_, ?_, ?_⟩
                  · exact dfl
                  · exact dfl
                  · exact rgTo_s l6_1 (decide_eq_true c12)
                  · simp (disch := omega) only [go_sem, seval] <;> first | rfl | omega | simp | simp_all
              · try simp only [push_cast] at c11
                refine aw_exit ?_
                refine hK47 _ ?_; clear hK47
                refine aw_reg [1, 11] (by kernel_rfl) ?_
                simp (disch := omega) only [go_sem, seval]
                repeat refine And.intro obl ?_
                refine hK44 _ _ ?_ ⟨i + 1, rfl, ?_, ?_, ?_⟩
                · exact dfl
                · exact dfl
                · exact allTo_s l5_1 (rg_t l6_1 (by omega))
                · simp (disch := omega) only [go_sem, seval] <;> first | rfl | omega | simp | simp_all
            · try simp only [push_cast] at c10
              refine aw_exit ?_
              refine hK42 _ ?_; clear hK42
              refine aw_seq fun K56 hK56 => ?_
              refine aw_reg [] (by kernel_rfl) ?_
              simp (disch := omega) only [go_sem, seval]
              repeat refine And.intro obl ?_
              refine hK56 _ ?_; clear hK56
              refine aw_ret ?_
              refine ret_tmp 4 rfl (by simp (disch := omega) only [go_sem, seval]) ?_
              exact Exp.is (by simp (disch := omega) only [go_sem, seval] <;> (rw [chk7 (by omega) hA hP hD hF (all_t l5_1 (by omega))])) rfl rfl
end Go.Sg
