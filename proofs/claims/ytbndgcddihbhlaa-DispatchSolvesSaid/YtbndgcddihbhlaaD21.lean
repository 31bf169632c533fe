/- Contracts of DeleteFunc on fronts and of add. Printed by genw.py. -/
import Derived.Test.YtbndgcddihbhlaaSgB
import Derived.Test.YtbndgcddihbhlaaD20
import Derived.Test.YtbndgcddihbhlaaD16
set_option linter.unusedVariables false
set_option linter.unusedSimpArgs false
set_option maxRecDepth 8000
namespace Go.Sg
open Go.Proofs
set_option maxRecDepth 20000 in
set_option maxHeartbeats 8000000 in
theorem slices_DeleteFunc_draft_ok (O : Env) (tr : List Trip) (c : Cl) (d : Dr) (a : Pl) (ho : Ok tr) (hd : Bd d) (ha : Pk tr a) (l : List Dr) (hB : ∀ e ∈ l, Bd e) (hlen : l.length ≤ 1000000000000) (s : Nat) (hO : O s = .row 60 16 (l.map drL)) : ECall Try.prog O 54 [.own s l.length, .fn 55 [] [.dp [prV tr c], .dp (drL d), .dp (plL a)]] fun O' r => ∃ (m : Nat) (ys : List Dr), O' = set O s (.row 60 16 (ys.map drL)) ∧ ys.length = l.length ∧ m ≤ l.length ∧ ys.take m = l.filter (fun e => !cvB tr d e a) ∧ r = .own s m := by
  obtain ⟨O1, rfl⟩ : ∃ O1, O = set O1 s (.row 60 16 (l.map drL)) := ⟨O, by funext k; rw [set_apply]; split <;> simp_all⟩
  refine ecall_of_aw Try.func54 rfl (by kernel_rfl) ?_
  refine aw_seq fun K0 hK0 => ?_
  refine aw_reg [0, 1] (by kernel_rfl) ?_
  simp (disch := omega) only [go_sem, seval, row16, spl_dr, set_mapD, List.length_map, outer_set, set_set, hi_set', Nat.reduceBNe]
  repeat refine And.intro obl ?_
  refine hK0 _ ?_; clear hK0
  refine aw_seq fun K1 hK1 => ?_
  refine aw_reg [0, 1] (by kernel_rfl) ?_
  simp (disch := omega) only [go_sem, seval, row16, spl_dr, set_mapD, List.length_map, outer_set, set_set, hi_set', Nat.reduceBNe]
  repeat refine And.intro obl ?_
  refine callG_of _ (slices_IndexFunc_draft_ok _ tr c d a ho hd ha l hB hlen (s + 100000) (by simp (disch := omega) only [go_sem, seval, row16, spl_dr, set_mapD, List.length_map, outer_set, set_set, hi_set', Nat.reduceBNe])) ?_
  simp (disch := omega) only [go_sem, seval, row16, spl_dr, set_mapD, List.length_map, outer_set, set_set, hi_set', Nat.reduceBNe]
  repeat refine And.intro obl ?_
  refine hK1 _ ?_; clear hK1
  refine aw_seq fun K2 hK2 => ?_
  refine aw_seq fun K3 hK3 => ?_
  refine aw_reg [0, 1, 5] (by kernel_rfl) ?_
  simp (disch := omega) only [go_sem, seval, row16, spl_dr, set_mapD, List.length_map, outer_set, set_set, hi_set', Nat.reduceBNe]
  repeat refine And.intro obl ?_
  refine hK3 _ ?_; clear hK3
  refine aw_cond _ (by rfl) (rfl) (fun c0 => ?_) (fun c0 => ?_)
  · try simp only [push_cast] at c0
    refine aw_seq fun K4 hK4 => ?_
    refine aw_reg [0] (by kernel_rfl) ?_
    simp (disch := omega) only [go_sem, seval, row16, spl_dr, set_mapD, List.length_map, outer_set, set_set, hi_set', Nat.reduceBNe]
    repeat refine And.intro obl ?_
    refine hK4 _ ?_; clear hK4
    refine aw_ret ?_
    try simp only [thenQ_ret, blockQ_ret, blockQ_exit, blockQ_normal, thenQ_exit, thenQ_normal, ↓reduceIte]
    refine ret_rel (O' := set O1 s (.row 60 16 ((l).map drL))) (r := .own s (l.length)) (by first | exact .inl rfl | exact .inr rfl) 4 (by rfl) ?_ (fun q => row_fr O1 s (l := l) (m := l) ?_ q) (fun q h => row_out O1 s l (l) q h) ?_ ?_
    · simp (disch := omega) only [go_sem, seval, row16, spl_dr, set_mapD, List.length_map, outer_set, set_set, hi_set', Nat.reduceBNe]
    · rfl
    · refine Exp.pure _ ?_ ?_ rfl
      · simp (disch := omega) only [go_sem, seval, row16, spl_dr, set_mapD, List.length_map, outer_set, set_set, hi_set', Nat.reduceBNe]
      · simp (disch := omega) only [go_sem, seval, row16, spl_dr, set_mapD, List.length_map, outer_set, set_set, hi_set', Nat.reduceBNe]; exact RWk.refl _
    · exact ⟨l.length, l, by rw [set_set], by rfl, by omega, by rw [List.take_length, ixQ_none c0], rfl⟩
  · try simp only [push_cast] at c0
    obtain ⟨i0, hi0, hiq, hpi, hfi⟩ := ixQ_n c0
    rw [hiq]
    refine aw_skip ?_
    refine hK2 _ ?_; clear hK2
    refine aw_seq fun K5 hK5 => ?_
    refine aw_seq fun K6 hK6 => ?_
    refine aw_reg [0, 1, 5] (by kernel_rfl) ?_
    simp (disch := omega) only [go_sem, seval, row16, spl_dr, set_mapD, List.length_map, outer_set, set_set, hi_set', Nat.reduceBNe]
    repeat refine And.intro obl ?_
    refine hK6 _ ?_; clear hK6
    refine aw_block ?_
    refine aw_loopK [0, 1, 5, 6] (fun n ρ => ∃ i, ∃ j, ∃ ys, n = l.length - j ∧ (i < j) ∧ (j ≤ l.length) ∧ (ys.length = l.length) ∧ (ys.take i = (l.take j).filter (fun e => !cvB tr d e a)) ∧ (ys.drop j = l.drop j) ∧ ρ = mkE (set O1 s (.row 60 16 (ys.map drL))) [(0, .own (s + 100000) l.length), (1, .fn 55 [] [.dp [prV tr c], .dp (drL d), .dp (plL a)]), (5, vi (i : Nat)), (6, vi (j : Nat))]) _ ⟨i0, i0 + 1, l, rfl, ?_, ?_, ?_, ?_, ?_, ?_⟩ ?_
    · exact dfl
    · exact dfl
    · exact dfl
    · rw [takeS hi0, List.filter_append, hfi]; simp [hpi]
    · exact dfl
    · simp (disch := omega) only [go_sem, seval, row16, spl_dr, set_mapD, List.length_map, outer_set, set_set, hi_set', Nat.reduceBNe] <;> first | rfl | omega | simp | simp_all
    rintro n ρ ⟨i, j, ys, rfl, l0_0, l0_1, l0_2, l0_3, l0_4, rfl⟩ K7 hK7
    refine aw_seq fun K8 hK8 => ?_
    refine aw_seq fun K9 hK9 => ?_
    refine aw_reg [0, 1, 5, 6] (by kernel_rfl) ?_
    simp (disch := omega) only [go_sem, seval, row16, spl_dr, set_mapD, List.length_map, outer_set, set_set, hi_set', Nat.reduceBNe]
    repeat refine And.intro obl ?_
    refine hK9 _ ?_; clear hK9
    refine aw_cond _ (by rfl) (rfl) (fun c1 => ?_) (fun c1 => ?_)
    · try simp only [push_cast] at c1
      refine aw_skip ?_
      refine hK8 _ ?_; clear hK8
      refine aw_seq fun K10 hK10 => ?_
      refine aw_block ?_
      refine aw_seq fun K11 hK11 => ?_
      have hgj := drop_gD l0_4
      have hbd : Bd (gD ys j) := by rw [hgj]; exact hB _ (gD_mem c1)
      refine aw_reg [0, 1, 5, 6] (by kernel_rfl) ?_
      simp (disch := omega) only [go_sem, seval, row16, spl_dr, set_mapD, List.length_map, outer_set, set_set, hi_set', Nat.reduceBNe]
      repeat refine And.intro obl ?_
      refine hK11 _ ?_; clear hK11
      refine aw_seq fun K12 hK12 => ?_
      refine aw_reg [0, 1, 5, 6, 7] (by kernel_rfl) ?_
      simp (disch := omega) only [go_sem, seval, row16, spl_dr, set_mapD, List.length_map, outer_set, set_set, hi_set', Nat.reduceBNe]
      repeat refine And.intro obl ?_
      refine callG_of _ (dispatch_problem_add_1_ok _ tr c d (gD ys j) a ho hd hbd ha) ?_
      simp (disch := omega) only [go_sem, seval, row16, spl_dr, set_mapD, List.length_map, outer_set, set_set, hi_set', Nat.reduceBNe]
      repeat refine And.intro obl ?_
      refine hK12 _ ?_; clear hK12
      refine aw_cond _ (by rfl) (rfl) (fun c2 => ?_) (fun c2 => ?_)
      · try simp only [push_cast] at c2
        refine aw_seq fun K13 hK13 => ?_
        skip
        refine aw_reg [0, 1, 5, 6, 7] (by kernel_rfl) ?_
        simp (disch := omega) only [go_sem, seval, row16, spl_dr, set_mapD, List.length_map, outer_set, set_set, hi_set', Nat.reduceBNe]
        repeat refine And.intro obl ?_
        refine hK13 _ ?_; clear hK13
        refine aw_reg [0, 1, 5, 6] (by kernel_rfl) ?_
        simp (disch := omega) only [go_sem, seval, row16, spl_dr, set_mapD, List.length_map, outer_set, set_set, hi_set', Nat.reduceBNe]
        repeat refine And.intro obl ?_
        refine hK10 _ ?_; clear hK10
        refine aw_reg [0, 1, 5, 6] (by kernel_rfl) ?_
        simp (disch := omega) only [go_sem, seval, row16, spl_dr, set_mapD, List.length_map, outer_set, set_set, hi_set', Nat.reduceBNe]
        repeat refine And.intro obl ?_
        refine hK7 _ _ ?_ ⟨i + 1, j + 1, ys.set i (gD ys j), rfl, ?_, ?_, ?_, ?_, ?_, ?_⟩
        · exact dfl
        · exact dfl
        · exact dfl
        · simp; omega
        · (rw [hgj] at c2 ⊢; exact flt_k (by omega) (by omega) l0_3 c2)
        · (rw [List.drop_set_of_lt (by omega)]; exact drop_S l0_4)
        · simp (disch := omega) only [go_sem, seval, row16, spl_dr, set_mapD, List.length_map, outer_set, set_set, hi_set', Nat.reduceBNe] <;> first | rfl | omega | simp | simp_all
      · try simp only [push_cast] at c2
        refine aw_skip ?_
        refine hK10 _ ?_; clear hK10
        refine aw_reg [0, 1, 5, 6] (by kernel_rfl) ?_
        simp (disch := omega) only [go_sem, seval, row16, spl_dr, set_mapD, List.length_map, outer_set, set_set, hi_set', Nat.reduceBNe]
        repeat refine And.intro obl ?_
        refine hK7 _ _ ?_ ⟨i, j + 1, ys, rfl, ?_, ?_, ?_, ?_, ?_, ?_⟩
        · exact dfl
        · exact dfl
        · exact dfl
        · exact dfl
        · (rw [hgj] at c2; exact flt_s (by omega) l0_3 c2)
        · exact drop_S l0_4
        · simp (disch := omega) only [go_sem, seval, row16, spl_dr, set_mapD, List.length_map, outer_set, set_set, hi_set', Nat.reduceBNe] <;> first | rfl | omega | simp | simp_all
    · try simp only [push_cast] at c1
      refine aw_exit ?_
      refine hK5 _ ?_; clear hK5
      refine aw_seq fun K14 hK14 => ?_
      refine aw_clearTail (s := s + 100000) (n := l.length) (i := i) (e := 60) (z := 16) (by_ := 128) (zs := List.replicate 16 (.int .i64 0)) (xs := ys.map drL) (by rw [show decide (100000 ≤ s + 100000) = true from decide_eq_true (by omega)]; kernel_rfl) (by simp (disch := omega) only [go_sem, seval, row16, spl_dr, set_mapD, List.length_map, outer_set, set_set, hi_set', Nat.reduceBNe]) (by simp (disch := omega) only [go_sem, seval, row16, spl_dr, set_mapD, List.length_map, outer_set, set_set, hi_set', Nat.reduceBNe]) (by simp (disch := omega) only [go_sem, seval, row16, spl_dr, set_mapD, List.length_map, outer_set, set_set, hi_set', Nat.reduceBNe]) (by rw [List.length_map]; omega) (by omega) (by kernel_rfl) (by kernel_rfl) (by decide) rfl ?_
      rw [tail16]
      simp (disch := omega) only [go_sem, seval, row16, spl_dr, set_mapD, List.length_map, outer_set, set_set, hi_set', Nat.reduceBNe]
      repeat refine And.intro obl ?_
      refine hK14 _ ?_; clear hK14
      refine aw_seq fun K15 hK15 => ?_
      refine aw_reg [0, 5] (by kernel_rfl) ?_
      simp (disch := omega) only [go_sem, seval, row16, spl_dr, set_mapD, List.length_map, outer_set, set_set, hi_set', Nat.reduceBNe]
      repeat refine And.intro obl ?_
      refine hK15 _ ?_; clear hK15
      refine aw_ret ?_
      try simp only [thenQ_ret, blockQ_ret, blockQ_exit, blockQ_normal, thenQ_exit, thenQ_normal, ↓reduceIte]
      refine ret_rel (O' := set O1 s (.row 60 16 ((ys.take i ++ List.replicate (l.length - i) z0).map drL))) (r := .own s (i)) (by first | exact .inl rfl | exact .inr rfl) 4 (by rfl) ?_ (fun q => row_fr O1 s (l := l) (m := ys.take i ++ List.replicate (l.length - i) z0) ?_ q) (fun q h => row_out O1 s l (ys.take i ++ List.replicate (l.length - i) z0) q h) ?_ ?_
      · simp (disch := omega) only [go_sem, seval, row16, spl_dr, set_mapD, List.length_map, outer_set, set_set, hi_set', Nat.reduceBNe]
      · simp; omega
      · refine Exp.pure _ ?_ ?_ rfl
        · simp (disch := omega) only [go_sem, seval, row16, spl_dr, set_mapD, List.length_map, outer_set, set_set, hi_set', Nat.reduceBNe]
        · simp (disch := omega) only [go_sem, seval, row16, spl_dr, set_mapD, List.length_map, outer_set, set_set, hi_set', Nat.reduceBNe]; exact RWk.refl _
      · exact ⟨i, ys.take i ++ List.replicate (l.length - i) z0, by rw [set_set], by simp; omega, by omega, by rw [List.take_append_of_le_length (by simp; omega), List.take_take, Nat.min_self, l0_3, show j = l.length by omega, List.take_length], rfl⟩
set_option maxHeartbeats 8000000 in
theorem dispatch_problem_add_ok (O : Env) (tr : List Trip) (c : Cl) (d : Dr) (a : Pl) (ho : Ok tr) (hd : Bd d) (ha : Pk tr a) (l : List Dr) (hB : ∀ e ∈ l, Bd e) (hlen : l.length ≤ 1000000000000) : MCall Try.prog O 30 [prV tr c, .any, .agg (drL d), .agg (plL a)] 1 60 16 (l.map drL) (fun ys => ys = (addF tr l d a).map drL) := by
  refine mcall_of_aw (g := 90000) Try.func30 rfl (by kernel_rfl) rfl ?_
  refine aw_seq fun K0 hK0 => ?_
  refine aw_reg [0, 1, 2, 3, 90000] (by kernel_rfl) ?_
  simp (disch := omega) only [go_sem, seval, row16, spl_dr, set_mapD, List.length_map, outer_set, set_set, hi_set', Nat.reduceBNe]
  repeat refine And.intro obl ?_
  refine hK0 _ ?_; clear hK0
  refine aw_seq fun K1 hK1 => ?_
  refine aw_seq fun K2 hK2 => ?_
  refine aw_frzB 4 rfl rfl rfl ?_
  refine aw_frzB 6 rfl rfl (drL_k _ _) ?_
  refine aw_frzB 7 rfl rfl (plL_k _ _) ?_
  refine aw_reg [1, 4, 6, 7, 90000] (by kernel_rfl) ?_
  simp (disch := omega) only [go_sem, seval, row16, spl_dr, set_mapD, List.length_map, outer_set, set_set, hi_set', Nat.reduceBNe]
  repeat refine And.intro obl ?_
  refine hK2 _ ?_; clear hK2
  refine aw_block ?_
  refine aw_loopK [1, 4, 6, 7, 11, 12, 13, 90000] (fun n ρ => ∃ i, n = l.length - i ∧ (i ≤ l.length) ∧ (rgTo (fun j => !(fun e => cvB tr e d a) (gD l j)) i) ∧ ρ = mkE O [(1, .own 90000 l.length), (4, .dp [prV tr c]), (6, .dp (drL d)), (7, .dp (plL a)), (11, .own 90000 l.length), (12, vi (l.length : Nat)), (13, vi (i : Nat)), (90000, .row 60 16 (l.map drL))]) _ ⟨0, rfl, ?_, ?_, ?_⟩ ?_
  · exact dfl
  · exact rgTo_0 _
  · simp (disch := omega) only [go_sem, seval, row16, spl_dr, set_mapD, List.length_map, outer_set, set_set, hi_set', Nat.reduceBNe] <;> first | rfl | omega | simp | simp_all
  rintro n ρ ⟨i, rfl, l0_0, l0_1, rfl⟩ K3 hK3
  refine aw_seq fun K4 hK4 => ?_
  refine aw_reg [1, 4, 6, 7, 11, 12, 13, 90000] (by kernel_rfl) ?_
  simp (disch := omega) only [go_sem, seval, row16, spl_dr, set_mapD, List.length_map, outer_set, set_set, hi_set', Nat.reduceBNe]
  repeat refine And.intro obl ?_
  refine hK4 _ ?_; clear hK4
  refine aw_seq fun K5 hK5 => ?_
  refine aw_cond _ (by rfl) (rfl) (fun c0 => ?_) (fun c0 => ?_)
  · try simp only [push_cast] at c0
    refine aw_skip ?_
    refine hK5 _ ?_; clear hK5
    refine aw_seq fun K6 hK6 => ?_
    refine aw_block ?_
    refine aw_seq fun K7 hK7 => ?_
    refine aw_reg [1, 4, 6, 7, 11, 12, 13, 90000] (by kernel_rfl) ?_
    simp (disch := omega) only [go_sem, seval, row16, spl_dr, set_mapD, List.length_map, outer_set, set_set, hi_set', Nat.reduceBNe]
    repeat refine And.intro obl ?_
    refine hK7 _ ?_; clear hK7
    refine aw_seq fun K8 hK8 => ?_
    refine aw_reg [1, 4, 6, 7, 10, 11, 12, 13, 90000] (by kernel_rfl) ?_
    simp (disch := omega) only [go_sem, seval, row16, spl_dr, set_mapD, List.length_map, outer_set, set_set, hi_set', Nat.reduceBNe]
    repeat refine And.intro obl ?_
    refine callG_of _ (dispatch_problem_covers_ok _ tr c (gD l i) d a ho (hB _ (gD_mem c0)) hd ha) ?_
    simp (disch := omega) only [go_sem, seval, row16, spl_dr, set_mapD, List.length_map, outer_set, set_set, hi_set', Nat.reduceBNe]
    repeat refine And.intro obl ?_
    refine hK8 _ ?_; clear hK8
    refine aw_cond _ (by rfl) (rfl) (fun c1 => ?_) (fun c1 => ?_)
    · try simp only [push_cast] at c1
      refine aw_seq fun K9 hK9 => ?_
      refine aw_reg [1, 90000] (by kernel_rfl) ?_
      simp (disch := omega) only [go_sem, seval, row16, spl_dr, set_mapD, List.length_map, outer_set, set_set, hi_set', Nat.reduceBNe]
      repeat refine And.intro obl ?_
      refine hK9 _ ?_; clear hK9
      refine aw_ret ?_
      try simp only [thenQ_ret, blockQ_ret]
      refine mret (.inl rfl) 8 (l.map drL) (by rfl) (by kernel_rfl) ?_ (.inr ⟨90000, l.length, l.map drL, ?_, by omega, ?_, by simp, by rw [List.take_of_length_le (by simp)]⟩) ?_
      · simp (disch := omega) only [go_sem, seval, row16, spl_dr, set_mapD, List.length_map, outer_set, set_set, hi_set', Nat.reduceBNe]
      · simp (disch := omega) only [go_sem, seval, row16, spl_dr, set_mapD, List.length_map, outer_set, set_set, hi_set', Nat.reduceBNe]
      · simp (disch := omega) only [go_sem, seval, row16, spl_dr, set_mapD, List.length_map, outer_set, set_set, hi_set', Nat.reduceBNe]
      · rw [addF, if_pos (List.any_eq_true.2 ⟨gD l i, gD_mem c0, c1⟩)]
    · try simp only [push_cast] at c1
      refine aw_skip ?_
      refine hK6 _ ?_; clear hK6
      refine aw_reg [1, 4, 6, 7, 11, 12, 13, 90000] (by kernel_rfl) ?_
      simp (disch := omega) only [go_sem, seval, row16, spl_dr, set_mapD, List.length_map, outer_set, set_set, hi_set', Nat.reduceBNe]
      repeat refine And.intro obl ?_
      refine hK3 _ _ ?_ ⟨i + 1, rfl, ?_, ?_, ?_⟩
      · exact dfl
      · exact dfl
      · exact rgTo_s l0_1 (by simp [c1])
      · simp (disch := omega) only [go_sem, seval, row16, spl_dr, set_mapD, List.length_map, outer_set, set_set, hi_set', Nat.reduceBNe] <;> first | rfl | omega | simp | simp_all
  · try simp only [push_cast] at c0
    refine aw_exit ?_
    refine hK1 _ ?_; clear hK1
    refine aw_seq fun K10 hK10 => ?_
    refine aw_reg [1, 4, 6, 7, 90000] (by kernel_rfl) ?_
    simp (disch := omega) only [go_sem, seval, row16, spl_dr, set_mapD, List.length_map, outer_set, set_set, hi_set', Nat.reduceBNe]
    repeat refine And.intro obl ?_
    refine callG_exR (slices_DeleteFunc_draft_ok _ tr c d a ho hd ha l hB hlen 90000 (by simp (disch := omega) only [go_sem, seval, row16, spl_dr, set_mapD, List.length_map, outer_set, set_set, hi_set', Nat.reduceBNe])) ?_
    rintro O2 r2 ⟨m, ys, rfl, q1, q2, q3, rfl⟩
    simp (disch := omega) only [go_sem, seval, row16, spl_dr, set_mapD, List.length_map, outer_set, set_set, hi_set', Nat.reduceBNe]
    repeat refine And.intro obl ?_
    refine hK10 _ ?_; clear hK10
    refine aw_seq fun K11 hK11 => ?_
    refine aw_reg [1, 6, 90000] (by kernel_rfl) ?_
    simp (disch := omega) only [go_sem, seval, row16, spl_dr, set_mapD, List.length_map, outer_set, set_set, hi_set', Nat.reduceBNe]
    repeat refine And.intro obl ?_
    refine hK11 _ ?_; clear hK11
    refine aw_ret ?_
    refine mret (.inl rfl) 8 (List.take m (List.map drL ys) ++ [drL d]) (by rfl) (by kernel_rfl) ?_ (.inl ?_) ?_
    · simp (disch := omega) only [go_sem, seval, row16, spl_dr, set_mapD, List.length_map, outer_set, set_set, hi_set', Nat.reduceBNe]
    · simp (disch := omega) only [go_sem, seval, row16, spl_dr, set_mapD, List.length_map, outer_set, set_set, hi_set', Nat.reduceBNe]
    · rw [addF, if_neg (by rw [rg_any (p := fun e => cvB tr e d a) (by rw [show l.length = i by omega]; exact l0_1)]; simp), List.map_append, ← q3, List.map_take]; rfl
end Go.Sg
