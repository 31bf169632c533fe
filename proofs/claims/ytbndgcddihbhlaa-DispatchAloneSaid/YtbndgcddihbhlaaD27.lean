/- The law DispatchAlone. Printed by genw.py. -/
import Derived.Test.YtbndgcddihbhlaaSgB
import Derived.Test.YtbndgcddihbhlaaEx
set_option linter.unusedVariables false
set_option linter.unusedSimpArgs false
set_option maxRecDepth 20000
namespace Go.Sg
open Go.Proofs
def NC (t : Table) (tr : List Trip) (i k j m : Nat) : Prop := ∀ a b c d, (a < i ∨ (a = i ∧ (b < k ∨ (b = k ∧ (c < j ∨ (c = j ∧ d < m)))))) → a < tr.length → b < a → c < (tr.getD a default).fStops.length → d < (tr.getD b default).fStops.length → clB t (spN (tr.getD a default) c) (spN (tr.getD b default) d) = false
section
variable {t : Table} {tr : List Trip} {i k j m : Nat}
theorem nc_0 : NC t tr 0 0 0 0 := fun a b c d h => by omega
theorem nc_m (h : NC t tr i k j m) (hc : clB t (spN (tr.getD i default) j) (spN (tr.getD k default) m) = false) : NC t tr i k j (m + 1) := fun a b c d h1 h2 h3 h4 h5 => by
  by_cases e : a = i ∧ b = k ∧ c = j ∧ d = m
  · obtain ⟨rfl, rfl, rfl, rfl⟩ := e; exact hc
  · exact h a b c d (by omega) h2 h3 h4 h5
theorem nc_j (h : NC t tr i k j m) (hm : (tr.getD k default).fStops.length ≤ m) : NC t tr i k (j + 1) 0 := fun a b c d h1 h2 h3 h4 h5 => by
  by_cases e : a = i ∧ b = k ∧ c = j
  · obtain ⟨rfl, rfl, rfl⟩ := e; exact h a b c d (by omega) h2 h3 h4 h5
  · exact h a b c d (by omega) h2 h3 h4 h5
theorem nc_k (h : NC t tr i k j 0) (hj : (tr.getD i default).fStops.length ≤ j) : NC t tr i (k + 1) 0 0 := fun a b c d h1 h2 h3 h4 h5 => by
  by_cases e : a = i ∧ b = k
  · obtain ⟨rfl, rfl⟩ := e; exact h a b c d (by omega) h2 h3 h4 h5
  · exact h a b c d (by omega) h2 h3 h4 h5
theorem nc_i (h : NC t tr i k 0 0) (hk : i ≤ k) : NC t tr (i + 1) 0 0 0 := fun a b c d h1 h2 h3 h4 h5 => by
  by_cases e : a = i
  · subst e; exact h a b c d (by omega) h2 h3 h4 h5
  · exact h a b c d (by omega) h2 h3 h4 h5
theorem nc_all (h : NC t tr i 0 0 0) (hi : tr.length ≤ i) : ∀ x y z u, csF t tr x y z u = false := fun x y z u => by
  unfold csF
  split
  · rename_i g
    rcases Nat.lt_or_gt_of_ne g.2.2.1 with e | e
    · rw [cl_symm]; exact h z x u y (by omega) g.2.1 e g.2.2.2.2 g.2.2.2.1
    · exact h x z y u (by omega) g.1 e g.2.2.2.1 g.2.2.2.2
  · rfl
end
def rdN (tr : List Trip) (i : Nat) : Nat → Int
  | 0 => 0
  | j + 1 => bgR tr i j + ruN tr i j
theorem rd_bg {tr : List Trip} (ho : Ok tr) {i j : Nat} (hi : i < tr.length) (hj : j < (tr.getD i default).fStops.length) : max (rdN tr i j) ((tr.getD i default).fStops.getD j default).fDue = bgR tr i j := by
  cases j with
  | zero =>
    have := (ho.s i 0 hi hj).1
    show max 0 _ = duN tr i 0
    unfold duN
    omega
  | succ j =>
    show max (bgR tr i j + ruN tr i j) (duN tr i (j + 1)) = max (duN tr i (j + 1)) (bgR tr i j + ruN tr i j)
    omega
theorem sc_bg {tr : List Trip} {i j : Nat} (hi : i < tr.length) (hj : j < (tr.getD i default).fStops.length) : ((scD tr (bgD tr)).fStarts.getD i default).getD j default = bgR tr i j := by
  rw [sc_row hi, ro_at hj]
  unfold bgD; rw [if_pos ⟨hi, hj⟩]
set_option maxHeartbeats 16000000 in
theorem law49_DispatchAlone_ok (O : Env) (t : Table) (tr : List Trip) (hk : okTable t) (hq : ∀ x ∈ tr, okTrip x) : PCall Try.prog O 6 [.agg (eTable t), encTr tr] (vb true) := by
  refine pcall_of_aw Try.func6 rfl (by kernel_rfl) ?_
  refine aw_seq fun K0 hK0 => ?_
  refine aw_reg [0, 1] (by kernel_rfl) ?_
  simp (disch := omega) only [go_sem, seval, sc_len]
  repeat refine And.intro obl ?_
  refine hK0 _ ?_; clear hK0
  refine aw_seq fun K1 hK1 => ?_
  refine aw_seq fun K2 hK2 => ?_
  refine aw_reg [1, 2] (by kernel_rfl) ?_
  simp (disch := omega) only [go_sem, seval, sc_len]
  repeat refine And.intro obl ?_
  refine callG_of _ (law49_small_ok _ t tr 9 hk hq (by decide)) ?_
  simp (disch := omega) only [go_sem, seval, sc_len]
  repeat refine And.intro obl ?_
  refine hK2 _ ?_; clear hK2
  refine aw_cond _ (by rfl) (rfl) (fun c0 => ?_) (fun c0 => ?_)
  · try simp only [push_cast] at c0
    refine aw_seq fun K3 hK3 => ?_
    refine aw_reg [] (by kernel_rfl) ?_
    simp (disch := omega) only [go_sem, seval, sc_len]
    repeat refine And.intro obl ?_
    refine callG_of _ (alive2_ok _) ?_
    simp (disch := omega) only [go_sem, seval, sc_len]
    repeat refine And.intro obl ?_
    refine hK3 _ ?_; clear hK3
    refine aw_ret ?_
    refine ret_tmp 4 rfl (by simp (disch := omega) only [go_sem, seval, sc_len]) ?_
    exact Exp.is (by simp (disch := omega) only [go_sem, seval, sc_len] <;> refine congrArg vb ?_ <;> (exact dfl)) rfl rfl
  · try simp only [push_cast] at c0
    have hs := (sm_of c0).1
    refine aw_skip ?_
    refine hK1 _ ?_; clear hK1
    refine aw_seq fun K4 hK4 => ?_
    refine aw_reg [1, 2] (by kernel_rfl) ?_
    simp (disch := omega) only [go_sem, seval, sc_len]
    repeat refine And.intro obl ?_
    refine callG_exR (solve_ex _ t tr hs) ?_
    rintro O2 r2 ⟨rfl, sc, er, rfl, hS⟩
    simp (disch := omega) only [go_sem, seval, sc_len]
    repeat refine And.intro obl ?_
    refine hK4 _ ?_; clear hK4
    refine aw_seq fun K5 hK5 => ?_
    refine aw_seq fun K6 hK6 => ?_
    refine aw_reg [1, 2, 5, 6] (by kernel_rfl) ?_
    simp (disch := omega) only [go_sem, seval, sc_len]
    repeat refine And.intro obl ?_
    refine hK6 _ ?_; clear hK6
    refine aw_cond _ (by rfl) (rfl) (fun c1 => ?_) (fun c1 => ?_)
    · try simp only [push_cast] at c1
      refine aw_seq fun K7 hK7 => ?_
      refine aw_reg [] (by kernel_rfl) ?_
      simp (disch := omega) only [go_sem, seval, sc_len]
      repeat refine And.intro obl ?_
      refine callG_of _ (alive2_ok _) ?_
      simp (disch := omega) only [go_sem, seval, sc_len]
      repeat refine And.intro obl ?_
      refine hK7 _ ?_; clear hK7
      refine aw_ret ?_
      refine ret_tmp 4 rfl (by simp (disch := omega) only [go_sem, seval, sc_len]) ?_
      exact Exp.is (by simp (disch := omega) only [go_sem, seval, sc_len] <;> refine congrArg vb ?_ <;> (exact dfl)) rfl rfl
    · try simp only [push_cast] at c1
      obtain ⟨hc0, best, hfull, hmin, rfl⟩ := solS_0 hS (by simpa using c1)
      have ho := ok_chk hc0
      have hn := ho.n
      have hk0 := chk0 hc0
      refine aw_skip ?_
      refine hK5 _ ?_; clear hK5
      refine aw_seq fun K8 hK8 => ?_
      refine aw_seq fun K9 hK9 => ?_
      refine aw_reg [1, 2, 5] (by kernel_rfl) ?_
      simp (disch := omega) only [go_sem, seval, sc_len]
      repeat refine And.intro obl ?_
      refine hK9 _ ?_; clear hK9
      refine aw_cond _ (by rfl) (rfl) (fun c2 => ?_) (fun c2 => ?_)
      · try simp only [push_cast] at c2
        first | exact (c2 : False).elim | exact absurd rfl c2 | exact absurd trivial c2 | (exact absurd (sc_len tr best) c2)
      · try simp only [push_cast] at c2
        refine aw_skip ?_
        refine hK8 _ ?_; clear hK8
        refine aw_seq fun K10 hK10 => ?_
        refine aw_seq fun K11 hK11 => ?_
        refine aw_reg [1, 2, 5] (by kernel_rfl) ?_
        simp (disch := omega) only [go_sem, seval, sc_len]
        repeat refine And.intro obl ?_
        refine hK11 _ ?_; clear hK11
        refine aw_block ?_
        refine aw_loopK [1, 2, 5, 40, 41, 42] (fun n ρ => ∃ i, n = tr.length - i ∧ (i ≤ tr.length) ∧ (NC t tr i 0 0 0) ∧ ρ = mkE O [(1, encTr tr), (2, .bx (eTable t)), (5, .bx (eSchedule (scD tr best))), (40, encTr tr), (41, vi (tr.length : Nat)), (42, vi (i : Nat))]) _ ⟨0, rfl, ?_, ?_, ?_⟩ ?_
        · exact dfl
        · exact nc_0
        · simp (disch := omega) only [go_sem, seval, sc_len] <;> first | rfl | omega | simp | simp_all
        rintro n ρ ⟨i, rfl, l0_0, l0_1, rfl⟩ K12 hK12
        refine aw_seq fun K13 hK13 => ?_
        refine aw_reg [1, 2, 5, 40, 41, 42] (by kernel_rfl) ?_
        simp (disch := omega) only [go_sem, seval, sc_len]
        repeat refine And.intro obl ?_
        refine hK13 _ ?_; clear hK13
        refine aw_seq fun K14 hK14 => ?_
        refine aw_cond _ (by rfl) (rfl) (fun c3 => ?_) (fun c3 => ?_)
        · try simp only [push_cast] at c3
          refine aw_skip ?_
          refine hK14 _ ?_; clear hK14
          refine aw_seq fun K15 hK15 => ?_
          refine aw_block ?_
          refine aw_seq fun K16 hK16 => ?_
          refine aw_reg [1, 2, 5, 40, 41, 42] (by kernel_rfl) ?_
          simp (disch := omega) only [go_sem, seval, sc_len]
          repeat refine And.intro obl ?_
          refine hK16 _ ?_; clear hK16
          refine aw_seq fun K17 hK17 => ?_
          have hli := ho.l i (by assumption)
          refine aw_reg [1, 2, 5, 7, 8, 40, 41, 42] (by kernel_rfl) ?_
          simp (disch := omega) only [go_sem, seval, sc_len]
          repeat refine And.intro obl ?_
          refine hK17 _ ?_; clear hK17
          refine aw_block ?_
          refine aw_loopK [1, 2, 5, 40, 41, 42, 8, 49, 50, 51] (fun n ρ => ∃ k, n = i - k ∧ (k ≤ i) ∧ (NC t tr i k 0 0) ∧ ρ = mkE O [(1, encTr tr), (2, .bx (eTable t)), (5, .bx (eSchedule (scD tr best))), (40, encTr tr), (41, vi (tr.length : Nat)), (42, vi (i : Nat)), (8, .bx (eTrip (tr.getD i default))), (49, .sl 2 i fun q => eTrip (tr.getD q default)), (50, vi (i : Nat)), (51, vi (k : Nat))]) _ ⟨0, rfl, ?_, ?_, ?_⟩ ?_
          · exact dfl
          · exact l0_1
          · simp (disch := omega) only [go_sem, seval, sc_len] <;> first | rfl | omega | simp | simp_all
          rintro n ρ ⟨k, rfl, l1_0, l1_1, rfl⟩ K18 hK18
          refine aw_seq fun K19 hK19 => ?_
          refine aw_reg [1, 2, 5, 8, 40, 41, 42, 47, 48, 49, 50, 51] (by kernel_rfl) ?_
          simp (disch := omega) only [go_sem, seval, sc_len]
          repeat refine And.intro obl ?_
          refine hK19 _ ?_; clear hK19
          refine aw_seq fun K20 hK20 => ?_
          refine aw_cond _ (by rfl) (rfl) (fun c4 => ?_) (fun c4 => ?_)
          · try simp only [push_cast] at c4
            refine aw_skip ?_
            refine hK20 _ ?_; clear hK20
            refine aw_seq fun K21 hK21 => ?_
            refine aw_block ?_
            refine aw_seq fun K22 hK22 => ?_
            refine aw_reg [1, 2, 5, 8, 40, 41, 42, 47, 48, 49, 50, 51] (by kernel_rfl) ?_
            simp (disch := omega) only [go_sem, seval, sc_len]
            repeat refine And.intro obl ?_
            refine hK22 _ ?_; clear hK22
            refine aw_seq fun K23 hK23 => ?_
            have hlk := ho.l k (by omega)
            refine aw_reg [1, 2, 5, 8, 10, 40, 41, 42, 47, 48, 49, 50, 51] (by kernel_rfl) ?_
            simp (disch := omega) only [go_sem, seval, sc_len]
            repeat refine And.intro obl ?_
            refine hK23 _ ?_; clear hK23
            refine aw_block ?_
            refine aw_loopK [1, 2, 5, 40, 41, 42, 8, 49, 50, 51, 10, 56, 57, 58] (fun n ρ => ∃ j, n = (tr.getD i default).fStops.length - j ∧ (j ≤ (tr.getD i default).fStops.length) ∧ (NC t tr i k j 0) ∧ ρ = mkE O [(1, encTr tr), (2, .bx (eTable t)), (5, .bx (eSchedule (scD tr best))), (40, encTr tr), (41, vi (tr.length : Nat)), (42, vi (i : Nat)), (8, .bx (eTrip (tr.getD i default))), (49, .sl 2 i fun q => eTrip (tr.getD q default)), (50, vi (i : Nat)), (51, vi (k : Nat)), (10, .bx (eTrip (tr.getD k default))), (56, encSp (tr.getD i default).fStops), (57, vi ((tr.getD i default).fStops.length : Nat)), (58, vi (j : Nat))]) _ ⟨0, rfl, ?_, ?_, ?_⟩ ?_
            · exact dfl
            · exact l1_1
            · simp (disch := omega) only [go_sem, seval, sc_len] <;> first | rfl | omega | simp | simp_all
            rintro n ρ ⟨j, rfl, l2_0, l2_1, rfl⟩ K24 hK24
            refine aw_seq fun K25 hK25 => ?_
            refine aw_reg [1, 2, 5, 8, 10, 40, 41, 42, 47, 48, 49, 50, 51, 55, 56, 57, 58] (by kernel_rfl) ?_
            simp (disch := omega) only [go_sem, seval, sc_len]
            repeat refine And.intro obl ?_
            refine hK25 _ ?_; clear hK25
            refine aw_seq fun K26 hK26 => ?_
            refine aw_cond _ (by rfl) (rfl) (fun c5 => ?_) (fun c5 => ?_)
            · try simp only [push_cast] at c5
              refine aw_skip ?_
              refine hK26 _ ?_; clear hK26
              refine aw_seq fun K27 hK27 => ?_
              refine aw_block ?_
              refine aw_seq fun K28 hK28 => ?_
              refine aw_reg [1, 2, 5, 8, 10, 40, 41, 42, 47, 48, 49, 50, 51, 55, 56, 57, 58] (by kernel_rfl) ?_
              simp (disch := omega) only [go_sem, seval, sc_len]
              repeat refine And.intro obl ?_
              refine hK28 _ ?_; clear hK28
              refine aw_seq fun K29 hK29 => ?_
              refine aw_reg [1, 2, 5, 8, 10, 12, 40, 41, 42, 47, 48, 49, 50, 51, 55, 56, 57, 58] (by kernel_rfl) ?_
              simp (disch := omega) only [go_sem, seval, sc_len]
              repeat refine And.intro obl ?_
              refine hK29 _ ?_; clear hK29
              refine aw_block ?_
              refine aw_loopK [1, 2, 5, 40, 41, 42, 8, 49, 50, 51, 10, 56, 57, 58, 12, 63, 64, 65] (fun n ρ => ∃ m, n = (tr.getD k default).fStops.length - m ∧ (m ≤ (tr.getD k default).fStops.length) ∧ (NC t tr i k j m) ∧ ρ = mkE O [(1, encTr tr), (2, .bx (eTable t)), (5, .bx (eSchedule (scD tr best))), (40, encTr tr), (41, vi (tr.length : Nat)), (42, vi (i : Nat)), (8, .bx (eTrip (tr.getD i default))), (49, .sl 2 i fun q => eTrip (tr.getD q default)), (50, vi (i : Nat)), (51, vi (k : Nat)), (10, .bx (eTrip (tr.getD k default))), (56, encSp (tr.getD i default).fStops), (57, vi ((tr.getD i default).fStops.length : Nat)), (58, vi (j : Nat)), (12, .bx (eStop ((tr.getD i default).fStops.getD j default))), (63, encSp (tr.getD k default).fStops), (64, vi ((tr.getD k default).fStops.length : Nat)), (65, vi (m : Nat))]) _ ⟨0, rfl, ?_, ?_, ?_⟩ ?_
              · exact dfl
              · exact l2_1
              · simp (disch := omega) only [go_sem, seval, sc_len] <;> first | rfl | omega | simp | simp_all
              rintro n ρ ⟨m, rfl, l3_0, l3_1, rfl⟩ K30 hK30
              refine aw_seq fun K31 hK31 => ?_
              refine aw_reg [1, 2, 5, 8, 10, 12, 40, 41, 42, 47, 48, 49, 50, 51, 55, 56, 57, 58, 62, 63, 64, 65] (by kernel_rfl) ?_
              simp (disch := omega) only [go_sem, seval, sc_len]
              repeat refine And.intro obl ?_
              refine hK31 _ ?_; clear hK31
              refine aw_seq fun K32 hK32 => ?_
              refine aw_cond _ (by rfl) (rfl) (fun c6 => ?_) (fun c6 => ?_)
              · try simp only [push_cast] at c6
                refine aw_skip ?_
                refine hK32 _ ?_; clear hK32
                refine aw_seq fun K33 hK33 => ?_
                refine aw_block ?_
                refine aw_seq fun K34 hK34 => ?_
                refine aw_reg [1, 2, 5, 8, 10, 12, 40, 41, 42, 47, 48, 49, 50, 51, 55, 56, 57, 58, 62, 63, 64, 65] (by kernel_rfl) ?_
                simp (disch := omega) only [go_sem, seval, sc_len]
                repeat refine And.intro obl ?_
                refine hK34 _ ?_; clear hK34
                refine aw_seq fun K35 hK35 => ?_
                have h1 := st_r (pl_at hk0.2.2.1 (i := i) (j := j) (by assumption) (by assumption))
                have h2 := st_r (pl_at hk0.2.2.1 (i := k) (j := m) (by omega) (by assumption))
                refine aw_regDc [1, 2, 5, 8, 10, 12, 14, 40, 41, 42, 47, 48, 49, 50, 51, 55, 56, 57, 58, 62, 63, 64, 65] [] mixed (by kernel_rfl) ?_
                simp (disch := omega) only [go_sem, seval, sc_len]
                repeat refine And.intro obl ?_
                refine callC_to (fun g0 => conflict_Between_ok _ (rtT t ((tr.getD i default).fStops.getD j default)) (rtT t ((tr.getD k default).fStops.getD m default)) (hs _ (getD_mem h1.2)) (hs _ (getD_mem h2.2))) ?_ ?_ ?_
                · first | exact fun _ => trivial | simp
                · rfl
                simp (disch := omega) only [go_sem, seval, sc_len]
                repeat refine And.intro obl ?_
                refine hK35 _ ?_; clear hK35
                refine aw_cond _ (by rfl) (rfl) (fun c7 => ?_) (fun c7 => ?_)
                · try simp only [push_cast] at c7
                  refine aw_seq fun K36 hK36 => ?_
                  refine aw_reg [] (by kernel_rfl) ?_
                  simp (disch := omega) only [go_sem, seval, sc_len]
                  repeat refine And.intro obl ?_
                  refine callG_of _ (alive2_ok _) ?_
                  simp (disch := omega) only [go_sem, seval, sc_len]
                  repeat refine And.intro obl ?_
                  refine hK36 _ ?_; clear hK36
                  refine aw_ret ?_
                  refine ret_tmp 4 rfl (by simp (disch := omega) only [go_sem, seval, sc_len]) ?_
                  exact Exp.is (by simp (disch := omega) only [go_sem, seval, sc_len] <;> refine congrArg vb ?_ <;> (exact dfl)) rfl rfl
                · try simp only [push_cast] at c7
                  refine aw_skip ?_
                  refine hK33 _ ?_; clear hK33
                  refine aw_reg [1, 2, 5, 8, 10, 12, 40, 41, 42, 47, 48, 49, 50, 51, 55, 56, 57, 58, 62, 63, 64, 65] (by kernel_rfl) ?_
                  simp (disch := omega) only [go_sem, seval, sc_len]
                  repeat refine And.intro obl ?_
                  refine hK30 _ _ ?_ ⟨m + 1, rfl, ?_, ?_, ?_⟩
                  · exact dfl
                  · exact dfl
                  · (exact nc_m l3_1 (by have h7 := c7.2; unfold clB spN; simpa using h7))
                  · simp (disch := omega) only [go_sem, seval, sc_len] <;> first | rfl | omega | simp | simp_all
              · try simp only [push_cast] at c6
                refine aw_exit ?_
                refine hK27 _ ?_; clear hK27
                refine aw_reg [1, 2, 5, 8, 10, 40, 41, 42, 47, 48, 49, 50, 51, 55, 56, 57, 58] (by kernel_rfl) ?_
                simp (disch := omega) only [go_sem, seval, sc_len]
                repeat refine And.intro obl ?_
                refine hK24 _ _ ?_ ⟨j + 1, rfl, ?_, ?_, ?_⟩
                · exact dfl
                · exact dfl
                · exact nc_j l3_1 (by omega)
                · simp (disch := omega) only [go_sem, seval, sc_len] <;> first | rfl | omega | simp | simp_all
            · try simp only [push_cast] at c5
              refine aw_exit ?_
              refine hK21 _ ?_; clear hK21
              refine aw_reg [1, 2, 5, 8, 40, 41, 42, 47, 48, 49, 50, 51] (by kernel_rfl) ?_
              simp (disch := omega) only [go_sem, seval, sc_len]
              repeat refine And.intro obl ?_
              refine hK18 _ _ ?_ ⟨k + 1, rfl, ?_, ?_, ?_⟩
              · exact dfl
              · exact dfl
              · exact nc_k l2_1 (by omega)
              · simp (disch := omega) only [go_sem, seval, sc_len] <;> first | rfl | omega | simp | simp_all
          · try simp only [push_cast] at c4
            refine aw_exit ?_
            refine hK15 _ ?_; clear hK15
            refine aw_reg [1, 2, 5, 40, 41, 42] (by kernel_rfl) ?_
            simp (disch := omega) only [go_sem, seval, sc_len]
            repeat refine And.intro obl ?_
            refine hK12 _ _ ?_ ⟨i + 1, rfl, ?_, ?_, ?_⟩
            · exact dfl
            · exact dfl
            · exact nc_i l1_1 (by omega)
            · simp (disch := omega) only [go_sem, seval, sc_len] <;> first | rfl | omega | simp | simp_all
        · try simp only [push_cast] at c3
          refine aw_exit ?_
          refine hK10 _ ?_; clear hK10
          refine aw_seq fun K37 hK37 => ?_
          refine aw_seq fun K38 hK38 => ?_
          refine aw_reg [1, 5] (by kernel_rfl) ?_
          simp (disch := omega) only [go_sem, seval, sc_len]
          repeat refine And.intro obl ?_
          refine hK38 _ ?_; clear hK38
          refine aw_block ?_
          have hb : best = bgD tr := Rch.free (nc_all l0_1 (by omega)) hfull
          subst hb
          refine aw_loopK [1, 5, 114, 115, 116] (fun n ρ => ∃ i, n = tr.length - i ∧ (i ≤ tr.length) ∧ ρ = mkE O [(1, encTr tr), (5, .bx (eSchedule (scD tr (bgD tr)))), (114, encTr tr), (115, vi (tr.length : Nat)), (116, vi (i : Nat))]) _ ⟨0, rfl, ?_, ?_⟩ ?_
          · exact dfl
          · simp (disch := omega) only [go_sem, seval, sc_len] <;> first | rfl | omega | simp | simp_all
          rintro n ρ ⟨i, rfl, l4_0, rfl⟩ K39 hK39
          refine aw_seq fun K40 hK40 => ?_
          refine aw_reg [1, 5, 114, 115, 116] (by kernel_rfl) ?_
          simp (disch := omega) only [go_sem, seval, sc_len]
          repeat refine And.intro obl ?_
          refine hK40 _ ?_; clear hK40
          refine aw_seq fun K41 hK41 => ?_
          refine aw_cond _ (by rfl) (rfl) (fun c8 => ?_) (fun c8 => ?_)
          · try simp only [push_cast] at c8
            refine aw_skip ?_
            refine hK41 _ ?_; clear hK41
            refine aw_seq fun K42 hK42 => ?_
            refine aw_block ?_
            refine aw_seq fun K43 hK43 => ?_
            refine aw_reg [1, 5, 114, 115, 116] (by kernel_rfl) ?_
            simp (disch := omega) only [go_sem, seval, sc_len]
            repeat refine And.intro obl ?_
            refine hK43 _ ?_; clear hK43
            refine aw_seq fun K44 hK44 => ?_
            refine aw_reg [1, 5, 15, 16, 114, 115, 116] (by kernel_rfl) ?_
            simp (disch := omega) only [go_sem, seval, sc_len]
            repeat refine And.intro obl ?_
            refine hK44 _ ?_; clear hK44
            refine aw_seq fun K45 hK45 => ?_
            refine aw_seq fun K46 hK46 => ?_
            refine aw_regDc [1, 5, 15, 16, 17, 114, 115, 116] [] mixed (by kernel_rfl) ?_
            simp (disch := omega) only [go_sem, seval, sc_len]
            repeat refine And.intro obl ?_
            refine hK46 _ ?_; clear hK46
            refine aw_cond _ (by rfl) (rfl) (fun c9 => ?_) (fun c9 => ?_)
            · try simp only [push_cast] at c9
              exact absurd (by rw [sc_row (by assumption), rd_len]) c9
            · try simp only [push_cast] at c9
              refine aw_skip ?_
              refine hK45 _ ?_; clear hK45
              refine aw_seq fun K47 hK47 => ?_
              refine aw_reg [1, 5, 15, 16, 17, 114, 115, 116] (by kernel_rfl) ?_
              simp (disch := omega) only [go_sem, seval, sc_len]
              repeat refine And.intro obl ?_
              refine hK47 _ ?_; clear hK47
              refine aw_block ?_
              refine aw_loopK [1, 5, 114, 115, 116, 15, 16, 17, 132, 133, 134] (fun n ρ => ∃ j, n = (tr.getD i default).fStops.length - j ∧ (j ≤ (tr.getD i default).fStops.length) ∧ ρ = mkE O [(1, encTr tr), (5, .bx (eSchedule (scD tr (bgD tr)))), (114, encTr tr), (115, vi (tr.length : Nat)), (116, vi (i : Nat)), (15, vi (i : Nat)), (16, .bx (eTrip (tr.getD i default))), (17, vi (rdN tr i j)), (132, encSp (tr.getD i default).fStops), (133, vi ((tr.getD i default).fStops.length : Nat)), (134, vi (j : Nat))]) _ ⟨0, rfl, ?_, ?_⟩ ?_
              · exact dfl
              · simp (disch := omega) only [go_sem, seval, sc_len] <;> first | rfl | omega | simp | simp_all
              rintro n ρ ⟨j, rfl, l5_0, rfl⟩ K48 hK48
              refine aw_seq fun K49 hK49 => ?_
              refine aw_reg [1, 5, 15, 16, 17, 114, 115, 116, 131, 132, 133, 134] (by kernel_rfl) ?_
              simp (disch := omega) only [go_sem, seval, sc_len]
              repeat refine And.intro obl ?_
              refine hK49 _ ?_; clear hK49
              refine aw_seq fun K50 hK50 => ?_
              refine aw_cond _ (by rfl) (rfl) (fun c10 => ?_) (fun c10 => ?_)
              · try simp only [push_cast] at c10
                refine aw_skip ?_
                refine hK50 _ ?_; clear hK50
                refine aw_seq fun K51 hK51 => ?_
                refine aw_block ?_
                refine aw_seq fun K52 hK52 => ?_
                refine aw_reg [1, 5, 15, 16, 17, 114, 115, 116, 131, 132, 133, 134] (by kernel_rfl) ?_
                simp (disch := omega) only [go_sem, seval, sc_len]
                repeat refine And.intro obl ?_
                refine hK52 _ ?_; clear hK52
                refine aw_seq fun K53 hK53 => ?_
                refine aw_reg [1, 5, 15, 16, 17, 18, 19, 114, 115, 116, 131, 132, 133, 134] (by kernel_rfl) ?_
                simp (disch := omega) only [go_sem, seval, sc_len]
                repeat refine And.intro obl ?_
                refine hK53 _ ?_; clear hK53
                refine aw_seq fun K54 hK54 => ?_
                refine aw_seq fun K55 hK55 => ?_
                refine aw_reg [1, 5, 15, 16, 17, 18, 19, 114, 115, 116, 131, 132, 133, 134] (by kernel_rfl) ?_
                simp (disch := omega) only [go_sem, seval, sc_len]
                repeat refine And.intro obl ?_
                refine hK55 _ ?_; clear hK55
                refine aw_cond _ (by rfl) (rfl) (fun c11 => ?_) (fun c11 => ?_)
                · try simp only [push_cast] at c11
                  have e2 := rd_bg ho (show i < tr.length by assumption) c10
                  have e1 := sc_bg (tr := tr) (show i < tr.length by assumption) c10
                  exact absurd (by rw [e1]; split <;> omega) c11
                · try simp only [push_cast] at c11
                  have hli := ho.l i (show i < tr.length by assumption)
                  have e2 := rd_bg ho (show i < tr.length by assumption) c10
                  have e3 : (if ((tr.getD i default).fStops.getD j default).fDue > rdN tr i j then ((tr.getD i default).fStops.getD j default).fDue else rdN tr i j) = bgR tr i j := by split <;> omega
                  have e4 := bgR_b ho (show i < tr.length by assumption) j c10
                  have e5 := ho.s i j (show i < tr.length by assumption) c10
                  refine aw_skip ?_
                  refine hK54 _ ?_; clear hK54
                  refine aw_reg [1, 5, 15, 16, 17, 19, 114, 115, 116, 131, 132, 133, 134] (by kernel_rfl) ?_
                  simp (disch := omega) only [go_sem, seval, sc_len]
                  repeat refine And.intro obl ?_
                  refine hK51 _ ?_; clear hK51
                  refine aw_reg [1, 5, 15, 16, 17, 114, 115, 116, 131, 132, 133, 134] (by kernel_rfl) ?_
                  simp (disch := omega) only [go_sem, seval, sc_len]
                  repeat refine And.intro obl ?_
                  refine hK48 _ _ ?_ ⟨j + 1, rfl, ?_, ?_⟩
                  · exact dfl
                  · exact dfl
                  · simp (disch := omega) only [go_sem, seval, sc_len] <;> (rw [e3]; rfl)
              · try simp only [push_cast] at c10
                refine aw_exit ?_
                refine hK42 _ ?_; clear hK42
                refine aw_reg [1, 5, 114, 115, 116] (by kernel_rfl) ?_
                simp (disch := omega) only [go_sem, seval, sc_len]
                repeat refine And.intro obl ?_
                refine hK39 _ _ ?_ ⟨i + 1, rfl, ?_, ?_⟩
                · exact dfl
                · exact dfl
                · simp (disch := omega) only [go_sem, seval, sc_len] <;> first | rfl | omega | simp | simp_all
          · try simp only [push_cast] at c8
            refine aw_exit ?_
            refine hK37 _ ?_; clear hK37
            refine aw_seq fun K56 hK56 => ?_
            refine aw_reg [] (by kernel_rfl) ?_
            simp (disch := omega) only [go_sem, seval, sc_len]
            repeat refine And.intro obl ?_
            refine callG_of _ (alive2_ok _) ?_
            simp (disch := omega) only [go_sem, seval, sc_len]
            repeat refine And.intro obl ?_
            refine hK56 _ ?_; clear hK56
            refine aw_ret ?_
            refine ret_tmp 4 rfl (by simp (disch := omega) only [go_sem, seval, sc_len]) ?_
            exact Exp.is (by simp (disch := omega) only [go_sem, seval, sc_len] <;> refine congrArg vb ?_ <;> (exact dfl)) rfl rfl
end Go.Sg
