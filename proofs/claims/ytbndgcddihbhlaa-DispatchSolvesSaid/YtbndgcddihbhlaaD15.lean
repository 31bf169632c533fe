/- Contract of schedule. Printed by genw.py. -/
import Derived.Test.YtbndgcddihbhlaaSgB
import Derived.Test.YtbndgcddihbhlaaD11
import Derived.Test.YtbndgcddihbhlaaSgC
set_option linter.unusedVariables false
set_option linter.unusedSimpArgs false
set_option maxRecDepth 8000
namespace Go.Sg
open Go.Proofs
def roD (tr : List Trip) (d : Dr) (i : Nat) : List Int := (List.range (tr.getD i default).fStops.length).map (d i)
def scD (tr : List Trip) (d : Dr) : Schedule := { fStarts := (List.range tr.length).map (roD tr d), fCost := coD tr d (enA tr) }
theorem rd_len (tr : List Trip) (d : Dr) (i : Nat) : (roD tr d i).length = (tr.getD i default).fStops.length := by simp [roD]
def scP (tr : List Trip) (d : Dr) (i : Nat) : List (List DV) := (List.range tr.length).map fun k => if k < i then [encI (roD tr d k)] else [.v (.slice none 0 0)]
theorem scP_len (tr : List Trip) (d : Dr) (i : Nat) : (scP tr d i).length = tr.length := by simp [scP]
theorem scP_0 (tr : List Trip) (d : Dr) : List.replicate tr.length [DV.v (.slice none 0 0)] = scP tr d 0 := by
  unfold scP
  simp [List.map_const']
theorem scZ (tr : List Trip) (d : Dr) : scP tr d 0 = List.replicate tr.length [DV.v (.slice none 0 0)] := (scP_0 tr d).symm
theorem scP_s (tr : List Trip) (d : Dr) (i : Nat) (hi : i < tr.length) : (scP tr d i).set i [encI (roD tr d i)] = scP tr d (i + 1) := by
  refine map_set_fun _ _ tr.length _ hi _ ?_ fun k hk hne => ?_
  · simp
  · by_cases h : k < i
    · rw [if_pos (by omega), if_pos h]
    · rw [if_neg (by omega), if_neg h]
theorem scS {tr : List Trip} (d : Dr) {i : Nat} (hi : i < tr.length) : (scP tr d i).set i (((scP tr d i).getD i []).set 0 (encI (roD tr d i))) = scP tr d (i + 1) := by
  have : (scP tr d i).getD i [] = [.v (.slice none 0 0)] := by
    unfold scP
    rw [List.getD_eq_getElem?_getD, List.getElem?_map, List.getElem?_range hi]
    simp
  rw [this]
  exact scP_s tr d i hi
theorem scC (tr : List Trip) (d : Dr) : (scD tr d).fCost = coD tr d (enA tr) := rfl
theorem scP_e (tr : List Trip) (d : Dr) (i : Nat) (hi : tr.length ≤ i) : scP tr d i = (scD tr d).fStarts.map eLI := by
  unfold scP scD
  simp only [List.map_map]
  refine List.map_congr_left fun k hk => ?_
  rw [if_pos (by have := List.mem_range.1 hk; omega)]
  rfl
theorem sl_row {tr : List Trip} {d : Dr} {i : Nat} (h4 : (tr.getD i default).fStops.length ≤ 4) (hi : i < 4) : RWk (.sl 1 (tr.getD i default).fStops.length fun k => (List.drop k (List.drop (i * 4) (drL d))).take 1) (encI (roD tr d i)) := by
  have : encI (roD tr d i) = .sl 1 (tr.getD i default).fStops.length fun k => [vi ((roD tr d i).getD k default)] := by
    rw [← rd_len tr d i]; rfl
  rw [this]
  refine RWk.sl _ _ fun k hk => ?_
  rw [List.drop_drop]
  have h1 : (drL d).getD (i * 4 + k) .any = vi (d i k) := drL_get d hi (by omega)
  have h2 : i * 4 + k < (drL d).length := by rw [drL_len]; omega
  rw [List.drop_eq_getElem_cons h2]
  simp only [List.take_succ_cons, List.take_zero, List.cons.injEq, and_true]
  rw [List.getD_eq_getElem?_getD, List.getElem?_eq_getElem (by omega)] at h1
  simp only [Option.getD_some] at h1
  rw [h1]
  unfold roD
  rw [List.getD_eq_getElem?_getD, List.getElem?_map, List.getElem?_range hk]
  rfl
set_option maxRecDepth 20000 in
set_option maxHeartbeats 16000000 in
theorem dispatch_problem_schedule_ok (O : Env) (tr : List Trip) (c : Cl) (d : Dr) (ho : Ok tr) (hd : Bd d) : PCall Try.prog O 31 [prV tr c, .agg (drL d)] (.agg (eSchedule (scD tr d))) := by
  have hn := ho.n
  refine pcall_of_aw Try.func31 rfl (by kernel_rfl) ?_
  refine aw_seq fun K0 hK0 => ?_
  refine aw_reg [0, 1] (by kernel_rfl) ?_
  simp (disch := omega) only [go_sem, seval, scP_len, scZ, scC, Nat.reduceBNe, Bool.true_and, Bool.and_true]
  repeat refine And.intro obl ?_
  refine hK0 _ ?_; clear hK0
  refine aw_seq fun K1 hK1 => ?_
  refine aw_frzB 3 rfl rfl (drL_k _ d) ?_
  refine aw_drawX [0, 3, 4] [5] [] mixed (by kernel_rfl) (fun Y hY hYm hY0 => ?_)
  have tT : ∀ ρ, keepC [0, 3, 4, 8, 9, 10, 11, 12, 13, 14, 15, 16, 17, 18, 19, 5] ρ = mkE O [(0, prV tr c), (3, .dp (drL d)), (4, .bx [.v (.slice none 0 0), vi 0]), (8, prV tr c), (9, prV tr c), (10, prV tr c), (11, encTr tr), (12, vi (tr.length : Nat)), (13, .row 23 1 (scP tr d 0)), (14, prV tr c), (15, .agg (drL d)), (16, prV tr c), (17, .agg (plL (enA tr))), (18, vi (coD tr d (enA tr))), (19, .agg [.own 13 tr.length, vi (coD tr d (enA tr))]), (5, .bx [.own 13 tr.length, vi (coD tr d (enA tr))])] → Y 0 #[true, true, true, true, true, true, true, true, true, true, true, true, true, true] ρ := by
    intro ρ hρ
    refine hY0 _ [0, 3, 4, 8, 9, 10, 11, 12, 13, 14, 15, 16, 17, 18, 19, 5] _ (by kernel_rfl) ?_
    rw [hρ]
    clear hY hYm hY0 hρ
    simp (disch := omega) only [go_sem, seval, scP_len, scZ, scC, Nat.reduceBNe, Bool.true_and, Bool.and_true]
    repeat refine And.intro obl ?_
    refine hK1 _ ?_; clear hK1
    refine aw_seq fun K2 hK2 => ?_
    refine aw_seq fun K3 hK3 => ?_
    refine aw_reg [0, 3, 4, 5, 13] (by kernel_rfl) ?_
    simp (disch := omega) only [go_sem, seval, scP_len, scZ, scC, Nat.reduceBNe, Bool.true_and, Bool.and_true]
    repeat refine And.intro obl ?_
    refine hK3 _ ?_; clear hK3
    refine aw_block ?_
    refine aw_loopK [0, 4, 3, 5, 13, 23, 24, 25] (fun n ρ => ∃ i, n = tr.length - i ∧ (i ≤ tr.length) ∧ ρ = mkE O [(0, prV tr c), (4, .bx [.v (.slice none 0 0), vi 0]), (3, .dp (drL d)), (5, .bx [.own 13 tr.length, vi (coD tr d (enA tr))]), (13, .row 23 1 (scP tr d i)), (23, encTr tr), (24, vi (tr.length : Nat)), (25, vi (i : Nat))]) _ ⟨0, rfl, ?_, ?_⟩ ?_
    · exact dfl
    · simp (disch := omega) only [go_sem, seval, scP_len, scZ, scC, Nat.reduceBNe, Bool.true_and, Bool.and_true] <;> first | rfl | omega | simp | simp_all
    rintro n ρ ⟨i, rfl, l0_0, rfl⟩ K4 hK4
    refine aw_seq fun K5 hK5 => ?_
    refine aw_reg [0, 3, 4, 5, 13, 23, 24, 25] (by kernel_rfl) ?_
    simp (disch := omega) only [go_sem, seval, scP_len, scZ, scC, Nat.reduceBNe, Bool.true_and, Bool.and_true]
    repeat refine And.intro obl ?_
    refine hK5 _ ?_; clear hK5
    refine aw_seq fun K6 hK6 => ?_
    refine aw_cond _ (by rfl) (rfl) (fun c0 => ?_) (fun c0 => ?_)
    · try simp only [push_cast] at c0
      refine aw_skip ?_
      refine hK6 _ ?_; clear hK6
      refine aw_seq fun K7 hK7 => ?_
      refine aw_block ?_
      refine aw_seq fun K8 hK8 => ?_
      refine aw_reg [0, 3, 4, 5, 13, 23, 24, 25] (by kernel_rfl) ?_
      simp (disch := omega) only [go_sem, seval, scP_len, scZ, scC, Nat.reduceBNe, Bool.true_and, Bool.and_true]
      repeat refine And.intro obl ?_
      refine hK8 _ ?_; clear hK8
      have hli := ho.l i (by omega)
      have hdl : 4 ≤ (List.drop (i * 4) (drL d)).length := by rw [List.length_drop, drL_len]; omega
      refine aw_regDc [0, 3, 4, 5, 6, 7, 13, 23, 24, 25] [] mixed (by kernel_rfl) ?_
      simp (disch := omega) only [go_sem, seval, scP_len, scZ, scC, Nat.reduceBNe, Bool.true_and, Bool.and_true]
      repeat refine And.intro obl ?_
      refine callD_to (pcall_wk1 (sl_row (by omega) (by omega)) (pcall_encL (slices_Clone_int_r _ (roD tr d i) (by rw [rd_len]; omega)))) ?_ ?_
      · rfl
      simp (disch := omega) only [go_sem, seval, scP_len, scZ, scC, Nat.reduceBNe, Bool.true_and, Bool.and_true]
      repeat refine And.intro obl ?_
      refine hK7 _ ?_; clear hK7
      refine aw_reg [0, 3, 4, 5, 13, 23, 24, 25] (by kernel_rfl) ?_
      simp (disch := omega) only [go_sem, seval, scP_len, scZ, scC, Nat.reduceBNe, Bool.true_and, Bool.and_true]
      repeat refine And.intro obl ?_
      refine hK4 _ _ ?_ ⟨i + 1, rfl, ?_, ?_⟩
      · exact dfl
      · exact dfl
      · simp (disch := omega) only [go_sem, seval, scP_len, scZ, scC, Nat.reduceBNe, Bool.true_and, Bool.and_true] <;> (have hS := scS d c0; simp only [encL] at hS; rw [hS]; rfl)
    · try simp only [push_cast] at c0
      refine aw_exit ?_
      refine hK2 _ ?_; clear hK2
      refine aw_seq fun K9 hK9 => ?_
      refine aw_frzO 13 5 0 rfl rfl rfl (by rw [scP_len]; rfl) ?_
      refine aw_toBx 5 rfl rfl (RWkL.cons (by rw [scP_e tr d i (by omega)]; exact RWk.frzL eLI _) (RWkL.cons (RWk.refl _) .nil)) ?_
      refine aw_reg [4, 5, 13] (by kernel_rfl) ?_
      simp (disch := omega) only [go_sem, seval, scP_len, scZ, scC, Nat.reduceBNe, Bool.true_and, Bool.and_true]
      repeat refine And.intro obl ?_
      refine hK9 _ ?_; clear hK9
      refine aw_ret ?_
      refine ret_cell 4 31 rfl (by simp (disch := omega) only [go_sem, seval, scP_len, scZ, scC, Nat.reduceBNe, Bool.true_and, Bool.and_true]) (by simp (disch := omega) only [go_sem, seval, scP_len, scZ, scC, Nat.reduceBNe, Bool.true_and, Bool.and_true] <;> (exact dfl)) (by simp (disch := omega) only [go_sem, seval, scP_len, scZ, scC, Nat.reduceBNe, Bool.true_and, Bool.and_true]) (by simp (disch := omega) only [go_sem, seval, scP_len, scZ, scC, Nat.reduceBNe, Bool.true_and, Bool.and_true])
  have main : ∀ (m : Nat) (b0 b1 b2 b3 b4 b5 b6 b7 b8 b9 b10 b11 b12 b13 : Bool), cB b0 + cB b1 + cB b2 + cB b3 + cB b4 + cB b5 + cB b6 + cB b7 + cB b8 + cB b9 + cB b10 + cB b11 + cB b12 + cB b13 = m → (b11 = true → b5 = true) → (b13 = true → b5 = true) → (b13 = true → b11 = true) → (b13 = true → b12 = true) → ∀ ρ, keepC [0, 3, 4, 8, 9, 10, 11, 12, 13, 14, 15, 16, 17, 18, 19, 5] ρ = mkE O [(0, prV tr c), (3, .dp (drL d)), (4, .bx [.v (.slice none 0 0), vi 0]), (8, selD b0 (prV tr c)), (9, selD b1 (prV tr c)), (10, selD b2 (prV tr c)), (11, selD b3 (encTr tr)), (12, selD b4 (vi (tr.length : Nat))), (13, selD b5 (.row 23 1 (scP tr d 0))), (14, selD b6 (prV tr c)), (15, selD b7 (.agg (drL d))), (16, selD b8 (prV tr c)), (17, selD b9 (.agg (plL (enA tr)))), (18, selD b10 (vi (coD tr d (enA tr)))), (19, selD b11 (.agg [.own 13 tr.length, vi (coD tr d (enA tr))])), (5, sel2 b13 b12 (.bx [.own 13 tr.length, vi (coD tr d (enA tr))]) (.bx [.v (.slice none 0 0), vi 0]))] → Y m #[b0, b1, b2, b3, b4, b5, b6, b7, b8, b9, b10, b11, b12, b13] ρ := by
    intro m
    induction m with
    | zero =>
      intro b0 b1 b2 b3 b4 b5 b6 b7 b8 b9 b10 b11 b12 b13 hm m11_5 m13_5 m13_11 m13_12 ρ hρ
      have hc : ∀ b, cB b = 0 → b = true := fun b h => by cases b; cases h; rfl
      have e0 : b0 = true := hc b0 (by omega)
      have e1 : b1 = true := hc b1 (by omega)
      have e2 : b2 = true := hc b2 (by omega)
      have e3 : b3 = true := hc b3 (by omega)
      have e4 : b4 = true := hc b4 (by omega)
      have e5 : b5 = true := hc b5 (by omega)
      have e6 : b6 = true := hc b6 (by omega)
      have e7 : b7 = true := hc b7 (by omega)
      have e8 : b8 = true := hc b8 (by omega)
      have e9 : b9 = true := hc b9 (by omega)
      have e10 : b10 = true := hc b10 (by omega)
      have e11 : b11 = true := hc b11 (by omega)
      have e12 : b12 = true := hc b12 (by omega)
      have e13 : b13 = true := hc b13 (by omega)
      subst e0 e1 e2 e3 e4 e5 e6 e7 e8 e9 e10 e11 e12 e13
      refine tT ρ (hρ.trans ?_)
      simp only [selD_true, sel2_true]
    | succ m ih =>
      intro b0 b1 b2 b3 b4 b5 b6 b7 b8 b9 b10 b11 b12 b13 hm m11_5 m13_5 m13_11 m13_12 ρ hρ
      have hex : ∃ i, i < 14 ∧ #[b0, b1, b2, b3, b4, b5, b6, b7, b8, b9, b10, b11, b12, b13].getD i true = false := by
        clear ih hρ tT hY hYm hY0
        cases b0
        · exact ⟨0, by omega, rfl⟩
        cases b1
        · exact ⟨1, by omega, rfl⟩
        cases b2
        · exact ⟨2, by omega, rfl⟩
        cases b3
        · exact ⟨3, by omega, rfl⟩
        cases b4
        · exact ⟨4, by omega, rfl⟩
        cases b5
        · exact ⟨5, by omega, rfl⟩
        cases b6
        · exact ⟨6, by omega, rfl⟩
        cases b7
        · exact ⟨7, by omega, rfl⟩
        cases b8
        · exact ⟨8, by omega, rfl⟩
        cases b9
        · exact ⟨9, by omega, rfl⟩
        cases b10
        · exact ⟨10, by omega, rfl⟩
        cases b11
        · exact ⟨11, by omega, rfl⟩
        cases b12
        · exact ⟨12, by omega, rfl⟩
        cases b13
        · exact ⟨13, by omega, rfl⟩
        exact absurd hm (by simp [cB])
      refine hYm m _ [0, 3, 4, 8, 9, 10, 11, 12, 13, 14, 15, 16, 17, 18, 19, 5] _ (by kernel_rfl) rfl hex ?_
      clear hY hYm hY0 tT hex
      intro iQ oQ hun hoQ hdep
      have hiQ : iQ < 14 := (List.getElem?_eq_some_iff.1 hoQ).1
      match iQ, hiQ with
      | 0, _ =>
        obtain rfl : b0 = false := hun
        obtain rfl := Option.some.inj hoQ
        clear hdep
        rw [hρ]
        show opI _ _ _ false _ _
        simp (disch := omega) only [go_sem, seval, scP_len, scZ, scC, Nat.reduceBNe, Bool.true_and, Bool.and_true]
        repeat refine And.intro obl ?_
        refine ih true b1 b2 b3 b4 b5 b6 b7 b8 b9 b10 b11 b12 b13 ?_ m11_5 m13_5 m13_11 m13_12 _ ?_
        · simp only [cB, cond_true, cond_false] at hm ⊢; omega
        · simp (disch := omega) only [go_sem, seval, scP_len, scZ, scC, Nat.reduceBNe, Bool.true_and, Bool.and_true] <;> first | rfl | simp
      | 1, _ =>
        obtain rfl : b1 = false := hun
        obtain rfl := Option.some.inj hoQ
        have e0 : b0 = true := by first | (refine hdep ⟨0, .data⟩ ?_ rfl; simp; done) | (refine hdep ⟨0, .phase⟩ ?_ rfl; simp; done) | (refine hdep ⟨0, .chain⟩ ?_ rfl; simp; done)
        subst e0
        clear hdep
        rw [hρ]
        show opI _ _ _ false _ _
        simp (disch := omega) only [go_sem, seval, scP_len, scZ, scC, Nat.reduceBNe, Bool.true_and, Bool.and_true]
        repeat refine And.intro obl ?_
        refine ih true true b2 b3 b4 b5 b6 b7 b8 b9 b10 b11 b12 b13 ?_ m11_5 m13_5 m13_11 m13_12 _ ?_
        · simp only [cB, cond_true, cond_false] at hm ⊢; omega
        · simp (disch := omega) only [go_sem, seval, scP_len, scZ, scC, Nat.reduceBNe, Bool.true_and, Bool.and_true] <;> first | rfl | simp
      | 2, _ =>
        obtain rfl : b2 = false := hun
        obtain rfl := Option.some.inj hoQ
        have e1 : b1 = true := by first | (refine hdep ⟨1, .data⟩ ?_ rfl; simp; done) | (refine hdep ⟨1, .phase⟩ ?_ rfl; simp; done) | (refine hdep ⟨1, .chain⟩ ?_ rfl; simp; done)
        subst e1
        clear hdep
        rw [hρ]
        show opI _ _ _ false _ _
        simp (disch := omega) only [go_sem, seval, scP_len, scZ, scC, Nat.reduceBNe, Bool.true_and, Bool.and_true]
        repeat refine And.intro obl ?_
        refine ih b0 true true b3 b4 b5 b6 b7 b8 b9 b10 b11 b12 b13 ?_ m11_5 m13_5 m13_11 m13_12 _ ?_
        · simp only [cB, cond_true, cond_false] at hm ⊢; omega
        · simp (disch := omega) only [go_sem, seval, scP_len, scZ, scC, Nat.reduceBNe, Bool.true_and, Bool.and_true] <;> first | rfl | simp
      | 3, _ =>
        obtain rfl : b3 = false := hun
        obtain rfl := Option.some.inj hoQ
        have e2 : b2 = true := by first | (refine hdep ⟨2, .data⟩ ?_ rfl; simp; done) | (refine hdep ⟨2, .phase⟩ ?_ rfl; simp; done) | (refine hdep ⟨2, .chain⟩ ?_ rfl; simp; done)
        subst e2
        clear hdep
        rw [hρ]
        show opI _ _ _ false _ _
        simp (disch := omega) only [go_sem, seval, scP_len, scZ, scC, Nat.reduceBNe, Bool.true_and, Bool.and_true]
        repeat refine And.intro obl ?_
        refine ih b0 b1 true true b4 b5 b6 b7 b8 b9 b10 b11 b12 b13 ?_ m11_5 m13_5 m13_11 m13_12 _ ?_
        · simp only [cB, cond_true, cond_false] at hm ⊢; omega
        · simp (disch := omega) only [go_sem, seval, scP_len, scZ, scC, Nat.reduceBNe, Bool.true_and, Bool.and_true] <;> first | rfl | simp
      | 4, _ =>
        obtain rfl : b4 = false := hun
        obtain rfl := Option.some.inj hoQ
        have e3 : b3 = true := by first | (refine hdep ⟨3, .data⟩ ?_ rfl; simp; done) | (refine hdep ⟨3, .phase⟩ ?_ rfl; simp; done) | (refine hdep ⟨3, .chain⟩ ?_ rfl; simp; done)
        subst e3
        clear hdep
        rw [hρ]
        show opI _ _ _ false _ _
        simp (disch := omega) only [go_sem, seval, scP_len, scZ, scC, Nat.reduceBNe, Bool.true_and, Bool.and_true]
        repeat refine And.intro obl ?_
        refine ih b0 b1 b2 true true b5 b6 b7 b8 b9 b10 b11 b12 b13 ?_ m11_5 m13_5 m13_11 m13_12 _ ?_
        · simp only [cB, cond_true, cond_false] at hm ⊢; omega
        · simp (disch := omega) only [go_sem, seval, scP_len, scZ, scC, Nat.reduceBNe, Bool.true_and, Bool.and_true] <;> first | rfl | simp
      | 5, _ =>
        obtain rfl : b5 = false := hun
        obtain rfl := Option.some.inj hoQ
        have e4 : b4 = true := by first | (refine hdep ⟨4, .data⟩ ?_ rfl; simp; done) | (refine hdep ⟨4, .phase⟩ ?_ rfl; simp; done) | (refine hdep ⟨4, .chain⟩ ?_ rfl; simp; done)
        subst e4
        have n11 : b11 = false := by cases hc : b11 with
          | false => rfl
          | true => exact absurd (m11_5 hc) (by decide)
        subst n11
        have n13 : b13 = false := by cases hc : b13 with
          | false => rfl
          | true => exact absurd (m13_5 hc) (by decide)
        subst n13
        clear hdep
        rw [hρ]
        show opI _ _ _ true _ _
        simp (disch := omega) only [go_sem, seval, scP_len, scZ, scC, Nat.reduceBNe, Bool.true_and, Bool.and_true]
        repeat refine And.intro obl ?_
        refine ih b0 b1 b2 b3 true true b6 b7 b8 b9 b10 false b12 false ?_ (fun h => by cases h) (fun h => by cases h) (fun h => by cases h) (fun h => by cases h) _ ?_
        · simp only [cB, cond_true, cond_false] at hm ⊢; omega
        · simp (disch := omega) only [go_sem, seval, scP_len, scZ, scC, Nat.reduceBNe, Bool.true_and, Bool.and_true] <;> first | rfl | simp
      | 6, _ =>
        obtain rfl : b6 = false := hun
        obtain rfl := Option.some.inj hoQ
        clear hdep
        rw [hρ]
        show opI _ _ _ false _ _
        simp (disch := omega) only [go_sem, seval, scP_len, scZ, scC, Nat.reduceBNe, Bool.true_and, Bool.and_true]
        repeat refine And.intro obl ?_
        refine ih b0 b1 b2 b3 b4 b5 true b7 b8 b9 b10 b11 b12 b13 ?_ m11_5 m13_5 m13_11 m13_12 _ ?_
        · simp only [cB, cond_true, cond_false] at hm ⊢; omega
        · simp (disch := omega) only [go_sem, seval, scP_len, scZ, scC, Nat.reduceBNe, Bool.true_and, Bool.and_true] <;> first | rfl | simp
      | 7, _ =>
        obtain rfl : b7 = false := hun
        obtain rfl := Option.some.inj hoQ
        clear hdep
        rw [hρ]
        show opI _ _ _ false _ _
        simp (disch := omega) only [go_sem, seval, scP_len, scZ, scC, Nat.reduceBNe, Bool.true_and, Bool.and_true]
        repeat refine And.intro obl ?_
        refine ih b0 b1 b2 b3 b4 b5 b6 true b8 b9 b10 b11 b12 b13 ?_ m11_5 m13_5 m13_11 m13_12 _ ?_
        · simp only [cB, cond_true, cond_false] at hm ⊢; omega
        · simp (disch := omega) only [go_sem, seval, scP_len, scZ, scC, Nat.reduceBNe, Bool.true_and, Bool.and_true] <;> first | rfl | simp
      | 8, _ =>
        obtain rfl : b8 = false := hun
        obtain rfl := Option.some.inj hoQ
        clear hdep
        rw [hρ]
        show opI _ _ _ false _ _
        simp (disch := omega) only [go_sem, seval, scP_len, scZ, scC, Nat.reduceBNe, Bool.true_and, Bool.and_true]
        repeat refine And.intro obl ?_
        refine ih b0 b1 b2 b3 b4 b5 b6 b7 true b9 b10 b11 b12 b13 ?_ m11_5 m13_5 m13_11 m13_12 _ ?_
        · simp only [cB, cond_true, cond_false] at hm ⊢; omega
        · simp (disch := omega) only [go_sem, seval, scP_len, scZ, scC, Nat.reduceBNe, Bool.true_and, Bool.and_true] <;> first | rfl | simp
      | 9, _ =>
        obtain rfl : b9 = false := hun
        obtain rfl := Option.some.inj hoQ
        have e8 : b8 = true := by first | (refine hdep ⟨8, .data⟩ ?_ rfl; simp; done) | (refine hdep ⟨8, .phase⟩ ?_ rfl; simp; done) | (refine hdep ⟨8, .chain⟩ ?_ rfl; simp; done)
        subst e8
        clear hdep
        rw [hρ]
        show opI _ _ _ false _ _
        simp (disch := omega) only [go_sem, seval, scP_len, scZ, scC, Nat.reduceBNe, Bool.true_and, Bool.and_true]
        repeat refine And.intro obl ?_
        refine callD_to (dispatch_problem_ends_ok _ tr c ho) ?_ ?_
        · rfl
        try simp (disch := omega) only [go_sem, seval, scP_len, scZ, scC, Nat.reduceBNe, Bool.true_and, Bool.and_true]
        repeat refine And.intro obl ?_
        refine ih b0 b1 b2 b3 b4 b5 b6 b7 true true b10 b11 b12 b13 ?_ m11_5 m13_5 m13_11 m13_12 _ ?_
        · simp only [cB, cond_true, cond_false] at hm ⊢; omega
        · simp (disch := omega) only [go_sem, seval, scP_len, scZ, scC, Nat.reduceBNe, Bool.true_and, Bool.and_true] <;> first | rfl | simp
      | 10, _ =>
        obtain rfl : b10 = false := hun
        obtain rfl := Option.some.inj hoQ
        have e6 : b6 = true := by first | (refine hdep ⟨6, .data⟩ ?_ rfl; simp; done) | (refine hdep ⟨6, .phase⟩ ?_ rfl; simp; done) | (refine hdep ⟨6, .chain⟩ ?_ rfl; simp; done)
        have e7 : b7 = true := by first | (refine hdep ⟨7, .data⟩ ?_ rfl; simp; done) | (refine hdep ⟨7, .phase⟩ ?_ rfl; simp; done) | (refine hdep ⟨7, .chain⟩ ?_ rfl; simp; done)
        have e9 : b9 = true := by first | (refine hdep ⟨9, .data⟩ ?_ rfl; simp; done) | (refine hdep ⟨9, .phase⟩ ?_ rfl; simp; done) | (refine hdep ⟨9, .chain⟩ ?_ rfl; simp; done)
        subst e6 e7 e9
        clear hdep
        rw [hρ]
        show opI _ _ _ false _ _
        simp (disch := omega) only [go_sem, seval, scP_len, scZ, scC, Nat.reduceBNe, Bool.true_and, Bool.and_true]
        repeat refine And.intro obl ?_
        refine callD_to (dispatch_problem_cost_ok _ tr c d (enA tr) ho hd (pk_en tr)) ?_ ?_
        · rfl
        try simp (disch := omega) only [go_sem, seval, scP_len, scZ, scC, Nat.reduceBNe, Bool.true_and, Bool.and_true]
        repeat refine And.intro obl ?_
        refine ih b0 b1 b2 b3 b4 b5 true true b8 true true b11 b12 b13 ?_ m11_5 m13_5 m13_11 m13_12 _ ?_
        · simp only [cB, cond_true, cond_false] at hm ⊢; omega
        · simp (disch := omega) only [go_sem, seval, scP_len, scZ, scC, Nat.reduceBNe, Bool.true_and, Bool.and_true] <;> first | rfl | simp
      | 11, _ =>
        obtain rfl : b11 = false := hun
        obtain rfl := Option.some.inj hoQ
        have e5 : b5 = true := by first | (refine hdep ⟨5, .data⟩ ?_ rfl; simp; done) | (refine hdep ⟨5, .phase⟩ ?_ rfl; simp; done) | (refine hdep ⟨5, .chain⟩ ?_ rfl; simp; done)
        have e10 : b10 = true := by first | (refine hdep ⟨10, .data⟩ ?_ rfl; simp; done) | (refine hdep ⟨10, .phase⟩ ?_ rfl; simp; done) | (refine hdep ⟨10, .chain⟩ ?_ rfl; simp; done)
        subst e5 e10
        have n13 : b13 = false := by cases hc : b13 with
          | false => rfl
          | true => exact absurd (m13_11 hc) (by decide)
        subst n13
        clear hdep
        rw [hρ]
        show opI _ _ _ false _ _
        simp (disch := omega) only [go_sem, seval, scP_len, scZ, scC, Nat.reduceBNe, Bool.true_and, Bool.and_true]
        repeat refine And.intro obl ?_
        refine ih b0 b1 b2 b3 b4 true b6 b7 b8 b9 true true b12 false ?_ (fun _ => rfl) (fun h => by cases h) (fun h => by cases h) (fun h => by cases h) _ ?_
        · simp only [cB, cond_true, cond_false] at hm ⊢; omega
        · simp (disch := omega) only [go_sem, seval, scP_len, scZ, scC, Nat.reduceBNe, Bool.true_and, Bool.and_true] <;> first | rfl | simp
      | 12, _ =>
        obtain rfl : b12 = false := hun
        obtain rfl := Option.some.inj hoQ
        have n13 : b13 = false := by cases hc : b13 with
          | false => rfl
          | true => exact absurd (m13_12 hc) (by decide)
        subst n13
        clear hdep
        rw [hρ]
        show opI _ _ _ false _ _
        simp (disch := omega) only [go_sem, seval, scP_len, scZ, scC, Nat.reduceBNe, Bool.true_and, Bool.and_true]
        repeat refine And.intro obl ?_
        refine ih b0 b1 b2 b3 b4 b5 b6 b7 b8 b9 b10 b11 true false ?_ m11_5 (fun h => by cases h) (fun h => by cases h) (fun h => by cases h) _ ?_
        · simp only [cB, cond_true, cond_false] at hm ⊢; omega
        · simp (disch := omega) only [go_sem, seval, scP_len, scZ, scC, Nat.reduceBNe, Bool.true_and, Bool.and_true] <;> first | rfl | simp
      | 13, _ =>
        obtain rfl : b13 = false := hun
        obtain rfl := Option.some.inj hoQ
        have e0 : b0 = true := by first | (refine hdep ⟨0, .data⟩ ?_ rfl; simp; done) | (refine hdep ⟨0, .phase⟩ ?_ rfl; simp; done) | (refine hdep ⟨0, .chain⟩ ?_ rfl; simp; done)
        have e1 : b1 = true := by first | (refine hdep ⟨1, .data⟩ ?_ rfl; simp; done) | (refine hdep ⟨1, .phase⟩ ?_ rfl; simp; done) | (refine hdep ⟨1, .chain⟩ ?_ rfl; simp; done)
        have e2 : b2 = true := by first | (refine hdep ⟨2, .data⟩ ?_ rfl; simp; done) | (refine hdep ⟨2, .phase⟩ ?_ rfl; simp; done) | (refine hdep ⟨2, .chain⟩ ?_ rfl; simp; done)
        have e3 : b3 = true := by first | (refine hdep ⟨3, .data⟩ ?_ rfl; simp; done) | (refine hdep ⟨3, .phase⟩ ?_ rfl; simp; done) | (refine hdep ⟨3, .chain⟩ ?_ rfl; simp; done)
        have e4 : b4 = true := by first | (refine hdep ⟨4, .data⟩ ?_ rfl; simp; done) | (refine hdep ⟨4, .phase⟩ ?_ rfl; simp; done) | (refine hdep ⟨4, .chain⟩ ?_ rfl; simp; done)
        have e5 : b5 = true := by first | (refine hdep ⟨5, .data⟩ ?_ rfl; simp; done) | (refine hdep ⟨5, .phase⟩ ?_ rfl; simp; done) | (refine hdep ⟨5, .chain⟩ ?_ rfl; simp; done)
        have e6 : b6 = true := by first | (refine hdep ⟨6, .data⟩ ?_ rfl; simp; done) | (refine hdep ⟨6, .phase⟩ ?_ rfl; simp; done) | (refine hdep ⟨6, .chain⟩ ?_ rfl; simp; done)
        have e7 : b7 = true := by first | (refine hdep ⟨7, .data⟩ ?_ rfl; simp; done) | (refine hdep ⟨7, .phase⟩ ?_ rfl; simp; done) | (refine hdep ⟨7, .chain⟩ ?_ rfl; simp; done)
        have e8 : b8 = true := by first | (refine hdep ⟨8, .data⟩ ?_ rfl; simp; done) | (refine hdep ⟨8, .phase⟩ ?_ rfl; simp; done) | (refine hdep ⟨8, .chain⟩ ?_ rfl; simp; done)
        have e9 : b9 = true := by first | (refine hdep ⟨9, .data⟩ ?_ rfl; simp; done) | (refine hdep ⟨9, .phase⟩ ?_ rfl; simp; done) | (refine hdep ⟨9, .chain⟩ ?_ rfl; simp; done)
        have e10 : b10 = true := by first | (refine hdep ⟨10, .data⟩ ?_ rfl; simp; done) | (refine hdep ⟨10, .phase⟩ ?_ rfl; simp; done) | (refine hdep ⟨10, .chain⟩ ?_ rfl; simp; done)
        have e11 : b11 = true := by first | (refine hdep ⟨11, .data⟩ ?_ rfl; simp; done) | (refine hdep ⟨11, .phase⟩ ?_ rfl; simp; done) | (refine hdep ⟨11, .chain⟩ ?_ rfl; simp; done)
        have e12 : b12 = true := by first | (refine hdep ⟨12, .data⟩ ?_ rfl; simp; done) | (refine hdep ⟨12, .phase⟩ ?_ rfl; simp; done) | (refine hdep ⟨12, .chain⟩ ?_ rfl; simp; done)
        subst e0 e1 e2 e3 e4 e5 e6 e7 e8 e9 e10 e11 e12
        clear hdep
        rw [hρ]
        show opI _ _ _ false _ _
        simp (disch := omega) only [go_sem, seval, scP_len, scZ, scC, Nat.reduceBNe, Bool.true_and, Bool.and_true]
        repeat refine And.intro obl ?_
        refine ih true true true true true true true true true true true true true true ?_ (fun _ => rfl) (fun _ => rfl) (fun _ => rfl) (fun _ => rfl) _ ?_
        · simp only [cB, cond_true, cond_false] at hm ⊢; omega
        · simp (disch := omega) only [go_sem, seval, scP_len, scZ, scC, Nat.reduceBNe, Bool.true_and, Bool.and_true] <;> first | rfl | simp
  refine main 14 false false false false false false false false false false false false false false rfl (fun h => by cases h) (fun h => by cases h) (fun h => by cases h) (fun h => by cases h) _ ?_
  simp (disch := omega) only [go_sem, seval, scP_len, scZ, scC, Nat.reduceBNe, Bool.true_and, Bool.and_true] <;> first | rfl | simp
end Go.Sg
