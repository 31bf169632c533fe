/- A visit of Solve: the round of its range over a function. Printed by genw.py. -/
import Derived.Test.YtbndgcddihbhlaaSgB
import Derived.Test.YtbndgcddihbhlaaQ1
import Derived.Test.YtbndgcddihbhlaaSgE
set_option linter.unusedVariables false
set_option linter.unusedSimpArgs false
set_option maxRecDepth 400000
namespace Go.Sg
open Go.Proofs
open Go.RowKit
noncomputable def rgAB : Code × Code := ((Try.f11.body.bind rangeOf).getD (.skip, .skip))
theorem frz16 (l : List Dr) : Sg.frz 16 (l.map drL) = .sl 16 l.length fun i => (l.map drL).getD i [] := by unfold Sg.frz; rw [List.length_map]
theorem drop_c {l : List Dr} {k : Nat} (h : k < l.length) : l.drop k = gD l k :: l.drop (k + 1) := by
  rw [List.drop_eq_getElem_cons h]; congr 1
  unfold gD; rw [List.getD_eq_getElem?_getD, List.getElem?_eq_getElem h]; rfl
theorem lk_visit {M M1 M2 : Mp} {a : Pl} {r : Rw Dr} (h : LkS M a r M1 M2) : (M1 ++ M2 = M ∧ (∀ x ∈ M, x.1 ≠ a) ∧ r.l = []) ∨ ∃ N1 q N2, M = N1 ++ (a, q) :: N2 ∧ M1 ++ M2 = N1 ++ N2 ∧ r.l = q.l := by
  rcases h with h | ⟨rfl, rfl, rfl, h⟩
  · exact .inr ⟨M1, r, M2, h, rfl, rfl⟩
  · exact .inl ⟨List.append_nil _, h, rfl⟩
theorem lk_add {M M1 M2 : Mp} {a : Pl} {r r' : Rw Dr} (h : LkS M a r M1 M2) : (M1 ++ (a, r') :: M2 = M ++ [(a, r')] ∧ (∀ x ∈ M, x.1 ≠ a) ∧ r.l = []) ∨ ∃ N1 q N2, M = N1 ++ (a, q) :: N2 ∧ M1 ++ (a, r') :: M2 = N1 ++ (a, r') :: N2 ∧ r.l = q.l := by
  rcases h with h | ⟨rfl, rfl, rfl, h⟩
  · exact .inr ⟨M1, r, M2, h, rfl, rfl⟩
  · exact .inl ⟨rfl, h, rfl⟩
theorem pow16 : (4 : Nat) ^ 16 = 4294967296 := by decide
theorem lk_small {tr : List Trip} {c : Cl} {kn : Dr} {at_ a : Pl} {M M1 M2 : Mp} {best : Dr} {k i : Nat} {Cu : Pl → Dr → Prop} {r : Rw Dr} (ho : Ok tr) (h : InvI tr c kn at_ M best k i Cu) (hk : k ≤ 4 ^ 16) (hl : LkS M a r M1 M2) : (∀ d ∈ r.l, Bd d) ∧ r.l.length ≤ 1000000000000 := by
  rcases hl with hl | ⟨rfl, _⟩
  · have hx : (a, r) ∈ M := by rw [hl]; simp
    refine ⟨fun d hd => (h.rch _ hx d hd).bd' ho, ?_⟩
    rcases Nat.eq_zero_or_pos r.l.length with h0 | h0
    · omega
    · obtain ⟨d, hd⟩ : ∃ d, d ∈ r.l := List.exists_mem_of_length_pos h0
      have hs : 4 ^ sA a ≤ 4 ^ 16 := Nat.pow_le_pow_right (by decide) ((h.rch _ hx d hd).sum ho)
      have hb := bd_top ho (at_ := at_) (h.key _ hx).2
      have hb : bdN tr at_ a ≤ 4 ^ sA a := hb
      rw [pow16] at hs hk
      by_cases e : ∃ j, j < tr.length ∧ a = upA at_ j (at_ j + 1)
      · obtain ⟨j, hj, he⟩ := e
        have := h.nc _ hx j hj he
        have this : r.l.length ≤ bdN tr at_ a + k + if j < i then 1 else 0 := this
        split at this <;> omega
      · have := h.nb _ hx fun j hj he => e ⟨j, hj, he⟩
        have this : r.l.length ≤ bdN tr at_ a := this
        omega
  · exact ⟨fun d hd => (by cases hd), by simp [nilRw]⟩
set_option maxRecDepth 20000 in
set_option maxHeartbeats 16000000 in
theorem solve_round (O : Env) (tr : List Trip) (c : Cl) (kn best0 : Dr) (at_ : Pl) (M0 : Mp) (ho : Ok tr) (hkn : Full tr c kn) (h9 : O 9 = .bx [.mr 30]) (hO : InvO tr c kn at_ M0 best0) (hat : Vp tr at_) (hsum : sA at_ ≤ 16) : ∀ w1 I1 A1 G1, AWF Try.prog 106 (Fo drL 60 16 w1 I1 A1 G1) rgAB.2 (fun e' s' ρ' => e' = .normal ∧ ∃ (M' : Mp) (best' : Dr) (fs : List Dr) (k : Nat), s' = rsM M' ∧ hi ρ' = outer (kS O M' best') ∧ fs.length ≤ k ∧ k ≤ 4 ^ sA at_ ∧ InvI tr c kn at_ M' best' k 0 (fun a e => a = at_ ∧ e ∈ fs.drop k)) (rsM M0) (mkE (kS O M0 best0) [(3, .dp [encTr tr]), (7, .dp [prV tr c]), (8, .dp (drL kn)), (9, .bp 100009 0), (10, .bp 100010 0), (11, .bx (plL at_))]) := by
  have hn := ho.n
  have sw10 : ∀ (ρ : Env) (i : Nat) (v w : DV), i < 100000 → set (set ρ i v) 100010 w = set (set ρ 100010 w) i v := fun ρ i v w h => set_in ρ v w h (by omega)
  have sw30 : ∀ (ρ : Env) (i : Nat) (v w : DV), i < 100000 → set (set ρ i v) 100030 w = set (set ρ 100030 w) i v := fun ρ i v w h => set_in ρ v w h (by omega)
  have rd9 : ∀ M be, outer (kS O M be) 100009 = .bx [.mr 100030] := fun M be => by
    show outer _ (9 + 100000) = _; rw [outer_hi, kS_9, h9]; rfl
  have rd10 : ∀ M be, outer (kS O M be) 100010 = .bx (drL be) := fun M be => by
    show outer _ (10 + 100000) = _; rw [outer_hi, kS_10]; exact congrArg DV.bx (drL_ren _ _)
  have rd30 : ∀ M be, outer (kS O M be) 100030 = .mo (esM M) := fun M be => by
    show outer _ (30 + 100000) = _; rw [outer_hi, kS_30]; rfl
  have wr10 : ∀ M be be', set (outer (kS O M be)) 100010 (.bx (drL be')) = outer (kS O M be') := fun M be be' => by
    rw [← kS_w10 O M be be', outer_set]; exact congrArg (set _ _) (congrArg DV.bx (drL_ren _ _).symm)
  have wr30 : ∀ M M' be, set (outer (kS O M be)) 100030 (.mo (esM M')) = outer (kS O M' be) := fun M M' be => by
    rw [← kS_w30 O M M' be, outer_set]; rfl
  obtain ⟨r0, M1, M2, hlk⟩ := lkS_ex M0 at_
  have hvis := InvO.visit ho hO (lk_visit hlk)
  have hlen16 : r0.l.length ≤ 4 ^ 16 := Nat.le_trans hvis.2.2 (Nat.pow_le_pow_right (by decide) hsum)
  have hlenN : r0.l.length ≤ 4294967296 := by rw [pow16] at hlen16; exact hlen16
  intro w1 I1 A1 G1
  have hF := fo_st drL 60 16 w1 I1 A1 G1
  try simp only [mkE]
  refine awf_block ?_
  refine awf_seq fun K0 hK0 => ?_
  refine awf_weaken (Le.keepC [3, 7, 8, 9, 10, 11] _) ?_
  refine awf_region ?_
  refine owf_lift hF ?_
  refine effG_ok rfl (by kernel_rfl) (by kernel_rfl) ?_
  simp (disch := omega) only [go_sem, seval, row16, spl_dr, List.length_map, upA_at, upA_up, rd9, rd10, rd30, wr10, wr30, sw10, sw30, Nat.reduceBNe, frz16, cond_true, cond_false]
  repeat refine And.intro obl ?_
  refine owf_lift hF ?_
  refine effG_ok rfl (by kernel_rfl) (by kernel_rfl) ?_
  simp (disch := omega) only [go_sem, seval, row16, spl_dr, List.length_map, upA_at, upA_up, rd9, rd10, rd30, wr10, wr30, sw10, sw30, Nat.reduceBNe, frz16, cond_true, cond_false]
  repeat refine And.intro obl ?_
  refine owf_lift hF (ow_lookM (s := 100030) hlk ho (fun x hx => (hO.key x hx).2) hat hO.un rfl rfl (by kernel_rfl) (by kernel_rfl) (by simp (disch := omega) only [go_sem, seval, row16, spl_dr, List.length_map, upA_at, upA_up, rd9, rd10, rd30, wr10, wr30, sw10, sw30, Nat.reduceBNe, frz16, cond_true, cond_false]) (by simp (disch := omega) only [go_sem, seval, row16, spl_dr, List.length_map, upA_at, upA_up, rd9, rd10, rd30, wr10, wr30, sw10, sw30, Nat.reduceBNe, frz16, cond_true, cond_false]) (by simp (disch := omega) only [go_sem, seval, row16, spl_dr, List.length_map, upA_at, upA_up, rd9, rd10, rd30, wr10, wr30, sw10, sw30, Nat.reduceBNe, frz16, cond_true, cond_false]; try trivial) (by simp (disch := omega) only [go_sem, seval, row16, spl_dr, List.length_map, upA_at, upA_up, rd9, rd10, rd30, wr10, wr30, sw10, sw30, Nat.reduceBNe, frz16, cond_true, cond_false]) ?_)
  simp (disch := omega) only [go_sem, seval, row16, spl_dr, List.length_map, upA_at, upA_up, rd9, rd10, rd30, wr10, wr30, sw10, sw30, Nat.reduceBNe, frz16, cond_true, cond_false]
  refine owf_lift hF ?_
  refine effG_ok rfl (by kernel_rfl) (by kernel_rfl) ?_
  simp (disch := omega) only [go_sem, seval, row16, spl_dr, List.length_map, upA_at, upA_up, rd9, rd10, rd30, wr10, wr30, sw10, sw30, Nat.reduceBNe, frz16, cond_true, cond_false]
  repeat refine And.intro obl ?_
  repeat refine And.intro obl ?_
  refine hK0 _ _ ?_; clear hK0
  refine awf_seq fun K1 hK1 => ?_
  refine awf_weaken (Le.keepC [3, 7, 8, 9, 10, 11, 12] _) ?_
  refine awf_region ?_
  refine owf_lift hF ?_
  refine effG_ok rfl (by kernel_rfl) (by kernel_rfl) ?_
  simp (disch := omega) only [go_sem, seval, row16, spl_dr, List.length_map, upA_at, upA_up, rd9, rd10, rd30, wr10, wr30, sw10, sw30, Nat.reduceBNe, frz16, cond_true, cond_false]
  repeat refine And.intro obl ?_
  refine owf_lift hF ?_
  refine effG_ok rfl (by kernel_rfl) (by kernel_rfl) ?_
  simp (disch := omega) only [go_sem, seval, row16, spl_dr, List.length_map, upA_at, upA_up, rd9, rd10, rd30, wr10, wr30, sw10, sw30, Nat.reduceBNe, frz16, cond_true, cond_false]
  repeat refine And.intro obl ?_
  refine owf_lift hF (ow_delM (s := 100030) hlk ho (fun x hx => (hO.key x hx).2) hat hO.un rfl rfl rfl (by kernel_rfl) (by simp (disch := omega) only [go_sem, seval, row16, spl_dr, List.length_map, upA_at, upA_up, rd9, rd10, rd30, wr10, wr30, sw10, sw30, Nat.reduceBNe, frz16, cond_true, cond_false]) (by simp (disch := omega) only [go_sem, seval, row16, spl_dr, List.length_map, upA_at, upA_up, rd9, rd10, rd30, wr10, wr30, sw10, sw30, Nat.reduceBNe, frz16, cond_true, cond_false]) (by simp (disch := omega) only [go_sem, seval, row16, spl_dr, List.length_map, upA_at, upA_up, rd9, rd10, rd30, wr10, wr30, sw10, sw30, Nat.reduceBNe, frz16, cond_true, cond_false]; try trivial) (by simp (disch := omega) only [go_sem, seval, row16, spl_dr, List.length_map, upA_at, upA_up, rd9, rd10, rd30, wr10, wr30, sw10, sw30, Nat.reduceBNe, frz16, cond_true, cond_false]) ?_)
  simp (disch := omega) only [go_sem, seval, row16, spl_dr, List.length_map, upA_at, upA_up, rd9, rd10, rd30, wr10, wr30, sw10, sw30, Nat.reduceBNe, frz16, cond_true, cond_false]
  repeat refine And.intro obl ?_
  refine hK1 _ _ ?_; clear hK1
  refine awf_seq fun K2 hK2 => ?_
  refine awf_settle (r := r0) (s1 := rsM M1) (s2 := rsM M2) 12 (by decide) (by simp (disch := omega) only [go_sem, seval, row16, spl_dr, List.length_map, upA_at, upA_up, rd9, rd10, rd30, wr10, wr30, sw10, sw30, Nat.reduceBNe, frz16, cond_true, cond_false]) (lk_rs hlk) ?_
  rw [← rsM_app]
  refine awf_lift hF ?_
  refine aw_reg [3, 7, 8, 9, 10, 11, 12] (by kernel_rfl) ?_
  simp (disch := omega) only [go_sem, seval, row16, spl_dr, List.length_map, upA_at, upA_up, rd9, rd10, rd30, wr10, wr30, sw10, sw30, Nat.reduceBNe, frz16, cond_true, cond_false]
  repeat refine And.intro obl ?_
  refine hK2 _ _ ?_; clear hK2
  refine awf_block ?_
  refine awf_loopK [3, 7, 8, 9, 10, 11, 45, 46, 47] (fun n s ρ => ∃ k, ∃ M, ∃ best, n = r0.l.length - k ∧ s = rsM M ∧ (k ≤ r0.l.length) ∧ (InvI tr c kn at_ M best k 0 (fun a e => a = at_ ∧ e ∈ r0.l.drop k)) ∧ ρ = mkE (kS O M best) [(3, .dp [encTr tr]), (7, .dp [prV tr c]), (8, .dp (drL kn)), (9, .bp 100009 0), (10, .bp 100010 0), (11, .bx (plL at_)), (45, .sl 16 r0.l.length fun i => (r0.l.map drL).getD i []), (46, vi (r0.l.length : Nat)), (47, vi (k : Nat))]) _ ⟨0, (M1 ++ M2), best0, rfl, rfl, ?_, ?_, ?_⟩ ?_
  · exact dfl
  · exact hvis.1
  · simp (disch := omega) only [go_sem, seval, row16, spl_dr, List.length_map, upA_at, upA_up, rd9, rd10, rd30, wr10, wr30, sw10, sw30, Nat.reduceBNe, frz16, cond_true, cond_false] <;> first | rfl | omega | simp | simp_all
  rintro n s ρ ⟨k, M, best, rfl, rfl, l0_0, l0_1, rfl⟩ K3 hK3
  refine awf_seq fun K4 hK4 => ?_
  refine awf_lift hF ?_
  refine aw_reg [3, 7, 8, 9, 10, 11, 12, 45, 46, 47] (by kernel_rfl) ?_
  simp (disch := omega) only [go_sem, seval, row16, spl_dr, List.length_map, upA_at, upA_up, rd9, rd10, rd30, wr10, wr30, sw10, sw30, Nat.reduceBNe, frz16, cond_true, cond_false]
  repeat refine And.intro obl ?_
  refine hK4 _ _ ?_; clear hK4
  refine awf_seq fun K5 hK5 => ?_
  refine awf_cond _ (by rfl) (rfl) (fun c0 => ?_) (fun c0 => ?_)
  · try simp only [push_cast] at c0
    refine awf_skip ?_
    refine hK5 _ _ ?_; clear hK5
    refine awf_seq fun K6 hK6 => ?_
    refine awf_block ?_
    refine awf_seq fun K7 hK7 => ?_
    have hdk := drop_c c0
    have hrd : Rch tr c at_ (gD r0.l k) := hvis.2.1 _ (gD_mem c0)
    refine awf_lift hF ?_
    refine aw_reg [3, 7, 8, 9, 10, 11, 12, 45, 46, 47] (by kernel_rfl) ?_
    simp (disch := omega) only [go_sem, seval, row16, spl_dr, List.length_map, upA_at, upA_up, rd9, rd10, rd30, wr10, wr30, sw10, sw30, Nat.reduceBNe, frz16, cond_true, cond_false]
    repeat refine And.intro obl ?_
    refine hK7 _ _ ?_; clear hK7
    refine awf_seqJ [3, 7, 8, 9, 10, 11, 45, 46, 47, 14] (fun s ρ => ∃ be, s = rsM M ∧ (InvI tr c kn at_ M be k 0 (fun a e => (a = at_ ∧ e ∈ r0.l.drop (k + 1)) ∨ Nx tr c at_ (gD r0.l k) 0 a e)) ∧ ρ = mkE (kS O M be) [(3, .dp [encTr tr]), (7, .dp [prV tr c]), (8, .dp (drL kn)), (9, .bp 100009 0), (10, .bp 100010 0), (11, .bx (plL at_)), (45, .sl 16 r0.l.length fun i => (r0.l.map drL).getD i []), (46, vi (r0.l.length : Nat)), (47, vi (k : Nat)), (14, .bx (drL (gD r0.l k)))]) (fun K8 hK8 => ?_) ?_
    · skip
      refine awf_seq fun K9 hK9 => ?_
      refine awf_lift hF ?_
      refine aw_reg [3, 7, 8, 9, 10, 11, 12, 14, 45, 46, 47] (by kernel_rfl) ?_
      simp (disch := omega) only [go_sem, seval, row16, spl_dr, List.length_map, upA_at, upA_up, rd9, rd10, rd30, wr10, wr30, sw10, sw30, Nat.reduceBNe, frz16, cond_true, cond_false]
      repeat refine And.intro obl ?_
      refine callG_of _ (dispatch_problem_all_ok _ tr c at_ ho) ?_
      simp (disch := omega) only [go_sem, seval, row16, spl_dr, List.length_map, upA_at, upA_up, rd9, rd10, rd30, wr10, wr30, sw10, sw30, Nat.reduceBNe, frz16, cond_true, cond_false]
      repeat refine And.intro obl ?_
      refine callC_to (fun g0 => dispatch_problem_before_ok _ tr c (gD r0.l k) best ho (hrd.bd' ho) (l0_1.full.bd' ho)) ?_ ?_ ?_
      · first | exact fun _ => trivial | simp
      · rfl
      simp (disch := omega) only [go_sem, seval, row16, spl_dr, List.length_map, upA_at, upA_up, rd9, rd10, rd30, wr10, wr30, sw10, sw30, Nat.reduceBNe, frz16, cond_true, cond_false]
      repeat refine And.intro obl ?_
      refine hK9 _ _ ?_; clear hK9
      refine awf_cond _ (by rfl) (rfl) (fun c1 => ?_) (fun c1 => ?_)
      · try simp only [push_cast] at c1
        refine awf_lift hF ?_
        refine aw_reg [3, 7, 8, 9, 10, 11, 12, 14, 45, 46, 47] (by kernel_rfl) ?_
        simp (disch := omega) only [go_sem, seval, row16, spl_dr, List.length_map, upA_at, upA_up, rd9, rd10, rd30, wr10, wr30, sw10, sw30, Nat.reduceBNe, frz16, cond_true, cond_false]
        repeat refine And.intro obl ?_
        refine hK8 _ _ ⟨(gD r0.l k), rfl, ?_, ?_⟩
        · (have h := InvI.take ho hrd hdk l0_1; rw [if_pos c1] at h; exact h)
        · simp (disch := omega) only [go_sem, seval, row16, spl_dr, List.length_map, upA_at, upA_up, rd9, rd10, rd30, wr10, wr30, sw10, sw30, Nat.reduceBNe, frz16, cond_true, cond_false] <;> first | rfl | omega | simp | simp_all
      · try simp only [push_cast] at c1
        refine awf_skip ?_
        refine hK8 _ _ ⟨best, rfl, ?_, ?_⟩
        · (have h := InvI.take ho hrd hdk l0_1; rw [if_neg (fun q => by rw [q.1, q.2] at c1; simp at c1)] at h; exact h)
        · simp (disch := omega) only [go_sem, seval, row16, spl_dr, List.length_map, upA_at, upA_up, rd9, rd10, rd30, wr10, wr30, sw10, sw30, Nat.reduceBNe, frz16, cond_true, cond_false] <;> first | rfl | omega | simp | simp_all
    rintro s ρ ⟨be, rfl, j17_0, rfl⟩
    refine awf_seq fun K10 hK10 => ?_
    refine awf_lift hF ?_
    refine aw_reg [3, 7, 8, 9, 10, 11, 12, 14, 45, 46, 47] (by kernel_rfl) ?_
    simp (disch := omega) only [go_sem, seval, row16, spl_dr, List.length_map, upA_at, upA_up, rd9, rd10, rd30, wr10, wr30, sw10, sw30, Nat.reduceBNe, frz16, cond_true, cond_false]
    repeat refine And.intro obl ?_
    refine hK10 _ _ ?_; clear hK10
    refine awf_block ?_
    refine awf_loopK [3, 7, 8, 9, 10, 11, 45, 46, 47, 14, 62, 63] (fun n s ρ => ∃ i, ∃ N, n = tr.length - i ∧ s = rsM N ∧ (i ≤ tr.length) ∧ (InvI tr c kn at_ N be k i (fun a e => (a = at_ ∧ e ∈ r0.l.drop (k + 1)) ∨ Nx tr c at_ (gD r0.l k) i a e)) ∧ ρ = mkE (kS O N be) [(3, .dp [encTr tr]), (7, .dp [prV tr c]), (8, .dp (drL kn)), (9, .bp 100009 0), (10, .bp 100010 0), (11, .bx (plL at_)), (45, .sl 16 r0.l.length fun i => (r0.l.map drL).getD i []), (46, vi (r0.l.length : Nat)), (47, vi (k : Nat)), (14, .bx (drL (gD r0.l k))), (62, vi (tr.length : Nat)), (63, vi (i : Nat))]) _ ⟨0, M, rfl, rfl, ?_, ?_, ?_⟩ ?_
    · exact dfl
    · exact j17_0
    · simp (disch := omega) only [go_sem, seval, row16, spl_dr, List.length_map, upA_at, upA_up, rd9, rd10, rd30, wr10, wr30, sw10, sw30, Nat.reduceBNe, frz16, cond_true, cond_false] <;> first | rfl | omega | simp | simp_all
    rintro n s ρ ⟨i, N, rfl, rfl, l1_0, l1_1, rfl⟩ K11 hK11
    refine awf_seq fun K12 hK12 => ?_
    refine awf_lift hF ?_
    refine aw_reg [3, 7, 8, 9, 10, 11, 12, 14, 45, 46, 47, 62, 63] (by kernel_rfl) ?_
    simp (disch := omega) only [go_sem, seval, row16, spl_dr, List.length_map, upA_at, upA_up, rd9, rd10, rd30, wr10, wr30, sw10, sw30, Nat.reduceBNe, frz16, cond_true, cond_false]
    repeat refine And.intro obl ?_
    refine hK12 _ _ ?_; clear hK12
    refine awf_seq fun K13 hK13 => ?_
    refine awf_cond _ (by rfl) (rfl) (fun c2 => ?_) (fun c2 => ?_)
    · try simp only [push_cast] at c2
      refine awf_skip ?_
      refine hK13 _ _ ?_; clear hK13
      refine awf_seq fun K14 hK14 => ?_
      refine awf_block ?_
      refine awf_seq fun K15 hK15 => ?_
      refine awf_lift hF ?_
      refine aw_reg [3, 7, 8, 9, 10, 11, 12, 14, 45, 46, 47, 62, 63] (by kernel_rfl) ?_
      simp (disch := omega) only [go_sem, seval, row16, spl_dr, List.length_map, upA_at, upA_up, rd9, rd10, rd30, wr10, wr30, sw10, sw30, Nat.reduceBNe, frz16, cond_true, cond_false]
      repeat refine And.intro obl ?_
      refine hK15 _ _ ?_; clear hK15
      refine awf_seq fun K16 hK16 => ?_
      refine awf_seq fun K17 hK17 => ?_
      refine awf_lift hF ?_
      refine aw_regDc [3, 7, 8, 9, 10, 11, 12, 14, 15, 45, 46, 47, 62, 63] [] mixed (by kernel_rfl) ?_
      simp (disch := omega) only [go_sem, seval, row16, spl_dr, List.length_map, upA_at, upA_up, rd9, rd10, rd30, wr10, wr30, sw10, sw30, Nat.reduceBNe, frz16, cond_true, cond_false]
      repeat refine And.intro obl ?_
      refine hK17 _ _ ?_; clear hK17
      refine awf_cond _ (by rfl) (rfl) (fun c3 => ?_) (fun c3 => ?_)
      · try simp only [push_cast] at c3
        refine awf_exit ?_
        refine hK14 _ _ ?_; clear hK14
        refine awf_lift hF ?_
        refine aw_reg [3, 7, 8, 9, 10, 11, 12, 14, 45, 46, 47, 62, 63] (by kernel_rfl) ?_
        simp (disch := omega) only [go_sem, seval, row16, spl_dr, List.length_map, upA_at, upA_up, rd9, rd10, rd30, wr10, wr30, sw10, sw30, Nat.reduceBNe, frz16, cond_true, cond_false]
        repeat refine And.intro obl ?_
        refine hK11 _ _ _ ?_ ⟨i + 1, N, rfl, rfl, ?_, ?_, ?_⟩
        · exact dfl
        · exact dfl
        · exact l1_1.skip ho (by omega)
        · simp (disch := omega) only [go_sem, seval, row16, spl_dr, List.length_map, upA_at, upA_up, rd9, rd10, rd30, wr10, wr30, sw10, sw30, Nat.reduceBNe, frz16, cond_true, cond_false] <;> first | rfl | omega | simp | simp_all
      · try simp only [push_cast] at c3
        refine awf_skip ?_
        refine hK16 _ _ ?_; clear hK16
        refine awf_seq fun K18 hK18 => ?_
        have hl4 := ho.l i (by omega)
        have hai : at_ i < (tr.getD i default).fStops.length := by have := hat.1 i (by omega); omega
        have hrn : Rch tr c (upA at_ i (at_ i + 1)) (plD tr c (gD r0.l k) at_ i) := Rch.s hrd (by omega) hai
        have hbd2 : Bd (plD tr c (gD r0.l k) at_ i) := hrn.bd' ho
        have hvn : Vp tr (upA at_ i (at_ i + 1)) := hrn.vp ho
        refine awf_lift hF ?_
        refine aw_reg [3, 7, 8, 9, 10, 11, 12, 14, 15, 45, 46, 47, 62, 63] (by kernel_rfl) ?_
        simp (disch := omega) only [go_sem, seval, row16, spl_dr, List.length_map, upA_at, upA_up, rd9, rd10, rd30, wr10, wr30, sw10, sw30, Nat.reduceBNe, frz16, cond_true, cond_false]
        repeat refine And.intro obl ?_
        refine hK18 _ _ ?_; clear hK18
        refine awf_seq fun K19 hK19 => ?_
        refine awf_lift hF ?_
        refine aw_reg [3, 7, 8, 9, 10, 11, 12, 14, 15, 16, 45, 46, 47, 62, 63] (by kernel_rfl) ?_
        simp (disch := omega) only [go_sem, seval, row16, spl_dr, List.length_map, upA_at, upA_up, rd9, rd10, rd30, wr10, wr30, sw10, sw30, Nat.reduceBNe, frz16, cond_true, cond_false]
        repeat refine And.intro obl ?_
        refine hK19 _ _ ?_; clear hK19
        refine awf_seq fun K20 hK20 => ?_
        refine awf_lift hF ?_
        refine aw_reg [3, 7, 8, 9, 10, 11, 12, 14, 15, 16, 45, 46, 47, 62, 63] (by kernel_rfl) ?_
        simp (disch := omega) only [go_sem, seval, row16, spl_dr, List.length_map, upA_at, upA_up, rd9, rd10, rd30, wr10, wr30, sw10, sw30, Nat.reduceBNe, frz16, cond_true, cond_false]
        repeat refine And.intro obl ?_
        refine callG_of _ (dispatch_problem_place_ok _ tr c (gD r0.l k) at_ i ho (hrd.bd ho) (by omega) hai hat.1) ?_
        simp (disch := omega) only [go_sem, seval, row16, spl_dr, List.length_map, upA_at, upA_up, rd9, rd10, rd30, wr10, wr30, sw10, sw30, Nat.reduceBNe, frz16, cond_true, cond_false]
        repeat refine And.intro obl ?_
        refine hK20 _ _ ?_; clear hK20
        refine awf_seq fun K21 hK21 => ?_
        refine awf_lift hF ?_
        refine aw_reg [3, 7, 8, 9, 10, 11, 12, 14, 16, 17, 45, 46, 47, 62, 63] (by kernel_rfl) ?_
        simp (disch := omega) only [go_sem, seval, row16, spl_dr, List.length_map, upA_at, upA_up, rd9, rd10, rd30, wr10, wr30, sw10, sw30, Nat.reduceBNe, frz16, cond_true, cond_false]
        repeat refine And.intro obl ?_
        refine callG_of _ (dispatch_problem_before_ok _ tr c kn (plD tr c (gD r0.l k) at_ i) ho (hkn.bd' ho) hbd2) ?_
        simp (disch := omega) only [go_sem, seval, row16, spl_dr, List.length_map, upA_at, upA_up, rd9, rd10, rd30, wr10, wr30, sw10, sw30, Nat.reduceBNe, frz16, cond_true, cond_false]
        repeat refine And.intro obl ?_
        refine hK21 _ _ ?_; clear hK21
        refine awf_cond _ (by rfl) (rfl) (fun c4 => ?_) (fun c4 => ?_)
        · try simp only [push_cast] at c4
          obtain ⟨rN, N1, N2, hlN⟩ := lkS_ex N (upA at_ i (at_ i + 1))
          have hsm := lk_small ho l1_1 (by omega) hlN
          refine awf_drawX [3, 7, 8, 9, 10, 11, 12, 14, 16, 17, 45, 46, 47, 62, 63] hF mixed (fun Y hYm hY0 => ?_)
          have tT : ∀ (rr : Rw Dr), rr.l = addF tr rN.l (plD tr c (gD r0.l k) at_ i) (upA at_ i (at_ i + 1)) → ∀ ρ, keepC [3, 7, 8, 9, 10, 11, 45, 46, 47, 14, 62, 63, 16, 17, 92, 93, 94, 95, 96, 97, 98, 99, 100] ρ = mkE (kS O (N1 ++ ((upA at_ i (at_ i + 1)), rr) :: N2) be) [(3, .dp [encTr tr]), (7, .dp [prV tr c]), (8, .dp (drL kn)), (9, .bp 100009 0), (10, .bp 100010 0), (11, .bx (plL at_)), (45, .sl 16 r0.l.length fun i => (r0.l.map drL).getD i []), (46, vi (r0.l.length : Nat)), (47, vi (k : Nat)), (14, .bx (drL (gD r0.l k))), (62, vi (tr.length : Nat)), (63, vi (i : Nat)), (16, .bx (plL (upA at_ i (at_ i + 1)))), (17, .bx (drL (plD tr c (gD r0.l k) at_ i))), (92, .mr 100030), (93, .agg (plL (upA at_ i (at_ i + 1)))), (94, prV tr c), (95, .mr 100030), (96, .agg (plL (upA at_ i (at_ i + 1)))), (97, .v rN.val), (98, .agg (drL (plD tr c (gD r0.l k) at_ i))), (99, .agg (plL (upA at_ i (at_ i + 1)))), (100, .v rr.val)] → Y 0 #[true, true, true, true, true, true, true, true, true, true] (rsM N1 ++ rr :: rsM N2) ρ := by
            intro rr hrr ρ hρ
            refine hY0 _ [3, 7, 8, 9, 10, 11, 45, 46, 47, 14, 62, 63, 16, 17, 92, 93, 94, 95, 96, 97, 98, 99, 100] _ _ (by kernel_rfl) ?_
            rw [hρ]
            clear hYm hY0 hρ
            have hst : rsM N1 ++ rr :: rsM N2 = rsM (N1 ++ ((upA at_ i (at_ i + 1)), rr) :: N2) := by rw [rsM_app, rsM_cons]
            rw [hst]
            clear hst
            repeat refine And.intro obl ?_
            refine hK14 _ _ ?_; clear hK14
            refine awf_lift hF ?_
            refine aw_reg [3, 7, 8, 9, 10, 11, 12, 14, 45, 46, 47, 62, 63] (by kernel_rfl) ?_
            simp (disch := omega) only [go_sem, seval, row16, spl_dr, List.length_map, upA_at, upA_up, rd9, rd10, rd30, wr10, wr30, sw10, sw30, Nat.reduceBNe, frz16, cond_true, cond_false]
            repeat refine And.intro obl ?_
            refine hK11 _ _ _ ?_ ⟨i + 1, (N1 ++ ((upA at_ i (at_ i + 1)), rr) :: N2), rfl, rfl, ?_, ?_, ?_⟩
            · exact dfl
            · exact dfl
            · exact InvI.add ho hrd c2 hai (lk_add hlN) hrr l1_1
            · simp (disch := omega) only [go_sem, seval, row16, spl_dr, List.length_map, upA_at, upA_up, rd9, rd10, rd30, wr10, wr30, sw10, sw30, Nat.reduceBNe, frz16, cond_true, cond_false] <;> first | rfl | omega | simp | simp_all
          have main : ∀ (m : Nat) (b0 b1 b2 b3 b4 b5 b6 b7 b8 : Bool) (rr : Rw Dr), (b8 = true → rr.l = addF tr rN.l (plD tr c (gD r0.l k) at_ i) (upA at_ i (at_ i + 1))) → cB b0 + cB b1 + cB b2 + cB b3 + cB b4 + cB b5 + cB b6 + cB b7 + cB b8 + 1 = m → ∀ ρ, keepC [3, 7, 8, 9, 10, 11, 45, 46, 47, 14, 62, 63, 16, 17, 92, 93, 94, 95, 96, 97, 98, 99, 100] ρ = mkE (kS O N be) [(3, .dp [encTr tr]), (7, .dp [prV tr c]), (8, .dp (drL kn)), (9, .bp 100009 0), (10, .bp 100010 0), (11, .bx (plL at_)), (45, .sl 16 r0.l.length fun i => (r0.l.map drL).getD i []), (46, vi (r0.l.length : Nat)), (47, vi (k : Nat)), (14, .bx (drL (gD r0.l k))), (62, vi (tr.length : Nat)), (63, vi (i : Nat)), (16, .bx (plL (upA at_ i (at_ i + 1)))), (17, .bx (drL (plD tr c (gD r0.l k) at_ i))), (92, selD b0 (.mr 100030)), (93, selD b1 (.agg (plL (upA at_ i (at_ i + 1))))), (94, selD b2 (prV tr c)), (95, selD b3 (.mr 100030)), (96, selD b4 (.agg (plL (upA at_ i (at_ i + 1))))), (97, selD b5 (.v rN.val)), (98, selD b6 (.agg (drL (plD tr c (gD r0.l k) at_ i)))), (99, selD b7 (.agg (plL (upA at_ i (at_ i + 1))))), (100, selD b8 (.v rr.val))] → Y m #[b0, b1, b2, b3, b4, b5, b6, b7, b8, false] (bif b8 then rsM N1 ++ rr :: rsM N2 else rsM N) ρ := by
            intro m
            induction m with
            | zero =>
              intro b0 b1 b2 b3 b4 b5 b6 b7 b8 rr hrr hm
              omega
            | succ m ih =>
              intro b0 b1 b2 b3 b4 b5 b6 b7 b8 rr hrr hm  ρ hρ
              refine hYm m _ [3, 7, 8, 9, 10, 11, 45, 46, 47, 14, 62, 63, 16, 17, 92, 93, 94, 95, 96, 97, 98, 99, 100] _ _ (by kernel_rfl) rfl ⟨9, by decide, rfl⟩ ?_
              clear hY0 hYm
              intro iQ oQ hun hoQ hdep
              have hiQ : iQ < 10 := (List.getElem?_eq_some_iff.1 hoQ).1
              match iQ, hiQ with
              | 0, _ =>
                obtain rfl : b0 = false := hun
                obtain rfl := Option.some.inj hoQ
                clear hdep
                rw [hρ]
                refine owf_lift hF (effG_ok rfl (by kernel_rfl) (by kernel_rfl) ?_)
                simp (disch := omega) only [go_sem, seval, row16, spl_dr, List.length_map, upA_at, upA_up, rd9, rd10, rd30, wr10, wr30, sw10, sw30, Nat.reduceBNe, frz16, cond_true, cond_false]
                repeat refine And.intro obl ?_
                refine ih true b1 b2 b3 b4 b5 b6 b7 b8 rr hrr ?_  _ ?_
                · simp only [cB, cond_true, cond_false] at hm ⊢; omega
                · simp (disch := omega) only [go_sem, seval, row16, spl_dr, List.length_map, upA_at, upA_up, rd9, rd10, rd30, wr10, wr30, sw10, sw30, Nat.reduceBNe, frz16, cond_true, cond_false] <;> first | rfl | simp
              | 1, _ =>
                obtain rfl : b1 = false := hun
                obtain rfl := Option.some.inj hoQ
                clear hdep
                rw [hρ]
                refine owf_lift hF (effG_ok rfl (by kernel_rfl) (by kernel_rfl) ?_)
                simp (disch := omega) only [go_sem, seval, row16, spl_dr, List.length_map, upA_at, upA_up, rd9, rd10, rd30, wr10, wr30, sw10, sw30, Nat.reduceBNe, frz16, cond_true, cond_false]
                repeat refine And.intro obl ?_
                refine ih b0 true b2 b3 b4 b5 b6 b7 b8 rr hrr ?_  _ ?_
                · simp only [cB, cond_true, cond_false] at hm ⊢; omega
                · simp (disch := omega) only [go_sem, seval, row16, spl_dr, List.length_map, upA_at, upA_up, rd9, rd10, rd30, wr10, wr30, sw10, sw30, Nat.reduceBNe, frz16, cond_true, cond_false] <;> first | rfl | simp
              | 2, _ =>
                obtain rfl : b2 = false := hun
                obtain rfl := Option.some.inj hoQ
                clear hdep
                rw [hρ]
                refine owf_lift hF (effG_ok rfl (by kernel_rfl) (by kernel_rfl) ?_)
                simp (disch := omega) only [go_sem, seval, row16, spl_dr, List.length_map, upA_at, upA_up, rd9, rd10, rd30, wr10, wr30, sw10, sw30, Nat.reduceBNe, frz16, cond_true, cond_false]
                repeat refine And.intro obl ?_
                refine ih b0 b1 true b3 b4 b5 b6 b7 b8 rr hrr ?_  _ ?_
                · simp only [cB, cond_true, cond_false] at hm ⊢; omega
                · simp (disch := omega) only [go_sem, seval, row16, spl_dr, List.length_map, upA_at, upA_up, rd9, rd10, rd30, wr10, wr30, sw10, sw30, Nat.reduceBNe, frz16, cond_true, cond_false] <;> first | rfl | simp
              | 3, _ =>
                obtain rfl : b3 = false := hun
                obtain rfl := Option.some.inj hoQ
                clear hdep
                rw [hρ]
                refine owf_lift hF (effG_ok rfl (by kernel_rfl) (by kernel_rfl) ?_)
                simp (disch := omega) only [go_sem, seval, row16, spl_dr, List.length_map, upA_at, upA_up, rd9, rd10, rd30, wr10, wr30, sw10, sw30, Nat.reduceBNe, frz16, cond_true, cond_false]
                repeat refine And.intro obl ?_
                refine ih b0 b1 b2 true b4 b5 b6 b7 b8 rr hrr ?_  _ ?_
                · simp only [cB, cond_true, cond_false] at hm ⊢; omega
                · simp (disch := omega) only [go_sem, seval, row16, spl_dr, List.length_map, upA_at, upA_up, rd9, rd10, rd30, wr10, wr30, sw10, sw30, Nat.reduceBNe, frz16, cond_true, cond_false] <;> first | rfl | simp
              | 4, _ =>
                obtain rfl : b4 = false := hun
                obtain rfl := Option.some.inj hoQ
                clear hdep
                rw [hρ]
                refine owf_lift hF (effG_ok rfl (by kernel_rfl) (by kernel_rfl) ?_)
                simp (disch := omega) only [go_sem, seval, row16, spl_dr, List.length_map, upA_at, upA_up, rd9, rd10, rd30, wr10, wr30, sw10, sw30, Nat.reduceBNe, frz16, cond_true, cond_false]
                repeat refine And.intro obl ?_
                refine ih b0 b1 b2 b3 true b5 b6 b7 b8 rr hrr ?_  _ ?_
                · simp only [cB, cond_true, cond_false] at hm ⊢; omega
                · simp (disch := omega) only [go_sem, seval, row16, spl_dr, List.length_map, upA_at, upA_up, rd9, rd10, rd30, wr10, wr30, sw10, sw30, Nat.reduceBNe, frz16, cond_true, cond_false] <;> first | rfl | simp
              | 5, _ =>
                obtain rfl : b5 = false := hun
                obtain rfl := Option.some.inj hoQ
                have e3 : b3 = true := by first | (refine hdep ⟨3, .data⟩ ?_ rfl; simp; done) | (refine hdep ⟨3, .phase⟩ ?_ rfl; simp; done) | (refine hdep ⟨3, .chain⟩ ?_ rfl; simp; done)
                have e4 : b4 = true := by first | (refine hdep ⟨4, .data⟩ ?_ rfl; simp; done) | (refine hdep ⟨4, .phase⟩ ?_ rfl; simp; done) | (refine hdep ⟨4, .chain⟩ ?_ rfl; simp; done)
                subst e3 e4
                clear hdep
                rw [hρ]
                refine owf_lift hF (ow_lookM (s := 100030) hlN ho (fun x hx => (l1_1.key x hx).2) hvn l1_1.un rfl rfl (by kernel_rfl) (by kernel_rfl) (by simp (disch := omega) only [go_sem, seval, row16, spl_dr, List.length_map, upA_at, upA_up, rd9, rd10, rd30, wr10, wr30, sw10, sw30, Nat.reduceBNe, frz16, cond_true, cond_false]) (by simp (disch := omega) only [go_sem, seval, row16, spl_dr, List.length_map, upA_at, upA_up, rd9, rd10, rd30, wr10, wr30, sw10, sw30, Nat.reduceBNe, frz16, cond_true, cond_false]) (by simp (disch := omega) only [go_sem, seval, row16, spl_dr, List.length_map, upA_at, upA_up, rd9, rd10, rd30, wr10, wr30, sw10, sw30, Nat.reduceBNe, frz16, cond_true, cond_false]; try trivial) (by simp (disch := omega) only [go_sem, seval, row16, spl_dr, List.length_map, upA_at, upA_up, rd9, rd10, rd30, wr10, wr30, sw10, sw30, Nat.reduceBNe, frz16, cond_true, cond_false]) ?_)
                simp (disch := omega) only [go_sem, seval, row16, spl_dr, List.length_map, upA_at, upA_up, rd9, rd10, rd30, wr10, wr30, sw10, sw30, Nat.reduceBNe, frz16, cond_true, cond_false]
                refine ih b0 b1 b2 true true true b6 b7 b8 rr hrr ?_  _ ?_
                · simp only [cB, cond_true, cond_false] at hm ⊢; omega
                · simp (disch := omega) only [go_sem, seval, row16, spl_dr, List.length_map, upA_at, upA_up, rd9, rd10, rd30, wr10, wr30, sw10, sw30, Nat.reduceBNe, frz16, cond_true, cond_false] <;> first | rfl | simp
              | 6, _ =>
                obtain rfl : b6 = false := hun
                obtain rfl := Option.some.inj hoQ
                clear hdep
                rw [hρ]
                refine owf_lift hF (effG_ok rfl (by kernel_rfl) (by kernel_rfl) ?_)
                simp (disch := omega) only [go_sem, seval, row16, spl_dr, List.length_map, upA_at, upA_up, rd9, rd10, rd30, wr10, wr30, sw10, sw30, Nat.reduceBNe, frz16, cond_true, cond_false]
                repeat refine And.intro obl ?_
                refine ih b0 b1 b2 b3 b4 b5 true b7 b8 rr hrr ?_  _ ?_
                · simp only [cB, cond_true, cond_false] at hm ⊢; omega
                · simp (disch := omega) only [go_sem, seval, row16, spl_dr, List.length_map, upA_at, upA_up, rd9, rd10, rd30, wr10, wr30, sw10, sw30, Nat.reduceBNe, frz16, cond_true, cond_false] <;> first | rfl | simp
              | 7, _ =>
                obtain rfl : b7 = false := hun
                obtain rfl := Option.some.inj hoQ
                clear hdep
                rw [hρ]
                refine owf_lift hF (effG_ok rfl (by kernel_rfl) (by kernel_rfl) ?_)
                simp (disch := omega) only [go_sem, seval, row16, spl_dr, List.length_map, upA_at, upA_up, rd9, rd10, rd30, wr10, wr30, sw10, sw30, Nat.reduceBNe, frz16, cond_true, cond_false]
                repeat refine And.intro obl ?_
                refine ih b0 b1 b2 b3 b4 b5 b6 true b8 rr hrr ?_  _ ?_
                · simp only [cB, cond_true, cond_false] at hm ⊢; omega
                · simp (disch := omega) only [go_sem, seval, row16, spl_dr, List.length_map, upA_at, upA_up, rd9, rd10, rd30, wr10, wr30, sw10, sw30, Nat.reduceBNe, frz16, cond_true, cond_false] <;> first | rfl | simp
              | 8, _ =>
                obtain rfl : b8 = false := hun
                obtain rfl := Option.some.inj hoQ
                have e2 : b2 = true := by first | (refine hdep ⟨2, .data⟩ ?_ rfl; simp; done) | (refine hdep ⟨2, .phase⟩ ?_ rfl; simp; done) | (refine hdep ⟨2, .chain⟩ ?_ rfl; simp; done)
                have e5 : b5 = true := by first | (refine hdep ⟨5, .data⟩ ?_ rfl; simp; done) | (refine hdep ⟨5, .phase⟩ ?_ rfl; simp; done) | (refine hdep ⟨5, .chain⟩ ?_ rfl; simp; done)
                have e6 : b6 = true := by first | (refine hdep ⟨6, .data⟩ ?_ rfl; simp; done) | (refine hdep ⟨6, .phase⟩ ?_ rfl; simp; done) | (refine hdep ⟨6, .chain⟩ ?_ rfl; simp; done)
                have e7 : b7 = true := by first | (refine hdep ⟨7, .data⟩ ?_ rfl; simp; done) | (refine hdep ⟨7, .phase⟩ ?_ rfl; simp; done) | (refine hdep ⟨7, .chain⟩ ?_ rfl; simp; done)
                subst e2 e5 e6 e7
                clear hdep
                rw [hρ]
                refine owf_mcall (f := 30) (l := [prV tr c, .v rN.val, .agg (drL (plD tr c (gD r0.l k) at_ i)), .agg (plL (upA at_ i (at_ i + 1)))]) (j := 1) (r := rN) (s1 := rsM N1) (s2 := rsM N2) (R := fun l' => l' = addF tr rN.l (plD tr c (gD r0.l k) at_ i) (upA at_ i (at_ i + 1))) rfl rfl rfl (by decide) (by kernel_rfl) (by simp (disch := omega) only [go_sem, seval, row16, spl_dr, List.length_map, upA_at, upA_up, rd9, rd10, rd30, wr10, wr30, sw10, sw30, Nat.reduceBNe, frz16, cond_true, cond_false]; try trivial) (fun x hx => by simp at hx; rcases hx with rfl | rfl | rfl | rfl <;> (simp (disch := omega) only [go_sem, seval, row16, spl_dr, List.length_map, upA_at, upA_up, rd9, rd10, rd30, wr10, wr30, sw10, sw30, Nat.reduceBNe, frz16, cond_true, cond_false]; try trivial)) (by simp (disch := omega) only [go_sem, seval, row16, spl_dr, List.length_map, upA_at, upA_up, rd9, rd10, rd30, wr10, wr30, sw10, sw30, Nat.reduceBNe, frz16, cond_true, cond_false]; first | done | rfl) (by kernel_rfl) rfl (lk_rs hlN) ((dispatch_problem_add_ok _ tr c (plD tr c (gD r0.l k) at_ i) (upA at_ i (at_ i + 1)) ho hbd2 hvn.1 rN.l hsm.1 hsm.2).mono fun ys hy => ⟨_, hy, rfl⟩) ?_
                clear hrr
                intro rr hrr
                refine ih b0 b1 true b3 b4 true true true true rr (fun _ => hrr) ?_  _ ?_
                · simp only [cB, cond_true, cond_false] at hm ⊢; omega
                · simp (disch := omega) only [go_sem, seval, row16, spl_dr, List.length_map, upA_at, upA_up, rd9, rd10, rd30, wr10, wr30, sw10, sw30, Nat.reduceBNe, frz16, cond_true, cond_false] <;> first | rfl | simp
              | 9, _ =>
                obtain rfl := Option.some.inj hoQ
                have e0 : b0 = true := by first | (refine hdep ⟨0, .data⟩ ?_ rfl; simp; done) | (refine hdep ⟨0, .phase⟩ ?_ rfl; simp; done) | (refine hdep ⟨0, .chain⟩ ?_ rfl; simp; done)
                have e1 : b1 = true := by first | (refine hdep ⟨1, .data⟩ ?_ rfl; simp; done) | (refine hdep ⟨1, .phase⟩ ?_ rfl; simp; done) | (refine hdep ⟨1, .chain⟩ ?_ rfl; simp; done)
                have e2 : b2 = true := by first | (refine hdep ⟨2, .data⟩ ?_ rfl; simp; done) | (refine hdep ⟨2, .phase⟩ ?_ rfl; simp; done) | (refine hdep ⟨2, .chain⟩ ?_ rfl; simp; done)
                have e3 : b3 = true := by first | (refine hdep ⟨3, .data⟩ ?_ rfl; simp; done) | (refine hdep ⟨3, .phase⟩ ?_ rfl; simp; done) | (refine hdep ⟨3, .chain⟩ ?_ rfl; simp; done)
                have e4 : b4 = true := by first | (refine hdep ⟨4, .data⟩ ?_ rfl; simp; done) | (refine hdep ⟨4, .phase⟩ ?_ rfl; simp; done) | (refine hdep ⟨4, .chain⟩ ?_ rfl; simp; done)
                have e5 : b5 = true := by first | (refine hdep ⟨5, .data⟩ ?_ rfl; simp; done) | (refine hdep ⟨5, .phase⟩ ?_ rfl; simp; done) | (refine hdep ⟨5, .chain⟩ ?_ rfl; simp; done)
                have e6 : b6 = true := by first | (refine hdep ⟨6, .data⟩ ?_ rfl; simp; done) | (refine hdep ⟨6, .phase⟩ ?_ rfl; simp; done) | (refine hdep ⟨6, .chain⟩ ?_ rfl; simp; done)
                have e7 : b7 = true := by first | (refine hdep ⟨7, .data⟩ ?_ rfl; simp; done) | (refine hdep ⟨7, .phase⟩ ?_ rfl; simp; done) | (refine hdep ⟨7, .chain⟩ ?_ rfl; simp; done)
                have e8 : b8 = true := by first | (refine hdep ⟨8, .data⟩ ?_ rfl; simp; done) | (refine hdep ⟨8, .phase⟩ ?_ rfl; simp; done) | (refine hdep ⟨8, .chain⟩ ?_ rfl; simp; done)
                subst e0 e1 e2 e3 e4 e5 e6 e7 e8
                clear hdep
                rw [hρ]
                obtain rfl : m = 0 := by simp only [cB, cond_true] at hm; omega
                refine owf_lift hF (ow_updM (s := 100030) (r' := rr) hlN ho (fun x hx => (l1_1.key x hx).2) hvn l1_1.un (.inl rfl) rfl rfl (by kernel_rfl) (by simp (disch := omega) only [go_sem, seval, row16, spl_dr, List.length_map, upA_at, upA_up, rd9, rd10, rd30, wr10, wr30, sw10, sw30, Nat.reduceBNe, frz16, cond_true, cond_false]) (by simp (disch := omega) only [go_sem, seval, row16, spl_dr, List.length_map, upA_at, upA_up, rd9, rd10, rd30, wr10, wr30, sw10, sw30, Nat.reduceBNe, frz16, cond_true, cond_false]) (by simp (disch := omega) only [go_sem, seval, row16, spl_dr, List.length_map, upA_at, upA_up, rd9, rd10, rd30, wr10, wr30, sw10, sw30, Nat.reduceBNe, frz16, cond_true, cond_false]; try trivial) (by simp (disch := omega) only [go_sem, seval, row16, spl_dr, List.length_map, upA_at, upA_up, rd9, rd10, rd30, wr10, wr30, sw10, sw30, Nat.reduceBNe, frz16, cond_true, cond_false]) (by simp (disch := omega) only [go_sem, seval, row16, spl_dr, List.length_map, upA_at, upA_up, rd9, rd10, rd30, wr10, wr30, sw10, sw30, Nat.reduceBNe, frz16, cond_true, cond_false]) ?_)
                simp (disch := omega) only [go_sem, seval, row16, spl_dr, List.length_map, upA_at, upA_up, rd9, rd10, rd30, wr10, wr30, sw10, sw30, Nat.reduceBNe, frz16, cond_true, cond_false]
                refine tT rr (hrr rfl) _ ?_
                · simp (disch := omega) only [go_sem, seval, row16, spl_dr, List.length_map, upA_at, upA_up, rd9, rd10, rd30, wr10, wr30, sw10, sw30, Nat.reduceBNe, frz16, cond_true, cond_false] <;> first | rfl | simp
          refine main 10 false false false false false false false false false (nilRw Dr) (fun h => by cases h) rfl  _ ?_
          simp (disch := omega) only [go_sem, seval, row16, spl_dr, List.length_map, upA_at, upA_up, rd9, rd10, rd30, wr10, wr30, sw10, sw30, Nat.reduceBNe, frz16, cond_true, cond_false] <;> first | rfl | simp
        · try simp only [push_cast] at c4
          refine awf_skip ?_
          refine hK14 _ _ ?_; clear hK14
          refine awf_lift hF ?_
          refine aw_reg [3, 7, 8, 9, 10, 11, 12, 14, 45, 46, 47, 62, 63] (by kernel_rfl) ?_
          simp (disch := omega) only [go_sem, seval, row16, spl_dr, List.length_map, upA_at, upA_up, rd9, rd10, rd30, wr10, wr30, sw10, sw30, Nat.reduceBNe, frz16, cond_true, cond_false]
          repeat refine And.intro obl ?_
          refine hK11 _ _ _ ?_ ⟨i + 1, N, rfl, rfl, ?_, ?_, ?_⟩
          · exact dfl
          · exact dfl
          · exact InvI.prune ho (by simpa using c4) l1_1
          · simp (disch := omega) only [go_sem, seval, row16, spl_dr, List.length_map, upA_at, upA_up, rd9, rd10, rd30, wr10, wr30, sw10, sw30, Nat.reduceBNe, frz16, cond_true, cond_false] <;> first | rfl | omega | simp | simp_all
    · try simp only [push_cast] at c2
      refine awf_exit ?_
      refine hK6 _ _ ?_; clear hK6
      refine awf_lift hF ?_
      refine aw_reg [3, 7, 8, 9, 10, 11, 12, 45, 46, 47] (by kernel_rfl) ?_
      simp (disch := omega) only [go_sem, seval, row16, spl_dr, List.length_map, upA_at, upA_up, rd9, rd10, rd30, wr10, wr30, sw10, sw30, Nat.reduceBNe, frz16, cond_true, cond_false]
      repeat refine And.intro obl ?_
      refine hK3 _ _ _ ?_ ⟨k + 1, N, be, rfl, rfl, ?_, ?_, ?_⟩
      · exact dfl
      · exact dfl
      · (have he : i = tr.length := (by omega); subst he; exact InvI.next ho l1_1)
      · simp (disch := omega) only [go_sem, seval, row16, spl_dr, List.length_map, upA_at, upA_up, rd9, rd10, rd30, wr10, wr30, sw10, sw30, Nat.reduceBNe, frz16, cond_true, cond_false] <;> first | rfl | omega | simp | simp_all
  · try simp only [push_cast] at c0
    refine awf_exit ?_
    try simp only [blockF_normal, blockF_exit, blockF_ret, thenF_normal, ↓reduceIte]
    refine ⟨rfl, M, best, r0.l, k, rfl, ?_, by omega, Nat.le_trans l0_0 hvis.2.2, l0_1⟩
    · simp (disch := omega) only [go_sem, seval, row16, spl_dr, List.length_map, upA_at, upA_up, rd9, rd10, rd30, wr10, wr30, sw10, sw30, Nat.reduceBNe, frz16, cond_true, cond_false]
end Go.Sg
