/- The orders of places that Solve visits: the function that it ranges over. Printed by genw.py. -/
import Derived.Test.YtbndgcddihbhlaaSgB
import Derived.Test.YtbndgcddihbhlaaD22
set_option linter.unusedVariables false
set_option linter.unusedSimpArgs false
set_option maxRecDepth 400000
namespace Go.Sg
open Go.Proofs
open Go.RowKit
noncomputable def cd50 : Code := Try.f50.body.getD .skip
def rkA (a : Pl) : Nat := a 0 * 125 + a 1 * 25 + a 2 * 5 + a 3
theorem rk_lt {a : Pl} (h : ∀ k, a k ≤ 4) : rkA a < 625 := by
  have := h 0; have := h 1; have := h 2; have := h 3; unfold rkA; omega
theorem rk_gt {tr : List Trip} (hn : tr.length ≤ 4) {a b : Pl} (ha : ∀ k, a k ≤ 4) (hb : ∀ k, b k ≤ 4) (h : Gt tr a b) : rkA b < rkA a := by
  obtain ⟨p, h1, h2, h3⟩ := h
  have := ha 0; have := ha 1; have := ha 2; have := ha 3
  have := hb 0; have := hb 1; have := hb 2; have := hb 3
  have hp : p < 4 := by omega
  unfold rkA
  match p, hp with
  | 0, _ => omega
  | 1, _ => have := h3 0 (by decide); omega
  | 2, _ => have := h3 0 (by decide); have := h3 1 (by decide); omega
  | 3, _ => have := h3 0 (by decide); have := h3 1 (by decide); have := h3 2 (by decide); omega
theorem dec01 : decide ((0 : Int) ≤ -1) = false := rfl
theorem dec02 : decide ((-1 : Int) < 0) = true := rfl
theorem zrA_id {tr : List Trip} {a : Pl} (h : Vp tr a) : zrA a tr.length = a := by
  funext q; unfold zrA; split
  · rename_i h'; exact (h.2 q h').symm
  · rfl
theorem zrA_at (a : Pl) (j : Nat) : zrA a (j + 1) j = a j := by unfold zrA; rw [if_neg (by omega)]
theorem zrA_s (a : Pl) (j : Nat) : upA (zrA a (j + 1)) j 0 = zrA a j := by
  funext q; unfold upA zrA
  by_cases h : q = j
  · subst h; rw [if_pos rfl, if_pos (Nat.le_refl _)]
  · rw [if_neg h]; by_cases h2 : j ≤ q
    · rw [if_pos (by omega), if_pos h2]
    · rw [if_neg (by omega), if_neg h2]
theorem nxA_eq (a : Pl) (j : Nat) : upA (zrA a (j + 1)) j (a j + 1) = nxA a j := rfl
theorem nx_gt {tr : List Trip} {a : Pl} {j : Nat} (hj : j < tr.length) : Gt tr (nxA a j) a := ⟨j, hj, by simp [nxA, upA], fun q hq => by unfold nxA upA zrA; rw [if_neg (by omega), if_neg (by omega)]⟩
theorem mixE_set (ρ ρ' : Env) {d : Nat} (x : DV) (h : d < 100000) : mixE (set ρ d x) ρ' = set (mixE ρ ρ') d x := by
  funext s; unfold mixE; rw [set_apply, set_apply]
  by_cases e : s = d
  · subst e; rw [if_pos h, if_pos rfl, if_pos rfl]
  · rw [if_neg e, if_neg e]
theorem mixE_outer (X ρ' : Env) : mixE (outer X) ρ' = hi ρ' := by
  funext s; unfold mixE hi; split
  · rename_i h; exact outer_lo X h
  · rfl
theorem hi_reR (R : Nat → DV) (n : Nat) (ρ : Env) : hi (reR R n ρ) = hi ρ := by
  funext s; unfold hi reR; split
  · rfl
  · rfl
theorem reR_at (R : Nat → DV) {n s : Nat} (ρ : Env) (h : s < n) (hn : n ≤ 100000) : reR R n ρ s = R s := by unfold reR; rw [if_pos (by omega), if_pos h]
theorem kS_id {O : Env} {M : Mp} {best : Dr} (h10 : O 10 = .bx (drL best)) (h30 : O 30 = .mo (esM M)) : O = kS O M best := by
  funext s; unfold kS; simp only [set_apply]; split
  · rename_i e; rw [e, h10]
  · split
    · rename_i e; rw [e, h30]
    · rfl
structure Fr (O : Env) (tr : List Trip) (c : Cl) (kn best : Dr) (M : Mp) : Prop where
  h3 : O 3 = .dp [encTr tr]
  h7 : O 7 = .dp [prV tr c]
  h8 : O 8 = .dp (drL kn)
  h9 : O 9 = .bx [.mr 30]
  h10 : O 10 = .bx (drL best)
  h30 : O 30 = .mo (esM M)
def KrR (tr : List Trip) (c : Cl) (kn : Dr) (O : Env) (at_ : Pl) (s' : List (Rw Dr)) (ρ' : Env) : Prop := ∃ (M' : Mp) (best' : Dr) (fs : List Dr) (k : Nat), s' = rsM M' ∧ hi ρ' = outer (kS O M' best') ∧ fs.length ≤ k ∧ k ≤ 4 ^ sA at_ ∧ InvI tr c kn at_ M' best' k 0 (fun a e => a = at_ ∧ e ∈ fs.drop k)
theorem solve_asg (O : Env) (tr : List Trip) (c : Cl) (kn best0 best : Dr) (M0 M : Mp) (at_ : Pl) (ho : Ok tr) (hkn : Full tr c kn) (hfr : Fr O tr c kn best0 M0) (hO : InvO tr c kn at_ M best) (hat : Vp tr at_) (ρ : Env) (hρ : hi ρ = outer (kS O M best)) :
    AW Try.prog 106 rgAB.1 (fun e1 ρ1 => e1 = .normal ∧ ∀ w1 I1 A1 G1, AWF Try.prog 106 (Fo drL 60 16 w1 I1 A1 G1) rgAB.2 (fun e' s' ρ' => e' = .normal ∧ KrR tr c kn O at_ s' ρ') (rsM M) ρ1) (set (reR (fun i => rdS i (O i)) 106 ρ) 39 (.agg (plL at_))) := by
  have h4 := vp4 ho hat
  have hs : sA at_ ≤ 16 := by have := h4 0; have := h4 1; have := h4 2; have := h4 3; unfold sA; omega
  have hr := solve_round O tr c kn best at_ M ho hkn hfr.h9 hO hat hs
  refine aw_weaken (Le.keepC [3, 7, 8, 9, 10, 39] _) ?_
  have r3 : rdS 3 (O 3) = .dp [encTr tr] := by rw [hfr.h3]; rfl
  have r7 : rdS 7 (O 7) = .dp [prV tr c] := by rw [hfr.h7]; rfl
  have r8 : rdS 8 (O 8) = .dp (drL kn) := by rw [hfr.h8]; rfl
  have r9 : rdS 9 (O 9) = .bp 100009 0 := by rw [hfr.h9]; rfl
  have r10 : rdS 10 (O 10) = .bp 100010 0 := by rw [hfr.h10]; rfl
  have he : keepC [3, 7, 8, 9, 10, 39] (set (reR (fun i => rdS i (O i)) 106 ρ) 39 (.agg (plL at_))) = set (set (set (set (set (set (outer (kS O M best)) 39 (.agg (plL at_))) 10 (.bp 100010 0)) 9 (.bp 100009 0)) 8 (.dp (drL kn))) 7 (.dp [prV tr c])) 3 (.dp [encTr tr]) := by
    simp only [keepC, set_apply, Nat.reduceEqDiff, if_false, if_true, reR_at _ ρ (show 3 < 106 by decide) (by decide), reR_at _ ρ (show 7 < 106 by decide) (by decide), reR_at _ ρ (show 8 < 106 by decide) (by decide), reR_at _ ρ (show 9 < 106 by decide) (by decide), reR_at _ ρ (show 10 < 106 by decide) (by decide), r3, r7, r8, r9, r10]
    rw [hi_set _ _ (by decide), hi_reR, hρ]
  rw [he]
  refine aw_reg [3, 7, 8, 9, 10, 39] (by kernel_rfl) ?_
  simp (disch := omega) only [go_sem, seval, List.length_map, upA_at, upA_up, zrA_at, zrA_s, nxA_eq, Nat.reduceBNe, cond_true, cond_false, dec01, dec02, Bool.false_eq_true, false_implies]
  repeat refine And.intro obl ?_
  try refine And.intro rfl ?_
  refine fun w1 I1 A1 G1 => awf_weaken (Le.keepC [3, 7, 8, 9, 10, 11] _) ?_
  simp (disch := omega) only [go_sem, seval, List.length_map, upA_at, upA_up, zrA_at, zrA_s, nxA_eq, Nat.reduceBNe, cond_true, cond_false, dec01, dec02, Bool.false_eq_true, false_implies]
  exact hr w1 I1 A1 G1
set_option maxRecDepth 20000 in
set_option maxHeartbeats 8000000 in
theorem orders_walk (O : Env) (tr : List Trip) (c : Cl) (kn best0 : Dr) (M0 : Mp) (ho : Ok tr) (hkn : Full tr c kn) (hfr : Fr O tr c kn best0 M0) (hO0 : InvO tr c kn (fun _ => 0) M0 best0) : ∀ w1 I1 A1 G1 l D rec, rec.params = #[39] → rec.assign = rgAB.1 → rec.body = rgAB.2 → rec.state = .ready → rec.pending = none → rec.tmps.size = 106 → AWF Try.prog 43 (FO drL 60 16 w1 I1 A1 G1 l D rec (fun i => rdS i (O i)) 106) cd50 (fun e' s' ρ' => (e' = .ret ∨ e' = .normal) ∧ ∃ O', hi ρ' = outer O' ∧ SameForm O O' ∧ ∃ (M : Mp) (best : Dr), O' = kS O M best ∧ Full tr c best ∧ ∀ f, Full tr c f → cmD tr best f (enA tr) ≤ 0) (rsM M0) (entry O [.v (.func (.yield l) #[] #[]), .dp [prV tr c]]) := by
  have hn := ho.n
  intro w1 I1 A1 G1 l D rec hpar hasg hbody hst hpe hsz
  have hF : StF (FO drL 60 16 w1 I1 A1 G1 l D rec (fun i => rdS i (O i)) 106) := fo_stO (fun i _ => isOut_rdS _ _)
  try simp only [mkE]
  refine awf_seq fun K0 hK0 => ?_
  refine awf_lift hF ?_
  refine aw_reg [0, 1] (by kernel_rfl) ?_
  simp (disch := omega) only [go_sem, seval, List.length_map, upA_at, upA_up, zrA_at, zrA_s, nxA_eq, Nat.reduceBNe, cond_true, cond_false, dec01, dec02, Bool.false_eq_true, false_implies]
  repeat refine And.intro obl ?_
  refine hK0 _ _ ?_; clear hK0
  refine awf_block ?_
  refine awf_loopK [0, 1, 3] (fun n s ρ => ∃ at_, ∃ M, ∃ best, n = 625 - rkA at_ ∧ s = rsM M ∧ (InvO tr c kn at_ M best) ∧ (Vp tr at_) ∧ ρ = mkE (kS O M best) [(0, .v (.func (.yield l) #[] #[])), (1, .dp [prV tr c]), (3, .bx (plL at_))]) _ ⟨(fun _ => 0), M0, best0, rfl, rfl, ?_, ?_, ?_⟩ ?_
  · exact hO0
  · exact ⟨fun _ _ => Nat.zero_le _, fun _ _ => rfl⟩
  · simp (disch := omega) only [go_sem, seval, List.length_map, upA_at, upA_up, zrA_at, zrA_s, nxA_eq, Nat.reduceBNe, cond_true, cond_false, dec01, dec02, Bool.false_eq_true, false_implies] <;> (rw [← kS_id hfr.h10 hfr.h30]; rfl)
  rintro n s ρ ⟨at_, M, best, rfl, rfl, l0_0, l0_1, rfl⟩ K1 hK1
  refine awf_block ?_
  refine awf_seq fun K2 hK2 => ?_
  refine awf_seq fun K3 hK3 => ?_
  refine awf_weaken (Le.keepC [0, 1, 3] _) ?_
  refine awf_region ?_
  refine owf_lift hF ?_
  refine effG_ok rfl (by kernel_rfl) (by kernel_rfl) ?_
  simp (disch := omega) only [go_sem, seval, List.length_map, upA_at, upA_up, zrA_at, zrA_s, nxA_eq, Nat.reduceBNe, cond_true, cond_false, dec01, dec02, Bool.false_eq_true, false_implies]
  repeat refine And.intro obl ?_
  refine owf_lift hF ?_
  refine effG_ok rfl (by kernel_rfl) (by kernel_rfl) ?_
  simp (disch := omega) only [go_sem, seval, List.length_map, upA_at, upA_up, zrA_at, zrA_s, nxA_eq, Nat.reduceBNe, cond_true, cond_false, dec01, dec02, Bool.false_eq_true, false_implies]
  repeat refine And.intro obl ?_
  refine owf_yield (asg := rgAB.1) (body := rgAB.2) (x := .agg (plL at_)) (p := 39) (d := 7) (l := l) (Kr := KrR tr c kn O at_) rfl rfl rfl (by decide) (by kernel_rfl) (by simp (disch := omega) only [go_sem, seval, List.length_map, upA_at, upA_up, zrA_at, zrA_s, nxA_eq, Nat.reduceBNe, cond_true, cond_false, dec01, dec02, Bool.false_eq_true, false_implies]) (by simp (disch := omega) only [go_sem, seval, List.length_map, upA_at, upA_up, zrA_at, zrA_s, nxA_eq, Nat.reduceBNe, cond_true, cond_false, dec01, dec02, Bool.false_eq_true, false_implies]; try trivial) (by simp (disch := omega) only [go_sem, seval, List.length_map, upA_at, upA_up, zrA_at, zrA_s, nxA_eq, Nat.reduceBNe, cond_true, cond_false, dec01, dec02, Bool.false_eq_true, false_implies]; try rfl) (plL_k _ _) hpar (by decide) hst hpe hsz (by decide) (fun i _ => isOut_rdS _ _) hasg hbody (solve_asg O tr c kn best0 best M0 M at_ ho hkn hfr l0_0 l0_1 _ (by simp (disch := omega) only [go_sem, seval, List.length_map, upA_at, upA_up, zrA_at, zrA_s, nxA_eq, Nat.reduceBNe, cond_true, cond_false, dec01, dec02, Bool.false_eq_true, false_implies])) ?_
  rintro s' ρ' ⟨M', best', fs, kk, rfl, hhi, hk1, hk2, hI⟩
  simp (disch := omega) only [mixE_set, mixE_outer, hhi]
  try simp (disch := omega) only [go_sem, seval, List.length_map, upA_at, upA_up, zrA_at, zrA_s, nxA_eq, Nat.reduceBNe, cond_true, cond_false, dec01, dec02, Bool.false_eq_true, false_implies]
  refine owf_lift hF ?_
  refine effG_ok rfl (by kernel_rfl) (by kernel_rfl) ?_
  simp (disch := omega) only [go_sem, seval, List.length_map, upA_at, upA_up, zrA_at, zrA_s, nxA_eq, Nat.reduceBNe, cond_true, cond_false, dec01, dec02, Bool.false_eq_true, false_implies]
  repeat refine And.intro obl ?_
  repeat refine And.intro obl ?_
  refine hK3 _ _ ?_; clear hK3
  refine awf_cond false (by rfl) (rfl) (fun h => by cases h) (fun _ => ?_)
  refine awf_skip ?_
  refine hK2 _ _ ?_; clear hK2
  refine awf_seq fun K4 hK4 => ?_
  refine awf_lift hF ?_
  refine aw_reg [0, 1, 3] (by kernel_rfl) ?_
  simp (disch := omega) only [go_sem, seval, List.length_map, upA_at, upA_up, zrA_at, zrA_s, nxA_eq, Nat.reduceBNe, cond_true, cond_false, dec01, dec02, Bool.false_eq_true, false_implies]
  repeat refine And.intro obl ?_
  refine hK4 _ _ ?_; clear hK4
  refine awf_seq fun K5 hK5 => ?_
  refine awf_block ?_
  refine awf_loopK [0, 1, 3, 4] (fun n s ρ => ∃ j, n = 2 * j ∧ s = rsM M' ∧ (j ≤ tr.length) ∧ (∀ q, j ≤ q → q < tr.length → at_ q = (tr.getD q default).fStops.length) ∧ ρ = mkE (kS O M' best') [(0, .v (.func (.yield l) #[] #[])), (1, .dp [prV tr c]), (3, .bx (plL (zrA at_ j))), (4, .v (.int .i64 ((j : Int) - 1)))]) _ ⟨tr.length, rfl, rfl, ?_, ?_, ?_⟩ ?_
  · exact dfl
  · intro q h1 h2; omega
  · simp (disch := omega) only [go_sem, seval, List.length_map, upA_at, upA_up, zrA_at, zrA_s, nxA_eq, Nat.reduceBNe, cond_true, cond_false, dec01, dec02, Bool.false_eq_true, false_implies] <;> rw [zrA_id l0_1]
  rintro n s ρ ⟨j, rfl, rfl, l1_0, l1_1, rfl⟩ K6 hK6
  rcases j with _ | j
  rw [show (((0 : Nat) : Int) - 1) = -1 by rfl]
  rotate_left
  rw [show (((j + 1 : Nat) : Int) - 1) = (j : Int) by omega]
  rotate_left
  · skip
    refine awf_seq fun K7 hK7 => ?_
    refine awf_seq fun K8 hK8 => ?_
    refine awf_lift hF ?_
    refine aw_regDc [0, 1, 3, 4] [] mixed (by kernel_rfl) ?_
    simp (disch := omega) only [go_sem, seval, List.length_map, upA_at, upA_up, zrA_at, zrA_s, nxA_eq, Nat.reduceBNe, cond_true, cond_false, dec01, dec02, Bool.false_eq_true, false_implies]
    repeat refine And.intro obl ?_
    refine hK8 _ _ ?_; clear hK8
    refine awf_cond false (by rfl) (rfl) (fun h => by cases h) (fun _ => ?_)
    refine awf_exit ?_
    refine hK5 _ _ ?_; clear hK5
    refine awf_seq fun K9 hK9 => ?_
    refine awf_seq fun K10 hK10 => ?_
    refine awf_lift hF ?_
    refine aw_reg [0, 1, 3, 4] (by kernel_rfl) ?_
    simp (disch := omega) only [go_sem, seval, List.length_map, upA_at, upA_up, zrA_at, zrA_s, nxA_eq, Nat.reduceBNe, cond_true, cond_false, dec01, dec02, Bool.false_eq_true, false_implies]
    repeat refine And.intro obl ?_
    refine hK10 _ _ ?_; clear hK10
    refine awf_cond true (by rfl) (rfl) (fun _ => ?_) (fun h => by cases h)
    refine awf_ret ?_
    try simp only [blockF_ret, blockF_exit, blockF_normal, thenF_ret, ↓reduceIte]
    refine ⟨by first | exact .inl rfl | simp, kS O M' best', ?_, kS_form O M0 M' best0 best' hfr.h10 hfr.h30, M', best', rfl, hI.last ho hk1 (fun q hq => l1_1 q (Nat.zero_le q) hq)⟩
    · simp (disch := omega) only [go_sem, seval, List.length_map, upA_at, upA_up, zrA_at, zrA_s, nxA_eq, Nat.reduceBNe, cond_true, cond_false, dec01, dec02, Bool.false_eq_true, false_implies]
  · skip
    refine awf_seq fun K11 hK11 => ?_
    refine awf_seq fun K12 hK12 => ?_
    refine awf_lift hF ?_
    refine aw_regDc [0, 1, 3, 4] [] mixed (by kernel_rfl) ?_
    simp (disch := omega) only [go_sem, seval, List.length_map, upA_at, upA_up, zrA_at, zrA_s, nxA_eq, Nat.reduceBNe, cond_true, cond_false, dec01, dec02, Bool.false_eq_true, false_implies]
    repeat refine And.intro obl ?_
    refine hK12 _ _ ?_; clear hK12
    refine awf_cond _ (by rfl) (rfl) (fun c3 => ?_) (fun c3 => ?_)
    · try simp only [push_cast] at c3
      refine awf_skip ?_
      refine hK11 _ _ ?_; clear hK11
      refine awf_block ?_
      refine awf_seq fun K13 hK13 => ?_
      refine awf_lift hF ?_
      refine aw_reg [0, 1, 3, 4] (by kernel_rfl) ?_
      simp (disch := omega) only [go_sem, seval, List.length_map, upA_at, upA_up, zrA_at, zrA_s, nxA_eq, Nat.reduceBNe, cond_true, cond_false, dec01, dec02, Bool.false_eq_true, false_implies]
      repeat refine And.intro obl ?_
      refine hK13 _ _ ?_; clear hK13
      refine awf_lift hF ?_
      refine aw_reg [0, 1, 3, 4] (by kernel_rfl) ?_
      simp (disch := omega) only [go_sem, seval, List.length_map, upA_at, upA_up, zrA_at, zrA_s, nxA_eq, Nat.reduceBNe, cond_true, cond_false, dec01, dec02, Bool.false_eq_true, false_implies]
      repeat refine And.intro obl ?_
      refine hK6 _ _ _ ?_ ⟨j, rfl, rfl, ?_, ?_, ?_⟩
      · exact dfl
      · exact dfl
      · (intro q h1 h2; rcases Nat.eq_or_lt_of_le h1 with rfl | h; exact c3; exact l1_1 q h h2)
      · simp (disch := omega) only [go_sem, seval, List.length_map, upA_at, upA_up, zrA_at, zrA_s, nxA_eq, Nat.reduceBNe, cond_true, cond_false, dec01, dec02, Bool.false_eq_true, false_implies] <;> first | rfl | omega | simp | simp_all
    · try simp only [push_cast] at c3
      refine awf_exit ?_
      refine hK5 _ _ ?_; clear hK5
      refine awf_seq fun K14 hK14 => ?_
      refine awf_seq fun K15 hK15 => ?_
      refine awf_lift hF ?_
      refine aw_reg [0, 1, 3, 4] (by kernel_rfl) ?_
      simp (disch := omega) only [go_sem, seval, List.length_map, upA_at, upA_up, zrA_at, zrA_s, nxA_eq, Nat.reduceBNe, cond_true, cond_false, dec01, dec02, Bool.false_eq_true, false_implies]
      repeat refine And.intro obl ?_
      refine hK15 _ _ ?_; clear hK15
      refine awf_cond false (by rfl) (rfl) (fun h => by cases h) (fun _ => ?_)
      refine awf_skip ?_
      refine hK14 _ _ ?_; clear hK14
      have hj : j < tr.length := by omega
      have hl4 := ho.l j hj
      have hlj := l0_1.1 j hj
      have hgt := nx_gt (tr := tr) (a := at_) hj
      have hvn := vp_next ho hj l0_1 (by simpa using c3)
      have hrk := rk_gt ho.n (vp4 ho hvn) (vp4 ho l0_1) hgt
      have hrl := rk_lt (vp4 ho hvn)
      refine awf_lift hF ?_
      refine aw_reg [0, 1, 3, 4] (by kernel_rfl) ?_
      simp (disch := omega) only [go_sem, seval, List.length_map, upA_at, upA_up, zrA_at, zrA_s, nxA_eq, Nat.reduceBNe, cond_true, cond_false, dec01, dec02, Bool.false_eq_true, false_implies]
      repeat refine And.intro obl ?_
      refine hK1 _ _ _ ?_ ⟨nxA at_ j, M', best', rfl, rfl, ?_, ?_, ?_⟩
      · exact dfl
      · exact hI.done ho hk1 hk2 hgt (fun a ha hg => ge_next hj ha l0_1 (fun q h1 h2 => l1_1 q h1 h2) hg)
      · exact hvn
      · simp (disch := omega) only [go_sem, seval, List.length_map, upA_at, upA_up, zrA_at, zrA_s, nxA_eq, Nat.reduceBNe, cond_true, cond_false, dec01, dec02, Bool.false_eq_true, false_implies] <;> first | rfl | omega | simp | simp_all
end Go.Sg
