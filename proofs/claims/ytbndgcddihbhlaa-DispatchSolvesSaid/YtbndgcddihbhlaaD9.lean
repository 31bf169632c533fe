/- Contract of place. Printed by genw.py. -/
import Derived.Test.YtbndgcddihbhlaaSgB
import Derived.Test.YtbndgcddihbhlaaD8
set_option linter.unusedVariables false
set_option linter.unusedSimpArgs false
set_option maxRecDepth 8000
namespace Go.Sg
open Go.Proofs
def plE (tr : List Trip) (d : Dr) (a : Pl) (i : Nat) : Int := d i (a i) + ((tr.getD i default).fStops.getD (a i) default).fRun
def plB0 (tr : List Trip) (c : Cl) (d : Dr) (a : Pl) (i k m : Nat) : Int := if c i (a i) k m = true then (if d k m < plE tr d a i then plE tr d a i else d k m) else d k m
def plR (tr : List Trip) (c : Cl) (d : Dr) (a : Pl) (i k : Nat) : Nat → Int
  | 0 => if a k ≤ 0 then plB0 tr c d a i k 0 else d k 0
  | m + 1 => if a k ≤ m + 1 then (if a k < m + 1 then (if plB0 tr c d a i k (m + 1) < plR tr c d a i k m + ((tr.getD k default).fStops.getD m default).fRun then plR tr c d a i k m + ((tr.getD k default).fStops.getD m default).fRun else plB0 tr c d a i k (m + 1)) else plB0 tr c d a i k (m + 1)) else d k (m + 1)
def plD (tr : List Trip) (c : Cl) (d : Dr) (a : Pl) (i : Nat) : Dr := fun x y => if x ≠ i ∧ x < tr.length ∧ y < (tr.getD x default).fStops.length then plR tr c d a i x y else d x y
def plP (tr : List Trip) (c : Cl) (d : Dr) (a : Pl) (i k m : Nat) : Dr := fun x y => if x ≠ i ∧ ((x < k ∧ y < (tr.getD x default).fStops.length) ∨ (x = k ∧ y < m)) then plR tr c d a i x y else d x y
section
variable {tr : List Trip} {c : Cl} {d : Dr} {a : Pl} {i k m : Nat}
theorem plR_lo (h : m < a k) : plR tr c d a i k m = d k m := by
  cases m with
  | zero => rw [plR, if_neg (by omega)]
  | succ m => rw [plR, if_neg (by omega)]
theorem plP_z : plP tr c d a i 0 0 = d := by
  funext x y; unfold plP; rw [if_neg (by omega)]
theorem plP_i (h : k = i) : plP tr c d a i k 0 = plP tr c d a i (k + 1) 0 := by
  subst h
  funext x y; unfold plP
  by_cases h1 : x ≠ k ∧ (x < k ∧ y < (tr.getD x default).fStops.length)
  · rw [if_pos (by omega), if_pos (by omega)]
  · rw [if_neg (by omega), if_neg (by omega)]
theorem plP_a : plP tr c d a i k (a k) = plP tr c d a i k 0 := by
  funext x y; unfold plP
  by_cases h1 : x ≠ i ∧ (x < k ∧ y < (tr.getD x default).fStops.length)
  · rw [if_pos (by omega), if_pos (by omega)]
  · rw [if_neg (c := x ≠ i ∧ ((x < k ∧ y < (tr.getD x default).fStops.length) ∨ (x = k ∧ y < 0))) (by omega)]
    split
    · rename_i h2
      obtain ⟨_, h3⟩ := h2
      rcases h3 with h3 | ⟨rfl, h3⟩
      · exact absurd ⟨by omega, h3⟩ h1
      · exact plR_lo h3
    · rfl
theorem plP_e (h : (tr.getD k default).fStops.length ≤ m) (h2 : m ≤ (tr.getD k default).fStops.length) : plP tr c d a i k m = plP tr c d a i (k + 1) 0 := by
  have : m = (tr.getD k default).fStops.length := by omega
  subst this
  funext x y; unfold plP
  by_cases hx : x = k
  · subst hx
    by_cases h1 : x ≠ i ∧ y < (tr.getD x default).fStops.length
    · rw [if_pos (by omega), if_pos (by omega)]
    · rw [if_neg (by omega), if_neg (by omega)]
  · by_cases h1 : x ≠ i ∧ (x < k ∧ y < (tr.getD x default).fStops.length)
    · rw [if_pos (by omega), if_pos (by omega)]
    · rw [if_neg (by omega), if_neg (by omega)]
theorem plP_d (h : tr.length ≤ k) (h2 : k ≤ tr.length) : plP tr c d a i k 0 = plD tr c d a i := by
  have : k = tr.length := by omega
  subst this
  funext x y; unfold plP plD
  by_cases h1 : x ≠ i ∧ x < tr.length ∧ y < (tr.getD x default).fStops.length
  · rw [if_pos (by omega), if_pos h1]
  · rw [if_neg (by omega), if_neg h1]
theorem plP_cur : plP tr c d a i k m k m = d k m := by unfold plP; rw [if_neg (by omega)]
theorem plP_pre (hk : ¬ k = i) (h : 0 < m) : plP tr c d a i k m k (m - 1) = plR tr c d a i k (m - 1) := by unfold plP; rw [if_pos ⟨hk, Or.inr ⟨rfl, by omega⟩⟩]
theorem upD_upD (d : Dr) (i j : Nat) (u v : Int) : upD (upD d i j u) i j v = upD d i j v := by
  funext x y; simp only [upD]; split <;> rfl
theorem plP_s (hk : ¬ k = i) {v : Int} (hv : v = plR tr c d a i k m) : upD (plP tr c d a i k m) k m v = plP tr c d a i k (m + 1) := by
  funext x y
  simp only [upD, plP]
  by_cases h : x = k ∧ y = m
  · rw [if_pos h, if_pos (by omega), h.1, h.2, hv]
  · rw [if_neg h]
    by_cases h2 : x ≠ i ∧ ((x < k ∧ y < (tr.getD x default).fStops.length) ∨ (x = k ∧ y < m))
    · rw [if_pos h2, if_pos (by omega)]
    · rw [if_neg h2, if_neg (by omega)]
theorem plP_n (hk : ¬ k = i) (hv : d k m = plR tr c d a i k m) : plP tr c d a i k m = plP tr c d a i k (m + 1) := by
  rw [← plP_s hk hv]
  funext x y
  simp only [upD]
  split
  · rename_i h; rw [h.1, h.2]; exact plP_cur
  · rfl
theorem plR_hi (h : a k < m) : plR tr c d a i k m = if plB0 tr c d a i k m < plR tr c d a i k (m - 1) + ((tr.getD k default).fStops.getD (m - 1) default).fRun then plR tr c d a i k (m - 1) + ((tr.getD k default).fStops.getD (m - 1) default).fRun else plB0 tr c d a i k m := by
  obtain ⟨q, rfl⟩ : ∃ q, m = q + 1 := ⟨m - 1, by omega⟩
  simp only [Nat.add_sub_cancel]
  rw [plR, if_pos (show a k ≤ q + 1 by omega), if_pos h]
theorem plR_at (h : m = a k) : plR tr c d a i k m = plB0 tr c d a i k m := by
  cases m with
  | zero => rw [plR, if_pos (show a k ≤ 0 by omega)]
  | succ m => rw [plR, if_pos (show a k ≤ m + 1 by omega), if_neg (show ¬ a k < m + 1 by omega)]
theorem b0_t (hc : c i (a i) k m = true) : plB0 tr c d a i k m = if d k m < plE tr d a i then plE tr d a i else d k m := by rw [plB0, if_pos hc]
theorem b0_f (hc : c i (a i) k m = false) : plB0 tr c d a i k m = d k m := by rw [plB0, if_neg (by rw [hc]; simp)]
theorem vlA (hc : c i (a i) k m = true) (h : a k < m) : (if (if d k m < plE tr d a i then plE tr d a i else d k m) < plR tr c d a i k (m - 1) + ((tr.getD k default).fStops.getD (m - 1) default).fRun then plR tr c d a i k (m - 1) + ((tr.getD k default).fStops.getD (m - 1) default).fRun else (if d k m < plE tr d a i then plE tr d a i else d k m)) = plR tr c d a i k m := by
  rw [plR_hi h, b0_t hc]
theorem vlB (hc : c i (a i) k m = true) (h : m = a k) : (if d k m < plE tr d a i then plE tr d a i else d k m) = plR tr c d a i k m := by rw [plR_at h, b0_t hc]
theorem vlC (hc : c i (a i) k m = false) (h : a k < m) : (if d k m < plR tr c d a i k (m - 1) + ((tr.getD k default).fStops.getD (m - 1) default).fRun then plR tr c d a i k (m - 1) + ((tr.getD k default).fStops.getD (m - 1) default).fRun else d k m) = plR tr c d a i k m := by rw [plR_hi h, b0_f hc]
theorem vlD (hc : c i (a i) k m = false) (h : m = a k) : d k m = plR tr c d a i k m := by rw [plR_at h, b0_f hc]
theorem cl_at (c : Cl) {i j k m : Nat} (hi : i < 4) (hj : j < 4) (hk : k < 4) (hm : m < 4) : (((((clL c).drop (i * 64)).drop (j * 16)).drop (k * 4)).drop m).getD 0 .any = vb (c i j k m) := by
  rw [List.drop_drop, List.drop_drop, List.drop_drop, ← clL_get c hi hj hk hm, List.getD_eq_getElem?_getD, List.getElem?_drop, List.getD_eq_getElem?_getD]
  congr 2; omega
theorem cl_ln (c : Cl) {i j k m : Nat} (hi : i < 4) (hj : j < 4) (hk : k < 4) (hm : m < 4) : (0 < (((((clL c).drop (i * 64)).drop (j * 16)).drop (k * 4)).drop m).length) = True := by
  simp only [List.length_drop, clL_len, eq_iff_iff, iff_true]; omega
def Bn (d : Dr) (N : Int) : Prop := ∀ x y, 0 ≤ d x y ∧ d x y ≤ N
theorem plR_b (ho : Ok tr) {N : Int} (hd : Bn d N) (hi : i < tr.length) (hai : a i < (tr.getD i default).fStops.length) (hk : k < tr.length) : ∀ m, m < (tr.getD k default).fStops.length → 0 ≤ plR tr c d a i k m ∧ plR tr c d a i k m ≤ N + 1000 + 1000 * m
  | 0, hm => by
    have h1 := hd k 0
    have h2 := hd i (a i)
    have h3 := ho.s i (a i) hi hai
    unfold plR plB0 plE
    split <;> (try split) <;> (try split) <;> omega
  | m + 1, hm => by
    have h1 := hd k (m + 1)
    have h2 := hd i (a i)
    have h3 := ho.s i (a i) hi hai
    have h4 := plR_b ho hd hi hai hk m (by omega)
    have h5 := ho.s k m hk (by omega)
    have h6 : 0 ≤ plB0 tr c d a i k (m + 1) ∧ plB0 tr c d a i k (m + 1) ≤ N + 1000 := by
      unfold plB0 plE
      split <;> (try split) <;> omega
    unfold plR
    split <;> (try split) <;> (try split) <;> omega
end
set_option maxHeartbeats 4000000 in
theorem dispatch_problem_place_ok (O : Env) (tr : List Trip) (c : Cl) (d : Dr) (a : Pl) (i : Nat) (ho : Ok tr) (hd : Bn d 1099511617776) (hi : i < tr.length) (hai : a i < (tr.getD i default).fStops.length) (ha : Pk tr a) : PCall Try.prog O 29 [prV tr c, .agg (drL d), .agg (plL a), vi (i : Nat)] (.agg (drL (plD tr c d a i))) := by
  have hn := ho.n
  have hli := ho.l i hi
  have bi := hd i (a i)
  have ri := ho.s i (a i) hi hai
  refine pcall_of_aw Try.func29 rfl (by kernel_rfl) ?_
  refine aw_seq fun K0 hK0 => ?_
  refine aw_reg [0, 1, 2, 3] (by kernel_rfl) ?_
  simp (disch := omega) only [go_sem, seval, cl_at, cl_ln, upD_eq, plP_cur]
  repeat refine And.intro obl ?_
  refine hK0 _ ?_; clear hK0
  refine aw_seq fun K1 hK1 => ?_
  refine aw_reg [0, 3, 5, 6, 8] (by kernel_rfl) ?_
  simp (disch := omega) only [go_sem, seval, cl_at, cl_ln, upD_eq, plP_cur]
  repeat refine And.intro obl ?_
  refine hK1 _ ?_; clear hK1
  refine aw_seq fun K2 hK2 => ?_
  refine aw_regDc [0, 3, 5, 6, 8, 9] [] mixed (by kernel_rfl) ?_
  simp (disch := omega) only [go_sem, seval, cl_at, cl_ln, upD_eq, plP_cur]
  repeat refine And.intro obl ?_
  refine hK2 _ ?_; clear hK2
  refine aw_seq fun K3 hK3 => ?_
  refine aw_seq fun K4 hK4 => ?_
  refine aw_reg [0, 3, 5, 6, 8, 9, 10] (by kernel_rfl) ?_
  simp (disch := omega) only [go_sem, seval, cl_at, cl_ln, upD_eq, plP_cur]
  repeat refine And.intro obl ?_
  refine hK4 _ ?_; clear hK4
  refine aw_block ?_
  refine aw_loopK [0, 3, 6, 8, 9, 10, 38, 39, 40, 5] (fun n ρ => ∃ k, n = tr.length - k ∧ (k ≤ tr.length) ∧ ρ = mkE O [(0, prV tr c), (3, vi (i : Nat)), (6, .bx (plL a)), (8, .bx (drL (fun _ _ => 0))), (9, vi (a i : Nat)), (10, vi (plE tr d a i)), (38, encTr tr), (39, vi (tr.length : Nat)), (40, vi (k : Nat)), (5, .bx (drL (plP tr c d a i k 0)))]) _ ⟨0, rfl, ?_, ?_⟩ ?_
  · exact dfl
  · simp (disch := omega) only [go_sem, seval, cl_at, cl_ln, upD_eq, plP_cur] <;> (rw [plP_z]; rfl)
  rintro n ρ ⟨k, rfl, l0_0, rfl⟩ K5 hK5
  refine aw_seq fun K6 hK6 => ?_
  refine aw_reg [0, 3, 5, 6, 8, 9, 10, 35, 36, 37, 38, 39, 40] (by kernel_rfl) ?_
  simp (disch := omega) only [go_sem, seval, cl_at, cl_ln, upD_eq, plP_cur]
  repeat refine And.intro obl ?_
  refine hK6 _ ?_; clear hK6
  refine aw_seq fun K7 hK7 => ?_
  refine aw_cond _ (by rfl) (rfl) (fun c0 => ?_) (fun c0 => ?_)
  · try simp only [push_cast] at c0
    refine aw_skip ?_
    refine hK7 _ ?_; clear hK7
    refine aw_seq fun K8 hK8 => ?_
    refine aw_block ?_
    refine aw_seq fun K9 hK9 => ?_
    have hl := ho.l k c0
    have hak := ha k c0
    refine aw_reg [0, 3, 5, 6, 8, 9, 10, 35, 36, 37, 38, 39, 40] (by kernel_rfl) ?_
    simp (disch := omega) only [go_sem, seval, cl_at, cl_ln, upD_eq, plP_cur]
    repeat refine And.intro obl ?_
    refine hK9 _ ?_; clear hK9
    refine aw_seq fun K10 hK10 => ?_
    refine aw_seq fun K11 hK11 => ?_
    refine aw_reg [0, 3, 5, 6, 8, 9, 10, 11, 12, 35, 36, 37, 38, 39, 40] (by kernel_rfl) ?_
    simp (disch := omega) only [go_sem, seval, cl_at, cl_ln, upD_eq, plP_cur]
    repeat refine And.intro obl ?_
    refine hK11 _ ?_; clear hK11
    refine aw_cond _ (by rfl) (rfl) (fun c1 => ?_) (fun c1 => ?_)
    · try simp only [push_cast] at c1
      refine aw_exit ?_
      refine hK8 _ ?_; clear hK8
      refine aw_reg [0, 3, 5, 6, 8, 9, 10, 35, 36, 37, 38, 39, 40] (by kernel_rfl) ?_
      simp (disch := omega) only [go_sem, seval, cl_at, cl_ln, upD_eq, plP_cur]
      repeat refine And.intro obl ?_
      refine hK5 _ _ ?_ ⟨k + 1, rfl, ?_, ?_⟩
      · exact dfl
      · exact dfl
      · simp (disch := omega) only [go_sem, seval, cl_at, cl_ln, upD_eq, plP_cur] <;> (rw [plP_i (by omega)]; rfl)
    · try simp only [push_cast] at c1
      refine aw_skip ?_
      refine hK10 _ ?_; clear hK10
      refine aw_seq fun K12 hK12 => ?_
      refine aw_reg [0, 3, 5, 6, 8, 9, 10, 11, 12, 35, 36, 37, 38, 39, 40] (by kernel_rfl) ?_
      simp (disch := omega) only [go_sem, seval, cl_at, cl_ln, upD_eq, plP_cur]
      repeat refine And.intro obl ?_
      refine hK12 _ ?_; clear hK12
      refine aw_block ?_
      refine aw_loopK [0, 3, 6, 8, 9, 10, 38, 39, 40, 5, 11, 12, 13] (fun n ρ => ∃ m, n = (tr.getD k default).fStops.length - m ∧ (a k ≤ m) ∧ (m ≤ (tr.getD k default).fStops.length) ∧ ρ = mkE O [(0, prV tr c), (3, vi (i : Nat)), (6, .bx (plL a)), (8, .bx (drL (fun _ _ => 0))), (9, vi (a i : Nat)), (10, vi (plE tr d a i)), (38, encTr tr), (39, vi (tr.length : Nat)), (40, vi (k : Nat)), (5, .bx (drL (plP tr c d a i k m))), (11, vi (k : Nat)), (12, .bx (eTrip (tr.getD k default))), (13, vi (m : Nat))]) _ ⟨a k, rfl, ?_, ?_, ?_⟩ ?_
      · exact dfl
      · exact dfl
      · simp (disch := omega) only [go_sem, seval, cl_at, cl_ln, upD_eq, plP_cur] <;> (rw [plP_a])
      rintro n ρ ⟨m, rfl, l1_0, l1_1, rfl⟩ K13 hK13
      refine aw_seq fun K14 hK14 => ?_
      refine aw_seq fun K15 hK15 => ?_
      refine aw_reg [0, 3, 5, 6, 8, 9, 10, 11, 12, 13, 35, 36, 37, 38, 39, 40] (by kernel_rfl) ?_
      simp (disch := omega) only [go_sem, seval, cl_at, cl_ln, upD_eq, plP_cur]
      repeat refine And.intro obl ?_
      refine hK15 _ ?_; clear hK15
      refine aw_cond _ (by rfl) (rfl) (fun c2 => ?_) (fun c2 => ?_)
      · try simp only [push_cast] at c2
        refine aw_skip ?_
        refine hK14 _ ?_; clear hK14
        refine aw_seq fun K16 hK16 => ?_
        refine aw_block ?_
        refine aw_seq fun K17 hK17 => ?_
        refine aw_seq fun K18 hK18 => ?_
        refine aw_reg [0, 3, 5, 6, 8, 9, 10, 11, 12, 13, 35, 36, 37, 38, 39, 40] (by kernel_rfl) ?_
        simp (disch := omega) only [go_sem, seval, cl_at, cl_ln, upD_eq, plP_cur]
        repeat refine And.intro obl ?_
        refine hK18 _ ?_; clear hK18
        refine aw_cond _ (by rfl) (rfl) (fun c3 => ?_) (fun c3 => ?_)
        · try simp only [push_cast] at c3
          refine aw_regDc [0, 3, 5, 6, 8, 9, 10, 11, 12, 13, 35, 36, 37, 38, 39, 40] [] mixed (by kernel_rfl) ?_
          simp (disch := omega) only [go_sem, seval, cl_at, cl_ln, upD_eq, plP_cur]
          repeat refine And.intro obl ?_
          refine hK17 _ ?_; clear hK17
          refine aw_seq fun K19 hK19 => ?_
          refine aw_reg [0, 3, 5, 6, 8, 9, 10, 11, 12, 13, 35, 36, 37, 38, 39, 40] (by kernel_rfl) ?_
          simp (disch := omega) only [go_sem, seval, cl_at, cl_ln, upD_eq, plP_cur]
          repeat refine And.intro obl ?_
          refine hK19 _ ?_; clear hK19
          refine aw_cond _ (by rfl) (rfl) (fun c4 => ?_) (fun c4 => ?_)
          · try simp only [push_cast] at c4
            have hpr := plP_pre (tr := tr) (c := c) (d := d) (a := a) (i := i) (k := k) (m := m) (by omega) (by omega)
            have b1 := plR_b (c := c) ho hd hi hai c0 (m - 1) (by omega)
            have b2 := ho.s k (m - 1) c0 (by omega)
            refine aw_regDc [0, 3, 5, 6, 8, 9, 10, 11, 12, 13, 35, 36, 37, 38, 39, 40] [] mixed (by kernel_rfl) ?_
            simp (disch := omega) only [go_sem, seval, cl_at, cl_ln, upD_eq, plP_cur]
            repeat refine And.intro obl ?_
            refine hK16 _ ?_; clear hK16
            refine aw_reg [0, 3, 5, 6, 8, 9, 10, 11, 12, 13, 35, 36, 37, 38, 39, 40] (by kernel_rfl) ?_
            simp (disch := omega) only [go_sem, seval, cl_at, cl_ln, upD_eq, plP_cur]
            repeat refine And.intro obl ?_
            refine hK13 _ _ ?_ ⟨m + 1, rfl, ?_, ?_, ?_⟩
            · exact dfl
            · exact dfl
            · exact dfl
            · simp (disch := omega) only [go_sem, seval, cl_at, cl_ln, upD_eq, plP_cur] <;> (rw [upD_ne _ _ _ _ _ (show m - 1 ≠ m by omega), hpr, i64id (by omega) (by omega), upD_upD, plP_s c1 (vlA c3 c4)]; rfl)
          · try simp only [push_cast] at c4
            refine aw_skip ?_
            refine hK16 _ ?_; clear hK16
            refine aw_reg [0, 3, 5, 6, 8, 9, 10, 11, 12, 13, 35, 36, 37, 38, 39, 40] (by kernel_rfl) ?_
            simp (disch := omega) only [go_sem, seval, cl_at, cl_ln, upD_eq, plP_cur]
            repeat refine And.intro obl ?_
            refine hK13 _ _ ?_ ⟨m + 1, rfl, ?_, ?_, ?_⟩
            · exact dfl
            · exact dfl
            · exact dfl
            · simp (disch := omega) only [go_sem, seval, cl_at, cl_ln, upD_eq, plP_cur] <;> (rw [plP_s c1 (vlB c3 (by omega))]; rfl)
        · try simp only [push_cast] at c3
          refine aw_skip ?_
          refine hK17 _ ?_; clear hK17
          refine aw_seq fun K20 hK20 => ?_
          refine aw_reg [0, 3, 5, 6, 8, 9, 10, 11, 12, 13, 35, 36, 37, 38, 39, 40] (by kernel_rfl) ?_
          simp (disch := omega) only [go_sem, seval, cl_at, cl_ln, upD_eq, plP_cur]
          repeat refine And.intro obl ?_
          refine hK20 _ ?_; clear hK20
          refine aw_cond _ (by rfl) (rfl) (fun c5 => ?_) (fun c5 => ?_)
          · try simp only [push_cast] at c5
            have hpr := plP_pre (tr := tr) (c := c) (d := d) (a := a) (i := i) (k := k) (m := m) (by omega) (by omega)
            have b1 := plR_b (c := c) ho hd hi hai c0 (m - 1) (by omega)
            have b2 := ho.s k (m - 1) c0 (by omega)
            refine aw_regDc [0, 3, 5, 6, 8, 9, 10, 11, 12, 13, 35, 36, 37, 38, 39, 40] [] mixed (by kernel_rfl) ?_
            simp (disch := omega) only [go_sem, seval, cl_at, cl_ln, upD_eq, plP_cur]
            repeat refine And.intro obl ?_
            refine hK16 _ ?_; clear hK16
            refine aw_reg [0, 3, 5, 6, 8, 9, 10, 11, 12, 13, 35, 36, 37, 38, 39, 40] (by kernel_rfl) ?_
            simp (disch := omega) only [go_sem, seval, cl_at, cl_ln, upD_eq, plP_cur]
            repeat refine And.intro obl ?_
            refine hK13 _ _ ?_ ⟨m + 1, rfl, ?_, ?_, ?_⟩
            · exact dfl
            · exact dfl
            · exact dfl
            · simp (disch := omega) only [go_sem, seval, cl_at, cl_ln, upD_eq, plP_cur] <;> (rw [hpr, plP_s c1 (vlC c3 c5)]; rfl)
          · try simp only [push_cast] at c5
            refine aw_skip ?_
            refine hK16 _ ?_; clear hK16
            refine aw_reg [0, 3, 5, 6, 8, 9, 10, 11, 12, 13, 35, 36, 37, 38, 39, 40] (by kernel_rfl) ?_
            simp (disch := omega) only [go_sem, seval, cl_at, cl_ln, upD_eq, plP_cur]
            repeat refine And.intro obl ?_
            refine hK13 _ _ ?_ ⟨m + 1, rfl, ?_, ?_, ?_⟩
            · exact dfl
            · exact dfl
            · exact dfl
            · simp (disch := omega) only [go_sem, seval, cl_at, cl_ln, upD_eq, plP_cur] <;> (rw [plP_n c1 (vlD c3 (by omega))]; rfl)
      · try simp only [push_cast] at c2
        refine aw_exit ?_
        refine hK8 _ ?_; clear hK8
        refine aw_reg [0, 3, 5, 6, 8, 9, 10, 35, 36, 37, 38, 39, 40] (by kernel_rfl) ?_
        simp (disch := omega) only [go_sem, seval, cl_at, cl_ln, upD_eq, plP_cur]
        repeat refine And.intro obl ?_
        refine hK5 _ _ ?_ ⟨k + 1, rfl, ?_, ?_⟩
        · exact dfl
        · exact dfl
        · simp (disch := omega) only [go_sem, seval, cl_at, cl_ln, upD_eq, plP_cur] <;> (rw [plP_e (by omega) (by omega)]; rfl)
  · try simp only [push_cast] at c0
    refine aw_exit ?_
    refine hK3 _ ?_; clear hK3
    refine aw_seq fun K21 hK21 => ?_
    refine aw_reg [5, 8] (by kernel_rfl) ?_
    simp (disch := omega) only [go_sem, seval, cl_at, cl_ln, upD_eq, plP_cur]
    repeat refine And.intro obl ?_
    refine hK21 _ ?_; clear hK21
    refine aw_ret ?_
    refine ret_cell 8 60 rfl (by simp (disch := omega) only [go_sem, seval, cl_at, cl_ln, upD_eq, plP_cur]) (by simp (disch := omega) only [go_sem, seval, cl_at, cl_ln, upD_eq, plP_cur] <;> (rw [plP_d (by omega) (by omega)])) (by simp (disch := omega) only [go_sem, seval, cl_at, cl_ln, upD_eq, plP_cur]) (by simp (disch := omega) only [go_sem, seval, cl_at, cl_ln, upD_eq, plP_cur])
end Go.Sg
