/- Contract of pose. Printed by genw.py. -/
import Derived.Test.YtbndgcddihbhlaaSgB
import Derived.Test.YtbndgcddihbhlaaD10
set_option linter.unusedVariables false
set_option linter.unusedSimpArgs false
set_option maxRecDepth 8000
namespace Go.Sg
open Go.Proofs
theorem zc95p : zcOf Try.prog 95 = some (.slice none 0 0 :: List.replicate 256 (.bool false)) := by kernel_rfl
theorem clZ (f : Value → DV) (v0 : Value) : List.map f (v0 :: List.replicate 256 (.bool false)) = f v0 :: List.replicate 256 (f (.bool false)) := by rw [List.map_cons, List.map_replicate]
theorem clZ2 : List.replicate 256 (.v (.bool false)) = clL (fun _ _ _ _ => false) := by
  unfold clL
  rw [List.map_const', List.length_range]
def csF (t : Table) (tr : List Trip) : Cl := fun x y z u => if x < tr.length ∧ z < tr.length ∧ x ≠ z ∧ y < (tr.getD x default).fStops.length ∧ u < (tr.getD z default).fStops.length then clB t ((tr.getD x default).fStops.getD y default) ((tr.getD z default).fStops.getD u default) else false
def csP (t : Table) (tr : List Trip) (i k j m : Nat) : Cl := fun x y z u => if (x < i ∨ (x = i ∧ (z < k ∨ (z = k ∧ (y < j ∨ (y = j ∧ u < m)))))) ∧ z < tr.length then csF t tr x y z u else false
section
variable {t : Table} {tr : List Trip} {i k j m : Nat}
theorem csP_z : csP t tr 0 0 0 0 = fun _ _ _ _ => false := by
  funext x y z u; unfold csP; rw [if_neg (by omega)]
theorem csP_e (h : tr.length ≤ i) : csP t tr i 0 0 0 = csF t tr := by
  funext x y z u; unfold csP
  by_cases h1 : x < tr.length ∧ z < tr.length
  · rw [if_pos (by omega)]
  · unfold csF; split <;> first | rfl | (rw [if_neg (by omega)])
theorem csP_i (h : tr.length ≤ k) : csP t tr i k 0 0 = csP t tr (i + 1) 0 0 0 := by
  funext x y z u; unfold csP
  by_cases h1 : (x < i ∨ x = i) ∧ z < tr.length
  · rw [if_pos (by omega), if_pos (by omega)]
  · rw [if_neg (by omega), if_neg (by omega)]
theorem csP_same (h : i = k) : csP t tr i k 0 0 = csP t tr i (k + 1) 0 0 := by
  funext x y z u; unfold csP
  by_cases h1 : x = i ∧ z = k
  · have : csF t tr x y z u = false := by unfold csF; rw [if_neg (by omega)]
    rw [this]; split <;> split <;> rfl
  · by_cases h2 : (x < i ∨ (x = i ∧ z < k)) ∧ z < tr.length
    · rw [if_pos (by omega), if_pos (by omega)]
    · rw [if_neg (by omega), if_neg (by omega)]
theorem csP_k (h : (tr.getD i default).fStops.length ≤ j) : csP t tr i k j 0 = csP t tr i (k + 1) 0 0 := by
  funext x y z u; unfold csP
  by_cases h1 : x = i ∧ z = k ∧ j ≤ y
  · have : csF t tr x y z u = false := by
      obtain ⟨rfl, rfl, h3⟩ := h1
      unfold csF; rw [if_neg (by omega)]
    rw [this]; split <;> split <;> rfl
  · by_cases h2 : (x < i ∨ (x = i ∧ (z < k ∨ z = k))) ∧ z < tr.length
    · rw [if_pos (by omega), if_pos (by omega)]
    · rw [if_neg (by omega), if_neg (by omega)]
theorem csP_j (h : (tr.getD k default).fStops.length ≤ m) : csP t tr i k j m = csP t tr i k (j + 1) 0 := by
  funext x y z u; unfold csP
  by_cases h1 : x = i ∧ z = k ∧ y = j ∧ m ≤ u
  · have : csF t tr x y z u = false := by
      obtain ⟨rfl, rfl, rfl, h3⟩ := h1
      unfold csF; rw [if_neg (by omega)]
    rw [this]; split <;> split <;> rfl
  · by_cases h2 : (x < i ∨ (x = i ∧ (z < k ∨ (z = k ∧ (y < j ∨ y = j))))) ∧ z < tr.length
    · rw [if_pos (by omega), if_pos (by omega)]
    · rw [if_neg (by omega), if_neg (by omega)]
theorem csP_m (hi : i < tr.length) (hk : k < tr.length) (hn : ¬ i = k) (hj : j < (tr.getD i default).fStops.length) (hm : m < (tr.getD k default).fStops.length) : upC (csP t tr i k j m) i j k m (clB t ((tr.getD i default).fStops.getD j default) ((tr.getD k default).fStops.getD m default)) = csP t tr i k j (m + 1) := by
  funext x y z u; unfold upC csP
  by_cases h1 : x = i ∧ y = j ∧ z = k ∧ u = m
  · rw [if_pos h1, if_pos (by omega)]
    obtain ⟨rfl, rfl, rfl, rfl⟩ := h1
    unfold csF; rw [if_pos ⟨hi, hk, hn, hj, hm⟩]
  · rw [if_neg h1]
    by_cases h2 : (x < i ∨ (x = i ∧ (z < k ∨ (z = k ∧ (y < j ∨ (y = j ∧ u < m)))))) ∧ z < tr.length
    · rw [if_pos h2, if_pos (by omega)]
    · rw [if_neg h2, if_neg (by omega)]
end
theorem cl_set1 (X : DV) (c : Cl) {i j k m : Nat} (v : Bool) (hi : i < 4) (hj : j < 4) (hk : k < 4) (hm : m < 4) : (X :: clL c).set (i * 64 + 1 + j * 16 + k * 4 + m) (.v (.bool v)) = X :: clL (upC c i j k m v) := by
  rw [show i * 64 + 1 + j * 16 + k * 4 + m = (i * 64 + j * 16 + k * 4 + m) + 1 by omega, List.set_cons_succ, clL_set c v hi hj hk hm]
theorem pcall_frzB {P : Program} {O : Env} {f : FuncId} {args : List DV} {cs : List DV} (hp : allKL (fun _ => false) cs = true) (h : PCall P O f args (.bx cs)) : PCall P O f args (.dp cs) :=
  fun w I A vals h1 h2 h3 => (h w I A vals h1 h2 h3).mono fun _ w' ⟨v, I', O', r, k1, k2, k3, k4, k5, k6, k7, k8⟩ => by
    subst k8
    obtain ⟨g, us, et, rfl, q2, q3, q4, q5, q6, q7, q8⟩ := k6
    have hm : ∀ g', I' g' → (I' g' ∨ g' = g) := fun g' hg => .inl hg
    have hmono : ∀ (B' : Own) d x, Rel w' I' B' d x → Rel w' (fun g' => I' g' ∨ g' = g) B' d x := fun B' d x hr => hr.mono fun g' hg => ⟨hm g' hg, fun _ => rfl⟩
    refine ⟨_, fun g' => I' g' ∨ g' = g, _, .dp cs, k1, ⟨fun s => (k2.own s).keep (fun _ _ _ => rfl) hmono, k2.inj, fun s g' c' hA => ⟨(k2.sep s g' c' hA).1, fun hi => hi.elim (k2.sep s g' c' hA).2 fun hB => ?_⟩, k2.imm.step (fun g' hg => hg.elim (k2.imm g') fun hB => hB ▸ q7) fun g' hg => ⟨.inl hg, rfl⟩⟩, k3, k4,
      ⟨k5.os, k5.tape, k5.output, k5.size, fun g' hg => .inl (k5.imm g' hg), fun g' hg hA => ?_, k5.loc, k5.outA⟩, ?_, k7, rfl⟩
    · have := (h1.sep s g' c' hA).1
      omega
    · obtain ⟨e1, e2, e3⟩ := k5.old g' hg hA
      refine ⟨e1, fun hi => hi.elim e2 fun hB => ?_, e3⟩
      omega
    · have hcell : ∀ j, j < cs.length → us[j]? = some (us.getD j undef) := fun j hj => by
        rw [Array.getD_eq_getD_getElem?, Array.getElem?_eq_getElem (by omega)]; rfl
      refine .dp A cs g 0 (fun j => us.getD j undef) (.inr rfl) (fun j hj => ?_) (fun j hj => ?_) fun j d hd => ?_
      · rw [Nat.zero_add, show w'.cell? ⟨g, j, none⟩ = us[j]? by simp [World.cell?, q2]]
        exact hcell j hj
      · exact q4 _ (by
          have := hcell j hj
          rw [← Array.getElem?_toList] at this
          exact List.mem_of_getElem? this)
      · have hj : j < cs.length := by
          rcases Nat.lt_or_ge j cs.length with h | h
          · exact h
          · rw [List.getElem?_eq_none h] at hd; cases hd
        exact (hmono _ _ _ (q5 j d _ hd (hcell j hj))).pure (allKL_get hp hd)
set_option maxHeartbeats 8000000 in
theorem dispatch_pose_ok (O : Env) (t : Table) (tr : List Trip) (hk : chkI t tr = 0) (hs : SmT t) : PCall Try.prog O 23 [.agg (eTable t), encTr tr] (.bx (encTr tr :: clL (csF t tr))) := by
  have ho := ok_chk hk
  have hn := ho.n
  have hP := (chk0 hk).2.2.1
  refine pcall_of_aw Try.func23 rfl (by kernel_rfl) ?_
  refine aw_seq fun K0 hK0 => ?_
  refine aw_reg [0, 1] (by kernel_rfl) ?_
  simp (disch := omega) only [go_sem, seval, zc95p, clZ, clZ2, cl_set1]
  repeat refine And.intro obl ?_
  refine hK0 _ ?_; clear hK0
  refine aw_seq fun K1 hK1 => ?_
  refine aw_reg [1, 2] (by kernel_rfl) ?_
  simp (disch := omega) only [go_sem, seval, zc95p, clZ, clZ2, cl_set1]
  repeat refine And.intro obl ?_
  refine hK1 _ ?_; clear hK1
  refine aw_seq fun K2 hK2 => ?_
  refine aw_seq fun K3 hK3 => ?_
  refine aw_reg [1, 2, 5] (by kernel_rfl) ?_
  simp (disch := omega) only [go_sem, seval, zc95p, clZ, clZ2, cl_set1]
  repeat refine And.intro obl ?_
  refine hK3 _ ?_; clear hK3
  refine aw_block ?_
  refine aw_loopK [1, 2, 17, 18, 19, 5] (fun n ρ => ∃ i, n = tr.length - i ∧ (i ≤ tr.length) ∧ ρ = mkE O [(1, encTr tr), (2, .bx (eTable t)), (17, encTr tr), (18, vi (tr.length : Nat)), (19, vi (i : Nat)), (5, .bx (encTr tr :: clL (csP t tr i 0 0 0)))]) _ ⟨0, rfl, ?_, ?_⟩ ?_
  · exact dfl
  · simp (disch := omega) only [go_sem, seval, zc95p, clZ, clZ2, cl_set1] <;> (rw [csP_z]; rfl)
  rintro n ρ ⟨i, rfl, l0_0, rfl⟩ K4 hK4
  refine aw_seq fun K5 hK5 => ?_
  refine aw_reg [1, 2, 5, 17, 18, 19] (by kernel_rfl) ?_
  simp (disch := omega) only [go_sem, seval, zc95p, clZ, clZ2, cl_set1]
  repeat refine And.intro obl ?_
  refine hK5 _ ?_; clear hK5
  refine aw_seq fun K6 hK6 => ?_
  refine aw_cond _ (by rfl) (rfl) (fun c0 => ?_) (fun c0 => ?_)
  · try simp only [push_cast] at c0
    refine aw_skip ?_
    refine hK6 _ ?_; clear hK6
    refine aw_seq fun K7 hK7 => ?_
    refine aw_block ?_
    refine aw_seq fun K8 hK8 => ?_
    have hli := ho.l i c0
    refine aw_reg [1, 2, 5, 17, 18, 19] (by kernel_rfl) ?_
    simp (disch := omega) only [go_sem, seval, zc95p, clZ, clZ2, cl_set1]
    repeat refine And.intro obl ?_
    refine hK8 _ ?_; clear hK8
    refine aw_seq fun K9 hK9 => ?_
    refine aw_reg [1, 2, 5, 6, 7, 17, 18, 19] (by kernel_rfl) ?_
    simp (disch := omega) only [go_sem, seval, zc95p, clZ, clZ2, cl_set1]
    repeat refine And.intro obl ?_
    refine hK9 _ ?_; clear hK9
    refine aw_block ?_
    refine aw_loopK [1, 2, 17, 18, 19, 6, 7, 24, 25, 26, 5] (fun n ρ => ∃ k, n = tr.length - k ∧ (k ≤ tr.length) ∧ ρ = mkE O [(1, encTr tr), (2, .bx (eTable t)), (17, encTr tr), (18, vi (tr.length : Nat)), (19, vi (i : Nat)), (6, vi (i : Nat)), (7, .bx (eTrip (tr.getD i default))), (24, encTr tr), (25, vi (tr.length : Nat)), (26, vi (k : Nat)), (5, .bx (encTr tr :: clL (csP t tr i k 0 0)))]) _ ⟨0, rfl, ?_, ?_⟩ ?_
    · exact dfl
    · simp (disch := omega) only [go_sem, seval, zc95p, clZ, clZ2, cl_set1] <;> first | rfl | omega | simp | simp_all
    rintro n ρ ⟨k, rfl, l1_0, rfl⟩ K10 hK10
    refine aw_seq fun K11 hK11 => ?_
    refine aw_reg [1, 2, 5, 6, 7, 17, 18, 19, 24, 25, 26] (by kernel_rfl) ?_
    simp (disch := omega) only [go_sem, seval, zc95p, clZ, clZ2, cl_set1]
    repeat refine And.intro obl ?_
    refine hK11 _ ?_; clear hK11
    refine aw_seq fun K12 hK12 => ?_
    refine aw_cond _ (by rfl) (rfl) (fun c1 => ?_) (fun c1 => ?_)
    · try simp only [push_cast] at c1
      refine aw_skip ?_
      refine hK12 _ ?_; clear hK12
      refine aw_seq fun K13 hK13 => ?_
      refine aw_block ?_
      refine aw_seq fun K14 hK14 => ?_
      have hlk := ho.l k c1
      refine aw_reg [1, 2, 5, 6, 7, 17, 18, 19, 24, 25, 26] (by kernel_rfl) ?_
      simp (disch := omega) only [go_sem, seval, zc95p, clZ, clZ2, cl_set1]
      repeat refine And.intro obl ?_
      refine hK14 _ ?_; clear hK14
      refine aw_seq fun K15 hK15 => ?_
      refine aw_seq fun K16 hK16 => ?_
      refine aw_reg [1, 2, 5, 6, 7, 8, 9, 17, 18, 19, 24, 25, 26] (by kernel_rfl) ?_
      simp (disch := omega) only [go_sem, seval, zc95p, clZ, clZ2, cl_set1]
      repeat refine And.intro obl ?_
      refine hK16 _ ?_; clear hK16
      refine aw_cond _ (by rfl) (rfl) (fun c2 => ?_) (fun c2 => ?_)
      · try simp only [push_cast] at c2
        refine aw_exit ?_
        refine hK13 _ ?_; clear hK13
        refine aw_reg [1, 2, 5, 6, 7, 17, 18, 19, 24, 25, 26] (by kernel_rfl) ?_
        simp (disch := omega) only [go_sem, seval, zc95p, clZ, clZ2, cl_set1]
        repeat refine And.intro obl ?_
        refine hK10 _ _ ?_ ⟨k + 1, rfl, ?_, ?_⟩
        · exact dfl
        · exact dfl
        · simp (disch := omega) only [go_sem, seval, zc95p, clZ, clZ2, cl_set1] <;> (rw [csP_same (by omega)]; rfl)
      · try simp only [push_cast] at c2
        refine aw_skip ?_
        refine hK15 _ ?_; clear hK15
        refine aw_seq fun K17 hK17 => ?_
        refine aw_reg [1, 2, 5, 6, 7, 8, 9, 17, 18, 19, 24, 25, 26] (by kernel_rfl) ?_
        simp (disch := omega) only [go_sem, seval, zc95p, clZ, clZ2, cl_set1]
        repeat refine And.intro obl ?_
        refine hK17 _ ?_; clear hK17
        refine aw_block ?_
        refine aw_loopK [1, 2, 17, 18, 19, 6, 7, 24, 25, 26, 8, 9, 35, 36, 37, 5] (fun n ρ => ∃ j, n = (tr.getD i default).fStops.length - j ∧ (j ≤ (tr.getD i default).fStops.length) ∧ ρ = mkE O [(1, encTr tr), (2, .bx (eTable t)), (17, encTr tr), (18, vi (tr.length : Nat)), (19, vi (i : Nat)), (6, vi (i : Nat)), (7, .bx (eTrip (tr.getD i default))), (24, encTr tr), (25, vi (tr.length : Nat)), (26, vi (k : Nat)), (8, vi (k : Nat)), (9, .bx (eTrip (tr.getD k default))), (35, encSp (tr.getD i default).fStops), (36, vi ((tr.getD i default).fStops.length : Nat)), (37, vi (j : Nat)), (5, .bx (encTr tr :: clL (csP t tr i k j 0)))]) _ ⟨0, rfl, ?_, ?_⟩ ?_
        · exact dfl
        · simp (disch := omega) only [go_sem, seval, zc95p, clZ, clZ2, cl_set1] <;> first | rfl | omega | simp | simp_all
        rintro n ρ ⟨j, rfl, l2_0, rfl⟩ K18 hK18
        refine aw_seq fun K19 hK19 => ?_
        refine aw_reg [1, 2, 5, 6, 7, 8, 9, 17, 18, 19, 24, 25, 26, 34, 35, 36, 37] (by kernel_rfl) ?_
        simp (disch := omega) only [go_sem, seval, zc95p, clZ, clZ2, cl_set1]
        repeat refine And.intro obl ?_
        refine hK19 _ ?_; clear hK19
        refine aw_seq fun K20 hK20 => ?_
        refine aw_cond _ (by rfl) (rfl) (fun c3 => ?_) (fun c3 => ?_)
        · try simp only [push_cast] at c3
          refine aw_skip ?_
          refine hK20 _ ?_; clear hK20
          refine aw_seq fun K21 hK21 => ?_
          refine aw_block ?_
          refine aw_seq fun K22 hK22 => ?_
          refine aw_reg [1, 2, 5, 6, 7, 8, 9, 17, 18, 19, 24, 25, 26, 34, 35, 36, 37] (by kernel_rfl) ?_
          simp (disch := omega) only [go_sem, seval, zc95p, clZ, clZ2, cl_set1]
          repeat refine And.intro obl ?_
          refine hK22 _ ?_; clear hK22
          refine aw_seq fun K23 hK23 => ?_
          refine aw_reg [1, 2, 5, 6, 7, 8, 9, 10, 11, 17, 18, 19, 24, 25, 26, 34, 35, 36, 37] (by kernel_rfl) ?_
          simp (disch := omega) only [go_sem, seval, zc95p, clZ, clZ2, cl_set1]
          repeat refine And.intro obl ?_
          refine hK23 _ ?_; clear hK23
          refine aw_block ?_
          refine aw_loopK [1, 2, 17, 18, 19, 6, 7, 24, 25, 26, 8, 9, 35, 36, 37, 10, 11, 43, 44, 45, 5] (fun n ρ => ∃ m, n = (tr.getD k default).fStops.length - m ∧ (m ≤ (tr.getD k default).fStops.length) ∧ ρ = mkE O [(1, encTr tr), (2, .bx (eTable t)), (17, encTr tr), (18, vi (tr.length : Nat)), (19, vi (i : Nat)), (6, vi (i : Nat)), (7, .bx (eTrip (tr.getD i default))), (24, encTr tr), (25, vi (tr.length : Nat)), (26, vi (k : Nat)), (8, vi (k : Nat)), (9, .bx (eTrip (tr.getD k default))), (35, encSp (tr.getD i default).fStops), (36, vi ((tr.getD i default).fStops.length : Nat)), (37, vi (j : Nat)), (10, vi (j : Nat)), (11, .bx (eStop ((tr.getD i default).fStops.getD j default))), (43, encSp (tr.getD k default).fStops), (44, vi ((tr.getD k default).fStops.length : Nat)), (45, vi (m : Nat)), (5, .bx (encTr tr :: clL (csP t tr i k j m)))]) _ ⟨0, rfl, ?_, ?_⟩ ?_
          · exact dfl
          · simp (disch := omega) only [go_sem, seval, zc95p, clZ, clZ2, cl_set1] <;> first | rfl | omega | simp | simp_all
          rintro n ρ ⟨m, rfl, l3_0, rfl⟩ K24 hK24
          refine aw_seq fun K25 hK25 => ?_
          refine aw_reg [1, 2, 5, 6, 7, 8, 9, 10, 11, 17, 18, 19, 24, 25, 26, 34, 35, 36, 37, 42, 43, 44, 45] (by kernel_rfl) ?_
          simp (disch := omega) only [go_sem, seval, zc95p, clZ, clZ2, cl_set1]
          repeat refine And.intro obl ?_
          refine hK25 _ ?_; clear hK25
          refine aw_seq fun K26 hK26 => ?_
          refine aw_cond _ (by rfl) (rfl) (fun c4 => ?_) (fun c4 => ?_)
          · try simp only [push_cast] at c4
            refine aw_skip ?_
            refine hK26 _ ?_; clear hK26
            refine aw_seq fun K27 hK27 => ?_
            refine aw_block ?_
            refine aw_seq fun K28 hK28 => ?_
            refine aw_reg [1, 2, 5, 6, 7, 8, 9, 10, 11, 17, 18, 19, 24, 25, 26, 34, 35, 36, 37, 42, 43, 44, 45] (by kernel_rfl) ?_
            simp (disch := omega) only [go_sem, seval, zc95p, clZ, clZ2, cl_set1]
            repeat refine And.intro obl ?_
            refine hK28 _ ?_; clear hK28
            refine aw_regDc [1, 2, 5, 6, 7, 8, 9, 10, 11, 12, 13, 17, 18, 19, 24, 25, 26, 34, 35, 36, 37, 42, 43, 44, 45] [] mixed (by kernel_rfl) ?_
            simp (disch := omega) only [go_sem, seval, zc95p, clZ, clZ2, cl_set1]
            repeat refine And.intro obl ?_
            refine callD_to (dispatch_clash_ok _ t ((tr.getD i default).fStops.getD j default) ((tr.getD k default).fStops.getD m default) (pl_at hP c0 c3) (pl_at hP c1 c4) hs) ?_ ?_
            · rfl
            simp (disch := omega) only [go_sem, seval, zc95p, clZ, clZ2, cl_set1]
            repeat refine And.intro obl ?_
            refine hK27 _ ?_; clear hK27
            refine aw_reg [1, 2, 5, 6, 7, 8, 9, 10, 11, 17, 18, 19, 24, 25, 26, 34, 35, 36, 37, 42, 43, 44, 45] (by kernel_rfl) ?_
            simp (disch := omega) only [go_sem, seval, zc95p, clZ, clZ2, cl_set1]
            repeat refine And.intro obl ?_
            refine hK24 _ _ ?_ ⟨m + 1, rfl, ?_, ?_⟩
            · exact dfl
            · exact dfl
            · simp (disch := omega) only [go_sem, seval, zc95p, clZ, clZ2, cl_set1] <;> (rw [csP_m c0 c1 (by omega) c3 c4]; rfl)
          · try simp only [push_cast] at c4
            refine aw_exit ?_
            refine hK21 _ ?_; clear hK21
            refine aw_reg [1, 2, 5, 6, 7, 8, 9, 17, 18, 19, 24, 25, 26, 34, 35, 36, 37] (by kernel_rfl) ?_
            simp (disch := omega) only [go_sem, seval, zc95p, clZ, clZ2, cl_set1]
            repeat refine And.intro obl ?_
            refine hK18 _ _ ?_ ⟨j + 1, rfl, ?_, ?_⟩
            · exact dfl
            · exact dfl
            · simp (disch := omega) only [go_sem, seval, zc95p, clZ, clZ2, cl_set1] <;> (rw [csP_j (by omega)]; rfl)
        · try simp only [push_cast] at c3
          refine aw_exit ?_
          refine hK13 _ ?_; clear hK13
          refine aw_reg [1, 2, 5, 6, 7, 17, 18, 19, 24, 25, 26] (by kernel_rfl) ?_
          simp (disch := omega) only [go_sem, seval, zc95p, clZ, clZ2, cl_set1]
          repeat refine And.intro obl ?_
          refine hK10 _ _ ?_ ⟨k + 1, rfl, ?_, ?_⟩
          · exact dfl
          · exact dfl
          · simp (disch := omega) only [go_sem, seval, zc95p, clZ, clZ2, cl_set1] <;> (rw [csP_k (by omega)]; rfl)
    · try simp only [push_cast] at c1
      refine aw_exit ?_
      refine hK7 _ ?_; clear hK7
      refine aw_reg [1, 2, 5, 17, 18, 19] (by kernel_rfl) ?_
      simp (disch := omega) only [go_sem, seval, zc95p, clZ, clZ2, cl_set1]
      repeat refine And.intro obl ?_
      refine hK4 _ _ ?_ ⟨i + 1, rfl, ?_, ?_⟩
      · exact dfl
      · exact dfl
      · simp (disch := omega) only [go_sem, seval, zc95p, clZ, clZ2, cl_set1] <;> (rw [csP_i (by omega)]; rfl)
  · try simp only [push_cast] at c0
    refine aw_exit ?_
    refine hK2 _ ?_; clear hK2
    refine aw_seq fun K29 hK29 => ?_
    refine aw_reg [5] (by kernel_rfl) ?_
    simp (disch := omega) only [go_sem, seval, zc95p, clZ, clZ2, cl_set1]
    repeat refine And.intro obl ?_
    refine hK29 _ ?_; clear hK29
    refine aw_ret ?_
    refine ret_tmp 4 rfl (by simp (disch := omega) only [go_sem, seval, zc95p, clZ, clZ2, cl_set1]) ?_
    refine Exp.ptr 5 (encTr tr :: clL (csF t tr)) (by rfl) (by omega) ?_
    rw [← csP_e (t := t) (tr := tr) (i := i) (by omega)]
    exact congrArg DV.bx (congrArg (_ :: ·) (clL_ren _ _).symm)
end Go.Sg
