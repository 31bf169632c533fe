/- Several texts as one. -/
import Derived.Test.YtnpokifaejcbeaaGreatDoorK6
set_option linter.unusedSectionVars false
set_option linter.unusedVariables false
set_option linter.unusedSimpArgs false
set_option maxRecDepth 20000
namespace Go.Sg
open Go.Proofs
open Go.Rv (goodB)
theorem aVr {l : aC} (hl : dX l) (h : l.fSignals.all (lU l) = true) {i : Nat} (hi : i < l.fSignals.length) : goodB Tryz.prog 49 (e9.val (l.fSignals.getD i default).fAt) = true := by
 have := s7 (f := lU l) h hi
 unfold lU at this
 simp only [Bool.and_eq_true] at this
 exact uR (uZ hl this.1)
theorem aUt {l : aC} (hl : dX l) (h : l.fJoints.all (uN l) = true) : ∀ p ∈ jM l.fJoints, goodB Tryz.prog 49 (e9.val p.1) = true := by
 have := uG hl h (i := l.fJoints.length)
 rw [List.take_length] at this
 exact this
theorem xZ {l : aC} (h : tH l = 0) : l.fJoints.all (uN l) = true ∧ (d4 l.fJoints).Nodup := by
 unfold tH at h
 split at h
 ·rename_i h1
  split at h
  ·rename_i h2; exact ⟨h1, uE.1 h2⟩
  cases h
 cases h
def iZ (l : aC) : Int :=
 if pR l = false then 2 else if nmI l ≠ 0 then nmI l else if kT l = false ∨ pB l = false then 1 else if tH l ≠ 0 then tH l else if sgI l ≠ 0 then sgI l else blI l
section
variable {l : aC}
theorem bHa (h : pR l = false) : iZ l = 2 := by unfold iZ; rw [if_pos h]
theorem bGn (h : pR l = true) (h2 : nmI l ≠ 0) : iZ l = nmI l := by unfold iZ; rw [if_neg (by rw [h]; simp), if_pos h2]
theorem bGd (h : pR l = true) (h2 : nmI l = 0) (h3 : kT l = false ∨ pB l = false) : iZ l = 1 := by unfold iZ; rw [if_neg (by rw [h]; simp), if_neg (by simp [h2]), if_pos h3]
theorem bFt (h : pR l = true) (h2 : nmI l = 0) (h3 : kT l = true ∧ pB l = true) (h4 : tH l ≠ 0) : iZ l = tH l := by unfold iZ; rw [if_neg (by rw [h]; simp), if_neg (by simp [h2]), if_neg (by rw [h3.1, h3.2]; simp), if_pos h4]
theorem bFy (h : pR l = true) (h2 : nmI l = 0) (h3 : kT l = true ∧ pB l = true) (h4 : tH l = 0) (h5 : sgI l ≠ 0) : iZ l = sgI l := by unfold iZ; rw [if_neg (by rw [h]; simp), if_neg (by simp [h2]), if_neg (by rw [h3.1, h3.2]; simp), if_neg (by simp [h4]), if_pos h5]
theorem bFo (h : pR l = true) (h2 : nmI l = 0) (h3 : kT l = true ∧ pB l = true) (h4 : tH l = 0) (h5 : sgI l = 0) : iZ l = blI l := by unfold iZ; rw [if_neg (by rw [h]; simp), if_neg (by simp [h2]), if_neg (by rw [h3.1, h3.2]; simp), if_neg (by simp [h4]), if_neg (by simp [h5])]
end
theorem aRw {l : aC} {s : hM} (h : n0 l s.fAt = false ∨ tG s.fOverlap 0 1000000 = false) : lU l s = false := by
 unfold lU; rcases h with h | h
 ·rw [h]; rfl
 rw [h]; simp
theorem aUv {l : aC} {s : hM} (h : n0 l s.fAt = true ∧ tG s.fOverlap 0 1000000 = true) : lU l s = true := by
 unfold lU; rw [h.1, h.2]; rfl
theorem bNt {l : aC} {s : hM} (h : (d8 l.fJoints s.fAt).2 = false ∨ bY l (d8 l.fJoints s.fAt).1.fEl = bY l s.fAt.fEl) : aBe l s = false := by
 unfold aBe
 rcases h with h | h
 ·rw [show (aD l s.fAt).2 = false from h]; rfl
 rw [decide_eq_false (by simpa using h)]; simp
theorem bKd {l : aC} {s : hM} (h : (d8 l.fJoints s.fAt).2 = true ∧ ¬ bY l (d8 l.fJoints s.fAt).1.fEl = bY l s.fAt.fEl) : aBe l s = true := by
 unfold aBe
 rw [show (aD l s.fAt).2 = true from h.1, decide_eq_true h.2]; rfl
set_option maxRecDepth 20000 in
set_option maxHeartbeats 2000000 in
theorem oP (O : aU) (l : aC) (g0 k0 : Nat) (hl : dX l) (h0 : tH l = 0) : rB Tryz.prog O 116 [.agg (aI l), .v (.map (some g0))] [.map g0 k0 (esT e9 e9 (jM l.fJoints))] (fun _ O' r => O' = O ∧ r = vi (sgI l)) := by
 have hl1 := hl.sec
 have hl2 := hl.el
 have hl3 := hl.jo
 have hl4 := hl.sg
 have hl5 := hl.bl
 have hjo := xZ h0
 obtain ⟨i9, hi9, hz9⟩ := aXo
 refine j6 Tryz.func116 rfl (by kernel_rfl) fun w0 I0 A0 => ?_
 have hF := jN w0 I0 (b8 A0) (xG [.map g0 k0 (esT e9 e9 (jM l.fJoints))])
 refine aQu (s1 := []) (s2 := []) 1 (by decide) (by simp (disch := omega) only [go_sem, seval, seval] <;> rfl) rfl ?_
 refine a8 hF [0, 1] ?_
 refine aN fun K1 hK1 => ?_
 refine a8 hF [1, 2] ?_
 refine bI ?_
 refine dB [1, 2, 14, 15, 16] (fun n sF ρ => ∃ i, n = l.fSignals.length - i ∧ sF = [] ∧ (i ≤ l.fSignals.length) ∧ (gU (lU l) l.fSignals i) ∧ ρ = cU O [(1, .mo (esT e9 e9 (jM l.fJoints))), (2, .bx (aI l)), (14, gB l.fSignals), (15, vi (l.fSignals.length : Nat)), (16, vi (i : Nat))]) _ ⟨0, rfl, rfl, ?_, ?_, ?_⟩ ?_
 ·exact bD
 ·exact fH _ _
 ·exact cD
 rintro n sF ρ ⟨i, rfl, rfl, l0_0, l0_1, rfl⟩ K3 hK3
 refine a8 hF [1, 2, 13, 14, 15, 16] ?_
 refine aN fun K5 hK5 => ?_
 refine bU (fun c0 => ?_) fun c0 => ?_
 ·refine bG ?_
  refine hK5 _ _ ?_; clear hK5
  refine aN fun K6 hK6 => ?_
  refine bI ?_
  refine a8 hF [1, 2, 13, 14, 15, 16] ?_
  refine aN fun K8 hK8 => ?_
  refine dW hF [1, 2, 6, 13, 14, 15, 16] ?_
  refine dM (kO _ l (l.fSignals.getD i default).fAt hl) ?_
  refine lY (fun g0 => bZ _ (l.fSignals.getD i default).fOverlap 0 1000000) ?_
  refine hK8 _ _ ?_; clear hK8
  refine bU (fun c1 => ?_) fun c1 => ?_
  ·refine a8 hF [] ?_
   refine cL ?_
   (try simp only [dQ, eT]); exact aFa 4 rfl (by simp (disch := omega) only [go_sem, seval, seval]) (by simp (disch := omega) only [go_sem, seval, seval]) rfl rfl ⟨rfl, congrArg vi (bGo (kA (f := lU l) c0 (aRw (by simpa using c1)))).symm⟩
  refine bG ?_
  refine hK6 _ _ ?_; clear hK6
  refine cH hF [1, 2, 13, 14, 15, 16] ?_
  refine hK3 _ _ _ ?_ ⟨i + 1, rfl, rfl, ?_, ?_, ?_⟩
  ·exact bD
  ·exact bD
  ·exact fI l0_1 (aUv (by simpa using c1))
  exact cD
 refine dD ?_
 refine hK1 _ _ ?_; clear hK1
 refine aN fun K10 hK10 => ?_
 refine a8 hF [1, 2] ?_
 refine bI ?_
 have hsa : l.fSignals.all (lU l) = true := kJ l0_1 c0
 refine dB [1, 2, 33, 34, 35] (fun n sF ρ => ∃ i, n = l.fSignals.length - i ∧ sF = [] ∧ (i ≤ l.fSignals.length) ∧ (j5 (fun i => decide (iP l (l.fSignals.getD i default).fAt = (i : Int))) i) ∧ ρ = cU O [(1, .mo (esT e9 e9 (jM l.fJoints))), (2, .bx (aI l)), (33, gB l.fSignals), (34, vi (l.fSignals.length : Nat)), (35, vi (i : Nat))]) _ ⟨0, rfl, rfl, ?_, ?_, ?_⟩ ?_
 ·exact bD
 ·exact gT _
 ·exact cD
 rintro n sF ρ ⟨i, rfl, rfl, l1_0, l1_1, rfl⟩ K12 hK12
 refine a8 hF [1, 2, 32, 33, 34, 35] ?_
 refine aN fun K14 hK14 => ?_
 refine bU (fun c2 => ?_) fun c2 => ?_
 ·refine bG ?_
  refine hK14 _ _ ?_; clear hK14
  refine aN fun K15 hK15 => ?_
  refine bI ?_
  refine a8 hF [1, 2, 32, 33, 34, 35] ?_
  refine aN fun K17 hK17 => ?_
  refine dW hF [1, 2, 7, 8, 32, 33, 34, 35] ?_
  refine dM (iT _ l (l.fSignals.getD i default).fAt) ?_
  refine hK17 _ _ ?_; clear hK17
  refine bU (fun c3 => ?_) fun c3 => ?_
  ·refine a8 hF [] ?_
   refine cL ?_
   (try simp only [dQ, eT]); exact aFa 4 rfl (by simp (disch := omega) only [go_sem, seval, seval]) (by simp (disch := omega) only [go_sem, seval, seval]) rfl rfl ⟨rfl, congrArg vi (bGk hsa (o8 c2 (decide_eq_false (by simpa using c3)))).symm⟩
  refine bG ?_
  refine hK15 _ _ ?_; clear hK15
  refine cH hF [1, 2, 32, 33, 34, 35] ?_
  refine hK12 _ _ _ ?_ ⟨i + 1, rfl, rfl, ?_, ?_, ?_⟩
  ·exact bD
  ·exact bD
  ·exact gN l1_1 (decide_eq_true (by simpa using c3))
  exact cD
 refine dD ?_
 refine hK10 _ _ ?_; clear hK10
 refine aN fun K19 hK19 => ?_
 refine a8 hF [1, 2] ?_
 refine bI ?_
 have hsd : sdB l = true := o4 l1_1 (by omega)
 refine dB [1, 2, 48, 49, 50] (fun n sF ρ => ∃ i, n = l.fSignals.length - i ∧ sF = [] ∧ (i ≤ l.fSignals.length) ∧ (gU (aBe l) l.fSignals i) ∧ ρ = cU O [(1, .mo (esT e9 e9 (jM l.fJoints))), (2, .bx (aI l)), (48, gB l.fSignals), (49, vi (l.fSignals.length : Nat)), (50, vi (i : Nat))]) _ ⟨0, rfl, rfl, ?_, ?_, ?_⟩ ?_
 ·exact bD
 ·exact fH _ _
 ·exact cD
 rintro n sF ρ ⟨i, rfl, rfl, l2_0, l2_1, rfl⟩ K21 hK21
 refine a8 hF [1, 2, 47, 48, 49, 50] ?_
 refine aN fun K23 hK23 => ?_
 refine bU (fun c4 => ?_) fun c4 => ?_
 ·refine bG ?_
  refine hK23 _ _ ?_; clear hK23
  refine aN fun K24 hK24 => ?_
  refine bI ?_
  refine a8 hF [1, 2, 47, 48, 49, 50] ?_
  refine aN fun K26 hK26 => ?_
  refine bH (Le.keepC [1, 2, 10, 47, 48, 49, 50] _) ?_
  refine bM ?_
  refine ef hF ?_
  refine ef hF ?_
  refine ef hF ?_
  show fV _ _ _ _ _ _ _ _
  refine dY hF ?_
  refine mE e9 e9 (s := 1) (M := jM l.fJoints) (a := (l.fSignals.getD i default).fAt) (zb := E0) (ok := true) rfl rfl (by kernel_rfl) (by kernel_rfl) (by simp (disch := omega) only [go_sem, seval] <;> rfl) (by simp (disch := omega) only [go_sem, seval] <;> rfl) (by simp (disch := omega) only [go_sem, seval] <;> rfl) trivial rfl (by kernel_rfl) hi9 hz9 (aVr hl hsa c4) (aUt hl hjo.1) (by rw [nD]; exact hjo.2) ?_
  try simp (disch := omega) only [go_sem, seval]
  simp only [aPm, aSd]
  refine ef hF ?_
  refine ef hF ?_
  refine ef hF ?_
  refine ef hF ?_
  refine ef hF ?_
  refine ef hF ?_
  refine hK26 _ _ ?_; clear hK26
  refine aN fun K27 hK27 => ?_
  refine dE hF ?_
  refine e5 [1, 2, 10, 11, 12, 47, 48, 49, 50] [] ?_
  refine lY (fun g1 => dU _ l (d8 l.fJoints (l.fSignals.getD i default).fAt).1.fEl) ?_
  refine lY (fun g2 => dU _ l (l.fSignals.getD i default).fAt.fEl) ?_
  refine hK27 _ _ ?_; clear hK27
  refine bU (fun c5 => ?_) fun c5 => ?_
  ·refine a8 hF [] ?_
   refine cL ?_
   (try simp only [dQ, eT]); exact aFa 4 rfl (by simp (disch := omega) only [go_sem, seval, seval]) (by simp (disch := omega) only [go_sem, seval, seval]) rfl rfl ⟨rfl, congrArg vi (aWj hsa hsd (kA (f := aBe l) c4 (bNt (by simpa using c5)))).symm⟩
  refine bG ?_
  refine hK24 _ _ ?_; clear hK24
  refine cH hF [1, 2, 47, 48, 49, 50] ?_
  refine hK21 _ _ _ ?_ ⟨i + 1, rfl, rfl, ?_, ?_, ?_⟩
  ·exact bD
  ·exact bD
  ·exact fI l2_1 (bKd (by simpa using c5))
  exact cD
 refine dD ?_
 refine hK19 _ _ ?_; clear hK19
 refine a8 hF [] ?_
 refine cL ?_
 (try simp only [dQ, eT]); exact aFa 4 rfl (by simp (disch := omega) only [go_sem, seval, seval]) (by simp (disch := omega) only [go_sem, seval, seval]) rfl rfl ⟨rfl, congrArg vi (bGf hsa hsd (kJ l2_1 c4)).symm⟩
end Go.Sg
namespace Go.Sg
open Go.Proofs
open Go.Rv (goodB)
set_option maxRecDepth 20000 in
set_option maxHeartbeats 2000000 in
theorem w8 (O : aU) (l : aC) (hl : dX l) : aW Tryz.prog O 72 [.agg (aI l)] (vi (iZ l)) := by
 have hl1 := hl.sec
 have hl2 := hl.el
 have hl3 := hl.jo
 have hl4 := hl.sg
 have hl5 := hl.bl
 refine eV Tryz.func72 rfl (by kernel_rfl) fun w0 I0 A0 => ?_
 have hF := jN w0 I0 (b8 A0) (xG [])
 refine a8 hF [0] ?_
 refine aN fun K1 hK1 => ?_
 refine aN fun K2 hK2 => ?_
 refine dW hF [1] ?_
 refine dM (rY _ l) ?_
 refine hK2 _ _ ?_; clear hK2
 refine bU (fun c0 => ?_) fun c0 => ?_
 ·refine a8 hF [] ?_
  refine cL ?_
  (try simp only [eT, dQ]); refine b6 2 ?_; exact cP.is (by simp (disch := omega) only [go_sem, seval, seval] <;> exact (congrArg vi (bHa c0)).symm) rfl rfl
 refine bG ?_
 refine hK1 _ _ ?_; clear hK1
 refine aN fun K4 hK4 => ?_
 refine aN fun K5 hK5 => ?_
 refine dW hF [1] ?_
 refine dM (qW _ l hl) ?_
 refine hK5 _ _ ?_; clear hK5
 refine a8 hF [1, 3] ?_
 refine bU (fun c1 => ?_) fun c1 => ?_
 ·refine a8 hF [3] ?_
  refine cL ?_
  (try simp only [eT, dQ]); refine b6 2 ?_; exact cP.is (by simp (disch := omega) only [go_sem, seval, seval] <;> exact (congrArg vi (bGn c0 c1)).symm) rfl rfl
 refine bG ?_
 refine hK4 _ _ ?_; clear hK4
 refine aN fun K8 hK8 => ?_
 refine aN fun K9 hK9 => ?_
 refine dW hF [1] ?_
 refine dM (pJ _ l hl) ?_
 refine lY (fun g0 => oU _ l hl) ?_
 refine hK9 _ _ ?_; clear hK9
 refine bU (fun c2 => ?_) fun c2 => ?_
 ·refine a8 hF [] ?_
  refine cL ?_
  (try simp only [eT, dQ]); refine b6 2 ?_; exact cP.is (by simp (disch := omega) only [go_sem, seval, seval] <;> exact (congrArg vi (bGd c0 c1 c2)).symm) rfl rfl
 refine bG ?_
 refine hK8 _ _ ?_; clear hK8
 refine aN fun K11 hK11 => ?_
 refine bH (Le.keepC [1] _) ?_
 refine bM ?_
 refine ef hF ?_
 show fV _ _ _ _ _ _ _ _
 refine jU (cur := []) (rs := []) (s2 := []) rfl rfl rfl (by decide) (by kernel_rfl) (by simp (disch := omega) only [go_sem, seval]) (by simp (disch := omega) only [go_sem, seval]) (by simp (disch := omega) only [go_sem, seval] <;> rfl) (by kernel_rfl) (by simp (disch := omega) only [go_sem, seval] <;> exact List.Perm.refl _) (tE _ l hl) ?_
 rintro rs1 O1 r1 ⟨rfl, og, rfl, hjR⟩
 try simp (disch := omega) only [go_sem, seval]
 refine ef hF ?_
 refine ef hF ?_
 refine ef hF ?_
 refine ef hF ?_
 refine ef hF ?_
 refine hK11 _ _ ?_; clear hK11
 refine aN fun K12 hK12 => ?_
 refine a8 hF [1, 4, 5, 23, 25] ?_
 refine bU (fun c3 => ?_) fun c3 => ?_
 ·refine a8 hF [5] ?_
  refine cL ?_
  (try simp only [eT, dQ]); refine b6 2 ?_; exact cP.is (by simp (disch := omega) only [go_sem, seval, seval] <;> exact (congrArg vi (bFt c0 c1 c2 c3)).symm) rfl rfl
 refine bG ?_
 refine hK12 _ _ ?_; clear hK12
 refine aN fun K15 hK15 => ?_
 refine aN fun K16 hK16 => ?_
 refine bH (Le.keepC [1, 4, 23, 25] _) ?_
 refine bM ?_
 have hj0 : tH l = 0 := c3
 obtain ⟨g1, k1, rfl, rfl⟩ := hjR hj0
 refine ef hF ?_
 refine ef hF ?_
 show fV _ _ _ _ _ _ _ _
 refine jU (cur := _) (rs := _) (s2 := []) rfl rfl rfl (by decide) (by kernel_rfl) (by simp (disch := omega) only [go_sem, seval]) (by simp (disch := omega) only [go_sem, seval]) (by simp (disch := omega) only [go_sem, seval] <;> rfl) (by kernel_rfl) (by simp (disch := omega) only [go_sem, seval] <;> exact List.Perm.refl _) (oP _ l g1 k1 hl hj0) ?_
 rintro rs2 O2 r2 ⟨rfl, rfl⟩
 try simp (disch := omega) only [go_sem, seval]
 refine ef hF ?_
 refine hK16 _ _ ?_; clear hK16
 refine a8 hF [1, 6] ?_
 refine bU (fun c4 => ?_) fun c4 => ?_
 ·refine a8 hF [6] ?_
  refine cL ?_
  (try simp only [eT, dQ]); refine b6 2 ?_; exact cP.is (by simp (disch := omega) only [go_sem, seval, seval] <;> exact (congrArg vi (bFy c0 c1 c2 c3 c4)).symm) rfl rfl
 refine bG ?_
 refine hK15 _ _ ?_; clear hK15
 refine aN fun K19 hK19 => ?_
 refine dW hF [1] ?_
 refine dM (oR _ l hl) ?_
 refine hK19 _ _ ?_; clear hK19
 refine cL ?_
 (try simp only [eT, dQ]); refine b6 2 ?_; exact cP.is (by simp (disch := omega) only [go_sem, seval, seval] <;> exact (congrArg vi (bFo c0 c1 c2 c3 c4)).symm) rfl rfl
end Go.Sg
namespace Go.Sg
open Go.Proofs
abbrev aVj (l : List cC) : DV := rowL 49 2 bO l
def elI (l : aC) : Int := if kT l = false ∨ pB l = false then 1 else tH l
section
variable {l : aC}
theorem aTk (h : kT l = false ∨ pB l = false) : elI l = 1 := by unfold elI; rw [if_pos h]
theorem aOp (h : kT l = true) (h2 : pB l = true) : elI l = tH l := by unfold elI; rw [if_neg (by rw [h, h2]; simp)]
theorem aCh (js : List gG) : (d4 js).length = 2 * js.length := by
 unfold d4; induction js with
 | nil => rfl
 | cons a t ih => rw [List.flatMap_cons, List.length_append, ih]; simp; omega
theorem aQx {js : List gG} {i : Nat} (h : js.length ≤ i) : d4 (js.take i) = d4 js := by rw [List.take_of_length_le h]
theorem bKs (h : l.fJoints.all (uN l) = true) (hn : u7 (d4 l.fJoints) = false) : tH l = 8 := by unfold tH; rw [if_pos h, hn, if_neg (by simp)]
theorem bJz (h : l.fJoints.all (uN l) = true) (hn : u7 (d4 l.fJoints) = true) : tH l = 0 := by unfold tH; rw [if_pos h, if_pos hn]
theorem oA : (mN l).length = l.fSignals.length := by unfold mN; simp
theorem rM {i : Nat} (h : i < l.fSignals.length) : (mN l).getD i default = (l.fSignals.getD i default).fAt := by
 unfold mN
 rw [List.getD_eq_getElem?_getD, List.getD_eq_getElem?_getD, List.getElem?_map, List.getElem?_eq_getElem h]; rfl
theorem bLn {i : Nat} (h : i < l.fSignals.length) : (mN l).take (i + 1) = (mN l).take i ++ [(l.fSignals.getD i default).fAt] := by
 rw [fP default (by rw [oA]; exact h), rM h]
theorem bLi {i : Nat} (h : l.fSignals.length ≤ i) : (mN l).take i = mN l := List.take_of_length_le (by rw [oA]; exact h)
theorem bIy {i : Nat} (h : i < l.fBalises.length) : (pM l).take (i + 1) = (pM l).take i ++ [(l.fBalises.getD i default).fId] := by
 rw [fP default (by rw [oT]; exact h), zX h]
theorem bHt {i : Nat} (h : l.fBalises.length ≤ i) : (pM l).take i = pM l := List.take_of_length_le (by rw [oT]; exact h)
theorem aWp {l : aC} {e : cC} (h : n0 l e = true) : 0 ≤ e.fEl ∧ e.fEl < (l.fElements.length : Int) := by
 unfold n0 at h
 simp only [Bool.and_eq_true, decide_eq_true_eq] at h
 exact h.1
theorem aHz {js : List gG} (h : js.all (uN l) = true) {e : cC} (h2 : (d8 js e).2 = true) : n0 l (d8 js e).1 = true := by
 induction js with
 | nil => cases h2
 | cons j js ih =>
  rw [List.all_cons, Bool.and_eq_true] at h
  have hj := h.1
  unfold uN at hj
  simp only [Bool.and_eq_true] at hj
  unfold d8 at h2 ⊢
  split
  ·exact hj.2.1
  rename_i n1
  rw [if_neg n1] at h2
  split
  ·exact hj.1
  rename_i n2
  rw [if_neg n2] at h2
  exact ih h.2 h2
theorem yD {x : Int} (h : 0 ≤ x ∧ x < (l.fElements.length : Int)) : bY l x = (d7 l x.toNat).fSection := by unfold bY; rw [if_pos h]
theorem aTo {q : List hM} {e : cC} : ∀ {n : Nat}, (∃ s ∈ q, s.fAt = e) → ∃ k, k < q.length ∧ (q.getD k default).fAt = e ∧ (∀ j, j < k → (q.getD j default).fAt ≠ e) ∧ qH q e n = ((n + k : Nat) : Int) := by
 induction q with
 | nil => intro n h; obtain ⟨s, hs, _⟩ := h; cases hs
 | cons a q ih =>
  intro n h
  unfold qH
  by_cases ha : a.fAt = e
  ·exact ⟨0, by simp, ha, fun j hj => by omega, by rw [if_pos ha]; rfl⟩
  obtain ⟨k, h1, h2, h3, h4⟩ := ih (n := n + 1) (by
   obtain ⟨s, hs, he⟩ := h
   rcases List.mem_cons.1 hs with rfl | hs
   ·exact absurd he ha
   exact ⟨s, hs, he⟩)
  refine ⟨k + 1, by simp; omega, h2, fun j hj => ?_, ?_⟩
  ·cases j with
   | zero => exact ha
   | succ j => exact h3 j (by omega)
  rw [if_neg ha, h4]; congr 1; omega
theorem aWx : sdB l = u7 (mN l) := by
 rw [Bool.eq_iff_iff]
 unfold sdB u7 nuT
 rw [List.all_eq_true, List.all_eq_true, oA]
 refine ⟨fun h i hi => ?_, fun h i hi => ?_⟩
 ·have hi2 := List.mem_range.1 hi
  rw [List.all_eq_true]
  intro j hj
  have hj2 := List.mem_range.1 hj
  refine decide_eq_true fun e => ?_
  rw [rM hi2, rM (by omega)] at e
  have a := of_decide_eq_true (h i hi)
  have b := of_decide_eq_true (h j (List.mem_range.2 (by omega)))
  have e2 : (i : Int) = j := by
   rw [← a, ← b]
   first | rw [e] | rw [← e]
  omega
 have hi2 := List.mem_range.1 hi
 refine decide_eq_true ?_
 obtain ⟨k, h1, h2, h3, h4⟩ := aTo (q := l.fSignals) (e := (l.fSignals.getD i default).fAt) (n := 0) ⟨_, fS hi2, rfl⟩
 show qH _ _ 0 = _
 rw [h4]
 have hki : k = i := by
  rcases Nat.lt_trichotomy k i with c | c | c
  ·have := h i hi
   rw [List.all_eq_true] at this
   have := of_decide_eq_true (this k (List.mem_range.2 c))
   rw [rM hi2, rM h1, h2] at this
   exact absurd rfl this
  ·exact c
  exact absurd rfl (h3 i c)
 subst hki
 congr 1; omega
theorem bBd {s : hM} (h : (n0 l s.fAt = false ∨ s.fOverlap < 0) ∨ 1000000 < s.fOverlap) : lU l s = false := by
 refine aRw ?_
 unfold tG
 rcases h with (h | h) | h
 ·exact .inl h
 ·exact .inr (decide_eq_false (by omega))
 exact .inr (decide_eq_false (by omega))
theorem bDb {s : hM} (h : (n0 l s.fAt = true ∧ 0 ≤ s.fOverlap) ∧ s.fOverlap ≤ 1000000) : lU l s = true := aUv ⟨h.1.1, decide_eq_true (by omega)⟩
theorem bQh (h : l.fSignals.all (lU l) = true) {i : Nat} (hi : i < l.fSignals.length) : n0 l (l.fSignals.getD i default).fAt = true := by
 have := s7 (f := lU l) h hi
 unfold lU at this
 simp only [Bool.and_eq_true] at this
 exact this.1
theorem bCv {b : mR} (h : ((((b.fId < 1 ∨ 1073741824 < b.fId) ∨ b.fEl < 0) ∨ (l.fElements.length : Int) ≤ b.fEl) ∨ b.fOffset < 0) ∨ (d7 l b.fEl.toNat).fLength < b.fOffset) : rW l b = false := by
 refine aYf ?_
 unfold tG
 simp only [Bool.or_eq_true, Bool.not_eq_true', decide_eq_false_iff_not]
 omega
theorem bAt {b : mR} (h : ((((1 ≤ b.fId ∧ b.fId ≤ 1073741824) ∧ 0 ≤ b.fEl) ∧ b.fEl < (l.fElements.length : Int)) ∧ 0 ≤ b.fOffset) ∧ b.fOffset ≤ (d7 l b.fEl.toNat).fLength) : rW l b = true := by
 refine aWf ?_
 unfold tG
 simp only [Bool.or_eq_false_iff, Bool.not_eq_false', decide_eq_true_eq]
 omega
def suE (l : aC) (e : cC) : Bool := (aD l e).2 && decide (bY l (aD l e).1.fEl ≠ bY l e.fEl)
theorem aNk : (mN l).all (suE l) = l.fSignals.all (aBe l) := by unfold mN; rw [List.all_map]; rfl
theorem aLl (h : l.fSignals.all (lU l) = true) {i : Nat} (hi : i < (mN l).length) : 0 ≤ ((mN l).getD i default).fEl ∧ ((mN l).getD i default).fEl < (l.fElements.length : Int) := by
 rw [oA] at hi
 rw [rM hi]
 exact aWp (bQh h hi)
theorem aLa (h : tH l = 0) {e : cC} (h2 : (aD l e).2 = true) : 0 ≤ (aD l e).1.fEl ∧ (aD l e).1.fEl < (l.fElements.length : Int) := aWp (aHz (xZ h).1 h2)
theorem bOf (h0 : tH l = 0) {e : cC} (hb : 0 ≤ e.fEl ∧ e.fEl < (l.fElements.length : Int)) (h : (aD l e).2 = false ∨ (d7 l (aD l e).1.fEl.toNat).fSection = (d7 l e.fEl.toNat).fSection) : suE l e = false := by
 unfold suE
 cases hk : (aD l e).2 with
 | false => rfl
 | true =>
  rcases h with h | h
  ·rw [hk] at h; cases h
  rw [yD (aLa h0 hk), yD hb, h]; simp
theorem bOe (h0 : tH l = 0) {e : cC} (hb : 0 ≤ e.fEl ∧ e.fEl < (l.fElements.length : Int)) (h : (aD l e).2 = true ∧ ¬ (d7 l (aD l e).1.fEl.toNat).fSection = (d7 l e.fEl.toNat).fSection) : suE l e = true := by
 unfold suE
 rw [yD (aLa h0 h.1), yD hb, h.1, decide_eq_true h.2]; rfl
theorem bOb (h : ¬ nmR l = 0) : iZ l = nmR l := by
 unfold nmR at h ⊢
 cases hc : pR l with
 | false => rw [if_neg (by simp), bHa hc]
 | true => rw [hc, if_pos rfl] at h; rw [if_pos rfl, bGn hc h]
theorem aGt (h : nmR l = 0) : pR l = true ∧ nmI l = 0 := by
 unfold nmR at h
 cases hc : pR l with
 | false => rw [hc, if_neg (by simp)] at h; cases h
 | true => rw [hc, if_pos rfl] at h; exact ⟨rfl, h⟩
theorem aHp (h : elI l = 0) : (kT l = true ∧ pB l = true) ∧ tH l = 0 := by
 unfold elI at h
 split at h
 ·cases h
 rename_i h1
 simp only [not_or, Bool.not_eq_false] at h1
 exact ⟨h1, h⟩
theorem bKx (h : nmR l = 0) (h2 : ¬ elI l = 0) : iZ l = elI l := by
 obtain ⟨a, b⟩ := aGt h
 by_cases c : kT l = false ∨ pB l = false
 ·rw [bGd a b c, aTk c]
 have c2 := c
 simp only [not_or, Bool.not_eq_false] at c2
 rw [aOp c2.1 c2.2] at h2 ⊢
 exact bFt a b c2 h2
theorem bHe (h : nmR l = 0) (h2 : elI l = 0) (h3 : ¬ sgI l = 0) : iZ l = sgI l := bFy (aGt h).1 (aGt h).2 (aHp h2).1 (aHp h2).2 h3
theorem bHn (h : nmR l = 0) (h2 : elI l = 0) (h3 : sgI l = 0) : iZ l = blI l := bFo (aGt h).1 (aGt h).2 (aHp h2).1 (aHp h2).2 h3
end
theorem uF (O : aU) (l : aC) (hl : dX l) : aW Tryz.prog O 138 [.agg (aI l)] (vi (elI l)) := by
 have hl1 := hl.sec
 have hl2 := hl.el
 have hl3 := hl.jo
 have hl4 := hl.sg
 have hl5 := hl.bl
 refine aO 0 rfl (.agg (d := f5 l.fElements) (by simp [aI]) (.sl _ _ _)) fun he => ?_
 refine aO 0 rfl (.agg (d := dN l.fSections) (by simp [aI]) (.sl _ _ _)) fun hc => ?_
 refine dT Tryz.func138 ?_
 refine aB [0] ?_
 refine aA fun K1 hK1 => ?_
 refine aB [1] ?_
 refine aK ?_
 refine aX [1, 10, 11, 12] (fun n ρ => ∃ i, n = l.fElements.length - i ∧ (i ≤ l.fElements.length) ∧ (gU (qD l) l.fElements i) ∧ ρ = cU O [(1, .bx (aI l)), (10, f5 l.fElements), (11, vi (l.fElements.length : Nat)), (12, vi (i : Nat))]) _ ⟨0, rfl, ?_, ?_, ?_⟩ ?_
 ·exact bD
 ·exact fH _ _
 ·exact cD
 rintro n ρ ⟨i, rfl, l0_0, l0_1, rfl⟩ K3 hK3
 refine aB [1, 9, 10, 11, 12] ?_
 refine aA fun K5 hK5 => ?_
 refine aS (fun c0 => ?_) fun c0 => ?_
 ·refine aJ ?_
  refine hK5 _ ?_; clear hK5
  refine aA fun K6 hK6 => ?_
  refine aK ?_
  refine aB [1, 9, 10, 11, 12] ?_
  refine aA fun K8 hK8 => ?_
  refine bF [1, 4, 9, 10, 11, 12] ?_
  refine dM (aAk _ l (l.fElements.getD i default) hl) ?_
  refine hK8 _ ?_; clear hK8
  refine aS (fun c1 => ?_) fun c1 => ?_
  ·refine aB [] ?_
   refine aL ?_
   refine b6 2 ?_
   exact cP.is (by simp (disch := omega) only [go_sem, seval] <;> ((exact congrArg vi (aTk (.inl (kA (f := qD l) c0 (by simpa using c1)))).symm))) rfl rfl
  refine aJ ?_
  refine hK6 _ ?_; clear hK6
  refine bC [1, 9, 10, 11, 12] ?_
  refine hK3 _ _ ?_ ⟨i + 1, rfl, ?_, ?_, ?_⟩
  ·exact bD
  ·exact bD
  ·exact fI l0_1 (by simpa using c1)
  exact cD
 refine bA ?_
 refine hK1 _ ?_; clear hK1
 refine aA fun K10 hK10 => ?_
 refine aB [1] ?_
 refine aK ?_
 have hel : kT l = true := kJ l0_1 c0
 refine aX [1, 23, 24] (fun n ρ => ∃ i, n = l.fSections.length - i ∧ (i ≤ l.fSections.length) ∧ (j5 (fun s => decide ((aJy l (s : Nat)).length ≠ 0)) i) ∧ ρ = cU O [(1, .bx (aI l)), (23, vi (l.fSections.length : Nat)), (24, vi (i : Nat))]) _ ⟨0, rfl, ?_, ?_, ?_⟩ ?_
 ·exact bD
 ·exact gT _
 ·exact cD
 rintro n ρ ⟨i, rfl, l1_0, l1_1, rfl⟩ K12 hK12
 refine aB [1, 23, 24] ?_
 refine aA fun K14 hK14 => ?_
 refine aS (fun c2 => ?_) fun c2 => ?_
 ·refine aJ ?_
  refine hK14 _ ?_; clear hK14
  refine aA fun K15 hK15 => ?_
  refine aK ?_
  refine aB [1, 23, 24] ?_
  refine aA fun K17 hK17 => ?_
  refine bF [1, 5, 23, 24] ?_
  refine dM (vC _ l (i : Nat) hl) ?_
  refine hK17 _ ?_; clear hK17
  refine aS (fun c3 => ?_) fun c3 => ?_
  ·refine aB [] ?_
   refine aL ?_
   refine b6 2 ?_
   exact cP.is (by simp (disch := omega) only [go_sem, seval] <;> ((exact congrArg vi (aTk (.inr (o8 c2 (decide_eq_false (by simpa using c3))))).symm))) rfl rfl
  refine aJ ?_
  refine hK15 _ ?_; clear hK15
  refine bC [1, 23, 24] ?_
  refine hK12 _ _ ?_ ⟨i + 1, rfl, ?_, ?_, ?_⟩
  ·exact bD
  ·exact bD
  ·exact gN l1_1 (decide_eq_true (by simpa using c3))
  exact cD
 refine bA ?_
 refine hK10 _ ?_; clear hK10
 refine aB [1] ?_
 refine aA fun K20 hK20 => ?_
 refine aB [1, 6] ?_
 refine aK ?_
 have hus : pB l = true := o4 l1_1 (by omega)
 refine d9 6 49 2 bO rfl rfl ?_
 refine aX [1, 6, 34, 35, 36] (fun n ρ => ∃ i, n = l.fJoints.length - i ∧ (i ≤ l.fJoints.length) ∧ (gU (uN l) l.fJoints i) ∧ ρ = cU O [(1, .bx (aI l)), (6, aVj (d4 (l.fJoints.take i))), (34, aGd l.fJoints), (35, vi (l.fJoints.length : Nat)), (36, vi (i : Nat))]) _ ⟨0, rfl, ?_, ?_, ?_⟩ ?_
 ·exact bD
 ·exact fH _ _
 ·exact cD
 rintro n ρ ⟨i, rfl, l2_0, l2_1, rfl⟩ K22 hK22
 have hfl := aCh (l.fJoints.take i)
 have hft := List.length_take_le i l.fJoints
 have hfl2 := hl.jo
 refine aB [1, 6, 33, 34, 35, 36] ?_
 refine aA fun K24 hK24 => ?_
 refine aS (fun c4 => ?_) fun c4 => ?_
 ·refine aJ ?_
  refine hK24 _ ?_; clear hK24
  refine aA fun K25 hK25 => ?_
  refine aK ?_
  refine aB [1, 6, 33, 34, 35, 36] ?_
  refine aA fun K27 hK27 => ?_
  refine aA fun K28 hK28 => ?_
  refine bF [1, 6, 8, 33, 34, 35, 36] ?_
  refine dM (lI _ l (l.fJoints.getD i default).fA hl) ?_
  refine lY (fun g0 => lI _ l (l.fJoints.getD i default).fB hl) ?_
  refine hK28 _ ?_; clear hK28
  refine aS (fun c5 => ?_) fun c5 => ?_
  ·refine aB [] ?_
   refine aL ?_
   refine b6 2 ?_
   exact cP.is (by simp (disch := omega) only [go_sem, seval] <;> ((exact congrArg vi ((aOp hel hus).trans (aSt (kA (f := uN l) c4 (aUg (by simpa using c5))))).symm))) rfl rfl
  refine aJ ?_
  refine hK27 _ ?_; clear hK27
  refine bC [1, 6, 8, 33, 34, 35, 36] ?_
  refine hK25 _ ?_; clear hK25
  refine bC [1, 6, 33, 34, 35, 36] ?_
  refine hK22 _ _ ?_ ⟨i + 1, rfl, ?_, ?_, ?_⟩
  ·exact bD
  ·exact bD
  ·exact fI l2_1 (bHc (by simpa using c5))
  simp (disch := omega) only [go_sem, seval] <;> (rw [aFj c4, List.map_append]; rfl)
 refine bA ?_
 refine hK20 _ ?_; clear hK20
 refine aA fun K30 hK30 => ?_
 refine aA fun K31 hK31 => ?_
 have hjo : l.fJoints.all (uN l) = true := kJ l2_1 c4
 rw [aQx c4]
 refine dG 6 (d4 l.fJoints) rfl rfl ?_
 refine bF [6] ?_
 refine dM (sI _ (d4 l.fJoints) (by rw [aCh]; omega)) ?_
 refine hK31 _ ?_; clear hK31
 refine aS (fun c6 => ?_) fun c6 => ?_
 ·refine aB [] ?_
  refine aL ?_
  refine b6 2 ?_
  exact cP.is (by simp (disch := omega) only [go_sem, seval] <;> ((exact congrArg vi ((aOp hel hus).trans (bKs hjo (by simpa using c6))).symm))) rfl rfl
 refine aJ ?_
 refine hK30 _ ?_; clear hK30
 refine aB [] ?_
 refine aL ?_
 refine b6 2 ?_
 exact cP.is (by simp (disch := omega) only [go_sem, seval] <;> ((exact congrArg vi ((aOp hel hus).trans (bJz hjo (by simpa using c6))).symm))) rfl rfl
set_option maxHeartbeats 4000000 in
theorem vL (O : aU) (l : aC) (hl : dX l) (h0 : tH l = 0) : aW Tryz.prog O 139 [.agg (aI l)] (vi (sgI l)) := by
 have hl1 := hl.sec
 have hl2 := hl.el
 have hl3 := hl.jo
 have hl4 := hl.sg
 have hl5 := hl.bl
 have hal := oA (l := l)
 refine aO 0 rfl (.agg (d := f5 l.fElements) (by simp [aI]) (.sl _ _ _)) fun he => ?_
 refine aO 0 rfl (.agg (d := gB l.fSignals) (by simp [aI]) (.sl _ _ _)) fun hsl => ?_
 refine dT Tryz.func139 ?_
 refine aB [0] ?_
 refine aB [1] ?_
 refine aA fun K2 hK2 => ?_
 refine aB [1, 3] ?_
 refine aK ?_
 refine d9 3 49 2 bO rfl rfl ?_
 refine aX [1, 3, 11, 12, 13] (fun n ρ => ∃ i, n = l.fSignals.length - i ∧ (i ≤ l.fSignals.length) ∧ (gU (lU l) l.fSignals i) ∧ ρ = cU O [(1, .bx (aI l)), (3, aVj ((mN l).take i)), (11, gB l.fSignals), (12, vi (l.fSignals.length : Nat)), (13, vi (i : Nat))]) _ ⟨0, rfl, ?_, ?_, ?_⟩ ?_
 ·exact bD
 ·exact fH _ _
 ·exact cD
 rintro n ρ ⟨i, rfl, l0_0, l0_1, rfl⟩ K4 hK4
 refine aB [1, 3, 10, 11, 12, 13] ?_
 refine aA fun K6 hK6 => ?_
 refine aS (fun c0 => ?_) fun c0 => ?_
 ·refine aJ ?_
  refine hK6 _ ?_; clear hK6
  refine aA fun K7 hK7 => ?_
  refine aK ?_
  refine aB [1, 3, 10, 11, 12, 13] ?_
  refine aA fun K9 hK9 => ?_
  refine aA fun K10 hK10 => ?_
  refine bF [1, 3, 5, 10, 11, 12, 13] ?_
  refine dM (lI _ l (l.fSignals.getD i default).fAt hl) ?_
  refine hK10 _ ?_; clear hK10
  refine aS (fun c1 => ?_) fun c1 => ?_
  ·refine aB [] ?_
   refine aL ?_
   refine b6 2 ?_
   exact cP.is (by simp (disch := omega) only [go_sem, seval] <;> ((exact congrArg vi (bGo (kA (f := lU l) c0 (bBd (by simpa using c1)))).symm))) rfl rfl
  refine aJ ?_
  refine hK9 _ ?_; clear hK9
  refine bC [1, 3, 5, 10, 11, 12, 13] ?_
  refine hK7 _ ?_; clear hK7
  refine bC [1, 3, 10, 11, 12, 13] ?_
  refine hK4 _ _ ?_ ⟨i + 1, rfl, ?_, ?_, ?_⟩
  ·exact bD
  ·exact bD
  ·exact fI l0_1 (bDb (by simpa using c1))
  simp (disch := omega) only [go_sem, seval] <;> (rw [bLn c0, List.map_append]; rfl)
 refine bA ?_
 refine hK2 _ ?_; clear hK2
 refine aA fun K12 hK12 => ?_
 refine aA fun K13 hK13 => ?_
 have hsa : l.fSignals.all (lU l) = true := kJ l0_1 c0
 rw [bLi c0]
 refine dG 3 (mN l) rfl rfl ?_
 refine bF [1, 3] ?_
 refine dM (sI _ (mN l) (by rw [oA]; omega)) ?_
 refine hK13 _ ?_; clear hK13
 refine aS (fun c2 => ?_) fun c2 => ?_
 ·refine aB [] ?_
  refine aL ?_
  refine b6 2 ?_
  exact cP.is (by simp (disch := omega) only [go_sem, seval] <;> ((exact congrArg vi (bGk hsa (by rw [aWx]; simpa using c2)).symm))) rfl rfl
 refine aJ ?_
 refine hK12 _ ?_; clear hK12
 refine aA fun K15 hK15 => ?_
 refine aB [1, 3] ?_
 refine aK ?_
 have hsd : sdB l = true := (by rw [aWx]; simpa using c2)
 refine aX [1, 40, 41, 42] (fun n ρ => ∃ i, n = (mN l).length - i ∧ (i ≤ (mN l).length) ∧ (gU (suE l) (mN l) i) ∧ ρ = cU O [(1, .bx (aI l)), (40, jX (mN l)), (41, vi ((mN l).length : Nat)), (42, vi (i : Nat))]) _ ⟨0, rfl, ?_, ?_, ?_⟩ ?_
 ·exact bD
 ·exact fH _ _
 ·exact cD
 rintro n ρ ⟨i, rfl, l1_0, l1_1, rfl⟩ K17 hK17
 refine aB [1, 3, 40, 41, 42] ?_
 refine aA fun K19 hK19 => ?_
 refine aS (fun c3 => ?_) fun c3 => ?_
 ·refine aJ ?_
  refine hK19 _ ?_; clear hK19
  refine aA fun K20 hK20 => ?_
  refine aK ?_
  refine aB [1, 3, 40, 41, 42] ?_
  refine aA fun K22 hK22 => ?_
  refine bF [1, 3, 7, 40, 41, 42] ?_
  refine dM (gV _ l ((mN l).getD i default)) ?_
  refine hK22 _ ?_; clear hK22
  refine aA fun K23 hK23 => ?_
  refine eE [1, 3, 7, 8, 9, 40, 41, 42] [] fK (by kernel_rfl) ?_
  simp (disch := omega) only [go_sem, seval]
  repeat refine And.intro (by first | (intro h; exact ⟨h, aLa h0 h⟩) | (intro h; exact ⟨h, aLl hsa c3⟩) | (intro h; simpa using h) | exact bS) ?_
  refine hK23 _ ?_; clear hK23
  refine aS (fun c4 => ?_) fun c4 => ?_
  ·refine aB [] ?_
   refine aL ?_
   refine b6 2 ?_
   exact cP.is (by simp (disch := omega) only [go_sem, seval] <;> ((exact congrArg vi (aWj hsa hsd (by rw [← aNk]; exact kA c3 (bOf h0 (aLl hsa c3) (by simpa using c4)))).symm))) rfl rfl
  refine aJ ?_
  refine hK20 _ ?_; clear hK20
  refine bC [1, 3, 40, 41, 42] ?_
  refine hK17 _ _ ?_ ⟨i + 1, rfl, ?_, ?_, ?_⟩
  ·exact bD
  ·exact bD
  ·exact fI l1_1 (bOe h0 (aLl hsa c3) (by simpa using c4))
  exact cD
 refine bA ?_
 refine hK15 _ ?_; clear hK15
 refine aB [] ?_
 refine aL ?_
 refine b6 2 ?_
 exact cP.is (by simp (disch := omega) only [go_sem, seval] <;> ((exact congrArg vi (bGf hsa hsd (by rw [← aNk]; exact kJ l1_1 (by omega))).symm))) rfl rfl
theorem vA (O : aU) (l : aC) (hl : dX l) : aW Tryz.prog O 140 [.agg (aI l)] (vi (blI l)) := by
 have hl1 := hl.sec
 have hl2 := hl.el
 have hl3 := hl.jo
 have hl4 := hl.sg
 have hl5 := hl.bl
 refine aO 0 rfl (.agg (d := f5 l.fElements) (by simp [aI]) (.sl _ _ _)) fun he => ?_
 refine aO 0 rfl (.agg (d := wL l.fBalises) (by simp [aI]) (.sl _ _ _)) fun hb => ?_
 refine dT Tryz.func140 ?_
 refine aB [0] ?_
 refine aB [1] ?_
 refine aA fun K2 hK2 => ?_
 refine aB [1, 3] ?_
 refine aK ?_
 refine d9 3 3 1 eI rfl rfl ?_
 refine aX [1, 3, 7, 8, 9] (fun n ρ => ∃ i, n = l.fBalises.length - i ∧ (i ≤ l.fBalises.length) ∧ (gU (rW l) l.fBalises i) ∧ ρ = cU O [(1, .bx (aI l)), (3, yT ((pM l).take i)), (7, wL l.fBalises), (8, vi (l.fBalises.length : Nat)), (9, vi (i : Nat))]) _ ⟨0, rfl, ?_, ?_, ?_⟩ ?_
 ·exact bD
 ·exact fH _ _
 ·exact cD
 rintro n ρ ⟨i, rfl, l0_0, l0_1, rfl⟩ K4 hK4
 refine aB [1, 3, 6, 7, 8, 9] ?_
 refine aA fun K6 hK6 => ?_
 refine aS (fun c0 => ?_) fun c0 => ?_
 ·refine aJ ?_
  refine hK6 _ ?_; clear hK6
  refine aA fun K7 hK7 => ?_
  refine aK ?_
  refine aB [1, 3, 6, 7, 8, 9] ?_
  refine aA fun K9 hK9 => ?_
  refine aA fun K10 hK10 => ?_
  refine e5 [1, 3, 5, 6, 7, 8, 9] [] ?_
  refine hK10 _ ?_; clear hK10
  refine aS (fun c1 => ?_) fun c1 => ?_
  ·refine aB [] ?_
   refine aL ?_
   refine b6 2 ?_
   exact cP.is (by simp (disch := omega) only [go_sem, seval] <;> ((exact congrArg vi (bGm (kA (f := rW l) c0 (bCv (by simpa using c1)))).symm))) rfl rfl
  refine aJ ?_
  refine hK9 _ ?_; clear hK9
  refine bC [1, 3, 5, 6, 7, 8, 9] ?_
  refine hK7 _ ?_; clear hK7
  refine bC [1, 3, 6, 7, 8, 9] ?_
  refine hK4 _ _ ?_ ⟨i + 1, rfl, ?_, ?_, ?_⟩
  ·exact bD
  ·exact bD
  ·exact fI l0_1 (bAt (by simpa using c1))
  simp (disch := omega) only [go_sem, seval] <;> (rw [bIy c0, List.map_append]; rfl)
 refine bA ?_
 refine hK2 _ ?_; clear hK2
 refine aA fun K12 hK12 => ?_
 refine aA fun K13 hK13 => ?_
 have hba : l.fBalises.all (rW l) = true := kJ l0_1 c0
 rw [bHt c0]
 refine dG 3 (pM l) rfl rfl ?_
 refine bF [3] ?_
 refine dM (wC _ (pM l) (by rw [oT]; omega)) ?_
 refine hK13 _ ?_; clear hK13
 refine aS (fun c2 => ?_) fun c2 => ?_
 ·refine aB [] ?_
  refine aL ?_
  refine b6 2 ?_
  exact cP.is (by simp (disch := omega) only [go_sem, seval] <;> ((exact congrArg vi (bGw hba (by simpa using c2)).symm))) rfl rfl
 refine aJ ?_
 refine hK12 _ ?_; clear hK12
 refine aB [] ?_
 refine aL ?_
 refine b6 2 ?_
 exact cP.is (by simp (disch := omega) only [go_sem, seval] <;> ((exact congrArg vi (bGx hba (by simpa using c2)).symm))) rfl rfl
theorem z8 (O : aU) (l : aC) (hl : dX l) : aW Tryz.prog O 88 [.agg (aI l)] (vi (iZ l)) := by
 have hl1 := hl.sec
 have hl2 := hl.el
 have hl3 := hl.jo
 have hl4 := hl.sg
 have hl5 := hl.bl
 refine dT Tryz.func88 ?_
 refine aB [0] ?_
 refine aA fun K1 hK1 => ?_
 refine aA fun K2 hK2 => ?_
 refine bF [1] ?_
 refine dM (aAp _ l hl) ?_
 refine hK2 _ ?_; clear hK2
 refine aB [1, 3] ?_
 refine aS (fun c0 => ?_) fun c0 => ?_
 ·refine aB [3] ?_
  refine aL ?_
  refine b6 2 ?_
  exact cP.is (by simp (disch := omega) only [go_sem, seval] <;> ((exact congrArg vi (bOb c0).symm))) rfl rfl
 refine aJ ?_
 refine hK1 _ ?_; clear hK1
 refine aA fun K5 hK5 => ?_
 refine aA fun K6 hK6 => ?_
 refine bF [1] ?_
 refine dM (uF _ l hl) ?_
 refine hK6 _ ?_; clear hK6
 refine aB [1, 4] ?_
 refine aS (fun c1 => ?_) fun c1 => ?_
 ·refine aB [4] ?_
  refine aL ?_
  refine b6 2 ?_
  exact cP.is (by simp (disch := omega) only [go_sem, seval] <;> ((exact congrArg vi (bKx c0 c1).symm))) rfl rfl
 refine aJ ?_
 refine hK5 _ ?_; clear hK5
 refine aA fun K9 hK9 => ?_
 refine aA fun K10 hK10 => ?_
 refine bF [1] ?_
 refine dM (vL _ l hl (aHp c1).2) ?_
 refine hK10 _ ?_; clear hK10
 refine aB [1, 5] ?_
 refine aS (fun c2 => ?_) fun c2 => ?_
 ·refine aB [5] ?_
  refine aL ?_
  refine b6 2 ?_
  exact cP.is (by simp (disch := omega) only [go_sem, seval] <;> ((exact congrArg vi (bHe c0 c1 c2).symm))) rfl rfl
 refine aJ ?_
 refine hK9 _ ?_; clear hK9
 refine aA fun K13 hK13 => ?_
 refine bF [1] ?_
 refine dM (vA _ l hl) ?_
 refine hK13 _ ?_; clear hK13
 refine aL ?_
 refine b6 2 ?_
 exact cP.is (by simp (disch := omega) only [go_sem, seval] <;> ((exact congrArg vi (bHn c0 c1 c2).symm))) rfl rfl
attribute [go_sem] Bool.not_false Bool.not_true
def pS (l : aC) (e : Int) : Bool := decide (0 ≤ e ∧ e < (l.fElements.length : Int))
theorem gX {l : aC} {e : Int} : pS l e = true ↔ 0 ≤ e ∧ e < (l.fElements.length : Int) := decide_eq_true_iff
theorem bSr {l : aC} {e : Int} : pS l e = false ↔ ¬ (0 ≤ e ∧ e < (l.fElements.length : Int)) := decide_eq_false_iff_not
def iG (l : aC) (s : bB) : Int × Bool := if pS l s.fEl = true then cF (d7 l s.fEl.toNat).fKind s.fIn s.fOut else (0, false)
def bP (l : aC) (s : bB) : cC × Bool := aD l ⟨s.fEl, s.fOut⟩
def cS (l : aC) (a : cC) : List bB := if pS l a.fEl = true then (cZ (d7 l a.fEl.toNat).fKind a.fSide).map (fun o => ⟨a.fEl, a.fSide, o⟩) else []
def fL (l : aC) (q : List bB) : Int := (q.map fun s => if pS l s.fEl = true then (d7 l s.fEl.toNat).fLength else 0).sum
abbrev bN (l : List bB) : DV := encL 3 bJ l
abbrev pE (l : List bB) : DV := rowL 85 3 bJ l
theorem vE {l : aC} {s : bB} (h : pS l s.fEl = false) : iG l s = (0, false) := by unfold iG; rw [if_neg (by rw [h]; simp)]
theorem o0 {l : aC} {s : bB} (h : pS l s.fEl = true) : iG l s = cF (d7 l s.fEl.toNat).fKind s.fIn s.fOut := by unfold iG; rw [if_pos h]
theorem aMs {l : aC} {a : cC} (h : pS l a.fEl = false) : cS l a = [] := by unfold cS; rw [if_neg (by rw [h]; simp)]
theorem aMx {l : aC} {a : cC} (h : pS l a.fEl = true) : cS l a = (cZ (d7 l a.fEl.toNat).fKind a.fSide).map (fun o => ⟨a.fEl, a.fSide, o⟩) := by unfold cS; rw [if_pos h]
theorem aCp (k i : Int) : (cZ k i).length ≤ 10 := by
 unfold cZ nF
 rw [List.length_map]
 exact Nat.le_trans (List.length_filter_le _ _) (by decide)
theorem bRf {q : List Int} {f : Int → bB} {i : Nat} (h : i < q.length) : (q.map f).take (i + 1) = (q.map f).take i ++ [f (q.getD i default)] := by
 rw [List.take_succ_eq_append_getElem (by simpa using h), List.getElem_map, List.getD_eq_getElem?_getD, List.getElem?_eq_getElem h]; rfl
theorem iM (O : aU) (l : aC) (e : Int) : aW Tryz.prog O 136 [.agg (aI l), vi e] (vb (pS l e)) := by
 refine aO 0 rfl (.agg (d := f5 l.fElements) (by simp [aI]) (.sl _ _ _)) fun he => ?_
 refine dT Tryz.func136 ?_
 refine aB [0, 1] ?_
 refine aB [1, 2] ?_
 refine aL ?_
 refine b6 4 ?_
 refine xb ?_
 ((unfold pS; rw [Bool.eq_iff_iff]; simp))
theorem jE (O : aU) (l : aC) (e : Int) : aW Tryz.prog O 60 [.agg (aI l), vi e] (vb (pS l e)) := by
 refine aO 0 rfl (.agg (d := f5 l.fElements) (by simp [aI]) (.sl _ _ _)) fun he => ?_
 refine dT Tryz.func60 ?_
 refine aB [0, 1] ?_
 refine aB [1, 2] ?_
 refine aL ?_
 refine b6 4 ?_
 refine xb ?_
 ((unfold pS; rw [Bool.eq_iff_iff]; simp))
set_option maxHeartbeats 4000000 in
theorem vU (O : aU) (l : aC) (s : bB) (hl : dX l) : aW Tryz.prog O 134 [.agg (aI l), .agg (bJ s)] (.tup [vi (iG l s).1, vb (iG l s).2]) := by
 have hl1 := hl.sec
 have hl2 := hl.el
 have hl3 := hl.jo
 have hl4 := hl.sg
 have hl5 := hl.bl
 refine aO 0 rfl (.agg (d := f5 l.fElements) (by simp [aI]) (.sl _ _ _)) fun he => ?_
 refine dT Tryz.func134 ?_
 refine aB [0, 1] ?_
 refine aA fun K1 hK1 => ?_
 refine aA fun K2 hK2 => ?_
 refine bF [2, 3] ?_
 refine dM (iM _ l s.fEl) ?_
 refine hK2 _ ?_; clear hK2
 refine aS (fun c0 => ?_) fun c0 => ?_
 ·refine aB [] ?_
  refine aL ?_
  refine nC (.cons ?_ (.cons ?_ .nil))
  ·exact gZ (by simp (disch := omega) only [go_sem, seval] <;> ((rw [vE (by simpa using c0)]))) rfl rfl
  exact gZ (by simp (disch := omega) only [go_sem, seval] <;> ((rw [vE (by simpa using c0)]))) rfl rfl
 refine aJ ?_
 refine hK1 _ ?_; clear hK1
 refine aA fun K4 hK4 => ?_
 refine eE [2, 3] [] fK (by kernel_rfl) ?_
 simp (disch := omega) only [go_sem, seval]
 repeat refine And.intro (by first | exact gX.1 (by simpa using c0) | exact bS) ?_
 refine dR (oN _ (d7 l s.fEl.toNat).fKind s.fIn s.fOut) ?_ ?_
 ·rfl
 try simp (disch := omega) only [go_sem, seval]
 repeat refine And.intro (by first | exact gX.1 (by simpa using c0) | exact bS) ?_
 refine hK4 _ ?_; clear hK4
 refine aL ?_
 refine nC (.cons ?_ (.cons ?_ .nil))
 ·exact gZ (by simp (disch := omega) only [go_sem, seval] <;> ((rw [o0 (by simpa using c0)]))) rfl rfl
 exact gZ (by simp (disch := omega) only [go_sem, seval] <;> ((rw [o0 (by simpa using c0)]))) rfl rfl
set_option maxHeartbeats 4000000 in
theorem sG (O : aU) (l : aC) (s : bB) (hl : dX l) : aW Tryz.prog O 103 [.agg (aI l), .agg (bJ s)] (.tup [vi (iG l s).1, vb (iG l s).2]) := by
 have hl1 := hl.sec
 have hl2 := hl.el
 have hl3 := hl.jo
 have hl4 := hl.sg
 have hl5 := hl.bl
 refine aO 0 rfl (.agg (d := f5 l.fElements) (by simp [aI]) (.sl _ _ _)) fun he => ?_
 refine dT Tryz.func103 ?_
 refine aB [0, 1] ?_
 refine aA fun K1 hK1 => ?_
 refine aA fun K2 hK2 => ?_
 refine bF [2, 3] ?_
 refine dM (jE _ l s.fEl) ?_
 refine hK2 _ ?_; clear hK2
 refine aS (fun c0 => ?_) fun c0 => ?_
 ·refine aB [] ?_
  refine aL ?_
  refine nC (.cons ?_ (.cons ?_ .nil))
  ·exact gZ (by simp (disch := omega) only [go_sem, seval] <;> ((rw [vE (by simpa using c0)]))) rfl rfl
  exact gZ (by simp (disch := omega) only [go_sem, seval] <;> ((rw [vE (by simpa using c0)]))) rfl rfl
 refine aJ ?_
 refine hK1 _ ?_; clear hK1
 refine aA fun K4 hK4 => ?_
 refine eE [2, 3] [] fK (by kernel_rfl) ?_
 simp (disch := omega) only [go_sem, seval]
 repeat refine And.intro (by first | exact gX.1 (by simpa using c0) | exact bS) ?_
 refine dR (kY _ (d7 l s.fEl.toNat).fKind s.fIn s.fOut) ?_ ?_
 ·rfl
 try simp (disch := omega) only [go_sem, seval]
 repeat refine And.intro (by first | exact gX.1 (by simpa using c0) | exact bS) ?_
 refine hK4 _ ?_; clear hK4
 refine aL ?_
 refine nC (.cons ?_ (.cons ?_ .nil))
 ·exact gZ (by simp (disch := omega) only [go_sem, seval] <;> ((rw [o0 (by simpa using c0)]))) rfl rfl
 exact gZ (by simp (disch := omega) only [go_sem, seval] <;> ((rw [o0 (by simpa using c0)]))) rfl rfl
set_option maxHeartbeats 4000000 in
theorem nZ (O : aU) (l : aC) (a : cC) (hl : dX l) : aW Tryz.prog O 132 [.agg (aI l), .agg (bO a)] (bN (cS l a)) := by
 have hl1 := hl.sec
 have hl2 := hl.el
 have hl3 := hl.jo
 have hl4 := hl.sg
 have hl5 := hl.bl
 have hlg := aCp (d7 l a.fEl.toNat).fKind a.fSide
 refine aO 0 rfl (.agg (d := f5 l.fElements) (by simp [aI]) (.sl _ _ _)) fun he => ?_
 refine dT Tryz.func132 ?_
 refine aB [0, 1] ?_
 refine aA fun K1 hK1 => ?_
 refine aA fun K2 hK2 => ?_
 refine bF [2, 3] ?_
 refine dM (iM _ l a.fEl) ?_
 refine hK2 _ ?_; clear hK2
 refine aS (fun c0 => ?_) fun c0 => ?_
 ·refine aB [] ?_
  refine lX 4 3 bJ rfl rfl ?_
  refine aL ?_
  refine b6 4 ?_
  exact cP.encL rfl (by (rw [aMs (by simpa using c0)]))
 refine aJ ?_
 refine hK1 _ ?_; clear hK1
 refine aB [2, 3] ?_
 refine aA fun K5 hK5 => ?_
 refine aA fun K6 hK6 => ?_
 refine eE [2, 3, 5] [] fK (by kernel_rfl) ?_
 simp (disch := omega) only [go_sem, seval]
 repeat refine And.intro (by first | exact gX.1 (by simpa using c0) | exact bS) ?_
 refine dR (tZ _ (d7 l a.fEl.toNat).fKind a.fSide) ?_ ?_
 ·rfl
 try simp (disch := omega) only [go_sem, seval]
 repeat refine And.intro (by first | exact gX.1 (by simpa using c0) | exact bS) ?_
 refine hK6 _ ?_; clear hK6
 refine aK ?_
 refine d9 5 85 3 bJ rfl rfl ?_
 refine aX [3, 5, 22, 23, 24] (fun n ρ => ∃ i, n = (cZ (d7 l a.fEl.toNat).fKind a.fSide).length - i ∧ (i ≤ (cZ (d7 l a.fEl.toNat).fKind a.fSide).length) ∧ ρ = cU O [(3, .bx (bO a)), (5, pE (((cZ (d7 l a.fEl.toNat).fKind a.fSide).map fun o => (⟨a.fEl, a.fSide, o⟩ : bB)).take i)), (22, b9 (cZ (d7 l a.fEl.toNat).fKind a.fSide)), (23, vi ((cZ (d7 l a.fEl.toNat).fKind a.fSide).length : Nat)), (24, vi (i : Nat))]) _ ⟨0, rfl, ?_, ?_⟩ ?_
 ·exact bD
 ·exact cD
 rintro n ρ ⟨i, rfl, l0_0, rfl⟩ K7 hK7
 refine aB [3, 5, 22, 23, 24] ?_
 refine aA fun K9 hK9 => ?_
 refine aS (fun c1 => ?_) fun c1 => ?_
 ·refine aJ ?_
  refine hK9 _ ?_; clear hK9
  refine aA fun K10 hK10 => ?_
  refine aK ?_
  refine aB [3, 5, 22, 23, 24] ?_
  refine bC [3, 5, 7, 22, 23, 24] ?_
  refine hK10 _ ?_; clear hK10
  refine a7 [3, 5, 22, 23, 24] (by kernel_rfl) ?_
  simp (disch := omega) only [go_sem, seval]
  repeat refine And.intro (by first | exact bS | (rw [List.length_map]; exact Nat.le_refl _) | (simp only [List.length_take, List.length_map, List.length_append, List.length_singleton]; omega)) ?_
  refine hK7 _ _ ?_ ⟨i + 1, rfl, ?_, ?_⟩
  ·exact bD
  ·exact bD
  simp (disch := omega) only [go_sem, seval] <;> (rw [bRf c1, List.map_append]; rfl)
 refine bA ?_
 refine hK5 _ ?_; clear hK5
 refine aA fun K12 hK12 => ?_
 refine dG 5 _ rfl rfl ?_
 refine bC [5] ?_
 refine hK12 _ ?_; clear hK12
 refine aL ?_
 refine b6 4 ?_
 exact cP.encL rfl (by (rw [aMx (by simpa using c0), List.take_of_length_le (by simpa using c1)]))
set_option maxRecDepth 20000 in
set_option maxHeartbeats 4000000 in
theorem m7 (O : aU) (l : aC) (a : cC) (hl : dX l) : aW Tryz.prog O 54 [.agg (aI l), .agg (bO a)] (bN (cS l a)) := by
 have hl1 := hl.sec
 have hl2 := hl.el
 have hl3 := hl.jo
 have hl4 := hl.sg
 have hl5 := hl.bl
 have hlg := aCp (d7 l a.fEl.toNat).fKind a.fSide
 refine aO 0 rfl (.agg (d := f5 l.fElements) (by simp [aI]) (.sl _ _ _)) fun he => ?_
 refine dT Tryz.func54 ?_
 refine aB [0, 1] ?_
 refine aA fun K1 hK1 => ?_
 refine aA fun K2 hK2 => ?_
 refine bF [2, 3] ?_
 refine dM (jE _ l a.fEl) ?_
 refine hK2 _ ?_; clear hK2
 refine aS (fun c0 => ?_) fun c0 => ?_
 ·refine aB [] ?_
  refine lX 4 3 bJ rfl rfl ?_
  refine aL ?_
  refine b6 4 ?_
  exact cP.encL rfl (by (rw [aMs (by simpa using c0)]))
 refine aJ ?_
 refine hK1 _ ?_; clear hK1
 refine aA fun K4 hK4 => ?_
 refine eE [2, 3] [(5, 22)] fK (by kernel_rfl) ?_
 simp (disch := omega) only [go_sem, seval]
 repeat refine And.intro (by first | exact gX.1 (by simpa using c0) | exact bS) ?_
 refine dR (aBp _ (d7 l a.fEl.toNat).fKind a.fSide) ?_ ?_
 ·rfl
 try simp (disch := omega) only [go_sem, seval]
 repeat refine And.intro (by first | exact gX.1 (by simpa using c0) | exact bS) ?_
 refine hK4 _ ?_; clear hK4
 refine aB [3, 5] ?_
 refine aA fun K6 hK6 => ?_
 refine aB [3, 5, 6] ?_
 refine aK ?_
 refine d9 6 85 3 bJ rfl rfl ?_
 refine aX [3, 6, 5, 7] (fun n ρ => ∃ i, n = (cZ (d7 l a.fEl.toNat).fKind a.fSide).length - i ∧ (i ≤ (cZ (d7 l a.fEl.toNat).fKind a.fSide).length) ∧ ρ = cU O [(3, .bx (bO a)), (6, pE (((cZ (d7 l a.fEl.toNat).fKind a.fSide).map fun o => (⟨a.fEl, a.fSide, o⟩ : bB)).take i)), (5, b9 (cZ (d7 l a.fEl.toNat).fKind a.fSide)), (7, vi (i : Nat))]) _ ⟨0, rfl, ?_, ?_⟩ ?_
 ·exact bD
 ·exact cD
 rintro n ρ ⟨i, rfl, l0_0, rfl⟩ K8 hK8
 refine aA fun K9 hK9 => ?_
 refine aB [3, 5, 6, 7] ?_
 refine aS (fun c1 => ?_) fun c1 => ?_
 ·refine aJ ?_
  refine hK9 _ ?_; clear hK9
  refine aA fun K11 hK11 => ?_
  refine aK ?_
  refine k9 13 [3, 5, 6, 7] [3, 5, 7, 30, 31, 32, 33, 34, 35, 36, 37, 38, 39, 40, 29, 6] [10] [(6, 40)] [[], [], [1], [], [3], [], [], [5, 6], [5, 6, 7], [1, 2, 3, 4, 5, 6, 7, 8], [1, 2, 3, 4, 5, 6, 7, 8, 9], [0, 1, 2, 3, 4, 5, 6, 7, 8, 9, 10], [0, 1, 2, 3, 4, 5, 6, 7, 8, 9, 10, 11]] [[11, 12], [11, 12], [11, 12], [11, 12], [11, 12], [11, 12], [11, 12], [11, 12], [11, 12], [11, 12], [11, 12], [12], []] (fun bQ => cU O [(3, .bx (bO a)), (5, b9 (cZ (d7 l a.fEl.toNat).fKind a.fSide)), (7, vi (i : Nat)), (30, aV (bQ 1) (.bp 3 0)), (31, aV (bQ 2) (vi a.fEl)), (32, aV (bQ 3) (.bp 3 1)), (33, aV (bQ 4) (vi a.fSide)), (34, aV (bQ 5) (b9 (cZ (d7 l a.fEl.toNat).fKind a.fSide))), (35, aV (bQ 6) (vi (i : Nat))), (36, aV (bQ 7) (.dp [vi ((cZ (d7 l a.fEl.toNat).fKind a.fSide).getD i default)])), (37, aV (bQ 8) (vi ((cZ (d7 l a.fEl.toNat).fKind a.fSide).getD i default))), (38, aV (bQ 9) (.agg [vi a.fEl, vi a.fSide, vi ((cZ (d7 l a.fEl.toNat).fKind a.fSide).getD i default)])), (39, aV (bQ 10) (.row 85 3 [[vi a.fEl, vi a.fSide, vi ((cZ (d7 l a.fEl.toNat).fKind a.fSide).getD i default)]])), (40, aV (bQ 11) (.row 85 3 (((((cZ (d7 l a.fEl.toNat).fKind a.fSide).map fun o => (⟨a.fEl, a.fSide, o⟩ : bB)).take i).map bJ) ++ [[vi a.fEl, vi a.fSide, vi ((cZ (d7 l a.fEl.toNat).fKind a.fSide).getD i default)]]))), (29, hU (bQ 11) (bQ 0) (.any) (.own 6 ((((cZ (d7 l a.fEl.toNat).fKind a.fSide).map fun o => (⟨a.fEl, a.fSide, o⟩ : bB)).take i).length))), (6, hU (bQ 12) (!bQ 11) (.own 40 ((((cZ (d7 l a.fEl.toNat).fKind a.fSide).map fun o => (⟨a.fEl, a.fSide, o⟩ : bB)).take i).length + 1)) (.row 85 3 (((((cZ (d7 l a.fEl.toNat).fKind a.fSide).map fun o => (⟨a.fEl, a.fSide, o⟩ : bB)).take i).map bJ))))]) (fun iQ hiQ oQ hoQ bQ hbQ KQ hKQ => ?_) ?_
  ·match iQ, hiQ with
   | 0, _ | 1, _ | 2, _ | 3, _ | 4, _ | 5, _ | 6, _ | 7, _ | 8, _ | 9, _ | 11, _ | 12, _ =>
    obtain rfl := Option.some.inj hoQ
    simp only [oS, hD, iB, List.getD_cons_succ, List.getD_cons_zero, List.getD_nil, and_true, true_and] at hbQ
    show qC _ _ _ false _ _
    simp (disch := omega) only [go_sem, seval, hbQ]
    repeat refine And.intro (by first | exact bS | (rw [List.length_map]; exact Nat.le_refl _) | (simp only [List.length_take, List.length_map, List.length_append, List.length_singleton]; omega)) ?_
    refine hKQ _ ?_
    simp (disch := omega) only [go_sem, seval, hbQ] <;> first | rfl | simp
   | 10, _ =>
    obtain rfl := Option.some.inj hoQ
    simp only [oS, hD, iB, List.getD_cons_succ, List.getD_cons_zero, List.getD_nil, and_true, true_and] at hbQ
    show qC _ _ _ true _ _
    simp (disch := omega) only [go_sem, seval, hbQ]
    repeat refine And.intro (by first | exact bS | (rw [List.length_map]; exact Nat.le_refl _) | (simp only [List.length_take, List.length_map, List.length_append, List.length_singleton]; omega)) ?_
    refine hKQ _ ?_
    simp (disch := omega) only [go_sem, seval, hbQ] <;> first | rfl | simp
  simp (disch := omega) only [go_sem, seval]
  repeat refine And.intro (by first | exact bS | (rw [List.length_map]; exact Nat.le_refl _) | (simp only [List.length_take, List.length_map, List.length_append, List.length_singleton]; omega)) ?_
  refine hK11 _ ?_; clear hK11
  refine bC [3, 5, 6, 7] ?_
  refine hK8 _ _ ?_ ⟨i + 1, rfl, ?_, ?_⟩
  ·exact bD
  ·exact bD
  simp (disch := omega) only [go_sem, seval] <;> (rw [bRf c1, List.map_append]; rfl)
 refine bA ?_
 refine hK6 _ ?_; clear hK6
 refine aA fun K12 hK12 => ?_
 refine dG 6 _ rfl rfl ?_
 refine bC [6] ?_
 refine hK12 _ ?_; clear hK12
 refine aL ?_
 refine b6 4 ?_
 exact cP.encL rfl (by (rw [aMx (by simpa using c0), List.take_of_length_le (by simpa using c1)]))
set_option maxHeartbeats 2000000 in
theorem tU (O : aU) (l : aC) (s : bB) : aW Tryz.prog O 216 [.agg (bJ s), .dp (aI l)] (.tup [.agg (bO (bP l s).1), vb (bP l s).2]) := by
 refine dT Tryz.func216 ?_
 refine aB [0, 1] ?_
 refine aA fun K1 hK1 => ?_
 refine bF [1, 2, 3] ?_
 refine dM (iO _ l ⟨s.fEl, s.fOut⟩) ?_
 refine hK1 _ ?_; clear hK1
 refine aL ?_
 refine nC (.cons ?_ (.cons ?_ .nil))
 ·exact sJ (by simp (disch := omega) only [go_sem, seval] <;> rfl) (by simp (disch := omega) only [go_sem, seval] <;> (first | rfl | (simp_all; done))) (by kernel_rfl) (by first | rfl | (simp (disch := omega) only [go_sem, seval]))
 exact gZ (by simp (disch := omega) only [go_sem, seval] <;> (first | rfl | (simp_all; done))) rfl rfl
set_option maxHeartbeats 2000000 in
theorem kX (O : aU) (l : aC) (s : bB) : aW Tryz.prog O 55 [.agg (aI l), .agg (bJ s)] (.tup [.agg (bO (bP l s).1), vb (bP l s).2]) := by
 refine dT Tryz.func55 ?_
 refine aB [0, 1] ?_
 refine aA fun K1 hK1 => ?_
 refine bF [2, 3, 4] ?_
 refine dM (gV _ l ⟨s.fEl, s.fOut⟩) ?_
 refine hK1 _ ?_; clear hK1
 refine aL ?_
 refine nC (.cons ?_ (.cons ?_ .nil))
 ·exact sJ (by simp (disch := omega) only [go_sem, seval] <;> rfl) (by simp (disch := omega) only [go_sem, seval] <;> (first | rfl | (simp_all; done))) (by kernel_rfl) (by first | rfl | (simp (disch := omega) only [go_sem, seval]))
 exact gZ (by simp (disch := omega) only [go_sem, seval] <;> (first | rfl | (simp_all; done))) rfl rfl
end Go.Sg
