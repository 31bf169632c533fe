/- Several texts as one. -/
import Derived.Test.YtnpokifaejcbeaaGreatDoorK16
set_option linter.unusedSectionVars false
set_option linter.unusedVariables false
set_option linter.unusedSimpArgs false
set_option maxRecDepth 20000
namespace Go.Sg
open Go.Proofs
theorem aLc (l : aC) (i : Int) (q : List bB) : nmT l i (f9 l (q.getD (q.length - 1) default)) = d5 l i q := by
 show nmT l i (exQ l q) = (l.fSignals.getD i.toNat default).fName ++ ⟨#[45]⟩ ++ nmQ l (exQ l q)
 unfold nmT nmQ
 by_cases h : exQ l q < 0
 ·rw [if_pos h, if_neg (by omega), ByteArray.append_assoc]; rfl
 rw [if_neg h, if_pos (by omega)]
theorem bKa (n : Nat) : ((n : Int) - 1).toNat = n - 1 := by omega
theorem bBi : (default : List bB) = [] := rfl
theorem aOb {m : Nat} (hm : m ≤ 2001) : m + (⟨#[46]⟩ : ByteArray).size ≤ maxLen := by unfold maxLen; show m + 1 ≤ _; omega
theorem aNg {n m : Nat} (h : n ≤ 21) (hm : m ≤ 2001) : m + (⟨#[46]⟩ : ByteArray).size + n ≤ maxLen := by unfold maxLen; show m + 1 + n ≤ _; omega
theorem aRq (a b c : ByteArray) : a ++ b ++ c = a ++ (b ++ c) := ByteArray.append_assoc
def bTe (l : aC) (i : Int) (q : List bB) (nm : ByteArray) : bE := ⟨nm, i, f9 l (q.getD (q.length - 1) default), q, oD l q, dZ l q, bY l (l.fSignals.getD i.toNat default).fAt.fEl, fL l q, [], [], [], [], [], []⟩
theorem bKt {l : aC} {i : Nat} {P : List (List bB)} {k : Nat} (h : ¬ 1 < gC (d5 l i) (P.take (k + 1)) (d5 l i (P.getD k []))) : nbR l i P k = bTe l i (P.getD k []) (d5 l i (P.getD k [])) := by unfold nbR mZ; rw [if_neg h]; rfl
theorem bIf {l : aC} {i : Nat} {P : List (List bB)} {k : Nat} (h : 1 < gC (d5 l i) (P.take (k + 1)) (d5 l i (P.getD k []))) : nbR l i P k = bTe l i (P.getD k []) (d5 l i (P.getD k []) ++ (⟨#[46]⟩ ++ fmt (gC (d5 l i) (P.take (k + 1)) (d5 l i (P.getD k [])) : Nat))) := by unfold nbR mZ; rw [if_pos h]; rfl
section
attribute [local go_sem] List.drop_zero i6 iW iY f7 lT lP lN lM lK lQ jH jO jQ gS mV mC l2 mO mJ mD mT mM mH mU jG jJ jK jL bBi bKa aJr List.length_map oC aRq or_self
set_option maxRecDepth 20000 in
set_option maxHeartbeats 8000000 in
theorem aBk (O : aU) (l : aC) (i : Nat) (hi : i < l.fSignals.length) (hl : dX l) (hes : kT l = true) (hs : ∀ i, i < l.fSignals.length → (l.fSignals.getD i default).fName.size ≤ 1000) : aW Tryz.prog O 89 [.agg (aI l), vi (i : Nat)] (iU (dH gP l (i : Nat))) := by
 have hl4 := hl.sg
 have hgl := aKi l (l.fSignals.getD i default).fAt (aD l (l.fSignals.getD i default).fAt).1
 have hrg : srP l (aD l (l.fSignals.getD i default).fAt).1 13 (aD l (l.fSignals.getD i default).fAt).1 [] = (gP l (l.fSignals.getD i default).fAt (aD l (l.fSignals.getD i default).fAt).1) := (aNb 13 (.inl ⟨rfl, rfl⟩) (by simp)).symm
 refine eV Tryz.func89 rfl (by kernel_rfl) fun w0 I0 A0 => ?_
 have hF := jN w0 I0 (b8 A0) (xG [])
 refine a8 hF [0, 1] ?_
 refine aN fun K1 hK1 => ?_
 refine a8 hF [1, 2] ?_
 refine bU (fun c0 => ?_) fun c0 => ?_
 ·omega
 refine bG ?_
 refine hK1 _ _ ?_; clear hK1
 refine aN fun K3 hK3 => ?_
 refine dE hF ?_
 refine k9 14 [1, 2] [1, 2, 28, 29, 30, 31, 32, 33, 34, 35, 27, 36, 37, 6, 5] [] [] [[], [], [1], [], [1, 2, 3], [1, 2, 3, 4], [1, 2, 3, 4, 5], [0, 1, 2, 3, 4, 5, 6], [0, 1, 2, 3, 4, 5, 6, 7], [0, 1, 2, 3, 4, 5, 6, 7, 8], [0, 1, 2, 3, 4, 5, 6, 7, 8], [], [0, 1, 2, 3, 4, 5, 6, 7, 8, 9, 11], [0, 1, 2, 3, 4, 5, 6, 7, 8, 9, 10, 11, 12]] [[12], [12], [12], [12], [12], [12], [12], [12], [12], [12], [], [12], [], []] (fun bQ => cU O [(1, vi (i : Nat)), (2, .bx (aI l)), (28, aV (bQ 0) (.agg (aI l))), (29, aV (bQ 1) (.bp 2 4)), (30, aV (bQ 2) (gB l.fSignals)), (31, aV (bQ 3) (vi (i : Nat))), (32, aV (bQ 4) (.dp (eC (l.fSignals.getD i default)))), (33, aV (bQ 5) (.dp ((eC (l.fSignals.getD i default)).drop 1))), (34, aV (bQ 6) (.agg (bO (l.fSignals.getD i default).fAt))), (35, aV (bQ 7) (.tup [.agg (bO (aD l (l.fSignals.getD i default).fAt).1), vb (aD l (l.fSignals.getD i default).fAt).2])), (27, aV (bQ 8) (.tup [.agg (bO (aD l (l.fSignals.getD i default).fAt).1), vb (aD l (l.fSignals.getD i default).fAt).2])), (36, aV (bQ 9) (.agg (bO (aD l (l.fSignals.getD i default).fAt).1))), (37, aV (bQ 10) (vb (aD l (l.fSignals.getD i default).fAt).2)), (6, aV (bQ 13) (vb (aD l (l.fSignals.getD i default).fAt).2)), (5, hU (bQ 12) (bQ 11) (.bx (bO (aD l (l.fSignals.getD i default).fAt).1)) (.bx [vi 0, vi 0]))]) (fun iQ hiQ oQ hoQ bQ hbQ KQ hKQ => ?_) ?_
 ·match iQ, hiQ with
  | 0, _ | 1, _ | 2, _ | 3, _ | 4, _ | 5, _ | 6, _ | 8, _ | 9, _ | 10, _ | 11, _ | 12, _ | 13, _ =>
   exact mkp hoQ hbQ hKQ
  | 7, _ =>
   exact mkc hoQ hbQ hKQ (gV _ l (l.fSignals.getD i default).fAt)
 refine lZ ?_
 refine hK3 _ _ ?_; clear hK3
 refine aN fun K4 hK4 => ?_
 refine a8 hF [1, 2, 5, 6] ?_
 refine bU (fun c1 => ?_) fun c1 => ?_
 ·have hjo : (aD l (l.fSignals.getD i default).fAt).2 = false := (by simpa using c1)
  refine a8 hF [] ?_
  refine cL ?_
  have hw : bV (.v (.slice none 0 0)) (iU (dH gP l (i : Nat))) := by rw [aWu hi hjo]; exact bV.nilL _
  (try simp only [eT, dQ]); refine b6 4 ?_; exact cP.pure _ (by ((try simp only [go_sem, seval]); try simp (disch := omega) only [go_sem, seval]) <;> rfl) (by first | exact hw | (((try simp only [go_sem, seval]); try simp (disch := omega) only [go_sem, seval]); exact hw)) rfl
 have hjo : (aD l (l.fSignals.getD i default).fAt).2 = true := (by simpa using c1)
 refine bG ?_
 refine hK4 _ _ ?_; clear hK4
 refine a8 hF [1, 2, 5] ?_
 refine aN fun K8 hK8 => ?_
 refine eL [] [] 42 1 rfl ?_
 refine bH (Le.keepC [1, 2, 5, 7] _) ?_
 refine bM ?_
 refine ef hF ?_
 refine ef hF ?_
 refine ef hF ?_
 refine ef hF ?_
 show fV _ _ _ _ _ _ _ _
 refine jU (cur := _) (rs := [u5 eU []]) (s2 := []) rfl rfl rfl (by decide) (by kernel_rfl) (by ((try simp only [go_sem, seval]); try simp (disch := omega) only [go_sem, seval])) (by ((try simp only [go_sem, seval]); try simp (disch := omega) only [go_sem, seval])) (by ((try simp only [go_sem, seval]); try simp (disch := omega) only [go_sem, seval]) <;> rfl) (by kernel_rfl) (by ((try simp only [go_sem, seval]); try simp (disch := omega) only [go_sem, seval]) <;> exact List.Perm.refl _) (aLm [.bp 7 0, .agg (aI l), .agg (bO (aD l (l.fSignals.getD i default).fAt).1), .agg (bO (aD l (l.fSignals.getD i default).fAt).1), bN []] (.cons (bV.refl _) (.cons (bV.refl _) (.cons (bV.refl _) (.cons (bV.refl _) (.cons (bV.nilL _) .nil))))) (tX (f := (aD l (l.fSignals.getD i default).fAt).1) hl 13 _ 7 eU [] (aD l (l.fSignals.getD i default).fAt).1 [] (by ((try simp only [go_sem, seval]); try simp (disch := omega) only [go_sem, seval]) <;> rfl) (by simp) (by simp) (by simp))) ?_
 rintro rs3 O3 r3 ⟨h3, rfl, rfl, rfl⟩
 rw [List.nil_append, hrg]
 refine lZ ?_
 refine hK8 _ _ ?_; clear hK8
 refine aN fun K9 hK9 => ?_
 refine dA (s1 := []) (s2 := []) 7 0 (by first | rfl | (((try simp only [go_sem, seval]); try simp (disch := omega) only [go_sem, seval]); done) | (((try simp only [go_sem, seval]); try simp (disch := omega) only [go_sem, seval]); rfl)) (by rw [List.length_map]; rfl) rfl (bV.frzL ePt (gP l (l.fSignals.getD i default).fAt (aD l (l.fSignals.getD i default).fAt).1)) rfl ?_
 refine eL [] [] 46 14 rfl ?_
 refine cH hF [1, 2, 7] ?_
 refine hK9 _ _ ?_; clear hK9
 refine aN fun K10 hK10 => ?_
 refine a8 hF [1, 2, 7, 8] ?_
 refine bI ?_
 refine dB [1, 2, 8, 9, 7] (fun n sF ρ => ∃ k, ∃ hx, n = (gP l (l.fSignals.getD i default).fAt (aD l (l.fSignals.getD i default).fAt).1).length - k ∧ sF = [.row hx 46 14 ((nK l i (gP l (l.fSignals.getD i default).fAt (aD l (l.fSignals.getD i default).fAt).1) k).map aZ)] ∧ (k ≤ (gP l (l.fSignals.getD i default).fAt (aD l (l.fSignals.getD i default).fAt).1).length) ∧ ρ = cU O [(1, vi (i : Nat)), (2, .bx (aI l)), (8, hx.sl k), (9, vi (k : Nat)), (7, .bx [encL 1 ePt (gP l (l.fSignals.getD i default).fAt (aD l (l.fSignals.getD i default).fAt).1)])]) _ ⟨0, eU, rfl, rfl, ?_, ?_⟩ ?_
 ·exact bD
 ·exact cD
 rintro n sF ρ ⟨k, hx, rfl, rfl, l0_0, rfl⟩ K12 hK12
 have hgm := fun (j : Nat) (h : j < (gP l (l.fSignals.getD i default).fAt (aD l (l.fSignals.getD i default).fAt).1).length) => x3 (l := l) (n := 13) (a := (aD l (l.fSignals.getD i default).fAt).1) (q := []) (p := ((gP l (l.fSignals.getD i default).fAt (aD l (l.fSignals.getD i default).fAt).1).getD j [])) (by simp) List.Pairwise.nil (fS h)
 have htl := List.length_take_le k (gP l (l.fSignals.getD i default).fAt (aD l (l.fSignals.getD i default).fAt).1)
 have hfl := oC l i (gP l (l.fSignals.getD i default).fAt (aD l (l.fSignals.getD i default).fAt).1) k
 refine aN fun K13 hK13 => ?_
 refine a8 hF [1, 2, 7, 8, 9] ?_
 refine bU (fun c2 => ?_) fun c2 => ?_
 ·refine bG ?_
  refine hK13 _ _ ?_; clear hK13
  refine aN fun K15 hK15 => ?_
  refine bI ?_
  refine a8 hF [1, 2, 7, 8, 9] ?_
  refine aN fun K17 hK17 => ?_
  have hpk := hgm k (by omega)
  have hpk1 := hpk.1
  have hpk2 := hpk.2.1
  refine dE hF ?_
  refine e5 [1, 2, 7, 8, 9, 10, 56, 57, 58, 59, 60, 61] [] ?_
  refine cdz (nM _ l (((gP l (l.fSignals.getD i default).fAt (aD l (l.fSignals.getD i default).fAt).1).getD k []).getD (((gP l (l.fSignals.getD i default).fAt (aD l (l.fSignals.getD i default).fAt).1).getD k []).length - 1) default)) ?_
  refine hK17 _ _ ?_; clear hK17
  refine aN fun K18 hK18 => ?_
  refine dE hF ?_
  refine k9 19 [1, 2, 7, 8, 9, 10, 11, 56, 57, 58, 59, 60, 61] [1, 8, 9, 7, 2, 10, 11, 74, 75, 76, 77, 78, 79, 80, 81, 82, 83, 84, 85, 86, 87, 88, 89, 90, 13] [] [] [[], [], [], [0, 1, 2], [], [], [], [], [], [0, 1, 2, 3, 7, 8], [], [], [0, 1, 2, 3, 7, 8, 9, 10, 11], [], [], [0, 1, 2, 3, 7, 8, 9, 10, 11, 12, 13, 14], [0, 1, 2, 3, 4, 5, 6, 7, 8, 9, 10, 11, 12, 13, 14, 15], [], [0, 1, 2, 3, 4, 5, 6, 7, 8, 9, 10, 11, 12, 13, 14, 15, 16, 17]] [[18], [18], [18], [18], [18], [18], [18], [18], [18], [18], [18], [18], [18], [18], [18], [18], [18], [18], []] (fun bQ => cU O [(1, vi (i : Nat)), (8, hx.sl k), (9, vi (k : Nat)), (7, .bx [encL 1 ePt (gP l (l.fSignals.getD i default).fAt (aD l (l.fSignals.getD i default).fAt).1)]), (2, .bx (aI l)), (10, bN ((gP l (l.fSignals.getD i default).fAt (aD l (l.fSignals.getD i default).fAt).1).getD k [])), (11, vi (f9 l (((gP l (l.fSignals.getD i default).fAt (aD l (l.fSignals.getD i default).fAt).1).getD k []).getD (((gP l (l.fSignals.getD i default).fAt (aD l (l.fSignals.getD i default).fAt).1).getD k []).length - 1) default))), (74, aV (bQ 0) (.agg (aI l))), (75, aV (bQ 1) (vi (i : Nat))), (76, aV (bQ 2) (vi (f9 l (((gP l (l.fSignals.getD i default).fAt (aD l (l.fSignals.getD i default).fAt).1).getD k []).getD (((gP l (l.fSignals.getD i default).fAt (aD l (l.fSignals.getD i default).fAt).1).getD k []).length - 1) default)))), (77, aV (bQ 3) (vs (d5 l (i : Nat) ((gP l (l.fSignals.getD i default).fAt (aD l (l.fSignals.getD i default).fAt).1).getD k [])))), (78, aV (bQ 4) (vi (i : Nat))), (79, aV (bQ 5) (vi (f9 l (((gP l (l.fSignals.getD i default).fAt (aD l (l.fSignals.getD i default).fAt).1).getD k []).getD (((gP l (l.fSignals.getD i default).fAt (aD l (l.fSignals.getD i default).fAt).1).getD k []).length - 1) default)))), (80, aV (bQ 6) (bN ((gP l (l.fSignals.getD i default).fAt (aD l (l.fSignals.getD i default).fAt).1).getD k []))), (81, aV (bQ 7) (.agg (aI l))), (82, aV (bQ 8) (bN ((gP l (l.fSignals.getD i default).fAt (aD l (l.fSignals.getD i default).fAt).1).getD k []))), (83, aV (bQ 9) (cX (oD l ((gP l (l.fSignals.getD i default).fAt (aD l (l.fSignals.getD i default).fAt).1).getD k [])))), (84, aV (bQ 10) (.agg (aI l))), (85, aV (bQ 11) (bN ((gP l (l.fSignals.getD i default).fAt (aD l (l.fSignals.getD i default).fAt).1).getD k []))), (86, aV (bQ 12) (b9 (dZ l ((gP l (l.fSignals.getD i default).fAt (aD l (l.fSignals.getD i default).fAt).1).getD k [])))), (87, aV (bQ 13) (.agg (aI l))), (88, aV (bQ 14) (bN ((gP l (l.fSignals.getD i default).fAt (aD l (l.fSignals.getD i default).fAt).1).getD k []))), (89, aV (bQ 15) (vi (fL l ((gP l (l.fSignals.getD i default).fAt (aD l (l.fSignals.getD i default).fAt).1).getD k [])))), (90, aV (bQ 16) (.agg [vs (d5 l (i : Nat) ((gP l (l.fSignals.getD i default).fAt (aD l (l.fSignals.getD i default).fAt).1).getD k [])), vi (i : Nat), vi (f9 l (((gP l (l.fSignals.getD i default).fAt (aD l (l.fSignals.getD i default).fAt).1).getD k []).getD (((gP l (l.fSignals.getD i default).fAt (aD l (l.fSignals.getD i default).fAt).1).getD k []).length - 1) default)), bN ((gP l (l.fSignals.getD i default).fAt (aD l (l.fSignals.getD i default).fAt).1).getD k []), cX (oD l ((gP l (l.fSignals.getD i default).fAt (aD l (l.fSignals.getD i default).fAt).1).getD k [])), b9 (dZ l ((gP l (l.fSignals.getD i default).fAt (aD l (l.fSignals.getD i default).fAt).1).getD k [])), vi 0, vi (fL l ((gP l (l.fSignals.getD i default).fAt (aD l (l.fSignals.getD i default).fAt).1).getD k [])), .v (.slice none 0 0), .v (.slice none 0 0), .v (.slice none 0 0), .v (.slice none 0 0), .v (.slice none 0 0), .v (.slice none 0 0)])), (13, hU (bQ 18) (bQ 17) (.bx [vs (d5 l (i : Nat) ((gP l (l.fSignals.getD i default).fAt (aD l (l.fSignals.getD i default).fAt).1).getD k [])), vi (i : Nat), vi (f9 l (((gP l (l.fSignals.getD i default).fAt (aD l (l.fSignals.getD i default).fAt).1).getD k []).getD (((gP l (l.fSignals.getD i default).fAt (aD l (l.fSignals.getD i default).fAt).1).getD k []).length - 1) default)), bN ((gP l (l.fSignals.getD i default).fAt (aD l (l.fSignals.getD i default).fAt).1).getD k []), cX (oD l ((gP l (l.fSignals.getD i default).fAt (aD l (l.fSignals.getD i default).fAt).1).getD k [])), b9 (dZ l ((gP l (l.fSignals.getD i default).fAt (aD l (l.fSignals.getD i default).fAt).1).getD k [])), vi 0, vi (fL l ((gP l (l.fSignals.getD i default).fAt (aD l (l.fSignals.getD i default).fAt).1).getD k [])), .v (.slice none 0 0), .v (.slice none 0 0), .v (.slice none 0 0), .v (.slice none 0 0), .v (.slice none 0 0), .v (.slice none 0 0)]) (.bx [vs ⟨#[]⟩, vi 0, vi 0, .v (.slice none 0 0), .v (.slice none 0 0), .v (.slice none 0 0), vi 0, vi 0, .v (.slice none 0 0), .v (.slice none 0 0), .v (.slice none 0 0), .v (.slice none 0 0), .v (.slice none 0 0), .v (.slice none 0 0)]))]) (fun iQ hiQ oQ hoQ bQ hbQ KQ hKQ => ?_) ?_
  ·match iQ, hiQ with
   | 0, _ | 1, _ | 2, _ | 4, _ | 5, _ | 6, _ | 7, _ | 8, _ | 10, _ | 11, _ | 13, _ | 14, _ | 16, _ | 17, _ | 18, _ =>
    exact mkp hoQ hbQ hKQ
   | 3, _ =>
    exact mkc hoQ hbQ hKQ ((aLc l i ((gP l (l.fSignals.getD i default).fAt (aD l (l.fSignals.getD i default).fAt).1).getD k [])) ▸ nH _ l (i : Nat) (f9 l (((gP l (l.fSignals.getD i default).fAt (aD l (l.fSignals.getD i default).fAt).1).getD k []).getD (((gP l (l.fSignals.getD i default).fAt (aD l (l.fSignals.getD i default).fAt).1).getD k []).length - 1) default)) ⟨by omega, by omega⟩ (aHs l ((gP l (l.fSignals.getD i default).fAt (aD l (l.fSignals.getD i default).fAt).1).getD k [])).1 hs)
   | 9, _ =>
    exact mkc hoQ hbQ hKQ (j7 _ l ((gP l (l.fSignals.getD i default).fAt (aD l (l.fSignals.getD i default).fAt).1).getD k []) hl (by omega))
   | 12, _ =>
    exact mkc hoQ hbQ hKQ (iF _ l ((gP l (l.fSignals.getD i default).fAt (aD l (l.fSignals.getD i default).fAt).1).getD k []) hl (by omega))
   | 15, _ =>
    exact mkc hoQ hbQ hKQ (pD _ l ((gP l (l.fSignals.getD i default).fAt (aD l (l.fSignals.getD i default).fAt).1).getD k []) hl hes (by omega))
  refine lZ ?_
  refine hK18 _ _ ?_; clear hK18
  refine aN fun K19 hK19 => ?_
  refine dE hF ?_
  refine k9 11 [1, 2, 7, 8, 9, 11, 13] [1, 8, 9, 7, 2, 11, 91, 92, 93, 94, 95, 96, 97, 98, 99, 100, 13] [] [] [[], [], [1], [], [1, 2, 3], [1, 2, 3, 4], [1, 2, 3, 4, 5], [1, 2, 3, 4, 5, 6], [0, 1, 2, 3, 4, 5, 6, 7], [0, 1, 2, 3, 4, 5, 6, 7, 8], [0, 1, 2, 3, 4, 5, 6, 7, 8, 9]] [[10], [10], [10], [10], [10], [10], [10], [10], [10], [10], []] (fun bQ => cU O [(1, vi (i : Nat)), (8, hx.sl k), (9, vi (k : Nat)), (7, .bx [encL 1 ePt (gP l (l.fSignals.getD i default).fAt (aD l (l.fSignals.getD i default).fAt).1)]), (2, .bx (aI l)), (11, vi (f9 l (((gP l (l.fSignals.getD i default).fAt (aD l (l.fSignals.getD i default).fAt).1).getD k []).getD (((gP l (l.fSignals.getD i default).fAt (aD l (l.fSignals.getD i default).fAt).1).getD k []).length - 1) default))), (91, aV (bQ 0) (.agg (aI l))), (92, aV (bQ 1) (.bp 2 4)), (93, aV (bQ 2) (gB l.fSignals)), (94, aV (bQ 3) (vi (i : Nat))), (95, aV (bQ 4) (.dp (eC (l.fSignals.getD i default)))), (96, aV (bQ 5) (.dp ((eC (l.fSignals.getD i default)).drop 1))), (97, aV (bQ 6) (.dp ((eC (l.fSignals.getD i default)).drop 1))), (98, aV (bQ 7) (vi (l.fSignals.getD i default).fAt.fEl)), (99, aV (bQ 8) (vi (bY l (l.fSignals.getD i default).fAt.fEl))), (100, aV (bQ 9) (.bp 13 6)), (13, hU (bQ 10) true (.bx [vs (d5 l (i : Nat) ((gP l (l.fSignals.getD i default).fAt (aD l (l.fSignals.getD i default).fAt).1).getD k [])), vi (i : Nat), vi (f9 l (((gP l (l.fSignals.getD i default).fAt (aD l (l.fSignals.getD i default).fAt).1).getD k []).getD (((gP l (l.fSignals.getD i default).fAt (aD l (l.fSignals.getD i default).fAt).1).getD k []).length - 1) default)), bN ((gP l (l.fSignals.getD i default).fAt (aD l (l.fSignals.getD i default).fAt).1).getD k []), cX (oD l ((gP l (l.fSignals.getD i default).fAt (aD l (l.fSignals.getD i default).fAt).1).getD k [])), b9 (dZ l ((gP l (l.fSignals.getD i default).fAt (aD l (l.fSignals.getD i default).fAt).1).getD k [])), vi (bY l (l.fSignals.getD i default).fAt.fEl), vi (fL l ((gP l (l.fSignals.getD i default).fAt (aD l (l.fSignals.getD i default).fAt).1).getD k [])), .v (.slice none 0 0), .v (.slice none 0 0), .v (.slice none 0 0), .v (.slice none 0 0), .v (.slice none 0 0), .v (.slice none 0 0)]) (.bx [vs (d5 l (i : Nat) ((gP l (l.fSignals.getD i default).fAt (aD l (l.fSignals.getD i default).fAt).1).getD k [])), vi (i : Nat), vi (f9 l (((gP l (l.fSignals.getD i default).fAt (aD l (l.fSignals.getD i default).fAt).1).getD k []).getD (((gP l (l.fSignals.getD i default).fAt (aD l (l.fSignals.getD i default).fAt).1).getD k []).length - 1) default)), bN ((gP l (l.fSignals.getD i default).fAt (aD l (l.fSignals.getD i default).fAt).1).getD k []), cX (oD l ((gP l (l.fSignals.getD i default).fAt (aD l (l.fSignals.getD i default).fAt).1).getD k [])), b9 (dZ l ((gP l (l.fSignals.getD i default).fAt (aD l (l.fSignals.getD i default).fAt).1).getD k [])), vi 0, vi (fL l ((gP l (l.fSignals.getD i default).fAt (aD l (l.fSignals.getD i default).fAt).1).getD k [])), .v (.slice none 0 0), .v (.slice none 0 0), .v (.slice none 0 0), .v (.slice none 0 0), .v (.slice none 0 0), .v (.slice none 0 0)]))]) (fun iQ hiQ oQ hoQ bQ hbQ KQ hKQ => ?_) ?_
  ·match iQ, hiQ with
   | 0, _ | 1, _ | 2, _ | 3, _ | 4, _ | 5, _ | 6, _ | 7, _ | 9, _ | 10, _ =>
    exact mkp hoQ hbQ hKQ
   | 8, _ =>
    exact mkc hoQ hbQ hKQ (gD _ l (l.fSignals.getD i default).fAt.fEl)
  refine lZ ?_
  refine hK19 _ _ ?_; clear hK19
  refine a8 hF [1, 2, 7, 8, 9, 11, 13] ?_
  refine aN fun K21 hK21 => ?_
  refine a8 hF [1, 2, 7, 8, 9, 11, 13, 14] ?_
  refine bI ?_
  refine dB [1, 2, 8, 9, 11, 13, 14, 15, 7] (fun n sF ρ => ∃ j, n = k - j ∧ sF = [.row hx 46 14 ((nK l i (gP l (l.fSignals.getD i default).fAt (aD l (l.fSignals.getD i default).fAt).1) k).map aZ)] ∧ (j ≤ k) ∧ ρ = cU O [(1, vi (i : Nat)), (2, .bx (aI l)), (8, hx.sl k), (9, vi (k : Nat)), (11, vi (f9 l (((gP l (l.fSignals.getD i default).fAt (aD l (l.fSignals.getD i default).fAt).1).getD k []).getD (((gP l (l.fSignals.getD i default).fAt (aD l (l.fSignals.getD i default).fAt).1).getD k []).length - 1) default))), (13, .bx [vs (d5 l (i : Nat) ((gP l (l.fSignals.getD i default).fAt (aD l (l.fSignals.getD i default).fAt).1).getD k [])), vi (i : Nat), vi (f9 l (((gP l (l.fSignals.getD i default).fAt (aD l (l.fSignals.getD i default).fAt).1).getD k []).getD (((gP l (l.fSignals.getD i default).fAt (aD l (l.fSignals.getD i default).fAt).1).getD k []).length - 1) default)), bN ((gP l (l.fSignals.getD i default).fAt (aD l (l.fSignals.getD i default).fAt).1).getD k []), cX (oD l ((gP l (l.fSignals.getD i default).fAt (aD l (l.fSignals.getD i default).fAt).1).getD k [])), b9 (dZ l ((gP l (l.fSignals.getD i default).fAt (aD l (l.fSignals.getD i default).fAt).1).getD k [])), vi (bY l (l.fSignals.getD i default).fAt.fEl), vi (fL l ((gP l (l.fSignals.getD i default).fAt (aD l (l.fSignals.getD i default).fAt).1).getD k [])), .v (.slice none 0 0), .v (.slice none 0 0), .v (.slice none 0 0), .v (.slice none 0 0), .v (.slice none 0 0), .v (.slice none 0 0)]), (14, vi ((gC (d5 l i) ((gP l (l.fSignals.getD i default).fAt (aD l (l.fSignals.getD i default).fAt).1).take j) (d5 l (i : Nat) ((gP l (l.fSignals.getD i default).fAt (aD l (l.fSignals.getD i default).fAt).1).getD k [])) : Nat) + 1)), (15, vi (j : Nat)), (7, .bx [encL 1 ePt (gP l (l.fSignals.getD i default).fAt (aD l (l.fSignals.getD i default).fAt).1)])]) _ ⟨0, rfl, rfl, ?_, ?_⟩ ?_
  ·exact bD
  ·exact cD
  rintro n sF ρ ⟨j, rfl, rfl, l1_0, rfl⟩ K23 hK23
  have hcl := x5 (d5 l i) ((gP l (l.fSignals.getD i default).fAt (aD l (l.fSignals.getD i default).fAt).1).take j) (d5 l (i : Nat) ((gP l (l.fSignals.getD i default).fAt (aD l (l.fSignals.getD i default).fAt).1).getD k []))
  have hjl := List.length_take_le j (gP l (l.fSignals.getD i default).fAt (aD l (l.fSignals.getD i default).fAt).1)
  refine aN fun K24 hK24 => ?_
  refine a8 hF [1, 2, 7, 8, 9, 11, 13, 14, 15] ?_
  refine bU (fun c3 => ?_) fun c3 => ?_
  ·refine bG ?_
   refine hK24 _ _ ?_; clear hK24
   refine aN fun K26 hK26 => ?_
   refine bI ?_
   refine aN fun K27 hK27 => ?_
   have hpj := hgm j (by omega)
   have hpj1 := hpj.1
   have hpj2 := hpj.2.1
   refine dE hF ?_
   refine k9 25 [1, 2, 7, 8, 9, 11, 13, 14, 15] [1, 8, 9, 7, 11, 13, 14, 15, 2, 107, 108, 109, 110, 111, 112, 113, 114, 115, 116, 117, 118, 119, 120, 121, 122, 123, 124, 125, 126, 106, 127, 128, 16, 17] [] [] [[], [], [1], [1, 2], [1, 2, 3], [], [1, 2, 3, 4, 5], [1, 2, 3, 4, 5, 6], [], [8], [8, 9], [8, 9, 10], [], [8, 9, 10, 11, 12], [8, 9, 10, 11, 12, 13], [8, 9, 10, 11, 12, 13, 14], [8, 9, 10, 11, 12, 13, 14, 15], [1, 2, 3, 4, 5, 6, 7, 8, 9, 10, 11, 12, 13, 14, 15, 16], [1, 2, 3, 4, 5, 6, 7, 8, 9, 10, 11, 12, 13, 14, 15, 16, 17], [0, 1, 2, 3, 4, 5, 6, 7, 8, 9, 10, 11, 12, 13, 14, 15, 16, 17, 18], [0, 1, 2, 3, 4, 5, 6, 7, 8, 9, 10, 11, 12, 13, 14, 15, 16, 17, 18, 19], [0, 1, 2, 3, 4, 5, 6, 7, 8, 9, 10, 11, 12, 13, 14, 15, 16, 17, 18, 19, 20], [0, 1, 2, 3, 4, 5, 6, 7, 8, 9, 10, 11, 12, 13, 14, 15, 16, 17, 18, 19, 20], [0, 1, 2, 3, 4, 5, 6, 7, 8, 9, 10, 11, 12, 13, 14, 15, 16, 17, 18, 19, 20, 21], [0, 1, 2, 3, 4, 5, 6, 7, 8, 9, 10, 11, 12, 13, 14, 15, 16, 17, 18, 19, 20, 21, 22, 23]] [[], [], [], [], [], [], [], [], [], [], [], [], [], [], [], [], [], [], [], [], [], [], [], [], []] (fun bQ => cU O [(1, vi (i : Nat)), (8, hx.sl k), (9, vi (k : Nat)), (7, .bx [encL 1 ePt (gP l (l.fSignals.getD i default).fAt (aD l (l.fSignals.getD i default).fAt).1)]), (11, vi (f9 l (((gP l (l.fSignals.getD i default).fAt (aD l (l.fSignals.getD i default).fAt).1).getD k []).getD (((gP l (l.fSignals.getD i default).fAt (aD l (l.fSignals.getD i default).fAt).1).getD k []).length - 1) default))), (13, .bx [vs (d5 l (i : Nat) ((gP l (l.fSignals.getD i default).fAt (aD l (l.fSignals.getD i default).fAt).1).getD k [])), vi (i : Nat), vi (f9 l (((gP l (l.fSignals.getD i default).fAt (aD l (l.fSignals.getD i default).fAt).1).getD k []).getD (((gP l (l.fSignals.getD i default).fAt (aD l (l.fSignals.getD i default).fAt).1).getD k []).length - 1) default)), bN ((gP l (l.fSignals.getD i default).fAt (aD l (l.fSignals.getD i default).fAt).1).getD k []), cX (oD l ((gP l (l.fSignals.getD i default).fAt (aD l (l.fSignals.getD i default).fAt).1).getD k [])), b9 (dZ l ((gP l (l.fSignals.getD i default).fAt (aD l (l.fSignals.getD i default).fAt).1).getD k [])), vi (bY l (l.fSignals.getD i default).fAt.fEl), vi (fL l ((gP l (l.fSignals.getD i default).fAt (aD l (l.fSignals.getD i default).fAt).1).getD k [])), .v (.slice none 0 0), .v (.slice none 0 0), .v (.slice none 0 0), .v (.slice none 0 0), .v (.slice none 0 0), .v (.slice none 0 0)]), (14, vi ((gC (d5 l i) ((gP l (l.fSignals.getD i default).fAt (aD l (l.fSignals.getD i default).fAt).1).take j) (d5 l (i : Nat) ((gP l (l.fSignals.getD i default).fAt (aD l (l.fSignals.getD i default).fAt).1).getD k [])) : Nat) + 1)), (15, vi (j : Nat)), (2, .bx (aI l)), (107, aV (bQ 0) (.agg (aI l))), (108, aV (bQ 1) (.bp 7 0)), (109, aV (bQ 2) (.bp 7 0)), (110, aV (bQ 3) (.bp 7 0)), (111, aV (bQ 4) (encL 1 ePt (gP l (l.fSignals.getD i default).fAt (aD l (l.fSignals.getD i default).fAt).1))), (112, aV (bQ 5) (vi (j : Nat))), (113, aV (bQ 6) (.dp (ePt ((gP l (l.fSignals.getD i default).fAt (aD l (l.fSignals.getD i default).fAt).1).getD j [])))), (114, aV (bQ 7) (bN ((gP l (l.fSignals.getD i default).fAt (aD l (l.fSignals.getD i default).fAt).1).getD j []))), (115, aV (bQ 8) (.bp 7 0)), (116, aV (bQ 9) (.bp 7 0)), (117, aV (bQ 10) (.bp 7 0)), (118, aV (bQ 11) (encL 1 ePt (gP l (l.fSignals.getD i default).fAt (aD l (l.fSignals.getD i default).fAt).1))), (119, aV (bQ 12) (vi (j : Nat))), (120, aV (bQ 13) (.dp (ePt ((gP l (l.fSignals.getD i default).fAt (aD l (l.fSignals.getD i default).fAt).1).getD j [])))), (121, aV (bQ 14) (bN ((gP l (l.fSignals.getD i default).fAt (aD l (l.fSignals.getD i default).fAt).1).getD j []))), (122, aV (bQ 15) (vi (((gP l (l.fSignals.getD i default).fAt (aD l (l.fSignals.getD i default).fAt).1).getD j []).length : Nat))), (123, aV (bQ 16) (vi ((((gP l (l.fSignals.getD i default).fAt (aD l (l.fSignals.getD i default).fAt).1).getD j []).length : Int) - 1))), (124, aV (bQ 17) (.dp (bJ (((gP l (l.fSignals.getD i default).fAt (aD l (l.fSignals.getD i default).fAt).1).getD j []).getD (((gP l (l.fSignals.getD i default).fAt (aD l (l.fSignals.getD i default).fAt).1).getD j []).length - 1) default)))), (125, aV (bQ 18) (.agg (bJ (((gP l (l.fSignals.getD i default).fAt (aD l (l.fSignals.getD i default).fAt).1).getD j []).getD (((gP l (l.fSignals.getD i default).fAt (aD l (l.fSignals.getD i default).fAt).1).getD j []).length - 1) default)))), (126, aV (bQ 19) (.tup [vi (f9 l (((gP l (l.fSignals.getD i default).fAt (aD l (l.fSignals.getD i default).fAt).1).getD j []).getD (((gP l (l.fSignals.getD i default).fAt (aD l (l.fSignals.getD i default).fAt).1).getD j []).length - 1) default)), vb (iC l (((gP l (l.fSignals.getD i default).fAt (aD l (l.fSignals.getD i default).fAt).1).getD j []).getD (((gP l (l.fSignals.getD i default).fAt (aD l (l.fSignals.getD i default).fAt).1).getD j []).length - 1) default))])), (106, aV (bQ 20) (.tup [vi (f9 l (((gP l (l.fSignals.getD i default).fAt (aD l (l.fSignals.getD i default).fAt).1).getD j []).getD (((gP l (l.fSignals.getD i default).fAt (aD l (l.fSignals.getD i default).fAt).1).getD j []).length - 1) default)), vb (iC l (((gP l (l.fSignals.getD i default).fAt (aD l (l.fSignals.getD i default).fAt).1).getD j []).getD (((gP l (l.fSignals.getD i default).fAt (aD l (l.fSignals.getD i default).fAt).1).getD j []).length - 1) default))])), (127, aV (bQ 21) (vi (f9 l (((gP l (l.fSignals.getD i default).fAt (aD l (l.fSignals.getD i default).fAt).1).getD j []).getD (((gP l (l.fSignals.getD i default).fAt (aD l (l.fSignals.getD i default).fAt).1).getD j []).length - 1) default)))), (128, aV (bQ 22) (vb (iC l (((gP l (l.fSignals.getD i default).fAt (aD l (l.fSignals.getD i default).fAt).1).getD j []).getD (((gP l (l.fSignals.getD i default).fAt (aD l (l.fSignals.getD i default).fAt).1).getD j []).length - 1) default)))), (16, aV (bQ 23) (vi (f9 l (((gP l (l.fSignals.getD i default).fAt (aD l (l.fSignals.getD i default).fAt).1).getD j []).getD (((gP l (l.fSignals.getD i default).fAt (aD l (l.fSignals.getD i default).fAt).1).getD j []).length - 1) default)))), (17, aV (bQ 24) (vb (iC l (((gP l (l.fSignals.getD i default).fAt (aD l (l.fSignals.getD i default).fAt).1).getD j []).getD (((gP l (l.fSignals.getD i default).fAt (aD l (l.fSignals.getD i default).fAt).1).getD j []).length - 1) default))))]) (fun iQ hiQ oQ hoQ bQ hbQ KQ hKQ => ?_) ?_
   ·match iQ, hiQ with
    | 0, _ | 1, _ | 2, _ | 3, _ | 4, _ | 5, _ | 6, _ | 7, _ | 8, _ | 9, _ | 10, _ | 11, _ | 12, _ | 13, _ | 14, _ | 15, _ | 16, _ | 17, _ | 18, _ | 20, _ | 21, _ | 22, _ | 23, _ | 24, _ =>
     exact mkp hoQ hbQ hKQ
    | 19, _ =>
     exact mkc hoQ hbQ hKQ (nM _ l (((gP l (l.fSignals.getD i default).fAt (aD l (l.fSignals.getD i default).fAt).1).getD j []).getD (((gP l (l.fSignals.getD i default).fAt (aD l (l.fSignals.getD i default).fAt).1).getD j []).length - 1) default))
   refine lZ ?_
   refine hK27 _ _ ?_; clear hK27
   refine aN fun K28 hK28 => ?_
   refine dE hF ?_
   refine e5 [1, 2, 7, 8, 9, 11, 13, 14, 15, 16] [] ?_
   refine cdz ((aLc l i ((gP l (l.fSignals.getD i default).fAt (aD l (l.fSignals.getD i default).fAt).1).getD j [])) ▸ nH _ l (i : Nat) (f9 l (((gP l (l.fSignals.getD i default).fAt (aD l (l.fSignals.getD i default).fAt).1).getD j []).getD (((gP l (l.fSignals.getD i default).fAt (aD l (l.fSignals.getD i default).fAt).1).getD j []).length - 1) default)) ⟨by omega, by omega⟩ (aHs l ((gP l (l.fSignals.getD i default).fAt (aD l (l.fSignals.getD i default).fAt).1).getD j [])).1 hs) ?_
   refine cdz ((aLc l i ((gP l (l.fSignals.getD i default).fAt (aD l (l.fSignals.getD i default).fAt).1).getD k [])) ▸ nH _ l (i : Nat) (f9 l (((gP l (l.fSignals.getD i default).fAt (aD l (l.fSignals.getD i default).fAt).1).getD k []).getD (((gP l (l.fSignals.getD i default).fAt (aD l (l.fSignals.getD i default).fAt).1).getD k []).length - 1) default)) ⟨by omega, by omega⟩ (aHs l ((gP l (l.fSignals.getD i default).fAt (aD l (l.fSignals.getD i default).fAt).1).getD k [])).1 hs) ?_
   refine hK28 _ _ ?_; clear hK28
   refine bU (fun c4 => ?_) fun c4 => ?_
   ·have hq : d5 l (i : Nat) ((gP l (l.fSignals.getD i default).fAt (aD l (l.fSignals.getD i default).fAt).1).getD j []) = (d5 l (i : Nat) ((gP l (l.fSignals.getD i default).fAt (aD l (l.fSignals.getD i default).fAt).1).getD k [])) := (aEj.1 c4)
    have hct : gC (d5 l i) ((gP l (l.fSignals.getD i default).fAt (aD l (l.fSignals.getD i default).fAt).1).take (j + 1)) (d5 l (i : Nat) ((gP l (l.fSignals.getD i default).fAt (aD l (l.fSignals.getD i default).fAt).1).getD k [])) = gC (d5 l i) ((gP l (l.fSignals.getD i default).fAt (aD l (l.fSignals.getD i default).fAt).1).take j) (d5 l (i : Nat) ((gP l (l.fSignals.getD i default).fAt (aD l (l.fSignals.getD i default).fAt).1).getD k [])) + 1 := by rw [fP [] (by omega), oH, if_pos hq]
    refine cH hF [1, 2, 7, 8, 9, 11, 13, 14, 15] ?_
    refine hK26 _ _ ?_; clear hK26
    refine cH hF [1, 2, 7, 8, 9, 11, 13, 14, 15] ?_
    refine hK23 _ _ _ ?_ ⟨j + 1, rfl, rfl, ?_, ?_⟩
    ·exact bD
    ·exact bD
    ((try simp only [go_sem, seval]); try simp (disch := omega) only [go_sem, seval]) <;> (rw [hct]; first | rfl | (simp; done) | (push_cast; rfl))
   have hq : ¬ d5 l (i : Nat) ((gP l (l.fSignals.getD i default).fAt (aD l (l.fSignals.getD i default).fAt).1).getD j []) = (d5 l (i : Nat) ((gP l (l.fSignals.getD i default).fAt (aD l (l.fSignals.getD i default).fAt).1).getD k [])) := (fun h => c4 (aEj.2 h))
   have hct : gC (d5 l i) ((gP l (l.fSignals.getD i default).fAt (aD l (l.fSignals.getD i default).fAt).1).take (j + 1)) (d5 l (i : Nat) ((gP l (l.fSignals.getD i default).fAt (aD l (l.fSignals.getD i default).fAt).1).getD k [])) = gC (d5 l i) ((gP l (l.fSignals.getD i default).fAt (aD l (l.fSignals.getD i default).fAt).1).take j) (d5 l (i : Nat) ((gP l (l.fSignals.getD i default).fAt (aD l (l.fSignals.getD i default).fAt).1).getD k [])) := by rw [fP [] (by omega), oH, if_neg hq, Nat.add_zero]
   refine bG ?_
   refine hK26 _ _ ?_; clear hK26
   refine cH hF [1, 2, 7, 8, 9, 11, 13, 14, 15] ?_
   refine hK23 _ _ _ ?_ ⟨j + 1, rfl, rfl, ?_, ?_⟩
   ·exact bD
   ·exact bD
   ((try simp only [go_sem, seval]); try simp (disch := omega) only [go_sem, seval]) <;> (rw [hct]; first | rfl | (simp; done) | (push_cast; rfl))
  refine dD ?_
  refine hK21 _ _ ?_; clear hK21
  refine aN fun K29 hK29 => ?_
  refine aN fun K30 hK30 => ?_
  have hjk : j = k := (by omega)
  have hcN : ((gC (d5 l i) ((gP l (l.fSignals.getD i default).fAt (aD l (l.fSignals.getD i default).fAt).1).take k) (d5 l (i : Nat) ((gP l (l.fSignals.getD i default).fAt (aD l (l.fSignals.getD i default).fAt).1).getD k [])) : Nat) : Int) + 1 = (((gC (d5 l i) ((gP l (l.fSignals.getD i default).fAt (aD l (l.fSignals.getD i default).fAt).1).take (k + 1)) (d5 l (i : Nat) ((gP l (l.fSignals.getD i default).fAt (aD l (l.fSignals.getD i default).fAt).1).getD k []))) : Nat) : Int) := (by rw [fP [] (by omega), oH, if_pos rfl]; push_cast; rfl)
  rw [hjk, hcN]
  have hcl1 := x5 (d5 l i) ((gP l (l.fSignals.getD i default).fAt (aD l (l.fSignals.getD i default).fAt).1).take (k + 1)) (d5 l (i : Nat) ((gP l (l.fSignals.getD i default).fAt (aD l (l.fSignals.getD i default).fAt).1).getD k []))
  have htl1 := List.length_take_le (k + 1) (gP l (l.fSignals.getD i default).fAt (aD l (l.fSignals.getD i default).fAt).1)
  have hfs := aIg ((gC (d5 l i) ((gP l (l.fSignals.getD i default).fAt (aD l (l.fSignals.getD i default).fAt).1).take (k + 1)) (d5 l (i : Nat) ((gP l (l.fSignals.getD i default).fAt (aD l (l.fSignals.getD i default).fAt).1).getD k []))) : Nat) (by omega) (by omega)
  have hns := aRr hs hi ((gP l (l.fSignals.getD i default).fAt (aD l (l.fSignals.getD i default).fAt).1).getD k [])
  refine cH hF [1, 2, 7, 8, 9, 13, 14] ?_
  refine hK30 _ _ ?_; clear hK30
  refine bU (fun c5 => ?_) fun c5 => ?_
  ·have hc1 : 1 < (gC (d5 l i) ((gP l (l.fSignals.getD i default).fAt (aD l (l.fSignals.getD i default).fAt).1).take (k + 1)) (d5 l (i : Nat) ((gP l (l.fSignals.getD i default).fAt (aD l (l.fSignals.getD i default).fAt).1).getD k []))) := (by omega)
   have hnb := bIf hc1
   refine dE hF ?_
   refine k9 8 [1, 2, 7, 8, 9, 13, 14] [1, 8, 9, 7, 2, 14, 142, 143, 144, 145, 146, 147, 148, 13] [] [] [[], [0], [0, 1], [], [3], [0, 1, 2, 3, 4], [0, 1, 2, 3, 4, 5], [0, 1, 2, 3, 4, 5, 6]] [[7], [7], [7], [7], [7], [7], [7], []] (fun bQ => cU O [(1, vi (i : Nat)), (8, hx.sl k), (9, vi (k : Nat)), (7, .bx [encL 1 ePt (gP l (l.fSignals.getD i default).fAt (aD l (l.fSignals.getD i default).fAt).1)]), (2, .bx (aI l)), (14, vi ((gC (d5 l i) ((gP l (l.fSignals.getD i default).fAt (aD l (l.fSignals.getD i default).fAt).1).take (k + 1)) (d5 l (i : Nat) ((gP l (l.fSignals.getD i default).fAt (aD l (l.fSignals.getD i default).fAt).1).getD k []))) : Nat)), (142, aV (bQ 0) (.bp 13 0)), (143, aV (bQ 1) (vs (d5 l (i : Nat) ((gP l (l.fSignals.getD i default).fAt (aD l (l.fSignals.getD i default).fAt).1).getD k [])))), (144, aV (bQ 2) (vs ((d5 l (i : Nat) ((gP l (l.fSignals.getD i default).fAt (aD l (l.fSignals.getD i default).fAt).1).getD k [])) ++ ⟨#[46]⟩))), (145, aV (bQ 3) (vi ((gC (d5 l i) ((gP l (l.fSignals.getD i default).fAt (aD l (l.fSignals.getD i default).fAt).1).take (k + 1)) (d5 l (i : Nat) ((gP l (l.fSignals.getD i default).fAt (aD l (l.fSignals.getD i default).fAt).1).getD k []))) : Nat))), (146, aV (bQ 4) (vs (fmt ((gC (d5 l i) ((gP l (l.fSignals.getD i default).fAt (aD l (l.fSignals.getD i default).fAt).1).take (k + 1)) (d5 l (i : Nat) ((gP l (l.fSignals.getD i default).fAt (aD l (l.fSignals.getD i default).fAt).1).getD k []))) : Nat)))), (147, aV (bQ 5) (vs ((d5 l (i : Nat) ((gP l (l.fSignals.getD i default).fAt (aD l (l.fSignals.getD i default).fAt).1).getD k [])) ++ (⟨#[46]⟩ ++ fmt ((gC (d5 l i) ((gP l (l.fSignals.getD i default).fAt (aD l (l.fSignals.getD i default).fAt).1).take (k + 1)) (d5 l (i : Nat) ((gP l (l.fSignals.getD i default).fAt (aD l (l.fSignals.getD i default).fAt).1).getD k []))) : Nat))))), (148, aV (bQ 6) (.bp 13 0)), (13, hU (bQ 7) true (.bx [vs ((d5 l (i : Nat) ((gP l (l.fSignals.getD i default).fAt (aD l (l.fSignals.getD i default).fAt).1).getD k [])) ++ (⟨#[46]⟩ ++ fmt ((gC (d5 l i) ((gP l (l.fSignals.getD i default).fAt (aD l (l.fSignals.getD i default).fAt).1).take (k + 1)) (d5 l (i : Nat) ((gP l (l.fSignals.getD i default).fAt (aD l (l.fSignals.getD i default).fAt).1).getD k []))) : Nat))), vi (i : Nat), vi (f9 l (((gP l (l.fSignals.getD i default).fAt (aD l (l.fSignals.getD i default).fAt).1).getD k []).getD (((gP l (l.fSignals.getD i default).fAt (aD l (l.fSignals.getD i default).fAt).1).getD k []).length - 1) default)), bN ((gP l (l.fSignals.getD i default).fAt (aD l (l.fSignals.getD i default).fAt).1).getD k []), cX (oD l ((gP l (l.fSignals.getD i default).fAt (aD l (l.fSignals.getD i default).fAt).1).getD k [])), b9 (dZ l ((gP l (l.fSignals.getD i default).fAt (aD l (l.fSignals.getD i default).fAt).1).getD k [])), vi (bY l (l.fSignals.getD i default).fAt.fEl), vi (fL l ((gP l (l.fSignals.getD i default).fAt (aD l (l.fSignals.getD i default).fAt).1).getD k [])), .v (.slice none 0 0), .v (.slice none 0 0), .v (.slice none 0 0), .v (.slice none 0 0), .v (.slice none 0 0), .v (.slice none 0 0)]) (.bx [vs (d5 l (i : Nat) ((gP l (l.fSignals.getD i default).fAt (aD l (l.fSignals.getD i default).fAt).1).getD k [])), vi (i : Nat), vi (f9 l (((gP l (l.fSignals.getD i default).fAt (aD l (l.fSignals.getD i default).fAt).1).getD k []).getD (((gP l (l.fSignals.getD i default).fAt (aD l (l.fSignals.getD i default).fAt).1).getD k []).length - 1) default)), bN ((gP l (l.fSignals.getD i default).fAt (aD l (l.fSignals.getD i default).fAt).1).getD k []), cX (oD l ((gP l (l.fSignals.getD i default).fAt (aD l (l.fSignals.getD i default).fAt).1).getD k [])), b9 (dZ l ((gP l (l.fSignals.getD i default).fAt (aD l (l.fSignals.getD i default).fAt).1).getD k [])), vi (bY l (l.fSignals.getD i default).fAt.fEl), vi (fL l ((gP l (l.fSignals.getD i default).fAt (aD l (l.fSignals.getD i default).fAt).1).getD k [])), .v (.slice none 0 0), .v (.slice none 0 0), .v (.slice none 0 0), .v (.slice none 0 0), .v (.slice none 0 0), .v (.slice none 0 0)]))]) (fun iQ hiQ oQ hoQ bQ hbQ KQ hKQ => ?_) ?_
   ·match iQ, hiQ with
    | 0, _ | 1, _ | 2, _ | 3, _ | 5, _ | 6, _ | 7, _ =>
     obtain rfl := Option.some.inj hoQ
     simp only [oS, hD, iB, List.getD_cons_succ, List.getD_cons_zero, List.getD_nil, and_true, true_and] at hbQ
     show qC _ _ _ false _ _
     ((try simp only [go_sem, seval, hbQ]); try simp (disch := omega) only [go_sem, seval, hbQ])
     repeat refine And.intro (by first | exact aOb hns | exact aNg hfs hns | exact bS) ?_
     refine hKQ _ ?_
     ((try simp only [go_sem, seval, hbQ]); try simp (disch := omega) only [go_sem, seval, hbQ]) <;> first | rfl | simp
    | 4, _ =>
     obtain rfl := Option.some.inj hoQ
     simp only [oS, hD, iB, List.getD_cons_succ, List.getD_cons_zero, List.getD_nil, and_true, true_and] at hbQ
     show qC _ _ _ false _ _
     ((try simp only [go_sem, seval, hbQ]); try simp (disch := omega) only [go_sem, seval, hbQ])
     repeat refine And.intro (by first | exact aOb hns | exact aNg hfs hns | exact bS) ?_
     refine dR (wH _ ((gC (d5 l i) ((gP l (l.fSignals.getD i default).fAt (aD l (l.fSignals.getD i default).fAt).1).take (k + 1)) (d5 l (i : Nat) ((gP l (l.fSignals.getD i default).fAt (aD l (l.fSignals.getD i default).fAt).1).getD k []))) : Nat) (by omega) (by omega)) ?_ ?_
     ·rfl
     try ((try simp only [go_sem, seval, hbQ]); try simp (disch := omega) only [go_sem, seval, hbQ])
     repeat refine And.intro (by first | exact aOb hns | exact aNg hfs hns | exact bS) ?_
     refine hKQ _ ?_
     ((try simp only [go_sem, seval, hbQ]); try simp (disch := omega) only [go_sem, seval, hbQ]) <;> first | rfl | simp
   ((try simp only [go_sem, seval]); try simp (disch := omega) only [go_sem, seval])
   repeat refine And.intro (by first | exact aOb hns | exact aNg hfs hns | exact bS) ?_
   refine hK29 _ _ ?_; clear hK29
   refine kB 13 (ds := aZ (nbR l i (gP l (l.fSignals.getD i default).fAt (aD l (l.fSignals.getD i default).fAt).1) k)) rfl (by first | rfl | (((try simp only [go_sem, seval]); try simp (disch := omega) only [go_sem, seval]); done) | (((try simp only [go_sem, seval]); try simp (disch := omega) only [go_sem, seval]); rfl)) (by rw [hnb]; exact (.cons (bV.refl _) (.cons (bV.refl _) (.cons (bV.refl _) (.cons (bV.refl _) (.cons (bV.refl _) (.cons (bV.refl _) (.cons (bV.refl _) (.cons (bV.refl _) (.cons (bV.nilL _) (.cons (bV.nilL _) (.cons (bV.nilL _) (.cons (bV.nilL _) (.cons (bV.nilL _) (.cons (bV.nilL _) .nil))))))))))))))) ?_
   refine bH (Le.keepC [1, 2, 7, 8, 9, 13] _) ?_
   refine bM ?_
   refine ef hF ?_
   refine ef hF ?_
   refine ef hF ?_
   show fV _ _ _ _ _ _ _ _
   refine dO (s1 := []) (s2 := []) 149 (by decide) (by ((try simp only [go_sem, seval]); try simp (disch := omega) only [go_sem, seval]) <;> rfl) rfl ?_
   refine ef hF ?_
   show fV _ _ _ _ _ _ _ _
   refine fM (s1 := []) (s2 := []) (l := (nK l i (gP l (l.fSignals.getD i default).fAt (aD l (l.fSignals.getD i default).fAt).1) (k + 1)).map aZ) 152 (by decide) (by ((try simp only [go_sem, seval]); try simp (disch := omega) only [go_sem, seval]) <;> (first | rfl | (rw [pU, List.map_append]; done) | (rw [pU, List.map_append]; rfl))) rfl (fun h2 => ?_)
   refine ef hF ?_
   refine hK15 _ _ ?_; clear hK15
   refine cH hF [1, 2, 7, 8, 9] ?_
   refine hK12 _ _ _ ?_ ⟨k + 1, h2, rfl, rfl, ?_, ?_⟩
   ·exact bD
   ·exact bD
   exact cD
  have hc1 : ¬ 1 < (gC (d5 l i) ((gP l (l.fSignals.getD i default).fAt (aD l (l.fSignals.getD i default).fAt).1).take (k + 1)) (d5 l (i : Nat) ((gP l (l.fSignals.getD i default).fAt (aD l (l.fSignals.getD i default).fAt).1).getD k []))) := (by omega)
  have hnb := bKt hc1
  refine bG ?_
  refine hK29 _ _ ?_; clear hK29
  refine kB 13 (ds := aZ (nbR l i (gP l (l.fSignals.getD i default).fAt (aD l (l.fSignals.getD i default).fAt).1) k)) rfl (by first | rfl | (((try simp only [go_sem, seval]); try simp (disch := omega) only [go_sem, seval]); done) | (((try simp only [go_sem, seval]); try simp (disch := omega) only [go_sem, seval]); rfl)) (by rw [hnb]; exact (.cons (bV.refl _) (.cons (bV.refl _) (.cons (bV.refl _) (.cons (bV.refl _) (.cons (bV.refl _) (.cons (bV.refl _) (.cons (bV.refl _) (.cons (bV.refl _) (.cons (bV.nilL _) (.cons (bV.nilL _) (.cons (bV.nilL _) (.cons (bV.nilL _) (.cons (bV.nilL _) (.cons (bV.nilL _) .nil))))))))))))))) ?_
  refine bH (Le.keepC [1, 2, 7, 8, 9, 13] _) ?_
  refine bM ?_
  refine ef hF ?_
  refine ef hF ?_
  refine ef hF ?_
  show fV _ _ _ _ _ _ _ _
  refine dO (s1 := []) (s2 := []) 149 (by decide) (by ((try simp only [go_sem, seval]); try simp (disch := omega) only [go_sem, seval]) <;> rfl) rfl ?_
  refine ef hF ?_
  show fV _ _ _ _ _ _ _ _
  refine fM (s1 := []) (s2 := []) (l := (nK l i (gP l (l.fSignals.getD i default).fAt (aD l (l.fSignals.getD i default).fAt).1) (k + 1)).map aZ) 152 (by decide) (by ((try simp only [go_sem, seval]); try simp (disch := omega) only [go_sem, seval]) <;> (first | rfl | (rw [pU, List.map_append]; done) | (rw [pU, List.map_append]; rfl))) rfl (fun h2 => ?_)
  refine ef hF ?_
  refine hK15 _ _ ?_; clear hK15
  refine cH hF [1, 2, 7, 8, 9] ?_
  refine hK12 _ _ _ ?_ ⟨k + 1, h2, rfl, rfl, ?_, ?_⟩
  ·exact bD
  ·exact bD
  exact cD
 refine dD ?_
 refine hK10 _ _ ?_; clear hK10
 refine aN fun K31 hK31 => ?_
 obtain rfl : k = (gP l (l.fSignals.getD i default).fAt (aD l (l.fSignals.getD i default).fAt).1).length := (by omega)
 refine qR (s1 := []) (s2 := []) 8 (by decide) (by ((try simp only [go_sem, seval]); try simp (disch := omega) only [go_sem, seval]) <;> first | rfl | (simp only [List.length_map])) rfl (bV.frzL aZ (nK l i (gP l (l.fSignals.getD i default).fAt (aD l (l.fSignals.getD i default).fAt).1) (gP l (l.fSignals.getD i default).fAt (aD l (l.fSignals.getD i default).fAt).1).length)) rfl ?_
 refine cH hF [8] ?_
 refine hK31 _ _ ?_; clear hK31
 refine cL ?_
 (try simp only [eT, dQ]); refine b6 4 ?_; exact cP.encL (l' := nK l i (gP l (l.fSignals.getD i default).fAt (aD l (l.fSignals.getD i default).fAt).1) (gP l (l.fSignals.getD i default).fAt (aD l (l.fSignals.getD i default).fAt).1).length) (by ((try simp only [go_sem, seval]); try simp (disch := omega) only [go_sem, seval]) <;> rfl) (aSo hi hjo).symm
end
end Go.Sg
