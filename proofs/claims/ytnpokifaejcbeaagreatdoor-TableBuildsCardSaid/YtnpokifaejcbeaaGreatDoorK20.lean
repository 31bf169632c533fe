/- Several texts as one. -/
import Derived.Test.YtnpokifaejcbeaaGreatDoorK17
import Derived.Test.YtnpokifaejcbeaaGreatDoorK19
set_option linter.unusedSectionVars false
set_option linter.unusedVariables false
set_option linter.unusedSimpArgs false
set_option maxRecDepth 20000
namespace Go.Sg
open Go.Proofs
abbrev rgR (h : Hd) (R : List bE) : Rg := .row h 46 14 (R.map aZ)
def tC (l : aC) (a b c : DV) : List DV := [a, b, c, vi (l.fSections.length : Nat), vi (l.fSignals.length : Nat)]
section
variable (l : aC) (a b c d : DV) (h : Hd) (n : Nat)
theorem aOi : (tC l a b c).length = 5 := rfl
theorem aHg : (tC l a b c).take 5 = tC l a b c := rfl
theorem aSx : (tC l a b c).getD 0 .any = a := rfl
theorem aTv : (tC l a b c).getD 1 .any = b := rfl
theorem aTc : (tC l a b c).getD 2 .any = c := rfl
theorem aEa : (tC l a b c).set 0 d = tC l d b c := rfl
theorem aKw : (tC l a b c).set 1 d = tC l a d c := rfl
theorem aEu : (tC l a b c).set 2 d = tC l a b d := rfl
end
theorem aNv {l : aC} {a b c : DV} (ha : rD (fun x => x + 100000) a = a) (hb : rD (fun x => x + 100000) b = b) (hc : rD (fun x => x + 100000) c = c) : iA (fun x => x + 100000) (tC l a b c) = tC l a b c := by
 unfold tC; simp only [iA, ha, hb, hc]; rfl
theorem aOv {l : aC} {a b c : DV} (p : Nat → Bool) : dS p (tC l a b c) = (eR p a && (eR p b && eR p c)) := by
 unfold tC; simp [dS, eR]
theorem aMo (l : aC) : (eA l).length ≤ l.fElements.length := aAn l _
section
attribute [local go_sem] or_self List.drop_zero List.length_map aOi aHg aSx aTv aTc aEa aKw aEu aNv aOv
set_option maxRecDepth 20000 in
set_option maxHeartbeats 16000000 in
theorem qV (O : aU) (l : aC) (hl : dX l) : aW Tryz.prog O 11 [.agg (aI l)] (.tup [.agg (eP (tbT l)), vi (dP l (dH gP l)).2]) := by
 have hl4 := hl.sg
 have hl5 := hl.el
 have hl6 := hl.sec
 have hal := aOm l
 have hpt := aMo l
 refine eV Tryz.func11 rfl (by kernel_rfl) fun w0 I0 A0 => ?_
 have hF := jN w0 I0 (b8 A0) (xG [])
 refine a8 hF [0] ?_
 refine aN fun K1 hK1 => ?_
 refine dW hF [1, 2] ?_
 refine dM (aEg _ l (dH gP l) hl (fun hc O i hi => aBz O l i hi hl (qN hc).2.1 (aXm hc) (bAo (aEe hl hc).1)) (aId l)) ?_
 refine hK1 _ _ ?_; clear hK1
 refine aN fun K2 hK2 => ?_
 refine a8 hF [1, 2, 4, 5, 11, 13] ?_
 refine bU (fun c0 => ?_) fun c0 => ?_
 ·have her : ¬ (dP l (dH gP l)).2 = 0 := (by simpa using c0)
  refine a8 hF [2, 5] ?_
  refine kB 2 (ds := eP ⟨[], [], [], 0, 0⟩) rfl (by first | rfl | (((try simp only [go_sem, seval]); try simp (disch := omega) only [go_sem, seval]); done) | (((try simp only [go_sem, seval]); try simp (disch := omega) only [go_sem, seval]); rfl)) (.cons (bV.nilL _) (.cons (bV.nilL _) (.cons (bV.nilL _) (.cons (bV.refl _) (.cons (bV.refl _) .nil))))) ?_
  refine cL ?_
  (try simp only [eT, dQ]); rw [bFs her]; refine bAy rfl (by ((try simp only [go_sem, seval]); try simp (disch := omega) only [go_sem, seval])) (.cons (sJ (by ((try simp only [go_sem, seval]); try simp (disch := omega) only [go_sem, seval]) <;> rfl) (by ((try simp only [go_sem, seval]); try simp (disch := omega) only [go_sem, seval]) <;> rfl) (by kernel_rfl) (by first | rfl | (((try simp only [go_sem, seval]); try simp (disch := omega) only [go_sem, seval])))) (.cons (gZ (by ((try simp only [go_sem, seval]); try simp (disch := omega) only [go_sem, seval]) <;> rfl) rfl rfl) .nil))
 have her : (dP l (dH gP l)).2 = 0 := (by simpa using c0)
 have hck := aMj her
 have hes := (qN hck).2.1
 obtain ⟨hv, hJ⟩ := aEe hl hck
 refine bG ?_
 refine hK2 _ _ ?_; clear hK2
 refine a8 hF [1, 2, 4, 11, 13] ?_
 refine aN fun K6 hK6 => ?_
 refine a8 hF [1, 2, 4, 6, 11, 13] ?_
 refine bI ?_
 refine eL [] [] 46 14 rfl ?_
 refine dB [1, 2, 6, 27, 28, 29] (fun n sF ρ => ∃ i, ∃ aR, ∃ R, n = (dP l (dH gP l)).1.length - i ∧ sF = [rgR aR R] ∧ (i ≤ (dP l (dH gP l)).1.length) ∧ (R = ((dP l (dH gP l)).1.take i).map (bBh l)) ∧ ρ = cU O [(1, .bx (aI l)), (2, .bx [.v (.slice none 0 0), .v (.slice none 0 0), .v (.slice none 0 0), vi 0, vi 0]), (6, .bx (tC l (aR.sl R.length) (.v (.slice none 0 0)) (.v (.slice none 0 0)))), (27, iU (dP l (dH gP l)).1), (28, vi ((dP l (dH gP l)).1.length : Nat)), (29, vi (i : Nat))]) _ ⟨0, eU, [], rfl, rfl, ?_, ?_, ?_⟩ ?_
 ·exact bD
 ·rfl
 ·exact cD
 rintro n sF ρ ⟨i, aR, R, rfl, rfl, l0_0, l0_1, rfl⟩ K8 hK8
 have hRl : R.length ≤ i := by rw [l0_1, List.length_map]; exact List.length_take_le _ _
 refine a8 hF [1, 2, 4, 6, 11, 13, 27, 28, 29] ?_
 refine aN fun K10 hK10 => ?_
 refine bU (fun c1 => ?_) fun c1 => ?_
 ·have hok := aMy (l := l) (fS c1)
  have hrk := hok.rtk
  have hrO := hok.rtkO
  have hnd := hok.nodup
  refine bG ?_
  refine hK10 _ _ ?_; clear hK10
  refine aN fun K11 hK11 => ?_
  refine bI ?_
  refine a8 hF [1, 2, 4, 6, 11, 13, 27, 28, 29] ?_
  refine l4 11 [1, 2, 4, 6, 8, 11, 13, 27, 28, 29] [1, 2, 8, 27, 28, 29, 33, 35, 36, 37, 38, 39, 40, 41, 42, 6, 34] [[], [0], [], [], [], [3, 4], [2, 3, 4, 5], [2, 3, 4, 5, 6], [0, 1, 2, 3, 4, 5, 6, 7], [0, 1, 2, 3, 4, 5, 6, 7, 8], [0, 1, 2, 3, 4, 5, 6, 7, 8, 9]] [[1, 8, 10], [8, 10], [8, 10], [8, 10], [8, 10], [8, 10], [8, 10], [8, 10], [10], [10], []] (fun (hx : Hd) bQ => cU O [(1, .bx (aI l)), (2, .bx [.v (.slice none 0 0), .v (.slice none 0 0), .v (.slice none 0 0), vi 0, vi 0]), (8, .bx (aZ ((dP l (dH gP l)).1.getD i default))), (27, iU (dP l (dH gP l)).1), (28, vi ((dP l (dH gP l)).1.length : Nat)), (29, vi (i : Nat)), (33, aV (bQ 0) (.bp 6 0)), (35, aV (bQ 2) (.agg (aI l))), (36, aV (bQ 3) (.agg (aI l))), (37, aV (bQ 4) (.agg (aZ ((dP l (dH gP l)).1.getD i default)))), (38, aV (bQ 5) (.agg (aZ (sM l ((dP l (dH gP l)).1.getD i default))))), (39, aV (bQ 6) (.agg (aZ (oM l (sM l ((dP l (dH gP l)).1.getD i default)))))), (40, aV (bQ 7) (.sl 14 1 (fun i_ => [aZ (oM l (sM l ((dP l (dH gP l)).1.getD i default)))].getD i_ []))), (41, aV (bQ 8) (hx.sl (R ++ [(oM l (sM l ((dP l (dH gP l)).1.getD i default)))]).length)), (42, aV (bQ 9) (.bp 6 0)), (6, hU (bQ 10) true (.bx (tC l (hx.sl (R ++ [(oM l (sM l ((dP l (dH gP l)).1.getD i default)))]).length) (.v (.slice none 0 0)) (.v (.slice none 0 0)))) (.bx (tC l (aR.sl R.length) (.v (.slice none 0 0)) (.v (.slice none 0 0))))), (34, (cond (bQ 8) (.any) (cond (bQ 1) (aR.sl R.length) (.any))))]) (fun (hx : Hd) bQ => (cond (bQ 8) [rgR hx (R ++ [(oM l (sM l ((dP l (dH gP l)).1.getD i default)))])] [rgR aR R])) ⟨none, none, 0⟩ hF (fun iQ hiQ oQ hoQ hx bQ hbQ KQ hKQ => ?_) (fun hx => ?_)
  ·match iQ, hiQ with
   | 0, _ | 1, _ | 2, _ | 3, _ | 4, _ | 7, _ | 9, _ | 10, _ =>
    exact mfp hF hoQ hbQ (hKQ hx)
   | 5, _ =>
    exact mfc hF hoQ hbQ (hKQ hx) (xD _ l ((dP l (dH gP l)).1.getD i default) hl hes hrk)
   | 6, _ =>
    exact mfc hF hoQ hbQ (hKQ hx) (aBd _ l (sM l ((dP l (dH gP l)).1.getD i default)) hv hJ hnd hrO)
   | 8, _ =>
    obtain rfl := Option.some.inj hoQ
    simp only [oS, hD, iB, List.getD_cons_succ, List.getD_cons_zero, List.getD_nil, and_true, true_and] at hbQ
    rw [hbQ.1]
    simp only [cond_false]
    show fV _ _ _ _ _ _ _ _
    refine dO (s1 := []) (s2 := []) 34 (by decide) (by ((try simp only [go_sem, seval, hbQ]); try simp (disch := omega) only [go_sem, seval, hbQ]) <;> rfl) rfl ?_
    refine gM [] [] 46 14 ((R ++ [(oM l (sM l ((dP l (dH gP l)).1.getD i default)))]).map aZ) 41 (by decide) ?_
    show fV _ _ _ _ _ _ _ _
    refine dY hF ?_
    refine cM rfl (by kernel_rfl) (by kernel_rfl) ?_
    ((try simp only [go_sem, seval, hbQ]); try simp (disch := omega) only [go_sem, seval, hbQ])
    repeat refine And.intro bS ?_
    refine ⟨rfl, by ((try simp only [go_sem, seval, hbQ]); try simp (disch := omega) only [go_sem, seval, hbQ]) <;> (first | rfl | (simp; done) | (simp; rfl)), fun hx => ?_⟩
    try ((try simp only [go_sem, seval, hbQ]); try simp (disch := omega) only [go_sem, seval, hbQ])
    refine hKQ hx _ _ ?_ ?_
    ·first | rfl | (((try simp only [go_sem, seval, hbQ]); try simp (disch := omega) only [go_sem, seval, hbQ]); done) | (((try simp only [go_sem, seval, hbQ]); try simp (disch := omega) only [go_sem, seval, hbQ]) <;> rfl)
    ((try simp only [go_sem, seval, hbQ]); try simp (disch := omega) only [go_sem, seval, hbQ]) <;> first | rfl | simp
  refine lZ ?_
  refine hK11 _ _ ?_; clear hK11
  refine cH hF [1, 2, 4, 6, 11, 13, 27, 28, 29] ?_
  refine hK8 _ _ _ ?_ ⟨i + 1, hx, R ++ [(oM l (sM l ((dP l (dH gP l)).1.getD i default)))], rfl, rfl, ?_, ?_, ?_⟩
  ·exact bD
  ·exact bD
  ·rw [l0_1, fP default c1, List.map_append]; rfl
  exact cD
 refine dD ?_
 refine hK6 _ _ ?_; clear hK6
 refine aN fun K13 hK13 => ?_
 refine aN fun K14 hK14 => ?_
 obtain rfl : i = (dP l (dH gP l)).1.length := (by omega)
 rw [List.take_length] at l0_1
 refine dW hF [1, 2, 6] ?_
 refine dM (vI _ l hl) ?_
 refine hK14 _ _ ?_; clear hK14
 refine bI ?_
 refine eL [rgR aR R] [] 3 1 rfl ?_
 refine eL [rgR aR R] [_] 3 1 rfl ?_
 refine dB [1, 2, 6, 45, 46, 47] (fun n sF ρ => ∃ j, ∃ aP, ∃ aH, ∃ A, ∃ B, n = (eA l).length - j ∧ sF = [rgR aR R, wD aP A, wD aH B] ∧ (j ≤ (eA l).length) ∧ (A = (eA l).take j) ∧ (B = ((eA l).take j).map (bY l)) ∧ ρ = cU O [(1, .bx (aI l)), (2, .bx [.v (.slice none 0 0), .v (.slice none 0 0), .v (.slice none 0 0), vi 0, vi 0]), (6, .bx (tC l (aR.sl R.length) (aP.sl A.length) (aH.sl B.length))), (45, b9 (eA l)), (46, vi ((eA l).length : Nat)), (47, vi (j : Nat))]) _ ⟨0, eU, eU, [], [], rfl, rfl, ?_, ?_, ?_, ?_⟩ ?_
 ·exact bD
 ·rfl
 ·rfl
 ·exact cD
 rintro n sF ρ ⟨j, aP, aH, A, B, rfl, rfl, l1_0, l1_1, l1_2, rfl⟩ K15 hK15
 have hAl : A.length ≤ j := by rw [l1_1]; exact List.length_take_le _ _
 have hBl : B.length ≤ j := by rw [l1_2, List.length_map]; exact List.length_take_le _ _
 refine a8 hF [1, 2, 6, 45, 46, 47] ?_
 refine aN fun K17 hK17 => ?_
 refine bU (fun c2 => ?_) fun c2 => ?_
 ·refine bG ?_
  refine hK17 _ _ ?_; clear hK17
  refine aN fun K18 hK18 => ?_
  refine bI ?_
  refine a8 hF [1, 2, 6, 45, 46, 47] ?_
  refine aN fun K20 hK20 => ?_
  refine bH (Le.keepC [1, 2, 6, 10, 45, 46, 47] _) ?_
  refine bM ?_
  refine ef hF ?_
  refine ef hF ?_
  refine ef hF ?_
  refine ef hF ?_
  show fV _ _ _ _ _ _ _ _
  refine dO (s1 := [rgR aR R]) (s2 := [wD aH B]) 52 (by decide) (by ((try simp only [go_sem, seval]); try simp (disch := omega) only [go_sem, seval]) <;> rfl) rfl ?_
  refine ef hF ?_
  show fV _ _ _ _ _ _ _ _
  refine fM (s1 := [rgR aR R]) (s2 := [wD aH B]) (l := (A ++ [((eA l).getD j default)]).map eI) 55 (by decide) (by ((try simp only [go_sem, seval]); try simp (disch := omega) only [go_sem, seval]) <;> (first | rfl | (simp; done) | (simp; rfl))) rfl (fun h2 => ?_)
  refine ef hF ?_
  refine ef hF ?_
  refine hK20 _ _ ?_; clear hK20
  refine l4 9 [1, 2, 6, 10, 45, 46, 47] [1, 2, 10, 45, 46, 47, 57, 59, 60, 61, 62, 63, 64, 6, 58] [[], [0], [], [], [2, 3], [2, 3, 4], [0, 1, 2, 3, 4, 5], [0, 1, 2, 3, 4, 5, 6], [0, 1, 2, 3, 4, 5, 6, 7]] [[1, 6, 8], [6, 8], [6, 8], [6, 8], [6, 8], [6, 8], [8], [8], []] (fun (hx : Hd) bQ => cU O [(1, .bx (aI l)), (2, .bx [.v (.slice none 0 0), .v (.slice none 0 0), .v (.slice none 0 0), vi 0, vi 0]), (10, vi ((eA l).getD j default)), (45, b9 (eA l)), (46, vi ((eA l).length : Nat)), (47, vi (j : Nat)), (57, aV (bQ 0) (.bp 6 2)), (59, aV (bQ 2) (.agg (aI l))), (60, aV (bQ 3) (vi ((eA l).getD j default))), (61, aV (bQ 4) (vi (bY l ((eA l).getD j default)))), (62, aV (bQ 5) (.sl 1 1 (fun i_ => [[vi (bY l ((eA l).getD j default))]].getD i_ []))), (63, aV (bQ 6) (hx.sl (B ++ [bY l ((eA l).getD j default)]).length)), (64, aV (bQ 7) (.bp 6 2)), (6, hU (bQ 8) true (.bx (tC l (aR.sl R.length) (h2.sl (A ++ [((eA l).getD j default)]).length) (hx.sl (B ++ [bY l ((eA l).getD j default)]).length))) (.bx (tC l (aR.sl R.length) (h2.sl (A ++ [((eA l).getD j default)]).length) (aH.sl B.length)))), (58, (cond (bQ 6) (.any) (cond (bQ 1) (aH.sl B.length) (.any))))]) (fun (hx : Hd) bQ => (cond (bQ 6) [rgR aR R, wD h2 (A ++ [((eA l).getD j default)]), wD hx (B ++ [bY l ((eA l).getD j default)])] [rgR aR R, wD h2 (A ++ [((eA l).getD j default)]), wD aH B])) ⟨none, none, 0⟩ hF (fun iQ hiQ oQ hoQ hx bQ hbQ KQ hKQ => ?_) (fun hx => ?_)
  ·match iQ, hiQ with
   | 0, _ | 1, _ | 2, _ | 3, _ | 5, _ | 7, _ | 8, _ =>
    exact mfp hF hoQ hbQ (hKQ hx)
   | 4, _ =>
    exact mfc hF hoQ hbQ (hKQ hx) (dU _ l ((eA l).getD j default))
   | 6, _ =>
    obtain rfl := Option.some.inj hoQ
    simp only [oS, hD, iB, List.getD_cons_succ, List.getD_cons_zero, List.getD_nil, and_true, true_and] at hbQ
    rw [hbQ.1]
    simp only [cond_false]
    show fV _ _ _ _ _ _ _ _
    refine dO (s1 := [rgR aR R, wD h2 (A ++ [((eA l).getD j default)])]) (s2 := []) 58 (by decide) (by ((try simp only [go_sem, seval, hbQ]); try simp (disch := omega) only [go_sem, seval, hbQ]) <;> rfl) rfl ?_
    refine gM [rgR aR R, wD h2 (A ++ [((eA l).getD j default)])] [] 3 1 ((B ++ [bY l ((eA l).getD j default)]).map eI) 63 (by decide) ?_
    show fV _ _ _ _ _ _ _ _
    refine dY hF ?_
    refine cM rfl (by kernel_rfl) (by kernel_rfl) ?_
    ((try simp only [go_sem, seval, hbQ]); try simp (disch := omega) only [go_sem, seval, hbQ])
    repeat refine And.intro bS ?_
    refine ⟨rfl, by ((try simp only [go_sem, seval, hbQ]); try simp (disch := omega) only [go_sem, seval, hbQ]) <;> (first | rfl | (simp; done) | (simp; rfl)), fun hx => ?_⟩
    try ((try simp only [go_sem, seval, hbQ]); try simp (disch := omega) only [go_sem, seval, hbQ])
    refine hKQ hx _ _ ?_ ?_
    ·first | rfl | (((try simp only [go_sem, seval, hbQ]); try simp (disch := omega) only [go_sem, seval, hbQ]); done) | (((try simp only [go_sem, seval, hbQ]); try simp (disch := omega) only [go_sem, seval, hbQ]) <;> rfl)
    ((try simp only [go_sem, seval, hbQ]); try simp (disch := omega) only [go_sem, seval, hbQ]) <;> first | rfl | simp
  refine lZ ?_
  refine hK18 _ _ ?_; clear hK18
  refine cH hF [1, 2, 6, 45, 46, 47] ?_
  refine hK15 _ _ _ ?_ ⟨j + 1, h2, hx, A ++ [((eA l).getD j default)], B ++ [bY l ((eA l).getD j default)], rfl, rfl, ?_, ?_, ?_, ?_⟩
  ·exact bD
  ·exact bD
  ·rw [l1_1, fP default c2]
  ·rw [l1_2, fP default c2, List.map_append]; rfl
  exact cD
 refine dD ?_
 refine hK13 _ _ ?_; clear hK13
 refine aN fun K21 hK21 => ?_
 obtain rfl : j = (eA l).length := (by omega)
 rw [List.take_length] at l1_1 l1_2
 refine dA (s1 := []) (s2 := [wD aP A, wD aH B]) 6 0 (by first | rfl | (((try simp only [go_sem, seval]); try simp (disch := omega) only [go_sem, seval]); done) | (((try simp only [go_sem, seval]); try simp (disch := omega) only [go_sem, seval]); rfl)) (by first | rfl | (((try simp only [go_sem, seval]); try simp (disch := omega) only [go_sem, seval]); done) | (((try simp only [go_sem, seval]); try simp (disch := omega) only [go_sem, seval]); rfl)) rfl (bV.frzL aZ (R)) rfl ?_
 rw [aEa]
 refine dA (s1 := []) (s2 := [wD aH B]) 6 1 (by first | rfl | (((try simp only [go_sem, seval]); try simp (disch := omega) only [go_sem, seval]); done) | (((try simp only [go_sem, seval]); try simp (disch := omega) only [go_sem, seval]); rfl)) (by first | rfl | (((try simp only [go_sem, seval]); try simp (disch := omega) only [go_sem, seval]); done) | (((try simp only [go_sem, seval]); try simp (disch := omega) only [go_sem, seval]); rfl)) rfl (bV.frzL eI (A)) rfl ?_
 rw [aKw]
 refine dA (s1 := []) (s2 := []) 6 2 (by first | rfl | (((try simp only [go_sem, seval]); try simp (disch := omega) only [go_sem, seval]); done) | (((try simp only [go_sem, seval]); try simp (disch := omega) only [go_sem, seval]); rfl)) (by first | rfl | (((try simp only [go_sem, seval]); try simp (disch := omega) only [go_sem, seval]); done) | (((try simp only [go_sem, seval]); try simp (disch := omega) only [go_sem, seval]); rfl)) rfl (bV.frzL eI (B)) rfl ?_
 rw [aEu]
 have htT := bFn her
 rw [← l0_1, ← l1_2] at htT
 rw [← l1_1] at htT
 refine cH hF [2, 6] ?_
 refine hK21 _ _ ?_; clear hK21
 refine cL ?_
 (try simp only [eT, dQ]); rw [htT, her]; refine bAy rfl (by ((try simp only [go_sem, seval]); try simp (disch := omega) only [go_sem, seval])) (.cons (sJ (by ((try simp only [go_sem, seval]); try simp (disch := omega) only [go_sem, seval]) <;> rfl) (by ((try simp only [go_sem, seval]); try simp (disch := omega) only [go_sem, seval]) <;> rfl) (by kernel_rfl) (by first | rfl | (((try simp only [go_sem, seval]); try simp (disch := omega) only [go_sem, seval])))) (.cons (gZ (by ((try simp only [go_sem, seval]); try simp (disch := omega) only [go_sem, seval]) <;> rfl) rfl rfl) .nil))
end
section
attribute [local go_sem] or_self List.drop_zero List.length_map aOi aHg aSx aTv aTc aEa aKw aEu aNv aOv
set_option maxRecDepth 20000 in
set_option maxHeartbeats 16000000 in
theorem aAe (O : aU) (l : aC) (hl : dX l) : aW Tryz.prog O 12 [.agg (aI l)] (.tup [.agg (eP (tbT l)), vi (dP l (dH gP l)).2]) := by
 have hl4 := hl.sg
 have hl5 := hl.el
 have hl6 := hl.sec
 have hal := aOm l
 have hpt := aMo l
 refine eV Tryz.func12 rfl (by kernel_rfl) fun w0 I0 A0 => ?_
 have hF := jN w0 I0 (b8 A0) (xG [])
 refine a8 hF [0] ?_
 refine aN fun K1 hK1 => ?_
 refine dW hF [1, 2] ?_
 refine dM (aFr _ l (dH gP l) hl (fun hc O i hi => aBk O l i hi hl (qN hc).2.1 (aXm hc)) (aId l)) ?_
 refine hK1 _ _ ?_; clear hK1
 refine aN fun K2 hK2 => ?_
 refine a8 hF [1, 2, 4, 5, 11, 13] ?_
 refine bU (fun c0 => ?_) fun c0 => ?_
 ·have her : ¬ (dP l (dH gP l)).2 = 0 := (by simpa using c0)
  refine a8 hF [2, 5] ?_
  refine kB 2 (ds := eP ⟨[], [], [], 0, 0⟩) rfl (by first | rfl | (((try simp only [go_sem, seval]); try simp (disch := omega) only [go_sem, seval]); done) | (((try simp only [go_sem, seval]); try simp (disch := omega) only [go_sem, seval]); rfl)) (.cons (bV.nilL _) (.cons (bV.nilL _) (.cons (bV.nilL _) (.cons (bV.refl _) (.cons (bV.refl _) .nil))))) ?_
  refine cL ?_
  (try simp only [eT, dQ]); rw [bFs her]; refine bAy rfl (by ((try simp only [go_sem, seval]); try simp (disch := omega) only [go_sem, seval])) (.cons (sJ (by ((try simp only [go_sem, seval]); try simp (disch := omega) only [go_sem, seval]) <;> rfl) (by ((try simp only [go_sem, seval]); try simp (disch := omega) only [go_sem, seval]) <;> rfl) (by kernel_rfl) (by first | rfl | (((try simp only [go_sem, seval]); try simp (disch := omega) only [go_sem, seval])))) (.cons (gZ (by ((try simp only [go_sem, seval]); try simp (disch := omega) only [go_sem, seval]) <;> rfl) rfl rfl) .nil))
 have her : (dP l (dH gP l)).2 = 0 := (by simpa using c0)
 have hck := aMj her
 have hes := (qN hck).2.1
 obtain ⟨hv, hJ⟩ := aEe hl hck
 refine bG ?_
 refine hK2 _ _ ?_; clear hK2
 refine aN fun K5 hK5 => ?_
 refine dE hF ?_
 refine k9 11 [1, 2, 4, 11, 13] [1, 2, 4, 20, 21, 22, 23, 24, 25, 26, 27, 28, 6] [] [] [[], [0], [], [2], [2, 3], [], [5], [5, 6], [0, 1, 2, 3, 4, 5, 6, 7], [], [0, 1, 2, 3, 4, 5, 6, 7, 8, 9]] [[10], [10], [10], [10], [10], [10], [10], [10], [10], [10], []] (fun bQ => cU O [(1, .bx (aI l)), (2, .bx [.v (.slice none 0 0), .v (.slice none 0 0), .v (.slice none 0 0), vi 0, vi 0]), (4, iU (dP l (dH gP l)).1), (20, aV (bQ 0) (.agg (aI l))), (21, aV (bQ 1) (b9 (eA l))), (22, aV (bQ 2) (.bp 1 1)), (23, aV (bQ 3) (dN l.fSections)), (24, aV (bQ 4) (vi (l.fSections.length : Nat))), (25, aV (bQ 5) (.bp 1 4)), (26, aV (bQ 6) (gB l.fSignals)), (27, aV (bQ 7) (vi (l.fSignals.length : Nat))), (28, aV (bQ 8) (.agg (tC l (.v (.slice none 0 0)) (b9 (eA l)) (.v (.slice none 0 0))))), (6, hU (bQ 10) (bQ 9) (.bx (tC l (.v (.slice none 0 0)) (b9 (eA l)) (.v (.slice none 0 0)))) (.bx [.v (.slice none 0 0), .v (.slice none 0 0), .v (.slice none 0 0), vi 0, vi 0]))]) (fun iQ hiQ oQ hoQ bQ hbQ KQ hKQ => ?_) ?_
 ·match iQ, hiQ with
  | 0, _ | 2, _ | 3, _ | 4, _ | 5, _ | 6, _ | 7, _ | 8, _ | 9, _ | 10, _ =>
   exact mkp hoQ hbQ hKQ
  | 1, _ =>
   exact mkc hoQ hbQ hKQ (xU _ l hl)
 refine lZ ?_
 refine hK5 _ _ ?_; clear hK5
 refine aN fun K6 hK6 => ?_
 refine a8 hF [1, 2, 4, 6, 11, 13] ?_
 refine bI ?_
 refine eL [] [] 46 14 rfl ?_
 refine dB [1, 2, 6, 29, 30, 31] (fun n sF ρ => ∃ i, ∃ aR, ∃ R, n = (dP l (dH gP l)).1.length - i ∧ sF = [rgR aR R] ∧ (i ≤ (dP l (dH gP l)).1.length) ∧ (R = ((dP l (dH gP l)).1.take i).map (bBh l)) ∧ ρ = cU O [(1, .bx (aI l)), (2, .bx [.v (.slice none 0 0), .v (.slice none 0 0), .v (.slice none 0 0), vi 0, vi 0]), (6, .bx (tC l (aR.sl R.length) (b9 (eA l)) (.v (.slice none 0 0)))), (29, iU (dP l (dH gP l)).1), (30, vi ((dP l (dH gP l)).1.length : Nat)), (31, vi (i : Nat))]) _ ⟨0, eU, [], rfl, rfl, ?_, ?_, ?_⟩ ?_
 ·exact bD
 ·rfl
 ·exact cD
 rintro n sF ρ ⟨i, aR, R, rfl, rfl, l0_0, l0_1, rfl⟩ K8 hK8
 have hRl : R.length ≤ i := by rw [l0_1, List.length_map]; exact List.length_take_le _ _
 refine a8 hF [1, 2, 4, 6, 11, 13, 29, 30, 31] ?_
 refine aN fun K10 hK10 => ?_
 refine bU (fun c1 => ?_) fun c1 => ?_
 ·have hok := aMy (l := l) (fS c1)
  have hrk := hok.rtk
  have hrO := hok.rtkO
  have hnd := hok.nodup
  refine bG ?_
  refine hK10 _ _ ?_; clear hK10
  refine aN fun K11 hK11 => ?_
  refine bI ?_
  refine a8 hF [1, 2, 4, 6, 11, 13, 29, 30, 31] ?_
  refine l4 11 [1, 2, 4, 6, 8, 11, 13, 29, 30, 31] [1, 2, 8, 29, 30, 31, 35, 37, 38, 39, 40, 41, 42, 43, 44, 6, 36] [[], [0], [], [], [], [3, 4], [2, 3, 4, 5], [2, 3, 4, 5, 6], [0, 1, 2, 3, 4, 5, 6, 7], [0, 1, 2, 3, 4, 5, 6, 7, 8], [0, 1, 2, 3, 4, 5, 6, 7, 8, 9]] [[1, 8, 10], [8, 10], [8, 10], [8, 10], [8, 10], [8, 10], [8, 10], [8, 10], [10], [10], []] (fun (hx : Hd) bQ => cU O [(1, .bx (aI l)), (2, .bx [.v (.slice none 0 0), .v (.slice none 0 0), .v (.slice none 0 0), vi 0, vi 0]), (8, .bx (aZ ((dP l (dH gP l)).1.getD i default))), (29, iU (dP l (dH gP l)).1), (30, vi ((dP l (dH gP l)).1.length : Nat)), (31, vi (i : Nat)), (35, aV (bQ 0) (.bp 6 0)), (37, aV (bQ 2) (.agg (aI l))), (38, aV (bQ 3) (.agg (aI l))), (39, aV (bQ 4) (.agg (aZ ((dP l (dH gP l)).1.getD i default)))), (40, aV (bQ 5) (.agg (aZ (sM l ((dP l (dH gP l)).1.getD i default))))), (41, aV (bQ 6) (.agg (aZ (oM l (sM l ((dP l (dH gP l)).1.getD i default)))))), (42, aV (bQ 7) (.sl 14 1 (fun i_ => [aZ (oM l (sM l ((dP l (dH gP l)).1.getD i default)))].getD i_ []))), (43, aV (bQ 8) (hx.sl (R ++ [(oM l (sM l ((dP l (dH gP l)).1.getD i default)))]).length)), (44, aV (bQ 9) (.bp 6 0)), (6, hU (bQ 10) true (.bx (tC l (hx.sl (R ++ [(oM l (sM l ((dP l (dH gP l)).1.getD i default)))]).length) (b9 (eA l)) (.v (.slice none 0 0)))) (.bx (tC l (aR.sl R.length) (b9 (eA l)) (.v (.slice none 0 0))))), (36, (cond (bQ 8) (.any) (cond (bQ 1) (aR.sl R.length) (.any))))]) (fun (hx : Hd) bQ => (cond (bQ 8) [rgR hx (R ++ [(oM l (sM l ((dP l (dH gP l)).1.getD i default)))])] [rgR aR R])) ⟨none, none, 0⟩ hF (fun iQ hiQ oQ hoQ hx bQ hbQ KQ hKQ => ?_) (fun hx => ?_)
  ·match iQ, hiQ with
   | 0, _ | 1, _ | 2, _ | 3, _ | 4, _ | 7, _ | 9, _ | 10, _ =>
    exact mfp hF hoQ hbQ (hKQ hx)
   | 5, _ =>
    exact mfc hF hoQ hbQ (hKQ hx) (aBs _ l ((dP l (dH gP l)).1.getD i default) hl hes hrk)
   | 6, _ =>
    exact mfc hF hoQ hbQ (hKQ hx) ((aMg hv hJ hnd).2 ▸ aBc _ l (sM l ((dP l (dH gP l)).1.getD i default)) hv hrO)
   | 8, _ =>
    obtain rfl := Option.some.inj hoQ
    simp only [oS, hD, iB, List.getD_cons_succ, List.getD_cons_zero, List.getD_nil, and_true, true_and] at hbQ
    rw [hbQ.1]
    simp only [cond_false]
    show fV _ _ _ _ _ _ _ _
    refine dO (s1 := []) (s2 := []) 36 (by decide) (by ((try simp only [go_sem, seval, hbQ]); try simp (disch := omega) only [go_sem, seval, hbQ]) <;> rfl) rfl ?_
    refine gM [] [] 46 14 ((R ++ [(oM l (sM l ((dP l (dH gP l)).1.getD i default)))]).map aZ) 43 (by decide) ?_
    show fV _ _ _ _ _ _ _ _
    refine dY hF ?_
    refine cM rfl (by kernel_rfl) (by kernel_rfl) ?_
    ((try simp only [go_sem, seval, hbQ]); try simp (disch := omega) only [go_sem, seval, hbQ])
    repeat refine And.intro bS ?_
    refine ⟨rfl, by ((try simp only [go_sem, seval, hbQ]); try simp (disch := omega) only [go_sem, seval, hbQ]) <;> (first | rfl | (simp; done) | (simp; rfl)), fun hx => ?_⟩
    try ((try simp only [go_sem, seval, hbQ]); try simp (disch := omega) only [go_sem, seval, hbQ])
    refine hKQ hx _ _ ?_ ?_
    ·first | rfl | (((try simp only [go_sem, seval, hbQ]); try simp (disch := omega) only [go_sem, seval, hbQ]); done) | (((try simp only [go_sem, seval, hbQ]); try simp (disch := omega) only [go_sem, seval, hbQ]) <;> rfl)
    ((try simp only [go_sem, seval, hbQ]); try simp (disch := omega) only [go_sem, seval, hbQ]) <;> first | rfl | simp
  refine lZ ?_
  refine hK11 _ _ ?_; clear hK11
  refine cH hF [1, 2, 4, 6, 11, 13, 29, 30, 31] ?_
  refine hK8 _ _ _ ?_ ⟨i + 1, hx, R ++ [(oM l (sM l ((dP l (dH gP l)).1.getD i default)))], rfl, rfl, ?_, ?_, ?_⟩
  ·exact bD
  ·exact bD
  ·rw [l0_1, fP default c1, List.map_append]; rfl
  exact cD
 refine dD ?_
 refine hK6 _ _ ?_; clear hK6
 refine aN fun K13 hK13 => ?_
 refine aN fun K14 hK14 => ?_
 obtain rfl : i = (dP l (dH gP l)).1.length := (by omega)
 rw [List.take_length] at l0_1
 refine cH hF [1, 2, 6] ?_
 refine hK14 _ _ ?_; clear hK14
 refine bI ?_
 refine eL [rgR aR R] [] 3 1 rfl ?_
 refine dB [1, 2, 6, 47, 48, 49] (fun n sF ρ => ∃ j, ∃ aH, ∃ B, n = (eA l).length - j ∧ sF = [rgR aR R, wD aH B] ∧ (j ≤ (eA l).length) ∧ (B = ((eA l).take j).map (bY l)) ∧ ρ = cU O [(1, .bx (aI l)), (2, .bx [.v (.slice none 0 0), .v (.slice none 0 0), .v (.slice none 0 0), vi 0, vi 0]), (6, .bx (tC l (aR.sl R.length) (b9 (eA l)) (aH.sl B.length))), (47, b9 (eA l)), (48, vi ((eA l).length : Nat)), (49, vi (j : Nat))]) _ ⟨0, eU, [], rfl, rfl, ?_, ?_, ?_⟩ ?_
 ·exact bD
 ·rfl
 ·exact cD
 rintro n sF ρ ⟨j, aH, B, rfl, rfl, l1_0, l1_1, rfl⟩ K15 hK15
 have hBl : B.length ≤ j := by rw [l1_1, List.length_map]; exact List.length_take_le _ _
 refine a8 hF [1, 2, 6, 46, 47, 48, 49] ?_
 refine aN fun K17 hK17 => ?_
 refine bU (fun c2 => ?_) fun c2 => ?_
 ·refine bG ?_
  refine hK17 _ _ ?_; clear hK17
  refine aN fun K18 hK18 => ?_
  refine bI ?_
  refine a8 hF [1, 2, 6, 46, 47, 48, 49] ?_
  refine l4 9 [1, 2, 6, 10, 46, 47, 48, 49] [1, 2, 10, 47, 48, 49, 53, 55, 56, 57, 58, 59, 60, 6, 54] [[], [0], [], [], [2, 3], [2, 3, 4], [0, 1, 2, 3, 4, 5], [0, 1, 2, 3, 4, 5, 6], [0, 1, 2, 3, 4, 5, 6, 7]] [[1, 6, 8], [6, 8], [6, 8], [6, 8], [6, 8], [6, 8], [8], [8], []] (fun (hx : Hd) bQ => cU O [(1, .bx (aI l)), (2, .bx [.v (.slice none 0 0), .v (.slice none 0 0), .v (.slice none 0 0), vi 0, vi 0]), (10, vi ((eA l).getD j default)), (47, b9 (eA l)), (48, vi ((eA l).length : Nat)), (49, vi (j : Nat)), (53, aV (bQ 0) (.bp 6 2)), (55, aV (bQ 2) (.agg (aI l))), (56, aV (bQ 3) (vi ((eA l).getD j default))), (57, aV (bQ 4) (vi (bY l ((eA l).getD j default)))), (58, aV (bQ 5) (.sl 1 1 (fun i_ => [[vi (bY l ((eA l).getD j default))]].getD i_ []))), (59, aV (bQ 6) (hx.sl (B ++ [bY l ((eA l).getD j default)]).length)), (60, aV (bQ 7) (.bp 6 2)), (6, hU (bQ 8) true (.bx (tC l (aR.sl R.length) (b9 (eA l)) (hx.sl (B ++ [bY l ((eA l).getD j default)]).length))) (.bx (tC l (aR.sl R.length) (b9 (eA l)) (aH.sl B.length)))), (54, (cond (bQ 6) (.any) (cond (bQ 1) (aH.sl B.length) (.any))))]) (fun (hx : Hd) bQ => (cond (bQ 6) [rgR aR R, wD hx (B ++ [bY l ((eA l).getD j default)])] [rgR aR R, wD aH B])) ⟨none, none, 0⟩ hF (fun iQ hiQ oQ hoQ hx bQ hbQ KQ hKQ => ?_) (fun hx => ?_)
  ·match iQ, hiQ with
   | 0, _ | 1, _ | 2, _ | 3, _ | 5, _ | 7, _ | 8, _ =>
    exact mfp hF hoQ hbQ (hKQ hx)
   | 4, _ =>
    exact mfc hF hoQ hbQ (hKQ hx) (gD _ l ((eA l).getD j default))
   | 6, _ =>
    obtain rfl := Option.some.inj hoQ
    simp only [oS, hD, iB, List.getD_cons_succ, List.getD_cons_zero, List.getD_nil, and_true, true_and] at hbQ
    rw [hbQ.1]
    simp only [cond_false]
    show fV _ _ _ _ _ _ _ _
    refine dO (s1 := [rgR aR R]) (s2 := []) 54 (by decide) (by ((try simp only [go_sem, seval, hbQ]); try simp (disch := omega) only [go_sem, seval, hbQ]) <;> rfl) rfl ?_
    refine gM [rgR aR R] [] 3 1 ((B ++ [bY l ((eA l).getD j default)]).map eI) 59 (by decide) ?_
    show fV _ _ _ _ _ _ _ _
    refine dY hF ?_
    refine cM rfl (by kernel_rfl) (by kernel_rfl) ?_
    ((try simp only [go_sem, seval, hbQ]); try simp (disch := omega) only [go_sem, seval, hbQ])
    repeat refine And.intro bS ?_
    refine ⟨rfl, by ((try simp only [go_sem, seval, hbQ]); try simp (disch := omega) only [go_sem, seval, hbQ]) <;> (first | rfl | (simp; done) | (simp; rfl)), fun hx => ?_⟩
    try ((try simp only [go_sem, seval, hbQ]); try simp (disch := omega) only [go_sem, seval, hbQ])
    refine hKQ hx _ _ ?_ ?_
    ·first | rfl | (((try simp only [go_sem, seval, hbQ]); try simp (disch := omega) only [go_sem, seval, hbQ]); done) | (((try simp only [go_sem, seval, hbQ]); try simp (disch := omega) only [go_sem, seval, hbQ]) <;> rfl)
    ((try simp only [go_sem, seval, hbQ]); try simp (disch := omega) only [go_sem, seval, hbQ]) <;> first | rfl | simp
  refine lZ ?_
  refine hK18 _ _ ?_; clear hK18
  refine cH hF [1, 2, 6, 46, 47, 48, 49] ?_
  refine hK15 _ _ _ ?_ ⟨j + 1, hx, B ++ [bY l ((eA l).getD j default)], rfl, rfl, ?_, ?_, ?_⟩
  ·exact bD
  ·exact bD
  ·rw [l1_1, fP default c2, List.map_append]; rfl
  exact cD
 refine dD ?_
 refine hK13 _ _ ?_; clear hK13
 refine aN fun K20 hK20 => ?_
 obtain rfl : j = (eA l).length := (by omega)
 rw [List.take_length] at l1_1
 refine dA (s1 := []) (s2 := [wD aH B]) 6 0 (by first | rfl | (((try simp only [go_sem, seval]); try simp (disch := omega) only [go_sem, seval]); done) | (((try simp only [go_sem, seval]); try simp (disch := omega) only [go_sem, seval]); rfl)) (by first | rfl | (((try simp only [go_sem, seval]); try simp (disch := omega) only [go_sem, seval]); done) | (((try simp only [go_sem, seval]); try simp (disch := omega) only [go_sem, seval]); rfl)) rfl (bV.frzL aZ (R)) rfl ?_
 rw [aEa]
 refine dA (s1 := []) (s2 := []) 6 2 (by first | rfl | (((try simp only [go_sem, seval]); try simp (disch := omega) only [go_sem, seval]); done) | (((try simp only [go_sem, seval]); try simp (disch := omega) only [go_sem, seval]); rfl)) (by first | rfl | (((try simp only [go_sem, seval]); try simp (disch := omega) only [go_sem, seval]); done) | (((try simp only [go_sem, seval]); try simp (disch := omega) only [go_sem, seval]); rfl)) rfl (bV.frzL eI (B)) rfl ?_
 rw [aEu]
 have htT := bFn her
 rw [← l0_1, ← l1_1] at htT
 refine cH hF [2, 6] ?_
 refine hK20 _ _ ?_; clear hK20
 refine cL ?_
 (try simp only [eT, dQ]); rw [htT, her]; refine bAy rfl (by ((try simp only [go_sem, seval]); try simp (disch := omega) only [go_sem, seval])) (.cons (sJ (by ((try simp only [go_sem, seval]); try simp (disch := omega) only [go_sem, seval]) <;> rfl) (by ((try simp only [go_sem, seval]); try simp (disch := omega) only [go_sem, seval]) <;> rfl) (by kernel_rfl) (by first | rfl | (((try simp only [go_sem, seval]); try simp (disch := omega) only [go_sem, seval])))) (.cons (gZ (by ((try simp only [go_sem, seval]); try simp (disch := omega) only [go_sem, seval]) <;> rfl) rfl rfl) .nil))
end
def nmA (i : Nat) : ByteArray := [(⟨#[97]⟩ : ByteArray), ⟨#[98]⟩, ⟨#[99]⟩].getD i default
def elA (i : Nat) : iR := ⟨nmA i, 1, 20000, 0, 3000, 0, (i : Nat)⟩
def L0 : aC := ⟨⟨#[108, 105, 110, 101]⟩, [⟨#[120]⟩, ⟨#[121]⟩, ⟨#[122]⟩], (List.range 3).map elA, [⟨⟨0, 1⟩, ⟨1, 0⟩⟩, ⟨⟨1, 1⟩, ⟨2, 0⟩⟩], [⟨⟨#[115, 49]⟩, ⟨0, 1⟩, 0⟩, ⟨⟨#[115, 50]⟩, ⟨1, 1⟩, 0⟩], []⟩
theorem bIp : dX L0 := ⟨by decide, by decide, by decide, by decide, by decide, fun n hn x hx => by
 have h : (cE L0).all (fun n => n.all fun x => decide (x.size ≤ 140737488355328)) = true := by kernel_rfl
 exact of_decide_eq_true (List.all_eq_true.1 (List.all_eq_true.1 h n hn) x hx)⟩
theorem bUj : (dP L0 (dH gP L0)).2 = 0 := by kernel_rfl
theorem aVw : (tbT L0).fRoutes.length = 2 := by kernel_rfl
theorem bKy : (tbT L0).fSections = 3 := by kernel_rfl
theorem bOp : (tbT L0).fSignals = 2 := by kernel_rfl
theorem bAk : bCz (tbT L0) = true := by kernel_rfl
theorem bJd : aEp (tbT L0) ⟨#[115, 50, 45, 101, 110, 100]⟩ (tbT L0).fRoutes.length = 1 := by kernel_rfl
theorem bOk : chk (tbT L0) = 0 := by kernel_rfl
def sQ : List aM := [⟨3, 1⟩, ⟨7, 2⟩, ⟨3, 1⟩, ⟨5, 2⟩]
theorem bMn : eY sQ = [⟨3, 1⟩, ⟨5, 2⟩, ⟨7, 2⟩] := oY (qE _) (by unfold Asc; decide) fun x => by
 rw [l1]; unfold sQ
 simp only [List.mem_cons, List.not_mem_nil, or_false]
 grind
abbrev cAk (h : Hd) (E : List iR) : Rg := .row h 91 7 (E.map eM)
def lnX (a b c d : DV) : List DV := [vs ⟨#[108, 105, 110, 101]⟩, .sl 1 3 (fun i_ => [[vs ⟨#[120]⟩], [vs ⟨#[121]⟩], [vs ⟨#[122]⟩]].getD i_ []), a, b, c, d]
section
variable (a b c d e : DV)
theorem bBn : (lnX a b c d).length = 6 := rfl
theorem aYl : (lnX a b c d).take 6 = lnX a b c d := rfl
theorem bJy : (lnX a b c d).getD 2 .any = a := rfl
theorem bJc : (lnX a b c d).getD 3 .any = b := rfl
theorem bLg : (lnX a b c d).getD 4 .any = c := rfl
theorem aVc : (lnX a b c d).set 2 e = lnX e b c d := rfl
theorem bOo : (lnX a b c d).set 3 e = lnX a e c d := rfl
theorem bHp : (lnX a b c d).set 4 e = lnX a b e d := rfl
end
def bLy : Nat → List DV := fun i => [[vs ⟨#[97]⟩], [vs ⟨#[98]⟩], [vs ⟨#[99]⟩]].getD i []
theorem bMu {i : Nat} (h : i < 3) : (bLy i).getD 0 .any = vs (nmA i) := by
 have : i = 0 ∨ i = 1 ∨ i = 2 := by omega
 rcases this with rfl | rfl | rfl <;> rfl
theorem bNv {i : Nat} (h : i < 3) : (bLy i).length = 1 := by
 have : i = 0 ∨ i = 1 ∨ i = 2 := by omega
 rcases this with rfl | rfl | rfl <;> rfl
theorem bEw {a b c d : DV} (ha : rD (fun x => x + 100000) a = a) (hb : rD (fun x => x + 100000) b = b) (hc : rD (fun x => x + 100000) c = c) (hd : rD (fun x => x + 100000) d = d) : iA (fun x => x + 100000) (lnX a b c d) = lnX a b c d := by
 unfold lnX; simp only [iA, ha, hb, hc, hd]; rfl
theorem aZn {a b c d : DV} (p : Nat → Bool) : dS p (lnX a b c d) = (eR p a && (eR p b && (eR p c && eR p d))) := by
 unfold lnX; simp [dS, eR]
section
attribute [local go_sem] or_self List.drop_zero List.length_map bBn aYl bJy bJc bLg aVc bOo bHp bEw aZn bMu bNv
set_option maxRecDepth 20000 in
set_option maxHeartbeats 8000000 in
theorem aBm (O : aU)  : aW Tryz.prog O 34 [] (.agg (aI L0)) := by
 refine eV Tryz.func34 rfl (by kernel_rfl) fun w0 I0 A0 => ?_
 have hF := jN w0 I0 (b8 A0) (xG [])
 refine a8 hF [] ?_
 refine a8 hF [0] ?_
 refine aN fun K2 hK2 => ?_
 refine a8 hF [0, 1] ?_
 refine bI ?_
 refine eL [] [] 91 7 rfl ?_
 refine dB [0, 1, 6, 7, 8] (fun n sF ρ => ∃ i, ∃ aE, ∃ E, n = 3 - i ∧ sF = [cAk aE E] ∧ (i ≤ 3) ∧ (E = (List.range i).map elA) ∧ ρ = cU O [(0, .bx [vs ⟨#[]⟩, .v (.slice none 0 0), .v (.slice none 0 0), .v (.slice none 0 0), .v (.slice none 0 0), .v (.slice none 0 0)]), (1, .bx (lnX (aE.sl E.length) (.v (.slice none 0 0)) (.v (.slice none 0 0)) (.v (.slice none 0 0)))), (6, .sl 1 3 bLy), (7, vi 3), (8, vi (i : Nat))]) _ ⟨0, eU, [], rfl, rfl, ?_, ?_, ?_⟩ ?_
 ·exact bD
 ·rfl
 ·exact cD
 rintro n sF ρ ⟨i, aE, E, rfl, rfl, l0_0, l0_1, rfl⟩ K4 hK4
 have hEl : E.length = i := by rw [l0_1, List.length_map, List.length_range]
 refine a8 hF [0, 1, 6, 7, 8] ?_
 refine aN fun K6 hK6 => ?_
 refine bU (fun c0 => ?_) fun c0 => ?_
 ·have hi3 : i < 3 := (by omega)
  refine bG ?_
  refine hK6 _ _ ?_; clear hK6
  refine aN fun K7 hK7 => ?_
  refine bI ?_
  refine a8 hF [0, 1, 6, 7, 8] ?_
  refine bH (Le.keepC [0, 1, 2, 3, 6, 7, 8, 11] _) ?_
  refine bM ?_
  refine ef hF ?_
  refine ef hF ?_
  refine ef hF ?_
  refine ef hF ?_
  refine ef hF ?_
  refine ef hF ?_
  show fV _ _ _ _ _ _ _ _
  refine dO (s1 := []) (s2 := []) 14 (by decide) (by ((try simp only [go_sem, seval]); try simp (disch := omega) only [go_sem, seval]) <;> rfl) rfl ?_
  refine ef hF ?_
  show fV _ _ _ _ _ _ _ _
  refine fM (s1 := []) (s2 := []) (l := (E ++ [elA i]).map eM) 19 (by decide) (by ((try simp only [go_sem, seval]); try simp (disch := omega) only [go_sem, seval]) <;> (first | rfl | (simp [eM, elA]; done) | (simp [eM, elA]; rfl))) rfl (fun hx => ?_)
  refine ef hF ?_
  refine ef hF ?_
  refine hK7 _ _ ?_; clear hK7
  refine cH hF [0, 1, 6, 7, 8] ?_
  refine hK4 _ _ _ ?_ ⟨i + 1, hx, E ++ [elA i], rfl, rfl, ?_, ?_, ?_⟩
  ·exact bD
  ·exact bD
  ·rw [l0_1, List.range_succ, List.map_append]; rfl
  exact cD
 refine dD ?_
 refine hK2 _ _ ?_; clear hK2
 refine aN fun K9 hK9 => ?_
 obtain rfl : i = 3 := (by omega)
 refine dA (s1 := []) (s2 := []) 1 2 (by first | rfl | (((try simp only [go_sem, seval, seval]); try simp (disch := omega) only [go_sem, seval, seval]); done) | (((try simp only [go_sem, seval, seval]); try simp (disch := omega) only [go_sem, seval, seval]); rfl)) (by first | rfl | (((try simp only [go_sem, seval, seval]); try simp (disch := omega) only [go_sem, seval, seval]); done) | (((try simp only [go_sem, seval, seval]); try simp (disch := omega) only [go_sem, seval, seval]); rfl)) rfl (bV.frzL eM E) rfl ?_
 rw [aVc]
 refine cH hF [0, 1] ?_
 refine hK9 _ _ ?_; clear hK9
 refine a8 hF [0, 1] ?_
 refine aN fun K11 hK11 => ?_
 refine kB 1 (ds := aI L0) rfl (by first | rfl | (((try simp only [go_sem, seval, seval]); try simp (disch := omega) only [go_sem, seval, seval]); done) | (((try simp only [go_sem, seval, seval]); try simp (disch := omega) only [go_sem, seval, seval]); rfl)) (.cons (bV.refl _) (.cons (bV.litL L0.fSections rfl rfl) (.cons (by rw [l0_1]; exact bV.refl _) (.cons (bV.litL L0.fJoints rfl rfl) (.cons (bV.litL L0.fSignals rfl rfl) (.cons (bV.nilL _) .nil)))))) ?_
 refine cH hF [0, 1] ?_
 refine hK11 _ _ ?_; clear hK11
 refine cL ?_
 (try simp only [eT, dQ]); refine iK 0 28 rfl (by ((try simp only [go_sem, seval, seval]); try simp (disch := omega) only [go_sem, seval, seval])) (by ((try simp only [go_sem, seval, seval]); try simp (disch := omega) only [go_sem, seval, seval]) <;> rfl) (by kernel_rfl) (by rfl)
end
def rtQ : bE := ⟨⟨#[]⟩, 0, 0, [], [⟨3, 1⟩, ⟨7, 2⟩], [], 0, 0, [], [], [], [⟨3, 1⟩, ⟨5, 2⟩], [], []⟩
def sQ3 : List aM := [⟨3, 1⟩, ⟨5, 2⟩, ⟨7, 2⟩]
theorem bOn : mK [vs ⟨#[]⟩, vi 0, vi 0, .v (.slice none 0 0), .sl 2 2 (fun i => [aY ⟨3, 1⟩, aY ⟨7, 2⟩].getD i []), .v (.slice none 0 0), vi 0, vi 0, .v (.slice none 0 0), .v (.slice none 0 0), .v (.slice none 0 0), .sl 2 2 (fun i => [aY ⟨3, 1⟩, aY ⟨5, 2⟩].getD i []), .v (.slice none 0 0), .v (.slice none 0 0)] (aZ rtQ) :=
 .cons (bV.refl _) (.cons (bV.refl _) (.cons (bV.refl _) (.cons (bV.nilL _) (.cons (bV.litL rtQ.fPoints rfl rfl) (.cons (bV.nilL _) (.cons (bV.refl _) (.cons (bV.refl _) (.cons (bV.nilL _) (.cons (bV.nilL _) (.cons (bV.nilL _) (.cons (bV.litL rtQ.fFlank rfl rfl) (.cons (bV.nilL _) (.cons (bV.nilL _) .nil)))))))))))))
set_option maxHeartbeats 4000000 in
theorem aAa (O : aU)  : aW Tryz.prog O 10 [] (vb true) := by
 refine dT Tryz.func10 ?_
 refine aB [] ?_
 refine aA fun K1 hK1 => ?_
 refine bF [] ?_
 refine dM (aBm _) ?_
 refine dM (qV _ L0 bIp) ?_
 refine hK1 _ ?_; clear hK1
 refine aA fun K2 hK2 => ?_
 refine bF [1, 2] ?_
 refine dM (fR [.agg (aZ rtQ)] (.cons (bV.aggL bOn) .nil) (uA _ rtQ (by decide))) ?_
 refine hK2 _ ?_; clear hK2
 refine aA fun K3 hK3 => ?_
 refine bF [1, 2, 3] ?_
 refine lY (fun g0 => aBo _ (tbT L0) ⟨#[115, 50, 45, 101, 110, 100]⟩) ?_
 refine lY (fun g1 => yZ _ (tbT L0) bAk) ?_
 refine lY (fun g2 => fR [mY (eY (mB rtQ)), mY sQ3] (.cons (bV.refl _) (.cons (bV.litL sQ3 rfl rfl) .nil)) (fU _ (eY (mB rtQ)) sQ3)) ?_
 refine hK3 _ ?_; clear hK3
 refine aL ?_
 refine b6 0 ?_
 refine xb ?_
 ((rw [bUj, aVw, bKy, bOp]; have h := bJd; rw [aVw] at h; simp [h, bOk, show eY (mB rtQ) = sQ3 from bMn]))
theorem aCv (O : aU) : aW Tryz.prog O 10 [] (vb true) := aAa O
def bDz (l : aC) : Bool := decide (l.fSections.length ≤ 60) && decide (l.fElements.length ≤ 60) && decide (l.fJoints.length ≤ 100) && decide (l.fSignals.length ≤ 60) && decide (l.fBalises.length ≤ 60)
theorem bNc {l : aC} (h : bDz l = true) (hok : aAr l) : dX l := by
 unfold bDz at h
 simp only [Bool.and_eq_true, decide_eq_true_eq] at h
 obtain ⟨⟨⟨⟨h1, h2⟩, h3⟩, h4⟩, h5⟩ := h
 obtain ⟨k1, k2, k3, k4, k5, k6⟩ := hok
 refine ⟨h1, h2, h3, h4, h5, fun n hn x hx => ?_⟩
 unfold cE at hn
 simp only [List.mem_cons, List.not_mem_nil, or_false] at hn
 rcases hn with rfl | rfl | rfl | rfl
 ·rw [List.mem_singleton.1 hx]; exact k1
 ·exact k2.1 x hx
 ·obtain ⟨e, he, rfl⟩ := List.mem_map.1 hx; exact (k3.1 e he).1
 obtain ⟨e, he, rfl⟩ := List.mem_map.1 hx; exact (k5.1 e he).1
theorem aGg (O : aU) (l : aC) : aW Tryz.prog O 9 [.agg (aI l)] (vb (bDz l)) := by
 refine aO 0 rfl (.agg (d := dN l.fSections) (by simp [aI]) (.sl _ _ _)) fun hs1 => ?_
 refine aO 0 rfl (.agg (d := f5 l.fElements) (by simp [aI]) (.sl _ _ _)) fun hs2 => ?_
 refine aO 0 rfl (.agg (d := aGd l.fJoints) (by simp [aI]) (.sl _ _ _)) fun hs3 => ?_
 refine aO 0 rfl (.agg (d := gB l.fSignals) (by simp [aI]) (.sl _ _ _)) fun hs4 => ?_
 refine aO 0 rfl (.agg (d := wL l.fBalises) (by simp [aI]) (.sl _ _ _)) fun hs5 => ?_
 refine dT Tryz.func9 ?_
 refine aB [0] ?_
 refine aB [1] ?_
 refine aL ?_
 refine b6 2 ?_
 refine xb ?_
 (first | rfl | (unfold bDz; simp; done))
set_option maxHeartbeats 4000000 in
theorem qK (O : aU) (l : aC) (hok : aAr l) : aW Tryz.prog O 3 [.agg (aI l)] (vb true) := by
 refine dT Tryz.func3 ?_
 refine aB [0] ?_
 refine aA fun K1 hK1 => ?_
 refine aA fun K2 hK2 => ?_
 refine bF [1] ?_
 refine dM (aGg _ l) ?_
 refine hK2 _ ?_; clear hK2
 refine aS (fun c0 => ?_) fun c0 => ?_
 ·refine aA fun K3 hK3 => ?_
  refine bF [] ?_
  refine dM (aCv _) ?_
  refine hK3 _ ?_; clear hK3
  refine aL ?_
  refine b6 2 ?_
  exact xd
 have hF : dX l := bNc (by simpa using c0) hok
 refine aJ ?_
 refine hK1 _ ?_; clear hK1
 refine aA fun K4 hK4 => ?_
 refine bF [1] ?_
 refine dM (qV _ l hF) ?_
 refine hK4 _ ?_; clear hK4
 refine aA fun K5 hK5 => ?_
 refine bF [1, 3, 4] ?_
 refine dM (aAe _ l hF) ?_
 refine hK5 _ ?_; clear hK5
 refine aA fun K6 hK6 => ?_
 refine bF [3, 4, 5, 6] ?_
 refine lY (fun g0 => aCb _ (tbT l) (tbT l)) ?_
 refine lY (fun g1 => aCv _) ?_
 refine hK6 _ ?_; clear hK6
 refine aL ?_
 refine b6 2 ?_
 refine xb ?_
 ((simp [zP]))
end Go.Sg
