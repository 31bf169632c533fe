/- Several texts as one. -/
import Derived.Test.YtnpokifaejcbeaaGreatDoorK15
set_option linter.unusedSectionVars false
set_option linter.unusedVariables false
set_option linter.unusedSimpArgs false
set_option maxRecDepth 20000
namespace Go.Sg
open Go.Proofs
def ovX (r : bE) (h : Hd) (n : Nat) : List DV := [vs r.fName, vi r.fEntry, vi r.fExit, bN r.fPath, cX r.fPoints, b9 r.fSections, vi r.fApproach, vi r.fLength, h.sl n, .v (.slice none 0 0), .v (.slice none 0 0), cX r.fFlank, b9 r.fGuards, jX r.fGaps]
section
variable (r : bE) (h h' : Hd) (n m : Nat)
theorem bHf : (((aZ r).set 8 (.v (.slice none 0 0))).set 9 (.v (.slice none 0 0))).set 10 (.v (.slice none 0 0)) = ovX r eU 0 := rfl
theorem aZj : iA (fun x => x + 100000) (ovX r h n) = ovX r h n := rfl
theorem aZd : (ovX r h n).length = 14 := rfl
theorem bDp : (ovX r h n).getD 8 .any = h.sl n := rfl
theorem aZh : (ovX r h n).set 8 (h'.sl m) = ovX r h' m := rfl
theorem bMm (z k : Nat) (f : Nat → List DV) : (ovX r h n).set 8 (.sl z k f) = [vs r.fName, vi r.fEntry, vi r.fExit, bN r.fPath, cX r.fPoints, b9 r.fSections, vi r.fApproach, vi r.fLength, .sl z k f, .v (.slice none 0 0), .v (.slice none 0 0), cX r.fFlank, b9 r.fGuards, jX r.fGaps] := rfl
theorem aXn : (ovX r h n).take 14 = ovX r h n := rfl
theorem bAd (p : Nat → Bool) : dS p (ovX r h n) = true := rfl
end
abbrev rgO (h : Hd) (o : List bB) : Rg := .row h 85 3 (o.map bJ)
theorem bTl (b : Bool) : PlV (vb b) := .v _
theorem bUp (z : Int) : PlV (vi z) := .v _
theorem bJl {l : aC} {r : bE} (h : (kZ l r).2 = false) : sM l r = ⟨r.fName, r.fEntry, r.fExit, r.fPath, r.fPoints, r.fSections, r.fApproach, r.fLength, [], [], [], r.fFlank, r.fGuards, r.fGaps⟩ := by
 have : vZ l r = [] := by unfold vZ; rw [if_neg (by rw [h]; simp)]
 unfold sM
 rw [this, show oD l [] = [] from aIf l, show dZ l [] = [] from rfl]
theorem Lnd.nil0 {α : Type} [Inhabited α] {rs : List Rg} {z : Nat} (e : α → List DV) : Lnd rs (.v (.slice none 0 0)) (encL z e []) := fun _ _ _ x _ hx => by cases hx; exact .sl0 _ z _ _ _
theorem bJi {rs : List Rg} {h : Hd} {o : List bB} (r : bE) (hm : rgO h o ∈ rs) : Lnd rs (.agg (ovX r h o.length)) (.agg (aZ ⟨r.fName, r.fEntry, r.fExit, r.fPath, r.fPoints, r.fSections, r.fApproach, r.fLength, o, [], [], r.fFlank, r.fGuards, r.fGaps⟩)) :=
 sL.toAgg (.cons (.pure _ rfl) (.cons (.pure _ rfl) (.cons (.pure _ rfl) (.cons (.pure _ rfl) (.cons (.pure _ rfl) (.cons (.pure _ rfl) (.cons (.pure _ rfl) (.cons (.pure _ rfl) (.cons (.row hm (by simp) (bV.frzL bJ o)) (.cons (.nil0 _) (.cons (.nil0 _) (.cons (.pure _ rfl) (.cons (.pure _ rfl) (.cons (.pure _ rfl) .nil))))))))))))))
abbrev rt0 (r : bE) : bE := ⟨r.fName, r.fEntry, r.fExit, r.fPath, r.fPoints, r.fSections, r.fApproach, r.fLength, [], [], [], r.fFlank, r.fGuards, r.fGaps⟩
theorem aXq (r : bE) : mK (ovX r eU 0) (aZ (rt0 r)) := .cons (bV.refl _) (.cons (bV.refl _) (.cons (bV.refl _) (.cons (bV.refl _) (.cons (bV.refl _) (.cons (bV.refl _) (.cons (bV.refl _) (.cons (bV.refl _) (.cons (bV.nilL _) (.cons (bV.nilL _) (.cons (bV.nilL _) (.cons (bV.refl _) (.cons (bV.refl _) (.cons (bV.refl _) .nil)))))))))))))
theorem bGc {rs : List Rg} {h : Hd} {o : List bB} (hm : rgO h o ∈ rs) : Lnd rs (h.sl o.length) (bN o) := .row hm (by simp) (bV.frzL bJ o)
set_option maxHeartbeats 2000000 in
theorem wF (O : aU) (l : aC) (r : bE) (q : List bB) (e : Int) (hq : q.length ≤ 1000) (hbs : r.fSections.length ≤ 1000) : aW Tryz.prog O 95 [.agg (aI l), .agg (aZ r), bN q, vi e] (vb (qG l r.fSections q e)) := by
 refine dT Tryz.func95 ?_
 refine aB [0, 1, 2, 3] ?_
 refine aA fun K1 hK1 => ?_
 refine aB [2, 3, 4, 5] ?_
 refine aK ?_
 refine aX [3, 4, 5, 13, 14, 15] (fun n ρ => ∃ i, n = q.length - i ∧ (i ≤ q.length) ∧ (eG q e = eG (q.drop i) e) ∧ ρ = cU O [(3, vi e), (4, .bx (aI l)), (5, .bx (aZ r)), (13, bN q), (14, vi (q.length : Nat)), (15, vi (i : Nat))]) _ ⟨0, rfl, ?_, ?_, ?_⟩ ?_
 ·exact bD
 ·rfl
 ·exact cD
 rintro n ρ ⟨i, rfl, l0_0, l0_1, rfl⟩ K3 hK3
 refine aB [2, 3, 4, 5, 13, 14, 15] ?_
 refine aA fun K5 hK5 => ?_
 refine aS (fun c0 => ?_) fun c0 => ?_
 ·refine aJ ?_
  refine hK5 _ ?_; clear hK5
  refine aA fun K6 hK6 => ?_
  refine aK ?_
  refine aB [2, 3, 4, 5, 13, 14, 15] ?_
  refine aB [2, 3, 4, 5, 10, 13, 14, 15] ?_
  refine aS (fun c1 => ?_) fun c1 => ?_
  ·refine aB [] ?_
   refine aL ?_
   refine b6 8 ?_
   refine xb ?_
   ((unfold qG; rw [l0_1, bT default c0, o7, decide_eq_true c1]; rfl))
  refine aJ ?_
  refine hK6 _ ?_; clear hK6
  refine bC [2, 3, 4, 5, 13, 14, 15] ?_
  refine hK3 _ _ ?_ ⟨i + 1, rfl, ?_, ?_, ?_⟩
  ·exact bD
  ·exact bD
  ·rw [l0_1, bT default c0, o7, decide_eq_false c1]; rfl
  exact cD
 refine bA ?_
 refine hK1 _ ?_; clear hK1
 refine aA fun K10 hK10 => ?_
 refine aB [3, 4, 5] ?_
 refine aK ?_
 have hne : eG q e = false := (by rw [l0_1, eJ (by omega)]; rfl)
 refine aX [3, 4, 25, 26, 27] (fun n ρ => ∃ j, n = r.fSections.length - j ∧ (j ≤ r.fSections.length) ∧ (r.fSections.contains (bY l e) = (r.fSections.drop j).contains (bY l e)) ∧ ρ = cU O [(3, vi e), (4, .bx (aI l)), (25, b9 r.fSections), (26, vi (r.fSections.length : Nat)), (27, vi (j : Nat))]) _ ⟨0, rfl, ?_, ?_, ?_⟩ ?_
 ·exact bD
 ·rfl
 ·exact cD
 rintro n ρ ⟨j, rfl, l1_0, l1_1, rfl⟩ K12 hK12
 refine aB [3, 4, 5, 24, 25, 26, 27] ?_
 refine aA fun K14 hK14 => ?_
 refine aS (fun c2 => ?_) fun c2 => ?_
 ·refine aJ ?_
  refine hK14 _ ?_; clear hK14
  refine aA fun K15 hK15 => ?_
  refine aK ?_
  refine aB [3, 4, 5, 24, 25, 26, 27] ?_
  refine aA fun K17 hK17 => ?_
  refine bF [3, 4, 5, 12, 24, 25, 26, 27] ?_
  refine dM (gD _ l e) ?_
  refine hK17 _ ?_; clear hK17
  refine aS (fun c3 => ?_) fun c3 => ?_
  ·refine aB [] ?_
   refine aL ?_
   refine b6 8 ?_
   refine xb ?_
   ((unfold qG; rw [hne, l1_1, bT default c2, aHh, decide_eq_true c3]; rfl))
  refine aJ ?_
  refine hK15 _ ?_; clear hK15
  refine bC [3, 4, 5, 24, 25, 26, 27] ?_
  refine hK12 _ _ ?_ ⟨j + 1, rfl, ?_, ?_, ?_⟩
  ·exact bD
  ·exact bD
  ·rw [l1_1, bT default c2, aHh, decide_eq_false c3]; rfl
  exact cD
 refine bA ?_
 refine hK10 _ ?_; clear hK10
 refine aB [] ?_
 refine aL ?_
 refine b6 8 ?_
 refine xb ?_
 ((unfold qG; rw [hne, l1_1, eJ c2]; rfl))
section
attribute [local go_sem] or_self List.length_map List.drop_zero bMm bHf aZj aZd bDp aZh aXn bAd
set_option maxRecDepth 20000 in
set_option maxHeartbeats 8000000 in
theorem aBs (O : aU) (l : aC) (r : bE) (hl : dX l) (hes : kT l = true) (hr : Rtk r) : aW Tryz.prog O 42 [.agg (aI l), .agg (aZ r)] (.agg (aZ (sM l r))) := by
 have hr3 := hr.se
 have hr3b : r.fSections.length ≤ 1000 := by omega
 refine eV Tryz.func42 rfl (by kernel_rfl) fun w0 I0 A0 => ?_
 have hF := jN w0 I0 (b8 A0) (xG [])
 refine a8 hF [0, 1] ?_
 refine a8 hF [2, 3, 4] ?_
 refine a8 hF [2, 3, 4] ?_
 refine a8 hF [2, 3, 4] ?_
 refine aN fun K4 hK4 => ?_
 refine dW hF [2, 3, 4] ?_
 refine dM (fR [.agg (aI l), .agg (aZ (rt0 r))] (.cons (bV.refl _) (.cons (bV.aggL (aXq r)) .nil)) (show aW Tryz.prog _ 94 _ (.tup [.agg (eC (kZ l r).1), vb (kZ l r).2]) from aBf _ l (rt0 r))) ?_
 refine hK4 _ _ ?_; clear hK4
 refine aN fun K5 hK5 => ?_
 refine a8 hF [2, 3, 4, 5, 6] ?_
 refine bU (fun c0 => ?_) fun c0 => ?_
 ·have hex : (kZ l r).2 = false := (by simpa using c0)
  refine aN fun K7 hK7 => ?_
  refine kB 3 (ds := aZ (sM l r)) rfl (by first | rfl | (((try simp only [go_sem, seval]); try simp (disch := omega) only [go_sem, seval]); done) | (((try simp only [go_sem, seval]); try simp (disch := omega) only [go_sem, seval]); rfl)) (by rw [bJl hex]; exact aXq r) ?_
  refine cH hF [3, 4] ?_
  refine hK7 _ _ ?_; clear hK7
  refine cL ?_
  (try simp only [eT, dQ]); refine iK 4 46 rfl (by ((try simp only [go_sem, seval]); try simp (disch := omega) only [go_sem, seval])) (by ((try simp only [go_sem, seval]); try simp (disch := omega) only [go_sem, seval]) <;> rfl) (by kernel_rfl) (by rfl)
 have hex : (kZ l r).2 = true := (by simpa using c0)
 refine bG ?_
 refine hK5 _ _ ?_; clear hK5
 refine aN fun K8 hK8 => ?_
 refine dW hF [2, 3, 4, 5] ?_
 refine dM (gV _ l (kZ l r).1.fAt) ?_
 refine hK8 _ _ ?_; clear hK8
 refine aN fun K9 hK9 => ?_
 refine bI ?_
 refine eL [] [] 85 3 rfl ?_
 refine dB [4, 2, 3, 5, 7, 8] (fun n sF ρ => ∃ o, ∃ a, ∃ h1, n = 12 - o.length ∧ sF = [rgO h1 o] ∧ (o.length ≤ 12) ∧ (vZ l r = ovG l (kZ l r).1.fOverlap r.fSections (12 - o.length) o a) ∧ ρ = cU O [(4, .bx [vs ⟨#[]⟩, vi 0, vi 0, .v (.slice none 0 0), .v (.slice none 0 0), .v (.slice none 0 0), vi 0, vi 0, .v (.slice none 0 0), .v (.slice none 0 0), .v (.slice none 0 0), .v (.slice none 0 0), .v (.slice none 0 0), .v (.slice none 0 0)]), (2, .bx (aI l)), (3, .bx (ovX r h1 o.length)), (5, .bx (eC (kZ l r).1)), (7, .bx (bO a.1)), (8, vb a.2)]) _ ⟨[], aD l (kZ l r).1.fAt, eU, rfl, rfl, ?_, ?_, ?_⟩ ?_
 ·simp
 ·(unfold vZ; rw [if_pos hex]; rfl)
 ·exact cD
 rintro n sF ρ ⟨o, a, h1, rfl, rfl, l0_0, l0_1, rfl⟩ K10 hK10
 refine aN fun K11 hK11 => ?_
 refine aN fun K12 hK12 => ?_
 refine l4 26 [2, 3, 4, 5, 7, 8] [4, 2, 3, 5, 7, 8, 29, 30, 31, 32, 33, 34, 35, 36, 37, 38, 39, 40, 41, 42, 43, 44, 45, 46, 47, 48, 49, 50, 51, 52, 53, 54] [[], [0], [0, 1], [0, 1], [0, 1, 3], [0, 1, 2, 3, 4], [0, 1], [0, 1, 6], [0, 1, 2, 3, 4, 5, 6, 7], [0, 1, 2, 3, 4, 5, 6, 7, 8], [0, 1, 2, 3, 4, 5, 6, 7, 8, 9], [0, 1, 2, 3, 4, 5, 6, 7, 8, 9, 10], [0, 1, 2, 3, 4, 5, 6, 7, 8, 9, 10, 11], [0, 1, 2, 3, 4, 5, 6, 7, 8, 9, 10, 11, 12], [0, 1, 2, 3, 4, 5, 6, 7, 8, 9, 10, 11, 12, 13], [0, 1, 2, 3, 4, 5, 6, 7, 8, 9, 10, 11, 12, 13, 14], [0, 1, 2, 3, 4, 5, 6, 7, 8, 9, 10, 11, 12, 13, 14, 15], [0, 1, 2, 3, 4, 5, 6, 7, 8, 9, 10, 11, 12, 13, 14, 15, 16], [0, 1, 2, 3, 4, 5, 6, 7, 8, 9, 10, 11, 12, 13, 14, 15, 16], [0, 1, 2, 3, 4, 5, 6, 7, 8, 9, 10, 11, 12, 13, 14, 15, 16], [0, 1, 2, 3, 4, 5, 6, 7, 8, 9, 10, 11, 12, 13, 14, 15, 16, 19], [0, 1, 2, 3, 4, 5, 6, 7, 8, 9, 10, 11, 12, 13, 14, 15, 16], [0, 1, 2, 3, 4, 5, 6, 7, 8, 9, 10, 11, 12, 13, 14, 15, 16, 21], [0, 1, 2, 3, 4, 5, 6, 7, 8, 9, 10, 11, 12, 13, 14, 15, 16, 17, 18, 19, 20, 21, 22], [0, 1, 2, 3, 4, 5, 6, 7, 8, 9, 10, 11, 12, 13, 14, 15, 16, 17, 18, 19, 20, 21, 22, 23], [0, 1, 2, 3, 4, 5, 6, 7, 8, 9, 10, 11, 12, 13, 14, 15, 16, 17, 18, 19, 20, 21, 22, 23, 24]] [[], [], [], [], [], [], [], [], [], [], [], [], [], [], [], [], [], [], [], [], [], [], [], [], [], []] (fun (_ : Unit) bQ => cU O [(4, .bx [vs ⟨#[]⟩, vi 0, vi 0, .v (.slice none 0 0), .v (.slice none 0 0), .v (.slice none 0 0), vi 0, vi 0, .v (.slice none 0 0), .v (.slice none 0 0), .v (.slice none 0 0), .v (.slice none 0 0), .v (.slice none 0 0), .v (.slice none 0 0)]), (2, .bx (aI l)), (3, .bx (ovX r h1 o.length)), (5, .bx (eC (kZ l r).1)), (7, .bx (bO a.1)), (8, vb a.2), (29, aV (bQ 0) (vb a.2)), (30, aV (bQ 1) (vb a.2)), (31, aV (bQ 2) (.cond a.2 (.agg (aI l)))), (32, aV (bQ 3) (.cond a.2 (.bp 3 8))), (33, aV (bQ 4) (.cond a.2 (h1.sl o.length))), (34, aV (bQ 5) (.cond a.2 (vi (fL l o)))), (35, aV (bQ 6) (.cond a.2 (.bp 5 3))), (36, aV (bQ 7) (.cond a.2 (vi (kZ l r).1.fOverlap))), (37, aV (bQ 8) (.cond a.2 (vb (decide (fL l o < (kZ l r).1.fOverlap))))), (38, aV (bQ 9) (vb (a.2 && decide (fL l o < (kZ l r).1.fOverlap)))), (39, aV (bQ 10) (vb (a.2 && decide (fL l o < (kZ l r).1.fOverlap)))), (40, aV (bQ 11) (.cond (a.2 && decide (fL l o < (kZ l r).1.fOverlap)) (.bp 3 8))), (41, aV (bQ 12) (.cond (a.2 && decide (fL l o < (kZ l r).1.fOverlap)) (h1.sl o.length))), (42, aV (bQ 13) (.cond (a.2 && decide (fL l o < (kZ l r).1.fOverlap)) (vi (o.length : Nat)))), (43, aV (bQ 14) (.cond (a.2 && decide (fL l o < (kZ l r).1.fOverlap)) (vb (decide ((o.length : Int) < 12))))), (44, aV (bQ 15) (vb ((a.2 && decide (fL l o < (kZ l r).1.fOverlap)) && decide ((o.length : Int) < 12)))), (45, aV (bQ 16) (vb ((a.2 && decide (fL l o < (kZ l r).1.fOverlap)) && decide ((o.length : Int) < 12)))), (46, aV (bQ 17) (.cond ((a.2 && decide (fL l o < (kZ l r).1.fOverlap)) && decide ((o.length : Int) < 12)) (.agg (aI l)))), (47, aV (bQ 18) (.cond ((a.2 && decide (fL l o < (kZ l r).1.fOverlap)) && decide ((o.length : Int) < 12)) (.agg (ovX r h1 o.length)))), (48, aV (bQ 19) (.cond ((a.2 && decide (fL l o < (kZ l r).1.fOverlap)) && decide ((o.length : Int) < 12)) (.bp 3 8))), (49, aV (bQ 20) (.cond ((a.2 && decide (fL l o < (kZ l r).1.fOverlap)) && decide ((o.length : Int) < 12)) (h1.sl o.length))), (50, aV (bQ 21) (.cond ((a.2 && decide (fL l o < (kZ l r).1.fOverlap)) && decide ((o.length : Int) < 12)) (.bp 7 0))), (51, aV (bQ 22) (.cond ((a.2 && decide (fL l o < (kZ l r).1.fOverlap)) && decide ((o.length : Int) < 12)) (vi a.1.fEl))), (52, aV (bQ 23) (.cond ((a.2 && decide (fL l o < (kZ l r).1.fOverlap)) && decide ((o.length : Int) < 12)) (vb (qG l r.fSections o a.1.fEl)))), (53, aV (bQ 24) (.cond ((a.2 && decide (fL l o < (kZ l r).1.fOverlap)) && decide ((o.length : Int) < 12)) (vb (!qG l r.fSections o a.1.fEl)))), (54, aV (bQ 25) (vb (((a.2 && decide (fL l o < (kZ l r).1.fOverlap)) && decide ((o.length : Int) < 12)) && !qG l r.fSections o a.1.fEl)))]) (fun (_ : Unit) bQ => [rgO h1 o]) () hF (fun iQ hiQ oQ hoQ gg bQ hbQ KQ hKQ => ?_) (fun gg => ?_)
 ·match iQ, hiQ with
  | 0, _ | 1, _ | 9, _ | 10, _ | 15, _ | 16, _ | 25, _ =>
   exact mfp hF hoQ hbQ (hKQ ())
  | 2, _ | 3, _ | 4, _ | 6, _ | 7, _ | 8, _ | 11, _ | 12, _ | 13, _ | 14, _ | 17, _ | 18, _ | 19, _ | 20, _ | 21, _ | 22, _ | 24, _ =>
   exact mfg hF hoQ hbQ (hKQ ())
  | 5, _ =>
   obtain rfl := Option.some.inj hoQ
   simp only [oS, hD, iB, List.getD_cons_succ, List.getD_cons_zero, List.getD_nil, and_true, true_and] at hbQ
   show fV _ _ _ _ _ _ _ _
   refine yJ (dd := 34) (g := _) (al := [.agg (aI l), bN o]) rfl rfl rfl (by decide) (by kernel_rfl) (by kernel_rfl) (by ((try simp only [go_sem, seval, hbQ]); try simp (disch := omega) only [go_sem, seval, hbQ]) <;> rfl) rfl (bUp _) (fun hg => ⟨by ((try simp only [go_sem, seval, hbQ]); try simp (disch := omega) only [go_sem, seval, hbQ]) <;> first | exact hg | (simpa using hg), by ((try simp only [go_sem, seval, hbQ]); try simp (disch := omega) only [go_sem, seval, hbQ]) <;> first | exact hg | (simpa using hg), by ((try simp only [go_sem, seval, hbQ]); try simp (disch := omega) only [go_sem, seval, hbQ]) <;> rfl, by kernel_rfl, .cons (.pure _ rfl) (.cons (bGc (by simp)) .nil), pD _ l o hl hes (by omega)⟩) ?_
   try ((try simp only [go_sem, seval, hbQ]); try simp (disch := omega) only [go_sem, seval, hbQ])
   refine hKQ () _ _ ?_ ?_
   ·first | rfl | (((try simp only [go_sem, seval, hbQ]); try simp (disch := omega) only [go_sem, seval, hbQ]); done) | (((try simp only [go_sem, seval, hbQ]); try simp (disch := omega) only [go_sem, seval, hbQ]) <;> rfl)
   ((try simp only [go_sem, seval, hbQ]); try simp (disch := omega) only [go_sem, seval, hbQ]) <;> first | rfl | simp
  | 23, _ =>
   obtain rfl := Option.some.inj hoQ
   simp only [oS, hD, iB, List.getD_cons_succ, List.getD_cons_zero, List.getD_nil, and_true, true_and] at hbQ
   show fV _ _ _ _ _ _ _ _
   refine yJ (dd := 52) (g := _) (al := [.agg (aI l), .agg (aZ (⟨r.fName, r.fEntry, r.fExit, r.fPath, r.fPoints, r.fSections, r.fApproach, r.fLength, o, [], [], r.fFlank, r.fGuards, r.fGaps⟩ : bE)), bN o, vi a.1.fEl]) rfl rfl rfl (by decide) (by kernel_rfl) (by kernel_rfl) (by ((try simp only [go_sem, seval, hbQ]); try simp (disch := omega) only [go_sem, seval, hbQ]) <;> rfl) rfl (bTl _) (fun hg => ⟨by ((try simp only [go_sem, seval, hbQ]); try simp (disch := omega) only [go_sem, seval, hbQ]) <;> first | exact hg | (simpa using hg), by ((try simp only [go_sem, seval, hbQ]); try simp (disch := omega) only [go_sem, seval, hbQ]) <;> first | exact hg | (simpa using hg), by ((try simp only [go_sem, seval, hbQ]); try simp (disch := omega) only [go_sem, seval, hbQ]) <;> rfl, by kernel_rfl, .cons (.pure _ rfl) (.cons (bJi r (by simp)) (.cons (bGc (by simp)) (.cons (.pure _ rfl) .nil))), wF _ l (⟨r.fName, r.fEntry, r.fExit, r.fPath, r.fPoints, r.fSections, r.fApproach, r.fLength, o, [], [], r.fFlank, r.fGuards, r.fGaps⟩ : bE) o a.1.fEl (by omega) hr3b⟩) ?_
   try ((try simp only [go_sem, seval, hbQ]); try simp (disch := omega) only [go_sem, seval, hbQ])
   refine hKQ () _ _ ?_ ?_
   ·first | rfl | (((try simp only [go_sem, seval, hbQ]); try simp (disch := omega) only [go_sem, seval, hbQ]); done) | (((try simp only [go_sem, seval, hbQ]); try simp (disch := omega) only [go_sem, seval, hbQ]) <;> rfl)
   ((try simp only [go_sem, seval, hbQ]); try simp (disch := omega) only [go_sem, seval, hbQ]) <;> first | rfl | simp
 refine lZ ?_
 refine hK12 _ _ ?_; clear hK12
 refine bU (fun c1 => ?_) fun c1 => ?_
 ·have hcc : ((a.2 = true ∧ fL l o < (kZ l r).1.fOverlap) ∧ o.length < 12) ∧ qG l r.fSections o a.1.fEl = false := (by simpa using c1)
  have hc1 := hcc.1
  have hc2 := hcc.2
  obtain ⟨m, hm⟩ : ∃ m, 12 - o.length = m + 1 := ⟨11 - o.length, by omega⟩
  refine bG ?_
  refine hK11 _ _ ?_; clear hK11
  refine bI ?_
  refine aN fun K13 hK13 => ?_
  refine dW hF [2, 3, 4, 5, 7] ?_
  refine dM (m7 _ l a.1 hl) ?_
  refine hK13 _ _ ?_; clear hK13
  refine aN fun K14 hK14 => ?_
  refine a8 hF [2, 3, 4, 5, 7, 9] ?_
  refine bU (fun c2 => ?_) fun c2 => ?_
  ·have hovE : vZ l r = o := (by rw [l0_1, aIe (by rintro ⟨h1, h2, h3⟩; omega)])
   refine dD ?_
   refine hK9 _ _ ?_; clear hK9
   refine aN fun K16 hK16 => ?_
   refine dA (s1 := []) (s2 := []) 3 8 (by first | rfl | (((try simp only [go_sem, seval]); try simp (disch := omega) only [go_sem, seval]); done) | (((try simp only [go_sem, seval]); try simp (disch := omega) only [go_sem, seval]); rfl)) (by first | rfl | (rw [List.length_map]; rfl)) rfl (bV.frzL bJ o) rfl ?_
   refine dW hF [2, 3, 4] ?_
   refine dM (j7 _ l o hl (by omega)) ?_
   refine hK16 _ _ ?_; clear hK16
   refine aN fun K17 hK17 => ?_
   refine dW hF [2, 3, 4] ?_
   refine dM (iF _ l o hl (by omega)) ?_
   refine hK17 _ _ ?_; clear hK17
   refine a8 hF [3, 4] ?_
   refine cL ?_
   (try simp only [eT, dQ]); refine iK 4 46 rfl (by ((try simp only [go_sem, seval]); try simp (disch := omega) only [go_sem, seval])) (by ((try simp only [go_sem, seval]); try simp (disch := omega) only [go_sem, seval]) <;> first | rfl | (simp only [sM, hovE]; done) | (simp only [sM, hovE]; rfl)) (by kernel_rfl) (by rfl)
  have hc3 : (cS l a.1).length ≠ 0 := (by omega)
  refine bG ?_
  refine hK14 _ _ ?_; clear hK14
  refine aN fun K19 hK19 => ?_
  refine l4 9 [2, 3, 4, 5, 7, 9] [4, 2, 5, 7, 9, 61, 63, 64, 65, 66, 67, 68, 3, 62] [[], [0], [], [2], [2, 3], [2, 3, 4], [0, 1, 2, 3, 4, 5], [0, 1, 2, 3, 4, 5, 6], [0, 1, 2, 3, 4, 5, 6, 7]] [[1, 6, 8], [6, 8], [6, 8], [6, 8], [6, 8], [6, 8], [8], [8], []] (fun (hx : Hd) bQ => cU O [(4, .bx [vs ⟨#[]⟩, vi 0, vi 0, .v (.slice none 0 0), .v (.slice none 0 0), .v (.slice none 0 0), vi 0, vi 0, .v (.slice none 0 0), .v (.slice none 0 0), .v (.slice none 0 0), .v (.slice none 0 0), .v (.slice none 0 0), .v (.slice none 0 0)]), (2, .bx (aI l)), (5, .bx (eC (kZ l r).1)), (7, .bx (bO a.1)), (9, bN (cS l a.1)), (61, aV (bQ 0) (.bp 3 8)), (63, aV (bQ 2) (bN (cS l a.1))), (64, aV (bQ 3) (.dp (bJ ((cS l a.1).getD 0 default)))), (65, aV (bQ 4) (.agg (bJ ((cS l a.1).getD 0 default)))), (66, aV (bQ 5) (.sl 3 1 (fun i_ => [bJ ((cS l a.1).getD 0 default)].getD i_ []))), (67, aV (bQ 6) (hx.sl (o ++ [((cS l a.1).getD 0 default)]).length)), (68, aV (bQ 7) (.bp 3 8)), (3, hU (bQ 8) true (.bx (ovX r hx (o ++ [((cS l a.1).getD 0 default)]).length)) (.bx (ovX r h1 o.length))), (62, (cond (bQ 6) (.any) (cond (bQ 1) (h1.sl o.length) (.any))))]) (fun (hx : Hd) bQ => (cond (bQ 6) [rgO hx (o ++ [((cS l a.1).getD 0 default)])] [rgO h1 o])) ⟨none, none, 0⟩ hF (fun iQ hiQ oQ hoQ hx bQ hbQ KQ hKQ => ?_) (fun hx => ?_)
  ·match iQ, hiQ with
   | 0, _ | 1, _ | 2, _ | 3, _ | 4, _ | 5, _ | 7, _ | 8, _ =>
    exact mfp hF hoQ hbQ (hKQ hx)
   | 6, _ =>
    obtain rfl := Option.some.inj hoQ
    simp only [oS, hD, iB, List.getD_cons_succ, List.getD_cons_zero, List.getD_nil, and_true, true_and] at hbQ
    rw [hbQ.1]
    simp only [cond_false]
    show fV _ _ _ _ _ _ _ _
    refine dO (s1 := []) (s2 := []) 62 (by decide) (by ((try simp only [go_sem, seval, hbQ]); try simp (disch := omega) only [go_sem, seval, hbQ]) <;> rfl) rfl ?_
    refine gM [] [] 85 3 ((o ++ [((cS l a.1).getD 0 default)]).map bJ) 67 (by decide) ?_
    show fV _ _ _ _ _ _ _ _
    refine dY hF ?_
    refine cM rfl (by kernel_rfl) (by kernel_rfl) ?_
    ((try simp only [go_sem, seval, hbQ]); try simp (disch := omega) only [go_sem, seval, hbQ])
    repeat refine And.intro bS ?_
    refine ⟨rfl, by ((try simp only [go_sem, seval, hbQ]); try simp (disch := omega) only [go_sem, seval, hbQ]) <;> (first | rfl | (simp; done) | (simp; rfl)), fun hx => ?_⟩
    try ((try simp only [go_sem, seval, hbQ]); try simp (disch := omega) only [go_sem, seval, hbQ])
    refine hKQ hx _ _ ?_ ?_
    ·first | rfl | (((try simp only [go_sem, seval, hbQ]); try simp (disch := omega) only [go_sem, seval, hbQ]); done) | (((try simp only [go_sem, seval, hbQ]); try simp (disch := omega) only [go_sem, seval, hbQ]) <;> rfl)
    ((try simp only [go_sem, seval, hbQ]); try simp (disch := omega) only [go_sem, seval, hbQ]) <;> first | rfl | simp
  refine lZ ?_
  refine hK19 _ _ ?_; clear hK19
  refine l4 10 [2, 3, 4, 5, 7, 9] [4, 2, 3, 5, 9, 70, 71, 72, 73, 74, 69, 75, 76, 8, 7] [[], [], [1], [1, 2], [0, 1, 2, 3], [0, 1, 2, 3, 4], [0, 1, 2, 3, 4, 5], [0, 1, 2, 3, 4, 5], [0, 1, 2, 3, 4, 5, 6], [0, 1, 2, 3, 4, 5, 6, 7, 8]] [[8], [8], [8], [8], [8], [8], [8], [], [], []] (fun (_ : Unit) bQ => cU O [(4, .bx [vs ⟨#[]⟩, vi 0, vi 0, .v (.slice none 0 0), .v (.slice none 0 0), .v (.slice none 0 0), vi 0, vi 0, .v (.slice none 0 0), .v (.slice none 0 0), .v (.slice none 0 0), .v (.slice none 0 0), .v (.slice none 0 0), .v (.slice none 0 0)]), (2, .bx (aI l)), (3, .bx (ovX r hx (o ++ [((cS l a.1).getD 0 default)]).length)), (5, .bx (eC (kZ l r).1)), (9, bN (cS l a.1)), (70, aV (bQ 0) (.agg (aI l))), (71, aV (bQ 1) (bN (cS l a.1))), (72, aV (bQ 2) (.dp (bJ ((cS l a.1).getD 0 default)))), (73, aV (bQ 3) (.agg (bJ ((cS l a.1).getD 0 default)))), (74, aV (bQ 4) (.tup [.agg (bO (bP l ((cS l a.1).getD 0 default)).1), vb (bP l ((cS l a.1).getD 0 default)).2])), (69, aV (bQ 5) (.tup [.agg (bO (bP l ((cS l a.1).getD 0 default)).1), vb (bP l ((cS l a.1).getD 0 default)).2])), (75, aV (bQ 6) (.agg (bO (bP l ((cS l a.1).getD 0 default)).1))), (76, aV (bQ 7) (vb (bP l ((cS l a.1).getD 0 default)).2)), (8, aV (bQ 9) (vb (bP l ((cS l a.1).getD 0 default)).2)), (7, hU (bQ 8) true (.bx (bO (bP l ((cS l a.1).getD 0 default)).1)) (.bx (bO a.1)))]) (fun (_ : Unit) bQ => [rgO hx (o ++ [((cS l a.1).getD 0 default)])]) () hF (fun iQ hiQ oQ hoQ gg bQ hbQ KQ hKQ => ?_) (fun gg => ?_)
  ·match iQ, hiQ with
   | 0, _ | 1, _ | 2, _ | 3, _ | 5, _ | 6, _ | 7, _ | 8, _ | 9, _ =>
    exact mfp hF hoQ hbQ (hKQ ())
   | 4, _ =>
    exact mfc hF hoQ hbQ (hKQ ()) (kX _ l ((cS l a.1).getD 0 default))
  refine lZ ?_
  refine hK10 _ _ _ ?_ ⟨o ++ [((cS l a.1).getD 0 default)], bP l ((cS l a.1).getD 0 default), hx, rfl, rfl, ?_, ?_, ?_⟩
  ·simp; omega
  ·simp; omega
  ·rw [l0_1, hm, bFu ⟨hc1, hc2, hc3⟩]; congr 1; simp; omega
  exact cD
 have hovE : vZ l r = o := (by rw [l0_1, aIe (by rintro ⟨⟨⟨h1, h2⟩, h3⟩, h4, h5⟩; have h2b := decide_eq_true h2; have h3b := decide_eq_true (show ((o.length : Int) < 12) by omega); simp [h1, h4, h2, h3] at c1; omega)])
 refine dD ?_
 refine hK9 _ _ ?_; clear hK9
 refine aN fun K20 hK20 => ?_
 refine dA (s1 := []) (s2 := []) 3 8 (by first | rfl | (((try simp only [go_sem, seval]); try simp (disch := omega) only [go_sem, seval]); done) | (((try simp only [go_sem, seval]); try simp (disch := omega) only [go_sem, seval]); rfl)) (by first | rfl | (rw [List.length_map]; rfl)) rfl (bV.frzL bJ o) rfl ?_
 refine dW hF [2, 3, 4] ?_
 refine dM (j7 _ l o hl (by omega)) ?_
 refine hK20 _ _ ?_; clear hK20
 refine aN fun K21 hK21 => ?_
 refine dW hF [2, 3, 4] ?_
 refine dM (iF _ l o hl (by omega)) ?_
 refine hK21 _ _ ?_; clear hK21
 refine a8 hF [3, 4] ?_
 refine cL ?_
 (try simp only [eT, dQ]); refine iK 4 46 rfl (by ((try simp only [go_sem, seval]); try simp (disch := omega) only [go_sem, seval])) (by ((try simp only [go_sem, seval]); try simp (disch := omega) only [go_sem, seval]) <;> first | rfl | (simp only [sM, hovE]; done) | (simp only [sM, hovE]; rfl)) (by kernel_rfl) (by rfl)
end
section
variable (O : aU) (l : aC) (r : bE) (e : cC)
def jY : aU := cU O [(3, .bx (aI l)), (4, .bx (aZ r)), (5, .bx (bO e)), (6, .bx [vi 0, vi 0]), (7, .bx [vi 0]), (8, .bx [vb false])]
def aMd : aU := cU (jY O l r e) [(3, .bp 100003 0), (4, .bp 100004 0), (5, .bp 100005 0), (6, .bp 100006 0), (7, .bp 100007 0), (8, .bp 100008 0)]
theorem aNf (s : Nat) : aMd O l r e (s + 100000) = sh (jY O l r e s) := by
 show cU (jY O l r e) _ (s + 100000) = _
 repeat rw [uI, aT, if_neg (by omega)]
 rw [xW, bX]
theorem aNa (i : Nat) (hi' : i < 100000) : aMd O l r e i = .any ∨ (i < Tryz.f79.ntmps ∧ (∃ cs, jY O l r e i = .bx cs) ∧ aMd O l r e i = .bp (i + 100000) 0) := by
 by_cases h : i = 3 ∨ i = 4 ∨ i = 5 ∨ i = 6 ∨ i = 7 ∨ i = 8
 ·right
  rcases h with rfl | rfl | rfl | rfl | rfl | rfl <;> exact ⟨by decide, ⟨_, rfl⟩, rfl⟩
 left
 show cU (jY O l r e) _ i = _
 repeat rw [uI, aT, if_neg (by omega)]
 rw [xW]; exact l9 _ hi'
theorem yB : hi (jY O l r e) = bW O := by
 unfold jY
 repeat rw [uI, y0 _ _ (by omega)]
 rw [xW, aJj]
end
theorem aVz {P : Program} {nt : Nat} {c : Code} {Q : Exit → aU → Prop} {ρ : aU} (h : ∀ Q', (∀ e ρ, Q e ρ → Q' e ρ) → AW P nt c Q' ρ) : AW P nt c Q ρ := h Q fun _ _ h => h
theorem aNt {ρ : aU} {s : Nat} {x : DV} (h : ρ s = x) : set ρ s x = ρ := by
 funext i; rw [aT]; split
 ·rename_i e; rw [e, h]
 rfl
theorem aZt {P : Program} {ρ : aU} {a : Nat} {t : TypeId} {c : DV} (h : ρ a = .bx [c]) (hl : eZ P t = some none) (hs : sh c = c) : aBl P ρ (.cell a t) c := ⟨[c], h, .inr ⟨hl, c, rfl, by rw [hs]; exact bV.refl _⟩⟩
theorem aDl {o : Oper} (hop : o.op = .binOp .neq 20 (.tmp 3) (.const .nilIface) 20) (a : Act) (w : World) (u : TypeId) (v : Value) (h : a.eval (.tmp 3) = .iface u v) : (execOp a.eval o).run Tryz.prog w = .ok (.value (.bool true)) w := by
 have h2 : a.eval (.const .nilIface) = .nilIface := rfl
 have h3 : (eqGuard .neq 20 (.tmp 3) (.const .nilIface) (.iface u v) .nilIface).run Tryz.prog w = .ok () w := rfl
 have h4 : (binOp .neq 20 (.iface u v) .nilIface).run Tryz.prog w = .ok (.bool true) w := rfl
 simp [execOp, hop, h, h2, h3, h4]
theorem aCo {o : Oper} (hop : o.op = .binOp .neq 20 (.tmp 3) (.const .nilIface) 20) (a : Act) (w : World) (h : a.eval (.tmp 3) = .nilIface) : (execOp a.eval o).run Tryz.prog w = .ok (.value (.bool false)) w := by
 have h2 : a.eval (.const .nilIface) = .nilIface := rfl
 have h3 : (eqGuard .neq 20 (.tmp 3) (.const .nilIface) .nilIface .nilIface).run Tryz.prog w = .ok () w := rfl
 have h4 : (binOp .neq 20 .nilIface .nilIface).run Tryz.prog w = .ok (.bool false) w := rfl
 simp [execOp, hop, h, h2, h3, h4]
section
attribute [local go_sem] mS xY
set_option maxHeartbeats 4000000 in
theorem xE (O : aU) (l : aC) (r : bE) (e : cC) (hl : dX l) : aW Tryz.prog O 79 [.agg (aI l), .agg (aZ r), .agg (bO e)] (.tup [.agg (aY (prT (pK l r 4 e)).1), vi (prT (pK l r 4 e)).2.1, vb (prT (pK l r 4 e)).2.2]) := by
 have hp := fun O => rZ O l r e hl
 have q3 : bW (jY O l r e) 100003 = .bx (aI l) := rfl
 have q4 : bW (jY O l r e) 100004 = .bx (aZ r) := rfl
 have q5 : bW (jY O l r e) 100005 = .bx (bO e) := rfl
 have q6 : bW (jY O l r e) 100006 = .bx [vi 0, vi 0] := rfl
 have q7 : bW (jY O l r e) 100007 = .bx [vi 0] := rfl
 have q8 : bW (jY O l r e) 100008 = .bx [vb false] := rfl
 cases hg : pK l r 4 e with
 | none =>
  rw [hg] at hp
  refine uB (ρ1 := jY O l r e) (ρ2 := aMd O l r e) (x6 := [vi 0, vi 0]) (x7 := [vi 0]) (x8 := [vb false]) (y6 := [vi 0, vi 0]) (y7 := [vi (-1)]) (y8 := [vb false]) Tryz.func79 rfl (by kernel_rfl) rfl rfl rfl rfl rfl rfl Tryz.func125 rfl rfl rfl (by kernel_rfl) rfl rfl rfl rfl rfl (aDl rfl) (aCo rfl) ?_ (yB O l r e) ⟨_, rfl⟩ ⟨_, rfl⟩ ⟨_, rfl⟩ (aNa O l r e) (aNf O l r e) rfl rfl rfl rfl ?_ ?_
  ·refine a7 [0, 1, 2] (by kernel_rfl) ?_
   refine lZ ?_
   refine Le.trans (Le.keepC [3, 4, 5, 6, 7, 8] _) ?_
   have hle : ∀ ρ' : aU, ρ' = jY O l r e → Le ρ' (jY O l r e) := fun _ h => h ▸ Le.refl _
   refine hle _ ?_
   unfold jY
   simp (disch := omega) only [go_sem, seval] <;> rfl
  ·refine aVz fun Q' hQ' => ?_
   refine aA fun K hK => ?_
   unfold aMd
   refine kR ?_
   show wI _ _ _ _ _ _ _
   refine iJ ?_
   refine cM rfl (by kernel_rfl) (by kernel_rfl) ?_
   simp (disch := omega) only [go_sem, seval, q3, q4, q5, q6, q7, q8]
   repeat refine And.intro bS ?_
   show wI _ _ _ _ _ _ _
   refine iJ ?_
   refine cM rfl (by kernel_rfl) (by kernel_rfl) ?_
   simp (disch := omega) only [go_sem, seval, q3, q4, q5, q6, q7, q8]
   repeat refine And.intro bS ?_
   show wI _ _ _ _ _ _ _
   refine iJ ?_
   refine cM rfl (by kernel_rfl) (by kernel_rfl) ?_
   simp (disch := omega) only [go_sem, seval, q3, q4, q5, q6, q7, q8]
   repeat refine And.intro bS ?_
   show wI _ _ _ _ _ _ _
   refine aCj rfl rfl rfl (by decide) (by kernel_rfl) (by simp (disch := omega) only [go_sem, seval, q3, q4, q5, q6, q7, q8]) (by simp (disch := omega) only [go_sem, seval, q3, q4, q5, q6, q7, q8]) (by simp (disch := omega) only [go_sem, seval, q3, q4, q5, q6, q7, q8] <;> rfl) (by kernel_rfl) (hp _) ?_
   intro tP vP
   change Q' _ _
   refine hQ' _ _ ?_
   refine ⟨jY O l r e, fun s => ?_, yB O l r e, by simp (disch := omega) only [go_sem, seval, q3, q4, q5, q6, q7, q8], by simp (disch := omega) only [go_sem, seval, q3, q4, q5, q6, q7, q8], by simp (disch := omega) only [go_sem, seval, q3, q4, q5, q6, q7, q8], rfl, rfl, rfl, .inr ⟨⟨tP, vP, rfl⟩, rfl, rfl, rfl, ?_⟩⟩
   ·repeat rw [aT, if_neg (by omega)]
    rw [bX]
   exact ⟨_, rfl, rfl, (RO.cons (sJ rfl rfl (by kernel_rfl) rfl) (.cons (aZt rfl (by kernel_rfl) rfl) (.cons (aZt rfl (by kernel_rfl) rfl) .nil)) : RO Tryz.prog _ [.cell 6 68, .cell 7 3, .cell 8 4] _).get⟩
  intro O2 h6 h7 h8
  have r6 : bW O2 100006 = .bx [vi 0, vi 0] := by rw [show (100006 : Nat) = 6 + 100000 from rfl, bX, h6]; rfl
  have r7 : bW O2 100007 = .bx [vi 0] := by rw [show (100007 : Nat) = 7 + 100000 from rfl, bX, h7]; rfl
  have r8 : bW O2 100008 = .bx [vb false] := by rw [show (100008 : Nat) = 8 + 100000 from rfl, bX, h8]; rfl
  refine a7 [0, 1, 2] (by kernel_rfl) ?_
  simp (disch := omega) only [go_sem, seval, seval, r6, r7, r8]
  repeat refine And.intro bS ?_
  intro s
  unfold xQ
  rw [aT, aT, aT]
  split
  ·rfl
  split
  ·rfl
  split
  ·rfl
  exact bX _ _
 | some p =>
  rw [hg] at hp
  simp only [Option.map_some, prV] at hp
  refine uB (ρ1 := jY O l r e) (ρ2 := aMd O l r e) (x6 := aY p.1) (x7 := [vi p.2]) (x8 := [vb true]) (y6 := [vi 0, vi 0]) (y7 := [vi (-1)]) (y8 := [vb false]) Tryz.func79 rfl (by kernel_rfl) rfl rfl rfl rfl rfl rfl Tryz.func125 rfl rfl rfl (by kernel_rfl) rfl rfl rfl rfl rfl (aDl rfl) (aCo rfl) ?_ (yB O l r e) ⟨_, rfl⟩ ⟨_, rfl⟩ ⟨_, rfl⟩ (aNa O l r e) (aNf O l r e) rfl rfl rfl rfl ?_ ?_
  ·refine a7 [0, 1, 2] (by kernel_rfl) ?_
   refine lZ ?_
   refine Le.trans (Le.keepC [3, 4, 5, 6, 7, 8] _) ?_
   have hle : ∀ ρ' : aU, ρ' = jY O l r e → Le ρ' (jY O l r e) := fun _ h => h ▸ Le.refl _
   refine hle _ ?_
   unfold jY
   simp (disch := omega) only [go_sem, seval] <;> rfl
  ·refine aVz fun Q' hQ' => ?_
   unfold aMd
   refine x4 [3, 4, 5, 6, 7, 8] (fun ρ => ρ = cU (set (set (jY O l r e) 6 (.bx (aY p.1))) 7 (.bx [vi p.2])) [(3, .bp 100003 0), (4, .bp 100004 0), (5, .bp 100005 0), (6, .bp 100006 0), (7, .bp 100007 0), (8, .bp 100008 0)]) (fun K hK => ?_) ?_
   ·refine a7 [3, 4, 5, 6, 7, 8] (by kernel_rfl) ?_
    simp (disch := omega) only [go_sem, seval, q3, q4, q5, q6, q7, q8]
    repeat refine And.intro bS ?_
    refine gE _ (wV.pcall (hp _)) ?_
    simp (disch := omega) only [go_sem, seval, q3, q4, q5, q6, q7, q8]
    repeat refine And.intro bS ?_
    refine hK _ ?_
    simp (disch := omega) only [go_sem, seval, q3, q4, q5, q6, q7, q8] <;> first | rfl | simp
   rintro ρ rfl
   have hX : hi (set (set (jY O l r e) 6 (.bx (aY p.1))) 7 (.bx [vi p.2])) = bW O := by rw [y0 _ _ (by omega), y0 _ _ (by omega), yB]
   have v6 : bW (set (set (jY O l r e) 6 (.bx (aY p.1))) 7 (.bx [vi p.2])) 100006 = .bx (aY p.1) := rfl
   have v7 : bW (set (set (jY O l r e) 6 (.bx (aY p.1))) 7 (.bx [vi p.2])) 100007 = .bx [vi p.2] := rfl
   have v8 : bW (set (set (jY O l r e) 6 (.bx (aY p.1))) 7 (.bx [vi p.2])) 100008 = .bx [vb false] := rfl
   have x6 : (set (set (jY O l r e) 6 (.bx (aY p.1))) 7 (.bx [vi p.2])) 6 = .bx (aY p.1) := rfl
   have x7 : (set (set (jY O l r e) 6 (.bx (aY p.1))) 7 (.bx [vi p.2])) 7 = .bx [vi p.2] := rfl
   generalize set (set (jY O l r e) 6 (.bx (aY p.1))) 7 (.bx [vi p.2]) = X at *
   have w6 : set (bW X) 100006 (.bx [vi p.1.fEl, vi p.1.fPos]) = bW X := aNt v6
   have w7 : set (bW X) 100007 (.bx [vi p.2]) = bW X := aNt v7
   refine aA fun K hK => ?_
   refine aJd [3, 4, 5, 6, 7, 8] [] [] fK (by kernel_rfl) (fun Y hY hYm hY0 => ?_)
   have tT : ∀ ρ, keepC [3, 4, 5, 6, 7, 8, 17, 18] ρ = cU (set X 8 (.bx [vb true])) [(3, .bp 100003 0), (4, .bp 100004 0), (5, .bp 100005 0), (6, .bp 100006 0), (7, .bp 100007 0), (8, .bp 100008 0), (17, .agg (aY p.1)), (18, vi p.2)] → Y 0 #[true, true, true, true, true] ρ := by
    intro ρ hρ
    refine hY0 _ [3, 4, 5, 6, 7, 8, 17, 18] _ (by kernel_rfl) ?_
    rw [hρ]
    clear hY hYm hY0 hρ
    simp (disch := omega) only [go_sem, seval, cond_true, cond_false, v6, v7, v8, w6, w7]
    refine hK _ ?_; clear hK
    refine aL ?_
    refine hQ' _ _ ?_
    refine ⟨set X 8 (.bx [vb true]), fun s => ?_, by rw [y0 _ _ (by omega)]; exact hX, by simp (disch := omega) only [go_sem, seval, cond_true, cond_false, v6, v7, v8, w6, w7], by simp (disch := omega) only [go_sem, seval, cond_true, cond_false, v6, v7, v8, w6, w7], by simp (disch := omega) only [go_sem, seval, cond_true, cond_false, v6, v7, v8, w6, w7], by rw [aT, if_neg (by omega)]; exact x6, by rw [aT, if_neg (by omega)]; exact x7, by rw [aT, if_pos rfl], .inl ⟨rfl, ?_⟩⟩
    ·simp (disch := omega) only [go_sem, seval, cond_true, cond_false, v6, v7, v8, w6, w7]
     split
     ·rfl
     exact bX _ _
    have y6 : m5 (set X 8 (.bx [vb true])) 6 = .bx (aY p.1) := by unfold m5; rw [if_pos (by omega), if_pos (by omega), aT, if_neg (by omega)]; exact x6
    have y7 : m5 (set X 8 (.bx [vb true])) 7 = .bx [vi p.2] := by unfold m5; rw [if_pos (by omega), if_pos (by omega), aT, if_neg (by omega)]; exact x7
    have y8 : m5 (set X 8 (.bx [vb true])) 8 = .bx [vb true] := by unfold m5; rw [if_pos (by omega), if_pos (by omega), aT, if_pos rfl]
    exact ⟨_, rfl, rfl, (RO.cons (sJ y6 rfl (by kernel_rfl) rfl) (.cons (aZt y7 (by kernel_rfl) rfl) (.cons (aZt y8 (by kernel_rfl) rfl) .nil)) : RO Tryz.prog _ [.cell 6 68, .cell 7 3, .cell 8 4] _).get⟩
   have main : ∀ (m : Nat) (b0 b1 b2 b3 b4 : Bool), cB b0 + cB b1 + cB b2 + cB b3 + cB b4 = m → (b4 = true → b3 = true) → (b3 = true → b2 = true) → (b2 = true → b0 = true) → (b3 = true → b1 = true) → (b4 = true → b2 = true) → (b4 = true → b1 = true) → (b4 = true → b0 = true) → (b3 = true → b0 = true) → ∀ ρ, keepC [3, 4, 5, 6, 7, 8, 17, 18] ρ = cU (bif b4 then (set X 8 (.bx [vb true])) else X) [(3, .bp 100003 0), (4, .bp 100004 0), (5, .bp 100005 0), (6, .bp 100006 0), (7, .bp 100007 0), (8, .bp 100008 0), (17, aV b0 (.agg (aY p.1))), (18, aV b1 (vi p.2))] → Y m #[b0, b1, b2, b3, b4] ρ := by
    intro m
    induction m with
    | zero =>
     intro b0 b1 b2 b3 b4 hm m4_3 m3_2 m2_0 m3_1 m4_2 m4_1 m4_0 m3_0 ρ hρ
     have hc : ∀ b, cB b = 0 → b = true := fun b h => by cases b; cases h; rfl
     have e0 : b0 = true := hc b0 (by omega)
     have e1 : b1 = true := hc b1 (by omega)
     have e2 : b2 = true := hc b2 (by omega)
     have e3 : b3 = true := hc b3 (by omega)
     have e4 : b4 = true := hc b4 (by omega)
     subst e0 e1 e2 e3 e4
     refine tT ρ (hρ.trans ?_)
     simp only [aDh, aCm, cond_true]
    | succ m ih =>
     intro b0 b1 b2 b3 b4 hm m4_3 m3_2 m2_0 m3_1 m4_2 m4_1 m4_0 m3_0 ρ hρ
     have hex : ∃ i, i < 5 ∧ #[b0, b1, b2, b3, b4].getD i true = false := by
      clear ih hρ tT hY hYm hY0
      cases b0
      ·exact ⟨0, by omega, rfl⟩
      cases b1
      ·exact ⟨1, by omega, rfl⟩
      cases b2
      ·exact ⟨2, by omega, rfl⟩
      cases b3
      ·exact ⟨3, by omega, rfl⟩
      cases b4
      ·exact ⟨4, by omega, rfl⟩
      exact absurd hm (by simp [cB])
     refine hYm m _ [3, 4, 5, 6, 7, 8, 17, 18] _ (by kernel_rfl) rfl hex ?_
     clear hY hYm hY0 tT hex
     intro iQ oQ hun hoQ hdep
     have hiQ : iQ < 5 := (List.getElem?_eq_some_iff.1 hoQ).1
     match iQ, hiQ with
     | 0, _ =>
      obtain rfl : b0 = false := hun
      obtain rfl := Option.some.inj hoQ
      have n2 : b2 = false := by cases hc : b2 with
       | false => rfl
       | true => exact absurd (m2_0 hc) (by decide)
      subst n2
      have n4 : b4 = false := by cases hc : b4 with
       | false => rfl
       | true => exact absurd (m4_0 hc) (by decide)
      subst n4
      have n3 : b3 = false := by cases hc : b3 with
       | false => rfl
       | true => exact absurd (m3_0 hc) (by decide)
      subst n3
      clear hdep
      rw [hρ]
      show qC _ _ _ false _ _
      simp (disch := omega) only [go_sem, seval, cond_true, cond_false, v6, v7, v8, w6, w7]
      repeat refine And.intro bS ?_
      refine ih true b1 false false false ?_ (fun h => by cases h) (fun h => by cases h) (fun h => by cases h) (fun h => by cases h) (fun h => by cases h) (fun h => by cases h) (fun h => by cases h) (fun h => by cases h) _ ?_
      ·simp only [cB, cond_true, cond_false] at hm ⊢; omega
      simp (disch := omega) only [go_sem, seval, cond_true, cond_false, v6, v7, v8, w6, w7] <;> first | rfl | simp
     | 1, _ =>
      obtain rfl : b1 = false := hun
      obtain rfl := Option.some.inj hoQ
      have n3 : b3 = false := by cases hc : b3 with
       | false => rfl
       | true => exact absurd (m3_1 hc) (by decide)
      subst n3
      have n4 : b4 = false := by cases hc : b4 with
       | false => rfl
       | true => exact absurd (m4_1 hc) (by decide)
      subst n4
      clear hdep
      rw [hρ]
      show qC _ _ _ false _ _
      simp (disch := omega) only [go_sem, seval, cond_true, cond_false, v6, v7, v8, w6, w7]
      repeat refine And.intro bS ?_
      refine ih b0 true b2 false false ?_ (fun h => by cases h) (fun h => by cases h) m2_0 (fun h => by cases h) (fun h => by cases h) (fun h => by cases h) (fun h => by cases h) (fun h => by cases h) _ ?_
      ·simp only [cB, cond_true, cond_false] at hm ⊢; omega
      simp (disch := omega) only [go_sem, seval, cond_true, cond_false, v6, v7, v8, w6, w7] <;> first | rfl | simp
     | 2, _ =>
      obtain rfl : b2 = false := hun
      obtain rfl := Option.some.inj hoQ
      have e0 : b0 = true := by first | (refine hdep ⟨0, .data⟩ ?_ rfl; simp; done) | (refine hdep ⟨0, .phase⟩ ?_ rfl; simp; done) | (refine hdep ⟨0, .chain⟩ ?_ rfl; simp; done)
      subst e0
      have n3 : b3 = false := by cases hc : b3 with
       | false => rfl
       | true => exact absurd (m3_2 hc) (by decide)
      subst n3
      have n4 : b4 = false := by cases hc : b4 with
       | false => rfl
       | true => exact absurd (m4_2 hc) (by decide)
      subst n4
      clear hdep
      rw [hρ]
      show qC _ _ _ false _ _
      simp (disch := omega) only [go_sem, seval, cond_true, cond_false, v6, v7, v8, w6, w7]
      repeat refine And.intro bS ?_
      refine ih true b1 true false false ?_ (fun h => by cases h) (fun h => by cases h) (fun _ => rfl) (fun h => by cases h) (fun h => by cases h) (fun h => by cases h) (fun h => by cases h) (fun h => by cases h) _ ?_
      ·simp only [cB, cond_true, cond_false] at hm ⊢; omega
      simp (disch := omega) only [go_sem, seval, cond_true, cond_false, v6, v7, v8, w6, w7] <;> first | rfl | simp
     | 3, _ =>
      obtain rfl : b3 = false := hun
      obtain rfl := Option.some.inj hoQ
      have e0 : b0 = true := by first | (refine hdep ⟨0, .data⟩ ?_ rfl; simp; done) | (refine hdep ⟨0, .phase⟩ ?_ rfl; simp; done) | (refine hdep ⟨0, .chain⟩ ?_ rfl; simp; done)
      have e1 : b1 = true := by first | (refine hdep ⟨1, .data⟩ ?_ rfl; simp; done) | (refine hdep ⟨1, .phase⟩ ?_ rfl; simp; done) | (refine hdep ⟨1, .chain⟩ ?_ rfl; simp; done)
      have e2 : b2 = true := by first | (refine hdep ⟨2, .data⟩ ?_ rfl; simp; done) | (refine hdep ⟨2, .phase⟩ ?_ rfl; simp; done) | (refine hdep ⟨2, .chain⟩ ?_ rfl; simp; done)
      subst e0 e1 e2
      have n4 : b4 = false := by cases hc : b4 with
       | false => rfl
       | true => exact absurd (m4_3 hc) (by decide)
      subst n4
      clear hdep
      rw [hρ]
      show qC _ _ _ false _ _
      simp (disch := omega) only [go_sem, seval, cond_true, cond_false, v6, v7, v8, w6, w7]
      repeat refine And.intro bS ?_
      refine ih true true true true false ?_ (fun h => by cases h) (fun _ => rfl) (fun _ => rfl) (fun _ => rfl) (fun h => by cases h) (fun h => by cases h) (fun h => by cases h) (fun _ => rfl) _ ?_
      ·simp only [cB, cond_true, cond_false] at hm ⊢; omega
      simp (disch := omega) only [go_sem, seval, cond_true, cond_false, v6, v7, v8, w6, w7] <;> first | rfl | simp
     | 4, _ =>
      obtain rfl : b4 = false := hun
      obtain rfl := Option.some.inj hoQ
      have e0 : b0 = true := by first | (refine hdep ⟨0, .data⟩ ?_ rfl; simp; done) | (refine hdep ⟨0, .phase⟩ ?_ rfl; simp; done) | (refine hdep ⟨0, .chain⟩ ?_ rfl; simp; done)
      have e1 : b1 = true := by first | (refine hdep ⟨1, .data⟩ ?_ rfl; simp; done) | (refine hdep ⟨1, .phase⟩ ?_ rfl; simp; done) | (refine hdep ⟨1, .chain⟩ ?_ rfl; simp; done)
      have e2 : b2 = true := by first | (refine hdep ⟨2, .data⟩ ?_ rfl; simp; done) | (refine hdep ⟨2, .phase⟩ ?_ rfl; simp; done) | (refine hdep ⟨2, .chain⟩ ?_ rfl; simp; done)
      have e3 : b3 = true := by first | (refine hdep ⟨3, .data⟩ ?_ rfl; simp; done) | (refine hdep ⟨3, .phase⟩ ?_ rfl; simp; done) | (refine hdep ⟨3, .chain⟩ ?_ rfl; simp; done)
      subst e0 e1 e2 e3
      clear hdep
      rw [hρ]
      show qC _ _ _ false _ _
      simp (disch := omega) only [go_sem, seval, cond_true, cond_false, v6, v7, v8, w6, w7]
      repeat refine And.intro bS ?_
      refine ih true true true true true ?_ (fun _ => rfl) (fun _ => rfl) (fun _ => rfl) (fun _ => rfl) (fun _ => rfl) (fun _ => rfl) (fun _ => rfl) (fun _ => rfl) _ ?_
      ·simp only [cB, cond_true, cond_false] at hm ⊢; omega
      simp (disch := omega) only [go_sem, seval, cond_true, cond_false, v6, v7, v8, w6, w7] <;> first | rfl | simp
   refine main 5 false false false false false rfl (fun h => by cases h) (fun h => by cases h) (fun h => by cases h) (fun h => by cases h) (fun h => by cases h) (fun h => by cases h) (fun h => by cases h) (fun h => by cases h) _ ?_
   simp (disch := omega) only [go_sem, seval, cond_true, cond_false, v6, v7, v8, w6, w7] <;> first | rfl | simp
  intro O2 h6 h7 h8
  have r6 : bW O2 100006 = .bx (aY p.1) := by rw [show (100006 : Nat) = 6 + 100000 from rfl, bX, h6]; rfl
  have r7 : bW O2 100007 = .bx [vi p.2] := by rw [show (100007 : Nat) = 7 + 100000 from rfl, bX, h7]; rfl
  have r8 : bW O2 100008 = .bx [vb true] := by rw [show (100008 : Nat) = 8 + 100000 from rfl, bX, h8]; rfl
  refine a7 [0, 1, 2] (by kernel_rfl) ?_
  simp (disch := omega) only [go_sem, seval, seval, r6, r7, r8]
  repeat refine And.intro bS ?_
  intro s
  unfold xQ
  rw [aT, aT, aT]
  split
  ·rfl
  split
  ·rfl
  split
  ·rfl
  exact bX _ _
end
end Go.Sg
