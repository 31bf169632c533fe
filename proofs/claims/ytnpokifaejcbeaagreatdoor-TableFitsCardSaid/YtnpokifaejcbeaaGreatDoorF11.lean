/- Several texts as one. -/
import Derived.Test.YtnpokifaejcbeaaGreatDoorF10
import Derived.Lib.ItoaLen
import Derived.Lib.ItoaMem
set_option linter.unusedSectionVars false
set_option linter.unusedVariables false
set_option linter.unusedSimpArgs false
set_option maxRecDepth 20000
namespace Go.Sg
open Go.Proofs
theorem yY {P : Program} {fn : Func} {O ρ : aS} {r : Option DV} (t : TypeId) (v : Value) (hr : r = none) (h1 : hi ρ = bT O) : bAx P fn O r (.panic (aCt t v)) ρ := ⟨hr, h1, t, v, rfl⟩
theorem aOa {P : Program} {fn : Func} {O ρ : aS} {r : Option DV} {cs : List DV} (a t : Nat) (hf : fn.results = #[.cell a t]) (h1 : hi ρ = bT O) (h2 : ρ a = .bx cs) (h3 : eD P t = some (some cs.length)) (h4 : sh (.agg cs) = .agg cs) (hr : r = some (.agg cs)) : bAx P fn O r .ret ρ :=
 ⟨_, hr, h1, by rw [hf]; exact ⟨rfl, cs, h2, .inl ⟨h3, by rw [h4]; exact dI.refl _⟩⟩⟩
theorem tM {P : Program} {fn : Func} {O ρ : aS} {r : Option DV} {a b : ResultVar} {vs : List ResultVar} {rl : List DV} (hf : fn.results.toList = a :: b :: vs) (h1 : hi ρ = bT O) (h : RO P ρ (a :: b :: vs) rl) (hr : r = some (.tup rl)) : bAx P fn O r .ret ρ :=
 ⟨_, hr, h1, by rw [hf]; cases a <;> exact ⟨rl, rfl, h.len, h.get⟩⟩
abbrev St0 : aN := ⟨0, 0⟩
def awS (r : a8) (f : cG) : Option aN := if (cT 2 f.fSide 0).2 = false ∨ ndR r ⟨f.fEl, (cT 2 f.fSide 0).1⟩ = true then none else some ⟨f.fEl, 3 - (cT 2 f.fSide 0).1⟩
theorem bNr {r : a8} {f : cG} (h : (cT 2 f.fSide 0).2 = false ∨ ndR r ⟨f.fEl, (cT 2 f.fSide 0).1⟩ = true) : awS r f = none := by unfold awS; rw [if_pos h]
theorem bTf {r : a8} {f : cG} (h : ¬ ((cT 2 f.fSide 0).2 = false ∨ ndR r ⟨f.fEl, (cT 2 f.fSide 0).1⟩ = true)) : awS r f = some ⟨f.fEl, 3 - (cT 2 f.fSide 0).1⟩ := by unfold awS; rw [if_neg h]
theorem bAv (s : Int) : 0 ≤ (cT 2 s 0).1 ∧ (cT 2 s 0).1 ≤ 2 := by
 rw [aFx]; split
 ·simp
 split <;> simp
def pE (l : aB) (r : a8) : Nat → cG → Option (aN × Int)
 | 0, _ => none
 | n + 1, e => if (aI l e).2 = false then some (St0, -1) else if 0 ≤ iU l (aI l e).1 then some (St0, iU l (aI l e).1) else if (eT r.fPath (aI l e).1.fEl || eT r.fOver (aI l e).1.fEl) = true then some (St0, -1)
  else if (aI l e).1.fEl < 0 ∨ (l.fElements.length : Int) ≤ (aI l e).1.fEl then none else if (e5 l (aI l e).1.fEl.toNat).fKind = 2 then (awS r (aI l e).1).map fun s => (s, -1)
  else if (cV (e5 l (aI l e).1.fEl.toNat).fKind (aI l e).1.fSide).length = 0 then none else pE l r n ⟨(aI l e).1.fEl, (cV (e5 l (aI l e).1.fEl.toNat).fKind (aI l e).1.fSide).getD 0 default⟩
section
variable {l : aB} {r : a8} {n : Nat} {e : cG}
theorem bNu (h1 : (aI l e).2 = false) : pE l r (n + 1) e = some (St0, -1) := by rw [pE, if_pos h1]
theorem bTe (h1 : (aI l e).2 = true) (h2 : 0 ≤ iU l (aI l e).1) : pE l r (n + 1) e = some (St0, iU l (aI l e).1) := by rw [pE, if_neg (by rw [h1]; simp), if_pos h2]
theorem bPw (h1 : (aI l e).2 = true) (h2 : ¬ 0 ≤ iU l (aI l e).1) (h3 : (eT r.fPath (aI l e).1.fEl || eT r.fOver (aI l e).1.fEl) = true) : pE l r (n + 1) e = some (St0, -1) := by rw [pE, if_neg (by rw [h1]; simp), if_neg h2, if_pos h3]
theorem bOm (h1 : (aI l e).2 = true) (h2 : ¬ 0 ≤ iU l (aI l e).1) (h3 : (eT r.fPath (aI l e).1.fEl || eT r.fOver (aI l e).1.fEl) = false) (h4 : (aI l e).1.fEl < 0 ∨ (l.fElements.length : Int) ≤ (aI l e).1.fEl) : pE l r (n + 1) e = none := by rw [pE, if_neg (by rw [h1]; simp), if_neg h2, if_neg (by rw [h3]; simp), if_pos h4]
theorem bEq (h1 : (aI l e).2 = true) (h2 : ¬ 0 ≤ iU l (aI l e).1) (h3 : (eT r.fPath (aI l e).1.fEl || eT r.fOver (aI l e).1.fEl) = false) (h4 : ¬ ((aI l e).1.fEl < 0 ∨ (l.fElements.length : Int) ≤ (aI l e).1.fEl)) (h5 : (e5 l (aI l e).1.fEl.toNat).fKind = 2) : pE l r (n + 1) e = (awS r (aI l e).1).map fun s => (s, -1) := by rw [pE, if_neg (by rw [h1]; simp), if_neg h2, if_neg (by rw [h3]; simp), if_neg h4, if_pos h5]
theorem bPb (h1 : (aI l e).2 = true) (h2 : ¬ 0 ≤ iU l (aI l e).1) (h3 : (eT r.fPath (aI l e).1.fEl || eT r.fOver (aI l e).1.fEl) = false) (h4 : ¬ ((aI l e).1.fEl < 0 ∨ (l.fElements.length : Int) ≤ (aI l e).1.fEl)) (h5 : ¬ (e5 l (aI l e).1.fEl.toNat).fKind = 2) (h6 : (cV (e5 l (aI l e).1.fEl.toNat).fKind (aI l e).1.fSide).length = 0) : pE l r (n + 1) e = none := by rw [pE, if_neg (by rw [h1]; simp), if_neg h2, if_neg (by rw [h3]; simp), if_neg h4, if_neg h5, if_pos h6]
theorem bOj (h1 : (aI l e).2 = true) (h2 : ¬ 0 ≤ iU l (aI l e).1) (h3 : (eT r.fPath (aI l e).1.fEl || eT r.fOver (aI l e).1.fEl) = false) (h4 : ¬ ((aI l e).1.fEl < 0 ∨ (l.fElements.length : Int) ≤ (aI l e).1.fEl)) (h5 : ¬ (e5 l (aI l e).1.fEl.toNat).fKind = 2) (h6 : ¬ (cV (e5 l (aI l e).1.fEl.toNat).fKind (aI l e).1.fSide).length = 0) : pE l r (n + 1) e = pE l r n ⟨(aI l e).1.fEl, (cV (e5 l (aI l e).1.fEl.toNat).fKind (aI l e).1.fSide).getD 0 default⟩ := by rw [pE, if_neg (by rw [h1]; simp), if_neg h2, if_neg (by rw [h3]; simp), if_neg h4, if_neg h5, if_neg h6]
end
def prV (p : aN × Int) : DV := .tup [.agg (a7 p.1), vi p.2]
set_option maxRecDepth 20000 in
set_option maxHeartbeats 4000000 in
theorem rJ (O : aS) (r : a8) (f : cG) : vU Tryz.prog O 177 [.agg (bB r), .agg (cE f)] ((awS r f).map fun s => .agg (a7 s)) := by
 have hnb := bAv f.fSide
 refine vV Tryz.func177 rfl (by kernel_rfl) ?_
 refine aC [0, 1] ?_
 refine aA fun K1 hK1 => ?_
 refine bL [2, 3, 4] ?_
 refine eL (oL _ 2 f.fSide 0) ?_
 refine hK1 _ ?_; clear hK1
 refine aA fun K2 hK2 => ?_
 refine aA fun K3 hK3 => ?_
 refine bL [2, 3, 4, 5, 6] ?_
 refine lB (fun g0 => zW _ r ⟨f.fEl, (cT 2 f.fSide 0).1⟩) ?_
 refine hK3 _ ?_; clear hK3
 refine aV (fun c0 => ?_) fun c0 => ?_
 ·have hcc : (cT 2 f.fSide 0).2 = false ∨ ndR r ⟨f.fEl, (cT 2 f.fSide 0).1⟩ = true := (by simpa using c0)
  refine cH (Le.keepC [3, 4, 5] _) ?_
  refine kF ?_
  show uS _ _ _ _ _ _ _
  refine iF ?_
  refine cS rfl (by kernel_rfl) (by kernel_rfl) ?_
  refine rF ?_
  show uS _ _ _ _ _ _ _
  refine iF ?_
  refine cS rfl (by kernel_rfl) (by kernel_rfl) ?_
  refine rF ?_
  show uS _ _ _ _ _ _ _
  refine iF ?_
  refine s0 rfl rfl rfl (by decide) (by kernel_rfl) (by simp (disch := omega) only [go_sem, seval]) (by kernel_rfl) ?_
  simp (disch := omega) only [go_sem, seval]
  show uS _ _ _ _ _ _ _
  refine qO rfl rfl (by kernel_rfl) (by simp (disch := omega) only [go_sem, seval] <;> rfl) ?_
  intro tP vP
  try simp only [oZ, m8]
  exact yY tP vP (by rw [bNr hcc]; rfl) (by simp (disch := omega) only [go_sem, seval])
 have hcc : ¬ ((cT 2 f.fSide 0).2 = false ∨ ndR r ⟨f.fEl, (cT 2 f.fSide 0).1⟩ = true) := (by simpa using c0)
 refine aJ ?_
 refine hK2 _ ?_; clear hK2
 refine aC [3, 4, 5] ?_
 refine aM ?_
 exact aOa 4 68 rfl (by simp (disch := omega) only [go_sem, seval]) (by simp (disch := omega) only [go_sem, seval] <;> rfl) (by kernel_rfl) rfl (by rw [bTf hcc]; rfl)
set_option maxRecDepth 20000 in
set_option maxHeartbeats 8000000 in
theorem qU (O : aS) (l : aB) (r : a8) (e0 : cG) (hl : eK l) : vU Tryz.prog O 126 [.agg (aK l), .agg (bB r), .agg (cE e0)] ((pE l r 4 e0).map prV) := by
 have hl1 := hl.sec
 have hl2 := hl.el
 have hl3 := hl.jo
 have hl4 := hl.sg
 have hl5 := hl.bl
 refine vV Tryz.func126 rfl (by kernel_rfl) ?_
 refine aC [0, 1, 2] ?_
 refine aA fun K1 hK1 => ?_
 refine aC [3, 4, 5, 6, 7] ?_
 refine aL ?_
 refine aZ [3, 4, 5, 6, 7, 13] (fun n ρ => ∃ j, ∃ e, n = 4 - j ∧ (j ≤ 4) ∧ (pE l r 4 e0 = pE l r (4 - j) e) ∧ ρ = dU O [(3, .bx (aK l)), (4, .bx (bB r)), (5, .bx (cE e)), (6, .bx [vi 0, vi 0]), (7, vi 0), (13, vi (j : Nat))]) _ ⟨0, e0, rfl, ?_, ?_, ?_⟩ ?_
 ·exact bI
 ·rfl
 ·exact dC
 rintro n ρ ⟨j, e, rfl, l0_0, l0_1, rfl⟩ K3 hK3
 refine aC [3, 4, 5, 6, 7, 13] ?_
 refine aA fun K5 hK5 => ?_
 refine aV (fun c0 => ?_) fun c0 => ?_
 ·have h4j : 4 - j = (4 - (j + 1)) + 1 := by omega
  refine aJ ?_
  refine hK5 _ ?_; clear hK5
  refine aA fun K6 hK6 => ?_
  refine aL ?_
  refine aA fun K7 hK7 => ?_
  refine bL [3, 4, 5, 6, 7, 13] ?_
  refine eL (iH _ l e) ?_
  refine hK7 _ ?_; clear hK7
  refine aA fun K8 hK8 => ?_
  refine aC [3, 4, 5, 6, 7, 8, 9, 13] ?_
  refine aV (fun c1 => ?_) fun c1 => ?_
  ·have h1 : (aI l e).2 = false := (by simpa using c1)
   refine aC [6] ?_
   refine aM ?_
   exact tM rfl (by simp (disch := omega) only [go_sem, seval]) (.cons (roC (by simp (disch := omega) only [go_sem, seval] <;> rfl) rfl (by kernel_rfl) rfl) (.cons (mC (by simp (disch := omega) only [go_sem, seval] <;> rfl) rfl rfl) .nil)) (by rw [l0_1, h4j, bNu h1]; rfl)
  have h1 : (aI l e).2 = true := (by simpa using c1)
  refine aJ ?_
  refine hK8 _ ?_; clear hK8
  refine aA fun K11 hK11 => ?_
  refine aA fun K12 hK12 => ?_
  refine bL [3, 4, 5, 6, 7, 8, 13] ?_
  refine eL (iK _ l (aI l e).1) ?_
  refine hK12 _ ?_; clear hK12
  refine aC [3, 4, 5, 6, 7, 8, 10, 13] ?_
  refine aV (fun c2 => ?_) fun c2 => ?_
  ·have h2 : 0 ≤ iU l (aI l e).1 := (by simpa using c2)
   refine aC [6, 10] ?_
   refine aM ?_
   exact tM rfl (by simp (disch := omega) only [go_sem, seval]) (.cons (roC (by simp (disch := omega) only [go_sem, seval] <;> rfl) rfl (by kernel_rfl) rfl) (.cons (mC (by simp (disch := omega) only [go_sem, seval] <;> rfl) rfl rfl) .nil)) (by rw [l0_1, h4j, bTe h1 h2]; rfl)
  have h2 : ¬ 0 ≤ iU l (aI l e).1 := (by simpa using c2)
  refine aJ ?_
  refine hK11 _ ?_; clear hK11
  refine aA fun K15 hK15 => ?_
  refine aA fun K16 hK16 => ?_
  refine bL [3, 4, 5, 6, 7, 8, 13] ?_
  refine eL (wR _ r (aI l e).1.fEl) ?_
  refine hK16 _ ?_; clear hK16
  refine aV (fun c3 => ?_) fun c3 => ?_
  ·have h3 : (eT r.fPath (aI l e).1.fEl || eT r.fOver (aI l e).1.fEl) = true := (by simpa using c3)
   refine aC [6] ?_
   refine aM ?_
   exact tM rfl (by simp (disch := omega) only [go_sem, seval]) (.cons (roC (by simp (disch := omega) only [go_sem, seval] <;> rfl) rfl (by kernel_rfl) rfl) (.cons (mC (by simp (disch := omega) only [go_sem, seval] <;> rfl) rfl rfl) .nil)) (by rw [l0_1, h4j, bPw h1 h2 h3]; rfl)
  have h3 : (eT r.fPath (aI l e).1.fEl || eT r.fOver (aI l e).1.fEl) = false := (by simpa using c3)
  refine aJ ?_
  refine hK15 _ ?_; clear hK15
  refine aA fun K18 hK18 => ?_
  refine aC [3, 4, 5, 6, 7, 8, 13] ?_
  refine aV (fun c4 => ?_) fun c4 => ?_
  ·have h4 : (aI l e).1.fEl < 0 ∨ (l.fElements.length : Int) ≤ (aI l e).1.fEl := (by simpa using c4)
   refine cH (Le.keepC [3, 4, 5, 6, 7, 8, 13] _) ?_
   refine kF ?_
   show uS _ _ _ _ _ _ _
   refine iF ?_
   refine cS rfl (by kernel_rfl) (by kernel_rfl) ?_
   refine rF ?_
   show uS _ _ _ _ _ _ _
   refine iF ?_
   refine cS rfl (by kernel_rfl) (by kernel_rfl) ?_
   refine rF ?_
   show uS _ _ _ _ _ _ _
   refine iF ?_
   refine s0 rfl rfl rfl (by decide) (by kernel_rfl) (by simp (disch := omega) only [go_sem, seval]) (by kernel_rfl) ?_
   simp (disch := omega) only [go_sem, seval]
   show uS _ _ _ _ _ _ _
   refine qO rfl rfl (by kernel_rfl) (by simp (disch := omega) only [go_sem, seval] <;> rfl) ?_
   intro tP vP
   try simp only [oZ, m8]
   exact yY tP vP (by rw [l0_1, h4j, bOm h1 h2 h3 h4]; rfl) (by simp (disch := omega) only [go_sem, seval])
  have h4 : ¬ ((aI l e).1.fEl < 0 ∨ (l.fElements.length : Int) ≤ (aI l e).1.fEl) := (by simpa using c4)
  refine aJ ?_
  refine hK18 _ ?_; clear hK18
  refine aC [3, 4, 5, 6, 7, 8, 13] ?_
  refine aA fun K21 hK21 => ?_
  refine aC [3, 4, 5, 6, 7, 8, 11, 13] ?_
  refine aV (fun c5 => ?_) fun c5 => ?_
  ·have h5 : (e5 l (aI l e).1.fEl.toNat).fKind = 2 := (by simpa using c5)
   refine aA fun K23 hK23 => ?_
   rcases haw : awS r (aI l e).1 with _ | sw
   ·refine cH (Le.keepC [4, 6, 8] _) ?_
    refine kF ?_
    show uS _ _ _ _ _ _ _
    refine iF ?_
    refine cS rfl (by kernel_rfl) (by kernel_rfl) ?_
    refine rF ?_
    show uS _ _ _ _ _ _ _
    refine iF ?_
    refine cS rfl (by kernel_rfl) (by kernel_rfl) ?_
    refine rF ?_
    show uS _ _ _ _ _ _ _
    refine aCc rfl rfl rfl (by decide) (by kernel_rfl) (by simp (disch := omega) only [go_sem, seval]) (by simp (disch := omega) only [go_sem, seval]) (by simp (disch := omega) only [go_sem, seval] <;> rfl) (by kernel_rfl) (by have h := fun O => rJ O r (aI l e).1; simp only [haw, Option.map_none, Option.map_some] at h; exact h _) ?_
    intro tP vP
    try simp only [oZ, m8]
    exact yY tP vP (by rw [l0_1, h4j, bEq h1 h2 h3 h4 h5, haw]; rfl) (by simp (disch := omega) only [go_sem, seval])
   refine aX [4, 6, 8] (by kernel_rfl) ?_
   refine rF ?_
   refine eL (vU.pcall (by have h := fun O => rJ O r (aI l e).1; simp only [haw, Option.map_none, Option.map_some] at h; exact h _)) ?_
   refine hK23 _ ?_; clear hK23
   refine aM ?_
   exact tM rfl (by simp (disch := omega) only [go_sem, seval]) (.cons (roC (by simp (disch := omega) only [go_sem, seval] <;> rfl) rfl (by kernel_rfl) rfl) (.cons (mC (by simp (disch := omega) only [go_sem, seval] <;> rfl) rfl rfl) .nil)) (by rw [l0_1, h4j, bEq h1 h2 h3 h4 h5, haw]; rfl)
  have h5 : ¬ (e5 l (aI l e).1.fEl.toNat).fKind = 2 := (by simpa using c5)
  refine aJ ?_
  refine hK21 _ ?_; clear hK21
  refine aA fun K24 hK24 => ?_
  refine bL [3, 4, 5, 6, 7, 8, 11, 13] ?_
  refine eL (tK _ (e5 l (aI l e).1.fEl.toNat).fKind (aI l e).1.fSide) ?_
  refine hK24 _ ?_; clear hK24
  refine aA fun K25 hK25 => ?_
  refine aC [3, 4, 5, 6, 7, 8, 12, 13] ?_
  refine aV (fun c6 => ?_) fun c6 => ?_
  ·have h6 : (cV (e5 l (aI l e).1.fEl.toNat).fKind (aI l e).1.fSide).length = 0 := (by omega)
   refine cH (Le.keepC [3, 4, 5, 6, 7, 8, 12, 13] _) ?_
   refine kF ?_
   show uS _ _ _ _ _ _ _
   refine iF ?_
   refine cS rfl (by kernel_rfl) (by kernel_rfl) ?_
   refine rF ?_
   show uS _ _ _ _ _ _ _
   refine iF ?_
   refine cS rfl (by kernel_rfl) (by kernel_rfl) ?_
   refine rF ?_
   show uS _ _ _ _ _ _ _
   refine iF ?_
   refine s0 rfl rfl rfl (by decide) (by kernel_rfl) (by simp (disch := omega) only [go_sem, seval]) (by kernel_rfl) ?_
   simp (disch := omega) only [go_sem, seval]
   show uS _ _ _ _ _ _ _
   refine qO rfl rfl (by kernel_rfl) (by simp (disch := omega) only [go_sem, seval] <;> rfl) ?_
   intro tP vP
   try simp only [oZ, m8]
   exact yY tP vP (by rw [l0_1, h4j, bPb h1 h2 h3 h4 h5 h6]; rfl) (by simp (disch := omega) only [go_sem, seval])
  have h6 : ¬ (cV (e5 l (aI l e).1.fEl.toNat).fKind (aI l e).1.fSide).length = 0 := (by omega)
  refine aJ ?_
  refine hK25 _ ?_; clear hK25
  refine gY [3, 4, 5, 6, 7, 8, 12, 13] [] ?_
  refine hK6 _ ?_; clear hK6
  refine bE [3, 4, 5, 6, 7, 13] ?_
  refine hK3 _ _ ?_ ⟨j + 1, ⟨(aI l e).1.fEl, (cV (e5 l (aI l e).1.fEl.toNat).fKind (aI l e).1.fSide).getD 0 default⟩, rfl, ?_, ?_, ?_⟩
  ·exact bI
  ·exact bI
  ·rw [l0_1, h4j, bOj h1 h2 h3 h4 h5 h6]
  exact dC
 refine bA ?_
 refine hK1 _ ?_; clear hK1
 refine cH (Le.keepC [5, 6, 7] _) ?_
 refine kF ?_
 show uS _ _ _ _ _ _ _
 refine iF ?_
 refine cS rfl (by kernel_rfl) (by kernel_rfl) ?_
 refine rF ?_
 show uS _ _ _ _ _ _ _
 refine iF ?_
 refine cS rfl (by kernel_rfl) (by kernel_rfl) ?_
 refine rF ?_
 show uS _ _ _ _ _ _ _
 refine iF ?_
 refine s0 rfl rfl rfl (by decide) (by kernel_rfl) (by simp (disch := omega) only [go_sem, seval]) (by kernel_rfl) ?_
 simp (disch := omega) only [go_sem, seval]
 show uS _ _ _ _ _ _ _
 refine qO rfl rfl (by kernel_rfl) (by simp (disch := omega) only [go_sem, seval] <;> rfl) ?_
 intro tP vP
 try simp only [oZ, m8]
 exact yY tP vP (by rw [l0_1, show 4 - j = 0 by omega]; rfl) (by simp (disch := omega) only [go_sem, seval])
end Go.Sg
namespace Go.Sg
open Go.Proofs
def bsN (s : aW) (n : Nat) : List cG := ((List.range n).filter fun (i : Nat) => decide ((i : Int) ≠ s.fIn ∧ (i : Int) ≠ s.fOut)).map fun i => ⟨s.fEl, (i : Nat)⟩
theorem bEt (s : aW) (n : Nat) : bsN s (n + 1) = bsN s n ++ if (n : Int) ≠ s.fIn ∧ (n : Int) ≠ s.fOut then [⟨s.fEl, (n : Nat)⟩] else [] := by
 unfold bsN
 rw [List.range_succ, List.filter_append, List.map_append]
 congr 1
 by_cases h : (n : Int) ≠ s.fIn ∧ (n : Int) ≠ s.fOut
 ·rw [if_pos h, List.filter_cons_of_pos (by simpa using h)]; rfl
 rw [if_neg h, List.filter_cons_of_neg (by simpa using h)]; rfl
theorem aMk (s : aW) (n : Nat) : (bsN s n).length ≤ n := by
 unfold bsN; rw [List.length_map]; exact Nat.le_trans (List.length_filter_le _ _) (by simp)
def sdN (l : aB) (s : aW) : Nat := (gH (e5 l s.fEl.toNat).fKind).toNat
def hD (l : aB) (s : aW) : List cG := if (lE l s).2 = true then bsN s (sdN l s) else []
theorem bEo {l : aB} {s : aW} (h : (lE l s).2 = false) : hD l s = [] := by unfold hD; rw [if_neg (by rw [h]; simp)]
theorem bNw {l : aB} {s : aW} (h : (lE l s).2 = true) : hD l s = bsN s (sdN l s) := by unfold hD; rw [if_pos h]
theorem bPl {l : aB} {s : aW} (h : s.fEl < 0 ∨ (l.fElements.length : Int) ≤ s.fEl) : hD l s = [] := bEo (by rw [u5 (bPd.2 (by omega))])
theorem aVl (l : aB) (s : aW) : sdN l s ≤ 4 := by unfold sdN; have := uA (e5 l s.fEl.toNat).fKind; omega
theorem aLt (l : aB) (s : aW) : (hD l s).length ≤ 4 := by
 unfold hD; split
 ·exact Nat.le_trans (aMk _ _) (aVl l s)
 simp
def j7 (l : aB) (q : List aW) : List cG := q.flatMap (hD l)
theorem bKu (l : aB) {q : List aW} {i : Nat} (h : i < q.length) : j7 l (q.take (i + 1)) = j7 l (q.take i) ++ hD l (q.getD i default) := by
 rw [fV default h]; unfold j7; rw [List.flatMap_append]; simp
theorem aRd (l : aB) (q : List aW) : (j7 l q).length ≤ 4 * q.length := by
 unfold j7
 induction q with
 | nil => simp
 | cons a q ih => rw [List.flatMap_cons, List.length_append, List.length_cons]; have := aLt l a; omega
abbrev bSs (l : List cG) : DV := rowL 49 2 cE l
def prT (p : Option (aN × Int)) : aN × Int × Bool := match p with
 | some (s, g) => (s, g, true)
 | none => (St0, -1, false)
structure Vld (l : aB) : Prop where
 few : eK l
 els : mH l = true
 jo : ∀ e, (aI l e).2 = true → exB l (aI l e).1 = true
theorem aEv {l : aB} (hv : Vld l) {e : cG} (h : (aI l e).2 = true) : (0 ≤ (aI l e).1.fEl ∧ (aI l e).1.fEl < (l.fElements.length : Int)) ∧ 0 ≤ (aI l e).1.fSide ∧ (aI l e).1.fSide < gH (e5 l (aI l e).1.fEl.toNat).fKind ∧ 1 ≤ (e5 l (aI l e).1.fEl.toNat).fKind ∧ (e5 l (aI l e).1.fEl.toNat).fKind ≤ 3 := by
 have h1 := hv.jo e h
 unfold exB at h1
 rw [Bool.and_eq_true, decide_eq_true_eq, decide_eq_true_eq] at h1
 have := m9 (f := wJ l) hv.els (i := (aI l e).1.fEl.toNat) (by omega)
 unfold wJ at this
 have := of_decide_eq_true this
 exact ⟨by omega, by omega, by omega, this.1.1, this.1.2⟩
set_option maxHeartbeats 4000000 in
theorem wZ (O : aS) (l : aB) (s : aW) (hl : eK l) : aY Tryz.prog O 78 [.agg (aK l), .agg (bO s)] (aHp (hD l s)) := by
 have hl1 := hl.sec
 have hl2 := hl.el
 have hl3 := hl.jo
 have hl4 := hl.sg
 have hl5 := hl.bl
 have hsl := aVl l s
 refine aU 0 rfl (.agg (d := j9 l.fElements) (by simp [aK]) (.sl _ _ _)) fun he => ?_
 refine eE Tryz.func78 ?_
 refine aC [0, 1] ?_
 refine aA fun K1 hK1 => ?_
 refine aC [2, 3] ?_
 refine aV (fun c0 => ?_) fun c0 => ?_
 ·refine aC [] ?_
  refine qN 4 2 cE rfl rfl ?_
  refine aM ?_
  refine cW 4 ?_
  exact dE.encL rfl (by (rw [bPl (by omega)]))
 refine aJ ?_
 refine hK1 _ ?_; clear hK1
 refine aA fun K4 hK4 => ?_
 have hxe : lH l s.fEl = true := f7.2 (by omega)
 refine bE [2, 3] ?_
 refine hK4 _ ?_; clear hK4
 refine aA fun K5 hK5 => ?_
 refine aA fun K6 hK6 => ?_
 refine bL [3, 5] ?_
 refine eL (oL _ (e5 l s.fEl.toNat).fKind s.fIn s.fOut) ?_
 refine hK6 _ ?_; clear hK6
 refine aC [3, 5, 7] ?_
 refine aV (fun c1 => ?_) fun c1 => ?_
 ·have hps : (lE l s).2 = false := (by rw [oD hxe]; simpa using c1)
  refine aC [] ?_
  refine qN 4 2 cE rfl rfl ?_
  refine aM ?_
  refine cW 4 ?_
  exact dE.encL rfl (by (rw [bEo hps]))
 have hps : (lE l s).2 = true := (by rw [oD hxe]; simpa using c1)
 refine aJ ?_
 refine hK5 _ ?_; clear hK5
 refine aC [3, 5] ?_
 refine aA fun K10 hK10 => ?_
 refine aA fun K11 hK11 => ?_
 refine bL [3, 5, 8] ?_
 refine eL (rD _ (e5 l s.fEl.toNat).fKind) ?_
 refine hK11 _ ?_; clear hK11
 refine aL ?_
 refine gZ 8 49 2 cE rfl rfl ?_
 have hsd : gH (e5 l s.fEl.toNat).fKind = ((sdN l s : Nat) : Int) := (by unfold sdN; have := uA (e5 l s.fEl.toNat).fKind; omega)
 rw [hsd]
 refine aZ [3, 8, 40, 41] (fun n ρ => ∃ i, n = sdN l s - i ∧ (i ≤ sdN l s) ∧ ρ = dU O [(3, .bx (bO s)), (8, bSs (bsN s i)), (40, vi (sdN l s : Nat)), (41, vi (i : Nat))]) _ ⟨0, rfl, ?_, ?_⟩ ?_
 ·exact bI
 ·exact dC
 rintro n ρ ⟨i, rfl, l0_0, rfl⟩ K12 hK12
 have hbl := aMk s i
 refine aC [3, 8, 40, 41] ?_
 refine aA fun K14 hK14 => ?_
 refine aV (fun c2 => ?_) fun c2 => ?_
 ·refine aJ ?_
  refine hK14 _ ?_; clear hK14
  refine aA fun K15 hK15 => ?_
  refine aL ?_
  refine aC [3, 8, 40, 41] ?_
  refine aC [3, 8, 9, 40, 41] ?_
  refine aV (fun c3 => ?_) fun c3 => ?_
  ·have hcc : (i : Int) ≠ s.fIn ∧ (i : Int) ≠ s.fOut := (by simpa using c3)
   refine bE [3, 8, 9, 40, 41] ?_
   refine hK15 _ ?_; clear hK15
   refine bE [3, 8, 40, 41] ?_
   refine hK12 _ _ ?_ ⟨i + 1, rfl, ?_, ?_⟩
   ·exact bI
   ·exact bI
   simp (disch := omega) only [go_sem, seval] <;> (rw [bEt, if_pos hcc]; first | rfl | simp)
  have hcc : ¬ ((i : Int) ≠ s.fIn ∧ (i : Int) ≠ s.fOut) := (by rintro ⟨h1, h2⟩; (try simp at c3); rcases c3 with c3 | c3; exact h1 c3; exact h2 c3)
  refine aJ ?_
  refine hK15 _ ?_; clear hK15
  refine bE [3, 8, 40, 41] ?_
  refine hK12 _ _ ?_ ⟨i + 1, rfl, ?_, ?_⟩
  ·exact bI
  ·exact bI
  simp (disch := omega) only [go_sem, seval] <;> (rw [bEt, if_neg hcc, List.append_nil]; rfl)
 refine bA ?_
 refine hK10 _ ?_; clear hK10
 refine aA fun K18 hK18 => ?_
 refine fG 8 _ rfl rfl ?_
 refine bE [8] ?_
 refine hK18 _ ?_; clear hK18
 refine aM ?_
 refine cW 4 ?_
 exact dE.encL rfl (by (rw [bNw hps, show i = sdN l s by omega]))
end Go.Sg
namespace Go.Sg
open Go.Proofs
section
variable (l : aB)
theorem hM : (aK l).length = 6 := rfl
theorem iB : gT (fun x => x + 100000) (aK l) = aK l := rfl
theorem iG (p : Nat → Bool) : dF p (aK l) = true := rfl
theorem fO : List.take 6 (aK l) = aK l := rfl
theorem kU : (aK l).getD 0 .any = vs l.fName := rfl
theorem kV : (aK l).getD 1 .any = encL 1 eS l.fSections := rfl
theorem kR : (aK l).getD 2 .any = encL 7 fN l.fElements := rfl
theorem kY : (aK l).getD 3 .any = encL 4 rY l.fJoints := rfl
theorem kS : (aK l).getD 4 .any = encL 4 gA l.fSignals := rfl
theorem kZ : (aK l).getD 5 .any = encL 3 qP l.fBalises := rfl
end
section
variable (r : a8)
theorem iR : (bB r).length = 14 := rfl
theorem i6 : gT (fun x => x + 100000) (bB r) = bB r := rfl
theorem iW (p : Nat → Bool) : dF p (bB r) = true := rfl
theorem fS : List.take 14 (bB r) = bB r := rfl
theorem lP : (bB r).getD 0 .any = vs r.fName := rfl
theorem lR : (bB r).getD 1 .any = vi r.fEntry := rfl
theorem lS : (bB r).getD 2 .any = vi r.fExit := rfl
theorem lJ : (bB r).getD 3 .any = encL 3 bO r.fPath := rfl
theorem lQ : (bB r).getD 4 .any = encL 2 a7 r.fPoints := rfl
theorem lK : (bB r).getD 5 .any = encL 1 eI r.fSections := rfl
theorem lW : (bB r).getD 6 .any = vi r.fApproach := rfl
theorem lL : (bB r).getD 7 .any = vi r.fLength := rfl
theorem lU : (bB r).getD 8 .any = encL 3 bO r.fOver := rfl
theorem lV : (bB r).getD 9 .any = encL 2 a7 r.fOverPoints := rfl
theorem iP : (bB r).getD 10 .any = encL 1 eI r.fOverSections := rfl
theorem iS : (bB r).getD 11 .any = encL 2 a7 r.fFlank := rfl
theorem iT : (bB r).getD 12 .any = encL 1 eI r.fGuards := rfl
theorem iX : (bB r).getD 13 .any = encL 2 cE r.fGaps := rfl
end
end Go.Sg
namespace Go.Sg
open Go.Proofs
abbrev exQ (l : aB) (q : List aW) : Int := iU l (lT q)
def nmQ (l : aB) (x : Int) : ByteArray := if 0 ≤ x then (l.fSignals.getD x.toNat default).fName else ⟨#[101, 110, 100]⟩
def uX (l : aB) (a : Int) (q : List aW) : a8 := ⟨(l.fSignals.getD a.toNat default).fName ++ ⟨#[45]⟩ ++ nmQ l (exQ l q), a, exQ l q, q, tI l q, eW l q, bU l (l.fSignals.getD a.toNat default).fAt.fEl, fX l q, [], [], [], [], [], []⟩
theorem bEe (l : aB) {x : Int} (h : 0 ≤ x) : nmQ l x = (l.fSignals.getD x.toNat default).fName := by unfold nmQ; rw [if_pos h]
theorem bEr (l : aB) {x : Int} (h : ¬ 0 ≤ x) : nmQ l x = ⟨#[101, 110, 100]⟩ := by unfold nmQ; rw [if_neg h]
theorem aSe {l : aB} (hs : ∀ i, i < l.fSignals.length → (l.fSignals.getD i default).fName.size ≤ 1000) {x : Int} (hx : x < (l.fSignals.length : Int)) : (nmQ l x).size ≤ 1000 := by
 unfold nmQ
 split
 ·exact hs _ (by omega)
 decide
theorem bEc {q : List jF} {e : cG} : ∀ {n : Nat}, tZ q e n < ((n + q.length : Nat) : Int) ∧ -1 ≤ tZ q e n := by
 induction q with
 | nil => intro n; unfold tZ; simp; omega
 | cons a q ih =>
  intro n
  unfold tZ
  split
  ·simp; omega
  have := ih (n := n + 1); rw [List.length_cons]; omega
theorem aCi (l : aB) (q : List aW) : exQ l q < (l.fSignals.length : Int) ∧ -1 ≤ exQ l q := by
 have := bEc (q := l.fSignals) (e := lT q) (n := 0)
 unfold exQ
 rw [Nat.zero_add] at this
 exact this
section
attribute [local go_sem] List.drop_zero hM iB iG fO kU kV kR kY kS kZ iR i6 iW fS lP lR lS lJ lQ lK lW lL lU lV iP iS iT iX
set_option maxHeartbeats 100000000 in
theorem zF (O : aS) (l : aB) (a : Int) (q : List aW) (hl : eK l) (hes : mH l = true) (ha : 0 ≤ a ∧ a < (l.fSignals.length : Int)) (hs : ∀ i, i < l.fSignals.length → (l.fSignals.getD i default).fName.size ≤ 1000) (hq0 : 0 < q.length) (hq : q.length ≤ 100) (hnd : (q.map (·.fEl)).Nodup) : aY Tryz.prog O 120 [.agg (aK l), vi a, b8 q] (.agg (bB (uX l a q))) := by
 have hl1 := hl.sec
 have hl2 := hl.el
 have hl3 := hl.jo
 have hl4 := hl.sg
 have hl5 := hl.bl
 have hxb := aCi l q
 have hxs := aSe hs hxb.1
 refine aU 0 rfl (.agg (d := jU l.fSignals) (by simp [aK]) (.sl _ _ _)) fun hsl => ?_
 refine aU 2 rfl (.sl _ _ _) fun hql => ?_
 refine eE Tryz.func120 ?_
 refine aC [0, 1, 2] ?_
 refine aC [1, 2, 3, 6] ?_
 refine aA fun K2 hK2 => ?_
 refine gY [1, 2, 3, 6, 7] [] ?_
 refine cdz (aBb _ q hq0) ?_
 refine cdz (iK _ l (lT q)) ?_
 refine hK2 _ ?_; clear hK2
 refine aEg [1, 2, 3, 6, 7, 8, 9] (fun ρ => ρ = dU O [(1, vi a), (2, b8 q), (3, .bx (aK l)), (6, .bx [vs ⟨#[]⟩, vi 0, vi 0, .v (.slice none 0 0), .v (.slice none 0 0), .v (.slice none 0 0), vi 0, vi 0, .v (.slice none 0 0), .v (.slice none 0 0), .v (.slice none 0 0), .v (.slice none 0 0), .v (.slice none 0 0), .v (.slice none 0 0)]), (7, .bx (gA (l.fSignals.getD a.toNat default))), (8, vs (nmQ l (iU l (lT q)))), (9, vi (iU l (lT q)))]) (fun K3 hK3 => ?_) ?_
 ·skip
  refine aC [1, 2, 3, 6, 7, 8, 9] ?_
  refine aV (fun c0 => ?_) fun c0 => ?_
  ·have hx : 0 ≤ iU l (lT q) := (by simpa using c0)
   refine aX [1, 2, 3, 6, 7, 9] (by kernel_rfl) ?_
   ((try simp only [go_sem, seval]); try simp (disch := omega) only [go_sem, seval])
   repeat refine And.intro (by first | exact ⟨hx, hxb.1⟩ | exact bS) ?_
   refine hK3 _ ?_
   ((try simp only [go_sem, seval]); try simp (disch := omega) only [go_sem, seval]) <;> first | (rw [bEe l hx]; done) | (rw [bEe l hx]; rfl)
  have hx : ¬ 0 ≤ iU l (lT q) := (by simpa using c0)
  refine aJ ?_
  refine hK3 _ ?_
  ((try simp only [go_sem, seval]); try simp (disch := omega) only [go_sem, seval]) <;> first | (rw [bEr l hx]; done) | (rw [bEr l hx]; rfl)
 rintro ρ rfl
 refine aA fun K5 hK5 => ?_
 refine eV [1, 2, 3, 6, 7, 8, 9] [] fH (by kernel_rfl) ?_
 ((try simp only [go_sem, seval]); try simp (disch := omega) only [go_sem, seval])
 repeat refine And.intro (by first | exact aIc (hs _ (by omega)) (by decide) | exact y0 (hs _ (by omega)) (by decide) hxs | exact bS) ?_
 refine dJ (nT _ l q hl hq hnd) ?_ ?_
 ·rfl
 try ((try simp only [go_sem, seval]); try simp (disch := omega) only [go_sem, seval])
 repeat refine And.intro (by first | exact aIc (hs _ (by omega)) (by decide) | exact y0 (hs _ (by omega)) (by decide) hxs | exact bS) ?_
 refine dJ (nE _ l q hl hes hq) ?_ ?_
 ·rfl
 try ((try simp only [go_sem, seval]); try simp (disch := omega) only [go_sem, seval])
 repeat refine And.intro (by first | exact aIc (hs _ (by omega)) (by decide) | exact y0 (hs _ (by omega)) (by decide) hxs | exact bS) ?_
 refine dJ (dH _ l (l.fSignals.getD a.toNat default).fAt.fEl) ?_ ?_
 ·rfl
 try ((try simp only [go_sem, seval]); try simp (disch := omega) only [go_sem, seval])
 repeat refine And.intro (by first | exact aIc (hs _ (by omega)) (by decide) | exact y0 (hs _ (by omega)) (by decide) hxs | exact bS) ?_
 refine dJ (zA _ l q hl hes hq) ?_ ?_
 ·rfl
 try ((try simp only [go_sem, seval]); try simp (disch := omega) only [go_sem, seval])
 repeat refine And.intro (by first | exact aIc (hs _ (by omega)) (by decide) | exact y0 (hs _ (by omega)) (by decide) hxs | exact bS) ?_
 refine hK5 _ ?_; clear hK5
 refine bCu 6 rfl rfl (ds := bB (uX l a q)) (.cons (dI.refl _) (.cons (dI.refl _) (.cons (dI.refl _) (.cons (dI.refl _) (.cons (dI.refl _) (.cons (dI.refl _) (.cons (dI.refl _) (.cons (dI.refl _) (.cons (dI.nilL _) (.cons (dI.nilL _) (.cons (dI.nilL _) (.cons (dI.nilL _) (.cons (dI.nilL _) (.cons (dI.nilL _) .nil)))))))))))))) ?_
 refine aM ?_
 refine nU 6 46 rfl (by ((try simp only [go_sem, seval]); try simp (disch := omega) only [go_sem, seval])) (by ((try simp only [go_sem, seval]); try simp (disch := omega) only [go_sem, seval]) <;> (exact bI)) (by ((try simp only [go_sem, seval]); try simp (disch := omega) only [go_sem, seval])) (by ((try simp only [go_sem, seval]); try simp (disch := omega) only [go_sem, seval]))
end
end Go.Sg
namespace Go.Sg
def bs (l : List UInt8) : ByteArray := ⟨l.toArray⟩
def fmt (n : Int) : ByteArray := bs (Lib.itoa n)
theorem bHr (a b : List UInt8) : bs a ++ bs b = bs (a ++ b) := by
 apply ByteArray.ext
 simp [bs]
theorem aNn (l : List UInt8) : (bs l).size = l.length := by simp [bs, ByteArray.size]
theorem aNe (l : List UInt8) : (bs l).data.toList = l := by simp [bs]
theorem bFi (s : ByteArray) : bs s.data.toList = s := by cases s; simp [bs]
def dgt (d : Nat) : UInt8 := UInt8.ofNat (48 + d)
theorem aXn (u : Nat) : Lib.decDigits u ≠ [] := by
 rw [Lib.decDigits]
 split <;> simp
theorem t7 (u : Nat) (h : ¬ u < 10) : Lib.decDigits u = Lib.decDigits (u / 10) ++ [dgt (u % 10)] := by
 rw [Lib.decDigits, dif_neg h]; rfl
theorem xS (u : Nat) (h : u < 10) : Lib.decDigits u = [dgt u] := by
 rw [Lib.decDigits, dif_pos h]; rfl
theorem aLi {n : Int} (h : ¬ n < 0) : fmt n = bs (Lib.decDigits n.natAbs) := by
 rw [fmt, Lib.itoa, if_neg h]
 congr 2
 omega
theorem aUu (n : Int) (h0 : -9223372036854775808 ≤ n) (h1 : n ≤ 9223372036854775807) : (fmt n).size ≤ 21 := by
 rw [fmt, aNn]
 exact Lib.itoa_length_le n h0 h1
end Go.Sg
namespace Go.Sg
open Go.RowKit Go.Proofs
theorem aIy (w : World) (I : Nat → Prop) (k : Nat) (os : Array Obj) : l1 w I (Sort.grow (w.drewN k) os) I := by
 refine ⟨rfl, ⟨rfl, by simp [Sort.grow, World.drewN]⟩, rfl, by simp [Sort.grow, World.drewN], fun g hg => ?_, fun _ h => h, fun _ h => .inl h⟩
 show (w.heap ++ os)[g]? = _
 rw [Array.getElem?_append_left hg]
theorem bDe {w : World} {I : Nat → Prop} (h : Imm w I) : Lib.TabIs Tryz.prog w "internal/strconv.uint64pow10" .u64 Lib.pow10Tab := by
 have := (h.glob 2 _ _ rfl).2
 unfold Lib.TabIs World.var?
 rw [show Tryz.prog.globalNamed "internal/strconv.uint64pow10" = some 2 from by decide +kernel]
 simp [this, aLx, Lib.pow10Tab]
 rfl
theorem aKe (O : aS) (n : Int) (h0 : -9223372036854775808 ≤ n) (h1 : n ≤ 9223372036854775807) :
  aY Tryz.prog O 121 [.v (.int .i64 n)] (.v (.string (fmt n))) := by
 intro w I A vals hO hl hv
 obtain ⟨v0, rfl⟩ : ∃ v0, vals = #[v0] := by
  obtain ⟨l⟩ := vals
  match l, hl with
  | [a], _ => exact ⟨a, rfl⟩
 have hh := hv 0 _ _ rfl rfl
 cases hh
 refine (Tryz.strconv_Itoa n h0 h1 w (bDe hO.imm)).mono fun e' w' ⟨q1, q2⟩ => ?_
 obtain ⟨k, os, q2⟩ := q2
 subst q2
 have hgr := aIy w I k os
 exact ⟨_, I, O, .v (.string (fmt n)), q1, hgr.osim hO, fun _ => dW.refl _, fun _ h => h, hgr.ext hO, .v A _, rfl, rfl⟩
end Go.Sg
namespace Go.Sg
open Go.Proofs
theorem bAr (a : UInt8) (l : List UInt8) : bs [a] ++ bs l = bs (a :: l) := bHr [a] l
attribute [go_sem] aNn bAr zI
end Go.Sg
namespace Go.Sg
open Go.Proofs
def o8 {α : Type} (nm : α → ByteArray) (P : List α) : List (ByteArray × Int) := P.foldl (fun M p => lC M (nm p) ((fM M (nm p)).getD 0 + 1)) []
theorem uZ {α : Type} (nm : α → ByteArray) (P : List α) (p : α) : o8 nm (P ++ [p]) = lC (o8 nm P) (nm p) ((fM (o8 nm P) (nm p)).getD 0 + 1) := by
 unfold o8; rw [List.foldl_append]; rfl
def jR {α : Type} (nm : α → ByteArray) (P : List α) (x : ByteArray) : Nat := P.countP (fun p => decide (nm p = x))
theorem qF {α : Type} (nm : α → ByteArray) (P : List α) (p : α) (x : ByteArray) : jR nm (P ++ [p]) x = jR nm P x + (if nm p = x then 1 else 0) := by
 unfold jR
 rw [List.countP_append]
 by_cases h : nm p = x <;> simp [h]
theorem aLy {α : Type} (nm : α → ByteArray) (P : List α) (x : ByteArray) : jR nm P x ≤ P.length := List.countP_le_length
theorem aUj {α : Type} (nm : α → ByteArray) (n : Nat) : ∀ (P : List α), P.length = n → ∀ x, (fM (o8 nm P) x).getD 0 = (jR nm P x : Nat) := by
 induction n with
 | zero => intro P h x; rw [List.length_eq_zero_iff.1 h]; rfl
 | succ n ih =>
  intro P h x
  obtain ⟨Q, p, rfl⟩ : ∃ Q p, P = Q ++ [p] := ⟨P.dropLast, P.getLast (by intro e; rw [e] at h; cases h), (List.dropLast_concat_getLast _).symm⟩
  have hQ : Q.length = n := by simpa using h
  rw [uZ, aBs, qF]
  by_cases hx : x = nm p
  ·subst hx
   rw [if_pos rfl, if_pos rfl, Option.getD_some, ih Q hQ]
   push_cast; rfl
  rw [if_neg hx, if_neg (fun e => hx e.symm), ih Q hQ]
  rfl
theorem aCs {α : Type} (nm : α → ByteArray) (n : Nat) : ∀ (P : List α), P.length = n → ((o8 nm P).map (·.1)).Nodup := by
 induction n with
 | zero => intro P h; rw [List.length_eq_zero_iff.1 h]; exact List.Pairwise.nil
 | succ n ih =>
  intro P h
  obtain ⟨Q, p, rfl⟩ : ∃ Q p, P = Q ++ [p] := ⟨P.dropLast, P.getLast (by intro e; rw [e] at h; cases h), (List.dropLast_concat_getLast _).symm⟩
  rw [uZ]
  exact uT (ih Q (by simpa using h))
def g9 (l : aB) (i : Int) (q : List aW) : ByteArray := (uX l i q).fName
def kT (r : a8) (c : Nat) : a8 := if 1 < c then { r with fName := r.fName ++ (⟨#[46]⟩ ++ fmt (c : Nat)) } else r
def nbR (l : aB) (i : Int) (P : List (List aW)) (k : Nat) : a8 := kT (uX l i (P.getD k [])) (jR (g9 l i) (P.take (k + 1)) (g9 l i (P.getD k [])))
def m7 (l : aB) (i : Int) (P : List (List aW)) (n : Nat) : List a8 := (List.range n).map (nbR l i P)
theorem aDn (l : aB) (i : Int) (P : List (List aW)) (n : Nat) : m7 l i P (n + 1) = m7 l i P n ++ [nbR l i P n] := by
 unfold m7; rw [List.range_succ, List.map_append]; rfl
theorem pC (l : aB) (i : Int) (P : List (List aW)) (n : Nat) : (m7 l i P n).length = n := by simp [m7]
def cN (p : aB → cG → cG → List (List aW)) (l : aB) (i : Int) : List a8 :=
 if i < 0 ∨ (l.fSignals.length : Int) ≤ i then [] else
 let f := (l.fSignals.getD i.toNat default).fAt
 if (aI l f).2 = false then [] else m7 l i (p l f (aI l f).1) (p l f (aI l f).1).length
end Go.Sg
namespace Go.Sg
open Go.Proofs
def kP (q : List aN) (s : aN) : Nat := (q.takeWhile fun x => decide (x.fEl ≤ s.fEl)).length
def bBr (q : List aN) (s : aN) : List aN := if i7 q s = true then q else q.take (kP q s) ++ [s] ++ q.drop (kP q s)
theorem aWp {p : aN → Bool} : ∀ {l : List aN} {x : aN}, x ∈ l.takeWhile p → p x = true
 | [], _, h => by simp at h
 | a :: l, x, h => by
  rw [List.takeWhile_cons] at h
  cases ha : p a with
  | false => rw [ha] at h; simp at h
  | true =>
   rw [ha, if_pos rfl] at h
   rcases List.mem_cons.1 h with rfl | h
   ·exact ha
   exact aWp h
theorem bNm {q : List aN} {s : aN} {i : Nat} (h : i < kP q s) : (q.getD i default).fEl ≤ s.fEl := by
 unfold kP at h
 have hm : ∀ x ∈ q.takeWhile (fun x => decide (x.fEl ≤ s.fEl)), x.fEl ≤ s.fEl := fun x hx => by
  exact of_decide_eq_true (aWp hx)
 have hp := List.takeWhile_prefix (fun x : aN => decide (x.fEl ≤ s.fEl)) (l := q)
 have : q.getD i default = (q.takeWhile fun x => decide (x.fEl ≤ s.fEl))[i] := by
  rw [List.getD_eq_getElem?_getD, List.getElem?_eq_getElem (Nat.lt_of_lt_of_le h hp.length_le), Option.getD_some]
  exact (hp.getElem h).symm
 rw [this]; exact hm _ (List.getElem_mem h)
theorem bTd {q : List aN} {s : aN} (h : kP q s < q.length) : s.fEl < (q.getD (kP q s) default).fEl := by
 unfold kP at *
 induction q with
 | nil => simp at h
 | cons a q ih =>
  rw [List.takeWhile_cons] at *
  by_cases ha : a.fEl ≤ s.fEl
  ·rw [decide_eq_true ha] at *
   simp only [if_pos, List.length_cons] at *
   have := ih (by omega)
   simpa using this
  rw [decide_eq_false ha] at *
  simp at *; omega
section
attribute [local go_sem] List.drop_zero hM iB iG fO kU kV kR kY kS kZ iR i6 iW fS lP lR lS lJ lQ lK lW lL lU lV iP iS iT iX
end
end Go.Sg
