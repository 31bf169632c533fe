/- Several texts as one. -/
import Derived.Test.YtnpokifaejcbeaaGreatDoorK12
import Derived.Laws.BytesArg
import Derived.Lib.ItoaLen
import Derived.Lib.ItoaMem
import Derived.Shelf.LaysM
import Derived.Shelf.Strconv.Itoa1
import Derived.Shelf.Strconv.Itoa2
import Derived.Shelf.Strconv.Itoa3
set_option linter.unusedSectionVars false
set_option linter.unusedVariables false
set_option linter.unusedSimpArgs false
set_option maxRecDepth 20000
namespace Go.Sg
open Go.Proofs
theorem yL {P : Program} {fn : Func} {O ρ : aU} {r : Option DV} (t : TypeId) (v : Value) (hr : r = none) (h1 : hi ρ = bW O) : bBg P fn O r (.panic (aEo t v)) ρ := ⟨hr, h1, t, v, rfl⟩
theorem aQh {P : Program} {fn : Func} {O ρ : aU} {r : Option DV} {cs : List DV} (a t : Nat) (hf : fn.results = #[.cell a t]) (h1 : hi ρ = bW O) (h2 : ρ a = .bx cs) (h3 : eZ P t = some (some cs.length)) (h4 : sh (.agg cs) = .agg cs) (hr : r = some (.agg cs)) : bBg P fn O r .ret ρ :=
 ⟨_, hr, h1, by rw [hf]; exact ⟨rfl, cs, h2, .inl ⟨h3, by rw [h4]; exact bV.refl _⟩⟩⟩
theorem uC {P : Program} {fn : Func} {O ρ : aU} {r : Option DV} {a b : ResultVar} {vs : List ResultVar} {rl : List DV} (hf : fn.results.toList = a :: b :: vs) (h1 : hi ρ = bW O) (h : RO P ρ (a :: b :: vs) rl) (hr : r = some (.tup rl)) : bBg P fn O r .ret ρ :=
 ⟨_, hr, h1, by rw [hf]; cases a <;> exact ⟨rl, rfl, h.len, h.get⟩⟩
abbrev St0 : aM := ⟨0, 0⟩
def awS (r : bE) (f : cC) : Option aM := if (cF 2 f.fSide 0).2 = false ∨ ndR r ⟨f.fEl, (cF 2 f.fSide 0).1⟩ = true then none else some ⟨f.fEl, 3 - (cF 2 f.fSide 0).1⟩
theorem bGy {r : bE} {f : cC} (h : (cF 2 f.fSide 0).2 = false ∨ ndR r ⟨f.fEl, (cF 2 f.fSide 0).1⟩ = true) : awS r f = none := by unfold awS; rw [if_pos h]
theorem bVd {r : bE} {f : cC} (h : ¬ ((cF 2 f.fSide 0).2 = false ∨ ndR r ⟨f.fEl, (cF 2 f.fSide 0).1⟩ = true)) : awS r f = some ⟨f.fEl, 3 - (cF 2 f.fSide 0).1⟩ := by unfold awS; rw [if_neg h]
theorem bCe (s : Int) : 0 ≤ (cF 2 s 0).1 ∧ (cF 2 s 0).1 ≤ 2 := by
 rw [aSc]; split
 ·simp
 split <;> simp
def pK (l : aC) (r : bE) : Nat → cC → Option (aM × Int)
 | 0, _ => none
 | n + 1, e => if (aD l e).2 = false then some (St0, -1) else if 0 ≤ iP l (aD l e).1 then some (St0, iP l (aD l e).1) else if (eG r.fPath (aD l e).1.fEl || eG r.fOver (aD l e).1.fEl) = true then some (St0, -1)
  else if (aD l e).1.fEl < 0 ∨ (l.fElements.length : Int) ≤ (aD l e).1.fEl then none else if (d7 l (aD l e).1.fEl.toNat).fKind = 2 then (awS r (aD l e).1).map fun s => (s, -1)
  else if (cZ (d7 l (aD l e).1.fEl.toNat).fKind (aD l e).1.fSide).length = 0 then none else pK l r n ⟨(aD l e).1.fEl, (cZ (d7 l (aD l e).1.fEl.toNat).fKind (aD l e).1.fSide).getD 0 default⟩
section
variable {l : aC} {r : bE} {n : Nat} {e : cC}
theorem aMp (h1 : (aD l e).2 = false) : pK l r (n + 1) e = some (St0, -1) := by rw [pK, if_pos h1]
theorem aMw (h1 : (aD l e).2 = true) (h2 : 0 ≤ iP l (aD l e).1) : pK l r (n + 1) e = some (St0, iP l (aD l e).1) := by rw [pK, if_neg (by rw [h1]; simp), if_pos h2]
theorem aNl (h1 : (aD l e).2 = true) (h2 : ¬ 0 ≤ iP l (aD l e).1) (h3 : (eG r.fPath (aD l e).1.fEl || eG r.fOver (aD l e).1.fEl) = true) : pK l r (n + 1) e = some (St0, -1) := by rw [pK, if_neg (by rw [h1]; simp), if_neg h2, if_pos h3]
theorem bTo (h1 : (aD l e).2 = true) (h2 : ¬ 0 ≤ iP l (aD l e).1) (h3 : (eG r.fPath (aD l e).1.fEl || eG r.fOver (aD l e).1.fEl) = false) (h4 : (aD l e).1.fEl < 0 ∨ (l.fElements.length : Int) ≤ (aD l e).1.fEl) : pK l r (n + 1) e = none := by rw [pK, if_neg (by rw [h1]; simp), if_neg h2, if_neg (by rw [h3]; simp), if_pos h4]
theorem wT (h1 : (aD l e).2 = true) (h2 : ¬ 0 ≤ iP l (aD l e).1) (h3 : (eG r.fPath (aD l e).1.fEl || eG r.fOver (aD l e).1.fEl) = false) (h4 : ¬ ((aD l e).1.fEl < 0 ∨ (l.fElements.length : Int) ≤ (aD l e).1.fEl)) (h5 : (d7 l (aD l e).1.fEl.toNat).fKind = 2) : pK l r (n + 1) e = (awS r (aD l e).1).map fun s => (s, -1) := by rw [pK, if_neg (by rw [h1]; simp), if_neg h2, if_neg (by rw [h3]; simp), if_neg h4, if_pos h5]
theorem bUc (h1 : (aD l e).2 = true) (h2 : ¬ 0 ≤ iP l (aD l e).1) (h3 : (eG r.fPath (aD l e).1.fEl || eG r.fOver (aD l e).1.fEl) = false) (h4 : ¬ ((aD l e).1.fEl < 0 ∨ (l.fElements.length : Int) ≤ (aD l e).1.fEl)) (h5 : ¬ (d7 l (aD l e).1.fEl.toNat).fKind = 2) (h6 : (cZ (d7 l (aD l e).1.fEl.toNat).fKind (aD l e).1.fSide).length = 0) : pK l r (n + 1) e = none := by rw [pK, if_neg (by rw [h1]; simp), if_neg h2, if_neg (by rw [h3]; simp), if_neg h4, if_neg h5, if_pos h6]
theorem bGt (h1 : (aD l e).2 = true) (h2 : ¬ 0 ≤ iP l (aD l e).1) (h3 : (eG r.fPath (aD l e).1.fEl || eG r.fOver (aD l e).1.fEl) = false) (h4 : ¬ ((aD l e).1.fEl < 0 ∨ (l.fElements.length : Int) ≤ (aD l e).1.fEl)) (h5 : ¬ (d7 l (aD l e).1.fEl.toNat).fKind = 2) (h6 : ¬ (cZ (d7 l (aD l e).1.fEl.toNat).fKind (aD l e).1.fSide).length = 0) : pK l r (n + 1) e = pK l r n ⟨(aD l e).1.fEl, (cZ (d7 l (aD l e).1.fEl.toNat).fKind (aD l e).1.fSide).getD 0 default⟩ := by rw [pK, if_neg (by rw [h1]; simp), if_neg h2, if_neg (by rw [h3]; simp), if_neg h4, if_neg h5, if_neg h6]
end
def prV (p : aM × Int) : DV := .tup [.agg (aY p.1), vi p.2]
set_option maxRecDepth 20000 in
set_option maxHeartbeats 4000000 in
theorem r9 (O : aU) (r : bE) (f : cC) : wV Tryz.prog O 177 [.agg (aZ r), .agg (bO f)] ((awS r f).map fun s => .agg (aY s)) := by
 have hnb := bCe f.fSide
 refine wO Tryz.func177 rfl (by kernel_rfl) ?_
 refine aB [0, 1] ?_
 refine aA fun K1 hK1 => ?_
 refine bF [2, 3, 4] ?_
 refine dM (oN _ 2 f.fSide 0) ?_
 refine hK1 _ ?_; clear hK1
 refine aA fun K2 hK2 => ?_
 refine aA fun K3 hK3 => ?_
 refine bF [2, 3, 4, 5, 6] ?_
 refine lY (fun g0 => aAj _ r ⟨f.fEl, (cF 2 f.fSide 0).1⟩) ?_
 refine hK3 _ ?_; clear hK3
 refine aS (fun c0 => ?_) fun c0 => ?_
 ·have hcc : (cF 2 f.fSide 0).2 = false ∨ ndR r ⟨f.fEl, (cF 2 f.fSide 0).1⟩ = true := (by simpa using c0)
  refine cQ (Le.keepC [3, 4, 5] _) ?_
  refine kR ?_
  show wI _ _ _ _ _ _ _
  refine iJ ?_
  refine cM rfl (by kernel_rfl) (by kernel_rfl) ?_
  refine lZ ?_
  show wI _ _ _ _ _ _ _
  refine iJ ?_
  refine cM rfl (by kernel_rfl) (by kernel_rfl) ?_
  refine lZ ?_
  show wI _ _ _ _ _ _ _
  refine iJ ?_
  refine tO rfl rfl rfl (by decide) (by kernel_rfl) (by simp (disch := omega) only [go_sem, seval]) (by kernel_rfl) ?_
  simp (disch := omega) only [go_sem, seval]
  show wI _ _ _ _ _ _ _
  refine rH rfl rfl (by kernel_rfl) (by simp (disch := omega) only [go_sem, seval] <;> rfl) ?_
  intro tP vP
  try simp only [pH, nJ]
  exact yL tP vP (by rw [bGy hcc]; rfl) (by simp (disch := omega) only [go_sem, seval])
 have hcc : ¬ ((cF 2 f.fSide 0).2 = false ∨ ndR r ⟨f.fEl, (cF 2 f.fSide 0).1⟩ = true) := (by simpa using c0)
 refine aJ ?_
 refine hK2 _ ?_; clear hK2
 refine aB [3, 4, 5] ?_
 refine aL ?_
 exact aQh 4 68 rfl (by simp (disch := omega) only [go_sem, seval]) (by simp (disch := omega) only [go_sem, seval] <;> rfl) (by kernel_rfl) rfl (by rw [bVd hcc]; rfl)
set_option maxRecDepth 20000 in
set_option maxHeartbeats 8000000 in
theorem rZ (O : aU) (l : aC) (r : bE) (e0 : cC) (hl : dX l) : wV Tryz.prog O 126 [.agg (aI l), .agg (aZ r), .agg (bO e0)] ((pK l r 4 e0).map prV) := by
 have hl1 := hl.sec
 have hl2 := hl.el
 have hl3 := hl.jo
 have hl4 := hl.sg
 have hl5 := hl.bl
 refine wO Tryz.func126 rfl (by kernel_rfl) ?_
 refine aB [0, 1, 2] ?_
 refine aA fun K1 hK1 => ?_
 refine aB [3, 4, 5, 6, 7] ?_
 refine aK ?_
 refine aX [3, 4, 5, 6, 7, 13] (fun n ρ => ∃ j, ∃ e, n = 4 - j ∧ (j ≤ 4) ∧ (pK l r 4 e0 = pK l r (4 - j) e) ∧ ρ = cU O [(3, .bx (aI l)), (4, .bx (aZ r)), (5, .bx (bO e)), (6, .bx [vi 0, vi 0]), (7, vi 0), (13, vi (j : Nat))]) _ ⟨0, e0, rfl, ?_, ?_, ?_⟩ ?_
 ·exact bD
 ·rfl
 ·exact cD
 rintro n ρ ⟨j, e, rfl, l0_0, l0_1, rfl⟩ K3 hK3
 refine aB [3, 4, 5, 6, 7, 13] ?_
 refine aA fun K5 hK5 => ?_
 refine aS (fun c0 => ?_) fun c0 => ?_
 ·have h4j : 4 - j = (4 - (j + 1)) + 1 := by omega
  refine aJ ?_
  refine hK5 _ ?_; clear hK5
  refine aA fun K6 hK6 => ?_
  refine aK ?_
  refine aA fun K7 hK7 => ?_
  refine bF [3, 4, 5, 6, 7, 13] ?_
  refine dM (iO _ l e) ?_
  refine hK7 _ ?_; clear hK7
  refine aA fun K8 hK8 => ?_
  refine aB [3, 4, 5, 6, 7, 8, 9, 13] ?_
  refine aS (fun c1 => ?_) fun c1 => ?_
  ·have h1 : (aD l e).2 = false := (by simpa using c1)
   refine aB [6] ?_
   refine aL ?_
   exact uC rfl (by simp (disch := omega) only [go_sem, seval]) (.cons (sJ (by simp (disch := omega) only [go_sem, seval] <;> rfl) rfl (by kernel_rfl) rfl) (.cons (gZ (by simp (disch := omega) only [go_sem, seval] <;> rfl) rfl rfl) .nil)) (by rw [l0_1, h4j, aMp h1]; rfl)
  have h1 : (aD l e).2 = true := (by simpa using c1)
  refine aJ ?_
  refine hK8 _ ?_; clear hK8
  refine aA fun K11 hK11 => ?_
  refine aA fun K12 hK12 => ?_
  refine bF [3, 4, 5, 6, 7, 8, 13] ?_
  refine dM (iT _ l (aD l e).1) ?_
  refine hK12 _ ?_; clear hK12
  refine aB [3, 4, 5, 6, 7, 8, 10, 13] ?_
  refine aS (fun c2 => ?_) fun c2 => ?_
  ·have h2 : 0 ≤ iP l (aD l e).1 := (by simpa using c2)
   refine aB [6, 10] ?_
   refine aL ?_
   exact uC rfl (by simp (disch := omega) only [go_sem, seval]) (.cons (sJ (by simp (disch := omega) only [go_sem, seval] <;> rfl) rfl (by kernel_rfl) rfl) (.cons (gZ (by simp (disch := omega) only [go_sem, seval] <;> rfl) rfl rfl) .nil)) (by rw [l0_1, h4j, aMw h1 h2]; rfl)
  have h2 : ¬ 0 ≤ iP l (aD l e).1 := (by simpa using c2)
  refine aJ ?_
  refine hK11 _ ?_; clear hK11
  refine aA fun K15 hK15 => ?_
  refine aA fun K16 hK16 => ?_
  refine bF [3, 4, 5, 6, 7, 8, 13] ?_
  refine dM (w9 _ r (aD l e).1.fEl) ?_
  refine hK16 _ ?_; clear hK16
  refine aS (fun c3 => ?_) fun c3 => ?_
  ·have h3 : (eG r.fPath (aD l e).1.fEl || eG r.fOver (aD l e).1.fEl) = true := (by simpa using c3)
   refine aB [6] ?_
   refine aL ?_
   exact uC rfl (by simp (disch := omega) only [go_sem, seval]) (.cons (sJ (by simp (disch := omega) only [go_sem, seval] <;> rfl) rfl (by kernel_rfl) rfl) (.cons (gZ (by simp (disch := omega) only [go_sem, seval] <;> rfl) rfl rfl) .nil)) (by rw [l0_1, h4j, aNl h1 h2 h3]; rfl)
  have h3 : (eG r.fPath (aD l e).1.fEl || eG r.fOver (aD l e).1.fEl) = false := (by simpa using c3)
  refine aJ ?_
  refine hK15 _ ?_; clear hK15
  refine aA fun K18 hK18 => ?_
  refine aB [3, 4, 5, 6, 7, 8, 13] ?_
  refine aS (fun c4 => ?_) fun c4 => ?_
  ·have h4 : (aD l e).1.fEl < 0 ∨ (l.fElements.length : Int) ≤ (aD l e).1.fEl := (by simpa using c4)
   refine cQ (Le.keepC [3, 4, 5, 6, 7, 8, 13] _) ?_
   refine kR ?_
   show wI _ _ _ _ _ _ _
   refine iJ ?_
   refine cM rfl (by kernel_rfl) (by kernel_rfl) ?_
   refine lZ ?_
   show wI _ _ _ _ _ _ _
   refine iJ ?_
   refine cM rfl (by kernel_rfl) (by kernel_rfl) ?_
   refine lZ ?_
   show wI _ _ _ _ _ _ _
   refine iJ ?_
   refine tO rfl rfl rfl (by decide) (by kernel_rfl) (by simp (disch := omega) only [go_sem, seval]) (by kernel_rfl) ?_
   simp (disch := omega) only [go_sem, seval]
   show wI _ _ _ _ _ _ _
   refine rH rfl rfl (by kernel_rfl) (by simp (disch := omega) only [go_sem, seval] <;> rfl) ?_
   intro tP vP
   try simp only [pH, nJ]
   exact yL tP vP (by rw [l0_1, h4j, bTo h1 h2 h3 h4]; rfl) (by simp (disch := omega) only [go_sem, seval])
  have h4 : ¬ ((aD l e).1.fEl < 0 ∨ (l.fElements.length : Int) ≤ (aD l e).1.fEl) := (by simpa using c4)
  refine aJ ?_
  refine hK18 _ ?_; clear hK18
  refine aB [3, 4, 5, 6, 7, 8, 13] ?_
  refine aA fun K21 hK21 => ?_
  refine aB [3, 4, 5, 6, 7, 8, 11, 13] ?_
  refine aS (fun c5 => ?_) fun c5 => ?_
  ·have h5 : (d7 l (aD l e).1.fEl.toNat).fKind = 2 := (by simpa using c5)
   refine aA fun K23 hK23 => ?_
   rcases haw : awS r (aD l e).1 with _ | sw
   ·refine cQ (Le.keepC [4, 6, 8] _) ?_
    refine kR ?_
    show wI _ _ _ _ _ _ _
    refine iJ ?_
    refine cM rfl (by kernel_rfl) (by kernel_rfl) ?_
    refine lZ ?_
    show wI _ _ _ _ _ _ _
    refine iJ ?_
    refine cM rfl (by kernel_rfl) (by kernel_rfl) ?_
    refine lZ ?_
    show wI _ _ _ _ _ _ _
    refine aCj rfl rfl rfl (by decide) (by kernel_rfl) (by simp (disch := omega) only [go_sem, seval]) (by simp (disch := omega) only [go_sem, seval]) (by simp (disch := omega) only [go_sem, seval] <;> rfl) (by kernel_rfl) (by have h := fun O => r9 O r (aD l e).1; simp only [haw, Option.map_none, Option.map_some] at h; exact h _) ?_
    intro tP vP
    try simp only [pH, nJ]
    exact yL tP vP (by rw [l0_1, h4j, wT h1 h2 h3 h4 h5, haw]; rfl) (by simp (disch := omega) only [go_sem, seval])
   refine a7 [4, 6, 8] (by kernel_rfl) ?_
   refine lZ ?_
   refine dM (wV.pcall (by have h := fun O => r9 O r (aD l e).1; simp only [haw, Option.map_none, Option.map_some] at h; exact h _)) ?_
   refine hK23 _ ?_; clear hK23
   refine aL ?_
   exact uC rfl (by simp (disch := omega) only [go_sem, seval]) (.cons (sJ (by simp (disch := omega) only [go_sem, seval] <;> rfl) rfl (by kernel_rfl) rfl) (.cons (gZ (by simp (disch := omega) only [go_sem, seval] <;> rfl) rfl rfl) .nil)) (by rw [l0_1, h4j, wT h1 h2 h3 h4 h5, haw]; rfl)
  have h5 : ¬ (d7 l (aD l e).1.fEl.toNat).fKind = 2 := (by simpa using c5)
  refine aJ ?_
  refine hK21 _ ?_; clear hK21
  refine aA fun K24 hK24 => ?_
  refine bF [3, 4, 5, 6, 7, 8, 11, 13] ?_
  refine dM (tZ _ (d7 l (aD l e).1.fEl.toNat).fKind (aD l e).1.fSide) ?_
  refine hK24 _ ?_; clear hK24
  refine aA fun K25 hK25 => ?_
  refine aB [3, 4, 5, 6, 7, 8, 12, 13] ?_
  refine aS (fun c6 => ?_) fun c6 => ?_
  ·have h6 : (cZ (d7 l (aD l e).1.fEl.toNat).fKind (aD l e).1.fSide).length = 0 := (by omega)
   refine cQ (Le.keepC [3, 4, 5, 6, 7, 8, 12, 13] _) ?_
   refine kR ?_
   show wI _ _ _ _ _ _ _
   refine iJ ?_
   refine cM rfl (by kernel_rfl) (by kernel_rfl) ?_
   refine lZ ?_
   show wI _ _ _ _ _ _ _
   refine iJ ?_
   refine cM rfl (by kernel_rfl) (by kernel_rfl) ?_
   refine lZ ?_
   show wI _ _ _ _ _ _ _
   refine iJ ?_
   refine tO rfl rfl rfl (by decide) (by kernel_rfl) (by simp (disch := omega) only [go_sem, seval]) (by kernel_rfl) ?_
   simp (disch := omega) only [go_sem, seval]
   show wI _ _ _ _ _ _ _
   refine rH rfl rfl (by kernel_rfl) (by simp (disch := omega) only [go_sem, seval] <;> rfl) ?_
   intro tP vP
   try simp only [pH, nJ]
   exact yL tP vP (by rw [l0_1, h4j, bUc h1 h2 h3 h4 h5 h6]; rfl) (by simp (disch := omega) only [go_sem, seval])
  have h6 : ¬ (cZ (d7 l (aD l e).1.fEl.toNat).fKind (aD l e).1.fSide).length = 0 := (by omega)
  refine aJ ?_
  refine hK25 _ ?_; clear hK25
  refine e5 [3, 4, 5, 6, 7, 8, 12, 13] [] ?_
  refine hK6 _ ?_; clear hK6
  refine bC [3, 4, 5, 6, 7, 13] ?_
  refine hK3 _ _ ?_ ⟨j + 1, ⟨(aD l e).1.fEl, (cZ (d7 l (aD l e).1.fEl.toNat).fKind (aD l e).1.fSide).getD 0 default⟩, rfl, ?_, ?_, ?_⟩
  ·exact bD
  ·exact bD
  ·rw [l0_1, h4j, bGt h1 h2 h3 h4 h5 h6]
  exact cD
 refine bA ?_
 refine hK1 _ ?_; clear hK1
 refine cQ (Le.keepC [5, 6, 7] _) ?_
 refine kR ?_
 show wI _ _ _ _ _ _ _
 refine iJ ?_
 refine cM rfl (by kernel_rfl) (by kernel_rfl) ?_
 refine lZ ?_
 show wI _ _ _ _ _ _ _
 refine iJ ?_
 refine cM rfl (by kernel_rfl) (by kernel_rfl) ?_
 refine lZ ?_
 show wI _ _ _ _ _ _ _
 refine iJ ?_
 refine tO rfl rfl rfl (by decide) (by kernel_rfl) (by simp (disch := omega) only [go_sem, seval]) (by kernel_rfl) ?_
 simp (disch := omega) only [go_sem, seval]
 show wI _ _ _ _ _ _ _
 refine rH rfl rfl (by kernel_rfl) (by simp (disch := omega) only [go_sem, seval] <;> rfl) ?_
 intro tP vP
 try simp only [pH, nJ]
 exact yL tP vP (by rw [l0_1, show 4 - j = 0 by omega]; rfl) (by simp (disch := omega) only [go_sem, seval])
def bsN (s : bB) (n : Nat) : List cC := ((List.range n).filter fun (i : Nat) => decide ((i : Int) ≠ s.fIn ∧ (i : Int) ≠ s.fOut)).map fun i => ⟨s.fEl, (i : Nat)⟩
theorem aOs (s : bB) (n : Nat) : bsN s (n + 1) = bsN s n ++ if (n : Int) ≠ s.fIn ∧ (n : Int) ≠ s.fOut then [⟨s.fEl, (n : Nat)⟩] else [] := by
 unfold bsN
 rw [List.range_succ, List.filter_append, List.map_append]
 congr 1
 by_cases h : (n : Int) ≠ s.fIn ∧ (n : Int) ≠ s.fOut
 ·rw [if_pos h, List.filter_cons_of_pos (by simpa using h)]; rfl
 rw [if_neg h, List.filter_cons_of_neg (by simpa using h)]; rfl
theorem aGh (s : bB) (n : Nat) : (bsN s n).length ≤ n := by
 unfold bsN; rw [List.length_map]; exact Nat.le_trans (List.length_filter_le _ _) (by simp)
def sdN (l : aC) (s : bB) : Nat := (fF (d7 l s.fEl.toNat).fKind).toNat
def gF (l : aC) (s : bB) : List cC := if (iG l s).2 = true then bsN s (sdN l s) else []
theorem bFj {l : aC} {s : bB} (h : (iG l s).2 = false) : gF l s = [] := by unfold gF; rw [if_neg (by rw [h]; simp)]
theorem bQe {l : aC} {s : bB} (h : (iG l s).2 = true) : gF l s = bsN s (sdN l s) := by unfold gF; rw [if_pos h]
theorem bGv {l : aC} {s : bB} (h : s.fEl < 0 ∨ (l.fElements.length : Int) ≤ s.fEl) : gF l s = [] := bFj (by rw [vE (bSr.2 (by omega))])
theorem aKn (l : aC) (s : bB) : sdN l s ≤ 4 := by unfold sdN; have := rO (d7 l s.fEl.toNat).fKind; omega
theorem yF (l : aC) (s : bB) : (gF l s).length ≤ 4 := by
 unfold gF; split
 ·exact Nat.le_trans (aGh _ _) (aKn l s)
 simp
def cJ (l : aC) (q : List bB) : List cC := q.flatMap (gF l)
theorem aWc (l : aC) {q : List bB} {i : Nat} (h : i < q.length) : cJ l (q.take (i + 1)) = cJ l (q.take i) ++ gF l (q.getD i default) := by
 rw [fP default h]; unfold cJ; rw [List.flatMap_append]; simp
theorem uP (l : aC) (q : List bB) : (cJ l q).length ≤ 4 * q.length := by
 unfold cJ
 induction q with
 | nil => simp
 | cons a q ih => rw [List.flatMap_cons, List.length_append, List.length_cons]; have := yF l a; omega
abbrev aOf (l : List cC) : DV := rowL 49 2 bO l
def oL (k i p : Int) : Nat → Int × Bool
 | 0 => (0, false)
 | n + 1 => if (cF k i ((4 - (n + 1) : Nat) : Int)).2 = true ∧ ((cF k i ((4 - (n + 1) : Nat) : Int)).1 = 0 ∨ (cF k i ((4 - (n + 1) : Nat) : Int)).1 = p) then (((4 - (n + 1) : Nat) : Int), true) else oL k i p n
theorem aLx {k i p : Int} {j : Nat} (h : j < 4) : oL k i p (4 - j) = if (cF k i (j : Int)).2 = true ∧ ((cF k i (j : Int)).1 = 0 ∨ (cF k i (j : Int)).1 = p) then ((j : Int), true) else oL k i p (4 - (j + 1)) := by
 rw [show 4 - j = (4 - (j + 1)) + 1 by omega, oL, show 4 - (4 - (j + 1) + 1) = j by omega]
def aFf (r : bE) (f : cC) : aM × Int × Bool := if ndR r ⟨f.fEl, if f.fSide = 2 then 2 else 1⟩ = true then (St0, -1, false) else (⟨f.fEl, if f.fSide = 2 then 1 else 2⟩, -1, true)
def prT (p : Option (aM × Int)) : aM × Int × Bool := match p with
 | some (s, g) => (s, g, true)
 | none => (St0, -1, false)
theorem bJr {r : bE} {f : cC} (h : f.fSide = 1 ∨ f.fSide = 2) : aFf r f = prT ((awS r f).map fun s => (s, -1)) := by
 unfold aFf awS
 rcases h with h | h
 ·rw [h]
  have : cF 2 1 0 = (1, true) := rfl
  rw [this]
  by_cases hn : ndR r ⟨f.fEl, 1⟩ = true
  ·simp [hn, prT]
  simp [hn, prT]
 rw [h]
 have : cF 2 2 0 = (2, true) := rfl
 rw [this]
 by_cases hn : ndR r ⟨f.fEl, 2⟩ = true
 ·simp [hn, prT]
 simp [hn, prT]
structure Vld (l : aC) : Prop where
 few : dX l
 els : kT l = true
 jo : ∀ e, (aD l e).2 = true → n0 l (aD l e).1 = true
theorem rG {l : aC} (hv : Vld l) {e : cC} (h : (aD l e).2 = true) : (0 ≤ (aD l e).1.fEl ∧ (aD l e).1.fEl < (l.fElements.length : Int)) ∧ 0 ≤ (aD l e).1.fSide ∧ (aD l e).1.fSide < fF (d7 l (aD l e).1.fEl.toNat).fKind ∧ 1 ≤ (d7 l (aD l e).1.fEl.toNat).fKind ∧ (d7 l (aD l e).1.fEl.toNat).fKind ≤ 3 := by
 have h1 := hv.jo e h
 unfold n0 at h1
 rw [Bool.and_eq_true, decide_eq_true_eq, decide_eq_true_eq] at h1
 have := s7 (f := qD l) hv.els (i := (aD l e).1.fEl.toNat) (by omega)
 unfold qD at this
 have := of_decide_eq_true this
 exact ⟨by omega, by omega, by omega, this.1.1, this.1.2⟩
theorem aXw {k i : Int} (hk : k = 1 ∨ k = 3) (h0 : 0 ≤ i) (h1 : i < fF k) : (oL k i 0 4).1 = (cZ k i).getD 0 default ∧ (cZ k i).length ≠ 0 := by
 rcases hk with rfl | rfl
 ·have : i = 0 ∨ i = 1 := by have : fF 1 = 2 := rfl; omega
  rcases this with rfl | rfl <;> decide
 have : i = 0 ∨ i = 1 ∨ i = 2 ∨ i = 3 := by have : fF 3 = 4 := rfl; omega
 rcases this with rfl | rfl | rfl | rfl <;> decide
theorem aGm (O : aU) (k i p : Int) : aW Tryz.prog O 148 [vi k, vi i, vi p] (.tup [vi (oL k i p 4).1, vb (oL k i p 4).2]) := by
 refine dT Tryz.func148 ?_
 refine aB [0, 1, 2] ?_
 refine aA fun K1 hK1 => ?_
 refine aB [0, 1, 2] ?_
 refine aK ?_
 refine aX [0, 1, 2, 8] (fun n ρ => ∃ j, n = 4 - j ∧ (j ≤ 4) ∧ (oL k i p 4 = oL k i p (4 - j)) ∧ ρ = cU O [(0, vi k), (1, vi i), (2, vi p), (8, vi (j : Nat))]) _ ⟨0, rfl, ?_, ?_, ?_⟩ ?_
 ·exact bD
 ·rfl
 ·exact cD
 rintro n ρ ⟨j, rfl, l0_0, l0_1, rfl⟩ K3 hK3
 refine aA fun K4 hK4 => ?_
 refine aB [0, 1, 2, 8] ?_
 refine aS (fun c0 => ?_) fun c0 => ?_
 ·refine aJ ?_
  refine hK4 _ ?_; clear hK4
  refine aA fun K6 hK6 => ?_
  refine aK ?_
  refine aA fun K7 hK7 => ?_
  refine bF [0, 1, 2, 8] ?_
  refine dM (kY _ k i (j : Nat)) ?_
  refine hK7 _ ?_; clear hK7
  refine aB [0, 1, 2, 8, 9, 10] ?_
  refine aS (fun c1 => ?_) fun c1 => ?_
  ·have hcc : (cF k i (j : Int)).2 = true ∧ ((cF k i (j : Int)).1 = 0 ∨ (cF k i (j : Int)).1 = p) := (by simpa using c1)
   refine aB [8] ?_
   refine aL ?_
   refine nC (.cons ?_ (.cons ?_ .nil))
   ·exact gZ (by simp (disch := omega) only [go_sem, seval] <;> ((rw [l0_1, aLx c0, if_pos hcc]))) rfl rfl
   exact gZ (by simp (disch := omega) only [go_sem, seval] <;> ((rw [l0_1, aLx c0, if_pos hcc]))) rfl rfl
  have hcc : ¬ ((cF k i (j : Int)).2 = true ∧ ((cF k i (j : Int)).1 = 0 ∨ (cF k i (j : Int)).1 = p)) := (by rintro ⟨h1, h2⟩; (try simp at c1); rcases c1 with c1 | c1; rw [h1] at c1; cases c1; omega)
  refine aJ ?_
  refine hK6 _ ?_; clear hK6
  refine bC [0, 1, 2, 8] ?_
  refine hK3 _ _ ?_ ⟨j + 1, rfl, ?_, ?_, ?_⟩
  ·exact bD
  ·exact bD
  ·rw [l0_1, aLx c0, if_neg hcc]
  exact cD
 refine bA ?_
 refine hK1 _ ?_; clear hK1
 refine aB [] ?_
 refine aL ?_
 refine nC (.cons ?_ (.cons ?_ .nil))
 ·exact gZ (by simp (disch := omega) only [go_sem, seval] <;> ((rw [l0_1, show 4 - j = 0 by omega]; rfl))) rfl rfl
 exact gZ (by simp (disch := omega) only [go_sem, seval] <;> ((rw [l0_1, show 4 - j = 0 by omega]; rfl))) rfl rfl
set_option maxHeartbeats 2000000 in
theorem aEh (O : aU) (r : bE) (f : cC) : aW Tryz.prog O 147 [.agg (aZ r), .agg (bO f)] (.tup [.agg (aY (aFf r f).1), vi (aFf r f).2.1, vb (aFf r f).2.2]) := by
 refine dT Tryz.func147 ?_
 refine aB [0, 1] ?_
 refine aB [2, 3, 4] ?_
 refine aB [2, 3, 4, 7] ?_
 refine x4 [2, 4, 7, 8] (fun ρ => ρ = cU O [(2, .bx (aZ r)), (4, .bx [vi 0, vi 0]), (7, .bx [vi f.fEl, vi (if f.fSide = 2 then 2 else 1)]), (8, .bx [vi f.fEl, vi (if f.fSide = 2 then 1 else 2)])]) (fun K3 hK3 => ?_) ?_
 ·skip
  refine aB [2, 3, 4, 7, 8] ?_
  refine aS (fun c0 => ?_) fun c0 => ?_
  ·refine aB [2, 3, 4, 7, 8] ?_
   refine bC [2, 3, 4, 7, 8] ?_
   refine hK3 _ ?_
   simp (disch := omega) only [go_sem, seval] <;> first | (rw [if_pos c0, if_pos c0]; done) | (rw [if_pos c0, if_pos c0]; rfl)
  refine aJ ?_
  refine hK3 _ ?_
  simp (disch := omega) only [go_sem, seval] <;> first | (rw [if_neg c0, if_neg c0]; done) | (rw [if_neg c0, if_neg c0]; rfl)
 rintro ρ rfl
 refine aA fun K6 hK6 => ?_
 refine aA fun K7 hK7 => ?_
 refine bF [2, 4, 7, 8] ?_
 refine dM (zY _ r ⟨f.fEl, if f.fSide = 2 then 2 else 1⟩) ?_
 refine hK7 _ ?_; clear hK7
 refine aS (fun c1 => ?_) fun c1 => ?_
 ·have hlr : aFf r f = (St0, -1, false) := (by unfold aFf; rw [if_pos (by simpa using c1)])
  refine aB [4] ?_
  refine aL ?_
  refine nC (.cons ?_ (.cons ?_ (.cons ?_ .nil)))
  ·exact sJ (by simp (disch := omega) only [go_sem, seval] <;> rfl) (by simp (disch := omega) only [go_sem, seval] <;> (first | (rw [hlr]; done) | (rw [hlr]; rfl))) (by kernel_rfl) (by first | rfl | (simp (disch := omega) only [go_sem, seval]))
  ·exact gZ (by simp (disch := omega) only [go_sem, seval] <;> (first | (rw [hlr]; done) | (rw [hlr]; rfl))) rfl rfl
  exact gZ (by simp (disch := omega) only [go_sem, seval] <;> (first | (rw [hlr]; done) | (rw [hlr]; rfl))) rfl rfl
 have hlr : aFf r f = (⟨f.fEl, if f.fSide = 2 then 1 else 2⟩, -1, true) := (by unfold aFf; rw [if_neg (by rw [c1]; simp)])
 refine aJ ?_
 refine hK6 _ ?_; clear hK6
 refine aB [4, 8] ?_
 refine aL ?_
 refine nC (.cons ?_ (.cons ?_ (.cons ?_ .nil)))
 ·exact sJ (by simp (disch := omega) only [go_sem, seval] <;> rfl) (by simp (disch := omega) only [go_sem, seval] <;> (first | (rw [hlr]; done) | (rw [hlr]; rfl))) (by kernel_rfl) (by first | rfl | (simp (disch := omega) only [go_sem, seval]))
 ·exact gZ (by simp (disch := omega) only [go_sem, seval] <;> (first | (rw [hlr]; done) | (rw [hlr]; rfl))) rfl rfl
 exact gZ (by simp (disch := omega) only [go_sem, seval] <;> (first | (rw [hlr]; done) | (rw [hlr]; rfl))) rfl rfl
set_option maxHeartbeats 4000000 in
theorem w5 (O : aU) (l : aC) (s : bB) (hl : dX l) : aW Tryz.prog O 78 [.agg (aI l), .agg (bJ s)] (jX (gF l s)) := by
 have hl1 := hl.sec
 have hl2 := hl.el
 have hl3 := hl.jo
 have hl4 := hl.sg
 have hl5 := hl.bl
 have hsl := aKn l s
 refine aO 0 rfl (.agg (d := f5 l.fElements) (by simp [aI]) (.sl _ _ _)) fun he => ?_
 refine dT Tryz.func78 ?_
 refine aB [0, 1] ?_
 refine aA fun K1 hK1 => ?_
 refine aB [2, 3] ?_
 refine aS (fun c0 => ?_) fun c0 => ?_
 ·refine aB [] ?_
  refine lX 4 2 bO rfl rfl ?_
  refine aL ?_
  refine b6 4 ?_
  exact cP.encL rfl (by (rw [bGv (by omega)]))
 refine aJ ?_
 refine hK1 _ ?_; clear hK1
 refine aA fun K4 hK4 => ?_
 have hxe : pS l s.fEl = true := gX.2 (by omega)
 refine bC [2, 3] ?_
 refine hK4 _ ?_; clear hK4
 refine aA fun K5 hK5 => ?_
 refine aA fun K6 hK6 => ?_
 refine bF [3, 5] ?_
 refine dM (oN _ (d7 l s.fEl.toNat).fKind s.fIn s.fOut) ?_
 refine hK6 _ ?_; clear hK6
 refine aB [3, 5, 7] ?_
 refine aS (fun c1 => ?_) fun c1 => ?_
 ·have hps : (iG l s).2 = false := (by rw [o0 hxe]; simpa using c1)
  refine aB [] ?_
  refine lX 4 2 bO rfl rfl ?_
  refine aL ?_
  refine b6 4 ?_
  exact cP.encL rfl (by (rw [bFj hps]))
 have hps : (iG l s).2 = true := (by rw [o0 hxe]; simpa using c1)
 refine aJ ?_
 refine hK5 _ ?_; clear hK5
 refine aB [3, 5] ?_
 refine aA fun K10 hK10 => ?_
 refine aA fun K11 hK11 => ?_
 refine bF [3, 5, 8] ?_
 refine dM (sC _ (d7 l s.fEl.toNat).fKind) ?_
 refine hK11 _ ?_; clear hK11
 refine aK ?_
 refine d9 8 49 2 bO rfl rfl ?_
 have hsd : fF (d7 l s.fEl.toNat).fKind = ((sdN l s : Nat) : Int) := (by unfold sdN; have := rO (d7 l s.fEl.toNat).fKind; omega)
 rw [hsd]
 refine aX [3, 8, 40, 41] (fun n ρ => ∃ i, n = sdN l s - i ∧ (i ≤ sdN l s) ∧ ρ = cU O [(3, .bx (bJ s)), (8, aOf (bsN s i)), (40, vi (sdN l s : Nat)), (41, vi (i : Nat))]) _ ⟨0, rfl, ?_, ?_⟩ ?_
 ·exact bD
 ·exact cD
 rintro n ρ ⟨i, rfl, l0_0, rfl⟩ K12 hK12
 have hbl := aGh s i
 refine aB [3, 8, 40, 41] ?_
 refine aA fun K14 hK14 => ?_
 refine aS (fun c2 => ?_) fun c2 => ?_
 ·refine aJ ?_
  refine hK14 _ ?_; clear hK14
  refine aA fun K15 hK15 => ?_
  refine aK ?_
  refine aB [3, 8, 40, 41] ?_
  refine aB [3, 8, 9, 40, 41] ?_
  refine aS (fun c3 => ?_) fun c3 => ?_
  ·have hcc : (i : Int) ≠ s.fIn ∧ (i : Int) ≠ s.fOut := (by simpa using c3)
   refine bC [3, 8, 9, 40, 41] ?_
   refine hK15 _ ?_; clear hK15
   refine bC [3, 8, 40, 41] ?_
   refine hK12 _ _ ?_ ⟨i + 1, rfl, ?_, ?_⟩
   ·exact bD
   ·exact bD
   simp (disch := omega) only [go_sem, seval] <;> (rw [aOs, if_pos hcc]; first | rfl | simp)
  have hcc : ¬ ((i : Int) ≠ s.fIn ∧ (i : Int) ≠ s.fOut) := (by rintro ⟨h1, h2⟩; (try simp at c3); rcases c3 with c3 | c3; exact h1 c3; exact h2 c3)
  refine aJ ?_
  refine hK15 _ ?_; clear hK15
  refine bC [3, 8, 40, 41] ?_
  refine hK12 _ _ ?_ ⟨i + 1, rfl, ?_, ?_⟩
  ·exact bD
  ·exact bD
  simp (disch := omega) only [go_sem, seval] <;> (rw [aOs, if_neg hcc, List.append_nil]; rfl)
 refine bA ?_
 refine hK10 _ ?_; clear hK10
 refine aA fun K18 hK18 => ?_
 refine dG 8 _ rfl rfl ?_
 refine bC [8] ?_
 refine hK18 _ ?_; clear hK18
 refine aL ?_
 refine b6 4 ?_
 exact cP.encL rfl (by (rw [bQe hps, show i = sdN l s by omega]))
set_option maxHeartbeats 4000000 in
theorem pG (O : aU) (l : aC) (s : bB) (hl : dX l) : aW Tryz.prog O 145 [.agg (aI l), .agg (bJ s)] (jX (gF l s)) := by
 have hl1 := hl.sec
 have hl2 := hl.el
 have hl3 := hl.jo
 have hl4 := hl.sg
 have hl5 := hl.bl
 have hsl := aKn l s
 have hsb := rO (d7 l s.fEl.toNat).fKind
 refine aO 0 rfl (.agg (d := f5 l.fElements) (by simp [aI]) (.sl _ _ _)) fun he => ?_
 refine dT Tryz.func145 ?_
 refine aB [0, 1] ?_
 refine aA fun K1 hK1 => ?_
 refine aB [2, 3] ?_
 refine aS (fun c0 => ?_) fun c0 => ?_
 ·refine aB [] ?_
  refine lX 4 2 bO rfl rfl ?_
  refine aL ?_
  refine b6 4 ?_
  exact cP.encL rfl (by (rw [bGv (by omega)]))
 refine aJ ?_
 refine hK1 _ ?_; clear hK1
 refine aA fun K4 hK4 => ?_
 have hxe : pS l s.fEl = true := gX.2 (by omega)
 refine bC [2, 3] ?_
 refine hK4 _ ?_; clear hK4
 refine aA fun K5 hK5 => ?_
 refine bF [3, 5] ?_
 refine dM (kY _ (d7 l s.fEl.toNat).fKind s.fIn s.fOut) ?_
 refine hK5 _ ?_; clear hK5
 refine aB [3, 5, 7] ?_
 refine aA fun K7 hK7 => ?_
 refine aB [3, 5, 7, 8] ?_
 refine aK ?_
 refine d9 8 49 2 bO rfl rfl ?_
 refine aX [3, 5, 7, 8, 9] (fun n ρ => ∃ i, n = sdN l s - i ∧ (i ≤ sdN l s) ∧ ρ = cU O [(3, .bx (bJ s)), (5, vi (d7 l s.fEl.toNat).fKind), (7, vb (iG l s).2), (8, aOf (if (iG l s).2 = true then bsN s i else [])), (9, vi (i : Nat))]) _ ⟨0, rfl, ?_, ?_⟩ ?_
 ·exact bD
 ·simp (disch := omega) only [go_sem, seval] <;> (rw [o0 hxe]; cases (cF (d7 l s.fEl.toNat).fKind s.fIn s.fOut).2 <;> rfl)
 rintro n ρ ⟨i, rfl, l0_0, rfl⟩ K9 hK9
 have hbl := aGh s i
 have hbl2 : (if (iG l s).2 = true then bsN s i else []).length ≤ i := (by split; exact hbl; simp)
 have hsd : fF (d7 l s.fEl.toNat).fKind = ((sdN l s : Nat) : Int) := (by unfold sdN; omega)
 refine aA fun K10 hK10 => ?_
 refine aA fun K11 hK11 => ?_
 refine bF [3, 5, 7, 8, 9] ?_
 refine dM (pV _ (d7 l s.fEl.toNat).fKind) ?_
 refine hK11 _ ?_; clear hK11
 refine aS (fun c1 => ?_) fun c1 => ?_
 ·refine aJ ?_
  refine hK10 _ ?_; clear hK10
  refine aA fun K12 hK12 => ?_
  refine aK ?_
  refine aB [3, 5, 7, 8, 9] ?_
  refine aS (fun c2 => ?_) fun c2 => ?_
  ·have hcc : ((iG l s).2 = true ∧ (i : Int) ≠ s.fIn) ∧ (i : Int) ≠ s.fOut := (by simpa using c2)
   refine bC [3, 5, 7, 8, 9] ?_
   refine hK12 _ ?_; clear hK12
   refine bC [3, 5, 7, 8, 9] ?_
   refine hK9 _ _ ?_ ⟨i + 1, rfl, ?_, ?_⟩
   ·exact bD
   ·exact bD
   simp (disch := omega) only [go_sem, seval] <;> (rw [if_pos hcc.1.1, if_pos hcc.1.1, aOs, if_pos ⟨hcc.1.2, hcc.2⟩]; first | rfl | simp)
  have hcc : ¬ (((iG l s).2 = true ∧ (i : Int) ≠ s.fIn) ∧ (i : Int) ≠ s.fOut) := (by rintro ⟨⟨h1, h2⟩, h3⟩; (try simp at c2); rcases c2 with (c2 | c2) | c2; rw [h1] at c2; cases c2; exact h2 c2; exact h3 c2)
  refine aJ ?_
  refine hK12 _ ?_; clear hK12
  refine bC [3, 5, 7, 8, 9] ?_
  refine hK9 _ _ ?_ ⟨i + 1, rfl, ?_, ?_⟩
  ·exact bD
  ·exact bD
  simp (disch := omega) only [go_sem, seval] <;> (split; rename_i hp; rw [aOs, if_neg (fun h => hcc ⟨⟨hp, h.1⟩, h.2⟩), List.append_nil]; rfl; rfl)
 refine bA ?_
 refine hK7 _ ?_; clear hK7
 refine aA fun K14 hK14 => ?_
 refine dG 8 _ rfl rfl ?_
 refine bC [8] ?_
 refine hK14 _ ?_; clear hK14
 refine aL ?_
 refine b6 4 ?_
 exact cP.encL rfl (by (rw [show i = sdN l s by omega]; rfl))
section
variable (l : aC)
theorem i6 : (aI l).length = 6 := rfl
theorem iW : iA (fun x => x + 100000) (aI l) = aI l := rfl
theorem iY (p : Nat → Bool) : dS p (aI l) = true := rfl
theorem f7 : List.take 6 (aI l) = aI l := rfl
theorem lT : (aI l).getD 0 .any = vs l.fName := rfl
theorem lP : (aI l).getD 1 .any = encL 1 eS l.fSections := rfl
theorem lN : (aI l).getD 2 .any = encL 7 eM l.fElements := rfl
theorem lM : (aI l).getD 3 .any = encL 4 sK l.fJoints := rfl
theorem lK : (aI l).getD 4 .any = encL 4 eC l.fSignals := rfl
theorem lQ : (aI l).getD 5 .any = encL 3 rE l.fBalises := rfl
end
section
variable (r : bE)
theorem jH : (aZ r).length = 14 := rfl
theorem jO : iA (fun x => x + 100000) (aZ r) = aZ r := rfl
theorem jQ (p : Nat → Bool) : dS p (aZ r) = true := rfl
theorem gS : List.take 14 (aZ r) = aZ r := rfl
theorem mV : (aZ r).getD 0 .any = vs r.fName := rfl
theorem mC : (aZ r).getD 1 .any = vi r.fEntry := rfl
theorem l2 : (aZ r).getD 2 .any = vi r.fExit := rfl
theorem mO : (aZ r).getD 3 .any = encL 3 bJ r.fPath := rfl
theorem mJ : (aZ r).getD 4 .any = encL 2 aY r.fPoints := rfl
theorem mD : (aZ r).getD 5 .any = encL 1 eI r.fSections := rfl
theorem mT : (aZ r).getD 6 .any = vi r.fApproach := rfl
theorem mM : (aZ r).getD 7 .any = vi r.fLength := rfl
theorem mH : (aZ r).getD 8 .any = encL 3 bJ r.fOver := rfl
theorem mU : (aZ r).getD 9 .any = encL 2 aY r.fOverPoints := rfl
theorem jG : (aZ r).getD 10 .any = encL 1 eI r.fOverSections := rfl
theorem jJ : (aZ r).getD 11 .any = encL 2 aY r.fFlank := rfl
theorem jK : (aZ r).getD 12 .any = encL 1 eI r.fGuards := rfl
theorem jL : (aZ r).getD 13 .any = encL 2 bO r.fGaps := rfl
end
abbrev exQ (l : aC) (q : List bB) : Int := iP l (lR q)
def nmQ (l : aC) (x : Int) : ByteArray := if 0 ≤ x then (l.fSignals.getD x.toNat default).fName else ⟨#[101, 110, 100]⟩
def zQ (l : aC) (a : Int) (q : List bB) : bE := ⟨(l.fSignals.getD a.toNat default).fName ++ ⟨#[45]⟩ ++ nmQ l (exQ l q), a, exQ l q, q, oD l q, dZ l q, bY l (l.fSignals.getD a.toNat default).fAt.fEl, fL l q, [], [], [], [], [], []⟩
theorem bGh (l : aC) {x : Int} (h : 0 ≤ x) : nmQ l x = (l.fSignals.getD x.toNat default).fName := by unfold nmQ; rw [if_pos h]
theorem bGa (l : aC) {x : Int} (h : ¬ 0 ≤ x) : nmQ l x = ⟨#[101, 110, 100]⟩ := by unfold nmQ; rw [if_neg h]
theorem aSg {l : aC} (hs : ∀ i, i < l.fSignals.length → (l.fSignals.getD i default).fName.size ≤ 1000) {x : Int} (hx : x < (l.fSignals.length : Int)) : (nmQ l x).size ≤ 1000 := by
 unfold nmQ
 split
 ·exact hs _ (by omega)
 decide
theorem bEa {q : List hM} {e : cC} : ∀ {n : Nat}, qH q e n < ((n + q.length : Nat) : Int) ∧ -1 ≤ qH q e n := by
 induction q with
 | nil => intro n; unfold qH; simp; omega
 | cons a q ih =>
  intro n
  unfold qH
  split
  ·simp; omega
  have := ih (n := n + 1); rw [List.length_cons]; omega
theorem aHs (l : aC) (q : List bB) : exQ l q < (l.fSignals.length : Int) ∧ -1 ≤ exQ l q := by
 have := bEa (q := l.fSignals) (e := lR q) (n := 0)
 unfold exQ
 rw [Nat.zero_add] at this
 exact this
section
attribute [local go_sem] List.drop_zero i6 iW iY f7 lT lP lN lM lK lQ jH jO jQ gS mV mC l2 mO mJ mD mT mM mH mU jG jJ jK jL
set_option maxHeartbeats 100000000 in
theorem aAw (O : aU) (l : aC) (a : Int) (q : List bB) (hl : dX l) (hes : kT l = true) (ha : 0 ≤ a ∧ a < (l.fSignals.length : Int)) (hs : ∀ i, i < l.fSignals.length → (l.fSignals.getD i default).fName.size ≤ 1000) (hq0 : 0 < q.length) (hq : q.length ≤ 100) (hnd : (q.map (·.fEl)).Nodup) : aW Tryz.prog O 120 [.agg (aI l), vi a, bN q] (.agg (aZ (zQ l a q))) := by
 have hl1 := hl.sec
 have hl2 := hl.el
 have hl3 := hl.jo
 have hl4 := hl.sg
 have hl5 := hl.bl
 have hxb := aHs l q
 have hxs := aSg hs hxb.1
 refine aO 0 rfl (.agg (d := gB l.fSignals) (by simp [aI]) (.sl _ _ _)) fun hsl => ?_
 refine aO 2 rfl (.sl _ _ _) fun hql => ?_
 refine dT Tryz.func120 ?_
 refine aB [0, 1, 2] ?_
 refine aB [1, 2, 3, 6] ?_
 refine aA fun K2 hK2 => ?_
 refine e5 [1, 2, 3, 6, 7] [] ?_
 refine cdz (aBx _ q hq0) ?_
 refine cdz (iT _ l (lR q)) ?_
 refine hK2 _ ?_; clear hK2
 refine x4 [1, 2, 3, 6, 7, 8, 9] (fun ρ => ρ = cU O [(1, vi a), (2, bN q), (3, .bx (aI l)), (6, .bx [vs ⟨#[]⟩, vi 0, vi 0, .v (.slice none 0 0), .v (.slice none 0 0), .v (.slice none 0 0), vi 0, vi 0, .v (.slice none 0 0), .v (.slice none 0 0), .v (.slice none 0 0), .v (.slice none 0 0), .v (.slice none 0 0), .v (.slice none 0 0)]), (7, .bx (eC (l.fSignals.getD a.toNat default))), (8, vs (nmQ l (iP l (lR q)))), (9, vi (iP l (lR q)))]) (fun K3 hK3 => ?_) ?_
 ·skip
  refine aB [1, 2, 3, 6, 7, 8, 9] ?_
  refine aS (fun c0 => ?_) fun c0 => ?_
  ·have hx : 0 ≤ iP l (lR q) := (by simpa using c0)
   refine a7 [1, 2, 3, 6, 7, 9] (by kernel_rfl) ?_
   ((try simp only [go_sem, seval]); try simp (disch := omega) only [go_sem, seval])
   repeat refine And.intro (by first | exact ⟨hx, hxb.1⟩ | exact bS) ?_
   refine hK3 _ ?_
   ((try simp only [go_sem, seval]); try simp (disch := omega) only [go_sem, seval]) <;> first | (rw [bGh l hx]; done) | (rw [bGh l hx]; rfl)
  have hx : ¬ 0 ≤ iP l (lR q) := (by simpa using c0)
  refine aJ ?_
  refine hK3 _ ?_
  ((try simp only [go_sem, seval]); try simp (disch := omega) only [go_sem, seval]) <;> first | (rw [bGa l hx]; done) | (rw [bGa l hx]; rfl)
 rintro ρ rfl
 refine aA fun K5 hK5 => ?_
 refine eE [1, 2, 3, 6, 7, 8, 9] [] fK (by kernel_rfl) ?_
 ((try simp only [go_sem, seval]); try simp (disch := omega) only [go_sem, seval])
 repeat refine And.intro (by first | exact zM (hs _ (by omega)) (by decide) | exact vO (hs _ (by omega)) (by decide) hxs | exact bS) ?_
 refine dR (nR _ l q hl hq hnd) ?_ ?_
 ·rfl
 try ((try simp only [go_sem, seval]); try simp (disch := omega) only [go_sem, seval])
 repeat refine And.intro (by first | exact zM (hs _ (by omega)) (by decide) | exact vO (hs _ (by omega)) (by decide) hxs | exact bS) ?_
 refine dR (oG _ l q hl hes hq) ?_ ?_
 ·rfl
 try ((try simp only [go_sem, seval]); try simp (disch := omega) only [go_sem, seval])
 repeat refine And.intro (by first | exact zM (hs _ (by omega)) (by decide) | exact vO (hs _ (by omega)) (by decide) hxs | exact bS) ?_
 refine dR (dU _ l (l.fSignals.getD a.toNat default).fAt.fEl) ?_ ?_
 ·rfl
 try ((try simp only [go_sem, seval]); try simp (disch := omega) only [go_sem, seval])
 repeat refine And.intro (by first | exact zM (hs _ (by omega)) (by decide) | exact vO (hs _ (by omega)) (by decide) hxs | exact bS) ?_
 refine dR (aAv _ l q hl hes hq) ?_ ?_
 ·rfl
 try ((try simp only [go_sem, seval]); try simp (disch := omega) only [go_sem, seval])
 repeat refine And.intro (by first | exact zM (hs _ (by omega)) (by decide) | exact vO (hs _ (by omega)) (by decide) hxs | exact bS) ?_
 refine hK5 _ ?_; clear hK5
 refine bDf 6 rfl rfl (ds := aZ (zQ l a q)) (.cons (bV.refl _) (.cons (bV.refl _) (.cons (bV.refl _) (.cons (bV.refl _) (.cons (bV.refl _) (.cons (bV.refl _) (.cons (bV.refl _) (.cons (bV.refl _) (.cons (bV.nilL _) (.cons (bV.nilL _) (.cons (bV.nilL _) (.cons (bV.nilL _) (.cons (bV.nilL _) (.cons (bV.nilL _) .nil)))))))))))))) ?_
 refine aL ?_
 refine iK 6 46 rfl (by ((try simp only [go_sem, seval]); try simp (disch := omega) only [go_sem, seval])) (by ((try simp only [go_sem, seval]); try simp (disch := omega) only [go_sem, seval]) <;> (exact bD)) (by ((try simp only [go_sem, seval]); try simp (disch := omega) only [go_sem, seval])) (by ((try simp only [go_sem, seval]); try simp (disch := omega) only [go_sem, seval]))
end
end Go.Sg
namespace Go.Proofs
open Go.Shelf
def Tryz.laysM171_ren : Go.Shelf.Ren := ⟨fun | 171 => 121 | 243 => 175 | 246 => 209 | 283 => 218 | 284 => 219 | 285 => 220 | 286 => 221 | 129 => 166 | 317 => 224 | 318 => 225 | 319 => 226 | 320 => 227 | 337 => 229 | 338 => 230 | n => n, fun | 3 => 3 | 9 => 9 | 2 => 2 | 4 => 4 | 171 => 221 | 0 => 0 | 53 => 172 | 37 => 206 | 5 => 5 | 173 => 223 | 212 => 227 | 51 => 170 | 20 => 20 | 213 => 228 | 46 => 131 | 232 => 230 | 233 => 231 | n => n, fun | 17 => 2 | 18 => 3 | 19 => 4 | n => n⟩
theorem Tryz.laysM171 : Go.Proofs.LaysM.n171 Tryz.prog Tryz.laysM171_ren := {
 mixed := by kernel_rfl
 f129 := Tryz.func166.trans (congrArg some (by kernel_rfl))
 f171 := Tryz.func121.trans (congrArg some (by kernel_rfl))
 f243 := Tryz.func175.trans (congrArg some (by kernel_rfl))
 f246 := Tryz.func209.trans (congrArg some (by kernel_rfl))
 f283 := Tryz.func218.trans (congrArg some (by kernel_rfl))
 f284 := Tryz.func219.trans (congrArg some (by kernel_rfl))
 f285 := Tryz.func220.trans (congrArg some (by kernel_rfl))
 f286 := Tryz.func221.trans (congrArg some (by kernel_rfl))
 f317 := Tryz.func224.trans (congrArg some (by kernel_rfl))
 f318 := Tryz.func225.trans (congrArg some (by kernel_rfl))
 f319 := Tryz.func226.trans (congrArg some (by kernel_rfl))
 f320 := Tryz.func227.trans (congrArg some (by kernel_rfl))
 f337 := Tryz.func229.trans (congrArg some (by kernel_rfl))
 f338 := Tryz.func230.trans (congrArg some (by kernel_rfl))
 t0 := Tryz.underlying0
 a0 := Tryz.isAgg0
 z0 := Tryz.sizeOf0
 v0 := Tryz.zeroValue0
 t2 := Tryz.underlying2
 a2 := Tryz.isAgg2
 z2 := Tryz.sizeOf2
 v2 := Tryz.zeroValue2
 t3 := Tryz.underlying3
 a3 := Tryz.isAgg3
 z3 := Tryz.sizeOf3
 v3 := Tryz.zeroValue3
 t4 := Tryz.underlying4
 a4 := Tryz.isAgg4
 z4 := Tryz.sizeOf4
 v4 := Tryz.zeroValue4
 t5 := Tryz.underlying5
 a5 := Tryz.isAgg5
 z5 := Tryz.sizeOf5
 v5 := Tryz.zeroValue5
 t9 := Tryz.underlying9
 a9 := Tryz.isAgg9
 z9 := Tryz.sizeOf9
 v9 := Tryz.zeroValue9
 t20 := Tryz.underlying20
 a20 := Tryz.isAgg20
 z20 := Tryz.sizeOf20
 v20 := Tryz.zeroValue20
 t37 := Tryz.underlying206
 a37 := Tryz.isAgg206
 z37 := Tryz.sizeOf206
 v37 := Tryz.zeroValue206
 t46 := Tryz.underlying131
 a46 := Tryz.isAgg131
 z46 := Tryz.sizeOf131
 v46 := Tryz.zeroValue131
 t51 := Tryz.underlying170
 a51 := Tryz.isAgg170
 z51 := Tryz.sizeOf170
 v51 := Tryz.zeroValue170
 t53 := Tryz.underlying172
 a53 := Tryz.isAgg172
 z53 := Tryz.sizeOf172
 v53 := Tryz.zeroValue172
 t171 := Tryz.underlying221
 a171 := Tryz.isAgg221
 z171 := Tryz.sizeOf221
 v171 := Tryz.zeroValue221
 t173 := Tryz.underlying223
 a173 := Tryz.isAgg223
 z173 := Tryz.sizeOf223
 v173 := Tryz.zeroValue223
 t212 := Tryz.underlying227
 a212 := Tryz.isAgg227
 z212 := Tryz.sizeOf227
 v212 := Tryz.zeroValue227
 t213 := Tryz.underlying228
 a213 := Tryz.isAgg228
 z213 := Tryz.sizeOf228
 t232 := Tryz.underlying230
 a232 := Tryz.isAgg230
 z232 := Tryz.sizeOf230
 v232 := Tryz.zeroValue230
 t233 := Tryz.underlying231
 a233 := Tryz.isAgg231
 z233 := Tryz.sizeOf231
 v233 := Tryz.zeroValue231
 g17 := by kernel_rfl
 g18 := by kernel_rfl
 g19 := by kernel_rfl
 i0 := by kernel_rfl
 i2 := by kernel_rfl
 i3 := by kernel_rfl
 i4 := by kernel_rfl
 i5 := by kernel_rfl
 i9 := by kernel_rfl
 i20 := by kernel_rfl
 i37 := by kernel_rfl
 i46 := by kernel_rfl
 i51 := by kernel_rfl
 i53 := by kernel_rfl
 i171 := by kernel_rfl
 i173 := by kernel_rfl
 i212 := by kernel_rfl
 i232 := by kernel_rfl
 i233 := by kernel_rfl
 m17 := by kernel_rfl
 m18 := by kernel_rfl
 m19 := by kernel_rfl }
open Go.RowKit Go.Sort Go.Lib in
theorem Tryz.strconv_Itoa (n : Int) (h0 : -9223372036854775808 ≤ n) (h1 : n ≤ 9223372036854775807) (w : World) (htab : Lib.TabIs Tryz.prog w "internal/strconv.uint64pow10" .u64 Lib.pow10Tab) :
  Calls Tryz.prog 121 #[.int .i64 n] w fun e w' => e = .returned (.string ⟨(Lib.itoa n).toArray⟩) ∧ ∃ k os, w' = grow (w.drewN k) os := Any.strconv_Itoa Tryz.laysM171 n h0 h1 w htab
end Go.Proofs
namespace Go.Sg
def bs (l : List UInt8) : ByteArray := ⟨l.toArray⟩
def fmt (n : Int) : ByteArray := bs (Lib.itoa n)
theorem bMv (a b : List UInt8) : bs a ++ bs b = bs (a ++ b) := by
 apply ByteArray.ext
 simp [bs]
theorem aNm (l : List UInt8) : (bs l).size = l.length := by simp [bs, ByteArray.size]
def dgt (d : Nat) : UInt8 := UInt8.ofNat (48 + d)
theorem bEk (u : Nat) (h : u < 18446744073709551616) : (Lib.decDigits u).length ≤ 20 := by
 rw [Lib.decDigits_length]
 exact Lib.nDigits_le20 u h
theorem aHk (u : Nat) (h : ¬ u < 10) : Lib.decDigits u = Lib.decDigits (u / 10) ++ [dgt (u % 10)] := by
 rw [Lib.decDigits, dif_neg h]; rfl
theorem aNx (u : Nat) (h : u < 10) : Lib.decDigits u = [dgt u] := by
 rw [Lib.decDigits, dif_pos h]; rfl
def aWn (n m : Int) (s : List UInt8) : Prop := (s = [] ∧ m = n) ∨ (s ≠ [] ∧ ((m = 0 ∧ s = Lib.decDigits n.natAbs) ∨ (m ≠ 0 ∧ Lib.decDigits m.natAbs ++ s = Lib.decDigits n.natAbs)))
theorem qB (m : Int) : (m.tdiv 10).natAbs = m.natAbs / 10 := by
 rw [Int.natAbs_tdiv]; rfl
theorem aGx (m : Int) : (m.tmod 10).natAbs = m.natAbs % 10 := by
 rw [Int.natAbs_tmod]; rfl
theorem aUp {n m : Int} {s : List UInt8} (h : aWn n m s) (hc : m ≠ 0 ∨ s = []) : aWn n (m.tdiv 10) (dgt (m.tmod 10).natAbs :: s) := by
 refine .inr ⟨by simp, ?_⟩
 rw [aGx]
 have hz : m.tdiv 10 = 0 ↔ m.natAbs < 10 := by rw [← Int.natAbs_eq_zero, qB]; omega
 rcases h with ⟨rfl, rfl⟩ | ⟨h1, h2⟩
 ·by_cases h10 : m.natAbs < 10
  ·exact .inl ⟨hz.2 h10, by rw [aNx _ h10, Nat.mod_eq_of_lt h10]⟩
  exact .inr ⟨fun e => h10 (hz.1 e), by rw [qB, aHk _ h10]⟩
 rcases h2 with ⟨h3, _⟩ | ⟨h3, h4⟩
 ·rcases hc with h | h
  ·exact absurd h3 h
  exact absurd h h1
 by_cases h10 : m.natAbs < 10
 ·exact .inl ⟨hz.2 h10, by rw [← h4, aNx _ h10, Nat.mod_eq_of_lt h10]; rfl⟩
 exact .inr ⟨fun e => h10 (hz.1 e), by rw [← h4, qB, aHk _ h10]; simp⟩
theorem bCg {n m : Int} {s : List UInt8} (h : aWn n m s) (h0 : -9223372036854775808 ≤ n) (h1 : n ≤ 9223372036854775807) : s.length ≤ 20 := by
 have hd := bEk n.natAbs (by omega)
 rcases h with ⟨h1, _⟩ | ⟨_, ⟨_, h2⟩ | ⟨_, h2⟩⟩
 ·subst h1; simp
 ·rw [h2]; exact hd
 rw [← h2, List.length_append] at hd; omega
theorem bCk {n : Int} (h : ¬ n < 0) : fmt n = bs (Lib.decDigits n.natAbs) := by
 rw [fmt, Lib.itoa, if_neg h]
 congr 2
 omega
theorem aIg (n : Int) (h0 : -9223372036854775808 ≤ n) (h1 : n ≤ 9223372036854775807) : (fmt n).size ≤ 21 := by
 rw [fmt, aNm]
 exact Lib.itoa_length_le n h0 h1
theorem bAn {m : Int} (h : ¬ m.tmod 10 < 0) : ∃ d : Nat, m.tmod 10 = (d : Int) ∧ d < 10 ∧ d = (m.tmod 10).natAbs := by
 have h9 := aGx m
 exact ⟨(m.tmod 10).natAbs, by omega, by omega, rfl⟩
theorem aMn {m : Int} (h0 : -9223372036854775808 ≤ m) (h1 : m ≤ 9223372036854775807) : -9223372036854775808 ≤ m.tdiv 10 ∧ m.tdiv 10 ≤ 9223372036854775807 := by
 have h := qB m
 omega
end Go.Sg
namespace Go.Sg
open Go.RowKit Go.Proofs
theorem aKr (w : World) (I : Nat → Prop) (k : Nat) (os : Array Obj) : mQ w I (Sort.grow (w.drewN k) os) I := by
 refine ⟨rfl, ⟨rfl, by simp [Sort.grow, World.drewN]⟩, rfl, by simp [Sort.grow, World.drewN], fun g hg => ?_, fun _ h => h, fun _ h => .inl h⟩
 show (w.heap ++ os)[g]? = _
 rw [Array.getElem?_append_left hg]
theorem aYz {w : World} {I : Nat → Prop} (h : Imm w I) : Lib.TabIs Tryz.prog w "internal/strconv.uint64pow10" .u64 Lib.pow10Tab := by
 have := (h.glob 2 _ _ rfl).2
 unfold Lib.TabIs World.var?
 rw [show Tryz.prog.globalNamed "internal/strconv.uint64pow10" = some 2 from by decide +kernel]
 simp [this, aOa, Lib.pow10Tab]
 rfl
theorem aKk (O : aU) (n : Int) (h0 : -9223372036854775808 ≤ n) (h1 : n ≤ 9223372036854775807) :
  aW Tryz.prog O 121 [.v (.int .i64 n)] (.v (.string (fmt n))) := by
 intro w I A vals hO hl hv
 obtain ⟨v0, rfl⟩ : ∃ v0, vals = #[v0] := by
  obtain ⟨l⟩ := vals
  match l, hl with
  | [a], _ => exact ⟨a, rfl⟩
 have hh := hv 0 _ _ rfl rfl
 cases hh
 refine (Tryz.strconv_Itoa n h0 h1 w (aYz hO.imm)).mono fun e' w' ⟨q1, q2⟩ => ?_
 obtain ⟨k, os, q2⟩ := q2
 subst q2
 have hgr := aKr w I k os
 exact ⟨_, I, O, .v (.string (fmt n)), q1, hgr.osim hO, fun _ => eK.refl _, fun _ h => h, hgr.ext hO, .v A _, rfl, rfl⟩
end Go.Sg
namespace Go.Sg
open Go.RowKit
def bOq (P : Program) (s t : TypeId) : Bool :=
 match P.underlying s, P.underlying t with
 | some (.slice e), some .string => (match P.underlying e with | some (.int .u8) => true | _ => false)
 | _, _ => false
theorem aQe {P : Program} {s t : TypeId} (h : bOq P s t = true) : ∃ e, P.underlying s = some (.slice e) ∧ P.underlying e = some (.int .u8) ∧ P.underlying t = some .string := by
 unfold bOq at h
 split at h
 ·rename_i e h1 h2
  split at h
  ·rename_i h3; exact ⟨e, h1, h3, h2⟩
  exact absurd h (by decide)
 exact absurd h (by decide)
theorem aSp {P : Program} {nt : Nat} {ops : Array Oper} {ρ : aU} {o : Oper} {K : aU → Prop} {s t : TypeId} {x : Operand} {d : Nat} {f : Nat → List DV} {c : Int}
  (hop : o.op = .convert s t x) (hg : o.guard = none) (hdst : o.dst = some d) (hd : fG nt o = true) (ho : dL nt o = true) (hc : bOq P s t = true)
  (h1 : gd (ev ρ x)) (hx : un (ev ρ x) = .sl 1 1 f) (hf : f 0 = [.v (.int .u8 c)]) (hK : K (cA ρ (some d) (.v (.string (strOfNums [c]))))) : OW P nt ops o K ρ := by
 obtain ⟨e, hs', he, ht⟩ := aQe hc
 refine fO hg fun I A a w hs => ?_
 have hrl := hs.opd x (bL ho (x := x) (by rw [hop]; simp [Op.operands])) h1
 rw [hx] at hrl
 rw [← hdst] at hK
 generalize hv : a.eval x = v at hrl
 cases hrl with
 | sl _ z n f b o' c' us hn hc hm hI hz hcell hone hrel =>
  have hr := hrel 0 0 (.v (.int .u8 c)) (by omega) (by rw [hf]; rfl)
  have hu : us 0 0 = .int .u8 c := by
   generalize us 0 0 = q at hr
   cases hr; rfl
  have hrun : (execOp a.eval o).run P w = .ok (.value (.string (strOfNums [c]))) w := by
   have := run_convert_bytes_arg (P := P) w s e hs' he b o' 1 c' [c] rfl (fun i hi => by
    obtain rfl : i = 0 := by omega
    have := hcell 0 0 (by omega) (by omega)
    rw [hu] at this
    simpa using this) t ht
   simp only [execOp, hop, hv, Sem.run_bind, this, Result.andThen_ok, Sem.run_pure]
  exact ⟨_, w, I, A, _, hrun, hs.putV hd (.v A _), eX.refl _ _ _, hK⟩
end Go.Sg
namespace Go.Sg
open Go.Proofs
theorem bCj (a : UInt8) (l : List UInt8) : bs [a] ++ bs l = bs (a :: l) := bMv [a] l
theorem bCw (d : Nat) (h : d < 10) : strOfNums [48 + (d : Int)] = bs [dgt d] := by
 match d, h with
 | 0, _ => rfl
 | 1, _ => rfl
 | 2, _ => rfl
 | 3, _ => rfl
 | 4, _ => rfl
 | 5, _ => rfl
 | 6, _ => rfl
 | 7, _ => rfl
 | 8, _ => rfl
 | 9, _ => rfl
theorem aSq (d : Nat) (h : d < 10) : IntKind.u8.wrap (48 + (d : Int)) = 48 + (d : Int) := by
 match d, h with
 | 0, _ => rfl
 | 1, _ => rfl
 | 2, _ => rfl
 | 3, _ => rfl
 | 4, _ => rfl
 | 5, _ => rfl
 | 6, _ => rfl
 | 7, _ => rfl
 | 8, _ => rfl
 | 9, _ => rfl
theorem aZx {z m : Int} {s : List UInt8} (h : aWn z m s) (h0 : 0 < z) (hm : m = 0) : bs s = fmt z := by
 subst hm
 rw [bCk (by omega)]
 rcases h with ⟨_, h⟩ | ⟨_, ⟨_, h⟩ | ⟨h, _⟩⟩
 ·omega
 ·rw [h]
 exact absurd rfl h
attribute [go_sem] aNm bCj wX
set_option maxRecDepth 20000 in
theorem wH (O : aU) (z : Int) (h0 : 0 < z) (h1 : z ≤ 9223372036854775807) : aW Tryz.prog O 144 [vi z] (vs (fmt z)) := by
 refine dT Tryz.func144 ?_
 refine aB [0] ?_
 refine aB [0] ?_
 refine aA fun K2 hK2 => ?_
 refine aK ?_
 refine aX [0, 3] (fun n ρ => ∃ (m : Int), ∃ (s : List UInt8), n = m.natAbs ∧ (aWn z m s) ∧ (0 ≤ m) ∧ (m ≤ 9223372036854775807) ∧ ρ = cU O [(0, vi m), (3, vs (bs s))]) _ ⟨z, [], rfl, ?_, ?_, ?_, ?_⟩ ?_
 ·exact .inl ⟨rfl, rfl⟩
 ·exact bD
 ·exact bD
 ·exact cD
 rintro n ρ ⟨m, s, rfl, l0_0, l0_1, l0_2, rfl⟩ K3 hK3
 have hsl := bCg l0_0 (by omega) h1
 refine aA fun K4 hK4 => ?_
 refine aB [0, 3] ?_
 refine aS (fun c0 => ?_) fun c0 => ?_
 ·obtain ⟨d, hd, hd9, hda⟩ := bAn (m := m) (Int.not_lt.2 (Int.tmod_nonneg 10 l0_1)); obtain ⟨htd, hte⟩ := aMn (m := m) (by omega) l0_2
  refine aJ ?_
  refine hK4 _ ?_; clear hK4
  refine aK ?_
  refine aA fun K6 hK6 => ?_
  refine cQ (Le.keepC [0, 3] _) ?_
  refine f8 ?_
  refine ez ?_
  refine ez ?_
  refine ez ?_
  refine ez ?_
  show OW _ _ _ _ _ _
  refine aLj (e := 5) (z := 1) (by_ := 1) (zs := [.int .u8 0]) rfl rfl rfl (by decide) (by kernel_rfl) (by kernel_rfl) (by kernel_rfl) (by decide) (by decide) (by decide) rfl (by ((try simp only [go_sem, seval]); try simp (disch := omega) only [go_sem, seval])) ?_
  try ((try simp only [go_sem, seval]); try simp (disch := omega) only [go_sem, seval])
  show OW _ _ _ _ _ _
  refine aSp (f := fun i => [[.v (.int .u8 (48 + (d : Int)))]].getD i []) (c := 48 + (d : Int)) rfl rfl rfl (by kernel_rfl) (by kernel_rfl) (by kernel_rfl) (by ((try simp only [go_sem, seval]); try simp (disch := omega) only [go_sem, seval])) (by ((try simp only [go_sem, seval]); try simp (disch := omega) only [go_sem, seval]) <;> (rw [hd, aSq d hd9])) rfl ?_
  rw [bCw d hd9]
  try ((try simp only [go_sem, seval]); try simp (disch := omega) only [go_sem, seval])
  refine ez ?_
  show OW _ _ _ _ _ _
  refine cM rfl (by kernel_rfl) (by kernel_rfl) ?_
  ((try simp only [go_sem, seval]); try simp (disch := omega) only [go_sem, seval])
  refine ⟨(by have : maxLen = 9223372036854775807 := rfl; omega), ?_⟩
  refine ez ?_
  refine hK6 _ ?_; clear hK6
  refine bC [0, 3] ?_
  refine hK3 _ _ ?_ ⟨m.tdiv 10, dgt d :: s, rfl, ?_, ?_, ?_, ?_⟩
  ·(have := qB m; omega)
  ·(rw [hda]; exact aUp l0_0 (.inl (by omega)))
  ·exact Int.tdiv_nonneg l0_1 (by decide)
  ·exact (aMn (by omega) l0_2).2
  exact cD
 refine bA ?_
 refine hK2 _ ?_; clear hK2
 refine aB [3] ?_
 refine aL ?_
 refine b6 2 ?_
 exact cP.is (by ((try simp only [go_sem, seval]); try simp (disch := omega) only [go_sem, seval]) <;> ((rw [aZx l0_0 h0 (by omega)]))) rfl rfl
def pQ {α : Type} (nm : α → ByteArray) (P : List α) : List (ByteArray × Int) := P.foldl (fun M p => lB M (nm p) ((f0 M (nm p)).getD 0 + 1)) []
theorem vW {α : Type} (nm : α → ByteArray) (P : List α) (p : α) : pQ nm (P ++ [p]) = lB (pQ nm P) (nm p) ((f0 (pQ nm P) (nm p)).getD 0 + 1) := by
 unfold pQ; rw [List.foldl_append]; rfl
def gC {α : Type} (nm : α → ByteArray) (P : List α) (x : ByteArray) : Nat := P.countP (fun p => decide (nm p = x))
theorem oH {α : Type} (nm : α → ByteArray) (P : List α) (p : α) (x : ByteArray) : gC nm (P ++ [p]) x = gC nm P x + (if nm p = x then 1 else 0) := by
 unfold gC
 rw [List.countP_append]
 by_cases h : nm p = x <;> simp [h]
theorem x5 {α : Type} (nm : α → ByteArray) (P : List α) (x : ByteArray) : gC nm P x ≤ P.length := List.countP_le_length
theorem aVu {α : Type} (nm : α → ByteArray) (n : Nat) : ∀ (P : List α), P.length = n → ∀ x, (f0 (pQ nm P) x).getD 0 = (gC nm P x : Nat) := by
 induction n with
 | zero => intro P h x; rw [List.length_eq_zero_iff.1 h]; rfl
 | succ n ih =>
  intro P h x
  obtain ⟨Q, p, rfl⟩ : ∃ Q p, P = Q ++ [p] := ⟨P.dropLast, P.getLast (by intro e; rw [e] at h; cases h), (List.dropLast_concat_getLast _).symm⟩
  have hQ : Q.length = n := by simpa using h
  rw [vW, aDk, oH]
  by_cases hx : x = nm p
  ·subst hx
   rw [if_pos rfl, if_pos rfl, Option.getD_some, ih Q hQ]
   push_cast; rfl
  rw [if_neg hx, if_neg (fun e => hx e.symm), ih Q hQ]
  rfl
theorem aDz {α : Type} (nm : α → ByteArray) (n : Nat) : ∀ (P : List α), P.length = n → ((pQ nm P).map (·.1)).Nodup := by
 induction n with
 | zero => intro P h; rw [List.length_eq_zero_iff.1 h]; exact List.Pairwise.nil
 | succ n ih =>
  intro P h
  obtain ⟨Q, p, rfl⟩ : ∃ Q p, P = Q ++ [p] := ⟨P.dropLast, P.getLast (by intro e; rw [e] at h; cases h), (List.dropLast_concat_getLast _).symm⟩
  rw [vW]
  exact wJ (ih Q (by simpa using h))
def d5 (l : aC) (i : Int) (q : List bB) : ByteArray := (zQ l i q).fName
def mZ (r : bE) (c : Nat) : bE := if 1 < c then { r with fName := r.fName ++ (⟨#[46]⟩ ++ fmt (c : Nat)) } else r
def nbR (l : aC) (i : Int) (P : List (List bB)) (k : Nat) : bE := mZ (zQ l i (P.getD k [])) (gC (d5 l i) (P.take (k + 1)) (d5 l i (P.getD k [])))
def nK (l : aC) (i : Int) (P : List (List bB)) (n : Nat) : List bE := (List.range n).map (nbR l i P)
theorem pU (l : aC) (i : Int) (P : List (List bB)) (n : Nat) : nK l i P (n + 1) = nK l i P n ++ [nbR l i P n] := by
 unfold nK; rw [List.range_succ, List.map_append]; rfl
theorem oC (l : aC) (i : Int) (P : List (List bB)) (n : Nat) : (nK l i P n).length = n := by simp [nK]
def dH (p : aC → cC → cC → List (List bB)) (l : aC) (i : Int) : List bE :=
 if i < 0 ∨ (l.fSignals.length : Int) ≤ i then [] else
 let f := (l.fSignals.getD i.toNat default).fAt
 if (aD l f).2 = false then [] else nK l i (p l f (aD l f).1) (p l f (aD l f).1).length
end Go.Sg
