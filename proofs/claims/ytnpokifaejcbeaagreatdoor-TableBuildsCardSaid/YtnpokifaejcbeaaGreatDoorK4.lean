/- Several texts as one. -/
import Derived.Test.YtnpokifaejcbeaaGreatDoorK2
import Derived.Test.YtnpokifaejcbeaaGreatDoorK3
import Derived.Laws.RangeAny
set_option linter.unusedVariables false
set_option linter.unusedSimpArgs false
set_option maxRecDepth 20000
namespace Go.Sg
open Go.Proofs
attribute [go_sem] wX
structure Pas where
 k : Int
 i : Int
 o : Int
 n : Int
instance : Inhabited Pas := ⟨⟨0, 0, 0, 0⟩⟩
def iI : List Pas := [⟨1, 0, 1, 0⟩, ⟨1, 1, 0, 0⟩, ⟨2, 0, 1, 1⟩, ⟨2, 0, 2, 2⟩, ⟨2, 1, 0, 1⟩, ⟨2, 2, 0, 2⟩, ⟨3, 0, 1, 0⟩, ⟨3, 1, 0, 0⟩, ⟨3, 2, 3, 0⟩, ⟨3, 3, 2, 0⟩]
def bAr (p : Pas) : List DV := [vi p.k, vi p.i, vi p.o, vi p.n]
def xB : List DV := iI.flatMap bAr
theorem aNz : xB = aOe.toList.map .v := rfl
theorem aTa (p : Nat → Bool) : dS p xB = true := rfl
theorem aHa : xB.length = 40 := rfl
theorem aUa {i : Nat} (h : i < 10) : (xB.drop (i * 4)).take 4 = bAr (iI.getD i default) := by
 match i, h with
 | 0, _ | 1, _ | 2, _ | 3, _ | 4, _ | 5, _ | 6, _ | 7, _ | 8, _ | 9, _ => rfl
def cF (k i o : Int) : Int × Bool :=
 if k = 1 ∨ k = 3 then (0, decide ((min i o = 0 ∧ max i o = 1) ∨ (k = 3 ∧ min i o = 2 ∧ max i o = 3)))
 else if k = 2 ∧ min i o = 0 ∧ max i o = 1 then (1, true) else if k = 2 ∧ min i o = 0 ∧ max i o = 2 then (2, true) else (0, false)
def jR : List Pas → Int → Int → Int → Int × Bool
 | [], _, _, _ => (0, false)
 | p :: l, k, i, o => if p.k = k ∧ p.i = i ∧ p.o = o then (p.n, true) else jR l k i o
theorem bSx (i o : Int) : cF 1 i o = (0, decide (min i o = 0 ∧ max i o = 1)) := by
 unfold cF; rw [if_pos (.inl rfl)]; congr 1; rw [decide_eq_decide]; omega
theorem aSc (i o : Int) : cF 2 i o = if min i o = 0 ∧ max i o = 1 then (1, true) else if min i o = 0 ∧ max i o = 2 then (2, true) else (0, false) := by
 unfold cF; rw [if_neg (by omega)]; simp
theorem bPq (i o : Int) : cF 3 i o = (0, decide ((min i o = 0 ∧ max i o = 1) ∨ (min i o = 2 ∧ max i o = 3))) := by
 unfold cF; rw [if_pos (.inr rfl)]; congr 1; rw [decide_eq_decide]; omega
theorem bSb {k : Int} (h1 : k ≠ 1) (h2 : k ≠ 2) (h3 : k ≠ 3) (i o : Int) : cF k i o = (0, false) := by
 unfold cF
 rw [if_neg (by omega), if_neg (by omega), if_neg (by omega)]
theorem rL (k i o : Int) : jR iI k i o = cF k i o := by
 have hk : k = 1 ∨ k = 2 ∨ k = 3 ∨ (k ≠ 1 ∧ k ≠ 2 ∧ k ≠ 3) := by omega
 rcases hk with rfl | rfl | rfl | ⟨h1, h2, h3⟩
 ·have : jR iI 1 i o = if (0 : Int) = i ∧ (1 : Int) = o then (0, true) else if (1 : Int) = i ∧ (0 : Int) = o then (0, true) else (0, false) := by
   simp [jR, iI]
  rw [this, bSx]
  split
  ·rw [decide_eq_true (by omega)]
  split
  ·rw [decide_eq_true (by omega)]
  rw [decide_eq_false (by omega)]
 ·have : jR iI 2 i o = if (0 : Int) = i ∧ (1 : Int) = o then (1, true) else if (0 : Int) = i ∧ (2 : Int) = o then (2, true) else if (1 : Int) = i ∧ (0 : Int) = o then (1, true) else if (2 : Int) = i ∧ (0 : Int) = o then (2, true) else (0, false) := by
   simp [jR, iI]
  rw [this, aSc]
  repeat' split
  all_goals first | rfl | (exfalso; omega)
 ·have : jR iI 3 i o = if (0 : Int) = i ∧ (1 : Int) = o then (0, true) else if (1 : Int) = i ∧ (0 : Int) = o then (0, true) else if (2 : Int) = i ∧ (3 : Int) = o then (0, true) else if (3 : Int) = i ∧ (2 : Int) = o then (0, true) else (0, false) := by
   simp [jR, iI]
  rw [this, bPq]
  repeat' split
  all_goals first | rw [decide_eq_true (by omega)] | rw [decide_eq_false (by omega)]
 rw [bSb h1 h2 h3]
 simp [jR, iI, Ne.symm h1, Ne.symm h2, Ne.symm h3]
theorem mnI (i o : Int) : (if o < i then o else i) = min i o := by rw [Int.min_def]; split <;> split <;> omega
theorem mxI (i o : Int) : (if i < o then o else i) = max i o := by rw [Int.max_def]; split <;> split <;> omega
theorem bEs : aGo.toList.length = 4 := rfl
def fF (k : Int) : Int := if k = 1 then 2 else if k = 2 then 3 else if k = 3 then 4 else 0
theorem bJg {k : Int} (h0 : 0 ≤ k) (h1 : k < 4) : ((aGo.toList.map DV.v).drop (k.toNat * 1)).getD 0 .any = vi (fF k) := by
 have : k = 0 ∨ k = 1 ∨ k = 2 ∨ k = 3 := by omega
 rcases this with rfl | rfl | rfl | rfl <;> rfl
abbrev yT (l : List Int) : DV := rowL 3 1 eI l
def nF (l : List Pas) (k i : Int) : List Int := (l.filter fun p => decide (p.k = k ∧ p.i = i)).map (·.o)
def cZ (k i : Int) : List Int := nF iI k i
theorem zE (k i : Int) {n : Nat} (h : n < iI.length) : nF (iI.take (n + 1)) k i = nF (iI.take n) k i ++ if (iI.getD n default).k = k ∧ (iI.getD n default).i = i then [(iI.getD n default).o] else [] := by
 rw [List.take_succ_eq_append_getElem h]
 unfold nF
 rw [List.filter_append, List.map_append]
 congr 1
 rw [List.getD_eq_getElem?_getD, List.getElem?_eq_getElem h, Option.getD_some]
 by_cases q : iI[n].k = k ∧ iI[n].i = i <;> simp [List.filter_cons, q]
def wM (k i : Int) (n : Nat) : List Int := ((List.range n).filter fun s => (cF k i (s : Nat)).2).map fun s => ((s : Nat) : Int)
theorem rJ (k i : Int) (n : Nat) : wM k i (n + 1) = wM k i n ++ if (cF k i (n : Nat)).2 = true then [(n : Int)] else [] := by
 unfold wM
 rw [List.range_succ, List.filter_append, List.map_append]
 congr 1
 cases h : (cF k i (n : Nat)).2 <;> simp [List.filter_cons, h]
theorem bEo (k i : Int) : wM k i 4 = cZ k i := by
 rw [rJ, rJ, rJ, rJ]
 have e0 : wM k i 0 = [] := rfl
 rw [e0]
 have hk : k = 1 ∨ k = 2 ∨ k = 3 ∨ (k ≠ 1 ∧ k ≠ 2 ∧ k ≠ 3) := by omega
 have hi : i = 0 ∨ i = 1 ∨ i = 2 ∨ i = 3 ∨ (i ≠ 0 ∧ i ≠ 1 ∧ i ≠ 2 ∧ i ≠ 3) := by omega
 rcases hk with rfl | rfl | rfl | ⟨h1, h2, h3⟩
 ·rcases hi with rfl | rfl | rfl | rfl | ⟨q0, q1, q2, q3⟩ <;> first | rfl | (simp [← rL, jR, cZ, nF, iI, Ne.symm q0, Ne.symm q1, Ne.symm q2, Ne.symm q3])
 ·rcases hi with rfl | rfl | rfl | rfl | ⟨q0, q1, q2, q3⟩ <;> first | rfl | (simp [← rL, jR, cZ, nF, iI, Ne.symm q0, Ne.symm q1, Ne.symm q2, Ne.symm q3])
 ·rcases hi with rfl | rfl | rfl | rfl | ⟨q0, q1, q2, q3⟩ <;> first | rfl | (simp [← rL, jR, cZ, nF, iI, Ne.symm q0, Ne.symm q1, Ne.symm q2, Ne.symm q3])
 simp [← rL, jR, cZ, nF, iI, Ne.symm h1, Ne.symm h2, Ne.symm h3]
set_option maxRecDepth 20000 in
theorem oN (O : aU) (k i o : Int) : aW Tryz.prog O 123 [vi k, vi i, vi o] (.tup [vi (cF k i o).1, vb (cF k i o).2]) := by
 rw [← rL]
 have hpl : iI.length = 10 := rfl
 refine dT Tryz.func123 ?_
 refine aB [0, 1, 2] ?_
 refine aA fun K1 hK1 => ?_
 refine aA fun K2 hK2 => ?_
 refine cQ (Le.keepC [0, 1, 2] _) ?_
 refine f8 ?_
 show OW _ _ _ _ _ _
 refine cM rfl (by kernel_rfl) (by kernel_rfl) ?_
 simp only [go_sem, GT]
 rw [← aNz]
 simp (disch := omega) only [go_sem, seval]
 rw [show List.take 40 xB = xB from rfl]
 refine And.intro (by decide) ?_
 refine ez ?_
 refine hK2 _ ?_; clear hK2
 refine aK ?_
 refine aX [0, 1, 2, 10, 11] (fun n ρ => ∃ j, n = 10 - j ∧ (j ≤ 10) ∧ (jR iI k i o = jR (iI.drop j) k i o) ∧ ρ = cU O [(0, vi k), (1, vi i), (2, vi o), (10, .agg xB), (11, vi (j : Nat))]) _ ⟨0, rfl, ?_, ?_, ?_⟩ ?_
 ·exact bD
 ·rfl
 ·exact cD
 rintro n ρ ⟨j, rfl, l0_0, l0_1, rfl⟩ K3 hK3
 refine aB [0, 1, 2, 10, 11] ?_
 refine aA fun K5 hK5 => ?_
 refine aS (fun c0 => ?_) fun c0 => ?_
 ·refine aJ ?_
  refine hK5 _ ?_; clear hK5
  refine aA fun K6 hK6 => ?_
  refine aK ?_
  refine aA fun K7 hK7 => ?_
  refine cQ (Le.keepC [0, 1, 2, 10, 11] _) ?_
  refine f8 ?_
  show OW _ _ _ _ _ _
  refine aIb (n := 10) (z := 4) (cs := xB) (kk := .i64) (k := (j : Nat)) rfl rfl rfl (by decide) (by kernel_rfl) (by kernel_rfl) (by simp (disch := omega) only [go_sem, seval]) (by simp (disch := omega) only [go_sem, seval]) (by omega) (by omega) (by rw [aHa]; omega) ?_
  rw [Int.toNat_natCast, aUa (by omega)]
  unfold bAr
  refine ez ?_
  refine ez ?_
  refine hK7 _ ?_; clear hK7
  refine aA fun K8 hK8 => ?_
  have hdp := bT (l := iI) default (show j < iI.length by omega)
  refine bC [0, 1, 2, 9, 10, 11] ?_
  refine hK8 _ ?_; clear hK8
  refine aS (fun c1 => ?_) fun c1 => ?_
  ·refine aB [9] ?_
   refine aL ?_
   refine nC (.cons ?_ (.cons ?_ .nil))
   ·exact gZ (by simp (disch := omega) only [go_sem, seval] <;> ((rw [l0_1, hdp, jR, if_pos (by omega)]))) rfl rfl
   exact gZ (by simp (disch := omega) only [go_sem, seval] <;> ((rw [l0_1, hdp, jR, if_pos (by omega)]))) rfl rfl
  refine aJ ?_
  refine hK6 _ ?_; clear hK6
  refine bC [0, 1, 2, 10, 11] ?_
  refine hK3 _ _ ?_ ⟨j + 1, rfl, ?_, ?_, ?_⟩
  ·exact bD
  ·exact bD
  ·(rw [l0_1, hdp, jR, if_neg (by omega)])
  exact cD
 refine bA ?_
 refine hK1 _ ?_; clear hK1
 refine aB [] ?_
 refine aL ?_
 refine nC (.cons ?_ (.cons ?_ .nil))
 ·exact gZ (by simp (disch := omega) only [go_sem, seval] <;> ((rw [l0_1, eJ (by omega)]; rfl))) rfl rfl
 exact gZ (by simp (disch := omega) only [go_sem, seval] <;> ((rw [l0_1, eJ (by omega)]; rfl))) rfl rfl
section
attribute [local go_sem] GT bJg List.length_drop List.length_map bEs
theorem sC (O : aU) (k : Int) : aW Tryz.prog O 124 [vi k] (vi (fF k)) := by
 refine dT Tryz.func124 ?_
 refine aB [0] ?_
 refine aA fun K1 hK1 => ?_
 refine aB [0] ?_
 refine aS (fun c0 => ?_) fun c0 => ?_
 ·refine aB [] ?_
  refine aL ?_
  refine b6 2 ?_
  exact cP.is (by simp (disch := omega) only [go_sem, seval] <;> ((unfold fF; rw [if_neg (by omega), if_neg (by omega), if_neg (by omega)]))) rfl rfl
 refine aJ ?_
 refine hK1 _ ?_; clear hK1
 refine aB [0] ?_
 refine aL ?_
 refine b6 2 ?_
 exact cP.is (by simp (disch := omega) only [go_sem, seval] <;> (exact bD)) rfl rfl
end
section
attribute [local go_sem] aTa
set_option maxRecDepth 20000 in
theorem tZ (O : aU) (k i : Int) : aW Tryz.prog O 178 [vi k, vi i] (b9 (cZ k i)) := by
 have hpl : iI.length = 10 := rfl
 refine dT Tryz.func178 ?_
 refine aB [0, 1] ?_
 refine aB [0, 1] ?_
 refine aA fun K2 hK2 => ?_
 refine aA fun K3 hK3 => ?_
 refine cQ (Le.keepC [0, 1, 5] _) ?_
 refine f8 ?_
 show OW _ _ _ _ _ _
 refine cM rfl (by kernel_rfl) (by kernel_rfl) ?_
 simp only [go_sem, GT]
 rw [← aNz]
 simp (disch := omega) only [go_sem, seval]
 rw [show List.take 40 xB = xB from rfl]
 refine And.intro (by decide) ?_
 refine ez ?_
 refine hK3 _ ?_; clear hK3
 refine aK ?_
 refine d9 5 3 1 eI rfl rfl ?_
 refine aX [0, 1, 5, 8, 9] (fun n ρ => ∃ j, n = 10 - j ∧ (j ≤ 10) ∧ ρ = cU O [(0, vi k), (1, vi i), (5, yT (nF (iI.take j) k i)), (8, .agg xB), (9, vi (j : Nat))]) _ ⟨0, rfl, ?_, ?_⟩ ?_
 ·exact bD
 ·exact cD
 rintro n ρ ⟨j, rfl, l0_0, rfl⟩ K4 hK4
 have hfl : (nF (iI.take j) k i).length ≤ 10 := by
   unfold nF; rw [List.length_map]; exact Nat.le_trans (List.length_filter_le _ _) (by rw [List.length_take]; omega)
 refine aB [0, 1, 5, 8, 9] ?_
 refine aA fun K6 hK6 => ?_
 refine aS (fun c0 => ?_) fun c0 => ?_
 ·refine aJ ?_
  refine hK6 _ ?_; clear hK6
  refine aA fun K7 hK7 => ?_
  refine aK ?_
  refine aA fun K8 hK8 => ?_
  refine cQ (Le.keepC [0, 1, 5, 8, 9] _) ?_
  refine f8 ?_
  show OW _ _ _ _ _ _
  refine aIb (n := 10) (z := 4) (cs := xB) (kk := .i64) (k := (j : Nat)) rfl rfl rfl (by decide) (by kernel_rfl) (by kernel_rfl) (by simp (disch := omega) only [go_sem, seval]) (by simp (disch := omega) only [go_sem, seval]) (by omega) (by omega) (by rw [aHa]; omega) ?_
  rw [Int.toNat_natCast, aUa (by omega)]
  unfold bAr
  refine ez ?_
  refine ez ?_
  refine hK8 _ ?_; clear hK8
  refine aB [0, 1, 5, 7, 8, 9] ?_
  refine aS (fun c1 => ?_) fun c1 => ?_
  ·refine bC [0, 1, 5, 7, 8, 9] ?_
   refine hK7 _ ?_; clear hK7
   refine bC [0, 1, 5, 8, 9] ?_
   refine hK4 _ _ ?_ ⟨j + 1, rfl, ?_, ?_⟩
   ·exact bD
   ·exact bD
   simp (disch := omega) only [go_sem, seval] <;> (rw [zE _ _ (by omega), if_pos c1]; first | rfl | simp)
  refine aJ ?_
  refine hK7 _ ?_; clear hK7
  refine bC [0, 1, 5, 8, 9] ?_
  refine hK4 _ _ ?_ ⟨j + 1, rfl, ?_, ?_⟩
  ·exact bD
  ·exact bD
  simp (disch := omega) only [go_sem, seval] <;> (rw [zE _ _ (by omega), if_neg (by omega), List.append_nil]; rfl)
 refine bA ?_
 refine hK2 _ ?_; clear hK2
 refine aA fun K10 hK10 => ?_
 refine dG 5 _ rfl rfl ?_
 refine bC [5] ?_
 refine hK10 _ ?_; clear hK10
 refine aL ?_
 refine b6 4 ?_
 exact cP.encL rfl (by rw [List.take_of_length_le (by omega)]; rfl)
end
section
attribute [local go_sem] mnI mxI
theorem kY (O : aU) (k i o : Int) : aW Tryz.prog O 156 [vi k, vi i, vi o] (.tup [vi (cF k i o).1, vb (cF k i o).2]) := by
 refine dT Tryz.func156 ?_
 refine aB [0, 1, 2] ?_
 refine aB [0, 1, 2] ?_
 refine aB [0, 1, 2, 8] ?_
 refine aA fun K3 hK3 => ?_
 refine aB [0, 8, 9] ?_
 refine aS (fun c0 => ?_) fun c0 => ?_
 ·refine aB [0, 8, 9] ?_
  refine aL ?_
  refine nC (.cons ?_ (.cons ?_ .nil))
  ·exact gZ (by simp (disch := omega) only [go_sem, seval] <;> ((unfold cF; rw [if_pos c0]))) rfl rfl
  exact gZ (by simp (disch := omega) only [go_sem, seval] <;> ((unfold cF; rw [if_pos c0]; refine congrArg vb ?_; rw [Bool.eq_iff_iff]; simp; omega))) rfl rfl
 refine aJ ?_
 refine hK3 _ ?_; clear hK3
 refine aA fun K6 hK6 => ?_
 refine aB [0, 8, 9] ?_
 refine aS (fun c1 => ?_) fun c1 => ?_
 ·refine aB [] ?_
  refine aL ?_
  refine nC (.cons ?_ (.cons ?_ .nil))
  ·exact gZ (by simp (disch := omega) only [go_sem, seval] <;> ((unfold cF; rw [if_neg (by omega), if_pos (by omega)]))) rfl rfl
  exact gZ (by simp (disch := omega) only [go_sem, seval] <;> ((unfold cF; rw [if_neg (by omega), if_pos (by omega)]))) rfl rfl
 refine aJ ?_
 refine hK6 _ ?_; clear hK6
 refine aA fun K9 hK9 => ?_
 refine aB [0, 8, 9] ?_
 refine aS (fun c2 => ?_) fun c2 => ?_
 ·refine aB [] ?_
  refine aL ?_
  refine nC (.cons ?_ (.cons ?_ .nil))
  ·exact gZ (by simp (disch := omega) only [go_sem, seval] <;> ((unfold cF; rw [if_neg (by omega), if_neg (by omega), if_pos (by omega)]))) rfl rfl
  exact gZ (by simp (disch := omega) only [go_sem, seval] <;> ((unfold cF; rw [if_neg (by omega), if_neg (by omega), if_pos (by omega)]))) rfl rfl
 refine aJ ?_
 refine hK9 _ ?_; clear hK9
 refine aB [] ?_
 refine aL ?_
 refine nC (.cons ?_ (.cons ?_ .nil))
 ·exact gZ (by simp (disch := omega) only [go_sem, seval] <;> ((unfold cF; rw [if_neg (by omega), if_neg (by omega), if_neg (by omega)]))) rfl rfl
 exact gZ (by simp (disch := omega) only [go_sem, seval] <;> ((unfold cF; rw [if_neg (by omega), if_neg (by omega), if_neg (by omega)]))) rfl rfl
end
theorem pV (O : aU) (k : Int) : aW Tryz.prog O 201 [vi k] (vi (fF k)) := by
 refine dT Tryz.func201 ?_
 refine aB [0] ?_
 refine aA fun K1 hK1 => ?_
 refine aB [0] ?_
 refine aK ?_
 refine aB [3] ?_
 refine aS (fun c0 => ?_) fun c0 => ?_
 ·refine aB [] ?_
  refine aL ?_
  refine b6 2 ?_
  exact cP.is (by simp (disch := omega) only [go_sem, seval] <;> (first | rfl | (unfold fF; simp_all))) rfl rfl
 refine aB [3] ?_
 refine aS (fun c1 => ?_) fun c1 => ?_
 ·refine aB [] ?_
  refine aL ?_
  refine b6 2 ?_
  exact cP.is (by simp (disch := omega) only [go_sem, seval] <;> (first | rfl | (unfold fF; simp_all))) rfl rfl
 refine aB [3] ?_
 refine aS (fun c2 => ?_) fun c2 => ?_
 ·refine aB [] ?_
  refine aL ?_
  refine b6 2 ?_
  exact cP.is (by simp (disch := omega) only [go_sem, seval] <;> (first | rfl | (unfold fF; simp_all))) rfl rfl
 refine aJ ?_
 refine hK1 _ ?_; clear hK1
 refine aB [] ?_
 refine aL ?_
 refine b6 2 ?_
 exact cP.is (by simp (disch := omega) only [go_sem, seval] <;> (first | rfl | (unfold fF; simp_all))) rfl rfl
theorem aBp (O : aU) (k i : Int) : aW Tryz.prog O 102 [vi k, vi i] (b9 (cZ k i)) := by
 rw [← bEo]
 refine dT Tryz.func102 ?_
 refine aB [0, 1] ?_
 refine aB [0, 1] ?_
 refine aA fun K2 hK2 => ?_
 refine aB [0, 1, 5] ?_
 refine aK ?_
 refine d9 5 3 1 eI rfl rfl ?_
 refine aX [0, 1, 5, 6] (fun n ρ => ∃ j, n = 4 - j ∧ (j ≤ 4) ∧ ρ = cU O [(0, vi k), (1, vi i), (5, yT (wM k i j)), (6, vi (j : Nat))]) _ ⟨0, rfl, ?_, ?_⟩ ?_
 ·exact bD
 ·exact cD
 rintro n ρ ⟨j, rfl, l0_0, rfl⟩ K4 hK4
 have hfl : (wM k i j).length ≤ 4 := by
   unfold wM; rw [List.length_map]; exact Nat.le_trans (List.length_filter_le _ _) (by rw [List.length_range]; omega)
 refine aA fun K5 hK5 => ?_
 refine aB [0, 1, 5, 6] ?_
 refine aS (fun c0 => ?_) fun c0 => ?_
 ·refine aJ ?_
  refine hK5 _ ?_; clear hK5
  refine aA fun K7 hK7 => ?_
  refine aK ?_
  refine aA fun K8 hK8 => ?_
  refine bF [0, 1, 5, 6] ?_
  refine dM (kY _ k i (j : Nat)) ?_
  refine hK8 _ ?_; clear hK8
  refine aB [0, 1, 5, 6, 8] ?_
  refine aS (fun c1 => ?_) fun c1 => ?_
  ·refine bC [0, 1, 5, 6] ?_
   refine hK7 _ ?_; clear hK7
   refine bC [0, 1, 5, 6] ?_
   refine hK4 _ _ ?_ ⟨j + 1, rfl, ?_, ?_⟩
   ·exact bD
   ·exact bD
   simp (disch := omega) only [go_sem, seval] <;> (rw [rJ, if_pos c1]; first | rfl | simp)
  refine aJ ?_
  refine hK7 _ ?_; clear hK7
  refine bC [0, 1, 5, 6] ?_
  refine hK4 _ _ ?_ ⟨j + 1, rfl, ?_, ?_⟩
  ·exact bD
  ·exact bD
  simp (disch := omega) only [go_sem, seval] <;> (rw [rJ, c1, if_neg (by decide), List.append_nil]; rfl)
 refine bA ?_
 refine hK2 _ ?_; clear hK2
 refine aA fun K10 hK10 => ?_
 refine dG 5 _ rfl rfl ?_
 refine bC [5] ?_
 refine hK10 _ ?_; clear hK10
 refine aL ?_
 refine b6 4 ?_
 exact cP.encL rfl (by rw [show j = 4 by omega])
theorem sJ {P : Program} {ρ : aU} {a : Nat} {t : TypeId} {cs ds : List DV} (h : ρ a = .bx cs) (he : cs = ds) (hl : eZ P t = some (some ds.length)) (hs : iA (· + 100000) ds = ds) : aBl P ρ (.cell a t) (.agg ds) := by
 subst he
 refine ⟨cs, h, .inl ⟨hl, ?_⟩⟩
 have : sh (.agg cs) = .agg cs := congrArg DV.agg hs
 rw [this]; exact bV.refl _
theorem iK {P : Program} {ρ : aU} {fn : Func} {O : aU} {cs : List DV} (a t : Nat) (hf : fn.results = #[.cell a t]) (h1 : hi ρ = bW O) (h2 : ρ a = .bx cs) (h3 : eZ P t = some (some cs.length)) (h4 : sh (.agg cs) = .agg cs) : xN P fn O (fun O' r' => O' = O ∧ r' = .agg cs) .ret ρ :=
 aAd h1 (by rw [hf]; exact ⟨rfl, cs, h2, .inl ⟨h3, by rw [h4]; exact bV.refl _⟩⟩)
abbrev aGd (l : List gG) : DV := encL 4 sK l
abbrev gB (l : List hM) : DV := encL 4 eC l
abbrev f5 (l : List iR) : DV := encL 7 eM l
abbrev wL (l : List mR) : DV := encL 3 rE l
abbrev dN (l : List ByteArray) : DV := encL 1 eS l
def kD (l : aC) : List ByteArray := l.fElements.map (·.fName)
def lG (l : aC) : List ByteArray := l.fSignals.map (·.fName)
def cE (l : aC) : List (List ByteArray) := [[l.fName], l.fSections, kD l, lG l]
structure dX (l : aC) : Prop where
 sec : l.fSections.length ≤ 60
 el : l.fElements.length ≤ 60
 jo : l.fJoints.length ≤ 100
 sg : l.fSignals.length ≤ 60
 bl : l.fBalises.length ≤ 60
 nm : ∀ n ∈ cE l, ∀ x ∈ n, x.size ≤ 140737488355328
def E0 : cC := ⟨0, 0⟩
def d8 : List gG → cC → cC × Bool
 | [], _ => (E0, false)
 | j :: l, e => if j.fA = e then (j.fB, true) else if j.fB = e then (j.fA, true) else d8 l e
abbrev aD (l : aC) (e : cC) : cC × Bool := d8 l.fJoints e
def qH : List hM → cC → Nat → Int
 | [], _, _ => -1
 | s :: l, e, n => if s.fAt = e then (n : Int) else qH l e (n + 1)
abbrev iP (l : aC) (e : cC) : Int := qH l.fSignals e 0
abbrev d7 (l : aC) (i : Nat) : iR := l.fElements.getD i default
def aJo (l : aC) (n : Nat) : List Int := ((List.range n).filter fun i => decide ((d7 l i).fKind = 2)).map fun i => ((i : Nat) : Int)
def eA (l : aC) : List Int := aJo l l.fElements.length
def aGn (l : aC) (s : Int) (n : Nat) : List Int := ((List.range n).filter fun i => decide ((d7 l i).fSection = s)).map fun i => ((i : Nat) : Int)
def aJy (l : aC) (s : Int) : List Int := if 0 ≤ s ∧ s < (l.fSections.length : Int) then aGn l s l.fElements.length else []
def bY (l : aC) (e : Int) : Int := if 0 ≤ e ∧ e < (l.fElements.length : Int) then (d7 l e.toNat).fSection else -1
theorem aDt (l : aC) (n : Nat) : aJo l (n + 1) = aJo l n ++ if (d7 l n).fKind = 2 then [(n : Int)] else [] := by
 unfold aJo
 rw [List.range_succ, List.filter_append, List.map_append]
 congr 1
 by_cases h : (d7 l n).fKind = 2
 ·rw [if_pos h, List.filter_cons_of_pos (by simpa using h)]; rfl
 rw [if_neg h, List.filter_cons_of_neg (by simpa using h)]; rfl
theorem aDr (l : aC) (s : Int) (n : Nat) : aGn l s (n + 1) = aGn l s n ++ if (d7 l n).fSection = s then [(n : Int)] else [] := by
 unfold aGn
 rw [List.range_succ, List.filter_append, List.map_append]
 congr 1
 by_cases h : (d7 l n).fSection = s
 ·rw [if_pos h, List.filter_cons_of_pos (by simpa using h)]; rfl
 rw [if_neg h, List.filter_cons_of_neg (by simpa using h)]; rfl
def zV (l : aC) (s : Int) (n : Nat) : List Int := if 0 ≤ s ∧ s < (l.fSections.length : Int) then aGn l s n else []
theorem bMz {l : aC} {s : Int} {n : Nat} (h : (d7 l n).fSection = s) (h2 : 0 ≤ s) (h3 : s < (l.fSections.length : Int)) : zV l s (n + 1) = zV l s n ++ [(n : Int)] := by
 unfold zV; rw [if_pos ⟨h2, h3⟩, if_pos ⟨h2, h3⟩, aDr, if_pos h]
theorem bOl {l : aC} {s : Int} {n : Nat} (h : (d7 l n).fSection = s → ¬ (0 ≤ s ∧ s < (l.fSections.length : Int))) : zV l s (n + 1) = zV l s n := by
 unfold zV; split
 ·rename_i g; rw [aDr, if_neg fun e => h e g, List.append_nil]
 rfl
theorem aTf (l : aC) (s : Int) (n : Nat) : (zV l s n).length ≤ n := by
 unfold zV; split
 ·unfold aGn; rw [List.length_map]; exact Nat.le_trans (List.length_filter_le _ _) (by simp)
 simp
theorem aAn (l : aC) (n : Nat) : (aJo l n).length ≤ n := by
 unfold aJo; rw [List.length_map]; exact Nat.le_trans (List.length_filter_le _ _) (by simp)
theorem aTj (l : aC) (s : Int) (n : Nat) : (aGn l s n).length ≤ n := by
 unfold aGn; rw [List.length_map]; exact Nat.le_trans (List.length_filter_le _ _) (by simp)
theorem iO (O : aU) (l : aC) (e : cC) : aW Tryz.prog O 118 [.agg (aI l), .agg (bO e)] (.tup [.agg (bO (aD l e).1), vb (aD l e).2]) := by
 refine aO 0 rfl (.agg (d := aGd l.fJoints) (by simp [aI]) (.sl _ _ _)) fun hj => ?_
 refine dT Tryz.func118 ?_
 refine aB [0, 1] ?_
 refine aA fun K1 hK1 => ?_
 refine aB [2, 3, 4] ?_
 refine aK ?_
 refine aX [2, 3, 4, 9, 10, 11] (fun n ρ => ∃ i, n = l.fJoints.length - i ∧ (i ≤ l.fJoints.length) ∧ (d8 l.fJoints e = d8 (l.fJoints.drop i) e) ∧ ρ = cU O [(2, .bx (aI l)), (3, .bx (bO e)), (4, .bx (bO E0)), (9, aGd l.fJoints), (10, vi (l.fJoints.length : Nat)), (11, vi (i : Nat))]) _ ⟨0, rfl, ?_, ?_, ?_⟩ ?_
 ·exact bD
 ·rfl
 ·exact cD
 rintro n ρ ⟨i, rfl, l0_0, l0_1, rfl⟩ K3 hK3
 refine aB [2, 3, 4, 8, 9, 10, 11] ?_
 refine aA fun K5 hK5 => ?_
 refine aS (fun c0 => ?_) fun c0 => ?_
 ·refine aJ ?_
  refine hK5 _ ?_; clear hK5
  refine aA fun K6 hK6 => ?_
  refine aK ?_
  refine aB [2, 3, 4, 8, 9, 10, 11] ?_
  refine aA fun K8 hK8 => ?_
  refine aB [2, 3, 4, 7, 8, 9, 10, 11] ?_
  refine aS (fun c1 => ?_) fun c1 => ?_
  ·refine aB [4, 7] ?_
   refine aL ?_
   refine nC (.cons ?_ (.cons ?_ .nil))
   ·exact sJ (by simp (disch := omega) only [go_sem, seval] <;> rfl) (by simp (disch := omega) only [go_sem, seval] <;> ((rw [aD, l0_1, bT default c0, d8, if_pos ((d6 _ _).2 (by simpa using c1))]))) (by kernel_rfl) (by first | rfl | (simp (disch := omega) only [go_sem, seval]))
   exact gZ (by simp (disch := omega) only [go_sem, seval] <;> ((rw [aD, l0_1, bT default c0, d8, if_pos ((d6 _ _).2 (by simpa using c1))]))) rfl rfl
  refine aJ ?_
  refine hK8 _ ?_; clear hK8
  refine aB [2, 3, 4, 7, 8, 9, 10, 11] ?_
  refine aS (fun c2 => ?_) fun c2 => ?_
  ·refine aB [4, 7] ?_
   refine aL ?_
   refine nC (.cons ?_ (.cons ?_ .nil))
   ·exact sJ (by simp (disch := omega) only [go_sem, seval] <;> rfl) (by simp (disch := omega) only [go_sem, seval] <;> ((rw [aD, l0_1, bT default c0, d8, if_neg (fun h => by rw [d6] at h; simp_all), if_pos ((d6 _ _).2 (by simpa using c2))]))) (by kernel_rfl) (by first | rfl | (simp (disch := omega) only [go_sem, seval]))
   exact gZ (by simp (disch := omega) only [go_sem, seval] <;> ((rw [aD, l0_1, bT default c0, d8, if_neg (fun h => by rw [d6] at h; simp_all), if_pos ((d6 _ _).2 (by simpa using c2))]))) rfl rfl
  refine aJ ?_
  refine hK6 _ ?_; clear hK6
  refine bC [2, 3, 4, 8, 9, 10, 11] ?_
  refine hK3 _ _ ?_ ⟨i + 1, rfl, ?_, ?_, ?_⟩
  ·exact bD
  ·exact bD
  ·(rw [l0_1, bT default c0, d8, if_neg (fun h => by rw [d6] at h; simp_all), if_neg (fun h => by rw [d6] at h; simp_all)])
  exact cD
 refine bA ?_
 refine hK1 _ ?_; clear hK1
 refine aB [4] ?_
 refine aL ?_
 refine nC (.cons ?_ (.cons ?_ .nil))
 ·exact sJ (by simp (disch := omega) only [go_sem, seval] <;> rfl) (by simp (disch := omega) only [go_sem, seval] <;> ((rw [aD, l0_1, eJ c0]; rfl))) (by kernel_rfl) (by first | rfl | (simp (disch := omega) only [go_sem, seval]))
 exact gZ (by simp (disch := omega) only [go_sem, seval] <;> ((rw [aD, l0_1, eJ c0]; rfl))) rfl rfl
theorem gV (O : aU) (l : aC) (e : cC) : aW Tryz.prog O 18 [.agg (aI l), .agg (bO e)] (.tup [.agg (bO (aD l e).1), vb (aD l e).2]) := by
 refine aO 0 rfl (.agg (d := aGd l.fJoints) (by simp [aI]) (.sl _ _ _)) fun hj => ?_
 refine dT Tryz.func18 ?_
 refine aB [0, 1] ?_
 refine aA fun K1 hK1 => ?_
 refine aB [2, 3, 4] ?_
 refine aK ?_
 refine aX [2, 3, 4, 9, 10, 11] (fun n ρ => ∃ i, n = l.fJoints.length - i ∧ (i ≤ l.fJoints.length) ∧ (d8 l.fJoints e = d8 (l.fJoints.drop i) e) ∧ ρ = cU O [(2, .bx (aI l)), (3, .bx (bO e)), (4, .bx (bO E0)), (9, aGd l.fJoints), (10, vi (l.fJoints.length : Nat)), (11, vi (i : Nat))]) _ ⟨0, rfl, ?_, ?_, ?_⟩ ?_
 ·exact bD
 ·rfl
 ·exact cD
 rintro n ρ ⟨i, rfl, l0_0, l0_1, rfl⟩ K3 hK3
 refine aB [2, 3, 4, 8, 9, 10, 11] ?_
 refine aA fun K5 hK5 => ?_
 refine aS (fun c0 => ?_) fun c0 => ?_
 ·refine aJ ?_
  refine hK5 _ ?_; clear hK5
  refine aA fun K6 hK6 => ?_
  refine aK ?_
  refine aB [2, 3, 4, 8, 9, 10, 11] ?_
  refine aA fun K8 hK8 => ?_
  refine aB [2, 3, 4, 7, 8, 9, 10, 11] ?_
  refine aS (fun c1 => ?_) fun c1 => ?_
  ·refine aB [4, 7] ?_
   refine aL ?_
   refine nC (.cons ?_ (.cons ?_ .nil))
   ·exact sJ (by simp (disch := omega) only [go_sem, seval] <;> rfl) (by simp (disch := omega) only [go_sem, seval] <;> ((rw [aD, l0_1, bT default c0, d8, if_pos ((d6 _ _).2 (by simpa using c1))]))) (by kernel_rfl) (by first | rfl | (simp (disch := omega) only [go_sem, seval]))
   exact gZ (by simp (disch := omega) only [go_sem, seval] <;> ((rw [aD, l0_1, bT default c0, d8, if_pos ((d6 _ _).2 (by simpa using c1))]))) rfl rfl
  refine aJ ?_
  refine hK8 _ ?_; clear hK8
  refine aB [2, 3, 4, 7, 8, 9, 10, 11] ?_
  refine aS (fun c2 => ?_) fun c2 => ?_
  ·refine aB [4, 7] ?_
   refine aL ?_
   refine nC (.cons ?_ (.cons ?_ .nil))
   ·exact sJ (by simp (disch := omega) only [go_sem, seval] <;> rfl) (by simp (disch := omega) only [go_sem, seval] <;> ((rw [aD, l0_1, bT default c0, d8, if_neg (fun h => by rw [d6] at h; simp_all), if_pos ((d6 _ _).2 (by simpa using c2))]))) (by kernel_rfl) (by first | rfl | (simp (disch := omega) only [go_sem, seval]))
   exact gZ (by simp (disch := omega) only [go_sem, seval] <;> ((rw [aD, l0_1, bT default c0, d8, if_neg (fun h => by rw [d6] at h; simp_all), if_pos ((d6 _ _).2 (by simpa using c2))]))) rfl rfl
  refine aJ ?_
  refine hK6 _ ?_; clear hK6
  refine bC [2, 3, 4, 8, 9, 10, 11] ?_
  refine hK3 _ _ ?_ ⟨i + 1, rfl, ?_, ?_, ?_⟩
  ·exact bD
  ·exact bD
  ·(rw [l0_1, bT default c0, d8, if_neg (fun h => by rw [d6] at h; simp_all), if_neg (fun h => by rw [d6] at h; simp_all)])
  exact cD
 refine bA ?_
 refine hK1 _ ?_; clear hK1
 refine aB [4] ?_
 refine aL ?_
 refine nC (.cons ?_ (.cons ?_ .nil))
 ·exact sJ (by simp (disch := omega) only [go_sem, seval] <;> rfl) (by simp (disch := omega) only [go_sem, seval] <;> ((rw [aD, l0_1, eJ c0]; rfl))) (by kernel_rfl) (by first | rfl | (simp (disch := omega) only [go_sem, seval]))
 exact gZ (by simp (disch := omega) only [go_sem, seval] <;> ((rw [aD, l0_1, eJ c0]; rfl))) rfl rfl
theorem iT (O : aU) (l : aC) (e : cC) : aW Tryz.prog O 171 [.agg (aI l), .agg (bO e)] (vi (iP l e)) := by
 refine aO 0 rfl (.agg (d := gB l.fSignals) (by simp [aI]) (.sl _ _ _)) fun hs => ?_
 refine dT Tryz.func171 ?_
 refine aB [0, 1] ?_
 refine aA fun K1 hK1 => ?_
 refine aB [2, 3] ?_
 refine aK ?_
 refine aX [3, 8, 9, 10] (fun n ρ => ∃ i, n = l.fSignals.length - i ∧ (i ≤ l.fSignals.length) ∧ (qH l.fSignals e 0 = qH (l.fSignals.drop i) e i) ∧ ρ = cU O [(3, .bx (bO e)), (8, gB l.fSignals), (9, vi (l.fSignals.length : Nat)), (10, vi (i : Nat))]) _ ⟨0, rfl, ?_, ?_, ?_⟩ ?_
 ·exact bD
 ·rfl
 ·exact cD
 rintro n ρ ⟨i, rfl, l0_0, l0_1, rfl⟩ K3 hK3
 refine aB [2, 3, 7, 8, 9, 10] ?_
 refine aA fun K5 hK5 => ?_
 refine aS (fun c0 => ?_) fun c0 => ?_
 ·refine aJ ?_
  refine hK5 _ ?_; clear hK5
  refine aA fun K6 hK6 => ?_
  refine aK ?_
  refine aB [2, 3, 7, 8, 9, 10] ?_
  refine aB [2, 3, 5, 6, 7, 8, 9, 10] ?_
  refine aS (fun c1 => ?_) fun c1 => ?_
  ·refine aB [5] ?_
   refine aL ?_
   refine b6 4 ?_
   exact cP.is (by simp (disch := omega) only [go_sem, seval] <;> ((rw [iP, l0_1, bT default c0, qH, if_pos ((d6 _ _).2 (by simpa using c1))]))) rfl rfl
  refine aJ ?_
  refine hK6 _ ?_; clear hK6
  refine bC [2, 3, 7, 8, 9, 10] ?_
  refine hK3 _ _ ?_ ⟨i + 1, rfl, ?_, ?_, ?_⟩
  ·exact bD
  ·exact bD
  ·(rw [l0_1, bT default c0, qH, if_neg (fun h => by rw [d6] at h; simp_all)])
  exact cD
 refine bA ?_
 refine hK1 _ ?_; clear hK1
 refine aB [] ?_
 refine aL ?_
 refine b6 4 ?_
 exact cP.is (by simp (disch := omega) only [go_sem, seval] <;> ((rw [iP, l0_1, eJ c0]; rfl))) rfl rfl
theorem pC (O : aU) (l : aC) (e : cC) : aW Tryz.prog O 56 [.agg (aI l), .agg (bO e)] (vi (iP l e)) := by
 refine aO 0 rfl (.agg (d := gB l.fSignals) (by simp [aI]) (.sl _ _ _)) fun hs => ?_
 refine dT Tryz.func56 ?_
 refine aB [0, 1] ?_
 refine aA fun K1 hK1 => ?_
 refine aB [2, 3] ?_
 refine aK ?_
 refine aX [3, 8, 9, 10] (fun n ρ => ∃ i, n = l.fSignals.length - i ∧ (i ≤ l.fSignals.length) ∧ (qH l.fSignals e 0 = qH (l.fSignals.drop i) e i) ∧ ρ = cU O [(3, .bx (bO e)), (8, gB l.fSignals), (9, vi (l.fSignals.length : Nat)), (10, vi (i : Nat))]) _ ⟨0, rfl, ?_, ?_, ?_⟩ ?_
 ·exact bD
 ·rfl
 ·exact cD
 rintro n ρ ⟨i, rfl, l0_0, l0_1, rfl⟩ K3 hK3
 refine aB [2, 3, 7, 8, 9, 10] ?_
 refine aA fun K5 hK5 => ?_
 refine aS (fun c0 => ?_) fun c0 => ?_
 ·refine aJ ?_
  refine hK5 _ ?_; clear hK5
  refine aA fun K6 hK6 => ?_
  refine aK ?_
  refine aB [2, 3, 7, 8, 9, 10] ?_
  refine aB [2, 3, 5, 6, 7, 8, 9, 10] ?_
  refine aS (fun c1 => ?_) fun c1 => ?_
  ·refine aB [5] ?_
   refine aL ?_
   refine b6 4 ?_
   exact cP.is (by simp (disch := omega) only [go_sem, seval] <;> ((rw [iP, l0_1, bT default c0, qH, if_pos ((d6 _ _).2 (by simpa using c1))]))) rfl rfl
  refine aJ ?_
  refine hK6 _ ?_; clear hK6
  refine bC [2, 3, 7, 8, 9, 10] ?_
  refine hK3 _ _ ?_ ⟨i + 1, rfl, ?_, ?_, ?_⟩
  ·exact bD
  ·exact bD
  ·(rw [l0_1, bT default c0, qH, if_neg (fun h => by rw [d6] at h; simp_all)])
  exact cD
 refine bA ?_
 refine hK1 _ ?_; clear hK1
 refine aB [] ?_
 refine aL ?_
 refine b6 4 ?_
 exact cP.is (by simp (disch := omega) only [go_sem, seval] <;> ((rw [iP, l0_1, eJ c0]; rfl))) rfl rfl
theorem vI (O : aU) (l : aC) (hl : dX l) : aW Tryz.prog O 38 [.agg (aI l)] (b9 (eA l)) := by
 have hl1 := hl.sec
 have hl2 := hl.el
 have hl3 := hl.jo
 have hl4 := hl.sg
 have hl5 := hl.bl
 refine aO 0 rfl (.agg (d := f5 l.fElements) (by simp [aI]) (.sl _ _ _)) fun he => ?_
 refine dT Tryz.func38 ?_
 refine aB [0] ?_
 refine aB [1] ?_
 refine aA fun K2 hK2 => ?_
 refine aB [1, 3] ?_
 refine aK ?_
 refine d9 3 3 1 eI rfl rfl ?_
 refine aX [3, 7, 8, 9] (fun n ρ => ∃ i, n = l.fElements.length - i ∧ (i ≤ l.fElements.length) ∧ ρ = cU O [(3, yT (aJo l i)), (7, f5 l.fElements), (8, vi (l.fElements.length : Nat)), (9, vi (i : Nat))]) _ ⟨0, rfl, ?_, ?_⟩ ?_
 ·exact bD
 ·exact cD
 rintro n ρ ⟨i, rfl, l0_0, rfl⟩ K4 hK4
 have hfl := aAn l i
 refine aB [1, 3, 6, 7, 8, 9] ?_
 refine aA fun K6 hK6 => ?_
 refine aS (fun c0 => ?_) fun c0 => ?_
 ·refine aJ ?_
  refine hK6 _ ?_; clear hK6
  refine aA fun K7 hK7 => ?_
  refine aK ?_
  refine aB [1, 3, 6, 7, 8, 9] ?_
  refine aB [1, 3, 4, 5, 6, 7, 8, 9] ?_
  refine aS (fun c1 => ?_) fun c1 => ?_
  ·refine bC [1, 3, 4, 6, 7, 8, 9] ?_
   refine hK7 _ ?_; clear hK7
   refine bC [1, 3, 6, 7, 8, 9] ?_
   refine hK4 _ _ ?_ ⟨i + 1, rfl, ?_, ?_⟩
   ·exact bD
   ·exact bD
   simp (disch := omega) only [go_sem, seval] <;> (rw [aDt, if_pos c1]; first | rfl | simp)
  refine aJ ?_
  refine hK7 _ ?_; clear hK7
  refine bC [1, 3, 6, 7, 8, 9] ?_
  refine hK4 _ _ ?_ ⟨i + 1, rfl, ?_, ?_⟩
  ·exact bD
  ·exact bD
  simp (disch := omega) only [go_sem, seval] <;> (rw [aDt, if_neg c1, List.append_nil]; rfl)
 refine bA ?_
 refine hK2 _ ?_; clear hK2
 refine aA fun K10 hK10 => ?_
 refine dG 3 _ rfl rfl ?_
 refine bC [3] ?_
 refine hK10 _ ?_; clear hK10
 refine aL ?_
 refine b6 2 ?_
 exact cP.encL rfl (by (rw [show i = l.fElements.length by omega]; rfl))
theorem xU (O : aU) (l : aC) (hl : dX l) : aW Tryz.prog O 33 [.agg (aI l)] (b9 (eA l)) := by
 have hl1 := hl.sec
 have hl2 := hl.el
 have hl3 := hl.jo
 have hl4 := hl.sg
 have hl5 := hl.bl
 refine aO 0 rfl (.agg (d := f5 l.fElements) (by simp [aI]) (.sl _ _ _)) fun he => ?_
 refine dT Tryz.func33 ?_
 refine aB [0] ?_
 refine aB [1] ?_
 refine aA fun K2 hK2 => ?_
 refine aB [1, 3] ?_
 refine aK ?_
 refine d9 3 3 1 eI rfl rfl ?_
 refine aX [3, 7, 8, 9] (fun n ρ => ∃ i, n = l.fElements.length - i ∧ (i ≤ l.fElements.length) ∧ ρ = cU O [(3, yT (aJo l i)), (7, f5 l.fElements), (8, vi (l.fElements.length : Nat)), (9, vi (i : Nat))]) _ ⟨0, rfl, ?_, ?_⟩ ?_
 ·exact bD
 ·exact cD
 rintro n ρ ⟨i, rfl, l0_0, rfl⟩ K4 hK4
 have hfl := aAn l i
 refine aB [1, 3, 6, 7, 8, 9] ?_
 refine aA fun K6 hK6 => ?_
 refine aS (fun c0 => ?_) fun c0 => ?_
 ·refine aJ ?_
  refine hK6 _ ?_; clear hK6
  refine aA fun K7 hK7 => ?_
  refine aK ?_
  refine aB [1, 3, 6, 7, 8, 9] ?_
  refine aB [1, 3, 4, 5, 6, 7, 8, 9] ?_
  refine aS (fun c1 => ?_) fun c1 => ?_
  ·refine bC [1, 3, 4, 6, 7, 8, 9] ?_
   refine hK7 _ ?_; clear hK7
   refine bC [1, 3, 6, 7, 8, 9] ?_
   refine hK4 _ _ ?_ ⟨i + 1, rfl, ?_, ?_⟩
   ·exact bD
   ·exact bD
   simp (disch := omega) only [go_sem, seval] <;> (rw [aDt, if_pos c1]; first | rfl | simp)
  refine aJ ?_
  refine hK7 _ ?_; clear hK7
  refine bC [1, 3, 6, 7, 8, 9] ?_
  refine hK4 _ _ ?_ ⟨i + 1, rfl, ?_, ?_⟩
  ·exact bD
  ·exact bD
  simp (disch := omega) only [go_sem, seval] <;> (rw [aDt, if_neg c1, List.append_nil]; rfl)
 refine bA ?_
 refine hK2 _ ?_; clear hK2
 refine aA fun K10 hK10 => ?_
 refine dG 3 _ rfl rfl ?_
 refine bC [3] ?_
 refine hK10 _ ?_; clear hK10
 refine aL ?_
 refine b6 2 ?_
 exact cP.encL rfl (by (rw [show i = l.fElements.length by omega]; rfl))
theorem uJ (O : aU) (l : aC) (s : Int) (hl : dX l) : aW Tryz.prog O 169 [.agg (aI l), vi s] (b9 (aJy l s)) := by
 have hl1 := hl.sec
 have hl2 := hl.el
 have hl3 := hl.jo
 have hl4 := hl.sg
 have hl5 := hl.bl
 refine aO 0 rfl (.agg (d := f5 l.fElements) (by simp [aI]) (.sl _ _ _)) fun he => ?_
 refine aO 0 rfl (.agg (d := dN l.fSections) (by simp [aI]) (.sl _ _ _)) fun hc => ?_
 refine dT Tryz.func169 ?_
 refine aB [0, 1] ?_
 refine aA fun K1 hK1 => ?_
 refine aB [1, 2] ?_
 refine aS (fun c0 => ?_) fun c0 => ?_
 ·refine aB [] ?_
  refine lX 4 1 eI rfl rfl ?_
  refine aL ?_
  refine b6 4 ?_
  exact cP.encL rfl (by (unfold aJy; rw [if_neg (by omega)]))
 refine aJ ?_
 refine hK1 _ ?_; clear hK1
 refine aB [1, 2] ?_
 refine aA fun K5 hK5 => ?_
 refine aB [1, 2, 5] ?_
 refine aK ?_
 refine d9 5 3 1 eI rfl rfl ?_
 refine aX [1, 5, 18, 19, 20] (fun n ρ => ∃ i, n = l.fElements.length - i ∧ (i ≤ l.fElements.length) ∧ ρ = cU O [(1, vi s), (5, yT (aGn l s i)), (18, f5 l.fElements), (19, vi (l.fElements.length : Nat)), (20, vi (i : Nat))]) _ ⟨0, rfl, ?_, ?_⟩ ?_
 ·exact bD
 ·exact cD
 rintro n ρ ⟨i, rfl, l0_0, rfl⟩ K7 hK7
 have hfl := aTj l s i
 refine aB [1, 2, 5, 17, 18, 19, 20] ?_
 refine aA fun K9 hK9 => ?_
 refine aS (fun c1 => ?_) fun c1 => ?_
 ·refine aJ ?_
  refine hK9 _ ?_; clear hK9
  refine aA fun K10 hK10 => ?_
  refine aK ?_
  refine aB [1, 2, 5, 17, 18, 19, 20] ?_
  refine aB [1, 2, 5, 6, 7, 17, 18, 19, 20] ?_
  refine aS (fun c2 => ?_) fun c2 => ?_
  ·refine bC [1, 2, 5, 6, 17, 18, 19, 20] ?_
   refine hK10 _ ?_; clear hK10
   refine bC [1, 2, 5, 17, 18, 19, 20] ?_
   refine hK7 _ _ ?_ ⟨i + 1, rfl, ?_, ?_⟩
   ·exact bD
   ·exact bD
   simp (disch := omega) only [go_sem, seval] <;> (rw [aDr, if_pos c2]; first | rfl | simp)
  refine aJ ?_
  refine hK10 _ ?_; clear hK10
  refine bC [1, 2, 5, 17, 18, 19, 20] ?_
  refine hK7 _ _ ?_ ⟨i + 1, rfl, ?_, ?_⟩
  ·exact bD
  ·exact bD
  simp (disch := omega) only [go_sem, seval] <;> (rw [aDr, if_neg c2, List.append_nil]; rfl)
 refine bA ?_
 refine hK5 _ ?_; clear hK5
 refine aA fun K13 hK13 => ?_
 refine dG 5 _ rfl rfl ?_
 refine bC [5] ?_
 refine hK13 _ ?_; clear hK13
 refine aL ?_
 refine b6 4 ?_
 exact cP.encL rfl (by (rw [show i = l.fElements.length by omega]; unfold aJy; rw [if_pos (by omega)]))
theorem vC (O : aU) (l : aC) (s : Int) (hl : dX l) : aW Tryz.prog O 196 [.agg (aI l), vi s] (b9 (aJy l s)) := by
 have hl1 := hl.sec
 have hl2 := hl.el
 have hl3 := hl.jo
 have hl4 := hl.sg
 have hl5 := hl.bl
 refine aO 0 rfl (.agg (d := f5 l.fElements) (by simp [aI]) (.sl _ _ _)) fun he => ?_
 refine aO 0 rfl (.agg (d := dN l.fSections) (by simp [aI]) (.sl _ _ _)) fun hc => ?_
 refine dT Tryz.func196 ?_
 refine aB [0, 1] ?_
 refine aB [1, 2] ?_
 refine aA fun K2 hK2 => ?_
 refine aB [1, 2, 5] ?_
 refine aK ?_
 refine d9 5 3 1 eI rfl rfl ?_
 refine aX [1, 2, 5, 9, 10, 11] (fun n ρ => ∃ i, n = l.fElements.length - i ∧ (i ≤ l.fElements.length) ∧ ρ = cU O [(1, vi s), (2, .bx (aI l)), (5, yT (zV l s i)), (9, f5 l.fElements), (10, vi (l.fElements.length : Nat)), (11, vi (i : Nat))]) _ ⟨0, rfl, ?_, ?_⟩ ?_
 ·exact bD
 ·simp (disch := omega) only [go_sem, seval] <;> (rw [show zV l s 0 = [] by unfold zV; split <;> rfl]; rfl)
 rintro n ρ ⟨i, rfl, l0_0, rfl⟩ K4 hK4
 have hfl := aTf l s i
 refine aB [1, 2, 5, 8, 9, 10, 11] ?_
 refine aA fun K6 hK6 => ?_
 refine aS (fun c0 => ?_) fun c0 => ?_
 ·refine aJ ?_
  refine hK6 _ ?_; clear hK6
  refine aA fun K7 hK7 => ?_
  refine aK ?_
  refine aB [1, 2, 5, 8, 9, 10, 11] ?_
  refine aB [1, 2, 5, 6, 7, 8, 9, 10, 11] ?_
  refine aS (fun c1 => ?_) fun c1 => ?_
  ·refine bC [1, 2, 5, 6, 8, 9, 10, 11] ?_
   refine hK7 _ ?_; clear hK7
   refine bC [1, 2, 5, 8, 9, 10, 11] ?_
   refine hK4 _ _ ?_ ⟨i + 1, rfl, ?_, ?_⟩
   ·exact bD
   ·exact bD
   simp (disch := omega) only [go_sem, seval] <;> (rw [bMz (by show (l.fElements.getD i default).fSection = s; omega) (by omega) (by omega)]; first | rfl | simp)
  refine aJ ?_
  refine hK7 _ ?_; clear hK7
  refine bC [1, 2, 5, 8, 9, 10, 11] ?_
  refine hK4 _ _ ?_ ⟨i + 1, rfl, ?_, ?_⟩
  ·exact bD
  ·exact bD
  simp (disch := omega) only [go_sem, seval] <;> (rw [bOl (fun e => (by have e : (l.fElements.getD i default).fSection = s := e; omega))]; rfl)
 refine bA ?_
 refine hK2 _ ?_; clear hK2
 refine aA fun K10 hK10 => ?_
 refine dG 5 _ rfl rfl ?_
 refine bC [5] ?_
 refine hK10 _ ?_; clear hK10
 refine aL ?_
 refine b6 4 ?_
 exact cP.encL rfl (by (rw [show i = l.fElements.length by omega]; rfl))
theorem dU (O : aU) (l : aC) (x : Int) : aW Tryz.prog O 39 [.agg (aI l), vi x] (vi (bY l x)) := by
 refine aO 0 rfl (.agg (d := f5 l.fElements) (by simp [aI]) (.sl _ _ _)) fun he => ?_
 refine dT Tryz.func39 ?_
 refine aB [0, 1] ?_
 refine aA fun K1 hK1 => ?_
 refine aB [1, 2] ?_
 refine aS (fun c0 => ?_) fun c0 => ?_
 ·refine aB [] ?_
  refine aL ?_
  refine b6 4 ?_
  exact cP.is (by simp (disch := omega) only [go_sem, seval] <;> ((unfold bY; rw [if_neg (by omega)]))) rfl rfl
 refine aJ ?_
 refine hK1 _ ?_; clear hK1
 refine aB [1, 2] ?_
 refine aL ?_
 refine b6 4 ?_
 exact cP.is (by simp (disch := omega) only [go_sem, seval] <;> ((unfold bY; rw [if_pos (by omega)]))) rfl rfl
theorem gD (O : aU) (l : aC) (x : Int) : aW Tryz.prog O 23 [.agg (aI l), vi x] (vi (bY l x)) := by
 refine aO 0 rfl (.agg (d := f5 l.fElements) (by simp [aI]) (.sl _ _ _)) fun he => ?_
 refine dT Tryz.func23 ?_
 refine aB [0, 1] ?_
 refine aA fun K1 hK1 => ?_
 refine aB [1, 2] ?_
 refine aS (fun c0 => ?_) fun c0 => ?_
 ·refine aB [] ?_
  refine aL ?_
  refine b6 4 ?_
  exact cP.is (by simp (disch := omega) only [go_sem, seval] <;> ((unfold bY; rw [if_neg (by omega)]))) rfl rfl
 refine aJ ?_
 refine hK1 _ ?_; clear hK1
 refine aB [1, 2] ?_
 refine aL ?_
 refine b6 4 ?_
 exact cP.is (by simp (disch := omega) only [go_sem, seval] <;> ((unfold bY; rw [if_pos (by omega)]))) rfl rfl
end Go.Sg
namespace Go.Sg
open Go.RowKit
open Go.Rv (FR)
def bDd (w0 : World) (I0 : Nat → Prop) (A0 : cY) (s : Option (Nat × ByteArray × Nat)) (w : World) (I : Nat → Prop) (A : cY) : Prop :=
 eX w0 I0 A0 w I A ∧ ∀ g str pos, s = some (g, str, pos) → w0.heap.size ≤ g ∧ w.heap[g]? = some (.stringIter str pos) ∧ ¬ I g ∧ ∀ t c, A t ≠ some (some g, c)
section
variable {w0 : World} {I0 : Nat → Prop} {A0 : cY} {P : Program} {nt : Nat} {ρ : aU}
theorem aOl {w : World} {g : Nat} {x : Obj} (h : w.heap[g]? = some x) : g < w.heap.size := (Array.getElem?_eq_some_iff.1 h).1
theorem bEq (w0 : World) (I0 : Nat → Prop) (A0 : cY) : StF (bDd w0 I0 A0) := fun s w I A w' I' A' ρ hs h k =>
 ⟨h.1.trans k, fun g str pos e => by
  obtain ⟨h1, h2, h3, h4⟩ := h.2 g str pos e
  obtain ⟨k1, k2, k3⟩ := k.old g (aOl h2) h4
  exact ⟨h1, k1.trans h2, fun x => h3 (k2 x), k3⟩⟩
theorem aEc {f : FuncId} {fn : Func} {c : Code} {O : aU} {args : List DV} {R : aU → DV → Prop} (hf : P.funcs[f]? = some fn) (hb : fn.body = some c)
  (hn : (decide (args.length ≤ fn.ntmps) && decide (fn.ntmps ≤ 100000) && fn.results.toList.all (fun v => match v with | .tmp t => decide (t < fn.ntmps) | .cell t _ => decide (t < fn.ntmps))) = true)
  (h : ∀ w0 I0 A0, kQ P fn.ntmps (bDd w0 I0 A0) c (fun e _ ρ => xN P fn O R e ρ) none (lA O args)) : iH P O f args R :=
 uS hf hb hn fun w I A a hs hd => wpIn_mono (h w I (b8 A) none [] I (b8 A) a w hs hd ⟨eX.refl _ _ _, fun g str pos e => by cases e⟩) fun e a' w' ⟨I', A', ρ', s', h1, h2, h3, h4⟩ => ⟨I', A', ρ', h1, h2, h3.1, h4⟩
theorem aPf {ops : Array Oper} {o : Oper} {K : Option (Nat × ByteArray × Nat) → aU → Prop} {t : TypeId} {x : Operand} {d : Nat} {str : ByteArray} (hop : o.op = .range t x) (hg : o.guard = none) (hdst : o.dst = some d) (hd : d < nt)
  (ho : dL nt o = true) (ht : P.underlying t = some .string) (hx : ev ρ x = .v (.string str)) {s : Option (Nat × ByteArray × Nat)} (hK : ∀ g, K (some (g, str, 0)) (set ρ d (.v (.pointer (some ⟨g, 0, none⟩))))) : fV P nt (bDd w0 I0 A0) ops o K s ρ := by
 intro ro ds I A a w hs hdf hf next Q' hn
 have hxr := hs.opd x (bL ho (by simp [hop, Op.operands])) (by rw [hx]; trivial)
 rw [hx] at hxr
 have hxe : a.eval x = .string str := by
  have hxr : bK w I A (.v (.string str)) (a.eval x) := hxr
  generalize a.eval x = q at hxr ⊢
  cases hxr; rfl
 rw [if_pos (by simp [Region.wanted, hg])]
 have hrun : (execOp a.eval o).run P w = .ok (.value (.pointer (some ⟨w.heap.size, 0, none⟩))) (w.alloc (.stringIter str 0)) := by
  simp only [execOp, hop, hxe, Sem.run_bind, run_range_string w t str ht, Result.andThen_ok, Sem.run_pure]
  rfl
 refine qY hrun ?_
 have hh : ∀ g, g < w.heap.size → (w.alloc (.stringIter str 0)).heap[g]? = w.heap[g]? := fun g hg => by
  show (w.heap.push _)[g]? = _
  rw [Array.getElem?_push_lt hg, Array.getElem?_eq_getElem hg]
 have hsz : w.heap.size ≤ (w.alloc (.stringIter str 0)).heap.size := by show _ ≤ (w.heap.push _).size; simp
 have hnew : (w.alloc (.stringIter str 0)).heap[w.heap.size]? = some (.stringIter str 0) := by show (w.heap.push _)[w.heap.size]? = _; simp
 have hext : eX w I A (w.alloc (.stringIter str 0)) I A := ⟨rfl, ⟨rfl, Nat.le_refl _⟩, rfl, hsz, fun _ h => h, fun g hg hA => ⟨hh g hg, fun h => h, hA⟩, fun s g c hA _ hs => ⟨s, c, hs, hA⟩, fun _ _ => rfl⟩
 have hs1 : cI nt (w.alloc (.stringIter str 0)) I A ρ a := hs.steady (fun g hg => hh g (hs.osim.imm g hg)) (fun s g c hA => hh g (hs.osim.sep s g c hA).1) hsz
 have hs2 := hs1.put (d := d) (v := .v (.pointer (some ⟨w.heap.size, 0, none⟩))) (x := .pointer (some ⟨w.heap.size, 0, none⟩)) hd (.ofRel (.v A _)) trivial
 rw [hdst]
 refine hn I A _ _ _ (some (w.heap.size, str, 0)) hs2 (by rw [eD]; exact hdf) ⟨hf.1.trans hext, fun g str' pos e => ?_⟩ (hK _)
 cases e
 exact ⟨hf.1.size, hnew, fun hi => by have := hs.osim.imm _ hi; omega, fun t c hA => by have := (hs.osim.sep t _ c hA).1; omega⟩
theorem aIu {ops : Array Oper} {o : Oper} {K : Option (Nat × ByteArray × Nat) → aU → Prop} {x : Operand} {d g pos : Nat} {str : ByteArray} (hop : o.op = .next x true) (hg : o.guard = none) (hdst : o.dst = some d) (hd : d < nt)
  (ho : dL nt o = true) (hx : ev ρ x = .v (.pointer (some ⟨g, 0, none⟩)))
  (hT : ∀ (h : pos < str.size) (r len : Nat), ((str[pos]'h).toNat < 128 → r = (str[pos]'h).toNat ∧ len = 1) → (128 ≤ (str[pos]'h).toNat → 128 ≤ r) → 1 ≤ len → K (some (g, str, pos + len)) (set ρ d (.tup [.v (.bool true), vi (pos : Nat), .v (.int .i32 (r : Nat))])))
  (hE : str.size ≤ pos → K (some (g, str, pos)) (set ρ d (.tup [.v (.bool false)]))) : fV P nt (bDd w0 I0 A0) ops o K (some (g, str, pos)) ρ := by
 intro ro ds I A a w hs hdf hf next Q' hn
 have hxr := hs.opd x (bL ho (by simp [hop, Op.operands])) (by rw [hx]; trivial)
 rw [hx] at hxr
 have hxe : a.eval x = .pointer (some ⟨g, 0, none⟩) := by
  have hxr : bK w I A (.v (.pointer (some ⟨g, 0, none⟩))) (a.eval x) := hxr
  generalize a.eval x = q at hxr ⊢
  cases hxr; rfl
 rw [if_pos (by simp [Region.wanted, hg])]
 obtain ⟨f1, f2, f3, f4⟩ := hf.2 g str pos rfl
 have hgl := aOl f2
 by_cases hp : pos < str.size
 ·generalize hdec : Utf8.decode str pos = rl
  obtain ⟨r, len⟩ := rl
  obtain ⟨w', hw'⟩ : ∃ w' : World, w' = { w with heap := w.heap.setIfInBounds g (.stringIter str (pos + len)) } := ⟨_, rfl⟩
  have hrun : (execOp a.eval o).run P w = .ok (.value (.tuple #[.bool true, .int .i64 pos, .int .i32 r])) w' := by
   simp only [execOp, hop, hxe, Sem.run_bind, Instr.next, getObj, setObj, Sem.run, f2, Result.andThen, hp, if_true, hdec]
   simp [goInt, Sem.run, f2, hw', hgl]
  refine qY hrun ?_
  have hh : ∀ k, k ≠ g → w'.heap[k]? = w.heap[k]? := fun k hk => by
   rw [hw']
   show (w.heap.setIfInBounds g _)[k]? = _
   rw [Array.getElem?_setIfInBounds_ne (Ne.symm hk)]
  have hsz : w'.heap.size = w.heap.size := by rw [hw']; simp
  have hat : w'.heap[g]? = some (.stringIter str (pos + len)) := by
   rw [hw']
   show (w.heap.setIfInBounds g _)[g]? = _
   simp [Array.getElem?_setIfInBounds, hgl]
  have hs1 : cI nt w' I A ρ a := hs.steady (fun k hk => hh k fun e => f3 (e ▸ hk)) (fun s k c hA => hh k fun e => f4 s c (e ▸ hA)) (by omega)
  have hr : bK w' I A (.tup [.v (.bool true), vi (pos : Nat), .v (.int .i32 (r : Nat))]) (.tuple #[.bool true, .int .i64 pos, .int .i32 r]) := .tup A _ _ rfl fun j d u hd' hu => by
   match j with
   | 0 => simp at hd' hu; subst hd'; subst hu; exact .v A _
   | 1 => simp at hd' hu; subst hd'; subst hu; exact .v A _
   | 2 => simp at hd' hu; subst hd'; subst hu; exact .v A _
   | j + 3 => simp at hd'
  have hs2 := hs1.put (d := d) hd (.ofRel hr) trivial
  rw [hdst]
  have e := hf.1
  have os1 : w'.os = w.os := by rw [hw']
  have tp1 : w'.tape = w.tape := by rw [hw']
  have dr1 : w'.drawn = w.drawn := by rw [hw']
  have ou1 : w'.output = w.output := by rw [hw']
  refine hn I A _ _ _ (some (g, str, pos + len)) hs2 (by rw [eD]; exact hdf) ⟨⟨os1.trans e.os, ⟨tp1.trans e.tape.1, by rw [dr1]; exact e.tape.2⟩, ou1.trans e.output, by rw [hsz]; exact e.size, e.imm, fun k hk hA => ⟨(hh k (by omega)).trans (e.old k hk hA).1, (e.old k hk hA).2⟩, e.loc, e.outA⟩, fun g' str' pos' e' => ?_⟩ ?_
  ·cases e'; exact ⟨f1, hat, f3, f4⟩
  refine hT hp r len (fun ha => ?_) (fun ha => ?_) ?_
  ·rw [decode_ascii str pos hp ha] at hdec
   cases hdec; exact ⟨rfl, rfl⟩
  ·have := (decode_high str pos hp ha).1; rw [hdec] at this; exact this
  rcases Nat.lt_or_ge (str[pos]'hp).toNat 128 with ha | ha
  ·rw [decode_ascii str pos hp ha] at hdec; cases hdec; omega
  have := (decode_high str pos hp ha).2; rw [hdec] at this; exact this
 have hrun : (execOp a.eval o).run P w = .ok (.value (.tuple #[.bool false])) w := by
  simp [execOp, hop, hxe, Instr.next, getObj, Sem.run, f2, hp, Result.andThen]
 refine qY hrun ?_
 have hr : bK w I A (.tup [.v (.bool false)]) (.tuple #[.bool false]) := .tup A _ _ rfl fun j d u hd' hu => by
  match j with
  | 0 => simp at hd' hu; subst hd'; subst hu; exact .v A _
  | j + 1 => simp at hd'
 have hs2 := hs.put (d := d) hd (.ofRel hr) trivial
 rw [hdst]
 exact hn I A _ _ _ (some (g, str, pos)) hs2 (by rw [eD]; exact hdf) hf (hE (by omega))
end
end Go.Sg
namespace Go.Sg
open Go.Proofs
abbrev bt (s : ByteArray) (i : Nat) : Nat := (s.data.getD i 0).toNat
def nmC (c : Nat) : Bool := (decide (97 ≤ c) && decide (c ≤ 122)) || (decide (48 ≤ c) && decide (c ≤ 57)) || decide (c = 95)
def gI (s : ByteArray) : Bool := decide (1 ≤ s.size ∧ s.size ≤ 12 ∧ 97 ≤ bt s 0 ∧ bt s 0 ≤ 122) && (List.range s.size).all fun i => nmC (bt s i)
theorem bFp {s : ByteArray} {i : Nat} (h : i < s.size) : (s[i]'h).toNat = bt s i := by
 unfold bt
 have : s.size = s.data.size := rfl
 rw [Array.getD_eq_getD_getElem?, Array.getElem?_eq_getElem (by omega)]
 rfl
theorem bWq {s : ByteArray} (h : 1 ≤ s.size ∧ s.size ≤ 12 ∧ 97 ≤ bt s 0 ∧ bt s 0 ≤ 122) (h2 : j5 (fun i => nmC (bt s i)) s.size) : gI s = true := by
 unfold gI; rw [decide_eq_true h, Bool.true_and]; exact o4 h2 (Nat.le_refl _)
theorem bQm {s : ByteArray} {i : Nat} (hi : i < s.size) (h : nmC (bt s i) = false) : gI s = false := by
 unfold gI; rw [o8 hi h, Bool.and_false]
theorem bFq {s : ByteArray} (h : ¬ (1 ≤ s.size ∧ s.size ≤ 12 ∧ 97 ≤ bt s 0 ∧ bt s 0 ≤ 122)) : gI s = false := by
 unfold gI; rw [decide_eq_false h, Bool.false_and]
theorem bUo {x : ByteArray} {i : Nat} (hi : i < x.size) (h : (bt x i < 97 ∨ 122 < bt x i) ∧ (((bt x i < 48 ∨ 57 < bt x i) ∧ ¬ bt x i = 95) ∨ i = 0)) : false = gI x := by
 symm
 rcases Nat.eq_zero_or_pos i with h0 | h0
 ·subst h0; exact bFq (by omega)
 refine bQm hi ?_
 unfold nmC; simp only [Bool.or_eq_false_iff, Bool.and_eq_false_iff, decide_eq_false_iff_not]; omega
theorem bOy {x : ByteArray} {i : Nat} (l : 0 < i → 97 ≤ bt x 0 ∧ bt x 0 ≤ 122) (h : (97 ≤ bt x i ∧ bt x i ≤ 122) ∨ (((48 ≤ bt x i ∧ bt x i ≤ 57) ∨ bt x i = 95) ∧ ¬ i = 0)) : 0 < i + 1 → 97 ≤ bt x 0 ∧ bt x 0 ≤ 122 := fun _ => by
 rcases Nat.eq_zero_or_pos i with h0 | h0
 ·subst h0; omega
 exact l h0
theorem bTx {x : ByteArray} {i : Nat} (hi : i ≤ x.size) (l : 0 < i → 97 ≤ bt x 0 ∧ bt x 0 ≤ 122) (h : j5 (fun i => nmC (bt x i)) i) (hs : x.size ≤ i) : (decide (1 ≤ x.size) && decide (x.size ≤ 12)) = gI x := by
 unfold gI
 rw [o4 h hs, Bool.and_true, Bool.eq_iff_iff]
 simp only [Bool.and_eq_true, decide_eq_true_eq]
 rcases Nat.eq_zero_or_pos i with h0 | h0
 ·omega
 have := l h0; omega
theorem aEj {a b : ByteArray} : a.toList = b.toList ↔ a = b := by
 constructor
 ·intro h
  rw [ByteArray.toList_eq, ByteArray.toList_eq] at h
  cases a; cases b
  congr
  exact Array.toList_inj.1 h
 intro h; rw [h]
theorem bIx {s : ByteArray} : s.size = 0 ↔ s = ⟨#[]⟩ := by
 constructor
 ·intro h
  cases s with | mk d =>
  have : d.size = 0 := h
  rw [Array.eq_empty_of_size_eq_zero this]
 rintro rfl; rfl
theorem bMx (s : ByteArray) : (s.toList == ({ data := #[] } : ByteArray).toList) = decide (s.size = 0) := by
 rw [Bool.eq_iff_iff, beq_iff_eq, decide_eq_true_eq, aEj, bIx]
section
attribute [local go_sem] bMx
set_option maxRecDepth 20000 in
theorem aCa (O : aU) (x : ByteArray) : aW Tryz.prog O 168 [vs x] (vb (gI x)) := by
 refine aEc Tryz.func168 rfl (by kernel_rfl) fun w0 I0 A0 => ?_
 have hF := bEq w0 I0 A0
 refine a8 hF [0] ?_
 refine aN fun K1 hK1 => ?_
 refine aN fun K2 hK2 => ?_
 refine dE hF ?_
 refine a7 [0] (by kernel_rfl) ?_
 simp (disch := omega) only [go_sem, seval]
 repeat refine And.intro (by first | (intro h; exact ⟨h, by simp only [Bool.not_eq_true', Bool.or_eq_false_iff, decide_eq_false_iff_not] at h; omega⟩) | (intro h; rw [h]; rfl)) ?_
 refine hK2 _ _ ?_; clear hK2
 refine bU (fun c0 => ?_) fun c0 => ?_
 ·refine a8 hF [] ?_
  refine cL ?_
  refine b6 2 ?_
  refine xb ?_
  ((rw [bFq (by show ¬ (1 ≤ x.size ∧ x.size ≤ 12 ∧ 97 ≤ (x.data.getD 0 0).toNat ∧ (x.data.getD 0 0).toNat ≤ 122); omega)]))
 refine bG ?_
 refine hK1 _ _ ?_; clear hK1
 refine aN fun K4 hK4 => ?_
 refine aN fun K5 hK5 => ?_
 refine bH (Le.keepC [0] _) ?_
 refine bM ?_
 refine ef hF ?_
 show fV _ _ _ _ _ _ _ _
 refine aPf rfl rfl rfl (by decide) (by kernel_rfl) (by kernel_rfl) (by simp (disch := omega) only [go_sem, seval] <;> rfl) (fun g => ?_)
 repeat refine And.intro bS ?_
 refine hK5 _ _ ?_; clear hK5
 refine bI ?_
 refine dB [23] (fun n sF ρ => ∃ pos, n = x.size - pos ∧ sF = some (g, x, pos) ∧ (pos ≤ x.size) ∧ (j5 (fun i => nmC (bt x i)) pos) ∧ ρ = cU O [(23, .v (.pointer (some ⟨g, 0, none⟩)))]) _ ⟨0, rfl, rfl, ?_, ?_, ?_⟩ ?_
 ·exact bD
 ·exact gT _
 ·exact cD
 rintro n sF ρ ⟨pos, rfl, rfl, l0_0, l0_1, rfl⟩ K6 hK6
 rcases Nat.lt_or_ge pos x.size with hp | hp
 ·skip
  refine aN fun K7 hK7 => ?_
  refine bH (Le.keepC [23] _) ?_
  refine bM ?_
  show fV _ _ _ _ _ _ _ _
  refine aIu (pos := pos) rfl rfl rfl (by decide) (by kernel_rfl) (by simp (disch := omega) only [go_sem, seval] <;> rfl) (fun hp1 r len hr1 hr2 hr3 => ?_) (fun hp1 => ?_) <;> try (exfalso; omega)
  refine ef hF ?_
  refine hK7 _ _ ?_; clear hK7
  refine aN fun K8 hK8 => ?_
  refine zK true (by rfl) (rfl) (fun _ => ?_) (fun h => by cases h)
  refine bG ?_
  refine hK8 _ _ ?_; clear hK8
  refine bI ?_
  refine a8 hF [23, 24] ?_
  refine a8 hF [4, 23] ?_
  refine bU (fun c2 => ?_) fun c2 => ?_
  ·refine a8 hF [] ?_
   refine cL ?_
   refine b6 2 ?_
   refine xb ?_
   ((symm; refine bQm hp1 ?_; rw [bFp hp1] at hr1 hr2; unfold nmC; simp only [Bool.or_eq_false_iff, Bool.and_eq_false_iff, decide_eq_false_iff_not]; omega))
  refine bG ?_
  obtain ⟨hl, hc⟩ : len = 1 ∧ nmC (bt x pos) = true := by
   rw [bFp hp1] at hr1 hr2
   have hr : r = bt x pos ∧ len = 1 := hr1 (by omega)
   refine ⟨hr.2, ?_⟩
   unfold nmC; simp only [Bool.or_eq_true, Bool.and_eq_true, decide_eq_true_eq]; omega
  subst hl
  refine hK6 _ _ _ ?_ ⟨pos + 1, rfl, rfl, ?_, ?_, ?_⟩
  ·exact bD
  ·exact bD
  ·exact gN l0_1 hc
  exact cD
 skip
 refine aN fun K12 hK12 => ?_
 refine bH (Le.keepC [23] _) ?_
 refine bM ?_
 show fV _ _ _ _ _ _ _ _
 refine aIu (pos := pos) rfl rfl rfl (by decide) (by kernel_rfl) (by simp (disch := omega) only [go_sem, seval] <;> rfl) (fun hp1 r len hr1 hr2 hr3 => ?_) (fun hp1 => ?_) <;> try (exfalso; omega)
 refine ef hF ?_
 refine hK12 _ _ ?_; clear hK12
 refine aN fun K13 hK13 => ?_
 refine zK false (by rfl) (rfl) (fun h => by cases h) (fun _ => ?_)
 refine dD ?_
 refine hK4 _ _ ?_; clear hK4
 refine a8 hF [] ?_
 refine cL ?_
 refine b6 2 ?_
 refine xb ?_
 ((symm; exact bWq (show 1 ≤ x.size ∧ x.size ≤ 12 ∧ 97 ≤ (x.data.getD 0 0).toNat ∧ (x.data.getD 0 0).toNat ≤ 122 by omega) (by rw [show x.size = pos by omega]; exact l0_1)))
end
theorem aBv (O : aU) (x : ByteArray) (hb : x.size ≤ 140737488355328) : aW Tryz.prog O 193 [vs x] (vb (gI x)) := by
 refine dT Tryz.func193 ?_
 refine aB [0] ?_
 refine aA fun K1 hK1 => ?_
 refine aB [0] ?_
 refine aK ?_
 refine aX [0, 3] (fun n ρ => ∃ i, n = x.size - i ∧ (i ≤ x.size) ∧ (j5 (fun i => nmC (bt x i)) i) ∧ (0 < i → 97 ≤ bt x 0 ∧ bt x 0 ≤ 122) ∧ ρ = cU O [(0, vs x), (3, vi (i : Nat))]) _ ⟨0, rfl, ?_, ?_, ?_, ?_⟩ ?_
 ·exact bD
 ·exact gT _
 ·(intro h; omega)
 ·exact cD
 rintro n ρ ⟨i, rfl, l0_0, l0_1, l0_2, rfl⟩ K3 hK3
 refine aA fun K4 hK4 => ?_
 refine aB [0, 3] ?_
 refine aS (fun c0 => ?_) fun c0 => ?_
 ·refine aJ ?_
  refine hK4 _ ?_; clear hK4
  refine aA fun K6 hK6 => ?_
  refine aK ?_
  refine aB [0, 3] ?_
  refine aB [0, 3, 4] ?_
  refine aB [0, 3, 4, 5] ?_
  refine aS (fun c1 => ?_) fun c1 => ?_
  ·refine aB [] ?_
   refine aL ?_
   refine b6 2 ?_
   refine xb ?_
   (exact bUo c0 (by show ((x.data.getD i 0).toNat < 97 ∨ 122 < (x.data.getD i 0).toNat) ∧ ((((x.data.getD i 0).toNat < 48 ∨ 57 < (x.data.getD i 0).toNat) ∧ ¬ (x.data.getD i 0).toNat = 95) ∨ i = 0); omega))
  refine aJ ?_
  refine hK6 _ ?_; clear hK6
  refine bC [0, 3] ?_
  refine hK3 _ _ ?_ ⟨i + 1, rfl, ?_, ?_, ?_, ?_⟩
  ·exact bD
  ·exact bD
  ·exact gN l0_1 (by show nmC (x.data.getD i 0).toNat = true; unfold nmC; simp only [Bool.or_eq_true, Bool.and_eq_true, decide_eq_true_eq]; omega)
  ·exact bOy l0_2 (by show (97 ≤ (x.data.getD i 0).toNat ∧ (x.data.getD i 0).toNat ≤ 122) ∨ (((48 ≤ (x.data.getD i 0).toNat ∧ (x.data.getD i 0).toNat ≤ 57) ∨ (x.data.getD i 0).toNat = 95) ∧ ¬ i = 0); omega)
  exact cD
 refine bA ?_
 refine hK1 _ ?_; clear hK1
 refine aB [0] ?_
 refine aL ?_
 refine b6 2 ?_
 refine xb ?_
 (exact bTx l0_0 l0_2 l0_1 c0)
end Go.Sg
