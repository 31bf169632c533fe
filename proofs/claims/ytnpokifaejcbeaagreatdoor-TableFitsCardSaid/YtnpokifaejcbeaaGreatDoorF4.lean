/- Several texts as one. -/
import Derived.Test.YtnpokifaejcbeaaGreatDoorF2
import Derived.Test.YtnpokifaejcbeaaGreatDoorF3
import Derived.Laws.RangeAny
set_option linter.unusedSectionVars false
set_option linter.unusedVariables false
set_option linter.unusedSimpArgs false
set_option maxRecDepth 20000
namespace Go.Sg
open Go.Proofs
attribute [go_sem] zI
structure Pas where
 k : Int
 i : Int
 o : Int
 n : Int
instance : Inhabited Pas := ⟨⟨0, 0, 0, 0⟩⟩
def f9 : List Pas := [⟨1, 0, 1, 0⟩, ⟨1, 1, 0, 0⟩, ⟨2, 0, 1, 1⟩, ⟨2, 0, 2, 2⟩, ⟨2, 1, 0, 1⟩, ⟨2, 2, 0, 2⟩, ⟨3, 0, 1, 0⟩, ⟨3, 1, 0, 0⟩, ⟨3, 2, 3, 0⟩, ⟨3, 3, 2, 0⟩]
def bCl (p : Pas) : List DV := [vi p.k, vi p.i, vi p.o, vi p.n]
def wP : List DV := f9.flatMap bCl
theorem aMt : wP = aMm.toList.map .v := rfl
theorem aTe (p : Nat → Bool) : dF p wP = true := rfl
theorem aGe : wP.length = 40 := rfl
theorem aTr {i : Nat} (h : i < 10) : (wP.drop (i * 4)).take 4 = bCl (f9.getD i default) := by
 match i, h with
 | 0, _ | 1, _ | 2, _ | 3, _ | 4, _ | 5, _ | 6, _ | 7, _ | 8, _ | 9, _ => rfl
def cT (k i o : Int) : Int × Bool :=
 if k = 1 ∨ k = 3 then (0, decide ((min i o = 0 ∧ max i o = 1) ∨ (k = 3 ∧ min i o = 2 ∧ max i o = 3)))
 else if k = 2 ∧ min i o = 0 ∧ max i o = 1 then (1, true) else if k = 2 ∧ min i o = 0 ∧ max i o = 2 then (2, true) else (0, false)
def jK : List Pas → Int → Int → Int → Int × Bool
 | [], _, _, _ => (0, false)
 | p :: l, k, i, o => if p.k = k ∧ p.i = i ∧ p.o = o then (p.n, true) else jK l k i o
theorem bPm (i o : Int) : cT 1 i o = (0, decide (min i o = 0 ∧ max i o = 1)) := by
 unfold cT; rw [if_pos (.inl rfl)]; congr 1; rw [decide_eq_decide]; omega
theorem aFx (i o : Int) : cT 2 i o = if min i o = 0 ∧ max i o = 1 then (1, true) else if min i o = 0 ∧ max i o = 2 then (2, true) else (0, false) := by
 unfold cT; rw [if_neg (by omega)]; simp
theorem bEy (i o : Int) : cT 3 i o = (0, decide ((min i o = 0 ∧ max i o = 1) ∨ (min i o = 2 ∧ max i o = 3))) := by
 unfold cT; rw [if_pos (.inr rfl)]; congr 1; rw [decide_eq_decide]; omega
theorem bEk {k : Int} (h1 : k ≠ 1) (h2 : k ≠ 2) (h3 : k ≠ 3) (i o : Int) : cT k i o = (0, false) := by
 unfold cT
 rw [if_neg (by omega), if_neg (by omega), if_neg (by omega)]
theorem qK (k i o : Int) : jK f9 k i o = cT k i o := by
 have hk : k = 1 ∨ k = 2 ∨ k = 3 ∨ (k ≠ 1 ∧ k ≠ 2 ∧ k ≠ 3) := by omega
 rcases hk with rfl | rfl | rfl | ⟨h1, h2, h3⟩
 ·have : jK f9 1 i o = if (0 : Int) = i ∧ (1 : Int) = o then (0, true) else if (1 : Int) = i ∧ (0 : Int) = o then (0, true) else (0, false) := by
   simp [jK, f9]
  rw [this, bPm]
  split
  ·rw [decide_eq_true (by omega)]
  split
  ·rw [decide_eq_true (by omega)]
  rw [decide_eq_false (by omega)]
 ·have : jK f9 2 i o = if (0 : Int) = i ∧ (1 : Int) = o then (1, true) else if (0 : Int) = i ∧ (2 : Int) = o then (2, true) else if (1 : Int) = i ∧ (0 : Int) = o then (1, true) else if (2 : Int) = i ∧ (0 : Int) = o then (2, true) else (0, false) := by
   simp [jK, f9]
  rw [this, aFx]
  repeat' split
  all_goals first | rfl | (exfalso; omega)
 ·have : jK f9 3 i o = if (0 : Int) = i ∧ (1 : Int) = o then (0, true) else if (1 : Int) = i ∧ (0 : Int) = o then (0, true) else if (2 : Int) = i ∧ (3 : Int) = o then (0, true) else if (3 : Int) = i ∧ (2 : Int) = o then (0, true) else (0, false) := by
   simp [jK, f9]
  rw [this, bEy]
  repeat' split
  all_goals first | rw [decide_eq_true (by omega)] | rw [decide_eq_false (by omega)]
 rw [bEk h1 h2 h3]
 simp [jK, f9, Ne.symm h1, Ne.symm h2, Ne.symm h3]
theorem mnI (i o : Int) : (if o < i then o else i) = min i o := by rw [Int.min_def]; split <;> split <;> omega
theorem mxI (i o : Int) : (if i < o then o else i) = max i o := by rw [Int.max_def]; split <;> split <;> omega
theorem bCx : aIp.toList.length = 4 := rfl
def gH (k : Int) : Int := if k = 1 then 2 else if k = 2 then 3 else if k = 3 then 4 else 0
theorem bKj {k : Int} (h0 : 0 ≤ k) (h1 : k < 4) : ((aIp.toList.map DV.v).drop (k.toNat * 1)).getD 0 .any = vi (gH k) := by
 have : k = 0 ∨ k = 1 ∨ k = 2 ∨ k = 3 := by omega
 rcases this with rfl | rfl | rfl | rfl <;> rfl
abbrev aKl (l : List Int) : DV := rowL 3 1 eI l
def mI (l : List Pas) (k i : Int) : List Int := (l.filter fun p => decide (p.k = k ∧ p.i = i)).map (·.o)
def cV (k i : Int) : List Int := mI f9 k i
theorem zM (k i : Int) {n : Nat} (h : n < f9.length) : mI (f9.take (n + 1)) k i = mI (f9.take n) k i ++ if (f9.getD n default).k = k ∧ (f9.getD n default).i = i then [(f9.getD n default).o] else [] := by
 rw [List.take_succ_eq_append_getElem h]
 unfold mI
 rw [List.filter_append, List.map_append]
 congr 1
 rw [List.getD_eq_getElem?_getD, List.getElem?_eq_getElem h, Option.getD_some]
 by_cases q : f9[n].k = k ∧ f9[n].i = i <;> simp [List.filter_cons, q]
def wA (k i : Int) (n : Nat) : List Int := ((List.range n).filter fun s => (cT k i (s : Nat)).2).map fun s => ((s : Nat) : Int)
theorem qG (k i : Int) (n : Nat) : wA k i (n + 1) = wA k i n ++ if (cT k i (n : Nat)).2 = true then [(n : Int)] else [] := by
 unfold wA
 rw [List.range_succ, List.filter_append, List.map_append]
 congr 1
 cases h : (cT k i (n : Nat)).2 <;> simp [List.filter_cons, h]
theorem bDg (k i : Int) : wA k i 4 = cV k i := by
 rw [qG, qG, qG, qG]
 have e0 : wA k i 0 = [] := rfl
 rw [e0]
 have hk : k = 1 ∨ k = 2 ∨ k = 3 ∨ (k ≠ 1 ∧ k ≠ 2 ∧ k ≠ 3) := by omega
 have hi : i = 0 ∨ i = 1 ∨ i = 2 ∨ i = 3 ∨ (i ≠ 0 ∧ i ≠ 1 ∧ i ≠ 2 ∧ i ≠ 3) := by omega
 rcases hk with rfl | rfl | rfl | ⟨h1, h2, h3⟩
 ·rcases hi with rfl | rfl | rfl | rfl | ⟨q0, q1, q2, q3⟩ <;> first | rfl | (simp [← qK, jK, cV, mI, f9, Ne.symm q0, Ne.symm q1, Ne.symm q2, Ne.symm q3])
 ·rcases hi with rfl | rfl | rfl | rfl | ⟨q0, q1, q2, q3⟩ <;> first | rfl | (simp [← qK, jK, cV, mI, f9, Ne.symm q0, Ne.symm q1, Ne.symm q2, Ne.symm q3])
 ·rcases hi with rfl | rfl | rfl | rfl | ⟨q0, q1, q2, q3⟩ <;> first | rfl | (simp [← qK, jK, cV, mI, f9, Ne.symm q0, Ne.symm q1, Ne.symm q2, Ne.symm q3])
 simp [← qK, jK, cV, mI, f9, Ne.symm h1, Ne.symm h2, Ne.symm h3]
set_option maxRecDepth 20000 in
theorem oL (O : aS) (k i o : Int) : aY Tryz.prog O 123 [vi k, vi i, vi o] (.tup [vi (cT k i o).1, vb (cT k i o).2]) := by
 rw [← qK]
 have hpl : f9.length = 10 := rfl
 refine eE Tryz.func123 ?_
 refine aC [0, 1, 2] ?_
 refine aA fun K1 hK1 => ?_
 refine aA fun K2 hK2 => ?_
 refine cH (Le.keepC [0, 1, 2] _) ?_
 refine gR ?_
 show OW _ _ _ _ _ _
 refine cS rfl (by kernel_rfl) (by kernel_rfl) ?_
 simp only [go_sem, GT]
 rw [← aMt]
 simp (disch := omega) only [go_sem, seval]
 rw [show List.take 40 wP = wP from rfl]
 refine And.intro (by decide) ?_
 refine ez ?_
 refine hK2 _ ?_; clear hK2
 refine aL ?_
 refine aZ [0, 1, 2, 10, 11] (fun n ρ => ∃ j, n = 10 - j ∧ (j ≤ 10) ∧ (jK f9 k i o = jK (f9.drop j) k i o) ∧ ρ = dU O [(0, vi k), (1, vi i), (2, vi o), (10, .agg wP), (11, vi (j : Nat))]) _ ⟨0, rfl, ?_, ?_, ?_⟩ ?_
 ·exact bI
 ·rfl
 ·exact dC
 rintro n ρ ⟨j, rfl, l0_0, l0_1, rfl⟩ K3 hK3
 refine aC [0, 1, 2, 10, 11] ?_
 refine aA fun K5 hK5 => ?_
 refine aV (fun c0 => ?_) fun c0 => ?_
 ·refine aJ ?_
  refine hK5 _ ?_; clear hK5
  refine aA fun K6 hK6 => ?_
  refine aL ?_
  refine aA fun K7 hK7 => ?_
  refine cH (Le.keepC [0, 1, 2, 10, 11] _) ?_
  refine gR ?_
  show OW _ _ _ _ _ _
  refine aGi (n := 10) (z := 4) (cs := wP) (kk := .i64) (k := (j : Nat)) rfl rfl rfl (by decide) (by kernel_rfl) (by kernel_rfl) (by simp (disch := omega) only [go_sem, seval]) (by simp (disch := omega) only [go_sem, seval]) (by omega) (by omega) (by rw [aGe]; omega) ?_
  rw [Int.toNat_natCast, aTr (by omega)]
  unfold bCl
  refine ez ?_
  refine ez ?_
  refine hK7 _ ?_; clear hK7
  refine aA fun K8 hK8 => ?_
  have hdp := bV (l := f9) default (show j < f9.length by omega)
  refine bE [0, 1, 2, 9, 10, 11] ?_
  refine hK8 _ ?_; clear hK8
  refine aV (fun c1 => ?_) fun c1 => ?_
  ·refine aC [9] ?_
   refine aM ?_
   refine xD (.cons ?_ (.cons ?_ .nil))
   ·exact mC (by simp (disch := omega) only [go_sem, seval] <;> ((rw [l0_1, hdp, jK, if_pos (by omega)]))) rfl rfl
   exact mC (by simp (disch := omega) only [go_sem, seval] <;> ((rw [l0_1, hdp, jK, if_pos (by omega)]))) rfl rfl
  refine aJ ?_
  refine hK6 _ ?_; clear hK6
  refine bE [0, 1, 2, 10, 11] ?_
  refine hK3 _ _ ?_ ⟨j + 1, rfl, ?_, ?_, ?_⟩
  ·exact bI
  ·exact bI
  ·(rw [l0_1, hdp, jK, if_neg (by omega)])
  exact dC
 refine bA ?_
 refine hK1 _ ?_; clear hK1
 refine aC [] ?_
 refine aM ?_
 refine xD (.cons ?_ (.cons ?_ .nil))
 ·exact mC (by simp (disch := omega) only [go_sem, seval] <;> ((rw [l0_1, eN (by omega)]; rfl))) rfl rfl
 exact mC (by simp (disch := omega) only [go_sem, seval] <;> ((rw [l0_1, eN (by omega)]; rfl))) rfl rfl
section
attribute [local go_sem] GT bKj List.length_drop List.length_map bCx
theorem rD (O : aS) (k : Int) : aY Tryz.prog O 124 [vi k] (vi (gH k)) := by
 refine eE Tryz.func124 ?_
 refine aC [0] ?_
 refine aA fun K1 hK1 => ?_
 refine aC [0] ?_
 refine aV (fun c0 => ?_) fun c0 => ?_
 ·refine aC [] ?_
  refine aM ?_
  refine cW 2 ?_
  exact dE.is (by simp (disch := omega) only [go_sem, seval] <;> ((unfold gH; rw [if_neg (by omega), if_neg (by omega), if_neg (by omega)]))) rfl rfl
 refine aJ ?_
 refine hK1 _ ?_; clear hK1
 refine aC [0] ?_
 refine aM ?_
 refine cW 2 ?_
 exact dE.is (by simp (disch := omega) only [go_sem, seval] <;> (exact bI)) rfl rfl
end
section
attribute [local go_sem] aTe
set_option maxRecDepth 20000 in
theorem tK (O : aS) (k i : Int) : aY Tryz.prog O 178 [vi k, vi i] (dL (cV k i)) := by
 have hpl : f9.length = 10 := rfl
 refine eE Tryz.func178 ?_
 refine aC [0, 1] ?_
 refine aC [0, 1] ?_
 refine aA fun K2 hK2 => ?_
 refine aA fun K3 hK3 => ?_
 refine cH (Le.keepC [0, 1, 5] _) ?_
 refine gR ?_
 show OW _ _ _ _ _ _
 refine cS rfl (by kernel_rfl) (by kernel_rfl) ?_
 simp only [go_sem, GT]
 rw [← aMt]
 simp (disch := omega) only [go_sem, seval]
 rw [show List.take 40 wP = wP from rfl]
 refine And.intro (by decide) ?_
 refine ez ?_
 refine hK3 _ ?_; clear hK3
 refine aL ?_
 refine gZ 5 3 1 eI rfl rfl ?_
 refine aZ [0, 1, 5, 8, 9] (fun n ρ => ∃ j, n = 10 - j ∧ (j ≤ 10) ∧ ρ = dU O [(0, vi k), (1, vi i), (5, aKl (mI (f9.take j) k i)), (8, .agg wP), (9, vi (j : Nat))]) _ ⟨0, rfl, ?_, ?_⟩ ?_
 ·exact bI
 ·exact dC
 rintro n ρ ⟨j, rfl, l0_0, rfl⟩ K4 hK4
 have hfl : (mI (f9.take j) k i).length ≤ 10 := by
   unfold mI; rw [List.length_map]; exact Nat.le_trans (List.length_filter_le _ _) (by rw [List.length_take]; omega)
 refine aC [0, 1, 5, 8, 9] ?_
 refine aA fun K6 hK6 => ?_
 refine aV (fun c0 => ?_) fun c0 => ?_
 ·refine aJ ?_
  refine hK6 _ ?_; clear hK6
  refine aA fun K7 hK7 => ?_
  refine aL ?_
  refine aA fun K8 hK8 => ?_
  refine cH (Le.keepC [0, 1, 5, 8, 9] _) ?_
  refine gR ?_
  show OW _ _ _ _ _ _
  refine aGi (n := 10) (z := 4) (cs := wP) (kk := .i64) (k := (j : Nat)) rfl rfl rfl (by decide) (by kernel_rfl) (by kernel_rfl) (by simp (disch := omega) only [go_sem, seval]) (by simp (disch := omega) only [go_sem, seval]) (by omega) (by omega) (by rw [aGe]; omega) ?_
  rw [Int.toNat_natCast, aTr (by omega)]
  unfold bCl
  refine ez ?_
  refine ez ?_
  refine hK8 _ ?_; clear hK8
  refine aC [0, 1, 5, 7, 8, 9] ?_
  refine aV (fun c1 => ?_) fun c1 => ?_
  ·refine bE [0, 1, 5, 7, 8, 9] ?_
   refine hK7 _ ?_; clear hK7
   refine bE [0, 1, 5, 8, 9] ?_
   refine hK4 _ _ ?_ ⟨j + 1, rfl, ?_, ?_⟩
   ·exact bI
   ·exact bI
   simp (disch := omega) only [go_sem, seval] <;> (rw [zM _ _ (by omega), if_pos c1]; first | rfl | simp)
  refine aJ ?_
  refine hK7 _ ?_; clear hK7
  refine bE [0, 1, 5, 8, 9] ?_
  refine hK4 _ _ ?_ ⟨j + 1, rfl, ?_, ?_⟩
  ·exact bI
  ·exact bI
  simp (disch := omega) only [go_sem, seval] <;> (rw [zM _ _ (by omega), if_neg (by omega), List.append_nil]; rfl)
 refine bA ?_
 refine hK2 _ ?_; clear hK2
 refine aA fun K10 hK10 => ?_
 refine fG 5 _ rfl rfl ?_
 refine bE [5] ?_
 refine hK10 _ ?_; clear hK10
 refine aM ?_
 refine cW 4 ?_
 exact dE.encL rfl (by rw [List.take_of_length_le (by omega)]; rfl)
end
section
attribute [local go_sem] mnI mxI
theorem rG (O : aS) (k i o : Int) : aY Tryz.prog O 156 [vi k, vi i, vi o] (.tup [vi (cT k i o).1, vb (cT k i o).2]) := by
 refine eE Tryz.func156 ?_
 refine aC [0, 1, 2] ?_
 refine aC [0, 1, 2] ?_
 refine aC [0, 1, 2, 8] ?_
 refine aA fun K3 hK3 => ?_
 refine aC [0, 8, 9] ?_
 refine aV (fun c0 => ?_) fun c0 => ?_
 ·refine aC [0, 8, 9] ?_
  refine aM ?_
  refine xD (.cons ?_ (.cons ?_ .nil))
  ·exact mC (by simp (disch := omega) only [go_sem, seval] <;> ((unfold cT; rw [if_pos c0]))) rfl rfl
  exact mC (by simp (disch := omega) only [go_sem, seval] <;> ((unfold cT; rw [if_pos c0]; refine congrArg vb ?_; rw [Bool.eq_iff_iff]; simp; omega))) rfl rfl
 refine aJ ?_
 refine hK3 _ ?_; clear hK3
 refine aA fun K6 hK6 => ?_
 refine aC [0, 8, 9] ?_
 refine aV (fun c1 => ?_) fun c1 => ?_
 ·refine aC [] ?_
  refine aM ?_
  refine xD (.cons ?_ (.cons ?_ .nil))
  ·exact mC (by simp (disch := omega) only [go_sem, seval] <;> ((unfold cT; rw [if_neg (by omega), if_pos (by omega)]))) rfl rfl
  exact mC (by simp (disch := omega) only [go_sem, seval] <;> ((unfold cT; rw [if_neg (by omega), if_pos (by omega)]))) rfl rfl
 refine aJ ?_
 refine hK6 _ ?_; clear hK6
 refine aA fun K9 hK9 => ?_
 refine aC [0, 8, 9] ?_
 refine aV (fun c2 => ?_) fun c2 => ?_
 ·refine aC [] ?_
  refine aM ?_
  refine xD (.cons ?_ (.cons ?_ .nil))
  ·exact mC (by simp (disch := omega) only [go_sem, seval] <;> ((unfold cT; rw [if_neg (by omega), if_neg (by omega), if_pos (by omega)]))) rfl rfl
  exact mC (by simp (disch := omega) only [go_sem, seval] <;> ((unfold cT; rw [if_neg (by omega), if_neg (by omega), if_pos (by omega)]))) rfl rfl
 refine aJ ?_
 refine hK9 _ ?_; clear hK9
 refine aC [] ?_
 refine aM ?_
 refine xD (.cons ?_ (.cons ?_ .nil))
 ·exact mC (by simp (disch := omega) only [go_sem, seval] <;> ((unfold cT; rw [if_neg (by omega), if_neg (by omega), if_neg (by omega)]))) rfl rfl
 exact mC (by simp (disch := omega) only [go_sem, seval] <;> ((unfold cT; rw [if_neg (by omega), if_neg (by omega), if_neg (by omega)]))) rfl rfl
end
theorem aAy (O : aS) (k i : Int) : aY Tryz.prog O 102 [vi k, vi i] (dL (cV k i)) := by
 rw [← bDg]
 refine eE Tryz.func102 ?_
 refine aC [0, 1] ?_
 refine aC [0, 1] ?_
 refine aA fun K2 hK2 => ?_
 refine aC [0, 1, 5] ?_
 refine aL ?_
 refine gZ 5 3 1 eI rfl rfl ?_
 refine aZ [0, 1, 5, 6] (fun n ρ => ∃ j, n = 4 - j ∧ (j ≤ 4) ∧ ρ = dU O [(0, vi k), (1, vi i), (5, aKl (wA k i j)), (6, vi (j : Nat))]) _ ⟨0, rfl, ?_, ?_⟩ ?_
 ·exact bI
 ·exact dC
 rintro n ρ ⟨j, rfl, l0_0, rfl⟩ K4 hK4
 have hfl : (wA k i j).length ≤ 4 := by
   unfold wA; rw [List.length_map]; exact Nat.le_trans (List.length_filter_le _ _) (by rw [List.length_range]; omega)
 refine aA fun K5 hK5 => ?_
 refine aC [0, 1, 5, 6] ?_
 refine aV (fun c0 => ?_) fun c0 => ?_
 ·refine aJ ?_
  refine hK5 _ ?_; clear hK5
  refine aA fun K7 hK7 => ?_
  refine aL ?_
  refine aA fun K8 hK8 => ?_
  refine bL [0, 1, 5, 6] ?_
  refine eL (rG _ k i (j : Nat)) ?_
  refine hK8 _ ?_; clear hK8
  refine aC [0, 1, 5, 6, 8] ?_
  refine aV (fun c1 => ?_) fun c1 => ?_
  ·refine bE [0, 1, 5, 6] ?_
   refine hK7 _ ?_; clear hK7
   refine bE [0, 1, 5, 6] ?_
   refine hK4 _ _ ?_ ⟨j + 1, rfl, ?_, ?_⟩
   ·exact bI
   ·exact bI
   simp (disch := omega) only [go_sem, seval] <;> (rw [qG, if_pos c1]; first | rfl | simp)
  refine aJ ?_
  refine hK7 _ ?_; clear hK7
  refine bE [0, 1, 5, 6] ?_
  refine hK4 _ _ ?_ ⟨j + 1, rfl, ?_, ?_⟩
  ·exact bI
  ·exact bI
  simp (disch := omega) only [go_sem, seval] <;> (rw [qG, c1, if_neg (by decide), List.append_nil]; rfl)
 refine bA ?_
 refine hK2 _ ?_; clear hK2
 refine aA fun K10 hK10 => ?_
 refine fG 5 _ rfl rfl ?_
 refine bE [5] ?_
 refine hK10 _ ?_; clear hK10
 refine aM ?_
 refine cW 4 ?_
 exact dE.encL rfl (by rw [show j = 4 by omega])
end Go.Sg
namespace Go.Sg
open Go.Proofs
theorem roC {P : Program} {ρ : aS} {a : Nat} {t : TypeId} {cs ds : List DV} (h : ρ a = .bx cs) (he : cs = ds) (hl : eD P t = some (some ds.length)) (hs : gT (· + 100000) ds = ds) : aAq P ρ (.cell a t) (.agg ds) := by
 subst he
 refine ⟨cs, h, .inl ⟨hl, ?_⟩⟩
 have : sh (.agg cs) = .agg cs := congrArg DV.agg hs
 rw [this]; exact dI.refl _
theorem nU {P : Program} {ρ : aS} {fn : Func} {O : aS} {cs : List DV} (a t : Nat) (hf : fn.results = #[.cell a t]) (h1 : hi ρ = bT O) (h2 : ρ a = .bx cs) (h3 : eD P t = some (some cs.length)) (h4 : sh (.agg cs) = .agg cs) : wH P fn O (fun O' r' => O' = O ∧ r' = .agg cs) .ret ρ :=
 y9 h1 (by rw [hf]; exact ⟨rfl, cs, h2, .inl ⟨h3, by rw [h4]; exact dI.refl _⟩⟩)
abbrev aGb (l : List gV) : DV := encL 4 rY l
abbrev jU (l : List jF) : DV := encL 4 gA l
abbrev j9 (l : List jD) : DV := encL 7 fN l
abbrev aGy (l : List oN) : DV := encL 3 qP l
abbrev mB (l : List ByteArray) : DV := encL 1 eS l
def xZ (l : aB) : List ByteArray := l.fElements.map (·.fName)
def qR (l : aB) : List ByteArray := l.fSignals.map (·.fName)
def cF (l : aB) : List (List ByteArray) := [[l.fName], l.fSections, xZ l, qR l]
structure eK (l : aB) : Prop where
 sec : l.fSections.length ≤ 60
 el : l.fElements.length ≤ 60
 jo : l.fJoints.length ≤ 100
 sg : l.fSignals.length ≤ 60
 bl : l.fBalises.length ≤ 60
 nm : ∀ n ∈ cF l, ∀ x ∈ n, x.size ≤ 140737488355328
def E0 : cG := ⟨0, 0⟩
def dM : List gV → cG → cG × Bool
 | [], _ => (E0, false)
 | j :: l, e => if j.fA = e then (j.fB, true) else if j.fB = e then (j.fA, true) else dM l e
abbrev aI (l : aB) (e : cG) : cG × Bool := dM l.fJoints e
def tZ : List jF → cG → Nat → Int
 | [], _, _ => -1
 | s :: l, e, n => if s.fAt = e then (n : Int) else tZ l e (n + 1)
abbrev iU (l : aB) (e : cG) : Int := tZ l.fSignals e 0
abbrev e5 (l : aB) (i : Nat) : jD := l.fElements.getD i default
def yG (l : aB) (n : Nat) : List Int := ((List.range n).filter fun i => decide ((e5 l i).fKind = 2)).map fun i => ((i : Nat) : Int)
def d8 (l : aB) : List Int := yG l l.fElements.length
def aJs (l : aB) (s : Int) (n : Nat) : List Int := ((List.range n).filter fun i => decide ((e5 l i).fSection = s)).map fun i => ((i : Nat) : Int)
def aRc (l : aB) (s : Int) : List Int := if 0 ≤ s ∧ s < (l.fSections.length : Int) then aJs l s l.fElements.length else []
def bU (l : aB) (e : Int) : Int := if 0 ≤ e ∧ e < (l.fElements.length : Int) then (e5 l e.toNat).fSection else -1
theorem aEa (l : aB) (n : Nat) : yG l (n + 1) = yG l n ++ if (e5 l n).fKind = 2 then [(n : Int)] else [] := by
 unfold yG
 rw [List.range_succ, List.filter_append, List.map_append]
 congr 1
 by_cases h : (e5 l n).fKind = 2
 ·rw [if_pos h, List.filter_cons_of_pos (by simpa using h)]; rfl
 rw [if_neg h, List.filter_cons_of_neg (by simpa using h)]; rfl
theorem aWl (l : aB) (s : Int) (n : Nat) : aJs l s (n + 1) = aJs l s n ++ if (e5 l n).fSection = s then [(n : Int)] else [] := by
 unfold aJs
 rw [List.range_succ, List.filter_append, List.map_append]
 congr 1
 by_cases h : (e5 l n).fSection = s
 ·rw [if_pos h, List.filter_cons_of_pos (by simpa using h)]; rfl
 rw [if_neg h, List.filter_cons_of_neg (by simpa using h)]; rfl
theorem pQ (l : aB) (n : Nat) : (yG l n).length ≤ n := by
 unfold yG; rw [List.length_map]; exact Nat.le_trans (List.length_filter_le _ _) (by simp)
theorem aRm (l : aB) (s : Int) (n : Nat) : (aJs l s n).length ≤ n := by
 unfold aJs; rw [List.length_map]; exact Nat.le_trans (List.length_filter_le _ _) (by simp)
theorem iH (O : aS) (l : aB) (e : cG) : aY Tryz.prog O 118 [.agg (aK l), .agg (cE e)] (.tup [.agg (cE (aI l e).1), vb (aI l e).2]) := by
 refine aU 0 rfl (.agg (d := aGb l.fJoints) (by simp [aK]) (.sl _ _ _)) fun hj => ?_
 refine eE Tryz.func118 ?_
 refine aC [0, 1] ?_
 refine aA fun K1 hK1 => ?_
 refine aC [2, 3, 4] ?_
 refine aL ?_
 refine aZ [2, 3, 4, 9, 10, 11] (fun n ρ => ∃ i, n = l.fJoints.length - i ∧ (i ≤ l.fJoints.length) ∧ (dM l.fJoints e = dM (l.fJoints.drop i) e) ∧ ρ = dU O [(2, .bx (aK l)), (3, .bx (cE e)), (4, .bx (cE E0)), (9, aGb l.fJoints), (10, vi (l.fJoints.length : Nat)), (11, vi (i : Nat))]) _ ⟨0, rfl, ?_, ?_, ?_⟩ ?_
 ·exact bI
 ·rfl
 ·exact dC
 rintro n ρ ⟨i, rfl, l0_0, l0_1, rfl⟩ K3 hK3
 refine aC [2, 3, 4, 8, 9, 10, 11] ?_
 refine aA fun K5 hK5 => ?_
 refine aV (fun c0 => ?_) fun c0 => ?_
 ·refine aJ ?_
  refine hK5 _ ?_; clear hK5
  refine aA fun K6 hK6 => ?_
  refine aL ?_
  refine aC [2, 3, 4, 8, 9, 10, 11] ?_
  refine aA fun K8 hK8 => ?_
  refine aC [2, 3, 4, 7, 8, 9, 10, 11] ?_
  refine aV (fun c1 => ?_) fun c1 => ?_
  ·refine aC [4, 7] ?_
   refine aM ?_
   refine xD (.cons ?_ (.cons ?_ .nil))
   ·exact roC (by simp (disch := omega) only [go_sem, seval] <;> rfl) (by simp (disch := omega) only [go_sem, seval] <;> ((rw [aI, l0_1, bV default c0, dM, if_pos ((dO _ _).2 (by simpa using c1))]))) (by kernel_rfl) (by first | rfl | (simp (disch := omega) only [go_sem, seval]))
   exact mC (by simp (disch := omega) only [go_sem, seval] <;> ((rw [aI, l0_1, bV default c0, dM, if_pos ((dO _ _).2 (by simpa using c1))]))) rfl rfl
  refine aJ ?_
  refine hK8 _ ?_; clear hK8
  refine aC [2, 3, 4, 7, 8, 9, 10, 11] ?_
  refine aV (fun c2 => ?_) fun c2 => ?_
  ·refine aC [4, 7] ?_
   refine aM ?_
   refine xD (.cons ?_ (.cons ?_ .nil))
   ·exact roC (by simp (disch := omega) only [go_sem, seval] <;> rfl) (by simp (disch := omega) only [go_sem, seval] <;> ((rw [aI, l0_1, bV default c0, dM, if_neg (fun h => by rw [dO] at h; simp_all), if_pos ((dO _ _).2 (by simpa using c2))]))) (by kernel_rfl) (by first | rfl | (simp (disch := omega) only [go_sem, seval]))
   exact mC (by simp (disch := omega) only [go_sem, seval] <;> ((rw [aI, l0_1, bV default c0, dM, if_neg (fun h => by rw [dO] at h; simp_all), if_pos ((dO _ _).2 (by simpa using c2))]))) rfl rfl
  refine aJ ?_
  refine hK6 _ ?_; clear hK6
  refine bE [2, 3, 4, 8, 9, 10, 11] ?_
  refine hK3 _ _ ?_ ⟨i + 1, rfl, ?_, ?_, ?_⟩
  ·exact bI
  ·exact bI
  ·(rw [l0_1, bV default c0, dM, if_neg (fun h => by rw [dO] at h; simp_all), if_neg (fun h => by rw [dO] at h; simp_all)])
  exact dC
 refine bA ?_
 refine hK1 _ ?_; clear hK1
 refine aC [4] ?_
 refine aM ?_
 refine xD (.cons ?_ (.cons ?_ .nil))
 ·exact roC (by simp (disch := omega) only [go_sem, seval] <;> rfl) (by simp (disch := omega) only [go_sem, seval] <;> ((rw [aI, l0_1, eN c0]; rfl))) (by kernel_rfl) (by first | rfl | (simp (disch := omega) only [go_sem, seval]))
 exact mC (by simp (disch := omega) only [go_sem, seval] <;> ((rw [aI, l0_1, eN c0]; rfl))) rfl rfl
theorem oW (O : aS) (l : aB) (e : cG) : aY Tryz.prog O 18 [.agg (aK l), .agg (cE e)] (.tup [.agg (cE (aI l e).1), vb (aI l e).2]) := by
 refine aU 0 rfl (.agg (d := aGb l.fJoints) (by simp [aK]) (.sl _ _ _)) fun hj => ?_
 refine eE Tryz.func18 ?_
 refine aC [0, 1] ?_
 refine aA fun K1 hK1 => ?_
 refine aC [2, 3, 4] ?_
 refine aL ?_
 refine aZ [2, 3, 4, 9, 10, 11] (fun n ρ => ∃ i, n = l.fJoints.length - i ∧ (i ≤ l.fJoints.length) ∧ (dM l.fJoints e = dM (l.fJoints.drop i) e) ∧ ρ = dU O [(2, .bx (aK l)), (3, .bx (cE e)), (4, .bx (cE E0)), (9, aGb l.fJoints), (10, vi (l.fJoints.length : Nat)), (11, vi (i : Nat))]) _ ⟨0, rfl, ?_, ?_, ?_⟩ ?_
 ·exact bI
 ·rfl
 ·exact dC
 rintro n ρ ⟨i, rfl, l0_0, l0_1, rfl⟩ K3 hK3
 refine aC [2, 3, 4, 8, 9, 10, 11] ?_
 refine aA fun K5 hK5 => ?_
 refine aV (fun c0 => ?_) fun c0 => ?_
 ·refine aJ ?_
  refine hK5 _ ?_; clear hK5
  refine aA fun K6 hK6 => ?_
  refine aL ?_
  refine aC [2, 3, 4, 8, 9, 10, 11] ?_
  refine aA fun K8 hK8 => ?_
  refine aC [2, 3, 4, 7, 8, 9, 10, 11] ?_
  refine aV (fun c1 => ?_) fun c1 => ?_
  ·refine aC [4, 7] ?_
   refine aM ?_
   refine xD (.cons ?_ (.cons ?_ .nil))
   ·exact roC (by simp (disch := omega) only [go_sem, seval] <;> rfl) (by simp (disch := omega) only [go_sem, seval] <;> ((rw [aI, l0_1, bV default c0, dM, if_pos ((dO _ _).2 (by simpa using c1))]))) (by kernel_rfl) (by first | rfl | (simp (disch := omega) only [go_sem, seval]))
   exact mC (by simp (disch := omega) only [go_sem, seval] <;> ((rw [aI, l0_1, bV default c0, dM, if_pos ((dO _ _).2 (by simpa using c1))]))) rfl rfl
  refine aJ ?_
  refine hK8 _ ?_; clear hK8
  refine aC [2, 3, 4, 7, 8, 9, 10, 11] ?_
  refine aV (fun c2 => ?_) fun c2 => ?_
  ·refine aC [4, 7] ?_
   refine aM ?_
   refine xD (.cons ?_ (.cons ?_ .nil))
   ·exact roC (by simp (disch := omega) only [go_sem, seval] <;> rfl) (by simp (disch := omega) only [go_sem, seval] <;> ((rw [aI, l0_1, bV default c0, dM, if_neg (fun h => by rw [dO] at h; simp_all), if_pos ((dO _ _).2 (by simpa using c2))]))) (by kernel_rfl) (by first | rfl | (simp (disch := omega) only [go_sem, seval]))
   exact mC (by simp (disch := omega) only [go_sem, seval] <;> ((rw [aI, l0_1, bV default c0, dM, if_neg (fun h => by rw [dO] at h; simp_all), if_pos ((dO _ _).2 (by simpa using c2))]))) rfl rfl
  refine aJ ?_
  refine hK6 _ ?_; clear hK6
  refine bE [2, 3, 4, 8, 9, 10, 11] ?_
  refine hK3 _ _ ?_ ⟨i + 1, rfl, ?_, ?_, ?_⟩
  ·exact bI
  ·exact bI
  ·(rw [l0_1, bV default c0, dM, if_neg (fun h => by rw [dO] at h; simp_all), if_neg (fun h => by rw [dO] at h; simp_all)])
  exact dC
 refine bA ?_
 refine hK1 _ ?_; clear hK1
 refine aC [4] ?_
 refine aM ?_
 refine xD (.cons ?_ (.cons ?_ .nil))
 ·exact roC (by simp (disch := omega) only [go_sem, seval] <;> rfl) (by simp (disch := omega) only [go_sem, seval] <;> ((rw [aI, l0_1, eN c0]; rfl))) (by kernel_rfl) (by first | rfl | (simp (disch := omega) only [go_sem, seval]))
 exact mC (by simp (disch := omega) only [go_sem, seval] <;> ((rw [aI, l0_1, eN c0]; rfl))) rfl rfl
theorem iK (O : aS) (l : aB) (e : cG) : aY Tryz.prog O 171 [.agg (aK l), .agg (cE e)] (vi (iU l e)) := by
 refine aU 0 rfl (.agg (d := jU l.fSignals) (by simp [aK]) (.sl _ _ _)) fun hs => ?_
 refine eE Tryz.func171 ?_
 refine aC [0, 1] ?_
 refine aA fun K1 hK1 => ?_
 refine aC [2, 3] ?_
 refine aL ?_
 refine aZ [3, 8, 9, 10] (fun n ρ => ∃ i, n = l.fSignals.length - i ∧ (i ≤ l.fSignals.length) ∧ (tZ l.fSignals e 0 = tZ (l.fSignals.drop i) e i) ∧ ρ = dU O [(3, .bx (cE e)), (8, jU l.fSignals), (9, vi (l.fSignals.length : Nat)), (10, vi (i : Nat))]) _ ⟨0, rfl, ?_, ?_, ?_⟩ ?_
 ·exact bI
 ·rfl
 ·exact dC
 rintro n ρ ⟨i, rfl, l0_0, l0_1, rfl⟩ K3 hK3
 refine aC [2, 3, 7, 8, 9, 10] ?_
 refine aA fun K5 hK5 => ?_
 refine aV (fun c0 => ?_) fun c0 => ?_
 ·refine aJ ?_
  refine hK5 _ ?_; clear hK5
  refine aA fun K6 hK6 => ?_
  refine aL ?_
  refine aC [2, 3, 7, 8, 9, 10] ?_
  refine aC [2, 3, 5, 6, 7, 8, 9, 10] ?_
  refine aV (fun c1 => ?_) fun c1 => ?_
  ·refine aC [5] ?_
   refine aM ?_
   refine cW 4 ?_
   exact dE.is (by simp (disch := omega) only [go_sem, seval] <;> ((rw [iU, l0_1, bV default c0, tZ, if_pos ((dO _ _).2 (by simpa using c1))]))) rfl rfl
  refine aJ ?_
  refine hK6 _ ?_; clear hK6
  refine bE [2, 3, 7, 8, 9, 10] ?_
  refine hK3 _ _ ?_ ⟨i + 1, rfl, ?_, ?_, ?_⟩
  ·exact bI
  ·exact bI
  ·(rw [l0_1, bV default c0, tZ, if_neg (fun h => by rw [dO] at h; simp_all)])
  exact dC
 refine bA ?_
 refine hK1 _ ?_; clear hK1
 refine aC [] ?_
 refine aM ?_
 refine cW 4 ?_
 exact dE.is (by simp (disch := omega) only [go_sem, seval] <;> ((rw [iU, l0_1, eN c0]; rfl))) rfl rfl
theorem w8 (O : aS) (l : aB) (e : cG) : aY Tryz.prog O 56 [.agg (aK l), .agg (cE e)] (vi (iU l e)) := by
 refine aU 0 rfl (.agg (d := jU l.fSignals) (by simp [aK]) (.sl _ _ _)) fun hs => ?_
 refine eE Tryz.func56 ?_
 refine aC [0, 1] ?_
 refine aA fun K1 hK1 => ?_
 refine aC [2, 3] ?_
 refine aL ?_
 refine aZ [3, 8, 9, 10] (fun n ρ => ∃ i, n = l.fSignals.length - i ∧ (i ≤ l.fSignals.length) ∧ (tZ l.fSignals e 0 = tZ (l.fSignals.drop i) e i) ∧ ρ = dU O [(3, .bx (cE e)), (8, jU l.fSignals), (9, vi (l.fSignals.length : Nat)), (10, vi (i : Nat))]) _ ⟨0, rfl, ?_, ?_, ?_⟩ ?_
 ·exact bI
 ·rfl
 ·exact dC
 rintro n ρ ⟨i, rfl, l0_0, l0_1, rfl⟩ K3 hK3
 refine aC [2, 3, 7, 8, 9, 10] ?_
 refine aA fun K5 hK5 => ?_
 refine aV (fun c0 => ?_) fun c0 => ?_
 ·refine aJ ?_
  refine hK5 _ ?_; clear hK5
  refine aA fun K6 hK6 => ?_
  refine aL ?_
  refine aC [2, 3, 7, 8, 9, 10] ?_
  refine aC [2, 3, 5, 6, 7, 8, 9, 10] ?_
  refine aV (fun c1 => ?_) fun c1 => ?_
  ·refine aC [5] ?_
   refine aM ?_
   refine cW 4 ?_
   exact dE.is (by simp (disch := omega) only [go_sem, seval] <;> ((rw [iU, l0_1, bV default c0, tZ, if_pos ((dO _ _).2 (by simpa using c1))]))) rfl rfl
  refine aJ ?_
  refine hK6 _ ?_; clear hK6
  refine bE [2, 3, 7, 8, 9, 10] ?_
  refine hK3 _ _ ?_ ⟨i + 1, rfl, ?_, ?_, ?_⟩
  ·exact bI
  ·exact bI
  ·(rw [l0_1, bV default c0, tZ, if_neg (fun h => by rw [dO] at h; simp_all)])
  exact dC
 refine bA ?_
 refine hK1 _ ?_; clear hK1
 refine aC [] ?_
 refine aM ?_
 refine cW 4 ?_
 exact dE.is (by simp (disch := omega) only [go_sem, seval] <;> ((rw [iU, l0_1, eN c0]; rfl))) rfl rfl
theorem u7 (O : aS) (l : aB) (hl : eK l) : aY Tryz.prog O 38 [.agg (aK l)] (dL (d8 l)) := by
 have hl1 := hl.sec
 have hl2 := hl.el
 have hl3 := hl.jo
 have hl4 := hl.sg
 have hl5 := hl.bl
 refine aU 0 rfl (.agg (d := j9 l.fElements) (by simp [aK]) (.sl _ _ _)) fun he => ?_
 refine eE Tryz.func38 ?_
 refine aC [0] ?_
 refine aC [1] ?_
 refine aA fun K2 hK2 => ?_
 refine aC [1, 3] ?_
 refine aL ?_
 refine gZ 3 3 1 eI rfl rfl ?_
 refine aZ [3, 7, 8, 9] (fun n ρ => ∃ i, n = l.fElements.length - i ∧ (i ≤ l.fElements.length) ∧ ρ = dU O [(3, aKl (yG l i)), (7, j9 l.fElements), (8, vi (l.fElements.length : Nat)), (9, vi (i : Nat))]) _ ⟨0, rfl, ?_, ?_⟩ ?_
 ·exact bI
 ·exact dC
 rintro n ρ ⟨i, rfl, l0_0, rfl⟩ K4 hK4
 have hfl := pQ l i
 refine aC [1, 3, 6, 7, 8, 9] ?_
 refine aA fun K6 hK6 => ?_
 refine aV (fun c0 => ?_) fun c0 => ?_
 ·refine aJ ?_
  refine hK6 _ ?_; clear hK6
  refine aA fun K7 hK7 => ?_
  refine aL ?_
  refine aC [1, 3, 6, 7, 8, 9] ?_
  refine aC [1, 3, 4, 5, 6, 7, 8, 9] ?_
  refine aV (fun c1 => ?_) fun c1 => ?_
  ·refine bE [1, 3, 4, 6, 7, 8, 9] ?_
   refine hK7 _ ?_; clear hK7
   refine bE [1, 3, 6, 7, 8, 9] ?_
   refine hK4 _ _ ?_ ⟨i + 1, rfl, ?_, ?_⟩
   ·exact bI
   ·exact bI
   simp (disch := omega) only [go_sem, seval] <;> (rw [aEa, if_pos c1]; first | rfl | simp)
  refine aJ ?_
  refine hK7 _ ?_; clear hK7
  refine bE [1, 3, 6, 7, 8, 9] ?_
  refine hK4 _ _ ?_ ⟨i + 1, rfl, ?_, ?_⟩
  ·exact bI
  ·exact bI
  simp (disch := omega) only [go_sem, seval] <;> (rw [aEa, if_neg c1, List.append_nil]; rfl)
 refine bA ?_
 refine hK2 _ ?_; clear hK2
 refine aA fun K10 hK10 => ?_
 refine fG 3 _ rfl rfl ?_
 refine bE [3] ?_
 refine hK10 _ ?_; clear hK10
 refine aM ?_
 refine cW 2 ?_
 exact dE.encL rfl (by (rw [show i = l.fElements.length by omega]; rfl))
theorem wF (O : aS) (l : aB) (hl : eK l) : aY Tryz.prog O 33 [.agg (aK l)] (dL (d8 l)) := by
 have hl1 := hl.sec
 have hl2 := hl.el
 have hl3 := hl.jo
 have hl4 := hl.sg
 have hl5 := hl.bl
 refine aU 0 rfl (.agg (d := j9 l.fElements) (by simp [aK]) (.sl _ _ _)) fun he => ?_
 refine eE Tryz.func33 ?_
 refine aC [0] ?_
 refine aC [1] ?_
 refine aA fun K2 hK2 => ?_
 refine aC [1, 3] ?_
 refine aL ?_
 refine gZ 3 3 1 eI rfl rfl ?_
 refine aZ [3, 7, 8, 9] (fun n ρ => ∃ i, n = l.fElements.length - i ∧ (i ≤ l.fElements.length) ∧ ρ = dU O [(3, aKl (yG l i)), (7, j9 l.fElements), (8, vi (l.fElements.length : Nat)), (9, vi (i : Nat))]) _ ⟨0, rfl, ?_, ?_⟩ ?_
 ·exact bI
 ·exact dC
 rintro n ρ ⟨i, rfl, l0_0, rfl⟩ K4 hK4
 have hfl := pQ l i
 refine aC [1, 3, 6, 7, 8, 9] ?_
 refine aA fun K6 hK6 => ?_
 refine aV (fun c0 => ?_) fun c0 => ?_
 ·refine aJ ?_
  refine hK6 _ ?_; clear hK6
  refine aA fun K7 hK7 => ?_
  refine aL ?_
  refine aC [1, 3, 6, 7, 8, 9] ?_
  refine aC [1, 3, 4, 5, 6, 7, 8, 9] ?_
  refine aV (fun c1 => ?_) fun c1 => ?_
  ·refine bE [1, 3, 4, 6, 7, 8, 9] ?_
   refine hK7 _ ?_; clear hK7
   refine bE [1, 3, 6, 7, 8, 9] ?_
   refine hK4 _ _ ?_ ⟨i + 1, rfl, ?_, ?_⟩
   ·exact bI
   ·exact bI
   simp (disch := omega) only [go_sem, seval] <;> (rw [aEa, if_pos c1]; first | rfl | simp)
  refine aJ ?_
  refine hK7 _ ?_; clear hK7
  refine bE [1, 3, 6, 7, 8, 9] ?_
  refine hK4 _ _ ?_ ⟨i + 1, rfl, ?_, ?_⟩
  ·exact bI
  ·exact bI
  simp (disch := omega) only [go_sem, seval] <;> (rw [aEa, if_neg c1, List.append_nil]; rfl)
 refine bA ?_
 refine hK2 _ ?_; clear hK2
 refine aA fun K10 hK10 => ?_
 refine fG 3 _ rfl rfl ?_
 refine bE [3] ?_
 refine hK10 _ ?_; clear hK10
 refine aM ?_
 refine cW 2 ?_
 exact dE.encL rfl (by (rw [show i = l.fElements.length by omega]; rfl))
theorem uB (O : aS) (l : aB) (s : Int) (hl : eK l) : aY Tryz.prog O 169 [.agg (aK l), vi s] (dL (aRc l s)) := by
 have hl1 := hl.sec
 have hl2 := hl.el
 have hl3 := hl.jo
 have hl4 := hl.sg
 have hl5 := hl.bl
 refine aU 0 rfl (.agg (d := j9 l.fElements) (by simp [aK]) (.sl _ _ _)) fun he => ?_
 refine aU 0 rfl (.agg (d := mB l.fSections) (by simp [aK]) (.sl _ _ _)) fun hc => ?_
 refine eE Tryz.func169 ?_
 refine aC [0, 1] ?_
 refine aA fun K1 hK1 => ?_
 refine aC [1, 2] ?_
 refine aV (fun c0 => ?_) fun c0 => ?_
 ·refine aC [] ?_
  refine qN 4 1 eI rfl rfl ?_
  refine aM ?_
  refine cW 4 ?_
  exact dE.encL rfl (by (unfold aRc; rw [if_neg (by omega)]))
 refine aJ ?_
 refine hK1 _ ?_; clear hK1
 refine aC [1, 2] ?_
 refine aA fun K5 hK5 => ?_
 refine aC [1, 2, 5] ?_
 refine aL ?_
 refine gZ 5 3 1 eI rfl rfl ?_
 refine aZ [1, 5, 18, 19, 20] (fun n ρ => ∃ i, n = l.fElements.length - i ∧ (i ≤ l.fElements.length) ∧ ρ = dU O [(1, vi s), (5, aKl (aJs l s i)), (18, j9 l.fElements), (19, vi (l.fElements.length : Nat)), (20, vi (i : Nat))]) _ ⟨0, rfl, ?_, ?_⟩ ?_
 ·exact bI
 ·exact dC
 rintro n ρ ⟨i, rfl, l0_0, rfl⟩ K7 hK7
 have hfl := aRm l s i
 refine aC [1, 2, 5, 17, 18, 19, 20] ?_
 refine aA fun K9 hK9 => ?_
 refine aV (fun c1 => ?_) fun c1 => ?_
 ·refine aJ ?_
  refine hK9 _ ?_; clear hK9
  refine aA fun K10 hK10 => ?_
  refine aL ?_
  refine aC [1, 2, 5, 17, 18, 19, 20] ?_
  refine aC [1, 2, 5, 6, 7, 17, 18, 19, 20] ?_
  refine aV (fun c2 => ?_) fun c2 => ?_
  ·refine bE [1, 2, 5, 6, 17, 18, 19, 20] ?_
   refine hK10 _ ?_; clear hK10
   refine bE [1, 2, 5, 17, 18, 19, 20] ?_
   refine hK7 _ _ ?_ ⟨i + 1, rfl, ?_, ?_⟩
   ·exact bI
   ·exact bI
   simp (disch := omega) only [go_sem, seval] <;> (rw [aWl, if_pos c2]; first | rfl | simp)
  refine aJ ?_
  refine hK10 _ ?_; clear hK10
  refine bE [1, 2, 5, 17, 18, 19, 20] ?_
  refine hK7 _ _ ?_ ⟨i + 1, rfl, ?_, ?_⟩
  ·exact bI
  ·exact bI
  simp (disch := omega) only [go_sem, seval] <;> (rw [aWl, if_neg c2, List.append_nil]; rfl)
 refine bA ?_
 refine hK5 _ ?_; clear hK5
 refine aA fun K13 hK13 => ?_
 refine fG 5 _ rfl rfl ?_
 refine bE [5] ?_
 refine hK13 _ ?_; clear hK13
 refine aM ?_
 refine cW 4 ?_
 exact dE.encL rfl (by (rw [show i = l.fElements.length by omega]; unfold aRc; rw [if_pos (by omega)]))
theorem dH (O : aS) (l : aB) (x : Int) : aY Tryz.prog O 39 [.agg (aK l), vi x] (vi (bU l x)) := by
 refine aU 0 rfl (.agg (d := j9 l.fElements) (by simp [aK]) (.sl _ _ _)) fun he => ?_
 refine eE Tryz.func39 ?_
 refine aC [0, 1] ?_
 refine aA fun K1 hK1 => ?_
 refine aC [1, 2] ?_
 refine aV (fun c0 => ?_) fun c0 => ?_
 ·refine aC [] ?_
  refine aM ?_
  refine cW 4 ?_
  exact dE.is (by simp (disch := omega) only [go_sem, seval] <;> ((unfold bU; rw [if_neg (by omega)]))) rfl rfl
 refine aJ ?_
 refine hK1 _ ?_; clear hK1
 refine aC [1, 2] ?_
 refine aM ?_
 refine cW 4 ?_
 exact dE.is (by simp (disch := omega) only [go_sem, seval] <;> ((unfold bU; rw [if_pos (by omega)]))) rfl rfl
theorem fW (O : aS) (l : aB) (x : Int) : aY Tryz.prog O 23 [.agg (aK l), vi x] (vi (bU l x)) := by
 refine aU 0 rfl (.agg (d := j9 l.fElements) (by simp [aK]) (.sl _ _ _)) fun he => ?_
 refine eE Tryz.func23 ?_
 refine aC [0, 1] ?_
 refine aA fun K1 hK1 => ?_
 refine aC [1, 2] ?_
 refine aV (fun c0 => ?_) fun c0 => ?_
 ·refine aC [] ?_
  refine aM ?_
  refine cW 4 ?_
  exact dE.is (by simp (disch := omega) only [go_sem, seval] <;> ((unfold bU; rw [if_neg (by omega)]))) rfl rfl
 refine aJ ?_
 refine hK1 _ ?_; clear hK1
 refine aC [1, 2] ?_
 refine aM ?_
 refine cW 4 ?_
 exact dE.is (by simp (disch := omega) only [go_sem, seval] <;> ((unfold bU; rw [if_pos (by omega)]))) rfl rfl
end Go.Sg
namespace Go.Sg
open Go.RowKit
open Go.Rv (FR)
def bDz (w0 : World) (I0 : Nat → Prop) (A0 : cO) (s : Option (Nat × ByteArray × Nat)) (w : World) (I : Nat → Prop) (A : cO) : Prop :=
 eA w0 I0 A0 w I A ∧ ∀ g str pos, s = some (g, str, pos) → w0.heap.size ≤ g ∧ w.heap[g]? = some (.stringIter str pos) ∧ ¬ I g ∧ ∀ t c, A t ≠ some (some g, c)
section
variable {w0 : World} {I0 : Nat → Prop} {A0 : cO} {P : Program} {nt : Nat} {ρ : aS}
theorem aNh {w : World} {g : Nat} {x : Obj} (h : w.heap[g]? = some x) : g < w.heap.size := (Array.getElem?_eq_some_iff.1 h).1
theorem aYi (w0 : World) (I0 : Nat → Prop) (A0 : cO) : StF (bDz w0 I0 A0) := fun s w I A w' I' A' ρ hs h k =>
 ⟨h.1.trans k, fun g str pos e => by
  obtain ⟨h1, h2, h3, h4⟩ := h.2 g str pos e
  obtain ⟨k1, k2, k3⟩ := k.old g (aNh h2) h4
  exact ⟨h1, k1.trans h2, fun x => h3 (k2 x), k3⟩⟩
theorem aDc {f : FuncId} {fn : Func} {c : Code} {O : aS} {args : List DV} {R : aS → DV → Prop} (hf : P.funcs[f]? = some fn) (hb : fn.body = some c)
  (hn : (decide (args.length ≤ fn.ntmps) && decide (fn.ntmps ≤ 100000) && fn.results.toList.all (fun v => match v with | .tmp t => decide (t < fn.ntmps) | .cell t _ => decide (t < fn.ntmps))) = true)
  (h : ∀ w0 I0 A0, kB P fn.ntmps (bDz w0 I0 A0) c (fun e _ ρ => wH P fn O R e ρ) none (lA O args)) : iC P O f args R :=
 s9 hf hb hn fun w I A a hs hd => wpIn_mono (h w I (b6 A) none [] I (b6 A) a w hs hd ⟨eA.refl _ _ _, fun g str pos e => by cases e⟩) fun e a' w' ⟨I', A', ρ', s', h1, h2, h3, h4⟩ => ⟨I', A', ρ', h1, h2, h3.1, h4⟩
theorem aPm {ops : Array Oper} {o : Oper} {K : Option (Nat × ByteArray × Nat) → aS → Prop} {t : TypeId} {x : Operand} {d : Nat} {str : ByteArray} (hop : o.op = .range t x) (hg : o.guard = none) (hdst : o.dst = some d) (hd : d < nt)
  (ho : dA nt o = true) (ht : P.underlying t = some .string) (hx : ev ρ x = .v (.string str)) {s : Option (Nat × ByteArray × Nat)} (hK : ∀ g, K (some (g, str, 0)) (set ρ d (.v (.pointer (some ⟨g, 0, none⟩))))) : gN P nt (bDz w0 I0 A0) ops o K s ρ := by
 intro ro ds I A a w hs hdf hf next Q' hn
 have hxr := hs.opd x (bF ho (by simp [hop, Op.operands])) (by rw [hx]; trivial)
 rw [hx] at hxr
 have hxe : a.eval x = .string str := by
  have hxr : bH w I A (.v (.string str)) (a.eval x) := hxr
  generalize a.eval x = q at hxr ⊢
  cases hxr; rfl
 rw [if_pos (by simp [Region.wanted, hg])]
 have hrun : (execOp a.eval o).run P w = .ok (.value (.pointer (some ⟨w.heap.size, 0, none⟩))) (w.alloc (.stringIter str 0)) := by
  simp only [execOp, hop, hxe, Sem.run_bind, run_range_string w t str ht, Result.andThen_ok, Sem.run_pure]
  rfl
 refine nK hrun ?_
 have hh : ∀ g, g < w.heap.size → (w.alloc (.stringIter str 0)).heap[g]? = w.heap[g]? := fun g hg => by
  show (w.heap.push _)[g]? = _
  rw [Array.getElem?_push_lt hg, Array.getElem?_eq_getElem hg]
 have hsz : w.heap.size ≤ (w.alloc (.stringIter str 0)).heap.size := by show _ ≤ (w.heap.push _).size; simp
 have hnew : (w.alloc (.stringIter str 0)).heap[w.heap.size]? = some (.stringIter str 0) := by show (w.heap.push _)[w.heap.size]? = _; simp
 have hext : eA w I A (w.alloc (.stringIter str 0)) I A := ⟨rfl, ⟨rfl, Nat.le_refl _⟩, rfl, hsz, fun _ h => h, fun g hg hA => ⟨hh g hg, fun h => h, hA⟩, fun s g c hA _ hs => ⟨s, c, hs, hA⟩, fun _ _ => rfl⟩
 have hs1 : b9 nt (w.alloc (.stringIter str 0)) I A ρ a := hs.steady (fun g hg => hh g (hs.osim.imm g hg)) (fun s g c hA => hh g (hs.osim.sep s g c hA).1) hsz
 have hs2 := hs1.put (d := d) (v := .v (.pointer (some ⟨w.heap.size, 0, none⟩))) (x := .pointer (some ⟨w.heap.size, 0, none⟩)) hd (.ofRel (.v A _)) trivial
 rw [hdst]
 refine hn I A _ _ _ (some (w.heap.size, str, 0)) hs2 (by rw [d4]; exact hdf) ⟨hf.1.trans hext, fun g str' pos e => ?_⟩ (hK _)
 cases e
 exact ⟨hf.1.size, hnew, fun hi => by have := hs.osim.imm _ hi; omega, fun t c hA => by have := (hs.osim.sep t _ c hA).1; omega⟩
theorem aGl {ops : Array Oper} {o : Oper} {K : Option (Nat × ByteArray × Nat) → aS → Prop} {x : Operand} {d g pos : Nat} {str : ByteArray} (hop : o.op = .next x true) (hg : o.guard = none) (hdst : o.dst = some d) (hd : d < nt)
  (ho : dA nt o = true) (hx : ev ρ x = .v (.pointer (some ⟨g, 0, none⟩)))
  (hT : ∀ (h : pos < str.size) (r len : Nat), ((str[pos]'h).toNat < 128 → r = (str[pos]'h).toNat ∧ len = 1) → (128 ≤ (str[pos]'h).toNat → 128 ≤ r) → 1 ≤ len → K (some (g, str, pos + len)) (set ρ d (.tup [.v (.bool true), vi (pos : Nat), .v (.int .i32 (r : Nat))])))
  (hE : str.size ≤ pos → K (some (g, str, pos)) (set ρ d (.tup [.v (.bool false)]))) : gN P nt (bDz w0 I0 A0) ops o K (some (g, str, pos)) ρ := by
 intro ro ds I A a w hs hdf hf next Q' hn
 have hxr := hs.opd x (bF ho (by simp [hop, Op.operands])) (by rw [hx]; trivial)
 rw [hx] at hxr
 have hxe : a.eval x = .pointer (some ⟨g, 0, none⟩) := by
  have hxr : bH w I A (.v (.pointer (some ⟨g, 0, none⟩))) (a.eval x) := hxr
  generalize a.eval x = q at hxr ⊢
  cases hxr; rfl
 rw [if_pos (by simp [Region.wanted, hg])]
 obtain ⟨f1, f2, f3, f4⟩ := hf.2 g str pos rfl
 have hgl := aNh f2
 by_cases hp : pos < str.size
 ·generalize hdec : Utf8.decode str pos = rl
  obtain ⟨r, len⟩ := rl
  obtain ⟨w', hw'⟩ : ∃ w' : World, w' = { w with heap := w.heap.setIfInBounds g (.stringIter str (pos + len)) } := ⟨_, rfl⟩
  have hrun : (execOp a.eval o).run P w = .ok (.value (.tuple #[.bool true, .int .i64 pos, .int .i32 r])) w' := by
   simp only [execOp, hop, hxe, Sem.run_bind, Instr.next, getObj, setObj, Sem.run, f2, Result.andThen, hp, if_true, hdec]
   simp [goInt, Sem.run, f2, hw', hgl]
  refine nK hrun ?_
  have hh : ∀ k, k ≠ g → w'.heap[k]? = w.heap[k]? := fun k hk => by
   rw [hw']
   show (w.heap.setIfInBounds g _)[k]? = _
   rw [Array.getElem?_setIfInBounds_ne (Ne.symm hk)]
  have hsz : w'.heap.size = w.heap.size := by rw [hw']; simp
  have hat : w'.heap[g]? = some (.stringIter str (pos + len)) := by
   rw [hw']
   show (w.heap.setIfInBounds g _)[g]? = _
   simp [Array.getElem?_setIfInBounds, hgl]
  have hs1 : b9 nt w' I A ρ a := hs.steady (fun k hk => hh k fun e => f3 (e ▸ hk)) (fun s k c hA => hh k fun e => f4 s c (e ▸ hA)) (by omega)
  have hr : bH w' I A (.tup [.v (.bool true), vi (pos : Nat), .v (.int .i32 (r : Nat))]) (.tuple #[.bool true, .int .i64 pos, .int .i32 r]) := .tup A _ _ rfl fun j d u hd' hu => by
   match j with
   | 0 => simp at hd' hu; subst hd'; subst hu; exact .v A _
   | 1 => simp at hd' hu; subst hd'; subst hu; exact .v A _
   | 2 => simp at hd' hu; subst hd'; subst hu; exact .v A _
   | j + 3 => simp at hd'
  have hs2 := hs1.put (d := d) hd (.ofRel hr) trivial
  rw [hdst]
  have e := hf.1
  have os1 : w'.os = w.os := by rw [hw']
  have tp1 : w'.tape = w.tape := by rw [hw']
  have dr1 : w'.drawn = w.drawn := by rw [hw']
  have ou1 : w'.output = w.output := by rw [hw']
  refine hn I A _ _ _ (some (g, str, pos + len)) hs2 (by rw [d4]; exact hdf) ⟨⟨os1.trans e.os, ⟨tp1.trans e.tape.1, by rw [dr1]; exact e.tape.2⟩, ou1.trans e.output, by rw [hsz]; exact e.size, e.imm, fun k hk hA => ⟨(hh k (by omega)).trans (e.old k hk hA).1, (e.old k hk hA).2⟩, e.loc, e.outA⟩, fun g' str' pos' e' => ?_⟩ ?_
  ·cases e'; exact ⟨f1, hat, f3, f4⟩
  refine hT hp r len (fun ha => ?_) (fun ha => ?_) ?_
  ·rw [decode_ascii str pos hp ha] at hdec
   cases hdec; exact ⟨rfl, rfl⟩
  ·have := (decode_high str pos hp ha).1; rw [hdec] at this; exact this
  rcases Nat.lt_or_ge (str[pos]'hp).toNat 128 with ha | ha
  ·rw [decode_ascii str pos hp ha] at hdec; cases hdec; omega
  have := (decode_high str pos hp ha).2; rw [hdec] at this; exact this
 have hrun : (execOp a.eval o).run P w = .ok (.value (.tuple #[.bool false])) w := by
  simp [execOp, hop, hxe, Instr.next, getObj, Sem.run, f2, hp, Result.andThen]
 refine nK hrun ?_
 have hr : bH w I A (.tup [.v (.bool false)]) (.tuple #[.bool false]) := .tup A _ _ rfl fun j d u hd' hu => by
  match j with
  | 0 => simp at hd' hu; subst hd'; subst hu; exact .v A _
  | j + 1 => simp at hd'
 have hs2 := hs.put (d := d) hd (.ofRel hr) trivial
 rw [hdst]
 exact hn I A _ _ _ (some (g, str, pos)) hs2 (by rw [d4]; exact hdf) hf (hE (by omega))
end
end Go.Sg
namespace Go.Sg
open Go.Proofs
abbrev bt (s : ByteArray) (i : Nat) : Nat := (s.data.getD i 0).toNat
def nmC (c : Nat) : Bool := (decide (97 ≤ c) && decide (c ≤ 122)) || (decide (48 ≤ c) && decide (c ≤ 57)) || decide (c = 95)
def jV (s : ByteArray) : Bool := decide (1 ≤ s.size ∧ s.size ≤ 12 ∧ 97 ≤ bt s 0 ∧ bt s 0 ≤ 122) && (List.range s.size).all fun i => nmC (bt s i)
theorem bEf {s : ByteArray} {i : Nat} (h : i < s.size) : (s[i]'h).toNat = bt s i := by
 unfold bt
 have : s.size = s.data.size := rfl
 rw [Array.getD_eq_getD_getElem?, Array.getElem?_eq_getElem (by omega)]
 rfl
theorem bVh {s : ByteArray} (h : 1 ≤ s.size ∧ s.size ≤ 12 ∧ 97 ≤ bt s 0 ∧ bt s 0 ≤ 122) (h2 : oO (fun i => nmC (bt s i)) s.size) : jV s = true := by
 unfold jV; rw [decide_eq_true h, Bool.true_and]; exact uO h2 (Nat.le_refl _)
theorem bXs {s : ByteArray} {i : Nat} (hi : i < s.size) (h : nmC (bt s i) = false) : jV s = false := by
 unfold jV; rw [rA hi h, Bool.and_false]
theorem bSh {s : ByteArray} (h : ¬ (1 ≤ s.size ∧ s.size ≤ 12 ∧ 97 ≤ bt s 0 ∧ bt s 0 ≤ 122)) : jV s = false := by
 unfold jV; rw [decide_eq_false h, Bool.false_and]
theorem bFj {a b : ByteArray} : a.toList = b.toList ↔ a = b := by
 constructor
 ·intro h
  rw [ByteArray.toList_eq, ByteArray.toList_eq] at h
  cases a; cases b
  congr
  exact Array.toList_inj.1 h
 intro h; rw [h]
theorem bGp {s : ByteArray} : s.size = 0 ↔ s = ⟨#[]⟩ := by
 constructor
 ·intro h
  cases s with | mk d =>
  have : d.size = 0 := h
  rw [Array.eq_empty_of_size_eq_zero this]
 rintro rfl; rfl
theorem bKw (s : ByteArray) : (s.toList == ({ data := #[] } : ByteArray).toList) = decide (s.size = 0) := by
 rw [Bool.eq_iff_iff, beq_iff_eq, decide_eq_true_eq, bFj, bGp]
section
attribute [local go_sem] bKw
set_option maxRecDepth 20000 in
theorem aAv (O : aS) (x : ByteArray) : aY Tryz.prog O 168 [vs x] (vb (jV x)) := by
 refine aDc Tryz.func168 rfl (by kernel_rfl) fun w0 I0 A0 => ?_
 have hF := aYi w0 I0 A0
 refine bD hF [0] ?_
 refine aT fun K1 hK1 => ?_
 refine aT fun K2 hK2 => ?_
 refine fD hF ?_
 refine aX [0] (by kernel_rfl) ?_
 simp (disch := omega) only [go_sem, seval]
 repeat refine And.intro (by first | (intro h; exact ⟨h, by simp only [Bool.not_eq_true', Bool.or_eq_false_iff, decide_eq_false_iff_not] at h; omega⟩) | (intro h; rw [h]; rfl)) ?_
 refine hK2 _ _ ?_; clear hK2
 refine cJ (fun c0 => ?_) fun c0 => ?_
 ·refine bD hF [] ?_
  refine dD ?_
  refine cW 2 ?_
  refine xb ?_
  ((rw [bSh (by show ¬ (1 ≤ x.size ∧ x.size ≤ 12 ∧ 97 ≤ (x.data.getD 0 0).toNat ∧ (x.data.getD 0 0).toNat ≤ 122); omega)]))
 refine bN ?_
 refine hK1 _ _ ?_; clear hK1
 refine aT fun K4 hK4 => ?_
 refine aT fun K5 hK5 => ?_
 refine bK (Le.keepC [0] _) ?_
 refine bM ?_
 refine ef hF ?_
 show gN _ _ _ _ _ _ _ _
 refine aPm rfl rfl rfl (by decide) (by kernel_rfl) (by kernel_rfl) (by simp (disch := omega) only [go_sem, seval] <;> rfl) (fun g => ?_)
 repeat refine And.intro bS ?_
 refine hK5 _ _ ?_; clear hK5
 refine bR ?_
 refine dV [23] (fun n sF ρ => ∃ pos, n = x.size - pos ∧ sF = some (g, x, pos) ∧ (pos ≤ x.size) ∧ (oO (fun i => nmC (bt x i)) pos) ∧ ρ = dU O [(23, .v (.pointer (some ⟨g, 0, none⟩)))]) _ ⟨0, rfl, rfl, ?_, ?_, ?_⟩ ?_
 ·exact bI
 ·exact l4 _
 ·exact dC
 rintro n sF ρ ⟨pos, rfl, rfl, l0_0, l0_1, rfl⟩ K6 hK6
 rcases Nat.lt_or_ge pos x.size with hp | hp
 ·skip
  refine aT fun K7 hK7 => ?_
  refine bK (Le.keepC [23] _) ?_
  refine bM ?_
  show gN _ _ _ _ _ _ _ _
  refine aGl (pos := pos) rfl rfl rfl (by decide) (by kernel_rfl) (by simp (disch := omega) only [go_sem, seval] <;> rfl) (fun hp1 r len hr1 hr2 hr3 => ?_) (fun hp1 => ?_) <;> try (exfalso; omega)
  refine ef hF ?_
  refine hK7 _ _ ?_; clear hK7
  refine aT fun K8 hK8 => ?_
  refine zS true (by rfl) (rfl) (fun _ => ?_) (fun h => by cases h)
  refine bN ?_
  refine hK8 _ _ ?_; clear hK8
  refine bR ?_
  refine bD hF [23, 24] ?_
  refine bD hF [4, 23] ?_
  refine cJ (fun c2 => ?_) fun c2 => ?_
  ·refine bD hF [] ?_
   refine dD ?_
   refine cW 2 ?_
   refine xb ?_
   ((symm; refine bXs hp1 ?_; rw [bEf hp1] at hr1 hr2; unfold nmC; simp only [Bool.or_eq_false_iff, Bool.and_eq_false_iff, decide_eq_false_iff_not]; omega))
  refine bN ?_
  obtain ⟨hl, hc⟩ : len = 1 ∧ nmC (bt x pos) = true := by
   rw [bEf hp1] at hr1 hr2
   have hr : r = bt x pos ∧ len = 1 := hr1 (by omega)
   refine ⟨hr.2, ?_⟩
   unfold nmC; simp only [Bool.or_eq_true, Bool.and_eq_true, decide_eq_true_eq]; omega
  subst hl
  refine hK6 _ _ _ ?_ ⟨pos + 1, rfl, rfl, ?_, ?_, ?_⟩
  ·exact bI
  ·exact bI
  ·exact mG l0_1 hc
  exact dC
 skip
 refine aT fun K12 hK12 => ?_
 refine bK (Le.keepC [23] _) ?_
 refine bM ?_
 show gN _ _ _ _ _ _ _ _
 refine aGl (pos := pos) rfl rfl rfl (by decide) (by kernel_rfl) (by simp (disch := omega) only [go_sem, seval] <;> rfl) (fun hp1 r len hr1 hr2 hr3 => ?_) (fun hp1 => ?_) <;> try (exfalso; omega)
 refine ef hF ?_
 refine hK12 _ _ ?_; clear hK12
 refine aT fun K13 hK13 => ?_
 refine zS false (by rfl) (rfl) (fun h => by cases h) (fun _ => ?_)
 refine eB ?_
 refine hK4 _ _ ?_; clear hK4
 refine bD hF [] ?_
 refine dD ?_
 refine cW 2 ?_
 refine xb ?_
 ((symm; exact bVh (show 1 ≤ x.size ∧ x.size ≤ 12 ∧ 97 ≤ (x.data.getD 0 0).toNat ∧ (x.data.getD 0 0).toNat ≤ 122 by omega) (by rw [show x.size = pos by omega]; exact l0_1)))
end
end Go.Sg
