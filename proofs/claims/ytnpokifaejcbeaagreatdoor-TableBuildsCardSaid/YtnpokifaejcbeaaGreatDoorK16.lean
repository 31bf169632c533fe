/- Several texts as one. -/
import Derived.Test.YtnpokifaejcbeaaGreatDoorK15
set_option linter.unusedSectionVars false
set_option linter.unusedVariables false
set_option linter.unusedSimpArgs false
set_option maxRecDepth 20000
namespace Go.Sg
open Go.Proofs
def gP (l : aC) (f a : cC) : List (List bB) := xI l 13 a []
def gnX (l : aC) (d : DV) : List DV := aI l ++ [d]
theorem aTg (l : aC) (h : Hd) (n : Nat) (d : DV) : (rQ l h n).set 6 d = gnX l d := rfl
theorem bAi {l : aC} {d : DV} : (gnX l d).length = 7 := rfl
theorem aWq {l : aC} {d : DV} : (gnX l d).drop 6 = [d] := rfl
theorem bCl {l : aC} {d : DV} : (gnX l d).getD 6 .any = d := rfl
theorem bDo {l : aC} {z n : Nat} {f : Nat → List DV} (p : Nat → Bool) : dS p (gnX l (.sl z n f)) = true := rfl
theorem bDc {l : aC} {z n : Nat} {f : Nat → List DV} : iA (fun x => x + 100000) (gnX l (.sl z n f)) = gnX l (.sl z n f) := rfl
theorem bUu : ∃ i, Tryz.prog.info? 3 = some i ∧ i.zero = some (nE.val 0) := by
 refine ⟨_, rfl, rfl⟩
theorem bUx {l : aC} {i : Int} {P : List (List bB)} {k : Nat} (h : ¬ 1 < gC (d5 l i) (P.take (k + 1)) (d5 l i (P.getD k []))) : nbR l i P k = zQ l i (P.getD k []) := by unfold nbR mZ; rw [if_neg h]
theorem bSt {l : aC} {i : Int} {P : List (List bB)} {k : Nat} (h : 1 < gC (d5 l i) (P.take (k + 1)) (d5 l i (P.getD k []))) : nbR l i P k = { zQ l i (P.getD k []) with fName := d5 l i (P.getD k []) ++ (⟨#[46]⟩ ++ fmt (gC (d5 l i) (P.take (k + 1)) (d5 l i (P.getD k [])) : Nat)) } := by unfold nbR mZ; rw [if_pos h]; rfl
theorem aNj {n : Nat} (h : n ≤ 21) : (⟨#[46]⟩ : ByteArray).size + n ≤ maxLen := by unfold maxLen; show 1 + n ≤ _; omega
theorem aNy {n m : Nat} (h : n ≤ 21) (hm : m ≤ 2001) : m + ((⟨#[46]⟩ : ByteArray).size + n) ≤ maxLen := by unfold maxLen; show m + (1 + n) ≤ _; omega
theorem aOx {n m : Nat} (h : n ≤ 21) (hm : m ≤ 2001) : m + 1 + n ≤ maxLen := by unfold maxLen; omega
theorem aOr (a b : ByteArray) : (a ++ b).size = a.size + b.size := ByteArray.size_append
theorem aRr {l : aC} (hs : ∀ i, i < l.fSignals.length → (l.fSignals.getD i default).fName.size ≤ 1000) {i : Nat} (hi : i < l.fSignals.length) (q : List bB) : (d5 l i q).size ≤ 2001 := by
 show ((l.fSignals.getD (i : Int).toNat default).fName ++ ⟨#[45]⟩ ++ nmQ l (exQ l q)).size ≤ _
 have h1 := hs i hi
 have h2 := aSg hs (aHs l q).1
 rw [aOr, aOr, Int.toNat_natCast]
 show _ + 1 + _ ≤ _
 omega
theorem aJr (l : aC) (i : Int) (P : List (List bB)) (n : Nat) : ((nK l i P n).map aZ).take n = (nK l i P n).map aZ := List.take_of_length_le (by rw [List.length_map, oC]; exact Nat.le_refl _)
theorem aSo {l : aC} {i : Nat} (hi : i < l.fSignals.length) (h : (aD l (l.fSignals.getD i default).fAt).2 = true) : dH gP l (i : Nat) = nK l i (gP l (l.fSignals.getD i default).fAt (aD l (l.fSignals.getD i default).fAt).1) (gP l (l.fSignals.getD i default).fAt (aD l (l.fSignals.getD i default).fAt).1).length := by
 unfold dH; rw [if_neg (by omega)]; simp only [Int.toNat_natCast]; rw [if_neg (by rw [h]; simp)]
theorem aWu {l : aC} {i : Nat} (hi : i < l.fSignals.length) (h : (aD l (l.fSignals.getD i default).fAt).2 = false) : dH gP l (i : Nat) = [] := by
 unfold dH; rw [if_neg (by omega)]; simp only [Int.toNat_natCast]; rw [if_pos h]
theorem aKi (l : aC) (f a : cC) : (gP l f a).length ≤ 8192 := aEs l 13 a []
section
attribute [local go_sem] List.drop_zero i6 iW iY f7 lT lP lN lM lK lQ jH jO jQ gS mV mC l2 mO mJ mD mT mM mH mU jG jJ jK jL aJr List.length_map aDq aGb aAq y1 aEk aEv aFy aFv aTg bAi aWq bCl bDo bDc oC
set_option maxRecDepth 20000 in
set_option maxHeartbeats 8000000 in
theorem aBz (O : aU) (l : aC) (i : Nat) (hi : i < l.fSignals.length) (hl : dX l) (hes : kT l = true) (hs : ∀ i, i < l.fSignals.length → (l.fSignals.getD i default).fName.size ≤ 1000) (hv : ∀ e, (aD l e).2 = true → 0 ≤ (aD l e).1.fEl) : aW Tryz.prog O 73 [.agg (aI l), vi (i : Nat)] (iU (dH gP l (i : Nat))) := by
 obtain ⟨i3, hi3, hz3⟩ := bUu
 have hl4 := hl.sg
 have hgl := aKi l (l.fSignals.getD i default).fAt (aD l (l.fSignals.getD i default).fAt).1
 refine eV Tryz.func73 rfl (by kernel_rfl) fun w0 I0 A0 => ?_
 have hF := jN w0 I0 (b8 A0) (xG [])
 refine a8 hF [0, 1] ?_
 refine aN fun K1 hK1 => ?_
 refine a8 hF [1, 2] ?_
 refine bU (fun c0 => ?_) fun c0 => ?_
 ·omega
 refine bG ?_
 refine hK1 _ _ ?_; clear hK1
 refine aN fun K3 hK3 => ?_
 refine dE hF ?_
 refine k9 14 [1, 2] [1, 2, 24, 25, 26, 27, 28, 29, 30, 31, 23, 32, 33, 6, 5] [] [] [[], [], [1], [], [1, 2, 3], [1, 2, 3, 4], [1, 2, 3, 4, 5], [0, 1, 2, 3, 4, 5, 6], [0, 1, 2, 3, 4, 5, 6, 7], [0, 1, 2, 3, 4, 5, 6, 7, 8], [0, 1, 2, 3, 4, 5, 6, 7, 8], [], [0, 1, 2, 3, 4, 5, 6, 7, 8, 9, 11], [0, 1, 2, 3, 4, 5, 6, 7, 8, 9, 10, 11, 12]] [[12], [12], [12], [12], [12], [12], [12], [12], [12], [12], [], [12], [], []] (fun bQ => cU O [(1, vi (i : Nat)), (2, .bx (aI l)), (24, aV (bQ 0) (.agg (aI l))), (25, aV (bQ 1) (.bp 2 4)), (26, aV (bQ 2) (gB l.fSignals)), (27, aV (bQ 3) (vi (i : Nat))), (28, aV (bQ 4) (.dp (eC (l.fSignals.getD i default)))), (29, aV (bQ 5) (.dp ((eC (l.fSignals.getD i default)).drop 1))), (30, aV (bQ 6) (.agg (bO (l.fSignals.getD i default).fAt))), (31, aV (bQ 7) (.tup [.agg (bO (aD l (l.fSignals.getD i default).fAt).1), vb (aD l (l.fSignals.getD i default).fAt).2])), (23, aV (bQ 8) (.tup [.agg (bO (aD l (l.fSignals.getD i default).fAt).1), vb (aD l (l.fSignals.getD i default).fAt).2])), (32, aV (bQ 9) (.agg (bO (aD l (l.fSignals.getD i default).fAt).1))), (33, aV (bQ 10) (vb (aD l (l.fSignals.getD i default).fAt).2)), (6, aV (bQ 13) (vb (aD l (l.fSignals.getD i default).fAt).2)), (5, hU (bQ 12) (bQ 11) (.bx (bO (aD l (l.fSignals.getD i default).fAt).1)) (.bx [vi 0, vi 0]))]) (fun iQ hiQ oQ hoQ bQ hbQ KQ hKQ => ?_) ?_
 ·match iQ, hiQ with
  | 0, _ | 1, _ | 2, _ | 3, _ | 4, _ | 5, _ | 6, _ | 8, _ | 9, _ | 10, _ | 11, _ | 12, _ | 13, _ =>
   exact mkp hoQ hbQ hKQ
  | 7, _ =>
   exact mkc hoQ hbQ hKQ (iO _ l (l.fSignals.getD i default).fAt)
 refine lZ ?_
 refine hK3 _ _ ?_; clear hK3
 refine aN fun K4 hK4 => ?_
 refine a8 hF [1, 2, 5, 6] ?_
 refine bU (fun c1 => ?_) fun c1 => ?_
 ·have hjo : (aD l (l.fSignals.getD i default).fAt).2 = false := (by simpa using c1)
  refine a8 hF [] ?_
  refine cL ?_
  have hw : bV (.v (.slice none 0 0)) (iU (dH gP l (i : Nat))) := by rw [aWu hi hjo]; exact bV.nilL _
  (try simp only [eT, dQ]); refine b6 4 ?_; exact cP.pure _ (by ((try simp only [go_sem, seval]); try simp (disch := omega) only [go_sem, seval]) <;> rfl) (by first | exact hw | (((try simp only [go_sem, seval]); try simp (disch := omega) only [go_sem, seval]); exact hw)) rfl
 have hjo : (aD l (l.fSignals.getD i default).fAt).2 = true := (by simpa using c1)
 refine bG ?_
 refine hK4 _ _ ?_; clear hK4
 refine a8 hF [1, 2, 5] ?_
 refine aN fun K8 hK8 => ?_
 refine eL [] [] 42 1 rfl ?_
 refine eL [] [_] 85 3 rfl ?_
 refine bH (Le.keepC [1, 2, 5, 7] _) ?_
 refine bM ?_
 refine ef hF ?_
 show fV _ _ _ _ _ _ _ _
 refine jU (cur := _) (rs := [rgQ eU [], u5 eU []]) (s2 := []) rfl rfl rfl (by decide) (by kernel_rfl) (by ((try simp only [go_sem, seval]); try simp (disch := omega) only [go_sem, seval])) (by ((try simp only [go_sem, seval]); try simp (disch := omega) only [go_sem, seval])) (by ((try simp only [go_sem, seval]); try simp (disch := omega) only [go_sem, seval]) <;> rfl) (by kernel_rfl) (by ((try simp only [go_sem, seval]); try simp (disch := omega) only [go_sem, seval]) <;> exact List.Perm.refl _) (tA hl hv 13 13 (Nat.le_refl _) _ 7 eU eU [] (aD l (l.fSignals.getD i default).fAt).1 [] 0 rfl (by ((try simp only [go_sem, seval]); try simp (disch := omega) only [go_sem, seval]) <;> rfl) (by simp) (by simp) (by simp)) ?_
 rintro rs3 O3 r3 ⟨h3, rfl, rfl, rfl⟩
 refine lZ ?_
 refine hK8 _ _ ?_; clear hK8
 refine aN fun K9 hK9 => ?_
 refine dA (s1 := []) (s2 := []) 7 6 (by first | rfl | (((try simp only [go_sem, seval]); try simp (disch := omega) only [go_sem, seval]); done) | (((try simp only [go_sem, seval]); try simp (disch := omega) only [go_sem, seval]); rfl)) (by rw [List.length_map]; rfl) rfl (bV.frzL ePt (gP l (l.fSignals.getD i default).fAt (aD l (l.fSignals.getD i default).fAt).1)) rfl ?_
 rw [aTg]
 refine eL [] [] 46 14 rfl ?_
 refine cH hF [1, 2, 7] ?_
 refine hK9 _ _ ?_; clear hK9
 refine a8 hF [1, 2, 7, 8] ?_
 refine aN fun K11 hK11 => ?_
 refine a8 hF [1, 2, 7, 8, 9] ?_
 refine bI ?_
 refine dB [1, 2, 8, 9, 42, 43, 44] (fun n sF ρ => ∃ k, ∃ hx, n = (gP l (l.fSignals.getD i default).fAt (aD l (l.fSignals.getD i default).fAt).1).length - k ∧ sF = [.row hx 46 14 ((nK l i (gP l (l.fSignals.getD i default).fAt (aD l (l.fSignals.getD i default).fAt).1) k).map aZ)] ∧ (k ≤ (gP l (l.fSignals.getD i default).fAt (aD l (l.fSignals.getD i default).fAt).1).length) ∧ ρ = cU O [(1, vi (i : Nat)), (2, .bx (aI l)), (8, hx.sl k), (9, .mo (esT zI nE (pQ (d5 l i) ((gP l (l.fSignals.getD i default).fAt (aD l (l.fSignals.getD i default).fAt).1).take k)))), (42, encL 1 ePt (gP l (l.fSignals.getD i default).fAt (aD l (l.fSignals.getD i default).fAt).1)), (43, vi ((gP l (l.fSignals.getD i default).fAt (aD l (l.fSignals.getD i default).fAt).1).length : Nat)), (44, vi (k : Nat))]) _ ⟨0, eU, rfl, rfl, ?_, ?_⟩ ?_
 ·exact bD
 ·exact cD
 rintro n sF ρ ⟨k, hx, rfl, rfl, l0_0, rfl⟩ K13 hK13
 have hgm := fun h : k < (gP l (l.fSignals.getD i default).fAt (aD l (l.fSignals.getD i default).fAt).1).length => x3 (l := l) (n := 13) (a := (aD l (l.fSignals.getD i default).fAt).1) (q := []) (p := ((gP l (l.fSignals.getD i default).fAt (aD l (l.fSignals.getD i default).fAt).1).getD k [])) (by simp) List.Pairwise.nil (fS h)
 have hcg : ((f0 (pQ (d5 l i) ((gP l (l.fSignals.getD i default).fAt (aD l (l.fSignals.getD i default).fAt).1).take k)) (d5 l (i : Nat) ((gP l (l.fSignals.getD i default).fAt (aD l (l.fSignals.getD i default).fAt).1).getD k []))).getD 0) = (gC (d5 l i) ((gP l (l.fSignals.getD i default).fAt (aD l (l.fSignals.getD i default).fAt).1).take k) (d5 l (i : Nat) ((gP l (l.fSignals.getD i default).fAt (aD l (l.fSignals.getD i default).fAt).1).getD k [])) : Nat) := aVu _ _ _ rfl _
 have hcl := x5 (d5 l i) ((gP l (l.fSignals.getD i default).fAt (aD l (l.fSignals.getD i default).fAt).1).take k) (d5 l (i : Nat) ((gP l (l.fSignals.getD i default).fAt (aD l (l.fSignals.getD i default).fAt).1).getD k []))
 have htl := List.length_take_le k (gP l (l.fSignals.getD i default).fAt (aD l (l.fSignals.getD i default).fAt).1)
 have hfl := oC l i (gP l (l.fSignals.getD i default).fAt (aD l (l.fSignals.getD i default).fAt).1) k
 have hcn : k < (gP l (l.fSignals.getD i default).fAt (aD l (l.fSignals.getD i default).fAt).1).length → ((f0 (pQ (d5 l i) ((gP l (l.fSignals.getD i default).fAt (aD l (l.fSignals.getD i default).fAt).1).take k)) (d5 l (i : Nat) ((gP l (l.fSignals.getD i default).fAt (aD l (l.fSignals.getD i default).fAt).1).getD k []))).getD 0) + 1 = (((gC (d5 l i) ((gP l (l.fSignals.getD i default).fAt (aD l (l.fSignals.getD i default).fAt).1).take (k + 1)) (d5 l i ((gP l (l.fSignals.getD i default).fAt (aD l (l.fSignals.getD i default).fAt).1).getD k []))) : Nat) : Int) := fun h => by
  rw [hcg, fP [] h, oH, if_pos rfl]; push_cast; rfl
 have hcm : k < (gP l (l.fSignals.getD i default).fAt (aD l (l.fSignals.getD i default).fAt).1).length → lB (pQ (d5 l i) ((gP l (l.fSignals.getD i default).fAt (aD l (l.fSignals.getD i default).fAt).1).take k)) (d5 l (i : Nat) ((gP l (l.fSignals.getD i default).fAt (aD l (l.fSignals.getD i default).fAt).1).getD k [])) (((f0 (pQ (d5 l i) ((gP l (l.fSignals.getD i default).fAt (aD l (l.fSignals.getD i default).fAt).1).take k)) (d5 l (i : Nat) ((gP l (l.fSignals.getD i default).fAt (aD l (l.fSignals.getD i default).fAt).1).getD k []))).getD 0) + 1) = (pQ (d5 l i) ((gP l (l.fSignals.getD i default).fAt (aD l (l.fSignals.getD i default).fAt).1).take (k + 1))) := fun h => by
  rw [fP [] h, vW]
 have hcl1 := x5 (d5 l i) ((gP l (l.fSignals.getD i default).fAt (aD l (l.fSignals.getD i default).fAt).1).take (k + 1)) (d5 l (i : Nat) ((gP l (l.fSignals.getD i default).fAt (aD l (l.fSignals.getD i default).fAt).1).getD k []))
 have htl1 := List.length_take_le (k + 1) (gP l (l.fSignals.getD i default).fAt (aD l (l.fSignals.getD i default).fAt).1)
 have hfs := aIg ((gC (d5 l i) ((gP l (l.fSignals.getD i default).fAt (aD l (l.fSignals.getD i default).fAt).1).take (k + 1)) (d5 l i ((gP l (l.fSignals.getD i default).fAt (aD l (l.fSignals.getD i default).fAt).1).getD k []))) : Nat) (by omega) (by omega)
 have hns := aRr hs hi ((gP l (l.fSignals.getD i default).fAt (aD l (l.fSignals.getD i default).fAt).1).getD k [])
 refine a8 hF [1, 2, 7, 8, 9, 41, 42, 43, 44] ?_
 refine aN fun K15 hK15 => ?_
 refine bU (fun c2 => ?_) fun c2 => ?_
 ·refine bG ?_
  refine hK15 _ _ ?_; clear hK15
  refine aN fun K16 hK16 => ?_
  refine bI ?_
  refine a8 hF [1, 2, 7, 8, 9, 41, 42, 43, 44] ?_
  refine aN fun K18 hK18 => ?_
  refine dW hF [1, 2, 7, 8, 9, 11, 41, 42, 43, 44, 46] ?_
  refine dM (aAw _ l (i : Nat) ((gP l (l.fSignals.getD i default).fAt (aD l (l.fSignals.getD i default).fAt).1).getD k []) hl hes ⟨by omega, by omega⟩ hs (hgm (by assumption)).1 (by have := (hgm (by assumption)).2.1; omega) (hgm (by assumption)).2.2.1) ?_
  refine hK18 _ _ ?_; clear hK18
  refine aN fun K19 hK19 => ?_
  refine bH (Le.keepC [1, 2, 7, 8, 9, 12, 41, 42, 43, 44] _) ?_
  refine bM ?_
  refine ef hF ?_
  refine ef hF ?_
  refine ef hF ?_
  show fV _ _ _ _ _ _ _ _
  refine dY hF ?_
  refine mE zI nE (s := 9) (M := (pQ (d5 l i) ((gP l (l.fSignals.getD i default).fAt (aD l (l.fSignals.getD i default).fAt).1).take k))) (a := (d5 l (i : Nat) ((gP l (l.fSignals.getD i default).fAt (aD l (l.fSignals.getD i default).fAt).1).getD k []))) (zb := 0) (ok := false) rfl rfl (by kernel_rfl) (by kernel_rfl) (by ((try simp only [go_sem, seval]); try simp (disch := omega) only [go_sem, seval]) <;> rfl) (by ((try simp only [go_sem, seval]); try simp (disch := omega) only [go_sem, seval]) <;> rfl) (by ((try simp only [go_sem, seval]); try simp (disch := omega) only [go_sem, seval]) <;> rfl) trivial rfl (by kernel_rfl) hi3 hz3 (nY _) (fun p _ => nY p.1) (aDz _ _ _ rfl) ?_
  try ((try simp only [go_sem, seval]); try simp (disch := omega) only [go_sem, seval])
  refine ef hF ?_
  show fV _ _ _ _ _ _ _ _
  refine dY hF ?_
  refine t1 zI nE (kt := 9) (e := 3) (s := 9) (M := (pQ (d5 l i) ((gP l (l.fSignals.getD i default).fAt (aD l (l.fSignals.getD i default).fAt).1).take k))) (a := (d5 l (i : Nat) ((gP l (l.fSignals.getD i default).fAt (aD l (l.fSignals.getD i default).fAt).1).getD k []))) (b := (((f0 (pQ (d5 l i) ((gP l (l.fSignals.getD i default).fAt (aD l (l.fSignals.getD i default).fAt).1).take k)) (d5 l (i : Nat) ((gP l (l.fSignals.getD i default).fAt (aD l (l.fSignals.getD i default).fAt).1).getD k []))).getD 0) + 1)) (.inl rfl) rfl rfl (by kernel_rfl) (by ((try simp only [go_sem, seval]); try simp (disch := omega) only [go_sem, seval]) <;> rfl) (by ((try simp only [go_sem, seval]); try simp (disch := omega) only [go_sem, seval]) <;> rfl) (by ((try simp only [go_sem, seval]); try simp (disch := omega) only [go_sem, seval]) <;> rfl) trivial rfl (by ((try simp only [go_sem, seval]); try simp (disch := omega) only [go_sem, seval]) <;> rfl) trivial rfl (by kernel_rfl) (nY _) (fun p _ => nY p.1) (aDz _ _ _ rfl) ?_
  refine lZ ?_
  refine hK19 _ _ ?_; clear hK19
  refine aN fun K20 hK20 => ?_
  refine aN fun K21 hK21 => ?_
  refine bH (Le.keepC [1, 2, 7, 8, 9, 12, 41, 42, 43, 44] _) ?_
  refine bM ?_
  refine ef hF ?_
  refine ef hF ?_
  refine ef hF ?_
  show fV _ _ _ _ _ _ _ _
  refine dY hF ?_
  refine mE zI nE (s := 9) (M := (lB (pQ (d5 l i) ((gP l (l.fSignals.getD i default).fAt (aD l (l.fSignals.getD i default).fAt).1).take k)) (d5 l (i : Nat) ((gP l (l.fSignals.getD i default).fAt (aD l (l.fSignals.getD i default).fAt).1).getD k [])) (((f0 (pQ (d5 l i) ((gP l (l.fSignals.getD i default).fAt (aD l (l.fSignals.getD i default).fAt).1).take k)) (d5 l (i : Nat) ((gP l (l.fSignals.getD i default).fAt (aD l (l.fSignals.getD i default).fAt).1).getD k []))).getD 0) + 1))) (a := (d5 l (i : Nat) ((gP l (l.fSignals.getD i default).fAt (aD l (l.fSignals.getD i default).fAt).1).getD k []))) (zb := 0) (ok := false) rfl rfl (by kernel_rfl) (by kernel_rfl) (by ((try simp only [go_sem, seval]); try simp (disch := omega) only [go_sem, seval]) <;> rfl) (by ((try simp only [go_sem, seval]); try simp (disch := omega) only [go_sem, seval]) <;> rfl) (by ((try simp only [go_sem, seval]); try simp (disch := omega) only [go_sem, seval]) <;> rfl) trivial rfl (by kernel_rfl) hi3 hz3 (nY _) (fun p _ => nY p.1) (wJ (aDz _ _ _ rfl)) ?_
  try ((try simp only [go_sem, seval]); try simp (disch := omega) only [go_sem, seval])
  refine ef hF ?_
  refine hK21 _ _ ?_; clear hK21
  refine aN fun K22 hK22 => ?_
  simp only [aDk, ↓reduceIte, Option.getD_some]
  rw [hcm (by assumption), hcn (by assumption)]
  refine cH hF [1, 2, 7, 8, 9, 12, 13, 41, 42, 43, 44] ?_
  refine hK22 _ _ ?_; clear hK22
  refine bU (fun c3 => ?_) fun c3 => ?_
  ·have hnb : nbR l i (gP l (l.fSignals.getD i default).fAt (aD l (l.fSignals.getD i default).fAt).1) k = { (zQ l i ((gP l (l.fSignals.getD i default).fAt (aD l (l.fSignals.getD i default).fAt).1).getD k [])) with fName := (d5 l (i : Nat) ((gP l (l.fSignals.getD i default).fAt (aD l (l.fSignals.getD i default).fAt).1).getD k [])) ++ (⟨#[46]⟩ ++ fmt ((gC (d5 l i) ((gP l (l.fSignals.getD i default).fAt (aD l (l.fSignals.getD i default).fAt).1).take (k + 1)) (d5 l i ((gP l (l.fSignals.getD i default).fAt (aD l (l.fSignals.getD i default).fAt).1).getD k []))) : Nat)) } := bSt (by omega)
   refine dE hF ?_
   refine k9 8 [1, 2, 7, 8, 9, 12, 13, 41, 42, 43, 44] [1, 2, 8, 9, 13, 42, 43, 44, 63, 64, 65, 66, 67, 68, 69, 12] [] [] [[], [0], [], [2], [2, 3], [0, 1, 2, 3, 4], [0, 1, 2, 3, 4, 5], [0, 1, 2, 3, 4, 5, 6]] [[7], [7], [7], [7], [7], [7], [7], []] (fun bQ => cU O [(1, vi (i : Nat)), (2, .bx (aI l)), (8, hx.sl k), (9, .mo (esT zI nE (pQ (d5 l i) ((gP l (l.fSignals.getD i default).fAt (aD l (l.fSignals.getD i default).fAt).1).take (k + 1))))), (13, vi ((gC (d5 l i) ((gP l (l.fSignals.getD i default).fAt (aD l (l.fSignals.getD i default).fAt).1).take (k + 1)) (d5 l i ((gP l (l.fSignals.getD i default).fAt (aD l (l.fSignals.getD i default).fAt).1).getD k []))) : Nat)), (42, encL 1 ePt (gP l (l.fSignals.getD i default).fAt (aD l (l.fSignals.getD i default).fAt).1)), (43, vi ((gP l (l.fSignals.getD i default).fAt (aD l (l.fSignals.getD i default).fAt).1).length : Nat)), (44, vi (k : Nat)), (63, aV (bQ 0) (.bp 12 0)), (64, aV (bQ 1) (vs (d5 l (i : Nat) ((gP l (l.fSignals.getD i default).fAt (aD l (l.fSignals.getD i default).fAt).1).getD k [])))), (65, aV (bQ 2) (vi ((gC (d5 l i) ((gP l (l.fSignals.getD i default).fAt (aD l (l.fSignals.getD i default).fAt).1).take (k + 1)) (d5 l i ((gP l (l.fSignals.getD i default).fAt (aD l (l.fSignals.getD i default).fAt).1).getD k []))) : Nat))), (66, aV (bQ 3) (vs (fmt ((gC (d5 l i) ((gP l (l.fSignals.getD i default).fAt (aD l (l.fSignals.getD i default).fAt).1).take (k + 1)) (d5 l i ((gP l (l.fSignals.getD i default).fAt (aD l (l.fSignals.getD i default).fAt).1).getD k []))) : Nat)))), (67, aV (bQ 4) (vs (⟨#[46]⟩ ++ fmt ((gC (d5 l i) ((gP l (l.fSignals.getD i default).fAt (aD l (l.fSignals.getD i default).fAt).1).take (k + 1)) (d5 l i ((gP l (l.fSignals.getD i default).fAt (aD l (l.fSignals.getD i default).fAt).1).getD k []))) : Nat)))), (68, aV (bQ 5) (vs ((d5 l (i : Nat) ((gP l (l.fSignals.getD i default).fAt (aD l (l.fSignals.getD i default).fAt).1).getD k [])) ++ (⟨#[46]⟩ ++ fmt ((gC (d5 l i) ((gP l (l.fSignals.getD i default).fAt (aD l (l.fSignals.getD i default).fAt).1).take (k + 1)) (d5 l i ((gP l (l.fSignals.getD i default).fAt (aD l (l.fSignals.getD i default).fAt).1).getD k []))) : Nat))))), (69, aV (bQ 6) (.bp 12 0)), (12, hU (bQ 7) true (.bx (aZ { (zQ l i ((gP l (l.fSignals.getD i default).fAt (aD l (l.fSignals.getD i default).fAt).1).getD k [])) with fName := (d5 l (i : Nat) ((gP l (l.fSignals.getD i default).fAt (aD l (l.fSignals.getD i default).fAt).1).getD k [])) ++ (⟨#[46]⟩ ++ fmt ((gC (d5 l i) ((gP l (l.fSignals.getD i default).fAt (aD l (l.fSignals.getD i default).fAt).1).take (k + 1)) (d5 l i ((gP l (l.fSignals.getD i default).fAt (aD l (l.fSignals.getD i default).fAt).1).getD k []))) : Nat)) })) (.bx (aZ (zQ l i ((gP l (l.fSignals.getD i default).fAt (aD l (l.fSignals.getD i default).fAt).1).getD k [])))))]) (fun iQ hiQ oQ hoQ bQ hbQ KQ hKQ => ?_) ?_
   ·match iQ, hiQ with
    | 0, _ | 1, _ | 2, _ | 4, _ | 5, _ | 6, _ | 7, _ =>
     obtain rfl := Option.some.inj hoQ
     simp only [oS, hD, iB, List.getD_cons_succ, List.getD_cons_zero, List.getD_nil, and_true, true_and] at hbQ
     show qC _ _ _ false _ _
     ((try simp only [go_sem, seval, hbQ]); try simp (disch := omega) only [go_sem, seval, hbQ])
     repeat refine And.intro (by first | exact aNj hfs | exact aNy hfs hns | exact aOx hfs hns | exact bS) ?_
     refine hKQ _ ?_
     ((try simp only [go_sem, seval, hbQ]); try simp (disch := omega) only [go_sem, seval, hbQ]) <;> first | rfl | simp
    | 3, _ =>
     obtain rfl := Option.some.inj hoQ
     simp only [oS, hD, iB, List.getD_cons_succ, List.getD_cons_zero, List.getD_nil, and_true, true_and] at hbQ
     show qC _ _ _ false _ _
     ((try simp only [go_sem, seval, hbQ]); try simp (disch := omega) only [go_sem, seval, hbQ])
     repeat refine And.intro (by first | exact aNj hfs | exact aNy hfs hns | exact aOx hfs hns | exact bS) ?_
     refine dR (aKk _ ((gC (d5 l i) ((gP l (l.fSignals.getD i default).fAt (aD l (l.fSignals.getD i default).fAt).1).take (k + 1)) (d5 l i ((gP l (l.fSignals.getD i default).fAt (aD l (l.fSignals.getD i default).fAt).1).getD k []))) : Nat) (by omega) (by omega)) ?_ ?_
     ·rfl
     try ((try simp only [go_sem, seval, hbQ]); try simp (disch := omega) only [go_sem, seval, hbQ])
     repeat refine And.intro (by first | exact aNj hfs | exact aNy hfs hns | exact aOx hfs hns | exact bS) ?_
     refine hKQ _ ?_
     ((try simp only [go_sem, seval, hbQ]); try simp (disch := omega) only [go_sem, seval, hbQ]) <;> first | rfl | simp
   ((try simp only [go_sem, seval]); try simp (disch := omega) only [go_sem, seval])
   repeat refine And.intro (by first | exact aNj hfs | exact aNy hfs hns | exact aOx hfs hns | exact bS) ?_
   refine hK20 _ _ ?_; clear hK20
   refine kB 12 (ds := aZ (nbR l i (gP l (l.fSignals.getD i default).fAt (aD l (l.fSignals.getD i default).fAt).1) k)) rfl (by first | rfl | (((try simp only [go_sem, seval]); try simp (disch := omega) only [go_sem, seval]); done) | (((try simp only [go_sem, seval]); try simp (disch := omega) only [go_sem, seval]); rfl)) (by rw [hnb]; exact mK.refl _) ?_
   refine bH (Le.keepC [1, 2, 7, 8, 9, 12, 41, 42, 43, 44] _) ?_
   refine bM ?_
   refine ef hF ?_
   refine ef hF ?_
   refine ef hF ?_
   show fV _ _ _ _ _ _ _ _
   refine dO (s1 := []) (s2 := []) 70 (by decide) (by ((try simp only [go_sem, seval]); try simp (disch := omega) only [go_sem, seval]) <;> rfl) rfl ?_
   refine ef hF ?_
   show fV _ _ _ _ _ _ _ _
   refine fM (s1 := []) (s2 := []) (l := (nK l i (gP l (l.fSignals.getD i default).fAt (aD l (l.fSignals.getD i default).fAt).1) (k + 1)).map aZ) 73 (by decide) (by ((try simp only [go_sem, seval]); try simp (disch := omega) only [go_sem, seval]) <;> (first | rfl | (rw [pU, List.map_append]; done) | (rw [pU, List.map_append]; rfl))) rfl (fun h2 => ?_)
   refine ef hF ?_
   refine hK16 _ _ ?_; clear hK16
   refine cH hF [1, 2, 7, 8, 9, 41, 42, 43, 44] ?_
   refine hK13 _ _ _ ?_ ⟨k + 1, h2, rfl, rfl, ?_, ?_⟩
   ·exact bD
   ·exact bD
   exact cD
  have hnb : nbR l i (gP l (l.fSignals.getD i default).fAt (aD l (l.fSignals.getD i default).fAt).1) k = (zQ l i ((gP l (l.fSignals.getD i default).fAt (aD l (l.fSignals.getD i default).fAt).1).getD k [])) := bUx (by omega)
  refine bG ?_
  refine hK20 _ _ ?_; clear hK20
  refine kB 12 (ds := aZ (nbR l i (gP l (l.fSignals.getD i default).fAt (aD l (l.fSignals.getD i default).fAt).1) k)) rfl (by first | rfl | (((try simp only [go_sem, seval]); try simp (disch := omega) only [go_sem, seval]); done) | (((try simp only [go_sem, seval]); try simp (disch := omega) only [go_sem, seval]); rfl)) (by rw [hnb]; exact mK.refl _) ?_
  refine bH (Le.keepC [1, 2, 7, 8, 9, 12, 41, 42, 43, 44] _) ?_
  refine bM ?_
  refine ef hF ?_
  refine ef hF ?_
  refine ef hF ?_
  show fV _ _ _ _ _ _ _ _
  refine dO (s1 := []) (s2 := []) 70 (by decide) (by ((try simp only [go_sem, seval]); try simp (disch := omega) only [go_sem, seval]) <;> rfl) rfl ?_
  refine ef hF ?_
  show fV _ _ _ _ _ _ _ _
  refine fM (s1 := []) (s2 := []) (l := (nK l i (gP l (l.fSignals.getD i default).fAt (aD l (l.fSignals.getD i default).fAt).1) (k + 1)).map aZ) 73 (by decide) (by ((try simp only [go_sem, seval]); try simp (disch := omega) only [go_sem, seval]) <;> (first | rfl | (rw [pU, List.map_append]; done) | (rw [pU, List.map_append]; rfl))) rfl (fun h2 => ?_)
  refine ef hF ?_
  refine hK16 _ _ ?_; clear hK16
  refine cH hF [1, 2, 7, 8, 9, 41, 42, 43, 44] ?_
  refine hK13 _ _ _ ?_ ⟨k + 1, h2, rfl, rfl, ?_, ?_⟩
  ·exact bD
  ·exact bD
  exact cD
 refine dD ?_
 refine hK11 _ _ ?_; clear hK11
 refine aN fun K23 hK23 => ?_
 obtain rfl : k = (gP l (l.fSignals.getD i default).fAt (aD l (l.fSignals.getD i default).fAt).1).length := (by omega)
 refine qR (s1 := []) (s2 := []) 8 (by decide) (by ((try simp only [go_sem, seval]); try simp (disch := omega) only [go_sem, seval]) <;> first | rfl | (simp only [List.length_map])) rfl (bV.frzL aZ (nK l i (gP l (l.fSignals.getD i default).fAt (aD l (l.fSignals.getD i default).fAt).1) (gP l (l.fSignals.getD i default).fAt (aD l (l.fSignals.getD i default).fAt).1).length)) rfl ?_
 refine cH hF [8] ?_
 refine hK23 _ _ ?_; clear hK23
 refine cL ?_
 (try simp only [eT, dQ]); refine b6 4 ?_; exact cP.encL (l' := nK l i (gP l (l.fSignals.getD i default).fAt (aD l (l.fSignals.getD i default).fAt).1) (gP l (l.fSignals.getD i default).fAt (aD l (l.fSignals.getD i default).fAt).1).length) (by ((try simp only [go_sem, seval]); try simp (disch := omega) only [go_sem, seval]) <;> rfl) (aSo hi hjo).symm
end
theorem qN {l : aC} (h : iZ l = 0) : aBj l = true ∧ kT l = true ∧ tH l = 0 := by
 unfold iZ at h
 split at h
 ·cases h
 split at h
 ·rename_i h1; exact absurd h h1
 rename_i h1
 split at h
 ·cases h
 rename_i h2
 split at h
 ·rename_i h3; exact absurd h h3
 rename_i h3
 refine ⟨?_, ?_, Classical.not_not.1 h3⟩
 ·have h1 : nmI l = 0 := Classical.not_not.1 h1
  unfold nmI at h1
  split at h1
  ·assumption
  cases h1
 cases hx : kT l with
 | true => rfl
 | false => exact absurd (.inl hx) h2
theorem aEe {l : aC} (hl : dX l) (h : iZ l = 0) : Vld l ∧ (d4 l.fJoints).Nodup :=
 ⟨⟨hl, (qN h).2.1, fun e he => aHz (xZ (qN h).2.2).1 he⟩, (xZ (qN h).2.2).2⟩
theorem aXm {l : aC} (h : iZ l = 0) : ∀ i, i < l.fSignals.length → (l.fSignals.getD i default).fName.size ≤ 1000 := by
 intro i hi
 have h1 := (qN h).1
 unfold aBj at h1
 rw [List.all_eq_true] at h1
 have h2 := h1 (lG l) (by unfold cE; simp)
 rw [List.all_eq_true] at h2
 have h3 := h2 (l.fSignals.getD i default).fName (List.mem_map.2 ⟨_, fS hi, rfl⟩)
 unfold gI at h3
 rw [Bool.and_eq_true, decide_eq_true_eq] at h3
 omega
theorem bAo {l : aC} (hv : Vld l) : ∀ e, (aD l e).2 = true → 0 ≤ (aD l e).1.fEl := fun e he => (rG hv he).1.1
theorem aWh {l : aC} : ∀ {n : Nat} {a : cC} {q p : List bB}, (∀ s ∈ q, pS l s.fEl = true) → p ∈ xI l n a q → ∀ s ∈ p, pS l s.fEl = true
 | 0, _, _, _, _, h => by cases h
 | n + 1, a, q, p, hq, h => by
  unfold xI at h
  split at h
  ·cases h
  obtain ⟨s, hs, hp⟩ := List.mem_flatMap.1 h
  have hs2 : ∀ x ∈ q ++ [s], pS l x.fEl = true := fun x hx => by
   rcases List.mem_append.1 hx with hx | hx
   ·exact hq x hx
   rw [List.mem_singleton.1 hx, (x2 hs).1]; exact (x2 hs).2.2.2
  split at hp
  ·rw [List.mem_singleton.1 hp]; exact hs2
  exact aWh hs2 hp
theorem aMk {q : List bB} {i : Nat} (hi : i < q.length) : kC q i = q[i] := by
 unfold kC; rw [List.getD_eq_getElem?_getD, List.getElem?_eq_getElem hi]; rfl
theorem bNj {l : aC} {q : List bB} (hex : ∀ s ∈ q, pS l s.fEl = true) {s : bB} (hs : s ∈ q) : bY l s.fEl ∈ dZ l q := by
 obtain ⟨i, hi, rfl⟩ := List.mem_iff_getElem.1 hs
 have := (aAf (l := l) (q := q) (fun i hi => by rw [aMk hi]; exact hex _ (List.getElem_mem hi)) q.length (Nat.le_refl _) (bY l (q[i]).fEl)).2 ⟨i, hi, by show bY l (kC q i).fEl = _; rw [aMk hi]⟩
 rwa [List.take_length] at this
theorem aMm {l : aC} {ov : Int} {sc : List Int} : ∀ (n : Nat) (o : List bB) (a : cC × Bool), (∀ s ∈ o, sc.contains (bY l s.fEl) = false) → ∀ s ∈ ovG l ov sc n o a, sc.contains (bY l s.fEl) = false
 | 0, o, a, h => h
 | n + 1, o, a, h => by
  unfold ovG
  split
  ·rename_i hc
   refine aMm n _ _ fun s hs => ?_
   rcases List.mem_append.1 hs with hs | hs
   ·exact h s hs
   rw [List.mem_singleton.1 hs, aIn (fS (by have := hc.2.2; omega))]
   have hb := hc.2.1
   unfold qG at hb
   rw [Bool.or_eq_false_iff] at hb
   exact hb.2
  exact h
theorem bFh (l : aC) (r : bE) : ∀ s ∈ vZ l r, r.fSections.contains (bY l s.fEl) = false := by
 unfold vZ
 split
 ·exact aMm _ _ _ (by simp)
 simp
structure RtP (l : aC) (r : bE) : Prop where
 nd : (r.fPath.map (·.fEl)).Nodup
 ex : ∀ s ∈ r.fPath, pS l s.fEl = true
 len : r.fPath.length ≤ 12
 sec : r.fSections = dZ l r.fPath
 pt : r.fPoints = oD l r.fPath
 ov : r.fOver = [] ∧ r.fOverPoints = [] ∧ r.fOverSections = [] ∧ r.fFlank = [] ∧ r.fGuards = [] ∧ r.fGaps = []
theorem aRk (r : bE) (c : Nat) : (mZ r c).fPath = r.fPath ∧ (mZ r c).fSections = r.fSections ∧ (mZ r c).fPoints = r.fPoints ∧ ((mZ r c).fOver = r.fOver ∧ (mZ r c).fOverPoints = r.fOverPoints ∧ (mZ r c).fOverSections = r.fOverSections ∧ (mZ r c).fFlank = r.fFlank ∧ (mZ r c).fGuards = r.fGuards ∧ (mZ r c).fGaps = r.fGaps) := by
 unfold mZ; split <;> exact ⟨rfl, rfl, rfl, rfl, rfl, rfl, rfl, rfl, rfl⟩
theorem bEy {l : aC} {i : Int} {r : bE} (h : r ∈ dH gP l i) : RtP l r := by
 unfold dH at h
 split at h
 ·cases h
 simp only at h
 split at h
 ·cases h
 unfold nK at h
 obtain ⟨k, hk, rfl⟩ := List.mem_map.1 h
 have hk := List.mem_range.1 hk
 have hm := x3 (l := l) (n := 13) (a := (aD l (l.fSignals.getD i.toNat default).fAt).1) (q := []) (p := (gP l (l.fSignals.getD i.toNat default).fAt (aD l (l.fSignals.getD i.toNat default).fAt).1).getD k []) (by simp) List.Pairwise.nil (fS hk)
 have hx := aWh (l := l) (n := 13) (a := (aD l (l.fSignals.getD i.toNat default).fAt).1) (q := []) (p := (gP l (l.fSignals.getD i.toNat default).fAt (aD l (l.fSignals.getD i.toNat default).fAt).1).getD k []) (by simp) (fS hk)
 generalize gP l (l.fSignals.getD i.toNat default).fAt (aD l (l.fSignals.getD i.toNat default).fAt).1 = P at *
 obtain ⟨n1, n2, n3, n4, n5, n6, n7, n8, n9⟩ := aRk (zQ l i (P.getD k [])) (gC (d5 l i) (P.take (k + 1)) (d5 l i (P.getD k [])))
 exact ⟨by show ((mZ _ _).fPath.map _).Nodup; rw [n1]; exact hm.2.2.1, by show ∀ s ∈ (mZ _ _).fPath, _; rw [n1]; exact hx, by show (mZ _ _).fPath.length ≤ 12; rw [n1]; exact hm.2.1, by show (mZ _ _).fSections = dZ l (mZ _ _).fPath; rw [n1, n2]; rfl, by show (mZ _ _).fPoints = oD l (mZ _ _).fPath; rw [n1, n3]; rfl, n4, n5, n6, n7, n8, n9⟩
theorem aMq (l : aC) (q : List bB) : (oD l q).length ≤ q.length := Nat.le_trans (yC _) (oK l q)
theorem RtP.rtk {l : aC} {r : bE} (h : RtP l r) : Rtk r := by
 have h1 := h.len
 have h2 := aTz l r.fPath
 have h3 := aMq l r.fPath
 obtain ⟨a1, a2, a3, a4, a5, a6⟩ := h.ov
 exact ⟨by omega, by rw [h.pt]; omega, by rw [h.sec]; omega, by rw [a1]; simp, by rw [a2]; simp, by rw [a3]; simp, by rw [a4]; simp, by rw [a5]; simp, by rw [a6]; simp⟩
theorem RtP.rtkO {l : aC} {r : bE} (h : RtP l r) : Rtk (sM l r) := by
 have h0 := h.rtk
 have h1 := aMr l r
 have h2 := aTz l (vZ l r)
 have h3 := aMq l (vZ l r)
 exact ⟨h0.pa, h0.po, h0.se, (by show (vZ l r).length ≤ 100; omega), (by show (oD l (vZ l r)).length ≤ 100; omega), (by show (dZ l (vZ l r)).length ≤ 100; omega), h0.fl, h0.gu, h0.ga⟩
theorem RtP.nodup {l : aC} {r : bE} (h : RtP l r) : (((sM l r).fPath ++ (sM l r).fOver).map (·.fEl)).Nodup := by
 show ((r.fPath ++ vZ l r).map (·.fEl)).Nodup
 rw [List.map_append, List.nodup_append]
 refine ⟨h.nd, aSb l r, fun x hx y hy e => ?_⟩
 obtain ⟨s, hs, rfl⟩ := List.mem_map.1 hx
 obtain ⟨o, ho, rfl⟩ := List.mem_map.1 hy
 have h1 := bNj h.ex hs
 have h2 := bFh l r o ho
 rw [h.sec] at h2
 have e : s.fEl = o.fEl := e
 rw [e] at h1
 have h3 : (dZ l r.fPath).contains (bY l o.fEl) = true := by simpa using h1
 rw [h3] at h2; cases h2
theorem aId (l : aC) (i : Int) : (dH gP l i).length ≤ 10000 := by
 unfold dH
 split
 ·simp
 simp only
 split
 ·simp
 rw [oC]
 have := aKi l (l.fSignals.getD i.toNat default).fAt (aD l (l.fSignals.getD i.toNat default).fAt).1
 omega
theorem aMy {l : aC} {r : bE} (h : r ∈ (dP l (dH gP l)).1) : RtP l r := by
 have : r ∈ mL (dH gP l) l.fSignals.length := by
  unfold dP at h
  split at h
  ·cases h
  split at h
  ·cases h
  exact h
 unfold mL at this
 obtain ⟨i, _, hi⟩ := List.mem_flatMap.1 this
 exact bEy hi
theorem aOm (l : aC) : (dP l (dH gP l)).1.length ≤ 48 := by
 unfold dP
 split
 ·simp
 split
 ·simp
 show (mL (dH gP l) l.fSignals.length).length ≤ 48; omega
theorem aMj {l : aC} (h : (dP l (dH gP l)).2 = 0) : iZ l = 0 := by
 unfold dP at h
 split at h
 ·exact h
 rename_i h1
 exact Classical.not_not.1 h1
def bBh (l : aC) (r : bE) : bE := oM l (sM l r)
def tbT (l : aC) : eB := if (dP l (dH gP l)).2 = 0 then ⟨(dP l (dH gP l)).1.map (bBh l), eA l, (eA l).map (bY l), (l.fSections.length : Nat), (l.fSignals.length : Nat)⟩ else ⟨[], [], [], 0, 0⟩
theorem bFs {l : aC} (h : ¬ (dP l (dH gP l)).2 = 0) : tbT l = ⟨[], [], [], 0, 0⟩ := by unfold tbT; rw [if_neg h]
theorem bFn {l : aC} (h : (dP l (dH gP l)).2 = 0) : tbT l = ⟨(dP l (dH gP l)).1.map (bBh l), eA l, (eA l).map (bY l), (l.fSections.length : Nat), (l.fSignals.length : Nat)⟩ := by unfold tbT; rw [if_pos h]
def SeR (O : aU) (k : Nat) (l : aC) (f : cC) (P : List (List bB)) (n : Nat) (a : cC) (q : List bB) (rs : List Rg) (O' : aU) (r : DV) : Prop :=
 ∃ h', rs = [u5 h' (P ++ srP l f n a q)] ∧ O' = set O k (.bx [h'.sl (P ++ srP l f n a q).length]) ∧ r = .tup []
def SeC (l : aC) (f : cC) (n : Nat) : Prop := ∀ (O : aU) (k : Nat) (h : Hd) (P : List (List bB)) (a : cC) (q : List bB), O k = .bx [h.sl P.length] → q.length ≤ 12 → 13 ≤ q.length + n → P.length + 2 ^ n ≤ 100000000 →
 rB Tryz.prog O 141 [.bp k 0, .agg (aI l), .agg (bO f), .agg (bO a), bN q] [u5 h P] (SeR O k l f P n a q)
def seG (l : aC) (f : cC) (n : Nat) (q : List bB) (s : bB) : List (List bB) := if sX l f (q ++ [s]) = true then (if iC l s = true then [q ++ [s]] else srP l f n (bP l s).1 (q ++ [s])) else []
def seI (l : aC) (f : cC) (n : Nat) (b : cC) (q : List bB) (i : Nat) : List (List bB) := ((cS l b).take i).flatMap (seG l f n q)
theorem aXp {l : aC} {f : cC} {n : Nat} {b : cC} {q : List bB} {i : Nat} (h : i < (cS l b).length) : seI l f n b q (i + 1) = seI l f n b q i ++ seG l f n q ((cS l b).getD i default) := by
 unfold seI; rw [fP default h, List.flatMap_append, List.flatMap_singleton]
theorem aNi (l : aC) (f : cC) : ∀ (n : Nat) (a : cC) (q : List bB), (srP l f n a q).length ≤ 2 ^ n
 | 0, _, _ => by simp [srP]
 | n + 1, a, q => by
  unfold srP
  refine Nat.le_trans (qX (c := 2 ^ n) fun s _ => ?_) ?_
  ·split
   ·split
    ·simp; exact Nat.one_le_two_pow
    exact aNi l f n _ _
   simp
  rw [Nat.pow_succ, Nat.mul_comm]
  exact Nat.mul_le_mul_left _ (xX l a)
theorem aZe (l : aC) (f : cC) (n : Nat) (q : List bB) (s : bB) : (seG l f n q s).length ≤ 2 ^ n := by
 unfold seG; split
 ·split
  ·simp; exact Nat.one_le_two_pow
  exact aNi _ _ _ _ _
 simp
theorem bCy (l : aC) (f : cC) (n : Nat) (b : cC) (q : List bB) (i : Nat) : (seI l f n b q i).length ≤ i * 2 ^ n := by
 unfold seI
 exact Nat.le_trans (qX (c := 2 ^ n) fun s _ => aZe l f n q s) (Nat.mul_le_mul_right _ (List.length_take_le _ _))
theorem bGp {l : aC} {f : cC} {n : Nat} {b : cC} {q : List bB} {i : Nat} (hi : (cS l b).length ≤ i) : srP l f (n + 1) b q = seI l f n b q i := by
 rw [srP]; unfold seI; rw [List.take_of_length_le hi]; rfl
theorem bBa {l : aC} {f : cC} {q : List bB} (h : sX l f q = true) : q.length ≤ 12 := (rF.1 h).1.1.2
section
attribute [local go_sem] mS tM xY cond_true cond_false lJ List.length_map List.take_length Nat.mul_one Nat.add_zero Nat.zero_add ite_self
set_option maxRecDepth 20000 in
set_option maxHeartbeats 16000000 in
theorem aIz (O : aU) (l : aC) (f : cC) (nn : Nat) (ih : SeC l f nn) (hl : dX l) (k : Nat) (h : Hd) (P : List (List bB)) (a : cC) (q : List bB) (hk : O k = .bx [h.sl P.length]) (hq : q.length ≤ 12) (hqn : 13 ≤ q.length + (nn + 1)) (hP : P.length + 2 ^ (nn + 1) ≤ 100000000) : rB Tryz.prog O 141 [.bp k 0, .agg (aI l), .agg (bO f), .agg (bO a), bN q] [u5 h P] (SeR O k l f P (nn + 1) a q) := by
 obtain ⟨O1, rfl⟩ : ∃ O1, O = set O1 k (.bx [h.sl P.length]) := ⟨O, by funext j; rw [aT]; split <;> simp_all⟩
 have hbl := xX l a
 have hpw : 2 ^ (nn + 1) = 2 * 2 ^ nn := by rw [Nat.pow_succ, Nat.mul_comm]
 have hp1 : 1 ≤ 2 ^ nn := Nat.one_le_two_pow
 refine j6 Tryz.func141 rfl (by kernel_rfl) fun w0 I0 A0 => ?_
 have hF := jN w0 I0 (b8 A0) (xG [u5 h P])
 refine a8 hF [0, 1, 2, 3, 4] ?_
 refine aN fun K1 hK1 => ?_
 refine dW hF [0, 4, 6, 7, 8] ?_
 refine dM (m7 _ l a hl) ?_
 refine hK1 _ _ ?_; clear hK1
 refine a8 hF [0, 4, 6, 7, 10] ?_
 refine bI ?_
 refine dB [0, 4, 6, 7, 10, 11] (fun n sF ρ => ∃ i, ∃ hx, ∃ V, n = (cS l a).length - i ∧ sF = [u5 hx V] ∧ (i ≤ (cS l a).length) ∧ (V = P ++ seI l f nn a q i) ∧ ρ = cU (set O1 k (.bx [hx.sl (V).length])) [(0, .bp (k + 100000) 0), (4, bN q), (6, .bx (aI l)), (7, .bx (bO f)), (10, bN (cS l a)), (11, vi (i : Nat))]) _ ⟨0, h, P, rfl, rfl, ?_, ?_, ?_⟩ ?_
 ·exact bD
 ·(unfold seI; simp)
 ·exact cD
 rintro n sF ρ ⟨i, hx, V, rfl, rfl, l0_0, l0_1, rfl⟩ K3 hK3
 have hgl := bCy l f nn a q i
 have hgb2 : i < (cS l a).length → V.length + 2 ^ nn ≤ 100000000 := fun h => by
  rw [l0_1, List.length_append]; have : i * 2 ^ nn ≤ 1 * 2 ^ nn := Nat.mul_le_mul_right _ (by omega); omega
 refine aN fun K4 hK4 => ?_
 refine a8 hF [0, 4, 6, 7, 10, 11] ?_
 refine bU (fun c0 => ?_) fun c0 => ?_
 ·refine bG ?_
  refine hK4 _ _ ?_; clear hK4
  refine aN fun K6 hK6 => ?_
  refine bI ?_
  refine a8 hF [0, 4, 6, 7, 10, 11] ?_
  refine a8 hF [0, 4, 6, 7, 10, 11, 12] ?_
  refine a8 hF [0, 4, 6, 7, 10, 11, 12] ?_
  refine aN fun K10 hK10 => ?_
  refine aN fun K11 hK11 => ?_
  refine aDn (s1 := [u5 hx (V)]) (s2 := []) (l := (q ++ [((cS l a).getD i default)]).map bJ) 12 (by decide) (by simp (disch := omega) only [go_sem, seval] <;> first | rfl | simp) rfl (fun hz => ?_)
  refine qR (s1 := [u5 hx (V)]) (s2 := []) 12 (by decide) (by simp (disch := omega) only [go_sem, seval] <;> first | rfl | (simp only [List.length_map])) rfl (bV.frzL bJ (q ++ [((cS l a).getD i default)])) rfl ?_
  refine dW hF [0, 4, 6, 7, 10, 11, 12] ?_
  refine dM (aBn _ l f (q ++ [((cS l a).getD i default)]) hl (by simp; omega)) ?_
  refine hK11 _ _ ?_; clear hK11
  refine bU (fun c1 => ?_) fun c1 => ?_
  ·have hft : sX l f (q ++ [((cS l a).getD i default)]) = false := (by simpa using c1)
   have hgi : seI l f nn a q (i + 1) = seI l f nn a q i := (by rw [aXp c0]; unfold seG; rw [if_neg (by rw [hft]; simp), List.append_nil])
   refine dD ?_
   refine hK6 _ _ ?_; clear hK6
   refine cH hF [0, 4, 6, 7, 10, 11] ?_
   refine hK3 _ _ _ ?_ ⟨i + 1, hx, V, rfl, rfl, ?_, ?_, ?_⟩
   ·exact bD
   ·exact bD
   ·exact bD
   exact cD
  have hft : sX l f (q ++ [((cS l a).getD i default)]) = true := (by simpa using c1)
  refine bG ?_
  refine hK10 _ _ ?_; clear hK10
  refine aN fun K12 hK12 => ?_
  refine dE hF ?_
  refine e5 [0, 4, 6, 7, 10, 11, 12] [] ?_
  refine cdz (nM _ l ((cS l a).getD i default)) ?_
  refine hK12 _ _ ?_; clear hK12
  refine aN fun K13 hK13 => ?_
  refine a8 hF [0, 4, 6, 7, 10, 11, 12, 14] ?_
  refine bU (fun c2 => ?_) fun c2 => ?_
  ·have he : iC l ((cS l a).getD i default) = true := (by simpa using c2)
   have hgi : seI l f nn a q (i + 1) = seI l f nn a q i ++ [(q ++ [((cS l a).getD i default)])] := (by rw [aXp c0]; unfold seG; rw [if_pos hft, if_pos he])
   refine aN fun K15 hK15 => ?_
   refine bH (Le.keepC [0, 4, 6, 7, 10, 11, 12] _) ?_
   refine bM ?_
   refine ef hF ?_
   refine ef hF ?_
   refine ef hF ?_
   refine ef hF ?_
   refine ef hF ?_
   refine ef hF ?_
   refine ef hF ?_
   show fV _ _ _ _ _ _ _ _
   refine dO (s1 := []) (s2 := []) 55 (by decide) (by simp (disch := omega) only [go_sem, seval] <;> rfl) rfl ?_
   refine ef hF ?_
   show fV _ _ _ _ _ _ _ _
   refine fM (s1 := []) (s2 := []) (e := 42) (z := 1) (l := (V ++ [(q ++ [((cS l a).getD i default)])]).map ePt) 58 (by decide) (by simp (disch := omega) only [go_sem, seval] <;> (first | rfl | (simp; done) | (simp; rfl) | (simp [encL, bJ]; done) | (simp [encL, bJ]; rfl))) rfl (fun h2 => ?_)
   try simp (disch := omega) only [go_sem, seval]
   refine ef hF ?_
   refine ef hF ?_
   refine ef hF ?_
   refine hK15 _ _ ?_; clear hK15
   refine dD ?_
   refine hK6 _ _ ?_; clear hK6
   refine cH hF [0, 4, 6, 7, 10, 11] ?_
   refine hK3 _ _ _ ?_ ⟨i + 1, h2, V ++ [(q ++ [((cS l a).getD i default)])], rfl, rfl, ?_, ?_, ?_⟩
   ·exact bD
   ·exact bD
   ·exact bD
   exact cD
  have he : iC l ((cS l a).getD i default) = false := (by simpa using c2)
  have hgi : seI l f nn a q (i + 1) = seI l f nn a q i ++ srP l f nn (bP l ((cS l a).getD i default)).1 (q ++ [((cS l a).getD i default)]) := (by rw [aXp c0]; unfold seG; rw [if_pos hft, if_neg (by rw [he]; simp)])
  refine bG ?_
  refine hK13 _ _ ?_; clear hK13
  refine aN fun K16 hK16 => ?_
  refine dE hF ?_
  refine k9 12 [0, 4, 6, 7, 10, 11, 12] [0, 4, 6, 7, 10, 11, 12, 62, 63, 64, 65, 66, 67, 61, 68, 69, 16, 15] [] [] [[], [], [], [1, 2], [1, 2, 3], [0, 1, 2, 3, 4], [0, 1, 2, 3, 4, 5], [0, 1, 2, 3, 4, 5, 6], [0, 1, 2, 3, 4, 5, 6], [], [0, 1, 2, 3, 4, 5, 6, 7, 9], [0, 1, 2, 3, 4, 5, 6, 7, 8, 9, 10]] [[10], [10], [10], [10], [10], [10], [10], [10], [], [10], [], []] (fun bQ => cU (set O1 k (.bx [hx.sl (V).length])) [(0, .bp (k + 100000) 0), (4, bN q), (6, .bx (aI l)), (7, .bx (bO f)), (10, bN (cS l a)), (11, vi (i : Nat)), (12, bN (q ++ [((cS l a).getD i default)])), (62, aV (bQ 0) (.agg (aI l))), (63, aV (bQ 1) (bN (cS l a))), (64, aV (bQ 2) (vi (i : Nat))), (65, aV (bQ 3) (.dp (bJ ((cS l a).getD i default)))), (66, aV (bQ 4) (.agg (bJ ((cS l a).getD i default)))), (67, aV (bQ 5) (.tup [.agg (bO (bP l ((cS l a).getD i default)).1), vb (bP l ((cS l a).getD i default)).2])), (61, aV (bQ 6) (.tup [.agg (bO (bP l ((cS l a).getD i default)).1), vb (bP l ((cS l a).getD i default)).2])), (68, aV (bQ 7) (.agg (bO (bP l ((cS l a).getD i default)).1))), (69, aV (bQ 8) (vb (bP l ((cS l a).getD i default)).2)), (16, aV (bQ 11) (vb (bP l ((cS l a).getD i default)).2)), (15, hU (bQ 10) (bQ 9) (.bx (bO (bP l ((cS l a).getD i default)).1)) (.bx [vi 0, vi 0]))]) (fun iQ hiQ oQ hoQ bQ hbQ KQ hKQ => ?_) ?_
  ·match iQ, hiQ with
   | 0, _ | 1, _ | 2, _ | 3, _ | 4, _ | 6, _ | 7, _ | 8, _ | 9, _ | 10, _ | 11, _ =>
    exact mkp hoQ hbQ hKQ
   | 5, _ =>
    exact mkc hoQ hbQ hKQ (kX _ l ((cS l a).getD i default))
  refine lZ ?_
  refine hK16 _ _ ?_; clear hK16
  refine bH (Le.keepC [0, 4, 6, 7, 10, 11, 12, 15] _) ?_
  refine bM ?_
  refine ef hF ?_
  refine ef hF ?_
  refine ef hF ?_
  refine ef hF ?_
  refine ef hF ?_
  show fV _ _ _ _ _ _ _ _
  refine jU (cur := _) (rs := [u5 hx (V)]) (s2 := []) rfl rfl rfl (by decide) (by kernel_rfl) (by simp (disch := omega) only [go_sem, seval]) (by simp (disch := omega) only [go_sem, seval]) (by simp (disch := omega) only [go_sem, seval] <;> rfl) (by kernel_rfl) (by simp (disch := omega) only [go_sem, seval] <;> exact List.Perm.refl _) (ih _ (k + 100000) hx V (bP l ((cS l a).getD i default)).1 (q ++ [((cS l a).getD i default)]) (by simp (disch := omega) only [go_sem, seval]) (bBa hft) (by simp; omega) (hgb2 c0)) ?_
  rintro rs3 O3 r3 ⟨h3, rfl, rfl, rfl⟩
  refine lZ ?_
  refine hK6 _ _ ?_; clear hK6
  refine cH hF [0, 4, 6, 7, 10, 11] ?_
  refine hK3 _ _ _ ?_ ⟨i + 1, h3, V ++ srP l f nn (bP l ((cS l a).getD i default)).1 (q ++ [((cS l a).getD i default)]), rfl, rfl, ?_, ?_, ?_⟩
  ·exact bD
  ·exact bD
  ·exact bD
  exact cD
 refine dD ?_
 (try simp only [eT, dQ, wR, ↓reduceIte]); exact uY (s := k) (cs0 := [h.sl P.length]) (cs := [hx.sl (V).length]) (.inr rfl) rfl (by rw [aT, if_pos rfl]) rfl rfl rfl (by simp (disch := omega) only [go_sem, seval] <;> first | rfl | simp) ⟨hx, by rw [bGp (i := i) (by omega), ← l0_1], by rw [bGp (i := i) (by omega), ← l0_1], rfl⟩
end
theorem tX {l : aC} {f : cC} (hl : dX l) : ∀ n, SeC l f n
 | 0 => fun O k h P a q h1 h2 h3 => absurd h3 (by omega)
 | n + 1 => fun O k h P a q h1 h2 h3 h4 => aIz O l f n (tX hl n) hl k h P a q h1 h2 h3 h4
end Go.Sg
