/- Several texts as one. -/
import Derived.Test.YtnpokifaejcbeaaGreatDoorF13
set_option linter.unusedSectionVars false
set_option linter.unusedVariables false
set_option linter.unusedSimpArgs false
set_option maxRecDepth 20000
namespace Go.Sg
open Go.Proofs
def gP (l : aB) (f a : cG) : List (List aW) := n0 l 13 a []
def gnX (l : aB) (d : DV) : List DV := aK l ++ [d]
theorem aRk (l : aB) (h : Hd) (n : Nat) (d : DV) : (qE l h n).set 6 d = gnX l d := rfl
theorem aYp {l : aB} {d : DV} : (gnX l d).length = 7 := rfl
theorem aUf {l : aB} {d : DV} : (gnX l d).drop 6 = [d] := rfl
theorem bAt {l : aB} {d : DV} : (gnX l d).getD 6 .any = d := rfl
theorem aYq {l : aB} {z n : Nat} {f : Nat → List DV} (p : Nat → Bool) : dF p (gnX l (.sl z n f)) = true := rfl
theorem aZi {l : aB} {z n : Nat} {f : Nat → List DV} : gT (fun x => x + 100000) (gnX l (.sl z n f)) = gnX l (.sl z n f) := rfl
theorem bQg : ∃ i, Tryz.prog.info? 3 = some i ∧ i.zero = some (mP.val 0) := by
 refine ⟨_, rfl, rfl⟩
theorem bTo {l : aB} {i : Int} {P : List (List aW)} {k : Nat} (h : ¬ 1 < jR (g9 l i) (P.take (k + 1)) (g9 l i (P.getD k []))) : nbR l i P k = uX l i (P.getD k []) := by unfold nbR kT; rw [if_neg h]
theorem bSm {l : aB} {i : Int} {P : List (List aW)} {k : Nat} (h : 1 < jR (g9 l i) (P.take (k + 1)) (g9 l i (P.getD k []))) : nbR l i P k = { uX l i (P.getD k []) with fName := g9 l i (P.getD k []) ++ (⟨#[46]⟩ ++ fmt (jR (g9 l i) (P.take (k + 1)) (g9 l i (P.getD k [])) : Nat)) } := by unfold nbR kT; rw [if_pos h]; rfl
theorem aLw {n : Nat} (h : n ≤ 21) : (⟨#[46]⟩ : ByteArray).size + n ≤ maxLen := by unfold maxLen; show 1 + n ≤ _; omega
theorem aMg {n m : Nat} (h : n ≤ 21) (hm : m ≤ 2001) : m + ((⟨#[46]⟩ : ByteArray).size + n) ≤ maxLen := by unfold maxLen; show m + (1 + n) ≤ _; omega
theorem aLh {n m : Nat} (h : n ≤ 21) (hm : m ≤ 2001) : m + 1 + n ≤ maxLen := by unfold maxLen; omega
theorem aLv (a b : ByteArray) : (a ++ b).size = a.size + b.size := ByteArray.size_append
theorem bGc {l : aB} (hs : ∀ i, i < l.fSignals.length → (l.fSignals.getD i default).fName.size ≤ 1000) {i : Nat} (hi : i < l.fSignals.length) (q : List aW) : (g9 l i q).size ≤ 2001 := by
 show ((l.fSignals.getD (i : Int).toNat default).fName ++ ⟨#[45]⟩ ++ nmQ l (exQ l q)).size ≤ _
 have h1 := hs i hi
 have h2 := aSe hs (aCi l q).1
 rw [aLv, aLv, Int.toNat_natCast]
 show _ + 1 + _ ≤ _
 omega
theorem aIn (l : aB) (i : Int) (P : List (List aW)) (n : Nat) : ((m7 l i P n).map bB).take n = (m7 l i P n).map bB := List.take_of_length_le (by rw [List.length_map, pC]; exact Nat.le_refl _)
theorem bIr {l : aB} {i : Nat} (hi : i < l.fSignals.length) (h : (aI l (l.fSignals.getD i default).fAt).2 = true) : cN gP l (i : Nat) = m7 l i (gP l (l.fSignals.getD i default).fAt (aI l (l.fSignals.getD i default).fAt).1) (gP l (l.fSignals.getD i default).fAt (aI l (l.fSignals.getD i default).fAt).1).length := by
 unfold cN; rw [if_neg (by omega)]; simp only [Int.toNat_natCast]; rw [if_neg (by rw [h]; simp)]
theorem bLy {l : aB} {i : Nat} (hi : i < l.fSignals.length) (h : (aI l (l.fSignals.getD i default).fAt).2 = false) : cN gP l (i : Nat) = [] := by
 unfold cN; rw [if_neg (by omega)]; simp only [Int.toNat_natCast]; rw [if_pos h]
theorem aWz (l : aB) (f a : cG) : (gP l f a).length ≤ 8192 := xB l 13 a []
section
attribute [local go_sem] List.drop_zero hM iB iG fO kU kV kR kY kS kZ iR i6 iW fS lP lR lS lJ lQ lK lW lL lU lV iP iS iT iX aIn List.length_map aDm aDf z6 yN aFl aFg aEq aCx aRk aYp aUf bAt aYq aZi pC
set_option maxRecDepth 20000 in
set_option maxHeartbeats 8000000 in
theorem aAj (O : aS) (l : aB) (i : Nat) (hi : i < l.fSignals.length) (hl : eK l) (hes : mH l = true) (hs : ∀ i, i < l.fSignals.length → (l.fSignals.getD i default).fName.size ≤ 1000) (hv : ∀ e, (aI l e).2 = true → 0 ≤ (aI l e).1.fEl) : aY Tryz.prog O 73 [.agg (aK l), vi (i : Nat)] (iM (cN gP l (i : Nat))) := by
 obtain ⟨i3, hi3, hz3⟩ := bQg
 have hl4 := hl.sg
 have hgl := aWz l (l.fSignals.getD i default).fAt (aI l (l.fSignals.getD i default).fAt).1
 refine iL Tryz.func73 rfl (by kernel_rfl) fun w0 I0 A0 => ?_
 have hF := mW w0 I0 (b6 A0) (GOf [])
 refine bD hF [0, 1] ?_
 refine aT fun K1 hK1 => ?_
 refine bD hF [1, 2] ?_
 refine cJ (fun c0 => ?_) fun c0 => ?_
 ·omega
 refine bN ?_
 refine hK1 _ _ ?_; clear hK1
 refine aT fun K3 hK3 => ?_
 refine fD hF ?_
 refine aCg 14 [1, 2] [1, 2, 24, 25, 26, 27, 28, 29, 30, 31, 23, 32, 33, 6, 5] [] [] [[], [], [1], [], [1, 2, 3], [1, 2, 3, 4], [1, 2, 3, 4, 5], [0, 1, 2, 3, 4, 5, 6], [0, 1, 2, 3, 4, 5, 6, 7], [0, 1, 2, 3, 4, 5, 6, 7, 8], [0, 1, 2, 3, 4, 5, 6, 7, 8], [], [0, 1, 2, 3, 4, 5, 6, 7, 8, 9, 11], [0, 1, 2, 3, 4, 5, 6, 7, 8, 9, 10, 11, 12]] [[12], [12], [12], [12], [12], [12], [12], [12], [12], [12], [], [12], [], []] (fun bQ => dU O [(1, vi (i : Nat)), (2, .bx (aK l)), (24, bJ (bQ 0) (.agg (aK l))), (25, bJ (bQ 1) (.bp 2 4)), (26, bJ (bQ 2) (jU l.fSignals)), (27, bJ (bQ 3) (vi (i : Nat))), (28, bJ (bQ 4) (.dp (gA (l.fSignals.getD i default)))), (29, bJ (bQ 5) (.dp ((gA (l.fSignals.getD i default)).drop 1))), (30, bJ (bQ 6) (.agg (cE (l.fSignals.getD i default).fAt))), (31, bJ (bQ 7) (.tup [.agg (cE (aI l (l.fSignals.getD i default).fAt).1), vb (aI l (l.fSignals.getD i default).fAt).2])), (23, bJ (bQ 8) (.tup [.agg (cE (aI l (l.fSignals.getD i default).fAt).1), vb (aI l (l.fSignals.getD i default).fAt).2])), (32, bJ (bQ 9) (.agg (cE (aI l (l.fSignals.getD i default).fAt).1))), (33, bJ (bQ 10) (vb (aI l (l.fSignals.getD i default).fAt).2)), (6, bJ (bQ 13) (vb (aI l (l.fSignals.getD i default).fAt).2)), (5, pD (bQ 12) (bQ 11) (.bx (cE (aI l (l.fSignals.getD i default).fAt).1)) (.bx [vi 0, vi 0]))]) (fun iQ hiQ oQ hoQ bQ hbQ KQ hKQ => ?_) ?_
 ·match iQ, hiQ with
  | 0, _ | 1, _ | 2, _ | 3, _ | 4, _ | 5, _ | 6, _ | 8, _ | 9, _ | 10, _ | 11, _ | 12, _ | 13, _ =>
   exact mkp hoQ hbQ hKQ
  | 7, _ =>
   exact mkc hoQ hbQ hKQ (iH _ l (l.fSignals.getD i default).fAt)
 refine rF ?_
 refine hK3 _ _ ?_; clear hK3
 refine aT fun K4 hK4 => ?_
 refine bD hF [1, 2, 5, 6] ?_
 refine cJ (fun c1 => ?_) fun c1 => ?_
 ·have hjo : (aI l (l.fSignals.getD i default).fAt).2 = false := (by simpa using c1)
  refine bD hF [] ?_
  refine dD ?_
  have hw : dI (.v (.slice none 0 0)) (iM (cN gP l (i : Nat))) := by rw [bLy hi hjo]; exact dI.nilL _
  (try simp only [fR, eC]); refine cW 4 ?_; exact dE.pure _ (by ((try simp only [go_sem, seval]); try simp (disch := omega) only [go_sem, seval]) <;> rfl) (by first | exact hw | (((try simp only [go_sem, seval]); try simp (disch := omega) only [go_sem, seval]); exact hw)) rfl
 have hjo : (aI l (l.fSignals.getD i default).fAt).2 = true := (by simpa using c1)
 refine bN ?_
 refine hK4 _ _ ?_; clear hK4
 refine bD hF [1, 2, 5] ?_
 refine aT fun K8 hK8 => ?_
 refine hU [] [] 42 1 rfl ?_
 refine hU [] [_] 85 3 rfl ?_
 refine bK (Le.keepC [1, 2, 5, 7] _) ?_
 refine bM ?_
 refine ef hF ?_
 show gN _ _ _ _ _ _ _ _
 refine lZ (cur := _) (rs := [rgQ jC [], zD jC []]) (s2 := []) rfl rfl rfl (by decide) (by kernel_rfl) (by ((try simp only [go_sem, seval]); try simp (disch := omega) only [go_sem, seval])) (by ((try simp only [go_sem, seval]); try simp (disch := omega) only [go_sem, seval])) (by ((try simp only [go_sem, seval]); try simp (disch := omega) only [go_sem, seval]) <;> rfl) (by kernel_rfl) (by ((try simp only [go_sem, seval]); try simp (disch := omega) only [go_sem, seval]) <;> exact List.Perm.refl _) (rZ hl hv 13 13 (Nat.le_refl _) _ 7 jC jC [] (aI l (l.fSignals.getD i default).fAt).1 [] 0 rfl (by ((try simp only [go_sem, seval]); try simp (disch := omega) only [go_sem, seval]) <;> rfl) (by simp) (by simp) (by simp)) ?_
 rintro rs3 O3 r3 ⟨h3, rfl, rfl, rfl⟩
 refine rF ?_
 refine hK8 _ _ ?_; clear hK8
 refine aT fun K9 hK9 => ?_
 refine f0 (s1 := []) (s2 := []) 7 6 (by first | rfl | (((try simp only [go_sem, seval]); try simp (disch := omega) only [go_sem, seval]); done) | (((try simp only [go_sem, seval]); try simp (disch := omega) only [go_sem, seval]); rfl)) (by rw [List.length_map]; rfl) rfl (dI.frzL zV (gP l (l.fSignals.getD i default).fAt (aI l (l.fSignals.getD i default).fAt).1)) rfl ?_
 rw [aRk]
 refine hU [] [] 46 14 rfl ?_
 refine dS hF [1, 2, 7] ?_
 refine hK9 _ _ ?_; clear hK9
 refine bD hF [1, 2, 7, 8] ?_
 refine aT fun K11 hK11 => ?_
 refine bD hF [1, 2, 7, 8, 9] ?_
 refine bR ?_
 refine dV [1, 2, 8, 9, 42, 43, 44] (fun n sF ρ => ∃ k, ∃ hx, n = (gP l (l.fSignals.getD i default).fAt (aI l (l.fSignals.getD i default).fAt).1).length - k ∧ sF = [.row hx 46 14 ((m7 l i (gP l (l.fSignals.getD i default).fAt (aI l (l.fSignals.getD i default).fAt).1) k).map bB)] ∧ (k ≤ (gP l (l.fSignals.getD i default).fAt (aI l (l.fSignals.getD i default).fAt).1).length) ∧ ρ = dU O [(1, vi (i : Nat)), (2, .bx (aK l)), (8, hx.sl k), (9, .mo (esT x9 mP (o8 (g9 l i) ((gP l (l.fSignals.getD i default).fAt (aI l (l.fSignals.getD i default).fAt).1).take k)))), (42, encL 1 zV (gP l (l.fSignals.getD i default).fAt (aI l (l.fSignals.getD i default).fAt).1)), (43, vi ((gP l (l.fSignals.getD i default).fAt (aI l (l.fSignals.getD i default).fAt).1).length : Nat)), (44, vi (k : Nat))]) _ ⟨0, jC, rfl, rfl, ?_, ?_⟩ ?_
 ·exact bI
 ·exact dC
 rintro n sF ρ ⟨k, hx, rfl, rfl, l0_0, rfl⟩ K13 hK13
 have hgm := fun h : k < (gP l (l.fSignals.getD i default).fAt (aI l (l.fSignals.getD i default).fAt).1).length => tL (l := l) (n := 13) (a := (aI l (l.fSignals.getD i default).fAt).1) (q := []) (p := ((gP l (l.fSignals.getD i default).fAt (aI l (l.fSignals.getD i default).fAt).1).getD k [])) (by simp) List.Pairwise.nil (dR h)
 have hcg : ((fM (o8 (g9 l i) ((gP l (l.fSignals.getD i default).fAt (aI l (l.fSignals.getD i default).fAt).1).take k)) (g9 l (i : Nat) ((gP l (l.fSignals.getD i default).fAt (aI l (l.fSignals.getD i default).fAt).1).getD k []))).getD 0) = (jR (g9 l i) ((gP l (l.fSignals.getD i default).fAt (aI l (l.fSignals.getD i default).fAt).1).take k) (g9 l (i : Nat) ((gP l (l.fSignals.getD i default).fAt (aI l (l.fSignals.getD i default).fAt).1).getD k [])) : Nat) := aUj _ _ _ rfl _
 have hcl := aLy (g9 l i) ((gP l (l.fSignals.getD i default).fAt (aI l (l.fSignals.getD i default).fAt).1).take k) (g9 l (i : Nat) ((gP l (l.fSignals.getD i default).fAt (aI l (l.fSignals.getD i default).fAt).1).getD k []))
 have htl := List.length_take_le k (gP l (l.fSignals.getD i default).fAt (aI l (l.fSignals.getD i default).fAt).1)
 have hfl := pC l i (gP l (l.fSignals.getD i default).fAt (aI l (l.fSignals.getD i default).fAt).1) k
 have hcn : k < (gP l (l.fSignals.getD i default).fAt (aI l (l.fSignals.getD i default).fAt).1).length → ((fM (o8 (g9 l i) ((gP l (l.fSignals.getD i default).fAt (aI l (l.fSignals.getD i default).fAt).1).take k)) (g9 l (i : Nat) ((gP l (l.fSignals.getD i default).fAt (aI l (l.fSignals.getD i default).fAt).1).getD k []))).getD 0) + 1 = (((jR (g9 l i) ((gP l (l.fSignals.getD i default).fAt (aI l (l.fSignals.getD i default).fAt).1).take (k + 1)) (g9 l i ((gP l (l.fSignals.getD i default).fAt (aI l (l.fSignals.getD i default).fAt).1).getD k []))) : Nat) : Int) := fun h => by
  rw [hcg, fV [] h, qF, if_pos rfl]; push_cast; rfl
 have hcm : k < (gP l (l.fSignals.getD i default).fAt (aI l (l.fSignals.getD i default).fAt).1).length → lC (o8 (g9 l i) ((gP l (l.fSignals.getD i default).fAt (aI l (l.fSignals.getD i default).fAt).1).take k)) (g9 l (i : Nat) ((gP l (l.fSignals.getD i default).fAt (aI l (l.fSignals.getD i default).fAt).1).getD k [])) (((fM (o8 (g9 l i) ((gP l (l.fSignals.getD i default).fAt (aI l (l.fSignals.getD i default).fAt).1).take k)) (g9 l (i : Nat) ((gP l (l.fSignals.getD i default).fAt (aI l (l.fSignals.getD i default).fAt).1).getD k []))).getD 0) + 1) = (o8 (g9 l i) ((gP l (l.fSignals.getD i default).fAt (aI l (l.fSignals.getD i default).fAt).1).take (k + 1))) := fun h => by
  rw [fV [] h, uZ]
 have hcl1 := aLy (g9 l i) ((gP l (l.fSignals.getD i default).fAt (aI l (l.fSignals.getD i default).fAt).1).take (k + 1)) (g9 l (i : Nat) ((gP l (l.fSignals.getD i default).fAt (aI l (l.fSignals.getD i default).fAt).1).getD k []))
 have htl1 := List.length_take_le (k + 1) (gP l (l.fSignals.getD i default).fAt (aI l (l.fSignals.getD i default).fAt).1)
 have hfs := aUu ((jR (g9 l i) ((gP l (l.fSignals.getD i default).fAt (aI l (l.fSignals.getD i default).fAt).1).take (k + 1)) (g9 l i ((gP l (l.fSignals.getD i default).fAt (aI l (l.fSignals.getD i default).fAt).1).getD k []))) : Nat) (by omega) (by omega)
 have hns := bGc hs hi ((gP l (l.fSignals.getD i default).fAt (aI l (l.fSignals.getD i default).fAt).1).getD k [])
 refine bD hF [1, 2, 7, 8, 9, 41, 42, 43, 44] ?_
 refine aT fun K15 hK15 => ?_
 refine cJ (fun c2 => ?_) fun c2 => ?_
 ·refine bN ?_
  refine hK15 _ _ ?_; clear hK15
  refine aT fun K16 hK16 => ?_
  refine bR ?_
  refine bD hF [1, 2, 7, 8, 9, 41, 42, 43, 44] ?_
  refine aT fun K18 hK18 => ?_
  refine e9 hF [1, 2, 7, 8, 9, 11, 41, 42, 43, 44, 46] ?_
  refine eL (zF _ l (i : Nat) ((gP l (l.fSignals.getD i default).fAt (aI l (l.fSignals.getD i default).fAt).1).getD k []) hl hes ⟨by omega, by omega⟩ hs (hgm (by assumption)).1 (by have := (hgm (by assumption)).2.1; omega) (hgm (by assumption)).2.2.1) ?_
  refine hK18 _ _ ?_; clear hK18
  refine aT fun K19 hK19 => ?_
  refine bK (Le.keepC [1, 2, 7, 8, 9, 12, 41, 42, 43, 44] _) ?_
  refine bM ?_
  refine ef hF ?_
  refine ef hF ?_
  refine ef hF ?_
  show gN _ _ _ _ _ _ _ _
  refine dT hF ?_
  refine l5 x9 mP (s := 9) (M := (o8 (g9 l i) ((gP l (l.fSignals.getD i default).fAt (aI l (l.fSignals.getD i default).fAt).1).take k))) (a := (g9 l (i : Nat) ((gP l (l.fSignals.getD i default).fAt (aI l (l.fSignals.getD i default).fAt).1).getD k []))) (zb := 0) (ok := false) rfl rfl (by kernel_rfl) (by kernel_rfl) (by ((try simp only [go_sem, seval]); try simp (disch := omega) only [go_sem, seval]) <;> rfl) (by ((try simp only [go_sem, seval]); try simp (disch := omega) only [go_sem, seval]) <;> rfl) (by ((try simp only [go_sem, seval]); try simp (disch := omega) only [go_sem, seval]) <;> rfl) trivial rfl (by kernel_rfl) hi3 hz3 (nF _) (fun p _ => nF p.1) (aCs _ _ _ rfl) ?_
  try ((try simp only [go_sem, seval]); try simp (disch := omega) only [go_sem, seval])
  refine ef hF ?_
  show gN _ _ _ _ _ _ _ _
  refine dT hF ?_
  refine s3 x9 mP (kt := 9) (e := 3) (s := 9) (M := (o8 (g9 l i) ((gP l (l.fSignals.getD i default).fAt (aI l (l.fSignals.getD i default).fAt).1).take k))) (a := (g9 l (i : Nat) ((gP l (l.fSignals.getD i default).fAt (aI l (l.fSignals.getD i default).fAt).1).getD k []))) (b := (((fM (o8 (g9 l i) ((gP l (l.fSignals.getD i default).fAt (aI l (l.fSignals.getD i default).fAt).1).take k)) (g9 l (i : Nat) ((gP l (l.fSignals.getD i default).fAt (aI l (l.fSignals.getD i default).fAt).1).getD k []))).getD 0) + 1)) (.inl rfl) rfl rfl (by kernel_rfl) (by ((try simp only [go_sem, seval]); try simp (disch := omega) only [go_sem, seval]) <;> rfl) (by ((try simp only [go_sem, seval]); try simp (disch := omega) only [go_sem, seval]) <;> rfl) (by ((try simp only [go_sem, seval]); try simp (disch := omega) only [go_sem, seval]) <;> rfl) trivial rfl (by ((try simp only [go_sem, seval]); try simp (disch := omega) only [go_sem, seval]) <;> rfl) trivial rfl (by kernel_rfl) (nF _) (fun p _ => nF p.1) (aCs _ _ _ rfl) ?_
  refine rF ?_
  refine hK19 _ _ ?_; clear hK19
  refine aT fun K20 hK20 => ?_
  refine aT fun K21 hK21 => ?_
  refine bK (Le.keepC [1, 2, 7, 8, 9, 12, 41, 42, 43, 44] _) ?_
  refine bM ?_
  refine ef hF ?_
  refine ef hF ?_
  refine ef hF ?_
  show gN _ _ _ _ _ _ _ _
  refine dT hF ?_
  refine l5 x9 mP (s := 9) (M := (lC (o8 (g9 l i) ((gP l (l.fSignals.getD i default).fAt (aI l (l.fSignals.getD i default).fAt).1).take k)) (g9 l (i : Nat) ((gP l (l.fSignals.getD i default).fAt (aI l (l.fSignals.getD i default).fAt).1).getD k [])) (((fM (o8 (g9 l i) ((gP l (l.fSignals.getD i default).fAt (aI l (l.fSignals.getD i default).fAt).1).take k)) (g9 l (i : Nat) ((gP l (l.fSignals.getD i default).fAt (aI l (l.fSignals.getD i default).fAt).1).getD k []))).getD 0) + 1))) (a := (g9 l (i : Nat) ((gP l (l.fSignals.getD i default).fAt (aI l (l.fSignals.getD i default).fAt).1).getD k []))) (zb := 0) (ok := false) rfl rfl (by kernel_rfl) (by kernel_rfl) (by ((try simp only [go_sem, seval]); try simp (disch := omega) only [go_sem, seval]) <;> rfl) (by ((try simp only [go_sem, seval]); try simp (disch := omega) only [go_sem, seval]) <;> rfl) (by ((try simp only [go_sem, seval]); try simp (disch := omega) only [go_sem, seval]) <;> rfl) trivial rfl (by kernel_rfl) hi3 hz3 (nF _) (fun p _ => nF p.1) (uT (aCs _ _ _ rfl)) ?_
  try ((try simp only [go_sem, seval]); try simp (disch := omega) only [go_sem, seval])
  refine ef hF ?_
  refine hK21 _ _ ?_; clear hK21
  refine aT fun K22 hK22 => ?_
  simp only [aBs, ↓reduceIte, Option.getD_some]
  rw [hcm (by assumption), hcn (by assumption)]
  refine dS hF [1, 2, 7, 8, 9, 12, 13, 41, 42, 43, 44] ?_
  refine hK22 _ _ ?_; clear hK22
  refine cJ (fun c3 => ?_) fun c3 => ?_
  ·have hnb : nbR l i (gP l (l.fSignals.getD i default).fAt (aI l (l.fSignals.getD i default).fAt).1) k = { (uX l i ((gP l (l.fSignals.getD i default).fAt (aI l (l.fSignals.getD i default).fAt).1).getD k [])) with fName := (g9 l (i : Nat) ((gP l (l.fSignals.getD i default).fAt (aI l (l.fSignals.getD i default).fAt).1).getD k [])) ++ (⟨#[46]⟩ ++ fmt ((jR (g9 l i) ((gP l (l.fSignals.getD i default).fAt (aI l (l.fSignals.getD i default).fAt).1).take (k + 1)) (g9 l i ((gP l (l.fSignals.getD i default).fAt (aI l (l.fSignals.getD i default).fAt).1).getD k []))) : Nat)) } := bSm (by omega)
   refine fD hF ?_
   refine aCg 8 [1, 2, 7, 8, 9, 12, 13, 41, 42, 43, 44] [1, 2, 8, 9, 13, 42, 43, 44, 63, 64, 65, 66, 67, 68, 69, 12] [] [] [[], [0], [], [2], [2, 3], [0, 1, 2, 3, 4], [0, 1, 2, 3, 4, 5], [0, 1, 2, 3, 4, 5, 6]] [[7], [7], [7], [7], [7], [7], [7], []] (fun bQ => dU O [(1, vi (i : Nat)), (2, .bx (aK l)), (8, hx.sl k), (9, .mo (esT x9 mP (o8 (g9 l i) ((gP l (l.fSignals.getD i default).fAt (aI l (l.fSignals.getD i default).fAt).1).take (k + 1))))), (13, vi ((jR (g9 l i) ((gP l (l.fSignals.getD i default).fAt (aI l (l.fSignals.getD i default).fAt).1).take (k + 1)) (g9 l i ((gP l (l.fSignals.getD i default).fAt (aI l (l.fSignals.getD i default).fAt).1).getD k []))) : Nat)), (42, encL 1 zV (gP l (l.fSignals.getD i default).fAt (aI l (l.fSignals.getD i default).fAt).1)), (43, vi ((gP l (l.fSignals.getD i default).fAt (aI l (l.fSignals.getD i default).fAt).1).length : Nat)), (44, vi (k : Nat)), (63, bJ (bQ 0) (.bp 12 0)), (64, bJ (bQ 1) (vs (g9 l (i : Nat) ((gP l (l.fSignals.getD i default).fAt (aI l (l.fSignals.getD i default).fAt).1).getD k [])))), (65, bJ (bQ 2) (vi ((jR (g9 l i) ((gP l (l.fSignals.getD i default).fAt (aI l (l.fSignals.getD i default).fAt).1).take (k + 1)) (g9 l i ((gP l (l.fSignals.getD i default).fAt (aI l (l.fSignals.getD i default).fAt).1).getD k []))) : Nat))), (66, bJ (bQ 3) (vs (fmt ((jR (g9 l i) ((gP l (l.fSignals.getD i default).fAt (aI l (l.fSignals.getD i default).fAt).1).take (k + 1)) (g9 l i ((gP l (l.fSignals.getD i default).fAt (aI l (l.fSignals.getD i default).fAt).1).getD k []))) : Nat)))), (67, bJ (bQ 4) (vs (⟨#[46]⟩ ++ fmt ((jR (g9 l i) ((gP l (l.fSignals.getD i default).fAt (aI l (l.fSignals.getD i default).fAt).1).take (k + 1)) (g9 l i ((gP l (l.fSignals.getD i default).fAt (aI l (l.fSignals.getD i default).fAt).1).getD k []))) : Nat)))), (68, bJ (bQ 5) (vs ((g9 l (i : Nat) ((gP l (l.fSignals.getD i default).fAt (aI l (l.fSignals.getD i default).fAt).1).getD k [])) ++ (⟨#[46]⟩ ++ fmt ((jR (g9 l i) ((gP l (l.fSignals.getD i default).fAt (aI l (l.fSignals.getD i default).fAt).1).take (k + 1)) (g9 l i ((gP l (l.fSignals.getD i default).fAt (aI l (l.fSignals.getD i default).fAt).1).getD k []))) : Nat))))), (69, bJ (bQ 6) (.bp 12 0)), (12, pD (bQ 7) true (.bx (bB { (uX l i ((gP l (l.fSignals.getD i default).fAt (aI l (l.fSignals.getD i default).fAt).1).getD k [])) with fName := (g9 l (i : Nat) ((gP l (l.fSignals.getD i default).fAt (aI l (l.fSignals.getD i default).fAt).1).getD k [])) ++ (⟨#[46]⟩ ++ fmt ((jR (g9 l i) ((gP l (l.fSignals.getD i default).fAt (aI l (l.fSignals.getD i default).fAt).1).take (k + 1)) (g9 l i ((gP l (l.fSignals.getD i default).fAt (aI l (l.fSignals.getD i default).fAt).1).getD k []))) : Nat)) })) (.bx (bB (uX l i ((gP l (l.fSignals.getD i default).fAt (aI l (l.fSignals.getD i default).fAt).1).getD k [])))))]) (fun iQ hiQ oQ hoQ bQ hbQ KQ hKQ => ?_) ?_
   ·match iQ, hiQ with
    | 0, _ | 1, _ | 2, _ | 4, _ | 5, _ | 6, _ | 7, _ =>
     obtain rfl := Option.some.inj hoQ
     simp only [sO, j0, j8, List.getD_cons_succ, List.getD_cons_zero, List.getD_nil, and_true, true_and] at hbQ
     show qY _ _ _ false _ _
     ((try simp only [go_sem, seval, hbQ]); try simp (disch := omega) only [go_sem, seval, hbQ])
     repeat refine And.intro (by first | exact aLw hfs | exact aMg hfs hns | exact aLh hfs hns | exact bS) ?_
     refine hKQ _ ?_
     ((try simp only [go_sem, seval, hbQ]); try simp (disch := omega) only [go_sem, seval, hbQ]) <;> first | rfl | simp
    | 3, _ =>
     obtain rfl := Option.some.inj hoQ
     simp only [sO, j0, j8, List.getD_cons_succ, List.getD_cons_zero, List.getD_nil, and_true, true_and] at hbQ
     show qY _ _ _ false _ _
     ((try simp only [go_sem, seval, hbQ]); try simp (disch := omega) only [go_sem, seval, hbQ])
     repeat refine And.intro (by first | exact aLw hfs | exact aMg hfs hns | exact aLh hfs hns | exact bS) ?_
     refine dJ (aKe _ ((jR (g9 l i) ((gP l (l.fSignals.getD i default).fAt (aI l (l.fSignals.getD i default).fAt).1).take (k + 1)) (g9 l i ((gP l (l.fSignals.getD i default).fAt (aI l (l.fSignals.getD i default).fAt).1).getD k []))) : Nat) (by omega) (by omega)) ?_ ?_
     ·rfl
     try ((try simp only [go_sem, seval, hbQ]); try simp (disch := omega) only [go_sem, seval, hbQ])
     repeat refine And.intro (by first | exact aLw hfs | exact aMg hfs hns | exact aLh hfs hns | exact bS) ?_
     refine hKQ _ ?_
     ((try simp only [go_sem, seval, hbQ]); try simp (disch := omega) only [go_sem, seval, hbQ]) <;> first | rfl | simp
   ((try simp only [go_sem, seval]); try simp (disch := omega) only [go_sem, seval])
   repeat refine And.intro (by first | exact aLw hfs | exact aMg hfs hns | exact aLh hfs hns | exact bS) ?_
   refine hK20 _ _ ?_; clear hK20
   refine sV 12 (ds := bB (nbR l i (gP l (l.fSignals.getD i default).fAt (aI l (l.fSignals.getD i default).fAt).1) k)) rfl (by first | rfl | (((try simp only [go_sem, seval]); try simp (disch := omega) only [go_sem, seval]); done) | (((try simp only [go_sem, seval]); try simp (disch := omega) only [go_sem, seval]); rfl)) (by rw [hnb]; exact mZ.refl _) ?_
   refine bK (Le.keepC [1, 2, 7, 8, 9, 12, 41, 42, 43, 44] _) ?_
   refine bM ?_
   refine ef hF ?_
   refine ef hF ?_
   refine ef hF ?_
   show gN _ _ _ _ _ _ _ _
   refine fY (s1 := []) (s2 := []) 70 (by decide) (by ((try simp only [go_sem, seval]); try simp (disch := omega) only [go_sem, seval]) <;> rfl) rfl ?_
   refine ef hF ?_
   show gN _ _ _ _ _ _ _ _
   refine jL (s1 := []) (s2 := []) (l := (m7 l i (gP l (l.fSignals.getD i default).fAt (aI l (l.fSignals.getD i default).fAt).1) (k + 1)).map bB) 73 (by decide) (by ((try simp only [go_sem, seval]); try simp (disch := omega) only [go_sem, seval]) <;> (first | rfl | (rw [aDn, List.map_append]; done) | (rw [aDn, List.map_append]; rfl))) rfl (fun h2 => ?_)
   refine ef hF ?_
   refine hK16 _ _ ?_; clear hK16
   refine dS hF [1, 2, 7, 8, 9, 41, 42, 43, 44] ?_
   refine hK13 _ _ _ ?_ ⟨k + 1, h2, rfl, rfl, ?_, ?_⟩
   ·exact bI
   ·exact bI
   exact dC
  have hnb : nbR l i (gP l (l.fSignals.getD i default).fAt (aI l (l.fSignals.getD i default).fAt).1) k = (uX l i ((gP l (l.fSignals.getD i default).fAt (aI l (l.fSignals.getD i default).fAt).1).getD k [])) := bTo (by omega)
  refine bN ?_
  refine hK20 _ _ ?_; clear hK20
  refine sV 12 (ds := bB (nbR l i (gP l (l.fSignals.getD i default).fAt (aI l (l.fSignals.getD i default).fAt).1) k)) rfl (by first | rfl | (((try simp only [go_sem, seval]); try simp (disch := omega) only [go_sem, seval]); done) | (((try simp only [go_sem, seval]); try simp (disch := omega) only [go_sem, seval]); rfl)) (by rw [hnb]; exact mZ.refl _) ?_
  refine bK (Le.keepC [1, 2, 7, 8, 9, 12, 41, 42, 43, 44] _) ?_
  refine bM ?_
  refine ef hF ?_
  refine ef hF ?_
  refine ef hF ?_
  show gN _ _ _ _ _ _ _ _
  refine fY (s1 := []) (s2 := []) 70 (by decide) (by ((try simp only [go_sem, seval]); try simp (disch := omega) only [go_sem, seval]) <;> rfl) rfl ?_
  refine ef hF ?_
  show gN _ _ _ _ _ _ _ _
  refine jL (s1 := []) (s2 := []) (l := (m7 l i (gP l (l.fSignals.getD i default).fAt (aI l (l.fSignals.getD i default).fAt).1) (k + 1)).map bB) 73 (by decide) (by ((try simp only [go_sem, seval]); try simp (disch := omega) only [go_sem, seval]) <;> (first | rfl | (rw [aDn, List.map_append]; done) | (rw [aDn, List.map_append]; rfl))) rfl (fun h2 => ?_)
  refine ef hF ?_
  refine hK16 _ _ ?_; clear hK16
  refine dS hF [1, 2, 7, 8, 9, 41, 42, 43, 44] ?_
  refine hK13 _ _ _ ?_ ⟨k + 1, h2, rfl, rfl, ?_, ?_⟩
  ·exact bI
  ·exact bI
  exact dC
 refine eB ?_
 refine hK11 _ _ ?_; clear hK11
 refine aT fun K23 hK23 => ?_
 obtain rfl : k = (gP l (l.fSignals.getD i default).fAt (aI l (l.fSignals.getD i default).fAt).1).length := (by omega)
 refine vX (s1 := []) (s2 := []) 8 (by decide) (by ((try simp only [go_sem, seval]); try simp (disch := omega) only [go_sem, seval]) <;> first | rfl | (simp only [List.length_map])) rfl (dI.frzL bB (m7 l i (gP l (l.fSignals.getD i default).fAt (aI l (l.fSignals.getD i default).fAt).1) (gP l (l.fSignals.getD i default).fAt (aI l (l.fSignals.getD i default).fAt).1).length)) rfl ?_
 refine dS hF [8] ?_
 refine hK23 _ _ ?_; clear hK23
 refine dD ?_
 (try simp only [fR, eC]); refine cW 4 ?_; exact dE.encL (l' := m7 l i (gP l (l.fSignals.getD i default).fAt (aI l (l.fSignals.getD i default).fAt).1) (gP l (l.fSignals.getD i default).fAt (aI l (l.fSignals.getD i default).fAt).1).length) (by ((try simp only [go_sem, seval]); try simp (disch := omega) only [go_sem, seval]) <;> rfl) (bIr hi hjo).symm
end
end Go.Sg
namespace Go.Sg
open Go.Proofs
theorem pT {l : aB} (h : j6 l = 0) : uM l = true ∧ mH l = true ∧ joI l = 0 := by
 unfold j6 at h
 split at h
 ·cases h
 split at h
 ·rename_i h1; exact absurd h h1
 rename_i h1
 split at h
 ·cases h
 rename_i h2
 split at h
 ·rename_i h3; exact absurd h h3
 rename_i h3
 refine ⟨?_, ?_, Classical.not_not.1 h3⟩
 ·have h1 : nmI l = 0 := Classical.not_not.1 h1
  unfold nmI at h1
  split at h1
  ·assumption
  cases h1
 cases hx : mH l with
 | true => rfl
 | false => exact absurd (.inl hx) h2
theorem aCw {l : aB} (hl : eK l) (h : j6 l = 0) : Vld l ∧ (eQ l.fJoints).Nodup :=
 ⟨⟨hl, (pT h).2.1, fun e he => aQm (aFi (pT h).2.2).1 he⟩, (aFi (pT h).2.2).2⟩
theorem bHh {l : aB} (h : j6 l = 0) : ∀ i, i < l.fSignals.length → (l.fSignals.getD i default).fName.size ≤ 1000 := by
 intro i hi
 have h1 := (pT h).1
 unfold uM at h1
 rw [List.all_eq_true] at h1
 have h2 := h1 (qR l) (by unfold cF; simp)
 rw [List.all_eq_true] at h2
 have h3 := h2 (l.fSignals.getD i default).fName (List.mem_map.2 ⟨_, dR hi, rfl⟩)
 unfold jV at h3
 rw [Bool.and_eq_true, decide_eq_true_eq] at h3
 omega
theorem aXv {l : aB} (hv : Vld l) : ∀ e, (aI l e).2 = true → 0 ≤ (aI l e).1.fEl := fun e he => (aEv hv he).1.1
theorem aXe {l : aB} : ∀ {n : Nat} {a : cG} {q p : List aW}, (∀ s ∈ q, lH l s.fEl = true) → p ∈ n0 l n a q → ∀ s ∈ p, lH l s.fEl = true
 | 0, _, _, _, _, h => by cases h
 | n + 1, a, q, p, hq, h => by
  unfold n0 at h
  split at h
  ·cases h
  obtain ⟨s, hs, hp⟩ := List.mem_flatMap.1 h
  have hs2 : ∀ x ∈ q ++ [s], lH l x.fEl = true := fun x hx => by
   rcases List.mem_append.1 hx with hx | hx
   ·exact hq x hx
   rw [List.mem_singleton.1 hx, (oJ hs).1]; exact (oJ hs).2.2.2
  split at hp
  ·rw [List.mem_singleton.1 hp]; exact hs2
  exact aXe hs2 hp
theorem xC {q : List aW} {i : Nat} (hi : i < q.length) : jS q i = q[i] := by
 unfold jS; rw [List.getD_eq_getElem?_getD, List.getElem?_eq_getElem hi]; rfl
theorem aJa {l : aB} {q : List aW} (hex : ∀ s ∈ q, lH l s.fEl = true) {s : aW} (hs : s ∈ q) : bU l s.fEl ∈ eW l q := by
 obtain ⟨i, hi, rfl⟩ := List.mem_iff_getElem.1 hs
 have := (t6 (l := l) (q := q) (fun i hi => by rw [xC hi]; exact hex _ (List.getElem_mem hi)) q.length (Nat.le_refl _) (bU l (q[i]).fEl)).2 ⟨i, hi, by show bU l (jS q i).fEl = _; rw [xC hi]⟩
 rwa [List.take_length] at this
theorem aLq {l : aB} {ov : Int} {sc : List Int} : ∀ (n : Nat) (o : List aW) (a : cG × Bool), (∀ s ∈ o, sc.contains (bU l s.fEl) = false) → ∀ s ∈ ovG l ov sc n o a, sc.contains (bU l s.fEl) = false
 | 0, o, a, h => h
 | n + 1, o, a, h => by
  unfold ovG
  split
  ·rename_i hc
   refine aLq n _ _ fun s hs => ?_
   rcases List.mem_append.1 hs with hs | hs
   ·exact h s hs
   rw [List.mem_singleton.1 hs, aGc (dR (by have := hc.2.2; omega))]
   have hb := hc.2.1
   unfold aEm at hb
   rw [Bool.or_eq_false_iff] at hb
   exact hb.2
  exact h
theorem aDp (l : aB) (r : a8) : ∀ s ∈ m0 l r, r.fSections.contains (bU l s.fEl) = false := by
 unfold m0
 split
 ·exact aLq _ _ _ (by simp)
 simp
structure RtP (l : aB) (r : a8) : Prop where
 nd : (r.fPath.map (·.fEl)).Nodup
 ex : ∀ s ∈ r.fPath, lH l s.fEl = true
 len : r.fPath.length ≤ 12
 sec : r.fSections = eW l r.fPath
 pt : r.fPoints = tI l r.fPath
 ov : r.fOver = [] ∧ r.fOverPoints = [] ∧ r.fOverSections = [] ∧ r.fFlank = [] ∧ r.fGuards = [] ∧ r.fGaps = []
theorem zU (r : a8) (c : Nat) : (kT r c).fPath = r.fPath ∧ (kT r c).fSections = r.fSections ∧ (kT r c).fPoints = r.fPoints ∧ ((kT r c).fOver = r.fOver ∧ (kT r c).fOverPoints = r.fOverPoints ∧ (kT r c).fOverSections = r.fOverSections ∧ (kT r c).fFlank = r.fFlank ∧ (kT r c).fGuards = r.fGuards ∧ (kT r c).fGaps = r.fGaps) := by
 unfold kT; split <;> exact ⟨rfl, rfl, rfl, rfl, rfl, rfl, rfl, rfl, rfl⟩
theorem aYh {l : aB} {i : Int} {r : a8} (h : r ∈ cN gP l i) : RtP l r := by
 unfold cN at h
 split at h
 ·cases h
 simp only at h
 split at h
 ·cases h
 unfold m7 at h
 obtain ⟨k, hk, rfl⟩ := List.mem_map.1 h
 have hk := List.mem_range.1 hk
 have hm := tL (l := l) (n := 13) (a := (aI l (l.fSignals.getD i.toNat default).fAt).1) (q := []) (p := (gP l (l.fSignals.getD i.toNat default).fAt (aI l (l.fSignals.getD i.toNat default).fAt).1).getD k []) (by simp) List.Pairwise.nil (dR hk)
 have hx := aXe (l := l) (n := 13) (a := (aI l (l.fSignals.getD i.toNat default).fAt).1) (q := []) (p := (gP l (l.fSignals.getD i.toNat default).fAt (aI l (l.fSignals.getD i.toNat default).fAt).1).getD k []) (by simp) (dR hk)
 generalize gP l (l.fSignals.getD i.toNat default).fAt (aI l (l.fSignals.getD i.toNat default).fAt).1 = P at *
 obtain ⟨n1, n2, n3, n4, n5, n6, n7, n8, n9⟩ := zU (uX l i (P.getD k [])) (jR (g9 l i) (P.take (k + 1)) (g9 l i (P.getD k [])))
 exact ⟨by show ((kT _ _).fPath.map _).Nodup; rw [n1]; exact hm.2.2.1, by show ∀ s ∈ (kT _ _).fPath, _; rw [n1]; exact hx, by show (kT _ _).fPath.length ≤ 12; rw [n1]; exact hm.2.1, by show (kT _ _).fSections = eW l (kT _ _).fPath; rw [n1, n2]; rfl, by show (kT _ _).fPoints = tI l (kT _ _).fPath; rw [n1, n3]; rfl, n4, n5, n6, n7, n8, n9⟩
theorem xT (l : aB) (q : List aW) : (tI l q).length ≤ q.length := Nat.le_trans (xQ _) (uH l q)
theorem RtP.rtk {l : aB} {r : a8} (h : RtP l r) : Rtk r := by
 have h1 := h.len
 have h2 := aEk l r.fPath
 have h3 := xT l r.fPath
 obtain ⟨a1, a2, a3, a4, a5, a6⟩ := h.ov
 exact ⟨by omega, by rw [h.pt]; omega, by rw [h.sec]; omega, by rw [a1]; simp, by rw [a2]; simp, by rw [a3]; simp, by rw [a4]; simp, by rw [a5]; simp, by rw [a6]; simp⟩
theorem RtP.rtkO {l : aB} {r : a8} (h : RtP l r) : Rtk (zY l r) := by
 have h0 := h.rtk
 have h1 := aEj l r
 have h2 := aEk l (m0 l r)
 have h3 := xT l (m0 l r)
 exact ⟨h0.pa, h0.po, h0.se, (by show (m0 l r).length ≤ 100; omega), (by show (tI l (m0 l r)).length ≤ 100; omega), (by show (eW l (m0 l r)).length ≤ 100; omega), h0.fl, h0.gu, h0.ga⟩
theorem RtP.nodup {l : aB} {r : a8} (h : RtP l r) : (((zY l r).fPath ++ (zY l r).fOver).map (·.fEl)).Nodup := by
 show ((r.fPath ++ m0 l r).map (·.fEl)).Nodup
 rw [List.map_append, List.nodup_append]
 refine ⟨h.nd, aJy l r, fun x hx y hy e => ?_⟩
 obtain ⟨s, hs, rfl⟩ := List.mem_map.1 hx
 obtain ⟨o, ho, rfl⟩ := List.mem_map.1 hy
 have h1 := aJa h.ex hs
 have h2 := aDp l r o ho
 rw [h.sec] at h2
 have e : s.fEl = o.fEl := e
 rw [e] at h1
 have h3 : (eW l r.fPath).contains (bU l o.fEl) = true := by simpa using h1
 rw [h3] at h2; cases h2
theorem aVg (l : aB) (i : Int) : (cN gP l i).length ≤ 10000 := by
 unfold cN
 split
 ·simp
 simp only
 split
 ·simp
 rw [pC]
 have := aWz l (l.fSignals.getD i.toNat default).fAt (aI l (l.fSignals.getD i.toNat default).fAt).1
 omega
theorem aNk {l : aB} {r : a8} (h : r ∈ (dP l (cN gP l)).1) : RtP l r := by
 have : r ∈ fI (cN gP l) l.fSignals.length := by
  unfold dP at h
  split at h
  ·cases h
  split at h
  ·cases h
  exact h
 unfold fI at this
 obtain ⟨i, _, hi⟩ := List.mem_flatMap.1 this
 exact aYh hi
theorem xH (l : aB) : (dP l (cN gP l)).1.length ≤ 48 := by
 unfold dP
 split
 ·simp
 split
 ·simp
 show (fI (cN gP l) l.fSignals.length).length ≤ 48; omega
theorem sZ {l : aB} (h : (dP l (cN gP l)).2 = 0) : j6 l = 0 := by
 unfold dP at h
 split at h
 ·exact h
 rename_i h1
 exact Classical.not_not.1 h1
def lX (l : aB) (r : a8) : a8 := wI l (zY l r)
def bC (l : aB) : cP := if (dP l (cN gP l)).2 = 0 then ⟨(dP l (cN gP l)).1.map (lX l), d8 l, (d8 l).map (bU l), (l.fSections.length : Nat), (l.fSignals.length : Nat)⟩ else ⟨[], [], [], 0, 0⟩
theorem bEs {l : aB} (h : ¬ (dP l (cN gP l)).2 = 0) : bC l = ⟨[], [], [], 0, 0⟩ := by unfold bC; rw [if_neg h]
theorem tH {l : aB} (h : (dP l (cN gP l)).2 = 0) : bC l = ⟨(dP l (cN gP l)).1.map (lX l), d8 l, (d8 l).map (bU l), (l.fSections.length : Nat), (l.fSignals.length : Nat)⟩ := by unfold bC; rw [if_pos h]
end Go.Sg
