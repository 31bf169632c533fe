/- Several texts as one. -/
import Derived.Test.YtnpokifaejcbeaaGreatDoorK5
set_option linter.unusedSectionVars false
set_option linter.unusedVariables false
set_option linter.unusedSimpArgs false
set_option maxRecDepth 20000
namespace Go.Sg
open Go.Proofs
abbrev rgS (h : Hd) (l : List ByteArray) : Rg := .row h 9 1 (l.map eS)
def kM (l : aC) : List ByteArray := [l.fName] ++ l.fSections ++ kD l ++ lG l
def nmR (l : aC) : Int := if pR l = true then nmI l else 2
theorem aAs (l : aC) : (kM l).all gI = aBj l := by
 unfold kM aBj cE
 simp [Bool.and_assoc]
theorem bAv {l : aC} (hl : dX l) {i : Nat} (h : i < (kM l).length) : ((kM l).getD i default).size ≤ 140737488355328 := by
 have hm := fS h
 generalize (kM l).getD i default = x at hm
 unfold kM at hm
 simp only [List.mem_append, List.mem_singleton] at hm
 have hn := hl.nm
 rcases hm with ((h | h) | h) | h
 ·exact hn [l.fName] (by simp [cE]) x (by simp [h])
 ·exact hn l.fSections (by simp [cE]) x h
 ·exact hn (kD l) (by simp [cE]) x h
 exact hn (lG l) (by simp [cE]) x h
theorem bUh {l : aC} {i : Nat} (hc : pR l = true) (hi : i < (kM l).length) (h : gI ((kM l).getD i default) = false) : nmR l = 3 := by
 have : aBj l = false := by rw [← aAs]; exact kA hi h
 unfold nmR nmI; rw [if_pos hc, this, if_neg (by simp)]
theorem aUd (l : aC) : ndB l = ((u7 l.fSections && u7 (kD l)) && u7 (lG l)) := by
 have h1 : ndS [l.fName] = true := rfl
 unfold ndB cE
 simp only [List.all_cons, List.all_nil, Bool.and_true, h1, Bool.true_and, bVk, Bool.and_assoc]
theorem bSj {l : aC} (hc : pR l = true) (ha : (kM l).all gI = true) (h : (u7 l.fSections = false ∨ u7 (kD l) = false) ∨ u7 (lG l) = false) : nmR l = 8 := by
 have : ndB l = false := by rw [aUd, Bool.and_eq_false_iff, Bool.and_eq_false_iff]; exact h
 unfold nmR nmI; rw [if_pos hc, ← aAs, if_pos ha, this, if_neg (by simp)]
theorem bPx {l : aC} (hc : pR l = true) (ha : (kM l).all gI = true) (h : (u7 l.fSections = true ∧ u7 (kD l) = true) ∧ u7 (lG l) = true) : nmR l = 0 := by
 have : ndB l = true := by rw [aUd]; simpa using h
 unfold nmR nmI; rw [if_pos hc, ← aAs, if_pos ha, if_pos this]
theorem bPf {l : aC} (h : ¬ (1 ≤ l.fElements.length ∧ l.fElements.length ≤ 32 ∧ 1 ≤ l.fSections.length ∧ l.fSections.length ≤ 24 ∧ l.fSignals.length ≤ 20 ∧ l.fBalises.length ≤ 24)) : nmR l = 2 := by
 have : pR l = false := decide_eq_false h
 unfold nmR; rw [this, if_neg (by simp)]
set_option maxRecDepth 20000 in
theorem zR (O : aU) (l : aC) (hl : dX l) : aW Tryz.prog O 192 [.agg (aI l)] (.agg [dN l.fSections, dN (kD l), dN (lG l)]) := by
 have hl1 := hl.sec
 have hl2 := hl.el
 have hl3 := hl.jo
 have hl4 := hl.sg
 have hl5 := hl.bl
 refine aO 0 rfl (.agg (d := f5 l.fElements) (by simp [aI]) (.sl _ _ _)) fun he => ?_
 refine aO 0 rfl (.agg (d := gB l.fSignals) (by simp [aI]) (.sl _ _ _)) fun hs => ?_
 refine aO 0 rfl (.agg (d := dN l.fSections) (by simp [aI]) (.sl _ _ _)) fun hc => ?_
 refine eV Tryz.func192 rfl (by kernel_rfl) fun w0 I0 A0 => ?_
 have hF := jN w0 I0 (b8 A0) (xG [])
 refine a8 hF [0] ?_
 refine a8 hF [1, 2] ?_
 refine aN fun K2 hK2 => ?_
 refine bH (Le.keepC [1, 2, 3] _) ?_
 refine bM ?_
 refine ef hF ?_
 refine ef hF ?_
 refine ef hF ?_
 refine ef hF ?_
 refine ef hF ?_
 show fV _ _ _ _ _ _ _ _
 refine fM (s1 := []) (s2 := []) (l := l.fSections.map eS) 13 (by decide) (by simp (disch := omega) only [go_sem, seval] <;> (first | rfl | simp)) rfl (fun h0 => ?_)
 simp (disch := omega) only [go_sem, seval]
 refine ef hF ?_
 refine ef hF ?_
 refine hK2 _ _ ?_; clear hK2
 refine aN fun K3 hK3 => ?_
 refine a8 hF [1, 2, 3] ?_
 refine bI ?_
 refine eL [_] [] 9 1 rfl ?_
 refine dB [1, 2, 3, 16, 17, 18] (fun n sF ρ => ∃ i, ∃ h1, n = l.fElements.length - i ∧ sF = [rgS h0 l.fSections, rgS h1 ((kD l).take i)] ∧ (i ≤ l.fElements.length) ∧ ρ = cU O [(1, .bx (aI l)), (2, .bx [.v (.slice none 0 0), .v (.slice none 0 0), .v (.slice none 0 0)]), (3, .bx [h0.sl l.fSections.length, h1.sl ((kD l).take i).length, .v (.slice none 0 0)]), (16, f5 l.fElements), (17, vi (l.fElements.length : Nat)), (18, vi (i : Nat))]) _ ⟨0, eU, rfl, rfl, ?_, ?_⟩ ?_
 ·exact bD
 ·exact cD
 rintro n sF ρ ⟨i, h1, rfl, rfl, l0_0, rfl⟩ K5 hK5
 refine a8 hF [1, 2, 3, 15, 16, 17, 18] ?_
 refine aN fun K7 hK7 => ?_
 refine bU (fun c0 => ?_) fun c0 => ?_
 ·refine bG ?_
  refine hK7 _ _ ?_; clear hK7
  refine aN fun K8 hK8 => ?_
  refine bI ?_
  refine a8 hF [1, 2, 3, 15, 16, 17, 18] ?_
  refine bH (Le.keepC [1, 2, 3, 5, 15, 16, 17, 18] _) ?_
  refine bM ?_
  refine ef hF ?_
  refine ef hF ?_
  refine ef hF ?_
  refine ef hF ?_
  refine ef hF ?_
  show fV _ _ _ _ _ _ _ _
  refine dO (s1 := [_]) (s2 := []) 23 (by decide) (by simp (disch := omega) only [go_sem, seval] <;> rfl) rfl ?_
  refine ef hF ?_
  show fV _ _ _ _ _ _ _ _
  refine fM (s1 := [_]) (s2 := []) (l := ((kD l).take (i + 1)).map eS) 27 (by decide) (by simp (disch := omega) only [go_sem, seval] <;> (rw [aWb l (by omega), List.map_append]; rfl)) rfl (fun h1x => ?_)
  simp (disch := omega) only [go_sem, seval]
  refine ef hF ?_
  refine ef hF ?_
  refine hK8 _ _ ?_; clear hK8
  refine cH hF [1, 2, 3, 15, 16, 17, 18] ?_
  refine hK5 _ _ _ ?_ ⟨i + 1, h1x, rfl, rfl, ?_, ?_⟩
  ·exact bD
  ·exact bD
  exact cD
 refine dD ?_
 refine hK3 _ _ ?_; clear hK3
 refine aN fun K10 hK10 => ?_
 refine a8 hF [1, 2, 3] ?_
 refine bI ?_
 rw [aUc l (by omega)]
 refine eL [_, _] [] 9 1 rfl ?_
 refine dB [1, 2, 3, 31, 32, 33] (fun n sF ρ => ∃ i, ∃ h2, n = l.fSignals.length - i ∧ sF = [rgS h0 l.fSections, rgS h1 (kD l), rgS h2 ((lG l).take i)] ∧ (i ≤ l.fSignals.length) ∧ ρ = cU O [(1, .bx (aI l)), (2, .bx [.v (.slice none 0 0), .v (.slice none 0 0), .v (.slice none 0 0)]), (3, .bx [h0.sl l.fSections.length, h1.sl (kD l).length, h2.sl ((lG l).take i).length]), (31, gB l.fSignals), (32, vi (l.fSignals.length : Nat)), (33, vi (i : Nat))]) _ ⟨0, eU, rfl, rfl, ?_, ?_⟩ ?_
 ·exact bD
 ·exact cD
 rintro n sF ρ ⟨i, h2, rfl, rfl, l1_0, rfl⟩ K12 hK12
 refine a8 hF [1, 2, 3, 30, 31, 32, 33] ?_
 refine aN fun K14 hK14 => ?_
 refine bU (fun c1 => ?_) fun c1 => ?_
 ·refine bG ?_
  refine hK14 _ _ ?_; clear hK14
  refine aN fun K15 hK15 => ?_
  refine bI ?_
  refine a8 hF [1, 2, 3, 30, 31, 32, 33] ?_
  refine bH (Le.keepC [1, 2, 3, 7, 30, 31, 32, 33] _) ?_
  refine bM ?_
  refine ef hF ?_
  refine ef hF ?_
  refine ef hF ?_
  refine ef hF ?_
  refine ef hF ?_
  show fV _ _ _ _ _ _ _ _
  refine dO (s1 := [_, _]) (s2 := []) 38 (by decide) (by simp (disch := omega) only [go_sem, seval] <;> rfl) rfl ?_
  refine ef hF ?_
  show fV _ _ _ _ _ _ _ _
  refine fM (s1 := [_, _]) (s2 := []) (l := ((lG l).take (i + 1)).map eS) 42 (by decide) (by simp (disch := omega) only [go_sem, seval] <;> (rw [aVn l (by omega), List.map_append]; rfl)) rfl (fun h2x => ?_)
  simp (disch := omega) only [go_sem, seval]
  refine ef hF ?_
  refine ef hF ?_
  refine hK15 _ _ ?_; clear hK15
  refine cH hF [1, 2, 3, 30, 31, 32, 33] ?_
  refine hK12 _ _ _ ?_ ⟨i + 1, h2x, rfl, rfl, ?_, ?_⟩
  ·exact bD
  ·exact bD
  exact cD
 refine dD ?_
 refine hK10 _ _ ?_; clear hK10
 refine aN fun K17 hK17 => ?_
 rw [aTn l (by omega)]
 refine dA (s1 := []) (s2 := [_, _]) 3 0 (by simp (disch := omega) only [go_sem, seval] <;> rfl) (by first | rfl | (simp only [List.length_map]; rfl)) rfl (bV.frzL eS l.fSections) rfl ?_
 refine dA (s1 := []) (s2 := [_]) 3 1 (by simp (disch := omega) only [go_sem, seval] <;> rfl) (by first | rfl | (simp only [List.length_map]; rfl)) rfl (bV.frzL eS (kD l)) rfl ?_
 refine dA (s1 := []) (s2 := []) 3 2 (by simp (disch := omega) only [go_sem, seval] <;> rfl) (by first | rfl | (simp only [List.length_map]; rfl)) rfl (bV.frzL eS (lG l)) rfl ?_
 refine bH (Le.keepC [2, 3] _) ?_
 refine bM ?_
 refine ef hF ?_
 refine ef hF ?_
 refine hK17 _ _ ?_; clear hK17
 refine cL ?_
 refine iK 2 199 rfl (by simp (disch := omega) only [go_sem, seval]) (by simp (disch := omega) only [go_sem, seval] <;> (exact bD)) (by simp (disch := omega) only [go_sem, seval]) (by simp (disch := omega) only [go_sem, seval])
section
attribute [local go_sem] List.take_length
set_option maxRecDepth 20000 in
set_option maxHeartbeats 4000000 in
theorem aAp (O : aU) (l : aC) (hl : dX l) : aW Tryz.prog O 137 [.agg (aI l)] (vi (nmR l)) := by
 have hl1 := hl.sec
 have hl2 := hl.el
 have hl3 := hl.jo
 have hl4 := hl.sg
 have hl5 := hl.bl
 have hen := tS l
 have hsn := tY l
 refine aO 0 rfl (.agg (d := f5 l.fElements) (by simp [aI]) (.sl _ _ _)) fun he => ?_
 refine aO 0 rfl (.agg (d := gB l.fSignals) (by simp [aI]) (.sl _ _ _)) fun hs => ?_
 refine aO 0 rfl (.agg (d := dN l.fSections) (by simp [aI]) (.sl _ _ _)) fun hc => ?_
 refine aO 0 rfl (.agg (d := wL l.fBalises) (by simp [aI]) (.sl _ _ _)) fun hb => ?_
 refine dT Tryz.func137 ?_
 refine aB [0] ?_
 refine aA fun K1 hK1 => ?_
 refine aB [1] ?_
 refine aS (fun c0 => ?_) fun c0 => ?_
 ·refine aB [] ?_
  refine aL ?_
  refine b6 2 ?_
  exact cP.is (by simp (disch := omega) only [go_sem, seval] <;> ((exact congrArg vi (bPf (by omega)).symm))) rfl rfl
 refine aJ ?_
 refine hK1 _ ?_; clear hK1
 refine aA fun K4 hK4 => ?_
 have hcn : pR l = true := decide_eq_true (by omega)
 refine bF [1] ?_
 refine dM (zR _ l hl) ?_
 refine hK4 _ ?_; clear hK4
 refine aA fun K5 hK5 => ?_
 refine aA fun K6 hK6 => ?_
 refine k9 14 [1, 3] [3, 1, 42, 43, 45, 46, 48, 49, 51, 52, 54, 55, 44, 47, 50, 53] [2, 11] [] [[], [0], [0, 1], [], [3], [0, 1, 2, 3, 4], [], [6], [0, 1, 2, 3, 4, 5, 6, 7], [], [9], [0, 1, 2, 3, 4, 5, 6, 7, 8, 9, 10], [0, 1, 2, 3, 4, 5, 6, 7, 8, 9, 10, 11], []] [[5, 8, 11], [5, 8, 11], [5, 8, 11], [5, 8, 11], [5, 8, 11], [8, 11], [8, 11], [8, 11], [11], [11], [11], [], [], []] (fun bQ => cU O [(3, .bx [dN l.fSections, dN (kD l), dN (lG l)]), (1, .bx (aI l)), (42, aV (bQ 0) (.bp 1 0)), (43, aV (bQ 1) (vs l.fName)), (45, aV (bQ 3) (.bp 3 0)), (46, aV (bQ 4) (dN l.fSections)), (48, aV (bQ 6) (.bp 3 1)), (49, aV (bQ 7) (dN (kD l))), (51, aV (bQ 9) (.bp 3 2)), (52, aV (bQ 10) (dN (lG l))), (54, aV (bQ 12) (vi ((kM l).length : Nat))), (55, aV (bQ 13) (vi 0)), (44, hU (bQ 5) (bQ 2) (.any) (.row 9 1 [[vs l.fName]])), (47, hU (bQ 8) (bQ 5) (.any) (.row 9 1 ([vs l.fName] :: l.fSections.map eS))), (50, hU (bQ 11) (bQ 8) (.any) (.row 9 1 (([vs l.fName] :: l.fSections.map eS) ++ (kD l).map eS))), (53, hU (bQ 11) (bQ 11) (dN (kM l)) (dN (kM l)))]) (fun iQ hiQ oQ hoQ bQ hbQ KQ hKQ => ?_) ?_
 ·match iQ, hiQ with
  | 0, _ | 1, _ | 3, _ | 4, _ | 5, _ | 6, _ | 7, _ | 8, _ | 9, _ | 10, _ | 12, _ | 13, _ =>
   obtain rfl := Option.some.inj hoQ
   simp only [oS, hD, iB, List.getD_cons_succ, List.getD_cons_zero, List.getD_nil, and_true, true_and] at hbQ
   show qC _ _ _ false _ _
   simp (disch := omega) only [go_sem, seval, hbQ]
   repeat refine And.intro (by first | (simp only [List.length_append, List.length_map]; omega) | exact Nat.le_refl _ | exact bS) ?_
   refine hKQ _ ?_
   simp (disch := omega) only [go_sem, seval, hbQ] <;> first | rfl | simp
  | 2, _ =>
   obtain rfl := Option.some.inj hoQ
   simp only [oS, hD, iB, List.getD_cons_succ, List.getD_cons_zero, List.getD_nil, and_true, true_and] at hbQ
   show qC _ _ _ true _ _
   simp (disch := omega) only [go_sem, seval, hbQ]
   repeat refine And.intro (by first | (simp only [List.length_append, List.length_map]; omega) | exact Nat.le_refl _ | exact bS) ?_
   refine hKQ _ ?_
   simp (disch := omega) only [go_sem, seval, hbQ] <;> first | rfl | simp
  | 11, _ =>
   obtain rfl := Option.some.inj hoQ
   simp only [oS, hD, iB, List.getD_cons_succ, List.getD_cons_zero, List.getD_nil, and_true, true_and] at hbQ
   show qC _ _ _ true _ _
   simp (disch := omega) only [go_sem, seval, hbQ]
   repeat refine And.intro (by first | (simp only [List.length_append, List.length_map]; omega) | exact Nat.le_refl _ | exact bS) ?_
   refine aPo (encL 1 eS (kM l)) (by have h := bV.frzL (z := 1) eS (kM l); simp only [kM, List.map_append, List.map_cons, List.map_nil, List.cons_append, List.nil_append, List.append_assoc] at h ⊢; exact h) rfl ?_
   try simp (disch := omega) only [go_sem, seval, hbQ]
   repeat refine And.intro (by first | (simp only [List.length_append, List.length_map]; omega) | exact Nat.le_refl _ | exact bS) ?_
   refine hKQ _ ?_
   simp (disch := omega) only [go_sem, seval, hbQ] <;> first | rfl | simp
 simp (disch := omega) only [go_sem, seval]
 repeat refine And.intro (by first | (simp only [List.length_append, List.length_map]; omega) | exact Nat.le_refl _ | exact bS) ?_
 refine hK6 _ ?_; clear hK6
 refine aK ?_
 refine aX [3, 53, 54, 55] (fun n ρ => ∃ i, n = (kM l).length - i ∧ (i ≤ (kM l).length) ∧ (gU gI (kM l) i) ∧ ρ = cU O [(3, .bx [dN l.fSections, dN (kD l), dN (lG l)]), (53, dN (kM l)), (54, vi ((kM l).length : Nat)), (55, vi (i : Nat))]) _ ⟨0, rfl, ?_, ?_, ?_⟩ ?_
 ·exact bD
 ·exact fH _ _
 ·exact cD
 rintro n ρ ⟨i, rfl, l0_0, l0_1, rfl⟩ K7 hK7
 have hnl2 : (kM l).length ≤ 200 := (by simp only [kM, List.length_append, List.length_singleton]; omega)
 have hsz2 : i < (kM l).length → ((kM l).getD i default).size ≤ 140737488355328 := fun h => bAv hl h
 refine aB [3, 53, 54, 55] ?_
 refine aA fun K9 hK9 => ?_
 refine aS (fun c1 => ?_) fun c1 => ?_
 ·refine aJ ?_
  refine hK9 _ ?_; clear hK9
  refine aA fun K10 hK10 => ?_
  refine aK ?_
  refine aB [3, 53, 54, 55] ?_
  refine aA fun K12 hK12 => ?_
  refine bF [3, 5, 53, 54, 55, 57] ?_
  refine dM (aBv _ ((kM l).getD i default) (hsz2 c1)) ?_
  refine hK12 _ ?_; clear hK12
  refine aS (fun c2 => ?_) fun c2 => ?_
  ·refine aB [] ?_
   refine aL ?_
   refine b6 2 ?_
   exact cP.is (by simp (disch := omega) only [go_sem, seval] <;> ((exact congrArg vi (bUh hcn c1 c2).symm))) rfl rfl
  refine aJ ?_
  refine hK10 _ ?_; clear hK10
  refine bC [3, 53, 54, 55] ?_
  refine hK7 _ _ ?_ ⟨i + 1, rfl, ?_, ?_, ?_⟩
  ·exact bD
  ·exact bD
  ·exact fI l0_1 c2
  exact cD
 refine bA ?_
 refine hK5 _ ?_; clear hK5
 refine aA fun K14 hK14 => ?_
 refine aA fun K15 hK15 => ?_
 have hall : (kM l).all gI = true := kJ l0_1 c1
 refine bF [3] ?_
 refine dM (mP _ l.fSections (by omega)) ?_
 refine lY (fun g0 => mP _ (kD l) (by rw [tS]; omega)) ?_
 refine lY (fun g1 => mP _ (lG l) (by rw [tY]; omega)) ?_
 refine hK15 _ ?_; clear hK15
 refine aS (fun c3 => ?_) fun c3 => ?_
 ·refine aB [] ?_
  refine aL ?_
  refine b6 2 ?_
  exact cP.is (by simp (disch := omega) only [go_sem, seval] <;> ((exact congrArg vi (bSj hcn hall c3).symm))) rfl rfl
 refine aJ ?_
 refine hK14 _ ?_; clear hK14
 refine aB [] ?_
 refine aL ?_
 refine b6 2 ?_
 exact cP.is (by simp (disch := omega) only [go_sem, seval] <;> ((exact congrArg vi (bPx hcn hall c3).symm))) rfl rfl
end
open Go.Rv (goodB)
def yS (e : cC) : Value := .agg #[.int .i64 e.fEl, .int .i64 e.fSide]
def e9 : KE cC := ⟨yS, fun e => .agg (bO e), fun a b h => by
  unfold yS at h
  simp only [Value.agg.injEq, Array.mk.injEq, List.cons.injEq, Value.int.injEq, true_and, and_true] at h
  exact (d6 a b).2 h,
 fun a w I A v h => by
  cases h with
  | agg _ _ vs hl hone hrel =>
   have h0 := hrel 0 (vi a.fEl) (vs[0]'(by simp [bO] at hl; omega)) rfl (Array.getElem?_eq_getElem _)
   have h1 := hrel 1 (vi a.fSide) (vs[1]'(by simp [bO] at hl; omega)) rfl (Array.getElem?_eq_getElem _)
   unfold yS
   congr 1
   apply Array.ext
   ·simpa [bO] using hl.symm
   intro i hi1 hi2
   match i, hi2 with
   | 0, _ => generalize vs[0] = x at h0; cases h0; rfl
   | 1, _ => generalize vs[1] = x at h1; cases h1; rfl,
 fun a w I A => .agg A _ _ rfl (fun u hu => by simp [yS] at hu; rcases hu with rfl | rfl <;> rfl) fun j d u hd hu => by
  match j with
  | 0 => simp [bO] at hd hu; subst hd; subst hu; exact .v A _
  | 1 => simp [bO] at hd hu; subst hd; subst hu; exact .v A _
  | j + 2 => simp [bO] at hd⟩
noncomputable def fsE : Array Field := match Tryz.prog.underlying 49 with
 | some (.struct fs) => fs
 | _ => #[]
theorem bPw {n : Int} (h1 : -9223372036854775808 ≤ n) (h2 : n ≤ 9223372036854775807) (d : Nat) : Tryz.prog.keyLits (d + 1) 3 [.int .i64 n] = some [.int .i64 n] := by
 have u3 : Tryz.prog.underlying 3 = some (.int .i64) := by kernel_rfl
 have hw : (Lit.int .i64 n).wf = true := by
  show (decide (IntKind.i64.min ≤ n) && decide (n ≤ IntKind.i64.max)) = true
  rw [decide_eq_true (show IntKind.i64.min ≤ n from h1), decide_eq_true (show n ≤ IntKind.i64.max from h2)]; rfl
 unfold Program.keyLits
 rw [u3]
 simp [hw]
def bEu (e : cC) : Prop := (-9223372036854775808 ≤ e.fEl ∧ e.fEl ≤ 9223372036854775807) ∧ (-9223372036854775808 ≤ e.fSide ∧ e.fSide ≤ 9223372036854775807)
theorem uR {e : cC} (h : bEu e) : goodB Tryz.prog 49 (yS e) = true := by
 have u : Tryz.prog.underlying 49 = some (.struct fsE) := by kernel_rfl
 have c49 : Tryz.prog.cellsOf 49 = 2 := by kernel_rfl
 have c3 : Tryz.prog.cellsOf 3 = 1 := by kernel_rfl
 have k1 : Tryz.prog.keyType 49 = true := by kernel_rfl
 have k2 : Tryz.prog.keyTypeAt 8 49 = true := by kernel_rfl
 have k3 : Tryz.prog.tiled 8 49 = true := by kernel_rfl
 obtain ⟨d, hd⟩ : ∃ d, Tryz.prog.types.size + 1 = d + 1 + 1 := ⟨Tryz.prog.types.size - 1, by kernel_rfl⟩
 have hf : (yS e).formed Tryz.prog 49 = true := by unfold yS Value.formed; simp only [u, c49]; rfl
 have hn : fsE.all (·.name != "_") = true := by kernel_rfl
 have hm : fsE.toList.map (fun f => (f.type, f.offset)) = [(3, 0), (3, 1)] := by kernel_rfl
 have hl : Tryz.prog.keyLits (d + 1 + 1) 49 (yS e).cells.toList = some [.int .i64 e.fEl, .int .i64 e.fSide] := by
  have hcells : (yS e).cells.toList = [.int .i64 e.fEl, .int .i64 e.fSide] := rfl
  have key : ∀ (fs : List Field), fs.map (fun f => (f.type, f.offset)) = [(3, 0), (3, 1)] → (fs.mapM fun f => Tryz.prog.keyLits (d + 1) f.type (([Value.int .i64 e.fEl, .int .i64 e.fSide].drop f.offset).take (Tryz.prog.cellsOf f.type))) = some [[.int .i64 e.fEl], [.int .i64 e.fSide]] := by
   intro fs hfs
   rcases fs with _ | ⟨f, _ | ⟨g, _ | ⟨q, r⟩⟩⟩
   ·cases hfs
   ·simp at hfs
   ·simp only [List.map_cons, List.map_nil, List.cons.injEq, Prod.mk.injEq, and_true] at hfs
    obtain ⟨⟨a1, a2⟩, b1, b2⟩ := hfs
    simp only [List.mapM_cons, List.mapM_nil, a1, a2, b1, b2, c3, List.drop_zero, List.take_succ_cons, List.take_zero, List.drop_succ_cons]
    simp [bPw h.1.1 h.1.2, bPw h.2.1 h.2.2]
   simp at hfs
  unfold Program.keyLits
  rw [u, hcells]
  simp only [c49, hn, List.length_cons, List.length_nil, Nat.zero_add, Nat.reduceAdd, and_self, if_true, key fsE.toList hm, Option.map_some]
  rfl
 unfold goodB keyOf
 rw [u]
 simp only [k1, k2, k3, hf, hd, hl, Bool.and_self, if_true, Option.map_some, Option.isSome_some]
theorem aTb (e : cC) : e9.dv e = .agg (bO e) := rfl
theorem aXo : ∃ i, Tryz.prog.info? 49 = some i ∧ i.zero = some (yS E0) := by
 obtain ⟨i, hi⟩ : ∃ i, Tryz.prog.info? 49 = some i := Option.isSome_iff_exists.1 (by kernel_rfl)
 have : ((Tryz.prog.info? 49).bind (·.zero)) = some (yS E0) := by kernel_rfl
 rw [hi] at this
 exact ⟨i, hi, this⟩
def uN (l : aC) (j : gG) : Bool := n0 l j.fA && (n0 l j.fB && decide (j.fA ≠ j.fB))
def d4 (js : List gG) : List cC := js.flatMap fun j => [j.fA, j.fB]
def jM (js : List gG) : List (cC × cC) := js.flatMap fun j => [(j.fA, j.fB), (j.fB, j.fA)]
theorem nD (js : List gG) : (jM js).map (·.1) = d4 js := by
 unfold jM d4
 induction js with
 | nil => rfl
 | cons j js ih => simp only [List.flatMap_cons, List.map_append, ih]; rfl
theorem aFj {js : List gG} {i : Nat} (h : i < js.length) : d4 (js.take (i + 1)) = d4 (js.take i) ++ [(js.getD i default).fA, (js.getD i default).fB] := by
 rw [fP default h]; unfold d4; rw [List.flatMap_append]; rfl
theorem bZs {js : List gG} {i : Nat} (h : i < js.length) : jM (js.take (i + 1)) = jM (js.take i) ++ [((js.getD i default).fA, (js.getD i default).fB), ((js.getD i default).fB, (js.getD i default).fA)] := by
 rw [fP default h]; unfold jM; rw [List.flatMap_append]; rfl
theorem uE {α : Type} [DecidableEq α] [Inhabited α] {q : List α} : u7 q = true ↔ q.Nodup := by
 have e : ∀ (i : Nat) (h : i < q.length), q.getD i default = q[i] := fun i h => by rw [List.getD_eq_getElem?_getD, List.getElem?_eq_getElem h]; rfl
 unfold u7 nuT List.Nodup
 rw [List.all_eq_true, List.pairwise_iff_getElem]
 constructor
 ·intro h i j hi hj hij
  have h2 := h j (List.mem_range.2 hj)
  rw [List.all_eq_true] at h2
  have h3 := of_decide_eq_true (h2 i (List.mem_range.2 hij))
  rw [e i hi, e j hj] at h3
  exact h3
 intro h i hi
 rw [List.all_eq_true]
 intro k hk
 have hi := List.mem_range.1 hi
 have hk := List.mem_range.1 hk
 refine decide_eq_true ?_
 rw [e i hi, e k (by omega)]
 exact h k i (by omega) hi hk
def tH (l : aC) : Int := if l.fJoints.all (uN l) = true then (if u7 (d4 l.fJoints) = true then 0 else 8) else 1
theorem aSt {l : aC} (h : l.fJoints.all (uN l) = false) : tH l = 1 := by unfold tH; rw [h, if_neg (by simp)]
theorem bHb {l : aC} (h : l.fJoints.all (uN l) = true) {i : Nat} (hi : i < l.fJoints.length) (hd : ¬ (d4 (l.fJoints.take (i + 1))).Nodup) : tH l = 8 := by
 unfold tH
 rw [if_pos h, if_neg]
 intro hn
 refine hd ?_
 have hn := uE.1 hn
 have : d4 l.fJoints = d4 (l.fJoints.take (i + 1)) ++ d4 (l.fJoints.drop (i + 1)) := by
  unfold d4; rw [← List.flatMap_append, List.take_append_drop]
 rw [this, List.nodup_append] at hn
 exact hn.1
theorem bRn {l : aC} (h : l.fJoints.all (uN l) = true) (hn : (d4 l.fJoints).Nodup) : tH l = 0 := by
 unfold tH; rw [if_pos h, if_pos (uE.2 hn)]
theorem uZ {l : aC} (hl : dX l) {e : cC} (h : n0 l e = true) : bEu e := by
 unfold n0 at h
 simp only [Bool.and_eq_true, decide_eq_true_eq] at h
 have h1 := hl.el
 have h2 := rO (d7 l e.fEl.toNat).fKind
 unfold bEu
 omega
theorem aQt {l : aC} (hl : dX l) (h : l.fJoints.all (uN l) = true) : ∀ p ∈ d4 l.fJoints, bEu p := fun p hp => by
 unfold d4 at hp
 obtain ⟨j, hj, hp⟩ := List.mem_flatMap.1 hp
 have := List.all_eq_true.1 h j hj
 unfold uN at this
 simp only [Bool.and_eq_true] at this
 simp only [List.mem_cons, List.not_mem_nil, or_false] at hp
 rcases hp with rfl | rfl
 ·exact uZ hl this.1
 exact uZ hl this.2.1
theorem uG {l : aC} (hl : dX l) (h : l.fJoints.all (uN l) = true) {i : Nat} : ∀ p ∈ jM (l.fJoints.take i), goodB Tryz.prog 49 (e9.val p.1) = true := fun p hp => by
 have hk : p.1 ∈ d4 (l.fJoints.take i) := by rw [← nD]; exact List.mem_map.2 ⟨p, hp, rfl⟩
 refine uR (aQt hl h _ ?_)
 unfold d4 at hk ⊢
 obtain ⟨j, hj, hk⟩ := List.mem_flatMap.1 hk
 exact List.mem_flatMap.2 ⟨j, List.mem_of_mem_take hj, hk⟩
section
variable {l : aC} {i : Nat} (hl : dX l) (h : l.fJoints.all (uN l) = true) (hi : i < l.fJoints.length)
include hl h hi
theorem aRs : uN l (l.fJoints.getD i default) = true := s7 h hi
theorem aSf : goodB Tryz.prog 49 (e9.val (l.fJoints.getD i default).fA) = true := by
 have := aRs hl h hi
 unfold uN at this
 simp only [Bool.and_eq_true] at this
 exact uR (uZ hl this.1)
theorem bGu : goodB Tryz.prog 49 (e9.val (l.fJoints.getD i default).fB) = true := by
 have := aRs hl h hi
 unfold uN at this
 simp only [Bool.and_eq_true] at this
 exact uR (uZ hl this.2.1)
theorem bFl : (l.fJoints.getD i default).fA ≠ (l.fJoints.getD i default).fB := by
 have := aRs hl h hi
 unfold uN at this
 simp only [Bool.and_eq_true, decide_eq_true_eq] at this
 exact this.2.2
end
theorem aFl {M : List (cC × cC)} {e : cC} : (f0 M e).isSome = true ↔ e ∈ M.map (·.1) := by
 rw [qQ, List.mem_map]
theorem aYd {l : aC} {i : Nat} (hi : i < l.fJoints.length) (h : (f0 (jM (l.fJoints.take i)) (l.fJoints.getD i default).fA).isSome = true ∨ (f0 (jM (l.fJoints.take i)) (l.fJoints.getD i default).fB).isSome = true) : ¬ (d4 (l.fJoints.take (i + 1))).Nodup := by
 intro hn
 rw [aFj hi, List.nodup_append] at hn
 rw [aFl, aFl, nD] at h
 rcases h with h | h
 ·exact hn.2.2 _ h _ (by simp) rfl
 exact hn.2.2 _ h _ (by simp) rfl
section
variable {l : aC} {i : Nat} (hi : i < l.fJoints.length) (hn : (d4 (l.fJoints.take i)).Nodup) (hA : (f0 (jM (l.fJoints.take i)) (l.fJoints.getD i default).fA).isSome = false) (hB : (f0 (jM (l.fJoints.take i)) (l.fJoints.getD i default).fB).isSome = false) (hne : (l.fJoints.getD i default).fA ≠ (l.fJoints.getD i default).fB)
include hi hn hA hB hne
theorem bHw : (d4 (l.fJoints.take (i + 1))).Nodup := by
 rw [← Bool.not_eq_true, aFl, nD] at hA hB
 rw [aFj hi, List.nodup_append]
 refine ⟨hn, by simpa using hne, fun a ha b hb e => ?_⟩
 subst e
 simp only [List.mem_cons, List.not_mem_nil, or_false] at hb
 rcases hb with rfl | rfl
 ·exact hA ha
 exact hB ha
theorem bLz : lB (lB (jM (l.fJoints.take i)) (l.fJoints.getD i default).fA (l.fJoints.getD i default).fB) (l.fJoints.getD i default).fB (l.fJoints.getD i default).fA = jM (l.fJoints.take (i + 1)) := by
 have h1 : ∀ p ∈ jM (l.fJoints.take i), p.1 ≠ (l.fJoints.getD i default).fA := fun p hp e => by
  have : (f0 (jM (l.fJoints.take i)) (l.fJoints.getD i default).fA).isSome = true := qQ.2 ⟨p, hp, e⟩
  rw [hA] at this; cases this
 have h2 : ∀ p ∈ jM (l.fJoints.take i), p.1 ≠ (l.fJoints.getD i default).fB := fun p hp e => by
  have : (f0 (jM (l.fJoints.take i)) (l.fJoints.getD i default).fB).isSome = true := qQ.2 ⟨p, hp, e⟩
  rw [hB] at this; cases this
 rw [nW h1, nW, bZs hi, List.append_assoc]
 ·rfl
 intro p hp
 rw [List.mem_append] at hp
 rcases hp with hp | hp
 ·exact h2 p hp
 simp only [List.mem_singleton] at hp; subst hp; exact hne
end
end Go.Sg
namespace Go.Sg
open Go.Proofs
open Go.Rv (goodB)
theorem aAh {P : Program} {ρ : aU} {fn : Func} {O : aU} {R : List Rg → aU → DV → Prop} {a b : ResultVar} {vs : List ResultVar} {rl : List DV} {rs : List Rg} (hf : fn.results.toList = a :: b :: vs) (h1 : hi ρ = bW O) (h : RO P ρ (a :: b :: vs) rl) (hR : R rs O (.tup rl)) : aDa P fn O R .ret rs ρ :=
 ⟨O, .tup rl, jS h1, fun _ => eK.refl _, fun _ h => h, by rw [hf]; cases a <;> exact ⟨rl, rfl, h.len, h.get⟩, rfl, hR⟩
theorem aFa {P : Program} {ρ : aU} {fn : Func} {O : aU} {R : List Rg → aU → DV → Prop} {r : DV} {rs : List Rg} (t : Nat) (hf : fn.results = #[.tmp t]) (h1 : hi ρ = bW O) (h : ρ t = r) (hp : gQ r = true) (hs : sh r = r) (hR : R rs O r) : aDa P fn O R .ret rs ρ :=
 ⟨O, r, jS h1, fun _ => eK.refl _, fun _ h => h, by rw [hf]; exact cP.is h hp hs, (by cases r <;> first | rfl | cases hp), hR⟩
def JoR (O : aU) (l : aC) (rs : List Rg) (O' : aU) (r : DV) : Prop := O' = O ∧ ∃ og, r = .tup [.v (.map og), vi (tH l)] ∧ (tH l = 0 → ∃ g c, og = some g ∧ rs = [.map g c (esT e9 e9 (jM l.fJoints))])
attribute [go_sem] aTb
theorem aUg {l : aC} {j : gG} (h : (n0 l j.fA = false ∨ n0 l j.fB = false) ∨ j.fA.fEl = j.fB.fEl ∧ j.fA.fSide = j.fB.fSide) : uN l j = false := by
 unfold uN
 rcases h with (h | h) | h
 ·rw [h]; rfl
 ·rw [h]; simp
 rw [(d6 j.fA j.fB).2 h]; simp
theorem bHc {l : aC} {j : gG} (h : (n0 l j.fA = true ∧ n0 l j.fB = true) ∧ (¬ j.fA.fEl = j.fB.fEl ∨ ¬ j.fA.fSide = j.fB.fSide)) : uN l j = true := by
 unfold uN
 have hne : j.fA ≠ j.fB := fun e => by rw [d6] at e; omega
 rw [h.1.1, h.1.2]; simp [hne]
theorem aTt {α β : Type} [DecidableEq α] {p : α → Prop} {M : List (α × β)} {a : α} {b : β} (h : ∀ x ∈ M, p x.1) (ha : p a) : ∀ x ∈ lB M a b, p x.1 := by
 induction M with
 | nil => intro x hx; simp only [lB, List.mem_singleton] at hx; subst hx; exact ha
 | cons q M ih =>
  intro x hx
  unfold lB at hx
  split at hx
  ·rcases List.mem_cons.1 hx with rfl | hx
   ·exact ha
   exact h x (by simp [hx])
  rcases List.mem_cons.1 hx with rfl | hx
  ·exact h x (by simp)
  exact ih (fun y hy => h y (by simp [hy])) x hx
set_option maxRecDepth 20000 in
set_option maxHeartbeats 4000000 in
theorem tE (O : aU) (l : aC) (hl : dX l) : rB Tryz.prog O 115 [.agg (aI l)] [] (JoR O l) := by
 have hl1 := hl.sec
 have hl2 := hl.el
 have hl3 := hl.jo
 have hl4 := hl.sg
 have hl5 := hl.bl
 obtain ⟨i9, hi9, hz9⟩ := aXo
 refine j6 Tryz.func115 rfl (by kernel_rfl) fun w0 I0 A0 => ?_
 have hF := jN w0 I0 (b8 A0) (xG [])
 refine a8 hF [0] ?_
 refine aN fun K1 hK1 => ?_
 refine a8 hF [1] ?_
 refine bI ?_
 refine dB [1, 14, 15, 16] (fun n sF ρ => ∃ i, n = l.fJoints.length - i ∧ sF = [] ∧ (i ≤ l.fJoints.length) ∧ (gU (uN l) l.fJoints i) ∧ ρ = cU O [(1, .bx (aI l)), (14, aGd l.fJoints), (15, vi (l.fJoints.length : Nat)), (16, vi (i : Nat))]) _ ⟨0, rfl, rfl, ?_, ?_, ?_⟩ ?_
 ·exact bD
 ·exact fH _ _
 ·exact cD
 rintro n sF ρ ⟨i, rfl, rfl, l0_0, l0_1, rfl⟩ K3 hK3
 refine a8 hF [1, 13, 14, 15, 16] ?_
 refine aN fun K5 hK5 => ?_
 refine bU (fun c0 => ?_) fun c0 => ?_
 ·refine bG ?_
  refine hK5 _ _ ?_; clear hK5
  refine aN fun K6 hK6 => ?_
  refine bI ?_
  refine a8 hF [1, 13, 14, 15, 16] ?_
  refine aN fun K8 hK8 => ?_
  refine dW hF [1, 5, 13, 14, 15, 16] ?_
  refine dM (kO _ l (l.fJoints.getD i default).fA hl) ?_
  refine lY (fun g0 => kO _ l (l.fJoints.getD i default).fB hl) ?_
  refine hK8 _ _ ?_; clear hK8
  refine bU (fun c1 => ?_) fun c1 => ?_
  ·refine a8 hF [] ?_
   refine cL ?_
   exact aAh rfl (by simp (disch := omega) only [go_sem, seval, seval]) (.cons (gZ rfl rfl rfl) (.cons (gZ rfl rfl rfl) .nil)) ⟨rfl, none, congrArg (fun x => DV.tup [DV.v (.map none), vi x]) (aSt (kA (f := uN l) c0 (aUg c1))).symm, fun h => by rw [aSt (kA (f := uN l) c0 (aUg c1))] at h; cases h⟩
  refine bG ?_
  refine hK6 _ _ ?_; clear hK6
  refine cH hF [1, 13, 14, 15, 16] ?_
  refine hK3 _ _ _ ?_ ⟨i + 1, rfl, rfl, ?_, ?_, ?_⟩
  ·exact bD
  ·exact bD
  ·exact fI l0_1 (bHc c1)
  exact cD
 refine dD ?_
 refine hK1 _ _ ?_; clear hK1
 refine a8 hF [1] ?_
 refine aN fun K11 hK11 => ?_
 refine a8 hF [1, 6] ?_
 refine bI ?_
 have hjo : l.fJoints.all (uN l) = true := kJ l0_1 c0
 refine dB [1, 6, 42, 43, 44] (fun n sF ρ => ∃ i, n = l.fJoints.length - i ∧ sF = [] ∧ (i ≤ l.fJoints.length) ∧ ((d4 (l.fJoints.take i)).Nodup) ∧ ρ = cU O [(1, .bx (aI l)), (6, .mo (esT e9 e9 (jM (l.fJoints.take i)))), (42, aGd l.fJoints), (43, vi (l.fJoints.length : Nat)), (44, vi (i : Nat))]) _ ⟨0, rfl, rfl, ?_, ?_, ?_⟩ ?_
 ·exact bD
 ·exact List.nodup_nil
 ·exact cD
 rintro n sF ρ ⟨i, rfl, rfl, l1_0, l1_1, rfl⟩ K13 hK13
 refine a8 hF [1, 6, 41, 42, 43, 44] ?_
 refine aN fun K15 hK15 => ?_
 refine bU (fun c2 => ?_) fun c2 => ?_
 ·refine bG ?_
  refine hK15 _ _ ?_; clear hK15
  refine aN fun K16 hK16 => ?_
  refine bI ?_
  refine a8 hF [1, 6, 41, 42, 43, 44] ?_
  refine aN fun K18 hK18 => ?_
  refine bH (Le.keepC [1, 6, 8, 41, 42, 43, 44] _) ?_
  refine bM ?_
  refine ef hF ?_
  refine ef hF ?_
  refine ef hF ?_
  show fV _ _ _ _ _ _ _ _
  refine dY hF ?_
  refine mE e9 e9 (s := 6) (M := jM (l.fJoints.take i)) (a := (l.fJoints.getD i default).fA) (zb := E0) (ok := true) rfl rfl (by kernel_rfl) (by kernel_rfl) (by simp (disch := omega) only [go_sem, seval] <;> rfl) (by simp (disch := omega) only [go_sem, seval] <;> rfl) (by simp (disch := omega) only [go_sem, seval] <;> rfl) trivial rfl (by kernel_rfl) hi9 hz9 (aSf hl hjo c2) (uG hl hjo) (by rw [nD]; exact l1_1) ?_
  simp (disch := omega) only [go_sem, seval]
  refine ef hF ?_
  refine ef hF ?_
  refine ef hF ?_
  refine ef hF ?_
  refine ef hF ?_
  refine ef hF ?_
  refine hK18 _ _ ?_; clear hK18
  refine aN fun K19 hK19 => ?_
  refine bH (Le.keepC [1, 6, 8, 10, 41, 42, 43, 44] _) ?_
  refine bM ?_
  refine ef hF ?_
  refine ef hF ?_
  refine ef hF ?_
  show fV _ _ _ _ _ _ _ _
  refine dY hF ?_
  refine mE e9 e9 (s := 6) (M := jM (l.fJoints.take i)) (a := (l.fJoints.getD i default).fB) (zb := E0) (ok := true) rfl rfl (by kernel_rfl) (by kernel_rfl) (by simp (disch := omega) only [go_sem, seval] <;> rfl) (by simp (disch := omega) only [go_sem, seval] <;> rfl) (by simp (disch := omega) only [go_sem, seval] <;> rfl) trivial rfl (by kernel_rfl) hi9 hz9 (bGu hl hjo c2) (uG hl hjo) (by rw [nD]; exact l1_1) ?_
  simp (disch := omega) only [go_sem, seval]
  refine ef hF ?_
  refine ef hF ?_
  refine ef hF ?_
  refine ef hF ?_
  refine ef hF ?_
  refine ef hF ?_
  refine hK19 _ _ ?_; clear hK19
  refine aN fun K20 hK20 => ?_
  refine a8 hF [1, 6, 8, 10, 12, 41, 42, 43, 44] ?_
  refine bU (fun c3 => ?_) fun c3 => ?_
  ·refine a8 hF [] ?_
   refine cL ?_
   exact aAh rfl (by simp (disch := omega) only [go_sem, seval, seval]) (.cons (gZ rfl rfl rfl) (.cons (gZ rfl rfl rfl) .nil)) ⟨rfl, none, congrArg (fun x => DV.tup [DV.v (.map none), vi x]) (bHb hjo c2 (aYd c2 c3)).symm, fun h => by rw [bHb hjo c2 (aYd c2 c3)] at h; cases h⟩
  refine bG ?_
  refine hK20 _ _ ?_; clear hK20
  have hc3 := c3
  have hg1 : ∀ p ∈ lB (jM (l.fJoints.take i)) (l.fJoints.getD i default).fA (l.fJoints.getD i default).fB, goodB Tryz.prog 49 (e9.val p.1) = true := aTt (p := fun a => goodB Tryz.prog 49 (e9.val a) = true) (uG hl hjo) (aSf hl hjo c2)
  skip
  refine l4 12 [1, 6, 8, 41, 42, 43, 44] [1, 8, 42, 43, 44, 66, 67, 68, 69, 70, 71, 72, 73, 74, 75, 6] [[], [], [1], [], [], [4], [], [6], [], [8], [0, 1, 2, 6, 7], [0, 1, 2, 3, 4, 5, 6, 7, 8, 9, 10]] [[10, 11], [10, 11], [10, 11], [11], [11], [11], [10, 11], [10, 11], [11], [11], [11], []] (fun (_ : Unit) bQ => cU O [(1, .bx (aI l)), (8, .bx (sK (l.fJoints.getD i default))), (42, aGd l.fJoints), (43, vi (l.fJoints.length : Nat)), (44, vi (i : Nat)), (66, aV (bQ 0) (.mr 6)), (67, aV (bQ 1) (.bp 8 0)), (68, aV (bQ 2) (.agg (bO (l.fJoints.getD i default).fA))), (69, aV (bQ 3) (.mr 6)), (70, aV (bQ 4) (.bp 8 2)), (71, aV (bQ 5) (.agg (bO (l.fJoints.getD i default).fB))), (72, aV (bQ 6) (.bp 8 2)), (73, aV (bQ 7) (.agg (bO (l.fJoints.getD i default).fB))), (74, aV (bQ 8) (.bp 8 0)), (75, aV (bQ 9) (.agg (bO (l.fJoints.getD i default).fA))), (6, .mo (esT e9 e9 ((cond (bQ 11) (lB (lB (jM (l.fJoints.take i)) (l.fJoints.getD i default).fA (l.fJoints.getD i default).fB) (l.fJoints.getD i default).fB (l.fJoints.getD i default).fA) (cond (bQ 10) (lB (jM (l.fJoints.take i)) (l.fJoints.getD i default).fA (l.fJoints.getD i default).fB) (jM (l.fJoints.take i)))))))]) (fun (_ : Unit) bQ => []) () hF (fun iQ hiQ oQ hoQ gg bQ hbQ KQ hKQ => ?_) (fun gg => ?_)
  ·match iQ, hiQ with
   | 0, _ | 1, _ | 2, _ | 3, _ | 4, _ | 5, _ | 6, _ | 7, _ | 8, _ | 9, _ =>
    exact mfp hF hoQ hbQ (hKQ ())
   | 10, _ =>
    obtain rfl := Option.some.inj hoQ
    simp only [oS, hD, iB, List.getD_cons_succ, List.getD_cons_zero, List.getD_nil, and_true, true_and] at hbQ
    show fV _ _ _ _ _ _ _ _
    refine dY hF ?_
    refine t1 e9 e9 (kt := 49) (e := 49) (s := 6) (M := jM (l.fJoints.take i)) (a := (l.fJoints.getD i default).fA) (b := (l.fJoints.getD i default).fB) (.inl rfl) rfl rfl (by kernel_rfl) (by simp (disch := omega) only [go_sem, seval, hbQ] <;> rfl) (by simp (disch := omega) only [go_sem, seval, hbQ] <;> rfl) (by simp (disch := omega) only [go_sem, seval, hbQ] <;> rfl) trivial rfl (by simp (disch := omega) only [go_sem, seval, hbQ] <;> rfl) trivial rfl (by kernel_rfl) (aSf hl hjo c2) (uG hl hjo) (by rw [nD]; exact l1_1) ?_
    simp (disch := omega) only [go_sem, seval, hbQ]
    refine hKQ () _ _ ?_ ?_
    ·first | rfl | (simp (disch := omega) only [go_sem, seval, hbQ]; done) | (simp (disch := omega) only [go_sem, seval, hbQ] <;> rfl)
    simp (disch := omega) only [go_sem, seval, hbQ] <;> first | rfl | simp
   | 11, _ =>
    obtain rfl := Option.some.inj hoQ
    simp only [oS, hD, iB, List.getD_cons_succ, List.getD_cons_zero, List.getD_nil, and_true, true_and] at hbQ
    show fV _ _ _ _ _ _ _ _
    refine dY hF ?_
    refine t1 e9 e9 (kt := 49) (e := 49) (s := 6) (M := lB (jM (l.fJoints.take i)) (l.fJoints.getD i default).fA (l.fJoints.getD i default).fB) (a := (l.fJoints.getD i default).fB) (b := (l.fJoints.getD i default).fA) (.inl rfl) rfl rfl (by kernel_rfl) (by simp (disch := omega) only [go_sem, seval, hbQ] <;> rfl) (by simp (disch := omega) only [go_sem, seval, hbQ] <;> rfl) (by simp (disch := omega) only [go_sem, seval, hbQ] <;> rfl) trivial rfl (by simp (disch := omega) only [go_sem, seval, hbQ] <;> rfl) trivial rfl (by kernel_rfl) (bGu hl hjo c2) hg1 (wJ (by rw [nD]; exact l1_1)) ?_
    simp (disch := omega) only [go_sem, seval, hbQ]
    refine hKQ () _ _ ?_ ?_
    ·first | rfl | (simp (disch := omega) only [go_sem, seval, hbQ]; done) | (simp (disch := omega) only [go_sem, seval, hbQ] <;> rfl)
    simp (disch := omega) only [go_sem, seval, hbQ] <;> first | rfl | simp
  refine lZ ?_
  refine hK16 _ _ ?_; clear hK16
  refine cH hF [1, 6, 41, 42, 43, 44] ?_
  refine hK13 _ _ _ ?_ ⟨i + 1, rfl, rfl, ?_, ?_, ?_⟩
  ·exact bD
  ·exact bD
  ·exact bHw c2 l1_1 c3.1 c3.2 (bFl hl hjo c2)
  simp (disch := omega) only [go_sem, seval] <;> (rw [bLz c2 l1_1 c3.1 c3.2 (bFl hl hjo c2)]; rfl)
 refine dD ?_
 refine hK11 _ _ ?_; clear hK11
 refine aN fun K23 hK23 => ?_
 have hie : i = l.fJoints.length := by omega
 rw [hie, List.take_length] at l1_1
 rw [hie, List.take_length]
 refine aPu (s1 := []) (s2 := []) 6 (by decide) (by simp (disch := omega) only [go_sem, seval, seval] <;> rfl) rfl (fun g0 k0 => ?_)
 refine cH hF [6] ?_
 refine hK23 _ _ ?_; clear hK23
 refine cL ?_
 exact aAh rfl (by simp (disch := omega) only [go_sem, seval, seval]) (.cons (gZ rfl rfl rfl) (.cons (gZ rfl rfl rfl) .nil)) ⟨rfl, some g0, congrArg (fun x => DV.tup [DV.v (.map (some g0)), vi x]) (bRn hjo l1_1).symm, fun _ => ⟨g0, k0, rfl, rfl⟩⟩
end Go.Sg
namespace Go.Sg
open Go.Proofs
open Go.Rv (goodB)
theorem aCy (js : List gG) (e : cC) : f0 (jM js) e = if (d8 js e).2 = true then some (d8 js e).1 else none := by
 unfold jM
 induction js with
 | nil => rfl
 | cons j js ih =>
  rw [List.flatMap_cons, List.cons_append, List.cons_append, List.nil_append]
  unfold f0 f0 d8
  split
  ·rfl
  split
  ·rfl
  exact ih
theorem aPm (js : List gG) (e : cC) : (f0 (jM js) e).isSome = (d8 js e).2 := by
 rw [aCy]; split
 ·rename_i h; rw [h]; rfl
 rename_i h; rw [Bool.not_eq_true] at h; rw [h]; rfl
theorem aKm {js : List gG} {e : cC} (h : (d8 js e).2 = false) : (d8 js e).1 = E0 := by
 induction js with
 | nil => rfl
 | cons j js ih =>
  unfold d8 at h ⊢
  split
  ·rename_i g; rw [if_pos g] at h; cases h
  rename_i g
  rw [if_neg g] at h
  split
  ·rename_i g2; rw [if_pos g2] at h; cases h
  rename_i g2; rw [if_neg g2] at h; exact ih h
theorem aSd (js : List gG) (e : cC) : (f0 (jM js) e).getD E0 = (d8 js e).1 := by
 rw [aCy]; split
 ·rfl
 rename_i h; rw [Bool.not_eq_true] at h; exact (aKm h).symm
def lU (l : aC) (s : hM) : Bool := n0 l s.fAt && tG s.fOverlap 0 1000000
def aBe (l : aC) (s : hM) : Bool := (aD l s.fAt).2 && decide (bY l (aD l s.fAt).1.fEl ≠ bY l s.fAt.fEl)
def mN (l : aC) : List cC := l.fSignals.map (·.fAt)
def sdB (l : aC) : Bool := (List.range l.fSignals.length).all fun i => decide (iP l (l.fSignals.getD i default).fAt = (i : Int))
def sgI (l : aC) : Int := if l.fSignals.all (lU l) = true then (if sdB l = true then (if l.fSignals.all (aBe l) = true then 0 else 14) else 8) else 1
theorem bGo {l : aC} (h : l.fSignals.all (lU l) = false) : sgI l = 1 := by unfold sgI; rw [h, if_neg (by simp)]
theorem bGk {l : aC} (h : l.fSignals.all (lU l) = true) (h2 : sdB l = false) : sgI l = 8 := by unfold sgI; rw [if_pos h, h2, if_neg (by simp)]
theorem aWj {l : aC} (h : l.fSignals.all (lU l) = true) (h2 : sdB l = true) (h3 : l.fSignals.all (aBe l) = false) : sgI l = 14 := by unfold sgI; rw [if_pos h, if_pos h2, h3, if_neg (by simp)]
theorem bGf {l : aC} (h : l.fSignals.all (lU l) = true) (h2 : sdB l = true) (h3 : l.fSignals.all (aBe l) = true) : sgI l = 0 := by unfold sgI; rw [if_pos h, if_pos h2, if_pos h3]
def rW (l : aC) (b : mR) : Bool := tG b.fId 1 1073741824 && (tG b.fEl 0 (l.fElements.length - 1 : Int) && tG b.fOffset 0 (d7 l b.fEl.toNat).fLength)
def pM (l : aC) : List Int := l.fBalises.map (·.fId)
theorem oT (l : aC) : (pM l).length = l.fBalises.length := by unfold pM; simp
theorem zX {l : aC} {i : Nat} (h : i < l.fBalises.length) : (pM l).getD i default = (l.fBalises.getD i default).fId := by
 unfold pM
 rw [List.getD_eq_getElem?_getD, List.getD_eq_getElem?_getD, List.getElem?_map, List.getElem?_eq_getElem h]; rfl
def blI (l : aC) : Int := if l.fBalises.all (rW l) = true then (if u7 (pM l) = true then 0 else 8) else 1
theorem bGm {l : aC} (h : l.fBalises.all (rW l) = false) : blI l = 1 := by unfold blI; rw [h, if_neg (by simp)]
theorem bGw {l : aC} (h : l.fBalises.all (rW l) = true) (h2 : u7 (pM l) = false) : blI l = 8 := by unfold blI; rw [if_pos h, h2, if_neg (by simp)]
theorem bGx {l : aC} (h : l.fBalises.all (rW l) = true) (h2 : u7 (pM l) = true) : blI l = 0 := by unfold blI; rw [if_pos h, if_pos h2]
theorem aYf {l : aC} {b : mR} (h : ((!tG b.fId 1 1073741824) || (!tG b.fEl 0 (l.fElements.length - 1 : Int)) || (!tG b.fOffset 0 (d7 l b.fEl.toNat).fLength)) = true) : rW l b = false := by
 unfold rW; simp only [Bool.or_eq_true, Bool.not_eq_true'] at h
 rcases h with (h | h) | h
 ·rw [h]; rfl
 ·rw [h]; simp
 rw [h]; simp
theorem aWf {l : aC} {b : mR} (h : ((!tG b.fId 1 1073741824) || (!tG b.fEl 0 (l.fElements.length - 1 : Int)) || (!tG b.fOffset 0 (d7 l b.fEl.toNat).fLength)) = false) : rW l b = true := by
 unfold rW; simp only [Bool.or_eq_false_iff, Bool.not_eq_false'] at h
 rw [h.1.1, h.1.2, h.2]; rfl
theorem lC (n : Int) : goodB Tryz.prog 3 (nE.val n) = true := by
 have u3 : Tryz.prog.underlying 3 = some (.int .i64) := by kernel_rfl
 unfold goodB; rw [u3]; rfl
theorem nY (s : ByteArray) : goodB Tryz.prog 9 (zI.val s) = true := by
 have u9 : Tryz.prog.underlying 9 = some .string := by kernel_rfl
 unfold goodB; rw [u9]; rfl
theorem bFv : ∃ i, Tryz.prog.info? 4 = some i ∧ i.zero = some (qJ.val false) := by
 obtain ⟨i, hi⟩ : ∃ i, Tryz.prog.info? 4 = some i := Option.isSome_iff_exists.1 (by kernel_rfl)
 have : ((Tryz.prog.info? 4).bind (·.zero)) = some (.bool false) := by kernel_rfl
 rw [hi] at this
 exact ⟨i, hi, this⟩
theorem aVm (n : Int) : nE.dv n = vi n := rfl
theorem aPn (b : Bool) : qJ.dv b = vb b := rfl
theorem aVp (s : ByteArray) : zI.dv s = vs s := rfl
attribute [go_sem] aVm aPn aVp
def t8 {α : Type} (q : List α) (i : Nat) : List (α × Bool) := (q.take i).map fun x => (x, true)
section
variable {α : Type} [DecidableEq α] [Inhabited α] {q : List α} {i : Nat}
theorem wB (q : List α) (i : Nat) : (t8 q i).map (·.1) = q.take i := by unfold t8; rw [List.map_map]; exact List.map_id _
theorem y4 (a : α) : (f0 (t8 q i) a).getD false = true ↔ a ∈ q.take i := by
 unfold t8
 induction q.take i with
 | nil => simp [f0]
 | cons x l ih =>
  rw [List.map_cons]
  unfold f0
  by_cases h : x = a
  ·subst h; simp
  rw [if_neg h, ih]; simp [Ne.symm h]
theorem bIa (hi : i < q.length) (hn : (f0 (t8 q i) (q.getD i default)).getD false = false) : lB (t8 q i) (q.getD i default) true = t8 q (i + 1) := by
 have h : ∀ p ∈ t8 q i, p.1 ≠ q.getD i default := fun p hp e => by
  have : q.getD i default ∈ q.take i := by rw [← wB q i, ← e]; exact List.mem_map.2 ⟨p, hp, rfl⟩
  rw [(y4 _).2 this] at hn
  cases hn
 rw [nW h]
 unfold t8
 rw [fP default hi, List.map_append]
 rfl
theorem aRp (hi : i < q.length) (hd : (q.take i).Nodup) (hn : (f0 (t8 q i) (q.getD i default)).getD false = false) : (q.take (i + 1)).Nodup := by
 rw [fP default hi, List.nodup_append]
 refine ⟨hd, by simp, fun a ha b hb e => ?_⟩
 simp only [List.mem_singleton] at hb
 subst e; subst hb
 rw [(y4 _).2 ha] at hn
 cases hn
theorem aUj (hi : i < q.length) (h : (f0 (t8 q i) (q.getD i default)).getD false = true) : u7 q = false := by
 rw [← Bool.not_eq_true, uE]
 intro hn
 have := (y4 _).1 h
 rw [← List.take_append_drop (i + 1) q, List.nodup_append, fP default hi, List.nodup_append] at hn
 exact hn.1.2.2 _ this _ (by simp) rfl
end
set_option maxRecDepth 20000 in
theorem oR (O : aU) (l : aC) (hl : dX l) : aW Tryz.prog O 117 [.agg (aI l)] (vi (blI l)) := by
 have hl1 := hl.sec
 have hl2 := hl.el
 have hl3 := hl.jo
 have hl4 := hl.sg
 have hl5 := hl.bl
 obtain ⟨i4, hi4, hz4⟩ := bFv
 refine aO 0 rfl (.agg (d := wL l.fBalises) (by simp [aI]) (.sl _ _ _)) fun hb => ?_
 refine aO 0 rfl (.agg (d := f5 l.fElements) (by simp [aI]) (.sl _ _ _)) fun he => ?_
 refine dT Tryz.func117 ?_
 refine aB [0] ?_
 refine aA fun K1 hK1 => ?_
 refine aB [1] ?_
 refine aK ?_
 refine aX [1, 9, 10, 11] (fun n ρ => ∃ i, n = l.fBalises.length - i ∧ (i ≤ l.fBalises.length) ∧ (gU (rW l) l.fBalises i) ∧ ρ = cU O [(1, .bx (aI l)), (9, wL l.fBalises), (10, vi (l.fBalises.length : Nat)), (11, vi (i : Nat))]) _ ⟨0, rfl, ?_, ?_, ?_⟩ ?_
 ·exact bD
 ·exact fH _ _
 ·exact cD
 rintro n ρ ⟨i, rfl, l0_0, l0_1, rfl⟩ K3 hK3
 refine aB [1, 8, 9, 10, 11] ?_
 refine aA fun K5 hK5 => ?_
 refine aS (fun c0 => ?_) fun c0 => ?_
 ·refine aJ ?_
  refine hK5 _ ?_; clear hK5
  refine aA fun K6 hK6 => ?_
  refine aK ?_
  refine aB [1, 8, 9, 10, 11] ?_
  refine aA fun K8 hK8 => ?_
  refine eE [1, 4, 8, 9, 10, 11] [] fK (by kernel_rfl) ?_
  simp (disch := omega) only [go_sem, seval]
  repeat refine And.intro (by first | (intro h; exact ⟨h, by simp only [Bool.not_eq_true', Bool.or_eq_false_iff, Bool.not_eq_false', tG, decide_eq_true_eq] at h; omega⟩) | exact bS) ?_
  refine dR (bZ _ (l.fBalises.getD i default).fId 1 1073741824) ?_ ?_
  ·rfl
  try simp (disch := omega) only [go_sem, seval]
  repeat refine And.intro (by first | (intro h; exact ⟨h, by simp only [Bool.not_eq_true', Bool.or_eq_false_iff, Bool.not_eq_false', tG, decide_eq_true_eq] at h; omega⟩) | exact bS) ?_
  refine jZ (fun g0 => bZ _ (l.fBalises.getD i default).fEl 0 (l.fElements.length - 1 : Int)) ?_ ?_ ?_
  ·first | exact fun _ => trivial | simp
  ·rfl
  try simp (disch := omega) only [go_sem, seval]
  repeat refine And.intro (by first | (intro h; exact ⟨h, by simp only [Bool.not_eq_true', Bool.or_eq_false_iff, Bool.not_eq_false', tG, decide_eq_true_eq] at h; omega⟩) | exact bS) ?_
  refine jZ (fun g1 => bZ _ (l.fBalises.getD i default).fOffset 0 (d7 l (l.fBalises.getD i default).fEl.toNat).fLength) ?_ ?_ ?_
  ·first | exact fun _ => trivial | simp
  ·rfl
  try simp (disch := omega) only [go_sem, seval]
  repeat refine And.intro (by first | (intro h; exact ⟨h, by simp only [Bool.not_eq_true', Bool.or_eq_false_iff, Bool.not_eq_false', tG, decide_eq_true_eq] at h; omega⟩) | exact bS) ?_
  refine hK8 _ ?_; clear hK8
  refine aS (fun c1 => ?_) fun c1 => ?_
  ·refine aB [] ?_
   refine aL ?_
   refine b6 2 ?_
   exact cP.is (by simp (disch := omega) only [go_sem, seval] <;> ((exact congrArg vi (bGm (kA (f := rW l) c0 (aYf (by simpa using c1)))).symm))) rfl rfl
  refine aJ ?_
  refine hK6 _ ?_; clear hK6
  refine bC [1, 8, 9, 10, 11] ?_
  refine hK3 _ _ ?_ ⟨i + 1, rfl, ?_, ?_, ?_⟩
  ·exact bD
  ·exact bD
  ·exact fI l0_1 (aWf (by simpa using c1))
  exact cD
 refine bA ?_
 refine hK1 _ ?_; clear hK1
 refine aB [1] ?_
 refine aA fun K11 hK11 => ?_
 refine aB [1, 5] ?_
 refine aK ?_
 have hall : l.fBalises.all (rW l) = true := kJ l0_1 c0
 refine aX [1, 5, 45, 46, 47] (fun n ρ => ∃ i, n = l.fBalises.length - i ∧ (i ≤ l.fBalises.length) ∧ (((pM l).take i).Nodup) ∧ ρ = cU O [(1, .bx (aI l)), (5, .mo (esT nE qJ (t8 (pM l) i))), (45, wL l.fBalises), (46, vi (l.fBalises.length : Nat)), (47, vi (i : Nat))]) _ ⟨0, rfl, ?_, ?_, ?_⟩ ?_
 ·exact bD
 ·exact List.nodup_nil
 ·exact cD
 rintro n ρ ⟨i, rfl, l1_0, l1_1, rfl⟩ K13 hK13
 refine aB [1, 5, 44, 45, 46, 47] ?_
 refine aA fun K15 hK15 => ?_
 refine aS (fun c2 => ?_) fun c2 => ?_
 ·refine aJ ?_
  refine hK15 _ ?_; clear hK15
  refine aA fun K16 hK16 => ?_
  refine aK ?_
  refine aB [1, 5, 44, 45, 46, 47] ?_
  refine aA fun K18 hK18 => ?_
  refine aA fun K19 hK19 => ?_
  refine cQ (Le.keepC [1, 5, 7, 44, 45, 46, 47] _) ?_
  refine f8 ?_
  refine ez ?_
  refine ez ?_
  refine ez ?_
  show OW _ _ _ _ _ _
  refine mE nE qJ (s := 5) (M := t8 (pM l) i) (a := (l.fBalises.getD i default).fId) (zb := false) (ok := false) rfl rfl (by kernel_rfl) (by kernel_rfl) (by simp (disch := omega) only [go_sem, seval] <;> rfl) (by simp (disch := omega) only [go_sem, seval] <;> rfl) (by simp (disch := omega) only [go_sem, seval] <;> rfl) trivial rfl (by kernel_rfl) hi4 hz4 (lC _) (fun p _ => lC p.1) (by rw [wB]; exact l1_1) ?_
  refine lZ ?_
  refine hK19 _ ?_; clear hK19
  refine aS (fun c3 => ?_) fun c3 => ?_
  ·refine aB [] ?_
   refine aL ?_
   refine b6 2 ?_
   exact cP.is (by simp (disch := omega) only [go_sem, seval] <;> ((exact congrArg vi (bGw hall (aUj (i := i) (by rw [oT]; exact c2) (by rw [zX c2]; exact c3))).symm))) rfl rfl
  refine aJ ?_
  refine hK18 _ ?_; clear hK18
  refine cQ (Le.keepC [1, 5, 7, 44, 45, 46, 47] _) ?_
  refine f8 ?_
  refine ez ?_
  refine ez ?_
  refine ez ?_
  show OW _ _ _ _ _ _
  refine t1 nE qJ (kt := 3) (e := 4) (s := 5) (M := t8 (pM l) i) (a := (l.fBalises.getD i default).fId) (b := true) (.inl rfl) rfl rfl (by kernel_rfl) (by simp (disch := omega) only [go_sem, seval] <;> rfl) (by simp (disch := omega) only [go_sem, seval] <;> rfl) (by simp (disch := omega) only [go_sem, seval] <;> rfl) trivial rfl (by simp (disch := omega) only [go_sem, seval] <;> rfl) trivial rfl (by kernel_rfl) (lC _) (fun p _ => lC p.1) (by rw [wB]; exact l1_1) ?_
  refine lZ ?_
  refine hK16 _ ?_; clear hK16
  refine bC [1, 5, 44, 45, 46, 47] ?_
  refine hK13 _ _ ?_ ⟨i + 1, rfl, ?_, ?_, ?_⟩
  ·exact bD
  ·exact bD
  ·exact aRp (by rw [oT]; exact c2) l1_1 (by rw [zX c2]; exact c3)
  rw [← zX c2, bIa (by rw [oT]; exact c2) (by rw [zX c2]; exact c3)]; simp (disch := omega) only [go_sem, seval, seval]; rfl
 refine bA ?_
 refine hK11 _ ?_; clear hK11
 refine aB [] ?_
 refine aL ?_
 refine b6 2 ?_
 exact cP.is (by simp (disch := omega) only [go_sem, seval] <;> ((exact congrArg vi (bGx hall (uE.2 (by rw [List.take_of_length_le (by rw [oT]; exact c2)] at l1_1; exact l1_1))).symm))) rfl rfl
end Go.Sg
