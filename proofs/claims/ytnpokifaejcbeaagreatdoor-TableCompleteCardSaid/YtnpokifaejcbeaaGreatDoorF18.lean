/- Several texts as one. -/
import Derived.Test.YtnpokifaejcbeaaGreatDoorF17
set_option linter.unusedSectionVars false
set_option linter.unusedVariables false
set_option linter.unusedSimpArgs false
set_option maxRecDepth 20000
namespace Go.Sg
open Go.Proofs
abbrev aPf (h : Hd) (L : List (List DV)) : Rg := .row h 42 1 L
theorem bSk {l : aB} {a : cG} {j : Nat} (hj : j < (cQ l a).length) : ((cQ l a).take (j + 1)).map (fun s => zV [s]) = ((cQ l a).take j).map (fun s => zV [s]) ++ [zV [(cQ l a).getD j default]] := by
 rw [fV default hj, List.map_append]; rfl
theorem bQu {l : aB} {a : cG} {j : Nat} (hj : (cQ l a).length ≤ j) : ((cQ l a).take j).map (fun s => zV [s]) = (beg l a).map zV := by
 rw [List.take_of_length_le hj, beg, List.map_map]; rfl
theorem aZl {l : aB} {a : cG} : ∀ q ∈ beg l a, 0 < q.length ∧ q.length ≤ 12 := fun q hq => by
 obtain ⟨s, hs, rfl⟩ := List.mem_map.1 hq; simp
theorem bBx {l : aB} {q p : List aW} (h : p ∈ uL l q) : 0 < p.length := by
 obtain ⟨s, _, rfl⟩ := List.mem_map.1 (List.mem_filter.1 h).1; simp
theorem bDi (l : aB) (a : cG) : jP (beg l a) ≤ 400000 := by
 have h1 := oF l a
 have key : ∀ L : List aW, jP (L.map fun s => [s]) = L.length * 177147 := by
  intro L
  induction L with
  | nil => rfl
  | cons s L ih => rw [List.map_cons, dZ, ih, List.length_cons, Nat.succ_mul]; show 3 ^ 11 + _ = _; omega
 show jP ((cQ l a).map fun s => [s]) ≤ _
 rw [key]
 omega
section
attribute [local go_sem] List.drop_zero hM iB iG fO kU kV kR kY kS kZ iR i6 iW fS lP lR lS lJ lQ lK lW lL lU lV iP iS iT iX List.length_map
set_option maxRecDepth 20000 in
set_option maxHeartbeats 16000000 in
theorem aAr (O : aS) (l : aB) (a : cG) (hl : eK l) : aY Tryz.prog O 19 [.agg (aK l), .agg (cE a)] (encL 1 zV (gM l a)) := by
 have hb2 := oF l a
 have hbp := bDi l a
 have hdl := bAi l a
 refine iL Tryz.func19 rfl (by kernel_rfl) fun w0 I0 A0 => ?_
 have hF := mW w0 I0 (b6 A0) (GOf [])
 refine bD hF [0, 1] ?_
 refine bD hF [2, 3] ?_
 refine bD hF [2, 3, 5] ?_
 refine aT fun K3 hK3 => ?_
 refine aT fun K4 hK4 => ?_
 refine e9 hF [2, 3, 5, 6] ?_
 refine eL (mR _ l a hl) ?_
 refine hK4 _ _ ?_; clear hK4
 refine bR ?_
 refine aCn (s1 := []) (s2 := []) (l := []) 6 (by decide) (by ((try simp only [go_sem, seval]); try simp (disch := omega) only [go_sem, seval]) <;> rfl) rfl (fun hz => ?_)
 refine bHb (s1 := []) (s2 := []) rfl (fun hqz => ?_)
 refine dV [2, 5, 6, 19, 20, 21] (fun n sF ρ => ∃ j, ∃ h, ∃ L, ∃ bq, ∃ nq, ∃ cq, n = (cQ l a).length - j ∧ sF = [aPf h L] ∧ (j ≤ (cQ l a).length) ∧ (QI h L bq nq cq (((cQ l a).take j).map (fun s => zV [s]))) ∧ ρ = dU O [(2, .bx (aK l)), (5, .v (.slice none 0 0)), (6, .v (.slice bq nq cq)), (19, b8 (cQ l a)), (20, vi ((cQ l a).length : Nat)), (21, vi (j : Nat))]) _ ⟨0, hz, [], hz.b, 0, hz.c, rfl, rfl, ?_, ?_, ?_⟩ ?_
 ·exact bI
 ·exact hqz
 ·exact dC
 rintro n sF ρ ⟨j, h, L, bq, nq, cq, rfl, rfl, l0_0, l0_1, rfl⟩ K5 hK5
 have hnl := l0_1.len
 have htl := List.length_take_le j (cQ l a)
 rw [List.length_map] at hnl
 refine bD hF [2, 5, 6, 19, 20, 21] ?_
 refine aT fun K7 hK7 => ?_
 refine cJ (fun c0 => ?_) fun c0 => ?_
 ·refine bN ?_
  refine hK7 _ _ ?_; clear hK7
  refine aT fun K8 hK8 => ?_
  refine bR ?_
  refine bD hF [2, 5, 6, 19, 20, 21] ?_
  refine bK (Le.keepC [2, 5, 6, 8, 19, 20, 21] _) ?_
  refine bM ?_
  refine ef hF ?_
  refine ef hF ?_
  refine ef hF ?_
  refine ef hF ?_
  show gN _ _ _ _ _ _ _ _
  refine aCe (by_ := 24) (zs := [.slice none 0 0]) (s1 := []) (s2 := []) (W := ((cQ l a).take j).map (fun s => zV [s])) (zV [((cQ l a).getD j default)]) rfl rfl (by kernel_rfl) (by kernel_rfl) (by ((try simp only [go_sem, seval]); try simp (disch := omega) only [go_sem, seval]) <;> rfl) (by ((try simp only [go_sem, seval]); try simp (disch := omega) only [go_sem, seval]) <;> trivial) (by kernel_rfl) (by kernel_rfl) rfl (by ((try simp only [go_sem, seval]); try simp (disch := omega) only [go_sem, seval]) <;> rfl) (by ((try simp only [go_sem, seval]); try simp (disch := omega) only [go_sem, seval]) <;> rfl) (.cons (dI.litL [((cQ l a).getD j default)] rfl rfl) .nil) rfl l0_1 (by omega) (by omega) (fun h2 L2 b2 n2 c2q hn2 hQ2 => ?_)
  try ((try simp only [go_sem, seval]); try simp (disch := omega) only [go_sem, seval])
  refine ef hF ?_
  refine hK8 _ _ ?_; clear hK8
  refine dS hF [2, 5, 6, 19, 20, 21] ?_
  refine hK5 _ _ _ ?_ ⟨j + 1, h2, L2, b2, n2, c2q, rfl, rfl, ?_, ?_, ?_⟩
  ·exact bI
  ·exact bI
  ·rw [bSk c0]; exact hQ2
  exact dC
 refine eB ?_
 refine hK3 _ _ ?_; clear hK3
 refine aT fun K10 hK10 => ?_
 refine bR ?_
 have hQb := l0_1
 rw [bQu (by omega)] at hQb
 refine hU [] [_] 42 1 rfl ?_
 refine dV [2, 5, 6] (fun n sF ρ => ∃ W, ∃ D, ∃ aD, ∃ h, ∃ L, ∃ bq, ∃ nq, ∃ cq, n = jP W ∧ sF = [zD aD D, aPf h L] ∧ (QI h L bq nq cq (W.map zV)) ∧ (gM l a = wyL l (jP W) W D) ∧ (∀ q ∈ W, 0 < q.length ∧ q.length ≤ 12) ∧ (jP W ≤ 400000) ∧ ρ = dU O [(2, .bx (aK l)), (5, aD.sl D.length), (6, .v (.slice bq nq cq))]) _ ⟨beg l a, [], jC, h, L, bq, nq, cq, rfl, rfl, ?_, ?_, ?_, ?_, ?_⟩ ?_
 ·exact hQb
 ·rfl
 ·exact aZl
 ·exact hbp
 ·exact dC
 rintro n sF ρ ⟨W, D, aD, h, L, bq, nq, cq, rfl, rfl, l1_0, l1_1, l1_2, l1_3, rfl⟩ K11 hK11
 have hnl := l1_0.len
 have hpl := yF W
 have hDl := aLc l (jP W) W D
 rw [← l1_1] at hDl
 rw [List.length_map] at hnl
 refine aT fun K12 hK12 => ?_
 refine bD hF [2, 5, 6] ?_
 refine cJ (fun c1 => ?_) fun c1 => ?_
 ·obtain ⟨q, W1, rfl⟩ : ∃ q W1, W = q :: W1 := (by cases W with | nil => simp at hnl; omega | cons q W1 => exact ⟨q, W1, rfl⟩)
  have hq1 := l1_2 q (by simp)
  have hQ1 := l1_0.tail
  obtain ⟨g, k, hB, rfl, hLk, hn0, hnc⟩ := l1_0.front
  rw [dZ] at l1_3
  have hph := xI (l := l) hq1.2
  refine bN ?_
  refine hK12 _ _ ?_; clear hK12
  refine bR ?_
  refine aT fun K14 hK14 => ?_
  refine bK (Le.keepC [2, 5, 6] _) ?_
  refine bM ?_
  refine ef hF ?_
  show gN _ _ _ _ _ _ _ _
  refine dT hF ?_
  refine bBs rfl rfl (by kernel_rfl) (by kernel_rfl) (by ((try simp only [go_sem, seval]); try simp (disch := omega) only [go_sem, seval]) <;> rfl) (by ((try simp only [go_sem, seval]); try simp (disch := omega) only [go_sem, seval]) <;> rfl) (by kernel_rfl) (by omega) (by omega) ?_
  try ((try simp only [go_sem, seval]); try simp (disch := omega) only [go_sem, seval])
  show gN _ _ _ _ _ _ _ _
  refine aNy (s1 := [zD aD D]) (s2 := []) (d := b8 q) rfl rfl (by kernel_rfl) (by kernel_rfl) (by ((try simp only [go_sem, seval]); try simp (disch := omega) only [go_sem, seval]) <;> rfl) (by kernel_rfl) rfl hB hLk ?_
  try ((try simp only [go_sem, seval]); try simp (disch := omega) only [go_sem, seval])
  refine ef hF ?_
  refine hK14 _ _ ?_; clear hK14
  refine aT fun K15 hK15 => ?_
  refine bK (Le.keepC [2, 5, 6, 9, 34, 35] _) ?_
  refine bM ?_
  refine ef hF ?_
  show gN _ _ _ _ _ _ _ _
  refine dT hF ?_
  refine aWj rfl rfl (by kernel_rfl) (by kernel_rfl) (by ((try simp only [go_sem, seval]); try simp (disch := omega) only [go_sem, seval]) <;> rfl) (by ((try simp only [go_sem, seval]); try simp (disch := omega) only [go_sem, seval]) <;> rfl) (by kernel_rfl) hn0 hnc ?_
  generalize (if cq = 1 then _ else _ : Option Addr) = b1 at hQ1 ⊢
  try ((try simp only [go_sem, seval]); try simp (disch := omega) only [go_sem, seval])
  refine ef hF ?_
  refine hK15 _ _ ?_; clear hK15
  refine bD hF [2, 5, 6, 9, 34, 35, 37] ?_
  refine aT fun K17 hK17 => ?_
  refine e9 hF [2, 5, 6, 9, 10, 34, 35, 37] ?_
  refine eL (rL _ l (gI q)) ?_
  refine hK17 _ _ ?_; clear hK17
  refine aT fun K18 hK18 => ?_
  refine aT fun K19 hK19 => ?_
  refine e9 hF [2, 5, 6, 9, 10, 11, 12, 34, 35, 37] ?_
  refine lB (fun g0 => w8 _ l ⟨(gI q).fEl, (gI q).fOut⟩) ?_
  refine hK19 _ _ ?_; clear hK19
  refine cJ (fun c2 => ?_) fun c2 => ?_
  ·have he : iE l (gI q) = true := (by unfold iE; rcases c2 with h | h; rw [h]; simp; rw [decide_eq_true (show 0 ≤ aGg l (gI q) from h)]; rfl)
   refine aT fun K20 hK20 => ?_
   refine bK (Le.keepC [2, 5, 6, 9, 34, 35, 37] _) ?_
   refine bM ?_
   refine ef hF ?_
   refine ef hF ?_
   refine ef hF ?_
   show gN _ _ _ _ _ _ _ _
   refine fY (s1 := []) (s2 := [aPf h L]) 63 (by decide) (by ((try simp only [go_sem, seval]); try simp (disch := omega) only [go_sem, seval]) <;> rfl) rfl ?_
   refine ef hF ?_
   show gN _ _ _ _ _ _ _ _
   refine jL (e := 42) (z := 1) (s1 := []) (s2 := [aPf h L]) (l := (D ++ [q]).map zV) 66 (by decide) (by ((try simp only [go_sem, seval]); try simp (disch := omega) only [go_sem, seval]) <;> (first | rfl | (simp; done) | (simp; rfl))) rfl (fun aD2 => ?_)
   refine ef hF ?_
   refine hK20 _ _ ?_; clear hK20
   refine eB ?_
   refine hK11 _ _ _ ?_ ⟨W1, D ++ [q], aD2, h, L, b1, nq - 1, cq - 1, rfl, rfl, ?_, ?_, ?_, ?_, ?_⟩
   ·rw [dZ]; have := kO q; omega
   ·exact bI
   ·exact l1_1.trans (bHw (fun x hx => (l1_2 x hx).2) he)
   ·exact bI
   ·exact bI
   exact dC
  have he : ¬ iE l (gI q) = true := (by unfold iE; rw [c2.1, decide_eq_false (show ¬ 0 ≤ aGg l (gI q) from fun h => by have h2 := c2.2; have h3 : 0 ≤ iU l ⟨(gI q).fEl, (gI q).fOut⟩ := h; omega)]; simp)
  refine bN ?_
  refine hK18 _ _ ?_; clear hK18
  refine aT fun K21 hK21 => ?_
  refine e9 hF [2, 5, 6, 9, 11, 34, 35, 37] ?_
  refine eL (mR _ l (bG l (gI q)).1 hl) ?_
  refine hK21 _ _ ?_; clear hK21
  refine bR ?_
  refine dV [2, 5, 6, 9, 69, 70, 71] (fun n sF ρ => ∃ j, ∃ h, ∃ L, ∃ bq, ∃ nq, ∃ cq, n = (cQ l (bG l (gI q)).1).length - j ∧ sF = [zD aD D, aPf h L] ∧ (j ≤ (cQ l (bG l (gI q)).1).length) ∧ (QI h L bq nq cq ((W1 ++ vC l q j).map zV)) ∧ ρ = dU O [(2, .bx (aK l)), (5, aD.sl D.length), (6, .v (.slice bq nq cq)), (9, b8 q), (69, b8 (cQ l (bG l (gI q)).1)), (70, vi ((cQ l (bG l (gI q)).1).length : Nat)), (71, vi (j : Nat))]) _ ⟨0, h, L, b1, nq - 1, cq - 1, rfl, rfl, ?_, ?_, ?_⟩ ?_
  ·exact bI
  ·rw [show vC l q 0 = [] from rfl, List.append_nil]; exact hQ1
  ·exact dC
  rintro n sF ρ ⟨j, h, L, bq, nq, cq, rfl, rfl, l2_0, l2_1, rfl⟩ K22 hK22
  have hnl2 := l2_1.len
  have hel := aQs l q j
  have hb3 := oF l (bG l (gI q)).1
  have hw1 := yF W1
  have hpj : (q ++ [((cQ l (bG l (gI q)).1).getD j default)]).length ≤ 100 := (by rw [List.length_append, List.length_singleton]; omega)
  have hp0 : 0 < (q ++ [((cQ l (bG l (gI q)).1).getD j default)]).length := (by simp)
  rw [List.length_map, List.length_append] at hnl2
  refine bD hF [2, 5, 6, 9, 34, 35, 37, 69, 70, 71] ?_
  refine aT fun K24 hK24 => ?_
  refine cJ (fun c3 => ?_) fun c3 => ?_
  ·refine bN ?_
   refine hK24 _ _ ?_; clear hK24
   refine aT fun K25 hK25 => ?_
   refine bR ?_
   refine bD hF [2, 5, 6, 9, 34, 35, 37, 69, 70, 71] ?_
   refine aT fun K27 hK27 => ?_
   refine fD hF ?_
   refine aCg 7 [2, 5, 6, 9, 14, 34, 35, 37, 69, 70, 71] [2, 9, 14, 5, 6, 69, 70, 71, 75, 76, 78, 79, 15, 77, 80] [5] [] [[], [], [0, 1], [], [3], [0, 1, 2, 3, 4], [0, 1, 2, 3, 4, 5]] [[5], [5], [5], [5], [5], [], []] (fun bQ => dU O [(2, .bx (aK l)), (9, b8 q), (14, .bx (bO ((cQ l (bG l (gI q)).1).getD j default))), (5, aD.sl D.length), (6, .v (.slice bq nq cq)), (69, b8 (cQ l (bG l (gI q)).1)), (70, vi ((cQ l (bG l (gI q)).1).length : Nat)), (71, vi (j : Nat)), (75, bJ (bQ 0) (.ez)), (76, bJ (bQ 1) (b8 q)), (78, bJ (bQ 3) (.agg (bO ((cQ l (bG l (gI q)).1).getD j default)))), (79, bJ (bQ 4) (.sl 3 1 (fun i_ => [bO ((cQ l (bG l (gI q)).1).getD j default)].getD i_ []))), (15, bJ (bQ 6) (b8 (q ++ [((cQ l (bG l (gI q)).1).getD j default)]))), (77, pD (bQ 5) (bQ 2) (.any) (.row 85 3 (q.map bO))), (80, pD (bQ 5) (bQ 5) (b8 (q ++ [((cQ l (bG l (gI q)).1).getD j default)])) (b8 (q ++ [((cQ l (bG l (gI q)).1).getD j default)])))]) (fun iQ hiQ oQ hoQ bQ hbQ KQ hKQ => ?_) ?_
   ·match iQ, hiQ with
    | 0, _ | 1, _ | 2, _ | 3, _ | 4, _ | 6, _ =>
     exact mkp hoQ hbQ hKQ
    | 5, _ =>
     obtain rfl := Option.some.inj hoQ
     simp only [sO, j0, j8, List.getD_cons_succ, List.getD_cons_zero, List.getD_nil, and_true, true_and] at hbQ
     show qY _ _ _ true _ _
     ((try simp only [go_sem, seval, hbQ]); try simp (disch := omega) only [go_sem, seval, hbQ])
     repeat refine And.intro bS ?_
     refine aPk (b8 (q ++ [((cQ l (bG l (gI q)).1).getD j default)])) (dI.frzL bO (q ++ [((cQ l (bG l (gI q)).1).getD j default)])) rfl ?_
     try ((try simp only [go_sem, seval, hbQ]); try simp (disch := omega) only [go_sem, seval, hbQ])
     repeat refine And.intro bS ?_
     refine hKQ _ ?_
     ((try simp only [go_sem, seval, hbQ]); try simp (disch := omega) only [go_sem, seval, hbQ]) <;> first | rfl | simp
   refine rF ?_
   refine hK27 _ _ ?_; clear hK27
   refine aT fun K28 hK28 => ?_
   refine e9 hF [2, 5, 6, 9, 15, 34, 35, 37, 69, 70, 71] ?_
   refine lB (fun g1 => aAb _ l (q ++ [((cQ l (bG l (gI q)).1).getD j default)]) hl hpj) ?_
   refine lB (fun g2 => wS _ l (q ++ [((cQ l (bG l (gI q)).1).getD j default)]) hp0 hpj) ?_
   refine hK28 _ _ ?_; clear hK28
   refine cJ (fun c4 => ?_) fun c4 => ?_
   ·have hk : okW l (q ++ [((cQ l (bG l (gI q)).1).getD j default)]) = true := (by unfold okW; rw [decide_eq_true c4.1.1, c4.1.2, c4.2]; rfl)
    refine bK (Le.keepC [2, 5, 6, 9, 15, 34, 35, 37, 69, 70, 71] _) ?_
    refine bM ?_
    refine ef hF ?_
    refine ef hF ?_
    refine ef hF ?_
    show gN _ _ _ _ _ _ _ _
    refine aCe (by_ := 24) (zs := [.slice none 0 0]) (s1 := [zD aD D]) (s2 := []) (W := (W1 ++ vC l q j).map zV) (zV (q ++ [((cQ l (bG l (gI q)).1).getD j default)])) rfl rfl (by kernel_rfl) (by kernel_rfl) (by ((try simp only [go_sem, seval]); try simp (disch := omega) only [go_sem, seval]) <;> rfl) (by ((try simp only [go_sem, seval]); try simp (disch := omega) only [go_sem, seval]) <;> trivial) (by kernel_rfl) (by kernel_rfl) rfl (by ((try simp only [go_sem, seval]); try simp (disch := omega) only [go_sem, seval]) <;> rfl) (by ((try simp only [go_sem, seval]); try simp (disch := omega) only [go_sem, seval]) <;> rfl) (.cons (dI.refl _) .nil) rfl l2_1 (by omega) (by omega) (fun h2 L2 b2 n2 c2q hn2 hQ2 => ?_)
    try ((try simp only [go_sem, seval]); try simp (disch := omega) only [go_sem, seval])
    refine ef hF ?_
    refine hK25 _ _ ?_; clear hK25
    refine dS hF [2, 5, 6, 9, 34, 35, 37, 69, 70, 71] ?_
    refine hK22 _ _ _ ?_ ⟨j + 1, h2, L2, b2, n2, c2q, rfl, rfl, ?_, ?_, ?_⟩
    ·exact bI
    ·exact bI
    ·rw [bGd c3 hk, ← List.append_assoc, List.map_append]; exact hQ2
    exact dC
   have hk : okW l (q ++ [((cQ l (bG l (gI q)).1).getD j default)]) = false := (by unfold okW; rcases c4 with (h | h) | h; rw [decide_eq_false (by omega)]; rfl; rw [h]; simp; rw [h]; simp)
   refine bN ?_
   refine hK25 _ _ ?_; clear hK25
   refine dS hF [2, 5, 6, 9, 34, 35, 37, 69, 70, 71] ?_
   refine hK22 _ _ _ ?_ ⟨j + 1, h, L, bq, nq, cq, rfl, rfl, ?_, ?_, ?_⟩
   ·exact bI
   ·exact bI
   ·rw [bJp c3 hk]; exact l2_1
   exact dC
  refine eB ?_
  refine hK11 _ _ _ ?_ ⟨W1 ++ uL l q, D, aD, h, L, bq, nq, cq, rfl, rfl, ?_, ?_, ?_, ?_, ?_⟩
  ·rw [nJ, dZ]; omega
  ·rw [aQy (by omega)] at l2_1; exact l2_1
  ·exact l1_1.trans (bIg (fun x hx => (l1_2 x hx).2) he)
  ·intro x hx; rcases List.mem_append.1 hx with hx | hx; exact l1_2 x (by simp [hx]); exact ⟨bBx hx, aEl hx⟩
  ·rw [nJ]; omega
  exact dC
 refine eB ?_
 refine hK10 _ _ ?_; clear hK10
 refine aT fun K29 hK29 => ?_
 obtain rfl : W = [] := List.eq_nil_of_length_eq_zero (by omega)
 rw [s8] at l1_1
 refine vX (s1 := []) (s2 := [aPf h L]) 5 (by decide) (by ((try simp only [go_sem, seval]); try simp (disch := omega) only [go_sem, seval]) <;> first | rfl | (simp only [List.length_map])) rfl (dI.frzL zV D) rfl ?_
 refine dS hF [5] ?_
 refine hK29 _ _ ?_; clear hK29
 refine dD ?_
 (try simp only [fR, eC]); refine cW 4 ?_; exact dE.encL (l' := D) (by ((try simp only [go_sem, seval]); try simp (disch := omega) only [go_sem, seval]) <;> rfl) (by first | exact l1_1.symm | rw [s8])
end
end Go.Sg
namespace Go.Sg
open Go.Proofs
set_option maxRecDepth 20000 in
set_option maxHeartbeats 16000000 in
theorem oP (O : aS) (l : aB) (hok : uF l) : aY Tryz.prog O 6 [.agg (aK l)] (vb true) := by
 refine eE Tryz.func6 ?_
 refine aC [0] ?_
 refine aA fun K1 hK1 => ?_
 refine aA fun K2 hK2 => ?_
 refine bL [1] ?_
 refine eL (t1 _ l) ?_
 refine hK2 _ ?_; clear hK2
 refine aV (fun c0 => ?_) fun c0 => ?_
 ·refine aA fun K3 hK3 => ?_
  refine bL [] ?_
  refine eL (l0 _) ?_
  refine hK3 _ ?_; clear hK3
  refine aM ?_
  refine cW 2 ?_
  exact xd
 have hF : eK l := aRe (by simpa using c0) hok
 refine aJ ?_
 refine hK1 _ ?_; clear hK1
 refine aA fun K4 hK4 => ?_
 refine bL [1] ?_
 refine eL (mA _ l hF) ?_
 refine hK4 _ ?_; clear hK4
 refine aA fun K5 hK5 => ?_
 refine aC [1, 3, 4] ?_
 refine aV (fun c1 => ?_) fun c1 => ?_
 ·refine aA fun K7 hK7 => ?_
  refine bL [] ?_
  refine eL (l0 _) ?_
  refine hK7 _ ?_; clear hK7
  refine aM ?_
  refine cW 2 ?_
  exact xd
 have her : (dP l (cN gP l)).2 = 0 := (by simpa using c1)
 have hfw := aXu hF her
 have hn80 := aCv hfw
 have hes := (pT (sZ her)).2.1
 have hsg := hF.sg
 refine aJ ?_
 refine hK5 _ ?_; clear hK5
 refine aC [1, 3] ?_
 refine aA fun K9 hK9 => ?_
 refine aC [1, 3, 5] ?_
 refine aL ?_
 refine aZ [1, 3, 5, 30, 31, 32] (fun n ρ => ∃ i, n = l.fSignals.length - i ∧ (i ≤ l.fSignals.length) ∧ ρ = dU O [(1, .bx (aK l)), (3, .bx (dK (bC l))), (5, vi ((fI (cN gP l) i).length : Nat)), (30, jU l.fSignals), (31, vi (l.fSignals.length : Nat)), (32, vi (i : Nat))]) _ ⟨0, rfl, ?_, ?_⟩ ?_
 ·exact bI
 ·exact dC
 rintro n ρ ⟨i, rfl, l0_0, rfl⟩ K11 hK11
 have hal := aSv hF her l0_0
 refine aC [1, 3, 5, 29, 30, 31, 32] ?_
 refine aA fun K13 hK13 => ?_
 refine aV (fun c2 => ?_) fun c2 => ?_
 ·have hjo := aNp hF her c2
  have hwf := bKt hF her c2
  have hfl := aEn (bC l) (i : Int) (bC l).fRoutes.length
  refine aJ ?_
  refine hK13 _ ?_; clear hK13
  refine aA fun K14 hK14 => ?_
  refine aL ?_
  refine aC [1, 3, 5, 29, 30, 31, 32] ?_
  refine aA fun K16 hK16 => ?_
  refine bL [1, 3, 5, 6, 7, 29, 30, 31, 32] ?_
  refine eL (oW _ l (l.fSignals.getD i default).fAt) ?_
  refine hK16 _ ?_; clear hK16
  refine aA fun K17 hK17 => ?_
  refine bL [1, 3, 5, 6, 7, 8, 9, 29, 30, 31, 32] ?_
  refine eL (aAr _ l (aI l (l.fSignals.getD i default).fAt).1 hF) ?_
  refine hK17 _ ?_; clear hK17
  refine aA fun K18 hK18 => ?_
  refine bL [1, 3, 5, 6, 7, 9, 10, 29, 30, 31, 32] ?_
  refine eL (rE _ (bC l) (i : Nat) hn80) ?_
  refine hK18 _ ?_; clear hK18
  refine aA fun K19 hK19 => ?_
  refine aC [1, 3, 5, 7, 9, 10, 11, 29, 30, 31, 32] ?_
  refine aV (fun c3 => ?_) fun c3 => ?_
  ·refine aC [] ?_
   refine aM ?_
   refine cW 2 ?_
   refine xb ?_
   ((exact (c3.elim (fun h => by rw [hjo] at h; cases h) (fun h => h hwf)).elim))
  refine aJ ?_
  refine hK19 _ ?_; clear hK19
  refine aA fun K22 hK22 => ?_
  refine aC [1, 3, 5, 7, 10, 11, 29, 30, 31, 32] ?_
  refine aL ?_
  refine aZ [1, 3, 5, 30, 31, 32, 7, 11, 59, 60, 61] (fun n ρ => ∃ j, n = (gM l (aI l (l.fSignals.getD i default).fAt).1).length - j ∧ (j ≤ (gM l (aI l (l.fSignals.getD i default).fAt).1).length) ∧ ρ = dU O [(1, .bx (aK l)), (3, .bx (dK (bC l))), (5, vi ((fI (cN gP l) i).length : Nat)), (30, jU l.fSignals), (31, vi (l.fSignals.length : Nat)), (32, vi (i : Nat)), (7, .bx (gA (l.fSignals.getD i default))), (11, dL (dX (bC l) (i : Int) (bC l).fRoutes.length)), (59, encL 1 zV (gM l (aI l (l.fSignals.getD i default).fAt).1)), (60, vi ((gM l (aI l (l.fSignals.getD i default).fAt).1).length : Nat)), (61, vi (j : Nat))]) _ ⟨0, rfl, ?_, ?_⟩ ?_
  ·exact bI
  ·exact dC
  rintro n ρ ⟨j, rfl, l1_0, rfl⟩ K24 hK24
  refine aC [1, 3, 5, 7, 10, 11, 29, 30, 31, 32, 59, 60, 61] ?_
  refine aA fun K26 hK26 => ?_
  refine aV (fun c4 => ?_) fun c4 => ?_
  ·refine aJ ?_
   refine hK26 _ ?_; clear hK26
   refine aA fun K27 hK27 => ?_
   refine aL ?_
   refine aC [1, 3, 5, 7, 10, 11, 29, 30, 31, 32, 59, 60, 61] ?_
   refine aC [1, 3, 5, 7, 10, 11, 13, 29, 30, 31, 32, 59, 60, 61, 63] ?_
   refine aA fun K30 hK30 => ?_
   refine aC [1, 3, 5, 7, 10, 11, 13, 14, 29, 30, 31, 32, 59, 60, 61, 63] ?_
   refine aL ?_
   refine aZ [1, 3, 5, 30, 31, 32, 7, 11, 59, 60, 61, 13, 14, 65, 66, 67] (fun n ρ => ∃ m, n = (dX (bC l) (i : Int) (bC l).fRoutes.length).length - m ∧ (m ≤ (dX (bC l) (i : Int) (bC l).fRoutes.length).length) ∧ ρ = dU O [(1, .bx (aK l)), (3, .bx (dK (bC l))), (5, vi ((fI (cN gP l) i).length : Nat)), (30, jU l.fSignals), (31, vi (l.fSignals.length : Nat)), (32, vi (i : Nat)), (7, .bx (gA (l.fSignals.getD i default))), (11, dL (dX (bC l) (i : Int) (bC l).fRoutes.length)), (59, encL 1 zV (gM l (aI l (l.fSignals.getD i default).fAt).1)), (60, vi ((gM l (aI l (l.fSignals.getD i default).fAt).1).length : Nat)), (61, vi (j : Nat)), (13, b8 ((gM l (aI l (l.fSignals.getD i default).fAt).1).getD j default)), (14, vi (vL (bC l) ((gM l (aI l (l.fSignals.getD i default).fAt).1).getD j default) (dX (bC l) (i : Int) (bC l).fRoutes.length) m)), (65, dL (dX (bC l) (i : Int) (bC l).fRoutes.length)), (66, vi ((dX (bC l) (i : Int) (bC l).fRoutes.length).length : Nat)), (67, vi (m : Nat))]) _ ⟨0, rfl, ?_, ?_⟩ ?_
   ·exact bI
   ·exact dC
   rintro n ρ ⟨m, rfl, l2_0, rfl⟩ K32 hK32
   have hob := bIe (T := bC l) (w := ((gM l (aI l (l.fSignals.getD i default).fAt).1).getD j default)) (M := (dX (bC l) (i : Int) (bC l).fRoutes.length)) (m := m)
   have hrg := fun h : m < (dX (bC l) (i : Int) (bC l).fRoutes.length).length => aYz (T := bC l) (s := (i : Int)) (n := (bC l).fRoutes.length) h
   refine aC [1, 3, 5, 7, 10, 11, 13, 14, 29, 30, 31, 32, 59, 60, 61, 63, 65, 66, 67] ?_
   refine aA fun K34 hK34 => ?_
   refine aV (fun c5 => ?_) fun c5 => ?_
   ·have hkm := hrg c5
    have hwl : ((gM l (aI l (l.fSignals.getD i default).fAt).1).getD j default).length ≤ 12 := aVn (i := i) hF her (dR c4)
    refine aJ ?_
    refine hK34 _ ?_; clear hK34
    refine aA fun K35 hK35 => ?_
    refine aL ?_
    refine aC [1, 3, 5, 7, 10, 11, 13, 14, 29, 30, 31, 32, 59, 60, 61, 63, 65, 66, 67] ?_
    refine aA fun K37 hK37 => ?_
    obtain ⟨Gx, hGx⟩ : ∃ f : Nat → List DV, f = fun i_ => bO (((gM l (aI l (l.fSignals.getD i default).fAt).1).getD j default).getD i_ default) := ⟨_, rfl⟩
    have hLn0 : (aK l).length = 6 := rfl
    obtain ⟨Ly, hLy⟩ : ∃ x, x = aK l := ⟨_, rfl⟩
    obtain ⟨V30, hV30⟩ : ∃ x, x = jU l.fSignals := ⟨_, rfl⟩
    obtain ⟨V59, hV59⟩ : ∃ x, x = encL 1 zV (gM l (aI l (l.fSignals.getD i default).fAt).1) := ⟨_, rfl⟩
    obtain ⟨V11, hV11⟩ : ∃ x, x = dL (dX (bC l) (i : Int) (bC l).fRoutes.length) := ⟨_, rfl⟩
    obtain ⟨Tp, hTp⟩ : ∃ x, x = dL (bC l).fPoints := ⟨_, rfl⟩
    obtain ⟨Th, hTh⟩ : ∃ x, x = dL (bC l).fHomes := ⟨_, rfl⟩
    obtain ⟨Fx, hFx⟩ : ∃ f : Nat → List DV, f = fun i_ => bB ((bC l).fRoutes.getD i_ default) := ⟨_, rfl⟩
    have hLn : Ly.length = 6 := by rw [hLy]; rfl
    have hLt : Ly.take 6 = Ly := by rw [hLy]; rfl
    have hFk : (Fx ((dX (bC l) (i : Int) (bC l).fRoutes.length).getD m default).toNat) = bB ((bC l).fRoutes.getD ((dX (bC l) (i : Int) (bC l).fRoutes.length).getD m default).toNat default) := by rw [hFx]
    have hcp : ∀ O, aY Tryz.prog O 21 [b8 ((bC l).fRoutes.getD ((dX (bC l) (i : Int) (bC l).fRoutes.length).getD m default).toNat default).fPath, (.sl 3 ((gM l (aI l (l.fSignals.getD i default).fAt).1).getD j default).length Gx)] (vb (((bC l).fRoutes.getD ((dX (bC l) (i : Int) (bC l).fRoutes.length).getD m default).toNat default).fPath == ((gM l (aI l (l.fSignals.getD i default).fAt).1).getD j default))) := fun O => by rw [hGx]; exact sD O ((bC l).fRoutes.getD ((dX (bC l) (i : Int) (bC l).fRoutes.length).getD m default).toNat default).fPath ((gM l (aI l (l.fSignals.getD i default).fAt).1).getD j default)
    have hcl : ∀ O, aY Tryz.prog O 22 [.agg Ly, (.sl 3 ((gM l (aI l (l.fSignals.getD i default).fAt).1).getD j default).length Gx)] (vi (fX l ((gM l (aI l (l.fSignals.getD i default).fAt).1).getD j default))) := fun O => by rw [hLy, hGx]; exact wK O l ((gM l (aI l (l.fSignals.getD i default).fAt).1).getD j default) hF hes (by omega)
    have hcs : ∀ O, aY Tryz.prog O 23 [.agg Ly, vi (l.fSignals.getD i default).fAt.fEl] (vi (bU l (l.fSignals.getD i default).fAt.fEl)) := fun O => by rw [hLy]; exact fW O l (l.fSignals.getD i default).fAt.fEl
    refine cH (Le.keepC [1, 3, 5, 7, 10, 11, 13, 14, 16, 29, 30, 31, 32, 59, 60, 61, 63, 65, 66, 67] _) ?_
    refine xP [1, 3, 7, 13, 16, 5, 11, 14, 30, 31, 32, 59, 60, 61, 65, 66, 67, 71, 72, 73, 74, 75, 76, 77, 78, 79, 80, 81, 82, 83, 84, 85, 86, 87, 88, 89, 90, 91, 92, 93, 94, 95, 96, 97, 98, 99, 100, 101, 102, 103, 104] [] [] [[], [0], [], [0, 1, 2], [0, 1, 2, 3], [0, 1, 2, 3, 4], [], [0, 1, 2, 3, 4, 5, 6], [0, 1, 2, 3, 4, 5, 6, 7], [0, 1, 2, 3, 4, 5, 6, 7, 8], [0, 1, 2, 3, 4, 5, 6, 7, 8, 9], [0, 1, 2, 3, 4, 5, 6, 7, 8], [0, 1, 2, 3, 4, 5, 6, 7, 8, 9, 10, 11], [0, 1, 2, 3, 4, 5, 6, 7, 8, 9, 10, 11, 12], [0, 1, 2, 3, 4, 5, 6, 7, 8, 9, 10, 11, 12, 13], [0, 1, 2, 3, 4, 5, 6, 7, 8], [0, 1, 2, 3, 4, 5, 6, 7, 8], [0, 1, 2, 3, 4, 5, 6, 7, 8, 15, 16], [0, 1, 2, 3, 4, 5, 6, 7, 8, 9, 10, 11, 12, 13, 14, 15, 16, 17], [0, 1, 2, 3, 4, 5, 6, 7, 8, 9, 10, 11, 12, 13, 14, 15, 16, 17, 18], [0, 1, 2, 3, 4, 5, 6, 7, 8, 9, 10, 11, 12, 13, 14, 15, 16, 17, 18, 19], [0, 1, 2, 3, 4, 5, 6, 7, 8, 9, 10, 11, 12, 13, 14, 15, 16, 17, 18, 19, 20], [0, 1, 2, 3, 4, 5, 6, 7, 8, 9, 10, 11, 12, 13, 14, 15, 16, 17, 18, 19, 20, 21], [0, 1, 2, 3, 4, 5, 6, 7, 8, 9, 10, 11, 12, 13, 14, 15, 16, 17, 18, 19, 20], [0, 1, 2, 3, 4, 5, 6, 7, 8, 9, 10, 11, 12, 13, 14, 15, 16, 17, 18, 19, 20, 21, 22, 23], [0, 1, 2, 3, 4, 5, 6, 7, 8, 9, 10, 11, 12, 13, 14, 15, 16, 17, 18, 19, 20, 21, 22, 23, 24], [0, 1, 2, 3, 4, 5, 6, 7, 8, 9, 10, 11, 12, 13, 14, 15, 16, 17, 18, 19, 20, 21, 22, 23, 24, 25], [0, 1, 2, 3, 4, 5, 6, 7, 8, 9, 10, 11, 12, 13, 14, 15, 16, 17, 18, 19, 20], [0, 1, 2, 3, 4, 5, 6, 7, 8, 9, 10, 11, 12, 13, 14, 15, 16, 17, 18, 19, 20], [0, 1, 2, 3, 4, 5, 6, 7, 8, 9, 10, 11, 12, 13, 14, 15, 16, 17, 18, 19, 20, 28], [0, 1, 2, 3, 4, 5, 6, 7, 8, 9, 10, 11, 12, 13, 14, 15, 16, 17, 18, 19, 20, 28, 29], [0, 1, 2, 3, 4, 5, 6, 7, 8, 9, 10, 11, 12, 13, 14, 15, 16, 17, 18, 19, 20, 27, 28, 29, 30], [0, 1, 2, 3, 4, 5, 6, 7, 8, 9, 10, 11, 12, 13, 14, 15, 16, 17, 18, 19, 20, 21, 22, 23, 24, 25, 26, 27, 28, 29, 30, 31], [0, 1, 2, 3, 4, 5, 6, 7, 8, 9, 10, 11, 12, 13, 14, 15, 16, 17, 18, 19, 20, 21, 22, 23, 24, 25, 26, 27, 28, 29, 30, 31, 32]] [[], [], [], [], [], [], [], [], [], [], [], [], [], [], [], [], [], [], [], [], [], [], [], [], [], [], [], [], [], [], [], [], [], []] (fun bQ => dU O [(1, .bx Ly), (3, .bx [.sl 14 (bC l).fRoutes.length Fx, Tp, Th, vi (bC l).fSections, vi (bC l).fSignals]), (7, .bx (gA (l.fSignals.getD i default))), (13, (.sl 3 ((gM l (aI l (l.fSignals.getD i default).fAt).1).getD j default).length Gx)), (16, vi ((dX (bC l) (i : Int) (bC l).fRoutes.length).getD m default)), (5, vi ((fI (cN gP l) i).length : Nat)), (11, V11), (14, vi (vL (bC l) ((gM l (aI l (l.fSignals.getD i default).fAt).1).getD j default) (dX (bC l) (i : Int) (bC l).fRoutes.length) m)), (30, V30), (31, vi (l.fSignals.length : Nat)), (32, vi (i : Nat)), (59, V59), (60, vi ((gM l (aI l (l.fSignals.getD i default).fAt).1).length : Nat)), (61, vi (j : Nat)), (65, V11), (66, vi ((dX (bC l) (i : Int) (bC l).fRoutes.length).length : Nat)), (67, vi (m : Nat)), (71, bJ (bQ 0) (.bp 3 0)), (72, bJ (bQ 1) (.sl 14 (bC l).fRoutes.length Fx)), (73, bJ (bQ 2) (vi ((dX (bC l) (i : Int) (bC l).fRoutes.length).getD m default))), (74, bJ (bQ 3) (.dp (Fx ((dX (bC l) (i : Int) (bC l).fRoutes.length).getD m default).toNat))), (75, bJ (bQ 4) (.dp ((Fx ((dX (bC l) (i : Int) (bC l).fRoutes.length).getD m default).toNat).drop 3))), (76, bJ (bQ 5) (b8 ((bC l).fRoutes.getD ((dX (bC l) (i : Int) (bC l).fRoutes.length).getD m default).toNat default).fPath)), (77, bJ (bQ 6) ((.sl 3 ((gM l (aI l (l.fSignals.getD i default).fAt).1).getD j default).length Gx))), (78, bJ (bQ 7) (vb (((bC l).fRoutes.getD ((dX (bC l) (i : Int) (bC l).fRoutes.length).getD m default).toNat default).fPath == ((gM l (aI l (l.fSignals.getD i default).fAt).1).getD j default)))), (79, bJ (bQ 8) (vb (((bC l).fRoutes.getD ((dX (bC l) (i : Int) (bC l).fRoutes.length).getD m default).toNat default).fPath == ((gM l (aI l (l.fSignals.getD i default).fAt).1).getD j default)))), (80, bJ (bQ 9) (.cond (((bC l).fRoutes.getD ((dX (bC l) (i : Int) (bC l).fRoutes.length).getD m default).toNat default).fPath == ((gM l (aI l (l.fSignals.getD i default).fAt).1).getD j default)) (.bp 3 0))), (81, bJ (bQ 10) (.cond (((bC l).fRoutes.getD ((dX (bC l) (i : Int) (bC l).fRoutes.length).getD m default).toNat default).fPath == ((gM l (aI l (l.fSignals.getD i default).fAt).1).getD j default)) (.sl 14 (bC l).fRoutes.length Fx))), (82, bJ (bQ 11) (.cond (((bC l).fRoutes.getD ((dX (bC l) (i : Int) (bC l).fRoutes.length).getD m default).toNat default).fPath == ((gM l (aI l (l.fSignals.getD i default).fAt).1).getD j default)) (vi ((dX (bC l) (i : Int) (bC l).fRoutes.length).getD m default)))), (83, bJ (bQ 12) (.cond (((bC l).fRoutes.getD ((dX (bC l) (i : Int) (bC l).fRoutes.length).getD m default).toNat default).fPath == ((gM l (aI l (l.fSignals.getD i default).fAt).1).getD j default)) (.dp (Fx ((dX (bC l) (i : Int) (bC l).fRoutes.length).getD m default).toNat)))), (84, bJ (bQ 13) (.cond (((bC l).fRoutes.getD ((dX (bC l) (i : Int) (bC l).fRoutes.length).getD m default).toNat default).fPath == ((gM l (aI l (l.fSignals.getD i default).fAt).1).getD j default)) (.dp ((Fx ((dX (bC l) (i : Int) (bC l).fRoutes.length).getD m default).toNat).drop 7)))), (85, bJ (bQ 14) (.cond (((bC l).fRoutes.getD ((dX (bC l) (i : Int) (bC l).fRoutes.length).getD m default).toNat default).fPath == ((gM l (aI l (l.fSignals.getD i default).fAt).1).getD j default)) (vi ((bC l).fRoutes.getD ((dX (bC l) (i : Int) (bC l).fRoutes.length).getD m default).toNat default).fLength))), (86, bJ (bQ 15) (.cond (((bC l).fRoutes.getD ((dX (bC l) (i : Int) (bC l).fRoutes.length).getD m default).toNat default).fPath == ((gM l (aI l (l.fSignals.getD i default).fAt).1).getD j default)) (.agg Ly))), (87, bJ (bQ 16) (.cond (((bC l).fRoutes.getD ((dX (bC l) (i : Int) (bC l).fRoutes.length).getD m default).toNat default).fPath == ((gM l (aI l (l.fSignals.getD i default).fAt).1).getD j default)) ((.sl 3 ((gM l (aI l (l.fSignals.getD i default).fAt).1).getD j default).length Gx)))), (88, bJ (bQ 17) (.cond (((bC l).fRoutes.getD ((dX (bC l) (i : Int) (bC l).fRoutes.length).getD m default).toNat default).fPath == ((gM l (aI l (l.fSignals.getD i default).fAt).1).getD j default)) (vi (fX l ((gM l (aI l (l.fSignals.getD i default).fAt).1).getD j default))))), (89, bJ (bQ 18) (.cond (((bC l).fRoutes.getD ((dX (bC l) (i : Int) (bC l).fRoutes.length).getD m default).toNat default).fPath == ((gM l (aI l (l.fSignals.getD i default).fAt).1).getD j default)) (vb (decide (((bC l).fRoutes.getD ((dX (bC l) (i : Int) (bC l).fRoutes.length).getD m default).toNat default).fLength = fX l ((gM l (aI l (l.fSignals.getD i default).fAt).1).getD j default)))))), (90, bJ (bQ 19) (vb ((((bC l).fRoutes.getD ((dX (bC l) (i : Int) (bC l).fRoutes.length).getD m default).toNat default).fPath == ((gM l (aI l (l.fSignals.getD i default).fAt).1).getD j default)) && decide (((bC l).fRoutes.getD ((dX (bC l) (i : Int) (bC l).fRoutes.length).getD m default).toNat default).fLength = fX l ((gM l (aI l (l.fSignals.getD i default).fAt).1).getD j default))))), (91, bJ (bQ 20) (vb ((((bC l).fRoutes.getD ((dX (bC l) (i : Int) (bC l).fRoutes.length).getD m default).toNat default).fPath == ((gM l (aI l (l.fSignals.getD i default).fAt).1).getD j default)) && decide (((bC l).fRoutes.getD ((dX (bC l) (i : Int) (bC l).fRoutes.length).getD m default).toNat default).fLength = fX l ((gM l (aI l (l.fSignals.getD i default).fAt).1).getD j default))))), (92, bJ (bQ 21) (.cond ((((bC l).fRoutes.getD ((dX (bC l) (i : Int) (bC l).fRoutes.length).getD m default).toNat default).fPath == ((gM l (aI l (l.fSignals.getD i default).fAt).1).getD j default)) && decide (((bC l).fRoutes.getD ((dX (bC l) (i : Int) (bC l).fRoutes.length).getD m default).toNat default).fLength = fX l ((gM l (aI l (l.fSignals.getD i default).fAt).1).getD j default))) (.bp 3 0))), (93, bJ (bQ 22) (.cond ((((bC l).fRoutes.getD ((dX (bC l) (i : Int) (bC l).fRoutes.length).getD m default).toNat default).fPath == ((gM l (aI l (l.fSignals.getD i default).fAt).1).getD j default)) && decide (((bC l).fRoutes.getD ((dX (bC l) (i : Int) (bC l).fRoutes.length).getD m default).toNat default).fLength = fX l ((gM l (aI l (l.fSignals.getD i default).fAt).1).getD j default))) (.sl 14 (bC l).fRoutes.length Fx))), (94, bJ (bQ 23) (.cond ((((bC l).fRoutes.getD ((dX (bC l) (i : Int) (bC l).fRoutes.length).getD m default).toNat default).fPath == ((gM l (aI l (l.fSignals.getD i default).fAt).1).getD j default)) && decide (((bC l).fRoutes.getD ((dX (bC l) (i : Int) (bC l).fRoutes.length).getD m default).toNat default).fLength = fX l ((gM l (aI l (l.fSignals.getD i default).fAt).1).getD j default))) (vi ((dX (bC l) (i : Int) (bC l).fRoutes.length).getD m default)))), (95, bJ (bQ 24) (.cond ((((bC l).fRoutes.getD ((dX (bC l) (i : Int) (bC l).fRoutes.length).getD m default).toNat default).fPath == ((gM l (aI l (l.fSignals.getD i default).fAt).1).getD j default)) && decide (((bC l).fRoutes.getD ((dX (bC l) (i : Int) (bC l).fRoutes.length).getD m default).toNat default).fLength = fX l ((gM l (aI l (l.fSignals.getD i default).fAt).1).getD j default))) (.dp (Fx ((dX (bC l) (i : Int) (bC l).fRoutes.length).getD m default).toNat)))), (96, bJ (bQ 25) (.cond ((((bC l).fRoutes.getD ((dX (bC l) (i : Int) (bC l).fRoutes.length).getD m default).toNat default).fPath == ((gM l (aI l (l.fSignals.getD i default).fAt).1).getD j default)) && decide (((bC l).fRoutes.getD ((dX (bC l) (i : Int) (bC l).fRoutes.length).getD m default).toNat default).fLength = fX l ((gM l (aI l (l.fSignals.getD i default).fAt).1).getD j default))) (.dp ((Fx ((dX (bC l) (i : Int) (bC l).fRoutes.length).getD m default).toNat).drop 6)))), (97, bJ (bQ 26) (.cond ((((bC l).fRoutes.getD ((dX (bC l) (i : Int) (bC l).fRoutes.length).getD m default).toNat default).fPath == ((gM l (aI l (l.fSignals.getD i default).fAt).1).getD j default)) && decide (((bC l).fRoutes.getD ((dX (bC l) (i : Int) (bC l).fRoutes.length).getD m default).toNat default).fLength = fX l ((gM l (aI l (l.fSignals.getD i default).fAt).1).getD j default))) (vi ((bC l).fRoutes.getD ((dX (bC l) (i : Int) (bC l).fRoutes.length).getD m default).toNat default).fApproach))), (98, bJ (bQ 27) (.cond ((((bC l).fRoutes.getD ((dX (bC l) (i : Int) (bC l).fRoutes.length).getD m default).toNat default).fPath == ((gM l (aI l (l.fSignals.getD i default).fAt).1).getD j default)) && decide (((bC l).fRoutes.getD ((dX (bC l) (i : Int) (bC l).fRoutes.length).getD m default).toNat default).fLength = fX l ((gM l (aI l (l.fSignals.getD i default).fAt).1).getD j default))) (.agg Ly))), (99, bJ (bQ 28) (.cond ((((bC l).fRoutes.getD ((dX (bC l) (i : Int) (bC l).fRoutes.length).getD m default).toNat default).fPath == ((gM l (aI l (l.fSignals.getD i default).fAt).1).getD j default)) && decide (((bC l).fRoutes.getD ((dX (bC l) (i : Int) (bC l).fRoutes.length).getD m default).toNat default).fLength = fX l ((gM l (aI l (l.fSignals.getD i default).fAt).1).getD j default))) (.bp 7 1))), (100, bJ (bQ 29) (.cond ((((bC l).fRoutes.getD ((dX (bC l) (i : Int) (bC l).fRoutes.length).getD m default).toNat default).fPath == ((gM l (aI l (l.fSignals.getD i default).fAt).1).getD j default)) && decide (((bC l).fRoutes.getD ((dX (bC l) (i : Int) (bC l).fRoutes.length).getD m default).toNat default).fLength = fX l ((gM l (aI l (l.fSignals.getD i default).fAt).1).getD j default))) (.bp 7 1))), (101, bJ (bQ 30) (.cond ((((bC l).fRoutes.getD ((dX (bC l) (i : Int) (bC l).fRoutes.length).getD m default).toNat default).fPath == ((gM l (aI l (l.fSignals.getD i default).fAt).1).getD j default)) && decide (((bC l).fRoutes.getD ((dX (bC l) (i : Int) (bC l).fRoutes.length).getD m default).toNat default).fLength = fX l ((gM l (aI l (l.fSignals.getD i default).fAt).1).getD j default))) (vi (l.fSignals.getD i default).fAt.fEl))), (102, bJ (bQ 31) (.cond ((((bC l).fRoutes.getD ((dX (bC l) (i : Int) (bC l).fRoutes.length).getD m default).toNat default).fPath == ((gM l (aI l (l.fSignals.getD i default).fAt).1).getD j default)) && decide (((bC l).fRoutes.getD ((dX (bC l) (i : Int) (bC l).fRoutes.length).getD m default).toNat default).fLength = fX l ((gM l (aI l (l.fSignals.getD i default).fAt).1).getD j default))) (vi (bU l (l.fSignals.getD i default).fAt.fEl)))), (103, bJ (bQ 32) (.cond ((((bC l).fRoutes.getD ((dX (bC l) (i : Int) (bC l).fRoutes.length).getD m default).toNat default).fPath == ((gM l (aI l (l.fSignals.getD i default).fAt).1).getD j default)) && decide (((bC l).fRoutes.getD ((dX (bC l) (i : Int) (bC l).fRoutes.length).getD m default).toNat default).fLength = fX l ((gM l (aI l (l.fSignals.getD i default).fAt).1).getD j default))) (vb (decide (((bC l).fRoutes.getD ((dX (bC l) (i : Int) (bC l).fRoutes.length).getD m default).toNat default).fApproach = bU l (l.fSignals.getD i default).fAt.fEl))))), (104, bJ (bQ 33) (vb (((((bC l).fRoutes.getD ((dX (bC l) (i : Int) (bC l).fRoutes.length).getD m default).toNat default).fPath == ((gM l (aI l (l.fSignals.getD i default).fAt).1).getD j default)) && decide (((bC l).fRoutes.getD ((dX (bC l) (i : Int) (bC l).fRoutes.length).getD m default).toNat default).fLength = fX l ((gM l (aI l (l.fSignals.getD i default).fAt).1).getD j default))) && decide (((bC l).fRoutes.getD ((dX (bC l) (i : Int) (bC l).fRoutes.length).getD m default).toNat default).fApproach = bU l (l.fSignals.getD i default).fAt.fEl))))]) fH (by kernel_rfl) (by kernel_rfl) ?_ (fun iQ oQ hoQ bQ hbQ KQ hKQ => ?_) ?_
    ·subst hLy hV30 hV59 hV11 hTp hTh hFx hGx
     exact eqs
    ·have hiQ : iQ < 34 := (List.getElem?_eq_some_iff.1 hoQ).1
     match iQ, hiQ with
     | 0, _ | 1, _ | 2, _ | 3, _ | 4, _ | 5, _ | 6, _ | 8, _ | 9, _ | 10, _ | 11, _ | 12, _ | 13, _ | 14, _ | 15, _ | 16, _ | 18, _ | 19, _ | 20, _ | 21, _ | 22, _ | 23, _ | 24, _ | 25, _ | 26, _ | 27, _ | 28, _ | 29, _ | 30, _ | 32, _ | 33, _ =>
      obtain rfl := Option.some.inj hoQ
      simp only [sO, j0, j8, List.getD_cons_succ, List.getD_cons_zero, List.getD_nil, and_true, true_and] at hbQ
      show qY _ _ _ false _ _
      ((try simp only [go_sem, seval, hFk, hLn, hLt, hbQ]); try simp (disch := omega) only [go_sem, seval, hFk, hLn, hLt, hbQ])
      repeat refine And.intro bS ?_
      refine hKQ _ ?_
      ((try simp only [go_sem, seval, hFk, hLn, hLt, hbQ]); try simp (disch := omega) only [go_sem, seval, hFk, hLn, hLt, hbQ]) <;> first | rfl | simp
     | 7, _ =>
      obtain rfl := Option.some.inj hoQ
      simp only [sO, j0, j8, List.getD_cons_succ, List.getD_cons_zero, List.getD_nil, and_true, true_and] at hbQ
      show qY _ _ _ false _ _
      ((try simp only [go_sem, seval, hFk, hLn, hLt, hbQ]); try simp (disch := omega) only [go_sem, seval, hFk, hLn, hLt, hbQ])
      repeat refine And.intro bS ?_
      refine dJ (hcp _) ?_ ?_
      ·rfl
      try ((try simp only [go_sem, seval, hFk, hLn, hLt, hbQ]); try simp (disch := omega) only [go_sem, seval, hFk, hLn, hLt, hbQ])
      repeat refine And.intro bS ?_
      refine hKQ _ ?_
      ((try simp only [go_sem, seval, hFk, hLn, hLt, hbQ]); try simp (disch := omega) only [go_sem, seval, hFk, hLn, hLt, hbQ]) <;> first | rfl | simp
     | 17, _ =>
      obtain rfl := Option.some.inj hoQ
      simp only [sO, j0, j8, List.getD_cons_succ, List.getD_cons_zero, List.getD_nil, and_true, true_and] at hbQ
      show qY _ _ _ false _ _
      ((try simp only [go_sem, seval, hFk, hLn, hLt, hbQ]); try simp (disch := omega) only [go_sem, seval, hFk, hLn, hLt, hbQ])
      repeat refine And.intro bS ?_
      refine jB (fun gQ => hcl _) ?_ ?_ ?_
      ·first | exact fun _ => trivial | simp
      ·rfl
      try ((try simp only [go_sem, seval, hFk, hLn, hLt, hbQ]); try simp (disch := omega) only [go_sem, seval, hFk, hLn, hLt, hbQ])
      refine hKQ _ ?_
      ((try simp only [go_sem, seval, hFk, hLn, hLt, hbQ]); try simp (disch := omega) only [go_sem, seval, hFk, hLn, hLt, hbQ]) <;> first | rfl | simp
     | 31, _ =>
      obtain rfl := Option.some.inj hoQ
      simp only [sO, j0, j8, List.getD_cons_succ, List.getD_cons_zero, List.getD_nil, and_true, true_and] at hbQ
      show qY _ _ _ false _ _
      ((try simp only [go_sem, seval, hFk, hLn, hLt, hbQ]); try simp (disch := omega) only [go_sem, seval, hFk, hLn, hLt, hbQ])
      repeat refine And.intro bS ?_
      refine jB (fun gQ => hcs _) ?_ ?_ ?_
      ·first | exact fun _ => trivial | simp
      ·rfl
      try ((try simp only [go_sem, seval, hFk, hLn, hLt, hbQ]); try simp (disch := omega) only [go_sem, seval, hFk, hLn, hLt, hbQ])
      refine hKQ _ ?_
      ((try simp only [go_sem, seval, hFk, hLn, hLt, hbQ]); try simp (disch := omega) only [go_sem, seval, hFk, hLn, hLt, hbQ]) <;> first | rfl | simp
    refine rF ?_
    refine hK37 _ ?_; clear hK37
    refine aV (fun c6 => ?_) fun c6 => ?_
    ·have hpe : ((bC l).fRoutes.getD ((dX (bC l) (i : Int) (bC l).fRoutes.length).getD m default).toNat default).fPath = ((gM l (aI l (l.fSignals.getD i default).fAt).1).getD j default) := c6.1.1
     refine bE [1, 3, 5, 7, 10, 11, 13, 14, 29, 30, 31, 32, 59, 60, 61, 63, 65, 66, 67] ?_
     refine hK35 _ ?_; clear hK35
     refine bE [1, 3, 5, 7, 10, 11, 13, 14, 29, 30, 31, 32, 59, 60, 61, 63, 65, 66, 67] ?_
     refine hK32 _ _ ?_ ⟨m + 1, rfl, ?_, ?_⟩
     ·exact bI
     ·exact bI
     ((try simp only [go_sem, seval]); try simp (disch := omega) only [go_sem, seval]) <;> (subst hLy hV30 hV59 hV11 hTp hTh hFx hGx; rw [bMh c5 hpe]; first | rfl | simp)
    have hpe : ¬ ((bC l).fRoutes.getD ((dX (bC l) (i : Int) (bC l).fRoutes.length).getD m default).toNat default).fPath = ((gM l (aI l (l.fSignals.getD i default).fAt).1).getD j default) := (by intro h; have hk := bVi hF her c2 c5; unfold rtM at hk; rcases c6 with (hh | hh) | hh; exact hh h; exact hh (hk.1.trans (by rw [h])); exact hh hk.2)
    refine aJ ?_
    refine hK35 _ ?_; clear hK35
    refine bE [1, 3, 5, 7, 10, 11, 13, 14, 29, 30, 31, 32, 59, 60, 61, 63, 65, 66, 67] ?_
    refine hK32 _ _ ?_ ⟨m + 1, rfl, ?_, ?_⟩
    ·exact bI
    ·exact bI
    ((try simp only [go_sem, seval]); try simp (disch := omega) only [go_sem, seval]) <;> (subst hLy hV30 hV59 hV11 hTp hTh hFx hGx; rw [bKi c5 hpe]; first | rfl | simp)
   refine bA ?_
   refine hK30 _ ?_; clear hK30
   refine aC [1, 3, 5, 7, 10, 11, 14, 29, 30, 31, 32, 59, 60, 61] ?_
   refine aV (fun c7 => ?_) fun c7 => ?_
   ·refine aC [] ?_
    refine aM ?_
    refine cW 2 ?_
    refine xb ?_
    ((exact (c7 (bHm hF her c2 (dR c4) (by omega))).elim))
   refine aJ ?_
   refine hK27 _ ?_; clear hK27
   refine bE [1, 3, 5, 7, 10, 11, 29, 30, 31, 32, 59, 60, 61] ?_
   refine hK24 _ _ ?_ ⟨j + 1, rfl, ?_, ?_⟩
   ·exact bI
   ·exact bI
   exact dC
  refine bA ?_
  refine hK22 _ ?_; clear hK22
  refine bE [1, 3, 5, 11, 29, 30, 31, 32] ?_
  refine hK14 _ ?_; clear hK14
  refine bE [1, 3, 5, 29, 30, 31, 32] ?_
  refine hK11 _ _ ?_ ⟨i + 1, rfl, ?_, ?_⟩
  ·exact bI
  ·exact bI
  ((try simp only [go_sem, seval]); try simp (disch := omega) only [go_sem, seval]) <;> (rw [bGz hF her c2]; simp)
 refine bA ?_
 refine hK9 _ ?_; clear hK9
 refine aA fun K40 hK40 => ?_
 refine bL [3, 5] ?_
 refine lB (fun g0 => l0 _) ?_
 refine hK40 _ ?_; clear hK40
 refine aM ?_
 refine cW 2 ?_
 refine xb ?_
 ((have hi : i = l.fSignals.length := (by omega); subst hi; simp [bLh hF her]; done))
end Go.Sg
