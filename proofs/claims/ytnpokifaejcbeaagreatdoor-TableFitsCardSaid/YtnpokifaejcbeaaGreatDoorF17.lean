/- Several texts as one. -/
import Derived.Test.YtnpokifaejcbeaaGreatDoorF16
set_option linter.unusedSectionVars false
set_option linter.unusedVariables false
set_option linter.unusedSimpArgs false
set_option maxRecDepth 20000
namespace Go.Sg
open Go.Proofs
theorem bIt {t : cP} (h : z7 t = true) {i : Nat} (hi : i < t.fRoutes.length) : (gJ (t.fRoutes.getD i default)).length ≤ 240 := by
 unfold z7 at h
 rw [Bool.and_eq_true] at h
 have h3 : fwR (t.fRoutes.getD i default) = true := m9 h.2 hi
 unfold fwR at h3
 have := of_decide_eq_true h3
 unfold gJ
 rw [List.length_append, List.length_append]
 omega
theorem bZy : mZ [.v (.slice none 0 0), .v (.slice none 0 0), .v (.slice none 0 0), vi 0, vi 0] (dK ⟨[], [], [], 0, 0⟩) := .cons (dI.nilL _) (.cons (dI.nilL _) (.cons (dI.nilL _) (.cons (dI.refl _) (.cons (dI.refl _) .nil))))
theorem aTd {l : aB} (hl : eK l) (her : (dP l (cN gP l)).2 = 0) {i j : Nat} (hi : i < (bC l).fRoutes.length) (hj : j < (dQ (gJ ((bC l).fRoutes.getD i default))).length) {s : aN} (hs : s = (dQ (gJ ((bC l).fRoutes.getD i default))).getD j default) : ∃ k : Nat, plI (bC l) s.fEl = (k : Int) ∧ k < (bC l).fHomes.length ∧ (bC l).fHomes.getD k default = bU l s.fEl :=
 bId hl her (dR hi) ((jA _ _).1 (by rw [hs]; exact dR hj))
set_option maxHeartbeats 8000000 in
theorem sK (O : aS) (l : aB) (hok : uF l) : aY Tryz.prog O 8 [.agg (aK l)] (vb true) := by
 refine eE Tryz.func8 ?_
 refine aC [0] ?_
 refine aA fun K1 hK1 => ?_
 refine aA fun K2 hK2 => ?_
 refine bL [1] ?_
 refine eL (t1 _ l) ?_
 refine hK2 _ ?_; clear hK2
 refine aV (fun c0 => ?_) fun c0 => ?_
 ·refine aA fun K3 hK3 => ?_
  refine bL [] ?_
  refine eL (l0 _) ?_
  refine hK3 _ ?_; clear hK3
  refine aM ?_
  refine cW 2 ?_
  exact xd
 have hF : eK l := aRe (by simpa using c0) hok
 refine aJ ?_
 refine hK1 _ ?_; clear hK1
 refine aA fun K4 hK4 => ?_
 refine bL [1] ?_
 refine eL (mA _ l hF) ?_
 refine hK4 _ ?_; clear hK4
 refine aA fun K5 hK5 => ?_
 refine aC [1, 3, 4] ?_
 refine aV (fun c1 => ?_) fun c1 => ?_
 ·have her : ¬ (dP l (cN gP l)).2 = 0 := (by simpa using c1)
  refine aA fun K7 hK7 => ?_
  refine bL [3] ?_
  refine eL (gG [.agg (dK (bC l)), .agg (dK ⟨[], [], [], 0, 0⟩)] (.cons (dI.refl _) (.cons (dI.aggL bZy) .nil)) (aAl _ (bC l) ⟨[], [], [], 0, 0⟩)) ?_
  refine lB (fun g0 => l0 _) ?_
  refine hK7 _ ?_; clear hK7
  refine aM ?_
  refine cW 2 ?_
  refine xb ?_
  ((rw [bEs her]; simp [aJc]))
 have her : (dP l (cN gP l)).2 = 0 := (by simpa using c1)
 have hfw := aXu hF her
 have hn80 := aCv hfw
 refine aJ ?_
 refine hK5 _ ?_; clear hK5
 refine aA fun K8 hK8 => ?_
 refine aC [1, 3] ?_
 refine aL ?_
 refine aZ [1, 3, 31, 32, 33] (fun n ρ => ∃ i, n = (bC l).fRoutes.length - i ∧ (i ≤ (bC l).fRoutes.length) ∧ ρ = dU O [(1, .bx (aK l)), (3, .bx (dK (bC l))), (31, iM (bC l).fRoutes), (32, vi ((bC l).fRoutes.length : Nat)), (33, vi (i : Nat))]) _ ⟨0, rfl, ?_, ?_⟩ ?_
 ·exact bI
 ·exact dC
 rintro n ρ ⟨i, rfl, l0_0, rfl⟩ K10 hK10
 refine aC [1, 3, 30, 31, 32, 33] ?_
 refine aA fun K12 hK12 => ?_
 refine aV (fun c2 => ?_) fun c2 => ?_
 ·have hsl : (gJ ((bC l).fRoutes.getD i default)).length ≤ 240 := bIt hfw c2
  have hfl := aEn (bC l) ((bC l).fRoutes.getD i default).fEntry (bC l).fRoutes.length
  have hs2 := xQ (gJ ((bC l).fRoutes.getD i default))
  refine aJ ?_
  refine hK12 _ ?_; clear hK12
  refine aA fun K13 hK13 => ?_
  refine aL ?_
  refine aC [1, 3, 30, 31, 32, 33] ?_
  refine aC [1, 3, 5, 6, 30, 31, 32, 33] ?_
  refine aA fun K16 hK16 => ?_
  refine aA fun K17 hK17 => ?_
  refine bL [1, 3, 5, 6, 7, 30, 31, 32, 33] ?_
  refine eL (rE _ (bC l) ((bC l).fRoutes.getD i default).fEntry (aCv hfw)) ?_
  refine hK17 _ ?_; clear hK17
  refine aL ?_
  refine aZ [1, 3, 31, 32, 33, 5, 6, 7, 41, 42, 43] (fun n ρ => ∃ j, n = (dX (bC l) ((bC l).fRoutes.getD i default).fEntry (bC l).fRoutes.length).length - j ∧ (j ≤ (dX (bC l) ((bC l).fRoutes.getD i default).fEntry (bC l).fRoutes.length).length) ∧ ρ = dU O [(1, .bx (aK l)), (3, .bx (dK (bC l))), (31, iM (bC l).fRoutes), (32, vi ((bC l).fRoutes.length : Nat)), (33, vi (i : Nat)), (5, vi (i : Nat)), (6, .bx (bB ((bC l).fRoutes.getD i default))), (7, vi (occ (dX (bC l) ((bC l).fRoutes.getD i default).fEntry (bC l).fRoutes.length) (i : Int) j)), (41, dL (dX (bC l) ((bC l).fRoutes.getD i default).fEntry (bC l).fRoutes.length)), (42, vi ((dX (bC l) ((bC l).fRoutes.getD i default).fEntry (bC l).fRoutes.length).length : Nat)), (43, vi (j : Nat))]) _ ⟨0, rfl, ?_, ?_⟩ ?_
  ·exact bI
  ·exact dC
  rintro n ρ ⟨j, rfl, l1_0, rfl⟩ K18 hK18
  have hob := bRf (dX (bC l) ((bC l).fRoutes.getD i default).fEntry (bC l).fRoutes.length) (i : Int) j
  refine aC [1, 3, 5, 6, 7, 30, 31, 32, 33, 41, 42, 43] ?_
  refine aA fun K20 hK20 => ?_
  refine aV (fun c3 => ?_) fun c3 => ?_
  ·refine aJ ?_
   refine hK20 _ ?_; clear hK20
   refine aA fun K21 hK21 => ?_
   refine aL ?_
   refine aC [1, 3, 5, 6, 7, 30, 31, 32, 33, 41, 42, 43] ?_
   refine aC [1, 3, 5, 6, 7, 9, 30, 31, 32, 33, 41, 42, 43] ?_
   refine aV (fun c4 => ?_) fun c4 => ?_
   ·refine bE [1, 3, 5, 6, 7, 30, 31, 32, 33, 41, 42, 43] ?_
    refine hK21 _ ?_; clear hK21
    refine bE [1, 3, 5, 6, 7, 30, 31, 32, 33, 41, 42, 43] ?_
    refine hK18 _ _ ?_ ⟨j + 1, rfl, ?_, ?_⟩
    ·exact bI
    ·exact bI
    ((try simp only [go_sem, seval]); try simp (disch := omega) only [go_sem, seval]) <;> (rw [bPz c3 c4]; rfl)
   refine aJ ?_
   refine hK21 _ ?_; clear hK21
   refine bE [1, 3, 5, 6, 7, 30, 31, 32, 33, 41, 42, 43] ?_
   refine hK18 _ _ ?_ ⟨j + 1, rfl, ?_, ?_⟩
   ·exact bI
   ·exact bI
   ((try simp only [go_sem, seval]); try simp (disch := omega) only [go_sem, seval]) <;> (rw [bPp c3 c4]; rfl)
  have hoc := aZs (bC l) c2 (show j = _ by omega)
  have hfd := bHj hF her c2
  refine bA ?_
  refine hK16 _ ?_; clear hK16
  refine aA fun K24 hK24 => ?_
  refine aA fun K25 hK25 => ?_
  refine bL [1, 3, 5, 6, 7, 30, 31, 32, 33] ?_
  refine lB (fun g1 => rK _ (bC l) ((bC l).fRoutes.getD i default).fName) ?_
  refine hK25 _ ?_; clear hK25
  refine aV (fun c5 => ?_) fun c5 => ?_
  ·refine aC [] ?_
   refine aM ?_
   refine cW 2 ?_
   refine xb ?_
   ((exact (c5.elim (fun h => h hoc) (fun h => h hfd)).elim))
  refine aJ ?_
  refine hK24 _ ?_; clear hK24
  refine aA fun K27 hK27 => ?_
  refine bL [1, 3, 6, 30, 31, 32, 33] ?_
  refine eL (mU _ ((bC l).fRoutes.getD i default) hsl) ?_
  refine hK27 _ ?_; clear hK27
  refine aL ?_
  refine aZ [1, 3, 31, 32, 33, 64, 65, 66] (fun n ρ => ∃ j, n = (dQ (gJ ((bC l).fRoutes.getD i default))).length - j ∧ (j ≤ (dQ (gJ ((bC l).fRoutes.getD i default))).length) ∧ ρ = dU O [(1, .bx (aK l)), (3, .bx (dK (bC l))), (31, iM (bC l).fRoutes), (32, vi ((bC l).fRoutes.length : Nat)), (33, vi (i : Nat)), (64, kI (dQ (gJ ((bC l).fRoutes.getD i default)))), (65, vi ((dQ (gJ ((bC l).fRoutes.getD i default))).length : Nat)), (66, vi (j : Nat))]) _ ⟨0, rfl, ?_, ?_⟩ ?_
  ·exact bI
  ·exact dC
  rintro n ρ ⟨j, rfl, l2_0, rfl⟩ K28 hK28
  refine aC [1, 3, 30, 31, 32, 33, 64, 65, 66] ?_
  refine aA fun K30 hK30 => ?_
  refine aV (fun c6 => ?_) fun c6 => ?_
  ·refine aJ ?_
   refine hK30 _ ?_; clear hK30
   refine aA fun K31 hK31 => ?_
   refine aL ?_
   refine aC [1, 3, 30, 31, 32, 33, 64, 65, 66] ?_
   refine aA fun K33 hK33 => ?_
   refine bL [1, 3, 11, 30, 31, 32, 33, 64, 65, 66] ?_
   refine eL (pY _ (bC l) ((dQ (gJ ((bC l).fRoutes.getD i default))).getD j default).fEl) ?_
   refine hK33 _ ?_; clear hK33
   refine aA fun K34 hK34 => ?_
   obtain ⟨k, hk1, hk2, hk3⟩ := aTd hF her c2 c6 (s := ((dQ (gJ ((bC l).fRoutes.getD i default))).getD j default)) rfl
   rw [hk1]
   refine gY [1, 3, 11, 12, 30, 31, 32, 33, 64, 65, 66] [] ?_
   refine lB (fun g2 => fW _ l ((dQ (gJ ((bC l).fRoutes.getD i default))).getD j default).fEl) ?_
   refine hK34 _ ?_; clear hK34
   refine aV (fun c7 => ?_) fun c7 => ?_
   ·refine aC [] ?_
    refine aM ?_
    refine cW 2 ?_
    exact xd
   refine aJ ?_
   refine hK31 _ ?_; clear hK31
   refine bE [1, 3, 30, 31, 32, 33, 64, 65, 66] ?_
   refine hK28 _ _ ?_ ⟨j + 1, rfl, ?_, ?_⟩
   ·exact bI
   ·exact bI
   exact dC
  refine bA ?_
  refine hK13 _ ?_; clear hK13
  refine bE [1, 3, 30, 31, 32, 33] ?_
  refine hK10 _ _ ?_ ⟨i + 1, rfl, ?_, ?_⟩
  ·exact bI
  ·exact bI
  exact dC
 refine bA ?_
 refine hK8 _ ?_; clear hK8
 refine aA fun K36 hK36 => ?_
 refine gY [1, 3] [] ?_
 refine cdz (pF _ (bC l) hfw) ?_
 refine lB (fun g3 => wF _ l hF) ?_
 refine lB (fun g4 => tQ _ (bC l).fPoints (d8 l)) ?_
 refine lB (fun g5 => l0 _) ?_
 refine hK36 _ ?_; clear hK36
 refine aM ?_
 refine cW 2 ?_
 refine xb ?_
 ((have h1 := aTs hF her; have h2 : (bC l).fPoints = d8 l := (by rw [tH her]); have h3 : (bC l).fHomes.length = (bC l).fPoints.length := (by rw [tH her]; simp); simp [h1, h2, h3]; done))
end Go.Sg
namespace Go.Sg
open Go.Proofs
def lvB (l : aB) (q : List aW) (i : Nat) : Bool := decide (bU l (jS q i).fEl = bU l (gI q).fEl) && decide (bU l (jS q (q.length - 2)).fEl ≠ bU l (gI q).fEl)
def vZ (l : aB) (q : List aW) : Bool := (List.range (q.length - 2)).any (lvB l q)
theorem aXl {l : aB} {q : List aW} {i : Nat} (hi : i < q.length - 2) (h : lvB l q i = true) : vZ l q = true := by
 unfold vZ; rw [List.any_eq_true]; exact ⟨i, List.mem_range.2 hi, h⟩
theorem aUz {l : aB} {q : List aW} (h : ∀ i, i < q.length - 2 → lvB l q i = false) : vZ l q = false := by
 unfold vZ; rw [List.any_eq_false]; intro i hi; rw [h i (List.mem_range.1 hi)]; simp
def okW (l : aB) (p : List aW) : Bool := decide (p.length ≤ 12) && y5 l p && !vZ l p
def uL (l : aB) (q : List aW) : List (List aW) := ((cQ l (bG l (gI q)).1).map fun s => q ++ [s]).filter (okW l)
def vC (l : aB) (q : List aW) (j : Nat) : List (List aW) := (((cQ l (bG l (gI q)).1).take j).map fun s => q ++ [s]).filter (okW l)
theorem bGd {l : aB} {q : List aW} {j : Nat} (hj : j < (cQ l (bG l (gI q)).1).length) (h : okW l (q ++ [(cQ l (bG l (gI q)).1).getD j default]) = true) : vC l q (j + 1) = vC l q j ++ [q ++ [(cQ l (bG l (gI q)).1).getD j default]] := by
 unfold vC; rw [fV default hj, List.map_append, List.filter_append]; show _ ++ List.filter (okW l) [_] = _; rw [List.filter_cons_of_pos h, List.filter_nil]
theorem bJp {l : aB} {q : List aW} {j : Nat} (hj : j < (cQ l (bG l (gI q)).1).length) (h : okW l (q ++ [(cQ l (bG l (gI q)).1).getD j default]) = false) : vC l q (j + 1) = vC l q j := by
 unfold vC; rw [fV default hj, List.map_append, List.filter_append]; show _ ++ List.filter (okW l) [_] = _; rw [List.filter_cons_of_neg (by rw [h]; simp), List.filter_nil, List.append_nil]
theorem aQy {l : aB} {q : List aW} {j : Nat} (hj : (cQ l (bG l (gI q)).1).length ≤ j) : vC l q j = uL l q := by
 unfold vC uL; rw [List.take_of_length_le hj]
theorem aQs (l : aB) (q : List aW) (j : Nat) : (vC l q j).length ≤ 2 := by
 unfold vC
 refine Nat.le_trans (List.length_filter_le _ _) ?_
 rw [List.length_map]
 exact Nat.le_trans (List.length_take_le' _ _) (oF l _)
def phW (q : List aW) : Nat := 3 ^ (12 - q.length)
def jP (W : List (List aW)) : Nat := (W.map phW).sum
theorem kO (q : List aW) : 1 ≤ phW q := Nat.one_le_pow _ _ (by omega)
theorem dZ (q : List aW) (W : List (List aW)) : jP (q :: W) = phW q + jP W := by unfold jP; rw [List.map_cons, List.sum_cons]
theorem nJ (V W : List (List aW)) : jP (V ++ W) = jP V + jP W := by unfold jP; rw [List.map_append, List.sum_append]
theorem yF : ∀ W : List (List aW), W.length ≤ jP W
 | [] => Nat.le_refl _
 | q :: W => by rw [dZ, List.length_cons]; have := kO q; have := yF W; omega
theorem xI {l : aB} {q : List aW} (hq : q.length ≤ 12) : jP (uL l q) < phW q := by
 have key : ∀ L : List aW, jP ((L.map fun s => q ++ [s]).filter (okW l)) ≤ if q.length < 12 then L.length * 3 ^ (11 - q.length) else 0 := by
  intro L
  induction L with
  | nil => simp [jP]
  | cons s L ih =>
   rw [List.map_cons, List.filter_cons]
   split
   ·rename_i hk
    unfold okW at hk
    rw [Bool.and_eq_true, Bool.and_eq_true, decide_eq_true_eq, List.length_append, List.length_singleton] at hk
    have hlt : q.length < 12 := by have := hk.1.1; omega
    rw [if_pos hlt] at ih ⊢
    rw [dZ, List.length_cons, Nat.succ_mul]
    have : phW (q ++ [s]) = 3 ^ (11 - q.length) := by
     unfold phW; rw [List.length_append, List.length_singleton, show 12 - (q.length + 1) = 11 - q.length by omega]
    omega
   refine Nat.le_trans ih ?_
   split
   ·exact Nat.mul_le_mul_right _ (by simp)
   exact Nat.le_refl _
 have h1 := key (cQ l (bG l (gI q)).1)
 have h2 := oF l (bG l (gI q)).1
 unfold uL
 refine Nat.lt_of_le_of_lt h1 ?_
 split
 ·rename_i hlt
  have h3 : phW q = 3 * 3 ^ (11 - q.length) := by
   unfold phW; rw [show 12 - q.length = (11 - q.length) + 1 by omega, Nat.pow_succ, Nat.mul_comm]
  have h4 : 1 ≤ 3 ^ (11 - q.length) := Nat.one_le_pow _ _ (by omega)
  rw [h3]
  calc (cQ l (bG l (gI q)).1).length * 3 ^ (11 - q.length) ≤ 2 * 3 ^ (11 - q.length) := Nat.mul_le_mul_right _ h2
   _ < 3 * 3 ^ (11 - q.length) := by omega
 exact kO q
def wyL (l : aB) : Nat → List (List aW) → List (List aW) → List (List aW)
 | 0, _, D => D
 | _ + 1, [], D => D
 | n + 1, q :: W, D => if iE l (gI q) = true then wyL l n W (D ++ [q]) else wyL l n (W ++ uL l q) D
theorem aEl {l : aB} {q p : List aW} (h : p ∈ uL l q) : p.length ≤ 12 := by
 have := (List.mem_filter.1 h).2
 unfold okW at this
 rw [Bool.and_eq_true, Bool.and_eq_true, decide_eq_true_eq] at this
 exact this.1.1
theorem s8 {l : aB} {D : List (List aW)} : ∀ {n : Nat}, wyL l n [] D = D
 | 0 => rfl
 | _ + 1 => rfl
theorem aDu {l : aB} : ∀ (n m : Nat) (W D : List (List aW)), (∀ q ∈ W, q.length ≤ 12) → jP W ≤ n → jP W ≤ m → wyL l n W D = wyL l m W D
 | n, m, [], D, _, _, _ => by rw [s8, s8]
 | 0, m, q :: W, D, _, h, _ => by rw [dZ] at h; have := kO q; omega
 | n + 1, 0, q :: W, D, _, _, h => by rw [dZ] at h; have := kO q; omega
 | n + 1, m + 1, q :: W, D, hW, h1, h2 => by
  rw [dZ] at h1 h2
  have hp := kO q
  unfold wyL
  split
  ·exact aDu n m W _ (fun x hx => hW x (by simp [hx])) (by omega) (by omega)
  have h3 := xI (l := l) (hW q (by simp))
  refine aDu n m _ _ (fun x hx => ?_) (by rw [nJ]; omega) (by rw [nJ]; omega)
  rcases List.mem_append.1 hx with hx | hx
  ·exact hW x (by simp [hx])
  exact aEl hx
def beg (l : aB) (a : cG) : List (List aW) := (cQ l a).map fun s => [s]
def gM (l : aB) (a : cG) : List (List aW) := wyL l (jP (beg l a)) (beg l a) []
theorem bHw {l : aB} {q : List aW} {W D : List (List aW)} (hW : ∀ x ∈ q :: W, x.length ≤ 12) (he : iE l (gI q) = true) : wyL l (jP (q :: W)) (q :: W) D = wyL l (jP W) W (D ++ [q]) := by
 have hp := kO q
 obtain ⟨m, hm⟩ : ∃ m, jP (q :: W) = m + 1 := ⟨jP (q :: W) - 1, by rw [dZ]; omega⟩
 rw [hm, wyL, if_pos he]
 rw [dZ] at hm
 exact aDu _ _ _ _ (fun x hx => hW x (by simp [hx])) (by omega) (Nat.le_refl _)
theorem bIg {l : aB} {q : List aW} {W D : List (List aW)} (hW : ∀ x ∈ q :: W, x.length ≤ 12) (he : ¬ iE l (gI q) = true) : wyL l (jP (q :: W)) (q :: W) D = wyL l (jP (W ++ uL l q)) (W ++ uL l q) D := by
 have hp := kO q
 have h3 := xI (l := l) (hW q (by simp))
 obtain ⟨m, hm⟩ : ∃ m, jP (q :: W) = m + 1 := ⟨jP (q :: W) - 1, by rw [dZ]; omega⟩
 rw [hm, wyL, if_neg he]
 rw [dZ] at hm
 refine aDu _ _ _ _ (fun x hx => ?_) (by rw [nJ]; omega) (Nat.le_refl _)
 rcases List.mem_append.1 hx with hx | hx
 ·exact hW x (by simp [hx])
 exact aEl hx
theorem aWr {l : aB} {q : List aW} {s : aW} (h0 : 0 < q.length) (hexq : ∀ i, i < q.length → lH l (jS q i).fEl = true) (hes : lH l s.fEl = true) (hcon : aQj l q q.length) :
  wU l (q ++ [s]) (q ++ [s]).length = (eW l (q ++ [s])).length ↔ (bU l s.fEl ≠ mY l q (q.length - 1) → ∀ j, j < q.length → mY l q j ≠ bU l s.fEl) := by
 have hlen : (q ++ [s]).length = q.length + 1 := by simp
 have hexs : ∀ i, i < (q ++ [s]).length → lH l (jS (q ++ [s]) i).fEl = true := fun i hi => by
  simp only [List.length_append, List.length_singleton] at hi
  rcases Nat.lt_or_eq_of_le (Nat.le_of_lt_succ hi) with h | rfl
  ·rw [gB s h]; exact hexq i h
  rw [l2]; exact hes
 have := (uE hexs (q ++ [s]).length (Nat.le_refl _)).2
 rw [List.take_length] at this
 rw [this, hlen]
 have hsn : ∀ i, i < q.length → mY l (q ++ [s]) i = mY l q i := fun i hi => by unfold mY; rw [gB s hi]
 have hsl : mY l (q ++ [s]) q.length = bU l s.fEl := by unfold mY; rw [l2]
 constructor
 ·intro h hne j hj
  have := h q.length (by omega) h0 (by rw [hsl, hsn _ (by omega)]; exact hne) j hj
  rw [hsl, hsn j hj] at this
  exact this
 intro h m hm hm0 hne j hj
 rcases Nat.lt_or_eq_of_le (Nat.le_of_lt_succ hm) with hm | rfl
 ·rw [hsn m hm, hsn (m - 1) (by omega)] at hne
  rw [hsn m hm, hsn j (by omega)]
  exact hcon m hm hm0 hne j hj
 rw [hsl, hsn _ (by omega)] at hne
 rw [hsl, hsn j hj]
 exact h hne j hj
theorem aPc {l : aB} {q : List aW} {s : aW} (h0 : 0 < q.length) : vZ l (q ++ [s]) = false ↔ (bU l s.fEl ≠ mY l q (q.length - 1) → ∀ j, j < q.length → mY l q j ≠ bU l s.fEl) := by
 have hlen : (q ++ [s]).length = q.length + 1 := by simp
 have hlv : ∀ i, i < q.length → lvB l (q ++ [s]) i = (decide (mY l q i = bU l s.fEl) && decide (mY l q (q.length - 1) ≠ bU l s.fEl)) := fun i hi => by
  unfold lvB
  rw [fF, hlen, show q.length + 1 - 2 = q.length - 1 by omega, gB s hi, gB s (show q.length - 1 < q.length by omega)]
 constructor
 ·intro h hne j hj he
  by_cases hj2 : j < q.length - 1
  ·have : vZ l (q ++ [s]) = true := aXl (i := j) (by rw [hlen]; omega) (by rw [hlv j hj, decide_eq_true he, decide_eq_true (Ne.symm hne)]; rfl)
   rw [this] at h; cases h
  have : j = q.length - 1 := by omega
  subst this
  exact hne he.symm
 intro h
 refine aUz fun i hi => ?_
 rw [hlen] at hi
 rw [hlv i (by omega)]
 by_cases hne : mY l q (q.length - 1) ≠ bU l s.fEl
 ·rw [decide_eq_false (h (Ne.symm hne) i (by omega))]; rfl
 rw [decide_eq_false hne, Bool.and_false]
theorem aUx {l : aB} {f : cG} {q : List aW} {s : aW} (h0 : 0 < q.length) (hfit : yH l f q = true) (hs : lH l s.fEl = true) : okW l (q ++ [s]) = yH l f (q ++ [s]) := by
 obtain ⟨⟨q1, q2⟩, q4, q5⟩ := kM.1 hfit
 have hexq : ∀ i, i < q.length → lH l (jS q i).fEl = true := fun i hi => by
  have := q4 i hi
  unfold oG yA at this
  simp only [Bool.and_eq_true] at this
  exact f7.2 (aAg this.1.1)
 have hcon : aQj l q q.length := ((uE hexq q.length (Nat.le_refl _)).2).1 (by rw [List.take_length]; exact q5)
 have hsec := (aWr h0 hexq hs hcon).trans (aPc h0).symm
 have hlen : (q ++ [s]).length = q.length + 1 := by simp
 rw [Bool.eq_iff_iff, kM]
 unfold okW y5
 simp only [Bool.and_eq_true, decide_eq_true_eq, Bool.not_eq_true', List.all_eq_true, List.mem_range]
 rw [← hsec]
 constructor
 ·rintro ⟨⟨h1, _, h2⟩, h3⟩
  exact ⟨⟨⟨by omega, h1⟩, by rw [gB s h0]; exact q2⟩, h2, h3⟩
 rintro ⟨⟨⟨h1, h2⟩, _⟩, h3, h4⟩
 exact ⟨⟨h2, ⟨by omega, by omega⟩, h3⟩, h4⟩
def aIt (l : aB) (q : List aW) : List (List aW) := if iE l (gI q) = true then [q] else n0 l (13 - q.length) (bG l (gI q)).1 q
theorem aLp {l : aB} {a : cG} {q : List aW} (hq : q.length < 12) (ho : kQ l q a.fEl = true) : n0 l (13 - q.length) a q = (cQ l a).flatMap fun s => aIt l (q ++ [s]) := by
 rw [show 13 - q.length = (12 - q.length) + 1 by omega, n0, if_neg (by rw [ho]; simp; omega)]
 congr 1
 funext s
 unfold aIt
 rw [fF, List.length_append, List.length_singleton, show 13 - (q.length + 1) = 12 - q.length by omega]
theorem bCe {l : aB} {f : cG} {q : List aW} (h0 : 0 < q.length) (hfit : yH l f q = true) (he : ¬ iE l (gI q) = true) : aIt l q = (uL l q).flatMap (aIt l) := by
 have hinv : bEp l f (bG l (gI q)).1 q := .inr ⟨h0, hfit, vA he⟩
 have hnx : ∀ s ∈ cQ l (bG l (gI q)).1, okW l (q ++ [s]) = true ↔ q.length < 12 ∧ kQ l q (bG l (gI q)).1.fEl = true := fun s hs => by
  obtain ⟨b1, _, _, b4⟩ := oJ hs
  rw [aUx h0 hfit (by rw [b1]; exact b4)]
  exact aGd hinv hs
 rw [show aIt l q = n0 l (13 - q.length) (bG l (gI q)).1 q from if_neg he]
 unfold uL
 by_cases hc : q.length < 12 ∧ kQ l q (bG l (gI q)).1.fEl = true
 ·rw [aLp hc.1 hc.2, List.filter_eq_self.2 fun p hp => ?_, List.flatMap_map]
  obtain ⟨s, hs, rfl⟩ := List.mem_map.1 hp
  exact (hnx s hs).2 hc
 rw [List.filter_eq_nil_iff.2 fun p hp => ?_]
 ·obtain ⟨⟨q1, _⟩, _⟩ := kM.1 hfit
  rw [show 13 - q.length = (12 - q.length) + 1 by omega, n0, if_pos]
  ·rfl
  by_cases h12 : q.length = 12
  ·exact .inl h12
  right
  cases hx : kQ l q (bG l (gI q)).1.fEl with
  | false => rfl
  | true => exact absurd ⟨by omega, hx⟩ hc
 obtain ⟨s, hs, rfl⟩ := List.mem_map.1 hp
 exact fun h => hc ((hnx s hs).1 h)
theorem aYl {l : aB} {f : cG} {q : List aW} (h0 : 0 < q.length) (hfit : yH l f q = true) : ∀ p ∈ uL l q, 0 < p.length ∧ yH l f p = true := fun p hp => by
 obtain ⟨h1, h2⟩ := List.mem_filter.1 hp
 obtain ⟨s, hs, rfl⟩ := List.mem_map.1 h1
 obtain ⟨b1, _, _, b4⟩ := oJ hs
 exact ⟨by simp, by rw [← aUx h0 hfit (by rw [b1]; exact b4)]; exact h2⟩
theorem yO {l : aB} {f : cG} : ∀ (n : Nat) (W D : List (List aW)), (∀ q ∈ W, 0 < q.length ∧ yH l f q = true) → jP W ≤ n → (wyL l n W D).Perm (D ++ W.flatMap (aIt l))
 | n, [], D, _, _ => by rw [s8, List.flatMap_nil, List.append_nil]
 | 0, q :: W, D, _, h => by rw [dZ] at h; have := kO q; omega
 | n + 1, q :: W, D, hW, h => by
  rw [dZ] at h
  have hp := kO q
  obtain ⟨h0, hfit⟩ := hW q (by simp)
  have h12 : q.length ≤ 12 := (kM.1 hfit).1.1.2
  unfold wyL
  split
  ·rename_i he
   refine (yO (f := f) n W _ (fun x hx => hW x (by simp [hx])) (by omega)).trans ?_
   rw [List.flatMap_cons, show aIt l q = [q] from if_pos he, List.append_assoc]
  rename_i he
  have h3 := xI (l := l) h12
  refine (yO (f := f) n _ D (fun x hx => ?_) (by rw [nJ]; omega)).trans ?_
  ·rcases List.mem_append.1 hx with hx | hx
   ·exact hW x (by simp [hx])
   exact aYl h0 hfit x hx
  rw [List.flatMap_cons, bCe h0 hfit he, List.flatMap_append]
  exact List.Perm.append_left _ List.perm_append_comm
theorem bDh {l : aB} {a : cG} : ∀ q ∈ beg l a, 0 < q.length ∧ yH l a q = true := fun q hq => by
 obtain ⟨s, hs, rfl⟩ := List.mem_map.1 hq
 exact ⟨by simp, (aGd (q := []) (.inl ⟨rfl, rfl⟩) hs).2 ⟨by simp, rfl⟩⟩
theorem tJ (l : aB) (a : cG) : (gM l a).Perm (n0 l 13 a []) := by
 refine (yO (f := a) _ _ _ bDh (Nat.le_refl _)).trans ?_
 have : n0 l 13 a [] = (cQ l a).flatMap fun s => aIt l ([] ++ [s]) := aLp (q := []) (by simp) rfl
 rw [this, List.nil_append, beg, List.flatMap_map]
 exact List.Perm.refl _
theorem bAi (l : aB) (a : cG) : (gM l a).length ≤ 8192 := by
 rw [(tJ l a).length_eq]; exact xB l 13 a []
theorem aLc (l : aB) : ∀ (n : Nat) (W D : List (List aW)), D.length ≤ (wyL l n W D).length
 | 0, _, _ => Nat.le_refl _
 | _ + 1, [], _ => Nat.le_refl _
 | n + 1, q :: W, D => by
  unfold wyL
  split
  ·have := aLc l n W (D ++ [q]); rw [List.length_append] at this; omega
  exact aLc l n _ D
theorem aZh (k i : Int) : (cV k i).Nodup := by
 unfold cV mI
 have hk : k = 1 ∨ k = 2 ∨ k = 3 ∨ (k ≠ 1 ∧ k ≠ 2 ∧ k ≠ 3) := by omega
 have hi : i = 0 ∨ i = 1 ∨ i = 2 ∨ i = 3 ∨ (i ≠ 0 ∧ i ≠ 1 ∧ i ≠ 2 ∧ i ≠ 3) := by omega
 rcases hk with rfl | rfl | rfl | ⟨h1, h2, h3⟩
 ·rcases hi with rfl | rfl | rfl | rfl | ⟨q0, q1, q2, q3⟩ <;> first | decide | (simp [f9, List.filter_cons, Ne.symm q0, Ne.symm q1, Ne.symm q2, Ne.symm q3])
 ·rcases hi with rfl | rfl | rfl | rfl | ⟨q0, q1, q2, q3⟩ <;> first | decide | (simp [f9, List.filter_cons, Ne.symm q0, Ne.symm q1, Ne.symm q2, Ne.symm q3])
 ·rcases hi with rfl | rfl | rfl | rfl | ⟨q0, q1, q2, q3⟩ <;> first | decide | (simp [f9, List.filter_cons, Ne.symm q0, Ne.symm q1, Ne.symm q2, Ne.symm q3])
 simp [f9, List.filter_cons, Ne.symm h1, Ne.symm h2, Ne.symm h3]
theorem bHa (l : aB) (a : cG) : (cQ l a).Nodup := by
 unfold cQ
 split
 ·unfold List.Nodup
  rw [List.pairwise_map]
  exact (aZh _ _).imp fun h e => h ((aCz _ _).1 e).2.2
 exact List.nodup_nil
theorem aNg {l : aB} : ∀ {n : Nat} {a : cG} {q p : List aW}, p ∈ n0 l n a q → ∃ s ∈ cQ l a, (q ++ [s]) <+: p
 | 0, _, _, _, h => by cases h
 | n + 1, a, q, p, h => by
  unfold n0 at h
  split at h
  ·cases h
  obtain ⟨s, hs, hp⟩ := List.mem_flatMap.1 h
  refine ⟨s, hs, ?_⟩
  split at hp
  ·rw [List.mem_singleton.1 hp]; exact List.prefix_refl _
  obtain ⟨s', _, h'⟩ := aNg hp
  exact (List.prefix_append _ _).trans h'
theorem aTt {l : aB} : ∀ (n : Nat) (a : cG) (q : List aW), (n0 l n a q).Nodup
 | 0, _, _ => List.nodup_nil
 | n + 1, a, q => by
  unfold n0
  split
  ·exact List.nodup_nil
  unfold List.Nodup
  rw [List.pairwise_flatMap]
  have pre : ∀ s p, p ∈ (if iE l s = true then [q ++ [s]] else n0 l n (bG l s).1 (q ++ [s])) → (q ++ [s]) <+: p := fun s p hp => by
   split at hp
   ·rw [List.mem_singleton.1 hp]; exact List.prefix_refl _
   obtain ⟨s', _, h'⟩ := aNg hp
   exact (List.prefix_append _ _).trans h'
  refine ⟨fun s _ => ?_, (bHa l a).imp fun {s s'} hne x hx y hy e => hne ?_⟩
  ·split
   ·exact List.pairwise_singleton _ _
   exact aTt n _ _
  have h1 := pre s x hx
  have h2 := pre s' y hy
  rw [← e] at h2
  have h3 := List.prefix_of_prefix_length_le h1 h2 (by simp)
  have h4 := h3.eq_of_length (by simp)
  simpa using h4
theorem aWw {α : Type} [Inhabited α] (p : α → Bool) (L : List α) : ((List.range L.length).filter fun k => p (L.getD k default)).map (fun k => L.getD k default) = L.filter p := by
 have key : ∀ n, n ≤ L.length → ((List.range n).filter fun k => p (L.getD k default)).map (fun k => L.getD k default) = (L.take n).filter p := by
  intro n
  induction n with
  | zero => intro _; simp
  | succ n ih =>
   intro hn
   rw [List.range_succ, List.filter_append, List.map_append, ih (by omega), fV default (show n < L.length by omega), List.filter_append]
   congr 1
   cases h : p (L.getD n default) with
   | false => rw [List.filter_cons_of_neg (by show ¬ p (L.getD n default) = true; rw [h]; simp), List.filter_cons_of_neg (by rw [h]; simp)]; rfl
   | true => rw [List.filter_cons_of_pos (p := fun k => p (L.getD k default)) h, List.filter_cons_of_pos h]; rfl
 have := key L.length (Nat.le_refl _)
 rwa [List.take_length] at this
section
variable {l : aB} (hl : eK l) (her : (dP l (cN gP l)).2 = 0)
include hl her
theorem aCy {i : Nat} (hi : i < l.fSignals.length) : (dX (bC l) (i : Int) (bC l).fRoutes.length).map (fun k => (bC l).fRoutes.getD k.toNat default) = (cN gP l (i : Int)).map (lX l) := by
 have e := tH her
 have eR : (bC l).fRoutes = (fI (cN gP l) l.fSignals.length).map (lX l) := by rw [e, tO her]
 unfold dX
 rw [List.map_map]
 have h1 := aWw (fun r : a8 => decide (r.fEntry = (i : Int))) (bC l).fRoutes
 have h2 : ((fun k : Int => (bC l).fRoutes.getD k.toNat default) ∘ fun k : Nat => (k : Int)) = fun k => (bC l).fRoutes.getD k default := by funext k; simp
 rw [h2, h1, eR, List.filter_map]
 congr 1
 have h3 : ((fun r : a8 => decide (r.fEntry = (i : Int))) ∘ lX l) = fun r => decide (r.fEntry = (i : Int)) := by funext r; rfl
 rw [h3]
 have key : ∀ n, n ≤ l.fSignals.length → (fI (cN gP l) n).filter (fun r => decide (r.fEntry = (i : Int))) = if i < n then cN gP l (i : Int) else [] := by
  intro n
  induction n with
  | zero => intro _; rfl
  | succ n ih =>
   intro hn
   rw [s6, List.filter_append, ih (by omega)]
   by_cases hin : i = n
   ·subst hin
    rw [if_neg (by omega), if_pos (by omega), List.nil_append, List.filter_eq_self.2 fun r hr => decide_eq_true (sY (by omega) hr).en]
   have : (cN gP l (n : Int)).filter (fun r => decide (r.fEntry = (i : Int))) = [] := List.filter_eq_nil_iff.2 fun r hr => by
    have := (sY (show n < l.fSignals.length by omega) hr).en
    rw [decide_eq_true_eq, this]; omega
   rw [this, List.append_nil]
   by_cases h1 : i < n
   ·rw [if_pos h1, if_pos (by omega)]
   rw [if_neg h1, if_neg (by omega)]
 rw [key _ (Nat.le_refl _), if_pos hi]
theorem aNp {i : Nat} (hi : i < l.fSignals.length) : (aI l (l.fSignals.getD i default).fAt).2 = true := by
 have h := (aRt (sZ her)).2.2.2.2
 unfold sgI at h
 split at h
 ·split at h
  ·split at h
   ·rename_i h3
    have := m9 h3 hi
    unfold aAp at this
    rw [Bool.and_eq_true] at this
    exact this.1
   cases h
  cases h
 cases h
def atE (l : aB) (i : Nat) : cG := (aI l (l.fSignals.getD i default).fAt).1
theorem aGp {i : Nat} (hi : i < l.fSignals.length) : (cN gP l (i : Int)).map (·.fPath) = n0 l 13 (atE l i) [] := by
 rw [aDz gP l hi, if_neg (by rw [aNp hl her hi]; simp)]
 show (m7 l (i : Int) (n0 l 13 (atE l i) []) (n0 l 13 (atE l i) []).length).map (·.fPath) = _
 generalize n0 l 13 (atE l i) [] = P
 unfold m7
 rw [List.map_map]
 have : ((fun r : a8 => r.fPath) ∘ nbR l (i : Int) P) = fun k => P.getD k [] := by
  funext k
  show (nbR l (i : Int) P k).fPath = _
  unfold nbR
  rw [(zU _ _).1]; rfl
 rw [this]
 refine List.ext_getElem (by simp) fun j h1 h2 => ?_
 simp [List.getD_eq_getElem?_getD, h2]
theorem aGq {i : Nat} (hi : i < l.fSignals.length) : (dX (bC l) (i : Int) (bC l).fRoutes.length).length = (cN gP l (i : Int)).length := by
 have := congrArg List.length (aCy hl her hi)
 simpa using this
theorem bKt {i : Nat} (hi : i < l.fSignals.length) : (gM l (atE l i)).length = (dX (bC l) (i : Int) (bC l).fRoutes.length).length := by
 have h := congrArg List.length (aGp hl her hi)
 rw [List.length_map] at h
 rw [aGq hl her hi, h, (tJ l (atE l i)).length_eq]
end
def rtM (T : cP) (k : Int) : a8 := T.fRoutes.getD k.toNat default
def vL (T : cP) (w : List aW) (M : List Int) (m : Nat) : Int := ((M.take m).countP fun k => decide ((rtM T k).fPath = w) : Nat)
section
variable {T : cP} {w : List aW} {M : List Int} {m : Nat}
theorem bIe : 0 ≤ vL T w M m ∧ vL T w M m ≤ (m : Int) := by
 unfold vL
 have h1 : (M.take m).countP (fun k => decide ((rtM T k).fPath = w)) ≤ (M.take m).length := List.countP_le_length
 have h2 := List.length_take_le m M
 omega
theorem bMh (hm : m < M.length) (h : (rtM T (M.getD m default)).fPath = w) : vL T w M (m + 1) = vL T w M m + 1 := by
 unfold vL
 rw [fV default hm, List.countP_append, List.countP_singleton, decide_eq_true h]
 simp
theorem bKi (hm : m < M.length) (h : ¬ (rtM T (M.getD m default)).fPath = w) : vL T w M (m + 1) = vL T w M m := by
 unfold vL
 rw [fV default hm, List.countP_append, List.countP_singleton, decide_eq_false h]
 simp
end
theorem aYz {T : cP} {s : Int} {n m : Nat} (hm : m < (dX T s n).length) : 0 ≤ (dX T s n).getD m default ∧ (dX T s n).getD m default < (n : Int) := by
 have h := dR hm
 unfold dX at h
 obtain ⟨k, hk, e⟩ := List.mem_map.1 h
 have hk := List.mem_range.1 (List.mem_filter.1 hk).1
 unfold dX
 rw [← e]; omega
theorem aAc (fr : Int → List a8) {i : Nat} : ∀ {n : Nat}, i ≤ n → (fI fr i).length ≤ (fI fr n).length
 | 0, h => by rw [Nat.le_zero.1 h]; exact Nat.le_refl _
 | n + 1, h => by
  rcases Nat.lt_or_eq_of_le h with h | h
  ·rw [s6, List.length_append]; have := aAc fr (Nat.le_of_lt_succ h); omega
  rw [h]; exact Nat.le_refl _
theorem aHa {α : Type} [DecidableEq α] {x : α} : ∀ {L : List α}, L.Nodup → x ∈ L → L.countP (fun y => decide (y = x)) = 1
 | [], _, h => by cases h
 | y :: L, hn, h => by
  rw [List.nodup_cons] at hn
  rw [List.countP_cons]
  by_cases e : y = x
  ·subst e
   have : L.countP (fun z => decide (z = y)) = 0 := List.countP_eq_zero.2 fun z hz hd => hn.1 (by rw [← of_decide_eq_true hd]; exact hz)
   simp [this]
  rcases List.mem_cons.1 h with h | h
  ·exact absurd h.symm e
  rw [aHa hn.2 h]; simp [e]
section
variable {l : aB} (hl : eK l) (her : (dP l (cN gP l)).2 = 0)
include hl her
theorem aOv {i : Nat} (hi : i < l.fSignals.length) : ((dX (bC l) (i : Int) (bC l).fRoutes.length).map fun k => (rtM (bC l) k).fPath) = n0 l 13 (atE l i) [] := by
 rw [← aGp hl her hi]
 have h := congrArg (List.map fun r : a8 => r.fPath) (aCy hl her hi)
 rw [List.map_map, List.map_map] at h
 exact h
theorem bHm {i : Nat} (hi : i < l.fSignals.length) {w : List aW} (hw : w ∈ gM l (atE l i)) {m : Nat} (hm : m = (dX (bC l) (i : Int) (bC l).fRoutes.length).length) : vL (bC l) w (dX (bC l) (i : Int) (bC l).fRoutes.length) m = 1 := by
 unfold vL
 rw [hm, List.take_length]
 have h1 := aOv hl her hi
 have h2 : (dX (bC l) (i : Int) (bC l).fRoutes.length).countP (fun k => decide ((rtM (bC l) k).fPath = w)) = (n0 l 13 (atE l i) []).countP fun p => decide (p = w) := by
  rw [← h1, List.countP_map]; rfl
 rw [h2, aHa (aTt _ _ _) ((tJ l (atE l i)).mem_iff.1 hw)]; rfl
theorem aVn {i : Nat} {w : List aW} (hw : w ∈ gM l (atE l i)) : w.length ≤ 12 :=
 (tL (q := []) (by simp) List.Pairwise.nil ((tJ l (atE l i)).mem_iff.1 hw)).2.1
theorem bVi {i m : Nat} (hi : i < l.fSignals.length) (hm : m < (dX (bC l) (i : Int) (bC l).fRoutes.length).length) : (rtM (bC l) ((dX (bC l) (i : Int) (bC l).fRoutes.length).getD m default)).fLength = fX l (rtM (bC l) ((dX (bC l) (i : Int) (bC l).fRoutes.length).getD m default)).fPath ∧ (rtM (bC l) ((dX (bC l) (i : Int) (bC l).fRoutes.length).getD m default)).fApproach = bU l (l.fSignals.getD i default).fAt.fEl := by
 have h : rtM (bC l) ((dX (bC l) (i : Int) (bC l).fRoutes.length).getD m default) ∈ (cN gP l (i : Int)).map (lX l) := by
  rw [← aCy hl her hi]
  exact List.mem_map.2 ⟨_, dR hm, rfl⟩
 obtain ⟨r, hr, e⟩ := List.mem_map.1 h
 have hq := sY hi hr
 rw [← e]
 exact ⟨hq.len, hq.app⟩
theorem bGz {i : Nat} (hi : i < l.fSignals.length) : (fI (cN gP l) (i + 1)).length = (fI (cN gP l) i).length + (dX (bC l) (i : Int) (bC l).fRoutes.length).length := by
 rw [s6, List.length_append, aGq hl her hi]
theorem bLh : (fI (cN gP l) l.fSignals.length).length = (bC l).fRoutes.length := by
 rw [tH her, tO her]; simp
theorem aSv {i : Nat} (hi : i ≤ l.fSignals.length) : (fI (cN gP l) i).length ≤ 48 := by
 have h1 := xH l
 rw [tO her] at h1
 exact Nat.le_trans (aAc _ hi) h1
end
end Go.Sg
namespace Go.Sg
open Go.Proofs
theorem wS (O : aS) (l : aB) (q : List aW) (hq0 : 0 < q.length) (hq : q.length ≤ 100) : aY Tryz.prog O 58 [.agg (aK l), b8 q] (vb (vZ l q)) := by
 have hn1 : ((q.length : Int) - 1).toNat = q.length - 1 := (by omega)
 have hn2 : ((q.length : Int) - 1 - 1).toNat = q.length - 2 := (by omega)
 refine aU 1 rfl (.sl _ _ _) fun hql => ?_
 refine eE Tryz.func58 ?_
 refine aA fun K0 hK0 => ?_
 refine aX [0, 1] (by kernel_rfl) ?_
 ((try simp only [go_sem, seval, hn1, hn2]); try simp (disch := omega) only [go_sem, seval, hn1, hn2])
 repeat refine And.intro bS ?_
 refine hK0 _ ?_; clear hK0
 refine aA fun K1 hK1 => ?_
 refine aX [1, 2] (by kernel_rfl) ?_
 ((try simp only [go_sem, seval, hn1, hn2]); try simp (disch := omega) only [go_sem, seval, hn1, hn2])
 repeat refine And.intro bS ?_
 refine hK1 _ ?_; clear hK1
 refine aA fun K2 hK2 => ?_
 refine eV [1, 2, 5] [] fH (by kernel_rfl) ?_
 ((try simp only [go_sem, seval, hn1, hn2]); try simp (disch := omega) only [go_sem, seval, hn1, hn2])
 repeat refine And.intro bS ?_
 refine dJ (fW _ l (gI q).fEl) ?_ ?_
 ·rfl
 try ((try simp only [go_sem, seval, hn1, hn2]); try simp (disch := omega) only [go_sem, seval, hn1, hn2])
 repeat refine And.intro bS ?_
 refine hK2 _ ?_; clear hK2
 refine aA fun K3 hK3 => ?_
 refine aA fun K4 hK4 => ?_
 refine aX [1, 2, 5, 6] (by kernel_rfl) ?_
 ((try simp only [go_sem, seval, hn1, hn2]); try simp (disch := omega) only [go_sem, seval, hn1, hn2])
 repeat refine And.intro bS ?_
 refine hK4 _ ?_; clear hK4
 refine aL ?_
 refine aZ [1, 2, 5, 6, 7] (fun n ρ => ∃ i, n = q.length - i ∧ (i ≤ q.length) ∧ (∀ k, k < i → k < q.length - 2 → lvB l q k = false) ∧ ρ = dU O [(1, b8 q), (2, .bx (aK l)), (5, vi ((q.length : Int) - 1)), (6, vi (bU l (gI q).fEl)), (7, vi (i : Nat))]) _ ⟨0, rfl, ?_, ?_, ?_⟩ ?_
 ·exact bI
 ·intro k hk; omega
 ·((try simp only [go_sem, seval, hn1, hn2]); try simp (disch := omega) only [go_sem, seval, hn1, hn2]) <;> first | rfl | omega | simp | simp_all
 rintro n ρ ⟨i, rfl, l0_0, l0_1, rfl⟩ K5 hK5
 refine aA fun K6 hK6 => ?_
 refine aA fun K7 hK7 => ?_
 refine aX [1, 2, 5, 6, 7] (by kernel_rfl) ?_
 ((try simp only [go_sem, seval, hn1, hn2]); try simp (disch := omega) only [go_sem, seval, hn1, hn2])
 repeat refine And.intro bS ?_
 refine hK7 _ ?_; clear hK7
 refine aV (fun c0 => ?_) fun c0 => ?_
 ·refine aJ ?_
  refine hK6 _ ?_; clear hK6
  refine aA fun K8 hK8 => ?_
  refine aL ?_
  refine aA fun K9 hK9 => ?_
  refine eV [1, 2, 5, 6, 7] [] fH (by kernel_rfl) ?_
  ((try simp only [go_sem, seval, hn1, hn2]); try simp (disch := omega) only [go_sem, seval, hn1, hn2])
  repeat refine And.intro bS ?_
  refine dJ (fW _ l (jS q i).fEl) ?_ ?_
  ·rfl
  try ((try simp only [go_sem, seval, hn1, hn2]); try simp (disch := omega) only [go_sem, seval, hn1, hn2])
  repeat refine And.intro bS ?_
  refine jB (fun g0 => fW _ l (jS q (q.length - 2)).fEl) ?_ ?_ ?_
  ·first | exact fun _ => trivial | simp
  ·rfl
  try ((try simp only [go_sem, seval, hn1, hn2]); try simp (disch := omega) only [go_sem, seval, hn1, hn2])
  repeat refine And.intro bS ?_
  refine hK9 _ ?_; clear hK9
  refine aV (fun c1 => ?_) fun c1 => ?_
  ·refine aA fun K10 hK10 => ?_
   refine aX [] (by kernel_rfl) ?_
   ((try simp only [go_sem, seval, hn1, hn2]); try simp (disch := omega) only [go_sem, seval, hn1, hn2])
   repeat refine And.intro bS ?_
   refine hK10 _ ?_; clear hK10
   refine aM ?_
   refine cK 4 rfl (by ((try simp only [go_sem, seval, hn1, hn2]); try simp (disch := omega) only [go_sem, seval, hn1, hn2])) ?_
   exact dE.is (by ((try simp only [go_sem, seval, hn1, hn2]); try simp (disch := omega) only [go_sem, seval, hn1, hn2]) <;> refine congrArg vb ?_ <;> ((symm; exact aXl (i := i) (by omega) (by unfold lvB; simpa using c1)))) rfl rfl
  refine aJ ?_
  refine hK8 _ ?_; clear hK8
  refine aX [1, 2, 5, 6, 7] (by kernel_rfl) ?_
  ((try simp only [go_sem, seval, hn1, hn2]); try simp (disch := omega) only [go_sem, seval, hn1, hn2])
  repeat refine And.intro bS ?_
  refine hK5 _ _ ?_ ⟨i + 1, rfl, ?_, ?_, ?_⟩
  ·exact bI
  ·exact bI
  ·(intro k hk hk2; rcases Nat.lt_or_eq_of_le (Nat.le_of_lt_succ hk) with h | h; exact l0_1 k h hk2; subst h; unfold lvB; rw [← Bool.not_eq_true]; intro hx; rw [Bool.and_eq_true, decide_eq_true_eq, decide_eq_true_eq] at hx; exact c1.elim (fun h => h hx.1) (fun h => hx.2 h))
  ((try simp only [go_sem, seval, hn1, hn2]); try simp (disch := omega) only [go_sem, seval, hn1, hn2]) <;> first | rfl | omega | simp | simp_all
 refine bA ?_
 refine hK3 _ ?_; clear hK3
 refine aA fun K11 hK11 => ?_
 refine aX [] (by kernel_rfl) ?_
 ((try simp only [go_sem, seval, hn1, hn2]); try simp (disch := omega) only [go_sem, seval, hn1, hn2])
 repeat refine And.intro bS ?_
 refine hK11 _ ?_; clear hK11
 refine aM ?_
 refine cK 4 rfl (by ((try simp only [go_sem, seval, hn1, hn2]); try simp (disch := omega) only [go_sem, seval, hn1, hn2])) ?_
 exact dE.is (by ((try simp only [go_sem, seval, hn1, hn2]); try simp (disch := omega) only [go_sem, seval, hn1, hn2]) <;> refine congrArg vb ?_ <;> ((symm; exact aUz (fun k hk => l0_1 k (by omega) hk)))) rfl rfl
end Go.Sg
namespace Go.Sg
open Go.RowKit
open Go.Rv (FR)
section
variable {P : Program} {nt : Nat} {ρ : aS}
theorem vF {w : World} {t ty e : TypeId} {i : TypeInfo} (ht : P.underlying t = some (.slice e)) (hi : P.info? e = some i)
  {g off sLen sCap : Nat} {cur : Array Value} {e2 : TypeId} (hg : w.heap[g]? = some (.cells cur e2 (0, 0)))
  {a : Addr} {m c : Nat} {news : List Value} (hl : news.length = m * i.size) (hnews : ∀ j u, news[j]? = some u → w.cell? (a.add j) = some u) (h1 : ∀ u ∈ news, u.oneCell' = true)
  (hroom : sLen + m ≤ sCap) (hfit : off + sLen * i.size + news.length ≤ cur.size) :
  (Builtin.append_ #[t, t] ty #[.slice (some ⟨g, off, none⟩) sLen sCap, .slice (some a) m c]).run P w =
   .ok (.slice (some ⟨g, off, none⟩) (sLen + m) sCap) (w.setRow g (cur.toList.take (off + sLen * i.size) ++ news ++ cur.toList.drop (off + sLen * i.size + news.length)).toArray) := by
 have hf := run_firstCells_some (P := P) w i.size m a m c news hl hnews
 have hst := run_storeCells_at P g (off + sLen * i.size) e2 news 0 cur w hg (by simpa using hfit) h1
 simp only [Nat.add_zero] at hst
 simp [Builtin.append_, run_underlying ht, sizeOf, typeInfo, hi, Builtin.lenOf, hroom, hf, Addr.add_lit, hst]
structure QI (h : Hd) (L : List (List DV)) (b : Option Addr) (n c : Nat) (W : List (List DV)) : Prop where
 len : n = W.length
 pos : (c = 0 ∧ W = []) ∨ ∃ g k, h.B = some g ∧ b = some ⟨g, k, none⟩ ∧ k + c = h.c ∧ k ≤ L.length ∧ W = L.drop k ∧ L.length ≤ h.c
section
variable {h : Hd} {L : List (List DV)} {b : Option Addr} {n c : Nat} {W : List (List DV)} {x : List DV}
theorem QI.front (hq : QI h L b n c (x :: W)) : ∃ g k, h.B = some g ∧ b = some ⟨g, k, none⟩ ∧ L[k]? = some x ∧ 0 < n ∧ n ≤ c := by
 rcases hq.pos with ⟨_, h2⟩ | ⟨g, k, h1, h2, h3, h4, h5, h6⟩
 ·cases h2
 have hl := hq.len
 have : (x :: W).length = L.length - k := by rw [h5, List.length_drop]
 refine ⟨g, k, h1, h2, ?_, by rw [hl]; simp, by omega⟩
 have := List.getElem?_drop (xs := L) (i := k) (j := 0)
 rw [← h5] at this
 simpa using this.symm
theorem QI.tail (hq : QI h L b n c (x :: W)) : QI h L (if c = 1 then b else b.map (·.add 1)) (n - 1) (c - 1) W := by
 rcases hq.pos with ⟨_, h2⟩ | ⟨g, k, h1, h2, h3, h4, h5, h6⟩
 ·cases h2
 have hl := hq.len
 have hlen : (x :: W).length = L.length - k := by rw [h5, List.length_drop]
 simp only [List.length_cons] at hl hlen
 refine ⟨by omega, ?_⟩
 by_cases hc : c = 1
 ·left
  exact ⟨by omega, List.eq_nil_of_length_eq_zero (by omega)⟩
 right
 refine ⟨g, k + 1, h1, ?_, by omega, by omega, ?_, h6⟩
 ·rw [if_neg hc, h2]; rfl
 rw [← List.drop_drop, ← h5]; rfl
end
theorem aNa {σ : Type} {F : σ → World → (Nat → Prop) → cO → Prop} {ops : Array Oper} {s : σ} {o : Oper} {K : σ → aS → Prop} (hg : o.guard = none)
  (h : ∀ I A a w, b9 nt w I A ρ a → F s w I A → ∃ x w' I' A' ρ' s', (execOp a.eval o).run P w = .ok (.value x) w' ∧ b9 nt w' I' A' ρ' (a.put o.dst x) ∧ F s' w' I' A' ∧ K s' ρ') : gN P nt F ops o K s ρ := by
 intro ro ds I A a w hs hd hf next Q' hn
 obtain ⟨x, w', I', A', ρ', s', h1, h2, h3, h4⟩ := h I A a w hs hf
 rw [if_pos (by simp [Region.wanted, hg])]
 exact nK h1 (hn I' A' _ w' ρ' s' h2 (by rw [d4]; exact hd) h3 h4)
theorem bBs {ops : Array Oper} {o : Oper} {K : aS → Prop} {t : TypeId} {x y : Operand} {g k n c : Nat} {kk : IntKind} {i : Int} (hop : o.op = .indexAddr t x y) (hg : o.guard = none) (ho : dA nt o = true) (hd : eO nt o = true)
  (hx : ev ρ x = .v (.slice (some ⟨g, k, none⟩) n c)) (hy : ev ρ y = .v (.int kk i)) (hel : eU P t = some (none, 1)) (h0 : 0 ≤ i) (hi : i < (n : Int))
  (hK : K (bZ ρ o.dst (.v (.pointer (some ⟨g, k + i.toNat, none⟩))))) : OW P nt ops o K ρ := by
 refine eZ hg fun I A a w hs => ?_
 have hxr := hs.opd x (bF ho (by simp [hop, Op.operands])) (by rw [hx]; trivial)
 have hyr := hs.opd y (bF ho (by simp [hop, Op.operands])) (by rw [hy]; trivial)
 rw [hx] at hxr
 rw [hy] at hyr
 have hxr : bH w I A (.v (.slice (some ⟨g, k, none⟩) n c)) (a.eval x) := hxr
 have hyr : bH w I A (.v (.int kk i)) (a.eval y) := hyr
 generalize hxe : a.eval x = u at hxr
 generalize hye : a.eval y = v at hyr
 cases hxr
 cases hyr
 unfold eU at hel
 split at hel <;> simp at hel
 rename_i e' hu
 obtain ⟨inf, hinf, hz⟩ := hel
 have key : (Instr.indexAt t (.slice (some ⟨g, k, none⟩) n c) (.int kk i)).run P w = .ok (.pointer (some ⟨g, k + i.toNat, none⟩)) w := by
  simp [Instr.indexAt, asIntOf, run_underlying hu, h0, hi, run_sizeOf w hinf, Program.cellsOf, hinf, hz, Addr.add_lit]
 exact ⟨_, w, I, A, _, by simp [execOp, hop, hxe, hye, key], hs.putV hd (.v A _), eA.refl _ _ _, hK⟩
theorem aWj {ops : Array Oper} {o : Oper} {K : aS → Prop} {t : TypeId} {x y : Operand} {b : Option Addr} {n c : Nat} {kk : IntKind} (hop : o.op = .slice t x (some y) none none) (hg : o.guard = none) (ho : dA nt o = true) (hd : eO nt o = true)
  (hx : ev ρ x = .v (.slice b n c)) (hy : ev ρ y = .v (.int kk 1)) (hel : eU P t = some (none, 1)) (h0 : 0 < n) (hn : n ≤ c)
  (hK : K (bZ ρ o.dst (.v (.slice (if c = 1 then b else b.map (·.add 1)) (n - 1) (c - 1))))) : OW P nt ops o K ρ := by
 refine eZ hg fun I A a w hs => ?_
 have hxr := hs.opd x (bF ho (by simp [hop, Op.operands])) (by rw [hx]; trivial)
 have hyr := hs.opd y (bF ho (by simp [hop, Op.operands])) (by rw [hy]; trivial)
 rw [hx] at hxr
 rw [hy] at hyr
 have hxr : bH w I A (.v (.slice b n c)) (a.eval x) := hxr
 have hyr : bH w I A (.v (.int kk 1)) (a.eval y) := hyr
 generalize hxe : a.eval x = u at hxr
 generalize hye : a.eval y = v at hyr
 cases hxr
 cases hyr
 unfold eU at hel
 split at hel <;> simp at hel
 rename_i e' hu
 obtain ⟨inf, hinf, hz⟩ := hel
 have key : (Instr.sliceAt t (.slice b n c) (some (.int kk 1)) none none).run P w = .ok (.slice (if c = 1 then b else b.map (·.add 1)) (n - 1) (c - 1)) w := by
  have hb := mE (P := P) (w := w) (sl := true) (lv := some (.int kk 1)) (l := 1) (hv := none) (h := n) (n := n) (c := c) (.inr ⟨kk, 1, rfl, by omega, rfl⟩) (.inl ⟨rfl, rfl⟩) (by omega) hn
  simp [Instr.sliceAt, Instr.slice, run_underlying hu, hb, run_sizeOf w hinf, Program.cellsOf, hinf, hz]
 exact ⟨_, w, I, A, _, by simp [execOp, hop, hxe, hye, key], hs.putV hd (.v A _), eA.refl _ _ _, hK⟩
end
section
variable {P : Program} {nt : Nat} {ρ : aS} {w0 : World} {I0 : Nat → Prop} {A0 : cO} {G0 : Nat → Prop}
theorem bHb {c : Code} {Q : Exit → List Rg → aS → Prop} {rs s1 s2 : List Rg} {h : Hd} {e : TypeId} {l : List (List DV)} (hr : rs = s1 ++ .row h e 1 l :: s2)
  (k : QI h l h.b l.length h.c l → kB P nt (iD w0 I0 A0 G0) c Q rs ρ) : kB P nt (iD w0 I0 A0 G0) c Q rs ρ := fun ro ds I A a w hs hdf hf => by
 have hrow := (hf.1 (.row h e 1 l) (by rw [hr]; simp)).holds
 refine k ⟨rfl, ?_⟩ ro ds I A a w hs hdf hf
 obtain ⟨hb, hrow⟩ := hrow
 obtain ⟨B, b, c0⟩ := h
 cases B with
 | none => exact .inl ⟨hrow.2, hrow.1⟩
 | some g => obtain ⟨us, q1, q2, q3, q4, q5⟩ := hrow; exact .inr ⟨g, 0, rfl, fL hb, by simp, by simp, by simp, q4⟩
theorem aNy {ops : Array Oper} {o : Oper} {K : List Rg → aS → Prop} {rs s1 s2 : List Rg} {h : Hd} {e : TypeId} {L : List (List DV)} {t : TypeId} {x : Operand} {g k : Nat} {d : DV} (hop : o.op = .load t x) (hg : o.guard = none) (ho : dA nt o = true) (hdo : eO nt o = true)
  (hx : ev ρ x = .v (.pointer (some ⟨g, k, none⟩))) (hld : eD P t = some none) (hr : rs = s1 ++ .row h e 1 L :: s2) (hB : h.B = some g) (hL : L[k]? = some [d])
  (hK : K rs (bZ ρ o.dst d)) : gN P nt (iD w0 I0 A0 G0) ops o K rs ρ := by
 refine aNa hg fun I A a w hs hf => ?_
 have hxr := hs.opd x (bF ho (by simp [hop, Op.operands])) (by rw [hx]; trivial)
 rw [hx] at hxr
 have hxr : bH w I A (.v (.pointer (some ⟨g, k, none⟩))) (a.eval x) := hxr
 generalize hxe : a.eval x = u at hxr
 cases hxr
 have hrow := (hf.1 (.row h e 1 L) (by rw [hr]; simp)).holds.2
 rw [hB] at hrow
 obtain ⟨us, q1, q2, q3, q4, q5⟩ := hrow
 have hk : k < L.length := (List.getElem?_eq_some_iff.1 hL).1
 have hus : us[k]? = some (us.getD k undef) := by
  have : k < us.size := by omega
  simp [Array.getElem?_eq_getElem this]
 obtain ⟨r1, r2⟩ := q5 k [d] hL
 have r3 := r2 0 d (us.getD k undef) (by simp) (by simpa using hus)
 have hcell : w.cell? ⟨g, k, none⟩ = some (us.getD k undef) := by
  unfold World.cell?
  simp only [q1]
  simpa using hus
 obtain ⟨r, h1, h2⟩ := oR (P := P) (w := w) (I := I) (B := A) hld (b := g) (o := k) (cs := [d]) (us := fun j => us.getD k undef) (off := 0) (fun j hj => by
   have : j = 0 := by simpa using hj
   subst this; exact hcell) (fun j hj => r3.1) (fun j d' hd' => by
   match j, hd' with
   | 0, hd' => cases hd'; exact r3.2.ofNoOwn) (by simp [cut])
 exact ⟨r, w, I, A, _, rs, by simp only [Nat.add_zero] at h1; simp [execOp, hop, hxe, h1], hs.putV hdo h2, hf, hK⟩
theorem iD.turnQ {w w' : World} {I : Nat → Prop} {A : cO} {ρ : aS} {s1 s2 : List Rg} {r r' : Rg} (hs : gK w I A ρ) (hf : iD w0 I0 A0 G0 (s1 ++ r :: s2) w I A) (hos : w'.os = w.os) (ht : w'.tape = w.tape ∧ w.drawn ≤ w'.drawn) (hout : w'.output = w.output) (hsz : w.heap.size ≤ w'.heap.size)
  (hblk : ∀ g, g < w.heap.size → r.B ≠ some g → w'.heap[g]? = w.heap[g]?) (hr : oA w' I A r') (hB : ∀ g, r'.B = some g → r.B = some g ∨ w.heap.size ≤ g) : iD w0 I0 A0 G0 (s1 ++ r' :: s2) w' I A := by
 obtain ⟨f1, f2, f3, f4⟩ := hf
 have hfr := (f1 r (by simp)).free
 have hrel : ∀ d x, bH w I cU d x → bH w' I cU d x := fun d x hx => hx.mono fun g hg => ⟨hg, fun o => cY (hblk g (hs.imm g hg) fun e => (hfr g e).2.1 hg) o⟩
 have hap : ∀ x ∈ s1 ++ s2, ∀ g, x.B = some g → r.B ≠ some g := fun x hx g hg hg' => by
  unfold jY at f2
  rw [List.pairwise_append] at f2
  rcases List.mem_append.1 hx with hx | hx
  ·exact f2.2.2 x hx r (by simp) g hg hg'
  exact (List.pairwise_cons.1 f2.2.1).1 x hx g hg' hg
 have hm : ∀ x ∈ s1 ++ r' :: s2, x = r' ∨ x ∈ s1 ++ s2 := fun x hx => by
  simp at hx ⊢; rcases hx with h | h | h
  ·exact .inr (.inl h)
  ·exact .inl h
  exact .inr (.inr h)
 have hin : ∀ x ∈ s1 ++ s2, x ∈ s1 ++ r :: s2 := fun x hx => by
  simp at hx ⊢; rcases hx with h | h
  ·exact .inl h
  exact .inr (.inr h)
 refine ⟨fun x hx => ?_, ?_, fun x hx g hg => ?_, ?_⟩
 ·rcases hm x hx with rfl | hx
  ·exact hr
  have h1 := f1 x (hin x hx)
  exact { holds := h1.holds.ofG (fun g hg => hblk g (h1.free g hg).1 (hap x hx g hg)) hrel, free := fun g hg => ⟨Nat.lt_of_lt_of_le (h1.free g hg).1 hsz, (h1.free g hg).2⟩ }
 ·have hne : ∀ x ∈ s1 ++ s2, ∀ g, x.B = some g → r'.B ≠ some g := fun x hx g hg hg' => by
   rcases hB g hg' with h | h
   ·exact hap x hx g hg h
   have := ((f1 x (hin x hx)).free g hg).1; omega
  unfold jY at f2 ⊢
  rw [List.pairwise_append] at f2 ⊢
  refine ⟨f2.1, List.pairwise_cons.2 ⟨fun y hy g hg hg' => hne y (by simp [hy]) g hg' hg, (List.pairwise_cons.1 f2.2.1).2⟩, fun x hx y hy g hg hg' => ?_⟩
  rcases List.mem_cons.1 hy with rfl | hy
  ·exact hne x (by simp [hx]) g hg hg'
  exact f2.2.2 x hx y (by simp [hy]) g hg hg'
 ·rcases hm x hx with rfl | hx
  ·rcases hB g hg with h | h
   ·exact f3 r (by simp) g h
   exact .inr (Nat.le_trans f4.size h)
  exact f3 x (hin x hx) g hg
 refine ⟨hos.trans f4.os, ⟨ht.1.trans f4.tape.1, Nat.le_trans f4.tape.2 ht.2⟩, hout.trans f4.output, Nat.le_trans f4.size hsz, f4.imm, fun g hg hA hG => ?_, f4.outA, f4.loc⟩
 obtain ⟨h1, h2, h3⟩ := f4.old g hg hA hG
 refine ⟨(hblk g (Nat.lt_of_lt_of_le hg f4.size) fun e => ?_).trans h1, h2, h3⟩
 rcases f3 r (by simp) g e with h | h
 ·exact hG h
 omega
theorem aCe {ops : Array Oper} {o : Oper} {K : List Rg → aS → Prop} {rs s1 s2 : List Rg} {h : Hd} {e : TypeId} {by_ : Nat} {zs : List Value} {L W : List (List DV)} {t : TypeId} {x y : Operand} {b : Option Addr} {n c : Nat} {q0 : List DV} (q : List DV)
  (hop : o.op = .call ⟨.builtin .append, #[x, y], #[t, t]⟩) (hg : o.guard = none) (ho : dA nt o = true) (hdo : eO nt o = true) (hx : ev ρ x = .v (.slice b n c)) (hy : gd (ev ρ y)) (hsl : kH P t = some (e, 1, by_)) (hz : eM P e = some zs) (hzl : zs.length = 1)
  (hsrc : tE ρ 1 (un (ev ρ y))) (hq : kA ρ (un (ev ρ y)) = [q0]) (hw : mZ q0 q) (hr : rs = s1 ++ .row h e 1 L :: s2) (hQ : QI h L b n c W) (hb1 : n + 1 ≤ 9223372036854775807) (hb2 : (n + 1) * by_ ≤ 140737488355328)
  (hK : ∀ (h' : Hd) (L' : List (List DV)) (b' : Option Addr) (n' c' : Nat), n' = n + 1 → QI h' L' b' n' c' (W ++ [q]) → K (s1 ++ .row h' e 1 L' :: s2) (bZ ρ o.dst (.v (.slice b' n' c')))) : gN P nt (iD w0 I0 A0 G0) ops o K rs ρ := by
 refine aNa hg fun I A a w hs hf => ?_
 subst hr
 have hxr := hs.opd x (bF ho (by simp [hop, Op.operands, Call.operands])) (by rw [hx]; trivial)
 rw [hx] at hxr
 have hxr : bH w I A (.v (.slice b n c)) (a.eval x) := hxr
 generalize hxe : a.eval x = v at hxr
 cases hxr
 have hyr := hs.opd y (bF ho (by simp [hop, Op.operands, Call.operands])) hy
 obtain ⟨by2, m, c2, hye, hsl', hsrc'⟩ := aFa hs hyr hsrc
 rw [hq] at hsl' hsrc'
 obtain rfl : m = 1 := by simpa using hsl'.symm
 obtain ⟨hu, i, hi, hz1, hbs⟩ := h9 hsl
 obtain ⟨i', zv, hi', hzv, hzc, _⟩ := iI hz
 rw [hi] at hi'
 cases hi'
 rcases hsrc' with ⟨_, h0⟩ | ⟨ad, news, rfl, h1, h2, h3, h4⟩
 ·omega
 obtain ⟨u0, rfl⟩ : ∃ u0, news = [u0] := by
  match news, h1 with
  | [u0], _ => exact ⟨u0, rfl⟩
 have hu0 : u0.oneCell' = true := h3 u0 (by simp)
 obtain ⟨hq1, hq2⟩ : q.length = 1 ∧ ∀ (j : Nat) (e : DV) (v : Value), q[j]? = some e → [u0][0 * 1 + j]? = some v → bH w I cU e v := by
  obtain ⟨k1, k2⟩ := h4 0 q0 (by simp)
  refine ⟨by rw [← hw.len]; exact k1, fun j e' v he hv => ?_⟩
  obtain ⟨d', hd1, hd2⟩ := hw.get j e' he
  exact hd2 _ _ _ _ (k2 j d' v hd1 hv)
 have exec : ∀ r w', (Builtin.append_ #[t, t] o.type #[.slice b n c, .slice (some ad) 1 c2]).run P w = .ok r w' → (execOp a.eval o).run P w = .ok (.value r) w' := fun r w' hrun => by
  simp only [execOp, hop, resolve, Sem.run_bind, Sem.run_pure, Result.andThen_ok, invoke, builtin, List.map_toArray, List.map_cons, List.map_nil, hxe, hye]
  rw [hrun]; rfl
 have fr := hf.1 (.row h e 1 L) (by simp)
 have fresh : ∀ (olds : List Value) (old : Nat), olds.length = n → old < n + 1 → (Builtin.append_ #[t, t] o.type #[.slice b n c, .slice (some ad) 1 c2]).run P w = .ok (.slice (some ⟨w.heap.size, 0, none⟩) (n + 1) (grownCap w (n + 1) old e)) (w.drew.alloc (.cells (olds.toArray ++ [u0].toArray ++ Builtin.zeroCells zv.cells (grownCap w (n + 1) old e - (n + 1))) e)) →
   (∀ (j : Nat) (y : List DV), W[j]? = some y → y.length = 1 ∧ ∀ (j' : Nat) (d' : DV) (u : Value), y[j']? = some d' → olds[j + j']? = some u → u.oneCell' = true ∧ bH w I cU d' u) →
   ∃ r w' I' A' ρ' s', (execOp a.eval o).run P w = .ok (.value r) w' ∧ b9 nt w' I' A' ρ' (a.put o.dst r) ∧ iD w0 I0 A0 G0 s' w' I' A' ∧ K s' ρ' := fun olds old hol hlt hrun hW => by
  have hge := grownCap_ge w (n + 1) old e
  have hcm : grownCap w (n + 1) old e ≤ maxLen := grownCap_le_maxLen w (n + 1) old e (by unfold maxLen; omega)
  generalize hcap : grownCap w (n + 1) old e = cap at *
  have hge : n + 1 ≤ cap := by simpa using hge
  generalize hnew : (olds.toArray ++ [u0].toArray ++ Builtin.zeroCells zv.cells (cap - (n + 1)) : Array Value) = new at *
  have hsize : new.size = cap := by
   subst hnew
   have hz2 : zv.cells.size = 1 := by rw [← hzc] at hzl; simpa using hzl
   simp only [Array.size_append, List.size_toArray, size_zeroCells, hz2, hol, List.length_singleton]
   omega
  have hget : ∀ j, j < n + 1 → new[j]? = if j = n then some u0 else olds[j]? := fun j hj => by
   subst hnew
   rw [Array.append_assoc, Array.getElem?_append]
   by_cases e1 : j = n
   ·subst e1
    rw [if_neg (by simp [hol]), if_pos rfl, Array.getElem?_append, if_pos (by simp [hol])]
    simp [hol]
   rw [if_pos (by simp [hol]; omega), if_neg e1]; simp
  have hblk : ∀ g, g < w.heap.size → (w.drew.alloc (.cells new e)).heap[g]? = w.heap[g]? := fun g hg => (by first | exact heap_alloc_old w.drew _ g hg | exact heap_alloc_old w.drew _ hg)
  have hsz : w.heap.size ≤ (w.drew.alloc (.cells new e)).heap.size := by simp
  have hs2 : b9 nt (w.drew.alloc (.cells new e)) I A ρ a := hs.steady (fun g hg => hblk g (hs.osim.imm g hg)) (fun s g c hA => hblk g (hs.osim.sep s g c hA).1) hsz
  have hrel : ∀ d x, bH w I cU d x → bH (w.drew.alloc (.cells new e)) I cU d x := fun d x hx => hx.mono fun g hg => ⟨hg, fun o => cY (hblk g (hs.osim.imm g hg)) o⟩
  have hWl : W.length = n := hQ.len.symm
  refine ⟨_, _, I, A, _, s1 ++ .row ⟨some w.heap.size, some ⟨w.heap.size, 0, none⟩, cap⟩ e 1 (W ++ [q]) :: s2, exec _ _ hrun, hs2.putV hdo (.v A _), hf.turnQ hs.osim rfl ⟨rfl, dN _ (exec _ _ hrun)⟩ rfl hsz (fun g hg _ => hblk g hg) ?_ (fun g hg => .inr (by cases hg; exact Nat.le_refl _)), hK ⟨some w.heap.size, some ⟨w.heap.size, 0, none⟩, cap⟩ (W ++ [q]) _ _ _ rfl ⟨by simp [hWl], .inr ⟨w.heap.size, 0, rfl, rfl, by simp, by simp, by simp, by simp only [List.length_append, List.length_singleton, hWl]; exact hge⟩⟩⟩
  refine { holds := ⟨qJ _, new, heap_alloc_new w.drew _, by rw [hsize]; exact (Nat.mul_one _).symm, hcm, by simp [hWl]; exact hge, fun j y hj => ?_⟩, free := fun g hg => ?_ }
  ·by_cases e1 : j = n
   ·subst e1
    rw [← hWl, List.getElem?_append_right (Nat.le_refl _), Nat.sub_self] at hj
    cases hj
    refine ⟨hq1, fun j' d' u hd' hu => ?_⟩
    have hj' : j' < 1 := by
     rw [← hq1]
     rcases Nat.lt_or_ge j' q.length with h | h
     ·exact h
     rw [List.getElem?_eq_none h] at hd'; cases hd'
    obtain rfl : j' = 0 := by omega
    rw [Nat.mul_one, Nat.add_zero, hget _ (by omega), if_pos rfl] at hu
    cases hu
    exact ⟨hu0, hrel _ _ (hq2 0 d' u0 hd' (by simp))⟩
   have hjl : j < n := by
    rcases Nat.lt_or_ge j (W ++ [q]).length with h | h
    ·simp [hWl] at h; omega
    rw [List.getElem?_eq_none h] at hj; cases hj
   rw [List.getElem?_append_left (by omega)] at hj
   obtain ⟨r1, r2⟩ := hW j y hj
   refine ⟨r1, fun j' d' u hd' hu => ?_⟩
   have hj' : j' < 1 := by
    rw [← r1]
    rcases Nat.lt_or_ge j' y.length with h | h
    ·exact h
    rw [List.getElem?_eq_none h] at hd'; cases hd'
   obtain rfl : j' = 0 := by omega
   rw [Nat.mul_one, Nat.add_zero, hget j (by omega), if_neg e1] at hu
   obtain ⟨k1, k2⟩ := r2 0 d' u hd' (by simpa using hu)
   exact ⟨k1, hrel _ _ k2⟩
  cases hg
  refine ⟨by simp, fun hI => ?_, fun s c' hA => ?_⟩
  ·have := hs.osim.imm _ hI; omega
  have := (hs.osim.sep s _ c' hA).1; omega
 have hWl : W.length = n := hQ.len.symm
 rcases hQ.pos with ⟨p1, p2⟩ | ⟨g, k, p1, p2, p3, p4, p5, p6⟩
 ·subst p1 p2
  obtain rfl : n = 0 := by simpa using hWl.symm
  refine fresh [] 0 rfl (by omega) ?_ (fun j y hj => by simp at hj)
  rw [oX hu hi b (some ad) 1 c2 (by omega) (by rw [hbs]; simpa using hb2) (by omega)]
  have := run_append_nil (P := P) w t o.type e i zv hu hi hzv ad 1 c2 [u0] (by simp [hz1]) h2 (by omega) (by omega) (by rw [hbs]; simpa using (show 1 * by_ ≤ 281474976710656 by simp at hb2; omega))
  simpa using this
 subst p2
 have hrow := fr.holds.2
 rw [p1] at hrow
 obtain ⟨us, q1, q2, q3, q4, q5⟩ := hrow
 have hnl : n = L.length - k := by rw [← hWl, p5, List.length_drop]
 by_cases hroom : n + 1 ≤ c
 ·-- in place
  have hrun := vF (P := P) (ty := o.type) hu hi q1 (off := k) (sLen := n) (sCap := c) (m := 1) (c := c2) (news := [u0]) (by simp [hz1]) h2 h3 hroom (by rw [hz1]; simp; omega)
  rw [hz1] at hrun
  simp only [Nat.mul_one, List.length_singleton] at hrun
  have hkn : k + n = L.length := by omega
  rw [hkn] at hrun
  generalize hnew : (us.toList.take L.length ++ [u0] ++ us.toList.drop (L.length + 1)).toArray = new at hrun
  have hget : ∀ j, new[j]? = if j = L.length then some u0 else us[j]? := fun j => by
   subst hnew
   simp only [List.append_assoc, List.getElem?_toArray, List.getElem?_append, List.length_take, Array.length_toList, Nat.min_eq_left (show L.length ≤ us.size by omega), List.length_singleton]
   by_cases e1 : j < L.length
   ·rw [if_pos e1, if_neg (by omega), List.getElem?_take, if_pos e1, Array.getElem?_toList]
   rw [if_neg e1]
   by_cases e2 : j = L.length
   ·subst e2; rw [if_pos rfl, if_pos (by omega)]; simp
   rw [if_neg e2, if_neg (by omega), List.getElem?_drop, Array.getElem?_toList]; congr 1; omega
  obtain ⟨f1, f2, f3⟩ := fr.free g p1
  have hblk : ∀ g', g' ≠ g → (w.setRow g new).heap[g']? = w.heap[g']? := fun g' hne => setRow_other w g g' _ hne
  have hsz : w.heap.size ≤ (w.setRow g new).heap.size := by simp
  have hs2 : b9 nt (w.setRow g new) I A ρ a := hs.steady (fun g' hg' => hblk g' fun e => f2 (e ▸ hg')) (fun s g' c' hA => hblk g' fun e => f3 s c' (e ▸ hA)) hsz
  have hrel : ∀ d x, bH w I cU d x → bH (w.setRow g new) I cU d x := fun d x hx => hx.mono fun g' hg' => ⟨hg', fun o => cY (hblk g' fun e => f2 (e ▸ hg')) o⟩
  refine ⟨_, _, I, A, _, s1 ++ .row h e 1 (L ++ [q]) :: s2, exec _ _ hrun, hs2.putV hdo (.v A _), hf.turnQ hs.osim rfl ⟨rfl, Nat.le_refl _⟩ rfl hsz (fun g' _ hne => hblk g' fun e => hne (by rw [e]; exact p1)) ?_ (fun g' hg' => .inl hg'), hK h (L ++ [q]) _ _ _ rfl ⟨by simp [hWl], .inr ⟨g, k, p1, rfl, p3, by simp; omega, ?_, by simp; omega⟩⟩⟩
  ·refine { holds := ⟨fr.holds.1, ?_⟩, free := fun g' hg' => ⟨Nat.lt_of_lt_of_le (fr.free g' hg').1 hsz, (fr.free g' hg').2⟩ }
   rw [p1]
   refine ⟨new, setRow_heap w g us _ e _ q1, ?_, q3, by simp; omega, fun j y hj => ?_⟩
   ·subst hnew; simp; omega
   by_cases e1 : j = L.length
   ·subst e1
    rw [List.getElem?_append_right (Nat.le_refl _), Nat.sub_self] at hj
    cases hj
    refine ⟨hq1, fun j' d' u hd' hu => ?_⟩
    have hj' : j' < 1 := by
     rw [← hq1]
     rcases Nat.lt_or_ge j' q.length with h | h
     ·exact h
     rw [List.getElem?_eq_none h] at hd'; cases hd'
    obtain rfl : j' = 0 := by omega
    rw [Nat.mul_one, Nat.add_zero, hget, if_pos rfl] at hu
    cases hu
    exact ⟨hu0, hrel _ _ (hq2 0 d' u0 hd' (by simp))⟩
   have hjl : j < L.length := by
    rcases Nat.lt_or_ge j (L ++ [q]).length with h | h
    ·simp at h; omega
    rw [List.getElem?_eq_none h] at hj; cases hj
   rw [List.getElem?_append_left hjl] at hj
   obtain ⟨r1, r2⟩ := q5 j y hj
   refine ⟨r1, fun j' d' u hd' hu => ?_⟩
   have hj' : j' < 1 := by
    rw [← r1]
    rcases Nat.lt_or_ge j' y.length with h | h
    ·exact h
    rw [List.getElem?_eq_none h] at hd'; cases hd'
   obtain rfl : j' = 0 := by omega
   rw [Nat.mul_one, Nat.add_zero, hget, if_neg e1] at hu
   obtain ⟨k1, k2⟩ := r2 0 d' u hd' (by simpa using hu)
   exact ⟨k1, hrel _ _ k2⟩
  rw [p5, List.drop_append_of_le_length p4]
 -- a new block
 have hlt : ∀ j, j < n → k + j < us.size := fun j hj => by omega
 have holds : ∀ j u, ((us.toList.drop k).take n)[j]? = some u → w.cell? ((⟨g, k, none⟩ : Addr).add j) = some u := fun j u hj => by
  rw [List.getElem?_take] at hj
  split at hj
  ·rw [List.getElem?_drop, Array.getElem?_toList] at hj
   rw [Addr.add_lit]
   unfold World.cell?
   simp only [q1]
   simpa using hj
  cases hj
 have hol : ((us.toList.drop k).take n).length = n := by
  rw [List.length_take, List.length_drop, Array.length_toList]; omega
 have hrun := run_append_grow (P := P) w t o.type e i zv hu hi hzv ⟨g, k, none⟩ n c _ (by rw [hol, hz1]; omega) holds ad 1 c2 [u0] (by simp [hz1]) h2 (by omega) (by omega) (growslice_fits (by omega) (by rw [hbs]; exact hb2))
 refine fresh _ c hol (by omega) hrun fun j y hj => ?_
 rw [p5, List.getElem?_drop] at hj
 obtain ⟨r1, r2⟩ := q5 (k + j) y hj
 refine ⟨r1, fun j' d' u hd' hu => r2 j' d' u hd' ?_⟩
 rw [List.getElem?_take] at hu
 split at hu
 ·rw [List.getElem?_drop, Array.getElem?_toList] at hu
  rw [Nat.mul_one, Nat.add_assoc]; exact hu
 cases hu
end
end Go.Sg
