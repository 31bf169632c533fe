/- Several texts as one. -/
import Derived.Test.YtnpokifaejcbeaaGreatDoorF12
set_option linter.unusedSectionVars false
set_option linter.unusedVariables false
set_option linter.unusedSimpArgs false
set_option maxRecDepth 20000
namespace Go.Sg
open Go.Proofs
abbrev zV (q : List aW) : List DV := [b8 q]
abbrev zD (h : Hd) (P : List (List aW)) : Rg := .row h 42 1 (P.map zV)
abbrev rgQ (h : Hd) (q : List aW) : Rg := .row h 85 3 (q.map bO)
def kD (l : aB) (q : List aW) : List (List aW) := if iE l (gI q) = true then [q] else []
def tC (l : aB) (q : List aW) : cG := if iE l (gI q) = true then ⟨-1, 0⟩ else (bG l (gI q)).1
theorem aDi {l : aB} {q : List aW} (h : iE l (gI q) = true) : kD l q = [q] ∧ tC l q = ⟨-1, 0⟩ := by unfold kD tC; rw [if_pos h, if_pos h]; exact ⟨rfl, rfl⟩
theorem yP {l : aB} {q : List aW} (h : iE l (gI q) = false) : kD l q = [] ∧ tC l q = (bG l (gI q)).1 := by unfold kD tC; rw [if_neg (by rw [h]; simp), if_neg (by rw [h]; simp)]; exact ⟨rfl, rfl⟩
theorem aWs {l : aB} {q : List aW} (h : 0 ≤ iU l (lT q)) : iE l (gI q) = true := by unfold iE; rw [show aGg l (gI q) = iU l (lT q) from rfl, decide_eq_true h]; rfl
theorem bCh {l : aB} {s : aW} (h : (bG l s).2 = false) : iE l s = true := by unfold iE; rw [h]; simp
theorem bCq {l : aB} {q : List aW} (h : ¬ 0 ≤ iU l (lT q)) (h2 : (bG l (gI q)).2 = true) : iE l (gI q) = false := by unfold iE; rw [show aGg l (gI q) = iU l (lT q) from rfl, decide_eq_false h, h2]; rfl
def qE (l : aB) (h : Hd) (n : Nat) : List DV := aK l ++ [h.sl n]
section
variable (l : aB) (h h' : Hd) (n m : Nat)
theorem aDm : gT (fun x => x + 100000) (qE l h n) = qE l h n := rfl
theorem aDf : (qE l h n).length = 7 := rfl
theorem z6 : (qE l h n).take 6 = aK l := rfl
theorem yN : (qE l h n).drop 6 = [h.sl n] := rfl
theorem aFl : (qE l h n).getD 6 .any = h.sl n := rfl
theorem aFg : (qE l h n).set 6 (h'.sl m) = qE l h' m := rfl
theorem aEq : spl 6 [h'.sl m] (qE l h n) = qE l h' m := rfl
theorem aCx (p : Nat → Bool) : dF p (qE l h n) = true := rfl
end
def bWc (O : aS) (k : Nat) (l : aB) (P : List (List aW)) (q : List aW) (rs : List Rg) (O' : aS) (r : DV) : Prop :=
 ∃ h', rs = [zD h' (P ++ kD l q)] ∧ O' = set O k (.bx (qE l h' (P ++ kD l q).length)) ∧ r = .agg (cE (tC l q))
section
attribute [local go_sem] mJ sX w9 cond_true cond_false lF List.length_map List.take_length Nat.mul_one Nat.add_zero Nat.zero_add aDm aDf z6 yN aFl aFg aEq aCx List.drop_zero
set_option maxRecDepth 20000 in
set_option maxHeartbeats 8000000 in
theorem kW (O : aS) (l : aB) (q : List aW) (P : List (List aW)) (h : Hd) (k s : Nat) (hk : O k = .bx (qE l h P.length)) (hO : O s = .row 85 3 (q.map bO)) (nq : Nat) (hnq : nq = q.length) (hq : q.length ≤ 100) (hq0 : 0 < q.length) (hP : P.length ≤ 1000000000000) : zB Tryz.prog O 173 [.bp k 0, .own s nq] [zD h P] (bWc O k l P q) := by
 subst hnq
 have hks : s ≠ k := fun e => by subst e; rw [hk] at hO; cases hO
 obtain ⟨O1, rfl⟩ : ∃ O1, O = set O1 k (.bx (qE l h P.length)) := ⟨O, by funext j; rw [aO]; split <;> simp_all⟩
 have hs1 : O1 s = .row 85 3 (q.map bO) := by rw [aO, if_neg hks] at hO; exact hO
 have hxO : bT O1 (s + 100000) = .row 85 3 (q.map bO) := by rw [bW, hs1]; rfl
 have hcast : ((q.length : Int) - 1).toNat = q.length - 1 := by omega
 refine lY Tryz.func173 rfl (by kernel_rfl) fun w0 I0 A0 => ?_
 have hF := mW w0 I0 (b6 A0) (GOf [zD h P])
 refine aT fun K0 hK0 => ?_
 refine fD hF ?_
 refine aX [0, 1] (by kernel_rfl) ?_
 simp (disch := omega) only [go_sem, seval, hxO, hks, hcast]
 repeat refine And.intro bS ?_
 refine hK0 _ _ ?_; clear hK0
 refine aVz [0, 1, 4] (fun sF ρ => sF = [zD h P] ∧ (iE l (gI q) = true) ∧ ρ = dU (set O1 k (.bx (qE l h P.length))) [(0, .bp (k + 100000) 0), (1, .own (s + 100000) q.length), (4, .bx [vi 0, vi 0])]) (fun K1 hK1 => ?_) ?_
 ·skip
  refine aT fun K2 hK2 => ?_
  refine fD hF ?_
  refine eV [0, 1, 4] [] fH (by kernel_rfl) ?_
  simp (disch := omega) only [go_sem, seval, hxO, hks, hcast]
  repeat refine And.intro bS ?_
  refine dJ (zH _ q (s + 100000) (by simp (disch := omega) only [go_sem, seval, hxO, hks, hcast]) (by omega) hq0) ?_ ?_
  ·rfl
  try simp (disch := omega) only [go_sem, seval, hxO, hks, hcast]
  repeat refine And.intro bS ?_
  refine dJ (iK _ l (lT q)) ?_ ?_
  ·rfl
  try simp (disch := omega) only [go_sem, seval, hxO, hks, hcast]
  repeat refine And.intro bS ?_
  refine hK2 _ _ ?_; clear hK2
  refine cJ (fun c0 => ?_) fun c0 => ?_
  ·have hcs : ¬ 0 ≤ iU l (lT q) := (by simpa using c0)
   refine aT fun K3 hK3 => ?_
   refine fD hF ?_
   refine cH (Le.keepC [0, 1, 4] _) ?_
   refine xP [0, 1, 4, 16, 17, 18, 19, 20, 21, 22, 23, 24, 25, 26, 15, 27, 28, 6, 5] [] [] [[], [0], [0, 1], [0, 1, 2], [], [], [5], [5, 6], [4, 5, 6, 7], [4, 5, 6, 7, 8], [0, 1, 2, 3, 4, 5, 6, 7, 8, 9], [0, 1, 2, 3, 4, 5, 6, 7, 8, 9, 10], [0, 1, 2, 3, 4, 5, 6, 7, 8, 9, 10, 11], [0, 1, 2, 3, 4, 5, 6, 7, 8, 9, 10, 11], [], [0, 1, 2, 3, 4, 5, 6, 7, 8, 9, 10, 11, 12, 14], [0, 1, 2, 3, 4, 5, 6, 7, 8, 9, 10, 11, 12, 13, 14, 15]] [[15], [15], [15], [15], [15], [15], [15], [15], [15], [15], [15], [15], [15], [], [15], [], []] (fun bQ => dU (set O1 k (.bx (qE l h P.length))) [(0, .bp (k + 100000) 0), (1, .own (s + 100000) q.length), (4, .bx [vi 0, vi 0]), (16, bJ (bQ 0) (.bp (k + 100000) 0)), (17, bJ (bQ 1) (.bp (k + 100000) 0)), (18, bJ (bQ 2) (.bp (k + 100000) 0)), (19, bJ (bQ 3) (.agg (aK l))), (20, bJ (bQ 4) (.own (s + 100000) q.length)), (21, bJ (bQ 5) (.own (s + 100000) q.length)), (22, bJ (bQ 6) (vi (q.length : Nat))), (23, bJ (bQ 7) (vi ((q.length : Int) - 1))), (24, bJ (bQ 8) (.rp (s + 100000) 3 (q.length - 1) 0)), (25, bJ (bQ 9) (.agg (bO (q.getD (q.length - 1) default)))), (26, bJ (bQ 10) (.tup [.agg (cE (bG l (q.getD (q.length - 1) default)).1), vb (bG l (q.getD (q.length - 1) default)).2])), (15, bJ (bQ 11) (.tup [.agg (cE (bG l (q.getD (q.length - 1) default)).1), vb (bG l (q.getD (q.length - 1) default)).2])), (27, bJ (bQ 12) (.agg (cE (bG l (q.getD (q.length - 1) default)).1))), (28, bJ (bQ 13) (vb (bG l (q.getD (q.length - 1) default)).2)), (6, bJ (bQ 16) (vb (bG l (q.getD (q.length - 1) default)).2)), (5, pD (bQ 15) (bQ 14) (.bx (cE (bG l (q.getD (q.length - 1) default)).1)) (.bx [vi 0, vi 0]))]) fH (by kernel_rfl) (by kernel_rfl) ?_ (fun iQ oQ hoQ bQ hbQ KQ hKQ => ?_) ?_
   ·simp (disch := omega) only [go_sem, seval, hxO, hks, hcast] <;> first | rfl | simp
   ·have hiQ : iQ < 17 := (List.getElem?_eq_some_iff.1 hoQ).1
    match iQ, hiQ with
    | 0, _ | 1, _ | 2, _ | 3, _ | 4, _ | 5, _ | 6, _ | 7, _ | 8, _ | 9, _ | 11, _ | 12, _ | 13, _ | 14, _ | 15, _ | 16, _ =>
     obtain rfl := Option.some.inj hoQ
     simp only [sO, j0, j8, List.getD_cons_succ, List.getD_cons_zero, List.getD_nil, and_true, true_and] at hbQ
     show qY _ _ _ false _ _
     simp (disch := omega) only [go_sem, seval, hxO, hks, hcast, hbQ]
     repeat refine And.intro bS ?_
     refine hKQ _ ?_
     simp (disch := omega) only [go_sem, seval, hxO, hks, hcast, hbQ] <;> first | rfl | simp
    | 10, _ =>
     obtain rfl := Option.some.inj hoQ
     simp only [sO, j0, j8, List.getD_cons_succ, List.getD_cons_zero, List.getD_nil, and_true, true_and] at hbQ
     show qY _ _ _ false _ _
     simp (disch := omega) only [go_sem, seval, hxO, hks, hcast, hbQ]
     repeat refine And.intro bS ?_
     refine dJ (sU _ l (q.getD (q.length - 1) default)) ?_ ?_
     ·rfl
     try simp (disch := omega) only [go_sem, seval, hxO, hks, hcast, hbQ]
     repeat refine And.intro bS ?_
     refine hKQ _ ?_
     simp (disch := omega) only [go_sem, seval, hxO, hks, hcast, hbQ] <;> first | rfl | simp
   simp (disch := omega) only [go_sem, seval, hxO, hks, hcast]
   repeat refine And.intro bS ?_
   refine hK3 _ _ ?_; clear hK3
   refine aT fun K4 hK4 => ?_
   refine fD hF ?_
   refine aX [0, 1, 4, 5, 6] (by kernel_rfl) ?_
   simp (disch := omega) only [go_sem, seval, hxO, hks, hcast]
   repeat refine And.intro bS ?_
   refine hK4 _ _ ?_; clear hK4
   refine cJ (fun c1 => ?_) fun c1 => ?_
   ·have hcn : (bG l (gI q)).2 = true := (by simpa using c1)
    obtain ⟨hpP, hpE⟩ := yP (bCq hcs hcn)
    refine aT fun K5 hK5 => ?_
    refine fD hF ?_
    refine aX [4, 5] (by kernel_rfl) ?_
    simp (disch := omega) only [go_sem, seval, hxO, hks, hcast]
    repeat refine And.intro bS ?_
    refine hK5 _ _ ?_; clear hK5
    refine dD ?_
    exact aOb 4 49 rfl (by simp (disch := omega) only [go_sem, seval, hxO, hks, hcast]) (by simp (disch := omega) only [go_sem, seval, hxO, hks, hcast] <;> rfl) (by kernel_rfl) rfl ⟨h, by rw [hpP, List.append_nil], by rw [hpP, List.append_nil, sX], by rw [hpE] <;> rfl⟩
   have hcn : (bG l (gI q)).2 = false := (by simpa using c1)
   refine bN ?_
   refine hK1 _ _ ⟨rfl, ?_, ?_⟩
   ·exact bCh (s := gI q) hcn
   simp (disch := omega) only [go_sem, seval, hxO, hks, hcast] <;> first | rfl | omega | simp | simp_all
  have hcs : 0 ≤ iU l (lT q) := (by simpa using c0)
  refine bN ?_
  refine hK1 _ _ ⟨rfl, ?_, ?_⟩
  ·exact aWs hcs
  simp (disch := omega) only [go_sem, seval, hxO, hks, hcast] <;> first | rfl | omega | simp | simp_all
 rintro sF ρ ⟨rfl, j5_0, rfl⟩
 obtain ⟨hpP, hpE⟩ := aDi j5_0
 refine aT fun K6 hK6 => ?_
 refine bK (Le.keepC [0, 1, 4] _) ?_
 refine aFy [0, 1, 4, 31, 32, 33, 34, 36, 37, 38, 39, 40, 41, 35] [[], [], [1], [1, 2], [1, 2, 3], [], [5], [5, 6], [1, 2, 3, 4, 5, 6, 7], [0, 1, 2, 3, 4, 5, 6, 7, 8], [0, 1, 2, 3, 4, 5, 6, 7, 8, 9], [0, 1, 2, 3, 4, 5, 6, 7, 8, 9, 10]] [[11], [4, 8, 11], [4, 8, 11], [4, 8, 11], [8, 11], [8, 11], [8, 11], [8, 11], [11], [11], [11], []] (fun (hx : Hd) bQ => dU (cond (bQ 11) (set O1 k (.bx (qE l hx (P ++ [q]).length))) (set O1 k (.bx (qE l h P.length)))) [(0, .bp (k + 100000) 0), (1, .own (s + 100000) q.length), (4, .bx [vi 0, vi 0]), (31, bJ (bQ 0) (.bp (k + 100000) 0)), (32, bJ (bQ 1) (.bp (k + 100000) 0)), (33, bJ (bQ 2) (.bp (k + 100000) 0)), (34, bJ (bQ 3) (.bp (k + 100000) 6)), (36, bJ (bQ 5) (.own (s + 100000) q.length)), (37, bJ (bQ 6) (b8 q)), (38, bJ (bQ 7) (.sl 1 1 (fun i => [[b8 q]].getD i []))), (39, bJ (bQ 8) (hx.sl (P ++ [q]).length)), (40, bJ (bQ 9) (.bp (k + 100000) 0)), (41, bJ (bQ 10) (.bp (k + 100000) 6)), (35, (cond (bQ 8) (.any) (cond (bQ 4) (h.sl P.length) (.any))))]) (fun (hx : Hd) bQ => (cond (bQ 8) [zD hx (P ++ [q])] [zD h P])) ⟨none, none, 0⟩ hF fH (by kernel_rfl) ?_ ?_ (fun iQ oQ hoQ hx bQ hbQ KQ hKQ => ?_) (fun hx => ?_)
 ·first | rfl | (simp (disch := omega) only [go_sem, seval, hxO, hks, hcast]; done) | (simp (disch := omega) only [go_sem, seval, hxO, hks, hcast] <;> rfl)
 ·simp (disch := omega) only [go_sem, seval, hxO, hks, hcast] <;> first | rfl | simp
 ·have hiQ : iQ < 12 := (List.getElem?_eq_some_iff.1 hoQ).1
  match iQ, hiQ with
  | 0, _ | 1, _ | 2, _ | 3, _ | 4, _ | 5, _ | 7, _ | 9, _ | 10, _ | 11, _ =>
   obtain rfl := Option.some.inj hoQ
   simp only [sO, j0, j8, List.getD_cons_succ, List.getD_cons_zero, List.getD_nil, and_true, true_and] at hbQ
   show gN _ _ _ _ _ _ _ _
   refine dT hF ?_
   refine cS rfl (by kernel_rfl) (by kernel_rfl) ?_
   simp (disch := omega) only [go_sem, seval, hxO, hks, hcast, hbQ]
   repeat refine And.intro bS ?_
   refine hKQ hx _ _ ?_ ?_
   ·first | rfl | (simp (disch := omega) only [go_sem, seval, hxO, hks, hcast, hbQ]; done) | (simp (disch := omega) only [go_sem, seval, hxO, hks, hcast, hbQ] <;> rfl)
   simp (disch := omega) only [go_sem, seval, hxO, hks, hcast, hbQ] <;> first | rfl | simp
  | 6, _ =>
   obtain rfl := Option.some.inj hoQ
   simp only [sO, j0, j8, List.getD_cons_succ, List.getD_cons_zero, List.getD_nil, and_true, true_and] at hbQ
   show gN _ _ _ _ _ _ _ _
   refine dT hF ?_
   refine cS rfl (by kernel_rfl) (by kernel_rfl) ?_
   simp (disch := omega) only [go_sem, seval, hxO, hks, hcast, hbQ]
   repeat refine And.intro bS ?_
   refine fP _ (dG (kE _ q (s + 100000) (by simp (disch := omega) only [go_sem, seval, hxO, hks, hcast]) (by omega))) ?_
   simp (disch := omega) only [go_sem, seval, hxO, hks, hcast, hbQ]
   repeat refine And.intro bS ?_
   refine hKQ hx _ _ ?_ ?_
   ·first | rfl | (simp (disch := omega) only [go_sem, seval, hxO, hks, hcast, hbQ]; done) | (simp (disch := omega) only [go_sem, seval, hxO, hks, hcast, hbQ] <;> rfl)
   simp (disch := omega) only [go_sem, seval, hxO, hks, hcast, hbQ] <;> first | rfl | simp
  | 8, _ =>
   obtain rfl := Option.some.inj hoQ
   simp only [sO, j0, j8, List.getD_cons_succ, List.getD_cons_zero, List.getD_nil, and_true, true_and] at hbQ
   rw [hbQ.1]
   simp only [cond_false]
   show gN _ _ _ _ _ _ _ _
   refine fY (s1 := []) (s2 := []) 35 (by decide) (by simp (disch := omega) only [go_sem, seval, hxO, hks, hcast, hbQ] <;> rfl) rfl ?_
   refine oI [] [] 42 1 ((P ++ [q]).map zV) 39 (by decide) ?_
   show gN _ _ _ _ _ _ _ _
   refine dT hF ?_
   refine cS rfl (by kernel_rfl) (by kernel_rfl) ?_
   simp (disch := omega) only [go_sem, seval, hxO, hks, hcast, hbQ]
   repeat refine And.intro bS ?_
   refine ⟨rfl, by simp (disch := omega) only [go_sem, seval, hxO, hks, hcast, hbQ] <;> (first | rfl | (simp; done) | (simp; rfl)), fun hx => ?_⟩
   try simp (disch := omega) only [go_sem, seval, hxO, hks, hcast, hbQ]
   refine hKQ hx _ _ ?_ ?_
   ·first | rfl | (simp (disch := omega) only [go_sem, seval, hxO, hks, hcast, hbQ]; done) | (simp (disch := omega) only [go_sem, seval, hxO, hks, hcast, hbQ] <;> rfl)
   simp (disch := omega) only [go_sem, seval, hxO, hks, hcast, hbQ] <;> first | rfl | simp
 simp (disch := omega) only [go_sem, seval, hxO, hks, hcast]
 repeat refine And.intro bS ?_
 refine hK6 _ _ ?_; clear hK6
 refine aT fun K7 hK7 => ?_
 refine fD hF ?_
 refine aX [4] (by kernel_rfl) ?_
 simp (disch := omega) only [go_sem, seval, hxO, hks, hcast]
 repeat refine And.intro bS ?_
 refine hK7 _ _ ?_; clear hK7
 refine dD ?_
 exact aIz (s := k) (cs0 := qE l h P.length) (cs := qE l hx (P ++ [q]).length) 4 49 rfl (by rw [aO, if_pos rfl]) rfl rfl rfl (by simp (disch := omega) only [go_sem, seval, hxO, hks, hcast] <;> first | rfl | simp) (by simp (disch := omega) only [go_sem, seval, hxO, hks, hcast] <;> rfl) (by kernel_rfl) rfl ⟨hx, by rw [hpP], by rw [hpP], by rw [hpE] <;> rfl⟩
end
end Go.Sg
namespace Go.Sg
open Go.Proofs
def FoR (O : aS) (k : Nat) (l : aB) (P : List (List aW)) (n : Nat) (a : cG) (q : List aW) (rs : List Rg) (O' : aS) (r : DV) : Prop :=
 ∃ h', rs = [zD h' (P ++ n0 l n a q)] ∧ O' = set O k (.bx (qE l h' (P ++ n0 l n a q).length)) ∧ r = .tup []
def FoC (l : aB) (n : Nat) : Prop := ∀ (O : aS) (k : Nat) (h hp : Hd) (P : List (List aW)) (a : cG) (q : List aW) (nq : Nat), nq = q.length → O k = .bx (qE l h P.length) → q.length ≤ 12 → 13 ≤ q.length + n → P.length + 2 ^ n ≤ 100000000 →
 zB Tryz.prog O 119 [.bp k 0, hp.sl nq, .agg (cE a)] [rgQ hp q, zD h P] (FoR O k l P n a q)
def goG (l : aB) (n : Nat) (q : List aW) (s : aW) : List (List aW) := if iE l s = true then [q ++ [s]] else n0 l n (bG l s).1 (q ++ [s])
def goI (l : aB) (n : Nat) (b : cG) (q : List aW) (i : Nat) : List (List aW) := ((cQ l b).take i).flatMap (goG l n q)
theorem aSy {l : aB} {n : Nat} {b : cG} {q : List aW} {i : Nat} (h : i < (cQ l b).length) : goI l n b q (i + 1) = goI l n b q i ++ goG l n q ((cQ l b).getD i default) := by
 unfold goI; rw [fV default h, List.flatMap_append, List.flatMap_singleton]
theorem bBu (l : aB) (n : Nat) (q : List aW) (s : aW) : (goG l n q s).length ≤ 2 ^ n := by
 unfold goG; split
 ·simp; exact Nat.one_le_two_pow
 exact xB _ _ _ _
theorem aZr (l : aB) (n : Nat) (b : cG) (q : List aW) : ∀ i, (goI l n b q i).length ≤ i * 2 ^ n
 | i => by
  unfold goI
  refine Nat.le_trans (tA (c := 2 ^ n) fun s _ => bBu l n q s) (Nat.mul_le_mul_right _ ?_)
  exact List.length_take_le _ _
theorem bEz {l : aB} {n : Nat} {b : cG} {q : List aW} (h : q.length = 12 ∨ kQ l q b.fEl = false) : n0 l (n + 1) b q = [] := by rw [n0, if_pos h]
theorem aVe {l : aB} {n : Nat} {b : cG} {q : List aW} (h : ¬ (q.length = 12 ∨ kQ l q b.fEl = false)) {i : Nat} (hi : (cQ l b).length ≤ i) : n0 l (n + 1) b q = goI l n b q i := by
 rw [n0, if_neg h]; unfold goI; rw [List.take_of_length_le hi]; rfl
theorem aVh {l : aB} {n : Nat} {b : cG} {q : List aW} (h : ¬ (q.length = 12 ∨ kQ l q b.fEl = false)) (h1 : (cQ l b).length = 1) : n0 l (n + 1) b q = goG l n q ((cQ l b).getD 0 default) := by
 rw [aVe h (i := 0 + 1) (by omega), aSy (by omega)]; unfold goI; simp
theorem pA {l : aB} {n : Nat} {q : List aW} {s : aW} : goG l n q s = kD l (q ++ [s]) ++ if iE l s = true then [] else n0 l n (bG l s).1 (q ++ [s]) := by
 unfold goG kD
 rw [fF]
 split <;> simp
section
attribute [local go_sem] mJ sX w9 cond_true cond_false lF List.length_map List.take_length Nat.mul_one Nat.add_zero Nat.zero_add ite_self aDm aDf z6 yN aFl aFg aEq aCx List.drop_zero
set_option maxRecDepth 20000 in
set_option maxHeartbeats 16000000 in
theorem aHn (O : aS) (l : aB) (nn : Nat) (ih : ∀ m, m ≤ nn → FoC l m) (hl : eK l) (hv : ∀ e, (aI l e).2 = true → 0 ≤ (aI l e).1.fEl) (k : Nat) (h hp : Hd) (P : List (List aW)) (a : cG) (q : List aW) (nq : Nat) (hnq : nq = q.length) (hk : O k = .bx (qE l h P.length)) (hq : q.length ≤ 12) (hqn : 13 ≤ q.length + (nn + 1)) (hP : P.length + 2 ^ (nn + 1) ≤ 100000000) : zB Tryz.prog O 119 [.bp k 0, hp.sl nq, .agg (cE a)] [rgQ hp q, zD h P] (FoR O k l P (nn + 1) a q) := by
 subst hnq
 obtain ⟨O1, rfl⟩ : ∃ O1, O = set O1 k (.bx (qE l h P.length)) := ⟨O, by funext j; rw [aO]; split <;> simp_all⟩
 refine lY Tryz.func119 rfl (by kernel_rfl) fun w0 I0 A0 => ?_
 have hF := mW w0 I0 (b6 A0) (GOf [rgQ hp q, zD h P])
 refine aOe (s1 := []) (s2 := [zD h P]) 1 (by decide) (by simp (disch := omega) only [go_sem, seval] <;> first | rfl | simp) rfl ?_
 refine bD hF [0, 1, 2] ?_
 refine aLa [0, 1, 5] rfl (fun l' hl => by have hb : ((0 : Nat) == l') = false := (by simpa using Ne.symm hl); simp only [findLabel, hb]; rfl) (fun n sF ρ => ∃ m, ∃ p, ∃ b, ∃ U, ∃ hx, n = m ∧ sF = [zD hx U] ∧ (U ++ n0 l m b p = P ++ n0 l (nn + 1) a q) ∧ (p.length ≤ 12) ∧ (13 ≤ p.length + m) ∧ (U.length + 2 ^ m ≤ 100000000) ∧ (m ≤ nn + 1) ∧ ρ = dU (set O1 k (.bx (qE l hx (U).length))) [(0, .bp (k + 100000) 0), (1, oY p), (5, .bx (cE b))]) _ ⟨nn + 1, q, a, P, h, rfl, rfl, ?_, ?_, ?_, ?_, ?_, ?_⟩ ?_
 ·rfl
 ·exact bI
 ·exact bI
 ·exact bI
 ·exact bI
 ·exact dC
 rintro n sF ρ ⟨m, p, b, U, hx, rfl, rfl, s0_0, s0_1, s0_2, s0_3, s0_4, rfl⟩ K1 hK1
 obtain ⟨m1, rfl⟩ : ∃ m1, n = m1 + 1 := ⟨n - 1, by omega⟩
 have hbl := oF l b
 have hpw : 2 ^ (m1 + 1) = 2 * 2 ^ m1 := by rw [Nat.pow_succ, Nat.mul_comm]
 have hp1 : 1 ≤ 2 ^ m1 := Nat.one_le_two_pow
 refine aT fun K2 hK2 => ?_
 refine aT fun K3 hK3 => ?_
 refine e9 hF [0, 1, 5] ?_
 refine lB (fun g0 => aAa _ p 1 (by simp (disch := omega) only [go_sem, seval]) (by omega) l (k + 100000) (hx.sl U.length) b.fEl (by simp (disch := omega) only [go_sem, seval] <;> rfl)) ?_
 refine hK3 _ _ ?_; clear hK3
 refine cJ (fun c0 => ?_) fun c0 => ?_
 ·have hcc : p.length = 12 ∨ kQ l p b.fEl = false := (by simpa using c0)
  refine dD ?_
  (try simp only [fR, eC, xX, ↓reduceIte]); exact yX (s := k) (cs0 := qE l h P.length) (cs := qE l hx (U).length) (.inl rfl) rfl (by rw [aO, if_pos rfl]) rfl rfl rfl (by simp (disch := omega) only [go_sem, seval] <;> first | rfl | simp) ⟨hx, by rw [← s0_0, bEz hcc, List.append_nil], by rw [← s0_0, bEz hcc, List.append_nil], rfl⟩
 have hcc : ¬ (p.length = 12 ∨ kQ l p b.fEl = false) := (by simpa using c0)
 have hp11 : p.length < 12 := (by omega)
 refine bN ?_
 refine hK2 _ _ ?_; clear hK2
 refine aT fun K4 hK4 => ?_
 refine fD hF ?_
 refine gY [0, 1, 5] [(6, 27)] ?_
 refine cdz (nZ _ l b hl) ?_
 refine hK4 _ _ ?_; clear hK4
 refine aT fun K5 hK5 => ?_
 refine bD hF [0, 1, 5, 6] ?_
 refine cJ (fun c1 => ?_) fun c1 => ?_
 ·have h1 : (cQ l b).length = 1 := (by omega)
  refine bD hF [0, 1, 5, 6] ?_
  refine aT fun K8 hK8 => ?_
  refine aT fun K9 hK9 => ?_
  refine bK (Le.keepC [0, 1, 5] _) ?_
  refine bM ?_
  refine ef hF ?_
  refine ef hF ?_
  show gN _ _ _ _ _ _ _ _
  refine lZ (cur := _) (rs := [zD hx U]) (s2 := []) rfl rfl rfl (by decide) (by kernel_rfl) (by simp (disch := omega) only [go_sem, seval]) (by simp (disch := omega) only [go_sem, seval]) (by simp (disch := omega) only [go_sem, seval] <;> rfl) (by kernel_rfl) (by simp (disch := omega) only [go_sem, seval] <;> exact List.Perm.refl _) (kW _ l (p ++ [((cQ l b).getD 0 default)]) (U) hx (k + 100000) 1 (by simp (disch := omega) only [go_sem, seval]) (by simp (disch := omega) only [go_sem, seval] <;> first | rfl | simp) _ (by simp) (by simp; omega) (by simp) (by omega)) ?_
  rintro rs1 O2 r1 ⟨h2, rfl, rfl, rfl⟩
  try simp (disch := omega) only [go_sem, seval]
  refine ef hF ?_
  refine hK9 _ _ ?_; clear hK9
  refine bD hF [0, 1, 5] ?_
  refine cJ (fun c2 => ?_) fun c2 => ?_
  ·have he : iE l ((cQ l b).getD 0 default) = false := (by
    cases hx2 : iE l ((cQ l b).getD 0 default) with
    | false => rfl
    | true => have hq2 := (aDi (l := l) (q := p ++ [((cQ l b).getD 0 default)]) (by rw [fF]; exact hx2)).2; rw [hq2] at c2; simp at c2)
   obtain ⟨hpP, hpE⟩ := yP (l := l) (q := p ++ [((cQ l b).getD 0 default)]) (by rw [fF]; exact he)
   refine aTa ?_
   try simp only [fR, eC, xX, ↓reduceIte]
   refine hK1 _ _ _ ?_ ⟨m1, p ++ [((cQ l b).getD 0 default)], tC l (p ++ [((cQ l b).getD 0 default)]), U ++ kD l (p ++ [((cQ l b).getD 0 default)]), h2, rfl, rfl, ?_, ?_, ?_, ?_, ?_, ?_⟩
   ·omega
   ·rw [← s0_0, aVh hcc h1, pA, hpP, hpE, he, fF]; simp
   ·simp; omega
   ·simp; omega
   ·rw [hpP]; simp; omega
   ·exact bI
   exact dC
  have he : iE l ((cQ l b).getD 0 default) = true := (by
   cases hx2 : iE l ((cQ l b).getD 0 default) with
   | true => rfl
   | false =>
    have hq2 := (yP (l := l) (q := p ++ [((cQ l b).getD 0 default)]) (by rw [fF]; exact hx2)).2
    have hn2 := vA (l := l) (s := ((cQ l b).getD 0 default)) (by rw [hx2]; simp)
    have hv2 := hv ⟨((cQ l b).getD 0 default).fEl, ((cQ l b).getD 0 default).fOut⟩ (congrArg Prod.snd hn2)
    rw [hq2, fF] at c2
    have hv3 : 0 ≤ (bG l ((cQ l b).getD 0 default)).1.fEl := hv2
    omega)
  obtain ⟨hpP, hpE⟩ := aDi (l := l) (q := p ++ [((cQ l b).getD 0 default)]) (by rw [fF]; exact he)
  refine bN ?_
  refine hK8 _ _ ?_; clear hK8
  refine dD ?_
  (try simp only [fR, eC, xX, ↓reduceIte]); exact yX (s := k) (cs0 := qE l h P.length) (cs := qE l h2 (U ++ kD l (p ++ [((cQ l b).getD 0 default)])).length) (.inl rfl) rfl (by rw [aO, if_pos rfl]) rfl rfl rfl (by simp (disch := omega) only [go_sem, seval] <;> first | rfl | simp) ⟨h2, by rw [← s0_0, aVh hcc h1, pA, he, if_pos rfl, List.append_nil], by rw [← s0_0, aVh hcc h1, pA, he, if_pos rfl, List.append_nil], rfl⟩
 have h1 : ¬ (cQ l b).length = 1 := (by omega)
 refine bN ?_
 refine hK5 _ _ ?_; clear hK5
 refine bD hF [0, 1, 6] ?_
 refine bR ?_
 refine dV [0, 1, 43, 44, 45] (fun n sF ρ => ∃ i, ∃ hx, ∃ V, n = (cQ l b).length - i ∧ sF = [zD hx V] ∧ (i ≤ (cQ l b).length) ∧ (V = U ++ goI l m1 b p i) ∧ ρ = dU (set O1 k (.bx (qE l hx (V).length))) [(0, .bp (k + 100000) 0), (1, oY p), (43, b8 (cQ l b)), (44, vi ((cQ l b).length : Nat)), (45, vi (i : Nat))]) _ ⟨0, hx, U, rfl, rfl, ?_, ?_, ?_⟩ ?_
 ·exact bI
 ·(unfold goI; simp)
 ·exact dC
 rintro n sF ρ ⟨i, hx, V, rfl, rfl, l0_0, l0_1, rfl⟩ K12 hK12
 have hgl := aZr l m1 b p i
 have hgb2 : i < (cQ l b).length → V.length + 2 ^ m1 ≤ 100000000 := fun h => by
  rw [l0_1, List.length_append]; have : i * 2 ^ m1 ≤ 1 * 2 ^ m1 := Nat.mul_le_mul_right _ (by omega); omega
 refine bD hF [0, 1, 6, 43, 44, 45] ?_
 refine aT fun K14 hK14 => ?_
 refine cJ (fun c3 => ?_) fun c3 => ?_
 ·refine bN ?_
  refine hK14 _ _ ?_; clear hK14
  refine aT fun K15 hK15 => ?_
  refine bR ?_
  refine bD hF [0, 1, 6, 43, 44, 45] ?_
  refine aT fun K17 hK17 => ?_
  refine aEu 6 [0, 1, 6, 8, 43, 44, 45] [0, 1, 8, 43, 44, 45, 49, 51, 52, 9, 50, 53] [[], [0], [], [2], [0, 1, 2, 3], [0, 1, 2, 3, 4]] [[1, 4, 5], [4, 5], [4, 5], [4, 5], [5], []] (fun (_ : Unit) bQ => dU (set O1 k (.bx (qE l hx (V).length))) [(0, .bp (k + 100000) 0), (1, oY p), (8, .bx (bO ((cQ l b).getD i default))), (43, b8 (cQ l b)), (44, vi ((cQ l b).length : Nat)), (45, vi (i : Nat)), (49, bJ (bQ 0) (.own 1 p.length)), (51, bJ (bQ 2) (.agg (bO ((cQ l b).getD i default)))), (52, bJ (bQ 3) (.sl 3 1 (fun i_ => [bO ((cQ l b).getD i default)].getD i_ []))), (9, bJ (bQ 5) (.row 85 3 (p.map bO ++ [bO ((cQ l b).getD i default)]))), (50, (cond (bQ 4) (.any) (cond (bQ 1) (oY p) (.any)))), (53, (cond (bQ 5) (.any) (cond (bQ 4) (.row 85 3 (p.map bO ++ [bO ((cQ l b).getD i default)])) (.any))))]) (fun (_ : Unit) bQ => [zD hx V]) () hF (fun iQ hiQ oQ hoQ gg bQ hbQ KQ hKQ => ?_) (fun gg => ?_)
  ·match iQ, hiQ with
   | 0, _ | 2, _ | 3, _ | 4, _ | 5, _ =>
    exact mfp hF hoQ hbQ (hKQ ())
   | 1, _ =>
    obtain rfl := Option.some.inj hoQ
    simp only [sO, j0, j8, List.getD_cons_succ, List.getD_cons_zero, List.getD_nil, and_true, true_and] at hbQ
    show gN _ _ _ _ _ _ _ _
    refine dT hF ?_
    refine cS rfl (by kernel_rfl) (by kernel_rfl) ?_
    simp (disch := omega) only [go_sem, seval, hbQ]
    repeat refine And.intro bS ?_
    refine fP _ (kE _ p 1 (by simp (disch := omega) only [go_sem, seval]) (by omega)) ?_
    simp (disch := omega) only [go_sem, seval, hbQ]
    repeat refine And.intro bS ?_
    refine hKQ () _ _ ?_ ?_
    ·first | rfl | (simp (disch := omega) only [go_sem, seval, hbQ]; done) | (simp (disch := omega) only [go_sem, seval, hbQ] <;> rfl)
    simp (disch := omega) only [go_sem, seval, hbQ] <;> first | rfl | simp
  refine rF ?_
  refine hK17 _ _ ?_; clear hK17
  refine aT fun K18 hK18 => ?_
  refine bK (Le.keepC [0, 1, 6, 9, 43, 44, 45] _) ?_
  refine bM ?_
  refine ef hF ?_
  refine ef hF ?_
  show gN _ _ _ _ _ _ _ _
  refine lZ (cur := _) (rs := [zD hx V]) (s2 := []) rfl rfl rfl (by decide) (by kernel_rfl) (by simp (disch := omega) only [go_sem, seval]) (by simp (disch := omega) only [go_sem, seval]) (by simp (disch := omega) only [go_sem, seval] <;> rfl) (by kernel_rfl) (by simp (disch := omega) only [go_sem, seval] <;> exact List.Perm.refl _) (kW _ l (p ++ [((cQ l b).getD i default)]) (V) hx (k + 100000) 9 (by simp (disch := omega) only [go_sem, seval]) (by simp (disch := omega) only [go_sem, seval] <;> first | rfl | simp) _ (by simp) (by simp; omega) (by simp) (by omega)) ?_
  rintro rs1 O2 r1 ⟨h2, rfl, rfl, rfl⟩
  try simp (disch := omega) only [go_sem, seval]
  refine ef hF ?_
  refine ef hF ?_
  refine hK18 _ _ ?_; clear hK18
  refine bD hF [0, 1, 6, 9, 10, 43, 44, 45] ?_
  refine cJ (fun c4 => ?_) fun c4 => ?_
  ·have he : iE l ((cQ l b).getD i default) = false := (by
    cases hx2 : iE l ((cQ l b).getD i default) with
    | false => rfl
    | true => have hq2 := (aDi (l := l) (q := p ++ [((cQ l b).getD i default)]) (by rw [fF]; exact hx2)).2; rw [hq2] at c4; simp at c4)
   obtain ⟨hpP, hpE⟩ := yP (l := l) (q := p ++ [((cQ l b).getD i default)]) (by rw [fF]; exact he)
   have hb2 : (V ++ kD l (p ++ [((cQ l b).getD i default)])).length + 2 ^ m1 ≤ 100000000 := (by rw [hpP, List.append_nil]; exact hgb2 c3)
   have hgi : goI l m1 b p (i + 1) = goI l m1 b p i ++ kD l (p ++ [((cQ l b).getD i default)]) ++ n0 l m1 (tC l (p ++ [((cQ l b).getD i default)])) (p ++ [((cQ l b).getD i default)]) := (by rw [aSy c3, pA, he, hpP, hpE, fF]; simp)
   refine aCn (s1 := []) (s2 := [zD h2 (V ++ kD l (p ++ [((cQ l b).getD i default)]))]) (l := (p ++ [((cQ l b).getD i default)]).map bO) 9 (by decide) (by simp (disch := omega) only [go_sem, seval] <;> first | rfl | simp) rfl (fun hz => ?_)
   refine bK (Le.keepC [0, 1, 6, 9, 10, 43, 44, 45] _) ?_
   refine bM ?_
   refine ef hF ?_
   refine ef hF ?_
   refine ef hF ?_
   show gN _ _ _ _ _ _ _ _
   refine lZ (cur := _) (rs := [rgQ hz (p ++ [((cQ l b).getD i default)]), zD h2 (V ++ kD l (p ++ [((cQ l b).getD i default)]))]) (s2 := []) rfl rfl rfl (by decide) (by kernel_rfl) (by simp (disch := omega) only [go_sem, seval]) (by simp (disch := omega) only [go_sem, seval]) (by simp (disch := omega) only [go_sem, seval] <;> rfl) (by kernel_rfl) (by simp (disch := omega) only [go_sem, seval] <;> exact List.Perm.refl _) (ih m1 (by omega) _ (k + 100000) h2 hz (V ++ kD l (p ++ [((cQ l b).getD i default)])) (tC l (p ++ [((cQ l b).getD i default)])) (p ++ [((cQ l b).getD i default)]) _ (by simp) (by simp (disch := omega) only [go_sem, seval]) (by simp; omega) (by simp; omega) hb2) ?_
   rintro rs3 O3 r3 ⟨h3, rfl, rfl, rfl⟩
   refine rF ?_
   refine hK15 _ _ ?_; clear hK15
   refine dS hF [0, 1, 6, 43, 44, 45] ?_
   refine hK12 _ _ _ ?_ ⟨i + 1, h3, (V ++ kD l (p ++ [((cQ l b).getD i default)])) ++ n0 l m1 (tC l (p ++ [((cQ l b).getD i default)])) (p ++ [((cQ l b).getD i default)]), rfl, rfl, ?_, ?_, ?_⟩
   ·exact bI
   ·exact bI
   ·(rw [l0_1, hgi]; simp)
   exact dC
  have he : iE l ((cQ l b).getD i default) = true := (by
   cases hx2 : iE l ((cQ l b).getD i default) with
   | true => rfl
   | false =>
    have hq2 := (yP (l := l) (q := p ++ [((cQ l b).getD i default)]) (by rw [fF]; exact hx2)).2
    have hn2 := vA (l := l) (s := ((cQ l b).getD i default)) (by rw [hx2]; simp)
    have hv2 := hv ⟨((cQ l b).getD i default).fEl, ((cQ l b).getD i default).fOut⟩ (congrArg Prod.snd hn2)
    rw [hq2, fF] at c4
    have hv3 : 0 ≤ (bG l ((cQ l b).getD i default)).1.fEl := hv2
    omega)
  have hgi : goI l m1 b p (i + 1) = goI l m1 b p i ++ kD l (p ++ [((cQ l b).getD i default)]) := (by rw [aSy c3, pA, he, if_pos rfl, List.append_nil])
  refine bN ?_
  refine hK15 _ _ ?_; clear hK15
  refine dS hF [0, 1, 6, 43, 44, 45] ?_
  refine hK12 _ _ _ ?_ ⟨i + 1, h2, (V ++ kD l (p ++ [((cQ l b).getD i default)])), rfl, rfl, ?_, ?_, ?_⟩
  ·exact bI
  ·exact bI
  ·(rw [l0_1, hgi]; simp)
  exact dC
 refine eB ?_
 (try simp only [fR, eC, xX, ↓reduceIte]); exact yX (s := k) (cs0 := qE l h P.length) (cs := qE l hx (V).length) (.inr rfl) rfl (by rw [aO, if_pos rfl]) rfl rfl rfl (by simp (disch := omega) only [go_sem, seval] <;> first | rfl | simp) ⟨hx, by rw [← s0_0, aVe hcc (i := i) (by omega), ← l0_1], by rw [← s0_0, aVe hcc (i := i) (by omega), ← l0_1], rfl⟩
end
theorem rZ {l : aB} (hl : eK l) (hv : ∀ e, (aI l e).2 = true → 0 ≤ (aI l e).1.fEl) : ∀ n, ∀ m, m ≤ n → FoC l m
 | 0, m, hm => fun O k h hp P a q nq h1 h2 h3 h4 => absurd h4 (by omega)
 | n + 1, m, hm => by
  rcases Nat.lt_or_eq_of_le hm with h | rfl
  ·exact rZ hl hv n m (by omega)
  exact fun O k h hp P a q nq h1 h2 h3 h4 h5 => aHn O l n (rZ hl hv n) hl hv k h hp P a q nq h1 h2 h3 h4 h5
end Go.Sg
namespace Go.Sg
open Go.Proofs
section
attribute [local go_sem] List.drop_zero hM iB iG fO kU kV kR kY kS kZ iR i6 iW fS lP lR lS lJ lQ lK lW lL lU lV iP iS iT iX
end
end Go.Sg
namespace Go.Sg
open Go.Proofs
def fI (fr : Int → List a8) (n : Nat) : List a8 := (List.range n).flatMap fun i => fr (i : Nat)
theorem s6 (fr : Int → List a8) (n : Nat) : fI fr (n + 1) = fI fr n ++ fr (n : Nat) := by
 unfold fI; rw [List.range_succ, List.flatMap_append]; simp
theorem aBy {fr : Int → List a8} (h : ∀ i, (fr i).length ≤ 10000) : ∀ n, (fI fr n).length ≤ 10000 * n
 | 0 => by simp [fI]
 | n + 1 => by rw [s6, List.length_append]; have := aBy h n; have := h (n : Nat); omega
def dP (l : aB) (fr : Int → List a8) : List a8 × Int := if j6 l ≠ 0 then ([], j6 l) else if 48 < (fI fr l.fSignals.length).length then ([], 2) else (fI fr l.fSignals.length, 0)
theorem aRu {l : aB} {fr : Int → List a8} (h : j6 l ≠ 0) : dP l fr = ([], j6 l) := by unfold dP; rw [if_pos h]
theorem aUd {l : aB} {fr : Int → List a8} (h : j6 l = 0) (h2 : 48 < (fI fr l.fSignals.length).length) : dP l fr = ([], 2) := by unfold dP; rw [if_neg (by simp [h]), if_pos h2]
theorem aQk {l : aB} {fr : Int → List a8} (h : j6 l = 0) (h2 : ¬ 48 < (fI fr l.fSignals.length).length) : dP l fr = (fI fr l.fSignals.length, 0) := by unfold dP; rw [if_neg (by simp [h]), if_neg h2]
abbrev bOu (l : List a8) : DV := rowL 46 14 bB l
section
attribute [local go_sem] List.drop_zero hM iB iG fO kU kV kR kY kS kZ iR i6 iW fS lP lR lS lJ lQ lK lW lL lU lV iP iS iT iX
set_option maxHeartbeats 4000000 in
theorem aFm (O : aS) (l : aB) (fr : Int → List a8) (hl : eK l) (hF : j6 l = 0 → ∀ O (i : Nat), i < l.fSignals.length → aY Tryz.prog O 73 [.agg (aK l), vi (i : Nat)] (iM (fr (i : Nat)))) (hb : ∀ i, (fr i).length ≤ 10000) : aY Tryz.prog O 35 [.agg (aK l)] (.tup [iM (dP l fr).1, vi (dP l fr).2]) := by
 have hl4 := hl.sg
 refine aU 0 rfl (.agg (d := jU l.fSignals) (by simp [aK]) (.sl _ _ _)) fun hs => ?_
 refine eE Tryz.func35 ?_
 refine aC [0] ?_
 refine aA fun K1 hK1 => ?_
 refine aA fun K2 hK2 => ?_
 refine bL [1] ?_
 refine eL (wY _ l hl) ?_
 refine hK2 _ ?_; clear hK2
 refine aC [1, 4] ?_
 refine aV (fun c0 => ?_) fun c0 => ?_
 ·refine aC [4] ?_
  refine aM ?_
  refine xD (.cons ?_ (.cons ?_ .nil))
  ·exact roN (by ((try simp only [go_sem, seval]); try simp (disch := omega) only [go_sem, seval])) (by (rw [aRu (by simpa using c0)]))
  exact mC (by ((try simp only [go_sem, seval]); try simp (disch := omega) only [go_sem, seval]) <;> ((rw [aRu (by simpa using c0)]))) rfl rfl
 have hck : j6 l = 0 := (by simpa using c0)
 refine aJ ?_
 refine hK1 _ ?_; clear hK1
 refine aC [1] ?_
 refine aA fun K6 hK6 => ?_
 refine aC [1, 5] ?_
 refine aL ?_
 refine gZ 5 46 14 bB rfl rfl ?_
 refine aZ [1, 5, 14, 15] (fun n ρ => ∃ i, n = l.fSignals.length - i ∧ (i ≤ l.fSignals.length) ∧ ρ = dU O [(1, .bx (aK l)), (5, bOu (fI fr i)), (14, vi (l.fSignals.length : Nat)), (15, vi (i : Nat))]) _ ⟨0, rfl, ?_, ?_⟩ ?_
 ·exact bI
 ·exact dC
 rintro n ρ ⟨i, rfl, l0_0, rfl⟩ K8 hK8
 have hal := aBy hb i
 refine aC [1, 5, 14, 15] ?_
 refine aA fun K10 hK10 => ?_
 refine aV (fun c1 => ?_) fun c1 => ?_
 ·refine aJ ?_
  refine hK10 _ ?_; clear hK10
  refine aA fun K11 hK11 => ?_
  refine aL ?_
  refine aC [1, 5, 14, 15] ?_
  refine bL [1, 5, 6, 14, 15] ?_
  refine eL (hF hck _ i c1) ?_
  refine hK11 _ ?_; clear hK11
  refine bE [1, 5, 14, 15] ?_
  refine hK8 _ _ ?_ ⟨i + 1, rfl, ?_, ?_⟩
  ·exact bI
  ·exact bI
  ((try simp only [go_sem, seval]); try simp (disch := omega) only [go_sem, seval]) <;> (show set (set _ 5 (DV.row _ 14 (_ ++ (List.range (fr (i : Nat)).length).map (fun j => bB ((fr (i : Nat)).getD j default))))) 1 _ = _; rw [bNa (l := fr (i : Nat)) (e := bB) (by simp) (fun j hj => rfl), ← List.map_append, ← s6]; rfl)
 refine bA ?_
 refine hK6 _ ?_; clear hK6
 refine aA fun K13 hK13 => ?_
 refine aC [5] ?_
 refine aV (fun c2 => ?_) fun c2 => ?_
 ·obtain rfl : i = l.fSignals.length := (by omega)
  refine aC [] ?_
  refine aM ?_
  refine xD (.cons ?_ (.cons ?_ .nil))
  ·exact roN (by ((try simp only [go_sem, seval]); try simp (disch := omega) only [go_sem, seval])) (by (rw [aUd hck (by omega)]))
  exact mC (by ((try simp only [go_sem, seval]); try simp (disch := omega) only [go_sem, seval]) <;> ((rw [aUd hck (by omega)]))) rfl rfl
 obtain rfl : i = l.fSignals.length := (by omega)
 refine aJ ?_
 refine hK13 _ ?_; clear hK13
 refine aA fun K16 hK16 => ?_
 refine fG 5 _ rfl rfl ?_
 refine bE [5] ?_
 refine hK16 _ ?_; clear hK16
 refine aM ?_
 refine xD (.cons ?_ (.cons ?_ .nil))
 ·exact roL rfl (by (rw [aQk hck (by omega)]))
 exact mC (by ((try simp only [go_sem, seval]); try simp (disch := omega) only [go_sem, seval]) <;> ((rw [aQk hck (by omega)]))) rfl rfl
end
section
attribute [local go_sem] List.drop_zero hM iB iG fO kU kV kR kY kS kZ iR i6 iW fS lP lR lS lJ lQ lK lW lL lU lV iP iS iT iX
end
section
attribute [local go_sem] List.drop_zero hM iB iG fO kU kV kR kY kS kZ iR i6 iW fS lP lR lS lJ lQ lK lW lL lU lV iP iS iT iX
end
end Go.Sg
namespace Go.Sg
open Go.RowKit
open Go.Rv (FR)
section
variable {P : Program} {nt : Nat} {w0 : World} {I0 : Nat → Prop} {A0 : cO} {G0 : Nat → Prop} {ρ : aS}
theorem b9.giveH {w : World} {I : Nat → Prop} {A : cO} {a : Act} {s1 s2 : List Rg} {h0 : Hd} {d : Nat} {e : TypeId} {z : Nat} {l : List (List DV)} (hs : b9 nt w I A ρ a) (hf : iD w0 I0 A0 G0 (s1 ++ s2) w I A) (hd : d < nt)
  (hρ : ρ d = .row e z l) (hnew : ∀ g c, A d = some (some g, c) → G0 g ∨ w0.heap.size ≤ g) (hA : A d = some (h0.B, h0.c)) (hx : a.tmps.getD d undef = .slice h0.b l.length h0.c) (hb : jI h0.B h0.b) :
  b9 nt w I (gE A d none) (set (cI d ρ) d (h0.sl l.length)) a ∧ iD w0 I0 A0 G0 (s1 ++ .row h0 e z l :: s2) w I (gE A d none) := by
 have ho := hs.osim.own d
 have hd2 : d < 100000 := Nat.lt_of_lt_of_le hd hs.bound
 rw [hρ] at ho
 obtain ⟨B', c', hA', hrow⟩ := ho
 rw [hA] at hA'
 simp only [Option.some.injEq, Prod.mk.injEq] at hA'
 obtain ⟨rfl, rfl⟩ := hA'
 obtain ⟨B, b, c⟩ := h0
 simp only at hA hx hb hrow hnew
 have hup : ∀ t, t ≠ d → gE A d none t = A t := fun t h => d5 A _ h
 have hno : ∀ t g c', gE A d none t = some (some g, c') → t ≠ d ∧ A t = some (some g, c') := fun t g c' h => by
  unfold gE at h
  split at h
  ·cases h
  rename_i h'; exact ⟨h', h⟩
 have hsep : ∀ g, B = some g → g < w.heap.size ∧ ¬ I g ∧ ∀ s c', gE A d none s ≠ some (some g, c') := fun g hg => by
  have h1 := hs.osim.sep d g c (by rw [hA, hg])
  refine ⟨h1.1, h1.2, fun s c' h => ?_⟩
  obtain ⟨h2, h3⟩ := hno s g c' h
  exact h2 (hs.osim.inj s d g c' c h3 (by rw [hA, hg]))
 obtain ⟨f1, f2, f3, f4⟩ := hf
 have hm : ∀ x ∈ s1 ++ (.row ⟨B, b, c⟩ e z l) :: s2, x = (.row ⟨B, b, c⟩ e z l) ∨ x ∈ s1 ++ s2 := fun x hx => by
  simp at hx ⊢; rcases hx with h | h | h
  ·exact .inr (.inl h)
  ·exact .inl h
  exact .inr (.inr h)
 have hne : ∀ x ∈ s1 ++ s2, ∀ g, B = some g → x.B ≠ some g := fun x hx g hg hxg => ((f1 x hx).free g hxg).2.2 d c (by rw [hA]; exact congrArg (fun q => some (q, c)) hg)
 refine ⟨⟨⟨fun s => ?_, fun s t g c1 c2 h1 h2 => ?_, fun s g c1 h => ?_, hs.osim.imm⟩, hs.size, hs.bound, fun i hi => ?_, fun s h => ?_⟩, fun r hr => ?_, ?_, fun r hr g hg => ?_, ⟨f4.os, f4.tape, f4.output, f4.size, f4.imm, fun g hg hAg hG => ?_, fun s hs' => ?_, fun s g c' h hg hs' => f4.loc s g c' (hno s g c' h).2 hg hs'⟩⟩
 ·unfold set; split
  ·trivial
  rename_i h; rw [d9 hd2 (hs.out s)]; exact (hs.osim.own s).reown h hup
 ·exact hs.osim.inj s t g c1 c2 (hno s g c1 h1).2 (hno t g c2 h2).2
 ·exact hs.osim.sep s g c1 (hno s g c1 h).2
 ·unfold set; split
  ·rename_i h
   subst h
   rw [hx]
   exact .ofRel (.v _ _)
  rename_i h; rw [d9 hd2 (hs.out i)]; exact (hs.slot i hi).reown h hup
 ·unfold set; rw [if_neg (by omega), d9 hd2 (hs.out s)]
  exact jG (hs.out s h)
 ·rcases hm r hr with rfl | h
  ·exact ⟨⟨hb, hrow⟩, hsep⟩
  obtain ⟨q1, q3⟩ := f1 r h
  exact ⟨q1, fun g hg => ⟨(q3 g hg).1, (q3 g hg).2.1, fun s c' h => (q3 g hg).2.2 s c' (hno s g c' h).2⟩⟩
 ·unfold jY at f2 ⊢
  rw [List.pairwise_append] at f2 ⊢
  refine ⟨f2.1, List.pairwise_cons.2 ⟨fun y hy g hg => hne y (by simp [hy]) g hg, f2.2.1⟩, fun x hx y hy g hg hy' => ?_⟩
  rcases List.mem_cons.1 hy with rfl | hy
  ·exact hne x (by simp [hx]) g hy' hg
  exact f2.2.2 x hx y hy g hg hy'
 ·rcases hm r hr with rfl | h
  ·exact hnew g c (by rw [hA]; exact congrArg (fun q => some (q, c)) hg)
  exact f3 r h g hg
 ·obtain ⟨k1, k2, k3⟩ := f4.old g hg hAg hG
  exact ⟨k1, k2, fun s c' h => k3 s c' (hno s g c' h).2⟩
 rw [hup s (by omega)]; exact f4.outA s hs'
theorem aBk {ops : Array Oper} {o : Oper} {K : List Rg → aS → Prop} {rs s1 s2 : List Rg} {h0 : Hd} {e : TypeId} {z : Nat} {l : List (List DV)} {fv : Operand} {args : Array Operand} {ts : Array TypeId} (d dd : Nat) (hd : d < nt) (hρ : ρ d = h0.sl l.length) (hr : rs = s1 ++ .row h0 e z l :: s2)
  (hop : o.op = .call ⟨.value fv, args, ts⟩) (hg : o.guard = none) (hdst : o.dst = some dd) (hdd : dd < nt) (hne : dd ≠ d) (ho : dA nt o = true) (hgf : gd (ev (set (cI d ρ) d (.row e z l)) fv)) (hga : ∀ x ∈ args.toList, gd (ev (set (cI d ρ) d (.row e z l)) x))
  {f : FuncId} {al : List DV} (hc : callee (un (ev (set (cI d ρ) d (.row e z l)) fv)) (args.toList.map fun x => un (ev (set (cI d ρ) d (.row e z l)) x)) = some (f, al)) (hb : aQ P f = true)
  {R : aS → DV → Prop} (hR : iC P (set (cI d ρ) d (.row e z l)) f al R)
  (hK : ∀ O' r, R O' r → bP r = false ∧ ∃ l', l'.length = l.length ∧ O' d = .row e z l' ∧ K (s1 ++ .row h0 e z l' :: s2) (set (cI d (set O' dd r)) d (h0.sl l.length))) :
  gN P nt (iD w0 I0 (b6 A0) G0) ops o K rs ρ := by
 subst hr
 intro ro ds I A a w hs hdf hf next Q' hn
 have hbase : jI h0.B h0.b := (hf.1 (.row h0 e z l) (by simp)).holds.1
 have hx0 : a.tmps.getD d undef = .slice h0.b l.length h0.c := by
  have := hs.slot d hd
  rw [hρ] at this
  generalize a.tmps.getD d undef = x at this ⊢
  have this : bH w I A (.v (.slice h0.b l.length h0.c)) x := this
  cases this; rfl
 obtain ⟨h1, h2⟩ := hs.takeG hf hd hρ
 obtain ⟨vals, v1, v2, v3⟩ := jN h1 hop ho hgf hga hc hb
 rw [if_pos (by simp [Region.wanted, hg])]
 refine nI v1 ?_
 refine (hR w I (gE A d (some (h0.B, h0.c))) vals h1.osim v2 v3).mono ?_
 rintro e' w' ⟨v, I', O', r, rfl, k1, k2, k3, k4, k5, k6⟩
 obtain ⟨hro, l', hl', hO'd, hK'⟩ := hK O' r k6
 have hcal := h1.called k1 k2 k3 k4
 have hrel : bH w' I' (gE A d (some (h0.B, h0.c))) r v := by
  cases r <;> first | exact k5 | (cases hro)
 have hput := hcal.put (d := dd) (v := r) (x := v) hdd (.ofRel hrel) (.ofPure hro)
 have hf2 : iD w0 I0 (b6 A0) G0 (s1 ++ s2) w' I' (gE A d (some (h0.B, h0.c))) := h2.ext h1.osim k4
 have hd2 : d < 100000 := Nat.lt_of_lt_of_le hd hs.bound
 rw [hdst]
 have htm : (a.put (some dd) v).tmps.getD d undef = .slice h0.b l'.length h0.c := by
  rw [hl', ← hx0]
  show (a.tmps.setIfInBounds dd v).getD d undef = _
  simp [Array.getD_eq_getD_getElem?, Array.getElem?_setIfInBounds, hne]
 obtain ⟨g1, g2⟩ := hput.giveH (h0 := h0) (d := d) (e := e) (z := z) (l := l') hf2 hd (by rw [aO, if_neg (Ne.symm hne)]; exact hO'd) (fun g c hA => hf2.mine hput.osim hd2 g c hA) (cC _ _ _) htm hbase
 rw [hl'] at g1
 exact hn I' _ _ w' _ _ g1 (by rw [d4]; exact hdf) g2 hK'
end
end Go.Sg
namespace Go.Sg
open Go.RowKit
open Go.Rv (FR)
def Lnd (rs : List Rg) (d d' : DV) : Prop := ∀ w I A x, (∀ r ∈ rs, r.holds w I) → bH w I A d x → bH w (fun g => I g ∨ GOf rs g) cU d' x
theorem Lnd.pure {rs : List Rg} (d : DV) (h : d7 (fun _ => false) d = true) : Lnd rs d d := fun _ _ _ _ _ hr => (hr.pure h).mono fun _ hg => ⟨.inl hg, fun _ => rfl⟩
theorem Lnd.row {rs : List Rg} {h0 : Hd} {e : TypeId} {z : Nat} {l : List (List DV)} (hm : Rg.row h0 e z l ∈ rs) {n : Nat} (hn : n = l.length) {d' : DV} (hw : dI (Sg.frz z l) d') : Lnd rs (h0.sl n) d' := by
 subst hn
 intro w I A x hr hx
 have hx : bH w I A (.v (.slice h0.b l.length h0.c)) x := hx
 cases hx
 have := hr _ hm
 exact hw _ _ _ _ (this.2.frz (fun g hg => .inr ⟨_, hm, hg⟩) (fun g hg => .inl hg) this.1)
theorem Lnd.agg {rs : List Rg} {cs ds : List DV} (hl : cs.length = ds.length) (h : ∀ (j : Nat) (c d : DV), cs[j]? = some c → ds[j]? = some d → Lnd rs c d) : Lnd rs (.agg cs) (.agg ds) := by
 intro w I A x hr hx
 cases hx with
 | agg _ _ vs hl' hone hrel =>
  refine .agg _ ds vs (hl ▸ hl') hone fun j d u hd hu => ?_
  have hj : j < cs.length := by
   rcases Nat.lt_or_ge j ds.length with h1 | h1
   ·omega
   rw [List.getElem?_eq_none h1] at hd; cases hd
  exact h j _ _ (List.getElem?_eq_getElem hj) hd w I A u hr (hrel j _ u (List.getElem?_eq_getElem hj) hu)
inductive wT (rs : List Rg) : List DV → List DV → Prop
 | nil : wT rs [] []
 | cons {c d : DV} {cs ds : List DV} (h : Lnd rs c d) (t : wT rs cs ds) : wT rs (c :: cs) (d :: ds)
theorem wT.len {rs : List Rg} {cs ds : List DV} (h : wT rs cs ds) : cs.length = ds.length := by
 induction h with
 | nil => rfl
 | cons _ _ ih => simp [ih]
theorem wT.get {rs : List Rg} {cs ds : List DV} (h : wT rs cs ds) : ∀ (j : Nat) (c d : DV), cs[j]? = some c → ds[j]? = some d → Lnd rs c d := by
 induction h with
 | nil => intro j c d h; cases h
 | cons h _ ih =>
  intro j c d hc hd
  cases j with
  | zero => simp at hc hd; subst hc; subst hd; exact h
  | succ j => exact ih j c d (by simpa using hc) (by simpa using hd)
theorem wT.toAgg {rs : List Rg} {cs ds : List DV} (h : wT rs cs ds) : Lnd rs (.agg cs) (.agg ds) := .agg h.len h.get
def PlV (r : DV) : Prop := ∀ w I I' A A' x, bH w I A r x → bH w I' A' r x
theorem PlV.v (x : Value) : PlV (.v x) := fun _ _ _ _ _ _ h => by cases h; exact .v _ _
theorem PlV.agg {cs : List DV} (h : ∀ d ∈ cs, PlV d) : PlV (.agg cs) := fun _ _ _ _ _ _ hx => by
 cases hx with
 | agg _ _ vs hl hone hrel => exact .agg _ cs vs hl hone fun j d u hd hu => h d (List.mem_of_getElem? hd) _ _ _ _ _ _ (hrel j d u hd hu)
theorem PlV.tup {cs : List DV} (h : ∀ d ∈ cs, PlV d) : PlV (.tup cs) := fun _ _ _ _ _ _ hx => by
 cases hx with
 | tup _ _ vs hl hrel => exact .tup _ cs vs hl fun j d u hd hu => h d (List.mem_of_getElem? hd) _ _ _ _ _ _ (hrel j d u hd hu)
section
variable {P : Program} {nt : Nat} {w0 : World} {I0 : Nat → Prop} {A0 : cO} {G0 : Nat → Prop} {ρ : aS}
theorem bDx {w : World} {I : Nat → Prop} {A : cO} {a : Act} (hs : b9 nt w I A ρ a) {rs : List Rg} (hf : iD w0 I0 A0 G0 rs w I A) {f : FuncId} {l al : List DV} {vals : Array Value} (v2 : vals.size = l.length)
  (v3 : ∀ (j : Nat) (d : DV) (u : Value), l[j]? = some d → vals[j]? = some u → bH w I A d u) (hal : wT rs l al) {r : DV} (hR : aY P (fun _ => .any) f al r) (hro : bP r = false) (hpl : PlV r) :
  Calls P f vals w fun e w' => ∃ v, e = .returned v ∧ l1 w I w' I ∧ bH w' I A r v := by
 have hO : gK w (fun g => I g ∨ GOf rs g) cU (fun _ => .any) := by
  refine ⟨fun s => trivial, fun s t g c c' h => (by cases h), fun s g c h => (by cases h), ⟨fun g hg => ?_, fun g us e hg => ?_⟩⟩
  ·rcases hg with h | ⟨r, hr, hB⟩
   ·exact hs.osim.imm.lt g h
   exact ((hf.1 r hr).free g hB).1
  exact ⟨.inl (hs.osim.imm.glob g us e hg).1, (hs.osim.imm.glob g us e hg).2⟩
 refine (hR w _ cU vals hO (v2.trans hal.len) fun j d u hd hu => ?_).mono ?_
 ·have hj : j < l.length := by
   rw [hal.len]
   rcases Nat.lt_or_ge j al.length with h1 | h1
   ·exact h1
   rw [List.getElem?_eq_none h1] at hd; cases hd
  exact hal.get j _ d (List.getElem?_eq_getElem hj) hd w I A u (fun r hr => (hf.1 r hr).holds) (v3 j _ u (List.getElem?_eq_getElem hj) hu)
 rintro e' w' ⟨v, I', O', r', rfl, k1, k2, k3, k4, k5, rfl, rfl⟩
 have hgr : l1 w I w' I := ⟨k4.os, k4.tape, k4.output, k4.size, fun g hg => (k4.old g hg (fun s c h => by cases h)).1, fun _ h => h, fun _ h => .inl h⟩
 refine ⟨v, rfl, hgr, ?_⟩
 have : bH w' I' cU r' v := by cases r' <;> first | exact k5 | (cases hro)
 exact hpl _ _ _ _ _ _ this
theorem aOt {ops : Array Oper} {o : Oper} {K : List Rg → aS → Prop} {rs : List Rg} {fv : Operand} {args : Array Operand} {ts : Array TypeId} {dd : Nat} (hop : o.op = .call ⟨.value fv, args, ts⟩) (hg : o.guard = none) (hdst : o.dst = some dd) (hdd : dd < nt)
  (ho : dA nt o = true) (hgf : gd (ev ρ fv)) (hga : ∀ x ∈ args.toList, gd (ev ρ x)) {f : FuncId} {l al : List DV} (hc : callee (un (ev ρ fv)) (args.toList.map fun x => un (ev ρ x)) = some (f, l)) (hb : aQ P f = true)
  (hal : wT rs l al) {r : DV} (hR : aY P (fun _ => .any) f al r) (hro : bP r = false) (hpl : PlV r) (hK : K rs (set ρ dd r)) : gN P nt (iD w0 I0 A0 G0) ops o K rs ρ := by
 intro ro ds I A a w hs hdf hf next Q' hn
 obtain ⟨vals, v1, v2, v3⟩ := jN hs hop ho hgf hga hc hb
 rw [if_pos (by simp [Region.wanted, hg])]
 refine nI v1 ?_
 refine (bDx hs hf v2 v3 hal hR hro hpl).mono ?_
 rintro e' w' ⟨v, rfl, hgr, hrel⟩
 rw [hdst]
 exact hn I A _ w' _ _ ((hs.grow hgr).put (d := dd) (v := r) (x := v) hdd (.ofRel hrel) (.ofPure hro)) (by rw [d4]; exact hdf) (hf.ext hs.osim (hgr.ext hs.osim)) hK
theorem sV {σ : Type} {F : σ → World → (Nat → Prop) → cO → Prop} {Q : Exit → σ → aS → Prop} {st : σ} {c : Code} (s : Nat) {cs ds : List DV} (hlt : (decide (s < 100000)) = true) (h : ρ s = .bx cs) (hw : mZ cs ds) (k : kB P nt F c Q st (set ρ s (.bx ds))) : kB P nt F c Q st ρ :=
 fun ro ds' I A a w hs hd hf => k ro ds' I A a w ⟨⟨fun t => by
   rw [aO]; split
   ·rename_i e
    subst e
    have ho := hs.osim.own t
    rw [h] at ho
    obtain ⟨g, c', us, et, h1, h2, h3, h4, h5⟩ := ho
    refine ⟨g, c', us, et, h1, h2, by rw [← hw.len]; exact h3, h4, fun j d u hdj hu => ?_⟩
    obtain ⟨d', q1, q2⟩ := hw.get j d hdj
    exact q2 _ _ _ _ (h5 j d' u q1 hu)
   ·exact hs.osim.own t, hs.osim.inj, hs.osim.sep, hs.osim.imm⟩, hs.size, hs.bound, fun i hi => by
   rw [aO]; split
   ·rename_i e
    subst e
    have := hs.slot i hi
    rw [h] at this
    exact this
   ·exact hs.slot i hi, fun t ht => by
   have := of_decide_eq_true hlt
   rw [aO, if_neg (by omega)]; exact hs.out t ht⟩ hd hf
theorem iY.cut {w : World} {I : Nat → Prop} {e : TypeId} {z : Nat} {xs : List (List DV)} {B : Option Nat} {c : Nat} (h : iY w I e z xs B c) (m : Nat) : iY w I e z (xs.take m) B c := by
 cases B with
 | none => obtain ⟨rfl, h2⟩ := h; exact ⟨by simp, h2⟩
 | some g =>
  obtain ⟨us, q1, q2, q3, q4, q5⟩ := h
  refine ⟨us, q1, q2, q3, Nat.le_trans (by rw [List.length_take]; omega) q4, fun i x hx => ?_⟩
  rw [List.getElem?_take] at hx
  split at hx
  ·exact q5 i x hx
  cases hx
theorem iD.cut {w : World} {I : Nat → Prop} {A : cO} {s1 s2 : List Rg} {h h' : Hd} {e : TypeId} {z : Nat} {l : List (List DV)} (hf : iD w0 I0 A0 G0 (s1 ++ .row h e z l :: s2) w I A) (m : Nat) (hB : h'.B = h.B) (hc : h'.c = h.c) (hb : jI h'.B h'.b) : iD w0 I0 A0 G0 (s1 ++ .row h' e z (l.take m) :: s2) w I A := by
 obtain ⟨f1, f2, f3, f4⟩ := hf
 have hm : ∀ x ∈ s1 ++ (.row h' e z (l.take m)) :: s2, x = (.row h' e z (l.take m)) ∨ x ∈ s1 ++ s2 := fun x hx => by
  simp at hx ⊢; rcases hx with h | h | h
  ·exact .inr (.inl h)
  ·exact .inl h
  exact .inr (.inr h)
 have hi : ∀ x ∈ s1 ++ s2, x ∈ s1 ++ (.row h e z l) :: s2 := fun x hx => by
  simp at hx ⊢; rcases hx with h | h
  ·exact .inl h
  exact .inr (.inr h)
 have h0 := f1 (.row h e z l) (by simp)
 have hBB : (Rg.row h' e z (l.take m)).B = (Rg.row h e z l).B := hB
 refine ⟨fun r hr => ?_, ?_, fun r hr g hg => ?_, f4⟩
 ·rcases hm r hr with rfl | hx
  ·exact ⟨⟨hb, by rw [hB, hc]; exact h0.holds.2.cut m⟩, fun g hg => h0.free g (hBB ▸ hg)⟩
  exact f1 r (hi r hx)
 ·unfold jY at f2 ⊢
  rw [List.pairwise_append] at f2 ⊢
  refine ⟨f2.1, List.pairwise_cons.2 ⟨fun y hy g hg => (List.pairwise_cons.1 f2.2.1).1 y hy g (hBB ▸ hg), (List.pairwise_cons.1 f2.2.1).2⟩, fun x hx y hy g hg hy' => ?_⟩
  rcases List.mem_cons.1 hy with rfl | hy
  ·exact f2.2.2 x hx (.row h e z l) (by simp) g hg (hBB ▸ hy')
  exact f2.2.2 x hx y (by simp [hy]) g hg hy'
 rcases hm r hr with rfl | hx
 ·exact f3 (.row h e z l) (by simp) g (hBB ▸ hg)
 exact f3 r (hi r hx) g hg
theorem aBt {ops : Array Oper} {o : Oper} {K : List Rg → aS → Prop} {rs s1 s2 : List Rg} {h0 : Hd} {e : TypeId} {z : Nat} {l : List (List DV)} {fv : Operand} {args : Array Operand} {ts : Array TypeId} (d dd : Nat) (hd : d < nt) (hρ : ρ d = h0.sl l.length) (hr : rs = s1 ++ .row h0 e z l :: s2)
  (hop : o.op = .call ⟨.value fv, args, ts⟩) (hg : o.guard = none) (hdst : o.dst = some dd) (hdd : dd < nt) (hne : dd ≠ d) (ho : dA nt o = true) (hgf : gd (ev (set (cI d ρ) d (.row e z l)) fv)) (hga : ∀ x ∈ args.toList, gd (ev (set (cI d ρ) d (.row e z l)) x))
  {f : FuncId} {al : List DV} (hc : callee (un (ev (set (cI d ρ) d (.row e z l)) fv)) (args.toList.map fun x => un (ev (set (cI d ρ) d (.row e z l)) x)) = some (f, al)) (hb : aQ P f = true)
  {R : aS → DV → Prop} (hR : iC P (set (cI d ρ) d (.row e z l)) f al R)
  (hK : ∀ O' r, R O' r → ∃ m l', r = .own d m ∧ l'.length = l.length ∧ O' d = .row e z l' ∧ ∀ h' : Hd, K (s1 ++ .row h' e z (l'.take m) :: s2) (set (set (cI d (set O' dd .any)) d (h0.sl l.length)) dd (h'.sl m))) :
  gN P nt (iD w0 I0 (b6 A0) G0) ops o K rs ρ := by
 subst hr
 intro ro ds I A a w hs hdf hf next Q' hn
 have hbase : jI h0.B h0.b := (hf.1 (.row h0 e z l) (by simp)).holds.1
 have hx0 : a.tmps.getD d undef = .slice h0.b l.length h0.c := by
  have := hs.slot d hd
  rw [hρ] at this
  generalize a.tmps.getD d undef = x at this ⊢
  have this : bH w I A (.v (.slice h0.b l.length h0.c)) x := this
  cases this; rfl
 obtain ⟨h1, h2⟩ := hs.takeG hf hd hρ
 obtain ⟨vals, v1, v2, v3⟩ := jN h1 hop ho hgf hga hc hb
 rw [if_pos (by simp [Region.wanted, hg])]
 refine nI v1 ?_
 refine (hR w I (gE A d (some (h0.B, h0.c))) vals h1.osim v2 v3).mono ?_
 rintro e' w' ⟨v, I', O', r, rfl, k1, k2, k3, k4, k5, k6⟩
 obtain ⟨m, l', rfl, hl', hO'd, hK'⟩ := hK O' r k6
 have hcal := h1.called k1 k2 k3 k4
 have hrel : bH w' I' (gE A d (some (h0.B, h0.c))) (.own d m) v := k5
 obtain ⟨b', hb', rfl⟩ : ∃ b', jI h0.B b' ∧ v = .slice b' m h0.c := by
  cases hrel with
  | own _ _ _ B c b hA hb =>
   rw [cC] at hA
   simp only [Option.some.injEq, Prod.mk.injEq] at hA
   obtain ⟨rfl, rfl⟩ := hA
   exact ⟨b, hb, rfl⟩
 have hput := hcal.put (d := dd) (v := .any) (x := .slice b' m h0.c) hdd (.any _ _) trivial
 have hf2 : iD w0 I0 (b6 A0) G0 (s1 ++ s2) w' I' (gE A d (some (h0.B, h0.c))) := h2.ext h1.osim k4
 have hd2 : d < 100000 := Nat.lt_of_lt_of_le hd hs.bound
 rw [hdst]
 have htm : (a.put (some dd) (.slice b' m h0.c)).tmps.getD d undef = .slice h0.b l'.length h0.c := by
  rw [hl', ← hx0]
  show (a.tmps.setIfInBounds dd (.slice b' m h0.c)).getD d undef = _
  simp [Array.getD_eq_getD_getElem?, Array.getElem?_setIfInBounds, hne]
 obtain ⟨g1, g2⟩ := hput.giveH (h0 := h0) (d := d) (e := e) (z := z) (l := l') hf2 hd (by rw [aO, if_neg (Ne.symm hne)]; exact hO'd) (fun g c hA => hf2.mine hput.osim hd2 g c hA) (cC _ _ _) htm hbase
 rw [hl'] at g1
 have hdt : (a.put (some dd) (.slice b' m h0.c)).tmps.getD dd undef = .slice b' m h0.c := by
  show (a.tmps.setIfInBounds dd (.slice b' m h0.c)).getD dd undef = _
  have : dd < a.tmps.size := by rw [hs.size]; exact hdd
  simp [Array.getD_eq_getD_getElem?, Array.getElem?_setIfInBounds, this]
 have g3 : b9 nt w' I' (gE (gE A d (some (h0.B, h0.c))) d none) (set (set (cI d (set O' dd .any)) d (h0.sl l.length)) dd ((⟨h0.B, b', h0.c⟩ : Hd).sl m)) (a.put (some dd) (.slice b' m h0.c)) := by
  refine ⟨⟨fun s => ?_, g1.osim.inj, g1.osim.sep, g1.osim.imm⟩, g1.size, g1.bound, fun i hi => ?_, fun s hs' => ?_⟩
  ·rw [aO]; split
   ·trivial
   exact g1.osim.own s
  ·rw [aO]; split
   ·rename_i h; subst h; rw [hdt]; exact .ofRel (.v _ _)
   exact g1.slot i hi
  rw [aO, if_neg (by have := hs.bound; omega)]; exact g1.out s hs'
 exact hn I' _ _ w' _ _ g3 (by rw [d4]; exact hdf) (g2.cut (h' := ⟨h0.B, b', h0.c⟩) m rfl rfl hb') (hK' ⟨h0.B, b', h0.c⟩)
end
end Go.Sg
