/- Several texts as one. -/
import Derived.Test.YtnpokifaejcbeaaGreatDoorK14
set_option linter.unusedSectionVars false
set_option linter.unusedVariables false
set_option linter.unusedSimpArgs false
set_option maxRecDepth 20000
namespace Go.Sg
open Go.Proofs
abbrev ePt (q : List bB) : List DV := [bN q]
abbrev u5 (h : Hd) (P : List (List bB)) : Rg := .row h 42 1 (P.map ePt)
abbrev rgQ (h : Hd) (q : List bB) : Rg := .row h 85 3 (q.map bJ)
def kG (l : aC) (q : List bB) : List (List bB) := if iC l (lsN q) = true then [q] else []
def uH (l : aC) (q : List bB) : cC := if iC l (lsN q) = true then ⟨-1, 0⟩ else (bP l (lsN q)).1
theorem aEq {l : aC} {q : List bB} (h : iC l (lsN q) = true) : kG l q = [q] ∧ uH l q = ⟨-1, 0⟩ := by unfold kG uH; rw [if_pos h, if_pos h]; exact ⟨rfl, rfl⟩
theorem zD {l : aC} {q : List bB} (h : iC l (lsN q) = false) : kG l q = [] ∧ uH l q = (bP l (lsN q)).1 := by unfold kG uH; rw [if_neg (by rw [h]; simp), if_neg (by rw [h]; simp)]; exact ⟨rfl, rfl⟩
theorem aTl {l : aC} {q : List bB} (h : 0 ≤ iP l (lR q)) : iC l (lsN q) = true := by unfold iC; rw [show f9 l (lsN q) = iP l (lR q) from rfl, decide_eq_true h]; rfl
theorem bCf {l : aC} {s : bB} (h : (bP l s).2 = false) : iC l s = true := by unfold iC; rw [h]; simp
theorem aZw {l : aC} {q : List bB} (h : ¬ 0 ≤ iP l (lR q)) (h2 : (bP l (lsN q)).2 = true) : iC l (lsN q) = false := by unfold iC; rw [show f9 l (lsN q) = iP l (lR q) from rfl, decide_eq_false h, h2]; rfl
def rQ (l : aC) (h : Hd) (n : Nat) : List DV := aI l ++ [h.sl n]
section
variable (l : aC) (h h' : Hd) (n m : Nat)
theorem aDq : iA (fun x => x + 100000) (rQ l h n) = rQ l h n := rfl
theorem aGb : (rQ l h n).length = 7 := rfl
theorem aAq : (rQ l h n).take 6 = aI l := rfl
theorem y1 : (rQ l h n).drop 6 = [h.sl n] := rfl
theorem aEk : (rQ l h n).getD 6 .any = h.sl n := rfl
theorem aEv : (rQ l h n).set 6 (h'.sl m) = rQ l h' m := rfl
theorem aFy : spl 6 [h'.sl m] (rQ l h n) = rQ l h' m := rfl
theorem aFv (p : Nat → Bool) : dS p (rQ l h n) = true := rfl
end
def cBj (O : aU) (k : Nat) (l : aC) (P : List (List bB)) (q : List bB) (rs : List Rg) (O' : aU) (r : DV) : Prop :=
 ∃ h', rs = [u5 h' (P ++ kG l q)] ∧ O' = set O k (.bx (rQ l h' (P ++ kG l q).length)) ∧ r = .agg (bO (uH l q))
section
attribute [local go_sem] mS tM xY cond_true cond_false lJ List.length_map List.take_length Nat.mul_one Nat.add_zero Nat.zero_add aDq aGb aAq y1 aEk aEv aFy aFv List.drop_zero
set_option maxRecDepth 20000 in
set_option maxHeartbeats 8000000 in
theorem lD (O : aU) (l : aC) (q : List bB) (P : List (List bB)) (h : Hd) (k s : Nat) (hk : O k = .bx (rQ l h P.length)) (hO : O s = .row 85 3 (q.map bJ)) (nq : Nat) (hnq : nq = q.length) (hq : q.length ≤ 100) (hq0 : 0 < q.length) (hP : P.length ≤ 1000000000000) : rB Tryz.prog O 173 [.bp k 0, .own s nq] [u5 h P] (cBj O k l P q) := by
 subst hnq
 have hks : s ≠ k := fun e => by subst e; rw [hk] at hO; cases hO
 obtain ⟨O1, rfl⟩ : ∃ O1, O = set O1 k (.bx (rQ l h P.length)) := ⟨O, by funext j; rw [aT]; split <;> simp_all⟩
 have hs1 : O1 s = .row 85 3 (q.map bJ) := by rw [aT, if_neg hks] at hO; exact hO
 have hxO : bW O1 (s + 100000) = .row 85 3 (q.map bJ) := by rw [bX, hs1]; rfl
 have hcast : ((q.length : Int) - 1).toNat = q.length - 1 := by omega
 refine j6 Tryz.func173 rfl (by kernel_rfl) fun w0 I0 A0 => ?_
 have hF := jN w0 I0 (b8 A0) (xG [u5 h P])
 refine aN fun K0 hK0 => ?_
 refine dE hF ?_
 refine a7 [0, 1] (by kernel_rfl) ?_
 simp (disch := omega) only [go_sem, seval, hxO, hks, hcast]
 repeat refine And.intro bS ?_
 refine hK0 _ _ ?_; clear hK0
 refine y3 [0, 1, 4] (fun sF ρ => sF = [u5 h P] ∧ (iC l (lsN q) = true) ∧ ρ = cU (set O1 k (.bx (rQ l h P.length))) [(0, .bp (k + 100000) 0), (1, .own (s + 100000) q.length), (4, .bx [vi 0, vi 0])]) (fun K1 hK1 => ?_) ?_
 ·skip
  refine aN fun K2 hK2 => ?_
  refine dE hF ?_
  refine eE [0, 1, 4] [] fK (by kernel_rfl) ?_
  simp (disch := omega) only [go_sem, seval, hxO, hks, hcast]
  repeat refine And.intro bS ?_
  refine dR (z6 _ q (s + 100000) (by simp (disch := omega) only [go_sem, seval, hxO, hks, hcast]) (by omega) hq0) ?_ ?_
  ·rfl
  try simp (disch := omega) only [go_sem, seval, hxO, hks, hcast]
  repeat refine And.intro bS ?_
  refine dR (iT _ l (lR q)) ?_ ?_
  ·rfl
  try simp (disch := omega) only [go_sem, seval, hxO, hks, hcast]
  repeat refine And.intro bS ?_
  refine hK2 _ _ ?_; clear hK2
  refine bU (fun c0 => ?_) fun c0 => ?_
  ·have hcs : ¬ 0 ≤ iP l (lR q) := (by simpa using c0)
   refine aN fun K3 hK3 => ?_
   refine dE hF ?_
   refine cQ (Le.keepC [0, 1, 4] _) ?_
   refine aEw [0, 1, 4, 16, 17, 18, 19, 20, 21, 22, 23, 24, 25, 26, 15, 27, 28, 6, 5] [] [] [[], [0], [0, 1], [0, 1, 2], [], [], [5], [5, 6], [4, 5, 6, 7], [4, 5, 6, 7, 8], [0, 1, 2, 3, 4, 5, 6, 7, 8, 9], [0, 1, 2, 3, 4, 5, 6, 7, 8, 9, 10], [0, 1, 2, 3, 4, 5, 6, 7, 8, 9, 10, 11], [0, 1, 2, 3, 4, 5, 6, 7, 8, 9, 10, 11], [], [0, 1, 2, 3, 4, 5, 6, 7, 8, 9, 10, 11, 12, 14], [0, 1, 2, 3, 4, 5, 6, 7, 8, 9, 10, 11, 12, 13, 14, 15]] [[15], [15], [15], [15], [15], [15], [15], [15], [15], [15], [15], [15], [15], [], [15], [], []] (fun bQ => cU (set O1 k (.bx (rQ l h P.length))) [(0, .bp (k + 100000) 0), (1, .own (s + 100000) q.length), (4, .bx [vi 0, vi 0]), (16, aV (bQ 0) (.bp (k + 100000) 0)), (17, aV (bQ 1) (.bp (k + 100000) 0)), (18, aV (bQ 2) (.bp (k + 100000) 0)), (19, aV (bQ 3) (.agg (aI l))), (20, aV (bQ 4) (.own (s + 100000) q.length)), (21, aV (bQ 5) (.own (s + 100000) q.length)), (22, aV (bQ 6) (vi (q.length : Nat))), (23, aV (bQ 7) (vi ((q.length : Int) - 1))), (24, aV (bQ 8) (.rp (s + 100000) 3 (q.length - 1) 0)), (25, aV (bQ 9) (.agg (bJ (q.getD (q.length - 1) default)))), (26, aV (bQ 10) (.tup [.agg (bO (bP l (q.getD (q.length - 1) default)).1), vb (bP l (q.getD (q.length - 1) default)).2])), (15, aV (bQ 11) (.tup [.agg (bO (bP l (q.getD (q.length - 1) default)).1), vb (bP l (q.getD (q.length - 1) default)).2])), (27, aV (bQ 12) (.agg (bO (bP l (q.getD (q.length - 1) default)).1))), (28, aV (bQ 13) (vb (bP l (q.getD (q.length - 1) default)).2)), (6, aV (bQ 16) (vb (bP l (q.getD (q.length - 1) default)).2)), (5, hU (bQ 15) (bQ 14) (.bx (bO (bP l (q.getD (q.length - 1) default)).1)) (.bx [vi 0, vi 0]))]) fK (by kernel_rfl) (by kernel_rfl) ?_ (fun iQ oQ hoQ bQ hbQ KQ hKQ => ?_) ?_
   ·simp (disch := omega) only [go_sem, seval, hxO, hks, hcast] <;> first | rfl | simp
   ·have hiQ : iQ < 17 := (List.getElem?_eq_some_iff.1 hoQ).1
    match iQ, hiQ with
    | 0, _ | 1, _ | 2, _ | 3, _ | 4, _ | 5, _ | 6, _ | 7, _ | 8, _ | 9, _ | 11, _ | 12, _ | 13, _ | 14, _ | 15, _ | 16, _ =>
     obtain rfl := Option.some.inj hoQ
     simp only [oS, hD, iB, List.getD_cons_succ, List.getD_cons_zero, List.getD_nil, and_true, true_and] at hbQ
     show qC _ _ _ false _ _
     simp (disch := omega) only [go_sem, seval, hxO, hks, hcast, hbQ]
     repeat refine And.intro bS ?_
     refine hKQ _ ?_
     simp (disch := omega) only [go_sem, seval, hxO, hks, hcast, hbQ] <;> first | rfl | simp
    | 10, _ =>
     obtain rfl := Option.some.inj hoQ
     simp only [oS, hD, iB, List.getD_cons_succ, List.getD_cons_zero, List.getD_nil, and_true, true_and] at hbQ
     show qC _ _ _ false _ _
     simp (disch := omega) only [go_sem, seval, hxO, hks, hcast, hbQ]
     repeat refine And.intro bS ?_
     refine dR (t7 _ l (q.getD (q.length - 1) default)) ?_ ?_
     ·rfl
     try simp (disch := omega) only [go_sem, seval, hxO, hks, hcast, hbQ]
     repeat refine And.intro bS ?_
     refine hKQ _ ?_
     simp (disch := omega) only [go_sem, seval, hxO, hks, hcast, hbQ] <;> first | rfl | simp
   simp (disch := omega) only [go_sem, seval, hxO, hks, hcast]
   repeat refine And.intro bS ?_
   refine hK3 _ _ ?_; clear hK3
   refine aN fun K4 hK4 => ?_
   refine dE hF ?_
   refine a7 [0, 1, 4, 5, 6] (by kernel_rfl) ?_
   simp (disch := omega) only [go_sem, seval, hxO, hks, hcast]
   repeat refine And.intro bS ?_
   refine hK4 _ _ ?_; clear hK4
   refine bU (fun c1 => ?_) fun c1 => ?_
   ·have hcn : (bP l (lsN q)).2 = true := (by simpa using c1)
    obtain ⟨hpP, hpE⟩ := zD (aZw hcs hcn)
    refine aN fun K5 hK5 => ?_
    refine dE hF ?_
    refine a7 [4, 5] (by kernel_rfl) ?_
    simp (disch := omega) only [go_sem, seval, hxO, hks, hcast]
    repeat refine And.intro bS ?_
    refine hK5 _ _ ?_; clear hK5
    refine cL ?_
    exact aPk 4 49 rfl (by simp (disch := omega) only [go_sem, seval, hxO, hks, hcast]) (by simp (disch := omega) only [go_sem, seval, hxO, hks, hcast] <;> rfl) (by kernel_rfl) rfl ⟨h, by rw [hpP, List.append_nil], by rw [hpP, List.append_nil, tM], by rw [hpE] <;> rfl⟩
   have hcn : (bP l (lsN q)).2 = false := (by simpa using c1)
   refine bG ?_
   refine hK1 _ _ ⟨rfl, ?_, ?_⟩
   ·exact bCf (s := lsN q) hcn
   simp (disch := omega) only [go_sem, seval, hxO, hks, hcast] <;> first | rfl | omega | simp | simp_all
  have hcs : 0 ≤ iP l (lR q) := (by simpa using c0)
  refine bG ?_
  refine hK1 _ _ ⟨rfl, ?_, ?_⟩
  ·exact aTl hcs
  simp (disch := omega) only [go_sem, seval, hxO, hks, hcast] <;> first | rfl | omega | simp | simp_all
 rintro sF ρ ⟨rfl, j5_0, rfl⟩
 obtain ⟨hpP, hpE⟩ := aEq j5_0
 refine aN fun K6 hK6 => ?_
 refine bH (Le.keepC [0, 1, 4] _) ?_
 refine aJk [0, 1, 4, 31, 32, 33, 34, 36, 37, 38, 39, 40, 41, 35] [[], [], [1], [1, 2], [1, 2, 3], [], [5], [5, 6], [1, 2, 3, 4, 5, 6, 7], [0, 1, 2, 3, 4, 5, 6, 7, 8], [0, 1, 2, 3, 4, 5, 6, 7, 8, 9], [0, 1, 2, 3, 4, 5, 6, 7, 8, 9, 10]] [[11], [4, 8, 11], [4, 8, 11], [4, 8, 11], [8, 11], [8, 11], [8, 11], [8, 11], [11], [11], [11], []] (fun (hx : Hd) bQ => cU (cond (bQ 11) (set O1 k (.bx (rQ l hx (P ++ [q]).length))) (set O1 k (.bx (rQ l h P.length)))) [(0, .bp (k + 100000) 0), (1, .own (s + 100000) q.length), (4, .bx [vi 0, vi 0]), (31, aV (bQ 0) (.bp (k + 100000) 0)), (32, aV (bQ 1) (.bp (k + 100000) 0)), (33, aV (bQ 2) (.bp (k + 100000) 0)), (34, aV (bQ 3) (.bp (k + 100000) 6)), (36, aV (bQ 5) (.own (s + 100000) q.length)), (37, aV (bQ 6) (bN q)), (38, aV (bQ 7) (.sl 1 1 (fun i => [[bN q]].getD i []))), (39, aV (bQ 8) (hx.sl (P ++ [q]).length)), (40, aV (bQ 9) (.bp (k + 100000) 0)), (41, aV (bQ 10) (.bp (k + 100000) 6)), (35, (cond (bQ 8) (.any) (cond (bQ 4) (h.sl P.length) (.any))))]) (fun (hx : Hd) bQ => (cond (bQ 8) [u5 hx (P ++ [q])] [u5 h P])) ⟨none, none, 0⟩ hF fK (by kernel_rfl) ?_ ?_ (fun iQ oQ hoQ hx bQ hbQ KQ hKQ => ?_) (fun hx => ?_)
 ·first | rfl | (simp (disch := omega) only [go_sem, seval, hxO, hks, hcast]; done) | (simp (disch := omega) only [go_sem, seval, hxO, hks, hcast] <;> rfl)
 ·simp (disch := omega) only [go_sem, seval, hxO, hks, hcast] <;> first | rfl | simp
 ·have hiQ : iQ < 12 := (List.getElem?_eq_some_iff.1 hoQ).1
  match iQ, hiQ with
  | 0, _ | 1, _ | 2, _ | 3, _ | 4, _ | 5, _ | 7, _ | 9, _ | 10, _ | 11, _ =>
   obtain rfl := Option.some.inj hoQ
   simp only [oS, hD, iB, List.getD_cons_succ, List.getD_cons_zero, List.getD_nil, and_true, true_and] at hbQ
   show fV _ _ _ _ _ _ _ _
   refine dY hF ?_
   refine cM rfl (by kernel_rfl) (by kernel_rfl) ?_
   simp (disch := omega) only [go_sem, seval, hxO, hks, hcast, hbQ]
   repeat refine And.intro bS ?_
   refine hKQ hx _ _ ?_ ?_
   ·first | rfl | (simp (disch := omega) only [go_sem, seval, hxO, hks, hcast, hbQ]; done) | (simp (disch := omega) only [go_sem, seval, hxO, hks, hcast, hbQ] <;> rfl)
   simp (disch := omega) only [go_sem, seval, hxO, hks, hcast, hbQ] <;> first | rfl | simp
  | 6, _ =>
   obtain rfl := Option.some.inj hoQ
   simp only [oS, hD, iB, List.getD_cons_succ, List.getD_cons_zero, List.getD_nil, and_true, true_and] at hbQ
   show fV _ _ _ _ _ _ _ _
   refine dY hF ?_
   refine cM rfl (by kernel_rfl) (by kernel_rfl) ?_
   simp (disch := omega) only [go_sem, seval, hxO, hks, hcast, hbQ]
   repeat refine And.intro bS ?_
   refine gE _ (dJ (kH _ q (s + 100000) (by simp (disch := omega) only [go_sem, seval, hxO, hks, hcast]) (by omega))) ?_
   simp (disch := omega) only [go_sem, seval, hxO, hks, hcast, hbQ]
   repeat refine And.intro bS ?_
   refine hKQ hx _ _ ?_ ?_
   ·first | rfl | (simp (disch := omega) only [go_sem, seval, hxO, hks, hcast, hbQ]; done) | (simp (disch := omega) only [go_sem, seval, hxO, hks, hcast, hbQ] <;> rfl)
   simp (disch := omega) only [go_sem, seval, hxO, hks, hcast, hbQ] <;> first | rfl | simp
  | 8, _ =>
   obtain rfl := Option.some.inj hoQ
   simp only [oS, hD, iB, List.getD_cons_succ, List.getD_cons_zero, List.getD_nil, and_true, true_and] at hbQ
   rw [hbQ.1]
   simp only [cond_false]
   show fV _ _ _ _ _ _ _ _
   refine dO (s1 := []) (s2 := []) 35 (by decide) (by simp (disch := omega) only [go_sem, seval, hxO, hks, hcast, hbQ] <;> rfl) rfl ?_
   refine gM [] [] 42 1 ((P ++ [q]).map ePt) 39 (by decide) ?_
   show fV _ _ _ _ _ _ _ _
   refine dY hF ?_
   refine cM rfl (by kernel_rfl) (by kernel_rfl) ?_
   simp (disch := omega) only [go_sem, seval, hxO, hks, hcast, hbQ]
   repeat refine And.intro bS ?_
   refine ⟨rfl, by simp (disch := omega) only [go_sem, seval, hxO, hks, hcast, hbQ] <;> (first | rfl | (simp; done) | (simp; rfl)), fun hx => ?_⟩
   try simp (disch := omega) only [go_sem, seval, hxO, hks, hcast, hbQ]
   refine hKQ hx _ _ ?_ ?_
   ·first | rfl | (simp (disch := omega) only [go_sem, seval, hxO, hks, hcast, hbQ]; done) | (simp (disch := omega) only [go_sem, seval, hxO, hks, hcast, hbQ] <;> rfl)
   simp (disch := omega) only [go_sem, seval, hxO, hks, hcast, hbQ] <;> first | rfl | simp
 simp (disch := omega) only [go_sem, seval, hxO, hks, hcast]
 repeat refine And.intro bS ?_
 refine hK6 _ _ ?_; clear hK6
 refine aN fun K7 hK7 => ?_
 refine dE hF ?_
 refine a7 [4] (by kernel_rfl) ?_
 simp (disch := omega) only [go_sem, seval, hxO, hks, hcast]
 repeat refine And.intro bS ?_
 refine hK7 _ _ ?_; clear hK7
 refine cL ?_
 exact aKd (s := k) (cs0 := rQ l h P.length) (cs := rQ l hx (P ++ [q]).length) 4 49 rfl (by rw [aT, if_pos rfl]) rfl rfl rfl (by simp (disch := omega) only [go_sem, seval, hxO, hks, hcast] <;> first | rfl | simp) (by simp (disch := omega) only [go_sem, seval, hxO, hks, hcast] <;> rfl) (by kernel_rfl) rfl ⟨hx, by rw [hpP], by rw [hpP], by rw [hpE] <;> rfl⟩
end
def FoR (O : aU) (k : Nat) (l : aC) (P : List (List bB)) (n : Nat) (a : cC) (q : List bB) (rs : List Rg) (O' : aU) (r : DV) : Prop :=
 ∃ h', rs = [u5 h' (P ++ xI l n a q)] ∧ O' = set O k (.bx (rQ l h' (P ++ xI l n a q).length)) ∧ r = .tup []
def FoC (l : aC) (n : Nat) : Prop := ∀ (O : aU) (k : Nat) (h hp : Hd) (P : List (List bB)) (a : cC) (q : List bB) (nq : Nat), nq = q.length → O k = .bx (rQ l h P.length) → q.length ≤ 12 → 13 ≤ q.length + n → P.length + 2 ^ n ≤ 100000000 →
 rB Tryz.prog O 119 [.bp k 0, hp.sl nq, .agg (bO a)] [rgQ hp q, u5 h P] (FoR O k l P n a q)
def goG (l : aC) (n : Nat) (q : List bB) (s : bB) : List (List bB) := if iC l s = true then [q ++ [s]] else xI l n (bP l s).1 (q ++ [s])
def goI (l : aC) (n : Nat) (b : cC) (q : List bB) (i : Nat) : List (List bB) := ((cS l b).take i).flatMap (goG l n q)
theorem aSu {l : aC} {n : Nat} {b : cC} {q : List bB} {i : Nat} (h : i < (cS l b).length) : goI l n b q (i + 1) = goI l n b q i ++ goG l n q ((cS l b).getD i default) := by
 unfold goI; rw [fP default h, List.flatMap_append, List.flatMap_singleton]
theorem bCn (l : aC) (n : Nat) (q : List bB) (s : bB) : (goG l n q s).length ≤ 2 ^ n := by
 unfold goG; split
 ·simp; exact Nat.one_le_two_pow
 exact aEs _ _ _ _
theorem aZl (l : aC) (n : Nat) (b : cC) (q : List bB) : ∀ i, (goI l n b q i).length ≤ i * 2 ^ n
 | i => by
  unfold goI
  refine Nat.le_trans (qX (c := 2 ^ n) fun s _ => bCn l n q s) (Nat.mul_le_mul_right _ ?_)
  exact List.length_take_le _ _
theorem bGl {l : aC} {n : Nat} {b : cC} {q : List bB} (h : q.length = 12 ∨ l3 l q b.fEl = false) : xI l (n + 1) b q = [] := by rw [xI, if_pos h]
theorem aVt {l : aC} {n : Nat} {b : cC} {q : List bB} (h : ¬ (q.length = 12 ∨ l3 l q b.fEl = false)) {i : Nat} (hi : (cS l b).length ≤ i) : xI l (n + 1) b q = goI l n b q i := by
 rw [xI, if_neg h]; unfold goI; rw [List.take_of_length_le hi]; rfl
theorem aYp {l : aC} {n : Nat} {b : cC} {q : List bB} (h : ¬ (q.length = 12 ∨ l3 l q b.fEl = false)) (h1 : (cS l b).length = 1) : xI l (n + 1) b q = goG l n q ((cS l b).getD 0 default) := by
 rw [aVt h (i := 0 + 1) (by omega), aSu (by omega)]; unfold goI; simp
theorem pY {l : aC} {n : Nat} {q : List bB} {s : bB} : goG l n q s = kG l (q ++ [s]) ++ if iC l s = true then [] else xI l n (bP l s).1 (q ++ [s]) := by
 unfold goG kG
 rw [fZ]
 split <;> simp
section
attribute [local go_sem] mS tM xY cond_true cond_false lJ List.length_map List.take_length Nat.mul_one Nat.add_zero Nat.zero_add ite_self aDq aGb aAq y1 aEk aEv aFy aFv List.drop_zero
set_option maxRecDepth 20000 in
set_option maxHeartbeats 16000000 in
theorem aGz (O : aU) (l : aC) (nn : Nat) (ih : ∀ m, m ≤ nn → FoC l m) (hl : dX l) (hv : ∀ e, (aD l e).2 = true → 0 ≤ (aD l e).1.fEl) (k : Nat) (h hp : Hd) (P : List (List bB)) (a : cC) (q : List bB) (nq : Nat) (hnq : nq = q.length) (hk : O k = .bx (rQ l h P.length)) (hq : q.length ≤ 12) (hqn : 13 ≤ q.length + (nn + 1)) (hP : P.length + 2 ^ (nn + 1) ≤ 100000000) : rB Tryz.prog O 119 [.bp k 0, hp.sl nq, .agg (bO a)] [rgQ hp q, u5 h P] (FoR O k l P (nn + 1) a q) := by
 subst hnq
 obtain ⟨O1, rfl⟩ : ∃ O1, O = set O1 k (.bx (rQ l h P.length)) := ⟨O, by funext j; rw [aT]; split <;> simp_all⟩
 refine j6 Tryz.func119 rfl (by kernel_rfl) fun w0 I0 A0 => ?_
 have hF := jN w0 I0 (b8 A0) (xG [rgQ hp q, u5 h P])
 refine aPi (s1 := []) (s2 := [u5 h P]) 1 (by decide) (by simp (disch := omega) only [go_sem, seval] <;> first | rfl | simp) rfl ?_
 refine a8 hF [0, 1, 2] ?_
 refine aLw [0, 1, 5] rfl (fun l' hl => by have hb : ((0 : Nat) == l') = false := (by simpa using Ne.symm hl); simp only [findLabel, hb]; rfl) (fun n sF ρ => ∃ m, ∃ p, ∃ b, ∃ U, ∃ hx, n = m ∧ sF = [u5 hx U] ∧ (U ++ xI l m b p = P ++ xI l (nn + 1) a q) ∧ (p.length ≤ 12) ∧ (13 ≤ p.length + m) ∧ (U.length + 2 ^ m ≤ 100000000) ∧ (m ≤ nn + 1) ∧ ρ = cU (set O1 k (.bx (rQ l hx (U).length))) [(0, .bp (k + 100000) 0), (1, pE p), (5, .bx (bO b))]) _ ⟨nn + 1, q, a, P, h, rfl, rfl, ?_, ?_, ?_, ?_, ?_, ?_⟩ ?_
 ·rfl
 ·exact bD
 ·exact bD
 ·exact bD
 ·exact bD
 ·exact cD
 rintro n sF ρ ⟨m, p, b, U, hx, rfl, rfl, s0_0, s0_1, s0_2, s0_3, s0_4, rfl⟩ K1 hK1
 obtain ⟨m1, rfl⟩ : ∃ m1, n = m1 + 1 := ⟨n - 1, by omega⟩
 have hbl := xX l b
 have hpw : 2 ^ (m1 + 1) = 2 * 2 ^ m1 := by rw [Nat.pow_succ, Nat.mul_comm]
 have hp1 : 1 ≤ 2 ^ m1 := Nat.one_le_two_pow
 refine aN fun K2 hK2 => ?_
 refine aN fun K3 hK3 => ?_
 refine dW hF [0, 1, 5] ?_
 refine lY (fun g0 => zJ _ p 1 (by simp (disch := omega) only [go_sem, seval]) (by omega) l (k + 100000) (hx.sl U.length) b.fEl (by simp (disch := omega) only [go_sem, seval] <;> rfl)) ?_
 refine hK3 _ _ ?_; clear hK3
 refine bU (fun c0 => ?_) fun c0 => ?_
 ·have hcc : p.length = 12 ∨ l3 l p b.fEl = false := (by simpa using c0)
  refine cL ?_
  (try simp only [eT, dQ, wR, ↓reduceIte]); exact uY (s := k) (cs0 := rQ l h P.length) (cs := rQ l hx (U).length) (.inl rfl) rfl (by rw [aT, if_pos rfl]) rfl rfl rfl (by simp (disch := omega) only [go_sem, seval] <;> first | rfl | simp) ⟨hx, by rw [← s0_0, bGl hcc, List.append_nil], by rw [← s0_0, bGl hcc, List.append_nil], rfl⟩
 have hcc : ¬ (p.length = 12 ∨ l3 l p b.fEl = false) := (by simpa using c0)
 have hp11 : p.length < 12 := (by omega)
 refine bG ?_
 refine hK2 _ _ ?_; clear hK2
 refine aN fun K4 hK4 => ?_
 refine dE hF ?_
 refine e5 [0, 1, 5] [(6, 27)] ?_
 refine cdz (nZ _ l b hl) ?_
 refine hK4 _ _ ?_; clear hK4
 refine aN fun K5 hK5 => ?_
 refine a8 hF [0, 1, 5, 6] ?_
 refine bU (fun c1 => ?_) fun c1 => ?_
 ·have h1 : (cS l b).length = 1 := (by omega)
  refine a8 hF [0, 1, 5, 6] ?_
  refine aN fun K8 hK8 => ?_
  refine aN fun K9 hK9 => ?_
  refine bH (Le.keepC [0, 1, 5] _) ?_
  refine bM ?_
  refine ef hF ?_
  refine ef hF ?_
  show fV _ _ _ _ _ _ _ _
  refine jU (cur := _) (rs := [u5 hx U]) (s2 := []) rfl rfl rfl (by decide) (by kernel_rfl) (by simp (disch := omega) only [go_sem, seval]) (by simp (disch := omega) only [go_sem, seval]) (by simp (disch := omega) only [go_sem, seval] <;> rfl) (by kernel_rfl) (by simp (disch := omega) only [go_sem, seval] <;> exact List.Perm.refl _) (lD _ l (p ++ [((cS l b).getD 0 default)]) (U) hx (k + 100000) 1 (by simp (disch := omega) only [go_sem, seval]) (by simp (disch := omega) only [go_sem, seval] <;> first | rfl | simp) _ (by simp) (by simp; omega) (by simp) (by omega)) ?_
  rintro rs1 O2 r1 ⟨h2, rfl, rfl, rfl⟩
  try simp (disch := omega) only [go_sem, seval]
  refine ef hF ?_
  refine hK9 _ _ ?_; clear hK9
  refine a8 hF [0, 1, 5] ?_
  refine bU (fun c2 => ?_) fun c2 => ?_
  ·have he : iC l ((cS l b).getD 0 default) = false := (by
    cases hx2 : iC l ((cS l b).getD 0 default) with
    | false => rfl
    | true => have hq2 := (aEq (l := l) (q := p ++ [((cS l b).getD 0 default)]) (by rw [fZ]; exact hx2)).2; rw [hq2] at c2; simp at c2)
   obtain ⟨hpP, hpE⟩ := zD (l := l) (q := p ++ [((cS l b).getD 0 default)]) (by rw [fZ]; exact he)
   refine aXk ?_
   try simp only [eT, dQ, wR, ↓reduceIte]
   refine hK1 _ _ _ ?_ ⟨m1, p ++ [((cS l b).getD 0 default)], uH l (p ++ [((cS l b).getD 0 default)]), U ++ kG l (p ++ [((cS l b).getD 0 default)]), h2, rfl, rfl, ?_, ?_, ?_, ?_, ?_, ?_⟩
   ·omega
   ·rw [← s0_0, aYp hcc h1, pY, hpP, hpE, he, fZ]; simp
   ·simp; omega
   ·simp; omega
   ·rw [hpP]; simp; omega
   ·exact bD
   exact cD
  have he : iC l ((cS l b).getD 0 default) = true := (by
   cases hx2 : iC l ((cS l b).getD 0 default) with
   | true => rfl
   | false =>
    have hq2 := (zD (l := l) (q := p ++ [((cS l b).getD 0 default)]) (by rw [fZ]; exact hx2)).2
    have hn2 := vN (l := l) (s := ((cS l b).getD 0 default)) (by rw [hx2]; simp)
    have hv2 := hv ⟨((cS l b).getD 0 default).fEl, ((cS l b).getD 0 default).fOut⟩ (congrArg Prod.snd hn2)
    rw [hq2, fZ] at c2
    have hv3 : 0 ≤ (bP l ((cS l b).getD 0 default)).1.fEl := hv2
    omega)
  obtain ⟨hpP, hpE⟩ := aEq (l := l) (q := p ++ [((cS l b).getD 0 default)]) (by rw [fZ]; exact he)
  refine bG ?_
  refine hK8 _ _ ?_; clear hK8
  refine cL ?_
  (try simp only [eT, dQ, wR, ↓reduceIte]); exact uY (s := k) (cs0 := rQ l h P.length) (cs := rQ l h2 (U ++ kG l (p ++ [((cS l b).getD 0 default)])).length) (.inl rfl) rfl (by rw [aT, if_pos rfl]) rfl rfl rfl (by simp (disch := omega) only [go_sem, seval] <;> first | rfl | simp) ⟨h2, by rw [← s0_0, aYp hcc h1, pY, he, if_pos rfl, List.append_nil], by rw [← s0_0, aYp hcc h1, pY, he, if_pos rfl, List.append_nil], rfl⟩
 have h1 : ¬ (cS l b).length = 1 := (by omega)
 refine bG ?_
 refine hK5 _ _ ?_; clear hK5
 refine a8 hF [0, 1, 6] ?_
 refine bI ?_
 refine dB [0, 1, 43, 44, 45] (fun n sF ρ => ∃ i, ∃ hx, ∃ V, n = (cS l b).length - i ∧ sF = [u5 hx V] ∧ (i ≤ (cS l b).length) ∧ (V = U ++ goI l m1 b p i) ∧ ρ = cU (set O1 k (.bx (rQ l hx (V).length))) [(0, .bp (k + 100000) 0), (1, pE p), (43, bN (cS l b)), (44, vi ((cS l b).length : Nat)), (45, vi (i : Nat))]) _ ⟨0, hx, U, rfl, rfl, ?_, ?_, ?_⟩ ?_
 ·exact bD
 ·(unfold goI; simp)
 ·exact cD
 rintro n sF ρ ⟨i, hx, V, rfl, rfl, l0_0, l0_1, rfl⟩ K12 hK12
 have hgl := aZl l m1 b p i
 have hgb2 : i < (cS l b).length → V.length + 2 ^ m1 ≤ 100000000 := fun h => by
  rw [l0_1, List.length_append]; have : i * 2 ^ m1 ≤ 1 * 2 ^ m1 := Nat.mul_le_mul_right _ (by omega); omega
 refine a8 hF [0, 1, 6, 43, 44, 45] ?_
 refine aN fun K14 hK14 => ?_
 refine bU (fun c3 => ?_) fun c3 => ?_
 ·refine bG ?_
  refine hK14 _ _ ?_; clear hK14
  refine aN fun K15 hK15 => ?_
  refine bI ?_
  refine a8 hF [0, 1, 6, 43, 44, 45] ?_
  refine aN fun K17 hK17 => ?_
  refine l4 6 [0, 1, 6, 8, 43, 44, 45] [0, 1, 8, 43, 44, 45, 49, 51, 52, 9, 50, 53] [[], [0], [], [2], [0, 1, 2, 3], [0, 1, 2, 3, 4]] [[1, 4, 5], [4, 5], [4, 5], [4, 5], [5], []] (fun (_ : Unit) bQ => cU (set O1 k (.bx (rQ l hx (V).length))) [(0, .bp (k + 100000) 0), (1, pE p), (8, .bx (bJ ((cS l b).getD i default))), (43, bN (cS l b)), (44, vi ((cS l b).length : Nat)), (45, vi (i : Nat)), (49, aV (bQ 0) (.own 1 p.length)), (51, aV (bQ 2) (.agg (bJ ((cS l b).getD i default)))), (52, aV (bQ 3) (.sl 3 1 (fun i_ => [bJ ((cS l b).getD i default)].getD i_ []))), (9, aV (bQ 5) (.row 85 3 (p.map bJ ++ [bJ ((cS l b).getD i default)]))), (50, (cond (bQ 4) (.any) (cond (bQ 1) (pE p) (.any)))), (53, (cond (bQ 5) (.any) (cond (bQ 4) (.row 85 3 (p.map bJ ++ [bJ ((cS l b).getD i default)])) (.any))))]) (fun (_ : Unit) bQ => [u5 hx V]) () hF (fun iQ hiQ oQ hoQ gg bQ hbQ KQ hKQ => ?_) (fun gg => ?_)
  ·match iQ, hiQ with
   | 0, _ | 2, _ | 3, _ | 4, _ | 5, _ =>
    exact mfp hF hoQ hbQ (hKQ ())
   | 1, _ =>
    obtain rfl := Option.some.inj hoQ
    simp only [oS, hD, iB, List.getD_cons_succ, List.getD_cons_zero, List.getD_nil, and_true, true_and] at hbQ
    show fV _ _ _ _ _ _ _ _
    refine dY hF ?_
    refine cM rfl (by kernel_rfl) (by kernel_rfl) ?_
    simp (disch := omega) only [go_sem, seval, hbQ]
    repeat refine And.intro bS ?_
    refine gE _ (kH _ p 1 (by simp (disch := omega) only [go_sem, seval]) (by omega)) ?_
    simp (disch := omega) only [go_sem, seval, hbQ]
    repeat refine And.intro bS ?_
    refine hKQ () _ _ ?_ ?_
    ·first | rfl | (simp (disch := omega) only [go_sem, seval, hbQ]; done) | (simp (disch := omega) only [go_sem, seval, hbQ] <;> rfl)
    simp (disch := omega) only [go_sem, seval, hbQ] <;> first | rfl | simp
  refine lZ ?_
  refine hK17 _ _ ?_; clear hK17
  refine aN fun K18 hK18 => ?_
  refine bH (Le.keepC [0, 1, 6, 9, 43, 44, 45] _) ?_
  refine bM ?_
  refine ef hF ?_
  refine ef hF ?_
  show fV _ _ _ _ _ _ _ _
  refine jU (cur := _) (rs := [u5 hx V]) (s2 := []) rfl rfl rfl (by decide) (by kernel_rfl) (by simp (disch := omega) only [go_sem, seval]) (by simp (disch := omega) only [go_sem, seval]) (by simp (disch := omega) only [go_sem, seval] <;> rfl) (by kernel_rfl) (by simp (disch := omega) only [go_sem, seval] <;> exact List.Perm.refl _) (lD _ l (p ++ [((cS l b).getD i default)]) (V) hx (k + 100000) 9 (by simp (disch := omega) only [go_sem, seval]) (by simp (disch := omega) only [go_sem, seval] <;> first | rfl | simp) _ (by simp) (by simp; omega) (by simp) (by omega)) ?_
  rintro rs1 O2 r1 ⟨h2, rfl, rfl, rfl⟩
  try simp (disch := omega) only [go_sem, seval]
  refine ef hF ?_
  refine ef hF ?_
  refine hK18 _ _ ?_; clear hK18
  refine a8 hF [0, 1, 6, 9, 10, 43, 44, 45] ?_
  refine bU (fun c4 => ?_) fun c4 => ?_
  ·have he : iC l ((cS l b).getD i default) = false := (by
    cases hx2 : iC l ((cS l b).getD i default) with
    | false => rfl
    | true => have hq2 := (aEq (l := l) (q := p ++ [((cS l b).getD i default)]) (by rw [fZ]; exact hx2)).2; rw [hq2] at c4; simp at c4)
   obtain ⟨hpP, hpE⟩ := zD (l := l) (q := p ++ [((cS l b).getD i default)]) (by rw [fZ]; exact he)
   have hb2 : (V ++ kG l (p ++ [((cS l b).getD i default)])).length + 2 ^ m1 ≤ 100000000 := (by rw [hpP, List.append_nil]; exact hgb2 c3)
   have hgi : goI l m1 b p (i + 1) = goI l m1 b p i ++ kG l (p ++ [((cS l b).getD i default)]) ++ xI l m1 (uH l (p ++ [((cS l b).getD i default)])) (p ++ [((cS l b).getD i default)]) := (by rw [aSu c3, pY, he, hpP, hpE, fZ]; simp)
   refine aDn (s1 := []) (s2 := [u5 h2 (V ++ kG l (p ++ [((cS l b).getD i default)]))]) (l := (p ++ [((cS l b).getD i default)]).map bJ) 9 (by decide) (by simp (disch := omega) only [go_sem, seval] <;> first | rfl | simp) rfl (fun hz => ?_)
   refine bH (Le.keepC [0, 1, 6, 9, 10, 43, 44, 45] _) ?_
   refine bM ?_
   refine ef hF ?_
   refine ef hF ?_
   refine ef hF ?_
   show fV _ _ _ _ _ _ _ _
   refine jU (cur := _) (rs := [rgQ hz (p ++ [((cS l b).getD i default)]), u5 h2 (V ++ kG l (p ++ [((cS l b).getD i default)]))]) (s2 := []) rfl rfl rfl (by decide) (by kernel_rfl) (by simp (disch := omega) only [go_sem, seval]) (by simp (disch := omega) only [go_sem, seval]) (by simp (disch := omega) only [go_sem, seval] <;> rfl) (by kernel_rfl) (by simp (disch := omega) only [go_sem, seval] <;> exact List.Perm.refl _) (ih m1 (by omega) _ (k + 100000) h2 hz (V ++ kG l (p ++ [((cS l b).getD i default)])) (uH l (p ++ [((cS l b).getD i default)])) (p ++ [((cS l b).getD i default)]) _ (by simp) (by simp (disch := omega) only [go_sem, seval]) (by simp; omega) (by simp; omega) hb2) ?_
   rintro rs3 O3 r3 ⟨h3, rfl, rfl, rfl⟩
   refine lZ ?_
   refine hK15 _ _ ?_; clear hK15
   refine cH hF [0, 1, 6, 43, 44, 45] ?_
   refine hK12 _ _ _ ?_ ⟨i + 1, h3, (V ++ kG l (p ++ [((cS l b).getD i default)])) ++ xI l m1 (uH l (p ++ [((cS l b).getD i default)])) (p ++ [((cS l b).getD i default)]), rfl, rfl, ?_, ?_, ?_⟩
   ·exact bD
   ·exact bD
   ·(rw [l0_1, hgi]; simp)
   exact cD
  have he : iC l ((cS l b).getD i default) = true := (by
   cases hx2 : iC l ((cS l b).getD i default) with
   | true => rfl
   | false =>
    have hq2 := (zD (l := l) (q := p ++ [((cS l b).getD i default)]) (by rw [fZ]; exact hx2)).2
    have hn2 := vN (l := l) (s := ((cS l b).getD i default)) (by rw [hx2]; simp)
    have hv2 := hv ⟨((cS l b).getD i default).fEl, ((cS l b).getD i default).fOut⟩ (congrArg Prod.snd hn2)
    rw [hq2, fZ] at c4
    have hv3 : 0 ≤ (bP l ((cS l b).getD i default)).1.fEl := hv2
    omega)
  have hgi : goI l m1 b p (i + 1) = goI l m1 b p i ++ kG l (p ++ [((cS l b).getD i default)]) := (by rw [aSu c3, pY, he, if_pos rfl, List.append_nil])
  refine bG ?_
  refine hK15 _ _ ?_; clear hK15
  refine cH hF [0, 1, 6, 43, 44, 45] ?_
  refine hK12 _ _ _ ?_ ⟨i + 1, h2, (V ++ kG l (p ++ [((cS l b).getD i default)])), rfl, rfl, ?_, ?_, ?_⟩
  ·exact bD
  ·exact bD
  ·(rw [l0_1, hgi]; simp)
  exact cD
 refine dD ?_
 (try simp only [eT, dQ, wR, ↓reduceIte]); exact uY (s := k) (cs0 := rQ l h P.length) (cs := rQ l hx (V).length) (.inr rfl) rfl (by rw [aT, if_pos rfl]) rfl rfl rfl (by simp (disch := omega) only [go_sem, seval] <;> first | rfl | simp) ⟨hx, by rw [← s0_0, aVt hcc (i := i) (by omega), ← l0_1], by rw [← s0_0, aVt hcc (i := i) (by omega), ← l0_1], rfl⟩
end
theorem tA {l : aC} (hl : dX l) (hv : ∀ e, (aD l e).2 = true → 0 ≤ (aD l e).1.fEl) : ∀ n, ∀ m, m ≤ n → FoC l m
 | 0, m, hm => fun O k h hp P a q nq h1 h2 h3 h4 => absurd h4 (by omega)
 | n + 1, m, hm => by
  rcases Nat.lt_or_eq_of_le hm with h | rfl
  ·exact tA hl hv n m (by omega)
  exact fun O k h hp P a q nq h1 h2 h3 h4 h5 => aGz O l n (tA hl hv n) hl hv k h hp P a q nq h1 h2 h3 h4 h5
theorem l0 {l : aC} (hv : Vld l) {e : cC} (h1 : (aD l e).2 = true) : ¬ ((aD l e).1.fEl < 0 ∨ (l.fElements.length : Int) ≤ (aD l e).1.fEl) := by have := rG hv h1; omega
section
attribute [local go_sem] List.drop_zero i6 iW iY f7 lT lP lN lM lK lQ jH jO jQ gS mV mC l2 mO mJ mD mT mM mH mU jG jJ jK jL
set_option maxRecDepth 20000 in
set_option maxHeartbeats 8000000 in
theorem xM (O : aU) (l : aC) (r : bE) (e0 : cC) (hv : Vld l) : aW Tryz.prog O 91 [.agg (aI l), .agg (aZ r), .agg (bO e0)] (.tup [.agg (aY (prT (pK l r 4 e0)).1), vi (prT (pK l r 4 e0)).2.1, vb (prT (pK l r 4 e0)).2.2]) := by
 have hl := hv.few
 refine dT Tryz.func91 ?_
 refine aB [0, 1, 2] ?_
 refine aA fun K1 hK1 => ?_
 refine aB [3, 4, 5, 6] ?_
 refine aK ?_
 refine aX [3, 4, 5, 6, 9] (fun n ρ => ∃ j, ∃ e, n = 4 - j ∧ (j ≤ 4) ∧ (pK l r 4 e0 = pK l r (4 - j) e) ∧ ρ = cU O [(3, .bx (aI l)), (4, .bx (aZ r)), (5, .bx (bO e)), (6, .bx [vi 0, vi 0]), (9, vi (j : Nat))]) _ ⟨0, e0, rfl, ?_, ?_, ?_⟩ ?_
 ·exact bD
 ·rfl
 ·exact cD
 rintro n ρ ⟨j, e, rfl, l0_0, l0_1, rfl⟩ K3 hK3
 refine aA fun K4 hK4 => ?_
 refine aB [3, 4, 5, 6, 9] ?_
 refine aS (fun c0 => ?_) fun c0 => ?_
 ·have h4j : 4 - j = (4 - (j + 1)) + 1 := by omega
  refine aJ ?_
  refine hK4 _ ?_; clear hK4
  refine aA fun K6 hK6 => ?_
  refine aK ?_
  refine aA fun K7 hK7 => ?_
  refine bF [3, 4, 5, 6, 9] ?_
  refine dM (gV _ l e) ?_
  refine hK7 _ ?_; clear hK7
  refine aA fun K8 hK8 => ?_
  refine aB [3, 4, 5, 6, 9, 10, 11] ?_
  refine aS (fun c1 => ?_) fun c1 => ?_
  ·have h1 : (aD l e).2 = false := (by simpa using c1)
   refine aB [6] ?_
   refine aL ?_
   refine nC (.cons ?_ (.cons ?_ (.cons ?_ .nil)))
   ·exact sJ (by ((try simp only [go_sem, seval]); try simp (disch := omega) only [go_sem, seval]) <;> rfl) (by ((try simp only [go_sem, seval]); try simp (disch := omega) only [go_sem, seval]) <;> ((rw [l0_1, h4j, aMp h1]; first | done | rfl))) (by kernel_rfl) (by first | rfl | (((try simp only [go_sem, seval]); try simp (disch := omega) only [go_sem, seval])))
   ·exact gZ (by ((try simp only [go_sem, seval]); try simp (disch := omega) only [go_sem, seval]) <;> ((rw [l0_1, h4j, aMp h1]; first | done | rfl))) rfl rfl
   exact gZ (by ((try simp only [go_sem, seval]); try simp (disch := omega) only [go_sem, seval]) <;> ((rw [l0_1, h4j, aMp h1]; first | done | rfl))) rfl rfl
  have h1 : (aD l e).2 = true := (by simpa using c1)
  refine aJ ?_
  refine hK8 _ ?_; clear hK8
  refine aA fun K11 hK11 => ?_
  refine bF [3, 4, 5, 6, 9, 10] ?_
  refine dM (pC _ l (aD l e).1) ?_
  refine hK11 _ ?_; clear hK11
  refine aA fun K12 hK12 => ?_
  refine aB [3, 4, 5, 6, 9, 10, 12] ?_
  refine aS (fun c2 => ?_) fun c2 => ?_
  ·have h2 : 0 ≤ iP l (aD l e).1 := (by simpa using c2)
   refine aB [6, 12] ?_
   refine aL ?_
   refine nC (.cons ?_ (.cons ?_ (.cons ?_ .nil)))
   ·exact sJ (by ((try simp only [go_sem, seval]); try simp (disch := omega) only [go_sem, seval]) <;> rfl) (by ((try simp only [go_sem, seval]); try simp (disch := omega) only [go_sem, seval]) <;> ((rw [l0_1, h4j, aMw h1 h2]; first | done | rfl))) (by kernel_rfl) (by first | rfl | (((try simp only [go_sem, seval]); try simp (disch := omega) only [go_sem, seval])))
   ·exact gZ (by ((try simp only [go_sem, seval]); try simp (disch := omega) only [go_sem, seval]) <;> ((rw [l0_1, h4j, aMw h1 h2]; first | done | rfl))) rfl rfl
   exact gZ (by ((try simp only [go_sem, seval]); try simp (disch := omega) only [go_sem, seval]) <;> ((rw [l0_1, h4j, aMw h1 h2]; first | done | rfl))) rfl rfl
  have h2 : ¬ 0 ≤ iP l (aD l e).1 := (by simpa using c2)
  refine aJ ?_
  refine hK12 _ ?_; clear hK12
  refine aA fun K15 hK15 => ?_
  refine aA fun K16 hK16 => ?_
  refine bF [3, 4, 5, 6, 9, 10] ?_
  refine dM (sD _ r.fPath (aD l e).1.fEl) ?_
  refine lY (fun g0 => sD _ r.fOver (aD l e).1.fEl) ?_
  refine hK16 _ ?_; clear hK16
  refine aS (fun c3 => ?_) fun c3 => ?_
  ·have h3 : (eG r.fPath (aD l e).1.fEl || eG r.fOver (aD l e).1.fEl) = true := (by simpa using c3)
   refine aB [6] ?_
   refine aL ?_
   refine nC (.cons ?_ (.cons ?_ (.cons ?_ .nil)))
   ·exact sJ (by ((try simp only [go_sem, seval]); try simp (disch := omega) only [go_sem, seval]) <;> rfl) (by ((try simp only [go_sem, seval]); try simp (disch := omega) only [go_sem, seval]) <;> ((rw [l0_1, h4j, aNl h1 h2 h3]; first | done | rfl))) (by kernel_rfl) (by first | rfl | (((try simp only [go_sem, seval]); try simp (disch := omega) only [go_sem, seval])))
   ·exact gZ (by ((try simp only [go_sem, seval]); try simp (disch := omega) only [go_sem, seval]) <;> ((rw [l0_1, h4j, aNl h1 h2 h3]; first | done | rfl))) rfl rfl
   exact gZ (by ((try simp only [go_sem, seval]); try simp (disch := omega) only [go_sem, seval]) <;> ((rw [l0_1, h4j, aNl h1 h2 h3]; first | done | rfl))) rfl rfl
  have h3 : (eG r.fPath (aD l e).1.fEl || eG r.fOver (aD l e).1.fEl) = false := (by simpa using c3)
  refine aJ ?_
  refine hK15 _ ?_; clear hK15
  refine aA fun K18 hK18 => ?_
  refine aA fun K19 hK19 => ?_
  have hA1 : ((aD l e).1.fEl < 0) = False := eq_false (by have := l0 hv h1; omega)
  have hA2 : ((l.fElements.length : Int) ≤ (aD l e).1.fEl) = False := eq_false (by have := l0 hv h1; omega)
  refine a7 [3, 4, 5, 6, 9, 10] (by kernel_rfl) ?_
  ((try simp only [go_sem, seval, hA1, hA2, decide_false, Bool.or_false, Bool.false_or, aSh, aXx]); try simp (disch := omega) only [go_sem, seval, hA1, hA2, decide_false, Bool.or_false, Bool.false_or, aSh, aXx])
  repeat refine And.intro bS ?_
  repeat refine And.intro bS ?_
  refine hK19 _ ?_; clear hK19
  refine aS (fun c4 => ?_) fun c4 => ?_
  ·have h5 : (l.fElements.getD (aD l e).1.fEl.toNat default).fKind = 2 ∧ (aD l e).1.fSide = 0 := (by have := l0 hv h1; omega)
   have h6 : awS r (aD l e).1 = none := bGy (.inl (by rw [h5.2]; rfl))
   refine aB [6] ?_
   refine aL ?_
   refine nC (.cons ?_ (.cons ?_ (.cons ?_ .nil)))
   ·exact sJ (by ((try simp only [go_sem, seval]); try simp (disch := omega) only [go_sem, seval]) <;> rfl) (by ((try simp only [go_sem, seval]); try simp (disch := omega) only [go_sem, seval]) <;> ((rw [l0_1, h4j, wT h1 h2 h3 (l0 hv h1) h5.1, h6]; first | done | rfl))) (by kernel_rfl) (by first | rfl | (((try simp only [go_sem, seval]); try simp (disch := omega) only [go_sem, seval])))
   ·exact gZ (by ((try simp only [go_sem, seval]); try simp (disch := omega) only [go_sem, seval]) <;> ((rw [l0_1, h4j, wT h1 h2 h3 (l0 hv h1) h5.1, h6]; first | done | rfl))) rfl rfl
   exact gZ (by ((try simp only [go_sem, seval]); try simp (disch := omega) only [go_sem, seval]) <;> ((rw [l0_1, h4j, wT h1 h2 h3 (l0 hv h1) h5.1, h6]; first | done | rfl))) rfl rfl
  have h50 : ¬ ((l.fElements.getD (aD l e).1.fEl.toNat default).fKind = 2 ∧ (aD l e).1.fSide = 0) := (by have := l0 hv h1; omega)
  refine aJ ?_
  refine hK18 _ ?_; clear hK18
  refine aA fun K21 hK21 => ?_
  refine aB [3, 4, 5, 6, 9, 10] ?_
  refine aS (fun c5 => ?_) fun c5 => ?_
  ·have h5 : (d7 l (aD l e).1.fEl.toNat).fKind = 2 := (by simpa using c5)
   have hs12 : (aD l e).1.fSide = 1 ∨ (aD l e).1.fSide = 2 := (by have hve := rG hv h1; have hs3 := hve.2.2.1; have hs4 := hve.2.1; rw [h5] at hs3; have h9 : fF 2 = 3 := rfl; omega)
   have hlg := bJr (r := r) hs12
   refine aA fun K23 hK23 => ?_
   refine bF [4, 6, 10] ?_
   refine dM (aEh _ r (aD l e).1) ?_
   refine hK23 _ ?_; clear hK23
   refine aL ?_
   refine nC (.cons ?_ (.cons ?_ (.cons ?_ .nil)))
   ·exact sJ (by ((try simp only [go_sem, seval]); try simp (disch := omega) only [go_sem, seval]) <;> rfl) (by ((try simp only [go_sem, seval]); try simp (disch := omega) only [go_sem, seval]) <;> ((rw [l0_1, h4j, wT h1 h2 h3 (l0 hv h1) h5, ← hlg]))) (by kernel_rfl) (by first | rfl | (((try simp only [go_sem, seval]); try simp (disch := omega) only [go_sem, seval])))
   ·exact gZ (by ((try simp only [go_sem, seval]); try simp (disch := omega) only [go_sem, seval]) <;> ((rw [l0_1, h4j, wT h1 h2 h3 (l0 hv h1) h5, ← hlg]))) rfl rfl
   exact gZ (by ((try simp only [go_sem, seval]); try simp (disch := omega) only [go_sem, seval]) <;> ((rw [l0_1, h4j, wT h1 h2 h3 (l0 hv h1) h5, ← hlg]))) rfl rfl
  have h5 : ¬ (d7 l (aD l e).1.fEl.toNat).fKind = 2 := (by simpa using c5)
  have hol : (oL (d7 l (aD l e).1.fEl.toNat).fKind (aD l e).1.fSide 0 4).1 = (cZ (d7 l (aD l e).1.fEl.toNat).fKind (aD l e).1.fSide).getD 0 default ∧ (cZ (d7 l (aD l e).1.fEl.toNat).fKind (aD l e).1.fSide).length ≠ 0 := (by have hve := rG hv h1; exact aXw (by omega) hve.2.1 hve.2.2.1)
  refine aJ ?_
  refine hK21 _ ?_; clear hK21
  refine aA fun K24 hK24 => ?_
  refine k9 15 [3, 4, 5, 6, 9, 10] [3, 4, 5, 6, 9, 10, 90, 91, 92, 93, 94, 95, 96, 97, 98, 99, 89, 100, 101, 13, 14] [] [] [[], [0], [], [2], [0, 1, 2, 3], [0, 1, 2, 3, 4], [0, 1, 2, 3, 4, 5], [], [7], [0, 1, 2, 3, 4, 5, 6, 7, 8], [0, 1, 2, 3, 4, 5, 6, 7, 8, 9], [0, 1, 2, 3, 4, 5, 6, 7, 8, 9, 10], [0, 1, 2, 3, 4, 5, 6, 7, 8, 9, 10], [0, 1, 2, 3, 4, 5, 6, 7, 8, 9, 10, 11], [0, 1, 2, 3, 4, 5, 6, 7, 8, 9, 10, 11, 12, 13]] [[], [], [], [], [], [], [], [], [], [], [], [], [], [], []] (fun bQ => cU O [(3, .bx (aI l)), (4, .bx (aZ r)), (5, .bx (bO e)), (6, .bx [vi 0, vi 0]), (9, vi (j : Nat)), (10, .bx (bO (aD l e).1)), (90, aV (bQ 0) (.bp 3 2)), (91, aV (bQ 1) (f5 l.fElements)), (92, aV (bQ 2) (.bp 10 0)), (93, aV (bQ 3) (vi (aD l e).1.fEl)), (94, aV (bQ 4) (.dp (eM (l.fElements.getD (aD l e).1.fEl.toNat default)))), (95, aV (bQ 5) (.dp ((eM (l.fElements.getD (aD l e).1.fEl.toNat default)).drop 1))), (96, aV (bQ 6) (vi (l.fElements.getD (aD l e).1.fEl.toNat default).fKind)), (97, aV (bQ 7) (.bp 10 1)), (98, aV (bQ 8) (vi (aD l e).1.fSide)), (99, aV (bQ 9) (.tup [vi (oL (l.fElements.getD (aD l e).1.fEl.toNat default).fKind (aD l e).1.fSide 0 4).1, vb (oL (l.fElements.getD (aD l e).1.fEl.toNat default).fKind (aD l e).1.fSide 0 4).2])), (89, aV (bQ 10) (.tup [vi (oL (l.fElements.getD (aD l e).1.fEl.toNat default).fKind (aD l e).1.fSide 0 4).1, vb (oL (l.fElements.getD (aD l e).1.fEl.toNat default).fKind (aD l e).1.fSide 0 4).2])), (100, aV (bQ 11) (vi (oL (l.fElements.getD (aD l e).1.fEl.toNat default).fKind (aD l e).1.fSide 0 4).1)), (101, aV (bQ 12) (vb (oL (l.fElements.getD (aD l e).1.fEl.toNat default).fKind (aD l e).1.fSide 0 4).2)), (13, aV (bQ 13) (vi (oL (l.fElements.getD (aD l e).1.fEl.toNat default).fKind (aD l e).1.fSide 0 4).1)), (14, aV (bQ 14) (vb (oL (l.fElements.getD (aD l e).1.fEl.toNat default).fKind (aD l e).1.fSide 0 4).2))]) (fun iQ hiQ oQ hoQ bQ hbQ KQ hKQ => ?_) ?_
  ·match iQ, hiQ with
   | 0, _ | 1, _ | 2, _ | 3, _ | 4, _ | 5, _ | 6, _ | 7, _ | 8, _ | 10, _ | 11, _ | 12, _ | 13, _ | 14, _ =>
    exact mkp hoQ hbQ hKQ
   | 9, _ =>
    exact mkc hoQ hbQ hKQ (aGm _ (l.fElements.getD (aD l e).1.fEl.toNat default).fKind (aD l e).1.fSide 0)
  refine lZ ?_
  refine hK24 _ ?_; clear hK24
  refine bC [3, 4, 5, 6, 9, 10, 13] ?_
  refine hK6 _ ?_; clear hK6
  refine bC [3, 4, 5, 6, 9] ?_
  refine hK3 _ _ ?_ ⟨j + 1, ⟨(aD l e).1.fEl, (oL (d7 l (aD l e).1.fEl.toNat).fKind (aD l e).1.fSide 0 4).1⟩, rfl, ?_, ?_, ?_⟩
  ·exact bD
  ·exact bD
  ·rw [l0_1, h4j, bGt h1 h2 h3 (l0 hv h1) h5 hol.2, hol.1]
  exact cD
 refine bA ?_
 refine hK1 _ ?_; clear hK1
 refine aB [6] ?_
 refine aL ?_
 refine nC (.cons ?_ (.cons ?_ (.cons ?_ .nil)))
 ·exact sJ (by ((try simp only [go_sem, seval]); try simp (disch := omega) only [go_sem, seval]) <;> rfl) (by ((try simp only [go_sem, seval]); try simp (disch := omega) only [go_sem, seval]) <;> ((rw [l0_1, show 4 - j = 0 by omega]; first | done | rfl))) (by kernel_rfl) (by first | rfl | (((try simp only [go_sem, seval]); try simp (disch := omega) only [go_sem, seval])))
 ·exact gZ (by ((try simp only [go_sem, seval]); try simp (disch := omega) only [go_sem, seval]) <;> ((rw [l0_1, show 4 - j = 0 by omega]; first | done | rfl))) rfl rfl
 exact gZ (by ((try simp only [go_sem, seval]); try simp (disch := omega) only [go_sem, seval]) <;> ((rw [l0_1, show 4 - j = 0 by omega]; first | done | rfl))) rfl rfl
end
def mL (fr : Int → List bE) (n : Nat) : List bE := (List.range n).flatMap fun i => fr (i : Nat)
theorem aFc (fr : Int → List bE) (n : Nat) : mL fr (n + 1) = mL fr n ++ fr (n : Nat) := by
 unfold mL; rw [List.range_succ, List.flatMap_append]; simp
theorem vY {fr : Int → List bE} (h : ∀ i, (fr i).length ≤ 10000) : ∀ n, (mL fr n).length ≤ 10000 * n
 | 0 => by simp [mL]
 | n + 1 => by rw [aFc, List.length_append]; have := vY h n; have := h (n : Nat); omega
def dP (l : aC) (fr : Int → List bE) : List bE × Int := if iZ l ≠ 0 then ([], iZ l) else if 48 < (mL fr l.fSignals.length).length then ([], 2) else (mL fr l.fSignals.length, 0)
theorem aDy {l : aC} {fr : Int → List bE} (h : iZ l ≠ 0) : dP l fr = ([], iZ l) := by unfold dP; rw [if_pos h]
theorem aFn {l : aC} {fr : Int → List bE} (h : iZ l = 0) (h2 : 48 < (mL fr l.fSignals.length).length) : dP l fr = ([], 2) := by unfold dP; rw [if_neg (by simp [h]), if_pos h2]
theorem aDw {l : aC} {fr : Int → List bE} (h : iZ l = 0) (h2 : ¬ 48 < (mL fr l.fSignals.length).length) : dP l fr = (mL fr l.fSignals.length, 0) := by unfold dP; rw [if_neg (by simp [h]), if_neg h2]
abbrev bGr (l : List bE) : DV := rowL 46 14 aZ l
section
attribute [local go_sem] List.drop_zero i6 iW iY f7 lT lP lN lM lK lQ jH jO jQ gS mV mC l2 mO mJ mD mT mM mH mU jG jJ jK jL
set_option maxHeartbeats 4000000 in
theorem aEg (O : aU) (l : aC) (fr : Int → List bE) (hl : dX l) (hF : iZ l = 0 → ∀ O (i : Nat), i < l.fSignals.length → aW Tryz.prog O 73 [.agg (aI l), vi (i : Nat)] (iU (fr (i : Nat)))) (hb : ∀ i, (fr i).length ≤ 10000) : aW Tryz.prog O 35 [.agg (aI l)] (.tup [iU (dP l fr).1, vi (dP l fr).2]) := by
 have hl4 := hl.sg
 refine aO 0 rfl (.agg (d := gB l.fSignals) (by simp [aI]) (.sl _ _ _)) fun hs => ?_
 refine dT Tryz.func35 ?_
 refine aB [0] ?_
 refine aA fun K1 hK1 => ?_
 refine aA fun K2 hK2 => ?_
 refine bF [1] ?_
 refine dM (w8 _ l hl) ?_
 refine hK2 _ ?_; clear hK2
 refine aB [1, 4] ?_
 refine aS (fun c0 => ?_) fun c0 => ?_
 ·refine aB [4] ?_
  refine aL ?_
  refine nC (.cons ?_ (.cons ?_ .nil))
  ·exact roN (by ((try simp only [go_sem, seval]); try simp (disch := omega) only [go_sem, seval])) (by (rw [aDy (by simpa using c0)]))
  exact gZ (by ((try simp only [go_sem, seval]); try simp (disch := omega) only [go_sem, seval]) <;> ((rw [aDy (by simpa using c0)]))) rfl rfl
 have hck : iZ l = 0 := (by simpa using c0)
 refine aJ ?_
 refine hK1 _ ?_; clear hK1
 refine aB [1] ?_
 refine aA fun K6 hK6 => ?_
 refine aB [1, 5] ?_
 refine aK ?_
 refine d9 5 46 14 aZ rfl rfl ?_
 refine aX [1, 5, 14, 15] (fun n ρ => ∃ i, n = l.fSignals.length - i ∧ (i ≤ l.fSignals.length) ∧ ρ = cU O [(1, .bx (aI l)), (5, bGr (mL fr i)), (14, vi (l.fSignals.length : Nat)), (15, vi (i : Nat))]) _ ⟨0, rfl, ?_, ?_⟩ ?_
 ·exact bD
 ·exact cD
 rintro n ρ ⟨i, rfl, l0_0, rfl⟩ K8 hK8
 have hal := vY hb i
 refine aB [1, 5, 14, 15] ?_
 refine aA fun K10 hK10 => ?_
 refine aS (fun c1 => ?_) fun c1 => ?_
 ·refine aJ ?_
  refine hK10 _ ?_; clear hK10
  refine aA fun K11 hK11 => ?_
  refine aK ?_
  refine aB [1, 5, 14, 15] ?_
  refine bF [1, 5, 6, 14, 15] ?_
  refine dM (hF hck _ i c1) ?_
  refine hK11 _ ?_; clear hK11
  refine bC [1, 5, 14, 15] ?_
  refine hK8 _ _ ?_ ⟨i + 1, rfl, ?_, ?_⟩
  ·exact bD
  ·exact bD
  ((try simp only [go_sem, seval]); try simp (disch := omega) only [go_sem, seval]) <;> (show set (set _ 5 (DV.row _ 14 (_ ++ (List.range (fr (i : Nat)).length).map (fun j => aZ ((fr (i : Nat)).getD j default))))) 1 _ = _; rw [aGf (l := fr (i : Nat)) (e := aZ) (by simp) (fun j hj => rfl), ← List.map_append, ← aFc]; rfl)
 refine bA ?_
 refine hK6 _ ?_; clear hK6
 refine aA fun K13 hK13 => ?_
 refine aB [5] ?_
 refine aS (fun c2 => ?_) fun c2 => ?_
 ·obtain rfl : i = l.fSignals.length := (by omega)
  refine aB [] ?_
  refine aL ?_
  refine nC (.cons ?_ (.cons ?_ .nil))
  ·exact roN (by ((try simp only [go_sem, seval]); try simp (disch := omega) only [go_sem, seval])) (by (rw [aFn hck (by omega)]))
  exact gZ (by ((try simp only [go_sem, seval]); try simp (disch := omega) only [go_sem, seval]) <;> ((rw [aFn hck (by omega)]))) rfl rfl
 obtain rfl : i = l.fSignals.length := (by omega)
 refine aJ ?_
 refine hK13 _ ?_; clear hK13
 refine aA fun K16 hK16 => ?_
 refine dG 5 _ rfl rfl ?_
 refine bC [5] ?_
 refine hK16 _ ?_; clear hK16
 refine aL ?_
 refine nC (.cons ?_ (.cons ?_ .nil))
 ·exact roL rfl (by (rw [aDw hck (by omega)]))
 exact gZ (by ((try simp only [go_sem, seval]); try simp (disch := omega) only [go_sem, seval]) <;> ((rw [aDw hck (by omega)]))) rfl rfl
end
section
attribute [local go_sem] List.drop_zero i6 iW iY f7 lT lP lN lM lK lQ jH jO jQ gS mV mC l2 mO mJ mD mT mM mH mU jG jJ jK jL
set_option maxHeartbeats 4000000 in
theorem aFr (O : aU) (l : aC) (fr : Int → List bE) (hl : dX l) (hF : iZ l = 0 → ∀ O (i : Nat), i < l.fSignals.length → aW Tryz.prog O 89 [.agg (aI l), vi (i : Nat)] (iU (fr (i : Nat)))) (hb : ∀ i, (fr i).length ≤ 10000) : aW Tryz.prog O 40 [.agg (aI l)] (.tup [iU (dP l fr).1, vi (dP l fr).2]) := by
 have hl4 := hl.sg
 refine aO 0 rfl (.agg (d := gB l.fSignals) (by simp [aI]) (.sl _ _ _)) fun hs => ?_
 refine dT Tryz.func40 ?_
 refine aB [0] ?_
 refine aA fun K1 hK1 => ?_
 refine bF [1] ?_
 refine dM (z8 _ l hl) ?_
 refine hK1 _ ?_; clear hK1
 refine aA fun K2 hK2 => ?_
 refine aB [1, 4] ?_
 refine aS (fun c0 => ?_) fun c0 => ?_
 ·refine aB [4] ?_
  refine aL ?_
  refine nC (.cons ?_ (.cons ?_ .nil))
  ·exact roN (by ((try simp only [go_sem, seval]); try simp (disch := omega) only [go_sem, seval])) (by (rw [aDy (by simpa using c0)]))
  exact gZ (by ((try simp only [go_sem, seval]); try simp (disch := omega) only [go_sem, seval]) <;> ((rw [aDy (by simpa using c0)]))) rfl rfl
 have hck : iZ l = 0 := (by simpa using c0)
 refine aJ ?_
 refine hK2 _ ?_; clear hK2
 refine aB [1] ?_
 refine aA fun K6 hK6 => ?_
 refine aB [1, 5] ?_
 refine aK ?_
 refine d9 5 46 14 aZ rfl rfl ?_
 refine aX [1, 5, 6] (fun n ρ => ∃ i, n = l.fSignals.length - i ∧ (i ≤ l.fSignals.length) ∧ ρ = cU O [(1, .bx (aI l)), (5, bGr (mL fr i)), (6, vi (i : Nat))]) _ ⟨0, rfl, ?_, ?_⟩ ?_
 ·exact bD
 ·exact cD
 rintro n ρ ⟨i, rfl, l0_0, rfl⟩ K8 hK8
 have hal := vY hb i
 refine aA fun K9 hK9 => ?_
 refine aB [1, 5, 6] ?_
 refine aS (fun c1 => ?_) fun c1 => ?_
 ·refine aJ ?_
  refine hK9 _ ?_; clear hK9
  refine aA fun K11 hK11 => ?_
  refine aK ?_
  refine bF [1, 5, 6] ?_
  refine dM (hF hck _ i c1) ?_
  refine hK11 _ ?_; clear hK11
  refine bC [1, 5, 6] ?_
  refine hK8 _ _ ?_ ⟨i + 1, rfl, ?_, ?_⟩
  ·exact bD
  ·exact bD
  ((try simp only [go_sem, seval]); try simp (disch := omega) only [go_sem, seval]) <;> (show set (set _ 5 (DV.row _ 14 (_ ++ (List.range (fr (i : Nat)).length).map (fun j => aZ ((fr (i : Nat)).getD j default))))) 1 _ = _; rw [aGf (l := fr (i : Nat)) (e := aZ) (by simp) (fun j hj => rfl), ← List.map_append, ← aFc]; rfl)
 refine bA ?_
 refine hK6 _ ?_; clear hK6
 refine aA fun K12 hK12 => ?_
 refine aB [5] ?_
 refine aS (fun c2 => ?_) fun c2 => ?_
 ·obtain rfl : i = l.fSignals.length := (by omega)
  refine aB [] ?_
  refine aL ?_
  refine nC (.cons ?_ (.cons ?_ .nil))
  ·exact roN (by ((try simp only [go_sem, seval]); try simp (disch := omega) only [go_sem, seval])) (by (rw [aFn hck (by omega)]))
  exact gZ (by ((try simp only [go_sem, seval]); try simp (disch := omega) only [go_sem, seval]) <;> ((rw [aFn hck (by omega)]))) rfl rfl
 obtain rfl : i = l.fSignals.length := (by omega)
 refine aJ ?_
 refine hK12 _ ?_; clear hK12
 refine aA fun K15 hK15 => ?_
 refine dG 5 _ rfl rfl ?_
 refine bC [5] ?_
 refine hK15 _ ?_; clear hK15
 refine aL ?_
 refine nC (.cons ?_ (.cons ?_ .nil))
 ·exact roL rfl (by (rw [aDw hck (by omega)]))
 exact gZ (by ((try simp only [go_sem, seval]); try simp (disch := omega) only [go_sem, seval]) <;> ((rw [aDw hck (by omega)]))) rfl rfl
end
section
attribute [local go_sem] List.drop_zero i6 iW iY f7 lT lP lN lM lK lQ jH jO jQ gS mV mC l2 mO mJ mD mT mM mH mU jG jJ jK jL
set_option maxRecDepth 20000 in
set_option maxHeartbeats 4000000 in
theorem aAg (O : aU) (l : aC) (r : bE) (hl : dX l) (hr : Rtk r) : aW Tryz.prog O 90 [.agg (aI l), .agg (aZ r)] (jX (cJ l (r.fPath ++ r.fOver))) := by
 have hr1 := hr.pa
 have hr2 := hr.ov
 refine dT Tryz.func90 ?_
 refine aB [0, 1] ?_
 refine aB [2, 3] ?_
 refine aA fun K2 hK2 => ?_
 refine aB [2, 3, 5] ?_
 refine aK ?_
 refine d9 5 49 2 bO rfl rfl ?_
 refine aX [2, 3, 5, 6] (fun n ρ => ∃ i, n = r.fPath.length - i ∧ (i ≤ r.fPath.length) ∧ ρ = cU O [(2, .bx (aI l)), (3, .bx (aZ r)), (5, aOf (cJ l (r.fPath.take i))), (6, vi (i : Nat))]) _ ⟨0, rfl, ?_, ?_⟩ ?_
 ·exact bD
 ·exact cD
 rintro n ρ ⟨i, rfl, l0_0, rfl⟩ K4 hK4
 have hbl := uP l (r.fPath.take i)
 have hbt : (r.fPath.take i).length ≤ i := List.length_take_le _ _
 have hb2 := yF l (r.fPath.getD i default)
 refine aA fun K5 hK5 => ?_
 refine aB [2, 3, 5, 6] ?_
 refine aS (fun c0 => ?_) fun c0 => ?_
 ·refine aJ ?_
  refine hK5 _ ?_; clear hK5
  refine aA fun K7 hK7 => ?_
  refine aK ?_
  refine k9 10 [2, 3, 5, 6] [2, 3, 6, 16, 17, 18, 19, 20, 21, 22, 23, 15, 5] [] [(5, 23)] [[], [], [], [2], [], [2, 3, 4], [2, 3, 4, 5], [1, 2, 3, 4, 5, 6], [0, 1, 2, 3, 4, 5, 6, 7], [0, 1, 2, 3, 4, 5, 6, 7, 8]] [[8, 9], [8, 9], [8, 9], [8, 9], [8, 9], [8, 9], [8, 9], [8, 9], [9], []] (fun bQ => cU O [(2, .bx (aI l)), (3, .bx (aZ r)), (6, vi (i : Nat)), (16, aV (bQ 1) (.agg (aI l))), (17, aV (bQ 2) (.bp 3 3)), (18, aV (bQ 3) (bN r.fPath)), (19, aV (bQ 4) (vi (i : Nat))), (20, aV (bQ 5) (.dp (bJ (r.fPath.getD i default)))), (21, aV (bQ 6) (.agg (bJ (r.fPath.getD i default)))), (22, aV (bQ 7) (jX (gF l (r.fPath.getD i default)))), (23, aV (bQ 8) (.row 49 2 ((cJ l (r.fPath.take i)).map bO ++ (gF l (r.fPath.getD i default)).map bO))), (15, hU (bQ 8) (bQ 0) (.any) (.own 5 ((cJ l (r.fPath.take i)).length))), (5, hU (bQ 9) (!bQ 8) (.own 23 ((cJ l (r.fPath.take i)).length + (gF l (r.fPath.getD i default)).length)) (.row 49 2 ((cJ l (r.fPath.take i)).map bO)))]) (fun iQ hiQ oQ hoQ bQ hbQ KQ hKQ => ?_) ?_
  ·match iQ, hiQ with
   | 0, _ | 1, _ | 2, _ | 3, _ | 4, _ | 5, _ | 6, _ | 8, _ | 9, _ =>
    exact mkp hoQ hbQ hKQ
   | 7, _ =>
    exact mkc hoQ hbQ hKQ (pG _ l (r.fPath.getD i default) hl)
  refine lZ ?_
  refine hK7 _ ?_; clear hK7
  refine bC [2, 3, 5, 6] ?_
  refine hK4 _ _ ?_ ⟨i + 1, rfl, ?_, ?_⟩
  ·exact bD
  ·exact bD
  ((try simp only [go_sem, seval]); try simp (disch := omega) only [go_sem, seval]) <;> (rw [aWc l c0, List.map_append]; first | rfl | simp)
 refine bA ?_
 refine hK2 _ ?_; clear hK2
 refine aA fun K8 hK8 => ?_
 refine aB [2, 3, 5] ?_
 refine aK ?_
 obtain rfl : i = r.fPath.length := (by omega)
 rw [List.take_length]
 refine aX [2, 3, 5, 7] (fun n ρ => ∃ i, n = r.fOver.length - i ∧ (i ≤ r.fOver.length) ∧ ρ = cU O [(2, .bx (aI l)), (3, .bx (aZ r)), (5, aOf (cJ l (r.fPath ++ r.fOver.take i))), (7, vi (i : Nat))]) _ ⟨0, rfl, ?_, ?_⟩ ?_
 ·exact bD
 ·((try simp only [go_sem, seval]); try simp (disch := omega) only [go_sem, seval]) <;> (rw [List.take_zero, List.append_nil]; first | rfl | simp)
 rintro n ρ ⟨i, rfl, l1_0, rfl⟩ K10 hK10
 have hbl := uP l (r.fPath ++ r.fOver.take i)
 have hbt : (r.fPath ++ r.fOver.take i).length ≤ 200 := (by rw [List.length_append]; have := List.length_take_le i r.fOver; omega)
 have hb2 := yF l (r.fOver.getD i default)
 refine aA fun K11 hK11 => ?_
 refine aB [2, 3, 5, 7] ?_
 refine aS (fun c1 => ?_) fun c1 => ?_
 ·refine aJ ?_
  refine hK11 _ ?_; clear hK11
  refine aA fun K13 hK13 => ?_
  refine aK ?_
  refine k9 10 [2, 3, 5, 7] [2, 3, 7, 32, 33, 34, 35, 36, 37, 38, 39, 31, 5] [] [(5, 39)] [[], [], [], [2], [], [2, 3, 4], [2, 3, 4, 5], [1, 2, 3, 4, 5, 6], [0, 1, 2, 3, 4, 5, 6, 7], [0, 1, 2, 3, 4, 5, 6, 7, 8]] [[8, 9], [8, 9], [8, 9], [8, 9], [8, 9], [8, 9], [8, 9], [8, 9], [9], []] (fun bQ => cU O [(2, .bx (aI l)), (3, .bx (aZ r)), (7, vi (i : Nat)), (32, aV (bQ 1) (.agg (aI l))), (33, aV (bQ 2) (.bp 3 8)), (34, aV (bQ 3) (bN r.fOver)), (35, aV (bQ 4) (vi (i : Nat))), (36, aV (bQ 5) (.dp (bJ (r.fOver.getD i default)))), (37, aV (bQ 6) (.agg (bJ (r.fOver.getD i default)))), (38, aV (bQ 7) (jX (gF l (r.fOver.getD i default)))), (39, aV (bQ 8) (.row 49 2 ((cJ l (r.fPath ++ r.fOver.take i)).map bO ++ (gF l (r.fOver.getD i default)).map bO))), (31, hU (bQ 8) (bQ 0) (.any) (.own 5 ((cJ l (r.fPath ++ r.fOver.take i)).length))), (5, hU (bQ 9) (!bQ 8) (.own 39 ((cJ l (r.fPath ++ r.fOver.take i)).length + (gF l (r.fOver.getD i default)).length)) (.row 49 2 ((cJ l (r.fPath ++ r.fOver.take i)).map bO)))]) (fun iQ hiQ oQ hoQ bQ hbQ KQ hKQ => ?_) ?_
  ·match iQ, hiQ with
   | 0, _ | 1, _ | 2, _ | 3, _ | 4, _ | 5, _ | 6, _ | 8, _ | 9, _ =>
    exact mkp hoQ hbQ hKQ
   | 7, _ =>
    exact mkc hoQ hbQ hKQ (pG _ l (r.fOver.getD i default) hl)
  refine lZ ?_
  refine hK13 _ ?_; clear hK13
  refine bC [2, 3, 5, 7] ?_
  refine hK10 _ _ ?_ ⟨i + 1, rfl, ?_, ?_⟩
  ·exact bD
  ·exact bD
  ((try simp only [go_sem, seval]); try simp (disch := omega) only [go_sem, seval]) <;> (rw [fP default c1, ← List.append_assoc]; unfold cJ; rw [List.flatMap_append (xs := r.fPath ++ _), List.map_append]; first | rfl | simp)
 refine bA ?_
 refine hK8 _ ?_; clear hK8
 refine aA fun K14 hK14 => ?_
 refine dG 5 _ rfl rfl ?_
 refine bC [5] ?_
 refine hK14 _ ?_; clear hK14
 refine aL ?_
 refine b6 4 ?_
 exact cP.encL rfl (by (rw [List.take_of_length_le (by omega)]))
end
end Go.Sg
namespace Go.Sg
open Go.RowKit
open Go.Rv (FR)
section
variable {P : Program} {nt : Nat} {w0 : World} {I0 : Nat → Prop} {A0 : cY} {G0 : Nat → Prop} {ρ : aU}
theorem cI.giveH {w : World} {I : Nat → Prop} {A : cY} {a : Act} {s1 s2 : List Rg} {h0 : Hd} {d : Nat} {e : TypeId} {z : Nat} {l : List (List DV)} (hs : cI nt w I A ρ a) (hf : jD w0 I0 A0 G0 (s1 ++ s2) w I A) (hd : d < nt)
  (hρ : ρ d = .row e z l) (hnew : ∀ g c, A d = some (some g, c) → G0 g ∨ w0.heap.size ≤ g) (hA : A d = some (h0.B, h0.c)) (hx : a.tmps.getD d undef = .slice h0.b l.length h0.c) (hb : jI h0.B h0.b) :
  cI nt w I (gL A d none) (set (cT d ρ) d (h0.sl l.length)) a ∧ jD w0 I0 A0 G0 (s1 ++ .row h0 e z l :: s2) w I (gL A d none) := by
 have ho := hs.osim.own d
 have hd2 : d < 100000 := Nat.lt_of_lt_of_le hd hs.bound
 rw [hρ] at ho
 obtain ⟨B', c', hA', hrow⟩ := ho
 rw [hA] at hA'
 simp only [Option.some.injEq, Prod.mk.injEq] at hA'
 obtain ⟨rfl, rfl⟩ := hA'
 obtain ⟨B, b, c⟩ := h0
 simp only at hA hx hb hrow hnew
 have hup : ∀ t, t ≠ d → gL A d none t = A t := fun t h => eQ A _ h
 have hno : ∀ t g c', gL A d none t = some (some g, c') → t ≠ d ∧ A t = some (some g, c') := fun t g c' h => by
  unfold gL at h
  split at h
  ·cases h
  rename_i h'; exact ⟨h', h⟩
 have hsep : ∀ g, B = some g → g < w.heap.size ∧ ¬ I g ∧ ∀ s c', gL A d none s ≠ some (some g, c') := fun g hg => by
  have h1 := hs.osim.sep d g c (by rw [hA, hg])
  refine ⟨h1.1, h1.2, fun s c' h => ?_⟩
  obtain ⟨h2, h3⟩ := hno s g c' h
  exact h2 (hs.osim.inj s d g c' c h3 (by rw [hA, hg]))
 obtain ⟨f1, f2, f3, f4⟩ := hf
 have hm : ∀ x ∈ s1 ++ (.row ⟨B, b, c⟩ e z l) :: s2, x = (.row ⟨B, b, c⟩ e z l) ∨ x ∈ s1 ++ s2 := fun x hx => by
  simp at hx ⊢; rcases hx with h | h | h
  ·exact .inr (.inl h)
  ·exact .inl h
  exact .inr (.inr h)
 have hne : ∀ x ∈ s1 ++ s2, ∀ g, B = some g → x.B ≠ some g := fun x hx g hg hxg => ((f1 x hx).free g hxg).2.2 d c (by rw [hA]; exact congrArg (fun q => some (q, c)) hg)
 refine ⟨⟨⟨fun s => ?_, fun s t g c1 c2 h1 h2 => ?_, fun s g c1 h => ?_, hs.osim.imm⟩, hs.size, hs.bound, fun i hi => ?_, fun s h => ?_⟩, fun r hr => ?_, ?_, fun r hr g hg => ?_, ⟨f4.os, f4.tape, f4.output, f4.size, f4.imm, fun g hg hAg hG => ?_, fun s hs' => ?_, fun s g c' h hg hs' => f4.loc s g c' (hno s g c' h).2 hg hs'⟩⟩
 ·unfold set; split
  ·trivial
  rename_i h; rw [eW hd2 (hs.out s)]; exact (hs.osim.own s).reown h hup
 ·exact hs.osim.inj s t g c1 c2 (hno s g c1 h1).2 (hno t g c2 h2).2
 ·exact hs.osim.sep s g c1 (hno s g c1 h).2
 ·unfold set; split
  ·rename_i h
   subst h
   rw [hx]
   exact .ofRel (.v _ _)
  rename_i h; rw [eW hd2 (hs.out i)]; exact (hs.slot i hi).reown h hup
 ·unfold set; rw [if_neg (by omega), eW hd2 (hs.out s)]
  exact jP (hs.out s h)
 ·rcases hm r hr with rfl | h
  ·exact ⟨⟨hb, hrow⟩, hsep⟩
  obtain ⟨q1, q3⟩ := f1 r h
  exact ⟨q1, fun g hg => ⟨(q3 g hg).1, (q3 g hg).2.1, fun s c' h => (q3 g hg).2.2 s c' (hno s g c' h).2⟩⟩
 ·unfold lE at f2 ⊢
  rw [List.pairwise_append] at f2 ⊢
  refine ⟨f2.1, List.pairwise_cons.2 ⟨fun y hy g hg => hne y (by simp [hy]) g hg, f2.2.1⟩, fun x hx y hy g hg hy' => ?_⟩
  rcases List.mem_cons.1 hy with rfl | hy
  ·exact hne x (by simp [hx]) g hy' hg
  exact f2.2.2 x hx y hy g hg hy'
 ·rcases hm r hr with rfl | h
  ·exact hnew g c (by rw [hA]; exact congrArg (fun q => some (q, c)) hg)
  exact f3 r h g hg
 ·obtain ⟨k1, k2, k3⟩ := f4.old g hg hAg hG
  exact ⟨k1, k2, fun s c' h => k3 s c' (hno s g c' h).2⟩
 rw [hup s (by omega)]; exact f4.outA s hs'
theorem aCw {ops : Array Oper} {o : Oper} {K : List Rg → aU → Prop} {rs s1 s2 : List Rg} {h0 : Hd} {e : TypeId} {z : Nat} {l : List (List DV)} {fv : Operand} {args : Array Operand} {ts : Array TypeId} (d dd : Nat) (hd : d < nt) (hρ : ρ d = h0.sl l.length) (hr : rs = s1 ++ .row h0 e z l :: s2)
  (hop : o.op = .call ⟨.value fv, args, ts⟩) (hg : o.guard = none) (hdst : o.dst = some dd) (hdd : dd < nt) (hne : dd ≠ d) (ho : dL nt o = true) (hgf : gd (ev (set (cT d ρ) d (.row e z l)) fv)) (hga : ∀ x ∈ args.toList, gd (ev (set (cT d ρ) d (.row e z l)) x))
  {f : FuncId} {al : List DV} (hc : callee (un (ev (set (cT d ρ) d (.row e z l)) fv)) (args.toList.map fun x => un (ev (set (cT d ρ) d (.row e z l)) x)) = some (f, al)) (hb : aQ P f = true)
  {R : aU → DV → Prop} (hR : iH P (set (cT d ρ) d (.row e z l)) f al R)
  (hK : ∀ O' r, R O' r → bR r = false ∧ ∃ l', l'.length = l.length ∧ O' d = .row e z l' ∧ K (s1 ++ .row h0 e z l' :: s2) (set (cT d (set O' dd r)) d (h0.sl l.length))) :
  fV P nt (jD w0 I0 (b8 A0) G0) ops o K rs ρ := by
 subst hr
 intro ro ds I A a w hs hdf hf next Q' hn
 have hbase : jI h0.B h0.b := (hf.1 (.row h0 e z l) (by simp)).holds.1
 have hx0 : a.tmps.getD d undef = .slice h0.b l.length h0.c := by
  have := hs.slot d hd
  rw [hρ] at this
  generalize a.tmps.getD d undef = x at this ⊢
  have this : bK w I A (.v (.slice h0.b l.length h0.c)) x := this
  cases this; rfl
 obtain ⟨h1, h2⟩ := hs.takeG hf hd hρ
 obtain ⟨vals, v1, v2, v3⟩ := iL h1 hop ho hgf hga hc hb
 rw [if_pos (by simp [Region.wanted, hg])]
 refine mF v1 ?_
 refine (hR w I (gL A d (some (h0.B, h0.c))) vals h1.osim v2 v3).mono ?_
 rintro e' w' ⟨v, I', O', r, rfl, k1, k2, k3, k4, k5, k6⟩
 obtain ⟨hro, l', hl', hO'd, hK'⟩ := hK O' r k6
 have hcal := h1.called k1 k2 k3 k4
 have hrel : bK w' I' (gL A d (some (h0.B, h0.c))) r v := by
  cases r <;> first | exact k5 | (cases hro)
 have hput := hcal.put (d := dd) (v := r) (x := v) hdd (.ofRel hrel) (.ofPure hro)
 have hf2 : jD w0 I0 (b8 A0) G0 (s1 ++ s2) w' I' (gL A d (some (h0.B, h0.c))) := h2.ext h1.osim k4
 have hd2 : d < 100000 := Nat.lt_of_lt_of_le hd hs.bound
 rw [hdst]
 have htm : (a.put (some dd) v).tmps.getD d undef = .slice h0.b l'.length h0.c := by
  rw [hl', ← hx0]
  show (a.tmps.setIfInBounds dd v).getD d undef = _
  simp [Array.getD_eq_getD_getElem?, Array.getElem?_setIfInBounds, hne]
 obtain ⟨g1, g2⟩ := hput.giveH (h0 := h0) (d := d) (e := e) (z := z) (l := l') hf2 hd (by rw [aT, if_neg (Ne.symm hne)]; exact hO'd) (fun g c hA => hf2.mine hput.osim hd2 g c hA) (cO _ _ _) htm hbase
 rw [hl'] at g1
 exact hn I' _ _ w' _ _ g1 (by rw [eD]; exact hdf) g2 hK'
end
end Go.Sg
namespace Go.Sg
open Go.RowKit
open Go.Rv (FR)
def Lnd (rs : List Rg) (d d' : DV) : Prop := ∀ w I A x, (∀ r ∈ rs, r.holds w I) → bK w I A d x → bK w (fun g => I g ∨ xG rs g) dV d' x
theorem Lnd.pure {rs : List Rg} (d : DV) (h : eR (fun _ => false) d = true) : Lnd rs d d := fun _ _ _ _ _ hr => (hr.pure h).mono fun _ hg => ⟨.inl hg, fun _ => rfl⟩
theorem Lnd.row {rs : List Rg} {h0 : Hd} {e : TypeId} {z : Nat} {l : List (List DV)} (hm : Rg.row h0 e z l ∈ rs) {n : Nat} (hn : n = l.length) {d' : DV} (hw : bV (Sg.frz z l) d') : Lnd rs (h0.sl n) d' := by
 subst hn
 intro w I A x hr hx
 have hx : bK w I A (.v (.slice h0.b l.length h0.c)) x := hx
 cases hx
 have := hr _ hm
 exact hw _ _ _ _ (this.2.frz (fun g hg => .inr ⟨_, hm, hg⟩) (fun g hg => .inl hg) this.1)
theorem Lnd.agg {rs : List Rg} {cs ds : List DV} (hl : cs.length = ds.length) (h : ∀ (j : Nat) (c d : DV), cs[j]? = some c → ds[j]? = some d → Lnd rs c d) : Lnd rs (.agg cs) (.agg ds) := by
 intro w I A x hr hx
 cases hx with
 | agg _ _ vs hl' hone hrel =>
  refine .agg _ ds vs (hl ▸ hl') hone fun j d u hd hu => ?_
  have hj : j < cs.length := by
   rcases Nat.lt_or_ge j ds.length with h1 | h1
   ·omega
   rw [List.getElem?_eq_none h1] at hd; cases hd
  exact h j _ _ (List.getElem?_eq_getElem hj) hd w I A u hr (hrel j _ u (List.getElem?_eq_getElem hj) hu)
inductive sL (rs : List Rg) : List DV → List DV → Prop
 | nil : sL rs [] []
 | cons {c d : DV} {cs ds : List DV} (h : Lnd rs c d) (t : sL rs cs ds) : sL rs (c :: cs) (d :: ds)
theorem sL.len {rs : List Rg} {cs ds : List DV} (h : sL rs cs ds) : cs.length = ds.length := by
 induction h with
 | nil => rfl
 | cons _ _ ih => simp [ih]
theorem sL.get {rs : List Rg} {cs ds : List DV} (h : sL rs cs ds) : ∀ (j : Nat) (c d : DV), cs[j]? = some c → ds[j]? = some d → Lnd rs c d := by
 induction h with
 | nil => intro j c d h; cases h
 | cons h _ ih =>
  intro j c d hc hd
  cases j with
  | zero => simp at hc hd; subst hc; subst hd; exact h
  | succ j => exact ih j c d (by simpa using hc) (by simpa using hd)
theorem sL.toAgg {rs : List Rg} {cs ds : List DV} (h : sL rs cs ds) : Lnd rs (.agg cs) (.agg ds) := .agg h.len h.get
def PlV (r : DV) : Prop := ∀ w I I' A A' x, bK w I A r x → bK w I' A' r x
theorem PlV.v (x : Value) : PlV (.v x) := fun _ _ _ _ _ _ h => by cases h; exact .v _ _
theorem PlV.agg {cs : List DV} (h : ∀ d ∈ cs, PlV d) : PlV (.agg cs) := fun _ _ _ _ _ _ hx => by
 cases hx with
 | agg _ _ vs hl hone hrel => exact .agg _ cs vs hl hone fun j d u hd hu => h d (List.mem_of_getElem? hd) _ _ _ _ _ _ (hrel j d u hd hu)
theorem PlV.tup {cs : List DV} (h : ∀ d ∈ cs, PlV d) : PlV (.tup cs) := fun _ _ _ _ _ _ hx => by
 cases hx with
 | tup _ _ vs hl hrel => exact .tup _ cs vs hl fun j d u hd hu => h d (List.mem_of_getElem? hd) _ _ _ _ _ _ (hrel j d u hd hu)
section
variable {P : Program} {nt : Nat} {w0 : World} {I0 : Nat → Prop} {A0 : cY} {G0 : Nat → Prop} {ρ : aU}
theorem aMz {w : World} {I : Nat → Prop} {A : cY} {a : Act} (hs : cI nt w I A ρ a) {rs : List Rg} (hf : jD w0 I0 A0 G0 rs w I A) {f : FuncId} {l al : List DV} {vals : Array Value} (v2 : vals.size = l.length)
  (v3 : ∀ (j : Nat) (d : DV) (u : Value), l[j]? = some d → vals[j]? = some u → bK w I A d u) (hal : sL rs l al) {r : DV} (hR : aW P (fun _ => .any) f al r) (hro : bR r = false) (hpl : PlV r) :
  Calls P f vals w fun e w' => ∃ v, e = .returned v ∧ mQ w I w' I ∧ bK w' I A r v := by
 have hO : iD w (fun g => I g ∨ xG rs g) dV (fun _ => .any) := by
  refine ⟨fun s => trivial, fun s t g c c' h => (by cases h), fun s g c h => (by cases h), ⟨fun g hg => ?_, fun g us e hg => ?_⟩⟩
  ·rcases hg with h | ⟨r, hr, hB⟩
   ·exact hs.osim.imm.lt g h
   exact ((hf.1 r hr).free g hB).1
  exact ⟨.inl (hs.osim.imm.glob g us e hg).1, (hs.osim.imm.glob g us e hg).2⟩
 refine (hR w _ dV vals hO (v2.trans hal.len) fun j d u hd hu => ?_).mono ?_
 ·have hj : j < l.length := by
   rw [hal.len]
   rcases Nat.lt_or_ge j al.length with h1 | h1
   ·exact h1
   rw [List.getElem?_eq_none h1] at hd; cases hd
  exact hal.get j _ d (List.getElem?_eq_getElem hj) hd w I A u (fun r hr => (hf.1 r hr).holds) (v3 j _ u (List.getElem?_eq_getElem hj) hu)
 rintro e' w' ⟨v, I', O', r', rfl, k1, k2, k3, k4, k5, rfl, rfl⟩
 have hgr : mQ w I w' I := ⟨k4.os, k4.tape, k4.output, k4.size, fun g hg => (k4.old g hg (fun s c h => by cases h)).1, fun _ h => h, fun _ h => .inl h⟩
 refine ⟨v, rfl, hgr, ?_⟩
 have : bK w' I' dV r' v := by cases r' <;> first | exact k5 | (cases hro)
 exact hpl _ _ _ _ _ _ this
theorem aCk {ops : Array Oper} {o : Oper} {K : List Rg → aU → Prop} {rs : List Rg} {fv : Operand} {args : Array Operand} {ts : Array TypeId} {dd : Nat} (hop : o.op = .call ⟨.value fv, args, ts⟩) (hg : o.guard = none) (hdst : o.dst = some dd) (hdd : dd < nt)
  (ho : dL nt o = true) (hgf : gd (ev ρ fv)) (hga : ∀ x ∈ args.toList, gd (ev ρ x)) {f : FuncId} {l al : List DV} (hc : callee (un (ev ρ fv)) (args.toList.map fun x => un (ev ρ x)) = some (f, l)) (hb : aQ P f = true)
  (hal : sL rs l al) {r : DV} (hR : aW P (fun _ => .any) f al r) (hro : bR r = false) (hpl : PlV r) (hK : K rs (set ρ dd r)) : fV P nt (jD w0 I0 A0 G0) ops o K rs ρ := by
 intro ro ds I A a w hs hdf hf next Q' hn
 obtain ⟨vals, v1, v2, v3⟩ := iL hs hop ho hgf hga hc hb
 rw [if_pos (by simp [Region.wanted, hg])]
 refine mF v1 ?_
 refine (aMz hs hf v2 v3 hal hR hro hpl).mono ?_
 rintro e' w' ⟨v, rfl, hgr, hrel⟩
 rw [hdst]
 exact hn I A _ w' _ _ ((hs.grow hgr).put (d := dd) (v := r) (x := v) hdd (.ofRel hrel) (.ofPure hro)) (by rw [eD]; exact hdf) (hf.ext hs.osim (hgr.ext hs.osim)) hK
theorem yJ {l' : List Oper} {o : Oper} {K : List Rg → aU → Prop} {rs : List Rg} {fv : Operand} {args : Array Operand} {ts : Array TypeId} {dd j : Nat} {want g : Bool} (hop : o.op = .call ⟨.value fv, args, ts⟩) (hg : o.guard = some (j, want)) (hdst : o.dst = some dd) (hdd : dd < nt)
  (hall : l'.all (fG nt) = true) (ho : dL nt o = true) (hgj : gAt l' ρ j want = some g) {f : FuncId} {l al : List DV} {r : DV} (hro : bR r = false) (hpl : PlV r)
  (h : g = true → gd (ev ρ fv) ∧ (∀ x ∈ args.toList, gd (ev ρ x)) ∧ callee (un (ev ρ fv)) (args.toList.map fun x => un (ev ρ x)) = some (f, l) ∧ aQ P f = true ∧ sL rs l al ∧ aW P (fun _ => .any) f al r)
  (hK : K rs (set ρ dd (.cond g r))) : fV P nt (jD w0 I0 A0 G0) l'.toArray o K rs ρ := by
 intro ro ds I A a w hs hdf hf next Q' hn
 rw [aDi hs hg hall hgj]
 cases g with
 | true =>
  obtain ⟨g1, g2, g3, g4, g5, g6⟩ := h rfl
  obtain ⟨vals, v1, v2, v3⟩ := iL hs hop ho g1 g2 g3 g4
  rw [if_pos rfl]
  refine mF v1 ?_
  refine (aMz hs hf v2 v3 g5 g6 hro hpl).mono ?_
  rintro e' w' ⟨v, rfl, hgr, hrel⟩
  rw [hdst]
  exact hn I A _ w' _ _ ((hs.grow hgr).put (v := .cond true r) (x := v) hdd ⟨fun _ => hrel, fun h => by cases h⟩ trivial) (by rw [eD]; exact hdf) (hf.ext hs.osim (hgr.ext hs.osim)) hK
 | false =>
  rw [if_neg (by simp), hdst]
  exact ⟨fun _ _ => trivial, hn I A _ w _ _ (hs.put (v := .cond false r) hdd ⟨(fun h => by cases h), fun _ => rfl⟩ trivial) (by rw [eD]; exact hdf) hf hK⟩
theorem aLm {O : aU} {f : FuncId} {l : List DV} {rs : List Rg} {R : List Rg → aU → DV → Prop} (al : List DV) (hw : mK l al) (h : rB P O f al rs R) : rB P O f l rs R :=
 fun w I A vals h1 h2 h3 h4 h5 => h w I A vals h1 h2 h3 (h4.trans hw.len) fun j d u hd hu => by
  obtain ⟨d', q1, q2⟩ := hw.get j d hd
  exact q2 _ _ _ _ (h5 j d' u q1 hu)
theorem kB {σ : Type} {F : σ → World → (Nat → Prop) → cY → Prop} {Q : Exit → σ → aU → Prop} {st : σ} {c : Code} (s : Nat) {cs ds : List DV} (hlt : (decide (s < 100000)) = true) (h : ρ s = .bx cs) (hw : mK cs ds) (k : kQ P nt F c Q st (set ρ s (.bx ds))) : kQ P nt F c Q st ρ :=
 fun ro ds' I A a w hs hd hf => k ro ds' I A a w ⟨⟨fun t => by
   rw [aT]; split
   ·rename_i e
    subst e
    have ho := hs.osim.own t
    rw [h] at ho
    obtain ⟨g, c', us, et, h1, h2, h3, h4, h5⟩ := ho
    refine ⟨g, c', us, et, h1, h2, by rw [← hw.len]; exact h3, h4, fun j d u hdj hu => ?_⟩
    obtain ⟨d', q1, q2⟩ := hw.get j d hdj
    exact q2 _ _ _ _ (h5 j d' u q1 hu)
   ·exact hs.osim.own t, hs.osim.inj, hs.osim.sep, hs.osim.imm⟩, hs.size, hs.bound, fun i hi => by
   rw [aT]; split
   ·rename_i e
    subst e
    have := hs.slot i hi
    rw [h] at this
    exact this
   ·exact hs.slot i hi, fun t ht => by
   have := of_decide_eq_true hlt
   rw [aT, if_neg (by omega)]; exact hs.out t ht⟩ hd hf
theorem iX.cut {w : World} {I : Nat → Prop} {e : TypeId} {z : Nat} {xs : List (List DV)} {B : Option Nat} {c : Nat} (h : iX w I e z xs B c) (m : Nat) : iX w I e z (xs.take m) B c := by
 cases B with
 | none => obtain ⟨rfl, h2⟩ := h; exact ⟨by simp, h2⟩
 | some g =>
  obtain ⟨us, q1, q2, q3, q4, q5⟩ := h
  refine ⟨us, q1, q2, q3, Nat.le_trans (by rw [List.length_take]; omega) q4, fun i x hx => ?_⟩
  rw [List.getElem?_take] at hx
  split at hx
  ·exact q5 i x hx
  cases hx
theorem jD.cut {w : World} {I : Nat → Prop} {A : cY} {s1 s2 : List Rg} {h h' : Hd} {e : TypeId} {z : Nat} {l : List (List DV)} (hf : jD w0 I0 A0 G0 (s1 ++ .row h e z l :: s2) w I A) (m : Nat) (hB : h'.B = h.B) (hc : h'.c = h.c) (hb : jI h'.B h'.b) : jD w0 I0 A0 G0 (s1 ++ .row h' e z (l.take m) :: s2) w I A := by
 obtain ⟨f1, f2, f3, f4⟩ := hf
 have hm : ∀ x ∈ s1 ++ (.row h' e z (l.take m)) :: s2, x = (.row h' e z (l.take m)) ∨ x ∈ s1 ++ s2 := fun x hx => by
  simp at hx ⊢; rcases hx with h | h | h
  ·exact .inr (.inl h)
  ·exact .inl h
  exact .inr (.inr h)
 have hi : ∀ x ∈ s1 ++ s2, x ∈ s1 ++ (.row h e z l) :: s2 := fun x hx => by
  simp at hx ⊢; rcases hx with h | h
  ·exact .inl h
  exact .inr (.inr h)
 have h0 := f1 (.row h e z l) (by simp)
 have hBB : (Rg.row h' e z (l.take m)).B = (Rg.row h e z l).B := hB
 refine ⟨fun r hr => ?_, ?_, fun r hr g hg => ?_, f4⟩
 ·rcases hm r hr with rfl | hx
  ·exact ⟨⟨hb, by rw [hB, hc]; exact h0.holds.2.cut m⟩, fun g hg => h0.free g (hBB ▸ hg)⟩
  exact f1 r (hi r hx)
 ·unfold lE at f2 ⊢
  rw [List.pairwise_append] at f2 ⊢
  refine ⟨f2.1, List.pairwise_cons.2 ⟨fun y hy g hg => (List.pairwise_cons.1 f2.2.1).1 y hy g (hBB ▸ hg), (List.pairwise_cons.1 f2.2.1).2⟩, fun x hx y hy g hg hy' => ?_⟩
  rcases List.mem_cons.1 hy with rfl | hy
  ·exact f2.2.2 x hx (.row h e z l) (by simp) g hg (hBB ▸ hy')
  exact f2.2.2 x hx y (by simp [hy]) g hg hy'
 rcases hm r hr with rfl | hx
 ·exact f3 (.row h e z l) (by simp) g (hBB ▸ hg)
 exact f3 r (hi r hx) g hg
theorem aDd {ops : Array Oper} {o : Oper} {K : List Rg → aU → Prop} {rs s1 s2 : List Rg} {h0 : Hd} {e : TypeId} {z : Nat} {l : List (List DV)} {fv : Operand} {args : Array Operand} {ts : Array TypeId} (d dd : Nat) (hd : d < nt) (hρ : ρ d = h0.sl l.length) (hr : rs = s1 ++ .row h0 e z l :: s2)
  (hop : o.op = .call ⟨.value fv, args, ts⟩) (hg : o.guard = none) (hdst : o.dst = some dd) (hdd : dd < nt) (hne : dd ≠ d) (ho : dL nt o = true) (hgf : gd (ev (set (cT d ρ) d (.row e z l)) fv)) (hga : ∀ x ∈ args.toList, gd (ev (set (cT d ρ) d (.row e z l)) x))
  {f : FuncId} {al : List DV} (hc : callee (un (ev (set (cT d ρ) d (.row e z l)) fv)) (args.toList.map fun x => un (ev (set (cT d ρ) d (.row e z l)) x)) = some (f, al)) (hb : aQ P f = true)
  {R : aU → DV → Prop} (hR : iH P (set (cT d ρ) d (.row e z l)) f al R)
  (hK : ∀ O' r, R O' r → ∃ m l', r = .own d m ∧ l'.length = l.length ∧ O' d = .row e z l' ∧ ∀ h' : Hd, K (s1 ++ .row h' e z (l'.take m) :: s2) (set (set (cT d (set O' dd .any)) d (h0.sl l.length)) dd (h'.sl m))) :
  fV P nt (jD w0 I0 (b8 A0) G0) ops o K rs ρ := by
 subst hr
 intro ro ds I A a w hs hdf hf next Q' hn
 have hbase : jI h0.B h0.b := (hf.1 (.row h0 e z l) (by simp)).holds.1
 have hx0 : a.tmps.getD d undef = .slice h0.b l.length h0.c := by
  have := hs.slot d hd
  rw [hρ] at this
  generalize a.tmps.getD d undef = x at this ⊢
  have this : bK w I A (.v (.slice h0.b l.length h0.c)) x := this
  cases this; rfl
 obtain ⟨h1, h2⟩ := hs.takeG hf hd hρ
 obtain ⟨vals, v1, v2, v3⟩ := iL h1 hop ho hgf hga hc hb
 rw [if_pos (by simp [Region.wanted, hg])]
 refine mF v1 ?_
 refine (hR w I (gL A d (some (h0.B, h0.c))) vals h1.osim v2 v3).mono ?_
 rintro e' w' ⟨v, I', O', r, rfl, k1, k2, k3, k4, k5, k6⟩
 obtain ⟨m, l', rfl, hl', hO'd, hK'⟩ := hK O' r k6
 have hcal := h1.called k1 k2 k3 k4
 have hrel : bK w' I' (gL A d (some (h0.B, h0.c))) (.own d m) v := k5
 obtain ⟨b', hb', rfl⟩ : ∃ b', jI h0.B b' ∧ v = .slice b' m h0.c := by
  cases hrel with
  | own _ _ _ B c b hA hb =>
   rw [cO] at hA
   simp only [Option.some.injEq, Prod.mk.injEq] at hA
   obtain ⟨rfl, rfl⟩ := hA
   exact ⟨b, hb, rfl⟩
 have hput := hcal.put (d := dd) (v := .any) (x := .slice b' m h0.c) hdd (.any _ _) trivial
 have hf2 : jD w0 I0 (b8 A0) G0 (s1 ++ s2) w' I' (gL A d (some (h0.B, h0.c))) := h2.ext h1.osim k4
 have hd2 : d < 100000 := Nat.lt_of_lt_of_le hd hs.bound
 rw [hdst]
 have htm : (a.put (some dd) (.slice b' m h0.c)).tmps.getD d undef = .slice h0.b l'.length h0.c := by
  rw [hl', ← hx0]
  show (a.tmps.setIfInBounds dd (.slice b' m h0.c)).getD d undef = _
  simp [Array.getD_eq_getD_getElem?, Array.getElem?_setIfInBounds, hne]
 obtain ⟨g1, g2⟩ := hput.giveH (h0 := h0) (d := d) (e := e) (z := z) (l := l') hf2 hd (by rw [aT, if_neg (Ne.symm hne)]; exact hO'd) (fun g c hA => hf2.mine hput.osim hd2 g c hA) (cO _ _ _) htm hbase
 rw [hl'] at g1
 have hdt : (a.put (some dd) (.slice b' m h0.c)).tmps.getD dd undef = .slice b' m h0.c := by
  show (a.tmps.setIfInBounds dd (.slice b' m h0.c)).getD dd undef = _
  have : dd < a.tmps.size := by rw [hs.size]; exact hdd
  simp [Array.getD_eq_getD_getElem?, Array.getElem?_setIfInBounds, this]
 have g3 : cI nt w' I' (gL (gL A d (some (h0.B, h0.c))) d none) (set (set (cT d (set O' dd .any)) d (h0.sl l.length)) dd ((⟨h0.B, b', h0.c⟩ : Hd).sl m)) (a.put (some dd) (.slice b' m h0.c)) := by
  refine ⟨⟨fun s => ?_, g1.osim.inj, g1.osim.sep, g1.osim.imm⟩, g1.size, g1.bound, fun i hi => ?_, fun s hs' => ?_⟩
  ·rw [aT]; split
   ·trivial
   exact g1.osim.own s
  ·rw [aT]; split
   ·rename_i h; subst h; rw [hdt]; exact .ofRel (.v _ _)
   exact g1.slot i hi
  rw [aT, if_neg (by have := hs.bound; omega)]; exact g1.out s hs'
 exact hn I' _ _ w' _ _ g3 (by rw [eD]; exact hdf) (g2.cut (h' := ⟨h0.B, b', h0.c⟩) m rfl rfl hb') (hK' ⟨h0.B, b', h0.c⟩)
end
end Go.Sg
