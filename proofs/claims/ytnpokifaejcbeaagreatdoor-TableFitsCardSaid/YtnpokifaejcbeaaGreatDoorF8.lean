/- Several texts as one. -/
import Derived.Test.YtnpokifaejcbeaaGreatDoorF7
import Derived.Ground.Names2Prog
import Derived.Shelf.LaysM
import Derived.Shelf.Slices.Cells
import Derived.Shelf.Slices.Clone
import Derived.Shelf.Slices.CompactI
import Derived.Shelf.Slices.In.SortNone
import Derived.Shelf.Slices.SearchI
import Derived.Shelf.Slices.Turned
import Derived.Shelf.Small.Bits
import Derived.Shelf.Small.Wraps
import Derived.Shelf.Sort.Plain
import Derived.Shelf.Spec.SlicesGrow
import Derived.Shelf.Strconv.Itoa0
import Derived.Shelf.Strconv.Itoa1
import Derived.Shelf.Strconv.Itoa2
import Derived.Shelf.Strconv.Itoa3
set_option linter.unusedSectionVars false
set_option linter.unusedVariables false
set_option linter.unusedSimpArgs false
set_option maxRecDepth 20000
namespace Go.Sg
open Go.Proofs
abbrev jS (q : List aW) (i : Nat) : aW := q.getD i default
def yA (l : aB) (q : List aW) (i : Nat) : Bool := (lE l (jS q i)).2 && (decide (i = 0) || ((bG l (jS q (i - 1))).2 && decide ((bG l (jS q (i - 1))).1 = ⟨(jS q i).fEl, (jS q i).fIn⟩)))
def neN (q : List aW) (i k : Nat) : Bool := decide ((jS q k).fEl ≠ (jS q i).fEl)
def oG (l : aB) (q : List aW) (i : Nat) : Bool := yA l q i && (List.range i).all (neN q i)
def y5 (l : aB) (q : List aW) : Bool := decide (0 < q.length ∧ q.length ≤ 64) && (List.range q.length).all (oG l q)
theorem bQi {l : aB} {q : List aW} (h : q.length = 0 ∨ 64 < q.length) : y5 l q = false := by unfold y5; rw [decide_eq_false (by omega)]; rfl
theorem aWq {l : aB} {q : List aW} {i : Nat} (h : i < q.length) (hf : oG l q i = false) : y5 l q = false := by unfold y5; rw [rA h hf, Bool.and_false]
theorem bQj {l : aB} {q : List aW} {i : Nat} (hi : q.length ≤ i) (hi2 : i ≤ q.length) (h0 : ¬ (q.length = 0 ∨ 64 < q.length)) (h : oO (oG l q) i) : y5 l q = true := by
 unfold y5; rw [decide_eq_true (by omega), uO (i := i) h (by omega)]; rfl
theorem bJk {l : aB} {q : List aW} {i : Nat} (h : (lE l (jS q i)).2 = false) : oG l q i = false := by unfold oG yA; rw [h]; rfl
theorem bHo {l : aB} {q : List aW} {i : Nat} (h0 : 0 < i) (h : ((bG l (jS q (i - 1))).2 = false ∨ ¬ (bG l (jS q (i - 1))).1.fEl = (jS q i).fEl) ∨ ¬ (bG l (jS q (i - 1))).1.fSide = (jS q i).fIn) : oG l q i = false := by
 unfold oG yA
 rw [decide_eq_false (show ¬ i = 0 by omega), Bool.false_or]
 rcases h with (h | h) | h
 ·rw [h]; simp
 ·rw [decide_eq_false (show ¬ ((bG l (jS q (i - 1))).1 = ⟨(jS q i).fEl, (jS q i).fIn⟩) from fun e => h (by rw [e]))]; simp
 rw [decide_eq_false (show ¬ ((bG l (jS q (i - 1))).1 = ⟨(jS q i).fEl, (jS q i).fIn⟩) from fun e => h (by rw [e]))]; simp
theorem aWg {l : aB} {q : List aW} {i : Nat} (hp : (lE l (jS q i)).2 = true) (h : 0 < i → ((bG l (jS q (i - 1))).2 = true ∧ (bG l (jS q (i - 1))).1.fEl = (jS q i).fEl) ∧ (bG l (jS q (i - 1))).1.fSide = (jS q i).fIn) : yA l q i = true := by
 unfold yA
 rw [hp, Bool.true_and]
 by_cases h0 : i = 0
 ·rw [decide_eq_true h0]; rfl
 obtain ⟨⟨h1, h2⟩, h3⟩ := h (by omega)
 rw [h1, decide_eq_true ((dO _ _).2 ⟨h2, h3⟩)]; simp
def wU (l : aB) (q : List aW) : Nat → Nat
 | 0 => 0
 | n + 1 => wU l q n + if n = 0 ∨ bU l (jS q n).fEl ≠ bU l (jS q (n - 1)).fEl then 1 else 0
theorem bJh (l : aB) (q : List aW) : wU l q 1 = 1 := rfl
def bQr (l : aB) (f : cG) (q : List aW) : Bool := decide ((0 < q.length ∧ q.length ≤ 12) ∧ (jS q 0).fEl = f.fEl ∧ (jS q 0).fIn = f.fSide) && y5 l q
def yH (l : aB) (f : cG) (q : List aW) : Bool := bQr l f q && decide (wU l q q.length = (eW l q).length)
theorem aEk (l : aB) (q : List aW) : (eW l q).length ≤ q.length := by have := aAf l q q.length; rwa [List.take_length] at this
set_option maxRecDepth 20000 in
set_option maxHeartbeats 8000000 in
theorem aAb (O : aS) (l : aB) (q : List aW) (hl : eK l) (hq : q.length ≤ 100) : aY Tryz.prog O 57 [.agg (aK l), b8 q] (vb (y5 l q)) := by
 have hl1 := hl.sec
 have hl2 := hl.el
 have hl3 := hl.jo
 have hl4 := hl.sg
 have hl5 := hl.bl
 refine aU 0 rfl (.agg (d := j9 l.fElements) (by simp [aK]) (.sl _ _ _)) fun he => ?_
 refine aU 1 rfl (.sl _ _ _) fun hql => ?_
 refine eE Tryz.func57 ?_
 refine aC [0, 1] ?_
 refine aA fun K1 hK1 => ?_
 refine aC [1, 2] ?_
 refine aV (fun c0 => ?_) fun c0 => ?_
 ·refine aC [] ?_
  refine aM ?_
  refine cW 4 ?_
  refine xb ?_
  ((symm; exact bQi (by omega)))
 refine aJ ?_
 refine hK1 _ ?_; clear hK1
 refine aA fun K4 hK4 => ?_
 refine aC [1, 2] ?_
 refine aL ?_
 refine aZ [1, 2, 5] (fun n ρ => ∃ i, n = q.length - i ∧ (i ≤ q.length) ∧ (oO (oG l q) i) ∧ ρ = dU O [(1, b8 q), (2, .bx (aK l)), (5, vi (i : Nat))]) _ ⟨0, rfl, ?_, ?_, ?_⟩ ?_
 ·exact bI
 ·exact l4 _
 ·exact dC
 rintro n ρ ⟨i, rfl, l0_0, l0_1, rfl⟩ K6 hK6
 have hcast : ((i : Int) - 1).toNat = i - 1 := by omega
 refine aA fun K7 hK7 => ?_
 refine aA fun K8 hK8 => ?_
 refine aX [1, 2, 5] (by kernel_rfl) ?_
 simp (disch := omega) only [go_sem, seval, hcast]
 repeat refine And.intro bS ?_
 refine hK8 _ ?_; clear hK8
 refine aV (fun c1 => ?_) fun c1 => ?_
 ·refine aJ ?_
  refine hK7 _ ?_; clear hK7
  refine aA fun K9 hK9 => ?_
  refine aL ?_
  refine aA fun K10 hK10 => ?_
  refine eV [1, 2, 5] [] fH (by kernel_rfl) ?_
  simp (disch := omega) only [go_sem, seval, hcast]
  repeat refine And.intro bS ?_
  refine dJ (aAm _ l (q.getD i default) hl) ?_ ?_
  ·rfl
  try simp (disch := omega) only [go_sem, seval, hcast]
  repeat refine And.intro bS ?_
  refine hK10 _ ?_; clear hK10
  refine aA fun K11 hK11 => ?_
  refine aA fun K12 hK12 => ?_
  refine aX [1, 2, 5, 7] (by kernel_rfl) ?_
  simp (disch := omega) only [go_sem, seval, hcast]
  repeat refine And.intro bS ?_
  refine hK12 _ ?_; clear hK12
  refine aV (fun c2 => ?_) fun c2 => ?_
  ·refine aA fun K13 hK13 => ?_
   refine aX [] (by kernel_rfl) ?_
   simp (disch := omega) only [go_sem, seval, hcast]
   repeat refine And.intro bS ?_
   refine hK13 _ ?_; clear hK13
   refine aM ?_
   refine cK 4 rfl (by simp (disch := omega) only [go_sem, seval, hcast]) ?_
   exact dE.is (by simp (disch := omega) only [go_sem, seval, hcast] <;> refine congrArg vb ?_ <;> ((symm; exact aWq c1 (bJk (by simpa using c2))))) rfl rfl
  refine aJ ?_
  refine hK11 _ ?_; clear hK11
  refine aEg [1, 2, 5] (fun ρ => (yA l q i = true) ∧ ρ = dU O [(1, b8 q), (2, .bx (aK l)), (5, vi (i : Nat))]) (fun K14 hK14 => ?_) ?_
  ·skip
   refine aA fun K15 hK15 => ?_
   refine aX [1, 2, 5] (by kernel_rfl) ?_
   simp (disch := omega) only [go_sem, seval, hcast]
   repeat refine And.intro bS ?_
   refine hK15 _ ?_; clear hK15
   refine aV (fun c3 => ?_) fun c3 => ?_
   ·refine aA fun K16 hK16 => ?_
    refine cH (Le.keepC [1, 2, 5] _) ?_
    refine xP [1, 2, 5, 39, 40, 41, 42, 43, 44, 45, 38, 46, 47, 9, 8] [] [] [[], [], [], [2], [1, 2, 3], [1, 2, 3, 4], [0, 1, 2, 3, 4, 5], [0, 1, 2, 3, 4, 5, 6], [0, 1, 2, 3, 4, 5, 6, 7], [0, 1, 2, 3, 4, 5, 6, 7], [], [0, 1, 2, 3, 4, 5, 6, 7, 8, 10], [0, 1, 2, 3, 4, 5, 6, 7, 8, 9, 10, 11]] [[11], [11], [11], [11], [11], [11], [11], [11], [11], [], [11], [], []] (fun bQ => dU O [(1, b8 q), (2, .bx (aK l)), (5, vi (i : Nat)), (39, bJ (bQ 0) (.agg (aK l))), (40, bJ (bQ 1) (b8 q)), (41, bJ (bQ 2) (vi (i : Nat))), (42, bJ (bQ 3) (vi ((i : Int) - 1))), (43, bJ (bQ 4) (.dp (bO (q.getD (i - 1) default)))), (44, bJ (bQ 5) (.agg (bO (q.getD (i - 1) default)))), (45, bJ (bQ 6) (.tup [.agg (cE (bG l (q.getD (i - 1) default)).1), vb (bG l (q.getD (i - 1) default)).2])), (38, bJ (bQ 7) (.tup [.agg (cE (bG l (q.getD (i - 1) default)).1), vb (bG l (q.getD (i - 1) default)).2])), (46, bJ (bQ 8) (.agg (cE (bG l (q.getD (i - 1) default)).1))), (47, bJ (bQ 9) (vb (bG l (q.getD (i - 1) default)).2)), (9, bJ (bQ 12) (vb (bG l (q.getD (i - 1) default)).2)), (8, pD (bQ 11) (bQ 10) (.bx (cE (bG l (q.getD (i - 1) default)).1)) (.bx [vi 0, vi 0]))]) fH (by kernel_rfl) (by kernel_rfl) ?_ (fun iQ oQ hoQ bQ hbQ KQ hKQ => ?_) ?_
    ·simp (disch := omega) only [go_sem, seval, hcast] <;> first | rfl | simp
    ·have hiQ : iQ < 13 := (List.getElem?_eq_some_iff.1 hoQ).1
     match iQ, hiQ with
     | 0, _ | 1, _ | 2, _ | 3, _ | 4, _ | 5, _ | 7, _ | 8, _ | 9, _ | 10, _ | 11, _ | 12, _ =>
      obtain rfl := Option.some.inj hoQ
      simp only [sO, j0, j8, List.getD_cons_succ, List.getD_cons_zero, List.getD_nil, and_true, true_and] at hbQ
      show qY _ _ _ false _ _
      simp (disch := omega) only [go_sem, seval, hcast, hbQ]
      repeat refine And.intro bS ?_
      refine hKQ _ ?_
      simp (disch := omega) only [go_sem, seval, hcast, hbQ] <;> first | rfl | simp
     | 6, _ =>
      obtain rfl := Option.some.inj hoQ
      simp only [sO, j0, j8, List.getD_cons_succ, List.getD_cons_zero, List.getD_nil, and_true, true_and] at hbQ
      show qY _ _ _ false _ _
      simp (disch := omega) only [go_sem, seval, hcast, hbQ]
      repeat refine And.intro bS ?_
      refine dJ (rL _ l (q.getD (i - 1) default)) ?_ ?_
      ·rfl
      try simp (disch := omega) only [go_sem, seval, hcast, hbQ]
      repeat refine And.intro bS ?_
      refine hKQ _ ?_
      simp (disch := omega) only [go_sem, seval, hcast, hbQ] <;> first | rfl | simp
    simp (disch := omega) only [go_sem, seval, hcast]
    repeat refine And.intro bS ?_
    refine hK16 _ ?_; clear hK16
    refine aA fun K17 hK17 => ?_
    refine eV [1, 2, 5, 8, 9] [] fH (by kernel_rfl) ?_
    simp (disch := omega) only [go_sem, seval, hcast]
    repeat refine And.intro bS ?_
    refine hK17 _ ?_; clear hK17
    refine aV (fun c4 => ?_) fun c4 => ?_
    ·refine aA fun K18 hK18 => ?_
     refine aX [] (by kernel_rfl) ?_
     simp (disch := omega) only [go_sem, seval, hcast]
     repeat refine And.intro bS ?_
     refine hK18 _ ?_; clear hK18
     refine aM ?_
     refine cK 4 rfl (by simp (disch := omega) only [go_sem, seval, hcast]) ?_
     exact dE.is (by simp (disch := omega) only [go_sem, seval, hcast] <;> refine congrArg vb ?_ <;> ((symm; exact aWq c1 (bHo (by omega) (by simpa using c4))))) rfl rfl
    refine aJ ?_
    refine hK14 _ ⟨?_, ?_⟩
    ·exact aWg (by simpa using c2) (fun _ => by simpa using c4)
    simp (disch := omega) only [go_sem, seval, hcast] <;> first | rfl | omega | simp | simp_all
   refine aJ ?_
   refine hK14 _ ⟨?_, ?_⟩
   ·exact aWg (by simpa using c2) (fun h => by omega)
   simp (disch := omega) only [go_sem, seval, hcast] <;> first | rfl | omega | simp | simp_all
  rintro ρ ⟨j13_0, rfl⟩
  refine aA fun K19 hK19 => ?_
  refine aX [1, 2, 5] (by kernel_rfl) ?_
  simp (disch := omega) only [go_sem, seval, hcast]
  repeat refine And.intro bS ?_
  refine hK19 _ ?_; clear hK19
  refine aL ?_
  refine aZ [1, 2, 5, 10] (fun n ρ => ∃ k, n = i - k ∧ (k ≤ i) ∧ (oO (neN q i) k) ∧ ρ = dU O [(1, b8 q), (2, .bx (aK l)), (5, vi (i : Nat)), (10, vi (k : Nat))]) _ ⟨0, rfl, ?_, ?_, ?_⟩ ?_
  ·exact bI
  ·exact l4 _
  ·simp (disch := omega) only [go_sem, seval, hcast] <;> first | rfl | omega | simp | simp_all
  rintro n ρ ⟨k, rfl, l1_0, l1_1, rfl⟩ K20 hK20
  refine aA fun K21 hK21 => ?_
  refine aA fun K22 hK22 => ?_
  refine aX [1, 2, 5, 10] (by kernel_rfl) ?_
  simp (disch := omega) only [go_sem, seval, hcast]
  repeat refine And.intro bS ?_
  refine hK22 _ ?_; clear hK22
  refine aV (fun c5 => ?_) fun c5 => ?_
  ·refine aJ ?_
   refine hK21 _ ?_; clear hK21
   refine aA fun K23 hK23 => ?_
   refine aL ?_
   refine aA fun K24 hK24 => ?_
   refine eV [1, 2, 5, 10] [] fH (by kernel_rfl) ?_
   simp (disch := omega) only [go_sem, seval, hcast]
   repeat refine And.intro bS ?_
   refine hK24 _ ?_; clear hK24
   refine aV (fun c6 => ?_) fun c6 => ?_
   ·refine aA fun K25 hK25 => ?_
    refine aX [] (by kernel_rfl) ?_
    simp (disch := omega) only [go_sem, seval, hcast]
    repeat refine And.intro bS ?_
    refine hK25 _ ?_; clear hK25
    refine aM ?_
    refine cK 4 rfl (by simp (disch := omega) only [go_sem, seval, hcast]) ?_
    exact dE.is (by simp (disch := omega) only [go_sem, seval, hcast] <;> refine congrArg vb ?_ <;> ((symm; exact aWq c1 (by unfold oG; rw [rA (f := neN q i) (i := k) (by omega) (by unfold neN; exact decide_eq_false (by simpa using c6)), Bool.and_false])))) rfl rfl
   refine aJ ?_
   refine hK23 _ ?_; clear hK23
   refine aX [1, 2, 5, 10] (by kernel_rfl) ?_
   simp (disch := omega) only [go_sem, seval, hcast]
   repeat refine And.intro bS ?_
   refine hK20 _ _ ?_ ⟨k + 1, rfl, ?_, ?_, ?_⟩
   ·exact bI
   ·exact bI
   ·exact mG l1_1 (by unfold neN; exact decide_eq_true (by simpa using c6))
   simp (disch := omega) only [go_sem, seval, hcast] <;> first | rfl | omega | simp | simp_all
  refine bA ?_
  refine hK9 _ ?_; clear hK9
  refine aX [1, 2, 5] (by kernel_rfl) ?_
  simp (disch := omega) only [go_sem, seval, hcast]
  repeat refine And.intro bS ?_
  refine hK6 _ _ ?_ ⟨i + 1, rfl, ?_, ?_, ?_⟩
  ·exact bI
  ·exact bI
  ·exact mG l0_1 (by unfold oG; rw [j13_0, uO l1_1 (by omega)]; rfl)
  simp (disch := omega) only [go_sem, seval, hcast] <;> first | rfl | omega | simp | simp_all
 refine bA ?_
 refine hK4 _ ?_; clear hK4
 refine aA fun K26 hK26 => ?_
 refine aX [] (by kernel_rfl) ?_
 simp (disch := omega) only [go_sem, seval, hcast]
 repeat refine And.intro bS ?_
 refine hK26 _ ?_; clear hK26
 refine aM ?_
 refine cK 4 rfl (by simp (disch := omega) only [go_sem, seval, hcast]) ?_
 exact dE.is (by simp (disch := omega) only [go_sem, seval, hcast] <;> refine congrArg vb ?_ <;> ((symm; exact bQj (by omega) l0_0 (by omega) l0_1))) rfl rfl
end Go.Sg
namespace Go.Sg
open Go.Proofs
theorem bMi {q : List aN} {i : Nat} (h : i < q.length) : (q.map a7).getD i [] = a7 (q.getD i default) := by
 rw [List.getD_eq_getElem?_getD (l := q.map a7), List.getElem?_map, List.getElem?_eq_getElem h, List.getD_eq_getElem?_getD (l := q), List.getElem?_eq_getElem h]; rfl
def aGo (q : List aN) : Prop := ∀ i, 0 < i → i < q.length → q.getD i default ≠ q.getD (i - 1) default
theorem aGo.off {q : List aN} (h : aGo q) {i : Nat} (h0 : 0 < i) (hi : i < q.length) {P : Prop} (he : (q.getD i default).fEl = (q.getD (i - 1) default).fEl ∧ (q.getD i default).fPos = (q.getD (i - 1) default).fPos) : P :=
 absurd ((fQ _ _).2 he) (h i h0 hi)
section
attribute [local go_sem] bMi List.length_map Nat.mul_one Nat.add_zero ite_self
set_option maxHeartbeats 4000000 in
theorem iO (O : aS) (q : List aN) (s : Nat) (hO : O s = .row 68 2 (q.map a7)) (hb : q.length ≤ 1000) (hn : aGo q) : aY Tryz.prog O 81 [.own s q.length] (.own s q.length) := by
 have hx : bT O (s + 100000) = .row 68 2 (q.map a7) := by rw [bW, hO]; rfl
 refine eE Tryz.func81 ?_
 refine aA fun K0 hK0 => ?_
 refine aX [0] (by kernel_rfl) ?_
 simp (disch := omega) only [go_sem, seval, hx]
 repeat refine And.intro bS ?_
 refine hK0 _ ?_; clear hK0
 refine aA fun K1 hK1 => ?_
 refine aA fun K2 hK2 => ?_
 refine aX [0] (by kernel_rfl) ?_
 simp (disch := omega) only [go_sem, seval, hx]
 repeat refine And.intro bS ?_
 refine hK2 _ ?_; clear hK2
 refine aV (fun c0 => ?_) fun c0 => ?_
 ·refine aA fun K3 hK3 => ?_
  refine aX [0] (by kernel_rfl) ?_
  simp (disch := omega) only [go_sem, seval, hx]
  repeat refine And.intro bS ?_
  refine hK3 _ ?_; clear hK3
  refine aM ?_
  refine cK 2 rfl (by simp (disch := omega) only [go_sem, seval, hx]) ?_
  exact dE.pure _ (by simp (disch := omega) only [go_sem, seval, seval] <;> rfl) (by simp (disch := omega) only [go_sem, seval, seval] <;> exact dI.refl _) rfl
 refine aJ ?_
 refine hK1 _ ?_; clear hK1
 refine aA fun K4 hK4 => ?_
 refine aA fun K5 hK5 => ?_
 refine aX [0] (by kernel_rfl) ?_
 simp (disch := omega) only [go_sem, seval, hx]
 repeat refine And.intro bS ?_
 refine hK5 _ ?_; clear hK5
 refine aL ?_
 refine aZ [0, 3] (fun n ρ => ∃ k, n = q.length - k ∧ (k ≤ q.length) ∧ (1 ≤ k) ∧ ρ = dU O [(0, .own (s + 100000) q.length), (3, vi (k : Nat))]) _ ⟨1, rfl, ?_, ?_, ?_⟩ ?_
 ·exact bI
 ·exact bI
 ·simp (disch := omega) only [go_sem, seval, hx] <;> first | rfl | omega | simp | simp_all
 rintro n ρ ⟨k, rfl, l0_0, l0_1, rfl⟩ K6 hK6
 have hcast : ((k : Int) - 1).toNat = k - 1 := by omega
 refine aA fun K7 hK7 => ?_
 refine aA fun K8 hK8 => ?_
 refine aX [0, 3] (by kernel_rfl) ?_
 simp (disch := omega) only [go_sem, seval, hx]
 repeat refine And.intro bS ?_
 refine hK8 _ ?_; clear hK8
 refine aV (fun c1 => ?_) fun c1 => ?_
 ·refine aJ ?_
  refine hK7 _ ?_; clear hK7
  refine aA fun K9 hK9 => ?_
  refine aL ?_
  refine aA fun K10 hK10 => ?_
  refine eV [0, 3] [] fH (by kernel_rfl) ?_
  simp (disch := omega) only [go_sem, seval, hx]
  repeat refine And.intro bS ?_
  refine hK10 _ ?_; clear hK10
  refine aV (fun c2 => ?_) fun c2 => ?_
  ·exact hn.off (by omega) c1 (by simpa using c2)
  refine aJ ?_
  refine hK9 _ ?_; clear hK9
  refine aX [0, 3] (by kernel_rfl) ?_
  simp (disch := omega) only [go_sem, seval, hx]
  repeat refine And.intro bS ?_
  refine hK6 _ _ ?_ ⟨k + 1, rfl, ?_, ?_, ?_⟩
  ·exact bI
  ·exact bI
  ·exact bI
  simp (disch := omega) only [go_sem, seval, hx] <;> first | rfl | omega | simp | simp_all
 refine bA ?_
 refine hK4 _ ?_; clear hK4
 refine aA fun K11 hK11 => ?_
 refine aX [0] (by kernel_rfl) ?_
 simp (disch := omega) only [go_sem, seval, hx]
 repeat refine And.intro bS ?_
 refine hK11 _ ?_; clear hK11
 refine aM ?_
 refine cK 2 rfl (by simp (disch := omega) only [go_sem, seval, hx]) ?_
 exact dE.pure _ (by simp (disch := omega) only [go_sem, seval, seval] <;> rfl) (by simp (disch := omega) only [go_sem, seval, seval] <;> exact dI.refl _) rfl
end
end Go.Sg
namespace Go.Sg
open Go.RowKit
theorem yT (z : Array Value) (n : Nat) : (Builtin.zeroCells z n).size = n * z.size := by simp [Builtin.zeroCells]
theorem rW {P : Program} {ρ : Go.Shelf.Ren} (L : Go.Proofs.Lays8.n4 P ρ) {e z by_ : Nat} {t : TypeId} {zs : List Value} (ht : ρ.t 22 = t) (he : ρ.t 25 = e) (hsl : kH P t = some (e, z, by_)) (hz : eM P e = some zs) (hz0 : 0 < z) (hzl : zs.length = z) {f : FuncId} (hf : ρ.f 4 = f) (O : aS) (n : Nat) (hn : 0 < n) (hb : n * by_ ≤ 140737488355328) (hb2 : n ≤ 4611686018427387904) :
  aY P O f [.v (.slice none 0 0), .v (.int .i64 n)] (.row e z []) := by
 obtain ⟨hu, i, hi, rfl, rfl⟩ := h9 hsl
 obtain ⟨i', zv, hi', hzv, rfl, hone⟩ := iI hz
 rw [hi] at hi'
 cases hi'
 subst ht; subst he; subst hf
 intro w I A vals hO hl hv
 obtain ⟨v0, v1, rfl⟩ : ∃ v0 v1, vals = #[v0, v1] := by
  obtain ⟨l⟩ := vals
  match l, hl with
  | [a, b], _ => exact ⟨a, b, rfl⟩
 have h0 := hv 0 _ _ rfl rfl
 have h1 := hv 1 _ _ rfl rfl
 cases h0
 cases h1
 have hG := grownCap_ge w (0 + n) 0 (ρ.t 25)
 have hGm := grownCap_le_maxLen w (0 + n) 0 (ρ.t 25) (by unfold maxLen; omega)
 have := Go.Proofs.Any8.slices_Grow_grow L i zv hi hzv hz0 none 0 0 n [] w (by omega) (by omega) (by simpa using hb) (by omega) (by simp) (fun _ => rfl) (by simp)
 refine this.mono fun e' w' ⟨q1, q2⟩ => ?_
 subst q2
 have hgr : l1 w I (w.drew.alloc (.cells ((#[] : Array Value) ++ Builtin.zeroCells zv.cells (0 + n - 0) ++ Builtin.zeroCells zv.cells (grownCap w (0 + n) 0 (ρ.t 25) - (0 + n))) (ρ.t 25))) I :=
  ⟨rfl, ⟨rfl, Nat.le_succ _⟩, rfl, by simp, fun g hg => (Below.heap_alloc w.drew _ g hg).trans rfl, fun _ h => h, fun _ h => .inl h⟩
 refine ⟨_, I, O, .row (ρ.t 25) i.size [], q1, hgr.osim hO, fun _ => dW.refl _, fun _ h => h, hgr.ext hO, ?_, rfl, rfl⟩
 refine ⟨some w.heap.size, grownCap w (0 + n) 0 (ρ.t 25), ⟨_, qJ _, rfl⟩, ?_, fun g hg => ?_⟩
 ·refine ⟨_, Array.getElem?_push_size (xs := w.drew.heap), ?_, hGm, Nat.zero_le _, fun j x hx => by simp at hx⟩
  simp only [Array.size_append, yT]
  have hzs : zv.cells.size = i.size := by simpa using hzl
  rw [hzs]
  have : (0 + n - 0) * i.size + (grownCap w (0 + n) 0 (ρ.t 25) - (0 + n)) * i.size = grownCap w (0 + n) 0 (ρ.t 25) * i.size := by
   rw [← Nat.add_mul]; congr 1; omega
  simpa using this
 cases hg
 exact ⟨Nat.le_refl _, by simp, fun h => Nat.lt_irrefl _ (hO.imm _ h)⟩
theorem pH {P : Program} {ρ : Go.Shelf.Ren} (L : Go.Proofs.Lays8.n4 P ρ) {t : TypeId} (ht : ρ.t 22 = t) {f : FuncId} (hf : ρ.f 4 = f) (O : aS) (e z : Nat) :
  aY P O f [.v (.slice none 0 0), .v (.int .i64 (0 : Nat))] (.row e z []) := by
 subst ht; subst hf
 intro w I A vals hO hl hv
 obtain ⟨v0, v1, rfl⟩ : ∃ v0 v1, vals = #[v0, v1] := by
  obtain ⟨l⟩ := vals
  match l, hl with
  | [a, b], _ => exact ⟨a, b, rfl⟩
 have h0 := hv 0 _ _ rfl rfl
 have h1 := hv 1 _ _ rfl rfl
 cases h0
 cases h1
 refine (Go.Proofs.Any8.slices_Grow_room L none 0 0 0 w (by omega) (by omega) (by omega) (by omega)).mono fun e' w' ⟨q1, q2⟩ => ?_
 subst q2
 exact ⟨_, I, O, .row e z [], q1, hO, fun _ => dW.refl _, fun _ h => h, eA.refl _ _ _, ⟨none, 0, ⟨none, jO _, rfl⟩, ⟨rfl, rfl⟩, fun g hg => by cases hg⟩, rfl, rfl⟩
end Go.Sg
namespace Go.Proofs
open Go.Shelf
def Tryz.laysM171_ren : Go.Shelf.Ren := ⟨fun | 171 => 121 | 243 => 175 | 246 => 209 | 283 => 218 | 284 => 219 | 285 => 220 | 286 => 221 | 129 => 166 | 317 => 224 | 318 => 225 | 319 => 226 | 320 => 227 | 337 => 229 | 338 => 230 | n => n, fun | 3 => 3 | 9 => 9 | 2 => 2 | 4 => 4 | 171 => 221 | 0 => 0 | 53 => 172 | 37 => 206 | 5 => 5 | 173 => 223 | 212 => 227 | 51 => 170 | 20 => 20 | 213 => 228 | 46 => 131 | 232 => 230 | 233 => 231 | n => n, fun | 17 => 2 | 18 => 3 | 19 => 4 | n => n⟩
theorem Tryz.laysM171 : Go.Proofs.LaysM.n171 Tryz.prog Tryz.laysM171_ren := {
 mixed := by kernel_rfl
 f129 := Tryz.func166.trans (congrArg some (by kernel_rfl))
 f171 := Tryz.func121.trans (congrArg some (by kernel_rfl))
 f243 := Tryz.func175.trans (congrArg some (by kernel_rfl))
 f246 := Tryz.func209.trans (congrArg some (by kernel_rfl))
 f283 := Tryz.func218.trans (congrArg some (by kernel_rfl))
 f284 := Tryz.func219.trans (congrArg some (by kernel_rfl))
 f285 := Tryz.func220.trans (congrArg some (by kernel_rfl))
 f286 := Tryz.func221.trans (congrArg some (by kernel_rfl))
 f317 := Tryz.func224.trans (congrArg some (by kernel_rfl))
 f318 := Tryz.func225.trans (congrArg some (by kernel_rfl))
 f319 := Tryz.func226.trans (congrArg some (by kernel_rfl))
 f320 := Tryz.func227.trans (congrArg some (by kernel_rfl))
 f337 := Tryz.func229.trans (congrArg some (by kernel_rfl))
 f338 := Tryz.func230.trans (congrArg some (by kernel_rfl))
 t0 := Tryz.underlying0
 a0 := Tryz.isAgg0
 z0 := Tryz.sizeOf0
 v0 := Tryz.zeroValue0
 t2 := Tryz.underlying2
 a2 := Tryz.isAgg2
 z2 := Tryz.sizeOf2
 v2 := Tryz.zeroValue2
 t3 := Tryz.underlying3
 a3 := Tryz.isAgg3
 z3 := Tryz.sizeOf3
 v3 := Tryz.zeroValue3
 t4 := Tryz.underlying4
 a4 := Tryz.isAgg4
 z4 := Tryz.sizeOf4
 v4 := Tryz.zeroValue4
 t5 := Tryz.underlying5
 a5 := Tryz.isAgg5
 z5 := Tryz.sizeOf5
 v5 := Tryz.zeroValue5
 t9 := Tryz.underlying9
 a9 := Tryz.isAgg9
 z9 := Tryz.sizeOf9
 v9 := Tryz.zeroValue9
 t20 := Tryz.underlying20
 a20 := Tryz.isAgg20
 z20 := Tryz.sizeOf20
 v20 := Tryz.zeroValue20
 t37 := Tryz.underlying206
 a37 := Tryz.isAgg206
 z37 := Tryz.sizeOf206
 v37 := Tryz.zeroValue206
 t46 := Tryz.underlying131
 a46 := Tryz.isAgg131
 z46 := Tryz.sizeOf131
 v46 := Tryz.zeroValue131
 t51 := Tryz.underlying170
 a51 := Tryz.isAgg170
 z51 := Tryz.sizeOf170
 v51 := Tryz.zeroValue170
 t53 := Tryz.underlying172
 a53 := Tryz.isAgg172
 z53 := Tryz.sizeOf172
 v53 := Tryz.zeroValue172
 t171 := Tryz.underlying221
 a171 := Tryz.isAgg221
 z171 := Tryz.sizeOf221
 v171 := Tryz.zeroValue221
 t173 := Tryz.underlying223
 a173 := Tryz.isAgg223
 z173 := Tryz.sizeOf223
 v173 := Tryz.zeroValue223
 t212 := Tryz.underlying227
 a212 := Tryz.isAgg227
 z212 := Tryz.sizeOf227
 v212 := Tryz.zeroValue227
 t213 := Tryz.underlying228
 a213 := Tryz.isAgg228
 z213 := Tryz.sizeOf228
 t232 := Tryz.underlying230
 a232 := Tryz.isAgg230
 z232 := Tryz.sizeOf230
 v232 := Tryz.zeroValue230
 t233 := Tryz.underlying231
 a233 := Tryz.isAgg231
 z233 := Tryz.sizeOf231
 v233 := Tryz.zeroValue231
 g17 := by kernel_rfl
 g18 := by kernel_rfl
 g19 := by kernel_rfl
 i0 := by kernel_rfl
 i2 := by kernel_rfl
 i3 := by kernel_rfl
 i4 := by kernel_rfl
 i5 := by kernel_rfl
 i9 := by kernel_rfl
 i20 := by kernel_rfl
 i37 := by kernel_rfl
 i46 := by kernel_rfl
 i51 := by kernel_rfl
 i53 := by kernel_rfl
 i171 := by kernel_rfl
 i173 := by kernel_rfl
 i212 := by kernel_rfl
 i232 := by kernel_rfl
 i233 := by kernel_rfl
 m17 := by kernel_rfl
 m18 := by kernel_rfl
 m19 := by kernel_rfl }
open Go.RowKit Go.Sort Go.Lib in
theorem Tryz.strconv_Itoa (n : Int) (h0 : -9223372036854775808 ≤ n) (h1 : n ≤ 9223372036854775807) (w : World) (htab : Lib.TabIs Tryz.prog w "internal/strconv.uint64pow10" .u64 Lib.pow10Tab) :
  Calls Tryz.prog 121 #[.int .i64 n] w fun e w' => e = .returned (.string ⟨(Lib.itoa n).toArray⟩) ∧ ∃ k os, w' = grow (w.drewN k) os := Any.strconv_Itoa Tryz.laysM171 n h0 h1 w htab
def Tryz.lays189_ren : Go.Shelf.Ren := ⟨fun | 189 => 82 | 125 => 106 | 257 => 127 | 128 => 165 | 129 => 166 | 294 => 179 | 295 => 180 | 296 => 181 | 297 => 182 | 298 => 183 | 299 => 184 | 216 => 185 | 300 => 186 | 301 => 187 | 328 => 212 | 329 => 205 | 330 => 206 | 331 => 213 | 332 => 214 | 215 => 107 | 343 => 223 | n => n, fun | 28 => 32 | 3 => 3 | 46 => 131 | 0 => 0 | 51 => 170 | 53 => 172 | 4 => 4 | 183 => 164 | 182 => 163 | 131 => 125 | 5 => 5 | 9 => 9 | 218 => 208 | 222 => 212 | 228 => 218 | 229 => 219 | n => n, fun | n => n⟩
theorem Tryz.lays189 : Go.Proofs.Lays.n189 Tryz.prog Tryz.lays189_ren := {
 mixed := by kernel_rfl
 f125 := Tryz.func106.trans (congrArg some (by kernel_rfl))
 f128 := Tryz.func165.trans (congrArg some (by kernel_rfl))
 f129 := Tryz.func166.trans (congrArg some (by kernel_rfl))
 f189 := Tryz.func82.trans (congrArg some (by kernel_rfl))
 f215 := Tryz.func107.trans (congrArg some (by kernel_rfl))
 f216 := Tryz.func185.trans (congrArg some (by kernel_rfl))
 f257 := Tryz.func127.trans (congrArg some (by kernel_rfl))
 f294 := Tryz.func179.trans (congrArg some (by kernel_rfl))
 f295 := Tryz.func180.trans (congrArg some (by kernel_rfl))
 f296 := Tryz.func181.trans (congrArg some (by kernel_rfl))
 f297 := Tryz.func182.trans (congrArg some (by kernel_rfl))
 f298 := Tryz.func183.trans (congrArg some (by kernel_rfl))
 f299 := Tryz.func184.trans (congrArg some (by kernel_rfl))
 f300 := Tryz.func186.trans (congrArg some (by kernel_rfl))
 f301 := Tryz.func187.trans (congrArg some (by kernel_rfl))
 f328 := Tryz.func212.trans (congrArg some (by kernel_rfl))
 f329 := Tryz.func205.trans (congrArg some (by kernel_rfl))
 f330 := Tryz.func206.trans (congrArg some (by kernel_rfl))
 f331 := Tryz.func213.trans (congrArg some (by kernel_rfl))
 f332 := Tryz.func214.trans (congrArg some (by kernel_rfl))
 f343 := Tryz.func223.trans (congrArg some (by kernel_rfl))
 t0 := Tryz.underlying0
 a0 := Tryz.isAgg0
 z0 := Tryz.sizeOf0
 v0 := Tryz.zeroValue0
 t3 := Tryz.underlying3
 a3 := Tryz.isAgg3
 z3 := Tryz.sizeOf3
 v3 := Tryz.zeroValue3
 t4 := Tryz.underlying4
 a4 := Tryz.isAgg4
 z4 := Tryz.sizeOf4
 v4 := Tryz.zeroValue4
 t5 := Tryz.underlying5
 a5 := Tryz.isAgg5
 z5 := Tryz.sizeOf5
 v5 := Tryz.zeroValue5
 t9 := Tryz.underlying9
 a9 := Tryz.isAgg9
 z9 := Tryz.sizeOf9
 v9 := Tryz.zeroValue9
 t28 := Tryz.underlying32
 a28 := Tryz.isAgg32
 z28 := Tryz.sizeOf32
 v28 := Tryz.zeroValue32
 t46 := Tryz.underlying131
 a46 := Tryz.isAgg131
 z46 := Tryz.sizeOf131
 v46 := Tryz.zeroValue131
 t51 := Tryz.underlying170
 a51 := Tryz.isAgg170
 z51 := Tryz.sizeOf170
 v51 := Tryz.zeroValue170
 t53 := Tryz.underlying172
 a53 := Tryz.isAgg172
 z53 := Tryz.sizeOf172
 v53 := Tryz.zeroValue172
 t131 := Tryz.underlying125
 a131 := Tryz.isAgg125
 z131 := Tryz.sizeOf125
 v131 := Tryz.zeroValue125
 t182 := Tryz.underlying163
 a182 := Tryz.isAgg163
 z182 := Tryz.sizeOf163
 v182 := Tryz.zeroValue163
 t183 := Tryz.underlying164
 a183 := Tryz.isAgg164
 z183 := Tryz.sizeOf164
 v183 := Tryz.zeroValue164
 t218 := Tryz.underlying208
 a218 := Tryz.isAgg208
 z218 := Tryz.sizeOf208
 v218 := Tryz.zeroValue208
 t222 := Tryz.underlying212
 a222 := Tryz.isAgg212
 z222 := Tryz.sizeOf212
 v222 := Tryz.zeroValue212
 t228 := Tryz.underlying218
 a228 := Tryz.isAgg218
 z228 := Tryz.sizeOf218
 v228 := Tryz.zeroValue218
 t229 := Tryz.underlying219
 a229 := Tryz.isAgg219
 z229 := Tryz.sizeOf219
 v229 := Tryz.zeroValue219 }
open Go.Sort Go.RowKit in
theorem Tryz.slices_Sort_int (blk off cap : Nat) (zs : List Int) (w : World) (hH : Holds (Value.int .i64) w blk off zs.toArray) (hblk : blk < w.heap.size) (hsz : zs.length < 4611686018427387904) :
  Calls Tryz.prog 82 #[.slice (some ⟨blk, off, none⟩) zs.length cap] w fun e w' =>
   e = .returned (.tuple #[]) ∧ ∃ n os, w' = grow (putRow (Value.int .i64) (Sort.ahead w n) blk off (zs.mergeSort fun x y => decide (x ≤ y)).toArray) os := Any.slices_Sort_int Tryz.lays189 blk off cap zs w hH hblk hsz
def Tryz.laysNm220_ren : Go.Shelf.Ren := ⟨fun | 20 => 83 | n => n, fun | 22 => 32 | 3 => 3 | 4 => 4 | 0 => 0 | n => n, fun | n => n⟩
theorem Tryz.laysNm220 : Go.Proofs.Lays2.n20 Tryz.prog Tryz.laysNm220_ren := {
 mixed := by kernel_rfl
 f20 := Tryz.func83.trans (congrArg some (by kernel_rfl))
 t0 := Tryz.underlying0
 a0 := Tryz.isAgg0
 z0 := Tryz.sizeOf0
 v0 := Tryz.zeroValue0
 t3 := Tryz.underlying3
 a3 := Tryz.isAgg3
 z3 := Tryz.sizeOf3
 v3 := Tryz.zeroValue3
 t4 := Tryz.underlying4
 a4 := Tryz.isAgg4
 z4 := Tryz.sizeOf4
 v4 := Tryz.zeroValue4
 t22 := Tryz.underlying32
 a22 := Tryz.isAgg32
 z22 := Tryz.sizeOf32
 v22 := Tryz.zeroValue32
 i3 := by kernel_rfl }
open Go.RowKit Go.Lib Go.Sort in
theorem Tryz.slices_Compact_int (blk off cap : Nat) (zs : List Int) (w : World) (hH : Holds (Value.int .i64) w blk off zs.toArray) (hsz : zs.length ≤ 9223372036854775807) (hcap : zs.length ≤ cap) :
  Calls Tryz.prog 83 #[.slice (some ⟨blk, off, none⟩) zs.length cap] w fun e w' => e = .returned (.slice (some ⟨blk, off, none⟩) (Lib.compact zs).length cap) ∧ ∃ q, w' = putRow (Value.int .i64) (Sort.ahead w q) blk off (Lib.compact zs ++ List.replicate (zs.length - (Lib.compact zs).length) 0).toArray := Any.slices_Compact_int Tryz.laysNm220 blk off cap zs w hH hsz hcap
open Go.RowKit Go.Lib Go.Sort in
theorem Tryz.slices_Compact_int_empty (a : Option Addr) (cap : Nat) (w : World) :
  Calls Tryz.prog 83 #[.slice a 0 cap] w fun e w' => e = .returned (.slice a 0 cap) ∧ w' = w := Any.slices_Compact_int_empty Tryz.laysNm220 a cap w
open Go.RowKit Go.Sort in
theorem Tryz.slices_Sort_int_none (p : Option Addr) (cap : Nat) (w : World) :
  Calls Tryz.prog 82 #[.slice p 0 cap] w fun e w' => e = .returned (.tuple #[]) ∧ w' = w := Any.slices_Sort_int_none Tryz.lays189 p cap w
end Go.Proofs
namespace Go.Sg
open Go.Proofs
abbrev yJ (ls : List (List Int)) : DV := encL 1 (fun l => [dL l]) ls
def mS (u : List Bool) : List DV := u.map vb
theorem aPa (u : List Bool) : (mS u).length = u.length := by simp [mS]
theorem aNw {u : List Bool} {k : Nat} (h : k < u.length) : (mS u).getD k .any = vb (u.getD k false) := by
 simp [mS, List.getD_eq_getElem?_getD, h]
theorem aXr {u : List Bool} {k : Nat} (h : u.length ≤ k) : (mS u).getD k .any = .any := by
 simp [mS, List.getD_eq_getElem?_getD, h]
theorem aOd {u : List Bool} {k : Nat} {b : Bool} : (mS u).set k (.v (.bool b)) = mS (u.set k b) := by
 unfold mS; rw [List.map_set]
theorem aOh {u : List Bool} {k : Nat} {b : Bool} (h : k < u.length) : spl k [.v (.bool b)] (mS u) = mS (u.set k b) := by
 rw [zL (by simp [mS]; omega)]
 unfold mS
 rw [List.map_set, List.set_eq_take_append_cons_drop, if_pos (by simpa using h)]
 simp
abbrev iN (l : List Int) (i : Nat) : Int := l.getD i default
def aEi (t : cP) (l : List Int) (i : Nat) : Bool := decide (0 ≤ iN l i ∧ iN l i < t.fSections) && (List.range i).all fun k => !(iN l k == iN l i)
def vO (t : cP) (l : List Int) : Bool := (List.range l.length).all (aEi t l)
def rtO (t : cP) (r : a8) : Bool := decide (0 ≤ r.fEntry ∧ r.fEntry < t.fSignals ∧ -1 ≤ r.fExit ∧ r.fExit < t.fSignals ∧ 1 ≤ r.fPath.length ∧ r.fPath.length ≤ 12 ∧ 1 ≤ r.fLength ∧ 0 < r.fSections.length ∧ 0 ≤ r.fApproach ∧ r.fApproach < t.fSections)
def rtB (t : cP) (r : a8) : Bool := rtO t r && vO t (r.fSections ++ r.fOverSections)
def usd (l : List Int) (u : List Bool) (i : Nat) : Prop := u.length = 24 ∧ ∀ j : Nat, j < 24 → (u.getD j false = true ↔ ∃ k, k < i ∧ iN l k = (j : Int))
theorem bTh (l : List Int) : usd l (List.replicate 24 false) 0 := ⟨rfl, fun j hj => by
 rw [List.getD_eq_getElem?_getD, List.getElem?_replicate, if_pos hj]
 exact ⟨fun h => by simp at h, fun ⟨k, hk, _⟩ => absurd hk (Nat.not_lt_zero _)⟩⟩
theorem bSn {l : List Int} {u : List Bool} {i : Nat} (h : usd l u i) (h1 : 0 ≤ iN l i) (h2 : iN l i < 24) : usd l (u.set (iN l i).toNat true) (i + 1) := ⟨by rw [List.length_set]; exact h.1, fun j hj => by
 have hl := h.1
 by_cases e : (iN l i).toNat = j
 ·subst e
  constructor
  ·intro _; exact ⟨i, by omega, by omega⟩
  intro _; rw [List.getD_eq_getElem?_getD, List.getElem?_set_self (by omega)]; rfl
 rw [List.getD_eq_getElem?_getD, List.getElem?_set_ne e, ← List.getD_eq_getElem?_getD, h.2 j hj]
 constructor
 ·rintro ⟨k, hk, hj'⟩; exact ⟨k, by omega, hj'⟩
 rintro ⟨k, hk, hj'⟩
 refine ⟨k, ?_, hj'⟩
 rcases Nat.lt_or_eq_of_le (Nat.le_of_lt_succ hk) with q | q
 ·exact q
 subst q; exact absurd (by omega) e⟩
theorem bTb {t : cP} {l : List Int} {u : List Bool} {i : Nat} (h : usd l u i) (h1 : 0 ≤ iN l i) (h2 : iN l i < 24) (hu : u.getD (iN l i).toNat false = true) : aEi t l i = false := by
 obtain ⟨k, hk, e⟩ := (h.2 _ (by omega)).1 hu
 unfold aEi
 rw [rA hk (by rw [Bool.not_eq_false', beq_iff_eq]; omega), Bool.and_false]
theorem bQv {t : cP} {l : List Int} {u : List Bool} {i : Nat} (h : usd l u i) (h1 : 0 ≤ iN l i) (h2 : iN l i < t.fSections) (h3 : iN l i < 24) (hu : u.getD (iN l i).toNat false = false) : aEi t l i = true := by
 unfold aEi
 rw [decide_eq_true ⟨h1, h2⟩, Bool.true_and, List.all_eq_true]
 intro k hk
 have hk := List.mem_range.1 hk
 rw [Bool.not_eq_true', beq_eq_false_iff_ne]
 intro e
 rw [(h.2 _ (by omega)).2 ⟨k, hk, by omega⟩] at hu
 cases hu
def aRa : Go.Shelf.Ren := ⟨fun | 4 => 155 | n => n, fun | 22 => 32 | 25 => 3 | n => n, fun | n => n⟩
theorem aCb : Go.Proofs.Lays8.n4 Tryz.prog aRa := {
 mixed := by kernel_rfl
 f4 := ⟨Tryz.f155.name, by decide, Tryz.func155.trans (congrArg some (by kernel_rfl))⟩
 t0 := Tryz.underlying0
 a0 := Tryz.isAgg0
 z0 := Tryz.sizeOf0
 v0 := Tryz.zeroValue0
 t3 := Tryz.underlying3
 a3 := Tryz.isAgg3
 z3 := Tryz.sizeOf3
 v3 := Tryz.zeroValue3
 t4 := Tryz.underlying4
 a4 := Tryz.isAgg4
 z4 := Tryz.sizeOf4
 v4 := Tryz.zeroValue4
 t9 := Tryz.underlying9
 a9 := Tryz.isAgg9
 z9 := Tryz.sizeOf9
 v9 := Tryz.zeroValue9
 t20 := Tryz.underlying20
 a20 := Tryz.isAgg20
 z20 := Tryz.sizeOf20
 v20 := Tryz.zeroValue20
 t22 := Tryz.underlying32
 a22 := Tryz.isAgg32
 z22 := Tryz.sizeOf32
 v22 := Tryz.zeroValue32 }
theorem rP (O : aS) (n : Nat) (hn : 0 < n) (hb : n ≤ 1000000) : aY Tryz.prog O 155 [.v (.slice none 0 0), vi n] (rowL 3 1 eI []) :=
 rW aCb rfl rfl (show kH Tryz.prog 32 = some (3, 1, 8) by kernel_rfl) (show eM Tryz.prog 3 = some [.int .i64 0] by kernel_rfl) (by decide) rfl rfl O n hn (by omega) (by omega)
theorem t8 (O : aS) (n : Nat) (hb : n ≤ 1000000) : aY Tryz.prog O 155 [.v (.slice none 0 0), vi n] (rowL 3 1 eI []) := by
 rcases Nat.eq_zero_or_pos n with h | h
 ·subst h; exact pH aCb rfl rfl O 3 1
 exact rP O n h hb
section
attribute [local go_sem] zI
theorem qS (O : aS) (ls : List (List Int)) (hb : ls.flatten.length ≤ 100000) : aY Tryz.prog O 100 [yJ ls] (rowL 3 1 eI ls.flatten) := by
 refine aU 0 rfl (.sl _ _ _) fun hl => ?_
 refine eE Tryz.func100 ?_
 refine aC [0] ?_
 refine aC [0] ?_
 refine aA fun K2 hK2 => ?_
 refine aC [0, 3] ?_
 refine aL ?_
 refine aZ [0, 3, 9, 10, 11] (fun n ρ => ∃ i, ∃ s, n = ls.length - i ∧ (i ≤ ls.length) ∧ (s + (ls.drop i).flatten.length = ls.flatten.length) ∧ ρ = dU O [(0, yJ ls), (3, vi (s : Nat)), (9, yJ ls), (10, vi (ls.length : Nat)), (11, vi (i : Nat))]) _ ⟨0, 0, rfl, ?_, ?_, ?_⟩ ?_
 ·exact bI
 ·simp
 ·exact dC
 rintro n ρ ⟨i, s, rfl, l0_0, l0_1, rfl⟩ K4 hK4
 refine aC [0, 3, 9, 10, 11] ?_
 refine aA fun K6 hK6 => ?_
 refine aV (fun c0 => ?_) fun c0 => ?_
 ·refine aJ ?_
  refine hK6 _ ?_; clear hK6
  refine aA fun K7 hK7 => ?_
  refine aL ?_
  refine aC [0, 3, 9, 10, 11] ?_
  refine aA fun K9 hK9 => ?_
  have hs : s + (ls.getD i default).length + (ls.drop (i + 1)).flatten.length = ls.flatten.length := by rw [← l0_1, bV default c0, List.flatten_cons, List.length_append]; omega
  refine bE [0, 3, 5, 9, 10, 11, 13] ?_
  refine hK9 _ ?_; clear hK9
  refine aC [0, 3, 9, 10, 11] ?_
  refine aV (fun c1 => ?_) fun c1 => ?_
  ·omega
  refine aJ ?_
  refine hK7 _ ?_; clear hK7
  refine bE [0, 3, 9, 10, 11] ?_
  refine hK4 _ _ ?_ ⟨i + 1, s + (ls.getD i default).length, rfl, ?_, ?_, ?_⟩
  ·exact bI
  ·exact bI
  ·exact hs
  exact dC
 refine bA ?_
 refine hK2 _ ?_; clear hK2
 refine aA fun K11 hK11 => ?_
 refine bL [0, 3] ?_
 refine eL (t8 _ s (by omega)) ?_
 refine hK11 _ ?_; clear hK11
 refine aA fun K12 hK12 => ?_
 refine aC [0, 6] ?_
 refine aL ?_
 refine aZ [6, 25, 26, 27] (fun n ρ => ∃ j, ∃ out, n = ls.length - j ∧ (j ≤ ls.length) ∧ (out ++ (ls.drop j).flatten = ls.flatten) ∧ ρ = dU O [(6, rowL 3 1 eI out), (25, yJ ls), (26, vi (ls.length : Nat)), (27, vi (j : Nat))]) _ ⟨0, [], rfl, ?_, ?_, ?_⟩ ?_
 ·exact bI
 ·rfl
 ·exact dC
 rintro n ρ ⟨j, out, rfl, l1_0, l1_1, rfl⟩ K14 hK14
 refine aC [0, 6, 25, 26, 27] ?_
 refine aA fun K16 hK16 => ?_
 refine aV (fun c2 => ?_) fun c2 => ?_
 ·refine aJ ?_
  refine hK16 _ ?_; clear hK16
  refine aA fun K17 hK17 => ?_
  refine aL ?_
  refine aC [0, 6, 25, 26, 27] ?_
  have hs : (out ++ ls.getD j default).length ≤ ls.flatten.length := by rw [← l1_1, bV default c2, List.flatten_cons, List.length_append, List.length_append, List.length_append]; omega
  rw [List.length_append] at hs
  refine bE [0, 6, 8, 25, 26, 27, 29] ?_
  refine hK17 _ ?_; clear hK17
  refine bE [0, 6, 25, 26, 27] ?_
  refine hK14 _ _ ?_ ⟨j + 1, out ++ ls.getD j default, rfl, ?_, ?_, ?_⟩
  ·exact bI
  ·exact bI
  ·rw [← l1_1, bV default c2, List.flatten_cons, List.append_assoc]
  exact dC
 refine bA ?_
 refine hK12 _ ?_; clear hK12
 refine aC [6] ?_
 refine aM ?_
 refine cW 2 ?_
 exact dE.ownL rfl (by omega) rfl rfl (by rw [← l1_1, eN c2]; simp)
end
theorem p9 (O : aS) (ls : List (List Int)) (hb : ls.flatten.length ≤ 100000) : aY Tryz.prog O 100 [yJ ls] (dL ls.flatten) := dG (qS O ls hb)
theorem bQa (O : aS) (a b : List Int) (hb : (a ++ b).length ≤ 100000) : aY Tryz.prog O 100 [yJ [a, b]] (dL (a ++ b)) := by
 have := p9 O [a, b] (by simpa using hb)
 simpa using this
theorem aTu (O : aS) {a n : Int} (h : 0 ≤ a ∧ a < n) : aY Tryz.prog O 44 [vi a, vi n] (vb true) := by
 have := dB O a n
 rwa [decide_eq_true h] at this
theorem aIl (O : aS) {a n : Int} (h : ¬ (0 ≤ a ∧ a < n)) : aY Tryz.prog O 44 [vi a, vi n] (vb false) := by
 have := dB O a n
 rwa [decide_eq_false h] at this
theorem bEx {t : cP} {r : a8} (h : rtO t r = false) : rtB t r = false := by rw [rtB, h]; rfl
theorem aVw {t : cP} {r : a8} (h : vO t (r.fSections ++ r.fOverSections) = false) : rtB t r = false := by rw [rtB, h, Bool.and_false]
section
attribute [local go_sem] aPa aNw aXr aOh aOd Nat.mul_one Bool.not_false Bool.not_true
theorem qX (O : aS) (t : cP) (r : a8) (hs : t.fSections ≤ 24) (hb : (r.fSections ++ r.fOverSections).length ≤ 100000) : aY Tryz.prog O 46 [.agg (dK t), .agg (bB r)] (vb (rtB t r)) := by
 refine aU 1 rfl (.agg (d := encL 3 bO r.fPath) (by simp [bB]) (.sl _ _ _)) fun hq => ?_
 refine aU 1 rfl (.agg (d := dL r.fSections) (by simp [bB]) (.sl _ _ _)) fun h5 => ?_
 refine eE Tryz.func46 ?_
 refine aC [0, 1] ?_
 refine aA fun K1 hK1 => ?_
 refine aA fun K2 hK2 => ?_
 refine bL [2, 3] ?_
 refine eL (dB _ r.fEntry t.fSignals) ?_
 refine lB (fun g0 => dB _ r.fExit t.fSignals) ?_
 refine hK2 _ ?_; clear hK2
 refine aV (fun c0 => ?_) fun c0 => ?_
 ·refine aC [] ?_
  refine aM ?_
  refine cW 4 ?_
  refine xb ?_
  (exact (bEx (t := t) (r := r) (decide_eq_false (by omega))).symm)
 refine aJ ?_
 refine hK1 _ ?_; clear hK1
 refine aA fun K4 hK4 => ?_
 refine aC [2, 3] ?_
 refine aV (fun c1 => ?_) fun c1 => ?_
 ·refine aC [] ?_
  refine aM ?_
  refine cW 4 ?_
  refine xb ?_
  (exact (bEx (t := t) (r := r) (decide_eq_false (by omega))).symm)
 refine aJ ?_
 refine hK4 _ ?_; clear hK4
 refine aC [2, 3] ?_
 refine aA fun K8 hK8 => ?_
 refine aA fun K9 hK9 => ?_
 refine bL [2, 3, 5] ?_
 refine eL (gG [yJ [r.fSections, r.fOverSections]] (.cons (dI.litL [r.fSections, r.fOverSections] rfl rfl) .nil) (bQa _ r.fSections r.fOverSections hb)) ?_
 refine hK9 _ ?_; clear hK9
 refine aL ?_
 refine aZ [2, 3, 5, 48, 49, 50] (fun n ρ => ∃ i, ∃ u, n = (r.fSections ++ r.fOverSections).length - i ∧ (i ≤ (r.fSections ++ r.fOverSections).length) ∧ (oO (aEi t (r.fSections ++ r.fOverSections)) i) ∧ (u.length = 24) ∧ (usd (r.fSections ++ r.fOverSections) u i) ∧ ρ = dU O [(2, .bx (dK t)), (3, .bx (bB r)), (5, .bx (mS u)), (48, dL (r.fSections ++ r.fOverSections)), (49, vi ((r.fSections ++ r.fOverSections).length : Nat)), (50, vi (i : Nat))]) _ ⟨0, List.replicate 24 false, rfl, ?_, ?_, ?_, ?_, ?_⟩ ?_
 ·exact bI
 ·exact l4 _
 ·rfl
 ·exact bTh _
 ·exact dC
 rintro n ρ ⟨i, u, rfl, l0_0, l0_1, l0_2, l0_3, rfl⟩ K10 hK10
 rcases (show (0 ≤ (r.fSections ++ r.fOverSections).getD i default ∧ (r.fSections ++ r.fOverSections).getD i default < t.fSections) ∨ (¬ (0 ≤ (r.fSections ++ r.fOverSections).getD i default ∧ (r.fSections ++ r.fOverSections).getD i default < t.fSections) ∧ ((r.fSections ++ r.fOverSections).getD i default).toNat < 24) ∨ (¬ (0 ≤ (r.fSections ++ r.fOverSections).getD i default ∧ (r.fSections ++ r.fOverSections).getD i default < t.fSections) ∧ 24 ≤ ((r.fSections ++ r.fOverSections).getD i default).toNat) by omega) with hw | ⟨hw, hx⟩ | ⟨hw, hx⟩
 ·skip
  refine aC [2, 3, 5, 48, 49, 50] ?_
  refine aA fun K12 hK12 => ?_
  refine aV (fun c2 => ?_) fun c2 => ?_
  ·refine aJ ?_
   refine hK12 _ ?_; clear hK12
   refine aA fun K13 hK13 => ?_
   refine aL ?_
   refine aC [2, 3, 5, 48, 49, 50] ?_
   refine aA fun K15 hK15 => ?_
   refine aA fun K16 hK16 => ?_
   refine bL [2, 3, 5, 7, 48, 49, 50] ?_
   refine eL (aTu _ hw) ?_
   refine hK16 _ ?_; clear hK16
   refine aV (fun c3 => ?_) fun c3 => ?_
   ·refine aC [] ?_
    refine aM ?_
    refine cW 4 ?_
    refine xb ?_
    (have h24 : iN (r.fSections ++ r.fOverSections) i < 24 := (by show (r.fSections ++ r.fOverSections).getD i default < 24; omega); exact (aVw (rA c2 (bTb l0_3 hw.1 h24 (by simpa only [Nat.mul_one, Bool.false_eq_true, false_or] using c3)))).symm)
   refine aJ ?_
   refine hK15 _ ?_; clear hK15
   refine bE [2, 3, 5, 7, 48, 49, 50] ?_
   refine hK13 _ ?_; clear hK13
   refine bL [2, 3, 5, 48, 49, 50] ?_
   have h24 : iN (r.fSections ++ r.fOverSections) i < 24 := (by show (r.fSections ++ r.fOverSections).getD i default < 24; omega)
   have hu : u.getD (iN (r.fSections ++ r.fOverSections) i).toNat false = false := by simpa only [Nat.mul_one, true_and] using c3
   refine hK10 _ _ ?_ ⟨i + 1, u.set (iN (r.fSections ++ r.fOverSections) i).toNat true, rfl, ?_, ?_, ?_, ?_, ?_⟩
   ·exact bI
   ·exact bI
   ·exact mG l0_1 (bQv l0_3 hw.1 hw.2 h24 hu)
   ·rw [List.length_set]; exact l0_2
   ·exact bSn l0_3 hw.1 h24
   exact dC
  refine bA ?_
  refine hK8 _ ?_; clear hK8
  refine aA fun K18 hK18 => ?_
  refine bL [2, 3] ?_
  refine eL (dB _ r.fApproach t.fSections) ?_
  refine hK18 _ ?_; clear hK18
  refine aM ?_
  refine cW 4 ?_
  refine xb ?_
  (rw [rtB, show vO t (r.fSections ++ r.fOverSections) = true from uO l0_1 (by omega), Bool.and_true, Bool.eq_iff_iff]; simp [rtO]; omega)
 ·skip
  refine aC [2, 3, 5, 48, 49, 50] ?_
  refine aA fun K20 hK20 => ?_
  refine aV (fun c4 => ?_) fun c4 => ?_
  ·refine aJ ?_
   refine hK20 _ ?_; clear hK20
   refine aA fun K21 hK21 => ?_
   refine aL ?_
   refine aC [2, 3, 5, 48, 49, 50] ?_
   refine aA fun K23 hK23 => ?_
   refine aA fun K24 hK24 => ?_
   refine bL [2, 3, 5, 7, 48, 49, 50] ?_
   refine eL (aIl _ hw) ?_
   refine hK24 _ ?_; clear hK24
   refine qI true (by rfl) (rfl) (fun _ => ?_) (fun h => by cases h)
   refine aC [] ?_
   refine aM ?_
   refine cW 4 ?_
   refine xb ?_
   (exact (aVw (rA c4 (by rw [aEi, decide_eq_false hw]; rfl))).symm)
  refine bA ?_
  refine hK8 _ ?_; clear hK8
  refine aA fun K26 hK26 => ?_
  refine bL [2, 3] ?_
  refine eL (dB _ r.fApproach t.fSections) ?_
  refine hK26 _ ?_; clear hK26
  refine aM ?_
  refine cW 4 ?_
  refine xb ?_
  (rw [rtB, show vO t (r.fSections ++ r.fOverSections) = true from uO l0_1 (by omega), Bool.and_true, Bool.eq_iff_iff]; simp [rtO]; omega)
 skip
 refine aC [2, 3, 5, 48, 49, 50] ?_
 refine aA fun K28 hK28 => ?_
 refine aV (fun c6 => ?_) fun c6 => ?_
 ·refine aJ ?_
  refine hK28 _ ?_; clear hK28
  refine aA fun K29 hK29 => ?_
  refine aL ?_
  refine aC [2, 3, 5, 48, 49, 50] ?_
  refine aA fun K31 hK31 => ?_
  refine aA fun K32 hK32 => ?_
  refine bL [2, 3, 5, 7, 48, 49, 50] ?_
  refine eL (aIl _ hw) ?_
  refine hK32 _ ?_; clear hK32
  refine qI true (by rfl) (rfl) (fun _ => ?_) (fun h => by cases h)
  refine aC [] ?_
  refine aM ?_
  refine cW 4 ?_
  refine xb ?_
  (exact (aVw (rA c6 (by rw [aEi, decide_eq_false hw]; rfl))).symm)
 refine bA ?_
 refine hK8 _ ?_; clear hK8
 refine aA fun K34 hK34 => ?_
 refine bL [2, 3] ?_
 refine eL (dB _ r.fApproach t.fSections) ?_
 refine hK34 _ ?_; clear hK34
 refine aM ?_
 refine cW 4 ?_
 refine xb ?_
 (rw [rtB, show vO t (r.fSections ++ r.fOverSections) = true from uO l0_1 (by omega), Bool.and_true, Bool.eq_iff_iff]; simp [rtO]; omega)
end
end Go.Sg
