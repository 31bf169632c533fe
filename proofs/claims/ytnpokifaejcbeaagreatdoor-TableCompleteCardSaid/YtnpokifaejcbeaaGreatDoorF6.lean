/- Several texts as one. -/
import Derived.Test.YtnpokifaejcbeaaGreatDoorF5
set_option linter.unusedSectionVars false
set_option linter.unusedVariables false
set_option linter.unusedSimpArgs false
set_option maxRecDepth 20000
namespace Go.Sg
open Go.Proofs
open Go.Rv (goodB)
theorem zX {P : Program} {ρ : aS} {fn : Func} {O : aS} {R : List Rg → aS → DV → Prop} {a b : ResultVar} {vs : List ResultVar} {rl : List DV} {rs : List Rg} (hf : fn.results.toList = a :: b :: vs) (h1 : hi ρ = bT O) (h : RO P ρ (a :: b :: vs) rl) (hR : R rs O (.tup rl)) : aBu P fn O R .ret rs ρ :=
 ⟨O, .tup rl, jJ h1, fun _ => dW.refl _, fun _ h => h, by rw [hf]; cases a <;> exact ⟨rl, rfl, h.len, h.get⟩, rfl, hR⟩
theorem aEz {P : Program} {ρ : aS} {fn : Func} {O : aS} {R : List Rg → aS → DV → Prop} {r : DV} {rs : List Rg} (t : Nat) (hf : fn.results = #[.tmp t]) (h1 : hi ρ = bT O) (h : ρ t = r) (hp : gC r = true) (hs : sh r = r) (hR : R rs O r) : aBu P fn O R .ret rs ρ :=
 ⟨O, r, jJ h1, fun _ => dW.refl _, fun _ h => h, by rw [hf]; exact dE.is h hp hs, (by cases r <;> first | rfl | cases hp), hR⟩
def JoR (O : aS) (l : aB) (rs : List Rg) (O' : aS) (r : DV) : Prop := O' = O ∧ ∃ og, r = .tup [.v (.map og), vi (joI l)] ∧ (joI l = 0 → ∃ g c, og = some g ∧ rs = [.map g c (esT eJ eJ (jM l.fJoints))])
attribute [go_sem] aRz
theorem bFd {l : aB} {j : gV} (h : (exB l j.fA = false ∨ exB l j.fB = false) ∨ j.fA.fEl = j.fB.fEl ∧ j.fA.fSide = j.fB.fSide) : xO l j = false := by
 unfold xO
 rcases h with (h | h) | h
 ·rw [h]; rfl
 ·rw [h]; simp
 rw [(dO j.fA j.fB).2 h]; simp
theorem bTj {l : aB} {j : gV} (h : (exB l j.fA = true ∧ exB l j.fB = true) ∧ (¬ j.fA.fEl = j.fB.fEl ∨ ¬ j.fA.fSide = j.fB.fSide)) : xO l j = true := by
 unfold xO
 have hne : j.fA ≠ j.fB := fun e => by rw [dO] at e; omega
 rw [h.1.1, h.1.2]; simp [hne]
theorem aSk {α β : Type} [DecidableEq α] {p : α → Prop} {M : List (α × β)} {a : α} {b : β} (h : ∀ x ∈ M, p x.1) (ha : p a) : ∀ x ∈ lC M a b, p x.1 := by
 induction M with
 | nil => intro x hx; simp only [lC, List.mem_singleton] at hx; subst hx; exact ha
 | cons q M ih =>
  intro x hx
  unfold lC at hx
  split at hx
  ·rcases List.mem_cons.1 hx with rfl | hx
   ·exact ha
   exact h x (by simp [hx])
  rcases List.mem_cons.1 hx with rfl | hx
  ·exact h x (by simp)
  exact ih (fun y hy => h y (by simp [hy])) x hx
set_option maxRecDepth 20000 in
set_option maxHeartbeats 4000000 in
theorem rV (O : aS) (l : aB) (hl : eK l) : zB Tryz.prog O 115 [.agg (aK l)] [] (JoR O l) := by
 have hl1 := hl.sec
 have hl2 := hl.el
 have hl3 := hl.jo
 have hl4 := hl.sg
 have hl5 := hl.bl
 obtain ⟨i9, hi9, hz9⟩ := aXm
 refine lY Tryz.func115 rfl (by kernel_rfl) fun w0 I0 A0 => ?_
 have hF := mW w0 I0 (b6 A0) (GOf [])
 refine bD hF [0] ?_
 refine aT fun K1 hK1 => ?_
 refine bD hF [1] ?_
 refine bR ?_
 refine dV [1, 14, 15, 16] (fun n sF ρ => ∃ i, n = l.fJoints.length - i ∧ sF = [] ∧ (i ≤ l.fJoints.length) ∧ (l9 (xO l) l.fJoints i) ∧ ρ = dU O [(1, .bx (aK l)), (14, aGb l.fJoints), (15, vi (l.fJoints.length : Nat)), (16, vi (i : Nat))]) _ ⟨0, rfl, rfl, ?_, ?_, ?_⟩ ?_
 ·exact bI
 ·exact jW _ _
 ·exact dC
 rintro n sF ρ ⟨i, rfl, rfl, l0_0, l0_1, rfl⟩ K3 hK3
 refine bD hF [1, 13, 14, 15, 16] ?_
 refine aT fun K5 hK5 => ?_
 refine cJ (fun c0 => ?_) fun c0 => ?_
 ·refine bN ?_
  refine hK5 _ _ ?_; clear hK5
  refine aT fun K6 hK6 => ?_
  refine bR ?_
  refine bD hF [1, 13, 14, 15, 16] ?_
  refine aT fun K8 hK8 => ?_
  refine e9 hF [1, 5, 13, 14, 15, 16] ?_
  refine eL (kK _ l (l.fJoints.getD i default).fA hl) ?_
  refine lB (fun g0 => kK _ l (l.fJoints.getD i default).fB hl) ?_
  refine hK8 _ _ ?_; clear hK8
  refine cJ (fun c1 => ?_) fun c1 => ?_
  ·refine bD hF [] ?_
   refine dD ?_
   exact zX rfl (by simp (disch := omega) only [go_sem, seval, seval]) (.cons (mC rfl rfl rfl) (.cons (mC rfl rfl rfl) .nil)) ⟨rfl, none, congrArg (fun x => DV.tup [DV.v (.map none), vi x]) (bFf (nR (f := xO l) c0 (bFd c1))).symm, fun h => by rw [bFf (nR (f := xO l) c0 (bFd c1))] at h; cases h⟩
  refine bN ?_
  refine hK6 _ _ ?_; clear hK6
  refine dS hF [1, 13, 14, 15, 16] ?_
  refine hK3 _ _ _ ?_ ⟨i + 1, rfl, rfl, ?_, ?_, ?_⟩
  ·exact bI
  ·exact bI
  ·exact jZ l0_1 (bTj c1)
  exact dC
 refine eB ?_
 refine hK1 _ _ ?_; clear hK1
 refine bD hF [1] ?_
 refine aT fun K11 hK11 => ?_
 refine bD hF [1, 6] ?_
 refine bR ?_
 have hjo : l.fJoints.all (xO l) = true := pX l0_1 c0
 refine dV [1, 6, 42, 43, 44] (fun n sF ρ => ∃ i, n = l.fJoints.length - i ∧ sF = [] ∧ (i ≤ l.fJoints.length) ∧ ((eQ (l.fJoints.take i)).Nodup) ∧ ρ = dU O [(1, .bx (aK l)), (6, .mo (esT eJ eJ (jM (l.fJoints.take i)))), (42, aGb l.fJoints), (43, vi (l.fJoints.length : Nat)), (44, vi (i : Nat))]) _ ⟨0, rfl, rfl, ?_, ?_, ?_⟩ ?_
 ·exact bI
 ·exact List.nodup_nil
 ·exact dC
 rintro n sF ρ ⟨i, rfl, rfl, l1_0, l1_1, rfl⟩ K13 hK13
 refine bD hF [1, 6, 41, 42, 43, 44] ?_
 refine aT fun K15 hK15 => ?_
 refine cJ (fun c2 => ?_) fun c2 => ?_
 ·refine bN ?_
  refine hK15 _ _ ?_; clear hK15
  refine aT fun K16 hK16 => ?_
  refine bR ?_
  refine bD hF [1, 6, 41, 42, 43, 44] ?_
  refine aT fun K18 hK18 => ?_
  refine bK (Le.keepC [1, 6, 8, 41, 42, 43, 44] _) ?_
  refine bM ?_
  refine ef hF ?_
  refine ef hF ?_
  refine ef hF ?_
  show gN _ _ _ _ _ _ _ _
  refine dT hF ?_
  refine l5 eJ eJ (s := 6) (M := jM (l.fJoints.take i)) (a := (l.fJoints.getD i default).fA) (zb := E0) (ok := true) rfl rfl (by kernel_rfl) (by kernel_rfl) (by simp (disch := omega) only [go_sem, seval] <;> rfl) (by simp (disch := omega) only [go_sem, seval] <;> rfl) (by simp (disch := omega) only [go_sem, seval] <;> rfl) trivial rfl (by kernel_rfl) hi9 hz9 (aSa hl hjo c2) (sS hl hjo) (by rw [mV]; exact l1_1) ?_
  simp (disch := omega) only [go_sem, seval]
  refine ef hF ?_
  refine ef hF ?_
  refine ef hF ?_
  refine ef hF ?_
  refine ef hF ?_
  refine ef hF ?_
  refine hK18 _ _ ?_; clear hK18
  refine aT fun K19 hK19 => ?_
  refine bK (Le.keepC [1, 6, 8, 10, 41, 42, 43, 44] _) ?_
  refine bM ?_
  refine ef hF ?_
  refine ef hF ?_
  refine ef hF ?_
  show gN _ _ _ _ _ _ _ _
  refine dT hF ?_
  refine l5 eJ eJ (s := 6) (M := jM (l.fJoints.take i)) (a := (l.fJoints.getD i default).fB) (zb := E0) (ok := true) rfl rfl (by kernel_rfl) (by kernel_rfl) (by simp (disch := omega) only [go_sem, seval] <;> rfl) (by simp (disch := omega) only [go_sem, seval] <;> rfl) (by simp (disch := omega) only [go_sem, seval] <;> rfl) trivial rfl (by kernel_rfl) hi9 hz9 (bFh hl hjo c2) (sS hl hjo) (by rw [mV]; exact l1_1) ?_
  simp (disch := omega) only [go_sem, seval]
  refine ef hF ?_
  refine ef hF ?_
  refine ef hF ?_
  refine ef hF ?_
  refine ef hF ?_
  refine ef hF ?_
  refine hK19 _ _ ?_; clear hK19
  refine aT fun K20 hK20 => ?_
  refine bD hF [1, 6, 8, 10, 12, 41, 42, 43, 44] ?_
  refine cJ (fun c3 => ?_) fun c3 => ?_
  ·refine bD hF [] ?_
   refine dD ?_
   exact zX rfl (by simp (disch := omega) only [go_sem, seval, seval]) (.cons (mC rfl rfl rfl) (.cons (mC rfl rfl rfl) .nil)) ⟨rfl, none, congrArg (fun x => DV.tup [DV.v (.map none), vi x]) (bEm hjo c2 (aWh c2 c3)).symm, fun h => by rw [bEm hjo c2 (aWh c2 c3)] at h; cases h⟩
  refine bN ?_
  refine hK20 _ _ ?_; clear hK20
  have hc3 := c3
  have hg1 : ∀ p ∈ lC (jM (l.fJoints.take i)) (l.fJoints.getD i default).fA (l.fJoints.getD i default).fB, goodB Tryz.prog 49 (eJ.val p.1) = true := aSk (p := fun a => goodB Tryz.prog 49 (eJ.val a) = true) (sS hl hjo) (aSa hl hjo c2)
  skip
  refine aEu 12 [1, 6, 8, 41, 42, 43, 44] [1, 8, 42, 43, 44, 66, 67, 68, 69, 70, 71, 72, 73, 74, 75, 6] [[], [], [1], [], [], [4], [], [6], [], [8], [0, 1, 2, 6, 7], [0, 1, 2, 3, 4, 5, 6, 7, 8, 9, 10]] [[10, 11], [10, 11], [10, 11], [11], [11], [11], [10, 11], [10, 11], [11], [11], [11], []] (fun (_ : Unit) bQ => dU O [(1, .bx (aK l)), (8, .bx (rY (l.fJoints.getD i default))), (42, aGb l.fJoints), (43, vi (l.fJoints.length : Nat)), (44, vi (i : Nat)), (66, bJ (bQ 0) (.mr 6)), (67, bJ (bQ 1) (.bp 8 0)), (68, bJ (bQ 2) (.agg (cE (l.fJoints.getD i default).fA))), (69, bJ (bQ 3) (.mr 6)), (70, bJ (bQ 4) (.bp 8 2)), (71, bJ (bQ 5) (.agg (cE (l.fJoints.getD i default).fB))), (72, bJ (bQ 6) (.bp 8 2)), (73, bJ (bQ 7) (.agg (cE (l.fJoints.getD i default).fB))), (74, bJ (bQ 8) (.bp 8 0)), (75, bJ (bQ 9) (.agg (cE (l.fJoints.getD i default).fA))), (6, .mo (esT eJ eJ ((cond (bQ 11) (lC (lC (jM (l.fJoints.take i)) (l.fJoints.getD i default).fA (l.fJoints.getD i default).fB) (l.fJoints.getD i default).fB (l.fJoints.getD i default).fA) (cond (bQ 10) (lC (jM (l.fJoints.take i)) (l.fJoints.getD i default).fA (l.fJoints.getD i default).fB) (jM (l.fJoints.take i)))))))]) (fun (_ : Unit) bQ => []) () hF (fun iQ hiQ oQ hoQ gg bQ hbQ KQ hKQ => ?_) (fun gg => ?_)
  ·match iQ, hiQ with
   | 0, _ | 1, _ | 2, _ | 3, _ | 4, _ | 5, _ | 6, _ | 7, _ | 8, _ | 9, _ =>
    exact mfp hF hoQ hbQ (hKQ ())
   | 10, _ =>
    obtain rfl := Option.some.inj hoQ
    simp only [sO, j0, j8, List.getD_cons_succ, List.getD_cons_zero, List.getD_nil, and_true, true_and] at hbQ
    show gN _ _ _ _ _ _ _ _
    refine dT hF ?_
    refine s3 eJ eJ (kt := 49) (e := 49) (s := 6) (M := jM (l.fJoints.take i)) (a := (l.fJoints.getD i default).fA) (b := (l.fJoints.getD i default).fB) (.inl rfl) rfl rfl (by kernel_rfl) (by simp (disch := omega) only [go_sem, seval, hbQ] <;> rfl) (by simp (disch := omega) only [go_sem, seval, hbQ] <;> rfl) (by simp (disch := omega) only [go_sem, seval, hbQ] <;> rfl) trivial rfl (by simp (disch := omega) only [go_sem, seval, hbQ] <;> rfl) trivial rfl (by kernel_rfl) (aSa hl hjo c2) (sS hl hjo) (by rw [mV]; exact l1_1) ?_
    simp (disch := omega) only [go_sem, seval, hbQ]
    refine hKQ () _ _ ?_ ?_
    ·first | rfl | (simp (disch := omega) only [go_sem, seval, hbQ]; done) | (simp (disch := omega) only [go_sem, seval, hbQ] <;> rfl)
    simp (disch := omega) only [go_sem, seval, hbQ] <;> first | rfl | simp
   | 11, _ =>
    obtain rfl := Option.some.inj hoQ
    simp only [sO, j0, j8, List.getD_cons_succ, List.getD_cons_zero, List.getD_nil, and_true, true_and] at hbQ
    show gN _ _ _ _ _ _ _ _
    refine dT hF ?_
    refine s3 eJ eJ (kt := 49) (e := 49) (s := 6) (M := lC (jM (l.fJoints.take i)) (l.fJoints.getD i default).fA (l.fJoints.getD i default).fB) (a := (l.fJoints.getD i default).fB) (b := (l.fJoints.getD i default).fA) (.inl rfl) rfl rfl (by kernel_rfl) (by simp (disch := omega) only [go_sem, seval, hbQ] <;> rfl) (by simp (disch := omega) only [go_sem, seval, hbQ] <;> rfl) (by simp (disch := omega) only [go_sem, seval, hbQ] <;> rfl) trivial rfl (by simp (disch := omega) only [go_sem, seval, hbQ] <;> rfl) trivial rfl (by kernel_rfl) (bFh hl hjo c2) hg1 (uT (by rw [mV]; exact l1_1)) ?_
    simp (disch := omega) only [go_sem, seval, hbQ]
    refine hKQ () _ _ ?_ ?_
    ·first | rfl | (simp (disch := omega) only [go_sem, seval, hbQ]; done) | (simp (disch := omega) only [go_sem, seval, hbQ] <;> rfl)
    simp (disch := omega) only [go_sem, seval, hbQ] <;> first | rfl | simp
  refine rF ?_
  refine hK16 _ _ ?_; clear hK16
  refine dS hF [1, 6, 41, 42, 43, 44] ?_
  refine hK13 _ _ _ ?_ ⟨i + 1, rfl, rfl, ?_, ?_, ?_⟩
  ·exact bI
  ·exact bI
  ·exact bMe c2 l1_1 c3.1 c3.2 (bEh hl hjo c2)
  simp (disch := omega) only [go_sem, seval] <;> (rw [bNi c2 l1_1 c3.1 c3.2 (bEh hl hjo c2)]; rfl)
 refine eB ?_
 refine hK11 _ _ ?_; clear hK11
 refine aT fun K23 hK23 => ?_
 have hie : i = l.fJoints.length := by omega
 rw [hie, List.take_length] at l1_1
 rw [hie, List.take_length]
 refine aOw (s1 := []) (s2 := []) 6 (by decide) (by simp (disch := omega) only [go_sem, seval, seval] <;> rfl) rfl (fun g0 k0 => ?_)
 refine dS hF [6] ?_
 refine hK23 _ _ ?_; clear hK23
 refine dD ?_
 exact zX rfl (by simp (disch := omega) only [go_sem, seval, seval]) (.cons (mC rfl rfl rfl) (.cons (mC rfl rfl rfl) .nil)) ⟨rfl, some g0, congrArg (fun x => DV.tup [DV.v (.map (some g0)), vi x]) (bRj hjo l1_1).symm, fun _ => ⟨g0, k0, rfl, rfl⟩⟩
end Go.Sg
namespace Go.Sg
open Go.Proofs
open Go.Rv (goodB)
theorem aBv (js : List gV) (e : cG) : fM (jM js) e = if (dM js e).2 = true then some (dM js e).1 else none := by
 unfold jM
 induction js with
 | nil => rfl
 | cons j js ih =>
  rw [List.flatMap_cons, List.cons_append, List.cons_append, List.nil_append]
  unfold fM fM dM
  split
  ·rfl
  split
  ·rfl
  exact ih
theorem aPv (js : List gV) (e : cG) : (fM (jM js) e).isSome = (dM js e).2 := by
 rw [aBv]; split
 ·rename_i h; rw [h]; rfl
 rename_i h; rw [Bool.not_eq_true] at h; rw [h]; rfl
theorem aJx {js : List gV} {e : cG} (h : (dM js e).2 = false) : (dM js e).1 = E0 := by
 induction js with
 | nil => rfl
 | cons j js ih =>
  unfold dM at h ⊢
  split
  ·rename_i g; rw [if_pos g] at h; cases h
  rename_i g
  rw [if_neg g] at h
  split
  ·rename_i g2; rw [if_pos g2] at h; cases h
  rename_i g2; rw [if_neg g2] at h; exact ih h
theorem aTq (js : List gV) (e : cG) : (fM (jM js) e).getD E0 = (dM js e).1 := by
 rw [aBv]; split
 ·rfl
 rename_i h; rw [Bool.not_eq_true] at h; exact (aJx h).symm
def qW (l : aB) (s : jF) : Bool := exB l s.fAt && vM s.fOverlap 0 1000000
def aAp (l : aB) (s : jF) : Bool := (aI l s.fAt).2 && decide (bU l (aI l s.fAt).1.fEl ≠ bU l s.fAt.fEl)
def sdB (l : aB) : Bool := (List.range l.fSignals.length).all fun i => decide (iU l (l.fSignals.getD i default).fAt = (i : Int))
def sgI (l : aB) : Int := if l.fSignals.all (qW l) = true then (if sdB l = true then (if l.fSignals.all (aAp l) = true then 0 else 14) else 8) else 1
theorem bNz {l : aB} (h : l.fSignals.all (qW l) = false) : sgI l = 1 := by unfold sgI; rw [h, if_neg (by simp)]
theorem bSe {l : aB} (h : l.fSignals.all (qW l) = true) (h2 : sdB l = false) : sgI l = 8 := by unfold sgI; rw [if_pos h, h2, if_neg (by simp)]
theorem bIc {l : aB} (h : l.fSignals.all (qW l) = true) (h2 : sdB l = true) (h3 : l.fSignals.all (aAp l) = false) : sgI l = 14 := by unfold sgI; rw [if_pos h, if_pos h2, h3, if_neg (by simp)]
theorem bPu {l : aB} (h : l.fSignals.all (qW l) = true) (h2 : sdB l = true) (h3 : l.fSignals.all (aAp l) = true) : sgI l = 0 := by unfold sgI; rw [if_pos h, if_pos h2, if_pos h3]
def x5 (l : aB) (b : oN) : Bool := vM b.fId 1 1073741824 && (vM b.fEl 0 (l.fElements.length - 1 : Int) && vM b.fOffset 0 (e5 l b.fEl.toNat).fLength)
def x4 (l : aB) : List Int := l.fBalises.map (·.fId)
theorem xG (l : aB) : (x4 l).length = l.fBalises.length := by unfold x4; simp
theorem aEy {l : aB} {i : Nat} (h : i < l.fBalises.length) : (x4 l).getD i default = (l.fBalises.getD i default).fId := by
 unfold x4
 rw [List.getD_eq_getElem?_getD, List.getD_eq_getElem?_getD, List.getElem?_map, List.getElem?_eq_getElem h]; rfl
def blI (l : aB) : Int := if l.fBalises.all (x5 l) = true then (if ndT (x4 l) = true then 0 else 8) else 1
theorem bTn {l : aB} (h : l.fBalises.all (x5 l) = false) : blI l = 1 := by unfold blI; rw [h, if_neg (by simp)]
theorem bRu {l : aB} (h : l.fBalises.all (x5 l) = true) (h2 : ndT (x4 l) = false) : blI l = 8 := by unfold blI; rw [if_pos h, h2, if_neg (by simp)]
theorem bRb {l : aB} (h : l.fBalises.all (x5 l) = true) (h2 : ndT (x4 l) = true) : blI l = 0 := by unfold blI; rw [if_pos h, if_pos h2]
theorem bLw {l : aB} {b : oN} (h : ((!vM b.fId 1 1073741824) || (!vM b.fEl 0 (l.fElements.length - 1 : Int)) || (!vM b.fOffset 0 (e5 l b.fEl.toNat).fLength)) = true) : x5 l b = false := by
 unfold x5; simp only [Bool.or_eq_true, Bool.not_eq_true'] at h
 rcases h with (h | h) | h
 ·rw [h]; rfl
 ·rw [h]; simp
 rw [h]; simp
theorem bIl {l : aB} {b : oN} (h : ((!vM b.fId 1 1073741824) || (!vM b.fEl 0 (l.fElements.length - 1 : Int)) || (!vM b.fOffset 0 (e5 l b.fEl.toNat).fLength)) = false) : x5 l b = true := by
 unfold x5; simp only [Bool.or_eq_false_iff, Bool.not_eq_false'] at h
 rw [h.1.1, h.1.2, h.2]; rfl
theorem k9 (n : Int) : goodB Tryz.prog 3 (mP.val n) = true := by
 have u3 : Tryz.prog.underlying 3 = some (.int .i64) := by kernel_rfl
 unfold goodB; rw [u3]; rfl
theorem nF (s : ByteArray) : goodB Tryz.prog 9 (x9.val s) = true := by
 have u9 : Tryz.prog.underlying 9 = some .string := by kernel_rfl
 unfold goodB; rw [u9]; rfl
theorem bEg : ∃ i, Tryz.prog.info? 4 = some i ∧ i.zero = some (pL.val false) := by
 obtain ⟨i, hi⟩ : ∃ i, Tryz.prog.info? 4 = some i := Option.isSome_iff_exists.1 (by kernel_rfl)
 have : ((Tryz.prog.info? 4).bind (·.zero)) = some (.bool false) := by kernel_rfl
 rw [hi] at this
 exact ⟨i, hi, this⟩
theorem aSh (n : Int) : mP.dv n = vi n := rfl
theorem aOr (b : Bool) : pL.dv b = vb b := rfl
theorem aRg (s : ByteArray) : x9.dv s = vs s := rfl
attribute [go_sem] aSh aOr aRg
def sP {α : Type} (q : List α) (i : Nat) : List (α × Bool) := (q.take i).map fun x => (x, true)
section
variable {α : Type} [DecidableEq α] [Inhabited α] {q : List α} {i : Nat}
theorem vD (q : List α) (i : Nat) : (sP q i).map (·.1) = q.take i := by unfold sP; rw [List.map_map]; exact List.map_id _
theorem yM (a : α) : (fM (sP q i) a).getD false = true ↔ a ∈ q.take i := by
 unfold sP
 induction q.take i with
 | nil => simp [fM]
 | cons x l ih =>
  rw [List.map_cons]
  unfold fM
  by_cases h : x = a
  ·subst h; simp
  rw [if_neg h, ih]; simp [Ne.symm h]
theorem bLi (hi : i < q.length) (hn : (fM (sP q i) (q.getD i default)).getD false = false) : lC (sP q i) (q.getD i default) true = sP q (i + 1) := by
 have h : ∀ p ∈ sP q i, p.1 ≠ q.getD i default := fun p hp e => by
  have : q.getD i default ∈ q.take i := by rw [← vD q i, ← e]; exact List.mem_map.2 ⟨p, hp, rfl⟩
  rw [(yM _).2 this] at hn
  cases hn
 rw [nM h]
 unfold sP
 rw [fV default hi, List.map_append]
 rfl
theorem aQr (hi : i < q.length) (hd : (q.take i).Nodup) (hn : (fM (sP q i) (q.getD i default)).getD false = false) : (q.take (i + 1)).Nodup := by
 rw [fV default hi, List.nodup_append]
 refine ⟨hd, by simp, fun a ha b hb e => ?_⟩
 simp only [List.mem_singleton] at hb
 subst e; subst hb
 rw [(yM _).2 ha] at hn
 cases hn
theorem aSo (hi : i < q.length) (h : (fM (sP q i) (q.getD i default)).getD false = true) : ndT q = false := by
 rw [← Bool.not_eq_true, tN]
 intro hn
 have := (yM _).1 h
 rw [← List.take_append_drop (i + 1) q, List.nodup_append, fV default hi, List.nodup_append] at hn
 exact hn.1.2.2 _ this _ (by simp) rfl
end
set_option maxRecDepth 20000 in
theorem oU (O : aS) (l : aB) (hl : eK l) : aY Tryz.prog O 117 [.agg (aK l)] (vi (blI l)) := by
 have hl1 := hl.sec
 have hl2 := hl.el
 have hl3 := hl.jo
 have hl4 := hl.sg
 have hl5 := hl.bl
 obtain ⟨i4, hi4, hz4⟩ := bEg
 refine aU 0 rfl (.agg (d := aGy l.fBalises) (by simp [aK]) (.sl _ _ _)) fun hb => ?_
 refine aU 0 rfl (.agg (d := j9 l.fElements) (by simp [aK]) (.sl _ _ _)) fun he => ?_
 refine eE Tryz.func117 ?_
 refine aC [0] ?_
 refine aA fun K1 hK1 => ?_
 refine aC [1] ?_
 refine aL ?_
 refine aZ [1, 9, 10, 11] (fun n ρ => ∃ i, n = l.fBalises.length - i ∧ (i ≤ l.fBalises.length) ∧ (l9 (x5 l) l.fBalises i) ∧ ρ = dU O [(1, .bx (aK l)), (9, aGy l.fBalises), (10, vi (l.fBalises.length : Nat)), (11, vi (i : Nat))]) _ ⟨0, rfl, ?_, ?_, ?_⟩ ?_
 ·exact bI
 ·exact jW _ _
 ·exact dC
 rintro n ρ ⟨i, rfl, l0_0, l0_1, rfl⟩ K3 hK3
 refine aC [1, 8, 9, 10, 11] ?_
 refine aA fun K5 hK5 => ?_
 refine aV (fun c0 => ?_) fun c0 => ?_
 ·refine aJ ?_
  refine hK5 _ ?_; clear hK5
  refine aA fun K6 hK6 => ?_
  refine aL ?_
  refine aC [1, 8, 9, 10, 11] ?_
  refine aA fun K8 hK8 => ?_
  refine eV [1, 4, 8, 9, 10, 11] [] fH (by kernel_rfl) ?_
  simp (disch := omega) only [go_sem, seval]
  repeat refine And.intro (by first | (intro h; exact ⟨h, by simp only [Bool.not_eq_true', Bool.or_eq_false_iff, Bool.not_eq_false', vM, decide_eq_true_eq] at h; omega⟩) | exact bS) ?_
  refine dJ (bX _ (l.fBalises.getD i default).fId 1 1073741824) ?_ ?_
  ·rfl
  try simp (disch := omega) only [go_sem, seval]
  repeat refine And.intro (by first | (intro h; exact ⟨h, by simp only [Bool.not_eq_true', Bool.or_eq_false_iff, Bool.not_eq_false', vM, decide_eq_true_eq] at h; omega⟩) | exact bS) ?_
  refine jB (fun g0 => bX _ (l.fBalises.getD i default).fEl 0 (l.fElements.length - 1 : Int)) ?_ ?_ ?_
  ·first | exact fun _ => trivial | simp
  ·rfl
  try simp (disch := omega) only [go_sem, seval]
  repeat refine And.intro (by first | (intro h; exact ⟨h, by simp only [Bool.not_eq_true', Bool.or_eq_false_iff, Bool.not_eq_false', vM, decide_eq_true_eq] at h; omega⟩) | exact bS) ?_
  refine jB (fun g1 => bX _ (l.fBalises.getD i default).fOffset 0 (e5 l (l.fBalises.getD i default).fEl.toNat).fLength) ?_ ?_ ?_
  ·first | exact fun _ => trivial | simp
  ·rfl
  try simp (disch := omega) only [go_sem, seval]
  repeat refine And.intro (by first | (intro h; exact ⟨h, by simp only [Bool.not_eq_true', Bool.or_eq_false_iff, Bool.not_eq_false', vM, decide_eq_true_eq] at h; omega⟩) | exact bS) ?_
  refine hK8 _ ?_; clear hK8
  refine aV (fun c1 => ?_) fun c1 => ?_
  ·refine aC [] ?_
   refine aM ?_
   refine cW 2 ?_
   exact dE.is (by simp (disch := omega) only [go_sem, seval] <;> ((exact congrArg vi (bTn (nR (f := x5 l) c0 (bLw (by simpa using c1)))).symm))) rfl rfl
  refine aJ ?_
  refine hK6 _ ?_; clear hK6
  refine bE [1, 8, 9, 10, 11] ?_
  refine hK3 _ _ ?_ ⟨i + 1, rfl, ?_, ?_, ?_⟩
  ·exact bI
  ·exact bI
  ·exact jZ l0_1 (bIl (by simpa using c1))
  exact dC
 refine bA ?_
 refine hK1 _ ?_; clear hK1
 refine aC [1] ?_
 refine aA fun K11 hK11 => ?_
 refine aC [1, 5] ?_
 refine aL ?_
 have hall : l.fBalises.all (x5 l) = true := pX l0_1 c0
 refine aZ [1, 5, 45, 46, 47] (fun n ρ => ∃ i, n = l.fBalises.length - i ∧ (i ≤ l.fBalises.length) ∧ (((x4 l).take i).Nodup) ∧ ρ = dU O [(1, .bx (aK l)), (5, .mo (esT mP pL (sP (x4 l) i))), (45, aGy l.fBalises), (46, vi (l.fBalises.length : Nat)), (47, vi (i : Nat))]) _ ⟨0, rfl, ?_, ?_, ?_⟩ ?_
 ·exact bI
 ·exact List.nodup_nil
 ·exact dC
 rintro n ρ ⟨i, rfl, l1_0, l1_1, rfl⟩ K13 hK13
 refine aC [1, 5, 44, 45, 46, 47] ?_
 refine aA fun K15 hK15 => ?_
 refine aV (fun c2 => ?_) fun c2 => ?_
 ·refine aJ ?_
  refine hK15 _ ?_; clear hK15
  refine aA fun K16 hK16 => ?_
  refine aL ?_
  refine aC [1, 5, 44, 45, 46, 47] ?_
  refine aA fun K18 hK18 => ?_
  refine aA fun K19 hK19 => ?_
  refine cH (Le.keepC [1, 5, 7, 44, 45, 46, 47] _) ?_
  refine gR ?_
  refine ez ?_
  refine ez ?_
  refine ez ?_
  show OW _ _ _ _ _ _
  refine l5 mP pL (s := 5) (M := sP (x4 l) i) (a := (l.fBalises.getD i default).fId) (zb := false) (ok := false) rfl rfl (by kernel_rfl) (by kernel_rfl) (by simp (disch := omega) only [go_sem, seval] <;> rfl) (by simp (disch := omega) only [go_sem, seval] <;> rfl) (by simp (disch := omega) only [go_sem, seval] <;> rfl) trivial rfl (by kernel_rfl) hi4 hz4 (k9 _) (fun p _ => k9 p.1) (by rw [vD]; exact l1_1) ?_
  refine rF ?_
  refine hK19 _ ?_; clear hK19
  refine aV (fun c3 => ?_) fun c3 => ?_
  ·refine aC [] ?_
   refine aM ?_
   refine cW 2 ?_
   exact dE.is (by simp (disch := omega) only [go_sem, seval] <;> ((exact congrArg vi (bRu hall (aSo (i := i) (by rw [xG]; exact c2) (by rw [aEy c2]; exact c3))).symm))) rfl rfl
  refine aJ ?_
  refine hK18 _ ?_; clear hK18
  refine cH (Le.keepC [1, 5, 7, 44, 45, 46, 47] _) ?_
  refine gR ?_
  refine ez ?_
  refine ez ?_
  refine ez ?_
  show OW _ _ _ _ _ _
  refine s3 mP pL (kt := 3) (e := 4) (s := 5) (M := sP (x4 l) i) (a := (l.fBalises.getD i default).fId) (b := true) (.inl rfl) rfl rfl (by kernel_rfl) (by simp (disch := omega) only [go_sem, seval] <;> rfl) (by simp (disch := omega) only [go_sem, seval] <;> rfl) (by simp (disch := omega) only [go_sem, seval] <;> rfl) trivial rfl (by simp (disch := omega) only [go_sem, seval] <;> rfl) trivial rfl (by kernel_rfl) (k9 _) (fun p _ => k9 p.1) (by rw [vD]; exact l1_1) ?_
  refine rF ?_
  refine hK16 _ ?_; clear hK16
  refine bE [1, 5, 44, 45, 46, 47] ?_
  refine hK13 _ _ ?_ ⟨i + 1, rfl, ?_, ?_, ?_⟩
  ·exact bI
  ·exact bI
  ·exact aQr (by rw [xG]; exact c2) l1_1 (by rw [aEy c2]; exact c3)
  rw [← aEy c2, bLi (by rw [xG]; exact c2) (by rw [aEy c2]; exact c3)]; simp (disch := omega) only [go_sem, seval, seval]; rfl
 refine bA ?_
 refine hK11 _ ?_; clear hK11
 refine aC [] ?_
 refine aM ?_
 refine cW 2 ?_
 exact dE.is (by simp (disch := omega) only [go_sem, seval] <;> ((exact congrArg vi (bRb hall (tN.2 (by rw [List.take_of_length_le (by rw [xG]; exact c2)] at l1_1; exact l1_1))).symm))) rfl rfl
end Go.Sg
namespace Go.Sg
open Go.Proofs
open Go.Rv (goodB)
theorem aXo {l : aB} (hl : eK l) (h : l.fSignals.all (qW l) = true) {i : Nat} (hi : i < l.fSignals.length) : goodB Tryz.prog 49 (eJ.val (l.fSignals.getD i default).fAt) = true := by
 have := m9 (f := qW l) h hi
 unfold qW at this
 simp only [Bool.and_eq_true] at this
 exact tR (tD hl this.1)
theorem aUb {l : aB} (hl : eK l) (h : l.fJoints.all (xO l) = true) : ∀ p ∈ jM l.fJoints, goodB Tryz.prog 49 (eJ.val p.1) = true := by
 have := sS hl h (i := l.fJoints.length)
 rw [List.take_length] at this
 exact this
theorem aFi {l : aB} (h : joI l = 0) : l.fJoints.all (xO l) = true ∧ (eQ l.fJoints).Nodup := by
 unfold joI at h
 split at h
 ·rename_i h1
  split at h
  ·rename_i h2; exact ⟨h1, tN.1 h2⟩
  cases h
 cases h
def j6 (l : aB) : Int :=
 if aAs l = false then 2 else if nmI l ≠ 0 then nmI l else if mH l = false ∨ aBw l = false then 1 else if joI l ≠ 0 then joI l else if sgI l ≠ 0 then sgI l else blI l
section
variable {l : aB}
theorem bRi (h : aAs l = false) : j6 l = 2 := by unfold j6; rw [if_pos h]
theorem bTi (h : aAs l = true) (h2 : nmI l ≠ 0) : j6 l = nmI l := by unfold j6; rw [if_neg (by rw [h]; simp), if_pos h2]
theorem bRx (h : aAs l = true) (h2 : nmI l = 0) (h3 : mH l = false ∨ aBw l = false) : j6 l = 1 := by unfold j6; rw [if_neg (by rw [h]; simp), if_neg (by simp [h2]), if_pos h3]
theorem bOk (h : aAs l = true) (h2 : nmI l = 0) (h3 : mH l = true ∧ aBw l = true) (h4 : joI l ≠ 0) : j6 l = joI l := by unfold j6; rw [if_neg (by rw [h]; simp), if_neg (by simp [h2]), if_neg (by rw [h3.1, h3.2]; simp), if_pos h4]
theorem bPo (h : aAs l = true) (h2 : nmI l = 0) (h3 : mH l = true ∧ aBw l = true) (h4 : joI l = 0) (h5 : sgI l ≠ 0) : j6 l = sgI l := by unfold j6; rw [if_neg (by rw [h]; simp), if_neg (by simp [h2]), if_neg (by rw [h3.1, h3.2]; simp), if_neg (by simp [h4]), if_pos h5]
theorem bRn (h : aAs l = true) (h2 : nmI l = 0) (h3 : mH l = true ∧ aBw l = true) (h4 : joI l = 0) (h5 : sgI l = 0) : j6 l = blI l := by unfold j6; rw [if_neg (by rw [h]; simp), if_neg (by simp [h2]), if_neg (by rw [h3.1, h3.2]; simp), if_neg (by simp [h4]), if_neg (by simp [h5])]
end
theorem bKf {l : aB} {s : jF} (h : exB l s.fAt = false ∨ vM s.fOverlap 0 1000000 = false) : qW l s = false := by
 unfold qW; rcases h with h | h
 ·rw [h]; rfl
 rw [h]; simp
theorem bKd {l : aB} {s : jF} (h : exB l s.fAt = true ∧ vM s.fOverlap 0 1000000 = true) : qW l s = true := by
 unfold qW; rw [h.1, h.2]; rfl
theorem bGv {l : aB} {s : jF} (h : (dM l.fJoints s.fAt).2 = false ∨ bU l (dM l.fJoints s.fAt).1.fEl = bU l s.fAt.fEl) : aAp l s = false := by
 unfold aAp
 rcases h with h | h
 ·rw [show (aI l s.fAt).2 = false from h]; rfl
 rw [decide_eq_false (by simpa using h)]; simp
theorem bIu {l : aB} {s : jF} (h : (dM l.fJoints s.fAt).2 = true ∧ ¬ bU l (dM l.fJoints s.fAt).1.fEl = bU l s.fAt.fEl) : aAp l s = true := by
 unfold aAp
 rw [show (aI l s.fAt).2 = true from h.1, decide_eq_true h.2]; rfl
set_option maxRecDepth 20000 in
set_option maxHeartbeats 2000000 in
theorem oC (O : aS) (l : aB) (g0 k0 : Nat) (hl : eK l) (h0 : joI l = 0) : zB Tryz.prog O 116 [.agg (aK l), .v (.map (some g0))] [.map g0 k0 (esT eJ eJ (jM l.fJoints))] (fun _ O' r => O' = O ∧ r = vi (sgI l)) := by
 have hl1 := hl.sec
 have hl2 := hl.el
 have hl3 := hl.jo
 have hl4 := hl.sg
 have hl5 := hl.bl
 have hjo := aFi h0
 obtain ⟨i9, hi9, hz9⟩ := aXm
 refine lY Tryz.func116 rfl (by kernel_rfl) fun w0 I0 A0 => ?_
 have hF := mW w0 I0 (b6 A0) (GOf [.map g0 k0 (esT eJ eJ (jM l.fJoints))])
 refine aPu (s1 := []) (s2 := []) 1 (by decide) (by simp (disch := omega) only [go_sem, seval, seval] <;> rfl) rfl ?_
 refine bD hF [0, 1] ?_
 refine aT fun K1 hK1 => ?_
 refine bD hF [1, 2] ?_
 refine bR ?_
 refine dV [1, 2, 14, 15, 16] (fun n sF ρ => ∃ i, n = l.fSignals.length - i ∧ sF = [] ∧ (i ≤ l.fSignals.length) ∧ (l9 (qW l) l.fSignals i) ∧ ρ = dU O [(1, .mo (esT eJ eJ (jM l.fJoints))), (2, .bx (aK l)), (14, jU l.fSignals), (15, vi (l.fSignals.length : Nat)), (16, vi (i : Nat))]) _ ⟨0, rfl, rfl, ?_, ?_, ?_⟩ ?_
 ·exact bI
 ·exact jW _ _
 ·exact dC
 rintro n sF ρ ⟨i, rfl, rfl, l0_0, l0_1, rfl⟩ K3 hK3
 refine bD hF [1, 2, 13, 14, 15, 16] ?_
 refine aT fun K5 hK5 => ?_
 refine cJ (fun c0 => ?_) fun c0 => ?_
 ·refine bN ?_
  refine hK5 _ _ ?_; clear hK5
  refine aT fun K6 hK6 => ?_
  refine bR ?_
  refine bD hF [1, 2, 13, 14, 15, 16] ?_
  refine aT fun K8 hK8 => ?_
  refine e9 hF [1, 2, 6, 13, 14, 15, 16] ?_
  refine eL (kK _ l (l.fSignals.getD i default).fAt hl) ?_
  refine lB (fun g0 => bX _ (l.fSignals.getD i default).fOverlap 0 1000000) ?_
  refine hK8 _ _ ?_; clear hK8
  refine cJ (fun c1 => ?_) fun c1 => ?_
  ·refine bD hF [] ?_
   refine dD ?_
   (try simp only [eC, fR]); exact aEz 4 rfl (by simp (disch := omega) only [go_sem, seval, seval]) (by simp (disch := omega) only [go_sem, seval, seval]) rfl rfl ⟨rfl, congrArg vi (bNz (nR (f := qW l) c0 (bKf (by simpa using c1)))).symm⟩
  refine bN ?_
  refine hK6 _ _ ?_; clear hK6
  refine dS hF [1, 2, 13, 14, 15, 16] ?_
  refine hK3 _ _ _ ?_ ⟨i + 1, rfl, rfl, ?_, ?_, ?_⟩
  ·exact bI
  ·exact bI
  ·exact jZ l0_1 (bKd (by simpa using c1))
  exact dC
 refine eB ?_
 refine hK1 _ _ ?_; clear hK1
 refine aT fun K10 hK10 => ?_
 refine bD hF [1, 2] ?_
 refine bR ?_
 have hsa : l.fSignals.all (qW l) = true := pX l0_1 c0
 refine dV [1, 2, 33, 34, 35] (fun n sF ρ => ∃ i, n = l.fSignals.length - i ∧ sF = [] ∧ (i ≤ l.fSignals.length) ∧ (oO (fun i => decide (iU l (l.fSignals.getD i default).fAt = (i : Int))) i) ∧ ρ = dU O [(1, .mo (esT eJ eJ (jM l.fJoints))), (2, .bx (aK l)), (33, jU l.fSignals), (34, vi (l.fSignals.length : Nat)), (35, vi (i : Nat))]) _ ⟨0, rfl, rfl, ?_, ?_, ?_⟩ ?_
 ·exact bI
 ·exact l4 _
 ·exact dC
 rintro n sF ρ ⟨i, rfl, rfl, l1_0, l1_1, rfl⟩ K12 hK12
 refine bD hF [1, 2, 32, 33, 34, 35] ?_
 refine aT fun K14 hK14 => ?_
 refine cJ (fun c2 => ?_) fun c2 => ?_
 ·refine bN ?_
  refine hK14 _ _ ?_; clear hK14
  refine aT fun K15 hK15 => ?_
  refine bR ?_
  refine bD hF [1, 2, 32, 33, 34, 35] ?_
  refine aT fun K17 hK17 => ?_
  refine e9 hF [1, 2, 7, 8, 32, 33, 34, 35] ?_
  refine eL (iK _ l (l.fSignals.getD i default).fAt) ?_
  refine hK17 _ _ ?_; clear hK17
  refine cJ (fun c3 => ?_) fun c3 => ?_
  ·refine bD hF [] ?_
   refine dD ?_
   (try simp only [eC, fR]); exact aEz 4 rfl (by simp (disch := omega) only [go_sem, seval, seval]) (by simp (disch := omega) only [go_sem, seval, seval]) rfl rfl ⟨rfl, congrArg vi (bSe hsa (rA c2 (decide_eq_false (by simpa using c3)))).symm⟩
  refine bN ?_
  refine hK15 _ _ ?_; clear hK15
  refine dS hF [1, 2, 32, 33, 34, 35] ?_
  refine hK12 _ _ _ ?_ ⟨i + 1, rfl, rfl, ?_, ?_, ?_⟩
  ·exact bI
  ·exact bI
  ·exact mG l1_1 (decide_eq_true (by simpa using c3))
  exact dC
 refine eB ?_
 refine hK10 _ _ ?_; clear hK10
 refine aT fun K19 hK19 => ?_
 refine bD hF [1, 2] ?_
 refine bR ?_
 have hsd : sdB l = true := uO l1_1 (by omega)
 refine dV [1, 2, 48, 49, 50] (fun n sF ρ => ∃ i, n = l.fSignals.length - i ∧ sF = [] ∧ (i ≤ l.fSignals.length) ∧ (l9 (aAp l) l.fSignals i) ∧ ρ = dU O [(1, .mo (esT eJ eJ (jM l.fJoints))), (2, .bx (aK l)), (48, jU l.fSignals), (49, vi (l.fSignals.length : Nat)), (50, vi (i : Nat))]) _ ⟨0, rfl, rfl, ?_, ?_, ?_⟩ ?_
 ·exact bI
 ·exact jW _ _
 ·exact dC
 rintro n sF ρ ⟨i, rfl, rfl, l2_0, l2_1, rfl⟩ K21 hK21
 refine bD hF [1, 2, 47, 48, 49, 50] ?_
 refine aT fun K23 hK23 => ?_
 refine cJ (fun c4 => ?_) fun c4 => ?_
 ·refine bN ?_
  refine hK23 _ _ ?_; clear hK23
  refine aT fun K24 hK24 => ?_
  refine bR ?_
  refine bD hF [1, 2, 47, 48, 49, 50] ?_
  refine aT fun K26 hK26 => ?_
  refine bK (Le.keepC [1, 2, 10, 47, 48, 49, 50] _) ?_
  refine bM ?_
  refine ef hF ?_
  refine ef hF ?_
  refine ef hF ?_
  show gN _ _ _ _ _ _ _ _
  refine dT hF ?_
  refine l5 eJ eJ (s := 1) (M := jM l.fJoints) (a := (l.fSignals.getD i default).fAt) (zb := E0) (ok := true) rfl rfl (by kernel_rfl) (by kernel_rfl) (by simp (disch := omega) only [go_sem, seval] <;> rfl) (by simp (disch := omega) only [go_sem, seval] <;> rfl) (by simp (disch := omega) only [go_sem, seval] <;> rfl) trivial rfl (by kernel_rfl) hi9 hz9 (aXo hl hsa c4) (aUb hl hjo.1) (by rw [mV]; exact hjo.2) ?_
  try simp (disch := omega) only [go_sem, seval]
  simp only [aPv, aTq]
  refine ef hF ?_
  refine ef hF ?_
  refine ef hF ?_
  refine ef hF ?_
  refine ef hF ?_
  refine ef hF ?_
  refine hK26 _ _ ?_; clear hK26
  refine aT fun K27 hK27 => ?_
  refine fD hF ?_
  refine gY [1, 2, 10, 11, 12, 47, 48, 49, 50] [] ?_
  refine lB (fun g1 => dH _ l (dM l.fJoints (l.fSignals.getD i default).fAt).1.fEl) ?_
  refine lB (fun g2 => dH _ l (l.fSignals.getD i default).fAt.fEl) ?_
  refine hK27 _ _ ?_; clear hK27
  refine cJ (fun c5 => ?_) fun c5 => ?_
  ·refine bD hF [] ?_
   refine dD ?_
   (try simp only [eC, fR]); exact aEz 4 rfl (by simp (disch := omega) only [go_sem, seval, seval]) (by simp (disch := omega) only [go_sem, seval, seval]) rfl rfl ⟨rfl, congrArg vi (bIc hsa hsd (nR (f := aAp l) c4 (bGv (by simpa using c5)))).symm⟩
  refine bN ?_
  refine hK24 _ _ ?_; clear hK24
  refine dS hF [1, 2, 47, 48, 49, 50] ?_
  refine hK21 _ _ _ ?_ ⟨i + 1, rfl, rfl, ?_, ?_, ?_⟩
  ·exact bI
  ·exact bI
  ·exact jZ l2_1 (bIu (by simpa using c5))
  exact dC
 refine eB ?_
 refine hK19 _ _ ?_; clear hK19
 refine bD hF [] ?_
 refine dD ?_
 (try simp only [eC, fR]); exact aEz 4 rfl (by simp (disch := omega) only [go_sem, seval, seval]) (by simp (disch := omega) only [go_sem, seval, seval]) rfl rfl ⟨rfl, congrArg vi (bPu hsa hsd (pX l2_1 c4)).symm⟩
end Go.Sg
namespace Go.Sg
open Go.Proofs
open Go.Rv (goodB)
set_option maxRecDepth 20000 in
set_option maxHeartbeats 2000000 in
theorem wY (O : aS) (l : aB) (hl : eK l) : aY Tryz.prog O 72 [.agg (aK l)] (vi (j6 l)) := by
 have hl1 := hl.sec
 have hl2 := hl.el
 have hl3 := hl.jo
 have hl4 := hl.sg
 have hl5 := hl.bl
 refine iL Tryz.func72 rfl (by kernel_rfl) fun w0 I0 A0 => ?_
 have hF := mW w0 I0 (b6 A0) (GOf [])
 refine bD hF [0] ?_
 refine aT fun K1 hK1 => ?_
 refine aT fun K2 hK2 => ?_
 refine e9 hF [1] ?_
 refine eL (rC _ l) ?_
 refine hK2 _ _ ?_; clear hK2
 refine cJ (fun c0 => ?_) fun c0 => ?_
 ·refine bD hF [] ?_
  refine dD ?_
  (try simp only [fR, eC]); refine cW 2 ?_; exact dE.is (by simp (disch := omega) only [go_sem, seval, seval] <;> exact (congrArg vi (bRi c0)).symm) rfl rfl
 refine bN ?_
 refine hK1 _ _ ?_; clear hK1
 refine aT fun K4 hK4 => ?_
 refine aT fun K5 hK5 => ?_
 refine e9 hF [1] ?_
 refine eL (pR _ l hl) ?_
 refine hK5 _ _ ?_; clear hK5
 refine bD hF [1, 3] ?_
 refine cJ (fun c1 => ?_) fun c1 => ?_
 ·refine bD hF [3] ?_
  refine dD ?_
  (try simp only [fR, eC]); refine cW 2 ?_; exact dE.is (by simp (disch := omega) only [go_sem, seval, seval] <;> exact (congrArg vi (bTi c0 c1)).symm) rfl rfl
 refine bN ?_
 refine hK4 _ _ ?_; clear hK4
 refine aT fun K8 hK8 => ?_
 refine aT fun K9 hK9 => ?_
 refine e9 hF [1] ?_
 refine eL (o5 _ l hl) ?_
 refine lB (fun g0 => oT _ l hl) ?_
 refine hK9 _ _ ?_; clear hK9
 refine cJ (fun c2 => ?_) fun c2 => ?_
 ·refine bD hF [] ?_
  refine dD ?_
  (try simp only [fR, eC]); refine cW 2 ?_; exact dE.is (by simp (disch := omega) only [go_sem, seval, seval] <;> exact (congrArg vi (bRx c0 c1 c2)).symm) rfl rfl
 refine bN ?_
 refine hK8 _ _ ?_; clear hK8
 refine aT fun K11 hK11 => ?_
 refine bK (Le.keepC [1] _) ?_
 refine bM ?_
 refine ef hF ?_
 show gN _ _ _ _ _ _ _ _
 refine lZ (cur := []) (rs := []) (s2 := []) rfl rfl rfl (by decide) (by kernel_rfl) (by simp (disch := omega) only [go_sem, seval]) (by simp (disch := omega) only [go_sem, seval]) (by simp (disch := omega) only [go_sem, seval] <;> rfl) (by kernel_rfl) (by simp (disch := omega) only [go_sem, seval] <;> exact List.Perm.refl _) (rV _ l hl) ?_
 rintro rs1 O1 r1 ⟨rfl, og, rfl, hjR⟩
 try simp (disch := omega) only [go_sem, seval]
 refine ef hF ?_
 refine ef hF ?_
 refine ef hF ?_
 refine ef hF ?_
 refine ef hF ?_
 refine hK11 _ _ ?_; clear hK11
 refine aT fun K12 hK12 => ?_
 refine bD hF [1, 4, 5, 23, 25] ?_
 refine cJ (fun c3 => ?_) fun c3 => ?_
 ·refine bD hF [5] ?_
  refine dD ?_
  (try simp only [fR, eC]); refine cW 2 ?_; exact dE.is (by simp (disch := omega) only [go_sem, seval, seval] <;> exact (congrArg vi (bOk c0 c1 c2 c3)).symm) rfl rfl
 refine bN ?_
 refine hK12 _ _ ?_; clear hK12
 refine aT fun K15 hK15 => ?_
 refine aT fun K16 hK16 => ?_
 refine bK (Le.keepC [1, 4, 23, 25] _) ?_
 refine bM ?_
 have hj0 : joI l = 0 := c3
 obtain ⟨g1, k1, rfl, rfl⟩ := hjR hj0
 refine ef hF ?_
 refine ef hF ?_
 show gN _ _ _ _ _ _ _ _
 refine lZ (cur := _) (rs := _) (s2 := []) rfl rfl rfl (by decide) (by kernel_rfl) (by simp (disch := omega) only [go_sem, seval]) (by simp (disch := omega) only [go_sem, seval]) (by simp (disch := omega) only [go_sem, seval] <;> rfl) (by kernel_rfl) (by simp (disch := omega) only [go_sem, seval] <;> exact List.Perm.refl _) (oC _ l g1 k1 hl hj0) ?_
 rintro rs2 O2 r2 ⟨rfl, rfl⟩
 try simp (disch := omega) only [go_sem, seval]
 refine ef hF ?_
 refine hK16 _ _ ?_; clear hK16
 refine bD hF [1, 6] ?_
 refine cJ (fun c4 => ?_) fun c4 => ?_
 ·refine bD hF [6] ?_
  refine dD ?_
  (try simp only [fR, eC]); refine cW 2 ?_; exact dE.is (by simp (disch := omega) only [go_sem, seval, seval] <;> exact (congrArg vi (bPo c0 c1 c2 c3 c4)).symm) rfl rfl
 refine bN ?_
 refine hK15 _ _ ?_; clear hK15
 refine aT fun K19 hK19 => ?_
 refine e9 hF [1] ?_
 refine eL (oU _ l hl) ?_
 refine hK19 _ _ ?_; clear hK19
 refine dD ?_
 (try simp only [fR, eC]); refine cW 2 ?_; exact dE.is (by simp (disch := omega) only [go_sem, seval, seval] <;> exact (congrArg vi (bRn c0 c1 c2 c3 c4)).symm) rfl rfl
end Go.Sg
namespace Go.Sg
open Go.Proofs
abbrev bOd (l : List cG) : DV := rowL 49 2 cE l
section
variable {l : aB}
theorem aQm {js : List gV} (h : js.all (xO l) = true) {e : cG} (h2 : (dM js e).2 = true) : exB l (dM js e).1 = true := by
 induction js with
 | nil => cases h2
 | cons j js ih =>
  rw [List.all_cons, Bool.and_eq_true] at h
  have hj := h.1
  unfold xO at hj
  simp only [Bool.and_eq_true] at hj
  unfold dM at h2 ⊢
  split
  ·exact hj.2.1
  rename_i n1
  rw [if_neg n1] at h2
  split
  ·exact hj.1
  rename_i n2
  rw [if_neg n2] at h2
  exact ih h.2 h2
end
end Go.Sg
namespace Go.Sg
open Go.Proofs
attribute [go_sem] Bool.not_false Bool.not_true
def lH (l : aB) (e : Int) : Bool := decide (0 ≤ e ∧ e < (l.fElements.length : Int))
theorem f7 {l : aB} {e : Int} : lH l e = true ↔ 0 ≤ e ∧ e < (l.fElements.length : Int) := decide_eq_true_iff
theorem bPd {l : aB} {e : Int} : lH l e = false ↔ ¬ (0 ≤ e ∧ e < (l.fElements.length : Int)) := decide_eq_false_iff_not
def lE (l : aB) (s : aW) : Int × Bool := if lH l s.fEl = true then cT (e5 l s.fEl.toNat).fKind s.fIn s.fOut else (0, false)
def bG (l : aB) (s : aW) : cG × Bool := aI l ⟨s.fEl, s.fOut⟩
def cQ (l : aB) (a : cG) : List aW := if lH l a.fEl = true then (cV (e5 l a.fEl.toNat).fKind a.fSide).map (fun o => ⟨a.fEl, a.fSide, o⟩) else []
def fX (l : aB) (q : List aW) : Int := (q.map fun s => if lH l s.fEl = true then (e5 l s.fEl.toNat).fLength else 0).sum
abbrev b8 (l : List aW) : DV := encL 3 bO l
abbrev oY (l : List aW) : DV := rowL 85 3 bO l
theorem u5 {l : aB} {s : aW} (h : lH l s.fEl = false) : lE l s = (0, false) := by unfold lE; rw [if_neg (by rw [h]; simp)]
theorem oD {l : aB} {s : aW} (h : lH l s.fEl = true) : lE l s = cT (e5 l s.fEl.toNat).fKind s.fIn s.fOut := by unfold lE; rw [if_pos h]
theorem aLl {l : aB} {a : cG} (h : lH l a.fEl = false) : cQ l a = [] := by unfold cQ; rw [if_neg (by rw [h]; simp)]
theorem aMl {l : aB} {a : cG} (h : lH l a.fEl = true) : cQ l a = (cV (e5 l a.fEl.toNat).fKind a.fSide).map (fun o => ⟨a.fEl, a.fSide, o⟩) := by unfold cQ; rw [if_pos h]
theorem aCd (k i : Int) : (cV k i).length ≤ 10 := by
 unfold cV mI
 rw [List.length_map]
 exact Nat.le_trans (List.length_filter_le _ _) (by decide)
theorem bQt {q : List Int} {f : Int → aW} {i : Nat} (h : i < q.length) : (q.map f).take (i + 1) = (q.map f).take i ++ [f (q.getD i default)] := by
 rw [List.take_succ_eq_append_getElem (by simpa using h), List.getElem_map, List.getD_eq_getElem?_getD, List.getElem?_eq_getElem h]; rfl
theorem iA (O : aS) (l : aB) (e : Int) : aY Tryz.prog O 136 [.agg (aK l), vi e] (vb (lH l e)) := by
 refine aU 0 rfl (.agg (d := j9 l.fElements) (by simp [aK]) (.sl _ _ _)) fun he => ?_
 refine eE Tryz.func136 ?_
 refine aC [0, 1] ?_
 refine aC [1, 2] ?_
 refine aM ?_
 refine cW 4 ?_
 refine xb ?_
 ((unfold lH; rw [Bool.eq_iff_iff]; simp))
theorem lG (O : aS) (l : aB) (e : Int) : aY Tryz.prog O 60 [.agg (aK l), vi e] (vb (lH l e)) := by
 refine aU 0 rfl (.agg (d := j9 l.fElements) (by simp [aK]) (.sl _ _ _)) fun he => ?_
 refine eE Tryz.func60 ?_
 refine aC [0, 1] ?_
 refine aC [1, 2] ?_
 refine aM ?_
 refine cW 4 ?_
 refine xb ?_
 ((unfold lH; rw [Bool.eq_iff_iff]; simp))
set_option maxHeartbeats 4000000 in
theorem vI (O : aS) (l : aB) (s : aW) (hl : eK l) : aY Tryz.prog O 134 [.agg (aK l), .agg (bO s)] (.tup [vi (lE l s).1, vb (lE l s).2]) := by
 have hl1 := hl.sec
 have hl2 := hl.el
 have hl3 := hl.jo
 have hl4 := hl.sg
 have hl5 := hl.bl
 refine aU 0 rfl (.agg (d := j9 l.fElements) (by simp [aK]) (.sl _ _ _)) fun he => ?_
 refine eE Tryz.func134 ?_
 refine aC [0, 1] ?_
 refine aA fun K1 hK1 => ?_
 refine aA fun K2 hK2 => ?_
 refine bL [2, 3] ?_
 refine eL (iA _ l s.fEl) ?_
 refine hK2 _ ?_; clear hK2
 refine aV (fun c0 => ?_) fun c0 => ?_
 ·refine aC [] ?_
  refine aM ?_
  refine xD (.cons ?_ (.cons ?_ .nil))
  ·exact mC (by simp (disch := omega) only [go_sem, seval] <;> ((rw [u5 (by simpa using c0)]))) rfl rfl
  exact mC (by simp (disch := omega) only [go_sem, seval] <;> ((rw [u5 (by simpa using c0)]))) rfl rfl
 refine aJ ?_
 refine hK1 _ ?_; clear hK1
 refine aA fun K4 hK4 => ?_
 refine eV [2, 3] [] fH (by kernel_rfl) ?_
 simp (disch := omega) only [go_sem, seval]
 repeat refine And.intro (by first | exact f7.1 (by simpa using c0) | exact bS) ?_
 refine dJ (oL _ (e5 l s.fEl.toNat).fKind s.fIn s.fOut) ?_ ?_
 ·rfl
 try simp (disch := omega) only [go_sem, seval]
 repeat refine And.intro (by first | exact f7.1 (by simpa using c0) | exact bS) ?_
 refine hK4 _ ?_; clear hK4
 refine aM ?_
 refine xD (.cons ?_ (.cons ?_ .nil))
 ·exact mC (by simp (disch := omega) only [go_sem, seval] <;> ((rw [oD (by simpa using c0)]))) rfl rfl
 exact mC (by simp (disch := omega) only [go_sem, seval] <;> ((rw [oD (by simpa using c0)]))) rfl rfl
set_option maxHeartbeats 4000000 in
theorem aAm (O : aS) (l : aB) (s : aW) (hl : eK l) : aY Tryz.prog O 103 [.agg (aK l), .agg (bO s)] (.tup [vi (lE l s).1, vb (lE l s).2]) := by
 have hl1 := hl.sec
 have hl2 := hl.el
 have hl3 := hl.jo
 have hl4 := hl.sg
 have hl5 := hl.bl
 refine aU 0 rfl (.agg (d := j9 l.fElements) (by simp [aK]) (.sl _ _ _)) fun he => ?_
 refine eE Tryz.func103 ?_
 refine aC [0, 1] ?_
 refine aA fun K1 hK1 => ?_
 refine aA fun K2 hK2 => ?_
 refine bL [2, 3] ?_
 refine eL (lG _ l s.fEl) ?_
 refine hK2 _ ?_; clear hK2
 refine aV (fun c0 => ?_) fun c0 => ?_
 ·refine aC [] ?_
  refine aM ?_
  refine xD (.cons ?_ (.cons ?_ .nil))
  ·exact mC (by simp (disch := omega) only [go_sem, seval] <;> ((rw [u5 (by simpa using c0)]))) rfl rfl
  exact mC (by simp (disch := omega) only [go_sem, seval] <;> ((rw [u5 (by simpa using c0)]))) rfl rfl
 refine aJ ?_
 refine hK1 _ ?_; clear hK1
 refine aA fun K4 hK4 => ?_
 refine eV [2, 3] [] fH (by kernel_rfl) ?_
 simp (disch := omega) only [go_sem, seval]
 repeat refine And.intro (by first | exact f7.1 (by simpa using c0) | exact bS) ?_
 refine dJ (rG _ (e5 l s.fEl.toNat).fKind s.fIn s.fOut) ?_ ?_
 ·rfl
 try simp (disch := omega) only [go_sem, seval]
 repeat refine And.intro (by first | exact f7.1 (by simpa using c0) | exact bS) ?_
 refine hK4 _ ?_; clear hK4
 refine aM ?_
 refine xD (.cons ?_ (.cons ?_ .nil))
 ·exact mC (by simp (disch := omega) only [go_sem, seval] <;> ((rw [oD (by simpa using c0)]))) rfl rfl
 exact mC (by simp (disch := omega) only [go_sem, seval] <;> ((rw [oD (by simpa using c0)]))) rfl rfl
set_option maxHeartbeats 4000000 in
theorem nZ (O : aS) (l : aB) (a : cG) (hl : eK l) : aY Tryz.prog O 132 [.agg (aK l), .agg (cE a)] (b8 (cQ l a)) := by
 have hl1 := hl.sec
 have hl2 := hl.el
 have hl3 := hl.jo
 have hl4 := hl.sg
 have hl5 := hl.bl
 have hlg := aCd (e5 l a.fEl.toNat).fKind a.fSide
 refine aU 0 rfl (.agg (d := j9 l.fElements) (by simp [aK]) (.sl _ _ _)) fun he => ?_
 refine eE Tryz.func132 ?_
 refine aC [0, 1] ?_
 refine aA fun K1 hK1 => ?_
 refine aA fun K2 hK2 => ?_
 refine bL [2, 3] ?_
 refine eL (iA _ l a.fEl) ?_
 refine hK2 _ ?_; clear hK2
 refine aV (fun c0 => ?_) fun c0 => ?_
 ·refine aC [] ?_
  refine qN 4 3 bO rfl rfl ?_
  refine aM ?_
  refine cW 4 ?_
  exact dE.encL rfl (by (rw [aLl (by simpa using c0)]))
 refine aJ ?_
 refine hK1 _ ?_; clear hK1
 refine aC [2, 3] ?_
 refine aA fun K5 hK5 => ?_
 refine aA fun K6 hK6 => ?_
 refine eV [2, 3, 5] [] fH (by kernel_rfl) ?_
 simp (disch := omega) only [go_sem, seval]
 repeat refine And.intro (by first | exact f7.1 (by simpa using c0) | exact bS) ?_
 refine dJ (tK _ (e5 l a.fEl.toNat).fKind a.fSide) ?_ ?_
 ·rfl
 try simp (disch := omega) only [go_sem, seval]
 repeat refine And.intro (by first | exact f7.1 (by simpa using c0) | exact bS) ?_
 refine hK6 _ ?_; clear hK6
 refine aL ?_
 refine gZ 5 85 3 bO rfl rfl ?_
 refine aZ [3, 5, 22, 23, 24] (fun n ρ => ∃ i, n = (cV (e5 l a.fEl.toNat).fKind a.fSide).length - i ∧ (i ≤ (cV (e5 l a.fEl.toNat).fKind a.fSide).length) ∧ ρ = dU O [(3, .bx (cE a)), (5, oY (((cV (e5 l a.fEl.toNat).fKind a.fSide).map fun o => (⟨a.fEl, a.fSide, o⟩ : aW)).take i)), (22, dL (cV (e5 l a.fEl.toNat).fKind a.fSide)), (23, vi ((cV (e5 l a.fEl.toNat).fKind a.fSide).length : Nat)), (24, vi (i : Nat))]) _ ⟨0, rfl, ?_, ?_⟩ ?_
 ·exact bI
 ·exact dC
 rintro n ρ ⟨i, rfl, l0_0, rfl⟩ K7 hK7
 refine aC [3, 5, 22, 23, 24] ?_
 refine aA fun K9 hK9 => ?_
 refine aV (fun c1 => ?_) fun c1 => ?_
 ·refine aJ ?_
  refine hK9 _ ?_; clear hK9
  refine aA fun K10 hK10 => ?_
  refine aL ?_
  refine aC [3, 5, 22, 23, 24] ?_
  refine bE [3, 5, 7, 22, 23, 24] ?_
  refine hK10 _ ?_; clear hK10
  refine aX [3, 5, 22, 23, 24] (by kernel_rfl) ?_
  simp (disch := omega) only [go_sem, seval]
  repeat refine And.intro (by first | exact bS | (rw [List.length_map]; exact Nat.le_refl _) | (simp only [List.length_take, List.length_map, List.length_append, List.length_singleton]; omega)) ?_
  refine hK7 _ _ ?_ ⟨i + 1, rfl, ?_, ?_⟩
  ·exact bI
  ·exact bI
  simp (disch := omega) only [go_sem, seval] <;> (rw [bQt c1, List.map_append]; rfl)
 refine bA ?_
 refine hK5 _ ?_; clear hK5
 refine aA fun K12 hK12 => ?_
 refine fG 5 _ rfl rfl ?_
 refine bE [5] ?_
 refine hK12 _ ?_; clear hK12
 refine aM ?_
 refine cW 4 ?_
 exact dE.encL rfl (by (rw [aMl (by simpa using c0), List.take_of_length_le (by simpa using c1)]))
set_option maxRecDepth 20000 in
set_option maxHeartbeats 4000000 in
theorem mR (O : aS) (l : aB) (a : cG) (hl : eK l) : aY Tryz.prog O 54 [.agg (aK l), .agg (cE a)] (b8 (cQ l a)) := by
 have hl1 := hl.sec
 have hl2 := hl.el
 have hl3 := hl.jo
 have hl4 := hl.sg
 have hl5 := hl.bl
 have hlg := aCd (e5 l a.fEl.toNat).fKind a.fSide
 refine aU 0 rfl (.agg (d := j9 l.fElements) (by simp [aK]) (.sl _ _ _)) fun he => ?_
 refine eE Tryz.func54 ?_
 refine aC [0, 1] ?_
 refine aA fun K1 hK1 => ?_
 refine aA fun K2 hK2 => ?_
 refine bL [2, 3] ?_
 refine eL (lG _ l a.fEl) ?_
 refine hK2 _ ?_; clear hK2
 refine aV (fun c0 => ?_) fun c0 => ?_
 ·refine aC [] ?_
  refine qN 4 3 bO rfl rfl ?_
  refine aM ?_
  refine cW 4 ?_
  exact dE.encL rfl (by (rw [aLl (by simpa using c0)]))
 refine aJ ?_
 refine hK1 _ ?_; clear hK1
 refine aA fun K4 hK4 => ?_
 refine eV [2, 3] [(5, 22)] fH (by kernel_rfl) ?_
 simp (disch := omega) only [go_sem, seval]
 repeat refine And.intro (by first | exact f7.1 (by simpa using c0) | exact bS) ?_
 refine dJ (aAy _ (e5 l a.fEl.toNat).fKind a.fSide) ?_ ?_
 ·rfl
 try simp (disch := omega) only [go_sem, seval]
 repeat refine And.intro (by first | exact f7.1 (by simpa using c0) | exact bS) ?_
 refine hK4 _ ?_; clear hK4
 refine aC [3, 5] ?_
 refine aA fun K6 hK6 => ?_
 refine aC [3, 5, 6] ?_
 refine aL ?_
 refine gZ 6 85 3 bO rfl rfl ?_
 refine aZ [3, 6, 5, 7] (fun n ρ => ∃ i, n = (cV (e5 l a.fEl.toNat).fKind a.fSide).length - i ∧ (i ≤ (cV (e5 l a.fEl.toNat).fKind a.fSide).length) ∧ ρ = dU O [(3, .bx (cE a)), (6, oY (((cV (e5 l a.fEl.toNat).fKind a.fSide).map fun o => (⟨a.fEl, a.fSide, o⟩ : aW)).take i)), (5, dL (cV (e5 l a.fEl.toNat).fKind a.fSide)), (7, vi (i : Nat))]) _ ⟨0, rfl, ?_, ?_⟩ ?_
 ·exact bI
 ·exact dC
 rintro n ρ ⟨i, rfl, l0_0, rfl⟩ K8 hK8
 refine aA fun K9 hK9 => ?_
 refine aC [3, 5, 6, 7] ?_
 refine aV (fun c1 => ?_) fun c1 => ?_
 ·refine aJ ?_
  refine hK9 _ ?_; clear hK9
  refine aA fun K11 hK11 => ?_
  refine aL ?_
  refine aCg 13 [3, 5, 6, 7] [3, 5, 7, 30, 31, 32, 33, 34, 35, 36, 37, 38, 39, 40, 29, 6] [10] [(6, 40)] [[], [], [1], [], [3], [], [], [5, 6], [5, 6, 7], [1, 2, 3, 4, 5, 6, 7, 8], [1, 2, 3, 4, 5, 6, 7, 8, 9], [0, 1, 2, 3, 4, 5, 6, 7, 8, 9, 10], [0, 1, 2, 3, 4, 5, 6, 7, 8, 9, 10, 11]] [[11, 12], [11, 12], [11, 12], [11, 12], [11, 12], [11, 12], [11, 12], [11, 12], [11, 12], [11, 12], [11, 12], [12], []] (fun bQ => dU O [(3, .bx (cE a)), (5, dL (cV (e5 l a.fEl.toNat).fKind a.fSide)), (7, vi (i : Nat)), (30, bJ (bQ 1) (.bp 3 0)), (31, bJ (bQ 2) (vi a.fEl)), (32, bJ (bQ 3) (.bp 3 1)), (33, bJ (bQ 4) (vi a.fSide)), (34, bJ (bQ 5) (dL (cV (e5 l a.fEl.toNat).fKind a.fSide))), (35, bJ (bQ 6) (vi (i : Nat))), (36, bJ (bQ 7) (.dp [vi ((cV (e5 l a.fEl.toNat).fKind a.fSide).getD i default)])), (37, bJ (bQ 8) (vi ((cV (e5 l a.fEl.toNat).fKind a.fSide).getD i default))), (38, bJ (bQ 9) (.agg [vi a.fEl, vi a.fSide, vi ((cV (e5 l a.fEl.toNat).fKind a.fSide).getD i default)])), (39, bJ (bQ 10) (.row 85 3 [[vi a.fEl, vi a.fSide, vi ((cV (e5 l a.fEl.toNat).fKind a.fSide).getD i default)]])), (40, bJ (bQ 11) (.row 85 3 (((((cV (e5 l a.fEl.toNat).fKind a.fSide).map fun o => (⟨a.fEl, a.fSide, o⟩ : aW)).take i).map bO) ++ [[vi a.fEl, vi a.fSide, vi ((cV (e5 l a.fEl.toNat).fKind a.fSide).getD i default)]]))), (29, pD (bQ 11) (bQ 0) (.any) (.own 6 ((((cV (e5 l a.fEl.toNat).fKind a.fSide).map fun o => (⟨a.fEl, a.fSide, o⟩ : aW)).take i).length))), (6, pD (bQ 12) (!bQ 11) (.own 40 ((((cV (e5 l a.fEl.toNat).fKind a.fSide).map fun o => (⟨a.fEl, a.fSide, o⟩ : aW)).take i).length + 1)) (.row 85 3 (((((cV (e5 l a.fEl.toNat).fKind a.fSide).map fun o => (⟨a.fEl, a.fSide, o⟩ : aW)).take i).map bO))))]) (fun iQ hiQ oQ hoQ bQ hbQ KQ hKQ => ?_) ?_
  ·match iQ, hiQ with
   | 0, _ | 1, _ | 2, _ | 3, _ | 4, _ | 5, _ | 6, _ | 7, _ | 8, _ | 9, _ | 11, _ | 12, _ =>
    obtain rfl := Option.some.inj hoQ
    simp only [sO, j0, j8, List.getD_cons_succ, List.getD_cons_zero, List.getD_nil, and_true, true_and] at hbQ
    show qY _ _ _ false _ _
    simp (disch := omega) only [go_sem, seval, hbQ]
    repeat refine And.intro (by first | exact bS | (rw [List.length_map]; exact Nat.le_refl _) | (simp only [List.length_take, List.length_map, List.length_append, List.length_singleton]; omega)) ?_
    refine hKQ _ ?_
    simp (disch := omega) only [go_sem, seval, hbQ] <;> first | rfl | simp
   | 10, _ =>
    obtain rfl := Option.some.inj hoQ
    simp only [sO, j0, j8, List.getD_cons_succ, List.getD_cons_zero, List.getD_nil, and_true, true_and] at hbQ
    show qY _ _ _ true _ _
    simp (disch := omega) only [go_sem, seval, hbQ]
    repeat refine And.intro (by first | exact bS | (rw [List.length_map]; exact Nat.le_refl _) | (simp only [List.length_take, List.length_map, List.length_append, List.length_singleton]; omega)) ?_
    refine hKQ _ ?_
    simp (disch := omega) only [go_sem, seval, hbQ] <;> first | rfl | simp
  simp (disch := omega) only [go_sem, seval]
  repeat refine And.intro (by first | exact bS | (rw [List.length_map]; exact Nat.le_refl _) | (simp only [List.length_take, List.length_map, List.length_append, List.length_singleton]; omega)) ?_
  refine hK11 _ ?_; clear hK11
  refine bE [3, 5, 6, 7] ?_
  refine hK8 _ _ ?_ ⟨i + 1, rfl, ?_, ?_⟩
  ·exact bI
  ·exact bI
  simp (disch := omega) only [go_sem, seval] <;> (rw [bQt c1, List.map_append]; rfl)
 refine bA ?_
 refine hK6 _ ?_; clear hK6
 refine aA fun K12 hK12 => ?_
 refine fG 6 _ rfl rfl ?_
 refine bE [6] ?_
 refine hK12 _ ?_; clear hK12
 refine aM ?_
 refine cW 4 ?_
 exact dE.encL rfl (by (rw [aMl (by simpa using c0), List.take_of_length_le (by simpa using c1)]))
set_option maxHeartbeats 2000000 in
theorem s5 (O : aS) (l : aB) (s : aW) : aY Tryz.prog O 216 [.agg (bO s), .dp (aK l)] (.tup [.agg (cE (bG l s).1), vb (bG l s).2]) := by
 refine eE Tryz.func216 ?_
 refine aC [0, 1] ?_
 refine aA fun K1 hK1 => ?_
 refine bL [1, 2, 3] ?_
 refine eL (iH _ l ⟨s.fEl, s.fOut⟩) ?_
 refine hK1 _ ?_; clear hK1
 refine aM ?_
 refine xD (.cons ?_ (.cons ?_ .nil))
 ·exact roC (by simp (disch := omega) only [go_sem, seval] <;> rfl) (by simp (disch := omega) only [go_sem, seval] <;> (first | rfl | (simp_all; done))) (by kernel_rfl) (by first | rfl | (simp (disch := omega) only [go_sem, seval]))
 exact mC (by simp (disch := omega) only [go_sem, seval] <;> (first | rfl | (simp_all; done))) rfl rfl
set_option maxHeartbeats 2000000 in
theorem rL (O : aS) (l : aB) (s : aW) : aY Tryz.prog O 55 [.agg (aK l), .agg (bO s)] (.tup [.agg (cE (bG l s).1), vb (bG l s).2]) := by
 refine eE Tryz.func55 ?_
 refine aC [0, 1] ?_
 refine aA fun K1 hK1 => ?_
 refine bL [2, 3, 4] ?_
 refine eL (oW _ l ⟨s.fEl, s.fOut⟩) ?_
 refine hK1 _ ?_; clear hK1
 refine aM ?_
 refine xD (.cons ?_ (.cons ?_ .nil))
 ·exact roC (by simp (disch := omega) only [go_sem, seval] <;> rfl) (by simp (disch := omega) only [go_sem, seval] <;> (first | rfl | (simp_all; done))) (by kernel_rfl) (by first | rfl | (simp (disch := omega) only [go_sem, seval]))
 exact mC (by simp (disch := omega) only [go_sem, seval] <;> (first | rfl | (simp_all; done))) rfl rfl
end Go.Sg
