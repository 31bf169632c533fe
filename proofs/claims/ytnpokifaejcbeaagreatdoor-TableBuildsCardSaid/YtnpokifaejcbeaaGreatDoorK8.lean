/- Several texts as one. -/
import Derived.Test.YtnpokifaejcbeaaGreatDoorK7
set_option linter.unusedSectionVars false
set_option linter.unusedVariables false
set_option linter.unusedSimpArgs false
set_option maxRecDepth 20000
namespace Go.Sg
open Go.Proofs
open Go.Rv (goodB)
def tI (l : aC) (s : bB) : Int := if pS l s.fEl = true then (d7 l s.fEl.toNat).fLength else 0
theorem s8 (l : aC) {q : List bB} {i : Nat} (h : i < q.length) : fL l (q.take (i + 1)) = fL l (q.take i) + tI l (q.getD i default) := by
 rw [fP default h]; unfold fL tI; rw [List.map_append, List.sum_append]; simp
theorem aEd {l : aC} (he : kT l = true) (s : bB) : 0 ≤ tI l s ∧ tI l s ≤ 1000000 := by
 unfold tI
 split
 ·rename_i h
  have h := gX.1 h
  have := s7 (f := qD l) he (i := s.fEl.toNat) (by omega)
  unfold qD at this
  have := of_decide_eq_true this
  show 0 ≤ (l.fElements.getD s.fEl.toNat default).fLength ∧ (l.fElements.getD s.fEl.toNat default).fLength ≤ 1000000
  omega
 omega
theorem aEt {l : aC} (he : kT l = true) (q : List bB) : ∀ i, 0 ≤ fL l (q.take i) ∧ fL l (q.take i) ≤ 1000000 * (i : Int)
 | 0 => by simp [fL]
 | i + 1 => by
  have ih := aEt he q i
  by_cases h : i < q.length
  ·rw [s8 l h]
   have := aEd he (q.getD i default)
   omega
  rw [List.take_of_length_le (by omega)] at ih ⊢
  omega
def aEz (q : List Int) (x : Int) : List Int := if x ∈ q then q else q ++ [x]
def kW (l : aC) (q : List Int) (s : bB) : List Int := if pS l s.fEl = true then aEz q (d7 l s.fEl.toNat).fSection else q
def dZ (l : aC) (q : List bB) : List Int := q.foldl (kW l) []
theorem s5 (l : aC) {q : List bB} {i : Nat} (h : i < q.length) : dZ l (q.take (i + 1)) = kW l (dZ l (q.take i)) (q.getD i default) := by
 rw [fP default h]; unfold dZ; rw [List.foldl_append]; rfl
theorem aRx (l : aC) {q : List bB} {i : Nat} (h : i < q.length) (he : pS l (q.getD i default).fEl = false) : dZ l (q.take (i + 1)) = dZ l (q.take i) := by
 rw [s5 l h]; unfold kW; rw [he]; rfl
theorem aTm (l : aC) {q : List bB} {i : Nat} (h : i < q.length) (hm : (d7 l (q.getD i default).fEl.toNat).fSection ∈ dZ l (q.take i)) : dZ l (q.take (i + 1)) = dZ l (q.take i) := by
 rw [s5 l h]; unfold kW aEz; rw [if_pos hm]; split <;> rfl
theorem aXl (l : aC) {q : List bB} {i : Nat} (h : i < q.length) (he : pS l (q.getD i default).fEl = true) (hm : (d7 l (q.getD i default).fEl.toNat).fSection ∉ dZ l (q.take i)) : dZ l (q.take (i + 1)) = dZ l (q.take i) ++ [(d7 l (q.getD i default).fEl.toNat).fSection] := by
 rw [s5 l h]; unfold kW aEz; rw [if_pos he, if_neg hm]
theorem aEi (l : aC) (q : List bB) : ∀ i, (dZ l (q.take i)).Nodup
 | 0 => by simp [dZ]
 | i + 1 => by
  have ih := aEi l q i
  by_cases h : i < q.length
  ·rw [s5 l h]
   unfold kW aEz
   split
   ·split
    ·exact ih
    rename_i hn
    rw [List.nodup_append]
    exact ⟨ih, by simp, fun a ha b hb e => hn (by simp only [List.mem_singleton] at hb; rw [← hb, ← e]; exact ha)⟩
   exact ih
  rw [List.take_of_length_le (by omega)] at ih ⊢; exact ih
theorem tN (l : aC) (q : List bB) : ∀ i, (dZ l (q.take i)).length ≤ i
 | 0 => by simp [dZ]
 | i + 1 => by
  have ih := tN l q i
  by_cases h : i < q.length
  ·rw [s5 l h]
   unfold kW aEz
   split
   ·split
    ·omega
    rw [List.length_append]; simp; omega
   omega
  rw [List.take_of_length_le (by omega)] at ih ⊢; omega
def mtS (q : List Int) : List (Int × Bool) := q.map fun x => (x, true)
theorem zW (q : List Int) : (mtS q).map (·.1) = q := by unfold mtS; rw [List.map_map]; exact List.map_id _
theorem aOt (q : List Int) (a : Int) : (f0 (mtS q) a).getD false = decide (a ∈ q) := by
 unfold mtS
 induction q with
 | nil => rfl
 | cons x l ih =>
  rw [List.map_cons]
  unfold f0
  by_cases h : x = a
  ·subst h; simp
  rw [if_neg h, ih]; simp [Ne.symm h]
theorem bAf {q : List Int} {a : Int} (h : a ∉ q) : lB (mtS q) a true = mtS (q ++ [a]) := by
 rw [nW (fun p hp e => h (by rw [← zW q, ← e]; exact List.mem_map.2 ⟨p, hp, rfl⟩))]
 unfold mtS
 rw [List.map_append]; rfl
theorem bEf {rl : List Int} {i : Nat} (h : i < rl.length) : ((rl.map eI).getD i []).getD 0 .any = vi (rl.getD i default) := by
 rw [List.getD_eq_getElem?_getD (l := rl.map eI), List.getElem?_map, List.getElem?_eq_getElem h, List.getD_eq_getElem?_getD (l := rl), List.getElem?_eq_getElem h]; rfl
theorem bDq {rl : List Int} {i : Nat} (h : i < rl.length) : (0 < ((rl.map eI).getD i []).length) = True := by
 rw [List.getD_eq_getElem?_getD (l := rl.map eI), List.getElem?_map, List.getElem?_eq_getElem h]; simp [eI]
def bIz (x : Int) (y : Int) : Bool := decide (y ≠ x)
theorem bOj {q : List Int} {x : Int} {i : Nat} (h : gU (bIz x) q i) (g : q.length ≤ i) : x ∉ q := fun hm => by
 have := List.all_eq_true.1 (kJ h g) x hm
 unfold bIz at this
 simp at this
theorem aAv (O : aU) (l : aC) (q : List bB) (hl : dX l) (hes : kT l = true) (hq : q.length ≤ 100) : aW Tryz.prog O 129 [.agg (aI l), bN q] (vi (fL l q)) := by
 have hl1 := hl.sec
 have hl2 := hl.el
 have hl3 := hl.jo
 have hl4 := hl.sg
 have hl5 := hl.bl
 refine aO 0 rfl (.agg (d := f5 l.fElements) (by simp [aI]) (.sl _ _ _)) fun he => ?_
 refine aO 1 rfl (.sl _ _ _) fun hql => ?_
 refine dT Tryz.func129 ?_
 refine aB [0, 1] ?_
 refine aB [1, 2] ?_
 refine aA fun K2 hK2 => ?_
 refine aB [1, 2, 5] ?_
 refine aK ?_
 refine aX [2, 5, 8, 9, 10] (fun n ρ => ∃ i, n = q.length - i ∧ (i ≤ q.length) ∧ ρ = cU O [(2, .bx (aI l)), (5, vi (fL l (q.take i))), (8, bN q), (9, vi (q.length : Nat)), (10, vi (i : Nat))]) _ ⟨0, rfl, ?_, ?_⟩ ?_
 ·exact bD
 ·simp (disch := omega) only [go_sem, seval] <;> rfl
 rintro n ρ ⟨i, rfl, l0_0, rfl⟩ K4 hK4
 have hlb := aEt hes q i
 have heb := aEd hes (q.getD i default)
 refine aB [1, 2, 5, 8, 9, 10] ?_
 refine aA fun K6 hK6 => ?_
 refine aS (fun c0 => ?_) fun c0 => ?_
 ·refine aJ ?_
  refine hK6 _ ?_; clear hK6
  refine aA fun K7 hK7 => ?_
  refine aK ?_
  refine aB [1, 2, 5, 8, 9, 10] ?_
  refine aA fun K9 hK9 => ?_
  refine bF [1, 2, 5, 7, 8, 9, 10] ?_
  refine dM (iM _ l (q.getD i default).fEl) ?_
  refine hK9 _ ?_; clear hK9
  refine aS (fun c1 => ?_) fun c1 => ?_
  ·have hex := gX.1 c1
   have heq : tI l (q.getD i default) = (l.fElements.getD (q.getD i default).fEl.toNat default).fLength := by unfold tI; rw [if_pos c1]
   rw [heq] at heb
   refine bC [1, 2, 5, 7, 8, 9, 10] ?_
   refine hK7 _ ?_; clear hK7
   refine bC [1, 2, 5, 8, 9, 10] ?_
   refine hK4 _ _ ?_ ⟨i + 1, rfl, ?_, ?_⟩
   ·exact bD
   ·exact bD
   simp (disch := omega) only [go_sem, seval] <;> (rw [s8 l (by assumption), heq]; rfl)
  refine aJ ?_
  refine hK7 _ ?_; clear hK7
  refine bC [1, 2, 5, 8, 9, 10] ?_
  refine hK4 _ _ ?_ ⟨i + 1, rfl, ?_, ?_⟩
  ·exact bD
  ·exact bD
  simp (disch := omega) only [go_sem, seval] <;> (rw [s8 l (by assumption)]; unfold tI; rw [if_neg (by simpa using c1)]; simp)
 refine bA ?_
 refine hK2 _ ?_; clear hK2
 refine aB [5] ?_
 refine aL ?_
 refine b6 4 ?_
 exact cP.is (by simp (disch := omega) only [go_sem, seval] <;> ((rw [List.take_of_length_le (by omega)]))) rfl rfl
theorem pD (O : aU) (l : aC) (q : List bB) (hl : dX l) (hes : kT l = true) (hq : q.length ≤ 100) : aW Tryz.prog O 22 [.agg (aI l), bN q] (vi (fL l q)) := by
 have hl1 := hl.sec
 have hl2 := hl.el
 have hl3 := hl.jo
 have hl4 := hl.sg
 have hl5 := hl.bl
 refine aO 0 rfl (.agg (d := f5 l.fElements) (by simp [aI]) (.sl _ _ _)) fun he => ?_
 refine aO 1 rfl (.sl _ _ _) fun hql => ?_
 refine dT Tryz.func22 ?_
 refine aB [0, 1] ?_
 refine aB [1, 2] ?_
 refine aA fun K2 hK2 => ?_
 refine aB [1, 2, 5] ?_
 refine aK ?_
 refine aX [1, 2, 5, 6] (fun n ρ => ∃ i, n = q.length - i ∧ (i ≤ q.length) ∧ ρ = cU O [(1, bN q), (2, .bx (aI l)), (5, vi (fL l (q.take i))), (6, vi (i : Nat))]) _ ⟨0, rfl, ?_, ?_⟩ ?_
 ·exact bD
 ·simp (disch := omega) only [go_sem, seval] <;> rfl
 rintro n ρ ⟨i, rfl, l0_0, rfl⟩ K4 hK4
 have hlb := aEt hes q i
 have heb := aEd hes (q.getD i default)
 refine aA fun K5 hK5 => ?_
 refine aB [1, 2, 5, 6] ?_
 refine aS (fun c0 => ?_) fun c0 => ?_
 ·refine aJ ?_
  refine hK5 _ ?_; clear hK5
  refine aA fun K7 hK7 => ?_
  refine aK ?_
  refine aA fun K8 hK8 => ?_
  refine e5 [1, 2, 5, 6] [] ?_
  refine cdz (jE _ l (q.getD i default).fEl) ?_
  refine hK8 _ ?_; clear hK8
  refine aS (fun c1 => ?_) fun c1 => ?_
  ·have hex := gX.1 c1
   have heq : tI l (q.getD i default) = (l.fElements.getD (q.getD i default).fEl.toNat default).fLength := by unfold tI; rw [if_pos c1]
   rw [heq] at heb
   refine e5 [1, 2, 5, 6] [] ?_
   refine hK7 _ ?_; clear hK7
   refine bC [1, 2, 5, 6] ?_
   refine hK4 _ _ ?_ ⟨i + 1, rfl, ?_, ?_⟩
   ·exact bD
   ·exact bD
   simp (disch := omega) only [go_sem, seval] <;> (rw [s8 l (by assumption), heq]; rfl)
  refine aJ ?_
  refine hK7 _ ?_; clear hK7
  refine bC [1, 2, 5, 6] ?_
  refine hK4 _ _ ?_ ⟨i + 1, rfl, ?_, ?_⟩
  ·exact bD
  ·exact bD
  simp (disch := omega) only [go_sem, seval] <;> (rw [s8 l (by assumption)]; unfold tI; rw [if_neg (by simpa using c1)]; simp)
 refine bA ?_
 refine hK2 _ ?_; clear hK2
 refine aB [5] ?_
 refine aL ?_
 refine b6 4 ?_
 exact cP.is (by simp (disch := omega) only [go_sem, seval] <;> ((rw [List.take_of_length_le (by omega)]))) rfl rfl
section
attribute [local go_sem] bEf bDq List.length_map Nat.mul_one Nat.add_zero
theorem aBb (O : aU) (rl : List Int) (s : Nat) (x : Int) (hO : O s = .row 3 1 (rl.map eI)) (hb : rl.length ≤ 1000) : aW Tryz.prog O 153 [.own s rl.length, vi x] (vb (decide (x ∈ rl))) := by
 have hx : bW O (s + 100000) = .row 3 1 (rl.map eI) := by rw [bX, hO]; rfl
 refine dT Tryz.func153 ?_
 refine aA fun K0 hK0 => ?_
 refine a7 [0, 1] (by kernel_rfl) ?_
 simp (disch := omega) only [go_sem, seval, hx]
 repeat refine And.intro bS ?_
 refine hK0 _ ?_; clear hK0
 refine aA fun K1 hK1 => ?_
 refine aA fun K2 hK2 => ?_
 refine a7 [0, 1] (by kernel_rfl) ?_
 simp (disch := omega) only [go_sem, seval, hx]
 repeat refine And.intro bS ?_
 refine hK2 _ ?_; clear hK2
 refine aK ?_
 refine aX [0, 1, 5] (fun n ρ => ∃ i, n = rl.length - i ∧ (i ≤ rl.length) ∧ (gU (bIz x) rl i) ∧ ρ = cU O [(0, .own (s + 100000) rl.length), (1, vi x), (5, vi (i : Nat))]) _ ⟨0, rfl, ?_, ?_, ?_⟩ ?_
 ·exact bD
 ·exact fH _ _
 ·simp (disch := omega) only [go_sem, seval, hx] <;> first | rfl | omega | simp | simp_all
 rintro n ρ ⟨i, rfl, l0_0, l0_1, rfl⟩ K3 hK3
 refine aA fun K4 hK4 => ?_
 refine aA fun K5 hK5 => ?_
 refine a7 [0, 1, 5] (by kernel_rfl) ?_
 simp (disch := omega) only [go_sem, seval, hx]
 repeat refine And.intro bS ?_
 refine hK5 _ ?_; clear hK5
 refine aS (fun c0 => ?_) fun c0 => ?_
 ·refine aJ ?_
  refine hK4 _ ?_; clear hK4
  refine aA fun K6 hK6 => ?_
  refine aK ?_
  refine aA fun K7 hK7 => ?_
  refine a7 [0, 1, 5] (by kernel_rfl) ?_
  simp (disch := omega) only [go_sem, seval, hx]
  repeat refine And.intro bS ?_
  refine hK7 _ ?_; clear hK7
  refine aS (fun c1 => ?_) fun c1 => ?_
  ·refine aA fun K8 hK8 => ?_
   refine a7 [] (by kernel_rfl) ?_
   simp (disch := omega) only [go_sem, seval, hx]
   repeat refine And.intro bS ?_
   refine hK8 _ ?_; clear hK8
   refine aL ?_
   refine dC 4 rfl (by simp (disch := omega) only [go_sem, seval, hx]) ?_
   exact cP.is (by simp (disch := omega) only [go_sem, seval, hx] <;> refine congrArg vb ?_ <;> ((symm; exact decide_eq_true (c1 ▸ fS c0)))) rfl rfl
  refine aJ ?_
  refine hK6 _ ?_; clear hK6
  refine a7 [0, 1, 5] (by kernel_rfl) ?_
  simp (disch := omega) only [go_sem, seval, hx]
  repeat refine And.intro bS ?_
  refine hK3 _ _ ?_ ⟨i + 1, rfl, ?_, ?_, ?_⟩
  ·exact bD
  ·exact bD
  ·exact fI l0_1 (decide_eq_true (by simpa using c1))
  simp (disch := omega) only [go_sem, seval, hx] <;> first | rfl | omega | simp | simp_all
 refine bA ?_
 refine hK1 _ ?_; clear hK1
 refine aA fun K9 hK9 => ?_
 refine a7 [] (by kernel_rfl) ?_
 simp (disch := omega) only [go_sem, seval, hx]
 repeat refine And.intro bS ?_
 refine hK9 _ ?_; clear hK9
 refine aL ?_
 refine dC 4 rfl (by simp (disch := omega) only [go_sem, seval, hx]) ?_
 exact cP.is (by simp (disch := omega) only [go_sem, seval, hx] <;> refine congrArg vb ?_ <;> ((symm; exact decide_eq_false (bOj l0_1 c0)))) rfl rfl
end
set_option maxRecDepth 20000 in
set_option maxHeartbeats 2000000 in
theorem oG (O : aU) (l : aC) (q : List bB) (hl : dX l) (hes : kT l = true) (hq : q.length ≤ 100) : aW Tryz.prog O 87 [.agg (aI l), bN q] (b9 (dZ l q)) := by
 have hl1 := hl.sec
 have hl2 := hl.el
 have hl3 := hl.jo
 have hl4 := hl.sg
 have hl5 := hl.bl
 obtain ⟨i4, hi4, hz4⟩ := bFv
 refine aO 0 rfl (.agg (d := f5 l.fElements) (by simp [aI]) (.sl _ _ _)) fun he => ?_
 refine aO 1 rfl (.sl _ _ _) fun hql => ?_
 refine dT Tryz.func87 ?_
 refine aB [0, 1] ?_
 refine aB [1, 2] ?_
 refine aB [1, 2, 5] ?_
 refine aA fun K3 hK3 => ?_
 refine aB [1, 2, 5, 6] ?_
 refine aK ?_
 refine d9 5 3 1 eI rfl rfl ?_
 refine aX [2, 5, 6, 11, 12, 13] (fun n ρ => ∃ i, n = q.length - i ∧ (i ≤ q.length) ∧ ρ = cU O [(2, .bx (aI l)), (5, yT (dZ l (q.take i))), (6, .mo (esT nE qJ (mtS (dZ l (q.take i))))), (11, bN q), (12, vi (q.length : Nat)), (13, vi (i : Nat))]) _ ⟨0, rfl, ?_, ?_⟩ ?_
 ·exact bD
 ·exact cD
 rintro n ρ ⟨i, rfl, l0_0, rfl⟩ K5 hK5
 have hsl := tN l q i
 refine aB [1, 2, 5, 6, 11, 12, 13] ?_
 refine aA fun K7 hK7 => ?_
 refine aS (fun c0 => ?_) fun c0 => ?_
 ·refine aJ ?_
  refine hK7 _ ?_; clear hK7
  refine aA fun K8 hK8 => ?_
  refine aK ?_
  refine aB [1, 2, 5, 6, 11, 12, 13] ?_
  refine aA fun K10 hK10 => ?_
  refine aA fun K11 hK11 => ?_
  refine bF [1, 2, 5, 6, 8, 11, 12, 13] ?_
  refine dM (iM _ l (q.getD i default).fEl) ?_
  refine hK11 _ ?_; clear hK11
  refine aS (fun c1 => ?_) fun c1 => ?_
  ·refine bA ?_
   refine hK8 _ ?_; clear hK8
   refine bC [1, 2, 5, 6, 11, 12, 13] ?_
   refine hK5 _ _ ?_ ⟨i + 1, rfl, ?_, ?_⟩
   ·exact bD
   ·exact bD
   simp (disch := omega) only [go_sem, seval] <;> (rw [aRx l c0 (by simpa using c1)]; rfl)
  have hex := gX.1 (by simpa using c1)
  have hex2 : pS l (q.getD i default).fEl = true := (by simpa using c1)
  refine aJ ?_
  refine hK10 _ ?_; clear hK10
  refine aB [1, 2, 5, 6, 8, 11, 12, 13] ?_
  refine aA fun K13 hK13 => ?_
  refine cQ (Le.keepC [1, 2, 5, 6, 9, 11, 12, 13] _) ?_
  refine f8 ?_
  refine ez ?_
  refine ez ?_
  show OW _ _ _ _ _ _
  refine mE nE qJ (s := 6) (M := mtS (dZ l (q.take i))) (a := (d7 l (q.getD i default).fEl.toNat).fSection) (zb := false) (ok := false) rfl rfl (by kernel_rfl) (by kernel_rfl) (by simp (disch := omega) only [go_sem, seval] <;> rfl) (by simp (disch := omega) only [go_sem, seval] <;> rfl) (by simp (disch := omega) only [go_sem, seval] <;> rfl) trivial rfl (by kernel_rfl) hi4 hz4 (lC _) (fun p _ => lC p.1) (by rw [zW]; exact aEi l q i) ?_
  try simp (disch := omega) only [go_sem, seval]
  refine ez ?_
  refine hK13 _ ?_; clear hK13
  refine aS (fun c2 => ?_) fun c2 => ?_
  ·have hn : (d7 l (q.getD i default).fEl.toNat).fSection ∉ (dZ l (q.take i)) := of_decide_eq_false (by rw [← aOt]; simpa using c2)
   refine aA fun K14 hK14 => ?_
   refine cQ (Le.keepC [1, 2, 5, 6, 9, 11, 12, 13] _) ?_
   refine f8 ?_
   refine ez ?_
   refine ez ?_
   show OW _ _ _ _ _ _
   refine t1 nE qJ (kt := 3) (e := 4) (s := 6) (M := mtS (dZ l (q.take i))) (a := (d7 l (q.getD i default).fEl.toNat).fSection) (b := true) (.inl rfl) rfl rfl (by kernel_rfl) (by simp (disch := omega) only [go_sem, seval] <;> rfl) (by simp (disch := omega) only [go_sem, seval] <;> rfl) (by simp (disch := omega) only [go_sem, seval] <;> rfl) trivial rfl (by simp (disch := omega) only [go_sem, seval] <;> rfl) trivial rfl (by kernel_rfl) (lC _) (fun p _ => lC p.1) (by rw [zW]; exact aEi l q i) ?_
   refine lZ ?_
   refine hK14 _ ?_; clear hK14
   refine bC [1, 2, 5, 6, 9, 11, 12, 13] ?_
   refine hK8 _ ?_; clear hK8
   refine bC [1, 2, 5, 6, 11, 12, 13] ?_
   refine hK5 _ _ ?_ ⟨i + 1, rfl, ?_, ?_⟩
   ·exact bD
   ·exact bD
   simp (disch := omega) only [go_sem, seval] <;> (rw [aXl l c0 hex2 hn, bAf hn, List.map_append]; rfl)
  have hn : (d7 l (q.getD i default).fEl.toNat).fSection ∈ (dZ l (q.take i)) := of_decide_eq_true (by rw [← aOt]; simpa using c2)
  refine aJ ?_
  refine hK8 _ ?_; clear hK8
  refine bC [1, 2, 5, 6, 11, 12, 13] ?_
  refine hK5 _ _ ?_ ⟨i + 1, rfl, ?_, ?_⟩
  ·exact bD
  ·exact bD
  simp (disch := omega) only [go_sem, seval] <;> (rw [aTm l c0 hn]; rfl)
 refine bA ?_
 refine hK3 _ ?_; clear hK3
 refine aA fun K15 hK15 => ?_
 refine dG 5 _ rfl rfl ?_
 refine bC [5] ?_
 refine hK15 _ ?_; clear hK15
 refine aL ?_
 refine b6 4 ?_
 exact cP.encL rfl (by (rw [List.take_of_length_le c0]))
end Go.Sg
namespace Go.Sg
open Go.Proofs
theorem xP (O : aU) (l : aC) : aW Tryz.prog O 191 [.agg (aI l)] (.fn 216 [] [.dp (aI l)]) := by
 refine dT Tryz.func191 ?_
 refine aB [0] ?_
 refine aA fun K1 hK1 => ?_
 refine bBr 1 rfl rfl rfl ?_
 refine bC [1] ?_
 refine hK1 _ ?_; clear hK1
 refine aL ?_
 refine b6 2 ?_
 exact cP.is (by simp (disch := omega) only [go_sem, seval] <;> (rfl)) rfl rfl
set_option maxRecDepth 20000 in
set_option maxHeartbeats 4000000 in
theorem t7 (O : aU) (l : aC) (s : bB) : aW Tryz.prog O 133 [.agg (aI l), .agg (bJ s)] (.tup [.agg (bO (bP l s).1), vb (bP l s).2]) := by
 refine dT Tryz.func133 ?_
 refine aB [0, 1] ?_
 refine aA fun K1 hK1 => ?_
 refine k9 8 [2, 3, 4] [2, 3, 6, 7, 8, 9, 10, 11, 5, 4] [] [] [[], [0], [], [0, 1, 2], [0, 1, 2, 3], [0, 1, 2, 3], [0, 1, 2, 3, 4, 5], [0, 1, 2, 3, 4, 5, 6]] [[6], [6], [6], [6], [6], [6], [], []] (fun bQ => cU O [(2, .bx (aI l)), (3, .bx (bJ s)), (6, aV (bQ 0) (.agg (aI l))), (7, aV (bQ 1) (.fn 216 [] [.dp (aI l)])), (8, aV (bQ 2) (.agg (bJ s))), (9, aV (bQ 3) (.tup [.agg (bO (bP l s).1), vb (bP l s).2])), (10, aV (bQ 4) (.agg (bO (bP l s).1))), (11, aV (bQ 5) (vb (bP l s).2)), (5, aV (bQ 7) (vb (bP l s).2)), (4, hU (bQ 6) true (.bx (bO (bP l s).1)) (.bx [vi 0, vi 0]))]) (fun iQ hiQ oQ hoQ bQ hbQ KQ hKQ => ?_) ?_
 ·match iQ, hiQ with
  | 0, _ | 2, _ | 4, _ | 5, _ | 6, _ | 7, _ =>
   exact mkp hoQ hbQ hKQ
  | 1, _ =>
   exact mkc hoQ hbQ hKQ (xP _ l)
  | 3, _ =>
   exact mkc hoQ hbQ hKQ (tU _ l s)
 refine lZ ?_
 refine hK1 _ ?_; clear hK1
 refine aL ?_
 refine nC (.cons ?_ (.cons ?_ .nil))
 ·exact sJ (by simp (disch := omega) only [go_sem, seval] <;> rfl) (by simp (disch := omega) only [go_sem, seval] <;> (first | rfl | (simp_all; done))) (by kernel_rfl) (by first | rfl | (simp (disch := omega) only [go_sem, seval]))
 exact gZ (by simp (disch := omega) only [go_sem, seval] <;> (first | rfl | (simp_all; done))) rfl rfl
set_option maxRecDepth 20000 in
set_option maxHeartbeats 4000000 in
theorem iF (O : aU) (l : aC) (q : List bB) (hl : dX l) (hq : q.length ≤ 100) : aW Tryz.prog O 97 [.agg (aI l), bN q] (b9 (dZ l q)) := by
 have hl1 := hl.sec
 have hl2 := hl.el
 have hl3 := hl.jo
 have hl4 := hl.sg
 have hl5 := hl.bl
 refine aO 0 rfl (.agg (d := f5 l.fElements) (by simp [aI]) (.sl _ _ _)) fun he => ?_
 refine aO 1 rfl (.sl _ _ _) fun hql => ?_
 refine dT Tryz.func97 ?_
 refine aB [0, 1] ?_
 refine aB [1, 2] ?_
 refine aA fun K2 hK2 => ?_
 refine aB [1, 2, 5] ?_
 refine aK ?_
 refine d9 5 3 1 eI rfl rfl ?_
 refine aX [1, 2, 5, 6] (fun n ρ => ∃ i, n = q.length - i ∧ (i ≤ q.length) ∧ ρ = cU O [(1, bN q), (2, .bx (aI l)), (5, yT (dZ l (q.take i))), (6, vi (i : Nat))]) _ ⟨0, rfl, ?_, ?_⟩ ?_
 ·exact bD
 ·exact cD
 rintro n ρ ⟨i, rfl, l0_0, rfl⟩ K4 hK4
 have hsl := tN l q i
 refine aA fun K5 hK5 => ?_
 refine aB [1, 2, 5, 6] ?_
 refine aS (fun c0 => ?_) fun c0 => ?_
 ·refine aJ ?_
  refine hK5 _ ?_; clear hK5
  refine aA fun K7 hK7 => ?_
  refine aK ?_
  refine aA fun K8 hK8 => ?_
  refine eE [1, 2, 5, 6] [] fK (by kernel_rfl) ?_
  simp (disch := omega) only [go_sem, seval]
  repeat refine And.intro (by first | (intro h; exact ⟨h, gX.1 h⟩) | exact bS) ?_
  refine dR (jE _ l (q.getD i default).fEl) ?_ ?_
  ·rfl
  try simp (disch := omega) only [go_sem, seval]
  repeat refine And.intro (by first | (intro h; exact ⟨h, gX.1 h⟩) | exact bS) ?_
  refine jZ (fun g0 => aBb (_) (dZ l (q.take i)) 5 (d7 l (q.getD i default).fEl.toNat).fSection (by rfl) (by omega)) ?_ ?_ ?_
  ·first | exact fun _ => trivial | simp
  ·rfl
  try simp (disch := omega) only [go_sem, seval]
  repeat refine And.intro (by first | (intro h; exact ⟨h, gX.1 h⟩) | exact bS) ?_
  refine hK8 _ ?_; clear hK8
  refine aS (fun c1 => ?_) fun c1 => ?_
  ·have hcc : pS l (q.getD i default).fEl = true ∧ (d7 l (q.getD i default).fEl.toNat).fSection ∉ (dZ l (q.take i)) := (by simpa using c1)
   have hex := hcc.1
   refine k9 14 [1, 2, 5, 6] [1, 2, 6, 36, 37, 38, 39, 40, 41, 42, 43, 44, 45, 46, 47, 35, 5] [11] [(5, 47)] [[], [], [1], [], [], [3, 4], [3, 4, 5], [3, 4, 5, 6], [1, 2, 3, 4, 5, 6, 7], [1, 2, 3, 4, 5, 6, 7, 8], [1, 2, 3, 4, 5, 6, 7, 8, 9], [1, 2, 3, 4, 5, 6, 7, 8, 9, 10], [0, 1, 2, 3, 4, 5, 6, 7, 8, 9, 10, 11], [0, 1, 2, 3, 4, 5, 6, 7, 8, 9, 10, 11, 12]] [[12, 13], [12, 13], [12, 13], [12, 13], [12, 13], [12, 13], [12, 13], [12, 13], [12, 13], [12, 13], [12, 13], [12, 13], [13], []] (fun bQ => cU O [(1, bN q), (2, .bx (aI l)), (6, vi (i : Nat)), (36, aV (bQ 1) (.bp 2 2)), (37, aV (bQ 2) (f5 l.fElements)), (38, aV (bQ 3) (bN q)), (39, aV (bQ 4) (vi (i : Nat))), (40, aV (bQ 5) (.dp (bJ (q.getD i default)))), (41, aV (bQ 6) (.dp (bJ (q.getD i default)))), (42, aV (bQ 7) (vi (q.getD i default).fEl)), (43, aV (bQ 8) (.dp (eM (l.fElements.getD (q.getD i default).fEl.toNat default)))), (44, aV (bQ 9) (.dp [vi (d7 l (q.getD i default).fEl.toNat).fSection])), (45, aV (bQ 10) (vi (d7 l (q.getD i default).fEl.toNat).fSection)), (46, aV (bQ 11) (.row 3 1 [[vi (d7 l (q.getD i default).fEl.toNat).fSection]])), (47, aV (bQ 12) (.row 3 1 (((dZ l (q.take i)).map eI) ++ [[vi (d7 l (q.getD i default).fEl.toNat).fSection]]))), (35, hU (bQ 12) (bQ 0) (.any) (.own 5 ((dZ l (q.take i)).length))), (5, hU (bQ 13) (!bQ 12) (.own 47 ((dZ l (q.take i)).length + 1)) (.row 3 1 (((dZ l (q.take i)).map eI))))]) (fun iQ hiQ oQ hoQ bQ hbQ KQ hKQ => ?_) ?_
   ·match iQ, hiQ with
    | 0, _ | 1, _ | 2, _ | 3, _ | 4, _ | 5, _ | 6, _ | 7, _ | 8, _ | 9, _ | 10, _ | 12, _ | 13, _ =>
     obtain rfl := Option.some.inj hoQ
     simp only [oS, hD, iB, List.getD_cons_succ, List.getD_cons_zero, List.getD_nil, and_true, true_and] at hbQ
     show qC _ _ _ false _ _
     simp (disch := omega) only [go_sem, seval, hbQ]
     repeat refine And.intro (by first | exact gX.1 hex | exact bS | (rw [List.length_map]; exact Nat.le_refl _)) ?_
     refine hKQ _ ?_
     simp (disch := omega) only [go_sem, seval, hbQ] <;> first | rfl | simp
    | 11, _ =>
     obtain rfl := Option.some.inj hoQ
     simp only [oS, hD, iB, List.getD_cons_succ, List.getD_cons_zero, List.getD_nil, and_true, true_and] at hbQ
     show qC _ _ _ true _ _
     simp (disch := omega) only [go_sem, seval, hbQ]
     repeat refine And.intro (by first | exact gX.1 hex | exact bS | (rw [List.length_map]; exact Nat.le_refl _)) ?_
     refine hKQ _ ?_
     simp (disch := omega) only [go_sem, seval, hbQ] <;> first | rfl | simp
   simp (disch := omega) only [go_sem, seval]
   repeat refine And.intro (by first | exact gX.1 hex | exact bS | (rw [List.length_map]; exact Nat.le_refl _)) ?_
   refine hK7 _ ?_; clear hK7
   refine bC [1, 2, 5, 6] ?_
   refine hK4 _ _ ?_ ⟨i + 1, rfl, ?_, ?_⟩
   ·exact bD
   ·exact bD
   simp (disch := omega) only [go_sem, seval] <;> (rw [aXl l c0 hcc.1 hcc.2, List.map_append]; rfl)
  have hcc : pS l (q.getD i default).fEl = false ∨ (d7 l (q.getD i default).fEl.toNat).fSection ∈ (dZ l (q.take i)) := (by simpa using c1)
  refine aJ ?_
  refine hK7 _ ?_; clear hK7
  refine bC [1, 2, 5, 6] ?_
  refine hK4 _ _ ?_ ⟨i + 1, rfl, ?_, ?_⟩
  ·exact bD
  ·exact bD
  simp (disch := omega) only [go_sem, seval] <;> (rcases hcc with h | h; rw [aRx l c0 h]; rfl; rw [aTm l c0 h]; rfl)
 refine bA ?_
 refine hK2 _ ?_; clear hK2
 refine aA fun K9 hK9 => ?_
 refine dG 5 _ rfl rfl ?_
 refine bC [5] ?_
 refine hK9 _ ?_; clear hK9
 refine aL ?_
 refine b6 4 ?_
 exact cP.encL rfl (by (rw [List.take_of_length_le c0]))
def lR (q : List bB) : cC := ⟨(q.getD (q.length - 1) default).fEl, (q.getD (q.length - 1) default).fOut⟩
theorem lJ {q : List bB} {i : Nat} (h : i < q.length) : (q.map bJ).getD i [] = bJ (q.getD i default) := by
 rw [List.getD_eq_getElem?_getD (l := q.map bJ), List.getElem?_map, List.getElem?_eq_getElem h, List.getD_eq_getElem?_getD (l := q), List.getElem?_eq_getElem h]; rfl
def z1 (l : aC) (e : Int) (q : List bB) (i : Nat) : Bool :=
 decide ((q.getD i default).fEl ≠ e) && !(decide (0 < i) && (decide (bY l (q.getD (i - 1) default).fEl = bY l e) && decide (bY l (q.getD i default).fEl ≠ bY l e)))
theorem bLt {l : aC} {e : Int} {q : List bB} {i : Nat} (h : (q.getD i default).fEl = e) : z1 l e q i = false := by unfold z1; rw [decide_eq_false (by simpa using h)]; rfl
theorem bLx {l : aC} {e : Int} {q : List bB} {i : Nat} (h1 : 0 < i) (h2 : bY l (q.getD (i - 1) default).fEl = bY l e) (h3 : ¬ bY l (q.getD i default).fEl = bY l e) : z1 l e q i = false := by
 unfold z1; rw [decide_eq_true h1, decide_eq_true h2, decide_eq_true h3]; simp
theorem aWl {l : aC} {e : Int} {q : List bB} {i : Nat} (h : ¬ (q.getD i default).fEl = e) (h2 : ¬ ((0 < i ∧ bY l (q.getD (i - 1) default).fEl = bY l e) ∧ ¬ bY l (q.getD i default).fEl = bY l e)) : z1 l e q i = true := by
 unfold z1
 rw [decide_eq_true h, Bool.true_and]
 cases hx : (decide (0 < i) && (decide (bY l (q.getD (i - 1) default).fEl = bY l e) && decide (bY l (q.getD i default).fEl ≠ bY l e))) with
 | false => rfl
 | true =>
  simp only [Bool.and_eq_true, decide_eq_true_eq] at hx
  exact absurd ⟨⟨hx.1, hx.2.1⟩, hx.2.2⟩ h2
def l3 (l : aC) (q : List bB) (e : Int) : Bool := (List.range q.length).all (z1 l e q)
theorem aBx (O : aU) (q : List bB) (hq : 0 < q.length) : aW Tryz.prog O 174 [bN q] (.agg (bO (lR q))) := by
 have hcast : ((q.length : Int) - 1).toNat = q.length - 1 := by omega
 refine aO 0 rfl (.sl _ _ _) fun hql => ?_
 refine dT Tryz.func174 ?_
 refine aA fun K0 hK0 => ?_
 refine a7 [0] (by kernel_rfl) ?_
 simp (disch := omega) only [go_sem, seval, hcast]
 repeat refine And.intro bS ?_
 refine hK0 _ ?_; clear hK0
 refine aA fun K1 hK1 => ?_
 refine a7 [0, 2] (by kernel_rfl) ?_
 simp (disch := omega) only [go_sem, seval, hcast]
 repeat refine And.intro bS ?_
 refine hK1 _ ?_; clear hK1
 refine aA fun K2 hK2 => ?_
 refine a7 [2, 3] (by kernel_rfl) ?_
 simp (disch := omega) only [go_sem, seval, hcast]
 repeat refine And.intro bS ?_
 refine hK2 _ ?_; clear hK2
 refine aL ?_
 refine iK 2 49 rfl (by simp (disch := omega) only [go_sem, seval, hcast]) (by simp (disch := omega) only [go_sem, seval, hcast] <;> (rfl)) (by simp (disch := omega) only [go_sem, seval, hcast]) (by simp (disch := omega) only [go_sem, seval, hcast])
section
attribute [local go_sem] lJ List.length_map Nat.mul_one Nat.add_zero bJ
theorem z6 (O : aU) (q : List bB) (s : Nat) (hO : O s = .row 85 3 (q.map bJ)) (hb : q.length ≤ 100) (hq : 0 < q.length) : aW Tryz.prog O 174 [.own s q.length] (.agg (bO (lR q))) := by
 have hx : bW O (s + 100000) = .row 85 3 (q.map bJ) := by rw [bX, hO]; rfl
 have hcast : ((q.length : Int) - 1).toNat = q.length - 1 := by omega
 refine dT Tryz.func174 ?_
 refine aA fun K0 hK0 => ?_
 refine a7 [0] (by kernel_rfl) ?_
 simp (disch := omega) only [go_sem, seval, hx, hcast]
 repeat refine And.intro bS ?_
 refine hK0 _ ?_; clear hK0
 refine aA fun K1 hK1 => ?_
 refine a7 [0, 2] (by kernel_rfl) ?_
 simp (disch := omega) only [go_sem, seval, hx, hcast]
 repeat refine And.intro bS ?_
 refine hK1 _ ?_; clear hK1
 refine aA fun K2 hK2 => ?_
 refine a7 [2, 3] (by kernel_rfl) ?_
 simp (disch := omega) only [go_sem, seval, hx, hcast]
 repeat refine And.intro bS ?_
 refine hK2 _ ?_; clear hK2
 refine aL ?_
 refine iK 2 49 rfl (by simp (disch := omega) only [go_sem, seval, hx, hcast]) (by simp (disch := omega) only [go_sem, seval, hx, hcast] <;> (rfl)) (by simp (disch := omega) only [go_sem, seval, hx, hcast]) (by simp (disch := omega) only [go_sem, seval, hx, hcast])
end
section
attribute [local go_sem] lJ List.length_map Nat.mul_one Nat.add_zero
set_option maxHeartbeats 4000000 in
theorem zJ (O : aU) (q : List bB) (s : Nat) (hO : O s = .row 85 3 (q.map bJ)) (hb : q.length ≤ 100) (l : aC) (k : Nat) (hd : DV) (e : Int) (hk : O k = .bx (aI l ++ [hd])) : aW Tryz.prog O 172 [.bp k 0, .own s q.length, vi e] (vb (l3 l q e)) := by
 have hx : bW O (s + 100000) = .row 85 3 (q.map bJ) := by rw [bX, hO]; rfl
 have hy : bW O (k + 100000) = .bx (aI l ++ [sh hd]) := by rw [bX, hk]; rfl
 refine dT Tryz.func172 ?_
 refine aA fun K0 hK0 => ?_
 refine a7 [0, 1, 2] (by kernel_rfl) ?_
 simp (disch := omega) only [go_sem, seval, hx, hy]
 repeat refine And.intro bS ?_
 refine hK0 _ ?_; clear hK0
 refine aA fun K1 hK1 => ?_
 refine a7 [0, 1, 2] (by kernel_rfl) ?_
 simp (disch := omega) only [go_sem, seval, hx, hy]
 repeat refine And.intro bS ?_
 refine gE _ (dU _ l e) ?_
 try simp (disch := omega) only [go_sem, seval, hx, hy]
 repeat refine And.intro bS ?_
 refine hK1 _ ?_; clear hK1
 refine aA fun K2 hK2 => ?_
 refine aA fun K3 hK3 => ?_
 refine a7 [0, 1, 2, 7] (by kernel_rfl) ?_
 simp (disch := omega) only [go_sem, seval, hx, hy]
 repeat refine And.intro bS ?_
 refine hK3 _ ?_; clear hK3
 refine aK ?_
 refine aX [0, 1, 2, 7, 16, 17, 18] (fun n ρ => ∃ i, n = q.length - i ∧ (i ≤ q.length) ∧ (j5 (z1 l e q) i) ∧ ρ = cU O [(0, .bp (k + 100000) 0), (1, .own (s + 100000) q.length), (2, vi e), (7, vi (bY l e)), (16, .own (s + 100000) q.length), (17, vi (q.length : Nat)), (18, vi (i : Nat))]) _ ⟨0, rfl, ?_, ?_, ?_⟩ ?_
 ·exact bD
 ·exact gT _
 ·simp (disch := omega) only [go_sem, seval, hx, hy] <;> first | rfl | omega | simp | simp_all
 rintro n ρ ⟨i, rfl, l0_0, l0_1, rfl⟩ K4 hK4
 refine aA fun K5 hK5 => ?_
 refine a7 [0, 1, 2, 7, 16, 17, 18] (by kernel_rfl) ?_
 simp (disch := omega) only [go_sem, seval, hx, hy]
 repeat refine And.intro bS ?_
 refine hK5 _ ?_; clear hK5
 refine aA fun K6 hK6 => ?_
 refine aS (fun c0 => ?_) fun c0 => ?_
 ·refine aJ ?_
  refine hK6 _ ?_; clear hK6
  refine aA fun K7 hK7 => ?_
  refine aK ?_
  refine aA fun K8 hK8 => ?_
  refine a7 [0, 1, 2, 7, 16, 17, 18] (by kernel_rfl) ?_
  simp (disch := omega) only [go_sem, seval, hx, hy]
  repeat refine And.intro bS ?_
  refine hK8 _ ?_; clear hK8
  refine aA fun K9 hK9 => ?_
  refine aA fun K10 hK10 => ?_
  refine a7 [0, 1, 2, 7, 8, 9, 16, 17, 18] (by kernel_rfl) ?_
  simp (disch := omega) only [go_sem, seval, hx, hy]
  repeat refine And.intro bS ?_
  refine hK10 _ ?_; clear hK10
  refine aS (fun c1 => ?_) fun c1 => ?_
  ·refine aA fun K11 hK11 => ?_
   refine a7 [] (by kernel_rfl) ?_
   simp (disch := omega) only [go_sem, seval, hx, hy]
   repeat refine And.intro bS ?_
   refine hK11 _ ?_; clear hK11
   refine aL ?_
   refine dC 6 rfl (by simp (disch := omega) only [go_sem, seval, hx, hy]) ?_
   exact cP.is (by simp (disch := omega) only [go_sem, seval, hx, hy] <;> refine congrArg vb ?_ <;> ((symm; exact o8 c0 (bLt c1)))) rfl rfl
  refine aJ ?_
  refine hK9 _ ?_; clear hK9
  refine aA fun K12 hK12 => ?_
  refine eE [0, 1, 2, 7, 8, 9, 16, 17, 18] [] fK (by kernel_rfl) ?_
  simp (disch := omega) only [go_sem, seval, hx, hy]
  repeat refine And.intro bS ?_
  refine jZ (fun g0 => dU _ l (q.getD (i - 1) default).fEl) ?_ ?_ ?_
  ·first | exact fun _ => trivial | simp
  ·rfl
  try simp (disch := omega) only [go_sem, seval, hx, hy]
  repeat refine And.intro bS ?_
  refine jZ (fun g1 => dU _ l (q.getD i default).fEl) ?_ ?_ ?_
  ·first | exact fun _ => trivial | simp
  ·rfl
  try simp (disch := omega) only [go_sem, seval, hx, hy]
  repeat refine And.intro bS ?_
  refine hK12 _ ?_; clear hK12
  refine aS (fun c2 => ?_) fun c2 => ?_
  ·have hcc : (0 < i ∧ bY l (q.getD (i - 1) default).fEl = bY l e) ∧ ¬ bY l (q.getD i default).fEl = bY l e := (by simpa using c2)
   refine aA fun K13 hK13 => ?_
   refine a7 [] (by kernel_rfl) ?_
   simp (disch := omega) only [go_sem, seval, hx, hy]
   repeat refine And.intro bS ?_
   refine hK13 _ ?_; clear hK13
   refine aL ?_
   refine dC 6 rfl (by simp (disch := omega) only [go_sem, seval, hx, hy]) ?_
   exact cP.is (by simp (disch := omega) only [go_sem, seval, hx, hy] <;> refine congrArg vb ?_ <;> ((symm; exact o8 c0 (bLx hcc.1.1 hcc.1.2 hcc.2)))) rfl rfl
  have hcc : ¬ ((0 < i ∧ bY l (q.getD (i - 1) default).fEl = bY l e) ∧ ¬ bY l (q.getD i default).fEl = bY l e) := (by rintro ⟨⟨h1, h2⟩, h3⟩; simp at c2 h2 h3; rcases c2 with (c2 | c2) | c2 <;> first | omega | exact c2 h2 | exact h3 c2)
  refine aJ ?_
  refine hK7 _ ?_; clear hK7
  refine a7 [0, 1, 2, 7, 16, 17, 18] (by kernel_rfl) ?_
  simp (disch := omega) only [go_sem, seval, hx, hy]
  repeat refine And.intro bS ?_
  refine hK4 _ _ ?_ ⟨i + 1, rfl, ?_, ?_, ?_⟩
  ·exact bD
  ·exact bD
  ·exact gN l0_1 (aWl (by simpa using c1) hcc)
  simp (disch := omega) only [go_sem, seval, hx, hy] <;> first | rfl | omega | simp | simp_all
 refine bA ?_
 refine hK2 _ ?_; clear hK2
 refine aA fun K14 hK14 => ?_
 refine a7 [] (by kernel_rfl) ?_
 simp (disch := omega) only [go_sem, seval, hx, hy]
 repeat refine And.intro bS ?_
 refine hK14 _ ?_; clear hK14
 refine aL ?_
 refine dC 6 rfl (by simp (disch := omega) only [go_sem, seval, hx, hy]) ?_
 exact cP.is (by simp (disch := omega) only [go_sem, seval, hx, hy] <;> refine congrArg vb ?_ <;> ((symm; exact o4 l0_1 c0))) rfl rfl
end
end Go.Sg
namespace Go.Sg
open Go.RowKit
theorem aKh {P : Program} {nt : Nat} {ops : Array Oper} {ρ : aU} {o : Oper} {K : aU → Prop} {t t' : TypeId} {x : Operand} {n' c' : Nat} {d s n : Nat} {e : TypeId} {z : Nat} {xs : List (List DV)}
  (hop : o.op = .binOp .eql t x (.const (.slice none n' c')) t') (hg : o.guard = none) (hdst : o.dst = some d) (ho : dL nt o = true) (hd : fG nt o = true) (h2 : tk P t = 2)
  (h1 : gd (ev ρ x)) (hx : un (ev ρ x) = .own s n) (hr : ρ s = .row e z xs) (hK : ∀ b : Bool, (0 < xs.length → b = false) → K (cA ρ (some d) (.v (.bool b)))) : OW P nt ops o K ρ := by
 obtain ⟨e2, he⟩ : ∃ e, P.underlying t = some (.slice e) := by
  unfold tk at h2; split at h2 <;> first | exact ⟨_, by assumption⟩ | omega
 refine fO hg fun I A a w hs => ?_
 have hrl := hs.opd x (bL ho (x := x) (by rw [hop]; simp [Op.operands])) h1
 have hrun : ∀ (b : Option Addr) n c, a.eval x = .slice b n c → (execOp a.eval o).run P w = .ok (.value (.bool b.isNone)) w := fun b n c hx => by
  have hb : execOp a.eval o = (do pure (.value (← (eqGuard .eql t x (.const (.slice none n' c')) (a.eval x) (.slice none n' c') >>= fun _ => binOp .eql t (a.eval x) (.slice none n' c'))))) := by unfold execOp; rw [hop]; rfl
  have hg : eqGuard .eql t x (.const (.slice none n' c')) (.slice b n c) (.slice none n' c') = (pure () : Sem Unit) := by unfold eqGuard; rfl
  rw [hb, hx, hg, Sem.run_bind]
  show Result.andThen ((binOp .eql t (.slice b n c) (.slice none n' c')).run P w) _ = _
  rw [Lib.run_eql_slice_nil w t e2 b n c n' c' he]
  rfl
 rw [hx] at hrl
 have hown := hs.osim.own s
 rw [hr] at hown
 obtain ⟨B', c2, hA, hrow⟩ := hown
 rw [← hdst] at hK
 generalize hv : a.eval x = v at hrl
 cases hrl with
 | own _ _ _ B c b hA' hb =>
  rw [hA] at hA'
  obtain ⟨rfl, rfl⟩ : B' = B ∧ c2 = c := by simpa using hA'
  refine ⟨_, w, I, A, _, hrun b n _ hv, hs.putV hd (.v A _), eX.refl _ _ _, hK _ fun hlt => ?_⟩
  cases B' with
  | none =>
   obtain ⟨rfl, _⟩ := hrow
   exact absurd hlt (by simp)
  | some g => rw [gH hb]; rfl
end Go.Sg
namespace Go.Sg
open Go.Proofs
abbrev cX (l : List aM) : DV := encL 2 aY l
abbrev nG (l : List aM) : DV := rowL 68 2 aY l
theorem i7 (O : aU) (l : List bB) (hb : l.length ≤ 1000000) : aW Tryz.prog O 74 [bN l] (pE l) := by
 refine dT Tryz.func74 ?_
 refine aB [0] ?_
 refine aA fun K1 hK1 => ?_
 refine aA fun K2 hK2 => ?_
 refine bF [0] ?_
 intro β hβ
 refine hK2 _ ?_; clear hK2
 refine aS (fun c0 => ?_) fun c0 => ?_
 ·obtain rfl : l = [] := by
   cases l with
   | nil => rfl
   | cons x l => have := hβ (by simp); simp_all
  refine aB [] ?_
  refine aL ?_
  refine b6 2 ?_
  exact cP.nilrow _ _ (by simp (disch := omega) only [go_sem, seval])
 refine aJ ?_
 refine hK1 _ ?_; clear hK1
 refine aB [0] ?_
 refine aL ?_
 refine b6 2 ?_
 exact cP.rowL rfl (by rfl)
theorem fJ (O : aU) (l : List aM) (hb : l.length ≤ 1000000) : aW Tryz.prog O 75 [cX l] (nG l) := by
 refine dT Tryz.func75 ?_
 refine aB [0] ?_
 refine aA fun K1 hK1 => ?_
 refine aA fun K2 hK2 => ?_
 refine bF [0] ?_
 intro β hβ
 refine hK2 _ ?_; clear hK2
 refine aS (fun c0 => ?_) fun c0 => ?_
 ·obtain rfl : l = [] := by
   cases l with
   | nil => rfl
   | cons x l => have := hβ (by simp); simp_all
  refine aB [] ?_
  refine aL ?_
  refine b6 2 ?_
  exact cP.nilrow _ _ (by simp (disch := omega) only [go_sem, seval])
 refine aJ ?_
 refine hK1 _ ?_; clear hK1
 refine aB [0] ?_
 refine aL ?_
 refine b6 2 ?_
 exact cP.rowL rfl (by rfl)
theorem gK (O : aU) (l : List Int) (hb : l.length ≤ 1000000) : aW Tryz.prog O 76 [b9 l] (yT l) := by
 refine dT Tryz.func76 ?_
 refine aB [0] ?_
 refine aA fun K1 hK1 => ?_
 refine aA fun K2 hK2 => ?_
 refine bF [0] ?_
 intro β hβ
 refine hK2 _ ?_; clear hK2
 refine aS (fun c0 => ?_) fun c0 => ?_
 ·obtain rfl : l = [] := by
   cases l with
   | nil => rfl
   | cons x l => have := hβ (by simp); simp_all
  refine aB [] ?_
  refine aL ?_
  refine b6 2 ?_
  exact cP.nilrow _ _ (by simp (disch := omega) only [go_sem, seval])
 refine aJ ?_
 refine hK1 _ ?_; clear hK1
 refine aB [0] ?_
 refine aL ?_
 refine b6 2 ?_
 exact cP.rowL rfl (by rfl)
theorem sY (O : aU) (l : List cC) (hb : l.length ≤ 1000000) : aW Tryz.prog O 85 [jX l] (aVj l) := by
 refine dT Tryz.func85 ?_
 refine aB [0] ?_
 refine aA fun K1 hK1 => ?_
 refine aA fun K2 hK2 => ?_
 refine bF [0] ?_
 intro β hβ
 refine hK2 _ ?_; clear hK2
 refine aS (fun c0 => ?_) fun c0 => ?_
 ·obtain rfl : l = [] := by
   cases l with
   | nil => rfl
   | cons x l => have := hβ (by simp); simp_all
  refine aB [] ?_
  refine aL ?_
  refine b6 2 ?_
  exact cP.nilrow _ _ (by simp (disch := omega) only [go_sem, seval])
 refine aJ ?_
 refine hK1 _ ?_; clear hK1
 refine aB [0] ?_
 refine aL ?_
 refine b6 2 ?_
 exact cP.rowL rfl (by rfl)
section
attribute [local go_sem] List.length_map ite_self
set_option maxRecDepth 20000 in
theorem kH (O : aU) (q : List bB) (s : Nat) (hO : O s = .row 85 3 (q.map bJ)) (hb : q.length ≤ 100) : aW Tryz.prog O 74 [.own s q.length] (pE q) := by
 have hx : bW O (s + 100000) = .row 85 3 (q.map bJ) := by rw [bX, hO]; rfl
 refine dT Tryz.func74 ?_
 refine aA fun K0 hK0 => ?_
 refine a7 [0] (by kernel_rfl) ?_
 simp (disch := omega) only [go_sem, seval, hx]
 repeat refine And.intro bS ?_
 refine hK0 _ ?_; clear hK0
 refine aA fun K1 hK1 => ?_
 refine aA fun K2 hK2 => ?_
 refine cQ (Le.keepC [0] _) ?_
 refine f8 ?_
 show OW _ _ _ _ _ _
 refine cM rfl (by kernel_rfl) (by kernel_rfl) ?_
 simp (disch := omega) only [go_sem, seval, hx]
 repeat refine And.intro bS ?_
 show OW _ _ _ _ _ _
 refine aKh (e := 85) (z := 3) (xs := q.map bJ) (s := s + 100000) (n := q.length) rfl rfl rfl (by kernel_rfl) (by kernel_rfl) (by kernel_rfl) (by simp (disch := omega) only [go_sem, seval, hx]) (by simp (disch := omega) only [go_sem, seval, hx] <;> rfl) (by simp (disch := omega) only [go_sem, seval, hx] <;> rfl) (fun β hβ => ?_)
 try simp (disch := omega) only [go_sem, seval, hx]
 repeat refine And.intro bS ?_
 refine hK2 _ ?_; clear hK2
 refine aS (fun c0 => ?_) fun c0 => ?_
 ·obtain rfl : q = [] := by
   cases q with
   | nil => rfl
   | cons x l => have := hβ (by simp); simp_all
  refine aA fun K3 hK3 => ?_
  refine a7 [] (by kernel_rfl) ?_
  simp (disch := omega) only [go_sem, seval, hx]
  repeat refine And.intro bS ?_
  refine hK3 _ ?_; clear hK3
  refine aL ?_
  refine dC 2 rfl (by simp (disch := omega) only [go_sem, seval, hx]) ?_
  exact cP.nilrow _ _ (by simp (disch := omega) only [go_sem, seval, hx])
 refine aJ ?_
 refine hK1 _ ?_; clear hK1
 refine aA fun K4 hK4 => ?_
 refine a7 [0] (by kernel_rfl) ?_
 simp (disch := omega) only [go_sem, seval, hx]
 repeat refine And.intro (by first | exact ⟨_, _, rfl, by simp⟩ | exact Nat.le_refl _ | (simp only [List.length_take, List.length_map, List.length_nil]; omega) | exact bS) ?_
 refine hK4 _ ?_; clear hK4
 refine aL ?_
 refine dC 2 rfl (by simp (disch := omega) only [go_sem, seval, hx]) ?_
 exact cP.rowL rfl (by rfl)
end
attribute [go_sem] wX
abbrev mY (l : List aM) : DV := encL 2 aY l
abbrev iU (l : List bE) : DV := encL 14 aZ l
def xK (l : List Int) (x : Int) : Nat → Int
 | 0 => -1
 | n + 1 => if l.getD (l.length - (n + 1)) default = x then ((l.length - (n + 1) : Nat) : Int) else xK l x n
theorem bFr {l : List Int} {x : Int} {i : Nat} (hi : i < l.length) : xK l x (l.length - i) = if l.getD i default = x then (i : Int) else xK l x (l.length - (i + 1)) := by
 rw [show l.length - i = (l.length - (i + 1)) + 1 by omega, xK, show l.length - (l.length - (i + 1) + 1) = i by omega]
def ptN (t : eB) (i : Nat) : Int := t.fPoints.getD i default
def hmN (t : eB) (i : Nat) : Int := t.fHomes.getD i default
def ptB (t : eB) (i : Nat) : Bool := decide (0 ≤ ptN t i ∧ (i = 0 ∨ ptN t (i - 1) < ptN t i) ∧ 0 ≤ hmN t i ∧ hmN t i < t.fSections)
def xS (t : eB) : Bool := decide (t.fHomes.length = t.fPoints.length) && (List.range t.fPoints.length).all (ptB t)
def sN (l : List aM) (i : Nat) : aM := l.getD i default
def plI (t : eB) (x : Int) : Int := xK t.fPoints x t.fPoints.length
def sgB (t : eB) (l : List aM) (i : Nat) : Bool := decide (0 ≤ plI t (sN l i).fEl ∧ (i = 0 ∨ (sN l (i - 1)).fEl < (sN l i).fEl) ∧ 1 ≤ (sN l i).fPos ∧ (sN l i).fPos ≤ 2)
def aLd (t : eB) (l : List aM) : Bool := (List.range l.length).all (sgB t l)
def okS (s : aM) (b : List aM) : Bool := b.all fun t => !(s.fEl == t.fEl && s.fPos != t.fPos)
def aIm (a b : List aM) : Bool := a.all fun s => okS s b
theorem cAn {p q : aM} (h : ¬ p.fEl = q.fEl ∨ p.fPos = q.fPos) : (p.fEl == q.fEl && p.fPos != q.fPos) = false := by rcases h with h | h <;> simp [h]
theorem aIq (s : aM) (a b : List aM) : aIm (s :: a) b = (okS s b && aIm a b) := rfl
theorem aHq (s t : aM) (b : List aM) : okS s (t :: b) = (!(s.fEl == t.fEl && s.fPos != t.fPos) && okS s b) := rfl
theorem lO (O : aU) (l : List Int) (x : Int) : aW Tryz.prog O 61 [b9 l, vi x] (vi (xK l x l.length)) := by
 refine aO 0 rfl (.sl _ _ _) fun hl => ?_
 refine dT Tryz.func61 ?_
 refine aB [0, 1] ?_
 refine aA fun K1 hK1 => ?_
 refine aB [0, 1] ?_
 refine aK ?_
 refine aX [0, 1, 7, 8] (fun n ρ => ∃ i, n = l.length - i ∧ (i ≤ l.length) ∧ (xK l x l.length = xK l x (l.length - i)) ∧ ρ = cU O [(0, b9 l), (1, vi x), (7, vi (l.length : Nat)), (8, vi (i : Nat))]) _ ⟨0, rfl, ?_, ?_, ?_⟩ ?_
 ·exact bD
 ·rfl
 ·exact cD
 rintro n ρ ⟨i, rfl, l0_0, l0_1, rfl⟩ K3 hK3
 refine aB [0, 1, 7, 8] ?_
 refine aA fun K5 hK5 => ?_
 refine aS (fun c0 => ?_) fun c0 => ?_
 ·refine aJ ?_
  refine hK5 _ ?_; clear hK5
  refine aA fun K6 hK6 => ?_
  refine aK ?_
  refine aB [0, 1, 7, 8] ?_
  refine aB [0, 1, 5, 7, 8] ?_
  refine aS (fun c1 => ?_) fun c1 => ?_
  ·refine aB [5] ?_
   refine aL ?_
   refine b6 4 ?_
   exact cP.is (by simp (disch := omega) only [go_sem, seval] <;> (rw [l0_1, bFr c0, if_pos (Eq.symm c1)])) rfl rfl
  refine aJ ?_
  refine hK6 _ ?_; clear hK6
  refine bC [0, 1, 7, 8] ?_
  refine hK3 _ _ ?_ ⟨i + 1, rfl, ?_, ?_, ?_⟩
  ·exact bD
  ·exact bD
  ·rw [l0_1, bFr c0, if_neg (fun e => c1 (Eq.symm e))]
  exact cD
 refine bA ?_
 refine hK1 _ ?_; clear hK1
 refine aB [] ?_
 refine aL ?_
 refine b6 4 ?_
 exact cP.is (by simp (disch := omega) only [go_sem, seval] <;> (rw [l0_1, show l.length - i = 0 by omega]; rfl)) rfl rfl
theorem zU (O : aU) (t : eB) (x : Int) : aW Tryz.prog O 27 [.agg (eP t), vi x] (vi (plI t x)) := by
 refine dT Tryz.func27 ?_
 refine aB [0, 1] ?_
 refine aA fun K1 hK1 => ?_
 refine bF [1, 2] ?_
 refine dM (lO _ t.fPoints x) ?_
 refine hK1 _ ?_; clear hK1
 refine aL ?_
 refine b6 4 ?_
 exact cP.is (by simp (disch := omega) only [go_sem, seval] <;> (rfl)) rfl rfl
theorem dK (O : aU) (a n : Int) : aW Tryz.prog O 44 [vi a, vi n] (vb (decide (0 ≤ a ∧ a < n))) := by
 refine dT Tryz.func44 ?_
 refine aB [0, 1] ?_
 refine aB [0, 1] ?_
 refine aL ?_
 refine b6 4 ?_
 refine xb ?_
 (rw [Bool.eq_iff_iff]; simp)
theorem rC (O : aU) (t : eB) : aW Tryz.prog O 45 [.agg (eP t)] (vb (xS t)) := by
 refine aO 0 rfl (.agg (d := b9 t.fPoints) (by simp [eP]) (.sl _ _ _)) fun hp => ?_
 refine aO 0 rfl (.agg (d := b9 t.fHomes) (by simp [eP]) (.sl _ _ _)) fun hh => ?_
 refine dT Tryz.func45 ?_
 refine aB [0] ?_
 refine aA fun K1 hK1 => ?_
 refine aB [1] ?_
 refine aS (fun c0 => ?_) fun c0 => ?_
 ·refine aB [] ?_
  refine aL ?_
  refine b6 2 ?_
  refine xb ?_
  (rw [xS, decide_eq_false (by omega)]; rfl)
 refine aJ ?_
 refine hK1 _ ?_; clear hK1
 refine aA fun K4 hK4 => ?_
 refine aB [1] ?_
 refine aK ?_
 refine aX [1, 13, 14, 15] (fun n ρ => ∃ i, n = t.fPoints.length - i ∧ (i ≤ t.fPoints.length) ∧ (j5 (ptB t) i) ∧ ρ = cU O [(1, .bx (eP t)), (13, b9 t.fPoints), (14, vi (t.fPoints.length : Nat)), (15, vi (i : Nat))]) _ ⟨0, rfl, ?_, ?_, ?_⟩ ?_
 ·exact bD
 ·exact gT _
 ·exact cD
 rintro n ρ ⟨i, rfl, l0_0, l0_1, rfl⟩ K6 hK6
 refine aB [1, 12, 13, 14, 15] ?_
 refine aA fun K8 hK8 => ?_
 refine aS (fun c1 => ?_) fun c1 => ?_
 ·refine aJ ?_
  refine hK8 _ ?_; clear hK8
  refine aA fun K9 hK9 => ?_
  refine aK ?_
  refine aB [1, 12, 13, 14, 15] ?_
  refine aA fun K11 hK11 => ?_
  refine e5 [1, 3, 4, 12, 13, 14, 15] [] ?_
  refine lY (fun g0 => dK _ (hmN t i) t.fSections) ?_
  refine hK11 _ ?_; clear hK11
  refine aS (fun c2 => ?_) fun c2 => ?_
  ·refine aB [] ?_
   refine aL ?_
   refine b6 2 ?_
   refine xb ?_
   (rw [xS, o8 (i := i) (by omega) (decide_eq_false (by simp only [ptN, hmN] at *; omega)), Bool.and_false])
  refine aJ ?_
  refine hK9 _ ?_; clear hK9
  refine bC [1, 12, 13, 14, 15] ?_
  refine hK6 _ _ ?_ ⟨i + 1, rfl, ?_, ?_, ?_⟩
  ·exact bD
  ·exact bD
  ·exact gN l0_1 (decide_eq_true (by simp only [ptN, hmN] at *; omega))
  exact cD
 refine bA ?_
 refine hK4 _ ?_; clear hK4
 refine aB [] ?_
 refine aL ?_
 refine b6 2 ?_
 refine xb ?_
 (rw [xS, o4 l0_1 (by omega), decide_eq_true (by omega)]; rfl)
theorem gR (O : aU) (t : eB) (l : List aM) : aW Tryz.prog O 47 [.agg (eP t), mY l] (vb (aLd t l)) := by
 refine aO 1 rfl (.sl _ _ _) fun hl => ?_
 refine dT Tryz.func47 ?_
 refine aB [0, 1] ?_
 refine aA fun K1 hK1 => ?_
 refine aB [1, 2] ?_
 refine aK ?_
 refine aX [1, 2, 7, 8, 9] (fun n ρ => ∃ i, n = l.length - i ∧ (i ≤ l.length) ∧ (j5 (sgB t l) i) ∧ ρ = cU O [(1, mY l), (2, .bx (eP t)), (7, mY l), (8, vi (l.length : Nat)), (9, vi (i : Nat))]) _ ⟨0, rfl, ?_, ?_, ?_⟩ ?_
 ·exact bD
 ·exact gT _
 ·exact cD
 rintro n ρ ⟨i, rfl, l0_0, l0_1, rfl⟩ K3 hK3
 refine aB [1, 2, 7, 8, 9] ?_
 refine aA fun K5 hK5 => ?_
 refine aS (fun c0 => ?_) fun c0 => ?_
 ·refine aJ ?_
  refine hK5 _ ?_; clear hK5
  refine aA fun K6 hK6 => ?_
  refine aK ?_
  refine aB [1, 2, 7, 8, 9] ?_
  refine aA fun K8 hK8 => ?_
  refine aA fun K9 hK9 => ?_
  refine e5 [1, 2, 5, 6, 7, 8, 9] [] ?_
  refine lY (fun g0 => zU _ t (sN l i).fEl) ?_
  refine hK9 _ ?_; clear hK9
  refine aS (fun c1 => ?_) fun c1 => ?_
  ·refine aB [] ?_
   refine aL ?_
   refine b6 4 ?_
   refine xb ?_
   (rw [aLd, o8 (i := i) (by omega) (decide_eq_false (by simp only [sN] at *; omega))])
  refine aJ ?_
  refine hK8 _ ?_; clear hK8
  refine aB [1, 2, 6, 7, 8, 9] ?_
  refine aS (fun c2 => ?_) fun c2 => ?_
  ·refine aB [] ?_
   refine aL ?_
   refine b6 4 ?_
   refine xb ?_
   (rw [aLd, o8 (i := i) (by omega) (decide_eq_false (by simp only [sN] at *; omega))])
  refine aJ ?_
  refine hK6 _ ?_; clear hK6
  refine bC [1, 2, 7, 8, 9] ?_
  refine hK3 _ _ ?_ ⟨i + 1, rfl, ?_, ?_, ?_⟩
  ·exact bD
  ·exact bD
  ·exact gN l0_1 (decide_eq_true (by simp only [sN] at *; omega))
  exact cD
 refine bA ?_
 refine hK1 _ ?_; clear hK1
 refine aB [] ?_
 refine aL ?_
 refine b6 4 ?_
 refine xb ?_
 (rw [aLd, o4 l0_1 (by omega)])
theorem j9 (O : aU) (a b : List aM) : aW Tryz.prog O 48 [mY a, mY b] (vb (aIm a b)) := by
 refine aO 0 rfl (.sl _ _ _) fun ha => ?_
 refine aO 1 rfl (.sl _ _ _) fun hb => ?_
 refine dT Tryz.func48 ?_
 refine aB [0, 1] ?_
 refine aA fun K1 hK1 => ?_
 refine aB [0, 1] ?_
 refine aK ?_
 refine aX [1, 9, 10, 11] (fun n ρ => ∃ i, n = a.length - i ∧ (i ≤ a.length) ∧ (aIm a b = aIm (a.drop i) b) ∧ ρ = cU O [(1, mY b), (9, mY a), (10, vi (a.length : Nat)), (11, vi (i : Nat))]) _ ⟨0, rfl, ?_, ?_, ?_⟩ ?_
 ·exact bD
 ·rfl
 ·exact cD
 rintro n ρ ⟨i, rfl, l0_0, l0_1, rfl⟩ K3 hK3
 refine aB [0, 1, 9, 10, 11] ?_
 refine aA fun K5 hK5 => ?_
 refine aS (fun c0 => ?_) fun c0 => ?_
 ·refine aJ ?_
  refine hK5 _ ?_; clear hK5
  refine aA fun K6 hK6 => ?_
  refine aK ?_
  refine aB [0, 1, 9, 10, 11] ?_
  refine aB [0, 1, 6, 9, 10, 11] ?_
  refine aK ?_
  refine aX [1, 9, 10, 11, 6, 15, 16, 17] (fun n ρ => ∃ j, n = b.length - j ∧ (j ≤ b.length) ∧ (okS (a.getD i default) b = okS (a.getD i default) (b.drop j)) ∧ ρ = cU O [(1, mY b), (9, mY a), (10, vi (a.length : Nat)), (11, vi (i : Nat)), (6, .bx (aY (a.getD i default))), (15, mY b), (16, vi (b.length : Nat)), (17, vi (j : Nat))]) _ ⟨0, rfl, ?_, ?_, ?_⟩ ?_
  ·exact bD
  ·rfl
  ·exact cD
  rintro n ρ ⟨j, rfl, l1_0, l1_1, rfl⟩ K9 hK9
  refine aB [0, 1, 6, 9, 10, 11, 15, 16, 17] ?_
  refine aA fun K11 hK11 => ?_
  refine aS (fun c1 => ?_) fun c1 => ?_
  ·refine aJ ?_
   refine hK11 _ ?_; clear hK11
   refine aA fun K12 hK12 => ?_
   refine aK ?_
   refine aB [0, 1, 6, 9, 10, 11, 15, 16, 17] ?_
   refine aB [0, 1, 6, 8, 9, 10, 11, 15, 16, 17] ?_
   refine rP ((a.getD i default).fEl == (b.getD j default).fEl && (a.getD i default).fPos != (b.getD j default).fPos) (by rfl) (rfl) (fun c2 => ?_) (fun c2 => ?_)
   ·try simp only [push_cast] at c2
    refine aB [] ?_
    refine aL ?_
    refine b6 4 ?_
    refine xb ?_
    (rw [l0_1, bT default c0, aIq, l1_1, bT default c1, aHq, show ((a.getD i default).fEl == (b.getD j default).fEl && (a.getD i default).fPos != (b.getD j default).fPos) = true by simpa using c2]; rfl)
   try simp only [push_cast] at c2
   refine aJ ?_
   refine hK12 _ ?_; clear hK12
   refine bC [0, 1, 6, 9, 10, 11, 15, 16, 17] ?_
   refine hK9 _ _ ?_ ⟨j + 1, rfl, ?_, ?_, ?_⟩
   ·exact bD
   ·exact bD
   ·rw [l1_1, bT default c1, aHq, cAn c2]; rfl
   exact cD
  refine bA ?_
  refine hK6 _ ?_; clear hK6
  refine bC [0, 1, 9, 10, 11] ?_
  refine hK3 _ _ ?_ ⟨i + 1, rfl, ?_, ?_, ?_⟩
  ·exact bD
  ·exact bD
  ·rw [l0_1, bT default c0, aIq, l1_1, eJ c1]; rfl
  exact cD
 refine bA ?_
 refine hK1 _ ?_; clear hK1
 refine aB [] ?_
 refine aL ?_
 refine b6 4 ?_
 refine xb ?_
 (rw [l0_1, eJ c0]; rfl)
end Go.Sg
