/- Several texts as one. -/
import Derived.Test.YtnpokifaejcbeaaGreatDoorF6
set_option linter.unusedSectionVars false
set_option linter.unusedVariables false
set_option linter.unusedSimpArgs false
set_option maxRecDepth 20000
namespace Go.Sg
open Go.Proofs
open Go.Rv (goodB)
def uG (l : aB) (s : aW) : Int := if lH l s.fEl = true then (e5 l s.fEl.toNat).fLength else 0
theorem rX (l : aB) {q : List aW} {i : Nat} (h : i < q.length) : fX l (q.take (i + 1)) = fX l (q.take i) + uG l (q.getD i default) := by
 rw [fV default h]; unfold fX uG; rw [List.map_append, List.sum_append]; simp
theorem aEd {l : aB} (he : mH l = true) (s : aW) : 0 ≤ uG l s ∧ uG l s ≤ 1000000 := by
 unfold uG
 split
 ·rename_i h
  have h := f7.1 h
  have := m9 (f := wJ l) he (i := s.fEl.toNat) (by omega)
  unfold wJ at this
  have := of_decide_eq_true this
  show 0 ≤ (l.fElements.getD s.fEl.toNat default).fLength ∧ (l.fElements.getD s.fEl.toNat default).fLength ≤ 1000000
  omega
 omega
theorem aDj {l : aB} (he : mH l = true) (q : List aW) : ∀ i, 0 ≤ fX l (q.take i) ∧ fX l (q.take i) ≤ 1000000 * (i : Int)
 | 0 => by simp [fX]
 | i + 1 => by
  have ih := aDj he q i
  by_cases h : i < q.length
  ·rw [rX l h]
   have := aEd he (q.getD i default)
   omega
  rw [List.take_of_length_le (by omega)] at ih ⊢
  omega
def aDt (q : List Int) (x : Int) : List Int := if x ∈ q then q else q ++ [x]
def kN (l : aB) (q : List Int) (s : aW) : List Int := if lH l s.fEl = true then aDt q (e5 l s.fEl.toNat).fSection else q
def eW (l : aB) (q : List aW) : List Int := q.foldl (kN l) []
theorem rT (l : aB) {q : List aW} {i : Nat} (h : i < q.length) : eW l (q.take (i + 1)) = kN l (eW l (q.take i)) (q.getD i default) := by
 rw [fV default h]; unfold eW; rw [List.foldl_append]; rfl
theorem bMn (l : aB) {q : List aW} {i : Nat} (h : i < q.length) (he : lH l (q.getD i default).fEl = false) : eW l (q.take (i + 1)) = eW l (q.take i) := by
 rw [rT l h]; unfold kN; rw [he]; rfl
theorem bJq (l : aB) {q : List aW} {i : Nat} (h : i < q.length) (hm : (e5 l (q.getD i default).fEl.toNat).fSection ∈ eW l (q.take i)) : eW l (q.take (i + 1)) = eW l (q.take i) := by
 rw [rT l h]; unfold kN aDt; rw [if_pos hm]; split <;> rfl
theorem bMx (l : aB) {q : List aW} {i : Nat} (h : i < q.length) (he : lH l (q.getD i default).fEl = true) (hm : (e5 l (q.getD i default).fEl.toNat).fSection ∉ eW l (q.take i)) : eW l (q.take (i + 1)) = eW l (q.take i) ++ [(e5 l (q.getD i default).fEl.toNat).fSection] := by
 rw [rT l h]; unfold kN aDt; rw [if_pos he, if_neg hm]
theorem s7 (l : aB) (q : List aW) : ∀ i, (eW l (q.take i)).Nodup
 | 0 => by simp [eW]
 | i + 1 => by
  have ih := s7 l q i
  by_cases h : i < q.length
  ·rw [rT l h]
   unfold kN aDt
   split
   ·split
    ·exact ih
    rename_i hn
    rw [List.nodup_append]
    exact ⟨ih, by simp, fun a ha b hb e => hn (by simp only [List.mem_singleton] at hb; rw [← hb, ← e]; exact ha)⟩
   exact ih
  rw [List.take_of_length_le (by omega)] at ih ⊢; exact ih
theorem aAf (l : aB) (q : List aW) : ∀ i, (eW l (q.take i)).length ≤ i
 | 0 => by simp [eW]
 | i + 1 => by
  have ih := aAf l q i
  by_cases h : i < q.length
  ·rw [rT l h]
   unfold kN aDt
   split
   ·split
    ·omega
    rw [List.length_append]; simp; omega
   omega
  rw [List.take_of_length_le (by omega)] at ih ⊢; omega
def mtS (q : List Int) : List (Int × Bool) := q.map fun x => (x, true)
theorem x3 (q : List Int) : (mtS q).map (·.1) = q := by unfold mtS; rw [List.map_map]; exact List.map_id _
theorem aMd (q : List Int) (a : Int) : (fM (mtS q) a).getD false = decide (a ∈ q) := by
 unfold mtS
 induction q with
 | nil => rfl
 | cons x l ih =>
  rw [List.map_cons]
  unfold fM
  by_cases h : x = a
  ·subst h; simp
  rw [if_neg h, ih]; simp [Ne.symm h]
theorem bDt {q : List Int} {a : Int} (h : a ∉ q) : lC (mtS q) a true = mtS (q ++ [a]) := by
 rw [nM (fun p hp e => h (by rw [← x3 q, ← e]; exact List.mem_map.2 ⟨p, hp, rfl⟩))]
 unfold mtS
 rw [List.map_append]; rfl
theorem aYr {rl : List Int} {i : Nat} (h : i < rl.length) : ((rl.map eI).getD i []).getD 0 .any = vi (rl.getD i default) := by
 rw [List.getD_eq_getElem?_getD (l := rl.map eI), List.getElem?_map, List.getElem?_eq_getElem h, List.getD_eq_getElem?_getD (l := rl), List.getElem?_eq_getElem h]; rfl
theorem aYk {rl : List Int} {i : Nat} (h : i < rl.length) : (0 < ((rl.map eI).getD i []).length) = True := by
 rw [List.getD_eq_getElem?_getD (l := rl.map eI), List.getElem?_map, List.getElem?_eq_getElem h]; simp [eI]
theorem zA (O : aS) (l : aB) (q : List aW) (hl : eK l) (hes : mH l = true) (hq : q.length ≤ 100) : aY Tryz.prog O 129 [.agg (aK l), b8 q] (vi (fX l q)) := by
 have hl1 := hl.sec
 have hl2 := hl.el
 have hl3 := hl.jo
 have hl4 := hl.sg
 have hl5 := hl.bl
 refine aU 0 rfl (.agg (d := j9 l.fElements) (by simp [aK]) (.sl _ _ _)) fun he => ?_
 refine aU 1 rfl (.sl _ _ _) fun hql => ?_
 refine eE Tryz.func129 ?_
 refine aC [0, 1] ?_
 refine aC [1, 2] ?_
 refine aA fun K2 hK2 => ?_
 refine aC [1, 2, 5] ?_
 refine aL ?_
 refine aZ [2, 5, 8, 9, 10] (fun n ρ => ∃ i, n = q.length - i ∧ (i ≤ q.length) ∧ ρ = dU O [(2, .bx (aK l)), (5, vi (fX l (q.take i))), (8, b8 q), (9, vi (q.length : Nat)), (10, vi (i : Nat))]) _ ⟨0, rfl, ?_, ?_⟩ ?_
 ·exact bI
 ·simp (disch := omega) only [go_sem, seval] <;> rfl
 rintro n ρ ⟨i, rfl, l0_0, rfl⟩ K4 hK4
 have hlb := aDj hes q i
 have heb := aEd hes (q.getD i default)
 refine aC [1, 2, 5, 8, 9, 10] ?_
 refine aA fun K6 hK6 => ?_
 refine aV (fun c0 => ?_) fun c0 => ?_
 ·refine aJ ?_
  refine hK6 _ ?_; clear hK6
  refine aA fun K7 hK7 => ?_
  refine aL ?_
  refine aC [1, 2, 5, 8, 9, 10] ?_
  refine aA fun K9 hK9 => ?_
  refine bL [1, 2, 5, 7, 8, 9, 10] ?_
  refine eL (iA _ l (q.getD i default).fEl) ?_
  refine hK9 _ ?_; clear hK9
  refine aV (fun c1 => ?_) fun c1 => ?_
  ·have hex := f7.1 c1
   have heq : uG l (q.getD i default) = (l.fElements.getD (q.getD i default).fEl.toNat default).fLength := by unfold uG; rw [if_pos c1]
   rw [heq] at heb
   refine bE [1, 2, 5, 7, 8, 9, 10] ?_
   refine hK7 _ ?_; clear hK7
   refine bE [1, 2, 5, 8, 9, 10] ?_
   refine hK4 _ _ ?_ ⟨i + 1, rfl, ?_, ?_⟩
   ·exact bI
   ·exact bI
   simp (disch := omega) only [go_sem, seval] <;> (rw [rX l (by assumption), heq]; rfl)
  refine aJ ?_
  refine hK7 _ ?_; clear hK7
  refine bE [1, 2, 5, 8, 9, 10] ?_
  refine hK4 _ _ ?_ ⟨i + 1, rfl, ?_, ?_⟩
  ·exact bI
  ·exact bI
  simp (disch := omega) only [go_sem, seval] <;> (rw [rX l (by assumption)]; unfold uG; rw [if_neg (by simpa using c1)]; simp)
 refine bA ?_
 refine hK2 _ ?_; clear hK2
 refine aC [5] ?_
 refine aM ?_
 refine cW 4 ?_
 exact dE.is (by simp (disch := omega) only [go_sem, seval] <;> ((rw [List.take_of_length_le (by omega)]))) rfl rfl
theorem wK (O : aS) (l : aB) (q : List aW) (hl : eK l) (hes : mH l = true) (hq : q.length ≤ 100) : aY Tryz.prog O 22 [.agg (aK l), b8 q] (vi (fX l q)) := by
 have hl1 := hl.sec
 have hl2 := hl.el
 have hl3 := hl.jo
 have hl4 := hl.sg
 have hl5 := hl.bl
 refine aU 0 rfl (.agg (d := j9 l.fElements) (by simp [aK]) (.sl _ _ _)) fun he => ?_
 refine aU 1 rfl (.sl _ _ _) fun hql => ?_
 refine eE Tryz.func22 ?_
 refine aC [0, 1] ?_
 refine aC [1, 2] ?_
 refine aA fun K2 hK2 => ?_
 refine aC [1, 2, 5] ?_
 refine aL ?_
 refine aZ [1, 2, 5, 6] (fun n ρ => ∃ i, n = q.length - i ∧ (i ≤ q.length) ∧ ρ = dU O [(1, b8 q), (2, .bx (aK l)), (5, vi (fX l (q.take i))), (6, vi (i : Nat))]) _ ⟨0, rfl, ?_, ?_⟩ ?_
 ·exact bI
 ·simp (disch := omega) only [go_sem, seval] <;> rfl
 rintro n ρ ⟨i, rfl, l0_0, rfl⟩ K4 hK4
 have hlb := aDj hes q i
 have heb := aEd hes (q.getD i default)
 refine aA fun K5 hK5 => ?_
 refine aC [1, 2, 5, 6] ?_
 refine aV (fun c0 => ?_) fun c0 => ?_
 ·refine aJ ?_
  refine hK5 _ ?_; clear hK5
  refine aA fun K7 hK7 => ?_
  refine aL ?_
  refine aA fun K8 hK8 => ?_
  refine gY [1, 2, 5, 6] [] ?_
  refine cdz (lG _ l (q.getD i default).fEl) ?_
  refine hK8 _ ?_; clear hK8
  refine aV (fun c1 => ?_) fun c1 => ?_
  ·have hex := f7.1 c1
   have heq : uG l (q.getD i default) = (l.fElements.getD (q.getD i default).fEl.toNat default).fLength := by unfold uG; rw [if_pos c1]
   rw [heq] at heb
   refine gY [1, 2, 5, 6] [] ?_
   refine hK7 _ ?_; clear hK7
   refine bE [1, 2, 5, 6] ?_
   refine hK4 _ _ ?_ ⟨i + 1, rfl, ?_, ?_⟩
   ·exact bI
   ·exact bI
   simp (disch := omega) only [go_sem, seval] <;> (rw [rX l (by assumption), heq]; rfl)
  refine aJ ?_
  refine hK7 _ ?_; clear hK7
  refine bE [1, 2, 5, 6] ?_
  refine hK4 _ _ ?_ ⟨i + 1, rfl, ?_, ?_⟩
  ·exact bI
  ·exact bI
  simp (disch := omega) only [go_sem, seval] <;> (rw [rX l (by assumption)]; unfold uG; rw [if_neg (by simpa using c1)]; simp)
 refine bA ?_
 refine hK2 _ ?_; clear hK2
 refine aC [5] ?_
 refine aM ?_
 refine cW 4 ?_
 exact dE.is (by simp (disch := omega) only [go_sem, seval] <;> ((rw [List.take_of_length_le (by omega)]))) rfl rfl
section
attribute [local go_sem] aYr aYk List.length_map Nat.mul_one Nat.add_zero
end
set_option maxRecDepth 20000 in
set_option maxHeartbeats 2000000 in
theorem nE (O : aS) (l : aB) (q : List aW) (hl : eK l) (hes : mH l = true) (hq : q.length ≤ 100) : aY Tryz.prog O 87 [.agg (aK l), b8 q] (dL (eW l q)) := by
 have hl1 := hl.sec
 have hl2 := hl.el
 have hl3 := hl.jo
 have hl4 := hl.sg
 have hl5 := hl.bl
 obtain ⟨i4, hi4, hz4⟩ := bEg
 refine aU 0 rfl (.agg (d := j9 l.fElements) (by simp [aK]) (.sl _ _ _)) fun he => ?_
 refine aU 1 rfl (.sl _ _ _) fun hql => ?_
 refine eE Tryz.func87 ?_
 refine aC [0, 1] ?_
 refine aC [1, 2] ?_
 refine aC [1, 2, 5] ?_
 refine aA fun K3 hK3 => ?_
 refine aC [1, 2, 5, 6] ?_
 refine aL ?_
 refine gZ 5 3 1 eI rfl rfl ?_
 refine aZ [2, 5, 6, 11, 12, 13] (fun n ρ => ∃ i, n = q.length - i ∧ (i ≤ q.length) ∧ ρ = dU O [(2, .bx (aK l)), (5, aKl (eW l (q.take i))), (6, .mo (esT mP pL (mtS (eW l (q.take i))))), (11, b8 q), (12, vi (q.length : Nat)), (13, vi (i : Nat))]) _ ⟨0, rfl, ?_, ?_⟩ ?_
 ·exact bI
 ·exact dC
 rintro n ρ ⟨i, rfl, l0_0, rfl⟩ K5 hK5
 have hsl := aAf l q i
 refine aC [1, 2, 5, 6, 11, 12, 13] ?_
 refine aA fun K7 hK7 => ?_
 refine aV (fun c0 => ?_) fun c0 => ?_
 ·refine aJ ?_
  refine hK7 _ ?_; clear hK7
  refine aA fun K8 hK8 => ?_
  refine aL ?_
  refine aC [1, 2, 5, 6, 11, 12, 13] ?_
  refine aA fun K10 hK10 => ?_
  refine aA fun K11 hK11 => ?_
  refine bL [1, 2, 5, 6, 8, 11, 12, 13] ?_
  refine eL (iA _ l (q.getD i default).fEl) ?_
  refine hK11 _ ?_; clear hK11
  refine aV (fun c1 => ?_) fun c1 => ?_
  ·refine bA ?_
   refine hK8 _ ?_; clear hK8
   refine bE [1, 2, 5, 6, 11, 12, 13] ?_
   refine hK5 _ _ ?_ ⟨i + 1, rfl, ?_, ?_⟩
   ·exact bI
   ·exact bI
   simp (disch := omega) only [go_sem, seval] <;> (rw [bMn l c0 (by simpa using c1)]; rfl)
  have hex := f7.1 (by simpa using c1)
  have hex2 : lH l (q.getD i default).fEl = true := (by simpa using c1)
  refine aJ ?_
  refine hK10 _ ?_; clear hK10
  refine aC [1, 2, 5, 6, 8, 11, 12, 13] ?_
  refine aA fun K13 hK13 => ?_
  refine cH (Le.keepC [1, 2, 5, 6, 9, 11, 12, 13] _) ?_
  refine gR ?_
  refine ez ?_
  refine ez ?_
  show OW _ _ _ _ _ _
  refine l5 mP pL (s := 6) (M := mtS (eW l (q.take i))) (a := (e5 l (q.getD i default).fEl.toNat).fSection) (zb := false) (ok := false) rfl rfl (by kernel_rfl) (by kernel_rfl) (by simp (disch := omega) only [go_sem, seval] <;> rfl) (by simp (disch := omega) only [go_sem, seval] <;> rfl) (by simp (disch := omega) only [go_sem, seval] <;> rfl) trivial rfl (by kernel_rfl) hi4 hz4 (k9 _) (fun p _ => k9 p.1) (by rw [x3]; exact s7 l q i) ?_
  try simp (disch := omega) only [go_sem, seval]
  refine ez ?_
  refine hK13 _ ?_; clear hK13
  refine aV (fun c2 => ?_) fun c2 => ?_
  ·have hn : (e5 l (q.getD i default).fEl.toNat).fSection ∉ (eW l (q.take i)) := of_decide_eq_false (by rw [← aMd]; simpa using c2)
   refine aA fun K14 hK14 => ?_
   refine cH (Le.keepC [1, 2, 5, 6, 9, 11, 12, 13] _) ?_
   refine gR ?_
   refine ez ?_
   refine ez ?_
   show OW _ _ _ _ _ _
   refine s3 mP pL (kt := 3) (e := 4) (s := 6) (M := mtS (eW l (q.take i))) (a := (e5 l (q.getD i default).fEl.toNat).fSection) (b := true) (.inl rfl) rfl rfl (by kernel_rfl) (by simp (disch := omega) only [go_sem, seval] <;> rfl) (by simp (disch := omega) only [go_sem, seval] <;> rfl) (by simp (disch := omega) only [go_sem, seval] <;> rfl) trivial rfl (by simp (disch := omega) only [go_sem, seval] <;> rfl) trivial rfl (by kernel_rfl) (k9 _) (fun p _ => k9 p.1) (by rw [x3]; exact s7 l q i) ?_
   refine rF ?_
   refine hK14 _ ?_; clear hK14
   refine bE [1, 2, 5, 6, 9, 11, 12, 13] ?_
   refine hK8 _ ?_; clear hK8
   refine bE [1, 2, 5, 6, 11, 12, 13] ?_
   refine hK5 _ _ ?_ ⟨i + 1, rfl, ?_, ?_⟩
   ·exact bI
   ·exact bI
   simp (disch := omega) only [go_sem, seval] <;> (rw [bMx l c0 hex2 hn, bDt hn, List.map_append]; rfl)
  have hn : (e5 l (q.getD i default).fEl.toNat).fSection ∈ (eW l (q.take i)) := of_decide_eq_true (by rw [← aMd]; simpa using c2)
  refine aJ ?_
  refine hK8 _ ?_; clear hK8
  refine bE [1, 2, 5, 6, 11, 12, 13] ?_
  refine hK5 _ _ ?_ ⟨i + 1, rfl, ?_, ?_⟩
  ·exact bI
  ·exact bI
  simp (disch := omega) only [go_sem, seval] <;> (rw [bJq l c0 hn]; rfl)
 refine bA ?_
 refine hK3 _ ?_; clear hK3
 refine aA fun K15 hK15 => ?_
 refine fG 5 _ rfl rfl ?_
 refine bE [5] ?_
 refine hK15 _ ?_; clear hK15
 refine aM ?_
 refine cW 4 ?_
 exact dE.encL rfl (by (rw [List.take_of_length_le c0]))
end Go.Sg
namespace Go.Sg
open Go.Proofs
theorem wW (O : aS) (l : aB) : aY Tryz.prog O 191 [.agg (aK l)] (.fn 216 [] [.dp (aK l)]) := by
 refine eE Tryz.func191 ?_
 refine aC [0] ?_
 refine aA fun K1 hK1 => ?_
 refine bCs 1 rfl rfl rfl ?_
 refine bE [1] ?_
 refine hK1 _ ?_; clear hK1
 refine aM ?_
 refine cW 2 ?_
 exact dE.is (by simp (disch := omega) only [go_sem, seval] <;> (rfl)) rfl rfl
set_option maxRecDepth 20000 in
set_option maxHeartbeats 4000000 in
theorem sU (O : aS) (l : aB) (s : aW) : aY Tryz.prog O 133 [.agg (aK l), .agg (bO s)] (.tup [.agg (cE (bG l s).1), vb (bG l s).2]) := by
 refine eE Tryz.func133 ?_
 refine aC [0, 1] ?_
 refine aA fun K1 hK1 => ?_
 refine aCg 8 [2, 3, 4] [2, 3, 6, 7, 8, 9, 10, 11, 5, 4] [] [] [[], [0], [], [0, 1, 2], [0, 1, 2, 3], [0, 1, 2, 3], [0, 1, 2, 3, 4, 5], [0, 1, 2, 3, 4, 5, 6]] [[6], [6], [6], [6], [6], [6], [], []] (fun bQ => dU O [(2, .bx (aK l)), (3, .bx (bO s)), (6, bJ (bQ 0) (.agg (aK l))), (7, bJ (bQ 1) (.fn 216 [] [.dp (aK l)])), (8, bJ (bQ 2) (.agg (bO s))), (9, bJ (bQ 3) (.tup [.agg (cE (bG l s).1), vb (bG l s).2])), (10, bJ (bQ 4) (.agg (cE (bG l s).1))), (11, bJ (bQ 5) (vb (bG l s).2)), (5, bJ (bQ 7) (vb (bG l s).2)), (4, pD (bQ 6) true (.bx (cE (bG l s).1)) (.bx [vi 0, vi 0]))]) (fun iQ hiQ oQ hoQ bQ hbQ KQ hKQ => ?_) ?_
 ·match iQ, hiQ with
  | 0, _ | 2, _ | 4, _ | 5, _ | 6, _ | 7, _ =>
   exact mkp hoQ hbQ hKQ
  | 1, _ =>
   exact mkc hoQ hbQ hKQ (wW _ l)
  | 3, _ =>
   exact mkc hoQ hbQ hKQ (s5 _ l s)
 refine rF ?_
 refine hK1 _ ?_; clear hK1
 refine aM ?_
 refine xD (.cons ?_ (.cons ?_ .nil))
 ·exact roC (by simp (disch := omega) only [go_sem, seval] <;> rfl) (by simp (disch := omega) only [go_sem, seval] <;> (first | rfl | (simp_all; done))) (by kernel_rfl) (by first | rfl | (simp (disch := omega) only [go_sem, seval]))
 exact mC (by simp (disch := omega) only [go_sem, seval] <;> (first | rfl | (simp_all; done))) rfl rfl
end Go.Sg
namespace Go.Sg
open Go.Proofs
def lT (q : List aW) : cG := ⟨(q.getD (q.length - 1) default).fEl, (q.getD (q.length - 1) default).fOut⟩
theorem lF {q : List aW} {i : Nat} (h : i < q.length) : (q.map bO).getD i [] = bO (q.getD i default) := by
 rw [List.getD_eq_getElem?_getD (l := q.map bO), List.getElem?_map, List.getElem?_eq_getElem h, List.getD_eq_getElem?_getD (l := q), List.getElem?_eq_getElem h]; rfl
def yE (l : aB) (e : Int) (q : List aW) (i : Nat) : Bool :=
 decide ((q.getD i default).fEl ≠ e) && !(decide (0 < i) && (decide (bU l (q.getD (i - 1) default).fEl = bU l e) && decide (bU l (q.getD i default).fEl ≠ bU l e)))
theorem bLk {l : aB} {e : Int} {q : List aW} {i : Nat} (h : (q.getD i default).fEl = e) : yE l e q i = false := by unfold yE; rw [decide_eq_false (by simpa using h)]; rfl
theorem bMs {l : aB} {e : Int} {q : List aW} {i : Nat} (h1 : 0 < i) (h2 : bU l (q.getD (i - 1) default).fEl = bU l e) (h3 : ¬ bU l (q.getD i default).fEl = bU l e) : yE l e q i = false := by
 unfold yE; rw [decide_eq_true h1, decide_eq_true h2, decide_eq_true h3]; simp
theorem aXf {l : aB} {e : Int} {q : List aW} {i : Nat} (h : ¬ (q.getD i default).fEl = e) (h2 : ¬ ((0 < i ∧ bU l (q.getD (i - 1) default).fEl = bU l e) ∧ ¬ bU l (q.getD i default).fEl = bU l e)) : yE l e q i = true := by
 unfold yE
 rw [decide_eq_true h, Bool.true_and]
 cases hx : (decide (0 < i) && (decide (bU l (q.getD (i - 1) default).fEl = bU l e) && decide (bU l (q.getD i default).fEl ≠ bU l e))) with
 | false => rfl
 | true =>
  simp only [Bool.and_eq_true, decide_eq_true_eq] at hx
  exact absurd ⟨⟨hx.1, hx.2.1⟩, hx.2.2⟩ h2
def kQ (l : aB) (q : List aW) (e : Int) : Bool := (List.range q.length).all (yE l e q)
theorem aBb (O : aS) (q : List aW) (hq : 0 < q.length) : aY Tryz.prog O 174 [b8 q] (.agg (cE (lT q))) := by
 have hcast : ((q.length : Int) - 1).toNat = q.length - 1 := by omega
 refine aU 0 rfl (.sl _ _ _) fun hql => ?_
 refine eE Tryz.func174 ?_
 refine aA fun K0 hK0 => ?_
 refine aX [0] (by kernel_rfl) ?_
 simp (disch := omega) only [go_sem, seval, hcast]
 repeat refine And.intro bS ?_
 refine hK0 _ ?_; clear hK0
 refine aA fun K1 hK1 => ?_
 refine aX [0, 2] (by kernel_rfl) ?_
 simp (disch := omega) only [go_sem, seval, hcast]
 repeat refine And.intro bS ?_
 refine hK1 _ ?_; clear hK1
 refine aA fun K2 hK2 => ?_
 refine aX [2, 3] (by kernel_rfl) ?_
 simp (disch := omega) only [go_sem, seval, hcast]
 repeat refine And.intro bS ?_
 refine hK2 _ ?_; clear hK2
 refine aM ?_
 refine nU 2 49 rfl (by simp (disch := omega) only [go_sem, seval, hcast]) (by simp (disch := omega) only [go_sem, seval, hcast] <;> (rfl)) (by simp (disch := omega) only [go_sem, seval, hcast]) (by simp (disch := omega) only [go_sem, seval, hcast])
section
attribute [local go_sem] lF List.length_map Nat.mul_one Nat.add_zero bO
theorem zH (O : aS) (q : List aW) (s : Nat) (hO : O s = .row 85 3 (q.map bO)) (hb : q.length ≤ 100) (hq : 0 < q.length) : aY Tryz.prog O 174 [.own s q.length] (.agg (cE (lT q))) := by
 have hx : bT O (s + 100000) = .row 85 3 (q.map bO) := by rw [bW, hO]; rfl
 have hcast : ((q.length : Int) - 1).toNat = q.length - 1 := by omega
 refine eE Tryz.func174 ?_
 refine aA fun K0 hK0 => ?_
 refine aX [0] (by kernel_rfl) ?_
 simp (disch := omega) only [go_sem, seval, hx, hcast]
 repeat refine And.intro bS ?_
 refine hK0 _ ?_; clear hK0
 refine aA fun K1 hK1 => ?_
 refine aX [0, 2] (by kernel_rfl) ?_
 simp (disch := omega) only [go_sem, seval, hx, hcast]
 repeat refine And.intro bS ?_
 refine hK1 _ ?_; clear hK1
 refine aA fun K2 hK2 => ?_
 refine aX [2, 3] (by kernel_rfl) ?_
 simp (disch := omega) only [go_sem, seval, hx, hcast]
 repeat refine And.intro bS ?_
 refine hK2 _ ?_; clear hK2
 refine aM ?_
 refine nU 2 49 rfl (by simp (disch := omega) only [go_sem, seval, hx, hcast]) (by simp (disch := omega) only [go_sem, seval, hx, hcast] <;> (rfl)) (by simp (disch := omega) only [go_sem, seval, hx, hcast]) (by simp (disch := omega) only [go_sem, seval, hx, hcast])
end
section
attribute [local go_sem] lF List.length_map Nat.mul_one Nat.add_zero
set_option maxHeartbeats 4000000 in
theorem aAa (O : aS) (q : List aW) (s : Nat) (hO : O s = .row 85 3 (q.map bO)) (hb : q.length ≤ 100) (l : aB) (k : Nat) (hd : DV) (e : Int) (hk : O k = .bx (aK l ++ [hd])) : aY Tryz.prog O 172 [.bp k 0, .own s q.length, vi e] (vb (kQ l q e)) := by
 have hx : bT O (s + 100000) = .row 85 3 (q.map bO) := by rw [bW, hO]; rfl
 have hy : bT O (k + 100000) = .bx (aK l ++ [sh hd]) := by rw [bW, hk]; rfl
 refine eE Tryz.func172 ?_
 refine aA fun K0 hK0 => ?_
 refine aX [0, 1, 2] (by kernel_rfl) ?_
 simp (disch := omega) only [go_sem, seval, hx, hy]
 repeat refine And.intro bS ?_
 refine hK0 _ ?_; clear hK0
 refine aA fun K1 hK1 => ?_
 refine aX [0, 1, 2] (by kernel_rfl) ?_
 simp (disch := omega) only [go_sem, seval, hx, hy]
 repeat refine And.intro bS ?_
 refine fP _ (dH _ l e) ?_
 try simp (disch := omega) only [go_sem, seval, hx, hy]
 repeat refine And.intro bS ?_
 refine hK1 _ ?_; clear hK1
 refine aA fun K2 hK2 => ?_
 refine aA fun K3 hK3 => ?_
 refine aX [0, 1, 2, 7] (by kernel_rfl) ?_
 simp (disch := omega) only [go_sem, seval, hx, hy]
 repeat refine And.intro bS ?_
 refine hK3 _ ?_; clear hK3
 refine aL ?_
 refine aZ [0, 1, 2, 7, 16, 17, 18] (fun n ρ => ∃ i, n = q.length - i ∧ (i ≤ q.length) ∧ (oO (yE l e q) i) ∧ ρ = dU O [(0, .bp (k + 100000) 0), (1, .own (s + 100000) q.length), (2, vi e), (7, vi (bU l e)), (16, .own (s + 100000) q.length), (17, vi (q.length : Nat)), (18, vi (i : Nat))]) _ ⟨0, rfl, ?_, ?_, ?_⟩ ?_
 ·exact bI
 ·exact l4 _
 ·simp (disch := omega) only [go_sem, seval, hx, hy] <;> first | rfl | omega | simp | simp_all
 rintro n ρ ⟨i, rfl, l0_0, l0_1, rfl⟩ K4 hK4
 refine aA fun K5 hK5 => ?_
 refine aX [0, 1, 2, 7, 16, 17, 18] (by kernel_rfl) ?_
 simp (disch := omega) only [go_sem, seval, hx, hy]
 repeat refine And.intro bS ?_
 refine hK5 _ ?_; clear hK5
 refine aA fun K6 hK6 => ?_
 refine aV (fun c0 => ?_) fun c0 => ?_
 ·refine aJ ?_
  refine hK6 _ ?_; clear hK6
  refine aA fun K7 hK7 => ?_
  refine aL ?_
  refine aA fun K8 hK8 => ?_
  refine aX [0, 1, 2, 7, 16, 17, 18] (by kernel_rfl) ?_
  simp (disch := omega) only [go_sem, seval, hx, hy]
  repeat refine And.intro bS ?_
  refine hK8 _ ?_; clear hK8
  refine aA fun K9 hK9 => ?_
  refine aA fun K10 hK10 => ?_
  refine aX [0, 1, 2, 7, 8, 9, 16, 17, 18] (by kernel_rfl) ?_
  simp (disch := omega) only [go_sem, seval, hx, hy]
  repeat refine And.intro bS ?_
  refine hK10 _ ?_; clear hK10
  refine aV (fun c1 => ?_) fun c1 => ?_
  ·refine aA fun K11 hK11 => ?_
   refine aX [] (by kernel_rfl) ?_
   simp (disch := omega) only [go_sem, seval, hx, hy]
   repeat refine And.intro bS ?_
   refine hK11 _ ?_; clear hK11
   refine aM ?_
   refine cK 6 rfl (by simp (disch := omega) only [go_sem, seval, hx, hy]) ?_
   exact dE.is (by simp (disch := omega) only [go_sem, seval, hx, hy] <;> refine congrArg vb ?_ <;> ((symm; exact rA c0 (bLk c1)))) rfl rfl
  refine aJ ?_
  refine hK9 _ ?_; clear hK9
  refine aA fun K12 hK12 => ?_
  refine eV [0, 1, 2, 7, 8, 9, 16, 17, 18] [] fH (by kernel_rfl) ?_
  simp (disch := omega) only [go_sem, seval, hx, hy]
  repeat refine And.intro bS ?_
  refine jB (fun g0 => dH _ l (q.getD (i - 1) default).fEl) ?_ ?_ ?_
  ·first | exact fun _ => trivial | simp
  ·rfl
  try simp (disch := omega) only [go_sem, seval, hx, hy]
  repeat refine And.intro bS ?_
  refine jB (fun g1 => dH _ l (q.getD i default).fEl) ?_ ?_ ?_
  ·first | exact fun _ => trivial | simp
  ·rfl
  try simp (disch := omega) only [go_sem, seval, hx, hy]
  repeat refine And.intro bS ?_
  refine hK12 _ ?_; clear hK12
  refine aV (fun c2 => ?_) fun c2 => ?_
  ·have hcc : (0 < i ∧ bU l (q.getD (i - 1) default).fEl = bU l e) ∧ ¬ bU l (q.getD i default).fEl = bU l e := (by simpa using c2)
   refine aA fun K13 hK13 => ?_
   refine aX [] (by kernel_rfl) ?_
   simp (disch := omega) only [go_sem, seval, hx, hy]
   repeat refine And.intro bS ?_
   refine hK13 _ ?_; clear hK13
   refine aM ?_
   refine cK 6 rfl (by simp (disch := omega) only [go_sem, seval, hx, hy]) ?_
   exact dE.is (by simp (disch := omega) only [go_sem, seval, hx, hy] <;> refine congrArg vb ?_ <;> ((symm; exact rA c0 (bMs hcc.1.1 hcc.1.2 hcc.2)))) rfl rfl
  have hcc : ¬ ((0 < i ∧ bU l (q.getD (i - 1) default).fEl = bU l e) ∧ ¬ bU l (q.getD i default).fEl = bU l e) := (by rintro ⟨⟨h1, h2⟩, h3⟩; simp at c2 h2 h3; rcases c2 with (c2 | c2) | c2 <;> first | omega | exact c2 h2 | exact h3 c2)
  refine aJ ?_
  refine hK7 _ ?_; clear hK7
  refine aX [0, 1, 2, 7, 16, 17, 18] (by kernel_rfl) ?_
  simp (disch := omega) only [go_sem, seval, hx, hy]
  repeat refine And.intro bS ?_
  refine hK4 _ _ ?_ ⟨i + 1, rfl, ?_, ?_, ?_⟩
  ·exact bI
  ·exact bI
  ·exact mG l0_1 (aXf (by simpa using c1) hcc)
  simp (disch := omega) only [go_sem, seval, hx, hy] <;> first | rfl | omega | simp | simp_all
 refine bA ?_
 refine hK2 _ ?_; clear hK2
 refine aA fun K14 hK14 => ?_
 refine aX [] (by kernel_rfl) ?_
 simp (disch := omega) only [go_sem, seval, hx, hy]
 repeat refine And.intro bS ?_
 refine hK14 _ ?_; clear hK14
 refine aM ?_
 refine cK 6 rfl (by simp (disch := omega) only [go_sem, seval, hx, hy]) ?_
 exact dE.is (by simp (disch := omega) only [go_sem, seval, hx, hy] <;> refine congrArg vb ?_ <;> ((symm; exact uO l0_1 c0))) rfl rfl
end
end Go.Sg
namespace Go.Sg
open Go.RowKit
theorem aJb {P : Program} {nt : Nat} {ops : Array Oper} {ρ : aS} {o : Oper} {K : aS → Prop} {t t' : TypeId} {x : Operand} {n' c' : Nat} {d s n : Nat} {e : TypeId} {z : Nat} {xs : List (List DV)}
  (hop : o.op = .binOp .eql t x (.const (.slice none n' c')) t') (hg : o.guard = none) (hdst : o.dst = some d) (ho : dA nt o = true) (hd : eO nt o = true) (h2 : tk P t = 2)
  (h1 : gd (ev ρ x)) (hx : un (ev ρ x) = .own s n) (hr : ρ s = .row e z xs) (hK : ∀ b : Bool, (0 < xs.length → b = false) → K (bZ ρ (some d) (.v (.bool b)))) : OW P nt ops o K ρ := by
 obtain ⟨e2, he⟩ : ∃ e, P.underlying t = some (.slice e) := by
  unfold tk at h2; split at h2 <;> first | exact ⟨_, by assumption⟩ | omega
 refine eZ hg fun I A a w hs => ?_
 have hrl := hs.opd x (bF ho (x := x) (by rw [hop]; simp [Op.operands])) h1
 have hrun : ∀ (b : Option Addr) n c, a.eval x = .slice b n c → (execOp a.eval o).run P w = .ok (.value (.bool b.isNone)) w := fun b n c hx => by
  have hb : execOp a.eval o = (do pure (.value (← (eqGuard .eql t x (.const (.slice none n' c')) (a.eval x) (.slice none n' c') >>= fun _ => binOp .eql t (a.eval x) (.slice none n' c'))))) := by unfold execOp; rw [hop]; rfl
  have hg : eqGuard .eql t x (.const (.slice none n' c')) (.slice b n c) (.slice none n' c') = (pure () : Sem Unit) := by unfold eqGuard; rfl
  rw [hb, hx, hg, Sem.run_bind]
  show Result.andThen ((binOp .eql t (.slice b n c) (.slice none n' c')).run P w) _ = _
  rw [Lib.run_eql_slice_nil w t e2 b n c n' c' he]
  rfl
 rw [hx] at hrl
 have hown := hs.osim.own s
 rw [hr] at hown
 obtain ⟨B', c2, hA, hrow⟩ := hown
 rw [← hdst] at hK
 generalize hv : a.eval x = v at hrl
 cases hrl with
 | own _ _ _ B c b hA' hb =>
  rw [hA] at hA'
  obtain ⟨rfl, rfl⟩ : B' = B ∧ c2 = c := by simpa using hA'
  refine ⟨_, w, I, A, _, hrun b n _ hv, hs.putV hd (.v A _), eA.refl _ _ _, hK _ fun hlt => ?_⟩
  cases B' with
  | none =>
   obtain ⟨rfl, _⟩ := hrow
   exact absurd hlt (by simp)
  | some g => rw [fL hb]; rfl
end Go.Sg
namespace Go.Sg
open Go.Proofs
abbrev fU (l : List aN) : DV := encL 2 a7 l
abbrev r9 (l : List aN) : DV := rowL 68 2 a7 l
theorem iV (O : aS) (l : List aW) (hb : l.length ≤ 1000000) : aY Tryz.prog O 74 [b8 l] (oY l) := by
 refine eE Tryz.func74 ?_
 refine aC [0] ?_
 refine aA fun K1 hK1 => ?_
 refine aA fun K2 hK2 => ?_
 refine bL [0] ?_
 intro β hβ
 refine hK2 _ ?_; clear hK2
 refine aV (fun c0 => ?_) fun c0 => ?_
 ·obtain rfl : l = [] := by
   cases l with
   | nil => rfl
   | cons x l => have := hβ (by simp); simp_all
  refine aC [] ?_
  refine aM ?_
  refine cW 2 ?_
  exact dE.nilrow _ _ (by simp (disch := omega) only [go_sem, seval])
 refine aJ ?_
 refine hK1 _ ?_; clear hK1
 refine aC [0] ?_
 refine aM ?_
 refine cW 2 ?_
 exact dE.rowL rfl (by rfl)
theorem eY (O : aS) (l : List aN) (hb : l.length ≤ 1000000) : aY Tryz.prog O 75 [fU l] (r9 l) := by
 refine eE Tryz.func75 ?_
 refine aC [0] ?_
 refine aA fun K1 hK1 => ?_
 refine aA fun K2 hK2 => ?_
 refine bL [0] ?_
 intro β hβ
 refine hK2 _ ?_; clear hK2
 refine aV (fun c0 => ?_) fun c0 => ?_
 ·obtain rfl : l = [] := by
   cases l with
   | nil => rfl
   | cons x l => have := hβ (by simp); simp_all
  refine aC [] ?_
  refine aM ?_
  refine cW 2 ?_
  exact dE.nilrow _ _ (by simp (disch := omega) only [go_sem, seval])
 refine aJ ?_
 refine hK1 _ ?_; clear hK1
 refine aC [0] ?_
 refine aM ?_
 refine cW 2 ?_
 exact dE.rowL rfl (by rfl)
theorem gD (O : aS) (l : List Int) (hb : l.length ≤ 1000000) : aY Tryz.prog O 76 [dL l] (aKl l) := by
 refine eE Tryz.func76 ?_
 refine aC [0] ?_
 refine aA fun K1 hK1 => ?_
 refine aA fun K2 hK2 => ?_
 refine bL [0] ?_
 intro β hβ
 refine hK2 _ ?_; clear hK2
 refine aV (fun c0 => ?_) fun c0 => ?_
 ·obtain rfl : l = [] := by
   cases l with
   | nil => rfl
   | cons x l => have := hβ (by simp); simp_all
  refine aC [] ?_
  refine aM ?_
  refine cW 2 ?_
  exact dE.nilrow _ _ (by simp (disch := omega) only [go_sem, seval])
 refine aJ ?_
 refine hK1 _ ?_; clear hK1
 refine aC [0] ?_
 refine aM ?_
 refine cW 2 ?_
 exact dE.rowL rfl (by rfl)
theorem sA (O : aS) (l : List cG) (hb : l.length ≤ 1000000) : aY Tryz.prog O 85 [aHp l] (bOd l) := by
 refine eE Tryz.func85 ?_
 refine aC [0] ?_
 refine aA fun K1 hK1 => ?_
 refine aA fun K2 hK2 => ?_
 refine bL [0] ?_
 intro β hβ
 refine hK2 _ ?_; clear hK2
 refine aV (fun c0 => ?_) fun c0 => ?_
 ·obtain rfl : l = [] := by
   cases l with
   | nil => rfl
   | cons x l => have := hβ (by simp); simp_all
  refine aC [] ?_
  refine aM ?_
  refine cW 2 ?_
  exact dE.nilrow _ _ (by simp (disch := omega) only [go_sem, seval])
 refine aJ ?_
 refine hK1 _ ?_; clear hK1
 refine aC [0] ?_
 refine aM ?_
 refine cW 2 ?_
 exact dE.rowL rfl (by rfl)
section
attribute [local go_sem] List.length_map ite_self
set_option maxRecDepth 20000 in
theorem kE (O : aS) (q : List aW) (s : Nat) (hO : O s = .row 85 3 (q.map bO)) (hb : q.length ≤ 100) : aY Tryz.prog O 74 [.own s q.length] (oY q) := by
 have hx : bT O (s + 100000) = .row 85 3 (q.map bO) := by rw [bW, hO]; rfl
 refine eE Tryz.func74 ?_
 refine aA fun K0 hK0 => ?_
 refine aX [0] (by kernel_rfl) ?_
 simp (disch := omega) only [go_sem, seval, hx]
 repeat refine And.intro bS ?_
 refine hK0 _ ?_; clear hK0
 refine aA fun K1 hK1 => ?_
 refine aA fun K2 hK2 => ?_
 refine cH (Le.keepC [0] _) ?_
 refine gR ?_
 show OW _ _ _ _ _ _
 refine cS rfl (by kernel_rfl) (by kernel_rfl) ?_
 simp (disch := omega) only [go_sem, seval, hx]
 repeat refine And.intro bS ?_
 show OW _ _ _ _ _ _
 refine aJb (e := 85) (z := 3) (xs := q.map bO) (s := s + 100000) (n := q.length) rfl rfl rfl (by kernel_rfl) (by kernel_rfl) (by kernel_rfl) (by simp (disch := omega) only [go_sem, seval, hx]) (by simp (disch := omega) only [go_sem, seval, hx] <;> rfl) (by simp (disch := omega) only [go_sem, seval, hx] <;> rfl) (fun β hβ => ?_)
 try simp (disch := omega) only [go_sem, seval, hx]
 repeat refine And.intro bS ?_
 refine hK2 _ ?_; clear hK2
 refine aV (fun c0 => ?_) fun c0 => ?_
 ·obtain rfl : q = [] := by
   cases q with
   | nil => rfl
   | cons x l => have := hβ (by simp); simp_all
  refine aA fun K3 hK3 => ?_
  refine aX [] (by kernel_rfl) ?_
  simp (disch := omega) only [go_sem, seval, hx]
  repeat refine And.intro bS ?_
  refine hK3 _ ?_; clear hK3
  refine aM ?_
  refine cK 2 rfl (by simp (disch := omega) only [go_sem, seval, hx]) ?_
  exact dE.nilrow _ _ (by simp (disch := omega) only [go_sem, seval, hx])
 refine aJ ?_
 refine hK1 _ ?_; clear hK1
 refine aA fun K4 hK4 => ?_
 refine aX [0] (by kernel_rfl) ?_
 simp (disch := omega) only [go_sem, seval, hx]
 repeat refine And.intro (by first | exact ⟨_, _, rfl, by simp⟩ | exact Nat.le_refl _ | (simp only [List.length_take, List.length_map, List.length_nil]; omega) | exact bS) ?_
 refine hK4 _ ?_; clear hK4
 refine aM ?_
 refine cK 2 rfl (by simp (disch := omega) only [go_sem, seval, hx]) ?_
 exact dE.rowL rfl (by rfl)
end
end Go.Sg
namespace Go.Sg
open Go.Proofs
attribute [go_sem] zI
abbrev kI (l : List aN) : DV := encL 2 a7 l
abbrev iM (l : List a8) : DV := encL 14 bB l
def sL (l : List Int) (x : Int) : Nat → Int
 | 0 => -1
 | n + 1 => if l.getD (l.length - (n + 1)) default = x then ((l.length - (n + 1) : Nat) : Int) else sL l x n
theorem bEn {l : List Int} {x : Int} {i : Nat} (hi : i < l.length) : sL l x (l.length - i) = if l.getD i default = x then (i : Int) else sL l x (l.length - (i + 1)) := by
 rw [show l.length - i = (l.length - (i + 1)) + 1 by omega, sL, show l.length - (l.length - (i + 1) + 1) = i by omega]
def ptN (t : cP) (i : Nat) : Int := t.fPoints.getD i default
def hmN (t : cP) (i : Nat) : Int := t.fHomes.getD i default
def ptB (t : cP) (i : Nat) : Bool := decide (0 ≤ ptN t i ∧ (i = 0 ∨ ptN t (i - 1) < ptN t i) ∧ 0 ≤ hmN t i ∧ hmN t i < t.fSections)
def vB (t : cP) : Bool := decide (t.fHomes.length = t.fPoints.length) && (List.range t.fPoints.length).all (ptB t)
def sN (l : List aN) (i : Nat) : aN := l.getD i default
def plI (t : cP) (x : Int) : Int := sL t.fPoints x t.fPoints.length
def sgB (t : cP) (l : List aN) (i : Nat) : Bool := decide (0 ≤ plI t (sN l i).fEl ∧ (i = 0 ∨ (sN l (i - 1)).fEl < (sN l i).fEl) ∧ 1 ≤ (sN l i).fPos ∧ (sN l i).fPos ≤ 2)
def aDe (t : cP) (l : List aN) : Bool := (List.range l.length).all (sgB t l)
def okS (s : aN) (b : List aN) : Bool := b.all fun t => !(s.fEl == t.fEl && s.fPos != t.fPos)
def aBd (a b : List aN) : Bool := a.all fun s => okS s b
theorem bHv {p q : aN} (h : ¬ p.fEl = q.fEl ∨ p.fPos = q.fPos) : (p.fEl == q.fEl && p.fPos != q.fPos) = false := by rcases h with h | h <;> simp [h]
theorem aFu (s : aN) (a b : List aN) : aBd (s :: a) b = (okS s b && aBd a b) := rfl
theorem aIb (s t : aN) (b : List aN) : okS s (t :: b) = (!(s.fEl == t.fEl && s.fPos != t.fPos) && okS s b) := rfl
theorem lM (O : aS) (l : List Int) (x : Int) : aY Tryz.prog O 61 [dL l, vi x] (vi (sL l x l.length)) := by
 refine aU 0 rfl (.sl _ _ _) fun hl => ?_
 refine eE Tryz.func61 ?_
 refine aC [0, 1] ?_
 refine aA fun K1 hK1 => ?_
 refine aC [0, 1] ?_
 refine aL ?_
 refine aZ [0, 1, 7, 8] (fun n ρ => ∃ i, n = l.length - i ∧ (i ≤ l.length) ∧ (sL l x l.length = sL l x (l.length - i)) ∧ ρ = dU O [(0, dL l), (1, vi x), (7, vi (l.length : Nat)), (8, vi (i : Nat))]) _ ⟨0, rfl, ?_, ?_, ?_⟩ ?_
 ·exact bI
 ·rfl
 ·exact dC
 rintro n ρ ⟨i, rfl, l0_0, l0_1, rfl⟩ K3 hK3
 refine aC [0, 1, 7, 8] ?_
 refine aA fun K5 hK5 => ?_
 refine aV (fun c0 => ?_) fun c0 => ?_
 ·refine aJ ?_
  refine hK5 _ ?_; clear hK5
  refine aA fun K6 hK6 => ?_
  refine aL ?_
  refine aC [0, 1, 7, 8] ?_
  refine aC [0, 1, 5, 7, 8] ?_
  refine aV (fun c1 => ?_) fun c1 => ?_
  ·refine aC [5] ?_
   refine aM ?_
   refine cW 4 ?_
   exact dE.is (by simp (disch := omega) only [go_sem, seval] <;> (rw [l0_1, bEn c0, if_pos (Eq.symm c1)])) rfl rfl
  refine aJ ?_
  refine hK6 _ ?_; clear hK6
  refine bE [0, 1, 7, 8] ?_
  refine hK3 _ _ ?_ ⟨i + 1, rfl, ?_, ?_, ?_⟩
  ·exact bI
  ·exact bI
  ·rw [l0_1, bEn c0, if_neg (fun e => c1 (Eq.symm e))]
  exact dC
 refine bA ?_
 refine hK1 _ ?_; clear hK1
 refine aC [] ?_
 refine aM ?_
 refine cW 4 ?_
 exact dE.is (by simp (disch := omega) only [go_sem, seval] <;> (rw [l0_1, show l.length - i = 0 by omega]; rfl)) rfl rfl
theorem pY (O : aS) (t : cP) (x : Int) : aY Tryz.prog O 27 [.agg (dK t), vi x] (vi (plI t x)) := by
 refine eE Tryz.func27 ?_
 refine aC [0, 1] ?_
 refine aA fun K1 hK1 => ?_
 refine bL [1, 2] ?_
 refine eL (lM _ t.fPoints x) ?_
 refine hK1 _ ?_; clear hK1
 refine aM ?_
 refine cW 4 ?_
 exact dE.is (by simp (disch := omega) only [go_sem, seval] <;> (rfl)) rfl rfl
theorem dB (O : aS) (a n : Int) : aY Tryz.prog O 44 [vi a, vi n] (vb (decide (0 ≤ a ∧ a < n))) := by
 refine eE Tryz.func44 ?_
 refine aC [0, 1] ?_
 refine aC [0, 1] ?_
 refine aM ?_
 refine cW 4 ?_
 refine xb ?_
 (rw [Bool.eq_iff_iff]; simp)
theorem pO (O : aS) (t : cP) : aY Tryz.prog O 45 [.agg (dK t)] (vb (vB t)) := by
 refine aU 0 rfl (.agg (d := dL t.fPoints) (by simp [dK]) (.sl _ _ _)) fun hp => ?_
 refine aU 0 rfl (.agg (d := dL t.fHomes) (by simp [dK]) (.sl _ _ _)) fun hh => ?_
 refine eE Tryz.func45 ?_
 refine aC [0] ?_
 refine aA fun K1 hK1 => ?_
 refine aC [1] ?_
 refine aV (fun c0 => ?_) fun c0 => ?_
 ·refine aC [] ?_
  refine aM ?_
  refine cW 2 ?_
  refine xb ?_
  (rw [vB, decide_eq_false (by omega)]; rfl)
 refine aJ ?_
 refine hK1 _ ?_; clear hK1
 refine aA fun K4 hK4 => ?_
 refine aC [1] ?_
 refine aL ?_
 refine aZ [1, 13, 14, 15] (fun n ρ => ∃ i, n = t.fPoints.length - i ∧ (i ≤ t.fPoints.length) ∧ (oO (ptB t) i) ∧ ρ = dU O [(1, .bx (dK t)), (13, dL t.fPoints), (14, vi (t.fPoints.length : Nat)), (15, vi (i : Nat))]) _ ⟨0, rfl, ?_, ?_, ?_⟩ ?_
 ·exact bI
 ·exact l4 _
 ·exact dC
 rintro n ρ ⟨i, rfl, l0_0, l0_1, rfl⟩ K6 hK6
 refine aC [1, 12, 13, 14, 15] ?_
 refine aA fun K8 hK8 => ?_
 refine aV (fun c1 => ?_) fun c1 => ?_
 ·refine aJ ?_
  refine hK8 _ ?_; clear hK8
  refine aA fun K9 hK9 => ?_
  refine aL ?_
  refine aC [1, 12, 13, 14, 15] ?_
  refine aA fun K11 hK11 => ?_
  refine gY [1, 3, 4, 12, 13, 14, 15] [] ?_
  refine lB (fun g0 => dB _ (hmN t i) t.fSections) ?_
  refine hK11 _ ?_; clear hK11
  refine aV (fun c2 => ?_) fun c2 => ?_
  ·refine aC [] ?_
   refine aM ?_
   refine cW 2 ?_
   refine xb ?_
   (rw [vB, rA (i := i) (by omega) (decide_eq_false (by simp only [ptN, hmN] at *; omega)), Bool.and_false])
  refine aJ ?_
  refine hK9 _ ?_; clear hK9
  refine bE [1, 12, 13, 14, 15] ?_
  refine hK6 _ _ ?_ ⟨i + 1, rfl, ?_, ?_, ?_⟩
  ·exact bI
  ·exact bI
  ·exact mG l0_1 (decide_eq_true (by simp only [ptN, hmN] at *; omega))
  exact dC
 refine bA ?_
 refine hK4 _ ?_; clear hK4
 refine aC [] ?_
 refine aM ?_
 refine cW 2 ?_
 refine xb ?_
 (rw [vB, uO l0_1 (by omega), decide_eq_true (by omega)]; rfl)
theorem gF (O : aS) (t : cP) (l : List aN) : aY Tryz.prog O 47 [.agg (dK t), kI l] (vb (aDe t l)) := by
 refine aU 1 rfl (.sl _ _ _) fun hl => ?_
 refine eE Tryz.func47 ?_
 refine aC [0, 1] ?_
 refine aA fun K1 hK1 => ?_
 refine aC [1, 2] ?_
 refine aL ?_
 refine aZ [1, 2, 7, 8, 9] (fun n ρ => ∃ i, n = l.length - i ∧ (i ≤ l.length) ∧ (oO (sgB t l) i) ∧ ρ = dU O [(1, kI l), (2, .bx (dK t)), (7, kI l), (8, vi (l.length : Nat)), (9, vi (i : Nat))]) _ ⟨0, rfl, ?_, ?_, ?_⟩ ?_
 ·exact bI
 ·exact l4 _
 ·exact dC
 rintro n ρ ⟨i, rfl, l0_0, l0_1, rfl⟩ K3 hK3
 refine aC [1, 2, 7, 8, 9] ?_
 refine aA fun K5 hK5 => ?_
 refine aV (fun c0 => ?_) fun c0 => ?_
 ·refine aJ ?_
  refine hK5 _ ?_; clear hK5
  refine aA fun K6 hK6 => ?_
  refine aL ?_
  refine aC [1, 2, 7, 8, 9] ?_
  refine aA fun K8 hK8 => ?_
  refine aA fun K9 hK9 => ?_
  refine gY [1, 2, 5, 6, 7, 8, 9] [] ?_
  refine lB (fun g0 => pY _ t (sN l i).fEl) ?_
  refine hK9 _ ?_; clear hK9
  refine aV (fun c1 => ?_) fun c1 => ?_
  ·refine aC [] ?_
   refine aM ?_
   refine cW 4 ?_
   refine xb ?_
   (rw [aDe, rA (i := i) (by omega) (decide_eq_false (by simp only [sN] at *; omega))])
  refine aJ ?_
  refine hK8 _ ?_; clear hK8
  refine aC [1, 2, 6, 7, 8, 9] ?_
  refine aV (fun c2 => ?_) fun c2 => ?_
  ·refine aC [] ?_
   refine aM ?_
   refine cW 4 ?_
   refine xb ?_
   (rw [aDe, rA (i := i) (by omega) (decide_eq_false (by simp only [sN] at *; omega))])
  refine aJ ?_
  refine hK6 _ ?_; clear hK6
  refine bE [1, 2, 7, 8, 9] ?_
  refine hK3 _ _ ?_ ⟨i + 1, rfl, ?_, ?_, ?_⟩
  ·exact bI
  ·exact bI
  ·exact mG l0_1 (decide_eq_true (by simp only [sN] at *; omega))
  exact dC
 refine bA ?_
 refine hK1 _ ?_; clear hK1
 refine aC [] ?_
 refine aM ?_
 refine cW 4 ?_
 refine xb ?_
 (rw [aDe, uO l0_1 (by omega)])
theorem jX (O : aS) (a b : List aN) : aY Tryz.prog O 48 [kI a, kI b] (vb (aBd a b)) := by
 refine aU 0 rfl (.sl _ _ _) fun ha => ?_
 refine aU 1 rfl (.sl _ _ _) fun hb => ?_
 refine eE Tryz.func48 ?_
 refine aC [0, 1] ?_
 refine aA fun K1 hK1 => ?_
 refine aC [0, 1] ?_
 refine aL ?_
 refine aZ [1, 9, 10, 11] (fun n ρ => ∃ i, n = a.length - i ∧ (i ≤ a.length) ∧ (aBd a b = aBd (a.drop i) b) ∧ ρ = dU O [(1, kI b), (9, kI a), (10, vi (a.length : Nat)), (11, vi (i : Nat))]) _ ⟨0, rfl, ?_, ?_, ?_⟩ ?_
 ·exact bI
 ·rfl
 ·exact dC
 rintro n ρ ⟨i, rfl, l0_0, l0_1, rfl⟩ K3 hK3
 refine aC [0, 1, 9, 10, 11] ?_
 refine aA fun K5 hK5 => ?_
 refine aV (fun c0 => ?_) fun c0 => ?_
 ·refine aJ ?_
  refine hK5 _ ?_; clear hK5
  refine aA fun K6 hK6 => ?_
  refine aL ?_
  refine aC [0, 1, 9, 10, 11] ?_
  refine aC [0, 1, 6, 9, 10, 11] ?_
  refine aL ?_
  refine aZ [1, 9, 10, 11, 6, 15, 16, 17] (fun n ρ => ∃ j, n = b.length - j ∧ (j ≤ b.length) ∧ (okS (a.getD i default) b = okS (a.getD i default) (b.drop j)) ∧ ρ = dU O [(1, kI b), (9, kI a), (10, vi (a.length : Nat)), (11, vi (i : Nat)), (6, .bx (a7 (a.getD i default))), (15, kI b), (16, vi (b.length : Nat)), (17, vi (j : Nat))]) _ ⟨0, rfl, ?_, ?_, ?_⟩ ?_
  ·exact bI
  ·rfl
  ·exact dC
  rintro n ρ ⟨j, rfl, l1_0, l1_1, rfl⟩ K9 hK9
  refine aC [0, 1, 6, 9, 10, 11, 15, 16, 17] ?_
  refine aA fun K11 hK11 => ?_
  refine aV (fun c1 => ?_) fun c1 => ?_
  ·refine aJ ?_
   refine hK11 _ ?_; clear hK11
   refine aA fun K12 hK12 => ?_
   refine aL ?_
   refine aC [0, 1, 6, 9, 10, 11, 15, 16, 17] ?_
   refine aC [0, 1, 6, 8, 9, 10, 11, 15, 16, 17] ?_
   refine qI ((a.getD i default).fEl == (b.getD j default).fEl && (a.getD i default).fPos != (b.getD j default).fPos) (by rfl) (rfl) (fun c2 => ?_) (fun c2 => ?_)
   ·try simp only [push_cast] at c2
    refine aC [] ?_
    refine aM ?_
    refine cW 4 ?_
    refine xb ?_
    (rw [l0_1, bV default c0, aFu, l1_1, bV default c1, aIb, show ((a.getD i default).fEl == (b.getD j default).fEl && (a.getD i default).fPos != (b.getD j default).fPos) = true by simpa using c2]; rfl)
   try simp only [push_cast] at c2
   refine aJ ?_
   refine hK12 _ ?_; clear hK12
   refine bE [0, 1, 6, 9, 10, 11, 15, 16, 17] ?_
   refine hK9 _ _ ?_ ⟨j + 1, rfl, ?_, ?_, ?_⟩
   ·exact bI
   ·exact bI
   ·rw [l1_1, bV default c1, aIb, bHv c2]; rfl
   exact dC
  refine bA ?_
  refine hK6 _ ?_; clear hK6
  refine bE [0, 1, 9, 10, 11] ?_
  refine hK3 _ _ ?_ ⟨i + 1, rfl, ?_, ?_, ?_⟩
  ·exact bI
  ·exact bI
  ·rw [l0_1, bV default c0, aFu, l1_1, eN c1]; rfl
  exact dC
 refine bA ?_
 refine hK1 _ ?_; clear hK1
 refine aC [] ?_
 refine aM ?_
 refine cW 4 ?_
 refine xb ?_
 (rw [l0_1, eN c0]; rfl)
end Go.Sg
namespace Go.Sg
open Go.Proofs
def eT (q : List aW) (e : Int) : Bool := q.any fun s => decide (s.fEl = e)
def i7 (q : List aN) (s : aN) : Bool := q.any fun x => decide (x = s)
theorem kG {q : List aW} {e : Int} : eT q e = true ↔ ∃ s ∈ q, s.fEl = e := by unfold eT; simp
theorem nC {q : List aN} {s : aN} : i7 q s = true ↔ s ∈ q := by unfold i7; simp
theorem aXz : ∀ (l : List Int) (x : Int), decide (0 ≤ sL l x l.length) = l.contains x := by
 intro l x
 have key : ∀ n, n ≤ l.length → (0 ≤ sL l x n ↔ x ∈ l.drop (l.length - n)) := by
  intro n
  induction n with
  | zero => intro _; simp [sL]
  | succ n ih =>
   intro h
   rw [bV default (show l.length - (n + 1) < l.length by omega), show l.length - (n + 1) + 1 = l.length - n by omega]
   unfold sL
   split
   ·rename_i hx; exact ⟨fun _ => by rw [hx]; exact List.mem_cons_self, fun _ => Int.natCast_nonneg _⟩
   rename_i hx; rw [ih (by omega), List.mem_cons]; exact ⟨.inr, fun h => h.resolve_left (fun e => hx e.symm)⟩
 have := key l.length (Nat.le_refl _)
 rw [Nat.sub_self, List.drop_zero] at this
 rw [Bool.eq_iff_iff, decide_eq_true_eq, this]; simp
def zK (l : List aN) (x : aN) : Nat → Int
 | 0 => -1
 | n + 1 => if l.getD (l.length - (n + 1)) default = x then ((l.length - (n + 1) : Nat) : Int) else zK l x n
theorem aWu {l : List aN} {x : aN} {i : Nat} (hi : i < l.length) : zK l x (l.length - i) = if l.getD i default = x then (i : Int) else zK l x (l.length - (i + 1)) := by
 rw [show l.length - i = (l.length - (i + 1)) + 1 by omega, zK, show l.length - (l.length - (i + 1) + 1) = i by omega]
theorem aVy : ∀ (l : List aN) (x : aN), decide (0 ≤ zK l x l.length) = i7 l x := by
 intro l x
 have key : ∀ n, n ≤ l.length → (0 ≤ zK l x n ↔ x ∈ l.drop (l.length - n)) := by
  intro n
  induction n with
  | zero => intro _; simp [zK]
  | succ n ih =>
   intro h
   rw [bV default (show l.length - (n + 1) < l.length by omega), show l.length - (n + 1) + 1 = l.length - n by omega]
   unfold zK
   split
   ·rename_i hx; exact ⟨fun _ => by rw [hx]; exact List.mem_cons_self, fun _ => Int.natCast_nonneg _⟩
   rename_i hx; rw [ih (by omega), List.mem_cons]; exact ⟨.inr, fun h => h.resolve_left (fun e => hx e.symm)⟩
 have := key l.length (Nat.le_refl _)
 rw [Nat.sub_self, List.drop_zero] at this
 rw [Bool.eq_iff_iff, decide_eq_true_eq, this, nC]
theorem oK (O : aS) (l : List Int) (x : Int) : aY Tryz.prog O 190 [dL l, vi x] (vb (l.contains x)) := by
 refine eE Tryz.func190 ?_
 refine aC [0, 1] ?_
 refine aA fun K1 hK1 => ?_
 refine bL [0, 1] ?_
 refine eL (lM _ l x) ?_
 refine hK1 _ ?_; clear hK1
 refine aM ?_
 refine cW 4 ?_
 refine xb ?_
 ((exact aXz l x))
theorem nS (O : aS) (l : List aN) (x : aN) : aY Tryz.prog O 228 [fU l, .agg (a7 x)] (vi (zK l x l.length)) := by
 refine aU 0 rfl (.sl _ _ _) fun hl => ?_
 refine eE Tryz.func228 ?_
 refine aC [0, 1] ?_
 refine aA fun K1 hK1 => ?_
 refine aC [0, 3] ?_
 refine aL ?_
 refine aZ [0, 3, 7, 8] (fun n ρ => ∃ i, n = l.length - i ∧ (i ≤ l.length) ∧ (zK l x l.length = zK l x (l.length - i)) ∧ ρ = dU O [(0, fU l), (3, .bx (a7 x)), (7, vi (l.length : Nat)), (8, vi (i : Nat))]) _ ⟨0, rfl, ?_, ?_, ?_⟩ ?_
 ·exact bI
 ·rfl
 ·exact dC
 rintro n ρ ⟨i, rfl, l0_0, l0_1, rfl⟩ K3 hK3
 refine aC [0, 3, 7, 8] ?_
 refine aA fun K5 hK5 => ?_
 refine aV (fun c0 => ?_) fun c0 => ?_
 ·refine aJ ?_
  refine hK5 _ ?_; clear hK5
  refine aA fun K6 hK6 => ?_
  refine aL ?_
  refine aC [0, 3, 7, 8] ?_
  refine aA fun K8 hK8 => ?_
  refine gY [0, 3, 5, 7, 8] [] ?_
  refine hK8 _ ?_; clear hK8
  refine aV (fun c1 => ?_) fun c1 => ?_
  ·refine aC [5] ?_
   refine aM ?_
   refine cW 4 ?_
   exact dE.is (by simp (disch := omega) only [go_sem, seval] <;> ((rw [l0_1, aWu c0, if_pos (Eq.symm ((fQ _ _).2 (by simpa using c1)))]))) rfl rfl
  refine aJ ?_
  refine hK6 _ ?_; clear hK6
  refine bE [0, 3, 7, 8] ?_
  refine hK3 _ _ ?_ ⟨i + 1, rfl, ?_, ?_, ?_⟩
  ·exact bI
  ·exact bI
  ·rw [l0_1, aWu c0, if_neg (fun h => by rw [fQ] at h; simp_all)]
  exact dC
 refine bA ?_
 refine hK1 _ ?_; clear hK1
 refine aC [] ?_
 refine aM ?_
 refine cW 4 ?_
 exact dE.is (by simp (disch := omega) only [go_sem, seval] <;> ((rw [l0_1, show l.length - i = 0 by omega]; rfl))) rfl rfl
theorem fE (O : aS) (l : List aN) (x : aN) : aY Tryz.prog O 222 [fU l, .agg (a7 x)] (vb (i7 l x)) := by
 refine eE Tryz.func222 ?_
 refine aC [0, 1] ?_
 refine aA fun K1 hK1 => ?_
 refine bL [0, 3] ?_
 refine eL (nS _ l x) ?_
 refine hK1 _ ?_; clear hK1
 refine aM ?_
 refine cW 4 ?_
 refine xb ?_
 ((exact aVy l x))
theorem m5 (O : aS) (l : List aW) (g s : Nat) (cs : List DV) (p : aW → Bool) (hO : O s = .bx cs) (hcs : gT (· + 100000) cs = cs) (hg : aQ Tryz.prog g = true) (hk : ∀ (ρ : aS) (k : Nat) (x : aW), ρ k = .bx cs → aY Tryz.prog ρ g [.agg (bO x), .bp k 0] (vb (p x))) : aY Tryz.prog O 215 [b8 l, .fn g [] [.bp s 0]] (vi (if l.any p then (l.findIdx p : Nat) else -1)) := by
 refine aU 0 rfl (.sl _ _ _) fun hl => ?_
 refine eE Tryz.func215 ?_
 refine aA fun K0 hK0 => ?_
 refine aX [0, 1] (by kernel_rfl) ?_
 simp (disch := omega) only [go_sem, seval, hg]
 repeat refine And.intro bS ?_
 refine hK0 _ ?_; clear hK0
 refine aA fun K1 hK1 => ?_
 refine aA fun K2 hK2 => ?_
 refine aX [0, 1] (by kernel_rfl) ?_
 simp (disch := omega) only [go_sem, seval, hg]
 repeat refine And.intro bS ?_
 refine hK2 _ ?_; clear hK2
 refine aL ?_
 refine aZ [0, 1, 7, 8] (fun n ρ => ∃ i, n = l.length - i ∧ (i ≤ l.length) ∧ ((if l.any p then (l.findIdx p : Int) else -1) = (if (l.drop i).any p then (((l.drop i).findIdx p + i : Nat) : Int) else -1)) ∧ ρ = dU O [(0, b8 l), (1, .fn g [] [.bp (s + 100000) 0]), (7, vi (l.length : Nat)), (8, vi (i : Nat))]) _ ⟨0, rfl, ?_, ?_, ?_⟩ ?_
 ·exact bI
 ·simp
 ·simp (disch := omega) only [go_sem, seval, hg] <;> first | rfl | omega | simp | simp_all
 rintro n ρ ⟨i, rfl, l0_0, l0_1, rfl⟩ K3 hK3
 refine aA fun K4 hK4 => ?_
 refine aX [0, 1, 7, 8] (by kernel_rfl) ?_
 simp (disch := omega) only [go_sem, seval, hg]
 repeat refine And.intro bS ?_
 refine hK4 _ ?_; clear hK4
 refine aA fun K5 hK5 => ?_
 refine aV (fun c0 => ?_) fun c0 => ?_
 ·refine aJ ?_
  refine hK5 _ ?_; clear hK5
  refine aA fun K6 hK6 => ?_
  refine aL ?_
  refine aA fun K7 hK7 => ?_
  refine aX [0, 1, 7, 8] (by kernel_rfl) ?_
  simp (disch := omega) only [go_sem, seval, hg]
  repeat refine And.intro bS ?_
  refine hK7 _ ?_; clear hK7
  refine aA fun K8 hK8 => ?_
  refine aX [0, 1, 5, 7, 8] (by kernel_rfl) ?_
  simp (disch := omega) only [go_sem, seval, hg]
  repeat refine And.intro bS ?_
  refine fP _ (hk _ (s + 100000) (l.getD i default) ?_) ?_
  ·repeat rw [aO, if_neg (by omega)]
   rw [bW, hO]; exact congrArg DV.bx hcs
  try simp (disch := omega) only [go_sem, seval, hg]
  repeat refine And.intro bS ?_
  refine hK8 _ ?_; clear hK8
  refine aV (fun c1 => ?_) fun c1 => ?_
  ·refine aA fun K9 hK9 => ?_
   refine aX [5] (by kernel_rfl) ?_
   simp (disch := omega) only [go_sem, seval, hg]
   repeat refine And.intro bS ?_
   refine hK9 _ ?_; clear hK9
   refine aM ?_
   refine cK 4 rfl (by simp (disch := omega) only [go_sem, seval, hg]) ?_
   exact dE.is (by simp (disch := omega) only [go_sem, seval, hg] <;> (refine congrArg vi ?_; rw [l0_1, bV default c0, List.any_cons, List.findIdx_cons, c1]; simp)) rfl rfl
  refine aJ ?_
  refine hK6 _ ?_; clear hK6
  refine aX [0, 1, 7, 8] (by kernel_rfl) ?_
  simp (disch := omega) only [go_sem, seval, hg]
  repeat refine And.intro bS ?_
  refine hK3 _ _ ?_ ⟨i + 1, rfl, ?_, ?_, ?_⟩
  ·exact bI
  ·exact bI
  ·rw [l0_1, bV default c0, List.any_cons, List.findIdx_cons, c1]; simp only [Bool.false_or, cond_false]; rw [show List.findIdx p (List.drop (i + 1) l) + 1 + i = List.findIdx p (List.drop (i + 1) l) + (i + 1) by omega]
  simp (disch := omega) only [go_sem, seval, hg] <;> first | rfl | omega | simp | simp_all
 refine bA ?_
 refine hK1 _ ?_; clear hK1
 refine aA fun K10 hK10 => ?_
 refine aX [] (by kernel_rfl) ?_
 simp (disch := omega) only [go_sem, seval, hg]
 repeat refine And.intro bS ?_
 refine hK10 _ ?_; clear hK10
 refine aM ?_
 refine cK 4 rfl (by simp (disch := omega) only [go_sem, seval, hg]) ?_
 exact dE.is (by simp (disch := omega) only [go_sem, seval, hg] <;> (refine congrArg vi ?_; rw [l0_1, eN c0]; rfl)) rfl rfl
theorem gX (O : aS) (l : List aW) (g s : Nat) (cs : List DV) (p : aW → Bool) (hO : O s = .bx cs) (hcs : gT (· + 100000) cs = cs) (hg : aQ Tryz.prog g = true) (hk : ∀ (ρ : aS) (k : Nat) (x : aW), ρ k = .bx cs → aY Tryz.prog ρ g [.agg (bO x), .bp k 0] (vb (p x))) : aY Tryz.prog O 188 [b8 l, .fn g [] [.bp s 0]] (vb (l.any p)) := by
 refine eE Tryz.func188 ?_
 refine aA fun K0 hK0 => ?_
 refine aX [0, 1] (by kernel_rfl) ?_
 simp (disch := omega) only [go_sem, seval, hg]
 repeat refine And.intro bS ?_
 refine hK0 _ ?_; clear hK0
 refine aA fun K1 hK1 => ?_
 refine aX [0, 1] (by kernel_rfl) ?_
 simp (disch := omega) only [go_sem, seval, hg]
 repeat refine And.intro bS ?_
 refine fP _ (m5 _ l g (s + 100000) cs p ?_ hcs hg hk) ?_
 ·repeat rw [aO, if_neg (by omega)]
  rw [bW, hO]; exact congrArg DV.bx hcs
 try simp (disch := omega) only [go_sem, seval, hg]
 repeat refine And.intro bS ?_
 refine hK1 _ ?_; clear hK1
 refine aM ?_
 refine cK 4 rfl (by simp (disch := omega) only [go_sem, seval, hg]) ?_
 exact dE.is (by simp (disch := omega) only [go_sem, seval, hg] <;> refine congrArg vb ?_ <;> (cases h : l.any p <;> simp)) rfl rfl
section
attribute [local go_sem] bW
theorem qV (O : aS) (x : aW) (e : Int) (k : Nat) (h : O k = .bx [vi e]) : aY Tryz.prog O 189 [.agg (bO x), .bp k 0] (vb (decide (x.fEl = e))) := by
 refine eE Tryz.func189 ?_
 refine aA fun K0 hK0 => ?_
 refine aX [0, 1] (by kernel_rfl) ?_
 simp (disch := omega) only [go_sem, seval, h]
 repeat refine And.intro bS ?_
 refine hK0 _ ?_; clear hK0
 refine aA fun K1 hK1 => ?_
 refine aX [1, 2] (by kernel_rfl) ?_
 simp (disch := omega) only [go_sem, seval, h]
 repeat refine And.intro bS ?_
 refine hK1 _ ?_; clear hK1
 refine aM ?_
 refine cK 3 rfl (by simp (disch := omega) only [go_sem, seval, h]) ?_
 exact dE.is (by simp (disch := omega) only [go_sem, seval, h] <;> refine congrArg vb ?_ <;> (rfl)) rfl rfl
end
section
attribute [local go_sem] bW
theorem mQ (O : aS) (x : aW) (e : Int) (k : Nat) (h : O k = .bx [vi e]) : aY Tryz.prog O 210 [.agg (bO x), .bp k 0] (vb (decide (x.fEl = e))) := by
 refine eE Tryz.func210 ?_
 refine aA fun K0 hK0 => ?_
 refine aX [0, 1] (by kernel_rfl) ?_
 simp (disch := omega) only [go_sem, seval, h]
 repeat refine And.intro bS ?_
 refine hK0 _ ?_; clear hK0
 refine aA fun K1 hK1 => ?_
 refine aX [1, 2] (by kernel_rfl) ?_
 simp (disch := omega) only [go_sem, seval, h]
 repeat refine And.intro bS ?_
 refine hK1 _ ?_; clear hK1
 refine aM ?_
 refine cK 3 rfl (by simp (disch := omega) only [go_sem, seval, h]) ?_
 exact dE.is (by simp (disch := omega) only [go_sem, seval, h] <;> refine congrArg vb ?_ <;> (rfl)) rfl rfl
end
theorem o4 (O : aS) (x : Int) (l : List Int) : aY Tryz.prog O 131 [vi x, dL l] (vb (l.contains x)) := by
 refine eE Tryz.func131 ?_
 refine aC [0, 1] ?_
 refine aA fun K1 hK1 => ?_
 refine bL [0, 1] ?_
 refine eL (oK _ l x) ?_
 refine hK1 _ ?_; clear hK1
 refine aM ?_
 refine cW 4 ?_
 exact xd
theorem wR (O : aS) (r : a8) (e : Int) : aY Tryz.prog O 176 [.agg (bB r), vi e] (vb (eT r.fPath e || eT r.fOver e)) := by
 refine eE Tryz.func176 ?_
 refine aC [0, 1] ?_
 refine aC [2, 3] ?_
 refine aA fun K2 hK2 => ?_
 refine bL [2, 3, 5] ?_
 refine eL (gX _ r.fPath 210 3 [vi e] (fun s => decide (s.fEl = e)) (by rfl) rfl rfl (fun ρ k r h => mQ ρ r e k h)) ?_
 refine lB (fun g0 => gX _ r.fOver 210 3 [vi e] (fun s => decide (s.fEl = e)) (by rfl) rfl rfl (fun ρ k r h => mQ ρ r e k h)) ?_
 refine hK2 _ ?_; clear hK2
 refine aM ?_
 refine cW 4 ?_
 exact xd
def ndR (r : a8) (s : aN) : Bool := i7 r.fPoints s || i7 r.fOverPoints s || i7 r.fFlank s
theorem zW (O : aS) (r : a8) (s : aN) : aY Tryz.prog O 211 [.agg (bB r), .agg (a7 s)] (vb (ndR r s)) := by
 refine eE Tryz.func211 ?_
 refine aC [0, 1] ?_
 refine aA fun K1 hK1 => ?_
 refine bL [2, 3] ?_
 refine eL (fE _ r.fPoints s) ?_
 refine lB (fun g0 => fE _ r.fOverPoints s) ?_
 refine lB (fun g1 => fE _ r.fFlank s) ?_
 refine hK1 _ ?_; clear hK1
 refine aM ?_
 refine cW 4 ?_
 exact xd
def aBc (x : Int) : List Int → List Int
 | [] => [x]
 | y :: s => if x < y then x :: y :: s else y :: aBc x s
def uU (s : List Int) (x : Int) : List Int := if s.contains x then s else aBc x s
theorem aVi (x : Int) (l : List Int) : (aBc x l).length = l.length + 1 := by
 induction l with
 | nil => rfl
 | cons y s ih => unfold aBc; split <;> simp [ih]
theorem aNv (l : List Int) : ∀ acc, (l.foldl uU acc).length ≤ acc.length + l.length := by
 induction l with
 | nil => intro acc; simp
 | cons x l ih =>
  intro acc
  have h1 := ih (uU acc x)
  have h2 : (uU acc x).length ≤ acc.length + 1 := by
   unfold uU; split
   ·omega
   rw [aVi]; omega
  simp only [List.foldl_cons, List.length_cons]; omega
def mkR (l : List Int) : List Int := l.foldl uU []
theorem bCa (l : List Int) : (mkR l).length ≤ l.length := by have := aNv l []; simp at this; exact this
end Go.Sg
