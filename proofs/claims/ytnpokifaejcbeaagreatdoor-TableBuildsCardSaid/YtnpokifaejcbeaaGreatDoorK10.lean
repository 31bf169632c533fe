/- Several texts as one. -/
import Derived.Test.YtnpokifaejcbeaaGreatDoorK9
set_option linter.unusedSectionVars false
set_option linter.unusedVariables false
set_option linter.unusedSimpArgs false
set_option maxRecDepth 20000
namespace Go.Sg
open Go.Proofs
abbrev aAc (ls : List (List Int)) : DV := encL 1 (fun l => [b9 l]) ls
def m9 (u : List Bool) : List DV := u.map vb
theorem aOz (u : List Bool) : (m9 u).length = u.length := by simp [m9]
theorem aQk {u : List Bool} {k : Nat} (h : k < u.length) : (m9 u).getD k .any = vb (u.getD k false) := by
 simp [m9, List.getD_eq_getElem?_getD, h]
theorem aXg {u : List Bool} {k : Nat} (h : u.length ≤ k) : (m9 u).getD k .any = .any := by
 simp [m9, List.getD_eq_getElem?_getD, h]
theorem aQr {u : List Bool} {k : Nat} {b : Bool} : (m9 u).set k (.v (.bool b)) = m9 (u.set k b) := by
 unfold m9; rw [List.map_set]
theorem aQw {u : List Bool} {k : Nat} {b : Bool} (h : k < u.length) : spl k [.v (.bool b)] (m9 u) = m9 (u.set k b) := by
 rw [zT (by simp [m9]; omega)]
 unfold m9
 rw [List.map_set, List.set_eq_take_append_cons_drop, if_pos (by simpa using h)]
 simp
abbrev iN (l : List Int) (i : Nat) : Int := l.getD i default
def aIw (t : eB) (l : List Int) (i : Nat) : Bool := decide (0 ≤ iN l i ∧ iN l i < t.fSections) && (List.range i).all fun k => !(iN l k == iN l i)
def aIl (t : eB) (l : List Int) : Bool := (List.range l.length).all (aIw t l)
def rtO (t : eB) (r : bE) : Bool := decide (0 ≤ r.fEntry ∧ r.fEntry < t.fSignals ∧ -1 ≤ r.fExit ∧ r.fExit < t.fSignals ∧ 1 ≤ r.fPath.length ∧ r.fPath.length ≤ 12 ∧ 1 ≤ r.fLength ∧ 0 < r.fSections.length ∧ 0 ≤ r.fApproach ∧ r.fApproach < t.fSections)
def rtB (t : eB) (r : bE) : Bool := rtO t r && aIl t (r.fSections ++ r.fOverSections)
def usd (l : List Int) (u : List Bool) (i : Nat) : Prop := u.length = 24 ∧ ∀ j : Nat, j < 24 → (u.getD j false = true ↔ ∃ k, k < i ∧ iN l k = (j : Int))
theorem bQy (l : List Int) : usd l (List.replicate 24 false) 0 := ⟨rfl, fun j hj => by
 rw [List.getD_eq_getElem?_getD, List.getElem?_replicate, if_pos hj]
 exact ⟨fun h => by simp at h, fun ⟨k, hk, _⟩ => absurd hk (Nat.not_lt_zero _)⟩⟩
theorem bTq {l : List Int} {u : List Bool} {i : Nat} (h : usd l u i) (h1 : 0 ≤ iN l i) (h2 : iN l i < 24) : usd l (u.set (iN l i).toNat true) (i + 1) := ⟨by rw [List.length_set]; exact h.1, fun j hj => by
 have hl := h.1
 by_cases e : (iN l i).toNat = j
 ·subst e
  constructor
  ·intro _; exact ⟨i, by omega, by omega⟩
  intro _; rw [List.getD_eq_getElem?_getD, List.getElem?_set_self (by omega)]; rfl
 rw [List.getD_eq_getElem?_getD, List.getElem?_set_ne e, ← List.getD_eq_getElem?_getD, h.2 j hj]
 constructor
 ·rintro ⟨k, hk, hj'⟩; exact ⟨k, by omega, hj'⟩
 rintro ⟨k, hk, hj'⟩
 refine ⟨k, ?_, hj'⟩
 rcases Nat.lt_or_eq_of_le (Nat.le_of_lt_succ hk) with q | q
 ·exact q
 subst q; exact absurd (by omega) e⟩
theorem bVl {t : eB} {l : List Int} {u : List Bool} {i : Nat} (h : usd l u i) (h1 : 0 ≤ iN l i) (h2 : iN l i < 24) (hu : u.getD (iN l i).toNat false = true) : aIw t l i = false := by
 obtain ⟨k, hk, e⟩ := (h.2 _ (by omega)).1 hu
 unfold aIw
 rw [o8 hk (by rw [Bool.not_eq_false', beq_iff_eq]; omega), Bool.and_false]
theorem bVg {t : eB} {l : List Int} {u : List Bool} {i : Nat} (h : usd l u i) (h1 : 0 ≤ iN l i) (h2 : iN l i < t.fSections) (h3 : iN l i < 24) (hu : u.getD (iN l i).toNat false = false) : aIw t l i = true := by
 unfold aIw
 rw [decide_eq_true ⟨h1, h2⟩, Bool.true_and, List.all_eq_true]
 intro k hk
 have hk := List.mem_range.1 hk
 rw [Bool.not_eq_true', beq_eq_false_iff_ne]
 intro e
 rw [(h.2 _ (by omega)).2 ⟨k, hk, by omega⟩] at hu
 cases hu
def aXv : Go.Shelf.Ren := ⟨fun | 4 => 155 | n => n, fun | 22 => 32 | 25 => 3 | n => n, fun | n => n⟩
theorem aCl : Go.Proofs.Lays8.n4 Tryz.prog aXv := {
 mixed := by kernel_rfl
 f4 := ⟨Tryz.f155.name, by decide, Tryz.func155.trans (congrArg some (by kernel_rfl))⟩
 t0 := Tryz.underlying0
 a0 := Tryz.isAgg0
 z0 := Tryz.sizeOf0
 v0 := Tryz.zeroValue0
 t3 := Tryz.underlying3
 a3 := Tryz.isAgg3
 z3 := Tryz.sizeOf3
 v3 := Tryz.zeroValue3
 t4 := Tryz.underlying4
 a4 := Tryz.isAgg4
 z4 := Tryz.sizeOf4
 v4 := Tryz.zeroValue4
 t9 := Tryz.underlying9
 a9 := Tryz.isAgg9
 z9 := Tryz.sizeOf9
 v9 := Tryz.zeroValue9
 t20 := Tryz.underlying20
 a20 := Tryz.isAgg20
 z20 := Tryz.sizeOf20
 v20 := Tryz.zeroValue20
 t22 := Tryz.underlying32
 a22 := Tryz.isAgg32
 z22 := Tryz.sizeOf32
 v22 := Tryz.zeroValue32 }
theorem sR (O : aU) (n : Nat) (hn : 0 < n) (hb : n ≤ 1000000) : aW Tryz.prog O 155 [.v (.slice none 0 0), vi n] (rowL 3 1 eI []) :=
 s0 aCl rfl rfl (show kU Tryz.prog 32 = some (3, 1, 8) by kernel_rfl) (show fD Tryz.prog 3 = some [.int .i64 0] by kernel_rfl) (by decide) rfl rfl O n hn (by omega) (by omega)
theorem tK (O : aU) (n : Nat) (hb : n ≤ 1000000) : aW Tryz.prog O 155 [.v (.slice none 0 0), vi n] (rowL 3 1 eI []) := by
 rcases Nat.eq_zero_or_pos n with h | h
 ·subst h; exact rA aCl rfl rfl O 3 1
 exact sR O n h hb
section
attribute [local go_sem] wX
theorem rS (O : aU) (ls : List (List Int)) (hb : ls.flatten.length ≤ 100000) : aW Tryz.prog O 100 [aAc ls] (rowL 3 1 eI ls.flatten) := by
 refine aO 0 rfl (.sl _ _ _) fun hl => ?_
 refine dT Tryz.func100 ?_
 refine aB [0] ?_
 refine aB [0] ?_
 refine aA fun K2 hK2 => ?_
 refine aB [0, 3] ?_
 refine aK ?_
 refine aX [0, 3, 9, 10, 11] (fun n ρ => ∃ i, ∃ s, n = ls.length - i ∧ (i ≤ ls.length) ∧ (s + (ls.drop i).flatten.length = ls.flatten.length) ∧ ρ = cU O [(0, aAc ls), (3, vi (s : Nat)), (9, aAc ls), (10, vi (ls.length : Nat)), (11, vi (i : Nat))]) _ ⟨0, 0, rfl, ?_, ?_, ?_⟩ ?_
 ·exact bD
 ·simp
 ·exact cD
 rintro n ρ ⟨i, s, rfl, l0_0, l0_1, rfl⟩ K4 hK4
 refine aB [0, 3, 9, 10, 11] ?_
 refine aA fun K6 hK6 => ?_
 refine aS (fun c0 => ?_) fun c0 => ?_
 ·refine aJ ?_
  refine hK6 _ ?_; clear hK6
  refine aA fun K7 hK7 => ?_
  refine aK ?_
  refine aB [0, 3, 9, 10, 11] ?_
  refine aA fun K9 hK9 => ?_
  have hs : s + (ls.getD i default).length + (ls.drop (i + 1)).flatten.length = ls.flatten.length := by rw [← l0_1, bT default c0, List.flatten_cons, List.length_append]; omega
  refine bC [0, 3, 5, 9, 10, 11, 13] ?_
  refine hK9 _ ?_; clear hK9
  refine aB [0, 3, 9, 10, 11] ?_
  refine aS (fun c1 => ?_) fun c1 => ?_
  ·omega
  refine aJ ?_
  refine hK7 _ ?_; clear hK7
  refine bC [0, 3, 9, 10, 11] ?_
  refine hK4 _ _ ?_ ⟨i + 1, s + (ls.getD i default).length, rfl, ?_, ?_, ?_⟩
  ·exact bD
  ·exact bD
  ·exact hs
  exact cD
 refine bA ?_
 refine hK2 _ ?_; clear hK2
 refine aA fun K11 hK11 => ?_
 refine bF [0, 3] ?_
 refine dM (tK _ s (by omega)) ?_
 refine hK11 _ ?_; clear hK11
 refine aA fun K12 hK12 => ?_
 refine aB [0, 6] ?_
 refine aK ?_
 refine aX [6, 25, 26, 27] (fun n ρ => ∃ j, ∃ out, n = ls.length - j ∧ (j ≤ ls.length) ∧ (out ++ (ls.drop j).flatten = ls.flatten) ∧ ρ = cU O [(6, rowL 3 1 eI out), (25, aAc ls), (26, vi (ls.length : Nat)), (27, vi (j : Nat))]) _ ⟨0, [], rfl, ?_, ?_, ?_⟩ ?_
 ·exact bD
 ·rfl
 ·exact cD
 rintro n ρ ⟨j, out, rfl, l1_0, l1_1, rfl⟩ K14 hK14
 refine aB [0, 6, 25, 26, 27] ?_
 refine aA fun K16 hK16 => ?_
 refine aS (fun c2 => ?_) fun c2 => ?_
 ·refine aJ ?_
  refine hK16 _ ?_; clear hK16
  refine aA fun K17 hK17 => ?_
  refine aK ?_
  refine aB [0, 6, 25, 26, 27] ?_
  have hs : (out ++ ls.getD j default).length ≤ ls.flatten.length := by rw [← l1_1, bT default c2, List.flatten_cons, List.length_append, List.length_append, List.length_append]; omega
  rw [List.length_append] at hs
  refine bC [0, 6, 8, 25, 26, 27, 29] ?_
  refine hK17 _ ?_; clear hK17
  refine bC [0, 6, 25, 26, 27] ?_
  refine hK14 _ _ ?_ ⟨j + 1, out ++ ls.getD j default, rfl, ?_, ?_, ?_⟩
  ·exact bD
  ·exact bD
  ·rw [← l1_1, bT default c2, List.flatten_cons, List.append_assoc]
  exact cD
 refine bA ?_
 refine hK12 _ ?_; clear hK12
 refine aB [6] ?_
 refine aL ?_
 refine b6 2 ?_
 exact cP.ownL rfl (by omega) rfl rfl (by rw [← l1_1, eJ c2]; simp)
end
theorem q9 (O : aU) (ls : List (List Int)) (hb : ls.flatten.length ≤ 100000) : aW Tryz.prog O 100 [aAc ls] (b9 ls.flatten) := dJ (rS O ls hb)
theorem bRw (O : aU) (a b : List Int) (hb : (a ++ b).length ≤ 100000) : aW Tryz.prog O 100 [aAc [a, b]] (b9 (a ++ b)) := by
 have := q9 O [a, b] (by simpa using hb)
 simpa using this
theorem aYr (O : aU) {a n : Int} (h : 0 ≤ a ∧ a < n) : aW Tryz.prog O 44 [vi a, vi n] (vb true) := by
 have := dK O a n
 rwa [decide_eq_true h] at this
theorem aHw (O : aU) {a n : Int} (h : ¬ (0 ≤ a ∧ a < n)) : aW Tryz.prog O 44 [vi a, vi n] (vb false) := by
 have := dK O a n
 rwa [decide_eq_false h] at this
theorem bFm {t : eB} {r : bE} (h : rtO t r = false) : rtB t r = false := by rw [rtB, h]; rfl
theorem aRy {t : eB} {r : bE} (h : aIl t (r.fSections ++ r.fOverSections) = false) : rtB t r = false := by rw [rtB, h, Bool.and_false]
section
attribute [local go_sem] aOz aQk aXg aQw aQr Nat.mul_one Bool.not_false Bool.not_true
theorem rR (O : aU) (t : eB) (r : bE) (hs : t.fSections ≤ 24) (hb : (r.fSections ++ r.fOverSections).length ≤ 100000) : aW Tryz.prog O 46 [.agg (eP t), .agg (aZ r)] (vb (rtB t r)) := by
 refine aO 1 rfl (.agg (d := encL 3 bJ r.fPath) (by simp [aZ]) (.sl _ _ _)) fun hq => ?_
 refine aO 1 rfl (.agg (d := b9 r.fSections) (by simp [aZ]) (.sl _ _ _)) fun h5 => ?_
 refine dT Tryz.func46 ?_
 refine aB [0, 1] ?_
 refine aA fun K1 hK1 => ?_
 refine aA fun K2 hK2 => ?_
 refine bF [2, 3] ?_
 refine dM (dK _ r.fEntry t.fSignals) ?_
 refine lY (fun g0 => dK _ r.fExit t.fSignals) ?_
 refine hK2 _ ?_; clear hK2
 refine aS (fun c0 => ?_) fun c0 => ?_
 ·refine aB [] ?_
  refine aL ?_
  refine b6 4 ?_
  refine xb ?_
  (exact (bFm (t := t) (r := r) (decide_eq_false (by omega))).symm)
 refine aJ ?_
 refine hK1 _ ?_; clear hK1
 refine aA fun K4 hK4 => ?_
 refine aB [2, 3] ?_
 refine aS (fun c1 => ?_) fun c1 => ?_
 ·refine aB [] ?_
  refine aL ?_
  refine b6 4 ?_
  refine xb ?_
  (exact (bFm (t := t) (r := r) (decide_eq_false (by omega))).symm)
 refine aJ ?_
 refine hK4 _ ?_; clear hK4
 refine aB [2, 3] ?_
 refine aA fun K8 hK8 => ?_
 refine aA fun K9 hK9 => ?_
 refine bF [2, 3, 5] ?_
 refine dM (fR [aAc [r.fSections, r.fOverSections]] (.cons (bV.litL [r.fSections, r.fOverSections] rfl rfl) .nil) (bRw _ r.fSections r.fOverSections hb)) ?_
 refine hK9 _ ?_; clear hK9
 refine aK ?_
 refine aX [2, 3, 5, 48, 49, 50] (fun n ρ => ∃ i, ∃ u, n = (r.fSections ++ r.fOverSections).length - i ∧ (i ≤ (r.fSections ++ r.fOverSections).length) ∧ (j5 (aIw t (r.fSections ++ r.fOverSections)) i) ∧ (u.length = 24) ∧ (usd (r.fSections ++ r.fOverSections) u i) ∧ ρ = cU O [(2, .bx (eP t)), (3, .bx (aZ r)), (5, .bx (m9 u)), (48, b9 (r.fSections ++ r.fOverSections)), (49, vi ((r.fSections ++ r.fOverSections).length : Nat)), (50, vi (i : Nat))]) _ ⟨0, List.replicate 24 false, rfl, ?_, ?_, ?_, ?_, ?_⟩ ?_
 ·exact bD
 ·exact gT _
 ·rfl
 ·exact bQy _
 ·exact cD
 rintro n ρ ⟨i, u, rfl, l0_0, l0_1, l0_2, l0_3, rfl⟩ K10 hK10
 rcases (show (0 ≤ (r.fSections ++ r.fOverSections).getD i default ∧ (r.fSections ++ r.fOverSections).getD i default < t.fSections) ∨ (¬ (0 ≤ (r.fSections ++ r.fOverSections).getD i default ∧ (r.fSections ++ r.fOverSections).getD i default < t.fSections) ∧ ((r.fSections ++ r.fOverSections).getD i default).toNat < 24) ∨ (¬ (0 ≤ (r.fSections ++ r.fOverSections).getD i default ∧ (r.fSections ++ r.fOverSections).getD i default < t.fSections) ∧ 24 ≤ ((r.fSections ++ r.fOverSections).getD i default).toNat) by omega) with hw | ⟨hw, hx⟩ | ⟨hw, hx⟩
 ·skip
  refine aB [2, 3, 5, 48, 49, 50] ?_
  refine aA fun K12 hK12 => ?_
  refine aS (fun c2 => ?_) fun c2 => ?_
  ·refine aJ ?_
   refine hK12 _ ?_; clear hK12
   refine aA fun K13 hK13 => ?_
   refine aK ?_
   refine aB [2, 3, 5, 48, 49, 50] ?_
   refine aA fun K15 hK15 => ?_
   refine aA fun K16 hK16 => ?_
   refine bF [2, 3, 5, 7, 48, 49, 50] ?_
   refine dM (aYr _ hw) ?_
   refine hK16 _ ?_; clear hK16
   refine aS (fun c3 => ?_) fun c3 => ?_
   ·refine aB [] ?_
    refine aL ?_
    refine b6 4 ?_
    refine xb ?_
    (have h24 : iN (r.fSections ++ r.fOverSections) i < 24 := (by show (r.fSections ++ r.fOverSections).getD i default < 24; omega); exact (aRy (o8 c2 (bVl l0_3 hw.1 h24 (by simpa only [Nat.mul_one, Bool.false_eq_true, false_or] using c3)))).symm)
   refine aJ ?_
   refine hK15 _ ?_; clear hK15
   refine bC [2, 3, 5, 7, 48, 49, 50] ?_
   refine hK13 _ ?_; clear hK13
   refine bF [2, 3, 5, 48, 49, 50] ?_
   have h24 : iN (r.fSections ++ r.fOverSections) i < 24 := (by show (r.fSections ++ r.fOverSections).getD i default < 24; omega)
   have hu : u.getD (iN (r.fSections ++ r.fOverSections) i).toNat false = false := by simpa only [Nat.mul_one, true_and] using c3
   refine hK10 _ _ ?_ ⟨i + 1, u.set (iN (r.fSections ++ r.fOverSections) i).toNat true, rfl, ?_, ?_, ?_, ?_, ?_⟩
   ·exact bD
   ·exact bD
   ·exact gN l0_1 (bVg l0_3 hw.1 hw.2 h24 hu)
   ·rw [List.length_set]; exact l0_2
   ·exact bTq l0_3 hw.1 h24
   exact cD
  refine bA ?_
  refine hK8 _ ?_; clear hK8
  refine aA fun K18 hK18 => ?_
  refine bF [2, 3] ?_
  refine dM (dK _ r.fApproach t.fSections) ?_
  refine hK18 _ ?_; clear hK18
  refine aL ?_
  refine b6 4 ?_
  refine xb ?_
  (rw [rtB, show aIl t (r.fSections ++ r.fOverSections) = true from o4 l0_1 (by omega), Bool.and_true, Bool.eq_iff_iff]; simp [rtO]; omega)
 ·skip
  refine aB [2, 3, 5, 48, 49, 50] ?_
  refine aA fun K20 hK20 => ?_
  refine aS (fun c4 => ?_) fun c4 => ?_
  ·refine aJ ?_
   refine hK20 _ ?_; clear hK20
   refine aA fun K21 hK21 => ?_
   refine aK ?_
   refine aB [2, 3, 5, 48, 49, 50] ?_
   refine aA fun K23 hK23 => ?_
   refine aA fun K24 hK24 => ?_
   refine bF [2, 3, 5, 7, 48, 49, 50] ?_
   refine dM (aHw _ hw) ?_
   refine hK24 _ ?_; clear hK24
   refine rP true (by rfl) (rfl) (fun _ => ?_) (fun h => by cases h)
   refine aB [] ?_
   refine aL ?_
   refine b6 4 ?_
   refine xb ?_
   (exact (aRy (o8 c4 (by rw [aIw, decide_eq_false hw]; rfl))).symm)
  refine bA ?_
  refine hK8 _ ?_; clear hK8
  refine aA fun K26 hK26 => ?_
  refine bF [2, 3] ?_
  refine dM (dK _ r.fApproach t.fSections) ?_
  refine hK26 _ ?_; clear hK26
  refine aL ?_
  refine b6 4 ?_
  refine xb ?_
  (rw [rtB, show aIl t (r.fSections ++ r.fOverSections) = true from o4 l0_1 (by omega), Bool.and_true, Bool.eq_iff_iff]; simp [rtO]; omega)
 skip
 refine aB [2, 3, 5, 48, 49, 50] ?_
 refine aA fun K28 hK28 => ?_
 refine aS (fun c6 => ?_) fun c6 => ?_
 ·refine aJ ?_
  refine hK28 _ ?_; clear hK28
  refine aA fun K29 hK29 => ?_
  refine aK ?_
  refine aB [2, 3, 5, 48, 49, 50] ?_
  refine aA fun K31 hK31 => ?_
  refine aA fun K32 hK32 => ?_
  refine bF [2, 3, 5, 7, 48, 49, 50] ?_
  refine dM (aHw _ hw) ?_
  refine hK32 _ ?_; clear hK32
  refine rP true (by rfl) (rfl) (fun _ => ?_) (fun h => by cases h)
  refine aB [] ?_
  refine aL ?_
  refine b6 4 ?_
  refine xb ?_
  (exact (aRy (o8 c6 (by rw [aIw, decide_eq_false hw]; rfl))).symm)
 refine bA ?_
 refine hK8 _ ?_; clear hK8
 refine aA fun K34 hK34 => ?_
 refine bF [2, 3] ?_
 refine dM (dK _ r.fApproach t.fSections) ?_
 refine hK34 _ ?_; clear hK34
 refine aL ?_
 refine b6 4 ?_
 refine xb ?_
 (rw [rtB, show aIl t (r.fSections ++ r.fOverSections) = true from o4 l0_1 (by omega), Bool.and_true, Bool.eq_iff_iff]; simp [rtO]; omega)
end
def aBi (t : eB) : Bool := decide (t.fRoutes.length ≤ 48 ∧ t.fPoints.length ≤ 32 ∧ 0 ≤ t.fSections ∧ t.fSections ≤ 24 ∧ 0 ≤ t.fSignals ∧ t.fSignals ≤ 20)
def seB (t : eB) (r : bE) : Bool := aLd t r.fPoints && aLd t r.fOverPoints && aLd t r.fFlank
def agB (r : bE) : Bool := aIm r.fPoints r.fOverPoints && aIm r.fPoints r.fFlank && aIm r.fOverPoints r.fFlank
abbrev nmN (t : eB) (i : Nat) : ByteArray := (t.fRoutes.getD i default).fName
def nuB (t : eB) (i : Nat) : Bool := (List.range i).all fun k => decide (nmN t k ≠ nmN t i)
def chk (t : eB) : Int :=
 if aBi t = false then 2 else if xS t = false then 1 else if t.fRoutes.all (rtB t) = false then 1 else if t.fRoutes.all (seB t) = false then 1 else if t.fRoutes.all agB = false then 10 else if (List.range t.fRoutes.length).all (nuB t) = false then 8 else 0
section
variable {t : eB}
theorem bYl (h : aBi t = false) : chk t = 2 := by rw [chk, if_pos h]
theorem bWs (h : aBi t = true) (h2 : xS t = false) : chk t = 1 := by rw [chk, if_neg (by rw [h]; simp), if_pos h2]
theorem cAi (h : aBi t = true) (h2 : xS t = true) (h3 : t.fRoutes.all (rtB t) = false) : chk t = 1 := by rw [chk, if_neg (by rw [h]; simp), if_neg (by rw [h2]; simp), if_pos h3]
theorem bVs (h : aBi t = true) (h2 : xS t = true) (h4 : t.fRoutes.all (seB t) = false) : chk t = 1 := by
 rw [chk, if_neg (by rw [h]; simp), if_neg (by rw [h2]; simp)]
 split
 ·rfl
 first | rfl | rw [if_pos h4]
theorem bXh (h : aBi t = true) (h2 : xS t = true) (h3 : t.fRoutes.all (rtB t) = true) (h4 : t.fRoutes.all (seB t) = true) (h5 : t.fRoutes.all agB = false) : chk t = 10 := by rw [chk, if_neg (by rw [h]; simp), if_neg (by rw [h2]; simp), if_neg (by rw [h3]; simp), if_neg (by rw [h4]; simp), if_pos h5]
theorem bWp (h : aBi t = true) (h2 : xS t = true) (h3 : t.fRoutes.all (rtB t) = true) (h4 : t.fRoutes.all (seB t) = true) (h5 : t.fRoutes.all agB = true) (h6 : (List.range t.fRoutes.length).all (nuB t) = false) : chk t = 8 := by rw [chk, if_neg (by rw [h]; simp), if_neg (by rw [h2]; simp), if_neg (by rw [h3]; simp), if_neg (by rw [h4]; simp), if_neg (by rw [h5]; simp), if_pos h6]
theorem bWe (h : aBi t = true) (h2 : xS t = true) (h3 : t.fRoutes.all (rtB t) = true) (h4 : t.fRoutes.all (seB t) = true) (h5 : t.fRoutes.all agB = true) (h6 : (List.range t.fRoutes.length).all (nuB t) = true) : chk t = 0 := by rw [chk, if_neg (by rw [h]; simp), if_neg (by rw [h2]; simp), if_neg (by rw [h3]; simp), if_neg (by rw [h4]; simp), if_neg (by rw [h5]; simp), if_neg (by rw [h6]; simp)]
theorem bNg (h : aBi t = true) : t.fSections ≤ 24 := by
 have := of_decide_eq_true h
 omega
def fwR (r : bE) : Bool := decide (r.fPath.length ≤ 80 ∧ r.fPoints.length ≤ 80 ∧ r.fSections.length ≤ 80 ∧ r.fOver.length ≤ 80 ∧ r.fOverPoints.length ≤ 80 ∧ r.fOverSections.length ≤ 80 ∧ r.fFlank.length ≤ 80 ∧ r.fGuards.length ≤ 80 ∧ r.fGaps.length ≤ 80)
def bCz (t : eB) : Bool := decide (t.fRoutes.length ≤ 80 ∧ t.fPoints.length ≤ 80 ∧ t.fHomes.length ≤ 80) && t.fRoutes.all fwR
theorem bTr (h : bCz t = true) {i : Nat} (hi : i < t.fRoutes.length) : ((t.fRoutes.getD i default).fSections ++ (t.fRoutes.getD i default).fOverSections).length ≤ 100000 := by
 unfold bCz at h
 rw [Bool.and_eq_true] at h
 have h3 : fwR (t.fRoutes.getD i default) = true := s7 h.2 hi
 unfold fwR at h3
 have := of_decide_eq_true h3
 rw [List.length_append]
 omega
def yX (t : eB) (i : Nat) : List (Value × Value) := (List.range i).map fun k => (.string (nmN t k), .bool true)
theorem bGz (t : eB) (i : Nat) : yX t i ++ [(.string (t.fRoutes.getD i default).fName, .bool true)] = yX t (i + 1) := by
 unfold yX; rw [List.range_succ, List.map_append]; rfl
theorem uX {i : Nat} {e : Value × Value} (h : e ∈ yX t i) : ∃ k, k < i ∧ e = (.string (nmN t k), .bool true) := by
 unfold yX at h
 obtain ⟨k, hk, rfl⟩ := List.mem_map.1 h
 exact ⟨k, List.mem_range.1 hk, rfl⟩
theorem bGi {i k : Nat} (h : nuB t i = true) (hk : k < i) : nmN t k ≠ nmN t i := of_decide_eq_true (bGq h hk)
theorem aJq : ∀ {i : Nat}, j5 (nuB t) i → aXs (yX t i)
 | 0, _ => ⟨fun e he => (by obtain ⟨k, hk, _⟩ := uX he; omega), List.nodup_nil⟩
 | i + 1, h => by
  obtain ⟨h1, h2⟩ := aJq (i := i) fun j hj => h j (by omega)
  refine ⟨fun e he => ?_, ?_⟩
  ·obtain ⟨k, hk, rfl⟩ := uX he; rfl
  rw [← bGz, List.map_append, List.nodup_append]
  refine ⟨h2, by simp, fun a ha b hb => ?_⟩
  obtain ⟨e, he, rfl⟩ := List.mem_map.1 ha
  obtain ⟨k, hk, rfl⟩ := uX he
  simp only [List.map_cons, List.map_nil, List.mem_singleton] at hb
  subst hb
  intro e
  simp only [Value.string.injEq] at e
  exact bGi (h i (by omega)) hk e
theorem aOk {i : Nat} (h : nuB t i = true) : bMo (yX t i) (t.fRoutes.getD i default).fName :=
 ⟨fun e he => (by obtain ⟨k, hk, rfl⟩ := uX he; rfl), fun e he => by
  obtain ⟨k, hk, rfl⟩ := uX he
  intro e
  simp only [Value.string.injEq] at e
  exact bGi h hk e⟩
theorem bAz {i : Nat} (h : aXs (yX t i)) : aJn (yX t i) (t.fRoutes.getD i default).fName (.bool false) = .bool (!nuB t i) := by
 cases hq : nuB t i with
 | true => exact uT (aOk hq).2
 | false =>
  have : ∃ k, k < i ∧ nmN t k = nmN t i := by
   apply Classical.byContradiction
   intro hno
   rw [← Bool.not_eq_true] at hq
   refine hq ?_
   unfold nuB
   rw [List.all_eq_true]
   intro k hk
   exact decide_eq_true fun e => hno ⟨k, List.mem_range.1 hk, e⟩
  obtain ⟨k, hk, e⟩ := this
  refine uW h.2 ?_
  unfold yX
  exact List.mem_map.2 ⟨k, List.mem_range.2 hk, by rw [e]; rfl⟩
theorem aFi {a b : ByteArray} : a.toList = b.toList ↔ a = b := by
 constructor
 ·intro h
  rw [ByteArray.toList_eq, ByteArray.toList_eq] at h
  cases a; cases b
  congr
  exact Array.toList_inj.1 h
 intro h; rw [h]
def aEp (t : eB) (x : ByteArray) : Nat → Int
 | 0 => -1
 | n + 1 => if nmN t (t.fRoutes.length - (n + 1)) = x then ((t.fRoutes.length - (n + 1) : Nat) : Int) else aEp t x n
theorem bFz {x : ByteArray} {i : Nat} (hi : i < t.fRoutes.length) : aEp t x (t.fRoutes.length - i) = if nmN t i = x then (i : Int) else aEp t x (t.fRoutes.length - (i + 1)) := by
 rw [show t.fRoutes.length - i = (t.fRoutes.length - (i + 1)) + 1 by omega, aEp, show t.fRoutes.length - (t.fRoutes.length - (i + 1) + 1) = i by omega]
theorem vF {x : ByteArray} : ∀ k, k ≤ t.fRoutes.length → (∀ j, j < k → nmN t j ≠ x) → aEp t x t.fRoutes.length = aEp t x (t.fRoutes.length - k)
 | 0, _, _ => rfl
 | k + 1, hk, h => by
  rw [vF k (by omega) fun j hj => h j (by omega), bFz (by omega), if_neg (h k (by omega))]
end
section
attribute [local go_sem] bGz
set_option maxHeartbeats 2000000 in
theorem yZ (O : aU) (t : eB) (hf : bCz t = true) : aW Tryz.prog O 15 [.agg (eP t)] (vi (chk t)) := by
 refine aO 0 rfl (.agg (d := iU t.fRoutes) (by simp [eP]) (.sl _ _ _)) fun hr => ?_
 refine aO 0 rfl (.agg (d := b9 t.fPoints) (by simp [eP]) (.sl _ _ _)) fun hp => ?_
 refine dT Tryz.func15 ?_
 refine aB [0] ?_
 refine aA fun K1 hK1 => ?_
 refine aA fun K2 hK2 => ?_
 refine bF [1] ?_
 refine lY (fun g0 => dK _ t.fSections 25) ?_
 refine lY (fun g1 => dK _ t.fSignals 21) ?_
 refine hK2 _ ?_; clear hK2
 refine aS (fun c0 => ?_) fun c0 => ?_
 ·refine aB [] ?_
  refine aL ?_
  refine b6 2 ?_
  exact cP.is (by simp (disch := omega) only [go_sem, seval] <;> (rw [bYl (decide_eq_false (by omega))])) rfl rfl
 have hL : aBi t = true := decide_eq_true (by omega)
 refine aJ ?_
 refine hK1 _ ?_; clear hK1
 refine aA fun K4 hK4 => ?_
 refine aA fun K5 hK5 => ?_
 refine bF [1] ?_
 refine dM (rC _ t) ?_
 refine hK5 _ ?_; clear hK5
 refine aS (fun c1 => ?_) fun c1 => ?_
 ·refine aB [] ?_
  refine aL ?_
  refine b6 2 ?_
  exact cP.is (by simp (disch := omega) only [go_sem, seval] <;> (rw [bWs hL (by simpa using c1)])) rfl rfl
 have hP : xS t = true := by simpa using c1
 refine aJ ?_
 refine hK4 _ ?_; clear hK4
 refine aA fun K7 hK7 => ?_
 refine aB [1] ?_
 refine aK ?_
 refine aX [1, 38, 39, 40] (fun n ρ => ∃ i, n = t.fRoutes.length - i ∧ (i ≤ t.fRoutes.length) ∧ (gU (rtB t) t.fRoutes i) ∧ ρ = cU O [(1, .bx (eP t)), (38, iU t.fRoutes), (39, vi (t.fRoutes.length : Nat)), (40, vi (i : Nat))]) _ ⟨0, rfl, ?_, ?_, ?_⟩ ?_
 ·exact bD
 ·exact fH _ _
 ·exact cD
 rintro n ρ ⟨i, rfl, l0_0, l0_1, rfl⟩ K9 hK9
 refine aB [1, 37, 38, 39, 40] ?_
 refine aA fun K11 hK11 => ?_
 refine aS (fun c2 => ?_) fun c2 => ?_
 ·refine aJ ?_
  refine hK11 _ ?_; clear hK11
  refine aA fun K12 hK12 => ?_
  refine aK ?_
  refine aB [1, 37, 38, 39, 40] ?_
  refine aA fun K14 hK14 => ?_
  refine bF [1, 4, 37, 38, 39, 40] ?_
  refine dM (rR _ t (t.fRoutes.getD i default) (bNg hL) (bTr hf c2)) ?_
  refine hK14 _ ?_; clear hK14
  refine aS (fun c3 => ?_) fun c3 => ?_
  ·refine aB [] ?_
   refine aL ?_
   refine b6 2 ?_
   exact cP.is (by simp (disch := omega) only [go_sem, seval] <;> (rw [cAi hL hP (kA c2 (by simpa using c3))])) rfl rfl
  refine aJ ?_
  refine hK12 _ ?_; clear hK12
  refine bC [1, 37, 38, 39, 40] ?_
  refine hK9 _ _ ?_ ⟨i + 1, rfl, ?_, ?_, ?_⟩
  ·exact bD
  ·exact bD
  ·exact fI l0_1 (by simpa using c3)
  exact cD
 refine bA ?_
 refine hK7 _ ?_; clear hK7
 refine aA fun K16 hK16 => ?_
 refine aB [1] ?_
 refine aK ?_
 have hA := kJ l0_1 (by omega)
 refine aX [1, 50, 51, 52] (fun n ρ => ∃ i, n = t.fRoutes.length - i ∧ (i ≤ t.fRoutes.length) ∧ (gU (seB t) t.fRoutes i) ∧ ρ = cU O [(1, .bx (eP t)), (50, iU t.fRoutes), (51, vi (t.fRoutes.length : Nat)), (52, vi (i : Nat))]) _ ⟨0, rfl, ?_, ?_, ?_⟩ ?_
 ·exact bD
 ·exact fH _ _
 ·exact cD
 rintro n ρ ⟨i, rfl, l1_0, l1_1, rfl⟩ K18 hK18
 refine aB [1, 49, 50, 51, 52] ?_
 refine aA fun K20 hK20 => ?_
 refine aS (fun c4 => ?_) fun c4 => ?_
 ·refine aJ ?_
  refine hK20 _ ?_; clear hK20
  refine aA fun K21 hK21 => ?_
  refine aK ?_
  refine aB [1, 49, 50, 51, 52] ?_
  refine aA fun K23 hK23 => ?_
  refine bF [1, 6, 49, 50, 51, 52] ?_
  refine dM (gR _ t (t.fRoutes.getD i default).fPoints) ?_
  refine lY (fun g2 => gR _ t (t.fRoutes.getD i default).fOverPoints) ?_
  refine lY (fun g3 => gR _ t (t.fRoutes.getD i default).fFlank) ?_
  refine hK23 _ ?_; clear hK23
  refine aS (fun c5 => ?_) fun c5 => ?_
  ·refine aB [] ?_
   refine aL ?_
   refine b6 2 ?_
   exact cP.is (by simp (disch := omega) only [go_sem, seval] <;> (rw [bVs hL hP (kA c4 (by rw [seB, ← Bool.not_eq_true]; intro h; simp only [Bool.and_eq_true] at h; simp only [h.1.1, h.1.2, h.2] at c5; simp at c5))])) rfl rfl
  refine aJ ?_
  refine hK21 _ ?_; clear hK21
  refine bC [1, 49, 50, 51, 52] ?_
  refine hK18 _ _ ?_ ⟨i + 1, rfl, ?_, ?_, ?_⟩
  ·exact bD
  ·exact bD
  ·exact fI l1_1 (by rw [seB]; simpa [and_assoc] using c5)
  exact cD
 refine bA ?_
 refine hK16 _ ?_; clear hK16
 refine aA fun K25 hK25 => ?_
 refine aB [1] ?_
 refine aK ?_
 have hB := kJ l1_1 (by omega)
 refine aX [1, 77, 78, 79] (fun n ρ => ∃ i, n = t.fRoutes.length - i ∧ (i ≤ t.fRoutes.length) ∧ (gU agB t.fRoutes i) ∧ ρ = cU O [(1, .bx (eP t)), (77, iU t.fRoutes), (78, vi (t.fRoutes.length : Nat)), (79, vi (i : Nat))]) _ ⟨0, rfl, ?_, ?_, ?_⟩ ?_
 ·exact bD
 ·exact fH _ _
 ·exact cD
 rintro n ρ ⟨i, rfl, l2_0, l2_1, rfl⟩ K27 hK27
 refine aB [1, 76, 77, 78, 79] ?_
 refine aA fun K29 hK29 => ?_
 refine aS (fun c6 => ?_) fun c6 => ?_
 ·refine aJ ?_
  refine hK29 _ ?_; clear hK29
  refine aA fun K30 hK30 => ?_
  refine aK ?_
  refine aB [1, 76, 77, 78, 79] ?_
  refine aA fun K32 hK32 => ?_
  refine bF [1, 8, 76, 77, 78, 79] ?_
  refine dM (j9 _ (t.fRoutes.getD i default).fPoints (t.fRoutes.getD i default).fOverPoints) ?_
  refine lY (fun g4 => j9 _ (t.fRoutes.getD i default).fPoints (t.fRoutes.getD i default).fFlank) ?_
  refine lY (fun g5 => j9 _ (t.fRoutes.getD i default).fOverPoints (t.fRoutes.getD i default).fFlank) ?_
  refine hK32 _ ?_; clear hK32
  refine aS (fun c7 => ?_) fun c7 => ?_
  ·refine aB [] ?_
   refine aL ?_
   refine b6 2 ?_
   exact cP.is (by simp (disch := omega) only [go_sem, seval] <;> (rw [bXh hL hP hA hB (kA c6 (by rw [agB, ← Bool.not_eq_true]; intro h; simp only [Bool.and_eq_true] at h; simp only [h.1.1, h.1.2, h.2] at c7; simp at c7))])) rfl rfl
  refine aJ ?_
  refine hK30 _ ?_; clear hK30
  refine bC [1, 76, 77, 78, 79] ?_
  refine hK27 _ _ ?_ ⟨i + 1, rfl, ?_, ?_, ?_⟩
  ·exact bD
  ·exact bD
  ·exact fI l2_1 (by rw [agB]; simpa [and_assoc] using c7)
  exact cD
 refine bA ?_
 refine hK25 _ ?_; clear hK25
 refine aB [1] ?_
 refine aA fun K35 hK35 => ?_
 refine aB [1, 9] ?_
 refine aK ?_
 have hC := kJ l2_1 (by omega)
 refine aX [9, 108, 109, 110] (fun n ρ => ∃ i, n = t.fRoutes.length - i ∧ (i ≤ t.fRoutes.length) ∧ (j5 (nuB t) i) ∧ ρ = cU O [(9, .mo (yX t i)), (108, iU t.fRoutes), (109, vi (t.fRoutes.length : Nat)), (110, vi (i : Nat))]) _ ⟨0, rfl, ?_, ?_, ?_⟩ ?_
 ·exact bD
 ·exact gT _
 ·exact cD
 rintro n ρ ⟨i, rfl, l3_0, l3_1, rfl⟩ K37 hK37
 have hK := aJq l3_1
 have hG := bAz hK
 refine aA fun K38 hK38 => ?_
 refine a7 [1, 9, 107, 108, 109, 110] (by kernel_rfl) ?_
 simp (disch := omega) only [go_sem, seval, hG]
 repeat refine And.intro bS ?_
 refine hK38 _ ?_; clear hK38
 refine aA fun K39 hK39 => ?_
 refine aS (fun c8 => ?_) fun c8 => ?_
 ·refine aJ ?_
  refine hK39 _ ?_; clear hK39
  refine aA fun K40 hK40 => ?_
  refine aK ?_
  refine aA fun K41 hK41 => ?_
  refine a7 [1, 9, 107, 108, 109, 110] (by kernel_rfl) ?_
  simp (disch := omega) only [go_sem, seval, hG]
  repeat refine And.intro bS ?_
  refine hK41 _ ?_; clear hK41
  refine aA fun K42 hK42 => ?_
  refine aA fun K43 hK43 => ?_
  refine a7 [1, 9, 11, 107, 108, 109, 110] (by kernel_rfl) ?_
  simp (disch := omega) only [go_sem, seval, hG]
  repeat refine And.intro bS ?_
  refine hK43 _ ?_; clear hK43
  refine aS (fun c9 => ?_) fun c9 => ?_
  ·refine aA fun K44 hK44 => ?_
   refine a7 [] (by kernel_rfl) ?_
   simp (disch := omega) only [go_sem, seval, hG]
   repeat refine And.intro bS ?_
   refine hK44 _ ?_; clear hK44
   refine aL ?_
   refine dC 2 rfl (by simp (disch := omega) only [go_sem, seval, hG]) ?_
   exact cP.is (by simp (disch := omega) only [go_sem, seval, hG] <;> (rw [bWp hL hP hA hB hC (o8 c8 (by simpa using c9))])) rfl rfl
  have hN : nuB t i = true := by simpa using c9
  have hNK := aOk hN
  refine aJ ?_
  refine hK42 _ ?_; clear hK42
  refine a7 [1, 9, 11, 107, 108, 109, 110] (by kernel_rfl) ?_
  simp (disch := omega) only [go_sem, seval, hG]
  repeat refine And.intro bS ?_
  refine hK40 _ ?_; clear hK40
  refine a7 [1, 9, 107, 108, 109, 110] (by kernel_rfl) ?_
  simp (disch := omega) only [go_sem, seval, hG]
  repeat refine And.intro bS ?_
  refine hK37 _ _ ?_ ⟨i + 1, rfl, ?_, ?_, ?_⟩
  ·exact bD
  ·exact bD
  ·exact gN l3_1 hN
  simp (disch := omega) only [go_sem, seval, hG] <;> first | rfl | omega | simp | simp_all
 refine bA ?_
 refine hK35 _ ?_; clear hK35
 refine aA fun K45 hK45 => ?_
 refine a7 [] (by kernel_rfl) ?_
 simp (disch := omega) only [go_sem, seval, hG]
 repeat refine And.intro bS ?_
 refine hK45 _ ?_; clear hK45
 refine aL ?_
 refine dC 2 rfl (by simp (disch := omega) only [go_sem, seval, hG]) ?_
 exact cP.is (by simp (disch := omega) only [go_sem, seval, hG] <;> (rw [bWe hL hP hA hB hC (o4 l3_1 (by omega))])) rfl rfl
end
def nmB (x : ByteArray) (r : bE) : Bool := decide (r.fName = x)
theorem bFf {t : eB} {x : ByteArray} : (if t.fRoutes.any (nmB x) then (t.fRoutes.findIdx (nmB x) : Int) else -1) = aEp t x t.fRoutes.length := by
 by_cases h : t.fRoutes.any (nmB x) = true
 ·rw [if_pos h]
  have hlt : t.fRoutes.findIdx (nmB x) < t.fRoutes.length := List.findIdx_lt_length.2 (by simpa using h)
  have hat : nmN t (t.fRoutes.findIdx (nmB x)) = x := by
   have := List.findIdx_getElem (w := hlt)
   have := of_decide_eq_true (p := (t.fRoutes[t.fRoutes.findIdx (nmB x)]).fName = x) this
   simpa [nmN, List.getD_eq_getElem?_getD, hlt] using this
  rw [vF (t.fRoutes.findIdx (nmB x)) (by omega) fun j hj he => ?_, bFz hlt, if_pos hat]
  have := List.not_of_lt_findIdx hj
  refine absurd this ?_
  rw [Bool.not_eq_false]
  exact decide_eq_true (by simpa [nmN, List.getD_eq_getElem?_getD, show j < t.fRoutes.length by omega] using he)
 rw [if_neg h, vF t.fRoutes.length (Nat.le_refl _) fun j hj he => ?_, Nat.sub_self]
 ·rfl
 rw [Bool.not_eq_true] at h
 have := s7 (f := fun r => !nmB x r) (l := t.fRoutes) (by rw [List.all_eq_true]; intro r hr; rw [List.any_eq_false] at h; simpa using h r hr) hj
 simp only [nmB, Bool.not_eq_true', decide_eq_false_iff_not] at this
 exact this he
theorem m0 (O : aU) (l : List bE) (g s : Nat) (cs : List DV) (p : bE → Bool) (hO : O s = .bx cs) (hcs : iA (· + 100000) cs = cs) (hg : aQ Tryz.prog g = true) (hk : ∀ (ρ : aU) (k : Nat) (x : bE), ρ k = .bx cs → aW Tryz.prog ρ g [.agg (aZ x), .bp k 0] (vb (p x))) : aW Tryz.prog O 52 [iU l, .fn g [] [.bp s 0]] (vi (if l.any p then (l.findIdx p : Nat) else -1)) := by
 refine aO 0 rfl (.sl _ _ _) fun hl => ?_
 refine dT Tryz.func52 ?_
 refine aA fun K0 hK0 => ?_
 refine a7 [0, 1] (by kernel_rfl) ?_
 simp (disch := omega) only [go_sem, seval, hg]
 repeat refine And.intro bS ?_
 refine hK0 _ ?_; clear hK0
 refine aA fun K1 hK1 => ?_
 refine aA fun K2 hK2 => ?_
 refine a7 [0, 1] (by kernel_rfl) ?_
 simp (disch := omega) only [go_sem, seval, hg]
 repeat refine And.intro bS ?_
 refine hK2 _ ?_; clear hK2
 refine aK ?_
 refine aX [0, 1, 7, 8] (fun n ρ => ∃ i, n = l.length - i ∧ (i ≤ l.length) ∧ ((if l.any p then (l.findIdx p : Int) else -1) = (if (l.drop i).any p then (((l.drop i).findIdx p + i : Nat) : Int) else -1)) ∧ ρ = cU O [(0, iU l), (1, .fn g [] [.bp (s + 100000) 0]), (7, vi (l.length : Nat)), (8, vi (i : Nat))]) _ ⟨0, rfl, ?_, ?_, ?_⟩ ?_
 ·exact bD
 ·simp
 ·simp (disch := omega) only [go_sem, seval, hg] <;> first | rfl | omega | simp | simp_all
 rintro n ρ ⟨i, rfl, l0_0, l0_1, rfl⟩ K3 hK3
 refine aA fun K4 hK4 => ?_
 refine a7 [0, 1, 7, 8] (by kernel_rfl) ?_
 simp (disch := omega) only [go_sem, seval, hg]
 repeat refine And.intro bS ?_
 refine hK4 _ ?_; clear hK4
 refine aA fun K5 hK5 => ?_
 refine aS (fun c0 => ?_) fun c0 => ?_
 ·refine aJ ?_
  refine hK5 _ ?_; clear hK5
  refine aA fun K6 hK6 => ?_
  refine aK ?_
  refine aA fun K7 hK7 => ?_
  refine a7 [0, 1, 7, 8] (by kernel_rfl) ?_
  simp (disch := omega) only [go_sem, seval, hg]
  repeat refine And.intro bS ?_
  refine hK7 _ ?_; clear hK7
  refine aA fun K8 hK8 => ?_
  refine a7 [0, 1, 5, 7, 8] (by kernel_rfl) ?_
  simp (disch := omega) only [go_sem, seval, hg]
  repeat refine And.intro bS ?_
  refine gE _ (hk _ (s + 100000) (l.getD i default) ?_) ?_
  ·repeat rw [aT, if_neg (by omega)]
   rw [bX, hO]; exact congrArg DV.bx hcs
  try simp (disch := omega) only [go_sem, seval, hg]
  repeat refine And.intro bS ?_
  refine hK8 _ ?_; clear hK8
  refine aS (fun c1 => ?_) fun c1 => ?_
  ·refine aA fun K9 hK9 => ?_
   refine a7 [5] (by kernel_rfl) ?_
   simp (disch := omega) only [go_sem, seval, hg]
   repeat refine And.intro bS ?_
   refine hK9 _ ?_; clear hK9
   refine aL ?_
   refine dC 4 rfl (by simp (disch := omega) only [go_sem, seval, hg]) ?_
   exact cP.is (by simp (disch := omega) only [go_sem, seval, hg] <;> (refine congrArg vi ?_; rw [l0_1, bT default c0, List.any_cons, List.findIdx_cons, c1]; simp)) rfl rfl
  refine aJ ?_
  refine hK6 _ ?_; clear hK6
  refine a7 [0, 1, 7, 8] (by kernel_rfl) ?_
  simp (disch := omega) only [go_sem, seval, hg]
  repeat refine And.intro bS ?_
  refine hK3 _ _ ?_ ⟨i + 1, rfl, ?_, ?_, ?_⟩
  ·exact bD
  ·exact bD
  ·rw [l0_1, bT default c0, List.any_cons, List.findIdx_cons, c1]; simp only [Bool.false_or, cond_false]; rw [show List.findIdx p (List.drop (i + 1) l) + 1 + i = List.findIdx p (List.drop (i + 1) l) + (i + 1) by omega]
  simp (disch := omega) only [go_sem, seval, hg] <;> first | rfl | omega | simp | simp_all
 refine bA ?_
 refine hK1 _ ?_; clear hK1
 refine aA fun K10 hK10 => ?_
 refine a7 [] (by kernel_rfl) ?_
 simp (disch := omega) only [go_sem, seval, hg]
 repeat refine And.intro bS ?_
 refine hK10 _ ?_; clear hK10
 refine aL ?_
 refine dC 4 rfl (by simp (disch := omega) only [go_sem, seval, hg]) ?_
 exact cP.is (by simp (disch := omega) only [go_sem, seval, hg] <;> (refine congrArg vi ?_; rw [l0_1, eJ c0]; rfl)) rfl rfl
section
attribute [local go_sem] bX
theorem xC (O : aU) (x : bE) (nm : ByteArray) (k : Nat) (h : O k = .bx [vs nm]) : aW Tryz.prog O 53 [.agg (aZ x), .bp k 0] (vb (nmB nm x)) := by
 refine dT Tryz.func53 ?_
 refine aA fun K0 hK0 => ?_
 refine a7 [0, 1] (by kernel_rfl) ?_
 simp (disch := omega) only [go_sem, seval, h]
 repeat refine And.intro bS ?_
 refine hK0 _ ?_; clear hK0
 refine aA fun K1 hK1 => ?_
 refine a7 [1, 2] (by kernel_rfl) ?_
 simp (disch := omega) only [go_sem, seval, h]
 repeat refine And.intro bS ?_
 refine hK1 _ ?_; clear hK1
 refine aL ?_
 refine dC 3 rfl (by simp (disch := omega) only [go_sem, seval, h]) ?_
 exact cP.is (by simp (disch := omega) only [go_sem, seval, h] <;> refine congrArg vb ?_ <;> (rw [nmB, Bool.eq_iff_iff]; simp [aFi])) rfl rfl
end
theorem aBo (O : aU) (t : eB) (x : ByteArray) : aW Tryz.prog O 17 [.agg (eP t), vs x] (vi (aEp t x t.fRoutes.length)) := by
 refine dT Tryz.func17 ?_
 refine aB [0, 1] ?_
 refine aA fun K1 hK1 => ?_
 refine bF [2, 3] ?_
 refine dM (m0 _ t.fRoutes 53 3 [vs x] (nmB x) (by rfl) rfl rfl (fun ρ k r h => xC ρ r x k h)) ?_
 refine hK1 _ ?_; clear hK1
 refine aL ?_
 refine b6 4 ?_
 exact cP.is (by simp (disch := omega) only [go_sem, seval] <;> (rw [← bFf])) rfl rfl
theorem aGf {α : Type} [Inhabited α] {e : α → List DV} {g : Nat → List DV} {n : Nat} {l : List α} (hn : n = l.length) (h : ∀ i, i < n → g i = e (l.getD i default)) : (List.range n).map g = l.map e := by
 subst hn
 rw [← nV e l]
 exact List.map_congr_left fun i hi => h i (List.mem_range.1 hi)
theorem aDc {α : Type} (d : α) {l : List α} {i j : Nat} : (l.drop i).getD j d = l.getD (i + j) d := by simp [List.getD_eq_getElem?_getD, List.getElem?_drop]
section
variable {t : eB} {i : Nat}
end
section
attribute [local go_sem] wX hi List.length_range
end
abbrev aCz (l : List bB) : DV := encL 3 bJ l
abbrev aMh (l : List cC) : DV := encL 2 bO l
def vG (a b : bE) : Bool := decide (a = b)
theorem m6 (O : aU) (a b : List Int) : aW Tryz.prog O 25 [b9 a, b9 b] (vb (a == b)) := by
 refine aO 0 rfl (.sl _ _ _) fun ha => ?_
 refine aO 1 rfl (.sl _ _ _) fun hb => ?_
 refine dT Tryz.func25 ?_
 refine aB [0, 1] ?_
 refine aA fun K1 hK1 => ?_
 refine aB [0, 1] ?_
 refine aS (fun c0 => ?_) fun c0 => ?_
 ·refine aB [] ?_
  refine aL ?_
  refine b6 4 ?_
  refine xb ?_
  (symm; rw [beq_eq_false_iff_ne]; intro h; exact c0 (by rw [h]))
 refine aJ ?_
 refine hK1 _ ?_; clear hK1
 refine aA fun K4 hK4 => ?_
 refine aB [0, 1] ?_
 refine aK ?_
 refine aX [0, 1, 12, 13] (fun n ρ => ∃ i, n = a.length - i ∧ (i ≤ a.length) ∧ ((a == b) = (a.drop i == b.drop i)) ∧ ρ = cU O [(0, b9 a), (1, b9 b), (12, vi (a.length : Nat)), (13, vi (i : Nat))]) _ ⟨0, rfl, ?_, ?_, ?_⟩ ?_
 ·exact bD
 ·rfl
 ·exact cD
 rintro n ρ ⟨i, rfl, l0_0, l0_1, rfl⟩ K6 hK6
 refine aB [0, 1, 12, 13] ?_
 refine aA fun K8 hK8 => ?_
 refine aS (fun c1 => ?_) fun c1 => ?_
 ·refine aJ ?_
  refine hK8 _ ?_; clear hK8
  refine aA fun K9 hK9 => ?_
  refine aK ?_
  refine aB [0, 1, 12, 13] ?_
  refine aA fun K11 hK11 => ?_
  refine e5 [0, 1, 5, 12, 13] [] ?_
  refine hK11 _ ?_; clear hK11
  refine aS (fun c2 => ?_) fun c2 => ?_
  ·refine aB [] ?_
   refine aL ?_
   refine b6 4 ?_
   refine xb ?_
   (rw [l0_1, bT default c1, bT default (show i < b.length by omega)]; symm; rw [beq_eq_false_iff_ne]; intro h; exact c2 (by injection h))
  refine aJ ?_
  refine hK9 _ ?_; clear hK9
  refine bC [0, 1, 12, 13] ?_
  refine hK6 _ _ ?_ ⟨i + 1, rfl, ?_, ?_, ?_⟩
  ·exact bD
  ·exact bD
  ·rw [l0_1, bT default c1, bT default (show i < b.length by omega), c2]; simp
  exact cD
 refine bA ?_
 refine hK4 _ ?_; clear hK4
 refine aB [] ?_
 refine aL ?_
 refine b6 4 ?_
 refine xb ?_
 (rw [l0_1, eJ c1, eJ (by omega)]; rfl)
theorem s3 (O : aU) (a b : List bB) : aW Tryz.prog O 59 [aCz a, aCz b] (vb (a == b)) := by
 refine aO 0 rfl (.sl _ _ _) fun ha => ?_
 refine aO 1 rfl (.sl _ _ _) fun hb => ?_
 refine dT Tryz.func59 ?_
 refine aB [0, 1] ?_
 refine aA fun K1 hK1 => ?_
 refine aB [0, 1] ?_
 refine aS (fun c0 => ?_) fun c0 => ?_
 ·refine aB [] ?_
  refine aL ?_
  refine b6 4 ?_
  refine xb ?_
  (symm; rw [beq_eq_false_iff_ne]; intro h; exact c0 (by rw [h]))
 refine aJ ?_
 refine hK1 _ ?_; clear hK1
 refine aA fun K4 hK4 => ?_
 refine aB [0, 1] ?_
 refine aK ?_
 refine aX [0, 1, 5] (fun n ρ => ∃ i, n = a.length - i ∧ (i ≤ a.length) ∧ ((a == b) = (a.drop i == b.drop i)) ∧ ρ = cU O [(0, aCz a), (1, aCz b), (5, vi (i : Nat))]) _ ⟨0, rfl, ?_, ?_, ?_⟩ ?_
 ·exact bD
 ·rfl
 ·exact cD
 rintro n ρ ⟨i, rfl, l0_0, l0_1, rfl⟩ K6 hK6
 refine aA fun K7 hK7 => ?_
 refine aB [0, 1, 5] ?_
 refine aS (fun c1 => ?_) fun c1 => ?_
 ·refine aJ ?_
  refine hK7 _ ?_; clear hK7
  refine aA fun K9 hK9 => ?_
  refine aK ?_
  refine aA fun K10 hK10 => ?_
  refine e5 [0, 1, 5] [] ?_
  refine hK10 _ ?_; clear hK10
  refine aS (fun c2 => ?_) fun c2 => ?_
  ·have c2 : a.getD i default ≠ b.getD i default := (by intro h; rw [h] at c2; simp at c2)
   refine aB [] ?_
   refine aL ?_
   refine b6 4 ?_
   refine xb ?_
   (rw [l0_1, bT default c1, bT default (show i < b.length by omega)]; symm; rw [beq_eq_false_iff_ne]; intro h; exact c2 (by injection h))
  have c2 : a.getD i default = b.getD i default := (by rw [bDr]; simpa using c2)
  refine aJ ?_
  refine hK9 _ ?_; clear hK9
  refine bC [0, 1, 5] ?_
  refine hK6 _ _ ?_ ⟨i + 1, rfl, ?_, ?_, ?_⟩
  ·exact bD
  ·exact bD
  ·rw [l0_1, bT default c1, bT default (show i < b.length by omega), c2]; simp
  exact cD
 refine bA ?_
 refine hK4 _ ?_; clear hK4
 refine aB [] ?_
 refine aL ?_
 refine b6 4 ?_
 refine xb ?_
 (rw [l0_1, eJ c1, eJ (by omega)]; rfl)
theorem pI (O : aU) (a b : List aM) : aW Tryz.prog O 62 [mY a, mY b] (vb (a == b)) := by
 refine aO 0 rfl (.sl _ _ _) fun ha => ?_
 refine aO 1 rfl (.sl _ _ _) fun hb => ?_
 refine dT Tryz.func62 ?_
 refine aB [0, 1] ?_
 refine aA fun K1 hK1 => ?_
 refine aB [0, 1] ?_
 refine aS (fun c0 => ?_) fun c0 => ?_
 ·refine aB [] ?_
  refine aL ?_
  refine b6 4 ?_
  refine xb ?_
  (symm; rw [beq_eq_false_iff_ne]; intro h; exact c0 (by rw [h]))
 refine aJ ?_
 refine hK1 _ ?_; clear hK1
 refine aA fun K4 hK4 => ?_
 refine aB [0, 1] ?_
 refine aK ?_
 refine aX [0, 1, 5] (fun n ρ => ∃ i, n = a.length - i ∧ (i ≤ a.length) ∧ ((a == b) = (a.drop i == b.drop i)) ∧ ρ = cU O [(0, mY a), (1, mY b), (5, vi (i : Nat))]) _ ⟨0, rfl, ?_, ?_, ?_⟩ ?_
 ·exact bD
 ·rfl
 ·exact cD
 rintro n ρ ⟨i, rfl, l0_0, l0_1, rfl⟩ K6 hK6
 refine aA fun K7 hK7 => ?_
 refine aB [0, 1, 5] ?_
 refine aS (fun c1 => ?_) fun c1 => ?_
 ·refine aJ ?_
  refine hK7 _ ?_; clear hK7
  refine aA fun K9 hK9 => ?_
  refine aK ?_
  refine aA fun K10 hK10 => ?_
  refine e5 [0, 1, 5] [] ?_
  refine hK10 _ ?_; clear hK10
  refine aS (fun c2 => ?_) fun c2 => ?_
  ·have c2 : a.getD i default ≠ b.getD i default := (by intro h; rw [h] at c2; simp at c2)
   refine aB [] ?_
   refine aL ?_
   refine b6 4 ?_
   refine xb ?_
   (rw [l0_1, bT default c1, bT default (show i < b.length by omega)]; symm; rw [beq_eq_false_iff_ne]; intro h; exact c2 (by injection h))
  have c2 : a.getD i default = b.getD i default := (by rw [fE]; simpa using c2)
  refine aJ ?_
  refine hK9 _ ?_; clear hK9
  refine bC [0, 1, 5] ?_
  refine hK6 _ _ ?_ ⟨i + 1, rfl, ?_, ?_, ?_⟩
  ·exact bD
  ·exact bD
  ·rw [l0_1, bT default c1, bT default (show i < b.length by omega), c2]; simp
  exact cD
 refine bA ?_
 refine hK4 _ ?_; clear hK4
 refine aB [] ?_
 refine aL ?_
 refine b6 4 ?_
 refine xb ?_
 (rw [l0_1, eJ c1, eJ (by omega)]; rfl)
theorem tV (O : aU) (a b : List Int) : aW Tryz.prog O 154 [b9 a, b9 b] (vb (a == b)) := by
 refine aO 0 rfl (.sl _ _ _) fun ha => ?_
 refine aO 1 rfl (.sl _ _ _) fun hb => ?_
 refine dT Tryz.func154 ?_
 refine aB [0, 1] ?_
 refine aA fun K1 hK1 => ?_
 refine aB [0, 1] ?_
 refine aS (fun c0 => ?_) fun c0 => ?_
 ·refine aB [] ?_
  refine aL ?_
  refine b6 4 ?_
  refine xb ?_
  (symm; rw [beq_eq_false_iff_ne]; intro h; exact c0 (by rw [h]))
 refine aJ ?_
 refine hK1 _ ?_; clear hK1
 refine aA fun K4 hK4 => ?_
 refine aB [0, 1] ?_
 refine aK ?_
 refine aX [0, 1, 5] (fun n ρ => ∃ i, n = a.length - i ∧ (i ≤ a.length) ∧ ((a == b) = (a.drop i == b.drop i)) ∧ ρ = cU O [(0, b9 a), (1, b9 b), (5, vi (i : Nat))]) _ ⟨0, rfl, ?_, ?_, ?_⟩ ?_
 ·exact bD
 ·rfl
 ·exact cD
 rintro n ρ ⟨i, rfl, l0_0, l0_1, rfl⟩ K6 hK6
 refine aA fun K7 hK7 => ?_
 refine aB [0, 1, 5] ?_
 refine aS (fun c1 => ?_) fun c1 => ?_
 ·refine aJ ?_
  refine hK7 _ ?_; clear hK7
  refine aA fun K9 hK9 => ?_
  refine aK ?_
  refine aA fun K10 hK10 => ?_
  refine e5 [0, 1, 5] [] ?_
  refine hK10 _ ?_; clear hK10
  refine aS (fun c2 => ?_) fun c2 => ?_
  ·refine aB [] ?_
   refine aL ?_
   refine b6 4 ?_
   refine xb ?_
   (rw [l0_1, bT default c1, bT default (show i < b.length by omega)]; symm; rw [beq_eq_false_iff_ne]; intro h; exact c2 (by injection h))
  refine aJ ?_
  refine hK9 _ ?_; clear hK9
  refine bC [0, 1, 5] ?_
  refine hK6 _ _ ?_ ⟨i + 1, rfl, ?_, ?_, ?_⟩
  ·exact bD
  ·exact bD
  ·rw [l0_1, bT default c1, bT default (show i < b.length by omega), c2]; simp
  exact cD
 refine bA ?_
 refine hK4 _ ?_; clear hK4
 refine aB [] ?_
 refine aL ?_
 refine b6 4 ?_
 refine xb ?_
 (rw [l0_1, eJ c1, eJ (by omega)]; rfl)
theorem tW (O : aU) (a b : List cC) : aW Tryz.prog O 99 [aMh a, aMh b] (vb (a == b)) := by
 refine aO 0 rfl (.sl _ _ _) fun ha => ?_
 refine aO 1 rfl (.sl _ _ _) fun hb => ?_
 refine dT Tryz.func99 ?_
 refine aB [0, 1] ?_
 refine aA fun K1 hK1 => ?_
 refine aB [0, 1] ?_
 refine aS (fun c0 => ?_) fun c0 => ?_
 ·refine aB [] ?_
  refine aL ?_
  refine b6 4 ?_
  refine xb ?_
  (symm; rw [beq_eq_false_iff_ne]; intro h; exact c0 (by rw [h]))
 refine aJ ?_
 refine hK1 _ ?_; clear hK1
 refine aA fun K4 hK4 => ?_
 refine aB [0, 1] ?_
 refine aK ?_
 refine aX [0, 1, 5] (fun n ρ => ∃ i, n = a.length - i ∧ (i ≤ a.length) ∧ ((a == b) = (a.drop i == b.drop i)) ∧ ρ = cU O [(0, aMh a), (1, aMh b), (5, vi (i : Nat))]) _ ⟨0, rfl, ?_, ?_, ?_⟩ ?_
 ·exact bD
 ·rfl
 ·exact cD
 rintro n ρ ⟨i, rfl, l0_0, l0_1, rfl⟩ K6 hK6
 refine aA fun K7 hK7 => ?_
 refine aB [0, 1, 5] ?_
 refine aS (fun c1 => ?_) fun c1 => ?_
 ·refine aJ ?_
  refine hK7 _ ?_; clear hK7
  refine aA fun K9 hK9 => ?_
  refine aK ?_
  refine aA fun K10 hK10 => ?_
  refine e5 [0, 1, 5] [] ?_
  refine hK10 _ ?_; clear hK10
  refine aS (fun c2 => ?_) fun c2 => ?_
  ·have c2 : a.getD i default ≠ b.getD i default := (by intro h; rw [h] at c2; simp at c2)
   refine aB [] ?_
   refine aL ?_
   refine b6 4 ?_
   refine xb ?_
   (rw [l0_1, bT default c1, bT default (show i < b.length by omega)]; symm; rw [beq_eq_false_iff_ne]; intro h; exact c2 (by injection h))
  have c2 : a.getD i default = b.getD i default := (by rw [d6]; simpa using c2)
  refine aJ ?_
  refine hK9 _ ?_; clear hK9
  refine bC [0, 1, 5] ?_
  refine hK6 _ _ ?_ ⟨i + 1, rfl, ?_, ?_, ?_⟩
  ·exact bD
  ·exact bD
  ·rw [l0_1, bT default c1, bT default (show i < b.length by omega), c2]; simp
  exact cD
 refine bA ?_
 refine hK4 _ ?_; clear hK4
 refine aB [] ?_
 refine aL ?_
 refine b6 4 ?_
 refine xb ?_
 (rw [l0_1, eJ c1, eJ (by omega)]; rfl)
theorem l5 (O : aU) (a b : List bB) : aW Tryz.prog O 21 [aCz a, aCz b] (vb (a == b)) := by
 refine dT Tryz.func21 ?_
 refine aB [0, 1] ?_
 refine aA fun K1 hK1 => ?_
 refine bF [0, 1] ?_
 refine dM (s3 _ a b) ?_
 refine hK1 _ ?_; clear hK1
 refine aL ?_
 refine b6 4 ?_
 exact xd
theorem fU (O : aU) (a b : List aM) : aW Tryz.prog O 29 [mY a, mY b] (vb (a == b)) := by
 refine dT Tryz.func29 ?_
 refine aB [0, 1] ?_
 refine aA fun K1 hK1 => ?_
 refine bF [0, 1] ?_
 refine dM (pI _ a b) ?_
 refine hK1 _ ?_; clear hK1
 refine aL ?_
 refine b6 4 ?_
 exact xd
theorem j0 (O : aU) (a b : List Int) : aW Tryz.prog O 98 [b9 a, b9 b] (vb (a == b)) := by
 refine dT Tryz.func98 ?_
 refine aB [0, 1] ?_
 refine aA fun K1 hK1 => ?_
 refine bF [0, 1] ?_
 refine dM (tV _ a b) ?_
 refine hK1 _ ?_; clear hK1
 refine aL ?_
 refine b6 4 ?_
 exact xd
set_option maxHeartbeats 4000000 in
theorem aBg (O : aU) (a b : bE) : aW Tryz.prog O 43 [.agg (aZ a), .agg (aZ b)] (vb (vG a b)) := by
 refine dT Tryz.func43 ?_
 refine aB [0, 1] ?_
 refine aA fun K1 hK1 => ?_
 refine aB [2, 3] ?_
 refine aS (fun c0 => ?_) fun c0 => ?_
 ·refine aB [] ?_
  refine aL ?_
  refine b6 4 ?_
  refine xb ?_
  (symm; rw [vG, decide_eq_false_iff_not, zB]; (try simp only [aFi] at c0); grind)
 refine aJ ?_
 refine hK1 _ ?_; clear hK1
 refine aA fun K4 hK4 => ?_
 refine aA fun K5 hK5 => ?_
 refine bF [2, 3] ?_
 refine dM (l5 _ a.fPath b.fPath) ?_
 refine lY (fun g0 => fU _ a.fPoints b.fPoints) ?_
 refine lY (fun g1 => j0 _ a.fSections b.fSections) ?_
 refine hK5 _ ?_; clear hK5
 refine aS (fun c1 => ?_) fun c1 => ?_
 ·refine aB [] ?_
  refine aL ?_
  refine b6 4 ?_
  refine xb ?_
  (symm; rw [vG, decide_eq_false_iff_not, zB]; grind)
 refine aJ ?_
 refine hK4 _ ?_; clear hK4
 refine aA fun K7 hK7 => ?_
 refine bF [2, 3] ?_
 refine dM (l5 _ a.fOver b.fOver) ?_
 refine lY (fun g2 => fU _ a.fOverPoints b.fOverPoints) ?_
 refine lY (fun g3 => j0 _ a.fOverSections b.fOverSections) ?_
 refine lY (fun g4 => fU _ a.fFlank b.fFlank) ?_
 refine lY (fun g5 => j0 _ a.fGuards b.fGuards) ?_
 refine lY (fun g6 => tW _ a.fGaps b.fGaps) ?_
 refine hK7 _ ?_; clear hK7
 refine aL ?_
 refine b6 4 ?_
 refine xb ?_
 (rw [vG, Bool.eq_iff_iff]; simp [zB, aFi, and_assoc]; (try simp only [aFi] at c0); grind)
end Go.Sg
