/- Several texts as one. -/
import Derived.Test.YtnpokifaejcbeaaGreatDoorF8
import Derived.Shelf.SlSortCmp.InsertionK
set_option linter.unusedSectionVars false
set_option linter.unusedVariables false
set_option linter.unusedSimpArgs false
set_option maxRecDepth 20000
namespace Go.Sg
open Go.Proofs
def yZ (t : cP) : Bool := decide (t.fRoutes.length ≤ 48 ∧ t.fPoints.length ≤ 32 ∧ 0 ≤ t.fSections ∧ t.fSections ≤ 24 ∧ 0 ≤ t.fSignals ∧ t.fSignals ≤ 20)
def seB (t : cP) (r : a8) : Bool := aDe t r.fPoints && aDe t r.fOverPoints && aDe t r.fFlank
def agB (r : a8) : Bool := aBd r.fPoints r.fOverPoints && aBd r.fPoints r.fFlank && aBd r.fOverPoints r.fFlank
abbrev yI (t : cP) (i : Nat) : ByteArray := (t.fRoutes.getD i default).fName
def nuB (t : cP) (i : Nat) : Bool := (List.range i).all fun k => decide (yI t k ≠ yI t i)
def chk (t : cP) : Int :=
 if yZ t = false then 2 else if vB t = false then 1 else if t.fRoutes.all (rtB t) = false then 1 else if t.fRoutes.all (seB t) = false then 1 else if t.fRoutes.all agB = false then 10 else if (List.range t.fRoutes.length).all (nuB t) = false then 8 else 0
section
variable {t : cP}
theorem bVg (h : yZ t = false) : chk t = 2 := by rw [chk, if_pos h]
theorem bZe (h : yZ t = true) (h2 : vB t = false) : chk t = 1 := by rw [chk, if_neg (by rw [h]; simp), if_pos h2]
theorem bVp (h : yZ t = true) (h2 : vB t = true) (h3 : t.fRoutes.all (rtB t) = false) : chk t = 1 := by rw [chk, if_neg (by rw [h]; simp), if_neg (by rw [h2]; simp), if_pos h3]
theorem bTz (h : yZ t = true) (h2 : vB t = true) (h4 : t.fRoutes.all (seB t) = false) : chk t = 1 := by
 rw [chk, if_neg (by rw [h]; simp), if_neg (by rw [h2]; simp)]
 split
 ·rfl
 first | rfl | rw [if_pos h4]
theorem bXa (h : yZ t = true) (h2 : vB t = true) (h3 : t.fRoutes.all (rtB t) = true) (h4 : t.fRoutes.all (seB t) = true) (h5 : t.fRoutes.all agB = false) : chk t = 10 := by rw [chk, if_neg (by rw [h]; simp), if_neg (by rw [h2]; simp), if_neg (by rw [h3]; simp), if_neg (by rw [h4]; simp), if_pos h5]
theorem bWd (h : yZ t = true) (h2 : vB t = true) (h3 : t.fRoutes.all (rtB t) = true) (h4 : t.fRoutes.all (seB t) = true) (h5 : t.fRoutes.all agB = true) (h6 : (List.range t.fRoutes.length).all (nuB t) = false) : chk t = 8 := by rw [chk, if_neg (by rw [h]; simp), if_neg (by rw [h2]; simp), if_neg (by rw [h3]; simp), if_neg (by rw [h4]; simp), if_neg (by rw [h5]; simp), if_pos h6]
theorem bRe (h : yZ t = true) (h2 : vB t = true) (h3 : t.fRoutes.all (rtB t) = true) (h4 : t.fRoutes.all (seB t) = true) (h5 : t.fRoutes.all agB = true) (h6 : (List.range t.fRoutes.length).all (nuB t) = true) : chk t = 0 := by rw [chk, if_neg (by rw [h]; simp), if_neg (by rw [h2]; simp), if_neg (by rw [h3]; simp), if_neg (by rw [h4]; simp), if_neg (by rw [h5]; simp), if_neg (by rw [h6]; simp)]
theorem bKe (h : yZ t = true) : t.fSections ≤ 24 := by
 have := of_decide_eq_true h
 omega
def fwR (r : a8) : Bool := decide (r.fPath.length ≤ 80 ∧ r.fPoints.length ≤ 80 ∧ r.fSections.length ≤ 80 ∧ r.fOver.length ≤ 80 ∧ r.fOverPoints.length ≤ 80 ∧ r.fOverSections.length ≤ 80 ∧ r.fFlank.length ≤ 80 ∧ r.fGuards.length ≤ 80 ∧ r.fGaps.length ≤ 80)
def z7 (t : cP) : Bool := decide (t.fRoutes.length ≤ 80 ∧ t.fPoints.length ≤ 80 ∧ t.fHomes.length ≤ 80) && t.fRoutes.all fwR
theorem bPa (h : z7 t = true) {i : Nat} (hi : i < t.fRoutes.length) : ((t.fRoutes.getD i default).fSections ++ (t.fRoutes.getD i default).fOverSections).length ≤ 100000 := by
 unfold z7 at h
 rw [Bool.and_eq_true] at h
 have h3 : fwR (t.fRoutes.getD i default) = true := m9 h.2 hi
 unfold fwR at h3
 have := of_decide_eq_true h3
 rw [List.length_append]
 omega
def yR (t : cP) (i : Nat) : List (Value × Value) := (List.range i).map fun k => (.string (yI t k), .bool true)
theorem bEl (t : cP) (i : Nat) : yR t i ++ [(.string (t.fRoutes.getD i default).fName, .bool true)] = yR t (i + 1) := by
 unfold yR; rw [List.range_succ, List.map_append]; rfl
theorem tW {i : Nat} {e : Value × Value} (h : e ∈ yR t i) : ∃ k, k < i ∧ e = (.string (yI t k), .bool true) := by
 unfold yR at h
 obtain ⟨k, hk, rfl⟩ := List.mem_map.1 h
 exact ⟨k, List.mem_range.1 hk, rfl⟩
theorem aRr {i k : Nat} (h : nuB t i = true) (hk : k < i) : yI t k ≠ yI t i := of_decide_eq_true (aGf h hk)
theorem aIs : ∀ {i : Nat}, oO (nuB t) i → aWa (yR t i)
 | 0, _ => ⟨fun e he => (by obtain ⟨k, hk, _⟩ := tW he; omega), List.nodup_nil⟩
 | i + 1, h => by
  obtain ⟨h1, h2⟩ := aIs (i := i) fun j hj => h j (by omega)
  refine ⟨fun e he => ?_, ?_⟩
  ·obtain ⟨k, hk, rfl⟩ := tW he; rfl
  rw [← bEl, List.map_append, List.nodup_append]
  refine ⟨h2, by simp, fun a ha b hb => ?_⟩
  obtain ⟨e, he, rfl⟩ := List.mem_map.1 ha
  obtain ⟨k, hk, rfl⟩ := tW he
  simp only [List.map_cons, List.map_nil, List.mem_singleton] at hb
  subst hb
  intro e
  simp only [Value.string.injEq] at e
  exact aRr (h i (by omega)) hk e
theorem aMv {i : Nat} (h : nuB t i = true) : bKz (yR t i) (t.fRoutes.getD i default).fName :=
 ⟨fun e he => (by obtain ⟨k, hk, rfl⟩ := tW he; rfl), fun e he => by
  obtain ⟨k, hk, rfl⟩ := tW he
  intro e
  simp only [Value.string.injEq] at e
  exact aRr h hk e⟩
theorem aZm {i : Nat} (h : aWa (yR t i)) : aHy (yR t i) (t.fRoutes.getD i default).fName (.bool false) = .bool (!nuB t i) := by
 cases hq : nuB t i with
 | true => exact uC (aMv hq).2
 | false =>
  have : ∃ k, k < i ∧ yI t k = yI t i := by
   apply Classical.byContradiction
   intro hno
   rw [← Bool.not_eq_true] at hq
   refine hq ?_
   unfold nuB
   rw [List.all_eq_true]
   intro k hk
   exact decide_eq_true fun e => hno ⟨k, List.mem_range.1 hk, e⟩
  obtain ⟨k, hk, e⟩ := this
  refine uI h.2 ?_
  unfold yR
  exact List.mem_map.2 ⟨k, List.mem_range.2 hk, by rw [e]; rfl⟩
theorem aVq {a b : ByteArray} : a.toList = b.toList ↔ a = b := by
 constructor
 ·intro h
  rw [ByteArray.toList_eq, ByteArray.toList_eq] at h
  cases a; cases b
  congr
  exact Array.toList_inj.1 h
 intro h; rw [h]
def wN (t : cP) (x : ByteArray) : Nat → Int
 | 0 => -1
 | n + 1 => if yI t (t.fRoutes.length - (n + 1)) = x then ((t.fRoutes.length - (n + 1) : Nat) : Int) else wN t x n
theorem aMj {x : ByteArray} {i : Nat} (hi : i < t.fRoutes.length) : wN t x (t.fRoutes.length - i) = if yI t i = x then (i : Int) else wN t x (t.fRoutes.length - (i + 1)) := by
 rw [show t.fRoutes.length - i = (t.fRoutes.length - (i + 1)) + 1 by omega, wN, show t.fRoutes.length - (t.fRoutes.length - (i + 1) + 1) = i by omega]
theorem nX {x : ByteArray} : ∀ k, k ≤ t.fRoutes.length → (∀ j, j < k → yI t j ≠ x) → wN t x t.fRoutes.length = wN t x (t.fRoutes.length - k)
 | 0, _, _ => rfl
 | k + 1, hk, h => by
  rw [nX k (by omega) fun j hj => h j (by omega), aMj (by omega), if_neg (h k (by omega))]
theorem bJd {i : Nat} (hi : i < t.fRoutes.length) : (wN t (yI t i) t.fRoutes.length = (i : Int)) ↔ nuB t i = true := by
 constructor
 ·intro h
  unfold nuB; rw [List.all_eq_true]
  intro k hk
  have hk := List.mem_range.1 hk
  refine decide_eq_true fun e => ?_
  have key : ∀ n, n ≤ i → (∃ j, j < n ∧ yI t j = yI t i) → ∃ j, j < n ∧ wN t (yI t i) t.fRoutes.length = (j : Int) := by
   intro n
   induction n with
   | zero => intro _ ⟨j, hj, _⟩; omega
   | succ n ih =>
    intro hn ⟨j, hj, hje⟩
    by_cases hex : ∃ j, j < n ∧ yI t j = yI t i
    ·obtain ⟨j', hj', he⟩ := ih (by omega) hex
     exact ⟨j', by omega, he⟩
    have hjn : j = n := by
     rcases Nat.lt_or_eq_of_le (Nat.le_of_lt_succ hj) with q | q
     ·exact absurd ⟨j, q, hje⟩ hex
     exact q
    subst hjn
    refine ⟨j, by omega, ?_⟩
    rw [nX j (by omega) fun j' hj' he => hex ⟨j', hj', he⟩, aMj (by omega), if_pos hje]
  obtain ⟨j, hj, he⟩ := key i (Nat.le_refl _) ⟨k, hk, e⟩
  rw [h] at he
  omega
 intro h
 rw [nX i (by omega) fun j hj he => aRr h hj he, aMj hi, if_pos rfl]
end
section
attribute [local go_sem] bEl
set_option maxHeartbeats 2000000 in
theorem pF (O : aS) (t : cP) (hf : z7 t = true) : aY Tryz.prog O 15 [.agg (dK t)] (vi (chk t)) := by
 refine aU 0 rfl (.agg (d := iM t.fRoutes) (by simp [dK]) (.sl _ _ _)) fun hr => ?_
 refine aU 0 rfl (.agg (d := dL t.fPoints) (by simp [dK]) (.sl _ _ _)) fun hp => ?_
 refine eE Tryz.func15 ?_
 refine aC [0] ?_
 refine aA fun K1 hK1 => ?_
 refine aA fun K2 hK2 => ?_
 refine bL [1] ?_
 refine lB (fun g0 => dB _ t.fSections 25) ?_
 refine lB (fun g1 => dB _ t.fSignals 21) ?_
 refine hK2 _ ?_; clear hK2
 refine aV (fun c0 => ?_) fun c0 => ?_
 ·refine aC [] ?_
  refine aM ?_
  refine cW 2 ?_
  exact dE.is (by simp (disch := omega) only [go_sem, seval] <;> (rw [bVg (decide_eq_false (by omega))])) rfl rfl
 have hL : yZ t = true := decide_eq_true (by omega)
 refine aJ ?_
 refine hK1 _ ?_; clear hK1
 refine aA fun K4 hK4 => ?_
 refine aA fun K5 hK5 => ?_
 refine bL [1] ?_
 refine eL (pO _ t) ?_
 refine hK5 _ ?_; clear hK5
 refine aV (fun c1 => ?_) fun c1 => ?_
 ·refine aC [] ?_
  refine aM ?_
  refine cW 2 ?_
  exact dE.is (by simp (disch := omega) only [go_sem, seval] <;> (rw [bZe hL (by simpa using c1)])) rfl rfl
 have hP : vB t = true := by simpa using c1
 refine aJ ?_
 refine hK4 _ ?_; clear hK4
 refine aA fun K7 hK7 => ?_
 refine aC [1] ?_
 refine aL ?_
 refine aZ [1, 38, 39, 40] (fun n ρ => ∃ i, n = t.fRoutes.length - i ∧ (i ≤ t.fRoutes.length) ∧ (l9 (rtB t) t.fRoutes i) ∧ ρ = dU O [(1, .bx (dK t)), (38, iM t.fRoutes), (39, vi (t.fRoutes.length : Nat)), (40, vi (i : Nat))]) _ ⟨0, rfl, ?_, ?_, ?_⟩ ?_
 ·exact bI
 ·exact jW _ _
 ·exact dC
 rintro n ρ ⟨i, rfl, l0_0, l0_1, rfl⟩ K9 hK9
 refine aC [1, 37, 38, 39, 40] ?_
 refine aA fun K11 hK11 => ?_
 refine aV (fun c2 => ?_) fun c2 => ?_
 ·refine aJ ?_
  refine hK11 _ ?_; clear hK11
  refine aA fun K12 hK12 => ?_
  refine aL ?_
  refine aC [1, 37, 38, 39, 40] ?_
  refine aA fun K14 hK14 => ?_
  refine bL [1, 4, 37, 38, 39, 40] ?_
  refine eL (qX _ t (t.fRoutes.getD i default) (bKe hL) (bPa hf c2)) ?_
  refine hK14 _ ?_; clear hK14
  refine aV (fun c3 => ?_) fun c3 => ?_
  ·refine aC [] ?_
   refine aM ?_
   refine cW 2 ?_
   exact dE.is (by simp (disch := omega) only [go_sem, seval] <;> (rw [bVp hL hP (nR c2 (by simpa using c3))])) rfl rfl
  refine aJ ?_
  refine hK12 _ ?_; clear hK12
  refine bE [1, 37, 38, 39, 40] ?_
  refine hK9 _ _ ?_ ⟨i + 1, rfl, ?_, ?_, ?_⟩
  ·exact bI
  ·exact bI
  ·exact jZ l0_1 (by simpa using c3)
  exact dC
 refine bA ?_
 refine hK7 _ ?_; clear hK7
 refine aA fun K16 hK16 => ?_
 refine aC [1] ?_
 refine aL ?_
 have hA := pX l0_1 (by omega)
 refine aZ [1, 50, 51, 52] (fun n ρ => ∃ i, n = t.fRoutes.length - i ∧ (i ≤ t.fRoutes.length) ∧ (l9 (seB t) t.fRoutes i) ∧ ρ = dU O [(1, .bx (dK t)), (50, iM t.fRoutes), (51, vi (t.fRoutes.length : Nat)), (52, vi (i : Nat))]) _ ⟨0, rfl, ?_, ?_, ?_⟩ ?_
 ·exact bI
 ·exact jW _ _
 ·exact dC
 rintro n ρ ⟨i, rfl, l1_0, l1_1, rfl⟩ K18 hK18
 refine aC [1, 49, 50, 51, 52] ?_
 refine aA fun K20 hK20 => ?_
 refine aV (fun c4 => ?_) fun c4 => ?_
 ·refine aJ ?_
  refine hK20 _ ?_; clear hK20
  refine aA fun K21 hK21 => ?_
  refine aL ?_
  refine aC [1, 49, 50, 51, 52] ?_
  refine aA fun K23 hK23 => ?_
  refine bL [1, 6, 49, 50, 51, 52] ?_
  refine eL (gF _ t (t.fRoutes.getD i default).fPoints) ?_
  refine lB (fun g2 => gF _ t (t.fRoutes.getD i default).fOverPoints) ?_
  refine lB (fun g3 => gF _ t (t.fRoutes.getD i default).fFlank) ?_
  refine hK23 _ ?_; clear hK23
  refine aV (fun c5 => ?_) fun c5 => ?_
  ·refine aC [] ?_
   refine aM ?_
   refine cW 2 ?_
   exact dE.is (by simp (disch := omega) only [go_sem, seval] <;> (rw [bTz hL hP (nR c4 (by rw [seB, ← Bool.not_eq_true]; intro h; simp only [Bool.and_eq_true] at h; simp only [h.1.1, h.1.2, h.2] at c5; simp at c5))])) rfl rfl
  refine aJ ?_
  refine hK21 _ ?_; clear hK21
  refine bE [1, 49, 50, 51, 52] ?_
  refine hK18 _ _ ?_ ⟨i + 1, rfl, ?_, ?_, ?_⟩
  ·exact bI
  ·exact bI
  ·exact jZ l1_1 (by rw [seB]; simpa [and_assoc] using c5)
  exact dC
 refine bA ?_
 refine hK16 _ ?_; clear hK16
 refine aA fun K25 hK25 => ?_
 refine aC [1] ?_
 refine aL ?_
 have hB := pX l1_1 (by omega)
 refine aZ [1, 77, 78, 79] (fun n ρ => ∃ i, n = t.fRoutes.length - i ∧ (i ≤ t.fRoutes.length) ∧ (l9 agB t.fRoutes i) ∧ ρ = dU O [(1, .bx (dK t)), (77, iM t.fRoutes), (78, vi (t.fRoutes.length : Nat)), (79, vi (i : Nat))]) _ ⟨0, rfl, ?_, ?_, ?_⟩ ?_
 ·exact bI
 ·exact jW _ _
 ·exact dC
 rintro n ρ ⟨i, rfl, l2_0, l2_1, rfl⟩ K27 hK27
 refine aC [1, 76, 77, 78, 79] ?_
 refine aA fun K29 hK29 => ?_
 refine aV (fun c6 => ?_) fun c6 => ?_
 ·refine aJ ?_
  refine hK29 _ ?_; clear hK29
  refine aA fun K30 hK30 => ?_
  refine aL ?_
  refine aC [1, 76, 77, 78, 79] ?_
  refine aA fun K32 hK32 => ?_
  refine bL [1, 8, 76, 77, 78, 79] ?_
  refine eL (jX _ (t.fRoutes.getD i default).fPoints (t.fRoutes.getD i default).fOverPoints) ?_
  refine lB (fun g4 => jX _ (t.fRoutes.getD i default).fPoints (t.fRoutes.getD i default).fFlank) ?_
  refine lB (fun g5 => jX _ (t.fRoutes.getD i default).fOverPoints (t.fRoutes.getD i default).fFlank) ?_
  refine hK32 _ ?_; clear hK32
  refine aV (fun c7 => ?_) fun c7 => ?_
  ·refine aC [] ?_
   refine aM ?_
   refine cW 2 ?_
   exact dE.is (by simp (disch := omega) only [go_sem, seval] <;> (rw [bXa hL hP hA hB (nR c6 (by rw [agB, ← Bool.not_eq_true]; intro h; simp only [Bool.and_eq_true] at h; simp only [h.1.1, h.1.2, h.2] at c7; simp at c7))])) rfl rfl
  refine aJ ?_
  refine hK30 _ ?_; clear hK30
  refine bE [1, 76, 77, 78, 79] ?_
  refine hK27 _ _ ?_ ⟨i + 1, rfl, ?_, ?_, ?_⟩
  ·exact bI
  ·exact bI
  ·exact jZ l2_1 (by rw [agB]; simpa [and_assoc] using c7)
  exact dC
 refine bA ?_
 refine hK25 _ ?_; clear hK25
 refine aC [1] ?_
 refine aA fun K35 hK35 => ?_
 refine aC [1, 9] ?_
 refine aL ?_
 have hC := pX l2_1 (by omega)
 refine aZ [9, 108, 109, 110] (fun n ρ => ∃ i, n = t.fRoutes.length - i ∧ (i ≤ t.fRoutes.length) ∧ (oO (nuB t) i) ∧ ρ = dU O [(9, .mo (yR t i)), (108, iM t.fRoutes), (109, vi (t.fRoutes.length : Nat)), (110, vi (i : Nat))]) _ ⟨0, rfl, ?_, ?_, ?_⟩ ?_
 ·exact bI
 ·exact l4 _
 ·exact dC
 rintro n ρ ⟨i, rfl, l3_0, l3_1, rfl⟩ K37 hK37
 have hK := aIs l3_1
 have hG := aZm hK
 refine aA fun K38 hK38 => ?_
 refine aX [1, 9, 107, 108, 109, 110] (by kernel_rfl) ?_
 simp (disch := omega) only [go_sem, seval, hG]
 repeat refine And.intro bS ?_
 refine hK38 _ ?_; clear hK38
 refine aA fun K39 hK39 => ?_
 refine aV (fun c8 => ?_) fun c8 => ?_
 ·refine aJ ?_
  refine hK39 _ ?_; clear hK39
  refine aA fun K40 hK40 => ?_
  refine aL ?_
  refine aA fun K41 hK41 => ?_
  refine aX [1, 9, 107, 108, 109, 110] (by kernel_rfl) ?_
  simp (disch := omega) only [go_sem, seval, hG]
  repeat refine And.intro bS ?_
  refine hK41 _ ?_; clear hK41
  refine aA fun K42 hK42 => ?_
  refine aA fun K43 hK43 => ?_
  refine aX [1, 9, 11, 107, 108, 109, 110] (by kernel_rfl) ?_
  simp (disch := omega) only [go_sem, seval, hG]
  repeat refine And.intro bS ?_
  refine hK43 _ ?_; clear hK43
  refine aV (fun c9 => ?_) fun c9 => ?_
  ·refine aA fun K44 hK44 => ?_
   refine aX [] (by kernel_rfl) ?_
   simp (disch := omega) only [go_sem, seval, hG]
   repeat refine And.intro bS ?_
   refine hK44 _ ?_; clear hK44
   refine aM ?_
   refine cK 2 rfl (by simp (disch := omega) only [go_sem, seval, hG]) ?_
   exact dE.is (by simp (disch := omega) only [go_sem, seval, hG] <;> (rw [bWd hL hP hA hB hC (rA c8 (by simpa using c9))])) rfl rfl
  have hN : nuB t i = true := by simpa using c9
  have hNK := aMv hN
  refine aJ ?_
  refine hK42 _ ?_; clear hK42
  refine aX [1, 9, 11, 107, 108, 109, 110] (by kernel_rfl) ?_
  simp (disch := omega) only [go_sem, seval, hG]
  repeat refine And.intro bS ?_
  refine hK40 _ ?_; clear hK40
  refine aX [1, 9, 107, 108, 109, 110] (by kernel_rfl) ?_
  simp (disch := omega) only [go_sem, seval, hG]
  repeat refine And.intro bS ?_
  refine hK37 _ _ ?_ ⟨i + 1, rfl, ?_, ?_, ?_⟩
  ·exact bI
  ·exact bI
  ·exact mG l3_1 hN
  simp (disch := omega) only [go_sem, seval, hG] <;> first | rfl | omega | simp | simp_all
 refine bA ?_
 refine hK35 _ ?_; clear hK35
 refine aA fun K45 hK45 => ?_
 refine aX [] (by kernel_rfl) ?_
 simp (disch := omega) only [go_sem, seval, hG]
 repeat refine And.intro bS ?_
 refine hK45 _ ?_; clear hK45
 refine aM ?_
 refine cK 2 rfl (by simp (disch := omega) only [go_sem, seval, hG]) ?_
 exact dE.is (by simp (disch := omega) only [go_sem, seval, hG] <;> (rw [bRe hL hP hA hB hC (uO l3_1 (by omega))])) rfl rfl
end
end Go.Sg
namespace Go.Sg
open Go.Proofs
def nmB (x : ByteArray) (r : a8) : Bool := decide (r.fName = x)
theorem aYa {t : cP} {x : ByteArray} : (if t.fRoutes.any (nmB x) then (t.fRoutes.findIdx (nmB x) : Int) else -1) = wN t x t.fRoutes.length := by
 by_cases h : t.fRoutes.any (nmB x) = true
 ·rw [if_pos h]
  have hlt : t.fRoutes.findIdx (nmB x) < t.fRoutes.length := List.findIdx_lt_length.2 (by simpa using h)
  have hat : yI t (t.fRoutes.findIdx (nmB x)) = x := by
   have := List.findIdx_getElem (w := hlt)
   have := of_decide_eq_true (p := (t.fRoutes[t.fRoutes.findIdx (nmB x)]).fName = x) this
   simpa [yI, List.getD_eq_getElem?_getD, hlt] using this
  rw [nX (t.fRoutes.findIdx (nmB x)) (by omega) fun j hj he => ?_, aMj hlt, if_pos hat]
  have := List.not_of_lt_findIdx hj
  refine absurd this ?_
  rw [Bool.not_eq_false]
  exact decide_eq_true (by simpa [yI, List.getD_eq_getElem?_getD, show j < t.fRoutes.length by omega] using he)
 rw [if_neg h, nX t.fRoutes.length (Nat.le_refl _) fun j hj he => ?_, Nat.sub_self]
 ·rfl
 rw [Bool.not_eq_true] at h
 have := m9 (f := fun r => !nmB x r) (l := t.fRoutes) (by rw [List.all_eq_true]; intro r hr; rw [List.any_eq_false] at h; simpa using h r hr) hj
 simp only [nmB, Bool.not_eq_true', decide_eq_false_iff_not] at this
 exact this he
theorem mN (O : aS) (l : List a8) (g s : Nat) (cs : List DV) (p : a8 → Bool) (hO : O s = .bx cs) (hcs : gT (· + 100000) cs = cs) (hg : aQ Tryz.prog g = true) (hk : ∀ (ρ : aS) (k : Nat) (x : a8), ρ k = .bx cs → aY Tryz.prog ρ g [.agg (bB x), .bp k 0] (vb (p x))) : aY Tryz.prog O 52 [iM l, .fn g [] [.bp s 0]] (vi (if l.any p then (l.findIdx p : Nat) else -1)) := by
 refine aU 0 rfl (.sl _ _ _) fun hl => ?_
 refine eE Tryz.func52 ?_
 refine aA fun K0 hK0 => ?_
 refine aX [0, 1] (by kernel_rfl) ?_
 simp (disch := omega) only [go_sem, seval, hg]
 repeat refine And.intro bS ?_
 refine hK0 _ ?_; clear hK0
 refine aA fun K1 hK1 => ?_
 refine aA fun K2 hK2 => ?_
 refine aX [0, 1] (by kernel_rfl) ?_
 simp (disch := omega) only [go_sem, seval, hg]
 repeat refine And.intro bS ?_
 refine hK2 _ ?_; clear hK2
 refine aL ?_
 refine aZ [0, 1, 7, 8] (fun n ρ => ∃ i, n = l.length - i ∧ (i ≤ l.length) ∧ ((if l.any p then (l.findIdx p : Int) else -1) = (if (l.drop i).any p then (((l.drop i).findIdx p + i : Nat) : Int) else -1)) ∧ ρ = dU O [(0, iM l), (1, .fn g [] [.bp (s + 100000) 0]), (7, vi (l.length : Nat)), (8, vi (i : Nat))]) _ ⟨0, rfl, ?_, ?_, ?_⟩ ?_
 ·exact bI
 ·simp
 ·simp (disch := omega) only [go_sem, seval, hg] <;> first | rfl | omega | simp | simp_all
 rintro n ρ ⟨i, rfl, l0_0, l0_1, rfl⟩ K3 hK3
 refine aA fun K4 hK4 => ?_
 refine aX [0, 1, 7, 8] (by kernel_rfl) ?_
 simp (disch := omega) only [go_sem, seval, hg]
 repeat refine And.intro bS ?_
 refine hK4 _ ?_; clear hK4
 refine aA fun K5 hK5 => ?_
 refine aV (fun c0 => ?_) fun c0 => ?_
 ·refine aJ ?_
  refine hK5 _ ?_; clear hK5
  refine aA fun K6 hK6 => ?_
  refine aL ?_
  refine aA fun K7 hK7 => ?_
  refine aX [0, 1, 7, 8] (by kernel_rfl) ?_
  simp (disch := omega) only [go_sem, seval, hg]
  repeat refine And.intro bS ?_
  refine hK7 _ ?_; clear hK7
  refine aA fun K8 hK8 => ?_
  refine aX [0, 1, 5, 7, 8] (by kernel_rfl) ?_
  simp (disch := omega) only [go_sem, seval, hg]
  repeat refine And.intro bS ?_
  refine fP _ (hk _ (s + 100000) (l.getD i default) ?_) ?_
  ·repeat rw [aO, if_neg (by omega)]
   rw [bW, hO]; exact congrArg DV.bx hcs
  try simp (disch := omega) only [go_sem, seval, hg]
  repeat refine And.intro bS ?_
  refine hK8 _ ?_; clear hK8
  refine aV (fun c1 => ?_) fun c1 => ?_
  ·refine aA fun K9 hK9 => ?_
   refine aX [5] (by kernel_rfl) ?_
   simp (disch := omega) only [go_sem, seval, hg]
   repeat refine And.intro bS ?_
   refine hK9 _ ?_; clear hK9
   refine aM ?_
   refine cK 4 rfl (by simp (disch := omega) only [go_sem, seval, hg]) ?_
   exact dE.is (by simp (disch := omega) only [go_sem, seval, hg] <;> (refine congrArg vi ?_; rw [l0_1, bV default c0, List.any_cons, List.findIdx_cons, c1]; simp)) rfl rfl
  refine aJ ?_
  refine hK6 _ ?_; clear hK6
  refine aX [0, 1, 7, 8] (by kernel_rfl) ?_
  simp (disch := omega) only [go_sem, seval, hg]
  repeat refine And.intro bS ?_
  refine hK3 _ _ ?_ ⟨i + 1, rfl, ?_, ?_, ?_⟩
  ·exact bI
  ·exact bI
  ·rw [l0_1, bV default c0, List.any_cons, List.findIdx_cons, c1]; simp only [Bool.false_or, cond_false]; rw [show List.findIdx p (List.drop (i + 1) l) + 1 + i = List.findIdx p (List.drop (i + 1) l) + (i + 1) by omega]
  simp (disch := omega) only [go_sem, seval, hg] <;> first | rfl | omega | simp | simp_all
 refine bA ?_
 refine hK1 _ ?_; clear hK1
 refine aA fun K10 hK10 => ?_
 refine aX [] (by kernel_rfl) ?_
 simp (disch := omega) only [go_sem, seval, hg]
 repeat refine And.intro bS ?_
 refine hK10 _ ?_; clear hK10
 refine aM ?_
 refine cK 4 rfl (by simp (disch := omega) only [go_sem, seval, hg]) ?_
 exact dE.is (by simp (disch := omega) only [go_sem, seval, hg] <;> (refine congrArg vi ?_; rw [l0_1, eN c0]; rfl)) rfl rfl
section
attribute [local go_sem] bW
theorem wV (O : aS) (x : a8) (nm : ByteArray) (k : Nat) (h : O k = .bx [vs nm]) : aY Tryz.prog O 53 [.agg (bB x), .bp k 0] (vb (nmB nm x)) := by
 refine eE Tryz.func53 ?_
 refine aA fun K0 hK0 => ?_
 refine aX [0, 1] (by kernel_rfl) ?_
 simp (disch := omega) only [go_sem, seval, h]
 repeat refine And.intro bS ?_
 refine hK0 _ ?_; clear hK0
 refine aA fun K1 hK1 => ?_
 refine aX [1, 2] (by kernel_rfl) ?_
 simp (disch := omega) only [go_sem, seval, h]
 repeat refine And.intro bS ?_
 refine hK1 _ ?_; clear hK1
 refine aM ?_
 refine cK 3 rfl (by simp (disch := omega) only [go_sem, seval, h]) ?_
 exact dE.is (by simp (disch := omega) only [go_sem, seval, h] <;> refine congrArg vb ?_ <;> (rw [nmB, Bool.eq_iff_iff]; simp [aVq])) rfl rfl
end
theorem rK (O : aS) (t : cP) (x : ByteArray) : aY Tryz.prog O 17 [.agg (dK t), vs x] (vi (wN t x t.fRoutes.length)) := by
 refine eE Tryz.func17 ?_
 refine aC [0, 1] ?_
 refine aA fun K1 hK1 => ?_
 refine bL [2, 3] ?_
 refine eL (mN _ t.fRoutes 53 3 [vs x] (nmB x) (by rfl) rfl rfl (fun ρ k r h => wV ρ r x k h)) ?_
 refine hK1 _ ?_; clear hK1
 refine aM ?_
 refine cW 4 ?_
 exact dE.is (by simp (disch := omega) only [go_sem, seval] <;> (rw [← aYa])) rfl rfl
end Go.Sg
namespace Go.Sg
open Go.Proofs
theorem bOa {t : cP} (h : z7 t = true) : t.fRoutes.length ≤ 80 := by
 unfold z7 at h
 rw [Bool.and_eq_true] at h
 exact (of_decide_eq_true h.1).1
theorem bNa {α : Type} [Inhabited α] {e : α → List DV} {g : Nat → List DV} {n : Nat} {l : List α} (hn : n = l.length) (h : ∀ i, i < n → g i = e (l.getD i default)) : (List.range n).map g = l.map e := by
 subst hn
 rw [← nH e l]
 exact List.map_congr_left fun i hi => h i (List.mem_range.1 hi)
section
variable {t : cP} {i : Nat}
end
end Go.Sg
namespace Go.Sg
open Go.Proofs
theorem aCv {t : cP} (h : z7 t = true) : t.fRoutes.length ≤ 80 := bOa h
def dX (t : cP) (s : Int) (n : Nat) : List Int := ((List.range n).filter fun k => decide ((t.fRoutes.getD k default).fEntry = s)).map fun (k : Nat) => (k : Int)
theorem bEw {t : cP} {s : Int} {n : Nat} : dX t s (n + 1) = dX t s n ++ if (t.fRoutes.getD n default).fEntry = s then [(n : Int)] else [] := by
 unfold dX
 rw [List.range_succ, List.filter_append, List.map_append]
 congr 1
 by_cases h : (t.fRoutes.getD n default).fEntry = s
 ·rw [if_pos h, List.filter_cons_of_pos (by simpa using h)]; rfl
 rw [if_neg h, List.filter_cons_of_neg (by simpa using h)]; rfl
theorem aEn (t : cP) (s : Int) (n : Nat) : (dX t s n).length ≤ n := by
 unfold dX
 rw [List.length_map]
 exact Nat.le_trans (List.length_filter_le _ _) (by simp)
abbrev rM (l : List aW) : DV := encL 3 bO l
abbrev aLj (l : List cG) : DV := encL 2 cE l
def aDl (a b : a8) : Bool := decide (a = b)
theorem rE (O : aS) (t : cP) (s : Int) (hn : t.fRoutes.length ≤ 80) : aY Tryz.prog O 20 [.agg (dK t), vi s] (dL (dX t s t.fRoutes.length)) := by
 refine aU 0 rfl (.agg (d := iM t.fRoutes) (by simp [dK]) (.sl _ _ _)) fun hr => ?_
 refine eE Tryz.func20 ?_
 refine aC [0, 1] ?_
 refine aC [1, 2] ?_
 refine aA fun K2 hK2 => ?_
 refine aC [1, 2, 5] ?_
 refine aL ?_
 refine gZ 5 3 1 eI rfl rfl ?_
 refine aZ [1, 5, 9, 10, 11] (fun n ρ => ∃ i, n = t.fRoutes.length - i ∧ (i ≤ t.fRoutes.length) ∧ ρ = dU O [(1, vi s), (5, rowL 3 1 eI (dX t s i)), (9, iM t.fRoutes), (10, vi (t.fRoutes.length : Nat)), (11, vi (i : Nat))]) _ ⟨0, rfl, ?_, ?_⟩ ?_
 ·exact bI
 ·exact dC
 rintro n ρ ⟨i, rfl, l0_0, rfl⟩ K4 hK4
 have hfl := aEn t s i
 refine aC [1, 2, 5, 8, 9, 10, 11] ?_
 refine aA fun K6 hK6 => ?_
 refine aV (fun c0 => ?_) fun c0 => ?_
 ·refine aJ ?_
  refine hK6 _ ?_; clear hK6
  refine aA fun K7 hK7 => ?_
  refine aL ?_
  refine aC [1, 2, 5, 8, 9, 10, 11] ?_
  refine aC [1, 2, 5, 6, 7, 8, 9, 10, 11] ?_
  refine aV (fun c1 => ?_) fun c1 => ?_
  ·refine bE [1, 2, 5, 6, 8, 9, 10, 11] ?_
   refine hK7 _ ?_; clear hK7
   refine bE [1, 2, 5, 8, 9, 10, 11] ?_
   refine hK4 _ _ ?_ ⟨i + 1, rfl, ?_, ?_⟩
   ·exact bI
   ·exact bI
   simp (disch := omega) only [go_sem, seval] <;> (rw [bEw, if_pos c1]; first | rfl | simp)
  refine aJ ?_
  refine hK7 _ ?_; clear hK7
  refine bE [1, 2, 5, 8, 9, 10, 11] ?_
  refine hK4 _ _ ?_ ⟨i + 1, rfl, ?_, ?_⟩
  ·exact bI
  ·exact bI
  simp (disch := omega) only [go_sem, seval] <;> (rw [bEw, if_neg c1, List.append_nil]; rfl)
 refine bA ?_
 refine hK2 _ ?_; clear hK2
 refine aA fun K10 hK10 => ?_
 refine fG 5 _ rfl rfl ?_
 refine bE [5] ?_
 refine hK10 _ ?_; clear hK10
 refine aM ?_
 refine cW 4 ?_
 exact dE.encL rfl (by rw [show i = t.fRoutes.length by omega])
theorem tQ (O : aS) (a b : List Int) : aY Tryz.prog O 25 [dL a, dL b] (vb (a == b)) := by
 refine aU 0 rfl (.sl _ _ _) fun ha => ?_
 refine aU 1 rfl (.sl _ _ _) fun hb => ?_
 refine eE Tryz.func25 ?_
 refine aC [0, 1] ?_
 refine aA fun K1 hK1 => ?_
 refine aC [0, 1] ?_
 refine aV (fun c0 => ?_) fun c0 => ?_
 ·refine aC [] ?_
  refine aM ?_
  refine cW 4 ?_
  refine xb ?_
  (symm; rw [beq_eq_false_iff_ne]; intro h; exact c0 (by rw [h]))
 refine aJ ?_
 refine hK1 _ ?_; clear hK1
 refine aA fun K4 hK4 => ?_
 refine aC [0, 1] ?_
 refine aL ?_
 refine aZ [0, 1, 12, 13] (fun n ρ => ∃ i, n = a.length - i ∧ (i ≤ a.length) ∧ ((a == b) = (a.drop i == b.drop i)) ∧ ρ = dU O [(0, dL a), (1, dL b), (12, vi (a.length : Nat)), (13, vi (i : Nat))]) _ ⟨0, rfl, ?_, ?_, ?_⟩ ?_
 ·exact bI
 ·rfl
 ·exact dC
 rintro n ρ ⟨i, rfl, l0_0, l0_1, rfl⟩ K6 hK6
 refine aC [0, 1, 12, 13] ?_
 refine aA fun K8 hK8 => ?_
 refine aV (fun c1 => ?_) fun c1 => ?_
 ·refine aJ ?_
  refine hK8 _ ?_; clear hK8
  refine aA fun K9 hK9 => ?_
  refine aL ?_
  refine aC [0, 1, 12, 13] ?_
  refine aA fun K11 hK11 => ?_
  refine gY [0, 1, 5, 12, 13] [] ?_
  refine hK11 _ ?_; clear hK11
  refine aV (fun c2 => ?_) fun c2 => ?_
  ·refine aC [] ?_
   refine aM ?_
   refine cW 4 ?_
   refine xb ?_
   (rw [l0_1, bV default c1, bV default (show i < b.length by omega)]; symm; rw [beq_eq_false_iff_ne]; intro h; exact c2 (by injection h))
  refine aJ ?_
  refine hK9 _ ?_; clear hK9
  refine bE [0, 1, 12, 13] ?_
  refine hK6 _ _ ?_ ⟨i + 1, rfl, ?_, ?_, ?_⟩
  ·exact bI
  ·exact bI
  ·rw [l0_1, bV default c1, bV default (show i < b.length by omega), c2]; simp
  exact dC
 refine bA ?_
 refine hK4 _ ?_; clear hK4
 refine aC [] ?_
 refine aM ?_
 refine cW 4 ?_
 refine xb ?_
 (rw [l0_1, eN c1, eN (by omega)]; rfl)
theorem eX (O : aS) (a b : List Int) : aY Tryz.prog O 69 [dL a, dL b] (vb (a == b)) := by
 refine aU 0 rfl (.sl _ _ _) fun ha => ?_
 refine aU 1 rfl (.sl _ _ _) fun hb => ?_
 refine eE Tryz.func69 ?_
 refine aC [0, 1] ?_
 refine aA fun K1 hK1 => ?_
 refine aC [0, 1] ?_
 refine aV (fun c0 => ?_) fun c0 => ?_
 ·refine aC [] ?_
  refine aM ?_
  refine cW 4 ?_
  refine xb ?_
  (symm; rw [beq_eq_false_iff_ne]; intro h; exact c0 (by rw [h]))
 refine aJ ?_
 refine hK1 _ ?_; clear hK1
 refine aA fun K4 hK4 => ?_
 refine aC [0, 1] ?_
 refine aL ?_
 refine aZ [0, 1, 12, 13] (fun n ρ => ∃ i, n = a.length - i ∧ (i ≤ a.length) ∧ ((a == b) = (a.drop i == b.drop i)) ∧ ρ = dU O [(0, dL a), (1, dL b), (12, vi (a.length : Nat)), (13, vi (i : Nat))]) _ ⟨0, rfl, ?_, ?_, ?_⟩ ?_
 ·exact bI
 ·rfl
 ·exact dC
 rintro n ρ ⟨i, rfl, l0_0, l0_1, rfl⟩ K6 hK6
 refine aC [0, 1, 12, 13] ?_
 refine aA fun K8 hK8 => ?_
 refine aV (fun c1 => ?_) fun c1 => ?_
 ·refine aJ ?_
  refine hK8 _ ?_; clear hK8
  refine aA fun K9 hK9 => ?_
  refine aL ?_
  refine aC [0, 1, 12, 13] ?_
  refine aA fun K11 hK11 => ?_
  refine gY [0, 1, 5, 12, 13] [] ?_
  refine hK11 _ ?_; clear hK11
  refine aV (fun c2 => ?_) fun c2 => ?_
  ·refine aC [] ?_
   refine aM ?_
   refine cW 4 ?_
   refine xb ?_
   (rw [l0_1, bV default c1, bV default (show i < b.length by omega)]; symm; rw [beq_eq_false_iff_ne]; intro h; exact c2 (by injection h))
  refine aJ ?_
  refine hK9 _ ?_; clear hK9
  refine bE [0, 1, 12, 13] ?_
  refine hK6 _ _ ?_ ⟨i + 1, rfl, ?_, ?_, ?_⟩
  ·exact bI
  ·exact bI
  ·rw [l0_1, bV default c1, bV default (show i < b.length by omega), c2]; simp
  exact dC
 refine bA ?_
 refine hK4 _ ?_; clear hK4
 refine aC [] ?_
 refine aM ?_
 refine cW 4 ?_
 refine xb ?_
 (rw [l0_1, eN c1, eN (by omega)]; rfl)
theorem kX (O : aS) (a b : List aW) : aY Tryz.prog O 108 [rM a, rM b] (vb (a == b)) := by
 refine aU 0 rfl (.sl _ _ _) fun ha => ?_
 refine aU 1 rfl (.sl _ _ _) fun hb => ?_
 refine eE Tryz.func108 ?_
 refine aC [0, 1] ?_
 refine aA fun K1 hK1 => ?_
 refine aC [0, 1] ?_
 refine aV (fun c0 => ?_) fun c0 => ?_
 ·refine aC [] ?_
  refine aM ?_
  refine cW 4 ?_
  refine xb ?_
  (symm; rw [beq_eq_false_iff_ne]; intro h; exact c0 (by rw [h]))
 refine aJ ?_
 refine hK1 _ ?_; clear hK1
 refine aA fun K4 hK4 => ?_
 refine aC [0, 1] ?_
 refine aL ?_
 refine aZ [0, 1, 12, 13] (fun n ρ => ∃ i, n = a.length - i ∧ (i ≤ a.length) ∧ ((a == b) = (a.drop i == b.drop i)) ∧ ρ = dU O [(0, rM a), (1, rM b), (12, vi (a.length : Nat)), (13, vi (i : Nat))]) _ ⟨0, rfl, ?_, ?_, ?_⟩ ?_
 ·exact bI
 ·rfl
 ·exact dC
 rintro n ρ ⟨i, rfl, l0_0, l0_1, rfl⟩ K6 hK6
 refine aC [0, 1, 12, 13] ?_
 refine aA fun K8 hK8 => ?_
 refine aV (fun c1 => ?_) fun c1 => ?_
 ·refine aJ ?_
  refine hK8 _ ?_; clear hK8
  refine aA fun K9 hK9 => ?_
  refine aL ?_
  refine aC [0, 1, 12, 13] ?_
  refine aA fun K11 hK11 => ?_
  refine gY [0, 1, 5, 12, 13] [] ?_
  refine hK11 _ ?_; clear hK11
  refine aV (fun c2 => ?_) fun c2 => ?_
  ·have c2 : a.getD i default ≠ b.getD i default := (by intro h; rw [h] at c2; simp at c2)
   refine aC [] ?_
   refine aM ?_
   refine cW 4 ?_
   refine xb ?_
   (rw [l0_1, bV default c1, bV default (show i < b.length by omega)]; symm; rw [beq_eq_false_iff_ne]; intro h; exact c2 (by injection h))
  have c2 : a.getD i default = b.getD i default := (by rw [aCz]; simpa using c2)
  refine aJ ?_
  refine hK9 _ ?_; clear hK9
  refine bE [0, 1, 12, 13] ?_
  refine hK6 _ _ ?_ ⟨i + 1, rfl, ?_, ?_, ?_⟩
  ·exact bI
  ·exact bI
  ·rw [l0_1, bV default c1, bV default (show i < b.length by omega), c2]; simp
  exact dC
 refine bA ?_
 refine hK4 _ ?_; clear hK4
 refine aC [] ?_
 refine aM ?_
 refine cW 4 ?_
 refine xb ?_
 (rw [l0_1, eN c1, eN (by omega)]; rfl)
theorem fT (O : aS) (a b : List aN) : aY Tryz.prog O 109 [kI a, kI b] (vb (a == b)) := by
 refine aU 0 rfl (.sl _ _ _) fun ha => ?_
 refine aU 1 rfl (.sl _ _ _) fun hb => ?_
 refine eE Tryz.func109 ?_
 refine aC [0, 1] ?_
 refine aA fun K1 hK1 => ?_
 refine aC [0, 1] ?_
 refine aV (fun c0 => ?_) fun c0 => ?_
 ·refine aC [] ?_
  refine aM ?_
  refine cW 4 ?_
  refine xb ?_
  (symm; rw [beq_eq_false_iff_ne]; intro h; exact c0 (by rw [h]))
 refine aJ ?_
 refine hK1 _ ?_; clear hK1
 refine aA fun K4 hK4 => ?_
 refine aC [0, 1] ?_
 refine aL ?_
 refine aZ [0, 1, 12, 13] (fun n ρ => ∃ i, n = a.length - i ∧ (i ≤ a.length) ∧ ((a == b) = (a.drop i == b.drop i)) ∧ ρ = dU O [(0, kI a), (1, kI b), (12, vi (a.length : Nat)), (13, vi (i : Nat))]) _ ⟨0, rfl, ?_, ?_, ?_⟩ ?_
 ·exact bI
 ·rfl
 ·exact dC
 rintro n ρ ⟨i, rfl, l0_0, l0_1, rfl⟩ K6 hK6
 refine aC [0, 1, 12, 13] ?_
 refine aA fun K8 hK8 => ?_
 refine aV (fun c1 => ?_) fun c1 => ?_
 ·refine aJ ?_
  refine hK8 _ ?_; clear hK8
  refine aA fun K9 hK9 => ?_
  refine aL ?_
  refine aC [0, 1, 12, 13] ?_
  refine aA fun K11 hK11 => ?_
  refine gY [0, 1, 5, 12, 13] [] ?_
  refine hK11 _ ?_; clear hK11
  refine aV (fun c2 => ?_) fun c2 => ?_
  ·have c2 : a.getD i default ≠ b.getD i default := (by intro h; rw [h] at c2; simp at c2)
   refine aC [] ?_
   refine aM ?_
   refine cW 4 ?_
   refine xb ?_
   (rw [l0_1, bV default c1, bV default (show i < b.length by omega)]; symm; rw [beq_eq_false_iff_ne]; intro h; exact c2 (by injection h))
  have c2 : a.getD i default = b.getD i default := (by rw [fQ]; simpa using c2)
  refine aJ ?_
  refine hK9 _ ?_; clear hK9
  refine bE [0, 1, 12, 13] ?_
  refine hK6 _ _ ?_ ⟨i + 1, rfl, ?_, ?_, ?_⟩
  ·exact bI
  ·exact bI
  ·rw [l0_1, bV default c1, bV default (show i < b.length by omega), c2]; simp
  exact dC
 refine bA ?_
 refine hK4 _ ?_; clear hK4
 refine aC [] ?_
 refine aM ?_
 refine cW 4 ?_
 refine xb ?_
 (rw [l0_1, eN c1, eN (by omega)]; rfl)
theorem rB (O : aS) (a b : List cG) : aY Tryz.prog O 110 [aLj a, aLj b] (vb (a == b)) := by
 refine aU 0 rfl (.sl _ _ _) fun ha => ?_
 refine aU 1 rfl (.sl _ _ _) fun hb => ?_
 refine eE Tryz.func110 ?_
 refine aC [0, 1] ?_
 refine aA fun K1 hK1 => ?_
 refine aC [0, 1] ?_
 refine aV (fun c0 => ?_) fun c0 => ?_
 ·refine aC [] ?_
  refine aM ?_
  refine cW 4 ?_
  refine xb ?_
  (symm; rw [beq_eq_false_iff_ne]; intro h; exact c0 (by rw [h]))
 refine aJ ?_
 refine hK1 _ ?_; clear hK1
 refine aA fun K4 hK4 => ?_
 refine aC [0, 1] ?_
 refine aL ?_
 refine aZ [0, 1, 12, 13] (fun n ρ => ∃ i, n = a.length - i ∧ (i ≤ a.length) ∧ ((a == b) = (a.drop i == b.drop i)) ∧ ρ = dU O [(0, aLj a), (1, aLj b), (12, vi (a.length : Nat)), (13, vi (i : Nat))]) _ ⟨0, rfl, ?_, ?_, ?_⟩ ?_
 ·exact bI
 ·rfl
 ·exact dC
 rintro n ρ ⟨i, rfl, l0_0, l0_1, rfl⟩ K6 hK6
 refine aC [0, 1, 12, 13] ?_
 refine aA fun K8 hK8 => ?_
 refine aV (fun c1 => ?_) fun c1 => ?_
 ·refine aJ ?_
  refine hK8 _ ?_; clear hK8
  refine aA fun K9 hK9 => ?_
  refine aL ?_
  refine aC [0, 1, 12, 13] ?_
  refine aA fun K11 hK11 => ?_
  refine gY [0, 1, 5, 12, 13] [] ?_
  refine hK11 _ ?_; clear hK11
  refine aV (fun c2 => ?_) fun c2 => ?_
  ·have c2 : a.getD i default ≠ b.getD i default := (by intro h; rw [h] at c2; simp at c2)
   refine aC [] ?_
   refine aM ?_
   refine cW 4 ?_
   refine xb ?_
   (rw [l0_1, bV default c1, bV default (show i < b.length by omega)]; symm; rw [beq_eq_false_iff_ne]; intro h; exact c2 (by injection h))
  have c2 : a.getD i default = b.getD i default := (by rw [dO]; simpa using c2)
  refine aJ ?_
  refine hK9 _ ?_; clear hK9
  refine bE [0, 1, 12, 13] ?_
  refine hK6 _ _ ?_ ⟨i + 1, rfl, ?_, ?_, ?_⟩
  ·exact bI
  ·exact bI
  ·rw [l0_1, bV default c1, bV default (show i < b.length by omega), c2]; simp
  exact dC
 refine bA ?_
 refine hK4 _ ?_; clear hK4
 refine aC [] ?_
 refine aM ?_
 refine cW 4 ?_
 refine xb ?_
 (rw [l0_1, eN c1, eN (by omega)]; rfl)
theorem sJ (O : aS) (a b : List aW) : aY Tryz.prog O 59 [rM a, rM b] (vb (a == b)) := by
 refine aU 0 rfl (.sl _ _ _) fun ha => ?_
 refine aU 1 rfl (.sl _ _ _) fun hb => ?_
 refine eE Tryz.func59 ?_
 refine aC [0, 1] ?_
 refine aA fun K1 hK1 => ?_
 refine aC [0, 1] ?_
 refine aV (fun c0 => ?_) fun c0 => ?_
 ·refine aC [] ?_
  refine aM ?_
  refine cW 4 ?_
  refine xb ?_
  (symm; rw [beq_eq_false_iff_ne]; intro h; exact c0 (by rw [h]))
 refine aJ ?_
 refine hK1 _ ?_; clear hK1
 refine aA fun K4 hK4 => ?_
 refine aC [0, 1] ?_
 refine aL ?_
 refine aZ [0, 1, 5] (fun n ρ => ∃ i, n = a.length - i ∧ (i ≤ a.length) ∧ ((a == b) = (a.drop i == b.drop i)) ∧ ρ = dU O [(0, rM a), (1, rM b), (5, vi (i : Nat))]) _ ⟨0, rfl, ?_, ?_, ?_⟩ ?_
 ·exact bI
 ·rfl
 ·exact dC
 rintro n ρ ⟨i, rfl, l0_0, l0_1, rfl⟩ K6 hK6
 refine aA fun K7 hK7 => ?_
 refine aC [0, 1, 5] ?_
 refine aV (fun c1 => ?_) fun c1 => ?_
 ·refine aJ ?_
  refine hK7 _ ?_; clear hK7
  refine aA fun K9 hK9 => ?_
  refine aL ?_
  refine aA fun K10 hK10 => ?_
  refine gY [0, 1, 5] [] ?_
  refine hK10 _ ?_; clear hK10
  refine aV (fun c2 => ?_) fun c2 => ?_
  ·have c2 : a.getD i default ≠ b.getD i default := (by intro h; rw [h] at c2; simp at c2)
   refine aC [] ?_
   refine aM ?_
   refine cW 4 ?_
   refine xb ?_
   (rw [l0_1, bV default c1, bV default (show i < b.length by omega)]; symm; rw [beq_eq_false_iff_ne]; intro h; exact c2 (by injection h))
  have c2 : a.getD i default = b.getD i default := (by rw [aCz]; simpa using c2)
  refine aJ ?_
  refine hK9 _ ?_; clear hK9
  refine bE [0, 1, 5] ?_
  refine hK6 _ _ ?_ ⟨i + 1, rfl, ?_, ?_, ?_⟩
  ·exact bI
  ·exact bI
  ·rw [l0_1, bV default c1, bV default (show i < b.length by omega), c2]; simp
  exact dC
 refine bA ?_
 refine hK4 _ ?_; clear hK4
 refine aC [] ?_
 refine aM ?_
 refine cW 4 ?_
 refine xb ?_
 (rw [l0_1, eN c1, eN (by omega)]; rfl)
theorem o0 (O : aS) (a b : List aN) : aY Tryz.prog O 62 [kI a, kI b] (vb (a == b)) := by
 refine aU 0 rfl (.sl _ _ _) fun ha => ?_
 refine aU 1 rfl (.sl _ _ _) fun hb => ?_
 refine eE Tryz.func62 ?_
 refine aC [0, 1] ?_
 refine aA fun K1 hK1 => ?_
 refine aC [0, 1] ?_
 refine aV (fun c0 => ?_) fun c0 => ?_
 ·refine aC [] ?_
  refine aM ?_
  refine cW 4 ?_
  refine xb ?_
  (symm; rw [beq_eq_false_iff_ne]; intro h; exact c0 (by rw [h]))
 refine aJ ?_
 refine hK1 _ ?_; clear hK1
 refine aA fun K4 hK4 => ?_
 refine aC [0, 1] ?_
 refine aL ?_
 refine aZ [0, 1, 5] (fun n ρ => ∃ i, n = a.length - i ∧ (i ≤ a.length) ∧ ((a == b) = (a.drop i == b.drop i)) ∧ ρ = dU O [(0, kI a), (1, kI b), (5, vi (i : Nat))]) _ ⟨0, rfl, ?_, ?_, ?_⟩ ?_
 ·exact bI
 ·rfl
 ·exact dC
 rintro n ρ ⟨i, rfl, l0_0, l0_1, rfl⟩ K6 hK6
 refine aA fun K7 hK7 => ?_
 refine aC [0, 1, 5] ?_
 refine aV (fun c1 => ?_) fun c1 => ?_
 ·refine aJ ?_
  refine hK7 _ ?_; clear hK7
  refine aA fun K9 hK9 => ?_
  refine aL ?_
  refine aA fun K10 hK10 => ?_
  refine gY [0, 1, 5] [] ?_
  refine hK10 _ ?_; clear hK10
  refine aV (fun c2 => ?_) fun c2 => ?_
  ·have c2 : a.getD i default ≠ b.getD i default := (by intro h; rw [h] at c2; simp at c2)
   refine aC [] ?_
   refine aM ?_
   refine cW 4 ?_
   refine xb ?_
   (rw [l0_1, bV default c1, bV default (show i < b.length by omega)]; symm; rw [beq_eq_false_iff_ne]; intro h; exact c2 (by injection h))
  have c2 : a.getD i default = b.getD i default := (by rw [fQ]; simpa using c2)
  refine aJ ?_
  refine hK9 _ ?_; clear hK9
  refine bE [0, 1, 5] ?_
  refine hK6 _ _ ?_ ⟨i + 1, rfl, ?_, ?_, ?_⟩
  ·exact bI
  ·exact bI
  ·rw [l0_1, bV default c1, bV default (show i < b.length by omega), c2]; simp
  exact dC
 refine bA ?_
 refine hK4 _ ?_; clear hK4
 refine aC [] ?_
 refine aM ?_
 refine cW 4 ?_
 refine xb ?_
 (rw [l0_1, eN c1, eN (by omega)]; rfl)
theorem sD (O : aS) (a b : List aW) : aY Tryz.prog O 21 [rM a, rM b] (vb (a == b)) := by
 refine eE Tryz.func21 ?_
 refine aC [0, 1] ?_
 refine aA fun K1 hK1 => ?_
 refine bL [0, 1] ?_
 refine eL (sJ _ a b) ?_
 refine hK1 _ ?_; clear hK1
 refine aM ?_
 refine cW 4 ?_
 exact xd
theorem o6 (O : aS) (a b : List aN) : aY Tryz.prog O 29 [kI a, kI b] (vb (a == b)) := by
 refine eE Tryz.func29 ?_
 refine aC [0, 1] ?_
 refine aA fun K1 hK1 => ?_
 refine bL [0, 1] ?_
 refine eL (o0 _ a b) ?_
 refine hK1 _ ?_; clear hK1
 refine aM ?_
 refine cW 4 ?_
 exact xd
set_option maxHeartbeats 4000000 in
theorem aAi (O : aS) (a b : a8) : aY Tryz.prog O 71 [.agg (bB a), .agg (bB b)] (vb (aDl a b)) := by
 refine eE Tryz.func71 ?_
 refine aC [0, 1] ?_
 refine aA fun K1 hK1 => ?_
 refine bJi (by simp only [List.append_eq, List.cons_append, List.nil_append]; exact rfl) ?_
 refine bL [2, 3] ?_
 refine lB (fun g0 => kX _ a.fPath b.fPath) ?_
 refine lB (fun g1 => fT _ a.fPoints b.fPoints) ?_
 refine lB (fun g2 => eX _ a.fSections b.fSections) ?_
 refine lB (fun g3 => kX _ a.fOver b.fOver) ?_
 refine lB (fun g4 => fT _ a.fOverPoints b.fOverPoints) ?_
 refine lB (fun g5 => eX _ a.fOverSections b.fOverSections) ?_
 refine lB (fun g6 => fT _ a.fFlank b.fFlank) ?_
 refine lB (fun g7 => eX _ a.fGuards b.fGuards) ?_
 refine lB (fun g8 => rB _ a.fGaps b.fGaps) ?_
 refine hK1 _ ?_; clear hK1
 refine aM ?_
 refine cW 4 ?_
 refine xb ?_
 (rw [aDl, Bool.eq_iff_iff]; simp [aTj, aVq, and_assoc]; grind)
end Go.Sg
namespace Go.Sg
open Go.Proofs
theorem mO (O : aS) (a b : List a8) : aY Tryz.prog O 70 [iM a, iM b, .fn 71 [] []] (vb (a == b)) := by
 refine aU 0 rfl (.sl _ _ _) fun ha => ?_
 refine aU 1 rfl (.sl _ _ _) fun hb => ?_
 refine eE Tryz.func70 ?_
 refine aA fun K0 hK0 => ?_
 refine aX [0, 1, 2] (by kernel_rfl) ?_
 simp (disch := omega) only [go_sem, seval, show aQ Tryz.prog 71 = true from rfl]
 repeat refine And.intro bS ?_
 refine hK0 _ ?_; clear hK0
 refine aA fun K1 hK1 => ?_
 refine aA fun K2 hK2 => ?_
 refine aX [0, 1, 2] (by kernel_rfl) ?_
 simp (disch := omega) only [go_sem, seval, show aQ Tryz.prog 71 = true from rfl]
 repeat refine And.intro bS ?_
 refine hK2 _ ?_; clear hK2
 refine aV (fun c0 => ?_) fun c0 => ?_
 ·refine aA fun K3 hK3 => ?_
  refine aX [] (by kernel_rfl) ?_
  simp (disch := omega) only [go_sem, seval, show aQ Tryz.prog 71 = true from rfl]
  repeat refine And.intro bS ?_
  refine hK3 _ ?_; clear hK3
  refine aM ?_
  refine cK 6 rfl (by simp (disch := omega) only [go_sem, seval, show aQ Tryz.prog 71 = true from rfl]) ?_
  exact dE.is (by simp (disch := omega) only [go_sem, seval, show aQ Tryz.prog 71 = true from rfl] <;> refine congrArg vb ?_ <;> (symm; rw [beq_eq_false_iff_ne]; intro h; exact c0 (by rw [h]))) rfl rfl
 refine aJ ?_
 refine hK1 _ ?_; clear hK1
 refine aA fun K4 hK4 => ?_
 refine aA fun K5 hK5 => ?_
 refine aX [0, 1, 2] (by kernel_rfl) ?_
 simp (disch := omega) only [go_sem, seval, show aQ Tryz.prog 71 = true from rfl]
 repeat refine And.intro bS ?_
 refine hK5 _ ?_; clear hK5
 refine aL ?_
 refine aZ [1, 2, 15, 16, 17] (fun n ρ => ∃ i, n = a.length - i ∧ (i ≤ a.length) ∧ ((a == b) = (a.drop i == b.drop i)) ∧ ρ = dU O [(1, iM b), (2, .fn 71 [] []), (15, iM a), (16, vi (a.length : Nat)), (17, vi (i : Nat))]) _ ⟨0, rfl, ?_, ?_, ?_⟩ ?_
 ·exact bI
 ·rfl
 ·simp (disch := omega) only [go_sem, seval, show aQ Tryz.prog 71 = true from rfl] <;> first | rfl | omega | simp | simp_all
 rintro n ρ ⟨i, rfl, l0_0, l0_1, rfl⟩ K6 hK6
 refine aA fun K7 hK7 => ?_
 refine aX [0, 1, 2, 15, 16, 17] (by kernel_rfl) ?_
 simp (disch := omega) only [go_sem, seval, show aQ Tryz.prog 71 = true from rfl]
 repeat refine And.intro bS ?_
 refine hK7 _ ?_; clear hK7
 refine aA fun K8 hK8 => ?_
 refine aV (fun c1 => ?_) fun c1 => ?_
 ·refine aJ ?_
  refine hK8 _ ?_; clear hK8
  refine aA fun K9 hK9 => ?_
  refine aL ?_
  refine aA fun K10 hK10 => ?_
  refine aX [0, 1, 2, 15, 16, 17] (by kernel_rfl) ?_
  simp (disch := omega) only [go_sem, seval, show aQ Tryz.prog 71 = true from rfl]
  repeat refine And.intro bS ?_
  refine hK10 _ ?_; clear hK10
  refine aA fun K11 hK11 => ?_
  refine aX [0, 1, 2, 7, 8, 15, 16, 17] (by kernel_rfl) ?_
  simp (disch := omega) only [go_sem, seval, show aQ Tryz.prog 71 = true from rfl]
  repeat refine And.intro bS ?_
  refine hK11 _ ?_; clear hK11
  refine aA fun K12 hK12 => ?_
  refine aX [0, 1, 2, 8, 9, 15, 16, 17] (by kernel_rfl) ?_
  simp (disch := omega) only [go_sem, seval, show aQ Tryz.prog 71 = true from rfl]
  repeat refine And.intro bS ?_
  refine fP _ (aAi _ (a.getD i default) (b.getD i default)) ?_
  try simp (disch := omega) only [go_sem, seval, show aQ Tryz.prog 71 = true from rfl]
  repeat refine And.intro bS ?_
  refine hK12 _ ?_; clear hK12
  refine aV (fun c2 => ?_) fun c2 => ?_
  ·have c2 : a.getD i default ≠ b.getD i default := of_decide_eq_false (by simpa [aDl] using c2)
   refine aA fun K13 hK13 => ?_
   refine aX [] (by kernel_rfl) ?_
   simp (disch := omega) only [go_sem, seval, show aQ Tryz.prog 71 = true from rfl]
   repeat refine And.intro bS ?_
   refine hK13 _ ?_; clear hK13
   refine aM ?_
   refine cK 6 rfl (by simp (disch := omega) only [go_sem, seval, show aQ Tryz.prog 71 = true from rfl]) ?_
   exact dE.is (by simp (disch := omega) only [go_sem, seval, show aQ Tryz.prog 71 = true from rfl] <;> refine congrArg vb ?_ <;> (rw [l0_1, bV default c1, bV default (show i < b.length by omega)]; symm; rw [beq_eq_false_iff_ne]; intro h; exact c2 (by injection h))) rfl rfl
  have c2 : a.getD i default = b.getD i default := of_decide_eq_true (by simpa [aDl] using c2)
  refine aJ ?_
  refine hK9 _ ?_; clear hK9
  refine aX [0, 1, 2, 15, 16, 17] (by kernel_rfl) ?_
  simp (disch := omega) only [go_sem, seval, show aQ Tryz.prog 71 = true from rfl]
  repeat refine And.intro bS ?_
  refine hK6 _ _ ?_ ⟨i + 1, rfl, ?_, ?_, ?_⟩
  ·exact bI
  ·exact bI
  ·rw [l0_1, bV default c1, bV default (show i < b.length by omega), c2]; simp
  simp (disch := omega) only [go_sem, seval, show aQ Tryz.prog 71 = true from rfl] <;> first | rfl | omega | simp | simp_all
 refine bA ?_
 refine hK4 _ ?_; clear hK4
 refine aA fun K14 hK14 => ?_
 refine aX [] (by kernel_rfl) ?_
 simp (disch := omega) only [go_sem, seval, show aQ Tryz.prog 71 = true from rfl]
 repeat refine And.intro bS ?_
 refine hK14 _ ?_; clear hK14
 refine aM ?_
 refine cK 6 rfl (by simp (disch := omega) only [go_sem, seval, show aQ Tryz.prog 71 = true from rfl]) ?_
 exact dE.is (by simp (disch := omega) only [go_sem, seval, show aQ Tryz.prog 71 = true from rfl] <;> refine congrArg vb ?_ <;> (rw [l0_1, eN c1, eN (by omega)]; rfl)) rfl rfl
def aJc (t u : cP) : Bool := decide (t = u)
set_option maxHeartbeats 2000000 in
theorem aAl (O : aS) (t u : cP) : aY Tryz.prog O 32 [.agg (dK t), .agg (dK u)] (vb (aJc t u)) := by
 refine eE Tryz.func32 ?_
 refine aC [0, 1] ?_
 refine aA fun K1 hK1 => ?_
 refine bL [2, 3] ?_
 refine lB (fun g0 => eX _ t.fPoints u.fPoints) ?_
 refine lB (fun g1 => eX _ t.fHomes u.fHomes) ?_
 refine lB (fun g2 => mO _ t.fRoutes u.fRoutes) ?_
 refine hK1 _ ?_; clear hK1
 refine aM ?_
 refine cW 4 ?_
 refine xb ?_
 (rw [aJc, Bool.eq_iff_iff]; simp [aXa, and_assoc]; grind)
end Go.Sg
namespace Go.Sg
open Go.Proofs
def uN (a b : aN) : Bool := decide (a.fEl < b.fEl ∨ a.fEl = b.fEl ∧ a.fPos < b.fPos)
theorem gU {a b : aN} : uN a b = true ↔ a.fEl < b.fEl ∨ a.fEl = b.fEl ∧ a.fPos < b.fPos := decide_eq_true_iff
theorem xK (a : aN) : uN a a = false := by rw [← Bool.not_eq_true, gU]; omega
theorem aKb {a b c : aN} (h : uN a b = true) (k : uN b c = true) : uN a c = true := by rw [gU] at *; omega
theorem xR {a b : aN} (h : uN a b = false) (k : uN b a = false) : a = b := by
 rw [← Bool.not_eq_true, gU] at h k; rw [fQ]; omega
theorem bLl {a b c : aN} (h : uN b a = false) (k : uN b c = true) : uN a c = true := by
 rw [← Bool.not_eq_true, gU] at h; rw [gU] at *; omega
theorem bMp {a b c : aN} (h : uN a b = true) (k : uN c b = false) : uN a c = true := by
 rw [← Bool.not_eq_true, gU] at k; rw [gU] at *; omega
def Asc (l : List aN) : Prop := l.Pairwise fun a b => uN a b = true
theorem sB : ∀ {l m : List aN}, Asc l → Asc m → (∀ x, x ∈ l ↔ x ∈ m) → l = m
 | [], [], _, _, _ => rfl
 | [], b :: m, _, _, h => absurd ((h b).2 (by simp)) (by simp)
 | a :: l, [], _, _, h => absurd ((h a).1 (by simp)) (by simp)
 | a :: l, b :: m, hl, hm, h => by
  unfold Asc at hl hm
  rw [List.pairwise_cons] at hl hm
  have key : a = b := by
   rcases List.mem_cons.1 ((h a).1 (by simp)) with e | e
   ·exact e
   rcases List.mem_cons.1 ((h b).2 (by simp)) with e' | e'
   ·exact e'.symm
   have := aKb (hl.1 b e') (hm.1 a e)
   rw [xK] at this; cases this
  subst key
  rw [sB hl.2 hm.2 fun x => ?_]
  constructor
  ·intro hx
   rcases List.mem_cons.1 ((h x).1 (by simp [hx])) with e | e
   ·subst e; have := hl.1 x hx; rw [xK] at this; cases this
   exact e
  intro hx
  rcases List.mem_cons.1 ((h x).2 (by simp [hx])) with e | e
  ·subst e; have := hm.1 x hx; rw [xK] at this; cases this
  exact e
theorem aSf {l : List aN} {x : aN} (h : Asc l) (hx : ∀ y ∈ l, uN y x = true) : Asc (l ++ [x]) := by
 unfold Asc at *
 rw [List.pairwise_append]
 exact ⟨h, List.pairwise_singleton _ _, fun a ha b hb => by rw [List.mem_singleton.1 hb]; exact hx a ha⟩
abbrev wL (l : List aN) (i : Nat) : aN := l.getD i default
def ddS (s : List aN) : Nat → List aN
 | 0 => []
 | n + 1 => ddS s n ++ if n = 0 ∨ wL s n ≠ wL s (n - 1) then [wL s n] else []
theorem aFh (s : List aN) : ∀ n, (ddS s n).length ≤ n
 | 0 => Nat.le_refl _
 | n + 1 => by
  unfold ddS
  have := aFh s n
  rw [List.length_append]
  split <;> simp <;> omega
theorem aFb {s : List aN} : ∀ n x, x ∈ ddS s n ↔ ∃ k, k < n ∧ wL s k = x
 | 0, x => by simp [ddS]
 | n + 1, x => by
  unfold ddS
  rw [List.mem_append, aFb n x]
  constructor
  ·rintro (⟨k, hk, rfl⟩ | h)
   ·exact ⟨k, by omega, rfl⟩
   split at h
   ·exact ⟨n, by omega, (List.mem_singleton.1 h).symm⟩
   cases h
  rintro ⟨k, hk, rfl⟩
  rcases Nat.lt_or_eq_of_le (Nat.le_of_lt_succ hk) with q | q
  ·exact .inl ⟨k, q, rfl⟩
  subst q
  by_cases hc : k = 0 ∨ wL s k ≠ wL s (k - 1)
  ·rw [if_pos hc]; exact .inr (by simp)
  simp only [not_or, Classical.not_not] at hc
  exact .inl ⟨k - 1, by omega, hc.2.symm⟩
theorem aDo {s : List aN} (hs : ∀ i j, i < j → j < s.length → uN (wL s j) (wL s i) = false) : ∀ n, n ≤ s.length → Asc (ddS s n)
 | 0, _ => List.Pairwise.nil
 | n + 1, h => by
  unfold ddS
  split
  ·rename_i hc
   refine aSf (aDo hs n (by omega)) fun y hy => ?_
   obtain ⟨k, hk, rfl⟩ := (aFb n y).1 hy
   have hne : wL s n ≠ wL s (n - 1) := by rcases hc with h | h; omega; exact h
   have h1 : uN (wL s (n - 1)) (wL s n) = true := by
    cases hq : uN (wL s (n - 1)) (wL s n) with
    | true => rfl
    | false => exact absurd (xR (hs (n - 1) n (by omega) (by omega)) hq) hne
   rcases Nat.lt_or_eq_of_le (show k ≤ n - 1 by omega) with q | q
   ·exact bLl (hs k (n - 1) q (by omega)) h1
   rw [q]; exact h1
  rw [List.append_nil]; exact aDo hs n (by omega)
def mK (l : List aN) : List aN := l.mergeSort fun x y => !uN y x
theorem jT (l : List aN) : (mK l).length = l.length := List.length_mergeSort l
theorem bBh (l : List aN) : ∀ i j, i < j → j < (mK l).length → uN (wL (mK l) j) (wL (mK l) i) = false := by
 have h := List.pairwise_mergeSort (le := fun x y => !uN y x) (fun a b c h k => by
  simp only [Bool.not_eq_true'] at *
  cases hq : uN c a with
  | false => rfl
  | true => rw [bMp hq h] at k; cases k) (fun a b => by
  simp only [Bool.or_eq_true, Bool.not_eq_true']
  cases hq : uN b a with
  | false => exact .inl rfl
  | true =>
   right
   rw [← Bool.not_eq_true, gU]
   rw [gU] at hq; omega) l
 intro i j hij hj
 have := List.pairwise_iff_getElem.1 h i j (by show i < (mK l).length; omega) hj hij
 simp only [Bool.not_eq_true'] at this
 simp only [wL, List.getD_eq_getElem?_getD, List.getElem?_eq_getElem hj, List.getElem?_eq_getElem (show i < (mK l).length by omega), Option.getD_some]
 exact this
def dQ (l : List aN) : List aN := ddS (mK l) (mK l).length
theorem tX (l : List aN) : Asc (dQ l) := aDo (bBh l) _ (Nat.le_refl _)
theorem jA (l : List aN) (x : aN) : x ∈ dQ l ↔ x ∈ l := by
 unfold dQ
 rw [aFb, show x ∈ l ↔ x ∈ mK l from List.mem_mergeSort.symm]
 rw [List.mem_iff_getElem]
 constructor
 ·rintro ⟨k, hk, rfl⟩; exact ⟨k, hk, by simp [wL, List.getD_eq_getElem?_getD, hk]⟩
 rintro ⟨k, hk, rfl⟩; exact ⟨k, hk, by simp [wL, List.getD_eq_getElem?_getD, hk]⟩
end Go.Sg
namespace Go.Sg
open Go.Proofs
def gJ (r : a8) : List aN := r.fPoints ++ r.fOverPoints ++ r.fFlank
section
attribute [local go_sem] List.take_length
end
end Go.Sg
namespace Go.Sg
open Go.RowKit Go.Proofs Go.Sort
theorem aLb {w w' : World} (h1 : w'.os = w.os) (h2 : w'.tape = w.tape) (h3 : w'.output = w.output) (h4 : w.heap.size ≤ w'.heap.size) (h5 : w.drawn ≤ w'.drawn) (h6 : ∀ g, g < w.heap.size → w'.heap[g]? = w.heap[g]?) :
  ∃ q os, w' = Sort.grow (w.drewN q) os := by
 refine ⟨w'.drawn - w.drawn, w'.heap.extract w.heap.size w'.heap.size, ?_⟩
 have hh : w'.heap = w.heap ++ w'.heap.extract w.heap.size w'.heap.size := by
  apply Array.ext_getElem?
  intro i
  rw [Array.getElem?_append]
  split
  ·rename_i h; exact h6 i h
  rename_i h
  rw [Array.getElem?_extract]
  split
  ·congr 1; omega
  rw [Array.getElem?_eq_none (by omega)]
 have hd : w.drawn + (w'.drawn - w.drawn) = w'.drawn := by omega
 cases w'
 cases w
 simp only [World.drewN, Sort.grow] at *
 subst h1; subst h2; subst h3
 rw [hd, ← hh]
theorem aQv {P : Program} {α : Type} [Inhabited α] {enc : α → List Value} {k g blk size : Nat} {cf : α → α → Int} {w : World} {I : Nat → Prop} (hi : Imm w I) (hb : ¬ I blk)
  (h1 : ∀ x, ∀ v ∈ enc x, v.oneCell' = true)
  (hC : ∀ x y : α, aY P (fun _ => .any) g [.agg ((enc x).map .v), .agg ((enc y).map .v)] (.v (.int .i64 (cf x y)))) : CmpLays P g #[] enc k cf blk 0 size w := by
 intro m os dk hs x y
 have hsz : w.heap.size ≤ (sortWorldK enc k w blk 0 m dk os).heap.size := by
  show w.heap.size ≤ (w.heap.modify blk _ ++ os).size
  simp
 have hheap : ∀ g', g' < w.heap.size → g' ≠ blk → (sortWorldK enc k w blk 0 m dk os).heap[g']? = w.heap[g']? := fun g' hg hne => by
  show (w.heap.modify blk _ ++ os)[g']? = _
  rw [Array.getElem?_append_left (by simpa using hg), Array.getElem?_modify, if_neg (Ne.symm hne)]
 have hO : gK (sortWorldK enc k w blk 0 m dk os) I cU (fun _ => .any) := by
  refine ⟨fun _ => trivial, fun s t g c c' h => absurd h (by simp), fun s g c h => absurd h (by simp), ⟨fun g' hg => Nat.lt_of_lt_of_le (hi g' hg) hsz, fun g' us e hg => ?_⟩⟩
  obtain ⟨k1, k2⟩ := hi.glob g' us e hg
  exact ⟨k1, (hheap g' (hi g' k1) fun e => hb (e ▸ k1)).trans k2⟩
 have hrel : ∀ z : α, bH (sortWorldK enc k w blk 0 m dk os) I cU (.agg ((enc z).map .v)) (.agg (enc z).toArray) := fun z => by
  refine .agg _ _ _ (by simp) (fun u hu => h1 z u (by simpa using hu)) fun j d u hd hu => ?_
  rw [List.getElem?_map, Option.map_eq_some_iff] at hd
  obtain ⟨v, hv, rfl⟩ := hd
  have : u = v := by simpa [hv] using hu.symm
  subst this
  exact .v _ _
 refine (hC x y _ I cU #[.agg (enc x).toArray, .agg (enc y).toArray] hO rfl (fun j d u hd hu => ?_)).mono fun e w' ⟨v, I', O', r, q1, q2, q3, q4, q5, q6, q7, q8⟩ => ?_
 ·match j with
  | 0 => simp at hd hu; subst hd; subst hu; exact hrel x
  | 1 => simp at hd hu; subst hd; subst hu; exact hrel y
  | j + 2 => simp at hd
 subst q8
 have q6 : bH w' I' cU (.v (.int .i64 (cf x y))) v := q6
 cases q6
 exact ⟨q1, aLb q5.os q5.tape.1 q5.output q5.size q5.tape.2 fun g' hg => (q5.old g' hg fun s c h => by cases h).1⟩
theorem aHx {F c : Array Value} {t : Nat} (hi : t < F.size) (hc : t < c.size) : (Sort.putCells id 0 F c)[t]? = some F[t]! := by
 unfold Sort.putCells
 rw [Array.getElem?_mapIdx, Array.getElem?_eq_getElem hc, Option.map_some, if_pos ⟨Nat.zero_le _, by simpa using hi⟩]
 simp
theorem aFw {α : Type} [Inhabited α] {enc : α → List Value} {k : Nat} {w : World} {g : Nat} {us : Array Value} {e : TypeId} (h : w.heap[g]? = some (.cells us e (0, 0))) (n : Nat) (d : Array α) (os : Array Obj) :
  aEp w (sortWorldK enc k w g 0 n d os) g e (Sort.putCells id 0 (flatK enc k d) us) := by
 have hg : g < w.heap.size := (Array.getElem?_eq_some_iff.1 h).1
 have hsz : (w.heap.modify g (Sort.onCells (Sort.putCells id 0 (flatK enc k d)))).size = w.heap.size := by simp
 have hh : ∀ q, q < w.heap.size → (sortWorldK enc k w g 0 n d os).heap[q]? = (w.heap.modify g (Sort.onCells (Sort.putCells id 0 (flatK enc k d))))[q]? := fun q hq => by
  show (w.heap.modify g (Sort.onCells (Sort.putCells id 0 (flatK enc k d))) ++ os)[q]? = _
  rw [Array.getElem?_append_left (by rw [hsz]; exact hq)]
 refine ⟨rfl, ⟨rfl, Nat.le_add_right _ _⟩, rfl, ?_, ?_, fun q hq hne => ?_⟩
 ·show w.heap.size ≤ (w.heap.modify g _ ++ os).size
  simp
 ·rw [hh g hg, Array.getElem?_modify, if_pos rfl, h]; rfl
 rw [hh q hq, Array.getElem?_modify, if_neg (Ne.symm hne)]
theorem pI {P : Program} {f g : FuncId} {O : aS} {s : Nat} {e : TypeId} {z : Nat} {α : Type} [Inhabited α] {en : α → List DV} {enc : α → List Value} {l l' : List α} {cf : α → α → Int}
  (hen : ∀ x, en x = (enc x).map .v) (hk : ∀ x, (enc x).length = z) (hz : 0 < z) (h1 : ∀ x, ∀ v ∈ enc x, v.oneCell' = true) (hs : O s = rowL e z en l) (hlen : l'.length = l.length)
  (H0 : l = [] → ∀ b c w, Calls P f #[.slice b 0 c, .func (.func g) #[] #[]] w fun x w' => x = .returned (.tuple #[]) ∧ w' = w)
  (H : ∀ w blk c, HoldsK enc z w blk 0 l.toArray → blk < w.heap.size → CmpLays P g #[] enc z cf blk 0 l.length w → Calls P f #[.slice (some ⟨blk, 0, none⟩) l.length c, .func (.func g) #[] #[]] w fun x w' =>
   x = .returned (.tuple #[]) ∧ ∃ n os, w' = sortWorldK enc z w blk 0 n l'.toArray os)
  (hC : ∀ x y : α, aY P (fun _ => .any) g [.agg ((enc x).map .v), .agg ((enc y).map .v)] (.v (.int .i64 (cf x y)))) :
  iC P O f [.own s l.length, .fn g [] []] fun O' x => O' = set O s (rowL e z en l') ∧ x = .tup [] := by
 intro w I A vals hO hl hv
 obtain ⟨x, y, rfl⟩ : ∃ x y, vals = #[x, y] := by
  rcases vals with ⟨_ | ⟨x, _ | ⟨y, _ | ⟨q, ys⟩⟩⟩⟩
  ·simp at hl
  ·simp at hl
  ·exact ⟨x, y, rfl⟩
  simp at hl
 have hx := hv 0 _ x rfl rfl
 have hy := hv 1 _ y rfl rfl
 obtain rfl : y = .func (.func g) #[] #[] := by
  cases hy with
  | fn _ _ _ _ us vs hf hc _ _ =>
   obtain rfl : us = #[] := by apply Array.eq_empty_of_size_eq_zero; simpa using hf.symm
   obtain rfl : vs = #[] := by apply Array.eq_empty_of_size_eq_zero; simpa using hc.symm
   rfl
 have hfr : ∀ t, dW (O t) (set O s (rowL e z en l') t) := fun t => by
  rw [aO]; split
  ·rename_i h; subst h; rw [hs]; exact ⟨rfl, rfl, by simp [hlen]⟩
  exact dW.refl _
 have hout : ∀ t, cM (O t) → cM (set O s (rowL e z en l') t) := fun t ht => by
  rw [aO]; split
  ·rfl
  exact ht
 have hres : ∀ w' I', lD w w' I' A (.tup []) (.tuple #[]) := fun w' I' => bH.tup A [] #[] rfl (by simp)
 cases hx with
 | own _ _ _ B c b hA hb =>
  have ho := hO.own s
  rw [hs] at ho
  obtain ⟨B', c', q1, q2⟩ := ho
  rw [hA] at q1
  simp only [Option.some.injEq, Prod.mk.injEq] at q1
  obtain ⟨rfl, rfl⟩ := q1
  rcases Nat.eq_zero_or_pos l.length with h0 | h0
  ·obtain rfl : l = [] := List.eq_nil_of_length_eq_zero h0
   obtain rfl : l' = [] := List.eq_nil_of_length_eq_zero (by simpa using hlen)
   refine (H0 rfl _ _ w).mono fun _ w' ⟨k1, k2⟩ => ?_
   subst k2
   refine ⟨_, I, set O s (rowL e z en []), _, k1, ⟨fun t => ?_, hO.inj, hO.sep, hO.imm⟩, hfr, hout, eA.refl _ _ _, hres _ _, rfl, rfl⟩
   rw [aO]; split
   ·rename_i h; subst h; have := hO.own t; rw [hs] at this; exact this
   exact hO.own t
  cases B with
  | none =>
   have := q2.1
   have : (l.map en).length = 0 := by rw [this]; rfl
   simp at this; subst this; simp at h0
  | some gb =>
   obtain rfl := fL hb
   obtain ⟨us, p1, p2, p3, p4, p5⟩ := q2
   have p4 : l.length ≤ c := by simpa using p4
   have hgl : ∀ (m : List α) (i : Nat), i < m.length → m.toArray[i]! = m.getD i default := fun m i hi => by
    rw [getElem!_pos m.toArray i (by simpa using hi)]; simp [List.getD_eq_getElem?_getD, List.getElem?_eq_getElem hi]
   have hdm : ∀ t, t < l.length * z → t / z < l.length ∧ t % z < z := fun t ht => ⟨Nat.div_lt_of_lt_mul (by rwa [Nat.mul_comm] at ht), Nat.mod_lt _ hz⟩
   have hcz : l.length * z ≤ c * z := Nat.mul_le_mul_right _ p4
   have hcont : ∀ t, t < l.length * z → us[t]? = some (enc (l.getD (t / z) default))[t % z]! := fun t ht => by
    obtain ⟨d1, d2⟩ := hdm t ht
    have e1 : (l.map en)[t / z]? = some (en (l.getD (t / z) default)) := by simp [List.getElem?_eq_getElem d1]
    have e2 : (en (l.getD (t / z) default))[t % z]? = some (.v (enc (l.getD (t / z) default))[t % z]!) := by
     rw [hen, List.getElem?_map, List.getElem?_eq_getElem (by rw [hk]; exact d2), Option.map_some, getElem!_pos _ _ (by rw [hk]; exact d2)]
    have hb' : t / z * z + t % z < us.size := by rw [Nat.mul_comm, Nat.div_add_mod]; omega
    have := ((p5 _ _ e1).2 _ _ _ e2 (Array.getElem?_eq_getElem hb')).2
    have e3 : us[t]? = some (us[t / z * z + t % z]'hb') := by rw [← Array.getElem?_eq_getElem hb']; congr 1; rw [Nat.mul_comm, Nat.div_add_mod]
    rw [e3]
    generalize us[t / z * z + t % z]'hb' = u at this
    cases this; rfl
   have hholds : HoldsK enc z w gb 0 l.toArray := fun t ht => by
    have ht : t < l.length * z := by simpa using ht
    obtain ⟨k1, k2⟩ := aBl p1 (0 + t)
    refine ⟨?_, k2⟩
    rw [k1, Nat.zero_add, hcont t ht]
    show _ = some ((flatK enc z l.toArray)[t]!)
    rw [get_flatK _ _ _ _ (by simpa using ht), hgl l _ (hdm t ht).1]
   obtain ⟨hgs, hgI⟩ := hO.sep s gb c hA
   refine (H w gb c hholds hgs (aQv hO.imm hgI h1 hC)).mono fun _ w' ⟨k1, n, os, k2⟩ => ?_
   have kt : aEp w w' gb e _ := k2 ▸ aFw p1 n l'.toArray os
   have hrel : ∀ (B : cO) d v, bH w I B d v → bH w' I B d v := fun B d v hr => hr.mono fun k hkI => ⟨hkI, fun o => cY (kt.other k (hO.imm k hkI) fun e => hgI (e ▸ hkI)) o⟩
   refine ⟨_, I, set O s (rowL e z en l'), _, k1, ⟨fun t => ?_, hO.inj, fun t k c' h => ⟨Nat.lt_of_lt_of_le (hO.sep t k c' h).1 kt.size, (hO.sep t k c' h).2⟩, hO.imm.step (fun k hkI => Nat.lt_of_lt_of_le (hO.imm k hkI) kt.size) fun k hkI => ⟨hkI, kt.other k (hO.imm k hkI) fun e => hgI (e ▸ hkI)⟩⟩, hfr, hout,
    ⟨kt.os, kt.tape, kt.output, kt.size, fun _ h => h, fun k hk h => ⟨kt.other k hk fun e => h s c (e ▸ hA), fun h => h, h⟩, fun t k c' h _ ht => ⟨t, c', ht, h⟩, fun _ _ => rfl⟩, hres _ _, rfl, rfl⟩
   rw [aO]; split
   ·rename_i h; subst h
    refine ⟨some gb, c, hA, _, kt.here, by simpa [Sort.putCells] using p2, p3, by simpa [hlen] using p4, fun i x hx => ?_⟩
    rw [List.getElem?_map, Option.map_eq_some_iff] at hx
    obtain ⟨a, ha, rfl⟩ := hx
    have hlt : i < l'.length := (List.getElem?_eq_some_iff.1 ha).1
    refine ⟨by rw [hen, List.length_map, hk], fun j d u hd hu => ?_⟩
    rw [hen, List.getElem?_map, Option.map_eq_some_iff] at hd
    obtain ⟨v, hv', rfl⟩ := hd
    have hj : j < z := by
     rw [← hk a]
     exact (List.getElem?_eq_some_iff.1 hv').1
    have hb2 : i * z + j < l'.length * z := by
     have := Nat.mul_le_mul_right z (show i + 1 ≤ l'.length by omega)
     rw [Nat.succ_mul] at this; omega
    have hdv : (i * z + j) / z = i := by rw [Nat.mul_comm, Nat.mul_add_div hz, Nat.div_eq_of_lt hj, Nat.add_zero]
    have hmd : (i * z + j) % z = j := by rw [Nat.mul_comm, Nat.mul_add_mod, Nat.mod_eq_of_lt hj]
    rw [aHx (by simpa using hb2) (by rw [p2]; rw [hlen] at hb2; omega), get_flatK _ _ _ _ (by simpa using hb2), hdv, hmd, hgl l' i hlt] at hu
    have ea : l'.getD i default = a := by rw [List.getD_eq_getElem?_getD, ha]; rfl
    rw [ea] at hu
    have hjl : j < (enc a).length := (List.getElem?_eq_some_iff.1 hv').1
    rw [getElem!_pos (enc a) j hjl] at hu
    have : u = v := by
     have h2 := (List.getElem?_eq_some_iff.1 hv').2
     simp only [Option.some.injEq] at hu
     rw [← hu, ← h2]
    subst this
    exact ⟨h1 a u (List.mem_of_getElem? hv'), .v _ _⟩
   rename_i hne
   refine (hO.own t).keep (fun k c' h => kt.other k (hO.sep t k c' h).1 fun e => hne (hO.inj t s gb c' c (e ▸ h) hA)) hrel
end Go.Sg
