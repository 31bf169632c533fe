/- Several texts as one. -/
import Derived.Test.YtnpokifaejcbeaaGreatDoorF11
set_option linter.unusedSectionVars false
set_option linter.unusedVariables false
set_option linter.unusedSimpArgs false
set_option maxRecDepth 20000
namespace Go.Sg
open Go.Proofs
def mk (l : List Int) : List Int := Lib.compact (srt l)
theorem mkI (l : List Int) : (Lib.compact (srt l)).length ≤ l.length := by
 have := Lib.compact_length_le (srt l); simpa using this
abbrev SS (l : List Int) : Prop := l.Pairwise (· < ·)
theorem aKq : ∀ {a b : List Int}, SS a → SS b → (∀ x, x ∈ a ↔ x ∈ b) → a = b
 | [], [], _, _, _ => rfl
 | [], y :: b, _, _, h => by have := (h y).2 (by simp); simp at this
 | x :: a, [], _, _, h => by have := (h x).1 (by simp); simp at this
 | x :: a, y :: b, ha, hb, h => by
  rw [SS, List.pairwise_cons] at ha hb
  have hxy : x = y := by
   have h1 := (h x).1 (by simp)
   have h2 := (h y).2 (by simp)
   rcases List.mem_cons.1 h1 with e | e
   ·exact e
   rcases List.mem_cons.1 h2 with e2 | e2
   ·exact e2.symm
   have := ha.1 y e2; have := hb.1 x e; omega
  subst hxy
  rw [aKq ha.2 hb.2 fun z => by
   constructor
   ·intro hz
    have := (h z).1 (by simp [hz])
    rcases List.mem_cons.1 this with e | e
    ·subst e; exact absurd (ha.1 z hz) (Int.lt_irrefl _)
    exact e
   intro hz
   have := (h z).2 (by simp [hz])
   rcases List.mem_cons.1 this with e | e
   ·subst e; exact absurd (hb.1 z hz) (Int.lt_irrefl _)
   exact e]
theorem zJ (x : Int) : ∀ (s : List Int) (y : Int), y ∈ aBc x s ↔ y = x ∨ y ∈ s
 | [], y => by simp [aBc]
 | z :: s, y => by
  unfold aBc; split
  ·simp
  simp [zJ x s y, or_left_comm]
theorem aLu (x : Int) : ∀ (s : List Int), SS s → x ∉ s → SS (aBc x s)
 | [], _, _ => by simp [aBc, SS]
 | z :: s, h, hn => by
  rw [SS, List.pairwise_cons] at h
  unfold aBc; split
  ·rename_i hlt
   refine List.pairwise_cons.2 ⟨fun y hy => ?_, List.pairwise_cons.2 h⟩
   rcases List.mem_cons.1 hy with e | e
   ·rw [e]; exact hlt
   exact Int.lt_trans hlt (h.1 y e)
  rename_i hlt
  refine List.pairwise_cons.2 ⟨fun y hy => ?_, aLu x s h.2 fun hx => hn (by simp [hx])⟩
  rcases (zJ x s y).1 hy with e | e
  ·have : z ≠ x := fun e2 => hn (by simp [e2])
   omega
  exact h.1 y e
theorem aTm (s : List Int) (x y : Int) : y ∈ uU s x ↔ y = x ∨ y ∈ s := by
 unfold uU; split
 ·rename_i h
  have h : x ∈ s := by simpa using h
  constructor
  ·exact .inr
  rintro (e | e)
  ·rw [e]; exact h
  exact e
 exact zJ x s y
theorem bAp (s : List Int) (x : Int) (h : SS s) : SS (uU s x) := by
 unfold uU; split
 ·exact h
 rename_i hn; exact aLu x s h (by simpa using hn)
theorem aIe : ∀ (l s : List Int) (y : Int), y ∈ l.foldl uU s ↔ y ∈ s ∨ y ∈ l
 | [], s, y => by simp
 | x :: l, s, y => by rw [List.foldl_cons, aIe l _ y, aTm, List.mem_cons, or_comm (a := y = x), or_assoc]
theorem aNs : ∀ (l s : List Int), SS s → SS (l.foldl uU s)
 | [], _, h => h
 | x :: l, s, h => aNs l _ (bAp s x h)
theorem aMu (l : List Int) (y : Int) : y ∈ mkR l ↔ y ∈ l := by unfold mkR; rw [aIe]; simp
theorem aKd (l : List Int) : SS (mkR l) := aNs l [] .nil
theorem aKt (l : List Int) : (srt l).Pairwise (· ≤ ·) := by
 have := List.pairwise_mergeSort (le := fun x y : Int => decide (x ≤ y)) (fun a b c h1 h2 => by simp at *; omega) (fun a b => by simp; omega) l
 exact this.imp fun h => by simpa using h
theorem bBb (l : List Int) (y : Int) : y ∈ srt l ↔ y ∈ l := by unfold srt; simp
theorem mX (s : List Int) (j : Nat) (hj : j < s.length) : Lib.keeps s.toArray j = (j == 0 || s.getD j 0 != s.getD (j - 1) 0) := by
 unfold Lib.keeps
 have h1 : s.toArray[j]! = s.getD j 0 := by simp [List.getD_eq_getElem?_getD, List.getElem?_eq_getElem hj, getElem!_pos, hj]
 have h2 : s.toArray[j - 1]! = s.getD (j - 1) 0 := by
  have : j - 1 < s.length := by omega
  simp [List.getD_eq_getElem?_getD, List.getElem?_eq_getElem this, getElem!_pos, this]
 rw [h1, h2]
 rcases Nat.eq_zero_or_pos j with e | e
 ·simp [e]
 have h0 : (j == 0) = false := by simp; omega
 rw [h0, Bool.false_or]
 by_cases h : s.getD j 0 = s.getD (j - 1) 0 <;> simp [h, show j ≠ 0 by omega, bne] <;> simp_all
theorem zG {s : List Int} (h : s.Pairwise (· ≤ ·)) {i j : Nat} (hij : i ≤ j) (hj : j < s.length) : s.getD i 0 ≤ s.getD j 0 := by
 rcases Nat.lt_or_eq_of_le hij with h1 | h1
 ·rw [List.pairwise_iff_getElem] at h
  have := h i j (by omega) hj h1
  rwa [List.getD_eq_getElem?_getD, List.getElem?_eq_getElem (show i < s.length by omega), List.getD_eq_getElem?_getD, List.getElem?_eq_getElem hj]
 subst h1; exact Int.le_refl _
theorem y1 (s : List Int) : Lib.compact s = ((List.range s.length).filter (Lib.keeps s.toArray)).map fun j => s.getD j 0 := by
 unfold Lib.compact Lib.compactUpTo
 apply List.map_congr_left
 intro j hj
 have hj : j < s.length := by simpa using (List.mem_filter.1 hj).1
 simp [List.getD_eq_getElem?_getD, List.getElem?_eq_getElem hj, getElem!_pos, hj]
theorem aJv (s : List Int) (hs : s.Pairwise (· ≤ ·)) : SS (Lib.compact s) := by
 rw [y1, SS, List.pairwise_map, List.pairwise_filter]
 refine (List.pairwise_lt_range (n := s.length)).imp_of_mem ?_
 intro i j hi hj hlt ki kj
 have hj : j < s.length := by simpa using hj
 rw [mX s j hj] at kj
 have h1 := zG hs (show i ≤ j - 1 by omega) (show j - 1 < s.length by omega)
 have h2 := zG hs (show j - 1 ≤ j by omega) hj
 simp [show j ≠ 0 by omega] at kj
 simp only [List.getD_eq_getElem?_getD] at *
 omega
theorem aIo (s : List Int) (y : Int) : y ∈ Lib.compact s ↔ y ∈ s := by
 rw [y1]
 constructor
 ·intro h
  obtain ⟨j, hj, rfl⟩ := List.mem_map.1 h
  have hj : j < s.length := by simpa using (List.mem_filter.1 hj).1
  rw [List.getD_eq_getElem?_getD, List.getElem?_eq_getElem hj]
  exact List.getElem_mem hj
 intro h
 have key : ∀ j, j < s.length → s.getD j 0 = y → ∃ i, i < s.length ∧ s.getD i 0 = y ∧ Lib.keeps s.toArray i = true := by
  intro j
  induction j with
  | zero => intro hj e; exact ⟨0, hj, e, by rw [mX s 0 hj]; rfl⟩
  | succ j ih =>
   intro hj e
   cases hk : Lib.keeps s.toArray (j + 1) with
   | true => exact ⟨j + 1, hj, e, hk⟩
   | false =>
    rw [mX s (j + 1) hj] at hk
    have : s.getD (j + 1) 0 = s.getD j 0 := by
     simp only [Bool.or_eq_false_iff, bne_eq_false_iff_eq, Nat.add_sub_cancel] at hk
     exact hk.2
    exact ih (by omega) (this ▸ e)
 obtain ⟨j, hj, e⟩ := List.getElem_of_mem h
 obtain ⟨i, hi, e2, hk⟩ := key j hj (by rw [List.getD_eq_getElem?_getD, List.getElem?_eq_getElem hj]; exact e)
 exact List.mem_map.2 ⟨i, List.mem_filter.2 ⟨by simpa using hi, hk⟩, e2⟩
theorem bOi (l : List Int) : SS (mk l) := aJv _ (aKt l)
theorem bNg (l : List Int) (y : Int) : y ∈ mk l ↔ y ∈ l := by unfold mk; rw [aIo, bBb]
theorem bDr (s : List Int) (h : SS s) : mkR s = s := aKq (aKd s) h fun x => aMu s x
theorem aZz (G : List Int) (g : Int) : [g].foldl uU (mkR (mkR G)) = mkR (G ++ [g]) := by
 rw [bDr _ (aKd G)]
 unfold mkR; rw [List.foldl_append]
theorem aMh (j : gV) (L : List gV) : eQ (j :: L) = j.fA :: j.fB :: eQ L := rfl
theorem mD : ∀ {L : List gV} {e f : cG}, dM L e = (f, true) → e ∈ eQ L ∧ f ∈ eQ L
 | [], e, f, h => by unfold dM at h; cases h
 | j :: L, e, f, h => by
  rw [aMh]
  unfold dM at h
  split at h
  ·rename_i hA; injection h with h1; subst hA; subst h1; simp
  split at h
  ·rename_i hB; injection h with h1; subst hB; subst h1; simp
  have := mD h; simp [this.1, this.2]
theorem uR : ∀ {L : List gV} {e e' f : cG}, (eQ L).Nodup → dM L e = (f, true) → dM L e' = (f, true) → e = e'
 | [], e, e', f, _, h, _ => by unfold dM at h; cases h
 | j :: L, e, e', f, hn, h, h' => by
  rw [aMh, List.nodup_cons, List.nodup_cons] at hn
  obtain ⟨n1, n2, n3⟩ := hn
  have nA : j.fA ∉ eQ L := fun hm => n1 (by simp [hm])
  have nAB : j.fA ≠ j.fB := fun hm => n1 (by simp [hm])
  have hc : ∀ x, dM (j :: L) x = (f, true) → (j.fA = x ∧ j.fB = f) ∨ (j.fB = x ∧ j.fA = f) ∨ dM L x = (f, true) := fun x hx => by
   unfold dM at hx
   split at hx
   ·rename_i hA; injection hx with h1; exact .inl ⟨hA, h1⟩
   split at hx
   ·rename_i hB; injection hx with h1; exact .inr (.inl ⟨hB, h1⟩)
   exact .inr (.inr hx)
  rcases hc e h with ⟨a1, a2⟩ | ⟨a1, a2⟩ | a <;> rcases hc e' h' with ⟨b1, b2⟩ | ⟨b1, b2⟩ | b
  ·exact a1.symm.trans b1
  ·exact absurd (b2.trans a2.symm) nAB
  ·exact absurd (a2 ▸ (mD b).2) n2
  ·exact absurd (a2.trans b2.symm) nAB
  ·exact a1.symm.trans b1
  ·exact absurd (a2 ▸ (mD b).2) nA
  ·exact absurd (b2 ▸ (mD a).2) n2
  ·exact absurd (b2 ▸ (mD a).2) nA
  exact uR n3 a b
abbrev joE (l : aB) (e : cG) : cG := (aI l e).1
abbrev knE (l : aB) (e : cG) : Int := (e5 l e.fEl.toNat).fKind
def inR (r : a8) (x : Int) : Bool := eT r.fPath x || eT r.fOver x
def dsG (l : aB) (r : a8) : Nat → cG → Option cG
 | 0, _ => none
 | n + 1, e => if (aI l e).2 = false then none else if 0 ≤ iU l (aI l e).1 then some (aI l e).1 else if (eT r.fPath (aI l e).1.fEl || eT r.fOver (aI l e).1.fEl) = true then none
  else if (aI l e).1.fEl < 0 ∨ (l.fElements.length : Int) ≤ (aI l e).1.fEl then none else if (e5 l (aI l e).1.fEl.toNat).fKind = 2 then some (aI l e).1
  else if (cV (e5 l (aI l e).1.fEl.toNat).fKind (aI l e).1.fSide).length = 0 then none else dsG l r n ⟨(aI l e).1.fEl, (cV (e5 l (aI l e).1.fEl.toNat).fKind (aI l e).1.fSide).getD 0 default⟩
def Nx (l : aB) (r : a8) (d x : cG) : Prop := (aI l d).2 = true ∧ inR r (joE l d).fEl = false ∧ knE l (joE l d) ≠ 2 ∧ x = ⟨(joE l d).fEl, (cV (knE l (joE l d)) (joE l d).fSide).getD 0 default⟩
inductive Nxs (l : aB) (r : a8) : Nat → cG → cG → Prop
 | nil (e : cG) : Nxs l r 0 e e
 | snoc {k : Nat} {e d x : cG} (h : Nxs l r k e d) (n : Nx l r d x) : Nxs l r (k + 1) e x
theorem Nxs.cons {l : aB} {r : a8} {e d : cG} (n : Nx l r e d) : ∀ {k : Nat} {x : cG}, Nxs l r k d x → Nxs l r (k + 1) e x
 | _, _, .nil _ => .snoc (.nil _) n
 | _, _, .snoc h m => .snoc (Nxs.cons n h) m
theorem y2 {l : aB} {r : a8} : ∀ {n : Nat} {e f : cG}, dsG l r n e = some f → ∃ k d, Nxs l r k e d ∧ aI l d = (f, true)
 | 0, e, f, h => by cases h
 | n + 1, e, f, h => by
  unfold dsG at h
  split at h
  ·cases h
  rename_i h1
  have h1 : (aI l e).2 = true := by simpa using h1
  split at h
  ·injection h with h; exact ⟨0, e, .nil _, Prod.ext h h1⟩
  split at h
  ·cases h
  rename_i h3
  split at h
  ·cases h
  split at h
  ·injection h with h; exact ⟨0, e, .nil _, Prod.ext h h1⟩
  rename_i h5
  split at h
  ·cases h
  obtain ⟨k, d, hk, hd⟩ := y2 h
  exact ⟨k + 1, d, .cons ⟨h1, by unfold inR; simpa using h3, h5, rfl⟩ hk, hd⟩
theorem aTk {k i j : Int} (hk : k = 1 ∨ k = 3) (hi : 0 ≤ i ∧ i < gH k) (hj : 0 ≤ j ∧ j < gH k) (h : (cV k i).getD 0 default = (cV k j).getD 0 default) : i = j := by
 rcases hk with rfl | rfl
 ·have h2 : gH 1 = 2 := rfl
  have : i = 0 ∨ i = 1 := by omega
  have : j = 0 ∨ j = 1 := by omega
  rcases ‹i = 0 ∨ i = 1› with rfl | rfl <;> rcases ‹j = 0 ∨ j = 1› with rfl | rfl <;> first | rfl | exact absurd h (by decide)
 have h2 : gH 3 = 4 := rfl
 have hi' : i = 0 ∨ i = 1 ∨ i = 2 ∨ i = 3 := by omega
 have hj' : j = 0 ∨ j = 1 ∨ j = 2 ∨ j = 3 := by omega
 rcases hi' with rfl | rfl | rfl | rfl <;> rcases hj' with rfl | rfl | rfl | rfl <;> first | rfl | exact absurd h (by decide)
section
variable {l : aB} {r : a8} (hv : Vld l) (hJ : (eQ l.fJoints).Nodup)
include hv hJ
theorem bGm {d d' x : cG} (h : Nx l r d x) (h' : Nx l r d' x) : d = d' := by
 obtain ⟨a1, a2, a3, a4⟩ := h
 obtain ⟨b1, b2, b3, b4⟩ := h'
 rw [a4] at b4
 have b5 := (dO _ _).1 b4
 have e1 : (joE l d).fEl = (joE l d').fEl := b5.1
 have e2 : (cV (knE l (joE l d)) (joE l d).fSide).getD 0 default = (cV (knE l (joE l d')) (joE l d').fSide).getD 0 default := b5.2
 have v1 := aEv hv a1
 have v2 := aEv hv b1
 have hk : knE l (joE l d) = knE l (joE l d') := by unfold knE; rw [e1]
 have e3 : (joE l d).fSide = (joE l d').fSide := by
  refine aTk (k := knE l (joE l d)) (by have := v1.2.2.2; have : knE l (joE l d) = (e5 l (aI l d).1.fEl.toNat).fKind := rfl; omega) ⟨v1.2.1, v1.2.2.1⟩ ?_ (by rw [e2, hk])
  rw [hk]; exact ⟨v2.2.1, v2.2.2.1⟩
 have e4 : joE l d = joE l d' := (dO _ _).2 ⟨e1, e3⟩
 exact uR (f := joE l d) hJ (Prod.ext rfl a1) (Prod.ext e4.symm b1)
theorem aHs : ∀ {k k' : Nat} {e e' x : cG}, Nxs l r k e x → Nxs l r k' e' x → (∃ j, Nxs l r j e e') ∨ ∃ j, Nxs l r j e' e
 | _, k', e, e', _, .nil _, h' => .inr ⟨k', h'⟩
 | k + 1, _, e, e', _, .snoc h n, .nil _ => .inl ⟨k + 1, .snoc h n⟩
 | _, _, e, e', _, .snoc h n, .snoc h' n' => by
  have := bGm hv hJ n n'
  subst this
  exact aHs h h'
omit hv hJ in
theorem aVt {j : Nat} {e e' : cG} (h : Nxs l r j e e') (hin : inR r e'.fEl = true) : e = e' := by
 cases h with
 | nil => rfl
 | snoc h n =>
  obtain ⟨_, n2, _, n4⟩ := n
  rw [n4] at hin
  rw [n2] at hin; cases hin
theorem bIy {n : Nat} {e e' f : cG} (h : dsG l r n e = some f) (h' : dsG l r n e' = some f) (hi : inR r e.fEl = true) (hi' : inR r e'.fEl = true) : e = e' := by
 obtain ⟨k, d, c1, c2⟩ := y2 h
 obtain ⟨k', d', c1', c2'⟩ := y2 h'
 have := uR hJ c2 c2'
 subst this
 rcases aHs hv hJ c1 c1' with ⟨j, h⟩ | ⟨j, h⟩
 ·exact aVt h hi'
 exact (aVt h hi).symm
end
def wFG (r : a8) (F : List aN) (G : List Int) (P : List cG) : a8 := ⟨r.fName, r.fEntry, r.fExit, r.fPath, r.fPoints, r.fSections, r.fApproach, r.fLength, r.fOver, r.fOverPoints, r.fOverSections, F, G, P⟩
theorem aGz {l : aB} {r r' : a8} (h1 : r.fPath = r'.fPath) (h2 : r.fOver = r'.fOver) (h3 : ∀ s, ndR r s = ndR r' s) : ∀ (n : Nat) (e : cG), pE l r n e = pE l r' n e
 | 0, _ => rfl
 | n + 1, e => by
  have ha : ∀ f, awS r f = awS r' f := fun f => by unfold awS; rw [h3]
  unfold pE
  rw [h1, h2, ha, aGz h1 h2 h3 n]
theorem yB {r : a8} {f : cG} {s : aN} (h : awS r f = some s) : (f.fSide = 1 ∨ f.fSide = 2) ∧ s = ⟨f.fEl, 3 - f.fSide⟩ ∧ ndR r ⟨f.fEl, f.fSide⟩ = false := by
 unfold awS at h
 split at h
 ·cases h
 rename_i hc
 injection h with h
 have hn : (cT 2 f.fSide 0).2 = true ∧ ndR r ⟨f.fEl, (cT 2 f.fSide 0).1⟩ = false := by
  constructor
  ·cases hx : (cT 2 f.fSide 0).2 with
   | true => rfl
   | false => exact absurd (.inl hx) hc
  cases hx : ndR r ⟨f.fEl, (cT 2 f.fSide 0).1⟩ with
  | false => rfl
  | true => exact absurd (.inr hx) hc
 have h12 : (f.fSide = 1 ∧ cT 2 f.fSide 0 = (1, true)) ∨ (f.fSide = 2 ∧ cT 2 f.fSide 0 = (2, true)) := by
  have := hn.1
  rw [aFx] at this ⊢
  split at this
  ·rename_i hq; left; refine ⟨by omega, ?_⟩; rw [if_pos hq]
  split at this
  ·rename_i hp hq; right; refine ⟨by omega, ?_⟩; rw [if_neg hp, if_pos hq]
  cases this
 rcases h12 with ⟨q1, q2⟩ | ⟨q1, q2⟩
 ·rw [q2] at h hn; refine ⟨.inl q1, ?_, ?_⟩
  ·rw [← h, q1]
  rw [q1]; exact hn.2
 rw [q2] at h hn; refine ⟨.inr q1, ?_, ?_⟩
 ·rw [← h, q1]
 rw [q1]; exact hn.2
theorem aHq {l : aB} {r : a8} : ∀ {n : Nat} {e : cG} {s : aN} {g : Int}, pE l r n e = some (s, g) → (s = St0 ∧ -1 ≤ g) ∨ (g = -1 ∧ ∃ f, dsG l r n e = some f ∧ awS r f = some s)
 | 0, e, s, g, h => by cases h
 | n + 1, e, s, g, h => by
  unfold pE at h
  unfold dsG
  split at h
  ·injection h with h; injection h with h1 h2; exact .inl ⟨h1.symm, by omega⟩
  rename_i h1
  rw [if_neg h1]
  split at h
  ·injection h with h; injection h with h1 h2; exact .inl ⟨h1.symm, by omega⟩
  rename_i h2
  rw [if_neg h2]
  split at h
  ·injection h with h; injection h with h1 h2; exact .inl ⟨h1.symm, by omega⟩
  rename_i h3
  rw [if_neg h3]
  split at h
  ·cases h
  rename_i h4
  rw [if_neg h4]
  split at h
  ·rename_i h5
   rw [if_pos h5]
   rw [Option.map_eq_some_iff] at h
   obtain ⟨s', hs, he⟩ := h
   injection he with e1 e2
   subst e1
   exact .inr ⟨e2.symm, _, rfl, hs⟩
  rename_i h5
  rw [if_neg h5]
  split at h
  ·cases h
  rename_i h6
  rw [if_neg h6]
  exact aHq h
theorem aHl {l : aB} {r r' : a8} (h1 : r.fPath = r'.fPath) (h2 : r.fOver = r'.fOver) : ∀ (n : Nat) (e : cG), dsG l r n e = dsG l r' n e
 | 0, _ => rfl
 | n + 1, e => by
  unfold dsG
  rw [h1, h2, aHl h1 h2 n]
abbrev FS := List aN × List Int × List cG
def vN (l : aB) (r : a8) (st : FS) (e : cG) : aN × Int × Bool := prT (pE l (wFG r st.1 st.2.1 st.2.2) 4 e)
def flA (l : aB) (r : a8) (st : FS) (e : cG) : FS :=
 if (vN l r st e).2.2 = false then (st.1, st.2.1, st.2.2 ++ [e]) else if 0 ≤ (vN l r st e).2.1 then (st.1, st.2.1 ++ [(vN l r st e).2.1], st.2.2) else if (vN l r st e).1 ≠ St0 then (st.1 ++ [(vN l r st e).1], st.2.1, st.2.2) else st
def qC (l : aB) (r : a8) (E : List cG) : FS := E.foldl (flA l r) ([], [], [])
def rfA (l : aB) (r : a8) (st : FS) (e : cG) : FS :=
 (if (vN l r st e).1.fPos ≠ 0 then bBr st.1 (vN l r st e).1 else st.1, if 0 ≤ (vN l r st e).2.1 then [(vN l r st e).2.1].foldl uU (mkR st.2.1) else st.2.1, if (vN l r st e).2.2 = false then st.2.2 ++ [e] else st.2.2)
def rfF (l : aB) (r : a8) (E : List cG) : FS := E.foldl (rfA l r) ([], [], [])
theorem aNb (l : aB) (r : a8) (E : List cG) (e : cG) : qC l r (E ++ [e]) = flA l r (qC l r E) e := by unfold qC; rw [List.foldl_append]; rfl
theorem bOh (l : aB) (r : a8) (E : List cG) (e : cG) : rfF l r (E ++ [e]) = rfA l r (rfF l r E) e := by unfold rfF; rw [List.foldl_append]; rfl
theorem bAl (l : aB) (r : a8) (st : FS) (e : cG) : (flA l r st e).1.length ≤ st.1.length + 1 ∧ (flA l r st e).2.1.length ≤ st.2.1.length + 1 ∧ (flA l r st e).2.2.length ≤ st.2.2.length + 1 := by
 unfold flA
 split
 ·simp
 split
 ·simp
 split <;> simp
theorem aEe (l : aB) (r : a8) (E : List cG) : (qC l r E).1.length ≤ E.length ∧ (qC l r E).2.1.length ≤ E.length ∧ (qC l r E).2.2.length ≤ E.length := by
 have key : ∀ n (E : List cG), E.length = n → (qC l r E).1.length ≤ E.length ∧ (qC l r E).2.1.length ≤ E.length ∧ (qC l r E).2.2.length ≤ E.length := by
  intro n
  induction n with
  | zero => intro E h; rw [List.length_eq_zero_iff.1 h]; simp [qC]
  | succ n ih =>
   intro E h
   obtain ⟨Q, e, rfl⟩ : ∃ Q p, E = Q ++ [p] := ⟨E.dropLast, E.getLast (by intro e; rw [e] at h; cases h), (List.dropLast_concat_getLast _).symm⟩
   have h1 := ih Q (by simpa using h)
   have h2 := bAl l r (qC l r Q) e
   rw [aNb, List.length_append, List.length_singleton]
   omega
 exact key _ E rfl
theorem aYy {F : List aN} {s : aN} (h : ((F ++ [s]).map (·.fEl)).Nodup) : bBr (dQ F) s = dQ (F ++ [s]) := by
 rw [List.map_append, List.nodup_append] at h
 have hne : ∀ y ∈ dQ F, y.fEl ≠ s.fEl := fun y hy e => h.2.2 y.fEl (List.mem_map.2 ⟨y, (jA F y).1 hy, rfl⟩) s.fEl (by simp) e
 have hno : i7 (dQ F) s = false := by
  rw [← Bool.not_eq_true, nC]; intro hm; exact hne s hm rfl
 have ha := tX F
 refine sB ?_ (tX _) fun x => ?_
 ·unfold bBr
  rw [if_neg (by rw [hno]; simp)]
  have hp : Asc ((dQ F).take (kP (dQ F) s) ++ (dQ F).drop (kP (dQ F) s)) := by rw [List.take_append_drop]; exact ha
  unfold Asc at hp ⊢
  rw [List.pairwise_append] at hp
  have hlo : ∀ y ∈ (dQ F).take (kP (dQ F) s), uN y s = true := fun y hy => by
   obtain ⟨i, hi, rfl⟩ := List.mem_iff_getElem.1 hy
   rw [List.length_take] at hi
   have h1 := bNm (q := dQ F) (s := s) (i := i) (by omega)
   rw [List.getElem_take]
   rw [List.getD_eq_getElem?_getD, List.getElem?_eq_getElem (show i < (dQ F).length by omega), Option.getD_some] at h1
   have h2 := hne _ (List.getElem_mem (show i < (dQ F).length by omega))
   rw [gU]; omega
  have hhi : ∀ y ∈ (dQ F).drop (kP (dQ F) s), uN s y = true := fun y hy => by
   rcases Nat.lt_or_ge (kP (dQ F) s) (dQ F).length with hlt | hge
   ·have h1 := bTd hlt
    have h3 := hp.2.1
    rw [bV default hlt] at hy h3
    have h0 : uN s ((dQ F).getD (kP (dQ F) s) default) = true := by rw [gU]; exact .inl h1
    rcases List.mem_cons.1 hy with rfl | hy
    ·exact h0
    exact aKb h0 ((List.pairwise_cons.1 h3).1 y hy)
   rw [List.drop_of_length_le hge] at hy; cases hy
  rw [List.append_assoc, List.pairwise_append]
  refine ⟨hp.1, ?_, fun a ha' b hb => ?_⟩
  ·rw [List.singleton_append, List.pairwise_cons]; exact ⟨hhi, hp.2.1⟩
  rcases List.mem_append.1 hb with hb | hb
  ·rw [List.mem_singleton.1 hb]; exact hlo a ha'
  exact hp.2.2 a ha' b hb
 unfold bBr
 have hr : x ∈ F ++ [s] ↔ x ∈ dQ F ∨ x = s := by rw [List.mem_append, List.mem_singleton, jA]
 rw [if_neg (by rw [hno]; simp), jA, hr]
 have hm : x ∈ dQ F ↔ x ∈ (dQ F).take (kP (dQ F) s) ∨ x ∈ (dQ F).drop (kP (dQ F) s) := by rw [← List.mem_append, List.take_append_drop]
 rw [hm, List.mem_append, List.mem_append, List.mem_singleton]
 constructor
 ·rintro ((h | h) | h)
  ·exact .inl (.inl h)
  ·exact .inr h
  exact .inl (.inr h)
 rintro ((h | h) | h)
 ·exact .inl (.inl h)
 ·exact .inr h
 exact .inl (.inr h)
def FlI (l : aB) (r : a8) (E : List cG) (F : List aN) : Prop := (F.map (·.fEl)).Nodup ∧ ∀ s ∈ F, ∃ e ∈ E, ∃ f, dsG l r 4 e = some f ∧ (f.fSide = 1 ∨ f.fSide = 2) ∧ s = ⟨f.fEl, 3 - f.fSide⟩
theorem FlI.more {l : aB} {r : a8} {E : List cG} {F : List aN} (h : FlI l r E F) (e : cG) : FlI l r (E ++ [e]) F := ⟨h.1, fun s hs => by
 obtain ⟨x, hx, y⟩ := h.2 s hs; exact ⟨x, by simp [hx], y⟩⟩
theorem bBy {l : aB} {r : a8} (hv : Vld l) (hJ : (eQ l.fJoints).Nodup) {E : List cG} {e f : cG} {F : List aN} {G : List Int} {P : List cG} {s : aN} (h : FlI l r E F) (hE : ∀ x ∈ E ++ [e], inR r x.fEl = true) (hn : e ∉ E) (hd : dsG l r 4 e = some f) (ha : awS (wFG r F G P) f = some s) : FlI l r (E ++ [e]) (F ++ [s]) := by
 obtain ⟨a1, a2, a3⟩ := yB ha
 have hnd : ⟨f.fEl, f.fSide⟩ ∉ F := fun hm => by
  have : i7 F ⟨f.fEl, f.fSide⟩ = true := nC.2 hm
  have h2 : ndR (wFG r F G P) ⟨f.fEl, f.fSide⟩ = (i7 r.fPoints ⟨f.fEl, f.fSide⟩ || i7 r.fOverPoints ⟨f.fEl, f.fSide⟩ || i7 F ⟨f.fEl, f.fSide⟩) := rfl
  rw [a3, this] at h2; simp at h2
 refine ⟨?_, fun x hx => ?_⟩
 ·rw [List.map_append, List.nodup_append]
  refine ⟨h.1, by simp, fun x hx y hy he => ?_⟩
  simp only [List.map_cons, List.map_nil, List.mem_singleton] at hy
  obtain ⟨s', hs', rfl⟩ := List.mem_map.1 hx
  obtain ⟨e', he', f', hd', hs1, hs2⟩ := h.2 s' hs'
  rw [hy, a2] at he
  simp only at he
  have hel : f'.fEl = f.fEl := by rw [hs2] at he; exact he
  by_cases hsd : f'.fSide = f.fSide
  ·have : f' = f := (dO _ _).2 ⟨hel, hsd⟩
   subst this
   have := bIy hv hJ hd' hd (hE e' (by simp [he'])) (hE e (by simp))
   subst this
   exact hn he'
  refine hnd ?_
  have : s' = ⟨f.fEl, f.fSide⟩ := by
   rw [hs2, fQ]; exact ⟨hel, by simp only; omega⟩
  rw [← this]; exact hs'
 rcases List.mem_append.1 hx with hx | hx
 ·obtain ⟨y, hy, q⟩ := h.2 x hx; exact ⟨y, by simp [hy], q⟩
 rw [List.mem_singleton.1 hx]; exact ⟨e, by simp, f, hd, a1, a2⟩
theorem bQc (l : aB) (r : a8) (F : List aN) (G G' : List Int) (P : List cG) (e : cG) : vN l r (dQ F, G', P) e = vN l r (F, G, P) e := by
 show prT (pE l (wFG r (dQ F) G' P) 4 e) = prT (pE l (wFG r F G P) 4 e)
 refine congrArg prT (aGz (r := wFG r (dQ F) G' P) (r' := wFG r F G P) rfl rfl (fun s => ?_) 4 e)
 have : i7 (dQ F) s = i7 F s := by rw [Bool.eq_iff_iff, nC, nC, jA]
 show (i7 r.fPoints s || i7 r.fOverPoints s || i7 (dQ F) s) = (i7 r.fPoints s || i7 r.fOverPoints s || i7 F s)
 rw [this]
theorem aSc : dQ [] = [] := by
 have := xQ []; exact List.eq_nil_of_length_eq_zero (by simpa using this)
theorem aOo {l : aB} {r : a8} (hv : Vld l) (hJ : (eQ l.fJoints).Nodup) : ∀ (n : Nat) (E : List cG), E.length = n → E.Nodup → (∀ x ∈ E, inR r x.fEl = true) → FlI l r E (qC l r E).1 ∧ rfF l r E = (dQ (qC l r E).1, mkR (qC l r E).2.1, (qC l r E).2.2) := by
 intro n
 induction n with
 | zero =>
  intro E h _ _
  rw [List.length_eq_zero_iff.1 h]
  exact ⟨⟨List.Pairwise.nil, fun s hs => by cases hs⟩, by show ([], [], []) = (dQ [], mkR [], []); rw [aSc]; rfl⟩
 | succ n ih =>
  intro E h hnd hin
  obtain ⟨Q, e, rfl⟩ : ∃ Q p, E = Q ++ [p] := ⟨E.dropLast, E.getLast (by intro e; rw [e] at h; cases h), (List.dropLast_concat_getLast _).symm⟩
  rw [List.nodup_append] at hnd
  obtain ⟨h1, h2⟩ := ih Q (by simpa using h) hnd.1 (fun x hx => hin x (by simp [hx]))
  have hn : e ∉ Q := fun hm => hnd.2.2 e hm e (by simp) rfl
  rw [aNb, bOh, h2]
  generalize hst : qC l r Q = st at h1 h2 ⊢
  obtain ⟨F, G, P⟩ := st
  simp only at h1
  have hw : vN l r (dQ F, mkR G, P) e = vN l r (F, G, P) e := bQc l r F G (mkR G) P e
  unfold flA rfA
  rw [hw]
  cases hp : pE l (wFG r F G P) 4 e with
  | none =>
   have hs : vN l r (F, G, P) e = (St0, -1, false) := by unfold vN; rw [hp]; rfl
   rw [hs]
   exact ⟨h1.more e, rfl⟩
  | some q =>
   obtain ⟨s, g⟩ := q
   have hs : vN l r (F, G, P) e = (s, g, true) := by unfold vN; rw [hp]; rfl
   rw [hs]
   simp only [Bool.true_eq_false, if_false]
   rcases aHq hp with ⟨p1, p2⟩ | ⟨p1, f, p3, p4⟩
   ·subst p1
    rw [if_neg (show ¬ (St0.fPos ≠ 0) from fun h => h rfl)]
    by_cases hg : 0 ≤ g
    ·rw [if_pos hg, if_pos hg]
     exact ⟨h1.more e, by rw [aZz]⟩
    rw [if_neg hg, if_neg hg, if_neg (fun h => h rfl)]
    exact ⟨h1.more e, rfl⟩
   subst p1
   have p5 : dsG l r 4 e = some f := by rw [← p3]; exact aHl rfl rfl 4 e
   have hnew := bBy hv hJ h1 hin hn p5 p4
   obtain ⟨a1, a2, a3⟩ := yB p4
   have hpos : s.fPos ≠ 0 := by rw [a2]; simp only; omega
   rw [if_pos hpos, if_neg (show ¬ (0 : Int) ≤ -1 by omega), if_neg (show ¬ (0 : Int) ≤ -1 by omega), if_pos (show s ≠ St0 from fun h => hpos (by rw [h]))]
   exact ⟨hnew, by rw [aYy hnew.1]⟩
theorem bHi (s : aW) (n : Nat) : (bsN s n).Nodup := by
 unfold bsN List.Nodup
 rw [List.pairwise_map]
 refine (List.nodup_range.filter _).imp fun h e => h ?_
 have := ((dO _ _).1 e).2
 simp only at this
 omega
theorem bNh (l : aB) (s : aW) : (hD l s).Nodup := by
 unfold hD; split
 ·exact bHi _ _
 exact List.nodup_nil
theorem aJw {l : aB} {s : aW} {e : cG} (h : e ∈ hD l s) : e.fEl = s.fEl := by
 unfold hD at h; split at h
 ·unfold bsN at h; obtain ⟨i, _, rfl⟩ := List.mem_map.1 h; rfl
 cases h
theorem aLm {l : aB} : ∀ {q : List aW}, (q.map (·.fEl)).Nodup → (j7 l q).Nodup
 | [], _ => List.nodup_nil
 | a :: q, h => by
  rw [List.map_cons, List.nodup_cons] at h
  unfold j7
  rw [List.flatMap_cons, List.nodup_append]
  refine ⟨bNh l a, aLm h.2, fun x hx y hy e => ?_⟩
  obtain ⟨s, hs, hy⟩ := List.mem_flatMap.1 hy
  subst e
  have e1 := aJw hx
  have e2 := aJw hy
  exact h.1 (List.mem_map.2 ⟨s, hs, by rw [← e2, e1]⟩)
theorem bCy {l : aB} {r : a8} {e : cG} (h : e ∈ j7 l (r.fPath ++ r.fOver)) : inR r e.fEl = true := by
 obtain ⟨s, hs, he⟩ := List.mem_flatMap.1 h
 unfold inR
 rw [aJw he, Bool.or_eq_true, kG, kG]
 rcases List.mem_append.1 hs with h | h
 ·exact .inl ⟨s, h, rfl⟩
 exact .inr ⟨s, h, rfl⟩
def wI (l : aB) (r : a8) : a8 := wFG r (dQ (qC l r (j7 l (r.fPath ++ r.fOver))).1) (mkR (qC l r (j7 l (r.fPath ++ r.fOver))).2.1) (qC l r (j7 l (r.fPath ++ r.fOver))).2.2
theorem aNl {l : aB} {r : a8} (hv : Vld l) (hJ : (eQ l.fJoints).Nodup) (hr : ((r.fPath ++ r.fOver).map (·.fEl)).Nodup) :
  ((qC l r (j7 l (r.fPath ++ r.fOver))).1.map (·.fEl)).Nodup ∧ wFG r (rfF l r (j7 l (r.fPath ++ r.fOver))).1 (rfF l r (j7 l (r.fPath ++ r.fOver))).2.1 (rfF l r (j7 l (r.fPath ++ r.fOver))).2.2 = wI l r := by
 obtain ⟨h1, h2⟩ := aOo hv hJ _ _ rfl (aLm hr) (fun x hx => bCy hx)
 exact ⟨h1.1, by rw [h2]; rfl⟩
end Go.Sg
namespace Go.Sg
open Go.Proofs
def aEm (l : aB) (sc : List Int) (q : List aW) (e : Int) : Bool := eT q e || sc.contains (bU l e)
section
attribute [local go_sem] List.drop_zero hM iB iG fO kU kV kR kY kS kZ iR i6 iW fS lP lR lS lJ lQ lK lW lL lU lV iP iS iT iX lF List.length_map Nat.mul_one Nat.add_zero
theorem wM (O : aS) (l : aB) (q : List aW) (s : Nat) (hO : O s = .row 85 3 (q.map bO)) (hl : eK l) (hes : mH l = true) (hq : q.length ≤ 100) : aY Tryz.prog O 129 [.agg (aK l), .own s q.length] (vi (fX l q)) := by
 have hl1 := hl.sec
 have hl2 := hl.el
 have hl3 := hl.jo
 have hl4 := hl.sg
 have hl5 := hl.bl
 have hxO : bT O (s + 100000) = .row 85 3 (q.map bO) := by rw [bW, hO]; rfl
 refine aU 0 rfl (.agg (d := j9 l.fElements) (by simp [aK]) (.sl _ _ _)) fun he => ?_
 refine eE Tryz.func129 ?_
 refine aA fun K0 hK0 => ?_
 refine aX [0, 1] (by kernel_rfl) ?_
 simp (disch := omega) only [go_sem, seval, hxO]
 repeat refine And.intro bS ?_
 refine hK0 _ ?_; clear hK0
 refine aA fun K1 hK1 => ?_
 refine aX [1, 2] (by kernel_rfl) ?_
 simp (disch := omega) only [go_sem, seval, hxO]
 repeat refine And.intro bS ?_
 refine hK1 _ ?_; clear hK1
 refine aA fun K2 hK2 => ?_
 refine aA fun K3 hK3 => ?_
 refine aX [1, 2, 5] (by kernel_rfl) ?_
 simp (disch := omega) only [go_sem, seval, hxO]
 repeat refine And.intro bS ?_
 refine hK3 _ ?_; clear hK3
 refine aL ?_
 refine aZ [2, 5, 8, 9, 10] (fun n ρ => ∃ i, n = q.length - i ∧ (i ≤ q.length) ∧ ρ = dU O [(2, .bx (aK l)), (5, vi (fX l (q.take i))), (8, .own (s + 100000) q.length), (9, vi (q.length : Nat)), (10, vi (i : Nat))]) _ ⟨0, rfl, ?_, ?_⟩ ?_
 ·exact bI
 ·simp (disch := omega) only [go_sem, seval, hxO] <;> rfl
 rintro n ρ ⟨i, rfl, l0_0, rfl⟩ K4 hK4
 have hlb := aDj hes q i
 have heb := aEd hes (q.getD i default)
 refine aA fun K5 hK5 => ?_
 refine aX [1, 2, 5, 8, 9, 10] (by kernel_rfl) ?_
 simp (disch := omega) only [go_sem, seval, hxO]
 repeat refine And.intro bS ?_
 refine hK5 _ ?_; clear hK5
 refine aA fun K6 hK6 => ?_
 refine aV (fun c0 => ?_) fun c0 => ?_
 ·refine aJ ?_
  refine hK6 _ ?_; clear hK6
  refine aA fun K7 hK7 => ?_
  refine aL ?_
  refine aA fun K8 hK8 => ?_
  refine aX [1, 2, 5, 8, 9, 10] (by kernel_rfl) ?_
  simp (disch := omega) only [go_sem, seval, hxO]
  repeat refine And.intro bS ?_
  refine hK8 _ ?_; clear hK8
  refine aA fun K9 hK9 => ?_
  refine aX [1, 2, 5, 7, 8, 9, 10] (by kernel_rfl) ?_
  simp (disch := omega) only [go_sem, seval, hxO]
  repeat refine And.intro bS ?_
  refine fP _ (iA _ l (q.getD i default).fEl) ?_
  try simp (disch := omega) only [go_sem, seval, hxO]
  repeat refine And.intro bS ?_
  refine hK9 _ ?_; clear hK9
  refine aV (fun c1 => ?_) fun c1 => ?_
  ·have hex := f7.1 c1
   have heq : uG l (q.getD i default) = (l.fElements.getD (q.getD i default).fEl.toNat default).fLength := by unfold uG; rw [if_pos c1]
   rw [heq] at heb
   refine aX [1, 2, 5, 7, 8, 9, 10] (by kernel_rfl) ?_
   simp (disch := omega) only [go_sem, seval, hxO]
   repeat refine And.intro bS ?_
   refine hK7 _ ?_; clear hK7
   refine aX [1, 2, 5, 8, 9, 10] (by kernel_rfl) ?_
   simp (disch := omega) only [go_sem, seval, hxO]
   repeat refine And.intro bS ?_
   refine hK4 _ _ ?_ ⟨i + 1, rfl, ?_, ?_⟩
   ·exact bI
   ·exact bI
   simp (disch := omega) only [go_sem, seval, hxO] <;> (rw [rX l (by assumption), heq]; rfl)
  refine aJ ?_
  refine hK7 _ ?_; clear hK7
  refine aX [1, 2, 5, 8, 9, 10] (by kernel_rfl) ?_
  simp (disch := omega) only [go_sem, seval, hxO]
  repeat refine And.intro bS ?_
  refine hK4 _ _ ?_ ⟨i + 1, rfl, ?_, ?_⟩
  ·exact bI
  ·exact bI
  simp (disch := omega) only [go_sem, seval, hxO] <;> (rw [rX l (by assumption)]; unfold uG; rw [if_neg (by simpa using c1)]; simp)
 refine bA ?_
 refine hK2 _ ?_; clear hK2
 refine aA fun K10 hK10 => ?_
 refine aX [5] (by kernel_rfl) ?_
 simp (disch := omega) only [go_sem, seval, hxO]
 repeat refine And.intro bS ?_
 refine hK10 _ ?_; clear hK10
 refine aM ?_
 refine cK 4 rfl (by simp (disch := omega) only [go_sem, seval, hxO]) ?_
 exact dE.is (by simp (disch := omega) only [go_sem, seval, hxO] <;> ((rw [List.take_of_length_le (by omega)]))) rfl rfl
end
section
attribute [local go_sem] List.drop_zero hM iB iG fO kU kV kR kY kS kZ iR i6 iW fS lP lR lS lJ lQ lK lW lL lU lV iP iS iT iX lF List.length_map Nat.mul_one Nat.add_zero
end
section
attribute [local go_sem] List.drop_zero hM iB iG fO kU kV kR kY kS kZ iR i6 iW fS lP lR lS lJ lQ lK lW lL lU lV iP iS iT iX lF List.length_map Nat.mul_one Nat.add_zero
theorem mM (O : aS) (q : List aW) (g b : Nat) (cs : List DV) (p : aW → Bool) (s : Nat) (hO : O s = .row 85 3 (q.map bO)) (hq : q.length ≤ 1000) (hB : O b = .bx cs) (hcs : gT (· + 100000) cs = cs) (hg : aQ Tryz.prog g = true) (hk : ∀ (ρ : aS) (k : Nat) (x : aW), ρ k = .bx cs → aY Tryz.prog ρ g [.agg (bO x), .bp k 0] (vb (p x))) : aY Tryz.prog O 215 [.own s q.length, .fn g [] [.bp b 0]] (vi (if q.any p then (q.findIdx p : Nat) else -1)) := by
 have hxO : bT O (s + 100000) = .row 85 3 (q.map bO) := by rw [bW, hO]; rfl
 refine eE Tryz.func215 ?_
 refine aA fun K0 hK0 => ?_
 refine aX [0, 1] (by kernel_rfl) ?_
 simp (disch := omega) only [go_sem, seval, hg, hxO]
 repeat refine And.intro bS ?_
 refine hK0 _ ?_; clear hK0
 refine aA fun K1 hK1 => ?_
 refine aA fun K2 hK2 => ?_
 refine aX [0, 1] (by kernel_rfl) ?_
 simp (disch := omega) only [go_sem, seval, hg, hxO]
 repeat refine And.intro bS ?_
 refine hK2 _ ?_; clear hK2
 refine aL ?_
 refine aZ [0, 1, 7, 8] (fun n ρ => ∃ i, n = q.length - i ∧ (i ≤ q.length) ∧ ((if q.any p then (q.findIdx p : Int) else -1) = (if (q.drop i).any p then (((q.drop i).findIdx p + i : Nat) : Int) else -1)) ∧ ρ = dU O [(0, .own (s + 100000) q.length), (1, .fn g [] [.bp (b + 100000) 0]), (7, vi (q.length : Nat)), (8, vi (i : Nat))]) _ ⟨0, rfl, ?_, ?_, ?_⟩ ?_
 ·exact bI
 ·simp
 ·simp (disch := omega) only [go_sem, seval, hg, hxO] <;> first | rfl | omega | simp | simp_all
 rintro n ρ ⟨i, rfl, l0_0, l0_1, rfl⟩ K3 hK3
 refine aA fun K4 hK4 => ?_
 refine aX [0, 1, 7, 8] (by kernel_rfl) ?_
 simp (disch := omega) only [go_sem, seval, hg, hxO]
 repeat refine And.intro bS ?_
 refine hK4 _ ?_; clear hK4
 refine aA fun K5 hK5 => ?_
 refine aV (fun c0 => ?_) fun c0 => ?_
 ·refine aJ ?_
  refine hK5 _ ?_; clear hK5
  refine aA fun K6 hK6 => ?_
  refine aL ?_
  refine aA fun K7 hK7 => ?_
  refine aX [0, 1, 7, 8] (by kernel_rfl) ?_
  simp (disch := omega) only [go_sem, seval, hg, hxO]
  repeat refine And.intro bS ?_
  refine hK7 _ ?_; clear hK7
  refine aA fun K8 hK8 => ?_
  refine aX [0, 1, 5, 7, 8] (by kernel_rfl) ?_
  simp (disch := omega) only [go_sem, seval, hg, hxO]
  repeat refine And.intro bS ?_
  refine fP _ (hk _ (b + 100000) (q.getD i default) ?_) ?_
  ·repeat rw [aO, if_neg (by omega)]
   rw [bW, hB]; exact congrArg DV.bx hcs
  try simp (disch := omega) only [go_sem, seval, hg, hxO]
  repeat refine And.intro bS ?_
  refine hK8 _ ?_; clear hK8
  refine aV (fun c1 => ?_) fun c1 => ?_
  ·refine aA fun K9 hK9 => ?_
   refine aX [5] (by kernel_rfl) ?_
   simp (disch := omega) only [go_sem, seval, hg, hxO]
   repeat refine And.intro bS ?_
   refine hK9 _ ?_; clear hK9
   refine aM ?_
   refine cK 4 rfl (by simp (disch := omega) only [go_sem, seval, hg, hxO]) ?_
   exact dE.is (by simp (disch := omega) only [go_sem, seval, hg, hxO] <;> (refine congrArg vi ?_; rw [l0_1, bV default c0, List.any_cons, List.findIdx_cons, c1]; simp)) rfl rfl
  refine aJ ?_
  refine hK6 _ ?_; clear hK6
  refine aX [0, 1, 7, 8] (by kernel_rfl) ?_
  simp (disch := omega) only [go_sem, seval, hg, hxO]
  repeat refine And.intro bS ?_
  refine hK3 _ _ ?_ ⟨i + 1, rfl, ?_, ?_, ?_⟩
  ·exact bI
  ·exact bI
  ·rw [l0_1, bV default c0, List.any_cons, List.findIdx_cons, c1]; simp only [Bool.false_or, cond_false]; rw [show List.findIdx p (List.drop (i + 1) q) + 1 + i = List.findIdx p (List.drop (i + 1) q) + (i + 1) by omega]
  simp (disch := omega) only [go_sem, seval, hg, hxO] <;> first | rfl | omega | simp | simp_all
 refine bA ?_
 refine hK1 _ ?_; clear hK1
 refine aA fun K10 hK10 => ?_
 refine aX [] (by kernel_rfl) ?_
 simp (disch := omega) only [go_sem, seval, hg, hxO]
 repeat refine And.intro bS ?_
 refine hK10 _ ?_; clear hK10
 refine aM ?_
 refine cK 4 rfl (by simp (disch := omega) only [go_sem, seval, hg, hxO]) ?_
 exact dE.is (by simp (disch := omega) only [go_sem, seval, hg, hxO] <;> (refine congrArg vi ?_; rw [l0_1, eN c0]; rfl)) rfl rfl
end
section
attribute [local go_sem] List.drop_zero hM iB iG fO kU kV kR kY kS kZ iR i6 iW fS lP lR lS lJ lQ lK lW lL lU lV iP iS iT iX lF List.length_map Nat.mul_one Nat.add_zero
theorem lI (O : aS) (q : List aW) (g b : Nat) (cs : List DV) (p : aW → Bool) (s : Nat) (hO : O s = .row 85 3 (q.map bO)) (hq : q.length ≤ 1000) (hB : O b = .bx cs) (hcs : gT (· + 100000) cs = cs) (hg : aQ Tryz.prog g = true) (hk : ∀ (ρ : aS) (k : Nat) (x : aW), ρ k = .bx cs → aY Tryz.prog ρ g [.agg (bO x), .bp k 0] (vb (p x))) : aY Tryz.prog O 188 [.own s q.length, .fn g [] [.bp b 0]] (vb (q.any p)) := by
 have hxO : bT O (s + 100000) = .row 85 3 (q.map bO) := by rw [bW, hO]; rfl
 refine eE Tryz.func188 ?_
 refine aA fun K0 hK0 => ?_
 refine aX [0, 1] (by kernel_rfl) ?_
 simp (disch := omega) only [go_sem, seval, hg, hxO]
 repeat refine And.intro bS ?_
 refine hK0 _ ?_; clear hK0
 refine aA fun K1 hK1 => ?_
 refine aX [0, 1] (by kernel_rfl) ?_
 simp (disch := omega) only [go_sem, seval, hg, hxO]
 repeat refine And.intro bS ?_
 refine fP _ (mM _ q g (b + 100000) cs p (s + 100000) ?_ hq ?_ hcs hg hk) ?_
 ·repeat rw [aO, if_neg (by omega)]
  exact hxO
 ·repeat rw [aO, if_neg (by omega)]
  rw [bW, hB]; exact congrArg DV.bx hcs
 try simp (disch := omega) only [go_sem, seval, hg, hxO]
 repeat refine And.intro bS ?_
 refine hK1 _ ?_; clear hK1
 refine aM ?_
 refine cK 4 rfl (by simp (disch := omega) only [go_sem, seval, hg, hxO]) ?_
 exact dE.is (by simp (disch := omega) only [go_sem, seval, hg, hxO] <;> refine congrArg vb ?_ <;> (cases h : q.any p <;> simp)) rfl rfl
end
section
attribute [local go_sem] List.drop_zero hM iB iG fO kU kV kR kY kS kZ iR i6 iW fS lP lR lS lJ lQ lK lW lL lU lV iP iS iT iX lF List.length_map Nat.mul_one Nat.add_zero
theorem sC (O : aS) (q : List aW) (e : Int) (s : Nat) (hO : O s = .row 85 3 (q.map bO)) (hq : q.length ≤ 1000) : aY Tryz.prog O 130 [.own s q.length, vi e] (vb (eT q e)) := by
 have hxO : bT O (s + 100000) = .row 85 3 (q.map bO) := by rw [bW, hO]; rfl
 refine eE Tryz.func130 ?_
 refine aA fun K0 hK0 => ?_
 refine aX [0, 1] (by kernel_rfl) ?_
 simp (disch := omega) only [go_sem, seval, hxO]
 repeat refine And.intro bS ?_
 refine hK0 _ ?_; clear hK0
 refine aA fun K1 hK1 => ?_
 refine aX [0, 3] (by kernel_rfl) ?_
 simp (disch := omega) only [go_sem, seval, hxO]
 repeat refine And.intro bS ?_
 refine fP _ (lI _ q 189 3 [vi e] (fun s => decide (s.fEl = e)) (s + 100000) ?_ hq (by rfl) rfl rfl (fun ρ k r h => qV ρ r e k h)) ?_
 ·repeat rw [aO, if_neg (by omega)]
  exact hxO
 try simp (disch := omega) only [go_sem, seval, hxO]
 repeat refine And.intro bS ?_
 refine hK1 _ ?_; clear hK1
 refine aM ?_
 refine cK 4 rfl (by simp (disch := omega) only [go_sem, seval, hxO]) ?_
 exact dE.is (by simp (disch := omega) only [go_sem, seval, hxO] <;> refine congrArg vb ?_ <;> (rfl)) rfl rfl
end
section
attribute [local go_sem] List.drop_zero hM iB iG fO kU kV kR kY kS kZ iR i6 iW fS lP lR lS lJ lQ lK lW lL lU lV iP iS iT iX lF List.length_map Nat.mul_one Nat.add_zero
end
end Go.Sg
namespace Go.Sg
open Go.Proofs
def ovG (l : aB) (ov : Int) (sc : List Int) : Nat → List aW → cG × Bool → List aW
 | 0, o, _ => o
 | n + 1, o, a => if ((a.2 = true ∧ fX l o < ov) ∧ o.length < 12) ∧ aEm l sc o a.1.fEl = false ∧ (cQ l a.1).length ≠ 0 then ovG l ov sc n (o ++ [(cQ l a.1).getD 0 default]) (bG l ((cQ l a.1).getD 0 default)) else o
theorem aWm {l : aB} {ov : Int} {sc : List Int} {n : Nat} {o : List aW} {a : cG × Bool} (h : ¬ (((a.2 = true ∧ fX l o < ov) ∧ o.length < 12) ∧ aEm l sc o a.1.fEl = false ∧ (cQ l a.1).length ≠ 0)) : ovG l ov sc n o a = o := by
 cases n with
 | zero => rfl
 | succ n => rw [ovG, if_neg h]
theorem bOf {l : aB} {ov : Int} {sc : List Int} {n : Nat} {o : List aW} {a : cG × Bool} (h : ((a.2 = true ∧ fX l o < ov) ∧ o.length < 12) ∧ aEm l sc o a.1.fEl = false ∧ (cQ l a.1).length ≠ 0) : ovG l ov sc (n + 1) o a = ovG l ov sc n (o ++ [(cQ l a.1).getD 0 default]) (bG l ((cQ l a.1).getD 0 default)) := by rw [ovG, if_pos h]
def m0 (l : aB) (r : a8) : List aW := if (exS l r).2 = true then ovG l (exS l r).1.fOverlap r.fSections 12 [] (aI l (exS l r).1.fAt) else []
theorem aMw {l : aB} {ov : Int} {sc : List Int} : ∀ (n : Nat) (o : List aW) (a : cG × Bool), (ovG l ov sc n o a).length ≤ o.length + n
 | 0, o, a => by simp [ovG]
 | n + 1, o, a => by
  unfold ovG
  split
  ·have := aMw (l := l) (ov := ov) (sc := sc) n (o ++ [(cQ l a.1).getD 0 default]) (bG l ((cQ l a.1).getD 0 default))
   rw [List.length_append, List.length_singleton] at this; omega
  omega
theorem aEj (l : aB) (r : a8) : (m0 l r).length ≤ 12 := by
 unfold m0; split
 ·have := aMw (l := l) (ov := (exS l r).1.fOverlap) (sc := r.fSections) 12 [] (aI l (exS l r).1.fAt); simpa using this
 simp
section
attribute [local go_sem] List.drop_zero hM iB iG fO kU kV kR kY kS kZ iR i6 iW fS lP lR lS lJ lQ lK lW lL lU lV iP iS iT iX lF List.length_map Nat.mul_one Nat.add_zero
set_option maxRecDepth 20000 in
set_option maxHeartbeats 8000000 in
theorem uQ (O : aS) (l : aB) (r : a8) (hl : eK l) (hes : mH l = true) : aY Tryz.prog O 84 [.agg (aK l), .agg (bB r)] (b8 (m0 l r)) := by
 have hl1 := hl.sec
 have hl2 := hl.el
 have hl3 := hl.jo
 have hl4 := hl.sg
 have hl5 := hl.bl
 refine eE Tryz.func84 ?_
 refine aC [0, 1] ?_
 refine aA fun K1 hK1 => ?_
 refine bL [2, 3] ?_
 refine eL (o9 _ l r) ?_
 refine hK1 _ ?_; clear hK1
 refine aA fun K2 hK2 => ?_
 refine aC [2, 3, 5, 6] ?_
 refine aV (fun c0 => ?_) fun c0 => ?_
 ·have hex : (exS l r).2 = false := (by simpa using c0)
  refine aC [] ?_
  refine qN 4 3 bO rfl rfl ?_
  refine aM ?_
  refine cW 4 ?_
  exact dE.encL rfl (by (unfold m0; rw [if_neg (by rw [hex]; simp)]))
 have hex : (exS l r).2 = true := (by simpa using c0)
 refine aJ ?_
 refine hK2 _ ?_; clear hK2
 refine aC [2, 3, 5] ?_
 refine aA fun K6 hK6 => ?_
 refine bL [2, 3, 5, 7] ?_
 refine eL (iH _ l (exS l r).1.fAt) ?_
 refine hK6 _ ?_; clear hK6
 refine aA fun K7 hK7 => ?_
 refine aL ?_
 refine gZ 7 85 3 bO rfl rfl ?_
 refine aZ [2, 3, 5, 6, 7, 8] (fun n ρ => ∃ o, ∃ a, n = 12 - o.length ∧ (o.length ≤ 12) ∧ (m0 l r = ovG l (exS l r).1.fOverlap r.fSections (12 - o.length) o a) ∧ ρ = dU O [(2, .bx (aK l)), (3, .bx (bB r)), (5, .bx (gA (exS l r).1)), (6, vb a.2), (7, oY o), (8, .bx (cE a.1))]) _ ⟨[], aI l (exS l r).1.fAt, rfl, ?_, ?_, ?_⟩ ?_
 ·simp
 ·(unfold m0; rw [if_pos hex]; rfl)
 ·exact dC
 rintro n ρ ⟨o, a, rfl, l0_0, l0_1, rfl⟩ K8 hK8
 refine aA fun K9 hK9 => ?_
 refine aA fun K10 hK10 => ?_
 refine gY [2, 3, 5, 6, 7, 8] [] ?_
 refine lB (fun g0 => wM _ l o 7 (by simp (config := {maxSteps := 2000000}) (disch := omega) only [go_sem, seval]) hl hes (by omega)) ?_
 refine hK10 _ ?_; clear hK10
 refine aV (fun c1 => ?_) fun c1 => ?_
 ·have hc1 : (a.2 = true ∧ fX l o < (exS l r).1.fOverlap) ∧ o.length < 12 := (by simpa using c1)
  obtain ⟨m, hm⟩ : ∃ m, 12 - o.length = m + 1 := ⟨11 - o.length, by omega⟩
  refine aJ ?_
  refine hK9 _ ?_; clear hK9
  refine aL ?_
  refine aA fun K11 hK11 => ?_
  refine aA fun K12 hK12 => ?_
  refine gY [2, 3, 5, 7, 8] [] ?_
  refine cdz (sC _ o a.1.fEl 7 (by simp (config := {maxSteps := 2000000}) (disch := omega) only [go_sem, seval]) (by omega)) ?_
  refine lB (fun g1 => dH _ l a.1.fEl) ?_
  refine lB (fun g2 => o4 _ (bU l a.1.fEl) r.fSections) ?_
  refine hK12 _ ?_; clear hK12
  refine aV (fun c2 => ?_) fun c2 => ?_
  ·have hc2 : aEm l r.fSections o a.1.fEl = true := (by unfold aEm; simpa using c2)
   refine bA ?_
   refine hK7 _ ?_; clear hK7
   refine aA fun K13 hK13 => ?_
   refine fG 7 _ rfl rfl ?_
   refine bE [7] ?_
   refine hK13 _ ?_; clear hK13
   refine aM ?_
   refine cW 4 ?_
   exact dE.encL rfl (by (rw [l0_1, aWm (by rintro ⟨h1, h2, h3⟩; rw [hc2] at h2; cases h2)]))
  have hc2 : aEm l r.fSections o a.1.fEl = false := (by unfold aEm; simpa using c2)
  refine aJ ?_
  refine hK11 _ ?_; clear hK11
  refine aA fun K14 hK14 => ?_
  refine bL [2, 3, 5, 7, 8] ?_
  refine eL (nZ _ l a.1 hl) ?_
  refine hK14 _ ?_; clear hK14
  refine aA fun K15 hK15 => ?_
  refine aC [2, 3, 5, 7, 8, 9] ?_
  refine aV (fun c3 => ?_) fun c3 => ?_
  ·refine bA ?_
   refine hK7 _ ?_; clear hK7
   refine aA fun K17 hK17 => ?_
   refine fG 7 _ rfl rfl ?_
   refine bE [7] ?_
   refine hK17 _ ?_; clear hK17
   refine aM ?_
   refine cW 4 ?_
   exact dE.encL rfl (by (rw [l0_1, aWm (by rintro ⟨h1, h2, h3⟩; omega)]))
  have hc3 : (cQ l a.1).length ≠ 0 := (by omega)
  refine aJ ?_
  refine hK15 _ ?_; clear hK15
  refine aC [2, 3, 5, 7, 8, 9] ?_
  refine aCg 10 [2, 3, 5, 7, 8, 9] [2, 3, 5, 7, 9, 65, 66, 67, 68, 69, 64, 70, 71, 6, 8] [] [] [[], [], [1], [1, 2], [0, 1, 2, 3], [0, 1, 2, 3, 4], [0, 1, 2, 3, 4, 5], [0, 1, 2, 3, 4, 5], [0, 1, 2, 3, 4, 5, 6], [0, 1, 2, 3, 4, 5, 6, 7, 8]] [[8], [8], [8], [8], [8], [8], [8], [], [], []] (fun bQ => dU O [(2, .bx (aK l)), (3, .bx (bB r)), (5, .bx (gA (exS l r).1)), (7, oY (o ++ [((cQ l a.1).getD 0 default)])), (9, b8 (cQ l a.1)), (65, bJ (bQ 0) (.agg (aK l))), (66, bJ (bQ 1) (b8 (cQ l a.1))), (67, bJ (bQ 2) (.dp (bO ((cQ l a.1).getD 0 default)))), (68, bJ (bQ 3) (.agg (bO ((cQ l a.1).getD 0 default)))), (69, bJ (bQ 4) (.tup [.agg (cE (bG l ((cQ l a.1).getD 0 default)).1), vb (bG l ((cQ l a.1).getD 0 default)).2])), (64, bJ (bQ 5) (.tup [.agg (cE (bG l ((cQ l a.1).getD 0 default)).1), vb (bG l ((cQ l a.1).getD 0 default)).2])), (70, bJ (bQ 6) (.agg (cE (bG l ((cQ l a.1).getD 0 default)).1))), (71, bJ (bQ 7) (vb (bG l ((cQ l a.1).getD 0 default)).2)), (6, bJ (bQ 9) (vb (bG l ((cQ l a.1).getD 0 default)).2)), (8, pD (bQ 8) true (.bx (cE (bG l ((cQ l a.1).getD 0 default)).1)) (.bx (cE a.1)))]) (fun iQ hiQ oQ hoQ bQ hbQ KQ hKQ => ?_) ?_
  ·match iQ, hiQ with
   | 0, _ | 1, _ | 2, _ | 3, _ | 5, _ | 6, _ | 7, _ | 8, _ | 9, _ =>
    exact mkp hoQ hbQ hKQ
   | 4, _ =>
    exact mkc hoQ hbQ hKQ (sU _ l ((cQ l a.1).getD 0 default))
  refine rF ?_
  refine hK8 _ _ ?_ ⟨o ++ [((cQ l a.1).getD 0 default)], bG l ((cQ l a.1).getD 0 default), rfl, ?_, ?_, ?_⟩
  ·simp; omega
  ·simp; omega
  ·rw [l0_1, hm, bOf ⟨hc1, hc2, hc3⟩]; congr 1; simp; omega
  exact dC
 have hc1 : ¬ ((a.2 = true ∧ fX l o < (exS l r).1.fOverlap) ∧ o.length < 12) := (by rintro ⟨⟨h1, h2⟩, h3⟩; rw [h1] at c1; simp at c1; omega)
 refine bA ?_
 refine hK7 _ ?_; clear hK7
 refine aA fun K19 hK19 => ?_
 refine fG 7 _ rfl rfl ?_
 refine bE [7] ?_
 refine hK19 _ ?_; clear hK19
 refine aM ?_
 refine cW 4 ?_
 exact dE.encL rfl (by (rw [l0_1, aWm (fun h => hc1 h.1)]))
end
end Go.Sg
namespace Go.Sg
open Go.Proofs
structure Rtk (r : a8) : Prop where
 pa : r.fPath.length ≤ 100
 po : r.fPoints.length ≤ 100
 se : r.fSections.length ≤ 100
 ov : r.fOver.length ≤ 100
 op : r.fOverPoints.length ≤ 100
 os : r.fOverSections.length ≤ 100
 fl : r.fFlank.length ≤ 1000
 gu : r.fGuards.length ≤ 1000
 ga : r.fGaps.length ≤ 1000
def zY (l : aB) (r : a8) : a8 := ⟨r.fName, r.fEntry, r.fExit, r.fPath, r.fPoints, r.fSections, r.fApproach, r.fLength, m0 l r, tI l (m0 l r), eW l (m0 l r), r.fFlank, r.fGuards, r.fGaps⟩
theorem aGc {l : aB} {a : cG} {s : aW} (h : s ∈ cQ l a) : s.fEl = a.fEl := by
 cases he : lH l a.fEl with
 | false => rw [aLl he] at h; cases h
 | true =>
  rw [aMl he] at h
  obtain ⟨o, ho, rfl⟩ := List.mem_map.1 h
  rfl
theorem aUa {l : aB} {ov : Int} {sc : List Int} : ∀ (n : Nat) (o : List aW) (a : cG × Bool), (o.map (·.fEl)).Nodup → ((ovG l ov sc n o a).map (·.fEl)).Nodup
 | 0, o, a, h => h
 | n + 1, o, a, h => by
  unfold ovG
  split
  ·rename_i hc
   refine aUa n _ _ ?_
   rw [List.map_append, List.nodup_append]
   refine ⟨h, by simp, fun x hx y hy e => ?_⟩
   simp only [List.map_cons, List.map_nil, List.mem_singleton] at hy
   have hb := hc.2.1
   unfold aEm at hb
   rw [Bool.or_eq_false_iff] at hb
   have hm : (cQ l a.1).getD 0 default ∈ cQ l a.1 := dR (by have := hc.2.2; omega)
   rw [(aGc hm)] at hy
   have : eT o a.1.fEl = true := kG.2 (by
    obtain ⟨s, hs, hse⟩ := List.mem_map.1 hx
    exact ⟨s, hs, by rw [hse, e, hy]⟩)
   rw [this] at hb; cases hb.1
  exact h
theorem aJy (l : aB) (r : a8) : ((m0 l r).map (·.fEl)).Nodup := by
 unfold m0; split
 ·exact aUa _ _ _ (by simp)
 simp
section
attribute [local go_sem] List.drop_zero hM iB iG fO kU kV kR kY kS kZ
set_option maxHeartbeats 16000000 in
theorem w5 (O : aS) (l : aB) (r : a8) (hl : eK l) (hes : mH l = true) (hr : Rtk r) : aY Tryz.prog O 37 [.agg (aK l), .agg (bB r)] (.agg (bB (zY l r))) := by
 have hl1 := hl.sec
 have hl2 := hl.el
 have hl3 := hl.jo
 have hl4 := hl.sg
 have hl5 := hl.bl
 have hr1 := hr.pa
 have hr2 := hr.po
 have hr3 := hr.se
 have hr4 := hr.fl
 have hr5 := hr.gu
 have hr6 := hr.ga
 have hos := aEj l r
 refine eE Tryz.func37 ?_
 refine aC [0, 1] ?_
 refine aA fun K1 hK1 => ?_
 refine bL [2, 3, 4] ?_
 refine eL (uQ _ l r hl hes) ?_
 refine hK1 _ ?_; clear hK1
 refine aA fun K2 hK2 => ?_
 refine bL [2, 3, 4, 5] ?_
 refine eL (dG (iV _ r.fPath (by omega))) ?_
 refine hK2 _ ?_; clear hK2
 refine aA fun K3 hK3 => ?_
 refine bL [2, 3, 4, 5] ?_
 refine eL (dG (eY _ r.fPoints (by omega))) ?_
 refine hK3 _ ?_; clear hK3
 refine aA fun K4 hK4 => ?_
 refine bL [2, 3, 4, 5] ?_
 refine eL (dG (gD _ r.fSections (by omega))) ?_
 refine hK4 _ ?_; clear hK4
 refine aA fun K5 hK5 => ?_
 refine bL [2, 3, 4, 5] ?_
 refine eL (dG (eY _ r.fFlank (by omega))) ?_
 refine hK5 _ ?_; clear hK5
 refine aA fun K6 hK6 => ?_
 refine bL [2, 3, 4, 5] ?_
 refine eL (dG (gD _ r.fGuards (by omega))) ?_
 refine hK6 _ ?_; clear hK6
 refine aA fun K7 hK7 => ?_
 refine bL [2, 3, 4, 5] ?_
 refine eL (dG (sA _ r.fGaps (by omega))) ?_
 refine hK7 _ ?_; clear hK7
 refine aC [2, 3, 4, 5] ?_
 refine aA fun K9 hK9 => ?_
 refine bL [2, 3, 4, 5] ?_
 refine eL (nT _ l (m0 l r) hl (by omega) (aJy l r)) ?_
 refine hK9 _ ?_; clear hK9
 refine aA fun K10 hK10 => ?_
 refine bL [2, 3, 4, 5] ?_
 refine eL (nE _ l (m0 l r) hl hes (by omega)) ?_
 refine hK10 _ ?_; clear hK10
 refine aC [3, 4] ?_
 refine aM ?_
 refine nU 4 46 rfl (by simp (disch := omega) only [go_sem, seval]) (by simp (disch := omega) only [go_sem, seval] <;> (rfl)) (by simp (disch := omega) only [go_sem, seval]) (by simp (disch := omega) only [go_sem, seval])
end
end Go.Sg
