/- Several texts as one. -/
import Derived.Test.YtnpokifaejcbeaaGreatDoorF14
set_option linter.unusedSectionVars false
set_option linter.unusedVariables false
set_option linter.unusedSimpArgs false
set_option maxRecDepth 20000
namespace Go.Sg
open Go.Proofs
abbrev bl (s : ByteArray) : List UInt8 := s.data.toList
theorem u6 (a b : ByteArray) : bl (a ++ b) = bl a ++ bl b := by simp [bl]
theorem aRp {a b : ByteArray} (h : bl a = bl b) : a = b := by rw [← bFi a, ← bFi b]; exact congrArg bs h
theorem bAm {α : Type} {c : α} : ∀ {a a' b b' : List α}, c ∉ a → c ∉ a' → a ++ c :: b = a' ++ c :: b' → a = a' ∧ b = b'
 | [], [], _, _, _, _, h => ⟨rfl, (List.cons.inj h).2⟩
 | [], x :: a', _, _, _, h2, h => absurd (by rw [(List.cons.inj h).1]; simp) h2
 | x :: a, [], _, _, h1, _, h => absurd (by rw [← (List.cons.inj h).1]; simp) h1
 | x :: a, y :: a', b, b', h1, h2, h => by
  have hx := List.cons.inj h
  have := bAm (c := c) (a := a) (a' := a') (fun e => h1 (by simp [e])) (fun e => h2 (by simp [e])) hx.2
  exact ⟨by rw [hx.1, this.1], this.2⟩
theorem aHb {s : ByteArray} (h : jV s = true) : (45 : UInt8) ∉ bl s ∧ (46 : UInt8) ∉ bl s := by
 unfold jV at h
 rw [Bool.and_eq_true, List.all_eq_true] at h
 have key : ∀ c ∈ bl s, nmC c.toNat = true := fun c hc => by
  obtain ⟨i, hi, rfl⟩ := List.mem_iff_getElem.1 hc
  have hi' : i < s.data.size := by rw [← Array.length_toList]; exact hi
  have := h.2 i (List.mem_range.2 hi')
  unfold bt at this
  have h2 : s.data.getD i 0 = (bl s)[i] := by
   rw [Array.getD_eq_getD_getElem?, Array.getElem?_eq_getElem hi', Option.getD_some]
   exact (Array.getElem_toList ..).symm
  rwa [h2] at this
 exact ⟨fun hc => absurd (key _ hc) (by decide), fun hc => absurd (key _ hc) (by decide)⟩
theorem aMn {a b : Nat} (ha : a < 10) (hb : b < 10) (h : dgt a = dgt b) : a = b := by
 have := congrArg UInt8.toNat h
 unfold dgt at this
 rw [UInt8.toNat_ofNat', UInt8.toNat_ofNat'] at this
 omega
theorem bBe : ∀ (u v : Nat), Lib.decDigits u = Lib.decDigits v → u = v := by
 intro u
 induction u using Nat.strongRecOn with
 | _ u ih =>
  intro v h
  by_cases hu : u < 10
  ·by_cases hv : v < 10
   ·rw [xS _ hu, xS _ hv] at h
    exact aMn hu hv (by simpa using h)
   rw [xS _ hu, t7 _ hv] at h
   have h1 := congrArg List.length h
   rw [List.length_append, List.length_singleton, List.length_singleton] at h1
   have h2 := List.length_pos_iff.2 (aXn (v / 10))
   omega
  by_cases hv : v < 10
  ·rw [xS _ hv, t7 _ hu] at h
   have h1 := congrArg List.length h
   rw [List.length_append, List.length_singleton, List.length_singleton] at h1
   have h2 := List.length_pos_iff.2 (aXn (u / 10))
   omega
  rw [t7 _ hu, t7 _ hv] at h
  have hh := List.append_inj' h rfl
  have h1 := ih (u / 10) (by omega) (v / 10) hh.1
  have h2 := aMn (by omega) (by omega) (List.cons.inj hh.2).1
  omega
def qA (c : Nat) : List UInt8 := if 1 < c then 46 :: bl (fmt (c : Nat)) else []
theorem bAs {c d : Nat} (hc : 1 ≤ c) (hd : 1 ≤ d) (h : qA c = qA d) : c = d := by
 unfold qA at h
 split at h
 ·split at h
  ·have h1 := (List.cons.inj h).2
   rw [aLi (by omega), aLi (by omega)] at h1
   rw [show bl (bs (Lib.decDigits (c : Int).natAbs)) = _ from aNe _, show bl (bs (Lib.decDigits (d : Int).natAbs)) = _ from aNe _] at h1
   have := bBe _ _ h1
   omega
  cases h
 split at h
 ·cases h
 omega
theorem bBg {B B' : List UInt8} {c d : Nat} (h1 : (46 : UInt8) ∉ B) (h2 : (46 : UInt8) ∉ B') (hc : 1 ≤ c) (hd : 1 ≤ d) (h : B ++ qA c = B' ++ qA d) : B = B' ∧ c = d := by
 have key : B = B' ∧ qA c = qA d := by
  by_cases hc1 : 1 < c
  ·by_cases hd1 : 1 < d
   ·rw [show qA c = 46 :: bl (fmt (c : Nat)) from if_pos hc1, show qA d = 46 :: bl (fmt (d : Nat)) from if_pos hd1] at h ⊢
    have := bAm h1 h2 h
    exact ⟨this.1, by rw [this.2]⟩
   rw [show qA c = 46 :: bl (fmt (c : Nat)) from if_pos hc1, show qA d = [] from if_neg hd1, List.append_nil] at h
   exact absurd (by rw [← h]; simp) h2
  by_cases hd1 : 1 < d
  ·rw [show qA c = [] from if_neg hc1, show qA d = 46 :: bl (fmt (d : Nat)) from if_pos hd1, List.append_nil] at h
   exact absurd (by rw [h]; simp) h1
  rw [show qA c = [] from if_neg hc1, show qA d = [] from if_neg hd1] at h ⊢
  exact ⟨by simpa using h, rfl⟩
 exact ⟨key.1, bAs hc hd key.2⟩
theorem aRt {l : aB} (h : j6 l = 0) : aAs l = true ∧ uM l = true ∧ ndB l = true ∧ mH l = true ∧ sgI l = 0 := by
 have h0 := h
 unfold j6 at h
 split at h
 ·cases h
 rename_i hc
 split at h
 ·rename_i h1; exact absurd h h1
 rename_i h1
 split at h
 ·cases h
 split at h
 ·rename_i h3; exact absurd h h3
 split at h
 ·rename_i h4; exact absurd h h4
 rename_i h4
 obtain ⟨z1, z2, z3⟩ := pT h0
 refine ⟨by simpa using hc, z1, ?_, z2, Classical.not_not.1 h4⟩
 have h1 : nmI l = 0 := Classical.not_not.1 h1
 unfold nmI at h1
 rw [if_pos z1] at h1
 split at h1
 ·assumption
 cases h1
theorem bMu {l : aB} (h : sgI l = 0) {i : Nat} (hi : i < l.fSignals.length) : exB l (l.fSignals.getD i default).fAt = true := by
 unfold sgI at h
 split at h
 ·rename_i h1
  have := m9 h1 hi
  unfold qW at this
  rw [Bool.and_eq_true] at this
  exact this.1
 cases h
abbrev sgN (l : aB) (i : Int) : ByteArray := (l.fSignals.getD i.toNat default).fName
theorem x2 {l : aB} (h : uM l = true) {i : Nat} (hi : i < l.fSignals.length) : jV (sgN l (i : Int)) = true := by
 unfold uM at h
 rw [List.all_eq_true] at h
 have h2 := h (qR l) (by unfold cF; simp)
 rw [List.all_eq_true] at h2
 exact h2 _ (List.mem_map.2 ⟨_, dR (by simpa using hi), rfl⟩)
theorem bFm {l : aB} (h : ndB l = true) {i k : Nat} (hi : i < l.fSignals.length) (hk : k < i) : sgN l (k : Int) ≠ sgN l (i : Int) := by
 unfold ndB at h
 rw [List.all_eq_true] at h
 have h2 := h (qR l) (by unfold cF; simp)
 unfold ndS at h2
 have h3 := aGf h2 (show i < (qR l).length by simpa [qR] using hi)
 unfold nuS at h3
 have h4 := of_decide_eq_true (aGf h3 hk)
 unfold qR at h4
 rw [List.getD_eq_getElem?_getD, List.getD_eq_getElem?_getD, List.getElem?_map, List.getElem?_map, List.getElem?_eq_getElem hi, List.getElem?_eq_getElem (show k < l.fSignals.length by omega)] at h4
 simp only [Option.map_some, Option.getD_some] at h4
 simp only [sgN, Int.toNat_natCast, List.getD_eq_getElem?_getD, List.getElem?_eq_getElem hi, List.getElem?_eq_getElem (show k < l.fSignals.length by omega), Option.getD_some]
 exact h4
theorem aUr {l : aB} (h : uM l = true) {x : Int} (hx : x < (l.fSignals.length : Int)) : (46 : UInt8) ∉ bl (nmQ l x) := by
 unfold nmQ
 split
 ·have := (aHb (x2 h (i := x.toNat) (by omega))).2
  unfold sgN at this
  rwa [Int.toNat_natCast] at this
 decide
theorem xW (l : aB) (i : Int) (P : List (List aW)) (k : Nat) : bl (nbR l i P k).fName = bl (sgN l i) ++ 45 :: (bl (nmQ l (exQ l (P.getD k []))) ++ qA (jR (g9 l i) (P.take (k + 1)) (g9 l i (P.getD k [])))) := by
 unfold nbR
 generalize jR (g9 l i) (P.take (k + 1)) (g9 l i (P.getD k [])) = c
 unfold kT qA
 split
 ·show bl ((sgN l i ++ ⟨#[45]⟩ ++ nmQ l (exQ l (P.getD k []))) ++ (⟨#[46]⟩ ++ fmt (c : Nat))) = _
  rw [u6, u6, u6, u6]
  simp [bl]
 show bl (sgN l i ++ ⟨#[45]⟩ ++ nmQ l (exQ l (P.getD k []))) = _
 rw [u6, u6]
 simp [bl]
theorem aIf {α : Type} (nm : α → ByteArray) {P : List α} {k : Nat} {d : α} (hk : k < P.length) : 1 ≤ jR nm (P.take (k + 1)) (nm (P.getD k d)) := by
 rw [fV d hk, qF, if_pos rfl]; omega
theorem aNu {α : Type} (nm : α → ByteArray) {P : List α} {k m : Nat} {d : α} (hk : k < m) (hm : m < P.length) (x : ByteArray) (hx : nm (P.getD m d) = x) : jR nm (P.take (k + 1)) x < jR nm (P.take (m + 1)) x := by
 have h1 : jR nm (P.take (k + 1)) x ≤ jR nm (P.take m) x := by
  unfold jR
  exact List.Sublist.countP_le (List.take_sublist_take_left (by omega))
 rw [fV d hm, qF, if_pos hx]
 omega
abbrev NmD (R : List a8) : Prop := R.Pairwise fun a b => a.fName ≠ b.fName
theorem bMf {l : aB} (h : uM l = true) {i : Nat} (hi : i < l.fSignals.length) (P : List (List aW)) (n : Nat) (hn : n ≤ P.length) : NmD (m7 l (i : Int) P n) := by
 unfold m7
 rw [NmD, List.pairwise_map]
 refine List.Pairwise.imp_of_mem ?_ List.pairwise_lt_range
 intro k m hk hm hkm e
 have hk := List.mem_range.1 hk
 have hm := List.mem_range.1 hm
 have h1 := congrArg bl e
 rw [xW, xW] at h1
 have h2 := (bAm (aHb (x2 h hi)).1 (aHb (x2 h hi)).1 h1).2
 obtain ⟨h3, h4⟩ := bBg (aUr h (aCi l _).1) (aUr h (aCi l _).1) (aIf _ (by omega)) (aIf _ (by omega)) h2
 have h5 : g9 l (i : Int) (P.getD k []) = g9 l (i : Int) (P.getD m []) := by
  show sgN l (i : Int) ++ ⟨#[45]⟩ ++ nmQ l (exQ l (P.getD k [])) = sgN l (i : Int) ++ ⟨#[45]⟩ ++ nmQ l (exQ l (P.getD m []))
  rw [aRp h3]
 rw [h5] at h4
 have := aNu (g9 l (i : Int)) (d := []) hkm (show m < P.length by omega) _ rfl
 omega
theorem aDz (p : aB → cG → cG → List (List aW)) (l : aB) {i : Nat} (hi : i < l.fSignals.length) : cN p l (i : Int) = if (aI l (l.fSignals.getD i default).fAt).2 = false then [] else m7 l (i : Int) (p l (l.fSignals.getD i default).fAt (aI l (l.fSignals.getD i default).fAt).1) (p l (l.fSignals.getD i default).fAt (aI l (l.fSignals.getD i default).fAt).1).length := by
 unfold cN
 rw [if_neg (by omega), Int.toNat_natCast]
theorem aDx {p : aB → cG → cG → List (List aW)} {l : aB} {i : Nat} (hi : i < l.fSignals.length) {r : a8} (hr : r ∈ cN p l (i : Int)) : ∃ P k, k < P.length ∧ P = p l (l.fSignals.getD i default).fAt (aI l (l.fSignals.getD i default).fAt).1 ∧ r = nbR l (i : Int) P k := by
 rw [aDz p l hi] at hr
 split at hr
 ·cases hr
 unfold m7 at hr
 obtain ⟨k, hk, rfl⟩ := List.mem_map.1 hr
 exact ⟨_, k, List.mem_range.1 hk, rfl, rfl⟩
theorem bJs {l : aB} (h : uM l = true) (hd : ndB l = true) : NmD (fI (cN gP l) l.fSignals.length) := by
 unfold fI
 rw [NmD, List.pairwise_flatMap]
 refine ⟨fun i hi => ?_, ?_⟩
 ·have hi := List.mem_range.1 hi
  rw [aDz gP l hi]
  split
  ·exact List.Pairwise.nil
  exact bMf h hi _ _ (Nat.le_refl _)
 refine List.Pairwise.imp_of_mem ?_ List.pairwise_lt_range
 intro i k hi hk hik x hx y hy e
 have hi := List.mem_range.1 hi
 have hk := List.mem_range.1 hk
 obtain ⟨P, a, _, _, rfl⟩ := aDx hi hx
 obtain ⟨Q, b, _, _, rfl⟩ := aDx hk hy
 have h1 := congrArg bl e
 rw [xW, xW] at h1
 have h2 := (bAm (aHb (x2 h hi)).1 (aHb (x2 h hk)).1 h1).1
 exact bFm hd hk hik (aRp h2)
theorem aQx (r : a8) (c : Nat) : (kT r c).fEntry = r.fEntry ∧ (kT r c).fExit = r.fExit ∧ (kT r c).fApproach = r.fApproach ∧ (kT r c).fLength = r.fLength := by
 unfold kT; split <;> exact ⟨rfl, rfl, rfl, rfl⟩
structure RtE (l : aB) (i : Nat) (r : a8) : Prop where
 en : r.fEntry = (i : Int)
 exi : -1 ≤ r.fExit ∧ r.fExit < (l.fSignals.length : Int)
 pos : 0 < r.fPath.length
 app : r.fApproach = bU l (l.fSignals.getD i default).fAt.fEl
 len : r.fLength = fX l r.fPath
theorem aVx {l : aB} {i k : Nat} {P : List (List aW)} (hp : 0 < (P.getD k []).length) : RtE l i (nbR l (i : Int) P k) := by
 unfold nbR
 generalize jR (g9 l (i : Int)) (P.take (k + 1)) (g9 l (i : Int) (P.getD k [])) = c
 obtain ⟨n1, n2, n3, n4⟩ := aQx (uX l (i : Int) (P.getD k [])) c
 have n5 := (zU (uX l (i : Int) (P.getD k [])) c).1
 exact ⟨n1, by rw [n2]; exact ⟨(aCi l _).2, (aCi l _).1⟩, by rw [n5]; exact hp, by rw [n3]; show bU l (l.fSignals.getD (i : Int).toNat default).fAt.fEl = _; rw [Int.toNat_natCast], by rw [n4, n5]; rfl⟩
theorem sY {l : aB} {i : Nat} (hi : i < l.fSignals.length) {r : a8} (hr : r ∈ cN gP l (i : Int)) : RtE l i r := by
 obtain ⟨P, k, hk, hP, rfl⟩ := aDx hi hr
 refine aVx ?_
 subst hP
 exact (tL (l := l) (n := 13) (a := (aI l (l.fSignals.getD i default).fAt).1) (q := []) (by simp) List.Pairwise.nil (dR hk)).1
theorem tO {l : aB} (h : (dP l (cN gP l)).2 = 0) : (dP l (cN gP l)).1 = fI (cN gP l) l.fSignals.length := by
 unfold dP at h ⊢
 split
 ·rename_i h1; rw [if_pos h1] at h; exact absurd h h1
 rename_i h1
 rw [if_neg h1] at h
 split
 ·rename_i h2; rw [if_pos h2] at h; cases h
 rfl
theorem bAh {l : aB} (h : (dP l (cN gP l)).2 = 0) {r : a8} (hr : r ∈ (dP l (cN gP l)).1) : ∃ i, i < l.fSignals.length ∧ RtE l i r := by
 rw [tO h] at hr
 unfold fI at hr
 obtain ⟨i, hi, hr⟩ := List.mem_flatMap.1 hr
 exact ⟨i, List.mem_range.1 hi, sY (List.mem_range.1 hi) hr⟩
theorem bEi {l : aB} (h : mH l = true) {e : Int} (he : lH l e = true) : wJ l (e5 l e.toNat) = true := by
 have := f7.1 he
 exact m9 h (i := e.toNat) (by omega)
theorem xA {l : aB} (h : mH l = true) {e : Int} (he : lH l e = true) : 0 ≤ bU l e ∧ bU l e < (l.fSections.length : Int) := by
 rw [aDv he]
 have := of_decide_eq_true (bEi h he)
 exact this.2.2.2.2.1
theorem aMb {l : aB} (h : mH l = true) : ∀ {q : List aW}, (∀ s ∈ q, lH l s.fEl = true) → 500 * (q.length : Int) ≤ fX l q
 | [], _ => by simp [fX]
 | s :: q, hx => by
  have ih := aMb h (q := q) fun x hx' => hx x (by simp [hx'])
  have h1 := hx s (by simp)
  have := of_decide_eq_true (bEi h h1)
  show _ ≤ ((s :: q).map fun s => if lH l s.fEl = true then (e5 l s.fEl.toNat).fLength else 0).sum
  rw [List.map_cons, List.sum_cons, if_pos h1]
  have h2 : (q.map fun s => if lH l s.fEl = true then (e5 l s.fEl.toNat).fLength else 0).sum = fX l q := rfl
  rw [h2, List.length_cons]
  push_cast
  omega
theorem z8 {l : aB} {q : List aW} (hex : ∀ s ∈ q, lH l s.fEl = true) {x : Int} (hx : x ∈ eW l q) : ∃ s ∈ q, x = bU l s.fEl := by
 obtain ⟨i, hi, e⟩ := (t6 (l := l) (q := q) (fun i hi => by rw [xC hi]; exact hex _ (List.getElem_mem hi)) q.length (Nat.le_refl _) x).1 (by rw [List.take_length]; exact hx)
 exact ⟨jS q i, by rw [xC hi]; exact List.getElem_mem hi, e.symm⟩
theorem aYu {t : cP} {L : List Int} (hr : ∀ x ∈ L, 0 ≤ x ∧ x < t.fSections) (hn : L.Nodup) : vO t L = true := by
 unfold vO
 rw [List.all_eq_true]
 intro i hi
 have hi := List.mem_range.1 hi
 unfold aEi
 have hg : ∀ k, (hk : k < L.length) → iN L k = L[k] := fun k hk => by unfold iN; rw [List.getD_eq_getElem?_getD, List.getElem?_eq_getElem hk]; rfl
 rw [Bool.and_eq_true, decide_eq_true_eq, List.all_eq_true]
 refine ⟨by rw [hg i hi]; exact hr _ (List.getElem_mem hi), fun k hk => ?_⟩
 have hk := List.mem_range.1 hk
 rw [hg i hi, hg k (by omega), Bool.not_eq_true', beq_eq_false_iff_ne]
 exact List.pairwise_iff_getElem.1 hn k i (by omega) hi hk
theorem aUn {l : aB} {ov : Int} {sc : List Int} : ∀ (n : Nat) (o : List aW) (a : cG × Bool), (∀ s ∈ o, lH l s.fEl = true) → ∀ s ∈ ovG l ov sc n o a, lH l s.fEl = true
 | 0, o, a, h => h
 | n + 1, o, a, h => by
  unfold ovG
  split
  ·rename_i hc
   refine aUn n _ _ fun s hs => ?_
   rcases List.mem_append.1 hs with hs | hs
   ·exact h s hs
   have hb := oJ (dR (show 0 < (cQ l a.1).length by have := hc.2.2; omega))
   rw [List.mem_singleton.1 hs, hb.1]; exact hb.2.2.2
  exact h
theorem aKr (l : aB) (r : a8) : ∀ s ∈ m0 l r, lH l s.fEl = true := by
 unfold m0
 split
 ·exact aUn _ _ _ (by simp)
 simp
theorem aUk {α β : Type} {f : α → β} : ∀ {L : List α}, (L.map f).Nodup → ∀ {a b : α}, a ∈ L → b ∈ L → f a = f b → a = b
 | [], _, _, _, h, _, _ => by cases h
 | x :: L, hn, a, b, ha, hb, e => by
  rw [List.map_cons, List.nodup_cons] at hn
  obtain ⟨h1, h2⟩ := hn
  rcases List.mem_cons.1 ha with ha | ha
  ·rcases List.mem_cons.1 hb with hb | hb
   ·rw [ha, hb]
   exact absurd (List.mem_map.2 ⟨b, hb, by rw [← e, ha]⟩) h1
  rcases List.mem_cons.1 hb with hb | hb
  ·exact absurd (List.mem_map.2 ⟨a, ha, by rw [e, hb]⟩) h1
  exact aUk h2 ha hb e
def aDk (l : aB) (s : aN) : Prop := lH l s.fEl = true ∧ (e5 l s.fEl.toNat).fKind = 2 ∧ 1 ≤ s.fPos ∧ s.fPos ≤ 2
theorem aQb {i o : Int} (h : (cT 2 i o).2 = true) : 1 ≤ (cT 2 i o).1 ∧ (cT 2 i o).1 ≤ 2 := by
 rw [aFx] at h ⊢
 split at h
 ·rename_i h2; rw [if_pos h2]; simp
 rename_i h2
 rw [if_neg h2]
 split at h
 ·rename_i h3; rw [if_pos h3]; simp
 cases h
theorem bSp {l : aB} {q : List aW} {s : aN} (h : s ∈ sI l q) : aDk l s ∧ ∃ x ∈ q, x.fEl = s.fEl := by
 unfold sI at h
 obtain ⟨x, hx, hs⟩ := List.mem_flatMap.1 h
 unfold aHw at hs
 split at hs
 ·rename_i hc
  rw [List.mem_singleton.1 hs]
  have he := f7.2 (aAg hc.1)
  refine ⟨⟨he, hc.2, ?_⟩, x, hx, rfl⟩
  have h1 := hc.1
  show 1 ≤ (lE l x).1 ∧ (lE l x).1 ≤ 2
  rw [oD he, hc.2] at h1 ⊢
  exact aQb h1
 cases hs
theorem aDw {l : aB} {q : List aW} {s : aN} (h : s ∈ tI l q) : aDk l s ∧ ∃ x ∈ q, x.fEl = s.fEl := bSp ((jA _ _).1 h)
abbrev aId (F : List aN) : Prop := F.Pairwise fun a b => a.fEl < b.fEl
theorem aGj {F : List aN} (h : (F.map (·.fEl)).Nodup) : aId (dQ F) := by
 refine List.Pairwise.imp_of_mem ?_ (tX F)
 intro a b ha hb hab
 rcases gU.1 hab with h1 | ⟨h1, h2⟩
 ·exact h1
 have := aUk h ((jA F a).1 ha) ((jA F b).1 hb) h1
 rw [this] at h2; omega
theorem aGk {l : aB} {q : List aW} (h : (q.map (·.fEl)).Nodup) : aId (tI l q) := aGj ((aMi l q).nodup h)
theorem aMs {l : List Int} {x : Int} (h : x ∈ l) : ∃ k, k < l.length ∧ sL l x l.length = (k : Int) ∧ l.getD k default = x := by
 have key : ∀ n, n ≤ l.length → (∃ j, j < n ∧ l.getD (l.length - (j + 1)) default = x) → ∃ k, k < l.length ∧ sL l x n = (k : Int) ∧ l.getD k default = x := by
  intro n
  induction n with
  | zero => rintro _ ⟨j, hj, _⟩; omega
  | succ n ih =>
   rintro hn ⟨j, hj, hx⟩
   unfold sL
   split
   ·rename_i he; exact ⟨l.length - (n + 1), by omega, rfl, he⟩
   rename_i he
   refine ih (by omega) ⟨j, ?_, hx⟩
   rcases Nat.lt_or_eq_of_le (Nat.le_of_lt_succ hj) with q | q
   ·exact q
   subst q; exact absurd hx he
 obtain ⟨i, hi, e⟩ := List.mem_iff_getElem.1 h
 refine key l.length (Nat.le_refl _) ⟨l.length - (i + 1), by omega, ?_⟩
 rw [show l.length - (l.length - (i + 1) + 1) = i by omega, List.getD_eq_getElem?_getD, List.getElem?_eq_getElem hi]; exact e
theorem aMf {l : aB} {x : Int} (he : lH l x = true) (hk : (e5 l x.toNat).fKind = 2) : x ∈ d8 l := by
 have := f7.1 he
 unfold d8 yG
 refine List.mem_map.2 ⟨x.toNat, List.mem_filter.2 ⟨List.mem_range.2 (by omega), decide_eq_true hk⟩, by omega⟩
theorem bNc {l : aB} {x : Int} (h : x ∈ d8 l) : lH l x = true ∧ (e5 l x.toNat).fKind = 2 := by
 unfold d8 yG at h
 obtain ⟨i, hi, rfl⟩ := List.mem_map.1 h
 obtain ⟨h1, h2⟩ := List.mem_filter.1 hi
 exact ⟨f7.2 ⟨by omega, by have := List.mem_range.1 h1; omega⟩, of_decide_eq_true h2⟩
theorem aYv (l : aB) : (d8 l).Pairwise (· < ·) := by
 unfold d8 yG
 rw [List.pairwise_map]
 exact (List.pairwise_lt_range.filter _).imp fun h => by omega
theorem aKj {t : cP} {l : aB} (hp : t.fPoints = d8 l) {F : List aN} (ha : aId F) (hs : ∀ s ∈ F, aDk l s) : aDe t F = true := by
 unfold aDe
 rw [List.all_eq_true]
 intro i hi
 have hi := List.mem_range.1 hi
 have hg : ∀ k, (hk : k < F.length) → sN F k = F[k] := fun k hk => by unfold sN; rw [List.getD_eq_getElem?_getD, List.getElem?_eq_getElem hk]; rfl
 obtain ⟨p1, p2, p3, p4⟩ := hs _ (List.getElem_mem hi)
 refine decide_eq_true ⟨?_, ?_, by rw [hg i hi]; exact p3, by rw [hg i hi]; exact p4⟩
 ·rw [hg i hi]
  unfold plI; rw [hp]
  obtain ⟨k, _, e, _⟩ := aMs (aMf p1 p2)
  rw [e]; omega
 rcases Nat.eq_zero_or_pos i with h0 | h0
 ·exact .inl h0
 right
 rw [hg i hi, hg (i - 1) (by omega)]
 exact List.pairwise_iff_getElem.1 ha (i - 1) i (by omega) hi (by omega)
theorem aJp {a b : List aN} (h : ∀ s ∈ a, ∀ u ∈ b, s.fEl = u.fEl → s.fPos = u.fPos) : aBd a b = true := by
 unfold aBd
 rw [List.all_eq_true]
 intro s hs
 unfold okS
 rw [List.all_eq_true]
 intro u hu
 rw [Bool.not_eq_true']
 by_cases he : s.fEl = u.fEl
 ·exact bHv (.inr (h s hs u hu he))
 exact bHv (.inl he)
theorem aNj {l : aB} {r : a8} : ∀ {n : Nat} {e : cG} {s : aN} {g : Int}, pE l r n e = some (s, g) → s ≠ St0 → aDk l s ∧ inR r s.fEl = false
 | 0, e, s, g, h, _ => by cases h
 | n + 1, e, s, g, h, hs => by
  unfold pE at h
  split at h
  ·injection h with h; injection h with h1 h2; exact absurd h1.symm hs
  split at h
  ·injection h with h; injection h with h1 h2; exact absurd h1.symm hs
  split at h
  ·injection h with h; injection h with h1 h2; exact absurd h1.symm hs
  rename_i h3
  split at h
  ·cases h
  rename_i h4
  split at h
  ·rename_i h5
   rw [Option.map_eq_some_iff] at h
   obtain ⟨s', hs', he⟩ := h
   injection he with e1 e2
   subst e1
   obtain ⟨a1, a2, a3⟩ := yB hs'
   rw [a2]
   refine ⟨⟨f7.2 (by simp only; omega), h5, by simp only; omega, by simp only; omega⟩, ?_⟩
   unfold inR; simpa using h3
  split at h
  ·cases h
  exact aNj h hs
theorem bFv {l : aB} {r : a8} : ∀ (n : Nat) (E : List cG), E.length = n → ∀ s ∈ (qC l r E).1, aDk l s ∧ inR r s.fEl = false := by
 intro n
 induction n with
 | zero => intro E h s hs; rw [List.length_eq_zero_iff.1 h] at hs; cases hs
 | succ n ih =>
  intro E h s hs
  obtain ⟨Q, e, rfl⟩ : ∃ Q p, E = Q ++ [p] := ⟨E.dropLast, E.getLast (by intro e; rw [e] at h; cases h), (List.dropLast_concat_getLast _).symm⟩
  have h1 := ih Q (by simpa using h)
  rw [aNb] at hs
  unfold flA at hs
  split at hs
  ·exact h1 s hs
  split at hs
  ·exact h1 s hs
  split at hs
  ·rename_i hne
   rcases List.mem_append.1 hs with hs | hs
   ·exact h1 s hs
   rw [List.mem_singleton.1 hs]
   unfold vN at hne ⊢
   cases hp : pE l (wFG r (qC l r Q).1 (qC l r Q).2.1 (qC l r Q).2.2) 4 e with
   | none => rw [hp] at hne; exact absurd rfl hne
   | some q =>
    rw [hp] at hne
    have := aNj (n := 4) (e := e) (s := q.1) (g := q.2) hp hne
    exact this
  exact h1 s hs
section
variable {l : aB} (hl : eK l) (her : (dP l (cN gP l)).2 = 0)
include hl her
theorem aHz {r : a8} (hr : r ∈ (bC l).fRoutes) : ∃ r0 i, i < l.fSignals.length ∧ RtP l r0 ∧ RtE l i r0 ∧ r = lX l r0 := by
 rw [tH her] at hr
 obtain ⟨r0, h0, rfl⟩ := List.mem_map.1 hr
 obtain ⟨i, hi, h1⟩ := bAh her h0
 exact ⟨r0, i, hi, aNk h0, h1, rfl⟩
theorem aFd {r0 : a8} (h : RtP l r0) : (aId (lX l r0).fPoints ∧ ∀ s ∈ (lX l r0).fPoints, aDk l s ∧ eT r0.fPath s.fEl = true) ∧ (aId (lX l r0).fOverPoints ∧ ∀ s ∈ (lX l r0).fOverPoints, aDk l s ∧ eT (m0 l r0) s.fEl = true) ∧
  aId (lX l r0).fFlank ∧ ∀ s ∈ (lX l r0).fFlank, aDk l s ∧ eT r0.fPath s.fEl = false ∧ eT (m0 l r0) s.fEl = false := by
 obtain ⟨hv, hJ⟩ := aCw hl (sZ her)
 refine ⟨?_, ?_, ?_, ?_⟩
 ·show aId r0.fPoints ∧ ∀ s ∈ r0.fPoints, _
  rw [h.pt]
  exact ⟨aGk h.nd, fun s hs => ⟨(aDw hs).1, by obtain ⟨x, hx, e⟩ := (aDw hs).2; exact kG.2 ⟨x, hx, e⟩⟩⟩
 ·show aId (tI l (m0 l r0)) ∧ ∀ s ∈ tI l (m0 l r0), _
  exact ⟨aGk (aJy l r0), fun s hs => ⟨(aDw hs).1, by obtain ⟨x, hx, e⟩ := (aDw hs).2; exact kG.2 ⟨x, hx, e⟩⟩⟩
 ·exact aGj (aNl hv hJ h.nodup).1
 intro s hs
 have hs : s ∈ dQ (qC l (zY l r0) (j7 l ((zY l r0).fPath ++ (zY l r0).fOver))).1 := hs
 obtain ⟨h1, h2⟩ := bFv _ _ rfl s ((jA _ _).1 hs)
 refine ⟨h1, ?_⟩
 unfold inR at h2
 rw [Bool.or_eq_false_iff] at h2
 exact h2
theorem aSj {r0 : a8} (h : RtP l r0) {x : Int} (h1 : eT r0.fPath x = true) (h2 : eT (m0 l r0) x = true) : False := by
 obtain ⟨s, hs, e⟩ := kG.1 h1
 obtain ⟨o, ho, e2⟩ := kG.1 h2
 have h3 := aJa h.ex hs
 have h4 := aDp l r0 o ho
 rw [h.sec, e2, ← e] at h4
 have h5 : (eW l r0.fPath).contains (bU l s.fEl) = true := by simpa using h3
 rw [h5] at h4; cases h4
theorem aTs : chk (bC l) = 0 := by
 have hck := sZ her
 obtain ⟨k1, k2, k3, k4, k5⟩ := aRt hck
 have kc := of_decide_eq_true k1
 have hal := xH l
 have hpl := pQ l l.fElements.length
 have hpl : (d8 l).length ≤ l.fElements.length := hpl
 have e := tH her
 have eR : (bC l).fRoutes = (dP l (cN gP l)).1.map (lX l) := by rw [e]
 have eP : (bC l).fPoints = d8 l := by rw [e]
 have eH : (bC l).fHomes = (d8 l).map (bU l) := by rw [e]
 have eS : (bC l).fSections = (l.fSections.length : Nat) := by rw [e]
 have eG : (bC l).fSignals = (l.fSignals.length : Nat) := by rw [e]
 refine bRe ?_ ?_ ?_ ?_ ?_ ?_
 ·unfold yZ
  rw [eR, eP, eS, eG, List.length_map]
  exact decide_eq_true (by omega)
 ·unfold vB
  rw [eH, eP, List.length_map, decide_eq_true rfl, Bool.true_and, List.all_eq_true]
  intro i hi
  have hi := List.mem_range.1 hi
  have hg : ∀ k, (hk : k < (d8 l).length) → ptN (bC l) k = (d8 l)[k] := fun k hk => by unfold ptN; rw [eP, List.getD_eq_getElem?_getD, List.getElem?_eq_getElem hk]; rfl
  have hh : hmN (bC l) i = bU l (d8 l)[i] := by unfold hmN; rw [eH, List.getD_eq_getElem?_getD, List.getElem?_map, List.getElem?_eq_getElem hi]; rfl
  have hx := (bNc (List.getElem_mem hi)).1
  have hsr := xA k4 hx
  have hx := f7.1 hx
  refine decide_eq_true ⟨by rw [hg i hi]; omega, ?_, by rw [hh]; exact hsr.1, by rw [hh, eS]; exact hsr.2⟩
  rcases Nat.eq_zero_or_pos i with h0 | h0
  ·exact .inl h0
  right
  rw [hg i hi, hg (i - 1) (by omega)]
  exact List.pairwise_iff_getElem.1 (aYv l) (i - 1) i (by omega) hi (by omega)
 ·rw [List.all_eq_true]
  intro r hr
  obtain ⟨r0, i, hi, hp, hq, rfl⟩ := aHz hl her hr
  have hat := bMu k5 hi
  unfold exB at hat
  rw [Bool.and_eq_true, decide_eq_true_eq, decide_eq_true_eq] at hat
  have happ := xA k4 (f7.2 hat.1)
  have hlen := aMb k4 hp.ex
  have hpos := hq.pos
  have hsne : 0 < (eW l r0.fPath).length := by
   obtain ⟨s, hs⟩ := List.exists_mem_of_length_pos hpos
   exact List.length_pos_of_mem (aJa hp.ex hs)
  unfold rtB
  rw [Bool.and_eq_true]
  constructor
  ·refine decide_eq_true ⟨?_, ?_, hq.exi.1, ?_, hpos, hp.len, ?_, ?_, ?_, ?_⟩
   ·show 0 ≤ r0.fEntry; rw [hq.en]; omega
   ·show r0.fEntry < _; rw [hq.en, eG]; omega
   ·rw [eG]; exact hq.exi.2
   ·show 1 ≤ r0.fLength; rw [hq.len]; omega
   ·show 0 < r0.fSections.length; rw [hp.sec]; exact hsne
   ·show 0 ≤ r0.fApproach; rw [hq.app]; exact happ.1
   show r0.fApproach < _; rw [hq.app, eS]; exact happ.2
  show vO _ (r0.fSections ++ eW l (m0 l r0)) = true
  refine aYu (fun x hx => ?_) ?_
  ·rw [eS]
   rcases List.mem_append.1 hx with hx | hx
   ·rw [hp.sec] at hx
    obtain ⟨s, hs, rfl⟩ := z8 hp.ex hx
    exact xA k4 (hp.ex s hs)
   obtain ⟨s, hs, rfl⟩ := z8 (aKr l r0) hx
   exact xA k4 (aKr l r0 s hs)
  rw [List.nodup_append]
  refine ⟨?_, ?_, fun x hx y hy exy => ?_⟩
  ·rw [hp.sec]; have := s7 l r0.fPath r0.fPath.length; rwa [List.take_length] at this
  ·have := s7 l (m0 l r0) (m0 l r0).length; rwa [List.take_length] at this
  obtain ⟨s, hs, rfl⟩ := z8 (aKr l r0) hy
  have := aDp l r0 s hs
  rw [← exy] at this
  have h5 : r0.fSections.contains x = true := by simpa using hx
  rw [h5] at this; cases this
 ·rw [List.all_eq_true]
  intro r hr
  obtain ⟨r0, i, hi, hp, hq, rfl⟩ := aHz hl her hr
  obtain ⟨⟨a1, a2⟩, ⟨b1, b2⟩, c1, c2⟩ := aFd hl her hp
  unfold seB
  rw [aKj eP a1 fun s hs => (a2 s hs).1, aKj eP b1 fun s hs => (b2 s hs).1, aKj eP c1 fun s hs => (c2 s hs).1]
  rfl
 ·rw [List.all_eq_true]
  intro r hr
  obtain ⟨r0, i, hi, hp, hq, rfl⟩ := aHz hl her hr
  obtain ⟨⟨a1, a2⟩, ⟨b1, b2⟩, c1, c2⟩ := aFd hl her hp
  unfold agB
  rw [aJp fun s hs u hu e => (aSj hl her hp (a2 s hs).2 (by rw [e]; exact (b2 u hu).2)).elim,
   aJp (fun s hs u hu e => by have h1 := (a2 s hs).2; rw [e, (c2 u hu).2.1] at h1; cases h1),
   aJp (fun s hs u hu e => by have h1 := (b2 s hs).2; rw [e, (c2 u hu).2.2] at h1; cases h1)]
  rfl
 rw [eR, List.length_map]
 have hnd : NmD (dP l (cN gP l)).1 := by rw [tO her]; exact bJs k2 k3
 rw [List.all_eq_true]
 intro i hi
 have hi := List.mem_range.1 hi
 unfold nuB
 rw [List.all_eq_true]
 intro k hk
 have hk := List.mem_range.1 hk
 have hg : ∀ j, (hj : j < (dP l (cN gP l)).1.length) → yI (bC l) j = ((dP l (cN gP l)).1[j]).fName := fun j hj => by
  unfold yI; rw [eR, List.getD_eq_getElem?_getD, List.getElem?_map, List.getElem?_eq_getElem hj]; rfl
 rw [hg i hi, hg k (by omega)]
 exact decide_eq_true (List.pairwise_iff_getElem.1 hnd k i (by omega) hi hk)
theorem bHj {i : Nat} (hi : i < (bC l).fRoutes.length) : wN (bC l) (yI (bC l) i) (bC l).fRoutes.length = (i : Int) := by
 refine (bJd hi).2 ?_
 have h := aTs hl her
 unfold chk at h
 repeat (split at h; · cases h)
 rename_i h6
 exact aGf (by simpa using h6) hi
theorem bId {r : a8} (hr : r ∈ (bC l).fRoutes) {s : aN} (hs : s ∈ gJ r) : ∃ k : Nat, plI (bC l) s.fEl = (k : Int) ∧ k < (bC l).fHomes.length ∧ hmN (bC l) k = bU l s.fEl := by
 obtain ⟨r0, i, hi, hp, hq, rfl⟩ := aHz hl her hr
 obtain ⟨⟨a1, a2⟩, ⟨b1, b2⟩, c1, c2⟩ := aFd hl her hp
 have hS : aDk l s := by
  unfold gJ at hs
  rcases List.mem_append.1 hs with hs | hs
  ·rcases List.mem_append.1 hs with hs | hs
   ·exact (a2 s hs).1
   exact (b2 s hs).1
  exact (c2 s hs).1
 obtain ⟨k, hk, e1, e2⟩ := aMs (aMf hS.1 hS.2.1)
 have e := tH her
 have eP : (bC l).fPoints = d8 l := by rw [e]
 have eH : (bC l).fHomes = (d8 l).map (bU l) := by rw [e]
 refine ⟨k, by unfold plI; rw [eP]; exact e1, by rw [eH, List.length_map]; exact hk, ?_⟩
 unfold hmN
 rw [eH, List.getD_eq_getElem?_getD, List.getElem?_map, List.getElem?_eq_getElem hk]
 show bU l (d8 l)[k] = _
 rw [List.getD_eq_getElem?_getD, List.getElem?_eq_getElem hk] at e2
 rw [show (d8 l)[k] = s.fEl from e2]
end
theorem bCb (t : cP) {i : Nat} (n : Nat) (hi : i < n) : (dX t (t.fRoutes.getD i default).fEntry n).countP (fun k => decide (k = (i : Int))) = 1 := by
 unfold dX
 rw [List.countP_map, List.countP_filter]
 have : ∀ m, (List.range m).countP (fun a => ((fun k => decide (k = (i : Int))) ∘ fun k : Nat => (k : Int)) a && decide ((t.fRoutes.getD a default).fEntry = (t.fRoutes.getD i default).fEntry)) = if i < m then 1 else 0 := by
  intro m
  induction m with
  | zero => simp
  | succ m ih =>
   rw [List.range_succ, List.countP_append, ih]
   by_cases hm : m = i
   ·subst hm; simp
   have : ¬ ((m : Int) = (i : Int)) := by omega
   simp only [List.countP_cons, List.countP_nil, Function.comp, this, decide_false, Bool.false_and]
   simp only [Bool.false_eq_true, if_false, Nat.add_zero]
   by_cases h1 : i < m
   ·rw [if_pos h1, if_pos (by omega)]
   rw [if_neg h1, if_neg (by omega)]
 rw [this n, if_pos hi]
def occ (L : List Int) (x : Int) (j : Nat) : Int := ((L.take j).countP fun k => decide (k = x) : Nat)
theorem bRf (L : List Int) (x : Int) (j : Nat) : 0 ≤ occ L x j ∧ occ L x j ≤ (j : Int) := by
 unfold occ
 have h1 : (L.take j).countP (fun k => decide (k = x)) ≤ (L.take j).length := List.countP_le_length
 have h2 := List.length_take_le j L
 omega
theorem bPz {L : List Int} {x : Int} {j : Nat} (hj : j < L.length) (h : L.getD j default = x) : occ L x (j + 1) = occ L x j + 1 := by
 unfold occ
 rw [fV default hj, List.countP_append, h]
 simp
theorem bPp {L : List Int} {x : Int} {j : Nat} (hj : j < L.length) (h : ¬ L.getD j default = x) : occ L x (j + 1) = occ L x j := by
 unfold occ
 rw [fV default hj, List.countP_append, List.countP_singleton, decide_eq_false h]
 simp
theorem aZs (t : cP) {i n : Nat} (hi : i < n) {j : Nat} (hj : j = (dX t (t.fRoutes.getD i default).fEntry n).length) : occ (dX t (t.fRoutes.getD i default).fEntry n) (i : Int) j = 1 := by
 unfold occ
 rw [hj, List.take_length, bCb t n hi]; rfl
theorem bBj {s : aW} {k : Int} (h : (cT k s.fIn s.fOut).2 = true) : (bsN s (gH k).toNat).length ≤ 2 := by
 have hk : k = 1 ∨ k = 2 ∨ k = 3 := by
  by_cases h1 : k = 1
  ·exact .inl h1
  by_cases h2 : k = 2
  ·exact .inr (.inl h2)
  by_cases h3 : k = 3
  ·exact .inr (.inr h3)
  rw [bEk h1 h2 h3] at h; cases h
 have key : ∀ m : Nat, (bsN s m).length = ((List.range m).filter fun (i : Nat) => decide ((i : Int) ≠ s.fIn ∧ (i : Int) ≠ s.fOut)).length := fun m => by unfold bsN; rw [List.length_map]
 rw [key]
 generalize s.fIn = a at *
 generalize s.fOut = b at *
 rcases hk with rfl | rfl | rfl
 ·exact Nat.le_trans (List.length_filter_le _ _) (by simp [gH])
 ·rw [aFx] at h
  have h3 : (gH 2).toNat = 3 := rfl
  rw [h3]
  have : (a = 0 ∧ b = 1) ∨ (a = 1 ∧ b = 0) ∨ (a = 0 ∧ b = 2) ∨ (a = 2 ∧ b = 0) := by
   split at h
   ·omega
   split at h
   ·omega
   cases h
  rcases this with ⟨rfl, rfl⟩ | ⟨rfl, rfl⟩ | ⟨rfl, rfl⟩ | ⟨rfl, rfl⟩ <;> decide
 rw [bEy] at h
 have h := of_decide_eq_true h
 have h3 : (gH 3).toNat = 4 := rfl
 rw [h3]
 have : (a = 0 ∧ b = 1) ∨ (a = 1 ∧ b = 0) ∨ (a = 2 ∧ b = 3) ∨ (a = 3 ∧ b = 2) := by omega
 rcases this with ⟨rfl, rfl⟩ | ⟨rfl, rfl⟩ | ⟨rfl, rfl⟩ | ⟨rfl, rfl⟩ <;> decide
theorem aYn (l : aB) (s : aW) : (hD l s).length ≤ 2 := by
 unfold hD
 split
 ·rename_i h
  have he := f7.2 (aAg h)
  rw [oD he] at h
  exact bBj h
 simp
theorem aUs (l : aB) (q : List aW) : (j7 l q).length ≤ 2 * q.length := by
 unfold j7
 have := tA (f := hD l) (c := 2) (L := q) fun s _ => aYn l s
 omega
section
variable {l : aB} (hl : eK l) (her : (dP l (cN gP l)).2 = 0)
include hl her
theorem aXu : z7 (bC l) = true := by
 have e := tH her
 have hal := xH l
 have hpl : (d8 l).length ≤ l.fElements.length := pQ l _
 have hel := hl.el
 unfold z7
 rw [Bool.and_eq_true]
 constructor
 ·rw [e]
  exact decide_eq_true ⟨by simp only [List.length_map]; omega, by simp only; omega, by simp only [List.length_map]; omega⟩
 rw [List.all_eq_true]
 intro r hr
 obtain ⟨r0, i, hi, hp, hq, rfl⟩ := aHz hl her hr
 have h1 := hp.len
 have h2 := aEj l r0
 have h3 := xT l r0.fPath
 have h4 := xT l (m0 l r0)
 have h5 := aEk l r0.fPath
 have h6 := aEk l (m0 l r0)
 have h7 := aUs l (r0.fPath ++ m0 l r0)
 rw [List.length_append] at h7
 obtain ⟨f1, f2, f3⟩ := aEe l (zY l r0) (j7 l (r0.fPath ++ m0 l r0))
 have f4 := xQ (qC l (zY l r0) (j7 l (r0.fPath ++ m0 l r0))).1
 have f5 := bCa (qC l (zY l r0) (j7 l (r0.fPath ++ m0 l r0))).2.1
 have q1 : (lX l r0).fPath = r0.fPath := rfl
 have q2 : (lX l r0).fPoints = tI l r0.fPath := hp.pt
 have q3 : (lX l r0).fSections = eW l r0.fPath := hp.sec
 have q4 : (lX l r0).fOver = m0 l r0 := rfl
 have q5 : (lX l r0).fOverPoints = tI l (m0 l r0) := rfl
 have q6 : (lX l r0).fOverSections = eW l (m0 l r0) := rfl
 have q7 : (lX l r0).fFlank = dQ (qC l (zY l r0) (j7 l (r0.fPath ++ m0 l r0))).1 := rfl
 have q8 : (lX l r0).fGuards = mkR (qC l (zY l r0) (j7 l (r0.fPath ++ m0 l r0))).2.1 := rfl
 have q9 : (lX l r0).fGaps = (qC l (zY l r0) (j7 l (r0.fPath ++ m0 l r0))).2.2 := rfl
 unfold fwR
 rw [q1, q2, q3, q4, q5, q6, q7, q8, q9]
 exact decide_eq_true (by omega)
end
end Go.Sg
namespace Go.Sg
open Go.Proofs
section
attribute [local go_sem] mJ sX w9 cond_true cond_false lF List.length_map List.take_length Nat.mul_one Nat.add_zero Nat.zero_add ite_self
end
end Go.Sg
namespace Go.Sg
open Go.Proofs
theorem bIz (n : Nat) : ((n : Int) - 1).toNat = n - 1 := by omega
theorem aZa : (default : List aW) = [] := rfl
theorem aVv (a b c : ByteArray) : a ++ b ++ c = a ++ (b ++ c) := ByteArray.append_assoc
section
attribute [local go_sem] List.drop_zero hM iB iG fO kU kV kR kY kS kZ iR i6 iW fS lP lR lS lJ lQ lK lW lL lU lV iP iS iT iX aZa bIz aIn List.length_map pC aVv or_self
end
end Go.Sg
namespace Go.Sg
open Go.Proofs
def ovX (r : a8) (h : Hd) (n : Nat) : List DV := [vs r.fName, vi r.fEntry, vi r.fExit, b8 r.fPath, fU r.fPoints, dL r.fSections, vi r.fApproach, vi r.fLength, h.sl n, .v (.slice none 0 0), .v (.slice none 0 0), fU r.fFlank, dL r.fGuards, aHp r.fGaps]
section
variable (r : a8) (h h' : Hd) (n m : Nat)
theorem bHz : (((bB r).set 8 (.v (.slice none 0 0))).set 9 (.v (.slice none 0 0))).set 10 (.v (.slice none 0 0)) = ovX r jC 0 := rfl
theorem bEb : gT (fun x => x + 100000) (ovX r h n) = ovX r h n := rfl
theorem bCr : (ovX r h n).length = 14 := rfl
theorem bAw : (ovX r h n).getD 8 .any = h.sl n := rfl
theorem aXx : (ovX r h n).set 8 (h'.sl m) = ovX r h' m := rfl
theorem bMm (z k : Nat) (f : Nat → List DV) : (ovX r h n).set 8 (.sl z k f) = [vs r.fName, vi r.fEntry, vi r.fExit, b8 r.fPath, fU r.fPoints, dL r.fSections, vi r.fApproach, vi r.fLength, .sl z k f, .v (.slice none 0 0), .v (.slice none 0 0), fU r.fFlank, dL r.fGuards, aHp r.fGaps] := rfl
theorem aQp : (ovX r h n).take 14 = ovX r h n := rfl
theorem bAu (p : Nat → Bool) : dF p (ovX r h n) = true := rfl
end
section
attribute [local go_sem] or_self List.length_map List.drop_zero bMm bHz bEb bCr bAw aXx aQp bAu
end
end Go.Sg
namespace Go.Sg
open Go.Proofs
section
variable (O : aS) (l : aB) (r : a8) (e : cG)
def jQ : aS := dU O [(3, .bx (aK l)), (4, .bx (bB r)), (5, .bx (cE e)), (6, .bx [vi 0, vi 0]), (7, .bx [vi 0]), (8, .bx [vb false])]
def aJm : aS := dU (jQ O l r e) [(3, .bp 100003 0), (4, .bp 100004 0), (5, .bp 100005 0), (6, .bp 100006 0), (7, .bp 100007 0), (8, .bp 100008 0)]
theorem aMy (s : Nat) : aJm O l r e (s + 100000) = sh (jQ O l r e s) := by
 show dU (jQ O l r e) _ (s + 100000) = _
 repeat rw [sT, aO, if_neg (by omega)]
 rw [xL, bW]
theorem aNd (i : Nat) (hi' : i < 100000) : aJm O l r e i = .any ∨ (i < Tryz.f79.ntmps ∧ (∃ cs, jQ O l r e i = .bx cs) ∧ aJm O l r e i = .bp (i + 100000) 0) := by
 by_cases h : i = 3 ∨ i = 4 ∨ i = 5 ∨ i = 6 ∨ i = 7 ∨ i = 8
 ·right
  rcases h with rfl | rfl | rfl | rfl | rfl | rfl <;> exact ⟨by decide, ⟨_, rfl⟩, rfl⟩
 left
 show dU (jQ O l r e) _ i = _
 repeat rw [sT, aO, if_neg (by omega)]
 rw [xL]; exact mF _ hi'
theorem xF : hi (jQ O l r e) = bT O := by
 unfold jQ
 repeat rw [sT, yV _ _ (by omega)]
 rw [xL, aGs]
end
theorem aTi {P : Program} {nt : Nat} {c : Code} {Q : Exit → aS → Prop} {ρ : aS} (h : ∀ Q', (∀ e ρ, Q e ρ → Q' e ρ) → AW P nt c Q' ρ) : AW P nt c Q ρ := h Q fun _ _ h => h
theorem aLr {ρ : aS} {s : Nat} {x : DV} (h : ρ s = x) : set ρ s x = ρ := by
 funext i; rw [aO]; split
 ·rename_i e; rw [e, h]
 rfl
theorem aYc {P : Program} {ρ : aS} {a : Nat} {t : TypeId} {c : DV} (h : ρ a = .bx [c]) (hl : eD P t = some none) (hs : sh c = c) : aAq P ρ (.cell a t) c := ⟨[c], h, .inr ⟨hl, c, rfl, by rw [hs]; exact dI.refl _⟩⟩
theorem aBx {o : Oper} (hop : o.op = .binOp .neq 20 (.tmp 3) (.const .nilIface) 20) (a : Act) (w : World) (u : TypeId) (v : Value) (h : a.eval (.tmp 3) = .iface u v) : (execOp a.eval o).run Tryz.prog w = .ok (.value (.bool true)) w := by
 have h2 : a.eval (.const .nilIface) = .nilIface := rfl
 have h3 : (eqGuard .neq 20 (.tmp 3) (.const .nilIface) (.iface u v) .nilIface).run Tryz.prog w = .ok () w := rfl
 have h4 : (binOp .neq 20 (.iface u v) .nilIface).run Tryz.prog w = .ok (.bool true) w := rfl
 simp [execOp, hop, h, h2, h3, h4]
theorem aCj {o : Oper} (hop : o.op = .binOp .neq 20 (.tmp 3) (.const .nilIface) 20) (a : Act) (w : World) (h : a.eval (.tmp 3) = .nilIface) : (execOp a.eval o).run Tryz.prog w = .ok (.value (.bool false)) w := by
 have h2 : a.eval (.const .nilIface) = .nilIface := rfl
 have h3 : (eqGuard .neq 20 (.tmp 3) (.const .nilIface) .nilIface .nilIface).run Tryz.prog w = .ok () w := rfl
 have h4 : (binOp .neq 20 .nilIface .nilIface).run Tryz.prog w = .ok (.bool false) w := rfl
 simp [execOp, hop, h, h2, h3, h4]
section
attribute [local go_sem] mJ w9
set_option maxHeartbeats 4000000 in
theorem wE (O : aS) (l : aB) (r : a8) (e : cG) (hl : eK l) : aY Tryz.prog O 79 [.agg (aK l), .agg (bB r), .agg (cE e)] (.tup [.agg (a7 (prT (pE l r 4 e)).1), vi (prT (pE l r 4 e)).2.1, vb (prT (pE l r 4 e)).2.2]) := by
 have hp := fun O => qU O l r e hl
 have q3 : bT (jQ O l r e) 100003 = .bx (aK l) := rfl
 have q4 : bT (jQ O l r e) 100004 = .bx (bB r) := rfl
 have q5 : bT (jQ O l r e) 100005 = .bx (cE e) := rfl
 have q6 : bT (jQ O l r e) 100006 = .bx [vi 0, vi 0] := rfl
 have q7 : bT (jQ O l r e) 100007 = .bx [vi 0] := rfl
 have q8 : bT (jQ O l r e) 100008 = .bx [vb false] := rfl
 cases hg : pE l r 4 e with
 | none =>
  rw [hg] at hp
  refine tG (ρ1 := jQ O l r e) (ρ2 := aJm O l r e) (x6 := [vi 0, vi 0]) (x7 := [vi 0]) (x8 := [vb false]) (y6 := [vi 0, vi 0]) (y7 := [vi (-1)]) (y8 := [vb false]) Tryz.func79 rfl (by kernel_rfl) rfl rfl rfl rfl rfl rfl Tryz.func125 rfl rfl rfl (by kernel_rfl) rfl rfl rfl rfl rfl (aBx rfl) (aCj rfl) ?_ (xF O l r e) ⟨_, rfl⟩ ⟨_, rfl⟩ ⟨_, rfl⟩ (aNd O l r e) (aMy O l r e) rfl rfl rfl rfl ?_ ?_
  ·refine aX [0, 1, 2] (by kernel_rfl) ?_
   refine rF ?_
   refine Le.trans (Le.keepC [3, 4, 5, 6, 7, 8] _) ?_
   have hle : ∀ ρ' : aS, ρ' = jQ O l r e → Le ρ' (jQ O l r e) := fun _ h => h ▸ Le.refl _
   refine hle _ ?_
   unfold jQ
   simp (disch := omega) only [go_sem, seval] <;> rfl
  ·refine aTi fun Q' hQ' => ?_
   refine aA fun K hK => ?_
   unfold aJm
   refine kF ?_
   show uS _ _ _ _ _ _ _
   refine iF ?_
   refine cS rfl (by kernel_rfl) (by kernel_rfl) ?_
   simp (disch := omega) only [go_sem, seval, q3, q4, q5, q6, q7, q8]
   repeat refine And.intro bS ?_
   show uS _ _ _ _ _ _ _
   refine iF ?_
   refine cS rfl (by kernel_rfl) (by kernel_rfl) ?_
   simp (disch := omega) only [go_sem, seval, q3, q4, q5, q6, q7, q8]
   repeat refine And.intro bS ?_
   show uS _ _ _ _ _ _ _
   refine iF ?_
   refine cS rfl (by kernel_rfl) (by kernel_rfl) ?_
   simp (disch := omega) only [go_sem, seval, q3, q4, q5, q6, q7, q8]
   repeat refine And.intro bS ?_
   show uS _ _ _ _ _ _ _
   refine aCc rfl rfl rfl (by decide) (by kernel_rfl) (by simp (disch := omega) only [go_sem, seval, q3, q4, q5, q6, q7, q8]) (by simp (disch := omega) only [go_sem, seval, q3, q4, q5, q6, q7, q8]) (by simp (disch := omega) only [go_sem, seval, q3, q4, q5, q6, q7, q8] <;> rfl) (by kernel_rfl) (hp _) ?_
   intro tP vP
   change Q' _ _
   refine hQ' _ _ ?_
   refine ⟨jQ O l r e, fun s => ?_, xF O l r e, by simp (disch := omega) only [go_sem, seval, q3, q4, q5, q6, q7, q8], by simp (disch := omega) only [go_sem, seval, q3, q4, q5, q6, q7, q8], by simp (disch := omega) only [go_sem, seval, q3, q4, q5, q6, q7, q8], rfl, rfl, rfl, .inr ⟨⟨tP, vP, rfl⟩, rfl, rfl, rfl, ?_⟩⟩
   ·repeat rw [aO, if_neg (by omega)]
    rw [bW]
   exact ⟨_, rfl, rfl, (RO.cons (roC rfl rfl (by kernel_rfl) rfl) (.cons (aYc rfl (by kernel_rfl) rfl) (.cons (aYc rfl (by kernel_rfl) rfl) .nil)) : RO Tryz.prog _ [.cell 6 68, .cell 7 3, .cell 8 4] _).get⟩
  intro O2 h6 h7 h8
  have r6 : bT O2 100006 = .bx [vi 0, vi 0] := by rw [show (100006 : Nat) = 6 + 100000 from rfl, bW, h6]; rfl
  have r7 : bT O2 100007 = .bx [vi 0] := by rw [show (100007 : Nat) = 7 + 100000 from rfl, bW, h7]; rfl
  have r8 : bT O2 100008 = .bx [vb false] := by rw [show (100008 : Nat) = 8 + 100000 from rfl, bW, h8]; rfl
  refine aX [0, 1, 2] (by kernel_rfl) ?_
  simp (disch := omega) only [go_sem, seval, seval, r6, r7, r8]
  repeat refine And.intro bS ?_
  intro s
  unfold wX
  rw [aO, aO, aO]
  split
  ·rfl
  split
  ·rfl
  split
  ·rfl
  exact bW _ _
 | some p =>
  rw [hg] at hp
  simp only [Option.map_some, prV] at hp
  refine tG (ρ1 := jQ O l r e) (ρ2 := aJm O l r e) (x6 := a7 p.1) (x7 := [vi p.2]) (x8 := [vb true]) (y6 := [vi 0, vi 0]) (y7 := [vi (-1)]) (y8 := [vb false]) Tryz.func79 rfl (by kernel_rfl) rfl rfl rfl rfl rfl rfl Tryz.func125 rfl rfl rfl (by kernel_rfl) rfl rfl rfl rfl rfl (aBx rfl) (aCj rfl) ?_ (xF O l r e) ⟨_, rfl⟩ ⟨_, rfl⟩ ⟨_, rfl⟩ (aNd O l r e) (aMy O l r e) rfl rfl rfl rfl ?_ ?_
  ·refine aX [0, 1, 2] (by kernel_rfl) ?_
   refine rF ?_
   refine Le.trans (Le.keepC [3, 4, 5, 6, 7, 8] _) ?_
   have hle : ∀ ρ' : aS, ρ' = jQ O l r e → Le ρ' (jQ O l r e) := fun _ h => h ▸ Le.refl _
   refine hle _ ?_
   unfold jQ
   simp (disch := omega) only [go_sem, seval] <;> rfl
  ·refine aTi fun Q' hQ' => ?_
   unfold aJm
   refine aEg [3, 4, 5, 6, 7, 8] (fun ρ => ρ = dU (set (set (jQ O l r e) 6 (.bx (a7 p.1))) 7 (.bx [vi p.2])) [(3, .bp 100003 0), (4, .bp 100004 0), (5, .bp 100005 0), (6, .bp 100006 0), (7, .bp 100007 0), (8, .bp 100008 0)]) (fun K hK => ?_) ?_
   ·refine aX [3, 4, 5, 6, 7, 8] (by kernel_rfl) ?_
    simp (disch := omega) only [go_sem, seval, q3, q4, q5, q6, q7, q8]
    repeat refine And.intro bS ?_
    refine fP _ (vU.pcall (hp _)) ?_
    simp (disch := omega) only [go_sem, seval, q3, q4, q5, q6, q7, q8]
    repeat refine And.intro bS ?_
    refine hK _ ?_
    simp (disch := omega) only [go_sem, seval, q3, q4, q5, q6, q7, q8] <;> first | rfl | simp
   rintro ρ rfl
   have hX : hi (set (set (jQ O l r e) 6 (.bx (a7 p.1))) 7 (.bx [vi p.2])) = bT O := by rw [yV _ _ (by omega), yV _ _ (by omega), xF]
   have v6 : bT (set (set (jQ O l r e) 6 (.bx (a7 p.1))) 7 (.bx [vi p.2])) 100006 = .bx (a7 p.1) := rfl
   have v7 : bT (set (set (jQ O l r e) 6 (.bx (a7 p.1))) 7 (.bx [vi p.2])) 100007 = .bx [vi p.2] := rfl
   have v8 : bT (set (set (jQ O l r e) 6 (.bx (a7 p.1))) 7 (.bx [vi p.2])) 100008 = .bx [vb false] := rfl
   have x6 : (set (set (jQ O l r e) 6 (.bx (a7 p.1))) 7 (.bx [vi p.2])) 6 = .bx (a7 p.1) := rfl
   have x7 : (set (set (jQ O l r e) 6 (.bx (a7 p.1))) 7 (.bx [vi p.2])) 7 = .bx [vi p.2] := rfl
   generalize set (set (jQ O l r e) 6 (.bx (a7 p.1))) 7 (.bx [vi p.2]) = X at *
   have w6 : set (bT X) 100006 (.bx [vi p.1.fEl, vi p.1.fPos]) = bT X := aLr v6
   have w7 : set (bT X) 100007 (.bx [vi p.2]) = bT X := aLr v7
   refine aA fun K hK => ?_
   refine aHj [3, 4, 5, 6, 7, 8] [] [] fH (by kernel_rfl) (fun Y hY hYm hY0 => ?_)
   have tT : ∀ ρ, keepC [3, 4, 5, 6, 7, 8, 17, 18] ρ = dU (set X 8 (.bx [vb true])) [(3, .bp 100003 0), (4, .bp 100004 0), (5, .bp 100005 0), (6, .bp 100006 0), (7, .bp 100007 0), (8, .bp 100008 0), (17, .agg (a7 p.1)), (18, vi p.2)] → Y 0 #[true, true, true, true, true] ρ := by
    intro ρ hρ
    refine hY0 _ [3, 4, 5, 6, 7, 8, 17, 18] _ (by kernel_rfl) ?_
    rw [hρ]
    clear hY hYm hY0 hρ
    simp (disch := omega) only [go_sem, seval, cond_true, cond_false, v6, v7, v8, w6, w7]
    refine hK _ ?_; clear hK
    refine aM ?_
    refine hQ' _ _ ?_
    refine ⟨set X 8 (.bx [vb true]), fun s => ?_, by rw [yV _ _ (by omega)]; exact hX, by simp (disch := omega) only [go_sem, seval, cond_true, cond_false, v6, v7, v8, w6, w7], by simp (disch := omega) only [go_sem, seval, cond_true, cond_false, v6, v7, v8, w6, w7], by simp (disch := omega) only [go_sem, seval, cond_true, cond_false, v6, v7, v8, w6, w7], by rw [aO, if_neg (by omega)]; exact x6, by rw [aO, if_neg (by omega)]; exact x7, by rw [aO, if_pos rfl], .inl ⟨rfl, ?_⟩⟩
    ·simp (disch := omega) only [go_sem, seval, cond_true, cond_false, v6, v7, v8, w6, w7]
     split
     ·rfl
     exact bW _ _
    have y6 : mL (set X 8 (.bx [vb true])) 6 = .bx (a7 p.1) := by unfold mL; rw [if_pos (by omega), if_pos (by omega), aO, if_neg (by omega)]; exact x6
    have y7 : mL (set X 8 (.bx [vb true])) 7 = .bx [vi p.2] := by unfold mL; rw [if_pos (by omega), if_pos (by omega), aO, if_neg (by omega)]; exact x7
    have y8 : mL (set X 8 (.bx [vb true])) 8 = .bx [vb true] := by unfold mL; rw [if_pos (by omega), if_pos (by omega), aO, if_pos rfl]
    exact ⟨_, rfl, rfl, (RO.cons (roC y6 rfl (by kernel_rfl) rfl) (.cons (aYc y7 (by kernel_rfl) rfl) (.cons (aYc y8 (by kernel_rfl) rfl) .nil)) : RO Tryz.prog _ [.cell 6 68, .cell 7 3, .cell 8 4] _).get⟩
   have main : ∀ (m : Nat) (b0 b1 b2 b3 b4 : Bool), cB b0 + cB b1 + cB b2 + cB b3 + cB b4 = m → (b4 = true → b3 = true) → (b3 = true → b2 = true) → (b2 = true → b0 = true) → (b3 = true → b1 = true) → (b4 = true → b2 = true) → (b4 = true → b1 = true) → (b4 = true → b0 = true) → (b3 = true → b0 = true) → ∀ ρ, keepC [3, 4, 5, 6, 7, 8, 17, 18] ρ = dU (bif b4 then (set X 8 (.bx [vb true])) else X) [(3, .bp 100003 0), (4, .bp 100004 0), (5, .bp 100005 0), (6, .bp 100006 0), (7, .bp 100007 0), (8, .bp 100008 0), (17, bJ b0 (.agg (a7 p.1))), (18, bJ b1 (vi p.2))] → Y m #[b0, b1, b2, b3, b4] ρ := by
    intro m
    induction m with
    | zero =>
     intro b0 b1 b2 b3 b4 hm m4_3 m3_2 m2_0 m3_1 m4_2 m4_1 m4_0 m3_0 ρ hρ
     have hc : ∀ b, cB b = 0 → b = true := fun b h => by cases b; cases h; rfl
     have e0 : b0 = true := hc b0 (by omega)
     have e1 : b1 = true := hc b1 (by omega)
     have e2 : b2 = true := hc b2 (by omega)
     have e3 : b3 = true := hc b3 (by omega)
     have e4 : b4 = true := hc b4 (by omega)
     subst e0 e1 e2 e3 e4
     refine tT ρ (hρ.trans ?_)
     simp only [aBo, aBp, cond_true]
    | succ m ih =>
     intro b0 b1 b2 b3 b4 hm m4_3 m3_2 m2_0 m3_1 m4_2 m4_1 m4_0 m3_0 ρ hρ
     have hex : ∃ i, i < 5 ∧ #[b0, b1, b2, b3, b4].getD i true = false := by
      clear ih hρ tT hY hYm hY0
      cases b0
      ·exact ⟨0, by omega, rfl⟩
      cases b1
      ·exact ⟨1, by omega, rfl⟩
      cases b2
      ·exact ⟨2, by omega, rfl⟩
      cases b3
      ·exact ⟨3, by omega, rfl⟩
      cases b4
      ·exact ⟨4, by omega, rfl⟩
      exact absurd hm (by simp [cB])
     refine hYm m _ [3, 4, 5, 6, 7, 8, 17, 18] _ (by kernel_rfl) rfl hex ?_
     clear hY hYm hY0 tT hex
     intro iQ oQ hun hoQ hdep
     have hiQ : iQ < 5 := (List.getElem?_eq_some_iff.1 hoQ).1
     match iQ, hiQ with
     | 0, _ =>
      obtain rfl : b0 = false := hun
      obtain rfl := Option.some.inj hoQ
      have n2 : b2 = false := by cases hc : b2 with
       | false => rfl
       | true => exact absurd (m2_0 hc) (by decide)
      subst n2
      have n4 : b4 = false := by cases hc : b4 with
       | false => rfl
       | true => exact absurd (m4_0 hc) (by decide)
      subst n4
      have n3 : b3 = false := by cases hc : b3 with
       | false => rfl
       | true => exact absurd (m3_0 hc) (by decide)
      subst n3
      clear hdep
      rw [hρ]
      show qY _ _ _ false _ _
      simp (disch := omega) only [go_sem, seval, cond_true, cond_false, v6, v7, v8, w6, w7]
      repeat refine And.intro bS ?_
      refine ih true b1 false false false ?_ (fun h => by cases h) (fun h => by cases h) (fun h => by cases h) (fun h => by cases h) (fun h => by cases h) (fun h => by cases h) (fun h => by cases h) (fun h => by cases h) _ ?_
      ·simp only [cB, cond_true, cond_false] at hm ⊢; omega
      simp (disch := omega) only [go_sem, seval, cond_true, cond_false, v6, v7, v8, w6, w7] <;> first | rfl | simp
     | 1, _ =>
      obtain rfl : b1 = false := hun
      obtain rfl := Option.some.inj hoQ
      have n3 : b3 = false := by cases hc : b3 with
       | false => rfl
       | true => exact absurd (m3_1 hc) (by decide)
      subst n3
      have n4 : b4 = false := by cases hc : b4 with
       | false => rfl
       | true => exact absurd (m4_1 hc) (by decide)
      subst n4
      clear hdep
      rw [hρ]
      show qY _ _ _ false _ _
      simp (disch := omega) only [go_sem, seval, cond_true, cond_false, v6, v7, v8, w6, w7]
      repeat refine And.intro bS ?_
      refine ih b0 true b2 false false ?_ (fun h => by cases h) (fun h => by cases h) m2_0 (fun h => by cases h) (fun h => by cases h) (fun h => by cases h) (fun h => by cases h) (fun h => by cases h) _ ?_
      ·simp only [cB, cond_true, cond_false] at hm ⊢; omega
      simp (disch := omega) only [go_sem, seval, cond_true, cond_false, v6, v7, v8, w6, w7] <;> first | rfl | simp
     | 2, _ =>
      obtain rfl : b2 = false := hun
      obtain rfl := Option.some.inj hoQ
      have e0 : b0 = true := by first | (refine hdep ⟨0, .data⟩ ?_ rfl; simp; done) | (refine hdep ⟨0, .phase⟩ ?_ rfl; simp; done) | (refine hdep ⟨0, .chain⟩ ?_ rfl; simp; done)
      subst e0
      have n3 : b3 = false := by cases hc : b3 with
       | false => rfl
       | true => exact absurd (m3_2 hc) (by decide)
      subst n3
      have n4 : b4 = false := by cases hc : b4 with
       | false => rfl
       | true => exact absurd (m4_2 hc) (by decide)
      subst n4
      clear hdep
      rw [hρ]
      show qY _ _ _ false _ _
      simp (disch := omega) only [go_sem, seval, cond_true, cond_false, v6, v7, v8, w6, w7]
      repeat refine And.intro bS ?_
      refine ih true b1 true false false ?_ (fun h => by cases h) (fun h => by cases h) (fun _ => rfl) (fun h => by cases h) (fun h => by cases h) (fun h => by cases h) (fun h => by cases h) (fun h => by cases h) _ ?_
      ·simp only [cB, cond_true, cond_false] at hm ⊢; omega
      simp (disch := omega) only [go_sem, seval, cond_true, cond_false, v6, v7, v8, w6, w7] <;> first | rfl | simp
     | 3, _ =>
      obtain rfl : b3 = false := hun
      obtain rfl := Option.some.inj hoQ
      have e0 : b0 = true := by first | (refine hdep ⟨0, .data⟩ ?_ rfl; simp; done) | (refine hdep ⟨0, .phase⟩ ?_ rfl; simp; done) | (refine hdep ⟨0, .chain⟩ ?_ rfl; simp; done)
      have e1 : b1 = true := by first | (refine hdep ⟨1, .data⟩ ?_ rfl; simp; done) | (refine hdep ⟨1, .phase⟩ ?_ rfl; simp; done) | (refine hdep ⟨1, .chain⟩ ?_ rfl; simp; done)
      have e2 : b2 = true := by first | (refine hdep ⟨2, .data⟩ ?_ rfl; simp; done) | (refine hdep ⟨2, .phase⟩ ?_ rfl; simp; done) | (refine hdep ⟨2, .chain⟩ ?_ rfl; simp; done)
      subst e0 e1 e2
      have n4 : b4 = false := by cases hc : b4 with
       | false => rfl
       | true => exact absurd (m4_3 hc) (by decide)
      subst n4
      clear hdep
      rw [hρ]
      show qY _ _ _ false _ _
      simp (disch := omega) only [go_sem, seval, cond_true, cond_false, v6, v7, v8, w6, w7]
      repeat refine And.intro bS ?_
      refine ih true true true true false ?_ (fun h => by cases h) (fun _ => rfl) (fun _ => rfl) (fun _ => rfl) (fun h => by cases h) (fun h => by cases h) (fun h => by cases h) (fun _ => rfl) _ ?_
      ·simp only [cB, cond_true, cond_false] at hm ⊢; omega
      simp (disch := omega) only [go_sem, seval, cond_true, cond_false, v6, v7, v8, w6, w7] <;> first | rfl | simp
     | 4, _ =>
      obtain rfl : b4 = false := hun
      obtain rfl := Option.some.inj hoQ
      have e0 : b0 = true := by first | (refine hdep ⟨0, .data⟩ ?_ rfl; simp; done) | (refine hdep ⟨0, .phase⟩ ?_ rfl; simp; done) | (refine hdep ⟨0, .chain⟩ ?_ rfl; simp; done)
      have e1 : b1 = true := by first | (refine hdep ⟨1, .data⟩ ?_ rfl; simp; done) | (refine hdep ⟨1, .phase⟩ ?_ rfl; simp; done) | (refine hdep ⟨1, .chain⟩ ?_ rfl; simp; done)
      have e2 : b2 = true := by first | (refine hdep ⟨2, .data⟩ ?_ rfl; simp; done) | (refine hdep ⟨2, .phase⟩ ?_ rfl; simp; done) | (refine hdep ⟨2, .chain⟩ ?_ rfl; simp; done)
      have e3 : b3 = true := by first | (refine hdep ⟨3, .data⟩ ?_ rfl; simp; done) | (refine hdep ⟨3, .phase⟩ ?_ rfl; simp; done) | (refine hdep ⟨3, .chain⟩ ?_ rfl; simp; done)
      subst e0 e1 e2 e3
      clear hdep
      rw [hρ]
      show qY _ _ _ false _ _
      simp (disch := omega) only [go_sem, seval, cond_true, cond_false, v6, v7, v8, w6, w7]
      repeat refine And.intro bS ?_
      refine ih true true true true true ?_ (fun _ => rfl) (fun _ => rfl) (fun _ => rfl) (fun _ => rfl) (fun _ => rfl) (fun _ => rfl) (fun _ => rfl) (fun _ => rfl) _ ?_
      ·simp only [cB, cond_true, cond_false] at hm ⊢; omega
      simp (disch := omega) only [go_sem, seval, cond_true, cond_false, v6, v7, v8, w6, w7] <;> first | rfl | simp
   refine main 5 false false false false false rfl (fun h => by cases h) (fun h => by cases h) (fun h => by cases h) (fun h => by cases h) (fun h => by cases h) (fun h => by cases h) (fun h => by cases h) (fun h => by cases h) _ ?_
   simp (disch := omega) only [go_sem, seval, cond_true, cond_false, v6, v7, v8, w6, w7] <;> first | rfl | simp
  intro O2 h6 h7 h8
  have r6 : bT O2 100006 = .bx (a7 p.1) := by rw [show (100006 : Nat) = 6 + 100000 from rfl, bW, h6]; rfl
  have r7 : bT O2 100007 = .bx [vi p.2] := by rw [show (100007 : Nat) = 7 + 100000 from rfl, bW, h7]; rfl
  have r8 : bT O2 100008 = .bx [vb true] := by rw [show (100008 : Nat) = 8 + 100000 from rfl, bW, h8]; rfl
  refine aX [0, 1, 2] (by kernel_rfl) ?_
  simp (disch := omega) only [go_sem, seval, seval, r6, r7, r8]
  repeat refine And.intro bS ?_
  intro s
  unfold wX
  rw [aO, aO, aO]
  split
  ·rfl
  split
  ·rfl
  split
  ·rfl
  exact bW _ _
end
end Go.Sg
