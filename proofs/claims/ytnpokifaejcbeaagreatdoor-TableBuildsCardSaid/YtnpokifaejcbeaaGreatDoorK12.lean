/- Several texts as one. -/
import Derived.Test.YtnpokifaejcbeaaGreatDoorK11
import Derived.Recover
set_option linter.unusedSectionVars false
set_option linter.unusedVariables false
set_option linter.unusedSimpArgs false
set_option maxRecDepth 20000
namespace Go.Sg
open Go.Proofs
def kZ (l : aC) (r : bE) : hM × Bool := if r.fExit < 0 ∨ (l.fSignals.length : Int) ≤ r.fExit then (default, false) else (l.fSignals.getD r.fExit.toNat default, true)
theorem aNe {l : aC} {r : bE} (h : r.fExit < 0 ∨ (l.fSignals.length : Int) ≤ r.fExit) : kZ l r = (default, false) := by unfold kZ; rw [if_pos h]
theorem aNu {l : aC} {r : bE} (h : ¬ (r.fExit < 0 ∨ (l.fSignals.length : Int) ≤ r.fExit)) : kZ l r = (l.fSignals.getD r.fExit.toNat default, true) := by unfold kZ; rw [if_neg h]
def f9 (l : aC) (s : bB) : Int := iP l ⟨s.fEl, s.fOut⟩
def nmT (l : aC) (a b : Int) : ByteArray := if b < 0 then (l.fSignals.getD a.toNat default).fName ++ ⟨#[45, 101, 110, 100]⟩ else (l.fSignals.getD a.toNat default).fName ++ ⟨#[45]⟩ ++ (l.fSignals.getD b.toNat default).fName
theorem zM {n k : Nat} (h : n ≤ 1000) (hk : k ≤ 10) : n + k ≤ maxLen := by unfold maxLen; omega
theorem vO {n k m : Nat} (h : n ≤ 1000) (hk : k ≤ 10) (hm : m ≤ 1000) : n + k + m ≤ maxLen := by unfold maxLen; omega
def iC (l : aC) (s : bB) : Bool := decide (0 ≤ f9 l s) || !(bP l s).2
set_option maxHeartbeats 2000000 in
theorem pN (O : aU) (l : aC) (r : bE) : aW Tryz.prog O 128 [.agg (aI l), .agg (aZ r)] (.tup [.agg (eC (kZ l r).1), vb (kZ l r).2]) := by
 refine aO 0 rfl (.agg (d := gB l.fSignals) (by simp [aI]) (.sl _ _ _)) fun hsl => ?_
 refine dT Tryz.func128 ?_
 refine aB [0, 1] ?_
 refine aA fun K1 hK1 => ?_
 refine aB [2, 3, 4] ?_
 refine aS (fun c0 => ?_) fun c0 => ?_
 ·refine aB [4] ?_
  refine aL ?_
  refine nC (.cons ?_ (.cons ?_ .nil))
  ·exact sJ (by simp (disch := omega) only [go_sem, seval] <;> rfl) (by simp (disch := omega) only [go_sem, seval] <;> ((rw [aNe c0]; try rfl))) (by kernel_rfl) (by first | rfl | (simp (disch := omega) only [go_sem, seval]))
  exact gZ (by simp (disch := omega) only [go_sem, seval] <;> ((rw [aNe c0]; try rfl))) rfl rfl
 refine aJ ?_
 refine hK1 _ ?_; clear hK1
 refine aB [2, 3, 4] ?_
 refine aL ?_
 refine nC (.cons ?_ (.cons ?_ .nil))
 ·exact sJ (by simp (disch := omega) only [go_sem, seval] <;> rfl) (by simp (disch := omega) only [go_sem, seval] <;> ((rw [aNu (by omega)]))) (by kernel_rfl) (by first | rfl | (simp (disch := omega) only [go_sem, seval]))
 exact gZ (by simp (disch := omega) only [go_sem, seval] <;> ((rw [aNu (by omega)]))) rfl rfl
set_option maxHeartbeats 2000000 in
theorem aBf (O : aU) (l : aC) (r : bE) : aW Tryz.prog O 94 [.agg (aI l), .agg (aZ r)] (.tup [.agg (eC (kZ l r).1), vb (kZ l r).2]) := by
 refine aO 0 rfl (.agg (d := gB l.fSignals) (by simp [aI]) (.sl _ _ _)) fun hsl => ?_
 refine dT Tryz.func94 ?_
 refine aB [0, 1] ?_
 refine aA fun K1 hK1 => ?_
 refine aB [2, 3, 4] ?_
 refine aS (fun c0 => ?_) fun c0 => ?_
 ·refine aB [4] ?_
  refine aL ?_
  refine nC (.cons ?_ (.cons ?_ .nil))
  ·exact sJ (by simp (disch := omega) only [go_sem, seval] <;> rfl) (by simp (disch := omega) only [go_sem, seval] <;> ((rw [aNe c0]; try rfl))) (by kernel_rfl) (by first | rfl | (simp (disch := omega) only [go_sem, seval]))
  exact gZ (by simp (disch := omega) only [go_sem, seval] <;> ((rw [aNe c0]; try rfl))) rfl rfl
 refine aJ ?_
 refine hK1 _ ?_; clear hK1
 refine aB [2, 3, 4] ?_
 refine aL ?_
 refine nC (.cons ?_ (.cons ?_ .nil))
 ·exact sJ (by simp (disch := omega) only [go_sem, seval] <;> rfl) (by simp (disch := omega) only [go_sem, seval] <;> ((rw [aNu (by omega)]))) (by kernel_rfl) (by first | rfl | (simp (disch := omega) only [go_sem, seval]))
 exact gZ (by simp (disch := omega) only [go_sem, seval] <;> ((rw [aNu (by omega)]))) rfl rfl
set_option maxHeartbeats 2000000 in
theorem nM (O : aU) (l : aC) (s : bB) : aW Tryz.prog O 142 [.agg (aI l), .agg (bJ s)] (.tup [vi (f9 l s), vb (iC l s)]) := by
 refine aO 0 rfl (.agg (d := gB l.fSignals) (by simp [aI]) (.sl _ _ _)) fun hsl => ?_
 refine dT Tryz.func142 ?_
 refine aB [0, 1] ?_
 refine aA fun K1 hK1 => ?_
 refine bF [2, 3] ?_
 refine dM (pC _ l ⟨s.fEl, s.fOut⟩) ?_
 refine hK1 _ ?_; clear hK1
 refine aA fun K2 hK2 => ?_
 refine bF [2, 3, 6] ?_
 refine dM (kX _ l s) ?_
 refine hK2 _ ?_; clear hK2
 refine aB [6, 8] ?_
 refine aL ?_
 refine nC (.cons ?_ (.cons ?_ .nil))
 ·exact gZ (by simp (disch := omega) only [go_sem, seval] <;> (rfl)) rfl rfl
 exact gZ (by simp (disch := omega) only [go_sem, seval] <;> (rfl)) rfl rfl
set_option maxHeartbeats 2000000 in
theorem nH (O : aU) (l : aC) (a b : Int) (ha : 0 ≤ a ∧ a < (l.fSignals.length : Int)) (hb : b < (l.fSignals.length : Int)) (hs : ∀ i, i < l.fSignals.length → (l.fSignals.getD i default).fName.size ≤ 1000) : aW Tryz.prog O 143 [.agg (aI l), vi a, vi b] (vs (nmT l a b)) := by
 refine aO 0 rfl (.agg (d := gB l.fSignals) (by simp [aI]) (.sl _ _ _)) fun hsl => ?_
 refine dT Tryz.func143 ?_
 refine aB [0, 1, 2] ?_
 refine aA fun K1 hK1 => ?_
 refine aB [1, 2, 3] ?_
 refine aS (fun c0 => ?_) fun c0 => ?_
 ·refine aA fun K3 hK3 => ?_
  refine a7 [1, 3] (by kernel_rfl) ?_
  simp (disch := omega) only [go_sem, seval]
  repeat refine And.intro (by first | exact zM (hs _ (by omega)) (by decide) | exact bS) ?_
  refine hK3 _ ?_; clear hK3
  refine aL ?_
  refine b6 6 ?_
  exact cP.is (by simp (disch := omega) only [go_sem, seval] <;> ((unfold nmT; rw [if_pos c0]))) rfl rfl
 refine aJ ?_
 refine hK1 _ ?_; clear hK1
 refine aA fun K4 hK4 => ?_
 refine eE [1, 2, 3] [(6, 29)] fK (by kernel_rfl) ?_
 simp (disch := omega) only [go_sem, seval]
 repeat refine And.intro (by first | exact zM (hs _ (by omega)) (by decide) | exact vO (hs _ (by omega)) (by decide) (hs _ (by omega)) | exact bS) ?_
 refine hK4 _ ?_; clear hK4
 refine aL ?_
 refine b6 6 ?_
 exact cP.is (by simp (disch := omega) only [go_sem, seval] <;> ((unfold nmT; rw [if_neg (by omega)]))) rfl rfl
abbrev lsN (q : List bB) : bB := q.getD (q.length - 1) default
def xI (l : aC) : Nat → cC → List bB → List (List bB)
 | 0, _, _ => []
 | n + 1, a, q => if q.length = 12 ∨ l3 l q a.fEl = false then [] else (cS l a).flatMap fun s => if iC l s = true then [q ++ [s]] else xI l n (bP l s).1 (q ++ [s])
def srP (l : aC) (f : cC) : Nat → cC → List bB → List (List bB)
 | 0, _, _ => []
 | n + 1, a, q => (cS l a).flatMap fun s => if sX l f (q ++ [s]) = true then (if iC l s = true then [q ++ [s]] else srP l f n (bP l s).1 (q ++ [s])) else []
theorem aDj : ∀ {L : List Pas} {k i : Int} {p : Pas}, p ∈ L → p.k = k → p.i = i → (jR L k i p.o).2 = true
 | [], _, _, _, h, _, _ => by cases h
 | x :: L, k, i, p, h, hk, hi => by
  unfold jR
  split
  ·rfl
  rename_i hn
  rcases List.mem_cons.1 h with rfl | h
  ·exact absurd ⟨hk, hi, rfl⟩ hn
  exact aDj h hk hi
theorem aQn {k i o : Int} (h : o ∈ cZ k i) : (cF k i o).2 = true := by
 unfold cZ nF at h
 obtain ⟨p, hp, rfl⟩ := List.mem_map.1 h
 rw [List.mem_filter] at hp
 have := of_decide_eq_true hp.2
 rw [← rL]
 exact aDj hp.1 this.1 this.2
theorem x2 {l : aC} {a : cC} {s : bB} (h : s ∈ cS l a) : s.fEl = a.fEl ∧ s.fIn = a.fSide ∧ (iG l s).2 = true ∧ pS l a.fEl = true := by
 cases he : pS l a.fEl with
 | false => rw [aMs he] at h; cases h
 | true =>
  rw [aMx he] at h
  obtain ⟨o, ho, rfl⟩ := List.mem_map.1 h
  refine ⟨rfl, rfl, ?_, rfl⟩
  rw [o0 he]
  exact aQn ho
theorem aRo (k i : Int) : (cZ k i).length ≤ 2 := by
 unfold cZ nF
 rw [List.length_map]
 have hk : k = 1 ∨ k = 2 ∨ k = 3 ∨ (k ≠ 1 ∧ k ≠ 2 ∧ k ≠ 3) := by omega
 have hi : i = 0 ∨ i = 1 ∨ i = 2 ∨ i = 3 ∨ (i ≠ 0 ∧ i ≠ 1 ∧ i ≠ 2 ∧ i ≠ 3) := by omega
 rcases hk with rfl | rfl | rfl | ⟨h1, h2, h3⟩
 ·rcases hi with rfl | rfl | rfl | rfl | ⟨q0, q1, q2, q3⟩ <;> first | decide | (simp [iI, List.filter_cons, Ne.symm q0, Ne.symm q1, Ne.symm q2, Ne.symm q3])
 ·rcases hi with rfl | rfl | rfl | rfl | ⟨q0, q1, q2, q3⟩ <;> first | decide | (simp [iI, List.filter_cons, Ne.symm q0, Ne.symm q1, Ne.symm q2, Ne.symm q3])
 ·rcases hi with rfl | rfl | rfl | rfl | ⟨q0, q1, q2, q3⟩ <;> first | decide | (simp [iI, List.filter_cons, Ne.symm q0, Ne.symm q1, Ne.symm q2, Ne.symm q3])
 simp [iI, List.filter_cons, Ne.symm h1, Ne.symm h2, Ne.symm h3]
theorem xX (l : aC) (a : cC) : (cS l a).length ≤ 2 := by
 unfold cS; split
 ·rw [List.length_map]; exact aRo _ _
 simp
theorem qX {α β : Type} {f : α → List β} {c : Nat} : ∀ {L : List α}, (∀ x ∈ L, (f x).length ≤ c) → (L.flatMap f).length ≤ L.length * c
 | [], _ => by simp
 | a :: L, h => by
  rw [List.flatMap_cons, List.length_append, List.length_cons, Nat.succ_mul]
  have h1 := h a (by simp)
  have h2 := qX (L := L) fun x hx => h x (by simp [hx])
  omega
theorem aEs (l : aC) : ∀ (n : Nat) (a : cC) (q : List bB), (xI l n a q).length ≤ 2 ^ n
 | 0, _, _ => by simp [xI]
 | n + 1, a, q => by
  unfold xI
  split
  ·simp
  refine Nat.le_trans (qX (c := 2 ^ n) fun s _ => ?_) ?_
  ·split
   ·simp; exact Nat.one_le_two_pow
   exact aEs l n _ _
  rw [Nat.pow_succ, Nat.mul_comm]
  exact Nat.mul_le_mul_left _ (xX l a)
theorem fZ (q : List bB) (s : bB) : lsN (q ++ [s]) = s := by
 unfold lsN; simp [List.getD_eq_getElem?_getD]
theorem qM (q : List bB) (s : bB) : kC (q ++ [s]) q.length = s := by
 unfold kC; simp [List.getD_eq_getElem?_getD]
theorem kV {q : List bB} {i : Nat} (s : bB) (h : i < q.length) : kC (q ++ [s]) i = kC q i := by
 unfold kC; rw [List.getD_eq_getElem?_getD, List.getD_eq_getElem?_getD, List.getElem?_append_left h]
theorem x3 {l : aC} : ∀ {n : Nat} {a : cC} {q p : List bB}, q.length ≤ 12 → (q.map (·.fEl)).Nodup → p ∈ xI l n a q → 0 < p.length ∧ p.length ≤ 12 ∧ (p.map (·.fEl)).Nodup ∧ iC l (lsN p) = true
 | 0, _, _, _, _, _, h => by cases h
 | n + 1, a, q, p, hq, hn, h => by
  unfold xI at h
  split at h
  ·cases h
  rename_i hc
  obtain ⟨s, hs, hp⟩ := List.mem_flatMap.1 h
  have hlt : q.length < 12 := by omega
  have ho : l3 l q a.fEl = true := by
   cases hx : l3 l q a.fEl with
   | true => rfl
   | false => exact absurd (.inr hx) hc
  have hn2 : ((q ++ [s]).map (·.fEl)).Nodup := by
   rw [List.map_append, List.nodup_append]
   refine ⟨hn, by simp, fun x hx y hy e => ?_⟩
   simp only [List.map_cons, List.map_nil, List.mem_singleton] at hy
   rw [(x2 hs).1] at hy
   obtain ⟨t, ht, hte⟩ := List.mem_map.1 hx
   obtain ⟨i, hi, rfl⟩ := List.mem_iff_getElem.1 ht
   unfold l3 at ho
   have := List.all_eq_true.1 ho i (by simpa using hi)
   unfold z1 at this
   simp only [Bool.and_eq_true, decide_eq_true_eq] at this
   apply this.1
   rw [List.getD_eq_getElem?_getD, List.getElem?_eq_getElem hi]
   simp only [Option.getD_some]
   rw [hte, e, hy]
  split at hp
  ·rename_i he
   rw [List.mem_singleton.1 hp]
   exact ⟨by simp, by simp; omega, hn2, by rw [fZ]; exact he⟩
  exact x3 (by simp; omega) hn2 hp
abbrev tB (l : aC) (q : List bB) (i : Nat) : Int := bY l (kC q i).fEl
theorem aNd {l : aC} {e : Int} (h : pS l e = true) : bY l e = (d7 l e.toNat).fSection := by
 unfold bY; rw [if_pos (gX.1 h)]
theorem aAf {l : aC} {q : List bB} (hex : ∀ i, i < q.length → pS l (kC q i).fEl = true) : ∀ n, n ≤ q.length → ∀ x, x ∈ dZ l (q.take n) ↔ ∃ i, i < n ∧ tB l q i = x
 | 0, _, x => by simp [dZ]
 | n + 1, h, x => by
  have ih := aAf hex n (by omega) x
  have he := hex n (by omega)
  rw [s5 l (by omega)]
  unfold kW
  rw [if_pos he]
  have hs : (d7 l (q.getD n default).fEl.toNat).fSection = tB l q n := (aNd he).symm
  rw [hs]
  have key : (x ∈ aEz (dZ l (q.take n)) (tB l q n)) ↔ x ∈ dZ l (q.take n) ∨ x = tB l q n := by
   unfold aEz
   split
   ·rename_i hm
    constructor
    ·exact .inl
    rintro (h | rfl)
    ·exact h
    exact hm
   simp
  rw [key, ih]
  constructor
  ·rintro (⟨i, hi, rfl⟩ | rfl)
   ·exact ⟨i, by omega, rfl⟩
   exact ⟨n, by omega, rfl⟩
  rintro ⟨i, hi, rfl⟩
  rcases Nat.lt_or_eq_of_le (Nat.le_of_lt_succ hi) with h | rfl
  ·exact .inl ⟨i, h, rfl⟩
  exact .inr rfl
def bDs (l : aC) (q : List bB) (n : Nat) : Prop := ∀ m, m < n → 0 < m → tB l q m ≠ tB l q (m - 1) → ∀ j, j < m → tB l q j ≠ tB l q m
theorem aFu {l : aC} {q : List bB} (hex : ∀ i, i < q.length → pS l (kC q i).fEl = true) : ∀ n, n ≤ q.length → (dZ l (q.take n)).length ≤ nO l q n ∧ (nO l q n = (dZ l (q.take n)).length ↔ bDs l q n)
 | 0, _ => by
  refine ⟨by simp [dZ], ?_⟩
  constructor
  ·intro _ m hm; omega
  intro _; simp [dZ, nO]
 | n + 1, h => by
  obtain ⟨ih1, ih2⟩ := aFu hex n (by omega)
  have he := hex n (by omega)
  have hm := aAf hex n (by omega) (tB l q n)
  rw [s5 l (by omega)]
  unfold kW
  rw [if_pos he]
  have hs : (d7 l (q.getD n default).fEl.toNat).fSection = tB l q n := (aNd he).symm
  rw [hs]
  have hcon : bDs l q (n + 1) ↔ bDs l q n ∧ (0 < n → tB l q n ≠ tB l q (n - 1) → ∀ j, j < n → tB l q j ≠ tB l q n) := by
   constructor
   ·exact fun h => ⟨fun m hm => h m (by omega), fun h0 => h n (by omega) h0⟩
   rintro ⟨h1, h2⟩ m hm h0
   rcases Nat.lt_or_eq_of_le (Nat.le_of_lt_succ hm) with h | rfl
   ·exact h1 m h h0
   exact h2 h0
  rw [hcon, ← ih2, show nO l q (n + 1) = nO l q n + (if n = 0 ∨ bY l (kC q n).fEl ≠ bY l (kC q (n - 1)).fEl then 1 else 0) from rfl]
  unfold aEz
  by_cases hc : n = 0 ∨ bY l (kC q n).fEl ≠ bY l (kC q (n - 1)).fEl
  ·rw [if_pos hc]
   split
   ·rename_i hin
    refine ⟨by omega, ?_⟩
    constructor
    ·intro hx; omega
    rintro ⟨_, h2⟩
    obtain ⟨j, hj, hje⟩ := hm.1 hin
    rcases hc with h0 | h0
    ·omega
    exact absurd hje (h2 (by omega) h0 j hj)
   rename_i hin
   rw [List.length_append, List.length_singleton]
   refine ⟨by omega, ?_⟩
   constructor
   ·intro hx
    exact ⟨by omega, fun _ _ j hj hje => hin (hm.2 ⟨j, hj, hje⟩)⟩
   rintro ⟨h1, _⟩; omega
  rw [if_neg hc]
  simp only [not_or, Classical.not_not] at hc
  have hin : tB l q n ∈ dZ l (q.take n) := hm.2 ⟨n - 1, by omega, hc.2.symm⟩
  rw [if_pos hin]
  refine ⟨by omega, ?_⟩
  constructor
  ·intro hx; exact ⟨by omega, fun _ h2 => absurd hc.2 h2⟩
  rintro ⟨h1, _⟩; omega
theorem aSm {l : aC} {q : List bB} (s : bB) {i : Nat} (h : i < q.length) : pL l (q ++ [s]) i = pL l q i := by
 unfold pL aBq
 rw [kV s h]
 have h1 : ∀ k, k < i → neN (q ++ [s]) i k = neN q i k := fun k hk => by unfold neN; rw [kV s h, kV s (by omega)]
 have h2 : (List.range i).all (neN (q ++ [s]) i) = (List.range i).all (neN q i) := by
  rw [Bool.eq_iff_iff, List.all_eq_true, List.all_eq_true]
  constructor
  ·intro hx k hk; rw [← h1 k (by simpa using hk)]; exact hx k hk
  intro hx k hk; rw [h1 k (by simpa using hk)]; exact hx k hk
 rw [h2]
 by_cases h0 : i = 0
 ·subst h0; simp
 rw [kV s (show i - 1 < q.length by omega)]
def bFi (l : aC) (f a : cC) (q : List bB) : Prop := (q = [] ∧ a = f) ∨ (0 < q.length ∧ sX l f q = true ∧ bP l (lsN q) = (a, true))
theorem rF {l : aC} {f : cC} {q : List bB} : sX l f q = true ↔ ((0 < q.length ∧ q.length ≤ 12) ∧ (kC q 0).fEl = f.fEl ∧ (kC q 0).fIn = f.fSide) ∧ (∀ i, i < q.length → pL l q i = true) ∧ nO l q q.length = (dZ l q).length := by
 unfold sX aFs yN
 simp only [Bool.and_eq_true, decide_eq_true_eq, List.all_eq_true, List.mem_range]
 constructor
 ·rintro ⟨⟨h1, _, h2⟩, h3⟩; exact ⟨h1, h2, h3⟩
 rintro ⟨h1, h2, h3⟩; exact ⟨⟨h1, ⟨h1.1.1, by omega⟩, h2⟩, h3⟩
theorem aJf {l : aC} {f a : cC} {q : List bB} {s : bB} (hinv : bFi l f a q) (hs : s ∈ cS l a) : sX l f (q ++ [s]) = true ↔ q.length < 12 ∧ l3 l q a.fEl = true := by
 obtain ⟨hs1, hs2, hs3, hs4⟩ := x2 hs
 have hes : pS l s.fEl = true := by rw [hs1]; exact hs4
 rcases hinv with ⟨rfl, rfl⟩ | ⟨h0, hfit, hnx⟩
 ·rw [List.nil_append, rF]
  refine ⟨fun _ => ⟨by simp, rfl⟩, fun _ => ⟨⟨by simp, hs1, hs2⟩, fun i hi => ?_, ?_⟩⟩
  ·simp at hi; subst hi
   unfold pL aBq
   rw [show kC [s] 0 = s from rfl, hs3]; rfl
  show nO l [s] 1 = _
  rw [bMd]
  unfold dZ
  rw [List.foldl_cons, List.foldl_nil]
  unfold kW aEz
  rw [if_pos hes]; simp
 obtain ⟨⟨q1, q2, q3⟩, q4, q5⟩ := rF.1 hfit
 have hexq : ∀ i, i < q.length → pS l (kC q i).fEl = true := fun i hi => by
  have := q4 i hi
  unfold pL aBq at this
  simp only [Bool.and_eq_true] at this
  exact gX.2 (aLh this.1.1)
 have hlast : kC q (q.length - 1) = lsN q := rfl
 have hvl : pL l (q ++ [s]) q.length = true ↔ ∀ k, k < q.length → (kC q k).fEl ≠ a.fEl := by
  unfold pL aBq
  rw [qM, hs3, kV s (show q.length - 1 < q.length by omega), hlast, hnx, decide_eq_false (show ¬ q.length = 0 by omega), decide_eq_true ((d6 _ _).2 ⟨hs1.symm, hs2.symm⟩ : (a : cC) = ⟨s.fEl, s.fIn⟩)]
  simp only [Bool.or_true, Bool.and_true, Bool.true_and, Bool.false_or, List.all_eq_true, List.mem_range]
  constructor
  ·intro h k hk
   have := h k hk
   unfold neN at this
   rw [qM, kV s hk, hs1] at this
   exact of_decide_eq_true this
  intro h k hk
  unfold neN
  rw [qM, kV s hk, hs1]
  exact decide_eq_true (h k hk)
 have hcon : bDs l q q.length := ((aFu hexq q.length (Nat.le_refl _)).2).1 (by rw [List.take_length]; exact q5)
 have hexs : ∀ i, i < (q ++ [s]).length → pS l (kC (q ++ [s]) i).fEl = true := fun i hi => by
  simp only [List.length_append, List.length_singleton] at hi
  rcases Nat.lt_or_eq_of_le (Nat.le_of_lt_succ hi) with h | rfl
  ·rw [kV s h]; exact hexq i h
  rw [qM]; exact hes
 have hlen : (q ++ [s]).length = q.length + 1 := by simp
 have hsec : nO l (q ++ [s]) (q ++ [s]).length = (dZ l (q ++ [s])).length ↔ (bY l a.fEl ≠ tB l q (q.length - 1) → ∀ j, j < q.length → tB l q j ≠ bY l a.fEl) := by
  have := (aFu hexs (q ++ [s]).length (Nat.le_refl _)).2
  rw [List.take_length] at this
  rw [this, hlen]
  have hsn : ∀ i, i < q.length → tB l (q ++ [s]) i = tB l q i := fun i hi => by unfold tB; rw [kV s hi]
  have hsl : tB l (q ++ [s]) q.length = bY l a.fEl := by unfold tB; rw [qM, hs1]
  constructor
  ·intro h hne j hj
   have := h q.length (by omega) h0 (by rw [hsl, hsn _ (by omega)]; exact hne) j hj
   rw [hsl, hsn j hj] at this
   exact this
  intro h m hm hm0 hne j hj
  rcases Nat.lt_or_eq_of_le (Nat.le_of_lt_succ hm) with hm | rfl
  ·rw [hsn m hm, hsn (m - 1) (by omega)] at hne
   rw [hsn m hm, hsn j (by omega)]
   exact hcon m hm hm0 hne j hj
  rw [hsl, hsn _ (by omega)] at hne
  rw [hsl, hsn j hj]
  exact h hne j hj
 have hop : l3 l q a.fEl = true ↔ (∀ k, k < q.length → (kC q k).fEl ≠ a.fEl) ∧ ∀ i, i < q.length → 0 < i → tB l q (i - 1) = bY l a.fEl → tB l q i = bY l a.fEl := by
  unfold l3
  simp only [List.all_eq_true, List.mem_range]
  constructor
  ·intro h
   refine ⟨fun k hk => ?_, fun i hi hi0 he => ?_⟩
   ·have := h k hk
    unfold z1 at this
    simp only [Bool.and_eq_true, decide_eq_true_eq] at this
    exact this.1
   have := h i hi
   unfold z1 at this
   simp only [Bool.and_eq_true, decide_eq_true_eq, Bool.not_eq_true', Bool.and_eq_false_iff, decide_eq_false_iff_not] at this
   rcases this.2 with h | h | h
   ·omega
   ·exact absurd he h
   exact Classical.not_not.1 h
  rintro ⟨h1, h2⟩ i hi
  refine aWl (h1 i hi) ?_
  rintro ⟨⟨g1, g2⟩, g3⟩
  exact g3 (h2 i hi g1 g2)
 rw [rF, hop]
 constructor
 ·rintro ⟨⟨⟨_, g1⟩, _⟩, g2, g3⟩
  rw [hlen] at g1
  have hne := hvl.1 (g2 q.length (by omega))
  refine ⟨by omega, hne, fun i hi hi0 he => Classical.byContradiction fun hx => ?_⟩
  have hsc := hsec.1 g3
  by_cases hL : bY l a.fEl = tB l q (q.length - 1)
  ·-- the first place behind i where the section is the old one again
   have hex : ∃ m, i < m ∧ m < q.length ∧ tB l q m = bY l a.fEl := by
    refine ⟨q.length - 1, ?_, by omega, hL.symm⟩
    rcases Nat.lt_or_eq_of_le (show i ≤ q.length - 1 by omega) with h | h
    ·exact h
    exact absurd (by rw [h]; exact hL.symm) hx
   have : ∃ m, (i < m ∧ m < q.length ∧ tB l q m = bY l a.fEl) ∧ ∀ k, k < m → ¬ (i < k ∧ k < q.length ∧ tB l q k = bY l a.fEl) := by
    obtain ⟨m, hm⟩ := hex
    induction m using Nat.strongRecOn with
    | _ m ih =>
     by_cases hk : ∃ k, k < m ∧ (i < k ∧ k < q.length ∧ tB l q k = bY l a.fEl)
     ·obtain ⟨k, hk1, hk2⟩ := hk
      exact ih k hk1 hk2
     exact ⟨m, hm, fun k hk1 hk2 => hk ⟨k, hk1, hk2⟩⟩
   obtain ⟨m, ⟨m1, m2, m3⟩, m4⟩ := this
   have hpre : tB l q (m - 1) ≠ bY l a.fEl := by
    rcases Nat.lt_or_eq_of_le (show i ≤ m - 1 by omega) with h | h
    ·exact fun e => m4 (m - 1) (by omega) ⟨h, by omega, e⟩
    rw [← h]; exact hx
   exact hcon m m2 (by omega) (by rw [m3]; exact Ne.symm hpre) (i - 1) (by omega) (by rw [he, m3])
  exact hsc hL (i - 1) (by omega) he
 rintro ⟨g1, g2, g3⟩
 refine ⟨⟨⟨by omega, by omega⟩, ?_⟩, fun i hi => ?_, hsec.2 fun hne j hj he => ?_⟩
 ·rw [kV s h0]; exact ⟨q2, q3⟩
 ·rw [hlen] at hi
  rcases Nat.lt_or_eq_of_le (Nat.le_of_lt_succ hi) with h | rfl
  ·rw [aSm s h]; exact q4 i h
  exact hvl.2 g2
 have : ∀ d, j + d < q.length → tB l q (j + d) = bY l a.fEl := fun d => by
  induction d with
  | zero => intro _; exact he
  | succ d ih => intro hd; exact g3 (j + (d + 1)) hd (by omega) (by rw [show j + (d + 1) - 1 = j + d by omega]; exact ih (by omega))
 have h1 := this (q.length - 1 - j) (by omega)
 rw [show j + (q.length - 1 - j) = q.length - 1 by omega] at h1
 exact hne h1.symm
theorem vN {l : aC} {s : bB} (h : ¬ iC l s = true) : bP l s = ((bP l s).1, true) := by
 unfold iC at h
 simp only [Bool.or_eq_true, Bool.not_eq_true', not_or, Bool.not_eq_false] at h
 exact Prod.ext rfl h.2
theorem aNb {l : aC} {f : cC} : ∀ (n : Nat) {a : cC} {q : List bB}, bFi l f a q → q.length ≤ 12 → xI l n a q = srP l f n a q
 | 0, _, _, _, _ => rfl
 | n + 1, a, q, hinv, hq => by
  unfold xI srP
  split
  ·rename_i hc
   symm
   rw [List.flatMap_eq_nil_iff]
   intro s hs
   rw [if_neg]
   intro hf
   have := (aJf hinv hs).1 hf
   rcases hc with h | h
   ·omega
   rw [this.2] at h; cases h
  rename_i hc
  have hcc : q.length < 12 ∧ l3 l q a.fEl = true := by
   refine ⟨by omega, ?_⟩
   cases hx : l3 l q a.fEl with
   | true => rfl
   | false => exact absurd (.inr hx) hc
  have : ∀ L : List bB, (∀ s ∈ L, s ∈ cS l a) → (L.flatMap fun s => if iC l s = true then [q ++ [s]] else xI l n (bP l s).1 (q ++ [s])) = L.flatMap fun s => if sX l f (q ++ [s]) = true then (if iC l s = true then [q ++ [s]] else srP l f n (bP l s).1 (q ++ [s])) else [] := by
   intro L
   induction L with
   | nil => intro _; rfl
   | cons s L ih =>
    intro hL
    have hf := (aJf hinv (hL s (by simp))).2 hcc
    rw [List.flatMap_cons, List.flatMap_cons, if_pos hf, ih fun x hx => hL x (by simp [hx])]
    congr 1
    by_cases he : iC l s = true
    ·rw [if_pos he, if_pos he]
    rw [if_neg he, if_neg he]
    refine aNb n (.inr ⟨by simp, hf, ?_⟩) (by simp; omega)
    rw [fZ]; exact vN he
  exact this _ fun _ h => h
end Go.Sg
namespace Go.Sg
open Go.RowKit
open Go.Rv (FR)
abbrev aEo (t : TypeId) (v : Value) : List PanicEntry := [{ v := .iface t v, recovered := false }]
def wV (P : Program) (O : aU) (f : FuncId) (args : List DV) (r : Option DV) : Prop :=
 ∀ (w : World) (I : Nat → Prop) (A : cY) (vals : Array Value), iD w I A O → vals.size = args.length → (∀ (j : Nat) (d : DV) (u : Value), args[j]? = some d → vals[j]? = some u → bK w I A d u) →
  Calls P f vals w fun e w' => ∃ I', iD w' I' A O ∧ eX w I A w' I' A ∧ ((∃ r' v, r = some r' ∧ e = .returned v ∧ lF w w' I' A r' v) ∨ (r = none ∧ ∃ t v, e = .panicked (aEo t v)))
theorem wV.pcall {P : Program} {O : aU} {f : FuncId} {args : List DV} {r : DV} (h : wV P O f args (some r)) : aW P O f args r := fun w I A vals h1 h2 h3 =>
 (h w I A vals h1 h2 h3).mono fun e w' ⟨I', k1, k2, k3⟩ => by
  rcases k3 with ⟨r', v, k3, k4, k5⟩ | ⟨k3, _⟩
  ·cases k3; exact ⟨v, I', O, r, k4, k1, fun _ => eK.refl _, fun _ h => h, k2, k5, rfl, rfl⟩
  cases k3
def bBg (P : Program) (fn : Func) (O : aU) (r : Option DV) : Exit → aU → Prop
 | .ret, ρ | .normal, ρ => ∃ r', r = some r' ∧ hi ρ = bW O ∧ lL P ρ fn.results.toList r'
 | .panic ch, ρ => r = none ∧ hi ρ = bW O ∧ ∃ t v, ch = aEo t v
 | _, _ => False
section
variable {P : Program}
theorem eX.callee {w w' : World} {I I' : Nat → Prop} {A A' : cY} (k3 : eX w I (b8 A) w' I' A') : eX w I A w' I' A :=
 ⟨k3.os, k3.tape, k3.output, k3.size, k3.imm, fun g hg hA => by
  obtain ⟨e1, e2, e3⟩ := k3.old g hg fun s c hs => by
   unfold b8 at hs
   split at hs
   ·cases hs
   exact hA _ _ hs
  exact ⟨e1, e2, hA⟩, fun s g c hA _ hs => ⟨s, c, hs, hA⟩, fun _ _ => rfl⟩
theorem cI.callee {nt : Nat} {w : World} {I : Nat → Prop} {A A' : cY} {ρ O : aU} {a : Act} (k1 : cI nt w I A' ρ a) (hA : ∀ s, 100000 ≤ s → A' s = b8 A s) (hinj : ∀ s t g c c', A s = some (some g, c) → A t = some (some g, c') → s = t) (h : ∀ s, ρ (s + 100000) = sh (O s)) : iD w I A O := by
 have hA' : ∀ s, A' (s + 100000) = A s := fun s => by rw [hA _ (by omega), gY]
 have hfun : (fun s => A' (s + 100000)) = A := funext hA'
 refine ⟨fun s => ?_, hinj, fun s g c hA => k1.osim.sep (s + 100000) g c ((hA' s).trans hA), k1.osim.imm⟩
 have := k1.osim.own (s + 100000)
 rw [h] at this
 have := this.outof (s := s) rfl
 rwa [hfun] at this
theorem wO {f : FuncId} {fn : Func} {c : Code} {O : aU} {args : List DV} {r : Option DV} (hf : P.funcs[f]? = some fn) (hb : fn.body = some c)
  (hn : (decide (args.length ≤ fn.ntmps) && decide (fn.ntmps ≤ 100000) && fn.results.toList.all (fun v => match v with | .tmp t => decide (t < fn.ntmps) | .cell t _ => decide (t < fn.ntmps))) = true)
  (h : AW P fn.ntmps c (bBg P fn O r) (lA O args)) : wV P O f args r := by
 intro w I A vals hO hl hv
 simp only [Bool.and_eq_true, decide_eq_true_eq] at hn
 obtain ⟨⟨hn1, hn2⟩, hn3⟩ := hn
 refine calls_of_wp hf hb (wp_mono (wpIn_wide.1 (Go.Rv.rN ▸ h none [] I (b8 A) _ w (cI.enter hO hl hn1 hn2 hv) rfl)) ?_)
 intro e a' w' ⟨I', A', ρ', k1, k2, k3, k4⟩
 have fin : (∃ r', r = some r' ∧ hi ρ' = bW O ∧ lL P ρ' fn.results.toList r') → ∃ v, (results fn a'.tmps).run P w' = .ok v w' ∧ ∃ I', iD w' I' A O ∧ eX w I A w' I' A ∧ ((∃ r' v', r = some r' ∧ Ending.returned v = .returned v' ∧ lF w w' I' A r' v') ∨ (r = none ∧ ∃ t v', Ending.returned v = .panicked (aEo t v'))) := by
  rintro ⟨r', rfl, hh, hr⟩
  obtain ⟨v, r1, r2⟩ := aFx k1 k3 hn3 hr
  exact ⟨v, r1, I', k1.callee k3.outA hO.inj (jS hh), k3.callee, .inl ⟨r', v, rfl, rfl, r2⟩⟩
 cases e with
 | normal => exact ⟨k2, fin k4⟩
 | ret => exact ⟨k2, fin k4⟩
 | panic ch =>
  obtain ⟨rfl, hh, t, v, rfl⟩ := k4
  exact ⟨k2, I', k1.callee k3.outA hO.inj (jS hh), k3.callee, .inr ⟨rfl, t, v, rfl⟩⟩
 | _ => exact k4.elim
variable {nt : Nat} {ρ : aU} {ops : Array Oper}
def wI (P : Program) (nt : Nat) (ops : Array Oper) (o : Oper) (K Kp : aU → Prop) (ρ : aU) : Prop :=
 ∀ (ro : Option Nat) (ds : List Deferred) I A a w, cI nt w I A ρ a → a.defers = ds → ∀ (next : Act → World → Prop) (Q' : Exit → Act → World → Prop),
  (∀ I' A' a' w' ρ', cI nt w' I' A' ρ' a' → a'.defers = ds → eX w I A w' I' A' → K ρ' → next a' w') →
  (∀ I' A' a' w' ρ' t v, cI nt w' I' A' ρ' a' → a'.defers = ds → eX w I A w' I' A' → Kp ρ' → Q' (.panic (aEo t v)) a' w') →
  if Region.wanted o (yielded ops a.tmps) = true then o.wpIn (FR ro) 0 P a w next Q' else (∀ f, o.about P w a.eval = some f → (FR ro).fn f) ∧ next (a.put o.dst undef) w
def RWX (P : Program) (nt : Nat) (ops : Array Oper) (k kp : aU → Prop) : List Oper → aU → Prop
 | [], ρ => k ρ
 | o :: os, ρ => wI P nt ops o (RWX P nt ops k kp os) kp ρ
theorem iJ {o : Oper} {K Kp : aU → Prop} (h : OW P nt ops o K ρ) : wI P nt ops o K Kp ρ := fun ro ds I A a w hs hd next Q' hn _ => h ro ds I A a w hs hd next Q' hn
theorem aDm {ro : Option Nat} {ds : List Deferred} {k kp : aU → Prop} {Q' : Exit → Act → World → Prop} : ∀ (l : List Oper) (ρ : aU) (I : Nat → Prop) (A : cY) (a : Act) (w : World), RWX P nt ops k kp l ρ → cI nt w I A ρ a → a.defers = ds →
  (∀ I' A' a' w' ρ', cI nt w' I' A' ρ' a' → a'.defers = ds → eX w I A w' I' A' → k ρ' → Q' .normal a' w') →
  (∀ I' A' a' w' ρ' t v, cI nt w' I' A' ρ' a' → a'.defers = ds → eX w I A w' I' A' → kp ρ' → Q' (.panic (aEo t v)) a' w') → wpListIn (FR ro) 0 P ops Q' l a w
 | [], ρ, I, A, a, w, h, hs, hd, hk, _ => hk I A a w ρ hs hd (eX.refl _ _ _) h
 | o :: l, ρ, I, A, a, w, h, hs, hd, hk, hp => by
  refine wpListIn_step fun K hK => h ro ds I A a w hs hd K Q' (fun I' A' a' w' ρ' h1 h2 h3 h4 => hK _ _ ?_) hp
  exact aDm l ρ' I' A' a' w' h4 h1 h2 (fun I2 A2 a2 w2 ρ2 k1 k2 k3 k4 => hk I2 A2 a2 w2 ρ2 k1 k2 (h3.trans k3) k4) fun I2 A2 a2 w2 ρ2 t v k1 k2 k3 k4 => hp I2 A2 a2 w2 ρ2 t v k1 k2 (h3.trans k3) k4
theorem kR {id : Nat} {l : List Oper} {Q : Exit → aU → Prop} (h : RWX P nt l.toArray (Q .normal) (fun ρ => ∀ t v, Q (.panic (aEo t v)) ρ) l ρ) : AW P nt (.region id l.toArray false) Q ρ := by
 intro ro ds I A a w hs hd
 exact wpIn_region_lit (aDm l ρ I A a w h hs hd (fun I' A' a' w' ρ' h1 h2 h3 h4 => ⟨I', A', ρ', h1, h2, h3, h4⟩) fun I' A' a' w' ρ' t v h1 h2 h3 h4 => ⟨I', A', ρ', h1, h2, h3, h4 t v⟩)
theorem tO {o : Oper} {K : aU → Prop} {t : TypeId} {x : Operand} {d : Nat} (hop : o.op = .makeInterface t x) (hg : o.guard = none) (hdst : o.dst = some d) (hd : d < nt) (ho : dL nt o = true) (hx : gd (ev ρ x)) (hi : ((P.underlying t).map fun u => match u with | .interface _ => true | _ => false) = some false) (hK : K (set ρ d (.iface t (un (ev ρ x))))) : OW P nt ops o K ρ :=
 fO hg fun I A a w hs => by
  have hr := hs.opd x (bL ho (x := x) (by simp [hop, Op.operands])) hx
  have h2 := bK.iface A t _ _ hr
  refine ⟨.iface t (a.eval x), w, I, A, _, ?_, hs.putV (o := o) (v := .iface t (un (ev ρ x))) (by unfold fG; rw [hdst]; simpa using hd) h2, eX.refl _ _ _, ?_⟩
  ·have hrun : (Go.Instr.makeInterface t (a.eval x)).run P w = .ok (.iface t (a.eval x)) w := by
    unfold Go.Instr.makeInterface
    cases hu : P.underlying t with
    | none => rw [hu] at hi; cases hi
    | some u =>
     rw [hu] at hi
     simp only [Option.map_some, Option.some.injEq] at hi
     rw [Sem.run_bind, run_underlying hu, Result.andThen_ok]
     cases u <;> first | rfl | (cases hi)
   simp [execOp, hop, hrun]
  rw [hdst]; exact hK
theorem rH {o : Oper} {K Kp : aU → Prop} {x : Operand} (hop : o.op = .panic x) (hg : o.guard = none) (ho : dL nt o = true) {t : TypeId} {d : DV} (hx : ev ρ x = .iface t d) (hK : Kp ρ) : wI P nt ops o K Kp ρ := by
 intro ro ds I A a w hs hdf next Q' _ hp
 rw [if_pos (by simp [Region.wanted, hg])]
 have hr := hs.opd x (bL ho (x := x) (by simp [hop, Op.operands])) (by rw [hx]; trivial)
 rw [hx] at hr
 generalize hv : a.eval x = v at hr
 have hr : bK w I A (.iface t d) v := hr
 cases hr with
 | iface _ _ _ u hu =>
  have h1 : (execOp a.eval o).run P w = .halt (.panic (.iface t u)) w := by
   have h2 : (Go.Instr.panic (a.eval x)).run P w = .halt (.panic (.iface t u)) w := by rw [hv]; rfl
   simp only [execOp, hop, Sem.run_bind, Sem.run_map, Functor.map, h2, Result.andThen]
  refine ⟨fun f hf => ?_, ?_⟩
  ·simp [Oper.about, hop] at hf
  have h3 : (o.semAt (FR ro).round a.eval).run P w = .halt (.panic (.iface t u)) w := by
   have : o.semAt (FR ro).round a.eval = execOp a.eval o := by
    cases ro with
    | none => exact Oper.semAt_none a.eval o
    | some l => exact Oper.semAt_some l a.eval o fun c hc => by rw [hop] at hc; cases hc
   rw [this]; exact h1
  rw [h3, Oper.uponIn_panic]
  exact hp I A a w ρ t u hs hdf (eX.refl _ _ _) hK
theorem aCj {o : Oper} {K Kp : aU → Prop} {fv : Operand} {args : Array Operand} {ts : Array TypeId} {d : Nat} (hop : o.op = .call ⟨.value fv, args, ts⟩) (hg : o.guard = none) (hdst : o.dst = some d) (hd : d < nt)
  (ho : dL nt o = true) (hgf : gd (ev ρ fv)) (hga : ∀ x ∈ args.toList, gd (ev ρ x)) {f : FuncId} {l : List DV} (hc : callee (un (ev ρ fv)) (args.toList.map fun x => un (ev ρ x)) = some (f, l)) (hb : aQ P f = true)
  (h : wV P ρ f l none) (hK : Kp ρ) : wI P nt ops o K Kp ρ := by
 intro ro ds I A a w hs hdf next Q' hn hp
 obtain ⟨vals, h1, h2, h3⟩ := iL hs hop ho hgf hga hc hb
 rw [if_pos (by simp [Region.wanted, hg])]
 refine mF h1 ?_
 refine (h w I A vals hs.osim h2 h3).mono ?_
 rintro e w' ⟨I', k1, k2, k3⟩
 rcases k3 with ⟨r', v, k3, _⟩ | ⟨_, t, v, rfl⟩
 ·cases k3
 exact hp I' A a w' ρ t v (hs.called k1 (fun _ => eK.refl _) (fun _ h => h) k2) hdf k2 hK
end
end Go.Sg
namespace Go.Sg
open Go.RowKit
open Go.Rv (FR)
section
variable {P : Program} {nt : Nat}
theorem cI.below {w : World} {I : Nat → Prop} {A : cY} {ρ : aU} {a : Act} (hs : cI nt w I A ρ a) {ρ' : aU} (h1 : ∀ i, i < 100000 → ρ' i = .any ∨ (i < nt ∧ (∃ cs, ρ i = .bx cs) ∧ ρ' i = .bp (i + 100000) 0)) (h2 : ∀ s, ρ' (s + 100000) = sh (ρ s)) : cI nt w I (b8 A) ρ' a := by
 refine ⟨⟨fun s => ?_, fun s t g c c' e1 e2 => ?_, fun s g c h => ?_, hs.osim.imm⟩, hs.size, hs.bound, fun i hi => ?_, fun s h => ?_⟩
 ·by_cases h : s < 100000
  ·rcases h1 s h with e | ⟨_, _, e⟩ <;> rw [e] <;> trivial
  obtain ⟨t, rfl⟩ : ∃ t, s = t + 100000 := ⟨s - 100000, by omega⟩
  rw [h2]; exact (hs.osim.own t).into rfl
 ·unfold b8 at e1 e2
  split at e1 <;> split at e2 <;> first | cases e1 | cases e2 | skip
  have := hs.osim.inj _ _ g c c' e1 e2
  omega
 ·unfold b8 at h
  split at h
  ·cases h
  exact hs.osim.sep _ g c h
 ·rcases h1 i (Nat.lt_of_lt_of_le hi hs.bound) with e | ⟨_, ⟨cs, hc⟩, e⟩
  ·rw [e]; exact .any _ _
  have := hs.slot i hi
  rw [hc] at this
  obtain ⟨g, c, k1, k2⟩ := this
  rw [e, k2]
  exact bK.bp _ _ _ g c ((gY A i).trans k1)
 obtain ⟨t, rfl⟩ : ∃ t, s = t + 100000 := ⟨s - 100000, by omega⟩
 rw [h2]; exact aJg _
theorem cI.above {w : World} {I : Nat → Prop} {A A' : cY} {ρ' O τ : aU} {a : Act} (hs : cI nt w I A' ρ' a) (hA : ∀ s, 100000 ≤ s → A' s = b8 A s) (hinj : ∀ s t g c c', A s = some (some g, c) → A t = some (some g, c') → s = t) (h : ∀ s, ρ' (s + 100000) = sh (O s))
  (h1 : ∀ i, i < 100000 → τ i = .any ∨ ∃ cs, O i = .bx cs ∧ τ i = .bx cs ∧ ρ' i = .bp (i + 100000) 0) (h2 : ∀ i, 100000 ≤ i → τ i = O i) (ho : ∀ i, 100000 ≤ i → cV (O i)) : cI nt w I A τ a := by
 have hO : iD w I A O := hs.callee hA hinj h
 refine ⟨⟨fun s => ?_, hO.inj, hO.sep, hO.imm⟩, hs.size, hs.bound, fun i hi => ?_, fun s hs' => by rw [h2 s hs']; exact ho s hs'⟩
 ·by_cases hs' : s < 100000
  ·rcases h1 s hs' with e | ⟨cs, e1, e2, _⟩
   ·rw [e]; trivial
   rw [e2, ← e1]; exact hO.own s
  rw [h2 s (by omega)]; exact hO.own s
 rcases h1 i (Nat.lt_of_lt_of_le hi hs.bound) with e | ⟨cs, e1, e2, e3⟩
 ·rw [e]; exact .any _ _
 have := hs.slot i hi
 rw [e3] at this
 rw [e2]
 generalize a.tmps.getD i undef = x at this ⊢
 have this : bK w I A' (.bp (i + 100000) 0) x := this
 cases this with
 | bp _ _ _ g c hg => exact ⟨g, c, by rw [hA _ (by omega), gY] at hg; exact hg, rfl⟩
def xQ (O : aU) (y6 y7 y8 : List DV) : aU := set (set (set O 6 (.bx y6)) 7 (.bx y7)) 8 (.bx y8)
theorem aFb {O : aU} {y6 y7 y8 : List DV} {s : Nat} (h6 : s ≠ 6) (h7 : s ≠ 7) (h8 : s ≠ 8) : xQ O y6 y7 y8 s = O s := by
 unfold xQ; rw [aT, if_neg h8, aT, if_neg h7, aT, if_neg h6]
def m5 (O : aU) : aU := fun i => if i < 100000 then (if i = 6 ∨ i = 7 ∨ i = 8 then O i else .any) else O i
theorem aHx {q0 q1 : Oper} {id : Nat} {Q : Exit → Act → List Frame → World → Prop} {a : Act} {cs : List Frame} {w : World} {ts : Array TypeId} {d0 d1 : Nat} (hq0 : q0.op = .call ⟨.builtin .recover, #[], ts⟩) (hg0 : q0.guard = none) (hd0 : q0.dst = some d0) (hg1 : q1.guard = none) (hd1 : q1.dst = some d1)
  {v : Value} {cs' : List Frame} {b : Value} (hr : (recoverD cs = some (v, cs')) ∨ (recoverD cs = none ∧ v = .nilIface ∧ cs' = cs))
  (h1 : (execOp (a.put (some d0) v).eval q1).run P w = .ok (.value b) w) (h : Q .normal ((a.put (some d0) v).put (some d1) b) cs' w) : (Code.region id [q0, q1].toArray false).wpS P Q a cs w := by
 refine wpS_region ?_
 show wpOpsS P _ Q [0, 1] a cs w
 have hrun : (execOp a.eval q0).run P w = .ok .recover w := by simp [execOp, hq0, resolve, invoke, builtin]
 have e0 : ([q0, q1].toArray)[0]? = some q0 := rfl
 have e1 : ([q0, q1].toArray)[1]? = some q1 := rfl
 unfold wpOpsS
 simp only [e0]
 rw [if_pos (by simp [Region.wanted, hg0]), hrun]
 have key : wpOpsS P [q0, q1].toArray Q [1] (a.put q0.dst v) cs' w := by
  unfold wpOpsS
  simp only [e1]
  rw [if_pos (by simp [Region.wanted, hg1]), hd0, h1]
  simp only [Oper.upon]
  unfold wpOpsS
  rw [hd1]; exact h
 rcases hr with hr | ⟨hr, rfl, rfl⟩
 ·simp only [hr]; exact key
 simp only [hr]; exact key
theorem uB {f g : FuncId} {fn fg : Func} {c0 c2 cR : Code} {i1 i2 : Nat} {o1 o2 q0 q1 : Oper} {ts ts2 : Array TypeId} {O : aU} {args : List DV} {ρ1 ρ2 : aU} {r : DV} {x6 x7 x8 y6 y7 y8 : List DV}
  (hf : P.funcs[f]? = some fn) (hb : fn.body = some (.seq c0 (.seq (.region i1 [o1, o2].toArray false) c2)))
  (hn : (decide (args.length ≤ fn.ntmps) && decide (fn.ntmps ≤ 100000) && decide (9 < fn.ntmps) && fn.results.toList.all (fun v => match v with | .tmp t => decide (t < fn.ntmps) | .cell t _ => decide (t < fn.ntmps))) = true)
  (ho1 : o1.op = .makeFunc (.func g) #[] #[.tmp 6, .tmp 7, .tmp 8]) (hg1 : o1.guard = none) (hd1 : o1.dst = some 9) (ho2 : o2.op = .defer ⟨.value (.tmp 9), #[], ts⟩) (hg2 : o2.guard = none) (hd2 : o2.dst = none)
  (hg : P.funcs[g]? = some fg) (hgb : fg.body = some (.seq (.region i2 [q0, q1].toArray false) (.cond (.tmp 4) cR .skip))) (hgn : fg.ntmps = 6) (hgr : fg.results = #[]) (hgh : aQ P g = true)
  (hq0 : q0.op = .call ⟨.builtin .recover, #[], ts2⟩) (hqg0 : q0.guard = none) (hqd0 : q0.dst = some 3) (hqg1 : q1.guard = none) (hqd1 : q1.dst = some 4)
  (hT : ∀ (a : Act) (w : World) u v, a.eval (.tmp 3) = .iface u v → (execOp a.eval q1).run P w = .ok (.value (.bool true)) w) (hN : ∀ (a : Act) (w : World), a.eval (.tmp 3) = .nilIface → (execOp a.eval q1).run P w = .ok (.value (.bool false)) w)
  (h0 : AW P fn.ntmps c0 (fun e ρ => e = .normal ∧ Le ρ ρ1) (lA O args)) (hO1 : hi ρ1 = bW O) (h16 : ∃ cs, ρ1 6 = .bx cs) (h17 : ∃ cs, ρ1 7 = .bx cs) (h18 : ∃ cs, ρ1 8 = .bx cs)
  (hv1 : ∀ i, i < 100000 → ρ2 i = .any ∨ (i < fn.ntmps ∧ (∃ cs, ρ1 i = .bx cs) ∧ ρ2 i = .bp (i + 100000) 0)) (hv2 : ∀ s, ρ2 (s + 100000) = sh (ρ1 s)) (h29 : ρ2 9 = .any) (hy6 : cV (.bx y6)) (hy7 : cV (.bx y7)) (hy8 : cV (.bx y8))
  (h2 : AW P fn.ntmps c2 (fun e ρ => ∃ O2, (∀ s, ρ (s + 100000) = sh (O2 s)) ∧ hi O2 = bW O ∧ ρ 6 = .bp 100006 0 ∧ ρ 7 = .bp 100007 0 ∧ ρ 8 = .bp 100008 0 ∧ O2 6 = .bx x6 ∧ O2 7 = .bx x7 ∧ O2 8 = .bx x8 ∧
   ((e = .ret ∧ lL P (m5 O2) fn.results.toList r) ∨ ((∃ t v, e = .panic (aEo t v)) ∧ x6.length = y6.length ∧ x7.length = y7.length ∧ x8.length = y8.length ∧ lL P (m5 (xQ O2 y6 y7 y8)) fn.results.toList r))) ρ2)
  (hR : ∀ O2 : aU, O2 6 = .bx x6 → O2 7 = .bx x7 → O2 8 = .bx x8 → AW P 6 cR (fun e ρ => e = .normal ∧ ∀ s, ρ (s + 100000) = sh (xQ O2 y6 y7 y8 s)) (lA O2 [.bp 6 0, .bp 7 0, .bp 8 0])) : aW P O f args r := by
 intro w I A vals hO hl hv
 simp only [Bool.and_eq_true, decide_eq_true_eq] at hn
 obtain ⟨⟨⟨hn1, hn2⟩, hn9⟩, hn3⟩ := hn
 have fin : ∀ {w1 w3 : World} {I1 I3 : Nat → Prop} {A1 : cY} {τ : aU} {a : Act}, cI fn.ntmps w3 I3 A1 τ a → eX w I (b8 A) w3 I3 A1 → hi τ = bW O → lL P τ fn.results.toList r →
   ∃ v, (results fn a.tmps).run P w3 = .ok v w3 ∧ ∃ v' I' O' r', Ending.returned v = .returned v' ∧ iD w3 I' A O' ∧ (∀ s, eK (O s) (O' s)) ∧ (∀ s, cV (O s) → cV (O' s)) ∧ eX w I A w3 I' A ∧ lF w w3 I' A r' v' ∧ O' = O ∧ r' = r := by
  intro w1 w3 I1 I3 A1 τ a k1 k3 hh hr
  obtain ⟨v, r1, r2⟩ := aFx k1 k3 hn3 hr
  exact ⟨v, r1, v, I3, O, r, rfl, k1.callee k3.outA hO.inj (jS hh), fun _ => eK.refl _, fun _ h => h, k3.callee, r2, rfl, rfl⟩
 refine calls_of_wp_defers hf hb (wpIn_wide.1 (Go.Rv.rN ▸ (?_ : (Code.seq c0 (.seq (.region i1 [o1, o2].toArray false) c2)).wpIn (FR none) 0 P _ _ _)))
 refine wpIn_seq (wpIn_mono (h0 none [] I (b8 A) _ w (cI.enter hO hl hn1 hn2 hv) rfl) ?_)
 rintro e a1 w1 ⟨I1, A1, ρ, k1, k2, k3, rfl, hle⟩
 replace k1 := k1.weaken hle
 have b1 := k1.below hv1 hv2
 have hbox : ∀ i, i < fn.ntmps → (∃ cs, ρ1 i = .bx cs) → ∃ g c, A1 i = some (some g, c) ∧ a1.tmps.getD i undef = .pointer (some ⟨g, 0, none⟩) := fun i hi ⟨cs, hc⟩ => by
  have := k1.slot i hi; rw [hc] at this; exact this
 obtain ⟨g6, c6, p6, v6⟩ := hbox 6 (by omega) h16
 obtain ⟨g7, c7, p7, v7⟩ := hbox 7 (by omega) h17
 obtain ⟨g8, c8, p8, v8⟩ := hbox 8 (by omega) h18
 have hfun : (execOp a1.eval o1).run P w1 = .ok (.value (.func (.func g) #[] #[.pointer (some ⟨g6, 0, none⟩), .pointer (some ⟨g7, 0, none⟩), .pointer (some ⟨g8, 0, none⟩)])) w1 := by
  have e6 : a1.eval (.tmp 6) = .pointer (some ⟨g6, 0, none⟩) := v6
  have e7 : a1.eval (.tmp 7) = .pointer (some ⟨g7, 0, none⟩) := v7
  have e8 : a1.eval (.tmp 8) = .pointer (some ⟨g8, 0, none⟩) := v8
  simp [execOp, ho1, Instr.makeFunc]
  exact ⟨e6, e7, e8⟩
 generalize hvs : (#[.pointer (some ⟨g6, 0, none⟩), .pointer (some ⟨g7, 0, none⟩), .pointer (some ⟨g8, 0, none⟩)] : Array Value) = vs at hfun
 refine wpIn_seq (wpIn_region_lit (l := [o1, o2]) ?_)
 refine wpListIn_step fun K hK => ?_
 rw [if_pos (by simp [Region.wanted, hg1])]
 refine qY hfun (hK _ _ ?_)
 refine wpListIn_step fun K2 hK2 => ?_
 rw [if_pos (by simp [Region.wanted, hg2])]
 refine ⟨fun _ _ => trivial, ?_⟩
 have hnt : a1.tmps.size = fn.ntmps := k1.size
 have hrun : (o2.semAt (FR none).round (a1.put o1.dst (.func (.func g) #[] vs)).eval).run P w1 = .ok (.defer { target := .fn (.func g) vs, args := #[] }) w1 := by
  show (execOp (a1.put o1.dst (.func (.func g) #[] vs)).eval o2).run P w1 = _
  have hev : (a1.put o1.dst (.func (.func g) #[] vs)).eval (.tmp 9) = .func (.func g) #[] vs := by
   rw [hd1]
   show (a1.tmps.setIfInBounds 9 _).getD 9 undef = _
   simp [Array.getD_eq_getD_getElem?, Array.getElem?_setIfInBounds, hnt, hn9]
  simp [execOp, ho2, resolve, hev, Deferred.ofValue]
 rw [hrun, Oper.uponIn_defer, hd2]
 refine hK2 _ _ (wpListIn_nil ?_)
 have b2 := b1.put (d := 9) (v := .any) (x := .func (.func g) #[] vs) hn9 (.any _ _) trivial
 have hset : set ρ2 9 .any = ρ2 := by
  funext s; rw [aT]; split
  ·rename_i e; rw [e, h29]
  rfl
 rw [hset] at b2
 have hdef1 : (a1.put o1.dst (.func (.func g) #[] vs)).defers = [] := by rw [eD]; exact k2
 show c2.wpIn (FR none) 0 P _ _ w1
 refine wpIn_mono (h2 none [{ target := .fn (.func g) vs, args := #[] }] I1 (b8 A1) _ w1 (by rw [hd1]; exact ⟨b2.osim, b2.size, b2.bound, b2.slot, b2.out⟩) (by show _ :: (a1.put o1.dst (.func (.func g) #[] vs)).defers = _; rw [hdef1])) ?_
 rintro e a2 w2 ⟨I2, A2, ρ', m1, m2, m3, O2, n1, n2, n6, n7, n8, n9, n10, n11, hcase⟩
 have hO2 : iD w2 I2 A1 O2 := m1.callee m3.outA k1.osim.inj n1
 have hE2 : eX w1 I1 A1 w2 I2 A1 := m3.callee
 have hE : eX w I (b8 A) w2 I2 A1 := k3.trans hE2
 have hhi : ∀ (Z : aU), hi Z = bW O → ∀ i, 100000 ≤ i → Z i = bW O i := fun Z hZ i hi' => by
  have := congrFun hZ i
  unfold Sg.hi at this
  rwa [if_neg (by omega)] at this
 have hout : ∀ (Z : aU), hi Z = bW O → ∀ i, 100000 ≤ i → cV (Z i) := fun Z hZ i hi' => by rw [hhi Z hZ i hi']; exact aCc O i hi'
 have h3hi : ∀ (Z : aU), hi Z = bW O → hi (m5 Z) = bW O := fun Z hZ => by
  rw [← hZ]; funext i; unfold Sg.hi m5; split
  ·rfl
  rfl
 have hτ : cI fn.ntmps w2 I2 A1 (m5 O2) a2 := m1.above m3.outA k1.osim.inj n1 (fun i hi' => by
   unfold m5
   rw [if_pos hi']
   split
   ·rename_i h
    right
    rcases h with rfl | rfl | rfl
    ·exact ⟨_, n9, n9, n6⟩
    ·exact ⟨_, n10, n10, n7⟩
    exact ⟨_, n11, n11, n8⟩
   exact .inl rfl) (fun i hi' => by unfold m5; rw [if_neg (by omega)]) (hout O2 n2)
 have hinv : (invoke (.fn (.func g) vs) #[]).run P w2 = .ok (.enter g vs) w2 := by
  have hcf : (callFunc g vs).run P w2 = .ok (.enter g vs) w2 := by
   unfold aQ at hgh
   rw [hg] at hgh
   simp only [Bool.and_eq_true, Bool.not_eq_true'] at hgh
   have hn : fg.body.isNone = false := by rw [hgb]; rfl
   simp only [callFunc, Sem.run_bind, run_program, Result.andThen_ok, hg, hgh.2, hn, Bool.false_eq_true, if_false, Sem.run_pure]
  simp [invoke, hcf]
 have hsz : vs.size = 3 := by rw [← hvs]; rfl
 have hargs : ∀ (j : Nat) (d : DV) (u : Value), ([.bp 6 0, .bp 7 0, .bp 8 0] : List DV)[j]? = some d → vs[j]? = some u → bK w2 I2 A1 d u := fun j d u hd hu => by
  rw [← hvs] at hu
  match j, hd, hu with
  | 0, hd, hu => cases hd; cases hu; exact .bp _ _ _ g6 c6 p6
  | 1, hd, hu => cases hd; cases hu; exact .bp _ _ _ g7 c7 p7
  | 2, hd, hu => cases hd; cases hu; exact .bp _ _ _ g8 c8 p8
 have hstart : ∀ (x y : Value), cI 6 w2 I2 (b8 A1) (lA O2 [.bp 6 0, .bp 7 0, .bp 8 0]) ((({ tmps := vs ++ Array.replicate (6 - vs.size) undef, defers := [] } : Act).put (some 3) x).put (some 4) y) := fun x y => by
  have h := cI.enter (nt := 6) hO2 (args := [.bp 6 0, .bp 7 0, .bp 8 0]) (vals := vs) hsz (by decide) (by decide) hargs
  have h := (h.put (d := 3) (v := .any) (x := x) (by decide) (.any _ _) trivial).put (d := 4) (v := .any) (x := y) (by decide) (.any _ _) trivial
  have he : set (set (lA O2 [.bp 6 0, .bp 7 0, .bp 8 0]) 3 .any) 4 .any = lA O2 [.bp 6 0, .bp 7 0, .bp 8 0] := by
   funext s
   rw [aT, aT]
   split
   ·rename_i e; subst e; rfl
   split
   ·rename_i e; subst e; rfl
   rfl
  rwa [he] at h
 have hsz6 : (vs ++ Array.replicate (6 - vs.size) undef).size = 6 := by simp [hsz]
 have hev3 : ∀ x : Value, (({ tmps := vs ++ Array.replicate (6 - vs.size) undef, defers := [] } : Act).put (some 3) x).eval (.tmp 3) = x := fun x => by
  show ((vs ++ Array.replicate (6 - vs.size) undef).setIfInBounds 3 x).getD 3 undef = x
  simp only [Array.getD_eq_getD_getElem?, Array.getElem?_setIfInBounds, hsz6]; rfl
 have hev4 : ∀ x y : Value, ((({ tmps := vs ++ Array.replicate (6 - vs.size) undef, defers := [] } : Act).put (some 3) x).put (some 4) y).eval (.tmp 4) = y := fun x y => by
  show (((vs ++ Array.replicate (6 - vs.size) undef).setIfInBounds 3 x).setIfInBounds 4 y).getD 4 undef = y
  simp only [Array.getD_eq_getD_getElem?, Array.getElem?_setIfInBounds, Array.size_setIfInBounds, hsz6]; rfl
 have hres : ∀ (a : Act) (w : World), (results fg a.tmps).run P w = .ok (.tuple #[]) w := fun a w => by simp [results, hgr]
 rcases hcase with ⟨rfl, hr⟩ | ⟨⟨t, v, rfl⟩, l6, l7, l8, hr⟩
 ·show Leaves P fn a2.tmps _ a2.defers .returning w2
  rw [m2]
  refine leaves_cons (by simp) hinv ?_
  rw [hgn.symm] at hev3 hev4
  refine callsD_of_wpS hg hgb fun c₀ cs hu => wpS_seq ?_
  have hc0 : ({ c₀ with mode := .returning } : Frame) = c₀ := by rw [← hu]
  refine aHx hq0 hqg0 hqd0 hqg1 hqd1 (v := .nilIface) (cs' := c₀ :: cs) (b := .bool false) (.inr ⟨by simp [recoverD, hu], rfl, rfl⟩) (hN _ _ (hev3 _)) ?_
  refine wpS_cond (t := false) (hev4 _ _) (wpS_of_wp (wp_skip ?_))
  refine ⟨rfl, .returning, by rw [hc0], _, hres _ _, ?_⟩
  exact fin (w1 := w1) (I1 := I1) hτ hE (h3hi O2 n2) hr
 show Leaves P fn a2.tmps _ a2.defers (.panicking (aEo t v)) w2
 rw [m2]
 refine leaves_cons (by simp) hinv ?_
 refine callsD_of_wpS hg hgb fun c₀ cs hu => wpS_seq ?_
 rw [hgn]
 refine aHx hq0 hqg0 hqd0 hqg1 hqd1 (v := .iface t v) (cs' := { c₀ with mode := .panicking [{ v := .iface t v, recovered := true }] } :: cs) (b := .bool true) (.inl (by simp [recoverD, hu])) (hT _ _ t v (hev3 _)) ?_
 refine wpS_cond (t := true) (hev4 _ _) (wpS_of_wp ?_)
 refine wp_mono (wpIn_wide.1 (Go.Rv.rN ▸ hR O2 n9 n10 n11 none [] I2 (b8 A1) _ w2 (hstart _ _) rfl)) ?_
 rintro e a3 w3 ⟨I3, A3, ρ3, j1, j2, j3, rfl, j4⟩
 have hO3 : iD w3 I3 A1 (xQ O2 y6 y7 y8) := j1.callee j3.outA k1.osim.inj j4
 have hE3 : eX w2 I2 A1 w3 I3 A1 := j3.callee
 have hhi3 : hi (xQ O2 y6 y7 y8) = bW O := by
  rw [← n2]; funext i; unfold Sg.hi; split
  ·rfl
  exact aFb (by omega) (by omega) (by omega)
 have hO3' : iD w3 I3 A1 (m5 (xQ O2 y6 y7 y8)) := ⟨fun s => by
  unfold m5; split
  ·split
   ·exact hO3.own s
   trivial
  exact hO3.own s, hO3.inj, hO3.sep, hO3.imm⟩
 have hfr : ∀ s, eK (m5 O2 s) (m5 (xQ O2 y6 y7 y8) s) := fun s => by
  unfold m5
  split
  ·split
   ·rename_i h
    rcases h with rfl | rfl | rfl
    ·rw [n9]; exact l6
    ·rw [n10]; exact l7
    rw [n11]; exact l8
   exact eK.refl _
  rw [aFb (by omega) (by omega) (by omega)]; exact eK.refl _
 have hio : ∀ s, cV (m5 O2 s) → cV (m5 (xQ O2 y6 y7 y8) s) := fun s hs => by
  unfold m5 at hs ⊢
  split
  ·split
   ·rename_i h
    rcases h with rfl | rfl | rfl
    ·exact hy6
    ·exact hy7
    exact hy8
   rfl
  rw [if_neg (by assumption)] at hs
  rw [aFb (by omega) (by omega) (by omega)]; exact hs
 have hτ3 : cI fn.ntmps w3 I3 A1 (m5 (xQ O2 y6 y7 y8)) a2 := hτ.called hO3' hfr hio hE3
 refine ⟨j2, .panicking [{ v := .iface t v, recovered := true }], rfl, _, hres _ _, ?_⟩
 show Leaves P fn a2.tmps _ [] (settle (.panicking [{ v := .iface t v, recovered := true }])) w3
 exact fin (w1 := w1) (I1 := I1) hτ3 (hE.trans hE3) (h3hi _ hhi3) hr
end
end Go.Sg
