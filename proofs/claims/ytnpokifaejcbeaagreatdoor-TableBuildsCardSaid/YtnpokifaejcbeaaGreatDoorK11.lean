/- Several texts as one. -/
import Derived.Test.YtnpokifaejcbeaaGreatDoorK10
import Derived.Shelf.SlSortCmp.InsertionK
import Derived.Shelf.SlSortCmp.NoneTotal
set_option linter.unusedSectionVars false
set_option linter.unusedVariables false
set_option linter.unusedSimpArgs false
set_option maxRecDepth 20000
namespace Go.Sg
open Go.Proofs
def zP (t u : eB) : Bool := decide (t = u)
set_option maxHeartbeats 2000000 in
theorem aCb (O : aU) (t u : eB) : aW Tryz.prog O 13 [.agg (eP t), .agg (eP u)] (vb (zP t u)) := by
 refine aO 0 rfl (.agg (d := iU t.fRoutes) (by simp [eP]) (.sl _ _ _)) fun ha => ?_
 refine aO 1 rfl (.agg (d := iU u.fRoutes) (by simp [eP]) (.sl _ _ _)) fun hb => ?_
 refine dT Tryz.func13 ?_
 refine aB [0, 1] ?_
 refine aA fun K1 hK1 => ?_
 refine aA fun K2 hK2 => ?_
 refine bF [2, 3] ?_
 refine lY (fun g0 => m6 _ t.fPoints u.fPoints) ?_
 refine lY (fun g1 => m6 _ t.fHomes u.fHomes) ?_
 refine hK2 _ ?_; clear hK2
 refine aS (fun c0 => ?_) fun c0 => ?_
 ·refine aB [] ?_
  refine aL ?_
  refine b6 4 ?_
  refine xb ?_
  (symm; rw [zP, decide_eq_false_iff_not, zA]; grind)
 have hl : t.fRoutes.length = u.fRoutes.length := by grind
 refine aJ ?_
 refine hK1 _ ?_; clear hK1
 refine aA fun K4 hK4 => ?_
 refine aB [2, 3] ?_
 refine aK ?_
 refine aX [2, 3, 45, 46] (fun n ρ => ∃ i, n = t.fRoutes.length - i ∧ (i ≤ t.fRoutes.length) ∧ ((t.fRoutes == u.fRoutes) = (t.fRoutes.drop i == u.fRoutes.drop i)) ∧ ρ = cU O [(2, .bx (eP t)), (3, .bx (eP u)), (45, vi (t.fRoutes.length : Nat)), (46, vi (i : Nat))]) _ ⟨0, rfl, ?_, ?_, ?_⟩ ?_
 ·exact bD
 ·rfl
 ·exact cD
 rintro n ρ ⟨i, rfl, l0_0, l0_1, rfl⟩ K6 hK6
 refine aB [2, 3, 45, 46] ?_
 refine aA fun K8 hK8 => ?_
 refine aS (fun c1 => ?_) fun c1 => ?_
 ·refine aJ ?_
  refine hK8 _ ?_; clear hK8
  refine aA fun K9 hK9 => ?_
  refine aK ?_
  refine aB [2, 3, 45, 46] ?_
  refine aA fun K11 hK11 => ?_
  refine e5 [2, 3, 5, 45, 46] [] ?_
  refine cdz (aBg _ (t.fRoutes.getD i default) (u.fRoutes.getD i default)) ?_
  refine hK11 _ ?_; clear hK11
  refine aS (fun c2 => ?_) fun c2 => ?_
  ·have c2 : t.fRoutes.getD i default ≠ u.fRoutes.getD i default := of_decide_eq_false (by simpa [vG] using c2)
   refine aB [] ?_
   refine aL ?_
   refine b6 4 ?_
   refine xb ?_
   (symm; rw [zP, decide_eq_false_iff_not, zA]; intro h; have h1 : (t.fRoutes == u.fRoutes) = true := (by simpa using h.1); rw [l0_1, bT default c1, bT default (show i < u.fRoutes.length by omega)] at h1; simp at h1; exact c2 (by simpa using h1.1))
  have c2 : t.fRoutes.getD i default = u.fRoutes.getD i default := of_decide_eq_true (by simpa [vG] using c2)
  refine aJ ?_
  refine hK9 _ ?_; clear hK9
  refine bC [2, 3, 45, 46] ?_
  refine hK6 _ _ ?_ ⟨i + 1, rfl, ?_, ?_, ?_⟩
  ·exact bD
  ·exact bD
  ·rw [l0_1, bT default c1, bT default (show i < u.fRoutes.length by omega), c2]; simp
  exact cD
 refine bA ?_
 refine hK4 _ ?_; clear hK4
 refine aB [] ?_
 refine aL ?_
 refine b6 4 ?_
 refine xb ?_
 (have h1 : (t.fRoutes == u.fRoutes) = true := (by rw [l0_1, eJ c1, eJ (by omega)]; rfl); have h1 : t.fRoutes = u.fRoutes := (by simpa using h1); rw [zP, Bool.eq_iff_iff]; simp [zA]; grind)
def pT (a b : aM) : Bool := decide (a.fEl < b.fEl ∨ a.fEl = b.fEl ∧ a.fPos < b.fPos)
theorem gO {a b : aM} : pT a b = true ↔ a.fEl < b.fEl ∨ a.fEl = b.fEl ∧ a.fPos < b.fPos := decide_eq_true_iff
theorem yA (a : aM) : pT a a = false := by rw [← Bool.not_eq_true, gO]; omega
theorem aGk {a b c : aM} (h : pT a b = true) (k : pT b c = true) : pT a c = true := by rw [gO] at *; omega
theorem uL {a b : aM} (h : pT a b = false) (k : pT b a = false) : a = b := by
 rw [← Bool.not_eq_true, gO] at h k; rw [fE]; omega
theorem bOh {a b c : aM} (h : pT b a = false) (k : pT b c = true) : pT a c = true := by
 rw [← Bool.not_eq_true, gO] at h; rw [gO] at *; omega
theorem bNh {a b c : aM} (h : pT a b = true) (k : pT c b = false) : pT a c = true := by
 rw [← Bool.not_eq_true, gO] at k; rw [gO] at *; omega
def Asc (l : List aM) : Prop := l.Pairwise fun a b => pT a b = true
theorem oY : ∀ {l m : List aM}, Asc l → Asc m → (∀ x, x ∈ l ↔ x ∈ m) → l = m
 | [], [], _, _, _ => rfl
 | [], b :: m, _, _, h => absurd ((h b).2 (by simp)) (by simp)
 | a :: l, [], _, _, h => absurd ((h a).1 (by simp)) (by simp)
 | a :: l, b :: m, hl, hm, h => by
  unfold Asc at hl hm
  rw [List.pairwise_cons] at hl hm
  have key : a = b := by
   rcases List.mem_cons.1 ((h a).1 (by simp)) with e | e
   ·exact e
   rcases List.mem_cons.1 ((h b).2 (by simp)) with e' | e'
   ·exact e'.symm
   have := aGk (hl.1 b e') (hm.1 a e)
   rw [yA] at this; cases this
  subst key
  rw [oY hl.2 hm.2 fun x => ?_]
  constructor
  ·intro hx
   rcases List.mem_cons.1 ((h x).1 (by simp [hx])) with e | e
   ·subst e; have := hl.1 x hx; rw [yA] at this; cases this
   exact e
  intro hx
  rcases List.mem_cons.1 ((h x).2 (by simp [hx])) with e | e
  ·subst e; have := hm.1 x hx; rw [yA] at this; cases this
  exact e
theorem aXy {l : List aM} {x : aM} (h : Asc l) (hx : ∀ y ∈ l, pT y x = true) : Asc (l ++ [x]) := by
 unfold Asc at *
 rw [List.pairwise_append]
 exact ⟨h, List.pairwise_singleton _ _, fun a ha b hb => by rw [List.mem_singleton.1 hb]; exact hx a ha⟩
abbrev sB (l : List aM) (i : Nat) : aM := l.getD i default
def ddS (s : List aM) : Nat → List aM
 | 0 => []
 | n + 1 => ddS s n ++ if n = 0 ∨ sB s n ≠ sB s (n - 1) then [sB s n] else []
theorem aDv (s : List aM) : ∀ n, (ddS s n).length ≤ n
 | 0 => Nat.le_refl _
 | n + 1 => by
  unfold ddS
  have := aDv s n
  rw [List.length_append]
  split <;> simp <;> omega
theorem aFz {s : List aM} : ∀ n x, x ∈ ddS s n ↔ ∃ k, k < n ∧ sB s k = x
 | 0, x => by simp [ddS]
 | n + 1, x => by
  unfold ddS
  rw [List.mem_append, aFz n x]
  constructor
  ·rintro (⟨k, hk, rfl⟩ | h)
   ·exact ⟨k, by omega, rfl⟩
   split at h
   ·exact ⟨n, by omega, (List.mem_singleton.1 h).symm⟩
   cases h
  rintro ⟨k, hk, rfl⟩
  rcases Nat.lt_or_eq_of_le (Nat.le_of_lt_succ hk) with q | q
  ·exact .inl ⟨k, q, rfl⟩
  subst q
  by_cases hc : k = 0 ∨ sB s k ≠ sB s (k - 1)
  ·rw [if_pos hc]; exact .inr (by simp)
  simp only [not_or, Classical.not_not] at hc
  exact .inl ⟨k - 1, by omega, hc.2.symm⟩
theorem aGl {s : List aM} (hs : ∀ i j, i < j → j < s.length → pT (sB s j) (sB s i) = false) : ∀ n, n ≤ s.length → Asc (ddS s n)
 | 0, _ => List.Pairwise.nil
 | n + 1, h => by
  unfold ddS
  split
  ·rename_i hc
   refine aXy (aGl hs n (by omega)) fun y hy => ?_
   obtain ⟨k, hk, rfl⟩ := (aFz n y).1 hy
   have hne : sB s n ≠ sB s (n - 1) := by rcases hc with h | h; omega; exact h
   have h1 : pT (sB s (n - 1)) (sB s n) = true := by
    cases hq : pT (sB s (n - 1)) (sB s n) with
    | true => rfl
    | false => exact absurd (uL (hs (n - 1) n (by omega) (by omega)) hq) hne
   rcases Nat.lt_or_eq_of_le (show k ≤ n - 1 by omega) with q | q
   ·exact bOh (hs k (n - 1) q (by omega)) h1
   rw [q]; exact h1
  rw [List.append_nil]; exact aGl hs n (by omega)
def mW (l : List aM) : List aM := l.mergeSort fun x y => !pT y x
theorem j8 (l : List aM) : (mW l).length = l.length := List.length_mergeSort l
theorem aZb (l : List aM) : ∀ i j, i < j → j < (mW l).length → pT (sB (mW l) j) (sB (mW l) i) = false := by
 have h := List.pairwise_mergeSort (le := fun x y => !pT y x) (fun a b c h k => by
  simp only [Bool.not_eq_true'] at *
  cases hq : pT c a with
  | false => rfl
  | true => rw [bNh hq h] at k; cases k) (fun a b => by
  simp only [Bool.or_eq_true, Bool.not_eq_true']
  cases hq : pT b a with
  | false => exact .inl rfl
  | true =>
   right
   rw [← Bool.not_eq_true, gO]
   rw [gO] at hq; omega) l
 intro i j hij hj
 have := List.pairwise_iff_getElem.1 h i j (by show i < (mW l).length; omega) hj hij
 simp only [Bool.not_eq_true'] at this
 simp only [sB, List.getD_eq_getElem?_getD, List.getElem?_eq_getElem hj, List.getElem?_eq_getElem (show i < (mW l).length by omega), Option.getD_some]
 exact this
def eY (l : List aM) : List aM := ddS (mW l) (mW l).length
theorem qE (l : List aM) : Asc (eY l) := aGl (aZb l) _ (Nat.le_refl _)
theorem l1 (l : List aM) (x : aM) : x ∈ eY l ↔ x ∈ l := by
 unfold eY
 rw [aFz, show x ∈ l ↔ x ∈ mW l from List.mem_mergeSort.symm]
 rw [List.mem_iff_getElem]
 constructor
 ·rintro ⟨k, hk, rfl⟩; exact ⟨k, hk, by simp [sB, List.getD_eq_getElem?_getD, hk]⟩
 rintro ⟨k, hk, rfl⟩; exact ⟨k, hk, by simp [sB, List.getD_eq_getElem?_getD, hk]⟩
def mB (r : bE) : List aM := r.fPoints ++ r.fOverPoints ++ r.fFlank
section
attribute [local go_sem] List.take_length
end
end Go.Sg
namespace Go.Sg
open Go.RowKit Go.Proofs Go.Sort
theorem aMa {w w' : World} (h1 : w'.os = w.os) (h2 : w'.tape = w.tape) (h3 : w'.output = w.output) (h4 : w.heap.size ≤ w'.heap.size) (h5 : w.drawn ≤ w'.drawn) (h6 : ∀ g, g < w.heap.size → w'.heap[g]? = w.heap[g]?) :
  ∃ q os, w' = Sort.grow (w.drewN q) os := by
 refine ⟨w'.drawn - w.drawn, w'.heap.extract w.heap.size w'.heap.size, ?_⟩
 have hh : w'.heap = w.heap ++ w'.heap.extract w.heap.size w'.heap.size := by
  apply Array.ext_getElem?
  intro i
  rw [Array.getElem?_append]
  split
  ·rename_i h; exact h6 i h
  rename_i h
  rw [Array.getElem?_extract]
  split
  ·congr 1; omega
  rw [Array.getElem?_eq_none (by omega)]
 have hd : w.drawn + (w'.drawn - w.drawn) = w'.drawn := by omega
 cases w'
 cases w
 simp only [World.drewN, Sort.grow] at *
 subst h1; subst h2; subst h3
 rw [hd, ← hh]
theorem aUb {P : Program} {α : Type} [Inhabited α] {enc : α → List Value} {k g blk size : Nat} {cf : α → α → Int} {w : World} {I : Nat → Prop} (hi : Imm w I) (hb : ¬ I blk)
  (h1 : ∀ x, ∀ v ∈ enc x, v.oneCell' = true)
  (hC : ∀ x y : α, aW P (fun _ => .any) g [.agg ((enc x).map .v), .agg ((enc y).map .v)] (.v (.int .i64 (cf x y)))) : CmpLays P g #[] enc k cf blk 0 size w := by
 intro m os dk hs x y
 have hsz : w.heap.size ≤ (sortWorldK enc k w blk 0 m dk os).heap.size := by
  show w.heap.size ≤ (w.heap.modify blk _ ++ os).size
  simp
 have hheap : ∀ g', g' < w.heap.size → g' ≠ blk → (sortWorldK enc k w blk 0 m dk os).heap[g']? = w.heap[g']? := fun g' hg hne => by
  show (w.heap.modify blk _ ++ os)[g']? = _
  rw [Array.getElem?_append_left (by simpa using hg), Array.getElem?_modify, if_neg (Ne.symm hne)]
 have hO : iD (sortWorldK enc k w blk 0 m dk os) I dV (fun _ => .any) := by
  refine ⟨fun _ => trivial, fun s t g c c' h => absurd h (by simp), fun s g c h => absurd h (by simp), ⟨fun g' hg => Nat.lt_of_lt_of_le (hi g' hg) hsz, fun g' us e hg => ?_⟩⟩
  obtain ⟨k1, k2⟩ := hi.glob g' us e hg
  exact ⟨k1, (hheap g' (hi g' k1) fun e => hb (e ▸ k1)).trans k2⟩
 have hrel : ∀ z : α, bK (sortWorldK enc k w blk 0 m dk os) I dV (.agg ((enc z).map .v)) (.agg (enc z).toArray) := fun z => by
  refine .agg _ _ _ (by simp) (fun u hu => h1 z u (by simpa using hu)) fun j d u hd hu => ?_
  rw [List.getElem?_map, Option.map_eq_some_iff] at hd
  obtain ⟨v, hv, rfl⟩ := hd
  have : u = v := by simpa [hv] using hu.symm
  subst this
  exact .v _ _
 refine (hC x y _ I dV #[.agg (enc x).toArray, .agg (enc y).toArray] hO rfl (fun j d u hd hu => ?_)).mono fun e w' ⟨v, I', O', r, q1, q2, q3, q4, q5, q6, q7, q8⟩ => ?_
 ·match j with
  | 0 => simp at hd hu; subst hd; subst hu; exact hrel x
  | 1 => simp at hd hu; subst hd; subst hu; exact hrel y
  | j + 2 => simp at hd
 subst q8
 have q6 : bK w' I' dV (.v (.int .i64 (cf x y))) v := q6
 cases q6
 exact ⟨q1, aMa q5.os q5.tape.1 q5.output q5.size q5.tape.2 fun g' hg => (q5.old g' hg fun s c h => by cases h).1⟩
theorem aHm {F c : Array Value} {t : Nat} (hi : t < F.size) (hc : t < c.size) : (Sort.putCells id 0 F c)[t]? = some F[t]! := by
 unfold Sort.putCells
 rw [Array.getElem?_mapIdx, Array.getElem?_eq_getElem hc, Option.map_some, if_pos ⟨Nat.zero_le _, by simpa using hi⟩]
 simp
theorem aJh {α : Type} [Inhabited α] {enc : α → List Value} {k : Nat} {w : World} {g : Nat} {us : Array Value} {e : TypeId} (h : w.heap[g]? = some (.cells us e (0, 0))) (n : Nat) (d : Array α) (os : Array Obj) :
  aGc w (sortWorldK enc k w g 0 n d os) g e (Sort.putCells id 0 (flatK enc k d) us) := by
 have hg : g < w.heap.size := (Array.getElem?_eq_some_iff.1 h).1
 have hsz : (w.heap.modify g (Sort.onCells (Sort.putCells id 0 (flatK enc k d)))).size = w.heap.size := by simp
 have hh : ∀ q, q < w.heap.size → (sortWorldK enc k w g 0 n d os).heap[q]? = (w.heap.modify g (Sort.onCells (Sort.putCells id 0 (flatK enc k d))))[q]? := fun q hq => by
  show (w.heap.modify g (Sort.onCells (Sort.putCells id 0 (flatK enc k d))) ++ os)[q]? = _
  rw [Array.getElem?_append_left (by rw [hsz]; exact hq)]
 refine ⟨rfl, ⟨rfl, Nat.le_add_right _ _⟩, rfl, ?_, ?_, fun q hq hne => ?_⟩
 ·show w.heap.size ≤ (w.heap.modify g _ ++ os).size
  simp
 ·rw [hh g hg, Array.getElem?_modify, if_pos rfl, h]; rfl
 rw [hh q hq, Array.getElem?_modify, if_neg (Ne.symm hne)]
theorem pX {P : Program} {f g : FuncId} {O : aU} {s : Nat} {e : TypeId} {z : Nat} {α : Type} [Inhabited α] {en : α → List DV} {enc : α → List Value} {l l' : List α} {cf : α → α → Int}
  (hen : ∀ x, en x = (enc x).map .v) (hk : ∀ x, (enc x).length = z) (hz : 0 < z) (h1 : ∀ x, ∀ v ∈ enc x, v.oneCell' = true) (hs : O s = rowL e z en l) (hlen : l'.length = l.length)
  (H0 : l = [] → ∀ b c w, Calls P f #[.slice b 0 c, .func (.func g) #[] #[]] w fun x w' => x = .returned (.tuple #[]) ∧ w' = w)
  (H : ∀ w blk c, HoldsK enc z w blk 0 l.toArray → blk < w.heap.size → CmpLays P g #[] enc z cf blk 0 l.length w → Calls P f #[.slice (some ⟨blk, 0, none⟩) l.length c, .func (.func g) #[] #[]] w fun x w' =>
   x = .returned (.tuple #[]) ∧ ∃ n os, w' = sortWorldK enc z w blk 0 n l'.toArray os)
  (hC : ∀ x y : α, aW P (fun _ => .any) g [.agg ((enc x).map .v), .agg ((enc y).map .v)] (.v (.int .i64 (cf x y)))) :
  iH P O f [.own s l.length, .fn g [] []] fun O' x => O' = set O s (rowL e z en l') ∧ x = .tup [] := by
 intro w I A vals hO hl hv
 obtain ⟨x, y, rfl⟩ : ∃ x y, vals = #[x, y] := by
  rcases vals with ⟨_ | ⟨x, _ | ⟨y, _ | ⟨q, ys⟩⟩⟩⟩
  ·simp at hl
  ·simp at hl
  ·exact ⟨x, y, rfl⟩
  simp at hl
 have hx := hv 0 _ x rfl rfl
 have hy := hv 1 _ y rfl rfl
 obtain rfl : y = .func (.func g) #[] #[] := by
  cases hy with
  | fn _ _ _ _ us vs hf hc _ _ =>
   obtain rfl : us = #[] := by apply Array.eq_empty_of_size_eq_zero; simpa using hf.symm
   obtain rfl : vs = #[] := by apply Array.eq_empty_of_size_eq_zero; simpa using hc.symm
   rfl
 have hfr : ∀ t, eK (O t) (set O s (rowL e z en l') t) := fun t => by
  rw [aT]; split
  ·rename_i h; subst h; rw [hs]; exact ⟨rfl, rfl, by simp [hlen]⟩
  exact eK.refl _
 have hout : ∀ t, cV (O t) → cV (set O s (rowL e z en l') t) := fun t ht => by
  rw [aT]; split
  ·rfl
  exact ht
 have hres : ∀ w' I', lF w w' I' A (.tup []) (.tuple #[]) := fun w' I' => bK.tup A [] #[] rfl (by simp)
 cases hx with
 | own _ _ _ B c b hA hb =>
  have ho := hO.own s
  rw [hs] at ho
  obtain ⟨B', c', q1, q2⟩ := ho
  rw [hA] at q1
  simp only [Option.some.injEq, Prod.mk.injEq] at q1
  obtain ⟨rfl, rfl⟩ := q1
  rcases Nat.eq_zero_or_pos l.length with h0 | h0
  ·obtain rfl : l = [] := List.eq_nil_of_length_eq_zero h0
   obtain rfl : l' = [] := List.eq_nil_of_length_eq_zero (by simpa using hlen)
   refine (H0 rfl _ _ w).mono fun _ w' ⟨k1, k2⟩ => ?_
   subst k2
   refine ⟨_, I, set O s (rowL e z en []), _, k1, ⟨fun t => ?_, hO.inj, hO.sep, hO.imm⟩, hfr, hout, eX.refl _ _ _, hres _ _, rfl, rfl⟩
   rw [aT]; split
   ·rename_i h; subst h; have := hO.own t; rw [hs] at this; exact this
   exact hO.own t
  cases B with
  | none =>
   have := q2.1
   have : (l.map en).length = 0 := by rw [this]; rfl
   simp at this; subst this; simp at h0
  | some gb =>
   obtain rfl := gH hb
   obtain ⟨us, p1, p2, p3, p4, p5⟩ := q2
   have p4 : l.length ≤ c := by simpa using p4
   have hgl : ∀ (m : List α) (i : Nat), i < m.length → m.toArray[i]! = m.getD i default := fun m i hi => by
    rw [getElem!_pos m.toArray i (by simpa using hi)]; simp [List.getD_eq_getElem?_getD, List.getElem?_eq_getElem hi]
   have hdm : ∀ t, t < l.length * z → t / z < l.length ∧ t % z < z := fun t ht => ⟨Nat.div_lt_of_lt_mul (by rwa [Nat.mul_comm] at ht), Nat.mod_lt _ hz⟩
   have hcz : l.length * z ≤ c * z := Nat.mul_le_mul_right _ p4
   have hcont : ∀ t, t < l.length * z → us[t]? = some (enc (l.getD (t / z) default))[t % z]! := fun t ht => by
    obtain ⟨d1, d2⟩ := hdm t ht
    have e1 : (l.map en)[t / z]? = some (en (l.getD (t / z) default)) := by simp [List.getElem?_eq_getElem d1]
    have e2 : (en (l.getD (t / z) default))[t % z]? = some (.v (enc (l.getD (t / z) default))[t % z]!) := by
     rw [hen, List.getElem?_map, List.getElem?_eq_getElem (by rw [hk]; exact d2), Option.map_some, getElem!_pos _ _ (by rw [hk]; exact d2)]
    have hb' : t / z * z + t % z < us.size := by rw [Nat.mul_comm, Nat.div_add_mod]; omega
    have := ((p5 _ _ e1).2 _ _ _ e2 (Array.getElem?_eq_getElem hb')).2
    have e3 : us[t]? = some (us[t / z * z + t % z]'hb') := by rw [← Array.getElem?_eq_getElem hb']; congr 1; rw [Nat.mul_comm, Nat.div_add_mod]
    rw [e3]
    generalize us[t / z * z + t % z]'hb' = u at this
    cases this; rfl
   have hholds : HoldsK enc z w gb 0 l.toArray := fun t ht => by
    have ht : t < l.length * z := by simpa using ht
    obtain ⟨k1, k2⟩ := aCt p1 (0 + t)
    refine ⟨?_, k2⟩
    rw [k1, Nat.zero_add, hcont t ht]
    show _ = some ((flatK enc z l.toArray)[t]!)
    rw [get_flatK _ _ _ _ (by simpa using ht), hgl l _ (hdm t ht).1]
   obtain ⟨hgs, hgI⟩ := hO.sep s gb c hA
   refine (H w gb c hholds hgs (aUb hO.imm hgI h1 hC)).mono fun _ w' ⟨k1, n, os, k2⟩ => ?_
   have kt : aGc w w' gb e _ := k2 ▸ aJh p1 n l'.toArray os
   have hrel : ∀ (B : cY) d v, bK w I B d v → bK w' I B d v := fun B d v hr => hr.mono fun k hkI => ⟨hkI, fun o => eF (kt.other k (hO.imm k hkI) fun e => hgI (e ▸ hkI)) o⟩
   refine ⟨_, I, set O s (rowL e z en l'), _, k1, ⟨fun t => ?_, hO.inj, fun t k c' h => ⟨Nat.lt_of_lt_of_le (hO.sep t k c' h).1 kt.size, (hO.sep t k c' h).2⟩, hO.imm.step (fun k hkI => Nat.lt_of_lt_of_le (hO.imm k hkI) kt.size) fun k hkI => ⟨hkI, kt.other k (hO.imm k hkI) fun e => hgI (e ▸ hkI)⟩⟩, hfr, hout,
    ⟨kt.os, kt.tape, kt.output, kt.size, fun _ h => h, fun k hk h => ⟨kt.other k hk fun e => h s c (e ▸ hA), fun h => h, h⟩, fun t k c' h _ ht => ⟨t, c', ht, h⟩, fun _ _ => rfl⟩, hres _ _, rfl, rfl⟩
   rw [aT]; split
   ·rename_i h; subst h
    refine ⟨some gb, c, hA, _, kt.here, by simpa [Sort.putCells] using p2, p3, by simpa [hlen] using p4, fun i x hx => ?_⟩
    rw [List.getElem?_map, Option.map_eq_some_iff] at hx
    obtain ⟨a, ha, rfl⟩ := hx
    have hlt : i < l'.length := (List.getElem?_eq_some_iff.1 ha).1
    refine ⟨by rw [hen, List.length_map, hk], fun j d u hd hu => ?_⟩
    rw [hen, List.getElem?_map, Option.map_eq_some_iff] at hd
    obtain ⟨v, hv', rfl⟩ := hd
    have hj : j < z := by
     rw [← hk a]
     exact (List.getElem?_eq_some_iff.1 hv').1
    have hb2 : i * z + j < l'.length * z := by
     have := Nat.mul_le_mul_right z (show i + 1 ≤ l'.length by omega)
     rw [Nat.succ_mul] at this; omega
    have hdv : (i * z + j) / z = i := by rw [Nat.mul_comm, Nat.mul_add_div hz, Nat.div_eq_of_lt hj, Nat.add_zero]
    have hmd : (i * z + j) % z = j := by rw [Nat.mul_comm, Nat.mul_add_mod, Nat.mod_eq_of_lt hj]
    rw [aHm (by simpa using hb2) (by rw [p2]; rw [hlen] at hb2; omega), get_flatK _ _ _ _ (by simpa using hb2), hdv, hmd, hgl l' i hlt] at hu
    have ea : l'.getD i default = a := by rw [List.getD_eq_getElem?_getD, ha]; rfl
    rw [ea] at hu
    have hjl : j < (enc a).length := (List.getElem?_eq_some_iff.1 hv').1
    rw [getElem!_pos (enc a) j hjl] at hu
    have : u = v := by
     have h2 := (List.getElem?_eq_some_iff.1 hv').2
     simp only [Option.some.injEq] at hu
     rw [← hu, ← h2]
    subst this
    exact ⟨h1 a u (List.mem_of_getElem? hv'), .v _ _⟩
   rename_i hne
   refine (hO.own t).keep (fun k c' h => kt.other k (hO.sep t k c' h).1 fun e => hne (hO.inj t s gb c' c (e ▸ h) hA)) hrel
end Go.Sg
namespace Go.Proofs
open Go.Shelf
def Tryz.sort64_ren : Go.Shelf.Ren := ⟨fun | 6 => 64 | 15 => 106 | 14 => 105 | 28 => 165 | 29 => 166 | 20 => 157 | 21 => 158 | 22 => 159 | 23 => 160 | 24 => 161 | 25 => 162 | 26 => 163 | 27 => 164 | 46 => 204 | 47 => 205 | 48 => 206 | 49 => 207 | 50 => 208 | 57 => 217 | n => n, fun | 22 => 43 | 24 => 68 | 25 => 97 | 3 => 3 | 39 => 131 | 0 => 0 | 53 => 170 | 55 => 172 | 4 => 4 | 46 => 164 | 45 => 163 | 50 => 125 | 5 => 5 | 9 => 9 | 66 => 208 | 70 => 212 | 76 => 218 | 77 => 219 | n => n, fun | n => n⟩
theorem Tryz.sort64 : Go.Proofs.SlLaysF0.n6 Tryz.prog Tryz.sort64_ren := {
 mixed := by kernel_rfl
 f6 := ⟨Tryz.f64.name, by decide, Tryz.func64.trans (congrArg some (by kernel_rfl))⟩
 f14 := ⟨Tryz.f105.name, by decide, Tryz.func105.trans (congrArg some (by kernel_rfl))⟩
 f15 := Tryz.func106.trans (congrArg some (by kernel_rfl))
 f20 := ⟨Tryz.f157.name, by decide, Tryz.func157.trans (congrArg some (by kernel_rfl))⟩
 f21 := ⟨Tryz.f158.name, by decide, Tryz.func158.trans (congrArg some (by kernel_rfl))⟩
 f22 := ⟨Tryz.f159.name, by decide, Tryz.func159.trans (congrArg some (by kernel_rfl))⟩
 f23 := ⟨Tryz.f160.name, by decide, Tryz.func160.trans (congrArg some (by kernel_rfl))⟩
 f24 := ⟨Tryz.f161.name, by decide, Tryz.func161.trans (congrArg some (by kernel_rfl))⟩
 f25 := ⟨Tryz.f162.name, by decide, Tryz.func162.trans (congrArg some (by kernel_rfl))⟩
 f26 := ⟨Tryz.f163.name, by decide, Tryz.func163.trans (congrArg some (by kernel_rfl))⟩
 f27 := ⟨Tryz.f164.name, by decide, Tryz.func164.trans (congrArg some (by kernel_rfl))⟩
 f28 := Tryz.func165.trans (congrArg some (by kernel_rfl))
 f29 := Tryz.func166.trans (congrArg some (by kernel_rfl))
 f46 := ⟨Tryz.f204.name, by decide, Tryz.func204.trans (congrArg some (by kernel_rfl))⟩
 f47 := Tryz.func205.trans (congrArg some (by kernel_rfl))
 f48 := Tryz.func206.trans (congrArg some (by kernel_rfl))
 f49 := ⟨Tryz.f207.name, by decide, Tryz.func207.trans (congrArg some (by kernel_rfl))⟩
 f50 := ⟨Tryz.f208.name, by decide, Tryz.func208.trans (congrArg some (by kernel_rfl))⟩
 f57 := ⟨Tryz.f217.name, by decide, Tryz.func217.trans (congrArg some (by kernel_rfl))⟩
 t0 := Tryz.underlying0
 a0 := Tryz.isAgg0
 z0 := Tryz.sizeOf0
 v0 := Tryz.zeroValue0
 t3 := Tryz.underlying3
 a3 := Tryz.isAgg3
 z3 := Tryz.sizeOf3
 v3 := Tryz.zeroValue3
 t4 := Tryz.underlying4
 a4 := Tryz.isAgg4
 z4 := Tryz.sizeOf4
 v4 := Tryz.zeroValue4
 t5 := Tryz.underlying5
 a5 := Tryz.isAgg5
 z5 := Tryz.sizeOf5
 v5 := Tryz.zeroValue5
 t9 := Tryz.underlying9
 a9 := Tryz.isAgg9
 z9 := Tryz.sizeOf9
 v9 := Tryz.zeroValue9
 t22 := Tryz.underlying43
 a22 := Tryz.isAgg43
 z22 := Tryz.sizeOf43
 v22 := Tryz.zeroValue43
 t25 := Tryz.underlying97
 a25 := Tryz.isAgg97
 z25 := Tryz.sizeOf97
 v25 := Tryz.zeroValue97
 t39 := Tryz.underlying131
 a39 := Tryz.isAgg131
 z39 := Tryz.sizeOf131
 v39 := Tryz.zeroValue131
 t45 := Tryz.underlying163
 a45 := Tryz.isAgg163
 z45 := Tryz.sizeOf163
 v45 := Tryz.zeroValue163
 t46 := Tryz.underlying164
 a46 := Tryz.isAgg164
 z46 := Tryz.sizeOf164
 v46 := Tryz.zeroValue164
 t50 := Tryz.underlying125
 a50 := Tryz.isAgg125
 z50 := Tryz.sizeOf125
 v50 := Tryz.zeroValue125
 t53 := Tryz.underlying170
 a53 := Tryz.isAgg170
 z53 := Tryz.sizeOf170
 v53 := Tryz.zeroValue170
 t55 := Tryz.underlying172
 a55 := Tryz.isAgg172
 z55 := Tryz.sizeOf172
 v55 := Tryz.zeroValue172
 t66 := Tryz.underlying208
 a66 := Tryz.isAgg208
 z66 := Tryz.sizeOf208
 v66 := Tryz.zeroValue208
 t70 := Tryz.underlying212
 a70 := Tryz.isAgg212
 z70 := Tryz.sizeOf212
 v70 := Tryz.zeroValue212
 t76 := Tryz.underlying218
 a76 := Tryz.isAgg218
 z76 := Tryz.sizeOf218
 v76 := Tryz.zeroValue218
 t77 := Tryz.underlying219
 a77 := Tryz.isAgg219
 z77 := Tryz.sizeOf219
 v77 := Tryz.zeroValue219 }
end Go.Proofs
namespace Go.Sg
open Go.Proofs
def kE (a b : Int) : Int := if a < b then -1 else if b < a then 1 else 0
def orI : List Int → Int
 | [] => 0
 | x :: l => if x = 0 then orI l else x
abbrev aCx (ls : List (List aM)) : DV := encL 1 (fun l => [mY l]) ls
abbrev aQo (l : List aM) : DV := rowL 68 2 aY l
def stC (x y : aM) : Int := orI [kE x.fEl y.fEl, kE x.fPos y.fPos]
def aWo : Go.Shelf.Ren := ⟨fun | 4 => 104 | n => n, fun | 22 => 43 | 25 => 68 | n => n, fun | n => n⟩
theorem aCs : Go.Proofs.Lays8.n4 Tryz.prog aWo := {
 mixed := by kernel_rfl
 f4 := ⟨Tryz.f104.name, by decide, Tryz.func104.trans (congrArg some (by kernel_rfl))⟩
 t0 := Tryz.underlying0
 a0 := Tryz.isAgg0
 z0 := Tryz.sizeOf0
 v0 := Tryz.zeroValue0
 t3 := Tryz.underlying3
 a3 := Tryz.isAgg3
 z3 := Tryz.sizeOf3
 v3 := Tryz.zeroValue3
 t4 := Tryz.underlying4
 a4 := Tryz.isAgg4
 z4 := Tryz.sizeOf4
 v4 := Tryz.zeroValue4
 t9 := Tryz.underlying9
 a9 := Tryz.isAgg9
 z9 := Tryz.sizeOf9
 v9 := Tryz.zeroValue9
 t20 := Tryz.underlying20
 a20 := Tryz.isAgg20
 z20 := Tryz.sizeOf20
 v20 := Tryz.zeroValue20
 t22 := Tryz.underlying43
 a22 := Tryz.isAgg43
 z22 := Tryz.sizeOf43
 v22 := Tryz.zeroValue43 }
theorem oX (O : aU) (n : Nat) (hn : 0 < n) (hb : n ≤ 1000000) : aW Tryz.prog O 104 [.v (.slice none 0 0), vi n] (rowL 68 2 aY []) :=
 s0 aCs rfl rfl (show kU Tryz.prog 43 = some (68, 2, 16) by kernel_rfl) (show fD Tryz.prog 68 = some [.int .i64 0, .int .i64 0] by kernel_rfl) (by decide) rfl rfl O n hn (by omega) (by omega)
theorem pP (O : aU) (n : Nat) (hb : n ≤ 1000000) : aW Tryz.prog O 104 [.v (.slice none 0 0), vi n] (rowL 68 2 aY []) := by
 rcases Nat.eq_zero_or_pos n with h | h
 ·subst h; exact rA aCs rfl rfl O 68 2
 exact oX O n h hb
section
attribute [local go_sem] wX
theorem nX (O : aU) (ls : List (List aM)) (hb : ls.flatten.length ≤ 100000) : aW Tryz.prog O 63 [aCx ls] (aQo ls.flatten) := by
 refine aO 0 rfl (.sl _ _ _) fun hl => ?_
 refine dT Tryz.func63 ?_
 refine aB [0] ?_
 refine aB [0] ?_
 refine aA fun K2 hK2 => ?_
 refine aB [0, 3] ?_
 refine aK ?_
 refine aX [0, 3, 9, 10, 11] (fun n ρ => ∃ i, ∃ s, n = ls.length - i ∧ (i ≤ ls.length) ∧ (s + (ls.drop i).flatten.length = ls.flatten.length) ∧ ρ = cU O [(0, aCx ls), (3, vi (s : Nat)), (9, aCx ls), (10, vi (ls.length : Nat)), (11, vi (i : Nat))]) _ ⟨0, 0, rfl, ?_, ?_, ?_⟩ ?_
 ·exact bD
 ·simp
 ·exact cD
 rintro n ρ ⟨i, s, rfl, l0_0, l0_1, rfl⟩ K4 hK4
 refine aB [0, 3, 9, 10, 11] ?_
 refine aA fun K6 hK6 => ?_
 refine aS (fun c0 => ?_) fun c0 => ?_
 ·refine aJ ?_
  refine hK6 _ ?_; clear hK6
  refine aA fun K7 hK7 => ?_
  refine aK ?_
  refine aB [0, 3, 9, 10, 11] ?_
  refine aA fun K9 hK9 => ?_
  have hs : s + (ls.getD i default).length + (ls.drop (i + 1)).flatten.length = ls.flatten.length := by rw [← l0_1, bT default c0, List.flatten_cons, List.length_append]; omega
  refine bC [0, 3, 5, 9, 10, 11, 13] ?_
  refine hK9 _ ?_; clear hK9
  refine aB [0, 3, 9, 10, 11] ?_
  refine aS (fun c1 => ?_) fun c1 => ?_
  ·omega
  refine aJ ?_
  refine hK7 _ ?_; clear hK7
  refine bC [0, 3, 9, 10, 11] ?_
  refine hK4 _ _ ?_ ⟨i + 1, s + (ls.getD i default).length, rfl, ?_, ?_, ?_⟩
  ·exact bD
  ·exact bD
  ·exact hs
  exact cD
 refine bA ?_
 refine hK2 _ ?_; clear hK2
 refine aA fun K11 hK11 => ?_
 refine bF [0, 3] ?_
 refine dM (pP _ s (by omega)) ?_
 refine hK11 _ ?_; clear hK11
 refine aA fun K12 hK12 => ?_
 refine aB [0, 6] ?_
 refine aK ?_
 refine aX [6, 25, 26, 27] (fun n ρ => ∃ j, ∃ out, n = ls.length - j ∧ (j ≤ ls.length) ∧ (out ++ (ls.drop j).flatten = ls.flatten) ∧ ρ = cU O [(6, aQo out), (25, aCx ls), (26, vi (ls.length : Nat)), (27, vi (j : Nat))]) _ ⟨0, [], rfl, ?_, ?_, ?_⟩ ?_
 ·exact bD
 ·rfl
 ·exact cD
 rintro n ρ ⟨j, out, rfl, l1_0, l1_1, rfl⟩ K14 hK14
 refine aB [0, 6, 25, 26, 27] ?_
 refine aA fun K16 hK16 => ?_
 refine aS (fun c2 => ?_) fun c2 => ?_
 ·refine aJ ?_
  refine hK16 _ ?_; clear hK16
  refine aA fun K17 hK17 => ?_
  refine aK ?_
  refine aB [0, 6, 25, 26, 27] ?_
  have hs : (out ++ ls.getD j default).length ≤ ls.flatten.length := by rw [← l1_1, bT default c2, List.flatten_cons, List.length_append, List.length_append, List.length_append]; omega
  rw [List.length_append] at hs
  refine bC [0, 6, 8, 25, 26, 27, 29] ?_
  refine hK17 _ ?_; clear hK17
  refine bC [0, 6, 25, 26, 27] ?_
  refine hK14 _ _ ?_ ⟨j + 1, out ++ ls.getD j default, rfl, ?_, ?_, ?_⟩
  ·exact bD
  ·exact bD
  ·rw [← l1_1, bT default c2, List.flatten_cons, List.append_assoc]
  exact cD
 refine bA ?_
 refine hK12 _ ?_; clear hK12
 refine aB [6] ?_
 refine aL ?_
 refine b6 2 ?_
 exact cP.ownL rfl (by omega) rfl rfl (by rw [← l1_1, eJ c2]; simp)
end
theorem nT (O : aU) (a : Int) : aW Tryz.prog O 107 [vi a] (vb false) := by
 refine dT Tryz.func107 ?_
 refine aB [0] ?_
 refine aB [0] ?_
 refine aL ?_
 refine b6 2 ?_
 exact xd
theorem eN (O : aU) (a b : Int) : aW Tryz.prog O 67 [vi a, vi b] (vi (kE a b)) := by
 refine dT Tryz.func67 ?_
 refine aB [0, 1] ?_
 refine aA fun K1 hK1 => ?_
 refine bF [0, 1] ?_
 refine dM (nT _ _) ?_
 refine hK1 _ ?_; clear hK1
 refine aA fun K2 hK2 => ?_
 refine bF [0, 1, 5] ?_
 refine dM (nT _ _) ?_
 refine hK2 _ ?_; clear hK2
 refine aA fun K3 hK3 => ?_
 refine aB [0, 1, 5, 6] ?_
 refine rP false (by rfl) (rfl) (fun h => by cases h) (fun _ => ?_)
 refine aJ ?_
 refine hK3 _ ?_; clear hK3
 refine aA fun K5 hK5 => ?_
 refine aB [0, 1, 6] ?_
 refine rP false (by rfl) (rfl) (fun h => by cases h) (fun _ => ?_)
 refine aJ ?_
 refine hK5 _ ?_; clear hK5
 refine aA fun K7 hK7 => ?_
 refine aB [0, 1] ?_
 refine aS (fun c2 => ?_) fun c2 => ?_
 ·refine aB [] ?_
  refine aL ?_
  refine b6 4 ?_
  exact cP.is (by simp (disch := omega) only [go_sem, seval] <;> (simp only [kE]; split <;> first | rfl | (split <;> first | rfl | omega) | omega)) rfl rfl
 refine aJ ?_
 refine hK7 _ ?_; clear hK7
 refine aA fun K10 hK10 => ?_
 refine aB [0, 1] ?_
 refine aS (fun c3 => ?_) fun c3 => ?_
 ·refine aB [] ?_
  refine aL ?_
  refine b6 4 ?_
  exact cP.is (by simp (disch := omega) only [go_sem, seval] <;> (simp only [kE]; split <;> first | rfl | (split <;> first | rfl | omega) | omega)) rfl rfl
 refine aJ ?_
 refine hK10 _ ?_; clear hK10
 refine aB [] ?_
 refine aL ?_
 refine b6 4 ?_
 exact cP.is (by simp (disch := omega) only [go_sem, seval] <;> (simp only [kE]; split <;> first | rfl | (split <;> first | rfl | omega) | omega)) rfl rfl
theorem nI (O : aU) (l : List Int) : aW Tryz.prog O 66 [b9 l] (vi (orI l)) := by
 refine aO 0 rfl (.sl _ _ _) fun hl => ?_
 refine dT Tryz.func66 ?_
 refine aB [0] ?_
 refine aB [0] ?_
 refine aA fun K2 hK2 => ?_
 refine aB [0, 3] ?_
 refine aK ?_
 refine aX [3, 6, 7, 8] (fun n ρ => ∃ i, n = l.length - i ∧ (i ≤ l.length) ∧ (orI l = orI (l.drop i)) ∧ ρ = cU O [(3, vi 0), (6, b9 l), (7, vi (l.length : Nat)), (8, vi (i : Nat))]) _ ⟨0, rfl, ?_, ?_, ?_⟩ ?_
 ·exact bD
 ·rfl
 ·exact cD
 rintro n ρ ⟨i, rfl, l0_0, l0_1, rfl⟩ K4 hK4
 refine aB [0, 3, 6, 7, 8] ?_
 refine aA fun K6 hK6 => ?_
 refine aS (fun c0 => ?_) fun c0 => ?_
 ·refine aJ ?_
  refine hK6 _ ?_; clear hK6
  refine aA fun K7 hK7 => ?_
  refine aK ?_
  refine aB [0, 3, 6, 7, 8] ?_
  refine aB [0, 3, 5, 6, 7, 8] ?_
  refine aS (fun c1 => ?_) fun c1 => ?_
  ·refine aB [5] ?_
   refine aL ?_
   refine b6 2 ?_
   exact cP.is (by simp (disch := omega) only [go_sem, seval] <;> (rw [l0_1, bT default c0, orI, if_neg c1])) rfl rfl
  refine aJ ?_
  refine hK7 _ ?_; clear hK7
  refine bC [0, 3, 6, 7, 8] ?_
  refine hK4 _ _ ?_ ⟨i + 1, rfl, ?_, ?_, ?_⟩
  ·exact bD
  ·exact bD
  ·rw [l0_1, bT default c0, orI, if_pos c1]
  exact cD
 refine bA ?_
 refine hK2 _ ?_; clear hK2
 refine aB [3] ?_
 refine aL ?_
 refine b6 2 ?_
 exact cP.is (by simp (disch := omega) only [go_sem, seval] <;> (rw [l0_1, eJ c0]; rfl)) rfl rfl
theorem rV (O : aU) (x y : aM) : aW Tryz.prog O 65 [.agg (aY x), .agg (aY y)] (vi (stC x y)) := by
 refine dT Tryz.func65 ?_
 refine aB [0, 1] ?_
 refine aA fun K1 hK1 => ?_
 refine e5 [2, 3] [] ?_
 refine cdz (eN _ x.fEl y.fEl) ?_
 refine cdz (eN _ x.fPos y.fPos) ?_
 refine cdz (fR [b9 [kE x.fEl y.fEl, kE x.fPos y.fPos]] (.cons (bV.litL [kE x.fEl y.fEl, kE x.fPos y.fPos] rfl rfl) .nil) (nI _ [kE x.fEl y.fEl, kE x.fPos y.fPos])) ?_
 refine hK1 _ ?_; clear hK1
 refine aL ?_
 refine b6 4 ?_
 exact cP.is (by simp (disch := omega) only [go_sem, seval] <;> (rfl)) rfl rfl
theorem aWd (a b : Int) : kE a b = 0 ↔ a = b := by unfold kE; split; omega; split <;> omega
theorem aUm (a b : Int) : kE a b < 0 ↔ a < b := by unfold kE; split; omega; split <;> omega
theorem sS : ltOf stC = pT := by
 funext x y
 rw [Bool.eq_iff_iff, gO]
 unfold ltOf stC
 rw [decide_eq_true_eq, orI, orI, orI]
 have h1 := aWd x.fEl y.fEl
 have h2 := aUm x.fEl y.fEl
 have h3 := aWd x.fPos y.fPos
 have h4 := aUm x.fPos y.fPos
 split
 ·split <;> omega
 omega
theorem bHq : Go.Sort.SWO (ltOf stC) := by
 rw [sS]
 refine ⟨yA, fun x y z h k => aGk h k, fun x y z h k => ?_⟩
 rw [← Bool.not_eq_true, gO] at *
 omega
theorem bTa (O : aU) (s : Nat) (l : List aM) (hs : O s = aQo l) (hb : l.length ≤ 100000) : iH Tryz.prog O 64 [.own s l.length, .fn 65 [] []] fun O' x => O' = set O s (aQo (mW l)) ∧ x = .tup [] :=
 pX (enc := fun x => [.int .i64 x.fEl, .int .i64 x.fPos]) (cf := stC) (fun _ => rfl) (fun _ => rfl) (by decide) (fun x v hv => by simp at hv; rcases hv with rfl | rfl <;> rfl) hs (j8 l)
  (fun _ b c w => AnyF.slices_SortFunc_none Tryz.sort64 b c _ w)
  (fun w blk c hH hblk hc => by
   have := AnyQ.slices_SortFunc_total Tryz.sort64 2 Tryz.isAgg68 Tryz.sizeOf68 (fun x : aM => [.int .i64 x.fEl, .int .i64 x.fPos]) (fun _ => rfl) (fun x v hv => by simp at hv; rcases hv with rfl | rfl <;> rfl) stC bHq 65 #[] blk 0 c l.toArray w
    (enters_of Tryz.func65 (by kernel_rfl) rfl) (by simpa using hc) hH hblk (by simp; omega) (fun x y h k => by rw [sS] at h k; exact uL h k)
   rw [sS] at this
   change Calls Tryz.prog 64 _ _ _ at this
   simpa [mW] using this)
  (fun x y => rV _ x y)
set_option maxHeartbeats 2000000 in
theorem uA (O : aU) (r : bE) (hb : (mB r).length ≤ 240) : aW Tryz.prog O 30 [.agg (aZ r)] (mY (eY (mB r))) := by
 have hm := j8 (mB r)
 have hfl : [r.fPoints, r.fOverPoints, r.fFlank].flatten = (mB r) := by simp [mB]
 refine dT Tryz.func30 ?_
 refine aB [0] ?_
 refine aA fun K1 hK1 => ?_
 refine bF [1] ?_
 refine dM (fR [aCx [r.fPoints, r.fOverPoints, r.fFlank]] (.cons (bV.litL [r.fPoints, r.fOverPoints, r.fFlank] rfl rfl) .nil) (by rw [← hfl]; exact nX _ [r.fPoints, r.fOverPoints, r.fFlank] (by rw [hfl]; omega) : aW Tryz.prog _ 63 [aCx [r.fPoints, r.fOverPoints, r.fFlank]] (aQo (mB r)))) ?_
 refine hK1 _ ?_; clear hK1
 refine aA fun K2 hK2 => ?_
 refine bF [3] ?_
 refine ⟨_, bTa _ 3 (mB r) rfl (by omega), ?_⟩; rintro O1 r1 ⟨rfl, rfl⟩
 refine lZ ?_
 refine hK2 _ ?_; clear hK2
 refine aB [3] ?_
 refine aA fun K4 hK4 => ?_
 refine aA fun K5 hK5 => ?_
 refine dG 3 (mW (mB r)) rfl rfl ?_
 refine d9 4 68 2 aY rfl rfl ?_
 refine bC [3, 4] ?_
 refine hK5 _ ?_; clear hK5
 refine aK ?_
 refine aX [3, 4, 17, 18, 19] (fun n ρ => ∃ i, n = (mW (mB r)).length - i ∧ (i ≤ (mW (mB r)).length) ∧ ρ = cU O [(3, mY (mW (mB r))), (4, aQo (ddS (mW (mB r)) i)), (17, mY (mW (mB r))), (18, vi ((mW (mB r)).length : Nat)), (19, vi (i : Nat))]) _ ⟨0, rfl, ?_, ?_⟩ ?_
 ·exact bD
 ·exact cD
 rintro n ρ ⟨i, rfl, l0_0, rfl⟩ K6 hK6
 have hdl := aDv (mW (mB r)) i
 refine aB [3, 4, 17, 18, 19] ?_
 refine aA fun K8 hK8 => ?_
 refine aS (fun c0 => ?_) fun c0 => ?_
 ·refine aJ ?_
  refine hK8 _ ?_; clear hK8
  refine aA fun K9 hK9 => ?_
  refine aK ?_
  refine aB [3, 4, 17, 18, 19] ?_
  refine aA fun K11 hK11 => ?_
  refine e5 [3, 4, 5, 6, 17, 18, 19] [] ?_
  refine hK11 _ ?_; clear hK11
  refine aS (fun c1 => ?_) fun c1 => ?_
  ·have hc : i = 0 ∨ sB (mW (mB r)) i ≠ sB (mW (mB r)) (i - 1) := (by rcases c1 with h | h; exact .inl h; right; intro he; have he := (fE _ _).1 he; rcases h with h | h; exact h he.1; exact h he.2)
   refine bC [3, 4, 6, 17, 18, 19] ?_
   refine hK9 _ ?_; clear hK9
   refine bC [3, 4, 17, 18, 19] ?_
   refine hK6 _ _ ?_ ⟨i + 1, rfl, ?_, ?_⟩
   ·exact bD
   ·exact bD
   simp (disch := omega) only [go_sem, seval] <;> (rw [ddS, if_pos hc]; first | rfl | simp)
  have hc : ¬ (i = 0 ∨ sB (mW (mB r)) i ≠ sB (mW (mB r)) (i - 1)) := (by rintro (h | h); exact c1.1 h; exact h ((fE _ _).2 c1.2))
  refine aJ ?_
  refine hK9 _ ?_; clear hK9
  refine bC [3, 4, 17, 18, 19] ?_
  refine hK6 _ _ ?_ ⟨i + 1, rfl, ?_, ?_⟩
  ·exact bD
  ·exact bD
  simp (disch := omega) only [go_sem, seval] <;> (rw [ddS, if_neg hc, List.append_nil]; rfl)
 refine bA ?_
 refine hK4 _ ?_; clear hK4
 refine aA fun K12 hK12 => ?_
 refine dG 4 _ rfl rfl ?_
 refine bC [4] ?_
 refine hK12 _ ?_; clear hK12
 refine aL ?_
 refine b6 2 ?_
 exact cP.encL rfl (by rw [show i = (mW (mB r)).length by omega]; rfl)
end Go.Sg
namespace Go.Sg
open Go.Proofs
def kS (q : List aM) (s : aM) : Nat := (q.takeWhile fun x => pT x s).length
def aBt (q : List aM) (s : aM) : List aM := q.take (kS q s) ++ (if kS q s = q.length ∨ sB q (kS q s) ≠ s then [s] else []) ++ q.drop (kS q s)
theorem bFx {f : aM → Bool} : ∀ {q : List aM} {i : Nat}, gU f q i → i ≤ q.length → (i = q.length ∨ f (q.getD i default) = false) → (q.takeWhile f).length = i
 | [], i, _, h, _ => by simp at h; simp [h]
 | a :: q, 0, _, _, h => by
  rcases h with h | h
  ·simp at h
  rw [List.takeWhile_cons]; simp at h; rw [h]; rfl
 | a :: q, i + 1, ha, hl, h => by
  have h0 : f a = true := ha 0 (by omega)
  rw [List.takeWhile_cons, h0, if_pos rfl, List.length_cons]
  congr 1
  exact bFx (fun j hj => ha (j + 1) (by omega)) (by simpa using hl) (by simpa using h)
theorem bKq (q : List aM) (s : aM) : ∀ x ∈ q.take (kS q s), pT x s = true := by
 unfold kS
 induction q with
 | nil => simp
 | cons a q ih =>
  rw [List.takeWhile_cons]
  cases h : pT a s with
  | false => simp
  | true =>
   rw [if_pos rfl, List.length_cons, List.take_succ_cons]
   intro x hx
   rcases List.mem_cons.1 hx with rfl | hx
   ·exact h
   exact ih x hx
theorem bUy (q : List aM) (s : aM) : kS q s = q.length ∨ pT (sB q (kS q s)) s = false := by
 unfold kS sB
 induction q with
 | nil => left; rfl
 | cons a q ih =>
  rw [List.takeWhile_cons]
  cases h : pT a s with
  | false => right; simpa using h
  | true =>
   rw [if_pos rfl, List.length_cons, List.length_cons]
   rcases ih with ih | ih
   ·left; rw [ih]
   right; simpa using ih
theorem bFk (q : List aM) (s : aM) : kS q s ≤ q.length := by unfold kS; exact (List.takeWhile_sublist _).length_le
theorem bAm (q : List aM) (s x : aM) : x ∈ aBt q s ↔ x ∈ q ∨ x = s := by
 have hm : ∀ x, x ∈ q ↔ x ∈ q.take (kS q s) ∨ x ∈ q.drop (kS q s) := fun x => by
  rw [← List.mem_append, List.take_append_drop]
 unfold aBt
 rw [List.mem_append, List.mem_append, hm x]
 split
 ·simp only [List.mem_singleton]
  constructor
  ·rintro ((h | h) | h)
   ·exact .inl (.inl h)
   ·exact .inr h
   exact .inl (.inr h)
  rintro ((h | h) | h)
  ·exact .inl (.inl h)
  ·exact .inr h
  exact .inl (.inr h)
 rename_i hc
 simp only [not_or, Classical.not_not] at hc
 have hlt : kS q s < q.length := Nat.lt_of_le_of_ne (bFk q s) hc.1
 simp only [List.not_mem_nil, or_false]
 constructor
 ·exact fun h => .inl h
 rintro (h | h)
 ·exact h
 right
 rw [bT default hlt, h]
 exact List.mem_cons.2 (.inl hc.2.symm)
theorem bBz {q : List aM} (h : Asc q) (s : aM) : Asc (aBt q s) := by
 have hq : Asc (q.take (kS q s) ++ q.drop (kS q s)) := by rw [List.take_append_drop]; exact h
 unfold aBt
 split
 ·rename_i hc
  unfold Asc at hq ⊢
  rw [List.pairwise_append] at hq
  have hd : ∀ y ∈ q.drop (kS q s), pT s y = true := fun y hy => by
   by_cases hl : kS q s = q.length
   ·rw [List.drop_of_length_le (by omega)] at hy; cases hy
   have hlt : kS q s < q.length := Nat.lt_of_le_of_ne (bFk q s) hl
   have h1 := (bUy q s).resolve_left hl
   have h2 := hc.resolve_left hl
   have h3 : pT s (sB q (kS q s)) = true := by
    cases hx : pT s (sB q (kS q s)) with
    | true => rfl
    | false => exact absurd (uL h1 hx) h2
   have hp := hq.2.1
   rw [bT default hlt] at hy hp
   rcases List.mem_cons.1 hy with rfl | hy
   ·exact h3
   exact aGk h3 ((List.pairwise_cons.1 hp).1 y hy)
  rw [List.append_assoc, List.pairwise_append]
  refine ⟨hq.1, ?_, fun a ha b hb => ?_⟩
  ·rw [List.singleton_append, List.pairwise_cons]
   exact ⟨hd, hq.2.1⟩
  rcases List.mem_append.1 hb with hb | hb
  ·rw [List.mem_singleton.1 hb]; exact bKq q s a ha
  exact hq.2.2 a ha b hb
 rw [List.append_nil]; exact hq
theorem bDl (a : List aM) (s : aM) : aBt (eY a) s = eY (a ++ [s]) :=
 oY (bBz (qE a) s) (qE _) fun x => by
  rw [bAm, l1, l1, List.mem_append, List.mem_singleton]
theorem sZ (O : aU) (x y : aM) : aW Tryz.prog O 135 [.agg (aY x), .agg (aY y)] (vi (stC x y)) := by
 refine dT Tryz.func135 ?_
 refine aB [0, 1] ?_
 refine aA fun K1 hK1 => ?_
 refine e5 [2, 3] [] ?_
 refine cdz (eN _ x.fEl y.fEl) ?_
 refine cdz (eN _ x.fPos y.fPos) ?_
 refine cdz (fR [b9 [kE x.fEl y.fEl, kE x.fPos y.fPos]] (.cons (bV.litL [kE x.fEl y.fEl, kE x.fPos y.fPos] rfl rfl) .nil) (nI _ [kE x.fEl y.fEl, kE x.fPos y.fPos])) ?_
 refine hK1 _ ?_; clear hK1
 refine aL ?_
 refine b6 4 ?_
 exact cP.is (by simp (disch := omega) only [go_sem, seval] <;> (rfl)) rfl rfl
theorem bSn (O : aU) (s : Nat) (l : List aM) (hs : O s = nG l) (hb : l.length ≤ 100000) : iH Tryz.prog O 64 [.own s l.length, .fn 135 [] []] fun O' x => O' = set O s (nG (mW l)) ∧ x = .tup [] :=
 pX (enc := fun x => [.int .i64 x.fEl, .int .i64 x.fPos]) (cf := stC) (fun _ => rfl) (fun _ => rfl) (by decide) (fun x v hv => by simp at hv; rcases hv with rfl | rfl <;> rfl) hs (j8 l)
  (fun _ b c w => AnyF.slices_SortFunc_none Tryz.sort64 b c _ w)
  (fun w blk c hH hblk hc => by
   have := AnyQ.slices_SortFunc_total Tryz.sort64 2 Tryz.isAgg68 Tryz.sizeOf68 (fun x : aM => [.int .i64 x.fEl, .int .i64 x.fPos]) (fun _ => rfl) (fun x v hv => by simp at hv; rcases hv with rfl | rfl <;> rfl) stC bHq 135 #[] blk 0 c l.toArray w
    (enters_of Tryz.func135 (by kernel_rfl) rfl) (by simpa using hc) hH hblk (by simp; omega) (fun x y h k => by rw [sS] at h k; exact uL h k)
   rw [sS] at this
   change Calls Tryz.prog 64 _ _ _ at this
   simpa [mW] using this)
  (fun x y => sZ _ x y)
set_option maxHeartbeats 4000000 in
theorem yY (O : aU) (q : List aM) (s : aM) (hb : q.length ≤ 1000) : aW Tryz.prog O 152 [cX q, .agg (aY s)] (nG (aBt q s)) := by
 refine aO 0 rfl (.sl _ _ _) fun hql => ?_
 refine dT Tryz.func152 ?_
 refine aB [0, 1] ?_
 refine aB [0, 3] ?_
 refine aB [0, 3, 5] ?_
 refine aA fun K3 hK3 => ?_
 refine aK ?_
 refine d9 5 68 2 aY rfl rfl ?_
 refine aX [0, 3, 5, 6] (fun n ρ => ∃ i, n = q.length - i ∧ (i ≤ q.length) ∧ (gU (fun x => pT x s) q i) ∧ ρ = cU O [(0, cX q), (3, .bx (aY s)), (5, nG (q.take i)), (6, vi (i : Nat))]) _ ⟨0, rfl, ?_, ?_, ?_⟩ ?_
 ·exact bD
 ·exact fH _ _
 ·exact cD
 rintro n ρ ⟨i, rfl, l0_0, l0_1, rfl⟩ K4 hK4
 refine aA fun K5 hK5 => ?_
 refine aA fun K6 hK6 => ?_
 refine e5 [0, 3, 5, 6] [] ?_
 refine hK6 _ ?_; clear hK6
 refine aS (fun c0 => ?_) fun c0 => ?_
 ·have hcc : i < q.length ∧ ((q.getD i default).fEl < s.fEl ∨ (q.getD i default).fEl = s.fEl ∧ (q.getD i default).fPos < s.fPos) := (by simpa using c0)
  have hil := hcc.1
  refine aJ ?_
  refine hK5 _ ?_; clear hK5
  refine aK ?_
  refine aB [0, 3, 5, 6] ?_
  refine bC [0, 3, 5, 6] ?_
  refine hK4 _ _ ?_ ⟨i + 1, rfl, ?_, ?_, ?_⟩
  ·exact bD
  ·exact bD
  ·exact fI l0_1 (gO.2 hcc.2)
  simp (disch := omega) only [go_sem, seval] <;> (rw [fP default hil, List.map_append]; rfl)
 have hcc : ¬ (i < q.length ∧ ((q.getD i default).fEl < s.fEl ∨ (q.getD i default).fEl = s.fEl ∧ (q.getD i default).fPos < s.fPos)) := (by have c9 : q.length ≤ i ∨ s.fEl ≤ (q.getD i default).fEl ∧ (¬(q.getD i default).fEl = s.fEl ∨ s.fPos ≤ (q.getD i default).fPos) := (by simpa using c0); rintro ⟨h1, h2⟩; omega)
 have hk : kS q s = i := bFx l0_1 l0_0 (by rcases Nat.lt_or_ge i q.length with h | h; right; rw [← Bool.not_eq_true, gO]; exact fun h2 => hcc ⟨h, h2⟩; left; omega)
 refine bA ?_
 refine hK3 _ ?_; clear hK3
 refine aA fun K8 hK8 => ?_
 refine aA fun K9 hK9 => ?_
 refine e5 [0, 3, 5, 6] [] ?_
 refine hK9 _ ?_; clear hK9
 refine aS (fun c1 => ?_) fun c1 => ?_
 ·have hc1 : i = q.length ∨ sB q i ≠ s := (by have c9 : i = q.length ∨ ¬(q.getD i default).fEl = s.fEl ∨ ¬(q.getD i default).fPos = s.fPos := (by simpa using c1); rcases c9 with h | h | h; exact .inl h; exact .inr (fun e => h (by rw [← e])); exact .inr (fun e => h (by rw [← e])))
  have hins : q.take i ++ [s] ++ q.drop i = aBt q s := (by unfold aBt; rw [hk, if_pos hc1])
  refine bC [0, 3, 5, 6] ?_
  refine hK8 _ ?_; clear hK8
  refine aA fun K10 hK10 => ?_
  refine a7 [0, 5, 6] (by kernel_rfl) ?_
  simp (disch := omega) only [go_sem, seval]
  repeat refine And.intro (by first | exact rfl | exact trivial | exact Nat.le_refl _ | (simp only [List.length_take, List.length_map, List.length_append, List.length_singleton, List.length_range, List.length_nil]; omega) | exact bS) ?_
  refine hK10 _ ?_; clear hK10
  refine aA fun K11 hK11 => ?_
  rw [aGf (l := q.drop i) (e := aY) (by simp) (fun j hj => by rw [aDc]; rfl), ← List.map_append, hins]
  refine bC [5] ?_
  refine hK11 _ ?_; clear hK11
  refine aL ?_
  refine b6 4 ?_
  exact cP.ownL rfl (by omega) rfl rfl (by rfl)
 have hc1 : ¬ (i = q.length ∨ sB q i ≠ s) := (by have c9 : ¬ i = q.length ∧ (q.getD i default).fEl = s.fEl ∧ (q.getD i default).fPos = s.fPos := (by simpa using c1); rintro (h | h); exact c9.1 h; exact h ((fE _ _).2 c9.2))
 have hins : q.take i ++ q.drop i = aBt q s := (by unfold aBt; rw [hk, if_neg hc1, List.append_nil])
 refine aJ ?_
 refine hK8 _ ?_; clear hK8
 refine aA fun K12 hK12 => ?_
 refine a7 [0, 5, 6] (by kernel_rfl) ?_
 simp (disch := omega) only [go_sem, seval]
 repeat refine And.intro (by first | exact rfl | exact trivial | exact Nat.le_refl _ | (simp only [List.length_take, List.length_map, List.length_append, List.length_singleton, List.length_range, List.length_nil]; omega) | exact bS) ?_
 refine hK12 _ ?_; clear hK12
 refine aA fun K13 hK13 => ?_
 rw [aGf (l := q.drop i) (e := aY) (by simp) (fun j hj => by rw [aDc]; rfl), ← List.map_append, hins]
 refine bC [5] ?_
 refine hK13 _ ?_; clear hK13
 refine aL ?_
 refine b6 4 ?_
 exact cP.ownL rfl (by omega) rfl rfl (by rfl)
def aEy (l : aC) (s : bB) : List aM := if (iG l s).2 = true ∧ (d7 l s.fEl.toNat).fKind = 2 then [⟨s.fEl, (iG l s).1⟩] else []
def oZ (l : aC) (q : List bB) : List aM := q.flatMap (aEy l)
def oD (l : aC) (q : List bB) : List aM := eY (oZ l q)
theorem aDx (l : aC) {q : List bB} {i : Nat} (h : i < q.length) : oZ l (q.take (i + 1)) = oZ l (q.take i) ++ aEy l (q.getD i default) := by
 rw [fP default h]; unfold oZ; rw [List.flatMap_append]; simp
theorem aRj (l : aC) (s : bB) : (aEy l s).length ≤ 1 := by unfold aEy; split <;> simp
theorem oK (l : aC) (q : List bB) : (oZ l q).length ≤ q.length := by
 unfold oZ
 induction q with
 | nil => simp
 | cons a q ih => rw [List.flatMap_cons, List.length_append, List.length_cons]; have := aRj l a; omega
theorem aLh {l : aC} {s : bB} (h : (iG l s).2 = true) : 0 ≤ s.fEl ∧ s.fEl < (l.fElements.length : Int) := by
 cases he : pS l s.fEl with
 | true => exact gX.1 he
 | false => rw [vE he] at h; cases h
theorem aIo {l : aC} {s : bB} (h : (iG l s).2 = true) : (iG l s).1 ≠ 0 ↔ (d7 l s.fEl.toNat).fKind = 2 := by
 have he := gX.2 (aLh h)
 rw [o0 he] at h ⊢
 generalize (d7 l s.fEl.toNat).fKind = k at *
 unfold cF at h ⊢
 split
 ·simp; omega
 rename_i hk
 rw [if_neg hk] at h
 split
 ·rename_i h2; simp [h2.1]
 rename_i hk2
 rw [if_neg hk2] at h
 split
 ·rename_i h2; simp [h2.1]
 rename_i hk3
 rw [if_neg hk3] at h; cases h
theorem bEh (l : aC) (q : List bB) : ((oZ l q).map (·.fEl)).Sublist (q.map (·.fEl)) := by
 unfold oZ
 induction q with
 | nil => exact .slnil
 | cons a q ih =>
  rw [List.flatMap_cons, List.map_append, List.map_cons]
  unfold aEy
  split
  ·exact ih.cons_cons _
  exact ih.cons _
theorem aYq {a : List aM} (h : (a.map (·.fEl)).Nodup) : aGq (mW a) := fun i h0 hi e => by
 have hp : ((mW a).map (·.fEl)).Nodup := ((List.mergeSort_perm a _).map _).nodup_iff.2 h
 have := List.pairwise_iff_getElem.1 hp (i - 1) i (by rw [List.length_map]; omega) (by rw [List.length_map]; exact hi) (by omega)
 rw [List.getElem_map, List.getElem_map] at this
 rw [List.getD_eq_getElem?_getD, List.getD_eq_getElem?_getD, List.getElem?_eq_getElem hi, List.getElem?_eq_getElem (show i - 1 < (mW a).length by omega)] at e
 simp only [Option.getD_some] at e
 exact this (by rw [e])
theorem aVd {s : List aM} (h : aGq s) : ∀ n, n ≤ s.length → ddS s n = s.take n
 | 0, _ => by simp [ddS]
 | n + 1, hn => by
  have hc : n = 0 ∨ sB s n ≠ sB s (n - 1) := by
   rcases Nat.eq_zero_or_pos n with h0 | h0
   ·exact .inl h0
   exact .inr (h n h0 (by omega))
  unfold ddS
  rw [if_pos hc, aVd h n (by omega), fP default (show n < s.length by omega)]
theorem aTw {a : List aM} (h : aGq (mW a)) : mW a = eY a := by
 unfold eY; rw [aVd h _ (Nat.le_refl _), List.take_length]
theorem yC (a : List aM) : (eY a).length ≤ a.length := by
 unfold eY
 have := aDv (mW a) (mW a).length
 rw [j8] at this ⊢
 exact this
theorem aIf (l : aC) : eY (oZ l []) = [] := by
 have := yC (oZ l [])
 exact List.eq_nil_of_length_eq_zero (Nat.le_zero.1 (by simpa [oZ] using this))
set_option maxHeartbeats 4000000 in
theorem xO (O : aU) (l : aC) (q : List bB) (hl : dX l) (hq : q.length ≤ 100) (hnd : (q.map (·.fEl)).Nodup) : aW Tryz.prog O 86 [.agg (aI l), bN q] (nG (oD l q)) := by
 have hl1 := hl.sec
 have hl2 := hl.el
 have hl3 := hl.jo
 have hl4 := hl.sg
 have hl5 := hl.bl
 have hN : aGq (mW (oZ l q)) := aYq (hnd.sublist (bEh l q))
 have hml := j8 (oZ l q)
 have hrl3 := oK l q
 refine aO 0 rfl (.agg (d := f5 l.fElements) (by simp [aI]) (.sl _ _ _)) fun he => ?_
 refine aO 1 rfl (.sl _ _ _) fun hql => ?_
 refine dT Tryz.func86 ?_
 refine aB [0, 1] ?_
 refine aB [1, 2] ?_
 refine aA fun K2 hK2 => ?_
 refine aB [1, 2, 5] ?_
 refine aK ?_
 refine d9 5 68 2 aY rfl rfl ?_
 refine aX [2, 5, 10, 11, 12] (fun n ρ => ∃ i, n = q.length - i ∧ (i ≤ q.length) ∧ ρ = cU O [(2, .bx (aI l)), (5, nG (oZ l (q.take i))), (10, bN q), (11, vi (q.length : Nat)), (12, vi (i : Nat))]) _ ⟨0, rfl, ?_, ?_⟩ ?_
 ·exact bD
 ·exact cD
 rintro n ρ ⟨i, rfl, l0_0, rfl⟩ K4 hK4
 have hrl := oK l (q.take i)
 have hrl2 := List.length_take_le i q
 have hrl3 := oK l q
 refine aB [1, 2, 5, 10, 11, 12] ?_
 refine aA fun K6 hK6 => ?_
 refine aS (fun c0 => ?_) fun c0 => ?_
 ·refine aJ ?_
  refine hK6 _ ?_; clear hK6
  refine aA fun K7 hK7 => ?_
  refine aK ?_
  refine aB [1, 2, 5, 10, 11, 12] ?_
  refine aA fun K9 hK9 => ?_
  refine bF [1, 2, 5, 7, 10, 11, 12] ?_
  refine dM (vU _ l (q.getD i default) hl) ?_
  refine hK9 _ ?_; clear hK9
  refine aA fun K10 hK10 => ?_
  refine a7 [1, 2, 5, 7, 8, 9, 10, 11, 12] (by kernel_rfl) ?_
  simp (disch := omega) only [go_sem, seval]
  repeat refine And.intro (by first | (intro h; exact ⟨h, aLh h⟩) | exact bS) ?_
  refine hK10 _ ?_; clear hK10
  refine aS (fun c1 => ?_) fun c1 => ?_
  ·have hcc : (iG l (q.getD i default)).2 = true ∧ (d7 l (q.getD i default).fEl.toNat).fKind = 2 := (by simpa using c1)
   refine bC [1, 2, 5, 7, 8, 10, 11, 12] ?_
   refine hK7 _ ?_; clear hK7
   refine bC [1, 2, 5, 10, 11, 12] ?_
   refine hK4 _ _ ?_ ⟨i + 1, rfl, ?_, ?_⟩
   ·exact bD
   ·exact bD
   simp (disch := omega) only [go_sem, seval] <;> (rw [aDx l c0, aEy, if_pos hcc, List.map_append]; rfl)
  have hcc : ¬ ((iG l (q.getD i default)).2 = true ∧ (d7 l (q.getD i default).fEl.toNat).fKind = 2) := (by have c9 : (iG l (q.getD i default)).2 = false ∨ ¬ (d7 l (q.getD i default).fEl.toNat).fKind = 2 := (by simpa using c1); rintro ⟨h1, h2⟩; rcases c9 with h | h; rw [h1] at h; cases h; exact h h2)
  refine aJ ?_
  refine hK7 _ ?_; clear hK7
  refine bC [1, 2, 5, 10, 11, 12] ?_
  refine hK4 _ _ ?_ ⟨i + 1, rfl, ?_, ?_⟩
  ·exact bD
  ·exact bD
  simp (disch := omega) only [go_sem, seval] <;> (rw [aDx l c0, aEy, if_neg hcc, List.append_nil]; rfl)
 refine bA ?_
 refine hK2 _ ?_; clear hK2
 refine aA fun K11 hK11 => ?_
 rw [List.take_of_length_le c0]
 refine bF [5] ?_
 refine ⟨_, bSn _ 5 (oZ l q) rfl (by omega), ?_⟩; rintro O1 r1 ⟨rfl, rfl⟩
 refine lZ ?_
 refine hK11 _ ?_; clear hK11
 refine aA fun K12 hK12 => ?_
 refine bF [5] ?_
 refine dM (iV _ (mW (oZ l q)) 5 (by rfl) (by omega) hN) ?_
 refine hK12 _ ?_; clear hK12
 refine aL ?_
 refine b6 4 ?_
 exact cP.ownL rfl (by omega) rfl rfl (by exact aTw hN)
set_option maxHeartbeats 4000000 in
theorem j7 (O : aU) (l : aC) (q : List bB) (hl : dX l) (hq : q.length ≤ 100) : aW Tryz.prog O 96 [.agg (aI l), bN q] (cX (oD l q)) := by
 have hl1 := hl.sec
 have hl2 := hl.el
 have hl3 := hl.jo
 have hl4 := hl.sg
 have hl5 := hl.bl
 refine aO 0 rfl (.agg (d := f5 l.fElements) (by simp [aI]) (.sl _ _ _)) fun he => ?_
 refine aO 1 rfl (.sl _ _ _) fun hql => ?_
 refine dT Tryz.func96 ?_
 refine aB [0, 1] ?_
 refine aB [1, 2] ?_
 refine aA fun K2 hK2 => ?_
 refine aB [1, 2, 5] ?_
 refine aK ?_
 refine lX 5 2 aY rfl rfl ?_
 refine aX [1, 2, 5, 6] (fun n ρ => ∃ i, n = q.length - i ∧ (i ≤ q.length) ∧ ρ = cU O [(1, bN q), (2, .bx (aI l)), (5, cX (eY (oZ l (q.take i)))), (6, vi (i : Nat))]) _ ⟨0, rfl, ?_, ?_⟩ ?_
 ·exact bD
 ·simp (disch := omega) only [go_sem, seval] <;> (rw [aIf l]; rfl)
 rintro n ρ ⟨i, rfl, l0_0, rfl⟩ K4 hK4
 have hrl := oK l (q.take i)
 have hrl2 := List.length_take_le i q
 have hrl3 := oK l q
 have hsl := yC (oZ l (q.take i))
 refine aA fun K5 hK5 => ?_
 refine aB [1, 2, 5, 6] ?_
 refine aS (fun c0 => ?_) fun c0 => ?_
 ·refine aJ ?_
  refine hK5 _ ?_; clear hK5
  refine aA fun K7 hK7 => ?_
  refine aK ?_
  refine aA fun K8 hK8 => ?_
  refine e5 [1, 2, 5, 6] [] ?_
  refine cdz (sG _ l (q.getD i default) hl) ?_
  refine hK8 _ ?_; clear hK8
  refine aB [1, 2, 5, 6, 7, 8] ?_
  refine aS (fun c1 => ?_) fun c1 => ?_
  ·have hcc : (iG l (q.getD i default)).2 = true ∧ ¬ (iG l (q.getD i default)).1 = 0 := (by simpa using c1)
   have hcd := And.intro hcc.1 ((aIo hcc.1).1 hcc.2)
   refine bF [1, 2, 5, 6, 7] ?_
   refine dM (dJ (yY _ (eY (oZ l (q.take i))) ⟨(q.getD i default).fEl, (iG l (q.getD i default)).1⟩ (by omega))) ?_
   refine hK7 _ ?_; clear hK7
   refine bC [1, 2, 5, 6] ?_
   refine hK4 _ _ ?_ ⟨i + 1, rfl, ?_, ?_⟩
   ·exact bD
   ·exact bD
   simp (disch := omega) only [go_sem, seval] <;> (rw [aDx l c0, aEy, if_pos hcd, ← bDl]; rfl)
  have hcc : ¬ ((iG l (q.getD i default)).2 = true ∧ (d7 l (q.getD i default).fEl.toNat).fKind = 2) := (by have c9 : (iG l (q.getD i default)).2 = false ∨ (iG l (q.getD i default)).1 = 0 := (by simpa using c1); rintro ⟨h1, h2⟩; have h3 := (aIo h1).2 h2; rcases c9 with h | h; rw [h1] at h; cases h; exact h3 h)
  refine aJ ?_
  refine hK7 _ ?_; clear hK7
  refine bC [1, 2, 5, 6] ?_
  refine hK4 _ _ ?_ ⟨i + 1, rfl, ?_, ?_⟩
  ·exact bD
  ·exact bD
  simp (disch := omega) only [go_sem, seval] <;> (rw [aDx l c0, aEy, if_neg hcc, List.append_nil]; rfl)
 refine bA ?_
 refine hK2 _ ?_; clear hK2
 refine aB [5] ?_
 refine aL ?_
 refine b6 4 ?_
 exact cP.encL rfl (by (rw [List.take_of_length_le c0]; rfl))
theorem nR (O : aU) (l : aC) (q : List bB) (hl : dX l) (hq : q.length ≤ 100) (hnd : (q.map (·.fEl)).Nodup) : aW Tryz.prog O 86 [.agg (aI l), bN q] (cX (oD l q)) := dJ (xO O l q hl hq hnd)
end Go.Sg
