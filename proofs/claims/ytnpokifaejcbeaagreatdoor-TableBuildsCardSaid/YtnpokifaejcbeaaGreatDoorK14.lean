/- Several texts as one. -/
import Derived.Test.YtnpokifaejcbeaaGreatDoorK13
set_option linter.unusedSectionVars false
set_option linter.unusedVariables false
set_option linter.unusedSimpArgs false
set_option maxRecDepth 20000
namespace Go.Sg
open Go.Proofs
def kP (q : List aM) (s : aM) : Nat := (q.takeWhile fun x => decide (x.fEl ≤ s.fEl)).length
def sO (q : List aM) (s : aM) : List aM := if fY q s = true then q else q.take (kP q s) ++ [s] ++ q.drop (kP q s)
theorem aSk {p : aM → Bool} : ∀ {l : List aM} {x : aM}, x ∈ l.takeWhile p → p x = true
 | [], _, h => by simp at h
 | a :: l, x, h => by
  rw [List.takeWhile_cons] at h
  cases ha : p a with
  | false => rw [ha] at h; simp at h
  | true =>
   rw [ha, if_pos rfl] at h
   rcases List.mem_cons.1 h with rfl | h
   ·exact ha
   exact aSk h
theorem bGs {q : List aM} {s : aM} {i : Nat} (h : i < kP q s) : (q.getD i default).fEl ≤ s.fEl := by
 unfold kP at h
 have hm : ∀ x ∈ q.takeWhile (fun x => decide (x.fEl ≤ s.fEl)), x.fEl ≤ s.fEl := fun x hx => by
  exact of_decide_eq_true (aSk hx)
 have hp := List.takeWhile_prefix (fun x : aM => decide (x.fEl ≤ s.fEl)) (l := q)
 have : q.getD i default = (q.takeWhile fun x => decide (x.fEl ≤ s.fEl))[i] := by
  rw [List.getD_eq_getElem?_getD, List.getElem?_eq_getElem (Nat.lt_of_lt_of_le h hp.length_le), Option.getD_some]
  exact (hp.getElem h).symm
 rw [this]; exact hm _ (List.getElem_mem h)
theorem aVh {q : List aM} {s : aM} (h : kP q s < q.length) : s.fEl < (q.getD (kP q s) default).fEl := by
 unfold kP at *
 induction q with
 | nil => simp at h
 | cons a q ih =>
  rw [List.takeWhile_cons] at *
  by_cases ha : a.fEl ≤ s.fEl
  ·rw [decide_eq_true ha] at *
   simp only [if_pos, List.length_cons] at *
   have := ih (by omega)
   simpa using this
  rw [decide_eq_false ha] at *
  simp at *; omega
def sT (q : List aM) (s : aM) (i : Nat) : List aM := if kP q s < i then q.take (kP q s) ++ [s] ++ (q.take i).drop (kP q s) else q.take i
theorem aYc (q : List aM) (s : aM) (i : Nat) (hi : i ≤ q.length) : (sT q s i).length ≤ i + 1 := by
 unfold sT; split
 ·simp only [List.length_append, List.length_take, List.length_drop, List.length_singleton]; omega
 rw [List.length_take]; omega
theorem aYa {q : List aM} {s : aM} {i : Nat} (hi : i < q.length) (h : ¬ kP q s < i) (h2 : s.fEl < (q.getD i default).fEl) : sT q s (i + 1) = sT q s i ++ [s] ++ [q.getD i default] ∧ kP q s = i := by
 have hk : kP q s = i := by
  rcases Nat.lt_or_ge i (kP q s) with h3 | h3
  ·have := bGs h3; omega
  omega
 refine ⟨?_, hk⟩
 unfold sT
 rw [hk, if_pos (by omega), if_neg (by omega), fP default hi, List.drop_append_of_le_length (by rw [List.length_take]; omega), List.drop_of_length_le (by rw [List.length_take]; omega)]
 simp
theorem aXd {q : List aM} {s : aM} {i : Nat} (hi : i < q.length) (h : ¬ (¬ kP q s < i ∧ s.fEl < (q.getD i default).fEl)) : sT q s (i + 1) = sT q s i ++ [q.getD i default] := by
 unfold sT
 by_cases h1 : kP q s < i
 ·rw [if_pos (by omega), if_pos h1, fP default hi, List.drop_append_of_le_length (by rw [List.length_take]; omega)]; simp
 have h2 : ¬ kP q s < i + 1 := fun h3 => h ⟨h1, by
  have hk : kP q s = i := by omega
  have := aVh (q := q) (s := s) (by omega)
  rw [hk] at this; exact this⟩
 rw [if_neg h2, if_neg h1, fP default hi]
theorem bDx {q : List aM} {s : aM} (hn : fY q s = false) (h : kP q s < q.length) : sO q s = sT q s q.length := by
 unfold sO sT; rw [if_neg (by rw [hn]; simp), if_pos h, List.take_length]
theorem bEj {q : List aM} {s : aM} (hn : fY q s = false) (h : ¬ kP q s < q.length) : sO q s = sT q s q.length ++ [s] := by
 unfold sO sT; rw [if_neg (by rw [hn]; simp), if_neg h, List.drop_of_length_le (by omega), List.take_of_length_le (show q.length ≤ kP q s by omega), List.take_length]; simp
theorem bLf (q : List aM) (s : aM) : sT q s 0 = [] := by unfold sT; rw [if_neg (by omega)]; simp
section
attribute [local go_sem] List.drop_zero i6 iW iY f7 lT lP lN lM lK lQ jH jO jQ gS mV mC l2 mO mJ mD mT mM mH mU jG jJ jK jL
set_option maxHeartbeats 4000000 in
theorem aEb (O : aU) (q : List aM) (s : aM) (hb : q.length ≤ 1000) : aW Tryz.prog O 92 [cX q, .agg (aY s)] (cX (sO q s)) := by
 refine aO 0 rfl (.sl _ _ _) fun hql => ?_
 refine dT Tryz.func92 ?_
 refine aB [0, 1] ?_
 refine aA fun K1 hK1 => ?_
 refine aA fun K2 hK2 => ?_
 refine bF [0, 3] ?_
 refine dM (lW _ q s) ?_
 refine hK2 _ ?_; clear hK2
 refine aS (fun c0 => ?_) fun c0 => ?_
 ·refine aB [0] ?_
  refine aL ?_
  refine b6 4 ?_
  exact cP.encL rfl (by (unfold sO; rw [if_pos (by simpa using c0)]))
 have hn : fY q s = false := (by simpa using c0)
 refine aJ ?_
 refine hK1 _ ?_; clear hK1
 refine aB [0, 3] ?_
 refine aB [0, 3, 5] ?_
 refine aA fun K6 hK6 => ?_
 refine aB [0, 3, 5, 6] ?_
 refine aK ?_
 refine d9 5 68 2 aY rfl rfl ?_
 refine aX [0, 3, 5, 6, 7] (fun n ρ => ∃ i, n = q.length - i ∧ (i ≤ q.length) ∧ ρ = cU O [(0, cX q), (3, .bx (aY s)), (5, nG (sT q s i)), (6, vb (decide (kP q s < i))), (7, vi (i : Nat))]) _ ⟨0, rfl, ?_, ?_⟩ ?_
 ·exact bD
 ·simp (config := {maxSteps := 2000000}) (disch := omega) only [go_sem, seval] <;> (rw [bLf]; first | rfl | simp)
 rintro n ρ ⟨i, rfl, l0_0, rfl⟩ K8 hK8
 have hpl := aYc q s i l0_0
 refine aA fun K9 hK9 => ?_
 refine aB [0, 3, 5, 6, 7] ?_
 refine aS (fun c1 => ?_) fun c1 => ?_
 ·refine aJ ?_
  refine hK9 _ ?_; clear hK9
  refine aA fun K11 hK11 => ?_
  refine aK ?_
  refine aA fun K12 hK12 => ?_
  refine aA fun K13 hK13 => ?_
  refine e5 [0, 3, 5, 6, 7] [] ?_
  refine hK13 _ ?_; clear hK13
  refine aS (fun c2 => ?_) fun c2 => ?_
  ·have hcc : ¬ kP q s < i ∧ s.fEl < (q.getD i default).fEl := (by simpa using c2)
   obtain ⟨hnow, hki⟩ := aYa c1 hcc.1 hcc.2
   refine aB [0, 3, 5, 7] ?_
   refine bC [0, 3, 5, 7] ?_
   refine hK12 _ ?_; clear hK12
   refine bC [0, 3, 5, 6, 7] ?_
   refine hK11 _ ?_; clear hK11
   refine bC [0, 3, 5, 6, 7] ?_
   refine hK8 _ _ ?_ ⟨i + 1, rfl, ?_, ?_⟩
   ·exact bD
   ·exact bD
   simp (config := {maxSteps := 2000000}) (disch := omega) only [go_sem, seval] <;> (rw [hnow, decide_eq_true (show kP q s < i + 1 by omega), List.map_append, List.map_append]; first | rfl | simp)
  have hcc : ¬ (¬ kP q s < i ∧ s.fEl < (q.getD i default).fEl) := (by rintro ⟨h1, h2⟩; first | omega | (rcases c2 with c2 | c2 <;> omega) | (simp at c2; omega))
  have hdn : kP q s < i + 1 ↔ kP q s < i := (by
   constructor
   ·intro h3
    refine Classical.byContradiction fun h4 => hcc ⟨h4, ?_⟩
    have hk : kP q s = i := by omega
    have := aVh (q := q) (s := s) (by omega)
    rw [hk] at this; exact this
   omega)
  refine aJ ?_
  refine hK12 _ ?_; clear hK12
  refine bC [0, 3, 5, 6, 7] ?_
  refine hK11 _ ?_; clear hK11
  refine bC [0, 3, 5, 6, 7] ?_
  refine hK8 _ _ ?_ ⟨i + 1, rfl, ?_, ?_⟩
  ·exact bD
  ·exact bD
  simp (config := {maxSteps := 2000000}) (disch := omega) only [go_sem, seval] <;> (rw [aXd c1 hcc, decide_eq_decide.2 hdn, List.map_append]; first | rfl | simp)
 refine bA ?_
 refine hK6 _ ?_; clear hK6
 refine aA fun K15 hK15 => ?_
 refine aB [3, 5, 6] ?_
 refine aS (fun c3 => ?_) fun c3 => ?_
 ·obtain rfl : i = q.length := (by omega)
  have hkk : ¬ kP q s < q.length := (by simpa using c3)
  refine bC [3, 5] ?_
  refine hK15 _ ?_; clear hK15
  refine aA fun K17 hK17 => ?_
  refine dG 5 _ rfl rfl ?_
  refine bC [5] ?_
  refine hK17 _ ?_; clear hK17
  refine aL ?_
  refine b6 4 ?_
  exact cP.encL rfl (by (rw [bEj hn hkk]))
 obtain rfl : i = q.length := (by omega)
 have hkk : kP q s < q.length := (by simpa using c3)
 refine aJ ?_
 refine hK15 _ ?_; clear hK15
 refine aA fun K18 hK18 => ?_
 refine dG 5 _ rfl rfl ?_
 refine bC [5] ?_
 refine hK18 _ ?_; clear hK18
 refine aL ?_
 refine b6 4 ?_
 exact cP.encL rfl (by (rw [bDx hn hkk]))
end
def mk (l : List Int) : List Int := Lib.compact (srt l)
theorem mkI (l : List Int) : (Lib.compact (srt l)).length ≤ l.length := by
 have := Lib.compact_length_le (srt l); simpa using this
abbrev SS (l : List Int) : Prop := l.Pairwise (· < ·)
theorem aLn : ∀ {a b : List Int}, SS a → SS b → (∀ x, x ∈ a ↔ x ∈ b) → a = b
 | [], [], _, _, _ => rfl
 | [], y :: b, _, _, h => by have := (h y).2 (by simp); simp at this
 | x :: a, [], _, _, h => by have := (h x).1 (by simp); simp at this
 | x :: a, y :: b, ha, hb, h => by
  rw [SS, List.pairwise_cons] at ha hb
  have hxy : x = y := by
   have h1 := (h x).1 (by simp)
   have h2 := (h y).2 (by simp)
   rcases List.mem_cons.1 h1 with e | e
   ·exact e
   rcases List.mem_cons.1 h2 with e2 | e2
   ·exact e2.symm
   have := ha.1 y e2; have := hb.1 x e; omega
  subst hxy
  rw [aLn ha.2 hb.2 fun z => by
   constructor
   ·intro hz
    have := (h z).1 (by simp [hz])
    rcases List.mem_cons.1 this with e | e
    ·subst e; exact absurd (ha.1 z hz) (Int.lt_irrefl _)
    exact e
   intro hz
   have := (h z).2 (by simp [hz])
   rcases List.mem_cons.1 this with e | e
   ·subst e; exact absurd (hb.1 z hz) (Int.lt_irrefl _)
   exact e]
theorem zO (x : Int) : ∀ (s : List Int) (y : Int), y ∈ tJ x s ↔ y = x ∨ y ∈ s
 | [], y => by simp [tJ]
 | z :: s, y => by
  unfold tJ; split
  ·simp
  simp [zO x s y, or_left_comm]
theorem aOg (x : Int) : ∀ (s : List Int), SS s → x ∉ s → SS (tJ x s)
 | [], _, _ => by simp [tJ, SS]
 | z :: s, h, hn => by
  rw [SS, List.pairwise_cons] at h
  unfold tJ; split
  ·rename_i hlt
   refine List.pairwise_cons.2 ⟨fun y hy => ?_, List.pairwise_cons.2 h⟩
   rcases List.mem_cons.1 hy with e | e
   ·rw [e]; exact hlt
   exact Int.lt_trans hlt (h.1 y e)
  rename_i hlt
  refine List.pairwise_cons.2 ⟨fun y hy => ?_, aOg x s h.2 fun hx => hn (by simp [hx])⟩
  rcases (zO x s y).1 hy with e | e
  ·have : z ≠ x := fun e2 => hn (by simp [e2])
   omega
  exact h.1 y e
theorem aWv (s : List Int) (x y : Int) : y ∈ kF s x ↔ y = x ∨ y ∈ s := by
 unfold kF; split
 ·rename_i h
  have h : x ∈ s := by simpa using h
  constructor
  ·exact .inr
  rintro (e | e)
  ·rw [e]; exact h
  exact e
 exact zO x s y
theorem bDh (s : List Int) (x : Int) (h : SS s) : SS (kF s x) := by
 unfold kF; split
 ·exact h
 rename_i hn; exact aOg x s h (by simpa using hn)
theorem aHb : ∀ (l s : List Int) (y : Int), y ∈ l.foldl kF s ↔ y ∈ s ∨ y ∈ l
 | [], s, y => by simp
 | x :: l, s, y => by rw [List.foldl_cons, aHb l _ y, aWv, List.mem_cons, or_comm (a := y = x), or_assoc]
theorem aMu : ∀ (l s : List Int), SS s → SS (l.foldl kF s)
 | [], _, h => h
 | x :: l, s, h => aMu l _ (bDh s x h)
theorem aNs (l : List Int) (y : Int) : y ∈ xL l ↔ y ∈ l := by unfold xL; rw [aHb]; simp
theorem aMe (l : List Int) : SS (xL l) := aMu l [] .nil
theorem aLg (l : List Int) : (srt l).Pairwise (· ≤ ·) := by
 have := List.pairwise_mergeSort (le := fun x y : Int => decide (x ≤ y)) (fun a b c h1 h2 => by simp at *; omega) (fun a b => by simp; omega) l
 exact this.imp fun h => by simpa using h
theorem bDw (l : List Int) (y : Int) : y ∈ srt l ↔ y ∈ l := by unfold srt; simp
theorem nL (s : List Int) (j : Nat) (hj : j < s.length) : Lib.keeps s.toArray j = (j == 0 || s.getD j 0 != s.getD (j - 1) 0) := by
 unfold Lib.keeps
 have h1 : s.toArray[j]! = s.getD j 0 := by simp [List.getD_eq_getElem?_getD, List.getElem?_eq_getElem hj, getElem!_pos, hj]
 have h2 : s.toArray[j - 1]! = s.getD (j - 1) 0 := by
  have : j - 1 < s.length := by omega
  simp [List.getD_eq_getElem?_getD, List.getElem?_eq_getElem this, getElem!_pos, this]
 rw [h1, h2]
 rcases Nat.eq_zero_or_pos j with e | e
 ·simp [e]
 have h0 : (j == 0) = false := by simp; omega
 rw [h0, Bool.false_or]
 by_cases h : s.getD j 0 = s.getD (j - 1) 0 <;> simp [h, show j ≠ 0 by omega, bne] <;> simp_all
theorem zL {s : List Int} (h : s.Pairwise (· ≤ ·)) {i j : Nat} (hij : i ≤ j) (hj : j < s.length) : s.getD i 0 ≤ s.getD j 0 := by
 rcases Nat.lt_or_eq_of_le hij with h1 | h1
 ·rw [List.pairwise_iff_getElem] at h
  have := h i j (by omega) hj h1
  rwa [List.getD_eq_getElem?_getD, List.getElem?_eq_getElem (show i < s.length by omega), List.getD_eq_getElem?_getD, List.getElem?_eq_getElem hj]
 subst h1; exact Int.le_refl _
theorem aAx (s : List Int) : Lib.compact s = ((List.range s.length).filter (Lib.keeps s.toArray)).map fun j => s.getD j 0 := by
 unfold Lib.compact Lib.compactUpTo
 apply List.map_congr_left
 intro j hj
 have hj : j < s.length := by simpa using (List.mem_filter.1 hj).1
 simp [List.getD_eq_getElem?_getD, List.getElem?_eq_getElem hj, getElem!_pos, hj]
theorem aMb (s : List Int) (hs : s.Pairwise (· ≤ ·)) : SS (Lib.compact s) := by
 rw [aAx, SS, List.pairwise_map, List.pairwise_filter]
 refine (List.pairwise_lt_range (n := s.length)).imp_of_mem ?_
 intro i j hi hj hlt ki kj
 have hj : j < s.length := by simpa using hj
 rw [nL s j hj] at kj
 have h1 := zL hs (show i ≤ j - 1 by omega) (show j - 1 < s.length by omega)
 have h2 := zL hs (show j - 1 ≤ j by omega) hj
 simp [show j ≠ 0 by omega] at kj
 simp only [List.getD_eq_getElem?_getD] at *
 omega
theorem aJl (s : List Int) (y : Int) : y ∈ Lib.compact s ↔ y ∈ s := by
 rw [aAx]
 constructor
 ·intro h
  obtain ⟨j, hj, rfl⟩ := List.mem_map.1 h
  have hj : j < s.length := by simpa using (List.mem_filter.1 hj).1
  rw [List.getD_eq_getElem?_getD, List.getElem?_eq_getElem hj]
  exact List.getElem_mem hj
 intro h
 have key : ∀ j, j < s.length → s.getD j 0 = y → ∃ i, i < s.length ∧ s.getD i 0 = y ∧ Lib.keeps s.toArray i = true := by
  intro j
  induction j with
  | zero => intro hj e; exact ⟨0, hj, e, by rw [nL s 0 hj]; rfl⟩
  | succ j ih =>
   intro hj e
   cases hk : Lib.keeps s.toArray (j + 1) with
   | true => exact ⟨j + 1, hj, e, hk⟩
   | false =>
    rw [nL s (j + 1) hj] at hk
    have : s.getD (j + 1) 0 = s.getD j 0 := by
     simp only [Bool.or_eq_false_iff, bne_eq_false_iff_eq, Nat.add_sub_cancel] at hk
     exact hk.2
    exact ih (by omega) (this ▸ e)
 obtain ⟨j, hj, e⟩ := List.getElem_of_mem h
 obtain ⟨i, hi, e2, hk⟩ := key j hj (by rw [List.getD_eq_getElem?_getD, List.getElem?_eq_getElem hj]; exact e)
 exact List.mem_map.2 ⟨i, List.mem_filter.2 ⟨by simpa using hi, hk⟩, e2⟩
theorem bVc (l : List Int) : SS (mk l) := aMb _ (aLg l)
theorem bMj (l : List Int) (y : Int) : y ∈ mk l ↔ y ∈ l := by unfold mk; rw [aJl, bDw]
theorem aYx (s : List Int) (h : SS s) : xL s = s := aLn (aMe s) h fun x => aNs s x
theorem bBy (G : List Int) (g : Int) : [g].foldl kF (xL (xL G)) = xL (G ++ [g]) := by
 rw [aYx _ (aMe G)]
 unfold xL; rw [List.foldl_append]
theorem aNr (j : gG) (L : List gG) : d4 (j :: L) = j.fA :: j.fB :: d4 L := rfl
theorem mA : ∀ {L : List gG} {e f : cC}, d8 L e = (f, true) → e ∈ d4 L ∧ f ∈ d4 L
 | [], e, f, h => by unfold d8 at h; cases h
 | j :: L, e, f, h => by
  rw [aNr]
  unfold d8 at h
  split at h
  ·rename_i hA; injection h with h1; subst hA; subst h1; simp
  split at h
  ·rename_i hB; injection h with h1; subst hB; subst h1; simp
  have := mA h; simp [this.1, this.2]
theorem vV : ∀ {L : List gG} {e e' f : cC}, (d4 L).Nodup → d8 L e = (f, true) → d8 L e' = (f, true) → e = e'
 | [], e, e', f, _, h, _ => by unfold d8 at h; cases h
 | j :: L, e, e', f, hn, h, h' => by
  rw [aNr, List.nodup_cons, List.nodup_cons] at hn
  obtain ⟨n1, n2, n3⟩ := hn
  have nA : j.fA ∉ d4 L := fun hm => n1 (by simp [hm])
  have nAB : j.fA ≠ j.fB := fun hm => n1 (by simp [hm])
  have hc : ∀ x, d8 (j :: L) x = (f, true) → (j.fA = x ∧ j.fB = f) ∨ (j.fB = x ∧ j.fA = f) ∨ d8 L x = (f, true) := fun x hx => by
   unfold d8 at hx
   split at hx
   ·rename_i hA; injection hx with h1; exact .inl ⟨hA, h1⟩
   split at hx
   ·rename_i hB; injection hx with h1; exact .inr (.inl ⟨hB, h1⟩)
   exact .inr (.inr hx)
  rcases hc e h with ⟨a1, a2⟩ | ⟨a1, a2⟩ | a <;> rcases hc e' h' with ⟨b1, b2⟩ | ⟨b1, b2⟩ | b
  ·exact a1.symm.trans b1
  ·exact absurd (b2.trans a2.symm) nAB
  ·exact absurd (a2 ▸ (mA b).2) n2
  ·exact absurd (a2.trans b2.symm) nAB
  ·exact a1.symm.trans b1
  ·exact absurd (a2 ▸ (mA b).2) nA
  ·exact absurd (b2 ▸ (mA a).2) n2
  ·exact absurd (b2 ▸ (mA a).2) nA
  exact vV n3 a b
abbrev joE (l : aC) (e : cC) : cC := (aD l e).1
abbrev knE (l : aC) (e : cC) : Int := (d7 l e.fEl.toNat).fKind
def inR (r : bE) (x : Int) : Bool := eG r.fPath x || eG r.fOver x
def dsG (l : aC) (r : bE) : Nat → cC → Option cC
 | 0, _ => none
 | n + 1, e => if (aD l e).2 = false then none else if 0 ≤ iP l (aD l e).1 then some (aD l e).1 else if (eG r.fPath (aD l e).1.fEl || eG r.fOver (aD l e).1.fEl) = true then none
  else if (aD l e).1.fEl < 0 ∨ (l.fElements.length : Int) ≤ (aD l e).1.fEl then none else if (d7 l (aD l e).1.fEl.toNat).fKind = 2 then some (aD l e).1
  else if (cZ (d7 l (aD l e).1.fEl.toNat).fKind (aD l e).1.fSide).length = 0 then none else dsG l r n ⟨(aD l e).1.fEl, (cZ (d7 l (aD l e).1.fEl.toNat).fKind (aD l e).1.fSide).getD 0 default⟩
def Nx (l : aC) (r : bE) (d x : cC) : Prop := (aD l d).2 = true ∧ inR r (joE l d).fEl = false ∧ knE l (joE l d) ≠ 2 ∧ x = ⟨(joE l d).fEl, (cZ (knE l (joE l d)) (joE l d).fSide).getD 0 default⟩
inductive Nxs (l : aC) (r : bE) : Nat → cC → cC → Prop
 | nil (e : cC) : Nxs l r 0 e e
 | snoc {k : Nat} {e d x : cC} (h : Nxs l r k e d) (n : Nx l r d x) : Nxs l r (k + 1) e x
theorem Nxs.cons {l : aC} {r : bE} {e d : cC} (n : Nx l r e d) : ∀ {k : Nat} {x : cC}, Nxs l r k d x → Nxs l r (k + 1) e x
 | _, _, .nil _ => .snoc (.nil _) n
 | _, _, .snoc h m => .snoc (Nxs.cons n h) m
theorem y9 {l : aC} {r : bE} : ∀ {n : Nat} {e f : cC}, dsG l r n e = some f → ∃ k d, Nxs l r k e d ∧ aD l d = (f, true)
 | 0, e, f, h => by cases h
 | n + 1, e, f, h => by
  unfold dsG at h
  split at h
  ·cases h
  rename_i h1
  have h1 : (aD l e).2 = true := by simpa using h1
  split at h
  ·injection h with h; exact ⟨0, e, .nil _, Prod.ext h h1⟩
  split at h
  ·cases h
  rename_i h3
  split at h
  ·cases h
  split at h
  ·injection h with h; exact ⟨0, e, .nil _, Prod.ext h h1⟩
  rename_i h5
  split at h
  ·cases h
  obtain ⟨k, d, hk, hd⟩ := y9 h
  exact ⟨k + 1, d, .cons ⟨h1, by unfold inR; simpa using h3, h5, rfl⟩ hk, hd⟩
theorem aXj {k i j : Int} (hk : k = 1 ∨ k = 3) (hi : 0 ≤ i ∧ i < fF k) (hj : 0 ≤ j ∧ j < fF k) (h : (cZ k i).getD 0 default = (cZ k j).getD 0 default) : i = j := by
 rcases hk with rfl | rfl
 ·have h2 : fF 1 = 2 := rfl
  have : i = 0 ∨ i = 1 := by omega
  have : j = 0 ∨ j = 1 := by omega
  rcases ‹i = 0 ∨ i = 1› with rfl | rfl <;> rcases ‹j = 0 ∨ j = 1› with rfl | rfl <;> first | rfl | exact absurd h (by decide)
 have h2 : fF 3 = 4 := rfl
 have hi' : i = 0 ∨ i = 1 ∨ i = 2 ∨ i = 3 := by omega
 have hj' : j = 0 ∨ j = 1 ∨ j = 2 ∨ j = 3 := by omega
 rcases hi' with rfl | rfl | rfl | rfl <;> rcases hj' with rfl | rfl | rfl | rfl <;> first | rfl | exact absurd h (by decide)
section
variable {l : aC} {r : bE} (hv : Vld l) (hJ : (d4 l.fJoints).Nodup)
include hv hJ
theorem bMg {d d' x : cC} (h : Nx l r d x) (h' : Nx l r d' x) : d = d' := by
 obtain ⟨a1, a2, a3, a4⟩ := h
 obtain ⟨b1, b2, b3, b4⟩ := h'
 rw [a4] at b4
 have b5 := (d6 _ _).1 b4
 have e1 : (joE l d).fEl = (joE l d').fEl := b5.1
 have e2 : (cZ (knE l (joE l d)) (joE l d).fSide).getD 0 default = (cZ (knE l (joE l d')) (joE l d').fSide).getD 0 default := b5.2
 have v1 := rG hv a1
 have v2 := rG hv b1
 have hk : knE l (joE l d) = knE l (joE l d') := by unfold knE; rw [e1]
 have e3 : (joE l d).fSide = (joE l d').fSide := by
  refine aXj (k := knE l (joE l d)) (by have := v1.2.2.2; have : knE l (joE l d) = (d7 l (aD l d).1.fEl.toNat).fKind := rfl; omega) ⟨v1.2.1, v1.2.2.1⟩ ?_ (by rw [e2, hk])
  rw [hk]; exact ⟨v2.2.1, v2.2.2.1⟩
 have e4 : joE l d = joE l d' := (d6 _ _).2 ⟨e1, e3⟩
 exact vV (f := joE l d) hJ (Prod.ext rfl a1) (Prod.ext e4.symm b1)
theorem aHy : ∀ {k k' : Nat} {e e' x : cC}, Nxs l r k e x → Nxs l r k' e' x → (∃ j, Nxs l r j e e') ∨ ∃ j, Nxs l r j e' e
 | _, k', e, e', _, .nil _, h' => .inr ⟨k', h'⟩
 | k + 1, _, e, e', _, .snoc h n, .nil _ => .inl ⟨k + 1, .snoc h n⟩
 | _, _, e, e', _, .snoc h n, .snoc h' n' => by
  have := bMg hv hJ n n'
  subst this
  exact aHy h h'
omit hv hJ in
theorem aVq {j : Nat} {e e' : cC} (h : Nxs l r j e e') (hin : inR r e'.fEl = true) : e = e' := by
 cases h with
 | nil => rfl
 | snoc h n =>
  obtain ⟨_, n2, _, n4⟩ := n
  rw [n4] at hin
  rw [n2] at hin; cases hin
theorem bMa {n : Nat} {e e' f : cC} (h : dsG l r n e = some f) (h' : dsG l r n e' = some f) (hi : inR r e.fEl = true) (hi' : inR r e'.fEl = true) : e = e' := by
 obtain ⟨k, d, c1, c2⟩ := y9 h
 obtain ⟨k', d', c1', c2'⟩ := y9 h'
 have := vV hJ c2 c2'
 subst this
 rcases aHy hv hJ c1 c1' with ⟨j, h⟩ | ⟨j, h⟩
 ·exact aVq h hi'
 exact (aVq h hi).symm
end
def wFG (r : bE) (F : List aM) (G : List Int) (P : List cC) : bE := ⟨r.fName, r.fEntry, r.fExit, r.fPath, r.fPoints, r.fSections, r.fApproach, r.fLength, r.fOver, r.fOverPoints, r.fOverSections, F, G, P⟩
theorem aGp {l : aC} {r r' : bE} (h1 : r.fPath = r'.fPath) (h2 : r.fOver = r'.fOver) (h3 : ∀ s, ndR r s = ndR r' s) : ∀ (n : Nat) (e : cC), pK l r n e = pK l r' n e
 | 0, _ => rfl
 | n + 1, e => by
  have ha : ∀ f, awS r f = awS r' f := fun f => by unfold awS; rw [h3]
  unfold pK
  rw [h1, h2, ha, aGp h1 h2 h3 n]
theorem aHl {r : bE} {f : cC} {s : aM} (h : awS r f = some s) : (f.fSide = 1 ∨ f.fSide = 2) ∧ s = ⟨f.fEl, 3 - f.fSide⟩ ∧ ndR r ⟨f.fEl, f.fSide⟩ = false := by
 unfold awS at h
 split at h
 ·cases h
 rename_i hc
 injection h with h
 have hn : (cF 2 f.fSide 0).2 = true ∧ ndR r ⟨f.fEl, (cF 2 f.fSide 0).1⟩ = false := by
  constructor
  ·cases hx : (cF 2 f.fSide 0).2 with
   | true => rfl
   | false => exact absurd (.inl hx) hc
  cases hx : ndR r ⟨f.fEl, (cF 2 f.fSide 0).1⟩ with
  | false => rfl
  | true => exact absurd (.inr hx) hc
 have h12 : (f.fSide = 1 ∧ cF 2 f.fSide 0 = (1, true)) ∨ (f.fSide = 2 ∧ cF 2 f.fSide 0 = (2, true)) := by
  have := hn.1
  rw [aSc] at this ⊢
  split at this
  ·rename_i hq; left; refine ⟨by omega, ?_⟩; rw [if_pos hq]
  split at this
  ·rename_i hp hq; right; refine ⟨by omega, ?_⟩; rw [if_neg hp, if_pos hq]
  cases this
 rcases h12 with ⟨q1, q2⟩ | ⟨q1, q2⟩
 ·rw [q2] at h hn; refine ⟨.inl q1, ?_, ?_⟩
  ·rw [← h, q1]
  rw [q1]; exact hn.2
 rw [q2] at h hn; refine ⟨.inr q1, ?_, ?_⟩
 ·rw [← h, q1]
 rw [q1]; exact hn.2
theorem aIp {l : aC} {r : bE} : ∀ {n : Nat} {e : cC} {s : aM} {g : Int}, pK l r n e = some (s, g) → (s = St0 ∧ -1 ≤ g) ∨ (g = -1 ∧ ∃ f, dsG l r n e = some f ∧ awS r f = some s)
 | 0, e, s, g, h => by cases h
 | n + 1, e, s, g, h => by
  unfold pK at h
  unfold dsG
  split at h
  ·injection h with h; injection h with h1 h2; exact .inl ⟨h1.symm, by omega⟩
  rename_i h1
  rw [if_neg h1]
  split at h
  ·injection h with h; injection h with h1 h2; exact .inl ⟨h1.symm, by omega⟩
  rename_i h2
  rw [if_neg h2]
  split at h
  ·injection h with h; injection h with h1 h2; exact .inl ⟨h1.symm, by omega⟩
  rename_i h3
  rw [if_neg h3]
  split at h
  ·cases h
  rename_i h4
  rw [if_neg h4]
  split at h
  ·rename_i h5
   rw [if_pos h5]
   rw [Option.map_eq_some_iff] at h
   obtain ⟨s', hs, he⟩ := h
   injection he with e1 e2
   subst e1
   exact .inr ⟨e2.symm, _, rfl, hs⟩
  rename_i h5
  rw [if_neg h5]
  split at h
  ·cases h
  rename_i h6
  rw [if_neg h6]
  exact aIp h
theorem aHc {l : aC} {r r' : bE} (h1 : r.fPath = r'.fPath) (h2 : r.fOver = r'.fOver) : ∀ (n : Nat) (e : cC), dsG l r n e = dsG l r' n e
 | 0, _ => rfl
 | n + 1, e => by
  unfold dsG
  rw [h1, h2, aHc h1 h2 n]
abbrev FS := List aM × List Int × List cC
def jT (l : aC) (r : bE) (st : FS) (e : cC) : aM × Int × Bool := prT (pK l (wFG r st.1 st.2.1 st.2.2) 4 e)
def flA (l : aC) (r : bE) (st : FS) (e : cC) : FS :=
 if (jT l r st e).2.2 = false then (st.1, st.2.1, st.2.2 ++ [e]) else if 0 ≤ (jT l r st e).2.1 then (st.1, st.2.1 ++ [(jT l r st e).2.1], st.2.2) else if (jT l r st e).1 ≠ St0 then (st.1 ++ [(jT l r st e).1], st.2.1, st.2.2) else st
def x1 (l : aC) (r : bE) (E : List cC) : FS := E.foldl (flA l r) ([], [], [])
def rfA (l : aC) (r : bE) (st : FS) (e : cC) : FS :=
 (if (jT l r st e).1.fPos ≠ 0 then sO st.1 (jT l r st e).1 else st.1, if 0 ≤ (jT l r st e).2.1 then [(jT l r st e).2.1].foldl kF (xL st.2.1) else st.2.1, if (jT l r st e).2.2 = false then st.2.2 ++ [e] else st.2.2)
def rfF (l : aC) (r : bE) (E : List cC) : FS := E.foldl (rfA l r) ([], [], [])
theorem aTx (l : aC) (r : bE) (E : List cC) (e : cC) : x1 l r (E ++ [e]) = flA l r (x1 l r E) e := by unfold x1; rw [List.foldl_append]; rfl
theorem aRt (l : aC) (r : bE) (E : List cC) (e : cC) : rfF l r (E ++ [e]) = rfA l r (rfF l r E) e := by unfold rfF; rw [List.foldl_append]; rfl
theorem bCt (l : aC) (r : bE) (st : FS) (e : cC) : (flA l r st e).1.length ≤ st.1.length + 1 ∧ (flA l r st e).2.1.length ≤ st.2.1.length + 1 ∧ (flA l r st e).2.2.length ≤ st.2.2.length + 1 := by
 unfold flA
 split
 ·simp
 split
 ·simp
 split <;> simp
theorem aOc (l : aC) (r : bE) (E : List cC) : (x1 l r E).1.length ≤ E.length ∧ (x1 l r E).2.1.length ≤ E.length ∧ (x1 l r E).2.2.length ≤ E.length := by
 have key : ∀ n (E : List cC), E.length = n → (x1 l r E).1.length ≤ E.length ∧ (x1 l r E).2.1.length ≤ E.length ∧ (x1 l r E).2.2.length ≤ E.length := by
  intro n
  induction n with
  | zero => intro E h; rw [List.length_eq_zero_iff.1 h]; simp [x1]
  | succ n ih =>
   intro E h
   obtain ⟨Q, e, rfl⟩ : ∃ Q p, E = Q ++ [p] := ⟨E.dropLast, E.getLast (by intro e; rw [e] at h; cases h), (List.dropLast_concat_getLast _).symm⟩
   have h1 := ih Q (by simpa using h)
   have h2 := bCt l r (x1 l r Q) e
   rw [aTx, List.length_append, List.length_singleton]
   omega
 exact key _ E rfl
theorem bBu {F : List aM} {s : aM} (h : ((F ++ [s]).map (·.fEl)).Nodup) : sO (eY F) s = eY (F ++ [s]) := by
 rw [List.map_append, List.nodup_append] at h
 have hne : ∀ y ∈ eY F, y.fEl ≠ s.fEl := fun y hy e => h.2.2 y.fEl (List.mem_map.2 ⟨y, (l1 F y).1 hy, rfl⟩) s.fEl (by simp) e
 have hno : fY (eY F) s = false := by
  rw [← Bool.not_eq_true, nQ]; intro hm; exact hne s hm rfl
 have ha := qE F
 refine oY ?_ (qE _) fun x => ?_
 ·unfold sO
  rw [if_neg (by rw [hno]; simp)]
  have hp : Asc ((eY F).take (kP (eY F) s) ++ (eY F).drop (kP (eY F) s)) := by rw [List.take_append_drop]; exact ha
  unfold Asc at hp ⊢
  rw [List.pairwise_append] at hp
  have hlo : ∀ y ∈ (eY F).take (kP (eY F) s), pT y s = true := fun y hy => by
   obtain ⟨i, hi, rfl⟩ := List.mem_iff_getElem.1 hy
   rw [List.length_take] at hi
   have h1 := bGs (q := eY F) (s := s) (i := i) (by omega)
   rw [List.getElem_take]
   rw [List.getD_eq_getElem?_getD, List.getElem?_eq_getElem (show i < (eY F).length by omega), Option.getD_some] at h1
   have h2 := hne _ (List.getElem_mem (show i < (eY F).length by omega))
   rw [gO]; omega
  have hhi : ∀ y ∈ (eY F).drop (kP (eY F) s), pT s y = true := fun y hy => by
   rcases Nat.lt_or_ge (kP (eY F) s) (eY F).length with hlt | hge
   ·have h1 := aVh hlt
    have h3 := hp.2.1
    rw [bT default hlt] at hy h3
    have h0 : pT s ((eY F).getD (kP (eY F) s) default) = true := by rw [gO]; exact .inl h1
    rcases List.mem_cons.1 hy with rfl | hy
    ·exact h0
    exact aGk h0 ((List.pairwise_cons.1 h3).1 y hy)
   rw [List.drop_of_length_le hge] at hy; cases hy
  rw [List.append_assoc, List.pairwise_append]
  refine ⟨hp.1, ?_, fun a ha' b hb => ?_⟩
  ·rw [List.singleton_append, List.pairwise_cons]; exact ⟨hhi, hp.2.1⟩
  rcases List.mem_append.1 hb with hb | hb
  ·rw [List.mem_singleton.1 hb]; exact hlo a ha'
  exact hp.2.2 a ha' b hb
 unfold sO
 have hr : x ∈ F ++ [s] ↔ x ∈ eY F ∨ x = s := by rw [List.mem_append, List.mem_singleton, l1]
 rw [if_neg (by rw [hno]; simp), l1, hr]
 have hm : x ∈ eY F ↔ x ∈ (eY F).take (kP (eY F) s) ∨ x ∈ (eY F).drop (kP (eY F) s) := by rw [← List.mem_append, List.take_append_drop]
 rw [hm, List.mem_append, List.mem_append, List.mem_singleton]
 constructor
 ·rintro ((h | h) | h)
  ·exact .inl (.inl h)
  ·exact .inr h
  exact .inl (.inr h)
 rintro ((h | h) | h)
 ·exact .inl (.inl h)
 ·exact .inr h
 exact .inl (.inr h)
def FlI (l : aC) (r : bE) (E : List cC) (F : List aM) : Prop := (F.map (·.fEl)).Nodup ∧ ∀ s ∈ F, ∃ e ∈ E, ∃ f, dsG l r 4 e = some f ∧ (f.fSide = 1 ∨ f.fSide = 2) ∧ s = ⟨f.fEl, 3 - f.fSide⟩
theorem FlI.more {l : aC} {r : bE} {E : List cC} {F : List aM} (h : FlI l r E F) (e : cC) : FlI l r (E ++ [e]) F := ⟨h.1, fun s hs => by
 obtain ⟨x, hx, y⟩ := h.2 s hs; exact ⟨x, by simp [hx], y⟩⟩
theorem bEm {l : aC} {r : bE} (hv : Vld l) (hJ : (d4 l.fJoints).Nodup) {E : List cC} {e f : cC} {F : List aM} {G : List Int} {P : List cC} {s : aM} (h : FlI l r E F) (hE : ∀ x ∈ E ++ [e], inR r x.fEl = true) (hn : e ∉ E) (hd : dsG l r 4 e = some f) (ha : awS (wFG r F G P) f = some s) : FlI l r (E ++ [e]) (F ++ [s]) := by
 obtain ⟨a1, a2, a3⟩ := aHl ha
 have hnd : ⟨f.fEl, f.fSide⟩ ∉ F := fun hm => by
  have : fY F ⟨f.fEl, f.fSide⟩ = true := nQ.2 hm
  have h2 : ndR (wFG r F G P) ⟨f.fEl, f.fSide⟩ = (fY r.fPoints ⟨f.fEl, f.fSide⟩ || fY r.fOverPoints ⟨f.fEl, f.fSide⟩ || fY F ⟨f.fEl, f.fSide⟩) := rfl
  rw [a3, this] at h2; simp at h2
 refine ⟨?_, fun x hx => ?_⟩
 ·rw [List.map_append, List.nodup_append]
  refine ⟨h.1, by simp, fun x hx y hy he => ?_⟩
  simp only [List.map_cons, List.map_nil, List.mem_singleton] at hy
  obtain ⟨s', hs', rfl⟩ := List.mem_map.1 hx
  obtain ⟨e', he', f', hd', hs1, hs2⟩ := h.2 s' hs'
  rw [hy, a2] at he
  simp only at he
  have hel : f'.fEl = f.fEl := by rw [hs2] at he; exact he
  by_cases hsd : f'.fSide = f.fSide
  ·have : f' = f := (d6 _ _).2 ⟨hel, hsd⟩
   subst this
   have := bMa hv hJ hd' hd (hE e' (by simp [he'])) (hE e (by simp))
   subst this
   exact hn he'
  refine hnd ?_
  have : s' = ⟨f.fEl, f.fSide⟩ := by
   rw [hs2, fE]; exact ⟨hel, by simp only; omega⟩
  rw [← this]; exact hs'
 rcases List.mem_append.1 hx with hx | hx
 ·obtain ⟨y, hy, q⟩ := h.2 x hx; exact ⟨y, by simp [hy], q⟩
 rw [List.mem_singleton.1 hx]; exact ⟨e, by simp, f, hd, a1, a2⟩
theorem bPg (l : aC) (r : bE) (F : List aM) (G G' : List Int) (P : List cC) (e : cC) : jT l r (eY F, G', P) e = jT l r (F, G, P) e := by
 show prT (pK l (wFG r (eY F) G' P) 4 e) = prT (pK l (wFG r F G P) 4 e)
 refine congrArg prT (aGp (r := wFG r (eY F) G' P) (r' := wFG r F G P) rfl rfl (fun s => ?_) 4 e)
 have : fY (eY F) s = fY F s := by rw [Bool.eq_iff_iff, nQ, nQ, l1]
 show (fY r.fPoints s || fY r.fOverPoints s || fY (eY F) s) = (fY r.fPoints s || fY r.fOverPoints s || fY F s)
 rw [this]
theorem aYt : eY [] = [] := by
 have := yC []; exact List.eq_nil_of_length_eq_zero (by simpa using this)
theorem aQm {l : aC} {r : bE} (hv : Vld l) (hJ : (d4 l.fJoints).Nodup) : ∀ (n : Nat) (E : List cC), E.length = n → E.Nodup → (∀ x ∈ E, inR r x.fEl = true) → FlI l r E (x1 l r E).1 ∧ rfF l r E = (eY (x1 l r E).1, xL (x1 l r E).2.1, (x1 l r E).2.2) := by
 intro n
 induction n with
 | zero =>
  intro E h _ _
  rw [List.length_eq_zero_iff.1 h]
  exact ⟨⟨List.Pairwise.nil, fun s hs => by cases hs⟩, by show ([], [], []) = (eY [], xL [], []); rw [aYt]; rfl⟩
 | succ n ih =>
  intro E h hnd hin
  obtain ⟨Q, e, rfl⟩ : ∃ Q p, E = Q ++ [p] := ⟨E.dropLast, E.getLast (by intro e; rw [e] at h; cases h), (List.dropLast_concat_getLast _).symm⟩
  rw [List.nodup_append] at hnd
  obtain ⟨h1, h2⟩ := ih Q (by simpa using h) hnd.1 (fun x hx => hin x (by simp [hx]))
  have hn : e ∉ Q := fun hm => hnd.2.2 e hm e (by simp) rfl
  rw [aTx, aRt, h2]
  generalize hst : x1 l r Q = st at h1 h2 ⊢
  obtain ⟨F, G, P⟩ := st
  simp only at h1
  have hw : jT l r (eY F, xL G, P) e = jT l r (F, G, P) e := bPg l r F G (xL G) P e
  unfold flA rfA
  rw [hw]
  cases hp : pK l (wFG r F G P) 4 e with
  | none =>
   have hs : jT l r (F, G, P) e = (St0, -1, false) := by unfold jT; rw [hp]; rfl
   rw [hs]
   exact ⟨h1.more e, rfl⟩
  | some q =>
   obtain ⟨s, g⟩ := q
   have hs : jT l r (F, G, P) e = (s, g, true) := by unfold jT; rw [hp]; rfl
   rw [hs]
   simp only [Bool.true_eq_false, if_false]
   rcases aIp hp with ⟨p1, p2⟩ | ⟨p1, f, p3, p4⟩
   ·subst p1
    rw [if_neg (show ¬ (St0.fPos ≠ 0) from fun h => h rfl)]
    by_cases hg : 0 ≤ g
    ·rw [if_pos hg, if_pos hg]
     exact ⟨h1.more e, by rw [bBy]⟩
    rw [if_neg hg, if_neg hg, if_neg (fun h => h rfl)]
    exact ⟨h1.more e, rfl⟩
   subst p1
   have p5 : dsG l r 4 e = some f := by rw [← p3]; exact aHc rfl rfl 4 e
   have hnew := bEm hv hJ h1 hin hn p5 p4
   obtain ⟨a1, a2, a3⟩ := aHl p4
   have hpos : s.fPos ≠ 0 := by rw [a2]; simp only; omega
   rw [if_pos hpos, if_neg (show ¬ (0 : Int) ≤ -1 by omega), if_neg (show ¬ (0 : Int) ≤ -1 by omega), if_pos (show s ≠ St0 from fun h => hpos (by rw [h]))]
   exact ⟨hnew, by rw [bBu hnew.1]⟩
theorem bMb (s : bB) (n : Nat) : (bsN s n).Nodup := by
 unfold bsN List.Nodup
 rw [List.pairwise_map]
 refine (List.nodup_range.filter _).imp fun h e => h ?_
 have := ((d6 _ _).1 e).2
 simp only at this
 omega
theorem bNm (l : aC) (s : bB) : (gF l s).Nodup := by
 unfold gF; split
 ·exact bMb _ _
 exact List.nodup_nil
theorem aLs {l : aC} {s : bB} {e : cC} (h : e ∈ gF l s) : e.fEl = s.fEl := by
 unfold gF at h; split at h
 ·unfold bsN at h; obtain ⟨i, _, rfl⟩ := List.mem_map.1 h; rfl
 cases h
theorem aNn {l : aC} : ∀ {q : List bB}, (q.map (·.fEl)).Nodup → (cJ l q).Nodup
 | [], _ => List.nodup_nil
 | a :: q, h => by
  rw [List.map_cons, List.nodup_cons] at h
  unfold cJ
  rw [List.flatMap_cons, List.nodup_append]
  refine ⟨bNm l a, aNn h.2, fun x hx y hy e => ?_⟩
  obtain ⟨s, hs, hy⟩ := List.mem_flatMap.1 hy
  subst e
  have e1 := aLs hx
  have e2 := aLs hy
  exact h.1 (List.mem_map.2 ⟨s, hs, by rw [← e2, e1]⟩)
theorem bBv {l : aC} {r : bE} {e : cC} (h : e ∈ cJ l (r.fPath ++ r.fOver)) : inR r e.fEl = true := by
 obtain ⟨s, hs, he⟩ := List.mem_flatMap.1 h
 unfold inR
 rw [aLs he, Bool.or_eq_true, vH, vH]
 rcases List.mem_append.1 hs with h | h
 ·exact .inl ⟨s, h, rfl⟩
 exact .inr ⟨s, h, rfl⟩
def oM (l : aC) (r : bE) : bE := wFG r (eY (x1 l r (cJ l (r.fPath ++ r.fOver))).1) (xL (x1 l r (cJ l (r.fPath ++ r.fOver))).2.1) (x1 l r (cJ l (r.fPath ++ r.fOver))).2.2
theorem aMg {l : aC} {r : bE} (hv : Vld l) (hJ : (d4 l.fJoints).Nodup) (hr : ((r.fPath ++ r.fOver).map (·.fEl)).Nodup) :
  ((x1 l r (cJ l (r.fPath ++ r.fOver))).1.map (·.fEl)).Nodup ∧ wFG r (rfF l r (cJ l (r.fPath ++ r.fOver))).1 (rfF l r (cJ l (r.fPath ++ r.fOver))).2.1 (rfF l r (cJ l (r.fPath ++ r.fOver))).2.2 = oM l r := by
 obtain ⟨h1, h2⟩ := aQm hv hJ _ _ rfl (aNn hr) (fun x hx => bBv hx)
 exact ⟨h1.1, by rw [h2]; rfl⟩
def qG (l : aC) (sc : List Int) (q : List bB) (e : Int) : Bool := eG q e || sc.contains (bY l e)
theorem aHh {l : aC} {e x : Int} {sc : List Int} : (x :: sc).contains (bY l e) = (decide (x = bY l e) || sc.contains (bY l e)) := by
 rw [List.contains_cons]; congr 1; rw [Bool.eq_iff_iff, beq_iff_eq, decide_eq_true_eq]; exact eq_comm
section
attribute [local go_sem] List.drop_zero i6 iW iY f7 lT lP lN lM lK lQ jH jO jQ gS mV mC l2 mO mJ mD mT mM mH mU jG jJ jK jL lJ List.length_map Nat.mul_one Nat.add_zero
theorem xT (O : aU) (l : aC) (q : List bB) (s : Nat) (hO : O s = .row 85 3 (q.map bJ)) (hl : dX l) (hes : kT l = true) (hq : q.length ≤ 100) : aW Tryz.prog O 129 [.agg (aI l), .own s q.length] (vi (fL l q)) := by
 have hl1 := hl.sec
 have hl2 := hl.el
 have hl3 := hl.jo
 have hl4 := hl.sg
 have hl5 := hl.bl
 have hxO : bW O (s + 100000) = .row 85 3 (q.map bJ) := by rw [bX, hO]; rfl
 refine aO 0 rfl (.agg (d := f5 l.fElements) (by simp [aI]) (.sl _ _ _)) fun he => ?_
 refine dT Tryz.func129 ?_
 refine aA fun K0 hK0 => ?_
 refine a7 [0, 1] (by kernel_rfl) ?_
 simp (disch := omega) only [go_sem, seval, hxO]
 repeat refine And.intro bS ?_
 refine hK0 _ ?_; clear hK0
 refine aA fun K1 hK1 => ?_
 refine a7 [1, 2] (by kernel_rfl) ?_
 simp (disch := omega) only [go_sem, seval, hxO]
 repeat refine And.intro bS ?_
 refine hK1 _ ?_; clear hK1
 refine aA fun K2 hK2 => ?_
 refine aA fun K3 hK3 => ?_
 refine a7 [1, 2, 5] (by kernel_rfl) ?_
 simp (disch := omega) only [go_sem, seval, hxO]
 repeat refine And.intro bS ?_
 refine hK3 _ ?_; clear hK3
 refine aK ?_
 refine aX [2, 5, 8, 9, 10] (fun n ρ => ∃ i, n = q.length - i ∧ (i ≤ q.length) ∧ ρ = cU O [(2, .bx (aI l)), (5, vi (fL l (q.take i))), (8, .own (s + 100000) q.length), (9, vi (q.length : Nat)), (10, vi (i : Nat))]) _ ⟨0, rfl, ?_, ?_⟩ ?_
 ·exact bD
 ·simp (disch := omega) only [go_sem, seval, hxO] <;> rfl
 rintro n ρ ⟨i, rfl, l0_0, rfl⟩ K4 hK4
 have hlb := aEt hes q i
 have heb := aEd hes (q.getD i default)
 refine aA fun K5 hK5 => ?_
 refine a7 [1, 2, 5, 8, 9, 10] (by kernel_rfl) ?_
 simp (disch := omega) only [go_sem, seval, hxO]
 repeat refine And.intro bS ?_
 refine hK5 _ ?_; clear hK5
 refine aA fun K6 hK6 => ?_
 refine aS (fun c0 => ?_) fun c0 => ?_
 ·refine aJ ?_
  refine hK6 _ ?_; clear hK6
  refine aA fun K7 hK7 => ?_
  refine aK ?_
  refine aA fun K8 hK8 => ?_
  refine a7 [1, 2, 5, 8, 9, 10] (by kernel_rfl) ?_
  simp (disch := omega) only [go_sem, seval, hxO]
  repeat refine And.intro bS ?_
  refine hK8 _ ?_; clear hK8
  refine aA fun K9 hK9 => ?_
  refine a7 [1, 2, 5, 7, 8, 9, 10] (by kernel_rfl) ?_
  simp (disch := omega) only [go_sem, seval, hxO]
  repeat refine And.intro bS ?_
  refine gE _ (iM _ l (q.getD i default).fEl) ?_
  try simp (disch := omega) only [go_sem, seval, hxO]
  repeat refine And.intro bS ?_
  refine hK9 _ ?_; clear hK9
  refine aS (fun c1 => ?_) fun c1 => ?_
  ·have hex := gX.1 c1
   have heq : tI l (q.getD i default) = (l.fElements.getD (q.getD i default).fEl.toNat default).fLength := by unfold tI; rw [if_pos c1]
   rw [heq] at heb
   refine a7 [1, 2, 5, 7, 8, 9, 10] (by kernel_rfl) ?_
   simp (disch := omega) only [go_sem, seval, hxO]
   repeat refine And.intro bS ?_
   refine hK7 _ ?_; clear hK7
   refine a7 [1, 2, 5, 8, 9, 10] (by kernel_rfl) ?_
   simp (disch := omega) only [go_sem, seval, hxO]
   repeat refine And.intro bS ?_
   refine hK4 _ _ ?_ ⟨i + 1, rfl, ?_, ?_⟩
   ·exact bD
   ·exact bD
   simp (disch := omega) only [go_sem, seval, hxO] <;> (rw [s8 l (by assumption), heq]; rfl)
  refine aJ ?_
  refine hK7 _ ?_; clear hK7
  refine a7 [1, 2, 5, 8, 9, 10] (by kernel_rfl) ?_
  simp (disch := omega) only [go_sem, seval, hxO]
  repeat refine And.intro bS ?_
  refine hK4 _ _ ?_ ⟨i + 1, rfl, ?_, ?_⟩
  ·exact bD
  ·exact bD
  simp (disch := omega) only [go_sem, seval, hxO] <;> (rw [s8 l (by assumption)]; unfold tI; rw [if_neg (by simpa using c1)]; simp)
 refine bA ?_
 refine hK2 _ ?_; clear hK2
 refine aA fun K10 hK10 => ?_
 refine a7 [5] (by kernel_rfl) ?_
 simp (disch := omega) only [go_sem, seval, hxO]
 repeat refine And.intro bS ?_
 refine hK10 _ ?_; clear hK10
 refine aL ?_
 refine dC 4 rfl (by simp (disch := omega) only [go_sem, seval, hxO]) ?_
 exact cP.is (by simp (disch := omega) only [go_sem, seval, hxO] <;> ((rw [List.take_of_length_le (by omega)]))) rfl rfl
end
section
attribute [local go_sem] List.drop_zero i6 iW iY f7 lT lP lN lM lK lQ jH jO jQ gS mV mC l2 mO mJ mD mT mM mH mU jG jJ jK jL lJ List.length_map Nat.mul_one Nat.add_zero
end
section
attribute [local go_sem] List.drop_zero i6 iW iY f7 lT lP lN lM lK lQ jH jO jQ gS mV mC l2 mO mJ mD mT mM mH mU jG jJ jK jL lJ List.length_map Nat.mul_one Nat.add_zero
theorem mX (O : aU) (q : List bB) (g b : Nat) (cs : List DV) (p : bB → Bool) (s : Nat) (hO : O s = .row 85 3 (q.map bJ)) (hq : q.length ≤ 1000) (hB : O b = .bx cs) (hcs : iA (· + 100000) cs = cs) (hg : aQ Tryz.prog g = true) (hk : ∀ (ρ : aU) (k : Nat) (x : bB), ρ k = .bx cs → aW Tryz.prog ρ g [.agg (bJ x), .bp k 0] (vb (p x))) : aW Tryz.prog O 215 [.own s q.length, .fn g [] [.bp b 0]] (vi (if q.any p then (q.findIdx p : Nat) else -1)) := by
 have hxO : bW O (s + 100000) = .row 85 3 (q.map bJ) := by rw [bX, hO]; rfl
 refine dT Tryz.func215 ?_
 refine aA fun K0 hK0 => ?_
 refine a7 [0, 1] (by kernel_rfl) ?_
 simp (disch := omega) only [go_sem, seval, hg, hxO]
 repeat refine And.intro bS ?_
 refine hK0 _ ?_; clear hK0
 refine aA fun K1 hK1 => ?_
 refine aA fun K2 hK2 => ?_
 refine a7 [0, 1] (by kernel_rfl) ?_
 simp (disch := omega) only [go_sem, seval, hg, hxO]
 repeat refine And.intro bS ?_
 refine hK2 _ ?_; clear hK2
 refine aK ?_
 refine aX [0, 1, 7, 8] (fun n ρ => ∃ i, n = q.length - i ∧ (i ≤ q.length) ∧ ((if q.any p then (q.findIdx p : Int) else -1) = (if (q.drop i).any p then (((q.drop i).findIdx p + i : Nat) : Int) else -1)) ∧ ρ = cU O [(0, .own (s + 100000) q.length), (1, .fn g [] [.bp (b + 100000) 0]), (7, vi (q.length : Nat)), (8, vi (i : Nat))]) _ ⟨0, rfl, ?_, ?_, ?_⟩ ?_
 ·exact bD
 ·simp
 ·simp (disch := omega) only [go_sem, seval, hg, hxO] <;> first | rfl | omega | simp | simp_all
 rintro n ρ ⟨i, rfl, l0_0, l0_1, rfl⟩ K3 hK3
 refine aA fun K4 hK4 => ?_
 refine a7 [0, 1, 7, 8] (by kernel_rfl) ?_
 simp (disch := omega) only [go_sem, seval, hg, hxO]
 repeat refine And.intro bS ?_
 refine hK4 _ ?_; clear hK4
 refine aA fun K5 hK5 => ?_
 refine aS (fun c0 => ?_) fun c0 => ?_
 ·refine aJ ?_
  refine hK5 _ ?_; clear hK5
  refine aA fun K6 hK6 => ?_
  refine aK ?_
  refine aA fun K7 hK7 => ?_
  refine a7 [0, 1, 7, 8] (by kernel_rfl) ?_
  simp (disch := omega) only [go_sem, seval, hg, hxO]
  repeat refine And.intro bS ?_
  refine hK7 _ ?_; clear hK7
  refine aA fun K8 hK8 => ?_
  refine a7 [0, 1, 5, 7, 8] (by kernel_rfl) ?_
  simp (disch := omega) only [go_sem, seval, hg, hxO]
  repeat refine And.intro bS ?_
  refine gE _ (hk _ (b + 100000) (q.getD i default) ?_) ?_
  ·repeat rw [aT, if_neg (by omega)]
   rw [bX, hB]; exact congrArg DV.bx hcs
  try simp (disch := omega) only [go_sem, seval, hg, hxO]
  repeat refine And.intro bS ?_
  refine hK8 _ ?_; clear hK8
  refine aS (fun c1 => ?_) fun c1 => ?_
  ·refine aA fun K9 hK9 => ?_
   refine a7 [5] (by kernel_rfl) ?_
   simp (disch := omega) only [go_sem, seval, hg, hxO]
   repeat refine And.intro bS ?_
   refine hK9 _ ?_; clear hK9
   refine aL ?_
   refine dC 4 rfl (by simp (disch := omega) only [go_sem, seval, hg, hxO]) ?_
   exact cP.is (by simp (disch := omega) only [go_sem, seval, hg, hxO] <;> (refine congrArg vi ?_; rw [l0_1, bT default c0, List.any_cons, List.findIdx_cons, c1]; simp)) rfl rfl
  refine aJ ?_
  refine hK6 _ ?_; clear hK6
  refine a7 [0, 1, 7, 8] (by kernel_rfl) ?_
  simp (disch := omega) only [go_sem, seval, hg, hxO]
  repeat refine And.intro bS ?_
  refine hK3 _ _ ?_ ⟨i + 1, rfl, ?_, ?_, ?_⟩
  ·exact bD
  ·exact bD
  ·rw [l0_1, bT default c0, List.any_cons, List.findIdx_cons, c1]; simp only [Bool.false_or, cond_false]; rw [show List.findIdx p (List.drop (i + 1) q) + 1 + i = List.findIdx p (List.drop (i + 1) q) + (i + 1) by omega]
  simp (disch := omega) only [go_sem, seval, hg, hxO] <;> first | rfl | omega | simp | simp_all
 refine bA ?_
 refine hK1 _ ?_; clear hK1
 refine aA fun K10 hK10 => ?_
 refine a7 [] (by kernel_rfl) ?_
 simp (disch := omega) only [go_sem, seval, hg, hxO]
 repeat refine And.intro bS ?_
 refine hK10 _ ?_; clear hK10
 refine aL ?_
 refine dC 4 rfl (by simp (disch := omega) only [go_sem, seval, hg, hxO]) ?_
 exact cP.is (by simp (disch := omega) only [go_sem, seval, hg, hxO] <;> (refine congrArg vi ?_; rw [l0_1, eJ c0]; rfl)) rfl rfl
end
section
attribute [local go_sem] List.drop_zero i6 iW iY f7 lT lP lN lM lK lQ jH jO jQ gS mV mC l2 mO mJ mD mT mM mH mU jG jJ jK jL lJ List.length_map Nat.mul_one Nat.add_zero
theorem lH (O : aU) (q : List bB) (g b : Nat) (cs : List DV) (p : bB → Bool) (s : Nat) (hO : O s = .row 85 3 (q.map bJ)) (hq : q.length ≤ 1000) (hB : O b = .bx cs) (hcs : iA (· + 100000) cs = cs) (hg : aQ Tryz.prog g = true) (hk : ∀ (ρ : aU) (k : Nat) (x : bB), ρ k = .bx cs → aW Tryz.prog ρ g [.agg (bJ x), .bp k 0] (vb (p x))) : aW Tryz.prog O 188 [.own s q.length, .fn g [] [.bp b 0]] (vb (q.any p)) := by
 have hxO : bW O (s + 100000) = .row 85 3 (q.map bJ) := by rw [bX, hO]; rfl
 refine dT Tryz.func188 ?_
 refine aA fun K0 hK0 => ?_
 refine a7 [0, 1] (by kernel_rfl) ?_
 simp (disch := omega) only [go_sem, seval, hg, hxO]
 repeat refine And.intro bS ?_
 refine hK0 _ ?_; clear hK0
 refine aA fun K1 hK1 => ?_
 refine a7 [0, 1] (by kernel_rfl) ?_
 simp (disch := omega) only [go_sem, seval, hg, hxO]
 repeat refine And.intro bS ?_
 refine gE _ (mX _ q g (b + 100000) cs p (s + 100000) ?_ hq ?_ hcs hg hk) ?_
 ·repeat rw [aT, if_neg (by omega)]
  exact hxO
 ·repeat rw [aT, if_neg (by omega)]
  rw [bX, hB]; exact congrArg DV.bx hcs
 try simp (disch := omega) only [go_sem, seval, hg, hxO]
 repeat refine And.intro bS ?_
 refine hK1 _ ?_; clear hK1
 refine aL ?_
 refine dC 4 rfl (by simp (disch := omega) only [go_sem, seval, hg, hxO]) ?_
 exact cP.is (by simp (disch := omega) only [go_sem, seval, hg, hxO] <;> refine congrArg vb ?_ <;> (cases h : q.any p <;> simp)) rfl rfl
end
section
attribute [local go_sem] List.drop_zero i6 iW iY f7 lT lP lN lM lK lQ jH jO jQ gS mV mC l2 mO mJ mD mT mM mH mU jG jJ jK jL lJ List.length_map Nat.mul_one Nat.add_zero
theorem s6 (O : aU) (q : List bB) (e : Int) (s : Nat) (hO : O s = .row 85 3 (q.map bJ)) (hq : q.length ≤ 1000) : aW Tryz.prog O 130 [.own s q.length, vi e] (vb (eG q e)) := by
 have hxO : bW O (s + 100000) = .row 85 3 (q.map bJ) := by rw [bX, hO]; rfl
 refine dT Tryz.func130 ?_
 refine aA fun K0 hK0 => ?_
 refine a7 [0, 1] (by kernel_rfl) ?_
 simp (disch := omega) only [go_sem, seval, hxO]
 repeat refine And.intro bS ?_
 refine hK0 _ ?_; clear hK0
 refine aA fun K1 hK1 => ?_
 refine a7 [0, 3] (by kernel_rfl) ?_
 simp (disch := omega) only [go_sem, seval, hxO]
 repeat refine And.intro bS ?_
 refine gE _ (lH _ q 189 3 [vi e] (fun s => decide (s.fEl = e)) (s + 100000) ?_ hq (by rfl) rfl rfl (fun ρ k r h => rT ρ r e k h)) ?_
 ·repeat rw [aT, if_neg (by omega)]
  exact hxO
 try simp (disch := omega) only [go_sem, seval, hxO]
 repeat refine And.intro bS ?_
 refine hK1 _ ?_; clear hK1
 refine aL ?_
 refine dC 4 rfl (by simp (disch := omega) only [go_sem, seval, hxO]) ?_
 exact cP.is (by simp (disch := omega) only [go_sem, seval, hxO] <;> refine congrArg vb ?_ <;> (rfl)) rfl rfl
end
section
attribute [local go_sem] List.drop_zero i6 iW iY f7 lT lP lN lM lK lQ jH jO jQ gS mV mC l2 mO mJ mD mT mM mH mU jG jJ jK jL lJ List.length_map Nat.mul_one Nat.add_zero
end
def ovG (l : aC) (ov : Int) (sc : List Int) : Nat → List bB → cC × Bool → List bB
 | 0, o, _ => o
 | n + 1, o, a => if ((a.2 = true ∧ fL l o < ov) ∧ o.length < 12) ∧ qG l sc o a.1.fEl = false ∧ (cS l a.1).length ≠ 0 then ovG l ov sc n (o ++ [(cS l a.1).getD 0 default]) (bP l ((cS l a.1).getD 0 default)) else o
theorem aIe {l : aC} {ov : Int} {sc : List Int} {n : Nat} {o : List bB} {a : cC × Bool} (h : ¬ (((a.2 = true ∧ fL l o < ov) ∧ o.length < 12) ∧ qG l sc o a.1.fEl = false ∧ (cS l a.1).length ≠ 0)) : ovG l ov sc n o a = o := by
 cases n with
 | zero => rfl
 | succ n => rw [ovG, if_neg h]
theorem bFu {l : aC} {ov : Int} {sc : List Int} {n : Nat} {o : List bB} {a : cC × Bool} (h : ((a.2 = true ∧ fL l o < ov) ∧ o.length < 12) ∧ qG l sc o a.1.fEl = false ∧ (cS l a.1).length ≠ 0) : ovG l ov sc (n + 1) o a = ovG l ov sc n (o ++ [(cS l a.1).getD 0 default]) (bP l ((cS l a.1).getD 0 default)) := by rw [ovG, if_pos h]
def vZ (l : aC) (r : bE) : List bB := if (kZ l r).2 = true then ovG l (kZ l r).1.fOverlap r.fSections 12 [] (aD l (kZ l r).1.fAt) else []
theorem aOn {l : aC} {ov : Int} {sc : List Int} : ∀ (n : Nat) (o : List bB) (a : cC × Bool), (ovG l ov sc n o a).length ≤ o.length + n
 | 0, o, a => by simp [ovG]
 | n + 1, o, a => by
  unfold ovG
  split
  ·have := aOn (l := l) (ov := ov) (sc := sc) n (o ++ [(cS l a.1).getD 0 default]) (bP l ((cS l a.1).getD 0 default))
   rw [List.length_append, List.length_singleton] at this; omega
  omega
theorem aMr (l : aC) (r : bE) : (vZ l r).length ≤ 12 := by
 unfold vZ; split
 ·have := aOn (l := l) (ov := (kZ l r).1.fOverlap) (sc := r.fSections) 12 [] (aD l (kZ l r).1.fAt); simpa using this
 simp
section
attribute [local go_sem] List.drop_zero i6 iW iY f7 lT lP lN lM lK lQ jH jO jQ gS mV mC l2 mO mJ mD mT mM mH mU jG jJ jK jL lJ List.length_map Nat.mul_one Nat.add_zero
set_option maxRecDepth 20000 in
set_option maxHeartbeats 8000000 in
theorem vT (O : aU) (l : aC) (r : bE) (hl : dX l) (hes : kT l = true) : aW Tryz.prog O 84 [.agg (aI l), .agg (aZ r)] (bN (vZ l r)) := by
 have hl1 := hl.sec
 have hl2 := hl.el
 have hl3 := hl.jo
 have hl4 := hl.sg
 have hl5 := hl.bl
 refine dT Tryz.func84 ?_
 refine aB [0, 1] ?_
 refine aA fun K1 hK1 => ?_
 refine bF [2, 3] ?_
 refine dM (pN _ l r) ?_
 refine hK1 _ ?_; clear hK1
 refine aA fun K2 hK2 => ?_
 refine aB [2, 3, 5, 6] ?_
 refine aS (fun c0 => ?_) fun c0 => ?_
 ·have hex : (kZ l r).2 = false := (by simpa using c0)
  refine aB [] ?_
  refine lX 4 3 bJ rfl rfl ?_
  refine aL ?_
  refine b6 4 ?_
  exact cP.encL rfl (by (unfold vZ; rw [if_neg (by rw [hex]; simp)]))
 have hex : (kZ l r).2 = true := (by simpa using c0)
 refine aJ ?_
 refine hK2 _ ?_; clear hK2
 refine aB [2, 3, 5] ?_
 refine aA fun K6 hK6 => ?_
 refine bF [2, 3, 5, 7] ?_
 refine dM (iO _ l (kZ l r).1.fAt) ?_
 refine hK6 _ ?_; clear hK6
 refine aA fun K7 hK7 => ?_
 refine aK ?_
 refine d9 7 85 3 bJ rfl rfl ?_
 refine aX [2, 3, 5, 6, 7, 8] (fun n ρ => ∃ o, ∃ a, n = 12 - o.length ∧ (o.length ≤ 12) ∧ (vZ l r = ovG l (kZ l r).1.fOverlap r.fSections (12 - o.length) o a) ∧ ρ = cU O [(2, .bx (aI l)), (3, .bx (aZ r)), (5, .bx (eC (kZ l r).1)), (6, vb a.2), (7, pE o), (8, .bx (bO a.1))]) _ ⟨[], aD l (kZ l r).1.fAt, rfl, ?_, ?_, ?_⟩ ?_
 ·simp
 ·(unfold vZ; rw [if_pos hex]; rfl)
 ·exact cD
 rintro n ρ ⟨o, a, rfl, l0_0, l0_1, rfl⟩ K8 hK8
 refine aA fun K9 hK9 => ?_
 refine aA fun K10 hK10 => ?_
 refine e5 [2, 3, 5, 6, 7, 8] [] ?_
 refine lY (fun g0 => xT _ l o 7 (by simp (config := {maxSteps := 2000000}) (disch := omega) only [go_sem, seval]) hl hes (by omega)) ?_
 refine hK10 _ ?_; clear hK10
 refine aS (fun c1 => ?_) fun c1 => ?_
 ·have hc1 : (a.2 = true ∧ fL l o < (kZ l r).1.fOverlap) ∧ o.length < 12 := (by simpa using c1)
  obtain ⟨m, hm⟩ : ∃ m, 12 - o.length = m + 1 := ⟨11 - o.length, by omega⟩
  refine aJ ?_
  refine hK9 _ ?_; clear hK9
  refine aK ?_
  refine aA fun K11 hK11 => ?_
  refine aA fun K12 hK12 => ?_
  refine e5 [2, 3, 5, 7, 8] [] ?_
  refine cdz (s6 _ o a.1.fEl 7 (by simp (config := {maxSteps := 2000000}) (disch := omega) only [go_sem, seval]) (by omega)) ?_
  refine lY (fun g1 => dU _ l a.1.fEl) ?_
  refine lY (fun g2 => pO _ (bY l a.1.fEl) r.fSections) ?_
  refine hK12 _ ?_; clear hK12
  refine aS (fun c2 => ?_) fun c2 => ?_
  ·have hc2 : qG l r.fSections o a.1.fEl = true := (by unfold qG; simpa using c2)
   refine bA ?_
   refine hK7 _ ?_; clear hK7
   refine aA fun K13 hK13 => ?_
   refine dG 7 _ rfl rfl ?_
   refine bC [7] ?_
   refine hK13 _ ?_; clear hK13
   refine aL ?_
   refine b6 4 ?_
   exact cP.encL rfl (by (rw [l0_1, aIe (by rintro ⟨h1, h2, h3⟩; rw [hc2] at h2; cases h2)]))
  have hc2 : qG l r.fSections o a.1.fEl = false := (by unfold qG; simpa using c2)
  refine aJ ?_
  refine hK11 _ ?_; clear hK11
  refine aA fun K14 hK14 => ?_
  refine bF [2, 3, 5, 7, 8] ?_
  refine dM (nZ _ l a.1 hl) ?_
  refine hK14 _ ?_; clear hK14
  refine aA fun K15 hK15 => ?_
  refine aB [2, 3, 5, 7, 8, 9] ?_
  refine aS (fun c3 => ?_) fun c3 => ?_
  ·refine bA ?_
   refine hK7 _ ?_; clear hK7
   refine aA fun K17 hK17 => ?_
   refine dG 7 _ rfl rfl ?_
   refine bC [7] ?_
   refine hK17 _ ?_; clear hK17
   refine aL ?_
   refine b6 4 ?_
   exact cP.encL rfl (by (rw [l0_1, aIe (by rintro ⟨h1, h2, h3⟩; omega)]))
  have hc3 : (cS l a.1).length ≠ 0 := (by omega)
  refine aJ ?_
  refine hK15 _ ?_; clear hK15
  refine aB [2, 3, 5, 7, 8, 9] ?_
  refine k9 10 [2, 3, 5, 7, 8, 9] [2, 3, 5, 7, 9, 65, 66, 67, 68, 69, 64, 70, 71, 6, 8] [] [] [[], [], [1], [1, 2], [0, 1, 2, 3], [0, 1, 2, 3, 4], [0, 1, 2, 3, 4, 5], [0, 1, 2, 3, 4, 5], [0, 1, 2, 3, 4, 5, 6], [0, 1, 2, 3, 4, 5, 6, 7, 8]] [[8], [8], [8], [8], [8], [8], [8], [], [], []] (fun bQ => cU O [(2, .bx (aI l)), (3, .bx (aZ r)), (5, .bx (eC (kZ l r).1)), (7, pE (o ++ [((cS l a.1).getD 0 default)])), (9, bN (cS l a.1)), (65, aV (bQ 0) (.agg (aI l))), (66, aV (bQ 1) (bN (cS l a.1))), (67, aV (bQ 2) (.dp (bJ ((cS l a.1).getD 0 default)))), (68, aV (bQ 3) (.agg (bJ ((cS l a.1).getD 0 default)))), (69, aV (bQ 4) (.tup [.agg (bO (bP l ((cS l a.1).getD 0 default)).1), vb (bP l ((cS l a.1).getD 0 default)).2])), (64, aV (bQ 5) (.tup [.agg (bO (bP l ((cS l a.1).getD 0 default)).1), vb (bP l ((cS l a.1).getD 0 default)).2])), (70, aV (bQ 6) (.agg (bO (bP l ((cS l a.1).getD 0 default)).1))), (71, aV (bQ 7) (vb (bP l ((cS l a.1).getD 0 default)).2)), (6, aV (bQ 9) (vb (bP l ((cS l a.1).getD 0 default)).2)), (8, hU (bQ 8) true (.bx (bO (bP l ((cS l a.1).getD 0 default)).1)) (.bx (bO a.1)))]) (fun iQ hiQ oQ hoQ bQ hbQ KQ hKQ => ?_) ?_
  ·match iQ, hiQ with
   | 0, _ | 1, _ | 2, _ | 3, _ | 5, _ | 6, _ | 7, _ | 8, _ | 9, _ =>
    exact mkp hoQ hbQ hKQ
   | 4, _ =>
    exact mkc hoQ hbQ hKQ (t7 _ l ((cS l a.1).getD 0 default))
  refine lZ ?_
  refine hK8 _ _ ?_ ⟨o ++ [((cS l a.1).getD 0 default)], bP l ((cS l a.1).getD 0 default), rfl, ?_, ?_, ?_⟩
  ·simp; omega
  ·simp; omega
  ·rw [l0_1, hm, bFu ⟨hc1, hc2, hc3⟩]; congr 1; simp; omega
  exact cD
 have hc1 : ¬ ((a.2 = true ∧ fL l o < (kZ l r).1.fOverlap) ∧ o.length < 12) := (by rintro ⟨⟨h1, h2⟩, h3⟩; rw [h1] at c1; simp at c1; omega)
 refine bA ?_
 refine hK7 _ ?_; clear hK7
 refine aA fun K19 hK19 => ?_
 refine dG 7 _ rfl rfl ?_
 refine bC [7] ?_
 refine hK19 _ ?_; clear hK19
 refine aL ?_
 refine b6 4 ?_
 exact cP.encL rfl (by (rw [l0_1, aIe (fun h => hc1 h.1)]))
end
structure Rtk (r : bE) : Prop where
 pa : r.fPath.length ≤ 100
 po : r.fPoints.length ≤ 100
 se : r.fSections.length ≤ 100
 ov : r.fOver.length ≤ 100
 op : r.fOverPoints.length ≤ 100
 os : r.fOverSections.length ≤ 100
 fl : r.fFlank.length ≤ 1000
 gu : r.fGuards.length ≤ 1000
 ga : r.fGaps.length ≤ 1000
def sM (l : aC) (r : bE) : bE := ⟨r.fName, r.fEntry, r.fExit, r.fPath, r.fPoints, r.fSections, r.fApproach, r.fLength, vZ l r, oD l (vZ l r), dZ l (vZ l r), r.fFlank, r.fGuards, r.fGaps⟩
theorem aIn {l : aC} {a : cC} {s : bB} (h : s ∈ cS l a) : s.fEl = a.fEl := by
 cases he : pS l a.fEl with
 | false => rw [aMs he] at h; cases h
 | true =>
  rw [aMx he] at h
  obtain ⟨o, ho, rfl⟩ := List.mem_map.1 h
  rfl
theorem aXc {l : aC} {ov : Int} {sc : List Int} : ∀ (n : Nat) (o : List bB) (a : cC × Bool), (o.map (·.fEl)).Nodup → ((ovG l ov sc n o a).map (·.fEl)).Nodup
 | 0, o, a, h => h
 | n + 1, o, a, h => by
  unfold ovG
  split
  ·rename_i hc
   refine aXc n _ _ ?_
   rw [List.map_append, List.nodup_append]
   refine ⟨h, by simp, fun x hx y hy e => ?_⟩
   simp only [List.map_cons, List.map_nil, List.mem_singleton] at hy
   have hb := hc.2.1
   unfold qG at hb
   rw [Bool.or_eq_false_iff] at hb
   have hm : (cS l a.1).getD 0 default ∈ cS l a.1 := fS (by have := hc.2.2; omega)
   rw [(aIn hm)] at hy
   have : eG o a.1.fEl = true := vH.2 (by
    obtain ⟨s, hs, hse⟩ := List.mem_map.1 hx
    exact ⟨s, hs, by rw [hse, e, hy]⟩)
   rw [this] at hb; cases hb.1
  exact h
theorem aSb (l : aC) (r : bE) : ((vZ l r).map (·.fEl)).Nodup := by
 unfold vZ; split
 ·exact aXc _ _ _ (by simp)
 simp
section
attribute [local go_sem] List.drop_zero i6 iW iY f7 lT lP lN lM lK lQ
set_option maxHeartbeats 16000000 in
theorem xD (O : aU) (l : aC) (r : bE) (hl : dX l) (hes : kT l = true) (hr : Rtk r) : aW Tryz.prog O 37 [.agg (aI l), .agg (aZ r)] (.agg (aZ (sM l r))) := by
 have hl1 := hl.sec
 have hl2 := hl.el
 have hl3 := hl.jo
 have hl4 := hl.sg
 have hl5 := hl.bl
 have hr1 := hr.pa
 have hr2 := hr.po
 have hr3 := hr.se
 have hr4 := hr.fl
 have hr5 := hr.gu
 have hr6 := hr.ga
 have hos := aMr l r
 refine dT Tryz.func37 ?_
 refine aB [0, 1] ?_
 refine aA fun K1 hK1 => ?_
 refine bF [2, 3, 4] ?_
 refine dM (vT _ l r hl hes) ?_
 refine hK1 _ ?_; clear hK1
 refine aA fun K2 hK2 => ?_
 refine bF [2, 3, 4, 5] ?_
 refine dM (dJ (i7 _ r.fPath (by omega))) ?_
 refine hK2 _ ?_; clear hK2
 refine aA fun K3 hK3 => ?_
 refine bF [2, 3, 4, 5] ?_
 refine dM (dJ (fJ _ r.fPoints (by omega))) ?_
 refine hK3 _ ?_; clear hK3
 refine aA fun K4 hK4 => ?_
 refine bF [2, 3, 4, 5] ?_
 refine dM (dJ (gK _ r.fSections (by omega))) ?_
 refine hK4 _ ?_; clear hK4
 refine aA fun K5 hK5 => ?_
 refine bF [2, 3, 4, 5] ?_
 refine dM (dJ (fJ _ r.fFlank (by omega))) ?_
 refine hK5 _ ?_; clear hK5
 refine aA fun K6 hK6 => ?_
 refine bF [2, 3, 4, 5] ?_
 refine dM (dJ (gK _ r.fGuards (by omega))) ?_
 refine hK6 _ ?_; clear hK6
 refine aA fun K7 hK7 => ?_
 refine bF [2, 3, 4, 5] ?_
 refine dM (dJ (sY _ r.fGaps (by omega))) ?_
 refine hK7 _ ?_; clear hK7
 refine aB [2, 3, 4, 5] ?_
 refine aA fun K9 hK9 => ?_
 refine bF [2, 3, 4, 5] ?_
 refine dM (nR _ l (vZ l r) hl (by omega) (aSb l r)) ?_
 refine hK9 _ ?_; clear hK9
 refine aA fun K10 hK10 => ?_
 refine bF [2, 3, 4, 5] ?_
 refine dM (oG _ l (vZ l r) hl hes (by omega)) ?_
 refine hK10 _ ?_; clear hK10
 refine aB [3, 4] ?_
 refine aL ?_
 refine iK 4 46 rfl (by simp (disch := omega) only [go_sem, seval]) (by simp (disch := omega) only [go_sem, seval] <;> (rfl)) (by simp (disch := omega) only [go_sem, seval]) (by simp (disch := omega) only [go_sem, seval])
end
end Go.Sg
