/- Settings of a route: the list, ascending, each once; the contract of the reference. Printed by genw.py. -/
import Derived.Test.YtnpokifaejcbeaaGreatDoorSgObl
import Derived.Test.YtnpokifaejcbeaaGreatDoorT8
set_option linter.unusedVariables false
set_option linter.unusedSimpArgs false
set_option maxRecDepth 8000
namespace Go.Sg
open Go.Proofs
def sLt (a b : Setting) : Bool := decide (a.fEl < b.fEl ∨ a.fEl = b.fEl ∧ a.fPos < b.fPos)
theorem sLt_iff {a b : Setting} : sLt a b = true ↔ a.fEl < b.fEl ∨ a.fEl = b.fEl ∧ a.fPos < b.fPos := decide_eq_true_iff
theorem sLt_irr (a : Setting) : sLt a a = false := by rw [← Bool.not_eq_true, sLt_iff]; omega
theorem sLt_tr {a b c : Setting} (h : sLt a b = true) (k : sLt b c = true) : sLt a c = true := by rw [sLt_iff] at *; omega
theorem sLt_tri {a b : Setting} (h : sLt a b = false) (k : sLt b a = false) : a = b := by
  rw [← Bool.not_eq_true, sLt_iff] at h k; rw [extSetting]; omega
theorem sLt_ge {a b c : Setting} (h : sLt b a = false) (k : sLt b c = true) : sLt a c = true := by
  rw [← Bool.not_eq_true, sLt_iff] at h; rw [sLt_iff] at *; omega
theorem sLt_le {a b c : Setting} (h : sLt a b = true) (k : sLt c b = false) : sLt a c = true := by
  rw [← Bool.not_eq_true, sLt_iff] at k; rw [sLt_iff] at *; omega
def Asc (l : List Setting) : Prop := l.Pairwise fun a b => sLt a b = true
theorem asc_unique : ∀ {l m : List Setting}, Asc l → Asc m → (∀ x, x ∈ l ↔ x ∈ m) → l = m
  | [], [], _, _, _ => rfl
  | [], b :: m, _, _, h => absurd ((h b).2 (by simp)) (by simp)
  | a :: l, [], _, _, h => absurd ((h a).1 (by simp)) (by simp)
  | a :: l, b :: m, hl, hm, h => by
    unfold Asc at hl hm
    rw [List.pairwise_cons] at hl hm
    have key : a = b := by
      rcases List.mem_cons.1 ((h a).1 (by simp)) with e | e
      · exact e
      · rcases List.mem_cons.1 ((h b).2 (by simp)) with e' | e'
        · exact e'.symm
        · have := sLt_tr (hl.1 b e') (hm.1 a e)
          rw [sLt_irr] at this; cases this
    subst key
    rw [asc_unique hl.2 hm.2 fun x => ?_]
    constructor
    · intro hx
      rcases List.mem_cons.1 ((h x).1 (by simp [hx])) with e | e
      · subst e; have := hl.1 x hx; rw [sLt_irr] at this; cases this
      · exact e
    · intro hx
      rcases List.mem_cons.1 ((h x).2 (by simp [hx])) with e | e
      · subst e; have := hm.1 x hx; rw [sLt_irr] at this; cases this
      · exact e
theorem asc_snoc {l : List Setting} {x : Setting} (h : Asc l) (hx : ∀ y ∈ l, sLt y x = true) : Asc (l ++ [x]) := by
  unfold Asc at *
  rw [List.pairwise_append]
  exact ⟨h, List.pairwise_singleton _ _, fun a ha b hb => by rw [List.mem_singleton.1 hb]; exact hx a ha⟩
abbrev stN (l : List Setting) (i : Nat) : Setting := l.getD i default
/-- The first of each run. -/
def ddS (s : List Setting) : Nat → List Setting
  | 0 => []
  | n + 1 => ddS s n ++ if n = 0 ∨ stN s n ≠ stN s (n - 1) then [stN s n] else []
theorem ddS_len (s : List Setting) : ∀ n, (ddS s n).length ≤ n
  | 0 => Nat.le_refl _
  | n + 1 => by
    unfold ddS
    have := ddS_len s n
    rw [List.length_append]
    split <;> simp <;> omega
theorem ddS_mem {s : List Setting} : ∀ n x, x ∈ ddS s n ↔ ∃ k, k < n ∧ stN s k = x
  | 0, x => by simp [ddS]
  | n + 1, x => by
    unfold ddS
    rw [List.mem_append, ddS_mem n x]
    constructor
    · rintro (⟨k, hk, rfl⟩ | h)
      · exact ⟨k, by omega, rfl⟩
      · split at h
        · exact ⟨n, by omega, (List.mem_singleton.1 h).symm⟩
        · cases h
    · rintro ⟨k, hk, rfl⟩
      rcases Nat.lt_or_eq_of_le (Nat.le_of_lt_succ hk) with q | q
      · exact .inl ⟨k, q, rfl⟩
      · subst q
        by_cases hc : k = 0 ∨ stN s k ≠ stN s (k - 1)
        · rw [if_pos hc]; exact .inr (by simp)
        · simp only [not_or, Classical.not_not] at hc
          exact .inl ⟨k - 1, by omega, hc.2.symm⟩
theorem ddS_asc {s : List Setting} (hs : ∀ i j, i < j → j < s.length → sLt (stN s j) (stN s i) = false) : ∀ n, n ≤ s.length → Asc (ddS s n)
  | 0, _ => List.Pairwise.nil
  | n + 1, h => by
    unfold ddS
    split
    · rename_i hc
      refine asc_snoc (ddS_asc hs n (by omega)) fun y hy => ?_
      obtain ⟨k, hk, rfl⟩ := (ddS_mem n y).1 hy
      have hne : stN s n ≠ stN s (n - 1) := by rcases hc with h | h; omega; exact h
      have h1 : sLt (stN s (n - 1)) (stN s n) = true := by
        cases hq : sLt (stN s (n - 1)) (stN s n) with
        | true => rfl
        | false => exact absurd (sLt_tri (hs (n - 1) n (by omega) (by omega)) hq) hne
      rcases Nat.lt_or_eq_of_le (show k ≤ n - 1 by omega) with q | q
      · exact sLt_ge (hs k (n - 1) q (by omega)) h1
      · rw [q]; exact h1
    · rw [List.append_nil]; exact ddS_asc hs n (by omega)
/-- Sorted. -/
def msS (l : List Setting) : List Setting := l.mergeSort fun x y => !sLt y x
theorem msS_len (l : List Setting) : (msS l).length = l.length := List.length_mergeSort l
theorem msS_asc (l : List Setting) : ∀ i j, i < j → j < (msS l).length → sLt (stN (msS l) j) (stN (msS l) i) = false := by
  have h := List.pairwise_mergeSort (le := fun x y => !sLt y x) (fun a b c h k => by
    simp only [Bool.not_eq_true'] at *
    cases hq : sLt c a with
    | false => rfl
    | true => rw [sLt_le hq h] at k; cases k) (fun a b => by
    simp only [Bool.or_eq_true, Bool.not_eq_true']
    cases hq : sLt b a with
    | false => exact .inl rfl
    | true =>
      right
      rw [← Bool.not_eq_true, sLt_iff]
      rw [sLt_iff] at hq; omega) l
  intro i j hij hj
  have := List.pairwise_iff_getElem.1 h i j (by show i < (msS l).length; omega) hj hij
  simp only [Bool.not_eq_true'] at this
  simp only [stN, List.getD_eq_getElem?_getD, List.getElem?_eq_getElem hj, List.getElem?_eq_getElem (show i < (msS l).length by omega), Option.getD_some]
  exact this
def srtS (l : List Setting) : List Setting := ddS (msS l) (msS l).length
theorem srtS_asc (l : List Setting) : Asc (srtS l) := ddS_asc (msS_asc l) _ (Nat.le_refl _)
theorem srtS_mem (l : List Setting) (x : Setting) : x ∈ srtS l ↔ x ∈ l := by
  unfold srtS
  rw [ddS_mem, show x ∈ l ↔ x ∈ msS l from List.mem_mergeSort.symm]
  rw [List.mem_iff_getElem]
  constructor
  · rintro ⟨k, hk, rfl⟩; exact ⟨k, hk, by simp [stN, List.getD_eq_getElem?_getD, hk]⟩
  · rintro ⟨k, hk, rfl⟩; exact ⟨k, hk, by simp [stN, List.getD_eq_getElem?_getD, hk]⟩
/-- What comes behind the last one that is taken. -/
def gtL (out : List Setting) (x : Setting) : Bool := decide (out.length = 0) || sLt (stN out (out.length - 1)) x
theorem gtL_all {out : List Setting} {x : Setting} (h : Asc out) (hx : gtL out x = true) : ∀ y ∈ out, sLt y x = true := by
  intro y hy
  obtain ⟨k, hk, rfl⟩ := List.mem_iff_getElem.1 hy
  unfold gtL at hx
  rw [Bool.or_eq_true, decide_eq_true_eq] at hx
  rcases hx with hx | hx
  · omega
  · have e : stN out (out.length - 1) = out[out.length - 1]'(by omega) := by simp [stN, List.getD_eq_getElem?_getD, show out.length - 1 < out.length by omega]
    rw [e] at hx
    rcases Nat.lt_or_eq_of_le (show k ≤ out.length - 1 by omega) with q | q
    · exact sLt_tr (List.pairwise_iff_getElem.1 h k (out.length - 1) hk (by omega) q) hx
    · subst q; exact hx
theorem gtL_snoc (out : List Setting) (m x : Setting) : gtL (out ++ [m]) x = sLt m x := by
  unfold gtL
  rw [decide_eq_false (by simp), Bool.false_or]
  congr 1
  simp [stN, List.getD_eq_getElem?_getD]
structure SelI (A out : List Setting) : Prop where
  asc : Asc out
  sub : ∀ x ∈ out, x ∈ A
  rest : ∀ x ∈ A, x ∈ out ∨ gtL out x = true
theorem SelI.nil (A : List Setting) : SelI A [] := ⟨List.Pairwise.nil, by simp, fun x _ => .inr rfl⟩
theorem SelI.step {A out : List Setting} {m : Setting} (h : SelI A out) (hm : m ∈ A) (hg : gtL out m = true) (hl : ∀ x ∈ A, gtL out x = true → sLt x m = false) : SelI A (out ++ [m]) where
  asc := asc_snoc h.asc (gtL_all h.asc hg)
  sub := fun x hx => by
    rcases List.mem_append.1 hx with q | q
    · exact h.sub x q
    · rw [List.mem_singleton.1 q]; exact hm
  rest := fun x hx => by
    rcases h.rest x hx with q | q
    · exact .inl (by simp [q])
    · rw [gtL_snoc]
      cases hq : sLt m x with
      | true => exact .inr rfl
      | false => exact .inl (by rw [sLt_tri (hl x hx q) hq]; simp)
theorem SelI.fin {A out : List Setting} (h : SelI A out) (hn : ∀ x ∈ A, gtL out x = false) : out = srtS A :=
  asc_unique h.asc (srtS_asc A) fun x => by
    rw [srtS_mem]
    exact ⟨h.sub x, fun hx => (h.rest x hx).resolve_right (by rw [hn x hx]; simp)⟩
def selM (A out : List Setting) : Nat := (A.filter (gtL out)).length
theorem sel_less {A out : List Setting} {m : Setting} (hm : m ∈ A) (hg : gtL out m = true) : selM A (out ++ [m]) < selM A out := by
  have hsub : ∀ x, gtL (out ++ [m]) x = true → gtL out x = true := fun x hx => by
    rw [gtL_snoc] at hx
    unfold gtL at *
    rw [Bool.or_eq_true] at *
    rcases hg with q | q
    · exact .inl q
    · exact .inr (sLt_tr q hx)
  have hno : gtL (out ++ [m]) m = false := by rw [gtL_snoc]; exact sLt_irr m
  unfold selM
  have key : ∀ B : List Setting, (B.filter (gtL (out ++ [m]))).length ≤ (B.filter (gtL out)).length := fun B => by
    induction B with
    | nil => simp
    | cons b B ih =>
      rw [List.filter_cons, List.filter_cons]
      cases hq : gtL (out ++ [m]) b with
      | true => rw [hsub b hq]; simpa using ih
      | false =>
        simp only [Bool.false_eq_true, if_false]
        split
        · simp; omega
        · exact ih
  induction A with
  | nil => cases hm
  | cons b B ih =>
    rw [List.filter_cons, List.filter_cons]
    rcases List.mem_cons.1 hm with e | e
    · subst e
      rw [hno, hg]
      have := key B
      simp; omega
    · have := ih e
      cases hq : gtL (out ++ [m]) b with
      | true => rw [hsub b hq]; simpa using this
      | false =>
        simp only [Bool.false_eq_true, if_false]
        split
        · simp; omega
        · exact this
theorem selM_0 (A : List Setting) : ([] : List Setting).length + selM A [] ≤ A.length := by
  have : (A.filter (gtL [])).length ≤ A.length := List.length_filter_le _ _
  unfold selM; simpa using this

end Go.Sg
