/- Plain facts on ascending lists. -/
import Derived.Test.YtbndgcddihbhlaaCore
set_option linter.unusedVariables false
set_option linter.unusedSimpArgs false
namespace Go.Sg
abbrev SS (l : List Int) : Prop := l.Pairwise (· < ·)
theorem ss_ext : ∀ {a b : List Int}, SS a → SS b → (∀ x, x ∈ a ↔ x ∈ b) → a = b
  | [], [], _, _, _ => rfl
  | [], y :: b, _, _, h => by have := (h y).2 (by simp); simp at this
  | x :: a, [], _, _, h => by have := (h x).1 (by simp); simp at this
  | x :: a, y :: b, ha, hb, h => by
    rw [SS, List.pairwise_cons] at ha hb
    have hxy : x = y := by
      have h1 := (h x).1 (by simp)
      have h2 := (h y).2 (by simp)
      rcases List.mem_cons.1 h1 with e | e
      · exact e
      · rcases List.mem_cons.1 h2 with e2 | e2
        · exact e2.symm
        · have := ha.1 y e2; have := hb.1 x e; omega
    subst hxy
    rw [ss_ext ha.2 hb.2 fun z => by
      constructor
      · intro hz
        have := (h z).1 (by simp [hz])
        rcases List.mem_cons.1 this with e | e
        · subst e; exact absurd (ha.1 z hz) (Int.lt_irrefl _)
        · exact e
      · intro hz
        have := (h z).2 (by simp [hz])
        rcases List.mem_cons.1 this with e | e
        · subst e; exact absurd (hb.1 z hz) (Int.lt_irrefl _)
        · exact e]
theorem insO_mem (x : Int) : ∀ (s : List Int) (y : Int), y ∈ insO x s ↔ y = x ∨ y ∈ s
  | [], y => by simp [insO]
  | z :: s, y => by
    unfold insO; split
    · simp
    · simp [insO_mem x s y, or_left_comm]
theorem insO_ss (x : Int) : ∀ (s : List Int), SS s → x ∉ s → SS (insO x s)
  | [], _, _ => by simp [insO, SS]
  | z :: s, h, hn => by
    rw [SS, List.pairwise_cons] at h
    unfold insO; split
    · rename_i hlt
      refine List.pairwise_cons.2 ⟨fun y hy => ?_, List.pairwise_cons.2 h⟩
      rcases List.mem_cons.1 hy with e | e
      · rw [e]; exact hlt
      · exact Int.lt_trans hlt (h.1 y e)
    · rename_i hlt
      refine List.pairwise_cons.2 ⟨fun y hy => ?_, insO_ss x s h.2 fun hx => hn (by simp [hx])⟩
      rcases (insO_mem x s y).1 hy with e | e
      · have : z ≠ x := fun e2 => hn (by simp [e2])
        omega
      · exact h.1 y e
theorem insS_mem (s : List Int) (x y : Int) : y ∈ insS s x ↔ y = x ∨ y ∈ s := by
  unfold insS; split
  · rename_i h
    have h : x ∈ s := by simpa using h
    constructor
    · exact .inr
    · rintro (e | e)
      · rw [e]; exact h
      · exact e
  · exact insO_mem x s y
theorem insS_ss (s : List Int) (x : Int) (h : SS s) : SS (insS s x) := by
  unfold insS; split
  · exact h
  · rename_i hn; exact insO_ss x s h (by simpa using hn)
theorem ch_mem (b : List Int) (w : Bool) : ∀ (a s : List Int) (y : Int), y ∈ a.foldl (fun acc x => if b.contains x == w then insS acc x else acc) s ↔ y ∈ s ∨ (y ∈ a ∧ b.contains y = w)
  | [], s, y => by simp
  | x :: a, s, y => by
    rw [List.foldl_cons, ch_mem b w a _ y]
    split
    · rename_i h
      rw [insS_mem]
      have h : b.contains x = w := by simpa using h
      constructor
      · rintro ((e | e) | ⟨e1, e2⟩)
        · subst e; exact .inr ⟨by simp, h⟩
        · exact .inl e
        · exact .inr ⟨by simp [e1], e2⟩
      · rintro (e | ⟨e1, e2⟩)
        · exact .inl (.inr e)
        · rcases List.mem_cons.1 e1 with e | e
          · exact .inl (.inl e)
          · exact .inr ⟨e, e2⟩
    · rename_i h
      have h : b.contains x ≠ w := by simpa using h
      constructor
      · rintro (e | ⟨e1, e2⟩)
        · exact .inl e
        · exact .inr ⟨by simp [e1], e2⟩
      · rintro (e | ⟨e1, e2⟩)
        · exact .inl e
        · rcases List.mem_cons.1 e1 with e | e
          · subst e; exact absurd e2 h
          · exact .inr ⟨e, e2⟩
theorem ch_ss (b : List Int) (w : Bool) : ∀ (a s : List Int), SS s → SS (a.foldl (fun acc x => if b.contains x == w then insS acc x else acc) s)
  | [], _, h => h
  | x :: a, s, h => by
    rw [List.foldl_cons]
    refine ch_ss b w a _ ?_
    split
    · exact insS_ss s x h
    · exact h
theorem chosenS_mem (a b : List Int) (w : Bool) (y : Int) : y ∈ chosenS a b w ↔ y ∈ a ∧ b.contains y = w := by unfold chosenS; rw [ch_mem]; simp
theorem chosenS_ss (a b : List Int) (w : Bool) : SS (chosenS a b w) := ch_ss b w a [] .nil
theorem srt_sorted (l : List Int) : (srt l).Pairwise (· ≤ ·) := by
  have := List.pairwise_mergeSort (le := fun x y : Int => decide (x ≤ y)) (fun a b c h1 h2 => by simp at *; omega) (fun a b => by simp; omega) l
  exact this.imp fun h => by simpa using h
theorem srt_mem (l : List Int) (y : Int) : y ∈ srt l ↔ y ∈ l := by unfold srt; simp
theorem compact_keeps (s : List Int) (j : Nat) (hj : j < s.length) : Lib.keeps s.toArray j = (j == 0 || s.getD j 0 != s.getD (j - 1) 0) := by
  unfold Lib.keeps
  have h1 : s.toArray[j]! = s.getD j 0 := by simp [List.getD_eq_getElem?_getD, List.getElem?_eq_getElem hj, getElem!_pos, hj]
  have h2 : s.toArray[j - 1]! = s.getD (j - 1) 0 := by
    have : j - 1 < s.length := by omega
    simp [List.getD_eq_getElem?_getD, List.getElem?_eq_getElem this, getElem!_pos, this]
  rw [h1, h2]
  rcases Nat.eq_zero_or_pos j with e | e
  · simp [e]
  · have h0 : (j == 0) = false := by simp; omega
    rw [h0, Bool.false_or]
    by_cases h : s.getD j 0 = s.getD (j - 1) 0 <;> simp [h, show j ≠ 0 by omega, bne] <;> simp_all
theorem sorted_get {s : List Int} (h : s.Pairwise (· ≤ ·)) {i j : Nat} (hij : i ≤ j) (hj : j < s.length) : s.getD i 0 ≤ s.getD j 0 := by
  rcases Nat.lt_or_eq_of_le hij with h1 | h1
  · rw [List.pairwise_iff_getElem] at h
    have := h i j (by omega) hj h1
    rwa [List.getD_eq_getElem?_getD, List.getElem?_eq_getElem (show i < s.length by omega), List.getD_eq_getElem?_getD, List.getElem?_eq_getElem hj]
  · subst h1; exact Int.le_refl _
theorem compact_eq (s : List Int) : Lib.compact s = ((List.range s.length).filter (Lib.keeps s.toArray)).map fun j => s.getD j 0 := by
  unfold Lib.compact Lib.compactUpTo
  apply List.map_congr_left
  intro j hj
  have hj : j < s.length := by simpa using (List.mem_filter.1 hj).1
  simp [List.getD_eq_getElem?_getD, List.getElem?_eq_getElem hj, getElem!_pos, hj]
theorem compact_ss (s : List Int) (hs : s.Pairwise (· ≤ ·)) : SS (Lib.compact s) := by
  rw [compact_eq, SS, List.pairwise_map, List.pairwise_filter]
  refine (List.pairwise_lt_range (n := s.length)).imp_of_mem ?_
  intro i j hi hj hlt ki kj
  have hj : j < s.length := by simpa using hj
  rw [compact_keeps s j hj] at kj
  have h1 := sorted_get hs (show i ≤ j - 1 by omega) (show j - 1 < s.length by omega)
  have h2 := sorted_get hs (show j - 1 ≤ j by omega) hj
  simp [show j ≠ 0 by omega] at kj
  simp only [List.getD_eq_getElem?_getD] at *
  omega
theorem compact_mem (s : List Int) (y : Int) : y ∈ Lib.compact s ↔ y ∈ s := by
  rw [compact_eq]
  constructor
  · intro h
    obtain ⟨j, hj, rfl⟩ := List.mem_map.1 h
    have hj : j < s.length := by simpa using (List.mem_filter.1 hj).1
    rw [List.getD_eq_getElem?_getD, List.getElem?_eq_getElem hj]
    exact List.getElem_mem hj
  · intro h
    have key : ∀ j, j < s.length → s.getD j 0 = y → ∃ i, i < s.length ∧ s.getD i 0 = y ∧ Lib.keeps s.toArray i = true := by
      intro j
      induction j with
      | zero => intro hj e; exact ⟨0, hj, e, by rw [compact_keeps s 0 hj]; rfl⟩
      | succ j ih =>
        intro hj e
        cases hk : Lib.keeps s.toArray (j + 1) with
        | true => exact ⟨j + 1, hj, e, hk⟩
        | false =>
          rw [compact_keeps s (j + 1) hj] at hk
          have : s.getD (j + 1) 0 = s.getD j 0 := by
            simp only [Bool.or_eq_false_iff, bne_eq_false_iff_eq, Nat.add_sub_cancel] at hk
            exact hk.2
          exact ih (by omega) (this ▸ e)
    obtain ⟨j, hj, e⟩ := List.getElem_of_mem h
    obtain ⟨i, hi, e2, hk⟩ := key j hj (by rw [List.getD_eq_getElem?_getD, List.getElem?_eq_getElem hj]; exact e)
    exact List.mem_map.2 ⟨i, List.mem_filter.2 ⟨by simpa using hi, hk⟩, e2⟩
theorem mk_ss (l : List Int) : SS (mk l) := compact_ss _ (srt_sorted l)
theorem mk_mem (l : List Int) (y : Int) : y ∈ mk l ↔ y ∈ l := by unfold mk; rw [compact_mem, srt_mem]
theorem mk_len (l : List Int) : (mk l).length ≤ l.length := mkI l
theorem step_mem {k : Bool → Bool → Bool} {p q : Bool} {x z : Int} {A B A' B' R : List Int} (hR : z ∈ R ↔ (z ∈ A' ∨ z ∈ B') ∧ k (decide (z ∈ A')) (decide (z ∈ B')) = true)
    (hA : x ∉ A') (hB : x ∉ B') (h1 : z ∈ A ↔ (p = true ∧ z = x) ∨ z ∈ A') (h2 : z ∈ B ↔ (q = true ∧ z = x) ∨ z ∈ B') (hpq : p = true ∨ q = true) :
    z ∈ (if k p q then [x] else []) ++ R ↔ (z ∈ A ∨ z ∈ B) ∧ k (decide (z ∈ A)) (decide (z ∈ B)) = true := by
  by_cases e : z = x
  · subst e
    have e1 : (z ∈ A) = (p = true) := by rw [propext h1]; simp [hA]
    have e2 : (z ∈ B) = (q = true) := by rw [propext h2]; simp [hB]
    have hnR : z ∉ R := fun h => by
      rcases (hR.1 h).1 with h | h
      · exact hA h
      · exact hB h
    have d1 : decide (z ∈ A) = p := by rw [Bool.eq_iff_iff, decide_eq_true_iff, e1]
    have d2 : decide (z ∈ B) = q := by rw [Bool.eq_iff_iff, decide_eq_true_iff, e2]
    rw [d1, d2, e1, e2]
    by_cases hk : k p q = true
    · simp [hk, hpq]
    · simp [hk, hnR]
  · have e1 : (z ∈ A) = (z ∈ A') := by rw [propext h1]; simp [e]
    have e2 : (z ∈ B) = (z ∈ B') := by rw [propext h2]; simp [e]
    have d1 : decide (z ∈ A) = decide (z ∈ A') := by rw [Bool.eq_iff_iff, decide_eq_true_iff, decide_eq_true_iff, e1]
    have d2 : decide (z ∈ B) = decide (z ∈ B') := by rw [Bool.eq_iff_iff, decide_eq_true_iff, decide_eq_true_iff, e2]
    rw [d1, d2, e1, e2, ← hR, List.mem_append]
    have : z ∉ (if k p q then [x] else []) := by split <;> simp [e]
    simp [this]
theorem step_ss {c : Prop} [Decidable c] {x : Int} {R : List Int} (hR : SS R) (h : ∀ z ∈ R, x < z) : SS ((if c then [x] else []) ++ R) := by
  split
  · exact List.pairwise_cons.2 ⟨h, hR⟩
  · exact hR
theorem mrg_all (k : Bool → Bool → Bool) (a b : List Int) (ha : SS a) (hb : SS b) : (∀ z, z ∈ mrg k a b ↔ (z ∈ a ∨ z ∈ b) ∧ k (decide (z ∈ a)) (decide (z ∈ b)) = true) ∧ SS (mrg k a b) := by
  induction a, b using mrg.induct with
  | case1 => rw [mrg]; exact ⟨by simp, .nil⟩
  | case2 x a ih =>
    rw [SS, List.pairwise_cons] at ha
    obtain ⟨i1, i2⟩ := ih ha.2 .nil
    rw [mrg]
    refine ⟨fun z => step_mem (p := true) (q := false) (i1 z) (fun h => Int.lt_irrefl _ (ha.1 x h)) (by simp) (by simp) (by simp) (.inl rfl), step_ss i2 fun z hz => ?_⟩
    rcases ((i1 z).1 hz).1 with h | h
    · exact ha.1 z h
    · simp at h
  | case3 y b ih =>
    rw [SS, List.pairwise_cons] at hb
    obtain ⟨i1, i2⟩ := ih .nil hb.2
    rw [mrg]
    refine ⟨fun z => step_mem (p := false) (q := true) (i1 z) (by simp) (fun h => Int.lt_irrefl _ (hb.1 y h)) (by simp) (by simp) (.inr rfl), step_ss i2 fun z hz => ?_⟩
    rcases ((i1 z).1 hz).1 with h | h
    · simp at h
    · exact hb.1 z h
  | case4 x a y b hlt ih =>
    rw [SS, List.pairwise_cons] at ha
    obtain ⟨i1, i2⟩ := ih ha.2 hb
    rw [SS, List.pairwise_cons] at hb
    have hy : ∀ z ∈ y :: b, x < z := fun z hz => by
      rcases List.mem_cons.1 hz with e | e
      · rw [e]; exact hlt
      · exact Int.lt_trans hlt (hb.1 z e)
    rw [mrg, if_pos hlt]
    refine ⟨fun z => step_mem (p := true) (q := false) (i1 z) (fun h => Int.lt_irrefl _ (ha.1 x h)) (fun h => Int.lt_irrefl _ (hy x h)) (by simp) (by simp) (.inl rfl), step_ss i2 fun z hz => ?_⟩
    rcases ((i1 z).1 hz).1 with h | h
    · exact ha.1 z h
    · exact hy z h
  | case5 x a y b hn hlt ih =>
    rw [SS, List.pairwise_cons] at hb
    obtain ⟨i1, i2⟩ := ih ha hb.2
    rw [SS, List.pairwise_cons] at ha
    have hx : ∀ z ∈ x :: a, y < z := fun z hz => by
      rcases List.mem_cons.1 hz with e | e
      · rw [e]; exact hlt
      · exact Int.lt_trans hlt (ha.1 z e)
    rw [mrg, if_neg hn, if_pos hlt]
    refine ⟨fun z => step_mem (p := false) (q := true) (i1 z) (fun h => Int.lt_irrefl _ (hx y h)) (fun h => Int.lt_irrefl _ (hb.1 y h)) (by simp) (by simp) (.inr rfl), step_ss i2 fun z hz => ?_⟩
    rcases ((i1 z).1 hz).1 with h | h
    · exact hx z h
    · exact hb.1 z h
  | case6 x a y b hn hn2 ih =>
    rw [SS, List.pairwise_cons] at ha hb
    obtain ⟨i1, i2⟩ := ih ha.2 hb.2
    obtain rfl : x = y := by omega
    rw [mrg, if_neg hn, if_neg hn2]
    refine ⟨fun z => step_mem (p := true) (q := true) (i1 z) (fun h => Int.lt_irrefl _ (ha.1 x h)) (fun h => Int.lt_irrefl _ (hb.1 x h)) (by simp) (by simp) (.inl rfl), step_ss i2 fun z hz => ?_⟩
    rcases ((i1 z).1 hz).1 with h | h
    · exact ha.1 z h
    · exact hb.1 z h
theorem mrg_mem (k : Bool → Bool → Bool) (a b : List Int) (ha : SS a) (hb : SS b) (z : Int) : z ∈ mrg k a b ↔ (z ∈ a ∨ z ∈ b) ∧ k (decide (z ∈ a)) (decide (z ∈ b)) = true := (mrg_all k a b ha hb).1 z
theorem mrg_ss (k : Bool → Bool → Bool) (a b : List Int) (ha : SS a) (hb : SS b) : SS (mrg k a b) := (mrg_all k a b ha hb).2
def com (a b : List Int) : List Int := mrg (fun p q => p && q) (mk a) (mk b)
theorem com_ss (a b : List Int) : SS (com a b) := mrg_ss _ _ _ (mk_ss a) (mk_ss b)
theorem com_mem (a b : List Int) (z : Int) : z ∈ com a b ↔ z ∈ a ∧ z ∈ b := by unfold com; rw [mrg_mem _ _ _ (mk_ss a) (mk_ss b)]; simp [mk_mem]; exact fun h _ => .inl h
theorem com_eq (a b : List Int) : com a b = chosenS a b true := ss_ext (com_ss a b) (chosenS_ss _ _ _) fun x => by rw [com_mem, chosenS_mem]; simp
end Go.Sg
