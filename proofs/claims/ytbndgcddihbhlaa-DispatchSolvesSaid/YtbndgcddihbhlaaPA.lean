/- Several texts as one. -/
import Derived.Test.YtbndgcddihbhlaaD11
set_option linter.unusedVariables false
set_option linter.unusedSimpArgs false
namespace Go.Sg
open Go.Proofs
def LxLe (f g : Nat → Int) (N : Nat) : Prop := ∀ m, m < N → (∀ m', m' < m → f m' = g m') → f m ≤ g m
theorem LxLe.of_le {f g : Nat → Int} {N : Nat} (h : ∀ m, m < N → f m ≤ g m) : LxLe f g N := fun m hm _ => h m hm
theorem LxLe.trans {f g h : Nat → Int} {N : Nat} (h1 : LxLe f g N) (h2 : LxLe g h N) : LxLe f h N := by
  intro m hm he
  have key : ∀ q, q ≤ m → (∀ q', q' < q → f q' = g q' ∧ g q' = h q') := by
    intro q
    induction q with
    | zero => intro _ q' hq; omega
    | succ q ih =>
      intro hq q' hq'
      have ih := ih (by omega)
      by_cases e : q' = q
      · subst e
        have a1 := h1 q' (by omega) fun r hr => (ih r hr).1
        have a2 := h2 q' (by omega) fun r hr => (ih r hr).2
        have a3 := he q' (by omega)
        omega
      · exact ih q' (by omega)
  have k := key m (Nat.le_refl _)
  exact Int.le_trans (h1 m hm fun r hr => (k r hr).1) (h2 m hm fun r hr => (k r hr).2)
theorem lx_cat_eq {f g : Nat → Int} {K N : Nat} (h : ∀ m, m < K → f m = g m) : LxLe f g (K + N) ↔ LxLe (fun m => f (K + m)) (fun m => g (K + m)) N := by
  constructor
  · intro hl m hm he
    refine hl (K + m) (by omega) fun q hq => ?_
    rcases Nat.lt_or_ge q K with h1 | h1
    · exact h q h1
    · have := he (q - K) (by omega)
      simp only at this
      rwa [show K + (q - K) = q by omega] at this
  · intro hl m hm he
    rcases Nat.lt_or_ge m K with h1 | h1
    · rw [h m h1]; exact Int.le_refl _
    · have := hl (m - K) (by omega) fun q hq => he (K + q) (by omega)
      simp only at this
      rwa [show K + (m - K) = m by omega] at this
theorem lx_cat_ne {f g : Nat → Int} {K N : Nat} (h : ¬ ∀ m, m < K → f m = g m) : LxLe f g (K + N) ↔ LxLe f g K := by
  constructor
  · exact fun hl m hm he => hl m (by omega) he
  · intro hl m hm he
    rcases Nat.lt_or_ge m K with h1 | h1
    · exact hl m h1 he
    · exact absurd (fun q hq => he q (by omega)) h
theorem dfJ_iff {x y : Nat → Int} : ∀ (n j : Nat), (dfJ x y j n = 0 ↔ ∀ m, m < n → x (j + m) = y (j + m)) ∧ (dfJ x y j n ≤ 0 ↔ LxLe (fun m => x (j + m)) (fun m => y (j + m)) n)
  | 0, j => ⟨⟨fun _ m hm => by omega, fun _ => rfl⟩, ⟨fun _ m hm => by omega, fun _ => by simp [dfJ]⟩⟩
  | n + 1, j => by
    obtain ⟨i1, i2⟩ := @dfJ_iff x y n (j + 1)
    unfold dfJ
    by_cases h : x j = y j
    · rw [if_neg (by omega)]
      have hs : ∀ (z : Nat → Int) m, z (j + 1 + m) = z (j + (1 + m)) := fun z m => by rw [Nat.add_assoc]
      refine ⟨i1.trans ⟨fun k m hm => ?_, fun k m hm => ?_⟩, i2.trans ?_⟩
      · cases m with
        | zero => exact h
        | succ m => have := k m (by omega); rwa [show j + 1 + m = j + (m + 1) by omega] at this
      · have := k (m + 1) (by omega); rwa [show j + (m + 1) = j + 1 + m by omega] at this
      · rw [show n + 1 = 1 + n by omega, lx_cat_eq (K := 1) (f := fun m => x (j + m)) (g := fun m => y (j + m)) (fun m hm => by obtain rfl : m = 0 := by omega
                                                                                                                                exact h)]
        simp only [Nat.add_assoc]
    · rw [if_pos h]
      refine ⟨⟨fun k => absurd (by omega) h, fun k => absurd (k 0 (by omega)) h⟩, ⟨fun k m hm he => ?_, fun k => ?_⟩⟩
      · cases m with
        | zero => simp only [Nat.add_zero]; omega
        | succ m => exact absurd (he 0 (by omega)) h
      · have := k 0 (by omega) fun q hq => by omega
        simp only [Nat.add_zero] at this
        omega
def Fl (d : Dr) (a : Pl) (m : Nat) : Int := if m % 4 < a (m / 4) then d (m / 4) (m % 4) else 0
theorem row_iff {d e : Dr} {a : Pl} {i : Nat} (h4 : a i ≤ 4) : (dfJ (d i) (e i) 0 (a i) = 0 ↔ ∀ m, m < 4 → Fl d a (4 * i + m) = Fl e a (4 * i + m)) ∧
    (dfJ (d i) (e i) 0 (a i) ≤ 0 ↔ LxLe (fun m => Fl d a (4 * i + m)) (fun m => Fl e a (4 * i + m)) 4) := by
  obtain ⟨h1, h2⟩ := dfJ_iff (x := d i) (y := e i) (a i) 0
  have hF : ∀ (x : Dr) m, m < 4 → Fl x a (4 * i + m) = if m < a i then x i m else 0 := fun x m hm => by
    unfold Fl
    rw [show (4 * i + m) / 4 = i by omega, show (4 * i + m) % 4 = m by omega]
  refine ⟨h1.trans ⟨fun k m hm => ?_, fun k m hm => ?_⟩, h2.trans ⟨fun k m hm he => ?_, fun k m hm he => ?_⟩⟩
  · rw [hF d m hm, hF e m hm]; split
    · rename_i q; have := k m q; simpa using this
    · rfl
  · have := k m (by omega); rw [hF d m (by omega), hF e m (by omega), if_pos hm, if_pos hm] at this; simpa using this
  · simp only [hF d m hm, hF e m hm]
    split
    · rename_i q
      have := k m q fun r hr => by
        have := he r hr
        simp only [hF d r (by omega), hF e r (by omega), if_pos (show r < a i by omega)] at this
        simpa using this
      simpa using this
    · exact Int.le_refl _
  · have := k m (by omega) fun r hr => by
      have := he r hr
      simp only [Nat.zero_add] at this
      simp only [hF d r (by omega), hF e r (by omega), if_pos (show r < a i by omega)]
      exact this
    simp only [hF d m (by omega), hF e m (by omega), if_pos hm] at this
    simpa using this
theorem dfN_iff {d e : Dr} {a : Pl} : ∀ (n i : Nat), (∀ k, i ≤ k → k < i + n → a k ≤ 4) → (dfN d e a i n ≤ 0 ↔ LxLe (fun m => Fl d a (4 * i + m)) (fun m => Fl e a (4 * i + m)) (4 * n))
  | 0, i, _ => ⟨fun _ m hm => by omega, fun _ => by simp [dfN]⟩
  | n + 1, i, h4 => by
    have ih := @dfN_iff d e a n (i + 1) fun k h1 h2 => h4 k (by omega) (by omega)
    obtain ⟨r1, r2⟩ := row_iff (d := d) (e := e) (h4 i (by omega) (by omega))
    unfold dfN
    rw [show 4 * (n + 1) = 4 + 4 * n by omega]
    by_cases h : dfJ (d i) (e i) 0 (a i) = 0
    · rw [if_neg (by omega), lx_cat_eq (r1.1 h), ih]
      have : ∀ m, 4 * (i + 1) + m = 4 * i + (4 + m) := fun m => by omega
      simp only [this]
    · rw [if_pos h, lx_cat_ne (mt r1.2 h)]
      exact r2
theorem cm_iff {tr : List Trip} {d e : Dr} {a : Pl} (h4 : ∀ k, k < tr.length → a k ≤ 4) : cmD tr d e a ≤ 0 ↔ coD tr d a < coD tr e a ∨ (coD tr d a = coD tr e a ∧ LxLe (Fl d a) (Fl e a) (4 * tr.length)) := by
  unfold cmD
  have := dfN_iff (d := d) (e := e) (a := a) tr.length 0 fun k _ h => h4 k (by omega)
  simp only [Nat.mul_zero, Nat.zero_add] at this
  split
  · omega
  · rw [this]
    constructor
    · intro h; exact .inr ⟨by omega, h⟩
    · rintro (h | ⟨_, h⟩)
      · omega
      · exact h
theorem dfJ_neg {x y : Nat → Int} : ∀ (n j : Nat), dfJ y x j n = - dfJ x y j n
  | 0, j => rfl
  | n + 1, j => by
    unfold dfJ
    rw [dfJ_neg n (j + 1)]
    split <;> split <;> omega
theorem dfN_neg {d e : Dr} {a : Pl} : ∀ (n i : Nat), dfN e d a i n = - dfN d e a i n
  | 0, i => rfl
  | n + 1, i => by
    unfold dfN
    rw [dfN_neg n (i + 1), dfJ_neg (x := d i) (y := e i)]
    split <;> split <;> omega
theorem cmD_neg (tr : List Trip) (d e : Dr) (a : Pl) : cmD tr e d a = - cmD tr d e a := by
  unfold cmD
  rw [dfN_neg]
  split <;> split <;> omega
theorem cm_trans {tr : List Trip} {d e f : Dr} {a : Pl} (h4 : ∀ k, k < tr.length → a k ≤ 4) (h1 : cmD tr d e a ≤ 0) (h2 : cmD tr e f a ≤ 0) : cmD tr d f a ≤ 0 := by
  rw [cm_iff h4] at *
  rcases h1 with h1 | ⟨h1, h1'⟩ <;> rcases h2 with h2 | ⟨h2, h2'⟩
  · left; omega
  · left; omega
  · left; omega
  · right; exact ⟨by omega, h1'.trans h2'⟩
theorem cm_refl (tr : List Trip) (d : Dr) (a : Pl) : cmD tr d d a ≤ 0 := by have := cmD_neg tr d d a; omega
/-! ## Cost -/
section
variable {tr : List Trip}
theorem coJ_mono (ho : Ok tr) {d e : Dr} {i : Nat} (hi : i < tr.length) : ∀ j, j ≤ (tr.getD i default).fStops.length → (∀ q, q < j → d i q ≤ e i q) → coJ tr d i j ≤ coJ tr e i j
  | 0, _, _ => Int.le_refl _
  | j + 1, hj, h => by
    have h1 := coJ_mono ho hi j (by omega) fun q hq => h q (by omega)
    have h2 := (ho.s i j hi (by omega)).2.2
    have h3 := h j (by omega)
    have : weN tr i j * (d i j - duN tr i j) ≤ weN tr i j * (e i j - duN tr i j) := Int.mul_le_mul_of_nonneg_left (by omega) (by unfold weN; omega)
    simp only [coJ]
    omega
theorem coN_mono (ho : Ok tr) {d e : Dr} {a : Pl} (ha : Pk tr a) : ∀ i, i ≤ tr.length → (∀ p q, p < i → q < a p → d p q ≤ e p q) → coN tr d a i ≤ coN tr e a i
  | 0, _, _ => Int.le_refl _
  | i + 1, hi, h => by
    have h1 := coN_mono ho ha i (by omega) fun p q hp hq => h p q (by omega) hq
    have h2 := coJ_mono ho (d := d) (e := e) (i := i) (by omega) (a i) (ha i (by omega)) fun q hq => h i q (by omega) hq
    simp only [coN]; omega
theorem coD_mono (ho : Ok tr) {d e : Dr} {a : Pl} (ha : Pk tr a) (h : ∀ p q, p < tr.length → q < a p → d p q ≤ e p q) : coD tr d a ≤ coD tr e a := coN_mono ho ha _ (Nat.le_refl _) h
theorem coJ_congr {d e : Dr} {i : Nat} : ∀ j, (∀ q, q < j → d i q = e i q) → coJ tr d i j = coJ tr e i j
  | 0, _ => rfl
  | j + 1, h => by simp only [coJ]; rw [coJ_congr j fun q hq => h q (by omega), h j (by omega)]
theorem coN_congr {d e : Dr} {a : Pl} : ∀ i, (∀ p q, p < i → q < a p → d p q = e p q) → coN tr d a i = coN tr e a i
  | 0, _ => rfl
  | i + 1, h => by simp only [coN]; rw [coN_congr i fun p q hp hq => h p q (by omega) hq, coJ_congr _ fun q hq => h i q (by omega) hq]
theorem coN_up {d : Dr} {a : Pl} {i : Nat} : ∀ p, coN tr d (upA a i (a i + 1)) p = coN tr d a p + if i < p then weN tr i (a i) * (d i (a i) - duN tr i (a i)) else 0
  | 0 => by simp [coN]
  | p + 1 => by
    simp only [coN]
    rw [coN_up p]
    by_cases h : p = i
    · subst h
      rw [if_neg (by omega), if_pos (by omega)]
      simp only [upA, if_pos, coJ]
      omega
    · rw [show upA a i (a i + 1) p = a p by simp [upA, h]]
      by_cases h2 : i < p
      · rw [if_pos h2, if_pos (by omega)]; omega
      · rw [if_neg h2, if_neg (by omega)]; omega
theorem coD_up {d : Dr} {a : Pl} {i : Nat} (hi : i < tr.length) : coD tr d (upA a i (a i + 1)) = coD tr d a + weN tr i (a i) * (d i (a i) - duN tr i (a i)) := by
  unfold coD; rw [coN_up, if_pos hi]
end
/-! ## What place keeps -/
section
variable {tr : List Trip} {c : Cl} {d e : Dr} {a : Pl} {i k m : Nat}
theorem pl_self : plD tr c d a i i m = d i m := by unfold plD; rw [if_neg (by simp)]
theorem pl_lo (h : m < a k) : plD tr c d a i k m = d k m := by
  unfold plD; split
  · exact plR_lo h
  · rfl
theorem plB0_ge : d k m ≤ plB0 tr c d a i k m := by unfold plB0; split <;> (try split) <;> omega
theorem pl_ge : d k m ≤ plD tr c d a i k m := by
  unfold plD; split
  · rcases Nat.lt_or_ge m (a k) with h | h
    · rw [plR_lo h]; exact Int.le_refl _
    · have := plB0_ge (tr := tr) (c := c) (d := d) (a := a) (i := i) (k := k) (m := m)
      rcases Nat.lt_or_ge (a k) m with h2 | h2
      · rw [plR_hi h2]; split <;> omega
      · rw [plR_at (by omega)]; exact this
  · exact Int.le_refl _
theorem plB0_mono (h1 : d i (a i) ≤ e i (a i)) (h2 : d k m ≤ e k m) : plB0 tr c d a i k m ≤ plB0 tr c e a i k m := by
  unfold plB0 plE; split
  · split <;> split <;> omega
  · exact h2
theorem plR_mono (h1 : d i (a i) ≤ e i (a i)) (h : ∀ m, a k ≤ m → m < (tr.getD k default).fStops.length → d k m ≤ e k m) : ∀ m, a k ≤ m → m < (tr.getD k default).fStops.length → plR tr c d a i k m ≤ plR tr c e a i k m := by
  intro m
  induction m with
  | zero => intro hm hl; rw [plR_at (by omega), plR_at (by omega)]; exact plB0_mono h1 (h 0 hm hl)
  | succ m ih =>
    intro hm hl
    have hb := plB0_mono (tr := tr) (c := c) h1 (h (m + 1) hm hl)
    rcases Nat.lt_or_ge (a k) (m + 1) with h2 | h2
    · rw [plR_hi h2, plR_hi h2]
      have := ih (by omega) (by omega)
      simp only [Nat.add_sub_cancel]
      split <;> split <;> omega
    · rw [plR_at (by omega), plR_at (by omega)]; exact hb
theorem pl_mono (h1 : d i (a i) ≤ e i (a i)) (h : ∀ k m, k < tr.length → a k ≤ m → m < (tr.getD k default).fStops.length → d k m ≤ e k m) (hk : k < tr.length) (hm : upA a i (a i + 1) k ≤ m) (hl : m < (tr.getD k default).fStops.length) : plD tr c d a i k m ≤ plD tr c e a i k m := by
  by_cases hki : k = i
  · subst hki
    rw [pl_self, pl_self]
    simp only [upA, if_pos] at hm
    exact h k m hk (by omega) hl
  · rw [show upA a i (a i + 1) k = a k by simp [upA, hki]] at hm
    unfold plD
    rw [if_pos ⟨hki, hk, hl⟩, if_pos ⟨hki, hk, hl⟩]
    exact plR_mono h1 (fun m h2 h3 => h k m hk h2 h3) m hm hl
theorem pl_placed (hm : m < upA a i (a i + 1) k) : plD tr c d a i k m = d k m := by
  by_cases hki : k = i
  · subst hki; exact pl_self
  · rw [show upA a i (a i + 1) k = a k by simp [upA, hki]] at hm
    exact pl_lo hm
theorem coD_pl (hi : i < tr.length) : coD tr (plD tr c d a i) (upA a i (a i + 1)) = coD tr d a + weN tr i (a i) * (d i (a i) - duN tr i (a i)) := by
  rw [← coD_up hi]
  exact coN_congr _ fun p q hp hq => pl_placed hq
theorem Fl_pl (m : Nat) : Fl (plD tr c d a i) (upA a i (a i + 1)) m = if m / 4 = i ∧ m % 4 = a i then d i (a i) else Fl d a m := by
  unfold Fl
  by_cases h : m / 4 = i
  · by_cases h2 : m % 4 = a i
    · rw [if_pos (c := m / 4 = i ∧ m % 4 = a i) ⟨h, h2⟩, if_pos (by rw [h, h2]; simp [upA]), h, h2, pl_self]
    · rw [if_neg (c := m / 4 = i ∧ m % 4 = a i) (fun q => h2 q.2), h]
      simp only [upA, if_pos, pl_self]
      by_cases h3 : m % 4 < a i
      · rw [if_pos h3, if_pos (by omega)]
      · rw [if_neg h3, if_neg (by omega)]
  · rw [if_neg (c := m / 4 = i ∧ m % 4 = a i) (fun q => h q.1)]
    simp only [upA, if_neg h]
    split
    · rename_i h3; exact pl_lo h3
    · rfl
theorem cm_pl (ho : Ok tr) (hi : i < tr.length) (hai : a i < (tr.getD i default).fStops.length) (h4 : ∀ k, k < tr.length → a k ≤ 4) (h1 : d i (a i) ≤ e i (a i)) (h : cmD tr d e a ≤ 0) : cmD tr (plD tr c d a i) (plD tr c e a i) (upA a i (a i + 1)) ≤ 0 := by
  have hw := (ho.s i (a i) hi hai).2.2
  have hl := ho.l i hi
  have h4' : ∀ k, k < tr.length → upA a i (a i + 1) k ≤ 4 := fun k hk => by
    unfold upA; split
    · omega
    · exact h4 k hk
  rw [cm_iff h4] at h
  rw [cm_iff h4', coD_pl hi, coD_pl hi]
  have hmul : weN tr i (a i) * (d i (a i) - duN tr i (a i)) ≤ weN tr i (a i) * (e i (a i) - duN tr i (a i)) := Int.mul_le_mul_of_nonneg_left (by omega) (by unfold weN; omega)
  rcases h with h | ⟨h, hx⟩
  · left; omega
  · rcases Int.lt_or_le (weN tr i (a i) * (d i (a i) - duN tr i (a i))) (weN tr i (a i) * (e i (a i) - duN tr i (a i))) with q | q
    · left; omega
    · right
      refine ⟨by omega, fun m hm he => ?_⟩
      rw [Fl_pl, Fl_pl]
      split
      · exact h1
      · refine hx m hm fun r hr => ?_
        have := he r hr
        rw [Fl_pl, Fl_pl] at this
        split at this
        · rename_i q2
          unfold Fl
          rw [q2.1, q2.2, if_neg (by omega), if_neg (by omega)]
        · exact this
def Cv (tr : List Trip) (d e : Dr) (a : Pl) : Prop := (∀ k m, k < tr.length → a k ≤ m → m < (tr.getD k default).fStops.length → d k m ≤ e k m) ∧ cmD tr d e a ≤ 0
theorem cv_iff : cvB tr d e a = true ↔ Cv tr d e a := by
  unfold cvB Cv
  rw [Bool.and_eq_true, decide_eq_true_eq, List.all_eq_true]
  refine and_congr ⟨fun h k m hk h1 h2 => ?_, fun h k hk => ?_⟩ Iff.rfl
  · have := h k (by simpa using hk)
    unfold cvI at this
    rw [List.all_eq_true] at this
    have := this m (by simpa using h2)
    unfold cvJ at this
    exact of_decide_eq_true this h1
  · unfold cvI
    rw [List.all_eq_true]
    intro m hm
    exact decide_eq_true fun h1 => h k m (by simpa using hk) h1 (by simpa using hm)
theorem Cv.place (ho : Ok tr) (hi : i < tr.length) (hai : a i < (tr.getD i default).fStops.length) (h4 : ∀ k, k < tr.length → a k ≤ 4) (h : Cv tr d e a) : Cv tr (plD tr c d a i) (plD tr c e a i) (upA a i (a i + 1)) :=
  have h1 := h.1 i (a i) hi (Nat.le_refl _) hai
  ⟨fun k m hk hm hl => pl_mono h1 h.1 hk hm hl, cm_pl ho hi hai h4 h1 h.2⟩
inductive Cp (tr : List Trip) (c : Cl) : Pl → Dr → Dr → Prop
  | e (d : Dr) : Cp tr c (enA tr) d d
  | s {a : Pl} {d f : Dr} (i : Nat) (hi : i < tr.length) (ha : a i < (tr.getD i default).fStops.length) (h : Cp tr c (upA a i (a i + 1)) (plD tr c d a i) f) : Cp tr c a d f
theorem Cp.full {f : Dr} (h : Cp tr c a d f) : Rch tr c a d → Full tr c f := by
  induction h with
  | e d => exact id
  | s i hi ha h ih => exact fun hr => ih (.s hr hi ha)
theorem Cp.ge {f : Dr} (h : Cp tr c a d f) : ∀ k m, d k m ≤ f k m := by
  induction h with
  | e d => exact fun _ _ => Int.le_refl _
  | s i hi ha h ih => exact fun k m => Int.le_trans pl_ge (ih k m)
theorem en4 (ho : Ok tr) : ∀ k, k < tr.length → enA tr k ≤ 4 := fun k hk => by unfold enA; rw [if_pos hk]; exact (ho.l k hk).2
theorem up4 (ho : Ok tr) (h4 : ∀ k, k < tr.length → a k ≤ 4) (hi : i < tr.length) (hai : a i < (tr.getD i default).fStops.length) : ∀ k, k < tr.length → upA a i (a i + 1) k ≤ 4 := fun k hk => by
  have := ho.l i hi
  unfold upA; split
  · omega
  · exact h4 k hk
theorem Cv.comp (ho : Ok tr) {g : Dr} (h : Cp tr c a e g) : (∀ k, k < tr.length → a k ≤ 4) → ∀ d, Cv tr d e a → ∃ f, Cp tr c a d f ∧ cmD tr f g (enA tr) ≤ 0 := by
  induction h with
  | e e => exact fun _ d hc => ⟨d, .e d, hc.2⟩
  | s i hi ha h ih =>
    intro h4 d hc
    obtain ⟨f, h1, h2⟩ := ih (up4 ho h4 hi ha) _ (hc.place (c := c) ho hi ha h4)
    exact ⟨f, .s i hi ha h1, h2⟩
theorem le_cm (ho : Ok tr) {f : Dr} (h : ∀ k m, k < tr.length → m < (tr.getD k default).fStops.length → d k m ≤ f k m) : cmD tr d f (enA tr) ≤ 0 := by
  have hin : ∀ p q, p < tr.length → q < enA tr p → d p q ≤ f p q := fun p q hp hq => by
    unfold enA at hq; rw [if_pos hp] at hq; exact h p q hp hq
  rw [cm_iff (en4 ho)]
  have h1 := coD_mono ho (pk_en tr) hin
  rcases Int.lt_or_le (coD tr d (enA tr)) (coD tr f (enA tr)) with q | q
  · exact .inl q
  · right
    refine ⟨by omega, .of_le fun m hm => ?_⟩
    unfold Fl
    split
    · rename_i h2; exact hin _ _ (by omega) h2
    · exact Int.le_refl _
theorem Cp.cm (ho : Ok tr) {f : Dr} (h : Cp tr c a d f) : cmD tr d f (enA tr) ≤ 0 := le_cm ho fun k m _ _ => h.ge k m
end
end Go.Sg
set_option linter.unusedVariables false
set_option linter.unusedSimpArgs false
namespace Go.Sg
open Go.Proofs
section
variable {tr : List Trip} {c : Cl}
/-! ## The order in which the places are visited -/
def Gt (tr : List Trip) (a b : Pl) : Prop := ∃ p, p < tr.length ∧ b p < a p ∧ ∀ q, q < p → a q = b q
def Ge (tr : List Trip) (a b : Pl) : Prop := a = b ∨ Gt tr a b
def Vp (tr : List Trip) (a : Pl) : Prop := (∀ i, i < tr.length → a i ≤ (tr.getD i default).fStops.length) ∧ ∀ i, tr.length ≤ i → a i = 0
theorem Rch.vp (ho : Ok tr) {a : Pl} {d : Dr} (h : Rch tr c a d) : Vp tr a := h.pk ho
theorem Gt.up {a b : Pl} {i : Nat} (hi : i < tr.length) (h : Ge tr a b) : Gt tr (upA a i (a i + 1)) b := by
  rcases h with rfl | ⟨p, h1, h2, h3⟩
  · exact ⟨i, hi, by simp [upA], fun q hq => by simp [upA, show q ≠ i by omega]⟩
  · rcases Nat.lt_or_ge i p with h | h
    · exact ⟨i, hi, by have := h3 i h; simp [upA]; omega, fun q hq => by rw [show upA a i (a i + 1) q = a q by simp [upA, show q ≠ i by omega]]; exact h3 q (by omega)⟩
    · refine ⟨p, h1, ?_, fun q hq => by rw [show upA a i (a i + 1) q = a q by simp [upA, show q ≠ i by omega]]; exact h3 q hq⟩
      unfold upA; split
      · rename_i e; subst e; omega
      · exact h2
def zrA (a : Pl) (i : Nat) : Pl := fun q => if i ≤ q then 0 else a q
def nxA (a : Pl) (i : Nat) : Pl := upA (zrA a (i + 1)) i (a i + 1)
theorem ge_next {a b : Pl} {i : Nat} (hi : i < tr.length) (ha : Vp tr a) (hb : Vp tr b) (hf : ∀ q, i < q → q < tr.length → b q = (tr.getD q default).fStops.length) (h : Gt tr a b) : Ge tr a (nxA b i) := by
  obtain ⟨p, h1, h2, h3⟩ := h
  have hnx : ∀ q, nxA b i q = if q = i then b i + 1 else if i < q then 0 else b q := fun q => by
    unfold nxA upA zrA
    by_cases e : q = i
    · rw [if_pos e, if_pos e]
    · rw [if_neg e, if_neg e]
      by_cases e2 : i < q
      · rw [if_pos (by omega), if_pos e2]
      · rw [if_neg (by omega), if_neg e2]
  have hp : p ≤ i := by
    rcases Nat.lt_or_ge i p with h | h
    · have := hf p h h1; have := ha.1 p h1; omega
    · exact h
  rcases Nat.lt_or_ge p i with h | h
  · exact .inr ⟨p, h1, by rw [hnx, if_neg (by omega), if_neg (by omega)]; exact h2, fun q hq => by rw [hnx, if_neg (by omega), if_neg (by omega)]; exact h3 q hq⟩
  · obtain rfl : p = i := by omega
    by_cases he : ∀ q, p ≤ q → a q = nxA b p q
    · left; funext q
      rcases Nat.lt_or_ge q p with h4 | h4
      · rw [hnx, if_neg (by omega), if_neg (by omega)]; exact h3 q h4
      · exact he q h4
    · right
      obtain ⟨q0, h4, h5⟩ : ∃ q, p ≤ q ∧ a q ≠ nxA b p q := by
        refine Classical.byContradiction fun hn => he fun q hq => Classical.byContradiction fun h => hn ⟨q, hq, h⟩
      have : ∀ N q, q ≤ N → p ≤ q → a q ≠ nxA b p q → ∃ r, p ≤ r ∧ a r ≠ nxA b p r ∧ ∀ s, p ≤ s → s < r → a s = nxA b p s := by
        intro N
        induction N with
        | zero => intro q h1 h2 h3; exact ⟨q, h2, h3, fun s _ hs => by omega⟩
        | succ N ih =>
          intro q h1 h2 h3
          by_cases hx : ∃ s, p ≤ s ∧ s < q ∧ a s ≠ nxA b p s
          · obtain ⟨s, k1, k2, k3⟩ := hx
            exact ih s (by omega) k1 k3
          · exact ⟨q, h2, h3, fun s k1 k2 => Classical.byContradiction fun k3 => hx ⟨s, k1, k2, k3⟩⟩
      obtain ⟨r, k1, k2, k3⟩ := this q0 q0 (Nat.le_refl _) h4 h5
      have hrn : r < tr.length := by
        rcases Nat.lt_or_ge r tr.length with g | g
        · exact g
        · exact absurd (by rw [ha.2 r g, hnx, if_neg (by omega), if_pos (by omega)]) k2
      refine ⟨r, hrn, ?_, fun s hs => ?_⟩
      · by_cases e : r = p
        · subst e
          have : nxA b r r = b r + 1 := by rw [hnx, if_pos rfl]
          omega
        · have : nxA b p r = 0 := by rw [hnx, if_neg e, if_pos (by omega)]
          omega
      · rcases Nat.lt_or_ge s p with g | g
        · rw [hnx, if_neg (by omega), if_neg (by omega)]; exact h3 s g
        · exact k3 s g hs
theorem gt_none {a b : Pl} (ha : Vp tr a) (hf : ∀ q, q < tr.length → b q = (tr.getD q default).fStops.length) : ¬ Gt tr a b := by
  rintro ⟨p, h1, h2, _⟩
  have := ha.1 p h1; have := hf p h1; omega
theorem vp_next (ho : Ok tr) {b : Pl} {i : Nat} (hi : i < tr.length) (hb : Vp tr b) (h : b i ≠ (tr.getD i default).fStops.length) : Vp tr (nxA b i) := by
  refine ⟨fun q hq => ?_, fun q hq => ?_⟩
  · unfold nxA upA zrA
    split
    · rename_i e; subst e; have := hb.1 q hq; omega
    · split
      · omega
      · exact hb.1 q hq
  · unfold nxA upA zrA
    rw [if_neg (by omega)]
    split
    · rfl
    · exact hb.2 q hq
/-! ## What is pending -/
def Cov (tr : List Trip) (c : Cl) (Pd : Pl → Dr → Prop) (best f : Dr) : Prop :=
  cmD tr best f (enA tr) ≤ 0 ∨ ∃ a d f', Pd a d ∧ Cp tr c a d f' ∧ cmD tr f' f (enA tr) ≤ 0
theorem Cov.to (ho : Ok tr) {Pd Pd' : Pl → Dr → Prop} {best best' f : Dr} (hb : cmD tr best' best (enA tr) ≤ 0)
    (h : ∀ a d f', Pd a d → Cp tr c a d f' → cmD tr best' f' (enA tr) ≤ 0 ∨ ∃ a' d' f'', Pd' a' d' ∧ Cp tr c a' d' f'' ∧ cmD tr f'' f' (enA tr) ≤ 0) (hc : Cov tr c Pd best f) : Cov tr c Pd' best' f := by
  rcases hc with h1 | ⟨a, d, f', h1, h2, h3⟩
  · exact .inl (cm_trans (en4 ho) hb h1)
  · rcases h a d f' h1 h2 with h4 | ⟨a', d', f'', h4, h5, h6⟩
    · exact .inl (cm_trans (en4 ho) h4 h3)
    · exact .inr ⟨a', d', f'', h4, h5, cm_trans (en4 ho) h6 h3⟩
def Cvs (tr : List Trip) (c : Cl) (Pd : Pl → Dr → Prop) (best : Dr) : Prop := ∀ f, Full tr c f → Cov tr c Pd best f
theorem cp_begin {a : Pl} {d : Dr} (h : Rch tr c a d) : ∀ f, Cp tr c a d f → Cp tr c (fun _ => 0) (bgD tr) f := by
  induction h with
  | b => exact fun f h => h
  | s h hi ha ih => exact fun f h2 => ih f (.s _ hi ha h2)
theorem cvs_begin {Pd : Pl → Dr → Prop} (h : Pd (fun _ => 0) (bgD tr)) (best : Dr) : Cvs tr c Pd best := fun f hf =>
  .inr ⟨_, _, f, h, cp_begin hf f (.e f), cm_refl tr f _⟩
theorem cvs_end {best : Dr} (h : Cvs tr c (fun _ _ => False) best) {f : Dr} (hf : Full tr c f) : cmD tr best f (enA tr) ≤ 0 := by
  rcases h f hf with h | ⟨_, _, _, h, _⟩
  · exact h
  · exact h.elim
theorem Cvs.sub {Pd Pd' : Pl → Dr → Prop} {best : Dr} (ho : Ok tr) (h : Cvs tr c Pd best) (hs : ∀ a d, Pd a d → Pd' a d) : Cvs tr c Pd' best := fun f hf =>
  (h f hf).to ho (cm_refl tr _ _) fun a d f' h1 h2 => .inr ⟨a, d, f', hs a d h1, h2, cm_refl tr _ _⟩
def Nx (tr : List Trip) (c : Cl) (at_ : Pl) (d : Dr) (i : Nat) (a : Pl) (e : Dr) : Prop := ∃ k, i ≤ k ∧ k < tr.length ∧ at_ k < (tr.getD k default).fStops.length ∧ a = upA at_ k (at_ k + 1) ∧ e = plD tr c d at_ k
theorem al_iff {a : Pl} : alB tr a = true ↔ ∀ i, i < tr.length → (tr.getD i default).fStops.length ≤ a i := by
  unfold alB; rw [List.all_eq_true]
  exact ⟨fun h i hi => of_decide_eq_true (h i (by simpa using hi)), fun h i hi => decide_eq_true (h i (by simpa using hi))⟩
theorem cvs_take (ho : Ok tr) {Pd : Pl → Dr → Prop} {at_ : Pl} {d best : Dr} (hr : Rch tr c at_ d) (h : Cvs tr c (fun a e => Pd a e ∨ (a = at_ ∧ e = d)) best) :
    Cvs tr c (fun a e => Pd a e ∨ Nx tr c at_ d 0 a e) (if alB tr at_ = true ∧ beB tr d best = true then d else best) := by
  have hle : cmD tr (if alB tr at_ = true ∧ beB tr d best = true then d else best) best (enA tr) ≤ 0 := by
    split
    · rename_i q; have := of_decide_eq_true q.2; omega
    · exact cm_refl tr _ _
  intro f hf
  refine (h f hf).to ho hle fun a e f' h1 h2 => ?_
  rcases h1 with h1 | ⟨rfl, rfl⟩
  · exact .inr ⟨a, e, f', .inl h1, h2, cm_refl tr _ _⟩
  · cases h2 with
    | e d =>
      left
      split
      · exact cm_refl tr _ _
      · rename_i q
        have hal : alB tr (enA tr) = true := al_iff.2 fun i hi => by unfold enA; rw [if_pos hi]; exact Nat.le_refl _
        have : ¬ beB tr e best = true := fun g => q ⟨hal, g⟩
        unfold beB at this
        have := cmD_neg tr e best (enA tr)
        simp only [decide_eq_true_eq] at *
        omega
    | s i hi ha h => exact .inr ⟨_, _, f', .inr ⟨i, Nat.zero_le _, hi, ha, rfl, rfl⟩, h, cm_refl tr _ _⟩
theorem cvs_skip (ho : Ok tr) {Pd : Pl → Dr → Prop} {at_ : Pl} {d best : Dr} {i : Nat} (he : at_ i = (tr.getD i default).fStops.length) (h : Cvs tr c (fun a e => Pd a e ∨ Nx tr c at_ d i a e) best) :
    Cvs tr c (fun a e => Pd a e ∨ Nx tr c at_ d (i + 1) a e) best :=
  h.sub ho fun a e h1 => h1.imp id fun ⟨k, k1, k2, k3, k4, k5⟩ => by
    have : k ≠ i := fun e => by subst e; omega
    exact ⟨k, by omega, k2, k3, k4, k5⟩
theorem cvs_prune (ho : Ok tr) {Pd : Pl → Dr → Prop} {at_ : Pl} {d best known : Dr} {i : Nat} (hk : cmD tr best known (enA tr) ≤ 0) (hb : beB tr known (plD tr c d at_ i) = true) (h : Cvs tr c (fun a e => Pd a e ∨ Nx tr c at_ d i a e) best) :
    Cvs tr c (fun a e => Pd a e ∨ Nx tr c at_ d (i + 1) a e) best := fun f hf =>
  (h f hf).to ho (cm_refl tr _ _) fun a e f' h1 h2 => by
    rcases h1 with h1 | ⟨k, k1, k2, k3, k4, k5⟩
    · exact .inr ⟨a, e, f', .inl h1, h2, cm_refl tr _ _⟩
    · by_cases hki : k = i
      · subst hki
        left
        have q1 := of_decide_eq_true hb
        have q2 := h2.cm ho
        subst k5
        exact cm_trans (en4 ho) hk (cm_trans (en4 ho) (by omega) q2)
      · exact .inr ⟨a, e, f', .inr ⟨k, by omega, k2, k3, k4, k5⟩, h2, cm_refl tr _ _⟩
theorem Cv.refl {d : Dr} {a : Pl} : Cv tr d d a := ⟨fun _ _ _ _ _ => Int.le_refl _, cm_refl tr _ _⟩
theorem cvs_add (ho : Ok tr) {Pd Pd' : Pl → Dr → Prop} {at_ : Pl} {d best : Dr} {i : Nat} (h4 : ∀ k, k < tr.length → at_ k ≤ 4)
    (h : Cvs tr c (fun a e => Pd a e ∨ Nx tr c at_ d i a e) best) (hP : ∀ a e, Pd a e → (∀ k, k < tr.length → a k ≤ 4))
    (hs : ∀ a e, Pd a e → ∃ y, Pd' a y ∧ Cv tr y e a) (hn : i < tr.length → at_ i < (tr.getD i default).fStops.length → ∃ y, Pd' (upA at_ i (at_ i + 1)) y ∧ Cv tr y (plD tr c d at_ i) (upA at_ i (at_ i + 1))) :
    Cvs tr c (fun a e => Pd' a e ∨ Nx tr c at_ d (i + 1) a e) best := fun f hf =>
  (h f hf).to ho (cm_refl tr _ _) fun a e f' h1 h2 => by
    rcases h1 with h1 | ⟨k, k1, k2, k3, k4, k5⟩
    · obtain ⟨y, y1, y2⟩ := hs a e h1
      obtain ⟨g, g1, g2⟩ := Cv.comp ho h2 (hP a e h1) y y2
      exact .inr ⟨a, y, g, .inl y1, g1, g2⟩
    · by_cases hki : k = i
      · subst hki; subst k4; subst k5
        obtain ⟨y, y1, y2⟩ := hn k2 k3
        obtain ⟨g, g1, g2⟩ := Cv.comp ho h2 (up4 ho h4 k2 k3) y y2
        exact .inr ⟨_, y, g, .inl y1, g1, g2⟩
      · exact .inr ⟨a, e, f', .inr ⟨k, by omega, k2, k3, k4, k5⟩, h2, cm_refl tr _ _⟩
theorem cvs_next (ho : Ok tr) {Pd : Pl → Dr → Prop} {at_ : Pl} {d best : Dr} {i : Nat} (hi : tr.length ≤ i) (h : Cvs tr c (fun a e => Pd a e ∨ Nx tr c at_ d i a e) best) : Cvs tr c Pd best :=
  h.sub ho fun a e h1 => h1.elim id fun ⟨k, k1, k2, _⟩ => absurd k1 (by omega)
def addF (tr : List Trip) (l : List Dr) (d : Dr) (a : Pl) : List Dr := if l.any (fun e => cvB tr e d a) then l else l.filter (fun e => !cvB tr d e a) ++ [d]
theorem addF_cv (l : List Dr) (d : Dr) (a : Pl) : (∀ e ∈ l, ∃ y, y ∈ addF tr l d a ∧ Cv tr y e a) ∧ ∃ y, y ∈ addF tr l d a ∧ Cv tr y d a := by
  unfold addF
  split
  · rename_i h
    obtain ⟨e, h1, h2⟩ := List.any_eq_true.1 h
    exact ⟨fun e he => ⟨e, he, .refl⟩, ⟨e, h1, cv_iff.1 h2⟩⟩
  · refine ⟨fun e he => ?_, ⟨d, by simp, .refl⟩⟩
    by_cases h : cvB tr d e a = true
    · exact ⟨d, by simp, cv_iff.1 h⟩
    · exact ⟨e, by simp [he, h], .refl⟩
theorem addF_mem {l : List Dr} {d e : Dr} {a : Pl} (h : e ∈ addF tr l d a) : e ∈ l ∨ e = d := by
  unfold addF at h
  split at h
  · exact .inl h
  · rw [List.mem_append] at h
    rcases h with h | h
    · exact .inl (List.mem_filter.1 h).1
    · exact .inr (by simpa using h)
/-! ## Least starts -/
def Ch (tr : List Trip) (d : Dr) : Prop := ∀ k m, k < tr.length → m < (tr.getD k default).fStops.length → duN tr k m ≤ d k m ∧ (0 < m → d k (m - 1) + ruN tr k (m - 1) ≤ d k m)
theorem ch_begin : Ch tr (bgD tr) := fun k m hk hm => by
  unfold bgD
  rw [if_pos ⟨hk, hm⟩, if_pos (show k < tr.length ∧ m - 1 < (tr.getD k default).fStops.length from ⟨hk, by omega⟩)]
  cases m with
  | zero => exact ⟨by simp [bgR], fun h => absurd h (by omega)⟩
  | succ m => simp only [bgR, Nat.add_sub_cancel]; omega
theorem ch_place {d : Dr} {a : Pl} {i : Nat} (h : Ch tr d) : Ch tr (plD tr c d a i) := fun k m hk hm => by
  obtain ⟨h1, h2⟩ := h k m hk hm
  refine ⟨Int.le_trans h1 pl_ge, fun h0 => ?_⟩
  have h2 := h2 h0
  rcases Nat.lt_or_ge (a k) m with q | q
  · by_cases hki : k = i
    · subst hki; rw [pl_self, pl_self]; exact h2
    · unfold plD
      rw [if_pos (show k ≠ i ∧ k < tr.length ∧ m - 1 < (tr.getD k default).fStops.length from ⟨hki, hk, by omega⟩), if_pos (show k ≠ i ∧ k < tr.length ∧ m < (tr.getD k default).fStops.length from ⟨hki, hk, hm⟩), plR_hi q]
      simp only [ruN]
      split <;> omega
  · rw [pl_lo (show m - 1 < a k by omega)]
    exact Int.le_trans h2 pl_ge
theorem Rch.ch {a : Pl} {d : Dr} (h : Rch tr c a d) : Ch tr d := by
  induction h with
  | b => exact ch_begin
  | s h hi ha ih => exact ch_place ih
/-! ## A full draft has no two conflicting stops at once -/
/-! ## Without conflicts nothing waits -/
/-! ## No feasible starts are better than a least full draft -/
end
end Go.Sg
