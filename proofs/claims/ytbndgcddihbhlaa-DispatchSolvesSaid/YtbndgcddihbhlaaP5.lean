/- The plain law of the reference's Solve: its search goes through all that the drafts can become, and keeps a least one. -/
import Derived.Test.YtbndgcddihbhlaaP4
import Derived.Test.YtbndgcddihbhlaaD13
set_option linter.unusedVariables false
set_option linter.unusedSimpArgs false
set_option maxRecDepth 8000
namespace Go.Sg
open Go.Proofs
section
variable {tr : List Trip} {c : Cl} {t : Table} {a : Pl} {d : Dr}
/-! ## The next start is the earliest one -/
def Wt (tr : List Trip) (c : Cl) (a : Pl) (d : Dr) (k m : Nat) (z : Int) : Prop :=
  duN tr k m ≤ z ∧ (0 < m → d k (m - 1) + ruN tr k (m - 1) ≤ z) ∧ ∀ x y, x < tr.length → x ≠ k → y < a x → c x y k m = true → d x y + ruN tr x y ≤ z
def LbP (tr : List Trip) (c : Cl) (a : Pl) (d : Dr) : Prop := ∀ k m, k < tr.length → a k ≤ m → m < (tr.getD k default).fStops.length → ∀ z, d k m ≤ z ↔ Wt tr c a d k m z
theorem lb_begin : LbP tr c (fun _ => 0) (bgD tr) := fun k m hk ha hm z => by
  have e : ∀ q, q < (tr.getD k default).fStops.length → bgD tr k q = bgR tr k q := fun q hq => by unfold bgD; rw [if_pos ⟨hk, hq⟩]
  unfold Wt
  cases m with
  | zero =>
    rw [e 0 hm]
    exact ⟨fun h => ⟨h, fun h => absurd h (Nat.lt_irrefl 0), fun x y _ _ h => (Nat.not_lt_zero y h).elim⟩, fun h => h.1⟩
  | succ m =>
    rw [e (m + 1) hm, Nat.add_sub_cancel, e m (by omega)]
    show max (duN tr k (m + 1)) (bgR tr k m + ruN tr k m) ≤ z ↔ _
    exact ⟨fun h => ⟨by omega, fun _ => by omega, fun x y _ _ h => (Nat.not_lt_zero y h).elim⟩, fun h => by have := h.2.1 (by omega); omega⟩
theorem lb_place {i : Nat} (hv : Vp tr a) (hi : i < tr.length) (hai : a i < (tr.getD i default).fStops.length) (h : LbP tr c a d) : LbP tr c (upA a i (a i + 1)) (plD tr c d a i) := fun k m hk hm hl z => by
  have hpl : ∀ x y, y < upA a i (a i + 1) x → plD tr c d a i x y = d x y := fun x y h => pl_placed h
  have hup : ∀ x y, y < upA a i (a i + 1) x ↔ (y < a x ∨ (x = i ∧ y = a i)) := fun x y => by
    unfold upA; split
    · rename_i e; subst e; omega
    · rename_i e; constructor
      · exact .inl
      · rintro (h | ⟨h, _⟩)
        · exact h
        · exact absurd h e
  have hset : ∀ z, (∀ x y, x < tr.length → x ≠ k → y < upA a i (a i + 1) x → c x y k m = true → plD tr c d a i x y + ruN tr x y ≤ z) ↔
      (∀ x y, x < tr.length → x ≠ k → y < a x → c x y k m = true → d x y + ruN tr x y ≤ z) ∧ (i ≠ k → c i (a i) k m = true → d i (a i) + ruN tr i (a i) ≤ z) := fun z => by
    constructor
    · intro g
      refine ⟨fun x y h1 h2 h3 h4 => ?_, fun h1 h2 => ?_⟩
      · have h3' := (hup x y).2 (.inl h3)
        have := g x y h1 h2 h3' h4
        rwa [hpl x y h3'] at this
      · have h3' := (hup i (a i)).2 (.inr ⟨rfl, rfl⟩)
        have := g i (a i) hi h1 h3' h2
        rwa [hpl i (a i) h3'] at this
    · rintro ⟨g1, g2⟩ x y h1 h2 h3 h4
      rw [hpl x y h3]
      rcases (hup x y).1 h3 with h5 | ⟨rfl, rfl⟩
      · exact g1 x y h1 h2 h5 h4
      · exact g2 h2 h4
  unfold Wt
  rw [hset z]
  by_cases hki : k = i
  · subst hki
    have hm' : a k + 1 ≤ m := by unfold upA at hm; rw [if_pos rfl] at hm; exact hm
    rw [pl_self, pl_self, h k m hk (by omega) hl z]
    unfold Wt
    exact ⟨fun ⟨h1, h2, h3⟩ => ⟨h1, h2, h3, fun h => absurd rfl h⟩, fun ⟨h1, h2, h3, _⟩ => ⟨h1, h2, h3⟩⟩
  · have hm' : a k ≤ m := by unfold upA at hm; rw [if_neg hki] at hm; exact hm
    have hik : i ≠ k := fun e => hki e.symm
    have hd := h k m hk hm' hl
    have e1 : plD tr c d a i k m = plR tr c d a i k m := by unfold plD; rw [if_pos ⟨hki, hk, hl⟩]
    have hB : ∀ z, plB0 tr c d a i k m ≤ z ↔ (d k m ≤ z ∧ (c i (a i) k m = true → d i (a i) + ruN tr i (a i) ≤ z)) := fun z => by
      cases hc : c i (a i) k m with
      | false => rw [b0_f hc]; exact ⟨fun h => ⟨h, fun h => by cases h⟩, fun h => h.1⟩
      | true =>
        rw [b0_t hc]
        show (if d k m < d i (a i) + ruN tr i (a i) then d i (a i) + ruN tr i (a i) else d k m) ≤ z ↔ _
        constructor
        · intro h; split at h <;> exact ⟨by omega, fun _ => by omega⟩
        · rintro ⟨h1, h2⟩; have := h2 rfl; split <;> omega
    rcases Nat.lt_or_ge (a k) m with q | q
    · have e2 : plD tr c d a i k (m - 1) = plR tr c d a i k (m - 1) := by unfold plD; rw [if_pos ⟨hki, hk, by omega⟩]
      have hge : d k (m - 1) ≤ plD tr c d a i k (m - 1) := pl_ge
      rw [e1, plR_hi q]
      show (if plB0 tr c d a i k m < plR tr c d a i k (m - 1) + ruN tr k (m - 1) then plR tr c d a i k (m - 1) + ruN tr k (m - 1) else plB0 tr c d a i k m) ≤ z ↔ _
      rw [← e2]
      have key : (if plB0 tr c d a i k m < plD tr c d a i k (m - 1) + ruN tr k (m - 1) then plD tr c d a i k (m - 1) + ruN tr k (m - 1) else plB0 tr c d a i k m) ≤ z ↔ (plB0 tr c d a i k m ≤ z ∧ plD tr c d a i k (m - 1) + ruN tr k (m - 1) ≤ z) := by
        constructor
        · intro h; split at h <;> constructor <;> omega
        · rintro ⟨h1, h2⟩; split <;> omega
      rw [key, hB z, hd z]
      unfold Wt
      constructor
      · rintro ⟨⟨⟨h1, h2, h3⟩, h4⟩, h5⟩
        exact ⟨h1, fun _ => h5, h3, fun _ => h4⟩
      · rintro ⟨h1, h2, h3, h4⟩
        have h5 := h2 (by omega)
        exact ⟨⟨⟨h1, fun _ => by omega, h3⟩, h4 hik⟩, h5⟩
    · have hma : m = a k := by omega
      rw [e1, plR_at hma, hB z, hd z]
      unfold Wt
      have e3 : 0 < m → plD tr c d a i k (m - 1) = d k (m - 1) := fun h0 => pl_lo (by omega)
      constructor
      · rintro ⟨⟨h1, h2, h3⟩, h4⟩
        exact ⟨h1, fun h0 => by rw [e3 h0]; exact h2 h0, h3, fun _ => h4⟩
      · rintro ⟨h1, h2, h3, h4⟩
        exact ⟨⟨h1, fun h0 => by rw [← e3 h0]; exact h2 h0, h3⟩, h4 hik⟩
theorem Rch.lb (ho : Ok tr) (h : Rch tr c a d) : LbP tr c a d := by
  induction h with
  | b => exact lb_begin
  | s h hi ha ih => exact lb_place (h.vp ho) hi ha ih
/-! ## Starts in the making -/
def stO (tr : List Trip) (a : Pl) (d : Dr) : St := (List.range tr.length).map fun i => (List.range (a i)).map (d i)
theorem so_len : (stO tr a d).length = tr.length := by simp [stO]
theorem so_row {i : Nat} (hi : i < tr.length) : (stO tr a d).getD i default = (List.range (a i)).map (d i) := by
  unfold stO
  rw [List.getD_eq_getElem?_getD, List.getElem?_map, List.getElem?_range hi]; rfl
theorem so_rl {i : Nat} (hi : i < tr.length) : ((stO tr a d).getD i default).length = a i := by rw [so_row hi]; simp
theorem so_at {i j : Nat} (hi : i < tr.length) (hj : j < a i) : ((stO tr a d).getD i default).getD j default = d i j := by
  rw [so_row hi, List.getD_eq_getElem?_getD, List.getElem?_map, List.getElem?_range hj]; rfl
theorem so_wiF {i : Nat} {v : Int} {e : Dr} (hi : i < tr.length) (hv : v = d i (a i)) (he : ∀ k m, m < upA a i (a i + 1) k → e k m = d k m) : wiF (stO tr a d) i v = stO tr (upA a i (a i + 1)) e := by
  unfold wiF
  rw [so_len]
  conv => rhs; unfold stO
  refine List.map_congr_left fun k hk => ?_
  have hk := List.mem_range.1 hk
  rw [so_row hk]
  split
  · rename_i q
    subst q
    have : upA a k (a k + 1) k = a k + 1 := by simp [upA]
    rw [this, List.range_succ, List.map_append, hv]
    congr 1
    · exact List.map_congr_left fun m hm => (he k m (by have hm' := List.mem_range.1 hm; rw [this]; omega)).symm
    · show [d k (a k)] = [e k (a k)]
      rw [he k (a k) (by rw [this]; omega)]
  · rename_i q
    have : upA a i (a i + 1) k = a k := by simp [upA, q]
    rw [this]
    exact List.map_congr_left fun m hm => (he k m (by have hm' := List.mem_range.1 hm; rw [this]; omega)).symm
theorem rp0_lb {i : Nat} (hi : i < tr.length) (z : Int) : rp0 tr (stO tr a d) i ≤ z ↔ (duN tr i (a i) ≤ z ∧ (0 < a i → d i (a i - 1) + ruN tr i (a i - 1) ≤ z)) := by
  unfold rp0
  rw [so_rl hi]
  by_cases h : 0 < a i
  · rw [if_pos h, so_at hi (by omega)]
    show (if duN tr i (a i) < d i (a i - 1) + ruN tr i (a i - 1) then d i (a i - 1) + ruN tr i (a i - 1) else duN tr i (a i)) ≤ z ↔ _
    constructor
    · intro h; split at h <;> exact ⟨by omega, fun _ => by omega⟩
    · rintro ⟨h1, h2⟩; have := h2 h; split <;> omega
  · rw [if_neg h]
    exact ⟨fun g => ⟨g, fun q => absurd q h⟩, fun g => g.1⟩
theorem rpJ_lb {i x : Nat} {v : Int} (hx : x < tr.length) (hi : i < tr.length) (z : Int) : ∀ y, y ≤ a x → (rpJ t tr (stO tr a d) i x v y ≤ z ↔ (v ≤ z ∧ ∀ y', y' < y → x ≠ i → clB t (spN (tr.getD x default) y') (spN (tr.getD i default) (a i)) = true → d x y' + ruN tr x y' ≤ z))
  | 0, _ => ⟨fun h => ⟨h, fun _ h => absurd h (by omega)⟩, fun h => h.1⟩
  | y + 1, hy => by
    have ih := rpJ_lb (v := v) hx hi z y (by omega)
    unfold rpJ
    rw [so_rl hi, so_at hx (by omega)]
    by_cases hc : x ≠ i ∧ clB t (spN (tr.getD x default) y) (spN (tr.getD i default) (a i)) = true
    · rw [if_pos (show x ≠ i ∧ clB t ((tr.getD x default).fStops.getD y default) ((tr.getD i default).fStops.getD (a i) default) = true from hc)]
      show (if rpJ t tr (stO tr a d) i x v y < d x y + ruN tr x y then d x y + ruN tr x y else rpJ t tr (stO tr a d) i x v y) ≤ z ↔ _
      have key : (if rpJ t tr (stO tr a d) i x v y < d x y + ruN tr x y then d x y + ruN tr x y else rpJ t tr (stO tr a d) i x v y) ≤ z ↔ (rpJ t tr (stO tr a d) i x v y ≤ z ∧ d x y + ruN tr x y ≤ z) := by
        constructor
        · intro h; split at h <;> constructor <;> omega
        · rintro ⟨h1, h2⟩; split <;> omega
      rw [key, ih]
      constructor
      · rintro ⟨⟨h1, h2⟩, h3⟩
        refine ⟨h1, fun y' hy' h4 h5 => ?_⟩
        rcases Nat.lt_or_eq_of_le (Nat.le_of_lt_succ hy') with q | q
        · exact h2 y' q h4 h5
        · subst q; exact h3
      · rintro ⟨h1, h2⟩
        exact ⟨⟨h1, fun y' hy' => h2 y' (by omega)⟩, h2 y (by omega) hc.1 hc.2⟩
    · rw [if_neg (show ¬ (x ≠ i ∧ clB t ((tr.getD x default).fStops.getD y default) ((tr.getD i default).fStops.getD (a i) default) = true) from hc), ih]
      constructor
      · rintro ⟨h1, h2⟩
        refine ⟨h1, fun y' hy' h4 h5 => ?_⟩
        rcases Nat.lt_or_eq_of_le (Nat.le_of_lt_succ hy') with q | q
        · exact h2 y' q h4 h5
        · subst q; exact absurd ⟨h4, h5⟩ hc
      · rintro ⟨h1, h2⟩
        exact ⟨h1, fun y' hy' => h2 y' (by omega)⟩
theorem rpI_lb {i : Nat} (hi : i < tr.length) (z : Int) : ∀ x, x ≤ tr.length → (rpI t tr (stO tr a d) i x ≤ z ↔ (rp0 tr (stO tr a d) i ≤ z ∧ ∀ x', x' < x → ∀ y', y' < a x' → x' ≠ i → clB t (spN (tr.getD x' default) y') (spN (tr.getD i default) (a i)) = true → d x' y' + ruN tr x' y' ≤ z))
  | 0, _ => ⟨fun h => ⟨h, fun _ h => absurd h (by omega)⟩, fun h => h.1⟩
  | x + 1, hx => by
    have ih := rpI_lb hi z x (by omega)
    unfold rpI
    rw [so_rl (show x < tr.length by omega), rpJ_lb (by omega) hi z (a x) (Nat.le_refl _), ih]
    constructor
    · rintro ⟨⟨h1, h2⟩, h3⟩
      refine ⟨h1, fun x' hx' => ?_⟩
      rcases Nat.lt_or_eq_of_le (Nat.le_of_lt_succ hx') with q | q
      · exact h2 x' q
      · subst q; exact h3
    · rintro ⟨h1, h2⟩
      exact ⟨⟨h1, fun x' hx' => h2 x' (by omega)⟩, h2 x (by omega)⟩
theorem rp_next (ho : Ok tr) (h : Rch tr (csF t tr) a d) {i : Nat} (hi : i < tr.length) (hai : a i < (tr.getD i default).fStops.length) : rpF t tr (stO tr a d) i = d i (a i) := by
  have hlb := h.lb ho i (a i) hi (Nat.le_refl _) hai
  have hv := h.vp ho
  have key : ∀ z, rpF t tr (stO tr a d) i ≤ z ↔ d i (a i) ≤ z := fun z => by
    unfold rpF
    rw [so_len, rpI_lb hi z _ (Nat.le_refl _), rp0_lb hi, hlb z]
    unfold Wt
    constructor
    · rintro ⟨⟨h1, h2⟩, h3⟩
      refine ⟨h1, h2, fun x y hx hn hy hc => h3 x hx y hy hn ?_⟩
      unfold csF at hc
      rw [if_pos ⟨hx, hi, hn, by have := hv.1 x hx; omega, hai⟩] at hc
      exact hc
    · rintro ⟨h1, h2, h3⟩
      refine ⟨⟨h1, h2⟩, fun x hx y hy hn hc => h3 x y hx hn hy ?_⟩
      unfold csF
      rw [if_pos ⟨hx, hi, hn, by have := hv.1 x hx; omega, hai⟩]
      exact hc
  have h1 := (key (d i (a i))).2 (Int.le_refl _)
  have h2 := (key (rpF t tr (stO tr a d) i)).1 (Int.le_refl _)
  omega
/-! ## The search -/
def BestS (tr : List Trip) (c : Cl) (V : Dr → Prop) (b : Schedule × Bool) : Prop := (∀ g, V g → Full tr c g) ∧ ((b.2 = false ∧ ∀ g, ¬ V g) ∨ (b.2 = true ∧ ∃ f, V f ∧ b.1 = scD tr f ∧ ∀ g, V g → cmD tr f g (enA tr) ≤ 0))
theorem BestS.to {V V' : Dr → Prop} {b : Schedule × Bool} (h : BestS tr c V b) (hv : ∀ g, V g ↔ V' g) : BestS tr c V' b := by
  have : V = V' := funext fun g => propext (hv g)
  subst this; exact h
theorem bet_le (hc : chkI t tr = 0) {d f : Dr} (hd : Full tr (csF t tr) d) (hf : Full tr (csF t tr) f) (h : betS (scD tr d) (scD tr f) = true) : cmD tr d f (enA tr) ≤ 0 := by
  have ho := ok_chk hc
  refine Classical.byContradiction fun hn => ?_
  have h1 : cmD tr f (stD (scD tr d).fStarts) (enA tr) ≤ 0 := by
    have h2 : cmD tr f d (enA tr) ≤ 0 := by have := cmD_neg tr d f (enA tr); omega
    exact cm_trans (en4 ho) h2 (le_cm ho fun k m hk hm => by rw [sc_at hk hm]; exact Int.le_refl _)
  have h3 := not_better ho (full_st hc hd) h1
  rw [sc_cost] at h3
  have h4 : betS (scD tr d) (scD tr f) = false := h3
  rw [h] at h4
  cases h4
theorem bet_ge (hc : chkI t tr = 0) {d f : Dr} (hd : Full tr (csF t tr) d) (hf : Full tr (csF t tr) f) (h : betS (scD tr d) (scD tr f) = false) : cmD tr f d (enA tr) ≤ 0 := by
  have ho := ok_chk hc
  refine Classical.byContradiction fun hn => ?_
  have h2 : cmD tr d f (enA tr) ≤ 0 := by have := cmD_neg tr d f (enA tr); omega
  have h1 : cmD tr d (stD (scD tr f).fStarts) (enA tr) ≤ 0 := cm_trans (en4 ho) h2 (le_cm ho fun k m hk hm => by rw [sc_at hk hm]; exact Int.le_refl _)
  have h3 := not_better ho (full_st hc hf) h1
  rw [sc_cost] at h3
  have h4 : betS (scD tr f) (scD tr d) = false := h3
  rw [← Bool.not_eq_true, betS_iff] at h h4
  have e1 : (scD tr d).fCost = (scD tr f).fCost := by omega
  have e2 : cmpS (scD tr d).fStarts (scD tr f).fStarts = 0 := by
    have := cmpS_cmp.neg (scD tr d).fStarts (scD tr f).fStarts
    omega
  have e3 := (cmpS_cmp.zero _ _).1 e2
  refine hn (le_cm ho fun k m hk hm => ?_)
  rw [← sc_at (d := f) hk hm, ← sc_at (d := d) hk hm, e3]
  exact Int.le_refl _
theorem en_of (hv : Vp tr a) (h : ∀ k, k < tr.length → a k = (tr.getD k default).fStops.length) : a = enA tr := by
  funext k
  unfold enA
  split
  · rename_i q; exact h k q
  · rename_i q; exact hv.2 k (by omega)
theorem so_full (d : Dr) : stO tr (enA tr) d = (scD tr d).fStarts := by
  unfold stO scD
  refine List.map_congr_left fun k hk => ?_
  have hk := List.mem_range.1 hk
  unfold roD enA
  rw [if_pos hk]
def CpT (tr : List Trip) (c : Cl) (a : Pl) (d : Dr) (i : Nat) (g : Dr) : Prop := ∃ k, k < i ∧ k < tr.length ∧ a k < (tr.getD k default).fStops.length ∧ Cp tr c (upA a k (a k + 1)) (plD tr c d a k) g
theorem seI_law (ho : Ok tr) {V : Dr → Prop} (hr : Rch tr (csF t tr) a d) {G : St → Int → Schedule × Bool → Schedule × Bool} {cost : Int} (hcost : cost = coD tr d a)
    (hG : ∀ k, k < tr.length → a k < (tr.getD k default).fStops.length → ∀ V b, BestS tr (csF t tr) V b → BestS tr (csF t tr) (fun g => V g ∨ Cp tr (csF t tr) (upA a k (a k + 1)) (plD tr (csF t tr) d a k) g) (G (stO tr (upA a k (a k + 1)) (plD tr (csF t tr) d a k)) (coD tr (plD tr (csF t tr) d a k) (upA a k (a k + 1))) b))
    {b : Schedule × Bool} (hb : BestS tr (csF t tr) V b) : ∀ i, i ≤ tr.length → BestS tr (csF t tr) (fun g => V g ∨ CpT tr (csF t tr) a d i g) (seI t tr G (stO tr a d) cost b i).1 ∧ ((seI t tr G (stO tr a d) cost b i).2 = true ↔ ∀ k, k < i → a k = (tr.getD k default).fStops.length)
  | 0, _ => ⟨hb.to fun g => ⟨.inl, fun h => h.elim id fun ⟨k, h, _⟩ => absurd h (by omega)⟩, fun _ k h => absurd h (by omega), fun _ => rfl⟩
  | i + 1, hi => by
    obtain ⟨ih1, ih2⟩ := seI_law ho hr hcost hG hb i (by omega)
    have hv := (hr.vp ho).1 i (by omega)
    unfold seI
    rw [so_rl (show i < tr.length by omega)]
    by_cases h : a i = (tr.getD i default).fStops.length
    · rw [if_pos h]
      refine ⟨ih1.to fun g => or_congr Iff.rfl ⟨fun ⟨k, k1, k2⟩ => ⟨k, by omega, k2⟩, fun ⟨k, k1, k2, k3, k4⟩ => ⟨k, ?_, k2, k3, k4⟩⟩, ih2.trans ⟨fun g k hk => ?_, fun g k hk => g k (by omega)⟩⟩
      · have : k ≠ i := fun e => by subst e; omega
        omega
      · rcases Nat.lt_or_eq_of_le (Nat.le_of_lt_succ hk) with q | q
        · exact g k q
        · subst q; exact h
    · have hai : a i < (tr.getD i default).fStops.length := by omega
      rw [if_neg h]
      have hrp := rp_next ho hr (show i < tr.length by omega) hai
      have e1 : wiF (stO tr a d) i (rpF t tr (stO tr a d) i) = stO tr (upA a i (a i + 1)) (plD tr (csF t tr) d a i) := so_wiF (by omega) hrp fun k m hm => pl_placed hm
      have e2 : cost + dlF tr t (stO tr a d) i = coD tr (plD tr (csF t tr) d a i) (upA a i (a i + 1)) := by
        rw [coD_pl (by omega), hcost]
        unfold dlF
        rw [so_rl (show i < tr.length by omega), hrp]
        rfl
      rw [e1, e2]
      refine ⟨(hG i (by omega) hai _ _ ih1).to fun g => ?_, ?_⟩
      · constructor
        · rintro ((h | ⟨k, k1, k2⟩) | h)
          · exact .inl h
          · exact .inr ⟨k, by omega, k2⟩
          · exact .inr ⟨i, by omega, by omega, hai, h⟩
        · rintro (h | ⟨k, k1, k2, k3, k4⟩)
          · exact .inl (.inl h)
          · rcases Nat.lt_or_eq_of_le (Nat.le_of_lt_succ k1) with q | q
            · exact .inl (.inr ⟨k, q, k2, k3, k4⟩)
            · subst q; exact .inr k4
      · constructor
        · intro g; cases g
        · intro g; exact absurd (g i (by omega)) h
theorem cp_iff (ho : Ok tr) (hr : Rch tr c a d) (g : Dr) : Cp tr c a d g ↔ (a = enA tr ∧ g = d) ∨ CpT tr c a d tr.length g := by
  constructor
  · intro h
    cases h with
    | e d => exact .inl ⟨rfl, rfl⟩
    | s i hi ha h => exact .inr ⟨i, hi, hi, ha, h⟩
  · rintro (⟨h1, h2⟩ | ⟨i, _, hi, ha, h⟩)
    · subst h1; subst h2; exact .e _
    · exact .s i hi ha h
theorem seF_law (hc : chkI t tr = 0) : ∀ (n : Nat) (a : Pl) (d : Dr) (V : Dr → Prop) (b : Schedule × Bool), Rch tr (csF t tr) a d → rem tr (stO tr a d) < n → BestS tr (csF t tr) V b →
    BestS tr (csF t tr) (fun g => V g ∨ Cp tr (csF t tr) a d g) (seF t tr n (stO tr a d) (coD tr d a) b)
  | 0, _, _, _, _, _, h, _ => absurd h (by omega)
  | n + 1, a, d, V, b, hr, hrem, hb => by
    have ho := ok_chk hc
    have hv := hr.vp ho
    have hG : ∀ k, k < tr.length → a k < (tr.getD k default).fStops.length → ∀ (V : Dr → Prop) b, BestS tr (csF t tr) V b → BestS tr (csF t tr) (fun g => V g ∨ Cp tr (csF t tr) (upA a k (a k + 1)) (plD tr (csF t tr) d a k) g) (seF t tr n (stO tr (upA a k (a k + 1)) (plD tr (csF t tr) d a k)) (coD tr (plD tr (csF t tr) d a k) (upA a k (a k + 1))) b) := fun k hk hak V b hb => by
      refine seF_law hc n _ _ V b (hr.s hk hak) ?_ hb
      have := rem_wi (tr := tr) (st := stO tr a d) (i := k) (v := d k (a k)) so_len hk (by rw [so_rl hk]; exact hak)
      rw [so_wiF (e := plD tr (csF t tr) d a k) hk rfl fun k' m hm => pl_placed hm] at this
      omega
    obtain ⟨h1, h2⟩ := seI_law (t := t) ho hr rfl hG hb tr.length (Nat.le_refl _)
    cases hq : (seI t tr (seF t tr n) (stO tr a d) (coD tr d a) b tr.length).2 with
    | false =>
      rw [seF_f (by rw [so_len]; exact hq), so_len]
      refine h1.to fun g => or_congr Iff.rfl ?_
      rw [cp_iff ho hr]
      constructor
      · exact .inr
      · rintro (⟨h3, _⟩ | h3)
        · have : (seI t tr (seF t tr n) (stO tr a d) (coD tr d a) b tr.length).2 = true := h2.2 fun k hk => by rw [h3]; unfold enA; rw [if_pos hk]
          rw [hq] at this; cases this
        · exact h3
    | true =>
      have hall := h2.1 hq
      obtain rfl := en_of hv hall
      have hd : Full tr (csF t tr) d := hr
      have hV : ∀ g, (V g ∨ Cp tr (csF t tr) (enA tr) d g) ↔ (V g ∨ g = d) := fun g => or_congr Iff.rfl (by
        rw [cp_iff ho hr]
        constructor
        · rintro (⟨_, h⟩ | ⟨k, _, hk, h, _⟩)
          · exact h
          · unfold enA at h; rw [if_pos hk] at h; omega
        · exact fun h => .inl ⟨rfl, h⟩)
      have hs : (⟨stO tr (enA tr) d, coD tr d (enA tr)⟩ : Schedule) = scD tr d := by rw [so_full]; rfl
      have hF : ∀ g, (V g ∨ g = d) → Full tr (csF t tr) g := fun g h => h.elim (hb.1 g) fun h => by subst h; exact hd
      by_cases hc2 : b.2 = false ∨ betS ⟨stO tr (enA tr) d, coD tr d (enA tr)⟩ b.1 = true
      · rw [seF_t (by rw [so_len]; exact hq) hc2, hs]
        refine BestS.to (V := fun g => V g ∨ g = d) ⟨hF, .inr ⟨rfl, d, .inr rfl, rfl, fun g hg => ?_⟩⟩ fun g => (hV g).symm
        rcases hg with hg | hg
        · rcases hb.2 with ⟨_, hn⟩ | ⟨hbt, f, f1, f2, f3⟩
          · exact absurd hg (hn g)
          · rcases hc2 with hc2 | hc2
            · rw [hbt] at hc2; cases hc2
            · rw [hs, f2] at hc2
              exact cm_trans (en4 ho) (bet_le hc hd (hb.1 f f1) hc2) (f3 g hg)
        · subst hg; exact cm_refl tr _ _
      · rw [seF_n (by rw [so_len]; exact hq) hc2]
        rcases hb.2 with ⟨hbf, _⟩ | ⟨hbt, f, f1, f2, f3⟩
        · exact absurd (.inl hbf) hc2
        · refine BestS.to (V := fun g => V g ∨ g = d) ⟨hF, .inr ⟨hbt, f, .inl f1, f2, fun g hg => ?_⟩⟩ fun g => (hV g).symm
          rcases hg with hg | hg
          · exact f3 g hg
          · subst hg
            refine bet_ge hc hd (hb.1 f f1) ?_
            rw [← f2, ← hs]
            cases hx : betS ⟨stO tr (enA tr) g, coD tr g (enA tr)⟩ b.1 with
            | false => rfl
            | true => exact absurd (.inr hx) hc2
theorem cp_ex (ho : Ok tr) : ∀ (n : Nat) (a : Pl) (d : Dr), Vp tr a → rem tr (stO tr a d) < n → ∃ f, Cp tr c a d f
  | 0, _, _, _, h => absurd h (by omega)
  | n + 1, a, d, hv, h => by
    by_cases hx : ∃ i, i < tr.length ∧ a i < (tr.getD i default).fStops.length
    · obtain ⟨i, hi, hai⟩ := hx
      have h1 := rem_wi (tr := tr) (st := stO tr a d) (i := i) (v := d i (a i)) so_len hi (by rw [so_rl hi]; exact hai)
      rw [so_wiF (e := plD tr c d a i) hi rfl fun k' m hm => pl_placed hm] at h1
      obtain ⟨f, hf⟩ := cp_ex ho n (upA a i (a i + 1)) (plD tr c d a i) ⟨fun k hk => by
        unfold upA; split
        · rename_i e; subst e; omega
        · exact hv.1 k hk, fun k hk => by unfold upA; rw [if_neg (by omega)]; exact hv.2 k hk⟩ (by omega)
      exact ⟨f, .s i hi hai hf⟩
    · obtain rfl := en_of hv fun k hk => by
        have := hv.1 k hk
        have : ¬ a k < (tr.getD k default).fStops.length := fun h => hx ⟨k, hk, h⟩
        omega
      exact ⟨d, .e d⟩
theorem full_ex (c : Cl) (ho : Ok tr) : ∃ f, Full tr c f := by
  obtain ⟨f, hf⟩ := cp_ex (c := c) ho _ _ (bgD tr) (Rch.vp ho (Rch.b (c := c))) (Nat.lt_succ_self _)
  exact ⟨f, hf.full Rch.b⟩
theorem ref_best (hc : chkI t tr = 0) {n : Nat} (hn : rem tr (stO tr (fun _ => 0) (bgD tr)) < n) : ∃ f, Full tr (csF t tr) f ∧ (∀ g, Full tr (csF t tr) g → cmD tr f g (enA tr) ≤ 0) ∧ (seF t tr n (stO tr (fun _ => 0) (bgD tr)) (coD tr (bgD tr) fun _ => 0) (default, false)).1 = scD tr f := by
  have ho := ok_chk hc
  have h := seF_law hc n _ _ (fun _ => False) (default, false) Rch.b hn ⟨fun g h => h.elim, .inl ⟨rfl, fun g h => h⟩⟩
  obtain ⟨h1, h2⟩ := h
  rcases h2 with ⟨_, h2⟩ | ⟨_, f, f1, f2, f3⟩
  · obtain ⟨f, hf⟩ : ∃ f, Full tr (csF t tr) f := full_ex (csF t tr) ho
    exact absurd (.inr (cp_begin hf f (.e f))) (h2 f)
  · exact ⟨f, h1 f f1, fun g hg => f3 g (.inr (cp_begin hg g (.e g))), f2⟩
theorem same_of (hc : chkI t tr = 0) {f g : Dr} (hf : Full tr (csF t tr) f) (hg : Full tr (csF t tr) g) (h1 : ∀ x, Full tr (csF t tr) x → cmD tr f x (enA tr) ≤ 0) (h2 : ∀ x, Full tr (csF t tr) x → cmD tr g x (enA tr) ≤ 0) : betS (scD tr f) (scD tr g) = false := by
  have ho := ok_chk hc
  have h3 : cmD tr g (stD (scD tr f).fStarts) (enA tr) ≤ 0 := cm_trans (en4 ho) (h2 f hf) (le_cm ho fun k m hk hm => by rw [sc_at hk hm]; exact Int.le_refl _)
  have h4 := not_better ho (full_st hc hf) h3
  rw [sc_cost] at h4
  exact h4
theorem so_begin : stO tr (fun _ => 0) (bgD tr) = List.replicate tr.length [] := by
  unfold stO
  apply List.ext_getElem?
  intro k
  rw [List.getElem?_map, List.getElem?_replicate]
  by_cases h : k < tr.length
  · rw [List.getElem?_range h, if_pos h]; rfl
  · rw [List.getElem?_eq_none (by simpa using h), if_neg h]; rfl
theorem coN_zero (d : Dr) : ∀ i, coN tr d (fun _ => 0) i = 0
  | 0 => rfl
  | i + 1 => by
    unfold coN
    rw [coN_zero d i]
    simp [coJ]
theorem co_begin : coD tr (bgD tr) (fun _ => 0) = 0 := coN_zero _ _
end
end Go.Sg
