/- What Solve gives: it is feasible, its cost is the delay, nothing feasible is better; where nothing conflicts, every stop begins as early as its trip allows. -/
import Derived.Test.YtbndgcddihbhlaaD25
import Derived.Test.YtbndgcddihbhlaaP3
set_option linter.unusedVariables false
set_option linter.unusedSimpArgs false
set_option maxRecDepth 8000
namespace Go.Sg
open Go.Proofs
/-! ## Conflicts are symmetric -/
section
variable {t : Table} {tr : List Trip} {st : List (List Int)} {d best : Dr}
/-! ## The schedule of a draft -/
theorem sc_len (tr : List Trip) (d : Dr) : (scD tr d).fStarts.length = tr.length := by simp [scD]
theorem sc_row {i : Nat} (hi : i < tr.length) : (scD tr d).fStarts.getD i default = roD tr d i := by
  unfold scD
  rw [List.getD_eq_getElem?_getD, List.getElem?_map, List.getElem?_range hi]; rfl
theorem ro_at {i j : Nat} (hj : j < (tr.getD i default).fStops.length) : (roD tr d i).getD j default = d i j := by
  unfold roD
  rw [List.getD_eq_getElem?_getD, List.getElem?_map, List.getElem?_range hj]; rfl
theorem sc_at {i j : Nat} (hi : i < tr.length) (hj : j < (tr.getD i default).fStops.length) : stD (scD tr d).fStarts i j = d i j := by
  unfold stD; rw [sc_row hi, ro_at hj]
theorem coJ_cong2 {d e : Dr} {i : Nat} : ∀ j : Nat, (∀ k, k < j → d i k = e i k) → coJ tr d i j = coJ tr e i j
  | 0, _ => rfl
  | j + 1, h => by
    unfold coJ
    rw [coJ_cong2 j fun k hk => h k (by omega), h j (by omega)]
theorem coN_cong2 {d e : Dr} : ∀ n : Nat, n ≤ tr.length → (∀ i j, i < n → j < (tr.getD i default).fStops.length → d i j = e i j) → coN tr d (enA tr) n = coN tr e (enA tr) n
  | 0, _, _ => rfl
  | n + 1, hn, h => by
    have he : enA tr n = (tr.getD n default).fStops.length := by unfold enA; rw [if_pos (by omega)]
    unfold coN
    rw [coN_cong2 n (by omega) fun i j hi hj => h i j (by omega) hj, he, coJ_cong2 _ fun k hk => h n k (by omega) hk]
theorem coD_cong2 {d e : Dr} (h : ∀ i j, i < tr.length → j < (tr.getD i default).fStops.length → d i j = e i j) : coD tr d (enA tr) = coD tr e (enA tr) := coN_cong2 tr.length (Nat.le_refl _) h
theorem sc_cost : coD tr (stD (scD tr d).fStarts) (enA tr) = coD tr d (enA tr) := coD_cong2 fun i j hi hj => sc_at hi hj
/-! ## What Solve gives is feasible -/
theorem full_b (ho : Ok tr) {c : Cl} (h : Full tr c best) (i j : Nat) : 0 ≤ best i j ∧ best i j ≤ 1073809824 := by
  have h1 := Rch.bn ho h i j
  have h2 := Rch.sum ho h
  omega
theorem full_st (hc : chkI t tr = 0) (h : Full tr (csF t tr) best) : StOk tr (scD tr best).fStarts := by
  have ho := ok_chk hc
  refine ⟨sc_len tr best, fun i hi => by rw [sc_row hi, rd_len], fun i j hi hj => ?_⟩
  rw [sc_at hi hj]
  have := full_b ho h i j
  exact ⟨((Rch.ch h) i j hi hj).1, by omega⟩
/-! ## What is feasible -/
/-! ## Nothing feasible is better -/
theorem cmpL_first : ∀ {x y : List Int}, x.length = y.length → cmpL x y < 0 → ∃ j, j < x.length ∧ x.getD j default < y.getD j default ∧ ∀ k, k < j → x.getD k default = y.getD k default
  | [], [], _, h => by simp [cmpL] at h
  | [], _ :: _, hl, _ => by simp at hl
  | _ :: _, [], hl, _ => by simp at hl
  | a :: x, b :: y, hl, h => by
    unfold cmpL at h
    by_cases e : cmpI a b = 0
    · rw [if_pos e] at h
      obtain ⟨j, h1, h2, h3⟩ := cmpL_first (by simpa using hl) h
      refine ⟨j + 1, by simp; omega, by simpa using h2, fun k hk => ?_⟩
      cases k with
      | zero => simpa using (cmpI_cmp.zero a b).1 e
      | succ k => simpa using h3 k (by omega)
    · rw [if_neg e] at h
      refine ⟨0, by simp, ?_, fun k hk => by omega⟩
      show a < b
      unfold cmpI at h
      split at h
      · assumption
      · split at h <;> omega
theorem cmpS_first : ∀ {x y : List (List Int)}, x.length = y.length → cmpS x y < 0 → ∃ i, i < x.length ∧ cmpL (x.getD i default) (y.getD i default) < 0 ∧ ∀ k, k < i → x.getD k default = y.getD k default
  | [], [], _, h => by simp [cmpS] at h
  | [], _ :: _, hl, _ => by simp at hl
  | _ :: _, [], hl, _ => by simp at hl
  | a :: x, b :: y, hl, h => by
    unfold cmpS at h
    by_cases e : cmpL a b = 0
    · rw [if_pos e] at h
      obtain ⟨j, h1, h2, h3⟩ := cmpS_first (by simpa using hl) h
      refine ⟨j + 1, by simp; omega, by simpa using h2, fun k hk => ?_⟩
      cases k with
      | zero => simpa using (cmpL_cmp.zero a b).1 e
      | succ k => simpa using h3 k (by omega)
    · rw [if_neg e] at h
      exact ⟨0, by simp, h, fun k hk => by omega⟩
theorem not_better (ho : Ok tr) (hs : StOk tr st) (h : cmD tr best (stD st) (enA tr) ≤ 0) : betS { fStarts := st, fCost := coD tr (stD st) (enA tr) } (scD tr best) = false := by
  rw [← Bool.not_eq_true, betS_iff]
  rw [cm_iff (en4 ho)] at h
  have hcost : (scD tr best).fCost = coD tr best (enA tr) := rfl
  rintro (hb | ⟨hb, hc⟩)
  · have hb : coD tr (stD st) (enA tr) < (scD tr best).fCost := hb
    rw [hcost] at hb
    omega
  · have hb : coD tr (stD st) (enA tr) = (scD tr best).fCost := hb
    rw [hcost] at hb
    have hlx : LxLe (Fl best (enA tr)) (Fl (stD st) (enA tr)) (4 * tr.length) := by
      rcases h with h | h
      · omega
      · exact h.2
    have hc : cmpS st (scD tr best).fStarts < 0 := hc
    obtain ⟨i, h1, h2, h3⟩ := cmpS_first (by rw [hs.l, sc_len]) hc
    have hi : i < tr.length := by rw [← hs.l]; exact h1
    rw [sc_row hi] at h2
    have hri := hs.r i hi
    obtain ⟨j, g1, g2, g3⟩ := cmpL_first (by rw [hri, rd_len]) h2
    have hj : j < (tr.getD i default).fStops.length := by omega
    have h4 := (ho.l i hi).2
    rw [ro_at hj] at g2
    have hen : ∀ q, q < tr.length → enA tr q = (tr.getD q default).fStops.length := fun q hq => by unfold enA; rw [if_pos hq]
    have := hlx (4 * i + j) (by omega) fun m' hm' => by
      have hq : m' / 4 < tr.length := by omega
      unfold Fl
      rw [hen _ hq]
      split
      · rename_i hlt
        rcases Nat.lt_or_ge (m' / 4) i with hq2 | hq2
        · have h3 := h3 (m' / 4) hq2
          rw [sc_row hq] at h3
          show best (m' / 4) (m' % 4) = (st.getD (m' / 4) default).getD (m' % 4) default
          rw [h3, ro_at hlt]
        · have hqi : m' / 4 = i := by omega
          have hmj : m' % 4 < j := by omega
          have g3 := g3 (m' % 4) hmj
          rw [ro_at (by omega)] at g3
          rw [hqi]
          exact g3.symm
      · rfl
    unfold Fl at this
    rw [show (4 * i + j) / 4 = i by omega, show (4 * i + j) % 4 = j by omega, hen i hi, if_pos hj, if_pos hj] at this
    have g2 : stD st i j < best i j := g2
    omega
end
end Go.Sg
