/- What Solve gives: it is feasible, its cost is the delay, nothing feasible is better; where nothing conflicts, every stop begins as early as its trip allows. -/
import Derived.Test.YtbndgcddihbhlaaD25
import Derived.Test.YtbndgcddihbhlaaP3
set_option linter.unusedVariables false
set_option linter.unusedSimpArgs false
set_option maxRecDepth 8000
namespace Go.Sg
open Go.Proofs
/-! ## Conflicts are symmetric -/
theorem met_iff (a b : List Int) : metB a b = true ↔ ∃ x, x ∈ a ∧ x ∈ b := by
  unfold metB
  rw [decide_eq_true_eq]
  constructor
  · intro h; exact ⟨(com a b)[0], (com_mem a b _).1 (List.getElem_mem h)⟩
  · rintro ⟨x, h1, h2⟩; exact List.length_pos_of_mem ((com_mem a b x).2 ⟨h1, h2⟩)
theorem met_symm (a b : List Int) : metB a b = metB b a := by
  rw [Bool.eq_iff_iff, met_iff, met_iff]
  exact ⟨fun ⟨x, h1, h2⟩ => ⟨x, h2, h1⟩, fun ⟨x, h1, h2⟩ => ⟨x, h2, h1⟩⟩
theorem agr_iff (a b : List Setting) : agrB a b = true ↔ ∀ s ∈ a, ∀ t ∈ b, s.fEl = t.fEl → s.fPos = t.fPos := by
  unfold agrB okS
  simp only [List.all_eq_true, Bool.not_eq_true', Bool.and_eq_false_iff, beq_eq_false_iff_ne, bne_eq_false_iff_eq]
  constructor
  · intro h s hs t ht he; exact (h s hs t ht).resolve_left fun hn => hn he
  · intro h s hs t ht
    by_cases he : s.fEl = t.fEl
    · exact .inr (h s hs t ht he)
    · exact .inl he
theorem agr_symm (a b : List Setting) : agrB a b = agrB b a := by
  rw [Bool.eq_iff_iff, agr_iff, agr_iff]
  exact ⟨fun h s hs t ht e => (h t ht s hs e.symm).symm, fun h s hs t ht e => (h t ht s hs e.symm).symm⟩
theorem bet_symm (a b : Route) : betB a b = betB b a := by
  have h1 : beyB a b = beyB b a := by unfold beyB; rw [Bool.or_comm]
  have h2 : ovlB a b = ovlB b a := by unfold ovlB; rw [met_symm a.fOverSections b.fOverSections, Bool.and_assoc, Bool.and_comm (!folB a b), ← Bool.and_assoc]
  unfold betB bt1 bt2 bt3
  rw [h1, h2, agr_symm (setL a), met_symm a.fSections b.fSections]
theorem cl_symm (t : Table) (a b : Stop) : clB t a b = clB t b a := by unfold clB; rw [bet_symm]
theorem cs_symm (t : Table) (tr : List Trip) (x y z u : Nat) : csF t tr x y z u = csF t tr z u x y := by
  unfold csF
  by_cases h : x < tr.length ∧ z < tr.length ∧ x ≠ z ∧ y < (tr.getD x default).fStops.length ∧ u < (tr.getD z default).fStops.length
  · rw [if_pos h, if_pos ⟨h.2.1, h.1, fun e => h.2.2.1 e.symm, h.2.2.2.2, h.2.2.2.1⟩, cl_symm]
  · rw [if_neg h, if_neg fun q => h ⟨q.2.1, q.1, fun e => q.2.2.1 e.symm, q.2.2.2.2, q.2.2.2.1⟩]
section
variable {t : Table} {tr : List Trip} {st : List (List Int)} {d best : Dr}
/-! ## The schedule of a draft -/
theorem sc_len (tr : List Trip) (d : Dr) : (scD tr d).fStarts.length = tr.length := by simp [scD]
theorem sc_row {i : Nat} (hi : i < tr.length) : (scD tr d).fStarts.getD i default = roD tr d i := by
  unfold scD
  rw [List.getD_eq_getElem?_getD, List.getElem?_map, List.getElem?_range hi]; rfl
theorem ro_at {i j : Nat} (hj : j < (tr.getD i default).fStops.length) : (roD tr d i).getD j default = d i j := by
  unfold roD
  rw [List.getD_eq_getElem?_getD, List.getElem?_map, List.getElem?_range hj]; rfl
theorem sc_at {i j : Nat} (hi : i < tr.length) (hj : j < (tr.getD i default).fStops.length) : stD (scD tr d).fStarts i j = d i j := by
  unfold stD; rw [sc_row hi, ro_at hj]
theorem coJ_cong2 {d e : Dr} {i : Nat} : ∀ j : Nat, (∀ k, k < j → d i k = e i k) → coJ tr d i j = coJ tr e i j
  | 0, _ => rfl
  | j + 1, h => by
    unfold coJ
    rw [coJ_cong2 j fun k hk => h k (by omega), h j (by omega)]
theorem coN_cong2 {d e : Dr} : ∀ n : Nat, n ≤ tr.length → (∀ i j, i < n → j < (tr.getD i default).fStops.length → d i j = e i j) → coN tr d (enA tr) n = coN tr e (enA tr) n
  | 0, _, _ => rfl
  | n + 1, hn, h => by
    have he : enA tr n = (tr.getD n default).fStops.length := by unfold enA; rw [if_pos (by omega)]
    unfold coN
    rw [coN_cong2 n (by omega) fun i j hi hj => h i j (by omega) hj, he, coJ_cong2 _ fun k hk => h n k (by omega) hk]
theorem coD_cong2 {d e : Dr} (h : ∀ i j, i < tr.length → j < (tr.getD i default).fStops.length → d i j = e i j) : coD tr d (enA tr) = coD tr e (enA tr) := coN_cong2 tr.length (Nat.le_refl _) h
theorem sc_cost : coD tr (stD (scD tr d).fStarts) (enA tr) = coD tr d (enA tr) := coD_cong2 fun i j hi hj => sc_at hi hj
/-! ## What Solve gives is feasible -/
theorem in_st (x : List Int) (j : Nat) : inN x j = x.getD j default := rfl
theorem rg_all {p : Nat → Bool} {n : Nat} : (List.range n).all p = true ↔ ∀ k, k < n → p k = true := by
  rw [List.all_eq_true]; exact ⟨fun h k hk => h k (List.mem_range.2 hk), fun h k hk => h k (List.mem_range.1 hk)⟩
theorem full_b (ho : Ok tr) {c : Cl} (h : Full tr c best) (i j : Nat) : 0 ≤ best i j ∧ best i j ≤ 1073809824 := by
  have h1 := Rch.bn ho h i j
  have h2 := Rch.sum ho h
  omega
theorem full_st (hc : chkI t tr = 0) (h : Full tr (csF t tr) best) : StOk tr (scD tr best).fStarts := by
  have ho := ok_chk hc
  refine ⟨sc_len tr best, fun i hi => by rw [sc_row hi, rd_len], fun i j hi hj => ?_⟩
  rw [sc_at hi hj]
  have := full_b ho h i j
  exact ⟨((Rch.ch h) i j hi hj).1, by omega⟩
theorem full_feas (hc : chkI t tr = 0) (h : Full tr (csF t tr) best) : feasB t tr (scD tr best).fStarts = true := by
  have ho := ok_chk hc
  refine feas4 hc ?_ ?_ ?_
  · unfold shB lnE
    rw [Bool.and_eq_true, decide_eq_true_eq, rg_all]
    exact ⟨sc_len tr best, fun i hi => decide_eq_true (by rw [sc_row hi, rd_len])⟩
  · rw [rg_all]
    intro i hi
    unfold okI okX
    rw [rg_all]
    intro j hj
    unfold okJ
    rw [decide_eq_true_eq, in_st, sc_row hi, ro_at hj]
    have h1 := (Rch.ch h) i j hi hj
    have h2 := full_b ho h i j
    refine ⟨h1.1, by omega, fun h0 => ?_⟩
    rw [in_st, ro_at (by omega)]
    exact h1.2 h0
  · rw [rg_all]
    intro i hi
    unfold prI
    rw [rg_all]
    intro k hk
    unfold prK apB
    rw [rg_all]
    intro j hj
    unfold apI
    rw [rg_all]
    intro m hm
    unfold apJ
    rw [in_st, in_st, sc_row hi, sc_row (by omega), ro_at hj, ro_at hm]
    rw [Bool.not_eq_true']
    cases hcl : clB t (spN (tr.getD i default) j) (spN (tr.getD k default) m) with
    | false => rw [Bool.and_false]
    | true =>
      have hcs : csF t tr i j k m = true := by
        unfold csF
        rw [if_pos ⟨hi, by omega, by omega, hj, hm⟩]
        exact hcl
      have hap := Rch.apt ho (cs_symm t tr) h i j k m hi (by omega) (by omega) (by unfold enA; rw [if_pos hi]; exact hj) hm hcs
      have hd : ¬ (best i j < best k m + (spN (tr.getD k default) m).fRun ∧ best k m < best i j + (spN (tr.getD i default) j).fRun) := by
        have e1 : (spN (tr.getD k default) m).fRun = ruN tr k m := rfl
        have e2 : (spN (tr.getD i default) j).fRun = ruN tr i j := rfl
        rw [e1, e2]
        rcases hap with hap | ⟨_, hap⟩ <;> omega
      rw [Bool.and_true, Bool.and_eq_false_iff, decide_eq_false_iff_not, decide_eq_false_iff_not]
      omega
/-! ## What is feasible -/
theorem feas_of (h : feasB t tr st = true) : chkI t tr = 0 ∧ StOk tr st ∧ Feas tr (csF t tr) (stD st) := by
  unfold feasB at h
  rw [Bool.and_eq_true, Bool.and_eq_true, Bool.and_eq_true, decide_eq_true_eq] at h
  obtain ⟨⟨⟨hc, hs⟩, hx⟩, hp⟩ := h
  have ho := ok_chk hc
  unfold shB lnE at hs
  rw [Bool.and_eq_true, decide_eq_true_eq, rg_all] at hs
  obtain ⟨hl, hr⟩ := hs
  have hr' : ∀ i, i < tr.length → (st.getD i default).length = (tr.getD i default).fStops.length := fun i hi => of_decide_eq_true (hr i hi)
  rw [rg_all] at hx hp
  have hxj : ∀ i j, i < tr.length → j < (tr.getD i default).fStops.length → duN tr i j ≤ stD st i j ∧ stD st i j ≤ 2147483648 ∧ (0 < j → stD st i (j - 1) + ruN tr i (j - 1) ≤ stD st i j) := fun i j hi hj => by
    have h1 := hx i hi
    unfold okI okX at h1
    rw [rg_all] at h1
    have h2 := h1 j hj
    unfold okJ at h2
    exact of_decide_eq_true h2
  have hap : ∀ i j k m, i < tr.length → k < i → j < (tr.getD i default).fStops.length → m < (tr.getD k default).fStops.length → csF t tr i j k m = true → stD st i j + ruN tr i j ≤ stD st k m ∨ stD st k m + ruN tr k m ≤ stD st i j := fun i j k m hi hk hj hm hcs => by
    have h1 := hp i hi
    unfold prI at h1
    rw [rg_all] at h1
    have h2 := h1 k hk
    unfold prK apB at h2
    rw [rg_all] at h2
    have h3 := h2 j hj
    unfold apI at h3
    rw [rg_all] at h3
    have h4 := h3 m hm
    unfold apJ at h4
    have hcl : clB t (spN (tr.getD i default) j) (spN (tr.getD k default) m) = true := by
      unfold csF at hcs
      rw [if_pos ⟨hi, by omega, by omega, hj, hm⟩] at hcs
      exact hcs
    rw [hcl, Bool.and_true, Bool.not_eq_true', Bool.and_eq_false_iff, decide_eq_false_iff_not, decide_eq_false_iff_not] at h4
    have e1 : inN (st.getD i default) j = stD st i j := rfl
    have e2 : inN (st.getD k default) m = stD st k m := rfl
    have e3 : (spN (tr.getD k default) m).fRun = ruN tr k m := rfl
    have e4 : (spN (tr.getD i default) j).fRun = ruN tr i j := rfl
    rw [e1, e2, e3, e4] at h4
    omega
  refine ⟨hc, ⟨hl, hr', fun i j hi hj => ⟨(hxj i j hi hj).1, (hxj i j hi hj).2.1⟩⟩, ⟨fun i j hi hj => ⟨(hxj i j hi hj).1, (hxj i j hi hj).2.2⟩, fun i j k m hi hk hn hj hm hcs => ?_⟩⟩
  rcases Nat.lt_or_gt_of_ne hn with h | h
  · have := hap k m i j hk h hm hj (by rw [← cs_symm]; exact hcs)
    exact this.symm
  · exact hap i j k m hi h hj hm hcs
/-! ## Nothing feasible is better -/
theorem cmpL_first : ∀ {x y : List Int}, x.length = y.length → cmpL x y < 0 → ∃ j, j < x.length ∧ x.getD j default < y.getD j default ∧ ∀ k, k < j → x.getD k default = y.getD k default
  | [], [], _, h => by simp [cmpL] at h
  | [], _ :: _, hl, _ => by simp at hl
  | _ :: _, [], hl, _ => by simp at hl
  | a :: x, b :: y, hl, h => by
    unfold cmpL at h
    by_cases e : cmpI a b = 0
    · rw [if_pos e] at h
      obtain ⟨j, h1, h2, h3⟩ := cmpL_first (by simpa using hl) h
      refine ⟨j + 1, by simp; omega, by simpa using h2, fun k hk => ?_⟩
      cases k with
      | zero => simpa using (cmpI_cmp.zero a b).1 e
      | succ k => simpa using h3 k (by omega)
    · rw [if_neg e] at h
      refine ⟨0, by simp, ?_, fun k hk => by omega⟩
      show a < b
      unfold cmpI at h
      split at h
      · assumption
      · split at h <;> omega
theorem cmpS_first : ∀ {x y : List (List Int)}, x.length = y.length → cmpS x y < 0 → ∃ i, i < x.length ∧ cmpL (x.getD i default) (y.getD i default) < 0 ∧ ∀ k, k < i → x.getD k default = y.getD k default
  | [], [], _, h => by simp [cmpS] at h
  | [], _ :: _, hl, _ => by simp at hl
  | _ :: _, [], hl, _ => by simp at hl
  | a :: x, b :: y, hl, h => by
    unfold cmpS at h
    by_cases e : cmpL a b = 0
    · rw [if_pos e] at h
      obtain ⟨j, h1, h2, h3⟩ := cmpS_first (by simpa using hl) h
      refine ⟨j + 1, by simp; omega, by simpa using h2, fun k hk => ?_⟩
      cases k with
      | zero => simpa using (cmpL_cmp.zero a b).1 e
      | succ k => simpa using h3 k (by omega)
    · rw [if_neg e] at h
      exact ⟨0, by simp, h, fun k hk => by omega⟩
theorem not_better (ho : Ok tr) (hs : StOk tr st) (h : cmD tr best (stD st) (enA tr) ≤ 0) : betS { fStarts := st, fCost := coD tr (stD st) (enA tr) } (scD tr best) = false := by
  rw [← Bool.not_eq_true, betS_iff]
  rw [cm_iff (en4 ho)] at h
  have hcost : (scD tr best).fCost = coD tr best (enA tr) := rfl
  rintro (hb | ⟨hb, hc⟩)
  · have hb : coD tr (stD st) (enA tr) < (scD tr best).fCost := hb
    rw [hcost] at hb
    omega
  · have hb : coD tr (stD st) (enA tr) = (scD tr best).fCost := hb
    rw [hcost] at hb
    have hlx : LxLe (Fl best (enA tr)) (Fl (stD st) (enA tr)) (4 * tr.length) := by
      rcases h with h | h
      · omega
      · exact h.2
    have hc : cmpS st (scD tr best).fStarts < 0 := hc
    obtain ⟨i, h1, h2, h3⟩ := cmpS_first (by rw [hs.l, sc_len]) hc
    have hi : i < tr.length := by rw [← hs.l]; exact h1
    rw [sc_row hi] at h2
    have hri := hs.r i hi
    obtain ⟨j, g1, g2, g3⟩ := cmpL_first (by rw [hri, rd_len]) h2
    have hj : j < (tr.getD i default).fStops.length := by omega
    have h4 := (ho.l i hi).2
    rw [ro_at hj] at g2
    have hen : ∀ q, q < tr.length → enA tr q = (tr.getD q default).fStops.length := fun q hq => by unfold enA; rw [if_pos hq]
    have := hlx (4 * i + j) (by omega) fun m' hm' => by
      have hq : m' / 4 < tr.length := by omega
      unfold Fl
      rw [hen _ hq]
      split
      · rename_i hlt
        rcases Nat.lt_or_ge (m' / 4) i with hq2 | hq2
        · have h3 := h3 (m' / 4) hq2
          rw [sc_row hq] at h3
          show best (m' / 4) (m' % 4) = (st.getD (m' / 4) default).getD (m' % 4) default
          rw [h3, ro_at hlt]
        · have hqi : m' / 4 = i := by omega
          have hmj : m' % 4 < j := by omega
          have g3 := g3 (m' % 4) hmj
          rw [ro_at (by omega)] at g3
          rw [hqi]
          exact g3.symm
      · rfl
    unfold Fl at this
    rw [show (4 * i + j) / 4 = i by omega, show (4 * i + j) % 4 = j by omega, hen i hi, if_pos hj, if_pos hj] at this
    have g2 : stD st i j < best i j := g2
    omega
theorem opt_law (hf : feasB t tr st = true) (hmin : ∀ f, Full tr (csF t tr) f → cmD tr best f (enA tr) ≤ 0) : betS { fStarts := st, fCost := coD tr (stD st) (enA tr) } (scD tr best) = false := by
  obtain ⟨hc, hs, hfe⟩ := feas_of hf
  have ho := ok_chk hc
  obtain ⟨f, h1, h2⟩ := full_best (c := csF t tr) ho hfe
  exact not_better ho hs (cm_trans (en4 ho) (hmin f h1) h2)
theorem co_nn (ho : Ok tr) {d : Dr} (h : ∀ i j, i < tr.length → j < (tr.getD i default).fStops.length → duN tr i j ≤ d i j) : 0 ≤ coD tr d (enA tr) := by
  have hJ : ∀ i, i < tr.length → ∀ j, j ≤ (tr.getD i default).fStops.length → 0 ≤ coJ tr d i j := fun i hi j => by
    induction j with
    | zero => intro _; exact Int.le_refl _
    | succ j ih =>
      intro hj
      have h1 := ih (by omega)
      have h2 := (ho.s i j hi (by omega)).2.2.1
      have h3 := h i j hi (by omega)
      unfold coJ
      have : 0 ≤ weN tr i j * (d i j - duN tr i j) := Int.mul_nonneg h2 (by omega)
      omega
  have hN : ∀ n, n ≤ tr.length → 0 ≤ coN tr d (enA tr) n := fun n => by
    induction n with
    | zero => intro _; exact Int.le_refl _
    | succ n ih =>
      intro hn
      have h1 := ih (by omega)
      have he : enA tr n = (tr.getD n default).fStops.length := by unfold enA; rw [if_pos (by omega)]
      have h2 := hJ n (by omega) (enA tr n) (by omega)
      unfold coN
      omega
  exact hN tr.length (Nat.le_refl _)
end
end Go.Sg
