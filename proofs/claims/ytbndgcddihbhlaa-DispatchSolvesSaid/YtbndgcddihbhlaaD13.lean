/- The reference's search and Solve. Printed by genw.py. -/
import Derived.Test.YtbndgcddihbhlaaSgB
import Derived.Test.YtbndgcddihbhlaaD12
set_option linter.unusedVariables false
set_option linter.unusedSimpArgs false
set_option maxRecDepth 8000
namespace Go.Sg
open Go.Proofs
def rmN (tr : List Trip) (st : St) : Nat → Nat
  | 0 => 0
  | i + 1 => rmN tr st i + ((tr.getD i default).fStops.length - (st.getD i default).length)
def rem (tr : List Trip) (st : St) : Nat := rmN tr st tr.length
def dlF (tr : List Trip) (t : Table) (st : St) (i : Nat) : Int := ((tr.getD i default).fStops.getD (st.getD i default).length default).fWeight * (rpF t tr st i - ((tr.getD i default).fStops.getD (st.getD i default).length default).fDue)
def seI (t : Table) (tr : List Trip) (g : St → Int → Schedule × Bool → Schedule × Bool) (st : St) (cost : Int) (b : Schedule × Bool) : Nat → (Schedule × Bool) × Bool
  | 0 => (b, true)
  | i + 1 => if (st.getD i default).length = (tr.getD i default).fStops.length then seI t tr g st cost b i else (g (wiF st i (rpF t tr st i)) (cost + dlF tr t st i) (seI t tr g st cost b i).1, false)
def seF (t : Table) (tr : List Trip) : Nat → St → Int → Schedule × Bool → Schedule × Bool
  | 0, _, _, b => b
  | n + 1, st, cost, b => if (seI t tr (seF t tr n) st cost b st.length).2 = true then (if b.2 = false ∨ betS ⟨st, cost⟩ b.1 = true then (⟨st, cost⟩, true) else b) else (seI t tr (seF t tr n) st cost b st.length).1
theorem seI_t {t : Table} {tr : List Trip} {g : St → Int → Schedule × Bool → Schedule × Bool} {st : St} {cost : Int} {b : Schedule × Bool} : ∀ i, (seI t tr g st cost b i).2 = true → (seI t tr g st cost b i).1 = b
  | 0, _ => rfl
  | i + 1, h => by
    unfold seI at h ⊢
    split at h
    · rename_i q; rw [if_pos q]; exact seI_t i h
    · cases h
theorem rmN_wi {tr : List Trip} {st : St} {i : Nat} {v : Int} (hi : i < st.length) : ∀ k, k ≤ i → k ≤ st.length → rmN tr (wiF st i v) k = rmN tr st k
  | 0, _, _ => rfl
  | k + 1, h, h2 => by
    unfold rmN
    rw [rmN_wi hi k (by omega) (by omega)]
    congr 2
    unfold wiF
    rw [List.getD_eq_getElem?_getD, List.getElem?_map, List.getElem?_range (by omega)]
    simp only [Option.map_some, Option.getD_some]
    rw [if_neg (by omega)]
theorem wiF_at {st : St} {i k : Nat} {v : Int} (hk : k < st.length) : (wiF st i v).getD k default = if k = i then st.getD k default ++ [v] else st.getD k default := by
  unfold wiF
  rw [List.getD_eq_getElem?_getD, List.getElem?_map, List.getElem?_range hk]
  rfl
theorem rmN_wi2 {tr : List Trip} {st : St} {i : Nat} {v : Int} (hi : i < st.length) (hl : (st.getD i default).length < (tr.getD i default).fStops.length) : ∀ k, i < k → k ≤ st.length → rmN tr (wiF st i v) k + 1 = rmN tr st k
  | 0, h, _ => by omega
  | k + 1, h, h2 => by
    rcases Nat.lt_or_eq_of_le (Nat.le_of_lt_succ h) with q | q
    · have ih := rmN_wi2 (v := v) hi hl k q (by omega)
      unfold rmN
      rw [wiF_at (by omega), if_neg (by omega)]
      omega
    · subst q
      unfold rmN
      rw [rmN_wi hi i (by omega) (by omega), wiF_at hi, if_pos rfl, List.length_append, List.length_singleton]
      omega
theorem rem_wi {tr : List Trip} {st : St} {i : Nat} {v : Int} (hn : st.length = tr.length) (hi : i < tr.length) (hl : (st.getD i default).length < (tr.getD i default).fStops.length) : rem tr (wiF st i v) + 1 = rem tr st := rmN_wi2 (by omega) hl _ hi (by omega)
theorem rmN_le {tr : List Trip} (ho : Ok tr) (st : St) : ∀ k, k ≤ tr.length → rmN tr st k ≤ 4 * k
  | 0, _ => Nat.le_refl _
  | k + 1, h => by
    have h1 := rmN_le ho st k (by omega)
    have h2 := ho.l k (by omega)
    unfold rmN; omega
theorem rem_le {tr : List Trip} (ho : Ok tr) (st : St) : rem tr st ≤ 16 := by
  have h1 := rmN_le ho st tr.length (Nat.le_refl _)
  have := ho.n
  unfold rem; omega
theorem Sk.wi {tr : List Trip} {st : St} {N : Int} (h : Sk tr st N) {i : Nat} {v : Int} (hi : i < tr.length) (hl : (st.getD i default).length < (tr.getD i default).fStops.length) (hv : 0 ≤ v ∧ v ≤ N + 1000) (hN : N + 1000 ≤ 1099511617776) : Sk tr (wiF st i v) (N + 1000) where
  lo := by have := h.lo; omega
  n := by unfold wiF; rw [List.length_map, List.length_range]; exact h.n
  l := fun k hk => by
    have := h.n
    rw [wiF_at (by omega)]
    split
    · rename_i e; subst e; rw [List.length_append, List.length_singleton]; omega
    · exact h.l k hk
  b := fun k j hk hj => by
    have := h.n
    rw [wiF_at (by omega)] at hj ⊢
    split at hj
    · rename_i e
      rw [if_pos e]
      subst e
      rw [List.length_append, List.length_singleton] at hj
      rcases Nat.lt_or_eq_of_le (Nat.le_of_lt_succ hj) with q | q
      · rw [List.getD_eq_getElem?_getD, List.getElem?_append_left q, ← List.getD_eq_getElem?_getD]
        have := h.b k j hk q; omega
      · subst q
        rw [List.getD_eq_getElem?_getD, List.getElem?_append_right (Nat.le_refl _), Nat.sub_self]
        exact hv
    · rename_i e
      rw [if_neg e]
      have := h.b k j hk hj; omega
theorem dl_b {tr : List Trip} {t : Table} {st : St} {N : Int} (ho : Ok tr) (hs : Sk tr st N) {i : Nat} (hi : i < tr.length) (hl : (st.getD i default).length < (tr.getD i default).fStops.length) : -219902325555200 ≤ dlF tr t st i ∧ dlF tr t st i ≤ 219902325555200 := by
  have h1 := ho.s i _ hi hl
  have h2 := rpI_b (t := t) ho hs hi hl tr.length (Nat.le_refl _)
  have h3 := hs.lo
  have h4 := hs.n
  unfold dlF rpF
  rw [h4]
  exact mul_b h1.2.2.1 h1.2.2.2 (by omega) (by omega)
theorem outer_set (O : Env) (s : Nat) (X : DV) : outer (set O s X) = set (outer O) (s + 100000) (sh X) := by
  funext i
  rw [set_apply]
  by_cases h : i < 100000
  · rw [outer_lo _ h, outer_lo _ h, if_neg (by omega)]
  · obtain ⟨k, rfl⟩ : ∃ k, i = k + 100000 := ⟨i - 100000, by omega⟩
    rw [outer_hi, outer_hi, set_apply]
    by_cases h2 : k = s
    · rw [if_pos h2, if_pos (by omega)]
    · rw [if_neg h2, if_neg (by omega)]
theorem set_set (ρ : Env) (d : Nat) (x y : DV) : set (set ρ d x) d y = set ρ d y := by
  funext i; simp only [set_apply]; split <;> rfl
theorem ret_box {P : Program} {ρ O : Env} {fn : Func} {s : Nat} {cs0 cs : List DV} {R : Env → DV → Prop} {e : Exit} (he : e = .ret ∨ e = .normal) (hO : O s = .bx cs0) (hl : cs0.length = cs.length) (hr : renL (· + 100000) cs = cs) (ho : allKL (fun t => decide (100000 ≤ t)) cs = true) (hf : fn.results = #[]) (hh : hi ρ = set (outer O) (s + 100000) (.bx cs)) (hR : R (set O s (.bx cs)) (.tup [])) : retQ P fn O R e ρ := by
  have key : ∃ O' r, (∀ s, ρ (s + 100000) = sh (O' s)) ∧ (∀ s, frOk (O s) (O' s)) ∧ (∀ s, isOut (O s) → isOut (O' s)) ∧ RetOk P ρ fn.results.toList r ∧ R O' r := by
    refine ⟨set O s (.bx cs), .tup [], fun k => ?_, fun k => ?_, fun k hk => ?_, ?_, hR⟩
    · refine out_of_hi (O := set O s (.bx cs)) ?_ k
      rw [outer_set, hh]
      exact congrArg _ (congrArg DV.bx hr.symm)
    · rw [set_apply]; split
      · rename_i e; subst e; rw [hO]; exact hl
      · exact frOk.refl _
    · rw [set_apply]; split
      · exact ho
      · exact hk
    · rw [hf]; exact ⟨[], rfl, rfl, fun j v d h => by simp at h⟩
  rcases he with rfl | rfl <;> exact key
theorem seF_t {t : Table} {tr : List Trip} {n : Nat} {st : St} {cost : Int} {b : Schedule × Bool} (h : (seI t tr (seF t tr n) st cost b st.length).2 = true) (h2 : b.2 = false ∨ betS ⟨st, cost⟩ b.1 = true) : seF t tr (n + 1) st cost b = (⟨st, cost⟩, true) := by rw [seF, if_pos h, if_pos h2]
theorem seF_n {t : Table} {tr : List Trip} {n : Nat} {st : St} {cost : Int} {b : Schedule × Bool} (h : (seI t tr (seF t tr n) st cost b st.length).2 = true) (h2 : ¬ (b.2 = false ∨ betS ⟨st, cost⟩ b.1 = true)) : seF t tr (n + 1) st cost b = b := by rw [seF, if_pos h, if_neg h2]
theorem seF_f {t : Table} {tr : List Trip} {n : Nat} {st : St} {cost : Int} {b : Schedule × Bool} (h : (seI t tr (seF t tr n) st cost b st.length).2 = false) : seF t tr (n + 1) st cost b = (seI t tr (seF t tr n) st cost b st.length).1 := by rw [seF, if_neg (by rw [h]; simp)]
structure Sq (tr : List Trip) (st : St) (cost : Int) : Prop where
  k : Sk tr st (1073741824 + 1000 * (20 - (rem tr st : Int)))
  c : -(219902325555200 * (20 - (rem tr st : Int))) ≤ cost ∧ cost ≤ 219902325555200 * (20 - (rem tr st : Int))
theorem Sq.s {t : Table} {tr : List Trip} {st : St} {cost : Int} (ho : Ok tr) (h : Sq tr st cost) {i : Nat} (hi : i < tr.length) (hl : (st.getD i default).length < (tr.getD i default).fStops.length) : Sq tr (wiF st i (rpF t tr st i)) (cost + dlF tr t st i) := by
  have h1 := rem_wi (v := rpF t tr st i) h.k.n hi hl
  have h2 := dl_b (t := t) ho h.k hi hl
  have h3 := h.c
  have h4 := rem_le ho st
  have h5 := rpI_b (t := t) ho h.k hi hl tr.length (Nat.le_refl _)
  have h6 : rpF t tr st i = rpI t tr st i tr.length := by unfold rpF; rw [h.k.n]
  refine ⟨?_, by omega⟩
  have := h.k.wi (v := rpF t tr st i) hi hl (by rw [h6]; exact h5) (by omega)
  rw [show 1073741824 + 1000 * (20 - (rem tr (wiF st i (rpF t tr st i)) : Int)) = 1073741824 + 1000 * (20 - (rem tr st : Int)) + 1000 by omega]
  exact this
abbrev SE (t : Table) (tr : List Trip) (n : Nat) : Prop := ∀ (O : Env) (s : Nat) (st : St) (cost : Int) (b : Schedule) (f : Bool), O s = .bx (sxL t tr b f) → Sq tr st cost → rem tr st < n → ECall Try.prog O 33 [.bp s 0, encSt st, vi cost] fun O' r => O' = set O s (.bx (sxL t tr (seF t tr n st cost (b, f)).1 (seF t tr n st cost (b, f)).2)) ∧ r = .tup []
end Go.Sg
