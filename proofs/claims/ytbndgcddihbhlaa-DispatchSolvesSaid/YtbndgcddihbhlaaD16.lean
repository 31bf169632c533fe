/- known: one trip after the other is placed, in all orders. Printed by genw.py. -/
import Derived.Test.YtbndgcddihbhlaaSgB
import Derived.Test.YtbndgcddihbhlaaD15
import Derived.Test.YtbndgcddihbhlaaD13
set_option linter.unusedVariables false
set_option linter.unusedSimpArgs false
set_option maxRecDepth 8000
namespace Go.Sg
open Go.Proofs
theorem callG_exR {P : Program} {ρ : Env} {f : FuncId} {l : List DV} {k : Env → DV → Prop} {t : Tg k} {R : Env → DV → Prop} (h : ECall P ρ f l R) (hk : ∀ O' r, R O' r → k O' r) : CallG P ρ f l k t := ⟨R, h, hk⟩
def kO (b : Nat) (O : Env) (rl : List Int) (k : Nat) (best : Dr) : Env := set (set (set O (b + 90000) (.row 3 1 (rl.map eI))) (b + 5) (.bx [.own (b + 90000) k])) (b + 3) (.bx (drL best))
theorem kO_5 (b : Nat) (O : Env) (rl : List Int) (k : Nat) (best : Dr) : kO b O rl k best (b + 5) = .bx [.own (b + 90000) k] := by
  unfold kO; rw [set_apply, if_neg (by omega), set_apply, if_pos rfl]
theorem kO_3 (b : Nat) (O : Env) (rl : List Int) (k : Nat) (best : Dr) : kO b O rl k best (b + 3) = .bx (drL best) := by
  unfold kO; rw [set_apply, if_pos rfl]
theorem kO_9 (b : Nat) (O : Env) (rl : List Int) (k : Nat) (best : Dr) : kO b O rl k best (b + 90000) = .row 3 1 (rl.map eI) := by
  unfold kO; rw [set_apply, if_neg (by omega), set_apply, if_neg (by omega), set_apply, if_pos rfl]
theorem kO_6 (b : Nat) (O : Env) (rl : List Int) (k : Nat) (best : Dr) : kO b O rl k best (b + 6) = O (b + 6) := by
  unfold kO; rw [set_apply, if_neg (by omega), set_apply, if_neg (by omega), set_apply, if_neg (by omega)]
theorem kO_w5 (b : Nat) (O : Env) (rl : List Int) (k k' : Nat) (best : Dr) : set (kO b O rl k best) (b + 5) (.bx [.own (b + 90000) k']) = kO b O rl k' best := by
  funext s; unfold kO; simp only [set_apply]; split <;> split <;> first | rfl | (exfalso; omega) | (split <;> first | rfl | (exfalso; omega))
theorem kO_w3 (b : Nat) (O : Env) (rl : List Int) (k : Nat) (best best' : Dr) : set (kO b O rl k best) (b + 3) (.bx (drL best')) = kO b O rl k best' := by
  funext s; unfold kO; simp only [set_apply]; split <;> rfl
theorem kO_w9 (b : Nat) (O : Env) (rl rl' : List Int) (k : Nat) (best : Dr) : set (kO b O rl k best) (b + 90000) (.row 3 1 (rl'.map eI)) = kO b O rl' k best := by
  funext s; unfold kO; simp only [set_apply]; split <;> split <;> first | rfl | (exfalso; omega) | (split <;> first | rfl | (exfalso; omega))
theorem kO_kO (b : Nat) (O : Env) (rl rl' : List Int) (k k' : Nat) (best best' : Dr) : kO b (kO b O rl k best) rl' k' best' = kO b O rl' k' best' := by
  funext s; unfold kO; simp only [set_apply]; split <;> first | rfl | (split <;> first | rfl | (split <;> rfl))
theorem kO_id {b : Nat} {O : Env} {rl : List Int} {k : Nat} {best : Dr} (h5 : O (b + 5) = .bx [.own (b + 90000) k]) (h3 : O (b + 3) = .bx (drL best)) (h9 : O (b + 90000) = .row 3 1 (rl.map eI)) : O = kO b O rl k best := by
  funext s; unfold kO; simp only [set_apply]
  split
  · rename_i e; rw [e, h3]
  · split
    · rename_i e; rw [e, h5]
    · split
      · rename_i e; rw [e, h9]
      · rfl
theorem kO_fr (b : Nat) (O : Env) {rl rl' : List Int} (k k' : Nat) (best best' : Dr) (hl : rl.length = rl'.length) (s : Nat) : frOk (kO b O rl k best s) (kO b O rl' k' best' s) := by
  unfold kO
  simp only [set_apply]
  split
  · show (drL best).length = (drL best').length; rw [drL_len, drL_len]
  · split
    · rfl
    · split
      · exact ⟨rfl, rfl, by simp [hl]⟩
      · exact frOk.refl _
theorem kO_out (b : Nat) (O : Env) {rl rl' : List Int} (k k' : Nat) (best best' : Dr) (s : Nat) (h : isOut (kO b O rl k best s)) : isOut (kO b O rl' k' best' s) := by
  unfold kO at *
  simp only [set_apply] at *
  split at h
  · rename_i e; rw [if_pos e]; exact drL_k _ _
  · rename_i e; rw [if_neg e]
    split at h
    · rename_i e; rw [if_pos e]; exact h
    · rename_i e; rw [if_neg e]
      split at h
      · rename_i e; rw [if_pos e]; exact h
      · rename_i e; rw [if_neg e]; exact h
theorem ret_kn {P : Program} {ρ O O' : Env} {fn : Func} {R : Env → DV → Prop} {e : Exit} (he : e = .ret ∨ e = .normal) (hf : fn.results = #[]) (h1 : hi ρ = outer O') (h2 : ∀ s, frOk (O s) (O' s)) (h3 : ∀ s, isOut (O s) → isOut (O' s)) (hR : R O' (.tup [])) : retQ P fn O R e ρ := by
  have : ∃ O' r, (∀ s, ρ (s + 100000) = sh (O' s)) ∧ (∀ s, frOk (O s) (O' s)) ∧ (∀ s, isOut (O s) → isOut (O' s)) ∧ RetOk P ρ fn.results.toList r ∧ R O' r :=
    ⟨O', .tup [], fun s => out_of_hi h1 s, h2, h3, by rw [hf]; exact ⟨[], rfl, rfl, fun j v d hv => by simp at hv⟩, hR⟩
  rcases he with rfl | rfl <;> exact this
theorem set_in (ρ : Env) {i K : Nat} (v w : DV) (h1 : i < 100000) (h2 : 100000 ≤ K) : set (set ρ i v) K w = set (set ρ K w) i v := by
  funext s; simp only [set_apply]; split <;> split <;> first | rfl | (exfalso; omega)
theorem upA_at (a : Pl) (i v : Nat) : upA a i v i = v := by simp [upA]
theorem upA_up (a : Pl) (i v w : Nat) : upA (upA a i v) i w = upA a i w := by funext x; simp only [upA]; split <;> rfl
theorem upA_id {a : Pl} {i v : Nat} (h : a i = v) : upA a i v = a := by
  funext x
  by_cases e : x = i
  · subst e; simp [upA, h]
  · simp [upA, e]
def ordA (tr : List Trip) (l : List Int) : Pl := fun q => if q < tr.length ∧ l.contains (q : Int) = true then (tr.getD q default).fStops.length else 0
structure Odr (tr : List Trip) (l : List Int) : Prop where
  nd : l.Nodup
  rg : ∀ x ∈ l, 0 ≤ x ∧ x < tr.length
theorem nd_le : ∀ (m : Nat) (l : List Int), l.Nodup → (∀ x ∈ l, 0 ≤ x ∧ x < m) → l.length ≤ m
  | 0, l, _, h => by
    cases l with
    | nil => simp
    | cons x l => have := h x (by simp); omega
  | m + 1, l, hn, h => by
    by_cases hm : (m : Int) ∈ l
    · have := nd_le m (l.erase m) (hn.erase _) fun x hx => by
        have h1 := (hn.mem_erase_iff).1 hx
        have := h x h1.2
        have := h1.1
        omega
      rw [List.length_erase_of_mem hm] at this
      omega
    · have := nd_le m l hn fun x hx => by
        have := h x hx
        have : x ≠ m := fun e => hm (e ▸ hx)
        omega
      omega
theorem nd_full : ∀ (m : Nat) (l : List Int), l.Nodup → (∀ x ∈ l, 0 ≤ x ∧ x < m) → l.length = m → ∀ q : Nat, q < m → (q : Int) ∈ l
  | 0, l, _, h, _ => fun q hq => by omega
  | m + 1, l, hn, h, hl => by
    by_cases hm : (m : Int) ∈ l
    · intro q hq
      by_cases e : q = m
      · subst e; exact hm
      · have := nd_full m (l.erase m) (hn.erase _) (fun x hx => by
          have h1 := (hn.mem_erase_iff).1 hx
          have := h x h1.2
          have := h1.1
          omega) (by rw [List.length_erase_of_mem hm]; omega) q (by omega)
        exact List.mem_of_mem_erase this
    · have := nd_le m l hn fun x hx => by
        have := h x hx
        have : x ≠ m := fun e => hm (e ▸ hx)
        omega
      omega
theorem ord_full {tr : List Trip} {c : Cl} (ho : Ok tr) {l : List Int} {d : Dr} (h : Odr tr l) (hl : l.length = tr.length) (hr : Rch tr c (ordA tr l) d) : Full tr c d :=
  hr.full ho fun k hk => by
    unfold ordA
    rw [if_pos ⟨hk, by simpa using nd_full _ _ h.nd h.rg hl k hk⟩]
theorem ord_not {tr : List Trip} {l : List Int} {i : Nat} (h : l.contains (i : Int) = false) : ordA tr l i = 0 := by
  unfold ordA; rw [if_neg (by rw [h]; simp)]
theorem ord_add {tr : List Trip} {l : List Int} {i : Nat} (hi : i < tr.length) : upA (ordA tr l) i (tr.getD i default).fStops.length = ordA tr (l ++ [(i : Int)]) := by
  funext q
  unfold upA ordA
  by_cases e : q = i
  · subst e; rw [if_pos rfl, if_pos ⟨hi, by simp⟩]
  · rw [if_neg e]
    have : (l ++ [(i : Int)]).contains (q : Int) = l.contains (q : Int) := by
      rw [List.contains_eq_mem, List.contains_eq_mem]
      simp only [List.mem_append, List.mem_singleton, decide_eq_decide]
      exact ⟨fun h => h.resolve_right (by omega), .inl⟩
    rw [this]
theorem Odr.add {tr : List Trip} {l : List Int} {i : Nat} (h : Odr tr l) (hi : i < tr.length) (hn : l.contains (i : Int) = false) : Odr tr (l ++ [(i : Int)]) := by
  have hn' : (i : Int) ∉ l := by simpa using hn
  refine ⟨?_, fun x hx => ?_⟩
  · rw [List.nodup_append]
    exact ⟨h.nd, by simp, fun a ha b hb => by simp at hb; subst hb; exact fun e => hn' (e ▸ ha)⟩
  · rw [List.mem_append] at hx
    rcases hx with hx | hx
    · exact h.rg x hx
    · simp at hx; subst hx; omega
theorem take_set {rl : List Int} {k : Nat} (h : k < rl.length) (x : Int) : (rl.set k x).take (k + 1) = rl.take k ++ [x] := by
  rw [List.take_add_one, List.take_set_of_le (Nat.le_refl k), List.getElem?_set_self h]; rfl
theorem take_less {l m : List Int} {k : Nat} (h : l.take (k + 1) = m.take (k + 1)) : l.take k = m.take k := by
  have := congrArg (List.take k) h
  rwa [List.take_take, List.take_take, Nat.min_eq_left (by omega)] at this
theorem set_mapI (rl : List Int) (k : Nat) (x : Int) : (rl.map eI).set k [vi x] = (rl.set k x).map eI := by rw [List.map_set]
end Go.Sg
