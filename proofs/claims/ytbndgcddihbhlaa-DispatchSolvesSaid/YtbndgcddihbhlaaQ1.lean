/- The map of fronts: places as keys, fronts as rows that are nobody's. -/
import Derived.Test.YtbndgcddihbhlaaD21
import Derived.Test.YtbndgcddihbhlaaD19
import Derived.Test.YtbndgcddihbhlaaP3
import Derived.Test.YtbndgcddihbhlaaSgE
set_option linter.unusedVariables false
set_option linter.unusedSimpArgs false
set_option maxRecDepth 8000
namespace Go.Sg
open Go.Proofs
open Go.RowKit
open Go.Rv (goodB FR)
def keyV (a : Pl) : Value := .agg #[.int .i64 (a 0), .int .i64 (a 1), .int .i64 (a 2), .int .i64 (a 3)]
def esM (M : Mp) : List (Value × Value) := M.map fun x => (keyV x.1, x.2.val)
def rsM (M : Mp) : List (Rw Dr) := M.map (·.2)
def kS (O : Env) (M : Mp) (best : Dr) : Env := set (set O 30 (.mo (esM M))) 10 (.bx (drL best))
theorem esM_app (M N : Mp) : esM (M ++ N) = esM M ++ esM N := List.map_append
theorem rsM_app (M N : Mp) : rsM (M ++ N) = rsM M ++ rsM N := List.map_append
theorem esM_cons (x : Pl × Rw Dr) (M : Mp) : esM (x :: M) = (keyV x.1, x.2.val) :: esM M := rfl
theorem rsM_cons (x : Pl × Rw Dr) (M : Mp) : rsM (x :: M) = x.2 :: rsM M := rfl
theorem key_rel (w : World) (I : Nat → Prop) (A : Own) (a : Pl) (v : Value) (h : Rel w I A (.agg (plL a)) v) : v = keyV a := by
  cases h with
  | agg _ _ vs hl hone hrel =>
    have hsz : vs.size = 4 := by rw [← hl, plL_len]
    have hg : ∀ k (hk : k < 4), vs[k]? = some (.int .i64 (a k)) := fun k hk => by
      have h1 : (plL a)[k]? = some (vi (a k : Nat)) := by
        unfold plL; rw [List.getElem?_map, List.getElem?_range hk]; rfl
      have h2 : vs[k]? = some (vs[k]'(by omega)) := Array.getElem?_eq_getElem (by omega)
      have h3 := hrel k _ _ h1 h2
      rw [h2]
      generalize vs[k]'(by omega) = u at h3
      cases h3; rfl
    unfold keyV
    congr 1
    apply Array.ext
    · rw [hsz]; rfl
    · intro k h1 h2
      have hk : k < 4 := by omega
      have := hg k hk
      rw [Array.getElem?_eq_getElem h1] at this
      rw [Option.some.inj this]
      match k, hk with
      | 0, _ => rfl
      | 1, _ => rfl
      | 2, _ => rfl
      | 3, _ => rfl
theorem lits3 {n : Nat} (h : n ≤ 4) (d : Nat) : Try.prog.keyLits (d + 1) 3 [.int .i64 (n : Int)] = some [.int .i64 n] := by
  have u3 : Try.prog.underlying 3 = some (.int .i64) := by kernel_rfl
  have hw : (Lit.int .i64 (n : Int)).wf = true := by
    have : n = 0 ∨ n = 1 ∨ n = 2 ∨ n = 3 ∨ n = 4 := by omega
    rcases this with rfl | rfl | rfl | rfl | rfl <;> rfl
  unfold Program.keyLits
  rw [u3]
  simp [hw]
theorem good_key' {a : Pl} (h : ∀ k, a k ≤ 4) : goodB Try.prog 62 (keyV a) = true := by
  have u : Try.prog.underlying 62 = some (.array 4 3) := by kernel_rfl
  have c62 : Try.prog.cellsOf 62 = 4 := by kernel_rfl
  have c3 : Try.prog.cellsOf 3 = 1 := by kernel_rfl
  have k1 : Try.prog.keyType 62 = true := by kernel_rfl
  have k2 : Try.prog.keyTypeAt 8 62 = true := by kernel_rfl
  have k3 : Try.prog.tiled 8 62 = true := by kernel_rfl
  obtain ⟨d, hd⟩ : ∃ d, Try.prog.types.size + 1 = d + 1 + 1 := ⟨Try.prog.types.size - 1, by kernel_rfl⟩
  have hf : (keyV a).formed Try.prog 62 = true := by unfold keyV Value.formed; simp only [u, c62]; rfl
  have hl : Try.prog.keyLits (d + 1 + 1) 62 (keyV a).cells.toList = some [.int .i64 (a 0), .int .i64 (a 1), .int .i64 (a 2), .int .i64 (a 3)] := by
    unfold keyV Program.keyLits
    rw [u]
    simp only [Value.cells, c62, c3, List.length_cons, List.length_nil, Nat.zero_add, Nat.reduceAdd, if_true, show List.range 4 = [0, 1, 2, 3] from rfl, List.mapM_cons, List.mapM_nil, Nat.mul_one, List.drop_zero, List.take_succ_cons, List.take_zero, List.drop_succ_cons]
    simp [lits3 (h 0), lits3 (h 1), lits3 (h 2), lits3 (h 3)]
  unfold goodB keyOf
  rw [u]
  simp only [k1, k2, k3, hf, hd, hl, Bool.and_self, if_true, Option.map_some, Option.isSome_some]
theorem vp4 {tr : List Trip} (ho : Ok tr) {a : Pl} (ha : Vp tr a) : ∀ k, a k ≤ 4 := fun k => by
  rcases Nat.lt_or_ge k tr.length with h | h
  · exact Nat.le_trans (ha.1 k h) (ho.l k h).2
  · rw [ha.2 k h]; omega
theorem good_key {tr : List Trip} (ho : Ok tr) {a : Pl} (ha : Vp tr a) : goodB Try.prog 62 (keyV a) = true := good_key' (vp4 ho ha)
theorem good_es {tr : List Trip} (ho : Ok tr) {M : Mp} (hv : ∀ x ∈ M, Vp tr x.1) : ∀ e ∈ esM M, goodB Try.prog 62 e.1 = true := fun e he => by
  obtain ⟨x, hx, rfl⟩ := List.mem_map.1 he
  exact good_key ho (hv x hx)
theorem zero63 : ∃ i, Try.prog.info? 63 = some i ∧ i.zero = some (.slice none 0 0) := ⟨_, rfl, by kernel_rfl⟩
theorem key_inj {tr : List Trip} (hn : tr.length ≤ 4) {a b : Pl} (ha : Vp tr a) (hb : Vp tr b) (h : keyV a = keyV b) : a = b := by
  unfold keyV at h
  simp only [Value.agg.injEq, Array.mk.injEq, List.cons.injEq, Value.int.injEq, Int.ofNat_inj, true_and, and_true] at h
  obtain ⟨h0, h1, h2, h3⟩ := h
  funext k
  rcases Nat.lt_or_ge k 4 with hk | hk
  · match k, hk with
    | 0, _ => exact h0
    | 1, _ => exact h1
    | 2, _ => exact h2
    | 3, _ => exact h3
  · rw [ha.2 k (by omega), hb.2 k (by omega)]
def LkS (M : Mp) (a : Pl) (r : Rw Dr) (M1 M2 : Mp) : Prop := M = M1 ++ (a, r) :: M2 ∨ (r = nilRw Dr ∧ M = M1 ∧ M2 = [] ∧ ∀ x ∈ M, x.1 ≠ a)
theorem lkS_ex (M : Mp) (a : Pl) : ∃ r M1 M2, LkS M a r M1 M2 := by
  by_cases h : ∃ x ∈ M, x.1 = a
  · obtain ⟨x, hx, rfl⟩ := h
    obtain ⟨M1, M2, h⟩ := List.append_of_mem hx
    exact ⟨x.2, M1, M2, .inl h⟩
  · refine ⟨nilRw Dr, M, [], .inr ⟨rfl, rfl, rfl, fun x hx e => h ⟨x, hx, e⟩⟩⟩
theorem split_uniq {κ υ : Type} : ∀ {l1 m1 l2 m2 : List (κ × υ)} {k : κ} {u v : υ}, l1 ++ (k, u) :: l2 = m1 ++ (k, v) :: m2 → ((l1 ++ (k, u) :: l2).Pairwise fun x y => x.1 ≠ y.1) → l1 = m1 ∧ u = v ∧ l2 = m2
  | [], [], l2, m2, k, u, v, h, _ => by simp at h; exact ⟨rfl, h.1, h.2⟩
  | [], y :: m1, l2, m2, k, u, v, h, hp => by
    simp only [List.nil_append, List.cons_append, List.cons.injEq] at h
    obtain ⟨rfl, rfl⟩ := h
    simp at hp
    exact absurd rfl (hp.1 _ v (.inr (.inl ⟨rfl, rfl⟩)))
  | x :: l1, [], l2, m2, k, u, v, h, hp => by
    simp only [List.nil_append, List.cons_append, List.cons.injEq] at h
    obtain ⟨rfl, h⟩ := h
    simp only [List.cons_append, List.pairwise_cons] at hp
    exact absurd rfl (hp.1 (k, u) (by simp))
  | x :: l1, y :: m1, l2, m2, k, u, v, h, hp => by
    simp only [List.cons_append, List.cons.injEq] at h
    simp only [List.cons_append, List.pairwise_cons] at hp
    obtain ⟨h1, h2, h3⟩ := split_uniq h.2 hp.2
    exact ⟨by rw [h.1, h1], h2, h3⟩
section
variable {tr : List Trip} {M M1 M2 : Mp} {a : Pl} {r : Rw Dr}
theorem es_un (hn : tr.length ≤ 4) (hv : ∀ x ∈ M, Vp tr x.1) (hu : M.Pairwise fun x y => x.1 ≠ y.1) : (esM M).Pairwise fun x y => x.1 ≠ y.1 := by
  unfold esM
  rw [List.pairwise_map]
  exact List.Pairwise.imp_of_mem (fun {x y} hx hy h e => h (key_inj hn (hv x hx) (hv y hy) e)) hu
theorem es_ne (hn : tr.length ≤ 4) (hv : ∀ x ∈ M, Vp tr x.1) (ha : Vp tr a) (h : ∀ x ∈ M, x.1 ≠ a) : ∀ e ∈ esM M, e.1 ≠ keyV a := fun e he => by
  obtain ⟨x, hx, rfl⟩ := List.mem_map.1 he
  exact fun h2 => h x hx (key_inj hn (hv x hx) ha h2)
theorem lk_es (h : M = M1 ++ (a, r) :: M2) : esM M = esM M1 ++ (keyV a, r.val) :: esM M2 := by rw [h, esM_app, esM_cons]
section
variable {P : Program} {nt : Nat} {ρ : Env} {ops : Array Oper} {o : Oper} {K : Env → Prop} {t : TypeId} {x k y : Operand} {s : Nat}
theorem ow_lookM (hlk : LkS M a r M1 M2) (ho' : Ok tr) (hv : ∀ x ∈ M, Vp tr x.1) (ha : Vp tr a) (hu : M.Pairwise fun x y => x.1 ≠ y.1) (hop : o.op = .lookup 64 x k false) (hg : o.guard = none) (ho : opsOk nt o = true) (hd : dstOk nt o = true)
    (hx : ev ρ x = .mr s) (hes : ρ s = .mo (esM M)) (hk : gd (ev ρ k)) (hkv : un (ev ρ k) = .agg (plL a)) (hK : K (putD ρ o.dst (.v r.val))) : OW Try.prog nt ops o K ρ := by
  obtain ⟨i, hi1, hi2⟩ := zero63
  refine ow_lookupA (s := s) (i := i) (z := .slice none 0 0) (kt := 62) (e := 63) (kv := keyV a) (es := esM M) hop hg ho hd hx hes hk (fun w I A v h => key_rel w I A a v (hkv ▸ h)) (by kernel_rfl) hi1 hi2 (good_key ho' ha) (good_es ho' hv) (fun hne => ?_) fun es1 v es2 he => ?_
  · rcases hlk with h | ⟨rfl, _⟩
    · exact absurd rfl (hne (keyV a, r.val) (by rw [lk_es h]; simp))
    · exact hK
  · rcases hlk with h | ⟨_, _, _, h⟩
    · rw [lk_es h] at he
      obtain ⟨_, h2, _⟩ := split_uniq he (by rw [← lk_es h]; exact es_un ho'.n hv hu)
      rw [← h2]; exact hK
    · exact absurd rfl (es_ne ho'.n hv ha h (keyV a, v) (by rw [he]; simp))
theorem ow_delM (hlk : LkS M a r M1 M2) (ho' : Ok tr) (hv : ∀ x ∈ M, Vp tr x.1) (ha : Vp tr a) (hu : M.Pairwise fun x y => x.1 ≠ y.1) (hop : o.op = .call ⟨.builtin .delete, #[x, k], #[64, 62]⟩) (hg : o.guard = none) (hdst : o.dst = none) (ho : opsOk nt o = true)
    (hx : ev ρ x = .mr s) (hes : ρ s = .mo (esM M)) (hk : gd (ev ρ k)) (hkv : un (ev ρ k) = .agg (plL a)) (hK : K (set ρ s (.mo (esM (M1 ++ M2))))) : OW Try.prog nt ops o K ρ := by
  refine ow_deleteA (s := s) (kt := 62) (e := 63) (kv := keyV a) (es := esM M) hop hg hdst ho hx hes hk (fun w I A v h => key_rel w I A a v (hkv ▸ h)) (by kernel_rfl) (good_key ho' ha) (good_es ho' hv) (fun hne => ?_) fun es1 v es2 he => ?_
  · rcases hlk with h | ⟨rfl, rfl, rfl, _⟩
    · exact absurd rfl (hne (keyV a, r.val) (by rw [lk_es h]; simp))
    · rw [List.append_nil] at hK
      exact hK
  · rcases hlk with h | ⟨_, _, _, h⟩
    · rw [lk_es h] at he
      obtain ⟨h1, h2, h3⟩ := split_uniq he (by rw [← lk_es h]; exact es_un ho'.n hv hu)
      rw [← h1, ← h3, ← esM_app]; exact hK
    · exact absurd rfl (es_ne ho'.n hv ha h (keyV a, v) (by rw [he]; simp))
theorem ow_updM {r' : Rw Dr} (hlk : LkS M a r M1 M2) (ho' : Ok tr) (hv : ∀ x ∈ M, Vp tr x.1) (ha : Vp tr a) (hu : M.Pairwise fun x y => x.1 ≠ y.1) (hop : o.op = .mapUpdate 64 x k y ∨ o.op = .insert 64 x k y) (hg : o.guard = none) (hdst : o.dst = none) (ho : opsOk nt o = true)
    (hx : ev ρ x = .mr s) (hes : ρ s = .mo (esM M)) (hk : gd (ev ρ k)) (hkv : un (ev ρ k) = .agg (plL a)) (hy : ev ρ y = .v r'.val) (hK : K (set ρ s (.mo (esM (M1 ++ (a, r') :: M2))))) : OW Try.prog nt ops o K ρ := by
  refine ow_updateA (s := s) (kt := 62) (e := 63) (kv := keyV a) (es := esM M) hop hg hdst ho hx hes hk (fun w I A v h => key_rel w I A a v (hkv ▸ h)) hy (by kernel_rfl) (good_key ho' ha) (good_es ho' hv) (fun hne => ?_) fun es1 v es2 he => ?_
  · rcases hlk with h | ⟨rfl, rfl, rfl, _⟩
    · exact absurd rfl (hne (keyV a, r.val) (by rw [lk_es h]; simp))
    · rw [lk_es rfl] at hK; exact hK
  · rcases hlk with h | ⟨_, _, _, h⟩
    · rw [lk_es h] at he
      obtain ⟨h1, h2, h3⟩ := split_uniq he (by rw [← lk_es h]; exact es_un ho'.n hv hu)
      rw [← h1, ← h3]; rw [lk_es rfl] at hK; exact hK
    · exact absurd rfl (es_ne ho'.n hv ha h (keyV a, v) (by rw [he]; simp))
end
theorem lk_rs (h : LkS M a r M1 M2) : rsM M = rsM M1 ++ r :: rsM M2 ∨ (r = nilRw Dr ∧ rsM M = rsM M1 ++ rsM M2) := by
  rcases h with rfl | ⟨h, rfl, rfl, _⟩
  · exact .inl (by rw [rsM_app, rsM_cons])
  · exact .inr ⟨h, by simp [rsM]⟩
end
section
variable (O : Env) (M M' : Mp) (best best' : Dr)
theorem kS_10 : kS O M best 10 = .bx (drL best) := by unfold kS; rw [set_apply, if_pos rfl]
theorem kS_30 : kS O M best 30 = .mo (esM M) := by unfold kS; rw [set_apply, if_neg (by decide), set_apply, if_pos rfl]
theorem kS_9 : kS O M best 9 = O 9 := by unfold kS; rw [set_apply, if_neg (by decide), set_apply, if_neg (by decide)]
theorem kS_w10 : set (kS O M best) 10 (.bx (drL best')) = kS O M best' := by
  funext s; unfold kS; simp only [set_apply]; split <;> rfl
theorem kS_w30 : set (kS O M best) 30 (.mo (esM M')) = kS O M' best := by
  funext s; unfold kS; simp only [set_apply]; split <;> split <;> first | rfl | (exfalso; omega) | (split <;> first | rfl | (exfalso; omega))
theorem kS_form (h10 : O 10 = .bx (drL best)) (h30 : O 30 = .mo (esM M)) : SameForm O (kS O M' best') := fun s => by
  unfold kS; simp only [set_apply]
  split
  · rename_i e; subst e; exact .inr ⟨by decide, .inl ⟨_, _, h10, rfl⟩⟩
  · split
    · rename_i e; subst e; exact .inr ⟨by decide, .inr ⟨_, _, h30, rfl⟩⟩
    · exact .inl rfl
end
def rangeOf : Code → Option (Code × Code)
  | .rangeFunc _ _ a b => some (a, b)
  | .seq a b => match rangeOf a with
    | some x => some x
    | none => rangeOf b
  | .block _ c => rangeOf c
  | _ => none
end Go.Sg
