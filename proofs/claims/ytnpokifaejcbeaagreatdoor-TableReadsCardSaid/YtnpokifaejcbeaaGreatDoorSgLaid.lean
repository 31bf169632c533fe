/- What a package variable's reading says of its cells. -/
import Derived.Test.YtnpokifaejcbeaaGreatDoorSgGl
import Derived.Lib.LaidTab
import Derived.ChangeArms
set_option linter.unusedVariables false
set_option linter.unusedSimpArgs false
namespace Go.Sg
open Go.RowKit

/-- The cells of plain data: integers, arrays and structs of them. -/
def leafs {H : Type} (P : Program) : Nat → TypeId → DataW H → Option (List Value)
  | 0, _, _ => none
  | f + 1, t, d =>
    match P.underlying t, d with
    | some (.int k), .lit (.int k' z) => some [.int k' z]
    | some (.array n e), .agg ds => if ds.length = n ∧ P.cellsOf t = n * P.cellsOf e then (ds.mapM (leafs P f e)).map List.flatten else none
    | some (.struct fs), .agg ds => if ds.length = fs.size ∧ P.cellsOf t = fs.size ∧ ((List.range fs.size).all fun (i : Nat) => match (fs[i]? : Option Field) with
        | some fl => fl.offset == i && P.cellsOf fl.type == 1
        | none => false) = true then ((List.range fs.size).mapM fun (i : Nat) => match (fs[i]? : Option Field), (ds[i]? : Option (DataW H)) with
        | some fl, some d => leafs P f fl.type d
        | _, _ => none).map List.flatten else none
    | _, _ => none

theorem chunks (z : Nat) : ∀ (n : Nat) (cs : List Value), cs.length = n * z → cs = ((List.range n).map fun i => (cs.drop (i * z)).take z).flatten
  | 0, cs, h => by
    have : cs = [] := List.length_eq_zero_iff.1 (by omega)
    subst this; rfl
  | n + 1, cs, h => by
    have h1 := chunks z n (cs.drop z) (by rw [List.length_drop, h, Nat.succ_mul]; omega)
    rw [List.range_succ_eq_map, List.map_cons, List.flatten_cons, Nat.zero_mul, List.drop_zero, List.map_map]
    have h2 : (List.range n).map ((fun i => (cs.drop (i * z)).take z) ∘ Nat.succ) = (List.range n).map fun i => ((cs.drop z).drop (i * z)).take z := by
      refine List.map_congr_left fun i _ => ?_
      simp only [Function.comp, List.drop_drop, Nat.succ_mul]
      rw [Nat.add_comm z]
    rw [h2, ← h1, List.take_append_drop]

theorem map_ext {α : Type} {n : Nat} {g : Nat → α} {us : List α} (hl : us.length = n) (h : ∀ i, i < n → us[i]? = some (g i)) : (List.range n).map g = us := by
  apply List.ext_getElem?
  intro i
  by_cases hi : i < n
  · rw [h i hi]; simp [hi]
  · rw [List.getElem?_eq_none (by simp; omega), List.getElem?_eq_none (by omega)]

theorem leafs_ok {H : Type} {enc : TypeId × Value → H} {P : Program} {w : World} {base : Nat} {sp : Nat → Bool} {held : Bool} : ∀ (f : Nat) (t : TypeId) (d : DataW H) (us : List Value), leafs P f t d = some us →
    ∀ (fuel : Nat) (cs : List Value) (p : List MemPlace), DataW.trod enc P w base sp held fuel t cs = some (d, p) → cs = us
  | 0, _, _, _, h => by cases h
  | f + 1, t, d, us, h => by
    intro fuel cs p ht
    unfold leafs at h
    split at h
    · rename_i k k' z hu
      cases h
      obtain ⟨z', hc, hx, _⟩ := DataW.trod_int hu ht
      cases hx
      exact hc
    · rename_i n e ds hu
      split at h
      · rename_i hc
        obtain ⟨h1, h2⟩ := hc
        obtain ⟨uss, hm, rfl⟩ := Option.map_eq_some_iff.1 h
        cases fuel with
        | zero => simp [DataW.trod] at ht
        | succ fuel =>
          simp only [DataW.trod, hu] at ht
          split at ht
          · rename_i hl
            obtain ⟨xs, hm2, hx⟩ := Option.map_eq_some_iff.1 ht
            have hxs : xs.map (·.1) = ds := by
              have := congrArg Prod.fst hx
              simpa using this
            have hlen : cs.length = n * P.cellsOf e := by omega
            rw [chunks (P.cellsOf e) n cs hlen]
            congr 1
            have hul : uss.length = n := by rw [Lib.mapM_length hm, h1]
            refine map_ext hul fun i hi => ?_
            obtain ⟨b, hb, hf⟩ := Lib.mapM_at hm2 i i (by simp [hi])
            have hd : ds[i]? = some b.1 := by rw [← hxs, List.getElem?_map, hb]; rfl
            obtain ⟨u, hu1, hu2⟩ := Lib.mapM_at hm i _ hd
            rw [hu1, leafs_ok f e b.1 u hu2 _ _ b.2 hf]
          · cases ht
      · cases h
    · rename_i fs ds hu
      split at h
      · rename_i hc
        obtain ⟨h1, h2, h3⟩ := hc
        obtain ⟨uss, hm, rfl⟩ := Option.map_eq_some_iff.1 h
        obtain ⟨xs, n, rfl, hx, k1, k2, k3⟩ := DataW.trod_struct hu ht
        have hxs : ds = xs.map (·.1) := by
          have := congrArg Prod.fst hx
          simpa using this
        rw [chunks 1 fs.size cs (by omega)]
        congr 1
        have hul : uss.length = fs.size := by rw [Lib.mapM_length hm]; simp
        refine map_ext hul fun i hi => ?_
        obtain ⟨u, hu1, hu2⟩ := Lib.mapM_at hm i i (by simp [hi])
        rw [List.all_eq_true] at h3
        have h4 := h3 i (List.mem_range.2 hi)
        have hfi : fs[i]? = some fs[i] := Array.getElem?_eq_getElem hi
        simp only [hfi, Bool.and_eq_true, beq_iff_eq] at h4
        have h5 := k3 i fs[i] hfi
        rw [h4.1, h4.2] at h5
        have hxi : xs[i]? = some (xs[i]'(by omega)) := List.getElem?_eq_getElem (by omega)
        have hdi : ds[i]? = some (xs[i]'(by omega)).1 := by rw [hxs, List.getElem?_map, hxi]; rfl
        simp only [hfi, hdi] at hu2
        rw [hxi] at h5
        rw [hu1, Nat.mul_one, leafs_ok f _ _ u hu2 _ _ _ h5]
      · cases h
    · cases h

/-- One variable of the row's list. -/
theorem laid_cells {P : Program} {w : World} {n : String} {d : DataW Unit} {us : List Value} {g : Nat} (f : Nat) {t : TypeId} : ∀ {l : List (String × DataW Unit)} {ps : List MemPlace}, DataW.LaidVars P w l ps → (n, d) ∈ l → P.globalNamed n = some g → (P.globals[g]?).map (·.type) = some t →
    leafs P f t d = some us → w.ShapedOpen P → (((begin P (fun _ _ => 0) default).world.heap[g]?).bind Obj.row?).map (·.2) = some t → w.heap[g]? = some (.cells us.toArray t (0, 0))
  | [], _, _, hm, _, _, _, _, _ => by cases hm
  | (n', d') :: r, ps, hL, hm, hg, hty, hlf, hsh, hz => by
    obtain ⟨g', t', cs, fuel, p, q, k1, k2, k3, k4, k5, _⟩ := hL
    rcases List.mem_cons.1 hm with e | hm
    · cases e
      obtain rfl := Option.some.inj (hg.symm.trans k1)
      obtain rfl := Option.some.inj (hty.symm.trans k2)
      have hcs := leafs_ok f t d us hlf _ _ _ k4
      have hgl : g < P.globals.size := by
        rcases Nat.lt_or_ge g P.globals.size with h | h
        · exact h
        · rw [Array.getElem?_eq_none h] at hty; cases hty
      obtain ⟨⟨z, t2⟩, hz1, hz2⟩ := Option.map_eq_some_iff.1 hz
      cases hz2
      obtain ⟨cs', e1, _⟩ := hsh.1 g z _ hgl hz1
      unfold World.var? at k3
      rw [hg] at k3
      simp only [Option.bind_some, e1, Option.some.injEq] at k3
      subst k3
      rw [e1, ← hcs]
    · exact laid_cells f k5 hm hg hty hlf hsh hz
end Go.Sg
