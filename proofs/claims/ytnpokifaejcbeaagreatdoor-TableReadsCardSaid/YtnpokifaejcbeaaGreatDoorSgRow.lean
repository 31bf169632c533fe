/- Slices of the call's own: literals, make, append, a store into one. -/
import Derived.Test.YtnpokifaejcbeaaGreatDoorSgEff
import Derived.IntWalk
set_option linter.unusedVariables false
set_option linter.unusedSimpArgs false
namespace Go.Sg
open Go.RowKit

/-- A slice type's element: its type, cells and bytes. -/
def slE (P : Program) (t : TypeId) : Option (TypeId × Nat × Nat) :=
  match P.underlying t with
  | some (.slice e) => (P.info? e).map fun i => (e, i.size, i.bytes)
  | _ => none

section
variable {P : Program} {nt : Nat} {ρ : Env} {ops : Array Oper}

theorem slE_spec {t : TypeId} {e : TypeId} {z b : Nat} (h : slE P t = some (e, z, b)) : P.underlying t = some (.slice e) ∧ ∃ i, P.info? e = some i ∧ i.size = z ∧ i.bytes = b := by
  unfold slE at h
  split at h <;> try cases h
  rename_i e' hu
  cases hi : P.info? e' with
  | none => rw [hi] at h; cases h
  | some i =>
    rw [hi] at h
    simp at h
    obtain ⟨rfl, rfl, rfl⟩ := h
    exact ⟨hu, i, hi, rfl, rfl⟩

/-- A new row of the call's own. -/
theorem Sim.newRow {w : World} {I : Nat → Prop} {A : Own} {a : Act} (hs : Sim nt w I A ρ a) {d : Nat} (hd : d < nt) {e : TypeId} {z c : Nat} {xs : List (List DV)} {us : Array Value} (hu : us.size = c * z) (hc : c ≤ maxLen) (hx : xs.length ≤ c)
    (hr : ∀ (i : Nat) (x : List DV), xs[i]? = some x → x.length = z ∧ ∀ (j : Nat) (d : DV) (u : Value), x[j]? = some d → us[i * z + j]? = some u → u.oneCell' = true ∧ Rel w I noOwn d u) :
    ∃ A', Sim nt (w.alloc (.cells us e)) I A' (set (kill d ρ) d (.row e z xs)) (a.put (some d) (.slice (some ⟨w.heap.size, 0, none⟩) xs.length c)) ∧ Ext w I A (w.alloc (.cells us e)) I A' := by
  have hb := hs.bound
  have hgr := Grow.alloc hs.osim (.cells us e)
  have hs1 := hs.grow hgr
  refine ⟨upd A d (some (some w.heap.size, c)), ?_, ?_⟩
  · refine hs1.own hd (fun g hg => ?_) ⟨_, c, upd_same _ _ _, _, baseOk_mk _, rfl⟩ ⟨_, c, upd_same _ _ _, us, heap_alloc_new w _, hu, hc, hx, fun i x hx => ⟨(hr i x hx).1, fun j d' u h1 h2 => ⟨((hr i x hx).2 j d' u h1 h2).1, hgr.rel hs.osim ((hr i x hx).2 j d' u h1 h2).2⟩⟩⟩
    cases hg
    refine ⟨by simp, fun hi => ?_, fun s c' _ hc => ?_⟩
    · have := hs.osim.imm _ hi; omega
    · have := (hs.osim.sep s _ c' hc).1; omega
  · refine ⟨rfl, ⟨rfl, Nat.le_refl _⟩, rfl, by simp, fun _ h => h, fun g hg hA => ⟨hgr.heap g hg, fun h => h, fun s c hc => ?_⟩, fun s g c hc hg hl' => ?_, fun s h => upd_ne A _ (by omega)⟩
    · rcases upd_eq_some hc with ⟨_, h⟩ | ⟨_, h⟩
      · simp only [Option.some.injEq, Prod.mk.injEq] at h; omega
      · exact hA s c h
    · rcases upd_eq_some hc with ⟨_, h⟩ | ⟨_, h⟩
      · simp only [Option.some.injEq, Prod.mk.injEq] at h; omega
      · exact ⟨s, c, hl', h⟩

/-- New settled cells: a literal that nobody writes. -/
theorem Sim.newData {w : World} {I : Nat → Prop} {A : Own} {a : Act} (hs : Sim nt w I A ρ a) (e : TypeId) (us : Array Value) :
    Grow w I (w.alloc (.cells us e)) (fun g => I g ∨ g = w.heap.size) :=
  ⟨rfl, ⟨rfl, Nat.le_refl _⟩, rfl, by simp, fun g hg => Below.heap_alloc w _ g hg, fun _ h => .inl h, fun g h => h.imp id fun e => ⟨by omega, by simp [e]⟩⟩

theorem ow_makeSlice {o : Oper} {K : Env → Prop} {t : TypeId} {x y : Operand} {d : Nat} {e : TypeId} {z by_ : Nat} {zs : List Value} {k k' : IntKind} {n c : Int} (hop : o.op = .makeSlice t x y) (hg : o.guard = none) (hdst : o.dst = some d) (hd : d < nt)
    (ho : opsOk nt o = true) (hx : ev ρ x = .v (.int k n)) (hy : ev ρ y = .v (.int k' c)) (hs : slE P t = some (e, z, by_)) (hz : zcOf P e = some zs) (hzl : zs.length = z) (h0 : 0 ≤ n) (h1 : n ≤ c) (h2 : c ≤ 9223372036854775807)
    (h3 : c * by_ ≤ 140737488355328) (hK : K (set (kill d ρ) d (.row e z (List.replicate n.toNat (zs.map .v))))) : OW P nt ops o K ρ := by
  obtain ⟨hu, i, hi, rfl, rfl⟩ := slE_spec hs
  obtain ⟨i', zv, hi', hzv, rfl, hone⟩ := zcOf_spec hz
  rw [hi] at hi'
  cases hi'
  refine ow_val hg fun I A a w hsim => ?_
  have hxr := hsim.opd x (opsOk_mem ho (by simp [hop, Op.operands])) (by rw [hx]; trivial)
  have hyr := hsim.opd y (opsOk_mem ho (by simp [hop, Op.operands])) (by rw [hy]; trivial)
  rw [hx] at hxr
  rw [hy] at hyr
  have hxe : a.eval x = .int k n := by
    have hxr : Rel w I A (.v (.int k n)) (a.eval x) := hxr
    generalize a.eval x = q at hxr ⊢
    cases hxr; rfl
  have hye : a.eval y = .int k' c := by
    have hyr : Rel w I A (.v (.int k' c)) (a.eval y) := hyr
    generalize a.eval y = q at hyr ⊢
    cases hyr; rfl
  have hwn : IntKind.i64.wrap n = n := IntWalk.i64_in n ⟨by omega, by omega⟩
  have hwc : IntKind.i64.wrap c = c := IntWalk.i64_in c ⟨by omega, by omega⟩
  have hzs : zv.cells.size = i.size := by simpa using hzl
  obtain ⟨us, husd⟩ : ∃ us : Array Value, us = (Array.range (c.toNat * i.size)).map (zv.cells[· % zv.cells.size]!) := ⟨_, rfl⟩
  have hus : us.size = c.toNat * i.size := by simp [husd]
  have hget : ∀ m r, m < c.toNat → r < i.size → us[m * i.size + r]? = zv.cells[r]? := fun m r hm hr => by
    have hlt : m * i.size + r < c.toNat * i.size := by
      have : (m + 1) * i.size ≤ c.toNat * i.size := Nat.mul_le_mul_right _ (by omega)
      rw [Nat.succ_mul] at this
      omega
    have e1 : (m * i.size + r) % zv.cells.size = r := by rw [hzs, Nat.mul_comm, Nat.mul_add_mod, Nat.mod_eq_of_lt hr]
    simp only [husd, Array.getElem?_map, Array.getElem?_range, hlt, if_true, Option.map_some, e1]
    rw [Array.getElem?_eq_getElem (by omega), getElem!_pos _ _ (by omega)]
  have hrun : (execOp a.eval o).run P w = .ok (.value (.slice (some ⟨w.heap.size, 0, none⟩) n.toNat c.toNat)) (w.alloc (.cells us e)) := by
    simp only [execOp, hop, hxe, hye, Instr.makeSlice, asInt, asIntOf, Sem.run_bind, run_underlying hu, Result.andThen_ok, Sem.run_pure, run_typeInfo w hi, hwn, hwc, run_askRoom, run_sizeOf w hi, Program.cellsOf, hi, Option.map_some, Option.getD_some]
    have hcond : (decide (c < 0) || decide ((i.bytes : Int) * c > 2 ^ 48) || decide (n < 0) || decide (n > c)) = false := by
      have hc48 : (i.bytes : Int) * c ≤ 140737488355328 := by rw [Int.mul_comm]; exact h3
      have e48 : (2 : Int) ^ 48 = 281474976710656 := by decide
      simp only [Bool.or_eq_false_iff, decide_eq_false_iff_not, e48]
      omega
    rw [hcond, if_neg (by simp)]
    simp only [Sem.run_bind, run_askRoom, Result.andThen_ok, run_sizeOf w hi, Program.cellsOf, hi, Option.map_some, Option.getD_some]
    by_cases hzero : c.toNat * i.size = 0
    · have he : us = #[] := by
        apply Array.eq_empty_of_size_eq_zero
        rw [hus, hzero]
      rw [if_pos hzero, he]
      simp [newRow, hzero, Array.range_zero']
    · rw [if_neg hzero]
      simp [zeroValue, run_typeInfo w hi, hzv, newRow, husd]
  obtain ⟨A', k1, k2⟩ := hsim.newRow hd (e := e) (z := i.size) (c := c.toNat) (xs := List.replicate n.toNat (zv.cells.toList.map .v)) (us := us) hus (by unfold maxLen; omega) (by simp; omega) (fun m x hx => by
    rw [List.getElem?_replicate] at hx
    split at hx <;> cases hx
    rename_i hm
    refine ⟨by simp [hzs], fun r dv u hd hu => ?_⟩
    simp only [List.getElem?_map, Option.map_eq_some_iff, Array.getElem?_toList] at hd
    obtain ⟨q, hq, rfl⟩ := hd
    have hr : r < i.size := by
      rw [← hzs]
      rcases Nat.lt_or_ge r zv.cells.size with h | h
      · exact h
      · rw [Array.getElem?_eq_none h] at hq; cases hq
    rw [hget m r (by omega) hr, hq] at hu
    cases hu
    exact ⟨hone _ (by simpa using Array.mem_of_getElem? hq), .v _ _⟩)
  refine ⟨_, _, I, A', _, hrun, ?_, k2, hK⟩
  rw [hdst]
  simpa using k1

/-! ## Slice literals -/

/-- The parts of a literal, each a settled element. -/
def bsL (ρ : Env) (parts : List (Nat × Operand)) : List (List DV) := parts.map fun p => cellsD (un (ev ρ p.2))

/-- What is owed at a literal of n elements, all written, none holding a reference. -/
def bsOk (ρ : Env) (z : Nat) : Nat → List (Nat × Operand) → Prop
  | _, [] => True
  | k, p :: l => p.1 = k ∧ gd (ev ρ p.2) ∧ (cellsD (un (ev ρ p.2))).length = z ∧ allKL (fun _ => false) (cellsD (un (ev ρ p.2))) = true ∧ bsOk ρ z (k + 1) l

theorem bsOk_get {z : Nat} : ∀ {parts : List (Nat × Operand)} {k : Nat}, bsOk ρ z k parts → ∀ (j : Nat) (p : Nat × Operand), parts[j]? = some p →
    p.1 = k + j ∧ gd (ev ρ p.2) ∧ (cellsD (un (ev ρ p.2))).length = z ∧ allKL (fun _ => false) (cellsD (un (ev ρ p.2))) = true
  | [], _, _, j, p, hp => by simp at hp
  | q :: l, k, h, j, p, hp => by
    obtain ⟨h1, h2, h3, h4, h5⟩ := h
    cases j with
    | zero => simp at hp; subst hp; exact ⟨by omega, h2, h3, h4⟩
    | succ j =>
      have := bsOk_get h5 j p (by simpa using hp)
      exact ⟨by omega, this.2⟩

theorem foldl_set (off : Nat) (xs : List Value) : ∀ (cs : Array Value) (k : Nat), off + k + xs.length ≤ cs.size →
    ((xs.zipIdx k).foldl (fun cs (p : Value × Nat) => cs.setIfInBounds (off + p.2) p.1) cs).size = cs.size ∧
    ∀ q, ((xs.zipIdx k).foldl (fun cs (p : Value × Nat) => cs.setIfInBounds (off + p.2) p.1) cs)[q]? = if off + k ≤ q ∧ q < off + k + xs.length then xs[q - (off + k)]? else cs[q]? := by
  induction xs with
  | nil => intro cs k h; exact ⟨rfl, fun q => by rw [if_neg (by simp)]; rfl⟩
  | cons x xs ih =>
    intro cs k h
    simp only [List.length_cons] at h
    obtain ⟨h1, h2⟩ := ih (cs.setIfInBounds (off + k) x) (k + 1) (by simp; omega)
    rw [List.zipIdx_cons, List.foldl_cons]
    refine ⟨by rw [h1]; simp, fun q => ?_⟩
    rw [h2 q, List.length_cons, Array.getElem?_setIfInBounds]
    by_cases hq : q = off + k
    · subst hq
      rw [if_neg (by omega), if_pos rfl, if_pos (by omega), if_pos (by omega)]
      simp
    · by_cases h3 : off + (k + 1) ≤ q ∧ q < off + (k + 1) + xs.length
      · rw [if_pos h3, if_pos (by omega)]
        obtain ⟨m, rfl⟩ : ∃ m, q = off + k + 1 + m := ⟨q - (off + k + 1), by omega⟩
        rw [show off + k + 1 + m - (off + k) = m + 1 from by omega, show off + k + 1 + m - (off + (k + 1)) = m from by omega]
        simp
      · rw [if_neg h3, if_neg (fun e => hq e.symm), if_neg (by omega)]

/-- What lies where parts have been laid. -/
theorem fill_spec (place : Nat → Option (Nat × Nat)) : ∀ (parts : List (Nat × Value)) (cells : Array Value),
    (∀ (j i : Nat) (v : Value), parts[j]? = some (i, v) → ∃ off, place i = some (off, v.cells.size) ∧ off + v.cells.size ≤ cells.size) →
    ∃ out, Instr.fill place cells parts = some out ∧ out.size = cells.size ∧
      ∀ q, (∃ (j i : Nat) (v : Value) (off : Nat), parts[j]? = some (i, v) ∧ place i = some (off, v.cells.size) ∧ off ≤ q ∧ q < off + v.cells.size ∧ out[q]? = v.cells[q - off]?) ∨
        ((∀ (j i : Nat) (v : Value) (off : Nat), parts[j]? = some (i, v) → place i = some (off, v.cells.size) → ¬ (off ≤ q ∧ q < off + v.cells.size)) ∧ out[q]? = cells[q]?)
  | [], cells, _ => ⟨cells, rfl, rfl, fun q => .inr ⟨by simp, rfl⟩⟩
  | (i, v) :: rest, cells, h => by
    obtain ⟨off, hp, hl⟩ := h 0 i v (by simp)
    obtain ⟨f1, f2⟩ := foldl_set off v.cells.toList cells 0 (by simp; omega)
    simp only [Nat.add_zero, Array.length_toList] at f1 f2
    have hzip : (v.cells.zipIdx.foldl (fun cs (p : Value × Nat) => cs.setIfInBounds (off + p.2) p.1) cells) = (v.cells.toList.zipIdx 0).foldl (fun cs (p : Value × Nat) => cs.setIfInBounds (off + p.2) p.1) cells := by
      rw [← Array.foldl_toList, Array.toList_zipIdx]
    obtain ⟨out, o1, o2, o3⟩ := fill_spec place rest ((v.cells.toList.zipIdx 0).foldl (fun cs (p : Value × Nat) => cs.setIfInBounds (off + p.2) p.1) cells) (fun j i' v' hj => by
      obtain ⟨off', k1, k2⟩ := h (j + 1) i' v' (by simpa using hj)
      exact ⟨off', k1, by rw [f1]; exact k2⟩)
    refine ⟨out, ?_, o2.trans f1, fun q => ?_⟩
    · unfold Instr.fill
      simp only [hp]
      rw [if_neg (by simp; omega)]
      rw [← hzip] at o1
      exact o1
    · rcases o3 q with ⟨j, i', v', off', k1, k2, k3, k4, k5⟩ | ⟨k1, k2⟩
      · exact .inl ⟨j + 1, i', v', off', by simpa using k1, k2, k3, k4, k5⟩
      · rw [k2, f2 q]
        by_cases hq : off ≤ q ∧ q < off + v.cells.size
        · rw [if_pos hq]
          exact .inl ⟨0, i, v, off, by simp, hp, hq.1, hq.2, by simp⟩
        · rw [if_neg hq]
          refine .inr ⟨fun j i' v' off' hj hp' => ?_, rfl⟩
          cases j with
          | zero =>
            simp at hj
            obtain ⟨rfl, rfl⟩ := hj
            rw [hp] at hp'
            simp at hp'
            subst hp'
            exact hq
          | succ j => exact k1 j i' v' off' (by simpa using hj) hp'

theorem mul_range {z i q : Nat} (hz : 0 < z) (h1 : i * z ≤ q) (h2 : q < i * z + z) : q / z = i := by
  obtain ⟨r, rfl⟩ : ∃ r, q = i * z + r := ⟨q - i * z, by omega⟩
  rw [Nat.add_comm, Nat.add_mul_div_right _ _ hz, Nat.div_eq_of_lt (by omega)]
  omega

theorem ow_lit {o : Oper} {K : Env → Prop} {t : TypeId} {n : Nat} {parts : Array (Nat × Operand)} {d : Nat} {e : TypeId} {z by_ : Nat} {zs : List Value} (hop : o.op = .buildSlice t n parts) (hg : o.guard = none) (hdst : o.dst = some d) (hd : d < nt)
    (ho : opsOk nt o = true) (hs : slE P t = some (e, z, by_)) (hz : zcOf P e = some zs) (hz0 : 0 < z) (hn0 : 0 < n) (hn : n * z ≤ 16777216) (hl : parts.toList.length = n) (hp : bsOk ρ z 0 parts.toList)
    (hK : K (set ρ d (.sl z n fun i => (bsL ρ parts.toList).getD i []))) : OW P nt ops o K ρ := by
  obtain ⟨hu, i, hi, rfl, rfl⟩ := slE_spec hs
  obtain ⟨i', zv, hi', hzv, rfl, _⟩ := zcOf_spec hz
  rw [hi] at hi'
  cases hi'
  refine ow_val hg fun I A a w hsim => ?_
  have hpart : ∀ (j : Nat) (p : Nat × Operand), parts.toList[j]? = some p → p.1 = j ∧ (a.eval p.2).cells.size = i.size ∧ (∀ u ∈ (a.eval p.2).cells.toList, u.oneCell' = true) ∧
      ∀ (r : Nat) (x : DV) (u : Value), (cellsD (un (ev ρ p.2)))[r]? = some x → (a.eval p.2).cells[r]? = some u → Rel w I noOwn x u := fun j p hj => by
    obtain ⟨h1, h2, h3, h4⟩ := bsOk_get hp j p hj
    have hx := hsim.opd p.2 (opsOk_mem ho (by
      simp only [hop, Op.operands]
      simp
      exact ⟨p.1, by have := List.mem_of_getElem? hj; simpa using this⟩)) h2
    obtain ⟨k1, k2, k3⟩ := cells_ok hx (.inl (by omega))
    exact ⟨by omega, by omega, k2, fun r x u hx hu => (k3 r x u hx hu).pure (allKL_get h4 hx)⟩
  let vparts : List (Nat × Value) := parts.toList.map fun p => (p.1, a.eval p.2)
  have hv : ∀ (j k : Nat) (v : Value), vparts[j]? = some (k, v) → ∃ p, parts.toList[j]? = some p ∧ p.1 = k ∧ a.eval p.2 = v := fun j k v h => by
    simp only [vparts, List.getElem?_map, Option.map_eq_some_iff] at h
    obtain ⟨p, hp, he⟩ := h
    simp at he
    exact ⟨p, hp, he.1, he.2⟩
  obtain ⟨zero, hzero⟩ : ∃ zero : Array Value, zero = (Array.range (n * i.size)).map (zv.cells[· % zv.cells.size]!) := ⟨_, rfl⟩
  have hzsz : zero.size = n * i.size := by simp [hzero]
  obtain ⟨out, o1, o2, o3⟩ := fill_spec (fun k => some (k * i.size, i.size)) vparts zero (fun j k v h => by
    obtain ⟨p, hpj, rfl, rfl⟩ := hv j k v h
    obtain ⟨h1, h2, _⟩ := hpart j p hpj
    have hjn : j < n := by
      rw [← hl]
      rcases Nat.lt_or_ge j parts.toList.length with h | h
      · exact h
      · rw [List.getElem?_eq_none h] at hpj; cases hpj
    refine ⟨p.1 * i.size, by rw [h2], ?_⟩
    rw [hzsz, h2, h1]
    have : (j + 1) * i.size ≤ n * i.size := Nat.mul_le_mul_right _ hjn
    rw [Nat.succ_mul] at this
    exact this)
  rw [hzsz] at o2
  have hout : ∀ (j : Nat) (p : Nat × Operand) (r : Nat), parts.toList[j]? = some p → r < i.size → out[j * i.size + r]? = (a.eval p.2).cells[r]? := fun j p r hj hr => by
    obtain ⟨h1, h2, _⟩ := hpart j p hj
    have hvj : vparts[j]? = some (p.1, a.eval p.2) := by simp only [vparts, List.getElem?_map, hj]; rfl
    rcases o3 (j * i.size + r) with ⟨j', k, v, off, k1, k2, k3, k4, k5⟩ | ⟨k1, _⟩
    · obtain ⟨p', hp', rfl, rfl⟩ := hv j' k v k1
      obtain ⟨h1', h2', _⟩ := hpart j' p' hp'
      simp only [Option.some.injEq, Prod.mk.injEq] at k2
      obtain ⟨rfl, _⟩ := k2
      have e1 := mul_range (z := i.size) (i := p'.1) hz0 k3 (by omega)
      have e2 := mul_range (z := i.size) (i := j) (q := j * i.size + r) hz0 (by omega) (by omega)
      have : j' = j := by omega
      subst this
      rw [hj] at hp'
      cases hp'
      rw [k5, h1]
      congr 1
      omega
    · exact absurd ⟨by rw [h1]; omega, by rw [h1, h2]; omega⟩ (k1 j p.1 _ (p.1 * i.size) hvj (by rw [h2]))
  have hgr := hsim.newData e out
  refine ⟨.slice (some ⟨w.heap.size, 0, none⟩) n n, _, _, A, _, ?_, ?_, hgr.ext hsim.osim, hK⟩
  · have hne : n * i.size ≠ 0 := by
      have := Nat.mul_pos hn0 hz0
      omega
    have hmap : (parts.map fun p => (p.1, a.eval p.2)).toList = vparts := by simp [vparts]
    have h24 : ¬ (n * i.size > 2 ^ 24) := by
      have : (2 : Nat) ^ 24 = 16777216 := by decide
      omega
    simp only [execOp, hop, Instr.buildSlice, Sem.run_bind, run_underlying hu, Result.andThen_ok, run_sizeOf w hi, Program.cellsOf, hi, Option.map_some, Option.getD_some, h24, if_false, hne, zeroValue, run_typeInfo w hi, hzv, Sem.run_pure, Sem.run_ite]
    simp only [hmap]
    rw [← hzero, o1]
    simp [newRow]
  · rw [hdst]
    refine (hsim.grow hgr).put hd (.ofRel ?_) (.ofPure rfl)
    have hgetp : ∀ m, m < n → ∃ p, parts.toList[m]? = some p ∧ (bsL ρ parts.toList).getD m [] = cellsD (un (ev ρ p.2)) := fun m hm => by
      have h1 : parts.toList[m]? = some (parts.toList[m]'(by omega)) := List.getElem?_eq_getElem (by omega)
      exact ⟨_, h1, by simp only [bsL, List.getD_eq_getElem?_getD, List.getElem?_map, h1]; rfl⟩
    refine .sl A i.size n _ w.heap.size 0 n (fun m r => out.getD (m * i.size + r) undef) hn0 (Nat.le_refl _) ?_ (.inr rfl) (fun m hm => ?_) (fun m r hm hr => ?_) (fun m r hm hr => ?_) fun m r x hm hx => ?_
    · unfold maxLen
      have : n * 1 ≤ n * i.size := Nat.mul_le_mul_left _ hz0
      omega
    · obtain ⟨p, hp1, hp2⟩ := hgetp m hm
      rw [hp2]
      exact (bsOk_get hp m p hp1).2.2.1
    · obtain ⟨p, hp1, hp2⟩ := hgetp m hm
      have hlt : m * i.size + r < out.size := by
        rw [o2]
        have : (m + 1) * i.size ≤ n * i.size := Nat.mul_le_mul_right _ hm
        rw [Nat.succ_mul] at this
        omega
      rw [Nat.zero_add, World.cell?_alloc_new]
      simp [Array.getElem?_eq_getElem hlt]
    · obtain ⟨p, hp1, hp2⟩ := hgetp m hm
      obtain ⟨_, h2, h3, _⟩ := hpart m p hp1
      have := hout m p r hp1 hr
      rw [Array.getElem?_eq_getElem (show r < (a.eval p.2).cells.size by omega)] at this
      simp only [Array.getD_eq_getD_getElem?, this, Option.getD_some]
      exact h3 _ (by simp)
    · obtain ⟨p, hp1, hp2⟩ := hgetp m hm
      rw [hp2] at hx
      obtain ⟨_, h2, _, h4⟩ := hpart m p hp1
      have hr : r < i.size := by
        rw [← (bsOk_get hp m p hp1).2.2.1]
        rcases Nat.lt_or_ge r (cellsD (un (ev ρ p.2))).length with h | h
        · exact h
        · rw [List.getElem?_eq_none h] at hx; cases hx
      have := hout m p r hp1 hr
      rw [Array.getElem?_eq_getElem (show r < (a.eval p.2).cells.size by omega)] at this
      simp only [Array.getD_eq_getD_getElem?, this, Option.getD_some]
      exact hgr.rel hsim.osim (h4 r x _ hx (by simp [Array.getElem?_eq_getElem (show r < (a.eval p.2).cells.size by omega)]))

/-- The same, settled at once. -/
theorem ow_mkS {o : Oper} {K : Env → Prop} {t : TypeId} {x y : Operand} {d : Nat} {e : TypeId} {z by_ : Nat} {zs : List Value} {k k' : IntKind} {n c : Int} (hop : o.op = .makeSlice t x y) (hg : o.guard = none) (hdst : o.dst = some d) (hd : d < nt)
    (ho : opsOk nt o = true) (hx : ev ρ x = .v (.int k n)) (hy : ev ρ y = .v (.int k' c)) (hs : slE P t = some (e, z, by_)) (hz : zcOf P e = some zs) (hzl : zs.length = z) (h0 : 0 ≤ n) (h1 : n ≤ c) (h2 : c ≤ 9223372036854775807)
    (h3 : c * by_ ≤ 140737488355328) (hK : K (set ρ d (.sl z n.toNat fun _ => zs.map .v))) : OW P nt ops o K ρ := by
  obtain ⟨hu, i, hi, rfl, rfl⟩ := slE_spec hs
  obtain ⟨i', zv, hi', hzv, rfl, hone⟩ := zcOf_spec hz
  rw [hi] at hi'
  cases hi'
  refine ow_val hg fun I A a w hsim => ?_
  have hxr := hsim.opd x (opsOk_mem ho (by simp [hop, Op.operands])) (by rw [hx]; trivial)
  have hyr := hsim.opd y (opsOk_mem ho (by simp [hop, Op.operands])) (by rw [hy]; trivial)
  rw [hx] at hxr
  rw [hy] at hyr
  have hxe : a.eval x = .int k n := by
    have hxr : Rel w I A (.v (.int k n)) (a.eval x) := hxr
    generalize a.eval x = q at hxr ⊢
    cases hxr; rfl
  have hye : a.eval y = .int k' c := by
    have hyr : Rel w I A (.v (.int k' c)) (a.eval y) := hyr
    generalize a.eval y = q at hyr ⊢
    cases hyr; rfl
  have hwn : IntKind.i64.wrap n = n := IntWalk.i64_in n ⟨by omega, by omega⟩
  have hwc : IntKind.i64.wrap c = c := IntWalk.i64_in c ⟨by omega, by omega⟩
  have hzs : zv.cells.size = i.size := by simpa using hzl
  obtain ⟨us, husd⟩ : ∃ us : Array Value, us = (Array.range (c.toNat * i.size)).map (zv.cells[· % zv.cells.size]!) := ⟨_, rfl⟩
  have hus : us.size = c.toNat * i.size := by simp [husd]
  have hget : ∀ m r, m < c.toNat → r < i.size → us[m * i.size + r]? = zv.cells[r]? := fun m r hm hr => by
    have hlt : m * i.size + r < c.toNat * i.size := by
      have : (m + 1) * i.size ≤ c.toNat * i.size := Nat.mul_le_mul_right _ (by omega)
      rw [Nat.succ_mul] at this
      omega
    have e1 : (m * i.size + r) % zv.cells.size = r := by rw [hzs, Nat.mul_comm, Nat.mul_add_mod, Nat.mod_eq_of_lt hr]
    simp only [husd, Array.getElem?_map, Array.getElem?_range, hlt, if_true, Option.map_some, e1]
    rw [Array.getElem?_eq_getElem (by omega), getElem!_pos _ _ (by omega)]
  have hrun : (execOp a.eval o).run P w = .ok (.value (.slice (some ⟨w.heap.size, 0, none⟩) n.toNat c.toNat)) (w.alloc (.cells us e)) := by
    simp only [execOp, hop, hxe, hye, Instr.makeSlice, asInt, asIntOf, Sem.run_bind, run_underlying hu, Result.andThen_ok, Sem.run_pure, run_typeInfo w hi, hwn, hwc, run_askRoom, run_sizeOf w hi, Program.cellsOf, hi, Option.map_some, Option.getD_some]
    have hcond : (decide (c < 0) || decide ((i.bytes : Int) * c > 2 ^ 48) || decide (n < 0) || decide (n > c)) = false := by
      have hc48 : (i.bytes : Int) * c ≤ 140737488355328 := by rw [Int.mul_comm]; exact h3
      have e48 : (2 : Int) ^ 48 = 281474976710656 := by decide
      simp only [Bool.or_eq_false_iff, decide_eq_false_iff_not, e48]
      omega
    rw [hcond, if_neg (by simp)]
    simp only [Sem.run_bind, run_askRoom, Result.andThen_ok, run_sizeOf w hi, Program.cellsOf, hi, Option.map_some, Option.getD_some]
    by_cases hzero : c.toNat * i.size = 0
    · have he : us = #[] := by
        apply Array.eq_empty_of_size_eq_zero
        rw [hus, hzero]
      rw [if_pos hzero, he]
      simp [newRow, hzero, Array.range_zero']
    · rw [if_neg hzero]
      simp [zeroValue, run_typeInfo w hi, hzv, newRow, husd]
  have hgr := hsim.newData e us
  refine ⟨_, _, _, A, _, hrun, ?_, hgr.ext hsim.osim, hK⟩
  rw [hdst]
  refine (hsim.grow hgr).put hd (.ofRel ?_) (.ofPure rfl)
  rcases Nat.eq_zero_or_pos n.toNat with h00 | h00
  · rw [h00]; exact .sl0 A _ _ _ _
  · refine .sl A i.size n.toNat _ w.heap.size 0 c.toNat (fun m r => us.getD (m * i.size + r) undef) h00 (by omega) (by unfold maxLen; omega) (.inr rfl) (fun m hm => by simp [hzs]) (fun m r hm hr => ?_) (fun m r hm hr => ?_) fun m r x hm hx => ?_
    · have hlt : m * i.size + r < us.size := by
        rw [hus]
        have : (m + 1) * i.size ≤ c.toNat * i.size := Nat.mul_le_mul_right _ (by omega)
        rw [Nat.succ_mul] at this
        omega
      rw [Nat.zero_add, World.cell?_alloc_new]
      simp [Array.getElem?_eq_getElem hlt]
    · have := hget m r (by omega) hr
      simp only [Array.getD_eq_getD_getElem?, this]
      rw [Array.getElem?_eq_getElem (by omega)]
      exact hone _ (by simp)
    · have hr : r < i.size := by
        have := (List.getElem?_eq_some_iff.1 hx).1
        simpa [hzs] using this
      have := hget m r (by omega) hr
      simp only [Array.getD_eq_getD_getElem?, this]
      simp only [List.getElem?_map, Option.map_eq_some_iff, Array.getElem?_toList] at hx
      obtain ⟨q, hq, rfl⟩ := hx
      rw [hq]
      exact .v _ _

/-- A literal of no elements: a row of the call's own. -/
theorem ow_litE {o : Oper} {K : Env → Prop} {t : TypeId} {d : Nat} {e : TypeId} {z by_ : Nat} (hop : o.op = .buildSlice t 0 #[]) (hg : o.guard = none) (hdst : o.dst = some d) (hd : dstOk nt o = true)
    (hs : slE P t = some (e, z, by_)) (hK : K (set ρ d .ez)) : OW P nt ops o K ρ := by
  obtain ⟨hu, i, hi, rfl, rfl⟩ := slE_spec hs
  refine ow_val hg fun I A a w hsim => ?_
  have hgr := Grow.alloc hsim.osim (.cells #[] e)
  have hs1 := hsim.grow hgr
  refine ⟨.slice (some ⟨w.heap.size, 0, none⟩) 0 0, w.alloc (.cells #[] e), I, A, _, ?_, hs1.putV hd (.ez A _), hgr.ext hsim.osim, by rw [hdst]; exact hK⟩
  simp [execOp, hop, Instr.buildSlice, run_underlying hu, run_sizeOf w hi, Program.cellsOf, hi, Instr.fill, newRow, Array.range_zero']

theorem ow_lit0 {o : Oper} {K : Env → Prop} {t : TypeId} {d : Nat} {e : TypeId} {z by_ : Nat} (hop : o.op = .buildSlice t 0 #[]) (hg : o.guard = none) (hdst : o.dst = some d) (hd : d < nt)
    (hs : slE P t = some (e, z, by_)) (hK : K (set (kill d ρ) d (.row e z []))) : OW P nt ops o K ρ := by
  obtain ⟨hu, i, hi, rfl, rfl⟩ := slE_spec hs
  refine ow_val hg fun I A a w hsim => ?_
  obtain ⟨A', k1, k2⟩ := hsim.newRow hd (e := e) (z := i.size) (c := 0) (xs := []) (us := #[]) (by simp) (by unfold maxLen; omega) (by simp) (fun m x hx => by simp at hx)
  refine ⟨.slice (some ⟨w.heap.size, 0, none⟩) 0 0, _, I, A', _, ?_, by rw [hdst]; exact k1, k2, hK⟩
  simp [execOp, hop, Instr.buildSlice, run_underlying hu, run_sizeOf w hi, Instr.fill, newRow, Array.range_zero']

end
end Go.Sg
