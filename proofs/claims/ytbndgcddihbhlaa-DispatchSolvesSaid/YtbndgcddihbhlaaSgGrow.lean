/- slices.Grow of nil: an empty row of the caller's own, from the shelf's contract. -/
import Derived.Test.YtbndgcddihbhlaaSgC
import Derived.Shelf.Spec.SlicesGrow
set_option linter.unusedVariables false
set_option linter.unusedSimpArgs false
namespace Go.Sg
open Go.RowKit
theorem zeroCells_size (z : Array Value) (n : Nat) : (Builtin.zeroCells z n).size = n * z.size := by simp [Builtin.zeroCells]
theorem pcall_grow {P : Program} {ρ : Go.Shelf.Ren} (L : Go.Proofs.Lays8.n4 P ρ) {e z by_ : Nat} {t : TypeId} {zs : List Value} (ht : ρ.t 22 = t) (he : ρ.t 25 = e) (hsl : slE P t = some (e, z, by_)) (hz : zcOf P e = some zs) (hz0 : 0 < z) (hzl : zs.length = z) {f : FuncId} (hf : ρ.f 4 = f) (O : Env) (n : Nat) (hn : 0 < n) (hb : n * by_ ≤ 140737488355328) (hb2 : n ≤ 4611686018427387904) :
    PCall P O f [.v (.slice none 0 0), .v (.int .i64 n)] (.row e z []) := by
  obtain ⟨hu, i, hi, rfl, rfl⟩ := slE_spec hsl
  obtain ⟨i', zv, hi', hzv, rfl, hone⟩ := zcOf_spec hz
  rw [hi] at hi'
  cases hi'
  subst ht; subst he; subst hf
  intro w I A vals hO hl hv
  obtain ⟨v0, v1, rfl⟩ : ∃ v0 v1, vals = #[v0, v1] := by
    obtain ⟨l⟩ := vals
    match l, hl with
    | [a, b], _ => exact ⟨a, b, rfl⟩
  have h0 := hv 0 _ _ rfl rfl
  have h1 := hv 1 _ _ rfl rfl
  cases h0
  cases h1
  have hG := grownCap_ge w (0 + n) 0 (ρ.t 25)
  have hGm := grownCap_le_maxLen w (0 + n) 0 (ρ.t 25) (by unfold maxLen; omega)
  have := Go.Proofs.Any8.slices_Grow_grow L i zv hi hzv hz0 none 0 0 n [] w (by omega) (by omega) (by simpa using hb) (by omega) (by simp) (fun _ => rfl) (by simp)
  refine this.mono fun e' w' ⟨q1, q2⟩ => ?_
  subst q2
  have hgr : Grow w I (w.drew.alloc (.cells ((#[] : Array Value) ++ Builtin.zeroCells zv.cells (0 + n - 0) ++ Builtin.zeroCells zv.cells (grownCap w (0 + n) 0 (ρ.t 25) - (0 + n))) (ρ.t 25))) I :=
    ⟨rfl, ⟨rfl, Nat.le_succ _⟩, rfl, by simp, fun g hg => (Below.heap_alloc w.drew _ g hg).trans rfl, fun _ h => h, fun _ h => .inl h⟩
  refine ⟨_, I, O, .row (ρ.t 25) i.size [], q1, hgr.osim hO, fun _ => frOk.refl _, fun _ h => h, hgr.ext hO, ?_, rfl, rfl⟩
  refine ⟨some w.heap.size, grownCap w (0 + n) 0 (ρ.t 25), ⟨_, baseOk_mk _, rfl⟩, ?_, fun g hg => ?_⟩
  · refine ⟨_, Array.getElem?_push_size (xs := w.drew.heap), ?_, hGm, Nat.zero_le _, fun j x hx => by simp at hx⟩
    simp only [Array.size_append, zeroCells_size]
    have hzs : zv.cells.size = i.size := by simpa using hzl
    rw [hzs]
    have : (0 + n - 0) * i.size + (grownCap w (0 + n) 0 (ρ.t 25) - (0 + n)) * i.size = grownCap w (0 + n) 0 (ρ.t 25) * i.size := by
      rw [← Nat.add_mul]; congr 1; omega
    simpa using this
  · cases hg
    exact ⟨Nat.le_refl _, by simp, fun h => Nat.lt_irrefl _ (hO.imm _ h)⟩
theorem pcall_grow0 {P : Program} {ρ : Go.Shelf.Ren} (L : Go.Proofs.Lays8.n4 P ρ) {t : TypeId} (ht : ρ.t 22 = t) {f : FuncId} (hf : ρ.f 4 = f) (O : Env) (e z : Nat) :
    PCall P O f [.v (.slice none 0 0), .v (.int .i64 (0 : Nat))] (.row e z []) := by
  subst ht; subst hf
  intro w I A vals hO hl hv
  obtain ⟨v0, v1, rfl⟩ : ∃ v0 v1, vals = #[v0, v1] := by
    obtain ⟨l⟩ := vals
    match l, hl with
    | [a, b], _ => exact ⟨a, b, rfl⟩
  have h0 := hv 0 _ _ rfl rfl
  have h1 := hv 1 _ _ rfl rfl
  cases h0
  cases h1
  refine (Go.Proofs.Any8.slices_Grow_room L none 0 0 0 w (by omega) (by omega) (by omega) (by omega)).mono fun e' w' ⟨q1, q2⟩ => ?_
  subst q2
  exact ⟨_, I, O, .row e z [], q1, hO, fun _ => frOk.refl _, fun _ h => h, Ext.refl _ _ _, ⟨none, 0, ⟨none, baseOk_none _, rfl⟩, ⟨rfl, rfl⟩, fun g hg => by cases hg⟩, rfl, rfl⟩
end Go.Sg
