/- The package variables that the rows list, as cells; a world that holds them. -/
import Derived.Test.YtnpokifaejcbeaaGreatDoorRows
import Derived.Test.YtnpokifaejcbeaaGreatDoorSgLaid
import Derived.WalkKit
import Derived.ProofKit
import Derived.Deep.DeepHandedRow
set_option linter.unusedVariables false
set_option linter.unusedSimpArgs false
namespace Go.Sg
open Go.Proofs Go.Proofs.YtnpokifaejcbeaaGreatDoor Go.RowKit
theorem globs {W : World} (h : laidMetH Tryz.prog Rows.tableChecksRow.laid W) (hs : W.ShapedOpen Tryz.prog) : ∀ g us e, GT g = some (us, e) → W.heap[g]? = some (.cells us e (0, 0)) := by
  have h' : laidMet Tryz.prog Rows.tableChecksRow.laid W := h
  obtain ⟨ps, hL, _⟩ := h'
  intro g us e hg
  unfold GT at hg
  split at hg <;> cases hg
  · have := laid_cells 4 (n := "signalling/rail.passages") (d := Rows.laid_signalling_rail_passages) (g := 0) (t := 184) (us := glob0.toList) hL (.tail _ (.tail _ (.tail _ (.tail _ (.head _))))) (by kernel_rfl) (by kernel_rfl) (by kernel_rfl) hs (by kernel_rfl)
    rwa [Array.toArray_toList] at this
  · have := laid_cells 4 (n := "signalling/rail.sides") (d := Rows.laid_signalling_rail_sides) (g := 1) (t := 185) (us := glob1.toList) hL (.tail _ (.tail _ (.tail _ (.head _)))) (by kernel_rfl) (by kernel_rfl) (by kernel_rfl) hs (by kernel_rfl)
    rwa [Array.toArray_toList] at this
  · have := laid_cells 4 (n := "internal/strconv.uint64pow10") (d := Rows.laid_internal_strconv_uint64pow10) (g := 2) (t := 227) (us := glob2.toList) hL (.tail _ (.tail _ (.head _))) (by kernel_rfl) (by kernel_rfl) (by kernel_rfl) hs (by kernel_rfl)
    rwa [Array.toArray_toList] at this
  · have := laid_cells 4 (n := "math/bits.deBruijn32tab") (d := Rows.laid_math_bits_deBruijn32tab) (g := 3) (t := 230) (us := glob3.toList) hL (.head _) (by kernel_rfl) (by kernel_rfl) (by kernel_rfl) hs (by kernel_rfl)
    rwa [Array.toArray_toList] at this
  · have := laid_cells 4 (n := "math/bits.deBruijn64tab") (d := Rows.laid_math_bits_deBruijn64tab) (g := 4) (t := 231) (us := glob4.toList) hL (.tail _ (.head _)) (by kernel_rfl) (by kernel_rfl) (by kernel_rfl) hs (by kernel_rfl)
    rwa [Array.toArray_toList] at this
/-- A world for the witness. -/
noncomputable def laidWorld (os : Os) : World :=
  { World.holding Tryz.prog os ⟨#[], #[], []⟩ with heap := ((((((World.holding Tryz.prog os ⟨#[], #[], []⟩).heap.modify 0 fun
      | .cells _ t z => .cells glob0 t z
      | o => o).modify 1 fun
      | .cells _ t z => .cells glob1 t z
      | o => o).modify 2 fun
      | .cells _ t z => .cells glob2 t z
      | o => o).modify 3 fun
      | .cells _ t z => .cells glob3 t z
      | o => o).modify 4 fun
      | .cells _ t z => .cells glob4 t z
      | o => o) }
theorem laid_met (os : Os) (args : Array Value) : laidMet Tryz.prog Rows.tableChecksRow.laid ((laidWorld os).forCall (fun _ _ => 0) ⟨#[], args, []⟩).memory :=
  laidMet_of_run' 8 (by kernel_rfl) (by kernel_rfl)
end Go.Sg
