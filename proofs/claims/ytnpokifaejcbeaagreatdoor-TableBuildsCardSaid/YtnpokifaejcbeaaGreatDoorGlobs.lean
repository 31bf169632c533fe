/- The package variables that the rows list, as cells; a world that holds them. -/
import Derived.Test.YtnpokifaejcbeaaGreatDoorK1
import Derived.Deep.DeepHandedRow
import Derived.ProofKit
import Derived.Test.YtnpokifaejcbeaaGreatDoorRows
import Derived.WalkKit
set_option linter.unusedVariables false
set_option linter.unusedSimpArgs false
namespace Go.Sg
open Go.Proofs Go.Proofs.YtnpokifaejcbeaaGreatDoor Go.RowKit
theorem bQd {W : World} (h : laidMetH Tryz.prog Rows.tableChecksRow.laid W) (hs : W.ShapedOpen Tryz.prog) : ∀ g us e, GT g = some (us, e) → W.heap[g]? = some (.cells us e (0, 0)) := by
 have h' : laidMet Tryz.prog Rows.tableChecksRow.laid W := h
 obtain ⟨ps, hL, _⟩ := h'
 intro g us e hg
 unfold GT at hg
 split at hg <;> cases hg
 ·have := kK 4 (n := "signalling/rail.passages") (d := Rows.laid_signalling_rail_passages) (g := 0) (t := 184) (us := aOe.toList) hL (.tail _ (.tail _ (.tail _ (.tail _ (.head _))))) (by kernel_rfl) (by kernel_rfl) (by kernel_rfl) hs (by kernel_rfl)
  rwa [Array.toArray_toList] at this
 ·have := kK 4 (n := "signalling/rail.sides") (d := Rows.laid_signalling_rail_sides) (g := 1) (t := 185) (us := aGo.toList) hL (.tail _ (.tail _ (.tail _ (.head _)))) (by kernel_rfl) (by kernel_rfl) (by kernel_rfl) hs (by kernel_rfl)
  rwa [Array.toArray_toList] at this
 ·have := kK 4 (n := "internal/strconv.uint64pow10") (d := Rows.laid_internal_strconv_uint64pow10) (g := 2) (t := 227) (us := aOa.toList) hL (.tail _ (.tail _ (.head _))) (by kernel_rfl) (by kernel_rfl) (by kernel_rfl) hs (by kernel_rfl)
  rwa [Array.toArray_toList] at this
 ·have := kK 4 (n := "math/bits.deBruijn32tab") (d := Rows.laid_math_bits_deBruijn32tab) (g := 3) (t := 230) (us := aWe.toList) hL (.head _) (by kernel_rfl) (by kernel_rfl) (by kernel_rfl) hs (by kernel_rfl)
  rwa [Array.toArray_toList] at this
 have := kK 4 (n := "math/bits.deBruijn64tab") (d := Rows.laid_math_bits_deBruijn64tab) (g := 4) (t := 231) (us := aVx.toList) hL (.tail _ (.head _)) (by kernel_rfl) (by kernel_rfl) (by kernel_rfl) hs (by kernel_rfl)
 rwa [Array.toArray_toList] at this
noncomputable def vX (os : Os) : World :=
 { World.holding Tryz.prog os ⟨#[], #[], []⟩ with heap := ((((((World.holding Tryz.prog os ⟨#[], #[], []⟩).heap.modify 0 fun
   | .cells _ t z => .cells aOe t z
   | o => o).modify 1 fun
   | .cells _ t z => .cells aGo t z
   | o => o).modify 2 fun
   | .cells _ t z => .cells aOa t z
   | o => o).modify 3 fun
   | .cells _ t z => .cells aWe t z
   | o => o).modify 4 fun
   | .cells _ t z => .cells aVx t z
   | o => o) }
theorem aTi (os : Os) (args : Array Value) : laidMet Tryz.prog Rows.tableChecksRow.laid ((vX os).forCall (fun _ _ => 0) ⟨#[], args, []⟩).memory :=
 laidMet_of_run' 8 (by kernel_rfl) (by kernel_rfl)
end Go.Sg
