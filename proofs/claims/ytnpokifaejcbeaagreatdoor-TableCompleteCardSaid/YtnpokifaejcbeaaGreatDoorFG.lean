/- Several texts as one. -/
import Derived.Test.YtnpokifaejcbeaaGreatDoorF1
import Derived.Deep.DeepHandedRow
import Derived.ProofKit
import Derived.Test.YtnpokifaejcbeaaGreatDoorRows
import Derived.WalkKit
set_option linter.unusedSectionVars false
set_option linter.unusedVariables false
set_option linter.unusedSimpArgs false
namespace Go.Sg
open Go.Proofs Go.Proofs.YtnpokifaejcbeaaGreatDoor Go.RowKit
theorem bEj {W : World} (h : laidMetH Tryz.prog Rows.tableChecksRow.laid W) (hs : W.ShapedOpen Tryz.prog) : ∀ g us e, GT g = some (us, e) → W.heap[g]? = some (.cells us e (0, 0)) := by
 have h' : laidMet Tryz.prog Rows.tableChecksRow.laid W := h
 obtain ⟨ps, hL, _⟩ := h'
 intro g us e hg
 unfold GT at hg
 split at hg <;> cases hg
 ·have := kJ 4 (n := "signalling/rail.passages") (d := Rows.laid_signalling_rail_passages) (g := 0) (t := 184) (us := aMm.toList) hL (.tail _ (.tail _ (.tail _ (.tail _ (.head _))))) (by kernel_rfl) (by kernel_rfl) (by kernel_rfl) hs (by kernel_rfl)
  rwa [Array.toArray_toList] at this
 ·have := kJ 4 (n := "signalling/rail.sides") (d := Rows.laid_signalling_rail_sides) (g := 1) (t := 185) (us := aIp.toList) hL (.tail _ (.tail _ (.tail _ (.head _)))) (by kernel_rfl) (by kernel_rfl) (by kernel_rfl) hs (by kernel_rfl)
  rwa [Array.toArray_toList] at this
 ·have := kJ 4 (n := "internal/strconv.uint64pow10") (d := Rows.laid_internal_strconv_uint64pow10) (g := 2) (t := 227) (us := aLx.toList) hL (.tail _ (.tail _ (.head _))) (by kernel_rfl) (by kernel_rfl) (by kernel_rfl) hs (by kernel_rfl)
  rwa [Array.toArray_toList] at this
 ·have := kJ 4 (n := "math/bits.deBruijn32tab") (d := Rows.laid_math_bits_deBruijn32tab) (g := 3) (t := 230) (us := aSx.toList) hL (.head _) (by kernel_rfl) (by kernel_rfl) (by kernel_rfl) hs (by kernel_rfl)
  rwa [Array.toArray_toList] at this
 have := kJ 4 (n := "math/bits.deBruijn64tab") (d := Rows.laid_math_bits_deBruijn64tab) (g := 4) (t := 231) (us := aUp.toList) hL (.tail _ (.head _)) (by kernel_rfl) (by kernel_rfl) (by kernel_rfl) hs (by kernel_rfl)
 rwa [Array.toArray_toList] at this
noncomputable def nY (os : Os) : World :=
 { World.holding Tryz.prog os ⟨#[], #[], []⟩ with heap := ((((((World.holding Tryz.prog os ⟨#[], #[], []⟩).heap.modify 0 fun
   | .cells _ t z => .cells aMm t z
   | o => o).modify 1 fun
   | .cells _ t z => .cells aIp t z
   | o => o).modify 2 fun
   | .cells _ t z => .cells aLx t z
   | o => o).modify 3 fun
   | .cells _ t z => .cells aSx t z
   | o => o).modify 4 fun
   | .cells _ t z => .cells aUp t z
   | o => o) }
theorem aHk (os : Os) (args : Array Value) : laidMet Tryz.prog Rows.tableChecksRow.laid ((nY os).forCall (fun _ _ => 0) ⟨#[], args, []⟩).memory :=
 laidMet_of_run' 8 (by kernel_rfl) (by kernel_rfl)
end Go.Sg
