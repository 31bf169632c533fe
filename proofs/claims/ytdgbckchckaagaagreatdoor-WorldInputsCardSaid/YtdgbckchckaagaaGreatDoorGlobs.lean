/- The package variables that the row lists, as cells; a world that holds them. -/
import Derived.Test.YtdgbckchckaagaaGreatDoorP3
import Derived.Deep.DeepHandedRow
import Derived.ProofKit
import Derived.Test.YtdgbckchckaagaaGreatDoorRows
import Derived.WalkKit
set_option linter.unusedSectionVars false
set_option linter.unusedVariables false
set_option linter.unusedSimpArgs false
namespace Go.Sg
open Go.Proofs Go.Proofs.YtdgbckchckaagaaGreatDoor Go.RowKit
theorem bRt {W:World} (h:laidMetH Tryz.prog Rows.worldInputsRow.laid W) (hs:W.ShapedOpen Tryz.prog): ∀g us e,GT g=some (us,e)→W.heap[g]?=some (.cells us e (0,0)):=by
 have h':laidMet Tryz.prog Rows.worldInputsRow.laid W:=h;obtain ⟨ps,hL,_⟩:=h';intro g us e hg;unfold GT at hg;split at hg<;>cases hg
 ·have:=jQ 4 (n:= "signalling/rail.passages") (d:=Rows.laid_signalling_rail_passages) (g:=0) (t:=360) (us:=bBi.toList) hL (.tail _ (.tail _ (.tail _ (.tail _ (.head _))))) (by kernel_rfl) (by kernel_rfl) (by kernel_rfl) hs (by kernel_rfl)
  rwa [Array.toArray_toList] at this
 ·have:=jQ 4 (n:= "signalling/rail.sides") (d:=Rows.laid_signalling_rail_sides) (g:=1) (t:=274) (us:=aWp.toList) hL (.tail _ (.tail _ (.tail _ (.head _)))) (by kernel_rfl) (by kernel_rfl) (by kernel_rfl) hs (by kernel_rfl)
  rwa [Array.toArray_toList] at this
 ·have:=jQ 4 (n:= "internal/strconv.uint64pow10") (d:=Rows.laid_internal_strconv_uint64pow10) (g:=2) (t:=396) (us:=bBa.toList) hL (.tail _ (.tail _ (.head _))) (by kernel_rfl) (by kernel_rfl) (by kernel_rfl) hs (by kernel_rfl)
  rwa [Array.toArray_toList] at this
 ·have:=jQ 4 (n:= "math/bits.deBruijn32tab") (d:=Rows.laid_math_bits_deBruijn32tab) (g:=3) (t:=401) (us:=bCd.toList) hL (.head _) (by kernel_rfl) (by kernel_rfl) (by kernel_rfl) hs (by kernel_rfl)
  rwa [Array.toArray_toList] at this
 have:=jQ 4 (n:= "math/bits.deBruijn64tab") (d:=Rows.laid_math_bits_deBruijn64tab) (g:=4) (t:=402) (us:=bAp.toList) hL (.tail _ (.head _)) (by kernel_rfl) (by kernel_rfl) (by kernel_rfl) hs (by kernel_rfl)
 rwa [Array.toArray_toList] at this
noncomputable def yB (os:Os):World:=
 {World.holding Tryz.prog os ⟨#[],#[],[]⟩ with heap:=((((((World.holding Tryz.prog os ⟨#[],#[],[]⟩).heap.modify 0 fun
   | .cells _ t z=>.cells bBi t z
   |o=>o).modify 1 fun
   | .cells _ t z=>.cells aWp t z
   |o=>o).modify 2 fun
   | .cells _ t z=>.cells bBa t z
   |o=>o).modify 3 fun
   | .cells _ t z=>.cells bCd t z
   |o=>o).modify 4 fun
   | .cells _ t z=>.cells bAp t z
   |o=>o)}
theorem aWz (os:Os) (args:Array Value):laidMet Tryz.prog Rows.worldInputsRow.laid ((yB os).forCall (fun _ _=>0) ⟨#[],args,[]⟩).memory:=
 laidMet_of_run' 8 (by kernel_rfl) (by kernel_rfl)
end Go.Sg
