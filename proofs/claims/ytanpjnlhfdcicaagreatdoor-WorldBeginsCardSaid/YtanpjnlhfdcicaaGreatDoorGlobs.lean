/- The package variables that the row lists, as cells; a world that holds them. -/
import Derived.Test.YtanpjnlhfdcicaaGreatDoorK3
import Derived.Deep.DeepHandedRow
import Derived.ProofKit
import Derived.Test.YtanpjnlhfdcicaaGreatDoorRows
import Derived.WalkKit
set_option linter.unusedSectionVars false
set_option linter.unusedVariables false
set_option linter.unusedSimpArgs false
namespace Go.Sg
open Go.Proofs Go.Proofs.YtanpjnlhfdcicaaGreatDoor Go.RowKit
theorem cMv {W:World} (h:laidMetH Tryz.prog Rows.worldBeginsRow.laid W) (hs:W.ShapedOpen Tryz.prog): ∀g us e,GT g=some (us,e)→W.heap[g]?=some (.cells us e (0,0)):=by
 have h':laidMet Tryz.prog Rows.worldBeginsRow.laid W:=h;obtain ⟨ps,hL,_⟩:=h';intro g us e hg;unfold GT at hg;split at hg<;>cases hg
 ·have:=qS 4 (n:= "signalling/rail.passages") (d:=Rows.laid_signalling_rail_passages) (g:=0) (t:=301) (us:=bFq.toList) hL (.tail _ (.tail _ (.tail _ (.tail _ (.head _))))) (by kernel_rfl) (by kernel_rfl) (by kernel_rfl) hs (by kernel_rfl)
  rwa [Array.toArray_toList] at this
 ·have:=qS 4 (n:= "signalling/rail.sides") (d:=Rows.laid_signalling_rail_sides) (g:=1) (t:=189) (us:=aXr.toList) hL (.tail _ (.tail _ (.tail _ (.head _)))) (by kernel_rfl) (by kernel_rfl) (by kernel_rfl) hs (by kernel_rfl)
  rwa [Array.toArray_toList] at this
 ·have:=qS 4 (n:= "internal/strconv.uint64pow10") (d:=Rows.laid_internal_strconv_uint64pow10) (g:=2) (t:=347) (us:=bEr.toList) hL (.tail _ (.tail _ (.head _))) (by kernel_rfl) (by kernel_rfl) (by kernel_rfl) hs (by kernel_rfl)
  rwa [Array.toArray_toList] at this
 ·have:=qS 4 (n:= "math/bits.deBruijn32tab") (d:=Rows.laid_math_bits_deBruijn32tab) (g:=3) (t:=352) (us:=bNq.toList) hL (.head _) (by kernel_rfl) (by kernel_rfl) (by kernel_rfl) hs (by kernel_rfl)
  rwa [Array.toArray_toList] at this
 have:=qS 4 (n:= "math/bits.deBruijn64tab") (d:=Rows.laid_math_bits_deBruijn64tab) (g:=4) (t:=353) (us:=bNz.toList) hL (.tail _ (.head _)) (by kernel_rfl) (by kernel_rfl) (by kernel_rfl) hs (by kernel_rfl)
 rwa [Array.toArray_toList] at this
noncomputable def aHb (os:Os):World:=
 {World.holding Tryz.prog os ⟨#[],#[],[]⟩ with heap:=((((((World.holding Tryz.prog os ⟨#[],#[],[]⟩).heap.modify 0 fun
   | .cells _ t z=>.cells bFq t z
   |o=>o).modify 1 fun
   | .cells _ t z=>.cells aXr t z
   |o=>o).modify 2 fun
   | .cells _ t z=>.cells bEr t z
   |o=>o).modify 3 fun
   | .cells _ t z=>.cells bNq t z
   |o=>o).modify 4 fun
   | .cells _ t z=>.cells bNz t z
   |o=>o)}
theorem bTs (os:Os) (args:Array Value):laidMet Tryz.prog Rows.worldBeginsRow.laid ((aHb os).forCall (fun _ _=>0) ⟨#[],args,[]⟩).memory:=
 laidMet_of_run' 8 (by kernel_rfl) (by kernel_rfl)
end Go.Sg
