/-
  No cell of these rows narrows 'for every input' (looked for: loops, veiled, ifaces, maps, wideKeys, modest, calm, conditions, laid).
  DERIVED. THE GIVEN ROWS OF THIS SEAT. 10 by the template 'for every input the law returns true; each argument reads behind the call as it read before'; 0 by the template 'total and deterministic' (their statements: YtdnecnnegbjahaaTotals.lean).
  GIVEN WITH THE SEED: the statements are not yours to turn. If you find one false, say at which input.
  Laid BY PROGRAM, IN A SANDBOX (cutbox-rows.mjs): the forced cells as the released guide's own fill.sh prints them over the translation d39dbbc21b1797b0… (all of the seat's roots in one cut). By AI agents, Wed Nov 11 2026. No macro, syntax, notation, axiom, sorry.
-/
import Derived.Test.YtdnecnnegbjahaaChecked
import GoSem.Claim
import GoSem.ClaimJoined
import GoSem.ClaimMapViews
import Derived.JoinedTies
import Derived.KernelRfl
namespace Go.Proofs.Ytdnecnnegbjahaa
/- THE CELL 'sum', in the pinned program and in every row, IS THE sha256 OF THE DUMP (.gsa) THAT YtdnecnnegbjahaaProg.lean LOADS. Nothing in Lean hashes anything: it is a label: what it is worth is what the hold of that sum in a sandbox is worth. -/
noncomputable def Try.pinned : Pinned := { name := "ytdnecnnegbjahaa", sum := "d39dbbc21b1797b048f39171ea31fe1f110388f7d7df7363a3db91494f08df38", checked := Try.checked }
namespace Rows
def none {H : Type} : Left H := { results := [], args := [] }

/-- 'signallinglaw28.FaultsAdds': WHATEVER THE INPUT: true; the input reads as it did. -/
def faultsAddsSpec : ChangeSpec := { name := "faultsAdds", fn := fun _ => fun
  | [d1, d2, d3] => { results := [.lit (.bool true)], args := [d1, d2, d3] }
  | _ => none }
def faultsAddsRow : OpenClaim := { program := "ytdnecnnegbjahaa", sum := "d39dbbc21b1797b048f39171ea31fe1f110388f7d7df7363a3db91494f08df38", func := "signalling/signallinglaw28.FaultsAdds", spec := "faultsAdds", unfollowed := true, recurses := true, apart := false }
def FaultsAddsSaid : Prop := faultsAddsRow.holds Try.pinned (OpenSpec.ofChange faultsAddsSpec)

/-- ITS FALSE NEIGHBOUR: 'it returns false'. Refute it at one input. -/
def faultsAddsWrong : ChangeSpec := { name := "faultsAdds", fn := fun _ => fun
  | [d1, d2, d3] => { results := [.lit (.bool false)], args := [d1, d2, d3] }
  | _ => none }
def FaultsAddsWrongFalsely : Prop := faultsAddsRow.holds Try.pinned (OpenSpec.ofChange faultsAddsWrong)

/-- 'signallinglaw28.FaultsPasses': WHATEVER THE INPUT: true; the input reads as it did. -/
def faultsPassesSpec : ChangeSpec := { name := "faultsPasses", fn := fun _ => fun
  | [d1, d2, d3] => { results := [.lit (.bool true)], args := [d1, d2, d3] }
  | _ => none }
def faultsPassesRow : OpenClaim := { program := "ytdnecnnegbjahaa", sum := "d39dbbc21b1797b048f39171ea31fe1f110388f7d7df7363a3db91494f08df38", func := "signalling/signallinglaw28.FaultsPasses", spec := "faultsPasses", unfollowed := true, recurses := true, apart := false }
def FaultsPassesSaid : Prop := faultsPassesRow.holds Try.pinned (OpenSpec.ofChange faultsPassesSpec)

/-- ITS FALSE NEIGHBOUR: 'it returns false'. Refute it at one input. -/
def faultsPassesWrong : ChangeSpec := { name := "faultsPasses", fn := fun _ => fun
  | [d1, d2, d3] => { results := [.lit (.bool false)], args := [d1, d2, d3] }
  | _ => none }
def FaultsPassesWrongFalsely : Prop := faultsPassesRow.holds Try.pinned (OpenSpec.ofChange faultsPassesWrong)

/-- 'signallinglaw28.FaultsLast': WHATEVER THE INPUT: true; the input reads as it did. -/
def faultsLastSpec : ChangeSpec := { name := "faultsLast", fn := fun _ => fun
  | [d1, d2, d3] => { results := [.lit (.bool true)], args := [d1, d2, d3] }
  | _ => none }
def faultsLastRow : OpenClaim := { program := "ytdnecnnegbjahaa", sum := "d39dbbc21b1797b048f39171ea31fe1f110388f7d7df7363a3db91494f08df38", func := "signalling/signallinglaw28.FaultsLast", spec := "faultsLast", unfollowed := true, recurses := true, apart := false }
def FaultsLastSaid : Prop := faultsLastRow.holds Try.pinned (OpenSpec.ofChange faultsLastSpec)

/-- ITS FALSE NEIGHBOUR: 'it returns false'. Refute it at one input. -/
def faultsLastWrong : ChangeSpec := { name := "faultsLast", fn := fun _ => fun
  | [d1, d2, d3] => { results := [.lit (.bool false)], args := [d1, d2, d3] }
  | _ => none }
def FaultsLastWrongFalsely : Prop := faultsLastRow.holds Try.pinned (OpenSpec.ofChange faultsLastWrong)

/-- 'signallinglaw28.FaultsObserves': WHATEVER THE INPUT: true; the input reads as it did. -/
def faultsObservesSpec : ChangeSpec := { name := "faultsObserves", fn := fun _ => fun
  | [d1, d2] => { results := [.lit (.bool true)], args := [d1, d2] }
  | _ => none }
def faultsObservesRow : OpenClaim := { program := "ytdnecnnegbjahaa", sum := "d39dbbc21b1797b048f39171ea31fe1f110388f7d7df7363a3db91494f08df38", func := "signalling/signallinglaw28.FaultsObserves", spec := "faultsObserves", unfollowed := true, recurses := true, apart := false }
def FaultsObservesSaid : Prop := faultsObservesRow.holds Try.pinned (OpenSpec.ofChange faultsObservesSpec)

/-- ITS FALSE NEIGHBOUR: 'it returns false'. Refute it at one input. -/
def faultsObservesWrong : ChangeSpec := { name := "faultsObserves", fn := fun _ => fun
  | [d1, d2] => { results := [.lit (.bool false)], args := [d1, d2] }
  | _ => none }
def FaultsObservesWrongFalsely : Prop := faultsObservesRow.holds Try.pinned (OpenSpec.ofChange faultsObservesWrong)

/-- 'signallinglaw28.FaultsRestrict': WHATEVER THE INPUT: true; the input reads as it did. -/
def faultsRestrictSpec : ChangeSpec := { name := "faultsRestrict", fn := fun _ => fun
  | [d1, d2, d3] => { results := [.lit (.bool true)], args := [d1, d2, d3] }
  | _ => none }
def faultsRestrictRow : OpenClaim := { program := "ytdnecnnegbjahaa", sum := "d39dbbc21b1797b048f39171ea31fe1f110388f7d7df7363a3db91494f08df38", func := "signalling/signallinglaw28.FaultsRestrict", spec := "faultsRestrict", unfollowed := true, recurses := true, apart := false }
def FaultsRestrictSaid : Prop := faultsRestrictRow.holds Try.pinned (OpenSpec.ofChange faultsRestrictSpec)

/-- ITS FALSE NEIGHBOUR: 'it returns false'. Refute it at one input. -/
def faultsRestrictWrong : ChangeSpec := { name := "faultsRestrict", fn := fun _ => fun
  | [d1, d2, d3] => { results := [.lit (.bool false)], args := [d1, d2, d3] }
  | _ => none }
def FaultsRestrictWrongFalsely : Prop := faultsRestrictRow.holds Try.pinned (OpenSpec.ofChange faultsRestrictWrong)

/-- 'signallinglaw15.ConflictReasons': WHATEVER THE INPUT: true; the input reads as it did. -/
def conflictReasonsSpec : ChangeSpec := { name := "conflictReasons", fn := fun _ => fun
  | [d1, d2] => { results := [.lit (.bool true)], args := [d1, d2] }
  | _ => none }
def conflictReasonsRow : OpenClaim := { program := "ytdnecnnegbjahaa", sum := "d39dbbc21b1797b048f39171ea31fe1f110388f7d7df7363a3db91494f08df38", func := "signalling/signallinglaw15.ConflictReasons", spec := "conflictReasons", unfollowed := true, recurses := true, apart := false }
def ConflictReasonsSaid : Prop := conflictReasonsRow.holds Try.pinned (OpenSpec.ofChange conflictReasonsSpec)

/-- ITS FALSE NEIGHBOUR: 'it returns false'. Refute it at one input. -/
def conflictReasonsWrong : ChangeSpec := { name := "conflictReasons", fn := fun _ => fun
  | [d1, d2] => { results := [.lit (.bool false)], args := [d1, d2] }
  | _ => none }
def ConflictReasonsWrongFalsely : Prop := conflictReasonsRow.holds Try.pinned (OpenSpec.ofChange conflictReasonsWrong)

/-- 'signallinglaw15.ConflictMatrix': WHATEVER THE INPUT: true; the input reads as it did. -/
def conflictMatrixSpec : ChangeSpec := { name := "conflictMatrix", fn := fun _ => fun
  | [d] => { results := [.lit (.bool true)], args := [d] }
  | _ => none }
def conflictMatrixRow : OpenClaim := { program := "ytdnecnnegbjahaa", sum := "d39dbbc21b1797b048f39171ea31fe1f110388f7d7df7363a3db91494f08df38", func := "signalling/signallinglaw15.ConflictMatrix", spec := "conflictMatrix", unfollowed := true, recurses := true, apart := false }
def ConflictMatrixSaid : Prop := conflictMatrixRow.holds Try.pinned (OpenSpec.ofChange conflictMatrixSpec)

/-- ITS FALSE NEIGHBOUR: 'it returns false'. Refute it at one input. -/
def conflictMatrixWrong : ChangeSpec := { name := "conflictMatrix", fn := fun _ => fun
  | [d] => { results := [.lit (.bool false)], args := [d] }
  | _ => none }
def ConflictMatrixWrongFalsely : Prop := conflictMatrixRow.holds Try.pinned (OpenSpec.ofChange conflictMatrixWrong)

/-- 'signallinglaw15.ConflictSymmetric': WHATEVER THE INPUT: true; the input reads as it did. -/
def conflictSymmetricSpec : ChangeSpec := { name := "conflictSymmetric", fn := fun _ => fun
  | [d1, d2] => { results := [.lit (.bool true)], args := [d1, d2] }
  | _ => none }
def conflictSymmetricRow : OpenClaim := { program := "ytdnecnnegbjahaa", sum := "d39dbbc21b1797b048f39171ea31fe1f110388f7d7df7363a3db91494f08df38", func := "signalling/signallinglaw15.ConflictSymmetric", spec := "conflictSymmetric", unfollowed := true, recurses := true, apart := false }
def ConflictSymmetricSaid : Prop := conflictSymmetricRow.holds Try.pinned (OpenSpec.ofChange conflictSymmetricSpec)

/-- ITS FALSE NEIGHBOUR: 'it returns false'. Refute it at one input. -/
def conflictSymmetricWrong : ChangeSpec := { name := "conflictSymmetric", fn := fun _ => fun
  | [d1, d2] => { results := [.lit (.bool false)], args := [d1, d2] }
  | _ => none }
def ConflictSymmetricWrongFalsely : Prop := conflictSymmetricRow.holds Try.pinned (OpenSpec.ofChange conflictSymmetricWrong)

/-- 'signallinglaw15.ConflictGrows': WHATEVER THE INPUT: true; the input reads as it did. -/
def conflictGrowsSpec : ChangeSpec := { name := "conflictGrows", fn := fun _ => fun
  | [d1, d2, d3, d4] => { results := [.lit (.bool true)], args := [d1, d2, d3, d4] }
  | _ => none }
def conflictGrowsRow : OpenClaim := { program := "ytdnecnnegbjahaa", sum := "d39dbbc21b1797b048f39171ea31fe1f110388f7d7df7363a3db91494f08df38", func := "signalling/signallinglaw15.ConflictGrows", spec := "conflictGrows", unfollowed := true, recurses := true, apart := false }
def ConflictGrowsSaid : Prop := conflictGrowsRow.holds Try.pinned (OpenSpec.ofChange conflictGrowsSpec)

/-- ITS FALSE NEIGHBOUR: 'it returns false'. Refute it at one input. -/
def conflictGrowsWrong : ChangeSpec := { name := "conflictGrows", fn := fun _ => fun
  | [d1, d2, d3, d4] => { results := [.lit (.bool false)], args := [d1, d2, d3, d4] }
  | _ => none }
def ConflictGrowsWrongFalsely : Prop := conflictGrowsRow.holds Try.pinned (OpenSpec.ofChange conflictGrowsWrong)

/-- 'signallinglaw15.ConflictNone': WHATEVER THE INPUT: true; the input reads as it did. -/
def conflictNoneSpec : ChangeSpec := { name := "conflictNone", fn := fun _ => fun
  | [d1, d2] => { results := [.lit (.bool true)], args := [d1, d2] }
  | _ => none }
def conflictNoneRow : OpenClaim := { program := "ytdnecnnegbjahaa", sum := "d39dbbc21b1797b048f39171ea31fe1f110388f7d7df7363a3db91494f08df38", func := "signalling/signallinglaw15.ConflictNone", spec := "conflictNone", unfollowed := true, recurses := true, apart := false }
def ConflictNoneSaid : Prop := conflictNoneRow.holds Try.pinned (OpenSpec.ofChange conflictNoneSpec)

/-- ITS FALSE NEIGHBOUR: 'it returns false'. Refute it at one input. -/
def conflictNoneWrong : ChangeSpec := { name := "conflictNone", fn := fun _ => fun
  | [d1, d2] => { results := [.lit (.bool false)], args := [d1, d2] }
  | _ => none }
def ConflictNoneWrongFalsely : Prop := conflictNoneRow.holds Try.pinned (OpenSpec.ofChange conflictNoneWrong)

/- THE SECOND FORM. 'bulk': how many values and letters a reading holds, each counted each time it is reached (what is shared counts as often as it is met; a slice's spare places count too). A statement '..UptoSaid' is the law's where the arguments, and the package variables that the reading takes, are together of bulk at most 1048576: NARROWER than '..Said'. Prove '..Said' where nothing that the law and all that it calls make is longer than what came in: it says more and counts as full. Else prove '..UptoSaid'. A law counts once. -/
mutual
def uptoBulk {H : Type} : DataW H → Nat
  | .lit (.string bytes) => bytes.length + 1
  | .lit _ => 1
  | .nil => 1
  | .ptr d => uptoBulk d + 1
  | .slice elems spare => uptoBulkAll elems + uptoBulkAll spare + 1
  | .agg parts => uptoBulkAll parts + 1
  | .iface _ d => uptoBulk d + 1
  | .map entries => uptoBulkEntries entries + 1
  | .held _ => 1
def uptoBulkAll {H : Type} : List (DataW H) → Nat
  | [] => 0
  | d :: r => uptoBulk d + uptoBulkAll r
def uptoBulkEntries {H : Type} : List (Lit × DataW H) → Nat
  | [] => 0
  | x :: r => uptoBulkEntry x + uptoBulkEntries r
def uptoBulkEntry {H : Type} : Lit × DataW H → Nat
  | (.string bytes, d) => bytes.length + uptoBulk d + 1
  | (_, d) => uptoBulk d + 1
 end
def uptoSmall : (H : Type) → List (DataW H) → Bool := fun _ ds => decide (uptoBulkAll ds ≤ 1048576)
def OpenSpec.upto (s : _root_.Go.ChangeSpec) : _root_.Go.OpenSpec := { _root_.Go.OpenSpec.ofChange s with cond := some uptoSmall }

/-- 'signallinglaw28.FaultsAdds', WHERE WHAT IT READS IS OF BULK AT MOST 1048576: true; the input reads as it did. -/
def faultsAddsUptoRow : OpenClaim := { program := "ytdnecnnegbjahaa", sum := "d39dbbc21b1797b048f39171ea31fe1f110388f7d7df7363a3db91494f08df38", func := "signalling/signallinglaw28.FaultsAdds", spec := "faultsAdds", unfollowed := true, recurses := true, apart := false, narrowed := true }
def FaultsAddsUptoSaid : Prop := faultsAddsUptoRow.holds Try.pinned (OpenSpec.upto faultsAddsSpec)

/-- 'signallinglaw28.FaultsPasses', WHERE WHAT IT READS IS OF BULK AT MOST 1048576: true; the input reads as it did. -/
def faultsPassesUptoRow : OpenClaim := { program := "ytdnecnnegbjahaa", sum := "d39dbbc21b1797b048f39171ea31fe1f110388f7d7df7363a3db91494f08df38", func := "signalling/signallinglaw28.FaultsPasses", spec := "faultsPasses", unfollowed := true, recurses := true, apart := false, narrowed := true }
def FaultsPassesUptoSaid : Prop := faultsPassesUptoRow.holds Try.pinned (OpenSpec.upto faultsPassesSpec)

/-- 'signallinglaw28.FaultsLast', WHERE WHAT IT READS IS OF BULK AT MOST 1048576: true; the input reads as it did. -/
def faultsLastUptoRow : OpenClaim := { program := "ytdnecnnegbjahaa", sum := "d39dbbc21b1797b048f39171ea31fe1f110388f7d7df7363a3db91494f08df38", func := "signalling/signallinglaw28.FaultsLast", spec := "faultsLast", unfollowed := true, recurses := true, apart := false, narrowed := true }
def FaultsLastUptoSaid : Prop := faultsLastUptoRow.holds Try.pinned (OpenSpec.upto faultsLastSpec)

/-- 'signallinglaw28.FaultsObserves', WHERE WHAT IT READS IS OF BULK AT MOST 1048576: true; the input reads as it did. -/
def faultsObservesUptoRow : OpenClaim := { program := "ytdnecnnegbjahaa", sum := "d39dbbc21b1797b048f39171ea31fe1f110388f7d7df7363a3db91494f08df38", func := "signalling/signallinglaw28.FaultsObserves", spec := "faultsObserves", unfollowed := true, recurses := true, apart := false, narrowed := true }
def FaultsObservesUptoSaid : Prop := faultsObservesUptoRow.holds Try.pinned (OpenSpec.upto faultsObservesSpec)

/-- 'signallinglaw28.FaultsRestrict', WHERE WHAT IT READS IS OF BULK AT MOST 1048576: true; the input reads as it did. -/
def faultsRestrictUptoRow : OpenClaim := { program := "ytdnecnnegbjahaa", sum := "d39dbbc21b1797b048f39171ea31fe1f110388f7d7df7363a3db91494f08df38", func := "signalling/signallinglaw28.FaultsRestrict", spec := "faultsRestrict", unfollowed := true, recurses := true, apart := false, narrowed := true }
def FaultsRestrictUptoSaid : Prop := faultsRestrictUptoRow.holds Try.pinned (OpenSpec.upto faultsRestrictSpec)

/-- 'signallinglaw15.ConflictReasons', WHERE WHAT IT READS IS OF BULK AT MOST 1048576: true; the input reads as it did. -/
def conflictReasonsUptoRow : OpenClaim := { program := "ytdnecnnegbjahaa", sum := "d39dbbc21b1797b048f39171ea31fe1f110388f7d7df7363a3db91494f08df38", func := "signalling/signallinglaw15.ConflictReasons", spec := "conflictReasons", unfollowed := true, recurses := true, apart := false, narrowed := true }
def ConflictReasonsUptoSaid : Prop := conflictReasonsUptoRow.holds Try.pinned (OpenSpec.upto conflictReasonsSpec)

/-- 'signallinglaw15.ConflictMatrix', WHERE WHAT IT READS IS OF BULK AT MOST 1048576: true; the input reads as it did. -/
def conflictMatrixUptoRow : OpenClaim := { program := "ytdnecnnegbjahaa", sum := "d39dbbc21b1797b048f39171ea31fe1f110388f7d7df7363a3db91494f08df38", func := "signalling/signallinglaw15.ConflictMatrix", spec := "conflictMatrix", unfollowed := true, recurses := true, apart := false, narrowed := true }
def ConflictMatrixUptoSaid : Prop := conflictMatrixUptoRow.holds Try.pinned (OpenSpec.upto conflictMatrixSpec)

/-- 'signallinglaw15.ConflictSymmetric', WHERE WHAT IT READS IS OF BULK AT MOST 1048576: true; the input reads as it did. -/
def conflictSymmetricUptoRow : OpenClaim := { program := "ytdnecnnegbjahaa", sum := "d39dbbc21b1797b048f39171ea31fe1f110388f7d7df7363a3db91494f08df38", func := "signalling/signallinglaw15.ConflictSymmetric", spec := "conflictSymmetric", unfollowed := true, recurses := true, apart := false, narrowed := true }
def ConflictSymmetricUptoSaid : Prop := conflictSymmetricUptoRow.holds Try.pinned (OpenSpec.upto conflictSymmetricSpec)

/-- 'signallinglaw15.ConflictGrows', WHERE WHAT IT READS IS OF BULK AT MOST 1048576: true; the input reads as it did. -/
def conflictGrowsUptoRow : OpenClaim := { program := "ytdnecnnegbjahaa", sum := "d39dbbc21b1797b048f39171ea31fe1f110388f7d7df7363a3db91494f08df38", func := "signalling/signallinglaw15.ConflictGrows", spec := "conflictGrows", unfollowed := true, recurses := true, apart := false, narrowed := true }
def ConflictGrowsUptoSaid : Prop := conflictGrowsUptoRow.holds Try.pinned (OpenSpec.upto conflictGrowsSpec)

/-- 'signallinglaw15.ConflictNone', WHERE WHAT IT READS IS OF BULK AT MOST 1048576: true; the input reads as it did. -/
def conflictNoneUptoRow : OpenClaim := { program := "ytdnecnnegbjahaa", sum := "d39dbbc21b1797b048f39171ea31fe1f110388f7d7df7363a3db91494f08df38", func := "signalling/signallinglaw15.ConflictNone", spec := "conflictNone", unfollowed := true, recurses := true, apart := false, narrowed := true }
def ConflictNoneUptoSaid : Prop := conflictNoneUptoRow.holds Try.pinned (OpenSpec.upto conflictNoneSpec)

end Rows
end Go.Proofs.Ytdnecnnegbjahaa
