/-
  No cell of these rows narrows 'for every input' (looked for: loops, veiled, ifaces, maps, wideKeys, modest, calm, conditions, laid).
  DERIVED. THE GIVEN ROWS OF THIS SEAT. 4 by the template 'for every input the law returns true; each argument reads behind the call as it read before'; 0 by the template 'total and deterministic' (their statements: YtgjbmlffbpcdiaaGreatTotals.lean).
  GIVEN WITH THE SEED: the statements are not yours to turn. If you find one false, say at which input.
  Laid BY PROGRAM, IN A SANDBOX (cutbox-rows.mjs): the forced cells as the released guide's own fill.sh prints them over the translation 556c3de0f4d80b5a… (all of the seat's roots in one cut). By AI agents, Wed Nov 11 2026. No macro, syntax, notation, axiom, sorry.
-/
import Derived.Test.YtgjbmlffbpcdiaaGreatChecked
import GoSem.Claim
import GoSem.ClaimJoined
import GoSem.ClaimMapViews
import Derived.JoinedTies
import Derived.KernelRfl
namespace Go.Proofs.YtgjbmlffbpcdiaaGreat
/- THE CELL 'sum', in the pinned program and in every row, IS THE sha256 OF THE DUMP (.gsa) THAT YtgjbmlffbpcdiaaGreatProg.lean LOADS. Nothing in Lean hashes anything: it is a label: what it is worth is what the hold of that sum in a sandbox is worth. -/
noncomputable def Tryz.pinned : Pinned := { name := "ytgjbmlffbpcdiaagreat", sum := "556c3de0f4d80b5a9af8eabeb162d3844576317369b32d83e0421f0aed4b5fa5", checked := Tryz.checked }
namespace Rows
def none {H : Type} : Left H := { results := [], args := [] }

/-- 'signallinglaw50.AutorouteCalls': WHATEVER THE INPUT: true; the input reads as it did. -/
def autorouteCallsSpec : ChangeSpec := { name := "autorouteCalls", fn := fun _ => fun
  | [d1, d2, d3] => { results := [.lit (.bool true)], args := [d1, d2, d3] }
  | _ => none }
def autorouteCallsRow : OpenClaim := { program := "ytgjbmlffbpcdiaagreat", sum := "556c3de0f4d80b5a9af8eabeb162d3844576317369b32d83e0421f0aed4b5fa5", func := "signalling/signallinglaw50.AutorouteCalls", spec := "autorouteCalls", unfollowed := true, recurses := true, apart := false }
def AutorouteCallsSaid : Prop := autorouteCallsRow.holds Tryz.pinned (OpenSpec.ofChange autorouteCallsSpec)

/-- ITS FALSE NEIGHBOUR: 'it returns false'. Refute it at one input. -/
def autorouteCallsWrong : ChangeSpec := { name := "autorouteCalls", fn := fun _ => fun
  | [d1, d2, d3] => { results := [.lit (.bool false)], args := [d1, d2, d3] }
  | _ => none }
def AutorouteCallsWrongFalsely : Prop := autorouteCallsRow.holds Tryz.pinned (OpenSpec.ofChange autorouteCallsWrong)

/-- 'signallinglaw50.AutorouteWaits': WHATEVER THE INPUT: true; the input reads as it did. -/
def autorouteWaitsSpec : ChangeSpec := { name := "autorouteWaits", fn := fun _ => fun
  | [d1, d2, d3] => { results := [.lit (.bool true)], args := [d1, d2, d3] }
  | _ => none }
def autorouteWaitsRow : OpenClaim := { program := "ytgjbmlffbpcdiaagreat", sum := "556c3de0f4d80b5a9af8eabeb162d3844576317369b32d83e0421f0aed4b5fa5", func := "signalling/signallinglaw50.AutorouteWaits", spec := "autorouteWaits", unfollowed := true, recurses := true, apart := false }
def AutorouteWaitsSaid : Prop := autorouteWaitsRow.holds Tryz.pinned (OpenSpec.ofChange autorouteWaitsSpec)

/-- ITS FALSE NEIGHBOUR: 'it returns false'. Refute it at one input. -/
def autorouteWaitsWrong : ChangeSpec := { name := "autorouteWaits", fn := fun _ => fun
  | [d1, d2, d3] => { results := [.lit (.bool false)], args := [d1, d2, d3] }
  | _ => none }
def AutorouteWaitsWrongFalsely : Prop := autorouteWaitsRow.holds Tryz.pinned (OpenSpec.ofChange autorouteWaitsWrong)

/-- 'signallinglaw50.AutorouteFollows': WHATEVER THE INPUT: true; the input reads as it did. -/
def autorouteFollowsSpec : ChangeSpec := { name := "autorouteFollows", fn := fun _ => fun
  | [d1, d2, d3] => { results := [.lit (.bool true)], args := [d1, d2, d3] }
  | _ => none }
def autorouteFollowsRow : OpenClaim := { program := "ytgjbmlffbpcdiaagreat", sum := "556c3de0f4d80b5a9af8eabeb162d3844576317369b32d83e0421f0aed4b5fa5", func := "signalling/signallinglaw50.AutorouteFollows", spec := "autorouteFollows", unfollowed := true, recurses := true, apart := false }
def AutorouteFollowsSaid : Prop := autorouteFollowsRow.holds Tryz.pinned (OpenSpec.ofChange autorouteFollowsSpec)

/-- ITS FALSE NEIGHBOUR: 'it returns false'. Refute it at one input. -/
def autorouteFollowsWrong : ChangeSpec := { name := "autorouteFollows", fn := fun _ => fun
  | [d1, d2, d3] => { results := [.lit (.bool false)], args := [d1, d2, d3] }
  | _ => none }
def AutorouteFollowsWrongFalsely : Prop := autorouteFollowsRow.holds Tryz.pinned (OpenSpec.ofChange autorouteFollowsWrong)

/-- 'signallinglaw50.AutorouteApart': WHATEVER THE INPUT: true; the input reads as it did. -/
def autorouteApartSpec : ChangeSpec := { name := "autorouteApart", fn := fun _ => fun
  | [d1, d2, d3] => { results := [.lit (.bool true)], args := [d1, d2, d3] }
  | _ => none }
def autorouteApartRow : OpenClaim := { program := "ytgjbmlffbpcdiaagreat", sum := "556c3de0f4d80b5a9af8eabeb162d3844576317369b32d83e0421f0aed4b5fa5", func := "signalling/signallinglaw50.AutorouteApart", spec := "autorouteApart", unfollowed := true, recurses := true, apart := false }
def AutorouteApartSaid : Prop := autorouteApartRow.holds Tryz.pinned (OpenSpec.ofChange autorouteApartSpec)

/-- ITS FALSE NEIGHBOUR: 'it returns false'. Refute it at one input. -/
def autorouteApartWrong : ChangeSpec := { name := "autorouteApart", fn := fun _ => fun
  | [d1, d2, d3] => { results := [.lit (.bool false)], args := [d1, d2, d3] }
  | _ => none }
def AutorouteApartWrongFalsely : Prop := autorouteApartRow.holds Tryz.pinned (OpenSpec.ofChange autorouteApartWrong)

/- THE SECOND FORM. 'bulk': how many values and letters a reading holds, each counted each time it is reached (what is shared counts as often as it is met; a slice's spare places count too). A statement '..UptoSaid' is the law's where the arguments, and the package variables that the reading takes, are together of bulk at most 1048576: NARROWER than '..Said'. Prove '..Said' where nothing that the law and all that it calls make is longer than what came in: it says more and counts as full. Else prove '..UptoSaid'. A law counts once. -/
mutual
def uptoBulk {H : Type} : DataW H → Nat
  | .lit (.string bytes) => bytes.length + 1
  | .lit _ => 1
  | .nil => 1
  | .ptr d => uptoBulk d + 1
  | .slice elems spare => uptoBulkAll elems + uptoBulkAll spare + 1
  | .agg parts => uptoBulkAll parts + 1
  | .iface _ d => uptoBulk d + 1
  | .map entries => uptoBulkEntries entries + 1
  | .held _ => 1
def uptoBulkAll {H : Type} : List (DataW H) → Nat
  | [] => 0
  | d :: r => uptoBulk d + uptoBulkAll r
def uptoBulkEntries {H : Type} : List (Lit × DataW H) → Nat
  | [] => 0
  | x :: r => uptoBulkEntry x + uptoBulkEntries r
def uptoBulkEntry {H : Type} : Lit × DataW H → Nat
  | (.string bytes, d) => bytes.length + uptoBulk d + 1
  | (_, d) => uptoBulk d + 1
 end
def uptoSmall : (H : Type) → List (DataW H) → Bool := fun _ ds => decide (uptoBulkAll ds ≤ 1048576)
def OpenSpec.upto (s : _root_.Go.ChangeSpec) : _root_.Go.OpenSpec := { _root_.Go.OpenSpec.ofChange s with cond := some uptoSmall }

/-- 'signallinglaw50.AutorouteCalls', WHERE WHAT IT READS IS OF BULK AT MOST 1048576: true; the input reads as it did. -/
def autorouteCallsUptoRow : OpenClaim := { program := "ytgjbmlffbpcdiaagreat", sum := "556c3de0f4d80b5a9af8eabeb162d3844576317369b32d83e0421f0aed4b5fa5", func := "signalling/signallinglaw50.AutorouteCalls", spec := "autorouteCalls", unfollowed := true, recurses := true, apart := false, narrowed := true }
def AutorouteCallsUptoSaid : Prop := autorouteCallsUptoRow.holds Tryz.pinned (OpenSpec.upto autorouteCallsSpec)

/-- 'signallinglaw50.AutorouteWaits', WHERE WHAT IT READS IS OF BULK AT MOST 1048576: true; the input reads as it did. -/
def autorouteWaitsUptoRow : OpenClaim := { program := "ytgjbmlffbpcdiaagreat", sum := "556c3de0f4d80b5a9af8eabeb162d3844576317369b32d83e0421f0aed4b5fa5", func := "signalling/signallinglaw50.AutorouteWaits", spec := "autorouteWaits", unfollowed := true, recurses := true, apart := false, narrowed := true }
def AutorouteWaitsUptoSaid : Prop := autorouteWaitsUptoRow.holds Tryz.pinned (OpenSpec.upto autorouteWaitsSpec)

/-- 'signallinglaw50.AutorouteFollows', WHERE WHAT IT READS IS OF BULK AT MOST 1048576: true; the input reads as it did. -/
def autorouteFollowsUptoRow : OpenClaim := { program := "ytgjbmlffbpcdiaagreat", sum := "556c3de0f4d80b5a9af8eabeb162d3844576317369b32d83e0421f0aed4b5fa5", func := "signalling/signallinglaw50.AutorouteFollows", spec := "autorouteFollows", unfollowed := true, recurses := true, apart := false, narrowed := true }
def AutorouteFollowsUptoSaid : Prop := autorouteFollowsUptoRow.holds Tryz.pinned (OpenSpec.upto autorouteFollowsSpec)

/-- 'signallinglaw50.AutorouteApart', WHERE WHAT IT READS IS OF BULK AT MOST 1048576: true; the input reads as it did. -/
def autorouteApartUptoRow : OpenClaim := { program := "ytgjbmlffbpcdiaagreat", sum := "556c3de0f4d80b5a9af8eabeb162d3844576317369b32d83e0421f0aed4b5fa5", func := "signalling/signallinglaw50.AutorouteApart", spec := "autorouteApart", unfollowed := true, recurses := true, apart := false, narrowed := true }
def AutorouteApartUptoSaid : Prop := autorouteApartUptoRow.holds Tryz.pinned (OpenSpec.upto autorouteApartSpec)

end Rows
end Go.Proofs.YtgjbmlffbpcdiaaGreat
