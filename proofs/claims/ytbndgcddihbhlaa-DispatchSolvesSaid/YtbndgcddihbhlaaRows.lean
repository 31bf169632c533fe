/-
  No cell of these rows narrows 'for every input' (looked for: loops, veiled, ifaces, maps, wideKeys, modest, calm, conditions, laid).
  DERIVED. THE GIVEN ROWS OF THIS SEAT. 6 by the template 'for every input the law returns true; each argument reads behind the call as it read before'; 0 by the template 'total and deterministic' (their statements: YtbndgcddihbhlaaTotals.lean).
  GIVEN WITH THE SEED: the statements are not yours to turn. If you find one false, say at which input.
  Laid BY PROGRAM, IN A SANDBOX (cutbox-rows.mjs): the forced cells as the released guide's own fill.sh prints them over the translation 72dbd5ade72a2922… (all of the seat's roots in one cut). By AI agents, Wed Nov 11 2026. No macro, syntax, notation, axiom, sorry.
-/
import Derived.Test.YtbndgcddihbhlaaChecked
import GoSem.Claim
import GoSem.ClaimJoined
import GoSem.ClaimMapViews
import Derived.JoinedTies
import Derived.KernelRfl
namespace Go.Proofs.Ytbndgcddihbhlaa
/- THE CELL 'sum', in the pinned program and in every row, IS THE sha256 OF THE DUMP (.gsa) THAT YtbndgcddihbhlaaProg.lean LOADS. Nothing in Lean hashes anything: it is a label: what it is worth is what the hold of that sum in a sandbox is worth. -/
noncomputable def Try.pinned : Pinned := { name := "ytbndgcddihbhlaa", sum := "72dbd5ade72a292274e3e306e10b88041930a011a49f5ba338ffb57eeae336ee", checked := Try.checked }
namespace Rows
def none {H : Type} : Left H := { results := [], args := [] }

/-- 'signallinglaw49.DispatchSolves': WHATEVER THE INPUT: true; the input reads as it did. -/
def dispatchSolvesSpec : ChangeSpec := { name := "dispatchSolves", fn := fun _ => fun
  | [d1, d2] => { results := [.lit (.bool true)], args := [d1, d2] }
  | _ => none }
def dispatchSolvesRow : OpenClaim := { program := "ytbndgcddihbhlaa", sum := "72dbd5ade72a292274e3e306e10b88041930a011a49f5ba338ffb57eeae336ee", func := "signalling/signallinglaw49.DispatchSolves", spec := "dispatchSolves", unfollowed := true, recurses := true, plainKeys := false, apart := false }
def DispatchSolvesSaid : Prop := dispatchSolvesRow.holds Try.pinned (OpenSpec.ofChange dispatchSolvesSpec)

/-- ITS FALSE NEIGHBOUR: 'it returns false'. Refute it at one input. -/
def dispatchSolvesWrong : ChangeSpec := { name := "dispatchSolves", fn := fun _ => fun
  | [d1, d2] => { results := [.lit (.bool false)], args := [d1, d2] }
  | _ => none }
def DispatchSolvesWrongFalsely : Prop := dispatchSolvesRow.holds Try.pinned (OpenSpec.ofChange dispatchSolvesWrong)

/-- 'signallinglaw49.DispatchFeasible': WHATEVER THE INPUT: true; the input reads as it did. -/
def dispatchFeasibleSpec : ChangeSpec := { name := "dispatchFeasible", fn := fun _ => fun
  | [d1, d2, d3] => { results := [.lit (.bool true)], args := [d1, d2, d3] }
  | _ => none }
def dispatchFeasibleRow : OpenClaim := { program := "ytbndgcddihbhlaa", sum := "72dbd5ade72a292274e3e306e10b88041930a011a49f5ba338ffb57eeae336ee", func := "signalling/signallinglaw49.DispatchFeasible", spec := "dispatchFeasible", unfollowed := true, recurses := true, plainKeys := false, apart := false }
def DispatchFeasibleSaid : Prop := dispatchFeasibleRow.holds Try.pinned (OpenSpec.ofChange dispatchFeasibleSpec)

/-- ITS FALSE NEIGHBOUR: 'it returns false'. Refute it at one input. -/
def dispatchFeasibleWrong : ChangeSpec := { name := "dispatchFeasible", fn := fun _ => fun
  | [d1, d2, d3] => { results := [.lit (.bool false)], args := [d1, d2, d3] }
  | _ => none }
def DispatchFeasibleWrongFalsely : Prop := dispatchFeasibleRow.holds Try.pinned (OpenSpec.ofChange dispatchFeasibleWrong)

/-- 'signallinglaw49.DispatchCompares': WHATEVER THE INPUT: true; the input reads as it did. -/
def dispatchComparesSpec : ChangeSpec := { name := "dispatchCompares", fn := fun _ => fun
  | [d1, d2, d3] => { results := [.lit (.bool true)], args := [d1, d2, d3] }
  | _ => none }
def dispatchComparesRow : OpenClaim := { program := "ytbndgcddihbhlaa", sum := "72dbd5ade72a292274e3e306e10b88041930a011a49f5ba338ffb57eeae336ee", func := "signalling/signallinglaw49.DispatchCompares", spec := "dispatchCompares", unfollowed := true, recurses := true, plainKeys := false, apart := false }
def DispatchComparesSaid : Prop := dispatchComparesRow.holds Try.pinned (OpenSpec.ofChange dispatchComparesSpec)

/-- ITS FALSE NEIGHBOUR: 'it returns false'. Refute it at one input. -/
def dispatchComparesWrong : ChangeSpec := { name := "dispatchCompares", fn := fun _ => fun
  | [d1, d2, d3] => { results := [.lit (.bool false)], args := [d1, d2, d3] }
  | _ => none }
def DispatchComparesWrongFalsely : Prop := dispatchComparesRow.holds Try.pinned (OpenSpec.ofChange dispatchComparesWrong)

/-- 'signallinglaw49.DispatchAlone': WHATEVER THE INPUT: true; the input reads as it did. -/
def dispatchAloneSpec : ChangeSpec := { name := "dispatchAlone", fn := fun _ => fun
  | [d1, d2] => { results := [.lit (.bool true)], args := [d1, d2] }
  | _ => none }
def dispatchAloneRow : OpenClaim := { program := "ytbndgcddihbhlaa", sum := "72dbd5ade72a292274e3e306e10b88041930a011a49f5ba338ffb57eeae336ee", func := "signalling/signallinglaw49.DispatchAlone", spec := "dispatchAlone", unfollowed := true, recurses := true, plainKeys := false, apart := false }
def DispatchAloneSaid : Prop := dispatchAloneRow.holds Try.pinned (OpenSpec.ofChange dispatchAloneSpec)

/-- ITS FALSE NEIGHBOUR: 'it returns false'. Refute it at one input. -/
def dispatchAloneWrong : ChangeSpec := { name := "dispatchAlone", fn := fun _ => fun
  | [d1, d2] => { results := [.lit (.bool false)], args := [d1, d2] }
  | _ => none }
def DispatchAloneWrongFalsely : Prop := dispatchAloneRow.holds Try.pinned (OpenSpec.ofChange dispatchAloneWrong)

/-- 'signallinglaw49.DispatchOptimal': WHATEVER THE INPUT: true; the input reads as it did. -/
def dispatchOptimalSpec : ChangeSpec := { name := "dispatchOptimal", fn := fun _ => fun
  | [d1, d2, d3] => { results := [.lit (.bool true)], args := [d1, d2, d3] }
  | _ => none }
def dispatchOptimalRow : OpenClaim := { program := "ytbndgcddihbhlaa", sum := "72dbd5ade72a292274e3e306e10b88041930a011a49f5ba338ffb57eeae336ee", func := "signalling/signallinglaw49.DispatchOptimal", spec := "dispatchOptimal", unfollowed := true, recurses := true, plainKeys := false, apart := false }
def DispatchOptimalSaid : Prop := dispatchOptimalRow.holds Try.pinned (OpenSpec.ofChange dispatchOptimalSpec)

/-- ITS FALSE NEIGHBOUR: 'it returns false'. Refute it at one input. -/
def dispatchOptimalWrong : ChangeSpec := { name := "dispatchOptimal", fn := fun _ => fun
  | [d1, d2, d3] => { results := [.lit (.bool false)], args := [d1, d2, d3] }
  | _ => none }
def DispatchOptimalWrongFalsely : Prop := dispatchOptimalRow.holds Try.pinned (OpenSpec.ofChange dispatchOptimalWrong)

/-- 'signallinglaw49.DispatchPlans': WHATEVER THE INPUT: true; the input reads as it did. -/
def dispatchPlansSpec : ChangeSpec := { name := "dispatchPlans", fn := fun _ => fun
  | [d1, d2] => { results := [.lit (.bool true)], args := [d1, d2] }
  | _ => none }
def dispatchPlansRow : OpenClaim := { program := "ytbndgcddihbhlaa", sum := "72dbd5ade72a292274e3e306e10b88041930a011a49f5ba338ffb57eeae336ee", func := "signalling/signallinglaw49.DispatchPlans", spec := "dispatchPlans", unfollowed := true, recurses := true, plainKeys := false, apart := false }
def DispatchPlansSaid : Prop := dispatchPlansRow.holds Try.pinned (OpenSpec.ofChange dispatchPlansSpec)

/-- ITS FALSE NEIGHBOUR: 'it returns false'. Refute it at one input. -/
def dispatchPlansWrong : ChangeSpec := { name := "dispatchPlans", fn := fun _ => fun
  | [d1, d2] => { results := [.lit (.bool false)], args := [d1, d2] }
  | _ => none }
def DispatchPlansWrongFalsely : Prop := dispatchPlansRow.holds Try.pinned (OpenSpec.ofChange dispatchPlansWrong)

/- THE SECOND FORM. 'bulk': how many values and letters a reading holds, each counted each time it is reached (what is shared counts as often as it is met; a slice's spare places count too). A statement '..UptoSaid' is the law's where the arguments, and the package variables that the reading takes, are together of bulk at most 1048576: NARROWER than '..Said'. Prove '..Said' where nothing that the law and all that it calls make is longer than what came in: it says more and counts as full. Else prove '..UptoSaid'. A law counts once. -/
mutual
def uptoBulk {H : Type} : DataW H → Nat
  | .lit (.string bytes) => bytes.length + 1
  | .lit _ => 1
  | .nil => 1
  | .ptr d => uptoBulk d + 1
  | .slice elems spare => uptoBulkAll elems + uptoBulkAll spare + 1
  | .agg parts => uptoBulkAll parts + 1
  | .iface _ d => uptoBulk d + 1
  | .map entries => uptoBulkEntries entries + 1
  | .held _ => 1
def uptoBulkAll {H : Type} : List (DataW H) → Nat
  | [] => 0
  | d :: r => uptoBulk d + uptoBulkAll r
def uptoBulkEntries {H : Type} : List (Lit × DataW H) → Nat
  | [] => 0
  | x :: r => uptoBulkEntry x + uptoBulkEntries r
def uptoBulkEntry {H : Type} : Lit × DataW H → Nat
  | (.string bytes, d) => bytes.length + uptoBulk d + 1
  | (_, d) => uptoBulk d + 1
 end
def uptoSmall : (H : Type) → List (DataW H) → Bool := fun _ ds => decide (uptoBulkAll ds ≤ 1048576)
def OpenSpec.upto (s : _root_.Go.ChangeSpec) : _root_.Go.OpenSpec := { _root_.Go.OpenSpec.ofChange s with cond := some uptoSmall }

/-- 'signallinglaw49.DispatchSolves', WHERE WHAT IT READS IS OF BULK AT MOST 1048576: true; the input reads as it did. -/
def dispatchSolvesUptoRow : OpenClaim := { program := "ytbndgcddihbhlaa", sum := "72dbd5ade72a292274e3e306e10b88041930a011a49f5ba338ffb57eeae336ee", func := "signalling/signallinglaw49.DispatchSolves", spec := "dispatchSolves", unfollowed := true, recurses := true, plainKeys := false, apart := false, narrowed := true }
def DispatchSolvesUptoSaid : Prop := dispatchSolvesUptoRow.holds Try.pinned (OpenSpec.upto dispatchSolvesSpec)

/-- 'signallinglaw49.DispatchFeasible', WHERE WHAT IT READS IS OF BULK AT MOST 1048576: true; the input reads as it did. -/
def dispatchFeasibleUptoRow : OpenClaim := { program := "ytbndgcddihbhlaa", sum := "72dbd5ade72a292274e3e306e10b88041930a011a49f5ba338ffb57eeae336ee", func := "signalling/signallinglaw49.DispatchFeasible", spec := "dispatchFeasible", unfollowed := true, recurses := true, plainKeys := false, apart := false, narrowed := true }
def DispatchFeasibleUptoSaid : Prop := dispatchFeasibleUptoRow.holds Try.pinned (OpenSpec.upto dispatchFeasibleSpec)

/-- 'signallinglaw49.DispatchCompares', WHERE WHAT IT READS IS OF BULK AT MOST 1048576: true; the input reads as it did. -/
def dispatchComparesUptoRow : OpenClaim := { program := "ytbndgcddihbhlaa", sum := "72dbd5ade72a292274e3e306e10b88041930a011a49f5ba338ffb57eeae336ee", func := "signalling/signallinglaw49.DispatchCompares", spec := "dispatchCompares", unfollowed := true, recurses := true, plainKeys := false, apart := false, narrowed := true }
def DispatchComparesUptoSaid : Prop := dispatchComparesUptoRow.holds Try.pinned (OpenSpec.upto dispatchComparesSpec)

/-- 'signallinglaw49.DispatchAlone', WHERE WHAT IT READS IS OF BULK AT MOST 1048576: true; the input reads as it did. -/
def dispatchAloneUptoRow : OpenClaim := { program := "ytbndgcddihbhlaa", sum := "72dbd5ade72a292274e3e306e10b88041930a011a49f5ba338ffb57eeae336ee", func := "signalling/signallinglaw49.DispatchAlone", spec := "dispatchAlone", unfollowed := true, recurses := true, plainKeys := false, apart := false, narrowed := true }
def DispatchAloneUptoSaid : Prop := dispatchAloneUptoRow.holds Try.pinned (OpenSpec.upto dispatchAloneSpec)

/-- 'signallinglaw49.DispatchOptimal', WHERE WHAT IT READS IS OF BULK AT MOST 1048576: true; the input reads as it did. -/
def dispatchOptimalUptoRow : OpenClaim := { program := "ytbndgcddihbhlaa", sum := "72dbd5ade72a292274e3e306e10b88041930a011a49f5ba338ffb57eeae336ee", func := "signalling/signallinglaw49.DispatchOptimal", spec := "dispatchOptimal", unfollowed := true, recurses := true, plainKeys := false, apart := false, narrowed := true }
def DispatchOptimalUptoSaid : Prop := dispatchOptimalUptoRow.holds Try.pinned (OpenSpec.upto dispatchOptimalSpec)

/-- 'signallinglaw49.DispatchPlans', WHERE WHAT IT READS IS OF BULK AT MOST 1048576: true; the input reads as it did. -/
def dispatchPlansUptoRow : OpenClaim := { program := "ytbndgcddihbhlaa", sum := "72dbd5ade72a292274e3e306e10b88041930a011a49f5ba338ffb57eeae336ee", func := "signalling/signallinglaw49.DispatchPlans", spec := "dispatchPlans", unfollowed := true, recurses := true, plainKeys := false, apart := false, narrowed := true }
def DispatchPlansUptoSaid : Prop := dispatchPlansUptoRow.holds Try.pinned (OpenSpec.upto dispatchPlansSpec)

end Rows
end Go.Proofs.Ytbndgcddihbhlaa
