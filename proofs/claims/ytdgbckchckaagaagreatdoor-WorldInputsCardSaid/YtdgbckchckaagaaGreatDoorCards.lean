/-
  DERIVED. GIVEN WITH THE SEED: THE CARDS: each row of YtdgbckchckaagaaGreatDoorRows.lean that lists a variable, with what it lists TIED to the program's text (the seventh form; the later family's looks); each row that meets fmt, with fmt's text TOLD by the authors' own Lean function (tested against real Go, not proved from fmt's source: count such statements apart). THE CARD IS WHAT COUNTS. Prove the row's statement (the work); the ties are given (YtdgbckchckaagaaGreatDoorTie.lean); close each card by the builder's one call (the guide's Derived/Test/ToyasCard.lean, 'card_holds'). Laid BY PROGRAM, IN A SANDBOX (cutbox-door.mjs). By AI agents, Wed Nov 11 2026. No macro, syntax, notation, axiom, sorry.
-/
import Derived.Test.YtdgbckchckaagaaGreatDoorRows
import GoSem.ClaimSeven
namespace Go.Proofs.YtdgbckchckaagaaGreatDoor
namespace Rows

/-- THE TIED CARD OF 'signallinglaw52.WorldInputs'. -/
def worldInputsCard : Claim7 := { stood := { row := worldInputsRow, standIns := [], harness := (true, "947736800b62635e3d2f3160efca738b6e4e48b12b97be70d3ae9af0b257736e"), looks := false }, kinds := [], alts := [], laidByText := true, laidKinds := [.data, .data, .data, .data, .data], laidTests := true, laidLooks := .later }
def WorldInputsCardSaid : Prop := Claim7.holds Tryz.pinned (.plain (OpenSpec.ofChange worldInputsSpec)) worldInputsCard

/-- THE SECOND FORM's CARD OF 'signallinglaw52.WorldInputs'. -/
def worldInputsUptoCard : Claim7 := { stood := { row := worldInputsUptoRow, standIns := [], harness := (true, "947736800b62635e3d2f3160efca738b6e4e48b12b97be70d3ae9af0b257736e"), looks := false }, kinds := [], alts := [], laidByText := true, laidKinds := [.data, .data, .data, .data, .data], laidTests := true, laidLooks := .later }
def WorldInputsUptoCardSaid : Prop := Claim7.holds Tryz.pinned (.plain (OpenSpec.upto worldInputsSpec)) worldInputsUptoCard
end Rows
end Go.Proofs.YtdgbckchckaagaaGreatDoor
