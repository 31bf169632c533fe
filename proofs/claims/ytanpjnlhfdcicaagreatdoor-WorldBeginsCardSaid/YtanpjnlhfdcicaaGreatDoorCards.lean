/-
  DERIVED. GIVEN WITH THE SEED: THE CARDS: each row of YtanpjnlhfdcicaaGreatDoorRows.lean that lists a variable, with what it lists TIED to the program's text (the seventh form; the later family's looks); each row that meets fmt, with fmt's text TOLD by the authors' own Lean function (tested against real Go, not proved from fmt's source: count such statements apart). THE CARD IS WHAT COUNTS. Prove the row's statement (the work); the ties are given (YtanpjnlhfdcicaaGreatDoorTie.lean); close each card by the builder's one call (the guide's Derived/Test/ToyasCard.lean, 'card_holds'). Laid BY PROGRAM, IN A SANDBOX (cutbox-door.mjs). By AI agents, Wed Nov 11 2026. No macro, syntax, notation, axiom, sorry.
-/
import Derived.Test.YtanpjnlhfdcicaaGreatDoorRows
import GoSem.ClaimSeven
namespace Go.Proofs.YtanpjnlhfdcicaaGreatDoor
namespace Rows

/-- THE TIED CARD OF 'signallinglaw52.WorldBegins'. -/
def worldBeginsCard : Claim7 := { stood := { row := worldBeginsRow, standIns := [], harness := (true, "149447de8ab7596a3b0980ad86ff3ef6d267cd3ef932b95319aafd73acd9f7af"), looks := false }, kinds := [], alts := [], laidByText := true, laidKinds := [.data, .data, .data, .data, .data], laidTests := true, laidLooks := .later }
def WorldBeginsCardSaid : Prop := Claim7.holds Tryz.pinned (.plain (OpenSpec.ofChange worldBeginsSpec)) worldBeginsCard

/-- THE SECOND FORM's CARD OF 'signallinglaw52.WorldBegins'. -/
def worldBeginsUptoCard : Claim7 := { stood := { row := worldBeginsUptoRow, standIns := [], harness := (true, "149447de8ab7596a3b0980ad86ff3ef6d267cd3ef932b95319aafd73acd9f7af"), looks := false }, kinds := [], alts := [], laidByText := true, laidKinds := [.data, .data, .data, .data, .data], laidTests := true, laidLooks := .later }
def WorldBeginsUptoCardSaid : Prop := Claim7.holds Tryz.pinned (.plain (OpenSpec.upto worldBeginsSpec)) worldBeginsUptoCard
end Rows
end Go.Proofs.YtanpjnlhfdcicaaGreatDoor
