/-
  DERIVED. GIVEN WITH THE SEED: THE CARDS: each row of YtnpokifaejcbeaaGreatDoorRows.lean that lists a variable, with what it lists TIED to the program's text (the seventh form; the later family's looks); each row that meets fmt, with fmt's text TOLD by the authors' own Lean function (tested against real Go, not proved from fmt's source: count such statements apart). THE CARD IS WHAT COUNTS. Prove the row's statement (the work); the ties are given (YtnpokifaejcbeaaGreatDoorTie.lean); close each card by the builder's one call (the guide's Derived/Test/ToyasCard.lean, 'card_holds'). Laid BY PROGRAM, IN A SANDBOX (cutbox-door.mjs). By AI agents, Wed Nov 11 2026. No macro, syntax, notation, axiom, sorry.
-/
import Derived.Test.YtnpokifaejcbeaaGreatDoorRows
import GoSem.ClaimSeven
namespace Go.Proofs.YtnpokifaejcbeaaGreatDoor
namespace Rows

/-- THE TIED CARD OF 'signallinglaw16.TableBuilds'. -/
def tableBuildsCard : Claim7 := { stood := { row := tableBuildsRow, standIns := [], harness := (true, "d62424b919ed58ff7cd0fe3778d93c6b4b3cb068e239bd5765418fe5ff1f30b8"), looks := false }, kinds := [], alts := [], laidByText := true, laidKinds := [.data, .data, .data, .data, .data], laidTests := true, laidLooks := .later }
def TableBuildsCardSaid : Prop := Claim7.holds Tryz.pinned (.plain (OpenSpec.ofChange tableBuildsSpec)) tableBuildsCard

/-- THE TIED CARD OF 'signallinglaw16.TableChecks'. -/
def tableChecksCard : Claim7 := { stood := { row := tableChecksRow, standIns := [], harness := (true, "d62424b919ed58ff7cd0fe3778d93c6b4b3cb068e239bd5765418fe5ff1f30b8"), looks := false }, kinds := [], alts := [], laidByText := true, laidKinds := [.data, .data, .data, .data, .data], laidTests := true, laidLooks := .later }
def TableChecksCardSaid : Prop := Claim7.holds Tryz.pinned (.plain (OpenSpec.ofChange tableChecksSpec)) tableChecksCard

/-- THE TIED CARD OF 'signallinglaw16.TableDrops'. -/
def tableDropsCard : Claim7 := { stood := { row := tableDropsRow, standIns := [], harness := (true, "d62424b919ed58ff7cd0fe3778d93c6b4b3cb068e239bd5765418fe5ff1f30b8"), looks := false }, kinds := [], alts := [], laidByText := true, laidKinds := [.data, .data, .data, .data, .data], laidTests := true, laidLooks := .later }
def TableDropsCardSaid : Prop := Claim7.holds Tryz.pinned (.plain (OpenSpec.ofChange tableDropsSpec)) tableDropsCard

/-- THE TIED CARD OF 'signallinglaw16.TableComplete'. -/
def tableCompleteCard : Claim7 := { stood := { row := tableCompleteRow, standIns := [], harness := (true, "d62424b919ed58ff7cd0fe3778d93c6b4b3cb068e239bd5765418fe5ff1f30b8"), looks := false }, kinds := [], alts := [], laidByText := true, laidKinds := [.data, .data, .data, .data, .data], laidTests := true, laidLooks := .later }
def TableCompleteCardSaid : Prop := Claim7.holds Tryz.pinned (.plain (OpenSpec.ofChange tableCompleteSpec)) tableCompleteCard

/-- THE TIED CARD OF 'signallinglaw16.TableReads'. -/
def tableReadsCard : Claim7 := { stood := { row := tableReadsRow, standIns := [], harness := (true, "d62424b919ed58ff7cd0fe3778d93c6b4b3cb068e239bd5765418fe5ff1f30b8"), looks := false }, kinds := [], alts := [], laidByText := true, laidKinds := [.data, .data, .data, .data, .data], laidTests := true, laidLooks := .later }
def TableReadsCardSaid : Prop := Claim7.holds Tryz.pinned (.plain (OpenSpec.ofChange tableReadsSpec)) tableReadsCard

/-- THE TIED CARD OF 'signallinglaw16.TableFits'. -/
def tableFitsCard : Claim7 := { stood := { row := tableFitsRow, standIns := [], harness := (true, "d62424b919ed58ff7cd0fe3778d93c6b4b3cb068e239bd5765418fe5ff1f30b8"), looks := false }, kinds := [], alts := [], laidByText := true, laidKinds := [.data, .data, .data, .data, .data], laidTests := true, laidLooks := .later }
def TableFitsCardSaid : Prop := Claim7.holds Tryz.pinned (.plain (OpenSpec.ofChange tableFitsSpec)) tableFitsCard

/-- THE SECOND FORM's CARD OF 'signallinglaw16.TableBuilds'. -/
def tableBuildsUptoCard : Claim7 := { stood := { row := tableBuildsUptoRow, standIns := [], harness := (true, "d62424b919ed58ff7cd0fe3778d93c6b4b3cb068e239bd5765418fe5ff1f30b8"), looks := false }, kinds := [], alts := [], laidByText := true, laidKinds := [.data, .data, .data, .data, .data], laidTests := true, laidLooks := .later }
def TableBuildsUptoCardSaid : Prop := Claim7.holds Tryz.pinned (.plain (OpenSpec.upto tableBuildsSpec)) tableBuildsUptoCard

/-- THE SECOND FORM's CARD OF 'signallinglaw16.TableChecks'. -/
def tableChecksUptoCard : Claim7 := { stood := { row := tableChecksUptoRow, standIns := [], harness := (true, "d62424b919ed58ff7cd0fe3778d93c6b4b3cb068e239bd5765418fe5ff1f30b8"), looks := false }, kinds := [], alts := [], laidByText := true, laidKinds := [.data, .data, .data, .data, .data], laidTests := true, laidLooks := .later }
def TableChecksUptoCardSaid : Prop := Claim7.holds Tryz.pinned (.plain (OpenSpec.upto tableChecksSpec)) tableChecksUptoCard

/-- THE SECOND FORM's CARD OF 'signallinglaw16.TableDrops'. -/
def tableDropsUptoCard : Claim7 := { stood := { row := tableDropsUptoRow, standIns := [], harness := (true, "d62424b919ed58ff7cd0fe3778d93c6b4b3cb068e239bd5765418fe5ff1f30b8"), looks := false }, kinds := [], alts := [], laidByText := true, laidKinds := [.data, .data, .data, .data, .data], laidTests := true, laidLooks := .later }
def TableDropsUptoCardSaid : Prop := Claim7.holds Tryz.pinned (.plain (OpenSpec.upto tableDropsSpec)) tableDropsUptoCard

/-- THE SECOND FORM's CARD OF 'signallinglaw16.TableComplete'. -/
def tableCompleteUptoCard : Claim7 := { stood := { row := tableCompleteUptoRow, standIns := [], harness := (true, "d62424b919ed58ff7cd0fe3778d93c6b4b3cb068e239bd5765418fe5ff1f30b8"), looks := false }, kinds := [], alts := [], laidByText := true, laidKinds := [.data, .data, .data, .data, .data], laidTests := true, laidLooks := .later }
def TableCompleteUptoCardSaid : Prop := Claim7.holds Tryz.pinned (.plain (OpenSpec.upto tableCompleteSpec)) tableCompleteUptoCard

/-- THE SECOND FORM's CARD OF 'signallinglaw16.TableReads'. -/
def tableReadsUptoCard : Claim7 := { stood := { row := tableReadsUptoRow, standIns := [], harness := (true, "d62424b919ed58ff7cd0fe3778d93c6b4b3cb068e239bd5765418fe5ff1f30b8"), looks := false }, kinds := [], alts := [], laidByText := true, laidKinds := [.data, .data, .data, .data, .data], laidTests := true, laidLooks := .later }
def TableReadsUptoCardSaid : Prop := Claim7.holds Tryz.pinned (.plain (OpenSpec.upto tableReadsSpec)) tableReadsUptoCard

/-- THE SECOND FORM's CARD OF 'signallinglaw16.TableFits'. -/
def tableFitsUptoCard : Claim7 := { stood := { row := tableFitsUptoRow, standIns := [], harness := (true, "d62424b919ed58ff7cd0fe3778d93c6b4b3cb068e239bd5765418fe5ff1f30b8"), looks := false }, kinds := [], alts := [], laidByText := true, laidKinds := [.data, .data, .data, .data, .data], laidTests := true, laidLooks := .later }
def TableFitsUptoCardSaid : Prop := Claim7.holds Tryz.pinned (.plain (OpenSpec.upto tableFitsSpec)) tableFitsUptoCard
end Rows
end Go.Proofs.YtnpokifaejcbeaaGreatDoor
