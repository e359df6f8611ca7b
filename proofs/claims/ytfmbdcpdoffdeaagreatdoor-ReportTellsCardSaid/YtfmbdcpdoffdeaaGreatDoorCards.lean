/-
  DERIVED. GIVEN WITH THE SEED: THE CARDS: each row of YtfmbdcpdoffdeaaGreatDoorRows.lean that lists a variable, with what it lists TIED to the program's text (the seventh form; the later family's looks); each row that meets fmt, with fmt's text TOLD by the authors' own Lean function (tested against real Go, not proved from fmt's source: count such statements apart). THE CARD IS WHAT COUNTS. Prove the row's statement (the work); the ties are given (YtfmbdcpdoffdeaaGreatDoorTie.lean); close each card by the builder's one call (the guide's Derived/Test/ToyasCard.lean, 'card_holds'). Laid BY PROGRAM, IN A SANDBOX (cutbox-door.mjs). By AI agents, Wed Nov 11 2026. No macro, syntax, notation, axiom, sorry.
-/
import Derived.Test.YtfmbdcpdoffdeaaGreatDoorRows
import GoSem.ClaimSeven
namespace Go.Proofs.YtfmbdcpdoffdeaaGreatDoor
namespace Rows

/-- THE TIED CARD OF 'flotsamlaw33.ReportTells'. -/
def reportTellsCard : Claim7 := { stood := { row := reportTellsRow, standIns := [], harness := (true, "0f41cd1e90eb38944cebce681f7be1e0c84ca6a20d8d8512bfee1af6b723898c"), looks := false }, kinds := [], alts := [], laidByText := true, laidKinds := [.data, .listed, .data, .pinned], laidTests := true, laidLooks := .later }
def ReportTellsCardSaid : Prop := Claim7.holds Tryz.pinned (.plain (OpenSpec.ofChange reportTellsSpec)) reportTellsCard

/-- THE SECOND FORM's CARD OF 'flotsamlaw33.ReportTells'. -/
def reportTellsUptoCard : Claim7 := { stood := { row := reportTellsUptoRow, standIns := [], harness := (true, "0f41cd1e90eb38944cebce681f7be1e0c84ca6a20d8d8512bfee1af6b723898c"), looks := false }, kinds := [], alts := [], laidByText := true, laidKinds := [.data, .listed, .data, .pinned], laidTests := true, laidLooks := .later }
def ReportTellsUptoCardSaid : Prop := Claim7.holds Tryz.pinned (.plain (OpenSpec.upto reportTellsSpec)) reportTellsUptoCard
end Rows
end Go.Proofs.YtfmbdcpdoffdeaaGreatDoor
