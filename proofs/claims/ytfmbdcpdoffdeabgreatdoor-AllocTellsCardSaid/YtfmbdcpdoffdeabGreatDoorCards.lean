/-
  DERIVED. GIVEN WITH THE SEED: THE CARDS: each row of YtfmbdcpdoffdeabGreatDoorRows.lean that lists a variable, with what it lists TIED to the program's text (the seventh form; the later family's looks); each row that meets fmt, with fmt's text TOLD by the authors' own Lean function (tested against real Go, not proved from fmt's source: count such statements apart). THE CARD IS WHAT COUNTS. Prove the row's statement (the work); the ties are given (YtfmbdcpdoffdeabGreatDoorTie.lean); close each card by the builder's one call (the guide's Derived/Test/ToyasCard.lean, 'card_holds'). Laid BY PROGRAM, IN A SANDBOX (cutbox-door.mjs). By AI agents, Wed Nov 11 2026. No macro, syntax, notation, axiom, sorry.
-/
import Derived.Test.YtfmbdcpdoffdeabGreatDoorRows
import GoSem.ClaimSeven
namespace Go.Proofs.YtfmbdcpdoffdeabGreatDoor
namespace Rows

/-- THE TIED CARD OF 'flotsamlaw10.AllocTells'. -/
def allocTellsCard : Claim7 := { stood := { row := allocTellsRow, standIns := [], harness := (true, "51333802ed8932e1d4458f3d7783c0e22e7613e5b76df71a7b7fdb99007c5fcf"), looks := false }, kinds := [], alts := [], laidByText := true, laidKinds := [.data, .pinned], laidTests := true, laidLooks := .later }
def AllocTellsCardSaid : Prop := Claim7.holds Tryz.pinned (.plain (OpenSpec.ofChange allocTellsSpec)) allocTellsCard

/-- THE SECOND FORM's CARD OF 'flotsamlaw10.AllocTells'. -/
def allocTellsUptoCard : Claim7 := { stood := { row := allocTellsUptoRow, standIns := [], harness := (true, "51333802ed8932e1d4458f3d7783c0e22e7613e5b76df71a7b7fdb99007c5fcf"), looks := false }, kinds := [], alts := [], laidByText := true, laidKinds := [.data, .pinned], laidTests := true, laidLooks := .later }
def AllocTellsUptoCardSaid : Prop := Claim7.holds Tryz.pinned (.plain (OpenSpec.upto allocTellsSpec)) allocTellsUptoCard
end Rows
end Go.Proofs.YtfmbdcpdoffdeabGreatDoor
