/-
  DERIVED. GIVEN WITH THE SEED: THE CARDS: each row of YtfmbdcpdoffdeabDoorRows.lean that lists a variable, with what it lists TIED to the program's text (the seventh form; the later family's looks); each row that meets fmt, with fmt's text TOLD by the authors' own Lean function (tested against real Go, not proved from fmt's source: count such statements apart). THE CARD IS WHAT COUNTS. Prove the row's statement (the work); the ties are given (YtfmbdcpdoffdeabDoorTie.lean); close each card by the builder's one call (the guide's Derived/Test/ToyasCard.lean, 'card_holds'). Laid BY PROGRAM, IN A SANDBOX (cutbox-door.mjs). By AI agents, Wed Nov 11 2026. No macro, syntax, notation, axiom, sorry.
-/
import Derived.Test.YtfmbdcpdoffdeabDoorRows
import GoSem.ClaimSeven
namespace Go.Proofs.YtfmbdcpdoffdeabDoor
namespace Rows

/-- THE TIED CARD OF 'flotsamlaw10.AllocFree'. -/
def allocFreeCard : Claim7 := { stood := { row := allocFreeRow, standIns := [], harness := (true, "ea7d9d741390d0698530d59580a41e2750929dc0badc73421bcde9e6e9822158"), looks := false }, kinds := [], alts := [], laidByText := true, laidKinds := [.data, .pinned], laidTests := true, laidLooks := .later }
def AllocFreeCardSaid : Prop := Claim7.holds Tryd.pinned (.plain (OpenSpec.ofChange allocFreeSpec)) allocFreeCard

/-- THE SECOND FORM's CARD OF 'flotsamlaw10.AllocFree'. -/
def allocFreeUptoCard : Claim7 := { stood := { row := allocFreeUptoRow, standIns := [], harness := (true, "ea7d9d741390d0698530d59580a41e2750929dc0badc73421bcde9e6e9822158"), looks := false }, kinds := [], alts := [], laidByText := true, laidKinds := [.data, .pinned], laidTests := true, laidLooks := .later }
def AllocFreeUptoCardSaid : Prop := Claim7.holds Tryd.pinned (.plain (OpenSpec.upto allocFreeSpec)) allocFreeUptoCard
end Rows
end Go.Proofs.YtfmbdcpdoffdeabDoor
