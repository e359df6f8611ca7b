/-
  DERIVED. GIVEN WITH THE SEED: THE CARDS: each row of YtbgblfbbeamleaaGreatDoorRows.lean that lists a variable, with what it lists TIED to the program's text (the seventh form; the later family's looks); each row that meets fmt, with fmt's text TOLD by the authors' own Lean function (tested against real Go, not proved from fmt's source: count such statements apart). THE CARD IS WHAT COUNTS. Prove the row's statement (the work); the ties are given (YtbgblfbbeamleaaGreatDoorTie.lean); close each card by the builder's one call (the guide's Derived/Test/ToyasCard.lean, 'card_holds'). Laid BY PROGRAM, IN A SANDBOX (cutbox-door.mjs). By AI agents, Wed Nov 11 2026. No macro, syntax, notation, axiom, sorry.
-/
import Derived.Test.YtbgblfbbeamleaaGreatDoorRows
import GoSem.ClaimSeven
namespace Go.Proofs.YtbgblfbbeamleaaGreatDoor
namespace Rows

/-- THE TIED CARD OF 'flotsamlaw41.AlikeSame'. -/
def alikeSameCard : Claim7 := { stood := { row := alikeSameRow, standIns := [], harness := (true, "84aa0b03c37f086d626ba6d23e627998450d0a5c72356675880dd19257c9c766"), looks := false }, kinds := [], alts := [], laidByText := true, laidKinds := [.data, .listed, .sentinel, .data, .pinned], laidTests := true, laidLooks := .later }
def AlikeSameCardSaid : Prop := Claim7.holds Tryz.pinned (.plain (OpenSpec.ofChange alikeSameSpec)) alikeSameCard

/-- THE SECOND FORM's CARD OF 'flotsamlaw41.AlikeSame'. -/
def alikeSameUptoCard : Claim7 := { stood := { row := alikeSameUptoRow, standIns := [], harness := (true, "84aa0b03c37f086d626ba6d23e627998450d0a5c72356675880dd19257c9c766"), looks := false }, kinds := [], alts := [], laidByText := true, laidKinds := [.data, .listed, .sentinel, .data, .pinned], laidTests := true, laidLooks := .later }
def AlikeSameUptoCardSaid : Prop := Claim7.holds Tryz.pinned (.plain (OpenSpec.upto alikeSameSpec)) alikeSameUptoCard
end Rows
end Go.Proofs.YtbgblfbbeamleaaGreatDoor
