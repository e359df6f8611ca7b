/-
  DERIVED. GIVEN WITH THE SEED: THE CARDS: each row of YtpjogbpjjbbinaaDoorRows.lean that lists a variable, with what it lists TIED to the program's text (the seventh form; the later family's looks); each row that meets fmt, with fmt's text TOLD by the authors' own Lean function (tested against real Go, not proved from fmt's source: count such statements apart). THE CARD IS WHAT COUNTS. Prove the row's statement (the work); the ties are given (YtpjogbpjjbbinaaDoorTie.lean); close each card by the builder's one call (the guide's Derived/Test/ToyasCard.lean, 'card_holds'). Laid BY PROGRAM, IN A SANDBOX (cutbox-door.mjs). By AI agents, Wed Nov 11 2026. No macro, syntax, notation, axiom, sorry.
-/
import Derived.Test.YtpjogbpjjbbinaaDoorRows
import GoSem.ClaimSeven
namespace Go.Proofs.YtpjogbpjjbbinaaDoor
namespace Rows

/-- THE TIED CARD OF 'flotsamlaw45.GateTells'. -/
def gateTellsCard : Claim7 := { stood := { row := gateTellsRow, standIns := [], harness := (true, "92da10ed9840960299456c56ef2ee09fc071beaa21ef351be2a1db9728fddfd8"), looks := false }, kinds := [], alts := [], laidByText := true, laidKinds := [.listed, .data], laidTests := true, laidLooks := .later }
def GateTellsCardSaid : Prop := Claim7.holds Tryd.pinned (.plain (OpenSpec.ofChange gateTellsSpec)) gateTellsCard

/-- THE TIED CARD OF 'flotsamlaw45.GateTurns'. -/
def gateTurnsCard : Claim7 := { stood := { row := gateTurnsRow, standIns := [], harness := (true, "92da10ed9840960299456c56ef2ee09fc071beaa21ef351be2a1db9728fddfd8"), looks := false }, kinds := [], alts := [], laidByText := true, laidKinds := [.listed, .data], laidTests := true, laidLooks := .later }
def GateTurnsCardSaid : Prop := Claim7.holds Tryd.pinned (.plain (OpenSpec.ofChange gateTurnsSpec)) gateTurnsCard

/-- THE SECOND FORM's CARD OF 'flotsamlaw45.GateTells'. -/
def gateTellsUptoCard : Claim7 := { stood := { row := gateTellsUptoRow, standIns := [], harness := (true, "92da10ed9840960299456c56ef2ee09fc071beaa21ef351be2a1db9728fddfd8"), looks := false }, kinds := [], alts := [], laidByText := true, laidKinds := [.listed, .data], laidTests := true, laidLooks := .later }
def GateTellsUptoCardSaid : Prop := Claim7.holds Tryd.pinned (.plain (OpenSpec.upto gateTellsSpec)) gateTellsUptoCard

/-- THE SECOND FORM's CARD OF 'flotsamlaw45.GateTurns'. -/
def gateTurnsUptoCard : Claim7 := { stood := { row := gateTurnsUptoRow, standIns := [], harness := (true, "92da10ed9840960299456c56ef2ee09fc071beaa21ef351be2a1db9728fddfd8"), looks := false }, kinds := [], alts := [], laidByText := true, laidKinds := [.listed, .data], laidTests := true, laidLooks := .later }
def GateTurnsUptoCardSaid : Prop := Claim7.holds Tryd.pinned (.plain (OpenSpec.upto gateTurnsSpec)) gateTurnsUptoCard
end Rows
end Go.Proofs.YtpjogbpjjbbinaaDoor
