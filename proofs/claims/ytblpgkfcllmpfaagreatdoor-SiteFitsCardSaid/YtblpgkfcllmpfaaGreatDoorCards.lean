/-
  DERIVED. GIVEN WITH THE SEED: THE CARDS: each row of YtblpgkfcllmpfaaGreatDoorRows.lean that lists a variable, with what it lists TIED to the program's text (the seventh form; the later family's looks); each row that meets fmt, with fmt's text TOLD by the authors' own Lean function (tested against real Go, not proved from fmt's source: count such statements apart). THE CARD IS WHAT COUNTS. Prove the row's statement (the work); the ties are given (YtblpgkfcllmpfaaGreatDoorTie.lean); close each card by the builder's one call (the guide's Derived/Test/ToyasCard.lean, 'card_holds'). Laid BY PROGRAM, IN A SANDBOX (cutbox-door.mjs). By AI agents, Wed Nov 11 2026. No macro, syntax, notation, axiom, sorry.
-/
import Derived.Test.YtblpgkfcllmpfaaGreatDoorRows
import GoSem.ClaimSeven
namespace Go.Proofs.YtblpgkfcllmpfaaGreatDoor
namespace Rows

/-- THE TIED CARD OF 'flotsamlaw25.SiteFits'. -/
def siteFitsCard : Claim7 := { stood := { row := siteFitsRow, standIns := [], harness := (true, "dd9789770d0183cc428a326cbfac2990f954678628cdf8c482230beee8fbacee"), looks := false }, kinds := [], alts := [], laidByText := true, laidKinds := [.data, .listed, .data, .pinned], laidTests := true, laidLooks := .later }
def SiteFitsCardSaid : Prop := Claim7.holds Tryz.pinned (.plain (OpenSpec.ofChange siteFitsSpec)) siteFitsCard

/-- THE SECOND FORM's CARD OF 'flotsamlaw25.SiteFits'. -/
def siteFitsUptoCard : Claim7 := { stood := { row := siteFitsUptoRow, standIns := [], harness := (true, "dd9789770d0183cc428a326cbfac2990f954678628cdf8c482230beee8fbacee"), looks := false }, kinds := [], alts := [], laidByText := true, laidKinds := [.data, .listed, .data, .pinned], laidTests := true, laidLooks := .later }
def SiteFitsUptoCardSaid : Prop := Claim7.holds Tryz.pinned (.plain (OpenSpec.upto siteFitsSpec)) siteFitsUptoCard
end Rows
end Go.Proofs.YtblpgkfcllmpfaaGreatDoor
