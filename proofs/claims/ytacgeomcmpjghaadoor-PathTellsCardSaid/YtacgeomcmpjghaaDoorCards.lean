/-
  DERIVED. GIVEN WITH THE SEED: THE CARDS: each row of YtacgeomcmpjghaaDoorRows.lean that lists a variable, with what it lists TIED to the program's text (the seventh form; the later family's looks); each row that meets fmt, with fmt's text TOLD by the authors' own Lean function (tested against real Go, not proved from fmt's source: count such statements apart). THE CARD IS WHAT COUNTS. Prove the row's statement (the work); the ties are given (YtacgeomcmpjghaaDoorTie.lean); close each card by the builder's one call (the guide's Derived/Test/ToyasCard.lean, 'card_holds'). Laid BY PROGRAM, IN A SANDBOX (cutbox-door.mjs). By AI agents, Wed Nov 11 2026. No macro, syntax, notation, axiom, sorry.
-/
import Derived.Test.YtacgeomcmpjghaaDoorRows
import GoSem.ClaimSeven
namespace Go.Proofs.YtacgeomcmpjghaaDoor
namespace Rows

/-- THE TIED CARD OF 'flotsamlaw32.ScoreTells'. -/
def scoreTellsCard : Claim7 := { stood := { row := scoreTellsRow, standIns := [], harness := (true, "eefdea9082e7dd274f5d2f5448848014c4f771c9670899c372ee53052c9d3b88"), looks := false }, kinds := [], alts := [], laidByText := true, laidKinds := [.listed, .data], laidTests := true, laidLooks := .later }
def ScoreTellsCardSaid : Prop := Claim7.holds Tryd.pinned (.plain (OpenSpec.ofChange scoreTellsSpec)) scoreTellsCard

/-- THE TIED CARD OF 'flotsamlaw45.GateTells'. -/
def gateTellsCard : Claim7 := { stood := { row := gateTellsRow, standIns := [], harness := (true, "eefdea9082e7dd274f5d2f5448848014c4f771c9670899c372ee53052c9d3b88"), looks := false }, kinds := [], alts := [], laidByText := true, laidKinds := [.listed, .data], laidTests := true, laidLooks := .later }
def GateTellsCardSaid : Prop := Claim7.holds Tryd.pinned (.plain (OpenSpec.ofChange gateTellsSpec)) gateTellsCard

/-- THE TIED CARD OF 'flotsamlaw45.GateTurns'. -/
def gateTurnsCard : Claim7 := { stood := { row := gateTurnsRow, standIns := [], harness := (true, "eefdea9082e7dd274f5d2f5448848014c4f771c9670899c372ee53052c9d3b88"), looks := false }, kinds := [], alts := [], laidByText := true, laidKinds := [.listed, .data], laidTests := true, laidLooks := .later }
def GateTurnsCardSaid : Prop := Claim7.holds Tryd.pinned (.plain (OpenSpec.ofChange gateTurnsSpec)) gateTurnsCard

/-- THE TIED CARD OF 'flotsamlaw08.PathTells'. -/
def pathTellsCard : Claim7 := { stood := { row := pathTellsRow, standIns := [], harness := (true, "eefdea9082e7dd274f5d2f5448848014c4f771c9670899c372ee53052c9d3b88"), looks := false }, kinds := [], alts := [], laidByText := true, laidKinds := [.data, .pinned], laidTests := true, laidLooks := .later }
def PathTellsCardSaid : Prop := Claim7.holds Tryd.pinned (.plain (OpenSpec.ofChange pathTellsSpec)) pathTellsCard

/-- THE TIED CARD OF 'flotsamlaw08.PathBack'. -/
def pathBackCard : Claim7 := { stood := { row := pathBackRow, standIns := [], harness := (true, "eefdea9082e7dd274f5d2f5448848014c4f771c9670899c372ee53052c9d3b88"), looks := false }, kinds := [], alts := [], laidByText := true, laidKinds := [.data, .pinned], laidTests := true, laidLooks := .later }
def PathBackCardSaid : Prop := Claim7.holds Tryd.pinned (.plain (OpenSpec.ofChange pathBackSpec)) pathBackCard

/-- THE TIED CARD OF 'flotsamlaw34.PackTells'. -/
def packTellsCard : Claim7 := { stood := { row := packTellsRow, standIns := [], harness := (true, "eefdea9082e7dd274f5d2f5448848014c4f771c9670899c372ee53052c9d3b88"), looks := false }, kinds := [], alts := [], laidByText := true, laidKinds := [.listed, .data], laidTests := true, laidLooks := .later }
def PackTellsCardSaid : Prop := Claim7.holds Tryd.pinned (.plain (OpenSpec.ofChange packTellsSpec)) packTellsCard

/-- THE TIED CARD OF 'flotsamlaw34.PackBack'. -/
def packBackCard : Claim7 := { stood := { row := packBackRow, standIns := [], harness := (true, "eefdea9082e7dd274f5d2f5448848014c4f771c9670899c372ee53052c9d3b88"), looks := false }, kinds := [], alts := [], laidByText := true, laidKinds := [.listed, .data], laidTests := true, laidLooks := .later }
def PackBackCardSaid : Prop := Claim7.holds Tryd.pinned (.plain (OpenSpec.ofChange packBackSpec)) packBackCard

/-- THE TIED CARD OF 'flotsamlaw07.LayoutInodes'. -/
def layoutInodesCard : Claim7 := { stood := { row := layoutInodesRow, standIns := [], harness := (true, "eefdea9082e7dd274f5d2f5448848014c4f771c9670899c372ee53052c9d3b88"), looks := false }, kinds := [], alts := [], laidByText := true, laidKinds := [.data, .pinned], laidTests := true, laidLooks := .later }
def LayoutInodesCardSaid : Prop := Claim7.holds Tryd.pinned (.plain (OpenSpec.ofChange layoutInodesSpec)) layoutInodesCard

/-- THE TIED CARD OF 'flotsamlaw07.LayoutMounts'. -/
def layoutMountsCard : Claim7 := { stood := { row := layoutMountsRow, standIns := [], harness := (true, "eefdea9082e7dd274f5d2f5448848014c4f771c9670899c372ee53052c9d3b88"), looks := false }, kinds := [], alts := [], laidByText := true, laidKinds := [.data, .pinned], laidTests := true, laidLooks := .later }
def LayoutMountsCardSaid : Prop := Claim7.holds Tryd.pinned (.plain (OpenSpec.ofChange layoutMountsSpec)) layoutMountsCard

/-- THE TIED CARD OF 'flotsamlaw07.LayoutEntries'. -/
def layoutEntriesCard : Claim7 := { stood := { row := layoutEntriesRow, standIns := [], harness := (true, "eefdea9082e7dd274f5d2f5448848014c4f771c9670899c372ee53052c9d3b88"), looks := false }, kinds := [], alts := [], laidByText := true, laidKinds := [.data, .pinned], laidTests := true, laidLooks := .later }
def LayoutEntriesCardSaid : Prop := Claim7.holds Tryd.pinned (.plain (OpenSpec.ofChange layoutEntriesSpec)) layoutEntriesCard

/-- THE SECOND FORM's CARD OF 'flotsamlaw32.ScoreTells'. -/
def scoreTellsUptoCard : Claim7 := { stood := { row := scoreTellsUptoRow, standIns := [], harness := (true, "eefdea9082e7dd274f5d2f5448848014c4f771c9670899c372ee53052c9d3b88"), looks := false }, kinds := [], alts := [], laidByText := true, laidKinds := [.listed, .data], laidTests := true, laidLooks := .later }
def ScoreTellsUptoCardSaid : Prop := Claim7.holds Tryd.pinned (.plain (OpenSpec.upto scoreTellsSpec)) scoreTellsUptoCard

/-- THE SECOND FORM's CARD OF 'flotsamlaw45.GateTells'. -/
def gateTellsUptoCard : Claim7 := { stood := { row := gateTellsUptoRow, standIns := [], harness := (true, "eefdea9082e7dd274f5d2f5448848014c4f771c9670899c372ee53052c9d3b88"), looks := false }, kinds := [], alts := [], laidByText := true, laidKinds := [.listed, .data], laidTests := true, laidLooks := .later }
def GateTellsUptoCardSaid : Prop := Claim7.holds Tryd.pinned (.plain (OpenSpec.upto gateTellsSpec)) gateTellsUptoCard

/-- THE SECOND FORM's CARD OF 'flotsamlaw45.GateTurns'. -/
def gateTurnsUptoCard : Claim7 := { stood := { row := gateTurnsUptoRow, standIns := [], harness := (true, "eefdea9082e7dd274f5d2f5448848014c4f771c9670899c372ee53052c9d3b88"), looks := false }, kinds := [], alts := [], laidByText := true, laidKinds := [.listed, .data], laidTests := true, laidLooks := .later }
def GateTurnsUptoCardSaid : Prop := Claim7.holds Tryd.pinned (.plain (OpenSpec.upto gateTurnsSpec)) gateTurnsUptoCard

/-- THE SECOND FORM's CARD OF 'flotsamlaw08.PathTells'. -/
def pathTellsUptoCard : Claim7 := { stood := { row := pathTellsUptoRow, standIns := [], harness := (true, "eefdea9082e7dd274f5d2f5448848014c4f771c9670899c372ee53052c9d3b88"), looks := false }, kinds := [], alts := [], laidByText := true, laidKinds := [.data, .pinned], laidTests := true, laidLooks := .later }
def PathTellsUptoCardSaid : Prop := Claim7.holds Tryd.pinned (.plain (OpenSpec.upto pathTellsSpec)) pathTellsUptoCard

/-- THE SECOND FORM's CARD OF 'flotsamlaw08.PathBack'. -/
def pathBackUptoCard : Claim7 := { stood := { row := pathBackUptoRow, standIns := [], harness := (true, "eefdea9082e7dd274f5d2f5448848014c4f771c9670899c372ee53052c9d3b88"), looks := false }, kinds := [], alts := [], laidByText := true, laidKinds := [.data, .pinned], laidTests := true, laidLooks := .later }
def PathBackUptoCardSaid : Prop := Claim7.holds Tryd.pinned (.plain (OpenSpec.upto pathBackSpec)) pathBackUptoCard

/-- THE SECOND FORM's CARD OF 'flotsamlaw34.PackTells'. -/
def packTellsUptoCard : Claim7 := { stood := { row := packTellsUptoRow, standIns := [], harness := (true, "eefdea9082e7dd274f5d2f5448848014c4f771c9670899c372ee53052c9d3b88"), looks := false }, kinds := [], alts := [], laidByText := true, laidKinds := [.listed, .data], laidTests := true, laidLooks := .later }
def PackTellsUptoCardSaid : Prop := Claim7.holds Tryd.pinned (.plain (OpenSpec.upto packTellsSpec)) packTellsUptoCard

/-- THE SECOND FORM's CARD OF 'flotsamlaw34.PackBack'. -/
def packBackUptoCard : Claim7 := { stood := { row := packBackUptoRow, standIns := [], harness := (true, "eefdea9082e7dd274f5d2f5448848014c4f771c9670899c372ee53052c9d3b88"), looks := false }, kinds := [], alts := [], laidByText := true, laidKinds := [.listed, .data], laidTests := true, laidLooks := .later }
def PackBackUptoCardSaid : Prop := Claim7.holds Tryd.pinned (.plain (OpenSpec.upto packBackSpec)) packBackUptoCard

/-- THE SECOND FORM's CARD OF 'flotsamlaw07.LayoutInodes'. -/
def layoutInodesUptoCard : Claim7 := { stood := { row := layoutInodesUptoRow, standIns := [], harness := (true, "eefdea9082e7dd274f5d2f5448848014c4f771c9670899c372ee53052c9d3b88"), looks := false }, kinds := [], alts := [], laidByText := true, laidKinds := [.data, .pinned], laidTests := true, laidLooks := .later }
def LayoutInodesUptoCardSaid : Prop := Claim7.holds Tryd.pinned (.plain (OpenSpec.upto layoutInodesSpec)) layoutInodesUptoCard

/-- THE SECOND FORM's CARD OF 'flotsamlaw07.LayoutMounts'. -/
def layoutMountsUptoCard : Claim7 := { stood := { row := layoutMountsUptoRow, standIns := [], harness := (true, "eefdea9082e7dd274f5d2f5448848014c4f771c9670899c372ee53052c9d3b88"), looks := false }, kinds := [], alts := [], laidByText := true, laidKinds := [.data, .pinned], laidTests := true, laidLooks := .later }
def LayoutMountsUptoCardSaid : Prop := Claim7.holds Tryd.pinned (.plain (OpenSpec.upto layoutMountsSpec)) layoutMountsUptoCard

/-- THE SECOND FORM's CARD OF 'flotsamlaw07.LayoutEntries'. -/
def layoutEntriesUptoCard : Claim7 := { stood := { row := layoutEntriesUptoRow, standIns := [], harness := (true, "eefdea9082e7dd274f5d2f5448848014c4f771c9670899c372ee53052c9d3b88"), looks := false }, kinds := [], alts := [], laidByText := true, laidKinds := [.data, .pinned], laidTests := true, laidLooks := .later }
def LayoutEntriesUptoCardSaid : Prop := Claim7.holds Tryd.pinned (.plain (OpenSpec.upto layoutEntriesSpec)) layoutEntriesUptoCard
end Rows
end Go.Proofs.YtacgeomcmpjghaaDoor
