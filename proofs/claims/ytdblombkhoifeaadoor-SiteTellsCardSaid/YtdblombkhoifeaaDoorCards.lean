/-
  DERIVED. GIVEN WITH THE SEED: THE CARDS: each row of YtdblombkhoifeaaDoorRows.lean that lists a variable, with what it lists TIED to the program's text (the seventh form; the later family's looks); each row that meets fmt, with fmt's text TOLD by the authors' own Lean function (tested against real Go, not proved from fmt's source: count such statements apart). THE CARD IS WHAT COUNTS. Prove the row's statement (the work); the ties are given (YtdblombkhoifeaaDoorTie.lean); close each card by the builder's one call (the guide's Derived/Test/ToyasCard.lean, 'card_holds'). Laid BY PROGRAM, IN A SANDBOX (cutbox-door.mjs). By AI agents, Wed Nov 11 2026. No macro, syntax, notation, axiom, sorry.
-/
import Derived.Test.YtdblombkhoifeaaDoorRows
import GoSem.ClaimSeven
namespace Go.Proofs.YtdblombkhoifeaaDoor
namespace Rows

/-- THE TIED CARD OF 'flotsamlaw32.ScoreTells'. -/
def scoreTellsCard : Claim7 := { stood := { row := scoreTellsRow, standIns := [], harness := (true, "a311da677c4134e09a6ad269c7a3e3717cc54382a983d5693df031d72debba83"), looks := false }, kinds := [], alts := [], laidByText := true, laidKinds := [.listed, .data], laidTests := true, laidLooks := .later }
def ScoreTellsCardSaid : Prop := Claim7.holds Tryd.pinned (.plain (OpenSpec.ofChange scoreTellsSpec)) scoreTellsCard

/-- THE TIED CARD OF 'flotsamlaw25.SiteTells'. -/
def siteTellsCard : Claim7 := { stood := { row := siteTellsRow, standIns := [], harness := (true, "a311da677c4134e09a6ad269c7a3e3717cc54382a983d5693df031d72debba83"), looks := false }, kinds := [], alts := [], laidByText := true, laidKinds := [.data, .listed, .data, .pinned], laidTests := true, laidLooks := .later }
def SiteTellsCardSaid : Prop := Claim7.holds Tryd.pinned (.plain (OpenSpec.ofChange siteTellsSpec)) siteTellsCard

/-- THE TIED CARD OF 'flotsamlaw34.PackTells'. -/
def packTellsCard : Claim7 := { stood := { row := packTellsRow, standIns := [], harness := (true, "a311da677c4134e09a6ad269c7a3e3717cc54382a983d5693df031d72debba83"), looks := false }, kinds := [], alts := [], laidByText := true, laidKinds := [.listed, .data], laidTests := true, laidLooks := .later }
def PackTellsCardSaid : Prop := Claim7.holds Tryd.pinned (.plain (OpenSpec.ofChange packTellsSpec)) packTellsCard

/-- THE TIED CARD OF 'flotsamlaw34.PackBack'. -/
def packBackCard : Claim7 := { stood := { row := packBackRow, standIns := [], harness := (true, "a311da677c4134e09a6ad269c7a3e3717cc54382a983d5693df031d72debba83"), looks := false }, kinds := [], alts := [], laidByText := true, laidKinds := [.listed, .data], laidTests := true, laidLooks := .later }
def PackBackCardSaid : Prop := Claim7.holds Tryd.pinned (.plain (OpenSpec.ofChange packBackSpec)) packBackCard

/-- THE TIED CARD OF 'flotsamlaw45.GateTells'. -/
def gateTellsCard : Claim7 := { stood := { row := gateTellsRow, standIns := [], harness := (true, "a311da677c4134e09a6ad269c7a3e3717cc54382a983d5693df031d72debba83"), looks := false }, kinds := [], alts := [], laidByText := true, laidKinds := [.listed, .data], laidTests := true, laidLooks := .later }
def GateTellsCardSaid : Prop := Claim7.holds Tryd.pinned (.plain (OpenSpec.ofChange gateTellsSpec)) gateTellsCard

/-- THE TIED CARD OF 'flotsamlaw45.GateTurns'. -/
def gateTurnsCard : Claim7 := { stood := { row := gateTurnsRow, standIns := [], harness := (true, "a311da677c4134e09a6ad269c7a3e3717cc54382a983d5693df031d72debba83"), looks := false }, kinds := [], alts := [], laidByText := true, laidKinds := [.listed, .data], laidTests := true, laidLooks := .later }
def GateTurnsCardSaid : Prop := Claim7.holds Tryd.pinned (.plain (OpenSpec.ofChange gateTurnsSpec)) gateTurnsCard

/-- THE SECOND FORM's CARD OF 'flotsamlaw32.ScoreTells'. -/
def scoreTellsUptoCard : Claim7 := { stood := { row := scoreTellsUptoRow, standIns := [], harness := (true, "a311da677c4134e09a6ad269c7a3e3717cc54382a983d5693df031d72debba83"), looks := false }, kinds := [], alts := [], laidByText := true, laidKinds := [.listed, .data], laidTests := true, laidLooks := .later }
def ScoreTellsUptoCardSaid : Prop := Claim7.holds Tryd.pinned (.plain (OpenSpec.upto scoreTellsSpec)) scoreTellsUptoCard

/-- THE SECOND FORM's CARD OF 'flotsamlaw25.SiteTells'. -/
def siteTellsUptoCard : Claim7 := { stood := { row := siteTellsUptoRow, standIns := [], harness := (true, "a311da677c4134e09a6ad269c7a3e3717cc54382a983d5693df031d72debba83"), looks := false }, kinds := [], alts := [], laidByText := true, laidKinds := [.data, .listed, .data, .pinned], laidTests := true, laidLooks := .later }
def SiteTellsUptoCardSaid : Prop := Claim7.holds Tryd.pinned (.plain (OpenSpec.upto siteTellsSpec)) siteTellsUptoCard

/-- THE SECOND FORM's CARD OF 'flotsamlaw34.PackTells'. -/
def packTellsUptoCard : Claim7 := { stood := { row := packTellsUptoRow, standIns := [], harness := (true, "a311da677c4134e09a6ad269c7a3e3717cc54382a983d5693df031d72debba83"), looks := false }, kinds := [], alts := [], laidByText := true, laidKinds := [.listed, .data], laidTests := true, laidLooks := .later }
def PackTellsUptoCardSaid : Prop := Claim7.holds Tryd.pinned (.plain (OpenSpec.upto packTellsSpec)) packTellsUptoCard

/-- THE SECOND FORM's CARD OF 'flotsamlaw34.PackBack'. -/
def packBackUptoCard : Claim7 := { stood := { row := packBackUptoRow, standIns := [], harness := (true, "a311da677c4134e09a6ad269c7a3e3717cc54382a983d5693df031d72debba83"), looks := false }, kinds := [], alts := [], laidByText := true, laidKinds := [.listed, .data], laidTests := true, laidLooks := .later }
def PackBackUptoCardSaid : Prop := Claim7.holds Tryd.pinned (.plain (OpenSpec.upto packBackSpec)) packBackUptoCard

/-- THE SECOND FORM's CARD OF 'flotsamlaw45.GateTells'. -/
def gateTellsUptoCard : Claim7 := { stood := { row := gateTellsUptoRow, standIns := [], harness := (true, "a311da677c4134e09a6ad269c7a3e3717cc54382a983d5693df031d72debba83"), looks := false }, kinds := [], alts := [], laidByText := true, laidKinds := [.listed, .data], laidTests := true, laidLooks := .later }
def GateTellsUptoCardSaid : Prop := Claim7.holds Tryd.pinned (.plain (OpenSpec.upto gateTellsSpec)) gateTellsUptoCard

/-- THE SECOND FORM's CARD OF 'flotsamlaw45.GateTurns'. -/
def gateTurnsUptoCard : Claim7 := { stood := { row := gateTurnsUptoRow, standIns := [], harness := (true, "a311da677c4134e09a6ad269c7a3e3717cc54382a983d5693df031d72debba83"), looks := false }, kinds := [], alts := [], laidByText := true, laidKinds := [.listed, .data], laidTests := true, laidLooks := .later }
def GateTurnsUptoCardSaid : Prop := Claim7.holds Tryd.pinned (.plain (OpenSpec.upto gateTurnsSpec)) gateTurnsUptoCard
end Rows
end Go.Proofs.YtdblombkhoifeaaDoor
