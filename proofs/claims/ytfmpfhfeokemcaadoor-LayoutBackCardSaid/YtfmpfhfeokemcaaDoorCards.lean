/-
  DERIVED. GIVEN WITH THE SEED: THE CARDS: each row of YtfmpfhfeokemcaaDoorRows.lean that lists a variable, with what it lists TIED to the program's text (the seventh form; the later family's looks); each row that meets fmt, with fmt's text TOLD by the authors' own Lean function (tested against real Go, not proved from fmt's source: count such statements apart). THE CARD IS WHAT COUNTS. Prove the row's statement (the work); the ties are given (YtfmpfhfeokemcaaDoorTie.lean); close each card by the builder's one call (the guide's Derived/Test/ToyasCard.lean, 'card_holds'). Laid BY PROGRAM, IN A SANDBOX (cutbox-door.mjs). By AI agents, Wed Nov 11 2026. No macro, syntax, notation, axiom, sorry.
-/
import Derived.Test.YtfmpfhfeokemcaaDoorRows
import GoSem.ClaimSeven
namespace Go.Proofs.YtfmpfhfeokemcaaDoor
namespace Rows

/-- THE TIED CARD OF 'flotsamlaw07.LayoutInodes'. -/
def layoutInodesCard : Claim7 := { stood := { row := layoutInodesRow, standIns := [], harness := (true, "20fe71080393adc18dbeaaa3ac5430dd236214026f97073d93799e48a0a9a37f"), looks := false }, kinds := [], alts := [], laidByText := true, laidKinds := [.data, .pinned], laidTests := true, laidLooks := .later }
def LayoutInodesCardSaid : Prop := Claim7.holds Tryd.pinned (.plain (OpenSpec.ofChange layoutInodesSpec)) layoutInodesCard

/-- THE TIED CARD OF 'flotsamlaw07.LayoutMounts'. -/
def layoutMountsCard : Claim7 := { stood := { row := layoutMountsRow, standIns := [], harness := (true, "20fe71080393adc18dbeaaa3ac5430dd236214026f97073d93799e48a0a9a37f"), looks := false }, kinds := [], alts := [], laidByText := true, laidKinds := [.data, .pinned], laidTests := true, laidLooks := .later }
def LayoutMountsCardSaid : Prop := Claim7.holds Tryd.pinned (.plain (OpenSpec.ofChange layoutMountsSpec)) layoutMountsCard

/-- THE TIED CARD OF 'flotsamlaw07.LayoutEntries'. -/
def layoutEntriesCard : Claim7 := { stood := { row := layoutEntriesRow, standIns := [], harness := (true, "20fe71080393adc18dbeaaa3ac5430dd236214026f97073d93799e48a0a9a37f"), looks := false }, kinds := [], alts := [], laidByText := true, laidKinds := [.data, .pinned], laidTests := true, laidLooks := .later }
def LayoutEntriesCardSaid : Prop := Claim7.holds Tryd.pinned (.plain (OpenSpec.ofChange layoutEntriesSpec)) layoutEntriesCard

/-- THE TIED CARD OF 'flotsamlaw07.LayoutBack'. -/
def layoutBackCard : Claim7 := { stood := { row := layoutBackRow, standIns := [], harness := (true, "20fe71080393adc18dbeaaa3ac5430dd236214026f97073d93799e48a0a9a37f"), looks := false }, kinds := [], alts := [], laidByText := true, laidKinds := [.data, .pinned], laidTests := true, laidLooks := .later }
def LayoutBackCardSaid : Prop := Claim7.holds Tryd.pinned (.plain (OpenSpec.ofChange layoutBackSpec)) layoutBackCard

/-- THE SECOND FORM's CARD OF 'flotsamlaw07.LayoutInodes'. -/
def layoutInodesUptoCard : Claim7 := { stood := { row := layoutInodesUptoRow, standIns := [], harness := (true, "20fe71080393adc18dbeaaa3ac5430dd236214026f97073d93799e48a0a9a37f"), looks := false }, kinds := [], alts := [], laidByText := true, laidKinds := [.data, .pinned], laidTests := true, laidLooks := .later }
def LayoutInodesUptoCardSaid : Prop := Claim7.holds Tryd.pinned (.plain (OpenSpec.upto layoutInodesSpec)) layoutInodesUptoCard

/-- THE SECOND FORM's CARD OF 'flotsamlaw07.LayoutMounts'. -/
def layoutMountsUptoCard : Claim7 := { stood := { row := layoutMountsUptoRow, standIns := [], harness := (true, "20fe71080393adc18dbeaaa3ac5430dd236214026f97073d93799e48a0a9a37f"), looks := false }, kinds := [], alts := [], laidByText := true, laidKinds := [.data, .pinned], laidTests := true, laidLooks := .later }
def LayoutMountsUptoCardSaid : Prop := Claim7.holds Tryd.pinned (.plain (OpenSpec.upto layoutMountsSpec)) layoutMountsUptoCard

/-- THE SECOND FORM's CARD OF 'flotsamlaw07.LayoutEntries'. -/
def layoutEntriesUptoCard : Claim7 := { stood := { row := layoutEntriesUptoRow, standIns := [], harness := (true, "20fe71080393adc18dbeaaa3ac5430dd236214026f97073d93799e48a0a9a37f"), looks := false }, kinds := [], alts := [], laidByText := true, laidKinds := [.data, .pinned], laidTests := true, laidLooks := .later }
def LayoutEntriesUptoCardSaid : Prop := Claim7.holds Tryd.pinned (.plain (OpenSpec.upto layoutEntriesSpec)) layoutEntriesUptoCard

/-- THE SECOND FORM's CARD OF 'flotsamlaw07.LayoutBack'. -/
def layoutBackUptoCard : Claim7 := { stood := { row := layoutBackUptoRow, standIns := [], harness := (true, "20fe71080393adc18dbeaaa3ac5430dd236214026f97073d93799e48a0a9a37f"), looks := false }, kinds := [], alts := [], laidByText := true, laidKinds := [.data, .pinned], laidTests := true, laidLooks := .later }
def LayoutBackUptoCardSaid : Prop := Claim7.holds Tryd.pinned (.plain (OpenSpec.upto layoutBackSpec)) layoutBackUptoCard
end Rows
end Go.Proofs.YtfmpfhfeokemcaaDoor
