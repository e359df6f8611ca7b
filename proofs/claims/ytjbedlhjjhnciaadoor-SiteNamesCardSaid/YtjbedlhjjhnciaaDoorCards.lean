/-
  DERIVED. GIVEN WITH THE SEED: THE CARDS: each row of YtjbedlhjjhnciaaDoorRows.lean that lists a variable, with what it lists TIED to the program's text (the seventh form; the later family's looks); each row that meets fmt, with fmt's text TOLD by the authors' own Lean function (tested against real Go, not proved from fmt's source: count such statements apart). THE CARD IS WHAT COUNTS. Prove the row's statement (the work); the ties are given (YtjbedlhjjhnciaaDoorTie.lean); close each card by the builder's one call (the guide's Derived/Test/ToyasCard.lean, 'card_holds'). Laid BY PROGRAM, IN A SANDBOX (cutbox-door.mjs). By AI agents, Wed Nov 11 2026. No macro, syntax, notation, axiom, sorry.
-/
import Derived.Test.YtjbedlhjjhnciaaDoorRows
import GoSem.ClaimSeven
namespace Go.Proofs.YtjbedlhjjhnciaaDoor
namespace Rows

/-- THE TIED CARD OF 'flotsamlaw15.LexWords'. -/
def lexWordsCard : Claim7 := { stood := { row := lexWordsRow, standIns := [], harness := (true, "78e2634c1d37a944ae8a91ff95ac4c4e975f229d845ba63e2ea5884fc9657d63"), looks := false }, kinds := [], alts := [], laidByText := true, laidKinds := [.data, .pinned], laidTests := true, laidLooks := .later }
def LexWordsCardSaid : Prop := Claim7.holds Tryd.pinned (.plain (OpenSpec.ofChange lexWordsSpec)) lexWordsCard

/-- THE TIED CARD OF 'flotsamlaw15.LexShows'. -/
def lexShowsCard : Claim7 := { stood := { row := lexShowsRow, standIns := [], harness := (true, "78e2634c1d37a944ae8a91ff95ac4c4e975f229d845ba63e2ea5884fc9657d63"), looks := false }, kinds := [], alts := [], laidByText := true, laidKinds := [.data, .pinned], laidTests := true, laidLooks := .later }
def LexShowsCardSaid : Prop := Claim7.holds Tryd.pinned (.plain (OpenSpec.ofChange lexShowsSpec)) lexShowsCard

/-- THE TIED CARD OF 'flotsamlaw15.LexBack'. -/
def lexBackCard : Claim7 := { stood := { row := lexBackRow, standIns := [], harness := (true, "78e2634c1d37a944ae8a91ff95ac4c4e975f229d845ba63e2ea5884fc9657d63"), looks := false }, kinds := [], alts := [], laidByText := true, laidKinds := [.data, .pinned], laidTests := true, laidLooks := .later }
def LexBackCardSaid : Prop := Claim7.holds Tryd.pinned (.plain (OpenSpec.ofChange lexBackSpec)) lexBackCard

/-- THE TIED CARD OF 'flotsamlaw25.SiteTells'. -/
def siteTellsCard : Claim7 := { stood := { row := siteTellsRow, standIns := [], harness := (true, "78e2634c1d37a944ae8a91ff95ac4c4e975f229d845ba63e2ea5884fc9657d63"), looks := false }, kinds := [], alts := [], laidByText := true, laidKinds := [.data, .listed, .data, .pinned], laidTests := true, laidLooks := .later }
def SiteTellsCardSaid : Prop := Claim7.holds Tryd.pinned (.plain (OpenSpec.ofChange siteTellsSpec)) siteTellsCard

/-- THE TIED CARD OF 'flotsamlaw25.SiteNames'. -/
def siteNamesCard : Claim7 := { stood := { row := siteNamesRow, standIns := [], harness := (true, "78e2634c1d37a944ae8a91ff95ac4c4e975f229d845ba63e2ea5884fc9657d63"), looks := false }, kinds := [], alts := [], laidByText := true, laidKinds := [.data, .listed, .data, .pinned], laidTests := true, laidLooks := .later }
def SiteNamesCardSaid : Prop := Claim7.holds Tryd.pinned (.plain (OpenSpec.ofChange siteNamesSpec)) siteNamesCard

/-- THE SECOND FORM's CARD OF 'flotsamlaw15.LexWords'. -/
def lexWordsUptoCard : Claim7 := { stood := { row := lexWordsUptoRow, standIns := [], harness := (true, "78e2634c1d37a944ae8a91ff95ac4c4e975f229d845ba63e2ea5884fc9657d63"), looks := false }, kinds := [], alts := [], laidByText := true, laidKinds := [.data, .pinned], laidTests := true, laidLooks := .later }
def LexWordsUptoCardSaid : Prop := Claim7.holds Tryd.pinned (.plain (OpenSpec.upto lexWordsSpec)) lexWordsUptoCard

/-- THE SECOND FORM's CARD OF 'flotsamlaw15.LexShows'. -/
def lexShowsUptoCard : Claim7 := { stood := { row := lexShowsUptoRow, standIns := [], harness := (true, "78e2634c1d37a944ae8a91ff95ac4c4e975f229d845ba63e2ea5884fc9657d63"), looks := false }, kinds := [], alts := [], laidByText := true, laidKinds := [.data, .pinned], laidTests := true, laidLooks := .later }
def LexShowsUptoCardSaid : Prop := Claim7.holds Tryd.pinned (.plain (OpenSpec.upto lexShowsSpec)) lexShowsUptoCard

/-- THE SECOND FORM's CARD OF 'flotsamlaw15.LexBack'. -/
def lexBackUptoCard : Claim7 := { stood := { row := lexBackUptoRow, standIns := [], harness := (true, "78e2634c1d37a944ae8a91ff95ac4c4e975f229d845ba63e2ea5884fc9657d63"), looks := false }, kinds := [], alts := [], laidByText := true, laidKinds := [.data, .pinned], laidTests := true, laidLooks := .later }
def LexBackUptoCardSaid : Prop := Claim7.holds Tryd.pinned (.plain (OpenSpec.upto lexBackSpec)) lexBackUptoCard

/-- THE SECOND FORM's CARD OF 'flotsamlaw25.SiteTells'. -/
def siteTellsUptoCard : Claim7 := { stood := { row := siteTellsUptoRow, standIns := [], harness := (true, "78e2634c1d37a944ae8a91ff95ac4c4e975f229d845ba63e2ea5884fc9657d63"), looks := false }, kinds := [], alts := [], laidByText := true, laidKinds := [.data, .listed, .data, .pinned], laidTests := true, laidLooks := .later }
def SiteTellsUptoCardSaid : Prop := Claim7.holds Tryd.pinned (.plain (OpenSpec.upto siteTellsSpec)) siteTellsUptoCard

/-- THE SECOND FORM's CARD OF 'flotsamlaw25.SiteNames'. -/
def siteNamesUptoCard : Claim7 := { stood := { row := siteNamesUptoRow, standIns := [], harness := (true, "78e2634c1d37a944ae8a91ff95ac4c4e975f229d845ba63e2ea5884fc9657d63"), looks := false }, kinds := [], alts := [], laidByText := true, laidKinds := [.data, .listed, .data, .pinned], laidTests := true, laidLooks := .later }
def SiteNamesUptoCardSaid : Prop := Claim7.holds Tryd.pinned (.plain (OpenSpec.upto siteNamesSpec)) siteNamesUptoCard
end Rows
end Go.Proofs.YtjbedlhjjhnciaaDoor
