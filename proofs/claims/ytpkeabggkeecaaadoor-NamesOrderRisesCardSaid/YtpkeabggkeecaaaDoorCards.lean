/-
  DERIVED. GIVEN WITH THE SEED: THE CARDS: each row of YtpkeabggkeecaaaDoorRows.lean that lists a variable, with what it lists TIED to the program's text (the seventh form; the later family's looks); each row that meets fmt, with fmt's text TOLD by the authors' own Lean function (tested against real Go, not proved from fmt's source: count such statements apart). THE CARD IS WHAT COUNTS. Prove the row's statement (the work); the ties are given (YtpkeabggkeecaaaDoorTie.lean); close each card by the builder's one call (the guide's Derived/Test/ToyasCard.lean, 'card_holds'). Laid BY PROGRAM, IN A SANDBOX (cutbox-door.mjs). By AI agents, Wed Nov 11 2026. No macro, syntax, notation, axiom, sorry.
-/
import Derived.Test.YtpkeabggkeecaaaDoorRows
import GoSem.ClaimSeven
namespace Go.Proofs.YtpkeabggkeecaaaDoor
namespace Rows

/-- THE TIED CARD OF 'torrentlaw5.NamesThereAndBack'. -/
def namesThereAndBackCard : Claim7 := { stood := { row := namesThereAndBackRow, standIns := [], harness := (true, "7ca1b4aa10df2a6292d6c20a466ecc29fd29af6b632fc4022ac5067d4266c886"), looks := false }, kinds := [], alts := [], laidByText := true, laidKinds := [.data, .pinned], laidTests := true, laidLooks := .later }
def NamesThereAndBackCardSaid : Prop := Claim7.holds Tryd.pinned (.plain (OpenSpec.ofChange namesThereAndBackSpec)) namesThereAndBackCard

/-- THE TIED CARD OF 'torrentlaw5.NamesStayBelow'. -/
def namesStayBelowCard : Claim7 := { stood := { row := namesStayBelowRow, standIns := [], harness := (true, "7ca1b4aa10df2a6292d6c20a466ecc29fd29af6b632fc4022ac5067d4266c886"), looks := false }, kinds := [], alts := [], laidByText := true, laidKinds := [.data, .pinned], laidTests := true, laidLooks := .later }
def NamesStayBelowCardSaid : Prop := Claim7.holds Tryd.pinned (.plain (OpenSpec.ofChange namesStayBelowSpec)) namesStayBelowCard

/-- THE TIED CARD OF 'torrentlaw5.NamesSigns'. -/
def namesSignsCard : Claim7 := { stood := { row := namesSignsRow, standIns := [], harness := (true, "7ca1b4aa10df2a6292d6c20a466ecc29fd29af6b632fc4022ac5067d4266c886"), looks := false }, kinds := [], alts := [], laidByText := true, laidKinds := [.data, .pinned], laidTests := true, laidLooks := .later }
def NamesSignsCardSaid : Prop := Claim7.holds Tryd.pinned (.plain (OpenSpec.ofChange namesSignsSpec)) namesSignsCard

/-- THE TIED CARD OF 'torrentlaw5.NamesTotal'. -/
def namesTotalCard : Claim7 := { stood := { row := namesTotalRow, standIns := [], harness := (true, "7ca1b4aa10df2a6292d6c20a466ecc29fd29af6b632fc4022ac5067d4266c886"), looks := false }, kinds := [], alts := [], laidByText := true, laidKinds := [.data, .pinned], laidTests := true, laidLooks := .later }
def NamesTotalCardSaid : Prop := Claim7.holds Tryd.pinned (.plain (OpenSpec.ofChange namesTotalSpec)) namesTotalCard

/-- THE TIED CARD OF 'torrentlaw5.NamesClashShown'. -/
def namesClashShownCard : Claim7 := { stood := { row := namesClashShownRow, standIns := [], harness := (true, "7ca1b4aa10df2a6292d6c20a466ecc29fd29af6b632fc4022ac5067d4266c886"), looks := false }, kinds := [], alts := [], laidByText := true, laidKinds := [.data, .pinned], laidTests := true, laidLooks := .later }
def NamesClashShownCardSaid : Prop := Claim7.holds Tryd.pinned (.plain (OpenSpec.ofChange namesClashShownSpec)) namesClashShownCard

/-- THE TIED CARD OF 'torrentlaw5.NamesOrderRises'. -/
def namesOrderRisesCard : Claim7 := { stood := { row := namesOrderRisesRow, standIns := [], harness := (true, "7ca1b4aa10df2a6292d6c20a466ecc29fd29af6b632fc4022ac5067d4266c886"), looks := false }, kinds := [], alts := [], laidByText := true, laidKinds := [.data, .pinned], laidTests := true, laidLooks := .later }
def NamesOrderRisesCardSaid : Prop := Claim7.holds Tryd.pinned (.plain (OpenSpec.ofChange namesOrderRisesSpec)) namesOrderRisesCard

/-- THE SECOND FORM's CARD OF 'torrentlaw5.NamesThereAndBack'. -/
def namesThereAndBackUptoCard : Claim7 := { stood := { row := namesThereAndBackUptoRow, standIns := [], harness := (true, "7ca1b4aa10df2a6292d6c20a466ecc29fd29af6b632fc4022ac5067d4266c886"), looks := false }, kinds := [], alts := [], laidByText := true, laidKinds := [.data, .pinned], laidTests := true, laidLooks := .later }
def NamesThereAndBackUptoCardSaid : Prop := Claim7.holds Tryd.pinned (.plain (OpenSpec.upto namesThereAndBackSpec)) namesThereAndBackUptoCard

/-- THE SECOND FORM's CARD OF 'torrentlaw5.NamesStayBelow'. -/
def namesStayBelowUptoCard : Claim7 := { stood := { row := namesStayBelowUptoRow, standIns := [], harness := (true, "7ca1b4aa10df2a6292d6c20a466ecc29fd29af6b632fc4022ac5067d4266c886"), looks := false }, kinds := [], alts := [], laidByText := true, laidKinds := [.data, .pinned], laidTests := true, laidLooks := .later }
def NamesStayBelowUptoCardSaid : Prop := Claim7.holds Tryd.pinned (.plain (OpenSpec.upto namesStayBelowSpec)) namesStayBelowUptoCard

/-- THE SECOND FORM's CARD OF 'torrentlaw5.NamesSigns'. -/
def namesSignsUptoCard : Claim7 := { stood := { row := namesSignsUptoRow, standIns := [], harness := (true, "7ca1b4aa10df2a6292d6c20a466ecc29fd29af6b632fc4022ac5067d4266c886"), looks := false }, kinds := [], alts := [], laidByText := true, laidKinds := [.data, .pinned], laidTests := true, laidLooks := .later }
def NamesSignsUptoCardSaid : Prop := Claim7.holds Tryd.pinned (.plain (OpenSpec.upto namesSignsSpec)) namesSignsUptoCard

/-- THE SECOND FORM's CARD OF 'torrentlaw5.NamesTotal'. -/
def namesTotalUptoCard : Claim7 := { stood := { row := namesTotalUptoRow, standIns := [], harness := (true, "7ca1b4aa10df2a6292d6c20a466ecc29fd29af6b632fc4022ac5067d4266c886"), looks := false }, kinds := [], alts := [], laidByText := true, laidKinds := [.data, .pinned], laidTests := true, laidLooks := .later }
def NamesTotalUptoCardSaid : Prop := Claim7.holds Tryd.pinned (.plain (OpenSpec.upto namesTotalSpec)) namesTotalUptoCard

/-- THE SECOND FORM's CARD OF 'torrentlaw5.NamesClashShown'. -/
def namesClashShownUptoCard : Claim7 := { stood := { row := namesClashShownUptoRow, standIns := [], harness := (true, "7ca1b4aa10df2a6292d6c20a466ecc29fd29af6b632fc4022ac5067d4266c886"), looks := false }, kinds := [], alts := [], laidByText := true, laidKinds := [.data, .pinned], laidTests := true, laidLooks := .later }
def NamesClashShownUptoCardSaid : Prop := Claim7.holds Tryd.pinned (.plain (OpenSpec.upto namesClashShownSpec)) namesClashShownUptoCard

/-- THE SECOND FORM's CARD OF 'torrentlaw5.NamesOrderRises'. -/
def namesOrderRisesUptoCard : Claim7 := { stood := { row := namesOrderRisesUptoRow, standIns := [], harness := (true, "7ca1b4aa10df2a6292d6c20a466ecc29fd29af6b632fc4022ac5067d4266c886"), looks := false }, kinds := [], alts := [], laidByText := true, laidKinds := [.data, .pinned], laidTests := true, laidLooks := .later }
def NamesOrderRisesUptoCardSaid : Prop := Claim7.holds Tryd.pinned (.plain (OpenSpec.upto namesOrderRisesSpec)) namesOrderRisesUptoCard
end Rows
end Go.Proofs.YtpkeabggkeecaaaDoor
