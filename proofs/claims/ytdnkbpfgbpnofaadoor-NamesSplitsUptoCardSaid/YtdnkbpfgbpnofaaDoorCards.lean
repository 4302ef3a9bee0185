/-
  DERIVED. GIVEN WITH THE SEED: THE CARDS: each row of YtdnkbpfgbpnofaaDoorRows.lean that lists a variable, with what it lists TIED to the program's text (the seventh form; the later family's looks); each row that meets fmt, with fmt's text TOLD by the authors' own Lean function (tested against real Go, not proved from fmt's source: count such statements apart). THE CARD IS WHAT COUNTS. Prove the row's statement (the work); the ties are given (YtdnkbpfgbpnofaaDoorTie.lean); close each card by the builder's one call (the guide's Derived/Test/ToyasCard.lean, 'card_holds'). Laid BY PROGRAM, IN A SANDBOX (cutbox-door.mjs). By AI agents, Wed Nov 11 2026. No macro, syntax, notation, axiom, sorry.
-/
import Derived.Test.YtdnkbpfgbpnofaaDoorRows
import GoSem.ClaimSeven
namespace Go.Proofs.YtdnkbpfgbpnofaaDoor
namespace Rows

/-- THE TIED CARD OF 'torrentlaw5.NamesSplits'. -/
def namesSplitsCard : Claim7 := { stood := { row := namesSplitsRow, standIns := [], harness := (true, "22131863b126b1a530ad3730987ae051321ddc09bbd224417c6df9bef481d944"), looks := false }, kinds := [], alts := [], laidByText := true, laidKinds := [.data, .pinned], laidTests := true, laidLooks := .later }
def NamesSplitsCardSaid : Prop := Claim7.holds Tryd.pinned (.plain (OpenSpec.ofChange namesSplitsSpec)) namesSplitsCard

/-- THE SECOND FORM's CARD OF 'torrentlaw5.NamesSplits'. -/
def namesSplitsUptoCard : Claim7 := { stood := { row := namesSplitsUptoRow, standIns := [], harness := (true, "22131863b126b1a530ad3730987ae051321ddc09bbd224417c6df9bef481d944"), looks := false }, kinds := [], alts := [], laidByText := true, laidKinds := [.data, .pinned], laidTests := true, laidLooks := .later }
def NamesSplitsUptoCardSaid : Prop := Claim7.holds Tryd.pinned (.plain (OpenSpec.upto namesSplitsSpec)) namesSplitsUptoCard
end Rows
end Go.Proofs.YtdnkbpfgbpnofaaDoor
