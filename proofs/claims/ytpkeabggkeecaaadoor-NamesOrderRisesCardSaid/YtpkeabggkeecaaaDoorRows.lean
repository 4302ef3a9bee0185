/-
  NARROWER THAN 'FOR EVERY INPUT', by the rows' own cells (each row's printed sentence says how): NamesThereAndBack: laid · NamesStayBelow: laid · NamesSigns: laid · NamesTotal: laid · NamesClashShown: laid · NamesOrderRises: laid.
  DERIVED. THE GIVEN ROWS OF THIS SEAT. 6 by the template 'for every input the law returns true; each argument reads behind the call as it read before'; 0 by the template 'total and deterministic' (their statements: YtpkeabggkeecaaaDoorTotals.lean).
  GIVEN WITH THE SEED: the statements are not yours to turn. If you find one false, say at which input.
  Laid BY PROGRAM, IN A SANDBOX (cutbox-rows.mjs): the forced cells as the released guide's own fill.sh prints them over the translation 503c9282bc418c96… (all of the seat's roots in one cut). By AI agents, Wed Nov 11 2026. No macro, syntax, notation, axiom, sorry.
-/
import Derived.Test.YtpkeabggkeecaaaDoorChecked
import GoSem.PinnedTables
import GoSem.Claim
import GoSem.ClaimJoined
import GoSem.ClaimMapViews
import Derived.JoinedTies
import Derived.KernelRfl
namespace Go.Proofs.YtpkeabggkeecaaaDoor
/- THE CELL 'sum', in the pinned program and in every row, IS THE sha256 OF THE DUMP (.gsa) THAT YtpkeabggkeecaaaDoorProg.lean LOADS. Nothing in Lean hashes anything: it is a label: what it is worth is what the hold of that sum in a sandbox is worth. -/
noncomputable def Tryd.pinned : Pinned := { name := "ytpkeabggkeecaaadoor", sum := "503c9282bc418c962f18cdbcb03ff007d2197433c1d94c2a0160015bd21d112e", checked := Tryd.checked }
namespace Rows
def none {H : Type} : Left H := { results := [], args := [] }

/- WHAT THE LISTED PACKAGE-LEVEL VARIABLES READ AS WHEN THE CALL BEGINS. Each datum BY PROGRAM (the guide's laid-datum.mjs) off the statement by which the dump's own 'gosem.cut.vars' lays the variable. In a bare row this is a premise. The card (YtpkeabggkeecaaaDoorCards.lean) ties it to the program's text. -/
def laid_unicode_utf8_acceptRanges {H : Type} : DataW H := .agg [.agg [.lit (.int .u8 128), .lit (.int .u8 191)], .agg [.lit (.int .u8 160), .lit (.int .u8 191)], .agg [.lit (.int .u8 128), .lit (.int .u8 159)], .agg [.lit (.int .u8 144), .lit (.int .u8 191)], .agg [.lit (.int .u8 128), .lit (.int .u8 143)], .agg [.lit (.int .u8 0), .lit (.int .u8 0)], .agg [.lit (.int .u8 0), .lit (.int .u8 0)], .agg [.lit (.int .u8 0), .lit (.int .u8 0)], .agg [.lit (.int .u8 0), .lit (.int .u8 0)], .agg [.lit (.int .u8 0), .lit (.int .u8 0)], .agg [.lit (.int .u8 0), .lit (.int .u8 0)], .agg [.lit (.int .u8 0), .lit (.int .u8 0)], .agg [.lit (.int .u8 0), .lit (.int .u8 0)], .agg [.lit (.int .u8 0), .lit (.int .u8 0)], .agg [.lit (.int .u8 0), .lit (.int .u8 0)], .agg [.lit (.int .u8 0), .lit (.int .u8 0)]]
/-- One of Go's own tables, pinned by name: the form's constant. -/
def laid_unicode_utf8_first : DataW Unit := Go.Pinned.utf8First

/-- 'torrentlaw5.NamesThereAndBack': WHATEVER THE INPUT: true; the input reads as it did. -/
def namesThereAndBackSpec : ChangeSpec := { name := "namesThereAndBack", fn := fun _ => fun
  | [d1, d2] => { results := [.lit (.bool true)], args := [d1, d2] }
  | _ => none }
def namesThereAndBackRow : OpenClaim := { program := "ytpkeabggkeecaaadoor", sum := "503c9282bc418c962f18cdbcb03ff007d2197433c1d94c2a0160015bd21d112e", func := "torrent/torrentlaw5.NamesThereAndBack", spec := "namesThereAndBack", inPlace := ["internal/abi.NoEscape", "internal/bytealg.MakeNoZero", "internal/bytealg.CountString", "internal/bytealg.IndexByteString", "internal/bytealg.IndexString"], named := ["unicode/utf8.first", "unicode/utf8.acceptRanges", "internal/bytealg.MaxLen"], apart := false, laid := [("unicode/utf8.acceptRanges", laid_unicode_utf8_acceptRanges), ("unicode/utf8.first", laid_unicode_utf8_first)] }
def NamesThereAndBackSaid : Prop := namesThereAndBackRow.holds Tryd.pinned (OpenSpec.ofChange namesThereAndBackSpec)

/-- ITS FALSE NEIGHBOUR: 'it returns false'. Refute it at one input. -/
def namesThereAndBackWrong : ChangeSpec := { name := "namesThereAndBack", fn := fun _ => fun
  | [d1, d2] => { results := [.lit (.bool false)], args := [d1, d2] }
  | _ => none }
def NamesThereAndBackWrongFalsely : Prop := namesThereAndBackRow.holds Tryd.pinned (OpenSpec.ofChange namesThereAndBackWrong)

/-- 'torrentlaw5.NamesStayBelow': WHATEVER THE INPUT: true; the input reads as it did. -/
def namesStayBelowSpec : ChangeSpec := { name := "namesStayBelow", fn := fun _ => fun
  | [d] => { results := [.lit (.bool true)], args := [d] }
  | _ => none }
def namesStayBelowRow : OpenClaim := { program := "ytpkeabggkeecaaadoor", sum := "503c9282bc418c962f18cdbcb03ff007d2197433c1d94c2a0160015bd21d112e", func := "torrent/torrentlaw5.NamesStayBelow", spec := "namesStayBelow", inPlace := ["internal/abi.NoEscape", "internal/bytealg.MakeNoZero", "internal/bytealg.CountString", "internal/bytealg.IndexByteString", "internal/bytealg.IndexString"], named := ["unicode/utf8.first", "unicode/utf8.acceptRanges", "internal/bytealg.MaxLen"], apart := false, laid := [("unicode/utf8.acceptRanges", laid_unicode_utf8_acceptRanges), ("unicode/utf8.first", laid_unicode_utf8_first)] }
def NamesStayBelowSaid : Prop := namesStayBelowRow.holds Tryd.pinned (OpenSpec.ofChange namesStayBelowSpec)

/-- ITS FALSE NEIGHBOUR: 'it returns false'. Refute it at one input. -/
def namesStayBelowWrong : ChangeSpec := { name := "namesStayBelow", fn := fun _ => fun
  | [d] => { results := [.lit (.bool false)], args := [d] }
  | _ => none }
def NamesStayBelowWrongFalsely : Prop := namesStayBelowRow.holds Tryd.pinned (OpenSpec.ofChange namesStayBelowWrong)

/-- 'torrentlaw5.NamesSigns': WHATEVER THE INPUT: true; the input reads as it did. -/
def namesSignsSpec : ChangeSpec := { name := "namesSigns", fn := fun _ => fun
  | [d1, d2] => { results := [.lit (.bool true)], args := [d1, d2] }
  | _ => none }
def namesSignsRow : OpenClaim := { program := "ytpkeabggkeecaaadoor", sum := "503c9282bc418c962f18cdbcb03ff007d2197433c1d94c2a0160015bd21d112e", func := "torrent/torrentlaw5.NamesSigns", spec := "namesSigns", inPlace := ["internal/abi.NoEscape", "internal/bytealg.MakeNoZero", "internal/bytealg.CountString", "internal/bytealg.IndexByteString", "internal/bytealg.IndexString"], named := ["unicode/utf8.first", "unicode/utf8.acceptRanges", "internal/bytealg.MaxLen"], apart := false, laid := [("unicode/utf8.acceptRanges", laid_unicode_utf8_acceptRanges), ("unicode/utf8.first", laid_unicode_utf8_first)] }
def NamesSignsSaid : Prop := namesSignsRow.holds Tryd.pinned (OpenSpec.ofChange namesSignsSpec)

/-- ITS FALSE NEIGHBOUR: 'it returns false'. Refute it at one input. -/
def namesSignsWrong : ChangeSpec := { name := "namesSigns", fn := fun _ => fun
  | [d1, d2] => { results := [.lit (.bool false)], args := [d1, d2] }
  | _ => none }
def NamesSignsWrongFalsely : Prop := namesSignsRow.holds Tryd.pinned (OpenSpec.ofChange namesSignsWrong)

/-- 'torrentlaw5.NamesTotal': WHATEVER THE INPUT: true; the input reads as it did. -/
def namesTotalSpec : ChangeSpec := { name := "namesTotal", fn := fun _ => fun
  | [d1, d2, d3] => { results := [.lit (.bool true)], args := [d1, d2, d3] }
  | _ => none }
def namesTotalRow : OpenClaim := { program := "ytpkeabggkeecaaadoor", sum := "503c9282bc418c962f18cdbcb03ff007d2197433c1d94c2a0160015bd21d112e", func := "torrent/torrentlaw5.NamesTotal", spec := "namesTotal", inPlace := ["internal/abi.NoEscape", "internal/bytealg.MakeNoZero", "internal/bytealg.CountString", "internal/bytealg.IndexByteString", "internal/bytealg.IndexString"], named := ["unicode/utf8.first", "unicode/utf8.acceptRanges", "internal/bytealg.MaxLen"], apart := false, laid := [("unicode/utf8.acceptRanges", laid_unicode_utf8_acceptRanges), ("unicode/utf8.first", laid_unicode_utf8_first)] }
def NamesTotalSaid : Prop := namesTotalRow.holds Tryd.pinned (OpenSpec.ofChange namesTotalSpec)

/-- ITS FALSE NEIGHBOUR: 'it returns false'. Refute it at one input. -/
def namesTotalWrong : ChangeSpec := { name := "namesTotal", fn := fun _ => fun
  | [d1, d2, d3] => { results := [.lit (.bool false)], args := [d1, d2, d3] }
  | _ => none }
def NamesTotalWrongFalsely : Prop := namesTotalRow.holds Tryd.pinned (OpenSpec.ofChange namesTotalWrong)

/-- 'torrentlaw5.NamesClashShown': WHATEVER THE INPUT: true; the input reads as it did. -/
def namesClashShownSpec : ChangeSpec := { name := "namesClashShown", fn := fun _ => fun
  | [d1, d2, d3] => { results := [.lit (.bool true)], args := [d1, d2, d3] }
  | _ => none }
def namesClashShownRow : OpenClaim := { program := "ytpkeabggkeecaaadoor", sum := "503c9282bc418c962f18cdbcb03ff007d2197433c1d94c2a0160015bd21d112e", func := "torrent/torrentlaw5.NamesClashShown", spec := "namesClashShown", inPlace := ["internal/abi.NoEscape", "internal/bytealg.MakeNoZero", "internal/bytealg.CountString", "internal/bytealg.IndexByteString", "internal/bytealg.IndexString"], named := ["unicode/utf8.first", "unicode/utf8.acceptRanges", "internal/bytealg.MaxLen"], apart := false, laid := [("unicode/utf8.acceptRanges", laid_unicode_utf8_acceptRanges), ("unicode/utf8.first", laid_unicode_utf8_first)] }
def NamesClashShownSaid : Prop := namesClashShownRow.holds Tryd.pinned (OpenSpec.ofChange namesClashShownSpec)

/-- ITS FALSE NEIGHBOUR: 'it returns false'. Refute it at one input. -/
def namesClashShownWrong : ChangeSpec := { name := "namesClashShown", fn := fun _ => fun
  | [d1, d2, d3] => { results := [.lit (.bool false)], args := [d1, d2, d3] }
  | _ => none }
def NamesClashShownWrongFalsely : Prop := namesClashShownRow.holds Tryd.pinned (OpenSpec.ofChange namesClashShownWrong)

/-- 'torrentlaw5.NamesOrderRises': WHATEVER THE INPUT: true; the input reads as it did. -/
def namesOrderRisesSpec : ChangeSpec := { name := "namesOrderRises", fn := fun _ => fun
  | [d] => { results := [.lit (.bool true)], args := [d] }
  | _ => none }
def namesOrderRisesRow : OpenClaim := { program := "ytpkeabggkeecaaadoor", sum := "503c9282bc418c962f18cdbcb03ff007d2197433c1d94c2a0160015bd21d112e", func := "torrent/torrentlaw5.NamesOrderRises", spec := "namesOrderRises", inPlace := ["internal/abi.NoEscape", "internal/bytealg.MakeNoZero", "internal/bytealg.CountString", "internal/bytealg.IndexByteString", "internal/bytealg.IndexString"], unfollowed := true, recurses := true, named := ["unicode/utf8.first", "unicode/utf8.acceptRanges", "internal/bytealg.MaxLen"], apart := false, laid := [("unicode/utf8.acceptRanges", laid_unicode_utf8_acceptRanges), ("unicode/utf8.first", laid_unicode_utf8_first)] }
def NamesOrderRisesSaid : Prop := namesOrderRisesRow.holds Tryd.pinned (OpenSpec.ofChange namesOrderRisesSpec)

/-- ITS FALSE NEIGHBOUR: 'it returns false'. Refute it at one input. -/
def namesOrderRisesWrong : ChangeSpec := { name := "namesOrderRises", fn := fun _ => fun
  | [d] => { results := [.lit (.bool false)], args := [d] }
  | _ => none }
def NamesOrderRisesWrongFalsely : Prop := namesOrderRisesRow.holds Tryd.pinned (OpenSpec.ofChange namesOrderRisesWrong)

/- THE SECOND FORM. 'bulk': how many values and letters a reading holds, each counted each time it is reached (what is shared counts as often as it is met; a slice's spare places count too). A statement '..UptoSaid' is the law's where the arguments, and the package variables that the reading takes, are together of bulk at most 1048576: NARROWER than '..Said'. Prove '..Said' where nothing that the law and all that it calls make is longer than what came in: it says more and counts as full. Else prove '..UptoSaid'. A law counts once. -/
mutual
def uptoBulk {H : Type} : DataW H → Nat
  | .lit (.string bytes) => bytes.length + 1
  | .lit _ => 1
  | .nil => 1
  | .ptr d => uptoBulk d + 1
  | .slice elems spare => uptoBulkAll elems + uptoBulkAll spare + 1
  | .agg parts => uptoBulkAll parts + 1
  | .iface _ d => uptoBulk d + 1
  | .map entries => uptoBulkEntries entries + 1
  | .held _ => 1
def uptoBulkAll {H : Type} : List (DataW H) → Nat
  | [] => 0
  | d :: r => uptoBulk d + uptoBulkAll r
def uptoBulkEntries {H : Type} : List (Lit × DataW H) → Nat
  | [] => 0
  | x :: r => uptoBulkEntry x + uptoBulkEntries r
def uptoBulkEntry {H : Type} : Lit × DataW H → Nat
  | (.string bytes, d) => bytes.length + uptoBulk d + 1
  | (_, d) => uptoBulk d + 1
 end
def uptoSmall : (H : Type) → List (DataW H) → Bool := fun _ ds => decide (uptoBulkAll ds ≤ 1048576)
def OpenSpec.upto (s : _root_.Go.ChangeSpec) : _root_.Go.OpenSpec := { _root_.Go.OpenSpec.ofChange s with cond := some uptoSmall }

/-- 'torrentlaw5.NamesThereAndBack', WHERE WHAT IT READS IS OF BULK AT MOST 1048576: true; the input reads as it did. -/
def namesThereAndBackUptoRow : OpenClaim := { program := "ytpkeabggkeecaaadoor", sum := "503c9282bc418c962f18cdbcb03ff007d2197433c1d94c2a0160015bd21d112e", func := "torrent/torrentlaw5.NamesThereAndBack", spec := "namesThereAndBack", inPlace := ["internal/abi.NoEscape", "internal/bytealg.MakeNoZero", "internal/bytealg.CountString", "internal/bytealg.IndexByteString", "internal/bytealg.IndexString"], named := ["unicode/utf8.first", "unicode/utf8.acceptRanges", "internal/bytealg.MaxLen"], apart := false, laid := [("unicode/utf8.acceptRanges", laid_unicode_utf8_acceptRanges), ("unicode/utf8.first", laid_unicode_utf8_first)], narrowed := true }
def NamesThereAndBackUptoSaid : Prop := namesThereAndBackUptoRow.holds Tryd.pinned (OpenSpec.upto namesThereAndBackSpec)

/-- 'torrentlaw5.NamesStayBelow', WHERE WHAT IT READS IS OF BULK AT MOST 1048576: true; the input reads as it did. -/
def namesStayBelowUptoRow : OpenClaim := { program := "ytpkeabggkeecaaadoor", sum := "503c9282bc418c962f18cdbcb03ff007d2197433c1d94c2a0160015bd21d112e", func := "torrent/torrentlaw5.NamesStayBelow", spec := "namesStayBelow", inPlace := ["internal/abi.NoEscape", "internal/bytealg.MakeNoZero", "internal/bytealg.CountString", "internal/bytealg.IndexByteString", "internal/bytealg.IndexString"], named := ["unicode/utf8.first", "unicode/utf8.acceptRanges", "internal/bytealg.MaxLen"], apart := false, laid := [("unicode/utf8.acceptRanges", laid_unicode_utf8_acceptRanges), ("unicode/utf8.first", laid_unicode_utf8_first)], narrowed := true }
def NamesStayBelowUptoSaid : Prop := namesStayBelowUptoRow.holds Tryd.pinned (OpenSpec.upto namesStayBelowSpec)

/-- 'torrentlaw5.NamesSigns', WHERE WHAT IT READS IS OF BULK AT MOST 1048576: true; the input reads as it did. -/
def namesSignsUptoRow : OpenClaim := { program := "ytpkeabggkeecaaadoor", sum := "503c9282bc418c962f18cdbcb03ff007d2197433c1d94c2a0160015bd21d112e", func := "torrent/torrentlaw5.NamesSigns", spec := "namesSigns", inPlace := ["internal/abi.NoEscape", "internal/bytealg.MakeNoZero", "internal/bytealg.CountString", "internal/bytealg.IndexByteString", "internal/bytealg.IndexString"], named := ["unicode/utf8.first", "unicode/utf8.acceptRanges", "internal/bytealg.MaxLen"], apart := false, laid := [("unicode/utf8.acceptRanges", laid_unicode_utf8_acceptRanges), ("unicode/utf8.first", laid_unicode_utf8_first)], narrowed := true }
def NamesSignsUptoSaid : Prop := namesSignsUptoRow.holds Tryd.pinned (OpenSpec.upto namesSignsSpec)

/-- 'torrentlaw5.NamesTotal', WHERE WHAT IT READS IS OF BULK AT MOST 1048576: true; the input reads as it did. -/
def namesTotalUptoRow : OpenClaim := { program := "ytpkeabggkeecaaadoor", sum := "503c9282bc418c962f18cdbcb03ff007d2197433c1d94c2a0160015bd21d112e", func := "torrent/torrentlaw5.NamesTotal", spec := "namesTotal", inPlace := ["internal/abi.NoEscape", "internal/bytealg.MakeNoZero", "internal/bytealg.CountString", "internal/bytealg.IndexByteString", "internal/bytealg.IndexString"], named := ["unicode/utf8.first", "unicode/utf8.acceptRanges", "internal/bytealg.MaxLen"], apart := false, laid := [("unicode/utf8.acceptRanges", laid_unicode_utf8_acceptRanges), ("unicode/utf8.first", laid_unicode_utf8_first)], narrowed := true }
def NamesTotalUptoSaid : Prop := namesTotalUptoRow.holds Tryd.pinned (OpenSpec.upto namesTotalSpec)

/-- 'torrentlaw5.NamesClashShown', WHERE WHAT IT READS IS OF BULK AT MOST 1048576: true; the input reads as it did. -/
def namesClashShownUptoRow : OpenClaim := { program := "ytpkeabggkeecaaadoor", sum := "503c9282bc418c962f18cdbcb03ff007d2197433c1d94c2a0160015bd21d112e", func := "torrent/torrentlaw5.NamesClashShown", spec := "namesClashShown", inPlace := ["internal/abi.NoEscape", "internal/bytealg.MakeNoZero", "internal/bytealg.CountString", "internal/bytealg.IndexByteString", "internal/bytealg.IndexString"], named := ["unicode/utf8.first", "unicode/utf8.acceptRanges", "internal/bytealg.MaxLen"], apart := false, laid := [("unicode/utf8.acceptRanges", laid_unicode_utf8_acceptRanges), ("unicode/utf8.first", laid_unicode_utf8_first)], narrowed := true }
def NamesClashShownUptoSaid : Prop := namesClashShownUptoRow.holds Tryd.pinned (OpenSpec.upto namesClashShownSpec)

/-- 'torrentlaw5.NamesOrderRises', WHERE WHAT IT READS IS OF BULK AT MOST 1048576: true; the input reads as it did. -/
def namesOrderRisesUptoRow : OpenClaim := { program := "ytpkeabggkeecaaadoor", sum := "503c9282bc418c962f18cdbcb03ff007d2197433c1d94c2a0160015bd21d112e", func := "torrent/torrentlaw5.NamesOrderRises", spec := "namesOrderRises", inPlace := ["internal/abi.NoEscape", "internal/bytealg.MakeNoZero", "internal/bytealg.CountString", "internal/bytealg.IndexByteString", "internal/bytealg.IndexString"], unfollowed := true, recurses := true, named := ["unicode/utf8.first", "unicode/utf8.acceptRanges", "internal/bytealg.MaxLen"], apart := false, laid := [("unicode/utf8.acceptRanges", laid_unicode_utf8_acceptRanges), ("unicode/utf8.first", laid_unicode_utf8_first)], narrowed := true }
def NamesOrderRisesUptoSaid : Prop := namesOrderRisesUptoRow.holds Tryd.pinned (OpenSpec.upto namesOrderRisesSpec)

end Rows
end Go.Proofs.YtpkeabggkeecaaaDoor
