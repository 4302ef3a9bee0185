/-
  NARROWER THAN 'FOR EVERY INPUT', by the rows' own cells (each row's printed sentence says how): MagnetWants: loops · CreateMaps: loops · CreateGlues: loops · CreateBlocks: loops · CreateSlices: loops.
  DERIVED. THE GIVEN ROWS OF THIS SEAT. 16 by the template 'for every input the law returns true; each argument reads behind the call as it read before'; 0 by the template 'total and deterministic' (their statements: YtdnkbpfgbpnofaaTotals.lean).
  GIVEN WITH THE SEED: the statements are not yours to turn. If you find one false, say at which input.
  Laid BY PROGRAM, IN A SANDBOX (cutbox-rows.mjs): the forced cells as the released guide's own fill.sh prints them over the translation 105bea2863d2d803… (all of the seat's roots in one cut). By AI agents, Wed Nov 11 2026. No macro, syntax, notation, axiom, sorry.
-/
import Derived.Test.YtdnkbpfgbpnofaaChecked
import GoSem.Claim
import GoSem.ClaimJoined
import GoSem.ClaimMapViews
import Derived.JoinedTies
import Derived.KernelRfl
namespace Go.Proofs.Ytdnkbpfgbpnofaa
/- THE CELL 'sum', in the pinned program and in every row, IS THE sha256 OF THE DUMP (.gsa) THAT YtdnkbpfgbpnofaaProg.lean LOADS. Nothing in Lean hashes anything: it is a label: what it is worth is what the hold of that sum in a sandbox is worth. -/
noncomputable def Try.pinned : Pinned := { name := "ytdnkbpfgbpnofaa", sum := "105bea2863d2d80382d3520767f7b80b1f262e163668b414d2c16e4080db521f", checked := Try.checked }
namespace Rows
def none {H : Type} : Left H := { results := [], args := [] }

/-- 'torrentnames.NamesErrors': WHATEVER THE INPUT: true; the input reads as it did. -/
def namesErrorsSpec : ChangeSpec := { name := "namesErrors", fn := fun _ => fun
  | [] => { results := [.lit (.bool true)], args := [] }
  | _ => none }
def namesErrorsRow : OpenClaim := { program := "ytdnkbpfgbpnofaa", sum := "105bea2863d2d80382d3520767f7b80b1f262e163668b414d2c16e4080db521f", func := "torrent/torrentnames.NamesErrors", spec := "namesErrors", apart := false }
def NamesErrorsSaid : Prop := namesErrorsRow.holds Try.pinned (OpenSpec.ofChange namesErrorsSpec)

/-- ITS FALSE NEIGHBOUR: 'it returns false'. Refute it at one input. -/
def namesErrorsWrong : ChangeSpec := { name := "namesErrors", fn := fun _ => fun
  | [] => { results := [.lit (.bool false)], args := [] }
  | _ => none }
def NamesErrorsWrongFalsely : Prop := namesErrorsRow.holds Try.pinned (OpenSpec.ofChange namesErrorsWrong)

/-- 'torrentnames.NamesLimits': WHATEVER THE INPUT: true; the input reads as it did. -/
def namesLimitsSpec : ChangeSpec := { name := "namesLimits", fn := fun _ => fun
  | [] => { results := [.lit (.bool true)], args := [] }
  | _ => none }
def namesLimitsRow : OpenClaim := { program := "ytdnkbpfgbpnofaa", sum := "105bea2863d2d80382d3520767f7b80b1f262e163668b414d2c16e4080db521f", func := "torrent/torrentnames.NamesLimits", spec := "namesLimits", apart := false }
def NamesLimitsSaid : Prop := namesLimitsRow.holds Try.pinned (OpenSpec.ofChange namesLimitsSpec)

/-- ITS FALSE NEIGHBOUR: 'it returns false'. Refute it at one input. -/
def namesLimitsWrong : ChangeSpec := { name := "namesLimits", fn := fun _ => fun
  | [] => { results := [.lit (.bool false)], args := [] }
  | _ => none }
def NamesLimitsWrongFalsely : Prop := namesLimitsRow.holds Try.pinned (OpenSpec.ofChange namesLimitsWrong)

/-- 'torrentnames.NamesKinds': WHATEVER THE INPUT: true; the input reads as it did. -/
def namesKindsSpec : ChangeSpec := { name := "namesKinds", fn := fun _ => fun
  | [] => { results := [.lit (.bool true)], args := [] }
  | _ => none }
def namesKindsRow : OpenClaim := { program := "ytdnkbpfgbpnofaa", sum := "105bea2863d2d80382d3520767f7b80b1f262e163668b414d2c16e4080db521f", func := "torrent/torrentnames.NamesKinds", spec := "namesKinds", apart := false }
def NamesKindsSaid : Prop := namesKindsRow.holds Try.pinned (OpenSpec.ofChange namesKindsSpec)

/-- ITS FALSE NEIGHBOUR: 'it returns false'. Refute it at one input. -/
def namesKindsWrong : ChangeSpec := { name := "namesKinds", fn := fun _ => fun
  | [] => { results := [.lit (.bool false)], args := [] }
  | _ => none }
def NamesKindsWrongFalsely : Prop := namesKindsRow.holds Try.pinned (OpenSpec.ofChange namesKindsWrong)

/-- 'torrentlaw4.BitsetChecks': WHATEVER THE INPUT: true; the input reads as it did. -/
def bitsetChecksSpec : ChangeSpec := { name := "bitsetChecks", fn := fun _ => fun
  | [d1, d2] => { results := [.lit (.bool true)], args := [d1, d2] }
  | _ => none }
def bitsetChecksRow : OpenClaim := { program := "ytdnkbpfgbpnofaa", sum := "105bea2863d2d80382d3520767f7b80b1f262e163668b414d2c16e4080db521f", func := "torrent/torrentlaw4.BitsetChecks", spec := "bitsetChecks", apart := false }
def BitsetChecksSaid : Prop := bitsetChecksRow.holds Try.pinned (OpenSpec.ofChange bitsetChecksSpec)

/-- ITS FALSE NEIGHBOUR: 'it returns false'. Refute it at one input. -/
def bitsetChecksWrong : ChangeSpec := { name := "bitsetChecks", fn := fun _ => fun
  | [d1, d2] => { results := [.lit (.bool false)], args := [d1, d2] }
  | _ => none }
def BitsetChecksWrongFalsely : Prop := bitsetChecksRow.holds Try.pinned (OpenSpec.ofChange bitsetChecksWrong)

/-- 'torrentlaw5.NamesUtf8s': WHATEVER THE INPUT: true; the input reads as it did. -/
def namesUtf8sSpec : ChangeSpec := { name := "namesUtf8s", fn := fun _ => fun
  | [d] => { results := [.lit (.bool true)], args := [d] }
  | _ => none }
def namesUtf8sRow : OpenClaim := { program := "ytdnkbpfgbpnofaa", sum := "105bea2863d2d80382d3520767f7b80b1f262e163668b414d2c16e4080db521f", func := "torrent/torrentlaw5.NamesUtf8s", spec := "namesUtf8s", apart := false }
def NamesUtf8sSaid : Prop := namesUtf8sRow.holds Try.pinned (OpenSpec.ofChange namesUtf8sSpec)

/-- ITS FALSE NEIGHBOUR: 'it returns false'. Refute it at one input. -/
def namesUtf8sWrong : ChangeSpec := { name := "namesUtf8s", fn := fun _ => fun
  | [d] => { results := [.lit (.bool false)], args := [d] }
  | _ => none }
def NamesUtf8sWrongFalsely : Prop := namesUtf8sRow.holds Try.pinned (OpenSpec.ofChange namesUtf8sWrong)

/-- 'torrentlaw22.MagnetWants': WHATEVER THE INPUT: true; the input reads as it did. -/
def magnetWantsSpec : ChangeSpec := { name := "magnetWants", fn := fun _ => fun
  | [d1, d2] => { results := [.lit (.bool true)], args := [d1, d2] }
  | _ => none }
def magnetWantsRow : OpenClaim := { program := "ytdnkbpfgbpnofaa", sum := "105bea2863d2d80382d3520767f7b80b1f262e163668b414d2c16e4080db521f", func := "torrent/torrentlaw22.MagnetWants", spec := "magnetWants", unfollowed := true, recurses := true, loops := true, apart := false }
def MagnetWantsSaid : Prop := magnetWantsRow.holds Try.pinned (OpenSpec.ofChange magnetWantsSpec)

/-- ITS FALSE NEIGHBOUR: 'it returns false'. Refute it at one input. -/
def magnetWantsWrong : ChangeSpec := { name := "magnetWants", fn := fun _ => fun
  | [d1, d2] => { results := [.lit (.bool false)], args := [d1, d2] }
  | _ => none }
def MagnetWantsWrongFalsely : Prop := magnetWantsRow.holds Try.pinned (OpenSpec.ofChange magnetWantsWrong)

/-- 'torrentlaw14.StoreNeeds': WHATEVER THE INPUT: true; the input reads as it did. -/
def storeNeedsSpec : ChangeSpec := { name := "storeNeeds", fn := fun _ => fun
  | [d1, d2] => { results := [.lit (.bool true)], args := [d1, d2] }
  | _ => none }
def storeNeedsRow : OpenClaim := { program := "ytdnkbpfgbpnofaa", sum := "105bea2863d2d80382d3520767f7b80b1f262e163668b414d2c16e4080db521f", func := "torrent/torrentlaw14.StoreNeeds", spec := "storeNeeds", apart := false }
def StoreNeedsSaid : Prop := storeNeedsRow.holds Try.pinned (OpenSpec.ofChange storeNeedsSpec)

/-- ITS FALSE NEIGHBOUR: 'it returns false'. Refute it at one input. -/
def storeNeedsWrong : ChangeSpec := { name := "storeNeeds", fn := fun _ => fun
  | [d1, d2] => { results := [.lit (.bool false)], args := [d1, d2] }
  | _ => none }
def StoreNeedsWrongFalsely : Prop := storeNeedsRow.holds Try.pinned (OpenSpec.ofChange storeNeedsWrong)

/-- 'torrentlaw5.NamesComponents': WHATEVER THE INPUT: true; the input reads as it did. -/
def namesComponentsSpec : ChangeSpec := { name := "namesComponents", fn := fun _ => fun
  | [d] => { results := [.lit (.bool true)], args := [d] }
  | _ => none }
def namesComponentsRow : OpenClaim := { program := "ytdnkbpfgbpnofaa", sum := "105bea2863d2d80382d3520767f7b80b1f262e163668b414d2c16e4080db521f", func := "torrent/torrentlaw5.NamesComponents", spec := "namesComponents", apart := false }
def NamesComponentsSaid : Prop := namesComponentsRow.holds Try.pinned (OpenSpec.ofChange namesComponentsSpec)

/-- ITS FALSE NEIGHBOUR: 'it returns false'. Refute it at one input. -/
def namesComponentsWrong : ChangeSpec := { name := "namesComponents", fn := fun _ => fun
  | [d] => { results := [.lit (.bool false)], args := [d] }
  | _ => none }
def NamesComponentsWrongFalsely : Prop := namesComponentsRow.holds Try.pinned (OpenSpec.ofChange namesComponentsWrong)

/-- 'torrentlaw5.NamesLesses': WHATEVER THE INPUT: true; the input reads as it did. -/
def namesLessesSpec : ChangeSpec := { name := "namesLesses", fn := fun _ => fun
  | [d1, d2] => { results := [.lit (.bool true)], args := [d1, d2] }
  | _ => none }
def namesLessesRow : OpenClaim := { program := "ytdnkbpfgbpnofaa", sum := "105bea2863d2d80382d3520767f7b80b1f262e163668b414d2c16e4080db521f", func := "torrent/torrentlaw5.NamesLesses", spec := "namesLesses", apart := false }
def NamesLessesSaid : Prop := namesLessesRow.holds Try.pinned (OpenSpec.ofChange namesLessesSpec)

/-- ITS FALSE NEIGHBOUR: 'it returns false'. Refute it at one input. -/
def namesLessesWrong : ChangeSpec := { name := "namesLesses", fn := fun _ => fun
  | [d1, d2] => { results := [.lit (.bool false)], args := [d1, d2] }
  | _ => none }
def NamesLessesWrongFalsely : Prop := namesLessesRow.holds Try.pinned (OpenSpec.ofChange namesLessesWrong)

/-- 'torrentlaw5.NamesClashes': WHATEVER THE INPUT: true; the input reads as it did. -/
def namesClashesSpec : ChangeSpec := { name := "namesClashes", fn := fun _ => fun
  | [d] => { results := [.lit (.bool true)], args := [d] }
  | _ => none }
def namesClashesRow : OpenClaim := { program := "ytdnkbpfgbpnofaa", sum := "105bea2863d2d80382d3520767f7b80b1f262e163668b414d2c16e4080db521f", func := "torrent/torrentlaw5.NamesClashes", spec := "namesClashes", apart := false }
def NamesClashesSaid : Prop := namesClashesRow.holds Try.pinned (OpenSpec.ofChange namesClashesSpec)

/-- ITS FALSE NEIGHBOUR: 'it returns false'. Refute it at one input. -/
def namesClashesWrong : ChangeSpec := { name := "namesClashes", fn := fun _ => fun
  | [d] => { results := [.lit (.bool false)], args := [d] }
  | _ => none }
def NamesClashesWrongFalsely : Prop := namesClashesRow.holds Try.pinned (OpenSpec.ofChange namesClashesWrong)

/-- 'torrentlaw5.NamesPaths': WHATEVER THE INPUT: true; the input reads as it did. -/
def namesPathsSpec : ChangeSpec := { name := "namesPaths", fn := fun _ => fun
  | [d] => { results := [.lit (.bool true)], args := [d] }
  | _ => none }
def namesPathsRow : OpenClaim := { program := "ytdnkbpfgbpnofaa", sum := "105bea2863d2d80382d3520767f7b80b1f262e163668b414d2c16e4080db521f", func := "torrent/torrentlaw5.NamesPaths", spec := "namesPaths", apart := false }
def NamesPathsSaid : Prop := namesPathsRow.holds Try.pinned (OpenSpec.ofChange namesPathsSpec)

/-- ITS FALSE NEIGHBOUR: 'it returns false'. Refute it at one input. -/
def namesPathsWrong : ChangeSpec := { name := "namesPaths", fn := fun _ => fun
  | [d] => { results := [.lit (.bool false)], args := [d] }
  | _ => none }
def NamesPathsWrongFalsely : Prop := namesPathsRow.holds Try.pinned (OpenSpec.ofChange namesPathsWrong)

/-- 'torrentlaw9.CreateMaps': WHATEVER THE INPUT: true; the input reads as it did. -/
def createMapsSpec : ChangeSpec := { name := "createMaps", fn := fun _ => fun
  | [d1, d2, d3, d4] => { results := [.lit (.bool true)], args := [d1, d2, d3, d4] }
  | _ => none }
def createMapsRow : OpenClaim := { program := "ytdnkbpfgbpnofaa", sum := "105bea2863d2d80382d3520767f7b80b1f262e163668b414d2c16e4080db521f", func := "torrent/torrentlaw9.CreateMaps", spec := "createMaps", unfollowed := true, recurses := true, loops := true, apart := false }
def CreateMapsSaid : Prop := createMapsRow.holds Try.pinned (OpenSpec.ofChange createMapsSpec)

/-- ITS FALSE NEIGHBOUR: 'it returns false'. Refute it at one input. -/
def createMapsWrong : ChangeSpec := { name := "createMaps", fn := fun _ => fun
  | [d1, d2, d3, d4] => { results := [.lit (.bool false)], args := [d1, d2, d3, d4] }
  | _ => none }
def CreateMapsWrongFalsely : Prop := createMapsRow.holds Try.pinned (OpenSpec.ofChange createMapsWrong)

/-- 'torrentlaw9.CreateGlues': WHATEVER THE INPUT: true; the input reads as it did. -/
def createGluesSpec : ChangeSpec := { name := "createGlues", fn := fun _ => fun
  | [d1, d2] => { results := [.lit (.bool true)], args := [d1, d2] }
  | _ => none }
def createGluesRow : OpenClaim := { program := "ytdnkbpfgbpnofaa", sum := "105bea2863d2d80382d3520767f7b80b1f262e163668b414d2c16e4080db521f", func := "torrent/torrentlaw9.CreateGlues", spec := "createGlues", unfollowed := true, recurses := true, loops := true, apart := false }
def CreateGluesSaid : Prop := createGluesRow.holds Try.pinned (OpenSpec.ofChange createGluesSpec)

/-- ITS FALSE NEIGHBOUR: 'it returns false'. Refute it at one input. -/
def createGluesWrong : ChangeSpec := { name := "createGlues", fn := fun _ => fun
  | [d1, d2] => { results := [.lit (.bool false)], args := [d1, d2] }
  | _ => none }
def CreateGluesWrongFalsely : Prop := createGluesRow.holds Try.pinned (OpenSpec.ofChange createGluesWrong)

/-- 'torrentlaw9.CreateBlocks': WHATEVER THE INPUT: true; the input reads as it did. -/
def createBlocksSpec : ChangeSpec := { name := "createBlocks", fn := fun _ => fun
  | [d1, d2, d3, d4] => { results := [.lit (.bool true)], args := [d1, d2, d3, d4] }
  | _ => none }
def createBlocksRow : OpenClaim := { program := "ytdnkbpfgbpnofaa", sum := "105bea2863d2d80382d3520767f7b80b1f262e163668b414d2c16e4080db521f", func := "torrent/torrentlaw9.CreateBlocks", spec := "createBlocks", unfollowed := true, recurses := true, loops := true, apart := false }
def CreateBlocksSaid : Prop := createBlocksRow.holds Try.pinned (OpenSpec.ofChange createBlocksSpec)

/-- ITS FALSE NEIGHBOUR: 'it returns false'. Refute it at one input. -/
def createBlocksWrong : ChangeSpec := { name := "createBlocks", fn := fun _ => fun
  | [d1, d2, d3, d4] => { results := [.lit (.bool false)], args := [d1, d2, d3, d4] }
  | _ => none }
def CreateBlocksWrongFalsely : Prop := createBlocksRow.holds Try.pinned (OpenSpec.ofChange createBlocksWrong)

/-- 'torrentlaw9.CreateSlices': WHATEVER THE INPUT: true; the input reads as it did. -/
def createSlicesSpec : ChangeSpec := { name := "createSlices", fn := fun _ => fun
  | [d1, d2] => { results := [.lit (.bool true)], args := [d1, d2] }
  | _ => none }
def createSlicesRow : OpenClaim := { program := "ytdnkbpfgbpnofaa", sum := "105bea2863d2d80382d3520767f7b80b1f262e163668b414d2c16e4080db521f", func := "torrent/torrentlaw9.CreateSlices", spec := "createSlices", unfollowed := true, recurses := true, loops := true, apart := false }
def CreateSlicesSaid : Prop := createSlicesRow.holds Try.pinned (OpenSpec.ofChange createSlicesSpec)

/-- ITS FALSE NEIGHBOUR: 'it returns false'. Refute it at one input. -/
def createSlicesWrong : ChangeSpec := { name := "createSlices", fn := fun _ => fun
  | [d1, d2] => { results := [.lit (.bool false)], args := [d1, d2] }
  | _ => none }
def CreateSlicesWrongFalsely : Prop := createSlicesRow.holds Try.pinned (OpenSpec.ofChange createSlicesWrong)

/-- 'torrentlaw5.NamesJoins': WHATEVER THE INPUT: true; the input reads as it did. -/
def namesJoinsSpec : ChangeSpec := { name := "namesJoins", fn := fun _ => fun
  | [d] => { results := [.lit (.bool true)], args := [d] }
  | _ => none }
def namesJoinsRow : OpenClaim := { program := "ytdnkbpfgbpnofaa", sum := "105bea2863d2d80382d3520767f7b80b1f262e163668b414d2c16e4080db521f", func := "torrent/torrentlaw5.NamesJoins", spec := "namesJoins", inPlace := ["internal/abi.NoEscape", "internal/bytealg.MakeNoZero"], apart := false }
def NamesJoinsSaid : Prop := namesJoinsRow.holds Try.pinned (OpenSpec.ofChange namesJoinsSpec)

/-- ITS FALSE NEIGHBOUR: 'it returns false'. Refute it at one input. -/
def namesJoinsWrong : ChangeSpec := { name := "namesJoins", fn := fun _ => fun
  | [d] => { results := [.lit (.bool false)], args := [d] }
  | _ => none }
def NamesJoinsWrongFalsely : Prop := namesJoinsRow.holds Try.pinned (OpenSpec.ofChange namesJoinsWrong)

/- THE SECOND FORM. 'bulk': how many values and letters a reading holds, each counted each time it is reached (what is shared counts as often as it is met; a slice's spare places count too). A statement '..UptoSaid' is the law's where the arguments, and the package variables that the reading takes, are together of bulk at most 1048576: NARROWER than '..Said'. Prove '..Said' where nothing that the law and all that it calls make is longer than what came in: it says more and counts as full. Else prove '..UptoSaid'. A law counts once. -/
mutual
def uptoBulk {H : Type} : DataW H → Nat
  | .lit (.string bytes) => bytes.length + 1
  | .lit _ => 1
  | .nil => 1
  | .ptr d => uptoBulk d + 1
  | .slice elems spare => uptoBulkAll elems + uptoBulkAll spare + 1
  | .agg parts => uptoBulkAll parts + 1
  | .iface _ d => uptoBulk d + 1
  | .map entries => uptoBulkEntries entries + 1
  | .held _ => 1
def uptoBulkAll {H : Type} : List (DataW H) → Nat
  | [] => 0
  | d :: r => uptoBulk d + uptoBulkAll r
def uptoBulkEntries {H : Type} : List (Lit × DataW H) → Nat
  | [] => 0
  | x :: r => uptoBulkEntry x + uptoBulkEntries r
def uptoBulkEntry {H : Type} : Lit × DataW H → Nat
  | (.string bytes, d) => bytes.length + uptoBulk d + 1
  | (_, d) => uptoBulk d + 1
 end
def uptoSmall : (H : Type) → List (DataW H) → Bool := fun _ ds => decide (uptoBulkAll ds ≤ 1048576)
def OpenSpec.upto (s : _root_.Go.ChangeSpec) : _root_.Go.OpenSpec := { _root_.Go.OpenSpec.ofChange s with cond := some uptoSmall }

/-- 'torrentnames.NamesErrors', WHERE WHAT IT READS IS OF BULK AT MOST 1048576: true; the input reads as it did. -/
def namesErrorsUptoRow : OpenClaim := { program := "ytdnkbpfgbpnofaa", sum := "105bea2863d2d80382d3520767f7b80b1f262e163668b414d2c16e4080db521f", func := "torrent/torrentnames.NamesErrors", spec := "namesErrors", apart := false, narrowed := true }
def NamesErrorsUptoSaid : Prop := namesErrorsUptoRow.holds Try.pinned (OpenSpec.upto namesErrorsSpec)

/-- 'torrentnames.NamesLimits', WHERE WHAT IT READS IS OF BULK AT MOST 1048576: true; the input reads as it did. -/
def namesLimitsUptoRow : OpenClaim := { program := "ytdnkbpfgbpnofaa", sum := "105bea2863d2d80382d3520767f7b80b1f262e163668b414d2c16e4080db521f", func := "torrent/torrentnames.NamesLimits", spec := "namesLimits", apart := false, narrowed := true }
def NamesLimitsUptoSaid : Prop := namesLimitsUptoRow.holds Try.pinned (OpenSpec.upto namesLimitsSpec)

/-- 'torrentnames.NamesKinds', WHERE WHAT IT READS IS OF BULK AT MOST 1048576: true; the input reads as it did. -/
def namesKindsUptoRow : OpenClaim := { program := "ytdnkbpfgbpnofaa", sum := "105bea2863d2d80382d3520767f7b80b1f262e163668b414d2c16e4080db521f", func := "torrent/torrentnames.NamesKinds", spec := "namesKinds", apart := false, narrowed := true }
def NamesKindsUptoSaid : Prop := namesKindsUptoRow.holds Try.pinned (OpenSpec.upto namesKindsSpec)

/-- 'torrentlaw4.BitsetChecks', WHERE WHAT IT READS IS OF BULK AT MOST 1048576: true; the input reads as it did. -/
def bitsetChecksUptoRow : OpenClaim := { program := "ytdnkbpfgbpnofaa", sum := "105bea2863d2d80382d3520767f7b80b1f262e163668b414d2c16e4080db521f", func := "torrent/torrentlaw4.BitsetChecks", spec := "bitsetChecks", apart := false, narrowed := true }
def BitsetChecksUptoSaid : Prop := bitsetChecksUptoRow.holds Try.pinned (OpenSpec.upto bitsetChecksSpec)

/-- 'torrentlaw5.NamesUtf8s', WHERE WHAT IT READS IS OF BULK AT MOST 1048576: true; the input reads as it did. -/
def namesUtf8sUptoRow : OpenClaim := { program := "ytdnkbpfgbpnofaa", sum := "105bea2863d2d80382d3520767f7b80b1f262e163668b414d2c16e4080db521f", func := "torrent/torrentlaw5.NamesUtf8s", spec := "namesUtf8s", apart := false, narrowed := true }
def NamesUtf8sUptoSaid : Prop := namesUtf8sUptoRow.holds Try.pinned (OpenSpec.upto namesUtf8sSpec)

/-- 'torrentlaw22.MagnetWants', WHERE WHAT IT READS IS OF BULK AT MOST 1048576: true; the input reads as it did. -/
def magnetWantsUptoRow : OpenClaim := { program := "ytdnkbpfgbpnofaa", sum := "105bea2863d2d80382d3520767f7b80b1f262e163668b414d2c16e4080db521f", func := "torrent/torrentlaw22.MagnetWants", spec := "magnetWants", unfollowed := true, recurses := true, loops := true, apart := false, narrowed := true }
def MagnetWantsUptoSaid : Prop := magnetWantsUptoRow.holds Try.pinned (OpenSpec.upto magnetWantsSpec)

/-- 'torrentlaw14.StoreNeeds', WHERE WHAT IT READS IS OF BULK AT MOST 1048576: true; the input reads as it did. -/
def storeNeedsUptoRow : OpenClaim := { program := "ytdnkbpfgbpnofaa", sum := "105bea2863d2d80382d3520767f7b80b1f262e163668b414d2c16e4080db521f", func := "torrent/torrentlaw14.StoreNeeds", spec := "storeNeeds", apart := false, narrowed := true }
def StoreNeedsUptoSaid : Prop := storeNeedsUptoRow.holds Try.pinned (OpenSpec.upto storeNeedsSpec)

/-- 'torrentlaw5.NamesComponents', WHERE WHAT IT READS IS OF BULK AT MOST 1048576: true; the input reads as it did. -/
def namesComponentsUptoRow : OpenClaim := { program := "ytdnkbpfgbpnofaa", sum := "105bea2863d2d80382d3520767f7b80b1f262e163668b414d2c16e4080db521f", func := "torrent/torrentlaw5.NamesComponents", spec := "namesComponents", apart := false, narrowed := true }
def NamesComponentsUptoSaid : Prop := namesComponentsUptoRow.holds Try.pinned (OpenSpec.upto namesComponentsSpec)

/-- 'torrentlaw5.NamesLesses', WHERE WHAT IT READS IS OF BULK AT MOST 1048576: true; the input reads as it did. -/
def namesLessesUptoRow : OpenClaim := { program := "ytdnkbpfgbpnofaa", sum := "105bea2863d2d80382d3520767f7b80b1f262e163668b414d2c16e4080db521f", func := "torrent/torrentlaw5.NamesLesses", spec := "namesLesses", apart := false, narrowed := true }
def NamesLessesUptoSaid : Prop := namesLessesUptoRow.holds Try.pinned (OpenSpec.upto namesLessesSpec)

/-- 'torrentlaw5.NamesClashes', WHERE WHAT IT READS IS OF BULK AT MOST 1048576: true; the input reads as it did. -/
def namesClashesUptoRow : OpenClaim := { program := "ytdnkbpfgbpnofaa", sum := "105bea2863d2d80382d3520767f7b80b1f262e163668b414d2c16e4080db521f", func := "torrent/torrentlaw5.NamesClashes", spec := "namesClashes", apart := false, narrowed := true }
def NamesClashesUptoSaid : Prop := namesClashesUptoRow.holds Try.pinned (OpenSpec.upto namesClashesSpec)

/-- 'torrentlaw5.NamesPaths', WHERE WHAT IT READS IS OF BULK AT MOST 1048576: true; the input reads as it did. -/
def namesPathsUptoRow : OpenClaim := { program := "ytdnkbpfgbpnofaa", sum := "105bea2863d2d80382d3520767f7b80b1f262e163668b414d2c16e4080db521f", func := "torrent/torrentlaw5.NamesPaths", spec := "namesPaths", apart := false, narrowed := true }
def NamesPathsUptoSaid : Prop := namesPathsUptoRow.holds Try.pinned (OpenSpec.upto namesPathsSpec)

/-- 'torrentlaw9.CreateMaps', WHERE WHAT IT READS IS OF BULK AT MOST 1048576: true; the input reads as it did. -/
def createMapsUptoRow : OpenClaim := { program := "ytdnkbpfgbpnofaa", sum := "105bea2863d2d80382d3520767f7b80b1f262e163668b414d2c16e4080db521f", func := "torrent/torrentlaw9.CreateMaps", spec := "createMaps", unfollowed := true, recurses := true, loops := true, apart := false, narrowed := true }
def CreateMapsUptoSaid : Prop := createMapsUptoRow.holds Try.pinned (OpenSpec.upto createMapsSpec)

/-- 'torrentlaw9.CreateGlues', WHERE WHAT IT READS IS OF BULK AT MOST 1048576: true; the input reads as it did. -/
def createGluesUptoRow : OpenClaim := { program := "ytdnkbpfgbpnofaa", sum := "105bea2863d2d80382d3520767f7b80b1f262e163668b414d2c16e4080db521f", func := "torrent/torrentlaw9.CreateGlues", spec := "createGlues", unfollowed := true, recurses := true, loops := true, apart := false, narrowed := true }
def CreateGluesUptoSaid : Prop := createGluesUptoRow.holds Try.pinned (OpenSpec.upto createGluesSpec)

/-- 'torrentlaw9.CreateBlocks', WHERE WHAT IT READS IS OF BULK AT MOST 1048576: true; the input reads as it did. -/
def createBlocksUptoRow : OpenClaim := { program := "ytdnkbpfgbpnofaa", sum := "105bea2863d2d80382d3520767f7b80b1f262e163668b414d2c16e4080db521f", func := "torrent/torrentlaw9.CreateBlocks", spec := "createBlocks", unfollowed := true, recurses := true, loops := true, apart := false, narrowed := true }
def CreateBlocksUptoSaid : Prop := createBlocksUptoRow.holds Try.pinned (OpenSpec.upto createBlocksSpec)

/-- 'torrentlaw9.CreateSlices', WHERE WHAT IT READS IS OF BULK AT MOST 1048576: true; the input reads as it did. -/
def createSlicesUptoRow : OpenClaim := { program := "ytdnkbpfgbpnofaa", sum := "105bea2863d2d80382d3520767f7b80b1f262e163668b414d2c16e4080db521f", func := "torrent/torrentlaw9.CreateSlices", spec := "createSlices", unfollowed := true, recurses := true, loops := true, apart := false, narrowed := true }
def CreateSlicesUptoSaid : Prop := createSlicesUptoRow.holds Try.pinned (OpenSpec.upto createSlicesSpec)

/-- 'torrentlaw5.NamesJoins', WHERE WHAT IT READS IS OF BULK AT MOST 1048576: true; the input reads as it did. -/
def namesJoinsUptoRow : OpenClaim := { program := "ytdnkbpfgbpnofaa", sum := "105bea2863d2d80382d3520767f7b80b1f262e163668b414d2c16e4080db521f", func := "torrent/torrentlaw5.NamesJoins", spec := "namesJoins", inPlace := ["internal/abi.NoEscape", "internal/bytealg.MakeNoZero"], apart := false, narrowed := true }
def NamesJoinsUptoSaid : Prop := namesJoinsUptoRow.holds Try.pinned (OpenSpec.upto namesJoinsSpec)

end Rows
end Go.Proofs.Ytdnkbpfgbpnofaa
