/-
  NARROWER THAN 'FOR EVERY INPUT', by the rows' own cells (each row's printed sentence says how): MagnetWants: loops · CreateMaps: loops · CreateGlues: loops · CreateBlocks: loops · CreateSlices: loops.
  DERIVED. THE GIVEN ROWS OF THIS SEAT. 6 by the template 'for every input the law returns true; each argument reads behind the call as it read before'; 0 by the template 'total and deterministic' (their statements: YtjeeakhgjcbhaaaTotals.lean).
  GIVEN WITH THE SEED: the statements are not yours to turn. If you find one false, say at which input.
  Laid BY PROGRAM, IN A SANDBOX (cutbox-rows.mjs): the forced cells as the released guide's own fill.sh prints them over the translation 1782ae4c3999debe… (all of the seat's roots in one cut). By AI agents, Wed Nov 11 2026. No macro, syntax, notation, axiom, sorry.
-/
import Derived.Test.YtjeeakhgjcbhaaaChecked
import GoSem.Claim
import GoSem.ClaimJoined
import GoSem.ClaimMapViews
import Derived.JoinedTies
import Derived.KernelRfl
namespace Go.Proofs.Ytjeeakhgjcbhaaa
/- THE CELL 'sum', in the pinned program and in every row, IS THE sha256 OF THE DUMP (.gsa) THAT YtjeeakhgjcbhaaaProg.lean LOADS. Nothing in Lean hashes anything: it is a label: what it is worth is what the hold of that sum in a sandbox is worth. -/
noncomputable def Try.pinned : Pinned := { name := "ytjeeakhgjcbhaaa", sum := "1782ae4c3999debe03ad27e06b5ecba161001b3ec38385da1060769e1f77af1e", checked := Try.checked }
namespace Rows
def none {H : Type} : Left H := { results := [], args := [] }

/-- 'torrentlaw22.MagnetWants': WHATEVER THE INPUT: true; the input reads as it did. -/
def magnetWantsSpec : ChangeSpec := { name := "magnetWants", fn := fun _ => fun
  | [d1, d2] => { results := [.lit (.bool true)], args := [d1, d2] }
  | _ => none }
def magnetWantsRow : OpenClaim := { program := "ytjeeakhgjcbhaaa", sum := "1782ae4c3999debe03ad27e06b5ecba161001b3ec38385da1060769e1f77af1e", func := "torrent/torrentlaw22.MagnetWants", spec := "magnetWants", unfollowed := true, recurses := true, loops := true, apart := false }
def MagnetWantsSaid : Prop := magnetWantsRow.holds Try.pinned (OpenSpec.ofChange magnetWantsSpec)

/-- ITS FALSE NEIGHBOUR: 'it returns false'. Refute it at one input. -/
def magnetWantsWrong : ChangeSpec := { name := "magnetWants", fn := fun _ => fun
  | [d1, d2] => { results := [.lit (.bool false)], args := [d1, d2] }
  | _ => none }
def MagnetWantsWrongFalsely : Prop := magnetWantsRow.holds Try.pinned (OpenSpec.ofChange magnetWantsWrong)

/-- 'torrentlaw14.StoreNeeds': WHATEVER THE INPUT: true; the input reads as it did. -/
def storeNeedsSpec : ChangeSpec := { name := "storeNeeds", fn := fun _ => fun
  | [d1, d2] => { results := [.lit (.bool true)], args := [d1, d2] }
  | _ => none }
def storeNeedsRow : OpenClaim := { program := "ytjeeakhgjcbhaaa", sum := "1782ae4c3999debe03ad27e06b5ecba161001b3ec38385da1060769e1f77af1e", func := "torrent/torrentlaw14.StoreNeeds", spec := "storeNeeds", apart := false }
def StoreNeedsSaid : Prop := storeNeedsRow.holds Try.pinned (OpenSpec.ofChange storeNeedsSpec)

/-- ITS FALSE NEIGHBOUR: 'it returns false'. Refute it at one input. -/
def storeNeedsWrong : ChangeSpec := { name := "storeNeeds", fn := fun _ => fun
  | [d1, d2] => { results := [.lit (.bool false)], args := [d1, d2] }
  | _ => none }
def StoreNeedsWrongFalsely : Prop := storeNeedsRow.holds Try.pinned (OpenSpec.ofChange storeNeedsWrong)

/-- 'torrentlaw9.CreateMaps': WHATEVER THE INPUT: true; the input reads as it did. -/
def createMapsSpec : ChangeSpec := { name := "createMaps", fn := fun _ => fun
  | [d1, d2, d3, d4] => { results := [.lit (.bool true)], args := [d1, d2, d3, d4] }
  | _ => none }
def createMapsRow : OpenClaim := { program := "ytjeeakhgjcbhaaa", sum := "1782ae4c3999debe03ad27e06b5ecba161001b3ec38385da1060769e1f77af1e", func := "torrent/torrentlaw9.CreateMaps", spec := "createMaps", unfollowed := true, recurses := true, loops := true, apart := false }
def CreateMapsSaid : Prop := createMapsRow.holds Try.pinned (OpenSpec.ofChange createMapsSpec)

/-- ITS FALSE NEIGHBOUR: 'it returns false'. Refute it at one input. -/
def createMapsWrong : ChangeSpec := { name := "createMaps", fn := fun _ => fun
  | [d1, d2, d3, d4] => { results := [.lit (.bool false)], args := [d1, d2, d3, d4] }
  | _ => none }
def CreateMapsWrongFalsely : Prop := createMapsRow.holds Try.pinned (OpenSpec.ofChange createMapsWrong)

/-- 'torrentlaw9.CreateGlues': WHATEVER THE INPUT: true; the input reads as it did. -/
def createGluesSpec : ChangeSpec := { name := "createGlues", fn := fun _ => fun
  | [d1, d2] => { results := [.lit (.bool true)], args := [d1, d2] }
  | _ => none }
def createGluesRow : OpenClaim := { program := "ytjeeakhgjcbhaaa", sum := "1782ae4c3999debe03ad27e06b5ecba161001b3ec38385da1060769e1f77af1e", func := "torrent/torrentlaw9.CreateGlues", spec := "createGlues", unfollowed := true, recurses := true, loops := true, apart := false }
def CreateGluesSaid : Prop := createGluesRow.holds Try.pinned (OpenSpec.ofChange createGluesSpec)

/-- ITS FALSE NEIGHBOUR: 'it returns false'. Refute it at one input. -/
def createGluesWrong : ChangeSpec := { name := "createGlues", fn := fun _ => fun
  | [d1, d2] => { results := [.lit (.bool false)], args := [d1, d2] }
  | _ => none }
def CreateGluesWrongFalsely : Prop := createGluesRow.holds Try.pinned (OpenSpec.ofChange createGluesWrong)

/-- 'torrentlaw9.CreateBlocks': WHATEVER THE INPUT: true; the input reads as it did. -/
def createBlocksSpec : ChangeSpec := { name := "createBlocks", fn := fun _ => fun
  | [d1, d2, d3, d4] => { results := [.lit (.bool true)], args := [d1, d2, d3, d4] }
  | _ => none }
def createBlocksRow : OpenClaim := { program := "ytjeeakhgjcbhaaa", sum := "1782ae4c3999debe03ad27e06b5ecba161001b3ec38385da1060769e1f77af1e", func := "torrent/torrentlaw9.CreateBlocks", spec := "createBlocks", unfollowed := true, recurses := true, loops := true, apart := false }
def CreateBlocksSaid : Prop := createBlocksRow.holds Try.pinned (OpenSpec.ofChange createBlocksSpec)

/-- ITS FALSE NEIGHBOUR: 'it returns false'. Refute it at one input. -/
def createBlocksWrong : ChangeSpec := { name := "createBlocks", fn := fun _ => fun
  | [d1, d2, d3, d4] => { results := [.lit (.bool false)], args := [d1, d2, d3, d4] }
  | _ => none }
def CreateBlocksWrongFalsely : Prop := createBlocksRow.holds Try.pinned (OpenSpec.ofChange createBlocksWrong)

/-- 'torrentlaw9.CreateSlices': WHATEVER THE INPUT: true; the input reads as it did. -/
def createSlicesSpec : ChangeSpec := { name := "createSlices", fn := fun _ => fun
  | [d1, d2] => { results := [.lit (.bool true)], args := [d1, d2] }
  | _ => none }
def createSlicesRow : OpenClaim := { program := "ytjeeakhgjcbhaaa", sum := "1782ae4c3999debe03ad27e06b5ecba161001b3ec38385da1060769e1f77af1e", func := "torrent/torrentlaw9.CreateSlices", spec := "createSlices", unfollowed := true, recurses := true, loops := true, apart := false }
def CreateSlicesSaid : Prop := createSlicesRow.holds Try.pinned (OpenSpec.ofChange createSlicesSpec)

/-- ITS FALSE NEIGHBOUR: 'it returns false'. Refute it at one input. -/
def createSlicesWrong : ChangeSpec := { name := "createSlices", fn := fun _ => fun
  | [d1, d2] => { results := [.lit (.bool false)], args := [d1, d2] }
  | _ => none }
def CreateSlicesWrongFalsely : Prop := createSlicesRow.holds Try.pinned (OpenSpec.ofChange createSlicesWrong)

/- THE SECOND FORM. 'bulk': how many values and letters a reading holds, each counted each time it is reached (what is shared counts as often as it is met; a slice's spare places count too). A statement '..UptoSaid' is the law's where the arguments, and the package variables that the reading takes, are together of bulk at most 1048576: NARROWER than '..Said'. Prove '..Said' where nothing that the law and all that it calls make is longer than what came in: it says more and counts as full. Else prove '..UptoSaid'. A law counts once. -/
mutual
def uptoBulk {H : Type} : DataW H → Nat
  | .lit (.string bytes) => bytes.length + 1
  | .lit _ => 1
  | .nil => 1
  | .ptr d => uptoBulk d + 1
  | .slice elems spare => uptoBulkAll elems + uptoBulkAll spare + 1
  | .agg parts => uptoBulkAll parts + 1
  | .iface _ d => uptoBulk d + 1
  | .map entries => uptoBulkEntries entries + 1
  | .held _ => 1
def uptoBulkAll {H : Type} : List (DataW H) → Nat
  | [] => 0
  | d :: r => uptoBulk d + uptoBulkAll r
def uptoBulkEntries {H : Type} : List (Lit × DataW H) → Nat
  | [] => 0
  | x :: r => uptoBulkEntry x + uptoBulkEntries r
def uptoBulkEntry {H : Type} : Lit × DataW H → Nat
  | (.string bytes, d) => bytes.length + uptoBulk d + 1
  | (_, d) => uptoBulk d + 1
 end
def uptoSmall : (H : Type) → List (DataW H) → Bool := fun _ ds => decide (uptoBulkAll ds ≤ 1048576)
def OpenSpec.upto (s : _root_.Go.ChangeSpec) : _root_.Go.OpenSpec := { _root_.Go.OpenSpec.ofChange s with cond := some uptoSmall }

/-- 'torrentlaw22.MagnetWants', WHERE WHAT IT READS IS OF BULK AT MOST 1048576: true; the input reads as it did. -/
def magnetWantsUptoRow : OpenClaim := { program := "ytjeeakhgjcbhaaa", sum := "1782ae4c3999debe03ad27e06b5ecba161001b3ec38385da1060769e1f77af1e", func := "torrent/torrentlaw22.MagnetWants", spec := "magnetWants", unfollowed := true, recurses := true, loops := true, apart := false, narrowed := true }
def MagnetWantsUptoSaid : Prop := magnetWantsUptoRow.holds Try.pinned (OpenSpec.upto magnetWantsSpec)

/-- 'torrentlaw14.StoreNeeds', WHERE WHAT IT READS IS OF BULK AT MOST 1048576: true; the input reads as it did. -/
def storeNeedsUptoRow : OpenClaim := { program := "ytjeeakhgjcbhaaa", sum := "1782ae4c3999debe03ad27e06b5ecba161001b3ec38385da1060769e1f77af1e", func := "torrent/torrentlaw14.StoreNeeds", spec := "storeNeeds", apart := false, narrowed := true }
def StoreNeedsUptoSaid : Prop := storeNeedsUptoRow.holds Try.pinned (OpenSpec.upto storeNeedsSpec)

/-- 'torrentlaw9.CreateMaps', WHERE WHAT IT READS IS OF BULK AT MOST 1048576: true; the input reads as it did. -/
def createMapsUptoRow : OpenClaim := { program := "ytjeeakhgjcbhaaa", sum := "1782ae4c3999debe03ad27e06b5ecba161001b3ec38385da1060769e1f77af1e", func := "torrent/torrentlaw9.CreateMaps", spec := "createMaps", unfollowed := true, recurses := true, loops := true, apart := false, narrowed := true }
def CreateMapsUptoSaid : Prop := createMapsUptoRow.holds Try.pinned (OpenSpec.upto createMapsSpec)

/-- 'torrentlaw9.CreateGlues', WHERE WHAT IT READS IS OF BULK AT MOST 1048576: true; the input reads as it did. -/
def createGluesUptoRow : OpenClaim := { program := "ytjeeakhgjcbhaaa", sum := "1782ae4c3999debe03ad27e06b5ecba161001b3ec38385da1060769e1f77af1e", func := "torrent/torrentlaw9.CreateGlues", spec := "createGlues", unfollowed := true, recurses := true, loops := true, apart := false, narrowed := true }
def CreateGluesUptoSaid : Prop := createGluesUptoRow.holds Try.pinned (OpenSpec.upto createGluesSpec)

/-- 'torrentlaw9.CreateBlocks', WHERE WHAT IT READS IS OF BULK AT MOST 1048576: true; the input reads as it did. -/
def createBlocksUptoRow : OpenClaim := { program := "ytjeeakhgjcbhaaa", sum := "1782ae4c3999debe03ad27e06b5ecba161001b3ec38385da1060769e1f77af1e", func := "torrent/torrentlaw9.CreateBlocks", spec := "createBlocks", unfollowed := true, recurses := true, loops := true, apart := false, narrowed := true }
def CreateBlocksUptoSaid : Prop := createBlocksUptoRow.holds Try.pinned (OpenSpec.upto createBlocksSpec)

/-- 'torrentlaw9.CreateSlices', WHERE WHAT IT READS IS OF BULK AT MOST 1048576: true; the input reads as it did. -/
def createSlicesUptoRow : OpenClaim := { program := "ytjeeakhgjcbhaaa", sum := "1782ae4c3999debe03ad27e06b5ecba161001b3ec38385da1060769e1f77af1e", func := "torrent/torrentlaw9.CreateSlices", spec := "createSlices", unfollowed := true, recurses := true, loops := true, apart := false, narrowed := true }
def CreateSlicesUptoSaid : Prop := createSlicesUptoRow.holds Try.pinned (OpenSpec.upto createSlicesSpec)

end Rows
end Go.Proofs.Ytjeeakhgjcbhaaa
