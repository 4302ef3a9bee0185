/- Rows that list unicode/utf8's two tables: a world in which they lie as laid (for the witness), and that the library's MaxLen is a number in every world that fits. -/
import Derived.Test.YtpkeabggkeecaaaDoorRows
import Derived.Test.YtpkeabggkeecaaaDoorNs
import Derived.WalkKit
import Derived.ProofKit
import Derived.Shelf.Vars
set_option linter.unusedVariables false
namespace Go.Proofs.YtpkeabggkeecaaaDoor
open Go.ChangeShapes Go.WideShapes Go.ChangeAt Go.RowKit
namespace Tab
theorem own : ownKnob Tryd.prog.godebug = none := by kernel_rfl
theorem laidOut : laidOutB Tryd.prog = true := by kernel_rfl
def accept : List Nat := [128, 191, 160, 191, 128, 159, 144, 191, 128, 143] ++ List.replicate 22 0
def lay (row : Array Value) : Obj → Obj
  | .cells _ t frozen => .cells row t frozen
  | o => o
noncomputable def laidWorld (os : Os) : World :=
  { World.holding Tryd.prog os ⟨#[], #[], []⟩ with heap := ((World.holding Tryd.prog os ⟨#[], #[], []⟩).heap.modify 2 (lay (accept.map fun n : Nat => Value.int .u8 (n : Int)).toArray)).modify 1 (lay (Go.Pinned.utf8FirstZ.map fun n : Nat => Value.int .u8 (n : Int)).toArray) }
theorem maxOk {w : World} (h : w.ShapedOpen Tryd.prog) : Nm.MaxOk w :=
  cell_of_shapedOpen_int (g := 0) (t := 3) (zero := #[.int .i64 0]) h (by decide +kernel) (by kernel_rfl) rfl (by kernel_rfl) (by kernel_rfl) Tryd.underlying3
end Tab
end Go.Proofs.YtpkeabggkeecaaaDoor
