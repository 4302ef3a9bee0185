/- Layer 5 (names): twin, the copy of a list of strings. -/
import Derived.Test.YtpkeabggkeecaaaDoorNe
set_option linter.unusedVariables false
set_option linter.unusedSimpArgs false
namespace Go.Proofs.YtpkeabggkeecaaaDoor
open Go.RowKit Go.Proofs.YtpkeabggkeecaaaDoorW.PrintWords
namespace Nm
open Wd
end Nm
end Go.Proofs.YtpkeabggkeecaaaDoor
