/- Layer 5 (names): twin, the copy of a list of strings. -/
import Derived.Test.YtgbeppbdebibiaaDoorNe
set_option linter.unusedVariables false
set_option linter.unusedSimpArgs false
namespace Go.Proofs.YtgbeppbdebibiaaDoor
open Go.RowKit Go.Proofs.YtgbeppbdebibiaaDoorW.PrintWords
namespace Nm
open Wd
end Nm
end Go.Proofs.YtgbeppbdebibiaaDoor
