/- Contracts of the functions that copy a slice of int64. -/
import Derived.Test.YtickepianllblaaGreatDoorS
import Derived.Test.YtickepianllblaaGreatDoorA
import Derived.Lib.SliceRun
namespace Go.Proofs.YtickepianllblaaGreatDoor
open Go.RowKit
set_option maxRecDepth 100000
set_option linter.unusedVariables false

end Go.Proofs.YtickepianllblaaGreatDoor
