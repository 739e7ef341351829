/- Contracts of the functions that copy a slice of int64. -/
import Derived.Test.YtngbdjbgbjbjaaaGreatDoorS
import Derived.Test.YtngbdjbgbjbjaaaGreatDoorA
import Derived.Lib.SliceRun
namespace Go.Proofs.YtngbdjbgbjbjaaaGreatDoor
open Go.RowKit
set_option maxRecDepth 100000
set_option linter.unusedVariables false

end Go.Proofs.YtngbdjbgbjbjaaaGreatDoor
