/- Contracts of the functions that copy a slice of int64. -/
import Derived.Test.YtickepianllblaaDoorS
import Derived.Test.YtickepianllblaaDoorA
import Derived.Lib.SliceRun
namespace Go.Proofs.YtickepianllblaaDoor
open Go.RowKit
set_option maxRecDepth 100000
set_option linter.unusedVariables false

end Go.Proofs.YtickepianllblaaDoor
