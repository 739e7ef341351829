/- Contracts of the functions that copy a slice of int64. -/
import Derived.Test.YtppbfdlgpehanaaS
import Derived.Test.YtppbfdlgpehanaaA
import Derived.Lib.SliceRun
namespace Go.Proofs.Ytppbfdlgpehanaa
open Go.RowKit
set_option maxRecDepth 100000
set_option linter.unusedVariables false

end Go.Proofs.Ytppbfdlgpehanaa
