/- Contracts of the functions that copy a slice of int64. -/
import Derived.Test.YtffjggdbgogkbaaDoorS
import Derived.Test.YtffjggdbgogkbaaDoorA
import Derived.Lib.SliceRun
namespace Go.Proofs.YtffjggdbgogkbaaDoor
open Go.RowKit
set_option maxRecDepth 100000
set_option linter.unusedVariables false

end Go.Proofs.YtffjggdbgogkbaaDoor
