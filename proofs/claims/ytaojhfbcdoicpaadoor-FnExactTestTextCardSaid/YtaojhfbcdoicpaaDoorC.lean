/- Contracts of the functions that copy a slice of int64. -/
import Derived.Test.YtaojhfbcdoicpaaDoorS
import Derived.Test.YtaojhfbcdoicpaaDoorA
import Derived.Lib.SliceRun
namespace Go.Proofs.YtaojhfbcdoicpaaDoor
open Go.RowKit
set_option maxRecDepth 100000
set_option linter.unusedVariables false

end Go.Proofs.YtaojhfbcdoicpaaDoor
