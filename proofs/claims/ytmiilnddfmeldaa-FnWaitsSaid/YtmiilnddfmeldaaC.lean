/- Contracts of the functions that copy a slice of int64. -/
import Derived.Test.YtmiilnddfmeldaaS
import Derived.Test.YtmiilnddfmeldaaA
import Derived.Lib.SliceRun
namespace Go.Proofs.Ytmiilnddfmeldaa
open Go.RowKit
set_option maxRecDepth 100000
set_option linter.unusedVariables false

end Go.Proofs.Ytmiilnddfmeldaa
