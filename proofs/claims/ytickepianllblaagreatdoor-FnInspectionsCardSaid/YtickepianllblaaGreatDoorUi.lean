/- Reading of lists: the reference's. -/
import Derived.Test.YtickepianllblaaGreatDoorUk
namespace Go.Proofs.YtickepianllblaaGreatDoor
open Go.RowKit
set_option maxRecDepth 100000
set_option linter.unusedVariables false
set_option linter.unusedSimpArgs false

end Go.Proofs.YtickepianllblaaGreatDoor
