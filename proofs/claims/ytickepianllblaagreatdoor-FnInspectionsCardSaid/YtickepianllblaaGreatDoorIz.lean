/- Code: the parts of a statement. -/
import Derived.Test.YtickepianllblaaGreatDoorX
namespace Go.Proofs.YtickepianllblaaGreatDoor
open Go.RowKit
set_option maxRecDepth 100000
set_option linter.unusedVariables false
set_option linter.unusedSimpArgs false

def cA : Code → Code
  | .seq a _ => a
  | c => c
def cB : Code → Code
  | .seq _ b => b
  | c => c
def cK : Code → Code
  | .block _ b => b
  | c => c
def cL : Code → Code
  | .loop b => b
  | c => c
end Go.Proofs.YtickepianllblaaGreatDoor
