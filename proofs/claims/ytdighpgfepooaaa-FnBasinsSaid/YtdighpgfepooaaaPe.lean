/- Ballast: BalanceGroups: the reference's search, all of it. -/
import Derived.Test.YtdighpgfepooaaaPd
import Derived.StillTailTactics
namespace Go.Proofs.Ytdighpgfepooaaa
open Go.RowKit
set_option maxRecDepth 100000
set_option linter.unusedVariables false
set_option linter.unusedSimpArgs false

theorem touch3_keep {w w' : World} {b b2 : Nat} {A : Option Addr} (B : Nat) (h : Touch3 w w' b b2 A) (hB : B ≤ w.heap.size) (hb : B ≤ b) (hb2 : B ≤ b2) (hA : ∀ a, A = some a → B ≤ a.block) : Below B w w' := h.below hB hb hb2 hA

end Go.Proofs.Ytdighpgfepooaaa
