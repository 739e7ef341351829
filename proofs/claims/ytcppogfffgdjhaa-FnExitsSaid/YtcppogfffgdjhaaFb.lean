/- Evacuation's laws over drawn walks: the draw, as the laws call it. -/
import Derived.Test.YtcppogfffgdjhaaDb
import Derived.Test.YtcppogfffgdjhaaEa
import Derived.Test.YtcppogfffgdjhaaFa
namespace Go.Proofs.Ytcppogfffgdjhaa
open Go.RowKit
set_option maxRecDepth 100000
set_option linter.unusedVariables false

theorem r8Walks_any {B n c : Nat} {A : Option Addr} {zs : List Int} {w : World} (hr : Bytz w B A n zs) (hB : B ≤ w.heap.size) (hn : n ≤ 1048576) :
    Calls Try.prog 6 #[.slice A n c] w (WalksPost w.heap.size w) := by
  have Hr := Lib.hid hr
  clear hr
  go_enter Try.func6, Try.ntmps6
  go_wp2_with fail
  refine from_any.mono ?_
  rintro e w1 ⟨rfl, s1, b1⟩
  have Hs1 := Lib.hid s1
  have hs1 := b1.size
  clear s1
  go_wp2_with fail
  refine (l23Draw_any Hs1.out (Bytz.below Hr.out b1 hB) hB (by omega)).mono ?_
  rintro e w2 ⟨p, A2, n2, c2, l, rfl, h1, h2, h3, h4, h5, h6⟩
  have H4 := Lib.hid h4
  clear h4
  go_wp2_with fail
  go_ret2
  exact ⟨p, A2, n2, c2, l, rfl, h1, h2, h3, H4.out, h5.mono hs1, b1.trans h6⟩
end Go.Proofs.Ytcppogfffgdjhaa
