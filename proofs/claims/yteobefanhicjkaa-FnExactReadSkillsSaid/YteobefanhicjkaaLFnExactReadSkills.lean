/- The walk of the law 'FnExactReadSkills': whatever the input, it returns true, and nothing that was there has turned. -/
import Derived.Test.YteobefanhicjkaaSc
import Derived.Test.YteobefanhicjkaaM
import Derived.Test.YteobefanhicjkaaO
namespace Go.Proofs.Yteobefanhicjkaa
open Go.RowKit
set_option maxRecDepth 100000
set_option linter.unusedVariables false

set_option maxHeartbeats 2000000 in
theorem FnExactReadSkills_walk (a0 : ByteArray) (w : World) (w0 : a0.size ≤ maxLen) :
    Calls Try.prog 5 #[.string a0] w fun e w' => e = .returned (.bool true) ∧ Below w.heap.size w w' := by
  unfold maxLen at w0
  by_cases b0 : 1048576 < a0.size
  · go_enter Try.func5, Try.ntmps5
    go_wp2_with fail
    go_ret
    exact ⟨rfl, by first | exact Below.refl _ _ | exact (Below.refl _ _).alloc (Nat.le_refl _) _⟩
  have tot : Below w.heap.size w w := Below.refl _ _
  go_enter Try.func5, Try.ntmps5
  go_wp2_with fail
  refine (specReadSkills_any (by omega)).mono ?_
  rintro e u1 ⟨rfl, b⟩
  replace tot := tot.trans (b.mono tot.size)
  clear b
  go_wp2_with fail
  refine (implReadSkills_any (by omega)).mono ?_
  rintro e u2 ⟨rfl, b⟩
  replace tot := tot.trans (b.mono tot.size)
  clear b
  go_wp2_with fail
  go_ret
  exact ⟨rfl, tot⟩
end Go.Proofs.Yteobefanhicjkaa
