/- The walk of the law 'FnExactSkillText': whatever the input, it returns true, and nothing that was there has turned. -/
import Derived.Test.YteobefanhicjkaaSb
import Derived.Test.YteobefanhicjkaaO
namespace Go.Proofs.Yteobefanhicjkaa
open Go.RowKit
set_option maxRecDepth 100000
set_option linter.unusedVariables false

set_option maxHeartbeats 2000000 in
theorem FnExactSkillText_walk (a0 : Int) (w : World) (w0 : (Lit.int .i64 a0).wf = true) :
    Calls Try.prog 4 #[.int .i64 a0] w fun e w' => e = .returned (.bool true) ∧ Below w.heap.size w w' := by
  clear w0
  have tot : Below w.heap.size w w := Below.refl _ _
  go_enter Try.func4, Try.ntmps4
  go_wp2_with fail
  refine (specSkillText_any ).mono ?_
  rintro e u1 ⟨rfl, b⟩
  replace tot := tot.trans (b.mono tot.size)
  clear b
  go_wp2_with fail
  refine (implSkillText_any ).mono ?_
  rintro e u2 ⟨rfl, b⟩
  replace tot := tot.trans (b.mono tot.size)
  clear b
  go_wp2_with fail
  go_ret
  exact ⟨rfl, tot⟩
end Go.Proofs.Yteobefanhicjkaa
