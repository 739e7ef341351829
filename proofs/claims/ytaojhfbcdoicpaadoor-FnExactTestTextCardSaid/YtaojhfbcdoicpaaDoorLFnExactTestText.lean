/- The walk of the law 'FnExactTestText': whatever the input, it returns true, and nothing that was there has turned. -/
import Derived.Test.YtaojhfbcdoicpaaDoorTm
import Derived.Test.YtaojhfbcdoicpaaDoorO
import Derived.Test.YtaojhfbcdoicpaaDoorQTest
namespace Go.Proofs.YtaojhfbcdoicpaaDoor
open Go.RowKit
set_option maxRecDepth 100000
set_option linter.unusedVariables false

set_option maxHeartbeats 2000000 in
theorem FnExactTestText_walk (z0 : TestR) (w : World) (hz0 : z0.wf) (tab : TabOk w) :
    Calls Tryd.prog 4 #[z0.val] w fun e w' => e = .returned (.bool true) ∧ Below w.heap.size w w' := by
  have Tab := Lib.hid tab
  clear tab
  obtain ⟨f0_Day, f0_Broken, f0_Worn⟩ := z0
  simp only [TestR.val]
  go_enter Tryd.func4, Tryd.ntmps4
  go_wp2_with fail
  have pre : Below w.heap.size w (w.alloc (.cells #[.int .i64 f0_Day, .int .i64 f0_Broken, .int .i64 f0_Worn] 30)) := ((Below.refl _ _).alloc (by simp) _)
  have bx0_0 : (w.alloc (.cells #[.int .i64 f0_Day, .int .i64 f0_Broken, .int .i64 f0_Worn] 30)).cell? ⟨w.heap.size, 0, none⟩ = some (.int .i64 f0_Day) := by simp
  have bx0_1 : (w.alloc (.cells #[.int .i64 f0_Day, .int .i64 f0_Broken, .int .i64 f0_Worn] 30)).cell? ⟨w.heap.size, 1, none⟩ = some (.int .i64 f0_Broken) := by simp
  have bx0_2 : (w.alloc (.cells #[.int .i64 f0_Day, .int .i64 f0_Broken, .int .i64 f0_Worn] 30)).cell? ⟨w.heap.size, 2, none⟩ = some (.int .i64 f0_Worn) := by simp
  have hsz : w.heap.size + 1 ≤ (w.alloc (.cells #[.int .i64 f0_Day, .int .i64 f0_Broken, .int .i64 f0_Worn] 30)).heap.size := by simp
  generalize (w.alloc (.cells #[.int .i64 f0_Day, .int .i64 f0_Broken, .int .i64 f0_Worn] 30)) = W1 at *
  have tot : Below W1.heap.size W1 W1 := Below.refl _ _
  refine (toTest_any).mono ?_
  rintro e u1 ⟨rfl, b⟩
  replace tot := tot.trans (b.mono tot.size)
  clear b
  try clear e0_0 e0_1 e0_2
  have e0_0 := (tot.cell (p := ⟨w.heap.size, 0, none⟩) (by simp only []; omega)).trans bx0_0
  have e0_1 := (tot.cell (p := ⟨w.heap.size, 1, none⟩) (by simp only []; omega)).trans bx0_1
  have e0_2 := (tot.cell (p := ⟨w.heap.size, 2, none⟩) (by simp only []; omega)).trans bx0_2
  go_wp2_with fail
  refine (specTestText_any ).mono ?_
  rintro e u2 ⟨rfl, b⟩
  replace tot := tot.trans (b.mono tot.size)
  clear b
  try clear e0_0 e0_1 e0_2
  have e0_0 := (tot.cell (p := ⟨w.heap.size, 0, none⟩) (by simp only []; omega)).trans bx0_0
  have e0_1 := (tot.cell (p := ⟨w.heap.size, 1, none⟩) (by simp only []; omega)).trans bx0_1
  have e0_2 := (tot.cell (p := ⟨w.heap.size, 2, none⟩) (by simp only []; omega)).trans bx0_2
  go_wp2_with fail
  refine (toTest_any).mono ?_
  rintro e u3 ⟨rfl, b⟩
  replace tot := tot.trans (b.mono tot.size)
  clear b
  try clear e0_0 e0_1 e0_2
  have e0_0 := (tot.cell (p := ⟨w.heap.size, 0, none⟩) (by simp only []; omega)).trans bx0_0
  have e0_1 := (tot.cell (p := ⟨w.heap.size, 1, none⟩) (by simp only []; omega)).trans bx0_1
  have e0_2 := (tot.cell (p := ⟨w.heap.size, 2, none⟩) (by simp only []; omega)).trans bx0_2
  go_wp2_with fail
  refine (implTestText_any  (by first | exact Tab.out.below tot | exact Tab.out.below (pre.trans (tot.mono (by omega))))).mono ?_
  rintro e u4 ⟨rfl, b⟩
  replace tot := tot.trans (b.mono tot.size)
  clear b
  try clear e0_0 e0_1 e0_2
  have e0_0 := (tot.cell (p := ⟨w.heap.size, 0, none⟩) (by simp only []; omega)).trans bx0_0
  have e0_1 := (tot.cell (p := ⟨w.heap.size, 1, none⟩) (by simp only []; omega)).trans bx0_1
  have e0_2 := (tot.cell (p := ⟨w.heap.size, 2, none⟩) (by simp only []; omega)).trans bx0_2
  go_wp2_with fail
  go_ret
  exact ⟨rfl, pre.trans (tot.mono (by omega))⟩
end Go.Proofs.YtaojhfbcdoicpaaDoor

