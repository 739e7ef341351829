/- The walk of the law 'FnExactCheckText': whatever the input, it returns true, and nothing that was there has turned. -/
import Derived.Test.YtaojhfbcdoicpaaDoorTh
import Derived.Test.YtaojhfbcdoicpaaDoorO
import Derived.Test.YtaojhfbcdoicpaaDoorQCheck
namespace Go.Proofs.YtaojhfbcdoicpaaDoor
open Go.RowKit
set_option maxRecDepth 100000
set_option linter.unusedVariables false

set_option maxHeartbeats 2000000 in
theorem FnExactCheckText_walk (z0 : CheckR) (w : World) (hz0 : z0.wf) (tab : TabOk w) :
    Calls Tryd.prog 3 #[z0.val] w fun e w' => e = .returned (.bool true) ∧ Below w.heap.size w w' := by
  have Tab := Lib.hid tab
  clear tab
  obtain ⟨f0_Id, f0_EveryDays, f0_EveryRides, f0_LastDay, f0_LastRide⟩ := z0
  simp only [CheckR.val]
  obtain ⟨w0_Id, _⟩ := hz0
  go_enter Tryd.func3, Tryd.ntmps3
  go_wp2_with fail
  have pre : Below w.heap.size w (w.alloc (.cells #[.string f0_Id, .int .i64 f0_EveryDays, .int .i64 f0_EveryRides, .int .i64 f0_LastDay, .int .i64 f0_LastRide] 23)) := ((Below.refl _ _).alloc (by simp) _)
  have bx0_0 : (w.alloc (.cells #[.string f0_Id, .int .i64 f0_EveryDays, .int .i64 f0_EveryRides, .int .i64 f0_LastDay, .int .i64 f0_LastRide] 23)).cell? ⟨w.heap.size, 0, none⟩ = some (.string f0_Id) := by simp
  have bx0_1 : (w.alloc (.cells #[.string f0_Id, .int .i64 f0_EveryDays, .int .i64 f0_EveryRides, .int .i64 f0_LastDay, .int .i64 f0_LastRide] 23)).cell? ⟨w.heap.size, 1, none⟩ = some (.int .i64 f0_EveryDays) := by simp
  have bx0_2 : (w.alloc (.cells #[.string f0_Id, .int .i64 f0_EveryDays, .int .i64 f0_EveryRides, .int .i64 f0_LastDay, .int .i64 f0_LastRide] 23)).cell? ⟨w.heap.size, 2, none⟩ = some (.int .i64 f0_EveryRides) := by simp
  have bx0_3 : (w.alloc (.cells #[.string f0_Id, .int .i64 f0_EveryDays, .int .i64 f0_EveryRides, .int .i64 f0_LastDay, .int .i64 f0_LastRide] 23)).cell? ⟨w.heap.size, 3, none⟩ = some (.int .i64 f0_LastDay) := by simp
  have bx0_4 : (w.alloc (.cells #[.string f0_Id, .int .i64 f0_EveryDays, .int .i64 f0_EveryRides, .int .i64 f0_LastDay, .int .i64 f0_LastRide] 23)).cell? ⟨w.heap.size, 4, none⟩ = some (.int .i64 f0_LastRide) := by simp
  have hsz : w.heap.size + 1 ≤ (w.alloc (.cells #[.string f0_Id, .int .i64 f0_EveryDays, .int .i64 f0_EveryRides, .int .i64 f0_LastDay, .int .i64 f0_LastRide] 23)).heap.size := by simp
  generalize (w.alloc (.cells #[.string f0_Id, .int .i64 f0_EveryDays, .int .i64 f0_EveryRides, .int .i64 f0_LastDay, .int .i64 f0_LastRide] 23)) = W1 at *
  have tot : Below W1.heap.size W1 W1 := Below.refl _ _
  refine (szCheck_one (by omega) (by omega) w0_Id).mono ?_
  rintro e u1 ⟨v0, rfl, b, hv0, hvm0⟩
  replace tot := tot.trans (b.mono tot.size)
  clear b
  try clear e0_0 e0_1 e0_2 e0_3 e0_4
  have e0_0 := (tot.cell (p := ⟨w.heap.size, 0, none⟩) (by simp only []; omega)).trans bx0_0
  have e0_1 := (tot.cell (p := ⟨w.heap.size, 1, none⟩) (by simp only []; omega)).trans bx0_1
  have e0_2 := (tot.cell (p := ⟨w.heap.size, 2, none⟩) (by simp only []; omega)).trans bx0_2
  have e0_3 := (tot.cell (p := ⟨w.heap.size, 3, none⟩) (by simp only []; omega)).trans bx0_3
  have e0_4 := (tot.cell (p := ⟨w.heap.size, 4, none⟩) (by simp only []; omega)).trans bx0_4
  go_wp2_with fail
  · go_ret
    exact ⟨rfl, pre.trans (tot.mono (by omega))⟩
  replace hv0 := hv0 (by omega)
  refine (toCheck_any).mono ?_
  rintro e u2 ⟨rfl, b⟩
  replace tot := tot.trans (b.mono tot.size)
  clear b
  try clear e0_0 e0_1 e0_2 e0_3 e0_4
  have e0_0 := (tot.cell (p := ⟨w.heap.size, 0, none⟩) (by simp only []; omega)).trans bx0_0
  have e0_1 := (tot.cell (p := ⟨w.heap.size, 1, none⟩) (by simp only []; omega)).trans bx0_1
  have e0_2 := (tot.cell (p := ⟨w.heap.size, 2, none⟩) (by simp only []; omega)).trans bx0_2
  have e0_3 := (tot.cell (p := ⟨w.heap.size, 3, none⟩) (by simp only []; omega)).trans bx0_3
  have e0_4 := (tot.cell (p := ⟨w.heap.size, 4, none⟩) (by simp only []; omega)).trans bx0_4
  go_wp2_with fail
  refine (specCheckText_any (by omega)).mono ?_
  rintro e u3 ⟨rfl, b⟩
  replace tot := tot.trans (b.mono tot.size)
  clear b
  try clear e0_0 e0_1 e0_2 e0_3 e0_4
  have e0_0 := (tot.cell (p := ⟨w.heap.size, 0, none⟩) (by simp only []; omega)).trans bx0_0
  have e0_1 := (tot.cell (p := ⟨w.heap.size, 1, none⟩) (by simp only []; omega)).trans bx0_1
  have e0_2 := (tot.cell (p := ⟨w.heap.size, 2, none⟩) (by simp only []; omega)).trans bx0_2
  have e0_3 := (tot.cell (p := ⟨w.heap.size, 3, none⟩) (by simp only []; omega)).trans bx0_3
  have e0_4 := (tot.cell (p := ⟨w.heap.size, 4, none⟩) (by simp only []; omega)).trans bx0_4
  go_wp2_with fail
  refine (toCheck_any).mono ?_
  rintro e u4 ⟨rfl, b⟩
  replace tot := tot.trans (b.mono tot.size)
  clear b
  try clear e0_0 e0_1 e0_2 e0_3 e0_4
  have e0_0 := (tot.cell (p := ⟨w.heap.size, 0, none⟩) (by simp only []; omega)).trans bx0_0
  have e0_1 := (tot.cell (p := ⟨w.heap.size, 1, none⟩) (by simp only []; omega)).trans bx0_1
  have e0_2 := (tot.cell (p := ⟨w.heap.size, 2, none⟩) (by simp only []; omega)).trans bx0_2
  have e0_3 := (tot.cell (p := ⟨w.heap.size, 3, none⟩) (by simp only []; omega)).trans bx0_3
  have e0_4 := (tot.cell (p := ⟨w.heap.size, 4, none⟩) (by simp only []; omega)).trans bx0_4
  go_wp2_with fail
  refine (implCheckText_any (by omega) (by first | exact Tab.out.below tot | exact Tab.out.below (pre.trans (tot.mono (by omega))))).mono ?_
  rintro e u5 ⟨rfl, b⟩
  replace tot := tot.trans (b.mono tot.size)
  clear b
  try clear e0_0 e0_1 e0_2 e0_3 e0_4
  have e0_0 := (tot.cell (p := ⟨w.heap.size, 0, none⟩) (by simp only []; omega)).trans bx0_0
  have e0_1 := (tot.cell (p := ⟨w.heap.size, 1, none⟩) (by simp only []; omega)).trans bx0_1
  have e0_2 := (tot.cell (p := ⟨w.heap.size, 2, none⟩) (by simp only []; omega)).trans bx0_2
  have e0_3 := (tot.cell (p := ⟨w.heap.size, 3, none⟩) (by simp only []; omega)).trans bx0_3
  have e0_4 := (tot.cell (p := ⟨w.heap.size, 4, none⟩) (by simp only []; omega)).trans bx0_4
  go_wp2_with fail
  go_ret
  exact ⟨rfl, pre.trans (tot.mono (by omega))⟩
end Go.Proofs.YtaojhfbcdoicpaaDoor

