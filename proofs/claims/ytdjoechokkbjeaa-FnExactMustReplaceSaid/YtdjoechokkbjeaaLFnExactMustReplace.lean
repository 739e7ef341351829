/- The walk of the law 'FnExactMustReplace': whatever the input, it returns true, and nothing that was there has turned. -/
import Derived.Test.YtdjoechokkbjeaaRM
import Derived.Test.YtdjoechokkbjeaaO
import Derived.Test.YtdjoechokkbjeaaQRope
namespace Go.Proofs.Ytdjoechokkbjeaa
open Go.RowKit
set_option maxRecDepth 100000
set_option linter.unusedVariables false

set_option maxHeartbeats 2000000 in
theorem FnExactMustReplace_walk (z0 : RopeR) (A1 : Option Addr) (n1 c1 : Nat) (z1 : List Int) (a2 : Int) (a3 : Int) (w : World) (hz0 : z0.wf) (h1 : Ints w w.heap.size A1 n1 z1) (hc1 : n1 ≤ c1) (hm1 : c1 ≤ maxLen) (hz1 : ∀ z ∈ z1, (Lit.int .i64 z).wf = true) (w2 : (Lit.int .i64 a2).wf = true) (w3 : (Lit.int .i64 a3).wf = true) :
    Calls Try.prog 12 #[z0.val, .slice A1 n1 c1, .int .i64 a2, .int .i64 a3] w fun e w' => e = .returned (.bool true) ∧ Below w.heap.size w w' := by
  obtain ⟨f0_Long, f0_Grams, f0_Wires, f0_Strength⟩ := z0
  simp only [RopeR.val]
  unfold maxLen at hm1
  clear w2
  clear w3
  by_cases b1 : 1048576 < n1
  · go_enter Try.func12, Try.ntmps12
    go_wp2_with fail
    go_ret
    exact ⟨rfl, by first | exact Below.refl _ _ | exact (Below.refl _ _).alloc (Nat.le_refl _) _⟩
  go_enter Try.func12, Try.ntmps12
  go_wp2_with fail
  have pre : Below w.heap.size w (w.alloc (.cells #[.int .i64 f0_Long, .int .i64 f0_Grams, .int .i64 f0_Wires, .int .i64 f0_Strength] 53)) := ((Below.refl _ _).alloc (by simp) _)
  have bx0_0 : (w.alloc (.cells #[.int .i64 f0_Long, .int .i64 f0_Grams, .int .i64 f0_Wires, .int .i64 f0_Strength] 53)).cell? ⟨w.heap.size, 0, none⟩ = some (.int .i64 f0_Long) := by simp
  have bx0_1 : (w.alloc (.cells #[.int .i64 f0_Long, .int .i64 f0_Grams, .int .i64 f0_Wires, .int .i64 f0_Strength] 53)).cell? ⟨w.heap.size, 1, none⟩ = some (.int .i64 f0_Grams) := by simp
  have bx0_2 : (w.alloc (.cells #[.int .i64 f0_Long, .int .i64 f0_Grams, .int .i64 f0_Wires, .int .i64 f0_Strength] 53)).cell? ⟨w.heap.size, 2, none⟩ = some (.int .i64 f0_Wires) := by simp
  have bx0_3 : (w.alloc (.cells #[.int .i64 f0_Long, .int .i64 f0_Grams, .int .i64 f0_Wires, .int .i64 f0_Strength] 53)).cell? ⟨w.heap.size, 3, none⟩ = some (.int .i64 f0_Strength) := by simp
  have hsz : w.heap.size + 1 ≤ (w.alloc (.cells #[.int .i64 f0_Long, .int .i64 f0_Grams, .int .i64 f0_Wires, .int .i64 f0_Strength] 53)).heap.size := by simp
  replace h1 := Reads.below h1 pre (Nat.le_refl _)
  generalize (w.alloc (.cells #[.int .i64 f0_Long, .int .i64 f0_Grams, .int .i64 f0_Wires, .int .i64 f0_Strength] 53)) = W1 at *
  replace h1 := Reads.more h1 (show w.heap.size ≤ W1.heap.size by omega)
  have tot : Below W1.heap.size W1 W1 := Below.refl _ _
  refine (toRope_any).mono ?_
  rintro e u1 ⟨rfl, b⟩
  replace tot := tot.trans (b.mono tot.size)
  clear b
  try clear e0_0 e0_1 e0_2 e0_3
  have e0_0 := (tot.cell (p := ⟨w.heap.size, 0, none⟩) (by simp only []; omega)).trans bx0_0
  have e0_1 := (tot.cell (p := ⟨w.heap.size, 1, none⟩) (by simp only []; omega)).trans bx0_1
  have e0_2 := (tot.cell (p := ⟨w.heap.size, 2, none⟩) (by simp only []; omega)).trans bx0_2
  have e0_3 := (tot.cell (p := ⟨w.heap.size, 3, none⟩) (by simp only []; omega)).trans bx0_3
  go_wp2_with fail
  refine (toInt64S_any (h1.below tot (Nat.le_refl _)) tot.size (by omega)).mono ?_
  rintro e u2 ⟨A_t2, c_t2, rfl, o_t2, b⟩
  have f_t2 : W1.heap.size ≤ _ := tot.size
  replace tot := tot.trans (b.mono tot.size)
  clear b
  try clear e0_0 e0_1 e0_2 e0_3
  have e0_0 := (tot.cell (p := ⟨w.heap.size, 0, none⟩) (by simp only []; omega)).trans bx0_0
  have e0_1 := (tot.cell (p := ⟨w.heap.size, 1, none⟩) (by simp only []; omega)).trans bx0_1
  have e0_2 := (tot.cell (p := ⟨w.heap.size, 2, none⟩) (by simp only []; omega)).trans bx0_2
  have e0_3 := (tot.cell (p := ⟨w.heap.size, 3, none⟩) (by simp only []; omega)).trans bx0_3
  go_wp2_with fail
  refine (specMustReplace_any o_t2.reads (Nat.le_refl _) o_t2.cap (by omega)).mono ?_
  rintro e u3 ⟨rfl, b⟩
  replace o_t2 := o_t2.below b
  replace tot := tot.trans (b.mono tot.size)
  clear o_t2 f_t2
  clear b
  try clear e0_0 e0_1 e0_2 e0_3
  have e0_0 := (tot.cell (p := ⟨w.heap.size, 0, none⟩) (by simp only []; omega)).trans bx0_0
  have e0_1 := (tot.cell (p := ⟨w.heap.size, 1, none⟩) (by simp only []; omega)).trans bx0_1
  have e0_2 := (tot.cell (p := ⟨w.heap.size, 2, none⟩) (by simp only []; omega)).trans bx0_2
  have e0_3 := (tot.cell (p := ⟨w.heap.size, 3, none⟩) (by simp only []; omega)).trans bx0_3
  go_wp2_with fail
  refine (toInt64S_any (h1.below tot (Nat.le_refl _)) tot.size (by omega)).mono ?_
  rintro e u4 ⟨A_t4, c_t4, rfl, o_t4, b⟩
  have f_t4 : W1.heap.size ≤ _ := tot.size
  replace tot := tot.trans (b.mono tot.size)
  clear b
  try clear e0_0 e0_1 e0_2 e0_3
  have e0_0 := (tot.cell (p := ⟨w.heap.size, 0, none⟩) (by simp only []; omega)).trans bx0_0
  have e0_1 := (tot.cell (p := ⟨w.heap.size, 1, none⟩) (by simp only []; omega)).trans bx0_1
  have e0_2 := (tot.cell (p := ⟨w.heap.size, 2, none⟩) (by simp only []; omega)).trans bx0_2
  have e0_3 := (tot.cell (p := ⟨w.heap.size, 3, none⟩) (by simp only []; omega)).trans bx0_3
  go_wp2_with fail
  refine (toRope_any).mono ?_
  rintro e u5 ⟨rfl, b⟩
  replace o_t4 := o_t4.below b
  replace tot := tot.trans (b.mono tot.size)
  clear b
  try clear e0_0 e0_1 e0_2 e0_3
  have e0_0 := (tot.cell (p := ⟨w.heap.size, 0, none⟩) (by simp only []; omega)).trans bx0_0
  have e0_1 := (tot.cell (p := ⟨w.heap.size, 1, none⟩) (by simp only []; omega)).trans bx0_1
  have e0_2 := (tot.cell (p := ⟨w.heap.size, 2, none⟩) (by simp only []; omega)).trans bx0_2
  have e0_3 := (tot.cell (p := ⟨w.heap.size, 3, none⟩) (by simp only []; omega)).trans bx0_3
  go_wp2_with fail
  refine (implMustReplace_any o_t4.reads (Nat.le_refl _) o_t4.cap (by omega)).mono ?_
  rintro e u6 ⟨rfl, b⟩
  replace o_t4 := o_t4.below b
  replace tot := tot.trans (b.mono tot.size)
  clear b
  try clear e0_0 e0_1 e0_2 e0_3
  have e0_0 := (tot.cell (p := ⟨w.heap.size, 0, none⟩) (by simp only []; omega)).trans bx0_0
  have e0_1 := (tot.cell (p := ⟨w.heap.size, 1, none⟩) (by simp only []; omega)).trans bx0_1
  have e0_2 := (tot.cell (p := ⟨w.heap.size, 2, none⟩) (by simp only []; omega)).trans bx0_2
  have e0_3 := (tot.cell (p := ⟨w.heap.size, 3, none⟩) (by simp only []; omega)).trans bx0_3
  go_wp2_with fail
  refine (toInt64S_any (h1.below tot (Nat.le_refl _)) tot.size (by omega)).mono ?_
  rintro e u7 ⟨A_t7, c_t7, rfl, o_t7, b⟩
  have p_t4_t7 := apart_of o_t4 o_t7 (Nat.le_refl _)
  have f_t7 : W1.heap.size ≤ _ := tot.size
  replace o_t4 := o_t4.below b
  replace tot := tot.trans (b.mono tot.size)
  clear b
  try clear e0_0 e0_1 e0_2 e0_3
  have e0_0 := (tot.cell (p := ⟨w.heap.size, 0, none⟩) (by simp only []; omega)).trans bx0_0
  have e0_1 := (tot.cell (p := ⟨w.heap.size, 1, none⟩) (by simp only []; omega)).trans bx0_1
  have e0_2 := (tot.cell (p := ⟨w.heap.size, 2, none⟩) (by simp only []; omega)).trans bx0_2
  have e0_3 := (tot.cell (p := ⟨w.heap.size, 3, none⟩) (by simp only []; omega)).trans bx0_3
  go_wp2_with fail
  refine (eqInt64S_same o_t4.reads o_t7.reads (Nat.le_refl _) (Nat.le_refl _) o_t4.max).mono ?_
  rintro e u8 ⟨rfl, b⟩
  replace o_t4 := o_t4.below b
  replace o_t7 := o_t7.below b
  replace tot := tot.trans (b.mono tot.size)
  clear b
  try clear e0_0 e0_1 e0_2 e0_3
  have e0_0 := (tot.cell (p := ⟨w.heap.size, 0, none⟩) (by simp only []; omega)).trans bx0_0
  have e0_1 := (tot.cell (p := ⟨w.heap.size, 1, none⟩) (by simp only []; omega)).trans bx0_1
  have e0_2 := (tot.cell (p := ⟨w.heap.size, 2, none⟩) (by simp only []; omega)).trans bx0_2
  have e0_3 := (tot.cell (p := ⟨w.heap.size, 3, none⟩) (by simp only []; omega)).trans bx0_3
  go_wp2_with fail
  clear o_t7 f_t7 p_t4_t7
  go_ret
  exact ⟨rfl, pre.trans (tot.mono (by omega))⟩
end Go.Proofs.Ytdjoechokkbjeaa
