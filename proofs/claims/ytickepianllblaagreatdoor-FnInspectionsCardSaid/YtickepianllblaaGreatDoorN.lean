/- Contracts of the small functions on numbers: each returns the plain value that is named, and leaves memory alone. -/
import Derived.Test.YtickepianllblaaGreatDoorW
import Derived.Test.YtickepianllblaaGreatDoorRows
namespace Go.Proofs.YtickepianllblaaGreatDoor
open Go.RowKit
set_option maxRecDepth 100000
set_option linter.unusedVariables false

theorem within_any (n a b : Int) (w : World) :
    Calls Tryz.prog 28 #[.int .i64 n, .int .i64 a, .int .i64 b] w fun e w' => e = .returned (.bool (inB n a b)) ∧ w = w' := by
  go_enter Tryz.func28, Tryz.ntmps28
  go_wp2
  all_goals go_ret
  all_goals (refine ⟨?_, rfl⟩; simp [inB]; try omega)
theorem in_any (n a b : Int) (w : World) :
    Calls Tryz.prog 59 #[.int .i64 n, .int .i64 a, .int .i64 b] w fun e w' => e = .returned (.bool (inB n a b)) ∧ w = w' := by
  go_enter Tryz.func59, Tryz.ntmps59
  go_wp2
  all_goals go_ret
  all_goals (refine ⟨?_, rfl⟩; simp [inB]; try omega)
theorem isOpsDay_any (n : Int) (w : World) : Calls Tryz.prog 45 #[.int .i64 n] w fun e w' => e = .returned (.bool (inB n (0) 100000)) ∧ w = w' := by
  go_enter Tryz.func45, Tryz.ntmps45
  go_wp2_with (go_at_call 28; refine (within_any _ _ _ _).mono ?_; rintro e w' ⟨rfl, rfl⟩)
  go_ret
  exact ⟨rfl, rfl⟩
theorem isCount_any (n : Int) (w : World) : Calls Tryz.prog 44 #[.int .i64 n] w fun e w' => e = .returned (.bool (inB n (0) 1000000)) ∧ w = w' := by
  go_enter Tryz.func44, Tryz.ntmps44
  go_wp2_with (go_at_call 28; refine (within_any _ _ _ _).mono ?_; rintro e w' ⟨rfl, rfl⟩)
  go_ret
  exact ⟨rfl, rfl⟩
theorem l21Day_any (n : Int) (w : World) : Calls Tryz.prog 38 #[.int .i64 n] w fun e w' => e = .returned (.bool (inB n (0) 100000)) ∧ w = w' := by
  go_enter Tryz.func38, Tryz.ntmps38
  go_wp2_with (go_at_call 59; refine (in_any _ _ _ _).mono ?_; rintro e w' ⟨rfl, rfl⟩)
  go_ret
  exact ⟨rfl, rfl⟩
theorem l21Count_any (n : Int) (w : World) : Calls Tryz.prog 39 #[.int .i64 n] w fun e w' => e = .returned (.bool (inB n (0) 1000000)) ∧ w = w' := by
  go_enter Tryz.func39, Tryz.ntmps39
  go_wp2_with (go_at_call 59; refine (in_any _ _ _ _).mono ?_; rintro e w' ⟨rfl, rfl⟩)
  go_ret
  exact ⟨rfl, rfl⟩
theorem isValue_any (n : Int) (w : World) : Calls Tryz.prog 53 #[.int .i64 n] w fun e w' => e = .returned (.bool (inB n (-1000000000000) 1000000000000)) ∧ w = w' := by
  go_enter Tryz.func53, Tryz.ntmps53
  go_wp2_with (go_at_call 28; refine (within_any _ _ _ _).mono ?_; rintro e w' ⟨rfl, rfl⟩)
  go_ret
  exact ⟨rfl, rfl⟩
/-- The quotient of a by b, above 0, that is nearest; of two the one farther from 0. -/
def rdiv (a b : Int) : Int := if a < 0 then -((b - 2 * a) / (2 * b)) else (2 * a + b) / (2 * b)

/-- The absolute value, as the program has it. -/
def absB (a : Int) : Int := if a < 0 then -a else a
theorem rdiv_neg {a b : Int} (h : a < 0) : rdiv a b = -((b - 2 * a) / (2 * b)) := by rw [rdiv, if_pos h]
theorem rdiv_pos {a b : Int} (h : 0 ≤ a) : rdiv a b = (2 * a + b) / (2 * b) := by rw [rdiv, if_neg (by omega)]
/-- What 'nearest' reckons: the quotient towards 0, and one more where twice the rest reaches b. -/
theorem rdiv_tdiv (a b : Int) (hb : 0 < b) : rdiv a b = a.tdiv b + (if b ≤ 2 * absB (a.tmod b) then (if a < 0 then -1 else 1) else 0) := by
  by_cases ha : a < 0
  · rw [rdiv_neg ha, if_pos ha]
    have e1 : a.tdiv b = -((-a) / b) := by
      have : a = -(-a) := by omega
      rw [this, Int.neg_tdiv, Int.tdiv_eq_ediv_of_nonneg (by omega)]; simp
    have e2 : a.tmod b = -((-a) % b) := by
      have : a = -(-a) := by omega
      rw [this, Int.neg_tmod, Int.tmod_eq_emod_of_nonneg (by omega)]; simp
    have hd := Int.mul_ediv_add_emod (-a) b
    have hm := Int.emod_nonneg (-a) (b := b) (by omega)
    have hm' := Int.emod_lt_of_pos (-a) hb
    rw [e1, e2]
    generalize (-a) / b = q at *
    generalize (-a) % b = r at *
    have hab : absB (-r) = r := by unfold absB; omega
    rw [hab]
    have key : (b - 2 * a) / (2 * b) = q + (if b ≤ 2 * r then 1 else 0) := by
      have : b - 2 * a = (b + 2 * r) + (2 * b) * q := by rw [Int.mul_assoc]; omega
      rw [this, Int.add_mul_ediv_left _ _ (by omega)]
      have : (b + 2 * r) / (2 * b) = if b ≤ 2 * r then 1 else 0 := by
        split
        · rw [Int.ediv_eq_iff_of_pos (by omega)]; omega
        · rw [Int.ediv_eq_iff_of_pos (by omega)]; omega
      omega
    rw [key]
    split <;> omega
  · rw [rdiv_pos (by omega), if_neg ha]
    rw [Int.tdiv_eq_ediv_of_nonneg (by omega), Int.tmod_eq_emod_of_nonneg (by omega)]
    have hd := Int.mul_ediv_add_emod a b
    have hm := Int.emod_nonneg a (b := b) (by omega)
    have hm' := Int.emod_lt_of_pos a hb
    generalize a / b = q at *
    generalize a % b = r at *
    have hab : absB r = r := by unfold absB; omega
    rw [hab]
    have : 2 * a + b = (b + 2 * r) + (2 * b) * q := by rw [Int.mul_assoc]; omega
    rw [this, Int.add_mul_ediv_left _ _ (by omega)]
    have : (b + 2 * r) / (2 * b) = if b ≤ 2 * r then 1 else 0 := by
      split
      · rw [Int.ediv_eq_iff_of_pos (by omega)]; omega
      · rw [Int.ediv_eq_iff_of_pos (by omega)]; omega
    omega
theorem rdiv_bd {a b : Int} (ha : 0 ≤ a) (hb : 0 < b) : 0 ≤ rdiv a b ∧ rdiv a b ≤ a + 1 := by
  rw [rdiv_pos ha]
  refine ⟨Int.ediv_nonneg (by omega) (by omega), ?_⟩
  have h1 : a ≤ a * b := by
    have := Int.mul_le_mul_of_nonneg_left (show (1 : Int) ≤ b by omega) ha
    omega
  have h2 : (a + 1) * (2 * b) = 2 * (a * b) + 2 * b := by rw [Int.add_mul, Int.one_mul, Int.mul_left_comm]
  have h3 : (2 * a + b) / (2 * b) < a + 2 := by
    refine Int.ediv_lt_of_lt_mul (by omega) ?_
    have : (a + 2) * (2 * b) = 2 * (a * b) + 4 * b := by rw [Int.add_mul, Int.mul_left_comm]; omega
    omega
  omega
end Go.Proofs.YtickepianllblaaGreatDoor
