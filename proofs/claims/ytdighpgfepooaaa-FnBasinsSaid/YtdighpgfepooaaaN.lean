/- Contracts of the small functions on numbers: each returns the plain value that is named, and leaves memory alone. -/
import Derived.Test.YtdighpgfepooaaaW
import Derived.Test.YtdighpgfepooaaaRows
namespace Go.Proofs.Ytdighpgfepooaaa
open Go.RowKit
set_option maxRecDepth 100000
set_option linter.unusedVariables false

theorem within_any (n a b : Int) (w : World) :
    Calls Try.prog 36 #[.int .i64 n, .int .i64 a, .int .i64 b] w fun e w' => e = .returned (.bool (inB n a b)) ∧ w = w' := by
  go_enter Try.func36, Try.ntmps36
  go_wp2
  all_goals go_ret
  all_goals (refine ⟨?_, rfl⟩; simp [inB]; try omega)
theorem in_any (n a b : Int) (w : World) :
    Calls Try.prog 46 #[.int .i64 n, .int .i64 a, .int .i64 b] w fun e w' => e = .returned (.bool (inB n a b)) ∧ w = w' := by
  go_enter Try.func46, Try.ntmps46
  go_wp2
  all_goals go_ret
  all_goals (refine ⟨?_, rfl⟩; simp [inB]; try omega)
theorem isStore_any (n : Int) (w : World) : Calls Try.prog 54 #[.int .i64 n] w fun e w' => e = .returned (.bool (inB n (0) 10000000)) ∧ w = w' := by
  go_enter Try.func54, Try.ntmps54
  go_wp2_with (go_at_call 36; refine (within_any _ _ _ _).mono ?_; rintro e w' ⟨rfl, rfl⟩)
  go_ret
  exact ⟨rfl, rfl⟩
theorem isTank_any (n : Int) (w : World) : Calls Try.prog 39 #[.int .i64 n] w fun e w' => e = .returned (.bool (inB n (0) 20000)) ∧ w = w' := by
  go_enter Try.func39, Try.ntmps39
  go_wp2_with (go_at_call 36; refine (within_any _ _ _ _).mono ?_; rintro e w' ⟨rfl, rfl⟩)
  go_ret
  exact ⟨rfl, rfl⟩
theorem l16Litres_any (n : Int) (w : World) : Calls Try.prog 47 #[.int .i64 n] w fun e w' => e = .returned (.bool (inB n (0) 20000)) ∧ w = w' := by
  go_enter Try.func47, Try.ntmps47
  go_wp2_with (go_at_call 46; refine (in_any _ _ _ _).mono ?_; rintro e w' ⟨rfl, rfl⟩)
  go_ret
  exact ⟨rfl, rfl⟩
theorem l16Gap_any (n : Int) (w : World) : Calls Try.prog 29 #[.int .i64 n] w fun e w' => e = .returned (.bool (inB n (0) 1440)) ∧ w = w' := by
  go_enter Try.func29, Try.ntmps29
  go_wp2_with (go_at_call 46; refine (in_any _ _ _ _).mono ?_; rintro e w' ⟨rfl, rfl⟩)
  go_ret
  exact ⟨rfl, rfl⟩
theorem isDayMinute_any (n : Int) (w : World) : Calls Try.prog 25 #[.int .i64 n] w fun e w' => e = .returned (.bool (inB n (0) 1440)) ∧ w = w' := by
  go_enter Try.func25, Try.ntmps25
  go_wp2_with (go_at_call 36; refine (within_any _ _ _ _).mono ?_; rintro e w' ⟨rfl, rfl⟩)
  go_ret
  exact ⟨rfl, rfl⟩
theorem isBudget_any (n : Int) (w : World) : Calls Try.prog 37 #[.int .i64 n] w fun e w' => e = .returned (.bool (inB n (1) 20000)) ∧ w = w' := by
  go_enter Try.func37, Try.ntmps37
  go_wp2_with (go_at_call 36; refine (within_any _ _ _ _).mono ?_; rintro e w' ⟨rfl, rfl⟩)
  go_ret
  exact ⟨rfl, rfl⟩
/-- The quotient of a by b, above 0, that is nearest; of two the one farther from 0. -/
def rdiv (a b : Int) : Int := if a < 0 then -((b - 2 * a) / (2 * b)) else (2 * a + b) / (2 * b)

theorem l00Min_any (a b : Int) (w : World) : Calls Try.prog 48 #[.int .i64 a, .int .i64 b] w fun e w' => e = .returned (.int .i64 (min a b)) ∧ w = w' := by
  go_enter Try.func48, Try.ntmps48
  go_wp2
  all_goals go_ret
  all_goals (refine ⟨ret_int (?_ : (_ : Int) = _), rfl⟩; show (_ : Int) = _; omega)
/-- The absolute value, as the program has it. -/
def absB (a : Int) : Int := if a < 0 then -a else a
theorem abs_any (a : Int) (w : World) (h : -4000000000000000000 ≤ a) (h' : a ≤ 4000000000000000000) : Calls Try.prog 51 #[.int .i64 a] w fun e w' => e = .returned (.int .i64 (absB a)) ∧ w = w' := by
  go_enter Try.func51, Try.ntmps51
  go_wp2
  all_goals go_ret
  all_goals (refine ⟨ret_int (?_ : (_ : Int) = _), rfl⟩; show (_ : Int) = _; unfold absB; omega)
theorem rdiv_neg {a b : Int} (h : a < 0) : rdiv a b = -((b - 2 * a) / (2 * b)) := by rw [rdiv, if_pos h]
theorem rdiv_pos {a b : Int} (h : 0 ≤ a) : rdiv a b = (2 * a + b) / (2 * b) := by rw [rdiv, if_neg (by omega)]
/-- What 'nearest' reckons: the quotient towards 0, and one more where twice the rest reaches b. -/
theorem rdiv_tdiv (a b : Int) (hb : 0 < b) : rdiv a b = a.tdiv b + (if b ≤ 2 * absB (a.tmod b) then (if a < 0 then -1 else 1) else 0) := by
  by_cases ha : a < 0
  · rw [rdiv_neg ha, if_pos ha]
    have e1 : a.tdiv b = -((-a) / b) := by
      have : a = -(-a) := by omega
      rw [this, Int.neg_tdiv, Int.tdiv_eq_ediv_of_nonneg (by omega)]; simp
    have e2 : a.tmod b = -((-a) % b) := by
      have : a = -(-a) := by omega
      rw [this, Int.neg_tmod, Int.tmod_eq_emod_of_nonneg (by omega)]; simp
    have hd := Int.mul_ediv_add_emod (-a) b
    have hm := Int.emod_nonneg (-a) (b := b) (by omega)
    have hm' := Int.emod_lt_of_pos (-a) hb
    rw [e1, e2]
    generalize (-a) / b = q at *
    generalize (-a) % b = r at *
    have hab : absB (-r) = r := by unfold absB; omega
    rw [hab]
    have key : (b - 2 * a) / (2 * b) = q + (if b ≤ 2 * r then 1 else 0) := by
      have : b - 2 * a = (b + 2 * r) + (2 * b) * q := by rw [Int.mul_assoc]; omega
      rw [this, Int.add_mul_ediv_left _ _ (by omega)]
      have : (b + 2 * r) / (2 * b) = if b ≤ 2 * r then 1 else 0 := by
        split
        · rw [Int.ediv_eq_iff_of_pos (by omega)]; omega
        · rw [Int.ediv_eq_iff_of_pos (by omega)]; omega
      omega
    rw [key]
    split <;> omega
  · rw [rdiv_pos (by omega), if_neg ha]
    rw [Int.tdiv_eq_ediv_of_nonneg (by omega), Int.tmod_eq_emod_of_nonneg (by omega)]
    have hd := Int.mul_ediv_add_emod a b
    have hm := Int.emod_nonneg a (b := b) (by omega)
    have hm' := Int.emod_lt_of_pos a hb
    generalize a / b = q at *
    generalize a % b = r at *
    have hab : absB r = r := by unfold absB; omega
    rw [hab]
    have : 2 * a + b = (b + 2 * r) + (2 * b) * q := by rw [Int.mul_assoc]; omega
    rw [this, Int.add_mul_ediv_left _ _ (by omega)]
    have : (b + 2 * r) / (2 * b) = if b ≤ 2 * r then 1 else 0 := by
      split
      · rw [Int.ediv_eq_iff_of_pos (by omega)]; omega
      · rw [Int.ediv_eq_iff_of_pos (by omega)]; omega
    omega
theorem rdiv_bd {a b : Int} (ha : 0 ≤ a) (hb : 0 < b) : 0 ≤ rdiv a b ∧ rdiv a b ≤ a + 1 := by
  rw [rdiv_pos ha]
  refine ⟨Int.ediv_nonneg (by omega) (by omega), ?_⟩
  have h1 : a ≤ a * b := by
    have := Int.mul_le_mul_of_nonneg_left (show (1 : Int) ≤ b by omega) ha
    omega
  have h2 : (a + 1) * (2 * b) = 2 * (a * b) + 2 * b := by rw [Int.add_mul, Int.one_mul, Int.mul_left_comm]
  have h3 : (2 * a + b) / (2 * b) < a + 2 := by
    refine Int.ediv_lt_of_lt_mul (by omega) ?_
    have : (a + 2) * (2 * b) = 2 * (a * b) + 4 * b := by rw [Int.add_mul, Int.mul_left_comm]; omega
    omega
  omega
theorem nearest_any (a b : Int) (w : World) (h1 : -1000000000000000000 ≤ a) (h2 : a ≤ 1000000000000000000) (h3 : 0 < b) (h4 : b ≤ 1000000000000) :
    Calls Try.prog 42 #[.int .i64 a, .int .i64 b] w fun e w' => e = .returned (.int .i64 (rdiv a b)) ∧ ∃ n, w' = w.drewN n := by
  have hm1 : -1000000000000 ≤ a.tmod b ∧ a.tmod b ≤ 1000000000000 := by
    have := Int.lt_tmod_of_pos a h3; have := Int.tmod_lt_of_pos a h3; omega
  have hq : -1000000000000000000 ≤ a.tdiv b ∧ a.tdiv b ≤ 1000000000000000000 := by
    have h := Int.natAbs_tdiv_le_natAbs a b
    omega
  have ha : 0 ≤ absB (a.tmod b) ∧ absB (a.tmod b) ≤ 1000000000000 := by unfold absB; omega
  have hb : b ≤ absB b ∧ absB b ≤ b := by unfold absB; omega
  have Hr := Lib.hid (rdiv_tdiv a b h3)
  go_enter Try.func42, Try.ntmps42
  go_wp2_with fail
  go_quiet ((go_at_call 51; exact quiet_left (abs_any _ _ (by omega) (by omega))))
  go_wp2_with (go_at_call 51; refine (abs_any _ _ (by omega) (by omega)).mono ?_; rintro e w' ⟨rfl, rfl⟩)
  · have hx : a < 0 := by
      have h : (!decide (a < 0) == decide (b < 0)) = true := by assumption
      by_cases hn : a < 0
      · exact hn
      · simp [hn, show ¬ b < 0 by omega] at h
    go_ret
    refine ⟨ret_int ?_, _, rfl⟩
    rw [Hr.out, if_pos (by omega), if_pos hx]; rfl
  · have hx : ¬ a < 0 := by
      have h : (!decide (a < 0) == decide (b < 0)) = false := by assumption
      intro hn
      simp [hn, show ¬ b < 0 by omega] at h
    go_ret
    refine ⟨ret_int ?_, _, rfl⟩
    rw [Hr.out, if_pos (by omega), if_neg hx]
  · go_ret
    refine ⟨ret_int ?_, _, rfl⟩
    rw [Hr.out, if_neg (by omega), Int.add_zero]
end Go.Proofs.Ytdighpgfepooaaa
