/- Days and dates: dates of days, both sides. -/
import Derived.Test.YtaojhfbcdoicpaaDoorTi
namespace Go.Proofs.YtaojhfbcdoicpaaDoor
open Go.RowKit
set_option maxRecDepth 100000
set_option linter.unusedVariables false
set_option linter.unusedSimpArgs false

attribute [local irreducible] mE ml mlen
/-- The year, the month, the date of a day of month i. -/
def yI (i : Nat) : Nat := 2000 + i / 12
def mI (i : Nat) : Nat := i % 12 + 1
theorem isD_of {D Y M : Nat} (h1 : mE (12 * Y + M) ≤ D) (h2 : D < mE (12 * Y + M + 1)) : IsD D (12 * Y + M) := ⟨h1, h2⟩
theorem mE_lt {i D : Nat} (h : mE i ≤ D) (hD : D ≤ 36524) : i < 1200 := by
  rcases Nat.lt_or_ge i 1200 with h1 | h1
  · exact h1
  · have h2 := mE_mono h1
    rw [mE_1200] at h2
    omega
set_option maxHeartbeats 4000000 in
theorem dateOf_any {D : Nat} {w : World} (hD : D ≤ 36524) :
    Calls Tryd.prog 47 #[.int .i64 (D : Int)] w fun e w' => ∃ i, IsD D i ∧ e = .returned (.tuple #[.int .i64 (yI i : Int), .int .i64 (mI i : Int), .int .i64 (((D - mE i + 1 : Nat) : Nat) : Int)]) ∧ w = w' := by
  go_enter Tryd.func47, Tryd.ntmps47
  go_wp2_with fail
  go_loopg [5] 99 (fun gk vy wr => ∃ (Y : Nat) (y : Int), Y ≤ 99 ∧ gk + Y = 99 ∧ vy = .int .i64 y ∧ Hid (y = 2000 + (Y : Int)) ∧ Hid (mE (12 * Y) ≤ D) ∧ w = wr)
  case atStart => exact ⟨0, _, by omega, by omega, rfl, Lib.hid rfl, Lib.hid (by rw [Nat.mul_zero, mE_zero]; exact Nat.zero_le _), rfl⟩
  case round =>
    obtain ⟨Y, y, hY, hgk, rfl, Hy, HE, rfl⟩ := hrel
    have Hgk := Lib.hid hgk
    clear hgk
    have qy : IntKind.i64.wrap (y + 1) = y + 1 := IntWalk.i64_in _ (by have := Hy.out; omega)
    have hc := Lib.hid (dayOf_any (y := y + 1) (m := 1) (Y := Y + 1) (k := 0) (w := w) (by have := Hy.out; omega) (by omega) (by omega) (by omega))
    rw [Nat.add_zero] at hc
    by_cases hgo : Y < 99 ∧ mE (12 * (Y + 1)) ≤ D
    · have hd1 : y < 2099 := by have := Hy.out; omega
      have hd2 : ((mE (12 * (Y + 1)) : Nat) : Int) ≤ (D : Int) := by omega
      have HE2 : Hid (mE (12 * (Y + 1)) ≤ D) := Lib.hid hgo.2
      have hY2 := hgo.1
      clear hgo
      go_wp2_with (go_at_call 61; refine hc.out.mono ?_; rintro e w' ⟨rfl, rfl⟩)
      have hgk := Hgk.out
      go_roundg (gk - 1)
      case rel => exact ⟨Y + 1, _, by omega, by omega, rfl, Lib.hid (by have := Hy.out; omega), HE2, rfl⟩
      case measure => omega
    · have Hex : Hid (D < mE (12 * Y + 12)) := Lib.hid (by
        by_cases h : Y = 99
        · subst h
          have := mE_1200
          rw [show 12 * 99 + 12 = 1200 from rfl]; omega
        · have : ¬ mE (12 * (Y + 1)) ≤ D := fun x => hgo ⟨by omega, x⟩
          rw [show 12 * Y + 12 = 12 * (Y + 1) by omega]; omega)
      have Hday : Hid (∀ (m : Int) (k : Nat), m = (k : Int) + 1 → k < 12 → Calls Tryd.prog 61 #[.int .i64 y, .int .i64 m, .int .i64 1] w fun e w' => e = .returned (.int .i64 ((mE (12 * Y + k) : Nat) : Int)) ∧ w = w') := Lib.hid (fun m k hm hk => dayOf_any Hy.out (by omega) hm hk)
      rcases (show (¬ y < 2099) ∨ (y < 2099 ∧ decide (mE (12 * (Y + 1)) ≤ D) = false) by
        by_cases h : Y < 99
        · right
          exact ⟨by have := Hy.out; omega, decide_eq_false (fun x => hgo ⟨h, x⟩)⟩
        · left; have := Hy.out; omega) with hd1 | ⟨hd1, hd2⟩
      all_goals
        clear hgo
        go_wp2_with (go_at_call 61; refine hc.out.mono ?_; rintro e w' ⟨rfl, rfl⟩)
        clear qy hc
        go_loopg [6] 11 (fun gj vm wr => ∃ (M : Nat) (m : Int), M ≤ 11 ∧ gj + M = 11 ∧ vm = .int .i64 m ∧ Hid (m = (M : Int) + 1) ∧ Hid (mE (12 * Y + M) ≤ D) ∧ w = wr)
        case atStart => exact ⟨0, _, by omega, by omega, rfl, Lib.hid rfl, HE, rfl⟩
        case round =>
          obtain ⟨M, m, hM, hgj, rfl, Hm, HEM, rfl⟩ := hrel
          have Hgj := Lib.hid hgj
          clear hgj
          have qm : IntKind.i64.wrap (m + 1) = m + 1 := IntWalk.i64_in _ (by have := Hm.out; omega)
          by_cases hgo : M < 11 ∧ mE (12 * Y + (M + 1)) ≤ D
          · have hm1 : m < 12 := by have := Hm.out; omega
            have hc := Lib.hid (Hday.out (m + 1) (M + 1) (by have := Hm.out; omega) (by omega))
            have hm2 : ((mE (12 * Y + (M + 1)) : Nat) : Int) ≤ (D : Int) := by omega
            have HE2 : Hid (mE (12 * Y + (M + 1)) ≤ D) := Lib.hid hgo.2
            have hM2 := hgo.1
            clear hgo
            go_wp2_with (go_at_call 61; refine hc.out.mono ?_; rintro e w' ⟨rfl, rfl⟩)
            have hgj := Hgj.out
            go_roundg (gk - 1)
            case rel => exact ⟨M + 1, _, by omega, by omega, rfl, Lib.hid (by have := Hm.out; omega), HE2, rfl⟩
            case measure => omega
          · have HI : Hid (IsD D (12 * Y + M)) := Lib.hid (by
              refine ⟨HEM.out, ?_⟩
              by_cases h : M = 11
              · subst h; exact Hex.out
              · have : ¬ mE (12 * Y + (M + 1)) ≤ D := fun x => hgo ⟨by omega, x⟩
                rw [show 12 * Y + M + 1 = 12 * Y + (M + 1) by omega]; omega)
            have hc0 := Lib.hid (Hday.out m M Hm.out (by omega))
            have e1 : Hid (y = ((yI (12 * Y + M) : Nat) : Int)) := Lib.hid (by have := Hy.out; unfold yI; omega)
            have e2 : Hid (m = ((mI (12 * Y + M) : Nat) : Int)) := Lib.hid (by have := Hm.out; unfold mI; omega)
            have e3 : Hid ((D : Int) - ((mE (12 * Y + M) : Nat) : Int) + 1 = ((D - mE (12 * Y + M) + 1 : Nat) : Int)) := Lib.hid (by have := HEM.out; omega)
            have hle := HEM.out
            have q1 : IntKind.i64.wrap ((D : Int) - ((mE (12 * Y + M) : Nat) : Int)) = (D : Int) - ((mE (12 * Y + M) : Nat) : Int) := IntWalk.i64_in _ (by omega)
            have q2 : IntKind.i64.wrap ((D : Int) - ((mE (12 * Y + M) : Nat) : Int) + 1) = (D : Int) - ((mE (12 * Y + M) : Nat) : Int) + 1 := IntWalk.i64_in _ (by omega)
            have hfin : Hid (∃ i, IsD D i ∧ Ending.returned (.tuple #[.int .i64 y, .int .i64 m, .int .i64 ((D : Int) - ((mE (12 * Y + M) : Nat) : Int) + 1)]) = Ending.returned (.tuple #[.int .i64 (yI i : Int), .int .i64 (mI i : Int), .int .i64 (((D - mE i + 1 : Nat) : Nat) : Int)])) := Lib.hid ⟨12 * Y + M, HI.out, by rw [← e1.out, ← e2.out, ← e3.out]⟩
            generalize mE (12 * Y + M) = me at *
            rcases (show (¬ m < 12) ∨ (m < 12 ∧ decide (mE (12 * Y + (M + 1)) ≤ D) = false) by
              by_cases h : M < 11
              · right
                exact ⟨by have := Hm.out; omega, decide_eq_false (fun x => hgo ⟨h, x⟩)⟩
              · left; have := Hm.out; omega) with hm1 | ⟨hm1, hm2⟩
            · clear hgo
              go_wp2_with (go_at_call 61; refine hc0.out.mono ?_; rintro e w' ⟨rfl, rfl⟩)
              obtain ⟨i, hi1, hi2⟩ := hfin.out
              go_ret3
              exact ⟨i, hi1, hi2, rfl⟩
            · have hc := Lib.hid (Hday.out (m + 1) (M + 1) (by have := Hm.out; omega) (by have := Hm.out; omega))
              clear hgo
              go_wp2_with (go_at_call 61; first | (with_reducible refine hc.out.mono ?_; rintro e w' ⟨rfl, rfl⟩) | (with_reducible refine hc0.out.mono ?_; rintro e w' ⟨rfl, rfl⟩))
              obtain ⟨i, hi1, hi2⟩ := hfin.out
              go_ret3
              exact ⟨i, hi1, hi2, rfl⟩
end Go.Proofs.YtaojhfbcdoicpaaDoor
