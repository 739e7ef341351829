/- Days and dates: the calendar from 2000 on, month by month; what both sides say of a day. -/
import Derived.Test.YtaojhfbcdoicpaaDoorTb
import Derived.Test.YtaojhfbcdoicpaaDoorN
import Derived.Test.YtaojhfbcdoicpaaDoorZ
namespace Go.Proofs.YtaojhfbcdoicpaaDoor
open Go.RowKit
set_option maxRecDepth 100000
set_option linter.unusedVariables false
set_option linter.unusedSimpArgs false

/-- How many days the month number i from January 2000 on has. -/
def mlen (Y k : Nat) : Nat := if k = 1 then (if Y % 4 = 0 then 29 else 28) else if k = 3 ∨ k = 5 ∨ k = 8 ∨ k = 10 then 30 else 31
def ml (i : Nat) : Nat := mlen (i / 12) (i % 12)
def mE : Nat → Nat
  | 0 => 0
  | i + 1 => mE i + ml i
theorem mE_zero : mE 0 = 0 := rfl
theorem mE_succ (i : Nat) : mE (i + 1) = mE i + ml i := rfl
theorem ml_at (Y k : Nat) (hk : k < 12) : ml (12 * Y + k) = mlen Y k := by
  unfold ml
  rw [show (12 * Y + k) / 12 = Y by omega, show (12 * Y + k) % 12 = k by omega]
theorem ml_bd (i : Nat) : 28 ≤ ml i ∧ ml i ≤ 31 := by
  unfold ml mlen
  split
  · split <;> omega
  · split <;> omega
theorem mE_12 (n : Nat) : mE (n + 12) = mE n + ml n + ml (n + 1) + ml (n + 2) + ml (n + 3) + ml (n + 4) + ml (n + 5) + ml (n + 6) + ml (n + 7) + ml (n + 8) + ml (n + 9) + ml (n + 10) + ml (n + 11) := rfl
theorem mE_year : ∀ Y, mE (12 * Y) = 365 * Y + (Y + 3) / 4 := by
  intro Y
  induction Y with
  | zero => rfl
  | succ Y ih =>
    rw [show 12 * (Y + 1) = 12 * Y + 12 by omega, mE_12, ih, ml_at Y 1 (by omega), ml_at Y 2 (by omega), ml_at Y 3 (by omega), ml_at Y 4 (by omega), ml_at Y 5 (by omega), ml_at Y 6 (by omega), ml_at Y 7 (by omega), ml_at Y 8 (by omega), ml_at Y 9 (by omega), ml_at Y 10 (by omega), ml_at Y 11 (by omega), show ml (12 * Y) = mlen Y 0 from ml_at Y 0 (by omega)]
    simp only [mlen]
    by_cases h : Y % 4 = 0
    · simp [h]; omega
    · simp [h]; omega
theorem mE_mono {i j : Nat} (h : i ≤ j) : mE i ≤ mE j := by
  induction h with
  | refl => exact Nat.le_refl _
  | step _ ih => rw [mE_succ]; omega
def IsD (day i : Nat) : Prop := mE i ≤ day ∧ day < mE (i + 1)
theorem isD_unique {day i j : Nat} (hi : IsD day i) (hj : IsD day j) : i = j := by
  rcases Nat.lt_trichotomy i j with h | h | h
  · have := mE_mono (i := i + 1) (j := j) h; have := hi.2; have := hj.1; omega
  · exact h
  · have := mE_mono (i := j + 1) (j := i) h; have := hj.2; have := hi.1; omega
theorem mE_1200 : mE 1200 = 36525 := by
  have := mE_year 100
  rw [show 12 * 100 = 1200 from rfl] at this
  omega
theorem isD_lt {day i : Nat} (h : IsD day i) (hd : day ≤ 36524) : i < 1200 := by
  rcases Nat.lt_or_ge i 1200 with h1 | h1
  · exact h1
  · have h2 := mE_mono h1
    rw [mE_1200] at h2
    have := h.1
    omega
noncomputable def dI (day : Nat) : Nat := Classical.epsilon (IsD day)
theorem dI_eq {day i : Nat} (h : IsD day i) : dI day = i := isD_unique (Classical.epsilon_spec ⟨i, h⟩) h

set_option maxHeartbeats 2000000 in
theorem monthLength_any {y m : Int} {Y k : Nat} {w : World} (hy : y = 2000 + (Y : Int)) (hY : Y ≤ 1000) (hm : m = (k : Int) + 1) (hk : k < 12) :
    Calls Tryd.prog 67 #[.int .i64 y, .int .i64 m] w fun e w' => e = .returned (.int .i64 ((mlen Y k : Nat) : Int)) ∧ w = w' := by
  have hy0 : 0 ≤ y := by omega
  have Hy := Lib.hid hy
  clear hy
  match k, hk with
  | 0, _ => obtain rfl : m = 1 := by omega
            have Hr : Hid (mlen Y 0 = 31) := Lib.hid rfl
            clear hm
            trace_state
            go_enter Tryd.func67, Tryd.ntmps67
            go_wp2_with fail
            go_ret
            exact ⟨ret_int (by rw [Hr.out]; rfl), rfl⟩
  | 1, _ =>
    obtain rfl : m = 2 := by omega
    by_cases h4 : Y % 4 = 0
    · have Hr : Hid (mlen Y 1 = 29) := Lib.hid (by simp [mlen, h4])
      have hq : ((y % 4) == 0) = true := by rw [beq_iff_eq]; have := Hy.out; omega
      have hq2 : y % 4 = 0 := by have := Hy.out; omega
      clear h4
      go_enter Tryd.func67, Tryd.ntmps67
      go_wp2_with fail
      go_ret
      exact ⟨ret_int (by rw [Hr.out]; rfl), rfl⟩
    · have Hr : Hid (mlen Y 1 = 28) := Lib.hid (by simp [mlen, h4])
      have hq : ((y % 4) == 0) = false := by rw [beq_eq_false_iff_ne]; have := Hy.out; omega
      have hq2 : ¬ (y % 4 = 0) := by have := Hy.out; omega
      clear h4
      go_enter Tryd.func67, Tryd.ntmps67
      go_wp2_with fail
      go_ret
      exact ⟨ret_int (by rw [Hr.out]; rfl), rfl⟩
  | 2, _ => obtain rfl : m = 3 := by omega
            have Hr : Hid (mlen Y 2 = 31) := Lib.hid rfl
            go_enter Tryd.func67, Tryd.ntmps67
            go_wp2_with fail
            go_ret
            exact ⟨ret_int (by rw [Hr.out]; rfl), rfl⟩
  | 3, _ => obtain rfl : m = 4 := by omega
            have Hr : Hid (mlen Y 3 = 30) := Lib.hid rfl
            go_enter Tryd.func67, Tryd.ntmps67
            go_wp2_with fail
            go_ret
            exact ⟨ret_int (by rw [Hr.out]; rfl), rfl⟩
  | 4, _ => obtain rfl : m = 5 := by omega
            have Hr : Hid (mlen Y 4 = 31) := Lib.hid rfl
            go_enter Tryd.func67, Tryd.ntmps67
            go_wp2_with fail
            go_ret
            exact ⟨ret_int (by rw [Hr.out]; rfl), rfl⟩
  | 5, _ => obtain rfl : m = 6 := by omega
            have Hr : Hid (mlen Y 5 = 30) := Lib.hid rfl
            go_enter Tryd.func67, Tryd.ntmps67
            go_wp2_with fail
            go_ret
            exact ⟨ret_int (by rw [Hr.out]; rfl), rfl⟩
  | 6, _ => obtain rfl : m = 7 := by omega
            have Hr : Hid (mlen Y 6 = 31) := Lib.hid rfl
            go_enter Tryd.func67, Tryd.ntmps67
            go_wp2_with fail
            go_ret
            exact ⟨ret_int (by rw [Hr.out]; rfl), rfl⟩
  | 7, _ => obtain rfl : m = 8 := by omega
            have Hr : Hid (mlen Y 7 = 31) := Lib.hid rfl
            go_enter Tryd.func67, Tryd.ntmps67
            go_wp2_with fail
            go_ret
            exact ⟨ret_int (by rw [Hr.out]; rfl), rfl⟩
  | 8, _ => obtain rfl : m = 9 := by omega
            have Hr : Hid (mlen Y 8 = 30) := Lib.hid rfl
            go_enter Tryd.func67, Tryd.ntmps67
            go_wp2_with fail
            go_ret
            exact ⟨ret_int (by rw [Hr.out]; rfl), rfl⟩
  | 9, _ => obtain rfl : m = 10 := by omega
            have Hr : Hid (mlen Y 9 = 31) := Lib.hid rfl
            go_enter Tryd.func67, Tryd.ntmps67
            go_wp2_with fail
            go_ret
            exact ⟨ret_int (by rw [Hr.out]; rfl), rfl⟩
  | 10, _ => obtain rfl : m = 11 := by omega
             have Hr : Hid (mlen Y 10 = 30) := Lib.hid rfl
             go_enter Tryd.func67, Tryd.ntmps67
             go_wp2_with fail
             go_ret
             exact ⟨ret_int (by rw [Hr.out]; rfl), rfl⟩
  | 11, _ => obtain rfl : m = 12 := by omega
             have Hr : Hid (mlen Y 11 = 31) := Lib.hid rfl
             go_enter Tryd.func67, Tryd.ntmps67
             go_wp2_with fail
             go_ret
             exact ⟨ret_int (by rw [Hr.out]; rfl), rfl⟩
set_option maxHeartbeats 1000000 in
theorem dayOf_any {y m : Int} {Y k : Nat} {w : World} (hy : y = 2000 + (Y : Int)) (hY : Y ≤ 1000) (hm : m = (k : Int) + 1) (hk : k < 12) :
    Calls Tryd.prog 61 #[.int .i64 y, .int .i64 m, .int .i64 1] w fun e w' => e = .returned (.int .i64 ((mE (12 * Y + k) : Nat) : Int)) ∧ w = w' := by
  have q3b : 0 ≤ y - 1997 := by omega
  have wd : (y - 1997).tdiv 4 = (y - 1997) / 4 := Int.tdiv_eq_ediv_of_nonneg q3b
  have q1 : IntKind.i64.wrap (y - 2000) = y - 2000 := IntWalk.i64_in _ (by omega)
  have q1w : wrap64 (y - 2000) = y - 2000 := by unfold wrap64; omega
  have q2 : IntKind.i64.wrap ((y - 2000) * 365) = (y - 2000) * 365 := IntWalk.i64_in _ (by omega)
  have q2w : wrap64 ((y - 2000) * 365) = (y - 2000) * 365 := by unfold wrap64; omega
  have q3 : IntKind.i64.wrap (y - 1997) = y - 1997 := IntWalk.i64_in _ (by omega)
  have q3w : wrap64 (y - 1997) = y - 1997 := by unfold wrap64; omega
  have q7 : IntKind.i64.wrap ((y - 1997) / 4) = (y - 1997) / 4 := IntWalk.i64_in _ (by omega)
  have q7w : wrap64 ((y - 1997) / 4) = (y - 1997) / 4 := by unfold wrap64; omega
  have q4 : IntKind.i64.wrap ((y - 2000) * 365 + (y - 1997) / 4) = (y - 2000) * 365 + (y - 1997) / 4 := IntWalk.i64_in _ (by omega)
  have q4w : wrap64 ((y - 2000) * 365 + (y - 1997) / 4) = (y - 2000) * 365 + (y - 1997) / 4 := by unfold wrap64; omega
  have q5 : IntKind.i64.wrap ((y - 2000) * 365 + (y - 1997) / 4 + 1) = (y - 2000) * 365 + (y - 1997) / 4 + 1 := IntWalk.i64_in _ (by omega)
  have q5w : wrap64 ((y - 2000) * 365 + (y - 1997) / 4 + 1) = (y - 2000) * 365 + (y - 1997) / 4 + 1 := by unfold wrap64; omega
  have q6 : IntKind.i64.wrap ((y - 2000) * 365 + (y - 1997) / 4 + 1 - 1) = (y - 2000) * 365 + (y - 1997) / 4 + 1 - 1 := IntWalk.i64_in _ (by omega)
  have q6w : wrap64 ((y - 2000) * 365 + (y - 1997) / 4 + 1 - 1) = (y - 2000) * 365 + (y - 1997) / 4 + 1 - 1 := by unfold wrap64; omega
  have Hy := Lib.hid hy
  have Hm := Lib.hid hm
  have HE := Lib.hid (mE_year Y)
  clear hy hm
  go_enter Tryd.func61, Tryd.ntmps61
  go_wp2_with fail
  go_loopg [7, 8] k (fun gk vd vm wr => ∃ (j : Nat) (d mm : Int), j ≤ k ∧ gk + j = k ∧ vd = .int .i64 d ∧ vm = .int .i64 mm ∧ Hid (mm = (j : Int) + 1) ∧ Hid (d = ((mE (12 * Y + j) : Nat) : Int)) ∧ w = wr)
  case atStart => exact ⟨0, _, _, by omega, by omega, rfl, rfl, Lib.hid (by omega), Lib.hid (by rw [Nat.add_zero, HE.out]; have := Hy.out; omega), rfl⟩
  case round =>
    clear q1 q2 q3 q3b q4 q5 q6 q7 q1w q2w q3w q4w q5w q6w q7w wd
    obtain ⟨j, d, mm, hj, hgk, rfl, rfl, Hmm, Hd, rfl⟩ := hrel
    have Hgk := Lib.hid hgk
    clear hgk
    by_cases hlt : j < k
    · have hd : mm < m := by have := Hmm.out; have := Hm.out; omega
      have hml := monthLength_any (w := w) Hy.out hY Hmm.out (by omega)
      have Hml := Lib.hid hml
      have hb := ml_bd (12 * Y + j)
      rw [ml_at Y j (by omega)] at hb
      have hEb : mE (12 * Y + j) ≤ mE (12 * 1001) := mE_mono (by omega)
      rw [mE_year] at hEb
      have HS : Hid (d + ((mlen Y j : Nat) : Int) = ((mE (12 * Y + (j + 1)) : Nat) : Int)) := Lib.hid (by
        rw [Hd.out, ← Nat.add_assoc, mE_succ, ml_at Y j (by omega)]; omega)
      have hdb : 0 ≤ d ∧ d ≤ 1000000 := by have := Hd.out; omega
      generalize mlen Y j = mk at *
      have qa : IntKind.i64.wrap (d + (mk : Int)) = d + (mk : Int) := IntWalk.i64_in _ (by omega)
      have qb : IntKind.i64.wrap (mm + 1) = mm + 1 := IntWalk.i64_in _ (by have := Hmm.out; omega)
      clear hml hEb
      go_wp2_with fail
      refine Hml.out.mono ?_
      rintro e w' ⟨rfl, rfl⟩
      go_wp2_with fail
      have hgk := Hgk.out
      go_roundg (gk - 1)
      case rel => exact ⟨j + 1, _, _, by omega, by omega, rfl, rfl, Lib.hid (by have := Hmm.out; omega), HS, rfl⟩
      case measure => omega
    · have hje : j = k := by omega
      subst hje
      have hd : ¬ mm < m := by have := Hmm.out; have := Hm.out; omega
      go_wp2_with fail
      go_ret
      exact ⟨ret_int Hd.out, rfl⟩
end Go.Proofs.YtaojhfbcdoicpaaDoor
