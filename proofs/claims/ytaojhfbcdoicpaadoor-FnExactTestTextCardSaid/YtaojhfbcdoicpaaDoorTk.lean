/- Days and dates: the reference's dates; texts of dates, both sides. -/
import Derived.Test.YtaojhfbcdoicpaaDoorTj
import Derived.Test.YtaojhfbcdoicpaaDoorTe
namespace Go.Proofs.YtaojhfbcdoicpaaDoor
open Go.RowKit
set_option maxRecDepth 100000
set_option linter.unusedVariables false
set_option linter.unusedSimpArgs false
attribute [local irreducible] mE ml

theorem lens_cell (w : World) (t : TypeId) (Y : Nat) {k : Nat} (hk : k < 12) (hne : k = 1 → ¬ Y % 4 = 0) : (w.alloc (.cells #[.int .i64 31, .int .i64 28, .int .i64 31, .int .i64 30, .int .i64 31, .int .i64 30, .int .i64 31, .int .i64 31, .int .i64 30, .int .i64 31, .int .i64 30, .int .i64 31] t)).cell? ⟨w.heap.size, k, none⟩ = some (.int .i64 ((mlen Y k : Nat) : Int)) := by
  match k, hk with
  | 0, _ => simp [mlen]
  | 1, _ => have := hne rfl; simp [mlen, this]
  | 2, _ => simp [mlen]
  | 3, _ => simp [mlen]
  | 4, _ => simp [mlen]
  | 5, _ => simp [mlen]
  | 6, _ => simp [mlen]
  | 7, _ => simp [mlen]
  | 8, _ => simp [mlen]
  | 9, _ => simp [mlen]
  | 10, _ => simp [mlen]
  | 11, _ => simp [mlen]
set_option maxHeartbeats 1000000 in
theorem l02Length_any {y m : Int} {Y k : Nat} {w : World} (hy : y = 2000 + (Y : Int)) (hY : Y ≤ 1000) (hm : m = (k : Int) + 1) (hk : k < 12) :
    Calls Tryd.prog 66 #[.int .i64 y, .int .i64 m] w fun e w' => e = .returned (.int .i64 ((mlen Y k : Nat) : Int)) ∧ Below w.heap.size w w' := by
  have hy0 : 0 ≤ y := by omega
  have Hy := Lib.hid hy
  have pre : Below w.heap.size w (w.alloc (.cells #[.int .i64 31, .int .i64 28, .int .i64 31, .int .i64 30, .int .i64 31, .int .i64 30, .int .i64 31, .int .i64 31, .int .i64 30, .int .i64 31, .int .i64 30, .int .i64 31] 2)) := (Below.refl _ _).alloc (Nat.le_refl _) _
  clear hy
  by_cases h29 : k = 1 ∧ Y % 4 = 0
  · obtain ⟨hk1, h4⟩ := h29
    subst hk1
    obtain rfl : m = 2 := by omega
    have Hr : Hid (mlen Y 1 = 29) := Lib.hid (by simp [mlen, h4])
    have hq : ((y % 4) == 0) = true := by rw [beq_iff_eq]; have := Hy.out; omega
    have hq2 : y % 4 = 0 := by have := Hy.out; omega
    clear h4 hm
    go_enter Tryd.func66, Tryd.ntmps66
    go_wp2_with fail
    go_ret
    exact ⟨ret_int (by rw [Hr.out]; rfl), pre⟩
  · have hcell := lens_cell w 2 Y hk (fun e x => h29 ⟨e, x⟩)
    have hk0 : (0 : Int) ≤ (k : Int) := by omega
    have hk12 : (k : Int) < 12 := by omega
    have qm : IntKind.i64.wrap (m - 1) = (k : Int) := by rw [IntWalk.i64_in _ (by omega)]; omega
    by_cases hk1 : k = 1
    · subst hk1
      obtain rfl : m = 2 := by omega
      have h4 : ¬ Y % 4 = 0 := fun x => h29 ⟨rfl, x⟩
      have hq : ((y % 4) == 0) = false := by rw [beq_eq_false_iff_ne]; have := Hy.out; omega
      have hq2 : ¬ y % 4 = 0 := by have := Hy.out; omega
      generalize mlen Y 1 = ME at *
      clear h29 h4 hm
      go_enter Tryd.func66, Tryd.ntmps66
      go_wp2_with fail
      go_ret
      exact ⟨rfl, pre⟩
    · have hm2 : (m == 2) = false := by rw [beq_eq_false_iff_ne]; omega
      have hm3 : ¬ m = 2 := by omega
      generalize mlen Y k = ME at *
      clear h29 hm
      go_enter Tryd.func66, Tryd.ntmps66
      go_wp2_with fail
      go_ret
      exact ⟨rfl, pre⟩
set_option maxHeartbeats 2000000 in
theorem l02Date_any {D : Nat} {w : World} (hD : D ≤ 36524) :
    Calls Tryd.prog 59 #[.int .i64 (D : Int)] w fun e w' => ∃ i, IsD D i ∧ e = .returned (.tuple #[.int .i64 (yI i : Int), .int .i64 (mI i : Int), .int .i64 (((D - mE i + 1 : Nat) : Nat) : Int)]) ∧ Below w.heap.size w w' := by
  go_enter Tryd.func59, Tryd.ntmps59
  go_wp2_with fail
  go_loopg [0, 5, 6] D (fun gk vd vy vm wr => ∃ (i r : Nat) (y m : Int), gk = r ∧ vd = .int .i64 (r : Int) ∧ vy = .int .i64 y ∧ vm = .int .i64 m ∧ Hid (y = 2000 + ((i / 12 : Nat) : Int)) ∧ Hid (m = ((i % 12 : Nat) : Int) + 1) ∧ Hid (mE i + r = D) ∧ Below w.heap.size w wr)
  case atStart => exact ⟨0, D, _, _, rfl, rfl, rfl, rfl, Lib.hid rfl, Lib.hid rfl, Lib.hid (by rw [mE_zero, Nat.zero_add]), Below.refl _ _⟩
  case round =>
    obtain ⟨i, r, y, m, hgk, rfl, rfl, rfl, Hy, Hm, HE, hb⟩ := hrel
    have Hgk := Lib.hid hgk
    clear hgk
    have Hi1200 : Hid (i < 1200) := Lib.hid (mE_lt (D := D) (by have := HE.out; omega) hD)
    have Hlen : Hid (∀ W, Below w.heap.size w W → Calls Tryd.prog 66 #[.int .i64 y, .int .i64 m] W fun e w' => e = .returned (.int .i64 ((ml i : Nat) : Int)) ∧ Below w.heap.size w w') := Lib.hid (fun W hW => by
      have h := l02Length_any (w := W) (Y := i / 12) (k := i % 12) Hy.out (by have := Hi1200.out; omega) Hm.out (by omega)
      have e : mlen (i / 12) (i % 12) = ml i := by have := ml_at (i / 12) (i % 12) (by omega); rw [show 12 * (i / 12) + i % 12 = i by omega] at this; exact this.symm
      rw [e] at h
      exact h.mono fun e w' ⟨he, hb2⟩ => ⟨he, hW.trans (hb2.mono hW.size)⟩)
    have hbd := ml_bd i
    have Hnext := Lib.hid (mE_succ i)
    have hrD : r ≤ 36524 := by have := HE.out; omega
    by_cases hgo : ml i ≤ r
    · have HE2 : Hid (mE (i + 1) + (r - ml i) = D) := Lib.hid (by have := HE.out; rw [Hnext.out]; omega)
      have hcast : (r : Int) - ((ml i : Nat) : Int) = ((r - ml i : Nat) : Int) := by omega
      have qd : IntKind.i64.wrap ((r : Int) - ((ml i : Nat) : Int)) = ((r - ml i : Nat) : Int) := by rw [IntWalk.i64_in _ (by omega)]; exact hcast
      have hdec : r - ml i < r := by omega
      have hge : ((ml i : Nat) : Int) ≤ (r : Int) := by omega
      have hged : decide (ml i ≤ r) = true := decide_eq_true hgo
      have HR : Hid (r - ml i < r) := Lib.hid hdec
      clear hcast hgo hdec
      obtain ⟨r2, hr2⟩ : ∃ r2, r - ml i = r2 := ⟨_, rfl⟩
      rw [hr2] at HE2 qd HR
      clear hr2
      generalize ml i = mz at *
      have qm : IntKind.i64.wrap (m + 1) = m + 1 := IntWalk.i64_in _ (by have := Hm.out; omega)
      have qy : IntKind.i64.wrap (y + 1) = y + 1 := IntWalk.i64_in _ (by have := Hy.out; have := Hi1200.out; omega)
      go_wp2_with fail
      refine (Hlen.out _ hb).mono ?_
      rintro e w2 ⟨rfl, b2⟩
      clear hb
      go_wp2_with fail
      refine (Hlen.out _ b2).mono ?_
      rintro e w3 ⟨rfl, b3⟩
      clear b2
      by_cases h12 : i % 12 = 11
      · have hm12 : 12 < m + 1 := by have := Hm.out; omega
        go_wp2_with fail
        have hgk := Hgk.out
        go_roundg r2
        case rel => exact ⟨i + 1, r2, _, _, rfl, rfl, rfl, rfl, Lib.hid (by have := Hy.out; omega), Lib.hid (by omega), HE2, b3⟩
        case measure => have := HR.out; omega
      · have hm12 : ¬ 12 < m + 1 := by have := Hm.out; omega
        go_wp2_with fail
        have hgk := Hgk.out
        go_roundg r2
        case rel => exact ⟨i + 1, r2, _, _, rfl, rfl, rfl, rfl, Lib.hid (by have := Hy.out; omega), Lib.hid (by have := Hm.out; omega), HE2, b3⟩
        case measure => have := HR.out; omega
    · have HI : Hid (IsD D i) := Lib.hid ⟨by have := HE.out; omega, by have := HE.out; rw [Hnext.out]; omega⟩
      have e1 : Hid (y = ((yI i : Nat) : Int)) := Lib.hid (by have := Hy.out; unfold yI; omega)
      have e2 : Hid (m = ((mI i : Nat) : Int)) := Lib.hid (by have := Hm.out; unfold mI; omega)
      have e3 : Hid ((r : Int) + 1 = ((D - mE i + 1 : Nat) : Int)) := Lib.hid (by have := HE.out; omega)
      have hfin : Hid (∃ i, IsD D i ∧ Ending.returned (.tuple #[.int .i64 y, .int .i64 m, .int .i64 ((r : Int) + 1)]) = Ending.returned (.tuple #[.int .i64 (yI i : Int), .int .i64 (mI i : Int), .int .i64 (((D - mE i + 1 : Nat) : Nat) : Int)])) := Lib.hid ⟨i, HI.out, by rw [← e1.out, ← e2.out, ← e3.out]⟩
      have q1 : IntKind.i64.wrap ((r : Int) + 1) = (r : Int) + 1 := IntWalk.i64_in _ (by omega)
      have hge : ¬ ((ml i : Nat) : Int) ≤ (r : Int) := by omega
      have hged : decide (ml i ≤ r) = false := decide_eq_false hgo
      generalize ml i = mz at *
      clear hgo
      go_wp2_with fail
      refine (Hlen.out _ hb).mono ?_
      rintro e w2 ⟨rfl, b2⟩
      go_wp2_with fail
      obtain ⟨i2, hi1, hi2⟩ := hfin.out
      go_ret3
      exact ⟨i2, hi1, hi2, b2⟩
end Go.Proofs.YtaojhfbcdoicpaaDoor
