/- Contracts of sums, greatest numbers, first places and parts of slices of int64. -/
import Derived.Test.YtmiilnddfmeldaaS
namespace Go.Proofs.Ytmiilnddfmeldaa
open Go.RowKit
set_option maxRecDepth 100000
set_option linter.unusedVariables false

/-! ### plain facts -/
theorem sum_take_succ {zs : List Int} {k : Nat} (h : k < zs.length) : (zs.take (k + 1)).sum = (zs.take k).sum + nth zs k := by
  rw [take_succ_nth h]; simp
theorem sum_bd {zs : List Int} (h : ∀ z ∈ zs, 0 ≤ z ∧ z ≤ 1000000000) (k : Nat) : 0 ≤ (zs.take k).sum ∧ (zs.take k).sum ≤ k * 1000000000 := by
  induction k with
  | zero => simp
  | succ k ih =>
    by_cases hk : k < zs.length
    · have hz := h _ (nth_mem hk)
      rw [sum_take_succ hk]; omega
    · have e : zs.take (k + 1) = zs.take k := by rw [List.take_of_length_le (by omega), List.take_of_length_le (by omega)]
      rw [e]; omega
/-- Of the first k numbers the first place of a greatest one. -/
def bestTo (zs : List Int) : Nat → Nat
  | 0 => 0
  | k + 1 => if nth zs (bestTo zs k) < nth zs k then k else bestTo zs k
theorem bestTo_succ (zs : List Int) (k : Nat) : bestTo zs (k + 1) = if nth zs (bestTo zs k) < nth zs k then k else bestTo zs k := rfl
theorem bestTo_le (zs : List Int) (k : Nat) : bestTo zs k ≤ k - 1 := by
  induction k with
  | zero => simp [bestTo]
  | succ k ih => rw [bestTo_succ]; split <;> omega
theorem bestTo_spec (zs : List Int) (k : Nat) : (∀ j, j < k → nth zs j ≤ nth zs (bestTo zs k)) ∧ (∀ j, j < bestTo zs k → nth zs j < nth zs (bestTo zs k)) := by
  induction k with
  | zero => simp [bestTo]
  | succ k ih =>
    rw [bestTo_succ]
    have hle := bestTo_le zs k
    split
    · rename_i h
      refine ⟨fun j hj => ?_, fun j hj => ?_⟩
      · by_cases e : j = k
        · subst e; exact Int.le_refl _
        · have := ih.1 j (by omega); omega
      · have := ih.1 j hj; omega
    · rename_i h
      refine ⟨fun j hj => ?_, ih.2⟩
      by_cases e : j = k
      · subst e; omega
      · exact ih.1 j (by omega)
/-- The greatest number, and its first place, of a list that is not empty. -/
def mostOf (zs : List Int) : Int := nth zs (bestTo zs zs.length)
def placeOf (zs : List Int) : Nat := bestTo zs zs.length
theorem placeOf_lt {zs : List Int} (h : 0 < zs.length) : placeOf zs < zs.length := by
  have := bestTo_le zs zs.length; unfold placeOf; omega
theorem findI_most {zs : List Int} (h : 0 < zs.length) : findI (fun z => mostOf zs == z) zs = placeOf zs := by
  refine findI_some (placeOf_lt h) ?_ (by simp [mostOf, placeOf])
  rw [List.any_eq_false]
  intro z hz
  obtain ⟨j, hj, rfl⟩ := List.mem_take_iff_getElem.1 hz
  have := (bestTo_spec zs zs.length).2 j (by unfold placeOf at hj; omega)
  rw [← nth_eq (by have := placeOf_lt h; omega)]
  simp [mostOf]; omega

theorem total_any (A : Option Addr) (n c B : Nat) (zs : List Int) (w : World) (h : Ints w B A n zs) (hn : n ≤ 1048576) (hz : ∀ z ∈ zs, 0 ≤ z ∧ z ≤ 1000000000) :
    Calls Try.prog 27 #[.slice A n c] w fun e w' => e = .returned (.int .i64 zs.sum) ∧ w = w' := by
  have HL := Lib.hid h.len
  have Hz := Lib.hid hz
  clear hz
  go_enter Try.func27, Try.ntmps27
  go_wp2_with fail
  go_loopg [3, 8] n (fun gk s i wr => ∃ k : Nat, k ≤ n ∧ gk + k = n ∧ i = .int .i64 k ∧ s = .int .i64 (zs.take k).sum ∧ wr = w)
  case atStart => exact ⟨0, Nat.zero_le _, rfl, rfl, rfl, rfl⟩
  case round =>
    obtain ⟨k, hk, hgk, rfl, rfl, rfl⟩ := hrel
    have Hgk := Lib.hid hgk
    clear hgk
    by_cases hlt : k < n
    · obtain ⟨ad, rfl, hbl, hc⟩ := h.at_ hlt
      have hb := sum_bd Hz.out k
      have hb' := Hz.out _ (nth_mem (zs := zs) (k := k) (by rw [HL.out]; omega))
      have Hs := Lib.hid (sum_take_succ (zs := zs) (k := k) (by rw [HL.out]; omega))
      go_wp2
      have hgk := Hgk.out
      go_roundg (gk - 1)
      case rel => exact ⟨k + 1, by omega, by omega, by go_num, by rw [Hs.out], rfl⟩
      case measure => omega
    · have Hke := Lib.hid (show k = n by omega)
      go_wp2
      go_ret
      exact ⟨ret_int (by rw [List.take_of_length_le (by rw [HL.out, Hke.out]; exact Nat.le_refl _)]), rfl⟩
theorem l20Sum_any (A : Option Addr) (n c B : Nat) (zs : List Int) (w : World) (h : Ints w B A n zs) (hn : n ≤ 1048576) (hz : ∀ z ∈ zs, 0 ≤ z ∧ z ≤ 1000000000) :
    Calls Try.prog 30 #[.slice A n c] w fun e w' => e = .returned (.int .i64 zs.sum) ∧ w = w' := by
  have HL := Lib.hid h.len
  have Hz := Lib.hid hz
  clear hz
  go_enter Try.func30, Try.ntmps30
  go_wp2_with fail
  go_loopg [3, 4] n (fun gk s i wr => ∃ k : Nat, k ≤ n ∧ gk + k = n ∧ i = .int .i64 k ∧ s = .int .i64 (zs.take k).sum ∧ wr = w)
  case atStart => exact ⟨0, Nat.zero_le _, rfl, rfl, rfl, rfl⟩
  case round =>
    obtain ⟨k, hk, hgk, rfl, rfl, rfl⟩ := hrel
    have Hgk := Lib.hid hgk
    clear hgk
    by_cases hlt : k < n
    · obtain ⟨ad, rfl, hbl, hc⟩ := h.at_ hlt
      have hb := sum_bd Hz.out k
      have hb' := Hz.out _ (nth_mem (zs := zs) (k := k) (by rw [HL.out]; omega))
      have Hs := Lib.hid (sum_take_succ (zs := zs) (k := k) (by rw [HL.out]; omega))
      go_wp2
      have hgk := Hgk.out
      go_roundg (gk - 1)
      case rel => exact ⟨k + 1, by omega, by omega, by go_num, by rw [Hs.out], rfl⟩
      case measure => omega
    · have Hke := Lib.hid (show k = n by omega)
      go_wp2
      go_ret
      exact ⟨ret_int (by rw [List.take_of_length_le (by rw [HL.out, Hke.out]; exact Nat.le_refl _)]), rfl⟩
theorem size_int_any (A : Option Addr) (n c : Nat) (w : World) (hn : n ≤ 140737488351232) :
    Calls Try.prog 25 #[.slice A n c] w fun e w' => e = .returned (.int .i64 n) ∧ w = w' := by
  go_enter Try.func25, Try.ntmps25
  go_wp2
  go_ret
  exact ⟨rfl, rfl⟩
end Go.Proofs.Ytmiilnddfmeldaa
