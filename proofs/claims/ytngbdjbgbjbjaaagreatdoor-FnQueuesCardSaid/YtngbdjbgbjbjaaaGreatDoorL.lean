/- Contracts of sums, greatest numbers, first places and parts of slices of int64. -/
import Derived.Test.YtngbdjbgbjbjaaaGreatDoorS
namespace Go.Proofs.YtngbdjbgbjbjaaaGreatDoor
open Go.RowKit
set_option maxRecDepth 100000
set_option linter.unusedVariables false

/-! ### plain facts -/
theorem sum_take_succ {zs : List Int} {k : Nat} (h : k < zs.length) : (zs.take (k + 1)).sum = (zs.take k).sum + nth zs k := by
  rw [take_succ_nth h]; simp
theorem sum_bd {zs : List Int} (h : ∀ z ∈ zs, 0 ≤ z ∧ z ≤ 1000000000) (k : Nat) : 0 ≤ (zs.take k).sum ∧ (zs.take k).sum ≤ k * 1000000000 := by
  induction k with
  | zero => simp
  | succ k ih =>
    by_cases hk : k < zs.length
    · have hz := h _ (nth_mem hk)
      rw [sum_take_succ hk]; omega
    · have e : zs.take (k + 1) = zs.take k := by rw [List.take_of_length_le (by omega), List.take_of_length_le (by omega)]
      rw [e]; omega
/-- Of the first k numbers the first place of a greatest one. -/
def bestTo (zs : List Int) : Nat → Nat
  | 0 => 0
  | k + 1 => if nth zs (bestTo zs k) < nth zs k then k else bestTo zs k
theorem bestTo_succ (zs : List Int) (k : Nat) : bestTo zs (k + 1) = if nth zs (bestTo zs k) < nth zs k then k else bestTo zs k := rfl
theorem bestTo_le (zs : List Int) (k : Nat) : bestTo zs k ≤ k - 1 := by
  induction k with
  | zero => simp [bestTo]
  | succ k ih => rw [bestTo_succ]; split <;> omega
theorem bestTo_spec (zs : List Int) (k : Nat) : (∀ j, j < k → nth zs j ≤ nth zs (bestTo zs k)) ∧ (∀ j, j < bestTo zs k → nth zs j < nth zs (bestTo zs k)) := by
  induction k with
  | zero => simp [bestTo]
  | succ k ih =>
    rw [bestTo_succ]
    have hle := bestTo_le zs k
    split
    · rename_i h
      refine ⟨fun j hj => ?_, fun j hj => ?_⟩
      · by_cases e : j = k
        · subst e; exact Int.le_refl _
        · have := ih.1 j (by omega); omega
      · have := ih.1 j hj; omega
    · rename_i h
      refine ⟨fun j hj => ?_, ih.2⟩
      by_cases e : j = k
      · subst e; omega
      · exact ih.1 j (by omega)
/-- The greatest number, and its first place, of a list that is not empty. -/
def mostOf (zs : List Int) : Int := nth zs (bestTo zs zs.length)
def placeOf (zs : List Int) : Nat := bestTo zs zs.length
theorem placeOf_lt {zs : List Int} (h : 0 < zs.length) : placeOf zs < zs.length := by
  have := bestTo_le zs zs.length; unfold placeOf; omega
theorem findI_most {zs : List Int} (h : 0 < zs.length) : findI (fun z => mostOf zs == z) zs = placeOf zs := by
  refine findI_some (placeOf_lt h) ?_ (by simp [mostOf, placeOf])
  rw [List.any_eq_false]
  intro z hz
  obtain ⟨j, hj, rfl⟩ := List.mem_take_iff_getElem.1 hz
  have := (bestTo_spec zs zs.length).2 j (by unfold placeOf at hj; omega)
  rw [← nth_eq (by have := placeOf_lt h; omega)]
  simp [mostOf]; omega

theorem total_any (A : Option Addr) (n c B : Nat) (zs : List Int) (w : World) (h : Ints w B A n zs) (hn : n ≤ 1048576) (hz : ∀ z ∈ zs, 0 ≤ z ∧ z ≤ 1000000000) :
    Calls Tryz.prog 29 #[.slice A n c] w fun e w' => e = .returned (.int .i64 zs.sum) ∧ w = w' := by
  have HL := Lib.hid h.len
  have Hz := Lib.hid hz
  clear hz
  go_enter Tryz.func29, Tryz.ntmps29
  go_wp2_with fail
  go_loopg [3, 8] n (fun gk s i wr => ∃ k : Nat, k ≤ n ∧ gk + k = n ∧ i = .int .i64 k ∧ s = .int .i64 (zs.take k).sum ∧ wr = w)
  case atStart => exact ⟨0, Nat.zero_le _, rfl, rfl, rfl, rfl⟩
  case round =>
    obtain ⟨k, hk, hgk, rfl, rfl, rfl⟩ := hrel
    have Hgk := Lib.hid hgk
    clear hgk
    by_cases hlt : k < n
    · obtain ⟨ad, rfl, hbl, hc⟩ := h.at_ hlt
      have hb := sum_bd Hz.out k
      have hb' := Hz.out _ (nth_mem (zs := zs) (k := k) (by rw [HL.out]; omega))
      have Hs := Lib.hid (sum_take_succ (zs := zs) (k := k) (by rw [HL.out]; omega))
      go_wp2
      have hgk := Hgk.out
      go_roundg (gk - 1)
      case rel => exact ⟨k + 1, by omega, by omega, by go_num, by rw [Hs.out], rfl⟩
      case measure => omega
    · have Hke := Lib.hid (show k = n by omega)
      go_wp2
      go_ret
      exact ⟨ret_int (by rw [List.take_of_length_le (by rw [HL.out, Hke.out]; exact Nat.le_refl _)]), rfl⟩
theorem size_int_any (A : Option Addr) (n c : Nat) (w : World) (hn : n ≤ 140737488351232) :
    Calls Tryz.prog 28 #[.slice A n c] w fun e w' => e = .returned (.int .i64 n) ∧ w = w' := by
  go_enter Tryz.func28, Tryz.ntmps28
  go_wp2
  go_ret
  exact ⟨rfl, rfl⟩
theorem max_any (A : Option Addr) (n c B : Nat) (zs : List Int) (w : World) (h : Ints w B A n zs) (hn : n ≤ 140737488351232) (h0 : 0 < n) :
    Calls Tryz.prog 26 #[.slice A n c] w fun e w' => e = .returned (.int .i64 (mostOf zs)) ∧ w = w' := by
  have HL := Lib.hid h.len
  obtain ⟨ad, rfl, hbl, hc0⟩ := h.at_ h0
  rw [addr_add_zero] at hc0
  have hne : ¬ ((n : Int) < 1) := by omega
  go_enter Tryz.func26, Tryz.ntmps26
  go_wp2_with fail
  go_loopg [3, 4] (n - 1) (fun gk s i wr => ∃ k : Nat, 1 ≤ k ∧ k ≤ n ∧ gk + k = n ∧ i = .int .i64 k ∧ s = .int .i64 (nth zs (bestTo zs k)) ∧ wr = w)
  case atStart => exact ⟨1, by omega, by omega, by omega, rfl, by simp [bestTo], rfl⟩
  case round =>
    obtain ⟨k, hk1, hk, hgk, rfl, rfl, rfl⟩ := hrel
    have Hgk := Lib.hid hgk
    clear hgk
    by_cases hlt : k < n
    · obtain ⟨ad, e, hbl, hc⟩ := h.at_ hlt
      injection e with e
      subst e
      have Hs := Lib.hid (bestTo_succ zs k)
      go_wp2
      all_goals
        have hgk := Hgk.out
        go_roundg (gk - 1)
        case rel => exact ⟨k + 1, by omega, by omega, by omega, by go_num, by rw [Hs.out]; first | rw [if_pos (by omega)] | rw [if_neg (by omega)], rfl⟩
        case measure => omega
    · have Hke := Lib.hid (show k = n by omega)
      go_wp2
      go_ret
      exact ⟨ret_int (by rw [mostOf, HL.out, Hke.out]), rfl⟩
theorem index_any (A : Option Addr) (n c B : Nat) (zs : List Int) (v : Int) (w : World) (h : Ints w B A n zs) (hn : n ≤ 140737488351232) :
    Calls Tryz.prog 27 #[.slice A n c, .int .i64 v] w fun e w' => e = .returned (.int .i64 (findI (fun z => v == z) zs)) ∧ w = w' := by
  have HL := Lib.hid h.len
  go_enter Tryz.func27, Tryz.ntmps27
  go_wp2_with fail
  go_loopg [8] n (fun gk i wr => ∃ k : Nat, k ≤ n ∧ gk + k = n ∧ i = .int .i64 k ∧ wr = w ∧ (zs.take k).any (fun z => v == z) = false)
  case atStart => exact ⟨0, Nat.zero_le _, rfl, rfl, rfl, rfl⟩
  case round =>
    obtain ⟨k, hk, hgk, rfl, rfl, hall⟩ := hrel
    have Hgk := Lib.hid hgk
    have Hall := Lib.hid hall
    clear hgk hall
    by_cases hlt : k < n
    · obtain ⟨ad, rfl, hbl, hc⟩ := h.at_ hlt
      go_wp2_with fail
      · have h' : v = nth zs k := beq_iff_eq.1 (by assumption)
        go_ret
        exact ⟨ret_int (by rw [findI_some (f := fun z => v == z) (by rw [HL.out]; omega) Hall.out (by simp [h'])]), rfl⟩
      · have hf' : (v == nth zs k) = false := by first | assumption | (simp; omega)
        have hgk := Hgk.out
        go_roundg (gk - 1)
        case rel => exact ⟨k + 1, by omega, by omega, by go_num, rfl, by rw [any_take_succ (by rw [HL.out]; omega), Hall.out, hf']; rfl⟩
        case measure => omega
    · have Hn : Hid (zs.any (fun z => v == z) = false) := by
        have := Hall.out
        rwa [List.take_of_length_le (by rw [HL.out]; omega)] at this
      go_wp2
      go_ret
      exact ⟨ret_int (by rw [findI_none Hn.out]), rfl⟩
theorem l20Most_any (A : Option Addr) (n c B : Nat) (zs : List Int) (w : World) (h : Ints w B A n zs) (hn : n ≤ 140737488351232) (h0 : 0 < n) :
    Calls Tryz.prog 38 #[.slice A n c] w fun e w' => e = .returned (.tuple #[.int .i64 (mostOf zs), .int .i64 (placeOf zs)]) ∧ ∃ d, w' = w.drewN d := by
  have HL := Lib.hid h.len
  go_enter Tryz.func38, Tryz.ntmps38
  go_wp2_with fail
  go_loopg [4, 5] n (fun gk b i wr => ∃ k : Nat, k ≤ n ∧ gk + k = n ∧ i = .int .i64 k ∧ b = .int .i64 (bestTo zs k) ∧ ∃ d, wr = w.drewN d)
  case atStart => exact ⟨0, by omega, by omega, rfl, rfl, 0, rfl⟩
  case round =>
    obtain ⟨k, hk, hgk, rfl, rfl, d, rfl⟩ := hrel
    have Hgk := Lib.hid hgk
    clear hgk
    have hbl := bestTo_le zs k
    by_cases hlt : k < n
    · obtain ⟨ad, rfl, hbl, hc⟩ := h.at_ hlt
      obtain ⟨ad', e, hbl', hc'⟩ := h.at_ (k := bestTo zs k) (by omega)
      injection e with e
      subst e
      have Hs := Lib.hid (bestTo_succ zs k)
      have hk0 : (0 : Int) ≤ (k : Int) := by omega
      have hk1 : (k : Int) < (n : Int) := by omega
      have hj0 : (0 : Int) ≤ (bestTo zs k : Int) := by omega
      have hj1 : (bestTo zs k : Int) < (n : Int) := by omega
      go_wp2_with fail
      go_quiet (fail)
      go_wp2
      all_goals
        have hgk := Hgk.out
        go_roundg (gk - 1)
        case rel => exact ⟨k + 1, by omega, by omega, by go_num, by rw [Hs.out]; first | rw [if_pos (by omega)] | rw [if_neg (by omega)], _, rfl⟩
        case measure => omega
    · have Hke := Lib.hid (show k = n by omega)
      obtain ⟨ad', rfl, hbl', hc'⟩ := h.at_ (k := bestTo zs k) (by omega)
      go_wp2
      go_ret2
      exact ⟨ret2 (int_eq (by rw [mostOf, HL.out, Hke.out])) (int_eq (by rw [placeOf, HL.out, Hke.out])), _, rfl⟩
end Go.Proofs.YtngbdjbgbjbjaaaGreatDoor
