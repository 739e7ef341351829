/- Contracts of sums, greatest numbers, first places and parts of slices of int64. -/
import Derived.Test.YtickepianllblaaGreatDoorS
namespace Go.Proofs.YtickepianllblaaGreatDoor
open Go.RowKit
set_option maxRecDepth 100000
set_option linter.unusedVariables false

/-! ### plain facts -/
theorem sum_take_succ {zs : List Int} {k : Nat} (h : k < zs.length) : (zs.take (k + 1)).sum = (zs.take k).sum + nth zs k := by
  rw [take_succ_nth h]; simp
theorem sum_bd {zs : List Int} (h : ∀ z ∈ zs, 0 ≤ z ∧ z ≤ 1000000000) (k : Nat) : 0 ≤ (zs.take k).sum ∧ (zs.take k).sum ≤ k * 1000000000 := by
  induction k with
  | zero => simp
  | succ k ih =>
    by_cases hk : k < zs.length
    · have hz := h _ (nth_mem hk)
      rw [sum_take_succ hk]; omega
    · have e : zs.take (k + 1) = zs.take k := by rw [List.take_of_length_le (by omega), List.take_of_length_le (by omega)]
      rw [e]; omega
/-- Of the first k numbers the first place of a greatest one. -/
def bestTo (zs : List Int) : Nat → Nat
  | 0 => 0
  | k + 1 => if nth zs (bestTo zs k) < nth zs k then k else bestTo zs k
theorem bestTo_succ (zs : List Int) (k : Nat) : bestTo zs (k + 1) = if nth zs (bestTo zs k) < nth zs k then k else bestTo zs k := rfl
theorem bestTo_le (zs : List Int) (k : Nat) : bestTo zs k ≤ k - 1 := by
  induction k with
  | zero => simp [bestTo]
  | succ k ih => rw [bestTo_succ]; split <;> omega
theorem bestTo_spec (zs : List Int) (k : Nat) : (∀ j, j < k → nth zs j ≤ nth zs (bestTo zs k)) ∧ (∀ j, j < bestTo zs k → nth zs j < nth zs (bestTo zs k)) := by
  induction k with
  | zero => simp [bestTo]
  | succ k ih =>
    rw [bestTo_succ]
    have hle := bestTo_le zs k
    split
    · rename_i h
      refine ⟨fun j hj => ?_, fun j hj => ?_⟩
      · by_cases e : j = k
        · subst e; exact Int.le_refl _
        · have := ih.1 j (by omega); omega
      · have := ih.1 j hj; omega
    · rename_i h
      refine ⟨fun j hj => ?_, ih.2⟩
      by_cases e : j = k
      · subst e; omega
      · exact ih.1 j (by omega)
/-- The greatest number, and its first place, of a list that is not empty. -/
def mostOf (zs : List Int) : Int := nth zs (bestTo zs zs.length)
def placeOf (zs : List Int) : Nat := bestTo zs zs.length
theorem placeOf_lt {zs : List Int} (h : 0 < zs.length) : placeOf zs < zs.length := by
  have := bestTo_le zs zs.length; unfold placeOf; omega
theorem findI_most {zs : List Int} (h : 0 < zs.length) : findI (fun z => mostOf zs == z) zs = placeOf zs := by
  refine findI_some (placeOf_lt h) ?_ (by simp [mostOf, placeOf])
  rw [List.any_eq_false]
  intro z hz
  obtain ⟨j, hj, rfl⟩ := List.mem_take_iff_getElem.1 hz
  have := (bestTo_spec zs zs.length).2 j (by unfold placeOf at hj; omega)
  rw [← nth_eq (by have := placeOf_lt h; omega)]
  simp [mostOf]; omega

end Go.Proofs.YtickepianllblaaGreatDoor
