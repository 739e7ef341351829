/- Queues: the waits of all people. Plain: no program in sight. -/
import Derived.Test.YtmiilnddfmeldaaVa
namespace Go.Proofs.Ytmiilnddfmeldaa
set_option maxRecDepth 100000
set_option linter.unusedVariables false
set_option linter.unusedSimpArgs false
set_option linter.unusedSectionVars false

/-- The minutes in which those came who came in the first m minutes. -/
def cameTo (zs : List Int) : Nat → List Int
  | 0 => []
  | m + 1 => cameTo zs m ++ List.replicate (nth zs m).toNat ((m : Int) + 1)
theorem cameTo_succ (zs : List Int) (m : Nat) : cameTo zs (m + 1) = cameTo zs m ++ List.replicate (nth zs m).toNat ((m : Int) + 1) := rfl
/-- k more leave in minute t. -/
def leaveTo (came out : List Int) (t : Int) (k : Nat) : List Int := out ++ (List.range k).map fun i => t - nth came (out.length + i)
theorem leaveTo_succ (came out : List Int) (t : Int) (k : Nat) : leaveTo came out t (k + 1) = leaveTo came out t k ++ [t - nth came (out.length + k)] := by
  simp [leaveTo, List.range_succ]
theorem leaveTo_len (came out : List Int) (t : Int) (k : Nat) : (leaveTo came out t k).length = out.length + k := by simp [leaveTo]
theorem leaveTo_zero (came out : List Int) (t : Int) : leaveTo came out t 0 = out := by simp [leaveTo]
def outTo (zs : List Int) (E S : Nat) : Nat → List Int
  | 0 => []
  | m + 1 => if (m + 1) % E = 0 then leaveTo (cameTo zs (m + 1)) (outTo zs E S m) ((m : Int) + 1) (min S ((cameTo zs (m + 1)).length - (outTo zs E S m).length)) else outTo zs E S m
theorem outTo_succ (zs : List Int) (E S m : Nat) : outTo zs E S (m + 1) = if (m + 1) % E = 0 then leaveTo (cameTo zs (m + 1)) (outTo zs E S m) ((m : Int) + 1) (min S ((cameTo zs (m + 1)).length - (outTo zs E S m).length)) else outTo zs E S m := rfl
theorem nth_out {zs : List Int} {k : Nat} (h : zs.length ≤ k) : nth zs k = 0 := by
  simp [nth, List.getD, List.getElem?_eq_none h]
theorem cameTo_len {zs : List Int} (hz : ∀ z ∈ zs, 0 ≤ z ∧ z ≤ 1000) : ∀ m, ((cameTo zs m).length : Int) = (zs.take m).sum := by
  intro m
  induction m with
  | zero => simp [cameTo]
  | succ m ih =>
    rw [cameTo_succ, List.length_append, List.length_replicate]
    by_cases hm : m < zs.length
    · have h1 := hz _ (nth_mem hm)
      rw [sum_take_succ hm]; omega
    · have e : zs.take (m + 1) = zs.take m := by rw [List.take_of_length_le (by omega), List.take_of_length_le (by omega)]
      rw [e, nth_out (by omega)]
      simp only [Int.toNat_zero, Nat.add_zero]
      exact ih
theorem sum_take_mono {zs : List Int} (hz : ∀ z ∈ zs, 0 ≤ z ∧ z ≤ 1000) (m : Nat) : ∀ d, (zs.take m).sum ≤ (zs.take (m + d)).sum := by
  intro d
  induction d with
  | zero => exact Int.le_refl _
  | succ d ih =>
    by_cases hm : m + d < zs.length
    · have h1 := hz _ (nth_mem hm)
      rw [show m + (d + 1) = (m + d) + 1 by omega, sum_take_succ hm]; omega
    · have e : zs.take (m + (d + 1)) = zs.take (m + d) := by rw [List.take_of_length_le (by omega), List.take_of_length_le (by omega)]
      rw [e]; exact ih
theorem sum_top {zs : List Int} (hz : ∀ z ∈ zs, 0 ≤ z ∧ z ≤ 1000) (m : Nat) : (zs.take m).sum ≤ zs.sum := by
  have := sum_take_mono hz m zs.length
  rwa [List.take_of_length_le (i := m + zs.length) (by omega)] at this
theorem sum_ends {zs : List Int} {m : Nat} (h : zs.length ≤ m) : (zs.take m).sum = zs.sum := by rw [List.take_of_length_le h]
theorem sum_bds {zs : List Int} (hz : ∀ z ∈ zs, 0 ≤ z ∧ z ≤ 1000) : 0 ≤ zs.sum ∧ zs.sum ≤ zs.length * 1000 := by
  have key : ∀ k, k ≤ zs.length → 0 ≤ (zs.take k).sum ∧ (zs.take k).sum ≤ k * 1000 := by
    intro k
    induction k with
    | zero => intro _; simp
    | succ k ih =>
      intro hk
      have h1 := hz _ (nth_mem (zs := zs) (k := k) (by omega))
      have h2 := ih (by omega)
      rw [sum_take_succ (by omega)]; omega
  have := key zs.length (Nat.le_refl _)
  rwa [List.take_length] at this
section
variable {zs : List Int} {E S : Nat} (hz : ∀ z ∈ zs, 0 ≤ z ∧ z ≤ 1000) (hE : 1 ≤ E) (hS : 1 ≤ S)
include hz
theorem came_le (m : Nat) : ((cameTo zs m).length : Int) ≤ zs.sum := by rw [cameTo_len hz]; exact sum_top hz m
theorem came_mono (m : Nat) : (cameTo zs m).length ≤ (cameTo zs (m + 1)).length := by
  rw [cameTo_succ, List.length_append]; omega
theorem out_le_came : ∀ m, (outTo zs E S m).length ≤ (cameTo zs m).length := by
  intro m
  induction m with
  | zero => simp [outTo]
  | succ m ih =>
    have hm := came_mono hz m
    rw [outTo_succ]
    split
    · rw [leaveTo_len]; omega
    · omega
theorem out_mono (m : Nat) : (outTo zs E S m).length ≤ (outTo zs E S (m + 1)).length := by
  rw [outTo_succ]
  split
  · rw [leaveTo_len]; omega
  · exact Nat.le_refl _
theorem out_stays {m : Nat} (h : ((outTo zs E S m).length : Int) = zs.sum) : outTo zs E S (m + 1) = outTo zs E S m := by
  rw [outTo_succ]
  have hc := came_le hz (m + 1)
  split
  · have e : (cameTo zs (m + 1)).length - (outTo zs E S m).length = 0 := by omega
    rw [e, Nat.min_zero, leaveTo_zero]
  · rfl
theorem out_stay {m : Nat} (h : ((outTo zs E S m).length : Int) = zs.sum) : ∀ d, outTo zs E S (m + d) = outTo zs E S m := by
  intro d
  induction d with
  | zero => rfl
  | succ d ih =>
    rw [show m + (d + 1) = (m + d) + 1 by omega, out_stays hz (by rw [ih]; exact h), ih]
/-- Whenever all are gone, the waits are the same. -/
theorem out_same {m m' : Nat} (h : ((outTo zs E S m).length : Int) = zs.sum) (h' : ((outTo zs E S m').length : Int) = zs.sum) : outTo zs E S m = outTo zs E S m' := by
  rcases Nat.le_total m m' with hle | hle
  · have := out_stay hz h (m' - m)
    rw [show m + (m' - m) = m' by omega] at this
    exact this.symm
  · have := out_stay hz h' (m - m')
    rwa [show m' + (m - m') = m by omega] at this
include hE hS
theorem mod_next (m : Nat) : ((m + 1) % E = 0 ∧ m % E + 1 = E) ∨ ((m + 1) % E = m % E + 1 ∧ m % E + 1 < E) := by
  have h1 := Nat.mod_lt m (show 0 < E by omega)
  have h2 : (m + 1) % E = (m % E + 1) % E := (Nat.mod_add_mod m E 1).symm
  by_cases h : m % E + 1 = E
  · exact .inl ⟨by rw [h2, h, Nat.mod_self], h⟩
  · exact .inr ⟨by rw [h2, Nat.mod_eq_of_lt (by omega)], by omega⟩
/-- A ride takes one at least who waits. -/
theorem out_more {m : Nat} (hm : zs.length ≤ m) (h : ((outTo zs E S m).length : Int) < zs.sum) (hr : (m + 1) % E = 0) : (outTo zs E S m).length + 1 ≤ (outTo zs E S (m + 1)).length := by
  have hc := cameTo_len hz (m + 1)
  rw [sum_ends (by omega)] at hc
  rw [outTo_succ, if_pos hr, leaveTo_len]
  omega
end
/-- What is still to do behind m minutes. -/
def leftW (zs : List Int) (E S m : Nat) : Nat := (zs.length - m) * 4000 + (zs.sum.toNat - (outTo zs E S m).length) * 61 + (E - m % E)
theorem leftW_less {zs : List Int} {E S : Nat} (hz : ∀ z ∈ zs, 0 ≤ z ∧ z ≤ 1000) (hE : 1 ≤ E) (hE2 : E ≤ 60) (hS : 1 ≤ S) {m : Nat} (h : m < zs.length ∨ ((outTo zs E S m).length : Int) < zs.sum) : leftW zs E S (m + 1) + 1 ≤ leftW zs E S m := by
  unfold leftW
  have hmono := out_mono (E := E) (S := S) hz m
  have hmod := Nat.mod_lt m (show 0 < E by omega)
  have h0 := sum_bds hz
  by_cases hm : m < zs.length
  · have e : zs.length - m = (zs.length - (m + 1)) + 1 := by omega
    rw [e, Nat.add_mul]
    omega
  · have h := h.resolve_left hm
    have e1 : zs.length - m = 0 := by omega
    have e2 : zs.length - (m + 1) = 0 := by omega
    rw [e1, e2]
    rcases mod_next hz hE hS m with ⟨a, b⟩ | ⟨a, b⟩
    · have := out_more hz hE hS (by omega) h a
      rw [a]
      omega
    · rw [a]
      omega
theorem leftW_top {zs : List Int} {E S : Nat} (hz : ∀ z ∈ zs, 0 ≤ z ∧ z ≤ 1000) (hE2 : E ≤ 60) (hl : zs.length ≤ 60) : leftW zs E S 0 ≤ 3900060 := by
  unfold leftW
  have h0 := sum_bds hz
  omega
end Go.Proofs.Ytmiilnddfmeldaa
