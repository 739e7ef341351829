/- Queues: when each person leaves. Plain: no program in sight. -/
import Derived.Test.YtmiilnddfmeldaaVc
namespace Go.Proofs.Ytmiilnddfmeldaa
set_option maxRecDepth 100000
set_option linter.unusedVariables false
set_option linter.unusedSimpArgs false
set_option linter.unusedSectionVars false

theorem nth_left {a b : List Int} {q : Nat} (h : q < a.length) : nth (a ++ b) q = nth a q := by
  unfold nth
  rw [List.getD_eq_getElem?_getD, List.getElem?_append_left h, List.getD_eq_getElem?_getD]
theorem nth_right {a b : List Int} {i : Nat} : nth (a ++ b) (a.length + i) = nth b i := by
  unfold nth
  rw [List.getD_eq_getElem?_getD, List.getElem?_append_right (by omega), Nat.add_sub_cancel_left, List.getD_eq_getElem?_getD]
theorem nth_rep {n i : Nat} {x : Int} (h : i < n) : nth (List.replicate n x) i = x := by
  unfold nth
  rw [List.getD_eq_getElem?_getD, List.getElem?_replicate, if_pos h]; rfl
theorem nth_map_range {f : Nat → Int} {k i : Nat} (h : i < k) : nth ((List.range k).map f) i = f i := by
  unfold nth
  rw [List.getD_eq_getElem?_getD, List.getElem?_map, List.getElem?_range h]; rfl
section
variable {zs : List Int} {E S : Nat} (hz : ∀ z ∈ zs, 0 ≤ z ∧ z ≤ 1000)
/-- Who came stays where he stands. -/
theorem came_keep {m q : Nat} (h : q < (cameTo zs m).length) : ∀ d, nth (cameTo zs (m + d)) q = nth (cameTo zs m) q ∧ q < (cameTo zs (m + d)).length := by
  intro d
  induction d with
  | zero => exact ⟨rfl, h⟩
  | succ d ih =>
    have e : cameTo zs (m + (d + 1)) = cameTo zs (m + d) ++ List.replicate (nth zs (m + d)).toNat (((m + d : Nat) : Int) + 1) := cameTo_succ zs (m + d)
    rw [e, nth_left ih.2]
    exact ⟨ih.1, by rw [List.length_append]; have := ih.2; omega⟩
theorem out_step (m : Nat) : ∃ k, outTo zs E S (m + 1) = leaveTo (cameTo zs (m + 1)) (outTo zs E S m) ((m : Int) + 1) k ∧ (0 < k → (m + 1) % E = 0) ∧ k ≤ S := by
  rw [outTo_succ]
  by_cases h : (m + 1) % E = 0
  · rw [if_pos h]
    exact ⟨_, rfl, fun _ => h, Nat.min_le_left _ _⟩
  · rw [if_neg h]
    exact ⟨0, (leaveTo_zero _ _ _).symm, fun x => absurd x (by omega), by omega⟩
theorem out_keep {m q : Nat} (h : q < (outTo zs E S m).length) : ∀ d, nth (outTo zs E S (m + d)) q = nth (outTo zs E S m) q ∧ q < (outTo zs E S (m + d)).length := by
  intro d
  induction d with
  | zero => exact ⟨rfl, h⟩
  | succ d ih =>
    obtain ⟨k, e, _, _⟩ := out_step (zs := zs) (E := E) (S := S) (m + d)
    rw [show m + (d + 1) = m + d + 1 by omega, e]
    refine ⟨?_, by rw [leaveTo_len]; have := ih.2; omega⟩
    unfold leaveTo
    rw [nth_left ih.2]; exact ih.1
/-- Person q leaves in minute t. -/
def Leaves (zs : List Int) (E S q t : Nat) : Prop := 1 ≤ t ∧ (outTo zs E S (t - 1)).length ≤ q ∧ q < (outTo zs E S t).length
theorem leaves_ex {q : Nat} : ∀ m, q < (outTo zs E S m).length → ∃ t, Leaves zs E S q t ∧ t ≤ m := by
  intro m
  induction m with
  | zero => intro h; simp [outTo] at h
  | succ m ih =>
    intro h
    by_cases h2 : q < (outTo zs E S m).length
    · obtain ⟨t, ht, hm⟩ := ih h2
      exact ⟨t, ht, by omega⟩
    · exact ⟨m + 1, ⟨by omega, by simpa using Nat.le_of_not_lt h2, h⟩, Nat.le_refl _⟩
theorem leaves_at {q t : Nat} (h : Leaves zs E S q t) : t % E = 0 ∧ nth (outTo zs E S t) q = (t : Int) - nth (cameTo zs t) q := by
  obtain ⟨h1, h2, h3⟩ := h
  obtain ⟨m, rfl⟩ : ∃ m, t = m + 1 := ⟨t - 1, by omega⟩
  rw [Nat.add_sub_cancel] at h2
  obtain ⟨k, e, hk, _⟩ := out_step (zs := zs) (E := E) (S := S) m
  rw [e, leaveTo_len] at h3
  refine ⟨hk (by omega), ?_⟩
  rw [e]
  unfold leaveTo
  obtain ⟨i, rfl⟩ : ∃ i, q = (outTo zs E S m).length + i := ⟨q - (outTo zs E S m).length, by omega⟩
  rw [nth_right, nth_map_range (by omega)]
  simp
theorem out_rides (hE : 1 ≤ E) : ∀ m, (outTo zs E S m).length ≤ m / E * S := by
  intro m
  induction m with
  | zero => simp [outTo]
  | succ m ih =>
    obtain ⟨k, e, hk, hS⟩ := out_step (zs := zs) (E := E) (S := S) m
    rw [e, leaveTo_len]
    by_cases h0 : 0 < k
    · have hm := hk h0
      have h1 : (m + 1) / E = m / E + 1 := by
        rw [Nat.succ_div, if_pos (Nat.dvd_of_mod_eq_zero hm)]
      rw [h1, Nat.add_mul, Nat.one_mul]
      omega
    · have h1 : m / E ≤ (m + 1) / E := Nat.div_le_div_right (by omega)
      have h2 : m / E * S ≤ (m + 1) / E * S := Nat.mul_le_mul_right S h1
      omega
/-- The first who stand behind leave no sooner. -/
theorem leaves_mono {q q' t t' : Nat} (h : Leaves zs E S q t) (h' : Leaves zs E S q' t') (hq : q' ≤ q) : t' ≤ t := by
  rcases Nat.lt_or_ge t t' with hlt | hge
  · obtain ⟨d, hd⟩ : ∃ d, t' - 1 = t + d := ⟨t' - 1 - t, by have := h'.1; omega⟩
    have hk := (out_keep (zs := zs) (E := E) (S := S) (m := t) (q := q) h.2.2 d).2
    rw [← hd] at hk
    have := h'.2.1
    omega
  · exact hge
/-- Person q comes in minute j + 1. -/
theorem came_at {j q t : Nat} (h1 : (cameTo zs j).length ≤ q) (h2 : q < (cameTo zs (j + 1)).length) (ht : j + 1 ≤ t) : nth (cameTo zs t) q = (j : Int) + 1 := by
  have hk := (came_keep (zs := zs) (m := j + 1) (q := q) h2 (t - (j + 1))).1
  rw [show j + 1 + (t - (j + 1)) = t by omega] at hk
  rw [hk, cameTo_succ]
  rw [cameTo_succ, List.length_append, List.length_replicate] at h2
  obtain ⟨i, rfl⟩ : ∃ i, q = (cameTo zs j).length + i := ⟨q - (cameTo zs j).length, by omega⟩
  rw [nth_right, nth_rep (by omega)]
end
end Go.Proofs.Ytmiilnddfmeldaa
