/- Reading of arrivals: the reference's. -/
import Derived.Test.YtickepianllblaaGreatDoorUd
namespace Go.Proofs.YtickepianllblaaGreatDoor
open Go.RowKit
set_option maxRecDepth 100000
set_option linter.unusedVariables false
set_option linter.unusedSimpArgs false

theorem sp_short (c : UInt8) : ∀ (l : List UInt8), (sp c l).length ≤ l.length + 1 ∧ ∀ w ∈ sp c l, w.length ≤ l.length := by
  intro l
  induction l with
  | nil => simp [sp]
  | cons b l ih =>
    rw [sp]
    split
    · refine ⟨by simp; omega, fun w hw => ?_⟩
      rcases List.mem_cons.1 hw with rfl | hw
      · simp
      · have := ih.2 w hw; simp; omega
    · split
      · exact ⟨by simp, fun w hw => by rw [List.mem_singleton] at hw; rw [hw]; simp⟩
      · rename_i w0 ws hs
        rw [hs] at ih
        refine ⟨by simp at ih ⊢; omega, fun w hw => ?_⟩
        rcases List.mem_cons.1 hw with rfl | hw
        · have := ih.2 w0 (by simp); simp; omega
        · have := ih.2 w (by simp [hw]); simp; omega
theorem numsL_snoc : ∀ (a : List (List UInt8)) (xs : List Int) (w : List UInt8), numsL a = some xs → numsL (a ++ [w]) = (numL w).map (fun n => xs ++ [n]) := by
  intro a
  induction a with
  | nil =>
    intro xs w h
    rw [numsL] at h
    injection h with h
    subst h
    rw [List.nil_append, numsL]
    cases numL w <;> simp [numsL]
  | cons v a ih =>
    intro xs w h
    obtain ⟨n, r, rfl, h1, h2⟩ := numsL_cons h
    rw [List.cons_append, numsL, h1]
    simp only
    rw [ih r w h2]
    cases numL w <;> rfl
theorem numsL_bad : ∀ (a b : List (List UInt8)) (w : List UInt8), numL w = none → numsL (a ++ w :: b) = none := by
  intro a
  induction a with
  | nil => intro b w h; rw [List.nil_append, numsL, h]
  | cons v a ih =>
    intro b w h
    rw [List.cons_append, numsL, ih b w h]
    cases numL v <;> rfl
theorem read_nums {l : List UInt8} {xs : List Int} (h : numsL (sp 43 l) = some xs) : rReadArr l = if arrB xs then (xs, true) else ([], false) := by unfold rReadArr; rw [h]
theorem read_none {l : List UInt8} (h : numsL (sp 43 l) = none) : rReadArr l = ([], false) := by unfold rReadArr; rw [h]
def RdP (l : List UInt8) (w : World) (e : Ending) (w' : World) : Prop := ∃ (A : Option Addr) (n k : Nat), e = .returned (.tuple #[.slice A n k, .bool (rReadArr l).2]) ∧ n ≤ 1048576 ∧ Own w' w.heap.size 2 1 A n k ((rReadArr l).1.map (Value.int .i64)) ∧ Below w.heap.size w w'
end Go.Proofs.YtickepianllblaaGreatDoor
