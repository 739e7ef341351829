/- More words for memory: two slices of the call's own beside each other. -/
import Derived.Test.YtickepianllblaaGreatDoorS
namespace Go.Proofs.YtickepianllblaaGreatDoor
open Go.RowKit
set_option maxRecDepth 100000
set_option linter.unusedVariables false

theorem own_one (w : World) (B e : Nat) (x : Value) (hB : B ≤ w.heap.size) : Own (w.alloc (.cells #[x] e)) B e 1 (some ⟨w.heap.size, 0, none⟩) 1 1 [x] :=
  ⟨by simp, .inr ⟨w.heap.size, 1, #[x], rfl, hB, heap_alloc_new w _, Nat.le_refl _, by simp [maxLen], rfl, by simp⟩⟩
theorem own_drewN {w : World} {B e size n c : Nat} {A : Option Addr} {xs : List Value} (h : Own w B e size A n c xs) (d : Nat) : Own (w.drewN d) B e size A n c xs := h
theorem own_grown {w w' : World} {B e size n c : Nat} {A A1 : Option Addr} {xs : List Value} (h : Own w B e size A n c xs) (hg : w.grownBy w' (A1.map (·.block))) (ha : Apart A1 A) : Own w' B e size A n c xs := by
  cases A1 with
  | none =>
    refine World.ownsRow.kept (h : w.ownsRow B e size (.slice A n c) n xs) hg ?_
    cases A with
    | none => exact .inl rfl
    | some x => exact .inr (by simp [Value.ownBlock])
  | some a => exact h.grown hg (fun x hx he => ha a x rfl hx he.symm)
theorem apart_grown {A2 A3 A : Option Addr} {k : Nat} (ha : Apart A2 A) (hat : A3.map (·.block) = A2.map (·.block) ∨ ∃ y, A3 = some y ∧ y.block = k) (hk : ∀ a, A = some a → a.block < k) : Apart A3 A := by
  intro a a' h1 h2 he
  subst h1
  rcases hat with e | e
  · cases A2 with
    | none => simp at e
    | some y =>
      have e : a.block = y.block := by simpa using e
      exact ha y a' rfl h2 (by omega)
  · obtain ⟨y, e, e2⟩ := e
    injection e with e
    subst e
    have := hk a' h2
    omega
theorem own_app {w : World} {B e n c : Nat} {A : Option Addr} {xs : List Value} {x y : Int} (h : Own w B e 1 A n c (xs ++ [.int .i64 x])) (hxy : x = y) : Own w B e 1 A n c (xs ++ [.int .i64 y]) := hxy ▸ h
theorem own_ints {w : World} {B e n c : Nat} {A : Option Addr} {zs : List Int} (h : Own w B e 1 A n c (zs.map (Value.int .i64))) : Ints w w.heap.size A n zs := h.reads
end Go.Proofs.YtickepianllblaaGreatDoor
