/- Rope tests: contracts of what asks whether tests are valid. -/
import Derived.Test.YtaojhfbcdoicpaaDoorGTest
namespace Go.Proofs.YtaojhfbcdoicpaaDoor
open Go.RowKit
set_option maxRecDepth 100000
set_option linter.unusedVariables false

def testB (x : TestR) : Bool := inB x.Day 0 36524 && inB x.Broken 0 24000 && inB x.Worn 0 1000
theorem testB_eq (a b c : Int) : testB ⟨a, b, c⟩ = (inB a 0 36524 && inB b 0 24000 && inB c 0 1000) := rfl
theorem testB_true {x : TestR} : testB x = true ↔ (0 ≤ x.Day ∧ x.Day ≤ 36524) ∧ (0 ≤ x.Broken ∧ x.Broken ≤ 24000) ∧ 0 ≤ x.Worn ∧ x.Worn ≤ 1000 := by
  simp [testB, inB_true, and_assoc]

theorem isTest_any {a0 a1 a2 : Int} {w : World} :
    Calls Tryd.prog 23 #[.agg #[.int .i64 a0, .int .i64 a1, .int .i64 a2]] w fun e w' => e = .returned (.bool (testB ⟨a0, a1, a2⟩)) ∧ Below w.heap.size w w' := by
  have Ht := Lib.hid (testB_eq a0 a1 a2)
  go_enter Tryd.func23, Tryd.ntmps23
  go_wp2_with (first | (go_at_call 45; refine (isDay_any _ _).mono ?_; rintro e w' ⟨rfl, rfl⟩) | (go_at_call 36; refine (within_any _ _ _ _).mono ?_; rintro e w' ⟨rfl, rfl⟩) | (go_at_call 46; refine (isShare_any _ _).mono ?_; rintro e w' ⟨rfl, rfl⟩))
  all_goals go_ret
  all_goals (refine ⟨ret_bool ?_, (Below.refl _ _).alloc (Nat.le_refl _) _⟩; rw [Ht.out]; simp_all)

theorem l22One_any {ad : Addr} {a0 a1 a2 : Int} {w : World} (h0 : w.cell? ad = some (.int .i64 a0)) (h1 : w.cell? ⟨ad.block, ad.off + 1, none⟩ = some (.int .i64 a1)) (h2 : w.cell? ⟨ad.block, ad.off + 2, none⟩ = some (.int .i64 a2)) :
    Calls Tryd.prog 21 #[.pointer (some ad)] w fun e w' => e = .returned (.bool (testB ⟨a0, a1, a2⟩)) ∧ w = w' := by
  have Ht := Lib.hid (testB_eq a0 a1 a2)
  go_enter Tryd.func21, Tryd.ntmps21
  go_wp2_with (first | (go_at_call 42; refine (l02Day_any _ _).mono ?_; rintro e w' ⟨rfl, rfl⟩) | (go_at_call 43; refine (l22Broken_any _ _).mono ?_; rintro e w' ⟨rfl, rfl⟩) | (go_at_call 31; refine (in_any _ _ _ _).mono ?_; rintro e w' ⟨rfl, rfl⟩))
  all_goals go_ret
  all_goals (refine ⟨ret_bool ?_, rfl⟩; rw [Ht.out]; simp_all)

/-- Test k is valid, and follows the one before. -/
def stepB (l : List TestR) (k : Nat) : Bool :=
  testB (TestR.at_ l k) && (decide (k = 0) || (decide ((TestR.at_ l (k - 1)).Day < (TestR.at_ l k).Day) && (decide ((TestR.at_ l (k - 1)).Broken ≤ (TestR.at_ l k).Broken) && decide ((TestR.at_ l (k - 1)).Worn ≤ (TestR.at_ l k).Worn))))
def testsB (l : List TestR) : Bool := allTo (stepB l) l.length

end Go.Proofs.YtaojhfbcdoicpaaDoor
