/- Helpers: whether a helper can do a task: contracts of both sides. -/
import Derived.Test.YtcacmiafmanniaaHb
import Derived.Test.YtcacmiafmanniaaHaTask
namespace Go.Proofs.Ytcacmiafmanniaa
open Go.RowKit
set_option maxRecDepth 100000
set_option linter.unusedVariables false
set_option linter.unusedSimpArgs false

theorem bits_fin : ∀ a : Fin 8, ∀ b : Fin 8, (bits BinOp.andNot IntKind.i64 ((b.val : Nat) : Int) ((a.val : Nat) : Int) == 0) = (bits BinOp.and IntKind.i64 ((a.val : Nat) : Int) ((b.val : Nat) : Int) == ((b.val : Nat) : Int)) := by decide
theorem bits_can {a b : Int} (ha : 0 ≤ a ∧ a ≤ 7) (hb : 0 ≤ b ∧ b ≤ 7) : (bits BinOp.andNot IntKind.i64 b a == 0) = (bits BinOp.and IntKind.i64 a b == b) := by
  obtain ⟨x, rfl⟩ := Int.eq_ofNat_of_zero_le ha.1
  obtain ⟨y, rfl⟩ := Int.eq_ofNat_of_zero_le hb.1
  exact bits_fin ⟨x, by omega⟩ ⟨y, by omega⟩
def canB (x : HelperR) (t : TaskR) : Bool := (bits BinOp.and IntKind.i64 x.Skills t.Skills == t.Skills) && decide (x.Minutes ≤ t.Until)
theorem can_any {x : HelperR} {t : TaskR} {w : World} (ha : 0 ≤ x.Skills ∧ x.Skills ≤ 7) (hb : 0 ≤ t.Skills ∧ t.Skills ≤ 7) :
    Calls Try.prog 53 #[.agg #[.string x.Id, .int .i64 x.Skills, .int .i64 x.Minutes], .agg #[.string t.Id, .int .i64 t.Skills, .int .i64 t.Until]] w fun e w' => e = .returned (.bool (canB x t)) ∧ Below w.heap.size w w' := by
  have Hc : Hid (canB x t = ((bits BinOp.andNot IntKind.i64 t.Skills x.Skills == 0) && decide (x.Minutes ≤ t.Until))) := Lib.hid (by rw [bits_can ha hb]; rfl)
  have pre : Below w.heap.size w ((w.alloc (.cells #[.string x.Id, .int .i64 x.Skills, .int .i64 x.Minutes] 35)).alloc (.cells #[.string t.Id, .int .i64 t.Skills, .int .i64 t.Until] 67)) := ((Below.refl _ _).alloc (Nat.le_refl _) _).alloc (by simp) _
  by_cases hv : bits BinOp.andNot IntKind.i64 t.Skills x.Skills = 0
  · have d1 : (bits BinOp.andNot IntKind.i64 t.Skills x.Skills == 0) = true := by simpa using hv
    have D1 := Lib.hid d1
    clear d1
    go_enter Try.func53, Try.ntmps53
    go_wp2_with fail
    go_ret
    exact ⟨ret_bool (by rw [Hc.out, D1.out]; rfl), pre⟩
  · have d1 : (bits BinOp.andNot IntKind.i64 t.Skills x.Skills == 0) = false := by simpa using hv
    have D1 := Lib.hid d1
    go_enter Try.func53, Try.ntmps53
    go_wp2_with fail
    go_ret
    exact ⟨ret_bool (by rw [Hc.out, D1.out]; rfl), pre⟩
theorem l24Can_any {p q : Addr} {x : HelperR} {t : TaskR} {w : World} (h0 : w.cell? p = some (.string x.Id)) (h1 : w.cell? ⟨p.block, p.off + 1, none⟩ = some (.int .i64 x.Skills)) (h2 : w.cell? ⟨p.block, p.off + 2, none⟩ = some (.int .i64 x.Minutes))
    (q0 : w.cell? q = some (.string t.Id)) (q1 : w.cell? ⟨q.block, q.off + 1, none⟩ = some (.int .i64 t.Skills)) (q2 : w.cell? ⟨q.block, q.off + 2, none⟩ = some (.int .i64 t.Until)) :
    Calls Try.prog 25 #[.pointer (some p), .pointer (some q)] w fun e w' => e = .returned (.bool (canB x t)) ∧ ∃ d, w' = w.drewN d := by
  have Hc : Hid (canB x t = ((bits BinOp.and IntKind.i64 x.Skills t.Skills == t.Skills) && decide (x.Minutes ≤ t.Until))) := Lib.hid rfl
  cases hv : (bits BinOp.and IntKind.i64 x.Skills t.Skills == t.Skills) with
  | true =>
    have D1 := Lib.hid hv
    go_enter Try.func25, Try.ntmps25
    go_wp2_with fail
    go_quiet (fail)
    go_wp2_with fail
    go_ret
    exact ⟨ret_bool (by rw [Hc.out, D1.out]; rfl), _, rfl⟩
  | false =>
    have D1 := Lib.hid hv
    go_enter Try.func25, Try.ntmps25
    go_wp2_with fail
    go_quiet (fail)
    go_wp2_with fail
    go_ret
    exact ⟨ret_bool (by rw [Hc.out, D1.out]; rfl), _, rfl⟩
end Go.Proofs.Ytcacmiafmanniaa
