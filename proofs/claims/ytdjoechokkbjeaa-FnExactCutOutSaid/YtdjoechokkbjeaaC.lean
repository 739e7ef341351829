/- Contracts of the functions that copy a slice of int64. -/
import Derived.Test.YtdjoechokkbjeaaS
import Derived.Test.YtdjoechokkbjeaaA
import Derived.Lib.SliceRun
namespace Go.Proofs.Ytdjoechokkbjeaa
open Go.RowKit
set_option maxRecDepth 100000
set_option linter.unusedVariables false

theorem l00Own_any {A : Option Addr} {n c B : Nat} {zs : List Int} {w : World} (h : Ints w B A n zs) (hB : B ≤ w.heap.size) (hn : n ≤ 1048576) :
    Calls Try.prog 84 #[.slice A n c] w fun e w' => ∃ A' c', e = .returned (.slice A' n c') ∧ Own w' w.heap.size 2 1 A' n c' (zs.map (Value.int .i64)) ∧ Below w.heap.size w w' := by
  obtain ⟨i0, hi, hz0, hz1, hz2⟩ := info_parts info_int
  go_enter Try.func84, Try.ntmps84
  go_wp2_with (at_builtin; refine wpList_appS rfl (.tmp 3) (.tmp 4) 22 rfl 2 i0 _ 1 8 Try.underlying22 hi hz0 hz1 hz2 rfl (by omega) (by omega) w.heap.size _ _ _ _ rfl (Own.empty _ _ _ _ (Nat.le_refl _)) B A n c _ rfl (Reads.alloc h hB _) (ints_one _) (by omega) (by simp) ?_)
  intro A2 c2 w2 ho hg hb hat
  go_wp2_with fail
  go_ret
  exact ⟨A2, c2, rfl, by simpa using ho, ((Below.refl _ _).alloc (Nat.le_refl _) _).trans hb⟩
end Go.Proofs.Ytdjoechokkbjeaa
