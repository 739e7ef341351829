/- Contracts of the functions that copy a slice of int64. -/
import Derived.Test.YtcacmiafmanniaaS
import Derived.Test.YtcacmiafmanniaaA
import Derived.Lib.SliceRun
namespace Go.Proofs.Ytcacmiafmanniaa
open Go.RowKit
set_option maxRecDepth 100000
set_option linter.unusedVariables false

theorem clone_int_any {A : Option Addr} {n c B : Nat} {zs : List Int} {w : World} (h : Ints w B A n zs) (hB : B ≤ w.heap.size) (hn : n ≤ 1048576) :
    Calls Try.prog 40 #[.slice A n c] w fun e w' => ∃ A' c', e = .returned (.slice A' n c') ∧ Own w' w.heap.size 2 1 A' n c' (zs.map (Value.int .i64)) ∧ Below w.heap.size w w' := by
  obtain ⟨i0, hi, hz0, hz1, hz2⟩ := info_parts info_int
  cases A with
  | none =>
    have hn0 : n = 0 := by
      rcases Nat.eq_zero_or_pos n with h0 | h0
      · exact h0
      · obtain ⟨ad, e, _⟩ := h.2 h0; cases e
    have hz : zs = [] := List.eq_nil_of_length_eq_zero (by have := h.len; omega)
    subst hn0; subst hz
    have qT : ∀ w, (binOp .eql 28 (.slice none 0 c) (.slice none 0 0)).run Try.prog w = .ok (.bool true) w := fun w => Lib.run_eql_slice_nil w _ _ none 0 c 0 0 Try.underlying28
    go_enter Try.func40, Try.ntmps40
    go_wp2_with fail
    go_ret
    exact ⟨none, 0, rfl, Own.nil _ _ _ _, Below.refl _ _⟩
  | some ad =>
    have qT : ∀ w, (binOp .eql 28 (.slice (some ad) n c) (.slice none 0 0)).run Try.prog w = .ok (.bool false) w := fun w => Lib.run_eql_slice_nil w _ _ (some ad) n c 0 0 Try.underlying28
    go_enter Try.func40, Try.ntmps40
    go_wp2_with (at_builtin; refine wpList_appS rfl (.tmp 5) (.tmp 6) 28 rfl 2 i0 _ 1 8 Try.underlying28 hi hz0 hz1 hz2 rfl (by omega) (by omega) w.heap.size _ _ _ _ rfl (Own.empty _ _ _ _ (Nat.le_refl _)) B (some ad) n c _ rfl (Reads.alloc h hB _) (ints_one _) (by omega) (by simp) ?_)
    intro A2 c2 w2 ho hg hb hat
    go_wp2_with fail
    go_ret
    exact ⟨A2, c2, rfl, by simpa using ho, ((Below.refl _ _).alloc (Nat.le_refl _) _).trans hb⟩
end Go.Proofs.Ytcacmiafmanniaa
