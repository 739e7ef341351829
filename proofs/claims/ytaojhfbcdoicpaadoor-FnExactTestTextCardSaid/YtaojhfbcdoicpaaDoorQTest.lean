/- Test: what a law's argument of this type reads as. -/
import Derived.Test.YtaojhfbcdoicpaaDoorGTest
import Derived.Test.YtaojhfbcdoicpaaDoorO
namespace Go.Proofs.YtaojhfbcdoicpaaDoor
open Go.ChangeShapes Go.WideShapes Go.ChangeAt Go.RowKit Go.Deep Go.Joins
set_option maxRecDepth 100000
set_option linter.unusedVariables false

theorem open_test {H : Type} {enc : TypeId × Value → H} {W : World} {b0 : Nat} {v : Value} {d : DataW H} {p : List MemPlace} {r : Reach}
    (hv : Value.okWide Tryd.prog W r b0 30 v) (h : DataW.Trod enc Tryd.prog W 0 (fun _ => true) true 30 v d p) : ∃ x : TestR, v = x.val ∧ x.wf := by
  obtain ⟨v0, v1, v2, y0, y1, y2, n, rfl, _, _, ht0, ht1, ht2⟩ := open_agg3 Tryd.underlying30 (by kernel_rfl) (by kernel_rfl) hv h
  obtain ⟨x0, hv0, hy0, hw0⟩ := DataW.trod_int Tryd.underlying2 ht0
  simp only [List.cons.injEq, and_true] at hv0
  subst hv0
  obtain ⟨x1, hv1, hy1, hw1⟩ := DataW.trod_int Tryd.underlying2 ht1
  simp only [List.cons.injEq, and_true] at hv1
  subst hv1
  obtain ⟨x2, hv2, hy2, hw2⟩ := DataW.trod_int Tryd.underlying2 ht2
  simp only [List.cons.injEq, and_true] at hv2
  subst hv2
  exact ⟨⟨x0, x1, x2⟩, rfl, ⟨hw0, hw1, hw2⟩⟩
end Go.Proofs.YtaojhfbcdoicpaaDoor
