/- Check: what a law's argument of this type reads as. -/
import Derived.Test.YtaojhfbcdoicpaaDoorGCheck
import Derived.Test.YtaojhfbcdoicpaaDoorO
namespace Go.Proofs.YtaojhfbcdoicpaaDoor
open Go.ChangeShapes Go.WideShapes Go.ChangeAt Go.RowKit Go.Deep Go.Joins
set_option maxRecDepth 100000
set_option linter.unusedVariables false

theorem open_check {H : Type} {enc : TypeId × Value → H} {W : World} {b0 : Nat} {v : Value} {d : DataW H} {p : List MemPlace} {r : Reach}
    (hv : Value.okWide Tryd.prog W r b0 23 v) (h : DataW.Trod enc Tryd.prog W 0 (fun _ => true) true 23 v d p) : ∃ x : CheckR, v = x.val ∧ x.wf := by
  obtain ⟨v0, v1, v2, v3, v4, y0, y1, y2, y3, y4, n, rfl, _, _, ht0, ht1, ht2, ht3, ht4⟩ := open_agg5 Tryd.underlying23 (by kernel_rfl) (by kernel_rfl) hv h
  obtain ⟨x0, hv0, hy0, hw0⟩ := DataW.trod_string Tryd.underlying9 ht0
  simp only [List.cons.injEq, and_true] at hv0
  subst hv0
  obtain ⟨x1, hv1, hy1, hw1⟩ := DataW.trod_int Tryd.underlying2 ht1
  simp only [List.cons.injEq, and_true] at hv1
  subst hv1
  obtain ⟨x2, hv2, hy2, hw2⟩ := DataW.trod_int Tryd.underlying2 ht2
  simp only [List.cons.injEq, and_true] at hv2
  subst hv2
  obtain ⟨x3, hv3, hy3, hw3⟩ := DataW.trod_int Tryd.underlying2 ht3
  simp only [List.cons.injEq, and_true] at hv3
  subst hv3
  obtain ⟨x4, hv4, hy4, hw4⟩ := DataW.trod_int Tryd.underlying2 ht4
  simp only [List.cons.injEq, and_true] at hv4
  subst hv4
  exact ⟨⟨x0, x1, x2, x3, x4⟩, rfl, ⟨hw0, hw1, hw2, hw3, hw4⟩⟩
end Go.Proofs.YtaojhfbcdoicpaaDoor
