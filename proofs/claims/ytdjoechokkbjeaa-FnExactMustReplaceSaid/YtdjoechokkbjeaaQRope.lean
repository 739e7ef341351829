/- Rope: what a law's argument of this type reads as. -/
import Derived.Test.YtdjoechokkbjeaaGRope
import Derived.Test.YtdjoechokkbjeaaO
namespace Go.Proofs.Ytdjoechokkbjeaa
open Go.ChangeShapes Go.WideShapes Go.ChangeAt Go.RowKit Go.Deep Go.Joins
set_option maxRecDepth 100000
set_option linter.unusedVariables false

theorem open_rope {H : Type} {enc : TypeId × Value → H} {W : World} {b0 : Nat} {v : Value} {d : DataW H} {p : List MemPlace} {r : Reach}
    (hv : Value.okWide Try.prog W r b0 53 v) (h : DataW.Trod enc Try.prog W 0 (fun _ => true) true 53 v d p) : ∃ x : RopeR, v = x.val ∧ x.wf := by
  obtain ⟨v0, v1, v2, v3, y0, y1, y2, y3, n, rfl, _, _, ht0, ht1, ht2, ht3⟩ := open_agg4 Try.underlying53 (by kernel_rfl) (by kernel_rfl) hv h
  obtain ⟨x0, hv0, hy0, hw0⟩ := DataW.trod_int Try.underlying2 ht0
  simp only [List.cons.injEq, and_true] at hv0
  subst hv0
  obtain ⟨x1, hv1, hy1, hw1⟩ := DataW.trod_int Try.underlying2 ht1
  simp only [List.cons.injEq, and_true] at hv1
  subst hv1
  obtain ⟨x2, hv2, hy2, hw2⟩ := DataW.trod_int Try.underlying2 ht2
  simp only [List.cons.injEq, and_true] at hv2
  subst hv2
  obtain ⟨x3, hv3, hy3, hw3⟩ := DataW.trod_int Try.underlying2 ht3
  simp only [List.cons.injEq, and_true] at hv3
  subst hv3
  exact ⟨⟨x0, x1, x2, x3⟩, rfl, ⟨hw0, hw1, hw2, hw3⟩⟩
end Go.Proofs.Ytdjoechokkbjeaa
