/- Group: what a law's argument of this type reads as. -/
import Derived.Test.YtmnpehajojdhcaaGGroup
import Derived.Test.YtmnpehajojdhcaaO
namespace Go.Proofs.Ytmnpehajojdhcaa
open Go.ChangeShapes Go.WideShapes Go.ChangeAt Go.RowKit Go.Deep Go.Joins
set_option maxRecDepth 100000
set_option linter.unusedVariables false

theorem open_groupS {H : Type} {enc : TypeId × Value → H} {W : World} {A : Option Addr} {n c : Nat} {t : TypeId} {d : DataW H} {p : List MemPlace} (ht : Try.prog.underlying t = some (.slice 79))
    (h : DataW.Trod enc Try.prog W 0 (fun _ => true) true t (.slice A n c) d p) :
    ∃ l : List GroupR, Reads W W.heap.size 4 A n (l.flatMap GroupR.cells) ∧ n ≤ c ∧ c ≤ maxLen ∧ ∀ x ∈ l, x.wf := by
  obtain ⟨fuel, hf⟩ := h
  rcases open_slice_fields ht Try.underlying79 (by kernel_rfl) (by kernel_rfl) hf with ⟨hcs, _⟩ | ⟨a, len, cap, m, D, Pl, hcs, hb, hl, hm, hmm, hx, hi⟩
  · simp [Value.cells] at hcs
    obtain ⟨rfl, rfl, rfl⟩ := hcs
    exact ⟨[], ⟨rfl, fun h => absurd h (by omega)⟩, Nat.le_refl _, by simp [maxLen], fun z hz => by cases hz⟩
  · simp [Value.cells] at hcs
    obtain ⟨rfl, rfl, rfl⟩ := hcs
    have hmn : n ≤ m := by rw [hmm]; simpa using hl
    clear hmm hx
    have hall : ∀ i, i < n → ∃ x : GroupR, x.wf ∧ ∀ j u, x.cells[j]? = some u → W.cell? (a.add (i * 4 + j)) = some u := by
      intro i hin
      obtain ⟨ys, k, _, _, hyl, hfs⟩ := hi i (by omega)
      obtain ⟨v0, y0, hc0, _, ht0⟩ := hfs 0 _ rfl
      obtain ⟨x0, hv0, hy0, hw0⟩ := DataW.trod_string Try.underlying9 ht0
      simp only [List.cons.injEq, and_true] at hv0
      subst hv0
      obtain ⟨v1, y1, hc1, _, ht1⟩ := hfs 1 _ rfl
      obtain ⟨x1, hv1, hy1, hw1⟩ := DataW.trod_int Try.underlying2 ht1
      simp only [List.cons.injEq, and_true] at hv1
      subst hv1
      obtain ⟨v2, y2, hc2, _, ht2⟩ := hfs 2 _ rfl
      obtain ⟨x2, hv2, hy2, hw2⟩ := DataW.trod_int Try.underlying2 ht2
      simp only [List.cons.injEq, and_true] at hv2
      subst hv2
      obtain ⟨v3, y3, hc3, _, ht3⟩ := hfs 3 _ rfl
      obtain ⟨x3, hv3, hy3, hw3⟩ := DataW.trod_int Try.underlying2 ht3
      simp only [List.cons.injEq, and_true] at hv3
      subst hv3
      refine ⟨⟨x0, x1, x2, x3⟩, ⟨hw0, hw1, hw2, hw3⟩, fun j u hu => ?_⟩
      match j, hu with
      | 0, hu => injection hu with hu; subst hu; exact hc0
      | 1, hu => injection hu with hu; subst hu; exact hc1
      | 2, hu => injection hu with hu; subst hu; exact hc2
      | 3, hu => injection hu with hu; subst hu; exact hc3
      | j + 4, hu => simp [GroupR.cells] at hu
    obtain ⟨l, hll, hq⟩ := list_of GroupR.zero _ n hall
    refine ⟨l, reads_of GroupR.clen (by omega) GroupR.zero hll (fun i hin => (hq i hin).2), hl, hm, fun x hx => ?_⟩
    obtain ⟨i, hil, rfl⟩ := mem_getD GroupR.zero hx
    exact (hq i (by omega)).1
theorem open_group {H : Type} {enc : TypeId × Value → H} {W : World} {b0 : Nat} {v : Value} {d : DataW H} {p : List MemPlace} {r : Reach}
    (hv : Value.okWide Try.prog W r b0 79 v) (h : DataW.Trod enc Try.prog W 0 (fun _ => true) true 79 v d p) : ∃ x : GroupR, v = x.val ∧ x.wf := by
  obtain ⟨v0, v1, v2, v3, y0, y1, y2, y3, n, rfl, _, _, ht0, ht1, ht2, ht3⟩ := open_agg4 Try.underlying79 (by kernel_rfl) (by kernel_rfl) hv h
  obtain ⟨x0, hv0, hy0, hw0⟩ := DataW.trod_string Try.underlying9 ht0
  simp only [List.cons.injEq, and_true] at hv0
  subst hv0
  obtain ⟨x1, hv1, hy1, hw1⟩ := DataW.trod_int Try.underlying2 ht1
  simp only [List.cons.injEq, and_true] at hv1
  subst hv1
  obtain ⟨x2, hv2, hy2, hw2⟩ := DataW.trod_int Try.underlying2 ht2
  simp only [List.cons.injEq, and_true] at hv2
  subst hv2
  obtain ⟨x3, hv3, hy3, hw3⟩ := DataW.trod_int Try.underlying2 ht3
  simp only [List.cons.injEq, and_true] at hv3
  subst hv3
  exact ⟨⟨x0, x1, x2, x3⟩, rfl, ⟨hw0, hw1, hw2, hw3⟩⟩
end Go.Proofs.Ytmnpehajojdhcaa
