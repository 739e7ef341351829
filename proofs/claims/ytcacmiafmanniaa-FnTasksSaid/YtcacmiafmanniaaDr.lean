/- The reference's draw of helpers and of tasks: two lists that grow while the source is asked. -/
import Derived.Test.YtcacmiafmanniaaDq
import Derived.Test.YtcacmiafmanniaaMe
import Derived.Test.YtcacmiafmanniaaTb0
import Derived.Deep.DeepCutAuto
import Derived.Deep.CutBlock
namespace Go.Proofs.Ytcacmiafmanniaa
open Go.RowKit
set_option maxRecDepth 100000
set_option linter.unusedVariables false
set_option linter.unusedSimpArgs false

theorem task_one (x : TaskR) : ∀ u ∈ x.cells, u.oneCell' = true := by
  intro u hu
  simp only [TaskR.cells, List.mem_cons, List.not_mem_nil, or_false] at hu
  rcases hu with rfl | rfl | rfl <;> rfl
theorem own_farN {w w' : World} {B e s n c b : Nat} {A : Option Addr} {xs : List Value} (h : Own w B e s A n c xs) (t : Touch w w' (some ⟨b, 0, none⟩)) (hb : b < B) : Own w' B e s A n c xs :=
  h.touch t (by intro a a' e e'; injection e with e; subst e; have := (h.block_lt a' e').2.2.1; simp only; omega)
def offB (A : Option Addr) (nb : Nat) : Prop := ∀ a, A = some a → a.block ≠ nb
/-- The state of the draw: two lists, the names that are gone through. -/
structure HTS (B b n c k : Nat) (A : Option Addr) (zs : List Int) (w : World) (nb : Nat) (ns : List ByteArray) (A5 : Option Addr) (c5 : Nat) (l : List HelperR) (A8 : Option Addr) (c8 : Nat) (tl : List TaskR) (wx : World) : Prop where
  o5 : Own wx w.heap.size 35 3 A5 l.length c5 (l.flatMap HelperR.cells)
  o8 : Own wx w.heap.size 67 3 A8 tl.length c8 (tl.flatMap TaskR.cells)
  ap : Apart A5 A8
  d : DS B b A n c zs w wx k
  z5 : ∀ x ∈ l, x.Id.size ≤ 1048576
  z8 : ∀ x ∈ tl, x.Id.size ≤ 1048576
  nm : HC wx nb (ns.map Value.string)
  f5 : offB A5 nb
  f8 : offB A8 nb
  hb : b < w.heap.size
  hnb : w.heap.size ≤ nb
section
variable {B b n c k : Nat} {A : Option Addr} {zs : List Int} {w wx wy : World} {nb : Nat} {ns : List ByteArray} {A5 : Option Addr} {c5 : Nat} {l : List HelperR} {A8 : Option Addr} {c8 : Nat} {tl : List TaskR}
theorem HTS.more (h : HTS B b n c k A zs w nb ns A5 c5 l A8 c8 tl wx) {k' : Nat} (hk : k ≤ k') : HTS B b n c k' A zs w nb ns A5 c5 l A8 c8 tl wx := ⟨h.o5, h.o8, h.ap, h.d.more hk, h.z5, h.z8, h.nm, h.f5, h.f8, h.hb, h.hnb⟩
theorem HTS.call (h : HTS B b n c k A zs w nb ns A5 c5 l A8 c8 tl wx) {k' : Nat} (d : DS B b A n c zs w wy k') (t : Touch wx wy (some ⟨b, 0, none⟩)) : HTS B b n c k' A zs w nb ns A5 c5 l A8 c8 tl wy :=
  ⟨own_farN h.o5 t h.hb, own_farN h.o8 t h.hb, h.ap, d, h.z5, h.z8, h.nm.touch1 t (by have := h.hb; have := h.hnb; omega), h.f5, h.f8, h.hb, h.hnb⟩
theorem HTS.app5 (h : HTS B b n c k A zs w nb ns A5 c5 l A8 c8 tl wx) {o : Obj} {A3 : Option Addr} {c3 : Nat} {X : HelperR} (ho : Own wy w.heap.size 35 3 A3 (l.length + 1) c3 (l.flatMap HelperR.cells ++ X.cells)) (hg : (wx.alloc o).grownBy wy (A5.map (·.block))) (hB : Below w.heap.size (wx.alloc o) wy)
    (hat : A3.map (·.block) = A5.map (·.block) ∨ ∃ a, A3 = some a ∧ a.block = wx.heap.size + 1) (hX : X.Id.size ≤ 1048576) : HTS B b n c k A zs w nb ns A3 c3 (l ++ [X]) A8 c8 tl wy :=
  have hb5 : Below w.heap.size wx wy := (((Below.refl wx.heap.size wx).alloc (Nat.le_refl _) _).mono h.d.sz).trans hB
  have hsz : (wx.alloc o).heap.size = wx.heap.size + 1 := by simp
  have hat2 : A3.map (·.block) = A5.map (·.block) ∨ ∃ y, A3 = some y ∧ y.block = (wx.alloc o).heap.size := by
    rcases hat with e | ⟨y, e, e2⟩
    · exact .inl e
    · exact .inr ⟨y, e, by rw [e2, hsz]⟩
  ⟨by rw [List.flatMap_append, List.length_append, List.flatMap_singleton]; exact ho, own_grown (h.o8.alloc _) hg h.ap, apart_grown h.ap hat2 (fun a e => by have := (h.o8.block_lt a e).2.2.2; omega), h.d.belowD (hb5.mono h.hb) hb5,
    fun x hx => by rcases List.mem_append.1 hx with hx | hx; exact h.z5 x hx; rw [List.mem_singleton] at hx; rw [hx]; exact hX, h.z8,
    (h.nm.alloc1 _).grown hg h.f5, (by
      intro a e
      rcases hat2 with e2 | ⟨y, e2, e3⟩
      · subst e
        cases A5 with
        | none => cases e2
        | some z =>
          have e2 : a.block = z.block := by simpa using e2
          rw [e2]; exact h.f5 z rfl
      · rw [e2] at e
        injection e with e
        subst e
        have := h.nm.lt
        omega), h.f8, h.hb, h.hnb⟩
theorem HTS.app8 (h : HTS B b n c k A zs w nb ns A5 c5 l A8 c8 tl wx) {o : Obj} {A3 : Option Addr} {c3 : Nat} {X : TaskR} (ho : Own wy w.heap.size 67 3 A3 (tl.length + 1) c3 (tl.flatMap TaskR.cells ++ X.cells)) (hg : (wx.alloc o).grownBy wy (A8.map (·.block))) (hB : Below w.heap.size (wx.alloc o) wy)
    (hat : A3.map (·.block) = A8.map (·.block) ∨ ∃ a, A3 = some a ∧ a.block = wx.heap.size + 1) (hX : X.Id.size ≤ 1048576) : HTS B b n c k A zs w nb ns A5 c5 l A3 c3 (tl ++ [X]) wy :=
  have hb5 : Below w.heap.size wx wy := (((Below.refl wx.heap.size wx).alloc (Nat.le_refl _) _).mono h.d.sz).trans hB
  have hsz : (wx.alloc o).heap.size = wx.heap.size + 1 := by simp
  have hat2 : A3.map (·.block) = A8.map (·.block) ∨ ∃ y, A3 = some y ∧ y.block = (wx.alloc o).heap.size := by
    rcases hat with e | ⟨y, e, e2⟩
    · exact .inl e
    · exact .inr ⟨y, e, by rw [e2, hsz]⟩
  ⟨own_grown (h.o5.alloc _) hg h.ap.symm, by rw [List.flatMap_append, List.length_append, List.flatMap_singleton]; exact ho, (apart_grown h.ap.symm hat2 (fun a e => by have := (h.o5.block_lt a e).2.2.2; omega)).symm, h.d.belowD (hb5.mono h.hb) hb5,
    h.z5, fun x hx => by rcases List.mem_append.1 hx with hx | hx; exact h.z8 x hx; rw [List.mem_singleton] at hx; rw [hx]; exact hX,
    (h.nm.alloc1 _).grown hg h.f8, h.f5, (by
      intro a e
      rcases hat2 with e2 | ⟨y, e2, e3⟩
      · subst e
        cases A8 with
        | none => cases e2
        | some z =>
          have e2 : a.block = z.block := by simpa using e2
          rw [e2]; exact h.f8 z rfl
      · rw [e2] at e
        injection e with e
        subst e
        have := h.nm.lt
        omega), h.hb, h.hnb⟩
theorem HTS.alloc0 (h : HTS B b n c k A zs w nb ns A5 c5 l A8 c8 tl wx) (o : Obj) : HTS B b n c k A zs w nb ns A5 c5 l A8 c8 tl (wx.alloc o) :=
  ⟨h.o5.alloc _, h.o8.alloc _, h.ap, h.d.allocD _, h.z5, h.z8, h.nm.alloc1 _, h.f5, h.f8, h.hb, h.hnb⟩
theorem HTS.bel (h : HTS B b n c k A zs w nb ns A5 c5 l A8 c8 tl wx) (hB : Below wx.heap.size wx wy) : HTS B b n c k A zs w nb ns A5 c5 l A8 c8 tl wy :=
  ⟨h.o5.below hB, h.o8.below hB, h.ap, h.d.belowD (hB.mono h.d.lt) (hB.mono h.d.sz), h.z5, h.z8, h.nm.below hB h.nm.lt, h.f5, h.f8, h.hb, h.hnb⟩
/-- An empty list of helpers in place of the old one. -/
theorem HTS.new5 (h : HTS B b n c k A zs w nb ns A5 c5 l A8 c8 tl wx) : HTS B b n c k A zs w nb ns (some ⟨wx.heap.size, 0, none⟩) 0 [] A8 c8 tl (wx.alloc (.cells #[] 35)) :=
  ⟨Own.empty wx w.heap.size 35 3 h.d.sz |> fun o => (by simpa using o), h.o8.alloc _, (by
      intro a a' e e'
      injection e with e
      subst e
      have := (h.o8.block_lt a' e').2.2.2
      simp only; omega), h.d.allocD _, (fun x hx => by cases hx), h.z8, h.nm.alloc1 _, (by
      intro a e
      injection e with e
      subst e
      have := h.nm.lt
      simp only; omega), h.f8, h.hb, h.hnb⟩
theorem HTS.new8 (h : HTS B b n c k A zs w nb ns A5 c5 l A8 c8 tl wx) : HTS B b n c k A zs w nb ns A5 c5 l (some ⟨wx.heap.size, 0, none⟩) 0 [] (wx.alloc (.cells #[] 67)) :=
  ⟨h.o5.alloc _, Own.empty wx w.heap.size 67 3 h.d.sz |> fun o => (by simpa using o), (by
      intro a a' e e'
      injection e' with e'
      subst e'
      have := (h.o5.block_lt a e).2.2.2
      simp only; omega), h.d.allocD _, h.z5, (fun x hx => by cases hx), h.nm.alloc1 _, h.f5, (by
      intro a e
      injection e with e
      subst e
      have := h.nm.lt
      simp only; omega), h.hb, h.hnb⟩
/-- Other names to go through, just laid. -/
theorem HTS.names (h : HTS B b n c k A zs w nb ns A5 c5 l A8 c8 tl wx) (ms : List ByteArray) (t : TypeId) : HTS B b n c k A zs w wx.heap.size ms A5 c5 l A8 c8 tl (wx.alloc (.cells (ms.map Value.string).toArray t)) :=
  ⟨h.o5.alloc _, h.o8.alloc _, h.ap, h.d.allocD _, h.z5, h.z8, hc_new wx _ t, (fun a e => by have := (h.o5.block_lt a e).2.2.2; omega), (fun a e => by have := (h.o8.block_lt a e).2.2.2; omega), h.hb, h.d.sz⟩
theorem HTS.name (h : HTS B b n c k A zs w nb ns A5 c5 l A8 c8 tl wx) {i : Nat} (hi : i < ns.length) : wx.cell? ⟨nb, i, none⟩ = some (.string (ns.getD i ⟨#[]⟩)) :=
  h.nm.at_ i _ (by rw [List.getElem?_map]; simp [List.getD, List.getElem?_eq_getElem hi])
end
def DrawHT (B b n c k : Nat) (A : Option Addr) (zs : List Int) (w0 w : World) (e : Ending) (w' : World) : Prop :=
  ∃ (A5 : Option Addr) (c5 : Nat) (l : List HelperR) (A8 : Option Addr) (c8 : Nat) (tl : List TaskR), e = .returned (.tuple #[.slice A5 l.length c5, .slice A8 tl.length c8]) ∧ l.length ≤ 20 ∧ tl.length ≤ 20 ∧
    Own w' w.heap.size 35 3 A5 l.length c5 (l.flatMap HelperR.cells) ∧ Own w' w.heap.size 67 3 A8 tl.length c8 (tl.flatMap TaskR.cells) ∧ Apart A5 A8 ∧
    (∀ x ∈ l, x.Id.size ≤ 1048576) ∧ (∀ x ∈ tl, x.Id.size ≤ 1048576) ∧ DS B b A n c zs w0 w' k ∧ Touch w w' (some ⟨b, 0, none⟩)
theorem HTS.fin {B b n c k : Nat} {A : Option Addr} {zs : List Int} {w0 w wx : World} {nb : Nat} {ns : List ByteArray} {A5 : Option Addr} {c5 : Nat} {l : List HelperR} {A8 : Option Addr} {c8 : Nat} {tl : List TaskR} {k0 k' : Nat}
    (h : HTS B b n c k A zs w nb ns A5 c5 l A8 c8 tl wx) (h0 : DS B b A n c zs w0 w k0) (hk : k ≤ k') (hl : l.length ≤ 20) (ht : tl.length ≤ 20) : DrawHT B b n c k' A zs w0 w (.returned (.tuple #[.slice A5 l.length c5, .slice A8 tl.length c8])) wx :=
  ⟨A5, c5, l, A8, c8, tl, rfl, hl, ht, h.o5, h.o8, h.ap, h.z5, h.z8, (h0.call h.d.src h.d.t).more hk, h.d.t⟩
end Go.Proofs.Ytcacmiafmanniaa
