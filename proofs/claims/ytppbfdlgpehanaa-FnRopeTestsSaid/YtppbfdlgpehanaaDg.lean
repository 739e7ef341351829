/- The reference's draw for NewBroken. -/
import Derived.Test.YtppbfdlgpehanaaDf
import Derived.Deep.DeepCutAuto
import Derived.Deep.RegionLaw
namespace Go.Proofs.Ytppbfdlgpehanaa
open Go.RowKit
set_option maxRecDepth 100000
set_option linter.unusedVariables false
set_option linter.unusedSimpArgs false

def DrawNB (w : World) (e : Ending) (w' : World) : Prop := ∃ (A1 : Option Addr) (c1 : Nat) (xs : List Int) (A2 : Option Addr) (c2 : Nat) (ys : List Int), e = .returned (.tuple #[.slice A1 xs.length c1, .slice A2 ys.length c2]) ∧ xs.length ≤ 62 ∧ ys.length ≤ 63 ∧ Own w' w.heap.size 2 1 A1 xs.length c1 (xs.map (Value.int .i64)) ∧ Own w' w.heap.size 2 1 A2 ys.length c2 (ys.map (Value.int .i64)) ∧ Below w.heap.size w w'
/-- The two slices and the source, as they stand. -/
structure NBS (sb n c kk : Nat) (A : Option Addr) (zs : List Int) (w v1 : World) (A1 : Option Addr) (c1 : Nat) (xs : List Int) (A2 : Option Addr) (c2 : Nat) (ys : List Int) (wx : World) : Prop where
  o1 : Own wx w.heap.size 2 1 A1 xs.length c1 (xs.map (Value.int .i64))
  o2 : Own wx w.heap.size 2 1 A2 ys.length c2 (ys.map (Value.int .i64))
  ap : Apart A1 A2
  f1 : ∀ a, A1 = some a → v1.heap.size ≤ a.block
  f2 : ∀ a, A2 = some a → v1.heap.size ≤ a.block
  fs : sb < v1.heap.size
  d : DS w.heap.size sb A n c zs v1 wx kk
  t : Touch v1 wx (some ⟨sb, 0, none⟩)
section
variable {sb n c kk : Nat} {A : Option Addr} {zs : List Int} {w v1 : World} {A1 : Option Addr} {c1 : Nat} {xs : List Int} {A2 : Option Addr} {c2 : Nat} {ys : List Int} {wx wy : World} {g : Nat} {z0 : Int}
theorem NBS.call (h : NBS sb n c kk A zs w v1 A1 c1 xs A2 c2 ys wx) {k' : Nat} (d : DS w.heap.size sb A n c zs v1 wy k') (t : Touch wx wy (some ⟨sb, 0, none⟩)) : NBS sb n c k' A zs w v1 A1 c1 xs A2 c2 ys wy :=
  ⟨h.o1.touch t (by intro a a' e e'; injection e with e; subst e; have := h.f1 a' e'; have := h.fs; simp only; omega), h.o2.touch t (by intro a a' e e'; injection e with e; subst e; have := h.f2 a' e'; have := h.fs; simp only; omega), h.ap, h.f1, h.f2, h.fs, d, h.t.trans t⟩
theorem NBS.drew1 (h : NBS sb n c kk A zs w v1 A1 c1 xs A2 c2 ys wx) : NBS sb n c kk A zs w v1 A1 c1 xs A2 c2 ys wx.drew :=
  h.call (h.d.drewD 1) ⟨rfl, rfl, rfl, Nat.le_refl _, fun _ _ _ => rfl⟩
theorem NBS.app (h : NBS sb n c kk A zs w v1 A1 c1 xs A2 c2 ys wx) (hw : w.heap.size ≤ v1.heap.size) {o : Obj} {A3 : Option Addr} {c3 : Nat} {z : Int} (ho : Own wy w.heap.size 2 1 A3 (ys.length + 1) c3 ((ys.map (Value.int .i64)) ++ [.int .i64 z]))
    (hgA : (wx.alloc o).grownBy wy (A2.map (·.block))) (hbA : Below w.heap.size (wx.alloc o) wy) (hat : A3.map (·.block) = A2.map (·.block) ∨ A3.map (·.block) = some (wx.alloc o).heap.size) : NBS sb n c kk A zs w v1 A1 c1 xs A3 c3 (ys ++ [z]) wy := by
  have hz := h.d.sz
  have hlt := h.d.lt
  have bal : Below wx.heap.size wx (wx.alloc o) := (Below.refl _ _).alloc (Nat.le_refl _) _
  have hsz : (wx.alloc o).heap.size = wx.heap.size + 1 := by simp
  have h3 : ∀ a, A3 = some a → (∃ a2, A2 = some a2 ∧ a2.block = a.block) ∨ a.block = wx.heap.size + 1 := by
    intro a ha
    subst ha
    rcases hat with e | e
    · cases A2 with
      | none => cases e
      | some a2 =>
        have e2 : some a.block = some a2.block := e
        injection e2 with e2
        exact .inl ⟨a2, rfl, e2.symm⟩
    · right
      have e2 : some a.block = some (wx.alloc o).heap.size := e
      injection e2 with e2
      omega
  have tg : Touch wx wy (A2.map (fun a => (⟨a.block, 0, none⟩ : Addr))) := by
    refine ⟨hgA.os, hgA.tape, hgA.output, Nat.le_trans (by omega) hgA.size, fun k hk hn => ?_⟩
    have h1 : (wx.alloc o).heap[k]? = wx.heap[k]? := bal.block k hk
    have h2 : wy.heap[k]? = (wx.alloc o).heap[k]? := hgA.block k (by omega) (fun e => by
      cases A2 with
      | none => cases e
      | some a2 =>
        have e2 : some k = some a2.block := e.symm ▸ rfl
        injection e2 with e2
        exact hn _ rfl e2.symm)
    exact h2.trans h1
  have bv : Below v1.heap.size wx wy := by
    refine tg.below (B := v1.heap.size) (fun a e => ?_) hz
    cases A2 with
    | none => cases e
    | some a2 =>
      injection e with e
      subst e
      exact h.f2 a2 rfl
  have hfs := h.fs
  refine ⟨own_grown (h.o1.below bal) hgA (fun a a' e e' => (h.ap a' a e' e).symm), ?_, ?_, h.f1, ?_, hfs, h.d.belowD (bv.mono (by omega)) bv, touch_below h.t bv (Nat.le_refl _)⟩
  · rw [List.map_append, List.length_append]; exact ho
  · intro a a' e e'
    rcases h3 a' e' with ⟨a2, e2, e3⟩ | e3
    · rw [← e3]; exact h.ap a a2 e e2
    · have := (h.o1.block_lt a e).2.2.2
      omega
  · intro a e
    rcases h3 a e with ⟨a2, e2, e3⟩ | e3
    · rw [← e3]; exact h.f2 a2 e2
    · omega
theorem NBS.store0 (h : NBS sb n c kk A zs w v1 A1 c1 xs (some ⟨g, 0, none⟩) c2 (z0 :: ys) wx) (z : Int) : NBS sb n c kk A zs w v1 A1 c1 xs (some ⟨g, 0, none⟩) c2 (z :: ys) (wx.setCell ⟨g, 0, none⟩ (.int .i64 z)) := by
  have hg := h.f2 _ rfl
  have hfs := h.fs
  simp only at hg
  refine ⟨h.o1.touch (touch_setM wx g 0 _) (fun a a' e e' => ?_), ?_, h.ap, h.f1, h.f2, hfs, h.d.setD (by omega) hg, touch_setNew h.t hg⟩
  · injection e with e
    subst e
    exact (h.ap a' _ e' rfl).symm
  · exact (h.o2.stored (j := 0) (.int .i64 z)).1
end
end Go.Proofs.Ytppbfdlgpehanaa
