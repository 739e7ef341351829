/- Cells of a struct behind a pointer; what a call may touch beside them; the counter of a search. -/
import Derived.Test.YtickepianllblaaGreatDoorX
import Derived.Test.YtickepianllblaaGreatDoorC
namespace Go.Proofs.YtickepianllblaaGreatDoor
open Go.RowKit
set_option maxRecDepth 100000
set_option linter.unusedVariables false
set_option linter.unusedSimpArgs false

/-! ### memory: cells of a struct behind a pointer -/
structure HC (w : World) (b : Nat) (vs : List Value) : Prop where
  at_ : ∀ j u, vs[j]? = some u → w.cell? ⟨b, j, none⟩ = some u
  fz : ∀ j, w.frozen? ⟨b, j, none⟩ = false
  lt : b < w.heap.size
theorem HC.set {w : World} {b j : Nat} {vs : List Value} (h : HC w b vs) (v : Value) (hj : j < vs.length) : HC (w.setCell ⟨b, j, none⟩ v) b (vs.set j v) := by
  refine ⟨fun i u hu => ?_, fun i => by rw [World.frozen?_setCell]; exact h.fz i, by simpa [World.setCell] using h.lt⟩
  have hc := h.at_ j _ (List.getElem?_eq_getElem hj)
  by_cases e : i = j
  · subst e
    rw [List.getElem?_set_self hj] at hu
    injection hu with hu
    subst hu
    exact World.cell?_setCell_same _ _ _ hc
  · rw [List.getElem?_set_ne (fun x => e x.symm)] at hu
    rw [← h.at_ i u hu]
    exact World.cell?_setCell_other _ _ _ _ (fun x => by injection x with _ x; exact e x.symm)
theorem HC.keep {w w' : World} {b : Nat} {vs : List Value} (h : HC w b vs) (hb : w'.heap[b]? = w.heap[b]?) (hs : w.heap.size ≤ w'.heap.size) : HC w' b vs :=
  ⟨fun j u hu => (World.cell?_of_block (a := ⟨b, j, none⟩) hb).trans (h.at_ j u hu), fun j => (World.frozen?_of_block (a := ⟨b, j, none⟩) hb).trans (h.fz j), Nat.lt_of_lt_of_le h.lt hs⟩
theorem HC.below {w w' : World} {b B : Nat} {vs : List Value} (h : HC w b vs) (hb : Below B w w') (hB : b < B) : HC w' b vs := h.keep (hb.block b hB) hb.size
theorem HC.drewN {w : World} {b : Nat} {vs : List Value} (h : HC w b vs) (d : Nat) : HC (w.drewN d) b vs := ⟨h.at_, h.fz, h.lt⟩
theorem HC.grown {w w' : World} {b : Nat} {A : Option Addr} {vs : List Value} (h : HC w b vs) (hg : w.grownBy w' (A.map (·.block))) (hA : ∀ a, A = some a → a.block ≠ b) : HC w' b vs :=
  h.keep (hg.block b h.lt (fun e => by cases A with
    | none => cases e
    | some a => exact hA a rfl (by simpa using e.symm))) hg.size
theorem touch_setM (w : World) (x j : Nat) (v : Value) : Touch w (w.setCell ⟨x, j, none⟩ v) (some ⟨x, 0, none⟩) :=
  ⟨rfl, rfl, rfl, by simp [World.setCell], fun k hk hn => Below.heap_setCell _ _ _ _ (by have := hn ⟨x, 0, none⟩ rfl; simp only at this ⊢; omega)⟩
theorem Own.setFar {w : World} {b B e size n c j : Nat} {A : Option Addr} {xs : List Value} (h : Own w B e size A n c xs) (hB : b < B) (v : Value) : Own (w.setCell ⟨b, j, none⟩ v) B e size A n c xs :=
  h.touch (touch_setM w b j v) (by intro a a' e1 e2; injection e1 with e1; subst e1; have := h.from a' e2; simp only; omega)
theorem Own.headM {w : World} {B e size n c k : Nat} {A : Option Addr} {xs : List Value} (h : Own w B e size A n c xs) (hk : k ≤ n) : Own w B e size A k c (xs.take (k * size)) := by
  have hkn : k * size ≤ n * size := Nat.mul_le_mul_right _ hk
  refine ⟨by rw [List.length_take, h.1]; omega, ?_⟩
  rcases h.2 with ⟨hv, h0⟩ | ⟨g, cap, cur, hv, hb, hg, hnc, hm, hs, ht⟩
  · injection hv with e1 e2 e3
    subst e1; subst e3
    exact .inl ⟨by rw [show k = 0 by omega], by omega⟩
  · injection hv with e1 e2 e3
    subst e1; subst e3
    exact .inr ⟨g, c, cur, rfl, hb, hg, by omega, hm, hs, by rw [← ht, List.take_take, Nat.min_eq_left hkn]⟩

/-- Of what was there only block b and the block at A may have changed. -/
structure Touch2 (w w' : World) (b : Nat) (A : Option Addr) : Prop where
  os : w'.os = w.os
  tape : w'.tape = w.tape
  output : w'.output = w.output
  size : w.heap.size ≤ w'.heap.size
  block : ∀ k, k < w.heap.size → k ≠ b → (∀ a, A = some a → a.block ≠ k) → w'.heap[k]? = w.heap[k]?
/-- A1 lies where A lay, or in memory that is new since w. -/
def OldNew (w : World) (A A1 : Option Addr) : Prop := ∀ a, A1 = some a → (∃ a0, A = some a0 ∧ a0.block = a.block) ∨ w.heap.size ≤ a.block
theorem OldNew.refl (w : World) (A : Option Addr) : OldNew w A A := fun a h => .inl ⟨a, h, rfl⟩
theorem OldNew.trans {w w1 : World} {A A1 A2 : Option Addr} (h : OldNew w A A1) (h1 : OldNew w1 A1 A2) (hs : w.heap.size ≤ w1.heap.size) : OldNew w A A2 := fun a ha => by
  rcases h1 a ha with ⟨a1, e1, e2⟩ | h2
  · rcases h a1 e1 with ⟨a0, e3, e4⟩ | h3
    · exact .inl ⟨a0, e3, e4.trans e2⟩
    · exact .inr (by omega)
  · exact .inr (by omega)
theorem Touch2.refl (w : World) (b : Nat) (A : Option Addr) : Touch2 w w b A := ⟨rfl, rfl, rfl, Nat.le_refl _, fun _ _ _ _ => rfl⟩
theorem Touch2.trans {w w1 w2 : World} {b : Nat} {A A1 : Option Addr} (h : Touch2 w w1 b A) (h1 : Touch2 w1 w2 b A1) (ho : OldNew w A A1) : Touch2 w w2 b A :=
  ⟨h1.os.trans h.os, h1.tape.trans h.tape, h1.output.trans h.output, Nat.le_trans h.size h1.size, fun k hk hb hA => (h1.block k (Nat.lt_of_lt_of_le hk h.size) hb (fun a ha => by
    rcases ho a ha with ⟨a0, e1, e2⟩ | h2
    · rw [← e2]; exact hA a0 e1
    · omega)).trans (h.block k hk hb hA)⟩
theorem Touch2.of_below {w w' : World} (b : Nat) (A : Option Addr) (h : Below w.heap.size w w') : Touch2 w w' b A := ⟨h.os, h.tape, h.output, h.size, fun k hk _ _ => h.block k hk⟩
theorem Touch2.of_set (w : World) (b j : Nat) (v : Value) (A : Option Addr) : Touch2 w (w.setCell ⟨b, j, none⟩ v) b A := ⟨rfl, rfl, rfl, by simp [World.setCell], fun k hk hb _ => Below.heap_setCell _ _ _ _ hb⟩
theorem Touch2.of_grown {w w' : World} {b : Nat} {A : Option Addr} (h : w.grownBy w' (A.map (·.block))) : Touch2 w w' b A := ⟨h.os, h.tape, h.output, h.size, fun k hk _ hA => h.block k hk (fun e => by
    cases A with
    | none => cases e
    | some a => exact hA a rfl (by simpa using e.symm))⟩
theorem Touch2.below {w w' : World} {b : Nat} {A : Option Addr} (h : Touch2 w w' b A) (hb : b ≤ w.heap.size) (hA : ∀ a, A = some a → b ≤ a.block) : Below b w w' :=
  ⟨h.os, h.tape, h.output, h.size, fun k hk => h.block k (by omega) (by omega) (fun a ha => by have := hA a ha; omega)⟩
theorem Own.touch2 {w w' : World} {B b e size n c : Nat} {A A2 : Option Addr} {xs : List Value} (h : Own w B e size A2 n c xs) (t : Touch2 w w' b A) (hb : b < B) (ha : Apart A A2) : Own w' B e size A2 n c xs := by
  refine ⟨h.1, ?_⟩
  rcases h.2 with hv | ⟨g, cap, cur, hv, hB, hgg, r⟩
  · exact .inl hv
  · refine .inr ⟨g, cap, cur, hv, hB, ?_, r⟩
    have hA : A2 = some ⟨g, 0, none⟩ := by injection hv
    rw [t.block g (Array.getElem?_eq_some_iff.1 hgg).1 (by omega) (fun a e => ha a _ e hA)]
    exact hgg
theorem apart_old {w : World} {A2 A A1 : Option Addr} (h : Apart A2 A) (ho : OldNew w A A1) (hl : ∀ a, A2 = some a → a.block < w.heap.size) : Apart A2 A1 := by
  intro a a' e1 e2
  rcases ho a' e2 with ⟨a0, e3, e4⟩ | h2
  · rw [← e4]; exact h a a0 e1 e3
  · have := hl a e1; omega

theorem HC.touch2 {w w' : World} {b b' : Nat} {A : Option Addr} {vs : List Value} (h : HC w b vs) (t : Touch2 w w' b' A) (hb : b ≠ b') (hA : ∀ a, A = some a → a.block ≠ b) : HC w' b vs := h.keep (t.block b h.lt hb hA) t.size
theorem touch2_belowM {w w' : World} {b : Nat} (h : Touch2 w w' b none) (hb : b ≤ w.heap.size) : Below b w w' := h.below hb (fun a e => by cases e)
end Go.Proofs.YtickepianllblaaGreatDoor
