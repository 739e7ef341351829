/- The reference's draws of spots and of a width. -/
import Derived.Test.YtngbdjbgbjbjaaaGreatDoorDd
namespace Go.Proofs.YtngbdjbgbjbjaaaGreatDoor
open Go.RowKit
set_option maxRecDepth 100000
set_option linter.unusedVariables false
set_option linter.unusedSimpArgs false

def DrawS (B b n c k : Nat) (A : Option Addr) (zs : List Int) (w0 w : World) (e : Ending) (w' : World) : Prop := ∃ (A2 : Option Addr) (c2 : Nat) (xs : List Int), e = .returned (.slice A2 xs.length c2) ∧ xs.length ≤ 62 ∧ Own w' w.heap.size 2 1 A2 xs.length c2 (xs.map (Value.int .i64)) ∧ DS B b A n c zs w0 w' k ∧ Touch w w' (some ⟨b, 0, none⟩)
theorem own_far {w w' : World} {B e n c b : Nat} {A : Option Addr} {xs : List Value} (h : Own w B e 1 A n c xs) (t : Touch w w' (some ⟨b, 0, none⟩)) (hb : b < B) : Own w' B e 1 A n c xs :=
  h.touch t (by intro a a' e e'; injection e with e; subst e; have := (h.block_lt a' e').2.2.1; simp only; omega)
theorem touch_below {w w' w2 : World} {b B : Nat} (t : Touch w w' (some ⟨b, 0, none⟩)) (h : Below B w' w2) (hB : w.heap.size ≤ B) : Touch w w2 (some ⟨b, 0, none⟩) :=
  ⟨h.os.trans t.os, h.tape.trans t.tape, h.output.trans t.output, Nat.le_trans t.size h.size, fun k hk hn => (h.block k (by omega)).trans (t.block k hk hn)⟩
end Go.Proofs.YtngbdjbgbjbjaaaGreatDoor
