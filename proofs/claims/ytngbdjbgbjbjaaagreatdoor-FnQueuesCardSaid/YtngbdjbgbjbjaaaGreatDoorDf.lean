/- The reference's draws of the two laws of rope tests, whole. -/
import Derived.Test.YtngbdjbgbjbjaaaGreatDoorDe
import Derived.Deep.RegionHeld3
import Derived.BigQuiet
namespace Go.Proofs.YtngbdjbgbjbjaaaGreatDoor
open Go.RowKit
set_option maxRecDepth 100000
set_option linter.unusedVariables false
set_option linter.unusedSimpArgs false

def DrawI (B b n c k : Nat) (A : Option Addr) (zs : List Int) (w0 w : World) (e : Ending) (w' : World) : Prop := ∃ x : Int, e = .returned (.int .i64 x) ∧ DS B b A n c zs w0 w' k ∧ Touch w w' (some ⟨b, 0, none⟩)
theorem DS.one {B b n c k : Nat} {A : Option Addr} {zs : List Int} {w0 w : World} (h : DS B b A n c zs w0 w k) (hk : k ≤ 1000000) (m : Int) : Calls Tryz.prog 54 #[.pointer (some ⟨b, 0, none⟩), .int .i64 m] w fun e w' => ∃ x : Bool, e = .returned (.bool x) ∧ DS B b A n c zs w0 w' (k + 2) ∧ Touch w w' (some ⟨b, 0, none⟩) :=
  (one_any h.src h.bz h.hB h.hn hk).mono fun e w' ⟨x, h1, s, t⟩ => ⟨x, h1, h.call s t, t⟩
def DrawSL (w : World) (e : Ending) (w' : World) : Prop := ∃ (r0 r1 r2 r3 : Int) (A2 : Option Addr) (c2 : Nat) (xs : List Int) (x : Int), e = .returned (.tuple #[.agg #[.int .i64 r0, .int .i64 r1, .int .i64 r2, .int .i64 r3], .slice A2 xs.length c2, .int .i64 x]) ∧ xs.length ≤ 62 ∧ Own w' w.heap.size 2 1 A2 xs.length c2 (xs.map (Value.int .i64)) ∧ Below w.heap.size w w'
end Go.Proofs.YtngbdjbgbjbjaaaGreatDoor
