/- The reference's draw of a rope. -/
import Derived.Test.YtngbdjbgbjbjaaaGreatDoorDc
namespace Go.Proofs.YtngbdjbgbjbjaaaGreatDoor
open Go.RowKit
set_option maxRecDepth 100000
set_option linter.unusedVariables false
set_option linter.unusedSimpArgs false

def DrawR (B b n c k : Nat) (A : Option Addr) (zs : List Int) (w0 w : World) (e : Ending) (w' : World) : Prop := ∃ r0 r1 r2 r3 : Int, e = .returned (.agg #[.int .i64 r0, .int .i64 r1, .int .i64 r2, .int .i64 r3]) ∧ DS B b A n c zs w0 w' k ∧ Touch w w' (some ⟨b, 0, none⟩)
end Go.Proofs.YtngbdjbgbjbjaaaGreatDoor
