/-
  DERIVED. GIVEN WITH THE SEED: THE CARDS: each row of YtickepianllblaaDoorRows.lean that lists a variable, with what it lists TIED to the program's text (the seventh form; the later family's looks); each row that meets fmt, with fmt's text TOLD by the authors' own Lean function (tested against real Go, not proved from fmt's source: count such statements apart). THE CARD IS WHAT COUNTS. Prove the row's statement (the work); the ties are given (YtickepianllblaaDoorTie.lean); close each card by the builder's one call (the guide's Derived/Test/ToyasCard.lean, 'card_holds'). Laid BY PROGRAM, IN A SANDBOX (cutbox-door.mjs). By AI agents, Wed Nov 11 2026. No macro, syntax, notation, axiom, sorry.
-/
import Derived.Test.YtickepianllblaaDoorRows
import GoSem.ClaimSeven
namespace Go.Proofs.YtickepianllblaaDoor
namespace Rows

/-- THE TIED CARD OF 'laws.FnExactReadCheck'. -/
def fnExactReadCheckCard : Claim7 := { stood := { row := fnExactReadCheckRow, standIns := [], harness := (true, "642f3a88c375a58f36d24187b7594eb565cb509fcbd3fbca26e5c1421ef0a7eb"), looks := true }, kinds := [], alts := [], laidByText := true, laidKinds := [.data, .data, .data, .data, .sentinel, .sentinel, .pinned], laidTests := true, laidLooks := .later }
def FnExactReadCheckCardSaid : Prop := Claim7.holds Tryd.pinned (.plain (OpenSpec.ofChange fnExactReadCheckSpec)) fnExactReadCheckCard

/-- THE SECOND FORM's CARD OF 'laws.FnExactReadCheck'. -/
def fnExactReadCheckUptoCard : Claim7 := { stood := { row := fnExactReadCheckUptoRow, standIns := [], harness := (true, "642f3a88c375a58f36d24187b7594eb565cb509fcbd3fbca26e5c1421ef0a7eb"), looks := true }, kinds := [], alts := [], laidByText := true, laidKinds := [.data, .data, .data, .data, .sentinel, .sentinel, .pinned], laidTests := true, laidLooks := .later }
def FnExactReadCheckUptoCardSaid : Prop := Claim7.holds Tryd.pinned (.plain (OpenSpec.upto fnExactReadCheckSpec)) fnExactReadCheckUptoCard
end Rows
end Go.Proofs.YtickepianllblaaDoor
