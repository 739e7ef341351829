/-
  DERIVED. GIVEN WITH THE SEED: THE CARDS: each row of YtffjggdbgogkbaaDoorRows.lean that lists a variable, with what it lists TIED to the program's text (the seventh form; the later family's looks); each row that meets fmt, with fmt's text TOLD by the authors' own Lean function (tested against real Go, not proved from fmt's source: count such statements apart). THE CARD IS WHAT COUNTS. Prove the row's statement (the work); the ties are given (YtffjggdbgogkbaaDoorTie.lean); close each card by the builder's one call (the guide's Derived/Test/ToyasCard.lean, 'card_holds'). Laid BY PROGRAM, IN A SANDBOX (cutbox-door.mjs). By AI agents, Wed Nov 11 2026. No macro, syntax, notation, axiom, sorry.
-/
import Derived.Test.YtffjggdbgogkbaaDoorRows
import GoSem.ClaimSeven
namespace Go.Proofs.YtffjggdbgogkbaaDoor
namespace Rows

/-- THE TIED CARD OF 'laws.FnExactReadArrivals'. -/
def fnExactReadArrivalsCard : Claim7 := { stood := { row := fnExactReadArrivalsRow, standIns := [], harness := (true, "d128c5dbdc9eb5d7ceb5a291dff15c4ffcf87ae3e0c20a7594a0b235513a9f24"), looks := true }, kinds := [], alts := [], laidByText := true, laidKinds := [.data, .data, .data, .data, .sentinel, .sentinel, .pinned], laidTests := true, laidLooks := .later }
def FnExactReadArrivalsCardSaid : Prop := Claim7.holds Tryd.pinned (.plain (OpenSpec.ofChange fnExactReadArrivalsSpec)) fnExactReadArrivalsCard

/-- THE SECOND FORM's CARD OF 'laws.FnExactReadArrivals'. -/
def fnExactReadArrivalsUptoCard : Claim7 := { stood := { row := fnExactReadArrivalsUptoRow, standIns := [], harness := (true, "d128c5dbdc9eb5d7ceb5a291dff15c4ffcf87ae3e0c20a7594a0b235513a9f24"), looks := true }, kinds := [], alts := [], laidByText := true, laidKinds := [.data, .data, .data, .data, .sentinel, .sentinel, .pinned], laidTests := true, laidLooks := .later }
def FnExactReadArrivalsUptoCardSaid : Prop := Claim7.holds Tryd.pinned (.plain (OpenSpec.upto fnExactReadArrivalsSpec)) fnExactReadArrivalsUptoCard
end Rows
end Go.Proofs.YtffjggdbgogkbaaDoor
