/-
  DERIVED. GIVEN WITH THE SEED: THE CARDS: each row of YtickepianllblaaGreatDoorRows.lean that lists a variable, with what it lists TIED to the program's text (the seventh form; the later family's looks); each row that meets fmt, with fmt's text TOLD by the authors' own Lean function (tested against real Go, not proved from fmt's source: count such statements apart). THE CARD IS WHAT COUNTS. Prove the row's statement (the work); the ties are given (YtickepianllblaaGreatDoorTie.lean); close each card by the builder's one call (the guide's Derived/Test/ToyasCard.lean, 'card_holds'). Laid BY PROGRAM, IN A SANDBOX (cutbox-door.mjs). By AI agents, Wed Nov 11 2026. No macro, syntax, notation, axiom, sorry.
-/
import Derived.Test.YtickepianllblaaGreatDoorRows
import GoSem.ClaimSeven
namespace Go.Proofs.YtickepianllblaaGreatDoor
namespace Rows

/-- THE TIED CARD OF 'laws.FnInspections'. -/
def fnInspectionsCard : Claim7 := { stood := { row := fnInspectionsRow, standIns := [], harness := (true, "434970ca6b3456ee48d5ca34e3cc5d7c8fca103c2fe637631b081200088449cb"), looks := true }, kinds := [], alts := [], laidByText := true, laidKinds := [.data, .data, .data, .data, .sentinel, .sentinel, .pinned], laidTests := true, laidLooks := .later }
def FnInspectionsCardSaid : Prop := Claim7.holds Tryz.pinned (.plain (OpenSpec.ofChange fnInspectionsSpec)) fnInspectionsCard

/-- THE SECOND FORM's CARD OF 'laws.FnInspections'. -/
def fnInspectionsUptoCard : Claim7 := { stood := { row := fnInspectionsUptoRow, standIns := [], harness := (true, "434970ca6b3456ee48d5ca34e3cc5d7c8fca103c2fe637631b081200088449cb"), looks := true }, kinds := [], alts := [], laidByText := true, laidKinds := [.data, .data, .data, .data, .sentinel, .sentinel, .pinned], laidTests := true, laidLooks := .later }
def FnInspectionsUptoCardSaid : Prop := Claim7.holds Tryz.pinned (.plain (OpenSpec.upto fnInspectionsSpec)) fnInspectionsUptoCard
end Rows
end Go.Proofs.YtickepianllblaaGreatDoor
