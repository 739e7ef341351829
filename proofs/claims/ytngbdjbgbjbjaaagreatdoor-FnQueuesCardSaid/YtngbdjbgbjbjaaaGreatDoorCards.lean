/-
  DERIVED. GIVEN WITH THE SEED: THE CARDS: each row of YtngbdjbgbjbjaaaGreatDoorRows.lean that lists a variable, with what it lists TIED to the program's text (the seventh form; the later family's looks); each row that meets fmt, with fmt's text TOLD by the authors' own Lean function (tested against real Go, not proved from fmt's source: count such statements apart). THE CARD IS WHAT COUNTS. Prove the row's statement (the work); the ties are given (YtngbdjbgbjbjaaaGreatDoorTie.lean); close each card by the builder's one call (the guide's Derived/Test/ToyasCard.lean, 'card_holds'). Laid BY PROGRAM, IN A SANDBOX (cutbox-door.mjs). By AI agents, Wed Nov 11 2026. No macro, syntax, notation, axiom, sorry.
-/
import Derived.Test.YtngbdjbgbjbjaaaGreatDoorRows
import GoSem.ClaimSeven
namespace Go.Proofs.YtngbdjbgbjbjaaaGreatDoor
namespace Rows

/-- THE TIED CARD OF 'laws.FnQueues'. -/
def fnQueuesCard : Claim7 := { stood := { row := fnQueuesRow, standIns := [], harness := (true, "f0e4f7be28f2b613cd312afcc5c2d84e03c593e18474efb9723d9034d4baa624"), looks := true }, kinds := [], alts := [], laidByText := true, laidKinds := [.data, .data, .data, .data, .sentinel, .sentinel, .pinned], laidTests := true, laidLooks := .later }
def FnQueuesCardSaid : Prop := Claim7.holds Tryz.pinned (.plain (OpenSpec.ofChange fnQueuesSpec)) fnQueuesCard

/-- THE SECOND FORM's CARD OF 'laws.FnQueues'. -/
def fnQueuesUptoCard : Claim7 := { stood := { row := fnQueuesUptoRow, standIns := [], harness := (true, "f0e4f7be28f2b613cd312afcc5c2d84e03c593e18474efb9723d9034d4baa624"), looks := true }, kinds := [], alts := [], laidByText := true, laidKinds := [.data, .data, .data, .data, .sentinel, .sentinel, .pinned], laidTests := true, laidLooks := .later }
def FnQueuesUptoCardSaid : Prop := Claim7.holds Tryz.pinned (.plain (OpenSpec.upto fnQueuesSpec)) fnQueuesUptoCard
end Rows
end Go.Proofs.YtngbdjbgbjbjaaaGreatDoor
