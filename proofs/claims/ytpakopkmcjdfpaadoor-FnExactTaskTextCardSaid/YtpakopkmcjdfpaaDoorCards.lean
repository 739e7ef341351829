/-
  DERIVED. GIVEN WITH THE SEED: THE CARDS: each row of YtpakopkmcjdfpaaDoorRows.lean that lists a variable, with what it lists TIED to the program's text (the seventh form; the later family's looks); each row that meets fmt, with fmt's text TOLD by the authors' own Lean function (tested against real Go, not proved from fmt's source: count such statements apart). THE CARD IS WHAT COUNTS. Prove the row's statement (the work); the ties are given (YtpakopkmcjdfpaaDoorTie.lean); close each card by the builder's one call (the guide's Derived/Test/ToyasCard.lean, 'card_holds'). Laid BY PROGRAM, IN A SANDBOX (cutbox-door.mjs). By AI agents, Wed Nov 11 2026. No macro, syntax, notation, axiom, sorry.
-/
import Derived.Test.YtpakopkmcjdfpaaDoorRows
import GoSem.ClaimSeven
namespace Go.Proofs.YtpakopkmcjdfpaaDoor
namespace Rows

/-- THE TIED CARD OF 'laws.FnExactHelperText'. -/
def fnExactHelperTextCard : Claim7 := { stood := { row := fnExactHelperTextRow, standIns := [], harness := (true, "a8684c16d76f2ad3988952b65930c8ad699af88f9ba9e52e7bcaa2266ea75f17"), looks := false }, kinds := [], alts := [], laidByText := true, laidKinds := [.data, .data, .data], laidTests := true, laidLooks := .later }
def FnExactHelperTextCardSaid : Prop := Claim7.holds Tryd.pinned (.plain (OpenSpec.ofChange fnExactHelperTextSpec)) fnExactHelperTextCard

/-- THE TIED CARD OF 'laws.FnExactTaskText'. -/
def fnExactTaskTextCard : Claim7 := { stood := { row := fnExactTaskTextRow, standIns := [], harness := (true, "a8684c16d76f2ad3988952b65930c8ad699af88f9ba9e52e7bcaa2266ea75f17"), looks := false }, kinds := [], alts := [], laidByText := true, laidKinds := [.data, .data, .data], laidTests := true, laidLooks := .later }
def FnExactTaskTextCardSaid : Prop := Claim7.holds Tryd.pinned (.plain (OpenSpec.ofChange fnExactTaskTextSpec)) fnExactTaskTextCard

/-- THE SECOND FORM's CARD OF 'laws.FnExactHelperText'. -/
def fnExactHelperTextUptoCard : Claim7 := { stood := { row := fnExactHelperTextUptoRow, standIns := [], harness := (true, "a8684c16d76f2ad3988952b65930c8ad699af88f9ba9e52e7bcaa2266ea75f17"), looks := false }, kinds := [], alts := [], laidByText := true, laidKinds := [.data, .data, .data], laidTests := true, laidLooks := .later }
def FnExactHelperTextUptoCardSaid : Prop := Claim7.holds Tryd.pinned (.plain (OpenSpec.upto fnExactHelperTextSpec)) fnExactHelperTextUptoCard

/-- THE SECOND FORM's CARD OF 'laws.FnExactTaskText'. -/
def fnExactTaskTextUptoCard : Claim7 := { stood := { row := fnExactTaskTextUptoRow, standIns := [], harness := (true, "a8684c16d76f2ad3988952b65930c8ad699af88f9ba9e52e7bcaa2266ea75f17"), looks := false }, kinds := [], alts := [], laidByText := true, laidKinds := [.data, .data, .data], laidTests := true, laidLooks := .later }
def FnExactTaskTextUptoCardSaid : Prop := Claim7.holds Tryd.pinned (.plain (OpenSpec.upto fnExactTaskTextSpec)) fnExactTaskTextUptoCard
end Rows
end Go.Proofs.YtpakopkmcjdfpaaDoor
