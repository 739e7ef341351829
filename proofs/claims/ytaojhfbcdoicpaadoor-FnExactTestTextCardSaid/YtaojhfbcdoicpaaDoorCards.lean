/-
  DERIVED. GIVEN WITH THE SEED: THE CARDS: each row of YtaojhfbcdoicpaaDoorRows.lean that lists a variable, with what it lists TIED to the program's text (the seventh form; the later family's looks); each row that meets fmt, with fmt's text TOLD by the authors' own Lean function (tested against real Go, not proved from fmt's source: count such statements apart). THE CARD IS WHAT COUNTS. Prove the row's statement (the work); the ties are given (YtaojhfbcdoicpaaDoorTie.lean); close each card by the builder's one call (the guide's Derived/Test/ToyasCard.lean, 'card_holds'). Laid BY PROGRAM, IN A SANDBOX (cutbox-door.mjs). By AI agents, Wed Nov 11 2026. No macro, syntax, notation, axiom, sorry.
-/
import Derived.Test.YtaojhfbcdoicpaaDoorRows
import GoSem.ClaimSeven
namespace Go.Proofs.YtaojhfbcdoicpaaDoor
namespace Rows

/-- THE TIED CARD OF 'laws.FnExactCheckText'. -/
def fnExactCheckTextCard : Claim7 := { stood := { row := fnExactCheckTextRow, standIns := [], harness := (true, "af40acf6f68bb5a764265b8cdeaa303030f1adafc4467d88b65ccffd2feb7d6a"), looks := false }, kinds := [], alts := [], laidByText := true, laidKinds := [.data, .data, .data], laidTests := true, laidLooks := .later }
def FnExactCheckTextCardSaid : Prop := Claim7.holds Tryd.pinned (.plain (OpenSpec.ofChange fnExactCheckTextSpec)) fnExactCheckTextCard

/-- THE TIED CARD OF 'laws.FnExactTestText'. -/
def fnExactTestTextCard : Claim7 := { stood := { row := fnExactTestTextRow, standIns := [], harness := (true, "af40acf6f68bb5a764265b8cdeaa303030f1adafc4467d88b65ccffd2feb7d6a"), looks := false }, kinds := [], alts := [], laidByText := true, laidKinds := [.data, .data, .data], laidTests := true, laidLooks := .later }
def FnExactTestTextCardSaid : Prop := Claim7.holds Tryd.pinned (.plain (OpenSpec.ofChange fnExactTestTextSpec)) fnExactTestTextCard

/-- THE TIED CARD OF 'laws.FnExactArrivalsText'. -/
def fnExactArrivalsTextCard : Claim7 := { stood := { row := fnExactArrivalsTextRow, standIns := [], harness := (true, "af40acf6f68bb5a764265b8cdeaa303030f1adafc4467d88b65ccffd2feb7d6a"), looks := false }, kinds := [], alts := [], laidByText := true, laidKinds := [.data, .data, .data], laidTests := true, laidLooks := .later }
def FnExactArrivalsTextCardSaid : Prop := Claim7.holds Tryd.pinned (.plain (OpenSpec.ofChange fnExactArrivalsTextSpec)) fnExactArrivalsTextCard

/-- THE SECOND FORM's CARD OF 'laws.FnExactCheckText'. -/
def fnExactCheckTextUptoCard : Claim7 := { stood := { row := fnExactCheckTextUptoRow, standIns := [], harness := (true, "af40acf6f68bb5a764265b8cdeaa303030f1adafc4467d88b65ccffd2feb7d6a"), looks := false }, kinds := [], alts := [], laidByText := true, laidKinds := [.data, .data, .data], laidTests := true, laidLooks := .later }
def FnExactCheckTextUptoCardSaid : Prop := Claim7.holds Tryd.pinned (.plain (OpenSpec.upto fnExactCheckTextSpec)) fnExactCheckTextUptoCard

/-- THE SECOND FORM's CARD OF 'laws.FnExactTestText'. -/
def fnExactTestTextUptoCard : Claim7 := { stood := { row := fnExactTestTextUptoRow, standIns := [], harness := (true, "af40acf6f68bb5a764265b8cdeaa303030f1adafc4467d88b65ccffd2feb7d6a"), looks := false }, kinds := [], alts := [], laidByText := true, laidKinds := [.data, .data, .data], laidTests := true, laidLooks := .later }
def FnExactTestTextUptoCardSaid : Prop := Claim7.holds Tryd.pinned (.plain (OpenSpec.upto fnExactTestTextSpec)) fnExactTestTextUptoCard

/-- THE SECOND FORM's CARD OF 'laws.FnExactArrivalsText'. -/
def fnExactArrivalsTextUptoCard : Claim7 := { stood := { row := fnExactArrivalsTextUptoRow, standIns := [], harness := (true, "af40acf6f68bb5a764265b8cdeaa303030f1adafc4467d88b65ccffd2feb7d6a"), looks := false }, kinds := [], alts := [], laidByText := true, laidKinds := [.data, .data, .data], laidTests := true, laidLooks := .later }
def FnExactArrivalsTextUptoCardSaid : Prop := Claim7.holds Tryd.pinned (.plain (OpenSpec.upto fnExactArrivalsTextSpec)) fnExactArrivalsTextUptoCard
end Rows
end Go.Proofs.YtaojhfbcdoicpaaDoor
