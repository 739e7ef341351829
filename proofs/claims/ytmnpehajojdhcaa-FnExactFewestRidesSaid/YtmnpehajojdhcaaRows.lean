/-
  No cell of these rows narrows 'for every input' (looked for: loops, veiled, ifaces, maps, wideKeys, modest, calm, conditions, laid).
  DERIVED. THE GIVEN ROWS OF THIS SEAT. 4 by the template 'for every input the law returns true; each argument reads behind the call as it read before'; 0 by the template 'total and deterministic' (their statements: YtmnpehajojdhcaaTotals.lean).
  GIVEN WITH THE SEED: the statements are not yours to turn. If you find one false, say at which input.
  Laid BY PROGRAM, IN A SANDBOX (cutbox-rows.mjs): the forced cells as the released guide's own fill.sh prints them over the translation 2f337346342928e3… (all of the seat's roots in one cut). By AI agents, Wed Nov 11 2026. No macro, syntax, notation, axiom, sorry.
-/
import Derived.Test.YtmnpehajojdhcaaChecked
import GoSem.Claim
import GoSem.ClaimJoined
import GoSem.ClaimMapViews
import Derived.JoinedTies
import Derived.KernelRfl
namespace Go.Proofs.Ytmnpehajojdhcaa
/- THE CELL 'sum', in the pinned program and in every row, IS THE sha256 OF THE DUMP (.gsa) THAT YtmnpehajojdhcaaProg.lean LOADS. Nothing in Lean hashes anything: it is a label: what it is worth is what the hold of that sum in a sandbox is worth. -/
noncomputable def Try.pinned : Pinned := { name := "ytmnpehajojdhcaa", sum := "2f337346342928e3a5540376f8c31539243c1199da4dcfa87d9d570f99ff6cd9", checked := Try.checked }
namespace Rows
def none {H : Type} : Left H := { results := [], args := [] }

/-- 'laws.FnExactBalanceGroups': WHATEVER THE INPUT: true; the input reads as it did. -/
def fnExactBalanceGroupsSpec : ChangeSpec := { name := "fnExactBalanceGroups", fn := fun _ => fun
  | [d1, d2, d3] => { results := [.lit (.bool true)], args := [d1, d2, d3] }
  | _ => none }
def fnExactBalanceGroupsRow : OpenClaim := { program := "ytmnpehajojdhcaa", sum := "2f337346342928e3a5540376f8c31539243c1199da4dcfa87d9d570f99ff6cd9", func := "loop.example/g01057/laws.FnExactBalanceGroups", spec := "fnExactBalanceGroups", unfollowed := true, recurses := true, apart := false }
def FnExactBalanceGroupsSaid : Prop := fnExactBalanceGroupsRow.holds Try.pinned (OpenSpec.ofChange fnExactBalanceGroupsSpec)

/-- ITS FALSE NEIGHBOUR: 'it returns false'. Refute it at one input. -/
def fnExactBalanceGroupsWrong : ChangeSpec := { name := "fnExactBalanceGroups", fn := fun _ => fun
  | [d1, d2, d3] => { results := [.lit (.bool false)], args := [d1, d2, d3] }
  | _ => none }
def FnExactBalanceGroupsWrongFalsely : Prop := fnExactBalanceGroupsRow.holds Try.pinned (OpenSpec.ofChange fnExactBalanceGroupsWrong)

/-- 'laws.FnExactMostPeople': WHATEVER THE INPUT: true; the input reads as it did. -/
def fnExactMostPeopleSpec : ChangeSpec := { name := "fnExactMostPeople", fn := fun _ => fun
  | [d1, d2, d3] => { results := [.lit (.bool true)], args := [d1, d2, d3] }
  | _ => none }
def fnExactMostPeopleRow : OpenClaim := { program := "ytmnpehajojdhcaa", sum := "2f337346342928e3a5540376f8c31539243c1199da4dcfa87d9d570f99ff6cd9", func := "loop.example/g01057/laws.FnExactMostPeople", spec := "fnExactMostPeople", recurses := true, apart := false }
def FnExactMostPeopleSaid : Prop := fnExactMostPeopleRow.holds Try.pinned (OpenSpec.ofChange fnExactMostPeopleSpec)

/-- ITS FALSE NEIGHBOUR: 'it returns false'. Refute it at one input. -/
def fnExactMostPeopleWrong : ChangeSpec := { name := "fnExactMostPeople", fn := fun _ => fun
  | [d1, d2, d3] => { results := [.lit (.bool false)], args := [d1, d2, d3] }
  | _ => none }
def FnExactMostPeopleWrongFalsely : Prop := fnExactMostPeopleRow.holds Try.pinned (OpenSpec.ofChange fnExactMostPeopleWrong)

/-- 'laws.FnExactFewestRides': WHATEVER THE INPUT: true; the input reads as it did. -/
def fnExactFewestRidesSpec : ChangeSpec := { name := "fnExactFewestRides", fn := fun _ => fun
  | [d1, d2, d3] => { results := [.lit (.bool true)], args := [d1, d2, d3] }
  | _ => none }
def fnExactFewestRidesRow : OpenClaim := { program := "ytmnpehajojdhcaa", sum := "2f337346342928e3a5540376f8c31539243c1199da4dcfa87d9d570f99ff6cd9", func := "loop.example/g01057/laws.FnExactFewestRides", spec := "fnExactFewestRides", recurses := true, apart := false }
def FnExactFewestRidesSaid : Prop := fnExactFewestRidesRow.holds Try.pinned (OpenSpec.ofChange fnExactFewestRidesSpec)

/-- ITS FALSE NEIGHBOUR: 'it returns false'. Refute it at one input. -/
def fnExactFewestRidesWrong : ChangeSpec := { name := "fnExactFewestRides", fn := fun _ => fun
  | [d1, d2, d3] => { results := [.lit (.bool false)], args := [d1, d2, d3] }
  | _ => none }
def FnExactFewestRidesWrongFalsely : Prop := fnExactFewestRidesRow.holds Try.pinned (OpenSpec.ofChange fnExactFewestRidesWrong)

/-- 'laws.FnBasins': WHATEVER THE INPUT: true; the input reads as it did. -/
def fnBasinsSpec : ChangeSpec := { name := "fnBasins", fn := fun _ => fun
  | [d1, d2] => { results := [.lit (.bool true)], args := [d1, d2] }
  | _ => none }
def fnBasinsRow : OpenClaim := { program := "ytmnpehajojdhcaa", sum := "2f337346342928e3a5540376f8c31539243c1199da4dcfa87d9d570f99ff6cd9", func := "loop.example/g01057/laws.FnBasins", spec := "fnBasins", unfollowed := true, recurses := true, apart := false }
def FnBasinsSaid : Prop := fnBasinsRow.holds Try.pinned (OpenSpec.ofChange fnBasinsSpec)

/-- ITS FALSE NEIGHBOUR: 'it returns false'. Refute it at one input. -/
def fnBasinsWrong : ChangeSpec := { name := "fnBasins", fn := fun _ => fun
  | [d1, d2] => { results := [.lit (.bool false)], args := [d1, d2] }
  | _ => none }
def FnBasinsWrongFalsely : Prop := fnBasinsRow.holds Try.pinned (OpenSpec.ofChange fnBasinsWrong)

/- THE SECOND FORM. 'bulk': how many values and letters a reading holds, each counted each time it is reached (what is shared counts as often as it is met; a slice's spare places count too). A statement '..UptoSaid' is the law's where the arguments, and the package variables that the reading takes, are together of bulk at most 1048576: NARROWER than '..Said'. Prove '..Said' where nothing that the law and all that it calls make is longer than what came in: it says more and counts as full. Else prove '..UptoSaid'. A law counts once. -/
mutual
def uptoBulk {H : Type} : DataW H → Nat
  | .lit (.string bytes) => bytes.length + 1
  | .lit _ => 1
  | .nil => 1
  | .ptr d => uptoBulk d + 1
  | .slice elems spare => uptoBulkAll elems + uptoBulkAll spare + 1
  | .agg parts => uptoBulkAll parts + 1
  | .iface _ d => uptoBulk d + 1
  | .map entries => uptoBulkEntries entries + 1
  | .held _ => 1
def uptoBulkAll {H : Type} : List (DataW H) → Nat
  | [] => 0
  | d :: r => uptoBulk d + uptoBulkAll r
def uptoBulkEntries {H : Type} : List (Lit × DataW H) → Nat
  | [] => 0
  | x :: r => uptoBulkEntry x + uptoBulkEntries r
def uptoBulkEntry {H : Type} : Lit × DataW H → Nat
  | (.string bytes, d) => bytes.length + uptoBulk d + 1
  | (_, d) => uptoBulk d + 1
 end
def uptoSmall : (H : Type) → List (DataW H) → Bool := fun _ ds => decide (uptoBulkAll ds ≤ 1048576)
def OpenSpec.upto (s : _root_.Go.ChangeSpec) : _root_.Go.OpenSpec := { _root_.Go.OpenSpec.ofChange s with cond := some uptoSmall }

/-- 'laws.FnExactBalanceGroups', WHERE WHAT IT READS IS OF BULK AT MOST 1048576: true; the input reads as it did. -/
def fnExactBalanceGroupsUptoRow : OpenClaim := { program := "ytmnpehajojdhcaa", sum := "2f337346342928e3a5540376f8c31539243c1199da4dcfa87d9d570f99ff6cd9", func := "loop.example/g01057/laws.FnExactBalanceGroups", spec := "fnExactBalanceGroups", unfollowed := true, recurses := true, apart := false, narrowed := true }
def FnExactBalanceGroupsUptoSaid : Prop := fnExactBalanceGroupsUptoRow.holds Try.pinned (OpenSpec.upto fnExactBalanceGroupsSpec)

/-- 'laws.FnExactMostPeople', WHERE WHAT IT READS IS OF BULK AT MOST 1048576: true; the input reads as it did. -/
def fnExactMostPeopleUptoRow : OpenClaim := { program := "ytmnpehajojdhcaa", sum := "2f337346342928e3a5540376f8c31539243c1199da4dcfa87d9d570f99ff6cd9", func := "loop.example/g01057/laws.FnExactMostPeople", spec := "fnExactMostPeople", recurses := true, apart := false, narrowed := true }
def FnExactMostPeopleUptoSaid : Prop := fnExactMostPeopleUptoRow.holds Try.pinned (OpenSpec.upto fnExactMostPeopleSpec)

/-- 'laws.FnExactFewestRides', WHERE WHAT IT READS IS OF BULK AT MOST 1048576: true; the input reads as it did. -/
def fnExactFewestRidesUptoRow : OpenClaim := { program := "ytmnpehajojdhcaa", sum := "2f337346342928e3a5540376f8c31539243c1199da4dcfa87d9d570f99ff6cd9", func := "loop.example/g01057/laws.FnExactFewestRides", spec := "fnExactFewestRides", recurses := true, apart := false, narrowed := true }
def FnExactFewestRidesUptoSaid : Prop := fnExactFewestRidesUptoRow.holds Try.pinned (OpenSpec.upto fnExactFewestRidesSpec)

/-- 'laws.FnBasins', WHERE WHAT IT READS IS OF BULK AT MOST 1048576: true; the input reads as it did. -/
def fnBasinsUptoRow : OpenClaim := { program := "ytmnpehajojdhcaa", sum := "2f337346342928e3a5540376f8c31539243c1199da4dcfa87d9d570f99ff6cd9", func := "loop.example/g01057/laws.FnBasins", spec := "fnBasins", unfollowed := true, recurses := true, apart := false, narrowed := true }
def FnBasinsUptoSaid : Prop := fnBasinsUptoRow.holds Try.pinned (OpenSpec.upto fnBasinsSpec)

end Rows
end Go.Proofs.Ytmnpehajojdhcaa
