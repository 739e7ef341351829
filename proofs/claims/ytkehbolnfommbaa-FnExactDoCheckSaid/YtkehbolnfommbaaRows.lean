/-
  No cell of these rows narrows 'for every input' (looked for: loops, veiled, ifaces, maps, wideKeys, modest, calm, conditions, laid).
  DERIVED. THE GIVEN ROWS OF THIS SEAT. 9 by the template 'for every input the law returns true; each argument reads behind the call as it read before'; 0 by the template 'total and deterministic' (their statements: YtkehbolnfommbaaTotals.lean).
  GIVEN WITH THE SEED: the statements are not yours to turn. If you find one false, say at which input.
  Laid BY PROGRAM, IN A SANDBOX (cutbox-rows.mjs): the forced cells as the released guide's own fill.sh prints them over the translation e02ff2bca9ee464b… (all of the seat's roots in one cut). By AI agents, Wed Nov 11 2026. No macro, syntax, notation, axiom, sorry.
-/
import Derived.Test.YtkehbolnfommbaaChecked
import GoSem.Claim
import GoSem.ClaimJoined
import GoSem.ClaimMapViews
import Derived.JoinedTies
import Derived.KernelRfl
namespace Go.Proofs.Ytkehbolnfommbaa
/- THE CELL 'sum', in the pinned program and in every row, IS THE sha256 OF THE DUMP (.gsa) THAT YtkehbolnfommbaaProg.lean LOADS. Nothing in Lean hashes anything: it is a label: what it is worth is what the hold of that sum in a sandbox is worth. -/
noncomputable def Try.pinned : Pinned := { name := "ytkehbolnfommbaa", sum := "e02ff2bca9ee464b0099395dbb7cc21dcc3a53a5b0c406f4291372447f19a879", checked := Try.checked }
namespace Rows
def none {H : Type} : Left H := { results := [], args := [] }

/-- 'laws.FnExactValidChecks': WHATEVER THE INPUT: true; the input reads as it did. -/
def fnExactValidChecksSpec : ChangeSpec := { name := "fnExactValidChecks", fn := fun _ => fun
  | [d] => { results := [.lit (.bool true)], args := [d] }
  | _ => none }
def fnExactValidChecksRow : OpenClaim := { program := "ytkehbolnfommbaa", sum := "e02ff2bca9ee464b0099395dbb7cc21dcc3a53a5b0c406f4291372447f19a879", func := "loop.example/g01057/laws.FnExactValidChecks", spec := "fnExactValidChecks", apart := false }
def FnExactValidChecksSaid : Prop := fnExactValidChecksRow.holds Try.pinned (OpenSpec.ofChange fnExactValidChecksSpec)

/-- ITS FALSE NEIGHBOUR: 'it returns false'. Refute it at one input. -/
def fnExactValidChecksWrong : ChangeSpec := { name := "fnExactValidChecks", fn := fun _ => fun
  | [d] => { results := [.lit (.bool false)], args := [d] }
  | _ => none }
def FnExactValidChecksWrongFalsely : Prop := fnExactValidChecksRow.holds Try.pinned (OpenSpec.ofChange fnExactValidChecksWrong)

/-- 'laws.FnExactDueIn': WHATEVER THE INPUT: true; the input reads as it did. -/
def fnExactDueInSpec : ChangeSpec := { name := "fnExactDueIn", fn := fun _ => fun
  | [d1, d2, d3] => { results := [.lit (.bool true)], args := [d1, d2, d3] }
  | _ => none }
def fnExactDueInRow : OpenClaim := { program := "ytkehbolnfommbaa", sum := "e02ff2bca9ee464b0099395dbb7cc21dcc3a53a5b0c406f4291372447f19a879", func := "loop.example/g01057/laws.FnExactDueIn", spec := "fnExactDueIn", unfollowed := true, recurses := true, apart := false }
def FnExactDueInSaid : Prop := fnExactDueInRow.holds Try.pinned (OpenSpec.ofChange fnExactDueInSpec)

/-- ITS FALSE NEIGHBOUR: 'it returns false'. Refute it at one input. -/
def fnExactDueInWrong : ChangeSpec := { name := "fnExactDueIn", fn := fun _ => fun
  | [d1, d2, d3] => { results := [.lit (.bool false)], args := [d1, d2, d3] }
  | _ => none }
def FnExactDueInWrongFalsely : Prop := fnExactDueInRow.holds Try.pinned (OpenSpec.ofChange fnExactDueInWrong)

/-- 'laws.FnExactIsOpen': WHATEVER THE INPUT: true; the input reads as it did. -/
def fnExactIsOpenSpec : ChangeSpec := { name := "fnExactIsOpen", fn := fun _ => fun
  | [d1, d2, d3] => { results := [.lit (.bool true)], args := [d1, d2, d3] }
  | _ => none }
def fnExactIsOpenRow : OpenClaim := { program := "ytkehbolnfommbaa", sum := "e02ff2bca9ee464b0099395dbb7cc21dcc3a53a5b0c406f4291372447f19a879", func := "loop.example/g01057/laws.FnExactIsOpen", spec := "fnExactIsOpen", unfollowed := true, recurses := true, apart := false }
def FnExactIsOpenSaid : Prop := fnExactIsOpenRow.holds Try.pinned (OpenSpec.ofChange fnExactIsOpenSpec)

/-- ITS FALSE NEIGHBOUR: 'it returns false'. Refute it at one input. -/
def fnExactIsOpenWrong : ChangeSpec := { name := "fnExactIsOpen", fn := fun _ => fun
  | [d1, d2, d3] => { results := [.lit (.bool false)], args := [d1, d2, d3] }
  | _ => none }
def FnExactIsOpenWrongFalsely : Prop := fnExactIsOpenRow.holds Try.pinned (OpenSpec.ofChange fnExactIsOpenWrong)

/-- 'laws.FnExactRidesLeft': WHATEVER THE INPUT: true; the input reads as it did. -/
def fnExactRidesLeftSpec : ChangeSpec := { name := "fnExactRidesLeft", fn := fun _ => fun
  | [d1, d2, d3] => { results := [.lit (.bool true)], args := [d1, d2, d3] }
  | _ => none }
def fnExactRidesLeftRow : OpenClaim := { program := "ytkehbolnfommbaa", sum := "e02ff2bca9ee464b0099395dbb7cc21dcc3a53a5b0c406f4291372447f19a879", func := "loop.example/g01057/laws.FnExactRidesLeft", spec := "fnExactRidesLeft", unfollowed := true, recurses := true, apart := false }
def FnExactRidesLeftSaid : Prop := fnExactRidesLeftRow.holds Try.pinned (OpenSpec.ofChange fnExactRidesLeftSpec)

/-- ITS FALSE NEIGHBOUR: 'it returns false'. Refute it at one input. -/
def fnExactRidesLeftWrong : ChangeSpec := { name := "fnExactRidesLeft", fn := fun _ => fun
  | [d1, d2, d3] => { results := [.lit (.bool false)], args := [d1, d2, d3] }
  | _ => none }
def FnExactRidesLeftWrongFalsely : Prop := fnExactRidesLeftRow.holds Try.pinned (OpenSpec.ofChange fnExactRidesLeftWrong)

/-- 'laws.FnExactOpenUntil': WHATEVER THE INPUT: true; the input reads as it did. -/
def fnExactOpenUntilSpec : ChangeSpec := { name := "fnExactOpenUntil", fn := fun _ => fun
  | [d1, d2, d3, d4] => { results := [.lit (.bool true)], args := [d1, d2, d3, d4] }
  | _ => none }
def fnExactOpenUntilRow : OpenClaim := { program := "ytkehbolnfommbaa", sum := "e02ff2bca9ee464b0099395dbb7cc21dcc3a53a5b0c406f4291372447f19a879", func := "loop.example/g01057/laws.FnExactOpenUntil", spec := "fnExactOpenUntil", unfollowed := true, recurses := true, apart := false }
def FnExactOpenUntilSaid : Prop := fnExactOpenUntilRow.holds Try.pinned (OpenSpec.ofChange fnExactOpenUntilSpec)

/-- ITS FALSE NEIGHBOUR: 'it returns false'. Refute it at one input. -/
def fnExactOpenUntilWrong : ChangeSpec := { name := "fnExactOpenUntil", fn := fun _ => fun
  | [d1, d2, d3, d4] => { results := [.lit (.bool false)], args := [d1, d2, d3, d4] }
  | _ => none }
def FnExactOpenUntilWrongFalsely : Prop := fnExactOpenUntilRow.holds Try.pinned (OpenSpec.ofChange fnExactOpenUntilWrong)

/-- 'laws.FnExactFirstDue': WHATEVER THE INPUT: true; the input reads as it did. -/
def fnExactFirstDueSpec : ChangeSpec := { name := "fnExactFirstDue", fn := fun _ => fun
  | [d1, d2, d3, d4] => { results := [.lit (.bool true)], args := [d1, d2, d3, d4] }
  | _ => none }
def fnExactFirstDueRow : OpenClaim := { program := "ytkehbolnfommbaa", sum := "e02ff2bca9ee464b0099395dbb7cc21dcc3a53a5b0c406f4291372447f19a879", func := "loop.example/g01057/laws.FnExactFirstDue", spec := "fnExactFirstDue", unfollowed := true, recurses := true, apart := false }
def FnExactFirstDueSaid : Prop := fnExactFirstDueRow.holds Try.pinned (OpenSpec.ofChange fnExactFirstDueSpec)

/-- ITS FALSE NEIGHBOUR: 'it returns false'. Refute it at one input. -/
def fnExactFirstDueWrong : ChangeSpec := { name := "fnExactFirstDue", fn := fun _ => fun
  | [d1, d2, d3, d4] => { results := [.lit (.bool false)], args := [d1, d2, d3, d4] }
  | _ => none }
def FnExactFirstDueWrongFalsely : Prop := fnExactFirstDueRow.holds Try.pinned (OpenSpec.ofChange fnExactFirstDueWrong)

/-- 'laws.FnExactDoCheck': WHATEVER THE INPUT: true; the input reads as it did. -/
def fnExactDoCheckSpec : ChangeSpec := { name := "fnExactDoCheck", fn := fun _ => fun
  | [d1, d2, d3, d4] => { results := [.lit (.bool true)], args := [d1, d2, d3, d4] }
  | _ => none }
def fnExactDoCheckRow : OpenClaim := { program := "ytkehbolnfommbaa", sum := "e02ff2bca9ee464b0099395dbb7cc21dcc3a53a5b0c406f4291372447f19a879", func := "loop.example/g01057/laws.FnExactDoCheck", spec := "fnExactDoCheck", unfollowed := true, recurses := true, apart := false }
def FnExactDoCheckSaid : Prop := fnExactDoCheckRow.holds Try.pinned (OpenSpec.ofChange fnExactDoCheckSpec)

/-- ITS FALSE NEIGHBOUR: 'it returns false'. Refute it at one input. -/
def fnExactDoCheckWrong : ChangeSpec := { name := "fnExactDoCheck", fn := fun _ => fun
  | [d1, d2, d3, d4] => { results := [.lit (.bool false)], args := [d1, d2, d3, d4] }
  | _ => none }
def FnExactDoCheckWrongFalsely : Prop := fnExactDoCheckRow.holds Try.pinned (OpenSpec.ofChange fnExactDoCheckWrong)

/-- 'laws.FnExactOverdueChecks': WHATEVER THE INPUT: true; the input reads as it did. -/
def fnExactOverdueChecksSpec : ChangeSpec := { name := "fnExactOverdueChecks", fn := fun _ => fun
  | [d1, d2, d3] => { results := [.lit (.bool true)], args := [d1, d2, d3] }
  | _ => none }
def fnExactOverdueChecksRow : OpenClaim := { program := "ytkehbolnfommbaa", sum := "e02ff2bca9ee464b0099395dbb7cc21dcc3a53a5b0c406f4291372447f19a879", func := "loop.example/g01057/laws.FnExactOverdueChecks", spec := "fnExactOverdueChecks", unfollowed := true, recurses := true, apart := false }
def FnExactOverdueChecksSaid : Prop := fnExactOverdueChecksRow.holds Try.pinned (OpenSpec.ofChange fnExactOverdueChecksSpec)

/-- ITS FALSE NEIGHBOUR: 'it returns false'. Refute it at one input. -/
def fnExactOverdueChecksWrong : ChangeSpec := { name := "fnExactOverdueChecks", fn := fun _ => fun
  | [d1, d2, d3] => { results := [.lit (.bool false)], args := [d1, d2, d3] }
  | _ => none }
def FnExactOverdueChecksWrongFalsely : Prop := fnExactOverdueChecksRow.holds Try.pinned (OpenSpec.ofChange fnExactOverdueChecksWrong)

/-- 'laws.FnExactChecksIn': WHATEVER THE INPUT: true; the input reads as it did. -/
def fnExactChecksInSpec : ChangeSpec := { name := "fnExactChecksIn", fn := fun _ => fun
  | [d1, d2, d3, d4, d5] => { results := [.lit (.bool true)], args := [d1, d2, d3, d4, d5] }
  | _ => none }
def fnExactChecksInRow : OpenClaim := { program := "ytkehbolnfommbaa", sum := "e02ff2bca9ee464b0099395dbb7cc21dcc3a53a5b0c406f4291372447f19a879", func := "loop.example/g01057/laws.FnExactChecksIn", spec := "fnExactChecksIn", unfollowed := true, recurses := true, apart := false }
def FnExactChecksInSaid : Prop := fnExactChecksInRow.holds Try.pinned (OpenSpec.ofChange fnExactChecksInSpec)

/-- ITS FALSE NEIGHBOUR: 'it returns false'. Refute it at one input. -/
def fnExactChecksInWrong : ChangeSpec := { name := "fnExactChecksIn", fn := fun _ => fun
  | [d1, d2, d3, d4, d5] => { results := [.lit (.bool false)], args := [d1, d2, d3, d4, d5] }
  | _ => none }
def FnExactChecksInWrongFalsely : Prop := fnExactChecksInRow.holds Try.pinned (OpenSpec.ofChange fnExactChecksInWrong)

/- THE SECOND FORM. 'bulk': how many values and letters a reading holds, each counted each time it is reached (what is shared counts as often as it is met; a slice's spare places count too). A statement '..UptoSaid' is the law's where the arguments, and the package variables that the reading takes, are together of bulk at most 1048576: NARROWER than '..Said'. Prove '..Said' where nothing that the law and all that it calls make is longer than what came in: it says more and counts as full. Else prove '..UptoSaid'. A law counts once. -/
mutual
def uptoBulk {H : Type} : DataW H → Nat
  | .lit (.string bytes) => bytes.length + 1
  | .lit _ => 1
  | .nil => 1
  | .ptr d => uptoBulk d + 1
  | .slice elems spare => uptoBulkAll elems + uptoBulkAll spare + 1
  | .agg parts => uptoBulkAll parts + 1
  | .iface _ d => uptoBulk d + 1
  | .map entries => uptoBulkEntries entries + 1
  | .held _ => 1
def uptoBulkAll {H : Type} : List (DataW H) → Nat
  | [] => 0
  | d :: r => uptoBulk d + uptoBulkAll r
def uptoBulkEntries {H : Type} : List (Lit × DataW H) → Nat
  | [] => 0
  | x :: r => uptoBulkEntry x + uptoBulkEntries r
def uptoBulkEntry {H : Type} : Lit × DataW H → Nat
  | (.string bytes, d) => bytes.length + uptoBulk d + 1
  | (_, d) => uptoBulk d + 1
 end
def uptoSmall : (H : Type) → List (DataW H) → Bool := fun _ ds => decide (uptoBulkAll ds ≤ 1048576)
def OpenSpec.upto (s : _root_.Go.ChangeSpec) : _root_.Go.OpenSpec := { _root_.Go.OpenSpec.ofChange s with cond := some uptoSmall }

/-- 'laws.FnExactValidChecks', WHERE WHAT IT READS IS OF BULK AT MOST 1048576: true; the input reads as it did. -/
def fnExactValidChecksUptoRow : OpenClaim := { program := "ytkehbolnfommbaa", sum := "e02ff2bca9ee464b0099395dbb7cc21dcc3a53a5b0c406f4291372447f19a879", func := "loop.example/g01057/laws.FnExactValidChecks", spec := "fnExactValidChecks", apart := false, narrowed := true }
def FnExactValidChecksUptoSaid : Prop := fnExactValidChecksUptoRow.holds Try.pinned (OpenSpec.upto fnExactValidChecksSpec)

/-- 'laws.FnExactDueIn', WHERE WHAT IT READS IS OF BULK AT MOST 1048576: true; the input reads as it did. -/
def fnExactDueInUptoRow : OpenClaim := { program := "ytkehbolnfommbaa", sum := "e02ff2bca9ee464b0099395dbb7cc21dcc3a53a5b0c406f4291372447f19a879", func := "loop.example/g01057/laws.FnExactDueIn", spec := "fnExactDueIn", unfollowed := true, recurses := true, apart := false, narrowed := true }
def FnExactDueInUptoSaid : Prop := fnExactDueInUptoRow.holds Try.pinned (OpenSpec.upto fnExactDueInSpec)

/-- 'laws.FnExactIsOpen', WHERE WHAT IT READS IS OF BULK AT MOST 1048576: true; the input reads as it did. -/
def fnExactIsOpenUptoRow : OpenClaim := { program := "ytkehbolnfommbaa", sum := "e02ff2bca9ee464b0099395dbb7cc21dcc3a53a5b0c406f4291372447f19a879", func := "loop.example/g01057/laws.FnExactIsOpen", spec := "fnExactIsOpen", unfollowed := true, recurses := true, apart := false, narrowed := true }
def FnExactIsOpenUptoSaid : Prop := fnExactIsOpenUptoRow.holds Try.pinned (OpenSpec.upto fnExactIsOpenSpec)

/-- 'laws.FnExactRidesLeft', WHERE WHAT IT READS IS OF BULK AT MOST 1048576: true; the input reads as it did. -/
def fnExactRidesLeftUptoRow : OpenClaim := { program := "ytkehbolnfommbaa", sum := "e02ff2bca9ee464b0099395dbb7cc21dcc3a53a5b0c406f4291372447f19a879", func := "loop.example/g01057/laws.FnExactRidesLeft", spec := "fnExactRidesLeft", unfollowed := true, recurses := true, apart := false, narrowed := true }
def FnExactRidesLeftUptoSaid : Prop := fnExactRidesLeftUptoRow.holds Try.pinned (OpenSpec.upto fnExactRidesLeftSpec)

/-- 'laws.FnExactOpenUntil', WHERE WHAT IT READS IS OF BULK AT MOST 1048576: true; the input reads as it did. -/
def fnExactOpenUntilUptoRow : OpenClaim := { program := "ytkehbolnfommbaa", sum := "e02ff2bca9ee464b0099395dbb7cc21dcc3a53a5b0c406f4291372447f19a879", func := "loop.example/g01057/laws.FnExactOpenUntil", spec := "fnExactOpenUntil", unfollowed := true, recurses := true, apart := false, narrowed := true }
def FnExactOpenUntilUptoSaid : Prop := fnExactOpenUntilUptoRow.holds Try.pinned (OpenSpec.upto fnExactOpenUntilSpec)

/-- 'laws.FnExactFirstDue', WHERE WHAT IT READS IS OF BULK AT MOST 1048576: true; the input reads as it did. -/
def fnExactFirstDueUptoRow : OpenClaim := { program := "ytkehbolnfommbaa", sum := "e02ff2bca9ee464b0099395dbb7cc21dcc3a53a5b0c406f4291372447f19a879", func := "loop.example/g01057/laws.FnExactFirstDue", spec := "fnExactFirstDue", unfollowed := true, recurses := true, apart := false, narrowed := true }
def FnExactFirstDueUptoSaid : Prop := fnExactFirstDueUptoRow.holds Try.pinned (OpenSpec.upto fnExactFirstDueSpec)

/-- 'laws.FnExactDoCheck', WHERE WHAT IT READS IS OF BULK AT MOST 1048576: true; the input reads as it did. -/
def fnExactDoCheckUptoRow : OpenClaim := { program := "ytkehbolnfommbaa", sum := "e02ff2bca9ee464b0099395dbb7cc21dcc3a53a5b0c406f4291372447f19a879", func := "loop.example/g01057/laws.FnExactDoCheck", spec := "fnExactDoCheck", unfollowed := true, recurses := true, apart := false, narrowed := true }
def FnExactDoCheckUptoSaid : Prop := fnExactDoCheckUptoRow.holds Try.pinned (OpenSpec.upto fnExactDoCheckSpec)

/-- 'laws.FnExactOverdueChecks', WHERE WHAT IT READS IS OF BULK AT MOST 1048576: true; the input reads as it did. -/
def fnExactOverdueChecksUptoRow : OpenClaim := { program := "ytkehbolnfommbaa", sum := "e02ff2bca9ee464b0099395dbb7cc21dcc3a53a5b0c406f4291372447f19a879", func := "loop.example/g01057/laws.FnExactOverdueChecks", spec := "fnExactOverdueChecks", unfollowed := true, recurses := true, apart := false, narrowed := true }
def FnExactOverdueChecksUptoSaid : Prop := fnExactOverdueChecksUptoRow.holds Try.pinned (OpenSpec.upto fnExactOverdueChecksSpec)

/-- 'laws.FnExactChecksIn', WHERE WHAT IT READS IS OF BULK AT MOST 1048576: true; the input reads as it did. -/
def fnExactChecksInUptoRow : OpenClaim := { program := "ytkehbolnfommbaa", sum := "e02ff2bca9ee464b0099395dbb7cc21dcc3a53a5b0c406f4291372447f19a879", func := "loop.example/g01057/laws.FnExactChecksIn", spec := "fnExactChecksIn", unfollowed := true, recurses := true, apart := false, narrowed := true }
def FnExactChecksInUptoSaid : Prop := fnExactChecksInUptoRow.holds Try.pinned (OpenSpec.upto fnExactChecksInSpec)

end Rows
end Go.Proofs.Ytkehbolnfommbaa
