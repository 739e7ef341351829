/-
  No cell of these rows narrows 'for every input' (looked for: loops, veiled, ifaces, maps, wideKeys, modest, calm, conditions, laid).
  DERIVED. THE GIVEN ROWS OF THIS SEAT. 11 by the template 'for every input the law returns true; each argument reads behind the call as it read before'; 0 by the template 'total and deterministic' (their statements: YtnoppdklgcpomaaTotals.lean).
  GIVEN WITH THE SEED: the statements are not yours to turn. If you find one false, say at which input.
  Laid BY PROGRAM, IN A SANDBOX (cutbox-rows.mjs): the forced cells as the released guide's own fill.sh prints them over the translation 8ea4131d8eac7d86… (all of the seat's roots in one cut). By AI agents, Wed Nov 11 2026. No macro, syntax, notation, axiom, sorry.
-/
import Derived.Test.YtnoppdklgcpomaaChecked
import GoSem.Claim
import GoSem.ClaimJoined
import GoSem.ClaimMapViews
import Derived.JoinedTies
import Derived.KernelRfl
namespace Go.Proofs.Ytnoppdklgcpomaa
/- THE CELL 'sum', in the pinned program and in every row, IS THE sha256 OF THE DUMP (.gsa) THAT YtnoppdklgcpomaaProg.lean LOADS. Nothing in Lean hashes anything: it is a label: what it is worth is what the hold of that sum in a sandbox is worth. -/
noncomputable def Try.pinned : Pinned := { name := "ytnoppdklgcpomaa", sum := "8ea4131d8eac7d86b9fd863996caf03336d3bff829f070ddb7d524ce9e35580c", checked := Try.checked }
namespace Rows
def none {H : Type} : Left H := { results := [], args := [] }

/-- 'laws.FnExactValidWalks': WHATEVER THE INPUT: true; the input reads as it did. -/
def fnExactValidWalksSpec : ChangeSpec := { name := "fnExactValidWalks", fn := fun _ => fun
  | [d1, d2] => { results := [.lit (.bool true)], args := [d1, d2] }
  | _ => none }
def fnExactValidWalksRow : OpenClaim := { program := "ytnoppdklgcpomaa", sum := "8ea4131d8eac7d86b9fd863996caf03336d3bff829f070ddb7d524ce9e35580c", func := "loop.example/g01057/laws.FnExactValidWalks", spec := "fnExactValidWalks", apart := false }
def FnExactValidWalksSaid : Prop := fnExactValidWalksRow.holds Try.pinned (OpenSpec.ofChange fnExactValidWalksSpec)

/-- ITS FALSE NEIGHBOUR: 'it returns false'. Refute it at one input. -/
def fnExactValidWalksWrong : ChangeSpec := { name := "fnExactValidWalks", fn := fun _ => fun
  | [d1, d2] => { results := [.lit (.bool false)], args := [d1, d2] }
  | _ => none }
def FnExactValidWalksWrongFalsely : Prop := fnExactValidWalksRow.holds Try.pinned (OpenSpec.ofChange fnExactValidWalksWrong)

/-- 'laws.FnExactWayTime': WHATEVER THE INPUT: true; the input reads as it did. -/
def fnExactWayTimeSpec : ChangeSpec := { name := "fnExactWayTime", fn := fun _ => fun
  | [d1, d2, d3, d4] => { results := [.lit (.bool true)], args := [d1, d2, d3, d4] }
  | _ => none }
def fnExactWayTimeRow : OpenClaim := { program := "ytnoppdklgcpomaa", sum := "8ea4131d8eac7d86b9fd863996caf03336d3bff829f070ddb7d524ce9e35580c", func := "loop.example/g01057/laws.FnExactWayTime", spec := "fnExactWayTime", unfollowed := true, recurses := true, apart := false }
def FnExactWayTimeSaid : Prop := fnExactWayTimeRow.holds Try.pinned (OpenSpec.ofChange fnExactWayTimeSpec)

/-- ITS FALSE NEIGHBOUR: 'it returns false'. Refute it at one input. -/
def fnExactWayTimeWrong : ChangeSpec := { name := "fnExactWayTime", fn := fun _ => fun
  | [d1, d2, d3, d4] => { results := [.lit (.bool false)], args := [d1, d2, d3, d4] }
  | _ => none }
def FnExactWayTimeWrongFalsely : Prop := fnExactWayTimeRow.holds Try.pinned (OpenSpec.ofChange fnExactWayTimeWrong)

/-- 'laws.FnExactTimesTo': WHATEVER THE INPUT: true; the input reads as it did. -/
def fnExactTimesToSpec : ChangeSpec := { name := "fnExactTimesTo", fn := fun _ => fun
  | [d1, d2, d3, d4] => { results := [.lit (.bool true)], args := [d1, d2, d3, d4] }
  | _ => none }
def fnExactTimesToRow : OpenClaim := { program := "ytnoppdklgcpomaa", sum := "8ea4131d8eac7d86b9fd863996caf03336d3bff829f070ddb7d524ce9e35580c", func := "loop.example/g01057/laws.FnExactTimesTo", spec := "fnExactTimesTo", apart := false }
def FnExactTimesToSaid : Prop := fnExactTimesToRow.holds Try.pinned (OpenSpec.ofChange fnExactTimesToSpec)

/-- ITS FALSE NEIGHBOUR: 'it returns false'. Refute it at one input. -/
def fnExactTimesToWrong : ChangeSpec := { name := "fnExactTimesTo", fn := fun _ => fun
  | [d1, d2, d3, d4] => { results := [.lit (.bool false)], args := [d1, d2, d3, d4] }
  | _ => none }
def FnExactTimesToWrongFalsely : Prop := fnExactTimesToRow.holds Try.pinned (OpenSpec.ofChange fnExactTimesToWrong)

/-- 'laws.FnExactWorstPlace': WHATEVER THE INPUT: true; the input reads as it did. -/
def fnExactWorstPlaceSpec : ChangeSpec := { name := "fnExactWorstPlace", fn := fun _ => fun
  | [d1, d2, d3, d4] => { results := [.lit (.bool true)], args := [d1, d2, d3, d4] }
  | _ => none }
def fnExactWorstPlaceRow : OpenClaim := { program := "ytnoppdklgcpomaa", sum := "8ea4131d8eac7d86b9fd863996caf03336d3bff829f070ddb7d524ce9e35580c", func := "loop.example/g01057/laws.FnExactWorstPlace", spec := "fnExactWorstPlace", apart := false }
def FnExactWorstPlaceSaid : Prop := fnExactWorstPlaceRow.holds Try.pinned (OpenSpec.ofChange fnExactWorstPlaceSpec)

/-- ITS FALSE NEIGHBOUR: 'it returns false'. Refute it at one input. -/
def fnExactWorstPlaceWrong : ChangeSpec := { name := "fnExactWorstPlace", fn := fun _ => fun
  | [d1, d2, d3, d4] => { results := [.lit (.bool false)], args := [d1, d2, d3, d4] }
  | _ => none }
def FnExactWorstPlaceWrongFalsely : Prop := fnExactWorstPlaceRow.holds Try.pinned (OpenSpec.ofChange fnExactWorstPlaceWrong)

/-- 'laws.FnExactNearestExit': WHATEVER THE INPUT: true; the input reads as it did. -/
def fnExactNearestExitSpec : ChangeSpec := { name := "fnExactNearestExit", fn := fun _ => fun
  | [d1, d2, d3, d4, d5] => { results := [.lit (.bool true)], args := [d1, d2, d3, d4, d5] }
  | _ => none }
def fnExactNearestExitRow : OpenClaim := { program := "ytnoppdklgcpomaa", sum := "8ea4131d8eac7d86b9fd863996caf03336d3bff829f070ddb7d524ce9e35580c", func := "loop.example/g01057/laws.FnExactNearestExit", spec := "fnExactNearestExit", apart := false }
def FnExactNearestExitSaid : Prop := fnExactNearestExitRow.holds Try.pinned (OpenSpec.ofChange fnExactNearestExitSpec)

/-- ITS FALSE NEIGHBOUR: 'it returns false'. Refute it at one input. -/
def fnExactNearestExitWrong : ChangeSpec := { name := "fnExactNearestExit", fn := fun _ => fun
  | [d1, d2, d3, d4, d5] => { results := [.lit (.bool false)], args := [d1, d2, d3, d4, d5] }
  | _ => none }
def FnExactNearestExitWrongFalsely : Prop := fnExactNearestExitRow.holds Try.pinned (OpenSpec.ofChange fnExactNearestExitWrong)

/-- 'laws.FnExactCarsEmpty': WHATEVER THE INPUT: true; the input reads as it did. -/
def fnExactCarsEmptySpec : ChangeSpec := { name := "fnExactCarsEmpty", fn := fun _ => fun
  | [d1, d2, d3, d4, d5, d6, d7] => { results := [.lit (.bool true)], args := [d1, d2, d3, d4, d5, d6, d7] }
  | _ => none }
def fnExactCarsEmptyRow : OpenClaim := { program := "ytnoppdklgcpomaa", sum := "8ea4131d8eac7d86b9fd863996caf03336d3bff829f070ddb7d524ce9e35580c", func := "loop.example/g01057/laws.FnExactCarsEmpty", spec := "fnExactCarsEmpty", apart := false }
def FnExactCarsEmptySaid : Prop := fnExactCarsEmptyRow.holds Try.pinned (OpenSpec.ofChange fnExactCarsEmptySpec)

/-- ITS FALSE NEIGHBOUR: 'it returns false'. Refute it at one input. -/
def fnExactCarsEmptyWrong : ChangeSpec := { name := "fnExactCarsEmpty", fn := fun _ => fun
  | [d1, d2, d3, d4, d5, d6, d7] => { results := [.lit (.bool false)], args := [d1, d2, d3, d4, d5, d6, d7] }
  | _ => none }
def FnExactCarsEmptyWrongFalsely : Prop := fnExactCarsEmptyRow.holds Try.pinned (OpenSpec.ofChange fnExactCarsEmptyWrong)

/-- 'laws.FnExactQuickestWay': WHATEVER THE INPUT: true; the input reads as it did. -/
def fnExactQuickestWaySpec : ChangeSpec := { name := "fnExactQuickestWay", fn := fun _ => fun
  | [d1, d2, d3, d4, d5] => { results := [.lit (.bool true)], args := [d1, d2, d3, d4, d5] }
  | _ => none }
def fnExactQuickestWayRow : OpenClaim := { program := "ytnoppdklgcpomaa", sum := "8ea4131d8eac7d86b9fd863996caf03336d3bff829f070ddb7d524ce9e35580c", func := "loop.example/g01057/laws.FnExactQuickestWay", spec := "fnExactQuickestWay", apart := false }
def FnExactQuickestWaySaid : Prop := fnExactQuickestWayRow.holds Try.pinned (OpenSpec.ofChange fnExactQuickestWaySpec)

/-- ITS FALSE NEIGHBOUR: 'it returns false'. Refute it at one input. -/
def fnExactQuickestWayWrong : ChangeSpec := { name := "fnExactQuickestWay", fn := fun _ => fun
  | [d1, d2, d3, d4, d5] => { results := [.lit (.bool false)], args := [d1, d2, d3, d4, d5] }
  | _ => none }
def FnExactQuickestWayWrongFalsely : Prop := fnExactQuickestWayRow.holds Try.pinned (OpenSpec.ofChange fnExactQuickestWayWrong)

/-- 'laws.FnExactCutOff': WHATEVER THE INPUT: true; the input reads as it did. -/
def fnExactCutOffSpec : ChangeSpec := { name := "fnExactCutOff", fn := fun _ => fun
  | [d1, d2, d3, d4] => { results := [.lit (.bool true)], args := [d1, d2, d3, d4] }
  | _ => none }
def fnExactCutOffRow : OpenClaim := { program := "ytnoppdklgcpomaa", sum := "8ea4131d8eac7d86b9fd863996caf03336d3bff829f070ddb7d524ce9e35580c", func := "loop.example/g01057/laws.FnExactCutOff", spec := "fnExactCutOff", apart := false }
def FnExactCutOffSaid : Prop := fnExactCutOffRow.holds Try.pinned (OpenSpec.ofChange fnExactCutOffSpec)

/-- ITS FALSE NEIGHBOUR: 'it returns false'. Refute it at one input. -/
def fnExactCutOffWrong : ChangeSpec := { name := "fnExactCutOff", fn := fun _ => fun
  | [d1, d2, d3, d4] => { results := [.lit (.bool false)], args := [d1, d2, d3, d4] }
  | _ => none }
def FnExactCutOffWrongFalsely : Prop := fnExactCutOffRow.holds Try.pinned (OpenSpec.ofChange fnExactCutOffWrong)

/-- 'laws.FnExactNeedsLadder': WHATEVER THE INPUT: true; the input reads as it did. -/
def fnExactNeedsLadderSpec : ChangeSpec := { name := "fnExactNeedsLadder", fn := fun _ => fun
  | [d1, d2, d3] => { results := [.lit (.bool true)], args := [d1, d2, d3] }
  | _ => none }
def fnExactNeedsLadderRow : OpenClaim := { program := "ytnoppdklgcpomaa", sum := "8ea4131d8eac7d86b9fd863996caf03336d3bff829f070ddb7d524ce9e35580c", func := "loop.example/g01057/laws.FnExactNeedsLadder", spec := "fnExactNeedsLadder", unfollowed := true, recurses := true, apart := false }
def FnExactNeedsLadderSaid : Prop := fnExactNeedsLadderRow.holds Try.pinned (OpenSpec.ofChange fnExactNeedsLadderSpec)

/-- ITS FALSE NEIGHBOUR: 'it returns false'. Refute it at one input. -/
def fnExactNeedsLadderWrong : ChangeSpec := { name := "fnExactNeedsLadder", fn := fun _ => fun
  | [d1, d2, d3] => { results := [.lit (.bool false)], args := [d1, d2, d3] }
  | _ => none }
def FnExactNeedsLadderWrongFalsely : Prop := fnExactNeedsLadderRow.holds Try.pinned (OpenSpec.ofChange fnExactNeedsLadderWrong)

/-- 'laws.FnExits': WHATEVER THE INPUT: true; the input reads as it did. -/
def fnExitsSpec : ChangeSpec := { name := "fnExits", fn := fun _ => fun
  | [d1, d2] => { results := [.lit (.bool true)], args := [d1, d2] }
  | _ => none }
def fnExitsRow : OpenClaim := { program := "ytnoppdklgcpomaa", sum := "8ea4131d8eac7d86b9fd863996caf03336d3bff829f070ddb7d524ce9e35580c", func := "loop.example/g01057/laws.FnExits", spec := "fnExits", unfollowed := true, recurses := true, apart := false }
def FnExitsSaid : Prop := fnExitsRow.holds Try.pinned (OpenSpec.ofChange fnExitsSpec)

/-- ITS FALSE NEIGHBOUR: 'it returns false'. Refute it at one input. -/
def fnExitsWrong : ChangeSpec := { name := "fnExits", fn := fun _ => fun
  | [d1, d2] => { results := [.lit (.bool false)], args := [d1, d2] }
  | _ => none }
def FnExitsWrongFalsely : Prop := fnExitsRow.holds Try.pinned (OpenSpec.ofChange fnExitsWrong)

/-- 'laws.FnEvacuation': WHATEVER THE INPUT: true; the input reads as it did. -/
def fnEvacuationSpec : ChangeSpec := { name := "fnEvacuation", fn := fun _ => fun
  | [d1, d2] => { results := [.lit (.bool true)], args := [d1, d2] }
  | _ => none }
def fnEvacuationRow : OpenClaim := { program := "ytnoppdklgcpomaa", sum := "8ea4131d8eac7d86b9fd863996caf03336d3bff829f070ddb7d524ce9e35580c", func := "loop.example/g01057/laws.FnEvacuation", spec := "fnEvacuation", unfollowed := true, recurses := true, apart := false }
def FnEvacuationSaid : Prop := fnEvacuationRow.holds Try.pinned (OpenSpec.ofChange fnEvacuationSpec)

/-- ITS FALSE NEIGHBOUR: 'it returns false'. Refute it at one input. -/
def fnEvacuationWrong : ChangeSpec := { name := "fnEvacuation", fn := fun _ => fun
  | [d1, d2] => { results := [.lit (.bool false)], args := [d1, d2] }
  | _ => none }
def FnEvacuationWrongFalsely : Prop := fnEvacuationRow.holds Try.pinned (OpenSpec.ofChange fnEvacuationWrong)

/- THE SECOND FORM. 'bulk': how many values and letters a reading holds, each counted each time it is reached (what is shared counts as often as it is met; a slice's spare places count too). A statement '..UptoSaid' is the law's where the arguments, and the package variables that the reading takes, are together of bulk at most 1048576: NARROWER than '..Said'. Prove '..Said' where nothing that the law and all that it calls make is longer than what came in: it says more and counts as full. Else prove '..UptoSaid'. A law counts once. -/
mutual
def uptoBulk {H : Type} : DataW H → Nat
  | .lit (.string bytes) => bytes.length + 1
  | .lit _ => 1
  | .nil => 1
  | .ptr d => uptoBulk d + 1
  | .slice elems spare => uptoBulkAll elems + uptoBulkAll spare + 1
  | .agg parts => uptoBulkAll parts + 1
  | .iface _ d => uptoBulk d + 1
  | .map entries => uptoBulkEntries entries + 1
  | .held _ => 1
def uptoBulkAll {H : Type} : List (DataW H) → Nat
  | [] => 0
  | d :: r => uptoBulk d + uptoBulkAll r
def uptoBulkEntries {H : Type} : List (Lit × DataW H) → Nat
  | [] => 0
  | x :: r => uptoBulkEntry x + uptoBulkEntries r
def uptoBulkEntry {H : Type} : Lit × DataW H → Nat
  | (.string bytes, d) => bytes.length + uptoBulk d + 1
  | (_, d) => uptoBulk d + 1
 end
def uptoSmall : (H : Type) → List (DataW H) → Bool := fun _ ds => decide (uptoBulkAll ds ≤ 1048576)
def OpenSpec.upto (s : _root_.Go.ChangeSpec) : _root_.Go.OpenSpec := { _root_.Go.OpenSpec.ofChange s with cond := some uptoSmall }

/-- 'laws.FnExactValidWalks', WHERE WHAT IT READS IS OF BULK AT MOST 1048576: true; the input reads as it did. -/
def fnExactValidWalksUptoRow : OpenClaim := { program := "ytnoppdklgcpomaa", sum := "8ea4131d8eac7d86b9fd863996caf03336d3bff829f070ddb7d524ce9e35580c", func := "loop.example/g01057/laws.FnExactValidWalks", spec := "fnExactValidWalks", apart := false, narrowed := true }
def FnExactValidWalksUptoSaid : Prop := fnExactValidWalksUptoRow.holds Try.pinned (OpenSpec.upto fnExactValidWalksSpec)

/-- 'laws.FnExactWayTime', WHERE WHAT IT READS IS OF BULK AT MOST 1048576: true; the input reads as it did. -/
def fnExactWayTimeUptoRow : OpenClaim := { program := "ytnoppdklgcpomaa", sum := "8ea4131d8eac7d86b9fd863996caf03336d3bff829f070ddb7d524ce9e35580c", func := "loop.example/g01057/laws.FnExactWayTime", spec := "fnExactWayTime", unfollowed := true, recurses := true, apart := false, narrowed := true }
def FnExactWayTimeUptoSaid : Prop := fnExactWayTimeUptoRow.holds Try.pinned (OpenSpec.upto fnExactWayTimeSpec)

/-- 'laws.FnExactTimesTo', WHERE WHAT IT READS IS OF BULK AT MOST 1048576: true; the input reads as it did. -/
def fnExactTimesToUptoRow : OpenClaim := { program := "ytnoppdklgcpomaa", sum := "8ea4131d8eac7d86b9fd863996caf03336d3bff829f070ddb7d524ce9e35580c", func := "loop.example/g01057/laws.FnExactTimesTo", spec := "fnExactTimesTo", apart := false, narrowed := true }
def FnExactTimesToUptoSaid : Prop := fnExactTimesToUptoRow.holds Try.pinned (OpenSpec.upto fnExactTimesToSpec)

/-- 'laws.FnExactWorstPlace', WHERE WHAT IT READS IS OF BULK AT MOST 1048576: true; the input reads as it did. -/
def fnExactWorstPlaceUptoRow : OpenClaim := { program := "ytnoppdklgcpomaa", sum := "8ea4131d8eac7d86b9fd863996caf03336d3bff829f070ddb7d524ce9e35580c", func := "loop.example/g01057/laws.FnExactWorstPlace", spec := "fnExactWorstPlace", apart := false, narrowed := true }
def FnExactWorstPlaceUptoSaid : Prop := fnExactWorstPlaceUptoRow.holds Try.pinned (OpenSpec.upto fnExactWorstPlaceSpec)

/-- 'laws.FnExactNearestExit', WHERE WHAT IT READS IS OF BULK AT MOST 1048576: true; the input reads as it did. -/
def fnExactNearestExitUptoRow : OpenClaim := { program := "ytnoppdklgcpomaa", sum := "8ea4131d8eac7d86b9fd863996caf03336d3bff829f070ddb7d524ce9e35580c", func := "loop.example/g01057/laws.FnExactNearestExit", spec := "fnExactNearestExit", apart := false, narrowed := true }
def FnExactNearestExitUptoSaid : Prop := fnExactNearestExitUptoRow.holds Try.pinned (OpenSpec.upto fnExactNearestExitSpec)

/-- 'laws.FnExactCarsEmpty', WHERE WHAT IT READS IS OF BULK AT MOST 1048576: true; the input reads as it did. -/
def fnExactCarsEmptyUptoRow : OpenClaim := { program := "ytnoppdklgcpomaa", sum := "8ea4131d8eac7d86b9fd863996caf03336d3bff829f070ddb7d524ce9e35580c", func := "loop.example/g01057/laws.FnExactCarsEmpty", spec := "fnExactCarsEmpty", apart := false, narrowed := true }
def FnExactCarsEmptyUptoSaid : Prop := fnExactCarsEmptyUptoRow.holds Try.pinned (OpenSpec.upto fnExactCarsEmptySpec)

/-- 'laws.FnExactQuickestWay', WHERE WHAT IT READS IS OF BULK AT MOST 1048576: true; the input reads as it did. -/
def fnExactQuickestWayUptoRow : OpenClaim := { program := "ytnoppdklgcpomaa", sum := "8ea4131d8eac7d86b9fd863996caf03336d3bff829f070ddb7d524ce9e35580c", func := "loop.example/g01057/laws.FnExactQuickestWay", spec := "fnExactQuickestWay", apart := false, narrowed := true }
def FnExactQuickestWayUptoSaid : Prop := fnExactQuickestWayUptoRow.holds Try.pinned (OpenSpec.upto fnExactQuickestWaySpec)

/-- 'laws.FnExactCutOff', WHERE WHAT IT READS IS OF BULK AT MOST 1048576: true; the input reads as it did. -/
def fnExactCutOffUptoRow : OpenClaim := { program := "ytnoppdklgcpomaa", sum := "8ea4131d8eac7d86b9fd863996caf03336d3bff829f070ddb7d524ce9e35580c", func := "loop.example/g01057/laws.FnExactCutOff", spec := "fnExactCutOff", apart := false, narrowed := true }
def FnExactCutOffUptoSaid : Prop := fnExactCutOffUptoRow.holds Try.pinned (OpenSpec.upto fnExactCutOffSpec)

/-- 'laws.FnExactNeedsLadder', WHERE WHAT IT READS IS OF BULK AT MOST 1048576: true; the input reads as it did. -/
def fnExactNeedsLadderUptoRow : OpenClaim := { program := "ytnoppdklgcpomaa", sum := "8ea4131d8eac7d86b9fd863996caf03336d3bff829f070ddb7d524ce9e35580c", func := "loop.example/g01057/laws.FnExactNeedsLadder", spec := "fnExactNeedsLadder", unfollowed := true, recurses := true, apart := false, narrowed := true }
def FnExactNeedsLadderUptoSaid : Prop := fnExactNeedsLadderUptoRow.holds Try.pinned (OpenSpec.upto fnExactNeedsLadderSpec)

/-- 'laws.FnExits', WHERE WHAT IT READS IS OF BULK AT MOST 1048576: true; the input reads as it did. -/
def fnExitsUptoRow : OpenClaim := { program := "ytnoppdklgcpomaa", sum := "8ea4131d8eac7d86b9fd863996caf03336d3bff829f070ddb7d524ce9e35580c", func := "loop.example/g01057/laws.FnExits", spec := "fnExits", unfollowed := true, recurses := true, apart := false, narrowed := true }
def FnExitsUptoSaid : Prop := fnExitsUptoRow.holds Try.pinned (OpenSpec.upto fnExitsSpec)

/-- 'laws.FnEvacuation', WHERE WHAT IT READS IS OF BULK AT MOST 1048576: true; the input reads as it did. -/
def fnEvacuationUptoRow : OpenClaim := { program := "ytnoppdklgcpomaa", sum := "8ea4131d8eac7d86b9fd863996caf03336d3bff829f070ddb7d524ce9e35580c", func := "loop.example/g01057/laws.FnEvacuation", spec := "fnEvacuation", unfollowed := true, recurses := true, apart := false, narrowed := true }
def FnEvacuationUptoSaid : Prop := fnEvacuationUptoRow.holds Try.pinned (OpenSpec.upto fnEvacuationSpec)

end Rows
end Go.Proofs.Ytnoppdklgcpomaa
