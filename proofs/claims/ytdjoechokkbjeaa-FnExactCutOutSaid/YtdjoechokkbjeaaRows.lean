/-
  No cell of these rows narrows 'for every input' (looked for: loops, veiled, ifaces, maps, wideKeys, modest, calm, conditions, laid).
  DERIVED. THE GIVEN ROWS OF THIS SEAT. 13 by the template 'for every input the law returns true; each argument reads behind the call as it read before'; 0 by the template 'total and deterministic' (their statements: YtdjoechokkbjeaaTotals.lean).
  GIVEN WITH THE SEED: the statements are not yours to turn. If you find one false, say at which input.
  Laid BY PROGRAM, IN A SANDBOX (cutbox-rows.mjs): the forced cells as the released guide's own fill.sh prints them over the translation 097cecde6354a19f… (all of the seat's roots in one cut). By AI agents, Wed Nov 11 2026. No macro, syntax, notation, axiom, sorry.
-/
import Derived.Test.YtdjoechokkbjeaaChecked
import GoSem.Claim
import GoSem.ClaimJoined
import GoSem.ClaimMapViews
import Derived.JoinedTies
import Derived.KernelRfl
namespace Go.Proofs.Ytdjoechokkbjeaa
/- THE CELL 'sum', in the pinned program and in every row, IS THE sha256 OF THE DUMP (.gsa) THAT YtdjoechokkbjeaaProg.lean LOADS. Nothing in Lean hashes anything: it is a label: what it is worth is what the hold of that sum in a sandbox is worth. -/
noncomputable def Try.pinned : Pinned := { name := "ytdjoechokkbjeaa", sum := "097cecde6354a19f090988b2454cf4cf7ab217c5f0e76682cafdcd298782e559", checked := Try.checked }
namespace Rows
def none {H : Type} : Left H := { results := [], args := [] }

/-- 'laws.FnExactValidSpots': WHATEVER THE INPUT: true; the input reads as it did. -/
def fnExactValidSpotsSpec : ChangeSpec := { name := "fnExactValidSpots", fn := fun _ => fun
  | [d] => { results := [.lit (.bool true)], args := [d] }
  | _ => none }
def fnExactValidSpotsRow : OpenClaim := { program := "ytdjoechokkbjeaa", sum := "097cecde6354a19f090988b2454cf4cf7ab217c5f0e76682cafdcd298782e559", func := "loop.example/g01057/laws.FnExactValidSpots", spec := "fnExactValidSpots", unfollowed := true, recurses := true, apart := false }
def FnExactValidSpotsSaid : Prop := fnExactValidSpotsRow.holds Try.pinned (OpenSpec.ofChange fnExactValidSpotsSpec)

/-- ITS FALSE NEIGHBOUR: 'it returns false'. Refute it at one input. -/
def fnExactValidSpotsWrong : ChangeSpec := { name := "fnExactValidSpots", fn := fun _ => fun
  | [d] => { results := [.lit (.bool false)], args := [d] }
  | _ => none }
def FnExactValidSpotsWrongFalsely : Prop := fnExactValidSpotsRow.holds Try.pinned (OpenSpec.ofChange fnExactValidSpotsWrong)

/-- 'laws.FnExactValidTests': WHATEVER THE INPUT: true; the input reads as it did. -/
def fnExactValidTestsSpec : ChangeSpec := { name := "fnExactValidTests", fn := fun _ => fun
  | [d] => { results := [.lit (.bool true)], args := [d] }
  | _ => none }
def fnExactValidTestsRow : OpenClaim := { program := "ytdjoechokkbjeaa", sum := "097cecde6354a19f090988b2454cf4cf7ab217c5f0e76682cafdcd298782e559", func := "loop.example/g01057/laws.FnExactValidTests", spec := "fnExactValidTests", apart := false }
def FnExactValidTestsSaid : Prop := fnExactValidTestsRow.holds Try.pinned (OpenSpec.ofChange fnExactValidTestsSpec)

/-- ITS FALSE NEIGHBOUR: 'it returns false'. Refute it at one input. -/
def fnExactValidTestsWrong : ChangeSpec := { name := "fnExactValidTests", fn := fun _ => fun
  | [d] => { results := [.lit (.bool false)], args := [d] }
  | _ => none }
def FnExactValidTestsWrongFalsely : Prop := fnExactValidTestsRow.holds Try.pinned (OpenSpec.ofChange fnExactValidTestsWrong)

/-- 'laws.FnExactNewBroken': WHATEVER THE INPUT: true; the input reads as it did. -/
def fnExactNewBrokenSpec : ChangeSpec := { name := "fnExactNewBroken", fn := fun _ => fun
  | [d1, d2] => { results := [.lit (.bool true)], args := [d1, d2] }
  | _ => none }
def fnExactNewBrokenRow : OpenClaim := { program := "ytdjoechokkbjeaa", sum := "097cecde6354a19f090988b2454cf4cf7ab217c5f0e76682cafdcd298782e559", func := "loop.example/g01057/laws.FnExactNewBroken", spec := "fnExactNewBroken", unfollowed := true, recurses := true, apart := false }
def FnExactNewBrokenSaid : Prop := fnExactNewBrokenRow.holds Try.pinned (OpenSpec.ofChange fnExactNewBrokenSpec)

/-- ITS FALSE NEIGHBOUR: 'it returns false'. Refute it at one input. -/
def fnExactNewBrokenWrong : ChangeSpec := { name := "fnExactNewBroken", fn := fun _ => fun
  | [d1, d2] => { results := [.lit (.bool false)], args := [d1, d2] }
  | _ => none }
def FnExactNewBrokenWrongFalsely : Prop := fnExactNewBrokenRow.holds Try.pinned (OpenSpec.ofChange fnExactNewBrokenWrong)

/-- 'laws.FnExactBrokenIn': WHATEVER THE INPUT: true; the input reads as it did. -/
def fnExactBrokenInSpec : ChangeSpec := { name := "fnExactBrokenIn", fn := fun _ => fun
  | [d1, d2] => { results := [.lit (.bool true)], args := [d1, d2] }
  | _ => none }
def fnExactBrokenInRow : OpenClaim := { program := "ytdjoechokkbjeaa", sum := "097cecde6354a19f090988b2454cf4cf7ab217c5f0e76682cafdcd298782e559", func := "loop.example/g01057/laws.FnExactBrokenIn", spec := "fnExactBrokenIn", unfollowed := true, recurses := true, apart := false }
def FnExactBrokenInSaid : Prop := fnExactBrokenInRow.holds Try.pinned (OpenSpec.ofChange fnExactBrokenInSpec)

/-- ITS FALSE NEIGHBOUR: 'it returns false'. Refute it at one input. -/
def fnExactBrokenInWrong : ChangeSpec := { name := "fnExactBrokenIn", fn := fun _ => fun
  | [d1, d2] => { results := [.lit (.bool false)], args := [d1, d2] }
  | _ => none }
def FnExactBrokenInWrongFalsely : Prop := fnExactBrokenInRow.holds Try.pinned (OpenSpec.ofChange fnExactBrokenInWrong)

/-- 'laws.FnExactGrowthOf': WHATEVER THE INPUT: true; the input reads as it did. -/
def fnExactGrowthOfSpec : ChangeSpec := { name := "fnExactGrowthOf", fn := fun _ => fun
  | [d] => { results := [.lit (.bool true)], args := [d] }
  | _ => none }
def fnExactGrowthOfRow : OpenClaim := { program := "ytdjoechokkbjeaa", sum := "097cecde6354a19f090988b2454cf4cf7ab217c5f0e76682cafdcd298782e559", func := "loop.example/g01057/laws.FnExactGrowthOf", spec := "fnExactGrowthOf", apart := false }
def FnExactGrowthOfSaid : Prop := fnExactGrowthOfRow.holds Try.pinned (OpenSpec.ofChange fnExactGrowthOfSpec)

/-- ITS FALSE NEIGHBOUR: 'it returns false'. Refute it at one input. -/
def fnExactGrowthOfWrong : ChangeSpec := { name := "fnExactGrowthOf", fn := fun _ => fun
  | [d] => { results := [.lit (.bool false)], args := [d] }
  | _ => none }
def FnExactGrowthOfWrongFalsely : Prop := fnExactGrowthOfRow.holds Try.pinned (OpenSpec.ofChange fnExactGrowthOfWrong)

/-- 'laws.FnExactWorstSpot': WHATEVER THE INPUT: true; the input reads as it did. -/
def fnExactWorstSpotSpec : ChangeSpec := { name := "fnExactWorstSpot", fn := fun _ => fun
  | [d1, d2] => { results := [.lit (.bool true)], args := [d1, d2] }
  | _ => none }
def fnExactWorstSpotRow : OpenClaim := { program := "ytdjoechokkbjeaa", sum := "097cecde6354a19f090988b2454cf4cf7ab217c5f0e76682cafdcd298782e559", func := "loop.example/g01057/laws.FnExactWorstSpot", spec := "fnExactWorstSpot", unfollowed := true, recurses := true, apart := false }
def FnExactWorstSpotSaid : Prop := fnExactWorstSpotRow.holds Try.pinned (OpenSpec.ofChange fnExactWorstSpotSpec)

/-- ITS FALSE NEIGHBOUR: 'it returns false'. Refute it at one input. -/
def fnExactWorstSpotWrong : ChangeSpec := { name := "fnExactWorstSpot", fn := fun _ => fun
  | [d1, d2] => { results := [.lit (.bool false)], args := [d1, d2] }
  | _ => none }
def FnExactWorstSpotWrongFalsely : Prop := fnExactWorstSpotRow.holds Try.pinned (OpenSpec.ofChange fnExactWorstSpotWrong)

/-- 'laws.FnExactAddTest': WHATEVER THE INPUT: true; the input reads as it did. -/
def fnExactAddTestSpec : ChangeSpec := { name := "fnExactAddTest", fn := fun _ => fun
  | [d1, d2] => { results := [.lit (.bool true)], args := [d1, d2] }
  | _ => none }
def fnExactAddTestRow : OpenClaim := { program := "ytdjoechokkbjeaa", sum := "097cecde6354a19f090988b2454cf4cf7ab217c5f0e76682cafdcd298782e559", func := "loop.example/g01057/laws.FnExactAddTest", spec := "fnExactAddTest", apart := false }
def FnExactAddTestSaid : Prop := fnExactAddTestRow.holds Try.pinned (OpenSpec.ofChange fnExactAddTestSpec)

/-- ITS FALSE NEIGHBOUR: 'it returns false'. Refute it at one input. -/
def fnExactAddTestWrong : ChangeSpec := { name := "fnExactAddTest", fn := fun _ => fun
  | [d1, d2] => { results := [.lit (.bool false)], args := [d1, d2] }
  | _ => none }
def FnExactAddTestWrongFalsely : Prop := fnExactAddTestRow.holds Try.pinned (OpenSpec.ofChange fnExactAddTestWrong)

/-- 'laws.FnExactDayOfLimit': WHATEVER THE INPUT: true; the input reads as it did. -/
def fnExactDayOfLimitSpec : ChangeSpec := { name := "fnExactDayOfLimit", fn := fun _ => fun
  | [d1, d2] => { results := [.lit (.bool true)], args := [d1, d2] }
  | _ => none }
def fnExactDayOfLimitRow : OpenClaim := { program := "ytdjoechokkbjeaa", sum := "097cecde6354a19f090988b2454cf4cf7ab217c5f0e76682cafdcd298782e559", func := "loop.example/g01057/laws.FnExactDayOfLimit", spec := "fnExactDayOfLimit", apart := false }
def FnExactDayOfLimitSaid : Prop := fnExactDayOfLimitRow.holds Try.pinned (OpenSpec.ofChange fnExactDayOfLimitSpec)

/-- ITS FALSE NEIGHBOUR: 'it returns false'. Refute it at one input. -/
def fnExactDayOfLimitWrong : ChangeSpec := { name := "fnExactDayOfLimit", fn := fun _ => fun
  | [d1, d2] => { results := [.lit (.bool false)], args := [d1, d2] }
  | _ => none }
def FnExactDayOfLimitWrongFalsely : Prop := fnExactDayOfLimitRow.holds Try.pinned (OpenSpec.ofChange fnExactDayOfLimitWrong)

/-- 'laws.FnExactStrengthLeft': WHATEVER THE INPUT: true; the input reads as it did. -/
def fnExactStrengthLeftSpec : ChangeSpec := { name := "fnExactStrengthLeft", fn := fun _ => fun
  | [d1, d2, d3] => { results := [.lit (.bool true)], args := [d1, d2, d3] }
  | _ => none }
def fnExactStrengthLeftRow : OpenClaim := { program := "ytdjoechokkbjeaa", sum := "097cecde6354a19f090988b2454cf4cf7ab217c5f0e76682cafdcd298782e559", func := "loop.example/g01057/laws.FnExactStrengthLeft", spec := "fnExactStrengthLeft", unfollowed := true, recurses := true, apart := false }
def FnExactStrengthLeftSaid : Prop := fnExactStrengthLeftRow.holds Try.pinned (OpenSpec.ofChange fnExactStrengthLeftSpec)

/-- ITS FALSE NEIGHBOUR: 'it returns false'. Refute it at one input. -/
def fnExactStrengthLeftWrong : ChangeSpec := { name := "fnExactStrengthLeft", fn := fun _ => fun
  | [d1, d2, d3] => { results := [.lit (.bool false)], args := [d1, d2, d3] }
  | _ => none }
def FnExactStrengthLeftWrongFalsely : Prop := fnExactStrengthLeftRow.holds Try.pinned (OpenSpec.ofChange fnExactStrengthLeftWrong)

/-- 'laws.FnExactMustReplace': WHATEVER THE INPUT: true; the input reads as it did. -/
def fnExactMustReplaceSpec : ChangeSpec := { name := "fnExactMustReplace", fn := fun _ => fun
  | [d1, d2, d3, d4] => { results := [.lit (.bool true)], args := [d1, d2, d3, d4] }
  | _ => none }
def fnExactMustReplaceRow : OpenClaim := { program := "ytdjoechokkbjeaa", sum := "097cecde6354a19f090988b2454cf4cf7ab217c5f0e76682cafdcd298782e559", func := "loop.example/g01057/laws.FnExactMustReplace", spec := "fnExactMustReplace", unfollowed := true, recurses := true, apart := false }
def FnExactMustReplaceSaid : Prop := fnExactMustReplaceRow.holds Try.pinned (OpenSpec.ofChange fnExactMustReplaceSpec)

/-- ITS FALSE NEIGHBOUR: 'it returns false'. Refute it at one input. -/
def fnExactMustReplaceWrong : ChangeSpec := { name := "fnExactMustReplace", fn := fun _ => fun
  | [d1, d2, d3, d4] => { results := [.lit (.bool false)], args := [d1, d2, d3, d4] }
  | _ => none }
def FnExactMustReplaceWrongFalsely : Prop := fnExactMustReplaceRow.holds Try.pinned (OpenSpec.ofChange fnExactMustReplaceWrong)

/-- 'laws.FnExactCutOut': WHATEVER THE INPUT: true; the input reads as it did. -/
def fnExactCutOutSpec : ChangeSpec := { name := "fnExactCutOut", fn := fun _ => fun
  | [d1, d2] => { results := [.lit (.bool true)], args := [d1, d2] }
  | _ => none }
def fnExactCutOutRow : OpenClaim := { program := "ytdjoechokkbjeaa", sum := "097cecde6354a19f090988b2454cf4cf7ab217c5f0e76682cafdcd298782e559", func := "loop.example/g01057/laws.FnExactCutOut", spec := "fnExactCutOut", unfollowed := true, recurses := true, apart := false }
def FnExactCutOutSaid : Prop := fnExactCutOutRow.holds Try.pinned (OpenSpec.ofChange fnExactCutOutSpec)

/-- ITS FALSE NEIGHBOUR: 'it returns false'. Refute it at one input. -/
def fnExactCutOutWrong : ChangeSpec := { name := "fnExactCutOut", fn := fun _ => fun
  | [d1, d2] => { results := [.lit (.bool false)], args := [d1, d2] }
  | _ => none }
def FnExactCutOutWrongFalsely : Prop := fnExactCutOutRow.holds Try.pinned (OpenSpec.ofChange fnExactCutOutWrong)

/-- 'laws.FnExactNextTest': WHATEVER THE INPUT: true; the input reads as it did. -/
def fnExactNextTestSpec : ChangeSpec := { name := "fnExactNextTest", fn := fun _ => fun
  | [d1, d2, d3] => { results := [.lit (.bool true)], args := [d1, d2, d3] }
  | _ => none }
def fnExactNextTestRow : OpenClaim := { program := "ytdjoechokkbjeaa", sum := "097cecde6354a19f090988b2454cf4cf7ab217c5f0e76682cafdcd298782e559", func := "loop.example/g01057/laws.FnExactNextTest", spec := "fnExactNextTest", apart := false }
def FnExactNextTestSaid : Prop := fnExactNextTestRow.holds Try.pinned (OpenSpec.ofChange fnExactNextTestSpec)

/-- ITS FALSE NEIGHBOUR: 'it returns false'. Refute it at one input. -/
def fnExactNextTestWrong : ChangeSpec := { name := "fnExactNextTest", fn := fun _ => fun
  | [d1, d2, d3] => { results := [.lit (.bool false)], args := [d1, d2, d3] }
  | _ => none }
def FnExactNextTestWrongFalsely : Prop := fnExactNextTestRow.holds Try.pinned (OpenSpec.ofChange fnExactNextTestWrong)

/-- 'laws.FnRopeTests': WHATEVER THE INPUT: true; the input reads as it did. -/
def fnRopeTestsSpec : ChangeSpec := { name := "fnRopeTests", fn := fun _ => fun
  | [d1, d2] => { results := [.lit (.bool true)], args := [d1, d2] }
  | _ => none }
def fnRopeTestsRow : OpenClaim := { program := "ytdjoechokkbjeaa", sum := "097cecde6354a19f090988b2454cf4cf7ab217c5f0e76682cafdcd298782e559", func := "loop.example/g01057/laws.FnRopeTests", spec := "fnRopeTests", unfollowed := true, recurses := true, apart := false }
def FnRopeTestsSaid : Prop := fnRopeTestsRow.holds Try.pinned (OpenSpec.ofChange fnRopeTestsSpec)

/-- ITS FALSE NEIGHBOUR: 'it returns false'. Refute it at one input. -/
def fnRopeTestsWrong : ChangeSpec := { name := "fnRopeTests", fn := fun _ => fun
  | [d1, d2] => { results := [.lit (.bool false)], args := [d1, d2] }
  | _ => none }
def FnRopeTestsWrongFalsely : Prop := fnRopeTestsRow.holds Try.pinned (OpenSpec.ofChange fnRopeTestsWrong)

/- THE SECOND FORM. 'bulk': how many values and letters a reading holds, each counted each time it is reached (what is shared counts as often as it is met; a slice's spare places count too). A statement '..UptoSaid' is the law's where the arguments, and the package variables that the reading takes, are together of bulk at most 1048576: NARROWER than '..Said'. Prove '..Said' where nothing that the law and all that it calls make is longer than what came in: it says more and counts as full. Else prove '..UptoSaid'. A law counts once. -/
mutual
def uptoBulk {H : Type} : DataW H → Nat
  | .lit (.string bytes) => bytes.length + 1
  | .lit _ => 1
  | .nil => 1
  | .ptr d => uptoBulk d + 1
  | .slice elems spare => uptoBulkAll elems + uptoBulkAll spare + 1
  | .agg parts => uptoBulkAll parts + 1
  | .iface _ d => uptoBulk d + 1
  | .map entries => uptoBulkEntries entries + 1
  | .held _ => 1
def uptoBulkAll {H : Type} : List (DataW H) → Nat
  | [] => 0
  | d :: r => uptoBulk d + uptoBulkAll r
def uptoBulkEntries {H : Type} : List (Lit × DataW H) → Nat
  | [] => 0
  | x :: r => uptoBulkEntry x + uptoBulkEntries r
def uptoBulkEntry {H : Type} : Lit × DataW H → Nat
  | (.string bytes, d) => bytes.length + uptoBulk d + 1
  | (_, d) => uptoBulk d + 1
 end
def uptoSmall : (H : Type) → List (DataW H) → Bool := fun _ ds => decide (uptoBulkAll ds ≤ 1048576)
def OpenSpec.upto (s : _root_.Go.ChangeSpec) : _root_.Go.OpenSpec := { _root_.Go.OpenSpec.ofChange s with cond := some uptoSmall }

/-- 'laws.FnExactValidSpots', WHERE WHAT IT READS IS OF BULK AT MOST 1048576: true; the input reads as it did. -/
def fnExactValidSpotsUptoRow : OpenClaim := { program := "ytdjoechokkbjeaa", sum := "097cecde6354a19f090988b2454cf4cf7ab217c5f0e76682cafdcd298782e559", func := "loop.example/g01057/laws.FnExactValidSpots", spec := "fnExactValidSpots", unfollowed := true, recurses := true, apart := false, narrowed := true }
def FnExactValidSpotsUptoSaid : Prop := fnExactValidSpotsUptoRow.holds Try.pinned (OpenSpec.upto fnExactValidSpotsSpec)

/-- 'laws.FnExactValidTests', WHERE WHAT IT READS IS OF BULK AT MOST 1048576: true; the input reads as it did. -/
def fnExactValidTestsUptoRow : OpenClaim := { program := "ytdjoechokkbjeaa", sum := "097cecde6354a19f090988b2454cf4cf7ab217c5f0e76682cafdcd298782e559", func := "loop.example/g01057/laws.FnExactValidTests", spec := "fnExactValidTests", apart := false, narrowed := true }
def FnExactValidTestsUptoSaid : Prop := fnExactValidTestsUptoRow.holds Try.pinned (OpenSpec.upto fnExactValidTestsSpec)

/-- 'laws.FnExactNewBroken', WHERE WHAT IT READS IS OF BULK AT MOST 1048576: true; the input reads as it did. -/
def fnExactNewBrokenUptoRow : OpenClaim := { program := "ytdjoechokkbjeaa", sum := "097cecde6354a19f090988b2454cf4cf7ab217c5f0e76682cafdcd298782e559", func := "loop.example/g01057/laws.FnExactNewBroken", spec := "fnExactNewBroken", unfollowed := true, recurses := true, apart := false, narrowed := true }
def FnExactNewBrokenUptoSaid : Prop := fnExactNewBrokenUptoRow.holds Try.pinned (OpenSpec.upto fnExactNewBrokenSpec)

/-- 'laws.FnExactBrokenIn', WHERE WHAT IT READS IS OF BULK AT MOST 1048576: true; the input reads as it did. -/
def fnExactBrokenInUptoRow : OpenClaim := { program := "ytdjoechokkbjeaa", sum := "097cecde6354a19f090988b2454cf4cf7ab217c5f0e76682cafdcd298782e559", func := "loop.example/g01057/laws.FnExactBrokenIn", spec := "fnExactBrokenIn", unfollowed := true, recurses := true, apart := false, narrowed := true }
def FnExactBrokenInUptoSaid : Prop := fnExactBrokenInUptoRow.holds Try.pinned (OpenSpec.upto fnExactBrokenInSpec)

/-- 'laws.FnExactGrowthOf', WHERE WHAT IT READS IS OF BULK AT MOST 1048576: true; the input reads as it did. -/
def fnExactGrowthOfUptoRow : OpenClaim := { program := "ytdjoechokkbjeaa", sum := "097cecde6354a19f090988b2454cf4cf7ab217c5f0e76682cafdcd298782e559", func := "loop.example/g01057/laws.FnExactGrowthOf", spec := "fnExactGrowthOf", apart := false, narrowed := true }
def FnExactGrowthOfUptoSaid : Prop := fnExactGrowthOfUptoRow.holds Try.pinned (OpenSpec.upto fnExactGrowthOfSpec)

/-- 'laws.FnExactWorstSpot', WHERE WHAT IT READS IS OF BULK AT MOST 1048576: true; the input reads as it did. -/
def fnExactWorstSpotUptoRow : OpenClaim := { program := "ytdjoechokkbjeaa", sum := "097cecde6354a19f090988b2454cf4cf7ab217c5f0e76682cafdcd298782e559", func := "loop.example/g01057/laws.FnExactWorstSpot", spec := "fnExactWorstSpot", unfollowed := true, recurses := true, apart := false, narrowed := true }
def FnExactWorstSpotUptoSaid : Prop := fnExactWorstSpotUptoRow.holds Try.pinned (OpenSpec.upto fnExactWorstSpotSpec)

/-- 'laws.FnExactAddTest', WHERE WHAT IT READS IS OF BULK AT MOST 1048576: true; the input reads as it did. -/
def fnExactAddTestUptoRow : OpenClaim := { program := "ytdjoechokkbjeaa", sum := "097cecde6354a19f090988b2454cf4cf7ab217c5f0e76682cafdcd298782e559", func := "loop.example/g01057/laws.FnExactAddTest", spec := "fnExactAddTest", apart := false, narrowed := true }
def FnExactAddTestUptoSaid : Prop := fnExactAddTestUptoRow.holds Try.pinned (OpenSpec.upto fnExactAddTestSpec)

/-- 'laws.FnExactDayOfLimit', WHERE WHAT IT READS IS OF BULK AT MOST 1048576: true; the input reads as it did. -/
def fnExactDayOfLimitUptoRow : OpenClaim := { program := "ytdjoechokkbjeaa", sum := "097cecde6354a19f090988b2454cf4cf7ab217c5f0e76682cafdcd298782e559", func := "loop.example/g01057/laws.FnExactDayOfLimit", spec := "fnExactDayOfLimit", apart := false, narrowed := true }
def FnExactDayOfLimitUptoSaid : Prop := fnExactDayOfLimitUptoRow.holds Try.pinned (OpenSpec.upto fnExactDayOfLimitSpec)

/-- 'laws.FnExactStrengthLeft', WHERE WHAT IT READS IS OF BULK AT MOST 1048576: true; the input reads as it did. -/
def fnExactStrengthLeftUptoRow : OpenClaim := { program := "ytdjoechokkbjeaa", sum := "097cecde6354a19f090988b2454cf4cf7ab217c5f0e76682cafdcd298782e559", func := "loop.example/g01057/laws.FnExactStrengthLeft", spec := "fnExactStrengthLeft", unfollowed := true, recurses := true, apart := false, narrowed := true }
def FnExactStrengthLeftUptoSaid : Prop := fnExactStrengthLeftUptoRow.holds Try.pinned (OpenSpec.upto fnExactStrengthLeftSpec)

/-- 'laws.FnExactMustReplace', WHERE WHAT IT READS IS OF BULK AT MOST 1048576: true; the input reads as it did. -/
def fnExactMustReplaceUptoRow : OpenClaim := { program := "ytdjoechokkbjeaa", sum := "097cecde6354a19f090988b2454cf4cf7ab217c5f0e76682cafdcd298782e559", func := "loop.example/g01057/laws.FnExactMustReplace", spec := "fnExactMustReplace", unfollowed := true, recurses := true, apart := false, narrowed := true }
def FnExactMustReplaceUptoSaid : Prop := fnExactMustReplaceUptoRow.holds Try.pinned (OpenSpec.upto fnExactMustReplaceSpec)

/-- 'laws.FnExactCutOut', WHERE WHAT IT READS IS OF BULK AT MOST 1048576: true; the input reads as it did. -/
def fnExactCutOutUptoRow : OpenClaim := { program := "ytdjoechokkbjeaa", sum := "097cecde6354a19f090988b2454cf4cf7ab217c5f0e76682cafdcd298782e559", func := "loop.example/g01057/laws.FnExactCutOut", spec := "fnExactCutOut", unfollowed := true, recurses := true, apart := false, narrowed := true }
def FnExactCutOutUptoSaid : Prop := fnExactCutOutUptoRow.holds Try.pinned (OpenSpec.upto fnExactCutOutSpec)

/-- 'laws.FnExactNextTest', WHERE WHAT IT READS IS OF BULK AT MOST 1048576: true; the input reads as it did. -/
def fnExactNextTestUptoRow : OpenClaim := { program := "ytdjoechokkbjeaa", sum := "097cecde6354a19f090988b2454cf4cf7ab217c5f0e76682cafdcd298782e559", func := "loop.example/g01057/laws.FnExactNextTest", spec := "fnExactNextTest", apart := false, narrowed := true }
def FnExactNextTestUptoSaid : Prop := fnExactNextTestUptoRow.holds Try.pinned (OpenSpec.upto fnExactNextTestSpec)

/-- 'laws.FnRopeTests', WHERE WHAT IT READS IS OF BULK AT MOST 1048576: true; the input reads as it did. -/
def fnRopeTestsUptoRow : OpenClaim := { program := "ytdjoechokkbjeaa", sum := "097cecde6354a19f090988b2454cf4cf7ab217c5f0e76682cafdcd298782e559", func := "loop.example/g01057/laws.FnRopeTests", spec := "fnRopeTests", unfollowed := true, recurses := true, apart := false, narrowed := true }
def FnRopeTestsUptoSaid : Prop := fnRopeTestsUptoRow.holds Try.pinned (OpenSpec.upto fnRopeTestsSpec)

end Rows
end Go.Proofs.Ytdjoechokkbjeaa
