/-
  No cell of these rows narrows 'for every input' (looked for: loops, veiled, ifaces, maps, wideKeys, modest, calm, conditions, laid).
  DERIVED. THE GIVEN ROWS OF THIS SEAT. 8 by the template 'for every input the law returns true; each argument reads behind the call as it read before'; 0 by the template 'total and deterministic' (their statements: YteobefanhicjkaaTotals.lean).
  GIVEN WITH THE SEED: the statements are not yours to turn. If you find one false, say at which input.
  Laid BY PROGRAM, IN A SANDBOX (cutbox-rows.mjs): the forced cells as the released guide's own fill.sh prints them over the translation 4ca2c128d17eeb89… (all of the seat's roots in one cut). By AI agents, Wed Nov 11 2026. No macro, syntax, notation, axiom, sorry.
-/
import Derived.Test.YteobefanhicjkaaChecked
import GoSem.Claim
import GoSem.ClaimJoined
import GoSem.ClaimMapViews
import Derived.JoinedTies
import Derived.KernelRfl
namespace Go.Proofs.Yteobefanhicjkaa
/- THE CELL 'sum', in the pinned program and in every row, IS THE sha256 OF THE DUMP (.gsa) THAT YteobefanhicjkaaProg.lean LOADS. Nothing in Lean hashes anything: it is a label: what it is worth is what the hold of that sum in a sandbox is worth. -/
noncomputable def Try.pinned : Pinned := { name := "yteobefanhicjkaa", sum := "4ca2c128d17eeb89b42557e55dcb8d4fa9e6df3dcb8bb0862babc754e293df13", checked := Try.checked }
namespace Rows
def none {H : Type} : Left H := { results := [], args := [] }

/-- 'laws.FnExactWithoutHelper': WHATEVER THE INPUT: true; the input reads as it did. -/
def fnExactWithoutHelperSpec : ChangeSpec := { name := "fnExactWithoutHelper", fn := fun _ => fun
  | [d1, d2] => { results := [.lit (.bool true)], args := [d1, d2] }
  | _ => none }
def fnExactWithoutHelperRow : OpenClaim := { program := "yteobefanhicjkaa", sum := "4ca2c128d17eeb89b42557e55dcb8d4fa9e6df3dcb8bb0862babc754e293df13", func := "loop.example/g01057/laws.FnExactWithoutHelper", spec := "fnExactWithoutHelper", unfollowed := true, recurses := true, apart := false }
def FnExactWithoutHelperSaid : Prop := fnExactWithoutHelperRow.holds Try.pinned (OpenSpec.ofChange fnExactWithoutHelperSpec)

/-- ITS FALSE NEIGHBOUR: 'it returns false'. Refute it at one input. -/
def fnExactWithoutHelperWrong : ChangeSpec := { name := "fnExactWithoutHelper", fn := fun _ => fun
  | [d1, d2] => { results := [.lit (.bool false)], args := [d1, d2] }
  | _ => none }
def FnExactWithoutHelperWrongFalsely : Prop := fnExactWithoutHelperRow.holds Try.pinned (OpenSpec.ofChange fnExactWithoutHelperWrong)

/-- 'laws.FnExactSkillText': WHATEVER THE INPUT: true; the input reads as it did. -/
def fnExactSkillTextSpec : ChangeSpec := { name := "fnExactSkillText", fn := fun _ => fun
  | [d] => { results := [.lit (.bool true)], args := [d] }
  | _ => none }
def fnExactSkillTextRow : OpenClaim := { program := "yteobefanhicjkaa", sum := "4ca2c128d17eeb89b42557e55dcb8d4fa9e6df3dcb8bb0862babc754e293df13", func := "loop.example/g01057/laws.FnExactSkillText", spec := "fnExactSkillText", inPlace := ["internal/abi.NoEscape", "internal/bytealg.MakeNoZero"], apart := false }
def FnExactSkillTextSaid : Prop := fnExactSkillTextRow.holds Try.pinned (OpenSpec.ofChange fnExactSkillTextSpec)

/-- ITS FALSE NEIGHBOUR: 'it returns false'. Refute it at one input. -/
def fnExactSkillTextWrong : ChangeSpec := { name := "fnExactSkillText", fn := fun _ => fun
  | [d] => { results := [.lit (.bool false)], args := [d] }
  | _ => none }
def FnExactSkillTextWrongFalsely : Prop := fnExactSkillTextRow.holds Try.pinned (OpenSpec.ofChange fnExactSkillTextWrong)

/-- 'laws.FnExactReadSkills': WHATEVER THE INPUT: true; the input reads as it did. -/
def fnExactReadSkillsSpec : ChangeSpec := { name := "fnExactReadSkills", fn := fun _ => fun
  | [d] => { results := [.lit (.bool true)], args := [d] }
  | _ => none }
def fnExactReadSkillsRow : OpenClaim := { program := "yteobefanhicjkaa", sum := "4ca2c128d17eeb89b42557e55dcb8d4fa9e6df3dcb8bb0862babc754e293df13", func := "loop.example/g01057/laws.FnExactReadSkills", spec := "fnExactReadSkills", inPlace := ["internal/abi.NoEscape", "internal/bytealg.MakeNoZero"], apart := false }
def FnExactReadSkillsSaid : Prop := fnExactReadSkillsRow.holds Try.pinned (OpenSpec.ofChange fnExactReadSkillsSpec)

/-- ITS FALSE NEIGHBOUR: 'it returns false'. Refute it at one input. -/
def fnExactReadSkillsWrong : ChangeSpec := { name := "fnExactReadSkills", fn := fun _ => fun
  | [d] => { results := [.lit (.bool false)], args := [d] }
  | _ => none }
def FnExactReadSkillsWrongFalsely : Prop := fnExactReadSkillsRow.holds Try.pinned (OpenSpec.ofChange fnExactReadSkillsWrong)

/-- 'laws.FnExactMostFilled': WHATEVER THE INPUT: true; the input reads as it did. -/
def fnExactMostFilledSpec : ChangeSpec := { name := "fnExactMostFilled", fn := fun _ => fun
  | [d1, d2] => { results := [.lit (.bool true)], args := [d1, d2] }
  | _ => none }
def fnExactMostFilledRow : OpenClaim := { program := "yteobefanhicjkaa", sum := "4ca2c128d17eeb89b42557e55dcb8d4fa9e6df3dcb8bb0862babc754e293df13", func := "loop.example/g01057/laws.FnExactMostFilled", spec := "fnExactMostFilled", recurses := true, apart := false }
def FnExactMostFilledSaid : Prop := fnExactMostFilledRow.holds Try.pinned (OpenSpec.ofChange fnExactMostFilledSpec)

/-- ITS FALSE NEIGHBOUR: 'it returns false'. Refute it at one input. -/
def fnExactMostFilledWrong : ChangeSpec := { name := "fnExactMostFilled", fn := fun _ => fun
  | [d1, d2] => { results := [.lit (.bool false)], args := [d1, d2] }
  | _ => none }
def FnExactMostFilledWrongFalsely : Prop := fnExactMostFilledRow.holds Try.pinned (OpenSpec.ofChange fnExactMostFilledWrong)

/-- 'laws.FnExactKeyHelpers': WHATEVER THE INPUT: true; the input reads as it did. -/
def fnExactKeyHelpersSpec : ChangeSpec := { name := "fnExactKeyHelpers", fn := fun _ => fun
  | [d1, d2] => { results := [.lit (.bool true)], args := [d1, d2] }
  | _ => none }
def fnExactKeyHelpersRow : OpenClaim := { program := "yteobefanhicjkaa", sum := "4ca2c128d17eeb89b42557e55dcb8d4fa9e6df3dcb8bb0862babc754e293df13", func := "loop.example/g01057/laws.FnExactKeyHelpers", spec := "fnExactKeyHelpers", recurses := true, apart := false }
def FnExactKeyHelpersSaid : Prop := fnExactKeyHelpersRow.holds Try.pinned (OpenSpec.ofChange fnExactKeyHelpersSpec)

/-- ITS FALSE NEIGHBOUR: 'it returns false'. Refute it at one input. -/
def fnExactKeyHelpersWrong : ChangeSpec := { name := "fnExactKeyHelpers", fn := fun _ => fun
  | [d1, d2] => { results := [.lit (.bool false)], args := [d1, d2] }
  | _ => none }
def FnExactKeyHelpersWrongFalsely : Prop := fnExactKeyHelpersRow.holds Try.pinned (OpenSpec.ofChange fnExactKeyHelpersWrong)

/-- 'laws.FnExactFillTasks': WHATEVER THE INPUT: true; the input reads as it did. -/
def fnExactFillTasksSpec : ChangeSpec := { name := "fnExactFillTasks", fn := fun _ => fun
  | [d1, d2] => { results := [.lit (.bool true)], args := [d1, d2] }
  | _ => none }
def fnExactFillTasksRow : OpenClaim := { program := "yteobefanhicjkaa", sum := "4ca2c128d17eeb89b42557e55dcb8d4fa9e6df3dcb8bb0862babc754e293df13", func := "loop.example/g01057/laws.FnExactFillTasks", spec := "fnExactFillTasks", recurses := true, apart := false }
def FnExactFillTasksSaid : Prop := fnExactFillTasksRow.holds Try.pinned (OpenSpec.ofChange fnExactFillTasksSpec)

/-- ITS FALSE NEIGHBOUR: 'it returns false'. Refute it at one input. -/
def fnExactFillTasksWrong : ChangeSpec := { name := "fnExactFillTasks", fn := fun _ => fun
  | [d1, d2] => { results := [.lit (.bool false)], args := [d1, d2] }
  | _ => none }
def FnExactFillTasksWrongFalsely : Prop := fnExactFillTasksRow.holds Try.pinned (OpenSpec.ofChange fnExactFillTasksWrong)

/-- 'laws.FnExactQuickestFill': WHATEVER THE INPUT: true; the input reads as it did. -/
def fnExactQuickestFillSpec : ChangeSpec := { name := "fnExactQuickestFill", fn := fun _ => fun
  | [d1, d2, d3] => { results := [.lit (.bool true)], args := [d1, d2, d3] }
  | _ => none }
def fnExactQuickestFillRow : OpenClaim := { program := "yteobefanhicjkaa", sum := "4ca2c128d17eeb89b42557e55dcb8d4fa9e6df3dcb8bb0862babc754e293df13", func := "loop.example/g01057/laws.FnExactQuickestFill", spec := "fnExactQuickestFill", recurses := true, apart := false }
def FnExactQuickestFillSaid : Prop := fnExactQuickestFillRow.holds Try.pinned (OpenSpec.ofChange fnExactQuickestFillSpec)

/-- ITS FALSE NEIGHBOUR: 'it returns false'. Refute it at one input. -/
def fnExactQuickestFillWrong : ChangeSpec := { name := "fnExactQuickestFill", fn := fun _ => fun
  | [d1, d2, d3] => { results := [.lit (.bool false)], args := [d1, d2, d3] }
  | _ => none }
def FnExactQuickestFillWrongFalsely : Prop := fnExactQuickestFillRow.holds Try.pinned (OpenSpec.ofChange fnExactQuickestFillWrong)

/-- 'laws.FnTasks': WHATEVER THE INPUT: true; the input reads as it did. -/
def fnTasksSpec : ChangeSpec := { name := "fnTasks", fn := fun _ => fun
  | [d1, d2] => { results := [.lit (.bool true)], args := [d1, d2] }
  | _ => none }
def fnTasksRow : OpenClaim := { program := "yteobefanhicjkaa", sum := "4ca2c128d17eeb89b42557e55dcb8d4fa9e6df3dcb8bb0862babc754e293df13", func := "loop.example/g01057/laws.FnTasks", spec := "fnTasks", unfollowed := true, recurses := true, apart := false }
def FnTasksSaid : Prop := fnTasksRow.holds Try.pinned (OpenSpec.ofChange fnTasksSpec)

/-- ITS FALSE NEIGHBOUR: 'it returns false'. Refute it at one input. -/
def fnTasksWrong : ChangeSpec := { name := "fnTasks", fn := fun _ => fun
  | [d1, d2] => { results := [.lit (.bool false)], args := [d1, d2] }
  | _ => none }
def FnTasksWrongFalsely : Prop := fnTasksRow.holds Try.pinned (OpenSpec.ofChange fnTasksWrong)

/- THE SECOND FORM. 'bulk': how many values and letters a reading holds, each counted each time it is reached (what is shared counts as often as it is met; a slice's spare places count too). A statement '..UptoSaid' is the law's where the arguments, and the package variables that the reading takes, are together of bulk at most 1048576: NARROWER than '..Said'. Prove '..Said' where nothing that the law and all that it calls make is longer than what came in: it says more and counts as full. Else prove '..UptoSaid'. A law counts once. -/
mutual
def uptoBulk {H : Type} : DataW H → Nat
  | .lit (.string bytes) => bytes.length + 1
  | .lit _ => 1
  | .nil => 1
  | .ptr d => uptoBulk d + 1
  | .slice elems spare => uptoBulkAll elems + uptoBulkAll spare + 1
  | .agg parts => uptoBulkAll parts + 1
  | .iface _ d => uptoBulk d + 1
  | .map entries => uptoBulkEntries entries + 1
  | .held _ => 1
def uptoBulkAll {H : Type} : List (DataW H) → Nat
  | [] => 0
  | d :: r => uptoBulk d + uptoBulkAll r
def uptoBulkEntries {H : Type} : List (Lit × DataW H) → Nat
  | [] => 0
  | x :: r => uptoBulkEntry x + uptoBulkEntries r
def uptoBulkEntry {H : Type} : Lit × DataW H → Nat
  | (.string bytes, d) => bytes.length + uptoBulk d + 1
  | (_, d) => uptoBulk d + 1
 end
def uptoSmall : (H : Type) → List (DataW H) → Bool := fun _ ds => decide (uptoBulkAll ds ≤ 1048576)
def OpenSpec.upto (s : _root_.Go.ChangeSpec) : _root_.Go.OpenSpec := { _root_.Go.OpenSpec.ofChange s with cond := some uptoSmall }

/-- 'laws.FnExactWithoutHelper', WHERE WHAT IT READS IS OF BULK AT MOST 1048576: true; the input reads as it did. -/
def fnExactWithoutHelperUptoRow : OpenClaim := { program := "yteobefanhicjkaa", sum := "4ca2c128d17eeb89b42557e55dcb8d4fa9e6df3dcb8bb0862babc754e293df13", func := "loop.example/g01057/laws.FnExactWithoutHelper", spec := "fnExactWithoutHelper", unfollowed := true, recurses := true, apart := false, narrowed := true }
def FnExactWithoutHelperUptoSaid : Prop := fnExactWithoutHelperUptoRow.holds Try.pinned (OpenSpec.upto fnExactWithoutHelperSpec)

/-- 'laws.FnExactSkillText', WHERE WHAT IT READS IS OF BULK AT MOST 1048576: true; the input reads as it did. -/
def fnExactSkillTextUptoRow : OpenClaim := { program := "yteobefanhicjkaa", sum := "4ca2c128d17eeb89b42557e55dcb8d4fa9e6df3dcb8bb0862babc754e293df13", func := "loop.example/g01057/laws.FnExactSkillText", spec := "fnExactSkillText", inPlace := ["internal/abi.NoEscape", "internal/bytealg.MakeNoZero"], apart := false, narrowed := true }
def FnExactSkillTextUptoSaid : Prop := fnExactSkillTextUptoRow.holds Try.pinned (OpenSpec.upto fnExactSkillTextSpec)

/-- 'laws.FnExactReadSkills', WHERE WHAT IT READS IS OF BULK AT MOST 1048576: true; the input reads as it did. -/
def fnExactReadSkillsUptoRow : OpenClaim := { program := "yteobefanhicjkaa", sum := "4ca2c128d17eeb89b42557e55dcb8d4fa9e6df3dcb8bb0862babc754e293df13", func := "loop.example/g01057/laws.FnExactReadSkills", spec := "fnExactReadSkills", inPlace := ["internal/abi.NoEscape", "internal/bytealg.MakeNoZero"], apart := false, narrowed := true }
def FnExactReadSkillsUptoSaid : Prop := fnExactReadSkillsUptoRow.holds Try.pinned (OpenSpec.upto fnExactReadSkillsSpec)

/-- 'laws.FnExactMostFilled', WHERE WHAT IT READS IS OF BULK AT MOST 1048576: true; the input reads as it did. -/
def fnExactMostFilledUptoRow : OpenClaim := { program := "yteobefanhicjkaa", sum := "4ca2c128d17eeb89b42557e55dcb8d4fa9e6df3dcb8bb0862babc754e293df13", func := "loop.example/g01057/laws.FnExactMostFilled", spec := "fnExactMostFilled", recurses := true, apart := false, narrowed := true }
def FnExactMostFilledUptoSaid : Prop := fnExactMostFilledUptoRow.holds Try.pinned (OpenSpec.upto fnExactMostFilledSpec)

/-- 'laws.FnExactKeyHelpers', WHERE WHAT IT READS IS OF BULK AT MOST 1048576: true; the input reads as it did. -/
def fnExactKeyHelpersUptoRow : OpenClaim := { program := "yteobefanhicjkaa", sum := "4ca2c128d17eeb89b42557e55dcb8d4fa9e6df3dcb8bb0862babc754e293df13", func := "loop.example/g01057/laws.FnExactKeyHelpers", spec := "fnExactKeyHelpers", recurses := true, apart := false, narrowed := true }
def FnExactKeyHelpersUptoSaid : Prop := fnExactKeyHelpersUptoRow.holds Try.pinned (OpenSpec.upto fnExactKeyHelpersSpec)

/-- 'laws.FnExactFillTasks', WHERE WHAT IT READS IS OF BULK AT MOST 1048576: true; the input reads as it did. -/
def fnExactFillTasksUptoRow : OpenClaim := { program := "yteobefanhicjkaa", sum := "4ca2c128d17eeb89b42557e55dcb8d4fa9e6df3dcb8bb0862babc754e293df13", func := "loop.example/g01057/laws.FnExactFillTasks", spec := "fnExactFillTasks", recurses := true, apart := false, narrowed := true }
def FnExactFillTasksUptoSaid : Prop := fnExactFillTasksUptoRow.holds Try.pinned (OpenSpec.upto fnExactFillTasksSpec)

/-- 'laws.FnExactQuickestFill', WHERE WHAT IT READS IS OF BULK AT MOST 1048576: true; the input reads as it did. -/
def fnExactQuickestFillUptoRow : OpenClaim := { program := "yteobefanhicjkaa", sum := "4ca2c128d17eeb89b42557e55dcb8d4fa9e6df3dcb8bb0862babc754e293df13", func := "loop.example/g01057/laws.FnExactQuickestFill", spec := "fnExactQuickestFill", recurses := true, apart := false, narrowed := true }
def FnExactQuickestFillUptoSaid : Prop := fnExactQuickestFillUptoRow.holds Try.pinned (OpenSpec.upto fnExactQuickestFillSpec)

/-- 'laws.FnTasks', WHERE WHAT IT READS IS OF BULK AT MOST 1048576: true; the input reads as it did. -/
def fnTasksUptoRow : OpenClaim := { program := "yteobefanhicjkaa", sum := "4ca2c128d17eeb89b42557e55dcb8d4fa9e6df3dcb8bb0862babc754e293df13", func := "loop.example/g01057/laws.FnTasks", spec := "fnTasks", unfollowed := true, recurses := true, apart := false, narrowed := true }
def FnTasksUptoSaid : Prop := fnTasksUptoRow.holds Try.pinned (OpenSpec.upto fnTasksSpec)

end Rows
end Go.Proofs.Yteobefanhicjkaa
