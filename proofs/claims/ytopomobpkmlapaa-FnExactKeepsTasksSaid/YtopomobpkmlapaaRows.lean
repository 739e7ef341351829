/-
  No cell of these rows narrows 'for every input' (looked for: loops, veiled, ifaces, maps, wideKeys, modest, calm, conditions, laid).
  DERIVED. THE GIVEN ROWS OF THIS SEAT. 8 by the template 'for every input the law returns true; each argument reads behind the call as it read before'; 0 by the template 'total and deterministic' (their statements: YtopomobpkmlapaaTotals.lean).
  GIVEN WITH THE SEED: the statements are not yours to turn. If you find one false, say at which input.
  Laid BY PROGRAM, IN A SANDBOX (cutbox-rows.mjs): the forced cells as the released guide's own fill.sh prints them over the translation 5fd42c557b98d2e4… (all of the seat's roots in one cut). By AI agents, Wed Nov 11 2026. No macro, syntax, notation, axiom, sorry.
-/
import Derived.Test.YtopomobpkmlapaaChecked
import GoSem.Claim
import GoSem.ClaimJoined
import GoSem.ClaimMapViews
import Derived.JoinedTies
import Derived.KernelRfl
namespace Go.Proofs.Ytopomobpkmlapaa
/- THE CELL 'sum', in the pinned program and in every row, IS THE sha256 OF THE DUMP (.gsa) THAT YtopomobpkmlapaaProg.lean LOADS. Nothing in Lean hashes anything: it is a label: what it is worth is what the hold of that sum in a sandbox is worth. -/
noncomputable def Try.pinned : Pinned := { name := "ytopomobpkmlapaa", sum := "5fd42c557b98d2e47fe1c726b3d063775febf82b64192ac45b49206826ac389a", checked := Try.checked }
namespace Rows
def none {H : Type} : Left H := { results := [], args := [] }

/-- 'laws.FnExactValidHelpers': WHATEVER THE INPUT: true; the input reads as it did. -/
def fnExactValidHelpersSpec : ChangeSpec := { name := "fnExactValidHelpers", fn := fun _ => fun
  | [d] => { results := [.lit (.bool true)], args := [d] }
  | _ => none }
def fnExactValidHelpersRow : OpenClaim := { program := "ytopomobpkmlapaa", sum := "5fd42c557b98d2e47fe1c726b3d063775febf82b64192ac45b49206826ac389a", func := "loop.example/g01057/laws.FnExactValidHelpers", spec := "fnExactValidHelpers", apart := false }
def FnExactValidHelpersSaid : Prop := fnExactValidHelpersRow.holds Try.pinned (OpenSpec.ofChange fnExactValidHelpersSpec)

/-- ITS FALSE NEIGHBOUR: 'it returns false'. Refute it at one input. -/
def fnExactValidHelpersWrong : ChangeSpec := { name := "fnExactValidHelpers", fn := fun _ => fun
  | [d] => { results := [.lit (.bool false)], args := [d] }
  | _ => none }
def FnExactValidHelpersWrongFalsely : Prop := fnExactValidHelpersRow.holds Try.pinned (OpenSpec.ofChange fnExactValidHelpersWrong)

/-- 'laws.FnExactValidTasks': WHATEVER THE INPUT: true; the input reads as it did. -/
def fnExactValidTasksSpec : ChangeSpec := { name := "fnExactValidTasks", fn := fun _ => fun
  | [d] => { results := [.lit (.bool true)], args := [d] }
  | _ => none }
def fnExactValidTasksRow : OpenClaim := { program := "ytopomobpkmlapaa", sum := "5fd42c557b98d2e47fe1c726b3d063775febf82b64192ac45b49206826ac389a", func := "loop.example/g01057/laws.FnExactValidTasks", spec := "fnExactValidTasks", apart := false }
def FnExactValidTasksSaid : Prop := fnExactValidTasksRow.holds Try.pinned (OpenSpec.ofChange fnExactValidTasksSpec)

/-- ITS FALSE NEIGHBOUR: 'it returns false'. Refute it at one input. -/
def fnExactValidTasksWrong : ChangeSpec := { name := "fnExactValidTasks", fn := fun _ => fun
  | [d] => { results := [.lit (.bool false)], args := [d] }
  | _ => none }
def FnExactValidTasksWrongFalsely : Prop := fnExactValidTasksRow.holds Try.pinned (OpenSpec.ofChange fnExactValidTasksWrong)

/-- 'laws.FnExactSkillText': WHATEVER THE INPUT: true; the input reads as it did. -/
def fnExactSkillTextSpec : ChangeSpec := { name := "fnExactSkillText", fn := fun _ => fun
  | [d] => { results := [.lit (.bool true)], args := [d] }
  | _ => none }
def fnExactSkillTextRow : OpenClaim := { program := "ytopomobpkmlapaa", sum := "5fd42c557b98d2e47fe1c726b3d063775febf82b64192ac45b49206826ac389a", func := "loop.example/g01057/laws.FnExactSkillText", spec := "fnExactSkillText", inPlace := ["internal/abi.NoEscape", "internal/bytealg.MakeNoZero"], apart := false }
def FnExactSkillTextSaid : Prop := fnExactSkillTextRow.holds Try.pinned (OpenSpec.ofChange fnExactSkillTextSpec)

/-- ITS FALSE NEIGHBOUR: 'it returns false'. Refute it at one input. -/
def fnExactSkillTextWrong : ChangeSpec := { name := "fnExactSkillText", fn := fun _ => fun
  | [d] => { results := [.lit (.bool false)], args := [d] }
  | _ => none }
def FnExactSkillTextWrongFalsely : Prop := fnExactSkillTextRow.holds Try.pinned (OpenSpec.ofChange fnExactSkillTextWrong)

/-- 'laws.FnExactReadSkills': WHATEVER THE INPUT: true; the input reads as it did. -/
def fnExactReadSkillsSpec : ChangeSpec := { name := "fnExactReadSkills", fn := fun _ => fun
  | [d] => { results := [.lit (.bool true)], args := [d] }
  | _ => none }
def fnExactReadSkillsRow : OpenClaim := { program := "ytopomobpkmlapaa", sum := "5fd42c557b98d2e47fe1c726b3d063775febf82b64192ac45b49206826ac389a", func := "loop.example/g01057/laws.FnExactReadSkills", spec := "fnExactReadSkills", inPlace := ["internal/abi.NoEscape", "internal/bytealg.MakeNoZero"], apart := false }
def FnExactReadSkillsSaid : Prop := fnExactReadSkillsRow.holds Try.pinned (OpenSpec.ofChange fnExactReadSkillsSpec)

/-- ITS FALSE NEIGHBOUR: 'it returns false'. Refute it at one input. -/
def fnExactReadSkillsWrong : ChangeSpec := { name := "fnExactReadSkills", fn := fun _ => fun
  | [d] => { results := [.lit (.bool false)], args := [d] }
  | _ => none }
def FnExactReadSkillsWrongFalsely : Prop := fnExactReadSkillsRow.holds Try.pinned (OpenSpec.ofChange fnExactReadSkillsWrong)

/-- 'laws.FnExactHelpersFor': WHATEVER THE INPUT: true; the input reads as it did. -/
def fnExactHelpersForSpec : ChangeSpec := { name := "fnExactHelpersFor", fn := fun _ => fun
  | [d1, d2] => { results := [.lit (.bool true)], args := [d1, d2] }
  | _ => none }
def fnExactHelpersForRow : OpenClaim := { program := "ytopomobpkmlapaa", sum := "5fd42c557b98d2e47fe1c726b3d063775febf82b64192ac45b49206826ac389a", func := "loop.example/g01057/laws.FnExactHelpersFor", spec := "fnExactHelpersFor", apart := false }
def FnExactHelpersForSaid : Prop := fnExactHelpersForRow.holds Try.pinned (OpenSpec.ofChange fnExactHelpersForSpec)

/-- ITS FALSE NEIGHBOUR: 'it returns false'. Refute it at one input. -/
def fnExactHelpersForWrong : ChangeSpec := { name := "fnExactHelpersFor", fn := fun _ => fun
  | [d1, d2] => { results := [.lit (.bool false)], args := [d1, d2] }
  | _ => none }
def FnExactHelpersForWrongFalsely : Prop := fnExactHelpersForRow.holds Try.pinned (OpenSpec.ofChange fnExactHelpersForWrong)

/-- 'laws.FnExactWithoutHelper': WHATEVER THE INPUT: true; the input reads as it did. -/
def fnExactWithoutHelperSpec : ChangeSpec := { name := "fnExactWithoutHelper", fn := fun _ => fun
  | [d1, d2] => { results := [.lit (.bool true)], args := [d1, d2] }
  | _ => none }
def fnExactWithoutHelperRow : OpenClaim := { program := "ytopomobpkmlapaa", sum := "5fd42c557b98d2e47fe1c726b3d063775febf82b64192ac45b49206826ac389a", func := "loop.example/g01057/laws.FnExactWithoutHelper", spec := "fnExactWithoutHelper", unfollowed := true, recurses := true, apart := false }
def FnExactWithoutHelperSaid : Prop := fnExactWithoutHelperRow.holds Try.pinned (OpenSpec.ofChange fnExactWithoutHelperSpec)

/-- ITS FALSE NEIGHBOUR: 'it returns false'. Refute it at one input. -/
def fnExactWithoutHelperWrong : ChangeSpec := { name := "fnExactWithoutHelper", fn := fun _ => fun
  | [d1, d2] => { results := [.lit (.bool false)], args := [d1, d2] }
  | _ => none }
def FnExactWithoutHelperWrongFalsely : Prop := fnExactWithoutHelperRow.holds Try.pinned (OpenSpec.ofChange fnExactWithoutHelperWrong)

/-- 'laws.FnExactIdleHelpers': WHATEVER THE INPUT: true; the input reads as it did. -/
def fnExactIdleHelpersSpec : ChangeSpec := { name := "fnExactIdleHelpers", fn := fun _ => fun
  | [d1, d2] => { results := [.lit (.bool true)], args := [d1, d2] }
  | _ => none }
def fnExactIdleHelpersRow : OpenClaim := { program := "ytopomobpkmlapaa", sum := "5fd42c557b98d2e47fe1c726b3d063775febf82b64192ac45b49206826ac389a", func := "loop.example/g01057/laws.FnExactIdleHelpers", spec := "fnExactIdleHelpers", unfollowed := true, recurses := true, apart := false }
def FnExactIdleHelpersSaid : Prop := fnExactIdleHelpersRow.holds Try.pinned (OpenSpec.ofChange fnExactIdleHelpersSpec)

/-- ITS FALSE NEIGHBOUR: 'it returns false'. Refute it at one input. -/
def fnExactIdleHelpersWrong : ChangeSpec := { name := "fnExactIdleHelpers", fn := fun _ => fun
  | [d1, d2] => { results := [.lit (.bool false)], args := [d1, d2] }
  | _ => none }
def FnExactIdleHelpersWrongFalsely : Prop := fnExactIdleHelpersRow.holds Try.pinned (OpenSpec.ofChange fnExactIdleHelpersWrong)

/-- 'laws.FnExactKeepsTasks': WHATEVER THE INPUT: true; the input reads as it did. -/
def fnExactKeepsTasksSpec : ChangeSpec := { name := "fnExactKeepsTasks", fn := fun _ => fun
  | [d1, d2, d3] => { results := [.lit (.bool true)], args := [d1, d2, d3] }
  | _ => none }
def fnExactKeepsTasksRow : OpenClaim := { program := "ytopomobpkmlapaa", sum := "5fd42c557b98d2e47fe1c726b3d063775febf82b64192ac45b49206826ac389a", func := "loop.example/g01057/laws.FnExactKeepsTasks", spec := "fnExactKeepsTasks", apart := false }
def FnExactKeepsTasksSaid : Prop := fnExactKeepsTasksRow.holds Try.pinned (OpenSpec.ofChange fnExactKeepsTasksSpec)

/-- ITS FALSE NEIGHBOUR: 'it returns false'. Refute it at one input. -/
def fnExactKeepsTasksWrong : ChangeSpec := { name := "fnExactKeepsTasks", fn := fun _ => fun
  | [d1, d2, d3] => { results := [.lit (.bool false)], args := [d1, d2, d3] }
  | _ => none }
def FnExactKeepsTasksWrongFalsely : Prop := fnExactKeepsTasksRow.holds Try.pinned (OpenSpec.ofChange fnExactKeepsTasksWrong)

/- THE SECOND FORM. 'bulk': how many values and letters a reading holds, each counted each time it is reached (what is shared counts as often as it is met; a slice's spare places count too). A statement '..UptoSaid' is the law's where the arguments, and the package variables that the reading takes, are together of bulk at most 1048576: NARROWER than '..Said'. Prove '..Said' where nothing that the law and all that it calls make is longer than what came in: it says more and counts as full. Else prove '..UptoSaid'. A law counts once. -/
mutual
def uptoBulk {H : Type} : DataW H → Nat
  | .lit (.string bytes) => bytes.length + 1
  | .lit _ => 1
  | .nil => 1
  | .ptr d => uptoBulk d + 1
  | .slice elems spare => uptoBulkAll elems + uptoBulkAll spare + 1
  | .agg parts => uptoBulkAll parts + 1
  | .iface _ d => uptoBulk d + 1
  | .map entries => uptoBulkEntries entries + 1
  | .held _ => 1
def uptoBulkAll {H : Type} : List (DataW H) → Nat
  | [] => 0
  | d :: r => uptoBulk d + uptoBulkAll r
def uptoBulkEntries {H : Type} : List (Lit × DataW H) → Nat
  | [] => 0
  | x :: r => uptoBulkEntry x + uptoBulkEntries r
def uptoBulkEntry {H : Type} : Lit × DataW H → Nat
  | (.string bytes, d) => bytes.length + uptoBulk d + 1
  | (_, d) => uptoBulk d + 1
 end
def uptoSmall : (H : Type) → List (DataW H) → Bool := fun _ ds => decide (uptoBulkAll ds ≤ 1048576)
def OpenSpec.upto (s : _root_.Go.ChangeSpec) : _root_.Go.OpenSpec := { _root_.Go.OpenSpec.ofChange s with cond := some uptoSmall }

/-- 'laws.FnExactValidHelpers', WHERE WHAT IT READS IS OF BULK AT MOST 1048576: true; the input reads as it did. -/
def fnExactValidHelpersUptoRow : OpenClaim := { program := "ytopomobpkmlapaa", sum := "5fd42c557b98d2e47fe1c726b3d063775febf82b64192ac45b49206826ac389a", func := "loop.example/g01057/laws.FnExactValidHelpers", spec := "fnExactValidHelpers", apart := false, narrowed := true }
def FnExactValidHelpersUptoSaid : Prop := fnExactValidHelpersUptoRow.holds Try.pinned (OpenSpec.upto fnExactValidHelpersSpec)

/-- 'laws.FnExactValidTasks', WHERE WHAT IT READS IS OF BULK AT MOST 1048576: true; the input reads as it did. -/
def fnExactValidTasksUptoRow : OpenClaim := { program := "ytopomobpkmlapaa", sum := "5fd42c557b98d2e47fe1c726b3d063775febf82b64192ac45b49206826ac389a", func := "loop.example/g01057/laws.FnExactValidTasks", spec := "fnExactValidTasks", apart := false, narrowed := true }
def FnExactValidTasksUptoSaid : Prop := fnExactValidTasksUptoRow.holds Try.pinned (OpenSpec.upto fnExactValidTasksSpec)

/-- 'laws.FnExactSkillText', WHERE WHAT IT READS IS OF BULK AT MOST 1048576: true; the input reads as it did. -/
def fnExactSkillTextUptoRow : OpenClaim := { program := "ytopomobpkmlapaa", sum := "5fd42c557b98d2e47fe1c726b3d063775febf82b64192ac45b49206826ac389a", func := "loop.example/g01057/laws.FnExactSkillText", spec := "fnExactSkillText", inPlace := ["internal/abi.NoEscape", "internal/bytealg.MakeNoZero"], apart := false, narrowed := true }
def FnExactSkillTextUptoSaid : Prop := fnExactSkillTextUptoRow.holds Try.pinned (OpenSpec.upto fnExactSkillTextSpec)

/-- 'laws.FnExactReadSkills', WHERE WHAT IT READS IS OF BULK AT MOST 1048576: true; the input reads as it did. -/
def fnExactReadSkillsUptoRow : OpenClaim := { program := "ytopomobpkmlapaa", sum := "5fd42c557b98d2e47fe1c726b3d063775febf82b64192ac45b49206826ac389a", func := "loop.example/g01057/laws.FnExactReadSkills", spec := "fnExactReadSkills", inPlace := ["internal/abi.NoEscape", "internal/bytealg.MakeNoZero"], apart := false, narrowed := true }
def FnExactReadSkillsUptoSaid : Prop := fnExactReadSkillsUptoRow.holds Try.pinned (OpenSpec.upto fnExactReadSkillsSpec)

/-- 'laws.FnExactHelpersFor', WHERE WHAT IT READS IS OF BULK AT MOST 1048576: true; the input reads as it did. -/
def fnExactHelpersForUptoRow : OpenClaim := { program := "ytopomobpkmlapaa", sum := "5fd42c557b98d2e47fe1c726b3d063775febf82b64192ac45b49206826ac389a", func := "loop.example/g01057/laws.FnExactHelpersFor", spec := "fnExactHelpersFor", apart := false, narrowed := true }
def FnExactHelpersForUptoSaid : Prop := fnExactHelpersForUptoRow.holds Try.pinned (OpenSpec.upto fnExactHelpersForSpec)

/-- 'laws.FnExactWithoutHelper', WHERE WHAT IT READS IS OF BULK AT MOST 1048576: true; the input reads as it did. -/
def fnExactWithoutHelperUptoRow : OpenClaim := { program := "ytopomobpkmlapaa", sum := "5fd42c557b98d2e47fe1c726b3d063775febf82b64192ac45b49206826ac389a", func := "loop.example/g01057/laws.FnExactWithoutHelper", spec := "fnExactWithoutHelper", unfollowed := true, recurses := true, apart := false, narrowed := true }
def FnExactWithoutHelperUptoSaid : Prop := fnExactWithoutHelperUptoRow.holds Try.pinned (OpenSpec.upto fnExactWithoutHelperSpec)

/-- 'laws.FnExactIdleHelpers', WHERE WHAT IT READS IS OF BULK AT MOST 1048576: true; the input reads as it did. -/
def fnExactIdleHelpersUptoRow : OpenClaim := { program := "ytopomobpkmlapaa", sum := "5fd42c557b98d2e47fe1c726b3d063775febf82b64192ac45b49206826ac389a", func := "loop.example/g01057/laws.FnExactIdleHelpers", spec := "fnExactIdleHelpers", unfollowed := true, recurses := true, apart := false, narrowed := true }
def FnExactIdleHelpersUptoSaid : Prop := fnExactIdleHelpersUptoRow.holds Try.pinned (OpenSpec.upto fnExactIdleHelpersSpec)

/-- 'laws.FnExactKeepsTasks', WHERE WHAT IT READS IS OF BULK AT MOST 1048576: true; the input reads as it did. -/
def fnExactKeepsTasksUptoRow : OpenClaim := { program := "ytopomobpkmlapaa", sum := "5fd42c557b98d2e47fe1c726b3d063775febf82b64192ac45b49206826ac389a", func := "loop.example/g01057/laws.FnExactKeepsTasks", spec := "fnExactKeepsTasks", apart := false, narrowed := true }
def FnExactKeepsTasksUptoSaid : Prop := fnExactKeepsTasksUptoRow.holds Try.pinned (OpenSpec.upto fnExactKeepsTasksSpec)

end Rows
end Go.Proofs.Ytopomobpkmlapaa
