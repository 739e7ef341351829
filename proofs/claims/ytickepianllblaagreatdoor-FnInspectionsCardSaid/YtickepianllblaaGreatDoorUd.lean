/- Reading of texts: the reference's splitting. -/
import Derived.Test.YtickepianllblaaGreatDoorUc
import Derived.Test.YtickepianllblaaGreatDoorC
namespace Go.Proofs.YtickepianllblaaGreatDoor
open Go.RowKit
set_option maxRecDepth 100000
set_option linter.unusedVariables false
set_option linter.unusedSimpArgs false

theorem info_stringU : (Tryz.prog.info? 9).map (fun i => (i.zero, i.size, i.bytes)) = some (some (.string ByteArray.empty), 1, 16) := by kernel_rfl
theorem sp_drop_hit {c : UInt8} {l : List UInt8} {f i : Nat} (hf : f ≤ i) (hi : i < l.length) (hc : l.getD i 0 = c) (hn : c ∉ (l.drop f).take (i - f)) : sp c (l.drop f) = (l.drop f).take (i - f) :: sp c (l.drop (i + 1)) := by
  have e : l.drop f = (l.drop f).take (i - f) ++ c :: l.drop (i + 1) := by
    have h1 : (l.drop f).drop (i - f) = l.drop i := by rw [List.drop_drop]; congr 1; omega
    have h2 : l.drop i = c :: l.drop (i + 1) := by
      rw [List.drop_eq_getElem_cons hi]
      congr 1
      rw [← hc]; simp [List.getD, List.getElem?_eq_getElem hi]
    rw [← h2, ← h1, List.take_append_drop]
  conv => lhs; rw [e]
  exact sp_hit c _ _ hn
theorem take_drop_next {c : UInt8} {l : List UInt8} {f i : Nat} (hf : f ≤ i) (hi : i < l.length) (hc : l.getD i 0 ≠ c) (hn : c ∉ (l.drop f).take (i - f)) : c ∉ (l.drop f).take (i + 1 - f) := by
  rw [show i + 1 - f = (i - f) + 1 by omega, List.take_add_one]
  have : (l.drop f)[i - f]? = some (l.getD i 0) := by
    rw [List.getElem?_drop, show f + (i - f) = i by omega, List.getElem?_eq_getElem hi]
    simp [List.getD, List.getElem?_eq_getElem hi]
  rw [this]
  simp only [Option.toList_some, List.mem_append, List.mem_singleton, not_or]
  exact ⟨hn, fun e => hc e.symm⟩
theorem ext_data (s : ByteArray) (f i : Nat) : (s.extract f i).data.toList = (s.data.toList.drop f).take (i - f) := by
  rw [Lib.extract_data]
def SplP (l : List UInt8) (c : UInt8) (w : World) (e : Ending) (w' : World) : Prop := ∃ (A : Option Addr) (k : Nat) (ps : List ByteArray), e = .returned (.slice A ps.length k) ∧ ps.map (·.data.toList) = sp c l ∧ Own w' w.heap.size 9 1 A ps.length k (ps.map Value.string) ∧ Below w.heap.size w w'
end Go.Proofs.YtickepianllblaaGreatDoor
