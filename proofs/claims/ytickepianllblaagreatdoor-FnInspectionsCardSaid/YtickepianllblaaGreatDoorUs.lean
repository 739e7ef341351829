/- Reading of texts: the library's splitting. -/
import Derived.Test.YtickepianllblaaGreatDoorUe
import Derived.Test.YtickepianllblaaGreatDoorUf
import Derived.Lib.SplitLaws
namespace Go.Proofs.YtickepianllblaaGreatDoor
open Go.RowKit
set_option maxRecDepth 100000
set_option linter.unusedVariables false
set_option linter.unusedSimpArgs false

def rdN (w : List UInt8) : Int := (numR w).1
/-- The library's splitting at one byte. -/
theorem split_any {s : ByteArray} {c : UInt8} {w : World} (hs : s.size ≤ 1048576) (ht : TabR w) :
    Calls Tryz.prog 63 #[.string s, .string ⟨#[c]⟩] w (SplP s.data.toList c w) := by
  obtain ⟨_, ⟨m, hm⟩, _⟩ := ht
  refine (Tryz.strings_Split s ⟨#[c]⟩ m w (by omega) hm (by show 1 ≤ (#[c] : Array UInt8).size; simp)).mono ?_
  rintro e w' ⟨rfl, rfl⟩
  have hl := Lib.splitB_all ⟨#[c]⟩ (by show 1 ≤ (#[c] : Array UInt8).size; simp) 0 (Lib.countB s ⟨#[c]⟩) s rfl
  have hd : (Lib.splitB ⟨#[c]⟩ 0 (Lib.countB s ⟨#[c]⟩) s).map (·.data.toList) = sp c s.data.toList := (Lib.splitB_data ⟨#[c]⟩ 0 _ s).trans (split_sp c s.data.toList)
  generalize Lib.splitB ⟨#[c]⟩ 0 (Lib.countB s ⟨#[c]⟩) s = ps at *
  rw [← hl]
  have hsz : ps.length ≤ 1048577 := by
    have := (sp_short c s.data.toList).1
    rw [← hd, List.length_map, bytes_len] at this
    omega
  exact ⟨some ⟨w.heap.size, 0, none⟩, ps.length, ps, rfl, hd, ⟨by simp, .inr ⟨w.heap.size, ps.length, (ps.map Value.string).toArray, rfl, Nat.le_refl _, heap_alloc_new w _, Nat.le_refl _, by unfold maxLen; omega, by simp, by rw [List.toList_toArray, List.take_of_length_le (by simp)]⟩⟩, (Below.refl _ _).alloc (Nat.le_refl _) _⟩
end Go.Proofs.YtickepianllblaaGreatDoor
