/- Contracts of the functions that copy, compare, mark and read slices of int64. -/
import Derived.Test.YtcacmiafmanniaaN
namespace Go.Proofs.Ytcacmiafmanniaa
open Go.RowKit
set_option maxRecDepth 100000
set_option linter.unusedVariables false

theorem info_int : (Try.prog.info? 2).map (fun i => (i.zero, i.size, i.bytes)) = some (some (.int .i64 0), 1, 8) := by kernel_rfl



/-- The numbers k, k + 1, .. (n of them). -/
def marks (k : Int) (n : Nat) : List Int := (List.range n).map fun i : Nat => k + (i : Int)
theorem marks_len (k : Int) (n : Nat) : (marks k n).length = n := by simp [marks]
theorem marks_nth {k : Int} {n i : Nat} (h : i < n) : nth (marks k n) i = k + i := by
  rw [nth_eq (by simpa [marks] using h)]; simp [marks]
theorem marks_set {zs : List Int} {k : Int} {n i : Nat} (h : i < n) (hl : zs.length = n) :
    ((marks k i ++ zs.drop i).map (Value.int .i64)).set i (.int .i64 (k + i)) = (marks k (i + 1) ++ zs.drop (i + 1)).map (Value.int .i64) := by
  rw [← List.map_set]
  congr 1
  rw [List.set_append_right _ _ (by simp [marks])]
  simp only [marks_len, Nat.sub_self]
  rw [List.drop_eq_getElem_cons (by omega), List.set_cons_zero]
  simp [marks, List.range_succ]
theorem marks_get {zs : List Int} {k : Int} {n i : Nat} (h : i < n) (hl : zs.length = n) :
    ((marks k i ++ zs.drop i).map (Value.int .i64))[i]? = some (.int .i64 (nth zs i)) := by
  rw [List.getElem?_map, List.getElem?_append_right (by simp [marks])]
  simp only [marks_len, Nat.sub_self]
  rw [List.getElem?_drop, Nat.add_zero, getElem?_nth (by omega)]; rfl



/-- The index of the first number of which f holds; -1 if there is none. -/
def findI (f : Int → Bool) (zs : List Int) : Int := match zs.findIdx? f with | some i => i | none => -1
theorem findI_some {f : Int → Bool} {zs : List Int} {k : Nat} (hk : k < zs.length) (h0 : (zs.take k).any f = false) (h1 : f (nth zs k) = true) : findI f zs = k := by
  have : zs.findIdx? f = some k := by
    rw [List.findIdx?_eq_some_iff_getElem]
    refine ⟨hk, by rw [← nth_eq hk]; exact h1, fun j hj => ?_⟩
    rw [List.any_eq_false] at h0
    exact h0 _ (List.mem_take_iff_getElem.2 ⟨j, by omega, rfl⟩)
  rw [findI, this]
theorem findI_none {f : Int → Bool} {zs : List Int} (h0 : zs.any f = false) : findI f zs = -1 := by
  have : zs.findIdx? f = none := by
    rw [List.findIdx?_eq_none_iff]
    intro x hx
    rw [List.any_eq_false] at h0
    simpa using h0 x hx
  rw [findI, this]
theorem findI_any (f : Int → Bool) (zs : List Int) : decide (0 ≤ findI f zs) = zs.any f := by
  cases h : zs.any f with
  | false => rw [findI_none h]; rfl
  | true =>
    unfold findI
    cases h' : zs.findIdx? f with
    | some i => simp
    | none =>
      rw [List.findIdx?_eq_none_iff] at h'
      rw [List.any_eq_true] at h
      obtain ⟨x, hx, hfx⟩ := h
      simp [h' x hx] at hfx
theorem any_take_succ {zs : List Int} {k : Nat} {f : Int → Bool} (h : k < zs.length) : (zs.take (k + 1)).any f = ((zs.take k).any f || f (nth zs k)) := by
  rw [take_succ_nth h]; simp
theorem findI_le (f : Int → Bool) (zs : List Int) : -1 ≤ findI f zs ∧ findI f zs < zs.length := by
  unfold findI
  split
  · rename_i i h
    rw [List.findIdx?_eq_some_iff_getElem] at h
    obtain ⟨h, _⟩ := h
    omega
  · omega

end Go.Proofs.Ytcacmiafmanniaa
