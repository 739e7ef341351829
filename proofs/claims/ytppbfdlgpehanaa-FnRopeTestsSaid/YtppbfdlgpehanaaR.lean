/- Rope tests: contracts of the functions on spots (slices of int64). -/
import Derived.Test.YtppbfdlgpehanaaL
namespace Go.Proofs.Ytppbfdlgpehanaa
open Go.RowKit
set_option maxRecDepth 100000
set_option linter.unusedVariables false

/-- The sums of all windows of a width: the k-th is that of the numbers from k on. -/
def winTo (zs : List Int) (wide k : Nat) : List Int := (List.range k).map fun j => ((zs.drop j).take wide).sum

theorem winTo_succ (zs : List Int) (wide k : Nat) : winTo zs wide (k + 1) = winTo zs wide k ++ [((zs.drop k).take wide).sum] := by
  simp [winTo, List.range_succ]

theorem windows_any (A : Option Addr) (n c B wide : Nat) (zs : List Int) (w : World) (h : Ints w B A n zs) (hB : B ≤ w.heap.size) (hc : n ≤ c) (hn : n ≤ 1048576) (hz : ∀ z ∈ zs, 0 ≤ z ∧ z ≤ 1000000000) (h0 : 1 ≤ wide) (h1 : wide ≤ n) :
    Calls Try.prog 22 #[.slice A n c, .int .i64 wide] w fun e w' => ∃ A' c', e = .returned (.slice A' (n - wide + 1) c') ∧
      Own w' w.heap.size 2 1 A' (n - wide + 1) c' ((winTo zs wide (n - wide + 1)).map (Value.int .i64)) ∧ Below w.heap.size w w' := by
  have HL := Lib.hid h.len
  have Hz := Lib.hid hz
  clear hz
  obtain ⟨i0, hi, hz0, hz1, hz2⟩ := info_parts info_int
  go_enter Try.func22, Try.ntmps22
  go_wp2_with fail
  go_loopg [5, 6] (n - wide + 1) (fun gk v i wr => ∃ k A' c', k + wide ≤ n + 1 ∧ gk + k = n - wide + 1 ∧ i = .int .i64 (k : Nat) ∧ v = .slice A' k c' ∧
    Own wr w.heap.size 2 1 A' k c' ((winTo zs wide k).map (Value.int .i64)) ∧ Below w.heap.size w wr)
  case atStart => exact ⟨0, none, 0, by omega, by omega, rfl, rfl, Own.nil _ _ _ _, Below.refl _ _⟩
  case round =>
    obtain ⟨k, A', c', hk, hgk, rfl, rfl, ho, hb⟩ := hrel
    have Hgk := Lib.hid hgk
    clear hgk
    by_cases hlt : k + wide ≤ n
    · have hz' : Hid (∀ z ∈ (zs.drop k).take wide, 0 ≤ z ∧ z ≤ 1000000000) := fun z hz => Hz.out z (List.mem_of_mem_drop (List.mem_of_mem_take hz))
      have hpart := Lib.hid (Ints.part (Reads.below h hb hB) hlt)
      go_wp2_with (first
        | (go_at_call 25; refine (size_int_any _ _ _ _ (by omega)).mono ?_; rintro e w' ⟨rfl, rfl⟩)
        | (go_at_call 34; refine (total_any _ _ _ _ _ _ hpart.out (by omega) hz'.out).mono ?_; rintro e w' ⟨rfl, rfl⟩)
        | (at_builtin; refine wpList_app rfl (.tmp 15) (.tmp 23) 26 rfl 2 i0 _ 1 8 Try.underlying26 hi hz0 hz1 hz2 rfl (by omega) (by omega) w.heap.size _ _ _ _ rfl (ho.alloc _) ⟨wr.heap.size, 0, none⟩ 1 1 _ rfl rfl (cell_one_new _ _ _) (by simp [Value.oneCell']) (by omega) (by have := hb.size; simp; omega) ?_))
      intro A'' c'' w1 ho1 hg1 hb1 hat
      have ho2 : Own w1 w.heap.size 2 1 A'' (k + 1) c'' ((winTo zs wide (k + 1)).map (Value.int .i64)) := by
        rw [winTo_succ, List.map_append]; exact ho1
      have hb2 : Below w.heap.size w w1 := (hb.alloc hb.size _).trans hb1
      clear ho1 hg1 hat hb1 ho
      go_wp2
      have hgk := Hgk.out
      go_roundg (gk - 1)
      case rel => exact ⟨k + 1, A'', c'', by omega, by omega, by go_num, rfl, ho2, hb2⟩
      case measure => omega
    · have hke : k = n - wide + 1 := by omega
      subst hke
      go_wp2_with (go_at_call 25; refine (size_int_any _ _ _ _ (by omega)).mono ?_; rintro e w' ⟨rfl, rfl⟩)
      go_ret
      exact ⟨_, _, rfl, ho, hb⟩

/-- Spots are valid. -/
def spotsB (zs : List Int) : Bool := zs.all (fun z => inB z 0 400) && decide (1 ≤ zs.length) && decide (zs.length ≤ 60)
theorem spotsB_true {zs : List Int} : spotsB zs = true ↔ (∀ z ∈ zs, 0 ≤ z ∧ z ≤ 400) ∧ 1 ≤ zs.length ∧ zs.length ≤ 60 := by
  simp [spotsB, inB_true, and_assoc]

theorem validSpots1_any (z : Int) (w : World) : Calls Try.prog 40 #[.int .i64 z] w fun e w' => e = .returned (.bool (!inB z 0 400)) ∧ w = w' := by
  go_enter Try.func40, Try.ntmps40
  go_wp2_with (go_at_call 33; refine (within_any _ _ _ _).mono ?_; rintro e w' ⟨rfl, rfl⟩)
  go_ret
  exact ⟨rfl, rfl⟩
theorem any_not_all (zs : List Int) (f : Int → Bool) : (!zs.any (fun z => !f z)) = zs.all f := by
  induction zs with
  | nil => rfl
  | cons z zs ih => simp [← ih]
theorem validSpots_any (A : Option Addr) (n c B : Nat) (zs : List Int) (w : World) (h : Ints w B A n zs) (hn : n ≤ 140737488351232) :
    Calls Try.prog 28 #[.slice A n c] w fun e w' => e = .returned (.bool (spotsB zs)) ∧ w = w' := by
  have Hs : Hid (spotsB zs = (!zs.any (fun z => !inB z 0 400) && decide (1 ≤ n) && decide (n ≤ 60))) := by
    have hl := h.len
    exact Lib.hid (by rw [any_not_all, spotsB, hl])
  go_enter Try.func28, Try.ntmps28
  go_wp2_with (go_at_call 39; refine (containsFunc_any _ (Lib.hid Try.call40) (fun z => !inB z 0 400) (Lib.hid validSpots1_any) A n c B zs _ h hn).mono ?_; rintro e w' ⟨rfl, rfl⟩)
  all_goals go_ret
  all_goals (refine ⟨ret_bool ?_, rfl⟩; rw [Hs.out]; by_cases a1 : 1 ≤ n <;> by_cases a2 : n ≤ 60 <;> first | (exfalso; omega) | (simp [a1, a2]; done) | (simp [a1, a2]; omega))

theorem implValidSpots_any {A : Option Addr} {n c B : Nat} {zs : List Int} {w : World} (h : Ints w B A n zs) (hB : B ≤ w.heap.size) (hc : n ≤ c) (hn : n ≤ 1048576) :
    Calls Try.prog 28 #[.slice A n c] w fun e w' => e = .returned (.bool (spotsB zs)) ∧ Below w.heap.size w w' := calls_below (validSpots_any A n c B zs w h (by omega))

theorem isWide_any (A : Option Addr) (n c : Nat) (wide : Int) (w : World) (hn : n ≤ 1048576) :
    Calls Try.prog 20 #[.slice A n c, .int .i64 wide] w fun e w' => e = .returned (.bool (inB wide 1 n)) ∧ w = w' := by
  go_enter Try.func20, Try.ntmps20
  go_wp2_with (first | (go_at_call 25; refine (size_int_any _ _ _ _ (by omega)).mono ?_; rintro e w' ⟨rfl, rfl⟩) | (go_at_call 33; refine (within_any _ _ _ _).mono ?_; rintro e w' ⟨rfl, rfl⟩))
  go_ret
  exact ⟨rfl, rfl⟩
/-- The code of spots and of something about numbers. -/
def askC (ok fine : Bool) : Int := if ok then (if fine then 0 else 2) else 1
theorem askC_eq (ok fine : Bool) : askC ok fine = if ok then (if fine then 0 else 2) else 1 := rfl
theorem spotted_any (A : Option Addr) (n c B : Nat) (zs : List Int) (fine : Bool) (w : World) (h : Ints w B A n zs) (hn : n ≤ 140737488351232) :
    Calls Try.prog 19 #[.slice A n c, .bool fine] w fun e w' => e = .returned (.int .i64 (askC (spotsB zs) fine)) ∧ w = w' := by
  go_enter Try.func19, Try.ntmps19
  go_wp2_with (go_at_call 28; refine (validSpots_any A n c B zs _ h hn).mono ?_; rintro e w' ⟨rfl, rfl⟩)
  all_goals go_ret
  all_goals (refine ⟨ret_int ?_, rfl⟩; simp_all [askC])
end Go.Proofs.Ytppbfdlgpehanaa
