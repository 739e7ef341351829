/- Rope tests: BrokenIn, WorstSpot: the contracts of both sides, by one plain function. -/
import Derived.Test.YtppbfdlgpehanaaR
namespace Go.Proofs.Ytppbfdlgpehanaa
open Go.RowKit
set_option maxRecDepth 100000
set_option linter.unusedVariables false

def rBrokenIn (zs : List Int) (wide : Int) : List Int × Int :=
  if askC (spotsB zs) (inB wide 1 zs.length) = 0 then (winTo zs wide.toNat (zs.length - wide.toNat + 1), 0) else ([], askC (spotsB zs) (inB wide 1 zs.length))
theorem askC_cases (a b : Bool) : (askC a b = 0 ∧ a = true ∧ b = true) ∨ (askC a b = 1) ∨ askC a b = 2 := by cases a <;> cases b <;> simp [askC]
theorem spots_le {zs : List Int} (h : spotsB zs = true) : ∀ z ∈ zs, 0 ≤ z ∧ z ≤ 1000000000 := fun z hz => by have := (spotsB_true.1 h).1 z hz; omega

theorem implBrokenIn_any {A : Option Addr} {n c B : Nat} {zs : List Int} {wide : Int} {w : World} (h : Ints w B A n zs) (hB : B ≤ w.heap.size) (hc : n ≤ c) (hn : n ≤ 1048576) :
    Calls Try.prog 7 #[.slice A n c, .int .i64 wide] w fun e w' => ∃ A' n' c', e = .returned (.tuple #[.slice A' n' c', .int .i64 (rBrokenIn zs wide).2]) ∧ n' ≤ 1048576 ∧
      Own w' w.heap.size 2 1 A' n' c' ((rBrokenIn zs wide).1.map (Value.int .i64)) ∧ Below w.heap.size w w' := by
  have HL := Lib.hid h.len
  rcases askC_cases (spotsB zs) (inB wide 1 n) with ⟨ha, hs, hi⟩ | ha | ha
  · have hi' := inB_true.1 hi
    obtain ⟨k, rfl⟩ := Int.eq_ofNat_of_zero_le (show 0 ≤ wide by omega)
    have Hr : Hid (rBrokenIn zs k = (winTo zs k (n - k + 1), 0)) := by
      have hl := HL.out
      refine Lib.hid ?_
      rw [rBrokenIn, hl, if_pos ha]; simp
    have Hs := Lib.hid hs
    clear hs hi
    go_enter Try.func7, Try.ntmps7
    go_wp2_with (first
      | (go_at_call 20; refine (isWide_any A n c _ _ hn).mono ?_; rintro e w' ⟨rfl, rfl⟩) | (go_at_call 19; refine (spotted_any A n c B zs _ _ h (by omega)).mono ?_; rintro e w' ⟨rfl, rfl⟩)
      | (go_at_call 22; refine (windows_any A n c B k zs _ h hB hc hn (spots_le Hs.out) (by omega) (by omega)).mono ?_; rintro e w' ⟨A', c', rfl, o, b⟩))
    go_ret2
    rw [Hr.out]
    exact ⟨_, _, _, rfl, by omega, o, b⟩
  all_goals
    have Hr : Hid (rBrokenIn zs wide = ([], askC (spotsB zs) (inB wide 1 n))) := by
      have hl := HL.out
      refine Lib.hid ?_
      rw [rBrokenIn, hl, if_neg (by rw [ha]; omega)]
    go_enter Try.func7, Try.ntmps7
    go_wp2_with (first | (go_at_call 20; refine (isWide_any A n c _ _ hn).mono ?_; rintro e w' ⟨rfl, rfl⟩) | (go_at_call 19; refine (spotted_any A n c B zs _ _ h (by omega)).mono ?_; rintro e w' ⟨rfl, rfl⟩))
    go_ret2
    rw [Hr.out]
    exact ⟨_, _, _, by rw [ha]; rfl, by omega, Own.nil _ _ _ _, Below.refl _ _⟩

/-! ### the worst window -/
def sumsR (zs : List Int) (wide : Nat) : List Int := winTo zs wide (zs.length - wide + 1)
theorem sumsR_len (zs : List Int) (wide : Nat) : (sumsR zs wide).length = zs.length - wide + 1 := by simp [sumsR, winTo]
theorem worstSpot_any (A : Option Addr) (n c B wide : Nat) (zs : List Int) (w : World) (h : Ints w B A n zs) (hB : B ≤ w.heap.size) (hc : n ≤ c) (hn : n ≤ 1048576) (hz : ∀ z ∈ zs, 0 ≤ z ∧ z ≤ 1000000000) (h0 : 1 ≤ wide) (h1 : wide ≤ n) :
    Calls Try.prog 23 #[.slice A n c, .int .i64 wide] w fun e w' => e = .returned (.tuple #[.int .i64 (placeOf (sumsR zs wide)), .int .i64 (mostOf (sumsR zs wide))]) ∧ Below w.heap.size w w' := by
  have HL := Lib.hid h.len
  have Hs : Hid (winTo zs wide (n - wide + 1) = sumsR zs wide) := Lib.hid (by rw [sumsR, HL.out])
  have Hlen := Lib.hid (sumsR_len zs wide)
  have Hz := Lib.hid hz
  clear hz
  go_enter Try.func23, Try.ntmps23
  go_wp2_with fail
  refine (windows_any A n c B wide zs _ h hB hc hn Hz.out h0 h1).mono ?_
  rw [Hs.out]
  rintro e w1 ⟨A1, c1, rfl, o1, b1⟩
  have hpos : 0 < n - wide + 1 := by omega
  have hf := findI_most (zs := sumsR zs wide) (by rw [Hlen.out]; omega)
  have Hf := Lib.hid hf
  clear hf
  go_wp2_with fail
  refine (max_any A1 _ c1 _ (sumsR zs wide) _ o1.reads (by omega) hpos).mono ?_
  rintro e w' ⟨rfl, rfl⟩
  go_wp2_with fail
  refine (index_any A1 _ c1 _ (sumsR zs wide) _ _ o1.reads (by omega)).mono ?_
  rw [Hf.out]
  rintro e w' ⟨rfl, rfl⟩
  go_wp2_with fail
  go_ret2
  exact ⟨rfl, b1⟩

def rWorstSpot (zs : List Int) (wide : Int) : Int × Int × Int :=
  if askC (spotsB zs) (inB wide 1 zs.length) = 0 then (placeOf (sumsR zs wide.toNat), mostOf (sumsR zs wide.toNat), 0) else (0, 0, askC (spotsB zs) (inB wide 1 zs.length))

theorem implWorstSpot_any {A : Option Addr} {n c B : Nat} {zs : List Int} {wide : Int} {w : World} (h : Ints w B A n zs) (hB : B ≤ w.heap.size) (hc : n ≤ c) (hn : n ≤ 1048576) :
    Calls Try.prog 8 #[.slice A n c, .int .i64 wide] w fun e w' => e = .returned (.tuple #[.int .i64 (rWorstSpot zs wide).1, .int .i64 (rWorstSpot zs wide).2.1, .int .i64 (rWorstSpot zs wide).2.2]) ∧ Below w.heap.size w w' := by
  have HL := Lib.hid h.len
  rcases askC_cases (spotsB zs) (inB wide 1 n) with ⟨ha, hs, hi⟩ | ha | ha
  · have hi' := inB_true.1 hi
    obtain ⟨k, rfl⟩ := Int.eq_ofNat_of_zero_le (show 0 ≤ wide by omega)
    have Hr : Hid (rWorstSpot zs k = ((placeOf (sumsR zs k) : Int), mostOf (sumsR zs k), 0)) := by
      have hl := HL.out
      refine Lib.hid ?_
      rw [rWorstSpot, hl, if_pos ha]; simp
    have Hs := Lib.hid hs
    clear hs hi
    go_enter Try.func8, Try.ntmps8
    go_wp2_with (first | (go_at_call 20; refine (isWide_any A n c _ _ hn).mono ?_; rintro e w' ⟨rfl, rfl⟩) | (go_at_call 19; refine (spotted_any A n c B zs _ _ h (by omega)).mono ?_; rintro e w' ⟨rfl, rfl⟩) | (go_at_call 23; refine (worstSpot_any A n c B k zs _ h hB hc hn (spots_le Hs.out) (by omega) (by omega)).mono ?_; rintro e w' ⟨rfl, b⟩))
    go_ret3
    rw [Hr.out]
    exact ⟨rfl, b⟩
  all_goals
    have Hr : Hid (rWorstSpot zs wide = (0, 0, askC (spotsB zs) (inB wide 1 n))) := by
      have hl := HL.out
      refine Lib.hid ?_
      rw [rWorstSpot, hl, if_neg (by rw [ha]; omega)]
    go_enter Try.func8, Try.ntmps8
    go_wp2_with (first | (go_at_call 20; refine (isWide_any A n c _ _ hn).mono ?_; rintro e w' ⟨rfl, rfl⟩) | (go_at_call 19; refine (spotted_any A n c B zs _ _ h (by omega)).mono ?_; rintro e w' ⟨rfl, rfl⟩))
    go_ret3
    rw [Hr.out]
    exact ⟨by rw [ha]; rfl, Below.refl _ _⟩
end Go.Proofs.Ytppbfdlgpehanaa
