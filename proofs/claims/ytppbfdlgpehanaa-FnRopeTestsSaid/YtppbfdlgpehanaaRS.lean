/- Rope tests: StrengthLeft, MustReplace: contracts of both sides. -/
import Derived.Test.YtppbfdlgpehanaaRB
import Derived.Test.YtppbfdlgpehanaaGRope
namespace Go.Proofs.Ytppbfdlgpehanaa
open Go.RowKit
set_option maxRecDepth 100000
set_option linter.unusedVariables false

def ropeB (a b c d : Int) : Bool := inB a 1000 4000000 && inB b 100 20000 && inB c 6 400 && inB d 1000 10000000
theorem ropeB_true {a b c d : Int} (h : ropeB a b c d = true) : (6 ≤ c ∧ c ≤ 400) ∧ 1000 ≤ d ∧ d ≤ 10000000 := by
  simp only [ropeB, Bool.and_eq_true, inB_true] at h; omega
theorem validRope_any {a0 a1 a2 a3 : Int} {w : World} :
    Calls Try.prog 18 #[.agg #[.int .i64 a0, .int .i64 a1, .int .i64 a2, .int .i64 a3]] w fun e w' => e = .returned (.bool (ropeB a0 a1 a2 a3)) ∧ Below w.heap.size w w' := by
  have Ht : Hid (ropeB a0 a1 a2 a3 = (inB a0 1000 4000000 && inB a1 100 20000 && inB a2 6 400 && inB a3 1000 10000000)) := Lib.hid rfl
  go_enter Try.func18, Try.ntmps18
  go_wp2_with (go_at_call 33; refine (within_any _ _ _ _).mono ?_; rintro e w' ⟨rfl, rfl⟩)
  all_goals go_ret
  all_goals (refine ⟨ret_bool ?_, (Below.refl _ _).alloc (Nat.le_refl _) _⟩; rw [Ht.out]; simp_all)
def leftR (wires strength most : Int) : Int := strength * max 0 (wires - most) / wires
theorem most_bd {zs : List Int} {wide : Nat} (hz : ∀ z ∈ zs, 0 ≤ z ∧ z ≤ 1000000000) (hl : zs.length ≤ 1048576) : 0 ≤ mostOf (sumsR zs wide) ∧ mostOf (sumsR zs wide) ≤ 1048576000000000 := by
  have hp := placeOf_lt (zs := sumsR zs wide) (by rw [sumsR_len]; omega)
  have hm := nth_mem (zs := sumsR zs wide) hp
  rw [sumsR, winTo, List.mem_map] at hm
  obtain ⟨j, _, hj⟩ := hm
  have hb := sum_bd (zs := (zs.drop j).take wide) (fun z hz' => hz z (List.mem_of_mem_drop (List.mem_of_mem_take hz'))) ((zs.drop j).take wide).length
  rw [List.take_of_length_le (Nat.le_refl _)] at hb
  have hle : ((zs.drop j).take wide).length ≤ zs.length := by simp; omega
  have e : mostOf (sumsR zs wide) = ((zs.drop j).take wide).sum := hj.symm
  rw [e]
  omega

theorem strengthLeft_any (A : Option Addr) (n c B wide : Nat) (zs : List Int) (a0 a1 a2 a3 : Int) (w : World) (h : Ints w B A n zs) (hB : B ≤ w.heap.size) (hc : n ≤ c) (hn : n ≤ 1048576) (hz : ∀ z ∈ zs, 0 ≤ z ∧ z ≤ 1000000000) (h0 : 1 ≤ wide) (h1 : wide ≤ n)
    (r2 : 6 ≤ a2 ∧ a2 ≤ 400) (r3 : 1000 ≤ a3 ∧ a3 ≤ 10000000) :
    Calls Try.prog 21 #[.agg #[.int .i64 a0, .int .i64 a1, .int .i64 a2, .int .i64 a3], .slice A n c, .int .i64 wide] w fun e w' => e = .returned (.int .i64 (leftR a2 a3 (mostOf (sumsR zs wide)))) ∧ Below w.heap.size w w' := by
  have hbd := most_bd (wide := wide) hz (by rw [h.len]; exact hn)
  have Hz := Lib.hid hz
  clear hz
  go_enter Try.func21, Try.ntmps21
  go_wp2_with fail
  refine (worstSpot_any A n c B wide zs _ (h.below ((Below.refl _ _).alloc (Nat.le_refl _) _) hB) (by simp; omega) hc hn Hz.out h0 h1).mono ?_
  rintro e w1 ⟨rfl, b⟩
  have hx2 : w1.cell? ⟨w.heap.size, 2, none⟩ = some (.int .i64 a2) := (b.cell (p := ⟨w.heap.size, 2, none⟩) (by simp)).trans (by simp)
  have hx3 : w1.cell? ⟨w.heap.size, 3, none⟩ = some (.int .i64 a3) := (b.cell (p := ⟨w.heap.size, 3, none⟩) (by simp)).trans (by simp)
  have hb2 : Below w.heap.size w w1 := ((Below.refl _ _).alloc (Nat.le_refl _) _).trans (b.mono (by simp))
  generalize hm : mostOf (sumsR zs wide) = m at *
  have Hm := Lib.hid hm
  clear hm b
  have hmul := mul_bd (x := a3) (y := max 0 (a2 - m)) (X := 10000000) (Y := 400) (by omega) (by omega) (by omega) (by omega)
  have hL : Hid (leftR a2 a3 m = a3 * max 0 (a2 - m) / a2) := Lib.hid rfl
  by_cases hlt : a2 - m ≤ 0
  · have hL' : Hid (leftR a2 a3 m = 0) := by
      have := hL.out
      rw [show max 0 (a2 - m) = 0 by omega, Int.mul_zero, Int.zero_ediv] at this
      exact Lib.hid this
    clear hmul
    go_wp2_with fail
    go_ret
    exact ⟨ret_int (by rw [Hm.out, hL'.out]), hb2⟩
  · have hL' : Hid (leftR a2 a3 m = a3 * (a2 - m) / a2) := by
      have := hL.out
      rw [show max 0 (a2 - m) = a2 - m by omega] at this
      exact Lib.hid this
    rw [show max 0 (a2 - m) = a2 - m by omega] at hmul
    have hq := div_le_self (x := a3 * (a2 - m)) (y := a2) (by omega) (by omega)
    go_wp2_with fail
    go_ret
    exact ⟨ret_int (by rw [Hm.out, hL'.out]), hb2⟩

def rStrengthLeft (a0 a1 a2 a3 : Int) (zs : List Int) (wide : Int) : Int × Int :=
  if ropeB a0 a1 a2 a3 then (if askC (spotsB zs) (inB wide 1 zs.length) = 0 then (leftR a2 a3 (mostOf (sumsR zs wide.toNat)), 0) else (0, askC (spotsB zs) (inB wide 1 zs.length))) else (0, 1)

theorem implStrengthLeft_any {A : Option Addr} {n c B : Nat} {zs : List Int} {wide a0 a1 a2 a3 : Int} {w : World} (h : Ints w B A n zs) (hB : B ≤ w.heap.size) (hc : n ≤ c) (hn : n ≤ 1048576) :
    Calls Try.prog 6 #[.agg #[.int .i64 a0, .int .i64 a1, .int .i64 a2, .int .i64 a3], .slice A n c, .int .i64 wide] w fun e w' => e = .returned (.tuple #[.int .i64 (rStrengthLeft a0 a1 a2 a3 zs wide).1, .int .i64 (rStrengthLeft a0 a1 a2 a3 zs wide).2]) ∧ Below w.heap.size w w' := by
  have HL := Lib.hid h.len
  cases hr : ropeB a0 a1 a2 a3 with
  | false =>
    have Hr : Hid (rStrengthLeft a0 a1 a2 a3 zs wide = (0, 1)) := Lib.hid (by rw [rStrengthLeft, hr]; rfl)
    go_enter Try.func6, Try.ntmps6
    go_wp2_with (go_at_call 18; refine validRope_any.mono ?_; rintro e w1 ⟨rfl, b⟩)
    go_ret2
    exact ⟨by rw [Hr.out]; rfl, ((Below.refl _ _).alloc (Nat.le_refl _) _).trans (b.mono (by simp))⟩
  | true =>
  have hrb := ropeB_true hr
  rcases askC_cases (spotsB zs) (inB wide 1 n) with ⟨ha, hs, hi⟩ | ha | ha
  · have hi' := inB_true.1 hi
    obtain ⟨k, rfl⟩ := Int.eq_ofNat_of_zero_le (show 0 ≤ wide by omega)
    have Hr : Hid (rStrengthLeft a0 a1 a2 a3 zs k = (leftR a2 a3 (mostOf (sumsR zs k)), 0)) := by
      have hl := HL.out
      refine Lib.hid ?_
      rw [rStrengthLeft, if_pos hr, hl, if_pos ha]; simp
    have Hs := Lib.hid hs
    clear hs hi
    go_enter Try.func6, Try.ntmps6
    go_wp2_with fail
    refine validRope_any.mono ?_
    rintro e w1 ⟨rfl, b⟩
    have hx0 : w1.cell? ⟨w.heap.size, 0, none⟩ = some (.int .i64 a0) := (b.cell (p := ⟨w.heap.size, 0, none⟩) (by simp)).trans (by simp)
    have hx1 : w1.cell? ⟨w.heap.size, 1, none⟩ = some (.int .i64 a1) := (b.cell (p := ⟨w.heap.size, 1, none⟩) (by simp)).trans (by simp)
    have hx2 : w1.cell? ⟨w.heap.size, 2, none⟩ = some (.int .i64 a2) := (b.cell (p := ⟨w.heap.size, 2, none⟩) (by simp)).trans (by simp)
    have hx3 : w1.cell? ⟨w.heap.size, 3, none⟩ = some (.int .i64 a3) := (b.cell (p := ⟨w.heap.size, 3, none⟩) (by simp)).trans (by simp)
    replace b : Below w.heap.size w w1 := ((Below.refl _ _).alloc (Nat.le_refl _) _).trans (b.mono (by simp))
    have HR := Lib.hid (Reads.below h b hB)
    go_wp2_with (first | (go_at_call 20; refine (isWide_any A n c _ _ hn).mono ?_; rintro e w' ⟨rfl, rfl⟩) | (go_at_call 19; refine (spotted_any A n c B zs _ _ HR.out (by omega)).mono ?_; rintro e w' ⟨rfl, rfl⟩))
    refine (strengthLeft_any A n c B k zs a0 a1 a2 a3 _ HR.out (Nat.le_trans hB b.size) hc hn (spots_le Hs.out) (by omega) (by omega) (by omega) (by omega)).mono ?_
    rintro e w2 ⟨rfl, b2⟩
    go_wp2_with fail
    go_ret2
    rw [Hr.out]
    exact ⟨rfl, b.trans (b2.mono b.size)⟩
  all_goals
    have Hr : Hid (rStrengthLeft a0 a1 a2 a3 zs wide = (0, askC (spotsB zs) (inB wide 1 n))) := by
      have hl := HL.out
      refine Lib.hid ?_
      rw [rStrengthLeft, if_pos hr, hl, if_neg (by rw [ha]; omega)]
    go_enter Try.func6, Try.ntmps6
    go_wp2_with fail
    refine validRope_any.mono ?_
    rintro e w1 ⟨rfl, b⟩
    replace b : Below w.heap.size w w1 := ((Below.refl _ _).alloc (Nat.le_refl _) _).trans (b.mono (by simp))
    have HR := Lib.hid (Reads.below h b hB)
    go_wp2_with (first | (go_at_call 20; refine (isWide_any A n c _ _ hn).mono ?_; rintro e w' ⟨rfl, rfl⟩) | (go_at_call 19; refine (spotted_any A n c B zs _ _ HR.out (by omega)).mono ?_; rintro e w' ⟨rfl, rfl⟩))
    go_ret2
    rw [Hr.out]
    exact ⟨by rw [ha]; rfl, b⟩

end Go.Proofs.Ytppbfdlgpehanaa
