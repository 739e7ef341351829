/- Rope tests: MustReplace: contracts of both sides. -/
import Derived.Test.YtppbfdlgpehanaaRS
import Derived.Deep.RegionHeld3
namespace Go.Proofs.Ytppbfdlgpehanaa
open Go.RowKit
set_option maxRecDepth 100000
set_option linter.unusedVariables false

def rMustReplace (a0 a1 a2 a3 : Int) (zs : List Int) (wide share : Int) : Bool × Int :=
  if ropeB a0 a1 a2 a3 then (if askC (spotsB zs) (inB wide 1 zs.length && inB share 0 1000) = 0 then (decide (1000 * leftR a2 a3 (mostOf (sumsR zs wide.toNat)) < share * a3), 0) else (false, askC (spotsB zs) (inB wide 1 zs.length && inB share 0 1000))) else (false, 1)
theorem left_bd {wires strength most : Int} (h : 6 ≤ wires ∧ wires ≤ 400) (h' : 1000 ≤ strength ∧ strength ≤ 10000000) (hm : 0 ≤ most) : 0 ≤ leftR wires strength most ∧ leftR wires strength most ≤ 4000000000 := by
  have hmul := mul_bd (x := strength) (y := max 0 (wires - most)) (X := 10000000) (Y := 400) (by omega) (by omega) (by omega) (by omega)
  have hq := div_le_self (x := strength * max 0 (wires - most)) (y := wires) (by omega) (by omega)
  unfold leftR; omega

theorem implMustReplace_any {A : Option Addr} {n c B : Nat} {zs : List Int} {wide share a0 a1 a2 a3 : Int} {w : World} (h : Ints w B A n zs) (hB : B ≤ w.heap.size) (hc : n ≤ c) (hn : n ≤ 1048576) :
    Calls Try.prog 10 #[.agg #[.int .i64 a0, .int .i64 a1, .int .i64 a2, .int .i64 a3], .slice A n c, .int .i64 wide, .int .i64 share] w fun e w' => e = .returned (.tuple #[.bool (rMustReplace a0 a1 a2 a3 zs wide share).1, .int .i64 (rMustReplace a0 a1 a2 a3 zs wide share).2]) ∧ Below w.heap.size w w' := by
  have HL := Lib.hid h.len
  cases hr : ropeB a0 a1 a2 a3 with
  | false =>
    have Hr : Hid (rMustReplace a0 a1 a2 a3 zs wide share = (false, 1)) := Lib.hid (by rw [rMustReplace, hr]; rfl)
    go_enter Try.func10, Try.ntmps10
    go_wp2_with (go_at_call 18; refine validRope_any.mono ?_; rintro e w1 ⟨rfl, b⟩)
    go_ret2
    exact ⟨by rw [Hr.out]; rfl, ((Below.refl _ _).alloc (Nat.le_refl _) _).trans (b.mono (by simp))⟩
  | true =>
  have hrb := ropeB_true hr
  rcases askC_cases (spotsB zs) (inB wide 1 n && inB share 0 1000) with ⟨ha, hs, hi⟩ | ha | ha
  · have hi1 : inB wide 1 n = true := by simp only [Bool.and_eq_true] at hi; exact hi.1
    have hi2 : inB share 0 1000 = true := by simp only [Bool.and_eq_true] at hi; exact hi.2
    have hi' := inB_true.1 hi1
    have hi'' := inB_true.1 hi2
    obtain ⟨k, rfl⟩ := Int.eq_ofNat_of_zero_le (show 0 ≤ wide by omega)
    have hmo := most_bd (wide := k) (spots_le hs) (by rw [h.len]; exact hn)
    have hlb := left_bd (most := mostOf (sumsR zs k)) (by omega) (by omega) hmo.1 (wires := a2) (strength := a3)
    have hmul := mul_bd (x := share) (y := a3) (X := 1000) (Y := 10000000) (by omega) (by omega) (by omega) (by omega)
    have Hr : Hid (rMustReplace a0 a1 a2 a3 zs k share = (decide (1000 * leftR a2 a3 (mostOf (sumsR zs k)) < share * a3), 0)) := by
      have hl := HL.out
      refine Lib.hid ?_
      rw [rMustReplace, if_pos hr, hl, if_pos ha]; simp
    have Hs := Lib.hid hs
    have hok : askC (spotsB zs) true = 0 := by rw [hs]; rfl
    clear hs hi ha
    go_enter Try.func10, Try.ntmps10
    go_wp2_with fail
    refine validRope_any.mono ?_
    rintro e w1 ⟨rfl, b⟩
    have hx0 : w1.cell? ⟨w.heap.size, 0, none⟩ = some (.int .i64 a0) := (b.cell (p := ⟨w.heap.size, 0, none⟩) (by simp)).trans (by simp)
    have hx1 : w1.cell? ⟨w.heap.size, 1, none⟩ = some (.int .i64 a1) := (b.cell (p := ⟨w.heap.size, 1, none⟩) (by simp)).trans (by simp)
    have hx2 : w1.cell? ⟨w.heap.size, 2, none⟩ = some (.int .i64 a2) := (b.cell (p := ⟨w.heap.size, 2, none⟩) (by simp)).trans (by simp)
    have hx3 : w1.cell? ⟨w.heap.size, 3, none⟩ = some (.int .i64 a3) := (b.cell (p := ⟨w.heap.size, 3, none⟩) (by simp)).trans (by simp)
    have hsz1 : w.heap.size + 1 ≤ w1.heap.size := by have := b.size; simpa using this
    replace b : Below w.heap.size w w1 := ((Below.refl _ _).alloc (Nat.le_refl _) _).trans (b.mono (by simp))
    have HR := Lib.hid (Reads.below h b hB)
    go_wp2_with (first | (go_at_call 20; refine (isWide_any A n c _ _ hn).mono ?_; rintro e w' ⟨rfl, rfl⟩) | (go_at_call 24; refine (isShare_any _ _).mono ?_; rintro e w' ⟨rfl, rfl⟩) | (go_at_call 19; refine (spotted_any A n c B zs _ _ HR.out (by omega)).mono ?_; rintro e w' ⟨rfl, rfl⟩))
    generalize hlq : leftR a2 a3 (mostOf (sumsR zs k)) = q at *
    have Hq := Lib.hid hlq
    clear hlq
    have hm1 : IntKind.i64.wrap (1000 * q) = 1000 * q := IntWalk.i64_in _ (by omega)
    have hm2 : IntKind.i64.wrap (share * a3) = share * a3 := IntWalk.i64_in _ (by omega)
    go_region_held3 (fun w' => w'.cell? ⟨w.heap.size, 0, none⟩ = some (.int .i64 a0) ∧ w'.cell? ⟨w.heap.size, 1, none⟩ = some (.int .i64 a1) ∧ w'.cell? ⟨w.heap.size, 2, none⟩ = some (.int .i64 a2) ∧ w'.cell? ⟨w.heap.size, 3, none⟩ = some (.int .i64 a3))
      (first | go_keep | (go_split_ands; refine ⟨?_, ?_, ?_, ?_⟩ <;> (rw [b2.cell (by simp; omega)]; assumption)))
      ((go_at_call 21; refine (strengthLeft_any A n c B k zs a0 a1 a2 a3 _ (by exact HR.out) (by exact Nat.le_trans hB b.size) hc hn (spots_le Hs.out) (by omega) (by omega) (by omega) (by omega)).mono ?_; rw [Hq.out]; rintro e w2 ⟨rfl, b2⟩))
    go_wp2_with fail
    go_ret2
    exact ⟨ret2 (bool_eq (by rw [Hr.out])) (int_eq (by rw [Hr.out])), b.drew.trans (b2.mono (by simp; omega))⟩
  all_goals
    have Hr : Hid (rMustReplace a0 a1 a2 a3 zs wide share = (false, askC (spotsB zs) (inB wide 1 n && inB share 0 1000))) := by
      have hl := HL.out
      refine Lib.hid ?_
      rw [rMustReplace, if_pos hr, hl, if_neg (by rw [ha]; omega)]
    have q1 : askC true false = 2 := rfl
    have q2 : askC false true = 1 := rfl
    have q3 : askC false false = 1 := rfl
    cases hs : spotsB zs <;> cases h1 : inB wide 1 n <;> cases h2 : inB share 0 1000 <;> first | (rw [hs, h1, h2] at ha; cases ha; done) | skip
    all_goals
      clear ha
      go_enter Try.func10, Try.ntmps10
      go_wp2_with fail
      refine validRope_any.mono ?_
      rintro e w1 ⟨rfl, b⟩
      replace b : Below w.heap.size w w1 := ((Below.refl _ _).alloc (Nat.le_refl _) _).trans (b.mono (by simp))
      have HR := Lib.hid (Reads.below h b hB)
      go_wp2_with (first | (go_at_call 20; refine (isWide_any A n c _ _ hn).mono ?_; rintro e w' ⟨rfl, rfl⟩) | (go_at_call 24; refine (isShare_any _ _).mono ?_; rintro e w' ⟨rfl, rfl⟩) | (go_at_call 19; refine (spotted_any A n c B zs _ _ HR.out (by omega)).mono ?_; rintro e w' ⟨rfl, rfl⟩))
      go_ret2
      exact ⟨by rw [Hr.out, hs, h1, h2]; rfl, b⟩
end Go.Proofs.Ytppbfdlgpehanaa
