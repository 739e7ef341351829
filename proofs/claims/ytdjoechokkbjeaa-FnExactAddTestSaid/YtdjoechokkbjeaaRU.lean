/- Rope tests: ValidTests, GrowthOf: contracts of both sides. -/
import Derived.Test.YtdjoechokkbjeaaRT
namespace Go.Proofs.Ytdjoechokkbjeaa
open Go.RowKit
set_option maxRecDepth 100000
set_option linter.unusedVariables false

def validTestsB (l : List TestR) : Bool := testsB l && decide (l.length ≤ 24)
theorem validTests_any {A : Option Addr} {n c B : Nat} {l : List TestR} {w : World} (h : Reads w B 3 A n (l.flatMap TestR.cells)) (hB : B ≤ w.heap.size) (hn : n ≤ 1099511627776) :
    Calls Try.prog 23 #[.slice A n c] w fun e w' => e = .returned (.bool (validTestsB l)) ∧ Below w.heap.size w w' := by
  have Hv : Hid (validTestsB l = (testsB l && decide (n ≤ 24))) := by
    have := TestR.count h
    exact Lib.hid (by rw [validTestsB, this])
  go_enter Try.func23, Try.ntmps23
  go_wp2_with (go_at_call 60; refine (areTests_any h hB hn).mono ?_; rintro e w' ⟨rfl, b⟩)
  all_goals go_ret
  all_goals (refine ⟨ret_bool ?_, b⟩; rw [Hv.out]; first | (simp_all; done) | (simp_all; omega))
theorem l22Tests_any {A : Option Addr} {n c B : Nat} {l : List TestR} {w : World} (h : Reads w B 3 A n (l.flatMap TestR.cells)) (hB : B ≤ w.heap.size) (hn : n ≤ 1099511627776) :
    Calls Try.prog 59 #[.slice A n c] w fun e w' => e = .returned (.bool (validTestsB l)) ∧ Below w.heap.size w w' := by
  have Hv : Hid (validTestsB l = (testsB l && decide (n ≤ 24))) := by
    have := TestR.count h
    exact Lib.hid (by rw [validTestsB, this])
  by_cases hc : n ≤ 24
  · have hd : decide (n ≤ 24) = true := by simp [hc]
    go_enter Try.func59, Try.ntmps59
    go_wp2_with (go_at_call 72; refine (l22Order_any h hB hn).mono ?_; rintro e w' ⟨rfl, b⟩)
    all_goals go_ret
    all_goals (refine ⟨ret_bool ?_, b⟩; rw [Hv.out]; first | (simp_all; done) | (simp_all; omega))
  · go_enter Try.func59, Try.ntmps59
    go_wp2_with fail
    go_ret
    exact ⟨ret_bool (by rw [Hv.out]; simp; omega), Below.refl _ _⟩
theorem implValidTests_any {A : Option Addr} {n c B : Nat} {l : List TestR} {w : World} (h : Reads w B 3 A n (l.flatMap TestR.cells)) (hB : B ≤ w.heap.size) (hc : n ≤ c) (hn : n ≤ 1048576) :
    Calls Try.prog 23 #[.slice A n c] w fun e w' => e = .returned (.bool (validTestsB l)) ∧ Below w.heap.size w w' := validTests_any h hB (by omega)
theorem specValidTests_any {A : Option Addr} {n c B : Nat} {l : List TestR} {w : World} (h : Reads w B 3 A n (l.flatMap TestR.cells)) (hB : B ≤ w.heap.size) (hc : n ≤ c) (hn : n ≤ 1048576) :
    Calls Try.prog 21 #[.slice A n c] w fun e w' => e = .returned (.bool (validTestsB l)) ∧ Below w.heap.size w w' := by
  go_enter Try.func21, Try.ntmps21
  go_wp2_with (go_at_call 59; refine (l22Tests_any h hB (by omega)).mono ?_; rintro e w' ⟨rfl, b⟩)
  go_ret
  exact ⟨rfl, b⟩

/-! ### plain facts on valid tests -/
theorem tests_step {l : List TestR} (h : testsB l = true) {k : Nat} (hk : k < l.length) : testB (TestR.at_ l k) = true ∧ (k ≠ 0 → (TestR.at_ l (k - 1)).Day < (TestR.at_ l k).Day ∧ (TestR.at_ l (k - 1)).Broken ≤ (TestR.at_ l k).Broken ∧ (TestR.at_ l (k - 1)).Worn ≤ (TestR.at_ l k).Worn) := by
  have := allTo_true.1 h k hk
  simp only [stepB, Bool.and_eq_true, Bool.or_eq_true, decide_eq_true_eq] at this
  refine ⟨this.1, fun hk0 => ?_⟩
  rcases this.2 with h | h
  · exact absurd h hk0
  · exact h
theorem tests_mono {l : List TestR} (h : testsB l = true) : ∀ j, j < l.length → ((TestR.at_ l 0).Day + j ≤ (TestR.at_ l j).Day ∧ (TestR.at_ l 0).Broken ≤ (TestR.at_ l j).Broken) := by
  intro j
  induction j with
  | zero => intro _; simp
  | succ j ih =>
    intro hj
    have h1 := ih (by omega)
    have h2 := (tests_step h hj).2 (by omega)
    simp only [Nat.add_sub_cancel] at h2
    omega
/-- How fast wires break. -/
def growR (l : List TestR) : Int := rdiv (1000 * ((TestR.at_ l (l.length - 1)).Broken - (TestR.at_ l 0).Broken)) ((TestR.at_ l (l.length - 1)).Day - (TestR.at_ l 0).Day)
theorem tests_bd {l : List TestR} (h : validTestsB l = true) (h2 : 2 ≤ l.length) :
    0 < (TestR.at_ l (l.length - 1)).Day - (TestR.at_ l 0).Day ∧ 0 ≤ (TestR.at_ l (l.length - 1)).Broken - (TestR.at_ l 0).Broken ∧
    (0 ≤ (TestR.at_ l (l.length - 1)).Day ∧ (TestR.at_ l (l.length - 1)).Day ≤ 36524) ∧ (0 ≤ (TestR.at_ l (l.length - 1)).Broken ∧ (TestR.at_ l (l.length - 1)).Broken ≤ 24000) ∧
    (0 ≤ (TestR.at_ l 0).Day ∧ (TestR.at_ l 0).Day ≤ 36524) ∧ (0 ≤ (TestR.at_ l 0).Broken ∧ (TestR.at_ l 0).Broken ≤ 24000) := by
  have ht : testsB l = true := by simp only [validTestsB, Bool.and_eq_true] at h; exact h.1
  have m := tests_mono ht (l.length - 1) (by omega)
  have a := testB_true.1 (tests_step ht (k := l.length - 1) (by omega)).1
  have b := testB_true.1 (tests_step ht (k := 0) (by omega)).1
  omega

def rGrowthOf (l : List TestR) : Int × Int := if validTestsB l then (if l.length < 2 then (0, 3) else (growR l, 0)) else (0, 1)

theorem implGrowthOf_any {A : Option Addr} {n c B : Nat} {l : List TestR} {w : World} (h : Reads w B 3 A n (l.flatMap TestR.cells)) (hB : B ≤ w.heap.size) (hc : n ≤ c) (hn : n ≤ 1048576) :
    Calls Try.prog 32 #[.slice A n c] w fun e w' => e = .returned (.tuple #[.int .i64 (rGrowthOf l).1, .int .i64 (rGrowthOf l).2]) ∧ Below w.heap.size w w' := by
  have HL := Lib.hid (TestR.count h)
  cases hv : validTestsB l with
  | false =>
    have Hr : Hid (rGrowthOf l = (0, 1)) := Lib.hid (by rw [rGrowthOf, hv]; rfl)
    go_enter Try.func32, Try.ntmps32
    go_wp2_with (go_at_call 23; refine (validTests_any h hB (by omega)).mono ?_; rintro e w' ⟨rfl, b⟩)
    go_ret2
    exact ⟨by rw [Hr.out]; rfl, b⟩
  | true =>
    by_cases hn2 : n < 2
    · have Hr : Hid (rGrowthOf l = (0, 3)) := Lib.hid (by have := HL.out; rw [rGrowthOf, hv, if_pos rfl, if_pos (by omega)])
      go_enter Try.func32, Try.ntmps32
      go_wp2_with (go_at_call 23; refine (validTests_any h hB (by omega)).mono ?_; rintro e w' ⟨rfl, b⟩)
      go_ret2
      exact ⟨by rw [Hr.out]; rfl, b⟩
    · have Hr : Hid (rGrowthOf l = (growR l, 0)) := Lib.hid (by have := HL.out; rw [rGrowthOf, hv, if_pos rfl, if_neg (by omega)])
      have Hg : Hid (growR l = rdiv (1000 * ((TestR.at_ l (n - 1)).Broken - (TestR.at_ l 0).Broken)) ((TestR.at_ l (n - 1)).Day - (TestR.at_ l 0).Day)) := Lib.hid (by rw [growR, HL.out])
      have hbd := tests_bd hv (by have := HL.out; omega)
      rw [HL.out] at hbd
      obtain ⟨b1, b2, b3, b4, b5, b6⟩ := hbd
      go_enter Try.func32, Try.ntmps32
      go_wp2_with fail
      refine (validTests_any h hB (by omega)).mono ?_
      rintro e w1 ⟨rfl, b⟩
      obtain ⟨ad, rfl, hbl, hc0, hc1, hc2⟩ := TestR.rd0 (Reads.below h b hB) (by omega)
      obtain ⟨ad', e', _, hp0, hp1, hp2⟩ := TestR.rd (k := n - 1) (Reads.below h b hB) (by omega)
      injection e' with e'
      subst e'
      have hk1 : (0 : Int) ≤ (n : Int) - 1 := by omega
      have hk2 : (n : Int) - 1 < n := by omega
      have hk3 : (0 : Int) < n := by omega
      have hk4 : 0 < n := by omega
      go_wp2_with fail
      have hq1 : IntKind.i64.wrap ((n : Int) - 1) = (n : Int) - 1 := IntWalk.i64_in _ (by omega)
      have hq2 : ((n : Int) - 1).toNat = n - 1 := by omega
      obtain ⟨b0, o0, sp⟩ := ad
      have hsp := World.cell?_spot hc0
      simp only at hsp
      subst hsp
      simp only [Addr.add_lit] at hp0 hp1 hp2 hbl
      have hb0 : b0 < w1.heap.size := by have := b.size; omega
      go_region
      all_goals
        go_wp2_with fail
        refine (nearest_any _ _ _ (by omega) (by omega) (by omega) (by omega)).mono ?_
        rintro e w3 ⟨rfl, d, rfl⟩
        go_wp2_with fail
        go_ret2
        rw [Hr.out, Hg.out]
        refine ⟨rfl, ?_⟩
        first
          | exact below_drewN (((b.alloc b.size _).alloc (by have := b.size; simp; omega) _).drew) d
          | exact below_drewN ((b.alloc b.size _).alloc (by have := b.size; simp; omega) _) _


theorem l22Growth_any {A : Option Addr} {n c B : Nat} {l : List TestR} {w : World} (h : Reads w B 3 A n (l.flatMap TestR.cells)) (hv : validTestsB l = true) (hn2 : 2 ≤ n) (hn : n ≤ 1048576) :
    Calls Try.prog 67 #[.slice A n c] w fun e w' => e = .returned (.int .i64 (growR l)) ∧ ∃ d, w' = w.drewN d := by
  have HL := Lib.hid (TestR.count h)
  have Hg : Hid (growR l = rdiv (1000 * ((TestR.at_ l (n - 1)).Broken - (TestR.at_ l 0).Broken)) ((TestR.at_ l (n - 1)).Day - (TestR.at_ l 0).Day)) := Lib.hid (by rw [growR, HL.out])
  have hbd := tests_bd hv (by have := HL.out; omega)
  rw [HL.out] at hbd
  obtain ⟨b1, b2, b3, b4, b5, b6⟩ := hbd
  obtain ⟨ad, rfl, hbl, hc0, hc1, hc2⟩ := TestR.rd0 h (by omega)
  obtain ⟨ad', e', _, hp0, hp1, hp2⟩ := TestR.rd (k := n - 1) h (by omega)
  injection e' with e'
  subst e'
  have hk1 : (0 : Int) ≤ (n : Int) - 1 := by omega
  have hk2 : (n : Int) - 1 < n := by omega
  have hk3 : (0 : Int) < n := by omega
  have hk4 : 0 < n := by omega
  clear hv
  go_enter Try.func67, Try.ntmps67
  go_wp2_with fail
  go_quiet ((go_at_call 96; exact quiet_left (l01Div_any _ _ _ (by omega) (by omega) (by omega) (by omega))))
  go_wp2_with fail
  go_ret
  exact ⟨ret_int (by rw [Hg.out]), _, rfl⟩

theorem specGrowthOf_any {A : Option Addr} {n c B : Nat} {l : List TestR} {w : World} (h : Reads w B 3 A n (l.flatMap TestR.cells)) (hB : B ≤ w.heap.size) (hc : n ≤ c) (hn : n ≤ 1048576) :
    Calls Try.prog 31 #[.slice A n c] w fun e w' => e = .returned (.tuple #[.int .i64 (rGrowthOf l).1, .int .i64 (rGrowthOf l).2]) ∧ Below w.heap.size w w' := by
  have HL := Lib.hid (TestR.count h)
  cases hv : validTestsB l with
  | false =>
    have Hr : Hid (rGrowthOf l = (0, 1)) := Lib.hid (by rw [rGrowthOf, hv]; rfl)
    go_enter Try.func31, Try.ntmps31
    go_wp2_with (go_at_call 59; refine (l22Tests_any h hB (by omega)).mono ?_; rintro e w' ⟨rfl, b⟩)
    go_ret2
    exact ⟨by rw [Hr.out]; rfl, b⟩
  | true =>
    have Hv := Lib.hid hv
    by_cases hn2 : n < 2
    · have Hr : Hid (rGrowthOf l = (0, 3)) := Lib.hid (by have := HL.out; rw [rGrowthOf, hv, if_pos rfl, if_pos (by omega)])
      go_enter Try.func31, Try.ntmps31
      go_wp2_with (go_at_call 59; refine (l22Tests_any h hB (by omega)).mono ?_; rintro e w' ⟨rfl, b⟩)
      go_ret2
      exact ⟨by rw [Hr.out]; rfl, b⟩
    · have Hr : Hid (rGrowthOf l = (growR l, 0)) := Lib.hid (by have := HL.out; rw [rGrowthOf, hv, if_pos rfl, if_neg (by omega)])
      go_enter Try.func31, Try.ntmps31
      go_wp2_with (first
        | (go_at_call 59; refine (l22Tests_any h hB (by omega)).mono ?_; rintro e w1 ⟨rfl, b⟩)
        | (go_at_call 67; refine (l22Growth_any (Reads.below h b hB) Hv.out (by omega) hn).mono ?_; rintro e w' ⟨rfl, d, rfl⟩))
      go_ret2
      exact ⟨by rw [Hr.out]; rfl, below_drewN b _⟩
end Go.Proofs.Ytdjoechokkbjeaa
