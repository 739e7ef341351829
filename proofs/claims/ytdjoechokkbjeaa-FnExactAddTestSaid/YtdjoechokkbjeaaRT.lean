/- Rope tests: contracts of what asks whether tests are valid. -/
import Derived.Test.YtdjoechokkbjeaaGTest
namespace Go.Proofs.Ytdjoechokkbjeaa
open Go.RowKit
set_option maxRecDepth 100000
set_option linter.unusedVariables false

def testB (x : TestR) : Bool := inB x.Day 0 36524 && inB x.Broken 0 24000 && inB x.Worn 0 1000
theorem testB_eq (a b c : Int) : testB ⟨a, b, c⟩ = (inB a 0 36524 && inB b 0 24000 && inB c 0 1000) := rfl
theorem testB_true {x : TestR} : testB x = true ↔ (0 ≤ x.Day ∧ x.Day ≤ 36524) ∧ (0 ≤ x.Broken ∧ x.Broken ≤ 24000) ∧ 0 ≤ x.Worn ∧ x.Worn ≤ 1000 := by
  simp [testB, inB_true, and_assoc]

theorem isTest_any {a0 a1 a2 : Int} {w : World} :
    Calls Try.prog 74 #[.agg #[.int .i64 a0, .int .i64 a1, .int .i64 a2]] w fun e w' => e = .returned (.bool (testB ⟨a0, a1, a2⟩)) ∧ Below w.heap.size w w' := by
  have Ht := Lib.hid (testB_eq a0 a1 a2)
  go_enter Try.func74, Try.ntmps74
  go_wp2_with (first | (go_at_call 77; refine (isDay_any _ _).mono ?_; rintro e w' ⟨rfl, rfl⟩) | (go_at_call 58; refine (within_any _ _ _ _).mono ?_; rintro e w' ⟨rfl, rfl⟩) | (go_at_call 83; refine (isShare_any _ _).mono ?_; rintro e w' ⟨rfl, rfl⟩))
  all_goals go_ret
  all_goals (refine ⟨ret_bool ?_, (Below.refl _ _).alloc (Nat.le_refl _) _⟩; rw [Ht.out]; simp_all)

theorem l22One_any {ad : Addr} {a0 a1 a2 : Int} {w : World} (h0 : w.cell? ad = some (.int .i64 a0)) (h1 : w.cell? ⟨ad.block, ad.off + 1, none⟩ = some (.int .i64 a1)) (h2 : w.cell? ⟨ad.block, ad.off + 2, none⟩ = some (.int .i64 a2)) :
    Calls Try.prog 71 #[.pointer (some ad)] w fun e w' => e = .returned (.bool (testB ⟨a0, a1, a2⟩)) ∧ w = w' := by
  have Ht := Lib.hid (testB_eq a0 a1 a2)
  go_enter Try.func71, Try.ntmps71
  go_wp2_with (first | (go_at_call 100; refine (l02Day_any _ _).mono ?_; rintro e w' ⟨rfl, rfl⟩) | (go_at_call 75; refine (l22Broken_any _ _).mono ?_; rintro e w' ⟨rfl, rfl⟩) | (go_at_call 82; refine (in_any _ _ _ _).mono ?_; rintro e w' ⟨rfl, rfl⟩))
  all_goals go_ret
  all_goals (refine ⟨ret_bool ?_, rfl⟩; rw [Ht.out]; simp_all)

/-- Test k is valid, and follows the one before. -/
def stepB (l : List TestR) (k : Nat) : Bool :=
  testB (TestR.at_ l k) && (decide (k = 0) || (decide ((TestR.at_ l (k - 1)).Day < (TestR.at_ l k).Day) && (decide ((TestR.at_ l (k - 1)).Broken ≤ (TestR.at_ l k).Broken) && decide ((TestR.at_ l (k - 1)).Worn ≤ (TestR.at_ l k).Worn))))
def testsB (l : List TestR) : Bool := allTo (stepB l) l.length

theorem areTests_any {A : Option Addr} {n c B : Nat} {l : List TestR} {w : World} (h : Reads w B 3 A n (l.flatMap TestR.cells)) (hB : B ≤ w.heap.size) (hn : n ≤ 1099511627776) :
    Calls Try.prog 60 #[.slice A n c] w fun e w' => e = .returned (.bool (testsB l)) ∧ Below w.heap.size w w' := by
  have HL := Lib.hid (TestR.count h)
  go_enter Try.func60, Try.ntmps60
  go_wp2_with fail
  go_loopg [7] n (fun gk i wr => ∃ k : Nat, k ≤ n ∧ gk + k = n ∧ i = .int .i64 k ∧ Below w.heap.size w wr ∧ allTo (stepB l) k = true)
  case atStart => exact ⟨0, Nat.zero_le _, rfl, rfl, Below.refl _ _, rfl⟩
  case round =>
    obtain ⟨k, hk, hgk, rfl, hb, hall⟩ := hrel
    have Hgk := Lib.hid hgk
    have Hall := Lib.hid hall
    clear hgk hall
    by_cases hlt : k < n
    · obtain ⟨ad, rfl, hbl, hc0, hc1, hc2⟩ := TestR.rd (Reads.below h hb hB) hlt
      go_wp2_with fail
      refine isTest_any.mono ?_
      rintro e w2 ⟨rfl, b⟩
      have hb2 : Below w.heap.size w w2 := (hb.alloc hb.size _).trans (b.mono (by have := hb.size; simp; omega))
      have hx0 : w2.cell? ⟨wr.heap.size, 0, none⟩ = some (.int .i64 (TestR.at_ l k).Day) := (b.cell (p := ⟨wr.heap.size, 0, none⟩) (by simp)).trans (by simp)
      have hx1 : w2.cell? ⟨wr.heap.size, 1, none⟩ = some (.int .i64 (TestR.at_ l k).Broken) := (b.cell (p := ⟨wr.heap.size, 1, none⟩) (by simp)).trans (by simp)
      have hx2 : w2.cell? ⟨wr.heap.size, 2, none⟩ = some (.int .i64 (TestR.at_ l k).Worn) := (b.cell (p := ⟨wr.heap.size, 2, none⟩) (by simp)).trans (by simp)
      clear b hc0 hc1 hc2 hb
      have Hstep : Hid (stepB l k = (testB ⟨(TestR.at_ l k).Day, (TestR.at_ l k).Broken, (TestR.at_ l k).Worn⟩ && (decide (k = 0) || (decide ((TestR.at_ l (k - 1)).Day < (TestR.at_ l k).Day) && (decide ((TestR.at_ l (k - 1)).Broken ≤ (TestR.at_ l k).Broken) && decide ((TestR.at_ l (k - 1)).Worn ≤ (TestR.at_ l k).Worn)))))) := Lib.hid rfl
      by_cases ht : testB ⟨(TestR.at_ l k).Day, (TestR.at_ l k).Broken, (TestR.at_ l k).Worn⟩ = true
      · have Ht := Lib.hid ht
        by_cases hk0 : k = 0
        · have Hk0 := Lib.hid hk0
          have hdn : decide (0 < k) = false := by simp; omega
          clear hk0
          go_wp2_with fail
          go_quiet (fail)
          go_wp2
          have hgk := Hgk.out
          go_roundg (gk - 1)
          case rel => exact ⟨k + 1, by omega, by omega, by go_num, below_drewN hb2 _, by rw [allTo_succ, Hall.out, Hstep.out, Ht.out, Hk0.out]; simp⟩
          case measure => omega
        · obtain ⟨ad', e', _, hp0, hp1, hp2⟩ := TestR.rd (k := k - 1) (Reads.below h hb2 hB) (by omega)
          injection e' with e'
          subst e'
          have hdn : decide (0 < k) = true := by simp; omega
          have hkk : (k : Int) - 1 < n := by omega
          have hk1 : (0 : Int) ≤ (k : Int) - 1 := by omega
          have hk1' : (1 : Int) ≤ (k : Int) := by omega
          have ht1 : Hid (((k : Int) - 1).toNat = k - 1) := Lib.hid (by omega)
          have Hk0 := Lib.hid hk0
          clear hk0
          by_cases c1 : (TestR.at_ l k).Day ≤ (TestR.at_ l (k - 1)).Day
          · have Hs : Hid (stepB l k = false) := by
              refine Lib.hid ?_
              rw [Hstep.out, show decide ((TestR.at_ l (k - 1)).Day < (TestR.at_ l k).Day) = false by simp; omega]; simp [Hk0.out]
            go_wp2_with fail
            go_quiet (fail)
            go_wp2
            go_ret
            exact ⟨ret_bool (by rw [testsB, allTo_false (k := k) (by rw [HL.out]; omega) Hs.out]), below_drewN hb2 _⟩
          · have d1 : decide ((TestR.at_ l k).Day ≤ (TestR.at_ l (k - 1)).Day) = false := by simp; omega
            by_cases c2 : (TestR.at_ l k).Broken < (TestR.at_ l (k - 1)).Broken
            · have Hs : Hid (stepB l k = false) := by
                refine Lib.hid ?_
                rw [Hstep.out, show decide ((TestR.at_ l (k - 1)).Broken ≤ (TestR.at_ l k).Broken) = false by simp; omega]; simp [Hk0.out]
              go_wp2_with fail
              go_quiet (fail)
              go_wp2
              go_ret
              exact ⟨ret_bool (by rw [testsB, allTo_false (k := k) (by rw [HL.out]; omega) Hs.out]), below_drewN hb2 _⟩
            · have d2 : decide ((TestR.at_ l k).Broken < (TestR.at_ l (k - 1)).Broken) = false := by simp; omega
              by_cases c3 : (TestR.at_ l k).Worn < (TestR.at_ l (k - 1)).Worn
              · have Hs : Hid (stepB l k = false) := by
                  refine Lib.hid ?_
                  rw [Hstep.out, show decide ((TestR.at_ l (k - 1)).Worn ≤ (TestR.at_ l k).Worn) = false by simp; omega]; simp [Hk0.out]
                go_wp2_with fail
                go_quiet (fail)
                go_wp2
                go_ret
                exact ⟨ret_bool (by rw [testsB, allTo_false (k := k) (by rw [HL.out]; omega) Hs.out]), below_drewN hb2 _⟩
              · have Hs : Hid (stepB l k = true) := by
                  refine Lib.hid ?_
                  rw [Hstep.out, Ht.out, show decide ((TestR.at_ l (k - 1)).Worn ≤ (TestR.at_ l k).Worn) = true by simp; omega, show decide ((TestR.at_ l (k - 1)).Broken ≤ (TestR.at_ l k).Broken) = true by simp; omega, show decide ((TestR.at_ l (k - 1)).Day < (TestR.at_ l k).Day) = true by simp; omega]; simp
                go_wp2_with fail
                go_quiet (fail)
                go_wp2
                have hgk := Hgk.out
                go_roundg (gk - 1)
                case rel => exact ⟨k + 1, by omega, by omega, by go_num, below_drewN hb2 _, by rw [allTo_succ, Hall.out, Hs.out]; rfl⟩
                case measure => omega
      · have Hs : Hid (stepB l k = false) := by
          refine Lib.hid ?_
          rw [Hstep.out, show testB ⟨(TestR.at_ l k).Day, (TestR.at_ l k).Broken, (TestR.at_ l k).Worn⟩ = false by simpa using ht]; rfl
        go_wp2_with fail
        go_ret
        exact ⟨ret_bool (by rw [testsB, allTo_false (k := k) (by rw [HL.out]; omega) Hs.out]), hb2⟩
    · have Hs : Hid (testsB l = true) := by
        have := Hall.out
        rw [show k = n by omega] at this
        exact Lib.hid (by rw [testsB, HL.out]; exact this)
      go_wp2
      go_ret
      exact ⟨ret_bool (by rw [Hs.out]), hb⟩
theorem l22Order_any {A : Option Addr} {n c B : Nat} {l : List TestR} {w : World} (h : Reads w B 3 A n (l.flatMap TestR.cells)) (hB : B ≤ w.heap.size) (hn : n ≤ 1099511627776) :
    Calls Try.prog 72 #[.slice A n c] w fun e w' => e = .returned (.bool (testsB l)) ∧ Below w.heap.size w w' := by
  have HL := Lib.hid (TestR.count h)
  go_enter Try.func72, Try.ntmps72
  go_wp2_with fail
  go_loopg [3] n (fun gk i wr => ∃ k : Nat, k ≤ n ∧ gk + k = n ∧ i = .int .i64 k ∧ Below w.heap.size w wr ∧ allTo (stepB l) k = true)
  case atStart => exact ⟨0, Nat.zero_le _, rfl, rfl, Below.refl _ _, rfl⟩
  case round =>
    obtain ⟨k, hk, hgk, rfl, hb, hall⟩ := hrel
    have Hgk := Lib.hid hgk
    have Hall := Lib.hid hall
    clear hgk hall
    by_cases hlt : k < n
    · obtain ⟨ad, rfl, hbl, hc0, hc1, hc2⟩ := TestR.rd (Reads.below h hb hB) hlt
      go_wp2_with fail
      refine (l22One_any hc0 hc1 hc2).mono ?_
      rintro e w' ⟨rfl, rfl⟩
      have Hstep : Hid (stepB l k = (testB ⟨(TestR.at_ l k).Day, (TestR.at_ l k).Broken, (TestR.at_ l k).Worn⟩ && (decide (k = 0) || (decide ((TestR.at_ l (k - 1)).Day < (TestR.at_ l k).Day) && (decide ((TestR.at_ l (k - 1)).Broken ≤ (TestR.at_ l k).Broken) && decide ((TestR.at_ l (k - 1)).Worn ≤ (TestR.at_ l k).Worn)))))) := Lib.hid rfl
      by_cases ht : testB ⟨(TestR.at_ l k).Day, (TestR.at_ l k).Broken, (TestR.at_ l k).Worn⟩ = true
      · have Ht := Lib.hid ht
        by_cases hk0 : k = 0
        · have Hk0 := Lib.hid hk0
          have hdn : decide (0 < k) = false := by simp; omega
          clear hk0
          go_wp2_with fail
          go_quiet (fail)
          go_wp2
          have hgk := Hgk.out
          go_roundg (gk - 1)
          case rel => exact ⟨k + 1, by omega, by omega, by go_num, below_drewN hb _, by rw [allTo_succ, Hall.out, Hstep.out, Ht.out, Hk0.out]; simp⟩
          case measure => omega
        · obtain ⟨ad', e', _, hp0, hp1, hp2⟩ := TestR.rd (k := k - 1) (Reads.below h hb hB) (by omega)
          injection e' with e'
          subst e'
          have hdn : decide (0 < k) = true := by simp; omega
          have hkk : (k : Int) - 1 < n := by omega
          have hk1 : (0 : Int) ≤ (k : Int) - 1 := by omega
          have hk1' : (1 : Int) ≤ (k : Int) := by omega
          have ht1 : Hid (((k : Int) - 1).toNat = k - 1) := Lib.hid (by omega)
          have Hk0 := Lib.hid hk0
          clear hk0
          by_cases c1 : (TestR.at_ l k).Day ≤ (TestR.at_ l (k - 1)).Day
          · have Hs : Hid (stepB l k = false) := by
              refine Lib.hid ?_
              rw [Hstep.out, show decide ((TestR.at_ l (k - 1)).Day < (TestR.at_ l k).Day) = false by simp; omega]; simp [Hk0.out]
            go_wp2_with fail
            go_quiet (fail)
            go_wp2
            go_ret
            exact ⟨ret_bool (by rw [testsB, allTo_false (k := k) (by rw [HL.out]; omega) Hs.out]), below_drewN hb _⟩
          · have d1 : decide ((TestR.at_ l k).Day ≤ (TestR.at_ l (k - 1)).Day) = false := by simp; omega
            by_cases c2 : (TestR.at_ l k).Broken < (TestR.at_ l (k - 1)).Broken
            · have Hs : Hid (stepB l k = false) := by
                refine Lib.hid ?_
                rw [Hstep.out, show decide ((TestR.at_ l (k - 1)).Broken ≤ (TestR.at_ l k).Broken) = false by simp; omega]; simp [Hk0.out]
              go_wp2_with fail
              go_quiet (fail)
              go_wp2
              go_ret
              exact ⟨ret_bool (by rw [testsB, allTo_false (k := k) (by rw [HL.out]; omega) Hs.out]), below_drewN hb _⟩
            · have d2 : decide ((TestR.at_ l k).Broken < (TestR.at_ l (k - 1)).Broken) = false := by simp; omega
              by_cases c3 : (TestR.at_ l k).Worn < (TestR.at_ l (k - 1)).Worn
              · have Hs : Hid (stepB l k = false) := by
                  refine Lib.hid ?_
                  rw [Hstep.out, show decide ((TestR.at_ l (k - 1)).Worn ≤ (TestR.at_ l k).Worn) = false by simp; omega]; simp [Hk0.out]
                go_wp2_with fail
                go_quiet (fail)
                go_wp2
                go_ret
                exact ⟨ret_bool (by rw [testsB, allTo_false (k := k) (by rw [HL.out]; omega) Hs.out]), below_drewN hb _⟩
              · have Hs : Hid (stepB l k = true) := by
                  refine Lib.hid ?_
                  rw [Hstep.out, Ht.out, show decide ((TestR.at_ l (k - 1)).Worn ≤ (TestR.at_ l k).Worn) = true by simp; omega, show decide ((TestR.at_ l (k - 1)).Broken ≤ (TestR.at_ l k).Broken) = true by simp; omega, show decide ((TestR.at_ l (k - 1)).Day < (TestR.at_ l k).Day) = true by simp; omega]; simp
                go_wp2_with fail
                go_quiet (fail)
                go_wp2
                have hgk := Hgk.out
                go_roundg (gk - 1)
                case rel => exact ⟨k + 1, by omega, by omega, by go_num, below_drewN hb _, by rw [allTo_succ, Hall.out, Hs.out]; rfl⟩
                case measure => omega
      · have Hs : Hid (stepB l k = false) := by
          refine Lib.hid ?_
          rw [Hstep.out, show testB ⟨(TestR.at_ l k).Day, (TestR.at_ l k).Broken, (TestR.at_ l k).Worn⟩ = false by simpa using ht]; rfl
        go_wp2_with fail
        go_ret
        exact ⟨ret_bool (by rw [testsB, allTo_false (k := k) (by rw [HL.out]; omega) Hs.out]), hb⟩
    · have Hs : Hid (testsB l = true) := by
        have := Hall.out
        rw [show k = n by omega] at this
        exact Lib.hid (by rw [testsB, HL.out]; exact this)
      go_wp2
      go_ret
      exact ⟨ret_bool (by rw [Hs.out]), hb⟩
end Go.Proofs.Ytdjoechokkbjeaa
