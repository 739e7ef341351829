/- Rope tests: NextTest: contracts of both sides. -/
import Derived.Test.YtdjoechokkbjeaaRD
namespace Go.Proofs.Ytdjoechokkbjeaa
open Go.RowKit
set_option maxRecDepth 100000
set_option linter.unusedVariables false

def nextR (l : List TestR) (limit often : Int) : Int := if limR l limit < 0 then min 36524 ((lastR l).Day + often) else min (min 36524 ((lastR l).Day + often)) (limR l limit)
def rNextTest (l : List TestR) (limit often : Int) : Int × Int :=
  if validTestsB l then (if inB limit 0 24000 && inB often 1 1000 then (if l.length = 0 then (0, 3) else (nextR l limit often, 0)) else (0, 2)) else (0, 1)
theorem min_eq (a b : Int) : min a b = if a ≤ b then a else b := by omega
theorem day_of {l : List TestR} {limit : Int} (hv : validTestsB l = true) (hi : inB limit 0 24000 = true) : rDayOfLimit l limit = if limR l limit < 0 then (0, 3) else (limR l limit, 0) := by rw [rDayOfLimit, hv, hi]; rfl
theorem lim_bd (l : List TestR) (limit : Int) (hv : validTestsB l = true) (hn : l.length ≠ 0) : -1 ≤ limR l limit ∧ limR l limit ≤ 36524 := by
  have ht : testsB l = true := by simp only [validTestsB, Bool.and_eq_true] at hv; exact hv.1
  have a := testB_true.1 (tests_step ht (k := l.length - 1) (by omega)).1
  rw [← lastR] at a
  unfold limR dayR dayTo
  rcases firstTo_cases (fun j => hitR l limit ((lastR l).Day + (j : Nat))) (36525 - (lastR l).Day).toNat with ⟨h, _⟩ | ⟨k, hk, h, _⟩
  · rw [h]; split <;> (try split) <;> omega
  · rw [h]; split <;> (try split) <;> omega

theorem specNextTest_any {A : Option Addr} {n c B : Nat} {l : List TestR} {limit often : Int} {w : World} (h : Reads w B 3 A n (l.flatMap TestR.cells)) (hB : B ≤ w.heap.size) (hc : n ≤ c) (hn : n ≤ 1048576) :
    Calls Try.prog 49 #[.slice A n c, .int .i64 limit, .int .i64 often] w fun e w' => e = .returned (.tuple #[.int .i64 (rNextTest l limit often).1, .int .i64 (rNextTest l limit often).2]) ∧ Below w.heap.size w w' := by
  have HL := Lib.hid (TestR.count h)
  cases hv : validTestsB l with
  | false =>
    have Hr : Hid (rNextTest l limit often = (0, 1)) := Lib.hid (by rw [rNextTest, hv]; rfl)
    go_enter Try.func49, Try.ntmps49
    go_wp2_with (go_at_call 59; refine (l22Tests_any h hB (by omega)).mono ?_; rintro e w' ⟨rfl, b⟩)
    go_ret2
    exact ⟨by rw [Hr.out]; rfl, b⟩
  | true =>
    have Hv := Lib.hid hv
    cases hi : inB limit 0 24000 && inB often 1 1000 with
    | false =>
      have Hr : Hid (rNextTest l limit often = (0, 2)) := Lib.hid (by rw [rNextTest, hv, hi]; rfl)
      cases h1 : inB limit 0 24000 <;> cases h2 : inB often 1 1000 <;> first | (rw [h1, h2] at hi; cases hi; done) | skip
      all_goals
        clear hi
        go_enter Try.func49, Try.ntmps49
        go_wp2_with (first | (go_at_call 59; refine (l22Tests_any h hB (by omega)).mono ?_; rintro e w' ⟨rfl, b⟩) | (go_at_call 75; refine (l22Broken_any _ _).mono ?_; rintro e w' ⟨rfl, rfl⟩) | (go_at_call 82; refine (in_any _ _ _ _).mono ?_; rintro e w' ⟨rfl, rfl⟩))
        go_ret2
        exact ⟨by rw [Hr.out]; rfl, b⟩
    | true =>
      have h1 : inB limit 0 24000 = true := by simp only [Bool.and_eq_true] at hi; exact hi.1
      have h2 : inB often 1 1000 = true := by simp only [Bool.and_eq_true] at hi; exact hi.2
      have hib := inB_true.1 h1
      have hib2 := inB_true.1 h2
      by_cases hn0 : n = 0
      · have Hr : Hid (rNextTest l limit often = (0, 3)) := Lib.hid (by have := HL.out; rw [rNextTest, hv, hi, if_pos rfl, if_pos rfl, if_pos (by omega)])
        subst hn0
        clear hi
        go_enter Try.func49, Try.ntmps49
        go_wp2_with (first | (go_at_call 59; refine (l22Tests_any h hB (by omega)).mono ?_; rintro e w' ⟨rfl, b⟩) | (go_at_call 75; refine (l22Broken_any _ _).mono ?_; rintro e w' ⟨rfl, rfl⟩) | (go_at_call 82; refine (in_any _ _ _ _).mono ?_; rintro e w' ⟨rfl, rfl⟩))
        go_ret2
        exact ⟨by rw [Hr.out]; rfl, b⟩
      · have Hr : Hid (rNextTest l limit often = (nextR l limit often, 0)) := Lib.hid (by have := HL.out; rw [rNextTest, hv, hi, if_pos rfl, if_pos rfl, if_neg (by omega)])
        have hlb := lim_bd l limit hv (by have := HL.out; omega)
        have hlast : 0 ≤ (lastR l).Day ∧ (lastR l).Day ≤ 36524 := by
          have ht : testsB l = true := by simp only [validTestsB, Bool.and_eq_true] at hv; exact hv.1
          have a := testB_true.1 (tests_step ht (k := l.length - 1) (by have := HL.out; omega)).1
          rw [← lastR] at a; exact a.1
        have HLa : Hid (lastR l = TestR.at_ l (n - 1)) := Lib.hid (by rw [lastR, HL.out])
        have hnz : ((n : Int) == 0) = false := by simp; omega
        have hk1 : (0 : Int) ≤ (n : Int) - 1 := by omega
        have hk2 : (n : Int) - 1 < n := by omega
        have hk4 : 0 < n := by omega
        clear hi hn0
        go_enter Try.func49, Try.ntmps49
        go_wp2_with fail
        refine (l22Tests_any h hB (by omega)).mono ?_
        rintro e w1 ⟨rfl, b⟩
        obtain ⟨ad, rfl, hbl, hp0, hp1, hp2⟩ := TestR.rd (k := n - 1) (Reads.below h b hB) (by omega)
        rw [← HLa.out] at hp0 hp1 hp2
        go_wp2_with (first | (go_at_call 75; refine (l22Broken_any _ _).mono ?_; rintro e w' ⟨rfl, rfl⟩) | (go_at_call 82; refine (in_any _ _ _ _).mono ?_; rintro e w' ⟨rfl, rfl⟩) | (go_at_call 87; refine (l00Min_any _ _ _).mono ?_; rintro e w' ⟨rfl, rfl⟩) | (go_at_call 76; refine (l22Limit_any (Reads.below h b hB) (Nat.le_trans hB b.size) Hv.out (by omega) (by omega) hn).mono ?_; rintro e w' ⟨rfl, d, rfl⟩))
        all_goals
          go_ret2
          refine ⟨ret2 (int_eq (?_ : (_ : Int) = _)) (int_eq (?_ : (_ : Int) = _)), below_drewN b _⟩
          · rw [Hr.out]; show (_ : Int) = nextR l limit often; unfold nextR; split <;> omega
          · rw [Hr.out]
theorem implNextTest_any {A : Option Addr} {n c B : Nat} {l : List TestR} {limit often : Int} {w : World} (h : Reads w B 3 A n (l.flatMap TestR.cells)) (hB : B ≤ w.heap.size) (hc : n ≤ c) (hn : n ≤ 1048576) :
    Calls Try.prog 50 #[.slice A n c, .int .i64 limit, .int .i64 often] w fun e w' => e = .returned (.tuple #[.int .i64 (rNextTest l limit often).1, .int .i64 (rNextTest l limit often).2]) ∧ Below w.heap.size w w' := by
  have HL := Lib.hid (TestR.count h)
  cases hv : validTestsB l with
  | false =>
    have Hr : Hid (rNextTest l limit often = (0, 1)) := Lib.hid (by rw [rNextTest, hv]; rfl)
    go_enter Try.func50, Try.ntmps50
    go_wp2_with (go_at_call 23; refine (validTests_any h hB (by omega)).mono ?_; rintro e w' ⟨rfl, b⟩)
    go_ret2
    exact ⟨by rw [Hr.out]; rfl, b⟩
  | true =>
    have Hv := Lib.hid hv
    cases hi : inB limit 0 24000 && inB often 1 1000 with
    | false =>
      have Hr : Hid (rNextTest l limit often = (0, 2)) := Lib.hid (by rw [rNextTest, hv, hi]; rfl)
      cases h1 : inB limit 0 24000 <;> cases h2 : inB often 1 1000 <;> first | (rw [h1, h2] at hi; cases hi; done) | skip
      all_goals
        clear hi
        go_enter Try.func50, Try.ntmps50
        go_wp2_with (first | (go_at_call 23; refine (validTests_any h hB (by omega)).mono ?_; rintro e w' ⟨rfl, b⟩) | (go_at_call 58; refine (within_any _ _ _ _).mono ?_; rintro e w' ⟨rfl, rfl⟩))
        go_ret2
        exact ⟨by rw [Hr.out]; rfl, b⟩
    | true =>
      have h1 : inB limit 0 24000 = true := by simp only [Bool.and_eq_true] at hi; exact hi.1
      have h2 : inB often 1 1000 = true := by simp only [Bool.and_eq_true] at hi; exact hi.2
      have hib := inB_true.1 h1
      have hib2 := inB_true.1 h2
      by_cases hn0 : n = 0
      · have Hr : Hid (rNextTest l limit often = (0, 3)) := Lib.hid (by have := HL.out; rw [rNextTest, hv, hi, if_pos rfl, if_pos rfl, if_pos (by omega)])
        subst hn0
        clear hi
        go_enter Try.func50, Try.ntmps50
        go_wp2_with (first | (go_at_call 23; refine (validTests_any h hB (by omega)).mono ?_; rintro e w' ⟨rfl, b⟩) | (go_at_call 58; refine (within_any _ _ _ _).mono ?_; rintro e w' ⟨rfl, rfl⟩))
        go_ret2
        exact ⟨by rw [Hr.out]; rfl, b⟩
      · have Hr : Hid (rNextTest l limit often = (nextR l limit often, 0)) := Lib.hid (by have := HL.out; rw [rNextTest, hv, hi, if_pos rfl, if_pos rfl, if_neg (by omega)])
        have hlb := lim_bd l limit hv (by have := HL.out; omega)
        have hlast : 0 ≤ (lastR l).Day ∧ (lastR l).Day ≤ 36524 := by
          have ht : testsB l = true := by simp only [validTestsB, Bool.and_eq_true] at hv; exact hv.1
          have a := testB_true.1 (tests_step ht (k := l.length - 1) (by have := HL.out; omega)).1
          rw [← lastR] at a; exact a.1
        have HLa : Hid (lastR l = TestR.at_ l (n - 1)) := Lib.hid (by rw [lastR, HL.out])
        have hnz : ((n : Int) == 0) = false := by simp; omega
        have hk1 : (0 : Int) ≤ (n : Int) - 1 := by omega
        have hk2 : (n : Int) - 1 < n := by omega
        have hk4 : 0 < n := by omega
        clear hi hn0
        go_enter Try.func50, Try.ntmps50
        go_wp2_with fail
        refine (validTests_any h hB (by omega)).mono ?_
        rintro e w1 ⟨rfl, b⟩
        obtain ⟨ad, rfl, hbl, hp0, hp1, hp2⟩ := TestR.rd (k := n - 1) (Reads.below h b hB) (by omega)
        rw [← HLa.out] at hp0 hp1 hp2
        have Hd := Lib.hid (day_of Hv.out h1)
        have HR := Lib.hid (Reads.below h b hB)
        by_cases hlim : limR l limit < 0
        · go_wp2_with (go_at_call 58; refine (within_any _ _ _ _).mono ?_; rintro e w' ⟨rfl, rfl⟩)
          all_goals
            refine (implDayOfLimit_any HR.out (Nat.le_trans hB b.size) hc hn).mono ?_
            rw [Hd.out, if_pos (by omega)]
            rintro e w2 ⟨rfl, b2⟩
            go_wp2_with fail
          all_goals
            go_ret2
            refine ⟨ret2 (int_eq (?_ : (_ : Int) = _)) (int_eq (?_ : (_ : Int) = _)), b.trans (b2.mono b.size)⟩
            · rw [Hr.out]; show (_ : Int) = nextR l limit often; unfold nextR; split <;> omega
            · rw [Hr.out]
        · go_wp2_with (go_at_call 58; refine (within_any _ _ _ _).mono ?_; rintro e w' ⟨rfl, rfl⟩)
          all_goals
            refine (implDayOfLimit_any HR.out (Nat.le_trans hB b.size) hc hn).mono ?_
            rw [Hd.out, if_neg (by omega)]
            rintro e w2 ⟨rfl, b2⟩
            go_wp2_with fail
          all_goals
            go_ret2
            refine ⟨ret2 (int_eq (?_ : (_ : Int) = _)) (int_eq (?_ : (_ : Int) = _)), b.trans (b2.mono b.size)⟩
            · rw [Hr.out]; show (_ : Int) = nextR l limit often; unfold nextR; split <;> omega
            · rw [Hr.out]
end Go.Proofs.Ytdjoechokkbjeaa
