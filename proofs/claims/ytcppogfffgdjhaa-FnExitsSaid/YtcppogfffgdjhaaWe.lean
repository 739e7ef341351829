/- Evacuation: exits that rise. -/
import Derived.Test.YtcppogfffgdjhaaWx
namespace Go.Proofs.Ytcppogfffgdjhaa
open Go.RowKit
set_option maxRecDepth 100000
set_option linter.unusedVariables false
set_option linter.unusedSimpArgs false

def riseB (lo hi : Int) (ys : List Int) (k : Nat) : Bool := inB (nth ys k) lo hi && (decide (k = 0) || decide (nth ys (k - 1) < nth ys k))
/-- Numbers within bounds, each above the one before. -/
def risesB (lo hi : Int) (ys : List Int) : Bool := allTo (riseB lo hi ys) ys.length
theorem riseB_eq (lo hi : Int) (ys : List Int) (k : Nat) : riseB lo hi ys k = (inB (nth ys k) lo hi && (decide (k = 0) || decide (nth ys (k - 1) < nth ys k))) := rfl

theorem l00Rises_any {A : Option Addr} {n c B : Nat} {ys : List Int} {lo hi : Int} {w : World} (h : Ints w B A n ys) (hn : n ≤ 1048576) :
    Calls Try.prog 45 #[.slice A n c, .int .i64 lo, .int .i64 hi] w fun e w' => e = .returned (.bool (risesB lo hi ys)) ∧ ∃ d, w' = w.drewN d := by
  have HL := Lib.hid h.len
  go_enter Try.func45, Try.ntmps45
  go_wp2_with fail
  go_loopg [7] n (fun gk i wr => ∃ k : Nat, k ≤ n ∧ gk + k = n ∧ i = .int .i64 k ∧ (∃ d, wr = w.drewN d) ∧ allTo (riseB lo hi ys) k = true)
  case atStart => exact ⟨0, Nat.zero_le _, rfl, rfl, ⟨0, rfl⟩, rfl⟩
  case round =>
    obtain ⟨k, hk, hgk, rfl, ⟨d, rfl⟩, hall⟩ := hrel
    have Hgk := Lib.hid hgk
    have Hall := Lib.hid hall
    clear hgk hall
    by_cases hlt : k < n
    · obtain ⟨ad, rfl, hbl, hc⟩ := h.at_ hlt
      have Hrise := Lib.hid (riseB_eq lo hi ys k)
      have hk0 : (0 : Int) ≤ (k : Int) := by omega
      have hkn : (k : Int) < (n : Int) := by omega
      cases b1 : inB (nth ys k) lo hi with
      | false =>
        have Hs : Hid (riseB lo hi ys k = false) := Lib.hid (by rw [Hrise.out, b1]; rfl)
        go_wp2_with fail
        go_quiet ((go_at_call 44; exact quiet_add_left (in_any _ _ _ _)))
        go_wp2_with fail
        go_ret
        exact ⟨ret_bool (by rw [risesB, allTo_false (k := k) (by rw [HL.out]; omega) Hs.out]), by first | exact ⟨_, rfl⟩ | (simp only [World.drewN_drewN]; exact ⟨_, rfl⟩) | (rw [World.drewN_drewN]; exact ⟨_, rfl⟩)⟩
      | true =>
      by_cases hz : k = 0
      · have d1 : decide (0 < k) = false := by simp; omega
        have Hs : Hid (riseB lo hi ys k = true) := Lib.hid (by rw [Hrise.out, b1, decide_eq_true hz]; rfl)
        clear hz
        go_wp2_with fail
        go_quiet ((go_at_call 44; exact quiet_add_left (in_any _ _ _ _)))
        go_wp2_with fail
        have hgk := Hgk.out
        go_roundg (gk - 1)
        case rel => exact ⟨k + 1, by omega, by omega, by go_num, by first | exact ⟨_, rfl⟩ | (simp only [World.drewN_drewN]; exact ⟨_, rfl⟩) | (rw [World.drewN_drewN]; exact ⟨_, rfl⟩), by rw [allTo_succ, Hall.out, Hs.out]; rfl⟩
        case measure => omega
      · obtain ⟨ad', e', _, hc'⟩ := h.at_ (k := k - 1) (by omega)
        injection e' with e'
        subst e'
        have d1 : decide (0 < k) = true := by simp; omega
        have hk1 : (0 : Int) ≤ (k : Int) - 1 := by omega
        have hk2 : (k : Int) - 1 < (n : Int) := by omega
        have hk3 : (1 : Int) ≤ (k : Int) := by omega
        have ht1 : Hid (((k : Int) - 1).toNat = k - 1) := Lib.hid (by omega)
        have Hz := Lib.hid hz
        clear hz
        by_cases c1 : nth ys k ≤ nth ys (k - 1)
        · have d2 : decide (nth ys k ≤ nth ys (k - 1)) = true := by simp; omega
          have Hs : Hid (riseB lo hi ys k = false) := Lib.hid (by rw [Hrise.out, b1, decide_eq_false Hz.out, decide_eq_false (by omega)]; rfl)
          go_wp2_with fail
          go_quiet ((go_at_call 44; exact quiet_add_left (in_any _ _ _ _)))
          go_wp2_with fail
          go_ret
          exact ⟨ret_bool (by rw [risesB, allTo_false (k := k) (by rw [HL.out]; omega) Hs.out]), by first | exact ⟨_, rfl⟩ | (simp only [World.drewN_drewN]; exact ⟨_, rfl⟩) | (rw [World.drewN_drewN]; exact ⟨_, rfl⟩)⟩
        · have d2 : decide (nth ys k ≤ nth ys (k - 1)) = false := by simp; omega
          have Hs : Hid (riseB lo hi ys k = true) := Lib.hid (by rw [Hrise.out, b1, decide_eq_true (show nth ys (k - 1) < nth ys k by omega)]; simp)
          go_wp2_with fail
          go_quiet ((go_at_call 44; exact quiet_add_left (in_any _ _ _ _)))
          go_wp2_with fail
          have hgk := Hgk.out
          go_roundg (gk - 1)
          case rel => exact ⟨k + 1, by omega, by omega, by go_num, by first | exact ⟨_, rfl⟩ | (simp only [World.drewN_drewN]; exact ⟨_, rfl⟩) | (rw [World.drewN_drewN]; exact ⟨_, rfl⟩), by rw [allTo_succ, Hall.out, Hs.out]; rfl⟩
          case measure => omega
    · have Hs : Hid (risesB lo hi ys = true) := by
        have := Hall.out
        rw [show k = n by omega] at this
        exact Lib.hid (by rw [risesB, HL.out]; exact this)
      go_wp2_with fail
      go_ret
      exact ⟨ret_bool (by rw [Hs.out]), d, rfl⟩

theorem areExits_any {A : Option Addr} {n c B : Nat} {p : Int} {ys : List Int} {w : World} (h : Ints w B A n ys) (hn : n ≤ 1048576) :
    Calls Try.prog 24 #[.int .i64 p, .slice A n c] w fun e w' => e = .returned (.bool (risesB 0 (top p) ys)) ∧ w = w' := by
  have HL := Lib.hid h.len
  go_enter Try.func24, Try.ntmps24
  go_wp2_with fail
  go_loopg [9] n (fun gk i wr => ∃ k : Nat, k ≤ n ∧ gk + k = n ∧ i = .int .i64 k ∧ w = wr ∧ allTo (riseB 0 (top p) ys) k = true)
  case atStart => exact ⟨0, Nat.zero_le _, rfl, rfl, rfl, rfl⟩
  case round =>
    obtain ⟨k, hk, hgk, rfl, rfl, hall⟩ := hrel
    have Hgk := Lib.hid hgk
    have Hall := Lib.hid hall
    clear hgk hall
    by_cases hlt : k < n
    · obtain ⟨ad, rfl, hbl, hc⟩ := h.at_ hlt
      have Hrise := Lib.hid (riseB_eq 0 (top p) ys k)
      cases b1 : inB (nth ys k) 0 (top p) with
      | false =>
        have Hs : Hid (riseB 0 (top p) ys k = false) := Lib.hid (by rw [Hrise.out, b1]; rfl)
        go_wp2_with (go_at_call 23; refine (isSpotOf_any _ _ _).mono ?_; rintro e w' ⟨rfl, rfl⟩)
        go_ret
        exact ⟨ret_bool (by rw [risesB, allTo_false (k := k) (by rw [HL.out]; omega) Hs.out]), rfl⟩
      | true =>
      by_cases hz : k = 0
      · have d1 : decide (0 < k) = false := by simp; omega
        have Hs : Hid (riseB 0 (top p) ys k = true) := Lib.hid (by rw [Hrise.out, b1, decide_eq_true hz]; rfl)
        clear hz
        go_wp2_with (go_at_call 23; refine (isSpotOf_any _ _ _).mono ?_; rintro e w' ⟨rfl, rfl⟩)
        have hgk := Hgk.out
        go_roundg (gk - 1)
        case rel => exact ⟨k + 1, by omega, by omega, by go_num, rfl, by rw [allTo_succ, Hall.out, Hs.out]; rfl⟩
        case measure => omega
      · obtain ⟨ad', e', _, hc'⟩ := h.at_ (k := k - 1) (by omega)
        injection e' with e'
        subst e'
        have d1 : decide (0 < k) = true := by simp; omega
        have hk1 : (0 : Int) ≤ (k : Int) - 1 := by omega
        have hk2 : (k : Int) - 1 < (n : Int) := by omega
        have ht1 : Hid (((k : Int) - 1).toNat = k - 1) := Lib.hid (by omega)
        by_cases c1 : nth ys k ≤ nth ys (k - 1)
        · have Hs : Hid (riseB 0 (top p) ys k = false) := Lib.hid (by rw [Hrise.out, b1, decide_eq_false hz, decide_eq_false (by omega)]; rfl)
          go_wp2_with (go_at_call 23; refine (isSpotOf_any _ _ _).mono ?_; rintro e w' ⟨rfl, rfl⟩)
          go_ret
          exact ⟨ret_bool (by rw [risesB, allTo_false (k := k) (by rw [HL.out]; omega) Hs.out]), rfl⟩
        · have Hs : Hid (riseB 0 (top p) ys k = true) := Lib.hid (by rw [Hrise.out, b1, decide_eq_true (show nth ys (k - 1) < nth ys k by omega)]; simp)
          go_wp2_with (go_at_call 23; refine (isSpotOf_any _ _ _).mono ?_; rintro e w' ⟨rfl, rfl⟩)
          have hgk := Hgk.out
          go_roundg (gk - 1)
          case rel => exact ⟨k + 1, by omega, by omega, by go_num, rfl, by rw [allTo_succ, Hall.out, Hs.out]; rfl⟩
          case measure => omega
    · have Hs : Hid (risesB 0 (top p) ys = true) := by
        have := Hall.out
        rw [show k = n by omega] at this
        exact Lib.hid (by rw [risesB, HL.out]; exact this)
      go_wp2_with fail
      go_ret
      exact ⟨ret_bool (by rw [Hs.out]), rfl⟩
theorem l23Exits_any {A A' : Option Addr} {n c B n' c' B' : Nat} {p : Int} {l : List WalkR} {ys : List Int} {w : World} (h : Reads w B 4 A n (l.flatMap WalkR.cells)) (hB : B ≤ w.heap.size) (hn : n ≤ 1048576)
    (h' : Ints w B' A' n' ys) (hB' : B' ≤ w.heap.size) (hn' : n' ≤ 1048576) :
    Calls Try.prog 36 #[.int .i64 p, .slice A n c, .slice A' n' c'] w fun e w' => e = .returned (.int .i64 (askW p l true (risesB 0 (top p) ys))) ∧ Below w.heap.size w w' := by
  have Ha : Hid (askW p l true (risesB 0 (top p) ys) = if walksB p l then (if risesB 0 (wrap64 (p - 1)) ys then 0 else 7) else 1) := Lib.hid rfl
  cases v1 : walksB p l with
  | false =>
    go_enter Try.func36, Try.ntmps36
    go_wp2_with (go_at_call 43; refine (l23Ok_any h hB hn).mono ?_; rintro e w' ⟨rfl, b⟩)
    go_ret
    exact ⟨ret_int (by rw [Ha.out, v1]; rfl), b⟩
  | true =>
    cases v2 : risesB 0 (wrap64 (p - 1)) ys <;>
      (go_enter Try.func36, Try.ntmps36
       go_wp2_with (first | (go_at_call 43; refine (l23Ok_any h hB hn).mono ?_; rintro e w1 ⟨rfl, b⟩) | (go_at_call 45; refine (l00Rises_any (Reads.below h' b hB') hn').mono ?_; rintro e w' ⟨rfl, d, rfl⟩))
       go_ret
       exact ⟨ret_int (by rw [Ha.out, v1, v2]; rfl), below_drewN b _⟩)
theorem goals_rise {p : Int} {ys : List Int} (hp : 1 ≤ p ∧ p ≤ 16) (h : risesB 0 (top p) ys = true) : goalsB p.toNat ys := by
  have ht : top p = p - 1 := by unfold top wrap64; omega
  intro k hk
  have := allTo_true.1 h k hk
  rw [riseB_eq, Bool.and_eq_true] at this
  have := inB_true.1 this.1
  omega
end Go.Proofs.Ytcppogfffgdjhaa
