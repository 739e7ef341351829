/- Evacuation: contracts of what asks whether ways are valid. -/
import Derived.Test.YtcppogfffgdjhaaGWalk
namespace Go.Proofs.Ytcppogfffgdjhaa
open Go.RowKit
set_option maxRecDepth 100000
set_option linter.unusedVariables false

/-- p - 1, as int64 has it. -/
def top (p : Int) : Int := wrap64 (p - 1)
def walkB (p : Int) (x : WalkR) : Bool := inB x.From 0 (top p) && (inB x.To 0 (top p) && (!(x.From == x.To) && inB x.Seconds 1 3600))
def walksB (p : Int) (l : List WalkR) : Bool := allTo (fun k => walkB p (WalkR.at_ l k)) l.length && (inB p 1 16 && decide (l.length ≤ 40))
theorem top_eq {p : Int} (h : inB p 1 16 = true) : top p = p - 1 := by
  have := inB_true.1 h
  unfold top wrap64; omega

theorem isSpotOf_any (p n : Int) (w : World) :
    Calls Try.prog 23 #[.int .i64 p, .int .i64 n] w fun e w' => e = .returned (.bool (inB n 0 (top p))) ∧ w = w' := by
  go_enter Try.func23, Try.ntmps23
  go_wp2_with (go_at_call 33; refine (within_any _ _ _ _).mono ?_; rintro e w' ⟨rfl, rfl⟩)
  go_ret
  exact ⟨rfl, rfl⟩

theorem l23Ok_any {A : Option Addr} {n c B : Nat} {p : Int} {l : List WalkR} {w : World} (h : Reads w B 4 A n (l.flatMap WalkR.cells)) (hB : B ≤ w.heap.size) (hn : n ≤ 1048576) :
    Calls Try.prog 43 #[.int .i64 p, .slice A n c] w fun e w' => e = .returned (.bool (walksB p l)) ∧ Below w.heap.size w w' := by
  have HL := Lib.hid (WalkR.count h)
  go_enter Try.func43, Try.ntmps43
  go_wp2_with fail
  go_loopg [5] n (fun gk i wr => ∃ k : Nat, k ≤ n ∧ gk + k = n ∧ i = .int .i64 k ∧ Below w.heap.size w wr ∧ allTo (fun k => walkB p (WalkR.at_ l k)) k = true)
  case atStart => exact ⟨0, Nat.zero_le _, rfl, rfl, Below.refl _ _, rfl⟩
  case round =>
    obtain ⟨k, hk, hgk, rfl, hb, hall⟩ := hrel
    have Hgk := Lib.hid hgk
    have Hall := Lib.hid hall
    clear hgk hall
    by_cases hlt : k < n
    · obtain ⟨ad, rfl, hbl, hc0, hc1, hc2, hc3⟩ := WalkR.rd (Reads.below h hb hB) hlt
      have Hw : Hid (walkB p (WalkR.at_ l k) = (inB (WalkR.at_ l k).From 0 (wrap64 (p - 1)) && (inB (WalkR.at_ l k).To 0 (wrap64 (p - 1)) && (!((WalkR.at_ l k).From == (WalkR.at_ l k).To) && inB (WalkR.at_ l k).Seconds 1 3600)))) := Lib.hid rfl
      cases b1 : inB (WalkR.at_ l k).From 0 (wrap64 (p - 1)) with
      | false =>
        have Hs : Hid (walkB p (WalkR.at_ l k) = false) := Lib.hid (by rw [Hw.out, b1]; rfl)
        go_wp2_with (go_at_call 44; refine (in_any _ _ _ _).mono ?_; rintro e w' ⟨rfl, rfl⟩)
        go_ret
        exact ⟨ret_bool (by rw [walksB, allTo_false (k := k) (by rw [HL.out]; omega) Hs.out]; rfl), hb.alloc hb.size _⟩
      | true =>
      cases b2 : inB (WalkR.at_ l k).To 0 (wrap64 (p - 1)) with
      | false =>
        have Hs : Hid (walkB p (WalkR.at_ l k) = false) := Lib.hid (by rw [Hw.out, b1, b2]; rfl)
        go_wp2_with (go_at_call 44; refine (in_any _ _ _ _).mono ?_; rintro e w' ⟨rfl, rfl⟩)
        go_ret
        exact ⟨ret_bool (by rw [walksB, allTo_false (k := k) (by rw [HL.out]; omega) Hs.out]; rfl), hb.alloc hb.size _⟩
      | true =>
      cases b3 : ((WalkR.at_ l k).From == (WalkR.at_ l k).To) with
      | true =>
        have Hs : Hid (walkB p (WalkR.at_ l k) = false) := Lib.hid (by rw [Hw.out, b1, b2, b3]; rfl)
        go_wp2_with (go_at_call 44; refine (in_any _ _ _ _).mono ?_; rintro e w' ⟨rfl, rfl⟩)
        go_ret
        exact ⟨ret_bool (by rw [walksB, allTo_false (k := k) (by rw [HL.out]; omega) Hs.out]; rfl), hb.alloc hb.size _⟩
      | false =>
      cases b4 : inB (WalkR.at_ l k).Seconds 1 3600 with
      | false =>
        have Hs : Hid (walkB p (WalkR.at_ l k) = false) := Lib.hid (by rw [Hw.out, b1, b2, b3, b4]; rfl)
        go_wp2_with (go_at_call 44; refine (in_any _ _ _ _).mono ?_; rintro e w' ⟨rfl, rfl⟩)
        go_ret
        exact ⟨ret_bool (by rw [walksB, allTo_false (k := k) (by rw [HL.out]; omega) Hs.out]; rfl), hb.alloc hb.size _⟩
      | true =>
        have Hs : Hid (walkB p (WalkR.at_ l k) = true) := Lib.hid (by rw [Hw.out, b1, b2, b3, b4]; rfl)
        go_wp2_with (go_at_call 44; refine (in_any _ _ _ _).mono ?_; rintro e w' ⟨rfl, rfl⟩)
        have hgk := Hgk.out
        go_roundg (gk - 1)
        case rel => exact ⟨k + 1, by omega, by omega, by go_num, hb.alloc hb.size _, by rw [allTo_succ, Hall.out, Hs.out]; rfl⟩
        case measure => omega
    · have Hs : Hid (walksB p l = (inB p 1 16 && decide (n ≤ 40))) := by
        have := Hall.out
        rw [show k = n by omega] at this
        exact Lib.hid (by rw [walksB, HL.out, this]; rfl)
      cases b1 : inB p 1 16 with
      | false =>
        go_wp2_with (go_at_call 44; refine (in_any _ _ _ _).mono ?_; rintro e w' ⟨rfl, rfl⟩)
        go_ret
        exact ⟨ret_bool (by rw [Hs.out, b1]; rfl), hb⟩
      | true =>
        go_wp2_with (go_at_call 44; refine (in_any _ _ _ _).mono ?_; rintro e w' ⟨rfl, rfl⟩)
        go_ret
        exact ⟨ret_bool (by rw [Hs.out, b1]; simp; omega), hb⟩
theorem validWalks_any {A : Option Addr} {n c B : Nat} {p : Int} {l : List WalkR} {w : World} (h : Reads w B 4 A n (l.flatMap WalkR.cells)) (hB : B ≤ w.heap.size) (hn : n ≤ 1048576) :
    Calls Try.prog 18 #[.int .i64 p, .slice A n c] w fun e w' => e = .returned (.bool (walksB p l)) ∧ Below w.heap.size w w' := by
  have HL := Lib.hid (WalkR.count h)
  go_enter Try.func18, Try.ntmps18
  go_wp2_with fail
  go_loopg [9] n (fun gk i wr => ∃ k : Nat, k ≤ n ∧ gk + k = n ∧ i = .int .i64 k ∧ Below w.heap.size w wr ∧ allTo (fun k => walkB p (WalkR.at_ l k)) k = true)
  case atStart => exact ⟨0, Nat.zero_le _, rfl, rfl, Below.refl _ _, rfl⟩
  case round =>
    obtain ⟨k, hk, hgk, rfl, hb, hall⟩ := hrel
    have Hgk := Lib.hid hgk
    have Hall := Lib.hid hall
    clear hgk hall
    by_cases hlt : k < n
    · obtain ⟨ad, rfl, hbl, hc0, hc1, hc2, hc3⟩ := WalkR.rd (Reads.below h hb hB) hlt
      have Hw : Hid (walkB p (WalkR.at_ l k) = (inB (WalkR.at_ l k).From 0 (wrap64 (p - 1)) && (inB (WalkR.at_ l k).To 0 (wrap64 (p - 1)) && (!((WalkR.at_ l k).From == (WalkR.at_ l k).To) && inB (WalkR.at_ l k).Seconds 1 3600)))) := Lib.hid rfl
      cases b1 : inB (WalkR.at_ l k).From 0 (wrap64 (p - 1)) with
      | false =>
        have Hs : Hid (walkB p (WalkR.at_ l k) = false) := Lib.hid (by rw [Hw.out, b1]; rfl)
        go_wp2_with (first | (go_at_call 23; refine (isSpotOf_any _ _ _).mono ?_; unfold top; rintro e w' ⟨rfl, rfl⟩) | (go_at_call 33; refine (within_any _ _ _ _).mono ?_; rintro e w' ⟨rfl, rfl⟩))
        go_ret
        exact ⟨ret_bool (by rw [walksB, allTo_false (k := k) (by rw [HL.out]; omega) Hs.out]; rfl), hb.alloc hb.size _⟩
      | true =>
      cases b2 : inB (WalkR.at_ l k).To 0 (wrap64 (p - 1)) with
      | false =>
        have Hs : Hid (walkB p (WalkR.at_ l k) = false) := Lib.hid (by rw [Hw.out, b1, b2]; rfl)
        go_wp2_with (first | (go_at_call 23; refine (isSpotOf_any _ _ _).mono ?_; unfold top; rintro e w' ⟨rfl, rfl⟩) | (go_at_call 33; refine (within_any _ _ _ _).mono ?_; rintro e w' ⟨rfl, rfl⟩))
        go_ret
        exact ⟨ret_bool (by rw [walksB, allTo_false (k := k) (by rw [HL.out]; omega) Hs.out]; rfl), hb.alloc hb.size _⟩
      | true =>
      cases b3 : ((WalkR.at_ l k).From == (WalkR.at_ l k).To) with
      | true =>
        have Hs : Hid (walkB p (WalkR.at_ l k) = false) := Lib.hid (by rw [Hw.out, b1, b2, b3]; rfl)
        go_wp2_with (first | (go_at_call 23; refine (isSpotOf_any _ _ _).mono ?_; unfold top; rintro e w' ⟨rfl, rfl⟩) | (go_at_call 33; refine (within_any _ _ _ _).mono ?_; rintro e w' ⟨rfl, rfl⟩))
        go_ret
        exact ⟨ret_bool (by rw [walksB, allTo_false (k := k) (by rw [HL.out]; omega) Hs.out]; rfl), hb.alloc hb.size _⟩
      | false =>
      cases b4 : inB (WalkR.at_ l k).Seconds 1 3600 with
      | false =>
        have Hs : Hid (walkB p (WalkR.at_ l k) = false) := Lib.hid (by rw [Hw.out, b1, b2, b3, b4]; rfl)
        go_wp2_with (first | (go_at_call 23; refine (isSpotOf_any _ _ _).mono ?_; unfold top; rintro e w' ⟨rfl, rfl⟩) | (go_at_call 33; refine (within_any _ _ _ _).mono ?_; rintro e w' ⟨rfl, rfl⟩))
        go_ret
        exact ⟨ret_bool (by rw [walksB, allTo_false (k := k) (by rw [HL.out]; omega) Hs.out]; rfl), hb.alloc hb.size _⟩
      | true =>
        have Hs : Hid (walkB p (WalkR.at_ l k) = true) := Lib.hid (by rw [Hw.out, b1, b2, b3, b4]; rfl)
        go_wp2_with (first | (go_at_call 23; refine (isSpotOf_any _ _ _).mono ?_; unfold top; rintro e w' ⟨rfl, rfl⟩) | (go_at_call 33; refine (within_any _ _ _ _).mono ?_; rintro e w' ⟨rfl, rfl⟩))
        have hgk := Hgk.out
        go_roundg (gk - 1)
        case rel => exact ⟨k + 1, by omega, by omega, by go_num, hb.alloc hb.size _, by rw [allTo_succ, Hall.out, Hs.out]; rfl⟩
        case measure => omega
    · have Hs : Hid (walksB p l = (inB p 1 16 && decide (n ≤ 40))) := by
        have := Hall.out
        rw [show k = n by omega] at this
        exact Lib.hid (by rw [walksB, HL.out, this]; rfl)
      cases b1 : inB p 1 16 with
      | false =>
        go_wp2_with (go_at_call 33; refine (within_any _ _ _ _).mono ?_; rintro e w' ⟨rfl, rfl⟩)
        go_ret
        exact ⟨ret_bool (by rw [Hs.out, b1]; rfl), hb⟩
      | true =>
        go_wp2_with (go_at_call 33; refine (within_any _ _ _ _).mono ?_; rintro e w' ⟨rfl, rfl⟩)
        go_ret
        exact ⟨ret_bool (by rw [Hs.out, b1]; simp; omega), hb⟩

theorem implValidWalks_any {A : Option Addr} {n c B : Nat} {p : Int} {l : List WalkR} {w : World} (h : Reads w B 4 A n (l.flatMap WalkR.cells)) (hB : B ≤ w.heap.size) (hc : n ≤ c) (hn : n ≤ 1048576) :
    Calls Try.prog 18 #[.int .i64 p, .slice A n c] w fun e w' => e = .returned (.bool (walksB p l)) ∧ Below w.heap.size w w' := validWalks_any h hB hn
def askW (p : Int) (l : List WalkR) (fine ordered : Bool) : Int := if walksB p l then (if fine then (if ordered then 0 else 7) else 2) else 1
theorem walked_any {A : Option Addr} {n c B : Nat} {p : Int} {l : List WalkR} {f1 f2 : Bool} {w : World} (h : Reads w B 4 A n (l.flatMap WalkR.cells)) (hB : B ≤ w.heap.size) (hn : n ≤ 1048576) :
    Calls Try.prog 22 #[.int .i64 p, .slice A n c, .bool f1, .bool f2] w fun e w' => e = .returned (.int .i64 (askW p l f1 f2)) ∧ Below w.heap.size w w' := by
  have Ha : Hid (askW p l f1 f2 = if walksB p l then (if f1 then (if f2 then 0 else 7) else 2) else 1) := Lib.hid rfl
  cases v1 : walksB p l <;> cases f1 <;> cases f2 <;>
    (go_enter Try.func22, Try.ntmps22
     go_wp2_with (go_at_call 18; refine (validWalks_any h hB hn).mono ?_; rintro e w' ⟨rfl, b⟩)
     go_ret
     exact ⟨ret_int (by rw [Ha.out, v1]; rfl), b⟩)
theorem l23Ask_any {A : Option Addr} {n c B : Nat} {p m : Int} {l : List WalkR} {w : World} (h : Reads w B 4 A n (l.flatMap WalkR.cells)) (hB : B ≤ w.heap.size) (hn : n ≤ 1048576) :
    Calls Try.prog 34 #[.int .i64 p, .slice A n c, .int .i64 m] w fun e w' => e = .returned (.int .i64 (askW p l (inB m 0 (top p)) true)) ∧ Below w.heap.size w w' := by
  have Ha : Hid (askW p l (inB m 0 (top p)) true = if walksB p l then (if inB m 0 (wrap64 (p - 1)) then 0 else 2) else 1) := Lib.hid rfl
  cases v1 : walksB p l <;> cases v2 : inB m 0 (wrap64 (p - 1)) <;>
    (go_enter Try.func34, Try.ntmps34
     go_wp2_with (first | (go_at_call 43; refine (l23Ok_any h hB hn).mono ?_; rintro e w' ⟨rfl, b⟩) | (go_at_call 44; refine (in_any _ _ _ _).mono ?_; rintro e w' ⟨rfl, rfl⟩))
     go_ret
     exact ⟨ret_int (by rw [Ha.out, v1]; first | rfl | (rw [v2]; rfl)), b⟩)
end Go.Proofs.Ytcppogfffgdjhaa
