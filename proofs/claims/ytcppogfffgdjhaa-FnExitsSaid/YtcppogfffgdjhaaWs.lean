/- Evacuation: the least time of a way between two places. -/
import Derived.Test.YtcppogfffgdjhaaWa
namespace Go.Proofs.Ytcppogfffgdjhaa
open Go.RowKit
set_option maxRecDepth 100000
set_option linter.unusedVariables false

/-- Way x leads from a to b, and may be taken. -/
def edgeB (x : WalkR) (a b : Int) (lad : Bool) : Bool := x.From == a && (x.To == b && (lad || !x.Ladder))
/-- The least time over the first k ways, -1 for none. -/
def secTo (l : List WalkR) (a b : Int) (lad : Bool) : Nat → Int
  | 0 => -1
  | k + 1 => if edgeB (WalkR.at_ l k) a b lad && (decide (secTo l a b lad k < 0) || decide ((WalkR.at_ l k).Seconds < secTo l a b lad k)) then (WalkR.at_ l k).Seconds else secTo l a b lad k
theorem secTo_succ (l : List WalkR) (a b : Int) (lad : Bool) (k : Nat) : secTo l a b lad (k + 1) = if edgeB (WalkR.at_ l k) a b lad && (decide (secTo l a b lad k < 0) || decide ((WalkR.at_ l k).Seconds < secTo l a b lad k)) then (WalkR.at_ l k).Seconds else secTo l a b lad k := rfl

theorem seconds_any {A : Option Addr} {n c B : Nat} {l : List WalkR} {a b : Int} {lad : Bool} {w : World} (h : Reads w B 4 A n (l.flatMap WalkR.cells)) (hB : B ≤ w.heap.size) (hn : n ≤ 1048576) :
    Calls Try.prog 37 #[.slice A n c, .int .i64 a, .int .i64 b, .bool lad] w fun e w' => e = .returned (.int .i64 (secTo l a b lad n)) ∧ Below w.heap.size w w' := by
  go_enter Try.func37, Try.ntmps37
  go_wp2_with fail
  go_loopg [9, 14] n (fun gk s i wr => ∃ k : Nat, k ≤ n ∧ gk + k = n ∧ i = .int .i64 k ∧ s = .int .i64 (secTo l a b lad k) ∧ Below w.heap.size w wr)
  case atStart => exact ⟨0, Nat.zero_le _, rfl, rfl, rfl, Below.refl _ _⟩
  case round =>
    obtain ⟨k, hk, hgk, rfl, rfl, hb⟩ := hrel
    have Hgk := Lib.hid hgk
    clear hgk
    by_cases hlt : k < n
    · obtain ⟨ad, rfl, hbl, hc0, hc1, hc2, hc3⟩ := WalkR.rd (Reads.below h hb hB) hlt
      have Hsec := Lib.hid (secTo_succ l a b lad k)
      cases b1 : ((WalkR.at_ l k).From == a) with
      | false =>
        have Hs : Hid (secTo l a b lad (k + 1) = secTo l a b lad k) := Lib.hid (by rw [Hsec.out, edgeB, b1]; simp [])
        go_wp2_with fail
        have hgk := Hgk.out
        go_roundg (gk - 1)
        case rel => exact ⟨k + 1, by omega, by omega, by go_num, by rw [Hs.out], hb.alloc hb.size _⟩
        case measure => omega
      | true =>
      cases b2 : ((WalkR.at_ l k).To == b) with
      | false =>
        have Hs : Hid (secTo l a b lad (k + 1) = secTo l a b lad k) := Lib.hid (by rw [Hsec.out, edgeB, b1, b2]; simp [])
        go_wp2_with fail
        have hgk := Hgk.out
        go_roundg (gk - 1)
        case rel => exact ⟨k + 1, by omega, by omega, by go_num, by rw [Hs.out], hb.alloc hb.size _⟩
        case measure => omega
      | true =>
      cases lad with
      | true =>
        by_cases c1 : secTo l a b true k < 0
        · have d1 : decide (secTo l a b true k < 0) = true := by simp; omega
          have Hs : Hid (secTo l a b true (k + 1) = (WalkR.at_ l k).Seconds) := Lib.hid (by rw [Hsec.out, edgeB, b1, b2]; simp [d1])
          go_wp2_with fail
          have hgk := Hgk.out
          go_roundg (gk - 1)
          case rel => exact ⟨k + 1, by omega, by omega, by go_num, by rw [Hs.out], hb.alloc hb.size _⟩
          case measure => omega
        · have d1 : decide (secTo l a b true k < 0) = false := by simp; omega
          by_cases c2 : (WalkR.at_ l k).Seconds < secTo l a b true k
          · have d2 : decide ((WalkR.at_ l k).Seconds < secTo l a b true k) = true := by simp; omega
            have Hs : Hid (secTo l a b true (k + 1) = (WalkR.at_ l k).Seconds) := Lib.hid (by rw [Hsec.out, edgeB, b1, b2]; simp [d1, d2])
            go_wp2_with fail
            have hgk := Hgk.out
            go_roundg (gk - 1)
            case rel => exact ⟨k + 1, by omega, by omega, by go_num, by rw [Hs.out], hb.alloc hb.size _⟩
            case measure => omega
          · have d2 : decide ((WalkR.at_ l k).Seconds < secTo l a b true k) = false := by simp; omega
            have Hs : Hid (secTo l a b true (k + 1) = secTo l a b true k) := Lib.hid (by rw [Hsec.out, edgeB, b1, b2]; simp [d1, d2])
            go_wp2_with fail
            have hgk := Hgk.out
            go_roundg (gk - 1)
            case rel => exact ⟨k + 1, by omega, by omega, by go_num, by rw [Hs.out], hb.alloc hb.size _⟩
            case measure => omega
      | false =>
      cases b3 : (WalkR.at_ l k).Ladder with
      | true =>
        have Hs : Hid (secTo l a b false (k + 1) = secTo l a b false k) := Lib.hid (by rw [Hsec.out, edgeB, b1, b2, b3]; simp [])
        go_wp2_with fail
        have hgk := Hgk.out
        go_roundg (gk - 1)
        case rel => exact ⟨k + 1, by omega, by omega, by go_num, by rw [Hs.out], hb.alloc hb.size _⟩
        case measure => omega
      | false =>
        by_cases c1 : secTo l a b false k < 0
        · have d1 : decide (secTo l a b false k < 0) = true := by simp; omega
          have Hs : Hid (secTo l a b false (k + 1) = (WalkR.at_ l k).Seconds) := Lib.hid (by rw [Hsec.out, edgeB, b1, b2, b3]; simp [d1])
          go_wp2_with fail
          have hgk := Hgk.out
          go_roundg (gk - 1)
          case rel => exact ⟨k + 1, by omega, by omega, by go_num, by rw [Hs.out], hb.alloc hb.size _⟩
          case measure => omega
        · have d1 : decide (secTo l a b false k < 0) = false := by simp; omega
          by_cases c2 : (WalkR.at_ l k).Seconds < secTo l a b false k
          · have d2 : decide ((WalkR.at_ l k).Seconds < secTo l a b false k) = true := by simp; omega
            have Hs : Hid (secTo l a b false (k + 1) = (WalkR.at_ l k).Seconds) := Lib.hid (by rw [Hsec.out, edgeB, b1, b2, b3]; simp [d1, d2])
            go_wp2_with fail
            have hgk := Hgk.out
            go_roundg (gk - 1)
            case rel => exact ⟨k + 1, by omega, by omega, by go_num, by rw [Hs.out], hb.alloc hb.size _⟩
            case measure => omega
          · have d2 : decide ((WalkR.at_ l k).Seconds < secTo l a b false k) = false := by simp; omega
            have Hs : Hid (secTo l a b false (k + 1) = secTo l a b false k) := Lib.hid (by rw [Hsec.out, edgeB, b1, b2, b3]; simp [d1, d2])
            go_wp2_with fail
            have hgk := Hgk.out
            go_roundg (gk - 1)
            case rel => exact ⟨k + 1, by omega, by omega, by go_num, by rw [Hs.out], hb.alloc hb.size _⟩
            case measure => omega
    · have Hke := Lib.hid (show k = n by omega)
      go_wp2_with fail
      go_ret
      exact ⟨ret_int (by rw [Hke.out]), hb⟩
end Go.Proofs.Ytcppogfffgdjhaa
