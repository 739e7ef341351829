/- Rope tests: DayOfLimit, NextTest: contracts of both sides. -/
import Derived.Test.YtdjoechokkbjeaaRU
namespace Go.Proofs.Ytdjoechokkbjeaa
open Go.RowKit
set_option maxRecDepth 100000
set_option linter.unusedVariables false

def lastR (l : List TestR) : TestR := TestR.at_ l (l.length - 1)
/-- On a day enough wires are broken. -/
def hitR (l : List TestR) (limit d : Int) : Bool := decide (limit ≤ (lastR l).Broken + growR l * (d - (lastR l).Day) / 1000)
def dayTo (l : List TestR) (limit : Int) : Int := firstTo (fun j => hitR l limit ((lastR l).Day + (j : Nat))) (36525 - (lastR l).Day).toNat
def dayR (l : List TestR) (limit : Int) : Int := if dayTo l limit < 0 then -1 else (lastR l).Day + dayTo l limit
theorem grow_bd {l : List TestR} (h : validTestsB l = true) (h2 : 2 ≤ l.length) : 0 ≤ growR l ∧ growR l ≤ 24000001 := by
  obtain ⟨b1, b2, b3, b4, b5, b6⟩ := tests_bd h h2
  have := rdiv_bd (a := 1000 * ((TestR.at_ l (l.length - 1)).Broken - (TestR.at_ l 0).Broken)) (by omega) b1
  unfold growR
  omega
def limR (l : List TestR) (limit : Int) : Int := if l.length < 2 then -1 else dayR l limit
/-- The limit is reached on no day before. -/
def missTo (l : List TestR) (limit : Int) (k : Nat) : Bool := allTo (fun j => !hitR l limit ((lastR l).Day + (j : Nat))) k

theorem dayR_hit {l : List TestR} {limit : Int} {k : Nat} (hk : (lastR l).Day + k ≤ 36524) (hm : missTo l limit k = true) (hh : hitR l limit ((lastR l).Day + k) = true) : dayR l limit = (lastR l).Day + k := by
  have : dayTo l limit = k := firstTo_some (by omega) hm hh
  rw [dayR, this, if_neg (by omega)]
theorem dayR_miss {l : List TestR} {limit : Int} {k : Nat} (hk : k = (36525 - (lastR l).Day).toNat) (hm : missTo l limit k = true) : dayR l limit = -1 := by
  subst hk
  have : dayTo l limit = -1 := firstTo_none hm
  rw [dayR, this, if_pos (by omega)]
theorem miss_succ {l : List TestR} {limit : Int} {k : Nat} (hm : missTo l limit k = true) (hh : hitR l limit ((lastR l).Day + k) = false) : missTo l limit (k + 1) = true := by
  rw [missTo, allTo_succ, ← missTo, hm, hh]; rfl

theorem l22Limit_any {A : Option Addr} {n c B : Nat} {l : List TestR} {limit : Int} {w : World} (h : Reads w B 3 A n (l.flatMap TestR.cells)) (hB : B ≤ w.heap.size) (hv : validTestsB l = true) (hl : 0 ≤ limit) (hl' : limit ≤ 24000) (hn : n ≤ 1048576) :
    Calls Try.prog 76 #[.slice A n c, .int .i64 limit] w fun e w' => e = .returned (.int .i64 (limR l limit)) ∧ ∃ d, w' = w.drewN d := by
  have HL := Lib.hid (TestR.count h)
  have Hv := Lib.hid hv
  by_cases hn2 : n < 2
  · have Hr : Hid (limR l limit = -1) := Lib.hid (by rw [limR, HL.out, if_pos hn2])
    clear hv
    go_enter Try.func76, Try.ntmps76
    go_wp2_with fail
    go_ret
    exact ⟨ret_int (by rw [Hr.out]), 0, rfl⟩
  · have Hr : Hid (limR l limit = dayR l limit) := Lib.hid (by rw [limR, HL.out, if_neg hn2])
    have hbd := tests_bd hv (by have := HL.out; omega)
    have hgr := grow_bd hv (by have := HL.out; omega)
    rw [HL.out] at hbd
    obtain ⟨b1, b2, b3, b4, b5, b6⟩ := hbd
    have HLa : Hid (lastR l = TestR.at_ l (n - 1)) := Lib.hid (by rw [lastR, HL.out])
    obtain ⟨ad, rfl, hbl, hp0, hp1, hp2⟩ := TestR.rd (k := n - 1) h (by omega)
    rw [← HLa.out] at hp0 hp1 hp2 b3 b4
    have hk1 : (0 : Int) ≤ (n : Int) - 1 := by omega
    have hk2 : (n : Int) - 1 < n := by omega
    have hk4 : 0 < n := by omega
    clear hv b1 b2 b5 b6
    go_enter Try.func76, Try.ntmps76
    go_wp2_with (go_at_call 67; refine (l22Growth_any h Hv.out (by omega) hn).mono ?_; rintro e w' ⟨rfl, d, rfl⟩)
    generalize hg : growR l = g at *
    have Hg := Lib.hid hg
    clear hg
    go_loopg [7] (36525 - (lastR l).Day).toNat (fun gk i wr => ∃ k : Nat, (lastR l).Day + k ≤ 36525 ∧ gk + k = (36525 - (lastR l).Day).toNat ∧ i = .int .i64 ((lastR l).Day + k) ∧ (∃ d, wr = w.drewN d) ∧ missTo l limit k = true)
    case atStart => exact ⟨0, by omega, by omega, by simp, ⟨_, rfl⟩, rfl⟩
    case round =>
      obtain ⟨k, hk, hgk, rfl, ⟨d', rfl⟩, hmiss⟩ := hrel
      have Hgk := Lib.hid hgk
      have Hm := Lib.hid hmiss
      clear hgk hmiss
      by_cases hlt : (lastR l).Day + k ≤ 36524
      · have hmul := mul_bd (x := g) (y := (lastR l).Day + k - (lastR l).Day) (X := 24000001) (Y := 36524) (by omega) (by omega) (by omega) (by omega)
        have Hh : Hid (hitR l limit ((lastR l).Day + k) = decide (limit ≤ (lastR l).Broken + g * ((lastR l).Day + k - (lastR l).Day) / 1000)) := Lib.hid (by rw [hitR, Hg.out])
        go_wp2_with fail
        go_quiet (fail)
        go_wp2_with fail
        · have hh : hitR l limit ((lastR l).Day + k) = true := by rw [Hh.out]; simp; omega
          go_ret
          exact ⟨ret_int (by rw [Hr.out, dayR_hit hlt Hm.out hh]), _, by first | rfl | exact World.drewN_drewN _ _ _⟩
        · have hh : hitR l limit ((lastR l).Day + k) = false := by rw [Hh.out]; simp; omega
          have hgk := Hgk.out
          go_roundg (gk - 1)
          case rel => exact ⟨k + 1, by omega, by omega, by go_num, ⟨_, by first | rfl | exact World.drewN_drewN _ _ _⟩, miss_succ Hm.out hh⟩
          case measure => omega
      · have Hd := Lib.hid (dayR_miss (l := l) (limit := limit) (k := k) (by omega) Hm.out)
        go_wp2_with fail
        go_ret
        exact ⟨ret_int (by rw [Hr.out, Hd.out]), _, rfl⟩

def rDayOfLimit (l : List TestR) (limit : Int) : Int × Int :=
  if validTestsB l then (if inB limit 0 24000 then (if limR l limit < 0 then (0, 3) else (limR l limit, 0)) else (0, 2)) else (0, 1)

theorem specDayOfLimit_any {A : Option Addr} {n c B : Nat} {l : List TestR} {limit : Int} {w : World} (h : Reads w B 3 A n (l.flatMap TestR.cells)) (hB : B ≤ w.heap.size) (hc : n ≤ c) (hn : n ≤ 1048576) :
    Calls Try.prog 40 #[.slice A n c, .int .i64 limit] w fun e w' => e = .returned (.tuple #[.int .i64 (rDayOfLimit l limit).1, .int .i64 (rDayOfLimit l limit).2]) ∧ Below w.heap.size w w' := by
  cases hv : validTestsB l with
  | false =>
    have Hr : Hid (rDayOfLimit l limit = (0, 1)) := Lib.hid (by rw [rDayOfLimit, hv]; rfl)
    go_enter Try.func40, Try.ntmps40
    go_wp2_with (go_at_call 59; refine (l22Tests_any h hB (by omega)).mono ?_; rintro e w' ⟨rfl, b⟩)
    go_ret2
    exact ⟨by rw [Hr.out]; rfl, b⟩
  | true =>
    have Hv := Lib.hid hv
    cases hi : inB limit 0 24000 with
    | false =>
      have Hr : Hid (rDayOfLimit l limit = (0, 2)) := Lib.hid (by rw [rDayOfLimit, hv, hi]; rfl)
      go_enter Try.func40, Try.ntmps40
      go_wp2_with (first | (go_at_call 59; refine (l22Tests_any h hB (by omega)).mono ?_; rintro e w' ⟨rfl, b⟩) | (go_at_call 75; refine (l22Broken_any _ _).mono ?_; rintro e w' ⟨rfl, rfl⟩))
      go_ret2
      exact ⟨by rw [Hr.out]; rfl, b⟩
    | true =>
      have hib := inB_true.1 hi
      have Hr : Hid (rDayOfLimit l limit = if limR l limit < 0 then (0, 3) else (limR l limit, 0)) := Lib.hid (by rw [rDayOfLimit, hv, hi]; rfl)
      go_enter Try.func40, Try.ntmps40
      go_wp2_with (first | (go_at_call 59; refine (l22Tests_any h hB (by omega)).mono ?_; rintro e w1 ⟨rfl, b⟩) | (go_at_call 75; refine (l22Broken_any _ _).mono ?_; rintro e w' ⟨rfl, rfl⟩) | (go_at_call 76; refine (l22Limit_any (Reads.below h b hB) (Nat.le_trans hB b.size) Hv.out (by omega) (by omega) hn).mono ?_; rintro e w' ⟨rfl, d, rfl⟩))
      · go_ret2
        exact ⟨by rw [Hr.out, if_pos (by omega)]; rfl, below_drewN b _⟩
      · go_ret2
        exact ⟨by rw [Hr.out, if_neg (by omega)]; rfl, below_drewN b _⟩

theorem implDayOfLimit_any {A : Option Addr} {n c B : Nat} {l : List TestR} {limit : Int} {w : World} (h : Reads w B 3 A n (l.flatMap TestR.cells)) (hB : B ≤ w.heap.size) (hc : n ≤ c) (hn : n ≤ 1048576) :
    Calls Try.prog 41 #[.slice A n c, .int .i64 limit] w fun e w' => e = .returned (.tuple #[.int .i64 (rDayOfLimit l limit).1, .int .i64 (rDayOfLimit l limit).2]) ∧ Below w.heap.size w w' := by
  have HL := Lib.hid (TestR.count h)
  cases hv : validTestsB l with
  | false =>
    have Hr : Hid (rDayOfLimit l limit = (0, 1)) := Lib.hid (by rw [rDayOfLimit, hv]; rfl)
    go_enter Try.func41, Try.ntmps41
    go_wp2_with (go_at_call 23; refine (validTests_any h hB (by omega)).mono ?_; rintro e w' ⟨rfl, b⟩)
    go_ret2
    exact ⟨by rw [Hr.out]; rfl, b⟩
  | true =>
    have Hv := Lib.hid hv
    cases hi : inB limit 0 24000 with
    | false =>
      have Hr : Hid (rDayOfLimit l limit = (0, 2)) := Lib.hid (by rw [rDayOfLimit, hv, hi]; rfl)
      go_enter Try.func41, Try.ntmps41
      go_wp2_with (first | (go_at_call 23; refine (validTests_any h hB (by omega)).mono ?_; rintro e w' ⟨rfl, b⟩) | (go_at_call 58; refine (within_any _ _ _ _).mono ?_; rintro e w' ⟨rfl, rfl⟩))
      go_ret2
      exact ⟨by rw [Hr.out]; rfl, b⟩
    | true =>
      have hib := inB_true.1 hi
      have Hr : Hid (rDayOfLimit l limit = if limR l limit < 0 then (0, 3) else (limR l limit, 0)) := Lib.hid (by rw [rDayOfLimit, hv, hi]; rfl)
      by_cases hn2 : n < 2
      · have Hl : Hid (limR l limit = -1) := Lib.hid (by rw [limR, HL.out, if_pos hn2])
        have Hg : Hid (rGrowthOf l = (0, 3)) := Lib.hid (by have := HL.out; rw [rGrowthOf, hv, if_pos rfl, if_pos (by omega)])
        clear hn2
        go_enter Try.func41, Try.ntmps41
        go_wp2_with (first | (go_at_call 23; refine (validTests_any h hB (by omega)).mono ?_; rintro e w1 ⟨rfl, b⟩) | (go_at_call 58; refine (within_any _ _ _ _).mono ?_; rintro e w' ⟨rfl, rfl⟩))
        refine (implGrowthOf_any (Reads.below h b hB) (Nat.le_trans hB b.size) hc hn).mono ?_
        rw [Hg.out]
        rintro e w2 ⟨rfl, b2⟩
        go_wp2_with fail
        go_ret2
        exact ⟨by rw [Hr.out, Hl.out]; rfl, b.trans (b2.mono b.size)⟩
      · have Hl : Hid (limR l limit = dayR l limit) := Lib.hid (by rw [limR, HL.out, if_neg hn2])
        have Hgo : Hid (rGrowthOf l = (growR l, 0)) := Lib.hid (by have := HL.out; rw [rGrowthOf, hv, if_pos rfl, if_neg (by omega)])
        have hbd := tests_bd hv (by have := HL.out; omega)
        have hgr := grow_bd hv (by have := HL.out; omega)
        rw [HL.out] at hbd
        obtain ⟨b1, b2, b3, b4, b5, b6⟩ := hbd
        have HLa : Hid (lastR l = TestR.at_ l (n - 1)) := Lib.hid (by rw [lastR, HL.out])
        rw [← HLa.out] at b3 b4
        have hk1 : (0 : Int) ≤ (n : Int) - 1 := by omega
        have hk2 : (n : Int) - 1 < n := by omega
        have hk4 : 0 < n := by omega
        clear b1 b2 b5 b6 hn2
        go_enter Try.func41, Try.ntmps41
        go_wp2_with (first | (go_at_call 23; refine (validTests_any h hB (by omega)).mono ?_; rintro e w1 ⟨rfl, b⟩) | (go_at_call 58; refine (within_any _ _ _ _).mono ?_; rintro e w' ⟨rfl, rfl⟩))
        refine (implGrowthOf_any (Reads.below h b hB) (Nat.le_trans hB b.size) hc hn).mono ?_
        rw [Hgo.out]
        rintro e w2 ⟨rfl, b2⟩
        replace b2 := b.trans (b2.mono b.size)
        obtain ⟨ad, rfl, hbl, hp0, hp1, hp2⟩ := TestR.rd (k := n - 1) (Reads.below h b2 hB) (by omega)
        rw [← HLa.out] at hp0 hp1 hp2
        clear hv hi b
        generalize hg : growR l = g at *
        have Hg := Lib.hid hg
        clear hg
        go_wp2_with fail
        clear hp0 hp1 hp2
        have b3' : Below w.heap.size w (w2.alloc (.cells #[.int .i64 (lastR l).Day, .int .i64 (lastR l).Broken, .int .i64 (lastR l).Worn] 46)) := b2.alloc b2.size _
        go_loopg [9] (36525 - (lastR l).Day).toNat (fun gk i wr => ∃ k : Nat, (lastR l).Day + k ≤ 36525 ∧ gk + k = (36525 - (lastR l).Day).toNat ∧ i = .int .i64 ((lastR l).Day + k) ∧ wr = (w2.alloc (.cells #[.int .i64 (lastR l).Day, .int .i64 (lastR l).Broken, .int .i64 (lastR l).Worn] 46)) ∧ missTo l limit k = true)
        case atStart => exact ⟨0, by omega, by omega, by simp, rfl, rfl⟩
        case round =>
          obtain ⟨k, hk, hgk, rfl, rfl, hmiss⟩ := hrel
          have Hgk := Lib.hid hgk
          have Hm := Lib.hid hmiss
          clear hgk hmiss
          by_cases hlt : (lastR l).Day + k ≤ 36524
          · have hmul := mul_bd (x := g) (y := (lastR l).Day + k - (lastR l).Day) (X := 24000001) (Y := 36524) (by omega) (by omega) (by omega) (by omega)
            have Hh : Hid (hitR l limit ((lastR l).Day + k) = decide (limit ≤ (lastR l).Broken + g * ((lastR l).Day + k - (lastR l).Day) / 1000)) := Lib.hid (by rw [hitR, Hg.out])
            have hin : inB ((lastR l).Day + k) 0 36524 = true := inB_true.2 ⟨by omega, by omega⟩
            go_wp2_with (go_at_call 77; refine (isDay_any _ _).mono ?_; rintro e w' ⟨rfl, rfl⟩)
            · have hh : hitR l limit ((lastR l).Day + k) = true := by rw [Hh.out]; simp; omega
              go_ret2
              exact ⟨by rw [Hr.out, Hl.out, dayR_hit hlt Hm.out hh, if_neg (by omega)]; rfl, b3'⟩
            · have hh : hitR l limit ((lastR l).Day + k) = false := by rw [Hh.out]; simp; omega
              have hgk := Hgk.out
              go_roundg (gk - 1)
              case rel => exact ⟨k + 1, by omega, by omega, by go_num, rfl, miss_succ Hm.out hh⟩
              case measure => omega
          · have Hd := Lib.hid (dayR_miss (l := l) (limit := limit) (k := k) (by omega) Hm.out)
            have hin : inB ((lastR l).Day + k) 0 36524 = false := inB_false.2 (.inr (by omega))
            go_wp2_with (go_at_call 77; refine (isDay_any _ _).mono ?_; rintro e w' ⟨rfl, rfl⟩)
            go_ret2
            exact ⟨by rw [Hr.out, Hl.out, Hd.out]; rfl, b3'⟩
end Go.Proofs.Ytdjoechokkbjeaa
