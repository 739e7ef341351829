/- Evacuation: WayTime: the reference's side. -/
import Derived.Test.YtiphbbgadpkcnaaWt
namespace Go.Proofs.Ytiphbbgadpkcnaa
open Go.RowKit
set_option maxRecDepth 100000
set_option linter.unusedVariables false

theorem spotsOf_eq (p : Int) (ys : List Int) : spotsOf p ys = ys.all (fun z => inB z 0 (top p)) := by
  rw [spotsOf, List.not_any_eq_all_not]
  simp
set_option maxHeartbeats 1000000 in
theorem specWayTime_any {A A' : Option Addr} {n c B n' c' B' : Nat} {p : Int} {l : List WalkR} {ys : List Int} {lad : Bool} {w : World} (h : Reads w B 4 A n (l.flatMap WalkR.cells)) (hB : B ≤ w.heap.size) (hc : n ≤ c) (hn : n ≤ 1048576)
    (h' : Ints w B' A' n' ys) (hB' : B' ≤ w.heap.size) (hc' : n' ≤ c') (hn' : n' ≤ 1048576) :
    Calls Try.prog 19 #[.int .i64 p, .slice A n c, .slice A' n' c', .bool lad] w fun e w' => e = .returned (.tuple #[.int .i64 (rWayTime p l ys lad).1, .int .i64 (rWayTime p l ys lad).2]) ∧ Below w.heap.size w w' := by
  have HL := Lib.hid (WalkR.count h)
  have HL' := Lib.hid h'.len
  cases v1 : walksB p l with
  | false =>
    have Hr : Hid (rWayTime p l ys lad = (0, 1)) := Lib.hid (by rw [rWayTime, askW, v1]; rfl)
    go_enter Try.func19, Try.ntmps19
    go_wp2_with (go_at_call 44; refine (l23Ok_any h hB hn).mono ?_; rintro e w' ⟨rfl, b⟩)
    go_ret2
    exact ⟨by rw [Hr.out]; rfl, b⟩
  | true =>
  have Hw := Lib.hid v1
  have Hc : Hid (∀ f2, askW p l (spotsOf p ys) f2 = if spotsOf p ys then (if f2 then 0 else 7) else 2) := Lib.hid (by intro f2; rw [askW, v1]; rfl)
  go_enter Try.func19, Try.ntmps19
  go_wp2_with fail
  refine (l23Ok_any h hB hn).mono ?_
  rintro e w1 ⟨rfl, hb1⟩
  go_wp2_with fail
  clear v1
  have h1' := Reads.below h' hb1 hB'
  go_loopg [10] n' (fun gk i wr => ∃ k : Nat, k ≤ n' ∧ gk + k = n' ∧ i = .int .i64 k ∧ w1 = wr ∧ (ys.take k).all (fun z => inB z 0 (top p)) = true)
  case atStart => exact ⟨0, Nat.zero_le _, rfl, rfl, rfl, rfl⟩
  case round =>
    obtain ⟨k, hk, hgk, rfl, rfl, hall⟩ := hrel
    have Hgk := Lib.hid hgk
    have Hall := Lib.hid hall
    clear hgk hall
    by_cases hlt : k < n'
    · obtain ⟨ad, rfl, hbl, hc⟩ := Ints.at_ h1' hlt
      cases b1 : inB (nth ys k) 0 (wrap64 (p - 1)) with
      | false =>
        have Hs : Hid (spotsOf p ys = false) := Lib.hid (by rw [spotsOf_eq]; exact all_false_nth (k := k) (by rw [HL'.out]; omega) b1)
        have Hr : Hid (rWayTime p l ys lad = (0, 2)) := Lib.hid (by rw [rWayTime, Hc.out, Hs.out]; rfl)
        go_wp2_with (go_at_call 49; refine (in_any _ _ _ _).mono ?_; rintro e w' ⟨rfl, rfl⟩)
        go_ret2
        exact ⟨by rw [Hr.out]; rfl, hb1⟩
      | true =>
        have Hs : Hid ((ys.take (k + 1)).all (fun z => inB z 0 (top p)) = true) := Lib.hid (by rw [all_take_succ (by rw [HL'.out]; omega), Hall.out]; exact b1)
        go_wp2_with (go_at_call 49; refine (in_any _ _ _ _).mono ?_; rintro e w' ⟨rfl, rfl⟩)
        have hgk := Hgk.out
        go_roundg (gk - 1)
        case rel => exact ⟨k + 1, by omega, by omega, by go_num, rfl, Hs.out⟩
        case measure => omega
    · have Hs : Hid (spotsOf p ys = true) := by
        have := Hall.out
        rw [List.take_of_length_le (by rw [HL'.out]; omega)] at this
        exact Lib.hid (by rw [spotsOf_eq]; exact this)
      by_cases hle : n' ≤ 64
      · have Hr : Hid (rWayTime p l ys lad = if allTo (fun j => decide (0 ≤ legW l ys lad j)) (n' - 1) then (legsTo l ys lad (n' - 1), 0) else (0, 3)) := Lib.hid (by rw [rWayTime, Hc.out, Hs.out, HL'.out, decide_eq_true hle]; rfl)
        go_wp2_with fail
        go_loopg [11, 12] (n' - 1) (fun gk s i wr => ∃ k : Nat, gk + k = n' - 1 ∧ i = .int .i64 ((k : Int) + 1) ∧ s = .int .i64 (legsTo l ys lad k) ∧ Below w.heap.size w wr ∧ allTo (fun j => decide (0 ≤ legW l ys lad j)) k = true)
        case atStart => exact ⟨0, by omega, rfl, rfl, hb1, rfl⟩
        case round =>
          clear Hgk Hall hk hlt
          obtain ⟨j, hgk, rfl, rfl, hb, hall⟩ := hrel
          have Hgk := Lib.hid hgk
          have Hall := Lib.hid hall
          have hbs := hb.size
          have hsum := legsTo_bd Hw.out j hall
          clear hgk hall
          by_cases hlt : j + 1 < n'
          · obtain ⟨ad, rfl, hbl, hc1⟩ := Ints.at_ (k := j) (Reads.below h' hb hB') (by omega)
            have hq8 : IntKind.i64.wrap (j : Int) = j := IntWalk.i64_in _ (by omega)
            have hq3 : (0 : Int) ≤ (j : Int) + 1 := by omega
            have hq4 : (j : Int) + 1 < (n' : Int) := by omega
            have hq5 : (j : Int) < (n' : Int) := by omega
            have hq6 : (0 : Int) ≤ (j : Int) := by omega
            have hq7 : ((j : Int) + 1).toNat = j + 1 := by omega
            have Hleg : Hid (legW l ys lad j = secTo l (nth ys j) (nth ys (j + 1)) lad n) := Lib.hid (by rw [legW, HL.out])
            have hsb := secTo_bd Hw.out (nth ys j) (nth ys (j + 1)) lad n (by rw [HL.out]; exact Nat.le_refl _)
            obtain ⟨ad0, e0, _, hc0⟩ := Ints.at_ (k := 0) (Reads.below h' hb hB') (by omega)
            injection e0 with e0
            subst e0
            rw [addr_add_zero] at hc0
            obtain ⟨b0, o0, sp⟩ := ad
            have hsp := World.cell?_spot hc0
            simp only at hsp
            subst hsp
            simp only [Addr.add_lit] at hc1 hbl
            clear hc1 hc0
            obtain ⟨gko, hgko⟩ : ∃ gko, gko = gk := ⟨_, rfl⟩
            go_wp2_with fail
            go_loopg [13, 14] n (fun gk s i wr2 => ∃ k : Nat, k ≤ n ∧ gk + k = n ∧ i = .int .i64 k ∧ s = .int .i64 (secTo l (nth ys j) (nth ys (j + 1)) lad k) ∧ Below w.heap.size w wr2)
            case atStart => exact ⟨0, Nat.zero_le _, rfl, rfl, rfl, hb⟩
            case round =>
              obtain ⟨k, hk, hgk2, rfl, rfl, hb2⟩ := hrel
              have Hgk2 := Lib.hid hgk2
              clear hgk2
              by_cases hlt2 : k < n
              · obtain ⟨ad, rfl, hbl3, hd0, hd1, hd2, hd3⟩ := WalkR.rd (Reads.below h hb2 hB) hlt2
                obtain ⟨ad', e', _, hc1⟩ := Ints.at_ (k := j) (Reads.below h' hb2 hB') (by omega)
                injection e' with e'
                subst e'
                obtain ⟨ad', e', _, hc2⟩ := Ints.at_ (k := j + 1) (Reads.below h' hb2 hB') hlt
                injection e' with e'
                subst e'
                simp only [Addr.add_lit] at hc1 hc2
                have hbs2 := hb2.size
                have hb0 : b0 < wr.heap.size := by omega
                have Hsec := Lib.hid (secTo_succ l (nth ys j) (nth ys (j + 1)) lad k)

                cases b1 : ((WalkR.at_ l k).From == nth ys j) with
                | false =>
                  have Hs : Hid (secTo l (nth ys j) (nth ys (j + 1)) lad (k + 1) = secTo l (nth ys j) (nth ys (j + 1)) lad k) := Lib.hid (by rw [Hsec.out, edgeB, b1]; simp [])
                  go_wp2_with fail
                  go_quiet (fail)
                  go_wp2_with fail
                  have hgk2 := Hgk2.out
                  go_roundg (gk - 1)
                  case rel => exact ⟨k + 1, by omega, by omega, by go_num, by rw [Hs.out], below_drewN (hb2.alloc hbs2 _) _⟩
                  case measure => omega
                | true =>
                cases b2 : ((WalkR.at_ l k).To == nth ys (j + 1)) with
                | false =>
                  have Hs : Hid (secTo l (nth ys j) (nth ys (j + 1)) lad (k + 1) = secTo l (nth ys j) (nth ys (j + 1)) lad k) := Lib.hid (by rw [Hsec.out, edgeB, b1, b2]; simp [])
                  go_wp2_with fail
                  go_quiet (fail)
                  go_wp2_with fail
                  have hgk2 := Hgk2.out
                  go_roundg (gk - 1)
                  case rel => exact ⟨k + 1, by omega, by omega, by go_num, by rw [Hs.out], below_drewN (hb2.alloc hbs2 _) _⟩
                  case measure => omega
                | true =>
                cases lad with
                | true =>
                  by_cases c1 : secTo l (nth ys j) (nth ys (j + 1)) true k < 0
                  · have d1 : decide (secTo l (nth ys j) (nth ys (j + 1)) true k < 0) = true := by simp; omega
                    have Hs : Hid (secTo l (nth ys j) (nth ys (j + 1)) true (k + 1) = (WalkR.at_ l k).Seconds) := Lib.hid (by rw [Hsec.out, edgeB, b1, b2]; simp [d1])
                    go_wp2_with fail
                    go_quiet (fail)
                    go_wp2_with fail
                    have hgk2 := Hgk2.out
                    go_roundg (gk - 1)
                    case rel => exact ⟨k + 1, by omega, by omega, by go_num, by rw [Hs.out], below_drewN (hb2.alloc hbs2 _) _⟩
                    case measure => omega
                  · have d1 : decide (secTo l (nth ys j) (nth ys (j + 1)) true k < 0) = false := by simp; omega
                    by_cases c2 : (WalkR.at_ l k).Seconds < secTo l (nth ys j) (nth ys (j + 1)) true k
                    · have d2 : decide ((WalkR.at_ l k).Seconds < secTo l (nth ys j) (nth ys (j + 1)) true k) = true := by simp; omega
                      have Hs : Hid (secTo l (nth ys j) (nth ys (j + 1)) true (k + 1) = (WalkR.at_ l k).Seconds) := Lib.hid (by rw [Hsec.out, edgeB, b1, b2]; simp [d1, d2])
                      go_wp2_with fail
                      go_quiet (fail)
                      go_wp2_with fail
                      have hgk2 := Hgk2.out
                      go_roundg (gk - 1)
                      case rel => exact ⟨k + 1, by omega, by omega, by go_num, by rw [Hs.out], below_drewN (hb2.alloc hbs2 _) _⟩
                      case measure => omega
                    · have d2 : decide ((WalkR.at_ l k).Seconds < secTo l (nth ys j) (nth ys (j + 1)) true k) = false := by simp; omega
                      have Hs : Hid (secTo l (nth ys j) (nth ys (j + 1)) true (k + 1) = secTo l (nth ys j) (nth ys (j + 1)) true k) := Lib.hid (by rw [Hsec.out, edgeB, b1, b2]; simp [d1, d2])
                      go_wp2_with fail
                      go_quiet (fail)
                      go_wp2_with fail
                      have hgk2 := Hgk2.out
                      go_roundg (gk - 1)
                      case rel => exact ⟨k + 1, by omega, by omega, by go_num, by rw [Hs.out], below_drewN (hb2.alloc hbs2 _) _⟩
                      case measure => omega
                | false =>
                cases b3 : (WalkR.at_ l k).Ladder with
                | true =>
                  have Hs : Hid (secTo l (nth ys j) (nth ys (j + 1)) false (k + 1) = secTo l (nth ys j) (nth ys (j + 1)) false k) := Lib.hid (by rw [Hsec.out, edgeB, b1, b2, b3]; simp [])
                  go_wp2_with fail
                  go_quiet (fail)
                  go_wp2_with fail
                  have hgk2 := Hgk2.out
                  go_roundg (gk - 1)
                  case rel => exact ⟨k + 1, by omega, by omega, by go_num, by rw [Hs.out], below_drewN (hb2.alloc hbs2 _) _⟩
                  case measure => omega
                | false =>
                  by_cases c1 : secTo l (nth ys j) (nth ys (j + 1)) false k < 0
                  · have d1 : decide (secTo l (nth ys j) (nth ys (j + 1)) false k < 0) = true := by simp; omega
                    have Hs : Hid (secTo l (nth ys j) (nth ys (j + 1)) false (k + 1) = (WalkR.at_ l k).Seconds) := Lib.hid (by rw [Hsec.out, edgeB, b1, b2, b3]; simp [d1])
                    go_wp2_with fail
                    go_quiet (fail)
                    go_wp2_with fail
                    have hgk2 := Hgk2.out
                    go_roundg (gk - 1)
                    case rel => exact ⟨k + 1, by omega, by omega, by go_num, by rw [Hs.out], below_drewN (hb2.alloc hbs2 _) _⟩
                    case measure => omega
                  · have d1 : decide (secTo l (nth ys j) (nth ys (j + 1)) false k < 0) = false := by simp; omega
                    by_cases c2 : (WalkR.at_ l k).Seconds < secTo l (nth ys j) (nth ys (j + 1)) false k
                    · have d2 : decide ((WalkR.at_ l k).Seconds < secTo l (nth ys j) (nth ys (j + 1)) false k) = true := by simp; omega
                      have Hs : Hid (secTo l (nth ys j) (nth ys (j + 1)) false (k + 1) = (WalkR.at_ l k).Seconds) := Lib.hid (by rw [Hsec.out, edgeB, b1, b2, b3]; simp [d1, d2])
                      go_wp2_with fail
                      go_quiet (fail)
                      go_wp2_with fail
                      have hgk2 := Hgk2.out
                      go_roundg (gk - 1)
                      case rel => exact ⟨k + 1, by omega, by omega, by go_num, by rw [Hs.out], below_drewN (hb2.alloc hbs2 _) _⟩
                      case measure => omega
                    · have d2 : decide ((WalkR.at_ l k).Seconds < secTo l (nth ys j) (nth ys (j + 1)) false k) = false := by simp; omega
                      have Hs : Hid (secTo l (nth ys j) (nth ys (j + 1)) false (k + 1) = secTo l (nth ys j) (nth ys (j + 1)) false k) := Lib.hid (by rw [Hsec.out, edgeB, b1, b2, b3]; simp [d1, d2])
                      go_wp2_with fail
                      go_quiet (fail)
                      go_wp2_with fail
                      have hgk2 := Hgk2.out
                      go_roundg (gk - 1)
                      case rel => exact ⟨k + 1, by omega, by omega, by go_num, by rw [Hs.out], below_drewN (hb2.alloc hbs2 _) _⟩
                      case measure => omega
              · have Hke := Lib.hid (show k = n by omega)
                have hke := Hke.out
                subst hke
                generalize secTo l (nth ys j) (nth ys (j + 1)) lad k = s at hsb Hleg ⊢
                by_cases hs : s < 0
                · have Hf : Hid (allTo (fun j => decide (0 ≤ legW l ys lad j)) (n' - 1) = false) := Lib.hid (allTo_false (k := j) (by omega) (by rw [Hleg.out]; simp; omega))
                  go_wp2_with fail
                  go_ret2
                  exact ⟨by rw [Hr.out, Hf.out]; rfl, hb2⟩
                · have Ht : Hid (allTo (fun j => decide (0 ≤ legW l ys lad j)) (j + 1) = true) := Lib.hid (by rw [allTo_succ, Hall.out, Hleg.out]; simp; omega)
                  have hq9 : IntKind.i64.wrap (legsTo l ys lad j + s) = legsTo l ys lad j + s := IntWalk.i64_in _ (by omega)
                  have hq10 : IntKind.i64.wrap ((j : Int) + 1 + 1) = (j : Int) + 1 + 1 := IntWalk.i64_in _ (by omega)
                  go_wp2_with fail
                  have hgk := Hgk.out
                  go_roundg (gko - 1)
                  case rel => exact ⟨j + 1, by omega, by go_num, by rw [legsTo_succ, Hleg.out], hb2, Ht.out⟩
                  case measure => omega
          · have Hke : Hid (j = n' - 1) := Lib.hid (by have := Hgk.out; omega)
            have hd : ¬ ((j : Int) + 1 < (n' : Int)) := by omega
            go_wp2_with fail
            go_ret2
            exact ⟨by rw [Hr.out, ← Hke.out, Hall.out]; rfl, hb⟩
      · have Hr : Hid (rWayTime p l ys lad = (0, 7)) := Lib.hid (by rw [rWayTime, Hc.out, Hs.out, HL'.out, decide_eq_false hle]; rfl)
        go_wp2_with fail
        go_ret2
        exact ⟨by rw [Hr.out]; rfl, hb1⟩
end Go.Proofs.Ytiphbbgadpkcnaa
