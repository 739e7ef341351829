/- Inspections: FirstDue: contracts of both sides. -/
import Derived.Test.YtickepianllblaaGreatDoorCc
namespace Go.Proofs.YtickepianllblaaGreatDoor
open Go.RowKit
set_option maxRecDepth 100000
set_option linter.unusedVariables false
set_option linter.unusedSimpArgs false

set_option maxHeartbeats 1000000 in
theorem implFirstDue_any {A : Option Addr} {n c B : Nat} {l : List CheckR} {day rides per : Int} {w : World} (h : Reads w B 5 A n (l.flatMap CheckR.cells)) (hB : B ≤ w.heap.size) (hc : n ≤ c) (hn : n ≤ 1048576) (hF : ∀ x ∈ l, x.Id.size ≤ 1048576) :
    Calls Tryz.prog 12 #[.slice A n c, .int .i64 day, .int .i64 rides, .int .i64 per] w fun e w' => e = .returned (.tuple #[.int .i64 (rFirstDue l day rides per).1, .int .i64 (rFirstDue l day rides per).2]) ∧ Below w.heap.size w w' := by
  have HL := Lib.hid (CheckR.count h)
  by_cases ha : askI l day rides per = 0
  · obtain ⟨hck, hper, hday, hri, hla⟩ := askI_zero ha
    have Hat := Lib.hid (checks_at hck).1
    have hl16 := (checks_at hck).2
    have hln := HL.out
    have Ha := Lib.hid ha
    clear ha hck hla
    go_enter Tryz.func12, Tryz.ntmps12
    go_wp2_with fail
    refine (inspected_any h hB hn hF).mono ?_
    rintro e w1 ⟨rfl, b1⟩
    rw [Ha.out]
    have hs1 := b1.size
    have Hr : Hid (rFirstDue l day rides per = if n = 0 then (0, 3) else (((firstI l day rides per n : Nat) : Int), 0)) := Lib.hid (by rw [rFirstDue, if_pos Ha.out, HL.out])
    by_cases hz : n = 0
    · subst hz
      go_wp2_with fail
      go_ret2
      exact ⟨ret2 (int_eq (by rw [Hr.out]; simp)) (int_eq (by rw [Hr.out]; simp)), b1⟩
    have hz1 : ((n : Int) == 0) = false := by simp; omega
    go_wp2_with fail
    go_loopg [11, 27] (n - 0) (fun gk v i wr => ∃ k : Nat, 0 ≤ k ∧ k ≤ n ∧ gk + k = n ∧ i = .int .i64 k ∧ v = .int .i64 (firstI l day rides per k : Nat) ∧ Below w.heap.size w wr)
    case atStart => exact ⟨0, by omega, by omega, by omega, rfl, rfl, b1⟩
    case round =>
      obtain ⟨k, hk1', hk, hgk, rfl, rfl, hb⟩ := hrel
      have Hgk := Lib.hid hgk
      have hbs := hb.size
      have Hs := Lib.hid (firstI_succ l day rides per k)
      have hfl := firstI_le l day rides per k
      clear hgk b1 hs1
      by_cases hlt : k < n
      · obtain ⟨ad, rfl, hbl, hc0, hc1, hc2, hc3, hc4⟩ := CheckR.rd (Reads.below h hb hB) hlt
        have hxk := fitC_of (Hat.out k (by rw [HL.out]; exact hlt))
        have hk0 : (0 : Int) ≤ (k : Int) := by omega
        have hk1 : (k : Int) < (n : Int) := by omega
        have hqk : IntKind.i64.wrap ((k : Int) + 1) = (k : Int) + 1 := IntWalk.i64_in _ (by omega)
        have pre : Below w.heap.size w (wr.alloc (.cells #[.string (CheckR.at_ l k).Id, .int .i64 (CheckR.at_ l k).EveryDays, .int .i64 (CheckR.at_ l k).EveryRides, .int .i64 (CheckR.at_ l k).LastDay, .int .i64 (CheckR.at_ l k).LastRide] 39)) := hb.alloc hbs _
        have hsz : wr.heap.size < (wr.alloc (.cells #[.string (CheckR.at_ l k).Id, .int .i64 (CheckR.at_ l k).EveryDays, .int .i64 (CheckR.at_ l k).EveryRides, .int .i64 (CheckR.at_ l k).LastDay, .int .i64 (CheckR.at_ l k).LastRide] 39)).heap.size := by simp
        have y0 : (wr.alloc (.cells #[.string (CheckR.at_ l k).Id, .int .i64 (CheckR.at_ l k).EveryDays, .int .i64 (CheckR.at_ l k).EveryRides, .int .i64 (CheckR.at_ l k).LastDay, .int .i64 (CheckR.at_ l k).LastRide] 39)).cell? ⟨wr.heap.size, 0, none⟩ = some (.string (CheckR.at_ l k).Id) := by simp
        have y1 : (wr.alloc (.cells #[.string (CheckR.at_ l k).Id, .int .i64 (CheckR.at_ l k).EveryDays, .int .i64 (CheckR.at_ l k).EveryRides, .int .i64 (CheckR.at_ l k).LastDay, .int .i64 (CheckR.at_ l k).LastRide] 39)).cell? ⟨wr.heap.size, 1, none⟩ = some (.int .i64 (CheckR.at_ l k).EveryDays) := by simp
        have y2 : (wr.alloc (.cells #[.string (CheckR.at_ l k).Id, .int .i64 (CheckR.at_ l k).EveryDays, .int .i64 (CheckR.at_ l k).EveryRides, .int .i64 (CheckR.at_ l k).LastDay, .int .i64 (CheckR.at_ l k).LastRide] 39)).cell? ⟨wr.heap.size, 2, none⟩ = some (.int .i64 (CheckR.at_ l k).EveryRides) := by simp
        have y3 : (wr.alloc (.cells #[.string (CheckR.at_ l k).Id, .int .i64 (CheckR.at_ l k).EveryDays, .int .i64 (CheckR.at_ l k).EveryRides, .int .i64 (CheckR.at_ l k).LastDay, .int .i64 (CheckR.at_ l k).LastRide] 39)).cell? ⟨wr.heap.size, 3, none⟩ = some (.int .i64 (CheckR.at_ l k).LastDay) := by simp
        have y4 : (wr.alloc (.cells #[.string (CheckR.at_ l k).Id, .int .i64 (CheckR.at_ l k).EveryDays, .int .i64 (CheckR.at_ l k).EveryRides, .int .i64 (CheckR.at_ l k).LastDay, .int .i64 (CheckR.at_ l k).LastRide] 39)).cell? ⟨wr.heap.size, 4, none⟩ = some (.int .i64 (CheckR.at_ l k).LastRide) := by simp
        generalize firstI l day rides per k = f at *
        have hfn : f < n := by omega
        obtain ⟨ad', e', _, hf0, hf1, hf2, hf3, hf4⟩ := CheckR.rd (k := f) (Reads.below h hb hB) hfn
        injection e' with e'
        subst e'
        have hxf := fitC_of (Hat.out f (by rw [HL.out]; exact hfn))
        have hj0 : (0 : Int) ≤ (f : Int) := by omega
        have hj1 : (f : Int) < (n : Int) := by omega
        have g0 : (wr.alloc (.cells #[.string (CheckR.at_ l k).Id, .int .i64 (CheckR.at_ l k).EveryDays, .int .i64 (CheckR.at_ l k).EveryRides, .int .i64 (CheckR.at_ l k).LastDay, .int .i64 (CheckR.at_ l k).LastRide] 39)).cell? (ad.add (f * 5)) = some (.string (CheckR.at_ l f).Id) := by rw [World.cell?_alloc_lt _ _ _ (by first | (simp only []; rw [block_of_add]; omega) | (rw [block_of_add]; omega))]; exact hf0
        have g1 : (wr.alloc (.cells #[.string (CheckR.at_ l k).Id, .int .i64 (CheckR.at_ l k).EveryDays, .int .i64 (CheckR.at_ l k).EveryRides, .int .i64 (CheckR.at_ l k).LastDay, .int .i64 (CheckR.at_ l k).LastRide] 39)).cell? (⟨(ad.add (f * 5)).block, (ad.add (f * 5)).off + 1, none⟩) = some (.int .i64 (CheckR.at_ l f).EveryDays) := by rw [World.cell?_alloc_lt _ _ _ (by first | (simp only []; rw [block_of_add]; omega) | (rw [block_of_add]; omega))]; exact hf1
        have g2 : (wr.alloc (.cells #[.string (CheckR.at_ l k).Id, .int .i64 (CheckR.at_ l k).EveryDays, .int .i64 (CheckR.at_ l k).EveryRides, .int .i64 (CheckR.at_ l k).LastDay, .int .i64 (CheckR.at_ l k).LastRide] 39)).cell? (⟨(ad.add (f * 5)).block, (ad.add (f * 5)).off + 2, none⟩) = some (.int .i64 (CheckR.at_ l f).EveryRides) := by rw [World.cell?_alloc_lt _ _ _ (by first | (simp only []; rw [block_of_add]; omega) | (rw [block_of_add]; omega))]; exact hf2
        have g3 : (wr.alloc (.cells #[.string (CheckR.at_ l k).Id, .int .i64 (CheckR.at_ l k).EveryDays, .int .i64 (CheckR.at_ l k).EveryRides, .int .i64 (CheckR.at_ l k).LastDay, .int .i64 (CheckR.at_ l k).LastRide] 39)).cell? (⟨(ad.add (f * 5)).block, (ad.add (f * 5)).off + 3, none⟩) = some (.int .i64 (CheckR.at_ l f).LastDay) := by rw [World.cell?_alloc_lt _ _ _ (by first | (simp only []; rw [block_of_add]; omega) | (rw [block_of_add]; omega))]; exact hf3
        have g4 : (wr.alloc (.cells #[.string (CheckR.at_ l k).Id, .int .i64 (CheckR.at_ l k).EveryDays, .int .i64 (CheckR.at_ l k).EveryRides, .int .i64 (CheckR.at_ l k).LastDay, .int .i64 (CheckR.at_ l k).LastRide] 39)).cell? (⟨(ad.add (f * 5)).block, (ad.add (f * 5)).off + 4, none⟩) = some (.int .i64 (CheckR.at_ l f).LastRide) := by rw [World.cell?_alloc_lt _ _ _ (by first | (simp only []; rw [block_of_add]; omega) | (rw [block_of_add]; omega))]; exact hf4
        go_wp2_with fail
        generalize (wr.alloc (.cells #[.string (CheckR.at_ l k).Id, .int .i64 (CheckR.at_ l k).EveryDays, .int .i64 (CheckR.at_ l k).EveryRides, .int .i64 (CheckR.at_ l k).LastDay, .int .i64 (CheckR.at_ l k).LastRide] 39)) = W1 at *
        have qy0 := cell_regrown y0
        have qg0 := cell_regrown g0
        have qy1 := cell_regrown y1
        have qg1 := cell_regrown g1
        have qy2 := cell_regrown y2
        have qg2 := cell_regrown g2
        have qy3 := cell_regrown y3
        have qg3 := cell_regrown g3
        have qy4 := cell_regrown y4
        have qg4 := cell_regrown g4
        have cA : ∀ d os, Calls Tryz.prog 27 #[.agg #[.string (CheckR.at_ l k).Id, .int .i64 (CheckR.at_ l k).EveryDays, .int .i64 (CheckR.at_ l k).EveryRides, .int .i64 (CheckR.at_ l k).LastDay, .int .i64 (CheckR.at_ l k).LastRide], .int .i64 day, .int .i64 rides, .int .i64 per] (Sort.grow (redrawn W1 d) os) fun e w'' => e = .returned (.int .i64 (daysI (CheckR.at_ l k) day rides per + 1)) ∧ ∃ p : Regrown, w'' = Sort.grow (redrawn W1 p.d) p.os := fun d os => Calls.regrown_of (overdueAfter_any hxk (by omega) (by omega) hper)
        have cB : ∀ d os, Calls Tryz.prog 27 #[.agg #[.string (CheckR.at_ l f).Id, .int .i64 (CheckR.at_ l f).EveryDays, .int .i64 (CheckR.at_ l f).EveryRides, .int .i64 (CheckR.at_ l f).LastDay, .int .i64 (CheckR.at_ l f).LastRide], .int .i64 day, .int .i64 rides, .int .i64 per] (Sort.grow (redrawn W1 d) os) fun e w'' => e = .returned (.int .i64 (daysI (CheckR.at_ l f) day rides per + 1)) ∧ ∃ p : Regrown, w'' = Sort.grow (redrawn W1 p.d) p.os := fun d os => Calls.regrown_of (overdueAfter_any hxf (by omega) (by omega) hper)
        clear y0 y1 y2 y3 y4 g0 g1 g2 g3 g4 hc0 hc1 hc2 hc3 hc4 hf0 hf1 hf2 hf3 hf4
        generalize hdk : daysI (CheckR.at_ l k) day rides per = dk at *
        generalize hdf : daysI (CheckR.at_ l f) day rides per = df at *
        have hbk := daysI_bd (per := per) hxk (show 0 ≤ day ∧ day ≤ 10000000000 by omega) (show 0 ≤ rides ∧ rides ≤ 10000000000 by omega)
        have hbf := daysI_bd (per := per) hxf (show 0 ≤ day ∧ day ≤ 10000000000 by omega) (show 0 ≤ rides ∧ rides ≤ 10000000000 by omega)
        rw [hdk] at hbk
        rw [hdf] at hbf
        clear hdk hdf
        refine wp_region_quiet_below (by kernel_rfl) (by kernel_rfl) ?_
        repeat (go_big_quiet_step (first | with_reducible exact cA _ _ | with_reducible exact cB _ _))
        refine wpQuiet_nil ?_
        intro _ hw'
        obtain ⟨⟨dq, osq⟩, hw''⟩ := hw'
        subst hw''
        have hbS := below_regrown W1 dq osq
        have hb3 := pre.trans (hbS.mono pre.size)
        clear cA cB qy0 qg0 qy1 qg1 qy2 qg2 qy3 qg3 qy4 qg4
        generalize Sort.grow (redrawn W1 dq) osq = w3 at *
        by_cases hcmp : dk < df
        · have Hs2 : Hid (firstI l day rides per (k + 1) = k) := Lib.hid (by rw [Hs.out, if_pos (by omega)])
          have hcm2 : (dk + 1 < df + 1) := by omega
          go_wp2_with fail
          have hgk := Hgk.out
          go_roundg (gk - 1)
          case rel => exact ⟨k + 1, by omega, by omega, by omega, by go_num, by rw [Hs2.out], hb3⟩
          case measure => omega
        · have Hs2 : Hid (firstI l day rides per (k + 1) = f) := Lib.hid (by rw [Hs.out, if_neg (by omega)])
          have hcm2 : ¬ (dk + 1 < df + 1) := by omega
          go_wp2_with fail
          have hgk := Hgk.out
          go_roundg (gk - 1)
          case rel => exact ⟨k + 1, by omega, by omega, by omega, by go_num, by rw [Hs2.out], hb3⟩
          case measure => omega
      · have hke : k = n := by omega
        subst hke
        have hd : ¬ (k : Int) < (k : Int) := by omega
        go_wp2_with fail
        go_ret2
        exact ⟨ret2 (int_eq (by rw [Hr.out, if_neg (by omega)])) (int_eq (by rw [Hr.out, if_neg (by omega)])), hb⟩
  · have Hr : Hid (rFirstDue l day rides per = (0, askI l day rides per)) := Lib.hid (by rw [rFirstDue, if_neg ha])
    go_enter Tryz.func12, Tryz.ntmps12
    go_wp2_with fail
    refine (inspected_any h hB hn hF).mono ?_
    rintro e w1 ⟨rfl, b1⟩
    generalize askI l day rides per = cd at *
    go_wp2_with fail
    go_ret2
    exact ⟨ret2 (int_eq (by rw [Hr.out])) (int_eq (by rw [Hr.out])), b1⟩

end Go.Proofs.YtickepianllblaaGreatDoor
