/- Inspections: RidesLeft, OpenUntil, FirstDue: contracts of both sides. -/
import Derived.Test.YtickepianllblaaGreatDoorCb
namespace Go.Proofs.YtickepianllblaaGreatDoor
open Go.RowKit
set_option maxRecDepth 100000
set_option linter.unusedVariables false
set_option linter.unusedSimpArgs false

/-! ### RidesLeft -/
def leftTo (l : List CheckR) (rides : Int) : Nat → Int
  | 0 => 1000000 - rides
  | k + 1 => min (leftTo l rides k) (dueB (CheckR.at_ l k) rides)
theorem leftTo_succ (l : List CheckR) (rides : Int) (k : Nat) : leftTo l rides (k + 1) = min (leftTo l rides k) (dueB (CheckR.at_ l k) rides) := rfl
def rRidesLeft (l : List CheckR) (day rides : Int) : Int × Int :=
  if askI l day rides 0 = 0 then (if allTo (fun k => !overB (CheckR.at_ l k) day rides) l.length then (leftTo l rides l.length, 0) else (0, 3)) else (0, askI l day rides 0)
/-! ### OpenUntil, FirstDue -/
def daysI (x : CheckR) (day rides per : Int) : Int := if overB x day rides then -1 else if 0 < per then min (dueA x day) (dueB x rides / per) else dueA x day
theorem daysI_bd {x : CheckR} {day rides per : Int} (hx : fitC x) (hd : 0 ≤ day ∧ day ≤ 10000000000) (hr : 0 ≤ rides ∧ rides ≤ 10000000000) : -1 ≤ daysI x day rides per ∧ daysI x day rides per ≤ 20000000000 := by
  unfold daysI overB
  unfold fitC at hx
  by_cases c1 : dueA x day < 0
  · rw [decide_eq_true c1]; simp
  · by_cases c2 : dueB x rides < 0
    · rw [decide_eq_true c2]; simp
    · rw [decide_eq_false c1, decide_eq_false c2]
      simp only [Bool.or_false, Bool.false_eq_true, if_false]
      unfold dueA dueB at *
      split
      · have := Int.ediv_nonneg (show 0 ≤ x.LastRide + x.EveryRides - rides by omega) (show 0 ≤ per by omega)
        omega
      · omega

theorem overdueAfter_any {x : CheckR} {day rides per : Int} {w : World} (hx : fitC x) (hd : 0 ≤ day ∧ day ≤ 10000000000) (hr : 0 ≤ rides ∧ rides ≤ 10000000000) (hp : 0 ≤ per ∧ per ≤ 1000000) :
    Calls Tryz.prog 27 #[.agg #[.string x.Id, .int .i64 x.EveryDays, .int .i64 x.EveryRides, .int .i64 x.LastDay, .int .i64 x.LastRide], .int .i64 day, .int .i64 rides, .int .i64 per] w fun e w' => e = .returned (.int .i64 (daysI x day rides per + 1)) ∧ Below w.heap.size w w' := by
  have Hdef : Hid (daysI x day rides per = if overB x day rides then -1 else if 0 < per then min (dueA x day) (dueB x rides / per) else dueA x day) := Lib.hid rfl
  have Hov : Hid (overB x day rides = (decide (dueA x day < 0) || decide (dueB x rides < 0))) := Lib.hid rfl
  have hA : -20000000000 ≤ dueA x day ∧ dueA x day ≤ 20000000000 := by unfold dueA; unfold fitC at hx; omega
  have hB : -20000000000 ≤ dueB x rides ∧ dueB x rides ≤ 20000000000 := by unfold dueB; unfold fitC at hx; omega
  have pre : Below w.heap.size w (w.alloc (.cells #[.string x.Id, .int .i64 x.EveryDays, .int .i64 x.EveryRides, .int .i64 x.LastDay, .int .i64 x.LastRide] 39)) := (Below.refl _ _).alloc (Nat.le_refl _) _
  have hsz : w.heap.size < (w.alloc (.cells #[.string x.Id, .int .i64 x.EveryDays, .int .i64 x.EveryRides, .int .i64 x.LastDay, .int .i64 x.LastRide] 39)).heap.size := by simp

  have c0 : (w.alloc (.cells #[.string x.Id, .int .i64 x.EveryDays, .int .i64 x.EveryRides, .int .i64 x.LastDay, .int .i64 x.LastRide] 39)).cell? ⟨w.heap.size, 0, none⟩ = some (.string x.Id) := by simp
  have c1 : (w.alloc (.cells #[.string x.Id, .int .i64 x.EveryDays, .int .i64 x.EveryRides, .int .i64 x.LastDay, .int .i64 x.LastRide] 39)).cell? ⟨w.heap.size, 1, none⟩ = some (.int .i64 x.EveryDays) := by simp
  have c2 : (w.alloc (.cells #[.string x.Id, .int .i64 x.EveryDays, .int .i64 x.EveryRides, .int .i64 x.LastDay, .int .i64 x.LastRide] 39)).cell? ⟨w.heap.size, 2, none⟩ = some (.int .i64 x.EveryRides) := by simp
  have c3 : (w.alloc (.cells #[.string x.Id, .int .i64 x.EveryDays, .int .i64 x.EveryRides, .int .i64 x.LastDay, .int .i64 x.LastRide] 39)).cell? ⟨w.heap.size, 3, none⟩ = some (.int .i64 x.LastDay) := by simp
  have c4 : (w.alloc (.cells #[.string x.Id, .int .i64 x.EveryDays, .int .i64 x.EveryRides, .int .i64 x.LastDay, .int .i64 x.LastRide] 39)).cell? ⟨w.heap.size, 4, none⟩ = some (.int .i64 x.LastRide) := by simp
  go_enter Tryz.func27, Tryz.ntmps27
  go_wp2_with fail
  generalize w.alloc (.cells #[.string x.Id, .int .i64 x.EveryDays, .int .i64 x.EveryRides, .int .i64 x.LastDay, .int .i64 x.LastRide] 39) = W1 at *
  refine (isOverdue_any hx hd hr).mono ?_
  rintro e w2 ⟨rfl, b⟩
  have e0 := (b.cell (p := ⟨w.heap.size, 0, none⟩) hsz).trans c0
  have e1 := (b.cell (p := ⟨w.heap.size, 1, none⟩) hsz).trans c1
  have e2 := (b.cell (p := ⟨w.heap.size, 2, none⟩) hsz).trans c2
  have e3 := (b.cell (p := ⟨w.heap.size, 3, none⟩) hsz).trans c3
  have e4 := (b.cell (p := ⟨w.heap.size, 4, none⟩) hsz).trans c4
  have hb2 := pre.trans (b.mono pre.size)
  have hbs := hb2.size
  have hsz2 : w.heap.size < w2.heap.size := Nat.lt_of_lt_of_le hsz b.size
  clear c0 c1 c2 c3 c4 pre b hsz
  cases hov : overB x day rides with
  | true =>
    go_wp2_with fail
    go_ret
    exact ⟨ret_int (by rw [Hdef.out, hov]; rfl), hb2⟩
  | false =>
    have hnn : ¬ dueA x day < 0 ∧ ¬ dueB x rides < 0 := by
      have := Hov.out
      rw [hov] at this
      have h2 := this.symm
      rw [Bool.or_eq_false_iff, decide_eq_false_iff_not, decide_eq_false_iff_not] at h2
      exact h2
    have Hd2 : Hid (daysI x day rides per = if 0 < per then min (dueA x day) (dueB x rides / per) else dueA x day) := Lib.hid (by rw [Hdef.out, hov]; rfl)
    clear Hdef Hov hov
    go_wp2_with fail
    refine (dueIn_any hx hd hr).mono ?_
    rintro e w3 ⟨rfl, b⟩
    have hb3 := hb2.trans (b.mono hbs)
    clear e0 e1 e2 e3 e4
    generalize dueA x day = a at *
    generalize dueB x rides = bb at *
    by_cases c3 : 0 < per
    · have hdiv := div_le_self (x := bb) (y := per) (by omega) c3
      have htd : bb.tdiv per = bb / per := Int.tdiv_eq_ediv_of_nonneg (by omega)
      have hq : IntKind.i64.wrap (bb / per) = bb / per := IntWalk.i64_in _ (by omega)
      have hne : ¬ per = 0 := by omega
      generalize bb / per = q at *
      go_wp2_with fail
      all_goals go_ret
      all_goals exact ⟨ret_int (by rw [Hd2.out, if_pos (by omega)]; omega), hb3⟩
    · go_wp2_with fail
      go_ret
      exact ⟨ret_int (by rw [Hd2.out, if_neg (by omega)]), hb3⟩

def untilTo (l : List CheckR) (day rides per : Int) : Nat → Int
  | 0 => 100000 - day
  | k + 1 => min (untilTo l day rides per k) (daysI (CheckR.at_ l k) day rides per)
theorem untilTo_succ (l : List CheckR) (day rides per : Int) (k : Nat) : untilTo l day rides per (k + 1) = min (untilTo l day rides per k) (daysI (CheckR.at_ l k) day rides per) := rfl
def rOpenUntil (l : List CheckR) (day rides per : Int) : Int × Int :=
  if askI l day rides per = 0 then (if untilTo l day rides per l.length < 0 then (0, 3) else (day + untilTo l day rides per l.length, 0)) else (0, askI l day rides per)
def firstI (l : List CheckR) (day rides per : Int) : Nat → Nat
  | 0 => 0
  | k + 1 => if daysI (CheckR.at_ l k) day rides per < daysI (CheckR.at_ l (firstI l day rides per k)) day rides per then k else firstI l day rides per k
theorem firstI_succ (l : List CheckR) (day rides per : Int) (k : Nat) : firstI l day rides per (k + 1) = if daysI (CheckR.at_ l k) day rides per < daysI (CheckR.at_ l (firstI l day rides per k)) day rides per then k else firstI l day rides per k := rfl
theorem firstI_le (l : List CheckR) (day rides per : Int) : ∀ k, firstI l day rides per k ≤ k - 1 := by
  intro k
  induction k with
  | zero => simp [firstI]
  | succ k ih => rw [firstI_succ]; split <;> omega
def rFirstDue (l : List CheckR) (day rides per : Int) : Int × Int :=
  if askI l day rides per = 0 then (if l.length = 0 then (0, 3) else ((firstI l day rides per l.length : Nat), 0)) else (0, askI l day rides per)

set_option maxHeartbeats 1000000 in
theorem implRidesLeft_any {A : Option Addr} {n c B : Nat} {l : List CheckR} {day rides : Int} {w : World} (h : Reads w B 5 A n (l.flatMap CheckR.cells)) (hB : B ≤ w.heap.size) (hc : n ≤ c) (hn : n ≤ 1048576) (hF : ∀ x ∈ l, x.Id.size ≤ 1048576) :
    Calls Tryz.prog 10 #[.slice A n c, .int .i64 day, .int .i64 rides] w fun e w' => e = .returned (.tuple #[.int .i64 (rRidesLeft l day rides).1, .int .i64 (rRidesLeft l day rides).2]) ∧ Below w.heap.size w w' := by
  have HL := Lib.hid (CheckR.count h)
  by_cases ha : askI l day rides 0 = 0
  · obtain ⟨hck, hper, hday, hri, hla⟩ := askI_zero ha
    have Hat := Lib.hid (checks_at hck).1
    have hl16 := (checks_at hck).2
    have hln := HL.out
    have Ha := Lib.hid ha
    clear ha hck hla
    go_enter Tryz.func10, Tryz.ntmps10
    go_wp2_with fail
    refine (inspected_any h hB hn hF).mono ?_
    rintro e w1 ⟨rfl, b1⟩
    rw [Ha.out]
    have hs1 := b1.size
    have hq0 : IntKind.i64.wrap (1000000 - rides) = 1000000 - rides := IntWalk.i64_in _ (by omega)
    have Hr : Hid (rRidesLeft l day rides = if allTo (fun k => !overB (CheckR.at_ l k) day rides) n then (leftTo l rides n, 0) else (0, 3)) := Lib.hid (by rw [rRidesLeft, if_pos Ha.out, HL.out])
    go_wp2_with fail
    go_loopg [9, 25] n (fun gk v i wr => ∃ k : Nat, k ≤ n ∧ gk + k = n ∧ i = .int .i64 k ∧ v = .int .i64 (leftTo l rides k) ∧ Below w.heap.size w wr ∧ allTo (fun k => !overB (CheckR.at_ l k) day rides) k = true)
    case atStart => exact ⟨0, Nat.zero_le _, rfl, rfl, rfl, b1, rfl⟩
    case round =>
      obtain ⟨k, hk, hgk, rfl, rfl, hb, hall⟩ := hrel
      have Hgk := Lib.hid hgk
      have Hall := Lib.hid hall
      have hbs := hb.size
      have Hs := Lib.hid (leftTo_succ l rides k)
      clear hgk hall b1 hs1
      by_cases hlt : k < n
      · obtain ⟨ad, rfl, hbl, hc0, hc1, hc2, hc3, hc4⟩ := CheckR.rd (Reads.below h hb hB) hlt
        have hxk := fitC_of (Hat.out k (by rw [HL.out]; exact hlt))
        have hk0 : (0 : Int) ≤ (k : Int) := by omega
        have hk1 : (k : Int) < (n : Int) := by omega
        have hqk : IntKind.i64.wrap ((k : Int) + 1) = (k : Int) + 1 := IntWalk.i64_in _ (by omega)
        have pre : Below w.heap.size w (wr.alloc (.cells #[.string (CheckR.at_ l k).Id, .int .i64 (CheckR.at_ l k).EveryDays, .int .i64 (CheckR.at_ l k).EveryRides, .int .i64 (CheckR.at_ l k).LastDay, .int .i64 (CheckR.at_ l k).LastRide] 39)) := hb.alloc hbs _
        have hsz : wr.heap.size < (wr.alloc (.cells #[.string (CheckR.at_ l k).Id, .int .i64 (CheckR.at_ l k).EveryDays, .int .i64 (CheckR.at_ l k).EveryRides, .int .i64 (CheckR.at_ l k).LastDay, .int .i64 (CheckR.at_ l k).LastRide] 39)).heap.size := by simp
        have y0 : (wr.alloc (.cells #[.string (CheckR.at_ l k).Id, .int .i64 (CheckR.at_ l k).EveryDays, .int .i64 (CheckR.at_ l k).EveryRides, .int .i64 (CheckR.at_ l k).LastDay, .int .i64 (CheckR.at_ l k).LastRide] 39)).cell? ⟨wr.heap.size, 0, none⟩ = some (.string (CheckR.at_ l k).Id) := by simp
        have y1 : (wr.alloc (.cells #[.string (CheckR.at_ l k).Id, .int .i64 (CheckR.at_ l k).EveryDays, .int .i64 (CheckR.at_ l k).EveryRides, .int .i64 (CheckR.at_ l k).LastDay, .int .i64 (CheckR.at_ l k).LastRide] 39)).cell? ⟨wr.heap.size, 1, none⟩ = some (.int .i64 (CheckR.at_ l k).EveryDays) := by simp
        have y2 : (wr.alloc (.cells #[.string (CheckR.at_ l k).Id, .int .i64 (CheckR.at_ l k).EveryDays, .int .i64 (CheckR.at_ l k).EveryRides, .int .i64 (CheckR.at_ l k).LastDay, .int .i64 (CheckR.at_ l k).LastRide] 39)).cell? ⟨wr.heap.size, 2, none⟩ = some (.int .i64 (CheckR.at_ l k).EveryRides) := by simp
        have y3 : (wr.alloc (.cells #[.string (CheckR.at_ l k).Id, .int .i64 (CheckR.at_ l k).EveryDays, .int .i64 (CheckR.at_ l k).EveryRides, .int .i64 (CheckR.at_ l k).LastDay, .int .i64 (CheckR.at_ l k).LastRide] 39)).cell? ⟨wr.heap.size, 3, none⟩ = some (.int .i64 (CheckR.at_ l k).LastDay) := by simp
        have y4 : (wr.alloc (.cells #[.string (CheckR.at_ l k).Id, .int .i64 (CheckR.at_ l k).EveryDays, .int .i64 (CheckR.at_ l k).EveryRides, .int .i64 (CheckR.at_ l k).LastDay, .int .i64 (CheckR.at_ l k).LastRide] 39)).cell? ⟨wr.heap.size, 4, none⟩ = some (.int .i64 (CheckR.at_ l k).LastRide) := by simp
        have Hov : Hid (overB (CheckR.at_ l k) day rides = (decide (dueA (CheckR.at_ l k) day < 0) || decide (dueB (CheckR.at_ l k) rides < 0))) := Lib.hid rfl
        go_wp2_with fail
        generalize (wr.alloc (.cells #[.string (CheckR.at_ l k).Id, .int .i64 (CheckR.at_ l k).EveryDays, .int .i64 (CheckR.at_ l k).EveryRides, .int .i64 (CheckR.at_ l k).LastDay, .int .i64 (CheckR.at_ l k).LastRide] 39)) = W1 at *
        refine (isOverdue_any hxk (by omega) (by omega)).mono ?_
        rintro e w2 ⟨rfl, b⟩
        have z0 := (b.cell (p := ⟨wr.heap.size, 0, none⟩) hsz).trans y0
        have z1 := (b.cell (p := ⟨wr.heap.size, 1, none⟩) hsz).trans y1
        have z2 := (b.cell (p := ⟨wr.heap.size, 2, none⟩) hsz).trans y2
        have z3 := (b.cell (p := ⟨wr.heap.size, 3, none⟩) hsz).trans y3
        have z4 := (b.cell (p := ⟨wr.heap.size, 4, none⟩) hsz).trans y4
        have hb2 := pre.trans (b.mono pre.size)
        have hbs2 := hb2.size
        clear y0 y1 y2 y3 y4 pre b
        cases hov : overB (CheckR.at_ l k) day rides with
        | true =>
          have Hno : Hid (allTo (fun k => !overB (CheckR.at_ l k) day rides) n = false) := Lib.hid (allTo_false (k := k) hlt (by rw [hov]; rfl))
          go_wp2_with fail
          go_ret2
          exact ⟨ret2 (int_eq (by rw [Hr.out, Hno.out]; rfl)) (int_eq (by rw [Hr.out, Hno.out]; rfl)), hb2⟩
        | false =>
          have Hv := Lib.hid hov
          clear hov Hov
          go_wp2_with fail
          refine (dueIn_any hxk (by omega) (by omega)).mono ?_
          rintro e w3 ⟨rfl, b⟩
          have hb3 := hb2.trans (b.mono hbs2)
          clear z0 z1 z2 z3 z4 b hb2
          generalize dueB (CheckR.at_ l k) rides = bb at *
          go_wp2_with fail
          all_goals
            have hgk := Hgk.out
            go_roundg (gk - 1)
            case rel => exact ⟨k + 1, by omega, by omega, by go_num, int_eq (by rw [Hs.out]; omega), hb3, by rw [allTo_succ, Hall.out, Hv.out]; rfl⟩
            case measure => omega
      · have hke : k = n := by omega
        subst hke
        have hd : ¬ (k : Int) < (k : Int) := by omega
        go_wp2_with fail
        go_ret2
        exact ⟨ret2 (int_eq (by rw [Hr.out, Hall.out]; rfl)) (int_eq (by rw [Hr.out, Hall.out]; rfl)), hb⟩
  · have Hr : Hid (rRidesLeft l day rides = (0, askI l day rides 0)) := Lib.hid (by rw [rRidesLeft, if_neg ha])
    go_enter Tryz.func10, Tryz.ntmps10
    go_wp2_with fail
    refine (inspected_any h hB hn hF).mono ?_
    rintro e w1 ⟨rfl, b1⟩
    generalize askI l day rides 0 = cd at *
    go_wp2_with fail
    go_ret2
    exact ⟨ret2 (int_eq (by rw [Hr.out])) (int_eq (by rw [Hr.out])), b1⟩

set_option maxHeartbeats 1000000 in
theorem implOpenUntil_any {A : Option Addr} {n c B : Nat} {l : List CheckR} {day rides per : Int} {w : World} (h : Reads w B 5 A n (l.flatMap CheckR.cells)) (hB : B ≤ w.heap.size) (hc : n ≤ c) (hn : n ≤ 1048576) (hF : ∀ x ∈ l, x.Id.size ≤ 1048576) :
    Calls Tryz.prog 11 #[.slice A n c, .int .i64 day, .int .i64 rides, .int .i64 per] w fun e w' => e = .returned (.tuple #[.int .i64 (rOpenUntil l day rides per).1, .int .i64 (rOpenUntil l day rides per).2]) ∧ Below w.heap.size w w' := by
  have HL := Lib.hid (CheckR.count h)
  by_cases ha : askI l day rides per = 0
  · obtain ⟨hck, hper, hday, hri, hla⟩ := askI_zero ha
    have Hat := Lib.hid (checks_at hck).1
    have hl16 := (checks_at hck).2
    have hln := HL.out
    have Ha := Lib.hid ha
    clear ha hck hla
    go_enter Tryz.func11, Tryz.ntmps11
    go_wp2_with fail
    refine (inspected_any h hB hn hF).mono ?_
    rintro e w1 ⟨rfl, b1⟩
    rw [Ha.out]
    have hs1 := b1.size
    have hq0 : IntKind.i64.wrap (100000 - day) = 100000 - day := IntWalk.i64_in _ (by omega)
    have Hr : Hid (rOpenUntil l day rides per = if untilTo l day rides per n < 0 then (0, 3) else (day + untilTo l day rides per n, 0)) := Lib.hid (by rw [rOpenUntil, if_pos Ha.out, HL.out])
    go_wp2_with fail
    go_loopg [11, 24] n (fun gk v i wr => ∃ k : Nat, k ≤ n ∧ gk + k = n ∧ i = .int .i64 k ∧ v = .int .i64 ((day + untilTo l day rides per k)) ∧ -1 ≤ untilTo l day rides per k ∧ untilTo l day rides per k ≤ 100000 ∧ Below w.heap.size w wr)
    case atStart => exact ⟨0, Nat.zero_le _, rfl, rfl, int_eq (by show 100000 = day + (100000 - day); omega), by show -1 ≤ 100000 - day; omega, by show 100000 - day ≤ _; omega, b1⟩
    case round =>
      obtain ⟨k, hk, hgk, rfl, rfl, hu0, hu1, hb⟩ := hrel
      have Hgk := Lib.hid hgk
      have hbs := hb.size
      have Hs := Lib.hid (untilTo_succ l day rides per k)
      clear hgk b1 hs1
      by_cases hlt : k < n
      · obtain ⟨ad, rfl, hbl, hc0, hc1, hc2, hc3, hc4⟩ := CheckR.rd (Reads.below h hb hB) hlt
        have hxk := fitC_of (Hat.out k (by rw [HL.out]; exact hlt))
        have hk0 : (0 : Int) ≤ (k : Int) := by omega
        have hk1 : (k : Int) < (n : Int) := by omega
        have hqk : IntKind.i64.wrap ((k : Int) + 1) = (k : Int) + 1 := IntWalk.i64_in _ (by omega)
        have pre : Below w.heap.size w (wr.alloc (.cells #[.string (CheckR.at_ l k).Id, .int .i64 (CheckR.at_ l k).EveryDays, .int .i64 (CheckR.at_ l k).EveryRides, .int .i64 (CheckR.at_ l k).LastDay, .int .i64 (CheckR.at_ l k).LastRide] 39)) := hb.alloc hbs _
        have hsz : wr.heap.size < (wr.alloc (.cells #[.string (CheckR.at_ l k).Id, .int .i64 (CheckR.at_ l k).EveryDays, .int .i64 (CheckR.at_ l k).EveryRides, .int .i64 (CheckR.at_ l k).LastDay, .int .i64 (CheckR.at_ l k).LastRide] 39)).heap.size := by simp
        have y0 : (wr.alloc (.cells #[.string (CheckR.at_ l k).Id, .int .i64 (CheckR.at_ l k).EveryDays, .int .i64 (CheckR.at_ l k).EveryRides, .int .i64 (CheckR.at_ l k).LastDay, .int .i64 (CheckR.at_ l k).LastRide] 39)).cell? ⟨wr.heap.size, 0, none⟩ = some (.string (CheckR.at_ l k).Id) := by simp
        have y1 : (wr.alloc (.cells #[.string (CheckR.at_ l k).Id, .int .i64 (CheckR.at_ l k).EveryDays, .int .i64 (CheckR.at_ l k).EveryRides, .int .i64 (CheckR.at_ l k).LastDay, .int .i64 (CheckR.at_ l k).LastRide] 39)).cell? ⟨wr.heap.size, 1, none⟩ = some (.int .i64 (CheckR.at_ l k).EveryDays) := by simp
        have y2 : (wr.alloc (.cells #[.string (CheckR.at_ l k).Id, .int .i64 (CheckR.at_ l k).EveryDays, .int .i64 (CheckR.at_ l k).EveryRides, .int .i64 (CheckR.at_ l k).LastDay, .int .i64 (CheckR.at_ l k).LastRide] 39)).cell? ⟨wr.heap.size, 2, none⟩ = some (.int .i64 (CheckR.at_ l k).EveryRides) := by simp
        have y3 : (wr.alloc (.cells #[.string (CheckR.at_ l k).Id, .int .i64 (CheckR.at_ l k).EveryDays, .int .i64 (CheckR.at_ l k).EveryRides, .int .i64 (CheckR.at_ l k).LastDay, .int .i64 (CheckR.at_ l k).LastRide] 39)).cell? ⟨wr.heap.size, 3, none⟩ = some (.int .i64 (CheckR.at_ l k).LastDay) := by simp
        have y4 : (wr.alloc (.cells #[.string (CheckR.at_ l k).Id, .int .i64 (CheckR.at_ l k).EveryDays, .int .i64 (CheckR.at_ l k).EveryRides, .int .i64 (CheckR.at_ l k).LastDay, .int .i64 (CheckR.at_ l k).LastRide] 39)).cell? ⟨wr.heap.size, 4, none⟩ = some (.int .i64 (CheckR.at_ l k).LastRide) := by simp
        have hdb := daysI_bd (per := per) hxk (show 0 ≤ day ∧ day ≤ 10000000000 by omega) (show 0 ≤ rides ∧ rides ≤ 10000000000 by omega)
        go_wp2_with fail
        generalize (wr.alloc (.cells #[.string (CheckR.at_ l k).Id, .int .i64 (CheckR.at_ l k).EveryDays, .int .i64 (CheckR.at_ l k).EveryRides, .int .i64 (CheckR.at_ l k).LastDay, .int .i64 (CheckR.at_ l k).LastRide] 39)) = W1 at *
        refine (overdueAfter_any hxk (by omega) (by omega) hper).mono ?_
        rintro e w2 ⟨rfl, b⟩
        have hb2 := pre.trans (b.mono pre.size)
        clear y0 y1 y2 y3 y4 pre b
        generalize daysI (CheckR.at_ l k) day rides per = dk at *
        generalize untilTo l day rides per k = u at *
        have hq1 : IntKind.i64.wrap (day + (dk + 1)) = day + (dk + 1) := IntWalk.i64_in _ (by omega)
        have hq2 : IntKind.i64.wrap (day + (dk + 1) - 1) = day + (dk + 1) - 1 := IntWalk.i64_in _ (by omega)
        go_wp2_with fail
        all_goals
          have hgk := Hgk.out
          go_roundg (gk - 1)
          case rel => exact ⟨k + 1, by omega, by omega, by go_num, int_eq (by rw [Hs.out]; omega), by rw [Hs.out]; omega, by rw [Hs.out]; omega, hb2⟩
          case measure => omega
      · have hke : k = n := by omega
        subst hke
        have hd : ¬ (k : Int) < (k : Int) := by omega
        generalize untilTo l day rides per k = u at *
        have hq3 : IntKind.i64.wrap (day + u) = day + u := IntWalk.i64_in _ (by omega)
        by_cases hm : u < 0
        · have hm2 : day + u < day := by omega
          go_wp2_with fail
          go_ret2
          exact ⟨ret2 (int_eq (by rw [Hr.out, if_pos (by omega)])) (int_eq (by rw [Hr.out, if_pos (by omega)])), hb⟩
        · have hm2 : ¬ day + u < day := by omega
          go_wp2_with fail
          go_ret2
          exact ⟨ret2 (int_eq (by rw [Hr.out, if_neg (by omega)])) (int_eq (by rw [Hr.out, if_neg (by omega)])), hb⟩
  · have Hr : Hid (rOpenUntil l day rides per = (0, askI l day rides per)) := Lib.hid (by rw [rOpenUntil, if_neg ha])
    go_enter Tryz.func11, Tryz.ntmps11
    go_wp2_with fail
    refine (inspected_any h hB hn hF).mono ?_
    rintro e w1 ⟨rfl, b1⟩
    generalize askI l day rides per = cd at *
    go_wp2_with fail
    go_ret2
    exact ⟨ret2 (int_eq (by rw [Hr.out])) (int_eq (by rw [Hr.out])), b1⟩

end Go.Proofs.YtickepianllblaaGreatDoor
