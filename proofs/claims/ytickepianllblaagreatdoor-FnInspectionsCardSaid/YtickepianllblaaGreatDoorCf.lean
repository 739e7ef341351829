/- Inspections: DueIn: contracts of both sides. -/
import Derived.Test.YtickepianllblaaGreatDoorCb
namespace Go.Proofs.YtickepianllblaaGreatDoor
open Go.RowKit
set_option maxRecDepth 100000
set_option linter.unusedVariables false
set_option linter.unusedSimpArgs false

theorem checkB_one (x : CheckR) : checkBAll [x] = checkB x := by
  show (allTo (checkBAt [x]) (0 + 1) && decide (1 ≤ 16)) = checkB x
  rw [allTo_succ, allTo_zero]
  show (true && (checkB x && (decide (0 = 0) || sLt (CheckR.at_ [x] (0 - 1)).Id (CheckR.at_ [x] 0).Id)) && decide (1 ≤ 16)) = checkB x
  simp
theorem anyC_one (f : CheckR → Bool) (x : CheckR) : anyC f [x] = f x := by
  cases h : f x with
  | true => exact anyC_of (k := 0) (by simp) h
  | false =>
    refine anyC_none ?_
    show allTo (fun k => !f (CheckR.at_ [x] k)) (0 + 1) = true
    rw [allTo_succ, allTo_zero]
    show (true && !f x) = true
    rw [h]; rfl
theorem ask_one (x : CheckR) (day rides : Int) : askI [x] day rides 0 = if checkB x then (if inB day 0 100000 && inB rides 0 1000000 then (if lateB x day rides then 6 else 0) else 2) else 1 := by
  show (if checkBAll [x] then (if true && (inB day 0 100000 && inB rides 0 1000000) then (if anyC (fun x => lateB x day rides) [x] then 6 else 0) else 2) else 1) = _
  rw [checkB_one, anyC_one (fun x => lateB x day rides) x, Bool.true_and]
def rDueIn (x : CheckR) (day rides : Int) : Int × Int × Int :=
  if askI [x] day rides 0 = 0 then (dueA x day, dueB x rides, 0) else (0, 0, askI [x] day rides 0)
theorem reads_one (w : World) (x : CheckR) (e : Nat) : Reads (w.alloc (.cells #[.string x.Id, .int .i64 x.EveryDays, .int .i64 x.EveryRides, .int .i64 x.LastDay, .int .i64 x.LastRide] e)) (w.heap.size + 1) 5 (some ⟨w.heap.size, 0, none⟩) 1 ([x].flatMap CheckR.cells) := by
  refine ⟨by simp [CheckR.cells], fun _ => ⟨_, rfl, Nat.lt_succ_self _, fun j u hu => ?_⟩⟩
  have hj : j < 5 := by have := (List.getElem?_eq_some_iff.1 hu).1; simpa [CheckR.cells] using this
  rcases (show j = 0 ∨ j = 1 ∨ j = 2 ∨ j = 3 ∨ j = 4 by omega) with rfl | rfl | rfl | rfl | rfl <;> (simp [CheckR.cells] at hu; subst hu; simp [Addr.add])
set_option maxHeartbeats 1000000 in
theorem implDueIn_any {a0 : ByteArray} {a1 a2 a3 a4 day rides : Int} {w : World} (hs : a0.size ≤ 1048576) :
    Calls Tryz.prog 15 #[.agg #[.string a0, .int .i64 a1, .int .i64 a2, .int .i64 a3, .int .i64 a4], .int .i64 day, .int .i64 rides] w fun e w' => e = .returned (.tuple #[.int .i64 (rDueIn ⟨a0, a1, a2, a3, a4⟩ day rides).1, .int .i64 (rDueIn ⟨a0, a1, a2, a3, a4⟩ day rides).2.1, .int .i64 (rDueIn ⟨a0, a1, a2, a3, a4⟩ day rides).2.2]) ∧ Below w.heap.size w w' := by
  have hrd := reads_one (w.alloc (.cells #[.string a0, .int .i64 a1, .int .i64 a2, .int .i64 a3, .int .i64 a4] 39)) ⟨a0, a1, a2, a3, a4⟩ 39
  simp only [] at hrd
  have pre : Below w.heap.size w ((w.alloc (.cells #[.string a0, .int .i64 a1, .int .i64 a2, .int .i64 a3, .int .i64 a4] 39)).alloc (.cells #[.string a0, .int .i64 a1, .int .i64 a2, .int .i64 a3, .int .i64 a4] 39)) := ((Below.refl _ _).alloc (Nat.le_refl _) _).alloc (by simp) _
  have hsz : w.heap.size + 2 = ((w.alloc (.cells #[.string a0, .int .i64 a1, .int .i64 a2, .int .i64 a3, .int .i64 a4] 39)).alloc (.cells #[.string a0, .int .i64 a1, .int .i64 a2, .int .i64 a3, .int .i64 a4] 39)).heap.size := by simp
  have hsz1 : (w.alloc (.cells #[.string a0, .int .i64 a1, .int .i64 a2, .int .i64 a3, .int .i64 a4] 39)).heap.size = w.heap.size + 1 := by simp
  rw [hsz1] at hrd
  have y0 : ((w.alloc (.cells #[.string a0, .int .i64 a1, .int .i64 a2, .int .i64 a3, .int .i64 a4] 39)).alloc (.cells #[.string a0, .int .i64 a1, .int .i64 a2, .int .i64 a3, .int .i64 a4] 39)).cell? ⟨w.heap.size, 0, none⟩ = some (.string a0) := by simp
  have y1 : ((w.alloc (.cells #[.string a0, .int .i64 a1, .int .i64 a2, .int .i64 a3, .int .i64 a4] 39)).alloc (.cells #[.string a0, .int .i64 a1, .int .i64 a2, .int .i64 a3, .int .i64 a4] 39)).cell? ⟨w.heap.size, 1, none⟩ = some (.int .i64 a1) := by simp
  have y2 : ((w.alloc (.cells #[.string a0, .int .i64 a1, .int .i64 a2, .int .i64 a3, .int .i64 a4] 39)).alloc (.cells #[.string a0, .int .i64 a1, .int .i64 a2, .int .i64 a3, .int .i64 a4] 39)).cell? ⟨w.heap.size, 2, none⟩ = some (.int .i64 a2) := by simp
  have y3 : ((w.alloc (.cells #[.string a0, .int .i64 a1, .int .i64 a2, .int .i64 a3, .int .i64 a4] 39)).alloc (.cells #[.string a0, .int .i64 a1, .int .i64 a2, .int .i64 a3, .int .i64 a4] 39)).cell? ⟨w.heap.size, 3, none⟩ = some (.int .i64 a3) := by simp
  have y4 : ((w.alloc (.cells #[.string a0, .int .i64 a1, .int .i64 a2, .int .i64 a3, .int .i64 a4] 39)).alloc (.cells #[.string a0, .int .i64 a1, .int .i64 a2, .int .i64 a3, .int .i64 a4] 39)).cell? ⟨w.heap.size, 4, none⟩ = some (.int .i64 a4) := by simp
  go_enter Tryz.func15, Tryz.ntmps15
  go_wp2_with fail
  generalize ((w.alloc (.cells #[.string a0, .int .i64 a1, .int .i64 a2, .int .i64 a3, .int .i64 a4] 39)).alloc (.cells #[.string a0, .int .i64 a1, .int .i64 a2, .int .i64 a3, .int .i64 a4] 39)) = W1 at *
  refine (inspected_any (l := [⟨a0, a1, a2, a3, a4⟩]) hrd (by omega) (by omega) (fun x hx => by rw [List.mem_singleton.1 hx]; exact hs)).mono ?_
  rintro e w1 ⟨rfl, b⟩
  have z0 := (b.cell (p := ⟨w.heap.size, 0, none⟩) (by simp only []; omega)).trans y0
  have z1 := (b.cell (p := ⟨w.heap.size, 1, none⟩) (by simp only []; omega)).trans y1
  have z2 := (b.cell (p := ⟨w.heap.size, 2, none⟩) (by simp only []; omega)).trans y2
  have z3 := (b.cell (p := ⟨w.heap.size, 3, none⟩) (by simp only []; omega)).trans y3
  have z4 := (b.cell (p := ⟨w.heap.size, 4, none⟩) (by simp only []; omega)).trans y4
  have b1 := pre.trans (b.mono pre.size)
  have hs1 := b1.size
  clear y0 y1 y2 y3 y4 b pre hrd hsz hsz1
  by_cases ha : askI [⟨a0, a1, a2, a3, a4⟩] day rides 0 = 0
  · have Hr : Hid (rDueIn ⟨a0, a1, a2, a3, a4⟩ day rides = (dueA ⟨a0, a1, a2, a3, a4⟩ day, dueB ⟨a0, a1, a2, a3, a4⟩ rides, 0)) := Lib.hid (by rw [rDueIn, if_pos ha])
    obtain ⟨hck, hper, hday, hri, hla⟩ := askI_zero ha
    rw [checkB_one] at hck
    have hx := fitC_of hck
    rw [ha]
    clear hck ha hla
    go_wp2_with fail
    refine (dueIn_any (x := ⟨a0, a1, a2, a3, a4⟩) hx (by omega) (by omega)).mono ?_
    rintro e w2 ⟨rfl, b⟩
    clear z0 z1 z2 z3 z4
    go_wp2_with fail
    go_ret3
    exact ⟨ret3 (int_eq (by rw [Hr.out])) (int_eq (by rw [Hr.out])) (int_eq (by rw [Hr.out])), b1.trans (b.mono hs1)⟩
  · have Hr : Hid (rDueIn ⟨a0, a1, a2, a3, a4⟩ day rides = (0, 0, askI [⟨a0, a1, a2, a3, a4⟩] day rides 0)) := Lib.hid (by rw [rDueIn, if_neg ha])
    generalize askI [⟨a0, a1, a2, a3, a4⟩] day rides 0 = cd at *
    go_wp2_with fail
    go_ret3
    exact ⟨ret3 (int_eq (by rw [Hr.out])) (int_eq (by rw [Hr.out])) (int_eq (by rw [Hr.out])), b1⟩

set_option maxHeartbeats 1000000 in
theorem specDueIn_any {a0 : ByteArray} {a1 a2 a3 a4 day rides : Int} {w : World} (hs : a0.size ≤ 1048576) :
    Calls Tryz.prog 21 #[.agg #[.string a0, .int .i64 a1, .int .i64 a2, .int .i64 a3, .int .i64 a4], .int .i64 day, .int .i64 rides] w fun e w' => e = .returned (.tuple #[.int .i64 (rDueIn ⟨a0, a1, a2, a3, a4⟩ day rides).1, .int .i64 (rDueIn ⟨a0, a1, a2, a3, a4⟩ day rides).2.1, .int .i64 (rDueIn ⟨a0, a1, a2, a3, a4⟩ day rides).2.2]) ∧ Below w.heap.size w w' := by
  have Hr : Hid (rDueIn ⟨a0, a1, a2, a3, a4⟩ day rides = if (if checkB ⟨a0, a1, a2, a3, a4⟩ then (if inB day 0 100000 && inB rides 0 1000000 then (if lateB ⟨a0, a1, a2, a3, a4⟩ day rides then (6 : Int) else 0) else 2) else 1) = 0 then (dueA ⟨a0, a1, a2, a3, a4⟩ day, dueB ⟨a0, a1, a2, a3, a4⟩ rides, 0) else (0, 0, if checkB ⟨a0, a1, a2, a3, a4⟩ then (if inB day 0 100000 && inB rides 0 1000000 then (if lateB ⟨a0, a1, a2, a3, a4⟩ day rides then (6 : Int) else 0) else 2) else 1)) := Lib.hid (by rw [rDueIn, ask_one])
  have pre : Below w.heap.size w (w.alloc (.cells #[.string a0, .int .i64 a1, .int .i64 a2, .int .i64 a3, .int .i64 a4] 39)) := (Below.refl _ _).alloc (Nat.le_refl _) _
  have y0 : (w.alloc (.cells #[.string a0, .int .i64 a1, .int .i64 a2, .int .i64 a3, .int .i64 a4] 39)).cell? ⟨w.heap.size, 0, none⟩ = some (.string a0) := by simp
  have y1 : (w.alloc (.cells #[.string a0, .int .i64 a1, .int .i64 a2, .int .i64 a3, .int .i64 a4] 39)).cell? ⟨w.heap.size, 1, none⟩ = some (.int .i64 a1) := by simp
  have y2 : (w.alloc (.cells #[.string a0, .int .i64 a1, .int .i64 a2, .int .i64 a3, .int .i64 a4] 39)).cell? ⟨w.heap.size, 2, none⟩ = some (.int .i64 a2) := by simp
  have y3 : (w.alloc (.cells #[.string a0, .int .i64 a1, .int .i64 a2, .int .i64 a3, .int .i64 a4] 39)).cell? ⟨w.heap.size, 3, none⟩ = some (.int .i64 a3) := by simp
  have y4 : (w.alloc (.cells #[.string a0, .int .i64 a1, .int .i64 a2, .int .i64 a3, .int .i64 a4] 39)).cell? ⟨w.heap.size, 4, none⟩ = some (.int .i64 a4) := by simp
  go_enter Tryz.func21, Tryz.ntmps21
  go_wp2_with fail
  generalize (w.alloc (.cells #[.string a0, .int .i64 a1, .int .i64 a2, .int .i64 a3, .int .i64 a4] 39)) = W1 at *
  refine (l21One_any (p := ⟨w.heap.size, 0, none⟩) (x := ⟨a0, a1, a2, a3, a4⟩) y0 (by simpa using y1) (by simpa using y2) (by simpa using y3) (by simpa using y4) hs).mono ?_
  rintro e w1 ⟨rfl, rfl⟩
  have Hx : Hid (checkB ⟨a0, a1, a2, a3, a4⟩ = true → fitC ⟨a0, a1, a2, a3, a4⟩) := Lib.hid fitC_of
  cases v0 : checkB ⟨a0, a1, a2, a3, a4⟩ with
  | false =>
    go_wp2_with fail
    go_ret3
    exact ⟨ret3 (int_eq (by rw [Hr.out, v0]; rfl)) (int_eq (by rw [Hr.out, v0]; rfl)) (int_eq (by rw [Hr.out, v0]; rfl)), pre⟩
  | true =>
  have hx := Hx.out v0
  have V0 := Lib.hid v0
  clear v0 Hx
  cases v2 : inB day 0 100000 with
  | false =>
    go_wp2_with (first | (go_at_call 39; refine (l21Count_any _ _).mono ?_; rintro e w' ⟨rfl, rfl⟩) | (go_at_call 38; refine (l21Day_any _ _).mono ?_; rintro e w' ⟨rfl, rfl⟩))
    go_ret3
    exact ⟨ret3 (int_eq (by rw [Hr.out, V0.out, v2]; rfl)) (int_eq (by rw [Hr.out, V0.out, v2]; rfl)) (int_eq (by rw [Hr.out, V0.out, v2]; rfl)), pre⟩
  | true =>
  cases v3 : inB rides 0 1000000 with
  | false =>
    go_wp2_with (first | (go_at_call 39; refine (l21Count_any _ _).mono ?_; rintro e w' ⟨rfl, rfl⟩) | (go_at_call 38; refine (l21Day_any _ _).mono ?_; rintro e w' ⟨rfl, rfl⟩))
    go_ret3
    exact ⟨ret3 (int_eq (by rw [Hr.out, V0.out, v2, v3]; rfl)) (int_eq (by rw [Hr.out, V0.out, v2, v3]; rfl)) (int_eq (by rw [Hr.out, V0.out, v2, v3]; rfl)), pre⟩
  | true =>
  have hday := inB_true.1 v2
  have hri := inB_true.1 v3
  go_wp2_with (first | (go_at_call 39; refine (l21Count_any _ _).mono ?_; rintro e w' ⟨rfl, rfl⟩) | (go_at_call 38; refine (l21Day_any _ _).mono ?_; rintro e w' ⟨rfl, rfl⟩))
  refine (l21Since_any (p := ⟨w.heap.size, 0, none⟩) (x := ⟨a0, a1, a2, a3, a4⟩) y0 (by simpa using y1) (by simpa using y2) (by simpa using y3) (by simpa using y4)).mono ?_
  rintro e w1 ⟨rfl, rfl⟩
  cases v4 : lateB ⟨a0, a1, a2, a3, a4⟩ day rides with
  | true =>
    go_wp2_with fail
    go_ret3
    exact ⟨ret3 (int_eq (by rw [Hr.out, V0.out, v2, v3, v4]; rfl)) (int_eq (by rw [Hr.out, V0.out, v2, v3, v4]; rfl)) (int_eq (by rw [Hr.out, V0.out, v2, v3, v4]; rfl)), pre⟩
  | false =>
    have V4 := Lib.hid v4
    clear v4
    go_wp2_with fail
    refine (l21Due_any (p := ⟨w.heap.size, 0, none⟩) (x := ⟨a0, a1, a2, a3, a4⟩) y0 (by simpa using y1) (by simpa using y2) (by simpa using y3) (by simpa using y4) hx (by omega) (by omega)).mono ?_
    rintro e w2 ⟨rfl, d, rfl⟩
    go_wp2_with fail
    go_ret3
    exact ⟨ret3 (int_eq (by rw [Hr.out, V0.out, v2, v3, V4.out]; rfl)) (int_eq (by rw [Hr.out, V0.out, v2, v3, V4.out]; rfl)) (int_eq (by rw [Hr.out, V0.out, v2, v3, V4.out]; rfl)), below_drewN pre _⟩
end Go.Proofs.YtickepianllblaaGreatDoor
