/- Inspections: OverdueChecks, IsOpen: contracts of both sides. -/
import Derived.Test.YtickepianllblaaGreatDoorCb
import Derived.Test.YtickepianllblaaGreatDoorX
namespace Go.Proofs.YtickepianllblaaGreatDoor
open Go.RowKit
set_option maxRecDepth 100000
set_option linter.unusedVariables false
set_option linter.unusedSimpArgs false

theorem info_string : (Tryz.prog.info? 9).map (fun i => (i.zero, i.size, i.bytes)) = some (some (.string ByteArray.empty), 1, 16) := by kernel_rfl
/-- The names of the first k that are overdue. -/
def overTo (l : List CheckR) (day rides : Int) : Nat → List ByteArray
  | 0 => []
  | k + 1 => overTo l day rides k ++ (if overB (CheckR.at_ l k) day rides then [(CheckR.at_ l k).Id] else [])
theorem overTo_succ (l : List CheckR) (day rides : Int) (k : Nat) : overTo l day rides (k + 1) = overTo l day rides k ++ (if overB (CheckR.at_ l k) day rides then [(CheckR.at_ l k).Id] else []) := rfl
theorem overTo_len (l : List CheckR) (day rides : Int) (k : Nat) : (overTo l day rides k).length ≤ k := by
  induction k with
  | zero => simp [overTo]
  | succ k ih => rw [overTo_succ, List.length_append]; split <;> simp <;> omega
def rOverdueChecks (l : List CheckR) (day rides : Int) : List ByteArray × Int :=
  if askI l day rides 0 = 0 then (overTo l day rides l.length, 0) else ([], askI l day rides 0)
def rIsOpen (l : List CheckR) (day rides : Int) : Bool := decide (askI l day rides 0 = 0) && decide ((overTo l day rides l.length).length = 0)

set_option maxHeartbeats 1000000 in
theorem l21Overdue_any {A : Option Addr} {n c B : Nat} {l : List CheckR} {day rides : Int} {w : World} (h : Reads w B 5 A n (l.flatMap CheckR.cells)) (hB : B ≤ w.heap.size) (hn : n ≤ 1048576) (ha : askI l day rides 0 = 0) :
    Calls Tryz.prog 36 #[.slice A n c, .int .i64 day, .int .i64 rides] w fun e w' => ∃ A2 c2, e = .returned (.slice A2 (overTo l day rides n).length c2) ∧
      Own w' w.heap.size 9 1 A2 (overTo l day rides n).length c2 ((overTo l day rides n).map Value.string) ∧ Below w.heap.size w w' := by
  have HL := Lib.hid (CheckR.count h)
  obtain ⟨i0, hi, hz0, hz1, hz2⟩ := info_parts info_string
  obtain ⟨hck, hper, hday, hri, hla⟩ := askI_zero ha
  have Hat := Lib.hid (checks_at hck).1
  clear ha hck hla
  go_enter Tryz.func36, Tryz.ntmps36
  go_wp2_with fail
  go_loopg [7, 8] n (fun gk v i wr => ∃ (k : Nat) (A2 : Option Addr) (c2 : Nat), k ≤ n ∧ gk + k = n ∧ i = .int .i64 k ∧ v = .slice A2 (overTo l day rides k).length c2 ∧
      Own wr w.heap.size 9 1 A2 (overTo l day rides k).length c2 ((overTo l day rides k).map Value.string) ∧ Below w.heap.size w wr)
  case atStart => exact ⟨0, _, 0, by omega, by omega, rfl, rfl, Own.empty _ _ _ _ (Nat.le_refl _), (Below.refl _ _).alloc (Nat.le_refl _) _⟩
  case round =>
    obtain ⟨k, A2, c2, hk, hgk, rfl, rfl, ho, hb⟩ := hrel
    have Hgk := Lib.hid hgk
    have hbs := hb.size
    have Hs0 := Lib.hid (overTo_succ l day rides k)
    have hlen := overTo_len l day rides k
    clear hgk
    by_cases hlt : k < n
    · obtain ⟨ad, rfl, hbl, hc0, hc1, hc2, hc3, hc4⟩ := CheckR.rd (Reads.below h hb hB) hlt
      have hxk := fitC_of (Hat.out k (by rw [HL.out]; exact hlt))
      have hk0 : (0 : Int) ≤ (k : Int) := by omega
      have hk1 : (k : Int) < (n : Int) := by omega
      have hqk : IntKind.i64.wrap ((k : Int) + 1) = (k : Int) + 1 := IntWalk.i64_in _ (by omega)
      go_wp2_with fail
      refine (l21Over_any hc0 hc1 hc2 hc3 hc4 hxk (by omega) (by omega)).mono ?_
      rintro e w2 ⟨rfl, d, rfl⟩
      cases hov : overB (CheckR.at_ l k) day rides with
      | false =>
        have Hs : Hid (overTo l day rides (k + 1) = overTo l day rides k) := Lib.hid (by rw [Hs0.out, hov]; simp)
        clear hov Hs0
        go_wp2_with fail
        have hgk := Hgk.out
        go_roundg (gk - 1)
        case rel => exact ⟨k + 1, A2, c2, by omega, by omega, by go_num, by rw [Hs.out], by rw [Hs.out]; exact own_drewN ho _, below_drewN hb _⟩
        case measure => omega
      | true =>
        have Hs : Hid (overTo l day rides (k + 1) = overTo l day rides k ++ [(CheckR.at_ l k).Id]) := Lib.hid (by rw [Hs0.out, hov]; simp)
        have Hl : Hid ((overTo l day rides (k + 1)).length = (overTo l day rides k).length + 1) := Lib.hid (by rw [Hs.out, List.length_append]; rfl)
        clear hov Hs0
        go_wp2_with (at_builtin; refine wpList_app rfl _ _ 27 rfl 9 i0 _ 1 16 Tryz.underlying27 hi hz0 hz1 hz2 rfl (by omega) (by omega) w.heap.size _ _ _ _ rfl ((own_drewN ho _).alloc _) ⟨wr.heap.size, 0, none⟩ 1 1 [.string (CheckR.at_ l k).Id] rfl rfl (cell_one_new _ _ _) (by simp [Value.oneCell']) (by omega) (by simp; omega) ?_)
        intro A3 c3 w3 ho3 hgA hbA hat
        have ho4 : Own w3 w.heap.size 9 1 A3 (overTo l day rides (k + 1)).length c3 ((overTo l day rides (k + 1)).map Value.string) := by rw [Hs.out, List.map_append, List.length_append]; exact ho3
        have hb4 : Below w.heap.size w w3 := ((below_drewN hb _).alloc hbs _).trans hbA
        clear ho3 hgA hbA hat ho
        go_wp2_with fail
        have hgk := Hgk.out
        go_roundg (gk - 1)
        case rel => exact ⟨k + 1, A3, c3, by omega, by omega, by go_num, by rw [Hl.out], ho4, hb4⟩
        case measure => omega
    · have hke : k = n := by omega
      subst hke
      have hd : ¬ (k : Int) < (k : Int) := by omega
      go_wp2_with fail
      go_ret
      exact ⟨A2, c2, rfl, ho, hb⟩

set_option maxHeartbeats 1000000 in
theorem specOverdueChecks_any {A : Option Addr} {n c B : Nat} {l : List CheckR} {day rides : Int} {w : World} (h : Reads w B 5 A n (l.flatMap CheckR.cells)) (hB : B ≤ w.heap.size) (hc : n ≤ c) (hn : n ≤ 1048576) (hF : ∀ x ∈ l, x.Id.size ≤ 1048576) :
    Calls Tryz.prog 19 #[.slice A n c, .int .i64 day, .int .i64 rides] w fun e w' => ∃ A2 n2 c2, e = .returned (.tuple #[.slice A2 n2 c2, .int .i64 (rOverdueChecks l day rides).2]) ∧ n2 ≤ 1048576 ∧
      Own w' w.heap.size 9 1 A2 n2 c2 ((rOverdueChecks l day rides).1.map Value.string) ∧ Below w.heap.size w w' := by
  have HL := Lib.hid (CheckR.count h)
  by_cases ha : askI l day rides 0 = 0
  · have Ha := Lib.hid ha
    have Hr : Hid (rOverdueChecks l day rides = (overTo l day rides n, 0)) := Lib.hid (by rw [rOverdueChecks, if_pos ha, HL.out])
    have hlen := overTo_len l day rides n
    clear ha
    go_enter Tryz.func19, Tryz.ntmps19
    go_wp2_with fail
    refine (l21Ask_any h hB hn hF).mono ?_
    rintro e w1 ⟨rfl, b1⟩
    rw [Ha.out]
    have hs1 := b1.size
    go_wp2_with fail
    refine (l21Overdue_any (Reads.below h b1 hB) (by omega) hn Ha.out).mono ?_
    rintro e w2 ⟨A2, c2, rfl, o2, b2⟩
    go_wp2_with fail
    go_ret2
    exact ⟨A2, _, c2, by rw [Hr.out]; rfl, by omega, by rw [Hr.out]; exact o2.mono hs1, b1.trans (b2.mono hs1)⟩
  · have Hr : Hid (rOverdueChecks l day rides = ([], askI l day rides 0)) := Lib.hid (by rw [rOverdueChecks, if_neg ha])
    go_enter Tryz.func19, Tryz.ntmps19
    go_wp2_with fail
    refine (l21Ask_any h hB hn hF).mono ?_
    rintro e w1 ⟨rfl, b1⟩
    generalize askI l day rides 0 = cd at *
    go_wp2_with fail
    go_ret2
    exact ⟨none, 0, 0, by rw [Hr.out]; rfl, by omega, by rw [Hr.out]; exact Own.nil _ _ _ _, b1⟩

set_option maxHeartbeats 1000000 in
theorem implOverdueChecks_len {A : Option Addr} {n c B : Nat} {l : List CheckR} {day rides : Int} {w : World} (h : Reads w B 5 A n (l.flatMap CheckR.cells)) (hB : B ≤ w.heap.size) (hc : n ≤ c) (hn : n ≤ 1048576) (hF : ∀ x ∈ l, x.Id.size ≤ 1048576) :
    Calls Tryz.prog 8 #[.slice A n c, .int .i64 day, .int .i64 rides] w fun e w' => ∃ A2 n2 c2, e = .returned (.tuple #[.slice A2 n2 c2, .int .i64 (rOverdueChecks l day rides).2]) ∧ n2 = (rOverdueChecks l day rides).1.length ∧ n2 ≤ 1048576 ∧
      Own w' w.heap.size 9 1 A2 n2 c2 ((rOverdueChecks l day rides).1.map Value.string) ∧ Below w.heap.size w w' := by
  have HL := Lib.hid (CheckR.count h)
  obtain ⟨i0, hi, hz0, hz1, hz2⟩ := info_parts info_string
  by_cases ha : askI l day rides 0 = 0
  · have Hr : Hid (rOverdueChecks l day rides = (overTo l day rides n, 0)) := Lib.hid (by rw [rOverdueChecks, if_pos ha, HL.out])
    obtain ⟨hck, hper, hday, hri, hla⟩ := askI_zero ha
    have Hat := Lib.hid (checks_at hck).1
    have Ha := Lib.hid ha
    clear ha hck hla
    go_enter Tryz.func8, Tryz.ntmps8
    go_wp2_with fail
    refine (inspected_any h hB hn hF).mono ?_
    rintro e w1 ⟨rfl, b1⟩
    rw [Ha.out]
    have hs1 := b1.size
    go_wp2_with fail
    go_loopg [9, 21] n (fun gk v i wr => ∃ (k : Nat) (A2 : Option Addr) (c2 : Nat), k ≤ n ∧ gk + k = n ∧ i = .int .i64 k ∧ v = .slice A2 (overTo l day rides k).length c2 ∧
        Own wr w.heap.size 9 1 A2 (overTo l day rides k).length c2 ((overTo l day rides k).map Value.string) ∧ Below w.heap.size w wr)
    case atStart => exact ⟨0, _, 0, by omega, by omega, rfl, rfl, Own.nil _ _ _ _, b1⟩
    case round =>
      obtain ⟨k, A2, c2, hk, hgk, rfl, rfl, ho, hb⟩ := hrel
      have Hgk := Lib.hid hgk
      have hbs := hb.size
      have Hs0 := Lib.hid (overTo_succ l day rides k)
      have hlen := overTo_len l day rides k
      clear hgk b1 hs1
      by_cases hlt : k < n
      · obtain ⟨ad, rfl, hbl, hc0, hc1, hc2, hc3, hc4⟩ := CheckR.rd (Reads.below h hb hB) hlt
        have hxk := fitC_of (Hat.out k (by rw [HL.out]; exact hlt))
        have hk0 : (0 : Int) ≤ (k : Int) := by omega
        have hk1 : (k : Int) < (n : Int) := by omega
        have hqk : IntKind.i64.wrap ((k : Int) + 1) = (k : Int) + 1 := IntWalk.i64_in _ (by omega)
        have pre : Below w.heap.size w (wr.alloc (.cells #[.string (CheckR.at_ l k).Id, .int .i64 (CheckR.at_ l k).EveryDays, .int .i64 (CheckR.at_ l k).EveryRides, .int .i64 (CheckR.at_ l k).LastDay, .int .i64 (CheckR.at_ l k).LastRide] 39)) := hb.alloc hbs _
        have hsz : wr.heap.size < (wr.alloc (.cells #[.string (CheckR.at_ l k).Id, .int .i64 (CheckR.at_ l k).EveryDays, .int .i64 (CheckR.at_ l k).EveryRides, .int .i64 (CheckR.at_ l k).LastDay, .int .i64 (CheckR.at_ l k).LastRide] 39)).heap.size := by simp
        have ho1 := ho.alloc (.cells #[.string (CheckR.at_ l k).Id, .int .i64 (CheckR.at_ l k).EveryDays, .int .i64 (CheckR.at_ l k).EveryRides, .int .i64 (CheckR.at_ l k).LastDay, .int .i64 (CheckR.at_ l k).LastRide] 39)
        have y0 : (wr.alloc (.cells #[.string (CheckR.at_ l k).Id, .int .i64 (CheckR.at_ l k).EveryDays, .int .i64 (CheckR.at_ l k).EveryRides, .int .i64 (CheckR.at_ l k).LastDay, .int .i64 (CheckR.at_ l k).LastRide] 39)).cell? ⟨wr.heap.size, 0, none⟩ = some (.string (CheckR.at_ l k).Id) := by simp
        have y1 : (wr.alloc (.cells #[.string (CheckR.at_ l k).Id, .int .i64 (CheckR.at_ l k).EveryDays, .int .i64 (CheckR.at_ l k).EveryRides, .int .i64 (CheckR.at_ l k).LastDay, .int .i64 (CheckR.at_ l k).LastRide] 39)).cell? ⟨wr.heap.size, 1, none⟩ = some (.int .i64 (CheckR.at_ l k).EveryDays) := by simp
        have y2 : (wr.alloc (.cells #[.string (CheckR.at_ l k).Id, .int .i64 (CheckR.at_ l k).EveryDays, .int .i64 (CheckR.at_ l k).EveryRides, .int .i64 (CheckR.at_ l k).LastDay, .int .i64 (CheckR.at_ l k).LastRide] 39)).cell? ⟨wr.heap.size, 2, none⟩ = some (.int .i64 (CheckR.at_ l k).EveryRides) := by simp
        have y3 : (wr.alloc (.cells #[.string (CheckR.at_ l k).Id, .int .i64 (CheckR.at_ l k).EveryDays, .int .i64 (CheckR.at_ l k).EveryRides, .int .i64 (CheckR.at_ l k).LastDay, .int .i64 (CheckR.at_ l k).LastRide] 39)).cell? ⟨wr.heap.size, 3, none⟩ = some (.int .i64 (CheckR.at_ l k).LastDay) := by simp
        have y4 : (wr.alloc (.cells #[.string (CheckR.at_ l k).Id, .int .i64 (CheckR.at_ l k).EveryDays, .int .i64 (CheckR.at_ l k).EveryRides, .int .i64 (CheckR.at_ l k).LastDay, .int .i64 (CheckR.at_ l k).LastRide] 39)).cell? ⟨wr.heap.size, 4, none⟩ = some (.int .i64 (CheckR.at_ l k).LastRide) := by simp
        clear ho
        go_wp2_with fail
        generalize (wr.alloc (.cells #[.string (CheckR.at_ l k).Id, .int .i64 (CheckR.at_ l k).EveryDays, .int .i64 (CheckR.at_ l k).EveryRides, .int .i64 (CheckR.at_ l k).LastDay, .int .i64 (CheckR.at_ l k).LastRide] 39)) = W1 at *
        refine (isOverdue_any hxk (by omega) (by omega)).mono ?_
        rintro e w2 ⟨rfl, b⟩
        have z0 := (b.cell (p := ⟨wr.heap.size, 0, none⟩) hsz).trans y0
        have hb2 := pre.trans (b.mono pre.size)
        have hbs2 := hb2.size
        replace ho1 := ho1.below b
        clear y0 y1 y2 y3 y4 pre b
        cases hov : overB (CheckR.at_ l k) day rides with
        | false =>
          have Hs : Hid (overTo l day rides (k + 1) = overTo l day rides k) := Lib.hid (by rw [Hs0.out, hov]; simp)
          clear hov Hs0
          go_wp2_with fail
          have hgk := Hgk.out
          go_roundg (gk - 1)
          case rel => exact ⟨k + 1, A2, c2, by omega, by omega, by go_num, by rw [Hs.out], by rw [Hs.out]; exact ho1, hb2⟩
          case measure => omega
        | true =>
          have Hs : Hid (overTo l day rides (k + 1) = overTo l day rides k ++ [(CheckR.at_ l k).Id]) := Lib.hid (by rw [Hs0.out, hov]; simp)
          have Hl : Hid ((overTo l day rides (k + 1)).length = (overTo l day rides k).length + 1) := Lib.hid (by rw [Hs.out, List.length_append]; rfl)
          clear hov Hs0
          go_wp2_with (at_builtin; refine wpList_app rfl _ _ 27 rfl 9 i0 _ 1 16 Tryz.underlying27 hi hz0 hz1 hz2 rfl (by omega) (by omega) w.heap.size _ _ _ _ rfl (ho1.alloc _) ⟨w2.heap.size, 0, none⟩ 1 1 [.string (CheckR.at_ l k).Id] rfl rfl (cell_one_new _ _ _) (by simp [Value.oneCell']) (by omega) (by simp; omega) ?_)
          intro A3 c3 w3 ho3 hgA hbA hat
          have ho4 : Own w3 w.heap.size 9 1 A3 (overTo l day rides (k + 1)).length c3 ((overTo l day rides (k + 1)).map Value.string) := by rw [Hs.out, List.map_append, List.length_append]; exact ho3
          have hb4 : Below w.heap.size w w3 := (hb2.alloc hbs2 _).trans hbA
          clear ho3 hgA hbA hat ho1 z0
          go_wp2_with fail
          have hgk := Hgk.out
          go_roundg (gk - 1)
          case rel => exact ⟨k + 1, A3, c3, by omega, by omega, by go_num, by rw [Hl.out], ho4, hb4⟩
          case measure => omega
      · have hke : k = n := by omega
        subst hke
        have hd : ¬ (k : Int) < (k : Int) := by omega
        go_wp2_with fail
        go_ret2
        exact ⟨A2, _, c2, by rw [Hr.out]; rfl, by rw [Hr.out], by omega, by rw [Hr.out]; exact ho, hb⟩
  · have Hr : Hid (rOverdueChecks l day rides = ([], askI l day rides 0)) := Lib.hid (by rw [rOverdueChecks, if_neg ha])
    go_enter Tryz.func8, Tryz.ntmps8
    go_wp2_with fail
    refine (inspected_any h hB hn hF).mono ?_
    rintro e w1 ⟨rfl, b1⟩
    generalize askI l day rides 0 = cd at *
    go_wp2_with fail
    go_ret2
    exact ⟨none, 0, 0, by rw [Hr.out]; rfl, by rw [Hr.out]; rfl, by omega, by rw [Hr.out]; exact Own.nil _ _ _ _, b1⟩

theorem implOverdueChecks_any {A : Option Addr} {n c B : Nat} {l : List CheckR} {day rides : Int} {w : World} (h : Reads w B 5 A n (l.flatMap CheckR.cells)) (hB : B ≤ w.heap.size) (hc : n ≤ c) (hn : n ≤ 1048576) (hF : ∀ x ∈ l, x.Id.size ≤ 1048576) :
    Calls Tryz.prog 8 #[.slice A n c, .int .i64 day, .int .i64 rides] w fun e w' => ∃ A2 n2 c2, e = .returned (.tuple #[.slice A2 n2 c2, .int .i64 (rOverdueChecks l day rides).2]) ∧ n2 ≤ 1048576 ∧
      Own w' w.heap.size 9 1 A2 n2 c2 ((rOverdueChecks l day rides).1.map Value.string) ∧ Below w.heap.size w w' :=
  (implOverdueChecks_len h hB hc hn hF).mono fun _ _ ⟨A2, n2, c2, h1, _, h3, h4, h5⟩ => ⟨A2, n2, c2, h1, h3, h4, h5⟩

set_option maxHeartbeats 1000000 in
theorem implIsOpen_any {A : Option Addr} {n c B : Nat} {l : List CheckR} {day rides : Int} {w : World} (h : Reads w B 5 A n (l.flatMap CheckR.cells)) (hB : B ≤ w.heap.size) (hc : n ≤ c) (hn : n ≤ 1048576) (hF : ∀ x ∈ l, x.Id.size ≤ 1048576) :
    Calls Tryz.prog 9 #[.slice A n c, .int .i64 day, .int .i64 rides] w fun e w' => e = .returned (.bool (rIsOpen l day rides)) ∧ Below w.heap.size w w' := by
  have Hr : Hid (rIsOpen l day rides = (decide ((rOverdueChecks l day rides).2 = 0) && decide ((rOverdueChecks l day rides).1.length = 0))) := Lib.hid (by
    unfold rIsOpen rOverdueChecks
    by_cases ha : askI l day rides 0 = 0 <;> simp [ha])
  go_enter Tryz.func9, Tryz.ntmps9
  go_wp2_with fail
  refine (implOverdueChecks_len h hB hc hn hF).mono ?_
  rintro e w1 ⟨A2, n2, c2, rfl, hl, hm, o1, b1⟩
  subst hl
  clear o1
  generalize (rOverdueChecks l day rides).2 = cd at *
  generalize (rOverdueChecks l day rides).1.length = n2 at *
  by_cases v1 : cd = 0 <;> by_cases v2 : n2 = 0
  · have d2 : ((n2 : Int) == 0) = true := by simp; omega
    subst v1
    go_wp2_with fail
    go_ret
    exact ⟨ret_bool (by rw [Hr.out, decide_eq_true v2]; rfl), b1⟩
  · have d2 : ((n2 : Int) == 0) = false := by simp; omega
    subst v1
    go_wp2_with fail
    go_ret
    exact ⟨ret_bool (by rw [Hr.out, decide_eq_false v2]; rfl), b1⟩
  · have d1 : (cd == 0) = false := by simpa using v1
    go_wp2_with fail
    go_ret
    exact ⟨ret_bool (by rw [Hr.out, decide_eq_false v1]; rfl), b1⟩
  · have d1 : (cd == 0) = false := by simpa using v1
    go_wp2_with fail
    go_ret
    exact ⟨ret_bool (by rw [Hr.out, decide_eq_false v1]; rfl), b1⟩

set_option maxHeartbeats 1000000 in
theorem specIsOpen_any {A : Option Addr} {n c B : Nat} {l : List CheckR} {day rides : Int} {w : World} (h : Reads w B 5 A n (l.flatMap CheckR.cells)) (hB : B ≤ w.heap.size) (hc : n ≤ c) (hn : n ≤ 1048576) (hF : ∀ x ∈ l, x.Id.size ≤ 1048576) :
    Calls Tryz.prog 20 #[.slice A n c, .int .i64 day, .int .i64 rides] w fun e w' => e = .returned (.bool (rIsOpen l day rides)) ∧ Below w.heap.size w w' := by
  have HL := Lib.hid (CheckR.count h)
  by_cases ha : askI l day rides 0 = 0
  · have Ha := Lib.hid ha
    have Hr : Hid (rIsOpen l day rides = decide ((overTo l day rides n).length = 0)) := Lib.hid (by rw [rIsOpen, decide_eq_true ha, HL.out]; rfl)
    clear ha
    go_enter Tryz.func20, Tryz.ntmps20
    go_wp2_with fail
    refine (l21Ask_any h hB hn hF).mono ?_
    rintro e w1 ⟨rfl, b1⟩
    rw [Ha.out]
    have hs1 := b1.size
    go_wp2_with fail
    refine (l21Overdue_any (Reads.below h b1 hB) (by omega) hn Ha.out).mono ?_
    rintro e w2 ⟨A2, c2, rfl, o2, b2⟩
    generalize (overTo l day rides n).length = m at *
    by_cases v2 : m = 0
    · have d2 : ((m : Int) == 0) = true := by simp; omega
      go_wp2_with fail
      go_ret
      exact ⟨ret_bool (by rw [Hr.out, decide_eq_true v2]), b1.trans (b2.mono hs1)⟩
    · have d2 : ((m : Int) == 0) = false := by simp; omega
      go_wp2_with fail
      go_ret
      exact ⟨ret_bool (by rw [Hr.out, decide_eq_false v2]), b1.trans (b2.mono hs1)⟩
  · have Hr : Hid (rIsOpen l day rides = false) := Lib.hid (by rw [rIsOpen, decide_eq_false ha]; rfl)
    go_enter Tryz.func20, Tryz.ntmps20
    go_wp2_with fail
    refine (l21Ask_any h hB hn hF).mono ?_
    rintro e w1 ⟨rfl, b1⟩
    have d1 : (askI l day rides 0 == 0) = false := by simpa using ha
    generalize askI l day rides 0 = cd at *
    go_wp2_with fail
    go_ret
    exact ⟨ret_bool (by rw [Hr.out]), b1⟩
end Go.Proofs.YtickepianllblaaGreatDoor
