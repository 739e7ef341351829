/- Inspections: ChecksIn: contracts of both sides. -/
import Derived.Test.YtickepianllblaaGreatDoorCb
import Derived.Test.YtickepianllblaaGreatDoorX
import Derived.Test.YtickepianllblaaGreatDoorA
namespace Go.Proofs.YtickepianllblaaGreatDoor
open Go.RowKit
set_option maxRecDepth 100000
set_option linter.unusedVariables false
set_option linter.unusedSimpArgs false

/-! ### plain -/
def stepD (s : CheckR × Int) (d r : Int) : CheckR × Int := if overB s.1 d r then (⟨s.1.Id, s.1.EveryDays, s.1.EveryRides, d, r⟩, s.2 + 1) else s
/-- An inspection, and how often it was done, after k days. -/
def simT (x : CheckR) (day rides per : Int) : Nat → CheckR × Int
  | 0 => (x, 0)
  | k + 1 => stepD (simT x day rides per k) (day + ((k : Int) + 1)) (rides + ((k : Int) + 1) * per)
theorem simT_succ (x : CheckR) (day rides per : Int) (k : Nat) : simT x day rides per (k + 1) = stepD (simT x day rides per k) (day + ((k : Int) + 1)) (rides + ((k : Int) + 1) * per) := rfl
theorem sim_bd {x : CheckR} {day rides per : Int} (hx : fitC x) (hd : 0 ≤ day ∧ day ≤ 100000) (hr : 0 ≤ rides ∧ rides ≤ 1000000) (hp : 0 ≤ per ∧ per ≤ 1000000) : ∀ k, k ≤ 1000 → fitC (simT x day rides per k).1 ∧ 0 ≤ (simT x day rides per k).2 ∧ (simT x day rides per k).2 ≤ k := by
  intro k
  induction k with
  | zero => intro _; exact ⟨hx, Int.le_refl _, Int.le_refl _⟩
  | succ k ih =>
    intro hk
    obtain ⟨h1, h2, h3⟩ := ih (by omega)
    have hm := mul_bd (x := (k : Int) + 1) (y := per) (X := 1000) (Y := 1000000) (by omega) (by omega) hp.1 hp.2
    rw [simT_succ]
    unfold stepD
    split
    · unfold fitC at h1 ⊢
      simp only []
      omega
    · exact ⟨h1, h2, by omega⟩
def countsTo (l : List CheckR) (day rides per : Int) (D k : Nat) : List Int := (List.range k).map fun j => (simT (CheckR.at_ l j) day rides per D).2
theorem countsTo_succ (l : List CheckR) (day rides per : Int) (D k : Nat) : countsTo l day rides per D (k + 1) = countsTo l day rides per D k ++ [(simT (CheckR.at_ l k) day rides per D).2] := by
  simp [countsTo, List.range_succ]
theorem countsTo_len (l : List CheckR) (day rides per : Int) (D k : Nat) : (countsTo l day rides per D k).length = k := by simp [countsTo]
def rChecksIn (l : List CheckR) (day rides per days : Int) : List Int × Int :=
  if askI l day rides per = 0 then (if inB days 0 1000 then (countsTo l day rides per days.toNat l.length, 0) else ([], 2)) else ([], askI l day rides per)

theorem own_oneC (w : World) (x : CheckR) (e : Nat) : Own (w.alloc (.cells #[.string x.Id, .int .i64 x.EveryDays, .int .i64 x.EveryRides, .int .i64 x.LastDay, .int .i64 x.LastRide] e)) w.heap.size e 5 (some ⟨w.heap.size, 0, none⟩) 1 1 ([x].flatMap CheckR.cells) :=
  ⟨by simp [CheckR.cells], .inr ⟨w.heap.size, 1, #[.string x.Id, .int .i64 x.EveryDays, .int .i64 x.EveryRides, .int .i64 x.LastDay, .int .i64 x.LastRide], rfl, Nat.le_refl _, heap_alloc_new w _, Nat.le_refl _, by simp [maxLen], rfl, by simp [CheckR.cells]⟩⟩

set_option maxHeartbeats 2000000 in
theorem implChecksIn_any {A : Option Addr} {n c B : Nat} {l : List CheckR} {day rides per days : Int} {w : World} (h : Reads w B 5 A n (l.flatMap CheckR.cells)) (hB : B ≤ w.heap.size) (hc : n ≤ c) (hn : n ≤ 1048576) (hF : ∀ x ∈ l, x.Id.size ≤ 1048576) :
    Calls Tryz.prog 13 #[.slice A n c, .int .i64 day, .int .i64 rides, .int .i64 per, .int .i64 days] w fun e w' => ∃ A2 n2 c2, e = .returned (.tuple #[.slice A2 n2 c2, .int .i64 (rChecksIn l day rides per days).2]) ∧ n2 ≤ 1048576 ∧
      Own w' w.heap.size 2 1 A2 n2 c2 ((rChecksIn l day rides per days).1.map (Value.int .i64)) ∧ Below w.heap.size w w' := by
  have HL := Lib.hid (CheckR.count h)
  obtain ⟨i0, hi, hz0, hz1, hz2⟩ := info_parts info_int
  by_cases ha : askI l day rides per = 0
  · obtain ⟨hck, hper, hday, hri, hla⟩ := askI_zero ha
    have Hat := Lib.hid (checks_at hck).1
    have hl16 := (checks_at hck).2
    have hln := HL.out
    have Ha := Lib.hid ha
    cases hv : inB days 0 1000 with
    | false =>
      have Hr : Hid (rChecksIn l day rides per days = ([], 2)) := Lib.hid (by rw [rChecksIn, if_pos ha, hv]; rfl)
      have Hv := Lib.hid hv
      clear ha hck hla hv
      go_enter Tryz.func13, Tryz.ntmps13
      go_wp2_with fail
      refine (inspected_any h hB hn hF).mono ?_
      rintro e w1 ⟨rfl, b1⟩
      rw [Ha.out]
      go_wp2_with (go_at_call 28; refine (within_any _ _ _ _).mono ?_; rintro e w' ⟨rfl, rfl⟩; rw [Hv.out])
      go_ret2
      exact ⟨none, 0, 0, by rw [Hr.out]; rfl, by omega, by rw [Hr.out]; exact Own.nil _ _ _ _, b1⟩
    | true =>
    have hdb := inB_true.1 hv
    have Hv := Lib.hid hv
    obtain ⟨D, rfl⟩ := Int.eq_ofNat_of_zero_le hdb.1
    have Hr : Hid (rChecksIn l day rides per (D : Int) = (countsTo l day rides per D n, 0)) := Lib.hid (by rw [rChecksIn, if_pos ha, hv, HL.out]; rfl)
    have hD : D ≤ 1000 := by omega
    clear ha hck hla hv
    go_enter Tryz.func13, Tryz.ntmps13
    go_wp2_with fail
    refine (inspected_any h hB hn hF).mono ?_
    rintro e w1 ⟨rfl, b1⟩
    rw [Ha.out]
    go_wp2_with (go_at_call 28; refine (within_any _ _ _ _).mono ?_; rintro e w' ⟨rfl, rfl⟩; rw [Hv.out])
    go_loopg [13, 31] n (fun gk v i wr => ∃ (k : Nat) (A2 : Option Addr) (c2 : Nat), k ≤ n ∧ gk + k = n ∧ i = .int .i64 k ∧ v = .slice A2 k c2 ∧
        Own wr w.heap.size 2 1 A2 k c2 ((countsTo l day rides per D k).map (Value.int .i64)) ∧ Below w.heap.size w wr)
    case atStart => exact ⟨0, _, 0, by omega, by omega, rfl, rfl, Own.nil _ _ _ _, b1⟩
    case round =>
      clear b1
      obtain ⟨k, A2, c2, hk, hgk, rfl, rfl, ho, hb⟩ := hrel
      have Hgk := Lib.hid hgk
      have hbs := hb.size
      have Hs0 := Lib.hid (countsTo_succ l day rides per D k)
      clear hgk
      by_cases hlt : k < n
      · obtain ⟨ad, rfl, hbl, hc0, hc1, hc2, hc3, hc4⟩ := CheckR.rd (Reads.below h hb hB) hlt
        have hxk := fitC_of (Hat.out k (by rw [HL.out]; exact hlt))
        have hk0 : (0 : Int) ≤ (k : Int) := by omega
        have hk1 : (k : Int) < (n : Int) := by omega
        have hqk : IntKind.i64.wrap ((k : Int) + 1) = (k : Int) + 1 := IntWalk.i64_in _ (by omega)
        have pre := hb.alloc hbs (.cells #[.string (CheckR.at_ l k).Id, .int .i64 (CheckR.at_ l k).EveryDays, .int .i64 (CheckR.at_ l k).EveryRides, .int .i64 (CheckR.at_ l k).LastDay, .int .i64 (CheckR.at_ l k).LastRide] 39)
        have ho1 := ho.alloc (.cells #[.string (CheckR.at_ l k).Id, .int .i64 (CheckR.at_ l k).EveryDays, .int .i64 (CheckR.at_ l k).EveryRides, .int .i64 (CheckR.at_ l k).LastDay, .int .i64 (CheckR.at_ l k).LastRide] 39)
        have hob := own_oneC wr (CheckR.at_ l k) 39
        have hap := apart_of ho hob (Nat.le_refl _)
        obtain ⟨gko, hgko⟩ : ∃ gko, gko = gk := ⟨_, rfl⟩
        clear ho
        go_wp2_with fail
        generalize (wr.alloc (.cells #[.string (CheckR.at_ l k).Id, .int .i64 (CheckR.at_ l k).EveryDays, .int .i64 (CheckR.at_ l k).EveryRides, .int .i64 (CheckR.at_ l k).LastDay, .int .i64 (CheckR.at_ l k).LastRide] 39)) = W1 at *
        generalize wr.heap.size = g at *
        clear hc0 hc1 hc2 hc3 hc4 hb hbl
        generalize CheckR.at_ l k = x at *
        go_loopg [16, 17] D (fun gk vc vi wr => ∃ j : Nat, j ≤ D ∧ gk + j = D ∧ vi = .int .i64 ((j : Int) + 1) ∧ vc = .int .i64 (simT x day rides per j).2 ∧
          Own wr g 39 5 (some ⟨g, 0, none⟩) 1 1 ([(simT x day rides per j).1].flatMap CheckR.cells) ∧ Own wr w.heap.size 2 1 A2 k c2 ((countsTo l day rides per D k).map (Value.int .i64)) ∧ Below w.heap.size w wr)
        case atStart => exact ⟨0, by omega, by omega, rfl, rfl, hob, ho1, pre⟩
        case round =>
          clear hob ho1 pre
          obtain ⟨j, hj, hgk2, rfl, rfl, hob, ho1, hb⟩ := hrel
          have Hgk2 := Lib.hid hgk2
          have hbs2 := hb.size
          clear hgk2
          obtain ⟨hX, hC0, hC1⟩ := sim_bd hxk hday hri hper j (by omega)
          have Hst := Lib.hid (simT_succ x day rides per j)
          by_cases hlt2 : j < D
          · generalize hst : simT x day rides per j = st at *
            obtain ⟨X, C⟩ := st
            simp only [] at hX hC0 hC1 hob
            have c0 : wr.cell? ⟨g, 0, none⟩ = some (.string X.Id) := CheckR.own_get (k := 0) (j := 0) hob (by omega) (by omega)
            have c1 : wr.cell? ⟨g, 1, none⟩ = some (.int .i64 X.EveryDays) := CheckR.own_get (k := 0) (j := 1) hob (by omega) (by omega)
            have c2' : wr.cell? ⟨g, 2, none⟩ = some (.int .i64 X.EveryRides) := CheckR.own_get (k := 0) (j := 2) hob (by omega) (by omega)
            have c3 : wr.cell? ⟨g, 3, none⟩ = some (.int .i64 X.LastDay) := CheckR.own_get (k := 0) (j := 3) hob (by omega) (by omega)
            have c4 : wr.cell? ⟨g, 4, none⟩ = some (.int .i64 X.LastRide) := CheckR.own_get (k := 0) (j := 4) hob (by omega) (by omega)
            have hm := mul_bd (x := (j : Int) + 1) (y := per) (X := 1000) (Y := 1000000) (by omega) (by omega) hper.1 hper.2
            have hq1 : IntKind.i64.wrap (day + ((j : Int) + 1)) = day + ((j : Int) + 1) := IntWalk.i64_in _ (by omega)
            have hq2 : IntKind.i64.wrap (((j : Int) + 1) * per) = ((j : Int) + 1) * per := IntWalk.i64_in _ (by omega)
            have hq3 : IntKind.i64.wrap (rides + ((j : Int) + 1) * per) = rides + ((j : Int) + 1) * per := IntWalk.i64_in _ (by omega)
            have hq4 : IntKind.i64.wrap ((j : Int) + 1 + 1) = (j : Int) + 1 + 1 := IntWalk.i64_in _ (by omega)
            have hq5 : IntKind.i64.wrap (C + 1) = C + 1 := IntWalk.i64_in _ (by omega)
            have hle : decide ((j : Int) + 1 ≤ (D : Int)) = true := by simp; omega
            have hle2 : (j : Int) + 1 ≤ (D : Int) := by omega
            go_wp2_with fail
            refine (isOverdue_any (x := X) hX (by omega) (by omega)).mono ?_
            rintro e w2 ⟨rfl, b⟩
            have hob2 := hob.below b
            have ho2 := ho1.below b
            have hb2 := hb.trans (b.mono hbs2)
            have hgl := (hob2.block_lt _ rfl).2.2.2
            clear hob ho1 hb b c0 c1 c2' c3 c4
            cases hov : overB X (day + ((j : Int) + 1)) (rides + ((j : Int) + 1) * per) with
            | false =>
              have Hs : Hid (simT x day rides per (j + 1) = (X, C)) := Lib.hid (by rw [Hst.out]; unfold stepD; rw [hov]; rfl)
              clear hov Hst
              go_wp2_with fail
              have hgk2 := Hgk2.out
              go_roundg (gk - 1)
              case rel => exact ⟨j + 1, by omega, by omega, by go_num, by rw [Hs.out], by rw [Hs.out]; exact hob2, ho2, hb2⟩
              case measure => omega
            | true =>
              have Hs : Hid (simT x day rides per (j + 1) = (⟨X.Id, X.EveryDays, X.EveryRides, day + ((j : Int) + 1), rides + ((j : Int) + 1) * per⟩, C + 1)) := Lib.hid (by rw [Hst.out]; unfold stepD; rw [hov]; rfl)
              clear hov Hst
              have d3 : w2.cell? ⟨g, 3, none⟩ = some (.int .i64 X.LastDay) := CheckR.own_get (k := 0) (j := 3) hob2 (by omega) (by omega)
              have d4 : w2.cell? ⟨g, 4, none⟩ = some (.int .i64 X.LastRide) := CheckR.own_get (k := 0) (j := 4) hob2 (by omega) (by omega)
              have f3 := hob2.frozenAt (j := 3)
              have f4 := hob2.frozenAt (j := 4)
              have s3 := hob2.stored (j := 3) (.int .i64 (day + ((j : Int) + 1)))
              have s4 := s3.1.stored (j := 4) (.int .i64 (rides + ((j : Int) + 1) * per))
              have hgr := s3.2.trans s4.2
              have ho3 := own_grown (A1 := some ⟨g, 0, none⟩) ho2 hgr hap.symm
              have hb3 := (hb2.setCell (p := ⟨g, 3, none⟩) hbs (.int .i64 (day + ((j : Int) + 1)))).setCell (p := ⟨g, 4, none⟩) hbs (.int .i64 (rides + ((j : Int) + 1) * per))
              have hob3 := s4.1
              simp only [List.flatMap_cons, List.flatMap_nil, CheckR.cells, List.append_nil, List.set_cons_succ, List.set_cons_zero] at hob3
              have HB := Lib.hid hob3
              have HO := Lib.hid ho3
              have HW := Lib.hid hb3
              clear s3 s4 hgr ho3 hb3 hob3 hob2 ho2 hb2
              go_wp2_with fail
              have hgk2 := Hgk2.out
              go_roundg (gk - 1)
              case rel => exact ⟨j + 1, by omega, by omega, by go_num, by rw [Hs.out], by rw [Hs.out]; exact HB.out, HO.out, HW.out⟩
              case measure => omega
          · have hje : j = D := by omega
            subst hje
            have hle : decide ((j : Int) + 1 ≤ (j : Int)) = false := by simp; omega
            have hle2 : ¬ (j : Int) + 1 ≤ (j : Int) := by omega
            clear hob Hst
            generalize (simT x day rides per j).2 = C at *
            go_wp2_with (at_builtin; refine wpList_app rfl _ _ 34 rfl 2 i0 _ 1 8 Tryz.underlying34 hi hz0 hz1 hz2 rfl (by omega) (by omega) w.heap.size _ _ _ _ rfl (ho1.alloc _) ⟨wr.heap.size, 0, none⟩ 1 1 [.int .i64 C] rfl rfl (cell_one_new _ _ _) (by simp [Value.oneCell']) (by omega) (by simp; omega) ?_)
            intro A3 c3 w3 ho3 hgA hbA hat
            have ho4 : Own w3 w.heap.size 2 1 A3 (k + 1) c3 ((countsTo l day rides per j (k + 1)).map (Value.int .i64)) := by rw [Hs0.out, List.map_append]; exact ho3
            have hb4 : Below w.heap.size w w3 := (hb.alloc hbs2 _).trans hbA
            clear ho3 hgA hbA hat ho1
            go_wp2_with fail
            have hgk := Hgk.out
            go_roundg (n - (k + 1))
            case rel => exact ⟨k + 1, A3, c3, by omega, by omega, by go_num, rfl, ho4, hb4⟩
            case measure => omega
      · have hke : k = n := by omega
        subst hke
        have hd : ¬ (k : Int) < (k : Int) := by omega
        go_wp2_with fail
        go_ret2
        exact ⟨A2, _, c2, by rw [Hr.out]; rfl, by omega, by rw [Hr.out]; exact ho, hb⟩
  · have Hr : Hid (rChecksIn l day rides per days = ([], askI l day rides per)) := Lib.hid (by rw [rChecksIn, if_neg ha])
    go_enter Tryz.func13, Tryz.ntmps13
    go_wp2_with fail
    refine (inspected_any h hB hn hF).mono ?_
    rintro e w1 ⟨rfl, b1⟩
    generalize askI l day rides per = cd at *
    go_wp2_with fail
    go_ret2
    exact ⟨none, 0, 0, by rw [Hr.out]; rfl, by omega, by rw [Hr.out]; exact Own.nil _ _ _ _, b1⟩
end Go.Proofs.YtickepianllblaaGreatDoor
