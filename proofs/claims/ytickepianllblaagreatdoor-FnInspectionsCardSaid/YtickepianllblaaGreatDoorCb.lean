/- Inspections: what is due; the code of inspections, a day and rides; DueIn. -/
import Derived.Test.YtickepianllblaaGreatDoorCa
namespace Go.Proofs.YtickepianllblaaGreatDoor
open Go.RowKit
set_option maxRecDepth 100000
set_option linter.unusedVariables false
set_option linter.unusedSimpArgs false

/-- The numbers are not too large. -/
def fitC (x : CheckR) : Prop := (0 ≤ x.EveryDays ∧ x.EveryDays ≤ 10000000000) ∧ (0 ≤ x.EveryRides ∧ x.EveryRides ≤ 10000000000) ∧ (0 ≤ x.LastDay ∧ x.LastDay ≤ 10000000000) ∧ (0 ≤ x.LastRide ∧ x.LastRide ≤ 10000000000)
theorem checkB_true {x : CheckR} (h : checkB x = true) : nameB x.Id = true ∧ (1 ≤ x.EveryDays ∧ x.EveryDays ≤ 100000) ∧ (1 ≤ x.EveryRides ∧ x.EveryRides ≤ 1000000) ∧ (0 ≤ x.LastDay ∧ x.LastDay ≤ 100000) ∧ (0 ≤ x.LastRide ∧ x.LastRide ≤ 1000000) := by
  simp only [checkB, Bool.and_eq_true, inB_true] at h
  exact h
theorem fitC_of {x : CheckR} (h : checkB x = true) : fitC x := by
  have := checkB_true h
  unfold fitC; omega
theorem checks_at {l : List CheckR} (h : checkBAll l = true) : (∀ k, k < l.length → checkB (CheckR.at_ l k) = true) ∧ l.length ≤ 16 := by
  simp only [checkBAll, Bool.and_eq_true, decide_eq_true_eq] at h
  refine ⟨fun k hk => ?_, h.2⟩
  have := allTo_true.1 h.1 k hk
  simp only [checkBAt, Bool.and_eq_true] at this
  exact this.1
def dueA (x : CheckR) (day : Int) : Int := x.LastDay + x.EveryDays - day
def dueB (x : CheckR) (rides : Int) : Int := x.LastRide + x.EveryRides - rides
def overB (x : CheckR) (day rides : Int) : Bool := decide (dueA x day < 0) || decide (dueB x rides < 0)
def lateB (x : CheckR) (day rides : Int) : Bool := decide (day < x.LastDay) || decide (rides < x.LastRide)

theorem dueIn_any {x : CheckR} {day rides : Int} {w : World} (hx : fitC x) (hd : 0 ≤ day ∧ day ≤ 10000000000) (hr : 0 ≤ rides ∧ rides ≤ 10000000000) :
    Calls Tryz.prog 26 #[.agg #[.string x.Id, .int .i64 x.EveryDays, .int .i64 x.EveryRides, .int .i64 x.LastDay, .int .i64 x.LastRide], .int .i64 day, .int .i64 rides] w fun e w' => e = .returned (.tuple #[.int .i64 (dueA x day), .int .i64 (dueB x rides)]) ∧ Below w.heap.size w w' := by
  unfold fitC at hx
  have hq1 : IntKind.i64.wrap (x.LastDay + x.EveryDays) = x.LastDay + x.EveryDays := IntWalk.i64_in _ (by omega)
  have hq2 : IntKind.i64.wrap (x.LastDay + x.EveryDays - day) = x.LastDay + x.EveryDays - day := IntWalk.i64_in _ (by omega)
  have hq3 : IntKind.i64.wrap (x.LastRide + x.EveryRides) = x.LastRide + x.EveryRides := IntWalk.i64_in _ (by omega)
  have hq4 : IntKind.i64.wrap (x.LastRide + x.EveryRides - rides) = x.LastRide + x.EveryRides - rides := IntWalk.i64_in _ (by omega)
  go_enter Tryz.func26, Tryz.ntmps26
  go_wp2_with fail
  go_quiet (fail)
  go_wp2_with fail
  go_ret2
  exact ⟨rfl, below_drewN ((Below.refl _ _).alloc (Nat.le_refl _) _) _⟩
theorem isOverdue_any {x : CheckR} {day rides : Int} {w : World} (hx : fitC x) (hd : 0 ≤ day ∧ day ≤ 10000000000) (hr : 0 ≤ rides ∧ rides ≤ 10000000000) :
    Calls Tryz.prog 25 #[.agg #[.string x.Id, .int .i64 x.EveryDays, .int .i64 x.EveryRides, .int .i64 x.LastDay, .int .i64 x.LastRide], .int .i64 day, .int .i64 rides] w fun e w' => e = .returned (.bool (overB x day rides)) ∧ Below w.heap.size w w' := by
  have Ho : Hid (overB x day rides = (decide (dueA x day < 0) || decide (dueB x rides < 0))) := Lib.hid rfl
  cases v1 : decide (dueA x day < 0) <;> cases v2 : decide (dueB x rides < 0) <;>
    (go_enter Tryz.func25, Tryz.ntmps25
     go_wp2_with fail
     refine (dueIn_any hx hd hr).mono ?_
     rintro e w2 ⟨rfl, b⟩
     have b2 : Below w.heap.size w w2 := ((Below.refl _ _).alloc (Nat.le_refl _) _).trans (b.mono (by simp))
     clear b
     go_wp2_with fail
     go_ret
     exact ⟨ret_bool (by rw [Ho.out, v1, v2]; rfl), b2⟩)
theorem l21Due_any {p : Addr} {x : CheckR} {day rides : Int} {w : World} (h0 : w.cell? p = some (.string x.Id)) (h1 : w.cell? ⟨p.block, p.off + 1, none⟩ = some (.int .i64 x.EveryDays)) (h2 : w.cell? ⟨p.block, p.off + 2, none⟩ = some (.int .i64 x.EveryRides)) (h3 : w.cell? ⟨p.block, p.off + 3, none⟩ = some (.int .i64 x.LastDay)) (h4 : w.cell? ⟨p.block, p.off + 4, none⟩ = some (.int .i64 x.LastRide)) (hx : fitC x) (hd : 0 ≤ day ∧ day ≤ 10000000000) (hr : 0 ≤ rides ∧ rides ≤ 10000000000) :
    Calls Tryz.prog 41 #[.pointer (some p), .int .i64 day, .int .i64 rides] w fun e w' => e = .returned (.tuple #[.int .i64 (dueA x day), .int .i64 (dueB x rides)]) ∧ ∃ d, w' = w.drewN d := by
  unfold fitC at hx
  have hq1 : IntKind.i64.wrap (x.LastDay + x.EveryDays) = x.LastDay + x.EveryDays := IntWalk.i64_in _ (by omega)
  have hq2 : IntKind.i64.wrap (x.LastDay + x.EveryDays - day) = x.LastDay + x.EveryDays - day := IntWalk.i64_in _ (by omega)
  have hq3 : IntKind.i64.wrap (x.LastRide + x.EveryRides) = x.LastRide + x.EveryRides := IntWalk.i64_in _ (by omega)
  have hq4 : IntKind.i64.wrap (x.LastRide + x.EveryRides - rides) = x.LastRide + x.EveryRides - rides := IntWalk.i64_in _ (by omega)
  go_enter Tryz.func41, Tryz.ntmps41
  go_wp2_with fail
  go_quiet (fail)
  go_wp2_with fail
  go_ret2
  exact ⟨rfl, _, rfl⟩
theorem l21Over_any {p : Addr} {x : CheckR} {day rides : Int} {w : World} (h0 : w.cell? p = some (.string x.Id)) (h1 : w.cell? ⟨p.block, p.off + 1, none⟩ = some (.int .i64 x.EveryDays)) (h2 : w.cell? ⟨p.block, p.off + 2, none⟩ = some (.int .i64 x.EveryRides)) (h3 : w.cell? ⟨p.block, p.off + 3, none⟩ = some (.int .i64 x.LastDay)) (h4 : w.cell? ⟨p.block, p.off + 4, none⟩ = some (.int .i64 x.LastRide)) (hx : fitC x) (hd : 0 ≤ day ∧ day ≤ 10000000000) (hr : 0 ≤ rides ∧ rides ≤ 10000000000) :
    Calls Tryz.prog 57 #[.pointer (some p), .int .i64 day, .int .i64 rides] w fun e w' => e = .returned (.bool (overB x day rides)) ∧ ∃ d, w' = w.drewN d := by
  have Ho : Hid (overB x day rides = (decide (dueA x day < 0) || decide (dueB x rides < 0))) := Lib.hid rfl
  cases v1 : decide (dueA x day < 0) <;> cases v2 : decide (dueB x rides < 0) <;>
    (go_enter Tryz.func57, Tryz.ntmps57
     go_wp2_with fail
     refine (l21Due_any h0 h1 h2 h3 h4 hx hd hr).mono ?_
     rintro e w2 ⟨rfl, d, rfl⟩
     go_wp2_with fail
     go_ret
     exact ⟨ret_bool (by rw [Ho.out, v1, v2]; rfl), d, rfl⟩)
theorem l21Since_any {p : Addr} {x : CheckR} {day rides : Int} {w : World} (h0 : w.cell? p = some (.string x.Id)) (h1 : w.cell? ⟨p.block, p.off + 1, none⟩ = some (.int .i64 x.EveryDays)) (h2 : w.cell? ⟨p.block, p.off + 2, none⟩ = some (.int .i64 x.EveryRides)) (h3 : w.cell? ⟨p.block, p.off + 3, none⟩ = some (.int .i64 x.LastDay)) (h4 : w.cell? ⟨p.block, p.off + 4, none⟩ = some (.int .i64 x.LastRide)) :
    Calls Tryz.prog 40 #[.pointer (some p), .int .i64 day, .int .i64 rides] w fun e w' => e = .returned (.bool (!lateB x day rides)) ∧ w = w' := by
  have Ho : Hid (lateB x day rides = (decide (day < x.LastDay) || decide (rides < x.LastRide))) := Lib.hid rfl
  by_cases c1 : day < x.LastDay
  · have d1 : decide (x.LastDay ≤ day) = false := by simp; omega
    go_enter Tryz.func40, Tryz.ntmps40
    go_wp2_with fail
    go_ret
    exact ⟨ret_bool (by rw [Ho.out, decide_eq_true (by omega)]; rfl), rfl⟩
  · have d1 : decide (x.LastDay ≤ day) = true := by simp; omega
    by_cases c2 : rides < x.LastRide
    · have d2 : decide (x.LastRide ≤ rides) = false := by simp; omega
      go_enter Tryz.func40, Tryz.ntmps40
      go_wp2_with fail
      go_ret
      exact ⟨ret_bool (by rw [Ho.out, decide_eq_false (by omega), decide_eq_true (by omega)]; rfl), rfl⟩
    · have d2 : decide (x.LastRide ≤ rides) = true := by simp; omega
      go_enter Tryz.func40, Tryz.ntmps40
      go_wp2_with fail
      go_ret
      exact ⟨ret_bool (by rw [Ho.out, decide_eq_false (by omega), decide_eq_false (by omega)]; rfl), rfl⟩
theorem late1_any {x : CheckR} {day rides : Int} {bd br : Nat} {w : World} (hd : w.cell? ⟨bd, 0, none⟩ = some (.int .i64 day)) (hr : w.cell? ⟨br, 0, none⟩ = some (.int .i64 rides)) :
    Calls Tryz.prog 47 #[.agg #[.string x.Id, .int .i64 x.EveryDays, .int .i64 x.EveryRides, .int .i64 x.LastDay, .int .i64 x.LastRide], .pointer (some ⟨bd, 0, none⟩), .pointer (some ⟨br, 0, none⟩)] w fun e w' => e = .returned (.bool (lateB x day rides)) ∧ Below w.heap.size w w' := by
  have Ho : Hid (lateB x day rides = (decide (day < x.LastDay) || decide (rides < x.LastRide))) := Lib.hid rfl
  have l1 := World.block_lt_of_cell? w _ hd
  have l2 := World.block_lt_of_cell? w _ hr
  simp only at l1 l2
  cases v1 : decide (day < x.LastDay) <;> cases v2 : decide (rides < x.LastRide) <;>
    (go_enter Tryz.func47, Tryz.ntmps47
     go_wp2_with fail
     go_ret
     exact ⟨ret_bool (by rw [Ho.out, v1, v2]; rfl), (Below.refl _ _).alloc (Nat.le_refl _) _⟩)

theorem indexC2_any (K : Nat) (hK : ∀ args w, (callFunc K args).run Tryz.prog w = .ok (.enter K args) w) (f : CheckR → Bool) (v1 v2 : Value) (w : World)
    (hf : Hid (∀ w', Below w.heap.size w w' → ∀ x : CheckR, Calls Tryz.prog K #[.agg #[.string x.Id, .int .i64 x.EveryDays, .int .i64 x.EveryRides, .int .i64 x.LastDay, .int .i64 x.LastRide], v1, v2] w' fun e w'' => e = .returned (.bool (f x)) ∧ Below w'.heap.size w' w''))
    (A : Option Addr) (n c B : Nat) (l : List CheckR) (h : Reads w B 5 A n (l.flatMap CheckR.cells)) (hB : B ≤ w.heap.size) (hn : n ≤ 140737488351232) :
    Calls Tryz.prog 32 #[.slice A n c, .func (.func K) #[] #[v1, v2]] w fun e w' => e = .returned (.int .i64 (firstTo (fun k => f (CheckR.at_ l k)) l.length)) ∧ Below w.heap.size w w' := by
  have HL := Lib.hid (CheckR.count h)
  go_enter Tryz.func32, Tryz.ntmps32
  go_wp2_with fail
  go_loopg [8] n (fun gk i wr => ∃ k : Nat, k ≤ n ∧ gk + k = n ∧ i = .int .i64 k ∧ Below w.heap.size w wr ∧ allTo (fun k => !f (CheckR.at_ l k)) k = true)
  case atStart => exact ⟨0, Nat.zero_le _, rfl, rfl, Below.refl _ _, rfl⟩
  case round =>
    obtain ⟨k, hk, hgk, rfl, hb, hall⟩ := hrel
    have Hgk := Lib.hid hgk
    have Hall := Lib.hid hall
    have hbs := hb.size
    clear hgk hall
    by_cases hlt : k < n
    · obtain ⟨ad, rfl, hbl, hc0, hc1, hc2, hc3, hc4⟩ := CheckR.rd (Reads.below h hb hB) hlt
      go_wp2_with fail
      refine (hf.out _ hb (CheckR.at_ l k)).mono ?_
      rintro e w2 ⟨rfl, b⟩
      have hb2 := hb.trans (b.mono hbs)
      cases hv : f (CheckR.at_ l k) with
      | true =>
        have Hr : Hid (firstTo (fun k => f (CheckR.at_ l k)) l.length = (k : Nat)) := Lib.hid (firstTo_some (by rw [HL.out]; exact hlt) Hall.out hv)
        go_wp2_with fail
        go_ret
        exact ⟨ret_int (by rw [Hr.out]), hb2⟩
      | false =>
        have Hv := Lib.hid hv
        clear hb b
        go_wp2_with fail
        have hgk := Hgk.out
        go_roundg (gk - 1)
        case rel => exact ⟨k + 1, by omega, by omega, by go_num, hb2, by rw [allTo_succ, Hall.out, Hv.out]; rfl⟩
        case measure => omega
    · have hke : k = n := by omega
      have Hr : Hid (firstTo (fun k => f (CheckR.at_ l k)) l.length = -1) := Lib.hid (firstTo_none (by rw [HL.out, ← hke]; exact Hall.out))
      have hd : ¬ (k : Int) < (n : Int) := by omega
      go_wp2_with fail
      go_ret
      exact ⟨ret_int (by rw [Hr.out]), hb⟩
theorem indexC1_any (K : Nat) (hK : ∀ args w, (callFunc K args).run Tryz.prog w = .ok (.enter K args) w) (f : CheckR → Bool) (v1 : Value) (w : World)
    (hf : Hid (∀ w', Below w.heap.size w w' → ∀ x : CheckR, Calls Tryz.prog K #[.agg #[.string x.Id, .int .i64 x.EveryDays, .int .i64 x.EveryRides, .int .i64 x.LastDay, .int .i64 x.LastRide], v1] w' fun e w'' => e = .returned (.bool (f x)) ∧ Below w'.heap.size w' w''))
    (A : Option Addr) (n c B : Nat) (l : List CheckR) (h : Reads w B 5 A n (l.flatMap CheckR.cells)) (hB : B ≤ w.heap.size) (hn : n ≤ 140737488351232) :
    Calls Tryz.prog 32 #[.slice A n c, .func (.func K) #[] #[v1]] w fun e w' => e = .returned (.int .i64 (firstTo (fun k => f (CheckR.at_ l k)) l.length)) ∧ Below w.heap.size w w' := by
  have HL := Lib.hid (CheckR.count h)
  go_enter Tryz.func32, Tryz.ntmps32
  go_wp2_with fail
  go_loopg [8] n (fun gk i wr => ∃ k : Nat, k ≤ n ∧ gk + k = n ∧ i = .int .i64 k ∧ Below w.heap.size w wr ∧ allTo (fun k => !f (CheckR.at_ l k)) k = true)
  case atStart => exact ⟨0, Nat.zero_le _, rfl, rfl, Below.refl _ _, rfl⟩
  case round =>
    obtain ⟨k, hk, hgk, rfl, hb, hall⟩ := hrel
    have Hgk := Lib.hid hgk
    have Hall := Lib.hid hall
    have hbs := hb.size
    clear hgk hall
    by_cases hlt : k < n
    · obtain ⟨ad, rfl, hbl, hc0, hc1, hc2, hc3, hc4⟩ := CheckR.rd (Reads.below h hb hB) hlt
      go_wp2_with fail
      refine (hf.out _ hb (CheckR.at_ l k)).mono ?_
      rintro e w2 ⟨rfl, b⟩
      have hb2 := hb.trans (b.mono hbs)
      cases hv : f (CheckR.at_ l k) with
      | true =>
        have Hr : Hid (firstTo (fun k => f (CheckR.at_ l k)) l.length = (k : Nat)) := Lib.hid (firstTo_some (by rw [HL.out]; exact hlt) Hall.out hv)
        go_wp2_with fail
        go_ret
        exact ⟨ret_int (by rw [Hr.out]), hb2⟩
      | false =>
        have Hv := Lib.hid hv
        clear hb b
        go_wp2_with fail
        have hgk := Hgk.out
        go_roundg (gk - 1)
        case rel => exact ⟨k + 1, by omega, by omega, by go_num, hb2, by rw [allTo_succ, Hall.out, Hv.out]; rfl⟩
        case measure => omega
    · have hke : k = n := by omega
      have Hr : Hid (firstTo (fun k => f (CheckR.at_ l k)) l.length = -1) := Lib.hid (firstTo_none (by rw [HL.out, ← hke]; exact Hall.out))
      have hd : ¬ (k : Int) < (n : Int) := by omega
      go_wp2_with fail
      go_ret
      exact ⟨ret_int (by rw [Hr.out]), hb⟩
def anyC (f : CheckR → Bool) (l : List CheckR) : Bool := decide (0 ≤ firstTo (fun k => f (CheckR.at_ l k)) l.length)
theorem containsC2_any (K : Nat) (hK : Hid (∀ args w, (callFunc K args).run Tryz.prog w = .ok (.enter K args) w)) (f : CheckR → Bool) (v1 v2 : Value) (w : World)
    (hf : Hid (∀ w', Below w.heap.size w w' → ∀ x : CheckR, Calls Tryz.prog K #[.agg #[.string x.Id, .int .i64 x.EveryDays, .int .i64 x.EveryRides, .int .i64 x.LastDay, .int .i64 x.LastRide], v1, v2] w' fun e w'' => e = .returned (.bool (f x)) ∧ Below w'.heap.size w' w''))
    (A : Option Addr) (n c B : Nat) (l : List CheckR) (h : Reads w B 5 A n (l.flatMap CheckR.cells)) (hB : B ≤ w.heap.size) (hn : n ≤ 140737488351232) :
    Calls Tryz.prog 46 #[.slice A n c, .func (.func K) #[] #[v1, v2]] w fun e w' => e = .returned (.bool (anyC f l)) ∧ Below w.heap.size w w' := by
  go_enter Tryz.func46, Tryz.ntmps46
  go_wp2_with fail
  refine (indexC2_any K hK.out f v1 v2 _ hf A n c B l h hB hn).mono ?_
  rintro e w' ⟨rfl, b⟩
  go_wp2_with fail
  go_ret
  exact ⟨rfl, b⟩
/-- The code of inspections, a day and numbers of rides. -/
def askI (l : List CheckR) (day rides per : Int) : Int :=
  if checkBAll l then (if inB per 0 1000000 && (inB day 0 100000 && inB rides 0 1000000) then (if anyC (fun x => lateB x day rides) l then 6 else 0) else 2) else 1
theorem askI_zero {l : List CheckR} {day rides per : Int} (h : askI l day rides per = 0) : checkBAll l = true ∧ (0 ≤ per ∧ per ≤ 1000000) ∧ (0 ≤ day ∧ day ≤ 100000) ∧ (0 ≤ rides ∧ rides ≤ 1000000) ∧ anyC (fun x => lateB x day rides) l = false := by
  unfold askI at h
  cases h1 : checkBAll l <;> cases h2 : inB per 0 1000000 <;> cases h3 : inB day 0 100000 <;> cases h4 : inB rides 0 1000000 <;> cases h5 : anyC (fun x => lateB x day rides) l <;> rw [h1, h2, h3, h4, h5] at h <;> simp at h
  exact ⟨rfl, inB_true.1 h2, inB_true.1 h3, inB_true.1 h4, rfl⟩
theorem anyC_at {f : CheckR → Bool} {l : List CheckR} (h : anyC f l = false) (k : Nat) (hk : k < l.length) : f (CheckR.at_ l k) = false := by
  unfold anyC at h
  rw [decide_eq_false_iff_not] at h
  rcases firstTo_cases (fun k => f (CheckR.at_ l k)) l.length with ⟨_, hno⟩ | ⟨j, hj, e, _⟩
  · exact hno k hk
  · omega
theorem anyC_of {f : CheckR → Bool} {l : List CheckR} {k : Nat} (hk : k < l.length) (h : f (CheckR.at_ l k) = true) : anyC f l = true := by
  cases ha : anyC f l with
  | true => rfl
  | false => rw [anyC_at ha k hk] at h; cases h
theorem anyC_none {f : CheckR → Bool} {l : List CheckR} (h : allTo (fun k => !f (CheckR.at_ l k)) l.length = true) : anyC f l = false := by
  unfold anyC
  rw [firstTo_none h]; rfl

theorem inspected_any {A : Option Addr} {n c B : Nat} {l : List CheckR} {day rides per : Int} {w : World} (h : Reads w B 5 A n (l.flatMap CheckR.cells)) (hB : B ≤ w.heap.size) (hn : n ≤ 1048576) (hF : ∀ x ∈ l, x.Id.size ≤ 1048576) :
    Calls Tryz.prog 24 #[.slice A n c, .int .i64 day, .int .i64 rides, .int .i64 per] w fun e w' => e = .returned (.int .i64 (askI l day rides per)) ∧ Below w.heap.size w w' := by
  have Ha : Hid (askI l day rides per = if checkBAll l then (if inB per 0 1000000 && (inB day 0 100000 && inB rides 0 1000000) then (if anyC (fun x => lateB x day rides) l then 6 else 0) else 2) else 1) := Lib.hid rfl
  go_enter Tryz.func24, Tryz.ntmps24
  go_wp2_with fail
  have hb1 : Below w.heap.size w ((w.alloc (.cells #[.int .i64 day] 2)).alloc (.cells #[.int .i64 rides] 2)) := ((Below.refl _ _).alloc (Nat.le_refl _) _).alloc (by simp) _
  have hx0 : ((w.alloc (.cells #[.int .i64 day] 2)).alloc (.cells #[.int .i64 rides] 2)).cell? ⟨w.heap.size, 0, none⟩ = some (.int .i64 day) := by simp
  have hx1 : ((w.alloc (.cells #[.int .i64 day] 2)).alloc (.cells #[.int .i64 rides] 2)).cell? ⟨w.heap.size + 1, 0, none⟩ = some (.int .i64 rides) := by simp
  have hsz : w.heap.size + 2 ≤ ((w.alloc (.cells #[.int .i64 day] 2)).alloc (.cells #[.int .i64 rides] 2)).heap.size := by simp
  generalize (w.alloc (.cells #[.int .i64 day] 2)).alloc (.cells #[.int .i64 rides] 2) = W1 at *
  refine (validChecksI_any (Reads.below h hb1 hB) (by omega) hn hF).mono ?_
  rintro e w2 ⟨rfl, b⟩
  have hb2 := hb1.trans (b.mono hb1.size)
  have hy0 := (b.cell (p := ⟨w.heap.size, 0, none⟩) (by simp only []; omega)).trans hx0
  have hy1 := (b.cell (p := ⟨w.heap.size + 1, 0, none⟩) (by simp only []; omega)).trans hx1
  have hbs := hb2.size
  clear hx0 hx1 hb1 b hsz
  cases v0 : checkBAll l with
  | false =>
    go_wp2_with fail
    go_ret
    exact ⟨ret_int (by rw [Ha.out, v0]; rfl), hb2⟩
  | true =>
  cases v1 : inB per 0 1000000 with
  | false =>
    go_wp2_with (first | (go_at_call 44; refine (isCount_any _ _).mono ?_; rintro e w' ⟨rfl, rfl⟩) | (go_at_call 45; refine (isOpsDay_any _ _).mono ?_; rintro e w' ⟨rfl, rfl⟩))
    go_ret
    exact ⟨ret_int (by rw [Ha.out, v0, v1]; rfl), hb2⟩
  | true =>
  cases v2 : inB day 0 100000 with
  | false =>
    go_wp2_with (first | (go_at_call 44; refine (isCount_any _ _).mono ?_; rintro e w' ⟨rfl, rfl⟩) | (go_at_call 45; refine (isOpsDay_any _ _).mono ?_; rintro e w' ⟨rfl, rfl⟩))
    go_ret
    exact ⟨ret_int (by rw [Ha.out, v0, v1, v2]; rfl), hb2⟩
  | true =>
  cases v3 : inB rides 0 1000000 with
  | false =>
    go_wp2_with (first | (go_at_call 44; refine (isCount_any _ _).mono ?_; rintro e w' ⟨rfl, rfl⟩) | (go_at_call 45; refine (isOpsDay_any _ _).mono ?_; rintro e w' ⟨rfl, rfl⟩))
    go_ret
    exact ⟨ret_int (by rw [Ha.out, v0, v1, v2, v3]; rfl), hb2⟩
  | true =>
    have Hcl : Hid (∀ w', Below w2.heap.size w2 w' → ∀ x : CheckR, Calls Tryz.prog 47 #[.agg #[.string x.Id, .int .i64 x.EveryDays, .int .i64 x.EveryRides, .int .i64 x.LastDay, .int .i64 x.LastRide], .pointer (some ⟨w.heap.size, 0, none⟩), .pointer (some ⟨w.heap.size + 1, 0, none⟩)] w' fun e w'' => e = .returned (.bool (lateB x day rides)) ∧ Below w'.heap.size w' w'') :=
      Lib.hid fun w' b x => late1_any ((b.cell (p := ⟨w.heap.size, 0, none⟩) (World.block_lt_of_cell? w2 _ hy0)).trans hy0) ((b.cell (p := ⟨w.heap.size + 1, 0, none⟩) (World.block_lt_of_cell? w2 _ hy1)).trans hy1)
    go_wp2_with (first | (go_at_call 44; refine (isCount_any _ _).mono ?_; rintro e w' ⟨rfl, rfl⟩) | (go_at_call 45; refine (isOpsDay_any _ _).mono ?_; rintro e w' ⟨rfl, rfl⟩))
    refine (containsC2_any _ (Lib.hid Tryz.call47) (fun x => lateB x day rides) _ _ _ Hcl A n c B l (Reads.below h hb2 hB) (by omega) (by omega)).mono ?_
    rintro e w3 ⟨rfl, b⟩
    have hb3 := hb2.trans (b.mono hbs)
    cases v4 : anyC (fun x => lateB x day rides) l <;>
      (go_wp2_with fail
       go_ret
       exact ⟨ret_int (by rw [Ha.out, v0, v1, v2, v3, v4]; rfl), hb3⟩)

theorem l21Ask_any {A : Option Addr} {n c B : Nat} {l : List CheckR} {day rides : Int} {w : World} (h : Reads w B 5 A n (l.flatMap CheckR.cells)) (hB : B ≤ w.heap.size) (hn : n ≤ 1048576) (hF : ∀ x ∈ l, x.Id.size ≤ 1048576) :
    Calls Tryz.prog 35 #[.slice A n c, .int .i64 day, .int .i64 rides] w fun e w' => e = .returned (.int .i64 (askI l day rides 0)) ∧ Below w.heap.size w w' := by
  have HL := Lib.hid (CheckR.count h)
  have Ha : Hid (askI l day rides 0 = if checkBAll l then (if true && (inB day 0 100000 && inB rides 0 1000000) then (if anyC (fun x => lateB x day rides) l then 6 else 0) else 2) else 1) := Lib.hid rfl
  go_enter Tryz.func35, Tryz.ntmps35
  go_wp2_with fail
  refine (l21Ok_any h hB hn hF).mono ?_
  rintro e w2 ⟨rfl, hb2⟩
  have hbs2 := hb2.size
  cases v0 : checkBAll l with
  | false =>
    go_wp2_with fail
    go_ret
    exact ⟨ret_int (by rw [Ha.out, v0]; rfl), hb2⟩
  | true =>
  cases v2 : inB day 0 100000 with
  | false =>
    go_wp2_with (first | (go_at_call 39; refine (l21Count_any _ _).mono ?_; rintro e w' ⟨rfl, rfl⟩) | (go_at_call 38; refine (l21Day_any _ _).mono ?_; rintro e w' ⟨rfl, rfl⟩))
    go_ret
    exact ⟨ret_int (by rw [Ha.out, v0, v2]; rfl), hb2⟩
  | true =>
  cases v3 : inB rides 0 1000000 with
  | false =>
    go_wp2_with (first | (go_at_call 39; refine (l21Count_any _ _).mono ?_; rintro e w' ⟨rfl, rfl⟩) | (go_at_call 38; refine (l21Day_any _ _).mono ?_; rintro e w' ⟨rfl, rfl⟩))
    go_ret
    exact ⟨ret_int (by rw [Ha.out, v0, v2, v3]; rfl), hb2⟩
  | true =>
    have V0 := Lib.hid v0
    clear v0
    go_wp2_with (first | (go_at_call 39; refine (l21Count_any _ _).mono ?_; rintro e w' ⟨rfl, rfl⟩) | (go_at_call 38; refine (l21Day_any _ _).mono ?_; rintro e w' ⟨rfl, rfl⟩))
    go_loopg [7] n (fun gk i wr => ∃ k : Nat, k ≤ n ∧ gk + k = n ∧ i = .int .i64 k ∧ Below w.heap.size w wr ∧ allTo (fun k => !lateB (CheckR.at_ l k) day rides) k = true)
    case atStart => exact ⟨0, Nat.zero_le _, rfl, rfl, hb2, rfl⟩
    case round =>
      clear hb2 hbs2
      obtain ⟨k, hk, hgk, rfl, hb, hall⟩ := hrel
      have Hgk := Lib.hid hgk
      have Hall := Lib.hid hall
      clear hgk hall
      by_cases hlt : k < n
      · obtain ⟨ad, rfl, hbl, hc0, hc1, hc2, hc3, hc4⟩ := CheckR.rd (Reads.below h hb hB) hlt
        cases hv : lateB (CheckR.at_ l k) day rides with
        | true =>
          have hany := Lib.hid (anyC_of (f := fun x => lateB x day rides) (l := l) (k := k) (by rw [HL.out]; exact hlt) hv)
          go_wp2_with (go_at_call 40; refine (l21Since_any hc0 hc1 hc2 hc3 hc4).mono ?_; rintro e w' ⟨rfl, rfl⟩)
          go_ret
          exact ⟨ret_int (by rw [Ha.out, V0.out, v2, v3, hany.out]; rfl), hb⟩
        | false =>
          have Hv := Lib.hid hv
          go_wp2_with (go_at_call 40; refine (l21Since_any hc0 hc1 hc2 hc3 hc4).mono ?_; rintro e w' ⟨rfl, rfl⟩)
          have hgk := Hgk.out
          go_roundg (gk - 1)
          case rel => exact ⟨k + 1, by omega, by omega, by go_num, hb, by rw [allTo_succ, Hall.out, Hv.out]; rfl⟩
          case measure => omega
      · have hke : k = n := by omega
        have hany := Lib.hid (anyC_none (f := fun x => lateB x day rides) (l := l) (by rw [HL.out, ← hke]; exact Hall.out))
        have hd : ¬ (k : Int) < (n : Int) := by omega
        go_wp2_with fail
        go_ret
        exact ⟨ret_int (by rw [Ha.out, V0.out, v2, v3, hany.out]; rfl), hb⟩

end Go.Proofs.YtickepianllblaaGreatDoor
