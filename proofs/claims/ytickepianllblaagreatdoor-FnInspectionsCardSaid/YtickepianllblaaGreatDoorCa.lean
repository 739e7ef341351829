/- Inspections: contracts of what asks whether they are valid. -/
import Derived.Test.YtickepianllblaaGreatDoorGCheck
import Derived.Lib.QuietBelow
import Derived.BigQuiet
namespace Go.Proofs.YtickepianllblaaGreatDoor
open Go.RowKit
set_option maxRecDepth 100000
set_option linter.unusedVariables false
set_option linter.unusedSimpArgs false

def checkB (x : CheckR) : Bool := (nameB x.Id && (inB x.EveryDays 1 100000 && (inB x.EveryRides 1 1000000 && (inB x.LastDay 0 100000 && inB x.LastRide 0 1000000))))
def checkBAt (l : List CheckR) (k : Nat) : Bool := checkB (CheckR.at_ l k) && (decide (k = 0) || sLt (CheckR.at_ l (k - 1)).Id (CheckR.at_ l k).Id)
def checkBAll (l : List CheckR) : Bool := allTo (checkBAt l) l.length && decide (l.length ≤ 16)
theorem validCheck_any {a0 : ByteArray} {a1 : Int} {a2 : Int} {a3 : Int} {a4 : Int} {w : World} (hs : a0.size ≤ 1048576) :
    Calls Tryz.prog 29 #[.agg #[.string a0, .int .i64 a1, .int .i64 a2, .int .i64 a3, .int .i64 a4]] w fun e w' => e = .returned (.bool (checkB ⟨a0, a1, a2, a3, a4⟩)) ∧ Below w.heap.size w w' := by
  have Hc : Hid (checkB ⟨a0, a1, a2, a3, a4⟩ = (nameB a0 && (inB a1 1 100000 && (inB a2 1 1000000 && (inB a3 0 100000 && inB a4 0 1000000))))) := Lib.hid rfl
  have pre : Below w.heap.size w (w.alloc (.cells #[.string a0, .int .i64 a1, .int .i64 a2, .int .i64 a3, .int .i64 a4] 39)) := (Below.refl _ _).alloc (Nat.le_refl _) _
  have hsz : w.heap.size < (w.alloc (.cells #[.string a0, .int .i64 a1, .int .i64 a2, .int .i64 a3, .int .i64 a4] 39)).heap.size := by simp
  have c1 : (w.alloc (.cells #[.string a0, .int .i64 a1, .int .i64 a2, .int .i64 a3, .int .i64 a4] 39)).cell? ⟨w.heap.size, 1, none⟩ = some (.int .i64 a1) := by simp
  have c2 : (w.alloc (.cells #[.string a0, .int .i64 a1, .int .i64 a2, .int .i64 a3, .int .i64 a4] 39)).cell? ⟨w.heap.size, 2, none⟩ = some (.int .i64 a2) := by simp
  have c3 : (w.alloc (.cells #[.string a0, .int .i64 a1, .int .i64 a2, .int .i64 a3, .int .i64 a4] 39)).cell? ⟨w.heap.size, 3, none⟩ = some (.int .i64 a3) := by simp
  have c4 : (w.alloc (.cells #[.string a0, .int .i64 a1, .int .i64 a2, .int .i64 a3, .int .i64 a4] 39)).cell? ⟨w.heap.size, 4, none⟩ = some (.int .i64 a4) := by simp
  go_enter Tryz.func29, Tryz.ntmps29
  go_wp2_with fail
  generalize w.alloc (.cells #[.string a0, .int .i64 a1, .int .i64 a2, .int .i64 a3, .int .i64 a4] 39) = W1 at *
  refine (isName_any _ _ hs).mono ?_
  rintro e w2 ⟨rfl, b⟩
  have d1 := (b.cell (p := ⟨w.heap.size, 1, none⟩) hsz).trans c1
  have d2 := (b.cell (p := ⟨w.heap.size, 2, none⟩) hsz).trans c2
  have d3 := (b.cell (p := ⟨w.heap.size, 3, none⟩) hsz).trans c3
  have d4 := (b.cell (p := ⟨w.heap.size, 4, none⟩) hsz).trans c4
  have bel := pre.trans (b.mono pre.size)
  clear pre b c1 c2 c3 c4
  cases v0 : nameB a0 with
  | false =>
    go_wp2_with (first | (go_at_call 28; refine (within_any _ _ _ _).mono ?_; rintro e w' ⟨rfl, rfl⟩) | (go_at_call 45; refine (isOpsDay_any _ _).mono ?_; rintro e w' ⟨rfl, rfl⟩) | (go_at_call 44; refine (isCount_any _ _).mono ?_; rintro e w' ⟨rfl, rfl⟩))
    go_ret
    exact ⟨ret_bool (by rw [Hc.out, v0]; rfl), bel⟩
  | true =>
  cases v1 : inB a1 1 100000 with
  | false =>
    go_wp2_with (first | (go_at_call 28; refine (within_any _ _ _ _).mono ?_; rintro e w' ⟨rfl, rfl⟩) | (go_at_call 45; refine (isOpsDay_any _ _).mono ?_; rintro e w' ⟨rfl, rfl⟩) | (go_at_call 44; refine (isCount_any _ _).mono ?_; rintro e w' ⟨rfl, rfl⟩))
    go_ret
    exact ⟨ret_bool (by rw [Hc.out, v0, v1]; rfl), bel⟩
  | true =>
  cases v2 : inB a2 1 1000000 with
  | false =>
    go_wp2_with (first | (go_at_call 28; refine (within_any _ _ _ _).mono ?_; rintro e w' ⟨rfl, rfl⟩) | (go_at_call 45; refine (isOpsDay_any _ _).mono ?_; rintro e w' ⟨rfl, rfl⟩) | (go_at_call 44; refine (isCount_any _ _).mono ?_; rintro e w' ⟨rfl, rfl⟩))
    go_ret
    exact ⟨ret_bool (by rw [Hc.out, v0, v1, v2]; rfl), bel⟩
  | true =>
  cases v3 : inB a3 0 100000 with
  | false =>
    go_wp2_with (first | (go_at_call 28; refine (within_any _ _ _ _).mono ?_; rintro e w' ⟨rfl, rfl⟩) | (go_at_call 45; refine (isOpsDay_any _ _).mono ?_; rintro e w' ⟨rfl, rfl⟩) | (go_at_call 44; refine (isCount_any _ _).mono ?_; rintro e w' ⟨rfl, rfl⟩))
    go_ret
    exact ⟨ret_bool (by rw [Hc.out, v0, v1, v2, v3]; rfl), bel⟩
  | true =>
  cases v4 : inB a4 0 1000000 with
  | false =>
    go_wp2_with (first | (go_at_call 28; refine (within_any _ _ _ _).mono ?_; rintro e w' ⟨rfl, rfl⟩) | (go_at_call 45; refine (isOpsDay_any _ _).mono ?_; rintro e w' ⟨rfl, rfl⟩) | (go_at_call 44; refine (isCount_any _ _).mono ?_; rintro e w' ⟨rfl, rfl⟩))
    go_ret
    exact ⟨ret_bool (by rw [Hc.out, v0, v1, v2, v3, v4]; rfl), bel⟩
  | true =>
  go_wp2_with (first | (go_at_call 28; refine (within_any _ _ _ _).mono ?_; rintro e w' ⟨rfl, rfl⟩) | (go_at_call 45; refine (isOpsDay_any _ _).mono ?_; rintro e w' ⟨rfl, rfl⟩) | (go_at_call 44; refine (isCount_any _ _).mono ?_; rintro e w' ⟨rfl, rfl⟩))
  go_ret
  exact ⟨ret_bool (by rw [Hc.out, v0, v1, v2, v3, v4]; rfl), bel⟩
theorem l21One_any {p : Addr} {x : CheckR} {w : World} (h0 : w.cell? p = some (.string x.Id)) (h1 : w.cell? ⟨p.block, p.off + 1, none⟩ = some (.int .i64 x.EveryDays)) (h2 : w.cell? ⟨p.block, p.off + 2, none⟩ = some (.int .i64 x.EveryRides)) (h3 : w.cell? ⟨p.block, p.off + 3, none⟩ = some (.int .i64 x.LastDay)) (h4 : w.cell? ⟨p.block, p.off + 4, none⟩ = some (.int .i64 x.LastRide)) (hs : x.Id.size ≤ 1048576) :
    Calls Tryz.prog 37 #[.pointer (some p)] w fun e w' => e = .returned (.bool (checkB x)) ∧ w = w' := by
  have Hc : Hid (checkB x = (nameB x.Id && (inB x.EveryDays 1 100000 && (inB x.EveryRides 1 1000000 && (inB x.LastDay 0 100000 && inB x.LastRide 0 1000000))))) := Lib.hid rfl
  cases v0 : nameB x.Id with
  | false =>
    go_enter Tryz.func37, Tryz.ntmps37
    go_wp2_with (first | (go_at_call 58; refine (l01Name_any _ _ hs).mono ?_; rintro e w' ⟨rfl, rfl⟩) | (go_at_call 59; refine (in_any _ _ _ _).mono ?_; rintro e w' ⟨rfl, rfl⟩) | (go_at_call 38; refine (l21Day_any _ _).mono ?_; rintro e w' ⟨rfl, rfl⟩) | (go_at_call 39; refine (l21Count_any _ _).mono ?_; rintro e w' ⟨rfl, rfl⟩))
    go_ret
    exact ⟨ret_bool (by rw [Hc.out, v0]; rfl), rfl⟩
  | true =>
  cases v1 : inB x.EveryDays 1 100000 with
  | false =>
    go_enter Tryz.func37, Tryz.ntmps37
    go_wp2_with (first | (go_at_call 58; refine (l01Name_any _ _ hs).mono ?_; rintro e w' ⟨rfl, rfl⟩) | (go_at_call 59; refine (in_any _ _ _ _).mono ?_; rintro e w' ⟨rfl, rfl⟩) | (go_at_call 38; refine (l21Day_any _ _).mono ?_; rintro e w' ⟨rfl, rfl⟩) | (go_at_call 39; refine (l21Count_any _ _).mono ?_; rintro e w' ⟨rfl, rfl⟩))
    go_ret
    exact ⟨ret_bool (by rw [Hc.out, v0, v1]; rfl), rfl⟩
  | true =>
  cases v2 : inB x.EveryRides 1 1000000 with
  | false =>
    go_enter Tryz.func37, Tryz.ntmps37
    go_wp2_with (first | (go_at_call 58; refine (l01Name_any _ _ hs).mono ?_; rintro e w' ⟨rfl, rfl⟩) | (go_at_call 59; refine (in_any _ _ _ _).mono ?_; rintro e w' ⟨rfl, rfl⟩) | (go_at_call 38; refine (l21Day_any _ _).mono ?_; rintro e w' ⟨rfl, rfl⟩) | (go_at_call 39; refine (l21Count_any _ _).mono ?_; rintro e w' ⟨rfl, rfl⟩))
    go_ret
    exact ⟨ret_bool (by rw [Hc.out, v0, v1, v2]; rfl), rfl⟩
  | true =>
  cases v3 : inB x.LastDay 0 100000 with
  | false =>
    go_enter Tryz.func37, Tryz.ntmps37
    go_wp2_with (first | (go_at_call 58; refine (l01Name_any _ _ hs).mono ?_; rintro e w' ⟨rfl, rfl⟩) | (go_at_call 59; refine (in_any _ _ _ _).mono ?_; rintro e w' ⟨rfl, rfl⟩) | (go_at_call 38; refine (l21Day_any _ _).mono ?_; rintro e w' ⟨rfl, rfl⟩) | (go_at_call 39; refine (l21Count_any _ _).mono ?_; rintro e w' ⟨rfl, rfl⟩))
    go_ret
    exact ⟨ret_bool (by rw [Hc.out, v0, v1, v2, v3]; rfl), rfl⟩
  | true =>
  cases v4 : inB x.LastRide 0 1000000 with
  | false =>
    go_enter Tryz.func37, Tryz.ntmps37
    go_wp2_with (first | (go_at_call 58; refine (l01Name_any _ _ hs).mono ?_; rintro e w' ⟨rfl, rfl⟩) | (go_at_call 59; refine (in_any _ _ _ _).mono ?_; rintro e w' ⟨rfl, rfl⟩) | (go_at_call 38; refine (l21Day_any _ _).mono ?_; rintro e w' ⟨rfl, rfl⟩) | (go_at_call 39; refine (l21Count_any _ _).mono ?_; rintro e w' ⟨rfl, rfl⟩))
    go_ret
    exact ⟨ret_bool (by rw [Hc.out, v0, v1, v2, v3, v4]; rfl), rfl⟩
  | true =>
  go_enter Tryz.func37, Tryz.ntmps37
  go_wp2_with (first | (go_at_call 58; refine (l01Name_any _ _ hs).mono ?_; rintro e w' ⟨rfl, rfl⟩) | (go_at_call 59; refine (in_any _ _ _ _).mono ?_; rintro e w' ⟨rfl, rfl⟩) | (go_at_call 38; refine (l21Day_any _ _).mono ?_; rintro e w' ⟨rfl, rfl⟩) | (go_at_call 39; refine (l21Count_any _ _).mono ?_; rintro e w' ⟨rfl, rfl⟩))
  go_ret
  exact ⟨ret_bool (by rw [Hc.out, v0, v1, v2, v3, v4]; rfl), rfl⟩
set_option maxHeartbeats 1000000 in
theorem l21Ok_any {A : Option Addr} {n c B : Nat} {l : List CheckR} {w : World} (h : Reads w B 5 A n (l.flatMap CheckR.cells)) (hB : B ≤ w.heap.size) (hn : n ≤ 1048576) (hF : ∀ x ∈ l, x.Id.size ≤ 1048576) :
    Calls Tryz.prog 56 #[.slice A n c] w fun e w' => e = .returned (.bool (checkBAll l)) ∧ Below w.heap.size w w' := by
  have HL := Lib.hid (CheckR.count h)
  have HF := Lib.hid hF
  clear hF
  go_enter Tryz.func56, Tryz.ntmps56
  go_wp2_with fail
  go_loopg [3] n (fun gk i wr => ∃ k : Nat, k ≤ n ∧ gk + k = n ∧ i = .int .i64 k ∧ Below w.heap.size w wr ∧ allTo (checkBAt l) k = true)
  case atStart => exact ⟨0, Nat.zero_le _, rfl, rfl, Below.refl _ _, rfl⟩
  case round =>
    obtain ⟨k, hk, hgk, rfl, hb, hall⟩ := hrel
    have Hgk := Lib.hid hgk
    have Hall := Lib.hid hall
    have hbs := hb.size
    clear hgk hall
    by_cases hlt : k < n
    · have hkl : k < l.length := by rw [HL.out]; exact hlt
      have hfk : (CheckR.at_ l k).Id.size ≤ 1048576 := HF.out _ (by show l.getD k CheckR.zero ∈ l; simp [List.getD, List.getElem?_eq_getElem hkl])
      obtain ⟨ad, rfl, hbl, hc0, hc1, hc2, hc3, hc4⟩ := CheckR.rd (Reads.below h hb hB) hlt
      have Hat : Hid (checkBAt l k = (checkB (CheckR.at_ l k) && (decide (k = 0) || sLt (CheckR.at_ l (k - 1)).Id (CheckR.at_ l k).Id))) := Lib.hid rfl
      have hk0 : (0 : Int) ≤ (k : Int) := by omega
      have hk1 : (k : Int) < (n : Int) := by omega
      have hq : IntKind.i64.wrap ((k : Int) + 1) = (k : Int) + 1 := IntWalk.i64_in _ (by omega)
      by_cases hz : k = 0
      · have z2 : decide (k = 0) = true := by simp [hz]
        have z1 : decide (0 < k) = false := by simp [hz]
        have Hz := Lib.hid hz
        clear hz
        cases v1 : checkB (CheckR.at_ l k) with
        | false =>
          have Hs : Hid (checkBAt l k = false) := Lib.hid (by rw [Hat.out, v1]; rfl)
          go_wp2_with fail
          go_quiet ((go_at_call 37; exact quiet_left (l21One_any hc0 hc1 hc2 hc3 hc4 hfk)))
          go_wp2_with fail
          go_ret
          exact ⟨ret_bool (by rw [checkBAll, allTo_false (k := k) (by rw [HL.out]; omega) Hs.out]; rfl), below_drewN hb _⟩
        | true =>
          have Hs : Hid (checkBAt l k = true) := Lib.hid (by rw [Hat.out, v1, z2]; rfl)
          go_wp2_with fail
          go_quiet ((go_at_call 37; exact quiet_left (l21One_any hc0 hc1 hc2 hc3 hc4 hfk)))
          go_wp2_with fail
          have hgk := Hgk.out
          go_roundg (gk - 1)
          case rel => exact ⟨k + 1, by omega, by omega, by go_num, below_drewN hb _, by rw [allTo_succ, Hall.out, Hs.out]; rfl⟩
          case measure => omega
      · have z2 : decide (k = 0) = false := by simp [hz]
        have z1 : decide (0 < k) = true := by simp; omega
        have hk2 : (0 : Int) ≤ (k : Int) - 1 := by omega
        have hk3 : (k : Int) - 1 < (n : Int) := by omega
        have hk4 : (1 : Int) ≤ (k : Int) := by omega
        have ht1 : Hid (((k : Int) - 1).toNat = k - 1) := Lib.hid (by omega)
        obtain ⟨ad', e', _, hp, _⟩ := CheckR.rd (k := k - 1) (Reads.below h hb hB) (by omega)
        injection e' with e'
        subst e'
        cases v1 : checkB (CheckR.at_ l k) with
        | false =>
          have Hs : Hid (checkBAt l k = false) := Lib.hid (by rw [Hat.out, v1]; rfl)
          go_wp2_with fail
          go_quiet ((go_at_call 37; exact quiet_left (l21One_any hc0 hc1 hc2 hc3 hc4 hfk)))
          go_wp2_with fail
          go_ret
          exact ⟨ret_bool (by rw [checkBAll, allTo_false (k := k) (by rw [HL.out]; omega) Hs.out]; rfl), below_drewN hb _⟩
        | true =>
          cases sv : sLt (CheckR.at_ l (k - 1)).Id (CheckR.at_ l k).Id with
          | false =>
            have sv' : Op.bytesLess (CheckR.at_ l (k - 1)).Id.toList (CheckR.at_ l k).Id.toList = false := sv
            have Hs : Hid (checkBAt l k = false) := Lib.hid (by rw [Hat.out, v1, z2, sv]; rfl)
            go_wp2_with fail
            go_quiet ((go_at_call 37; exact quiet_left (l21One_any hc0 hc1 hc2 hc3 hc4 hfk)))
            go_wp2_with fail
            go_ret
            exact ⟨ret_bool (by rw [checkBAll, allTo_false (k := k) (by rw [HL.out]; omega) Hs.out]; rfl), below_drewN hb _⟩
          | true =>
            have sv' : Op.bytesLess (CheckR.at_ l (k - 1)).Id.toList (CheckR.at_ l k).Id.toList = true := sv
            have Hs : Hid (checkBAt l k = true) := Lib.hid (by rw [Hat.out, v1, z2, sv]; rfl)
            go_wp2_with fail
            go_quiet ((go_at_call 37; exact quiet_left (l21One_any hc0 hc1 hc2 hc3 hc4 hfk)))
            go_wp2_with fail
            have hgk := Hgk.out
            go_roundg (gk - 1)
            case rel => exact ⟨k + 1, by omega, by omega, by go_num, below_drewN hb _, by rw [allTo_succ, Hall.out, Hs.out]; rfl⟩
            case measure => omega
    · have hke : k = n := by omega
      have Hr : Hid (checkBAll l = decide (n ≤ 16)) := Lib.hid (by
        have := Hall.out
        rw [hke] at this
        rw [checkBAll, HL.out, this]; rfl)
      have hd : ¬ (k : Int) < (n : Int) := by omega
      go_wp2_with fail
      go_ret
      exact ⟨ret_bool (by rw [Hr.out]; first | rfl | exact decide_eq_decide.2 (by omega)), hb⟩
set_option maxHeartbeats 1000000 in
theorem validChecksI_any {A : Option Addr} {n c B : Nat} {l : List CheckR} {w : World} (h : Reads w B 5 A n (l.flatMap CheckR.cells)) (hB : B ≤ w.heap.size) (hn : n ≤ 1048576) (hF : ∀ x ∈ l, x.Id.size ≤ 1048576) :
    Calls Tryz.prog 14 #[.slice A n c] w fun e w' => e = .returned (.bool (checkBAll l)) ∧ Below w.heap.size w w' := by
  have HL := Lib.hid (CheckR.count h)
  have HF := Lib.hid hF
  clear hF
  go_enter Tryz.func14, Tryz.ntmps14
  go_wp2_with fail
  go_loopg [7] n (fun gk i wr => ∃ k : Nat, k ≤ n ∧ gk + k = n ∧ i = .int .i64 k ∧ Below w.heap.size w wr ∧ allTo (checkBAt l) k = true)
  case atStart => exact ⟨0, Nat.zero_le _, rfl, rfl, Below.refl _ _, rfl⟩
  case round =>
    obtain ⟨k, hk, hgk, rfl, hb, hall⟩ := hrel
    have Hgk := Lib.hid hgk
    have Hall := Lib.hid hall
    have hbs := hb.size
    clear hgk hall
    by_cases hlt : k < n
    · have hkl : k < l.length := by rw [HL.out]; exact hlt
      have hfk : (CheckR.at_ l k).Id.size ≤ 1048576 := HF.out _ (by show l.getD k CheckR.zero ∈ l; simp [List.getD, List.getElem?_eq_getElem hkl])
      obtain ⟨ad, rfl, hbl, hc0, hc1, hc2, hc3, hc4⟩ := CheckR.rd (Reads.below h hb hB) hlt
      have Hat : Hid (checkBAt l k = (checkB (CheckR.at_ l k) && (decide (k = 0) || sLt (CheckR.at_ l (k - 1)).Id (CheckR.at_ l k).Id))) := Lib.hid rfl
      have hk0 : (0 : Int) ≤ (k : Int) := by omega
      have hk1 : (k : Int) < (n : Int) := by omega
      have hq : IntKind.i64.wrap ((k : Int) + 1) = (k : Int) + 1 := IntWalk.i64_in _ (by omega)
      obtain ⟨ad1, e1, _, hx0, _⟩ := CheckR.rd (k := 0) (Reads.below h hb hB) (by omega)
      injection e1 with e1
      subst e1
      rw [Nat.zero_mul, addr_add_zero] at hx0
      obtain ⟨b0, o0, sp⟩ := ad
      have hsp := World.cell?_spot hx0
      simp only at hsp
      subst hsp
      simp only [Addr.add_lit] at hc0 hc1 hc2 hc3 hc4 hbl
      clear hx0
      by_cases hz : k = 0
      · have z2 : decide (k = 0) = true := by simp [hz]
        have z1 : decide (0 < k) = false := by simp [hz]
        have Hz := Lib.hid hz
        clear hz
        cases v1 : checkB (CheckR.at_ l k) with
        | false =>
          have v1' : checkB ⟨(CheckR.at_ l k).Id, (CheckR.at_ l k).EveryDays, (CheckR.at_ l k).EveryRides, (CheckR.at_ l k).LastDay, (CheckR.at_ l k).LastRide⟩ = false := v1
          have Hs : Hid (checkBAt l k = false) := Lib.hid (by rw [Hat.out, v1]; rfl)
          have pre : Below w.heap.size w (wr.alloc (.cells #[.string (CheckR.at_ l k).Id, .int .i64 (CheckR.at_ l k).EveryDays, .int .i64 (CheckR.at_ l k).EveryRides, .int .i64 (CheckR.at_ l k).LastDay, .int .i64 (CheckR.at_ l k).LastRide] 39)) := hb.alloc hbs _
          have hsz : wr.heap.size < (wr.alloc (.cells #[.string (CheckR.at_ l k).Id, .int .i64 (CheckR.at_ l k).EveryDays, .int .i64 (CheckR.at_ l k).EveryRides, .int .i64 (CheckR.at_ l k).LastDay, .int .i64 (CheckR.at_ l k).LastRide] 39)).heap.size := by simp
          have y0 : (wr.alloc (.cells #[.string (CheckR.at_ l k).Id, .int .i64 (CheckR.at_ l k).EveryDays, .int .i64 (CheckR.at_ l k).EveryRides, .int .i64 (CheckR.at_ l k).LastDay, .int .i64 (CheckR.at_ l k).LastRide] 39)).cell? ⟨wr.heap.size, 0, none⟩ = some (.string (CheckR.at_ l k).Id) := by simp
          have y1 : (wr.alloc (.cells #[.string (CheckR.at_ l k).Id, .int .i64 (CheckR.at_ l k).EveryDays, .int .i64 (CheckR.at_ l k).EveryRides, .int .i64 (CheckR.at_ l k).LastDay, .int .i64 (CheckR.at_ l k).LastRide] 39)).cell? ⟨wr.heap.size, 1, none⟩ = some (.int .i64 (CheckR.at_ l k).EveryDays) := by simp
          have y2 : (wr.alloc (.cells #[.string (CheckR.at_ l k).Id, .int .i64 (CheckR.at_ l k).EveryDays, .int .i64 (CheckR.at_ l k).EveryRides, .int .i64 (CheckR.at_ l k).LastDay, .int .i64 (CheckR.at_ l k).LastRide] 39)).cell? ⟨wr.heap.size, 2, none⟩ = some (.int .i64 (CheckR.at_ l k).EveryRides) := by simp
          have y3 : (wr.alloc (.cells #[.string (CheckR.at_ l k).Id, .int .i64 (CheckR.at_ l k).EveryDays, .int .i64 (CheckR.at_ l k).EveryRides, .int .i64 (CheckR.at_ l k).LastDay, .int .i64 (CheckR.at_ l k).LastRide] 39)).cell? ⟨wr.heap.size, 3, none⟩ = some (.int .i64 (CheckR.at_ l k).LastDay) := by simp
          have y4 : (wr.alloc (.cells #[.string (CheckR.at_ l k).Id, .int .i64 (CheckR.at_ l k).EveryDays, .int .i64 (CheckR.at_ l k).EveryRides, .int .i64 (CheckR.at_ l k).LastDay, .int .i64 (CheckR.at_ l k).LastRide] 39)).cell? ⟨wr.heap.size, 4, none⟩ = some (.int .i64 (CheckR.at_ l k).LastRide) := by simp
          go_wp2_with fail
          generalize (wr.alloc (.cells #[.string (CheckR.at_ l k).Id, .int .i64 (CheckR.at_ l k).EveryDays, .int .i64 (CheckR.at_ l k).EveryRides, .int .i64 (CheckR.at_ l k).LastDay, .int .i64 (CheckR.at_ l k).LastRide] 39)) = W1 at *
          have qy0 := cell_regrown y0
          have qy1 := cell_regrown y1
          have qy2 := cell_regrown y2
          have qy3 := cell_regrown y3
          have qy4 := cell_regrown y4
          have cV : ∀ d os, Calls Tryz.prog 29 #[.agg #[.string (CheckR.at_ l k).Id, .int .i64 (CheckR.at_ l k).EveryDays, .int .i64 (CheckR.at_ l k).EveryRides, .int .i64 (CheckR.at_ l k).LastDay, .int .i64 (CheckR.at_ l k).LastRide]] (Sort.grow (redrawn W1 d) os) fun e w'' => e = .returned (.bool false) ∧ ∃ p : Regrown, w'' = Sort.grow (redrawn W1 p.d) p.os := fun d os => by
            have := validCheck_any (a1 := (CheckR.at_ l k).EveryDays) (a2 := (CheckR.at_ l k).EveryRides) (a3 := (CheckR.at_ l k).LastDay) (a4 := (CheckR.at_ l k).LastRide) (w := Sort.grow (redrawn W1 d) os) hfk
            rw [v1'] at this
            exact Calls.regrown_of this
          clear y0 y1 y2 y3 y4
          refine wp_region_quiet_below (by kernel_rfl) (by kernel_rfl) ?_
          repeat (go_big_quiet_step (exact cV _ _))
          refine wpQuiet_nil ?_
          intro _ hw'
          obtain ⟨⟨dq, osq⟩, hw''⟩ := hw'
          subst hw''
          have hbS := below_regrown W1 dq osq
          have hb3 := pre.trans (hbS.mono pre.size)
          clear cV qy0 qy1 qy2 qy3 qy4
          generalize Sort.grow (redrawn W1 dq) osq = w3 at *
          go_wp2_with fail
          go_ret
          exact ⟨ret_bool (by rw [checkBAll, allTo_false (k := k) (by rw [HL.out]; omega) Hs.out]; rfl), hb3⟩
        | true =>
          have v1' : checkB ⟨(CheckR.at_ l k).Id, (CheckR.at_ l k).EveryDays, (CheckR.at_ l k).EveryRides, (CheckR.at_ l k).LastDay, (CheckR.at_ l k).LastRide⟩ = true := v1
          have Hs : Hid (checkBAt l k = true) := Lib.hid (by rw [Hat.out, v1, z2]; rfl)
          have pre : Below w.heap.size w (wr.alloc (.cells #[.string (CheckR.at_ l k).Id, .int .i64 (CheckR.at_ l k).EveryDays, .int .i64 (CheckR.at_ l k).EveryRides, .int .i64 (CheckR.at_ l k).LastDay, .int .i64 (CheckR.at_ l k).LastRide] 39)) := hb.alloc hbs _
          have hsz : wr.heap.size < (wr.alloc (.cells #[.string (CheckR.at_ l k).Id, .int .i64 (CheckR.at_ l k).EveryDays, .int .i64 (CheckR.at_ l k).EveryRides, .int .i64 (CheckR.at_ l k).LastDay, .int .i64 (CheckR.at_ l k).LastRide] 39)).heap.size := by simp
          have y0 : (wr.alloc (.cells #[.string (CheckR.at_ l k).Id, .int .i64 (CheckR.at_ l k).EveryDays, .int .i64 (CheckR.at_ l k).EveryRides, .int .i64 (CheckR.at_ l k).LastDay, .int .i64 (CheckR.at_ l k).LastRide] 39)).cell? ⟨wr.heap.size, 0, none⟩ = some (.string (CheckR.at_ l k).Id) := by simp
          have y1 : (wr.alloc (.cells #[.string (CheckR.at_ l k).Id, .int .i64 (CheckR.at_ l k).EveryDays, .int .i64 (CheckR.at_ l k).EveryRides, .int .i64 (CheckR.at_ l k).LastDay, .int .i64 (CheckR.at_ l k).LastRide] 39)).cell? ⟨wr.heap.size, 1, none⟩ = some (.int .i64 (CheckR.at_ l k).EveryDays) := by simp
          have y2 : (wr.alloc (.cells #[.string (CheckR.at_ l k).Id, .int .i64 (CheckR.at_ l k).EveryDays, .int .i64 (CheckR.at_ l k).EveryRides, .int .i64 (CheckR.at_ l k).LastDay, .int .i64 (CheckR.at_ l k).LastRide] 39)).cell? ⟨wr.heap.size, 2, none⟩ = some (.int .i64 (CheckR.at_ l k).EveryRides) := by simp
          have y3 : (wr.alloc (.cells #[.string (CheckR.at_ l k).Id, .int .i64 (CheckR.at_ l k).EveryDays, .int .i64 (CheckR.at_ l k).EveryRides, .int .i64 (CheckR.at_ l k).LastDay, .int .i64 (CheckR.at_ l k).LastRide] 39)).cell? ⟨wr.heap.size, 3, none⟩ = some (.int .i64 (CheckR.at_ l k).LastDay) := by simp
          have y4 : (wr.alloc (.cells #[.string (CheckR.at_ l k).Id, .int .i64 (CheckR.at_ l k).EveryDays, .int .i64 (CheckR.at_ l k).EveryRides, .int .i64 (CheckR.at_ l k).LastDay, .int .i64 (CheckR.at_ l k).LastRide] 39)).cell? ⟨wr.heap.size, 4, none⟩ = some (.int .i64 (CheckR.at_ l k).LastRide) := by simp
          go_wp2_with fail
          generalize (wr.alloc (.cells #[.string (CheckR.at_ l k).Id, .int .i64 (CheckR.at_ l k).EveryDays, .int .i64 (CheckR.at_ l k).EveryRides, .int .i64 (CheckR.at_ l k).LastDay, .int .i64 (CheckR.at_ l k).LastRide] 39)) = W1 at *
          have qy0 := cell_regrown y0
          have qy1 := cell_regrown y1
          have qy2 := cell_regrown y2
          have qy3 := cell_regrown y3
          have qy4 := cell_regrown y4
          have cV : ∀ d os, Calls Tryz.prog 29 #[.agg #[.string (CheckR.at_ l k).Id, .int .i64 (CheckR.at_ l k).EveryDays, .int .i64 (CheckR.at_ l k).EveryRides, .int .i64 (CheckR.at_ l k).LastDay, .int .i64 (CheckR.at_ l k).LastRide]] (Sort.grow (redrawn W1 d) os) fun e w'' => e = .returned (.bool true) ∧ ∃ p : Regrown, w'' = Sort.grow (redrawn W1 p.d) p.os := fun d os => by
            have := validCheck_any (a1 := (CheckR.at_ l k).EveryDays) (a2 := (CheckR.at_ l k).EveryRides) (a3 := (CheckR.at_ l k).LastDay) (a4 := (CheckR.at_ l k).LastRide) (w := Sort.grow (redrawn W1 d) os) hfk
            rw [v1'] at this
            exact Calls.regrown_of this
          clear y0 y1 y2 y3 y4
          refine wp_region_quiet_below (by kernel_rfl) (by kernel_rfl) ?_
          repeat (go_big_quiet_step (exact cV _ _))
          refine wpQuiet_nil ?_
          intro _ hw'
          obtain ⟨⟨dq, osq⟩, hw''⟩ := hw'
          subst hw''
          have hbS := below_regrown W1 dq osq
          have hb3 := pre.trans (hbS.mono pre.size)
          clear cV qy0 qy1 qy2 qy3 qy4
          generalize Sort.grow (redrawn W1 dq) osq = w3 at *
          go_wp2_with fail
          have hgk := Hgk.out
          go_roundg (gk - 1)
          case rel => exact ⟨k + 1, by omega, by omega, by go_num, hb3, by rw [allTo_succ, Hall.out, Hs.out]; rfl⟩
          case measure => omega
      · have z2 : decide (k = 0) = false := by simp [hz]
        have z1 : decide (0 < k) = true := by simp; omega
        have hk2 : (0 : Int) ≤ (k : Int) - 1 := by omega
        have hk3 : (k : Int) - 1 < (n : Int) := by omega
        have hk4 : (1 : Int) ≤ (k : Int) := by omega
        have ht1 : Hid (((k : Int) - 1).toNat = k - 1) := Lib.hid (by omega)
        obtain ⟨ad', e', _, hp, _⟩ := CheckR.rd (k := k - 1) (Reads.below h hb hB) (by omega)
        injection e' with e'
        subst e'
        simp only [Addr.add_lit] at hp
        cases v1 : checkB (CheckR.at_ l k) with
        | false =>
          have v1' : checkB ⟨(CheckR.at_ l k).Id, (CheckR.at_ l k).EveryDays, (CheckR.at_ l k).EveryRides, (CheckR.at_ l k).LastDay, (CheckR.at_ l k).LastRide⟩ = false := v1
          have Hs : Hid (checkBAt l k = false) := Lib.hid (by rw [Hat.out, v1]; rfl)
          have pre : Below w.heap.size w (wr.alloc (.cells #[.string (CheckR.at_ l k).Id, .int .i64 (CheckR.at_ l k).EveryDays, .int .i64 (CheckR.at_ l k).EveryRides, .int .i64 (CheckR.at_ l k).LastDay, .int .i64 (CheckR.at_ l k).LastRide] 39)) := hb.alloc hbs _
          have hsz : wr.heap.size < (wr.alloc (.cells #[.string (CheckR.at_ l k).Id, .int .i64 (CheckR.at_ l k).EveryDays, .int .i64 (CheckR.at_ l k).EveryRides, .int .i64 (CheckR.at_ l k).LastDay, .int .i64 (CheckR.at_ l k).LastRide] 39)).heap.size := by simp
          have y0 : (wr.alloc (.cells #[.string (CheckR.at_ l k).Id, .int .i64 (CheckR.at_ l k).EveryDays, .int .i64 (CheckR.at_ l k).EveryRides, .int .i64 (CheckR.at_ l k).LastDay, .int .i64 (CheckR.at_ l k).LastRide] 39)).cell? ⟨wr.heap.size, 0, none⟩ = some (.string (CheckR.at_ l k).Id) := by simp
          have y1 : (wr.alloc (.cells #[.string (CheckR.at_ l k).Id, .int .i64 (CheckR.at_ l k).EveryDays, .int .i64 (CheckR.at_ l k).EveryRides, .int .i64 (CheckR.at_ l k).LastDay, .int .i64 (CheckR.at_ l k).LastRide] 39)).cell? ⟨wr.heap.size, 1, none⟩ = some (.int .i64 (CheckR.at_ l k).EveryDays) := by simp
          have y2 : (wr.alloc (.cells #[.string (CheckR.at_ l k).Id, .int .i64 (CheckR.at_ l k).EveryDays, .int .i64 (CheckR.at_ l k).EveryRides, .int .i64 (CheckR.at_ l k).LastDay, .int .i64 (CheckR.at_ l k).LastRide] 39)).cell? ⟨wr.heap.size, 2, none⟩ = some (.int .i64 (CheckR.at_ l k).EveryRides) := by simp
          have y3 : (wr.alloc (.cells #[.string (CheckR.at_ l k).Id, .int .i64 (CheckR.at_ l k).EveryDays, .int .i64 (CheckR.at_ l k).EveryRides, .int .i64 (CheckR.at_ l k).LastDay, .int .i64 (CheckR.at_ l k).LastRide] 39)).cell? ⟨wr.heap.size, 3, none⟩ = some (.int .i64 (CheckR.at_ l k).LastDay) := by simp
          have y4 : (wr.alloc (.cells #[.string (CheckR.at_ l k).Id, .int .i64 (CheckR.at_ l k).EveryDays, .int .i64 (CheckR.at_ l k).EveryRides, .int .i64 (CheckR.at_ l k).LastDay, .int .i64 (CheckR.at_ l k).LastRide] 39)).cell? ⟨wr.heap.size, 4, none⟩ = some (.int .i64 (CheckR.at_ l k).LastRide) := by simp
          have yp : (wr.alloc (.cells #[.string (CheckR.at_ l k).Id, .int .i64 (CheckR.at_ l k).EveryDays, .int .i64 (CheckR.at_ l k).EveryRides, .int .i64 (CheckR.at_ l k).LastDay, .int .i64 (CheckR.at_ l k).LastRide] 39)).cell? ⟨b0, o0 + (k - 1) * 5, none⟩ = some (.string (CheckR.at_ l (k - 1)).Id) := by rw [World.cell?_alloc_lt _ _ _ (by simp only []; omega)]; exact hp
          go_wp2_with fail
          generalize (wr.alloc (.cells #[.string (CheckR.at_ l k).Id, .int .i64 (CheckR.at_ l k).EveryDays, .int .i64 (CheckR.at_ l k).EveryRides, .int .i64 (CheckR.at_ l k).LastDay, .int .i64 (CheckR.at_ l k).LastRide] 39)) = W1 at *
          have qy0 := cell_regrown y0
          have qy1 := cell_regrown y1
          have qy2 := cell_regrown y2
          have qy3 := cell_regrown y3
          have qy4 := cell_regrown y4
          have qyp := cell_regrown yp
          have cV : ∀ d os, Calls Tryz.prog 29 #[.agg #[.string (CheckR.at_ l k).Id, .int .i64 (CheckR.at_ l k).EveryDays, .int .i64 (CheckR.at_ l k).EveryRides, .int .i64 (CheckR.at_ l k).LastDay, .int .i64 (CheckR.at_ l k).LastRide]] (Sort.grow (redrawn W1 d) os) fun e w'' => e = .returned (.bool false) ∧ ∃ p : Regrown, w'' = Sort.grow (redrawn W1 p.d) p.os := fun d os => by
            have := validCheck_any (a1 := (CheckR.at_ l k).EveryDays) (a2 := (CheckR.at_ l k).EveryRides) (a3 := (CheckR.at_ l k).LastDay) (a4 := (CheckR.at_ l k).LastRide) (w := Sort.grow (redrawn W1 d) os) hfk
            rw [v1'] at this
            exact Calls.regrown_of this
          clear y0 y1 y2 y3 y4 yp
          refine wp_region_quiet_below (by kernel_rfl) (by kernel_rfl) ?_
          repeat (go_big_quiet_step (exact cV _ _))
          refine wpQuiet_nil ?_
          intro _ hw'
          obtain ⟨⟨dq, osq⟩, hw''⟩ := hw'
          subst hw''
          have hbS := below_regrown W1 dq osq
          have hb3 := pre.trans (hbS.mono pre.size)
          clear cV qy0 qy1 qy2 qy3 qy4 qyp
          generalize Sort.grow (redrawn W1 dq) osq = w3 at *
          go_wp2_with fail
          go_ret
          exact ⟨ret_bool (by rw [checkBAll, allTo_false (k := k) (by rw [HL.out]; omega) Hs.out]; rfl), hb3⟩
        | true =>
          have v1' : checkB ⟨(CheckR.at_ l k).Id, (CheckR.at_ l k).EveryDays, (CheckR.at_ l k).EveryRides, (CheckR.at_ l k).LastDay, (CheckR.at_ l k).LastRide⟩ = true := v1
          cases sv : sLt (CheckR.at_ l (k - 1)).Id (CheckR.at_ l k).Id with
          | false =>
            have sv' : (Op.bytesLess (CheckR.at_ l k).Id.toList (CheckR.at_ l (k - 1)).Id.toList || (CheckR.at_ l k).Id.toList == (CheckR.at_ l (k - 1)).Id.toList) = true := by rw [sLt_tri, sv]; rfl
            have Hs : Hid (checkBAt l k = false) := Lib.hid (by rw [Hat.out, v1, z2, sv]; rfl)
            have pre : Below w.heap.size w (wr.alloc (.cells #[.string (CheckR.at_ l k).Id, .int .i64 (CheckR.at_ l k).EveryDays, .int .i64 (CheckR.at_ l k).EveryRides, .int .i64 (CheckR.at_ l k).LastDay, .int .i64 (CheckR.at_ l k).LastRide] 39)) := hb.alloc hbs _
            have hsz : wr.heap.size < (wr.alloc (.cells #[.string (CheckR.at_ l k).Id, .int .i64 (CheckR.at_ l k).EveryDays, .int .i64 (CheckR.at_ l k).EveryRides, .int .i64 (CheckR.at_ l k).LastDay, .int .i64 (CheckR.at_ l k).LastRide] 39)).heap.size := by simp
            have y0 : (wr.alloc (.cells #[.string (CheckR.at_ l k).Id, .int .i64 (CheckR.at_ l k).EveryDays, .int .i64 (CheckR.at_ l k).EveryRides, .int .i64 (CheckR.at_ l k).LastDay, .int .i64 (CheckR.at_ l k).LastRide] 39)).cell? ⟨wr.heap.size, 0, none⟩ = some (.string (CheckR.at_ l k).Id) := by simp
            have y1 : (wr.alloc (.cells #[.string (CheckR.at_ l k).Id, .int .i64 (CheckR.at_ l k).EveryDays, .int .i64 (CheckR.at_ l k).EveryRides, .int .i64 (CheckR.at_ l k).LastDay, .int .i64 (CheckR.at_ l k).LastRide] 39)).cell? ⟨wr.heap.size, 1, none⟩ = some (.int .i64 (CheckR.at_ l k).EveryDays) := by simp
            have y2 : (wr.alloc (.cells #[.string (CheckR.at_ l k).Id, .int .i64 (CheckR.at_ l k).EveryDays, .int .i64 (CheckR.at_ l k).EveryRides, .int .i64 (CheckR.at_ l k).LastDay, .int .i64 (CheckR.at_ l k).LastRide] 39)).cell? ⟨wr.heap.size, 2, none⟩ = some (.int .i64 (CheckR.at_ l k).EveryRides) := by simp
            have y3 : (wr.alloc (.cells #[.string (CheckR.at_ l k).Id, .int .i64 (CheckR.at_ l k).EveryDays, .int .i64 (CheckR.at_ l k).EveryRides, .int .i64 (CheckR.at_ l k).LastDay, .int .i64 (CheckR.at_ l k).LastRide] 39)).cell? ⟨wr.heap.size, 3, none⟩ = some (.int .i64 (CheckR.at_ l k).LastDay) := by simp
            have y4 : (wr.alloc (.cells #[.string (CheckR.at_ l k).Id, .int .i64 (CheckR.at_ l k).EveryDays, .int .i64 (CheckR.at_ l k).EveryRides, .int .i64 (CheckR.at_ l k).LastDay, .int .i64 (CheckR.at_ l k).LastRide] 39)).cell? ⟨wr.heap.size, 4, none⟩ = some (.int .i64 (CheckR.at_ l k).LastRide) := by simp
            have yp : (wr.alloc (.cells #[.string (CheckR.at_ l k).Id, .int .i64 (CheckR.at_ l k).EveryDays, .int .i64 (CheckR.at_ l k).EveryRides, .int .i64 (CheckR.at_ l k).LastDay, .int .i64 (CheckR.at_ l k).LastRide] 39)).cell? ⟨b0, o0 + (k - 1) * 5, none⟩ = some (.string (CheckR.at_ l (k - 1)).Id) := by rw [World.cell?_alloc_lt _ _ _ (by simp only []; omega)]; exact hp
            go_wp2_with fail
            generalize (wr.alloc (.cells #[.string (CheckR.at_ l k).Id, .int .i64 (CheckR.at_ l k).EveryDays, .int .i64 (CheckR.at_ l k).EveryRides, .int .i64 (CheckR.at_ l k).LastDay, .int .i64 (CheckR.at_ l k).LastRide] 39)) = W1 at *
            have qy0 := cell_regrown y0
            have qy1 := cell_regrown y1
            have qy2 := cell_regrown y2
            have qy3 := cell_regrown y3
            have qy4 := cell_regrown y4
            have qyp := cell_regrown yp
            have cV : ∀ d os, Calls Tryz.prog 29 #[.agg #[.string (CheckR.at_ l k).Id, .int .i64 (CheckR.at_ l k).EveryDays, .int .i64 (CheckR.at_ l k).EveryRides, .int .i64 (CheckR.at_ l k).LastDay, .int .i64 (CheckR.at_ l k).LastRide]] (Sort.grow (redrawn W1 d) os) fun e w'' => e = .returned (.bool true) ∧ ∃ p : Regrown, w'' = Sort.grow (redrawn W1 p.d) p.os := fun d os => by
              have := validCheck_any (a1 := (CheckR.at_ l k).EveryDays) (a2 := (CheckR.at_ l k).EveryRides) (a3 := (CheckR.at_ l k).LastDay) (a4 := (CheckR.at_ l k).LastRide) (w := Sort.grow (redrawn W1 d) os) hfk
              rw [v1'] at this
              exact Calls.regrown_of this
            clear y0 y1 y2 y3 y4 yp
            refine wp_region_quiet_below (by kernel_rfl) (by kernel_rfl) ?_
            repeat (go_big_quiet_step (exact cV _ _))
            refine wpQuiet_nil ?_
            intro _ hw'
            obtain ⟨⟨dq, osq⟩, hw''⟩ := hw'
            subst hw''
            have hbS := below_regrown W1 dq osq
            have hb3 := pre.trans (hbS.mono pre.size)
            clear cV qy0 qy1 qy2 qy3 qy4 qyp
            generalize Sort.grow (redrawn W1 dq) osq = w3 at *
            go_wp2_with fail
            go_ret
            exact ⟨ret_bool (by rw [checkBAll, allTo_false (k := k) (by rw [HL.out]; omega) Hs.out]; rfl), hb3⟩
          | true =>
            have sv' : (Op.bytesLess (CheckR.at_ l k).Id.toList (CheckR.at_ l (k - 1)).Id.toList || (CheckR.at_ l k).Id.toList == (CheckR.at_ l (k - 1)).Id.toList) = false := by rw [sLt_tri, sv]; rfl
            have Hs : Hid (checkBAt l k = true) := Lib.hid (by rw [Hat.out, v1, z2, sv]; rfl)
            have pre : Below w.heap.size w (wr.alloc (.cells #[.string (CheckR.at_ l k).Id, .int .i64 (CheckR.at_ l k).EveryDays, .int .i64 (CheckR.at_ l k).EveryRides, .int .i64 (CheckR.at_ l k).LastDay, .int .i64 (CheckR.at_ l k).LastRide] 39)) := hb.alloc hbs _
            have hsz : wr.heap.size < (wr.alloc (.cells #[.string (CheckR.at_ l k).Id, .int .i64 (CheckR.at_ l k).EveryDays, .int .i64 (CheckR.at_ l k).EveryRides, .int .i64 (CheckR.at_ l k).LastDay, .int .i64 (CheckR.at_ l k).LastRide] 39)).heap.size := by simp
            have y0 : (wr.alloc (.cells #[.string (CheckR.at_ l k).Id, .int .i64 (CheckR.at_ l k).EveryDays, .int .i64 (CheckR.at_ l k).EveryRides, .int .i64 (CheckR.at_ l k).LastDay, .int .i64 (CheckR.at_ l k).LastRide] 39)).cell? ⟨wr.heap.size, 0, none⟩ = some (.string (CheckR.at_ l k).Id) := by simp
            have y1 : (wr.alloc (.cells #[.string (CheckR.at_ l k).Id, .int .i64 (CheckR.at_ l k).EveryDays, .int .i64 (CheckR.at_ l k).EveryRides, .int .i64 (CheckR.at_ l k).LastDay, .int .i64 (CheckR.at_ l k).LastRide] 39)).cell? ⟨wr.heap.size, 1, none⟩ = some (.int .i64 (CheckR.at_ l k).EveryDays) := by simp
            have y2 : (wr.alloc (.cells #[.string (CheckR.at_ l k).Id, .int .i64 (CheckR.at_ l k).EveryDays, .int .i64 (CheckR.at_ l k).EveryRides, .int .i64 (CheckR.at_ l k).LastDay, .int .i64 (CheckR.at_ l k).LastRide] 39)).cell? ⟨wr.heap.size, 2, none⟩ = some (.int .i64 (CheckR.at_ l k).EveryRides) := by simp
            have y3 : (wr.alloc (.cells #[.string (CheckR.at_ l k).Id, .int .i64 (CheckR.at_ l k).EveryDays, .int .i64 (CheckR.at_ l k).EveryRides, .int .i64 (CheckR.at_ l k).LastDay, .int .i64 (CheckR.at_ l k).LastRide] 39)).cell? ⟨wr.heap.size, 3, none⟩ = some (.int .i64 (CheckR.at_ l k).LastDay) := by simp
            have y4 : (wr.alloc (.cells #[.string (CheckR.at_ l k).Id, .int .i64 (CheckR.at_ l k).EveryDays, .int .i64 (CheckR.at_ l k).EveryRides, .int .i64 (CheckR.at_ l k).LastDay, .int .i64 (CheckR.at_ l k).LastRide] 39)).cell? ⟨wr.heap.size, 4, none⟩ = some (.int .i64 (CheckR.at_ l k).LastRide) := by simp
            have yp : (wr.alloc (.cells #[.string (CheckR.at_ l k).Id, .int .i64 (CheckR.at_ l k).EveryDays, .int .i64 (CheckR.at_ l k).EveryRides, .int .i64 (CheckR.at_ l k).LastDay, .int .i64 (CheckR.at_ l k).LastRide] 39)).cell? ⟨b0, o0 + (k - 1) * 5, none⟩ = some (.string (CheckR.at_ l (k - 1)).Id) := by rw [World.cell?_alloc_lt _ _ _ (by simp only []; omega)]; exact hp
            go_wp2_with fail
            generalize (wr.alloc (.cells #[.string (CheckR.at_ l k).Id, .int .i64 (CheckR.at_ l k).EveryDays, .int .i64 (CheckR.at_ l k).EveryRides, .int .i64 (CheckR.at_ l k).LastDay, .int .i64 (CheckR.at_ l k).LastRide] 39)) = W1 at *
            have qy0 := cell_regrown y0
            have qy1 := cell_regrown y1
            have qy2 := cell_regrown y2
            have qy3 := cell_regrown y3
            have qy4 := cell_regrown y4
            have qyp := cell_regrown yp
            have cV : ∀ d os, Calls Tryz.prog 29 #[.agg #[.string (CheckR.at_ l k).Id, .int .i64 (CheckR.at_ l k).EveryDays, .int .i64 (CheckR.at_ l k).EveryRides, .int .i64 (CheckR.at_ l k).LastDay, .int .i64 (CheckR.at_ l k).LastRide]] (Sort.grow (redrawn W1 d) os) fun e w'' => e = .returned (.bool true) ∧ ∃ p : Regrown, w'' = Sort.grow (redrawn W1 p.d) p.os := fun d os => by
              have := validCheck_any (a1 := (CheckR.at_ l k).EveryDays) (a2 := (CheckR.at_ l k).EveryRides) (a3 := (CheckR.at_ l k).LastDay) (a4 := (CheckR.at_ l k).LastRide) (w := Sort.grow (redrawn W1 d) os) hfk
              rw [v1'] at this
              exact Calls.regrown_of this
            clear y0 y1 y2 y3 y4 yp
            refine wp_region_quiet_below (by kernel_rfl) (by kernel_rfl) ?_
            repeat (go_big_quiet_step (exact cV _ _))
            refine wpQuiet_nil ?_
            intro _ hw'
            obtain ⟨⟨dq, osq⟩, hw''⟩ := hw'
            subst hw''
            have hbS := below_regrown W1 dq osq
            have hb3 := pre.trans (hbS.mono pre.size)
            clear cV qy0 qy1 qy2 qy3 qy4 qyp
            generalize Sort.grow (redrawn W1 dq) osq = w3 at *
            go_wp2_with fail
            have hgk := Hgk.out
            go_roundg (gk - 1)
            case rel => exact ⟨k + 1, by omega, by omega, by go_num, hb3, by rw [allTo_succ, Hall.out, Hs.out]; rfl⟩
            case measure => omega
    · have hke : k = n := by omega
      have Hr : Hid (checkBAll l = decide (n ≤ 16)) := Lib.hid (by
        have := Hall.out
        rw [hke] at this
        rw [checkBAll, HL.out, this]; rfl)
      have hd : ¬ (k : Int) < (n : Int) := by omega
      go_wp2_with fail
      go_ret
      exact ⟨ret_bool (by rw [Hr.out]; first | rfl | exact decide_eq_decide.2 (by omega)), hb⟩
theorem implValidChecks_any {A : Option Addr} {n c B : Nat} {l : List CheckR} {w : World} (h : Reads w B 5 A n (l.flatMap CheckR.cells)) (hB : B ≤ w.heap.size) (hc : n ≤ c) (hn : n ≤ 1048576) (hF : ∀ x ∈ l, x.Id.size ≤ 1048576) :
    Calls Tryz.prog 14 #[.slice A n c] w fun e w' => e = .returned (.bool (checkBAll l)) ∧ Below w.heap.size w w' := validChecksI_any h hB hn hF
end Go.Proofs.YtickepianllblaaGreatDoor
