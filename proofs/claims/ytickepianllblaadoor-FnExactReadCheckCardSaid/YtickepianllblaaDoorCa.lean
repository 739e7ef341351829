/- Inspections: contracts of what asks whether they are valid. -/
import Derived.Test.YtickepianllblaaDoorGCheck
import Derived.Lib.QuietBelow
import Derived.BigQuiet
namespace Go.Proofs.YtickepianllblaaDoor
open Go.RowKit
set_option maxRecDepth 100000
set_option linter.unusedVariables false
set_option linter.unusedSimpArgs false

def checkB (x : CheckR) : Bool := (nameB x.Id && (inB x.EveryDays 1 100000 && (inB x.EveryRides 1 1000000 && (inB x.LastDay 0 100000 && inB x.LastRide 0 1000000))))
def checkBAt (l : List CheckR) (k : Nat) : Bool := checkB (CheckR.at_ l k) && (decide (k = 0) || sLt (CheckR.at_ l (k - 1)).Id (CheckR.at_ l k).Id)
def checkBAll (l : List CheckR) : Bool := allTo (checkBAt l) l.length && decide (l.length ≤ 16)
theorem validCheck_any {a0 : ByteArray} {a1 : Int} {a2 : Int} {a3 : Int} {a4 : Int} {w : World} (hs : a0.size ≤ 1048576) :
    Calls Tryd.prog 19 #[.agg #[.string a0, .int .i64 a1, .int .i64 a2, .int .i64 a3, .int .i64 a4]] w fun e w' => e = .returned (.bool (checkB ⟨a0, a1, a2, a3, a4⟩)) ∧ Below w.heap.size w w' := by
  have Hc : Hid (checkB ⟨a0, a1, a2, a3, a4⟩ = (nameB a0 && (inB a1 1 100000 && (inB a2 1 1000000 && (inB a3 0 100000 && inB a4 0 1000000))))) := Lib.hid rfl
  have pre : Below w.heap.size w (w.alloc (.cells #[.string a0, .int .i64 a1, .int .i64 a2, .int .i64 a3, .int .i64 a4] 23)) := (Below.refl _ _).alloc (Nat.le_refl _) _
  have hsz : w.heap.size < (w.alloc (.cells #[.string a0, .int .i64 a1, .int .i64 a2, .int .i64 a3, .int .i64 a4] 23)).heap.size := by simp
  have c1 : (w.alloc (.cells #[.string a0, .int .i64 a1, .int .i64 a2, .int .i64 a3, .int .i64 a4] 23)).cell? ⟨w.heap.size, 1, none⟩ = some (.int .i64 a1) := by simp
  have c2 : (w.alloc (.cells #[.string a0, .int .i64 a1, .int .i64 a2, .int .i64 a3, .int .i64 a4] 23)).cell? ⟨w.heap.size, 2, none⟩ = some (.int .i64 a2) := by simp
  have c3 : (w.alloc (.cells #[.string a0, .int .i64 a1, .int .i64 a2, .int .i64 a3, .int .i64 a4] 23)).cell? ⟨w.heap.size, 3, none⟩ = some (.int .i64 a3) := by simp
  have c4 : (w.alloc (.cells #[.string a0, .int .i64 a1, .int .i64 a2, .int .i64 a3, .int .i64 a4] 23)).cell? ⟨w.heap.size, 4, none⟩ = some (.int .i64 a4) := by simp
  go_enter Tryd.func19, Tryd.ntmps19
  go_wp2_with fail
  generalize w.alloc (.cells #[.string a0, .int .i64 a1, .int .i64 a2, .int .i64 a3, .int .i64 a4] 23) = W1 at *
  refine (isName_any _ _ hs).mono ?_
  rintro e w2 ⟨rfl, b⟩
  have d1 := (b.cell (p := ⟨w.heap.size, 1, none⟩) hsz).trans c1
  have d2 := (b.cell (p := ⟨w.heap.size, 2, none⟩) hsz).trans c2
  have d3 := (b.cell (p := ⟨w.heap.size, 3, none⟩) hsz).trans c3
  have d4 := (b.cell (p := ⟨w.heap.size, 4, none⟩) hsz).trans c4
  have bel := pre.trans (b.mono pre.size)
  clear pre b c1 c2 c3 c4
  cases v0 : nameB a0 with
  | false =>
    go_wp2_with (first | (go_at_call 27; refine (within_any _ _ _ _).mono ?_; rintro e w' ⟨rfl, rfl⟩) | (go_at_call 28; refine (isOpsDay_any _ _).mono ?_; rintro e w' ⟨rfl, rfl⟩) | (go_at_call 29; refine (isCount_any _ _).mono ?_; rintro e w' ⟨rfl, rfl⟩))
    go_ret
    exact ⟨ret_bool (by rw [Hc.out, v0]; rfl), bel⟩
  | true =>
  cases v1 : inB a1 1 100000 with
  | false =>
    go_wp2_with (first | (go_at_call 27; refine (within_any _ _ _ _).mono ?_; rintro e w' ⟨rfl, rfl⟩) | (go_at_call 28; refine (isOpsDay_any _ _).mono ?_; rintro e w' ⟨rfl, rfl⟩) | (go_at_call 29; refine (isCount_any _ _).mono ?_; rintro e w' ⟨rfl, rfl⟩))
    go_ret
    exact ⟨ret_bool (by rw [Hc.out, v0, v1]; rfl), bel⟩
  | true =>
  cases v2 : inB a2 1 1000000 with
  | false =>
    go_wp2_with (first | (go_at_call 27; refine (within_any _ _ _ _).mono ?_; rintro e w' ⟨rfl, rfl⟩) | (go_at_call 28; refine (isOpsDay_any _ _).mono ?_; rintro e w' ⟨rfl, rfl⟩) | (go_at_call 29; refine (isCount_any _ _).mono ?_; rintro e w' ⟨rfl, rfl⟩))
    go_ret
    exact ⟨ret_bool (by rw [Hc.out, v0, v1, v2]; rfl), bel⟩
  | true =>
  cases v3 : inB a3 0 100000 with
  | false =>
    go_wp2_with (first | (go_at_call 27; refine (within_any _ _ _ _).mono ?_; rintro e w' ⟨rfl, rfl⟩) | (go_at_call 28; refine (isOpsDay_any _ _).mono ?_; rintro e w' ⟨rfl, rfl⟩) | (go_at_call 29; refine (isCount_any _ _).mono ?_; rintro e w' ⟨rfl, rfl⟩))
    go_ret
    exact ⟨ret_bool (by rw [Hc.out, v0, v1, v2, v3]; rfl), bel⟩
  | true =>
  cases v4 : inB a4 0 1000000 with
  | false =>
    go_wp2_with (first | (go_at_call 27; refine (within_any _ _ _ _).mono ?_; rintro e w' ⟨rfl, rfl⟩) | (go_at_call 28; refine (isOpsDay_any _ _).mono ?_; rintro e w' ⟨rfl, rfl⟩) | (go_at_call 29; refine (isCount_any _ _).mono ?_; rintro e w' ⟨rfl, rfl⟩))
    go_ret
    exact ⟨ret_bool (by rw [Hc.out, v0, v1, v2, v3, v4]; rfl), bel⟩
  | true =>
  go_wp2_with (first | (go_at_call 27; refine (within_any _ _ _ _).mono ?_; rintro e w' ⟨rfl, rfl⟩) | (go_at_call 28; refine (isOpsDay_any _ _).mono ?_; rintro e w' ⟨rfl, rfl⟩) | (go_at_call 29; refine (isCount_any _ _).mono ?_; rintro e w' ⟨rfl, rfl⟩))
  go_ret
  exact ⟨ret_bool (by rw [Hc.out, v0, v1, v2, v3, v4]; rfl), bel⟩
theorem l21One_any {p : Addr} {x : CheckR} {w : World} (h0 : w.cell? p = some (.string x.Id)) (h1 : w.cell? ⟨p.block, p.off + 1, none⟩ = some (.int .i64 x.EveryDays)) (h2 : w.cell? ⟨p.block, p.off + 2, none⟩ = some (.int .i64 x.EveryRides)) (h3 : w.cell? ⟨p.block, p.off + 3, none⟩ = some (.int .i64 x.LastDay)) (h4 : w.cell? ⟨p.block, p.off + 4, none⟩ = some (.int .i64 x.LastRide)) (hs : x.Id.size ≤ 1048576) :
    Calls Tryd.prog 9 #[.pointer (some p)] w fun e w' => e = .returned (.bool (checkB x)) ∧ w = w' := by
  have Hc : Hid (checkB x = (nameB x.Id && (inB x.EveryDays 1 100000 && (inB x.EveryRides 1 1000000 && (inB x.LastDay 0 100000 && inB x.LastRide 0 1000000))))) := Lib.hid rfl
  cases v0 : nameB x.Id with
  | false =>
    go_enter Tryd.func9, Tryd.ntmps9
    go_wp2_with (first | (go_at_call 14; refine (l01Name_any _ _ hs).mono ?_; rintro e w' ⟨rfl, rfl⟩) | (go_at_call 13; refine (in_any _ _ _ _).mono ?_; rintro e w' ⟨rfl, rfl⟩) | (go_at_call 15; refine (l21Day_any _ _).mono ?_; rintro e w' ⟨rfl, rfl⟩) | (go_at_call 16; refine (l21Count_any _ _).mono ?_; rintro e w' ⟨rfl, rfl⟩))
    go_ret
    exact ⟨ret_bool (by rw [Hc.out, v0]; rfl), rfl⟩
  | true =>
  cases v1 : inB x.EveryDays 1 100000 with
  | false =>
    go_enter Tryd.func9, Tryd.ntmps9
    go_wp2_with (first | (go_at_call 14; refine (l01Name_any _ _ hs).mono ?_; rintro e w' ⟨rfl, rfl⟩) | (go_at_call 13; refine (in_any _ _ _ _).mono ?_; rintro e w' ⟨rfl, rfl⟩) | (go_at_call 15; refine (l21Day_any _ _).mono ?_; rintro e w' ⟨rfl, rfl⟩) | (go_at_call 16; refine (l21Count_any _ _).mono ?_; rintro e w' ⟨rfl, rfl⟩))
    go_ret
    exact ⟨ret_bool (by rw [Hc.out, v0, v1]; rfl), rfl⟩
  | true =>
  cases v2 : inB x.EveryRides 1 1000000 with
  | false =>
    go_enter Tryd.func9, Tryd.ntmps9
    go_wp2_with (first | (go_at_call 14; refine (l01Name_any _ _ hs).mono ?_; rintro e w' ⟨rfl, rfl⟩) | (go_at_call 13; refine (in_any _ _ _ _).mono ?_; rintro e w' ⟨rfl, rfl⟩) | (go_at_call 15; refine (l21Day_any _ _).mono ?_; rintro e w' ⟨rfl, rfl⟩) | (go_at_call 16; refine (l21Count_any _ _).mono ?_; rintro e w' ⟨rfl, rfl⟩))
    go_ret
    exact ⟨ret_bool (by rw [Hc.out, v0, v1, v2]; rfl), rfl⟩
  | true =>
  cases v3 : inB x.LastDay 0 100000 with
  | false =>
    go_enter Tryd.func9, Tryd.ntmps9
    go_wp2_with (first | (go_at_call 14; refine (l01Name_any _ _ hs).mono ?_; rintro e w' ⟨rfl, rfl⟩) | (go_at_call 13; refine (in_any _ _ _ _).mono ?_; rintro e w' ⟨rfl, rfl⟩) | (go_at_call 15; refine (l21Day_any _ _).mono ?_; rintro e w' ⟨rfl, rfl⟩) | (go_at_call 16; refine (l21Count_any _ _).mono ?_; rintro e w' ⟨rfl, rfl⟩))
    go_ret
    exact ⟨ret_bool (by rw [Hc.out, v0, v1, v2, v3]; rfl), rfl⟩
  | true =>
  cases v4 : inB x.LastRide 0 1000000 with
  | false =>
    go_enter Tryd.func9, Tryd.ntmps9
    go_wp2_with (first | (go_at_call 14; refine (l01Name_any _ _ hs).mono ?_; rintro e w' ⟨rfl, rfl⟩) | (go_at_call 13; refine (in_any _ _ _ _).mono ?_; rintro e w' ⟨rfl, rfl⟩) | (go_at_call 15; refine (l21Day_any _ _).mono ?_; rintro e w' ⟨rfl, rfl⟩) | (go_at_call 16; refine (l21Count_any _ _).mono ?_; rintro e w' ⟨rfl, rfl⟩))
    go_ret
    exact ⟨ret_bool (by rw [Hc.out, v0, v1, v2, v3, v4]; rfl), rfl⟩
  | true =>
  go_enter Tryd.func9, Tryd.ntmps9
  go_wp2_with (first | (go_at_call 14; refine (l01Name_any _ _ hs).mono ?_; rintro e w' ⟨rfl, rfl⟩) | (go_at_call 13; refine (in_any _ _ _ _).mono ?_; rintro e w' ⟨rfl, rfl⟩) | (go_at_call 15; refine (l21Day_any _ _).mono ?_; rintro e w' ⟨rfl, rfl⟩) | (go_at_call 16; refine (l21Count_any _ _).mono ?_; rintro e w' ⟨rfl, rfl⟩))
  go_ret
  exact ⟨ret_bool (by rw [Hc.out, v0, v1, v2, v3, v4]; rfl), rfl⟩
end Go.Proofs.YtickepianllblaaDoor
