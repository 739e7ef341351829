/- Helpers: contracts of what asks whether they are valid. -/
import Derived.Test.YtpakopkmcjdfpaaDoorGHelper
import Derived.Lib.QuietBelow
import Derived.BigQuiet
namespace Go.Proofs.YtpakopkmcjdfpaaDoor
open Go.RowKit
set_option maxRecDepth 100000
set_option linter.unusedVariables false
set_option linter.unusedSimpArgs false

def helperB (x : HelperR) : Bool := (nameB x.Id && (inB x.Skills 0 7 && inB x.Minutes 0 1000))
def helperBAt (l : List HelperR) (k : Nat) : Bool := helperB (HelperR.at_ l k) && (decide (k = 0) || sLt (HelperR.at_ l (k - 1)).Id (HelperR.at_ l k).Id)
def helperBAll (l : List HelperR) : Bool := allTo (helperBAt l) l.length && decide (l.length ≤ 10)
theorem validHelper_any {a0 : ByteArray} {a1 : Int} {a2 : Int} {w : World} (hs : a0.size ≤ 1048576) :
    Calls Tryd.prog 15 #[.agg #[.string a0, .int .i64 a1, .int .i64 a2]] w fun e w' => e = .returned (.bool (helperB ⟨a0, a1, a2⟩)) ∧ Below w.heap.size w w' := by
  have Hc : Hid (helperB ⟨a0, a1, a2⟩ = (nameB a0 && (inB a1 0 7 && inB a2 0 1000))) := Lib.hid rfl
  have pre : Below w.heap.size w (w.alloc (.cells #[.string a0, .int .i64 a1, .int .i64 a2] 26)) := (Below.refl _ _).alloc (Nat.le_refl _) _
  have hsz : w.heap.size < (w.alloc (.cells #[.string a0, .int .i64 a1, .int .i64 a2] 26)).heap.size := by simp
  have c1 : (w.alloc (.cells #[.string a0, .int .i64 a1, .int .i64 a2] 26)).cell? ⟨w.heap.size, 1, none⟩ = some (.int .i64 a1) := by simp
  have c2 : (w.alloc (.cells #[.string a0, .int .i64 a1, .int .i64 a2] 26)).cell? ⟨w.heap.size, 2, none⟩ = some (.int .i64 a2) := by simp
  go_enter Tryd.func15, Tryd.ntmps15
  go_wp2_with fail
  generalize w.alloc (.cells #[.string a0, .int .i64 a1, .int .i64 a2] 26) = W1 at *
  refine (isName_any _ _ hs).mono ?_
  rintro e w2 ⟨rfl, b⟩
  have d1 := (b.cell (p := ⟨w.heap.size, 1, none⟩) hsz).trans c1
  have d2 := (b.cell (p := ⟨w.heap.size, 2, none⟩) hsz).trans c2
  have bel := pre.trans (b.mono pre.size)
  clear pre b c1 c2
  cases v0 : nameB a0 with
  | false =>
    go_wp2_with (first | (go_at_call 27; refine (isSkills_any _ _).mono ?_; rintro e w' ⟨rfl, rfl⟩) | (go_at_call 28; refine (isShare_any _ _).mono ?_; rintro e w' ⟨rfl, rfl⟩))
    go_ret
    exact ⟨ret_bool (by rw [Hc.out, v0]; rfl), bel⟩
  | true =>
  cases v1 : inB a1 0 7 with
  | false =>
    go_wp2_with (first | (go_at_call 27; refine (isSkills_any _ _).mono ?_; rintro e w' ⟨rfl, rfl⟩) | (go_at_call 28; refine (isShare_any _ _).mono ?_; rintro e w' ⟨rfl, rfl⟩))
    go_ret
    exact ⟨ret_bool (by rw [Hc.out, v0, v1]; rfl), bel⟩
  | true =>
  cases v2 : inB a2 0 1000 with
  | false =>
    go_wp2_with (first | (go_at_call 27; refine (isSkills_any _ _).mono ?_; rintro e w' ⟨rfl, rfl⟩) | (go_at_call 28; refine (isShare_any _ _).mono ?_; rintro e w' ⟨rfl, rfl⟩))
    go_ret
    exact ⟨ret_bool (by rw [Hc.out, v0, v1, v2]; rfl), bel⟩
  | true =>
  go_wp2_with (first | (go_at_call 27; refine (isSkills_any _ _).mono ?_; rintro e w' ⟨rfl, rfl⟩) | (go_at_call 28; refine (isShare_any _ _).mono ?_; rintro e w' ⟨rfl, rfl⟩))
  go_ret
  exact ⟨ret_bool (by rw [Hc.out, v0, v1, v2]; rfl), bel⟩
theorem l24Helper_any {p : Addr} {x : HelperR} {w : World} (h0 : w.cell? p = some (.string x.Id)) (h1 : w.cell? ⟨p.block, p.off + 1, none⟩ = some (.int .i64 x.Skills)) (h2 : w.cell? ⟨p.block, p.off + 2, none⟩ = some (.int .i64 x.Minutes)) (hs : x.Id.size ≤ 1048576) :
    Calls Tryd.prog 13 #[.pointer (some p)] w fun e w' => e = .returned (.bool (helperB x)) ∧ w = w' := by
  have Hc : Hid (helperB x = (nameB x.Id && (inB x.Skills 0 7 && inB x.Minutes 0 1000))) := Lib.hid rfl
  cases v0 : nameB x.Id with
  | false =>
    go_enter Tryd.func13, Tryd.ntmps13
    go_wp2_with (first | (go_at_call 21; refine (l01Name_any _ _ hs).mono ?_; rintro e w' ⟨rfl, rfl⟩) | (go_at_call 22; refine (l24Skills_any _ _).mono ?_; rintro e w' ⟨rfl, rfl⟩) | (go_at_call 23; refine (l24Minutes_any _ _).mono ?_; rintro e w' ⟨rfl, rfl⟩))
    go_ret
    exact ⟨ret_bool (by rw [Hc.out, v0]; rfl), rfl⟩
  | true =>
  cases v1 : inB x.Skills 0 7 with
  | false =>
    go_enter Tryd.func13, Tryd.ntmps13
    go_wp2_with (first | (go_at_call 21; refine (l01Name_any _ _ hs).mono ?_; rintro e w' ⟨rfl, rfl⟩) | (go_at_call 22; refine (l24Skills_any _ _).mono ?_; rintro e w' ⟨rfl, rfl⟩) | (go_at_call 23; refine (l24Minutes_any _ _).mono ?_; rintro e w' ⟨rfl, rfl⟩))
    go_ret
    exact ⟨ret_bool (by rw [Hc.out, v0, v1]; rfl), rfl⟩
  | true =>
  cases v2 : inB x.Minutes 0 1000 with
  | false =>
    go_enter Tryd.func13, Tryd.ntmps13
    go_wp2_with (first | (go_at_call 21; refine (l01Name_any _ _ hs).mono ?_; rintro e w' ⟨rfl, rfl⟩) | (go_at_call 22; refine (l24Skills_any _ _).mono ?_; rintro e w' ⟨rfl, rfl⟩) | (go_at_call 23; refine (l24Minutes_any _ _).mono ?_; rintro e w' ⟨rfl, rfl⟩))
    go_ret
    exact ⟨ret_bool (by rw [Hc.out, v0, v1, v2]; rfl), rfl⟩
  | true =>
  go_enter Tryd.func13, Tryd.ntmps13
  go_wp2_with (first | (go_at_call 21; refine (l01Name_any _ _ hs).mono ?_; rintro e w' ⟨rfl, rfl⟩) | (go_at_call 22; refine (l24Skills_any _ _).mono ?_; rintro e w' ⟨rfl, rfl⟩) | (go_at_call 23; refine (l24Minutes_any _ _).mono ?_; rintro e w' ⟨rfl, rfl⟩))
  go_ret
  exact ⟨ret_bool (by rw [Hc.out, v0, v1, v2]; rfl), rfl⟩
end Go.Proofs.YtpakopkmcjdfpaaDoor
