/- Helpers: IdleHelpers: contracts of both sides; what looks for a number in a list. -/
import Derived.Test.YtcacmiafmanniaaHaHelper
import Derived.Test.YtcacmiafmanniaaF
import Derived.Test.YtcacmiafmanniaaX
import Derived.Test.YtcacmiafmanniaaA
namespace Go.Proofs.Ytcacmiafmanniaa
open Go.RowKit
set_option maxRecDepth 100000
set_option linter.unusedVariables false
set_option linter.unusedSimpArgs false

theorem l00Has_any {A : Option Addr} {n c B : Nat} {zs : List Int} {v : Int} {w : World} (h : Ints w B A n zs) (hn : n ≤ 1048576) :
    Calls Try.prog 24 #[.slice A n c, .int .i64 v] w fun e w' => e = .returned (.bool (zs.any (fun z => v == z))) ∧ w = w' := by
  have HL := Lib.hid h.len
  go_enter Try.func24, Try.ntmps24
  go_wp2_with fail
  go_loopg [5] n (fun gk i wr => ∃ k : Nat, k ≤ n ∧ gk + k = n ∧ i = .int .i64 k ∧ wr = w ∧ (zs.take k).any (fun z => v == z) = false)
  case atStart => exact ⟨0, Nat.zero_le _, rfl, rfl, rfl, rfl⟩
  case round =>
    obtain ⟨k, hk, hgk, rfl, rfl, hall⟩ := hrel
    have Hgk := Lib.hid hgk
    have Hall := Lib.hid hall
    clear hgk hall
    by_cases hlt : k < n
    · obtain ⟨ad, rfl, hbl, hc⟩ := h.at_ hlt
      have hmem := Lib.hid (nth_mem (zs := zs) (k := k) (by rw [HL.out]; exact hlt))
      have Hat := Lib.hid (any_take_succ (f := fun z => v == z) (show k < zs.length by rw [HL.out]; exact hlt))
      generalize nth zs k = x at *
      by_cases hv : x = v
      · have hv1 : (x == v) = true := by simpa using hv
        have Hr : Hid (zs.any (fun z => v == z) = true) := Lib.hid (List.any_eq_true.2 ⟨x, hmem.out, by simpa using hv.symm⟩)
        clear hv
        go_wp2_with fail
        go_ret
        exact ⟨ret_bool (by rw [Hr.out]), rfl⟩
      · have hv1 : (x == v) = false := by simpa using hv
        have Hv : Hid ((v == x) = false) := Lib.hid (by simpa using fun e => hv e.symm)
        clear hv
        go_wp2_with fail
        have hgk := Hgk.out
        go_roundg (gk - 1)
        case rel => exact ⟨k + 1, by omega, by omega, by go_num, rfl, by rw [Hat.out, Hall.out, Hv.out]; rfl⟩
        case measure => omega
    · have Hn : Hid (zs.any (fun z => v == z) = false) := by
        have := Hall.out
        exact Lib.hid (by rwa [List.take_of_length_le (by rw [HL.out]; omega)] at this)
      have hd : ¬ (k : Int) < (n : Int) := by omega
      go_wp2_with fail
      go_ret
      exact ⟨ret_bool (by rw [Hn.out]), rfl⟩
/-- The numbers below k that are not in a list. -/
def restTo (zs : List Int) : Nat → List Int
  | 0 => []
  | k + 1 => restTo zs k ++ (if zs.any (fun z => (k : Int) == z) then [] else [(k : Int)])
theorem restTo_succ (zs : List Int) (k : Nat) : restTo zs (k + 1) = restTo zs k ++ (if zs.any (fun z => (k : Int) == z) then [] else [(k : Int)]) := rfl
theorem restTo_len (zs : List Int) (k : Nat) : (restTo zs k).length ≤ k := by
  induction k with
  | zero => simp [restTo]
  | succ k ih => rw [restTo_succ, List.length_append]; split <;> simp <;> omega
def rIdleHelpers (l : List HelperR) (zs : List Int) : List Int × Int :=
  if helperBAll l then (if decide (8 < zs.length) || zs.any (fun z => !inB z 0 ((l.length : Int) - 1)) then ([], 2) else (restTo zs l.length, 0)) else ([], 1)

end Go.Proofs.Ytcacmiafmanniaa
