/- Texts of numbers: the reference's decimal form; the program's. -/
import Derived.Test.YtickepianllblaaGreatDoorTa
import Derived.Test.YtickepianllblaaGreatDoorS
import Derived.Test.YtickepianllblaaGreatDoorSz
import Derived.Lib.AppendIntMem
namespace Go.Proofs.YtickepianllblaaGreatDoor
open Go.RowKit
set_option maxRecDepth 100000
set_option linter.unusedVariables false
set_option linter.unusedSimpArgs false

theorem info_u8 : (Tryz.prog.info? 5).map (fun i => (i.zero, i.size, i.bytes)) = some (some (.int .u8 0), 1, 1) := by kernel_rfl
theorem ret_strT {x y : ByteArray} (h : x = y) : Ending.returned (.string x) = Ending.returned (.string y) := by rw [h]
theorem own_string {w : World} {B n c : Nat} {A : Option Addr} {l : List UInt8} (h : Own w B 5 1 A n c (u8s l)) : (convert 22 9 (.slice A n c)).run Tryz.prog w = .ok (.string ⟨l.toArray⟩) w := by
  have hl := h.len
  rw [u8s_len, Nat.mul_one] at hl
  rcases h.2 with ⟨e, h0⟩ | ⟨g, cap, cur, e, _⟩
  · injection e with e1 e2 e3
    subst e1; subst e2; subst e3
    have : l = [] := List.length_eq_zero_iff.1 hl
    subst this
    rfl
  · injection e with e1 e2 e3
    subst e1; subst e3
    rw [← hl]
    refine run_convert_bytes_back _ _ _ _ ⟨g, 0, none⟩ _ l Tryz.underlying22 Tryz.underlying5 Tryz.underlying9 (fun j hj => ?_)
    rw [Addr.add_lit, Nat.zero_add, Own.cellAt h (by omega)]
    simp [u8s, hj]

def TabOk (w : World) : Prop := Lib.TabIs Tryz.prog w "internal/strconv.uint64pow10" .u64 Lib.pow10Tab
theorem TabOk.below {w w' : World} (h : TabOk w) (hb : Below w.heap.size w w') : TabOk w' := Lib.tabBelow_of_tabIs h w' hb
theorem decimal_nat {K : Nat} {w : World} (hK : K ≤ 1000000000000000000) (ht : TabOk w) :
    Calls Tryz.prog 54 #[.int .i64 (K : Int)] w fun e w' => e = .returned (.string (decA K)) ∧ Below w.heap.size w w' := by
  have Hc : Hid (Calls Tryz.prog 66 #[.int .i64 (K : Int), .int .i64 10] w fun e w' => e = .returned (.string (decA K)) ∧ Below w.heap.size w w') := Lib.hid
    ((Tryz.strconv_FormatInt_10 (K : Int) (by omega) (by omega) w ht).mono fun e w' ⟨he, k, os, hw⟩ => by
      rw [itoa_nat] at he
      exact ⟨he, by rw [hw]; exact Lib.below_grow _ _ (Nat.le_refl _) k os⟩)
  go_enter Tryz.func54, Tryz.ntmps54
  go_wp2_with fail
  refine Hc.out.mono ?_
  rintro e w' ⟨rfl, b⟩
  go_wp2_with fail
  go_ret
  exact ⟨rfl, b⟩
end Go.Proofs.YtickepianllblaaGreatDoor
