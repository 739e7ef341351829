/- Contracts of IndexFunc, ContainsFunc with a closure that bears one captured variable; of Contains, Index. -/
import Derived.Test.YtcppogfffgdjhaaS
import Derived.Test.YtcppogfffgdjhaaL
namespace Go.Proofs.Ytcppogfffgdjhaa
open Go.RowKit
set_option maxRecDepth 100000
set_option linter.unusedVariables false

theorem indexFunc1_any (K : Nat) (hK : ∀ args w, (callFunc K args).run Try.prog w = .ok (.enter K args) w) (f : Int → Bool) (v : Value) (w : World) (hf : Hid (∀ z, Calls Try.prog K #[.int .i64 z, v] w fun e w' => e = .returned (.bool (f z)) ∧ w = w'))
    (A : Option Addr) (n c B : Nat) (zs : List Int) (h : Ints w B A n zs) (hn : n ≤ 140737488351232) :
    Calls Try.prog 42 #[.slice A n c, .func (.func K) #[] #[v]] w fun e w' => e = .returned (.int .i64 (findI f zs)) ∧ w = w' := by
  have HL := Lib.hid h.len
  go_enter Try.func42, Try.ntmps42
  go_wp2_with fail
  go_loopg [8] n (fun gk i wr => ∃ k : Nat, k ≤ n ∧ gk + k = n ∧ i = .int .i64 k ∧ w = wr ∧ (zs.take k).any f = false)
  case atStart => exact ⟨0, Nat.zero_le _, rfl, rfl, rfl, rfl⟩
  case round =>
    obtain ⟨k, hk, hgk, rfl, rfl, hall⟩ := hrel
    have Hgk := Lib.hid hgk
    have Hall := Lib.hid hall
    clear hgk hall
    by_cases hlt : k < n
    · obtain ⟨ad, rfl, hbl, hc⟩ := h.at_ hlt
      go_wp2_with fail
      refine (hf.out _).mono ?_
      rintro e w' ⟨rfl, rfl⟩
      go_wp2_with fail
      · go_ret
        exact ⟨ret_int (by rw [findI_some (by rw [HL.out]; omega) Hall.out (by assumption)]), rfl⟩
      · have hf' : f (nth zs k) = false := by assumption
        have hgk := Hgk.out
        go_roundg (gk - 1)
        case rel => exact ⟨k + 1, by omega, by omega, by go_num, rfl, by rw [any_take_succ (by rw [HL.out]; omega), Hall.out, hf']; rfl⟩
        case measure => omega
    · have Hn : Hid (zs.any f = false) := by
        have := Hall.out
        rwa [List.take_of_length_le (by rw [HL.out]; omega)] at this
      go_wp2
      go_ret
      exact ⟨ret_int (by rw [findI_none Hn.out]), rfl⟩
theorem containsFunc1_any (K : Nat) (hK : Hid (∀ args w, (callFunc K args).run Try.prog w = .ok (.enter K args) w)) (f : Int → Bool) (v : Value) (w : World) (hf : Hid (∀ z, Calls Try.prog K #[.int .i64 z, v] w fun e w' => e = .returned (.bool (f z)) ∧ w = w'))
    (A : Option Addr) (n c B : Nat) (zs : List Int) (h : Ints w B A n zs) (hn : n ≤ 140737488351232) :
    Calls Try.prog 38 #[.slice A n c, .func (.func K) #[] #[v]] w fun e w' => e = .returned (.bool (zs.any f)) ∧ w = w' := by
  go_enter Try.func38, Try.ntmps38
  go_wp2_with (go_at_call 42; refine (indexFunc1_any K hK.out f v _ hf A n c B zs h hn).mono ?_; rintro e w' ⟨rfl, rfl⟩)
  go_ret
  exact ⟨ret_bool (findI_any f zs), rfl⟩
theorem contains_any (A : Option Addr) (n c B : Nat) (zs : List Int) (v : Int) (w : World) (h : Ints w B A n zs) (hn : n ≤ 140737488351232) :
    Calls Try.prog 29 #[.slice A n c, .int .i64 v] w fun e w' => e = .returned (.bool (zs.any (fun z => v == z))) ∧ w = w' := by
  go_enter Try.func29, Try.ntmps29
  go_wp2_with (go_at_call 32; refine (index_any A n c B zs v _ h hn).mono ?_; rintro e w' ⟨rfl, rfl⟩)
  go_ret
  exact ⟨ret_bool (findI_any _ zs), rfl⟩
end Go.Proofs.Ytcppogfffgdjhaa
