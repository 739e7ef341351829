/- Contracts of IndexFunc, ContainsFunc with a closure that bears one captured variable; of Contains, Index. -/
import Derived.Test.YtcacmiafmanniaaS
import Derived.Test.YtcacmiafmanniaaL
namespace Go.Proofs.Ytcacmiafmanniaa
open Go.RowKit
set_option maxRecDepth 100000
set_option linter.unusedVariables false

theorem contains_any (A : Option Addr) (n c B : Nat) (zs : List Int) (v : Int) (w : World) (h : Ints w B A n zs) (hn : n ≤ 140737488351232) :
    Calls Try.prog 42 #[.slice A n c, .int .i64 v] w fun e w' => e = .returned (.bool (zs.any (fun z => v == z))) ∧ w = w' := by
  go_enter Try.func42, Try.ntmps42
  go_wp2_with (go_at_call 54; refine (index_any A n c B zs v _ h hn).mono ?_; rintro e w' ⟨rfl, rfl⟩)
  go_ret
  exact ⟨ret_bool (findI_any _ zs), rfl⟩
end Go.Proofs.Ytcacmiafmanniaa
