import Derived.Test.YtdjoechokkbjeaaR
import Derived.Test.YtdjoechokkbjeaaO
namespace Go.Proofs.Ytdjoechokkbjeaa
open Go.RowKit
set_option maxRecDepth 100000

theorem FnExactValidSpots_walk (A : Option Addr) (n c : Nat) (zs : List Int) (w : World) (h : Ints w w.heap.size A n zs) (hc : n ≤ c) (hm : c ≤ maxLen) (hz : ∀ z ∈ zs, (Lit.int .i64 z).wf = true) :
    Calls Try.prog 3 #[.slice A n c] w fun e w' => e = .returned (.bool true) ∧ Below w.heap.size w w' := by
  clear hz
  unfold maxLen at hm
  by_cases hbig : 1048576 < n
  · go_enter Try.func3, Try.ntmps3
    go_wp2_with fail
    go_ret
    exact ⟨rfl, Below.refl _ _⟩
  · go_enter Try.func3, Try.ntmps3
    go_wp2_with fail
    refine (toInt64S_any A n c _ zs _ h (Nat.le_refl _) (by omega)).mono ?_
    rintro e w1 ⟨A1, c1, rfl, o1, b1⟩
    go_wp2_with fail
    refine (specValidSpots_any A1 n c1 _ zs _ o1.reads (by omega)).mono ?_
    rintro e w' ⟨rfl, rfl⟩
    go_wp2_with fail
    refine (toInt64S_any A n c _ zs _ (h.below b1 (Nat.le_refl _)) b1.size (by omega)).mono ?_
    rintro e w2 ⟨A2, c2, rfl, o2, b2⟩
    go_wp2_with fail
    refine (validSpots_any A2 n c2 _ zs _ o2.reads (by omega)).mono ?_
    rintro e w' ⟨rfl, rfl⟩
    go_wp2_with fail
    refine (toInt64S_any A n c _ zs _ ((h.below b1 (Nat.le_refl _)).below b2 b1.size) (Nat.le_trans b1.size b2.size) (by omega)).mono ?_
    rintro e w3 ⟨A3, c3, rfl, o3, b3⟩
    go_wp2_with fail
    refine (eqInt64S_same A2 A3 n c2 c3 _ _ zs _ (o2.reads.below b3 (Nat.le_refl _)) o3.reads (by omega)).mono ?_
    rintro e w' ⟨rfl, d, rfl⟩
    go_wp2_with fail
    go_ret
    exact ⟨rfl, below_drewN ((b1.trans (b2.mono b1.size)).trans (b3.mono (Nat.le_trans b1.size b2.size))) d⟩
end Go.Proofs.Ytdjoechokkbjeaa
