/- The walk of the law 'FnExactValidWalks': whatever the input, it returns true, and nothing that was there has turned. -/
import Derived.Test.YtiphbbgadpkcnaaWa
import Derived.Test.YtiphbbgadpkcnaaO
import Derived.Test.YtiphbbgadpkcnaaQWalk
namespace Go.Proofs.Ytiphbbgadpkcnaa
open Go.RowKit
set_option maxRecDepth 100000
set_option linter.unusedVariables false

set_option maxHeartbeats 2000000 in
theorem FnExactValidWalks_walk (a0 : Int) (A1 : Option Addr) (n1 c1 : Nat) (z1 : List WalkR) (w : World) (w0 : (Lit.int .i64 a0).wf = true) (h1 : Reads w w.heap.size 4 A1 n1 (z1.flatMap WalkR.cells)) (hc1 : n1 ≤ c1) (hm1 : c1 ≤ maxLen) (hz1 : ∀ x ∈ z1, x.wf) :
    Calls Try.prog 3 #[.int .i64 a0, .slice A1 n1 c1] w fun e w' => e = .returned (.bool true) ∧ Below w.heap.size w w' := by
  clear w0
  unfold maxLen at hm1
  have tot : Below w.heap.size w w := Below.refl _ _
  go_enter Try.func3, Try.ntmps3
  go_wp2_with fail
  refine (szWalkS_any (h1.below tot (Nat.le_refl _)) (by omega) (by omega) (by omega) hz1).mono ?_
  rintro e u1 ⟨v1, rfl, b, hv1⟩
  replace tot := tot.trans (b.mono tot.size)
  clear b
  go_wp2_with fail
  · go_ret
    exact ⟨rfl, tot⟩
  replace hv1 := hv1 (by omega)
  refine (toWalkS_any (h1.below tot (Nat.le_refl _)) tot.size (by omega)).mono ?_
  rintro e u2 ⟨A_t2, c_t2, rfl, o_t2, b⟩
  have f_t2 : w.heap.size ≤ _ := tot.size
  replace tot := tot.trans (b.mono tot.size)
  clear b
  go_wp2_with fail
  refine (specValidWalks_any o_t2.reads (Nat.le_refl _) o_t2.cap (by omega)).mono ?_
  rintro e u3 ⟨rfl, b⟩
  replace o_t2 := o_t2.below b
  replace tot := tot.trans (b.mono tot.size)
  clear o_t2 f_t2
  clear b
  go_wp2_with fail
  refine (toWalkS_any (h1.below tot (Nat.le_refl _)) tot.size (by omega)).mono ?_
  rintro e u4 ⟨A_t4, c_t4, rfl, o_t4, b⟩
  have f_t4 : w.heap.size ≤ _ := tot.size
  replace tot := tot.trans (b.mono tot.size)
  clear b
  go_wp2_with fail
  refine (implValidWalks_any o_t4.reads (Nat.le_refl _) o_t4.cap (by omega)).mono ?_
  rintro e u5 ⟨rfl, b⟩
  replace o_t4 := o_t4.below b
  replace tot := tot.trans (b.mono tot.size)
  clear b
  go_wp2_with fail
  refine (toWalkS_any (h1.below tot (Nat.le_refl _)) tot.size (by omega)).mono ?_
  rintro e u6 ⟨A_t6, c_t6, rfl, o_t6, b⟩
  have p_t4_t6 := apart_of o_t4 o_t6 (Nat.le_refl _)
  have f_t6 : w.heap.size ≤ _ := tot.size
  replace o_t4 := o_t4.below b
  replace tot := tot.trans (b.mono tot.size)
  clear b
  go_wp2_with fail
  refine (eqWalkS_same o_t4.reads o_t6.reads (Nat.le_refl _) (Nat.le_refl _) o_t4.max).mono ?_
  rintro e u7 ⟨rfl, b⟩
  replace o_t4 := o_t4.below b
  replace o_t6 := o_t6.below b
  replace tot := tot.trans (b.mono tot.size)
  clear b
  go_wp2_with fail
  clear o_t6 f_t6 p_t4_t6
  go_ret
  exact ⟨rfl, tot⟩
end Go.Proofs.Ytiphbbgadpkcnaa
