/- The walk of the law 'FnExactCarsEmpty': whatever the input, it returns true, and nothing that was there has turned. -/
import Derived.Test.YtnoppdklgcpomaaWk
import Derived.Test.YtnoppdklgcpomaaO
import Derived.Test.YtnoppdklgcpomaaQWalk
namespace Go.Proofs.Ytnoppdklgcpomaa
open Go.RowKit
set_option maxRecDepth 100000
set_option linter.unusedVariables false

set_option maxHeartbeats 2000000 in
theorem FnExactCarsEmpty_walk (a0 : Int) (A1 : Option Addr) (n1 c1 : Nat) (z1 : List WalkR) (a2 : Int) (a3 : Int) (a4 : Int) (A5 : Option Addr) (n5 c5 : Nat) (z5 : List Int) (a6 : Bool) (w : World) (w0 : (Lit.int .i64 a0).wf = true) (h1 : Reads w w.heap.size 4 A1 n1 (z1.flatMap WalkR.cells)) (hc1 : n1 ≤ c1) (hm1 : c1 ≤ maxLen) (hz1 : ∀ x ∈ z1, x.wf) (w2 : (Lit.int .i64 a2).wf = true) (w3 : (Lit.int .i64 a3).wf = true) (w4 : (Lit.int .i64 a4).wf = true) (h5 : Ints w w.heap.size A5 n5 z5) (hc5 : n5 ≤ c5) (hm5 : c5 ≤ maxLen) (hz5 : ∀ z ∈ z5, (Lit.int .i64 z).wf = true) :
    Calls Try.prog 8 #[.int .i64 a0, .slice A1 n1 c1, .int .i64 a2, .int .i64 a3, .int .i64 a4, .slice A5 n5 c5, .bool a6] w fun e w' => e = .returned (.bool true) ∧ Below w.heap.size w w' := by
  clear w0
  unfold maxLen at hm1
  clear w2
  clear w3
  clear w4
  unfold maxLen at hm5
  by_cases b5 : 1048576 < n5
  · go_enter Try.func8, Try.ntmps8
    go_wp2_with fail
    go_ret
    exact ⟨rfl, by first | exact Below.refl _ _ | exact (Below.refl _ _).alloc (Nat.le_refl _) _⟩
  have tot : Below w.heap.size w w := Below.refl _ _
  go_enter Try.func8, Try.ntmps8
  go_wp2_with fail
  refine (szWalkS_any (h1.below tot (Nat.le_refl _)) (by omega) (by omega) (by omega) hz1).mono ?_
  rintro e u1 ⟨v1, rfl, b, hv1⟩
  replace tot := tot.trans (b.mono tot.size)
  clear b
  go_wp2_with fail
  · go_ret
    exact ⟨rfl, tot⟩
  replace hv1 := hv1 (by omega)
  refine (toWalkS_any (h1.below tot (Nat.le_refl _)) tot.size (by omega)).mono ?_
  rintro e u2 ⟨A_t2, c_t2, rfl, o_t2, b⟩
  have f_t2 : w.heap.size ≤ _ := tot.size
  replace tot := tot.trans (b.mono tot.size)
  clear b
  go_wp2_with fail
  refine (toInt64S_any (h5.below tot (Nat.le_refl _)) tot.size (by omega)).mono ?_
  rintro e u3 ⟨A_t3, c_t3, rfl, o_t3, b⟩
  have p_t2_t3 := apart_of o_t2 o_t3 (Nat.le_refl _)
  have f_t3 : w.heap.size ≤ _ := tot.size
  replace o_t2 := o_t2.below b
  replace tot := tot.trans (b.mono tot.size)
  clear b
  go_wp2_with fail
  refine (specCarsEmpty_any o_t2.reads (Nat.le_refl _) o_t2.cap (by omega) o_t3.reads (Nat.le_refl _) o_t3.cap (by omega)).mono ?_
  rintro e u4 ⟨rfl, b⟩
  replace o_t2 := o_t2.below b
  replace o_t3 := o_t3.below b
  replace tot := tot.trans (b.mono tot.size)
  clear o_t2 f_t2 p_t2_t3
  clear o_t3 f_t3
  clear b
  go_wp2_with fail
  refine (toWalkS_any (h1.below tot (Nat.le_refl _)) tot.size (by omega)).mono ?_
  rintro e u5 ⟨A_t5, c_t5, rfl, o_t5, b⟩
  have f_t5 : w.heap.size ≤ _ := tot.size
  replace tot := tot.trans (b.mono tot.size)
  clear b
  go_wp2_with fail
  refine (toInt64S_any (h5.below tot (Nat.le_refl _)) tot.size (by omega)).mono ?_
  rintro e u6 ⟨A_t6, c_t6, rfl, o_t6, b⟩
  have p_t5_t6 := apart_of o_t5 o_t6 (Nat.le_refl _)
  have f_t6 : w.heap.size ≤ _ := tot.size
  replace o_t5 := o_t5.below b
  replace tot := tot.trans (b.mono tot.size)
  clear b
  go_wp2_with fail
  refine (implCarsEmpty_any o_t5.reads (Nat.le_refl _) o_t5.cap (by omega) o_t6.reads (Nat.le_refl _) o_t6.cap (by omega)).mono ?_
  rintro e u7 ⟨rfl, b⟩
  replace o_t5 := o_t5.below b
  replace o_t6 := o_t6.below b
  replace tot := tot.trans (b.mono tot.size)
  clear b
  go_wp2_with fail
  refine (toWalkS_any (h1.below tot (Nat.le_refl _)) tot.size (by omega)).mono ?_
  rintro e u8 ⟨A_t8, c_t8, rfl, o_t8, b⟩
  have p_t5_t8 := apart_of o_t5 o_t8 (Nat.le_refl _)
  have p_t6_t8 := apart_of o_t6 o_t8 (Nat.le_refl _)
  have f_t8 : w.heap.size ≤ _ := tot.size
  replace o_t5 := o_t5.below b
  replace o_t6 := o_t6.below b
  replace tot := tot.trans (b.mono tot.size)
  clear b
  go_wp2_with fail
  refine (eqWalkS_same o_t5.reads o_t8.reads (Nat.le_refl _) (Nat.le_refl _) o_t5.max).mono ?_
  rintro e u9 ⟨rfl, b⟩
  replace o_t5 := o_t5.below b
  replace o_t6 := o_t6.below b
  replace o_t8 := o_t8.below b
  replace tot := tot.trans (b.mono tot.size)
  clear b
  go_wp2_with fail
  clear o_t8 f_t8 p_t5_t8 p_t6_t8
  refine (toInt64S_any (h5.below tot (Nat.le_refl _)) tot.size (by omega)).mono ?_
  rintro e u10 ⟨A_t10, c_t10, rfl, o_t10, b⟩
  have p_t5_t10 := apart_of o_t5 o_t10 (Nat.le_refl _)
  have p_t6_t10 := apart_of o_t6 o_t10 (Nat.le_refl _)
  have f_t10 : w.heap.size ≤ _ := tot.size
  replace o_t5 := o_t5.below b
  replace o_t6 := o_t6.below b
  replace tot := tot.trans (b.mono tot.size)
  clear b
  go_wp2_with fail
  refine (eqInt64S_same o_t6.reads o_t10.reads (Nat.le_refl _) (Nat.le_refl _) o_t6.max).mono ?_
  rintro e u11 ⟨rfl, b⟩
  replace o_t5 := o_t5.below b
  replace o_t6 := o_t6.below b
  replace o_t10 := o_t10.below b
  replace tot := tot.trans (b.mono tot.size)
  clear b
  go_wp2_with fail
  clear o_t10 f_t10 p_t5_t10 p_t6_t10
  go_ret
  exact ⟨rfl, tot⟩
end Go.Proofs.Ytnoppdklgcpomaa
