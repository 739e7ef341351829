/- The walk of the law 'FnExactBalanceGroups': whatever the input, it returns true, and nothing that was there has turned. -/
import Derived.Test.YtmnpehajojdhcaaPf
import Derived.Test.YtmnpehajojdhcaaO
namespace Go.Proofs.Ytmnpehajojdhcaa
open Go.RowKit
set_option maxRecDepth 100000
set_option linter.unusedVariables false

set_option maxHeartbeats 2000000 in
theorem FnExactBalanceGroups_walk (A0 : Option Addr) (n0 c0 : Nat) (z0 : List Int) (a1 : Int) (a2 : Int) (w : World) (h0 : Ints w w.heap.size A0 n0 z0) (hc0 : n0 ≤ c0) (hm0 : c0 ≤ maxLen) (hz0 : ∀ z ∈ z0, (Lit.int .i64 z).wf = true) (w1 : (Lit.int .i64 a1).wf = true) (w2 : (Lit.int .i64 a2).wf = true) :
    Calls Try.prog 3 #[.slice A0 n0 c0, .int .i64 a1, .int .i64 a2] w fun e w' => e = .returned (.bool true) ∧ Below w.heap.size w w' := by
  unfold maxLen at hm0
  clear w1
  clear w2
  by_cases b0 : 1048576 < n0
  · go_enter Try.func3, Try.ntmps3
    go_wp2_with fail
    go_ret
    exact ⟨rfl, by first | exact Below.refl _ _ | exact (Below.refl _ _).alloc (Nat.le_refl _) _⟩
  have tot : Below w.heap.size w w := Below.refl _ _
  go_enter Try.func3, Try.ntmps3
  go_wp2_with fail
  refine (toInt64S_any (h0.below tot (Nat.le_refl _)) tot.size (by omega)).mono ?_
  rintro e u1 ⟨A_t1, c_t1, rfl, o_t1, b⟩
  have f_t1 : w.heap.size ≤ _ := tot.size
  replace tot := tot.trans (b.mono tot.size)
  clear b
  go_wp2_with fail
  refine (specBalanceGroups_any o_t1.reads (Nat.le_refl _) o_t1.cap (by omega)).mono ?_
  rintro e u2 ⟨A_w0, n_w0, c_w0, rfl, l_w0, o_w0, b⟩
  have p_t1_w0 := apart_of o_t1 o_w0 (Nat.le_refl _)
  have f_w0 : w.heap.size ≤ _ := tot.size
  replace o_t1 := o_t1.below b
  replace tot := tot.trans (b.mono tot.size)
  clear o_t1 f_t1 p_t1_w0
  clear b
  go_wp2_with fail
  refine (toInt64S_any (h0.below tot (Nat.le_refl _)) tot.size (by omega)).mono ?_
  rintro e u3 ⟨A_t3, c_t3, rfl, o_t3, b⟩
  have p_w0_t3 := apart_of o_w0 o_t3 (Nat.le_refl _)
  have f_t3 : w.heap.size ≤ _ := tot.size
  replace o_w0 := o_w0.below b
  replace tot := tot.trans (b.mono tot.size)
  clear b
  go_wp2_with fail
  refine (implBalanceGroups_any o_t3.reads (Nat.le_refl _) o_t3.cap (by omega)).mono ?_
  rintro e u4 ⟨A_g0, n_g0, c_g0, rfl, l_g0, o_g0, b⟩
  have p_w0_g0 := apart_of o_w0 o_g0 (Nat.le_refl _)
  have p_t3_g0 := apart_of o_t3 o_g0 (Nat.le_refl _)
  have f_g0 : w.heap.size ≤ _ := tot.size
  replace o_w0 := o_w0.below b
  replace o_t3 := o_t3.below b
  replace tot := tot.trans (b.mono tot.size)
  clear b
  go_wp2_with fail
  refine (eqInt64S_same o_g0.reads o_w0.reads (Nat.le_refl _) (Nat.le_refl _) o_g0.max).mono ?_
  rintro e u5 ⟨rfl, b⟩
  replace o_w0 := o_w0.below b
  replace o_t3 := o_t3.below b
  replace o_g0 := o_g0.below b
  replace tot := tot.trans (b.mono tot.size)
  clear b
  go_wp2_with fail
  refine (toInt64S_any (h0.below tot (Nat.le_refl _)) tot.size (by omega)).mono ?_
  rintro e u6 ⟨A_t6, c_t6, rfl, o_t6, b⟩
  have p_w0_t6 := apart_of o_w0 o_t6 (Nat.le_refl _)
  have p_t3_t6 := apart_of o_t3 o_t6 (Nat.le_refl _)
  have p_g0_t6 := apart_of o_g0 o_t6 (Nat.le_refl _)
  have f_t6 : w.heap.size ≤ _ := tot.size
  replace o_w0 := o_w0.below b
  replace o_t3 := o_t3.below b
  replace o_g0 := o_g0.below b
  replace tot := tot.trans (b.mono tot.size)
  clear b
  go_wp2_with fail
  refine (eqInt64S_same o_t3.reads o_t6.reads (Nat.le_refl _) (Nat.le_refl _) o_t3.max).mono ?_
  rintro e u7 ⟨rfl, b⟩
  replace o_w0 := o_w0.below b
  replace o_t3 := o_t3.below b
  replace o_g0 := o_g0.below b
  replace o_t6 := o_t6.below b
  replace tot := tot.trans (b.mono tot.size)
  clear b
  go_wp2_with fail
  clear o_t6 f_t6 p_g0_t6 p_t3_t6 p_w0_t6
  refine (markInt64S_any o_t3 (by omega) (by omega) (by omega)).mono ?_
  rintro e u8 ⟨rfl, om_t3, t⟩
  replace o_w0 := o_w0.touch t p_w0_t3.symm
  replace o_g0 := o_g0.touch t p_t3_g0
  replace tot := tot.trans (t.below (fun a ha => Nat.le_trans f_t3 (o_t3.from a ha)) tot.size)
  replace o_t3 := om_t3
  clear t om_t3
  go_wp2_with fail
  refine (eqInt64S_same o_g0.reads o_w0.reads (Nat.le_refl _) (Nat.le_refl _) o_g0.max).mono ?_
  rintro e u9 ⟨rfl, b⟩
  replace o_w0 := o_w0.below b
  replace o_t3 := o_t3.below b
  replace o_g0 := o_g0.below b
  replace tot := tot.trans (b.mono tot.size)
  clear b
  go_wp2_with fail
  refine (markInt64S_any o_g0 (by omega) (by omega) (by omega)).mono ?_
  rintro e u10 ⟨rfl, om_g0, t⟩
  replace o_w0 := o_w0.touch t p_w0_g0.symm
  replace o_t3 := o_t3.touch t p_t3_g0.symm
  replace tot := tot.trans (t.below (fun a ha => Nat.le_trans f_g0 (o_g0.from a ha)) tot.size)
  replace o_g0 := om_g0
  clear t om_g0
  go_wp2_with fail
  refine (heldInt64S_any o_g0.reads (Nat.le_refl _) (by omega) (by omega) (by omega)).mono ?_
  rintro e u11 ⟨rfl, b⟩
  replace o_w0 := o_w0.below b
  replace o_t3 := o_t3.below b
  replace o_g0 := o_g0.below b
  replace tot := tot.trans (b.mono tot.size)
  clear b
  go_wp2_with fail
  refine (toInt64S_any (h0.below tot (Nat.le_refl _)) tot.size (by omega)).mono ?_
  rintro e u12 ⟨A_t12, c_t12, rfl, o_t12, b⟩
  have p_w0_t12 := apart_of o_w0 o_t12 (Nat.le_refl _)
  have p_t3_t12 := apart_of o_t3 o_t12 (Nat.le_refl _)
  have p_g0_t12 := apart_of o_g0 o_t12 (Nat.le_refl _)
  have f_t12 : w.heap.size ≤ _ := tot.size
  replace o_w0 := o_w0.below b
  replace o_t3 := o_t3.below b
  replace o_g0 := o_g0.below b
  replace tot := tot.trans (b.mono tot.size)
  clear b
  go_wp2_with fail
  refine (implBalanceGroups_any o_t12.reads (Nat.le_refl _) o_t12.cap (by omega)).mono ?_
  rintro e u13 ⟨A_h0, n_h0, c_h0, rfl, l_h0, o_h0, b⟩
  have p_w0_h0 := apart_of o_w0 o_h0 (Nat.le_refl _)
  have p_t3_h0 := apart_of o_t3 o_h0 (Nat.le_refl _)
  have p_g0_h0 := apart_of o_g0 o_h0 (Nat.le_refl _)
  have p_t12_h0 := apart_of o_t12 o_h0 (Nat.le_refl _)
  have f_h0 : w.heap.size ≤ _ := tot.size
  replace o_w0 := o_w0.below b
  replace o_t3 := o_t3.below b
  replace o_g0 := o_g0.below b
  replace o_t12 := o_t12.below b
  replace tot := tot.trans (b.mono tot.size)
  clear o_t12 f_t12 p_g0_t12 p_t12_h0 p_t3_t12 p_w0_t12
  clear b
  go_wp2_with fail
  refine (eqInt64S_same o_h0.reads o_w0.reads (Nat.le_refl _) (Nat.le_refl _) o_h0.max).mono ?_
  rintro e u14 ⟨rfl, b⟩
  replace o_w0 := o_w0.below b
  replace o_t3 := o_t3.below b
  replace o_g0 := o_g0.below b
  replace o_h0 := o_h0.below b
  replace tot := tot.trans (b.mono tot.size)
  clear b
  go_wp2_with fail
  clear o_h0 f_h0 p_g0_h0 p_t3_h0 p_w0_h0
  refine (heldInt64S_any o_g0.reads (Nat.le_refl _) (by omega) (by omega) (by omega)).mono ?_
  rintro e u15 ⟨rfl, b⟩
  replace o_w0 := o_w0.below b
  replace o_t3 := o_t3.below b
  replace o_g0 := o_g0.below b
  replace tot := tot.trans (b.mono tot.size)
  clear b
  go_wp2_with fail
  go_ret
  exact ⟨rfl, tot⟩
end Go.Proofs.Ytmnpehajojdhcaa
