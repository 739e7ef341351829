/- The walk of the law 'FnExactNewBroken': whatever the input, it returns true, and nothing that was there has turned. -/
import Derived.Test.YtdjoechokkbjeaaRN
import Derived.Test.YtdjoechokkbjeaaO
namespace Go.Proofs.Ytdjoechokkbjeaa
open Go.RowKit
set_option maxRecDepth 100000
set_option linter.unusedVariables false

set_option maxHeartbeats 2000000 in
theorem FnExactNewBroken_walk (A0 : Option Addr) (n0 c0 : Nat) (z0 : List Int) (A1 : Option Addr) (n1 c1 : Nat) (z1 : List Int) (w : World) (h0 : Ints w w.heap.size A0 n0 z0) (hc0 : n0 ≤ c0) (hm0 : c0 ≤ maxLen) (hz0 : ∀ z ∈ z0, (Lit.int .i64 z).wf = true) (h1 : Ints w w.heap.size A1 n1 z1) (hc1 : n1 ≤ c1) (hm1 : c1 ≤ maxLen) (hz1 : ∀ z ∈ z1, (Lit.int .i64 z).wf = true) :
    Calls Try.prog 5 #[.slice A0 n0 c0, .slice A1 n1 c1] w fun e w' => e = .returned (.bool true) ∧ Below w.heap.size w w' := by
  unfold maxLen at hm0
  unfold maxLen at hm1
  by_cases b0 : 1048576 < n0
  · go_enter Try.func5, Try.ntmps5
    go_wp2_with fail
    go_ret
    exact ⟨rfl, by first | exact Below.refl _ _ | exact (Below.refl _ _).alloc (Nat.le_refl _) _⟩
  by_cases b1 : 1048576 < n1
  · go_enter Try.func5, Try.ntmps5
    go_wp2_with fail
    go_ret
    exact ⟨rfl, by first | exact Below.refl _ _ | exact (Below.refl _ _).alloc (Nat.le_refl _) _⟩
  have tot : Below w.heap.size w w := Below.refl _ _
  go_enter Try.func5, Try.ntmps5
  go_wp2_with fail
  refine (toInt64S_any (h0.below tot (Nat.le_refl _)) tot.size (by omega)).mono ?_
  rintro e u1 ⟨A_t1, c_t1, rfl, o_t1, b⟩
  have f_t1 : w.heap.size ≤ _ := tot.size
  replace tot := tot.trans (b.mono tot.size)
  clear b
  go_wp2_with fail
  refine (toInt64S_any (h1.below tot (Nat.le_refl _)) tot.size (by omega)).mono ?_
  rintro e u2 ⟨A_t2, c_t2, rfl, o_t2, b⟩
  have p_t1_t2 := apart_of o_t1 o_t2 (Nat.le_refl _)
  have f_t2 : w.heap.size ≤ _ := tot.size
  replace o_t1 := o_t1.below b
  replace tot := tot.trans (b.mono tot.size)
  clear b
  go_wp2_with fail
  refine (specNewBroken_any o_t1.reads (Nat.le_refl _) o_t1.cap (by omega) o_t2.reads (Nat.le_refl _) o_t2.cap (by omega)).mono ?_
  rintro e u3 ⟨A_w0, n_w0, c_w0, rfl, l_w0, o_w0, b⟩
  have p_t1_w0 := apart_of o_t1 o_w0 (Nat.le_refl _)
  have p_t2_w0 := apart_of o_t2 o_w0 (Nat.le_refl _)
  have f_w0 : w.heap.size ≤ _ := tot.size
  replace o_t1 := o_t1.below b
  replace o_t2 := o_t2.below b
  replace tot := tot.trans (b.mono tot.size)
  clear o_t1 f_t1 p_t1_t2 p_t1_w0
  clear o_t2 f_t2 p_t2_w0
  clear b
  go_wp2_with fail
  refine (toInt64S_any (h0.below tot (Nat.le_refl _)) tot.size (by omega)).mono ?_
  rintro e u4 ⟨A_t4, c_t4, rfl, o_t4, b⟩
  have p_w0_t4 := apart_of o_w0 o_t4 (Nat.le_refl _)
  have f_t4 : w.heap.size ≤ _ := tot.size
  replace o_w0 := o_w0.below b
  replace tot := tot.trans (b.mono tot.size)
  clear b
  go_wp2_with fail
  refine (toInt64S_any (h1.below tot (Nat.le_refl _)) tot.size (by omega)).mono ?_
  rintro e u5 ⟨A_t5, c_t5, rfl, o_t5, b⟩
  have p_w0_t5 := apart_of o_w0 o_t5 (Nat.le_refl _)
  have p_t4_t5 := apart_of o_t4 o_t5 (Nat.le_refl _)
  have f_t5 : w.heap.size ≤ _ := tot.size
  replace o_w0 := o_w0.below b
  replace o_t4 := o_t4.below b
  replace tot := tot.trans (b.mono tot.size)
  clear b
  go_wp2_with fail
  refine (implNewBroken_any o_t4.reads (Nat.le_refl _) o_t4.cap (by omega) o_t5.reads (Nat.le_refl _) o_t5.cap (by omega)).mono ?_
  rintro e u6 ⟨A_g0, n_g0, c_g0, rfl, l_g0, o_g0, b⟩
  have p_w0_g0 := apart_of o_w0 o_g0 (Nat.le_refl _)
  have p_t4_g0 := apart_of o_t4 o_g0 (Nat.le_refl _)
  have p_t5_g0 := apart_of o_t5 o_g0 (Nat.le_refl _)
  have f_g0 : w.heap.size ≤ _ := tot.size
  replace o_w0 := o_w0.below b
  replace o_t4 := o_t4.below b
  replace o_t5 := o_t5.below b
  replace tot := tot.trans (b.mono tot.size)
  clear b
  go_wp2_with fail
  refine (eqInt64S_same o_g0.reads o_w0.reads (Nat.le_refl _) (Nat.le_refl _) o_g0.max).mono ?_
  rintro e u7 ⟨rfl, b⟩
  replace o_w0 := o_w0.below b
  replace o_t4 := o_t4.below b
  replace o_t5 := o_t5.below b
  replace o_g0 := o_g0.below b
  replace tot := tot.trans (b.mono tot.size)
  clear b
  go_wp2_with fail
  refine (toInt64S_any (h0.below tot (Nat.le_refl _)) tot.size (by omega)).mono ?_
  rintro e u8 ⟨A_t8, c_t8, rfl, o_t8, b⟩
  have p_w0_t8 := apart_of o_w0 o_t8 (Nat.le_refl _)
  have p_t4_t8 := apart_of o_t4 o_t8 (Nat.le_refl _)
  have p_t5_t8 := apart_of o_t5 o_t8 (Nat.le_refl _)
  have p_g0_t8 := apart_of o_g0 o_t8 (Nat.le_refl _)
  have f_t8 : w.heap.size ≤ _ := tot.size
  replace o_w0 := o_w0.below b
  replace o_t4 := o_t4.below b
  replace o_t5 := o_t5.below b
  replace o_g0 := o_g0.below b
  replace tot := tot.trans (b.mono tot.size)
  clear b
  go_wp2_with fail
  refine (eqInt64S_same o_t4.reads o_t8.reads (Nat.le_refl _) (Nat.le_refl _) o_t4.max).mono ?_
  rintro e u9 ⟨rfl, b⟩
  replace o_w0 := o_w0.below b
  replace o_t4 := o_t4.below b
  replace o_t5 := o_t5.below b
  replace o_g0 := o_g0.below b
  replace o_t8 := o_t8.below b
  replace tot := tot.trans (b.mono tot.size)
  clear b
  go_wp2_with fail
  clear o_t8 f_t8 p_g0_t8 p_t4_t8 p_t5_t8 p_w0_t8
  refine (toInt64S_any (h1.below tot (Nat.le_refl _)) tot.size (by omega)).mono ?_
  rintro e u10 ⟨A_t10, c_t10, rfl, o_t10, b⟩
  have p_w0_t10 := apart_of o_w0 o_t10 (Nat.le_refl _)
  have p_t4_t10 := apart_of o_t4 o_t10 (Nat.le_refl _)
  have p_t5_t10 := apart_of o_t5 o_t10 (Nat.le_refl _)
  have p_g0_t10 := apart_of o_g0 o_t10 (Nat.le_refl _)
  have f_t10 : w.heap.size ≤ _ := tot.size
  replace o_w0 := o_w0.below b
  replace o_t4 := o_t4.below b
  replace o_t5 := o_t5.below b
  replace o_g0 := o_g0.below b
  replace tot := tot.trans (b.mono tot.size)
  clear b
  go_wp2_with fail
  refine (eqInt64S_same o_t5.reads o_t10.reads (Nat.le_refl _) (Nat.le_refl _) o_t5.max).mono ?_
  rintro e u11 ⟨rfl, b⟩
  replace o_w0 := o_w0.below b
  replace o_t4 := o_t4.below b
  replace o_t5 := o_t5.below b
  replace o_g0 := o_g0.below b
  replace o_t10 := o_t10.below b
  replace tot := tot.trans (b.mono tot.size)
  clear b
  go_wp2_with fail
  clear o_t10 f_t10 p_g0_t10 p_t4_t10 p_t5_t10 p_w0_t10
  refine (markInt64S_any o_t4 (by omega) (by omega) (by omega)).mono ?_
  rintro e u12 ⟨rfl, om_t4, t⟩
  replace o_w0 := o_w0.touch t p_w0_t4.symm
  replace o_t5 := o_t5.touch t p_t4_t5
  replace o_g0 := o_g0.touch t p_t4_g0
  replace tot := tot.trans (t.below (fun a ha => Nat.le_trans f_t4 (o_t4.from a ha)) tot.size)
  replace o_t4 := om_t4
  clear t om_t4
  go_wp2_with fail
  refine (markInt64S_any o_t5 (by omega) (by omega) (by omega)).mono ?_
  rintro e u13 ⟨rfl, om_t5, t⟩
  replace o_w0 := o_w0.touch t p_w0_t5.symm
  replace o_t4 := o_t4.touch t p_t4_t5.symm
  replace o_g0 := o_g0.touch t p_t5_g0
  replace tot := tot.trans (t.below (fun a ha => Nat.le_trans f_t5 (o_t5.from a ha)) tot.size)
  replace o_t5 := om_t5
  clear t om_t5
  go_wp2_with fail
  refine (eqInt64S_same o_g0.reads o_w0.reads (Nat.le_refl _) (Nat.le_refl _) o_g0.max).mono ?_
  rintro e u14 ⟨rfl, b⟩
  replace o_w0 := o_w0.below b
  replace o_t4 := o_t4.below b
  replace o_t5 := o_t5.below b
  replace o_g0 := o_g0.below b
  replace tot := tot.trans (b.mono tot.size)
  clear b
  go_wp2_with fail
  refine (markInt64S_any o_g0 (by omega) (by omega) (by omega)).mono ?_
  rintro e u15 ⟨rfl, om_g0, t⟩
  replace o_w0 := o_w0.touch t p_w0_g0.symm
  replace o_t4 := o_t4.touch t p_t4_g0.symm
  replace o_t5 := o_t5.touch t p_t5_g0.symm
  replace tot := tot.trans (t.below (fun a ha => Nat.le_trans f_g0 (o_g0.from a ha)) tot.size)
  replace o_g0 := om_g0
  clear t om_g0
  go_wp2_with fail
  refine (heldInt64S_any o_g0.reads (Nat.le_refl _) (by omega) (by omega) (by omega)).mono ?_
  rintro e u16 ⟨rfl, b⟩
  replace o_w0 := o_w0.below b
  replace o_t4 := o_t4.below b
  replace o_t5 := o_t5.below b
  replace o_g0 := o_g0.below b
  replace tot := tot.trans (b.mono tot.size)
  clear b
  go_wp2_with fail
  refine (toInt64S_any (h0.below tot (Nat.le_refl _)) tot.size (by omega)).mono ?_
  rintro e u17 ⟨A_t17, c_t17, rfl, o_t17, b⟩
  have p_w0_t17 := apart_of o_w0 o_t17 (Nat.le_refl _)
  have p_t4_t17 := apart_of o_t4 o_t17 (Nat.le_refl _)
  have p_t5_t17 := apart_of o_t5 o_t17 (Nat.le_refl _)
  have p_g0_t17 := apart_of o_g0 o_t17 (Nat.le_refl _)
  have f_t17 : w.heap.size ≤ _ := tot.size
  replace o_w0 := o_w0.below b
  replace o_t4 := o_t4.below b
  replace o_t5 := o_t5.below b
  replace o_g0 := o_g0.below b
  replace tot := tot.trans (b.mono tot.size)
  clear b
  go_wp2_with fail
  refine (toInt64S_any (h1.below tot (Nat.le_refl _)) tot.size (by omega)).mono ?_
  rintro e u18 ⟨A_t18, c_t18, rfl, o_t18, b⟩
  have p_w0_t18 := apart_of o_w0 o_t18 (Nat.le_refl _)
  have p_t4_t18 := apart_of o_t4 o_t18 (Nat.le_refl _)
  have p_t5_t18 := apart_of o_t5 o_t18 (Nat.le_refl _)
  have p_g0_t18 := apart_of o_g0 o_t18 (Nat.le_refl _)
  have p_t17_t18 := apart_of o_t17 o_t18 (Nat.le_refl _)
  have f_t18 : w.heap.size ≤ _ := tot.size
  replace o_w0 := o_w0.below b
  replace o_t4 := o_t4.below b
  replace o_t5 := o_t5.below b
  replace o_g0 := o_g0.below b
  replace o_t17 := o_t17.below b
  replace tot := tot.trans (b.mono tot.size)
  clear b
  go_wp2_with fail
  refine (implNewBroken_any o_t17.reads (Nat.le_refl _) o_t17.cap (by omega) o_t18.reads (Nat.le_refl _) o_t18.cap (by omega)).mono ?_
  rintro e u19 ⟨A_h0, n_h0, c_h0, rfl, l_h0, o_h0, b⟩
  have p_w0_h0 := apart_of o_w0 o_h0 (Nat.le_refl _)
  have p_t4_h0 := apart_of o_t4 o_h0 (Nat.le_refl _)
  have p_t5_h0 := apart_of o_t5 o_h0 (Nat.le_refl _)
  have p_g0_h0 := apart_of o_g0 o_h0 (Nat.le_refl _)
  have p_t17_h0 := apart_of o_t17 o_h0 (Nat.le_refl _)
  have p_t18_h0 := apart_of o_t18 o_h0 (Nat.le_refl _)
  have f_h0 : w.heap.size ≤ _ := tot.size
  replace o_w0 := o_w0.below b
  replace o_t4 := o_t4.below b
  replace o_t5 := o_t5.below b
  replace o_g0 := o_g0.below b
  replace o_t17 := o_t17.below b
  replace o_t18 := o_t18.below b
  replace tot := tot.trans (b.mono tot.size)
  clear o_t17 f_t17 p_g0_t17 p_t17_h0 p_t17_t18 p_t4_t17 p_t5_t17 p_w0_t17
  clear o_t18 f_t18 p_g0_t18 p_t18_h0 p_t4_t18 p_t5_t18 p_w0_t18
  clear b
  go_wp2_with fail
  refine (eqInt64S_same o_h0.reads o_w0.reads (Nat.le_refl _) (Nat.le_refl _) o_h0.max).mono ?_
  rintro e u20 ⟨rfl, b⟩
  replace o_w0 := o_w0.below b
  replace o_t4 := o_t4.below b
  replace o_t5 := o_t5.below b
  replace o_g0 := o_g0.below b
  replace o_h0 := o_h0.below b
  replace tot := tot.trans (b.mono tot.size)
  clear b
  go_wp2_with fail
  clear o_h0 f_h0 p_g0_h0 p_t4_h0 p_t5_h0 p_w0_h0
  refine (heldInt64S_any o_g0.reads (Nat.le_refl _) (by omega) (by omega) (by omega)).mono ?_
  rintro e u21 ⟨rfl, b⟩
  replace o_w0 := o_w0.below b
  replace o_t4 := o_t4.below b
  replace o_t5 := o_t5.below b
  replace o_g0 := o_g0.below b
  replace tot := tot.trans (b.mono tot.size)
  clear b
  go_wp2_with fail
  go_ret
  exact ⟨rfl, tot⟩
end Go.Proofs.Ytdjoechokkbjeaa
