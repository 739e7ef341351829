/- The walk of the law 'FnExactIdleHelpers': whatever the input, it returns true, and nothing that was there has turned. -/
import Derived.Test.YtopomobpkmlapaaHb
import Derived.Test.YtopomobpkmlapaaO
import Derived.Test.YtopomobpkmlapaaQHelper
namespace Go.Proofs.Ytopomobpkmlapaa
open Go.RowKit
set_option maxRecDepth 100000
set_option linter.unusedVariables false

set_option maxHeartbeats 2000000 in
theorem FnExactIdleHelpers_walk (A0 : Option Addr) (n0 c0 : Nat) (z0 : List HelperR) (A1 : Option Addr) (n1 c1 : Nat) (z1 : List Int) (w : World) (h0 : Reads w w.heap.size 3 A0 n0 (z0.flatMap HelperR.cells)) (hc0 : n0 ≤ c0) (hm0 : c0 ≤ maxLen) (hz0 : ∀ x ∈ z0, x.wf) (h1 : Ints w w.heap.size A1 n1 z1) (hc1 : n1 ≤ c1) (hm1 : c1 ≤ maxLen) (hz1 : ∀ z ∈ z1, (Lit.int .i64 z).wf = true) :
    Calls Try.prog 9 #[.slice A0 n0 c0, .slice A1 n1 c1] w fun e w' => e = .returned (.bool true) ∧ Below w.heap.size w w' := by
  unfold maxLen at hm0
  unfold maxLen at hm1
  by_cases b1 : 1048576 < n1
  · go_enter Try.func9, Try.ntmps9
    go_wp2_with fail
    go_ret
    exact ⟨rfl, by first | exact Below.refl _ _ | exact (Below.refl _ _).alloc (Nat.le_refl _) _⟩
  have tot : Below w.heap.size w w := Below.refl _ _
  go_enter Try.func9, Try.ntmps9
  go_wp2_with fail
  refine (szHelperS_any (h0.below tot (Nat.le_refl _)) (by omega) (by omega) (by omega) hz0 tot.size).mono ?_
  rintro e u1 ⟨v0, rfl, b, hv0⟩
  replace tot := tot.trans (b.mono tot.size)
  clear b
  go_wp2_with fail
  · go_ret
    exact ⟨rfl, tot⟩
  replace hv0 := hv0 (by omega)
  obtain ⟨hv0, hvl0, hvs0⟩ := hv0
  have hF0 : ∀ x ∈ z0, x.Id.size ≤ 1048576 := fun x hx => by have := hvs0 x hx; omega
  clear hvs0
  refine (toHelperS_any (h0.below tot (Nat.le_refl _)) tot.size (by omega)).mono ?_
  rintro e u2 ⟨A_t2, c_t2, rfl, o_t2, b⟩
  have f_t2 : w.heap.size ≤ _ := tot.size
  replace tot := tot.trans (b.mono tot.size)
  clear b
  go_wp2_with fail
  refine (toInt64S_any (h1.below tot (Nat.le_refl _)) tot.size (by omega)).mono ?_
  rintro e u3 ⟨A_t3, c_t3, rfl, o_t3, b⟩
  have p_t2_t3 := apart_of o_t2 o_t3 (Nat.le_refl _)
  have f_t3 : w.heap.size ≤ _ := tot.size
  replace o_t2 := o_t2.below b
  replace tot := tot.trans (b.mono tot.size)
  clear b
  go_wp2_with fail
  refine (specIdleHelpers_any o_t2.reads (Nat.le_refl _) o_t2.cap (by omega) hF0 o_t3.reads (Nat.le_refl _) o_t3.cap (by omega)).mono ?_
  rintro e u4 ⟨A_w0, n_w0, c_w0, rfl, l_w0, o_w0, b⟩
  have p_t2_w0 := apart_of o_t2 o_w0 (Nat.le_refl _)
  have p_t3_w0 := apart_of o_t3 o_w0 (Nat.le_refl _)
  have f_w0 : w.heap.size ≤ _ := tot.size
  replace o_t2 := o_t2.below b
  replace o_t3 := o_t3.below b
  replace tot := tot.trans (b.mono tot.size)
  clear o_t2 f_t2 p_t2_t3 p_t2_w0
  clear o_t3 f_t3 p_t3_w0
  clear b
  go_wp2_with fail
  refine (toHelperS_any (h0.below tot (Nat.le_refl _)) tot.size (by omega)).mono ?_
  rintro e u5 ⟨A_t5, c_t5, rfl, o_t5, b⟩
  have p_w0_t5 := apart_of o_w0 o_t5 (Nat.le_refl _)
  have f_t5 : w.heap.size ≤ _ := tot.size
  replace o_w0 := o_w0.below b
  replace tot := tot.trans (b.mono tot.size)
  clear b
  go_wp2_with fail
  refine (toInt64S_any (h1.below tot (Nat.le_refl _)) tot.size (by omega)).mono ?_
  rintro e u6 ⟨A_t6, c_t6, rfl, o_t6, b⟩
  have p_w0_t6 := apart_of o_w0 o_t6 (Nat.le_refl _)
  have p_t5_t6 := apart_of o_t5 o_t6 (Nat.le_refl _)
  have f_t6 : w.heap.size ≤ _ := tot.size
  replace o_w0 := o_w0.below b
  replace o_t5 := o_t5.below b
  replace tot := tot.trans (b.mono tot.size)
  clear b
  go_wp2_with fail
  refine (implIdleHelpers_any o_t5.reads (Nat.le_refl _) o_t5.cap (by omega) hF0 o_t6.reads (Nat.le_refl _) o_t6.cap (by omega)).mono ?_
  rintro e u7 ⟨A_g0, n_g0, c_g0, rfl, l_g0, o_g0, b⟩
  have p_w0_g0 := apart_of o_w0 o_g0 (Nat.le_refl _)
  have p_t5_g0 := apart_of o_t5 o_g0 (Nat.le_refl _)
  have p_t6_g0 := apart_of o_t6 o_g0 (Nat.le_refl _)
  have f_g0 : w.heap.size ≤ _ := tot.size
  replace o_w0 := o_w0.below b
  replace o_t5 := o_t5.below b
  replace o_t6 := o_t6.below b
  replace tot := tot.trans (b.mono tot.size)
  clear b
  go_wp2_with fail
  refine (eqInt64S_same o_g0.reads o_w0.reads (Nat.le_refl _) (Nat.le_refl _) o_g0.max).mono ?_
  rintro e u8 ⟨rfl, b⟩
  replace o_w0 := o_w0.below b
  replace o_t5 := o_t5.below b
  replace o_t6 := o_t6.below b
  replace o_g0 := o_g0.below b
  replace tot := tot.trans (b.mono tot.size)
  clear b
  go_wp2_with fail
  refine (toHelperS_any (h0.below tot (Nat.le_refl _)) tot.size (by omega)).mono ?_
  rintro e u9 ⟨A_t9, c_t9, rfl, o_t9, b⟩
  have p_w0_t9 := apart_of o_w0 o_t9 (Nat.le_refl _)
  have p_t5_t9 := apart_of o_t5 o_t9 (Nat.le_refl _)
  have p_t6_t9 := apart_of o_t6 o_t9 (Nat.le_refl _)
  have p_g0_t9 := apart_of o_g0 o_t9 (Nat.le_refl _)
  have f_t9 : w.heap.size ≤ _ := tot.size
  replace o_w0 := o_w0.below b
  replace o_t5 := o_t5.below b
  replace o_t6 := o_t6.below b
  replace o_g0 := o_g0.below b
  replace tot := tot.trans (b.mono tot.size)
  clear b
  go_wp2_with fail
  refine (eqHelperS_same o_t5.reads o_t9.reads (Nat.le_refl _) (Nat.le_refl _) o_t5.max).mono ?_
  rintro e u10 ⟨rfl, b⟩
  replace o_w0 := o_w0.below b
  replace o_t5 := o_t5.below b
  replace o_t6 := o_t6.below b
  replace o_g0 := o_g0.below b
  replace o_t9 := o_t9.below b
  replace tot := tot.trans (b.mono tot.size)
  clear b
  go_wp2_with fail
  clear o_t9 f_t9 p_g0_t9 p_t5_t9 p_t6_t9 p_w0_t9
  refine (toInt64S_any (h1.below tot (Nat.le_refl _)) tot.size (by omega)).mono ?_
  rintro e u11 ⟨A_t11, c_t11, rfl, o_t11, b⟩
  have p_w0_t11 := apart_of o_w0 o_t11 (Nat.le_refl _)
  have p_t5_t11 := apart_of o_t5 o_t11 (Nat.le_refl _)
  have p_t6_t11 := apart_of o_t6 o_t11 (Nat.le_refl _)
  have p_g0_t11 := apart_of o_g0 o_t11 (Nat.le_refl _)
  have f_t11 : w.heap.size ≤ _ := tot.size
  replace o_w0 := o_w0.below b
  replace o_t5 := o_t5.below b
  replace o_t6 := o_t6.below b
  replace o_g0 := o_g0.below b
  replace tot := tot.trans (b.mono tot.size)
  clear b
  go_wp2_with fail
  refine (eqInt64S_same o_t6.reads o_t11.reads (Nat.le_refl _) (Nat.le_refl _) o_t6.max).mono ?_
  rintro e u12 ⟨rfl, b⟩
  replace o_w0 := o_w0.below b
  replace o_t5 := o_t5.below b
  replace o_t6 := o_t6.below b
  replace o_g0 := o_g0.below b
  replace o_t11 := o_t11.below b
  replace tot := tot.trans (b.mono tot.size)
  clear b
  go_wp2_with fail
  clear o_t11 f_t11 p_g0_t11 p_t5_t11 p_t6_t11 p_w0_t11
  refine (markHelperS_any o_t5 (by omega) (by omega) (by omega)).mono ?_
  rintro e u13 ⟨rfl, om_t5, t⟩
  replace o_w0 := o_w0.touch t p_w0_t5.symm
  replace o_t6 := o_t6.touch t p_t5_t6
  replace o_g0 := o_g0.touch t p_t5_g0
  replace tot := tot.trans (t.below (fun a ha => Nat.le_trans f_t5 (o_t5.from a ha)) tot.size)
  replace o_t5 := om_t5
  clear t om_t5
  go_wp2_with fail
  refine (markInt64S_any o_t6 (by omega) (by omega) (by omega)).mono ?_
  rintro e u14 ⟨rfl, om_t6, t⟩
  replace o_w0 := o_w0.touch t p_w0_t6.symm
  replace o_t5 := o_t5.touch t p_t5_t6.symm
  replace o_g0 := o_g0.touch t p_t6_g0
  replace tot := tot.trans (t.below (fun a ha => Nat.le_trans f_t6 (o_t6.from a ha)) tot.size)
  replace o_t6 := om_t6
  clear t om_t6
  go_wp2_with fail
  refine (eqInt64S_same o_g0.reads o_w0.reads (Nat.le_refl _) (Nat.le_refl _) o_g0.max).mono ?_
  rintro e u15 ⟨rfl, b⟩
  replace o_w0 := o_w0.below b
  replace o_t5 := o_t5.below b
  replace o_t6 := o_t6.below b
  replace o_g0 := o_g0.below b
  replace tot := tot.trans (b.mono tot.size)
  clear b
  go_wp2_with fail
  refine (markInt64S_any o_g0 (by omega) (by omega) (by omega)).mono ?_
  rintro e u16 ⟨rfl, om_g0, t⟩
  replace o_w0 := o_w0.touch t p_w0_g0.symm
  replace o_t5 := o_t5.touch t p_t5_g0.symm
  replace o_t6 := o_t6.touch t p_t6_g0.symm
  replace tot := tot.trans (t.below (fun a ha => Nat.le_trans f_g0 (o_g0.from a ha)) tot.size)
  replace o_g0 := om_g0
  clear t om_g0
  go_wp2_with fail
  refine (heldInt64S_any o_g0.reads (Nat.le_refl _) (by omega) (by omega) (by omega)).mono ?_
  rintro e u17 ⟨rfl, b⟩
  replace o_w0 := o_w0.below b
  replace o_t5 := o_t5.below b
  replace o_t6 := o_t6.below b
  replace o_g0 := o_g0.below b
  replace tot := tot.trans (b.mono tot.size)
  clear b
  go_wp2_with fail
  refine (toHelperS_any (h0.below tot (Nat.le_refl _)) tot.size (by omega)).mono ?_
  rintro e u18 ⟨A_t18, c_t18, rfl, o_t18, b⟩
  have p_w0_t18 := apart_of o_w0 o_t18 (Nat.le_refl _)
  have p_t5_t18 := apart_of o_t5 o_t18 (Nat.le_refl _)
  have p_t6_t18 := apart_of o_t6 o_t18 (Nat.le_refl _)
  have p_g0_t18 := apart_of o_g0 o_t18 (Nat.le_refl _)
  have f_t18 : w.heap.size ≤ _ := tot.size
  replace o_w0 := o_w0.below b
  replace o_t5 := o_t5.below b
  replace o_t6 := o_t6.below b
  replace o_g0 := o_g0.below b
  replace tot := tot.trans (b.mono tot.size)
  clear b
  go_wp2_with fail
  refine (toInt64S_any (h1.below tot (Nat.le_refl _)) tot.size (by omega)).mono ?_
  rintro e u19 ⟨A_t19, c_t19, rfl, o_t19, b⟩
  have p_w0_t19 := apart_of o_w0 o_t19 (Nat.le_refl _)
  have p_t5_t19 := apart_of o_t5 o_t19 (Nat.le_refl _)
  have p_t6_t19 := apart_of o_t6 o_t19 (Nat.le_refl _)
  have p_g0_t19 := apart_of o_g0 o_t19 (Nat.le_refl _)
  have p_t18_t19 := apart_of o_t18 o_t19 (Nat.le_refl _)
  have f_t19 : w.heap.size ≤ _ := tot.size
  replace o_w0 := o_w0.below b
  replace o_t5 := o_t5.below b
  replace o_t6 := o_t6.below b
  replace o_g0 := o_g0.below b
  replace o_t18 := o_t18.below b
  replace tot := tot.trans (b.mono tot.size)
  clear b
  go_wp2_with fail
  refine (implIdleHelpers_any o_t18.reads (Nat.le_refl _) o_t18.cap (by omega) hF0 o_t19.reads (Nat.le_refl _) o_t19.cap (by omega)).mono ?_
  rintro e u20 ⟨A_h0, n_h0, c_h0, rfl, l_h0, o_h0, b⟩
  have p_w0_h0 := apart_of o_w0 o_h0 (Nat.le_refl _)
  have p_t5_h0 := apart_of o_t5 o_h0 (Nat.le_refl _)
  have p_t6_h0 := apart_of o_t6 o_h0 (Nat.le_refl _)
  have p_g0_h0 := apart_of o_g0 o_h0 (Nat.le_refl _)
  have p_t18_h0 := apart_of o_t18 o_h0 (Nat.le_refl _)
  have p_t19_h0 := apart_of o_t19 o_h0 (Nat.le_refl _)
  have f_h0 : w.heap.size ≤ _ := tot.size
  replace o_w0 := o_w0.below b
  replace o_t5 := o_t5.below b
  replace o_t6 := o_t6.below b
  replace o_g0 := o_g0.below b
  replace o_t18 := o_t18.below b
  replace o_t19 := o_t19.below b
  replace tot := tot.trans (b.mono tot.size)
  clear o_t18 f_t18 p_g0_t18 p_t18_h0 p_t18_t19 p_t5_t18 p_t6_t18 p_w0_t18
  clear o_t19 f_t19 p_g0_t19 p_t19_h0 p_t5_t19 p_t6_t19 p_w0_t19
  clear b
  go_wp2_with fail
  refine (eqInt64S_same o_h0.reads o_w0.reads (Nat.le_refl _) (Nat.le_refl _) o_h0.max).mono ?_
  rintro e u21 ⟨rfl, b⟩
  replace o_w0 := o_w0.below b
  replace o_t5 := o_t5.below b
  replace o_t6 := o_t6.below b
  replace o_g0 := o_g0.below b
  replace o_h0 := o_h0.below b
  replace tot := tot.trans (b.mono tot.size)
  clear b
  go_wp2_with fail
  clear o_h0 f_h0 p_g0_h0 p_t5_h0 p_t6_h0 p_w0_h0
  refine (heldInt64S_any o_g0.reads (Nat.le_refl _) (by omega) (by omega) (by omega)).mono ?_
  rintro e u22 ⟨rfl, b⟩
  replace o_w0 := o_w0.below b
  replace o_t5 := o_t5.below b
  replace o_t6 := o_t6.below b
  replace o_g0 := o_g0.below b
  replace tot := tot.trans (b.mono tot.size)
  clear b
  go_wp2_with fail
  go_ret
  exact ⟨rfl, tot⟩
end Go.Proofs.Ytopomobpkmlapaa
