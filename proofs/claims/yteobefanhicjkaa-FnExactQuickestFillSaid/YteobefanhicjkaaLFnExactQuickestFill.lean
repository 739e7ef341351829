/- The walk of the law 'FnExactQuickestFill': whatever the input, it returns true, and nothing that was there has turned. -/
import Derived.Test.YteobefanhicjkaaMk
import Derived.Test.YteobefanhicjkaaO
import Derived.Test.YteobefanhicjkaaQHelper
import Derived.Test.YteobefanhicjkaaQTask
namespace Go.Proofs.Yteobefanhicjkaa
open Go.RowKit
set_option maxRecDepth 100000
set_option linter.unusedVariables false

set_option maxHeartbeats 2000000 in
theorem FnExactQuickestFill_walk (A0 : Option Addr) (n0 c0 : Nat) (z0 : List HelperR) (A1 : Option Addr) (n1 c1 : Nat) (z1 : List TaskR) (a2 : Int) (w : World) (h0 : Reads w w.heap.size 3 A0 n0 (z0.flatMap HelperR.cells)) (hc0 : n0 ≤ c0) (hm0 : c0 ≤ maxLen) (hz0 : ∀ x ∈ z0, x.wf) (h1 : Reads w w.heap.size 3 A1 n1 (z1.flatMap TaskR.cells)) (hc1 : n1 ≤ c1) (hm1 : c1 ≤ maxLen) (hz1 : ∀ x ∈ z1, x.wf) (w2 : (Lit.int .i64 a2).wf = true) :
    Calls Try.prog 9 #[.slice A0 n0 c0, .slice A1 n1 c1, .int .i64 a2] w fun e w' => e = .returned (.bool true) ∧ Below w.heap.size w w' := by
  unfold maxLen at hm0
  unfold maxLen at hm1
  clear w2
  have tot : Below w.heap.size w w := Below.refl _ _
  go_enter Try.func9, Try.ntmps9
  go_wp2_with fail
  refine (szHelperS_any (h0.below tot (Nat.le_refl _)) (by omega) (by omega) (by omega) hz0 tot.size).mono ?_
  rintro e u1 ⟨v0, rfl, b, hv0⟩
  replace tot := tot.trans (b.mono tot.size)
  clear b
  go_wp2_with fail
  · go_ret
    exact ⟨rfl, tot⟩
  replace hv0 := hv0 (by omega)
  obtain ⟨hv0, hvl0, hvs0⟩ := hv0
  have hF0 : ∀ x ∈ z0, x.Id.size ≤ 1048576 := fun x hx => by have := hvs0 x hx; omega
  clear hvs0
  refine (szTaskS_any (h1.below tot (Nat.le_refl _)) (by omega) (by omega) (by omega) hz1 tot.size).mono ?_
  rintro e u2 ⟨v1, rfl, b, hv1⟩
  replace tot := tot.trans (b.mono tot.size)
  clear b
  go_wp2_with fail
  · go_ret
    exact ⟨rfl, tot⟩
  replace hv1 := hv1 (by omega)
  obtain ⟨hv1, hvl1, hvs1⟩ := hv1
  have hF1 : ∀ x ∈ z1, x.Id.size ≤ 1048576 := fun x hx => by have := hvs1 x hx; omega
  clear hvs1
  refine (toHelperS_any (h0.below tot (Nat.le_refl _)) tot.size (by omega)).mono ?_
  rintro e u3 ⟨A_t3, c_t3, rfl, o_t3, b⟩
  have f_t3 : w.heap.size ≤ _ := tot.size
  replace tot := tot.trans (b.mono tot.size)
  clear b
  go_wp2_with fail
  refine (toTaskS_any (h1.below tot (Nat.le_refl _)) tot.size (by omega)).mono ?_
  rintro e u4 ⟨A_t4, c_t4, rfl, o_t4, b⟩
  have p_t3_t4 := apart_of o_t3 o_t4 (Nat.le_refl _)
  have f_t4 : w.heap.size ≤ _ := tot.size
  replace o_t3 := o_t3.below b
  replace tot := tot.trans (b.mono tot.size)
  clear b
  go_wp2_with fail
  refine (specQuickestFill_any o_t3.reads (Nat.le_refl _) o_t3.cap (by omega) hF0 o_t4.reads (Nat.le_refl _) o_t4.cap (by omega) hF1).mono ?_
  rintro e u5 ⟨A_w0, n_w0, c_w0, rfl, l_w0, o_w0, b⟩
  have p_t3_w0 := apart_of o_t3 o_w0 (Nat.le_refl _)
  have p_t4_w0 := apart_of o_t4 o_w0 (Nat.le_refl _)
  have f_w0 : w.heap.size ≤ _ := tot.size
  replace o_t3 := o_t3.below b
  replace o_t4 := o_t4.below b
  replace tot := tot.trans (b.mono tot.size)
  clear o_t3 f_t3 p_t3_t4 p_t3_w0
  clear o_t4 f_t4 p_t4_w0
  clear b
  go_wp2_with fail
  refine (toHelperS_any (h0.below tot (Nat.le_refl _)) tot.size (by omega)).mono ?_
  rintro e u6 ⟨A_t6, c_t6, rfl, o_t6, b⟩
  have p_w0_t6 := apart_of o_w0 o_t6 (Nat.le_refl _)
  have f_t6 : w.heap.size ≤ _ := tot.size
  replace o_w0 := o_w0.below b
  replace tot := tot.trans (b.mono tot.size)
  clear b
  go_wp2_with fail
  refine (toTaskS_any (h1.below tot (Nat.le_refl _)) tot.size (by omega)).mono ?_
  rintro e u7 ⟨A_t7, c_t7, rfl, o_t7, b⟩
  have p_w0_t7 := apart_of o_w0 o_t7 (Nat.le_refl _)
  have p_t6_t7 := apart_of o_t6 o_t7 (Nat.le_refl _)
  have f_t7 : w.heap.size ≤ _ := tot.size
  replace o_w0 := o_w0.below b
  replace o_t6 := o_t6.below b
  replace tot := tot.trans (b.mono tot.size)
  clear b
  go_wp2_with fail
  refine (implQuickestFill_any o_t6.reads (Nat.le_refl _) o_t6.cap (by omega) hF0 o_t7.reads (Nat.le_refl _) o_t7.cap (by omega) hF1).mono ?_
  rintro e u8 ⟨A_g0, n_g0, c_g0, rfl, l_g0, o_g0, b⟩
  have p_w0_g0 := apart_of o_w0 o_g0 (Nat.le_refl _)
  have p_t6_g0 := apart_of o_t6 o_g0 (Nat.le_refl _)
  have p_t7_g0 := apart_of o_t7 o_g0 (Nat.le_refl _)
  have f_g0 : w.heap.size ≤ _ := tot.size
  replace o_w0 := o_w0.below b
  replace o_t6 := o_t6.below b
  replace o_t7 := o_t7.below b
  replace tot := tot.trans (b.mono tot.size)
  clear b
  go_wp2_with fail
  refine (eqInt64S_same o_g0.reads o_w0.reads (Nat.le_refl _) (Nat.le_refl _) o_g0.max).mono ?_
  rintro e u9 ⟨rfl, b⟩
  replace o_w0 := o_w0.below b
  replace o_t6 := o_t6.below b
  replace o_t7 := o_t7.below b
  replace o_g0 := o_g0.below b
  replace tot := tot.trans (b.mono tot.size)
  clear b
  go_wp2_with fail
  refine (toHelperS_any (h0.below tot (Nat.le_refl _)) tot.size (by omega)).mono ?_
  rintro e u10 ⟨A_t10, c_t10, rfl, o_t10, b⟩
  have p_w0_t10 := apart_of o_w0 o_t10 (Nat.le_refl _)
  have p_t6_t10 := apart_of o_t6 o_t10 (Nat.le_refl _)
  have p_t7_t10 := apart_of o_t7 o_t10 (Nat.le_refl _)
  have p_g0_t10 := apart_of o_g0 o_t10 (Nat.le_refl _)
  have f_t10 : w.heap.size ≤ _ := tot.size
  replace o_w0 := o_w0.below b
  replace o_t6 := o_t6.below b
  replace o_t7 := o_t7.below b
  replace o_g0 := o_g0.below b
  replace tot := tot.trans (b.mono tot.size)
  clear b
  go_wp2_with fail
  refine (eqHelperS_same o_t6.reads o_t10.reads (Nat.le_refl _) (Nat.le_refl _) o_t6.max).mono ?_
  rintro e u11 ⟨rfl, b⟩
  replace o_w0 := o_w0.below b
  replace o_t6 := o_t6.below b
  replace o_t7 := o_t7.below b
  replace o_g0 := o_g0.below b
  replace o_t10 := o_t10.below b
  replace tot := tot.trans (b.mono tot.size)
  clear b
  go_wp2_with fail
  clear o_t10 f_t10 p_g0_t10 p_t6_t10 p_t7_t10 p_w0_t10
  refine (toTaskS_any (h1.below tot (Nat.le_refl _)) tot.size (by omega)).mono ?_
  rintro e u12 ⟨A_t12, c_t12, rfl, o_t12, b⟩
  have p_w0_t12 := apart_of o_w0 o_t12 (Nat.le_refl _)
  have p_t6_t12 := apart_of o_t6 o_t12 (Nat.le_refl _)
  have p_t7_t12 := apart_of o_t7 o_t12 (Nat.le_refl _)
  have p_g0_t12 := apart_of o_g0 o_t12 (Nat.le_refl _)
  have f_t12 : w.heap.size ≤ _ := tot.size
  replace o_w0 := o_w0.below b
  replace o_t6 := o_t6.below b
  replace o_t7 := o_t7.below b
  replace o_g0 := o_g0.below b
  replace tot := tot.trans (b.mono tot.size)
  clear b
  go_wp2_with fail
  refine (eqTaskS_same o_t7.reads o_t12.reads (Nat.le_refl _) (Nat.le_refl _) o_t7.max).mono ?_
  rintro e u13 ⟨rfl, b⟩
  replace o_w0 := o_w0.below b
  replace o_t6 := o_t6.below b
  replace o_t7 := o_t7.below b
  replace o_g0 := o_g0.below b
  replace o_t12 := o_t12.below b
  replace tot := tot.trans (b.mono tot.size)
  clear b
  go_wp2_with fail
  clear o_t12 f_t12 p_g0_t12 p_t6_t12 p_t7_t12 p_w0_t12
  refine (markHelperS_any o_t6 (by omega) (by omega) (by omega)).mono ?_
  rintro e u14 ⟨rfl, om_t6, t⟩
  replace o_w0 := o_w0.touch t p_w0_t6.symm
  replace o_t7 := o_t7.touch t p_t6_t7
  replace o_g0 := o_g0.touch t p_t6_g0
  replace tot := tot.trans (t.below (fun a ha => Nat.le_trans f_t6 (o_t6.from a ha)) tot.size)
  replace o_t6 := om_t6
  clear t om_t6
  go_wp2_with fail
  refine (markTaskS_any o_t7 (by omega) (by omega) (by omega)).mono ?_
  rintro e u15 ⟨rfl, om_t7, t⟩
  replace o_w0 := o_w0.touch t p_w0_t7.symm
  replace o_t6 := o_t6.touch t p_t6_t7.symm
  replace o_g0 := o_g0.touch t p_t7_g0
  replace tot := tot.trans (t.below (fun a ha => Nat.le_trans f_t7 (o_t7.from a ha)) tot.size)
  replace o_t7 := om_t7
  clear t om_t7
  go_wp2_with fail
  refine (eqInt64S_same o_g0.reads o_w0.reads (Nat.le_refl _) (Nat.le_refl _) o_g0.max).mono ?_
  rintro e u16 ⟨rfl, b⟩
  replace o_w0 := o_w0.below b
  replace o_t6 := o_t6.below b
  replace o_t7 := o_t7.below b
  replace o_g0 := o_g0.below b
  replace tot := tot.trans (b.mono tot.size)
  clear b
  go_wp2_with fail
  refine (markInt64S_any o_g0 (by omega) (by omega) (by omega)).mono ?_
  rintro e u17 ⟨rfl, om_g0, t⟩
  replace o_w0 := o_w0.touch t p_w0_g0.symm
  replace o_t6 := o_t6.touch t p_t6_g0.symm
  replace o_t7 := o_t7.touch t p_t7_g0.symm
  replace tot := tot.trans (t.below (fun a ha => Nat.le_trans f_g0 (o_g0.from a ha)) tot.size)
  replace o_g0 := om_g0
  clear t om_g0
  go_wp2_with fail
  refine (heldInt64S_any o_g0.reads (Nat.le_refl _) (by omega) (by omega) (by omega)).mono ?_
  rintro e u18 ⟨rfl, b⟩
  replace o_w0 := o_w0.below b
  replace o_t6 := o_t6.below b
  replace o_t7 := o_t7.below b
  replace o_g0 := o_g0.below b
  replace tot := tot.trans (b.mono tot.size)
  clear b
  go_wp2_with fail
  refine (toHelperS_any (h0.below tot (Nat.le_refl _)) tot.size (by omega)).mono ?_
  rintro e u19 ⟨A_t19, c_t19, rfl, o_t19, b⟩
  have p_w0_t19 := apart_of o_w0 o_t19 (Nat.le_refl _)
  have p_t6_t19 := apart_of o_t6 o_t19 (Nat.le_refl _)
  have p_t7_t19 := apart_of o_t7 o_t19 (Nat.le_refl _)
  have p_g0_t19 := apart_of o_g0 o_t19 (Nat.le_refl _)
  have f_t19 : w.heap.size ≤ _ := tot.size
  replace o_w0 := o_w0.below b
  replace o_t6 := o_t6.below b
  replace o_t7 := o_t7.below b
  replace o_g0 := o_g0.below b
  replace tot := tot.trans (b.mono tot.size)
  clear b
  go_wp2_with fail
  refine (toTaskS_any (h1.below tot (Nat.le_refl _)) tot.size (by omega)).mono ?_
  rintro e u20 ⟨A_t20, c_t20, rfl, o_t20, b⟩
  have p_w0_t20 := apart_of o_w0 o_t20 (Nat.le_refl _)
  have p_t6_t20 := apart_of o_t6 o_t20 (Nat.le_refl _)
  have p_t7_t20 := apart_of o_t7 o_t20 (Nat.le_refl _)
  have p_g0_t20 := apart_of o_g0 o_t20 (Nat.le_refl _)
  have p_t19_t20 := apart_of o_t19 o_t20 (Nat.le_refl _)
  have f_t20 : w.heap.size ≤ _ := tot.size
  replace o_w0 := o_w0.below b
  replace o_t6 := o_t6.below b
  replace o_t7 := o_t7.below b
  replace o_g0 := o_g0.below b
  replace o_t19 := o_t19.below b
  replace tot := tot.trans (b.mono tot.size)
  clear b
  go_wp2_with fail
  refine (implQuickestFill_any o_t19.reads (Nat.le_refl _) o_t19.cap (by omega) hF0 o_t20.reads (Nat.le_refl _) o_t20.cap (by omega) hF1).mono ?_
  rintro e u21 ⟨A_h0, n_h0, c_h0, rfl, l_h0, o_h0, b⟩
  have p_w0_h0 := apart_of o_w0 o_h0 (Nat.le_refl _)
  have p_t6_h0 := apart_of o_t6 o_h0 (Nat.le_refl _)
  have p_t7_h0 := apart_of o_t7 o_h0 (Nat.le_refl _)
  have p_g0_h0 := apart_of o_g0 o_h0 (Nat.le_refl _)
  have p_t19_h0 := apart_of o_t19 o_h0 (Nat.le_refl _)
  have p_t20_h0 := apart_of o_t20 o_h0 (Nat.le_refl _)
  have f_h0 : w.heap.size ≤ _ := tot.size
  replace o_w0 := o_w0.below b
  replace o_t6 := o_t6.below b
  replace o_t7 := o_t7.below b
  replace o_g0 := o_g0.below b
  replace o_t19 := o_t19.below b
  replace o_t20 := o_t20.below b
  replace tot := tot.trans (b.mono tot.size)
  clear o_t19 f_t19 p_g0_t19 p_t19_h0 p_t19_t20 p_t6_t19 p_t7_t19 p_w0_t19
  clear o_t20 f_t20 p_g0_t20 p_t20_h0 p_t6_t20 p_t7_t20 p_w0_t20
  clear b
  go_wp2_with fail
  refine (eqInt64S_same o_h0.reads o_w0.reads (Nat.le_refl _) (Nat.le_refl _) o_h0.max).mono ?_
  rintro e u22 ⟨rfl, b⟩
  replace o_w0 := o_w0.below b
  replace o_t6 := o_t6.below b
  replace o_t7 := o_t7.below b
  replace o_g0 := o_g0.below b
  replace o_h0 := o_h0.below b
  replace tot := tot.trans (b.mono tot.size)
  clear b
  go_wp2_with fail
  clear o_h0 f_h0 p_g0_h0 p_t6_h0 p_t7_h0 p_w0_h0
  refine (heldInt64S_any o_g0.reads (Nat.le_refl _) (by omega) (by omega) (by omega)).mono ?_
  rintro e u23 ⟨rfl, b⟩
  replace o_w0 := o_w0.below b
  replace o_t6 := o_t6.below b
  replace o_t7 := o_t7.below b
  replace o_g0 := o_g0.below b
  replace tot := tot.trans (b.mono tot.size)
  clear b
  go_wp2_with fail
  go_ret
  exact ⟨rfl, tot⟩
end Go.Proofs.Yteobefanhicjkaa
