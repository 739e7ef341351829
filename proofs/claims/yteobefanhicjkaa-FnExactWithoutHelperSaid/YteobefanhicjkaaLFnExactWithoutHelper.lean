/- The walk of the law 'FnExactWithoutHelper': whatever the input, it returns true, and nothing that was there has turned. -/
import Derived.Test.YteobefanhicjkaaMe
import Derived.Test.YteobefanhicjkaaO
import Derived.Test.YteobefanhicjkaaQHelper
namespace Go.Proofs.Yteobefanhicjkaa
open Go.RowKit
set_option maxRecDepth 100000
set_option linter.unusedVariables false

set_option maxHeartbeats 2000000 in
theorem FnExactWithoutHelper_walk (A0 : Option Addr) (n0 c0 : Nat) (z0 : List HelperR) (a1 : ByteArray) (w : World) (h0 : Reads w w.heap.size 3 A0 n0 (z0.flatMap HelperR.cells)) (hc0 : n0 ≤ c0) (hm0 : c0 ≤ maxLen) (hz0 : ∀ x ∈ z0, x.wf) (w1 : a1.size ≤ maxLen) :
    Calls Try.prog 3 #[.slice A0 n0 c0, .string a1] w fun e w' => e = .returned (.bool true) ∧ Below w.heap.size w w' := by
  unfold maxLen at hm0
  unfold maxLen at w1
  by_cases b1 : 1048576 < a1.size
  · go_enter Try.func3, Try.ntmps3
    go_wp2_with fail
    go_ret
    exact ⟨rfl, by first | exact Below.refl _ _ | exact (Below.refl _ _).alloc (Nat.le_refl _) _⟩
  have tot : Below w.heap.size w w := Below.refl _ _
  go_enter Try.func3, Try.ntmps3
  go_wp2_with fail
  refine (szHelperS_any (h0.below tot (Nat.le_refl _)) (by omega) (by omega) (by omega) hz0 tot.size).mono ?_
  rintro e u1 ⟨v0, rfl, b, hv0⟩
  replace tot := tot.trans (b.mono tot.size)
  clear b
  go_wp2_with fail
  · go_ret
    exact ⟨rfl, tot⟩
  replace hv0 := hv0 (by omega)
  obtain ⟨hv0, hvl0, hvs0⟩ := hv0
  have hF0 : ∀ x ∈ z0, x.Id.size ≤ 1048576 := fun x hx => by have := hvs0 x hx; omega
  clear hvs0
  refine (toHelperS_any (h0.below tot (Nat.le_refl _)) tot.size (by omega)).mono ?_
  rintro e u2 ⟨A_t2, c_t2, rfl, o_t2, b⟩
  have f_t2 : w.heap.size ≤ _ := tot.size
  replace tot := tot.trans (b.mono tot.size)
  clear b
  go_wp2_with fail
  refine (specWithoutHelper_any o_t2.reads (Nat.le_refl _) o_t2.cap (by omega) hF0 (by omega)).mono ?_
  rintro e u3 ⟨A_w0, n_w0, c_w0, rfl, l_w0, o_w0, b⟩
  have p_t2_w0 := apart_of o_t2 o_w0 (Nat.le_refl _)
  have f_w0 : w.heap.size ≤ _ := tot.size
  replace o_t2 := o_t2.below b
  replace tot := tot.trans (b.mono tot.size)
  clear o_t2 f_t2 p_t2_w0
  clear b
  go_wp2_with fail
  refine (toHelperS_any (h0.below tot (Nat.le_refl _)) tot.size (by omega)).mono ?_
  rintro e u4 ⟨A_t4, c_t4, rfl, o_t4, b⟩
  have p_w0_t4 := apart_of o_w0 o_t4 (Nat.le_refl _)
  have f_t4 : w.heap.size ≤ _ := tot.size
  replace o_w0 := o_w0.below b
  replace tot := tot.trans (b.mono tot.size)
  clear b
  go_wp2_with fail
  refine (implWithoutHelper_any o_t4.reads (Nat.le_refl _) o_t4.cap (by omega) hF0 (by omega)).mono ?_
  rintro e u5 ⟨A_g0, n_g0, c_g0, rfl, l_g0, o_g0, b⟩
  have p_w0_g0 := apart_of o_w0 o_g0 (Nat.le_refl _)
  have p_t4_g0 := apart_of o_t4 o_g0 (Nat.le_refl _)
  have f_g0 : w.heap.size ≤ _ := tot.size
  replace o_w0 := o_w0.below b
  replace o_t4 := o_t4.below b
  replace tot := tot.trans (b.mono tot.size)
  clear b
  go_wp2_with fail
  refine (eqHelperS_same o_g0.reads o_w0.reads (Nat.le_refl _) (Nat.le_refl _) o_g0.max).mono ?_
  rintro e u6 ⟨rfl, b⟩
  replace o_w0 := o_w0.below b
  replace o_t4 := o_t4.below b
  replace o_g0 := o_g0.below b
  replace tot := tot.trans (b.mono tot.size)
  clear b
  go_wp2_with fail
  refine (toHelperS_any (h0.below tot (Nat.le_refl _)) tot.size (by omega)).mono ?_
  rintro e u7 ⟨A_t7, c_t7, rfl, o_t7, b⟩
  have p_w0_t7 := apart_of o_w0 o_t7 (Nat.le_refl _)
  have p_t4_t7 := apart_of o_t4 o_t7 (Nat.le_refl _)
  have p_g0_t7 := apart_of o_g0 o_t7 (Nat.le_refl _)
  have f_t7 : w.heap.size ≤ _ := tot.size
  replace o_w0 := o_w0.below b
  replace o_t4 := o_t4.below b
  replace o_g0 := o_g0.below b
  replace tot := tot.trans (b.mono tot.size)
  clear b
  go_wp2_with fail
  refine (eqHelperS_same o_t4.reads o_t7.reads (Nat.le_refl _) (Nat.le_refl _) o_t4.max).mono ?_
  rintro e u8 ⟨rfl, b⟩
  replace o_w0 := o_w0.below b
  replace o_t4 := o_t4.below b
  replace o_g0 := o_g0.below b
  replace o_t7 := o_t7.below b
  replace tot := tot.trans (b.mono tot.size)
  clear b
  go_wp2_with fail
  clear o_t7 f_t7 p_g0_t7 p_t4_t7 p_w0_t7
  refine (markHelperS_any o_t4 (by omega) (by omega) (by omega)).mono ?_
  rintro e u9 ⟨rfl, om_t4, t⟩
  replace o_w0 := o_w0.touch t p_w0_t4.symm
  replace o_g0 := o_g0.touch t p_t4_g0
  replace tot := tot.trans (t.below (fun a ha => Nat.le_trans f_t4 (o_t4.from a ha)) tot.size)
  replace o_t4 := om_t4
  clear t om_t4
  go_wp2_with fail
  refine (eqHelperS_same o_g0.reads o_w0.reads (Nat.le_refl _) (Nat.le_refl _) o_g0.max).mono ?_
  rintro e u10 ⟨rfl, b⟩
  replace o_w0 := o_w0.below b
  replace o_t4 := o_t4.below b
  replace o_g0 := o_g0.below b
  replace tot := tot.trans (b.mono tot.size)
  clear b
  go_wp2_with fail
  refine (markHelperS_any o_g0 (by omega) (by omega) (by omega)).mono ?_
  rintro e u11 ⟨rfl, om_g0, t⟩
  replace o_w0 := o_w0.touch t p_w0_g0.symm
  replace o_t4 := o_t4.touch t p_t4_g0.symm
  replace tot := tot.trans (t.below (fun a ha => Nat.le_trans f_g0 (o_g0.from a ha)) tot.size)
  replace o_g0 := om_g0
  clear t om_g0
  go_wp2_with fail
  refine (heldHelperS_any o_g0.reads (Nat.le_refl _) (by omega) (by omega) (by omega)).mono ?_
  rintro e u12 ⟨rfl, b⟩
  replace o_w0 := o_w0.below b
  replace o_t4 := o_t4.below b
  replace o_g0 := o_g0.below b
  replace tot := tot.trans (b.mono tot.size)
  clear b
  go_wp2_with fail
  refine (toHelperS_any (h0.below tot (Nat.le_refl _)) tot.size (by omega)).mono ?_
  rintro e u13 ⟨A_t13, c_t13, rfl, o_t13, b⟩
  have p_w0_t13 := apart_of o_w0 o_t13 (Nat.le_refl _)
  have p_t4_t13 := apart_of o_t4 o_t13 (Nat.le_refl _)
  have p_g0_t13 := apart_of o_g0 o_t13 (Nat.le_refl _)
  have f_t13 : w.heap.size ≤ _ := tot.size
  replace o_w0 := o_w0.below b
  replace o_t4 := o_t4.below b
  replace o_g0 := o_g0.below b
  replace tot := tot.trans (b.mono tot.size)
  clear b
  go_wp2_with fail
  refine (implWithoutHelper_any o_t13.reads (Nat.le_refl _) o_t13.cap (by omega) hF0 (by omega)).mono ?_
  rintro e u14 ⟨A_h0, n_h0, c_h0, rfl, l_h0, o_h0, b⟩
  have p_w0_h0 := apart_of o_w0 o_h0 (Nat.le_refl _)
  have p_t4_h0 := apart_of o_t4 o_h0 (Nat.le_refl _)
  have p_g0_h0 := apart_of o_g0 o_h0 (Nat.le_refl _)
  have p_t13_h0 := apart_of o_t13 o_h0 (Nat.le_refl _)
  have f_h0 : w.heap.size ≤ _ := tot.size
  replace o_w0 := o_w0.below b
  replace o_t4 := o_t4.below b
  replace o_g0 := o_g0.below b
  replace o_t13 := o_t13.below b
  replace tot := tot.trans (b.mono tot.size)
  clear o_t13 f_t13 p_g0_t13 p_t13_h0 p_t4_t13 p_w0_t13
  clear b
  go_wp2_with fail
  refine (eqHelperS_same o_h0.reads o_w0.reads (Nat.le_refl _) (Nat.le_refl _) o_h0.max).mono ?_
  rintro e u15 ⟨rfl, b⟩
  replace o_w0 := o_w0.below b
  replace o_t4 := o_t4.below b
  replace o_g0 := o_g0.below b
  replace o_h0 := o_h0.below b
  replace tot := tot.trans (b.mono tot.size)
  clear b
  go_wp2_with fail
  clear o_h0 f_h0 p_g0_h0 p_t4_h0 p_w0_h0
  refine (heldHelperS_any o_g0.reads (Nat.le_refl _) (by omega) (by omega) (by omega)).mono ?_
  rintro e u16 ⟨rfl, b⟩
  replace o_w0 := o_w0.below b
  replace o_t4 := o_t4.below b
  replace o_g0 := o_g0.below b
  replace tot := tot.trans (b.mono tot.size)
  clear b
  go_wp2_with fail
  go_ret
  exact ⟨rfl, tot⟩
end Go.Proofs.Yteobefanhicjkaa
