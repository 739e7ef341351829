/- The walk of the law 'FnExactMostFilled': whatever the input, it returns true, and nothing that was there has turned. -/
import Derived.Test.YteobefanhicjkaaMd
import Derived.Test.YteobefanhicjkaaO
import Derived.Test.YteobefanhicjkaaQHelper
import Derived.Test.YteobefanhicjkaaQTask
namespace Go.Proofs.Yteobefanhicjkaa
open Go.RowKit
set_option maxRecDepth 100000
set_option linter.unusedVariables false

set_option maxHeartbeats 2000000 in
theorem FnExactMostFilled_walk (A0 : Option Addr) (n0 c0 : Nat) (z0 : List HelperR) (A1 : Option Addr) (n1 c1 : Nat) (z1 : List TaskR) (w : World) (h0 : Reads w w.heap.size 3 A0 n0 (z0.flatMap HelperR.cells)) (hc0 : n0 ≤ c0) (hm0 : c0 ≤ maxLen) (hz0 : ∀ x ∈ z0, x.wf) (h1 : Reads w w.heap.size 3 A1 n1 (z1.flatMap TaskR.cells)) (hc1 : n1 ≤ c1) (hm1 : c1 ≤ maxLen) (hz1 : ∀ x ∈ z1, x.wf) :
    Calls Try.prog 6 #[.slice A0 n0 c0, .slice A1 n1 c1] w fun e w' => e = .returned (.bool true) ∧ Below w.heap.size w w' := by
  unfold maxLen at hm0
  unfold maxLen at hm1
  have tot : Below w.heap.size w w := Below.refl _ _
  go_enter Try.func6, Try.ntmps6
  go_wp2_with fail
  refine (szHelperS_any (h0.below tot (Nat.le_refl _)) (by omega) (by omega) (by omega) hz0 tot.size).mono ?_
  rintro e u1 ⟨v0, rfl, b, hv0⟩
  replace tot := tot.trans (b.mono tot.size)
  clear b
  go_wp2_with fail
  · go_ret
    exact ⟨rfl, tot⟩
  replace hv0 := hv0 (by omega)
  obtain ⟨hv0, hvl0, hvs0⟩ := hv0
  have hF0 : ∀ x ∈ z0, x.Id.size ≤ 1048576 := fun x hx => by have := hvs0 x hx; omega
  clear hvs0
  refine (szTaskS_any (h1.below tot (Nat.le_refl _)) (by omega) (by omega) (by omega) hz1 tot.size).mono ?_
  rintro e u2 ⟨v1, rfl, b, hv1⟩
  replace tot := tot.trans (b.mono tot.size)
  clear b
  go_wp2_with fail
  · go_ret
    exact ⟨rfl, tot⟩
  replace hv1 := hv1 (by omega)
  obtain ⟨hv1, hvl1, hvs1⟩ := hv1
  have hF1 : ∀ x ∈ z1, x.Id.size ≤ 1048576 := fun x hx => by have := hvs1 x hx; omega
  clear hvs1
  refine (toHelperS_any (h0.below tot (Nat.le_refl _)) tot.size (by omega)).mono ?_
  rintro e u3 ⟨A_t3, c_t3, rfl, o_t3, b⟩
  have f_t3 : w.heap.size ≤ _ := tot.size
  replace tot := tot.trans (b.mono tot.size)
  clear b
  go_wp2_with fail
  refine (toTaskS_any (h1.below tot (Nat.le_refl _)) tot.size (by omega)).mono ?_
  rintro e u4 ⟨A_t4, c_t4, rfl, o_t4, b⟩
  have p_t3_t4 := apart_of o_t3 o_t4 (Nat.le_refl _)
  have f_t4 : w.heap.size ≤ _ := tot.size
  replace o_t3 := o_t3.below b
  replace tot := tot.trans (b.mono tot.size)
  clear b
  go_wp2_with fail
  refine (specMostFilled_any o_t3.reads (Nat.le_refl _) o_t3.cap (by omega) hF0 o_t4.reads (Nat.le_refl _) o_t4.cap (by omega) hF1).mono ?_
  rintro e u5 ⟨rfl, b⟩
  replace o_t3 := o_t3.below b
  replace o_t4 := o_t4.below b
  replace tot := tot.trans (b.mono tot.size)
  clear o_t3 f_t3 p_t3_t4
  clear o_t4 f_t4
  clear b
  go_wp2_with fail
  refine (toHelperS_any (h0.below tot (Nat.le_refl _)) tot.size (by omega)).mono ?_
  rintro e u6 ⟨A_t6, c_t6, rfl, o_t6, b⟩
  have f_t6 : w.heap.size ≤ _ := tot.size
  replace tot := tot.trans (b.mono tot.size)
  clear b
  go_wp2_with fail
  refine (toTaskS_any (h1.below tot (Nat.le_refl _)) tot.size (by omega)).mono ?_
  rintro e u7 ⟨A_t7, c_t7, rfl, o_t7, b⟩
  have p_t6_t7 := apart_of o_t6 o_t7 (Nat.le_refl _)
  have f_t7 : w.heap.size ≤ _ := tot.size
  replace o_t6 := o_t6.below b
  replace tot := tot.trans (b.mono tot.size)
  clear b
  go_wp2_with fail
  refine (implMostFilled_any o_t6.reads (Nat.le_refl _) o_t6.cap (by omega) hF0 o_t7.reads (Nat.le_refl _) o_t7.cap (by omega) hF1).mono ?_
  rintro e u8 ⟨rfl, b⟩
  replace o_t6 := o_t6.below b
  replace o_t7 := o_t7.below b
  replace tot := tot.trans (b.mono tot.size)
  clear b
  go_wp2_with fail
  refine (toHelperS_any (h0.below tot (Nat.le_refl _)) tot.size (by omega)).mono ?_
  rintro e u9 ⟨A_t9, c_t9, rfl, o_t9, b⟩
  have p_t6_t9 := apart_of o_t6 o_t9 (Nat.le_refl _)
  have p_t7_t9 := apart_of o_t7 o_t9 (Nat.le_refl _)
  have f_t9 : w.heap.size ≤ _ := tot.size
  replace o_t6 := o_t6.below b
  replace o_t7 := o_t7.below b
  replace tot := tot.trans (b.mono tot.size)
  clear b
  go_wp2_with fail
  refine (eqHelperS_same o_t6.reads o_t9.reads (Nat.le_refl _) (Nat.le_refl _) o_t6.max).mono ?_
  rintro e u10 ⟨rfl, b⟩
  replace o_t6 := o_t6.below b
  replace o_t7 := o_t7.below b
  replace o_t9 := o_t9.below b
  replace tot := tot.trans (b.mono tot.size)
  clear b
  go_wp2_with fail
  clear o_t9 f_t9 p_t6_t9 p_t7_t9
  refine (toTaskS_any (h1.below tot (Nat.le_refl _)) tot.size (by omega)).mono ?_
  rintro e u11 ⟨A_t11, c_t11, rfl, o_t11, b⟩
  have p_t6_t11 := apart_of o_t6 o_t11 (Nat.le_refl _)
  have p_t7_t11 := apart_of o_t7 o_t11 (Nat.le_refl _)
  have f_t11 : w.heap.size ≤ _ := tot.size
  replace o_t6 := o_t6.below b
  replace o_t7 := o_t7.below b
  replace tot := tot.trans (b.mono tot.size)
  clear b
  go_wp2_with fail
  refine (eqTaskS_same o_t7.reads o_t11.reads (Nat.le_refl _) (Nat.le_refl _) o_t7.max).mono ?_
  rintro e u12 ⟨rfl, b⟩
  replace o_t6 := o_t6.below b
  replace o_t7 := o_t7.below b
  replace o_t11 := o_t11.below b
  replace tot := tot.trans (b.mono tot.size)
  clear b
  go_wp2_with fail
  clear o_t11 f_t11 p_t6_t11 p_t7_t11
  go_ret
  exact ⟨rfl, tot⟩
end Go.Proofs.Yteobefanhicjkaa
