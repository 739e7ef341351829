/- The walk of the law 'FnExactFirstDue': whatever the input, it returns true, and nothing that was there has turned. -/
import Derived.Test.YtkehbolnfommbaaCd
import Derived.Test.YtkehbolnfommbaaO
import Derived.Test.YtkehbolnfommbaaQCheck
namespace Go.Proofs.Ytkehbolnfommbaa
open Go.RowKit
set_option maxRecDepth 100000
set_option linter.unusedVariables false

set_option maxHeartbeats 2000000 in
theorem FnExactFirstDue_walk (A0 : Option Addr) (n0 c0 : Nat) (z0 : List CheckR) (a1 : Int) (a2 : Int) (a3 : Int) (w : World) (h0 : Reads w w.heap.size 5 A0 n0 (z0.flatMap CheckR.cells)) (hc0 : n0 ≤ c0) (hm0 : c0 ≤ maxLen) (hz0 : ∀ x ∈ z0, x.wf) (w1 : (Lit.int .i64 a1).wf = true) (w2 : (Lit.int .i64 a2).wf = true) (w3 : (Lit.int .i64 a3).wf = true) :
    Calls Try.prog 8 #[.slice A0 n0 c0, .int .i64 a1, .int .i64 a2, .int .i64 a3] w fun e w' => e = .returned (.bool true) ∧ Below w.heap.size w w' := by
  unfold maxLen at hm0
  clear w1
  clear w2
  clear w3
  have tot : Below w.heap.size w w := Below.refl _ _
  go_enter Try.func8, Try.ntmps8
  go_wp2_with fail
  refine (szCheckS_any (h0.below tot (Nat.le_refl _)) (by omega) (by omega) (by omega) hz0 tot.size).mono ?_
  rintro e u1 ⟨v0, rfl, b, hv0⟩
  replace tot := tot.trans (b.mono tot.size)
  clear b
  go_wp2_with fail
  · go_ret
    exact ⟨rfl, tot⟩
  replace hv0 := hv0 (by omega)
  obtain ⟨hv0, hvl0, hvs0⟩ := hv0
  have hF0 : ∀ x ∈ z0, x.Id.size ≤ 1048576 := fun x hx => by have := hvs0 x hx; omega
  clear hvs0
  refine (toCheckS_any (h0.below tot (Nat.le_refl _)) tot.size (by omega)).mono ?_
  rintro e u2 ⟨A_t2, c_t2, rfl, o_t2, b⟩
  have f_t2 : w.heap.size ≤ _ := tot.size
  replace tot := tot.trans (b.mono tot.size)
  clear b
  go_wp2_with fail
  refine (specFirstDue_any o_t2.reads (Nat.le_refl _) o_t2.cap (by omega) hF0).mono ?_
  rintro e u3 ⟨rfl, b⟩
  replace o_t2 := o_t2.below b
  replace tot := tot.trans (b.mono tot.size)
  clear o_t2 f_t2
  clear b
  go_wp2_with fail
  refine (toCheckS_any (h0.below tot (Nat.le_refl _)) tot.size (by omega)).mono ?_
  rintro e u4 ⟨A_t4, c_t4, rfl, o_t4, b⟩
  have f_t4 : w.heap.size ≤ _ := tot.size
  replace tot := tot.trans (b.mono tot.size)
  clear b
  go_wp2_with fail
  refine (implFirstDue_any o_t4.reads (Nat.le_refl _) o_t4.cap (by omega) hF0).mono ?_
  rintro e u5 ⟨rfl, b⟩
  replace o_t4 := o_t4.below b
  replace tot := tot.trans (b.mono tot.size)
  clear b
  go_wp2_with fail
  refine (toCheckS_any (h0.below tot (Nat.le_refl _)) tot.size (by omega)).mono ?_
  rintro e u6 ⟨A_t6, c_t6, rfl, o_t6, b⟩
  have p_t4_t6 := apart_of o_t4 o_t6 (Nat.le_refl _)
  have f_t6 : w.heap.size ≤ _ := tot.size
  replace o_t4 := o_t4.below b
  replace tot := tot.trans (b.mono tot.size)
  clear b
  go_wp2_with fail
  refine (eqCheckS_same o_t4.reads o_t6.reads (Nat.le_refl _) (Nat.le_refl _) o_t4.max).mono ?_
  rintro e u7 ⟨rfl, b⟩
  replace o_t4 := o_t4.below b
  replace o_t6 := o_t6.below b
  replace tot := tot.trans (b.mono tot.size)
  clear b
  go_wp2_with fail
  clear o_t6 f_t6 p_t4_t6
  go_ret
  exact ⟨rfl, tot⟩
end Go.Proofs.Ytkehbolnfommbaa
