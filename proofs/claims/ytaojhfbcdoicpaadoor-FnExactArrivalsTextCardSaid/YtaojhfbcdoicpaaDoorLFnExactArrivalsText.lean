/- The walk of the law 'FnExactArrivalsText': whatever the input, it returns true, and nothing that was there has turned. -/
import Derived.Test.YtaojhfbcdoicpaaDoorTg
import Derived.Test.YtaojhfbcdoicpaaDoorO
namespace Go.Proofs.YtaojhfbcdoicpaaDoor
open Go.RowKit
set_option maxRecDepth 100000
set_option linter.unusedVariables false

set_option maxHeartbeats 2000000 in
theorem FnExactArrivalsText_walk (A0 : Option Addr) (n0 c0 : Nat) (z0 : List Int) (w : World) (h0 : Ints w w.heap.size A0 n0 z0) (hc0 : n0 ≤ c0) (hm0 : c0 ≤ maxLen) (hz0 : ∀ z ∈ z0, (Lit.int .i64 z).wf = true) (tab : TabOk w) :
    Calls Tryd.prog 5 #[.slice A0 n0 c0] w fun e w' => e = .returned (.bool true) ∧ Below w.heap.size w w' := by
  have Tab := Lib.hid tab
  clear tab
  unfold maxLen at hm0
  by_cases b0 : 1048576 < n0
  · go_enter Tryd.func5, Tryd.ntmps5
    go_wp2_with fail
    go_ret
    exact ⟨rfl, by first | exact Below.refl _ _ | exact (Below.refl _ _).alloc (Nat.le_refl _) _⟩
  have tot : Below w.heap.size w w := Below.refl _ _
  go_enter Tryd.func5, Tryd.ntmps5
  go_wp2_with fail
  refine (toInt64S_any (h0.below tot (Nat.le_refl _)) tot.size (by omega)).mono ?_
  rintro e u1 ⟨A_t1, c_t1, rfl, o_t1, b⟩
  have f_t1 : w.heap.size ≤ _ := tot.size
  replace tot := tot.trans (b.mono tot.size)
  clear b
  go_wp2_with fail
  refine (specArrivalsText_any o_t1.reads (Nat.le_refl _) o_t1.cap (by omega)).mono ?_
  rintro e u2 ⟨rfl, b⟩
  replace o_t1 := o_t1.below b
  replace tot := tot.trans (b.mono tot.size)
  clear o_t1 f_t1
  clear b
  go_wp2_with fail
  refine (toInt64S_any (h0.below tot (Nat.le_refl _)) tot.size (by omega)).mono ?_
  rintro e u3 ⟨A_t3, c_t3, rfl, o_t3, b⟩
  have f_t3 : w.heap.size ≤ _ := tot.size
  replace tot := tot.trans (b.mono tot.size)
  clear b
  go_wp2_with fail
  refine (implArrivalsText_any o_t3.reads (Nat.le_refl _) o_t3.cap (by omega) (by first | exact Tab.out.below tot | exact Tab.out.below (pre.trans (tot.mono (by omega))))).mono ?_
  rintro e u4 ⟨rfl, b⟩
  replace o_t3 := o_t3.below b
  replace tot := tot.trans (b.mono tot.size)
  clear b
  go_wp2_with fail
  refine (toInt64S_any (h0.below tot (Nat.le_refl _)) tot.size (by omega)).mono ?_
  rintro e u5 ⟨A_t5, c_t5, rfl, o_t5, b⟩
  have p_t3_t5 := apart_of o_t3 o_t5 (Nat.le_refl _)
  have f_t5 : w.heap.size ≤ _ := tot.size
  replace o_t3 := o_t3.below b
  replace tot := tot.trans (b.mono tot.size)
  clear b
  go_wp2_with fail
  refine (eqInt64S_same o_t3.reads o_t5.reads (Nat.le_refl _) (Nat.le_refl _) o_t3.max).mono ?_
  rintro e u6 ⟨rfl, b⟩
  replace o_t3 := o_t3.below b
  replace o_t5 := o_t5.below b
  replace tot := tot.trans (b.mono tot.size)
  clear b
  go_wp2_with fail
  clear o_t5 f_t5 p_t3_t5
  go_ret
  exact ⟨rfl, tot⟩
end Go.Proofs.YtaojhfbcdoicpaaDoor

