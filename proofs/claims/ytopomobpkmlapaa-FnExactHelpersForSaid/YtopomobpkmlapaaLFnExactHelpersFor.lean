/- The walk of the law 'FnExactHelpersFor': whatever the input, it returns true, and nothing that was there has turned. -/
import Derived.Test.YtopomobpkmlapaaHd
import Derived.Test.YtopomobpkmlapaaO
import Derived.Test.YtopomobpkmlapaaQHelper
import Derived.Test.YtopomobpkmlapaaQTask
namespace Go.Proofs.Ytopomobpkmlapaa
open Go.RowKit
set_option maxRecDepth 100000
set_option linter.unusedVariables false

set_option maxHeartbeats 2000000 in
theorem FnExactHelpersFor_walk (A0 : Option Addr) (n0 c0 : Nat) (z0 : List HelperR) (z1 : TaskR) (w : World) (h0 : Reads w w.heap.size 3 A0 n0 (z0.flatMap HelperR.cells)) (hc0 : n0 ≤ c0) (hm0 : c0 ≤ maxLen) (hz0 : ∀ x ∈ z0, x.wf) (hz1 : z1.wf) :
    Calls Try.prog 7 #[.slice A0 n0 c0, z1.val] w fun e w' => e = .returned (.bool true) ∧ Below w.heap.size w w' := by
  unfold maxLen at hm0
  obtain ⟨f1_Id, f1_Skills, f1_Until⟩ := z1
  simp only [TaskR.val]
  obtain ⟨w1_Id, _⟩ := hz1
  go_enter Try.func7, Try.ntmps7
  go_wp2_with fail
  have pre : Below w.heap.size w (w.alloc (.cells #[.string f1_Id, .int .i64 f1_Skills, .int .i64 f1_Until] 42)) := ((Below.refl _ _).alloc (by simp) _)
  have bx1_0 : (w.alloc (.cells #[.string f1_Id, .int .i64 f1_Skills, .int .i64 f1_Until] 42)).cell? ⟨w.heap.size, 0, none⟩ = some (.string f1_Id) := by simp
  have bx1_1 : (w.alloc (.cells #[.string f1_Id, .int .i64 f1_Skills, .int .i64 f1_Until] 42)).cell? ⟨w.heap.size, 1, none⟩ = some (.int .i64 f1_Skills) := by simp
  have bx1_2 : (w.alloc (.cells #[.string f1_Id, .int .i64 f1_Skills, .int .i64 f1_Until] 42)).cell? ⟨w.heap.size, 2, none⟩ = some (.int .i64 f1_Until) := by simp
  have hsz : w.heap.size + 1 ≤ (w.alloc (.cells #[.string f1_Id, .int .i64 f1_Skills, .int .i64 f1_Until] 42)).heap.size := by simp
  replace h0 := Reads.below h0 pre (Nat.le_refl _)
  generalize (w.alloc (.cells #[.string f1_Id, .int .i64 f1_Skills, .int .i64 f1_Until] 42)) = W1 at *
  replace h0 := Reads.more h0 (show w.heap.size ≤ W1.heap.size by omega)
  have tot : Below W1.heap.size W1 W1 := Below.refl _ _
  refine (szHelperS_any (h0.below tot (Nat.le_refl _)) (by omega) (by omega) (by omega) hz0 tot.size).mono ?_
  rintro e u1 ⟨v0, rfl, b, hv0⟩
  replace tot := tot.trans (b.mono tot.size)
  clear b
  try clear e1_0 e1_1 e1_2
  have e1_0 := (tot.cell (p := ⟨w.heap.size, 0, none⟩) (by simp only []; omega)).trans bx1_0
  have e1_1 := (tot.cell (p := ⟨w.heap.size, 1, none⟩) (by simp only []; omega)).trans bx1_1
  have e1_2 := (tot.cell (p := ⟨w.heap.size, 2, none⟩) (by simp only []; omega)).trans bx1_2
  go_wp2_with fail
  · go_ret
    exact ⟨rfl, pre.trans (tot.mono (by omega))⟩
  replace hv0 := hv0 (by omega)
  obtain ⟨hv0, hvl0, hvs0⟩ := hv0
  have hF0 : ∀ x ∈ z0, x.Id.size ≤ 1048576 := fun x hx => by have := hvs0 x hx; omega
  clear hvs0
  refine (szTask_one (by omega) (by omega) w1_Id).mono ?_
  rintro e u2 ⟨v1, rfl, b, hv1, hvm1⟩
  replace tot := tot.trans (b.mono tot.size)
  clear b
  try clear e1_0 e1_1 e1_2
  have e1_0 := (tot.cell (p := ⟨w.heap.size, 0, none⟩) (by simp only []; omega)).trans bx1_0
  have e1_1 := (tot.cell (p := ⟨w.heap.size, 1, none⟩) (by simp only []; omega)).trans bx1_1
  have e1_2 := (tot.cell (p := ⟨w.heap.size, 2, none⟩) (by simp only []; omega)).trans bx1_2
  go_wp2_with fail
  · go_ret
    exact ⟨rfl, pre.trans (tot.mono (by omega))⟩
  replace hv1 := hv1 (by omega)
  have hD : Below u2.heap.size u2 u2.drew := (Below.refl _ _).drew
  have y0 : u2.cell? ⟨w.heap.size, 0, none⟩ = some (.string f1_Id) := (tot.cell (p := ⟨w.heap.size, 0, none⟩) (by simp only []; omega)).trans (by assumption)
  have y1 : u2.cell? ⟨w.heap.size, 1, none⟩ = some (.int .i64 f1_Skills) := (tot.cell (p := ⟨w.heap.size, 1, none⟩) (by simp only []; omega)).trans (by assumption)
  have y2 : u2.cell? ⟨w.heap.size, 2, none⟩ = some (.int .i64 f1_Until) := (tot.cell (p := ⟨w.heap.size, 2, none⟩) (by simp only []; omega)).trans (by assumption)
  have hszX := tot.size
  go_region_held3 (fun w' => w'.cell? ⟨w.heap.size, 0, none⟩ = some (.string f1_Id) ∧ w'.cell? ⟨w.heap.size, 1, none⟩ = some (.int .i64 f1_Skills) ∧ w'.cell? ⟨w.heap.size, 2, none⟩ = some (.int .i64 f1_Until) ∧ Below u2.heap.size u2 w')
    (first
      | (refine ⟨?_, ?_, ?_, by with_reducible exact hD⟩; exact y0; exact y1; exact y2)
      | (go_split_ands; have hbS : Below u2.heap.size u2 _ := (by with_reducible assumption); have hsS := hbS.size; refine ⟨?_, ?_, ?_, ?_⟩ <;> first | with_reducible exact hbS.trans (b.mono hsS) | with_reducible exact hbS.trans (b.mono (by simpa using hsS)) | (rw [b.cell (by simp only []; first | omega | (simp; omega))]; first | with_reducible assumption | exact y0 | exact y1 | exact y2)))
    ((first
      | (go_at_call 13; go_split_ands; have hbS : Below u2.heap.size u2 _ := (by with_reducible assumption); refine (toHelperS_any (h0.below (tot.trans (hbS.mono tot.size)) (Nat.le_refl _)) (by have := hbS.size; simp at *; omega) (by omega)).mono ?_; rintro e v3 ⟨A_t3, c_t3, rfl, o_t3, b⟩)
      | (go_at_call 27; refine (toTask_any).mono ?_; rintro e v4 ⟨rfl, b⟩; replace o_t3 := o_t3.below b)
      | (go_at_call 26; go_split_ands; have hbS : Below u2.heap.size u2 _ := (by with_reducible assumption); refine (specHelpersFor_any o_t3.reads (Nat.le_refl _) o_t3.cap (by omega) hF0 (by omega)).mono ?_; rintro e u5 ⟨A_w0, n_w0, c_w0, rfl, l_w0, o_w0, b⟩; have f_w0 : W1.heap.size ≤ _ := Nat.le_trans hszX hbS.size)))
  have hbS : Below u2.heap.size u2 u5 := by go_split_ands; with_reducible assumption
  replace tot := tot.trans (hbS.mono tot.size)
  clear hD hbS hszX b y0 y1 y2
  try clear e1_0 e1_1 e1_2
  have e1_0 := (tot.cell (p := ⟨w.heap.size, 0, none⟩) (by simp only []; omega)).trans bx1_0
  have e1_1 := (tot.cell (p := ⟨w.heap.size, 1, none⟩) (by simp only []; omega)).trans bx1_1
  have e1_2 := (tot.cell (p := ⟨w.heap.size, 2, none⟩) (by simp only []; omega)).trans bx1_2
  go_wp2_with fail
  refine (toHelperS_any (h0.below tot (Nat.le_refl _)) tot.size (by omega)).mono ?_
  rintro e u6 ⟨A_t6, c_t6, rfl, o_t6, b⟩
  have p_w0_t6 := apart_of o_w0 o_t6 (Nat.le_refl _)
  have f_t6 : W1.heap.size ≤ _ := tot.size
  replace o_w0 := o_w0.below b
  replace tot := tot.trans (b.mono tot.size)
  clear b
  try clear e1_0 e1_1 e1_2
  have e1_0 := (tot.cell (p := ⟨w.heap.size, 0, none⟩) (by simp only []; omega)).trans bx1_0
  have e1_1 := (tot.cell (p := ⟨w.heap.size, 1, none⟩) (by simp only []; omega)).trans bx1_1
  have e1_2 := (tot.cell (p := ⟨w.heap.size, 2, none⟩) (by simp only []; omega)).trans bx1_2
  go_wp2_with fail
  refine (toTask_any).mono ?_
  rintro e u7 ⟨rfl, b⟩
  replace o_w0 := o_w0.below b
  replace o_t6 := o_t6.below b
  replace tot := tot.trans (b.mono tot.size)
  clear b
  try clear e1_0 e1_1 e1_2
  have e1_0 := (tot.cell (p := ⟨w.heap.size, 0, none⟩) (by simp only []; omega)).trans bx1_0
  have e1_1 := (tot.cell (p := ⟨w.heap.size, 1, none⟩) (by simp only []; omega)).trans bx1_1
  have e1_2 := (tot.cell (p := ⟨w.heap.size, 2, none⟩) (by simp only []; omega)).trans bx1_2
  go_wp2_with fail
  refine (implHelpersFor_any o_t6.reads (Nat.le_refl _) o_t6.cap (by omega) hF0 (by omega)).mono ?_
  rintro e u8 ⟨A_g0, n_g0, c_g0, rfl, l_g0, o_g0, b⟩
  have p_w0_g0 := apart_of o_w0 o_g0 (Nat.le_refl _)
  have p_t6_g0 := apart_of o_t6 o_g0 (Nat.le_refl _)
  have f_g0 : W1.heap.size ≤ _ := tot.size
  replace o_w0 := o_w0.below b
  replace o_t6 := o_t6.below b
  replace tot := tot.trans (b.mono tot.size)
  clear b
  try clear e1_0 e1_1 e1_2
  have e1_0 := (tot.cell (p := ⟨w.heap.size, 0, none⟩) (by simp only []; omega)).trans bx1_0
  have e1_1 := (tot.cell (p := ⟨w.heap.size, 1, none⟩) (by simp only []; omega)).trans bx1_1
  have e1_2 := (tot.cell (p := ⟨w.heap.size, 2, none⟩) (by simp only []; omega)).trans bx1_2
  go_wp2_with fail
  refine (eqInt64S_same o_g0.reads o_w0.reads (Nat.le_refl _) (Nat.le_refl _) o_g0.max).mono ?_
  rintro e u9 ⟨rfl, b⟩
  replace o_w0 := o_w0.below b
  replace o_t6 := o_t6.below b
  replace o_g0 := o_g0.below b
  replace tot := tot.trans (b.mono tot.size)
  clear b
  try clear e1_0 e1_1 e1_2
  have e1_0 := (tot.cell (p := ⟨w.heap.size, 0, none⟩) (by simp only []; omega)).trans bx1_0
  have e1_1 := (tot.cell (p := ⟨w.heap.size, 1, none⟩) (by simp only []; omega)).trans bx1_1
  have e1_2 := (tot.cell (p := ⟨w.heap.size, 2, none⟩) (by simp only []; omega)).trans bx1_2
  go_wp2_with fail
  refine (toHelperS_any (h0.below tot (Nat.le_refl _)) tot.size (by omega)).mono ?_
  rintro e u10 ⟨A_t10, c_t10, rfl, o_t10, b⟩
  have p_w0_t10 := apart_of o_w0 o_t10 (Nat.le_refl _)
  have p_t6_t10 := apart_of o_t6 o_t10 (Nat.le_refl _)
  have p_g0_t10 := apart_of o_g0 o_t10 (Nat.le_refl _)
  have f_t10 : W1.heap.size ≤ _ := tot.size
  replace o_w0 := o_w0.below b
  replace o_t6 := o_t6.below b
  replace o_g0 := o_g0.below b
  replace tot := tot.trans (b.mono tot.size)
  clear b
  try clear e1_0 e1_1 e1_2
  have e1_0 := (tot.cell (p := ⟨w.heap.size, 0, none⟩) (by simp only []; omega)).trans bx1_0
  have e1_1 := (tot.cell (p := ⟨w.heap.size, 1, none⟩) (by simp only []; omega)).trans bx1_1
  have e1_2 := (tot.cell (p := ⟨w.heap.size, 2, none⟩) (by simp only []; omega)).trans bx1_2
  go_wp2_with fail
  refine (eqHelperS_same o_t6.reads o_t10.reads (Nat.le_refl _) (Nat.le_refl _) o_t6.max).mono ?_
  rintro e u11 ⟨rfl, b⟩
  replace o_w0 := o_w0.below b
  replace o_t6 := o_t6.below b
  replace o_g0 := o_g0.below b
  replace o_t10 := o_t10.below b
  replace tot := tot.trans (b.mono tot.size)
  clear b
  try clear e1_0 e1_1 e1_2
  have e1_0 := (tot.cell (p := ⟨w.heap.size, 0, none⟩) (by simp only []; omega)).trans bx1_0
  have e1_1 := (tot.cell (p := ⟨w.heap.size, 1, none⟩) (by simp only []; omega)).trans bx1_1
  have e1_2 := (tot.cell (p := ⟨w.heap.size, 2, none⟩) (by simp only []; omega)).trans bx1_2
  go_wp2_with fail
  clear o_t10 f_t10 p_g0_t10 p_t6_t10 p_w0_t10
  refine (markHelperS_any o_t6 (by omega) (by omega) (by omega)).mono ?_
  rintro e u12 ⟨rfl, om_t6, t⟩
  replace o_w0 := o_w0.touch t p_w0_t6.symm
  replace o_g0 := o_g0.touch t p_t6_g0
  replace tot := tot.trans (t.below (fun a ha => Nat.le_trans f_t6 (o_t6.from a ha)) tot.size)
  replace o_t6 := om_t6
  clear t om_t6
  try clear e1_0 e1_1 e1_2
  have e1_0 := (tot.cell (p := ⟨w.heap.size, 0, none⟩) (by simp only []; omega)).trans bx1_0
  have e1_1 := (tot.cell (p := ⟨w.heap.size, 1, none⟩) (by simp only []; omega)).trans bx1_1
  have e1_2 := (tot.cell (p := ⟨w.heap.size, 2, none⟩) (by simp only []; omega)).trans bx1_2
  go_wp2_with fail
  refine (eqInt64S_same o_g0.reads o_w0.reads (Nat.le_refl _) (Nat.le_refl _) o_g0.max).mono ?_
  rintro e u13 ⟨rfl, b⟩
  replace o_w0 := o_w0.below b
  replace o_t6 := o_t6.below b
  replace o_g0 := o_g0.below b
  replace tot := tot.trans (b.mono tot.size)
  clear b
  try clear e1_0 e1_1 e1_2
  have e1_0 := (tot.cell (p := ⟨w.heap.size, 0, none⟩) (by simp only []; omega)).trans bx1_0
  have e1_1 := (tot.cell (p := ⟨w.heap.size, 1, none⟩) (by simp only []; omega)).trans bx1_1
  have e1_2 := (tot.cell (p := ⟨w.heap.size, 2, none⟩) (by simp only []; omega)).trans bx1_2
  go_wp2_with fail
  refine (markInt64S_any o_g0 (by omega) (by omega) (by omega)).mono ?_
  rintro e u14 ⟨rfl, om_g0, t⟩
  replace o_w0 := o_w0.touch t p_w0_g0.symm
  replace o_t6 := o_t6.touch t p_t6_g0.symm
  replace tot := tot.trans (t.below (fun a ha => Nat.le_trans f_g0 (o_g0.from a ha)) tot.size)
  replace o_g0 := om_g0
  clear t om_g0
  try clear e1_0 e1_1 e1_2
  have e1_0 := (tot.cell (p := ⟨w.heap.size, 0, none⟩) (by simp only []; omega)).trans bx1_0
  have e1_1 := (tot.cell (p := ⟨w.heap.size, 1, none⟩) (by simp only []; omega)).trans bx1_1
  have e1_2 := (tot.cell (p := ⟨w.heap.size, 2, none⟩) (by simp only []; omega)).trans bx1_2
  go_wp2_with fail
  refine (heldInt64S_any o_g0.reads (Nat.le_refl _) (by omega) (by omega) (by omega)).mono ?_
  rintro e u15 ⟨rfl, b⟩
  replace o_w0 := o_w0.below b
  replace o_t6 := o_t6.below b
  replace o_g0 := o_g0.below b
  replace tot := tot.trans (b.mono tot.size)
  clear b
  try clear e1_0 e1_1 e1_2
  have e1_0 := (tot.cell (p := ⟨w.heap.size, 0, none⟩) (by simp only []; omega)).trans bx1_0
  have e1_1 := (tot.cell (p := ⟨w.heap.size, 1, none⟩) (by simp only []; omega)).trans bx1_1
  have e1_2 := (tot.cell (p := ⟨w.heap.size, 2, none⟩) (by simp only []; omega)).trans bx1_2
  go_wp2_with fail
  have hD : Below u15.heap.size u15 u15.drew := (Below.refl _ _).drew
  have y0 : u15.cell? ⟨w.heap.size, 0, none⟩ = some (.string f1_Id) := (tot.cell (p := ⟨w.heap.size, 0, none⟩) (by simp only []; omega)).trans (by assumption)
  have y1 : u15.cell? ⟨w.heap.size, 1, none⟩ = some (.int .i64 f1_Skills) := (tot.cell (p := ⟨w.heap.size, 1, none⟩) (by simp only []; omega)).trans (by assumption)
  have y2 : u15.cell? ⟨w.heap.size, 2, none⟩ = some (.int .i64 f1_Until) := (tot.cell (p := ⟨w.heap.size, 2, none⟩) (by simp only []; omega)).trans (by assumption)
  have hszX := tot.size
  go_region_held3 (fun w' => w'.cell? ⟨w.heap.size, 0, none⟩ = some (.string f1_Id) ∧ w'.cell? ⟨w.heap.size, 1, none⟩ = some (.int .i64 f1_Skills) ∧ w'.cell? ⟨w.heap.size, 2, none⟩ = some (.int .i64 f1_Until) ∧ Below u15.heap.size u15 w')
    (first
      | (refine ⟨?_, ?_, ?_, by with_reducible exact hD⟩; exact y0; exact y1; exact y2)
      | (go_split_ands; have hbS : Below u15.heap.size u15 _ := (by with_reducible assumption); have hsS := hbS.size; refine ⟨?_, ?_, ?_, ?_⟩ <;> first | with_reducible exact hbS.trans (b.mono hsS) | with_reducible exact hbS.trans (b.mono (by simpa using hsS)) | (rw [b.cell (by simp only []; first | omega | (simp; omega))]; first | with_reducible assumption | exact y0 | exact y1 | exact y2)))
    ((first
      | (go_at_call 13; go_split_ands; have hbS : Below u15.heap.size u15 _ := (by with_reducible assumption); refine (toHelperS_any (h0.below (tot.trans (hbS.mono tot.size)) (Nat.le_refl _)) (by have := hbS.size; simp at *; omega) (by omega)).mono ?_; rintro e v16 ⟨A_t16, c_t16, rfl, o_t16, b⟩)
      | (go_at_call 27; refine (toTask_any).mono ?_; rintro e v17 ⟨rfl, b⟩; replace o_t16 := o_t16.below b)
      | (go_at_call 28; go_split_ands; have hbS : Below u15.heap.size u15 _ := (by with_reducible assumption); refine (implHelpersFor_any o_t16.reads (Nat.le_refl _) o_t16.cap (by omega) hF0 (by omega)).mono ?_; rintro e u18 ⟨A_h0, n_h0, c_h0, rfl, l_h0, o_h0, b⟩; have f_h0 : W1.heap.size ≤ _ := Nat.le_trans hszX hbS.size; have p_w0_h0 := apart_of o_w0 o_h0 hbS.size; have p_t6_h0 := apart_of o_t6 o_h0 hbS.size; have p_g0_h0 := apart_of o_g0 o_h0 hbS.size)))
  have hbS : Below u15.heap.size u15 u18 := by go_split_ands; with_reducible assumption
  replace o_w0 := o_w0.below hbS
  replace o_t6 := o_t6.below hbS
  replace o_g0 := o_g0.below hbS
  replace tot := tot.trans (hbS.mono tot.size)
  clear hD hbS hszX b y0 y1 y2
  try clear e1_0 e1_1 e1_2
  have e1_0 := (tot.cell (p := ⟨w.heap.size, 0, none⟩) (by simp only []; omega)).trans bx1_0
  have e1_1 := (tot.cell (p := ⟨w.heap.size, 1, none⟩) (by simp only []; omega)).trans bx1_1
  have e1_2 := (tot.cell (p := ⟨w.heap.size, 2, none⟩) (by simp only []; omega)).trans bx1_2
  go_wp2_with fail
  refine (eqInt64S_same o_h0.reads o_w0.reads (Nat.le_refl _) (Nat.le_refl _) o_h0.max).mono ?_
  rintro e u19 ⟨rfl, b⟩
  replace o_w0 := o_w0.below b
  replace o_t6 := o_t6.below b
  replace o_g0 := o_g0.below b
  replace o_h0 := o_h0.below b
  replace tot := tot.trans (b.mono tot.size)
  clear b
  try clear e1_0 e1_1 e1_2
  have e1_0 := (tot.cell (p := ⟨w.heap.size, 0, none⟩) (by simp only []; omega)).trans bx1_0
  have e1_1 := (tot.cell (p := ⟨w.heap.size, 1, none⟩) (by simp only []; omega)).trans bx1_1
  have e1_2 := (tot.cell (p := ⟨w.heap.size, 2, none⟩) (by simp only []; omega)).trans bx1_2
  go_wp2_with fail
  clear o_h0 f_h0 p_g0_h0 p_t6_h0 p_w0_h0
  refine (heldInt64S_any o_g0.reads (Nat.le_refl _) (by omega) (by omega) (by omega)).mono ?_
  rintro e u20 ⟨rfl, b⟩
  replace o_w0 := o_w0.below b
  replace o_t6 := o_t6.below b
  replace o_g0 := o_g0.below b
  replace tot := tot.trans (b.mono tot.size)
  clear b
  try clear e1_0 e1_1 e1_2
  have e1_0 := (tot.cell (p := ⟨w.heap.size, 0, none⟩) (by simp only []; omega)).trans bx1_0
  have e1_1 := (tot.cell (p := ⟨w.heap.size, 1, none⟩) (by simp only []; omega)).trans bx1_1
  have e1_2 := (tot.cell (p := ⟨w.heap.size, 2, none⟩) (by simp only []; omega)).trans bx1_2
  go_wp2_with fail
  go_ret
  exact ⟨rfl, pre.trans (tot.mono (by omega))⟩
end Go.Proofs.Ytopomobpkmlapaa
