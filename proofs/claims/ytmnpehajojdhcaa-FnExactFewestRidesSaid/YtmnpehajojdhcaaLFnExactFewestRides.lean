/- The walk of the law 'FnExactFewestRides': whatever the input, it returns true, and nothing that was there has turned. -/
import Derived.Test.YtmnpehajojdhcaaPs
import Derived.Test.YtmnpehajojdhcaaO
import Derived.Test.YtmnpehajojdhcaaQGroup
import Derived.Test.YtmnpehajojdhcaaQRoom
namespace Go.Proofs.Ytmnpehajojdhcaa
open Go.RowKit
set_option maxRecDepth 100000
set_option linter.unusedVariables false

set_option maxHeartbeats 2000000 in
theorem FnExactFewestRides_walk (A0 : Option Addr) (n0 c0 : Nat) (z0 : List GroupR) (z1 : RoomR) (a2 : Int) (w : World) (h0 : Reads w w.heap.size 4 A0 n0 (z0.flatMap GroupR.cells)) (hc0 : n0 ≤ c0) (hm0 : c0 ≤ maxLen) (hz0 : ∀ x ∈ z0, x.wf) (hz1 : z1.wf) (w2 : (Lit.int .i64 a2).wf = true) :
    Calls Try.prog 5 #[.slice A0 n0 c0, z1.val, .int .i64 a2] w fun e w' => e = .returned (.bool true) ∧ Below w.heap.size w w' := by
  unfold maxLen at hm0
  obtain ⟨f1_People, f1_Bikes, f1_Kilos⟩ := z1
  simp only [RoomR.val]
  clear w2
  go_enter Try.func5, Try.ntmps5
  go_wp2_with fail
  have pre : Below w.heap.size w (w.alloc (.cells #[.int .i64 f1_People, .int .i64 f1_Bikes, .int .i64 f1_Kilos] 31)) := ((Below.refl _ _).alloc (by simp) _)
  have bx1_0 : (w.alloc (.cells #[.int .i64 f1_People, .int .i64 f1_Bikes, .int .i64 f1_Kilos] 31)).cell? ⟨w.heap.size, 0, none⟩ = some (.int .i64 f1_People) := by simp
  have bx1_1 : (w.alloc (.cells #[.int .i64 f1_People, .int .i64 f1_Bikes, .int .i64 f1_Kilos] 31)).cell? ⟨w.heap.size, 1, none⟩ = some (.int .i64 f1_Bikes) := by simp
  have bx1_2 : (w.alloc (.cells #[.int .i64 f1_People, .int .i64 f1_Bikes, .int .i64 f1_Kilos] 31)).cell? ⟨w.heap.size, 2, none⟩ = some (.int .i64 f1_Kilos) := by simp
  have hsz : w.heap.size + 1 ≤ (w.alloc (.cells #[.int .i64 f1_People, .int .i64 f1_Bikes, .int .i64 f1_Kilos] 31)).heap.size := by simp
  replace h0 := Reads.below h0 pre (Nat.le_refl _)
  generalize (w.alloc (.cells #[.int .i64 f1_People, .int .i64 f1_Bikes, .int .i64 f1_Kilos] 31)) = W1 at *
  replace h0 := Reads.more h0 (show w.heap.size ≤ W1.heap.size by omega)
  have tot : Below W1.heap.size W1 W1 := Below.refl _ _
  refine (szGroupS_any (h0.below tot (Nat.le_refl _)) (by omega) (by omega) (by omega) hz0 tot.size).mono ?_
  rintro e u1 ⟨v0, rfl, b, hv0⟩
  replace tot := tot.trans (b.mono tot.size)
  clear b
  try clear e1_0 e1_1 e1_2
  have e1_0 := (tot.cell (p := ⟨w.heap.size, 0, none⟩) (by simp only []; omega)).trans bx1_0
  have e1_1 := (tot.cell (p := ⟨w.heap.size, 1, none⟩) (by simp only []; omega)).trans bx1_1
  have e1_2 := (tot.cell (p := ⟨w.heap.size, 2, none⟩) (by simp only []; omega)).trans bx1_2
  go_wp2_with fail
  · go_ret
    exact ⟨rfl, pre.trans (tot.mono (by omega))⟩
  replace hv0 := hv0 (by omega)
  obtain ⟨hv0, hvl0, hvs0⟩ := hv0
  have hF0 : ∀ x ∈ z0, x.Id.size ≤ 1048576 := fun x hx => by have := hvs0 x hx; omega
  clear hvs0
  have hD : Below u1.heap.size u1 u1.drew := (Below.refl _ _).drew
  have y0 : u1.cell? ⟨w.heap.size, 0, none⟩ = some (.int .i64 f1_People) := (tot.cell (p := ⟨w.heap.size, 0, none⟩) (by simp only []; omega)).trans (by assumption)
  have y1 : u1.cell? ⟨w.heap.size, 1, none⟩ = some (.int .i64 f1_Bikes) := (tot.cell (p := ⟨w.heap.size, 1, none⟩) (by simp only []; omega)).trans (by assumption)
  have y2 : u1.cell? ⟨w.heap.size, 2, none⟩ = some (.int .i64 f1_Kilos) := (tot.cell (p := ⟨w.heap.size, 2, none⟩) (by simp only []; omega)).trans (by assumption)
  have hszX := tot.size
  go_region_held3 (fun w' => w'.cell? ⟨w.heap.size, 0, none⟩ = some (.int .i64 f1_People) ∧ w'.cell? ⟨w.heap.size, 1, none⟩ = some (.int .i64 f1_Bikes) ∧ w'.cell? ⟨w.heap.size, 2, none⟩ = some (.int .i64 f1_Kilos) ∧ Below u1.heap.size u1 w')
    (first
      | (refine ⟨?_, ?_, ?_, by with_reducible exact hD⟩; exact y0; exact y1; exact y2)
      | (go_split_ands; have hbS : Below u1.heap.size u1 _ := (by with_reducible assumption); have hsS := hbS.size; refine ⟨?_, ?_, ?_, ?_⟩ <;> first | with_reducible exact hbS.trans (b.mono hsS) | with_reducible exact hbS.trans (b.mono (by simpa using hsS)) | (rw [b.cell (by simp only []; first | omega | (simp; omega))]; first | with_reducible assumption | exact y0 | exact y1 | exact y2)))
    ((first
      | (go_at_call 15; go_split_ands; have hbS : Below u1.heap.size u1 _ := (by with_reducible assumption); refine (toGroupS_any (h0.below (tot.trans (hbS.mono tot.size)) (Nat.le_refl _)) (by have := hbS.size; simp at *; omega) (by omega)).mono ?_; rintro e v2 ⟨A_t2, c_t2, rfl, o_t2, b⟩)
      | (go_at_call 16; refine (toRoom_any).mono ?_; rintro e v3 ⟨rfl, b⟩; replace o_t2 := o_t2.below b)
      | (go_at_call 20; go_split_ands; have hbS : Below u1.heap.size u1 _ := (by with_reducible assumption); refine (specFewestRides_any o_t2.reads (Nat.le_refl _) o_t2.cap (by omega) hF0).mono ?_; rintro e u4 ⟨A_w0, n_w0, c_w0, rfl, l_w0, o_w0, b⟩; have f_w0 : W1.heap.size ≤ _ := Nat.le_trans hszX hbS.size)))
  have hbS : Below u1.heap.size u1 u4 := by go_split_ands; with_reducible assumption
  replace tot := tot.trans (hbS.mono tot.size)
  clear hD hbS hszX b y0 y1 y2
  try clear e1_0 e1_1 e1_2
  have e1_0 := (tot.cell (p := ⟨w.heap.size, 0, none⟩) (by simp only []; omega)).trans bx1_0
  have e1_1 := (tot.cell (p := ⟨w.heap.size, 1, none⟩) (by simp only []; omega)).trans bx1_1
  have e1_2 := (tot.cell (p := ⟨w.heap.size, 2, none⟩) (by simp only []; omega)).trans bx1_2
  go_wp2_with fail
  refine (toGroupS_any (h0.below tot (Nat.le_refl _)) tot.size (by omega)).mono ?_
  rintro e u5 ⟨A_t5, c_t5, rfl, o_t5, b⟩
  have p_w0_t5 := apart_of o_w0 o_t5 (Nat.le_refl _)
  have f_t5 : W1.heap.size ≤ _ := tot.size
  replace o_w0 := o_w0.below b
  replace tot := tot.trans (b.mono tot.size)
  clear b
  try clear e1_0 e1_1 e1_2
  have e1_0 := (tot.cell (p := ⟨w.heap.size, 0, none⟩) (by simp only []; omega)).trans bx1_0
  have e1_1 := (tot.cell (p := ⟨w.heap.size, 1, none⟩) (by simp only []; omega)).trans bx1_1
  have e1_2 := (tot.cell (p := ⟨w.heap.size, 2, none⟩) (by simp only []; omega)).trans bx1_2
  go_wp2_with fail
  refine (toRoom_any).mono ?_
  rintro e u6 ⟨rfl, b⟩
  replace o_w0 := o_w0.below b
  replace o_t5 := o_t5.below b
  replace tot := tot.trans (b.mono tot.size)
  clear b
  try clear e1_0 e1_1 e1_2
  have e1_0 := (tot.cell (p := ⟨w.heap.size, 0, none⟩) (by simp only []; omega)).trans bx1_0
  have e1_1 := (tot.cell (p := ⟨w.heap.size, 1, none⟩) (by simp only []; omega)).trans bx1_1
  have e1_2 := (tot.cell (p := ⟨w.heap.size, 2, none⟩) (by simp only []; omega)).trans bx1_2
  go_wp2_with fail
  refine (implFewestRides_any o_t5.reads (Nat.le_refl _) o_t5.cap (by omega) hF0).mono ?_
  rintro e u7 ⟨A_g0, n_g0, c_g0, rfl, l_g0, o_g0, b⟩
  have p_w0_g0 := apart_of o_w0 o_g0 (Nat.le_refl _)
  have p_t5_g0 := apart_of o_t5 o_g0 (Nat.le_refl _)
  have f_g0 : W1.heap.size ≤ _ := tot.size
  replace o_w0 := o_w0.below b
  replace o_t5 := o_t5.below b
  replace tot := tot.trans (b.mono tot.size)
  clear b
  try clear e1_0 e1_1 e1_2
  have e1_0 := (tot.cell (p := ⟨w.heap.size, 0, none⟩) (by simp only []; omega)).trans bx1_0
  have e1_1 := (tot.cell (p := ⟨w.heap.size, 1, none⟩) (by simp only []; omega)).trans bx1_1
  have e1_2 := (tot.cell (p := ⟨w.heap.size, 2, none⟩) (by simp only []; omega)).trans bx1_2
  go_wp2_with fail
  refine (eqInt64S_same o_g0.reads o_w0.reads (Nat.le_refl _) (Nat.le_refl _) o_g0.max).mono ?_
  rintro e u8 ⟨rfl, b⟩
  replace o_w0 := o_w0.below b
  replace o_t5 := o_t5.below b
  replace o_g0 := o_g0.below b
  replace tot := tot.trans (b.mono tot.size)
  clear b
  try clear e1_0 e1_1 e1_2
  have e1_0 := (tot.cell (p := ⟨w.heap.size, 0, none⟩) (by simp only []; omega)).trans bx1_0
  have e1_1 := (tot.cell (p := ⟨w.heap.size, 1, none⟩) (by simp only []; omega)).trans bx1_1
  have e1_2 := (tot.cell (p := ⟨w.heap.size, 2, none⟩) (by simp only []; omega)).trans bx1_2
  go_wp2_with fail
  refine (toGroupS_any (h0.below tot (Nat.le_refl _)) tot.size (by omega)).mono ?_
  rintro e u9 ⟨A_t9, c_t9, rfl, o_t9, b⟩
  have p_w0_t9 := apart_of o_w0 o_t9 (Nat.le_refl _)
  have p_t5_t9 := apart_of o_t5 o_t9 (Nat.le_refl _)
  have p_g0_t9 := apart_of o_g0 o_t9 (Nat.le_refl _)
  have f_t9 : W1.heap.size ≤ _ := tot.size
  replace o_w0 := o_w0.below b
  replace o_t5 := o_t5.below b
  replace o_g0 := o_g0.below b
  replace tot := tot.trans (b.mono tot.size)
  clear b
  try clear e1_0 e1_1 e1_2
  have e1_0 := (tot.cell (p := ⟨w.heap.size, 0, none⟩) (by simp only []; omega)).trans bx1_0
  have e1_1 := (tot.cell (p := ⟨w.heap.size, 1, none⟩) (by simp only []; omega)).trans bx1_1
  have e1_2 := (tot.cell (p := ⟨w.heap.size, 2, none⟩) (by simp only []; omega)).trans bx1_2
  go_wp2_with fail
  refine (eqGroupS_same o_t5.reads o_t9.reads (Nat.le_refl _) (Nat.le_refl _) o_t5.max).mono ?_
  rintro e u10 ⟨rfl, b⟩
  replace o_w0 := o_w0.below b
  replace o_t5 := o_t5.below b
  replace o_g0 := o_g0.below b
  replace o_t9 := o_t9.below b
  replace tot := tot.trans (b.mono tot.size)
  clear b
  try clear e1_0 e1_1 e1_2
  have e1_0 := (tot.cell (p := ⟨w.heap.size, 0, none⟩) (by simp only []; omega)).trans bx1_0
  have e1_1 := (tot.cell (p := ⟨w.heap.size, 1, none⟩) (by simp only []; omega)).trans bx1_1
  have e1_2 := (tot.cell (p := ⟨w.heap.size, 2, none⟩) (by simp only []; omega)).trans bx1_2
  go_wp2_with fail
  clear o_t9 f_t9 p_g0_t9 p_t5_t9 p_w0_t9
  refine (markGroupS_any o_t5 (by omega) (by omega) (by omega)).mono ?_
  rintro e u11 ⟨rfl, om_t5, t⟩
  replace o_w0 := o_w0.touch t p_w0_t5.symm
  replace o_g0 := o_g0.touch t p_t5_g0
  replace tot := tot.trans (t.below (fun a ha => Nat.le_trans f_t5 (o_t5.from a ha)) tot.size)
  replace o_t5 := om_t5
  clear t om_t5
  try clear e1_0 e1_1 e1_2
  have e1_0 := (tot.cell (p := ⟨w.heap.size, 0, none⟩) (by simp only []; omega)).trans bx1_0
  have e1_1 := (tot.cell (p := ⟨w.heap.size, 1, none⟩) (by simp only []; omega)).trans bx1_1
  have e1_2 := (tot.cell (p := ⟨w.heap.size, 2, none⟩) (by simp only []; omega)).trans bx1_2
  go_wp2_with fail
  refine (eqInt64S_same o_g0.reads o_w0.reads (Nat.le_refl _) (Nat.le_refl _) o_g0.max).mono ?_
  rintro e u12 ⟨rfl, b⟩
  replace o_w0 := o_w0.below b
  replace o_t5 := o_t5.below b
  replace o_g0 := o_g0.below b
  replace tot := tot.trans (b.mono tot.size)
  clear b
  try clear e1_0 e1_1 e1_2
  have e1_0 := (tot.cell (p := ⟨w.heap.size, 0, none⟩) (by simp only []; omega)).trans bx1_0
  have e1_1 := (tot.cell (p := ⟨w.heap.size, 1, none⟩) (by simp only []; omega)).trans bx1_1
  have e1_2 := (tot.cell (p := ⟨w.heap.size, 2, none⟩) (by simp only []; omega)).trans bx1_2
  go_wp2_with fail
  refine (markInt64S_any o_g0 (by omega) (by omega) (by omega)).mono ?_
  rintro e u13 ⟨rfl, om_g0, t⟩
  replace o_w0 := o_w0.touch t p_w0_g0.symm
  replace o_t5 := o_t5.touch t p_t5_g0.symm
  replace tot := tot.trans (t.below (fun a ha => Nat.le_trans f_g0 (o_g0.from a ha)) tot.size)
  replace o_g0 := om_g0
  clear t om_g0
  try clear e1_0 e1_1 e1_2
  have e1_0 := (tot.cell (p := ⟨w.heap.size, 0, none⟩) (by simp only []; omega)).trans bx1_0
  have e1_1 := (tot.cell (p := ⟨w.heap.size, 1, none⟩) (by simp only []; omega)).trans bx1_1
  have e1_2 := (tot.cell (p := ⟨w.heap.size, 2, none⟩) (by simp only []; omega)).trans bx1_2
  go_wp2_with fail
  refine (heldInt64S_any o_g0.reads (Nat.le_refl _) (by omega) (by omega) (by omega)).mono ?_
  rintro e u14 ⟨rfl, b⟩
  replace o_w0 := o_w0.below b
  replace o_t5 := o_t5.below b
  replace o_g0 := o_g0.below b
  replace tot := tot.trans (b.mono tot.size)
  clear b
  try clear e1_0 e1_1 e1_2
  have e1_0 := (tot.cell (p := ⟨w.heap.size, 0, none⟩) (by simp only []; omega)).trans bx1_0
  have e1_1 := (tot.cell (p := ⟨w.heap.size, 1, none⟩) (by simp only []; omega)).trans bx1_1
  have e1_2 := (tot.cell (p := ⟨w.heap.size, 2, none⟩) (by simp only []; omega)).trans bx1_2
  go_wp2_with fail
  have hD : Below u14.heap.size u14 u14.drew := (Below.refl _ _).drew
  have y0 : u14.cell? ⟨w.heap.size, 0, none⟩ = some (.int .i64 f1_People) := (tot.cell (p := ⟨w.heap.size, 0, none⟩) (by simp only []; omega)).trans (by assumption)
  have y1 : u14.cell? ⟨w.heap.size, 1, none⟩ = some (.int .i64 f1_Bikes) := (tot.cell (p := ⟨w.heap.size, 1, none⟩) (by simp only []; omega)).trans (by assumption)
  have y2 : u14.cell? ⟨w.heap.size, 2, none⟩ = some (.int .i64 f1_Kilos) := (tot.cell (p := ⟨w.heap.size, 2, none⟩) (by simp only []; omega)).trans (by assumption)
  have hszX := tot.size
  go_region_held3 (fun w' => w'.cell? ⟨w.heap.size, 0, none⟩ = some (.int .i64 f1_People) ∧ w'.cell? ⟨w.heap.size, 1, none⟩ = some (.int .i64 f1_Bikes) ∧ w'.cell? ⟨w.heap.size, 2, none⟩ = some (.int .i64 f1_Kilos) ∧ Below u14.heap.size u14 w')
    (first
      | (refine ⟨?_, ?_, ?_, by with_reducible exact hD⟩; exact y0; exact y1; exact y2)
      | (go_split_ands; have hbS : Below u14.heap.size u14 _ := (by with_reducible assumption); have hsS := hbS.size; refine ⟨?_, ?_, ?_, ?_⟩ <;> first | with_reducible exact hbS.trans (b.mono hsS) | with_reducible exact hbS.trans (b.mono (by simpa using hsS)) | (rw [b.cell (by simp only []; first | omega | (simp; omega))]; first | with_reducible assumption | exact y0 | exact y1 | exact y2)))
    ((first
      | (go_at_call 15; go_split_ands; have hbS : Below u14.heap.size u14 _ := (by with_reducible assumption); refine (toGroupS_any (h0.below (tot.trans (hbS.mono tot.size)) (Nat.le_refl _)) (by have := hbS.size; simp at *; omega) (by omega)).mono ?_; rintro e v15 ⟨A_t15, c_t15, rfl, o_t15, b⟩)
      | (go_at_call 16; refine (toRoom_any).mono ?_; rintro e v16 ⟨rfl, b⟩; replace o_t15 := o_t15.below b)
      | (go_at_call 21; go_split_ands; have hbS : Below u14.heap.size u14 _ := (by with_reducible assumption); refine (implFewestRides_any o_t15.reads (Nat.le_refl _) o_t15.cap (by omega) hF0).mono ?_; rintro e u17 ⟨A_h0, n_h0, c_h0, rfl, l_h0, o_h0, b⟩; have f_h0 : W1.heap.size ≤ _ := Nat.le_trans hszX hbS.size; have p_w0_h0 := apart_of o_w0 o_h0 hbS.size; have p_t5_h0 := apart_of o_t5 o_h0 hbS.size; have p_g0_h0 := apart_of o_g0 o_h0 hbS.size)))
  have hbS : Below u14.heap.size u14 u17 := by go_split_ands; with_reducible assumption
  replace o_w0 := o_w0.below hbS
  replace o_t5 := o_t5.below hbS
  replace o_g0 := o_g0.below hbS
  replace tot := tot.trans (hbS.mono tot.size)
  clear hD hbS hszX b y0 y1 y2
  try clear e1_0 e1_1 e1_2
  have e1_0 := (tot.cell (p := ⟨w.heap.size, 0, none⟩) (by simp only []; omega)).trans bx1_0
  have e1_1 := (tot.cell (p := ⟨w.heap.size, 1, none⟩) (by simp only []; omega)).trans bx1_1
  have e1_2 := (tot.cell (p := ⟨w.heap.size, 2, none⟩) (by simp only []; omega)).trans bx1_2
  go_wp2_with fail
  refine (eqInt64S_same o_h0.reads o_w0.reads (Nat.le_refl _) (Nat.le_refl _) o_h0.max).mono ?_
  rintro e u18 ⟨rfl, b⟩
  replace o_w0 := o_w0.below b
  replace o_t5 := o_t5.below b
  replace o_g0 := o_g0.below b
  replace o_h0 := o_h0.below b
  replace tot := tot.trans (b.mono tot.size)
  clear b
  try clear e1_0 e1_1 e1_2
  have e1_0 := (tot.cell (p := ⟨w.heap.size, 0, none⟩) (by simp only []; omega)).trans bx1_0
  have e1_1 := (tot.cell (p := ⟨w.heap.size, 1, none⟩) (by simp only []; omega)).trans bx1_1
  have e1_2 := (tot.cell (p := ⟨w.heap.size, 2, none⟩) (by simp only []; omega)).trans bx1_2
  go_wp2_with fail
  clear o_h0 f_h0 p_g0_h0 p_t5_h0 p_w0_h0
  refine (heldInt64S_any o_g0.reads (Nat.le_refl _) (by omega) (by omega) (by omega)).mono ?_
  rintro e u19 ⟨rfl, b⟩
  replace o_w0 := o_w0.below b
  replace o_t5 := o_t5.below b
  replace o_g0 := o_g0.below b
  replace tot := tot.trans (b.mono tot.size)
  clear b
  try clear e1_0 e1_1 e1_2
  have e1_0 := (tot.cell (p := ⟨w.heap.size, 0, none⟩) (by simp only []; omega)).trans bx1_0
  have e1_1 := (tot.cell (p := ⟨w.heap.size, 1, none⟩) (by simp only []; omega)).trans bx1_1
  have e1_2 := (tot.cell (p := ⟨w.heap.size, 2, none⟩) (by simp only []; omega)).trans bx1_2
  go_wp2_with fail
  go_ret
  exact ⟨rfl, pre.trans (tot.mono (by omega))⟩
end Go.Proofs.Ytmnpehajojdhcaa
