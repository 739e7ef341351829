/- The reference's draw of a basin. -/
import Derived.Test.YtdighpgfepooaaaDc
namespace Go.Proofs.Ytdighpgfepooaaa
open Go.RowKit
set_option maxRecDepth 100000
set_option linter.unusedVariables false
set_option linter.unusedSimpArgs false

def DrawBa (B b n c k : Nat) (A : Option Addr) (zs : List Int) (w0 w : World) (e : Ending) (w' : World) : Prop := ∃ r0 r1 r2 r3 : Int, e = .returned (.agg #[.int .i64 r0, .int .i64 r1, .int .i64 r2, .int .i64 r3]) ∧ DS B b A n c zs w0 w' k ∧ Touch w w' (some ⟨b, 0, none⟩)
set_option maxHeartbeats 2000000 in
theorem l16DrawOk_any {B b n c k : Nat} {A : Option Addr} {zs : List Int} {w0 w : World} (h : DS B b A n c zs w0 w k) (hk : k ≤ 100000) :
    Calls Try.prog 43 #[.pointer (some ⟨b, 0, none⟩)] w (DrawBa B b n c (k + 8) A zs w0 w) := by
  have hlt := h.lt
  have hsz := h.sz
  have D1 := Lib.hid (h.allocD (.cells #[.int .i64 0, .int .i64 0, .int .i64 0, .int .i64 0] 25))
  have L1 := Lib.hid (hc_new w [.int .i64 0, .int .i64 0, .int .i64 0, .int .i64 0] 25)
  have T1 := Lib.hid (touch_alloc (Touch.refl w (some ⟨b, 0, none⟩)) (.cells #[.int .i64 0, .int .i64 0, .int .i64 0, .int .i64 0] 25))
  clear h
  go_enter Try.func43, Try.ntmps43
  go_wp2_with fail
  refine (D1.out.pick (by omega) 12).mono ?_
  rintro e w2 ⟨x, rfl, g0, _, g2, d2, t2⟩
  have D2 := Lib.hid d2
  have T2 := Lib.hid (T1.out.trans t2)
  have L2 := Lib.hid (L1.out.touch1 t2 (by omega))
  have qa : IntKind.i64.wrap (500 * x) = 500 * x := IntWalk.i64_in _ (by omega)
  have qb : IntKind.i64.wrap (1000 + 500 * x) = 1000 + 500 * x := IntWalk.i64_in _ (by omega)
  clear d2 t2 D1 T1 L1
  go_wp2_with fail
  refine (D2.out.pick (by omega) 20).mono ?_
  rintro e w3 ⟨y, rfl, f0, _, f2, d3, t3⟩
  have D3 := Lib.hid d3
  have T3 := Lib.hid (T2.out.trans t3)
  have L3 := Lib.hid (L2.out.touch1 t3 (by omega))
  have qc : IntKind.i64.wrap (5 * y) = 5 * y := IntWalk.i64_in _ (by omega)
  have qd : IntKind.i64.wrap (5 + 5 * y) = 5 + 5 * y := IntWalk.i64_in _ (by omega)
  clear d3 t3 D2 T2 L2
  have hl3 := D3.out.lt
  have hz3 := T3.out.size
  have D4 := Lib.hid (D3.out.allocD (.cells #[.int .i64 (1000 + 500 * x), .int .i64 (5 + 5 * y), .int .i64 0, .int .i64 0] 25))
  have T4 := Lib.hid (touch_alloc T3.out (.cells #[.int .i64 (1000 + 500 * x), .int .i64 (5 + 5 * y), .int .i64 0, .int .i64 0] 25))
  have L4 := Lib.hid (L3.out.alloc1 (.cells #[.int .i64 (1000 + 500 * x), .int .i64 (5 + 5 * y), .int .i64 0, .int .i64 0] 25))
  have M4 := Lib.hid (hc_new w3 [.int .i64 (1000 + 500 * x), .int .i64 (5 + 5 * y), .int .i64 0, .int .i64 0] 25)
  have hl43 : w.heap.size < w3.heap.size := L3.out.lt
  clear D3 T3 L3
  go_wp2_with fail
  generalize w3.alloc (.cells #[.int .i64 (1000 + 500 * x), .int .i64 (5 + 5 * y), .int .i64 0, .int .i64 0] 25) = w4 at *
  have hbp : b < w3.heap.size := hl3
  generalize w3.heap.size = px at *
  refine (D4.out.pick (by omega) 90).mono ?_
  rintro e w5 ⟨z, rfl, k0, _, k2, d5, t5⟩
  have qe : IntKind.i64.wrap (1000 * z) = 1000 * z := IntWalk.i64_in _ (by omega)
  have M5 := Lib.hid (M4.out.touch1 t5 (by omega))
  have L5 := Lib.hid (L4.out.touch1 t5 (by omega))
  have T5 := Lib.hid (T4.out.trans t5)
  have m2 : w5.cell? ⟨px, 2, none⟩ = some (.int .i64 0) := M5.out.at_ 2 _ rfl
  have f2' := M5.out.fz 2
  have M6 : Hid (HC (w5.setCell ⟨px, 2, none⟩ (.int .i64 (1000 * z))) px [.int .i64 (1000 + 500 * x), .int .i64 (5 + 5 * y), .int .i64 (1000 * z), .int .i64 0]) := Lib.hid (M5.out.set (j := 2) (.int .i64 (1000 * z)) (by simp))
  have L6 := Lib.hid (L5.out.setNew (j := 2) (v := .int .i64 (1000 * z)) hl43)
  have D6 := Lib.hid (d5.setD (j := 2) (v := .int .i64 (1000 * z)) hbp (by omega))
  have T6 := Lib.hid (touch_setNew (j := 2) (v := .int .i64 (1000 * z)) T5.out (by omega : w.heap.size ≤ px))
  clear d5 t5 D4 T4 L4 M4 M5 L5 T5
  go_wp2_with fail
  clear m2 f2'
  generalize w5.setCell ⟨px, 2, none⟩ (.int .i64 (1000 * z)) = w6 at *
  refine (D6.out.pick (by omega) 20).mono ?_
  rintro e w7 ⟨u, rfl, j0, _, j2, d7, t7⟩
  have qf : IntKind.i64.wrap (20 * u) = 20 * u := IntWalk.i64_in _ (by omega)
  have M7 := Lib.hid (M6.out.touch1 t7 (by omega))
  have L7 := Lib.hid (L6.out.touch1 t7 (by omega))
  have T7 := Lib.hid (T6.out.trans t7)
  have m3 : w7.cell? ⟨px, 3, none⟩ = some (.int .i64 0) := M7.out.at_ 3 _ rfl
  have f3' := M7.out.fz 3
  have M8 : Hid (HC (w7.setCell ⟨px, 3, none⟩ (.int .i64 (20 * u))) px [.int .i64 (1000 + 500 * x), .int .i64 (5 + 5 * y), .int .i64 (1000 * z), .int .i64 (20 * u)]) := Lib.hid (M7.out.set (j := 3) (.int .i64 (20 * u)) (by simp))
  have L8 := Lib.hid (L7.out.setNew (j := 3) (v := .int .i64 (20 * u)) hl43)
  have D8 := Lib.hid (d7.setD (j := 3) (v := .int .i64 (20 * u)) hbp (by omega))
  have T8 := Lib.hid (touch_setNew (j := 3) (v := .int .i64 (20 * u)) T7.out (by omega : w.heap.size ≤ px))
  clear d7 t7 D6 T6 L6 M6 M7 L7 T7
  generalize 1000 + 500 * x = v0 at *
  generalize 5 + 5 * y = v1 at *
  generalize 1000 * z = v2 at *
  have n0 : (w7.setCell ⟨px, 3, none⟩ (.int .i64 (20 * u))).cell? ⟨px, 0, none⟩ = some (.int .i64 v0) := M8.out.at_ 0 _ rfl
  have n1 : (w7.setCell ⟨px, 3, none⟩ (.int .i64 (20 * u))).cell? ⟨px, 1, none⟩ = some (.int .i64 v1) := M8.out.at_ 1 _ rfl
  have n2 : (w7.setCell ⟨px, 3, none⟩ (.int .i64 (20 * u))).cell? ⟨px, 2, none⟩ = some (.int .i64 v2) := M8.out.at_ 2 _ rfl
  have n3 : (w7.setCell ⟨px, 3, none⟩ (.int .i64 (20 * u))).cell? ⟨px, 3, none⟩ = some (.int .i64 (20 * u)) := M8.out.at_ 3 _ rfl
  have o0 : (w7.setCell ⟨px, 3, none⟩ (.int .i64 (20 * u))).cell? ⟨w.heap.size, 0, none⟩ = some (.int .i64 0) := L8.out.at_ 0 _ rfl
  have o1 : (w7.setCell ⟨px, 3, none⟩ (.int .i64 (20 * u))).cell? ⟨w.heap.size, 1, none⟩ = some (.int .i64 0) := L8.out.at_ 1 _ rfl
  have o2 : (w7.setCell ⟨px, 3, none⟩ (.int .i64 (20 * u))).cell? ⟨w.heap.size, 2, none⟩ = some (.int .i64 0) := L8.out.at_ 2 _ rfl
  have o3 : (w7.setCell ⟨px, 3, none⟩ (.int .i64 (20 * u))).cell? ⟨w.heap.size, 3, none⟩ = some (.int .i64 0) := L8.out.at_ 3 _ rfl
  have e0 := L8.out.fz 0
  have e1 := L8.out.fz 1
  have e2 := L8.out.fz 2
  have e3 := L8.out.fz 3
  go_wp2_with fail
  refine bodyPost_ret (v := .agg #[.int .i64 v0, .int .i64 v1, .int .i64 v2, .int .i64 (20 * u)]) (by simp [results, Try.results43, go_sem, o0, o1, o2, o3]) rfl ⟨v0, v1, v2, _, rfl, ?_, ?_⟩
  · exact (((D8.out.setD (by omega) hsz).setD (by omega) hsz).setD (by omega) hsz).setD (by omega) hsz
  · exact touch_setNew (touch_setNew (touch_setNew (touch_setNew T8.out (Nat.le_refl _)) (Nat.le_refl _)) (Nat.le_refl _)) (Nat.le_refl _)
set_option maxHeartbeats 4000000 in
theorem l16Draw_any {B b n c k : Nat} {A : Option Addr} {zs : List Int} {w0 w : World} (h : DS B b A n c zs w0 w k) (hk : k ≤ 10000) :
    Calls Try.prog 20 #[.pointer (some ⟨b, 0, none⟩)] w (DrawBa B b n c (k + 12) A zs w0 w) := by
  have hlt := h.lt
  have hsz := h.sz
  have D1 := Lib.hid (h.allocD (.cells #[.int .i64 0, .int .i64 0, .int .i64 0, .int .i64 0] 25))
  have L1 := Lib.hid (hc_new w [.int .i64 0, .int .i64 0, .int .i64 0, .int .i64 0] 25)
  have T1 := Lib.hid (touch_alloc (Touch.refl w (some ⟨b, 0, none⟩)) (.cells #[.int .i64 0, .int .i64 0, .int .i64 0, .int .i64 0] 25))
  clear h
  go_enter Try.func20, Try.ntmps20
  go_wp2_with fail
  refine (l16DrawOk_any D1.out (by omega)).mono ?_
  rintro e w2 ⟨r0, r1, r2, r3, rfl, d2, t2⟩
  have D2 := Lib.hid d2
  have T2 := Lib.hid (T1.out.trans t2)
  have L2 := Lib.hid (L1.out.touch1 t2 (by omega))
  have hl2 := d2.lt
  have hl42 : w.heap.size < w2.heap.size := L2.out.lt
  have D4 := Lib.hid (D2.out.allocD (.cells #[.int .i64 r0, .int .i64 r1, .int .i64 r2, .int .i64 r3] 25))
  have T4 := Lib.hid (touch_alloc T2.out (.cells #[.int .i64 r0, .int .i64 r1, .int .i64 r2, .int .i64 r3] 25))
  have L4 := Lib.hid (L2.out.alloc1 (.cells #[.int .i64 r0, .int .i64 r1, .int .i64 r2, .int .i64 r3] 25))
  have M4 := Lib.hid (hc_new w2 [.int .i64 r0, .int .i64 r1, .int .i64 r2, .int .i64 r3] 25)
  clear d2 t2 D1 T1 L1 D2 T2 L2
  go_wp2_with fail
  generalize w2.alloc (.cells #[.int .i64 r0, .int .i64 r1, .int .i64 r2, .int .i64 r3] 25) = w4 at *
  generalize w2.heap.size = px at *
  refine (D4.out.pick (by omega) 20).mono ?_
  rintro e w5 ⟨x, rfl, g0, _, g2, d5, t5⟩
  have M5 := Lib.hid (M4.out.touch1 t5 (by omega))
  have L5 := Lib.hid (L4.out.touch1 t5 (by omega))
  have T5 := Lib.hid (T4.out.trans t5)
  have D5 := Lib.hid d5
  have hpw5 : px < w5.heap.size := M5.out.lt
  have hbw5 : b < w5.heap.size := d5.lt
  clear d5 t5 D4 T4 L4 M4
  have HEnd : Hid (∀ (w7 : World) (r0 r1 r2 r3 : Int), DS B b A n c zs w0 w7 (k + 12) → Touch w w7 (some ⟨b, 0, none⟩) → HC w7 w.heap.size [.int .i64 0, .int .i64 0, .int .i64 0, .int .i64 0] →
      DrawBa B b n c (k + 12) A zs w0 w (.returned (.agg #[.int .i64 r0, .int .i64 r1, .int .i64 r2, .int .i64 r3])) ((((w7.setCell ⟨w.heap.size, 0, none⟩ (.int .i64 r0)).setCell ⟨w.heap.size, 1, none⟩ (.int .i64 r1)).setCell ⟨w.heap.size, 2, none⟩ (.int .i64 r2)).setCell ⟨w.heap.size, 3, none⟩ (.int .i64 r3))) := Lib.hid (fun w7 r0 r1 r2 r3 D8 T8 _ =>
    ⟨r0, r1, r2, r3, rfl, (((D8.setD (by omega) hsz).setD (by omega) hsz).setD (by omega) hsz).setD (by omega) hsz, touch_setNew (touch_setNew (touch_setNew (touch_setNew T8 (Nat.le_refl _)) (Nat.le_refl _)) (Nat.le_refl _)) (Nat.le_refl _)⟩)
  by_cases hx0 : x = 0
  · subst hx0
    have D6 := D5
    go_wp2_with fail
    refine (D6.out.among4 (by omega) 0 1 20000 20001 2).mono ?_
    rintro e w7 ⟨y, rfl, _, d7, t7⟩
    have T7 := Lib.hid (T5.out.trans t7)
    have M7 := Lib.hid (M5.out.touch1 t7 (by omega))
    have L7 := Lib.hid (L5.out.touch1 t7 (by omega))
    have mj := M7.out.at_ 0 _ rfl
    have fj := M7.out.fz 0
    have M8 : Hid (HC (w7.setCell ⟨px, 0, none⟩ (.int .i64 y)) px [.int .i64 y, .int .i64 r1, .int .i64 r2, .int .i64 r3]) := Lib.hid (M7.out.set (j := 0) (.int .i64 y) (by simp))
    have L8 := Lib.hid (L7.out.setNew (j := 0) (v := .int .i64 y) hl42)
    have D8 := Lib.hid (((d7.setD (j := 0) (v := .int .i64 y) hl2 (by omega)).more (show _ ≤ k + 12 by omega)))
    have T8 := Lib.hid (touch_setNew (j := 0) (v := .int .i64 y) T7.out (by omega : w.heap.size ≤ px))
    have HE := Lib.hid (HEnd.out _ y r1 r2 r3 D8.out T8.out L8.out)
    have n0 : (w7.setCell ⟨px, 0, none⟩ (.int .i64 y)).cell? ⟨px, 0, none⟩ = some (.int .i64 y) := M8.out.at_ 0 _ rfl
    have n1 : (w7.setCell ⟨px, 0, none⟩ (.int .i64 y)).cell? ⟨px, 1, none⟩ = some (.int .i64 r1) := M8.out.at_ 1 _ rfl
    have n2 : (w7.setCell ⟨px, 0, none⟩ (.int .i64 y)).cell? ⟨px, 2, none⟩ = some (.int .i64 r2) := M8.out.at_ 2 _ rfl
    have n3 : (w7.setCell ⟨px, 0, none⟩ (.int .i64 y)).cell? ⟨px, 3, none⟩ = some (.int .i64 r3) := M8.out.at_ 3 _ rfl
    have o0 : (w7.setCell ⟨px, 0, none⟩ (.int .i64 y)).cell? ⟨w.heap.size, 0, none⟩ = some (.int .i64 0) := L8.out.at_ 0 _ rfl
    have e0 := L8.out.fz 0
    have o1 : (w7.setCell ⟨px, 0, none⟩ (.int .i64 y)).cell? ⟨w.heap.size, 1, none⟩ = some (.int .i64 0) := L8.out.at_ 1 _ rfl
    have e1 := L8.out.fz 1
    have o2 : (w7.setCell ⟨px, 0, none⟩ (.int .i64 y)).cell? ⟨w.heap.size, 2, none⟩ = some (.int .i64 0) := L8.out.at_ 2 _ rfl
    have e2 := L8.out.fz 2
    have o3 : (w7.setCell ⟨px, 0, none⟩ (.int .i64 y)).cell? ⟨w.heap.size, 3, none⟩ = some (.int .i64 0) := L8.out.at_ 3 _ rfl
    have e3 := L8.out.fz 3
    clear d7 t7 T7 M7 L7 D6 D5 M5 L5 T5 D8 T8 HEnd
    go_wp2_with fail
    exact bodyPost_ret (v := .agg #[.int .i64 y, .int .i64 r1, .int .i64 r2, .int .i64 r3]) (by simp [results, Try.results20, go_sem, o0, o1, o2, o3]) rfl HE.out
  by_cases hx1 : x = 1
  · subst hx1
    have D6 := D5
    go_wp2_with fail
    refine (D6.out.among4 (by omega) 0 1 1000 1001 2).mono ?_
    rintro e w7 ⟨y, rfl, _, d7, t7⟩
    have T7 := Lib.hid (T5.out.trans t7)
    have M7 := Lib.hid (M5.out.touch1 t7 (by omega))
    have L7 := Lib.hid (L5.out.touch1 t7 (by omega))
    have mj := M7.out.at_ 1 _ rfl
    have fj := M7.out.fz 1
    have M8 : Hid (HC (w7.setCell ⟨px, 1, none⟩ (.int .i64 y)) px [.int .i64 r0, .int .i64 y, .int .i64 r2, .int .i64 r3]) := Lib.hid (M7.out.set (j := 1) (.int .i64 y) (by simp))
    have L8 := Lib.hid (L7.out.setNew (j := 1) (v := .int .i64 y) hl42)
    have D8 := Lib.hid (((d7.setD (j := 1) (v := .int .i64 y) hl2 (by omega)).more (show _ ≤ k + 12 by omega)))
    have T8 := Lib.hid (touch_setNew (j := 1) (v := .int .i64 y) T7.out (by omega : w.heap.size ≤ px))
    have HE := Lib.hid (HEnd.out _ r0 y r2 r3 D8.out T8.out L8.out)
    have n0 : (w7.setCell ⟨px, 1, none⟩ (.int .i64 y)).cell? ⟨px, 0, none⟩ = some (.int .i64 r0) := M8.out.at_ 0 _ rfl
    have n1 : (w7.setCell ⟨px, 1, none⟩ (.int .i64 y)).cell? ⟨px, 1, none⟩ = some (.int .i64 y) := M8.out.at_ 1 _ rfl
    have n2 : (w7.setCell ⟨px, 1, none⟩ (.int .i64 y)).cell? ⟨px, 2, none⟩ = some (.int .i64 r2) := M8.out.at_ 2 _ rfl
    have n3 : (w7.setCell ⟨px, 1, none⟩ (.int .i64 y)).cell? ⟨px, 3, none⟩ = some (.int .i64 r3) := M8.out.at_ 3 _ rfl
    have o0 : (w7.setCell ⟨px, 1, none⟩ (.int .i64 y)).cell? ⟨w.heap.size, 0, none⟩ = some (.int .i64 0) := L8.out.at_ 0 _ rfl
    have e0 := L8.out.fz 0
    have o1 : (w7.setCell ⟨px, 1, none⟩ (.int .i64 y)).cell? ⟨w.heap.size, 1, none⟩ = some (.int .i64 0) := L8.out.at_ 1 _ rfl
    have e1 := L8.out.fz 1
    have o2 : (w7.setCell ⟨px, 1, none⟩ (.int .i64 y)).cell? ⟨w.heap.size, 2, none⟩ = some (.int .i64 0) := L8.out.at_ 2 _ rfl
    have e2 := L8.out.fz 2
    have o3 : (w7.setCell ⟨px, 1, none⟩ (.int .i64 y)).cell? ⟨w.heap.size, 3, none⟩ = some (.int .i64 0) := L8.out.at_ 3 _ rfl
    have e3 := L8.out.fz 3
    clear d7 t7 T7 M7 L7 D6 D5 M5 L5 T5 D8 T8 HEnd
    go_wp2_with fail
    exact bodyPost_ret (v := .agg #[.int .i64 r0, .int .i64 y, .int .i64 r2, .int .i64 r3]) (by simp [results, Try.results20, go_sem, o0, o1, o2, o3]) rfl HE.out
  by_cases hx2 : x = 2
  · subst hx2
    have D6 := D5
    go_wp2_with fail
    refine (D6.out.among4 (by omega) (-1) 0 10000000 10000001 2).mono ?_
    rintro e w7 ⟨y, rfl, _, d7, t7⟩
    have T7 := Lib.hid (T5.out.trans t7)
    have M7 := Lib.hid (M5.out.touch1 t7 (by omega))
    have L7 := Lib.hid (L5.out.touch1 t7 (by omega))
    have mj := M7.out.at_ 2 _ rfl
    have fj := M7.out.fz 2
    have M8 : Hid (HC (w7.setCell ⟨px, 2, none⟩ (.int .i64 y)) px [.int .i64 r0, .int .i64 r1, .int .i64 y, .int .i64 r3]) := Lib.hid (M7.out.set (j := 2) (.int .i64 y) (by simp))
    have L8 := Lib.hid (L7.out.setNew (j := 2) (v := .int .i64 y) hl42)
    have D8 := Lib.hid (((d7.setD (j := 2) (v := .int .i64 y) hl2 (by omega)).more (show _ ≤ k + 12 by omega)))
    have T8 := Lib.hid (touch_setNew (j := 2) (v := .int .i64 y) T7.out (by omega : w.heap.size ≤ px))
    have HE := Lib.hid (HEnd.out _ r0 r1 y r3 D8.out T8.out L8.out)
    have n0 : (w7.setCell ⟨px, 2, none⟩ (.int .i64 y)).cell? ⟨px, 0, none⟩ = some (.int .i64 r0) := M8.out.at_ 0 _ rfl
    have n1 : (w7.setCell ⟨px, 2, none⟩ (.int .i64 y)).cell? ⟨px, 1, none⟩ = some (.int .i64 r1) := M8.out.at_ 1 _ rfl
    have n2 : (w7.setCell ⟨px, 2, none⟩ (.int .i64 y)).cell? ⟨px, 2, none⟩ = some (.int .i64 y) := M8.out.at_ 2 _ rfl
    have n3 : (w7.setCell ⟨px, 2, none⟩ (.int .i64 y)).cell? ⟨px, 3, none⟩ = some (.int .i64 r3) := M8.out.at_ 3 _ rfl
    have o0 : (w7.setCell ⟨px, 2, none⟩ (.int .i64 y)).cell? ⟨w.heap.size, 0, none⟩ = some (.int .i64 0) := L8.out.at_ 0 _ rfl
    have e0 := L8.out.fz 0
    have o1 : (w7.setCell ⟨px, 2, none⟩ (.int .i64 y)).cell? ⟨w.heap.size, 1, none⟩ = some (.int .i64 0) := L8.out.at_ 1 _ rfl
    have e1 := L8.out.fz 1
    have o2 : (w7.setCell ⟨px, 2, none⟩ (.int .i64 y)).cell? ⟨w.heap.size, 2, none⟩ = some (.int .i64 0) := L8.out.at_ 2 _ rfl
    have e2 := L8.out.fz 2
    have o3 : (w7.setCell ⟨px, 2, none⟩ (.int .i64 y)).cell? ⟨w.heap.size, 3, none⟩ = some (.int .i64 0) := L8.out.at_ 3 _ rfl
    have e3 := L8.out.fz 3
    clear d7 t7 T7 M7 L7 D6 D5 M5 L5 T5 D8 T8 HEnd
    go_wp2_with fail
    exact bodyPost_ret (v := .agg #[.int .i64 r0, .int .i64 r1, .int .i64 y, .int .i64 r3]) (by simp [results, Try.results20, go_sem, o0, o1, o2, o3]) rfl HE.out
  by_cases hx3 : x = 3
  · subst hx3
    have D6 := D5
    go_wp2_with fail
    refine (D6.out.among4 (by omega) (-1) 0 1000 1001 2).mono ?_
    rintro e w7 ⟨y, rfl, _, d7, t7⟩
    have T7 := Lib.hid (T5.out.trans t7)
    have M7 := Lib.hid (M5.out.touch1 t7 (by omega))
    have L7 := Lib.hid (L5.out.touch1 t7 (by omega))
    have mj := M7.out.at_ 3 _ rfl
    have fj := M7.out.fz 3
    have M8 : Hid (HC (w7.setCell ⟨px, 3, none⟩ (.int .i64 y)) px [.int .i64 r0, .int .i64 r1, .int .i64 r2, .int .i64 y]) := Lib.hid (M7.out.set (j := 3) (.int .i64 y) (by simp))
    have L8 := Lib.hid (L7.out.setNew (j := 3) (v := .int .i64 y) hl42)
    have D8 := Lib.hid (((d7.setD (j := 3) (v := .int .i64 y) hl2 (by omega)).more (show _ ≤ k + 12 by omega)))
    have T8 := Lib.hid (touch_setNew (j := 3) (v := .int .i64 y) T7.out (by omega : w.heap.size ≤ px))
    have HE := Lib.hid (HEnd.out _ r0 r1 r2 y D8.out T8.out L8.out)
    have n0 : (w7.setCell ⟨px, 3, none⟩ (.int .i64 y)).cell? ⟨px, 0, none⟩ = some (.int .i64 r0) := M8.out.at_ 0 _ rfl
    have n1 : (w7.setCell ⟨px, 3, none⟩ (.int .i64 y)).cell? ⟨px, 1, none⟩ = some (.int .i64 r1) := M8.out.at_ 1 _ rfl
    have n2 : (w7.setCell ⟨px, 3, none⟩ (.int .i64 y)).cell? ⟨px, 2, none⟩ = some (.int .i64 r2) := M8.out.at_ 2 _ rfl
    have n3 : (w7.setCell ⟨px, 3, none⟩ (.int .i64 y)).cell? ⟨px, 3, none⟩ = some (.int .i64 y) := M8.out.at_ 3 _ rfl
    have o0 : (w7.setCell ⟨px, 3, none⟩ (.int .i64 y)).cell? ⟨w.heap.size, 0, none⟩ = some (.int .i64 0) := L8.out.at_ 0 _ rfl
    have e0 := L8.out.fz 0
    have o1 : (w7.setCell ⟨px, 3, none⟩ (.int .i64 y)).cell? ⟨w.heap.size, 1, none⟩ = some (.int .i64 0) := L8.out.at_ 1 _ rfl
    have e1 := L8.out.fz 1
    have o2 : (w7.setCell ⟨px, 3, none⟩ (.int .i64 y)).cell? ⟨w.heap.size, 2, none⟩ = some (.int .i64 0) := L8.out.at_ 2 _ rfl
    have e2 := L8.out.fz 2
    have o3 : (w7.setCell ⟨px, 3, none⟩ (.int .i64 y)).cell? ⟨w.heap.size, 3, none⟩ = some (.int .i64 0) := L8.out.at_ 3 _ rfl
    have e3 := L8.out.fz 3
    clear d7 t7 T7 M7 L7 D6 D5 M5 L5 T5 D8 T8 HEnd
    go_wp2_with fail
    exact bodyPost_ret (v := .agg #[.int .i64 r0, .int .i64 r1, .int .i64 r2, .int .i64 y]) (by simp [results, Try.results20, go_sem, o0, o1, o2, o3]) rfl HE.out
  have b0 : (x == 0) = false := by rw [beq_eq_false_iff_ne]; exact hx0
  have b1 : (x == 1) = false := by rw [beq_eq_false_iff_ne]; exact hx1
  have b2 : (x == 2) = false := by rw [beq_eq_false_iff_ne]; exact hx2
  have b3 : (x == 3) = false := by rw [beq_eq_false_iff_ne]; exact hx3
  have HE := Lib.hid (HEnd.out _ r0 r1 r2 r3 (D5.out.more (show _ ≤ k + 12 by omega)) T5.out L5.out)
  have n0 : w5.cell? ⟨px, 0, none⟩ = some (.int .i64 r0) := M5.out.at_ 0 _ rfl
  have n1 : w5.cell? ⟨px, 1, none⟩ = some (.int .i64 r1) := M5.out.at_ 1 _ rfl
  have n2 : w5.cell? ⟨px, 2, none⟩ = some (.int .i64 r2) := M5.out.at_ 2 _ rfl
  have n3 : w5.cell? ⟨px, 3, none⟩ = some (.int .i64 r3) := M5.out.at_ 3 _ rfl
  have o0 : w5.cell? ⟨w.heap.size, 0, none⟩ = some (.int .i64 0) := L5.out.at_ 0 _ rfl
  have e0 := L5.out.fz 0
  have o1 : w5.cell? ⟨w.heap.size, 1, none⟩ = some (.int .i64 0) := L5.out.at_ 1 _ rfl
  have e1 := L5.out.fz 1
  have o2 : w5.cell? ⟨w.heap.size, 2, none⟩ = some (.int .i64 0) := L5.out.at_ 2 _ rfl
  have e2 := L5.out.fz 2
  have o3 : w5.cell? ⟨w.heap.size, 3, none⟩ = some (.int .i64 0) := L5.out.at_ 3 _ rfl
  have e3 := L5.out.fz 3
  clear D5 T5 M5 L5 HEnd
  go_wp2_with fail
  exact bodyPost_ret (v := .agg #[.int .i64 r0, .int .i64 r1, .int .i64 r2, .int .i64 r3]) (by simp [results, Try.results20, go_sem, o0, o1, o2, o3]) rfl HE.out
end Go.Proofs.Ytdighpgfepooaaa
