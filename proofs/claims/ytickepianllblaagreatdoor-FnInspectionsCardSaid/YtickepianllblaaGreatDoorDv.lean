/- The reference's draw of inspections: one inspection; a list that grows while the source is asked. -/
import Derived.Test.YtickepianllblaaGreatDoorDc
import Derived.Test.YtickepianllblaaGreatDoorUl
namespace Go.Proofs.YtickepianllblaaGreatDoor
open Go.RowKit
set_option maxRecDepth 100000
set_option linter.unusedVariables false
set_option linter.unusedSimpArgs false

/-- What a drawn inspection's numbers are. -/
def BoundC (x : CheckR) : Prop := (1 ≤ x.EveryDays ∧ x.EveryDays ≤ 365) ∧ (50 ≤ x.EveryRides ∧ x.EveryRides ≤ 3000) ∧ (0 ≤ x.LastDay ∧ x.LastDay ≤ 59) ∧ (0 ≤ x.LastRide ∧ x.LastRide ≤ 2999)
def DrawCk (B b n c k : Nat) (A : Option Addr) (zs : List Int) (w0 : World) (id : ByteArray) (w : World) (e : Ending) (w' : World) : Prop := ∃ r1 r2 r3 r4 : Int, e = .returned (.agg #[.string id, .int .i64 r1, .int .i64 r2, .int .i64 r3, .int .i64 r4]) ∧ BoundC ⟨id, r1, r2, r3, r4⟩ ∧ DS B b A n c zs w0 w' k ∧ Touch w w' (some ⟨b, 0, none⟩)
set_option maxHeartbeats 2000000 in
theorem l21DrawOne_any {B b n c k : Nat} {A : Option Addr} {zs : List Int} {w0 w : World} {id : ByteArray} (h : DS B b A n c zs w0 w k) (hk : k ≤ 100000) :
    Calls Tryz.prog 43 #[.pointer (some ⟨b, 0, none⟩), .string id] w (DrawCk B b n c (k + 8) A zs w0 id w) := by
  have hlt := h.lt
  have hsz := h.sz
  have D1 := Lib.hid (h.allocD (.cells #[.string ⟨#[]⟩, .int .i64 0, .int .i64 0, .int .i64 0, .int .i64 0] 39))
  have L1 := Lib.hid (hc_new w [.string ⟨#[]⟩, .int .i64 0, .int .i64 0, .int .i64 0, .int .i64 0] 39)
  have T1 := Lib.hid (touch_alloc (Touch.refl w (some ⟨b, 0, none⟩)) (.cells #[.string ⟨#[]⟩, .int .i64 0, .int .i64 0, .int .i64 0, .int .i64 0] 39))
  obtain ⟨w1, hw1⟩ : ∃ w1, w.alloc (.cells #[.string ⟨#[]⟩, .int .i64 0, .int .i64 0, .int .i64 0, .int .i64 0] 39) = w1 := ⟨_, rfl⟩
  have hs1 : w1.heap.size = w.heap.size + 1 := by rw [← hw1]; simp
  have L1' : Hid (HC w1 w.heap.size [.string ⟨#[]⟩, .int .i64 0, .int .i64 0, .int .i64 0, .int .i64 0]) := Lib.hid (by rw [← hw1]; exact L1.out)
  have HW1 := Lib.hid hw1
  have HS1 := Lib.hid hs1
  rw [hw1] at D1 T1
  have A4 := Lib.hid (D1.out.among4 (by omega) 1 7 30 365 2)
  rw [hs1] at A4
  clear h L1 hw1 hs1
  go_enter Tryz.func43, Tryz.ntmps43
  go_wp2_with fail
  rw [HW1.out]
  refine A4.out.mono ?_
  rintro e w2 ⟨x, rfl, hx, d2, t2⟩
  have hxb : 1 ≤ x ∧ x ≤ 365 := by
    simp only [List.mem_cons, List.not_mem_nil, or_false] at hx
    omega
  have D2 := Lib.hid d2
  have T2 := Lib.hid (T1.out.trans t2)
  have L2 := Lib.hid (L1'.out.touch1 t2 (by omega))
  clear hx d2 t2 A4 D1 T1 L1' HW1 HS1
  go_wp2_with fail
  refine (D2.out.pick (by omega) 60).mono ?_
  rintro e w3 ⟨y, rfl, y0, y1, _, d3, t3⟩
  have D3 := Lib.hid d3
  have T3 := Lib.hid (T2.out.trans t3)
  have L3 := Lib.hid (L2.out.touch1 t3 (by omega))
  clear d3 t3 D2 T2 L2
  have hl3 := D3.out.lt
  have hz3 := T3.out.size
  have D4 := Lib.hid (D3.out.allocD (.cells #[.string id, .int .i64 x, .int .i64 0, .int .i64 y, .int .i64 0] 39))
  have T4 := Lib.hid (touch_alloc T3.out (.cells #[.string id, .int .i64 x, .int .i64 0, .int .i64 y, .int .i64 0] 39))
  have L4 := Lib.hid (L3.out.alloc1 (.cells #[.string id, .int .i64 x, .int .i64 0, .int .i64 y, .int .i64 0] 39))
  have M4 := Lib.hid (hc_new w3 [.string id, .int .i64 x, .int .i64 0, .int .i64 y, .int .i64 0] 39)
  have hl43 : w.heap.size < w3.heap.size := L3.out.lt
  clear D3 T3 L3
  go_wp2_with fail
  generalize w3.alloc (.cells #[.string id, .int .i64 x, .int .i64 0, .int .i64 y, .int .i64 0] 39) = w4 at *
  have hbp : b < w3.heap.size := hl3
  generalize w3.heap.size = px at *
  refine (D4.out.pick (by omega) 60).mono ?_
  rintro e w5 ⟨z, rfl, k0, k1, _, d5, t5⟩
  have qe0 : IntKind.i64.wrap (1 + z) = 1 + z := IntWalk.i64_in _ (by omega)
  have qe : IntKind.i64.wrap (50 * (1 + z)) = 50 * (1 + z) := IntWalk.i64_in _ (by omega)
  have M5 := Lib.hid (M4.out.touch1 t5 (by omega))
  have L5 := Lib.hid (L4.out.touch1 t5 (by omega))
  have T5 := Lib.hid (T4.out.trans t5)
  have m2 : w5.cell? ⟨px, 2, none⟩ = some (.int .i64 0) := M5.out.at_ 2 _ rfl
  have f2' := M5.out.fz 2
  have M6 : Hid (HC (w5.setCell ⟨px, 2, none⟩ (.int .i64 (50 * (1 + z)))) px [.string id, .int .i64 x, .int .i64 (50 * (1 + z)), .int .i64 y, .int .i64 0]) := Lib.hid (M5.out.set (j := 2) (.int .i64 (50 * (1 + z))) (by simp))
  have L6 := Lib.hid (L5.out.setNew (j := 2) (v := .int .i64 (50 * (1 + z))) hl43)
  have D6 := Lib.hid (d5.setD (j := 2) (v := .int .i64 (50 * (1 + z))) hbp (by omega))
  have T6 := Lib.hid (touch_setNew (j := 2) (v := .int .i64 (50 * (1 + z))) T5.out (by omega : w.heap.size ≤ px))
  clear d5 t5 D4 T4 L4 M4 M5 L5 T5
  go_wp2_with fail
  generalize w5.setCell ⟨px, 2, none⟩ (.int .i64 (50 * (1 + z))) = w6 at *
  obtain ⟨er, her⟩ : ∃ er, 50 * (1 + z) = er := ⟨_, rfl⟩
  have hrb : 50 ≤ er ∧ er ≤ 3000 := by omega
  rw [her] at M6
  refine (D6.out.pick (by omega) 3000).mono ?_
  rintro e w7 ⟨v, rfl, v0, v1, _, d7, t7⟩
  have M7 := Lib.hid (M6.out.touch1 t7 (by omega))
  have L7 := Lib.hid (L6.out.touch1 t7 (by omega))
  have T7 := Lib.hid (T6.out.trans t7)
  have m4 : w7.cell? ⟨px, 4, none⟩ = some (.int .i64 0) := M7.out.at_ 4 _ rfl
  have f4' := M7.out.fz 4
  have M8 : Hid (HC (w7.setCell ⟨px, 4, none⟩ (.int .i64 v)) px [.string id, .int .i64 x, .int .i64 er, .int .i64 y, .int .i64 v]) := Lib.hid (M7.out.set (j := 4) (.int .i64 v) (by simp))
  have L8 := Lib.hid (L7.out.setNew (j := 4) (v := .int .i64 v) hl43)
  have D8 := Lib.hid (d7.setD (j := 4) (v := .int .i64 v) hbp (by omega))
  have T8 := Lib.hid (touch_setNew (j := 4) (v := .int .i64 v) T7.out (by omega : w.heap.size ≤ px))
  clear d7 t7 D6 T6 L6 M6 M7 L7 T7 m2 f2' her
  have n0 : (w7.setCell ⟨px, 4, none⟩ (.int .i64 v)).cell? ⟨px, 0, none⟩ = some (.string id) := M8.out.at_ 0 _ rfl
  have n1 : (w7.setCell ⟨px, 4, none⟩ (.int .i64 v)).cell? ⟨px, 1, none⟩ = some (.int .i64 x) := M8.out.at_ 1 _ rfl
  have n2 : (w7.setCell ⟨px, 4, none⟩ (.int .i64 v)).cell? ⟨px, 2, none⟩ = some (.int .i64 er) := M8.out.at_ 2 _ rfl
  have n3 : (w7.setCell ⟨px, 4, none⟩ (.int .i64 v)).cell? ⟨px, 3, none⟩ = some (.int .i64 y) := M8.out.at_ 3 _ rfl
  have n4 : (w7.setCell ⟨px, 4, none⟩ (.int .i64 v)).cell? ⟨px, 4, none⟩ = some (.int .i64 v) := M8.out.at_ 4 _ rfl
  have o0 : (w7.setCell ⟨px, 4, none⟩ (.int .i64 v)).cell? ⟨w.heap.size, 0, none⟩ = some (.string ⟨#[]⟩) := L8.out.at_ 0 _ rfl
  have o1 : (w7.setCell ⟨px, 4, none⟩ (.int .i64 v)).cell? ⟨w.heap.size, 1, none⟩ = some (.int .i64 0) := L8.out.at_ 1 _ rfl
  have o2 : (w7.setCell ⟨px, 4, none⟩ (.int .i64 v)).cell? ⟨w.heap.size, 2, none⟩ = some (.int .i64 0) := L8.out.at_ 2 _ rfl
  have o3 : (w7.setCell ⟨px, 4, none⟩ (.int .i64 v)).cell? ⟨w.heap.size, 3, none⟩ = some (.int .i64 0) := L8.out.at_ 3 _ rfl
  have o4 : (w7.setCell ⟨px, 4, none⟩ (.int .i64 v)).cell? ⟨w.heap.size, 4, none⟩ = some (.int .i64 0) := L8.out.at_ 4 _ rfl
  have e0 := L8.out.fz 0
  have e1 := L8.out.fz 1
  have e2 := L8.out.fz 2
  have e3 := L8.out.fz 3
  have e4 := L8.out.fz 4
  have HZ := Lib.hid (L8.out.set5 rfl (.string id) (.int .i64 x) (.int .i64 er) (.int .i64 y) (.int .i64 v))
  have DZ := Lib.hid (((((D8.out.setD (x := w.heap.size) (j := 0) (v := .string id) (by omega) hsz).setD (x := w.heap.size) (j := 1) (v := .int .i64 x) (by omega) hsz).setD (x := w.heap.size) (j := 2) (v := .int .i64 er) (by omega) hsz).setD (x := w.heap.size) (j := 3) (v := .int .i64 y) (by omega) hsz).setD (x := w.heap.size) (j := 4) (v := .int .i64 v) (by omega) hsz)
  have TZ := Lib.hid (touch_setNew (x := w.heap.size) (j := 4) (v := .int .i64 v) (touch_setNew (x := w.heap.size) (j := 3) (v := .int .i64 y) (touch_setNew (x := w.heap.size) (j := 2) (v := .int .i64 er) (touch_setNew (x := w.heap.size) (j := 1) (v := .int .i64 x) (touch_setNew (x := w.heap.size) (j := 0) (v := .string id) T8.out (Nat.le_refl _)) (Nat.le_refl _)) (Nat.le_refl _)) (Nat.le_refl _)) (Nat.le_refl _))
  clear M8 L8 D8 T8
  go_wp2_with fail
  generalize (((((w7.setCell ⟨px, 4, none⟩ (.int .i64 v)).setCell ⟨w.heap.size, 0, none⟩ (.string id)).setCell ⟨w.heap.size, 1, none⟩ (.int .i64 x)).setCell ⟨w.heap.size, 2, none⟩ (.int .i64 er)).setCell ⟨w.heap.size, 3, none⟩ (.int .i64 y)).setCell ⟨w.heap.size, 4, none⟩ (.int .i64 v) = w9 at *
  have q0 : w9.cell? ⟨w.heap.size, 0, none⟩ = some (.string id) := HZ.out.at_ 0 _ rfl
  have q1 : w9.cell? ⟨w.heap.size, 1, none⟩ = some (.int .i64 x) := HZ.out.at_ 1 _ rfl
  have q2 : w9.cell? ⟨w.heap.size, 2, none⟩ = some (.int .i64 er) := HZ.out.at_ 2 _ rfl
  have q3 : w9.cell? ⟨w.heap.size, 3, none⟩ = some (.int .i64 y) := HZ.out.at_ 3 _ rfl
  have q4 : w9.cell? ⟨w.heap.size, 4, none⟩ = some (.int .i64 v) := HZ.out.at_ 4 _ rfl
  refine bodyPost_ret (v := .agg #[.string id, .int .i64 x, .int .i64 er, .int .i64 y, .int .i64 v]) (by simp [results, Tryz.results43, go_sem, q0, q1, q2, q3, q4]) rfl ⟨x, er, y, v, rfl, ?_, DZ.out.more (by omega), TZ.out⟩
  unfold BoundC
  simp only
  omega
end Go.Proofs.YtickepianllblaaGreatDoor
