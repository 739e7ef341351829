/- The reference's draws of a helper and of a task; one of some texts. -/
import Derived.Test.YtcacmiafmanniaaDn
import Derived.Test.YtcacmiafmanniaaGHelper
import Derived.Test.YtcacmiafmanniaaGTask
namespace Go.Proofs.Ytcacmiafmanniaa
open Go.RowKit
set_option maxRecDepth 100000
set_option linter.unusedVariables false
set_option linter.unusedSimpArgs false

theorem text_any {b B n c k : Nat} {A A2 : Option Addr} {zs : List Int} {ys : List ByteArray} {n2 c2 B2 : Nat} {w : World} (h : Src w b A n c k) (hr : Bytz w B A n zs) (hB : B ≤ b) (hn : n ≤ 140737488351232) (hk : k ≤ 1000000)
    (h2 : Reads w B2 1 A2 n2 (ys.map Value.string)) (hn2 : n2 ≤ 1048576) (h0 : 0 < n2) (hB2 : B2 ≤ w.heap.size) (hne : ∀ a, A2 = some a → a.block ≠ b) :
    Calls Try.prog 36 #[.pointer (some ⟨b, 0, none⟩), .slice A2 n2 c2] w fun e w' => ∃ x : ByteArray, e = .returned (.string x) ∧ x ∈ ys ∧ Src w' b A n c (k + 2) ∧ Touch w w' (some ⟨b, 0, none⟩) := by
  have H := Lib.hid h
  have Hr := Lib.hid hr
  have H2 := Lib.hid h2
  have Hl : Hid (ys.length = n2) := Lib.hid (by have := h2.1; rw [List.length_map] at this; omega)
  clear h hr h2
  go_enter Try.func36, Try.ntmps36
  go_wp2_with fail
  refine (pick_any (m := (n2 : Int)) H.out Hr.out hB hn hk).mono ?_
  rintro e w1 ⟨x, rfl, g0, g1, _, s1, t1⟩
  have x2 : x < (n2 : Int) := by omega
  obtain ⟨X, rfl⟩ := Int.eq_ofNat_of_zero_le g0
  have hX : X < n2 := by omega
  obtain ⟨ad, u, hA, hbl, hu, hc⟩ := Reads.at_ H2.out (k := X) hX
  obtain ⟨y, hy, hm⟩ : ∃ y, u = .string y ∧ y ∈ ys := by
    rw [List.getElem?_map] at hu
    cases hz : ys[X]? with
    | none => rw [hz] at hu; cases hu
    | some z => rw [hz] at hu; exact ⟨z, by simpa using hu.symm, List.mem_of_getElem? hz⟩
  subst hy
  subst hA
  have hc1 : w1.cell? (ad.add X) = some (.string y) := by
    rw [World.cell?_of_block (t1.block (ad.add X).block (by rw [block_of_add]; omega) (fun a e => by injection e with e; subst e; rw [block_of_add]; exact (hne _ rfl).symm))]
    exact hc
  have Hm : Hid (y ∈ ys) := Lib.hid hm
  have Hs1 := Lib.hid s1
  have Ht1 := Lib.hid t1
  clear s1 t1 g1 hc hu hm
  go_wp2_with fail
  go_ret
  exact ⟨y, rfl, Hm.out, Hs1.out, Ht1.out⟩
theorem DS.text3 {B b n c k : Nat} {A : Option Addr} {zs : List Int} {w0 w : World} (h : DS B b A n c zs w0 w k) (hk : k ≤ 1000000) (p q r : ByteArray) (t : TypeId) :
    Calls Try.prog 36 #[.pointer (some ⟨b, 0, none⟩), .slice (some ⟨w.heap.size, 0, none⟩) 3 3] (w.alloc (.cells #[.string p, .string q, .string r] t)) fun e w' => ∃ x : ByteArray, e = .returned (.string x) ∧ x ∈ [p, q, r] ∧ DS B b A n c zs w0 w' (k + 2) ∧ Touch w w' (some ⟨b, 0, none⟩) := by
  have h1 := h.allocD (.cells #[.string p, .string q, .string r] t)
  have hlt := h.lt
  have hT : Reads (w.alloc (.cells #[.string p, .string q, .string r] t)) (w.heap.size + 1) 1 (some ⟨w.heap.size, 0, none⟩) 3 ([p, q, r].map Value.string) :=
    ⟨by simp, fun _ => ⟨⟨w.heap.size, 0, none⟩, rfl, Nat.lt_succ_self _, fun j u hu => by rw [Addr.add_lit, Nat.zero_add]; simpa using hu⟩⟩
  refine (text_any h1.src h1.bz h.hB h.hn hk hT (by omega) (by omega) (sz_succ w _) (fun a e => by injection e with e; subst e; simp only; omega)).mono ?_
  rintro e w' ⟨x, he, hx, s1, t1⟩
  exact ⟨x, he, hx, h1.call s1 t1, (touch_alloc (Touch.refl _ _) _).trans t1⟩
def DrawHl (B b n c k : Nat) (A : Option Addr) (zs : List Int) (w0 : World) (id : ByteArray) (w : World) (e : Ending) (w' : World) : Prop := ∃ r1 r2 : Int, e = .returned (.agg #[.string id, .int .i64 r1, .int .i64 r2]) ∧ DS B b A n c zs w0 w' k ∧ Touch w w' (some ⟨b, 0, none⟩)
set_option maxHeartbeats 2000000 in
theorem l24DrawHelper_any {B b n c k : Nat} {A : Option Addr} {zs : List Int} {w0 w : World} {id : ByteArray} (h : DS B b A n c zs w0 w k) (hk : k ≤ 100000) :
    Calls Try.prog 33 #[.pointer (some ⟨b, 0, none⟩), .string id] w (DrawHl B b n c (k + 4) A zs w0 id w) := by
  have hlt := h.lt
  have hsz := h.sz
  have D1 := Lib.hid (h.allocD (.cells #[.string ByteArray.empty, .int .i64 0, .int .i64 0] 35))
  have L1 := Lib.hid (hc_new w [.string ByteArray.empty, .int .i64 0, .int .i64 0] 35)
  have T1 := Lib.hid (touch_alloc (Touch.refl w (some ⟨b, 0, none⟩)) (.cells #[.string ByteArray.empty, .int .i64 0, .int .i64 0] 35))
  clear h
  go_enter Try.func33, Try.ntmps33
  go_wp2_with fail
  refine (D1.out.pick (by omega) 8).mono ?_
  rintro e w3 ⟨x, rfl, f0, _, f2, d3, t3⟩
  have D3 := Lib.hid d3
  have T3 := Lib.hid (T1.out.trans t3)
  have L3 := Lib.hid (L1.out.touch1 t3 (by omega))
  clear d3 t3 D1 T1 L1
  have hl3 := D3.out.lt
  have hz3 := T3.out.size
  have D4 := Lib.hid (D3.out.allocD (.cells #[.string id, .int .i64 x, .int .i64 0] 35))
  have T4 := Lib.hid (touch_alloc T3.out (.cells #[.string id, .int .i64 x, .int .i64 0] 35))
  have L4 := Lib.hid (L3.out.alloc1 (.cells #[.string id, .int .i64 x, .int .i64 0] 35))
  have M4 := Lib.hid (hc_new w3 [.string id, .int .i64 x, .int .i64 0] 35)
  have hl43 : w.heap.size < w3.heap.size := L3.out.lt
  clear D3 T3 L3
  go_wp2_with fail
  generalize w3.alloc (.cells #[.string id, .int .i64 x, .int .i64 0] 35) = w4 at *
  have hbp : b < w3.heap.size := hl3
  generalize w3.heap.size = px at *
  refine (D4.out.pick (by omega) 12).mono ?_
  rintro e w5 ⟨z, rfl, k0, _, k2, d5, t5⟩
  have qe : IntKind.i64.wrap (5 * z) = 5 * z := IntWalk.i64_in _ (by omega)
  have M5 := Lib.hid (M4.out.touch1 t5 (by omega))
  have L5 := Lib.hid (L4.out.touch1 t5 (by omega))
  have T5 := Lib.hid (T4.out.trans t5)
  have m2 : w5.cell? ⟨px, 2, none⟩ = some (.int .i64 0) := M5.out.at_ 2 _ rfl
  have f2' := M5.out.fz 2
  have M6 : Hid (HC (w5.setCell ⟨px, 2, none⟩ (.int .i64 (5 * z))) px [.string id, .int .i64 x, .int .i64 (5 * z)]) := Lib.hid (M5.out.set (j := 2) (.int .i64 (5 * z)) (by simp))
  have L6 := Lib.hid (L5.out.setNew (j := 2) (v := .int .i64 (5 * z)) hl43)
  have D6 := Lib.hid (d5.setD (j := 2) (v := .int .i64 (5 * z)) hbp (by omega))
  have T6 := Lib.hid (touch_setNew (j := 2) (v := .int .i64 (5 * z)) T5.out (by omega : w.heap.size ≤ px))
  clear d5 t5 D4 T4 L4 M4 M5 L5 T5
  have n0 : (w5.setCell ⟨px, 2, none⟩ (.int .i64 (5 * z))).cell? ⟨px, 0, none⟩ = some (.string id) := M6.out.at_ 0 _ rfl
  have n1 : (w5.setCell ⟨px, 2, none⟩ (.int .i64 (5 * z))).cell? ⟨px, 1, none⟩ = some (.int .i64 x) := M6.out.at_ 1 _ rfl
  have n2 : (w5.setCell ⟨px, 2, none⟩ (.int .i64 (5 * z))).cell? ⟨px, 2, none⟩ = some (.int .i64 (5 * z)) := M6.out.at_ 2 _ rfl
  have o0 : (w5.setCell ⟨px, 2, none⟩ (.int .i64 (5 * z))).cell? ⟨w.heap.size, 0, none⟩ = some (.string ByteArray.empty) := L6.out.at_ 0 _ rfl
  have o1 : (w5.setCell ⟨px, 2, none⟩ (.int .i64 (5 * z))).cell? ⟨w.heap.size, 1, none⟩ = some (.int .i64 0) := L6.out.at_ 1 _ rfl
  have o2 : (w5.setCell ⟨px, 2, none⟩ (.int .i64 (5 * z))).cell? ⟨w.heap.size, 2, none⟩ = some (.int .i64 0) := L6.out.at_ 2 _ rfl
  have e0 := L6.out.fz 0
  have e1 := L6.out.fz 1
  have e2 := L6.out.fz 2
  go_wp2_with fail
  refine bodyPost_ret (v := .agg #[.string id, .int .i64 x, .int .i64 (5 * z)]) (by simp [results, Try.results33, go_sem, o0, o1, o2]) rfl ⟨x, _, rfl, ?_, ?_⟩
  · exact ((D6.out.setD (by omega) hsz).setD (by omega) hsz).setD (by omega) hsz
  · exact touch_setNew (touch_setNew (touch_setNew T6.out (Nat.le_refl _)) (Nat.le_refl _)) (Nat.le_refl _)
set_option maxHeartbeats 2000000 in
theorem l24DrawTask_any {B b n c k : Nat} {A : Option Addr} {zs : List Int} {w0 w : World} {id : ByteArray} (h : DS B b A n c zs w0 w k) (hk : k ≤ 100000) :
    Calls Try.prog 34 #[.pointer (some ⟨b, 0, none⟩), .string id] w (DrawHl B b n c (k + 4) A zs w0 id w) := by
  have hlt := h.lt
  have hsz := h.sz
  have D1 := Lib.hid (h.allocD (.cells #[.string ⟨#[]⟩, .int .i64 0, .int .i64 0] 67))
  have L1 := Lib.hid (hc_new w [.string ⟨#[]⟩, .int .i64 0, .int .i64 0] 67)
  have T1 := Lib.hid (touch_alloc (Touch.refl w (some ⟨b, 0, none⟩)) (.cells #[.string ⟨#[]⟩, .int .i64 0, .int .i64 0] 67))
  have hp1 : (w.alloc (.cells #[.string ⟨#[]⟩, .int .i64 0, .int .i64 0] 67)).heap.size = w.heap.size + 1 := by simp
  clear h
  go_enter Try.func34, Try.ntmps34
  go_wp2_with fail
  generalize w.alloc (.cells #[.string ⟨#[]⟩, .int .i64 0, .int .i64 0] 67) = w2 at *
  rw [← hp1]
  refine (D1.out.among7 (by omega) 0 1 2 4 3 5 6 2).mono ?_
  rintro e w3 ⟨x, rfl, -, d3, t3⟩
  have D3 := Lib.hid d3
  have T3 := Lib.hid (T1.out.trans t3)
  have L3 := Lib.hid (L1.out.touch1 t3 (by omega))
  clear d3 t3 D1 T1 L1
  have hl3 := D3.out.lt
  have hz3 := T3.out.size
  have D4 := Lib.hid (D3.out.allocD (.cells #[.string id, .int .i64 x, .int .i64 0] 67))
  have T4 := Lib.hid (touch_alloc T3.out (.cells #[.string id, .int .i64 x, .int .i64 0] 67))
  have L4 := Lib.hid (L3.out.alloc1 (.cells #[.string id, .int .i64 x, .int .i64 0] 67))
  have M4 := Lib.hid (hc_new w3 [.string id, .int .i64 x, .int .i64 0] 67)
  have hl43 : w.heap.size < w3.heap.size := L3.out.lt
  clear D3 T3 L3
  go_wp2_with fail
  generalize w3.alloc (.cells #[.string id, .int .i64 x, .int .i64 0] 67) = w4 at *
  have hbp : b < w3.heap.size := hl3
  generalize w3.heap.size = px at *
  refine (D4.out.pick (by omega) 12).mono ?_
  rintro e w5 ⟨z, rfl, k0, _, k2, d5, t5⟩
  have qd : IntKind.i64.wrap (5 * z) = 5 * z := IntWalk.i64_in _ (by omega)
  have qe : IntKind.i64.wrap (10 + 5 * z) = 10 + 5 * z := IntWalk.i64_in _ (by omega)
  have M5 := Lib.hid (M4.out.touch1 t5 (by omega))
  have L5 := Lib.hid (L4.out.touch1 t5 (by omega))
  have T5 := Lib.hid (T4.out.trans t5)
  have m2 : w5.cell? ⟨px, 2, none⟩ = some (.int .i64 0) := M5.out.at_ 2 _ rfl
  have f2' := M5.out.fz 2
  have M6 : Hid (HC (w5.setCell ⟨px, 2, none⟩ (.int .i64 (10 + 5 * z))) px [.string id, .int .i64 x, .int .i64 (10 + 5 * z)]) := Lib.hid (M5.out.set (j := 2) (.int .i64 (10 + 5 * z)) (by simp))
  have L6 := Lib.hid (L5.out.setNew (j := 2) (v := .int .i64 (10 + 5 * z)) hl43)
  have D6 := Lib.hid (d5.setD (j := 2) (v := .int .i64 (10 + 5 * z)) hbp (by omega))
  have T6 := Lib.hid (touch_setNew (j := 2) (v := .int .i64 (10 + 5 * z)) T5.out (by omega : w.heap.size ≤ px))
  clear d5 t5 D4 T4 L4 M4 M5 L5 T5
  have n0 : (w5.setCell ⟨px, 2, none⟩ (.int .i64 (10 + 5 * z))).cell? ⟨px, 0, none⟩ = some (.string id) := M6.out.at_ 0 _ rfl
  have n1 : (w5.setCell ⟨px, 2, none⟩ (.int .i64 (10 + 5 * z))).cell? ⟨px, 1, none⟩ = some (.int .i64 x) := M6.out.at_ 1 _ rfl
  have n2 : (w5.setCell ⟨px, 2, none⟩ (.int .i64 (10 + 5 * z))).cell? ⟨px, 2, none⟩ = some (.int .i64 (10 + 5 * z)) := M6.out.at_ 2 _ rfl
  have o0 : (w5.setCell ⟨px, 2, none⟩ (.int .i64 (10 + 5 * z))).cell? ⟨w.heap.size, 0, none⟩ = some (.string ⟨#[]⟩) := L6.out.at_ 0 _ rfl
  have o1 : (w5.setCell ⟨px, 2, none⟩ (.int .i64 (10 + 5 * z))).cell? ⟨w.heap.size, 1, none⟩ = some (.int .i64 0) := L6.out.at_ 1 _ rfl
  have o2 : (w5.setCell ⟨px, 2, none⟩ (.int .i64 (10 + 5 * z))).cell? ⟨w.heap.size, 2, none⟩ = some (.int .i64 0) := L6.out.at_ 2 _ rfl
  have e0 := L6.out.fz 0
  have e1 := L6.out.fz 1
  have e2 := L6.out.fz 2
  go_wp2_with fail
  refine bodyPost_ret (v := .agg #[.string id, .int .i64 x, .int .i64 (10 + 5 * z)]) (by simp [results, Try.results34, go_sem, o0, o1, o2]) rfl ⟨x, _, rfl, ?_, ?_⟩
  · exact ((D6.out.setD (by omega) hsz).setD (by omega) hsz).setD (by omega) hsz
  · exact touch_setNew (touch_setNew (touch_setNew T6.out (Nat.le_refl _)) (Nat.le_refl _)) (Nat.le_refl _)
end Go.Proofs.Ytcacmiafmanniaa
