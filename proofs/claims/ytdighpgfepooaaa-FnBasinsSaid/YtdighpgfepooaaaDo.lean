/- The reference's draws of the law of ballast that begin with a basin. -/
import Derived.Test.YtdighpgfepooaaaDn
namespace Go.Proofs.Ytdighpgfepooaaa
open Go.RowKit
set_option maxRecDepth 100000
set_option linter.unusedVariables false
set_option linter.unusedSimpArgs false

def DrawSA2 (w : World) (e : Ending) (w' : World) : Prop := ∃ (r0 r1 r2 r3 : Int) (A2 : Option Addr) (c2 : Nat) (xs : List Int) (x : Int), e = .returned (.tuple #[.agg #[.int .i64 r0, .int .i64 r1, .int .i64 r2, .int .i64 r3], .slice A2 xs.length c2, .int .i64 x]) ∧ xs.length ≤ 62 ∧ Own w' w.heap.size 2 1 A2 xs.length c2 (xs.map (Value.int .i64)) ∧ Below w.heap.size w w'
set_option maxHeartbeats 4000000 in
theorem drawStoreAfter_any {n c : Nat} {A : Option Addr} {zs : List Int} {w : World} (hr : Bytz w w.heap.size A n zs) (hn : n ≤ 1048576) :
    Calls Try.prog 5 #[.slice A n c] w (DrawSA2 w) := by
  have L0 := Lib.hid (hc_new w [.int .i64 0, .int .i64 0, .int .i64 0, .int .i64 0] 25)
  have B0 : Hid (Below w.heap.size w (w.alloc (.cells #[.int .i64 0, .int .i64 0, .int .i64 0, .int .i64 0] 25))) := Lib.hid ((Below.refl _ _).alloc (Nat.le_refl _) _)
  have Hr := Lib.hid hr
  clear hr
  go_enter Try.func5, Try.ntmps5
  go_wp2_with fail
  have hs1 : w.heap.size < (w.alloc (.cells #[.int .i64 0, .int .i64 0, .int .i64 0, .int .i64 0] 25)).heap.size := L0.out.lt
  generalize w.alloc (.cells #[.int .i64 0, .int .i64 0, .int .i64 0, .int .i64 0] 25) = v0 at *
  refine (from_any (n := n) (c := c) (A := A) (w := v0)).mono ?_
  rintro e v1 ⟨rfl, s1, b1⟩
  have hb1 := B0.out.trans (b1.mono (Nat.le_of_lt hs1))
  have D1 := Lib.hid (DS.mk0 s1 (Bytz.below Hr.out hb1 (Nat.le_refl _)) (Nat.le_of_lt hs1) (by omega))
  have L1 := Lib.hid (L0.out.below b1 hs1)
  have HB1 := Lib.hid hb1
  clear s1 b1 hb1 L0 B0 Hr
  generalize v0.heap.size = sb at *
  have hlt1 := D1.out.lt
  go_wp2_with fail
  refine (l16Draw_any D1.out (by omega)).mono ?_
  rintro e v2 ⟨r0, r1, r2, r3, rfl, d2, t2⟩
  have L2 := Lib.hid (L1.out.touch1 t2 (by omega))
  have hlt2 := d2.lt
  have hsz2 := t2.size
  have D3 := Lib.hid (d2.allocD (.cells #[.int .i64 r0, .int .i64 r1, .int .i64 r2, .int .i64 r3] 25))
  have T3 := Lib.hid (touch_alloc t2 (.cells #[.int .i64 r0, .int .i64 r1, .int .i64 r2, .int .i64 r3] 25))
  have L3 := Lib.hid (L2.out.alloc1 (.cells #[.int .i64 r0, .int .i64 r1, .int .i64 r2, .int .i64 r3] 25))
  have M3 := Lib.hid (hc_new v2 [.int .i64 r0, .int .i64 r1, .int .i64 r2, .int .i64 r3] 25)
  clear d2 t2 D1 L1 L2
  go_wp2_with fail
  generalize v2.alloc (.cells #[.int .i64 r0, .int .i64 r1, .int .i64 r2, .int .i64 r3] 25) = v3 at *
  have hlp : sb < v2.heap.size := hlt2
  generalize v2.heap.size = px at *
  refine (l16DrawWaters_any D3.out (by omega)).mono ?_
  rintro e v4 ⟨A2, c2, xs, rfl, hx, o4, d4, t4⟩
  have hsz3 : v1.heap.size ≤ v3.heap.size := T3.out.size
  have hwv3 : w.heap.size ≤ v3.heap.size := by have := HB1.out.size; omega
  have L4 := Lib.hid (L3.out.touch1 t4 (by omega))
  have M4 := Lib.hid (M3.out.touch1 t4 (by omega))
  have O4 := Lib.hid (o4.mono hwv3)
  have D4 := Lib.hid d4
  have T4 := Lib.hid (T3.out.trans t4)
  have hOx : Hid (∀ a, A2 = some a → v3.heap.size ≤ a.block) := Lib.hid (fun a ha => (o4.block_lt a ha).2.2.1)
  have hpx : px < v3.heap.size := M3.out.lt
  have hlt4 := d4.lt
  clear o4 d4 t4 D3 T3 L3 M3
  have HW : Hid (Calls Try.prog 22 #[.pointer (some ⟨sb, 0, none⟩)] v4.drew (DrawI w.heap.size sb n c 90 A zs v1 v4)) := Lib.hid
    ((l16DrawGap_any (D4.out.drewD 1) (by omega)).mono fun e w' ⟨x, he, d, t⟩ => ⟨x, he, d.more (by omega), ⟨t.os, t.tape, t.output, t.size, t.block⟩⟩)
  have K4 : v4.drew.cell? ⟨px, 0, none⟩ = some (.int .i64 r0) ∧ v4.drew.cell? ⟨px, 1, none⟩ = some (.int .i64 r1) ∧ v4.drew.cell? ⟨px, 2, none⟩ = some (.int .i64 r2) ∧ v4.drew.cell? ⟨px, 3, none⟩ = some (.int .i64 r3) :=
    ⟨M4.out.at_ 0 _ rfl, M4.out.at_ 1 _ rfl, M4.out.at_ 2 _ rfl, M4.out.at_ 3 _ rfl⟩
  have HK5 : Hid (∀ w5, Touch v4 w5 (some ⟨sb, 0, none⟩) → (w5.cell? ⟨px, 0, none⟩ = some (.int .i64 r0) ∧ w5.cell? ⟨px, 1, none⟩ = some (.int .i64 r1) ∧ w5.cell? ⟨px, 2, none⟩ = some (.int .i64 r2) ∧ w5.cell? ⟨px, 3, none⟩ = some (.int .i64 r3)) ∧ (((((w5.setCell ⟨w.heap.size, 0, none⟩ (.int .i64 r0)).setCell ⟨w.heap.size, 1, none⟩ (.int .i64 r1)).setCell ⟨w.heap.size, 2, none⟩ (.int .i64 r2)).setCell ⟨w.heap.size, 3, none⟩ (.int .i64 r3)).cell? ⟨px, 0, none⟩ = some (.int .i64 r0) ∧ ((((w5.setCell ⟨w.heap.size, 0, none⟩ (.int .i64 r0)).setCell ⟨w.heap.size, 1, none⟩ (.int .i64 r1)).setCell ⟨w.heap.size, 2, none⟩ (.int .i64 r2)).setCell ⟨w.heap.size, 3, none⟩ (.int .i64 r3)).cell? ⟨px, 1, none⟩ = some (.int .i64 r1) ∧ ((((w5.setCell ⟨w.heap.size, 0, none⟩ (.int .i64 r0)).setCell ⟨w.heap.size, 1, none⟩ (.int .i64 r1)).setCell ⟨w.heap.size, 2, none⟩ (.int .i64 r2)).setCell ⟨w.heap.size, 3, none⟩ (.int .i64 r3)).cell? ⟨px, 2, none⟩ = some (.int .i64 r2) ∧ ((((w5.setCell ⟨w.heap.size, 0, none⟩ (.int .i64 r0)).setCell ⟨w.heap.size, 1, none⟩ (.int .i64 r1)).setCell ⟨w.heap.size, 2, none⟩ (.int .i64 r2)).setCell ⟨w.heap.size, 3, none⟩ (.int .i64 r3)).cell? ⟨px, 3, none⟩ = some (.int .i64 r3)) ∧ HC w5 w.heap.size [.int .i64 0, .int .i64 0, .int .i64 0, .int .i64 0]) := Lib.hid (fun w5 t => by
    have m := M4.out.touch1 t (by omega)
    have hpw : px ≠ w.heap.size := by omega
    have m4 := (((m.touch2 (Touch2.of_set _ w.heap.size 0 (.int .i64 r0) none) hpw (fun a e => by cases e)).touch2 (Touch2.of_set _ w.heap.size 1 (.int .i64 r1) none) hpw (fun a e => by cases e)).touch2 (Touch2.of_set _ w.heap.size 2 (.int .i64 r2) none) hpw (fun a e => by cases e)).touch2 (Touch2.of_set _ w.heap.size 3 (.int .i64 r3) none) hpw (fun a e => by cases e)
    exact ⟨⟨m.at_ 0 _ rfl, m.at_ 1 _ rfl, m.at_ 2 _ rfl, m.at_ 3 _ rfl⟩, ⟨m4.at_ 0 _ rfl, m4.at_ 1 _ rfl, m4.at_ 2 _ rfl, m4.at_ 3 _ rfl⟩, L4.out.touch1 t (by omega)⟩)
  have HEnd : Hid (∀ (w5 : World) (x : Int), Touch v4 w5 (some ⟨sb, 0, none⟩) → DrawSA2 w (.returned (.tuple #[.agg #[.int .i64 r0, .int .i64 r1, .int .i64 r2, .int .i64 r3], .slice A2 xs.length c2, .int .i64 x])) ((((w5.setCell ⟨w.heap.size, 0, none⟩ (.int .i64 r0)).setCell ⟨w.heap.size, 1, none⟩ (.int .i64 r1)).setCell ⟨w.heap.size, 2, none⟩ (.int .i64 r2)).setCell ⟨w.heap.size, 3, none⟩ (.int .i64 r3))) := Lib.hid (fun w5 x t => by
    have t5 : Touch v1 w5 (some ⟨sb, 0, none⟩) := T4.out.trans t
    have bb : Below w.heap.size w w5 := HB1.out.trans ((t5.bel (Nat.le_of_lt hlt1)).mono (by omega))
    have ob : ∀ (W : World) (j : Nat) (v : Value), Own W w.heap.size 2 1 A2 xs.length c2 (xs.map (Value.int .i64)) → Own (W.setCell ⟨w.heap.size, j, none⟩ v) w.heap.size 2 1 A2 xs.length c2 (xs.map (Value.int .i64)) := fun W j v h =>
      h.touch (touch_setM W w.heap.size j v) (by intro a a' e e'; injection e with e; subst e; have := hOx.out a' e'; simp only; omega)
    have bs : ∀ (W : World) (j : Nat) (v : Value), Below w.heap.size w W → Below w.heap.size w (W.setCell ⟨w.heap.size, j, none⟩ v) := fun W j v h => h.setCell (p := ⟨w.heap.size, j, none⟩) (Nat.le_refl _) v
    exact ⟨r0, r1, r2, r3, A2, c2, xs, x, rfl, hx, ob _ _ _ (ob _ _ _ (ob _ _ _ (ob _ _ _ (O4.out.touch t (by intro a a' e e'; injection e with e; subst e; have := hOx.out a' e'; simp only; omega))))), bs _ _ _ (bs _ _ _ (bs _ _ _ (bs _ _ _ bb)))⟩)
  clear D4 M4 L4 O4 T4
  generalize xs.length = ln at *
  go_wp2_with fail
  go_region_held3 (fun W => W.cell? ⟨px, 0, none⟩ = some (.int .i64 r0) ∧ W.cell? ⟨px, 1, none⟩ = some (.int .i64 r1) ∧ W.cell? ⟨px, 2, none⟩ = some (.int .i64 r2) ∧ W.cell? ⟨px, 3, none⟩ = some (.int .i64 r3))
    ((first | with_reducible exact K4 | with_reducible exact K5 | with_reducible exact K6))
    ((first
      | (go_at_call 22; refine HW.out.mono ?_; rintro e w5 ⟨x, rfl, d5, t5⟩; obtain ⟨K5, K6, L5⟩ := HK5.out w5 t5; have o0 := L5.at_ 0 _ rfl; have o1 := L5.at_ 1 _ rfl; have o2 := L5.at_ 2 _ rfl; have o3 := L5.at_ 3 _ rfl; have e0 := L5.fz 0; have e1 := L5.fz 1; have e2 := L5.fz 2; have e3 := L5.fz 3; have HE := Lib.hid (HEnd.out w5 x t5); clear d5 t5 L5)
      | fail))
  all_goals
    go_wp2_with fail
    exact bodyPost_ret (v := .tuple #[.agg #[.int .i64 r0, .int .i64 r1, .int .i64 r2, .int .i64 r3], .slice A2 ln c2, .int .i64 x]) (by simp [results, Try.results5, go_sem, o0, o1, o2, o3]) rfl HE.out
def DrawTD (w : World) (e : Ending) (w' : World) : Prop := ∃ (r0 r1 r2 r3 z x : Int), e = .returned (.tuple #[.agg #[.int .i64 r0, .int .i64 r1, .int .i64 r2, .int .i64 r3], .int .i64 z, .int .i64 x]) ∧ Below w.heap.size w w'
set_option maxHeartbeats 4000000 in
theorem drawTripsUntilDry_any {n c : Nat} {A : Option Addr} {zs : List Int} {w : World} (hr : Bytz w w.heap.size A n zs) (hn : n ≤ 1048576) :
    Calls Try.prog 14 #[.slice A n c] w (DrawTD w) := by
  have L0 := Lib.hid (hc_new w [.int .i64 0, .int .i64 0, .int .i64 0, .int .i64 0] 25)
  have B0 : Hid (Below w.heap.size w (w.alloc (.cells #[.int .i64 0, .int .i64 0, .int .i64 0, .int .i64 0] 25))) := Lib.hid ((Below.refl _ _).alloc (Nat.le_refl _) _)
  have Hr := Lib.hid hr
  clear hr
  go_enter Try.func14, Try.ntmps14
  go_wp2_with fail
  have hs1 : w.heap.size < (w.alloc (.cells #[.int .i64 0, .int .i64 0, .int .i64 0, .int .i64 0] 25)).heap.size := L0.out.lt
  generalize w.alloc (.cells #[.int .i64 0, .int .i64 0, .int .i64 0, .int .i64 0] 25) = v0 at *
  refine (from_any (n := n) (c := c) (A := A) (w := v0)).mono ?_
  rintro e v1 ⟨rfl, s1, b1⟩
  have hb1 := B0.out.trans (b1.mono (Nat.le_of_lt hs1))
  have D1 := Lib.hid (DS.mk0 s1 (Bytz.below Hr.out hb1 (Nat.le_refl _)) (Nat.le_of_lt hs1) (by omega))
  have L1 := Lib.hid (L0.out.below b1 hs1)
  have HB1 := Lib.hid hb1
  clear s1 b1 hb1 L0 B0 Hr
  generalize v0.heap.size = sb at *
  have hlt1 := D1.out.lt
  go_wp2_with fail
  refine (l16Draw_any D1.out (by omega)).mono ?_
  rintro e v2 ⟨r0, r1, r2, r3, rfl, d2, t2⟩
  have L2 := Lib.hid (L1.out.touch1 t2 (by omega))
  have hlt2 := d2.lt
  have hsz2 := t2.size
  have D3 := Lib.hid (d2.allocD (.cells #[.int .i64 r0, .int .i64 r1, .int .i64 r2, .int .i64 r3] 25))
  have T3 := Lib.hid (touch_alloc t2 (.cells #[.int .i64 r0, .int .i64 r1, .int .i64 r2, .int .i64 r3] 25))
  have L3 := Lib.hid (L2.out.alloc1 (.cells #[.int .i64 r0, .int .i64 r1, .int .i64 r2, .int .i64 r3] 25))
  have M3 := Lib.hid (hc_new v2 [.int .i64 r0, .int .i64 r1, .int .i64 r2, .int .i64 r3] 25)
  clear d2 t2 D1 L1 L2
  have hp1 : (v2.alloc (.cells #[.int .i64 r0, .int .i64 r1, .int .i64 r2, .int .i64 r3] 25)).heap.size = v2.heap.size + 1 := by simp
  go_wp2_with fail
  generalize v2.alloc (.cells #[.int .i64 r0, .int .i64 r1, .int .i64 r2, .int .i64 r3] 25) = v3 at *
  have hlp : sb < v2.heap.size := hlt2
  generalize v2.heap.size = px at *
  rw [← hp1]
  refine (D3.out.among8 (by omega) 0 1 500 2500 6000 20000 20001 (-1) 2).mono ?_
  rintro e v4 ⟨z, rfl, -, d4, t4⟩
  have hsz3 : v1.heap.size ≤ v3.heap.size := T3.out.size
  have hwv3 : w.heap.size ≤ v3.heap.size := by have := HB1.out.size; omega
  have L4 := Lib.hid (L3.out.touch1 t4 (by omega))
  have M4 := Lib.hid (M3.out.touch1 t4 (by omega))
  have D4 := Lib.hid d4
  have T4 := Lib.hid (T3.out.trans t4)
  have hpx : px < v3.heap.size := M3.out.lt
  have hlt4 := d4.lt
  clear d4 t4 D3 T3 L3 M3
  have HW : Hid (Calls Try.prog 22 #[.pointer (some ⟨sb, 0, none⟩)] v4.drew (DrawI w.heap.size sb n c 90 A zs v1 v4)) := Lib.hid
    ((l16DrawGap_any (D4.out.drewD 1) (by omega)).mono fun e w' ⟨x, he, d, t⟩ => ⟨x, he, d.more (by omega), ⟨t.os, t.tape, t.output, t.size, t.block⟩⟩)
  have K4 : v4.drew.cell? ⟨px, 0, none⟩ = some (.int .i64 r0) ∧ v4.drew.cell? ⟨px, 1, none⟩ = some (.int .i64 r1) ∧ v4.drew.cell? ⟨px, 2, none⟩ = some (.int .i64 r2) ∧ v4.drew.cell? ⟨px, 3, none⟩ = some (.int .i64 r3) :=
    ⟨M4.out.at_ 0 _ rfl, M4.out.at_ 1 _ rfl, M4.out.at_ 2 _ rfl, M4.out.at_ 3 _ rfl⟩
  have HK5 : Hid (∀ w5, Touch v4 w5 (some ⟨sb, 0, none⟩) → (w5.cell? ⟨px, 0, none⟩ = some (.int .i64 r0) ∧ w5.cell? ⟨px, 1, none⟩ = some (.int .i64 r1) ∧ w5.cell? ⟨px, 2, none⟩ = some (.int .i64 r2) ∧ w5.cell? ⟨px, 3, none⟩ = some (.int .i64 r3)) ∧ (((((w5.setCell ⟨w.heap.size, 0, none⟩ (.int .i64 r0)).setCell ⟨w.heap.size, 1, none⟩ (.int .i64 r1)).setCell ⟨w.heap.size, 2, none⟩ (.int .i64 r2)).setCell ⟨w.heap.size, 3, none⟩ (.int .i64 r3)).cell? ⟨px, 0, none⟩ = some (.int .i64 r0) ∧ ((((w5.setCell ⟨w.heap.size, 0, none⟩ (.int .i64 r0)).setCell ⟨w.heap.size, 1, none⟩ (.int .i64 r1)).setCell ⟨w.heap.size, 2, none⟩ (.int .i64 r2)).setCell ⟨w.heap.size, 3, none⟩ (.int .i64 r3)).cell? ⟨px, 1, none⟩ = some (.int .i64 r1) ∧ ((((w5.setCell ⟨w.heap.size, 0, none⟩ (.int .i64 r0)).setCell ⟨w.heap.size, 1, none⟩ (.int .i64 r1)).setCell ⟨w.heap.size, 2, none⟩ (.int .i64 r2)).setCell ⟨w.heap.size, 3, none⟩ (.int .i64 r3)).cell? ⟨px, 2, none⟩ = some (.int .i64 r2) ∧ ((((w5.setCell ⟨w.heap.size, 0, none⟩ (.int .i64 r0)).setCell ⟨w.heap.size, 1, none⟩ (.int .i64 r1)).setCell ⟨w.heap.size, 2, none⟩ (.int .i64 r2)).setCell ⟨w.heap.size, 3, none⟩ (.int .i64 r3)).cell? ⟨px, 3, none⟩ = some (.int .i64 r3)) ∧ HC w5 w.heap.size [.int .i64 0, .int .i64 0, .int .i64 0, .int .i64 0]) := Lib.hid (fun w5 t => by
    have m := M4.out.touch1 t (by omega)
    have hpw : px ≠ w.heap.size := by omega
    have m4 := (((m.touch2 (Touch2.of_set _ w.heap.size 0 (.int .i64 r0) none) hpw (fun a e => by cases e)).touch2 (Touch2.of_set _ w.heap.size 1 (.int .i64 r1) none) hpw (fun a e => by cases e)).touch2 (Touch2.of_set _ w.heap.size 2 (.int .i64 r2) none) hpw (fun a e => by cases e)).touch2 (Touch2.of_set _ w.heap.size 3 (.int .i64 r3) none) hpw (fun a e => by cases e)
    exact ⟨⟨m.at_ 0 _ rfl, m.at_ 1 _ rfl, m.at_ 2 _ rfl, m.at_ 3 _ rfl⟩, ⟨m4.at_ 0 _ rfl, m4.at_ 1 _ rfl, m4.at_ 2 _ rfl, m4.at_ 3 _ rfl⟩, L4.out.touch1 t (by omega)⟩)
  have HEnd : Hid (∀ (w5 : World) (x : Int), Touch v4 w5 (some ⟨sb, 0, none⟩) → DrawTD w (.returned (.tuple #[.agg #[.int .i64 r0, .int .i64 r1, .int .i64 r2, .int .i64 r3], .int .i64 z, .int .i64 x])) ((((w5.setCell ⟨w.heap.size, 0, none⟩ (.int .i64 r0)).setCell ⟨w.heap.size, 1, none⟩ (.int .i64 r1)).setCell ⟨w.heap.size, 2, none⟩ (.int .i64 r2)).setCell ⟨w.heap.size, 3, none⟩ (.int .i64 r3))) := Lib.hid (fun w5 x t => by
    have t5 : Touch v1 w5 (some ⟨sb, 0, none⟩) := T4.out.trans t
    have bb : Below w.heap.size w w5 := HB1.out.trans ((t5.bel (Nat.le_of_lt hlt1)).mono (by omega))
    have bs : ∀ (W : World) (j : Nat) (v : Value), Below w.heap.size w W → Below w.heap.size w (W.setCell ⟨w.heap.size, j, none⟩ v) := fun W j v h => h.setCell (p := ⟨w.heap.size, j, none⟩) (Nat.le_refl _) v
    exact ⟨r0, r1, r2, r3, z, x, rfl, bs _ _ _ (bs _ _ _ (bs _ _ _ (bs _ _ _ bb)))⟩)
  clear D4 M4 L4 T4
  go_wp2_with fail
  go_region_held3 (fun W => W.cell? ⟨px, 0, none⟩ = some (.int .i64 r0) ∧ W.cell? ⟨px, 1, none⟩ = some (.int .i64 r1) ∧ W.cell? ⟨px, 2, none⟩ = some (.int .i64 r2) ∧ W.cell? ⟨px, 3, none⟩ = some (.int .i64 r3))
    ((first | with_reducible exact K4 | with_reducible exact K5 | with_reducible exact K6))
    ((first
      | (go_at_call 22; refine HW.out.mono ?_; rintro e w5 ⟨x, rfl, d5, t5⟩; obtain ⟨K5, K6, L5⟩ := HK5.out w5 t5; have o0 := L5.at_ 0 _ rfl; have o1 := L5.at_ 1 _ rfl; have o2 := L5.at_ 2 _ rfl; have o3 := L5.at_ 3 _ rfl; have e0 := L5.fz 0; have e1 := L5.fz 1; have e2 := L5.fz 2; have e3 := L5.fz 3; have HE := Lib.hid (HEnd.out w5 x t5); clear d5 t5 L5)
      | fail))
  all_goals
    go_wp2_with fail
    exact bodyPost_ret (v := .tuple #[.agg #[.int .i64 r0, .int .i64 r1, .int .i64 r2, .int .i64 r3], .int .i64 z, .int .i64 x]) (by simp [results, Try.results14, go_sem, o0, o1, o2, o3]) rfl HE.out
def DrawGF (w : World) (e : Ending) (w' : World) : Prop := ∃ (r0 r1 r2 r3 : Int) (A2 : Option Addr) (c2 : Nat) (xs : List Int), e = .returned (.tuple #[.agg #[.int .i64 r0, .int .i64 r1, .int .i64 r2, .int .i64 r3], .slice A2 xs.length c2]) ∧ xs.length ≤ 62 ∧ Own w' w.heap.size 2 1 A2 xs.length c2 (xs.map (Value.int .i64)) ∧ Below w.heap.size w w'
set_option maxHeartbeats 4000000 in
theorem drawGapFor_any {n c : Nat} {A : Option Addr} {zs : List Int} {w : World} (hr : Bytz w w.heap.size A n zs) (hn : n ≤ 1048576) :
    Calls Try.prog 7 #[.slice A n c] w (DrawGF w) := by
  have L0 := Lib.hid (hc_new w [.int .i64 0, .int .i64 0, .int .i64 0, .int .i64 0] 25)
  have B0 : Hid (Below w.heap.size w (w.alloc (.cells #[.int .i64 0, .int .i64 0, .int .i64 0, .int .i64 0] 25))) := Lib.hid ((Below.refl _ _).alloc (Nat.le_refl _) _)
  have Hr := Lib.hid hr
  clear hr
  go_enter Try.func7, Try.ntmps7
  go_wp2_with fail
  have hs1 : w.heap.size < (w.alloc (.cells #[.int .i64 0, .int .i64 0, .int .i64 0, .int .i64 0] 25)).heap.size := L0.out.lt
  generalize w.alloc (.cells #[.int .i64 0, .int .i64 0, .int .i64 0, .int .i64 0] 25) = v0 at *
  refine (from_any (n := n) (c := c) (A := A) (w := v0)).mono ?_
  rintro e v1 ⟨rfl, s1, b1⟩
  have hb1 := B0.out.trans (b1.mono (Nat.le_of_lt hs1))
  have D1 := Lib.hid (DS.mk0 s1 (Bytz.below Hr.out hb1 (Nat.le_refl _)) (Nat.le_of_lt hs1) (by omega))
  have L1 := Lib.hid (L0.out.below b1 hs1)
  have HB1 := Lib.hid hb1
  clear s1 b1 hb1 L0 B0 Hr
  generalize v0.heap.size = sb at *
  have hlt1 := D1.out.lt
  go_wp2_with fail
  refine (l16Draw_any D1.out (by omega)).mono ?_
  rintro e v2 ⟨r0, r1, r2, r3, rfl, d2, t2⟩
  have L2 := Lib.hid (L1.out.touch1 t2 (by omega))
  have hlt2 := d2.lt
  have hsz2 := t2.size
  have D3 := Lib.hid (d2.allocD (.cells #[.int .i64 r0, .int .i64 r1, .int .i64 r2, .int .i64 r3] 25))
  have T3 := Lib.hid (touch_alloc t2 (.cells #[.int .i64 r0, .int .i64 r1, .int .i64 r2, .int .i64 r3] 25))
  have L3 := Lib.hid (L2.out.alloc1 (.cells #[.int .i64 r0, .int .i64 r1, .int .i64 r2, .int .i64 r3] 25))
  have M3 := Lib.hid (hc_new v2 [.int .i64 r0, .int .i64 r1, .int .i64 r2, .int .i64 r3] 25)
  clear d2 t2 D1 L1 L2
  go_wp2_with fail
  generalize v2.alloc (.cells #[.int .i64 r0, .int .i64 r1, .int .i64 r2, .int .i64 r3] 25) = v3 at *
  have hlp : sb < v2.heap.size := hlt2
  generalize v2.heap.size = px at *
  have hsz3 : v1.heap.size ≤ v3.heap.size := T3.out.size
  have hwv3 : w.heap.size ≤ v3.heap.size := by have := HB1.out.size; omega
  have hpx : px < v3.heap.size := M3.out.lt
  have hlt3 := D3.out.lt
  have hlt4 := hlt3
  have HW : Hid (Calls Try.prog 21 #[.pointer (some ⟨sb, 0, none⟩)] v3.drew (fun e w' => ∃ (A2 : Option Addr) (c2 : Nat) (xs : List Int), e = .returned (.slice A2 xs.length c2) ∧ xs.length ≤ 62 ∧ Own w' v3.heap.size 2 1 A2 xs.length c2 (xs.map (Value.int .i64)) ∧ Touch v3 w' (some ⟨sb, 0, none⟩))) := Lib.hid
    ((l16DrawWaters_any (D3.out.drewD 1) (by omega)).mono fun e w' ⟨A2, c2, xs, he, hx, o, d, t⟩ => ⟨A2, c2, xs, he, hx, o, ⟨t.os, t.tape, t.output, t.size, t.block⟩⟩)
  have K4 : v3.drew.cell? ⟨px, 0, none⟩ = some (.int .i64 r0) ∧ v3.drew.cell? ⟨px, 1, none⟩ = some (.int .i64 r1) ∧ v3.drew.cell? ⟨px, 2, none⟩ = some (.int .i64 r2) ∧ v3.drew.cell? ⟨px, 3, none⟩ = some (.int .i64 r3) :=
    ⟨M3.out.at_ 0 _ rfl, M3.out.at_ 1 _ rfl, M3.out.at_ 2 _ rfl, M3.out.at_ 3 _ rfl⟩
  have HK5 : Hid (∀ w5, Touch v3 w5 (some ⟨sb, 0, none⟩) → (w5.cell? ⟨px, 0, none⟩ = some (.int .i64 r0) ∧ w5.cell? ⟨px, 1, none⟩ = some (.int .i64 r1) ∧ w5.cell? ⟨px, 2, none⟩ = some (.int .i64 r2) ∧ w5.cell? ⟨px, 3, none⟩ = some (.int .i64 r3)) ∧ (((((w5.setCell ⟨w.heap.size, 0, none⟩ (.int .i64 r0)).setCell ⟨w.heap.size, 1, none⟩ (.int .i64 r1)).setCell ⟨w.heap.size, 2, none⟩ (.int .i64 r2)).setCell ⟨w.heap.size, 3, none⟩ (.int .i64 r3)).cell? ⟨px, 0, none⟩ = some (.int .i64 r0) ∧ ((((w5.setCell ⟨w.heap.size, 0, none⟩ (.int .i64 r0)).setCell ⟨w.heap.size, 1, none⟩ (.int .i64 r1)).setCell ⟨w.heap.size, 2, none⟩ (.int .i64 r2)).setCell ⟨w.heap.size, 3, none⟩ (.int .i64 r3)).cell? ⟨px, 1, none⟩ = some (.int .i64 r1) ∧ ((((w5.setCell ⟨w.heap.size, 0, none⟩ (.int .i64 r0)).setCell ⟨w.heap.size, 1, none⟩ (.int .i64 r1)).setCell ⟨w.heap.size, 2, none⟩ (.int .i64 r2)).setCell ⟨w.heap.size, 3, none⟩ (.int .i64 r3)).cell? ⟨px, 2, none⟩ = some (.int .i64 r2) ∧ ((((w5.setCell ⟨w.heap.size, 0, none⟩ (.int .i64 r0)).setCell ⟨w.heap.size, 1, none⟩ (.int .i64 r1)).setCell ⟨w.heap.size, 2, none⟩ (.int .i64 r2)).setCell ⟨w.heap.size, 3, none⟩ (.int .i64 r3)).cell? ⟨px, 3, none⟩ = some (.int .i64 r3)) ∧ HC w5 w.heap.size [.int .i64 0, .int .i64 0, .int .i64 0, .int .i64 0]) := Lib.hid (fun w5 t => by
    have m := M3.out.touch1 t (by omega)
    have hpw : px ≠ w.heap.size := by omega
    have m4 := (((m.touch2 (Touch2.of_set _ w.heap.size 0 (.int .i64 r0) none) hpw (fun a e => by cases e)).touch2 (Touch2.of_set _ w.heap.size 1 (.int .i64 r1) none) hpw (fun a e => by cases e)).touch2 (Touch2.of_set _ w.heap.size 2 (.int .i64 r2) none) hpw (fun a e => by cases e)).touch2 (Touch2.of_set _ w.heap.size 3 (.int .i64 r3) none) hpw (fun a e => by cases e)
    exact ⟨⟨m.at_ 0 _ rfl, m.at_ 1 _ rfl, m.at_ 2 _ rfl, m.at_ 3 _ rfl⟩, ⟨m4.at_ 0 _ rfl, m4.at_ 1 _ rfl, m4.at_ 2 _ rfl, m4.at_ 3 _ rfl⟩, L3.out.touch1 t (by omega)⟩)
  have HEnd : Hid (∀ (w5 : World) (A2 : Option Addr) (c2 : Nat) (xs : List Int), xs.length ≤ 62 → Own w5 v3.heap.size 2 1 A2 xs.length c2 (xs.map (Value.int .i64)) → Touch v3 w5 (some ⟨sb, 0, none⟩) → DrawGF w (.returned (.tuple #[.agg #[.int .i64 r0, .int .i64 r1, .int .i64 r2, .int .i64 r3], .slice A2 xs.length c2])) ((((w5.setCell ⟨w.heap.size, 0, none⟩ (.int .i64 r0)).setCell ⟨w.heap.size, 1, none⟩ (.int .i64 r1)).setCell ⟨w.heap.size, 2, none⟩ (.int .i64 r2)).setCell ⟨w.heap.size, 3, none⟩ (.int .i64 r3))) := Lib.hid (fun w5 A2 c2 xs hx o5 t => by
    have t5 : Touch v1 w5 (some ⟨sb, 0, none⟩) := T3.out.trans t
    have bb : Below w.heap.size w w5 := HB1.out.trans ((t5.bel (Nat.le_of_lt hlt1)).mono (by omega))
    have ob : ∀ (W : World) (j : Nat) (v : Value), Own W w.heap.size 2 1 A2 xs.length c2 (xs.map (Value.int .i64)) → Own (W.setCell ⟨w.heap.size, j, none⟩ v) w.heap.size 2 1 A2 xs.length c2 (xs.map (Value.int .i64)) := fun W j v h =>
      h.touch (touch_setM W w.heap.size j v) (by intro a a' e e'; injection e with e; subst e; have := (o5.block_lt a' e').2.2.1; simp only; omega)
    have bs : ∀ (W : World) (j : Nat) (v : Value), Below w.heap.size w W → Below w.heap.size w (W.setCell ⟨w.heap.size, j, none⟩ v) := fun W j v h => h.setCell (p := ⟨w.heap.size, j, none⟩) (Nat.le_refl _) v
    exact ⟨r0, r1, r2, r3, A2, c2, xs, rfl, hx, ob _ _ _ (ob _ _ _ (ob _ _ _ (ob _ _ _ (o5.mono hwv3)))), bs _ _ _ (bs _ _ _ (bs _ _ _ (bs _ _ _ bb)))⟩)
  clear D3 M3 L3 T3
  go_wp2_with fail
  go_region_held3 (fun W => W.cell? ⟨px, 0, none⟩ = some (.int .i64 r0) ∧ W.cell? ⟨px, 1, none⟩ = some (.int .i64 r1) ∧ W.cell? ⟨px, 2, none⟩ = some (.int .i64 r2) ∧ W.cell? ⟨px, 3, none⟩ = some (.int .i64 r3))
    ((first | with_reducible exact K4 | with_reducible exact K5 | with_reducible exact K6))
    ((first
      | (go_at_call 21; refine HW.out.mono ?_; rintro e w5 ⟨A2, c2, xs, rfl, hx, ho5, t5⟩; obtain ⟨K5, K6, L5⟩ := HK5.out w5 t5; have o0 := L5.at_ 0 _ rfl; have o1 := L5.at_ 1 _ rfl; have o2 := L5.at_ 2 _ rfl; have o3 := L5.at_ 3 _ rfl; have e0 := L5.fz 0; have e1 := L5.fz 1; have e2 := L5.fz 2; have e3 := L5.fz 3; have HE := Lib.hid (HEnd.out w5 A2 c2 xs hx ho5 t5); generalize xs.length = ln at *; clear ho5 hx t5 L5)
      | fail))
  all_goals
    go_wp2_with fail
    exact bodyPost_ret (v := .tuple #[.agg #[.int .i64 r0, .int .i64 r1, .int .i64 r2, .int .i64 r3], .slice A2 ln c2]) (by simp [results, Try.results7, go_sem, o0, o1, o2, o3]) rfl HE.out
end Go.Proofs.Ytdighpgfepooaaa
