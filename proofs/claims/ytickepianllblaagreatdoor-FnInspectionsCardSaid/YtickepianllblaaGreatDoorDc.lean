/- The reference's draws of a rope, of spots and of a width: shapes and sizes. -/
import Derived.Test.YtickepianllblaaGreatDoorDa
import Derived.Test.YtickepianllblaaGreatDoorZ
import Derived.Test.YtickepianllblaaGreatDoorA
namespace Go.Proofs.YtickepianllblaaGreatDoor
open Go.RowKit
set_option maxRecDepth 100000
set_option linter.unusedVariables false
set_option linter.unusedSimpArgs false

theorem HC.touch1 {w w' : World} {b x : Nat} {vs : List Value} (h : HC w x vs) (t : Touch w w' (some ⟨b, 0, none⟩)) (hb : b ≠ x) : HC w' x vs :=
  h.keep (t.block x h.lt (fun a e => by injection e with e; subst e; exact hb)) t.size
theorem Touch.bel {w w' : World} {b : Nat} (t : Touch w w' (some ⟨b, 0, none⟩)) (hb : b ≤ w.heap.size) : Below b w w' := t.below (B := b) (fun a e => by injection e with e; subst e; exact Nat.le_refl _) hb
theorem touch_step {w w' w2 : World} {A : Option Addr} (h : Touch w w' A) (b : Below w'.heap.size w' w2) : Touch w w2 A :=
  ⟨b.os.trans h.os, b.tape.trans h.tape, b.output.trans h.output, Nat.le_trans h.size b.size, fun k hk hn => (b.block k (Nat.lt_of_lt_of_le hk h.size)).trans (h.block k hk hn)⟩
theorem touch_alloc {w w' : World} {b : Nat} (t : Touch w w' (some ⟨b, 0, none⟩)) (o : Obj) : Touch w (w'.alloc o) (some ⟨b, 0, none⟩) := touch_step t ((Below.refl _ _).alloc (Nat.le_refl _) _)
theorem touch_setNew {w w' : World} {b x j : Nat} {v : Value} (t : Touch w w' (some ⟨b, 0, none⟩)) (hx : w.heap.size ≤ x) : Touch w (w'.setCell ⟨x, j, none⟩ v) (some ⟨b, 0, none⟩) :=
  ⟨t.os, t.tape, t.output, by have := t.size; simpa [World.setCell] using this, fun k hk hn => (Below.heap_setCell _ _ _ _ (by simp only; omega)).trans (t.block k hk hn)⟩
theorem Src.setNew {w : World} {b x j n c k : Nat} {v : Value} {A : Option Addr} (h : Src w b A n c k) (hx : b < x) : Src (w.setCell ⟨x, j, none⟩ v) b A n c k :=
  h.below (B := x) ⟨rfl, rfl, rfl, by simp [World.setCell], fun k hk => Below.heap_setCell _ _ _ _ (by simp only; omega)⟩ hx
theorem Src.alloc1 {w : World} {b n c k : Nat} {A : Option Addr} (h : Src w b A n c k) (o : Obj) : Src (w.alloc o) b A n c k := h.below ((Below.refl w.heap.size _).alloc (Nat.le_refl _) _) h.lt
theorem hc_new (w : World) (vs : List Value) (t : TypeId) : HC (w.alloc (.cells vs.toArray t)) w.heap.size vs := ⟨fun j u hu => by simpa using hu, fun j => by simp, by simp⟩
theorem HC.alloc1 {w : World} {x : Nat} {vs : List Value} (h : HC w x vs) (o : Obj) : HC (w.alloc o) x vs := h.below ((Below.refl w.heap.size _).alloc (Nat.le_refl _) _) h.lt
theorem HC.setNew {w : World} {x y j : Nat} {v : Value} {vs : List Value} (h : HC w x vs) (hx : x < y) : HC (w.setCell ⟨y, j, none⟩ v) x vs :=
  h.below (B := y) ⟨rfl, rfl, rfl, by simp [World.setCell], fun k hk => Below.heap_setCell _ _ _ _ (by simp only; omega)⟩ hx
/-- The state of a draw: a source in block b; what was there below block b stands. -/
structure DS (B b : Nat) (A : Option Addr) (n c : Nat) (zs : List Int) (w0 w : World) (k : Nat) : Prop where
  src : Src w b A n c k
  bz : Bytz w B A n zs
  t : Touch w0 w (some ⟨b, 0, none⟩)
  hB : B ≤ b
  hn : n ≤ 140737488351232
theorem DS.mk0 {B b n c k : Nat} {A : Option Addr} {zs : List Int} {w : World} (h : Src w b A n c k) (hr : Bytz w B A n zs) (hB : B ≤ b) (hn : n ≤ 140737488351232) : DS B b A n c zs w w k := ⟨h, hr, Touch.refl _ _, hB, hn⟩
section
variable {B b n c k : Nat} {A : Option Addr} {zs : List Int} {w0 w w' : World}
theorem DS.lt (h : DS B b A n c zs w0 w k) : b < w.heap.size := h.src.lt
theorem DS.sz (h : DS B b A n c zs w0 w k) : w0.heap.size ≤ w.heap.size := h.t.size
theorem DS.more (h : DS B b A n c zs w0 w k) {k' : Nat} (hk : k ≤ k') : DS B b A n c zs w0 w k' := ⟨h.src.more hk, h.bz, h.t, h.hB, h.hn⟩
theorem DS.call (h : DS B b A n c zs w0 w k) {k' : Nat} (s : Src w' b A n c k') (t : Touch w w' (some ⟨b, 0, none⟩)) : DS B b A n c zs w0 w' k' :=
  ⟨s, Bytz.touch h.bz t h.hB (Nat.le_trans h.hB (Nat.le_of_lt h.lt)), h.t.trans t, h.hB, h.hn⟩
theorem DS.allocD (h : DS B b A n c zs w0 w k) (o : Obj) : DS B b A n c zs w0 (w.alloc o) k :=
  ⟨h.src.alloc1 o, Bytz.below h.bz ((Below.refl w.heap.size _).alloc (Nat.le_refl _) _) (Nat.le_trans h.hB (Nat.le_of_lt h.lt)), touch_alloc h.t o, h.hB, h.hn⟩
theorem DS.setD (h : DS B b A n c zs w0 w k) {x j : Nat} {v : Value} (hx : b < x) (h0 : w0.heap.size ≤ x) : DS B b A n c zs w0 (w.setCell ⟨x, j, none⟩ v) k :=
  ⟨h.src.setNew hx, Bytz.below h.bz (B' := x) ⟨rfl, rfl, rfl, by simp [World.setCell], fun k hk => Below.heap_setCell _ _ _ _ (by simp only; omega)⟩ (by have := h.hB; omega), touch_setNew h.t h0, h.hB, h.hn⟩
theorem DS.drewD (h : DS B b A n c zs w0 w k) (d : Nat) : DS B b A n c zs w0 (w.drewN d) k :=
  have hb : Below w.heap.size w (w.drewN d) := ⟨rfl, rfl, rfl, Nat.le_refl _, fun _ _ => rfl⟩
  ⟨h.src.below hb h.lt, Bytz.below h.bz hb (Nat.le_trans h.hB (Nat.le_of_lt h.lt)), touch_step h.t hb, h.hB, h.hn⟩
theorem DS.belowD (h : DS B b A n c zs w0 w k) (hb : Below (b + 1) w w') (hb0 : Below w0.heap.size w w') : DS B b A n c zs w0 w' k :=
  ⟨h.src.below hb (Nat.lt_succ_self _), Bytz.below h.bz hb (by have := h.hB; omega), ⟨hb0.os.trans h.t.os, hb0.tape.trans h.t.tape, hb0.output.trans h.t.output, Nat.le_trans h.t.size hb0.size, fun k hk hn => (hb0.block k hk).trans (h.t.block k hk hn)⟩, h.hB, h.hn⟩
theorem DS.pick (h : DS B b A n c zs w0 w k) (hk : k ≤ 1000000) (m : Int) : Calls Tryz.prog 42 #[.pointer (some ⟨b, 0, none⟩), .int .i64 m] w fun e w' => ∃ x : Int, e = .returned (.int .i64 x) ∧ 0 ≤ x ∧ (x < m ∨ x = 0) ∧ x ≤ 65535 ∧ DS B b A n c zs w0 w' (k + 2) ∧ Touch w w' (some ⟨b, 0, none⟩) :=
  (pick_any h.src h.bz h.hB h.hn hk).mono fun e w' ⟨x, h1, h2, h3, h4, s, t⟩ => ⟨x, h1, h2, h3, h4, h.call s t, t⟩
end
theorem ints4 (w : World) (a b c d : Int) (t : TypeId) : Ints (w.alloc (.cells #[.int .i64 a, .int .i64 b, .int .i64 c, .int .i64 d] t)) (w.heap.size + 1) (some ⟨w.heap.size, 0, none⟩) 4 [a, b, c, d] :=
  ⟨by simp, fun _ => ⟨⟨w.heap.size, 0, none⟩, rfl, Nat.lt_succ_self _, fun j u hu => by rw [Addr.add_lit, Nat.zero_add]; simpa using hu⟩⟩
theorem ints3 (w : World) (a b c : Int) (t : TypeId) : Ints (w.alloc (.cells #[.int .i64 a, .int .i64 b, .int .i64 c] t)) (w.heap.size + 1) (some ⟨w.heap.size, 0, none⟩) 3 [a, b, c] :=
  ⟨by simp, fun _ => ⟨⟨w.heap.size, 0, none⟩, rfl, Nat.lt_succ_self _, fun j u hu => by rw [Addr.add_lit, Nat.zero_add]; simpa using hu⟩⟩
theorem sz_succ (w : World) (o : Obj) : w.heap.size + 1 ≤ (w.alloc o).heap.size := by simp
theorem DS.among4 {B b n c k : Nat} {A : Option Addr} {zs : List Int} {w0 w : World} (h : DS B b A n c zs w0 w k) (hk : k ≤ 1000000) (p q r s : Int) (t : TypeId) :
    Calls Tryz.prog 61 #[.pointer (some ⟨b, 0, none⟩), .slice (some ⟨w.heap.size, 0, none⟩) 4 4] (w.alloc (.cells #[.int .i64 p, .int .i64 q, .int .i64 r, .int .i64 s] t)) fun e w' => ∃ x : Int, e = .returned (.int .i64 x) ∧ x ∈ [p, q, r, s] ∧ DS B b A n c zs w0 w' (k + 2) ∧ Touch w w' (some ⟨b, 0, none⟩) := by
  have h1 := h.allocD (.cells #[.int .i64 p, .int .i64 q, .int .i64 r, .int .i64 s] t)
  have hlt := h.lt
  refine (among_any h1.src h1.bz h.hB h.hn hk (ints4 w p q r s t) (by omega) (by omega) (sz_succ w _) (fun a e => by injection e with e; subst e; simp only; omega)).mono ?_
  rintro e w' ⟨x, he, hx, s1, t1⟩
  exact ⟨x, he, hx, h1.call s1 t1, (touch_alloc (Touch.refl _ _) _).trans t1⟩
theorem DS.among3 {B b n c k : Nat} {A : Option Addr} {zs : List Int} {w0 w : World} (h : DS B b A n c zs w0 w k) (hk : k ≤ 1000000) (p q r : Int) (t : TypeId) :
    Calls Tryz.prog 61 #[.pointer (some ⟨b, 0, none⟩), .slice (some ⟨w.heap.size, 0, none⟩) 3 3] (w.alloc (.cells #[.int .i64 p, .int .i64 q, .int .i64 r] t)) fun e w' => ∃ x : Int, e = .returned (.int .i64 x) ∧ x ∈ [p, q, r] ∧ DS B b A n c zs w0 w' (k + 2) ∧ Touch w w' (some ⟨b, 0, none⟩) := by
  have h1 := h.allocD (.cells #[.int .i64 p, .int .i64 q, .int .i64 r] t)
  have hlt := h.lt
  refine (among_any h1.src h1.bz h.hB h.hn hk (ints3 w p q r t) (by omega) (by omega) (sz_succ w _) (fun a e => by injection e with e; subst e; simp only; omega)).mono ?_
  rintro e w' ⟨x, he, hx, s1, t1⟩
  exact ⟨x, he, hx, h1.call s1 t1, (touch_alloc (Touch.refl _ _) _).trans t1⟩
theorem ints7 (w : World) (p q r s u v x : Int) (t : TypeId) : Ints (w.alloc (.cells #[.int .i64 p, .int .i64 q, .int .i64 r, .int .i64 s, .int .i64 u, .int .i64 v, .int .i64 x] t)) (w.heap.size + 1) (some ⟨w.heap.size, 0, none⟩) 7 [p, q, r, s, u, v, x] :=
  ⟨by simp, fun _ => ⟨⟨w.heap.size, 0, none⟩, rfl, Nat.lt_succ_self _, fun j z hz => by rw [Addr.add_lit, Nat.zero_add]; simpa using hz⟩⟩
theorem DS.among7 {B b n c k : Nat} {A : Option Addr} {zs : List Int} {w0 w : World} (h : DS B b A n c zs w0 w k) (hk : k ≤ 1000000) (p q r s u v x : Int) (t : TypeId) :
    Calls Tryz.prog 61 #[.pointer (some ⟨b, 0, none⟩), .slice (some ⟨w.heap.size, 0, none⟩) 7 7] (w.alloc (.cells #[.int .i64 p, .int .i64 q, .int .i64 r, .int .i64 s, .int .i64 u, .int .i64 v, .int .i64 x] t)) fun e w' => ∃ z : Int, e = .returned (.int .i64 z) ∧ z ∈ [p, q, r, s, u, v, x] ∧ DS B b A n c zs w0 w' (k + 2) ∧ Touch w w' (some ⟨b, 0, none⟩) := by
  have h1 := h.allocD (.cells #[.int .i64 p, .int .i64 q, .int .i64 r, .int .i64 s, .int .i64 u, .int .i64 v, .int .i64 x] t)
  have hlt := h.lt
  refine (among_any h1.src h1.bz h.hB h.hn hk (ints7 w p q r s u v x t) (by omega) (by omega) (sz_succ w _) (fun a e => by injection e with e; subst e; simp only; omega)).mono ?_
  rintro e w' ⟨z, he, hx, s1, t1⟩
  exact ⟨z, he, hx, h1.call s1 t1, (touch_alloc (Touch.refl _ _) _).trans t1⟩
theorem ints8 (w : World) (p q r s u v x y : Int) (t : TypeId) : Ints (w.alloc (.cells #[.int .i64 p, .int .i64 q, .int .i64 r, .int .i64 s, .int .i64 u, .int .i64 v, .int .i64 x, .int .i64 y] t)) (w.heap.size + 1) (some ⟨w.heap.size, 0, none⟩) 8 [p, q, r, s, u, v, x, y] :=
  ⟨by simp, fun _ => ⟨⟨w.heap.size, 0, none⟩, rfl, Nat.lt_succ_self _, fun j z hz => by rw [Addr.add_lit, Nat.zero_add]; simpa using hz⟩⟩
theorem DS.among8 {B b n c k : Nat} {A : Option Addr} {zs : List Int} {w0 w : World} (h : DS B b A n c zs w0 w k) (hk : k ≤ 1000000) (p q r s u v x y : Int) (t : TypeId) :
    Calls Tryz.prog 61 #[.pointer (some ⟨b, 0, none⟩), .slice (some ⟨w.heap.size, 0, none⟩) 8 8] (w.alloc (.cells #[.int .i64 p, .int .i64 q, .int .i64 r, .int .i64 s, .int .i64 u, .int .i64 v, .int .i64 x, .int .i64 y] t)) fun e w' => ∃ z : Int, e = .returned (.int .i64 z) ∧ z ∈ [p, q, r, s, u, v, x, y] ∧ DS B b A n c zs w0 w' (k + 2) ∧ Touch w w' (some ⟨b, 0, none⟩) := by
  have h1 := h.allocD (.cells #[.int .i64 p, .int .i64 q, .int .i64 r, .int .i64 s, .int .i64 u, .int .i64 v, .int .i64 x, .int .i64 y] t)
  have hlt := h.lt
  refine (among_any h1.src h1.bz h.hB h.hn hk (ints8 w p q r s u v x y t) (by omega) (by omega) (sz_succ w _) (fun a e => by injection e with e; subst e; simp only; omega)).mono ?_
  rintro e w' ⟨z, he, hx, s1, t1⟩
  exact ⟨z, he, hx, h1.call s1 t1, (touch_alloc (Touch.refl _ _) _).trans t1⟩
end Go.Proofs.YtickepianllblaaGreatDoor
