/- The reference's draws of waters, of a gap, of a speed. -/
import Derived.Test.YtcacmiafmanniaaDm
import Derived.Test.YtcacmiafmanniaaDf
namespace Go.Proofs.Ytcacmiafmanniaa
open Go.RowKit
set_option maxRecDepth 100000
set_option linter.unusedVariables false
set_option linter.unusedSimpArgs false

theorem own_keepB {w w' : World} {B e n c b : Nat} {A : Option Addr} {xs : List Value} (h : Own w B e 1 A n c xs) (t : Touch w w' (some ⟨b, 0, none⟩)) (hf : ∀ a, A = some a → b < a.block) : Own w' B e 1 A n c xs :=
  h.touch t (by intro a a' e e'; injection e with e; subst e; have := hf a' e'; simp only; omega)
theorem ints2 (w : World) (p q : Int) (t : TypeId) : Ints (w.alloc (.cells #[.int .i64 p, .int .i64 q] t)) (w.heap.size + 1) (some ⟨w.heap.size, 0, none⟩) 2 [p, q] :=
  ⟨by simp, fun _ => ⟨⟨w.heap.size, 0, none⟩, rfl, Nat.lt_succ_self _, fun j z hz => by rw [Addr.add_lit, Nat.zero_add]; simpa using hz⟩⟩
theorem DS.among2 {B b n c k : Nat} {A : Option Addr} {zs : List Int} {w0 w : World} (h : DS B b A n c zs w0 w k) (hk : k ≤ 1000000) (p q : Int) (t : TypeId) :
    Calls Try.prog 17 #[.pointer (some ⟨b, 0, none⟩), .slice (some ⟨w.heap.size, 0, none⟩) 2 2] (w.alloc (.cells #[.int .i64 p, .int .i64 q] t)) fun e w' => ∃ z : Int, e = .returned (.int .i64 z) ∧ z ∈ [p, q] ∧ DS B b A n c zs w0 w' (k + 2) ∧ Touch w w' (some ⟨b, 0, none⟩) := by
  have h1 := h.allocD (.cells #[.int .i64 p, .int .i64 q] t)
  have hlt := h.lt
  refine (among_any h1.src h1.bz h.hB h.hn hk (ints2 w p q t) (by omega) (by omega) (sz_succ w _) (fun a e => by injection e with e; subst e; simp only; omega)).mono ?_
  rintro e w' ⟨z, he, hx, s1, t1⟩
  exact ⟨z, he, hx, h1.call s1 t1, (touch_alloc (Touch.refl _ _) _).trans t1⟩
theorem ints6 (w : World) (p q r s u v : Int) (t : TypeId) : Ints (w.alloc (.cells #[.int .i64 p, .int .i64 q, .int .i64 r, .int .i64 s, .int .i64 u, .int .i64 v] t)) (w.heap.size + 1) (some ⟨w.heap.size, 0, none⟩) 6 [p, q, r, s, u, v] :=
  ⟨by simp, fun _ => ⟨⟨w.heap.size, 0, none⟩, rfl, Nat.lt_succ_self _, fun j z hz => by rw [Addr.add_lit, Nat.zero_add]; simpa using hz⟩⟩
theorem DS.among6 {B b n c k : Nat} {A : Option Addr} {zs : List Int} {w0 w : World} (h : DS B b A n c zs w0 w k) (hk : k ≤ 1000000) (p q r s u v : Int) (t : TypeId) :
    Calls Try.prog 17 #[.pointer (some ⟨b, 0, none⟩), .slice (some ⟨w.heap.size, 0, none⟩) 6 6] (w.alloc (.cells #[.int .i64 p, .int .i64 q, .int .i64 r, .int .i64 s, .int .i64 u, .int .i64 v] t)) fun e w' => ∃ z : Int, e = .returned (.int .i64 z) ∧ z ∈ [p, q, r, s, u, v] ∧ DS B b A n c zs w0 w' (k + 2) ∧ Touch w w' (some ⟨b, 0, none⟩) := by
  have h1 := h.allocD (.cells #[.int .i64 p, .int .i64 q, .int .i64 r, .int .i64 s, .int .i64 u, .int .i64 v] t)
  have hlt := h.lt
  refine (among_any h1.src h1.bz h.hB h.hn hk (ints6 w p q r s u v t) (by omega) (by omega) (sz_succ w _) (fun a e => by injection e with e; subst e; simp only; omega)).mono ?_
  rintro e w' ⟨z, he, hx, s1, t1⟩
  exact ⟨z, he, hx, h1.call s1 t1, (touch_alloc (Touch.refl _ _) _).trans t1⟩
def DrawDF (w : World) (e : Ending) (w' : World) : Prop := ∃ (p q r s : Int), e = .returned (.tuple #[.int .i64 p, .int .i64 q, .int .i64 r, .int .i64 s]) ∧ Below w.heap.size w w'
end Go.Proofs.Ytcacmiafmanniaa
