/- The reference's draws of the law of queues. -/
import Derived.Test.YtngbdjbgbjbjaaaGreatDoorDk
namespace Go.Proofs.YtngbdjbgbjbjaaaGreatDoor
open Go.RowKit
set_option maxRecDepth 100000
set_option linter.unusedVariables false
set_option linter.unusedSimpArgs false

theorem own_keepU {w w' : World} {B e n c b : Nat} {A : Option Addr} {xs : List Value} (h : Own w B e 1 A n c xs) (t : Touch w w' (some ⟨b, 0, none⟩)) (hf : ∀ a, A = some a → b < a.block) : Own w' B e 1 A n c xs :=
  h.touch t (by intro a a' e e'; injection e with e; subst e; have := hf a' e'; simp only; omega)
def DrawQP (w : World) (e : Ending) (w' : World) : Prop := ∃ (A2 : Option Addr) (c2 : Nat) (xs : List Int) (p q : Int), e = .returned (.tuple #[.slice A2 xs.length c2, .int .i64 p, .int .i64 q]) ∧ xs.length ≤ 62 ∧ Own w' w.heap.size 2 1 A2 xs.length c2 (xs.map (Value.int .i64)) ∧ Below w.heap.size w w'
set_option maxHeartbeats 2000000 in
theorem drawQueuesOf_any {n c : Nat} {A : Option Addr} {zs : List Int} {w : World} (hr : Bytz w w.heap.size A n zs) (hn : n ≤ 1048576) :
    Calls Tryz.prog 5 #[.slice A n c] w (DrawQP w) := by
  have Hr := Lib.hid hr
  clear hr
  go_enter Tryz.func5, Tryz.ntmps5
  go_wp2_with fail
  refine (from_any (n := n) (c := c) (A := A) (w := w)).mono ?_
  rintro e v1 ⟨rfl, s1, b1⟩
  have D1 := Lib.hid (DS.mk0 s1 (Bytz.below Hr.out b1 (Nat.le_refl _)) (Nat.le_refl _) (by omega))
  have HB1 := Lib.hid b1
  have hlt1 := s1.lt
  clear s1 b1 Hr
  go_wp2_with fail
  refine (l20Draw_any D1.out (by omega)).mono ?_
  rintro e v2 ⟨A2, c2, xs, rfl, hx, o2, d2, t2⟩
  have D2 := Lib.hid d2
  have T2 := Lib.hid t2
  have O2 := Lib.hid (o2.mono (show w.heap.size ≤ v1.heap.size by omega))
  have hf : ∀ a, A2 = some a → w.heap.size < a.block := fun a ha => by have := (o2.block_lt a ha).2.2.1; omega
  have Hf := Lib.hid hf
  clear d2 t2 o2 D1 hf
  go_wp2_with fail
  refine (l20DrawEvery_any D2.out (by omega)).mono ?_
  rintro e v3 ⟨p, rfl, d3, t3⟩
  have D3 := Lib.hid d3
  have T3 := Lib.hid (T2.out.trans t3)
  have O3 := Lib.hid (own_keepU O2.out t3 Hf.out)
  clear d3 t3 D2 T2 O2
  go_wp2_with fail
  refine (l20DrawSeats_any D3.out (by omega)).mono ?_
  rintro e v4 ⟨q, rfl, d4, t4⟩
  have HF : Hid (DrawQP w (.returned (.tuple #[.slice A2 xs.length c2, .int .i64 p, .int .i64 q])) v4) := Lib.hid
    ⟨A2, c2, xs, p, q, rfl, hx, own_keepU O3.out t4 Hf.out, HB1.out.trans (((T3.out.trans t4).bel (Nat.le_of_lt hlt1)))⟩
  clear d4 t4 D3 T3 O3
  go_wp2_with fail
  exact bodyPost_ret (v := .tuple #[.slice A2 xs.length c2, .int .i64 p, .int .i64 q]) (by simp [results, Tryz.results5, go_sem]) rfl HF.out
set_option maxHeartbeats 2000000 in
theorem drawLeastSeats_any {n c : Nat} {A : Option Addr} {zs : List Int} {w : World} (hr : Bytz w w.heap.size A n zs) (hn : n ≤ 1048576) :
    Calls Tryz.prog 13 #[.slice A n c] w (DrawQP w) := by
  have Hr := Lib.hid hr
  clear hr
  go_enter Tryz.func13, Tryz.ntmps13
  go_wp2_with fail
  refine (from_any (n := n) (c := c) (A := A) (w := w)).mono ?_
  rintro e v1 ⟨rfl, s1, b1⟩
  have D1 := Lib.hid (DS.mk0 s1 (Bytz.below Hr.out b1 (Nat.le_refl _)) (Nat.le_refl _) (by omega))
  have HB1 := Lib.hid b1
  have hlt1 := s1.lt
  clear s1 b1 Hr
  go_wp2_with fail
  refine (l20Draw_any D1.out (by omega)).mono ?_
  rintro e v2 ⟨A2, c2, xs, rfl, hx, o2, d2, t2⟩
  have D2 := Lib.hid d2
  have T2 := Lib.hid t2
  have O2 := Lib.hid (o2.mono (show w.heap.size ≤ v1.heap.size by omega))
  have hf : ∀ a, A2 = some a → w.heap.size < a.block := fun a ha => by have := (o2.block_lt a ha).2.2.1; omega
  have Hf := Lib.hid hf
  clear d2 t2 o2 D1 hf
  go_wp2_with fail
  refine (l20DrawEvery_any D2.out (by omega)).mono ?_
  rintro e v3 ⟨p, rfl, d3, t3⟩
  have D3 := Lib.hid d3
  have T3 := Lib.hid (T2.out.trans t3)
  have O3 := Lib.hid (own_keepU O2.out t3 Hf.out)
  clear d3 t3 D2 T2 O2
  go_wp2_with fail
  refine (l20DrawLimit_any D3.out (by omega)).mono ?_
  rintro e v4 ⟨q, rfl, d4, t4⟩
  have HF : Hid (DrawQP w (.returned (.tuple #[.slice A2 xs.length c2, .int .i64 p, .int .i64 q])) v4) := Lib.hid
    ⟨A2, c2, xs, p, q, rfl, hx, own_keepU O3.out t4 Hf.out, HB1.out.trans (((T3.out.trans t4).bel (Nat.le_of_lt hlt1)))⟩
  clear d4 t4 D3 T3 O3
  go_wp2_with fail
  exact bodyPost_ret (v := .tuple #[.slice A2 xs.length c2, .int .i64 p, .int .i64 q]) (by simp [results, Tryz.results13, go_sem]) rfl HF.out
set_option maxHeartbeats 2000000 in
theorem drawWidestEvery_any {n c : Nat} {A : Option Addr} {zs : List Int} {w : World} (hr : Bytz w w.heap.size A n zs) (hn : n ≤ 1048576) :
    Calls Tryz.prog 16 #[.slice A n c] w (DrawQP w) := by
  have Hr := Lib.hid hr
  clear hr
  go_enter Tryz.func16, Tryz.ntmps16
  go_wp2_with fail
  refine (from_any (n := n) (c := c) (A := A) (w := w)).mono ?_
  rintro e v1 ⟨rfl, s1, b1⟩
  have D1 := Lib.hid (DS.mk0 s1 (Bytz.below Hr.out b1 (Nat.le_refl _)) (Nat.le_refl _) (by omega))
  have HB1 := Lib.hid b1
  have hlt1 := s1.lt
  clear s1 b1 Hr
  go_wp2_with fail
  refine (l20Draw_any D1.out (by omega)).mono ?_
  rintro e v2 ⟨A2, c2, xs, rfl, hx, o2, d2, t2⟩
  have D2 := Lib.hid d2
  have T2 := Lib.hid t2
  have O2 := Lib.hid (o2.mono (show w.heap.size ≤ v1.heap.size by omega))
  have hf : ∀ a, A2 = some a → w.heap.size < a.block := fun a ha => by have := (o2.block_lt a ha).2.2.1; omega
  have Hf := Lib.hid hf
  clear d2 t2 o2 D1 hf
  go_wp2_with fail
  refine (l20DrawSeats_any D2.out (by omega)).mono ?_
  rintro e v3 ⟨p, rfl, d3, t3⟩
  have D3 := Lib.hid d3
  have T3 := Lib.hid (T2.out.trans t3)
  have O3 := Lib.hid (own_keepU O2.out t3 Hf.out)
  clear d3 t3 D2 T2 O2
  go_wp2_with fail
  refine (l20DrawLimit_any D3.out (by omega)).mono ?_
  rintro e v4 ⟨q, rfl, d4, t4⟩
  have HF : Hid (DrawQP w (.returned (.tuple #[.slice A2 xs.length c2, .int .i64 p, .int .i64 q])) v4) := Lib.hid
    ⟨A2, c2, xs, p, q, rfl, hx, own_keepU O3.out t4 Hf.out, HB1.out.trans (((T3.out.trans t4).bel (Nat.le_of_lt hlt1)))⟩
  clear d4 t4 D3 T3 O3
  go_wp2_with fail
  exact bodyPost_ret (v := .tuple #[.slice A2 xs.length c2, .int .i64 p, .int .i64 q]) (by simp [results, Tryz.results16, go_sem]) rfl HF.out
end Go.Proofs.YtngbdjbgbjbjaaaGreatDoor
