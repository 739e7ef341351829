/- The reference's draws of the law of waits. -/
import Derived.Test.YtmiilnddfmeldaaDk
namespace Go.Proofs.Ytmiilnddfmeldaa
open Go.RowKit
set_option maxRecDepth 100000
set_option linter.unusedVariables false
set_option linter.unusedSimpArgs false

theorem own_keepD {w w' : World} {B e n c b : Nat} {A : Option Addr} {xs : List Value} (h : Own w B e 1 A n c xs) (t : Touch w w' (some ⟨b, 0, none⟩)) (hf : ∀ a, A = some a → b < a.block) : Own w' B e 1 A n c xs :=
  h.touch t (by intro a a' e e'; injection e with e; subst e; have := hf a' e'; simp only; omega)
def DrawWP (w : World) (e : Ending) (w' : World) : Prop := ∃ (A2 : Option Addr) (c2 : Nat) (xs : List Int) (ev se li : Int), e = .returned (.tuple #[.slice A2 xs.length c2, .int .i64 ev, .int .i64 se, .int .i64 li]) ∧ xs.length ≤ 62 ∧ Own w' w.heap.size 2 1 A2 xs.length c2 (xs.map (Value.int .i64)) ∧ Below w.heap.size w w'
set_option maxHeartbeats 2000000 in
theorem drawWaitOfPerson_any {n c : Nat} {A : Option Addr} {zs : List Int} {w : World} (hr : Bytz w w.heap.size A n zs) (hn : n ≤ 1048576) :
    Calls Try.prog 5 #[.slice A n c] w (DrawWP w) := by
  have Hr := Lib.hid hr
  clear hr
  go_enter Try.func5, Try.ntmps5
  go_wp2_with fail
  refine (from_any (n := n) (c := c) (A := A) (w := w)).mono ?_
  rintro e v1 ⟨rfl, s1, b1⟩
  have D1 := Lib.hid (DS.mk0 s1 (Bytz.below Hr.out b1 (Nat.le_refl _)) (Nat.le_refl _) (by omega))
  have HB1 := Lib.hid b1
  have hlt1 := s1.lt
  clear s1 b1 Hr
  go_wp2_with fail
  refine (l20Draw_any D1.out (by omega)).mono ?_
  rintro e v2 ⟨A2, c2, xs, rfl, hx, o2, d2, t2⟩
  have D2 := Lib.hid d2
  have T2 := Lib.hid t2
  have O2 := Lib.hid (o2.mono (show w.heap.size ≤ v1.heap.size by omega))
  have hf : ∀ a, A2 = some a → w.heap.size < a.block := fun a ha => by have := (o2.block_lt a ha).2.2.1; omega
  have Hf := Lib.hid hf
  clear d2 t2 o2 D1 hf
  go_wp2_with fail
  refine (l20DrawEvery_any D2.out (by omega)).mono ?_
  rintro e v3 ⟨ev, rfl, d3, t3⟩
  have D3 := Lib.hid d3
  have T3 := Lib.hid (T2.out.trans t3)
  have O3 := Lib.hid (own_keepD O2.out t3 Hf.out)
  clear d3 t3 D2 T2 O2
  go_wp2_with fail
  refine (l20DrawSeats_any D3.out (by omega)).mono ?_
  rintro e v4 ⟨se, rfl, d4, t4⟩
  have D4 := Lib.hid d4
  have T4 := Lib.hid (T3.out.trans t4)
  have O4 := Lib.hid (own_keepD O3.out t4 Hf.out)
  clear d4 t4 D3 T3 O3
  go_wp2_with fail
  refine (l20DrawLimit_any D4.out (by omega)).mono ?_
  rintro e v5 ⟨li, rfl, d5, t5⟩
  have HF : Hid (DrawWP w (.returned (.tuple #[.slice A2 xs.length c2, .int .i64 ev, .int .i64 se, .int .i64 li])) v5) := Lib.hid
    ⟨A2, c2, xs, ev, se, li, rfl, hx, own_keepD O4.out t5 Hf.out, HB1.out.trans (((T4.out.trans t5).bel (Nat.le_of_lt hlt1)))⟩
  clear d5 t5 D4 T4 O4
  go_wp2_with fail
  exact bodyPost_ret (v := .tuple #[.slice A2 xs.length c2, .int .i64 ev, .int .i64 se, .int .i64 li]) (by simp [results, Try.results5, go_sem]) rfl HF.out
def DrawSS (w : World) (e : Ending) (w' : World) : Prop := ∃ (a b se : Int), e = .returned (.tuple #[.int .i64 a, .int .i64 b, .int .i64 se]) ∧ Below w.heap.size w w'
set_option maxHeartbeats 2000000 in
theorem drawShareSeats_any {n c : Nat} {A : Option Addr} {zs : List Int} {w : World} (hr : Bytz w w.heap.size A n zs) (hn : n ≤ 1048576) :
    Calls Try.prog 11 #[.slice A n c] w (DrawSS w) := by
  have Hr := Lib.hid hr
  clear hr
  go_enter Try.func11, Try.ntmps11
  go_wp2_with fail
  refine (from_any (n := n) (c := c) (A := A) (w := w)).mono ?_
  rintro e v1 ⟨rfl, s1, b1⟩
  have D1 := Lib.hid (DS.mk0 s1 (Bytz.below Hr.out b1 (Nat.le_refl _)) (Nat.le_refl _) (by omega))
  have HB1 := Lib.hid b1
  have hlt1 := s1.lt
  clear s1 b1 Hr
  go_wp2_with fail
  refine (l20DrawLimit_any D1.out (by omega)).mono ?_
  rintro e v2 ⟨a, rfl, d2, t2⟩
  have D2 := Lib.hid d2
  have T2 := Lib.hid t2
  clear d2 t2 D1
  go_wp2_with fail
  refine (l20DrawLimit_any D2.out (by omega)).mono ?_
  rintro e v3 ⟨b, rfl, d3, t3⟩
  have D3 := Lib.hid d3
  have T3 := Lib.hid (T2.out.trans t3)
  clear d3 t3 D2 T2
  go_wp2_with fail
  refine (l20DrawSeats_any D3.out (by omega)).mono ?_
  rintro e v4 ⟨se, rfl, d4, t4⟩
  have HF : Hid (DrawSS w (.returned (.tuple #[.int .i64 a, .int .i64 b, .int .i64 se])) v4) := Lib.hid ⟨a, b, se, rfl, HB1.out.trans (((T3.out.trans t4).bel (Nat.le_of_lt hlt1)))⟩
  clear d4 t4 D3 T3
  go_wp2_with fail
  exact bodyPost_ret (v := .tuple #[.int .i64 a, .int .i64 b, .int .i64 se]) (by simp [results, Try.results11, go_sem]) rfl HF.out
def DrawSA (w : World) (e : Ending) (w' : World) : Prop := ∃ (A2 : Option Addr) (c2 : Nat) (xs : List Int) (m : Int), e = .returned (.tuple #[.slice A2 xs.length c2, .int .i64 m]) ∧ xs.length ≤ 62 ∧ Own w' w.heap.size 2 1 A2 xs.length c2 (xs.map (Value.int .i64)) ∧ Below w.heap.size w w'
set_option maxHeartbeats 2000000 in
theorem drawSmoothArrivals_any {n c : Nat} {A : Option Addr} {zs : List Int} {w : World} (hr : Bytz w w.heap.size A n zs) (hn : n ≤ 1048576) :
    Calls Try.prog 13 #[.slice A n c] w (DrawSA w) := by
  have Hr := Lib.hid hr
  clear hr
  go_enter Try.func13, Try.ntmps13
  go_wp2_with fail
  refine (from_any (n := n) (c := c) (A := A) (w := w)).mono ?_
  rintro e v1 ⟨rfl, s1, b1⟩
  have D1 := Lib.hid (DS.mk0 s1 (Bytz.below Hr.out b1 (Nat.le_refl _)) (Nat.le_refl _) (by omega))
  have HB1 := Lib.hid b1
  have hlt1 := s1.lt
  clear s1 b1 Hr
  go_wp2_with fail
  refine (l20Draw_any D1.out (by omega)).mono ?_
  rintro e v2 ⟨A2, c2, xs, rfl, hx, o2, d2, t2⟩
  have D2 := Lib.hid d2
  have T2 := Lib.hid t2
  have O2 := Lib.hid (o2.mono (show w.heap.size ≤ v1.heap.size by omega))
  have hf : ∀ a, A2 = some a → w.heap.size < a.block := fun a ha => by have := (o2.block_lt a ha).2.2.1; omega
  have Hf := Lib.hid hf
  clear d2 t2 o2 D1 hf
  go_wp2_with fail
  refine (D2.out.among7 (by omega) 1 5 10 20 1000 1001 0 2).mono ?_
  rintro e v3 ⟨m, rfl, _, d3, t3⟩
  have HF : Hid (DrawSA w (.returned (.tuple #[.slice A2 xs.length c2, .int .i64 m])) v3) := Lib.hid
    ⟨A2, c2, xs, m, rfl, hx, own_keepD O2.out t3 Hf.out, HB1.out.trans (((T2.out.trans t3).bel (Nat.le_of_lt hlt1)))⟩
  clear d3 t3 D2 T2 O2
  go_wp2_with fail
  exact bodyPost_ret (v := .tuple #[.slice A2 xs.length c2, .int .i64 m]) (by simp [results, Try.results13, go_sem]) rfl HF.out
end Go.Proofs.Ytmiilnddfmeldaa
