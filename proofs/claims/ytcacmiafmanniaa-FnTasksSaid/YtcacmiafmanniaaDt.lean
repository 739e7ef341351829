/- The reference's draws of the law of tasks. -/
import Derived.Test.YtcacmiafmanniaaDs
namespace Go.Proofs.Ytcacmiafmanniaa
open Go.RowKit
set_option maxRecDepth 100000
set_option linter.unusedVariables false
set_option linter.unusedSimpArgs false

def DrawQF (w : World) (e : Ending) (w' : World) : Prop :=
  ∃ (A5 : Option Addr) (c5 : Nat) (l : List HelperR) (A8 : Option Addr) (c8 : Nat) (tl : List TaskR) (bu : Int), e = .returned (.tuple #[.slice A5 l.length c5, .slice A8 tl.length c8, .int .i64 bu]) ∧ l.length ≤ 20 ∧ tl.length ≤ 20 ∧
    Own w' w.heap.size 35 3 A5 l.length c5 (l.flatMap HelperR.cells) ∧ Own w' w.heap.size 67 3 A8 tl.length c8 (tl.flatMap TaskR.cells) ∧
    (∀ x ∈ l, x.Id.size ≤ 1048576) ∧ (∀ x ∈ tl, x.Id.size ≤ 1048576) ∧ Below w.heap.size w w'
set_option maxHeartbeats 2000000 in
theorem drawQuickestFill_any {n c : Nat} {A : Option Addr} {zs : List Int} {w : World} (hr : Bytz w w.heap.size A n zs) (hn : n ≤ 1048576) :
    Calls Try.prog 5 #[.slice A n c] w (DrawQF w) := by
  have Hr := Lib.hid hr
  clear hr
  go_enter Try.func5, Try.ntmps5
  go_wp2_with fail
  refine (from_any (n := n) (c := c) (A := A) (w := w)).mono ?_
  rintro e v1 ⟨rfl, s1, b1⟩
  have D1 := Lib.hid (DS.mk0 s1 (Bytz.below Hr.out b1 (Nat.le_refl _)) (Nat.le_refl _) (by omega))
  have HB1 := Lib.hid b1
  have hlt1 := s1.lt
  clear s1 b1 Hr
  go_wp2_with fail
  refine (l24Draw_any D1.out (by omega)).mono ?_
  rintro e v2 ⟨A5, c5, l, A8, c8, tl, rfl, hl, ht, o5, o8, _, z5, z8, d2, t2⟩
  have D2 := Lib.hid d2
  have T2 := Lib.hid t2
  have O5 := Lib.hid o5
  have O8 := Lib.hid o8
  have Z5 := Lib.hid z5
  have Z8 := Lib.hid z8
  clear d2 t2 o5 o8 z5 z8 D1
  go_wp2_with fail
  refine (D2.out.among7 (by omega) 1 20 100 500 20000 0 20001 2).mono ?_
  rintro e v3 ⟨bu, rfl, -, d3, t3⟩
  have HF : Hid (DrawQF w (.returned (.tuple #[.slice A5 l.length c5, .slice A8 tl.length c8, .int .i64 bu])) v3) := Lib.hid
    ⟨A5, c5, l, A8, c8, tl, bu, rfl, hl, ht, (own_farN O5.out t3 hlt1).mono (by omega), (own_farN O8.out t3 hlt1).mono (by omega), Z5.out, Z8.out, HB1.out.trans ((T2.out.trans t3).bel (Nat.le_of_lt hlt1))⟩
  clear d3 t3 D2 T2 O5 O8
  generalize l.length = ln at *
  generalize tl.length = tn at *
  go_wp2_with fail
  exact bodyPost_ret (v := .tuple #[.slice A5 ln c5, .slice A8 tn c8, .int .i64 bu]) (by simp [results, Try.results5, go_sem]) rfl HF.out
def DrawKH (w : World) (e : Ending) (w' : World) : Prop :=
  ∃ (A5 : Option Addr) (c5 : Nat) (l : List HelperR) (A8 : Option Addr) (c8 : Nat) (tl : List TaskR), e = .returned (.tuple #[.slice A5 l.length c5, .slice A8 tl.length c8]) ∧ l.length ≤ 20 ∧ tl.length ≤ 20 ∧
    Own w' w.heap.size 35 3 A5 l.length c5 (l.flatMap HelperR.cells) ∧ Own w' w.heap.size 67 3 A8 tl.length c8 (tl.flatMap TaskR.cells) ∧
    (∀ x ∈ l, x.Id.size ≤ 1048576) ∧ (∀ x ∈ tl, x.Id.size ≤ 1048576) ∧ Below w.heap.size w w'
set_option maxHeartbeats 2000000 in
theorem drawKeyHelpers_any {n c : Nat} {A : Option Addr} {zs : List Int} {w : World} (hr : Bytz w w.heap.size A n zs) (hn : n ≤ 1048576) :
    Calls Try.prog 9 #[.slice A n c] w (DrawKH w) := by
  have Hr := Lib.hid hr
  clear hr
  go_enter Try.func9, Try.ntmps9
  go_wp2_with fail
  refine (from_any (n := n) (c := c) (A := A) (w := w)).mono ?_
  rintro e v1 ⟨rfl, s1, b1⟩
  have D1 := Lib.hid (DS.mk0 s1 (Bytz.below Hr.out b1 (Nat.le_refl _)) (Nat.le_refl _) (by omega))
  have HB1 := Lib.hid b1
  have hlt1 := s1.lt
  clear s1 b1 Hr
  go_wp2_with fail
  refine (l24Draw_any D1.out (by omega)).mono ?_
  rintro e v2 ⟨A5, c5, l, A8, c8, tl, rfl, hl, ht, o5, o8, _, z5, z8, d2, t2⟩
  have HF : Hid (DrawKH w (.returned (.tuple #[.slice A5 l.length c5, .slice A8 tl.length c8])) v2) := Lib.hid
    ⟨A5, c5, l, A8, c8, tl, rfl, hl, ht, o5.mono (by omega), o8.mono (by omega), z5, z8, HB1.out.trans (t2.bel (Nat.le_of_lt hlt1))⟩
  clear d2 t2 o5 o8 z5 z8 D1
  generalize l.length = ln at *
  generalize tl.length = tn at *
  go_wp2_with fail
  exact bodyPost_ret (v := .tuple #[.slice A5 ln c5, .slice A8 tn c8]) (by simp [results, Try.results9, go_sem]) rfl HF.out
end Go.Proofs.Ytcacmiafmanniaa
