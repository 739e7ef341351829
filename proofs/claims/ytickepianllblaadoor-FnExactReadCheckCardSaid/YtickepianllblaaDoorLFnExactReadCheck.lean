/- The walk of the law 'FnExactReadCheck': whatever the input, it returns true, and nothing that was there has turned. -/
import Derived.Test.YtickepianllblaaDoorUm
import Derived.Test.YtickepianllblaaDoorO
namespace Go.Proofs.YtickepianllblaaDoor
open Go.RowKit
set_option maxRecDepth 100000
set_option linter.unusedVariables false

theorem b_eq (b : Bool) : (b == b) = true := beq_self_eq_true b
set_option maxHeartbeats 2000000 in
theorem FnExactReadCheck_walk (a0 : ByteArray) (w : World) (w0 : a0.size ≤ maxLen) (tab : TabR w) :
    Calls Tryd.prog 3 #[.string a0] w fun e w' => e = .returned (.bool true) ∧ Below w.heap.size w w' := by
  have Tab := Lib.hid tab
  clear tab
  unfold maxLen at w0
  by_cases b0 : 1048576 < a0.size
  · go_enter Tryd.func3, Tryd.ntmps3
    go_wp2_with fail
    go_ret
    exact ⟨rfl, Below.refl _ _⟩
  have HS := Lib.hid (specReadCheck_any (s := a0) (w := w) (by omega))
  have HI : Hid (∀ W, Below w.heap.size w W → Calls Tryd.prog 5 #[.string a0] W (RcP a0.data.toList W)) := Lib.hid (fun W hW => implReadCheck_any (by omega) (Tab.out.below hW))
  unfold RcP at HS HI
  obtain ⟨⟨⟨p, x, y, u, v⟩, q⟩, hr⟩ : ∃ r, rRC a0.data.toList = r := ⟨_, rfl⟩
  rw [hr] at HS HI
  simp only [CheckR.val] at HS HI
  clear hr
  go_enter Tryd.func3, Tryd.ntmps3
  go_wp2_with fail
  refine HS.out.mono ?_
  rintro e w1 ⟨rfl, b1⟩
  have hs1 := b1.size
  have B2 := Lib.hid (b1.alloc hs1 (.cells #[.string p, .int .i64 x, .int .i64 y, .int .i64 u, .int .i64 v] 23))
  have hx : HC (w1.alloc (.cells #[.string p, .int .i64 x, .int .i64 y, .int .i64 u, .int .i64 v] 23)) w1.heap.size [.string p, .int .i64 x, .int .i64 y, .int .i64 u, .int .i64 v] := ⟨fun j u hu => by simpa using hu, fun j => by simp, by simp⟩
  have Hx := Lib.hid hx
  have hltx := hx.lt
  clear b1 hx
  go_wp2_with fail
  generalize w1.alloc (.cells #[.string p, .int .i64 x, .int .i64 y, .int .i64 u, .int .i64 v] 23) = w2 at *
  refine (HI.out w2 B2.out).mono ?_
  rintro e w3 ⟨rfl, b3⟩
  have hs2 := B2.out.size
  have hs3 := b3.size
  have B3 := Lib.hid (B2.out.trans (b3.mono hs2))
  have Hx3 := Lib.hid (Hx.out.below b3 hltx)
  have hlt3 := Hx3.out.lt
  have B4 := Lib.hid (B3.out.alloc B3.out.size (.cells #[.string p, .int .i64 x, .int .i64 y, .int .i64 u, .int .i64 v] 23))
  have hy : HC (w3.alloc (.cells #[.string p, .int .i64 x, .int .i64 y, .int .i64 u, .int .i64 v] 23)) w3.heap.size [.string p, .int .i64 x, .int .i64 y, .int .i64 u, .int .i64 v] := ⟨fun j u hu => by simpa using hu, fun j => by simp, by simp⟩
  have hx4 : HC (w3.alloc (.cells #[.string p, .int .i64 x, .int .i64 y, .int .i64 u, .int .i64 v] 23)) w1.heap.size [.string p, .int .i64 x, .int .i64 y, .int .i64 u, .int .i64 v] := Hx3.out.below ((Below.refl w3.heap.size w3).alloc (Nat.le_refl _) _) hlt3
  clear b3
  have HE : Hid (∀ W, Calls Tryd.prog 6 #[.agg #[.string p, .int .i64 x, .int .i64 y, .int .i64 u, .int .i64 v], .agg #[.string p, .int .i64 x, .int .i64 y, .int .i64 u, .int .i64 v]] W fun e w' => e = .returned (.bool true) ∧ Below W.heap.size W w') := Lib.hid (fun W => eqCheck_same)
  clear HS HI
  have v0 : (w3.alloc (.cells #[.string p, .int .i64 x, .int .i64 y, .int .i64 u, .int .i64 v] 23)).cell? ⟨w1.heap.size, 0, none⟩ = some (.string p) := hx4.at_ 0 _ rfl
  have v1 : (w3.alloc (.cells #[.string p, .int .i64 x, .int .i64 y, .int .i64 u, .int .i64 v] 23)).cell? ⟨w1.heap.size, 1, none⟩ = some (.int .i64 x) := hx4.at_ 1 _ rfl
  have v2 : (w3.alloc (.cells #[.string p, .int .i64 x, .int .i64 y, .int .i64 u, .int .i64 v] 23)).cell? ⟨w1.heap.size, 2, none⟩ = some (.int .i64 y) := hx4.at_ 2 _ rfl
  have v3 : (w3.alloc (.cells #[.string p, .int .i64 x, .int .i64 y, .int .i64 u, .int .i64 v] 23)).cell? ⟨w1.heap.size, 3, none⟩ = some (.int .i64 u) := hx4.at_ 3 _ rfl
  have v4 : (w3.alloc (.cells #[.string p, .int .i64 x, .int .i64 y, .int .i64 u, .int .i64 v] 23)).cell? ⟨w1.heap.size, 4, none⟩ = some (.int .i64 v) := hx4.at_ 4 _ rfl
  clear hx4 hy
  cases q with
  | true =>
    go_wp2_with fail
    refine (HE.out _).mono ?_
    rintro e w5 ⟨rfl, b5⟩
    have B5 := Lib.hid (B4.out.trans (b5.mono B4.out.size))
    go_wp2_with fail
    go_ret
    exact ⟨rfl, B5.out⟩
  | false =>
    go_wp2_with fail
    refine (HE.out _).mono ?_
    rintro e w5 ⟨rfl, b5⟩
    have B5 := Lib.hid (B4.out.trans (b5.mono B4.out.size))
    go_wp2_with fail
    go_ret
    exact ⟨rfl, B5.out⟩
end Go.Proofs.YtickepianllblaaDoor
