/- Ballast: BalanceGroups: the reference's search. -/
import Derived.Test.YtdighpgfepooaaaPc
namespace Go.Proofs.Ytdighpgfepooaaa
open Go.RowKit
set_option maxRecDepth 100000
set_option linter.unusedVariables false
set_option linter.unusedSimpArgs false

theorem HC.setOther {w : World} {b x j : Nat} {vs : List Value} (h : HC w b vs) (hx : b ≠ x) (v : Value) : HC (w.setCell ⟨x, j, none⟩ v) b vs := h.touch2 (Touch2.of_set w x j v none) hx (fun a e => by cases e)
/-- Of what was there only blocks b, b2 and the block at A may have changed. -/
structure Touch3 (w w' : World) (b b2 : Nat) (A : Option Addr) : Prop where
  os : w'.os = w.os
  tape : w'.tape = w.tape
  output : w'.output = w.output
  size : w.heap.size ≤ w'.heap.size
  block : ∀ k, k < w.heap.size → k ≠ b → k ≠ b2 → (∀ a, A = some a → a.block ≠ k) → w'.heap[k]? = w.heap[k]?
theorem Touch3.refl (w : World) (b b2 : Nat) (A : Option Addr) : Touch3 w w b b2 A := ⟨rfl, rfl, rfl, Nat.le_refl _, fun _ _ _ _ _ => rfl⟩
theorem Touch3.trans {w w1 w2 : World} {b b2 : Nat} {A A1 : Option Addr} (h : Touch3 w w1 b b2 A) (h1 : Touch3 w1 w2 b b2 A1) (ho : OldNew w A A1) : Touch3 w w2 b b2 A :=
  ⟨h1.os.trans h.os, h1.tape.trans h.tape, h1.output.trans h.output, Nat.le_trans h.size h1.size, fun k hk hb hb2 hA => (h1.block k (Nat.lt_of_lt_of_le hk h.size) hb hb2 (fun a ha => by
    rcases ho a ha with ⟨a0, e1, e2⟩ | h2
    · rw [← e2]; exact hA a0 e1
    · omega)).trans (h.block k hk hb hb2 hA)⟩
theorem Touch3.of2 {w w' : World} {b b2 : Nat} {A : Option Addr} (h : Touch2 w w' b A) : Touch3 w w' b b2 A := ⟨h.os, h.tape, h.output, h.size, fun k hk hb _ hA => h.block k hk hb hA⟩
theorem Touch3.of2' {w w' : World} {b b2 : Nat} {A : Option Addr} (h : Touch2 w w' b2 A) : Touch3 w w' b b2 A := ⟨h.os, h.tape, h.output, h.size, fun k hk _ hb hA => h.block k hk hb hA⟩
theorem Touch3.below {w w' : World} {b b2 : Nat} {A : Option Addr} (h : Touch3 w w' b b2 A) {B : Nat} (hB : B ≤ w.heap.size) (hb : B ≤ b) (hb2 : B ≤ b2) (hA : ∀ a, A = some a → B ≤ a.block) : Below B w w' :=
  ⟨h.os, h.tape, h.output, h.size, fun k hk => h.block k (by omega) (by omega) (by omega) (fun a ha => by have := hA a ha; omega)⟩
theorem Touch3.drewN (w : World) (b b2 : Nat) (A : Option Addr) (d : Nat) : Touch3 w (w.drewN d) b b2 A := Touch3.of2 (Touch2.of_below b A (below_drewN (Below.refl _ _) d))

/-- The reference's search, in memory. -/
def cvs (A : Option Addr) (n c : Nat) (room : Int) (Ag : Option Addr) (ng cg sb : Nat) (Ab : Option Addr) (nb cb bud : Nat) (s : BS) : List Value :=
  [.slice A n c, .int .i64 room, .slice Ag ng cg, .slice (some ⟨sb, 0, none⟩) 2 2, .slice Ab nb cb, .int .i64 (bbZ s), .int .i64 ((bud - s.left : Nat) : Int), .int .i64 (bud : Int), .bool s.spent]
def CPost (bh sb : Nat) (A : Option Addr) (n c : Nat) (room a b : Int) (bud : Nat) (g : List Int) (s : BS) (A0 : Option Addr) (w : World) (e : Ending) (w' : World) : Prop :=
  ∃ (Ag : Option Addr) (cg : Nat) (Ab : Option Addr) (nb cb : Nat), e = .returned (.tuple #[]) ∧ HC w' bh (cvs A n c room Ag g.length cg sb Ab nb cb bud s) ∧ HC w' sb [.int .i64 a, .int .i64 b] ∧ Own w' (bh + 1) 2 1 Ag g.length cg (g.map (Value.int .i64)) ∧
    Own w' (bh + 1) 2 1 Ab nb cb ((bbL s).map (Value.int .i64)) ∧ Apart Ag Ab ∧ Touch3 w w' bh sb A0 ∧ OldNew w A0 Ag
theorem bapart_max (a b : Int) : max (a - b) (b - a) = bapart [a, b] := by unfold bapart; simp only [nth, List.getD_cons_zero, List.getD_cons_succ]; split <;> omega

end Go.Proofs.Ytdighpgfepooaaa
