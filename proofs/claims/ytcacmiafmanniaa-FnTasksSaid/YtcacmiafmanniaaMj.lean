/- Helpers: QuickestFill: the reference's search. -/
import Derived.Test.YtcacmiafmanniaaMi
namespace Go.Proofs.Ytcacmiafmanniaa
open Go.RowKit
set_option maxRecDepth 100000
set_option linter.unusedVariables false
set_option linter.unusedSimpArgs false

def bestZ (s : QS) : Int := match s.best with | some (_, m) => (m : Int) | none => -1
theorem bestZ_none {s : QS} (h : s.best = none) : bestZ s = -1 := by unfold bestZ; rw [h]
theorem bestZ_some {s : QS} {g : List Nat} {m : Nat} (h : s.best = some (g, m)) : bestZ s = (m : Int) := by unfold bestZ; rw [h]
/-- The reference's search, in memory. -/
def svs (A : Option Addr) (n c : Nat) (A'' : Option Addr) (nt ct : Nat) (Ag : Option Addr) (ng cg : Nat) (Ab : Option Addr) (nb cb bud : Nat) (s : QS) : List Value :=
  [.slice A n c, .slice A'' nt ct, .slice Ag ng cg, .slice Ab nb cb, .int .i64 (bestZ s), .int .i64 ((bud - s.left : Nat) : Int), .int .i64 (bud : Int), .bool s.spent]
def SPost (bh : Nat) (A : Option Addr) (n c : Nat) (A'' : Option Addr) (nt ct bud : Nat) (g : List Nat) (s : QS) (A0 : Option Addr) (w : World) (e : Ending) (w' : World) : Prop :=
  ∃ (Ag : Option Addr) (cg : Nat) (Ab : Option Addr) (nb cb : Nat), e = .returned (.tuple #[]) ∧ HC w' bh (svs A n c A'' nt ct Ag g.length cg Ab nb cb bud s) ∧ Own w' (bh + 1) 2 1 Ag g.length cg ((ci g).map (Value.int .i64)) ∧
    Own w' (bh + 1) 2 1 Ab nb cb ((ci (bestL s)).map (Value.int .i64)) ∧ Apart Ag Ab ∧ Touch2 w w' bh A0 ∧ OldNew w A0 Ag
/-- A step, for one who may not be able to do the task. -/
def cstep (l : List HelperR) (t : TaskR) (rec : List Nat → Nat → QS → QS) (g : List Nat) (sum : Nat) (s : QS) (k : Nat) : QS := if canB (HelperR.at_ l k) t then qstep l rec g sum s k else s
theorem fold_can (l : List HelperR) (t : TaskR) (rec : List Nat → Nat → QS → QS) (g : List Nat) (sum : Nat) (s : QS) : (csH l t).foldl (qstep l rec g sum) s = (List.range l.length).foldl (cstep l t rec g sum) s := by
  rw [csH_filter, List.foldl_filter]; rfl
theorem foldC_succ (f : QS → Nat → QS) (k : Nat) (s : QS) : (List.range (k + 1)).foldl f s = f ((List.range k).foldl f s) k := by
  rw [List.range_succ, List.foldl_append]; rfl
theorem cfold_spent (l : List HelperR) (t : TaskR) (rec : List Nat → Nat → QS → QS) (g : List Nat) (sum : Nat) : ∀ (ks : List Nat) (s : QS), s.spent = true → ks.foldl (cstep l t rec g sum) s = s := by
  intro ks
  induction ks with
  | nil => intro s _; rfl
  | cons k ks ih =>
    intro s h
    rw [List.foldl_cons]
    have : cstep l t rec g sum s k = s := by unfold cstep; rw [qstep_spent _ _ _ _ _ _ h]; split <;> rfl
    rw [this]; exact ih s h
theorem range_from (f : QS → Nat → QS) (s : QS) (k n : Nat) (hk : k ≤ n) (h : ∀ ks : List Nat, ks.foldl f ((List.range k).foldl f s) = (List.range k).foldl f s) : (List.range n).foldl f s = (List.range k).foldl f s := by
  obtain ⟨d, rfl⟩ : ∃ d, n = k + d := ⟨n - k, by omega⟩
  rw [List.range_add, List.foldl_append]; exact h _

end Go.Proofs.Ytcacmiafmanniaa
