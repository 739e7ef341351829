/- Queues: contracts: arrivals, the queues at the ends of all minutes. -/
import Derived.Test.YtickepianllblaaGreatDoorL
import Derived.Test.YtickepianllblaaGreatDoorX
namespace Go.Proofs.YtickepianllblaaGreatDoor
open Go.RowKit
set_option maxRecDepth 100000
set_option linter.unusedVariables false
set_option linter.unusedSimpArgs false

/-- Arrivals are valid. -/
def arrB (zs : List Int) : Bool := zs.all (fun z => inB z 0 1000) && decide (1 ≤ zs.length) && decide (zs.length ≤ 60)
theorem arrB_true {zs : List Int} : arrB zs = true ↔ (∀ z ∈ zs, 0 ≤ z ∧ z ≤ 1000) ∧ 1 ≤ zs.length ∧ zs.length ≤ 60 := by
  simp [arrB, inB_true, and_assoc]
theorem any_not_all (zs : List Int) (f : Int → Bool) : (!zs.any (fun z => !f z)) = zs.all f := by
  induction zs with
  | nil => rfl
  | cons z zs ih => simp [← ih]
/-- The code of arrivals and of something about numbers. -/
def askC (ok fine : Bool) : Int := if ok then (if fine then 0 else 2) else 1
theorem askC_eq (ok fine : Bool) : askC ok fine = if ok then (if fine then 0 else 2) else 1 := rfl
theorem askC_zero {a b : Bool} : askC a b = 0 ↔ a = true ∧ b = true := by cases a <;> cases b <;> simp [askC]
/-! ### queues -/
/-- Who waits behind minute k + 1, where q wait ahead of it. -/
def midQ (zs : List Int) (every seats q : Int) (k : Nat) : Int := if ((k : Int) + 1).tmod every = 0 then max 0 (q + nth zs k - seats) else q + nth zs k
def stepQ (zs : List Int) (every seats extra q : Int) (k : Nat) : Int := if (k : Int) + 1 = extra then max 0 (midQ zs every seats q k - seats) else midQ zs every seats q k
theorem stepQ_eq (zs : List Int) (every seats extra q : Int) (k : Nat) : stepQ zs every seats extra q k = if (k : Int) + 1 = extra then max 0 ((if ((k : Int) + 1).tmod every = 0 then max 0 (q + nth zs k - seats) else q + nth zs k) - seats) else (if ((k : Int) + 1).tmod every = 0 then max 0 (q + nth zs k - seats) else q + nth zs k) := rfl
def queueTo (zs : List Int) (every seats extra : Int) : Nat → Int
  | 0 => 0
  | k + 1 => stepQ zs every seats extra (queueTo zs every seats extra k) k
theorem queueTo_succ (zs : List Int) (every seats extra : Int) (k : Nat) : queueTo zs every seats extra (k + 1) = stepQ zs every seats extra (queueTo zs every seats extra k) k := rfl
theorem queueTo_bd {zs : List Int} {every seats extra : Int} (hz : ∀ z ∈ zs, 0 ≤ z ∧ z ≤ 1000) (hs : 1 ≤ seats) : ∀ k, k ≤ zs.length → 0 ≤ queueTo zs every seats extra k ∧ queueTo zs every seats extra k ≤ 1000 * k := by
  intro k
  induction k with
  | zero => intro _; simp [queueTo]
  | succ k ih =>
    intro hk
    have h1 := ih (by omega)
    have h2 := hz _ (nth_mem (zs := zs) (k := k) (by omega))
    rw [queueTo_succ, stepQ_eq]
    by_cases c1 : ((k : Int) + 1).tmod every = 0 <;> by_cases c2 : (k : Int) + 1 = extra <;> simp only [c1, c2, if_true, if_false] <;> omega
def queuesTo (zs : List Int) (every seats extra : Int) (k : Nat) : List Int := (List.range k).map fun j => queueTo zs every seats extra (j + 1)
theorem queuesTo_succ (zs : List Int) (every seats extra : Int) (k : Nat) : queuesTo zs every seats extra (k + 1) = queuesTo zs every seats extra k ++ [queueTo zs every seats extra (k + 1)] := by
  simp [queuesTo, List.range_succ]
theorem queuesTo_len (zs : List Int) (every seats extra : Int) (k : Nat) : (queuesTo zs every seats extra k).length = k := by simp [queuesTo]

end Go.Proofs.YtickepianllblaaGreatDoor
