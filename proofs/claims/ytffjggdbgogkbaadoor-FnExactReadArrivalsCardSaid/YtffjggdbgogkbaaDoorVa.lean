/- Queues: contracts: arrivals, the queues at the ends of all minutes. -/
import Derived.Test.YtffjggdbgogkbaaDoorL
import Derived.Test.YtffjggdbgogkbaaDoorX
namespace Go.Proofs.YtffjggdbgogkbaaDoor
open Go.RowKit
set_option maxRecDepth 100000
set_option linter.unusedVariables false
set_option linter.unusedSimpArgs false

/-- Arrivals are valid. -/
def arrB (zs : List Int) : Bool := zs.all (fun z => inB z 0 1000) && decide (1 ≤ zs.length) && decide (zs.length ≤ 60)
theorem arrB_true {zs : List Int} : arrB zs = true ↔ (∀ z ∈ zs, 0 ≤ z ∧ z ≤ 1000) ∧ 1 ≤ zs.length ∧ zs.length ≤ 60 := by
  simp [arrB, inB_true, and_assoc]
theorem l20Ok_any (A : Option Addr) (n c B : Nat) (zs : List Int) (w : World) (h : Ints w B A n zs) (hn : n ≤ 140737488351232) :
    Calls Tryd.prog 16 #[.slice A n c] w fun e w' => e = .returned (.bool (arrB zs)) ∧ w = w' := by
  have HL := Lib.hid h.len
  go_enter Tryd.func16, Tryd.ntmps16
  go_wp2_with fail
  go_loopg [3] n (fun gk i wr => ∃ k : Nat, k ≤ n ∧ gk + k = n ∧ i = .int .i64 k ∧ w = wr ∧ (zs.take k).all (fun z => inB z 0 1000) = true)
  case atStart => exact ⟨0, Nat.zero_le _, rfl, rfl, rfl, rfl⟩
  case round =>
    obtain ⟨k, hk, hgk, rfl, rfl, hall⟩ := hrel
    have Hgk := Lib.hid hgk
    have Hall := Lib.hid hall
    clear hgk hall
    by_cases hlt : k < n
    · obtain ⟨ad, rfl, hbl, hc⟩ := h.at_ hlt
      go_wp2_with (go_at_call 26; refine (in_any _ _ _ _).mono ?_; rintro e w' ⟨rfl, rfl⟩)
      · have hf : inB (nth zs k) 0 1000 = false := flip_t (by assumption)
        go_ret
        exact ⟨ret_bool (by rw [arrB, all_false_nth (k := k) (by rw [HL.out]; omega) hf]; rfl), rfl⟩
      · have hf : inB (nth zs k) 0 1000 = true := flip_f (by assumption)
        have hgk := Hgk.out
        go_roundg (gk - 1)
        case rel => exact ⟨k + 1, by omega, by omega, by go_num, rfl, by rw [all_take_succ (by rw [HL.out]; omega), Hall.out, hf]; rfl⟩
        case measure => omega
    · have Hs : Hid (arrB zs = (decide (1 ≤ n) && decide (n ≤ 60))) := by
        have := Hall.out
        rw [List.take_of_length_le (by rw [HL.out]; omega)] at this
        exact Lib.hid (by rw [arrB, this, HL.out]; rfl)
      go_wp2
      all_goals go_ret
      all_goals (refine ⟨ret_bool ?_, rfl⟩; rw [Hs.out]; by_cases a1 : 1 ≤ n <;> by_cases a2 : n ≤ 60 <;> first | (exfalso; omega) | (simp [a1, a2]; done) | (simp [a1, a2]; omega))
theorem validArrivals1_any (z : Int) (w : World) : Calls Tryd.prog 22 #[.int .i64 z] w fun e w' => e = .returned (.bool (!inB z 0 1000)) ∧ w = w' := by
  go_enter Tryd.func22, Tryd.ntmps22
  go_wp2_with (go_at_call 23; refine (isArrival_any _ _).mono ?_; rintro e w' ⟨rfl, rfl⟩)
  go_ret
  exact ⟨rfl, rfl⟩
theorem any_not_all (zs : List Int) (f : Int → Bool) : (!zs.any (fun z => !f z)) = zs.all f := by
  induction zs with
  | nil => rfl
  | cons z zs ih => simp [← ih]
theorem validArrivals_any (A : Option Addr) (n c B : Nat) (zs : List Int) (w : World) (h : Ints w B A n zs) (hn : n ≤ 140737488351232) :
    Calls Tryd.prog 12 #[.slice A n c] w fun e w' => e = .returned (.bool (arrB zs)) ∧ w = w' := by
  have Hs : Hid (arrB zs = (!zs.any (fun z => !inB z 0 1000) && decide (1 ≤ n) && decide (n ≤ 60))) := by
    have hl := h.len
    exact Lib.hid (by rw [any_not_all, arrB, hl])
  go_enter Tryd.func12, Tryd.ntmps12
  go_wp2_with (go_at_call 21; refine (containsFunc_any _ (Lib.hid Tryd.call22) (fun z => !inB z 0 1000) (Lib.hid validArrivals1_any) A n c B zs _ h hn).mono ?_; rintro e w' ⟨rfl, rfl⟩)
  all_goals go_ret
  all_goals (refine ⟨ret_bool ?_, rfl⟩; rw [Hs.out]; by_cases a1 : 1 ≤ n <;> by_cases a2 : n ≤ 60 <;> first | (exfalso; omega) | (simp [a1, a2]; done) | (simp [a1, a2]; omega))
/-- The code of arrivals and of something about numbers. -/
def askC (ok fine : Bool) : Int := if ok then (if fine then 0 else 2) else 1
theorem askC_eq (ok fine : Bool) : askC ok fine = if ok then (if fine then 0 else 2) else 1 := rfl
theorem askC_zero {a b : Bool} : askC a b = 0 ↔ a = true ∧ b = true := by cases a <;> cases b <;> simp [askC]
/-! ### queues -/
/-- Who waits behind minute k + 1, where q wait ahead of it. -/
def midQ (zs : List Int) (every seats q : Int) (k : Nat) : Int := if ((k : Int) + 1).tmod every = 0 then max 0 (q + nth zs k - seats) else q + nth zs k
def stepQ (zs : List Int) (every seats extra q : Int) (k : Nat) : Int := if (k : Int) + 1 = extra then max 0 (midQ zs every seats q k - seats) else midQ zs every seats q k
theorem stepQ_eq (zs : List Int) (every seats extra q : Int) (k : Nat) : stepQ zs every seats extra q k = if (k : Int) + 1 = extra then max 0 ((if ((k : Int) + 1).tmod every = 0 then max 0 (q + nth zs k - seats) else q + nth zs k) - seats) else (if ((k : Int) + 1).tmod every = 0 then max 0 (q + nth zs k - seats) else q + nth zs k) := rfl
def queueTo (zs : List Int) (every seats extra : Int) : Nat → Int
  | 0 => 0
  | k + 1 => stepQ zs every seats extra (queueTo zs every seats extra k) k
theorem queueTo_succ (zs : List Int) (every seats extra : Int) (k : Nat) : queueTo zs every seats extra (k + 1) = stepQ zs every seats extra (queueTo zs every seats extra k) k := rfl
theorem queueTo_bd {zs : List Int} {every seats extra : Int} (hz : ∀ z ∈ zs, 0 ≤ z ∧ z ≤ 1000) (hs : 1 ≤ seats) : ∀ k, k ≤ zs.length → 0 ≤ queueTo zs every seats extra k ∧ queueTo zs every seats extra k ≤ 1000 * k := by
  intro k
  induction k with
  | zero => intro _; simp [queueTo]
  | succ k ih =>
    intro hk
    have h1 := ih (by omega)
    have h2 := hz _ (nth_mem (zs := zs) (k := k) (by omega))
    rw [queueTo_succ, stepQ_eq]
    by_cases c1 : ((k : Int) + 1).tmod every = 0 <;> by_cases c2 : (k : Int) + 1 = extra <;> simp only [c1, c2, if_true, if_false] <;> omega
def queuesTo (zs : List Int) (every seats extra : Int) (k : Nat) : List Int := (List.range k).map fun j => queueTo zs every seats extra (j + 1)
theorem queuesTo_succ (zs : List Int) (every seats extra : Int) (k : Nat) : queuesTo zs every seats extra (k + 1) = queuesTo zs every seats extra k ++ [queueTo zs every seats extra (k + 1)] := by
  simp [queuesTo, List.range_succ]
theorem queuesTo_len (zs : List Int) (every seats extra : Int) (k : Nat) : (queuesTo zs every seats extra k).length = k := by simp [queuesTo]

end Go.Proofs.YtffjggdbgogkbaaDoor
