/- Queues: contracts: arrivals, the queues at the ends of all minutes. -/
import Derived.Test.YtngbdjbgbjbjaaaGreatDoorL
import Derived.Test.YtngbdjbgbjbjaaaGreatDoorX
namespace Go.Proofs.YtngbdjbgbjbjaaaGreatDoor
open Go.RowKit
set_option maxRecDepth 100000
set_option linter.unusedVariables false
set_option linter.unusedSimpArgs false

/-- Arrivals are valid. -/
def arrB (zs : List Int) : Bool := zs.all (fun z => inB z 0 1000) && decide (1 ≤ zs.length) && decide (zs.length ≤ 60)
theorem arrB_true {zs : List Int} : arrB zs = true ↔ (∀ z ∈ zs, 0 ≤ z ∧ z ≤ 1000) ∧ 1 ≤ zs.length ∧ zs.length ≤ 60 := by
  simp [arrB, inB_true, and_assoc]
theorem l20Ok_any (A : Option Addr) (n c B : Nat) (zs : List Int) (w : World) (h : Ints w B A n zs) (hn : n ≤ 140737488351232) :
    Calls Tryz.prog 55 #[.slice A n c] w fun e w' => e = .returned (.bool (arrB zs)) ∧ w = w' := by
  have HL := Lib.hid h.len
  go_enter Tryz.func55, Tryz.ntmps55
  go_wp2_with fail
  go_loopg [3] n (fun gk i wr => ∃ k : Nat, k ≤ n ∧ gk + k = n ∧ i = .int .i64 k ∧ w = wr ∧ (zs.take k).all (fun z => inB z 0 1000) = true)
  case atStart => exact ⟨0, Nat.zero_le _, rfl, rfl, rfl, rfl⟩
  case round =>
    obtain ⟨k, hk, hgk, rfl, rfl, hall⟩ := hrel
    have Hgk := Lib.hid hgk
    have Hall := Lib.hid hall
    clear hgk hall
    by_cases hlt : k < n
    · obtain ⟨ad, rfl, hbl, hc⟩ := h.at_ hlt
      go_wp2_with (go_at_call 70; refine (in_any _ _ _ _).mono ?_; rintro e w' ⟨rfl, rfl⟩)
      · have hf : inB (nth zs k) 0 1000 = false := flip_t (by assumption)
        go_ret
        exact ⟨ret_bool (by rw [arrB, all_false_nth (k := k) (by rw [HL.out]; omega) hf]; rfl), rfl⟩
      · have hf : inB (nth zs k) 0 1000 = true := flip_f (by assumption)
        have hgk := Hgk.out
        go_roundg (gk - 1)
        case rel => exact ⟨k + 1, by omega, by omega, by go_num, rfl, by rw [all_take_succ (by rw [HL.out]; omega), Hall.out, hf]; rfl⟩
        case measure => omega
    · have Hs : Hid (arrB zs = (decide (1 ≤ n) && decide (n ≤ 60))) := by
        have := Hall.out
        rw [List.take_of_length_le (by rw [HL.out]; omega)] at this
        exact Lib.hid (by rw [arrB, this, HL.out]; rfl)
      go_wp2
      all_goals go_ret
      all_goals (refine ⟨ret_bool ?_, rfl⟩; rw [Hs.out]; by_cases a1 : 1 ≤ n <;> by_cases a2 : n ≤ 60 <;> first | (exfalso; omega) | (simp [a1, a2]; done) | (simp [a1, a2]; omega))
theorem validArrivals1_any (z : Int) (w : World) : Calls Tryz.prog 48 #[.int .i64 z] w fun e w' => e = .returned (.bool (!inB z 0 1000)) ∧ w = w' := by
  go_enter Tryz.func48, Tryz.ntmps48
  go_wp2_with (go_at_call 49; refine (isArrival_any _ _).mono ?_; rintro e w' ⟨rfl, rfl⟩)
  go_ret
  exact ⟨rfl, rfl⟩
theorem any_not_all (zs : List Int) (f : Int → Bool) : (!zs.any (fun z => !f z)) = zs.all f := by
  induction zs with
  | nil => rfl
  | cons z zs ih => simp [← ih]
theorem validArrivals_any (A : Option Addr) (n c B : Nat) (zs : List Int) (w : World) (h : Ints w B A n zs) (hn : n ≤ 140737488351232) :
    Calls Tryz.prog 32 #[.slice A n c] w fun e w' => e = .returned (.bool (arrB zs)) ∧ w = w' := by
  have Hs : Hid (arrB zs = (!zs.any (fun z => !inB z 0 1000) && decide (1 ≤ n) && decide (n ≤ 60))) := by
    have hl := h.len
    exact Lib.hid (by rw [any_not_all, arrB, hl])
  go_enter Tryz.func32, Tryz.ntmps32
  go_wp2_with (go_at_call 47; refine (containsFunc_any _ (Lib.hid Tryz.call48) (fun z => !inB z 0 1000) (Lib.hid validArrivals1_any) A n c B zs _ h hn).mono ?_; rintro e w' ⟨rfl, rfl⟩)
  all_goals go_ret
  all_goals (refine ⟨ret_bool ?_, rfl⟩; rw [Hs.out]; by_cases a1 : 1 ≤ n <;> by_cases a2 : n ≤ 60 <;> first | (exfalso; omega) | (simp [a1, a2]; done) | (simp [a1, a2]; omega))
/-- The code of arrivals and of something about numbers. -/
def askC (ok fine : Bool) : Int := if ok then (if fine then 0 else 2) else 1
theorem askC_eq (ok fine : Bool) : askC ok fine = if ok then (if fine then 0 else 2) else 1 := rfl
theorem askC_zero {a b : Bool} : askC a b = 0 ↔ a = true ∧ b = true := by cases a <;> cases b <;> simp [askC]
theorem arriving_any (A : Option Addr) (n c B : Nat) (zs : List Int) (fine : Bool) (w : World) (h : Ints w B A n zs) (hn : n ≤ 140737488351232) :
    Calls Tryz.prog 22 #[.slice A n c, .bool fine] w fun e w' => e = .returned (.int .i64 (askC (arrB zs) fine)) ∧ w = w' := by
  cases v : arrB zs <;> cases fine <;>
    (go_enter Tryz.func22, Tryz.ntmps22
     go_wp2_with (go_at_call 32; refine (validArrivals_any A n c B zs _ h hn).mono ?_; rintro e w' ⟨rfl, rfl⟩)
     go_ret
     exact ⟨ret_int (by rfl), rfl⟩)
theorem l20Ask_any (A : Option Addr) (n c B : Nat) (zs : List Int) (every seats : Int) (w : World) (h : Ints w B A n zs) (hn : n ≤ 140737488351232) :
    Calls Tryz.prog 37 #[.slice A n c, .int .i64 every, .int .i64 seats] w fun e w' => e = .returned (.int .i64 (askC (arrB zs) (inB every 1 60 && inB seats 1 1000))) ∧ w = w' := by
  cases v : arrB zs <;> cases v1 : inB every 1 60 <;> cases v2 : inB seats 1 1000 <;>
    (go_enter Tryz.func37, Tryz.ntmps37
     go_wp2_with (first | (go_at_call 55; refine (l20Ok_any A n c B zs _ h hn).mono ?_; rintro e w' ⟨rfl, rfl⟩) | (go_at_call 56; refine (l20Every_any _ _).mono ?_; rintro e w' ⟨rfl, rfl⟩) | (go_at_call 57; refine (l20Seats_any _ _).mono ?_; rintro e w' ⟨rfl, rfl⟩))
     go_ret
     exact ⟨ret_int (by rfl), rfl⟩)

/-! ### queues -/
/-- Who waits behind minute k + 1, where q wait ahead of it. -/
def midQ (zs : List Int) (every seats q : Int) (k : Nat) : Int := if ((k : Int) + 1).tmod every = 0 then max 0 (q + nth zs k - seats) else q + nth zs k
def stepQ (zs : List Int) (every seats extra q : Int) (k : Nat) : Int := if (k : Int) + 1 = extra then max 0 (midQ zs every seats q k - seats) else midQ zs every seats q k
theorem stepQ_eq (zs : List Int) (every seats extra q : Int) (k : Nat) : stepQ zs every seats extra q k = if (k : Int) + 1 = extra then max 0 ((if ((k : Int) + 1).tmod every = 0 then max 0 (q + nth zs k - seats) else q + nth zs k) - seats) else (if ((k : Int) + 1).tmod every = 0 then max 0 (q + nth zs k - seats) else q + nth zs k) := rfl
def queueTo (zs : List Int) (every seats extra : Int) : Nat → Int
  | 0 => 0
  | k + 1 => stepQ zs every seats extra (queueTo zs every seats extra k) k
theorem queueTo_succ (zs : List Int) (every seats extra : Int) (k : Nat) : queueTo zs every seats extra (k + 1) = stepQ zs every seats extra (queueTo zs every seats extra k) k := rfl
theorem queueTo_bd {zs : List Int} {every seats extra : Int} (hz : ∀ z ∈ zs, 0 ≤ z ∧ z ≤ 1000) (hs : 1 ≤ seats) : ∀ k, k ≤ zs.length → 0 ≤ queueTo zs every seats extra k ∧ queueTo zs every seats extra k ≤ 1000 * k := by
  intro k
  induction k with
  | zero => intro _; simp [queueTo]
  | succ k ih =>
    intro hk
    have h1 := ih (by omega)
    have h2 := hz _ (nth_mem (zs := zs) (k := k) (by omega))
    rw [queueTo_succ, stepQ_eq]
    by_cases c1 : ((k : Int) + 1).tmod every = 0 <;> by_cases c2 : (k : Int) + 1 = extra <;> simp only [c1, c2, if_true, if_false] <;> omega
def queuesTo (zs : List Int) (every seats extra : Int) (k : Nat) : List Int := (List.range k).map fun j => queueTo zs every seats extra (j + 1)
theorem queuesTo_succ (zs : List Int) (every seats extra : Int) (k : Nat) : queuesTo zs every seats extra (k + 1) = queuesTo zs every seats extra k ++ [queueTo zs every seats extra (k + 1)] := by
  simp [queuesTo, List.range_succ]
theorem queuesTo_len (zs : List Int) (every seats extra : Int) (k : Nat) : (queuesTo zs every seats extra k).length = k := by simp [queuesTo]

set_option maxHeartbeats 1000000 in
theorem queues_any (A : Option Addr) (n c B : Nat) (zs : List Int) (every seats extra : Int) (w : World) (h : Ints w B A n zs) (hB : B ≤ w.heap.size) (hn : n ≤ 60) (hz : ∀ z ∈ zs, 0 ≤ z ∧ z ≤ 1000) (he : 1 ≤ every ∧ every ≤ 60) (hs : 1 ≤ seats ∧ seats ≤ 1000) :
    Calls Tryz.prog 25 #[.slice A n c, .int .i64 every, .int .i64 seats, .int .i64 extra] w fun e w' => ∃ A' c', e = .returned (.slice A' n c') ∧ Own w' w.heap.size 2 1 A' n c' ((queuesTo zs every seats extra n).map (Value.int .i64)) ∧ Below w.heap.size w w' := by
  have HL := Lib.hid h.len
  have Hz := Lib.hid hz
  have Hbd := Lib.hid (queueTo_bd (every := every) (extra := extra) hz hs.1)
  clear hz
  obtain ⟨i0, hi, hz0, hz1, hz2⟩ := info_parts info_int
  go_enter Tryz.func25, Tryz.ntmps25
  go_wp2_with fail
  go_loopg [9, 10, 16] n (fun gk v q i wr => ∃ (k : Nat) (A' : Option Addr) (c' : Nat), k ≤ n ∧ gk + k = n ∧ i = .int .i64 k ∧ q = .int .i64 (queueTo zs every seats extra k) ∧ v = .slice A' k c' ∧ Own wr w.heap.size 2 1 A' k c' ((queuesTo zs every seats extra k).map (Value.int .i64)) ∧ Below w.heap.size w wr)
  case atStart => exact ⟨0, none, 0, by omega, by omega, rfl, rfl, rfl, Own.nil _ _ _ _, Below.refl _ _⟩
  case round =>
    obtain ⟨k, A', c', hk, hgk, rfl, rfl, rfl, ho, hb⟩ := hrel
    have Hgk := Lib.hid hgk
    have hbs := hb.size
    clear hgk
    by_cases hlt : k < n
    · obtain ⟨ad, rfl, hbl, hc⟩ := Ints.at_ (Reads.below h hb hB) hlt
      have hbd := Hbd.out k (by rw [HL.out]; omega)
      have hzk := Hz.out _ (nth_mem (zs := zs) (k := k) (by rw [HL.out]; omega))
      have Hs0 : Hid (queueTo zs every seats extra (k + 1) = if (k : Int) + 1 = extra then max 0 ((if ((k : Int) + 1).tmod every = 0 then max 0 (queueTo zs every seats extra k + nth zs k - seats) else queueTo zs every seats extra k + nth zs k) - seats) else (if ((k : Int) + 1).tmod every = 0 then max 0 (queueTo zs every seats extra k + nth zs k - seats) else queueTo zs every seats extra k + nth zs k)) := Lib.hid (by rw [queueTo_succ, stepQ_eq])
      generalize queueTo zs every seats extra k = q at *
      generalize nth zs k = z at *
      have hk0 : (0 : Int) ≤ (k : Int) := by omega
      have hk1 : (k : Int) < (n : Int) := by omega
      have hq1 : IntKind.i64.wrap ((k : Int) + 1) = (k : Int) + 1 := IntWalk.i64_in _ (by omega)
      have hq2 : (k : Int) + 1 - 1 = k := by omega
      have hq3 : IntKind.i64.wrap ((k : Int) + 1 - 1) = k := by rw [hq2]; exact IntWalk.i64_in _ (by omega)
      have hq8 : IntKind.i64.wrap (k : Int) = k := IntWalk.i64_in _ (by omega)
      have hq4 : IntKind.i64.wrap (q + z) = q + z := IntWalk.i64_in _ (by omega)
      have hq5 : IntKind.i64.wrap (q + z - seats) = q + z - seats := IntWalk.i64_in _ (by omega)
      have hqe : ¬ every = 0 := by omega
      have htm : 0 ≤ ((k : Int) + 1).tmod every ∧ ((k : Int) + 1).tmod every < 60 := ⟨Int.tmod_nonneg _ (by omega), by have := Int.tmod_lt_of_pos ((k : Int) + 1) (show 0 < every by omega); omega⟩
      have hq6 : IntKind.i64.wrap (((k : Int) + 1).tmod every) = ((k : Int) + 1).tmod every := IntWalk.i64_in _ (by omega)
      clear Hbd
      by_cases c1 : ((k : Int) + 1).tmod every = 0
      · have d1 : ((((k : Int) + 1) % every) == 0) = true := by rw [← Int.tmod_eq_emod_of_nonneg (by omega)]; simp [c1]
        by_cases c2 : (k : Int) + 1 = extra
        · have d2 : ((k : Int) + 1 == extra) = true := by simp [c2]
          have Hs : Hid (queueTo zs every seats extra (k + 1) = max 0 (max 0 (q + z - seats) - seats)) := Lib.hid (by rw [Hs0.out, if_pos c2, if_pos c1])
          clear c2
          go_wp2_with (first | (at_builtin; refine wpList_app rfl _ _ 24 rfl 2 i0 _ 1 8 Tryz.underlying24 hi hz0 hz1 hz2 rfl (by omega) (by omega) w.heap.size _ _ _ _ rfl (ho.alloc _) ⟨wr.heap.size, 0, none⟩ 1 1 _ rfl rfl (cell_one_new _ _ _) (by simp [Value.oneCell']) (by omega) (by simp; omega) ?_))
          all_goals
            intro A3 c3 w1 ho1 hg1 hb1 hat
            have ho2 : Own w1 w.heap.size 2 1 A3 (k + 1) c3 ((queuesTo zs every seats extra (k + 1)).map (Value.int .i64)) := by
              rw [queuesTo_succ, List.map_append]; exact own_app ho1 (by first | (rw [Hs.out]; done) | (rw [Hs.out]; omega) | (rw [Hs.out]; simp only [Int.max_def]; (repeat' split) <;> omega))
            have hb2 : Below w.heap.size w w1 := (hb.alloc hbs _).trans hb1
            clear ho1 hg1 hat hb1
            go_wp2_with fail
            have hgk := Hgk.out
            go_roundg (gk - 1)
            case rel => exact ⟨k + 1, A3, c3, by omega, by omega, by go_num, int_eq (by first | (rw [Hs.out]; done) | (rw [Hs.out]; omega) | (rw [Hs.out]; simp only [Int.max_def]; (repeat' split) <;> omega)), rfl, ho2, hb2⟩
            case measure => omega
        · have d2 : ((k : Int) + 1 == extra) = false := by simp [c2]
          have Hs : Hid (queueTo zs every seats extra (k + 1) = max 0 (q + z - seats)) := Lib.hid (by rw [Hs0.out, if_neg c2, if_pos c1])
          clear c2
          go_wp2_with (first | (at_builtin; refine wpList_app rfl _ _ 24 rfl 2 i0 _ 1 8 Tryz.underlying24 hi hz0 hz1 hz2 rfl (by omega) (by omega) w.heap.size _ _ _ _ rfl (ho.alloc _) ⟨wr.heap.size, 0, none⟩ 1 1 _ rfl rfl (cell_one_new _ _ _) (by simp [Value.oneCell']) (by omega) (by simp; omega) ?_))
          all_goals
            intro A3 c3 w1 ho1 hg1 hb1 hat
            have ho2 : Own w1 w.heap.size 2 1 A3 (k + 1) c3 ((queuesTo zs every seats extra (k + 1)).map (Value.int .i64)) := by
              rw [queuesTo_succ, List.map_append]; exact own_app ho1 (by first | (rw [Hs.out]; done) | (rw [Hs.out]; omega) | (rw [Hs.out]; simp only [Int.max_def]; (repeat' split) <;> omega))
            have hb2 : Below w.heap.size w w1 := (hb.alloc hbs _).trans hb1
            clear ho1 hg1 hat hb1
            go_wp2_with fail
            have hgk := Hgk.out
            go_roundg (gk - 1)
            case rel => exact ⟨k + 1, A3, c3, by omega, by omega, by go_num, int_eq (by first | (rw [Hs.out]; done) | (rw [Hs.out]; omega) | (rw [Hs.out]; simp only [Int.max_def]; (repeat' split) <;> omega)), rfl, ho2, hb2⟩
            case measure => omega
      · have d1 : ((((k : Int) + 1) % every) == 0) = false := by rw [← Int.tmod_eq_emod_of_nonneg (by omega)]; simp [c1]
        by_cases c2 : (k : Int) + 1 = extra
        · have d2 : ((k : Int) + 1 == extra) = true := by simp [c2]
          have Hs : Hid (queueTo zs every seats extra (k + 1) = max 0 (q + z - seats)) := Lib.hid (by rw [Hs0.out, if_pos c2, if_neg c1])
          clear c2
          go_wp2_with (first | (at_builtin; refine wpList_app rfl _ _ 24 rfl 2 i0 _ 1 8 Tryz.underlying24 hi hz0 hz1 hz2 rfl (by omega) (by omega) w.heap.size _ _ _ _ rfl (ho.alloc _) ⟨wr.heap.size, 0, none⟩ 1 1 _ rfl rfl (cell_one_new _ _ _) (by simp [Value.oneCell']) (by omega) (by simp; omega) ?_))
          all_goals
            intro A3 c3 w1 ho1 hg1 hb1 hat
            have ho2 : Own w1 w.heap.size 2 1 A3 (k + 1) c3 ((queuesTo zs every seats extra (k + 1)).map (Value.int .i64)) := by
              rw [queuesTo_succ, List.map_append]; exact own_app ho1 (by first | (rw [Hs.out]; done) | (rw [Hs.out]; omega) | (rw [Hs.out]; simp only [Int.max_def]; (repeat' split) <;> omega))
            have hb2 : Below w.heap.size w w1 := (hb.alloc hbs _).trans hb1
            clear ho1 hg1 hat hb1
            go_wp2_with fail
            have hgk := Hgk.out
            go_roundg (gk - 1)
            case rel => exact ⟨k + 1, A3, c3, by omega, by omega, by go_num, int_eq (by first | (rw [Hs.out]; done) | (rw [Hs.out]; omega) | (rw [Hs.out]; simp only [Int.max_def]; (repeat' split) <;> omega)), rfl, ho2, hb2⟩
            case measure => omega
        · have d2 : ((k : Int) + 1 == extra) = false := by simp [c2]
          have Hs : Hid (queueTo zs every seats extra (k + 1) = q + z) := Lib.hid (by rw [Hs0.out, if_neg c2, if_neg c1])
          clear c2
          go_wp2_with (first | (at_builtin; refine wpList_app rfl _ _ 24 rfl 2 i0 _ 1 8 Tryz.underlying24 hi hz0 hz1 hz2 rfl (by omega) (by omega) w.heap.size _ _ _ _ rfl (ho.alloc _) ⟨wr.heap.size, 0, none⟩ 1 1 _ rfl rfl (cell_one_new _ _ _) (by simp [Value.oneCell']) (by omega) (by simp; omega) ?_))
          all_goals
            intro A3 c3 w1 ho1 hg1 hb1 hat
            have ho2 : Own w1 w.heap.size 2 1 A3 (k + 1) c3 ((queuesTo zs every seats extra (k + 1)).map (Value.int .i64)) := by
              rw [queuesTo_succ, List.map_append]; exact own_app ho1 (by first | (rw [Hs.out]; done) | (rw [Hs.out]; omega) | (rw [Hs.out]; simp only [Int.max_def]; (repeat' split) <;> omega))
            have hb2 : Below w.heap.size w w1 := (hb.alloc hbs _).trans hb1
            clear ho1 hg1 hat hb1
            go_wp2_with fail
            have hgk := Hgk.out
            go_roundg (gk - 1)
            case rel => exact ⟨k + 1, A3, c3, by omega, by omega, by go_num, int_eq (by first | (rw [Hs.out]; done) | (rw [Hs.out]; omega) | (rw [Hs.out]; simp only [Int.max_def]; (repeat' split) <;> omega)), rfl, ho2, hb2⟩
            case measure => omega
    · have hke : n = k := by omega
      subst hke
      have hd : ¬ ((n : Int) < (n : Int)) := by omega
      have hd' : ¬ ((n : Int) + 1 ≤ (n : Int)) := by omega
      go_wp2_with fail
      go_ret
      exact ⟨_, _, rfl, ho, hb⟩

set_option maxHeartbeats 1000000 in
theorem l20Queues_any (A : Option Addr) (n c B : Nat) (zs : List Int) (every seats extra : Int) (w : World) (h : Ints w B A n zs) (hB : B ≤ w.heap.size) (hn : n ≤ 60) (hz : ∀ z ∈ zs, 0 ≤ z ∧ z ≤ 1000) (he : 1 ≤ every ∧ every ≤ 60) (hs : 1 ≤ seats ∧ seats ≤ 1000) :
    Calls Tryz.prog 39 #[.slice A n c, .int .i64 every, .int .i64 seats, .int .i64 extra] w fun e w' => ∃ A' c', e = .returned (.slice A' n c') ∧ Own w' w.heap.size 2 1 A' n c' ((queuesTo zs every seats extra n).map (Value.int .i64)) ∧ Below w.heap.size w w' := by
  have HL := Lib.hid h.len
  have Hz := Lib.hid hz
  have Hbd := Lib.hid (queueTo_bd (every := every) (extra := extra) hz hs.1)
  clear hz
  obtain ⟨i0, hi, hz0, hz1, hz2⟩ := info_parts info_int
  go_enter Tryz.func39, Tryz.ntmps39
  go_wp2_with fail
  go_loopg [9, 10, 11] n (fun gk v q i wr => ∃ (k : Nat) (A' : Option Addr) (c' : Nat), k ≤ n ∧ gk + k = n ∧ i = .int .i64 ((k : Int) + 1) ∧ q = .int .i64 (queueTo zs every seats extra k) ∧ v = .slice A' k c' ∧ Own wr w.heap.size 2 1 A' k c' ((queuesTo zs every seats extra k).map (Value.int .i64)) ∧ Below w.heap.size w wr)
  case atStart => exact ⟨0, _, 0, by omega, by omega, rfl, rfl, rfl, Own.empty _ _ _ _ (Nat.le_refl _), (Below.refl _ _).alloc (Nat.le_refl _) _⟩
  case round =>
    obtain ⟨k, A', c', hk, hgk, rfl, rfl, rfl, ho, hb⟩ := hrel
    have Hgk := Lib.hid hgk
    have hbs := hb.size
    clear hgk
    by_cases hlt : k < n
    · obtain ⟨ad, rfl, hbl, hc⟩ := Ints.at_ (Reads.below h hb hB) hlt
      have hbd := Hbd.out k (by rw [HL.out]; omega)
      have hzk := Hz.out _ (nth_mem (zs := zs) (k := k) (by rw [HL.out]; omega))
      have Hs0 : Hid (queueTo zs every seats extra (k + 1) = if (k : Int) + 1 = extra then max 0 ((if ((k : Int) + 1).tmod every = 0 then max 0 (queueTo zs every seats extra k + nth zs k - seats) else queueTo zs every seats extra k + nth zs k) - seats) else (if ((k : Int) + 1).tmod every = 0 then max 0 (queueTo zs every seats extra k + nth zs k - seats) else queueTo zs every seats extra k + nth zs k)) := Lib.hid (by rw [queueTo_succ, stepQ_eq])
      generalize queueTo zs every seats extra k = q at *
      generalize nth zs k = z at *
      have hk0 : (0 : Int) ≤ (k : Int) := by omega
      have hk1 : (k : Int) < (n : Int) := by omega
      have hq1 : IntKind.i64.wrap ((k : Int) + 1) = (k : Int) + 1 := IntWalk.i64_in _ (by omega)
      have hq2 : (k : Int) + 1 - 1 = k := by omega
      have hq3 : IntKind.i64.wrap ((k : Int) + 1 - 1) = k := by rw [hq2]; exact IntWalk.i64_in _ (by omega)
      have hq8 : IntKind.i64.wrap (k : Int) = k := IntWalk.i64_in _ (by omega)
      have hq4 : IntKind.i64.wrap (q + z) = q + z := IntWalk.i64_in _ (by omega)
      have hq5 : IntKind.i64.wrap (q + z - seats) = q + z - seats := IntWalk.i64_in _ (by omega)
      have hqe : ¬ every = 0 := by omega
      have htm : 0 ≤ ((k : Int) + 1).tmod every ∧ ((k : Int) + 1).tmod every < 60 := ⟨Int.tmod_nonneg _ (by omega), by have := Int.tmod_lt_of_pos ((k : Int) + 1) (show 0 < every by omega); omega⟩
      have hq6 : IntKind.i64.wrap (((k : Int) + 1).tmod every) = ((k : Int) + 1).tmod every := IntWalk.i64_in _ (by omega)
      clear Hbd
      by_cases c1 : ((k : Int) + 1).tmod every = 0
      · have d1 : ((((k : Int) + 1) % every) == 0) = true := by rw [← Int.tmod_eq_emod_of_nonneg (by omega)]; simp [c1]
        by_cases c2 : (k : Int) + 1 = extra
        · have d2 : ((k : Int) + 1 == extra) = true := by simp [c2]
          have Hs : Hid (queueTo zs every seats extra (k + 1) = max 0 (max 0 (q + z - seats) - seats)) := Lib.hid (by rw [Hs0.out, if_pos c2, if_pos c1])
          clear c2
          go_wp2_with (first | (go_at_call 58; refine (l00Max_any _ _ _).mono ?_; rintro e w' ⟨rfl, rfl⟩) | (at_builtin; refine wpList_app rfl _ _ 24 rfl 2 i0 _ 1 8 Tryz.underlying24 hi hz0 hz1 hz2 rfl (by omega) (by omega) w.heap.size _ _ _ _ rfl (ho.alloc _) ⟨wr.heap.size, 0, none⟩ 1 1 _ rfl rfl (cell_one_new _ _ _) (by simp [Value.oneCell']) (by omega) (by simp; omega) ?_))
          all_goals
            intro A3 c3 w1 ho1 hg1 hb1 hat
            have ho2 : Own w1 w.heap.size 2 1 A3 (k + 1) c3 ((queuesTo zs every seats extra (k + 1)).map (Value.int .i64)) := by
              rw [queuesTo_succ, List.map_append]; exact own_app ho1 (by first | (rw [Hs.out]; done) | (rw [Hs.out]; omega) | (rw [Hs.out]; simp only [Int.max_def]; (repeat' split) <;> omega))
            have hb2 : Below w.heap.size w w1 := (hb.alloc hbs _).trans hb1
            clear ho1 hg1 hat hb1
            go_wp2_with fail
            have hgk := Hgk.out
            go_roundg (gk - 1)
            case rel => exact ⟨k + 1, A3, c3, by omega, by omega, by go_num, int_eq (by first | (rw [Hs.out]; done) | (rw [Hs.out]; omega) | (rw [Hs.out]; simp only [Int.max_def]; (repeat' split) <;> omega)), rfl, ho2, hb2⟩
            case measure => omega
        · have d2 : ((k : Int) + 1 == extra) = false := by simp [c2]
          have Hs : Hid (queueTo zs every seats extra (k + 1) = max 0 (q + z - seats)) := Lib.hid (by rw [Hs0.out, if_neg c2, if_pos c1])
          clear c2
          go_wp2_with (first | (go_at_call 58; refine (l00Max_any _ _ _).mono ?_; rintro e w' ⟨rfl, rfl⟩) | (at_builtin; refine wpList_app rfl _ _ 24 rfl 2 i0 _ 1 8 Tryz.underlying24 hi hz0 hz1 hz2 rfl (by omega) (by omega) w.heap.size _ _ _ _ rfl (ho.alloc _) ⟨wr.heap.size, 0, none⟩ 1 1 _ rfl rfl (cell_one_new _ _ _) (by simp [Value.oneCell']) (by omega) (by simp; omega) ?_))
          all_goals
            intro A3 c3 w1 ho1 hg1 hb1 hat
            have ho2 : Own w1 w.heap.size 2 1 A3 (k + 1) c3 ((queuesTo zs every seats extra (k + 1)).map (Value.int .i64)) := by
              rw [queuesTo_succ, List.map_append]; exact own_app ho1 (by first | (rw [Hs.out]; done) | (rw [Hs.out]; omega) | (rw [Hs.out]; simp only [Int.max_def]; (repeat' split) <;> omega))
            have hb2 : Below w.heap.size w w1 := (hb.alloc hbs _).trans hb1
            clear ho1 hg1 hat hb1
            go_wp2_with fail
            have hgk := Hgk.out
            go_roundg (gk - 1)
            case rel => exact ⟨k + 1, A3, c3, by omega, by omega, by go_num, int_eq (by first | (rw [Hs.out]; done) | (rw [Hs.out]; omega) | (rw [Hs.out]; simp only [Int.max_def]; (repeat' split) <;> omega)), rfl, ho2, hb2⟩
            case measure => omega
      · have d1 : ((((k : Int) + 1) % every) == 0) = false := by rw [← Int.tmod_eq_emod_of_nonneg (by omega)]; simp [c1]
        by_cases c2 : (k : Int) + 1 = extra
        · have d2 : ((k : Int) + 1 == extra) = true := by simp [c2]
          have Hs : Hid (queueTo zs every seats extra (k + 1) = max 0 (q + z - seats)) := Lib.hid (by rw [Hs0.out, if_pos c2, if_neg c1])
          clear c2
          go_wp2_with (first | (go_at_call 58; refine (l00Max_any _ _ _).mono ?_; rintro e w' ⟨rfl, rfl⟩) | (at_builtin; refine wpList_app rfl _ _ 24 rfl 2 i0 _ 1 8 Tryz.underlying24 hi hz0 hz1 hz2 rfl (by omega) (by omega) w.heap.size _ _ _ _ rfl (ho.alloc _) ⟨wr.heap.size, 0, none⟩ 1 1 _ rfl rfl (cell_one_new _ _ _) (by simp [Value.oneCell']) (by omega) (by simp; omega) ?_))
          all_goals
            intro A3 c3 w1 ho1 hg1 hb1 hat
            have ho2 : Own w1 w.heap.size 2 1 A3 (k + 1) c3 ((queuesTo zs every seats extra (k + 1)).map (Value.int .i64)) := by
              rw [queuesTo_succ, List.map_append]; exact own_app ho1 (by first | (rw [Hs.out]; done) | (rw [Hs.out]; omega) | (rw [Hs.out]; simp only [Int.max_def]; (repeat' split) <;> omega))
            have hb2 : Below w.heap.size w w1 := (hb.alloc hbs _).trans hb1
            clear ho1 hg1 hat hb1
            go_wp2_with fail
            have hgk := Hgk.out
            go_roundg (gk - 1)
            case rel => exact ⟨k + 1, A3, c3, by omega, by omega, by go_num, int_eq (by first | (rw [Hs.out]; done) | (rw [Hs.out]; omega) | (rw [Hs.out]; simp only [Int.max_def]; (repeat' split) <;> omega)), rfl, ho2, hb2⟩
            case measure => omega
        · have d2 : ((k : Int) + 1 == extra) = false := by simp [c2]
          have Hs : Hid (queueTo zs every seats extra (k + 1) = q + z) := Lib.hid (by rw [Hs0.out, if_neg c2, if_neg c1])
          clear c2
          go_wp2_with (first | (go_at_call 58; refine (l00Max_any _ _ _).mono ?_; rintro e w' ⟨rfl, rfl⟩) | (at_builtin; refine wpList_app rfl _ _ 24 rfl 2 i0 _ 1 8 Tryz.underlying24 hi hz0 hz1 hz2 rfl (by omega) (by omega) w.heap.size _ _ _ _ rfl (ho.alloc _) ⟨wr.heap.size, 0, none⟩ 1 1 _ rfl rfl (cell_one_new _ _ _) (by simp [Value.oneCell']) (by omega) (by simp; omega) ?_))
          all_goals
            intro A3 c3 w1 ho1 hg1 hb1 hat
            have ho2 : Own w1 w.heap.size 2 1 A3 (k + 1) c3 ((queuesTo zs every seats extra (k + 1)).map (Value.int .i64)) := by
              rw [queuesTo_succ, List.map_append]; exact own_app ho1 (by first | (rw [Hs.out]; done) | (rw [Hs.out]; omega) | (rw [Hs.out]; simp only [Int.max_def]; (repeat' split) <;> omega))
            have hb2 : Below w.heap.size w w1 := (hb.alloc hbs _).trans hb1
            clear ho1 hg1 hat hb1
            go_wp2_with fail
            have hgk := Hgk.out
            go_roundg (gk - 1)
            case rel => exact ⟨k + 1, A3, c3, by omega, by omega, by go_num, int_eq (by first | (rw [Hs.out]; done) | (rw [Hs.out]; omega) | (rw [Hs.out]; simp only [Int.max_def]; (repeat' split) <;> omega)), rfl, ho2, hb2⟩
            case measure => omega
    · have hke : n = k := by omega
      subst hke
      have hd : ¬ ((n : Int) < (n : Int)) := by omega
      have hd' : ¬ ((n : Int) + 1 ≤ (n : Int)) := by omega
      go_wp2_with fail
      go_ret
      exact ⟨_, _, rfl, ho, hb⟩

theorem implQueuesOf_any {A : Option Addr} {n c B : Nat} {zs : List Int} {every seats : Int} {w : World} (h : Ints w B A n zs) (hB : B ≤ w.heap.size) (hn : n ≤ 1048576) :
    Calls Tryz.prog 6 #[.slice A n c, .int .i64 every, .int .i64 seats] w fun e w' => ∃ A' n' c', e = .returned (.tuple #[.slice A' n' c', .int .i64 (askC (arrB zs) (inB every 1 60 && inB seats 1 1000))]) ∧ n' ≤ 1048576 ∧ Below w.heap.size w w' ∧
      (askC (arrB zs) (inB every 1 60 && inB seats 1 1000) = 0 → n' = n ∧ Own w' w.heap.size 2 1 A' n' c' ((queuesTo zs every seats 0 n).map (Value.int .i64))) := by
  cases v0 : arrB zs <;> cases v1 : inB every 1 60 <;> cases v2 : inB seats 1 1000
  case true.true.true =>
    have hv := arrB_true.1 v0
    have hl := h.len
    go_enter Tryz.func6, Tryz.ntmps6
    go_wp2_with (first | (go_at_call 23; refine (isEvery_any _ _).mono ?_; rintro e w' ⟨rfl, rfl⟩) | (go_at_call 24; refine (isSeats_any _ _).mono ?_; rintro e w' ⟨rfl, rfl⟩) | (go_at_call 22; refine (arriving_any A n c B zs _ _ h (by omega)).mono ?_; rintro e w' ⟨rfl, rfl⟩; rw [v0]; simp only [askC, if_true]))
    refine (queues_any A n c B zs _ _ _ _ h hB (by omega) hv.1 (inB_true.1 v1) (inB_true.1 v2)).mono ?_
    rintro e w' ⟨A', c', rfl, o1, b1⟩
    go_wp2_with fail
    go_ret2
    exact ⟨A', n, c', rfl, by omega, b1, fun _ => ⟨rfl, o1⟩⟩
  all_goals
    go_enter Tryz.func6, Tryz.ntmps6
    go_wp2_with (first | (go_at_call 23; refine (isEvery_any _ _).mono ?_; rintro e w' ⟨rfl, rfl⟩) | (go_at_call 24; refine (isSeats_any _ _).mono ?_; rintro e w' ⟨rfl, rfl⟩) | (go_at_call 22; refine (arriving_any A n c B zs _ _ h (by omega)).mono ?_; rintro e w' ⟨rfl, rfl⟩; rw [v0]; simp only [askC, if_true, if_false, Bool.false_eq_true]))
    go_ret2
    exact ⟨none, 0, 0, rfl, by omega, Below.refl _ _, fun h => by simp [askC] at h⟩
end Go.Proofs.YtngbdjbgbjbjaaaGreatDoor
