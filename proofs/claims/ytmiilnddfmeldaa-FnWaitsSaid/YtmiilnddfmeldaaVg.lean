/- Queues: RidesToClear, WaitOfPerson: contracts. -/
import Derived.Test.YtmiilnddfmeldaaVe
import Derived.Test.YtmiilnddfmeldaaVf
namespace Go.Proofs.Ytmiilnddfmeldaa
open Go.RowKit
set_option maxRecDepth 100000
set_option linter.unusedVariables false
set_option linter.unusedSimpArgs false

def RidesP (zs : List Int) (every seats : Int) (r code : Int) : Prop := code = askC (arrB zs) (inB every 1 60 && inB seats 1 1000) ∧ (code ≠ 0 → r = 0) ∧ (code = 0 → ∃ m : Nat, RidesAt zs every.toNat seats.toNat m r ∧ ((outTo zs every.toNat seats.toNat m).length : Int) = zs.sum ∧ m ≤ 3900060)
def RidesE (zs : List Int) (every seats : Int) (w : World) (e : Ending) (w' : World) : Prop := ∃ r code : Int, e = .returned (.tuple #[.int .i64 r, .int .i64 code]) ∧ RidesP zs every seats r code ∧ Below w.heap.size w w'
set_option maxHeartbeats 1000000 in
theorem implRidesToClear_any {A : Option Addr} {n c B : Nat} {zs : List Int} {every seats : Int} {w : World} (h : Ints w B A n zs) (hB : B ≤ w.heap.size) (hc : n ≤ c) (hn : n ≤ 1048576) :
    Calls Try.prog 7 #[.slice A n c, .int .i64 every, .int .i64 seats] w (RidesE zs every seats w) := by
  cases v0 : arrB zs <;> cases v1 : inB every 1 60 <;> cases v2 : inB seats 1 1000
  case true.true.true =>
    have hv := arrB_true.1 v0
    have hl := h.len
    have he := inB_true.1 v1
    have hse := inB_true.1 v2
    have hask : askC (arrB zs) (inB every 1 60 && inB seats 1 1000) = 0 := by rw [v0, v1, v2]; rfl
    have Hask := Lib.hid hask
    obtain ⟨E, rfl⟩ := Int.eq_ofNat_of_zero_le (show 0 ≤ every by omega)
    obtain ⟨S, rfl⟩ := Int.eq_ofNat_of_zero_le (show 0 ≤ seats by omega)
    clear hask
    go_enter Try.func7, Try.ntmps7
    go_wp2_with (first | (go_at_call 21; refine (isEvery_any _ _).mono ?_; rintro e w' ⟨rfl, rfl⟩) | (go_at_call 22; refine (isSeats_any _ _).mono ?_; rintro e w' ⟨rfl, rfl⟩) | (go_at_call 20; refine (arriving_any A n c B zs _ _ h (by omega)).mono ?_; rintro e w' ⟨rfl, rfl⟩; rw [v0]; simp only [askC, if_true]))
    refine (waits_rides A n c B E S zs _ h hB (by omega) hv.1 (by omega) (by omega)).mono ?_
    rintro e w1 ⟨m, A2, n2, c2, r, rfl, hn2, hm, hl2, hra, o2, b2⟩
    have HF : Hid (RidesE zs (E : Int) (S : Int) w (.returned (.tuple #[.int .i64 r, .int .i64 0])) w1) := Lib.hid ⟨r, 0, rfl, ⟨Hask.out.symm, fun x => absurd rfl x, fun _ => ⟨m, hra, by show ((outTo zs E S m).length : Int) = _; omega, hm⟩⟩, b2⟩
    clear hn2 hl2 hra o2 b2 v0 hv v1 v2
    go_wp2_with fail
    exact bodyPost_ret (v := .tuple #[.int .i64 r, .int .i64 0]) (by simp [results, Try.results7, go_sem]) rfl HF.out
  all_goals
    have HF : Hid (RidesE zs every seats w (.returned (.tuple #[.int .i64 0, .int .i64 (askC (arrB zs) (inB every 1 60 && inB seats 1 1000))])) w) := Lib.hid ⟨0, _, rfl, ⟨rfl, fun _ => rfl, fun x => by rw [v0, v1, v2] at x; exact absurd x (by decide)⟩, Below.refl _ _⟩
    rw [v0, v1, v2] at HF
    go_enter Try.func7, Try.ntmps7
    go_wp2_with (first | (go_at_call 21; refine (isEvery_any _ _).mono ?_; rintro e w' ⟨rfl, rfl⟩) | (go_at_call 22; refine (isSeats_any _ _).mono ?_; rintro e w' ⟨rfl, rfl⟩) | (go_at_call 20; refine (arriving_any A n c B zs _ _ h (by omega)).mono ?_; rintro e w' ⟨rfl, rfl⟩; rw [v0]; simp only [askC, if_true, if_false, Bool.false_eq_true]))
    first
      | exact bodyPost_ret (v := .tuple #[.int .i64 0, .int .i64 1]) (by simp [results, Try.results7, go_sem]) rfl HF.out
      | exact bodyPost_ret (v := .tuple #[.int .i64 0, .int .i64 2]) (by simp [results, Try.results7, go_sem]) rfl HF.out
def askW2 (zs : List Int) (every seats person : Int) : Int := askC (arrB zs) (inB every 1 60 && (inB seats 1 1000 && inB person 0 100000))
def rWaitOf (zs : List Int) (every seats person : Int) : Int × Int :=
  if askW2 zs every seats person = 0 then (if person < zs.sum then (nth (outAll zs every seats) person.toNat, 0) else (0, 3)) else (0, askW2 zs every seats person)
set_option maxHeartbeats 1000000 in
theorem implWaitOfPerson_any {A : Option Addr} {n c B : Nat} {zs : List Int} {every seats person : Int} {w : World} (h : Ints w B A n zs) (hB : B ≤ w.heap.size) (hc : n ≤ c) (hn : n ≤ 1048576) :
    Calls Try.prog 6 #[.slice A n c, .int .i64 every, .int .i64 seats, .int .i64 person] w fun e w' => e = .returned (.tuple #[.int .i64 (rWaitOf zs every seats person).1, .int .i64 (rWaitOf zs every seats person).2]) ∧ Below w.heap.size w w' := by
  cases v0 : arrB zs <;> cases v1 : inB every 1 60 <;> cases v2 : inB seats 1 1000 <;> cases v3 : inB person 0 100000
  case true.true.true.true =>
    have hv := arrB_true.1 v0
    have hl := h.len
    have he := inB_true.1 v1
    have hse := inB_true.1 v2
    have hpe := inB_true.1 v3
    have Hr : Hid (rWaitOf zs every seats person = if person < zs.sum then (nth (outAll zs every seats) person.toNat, 0) else (0, 3)) := Lib.hid (by rw [rWaitOf, askW2, v0, v1, v2, v3]; rfl)
    obtain ⟨E, rfl⟩ := Int.eq_ofNat_of_zero_le (show 0 ≤ every by omega)
    obtain ⟨S, rfl⟩ := Int.eq_ofNat_of_zero_le (show 0 ≤ seats by omega)
    obtain ⟨q, rfl⟩ := Int.eq_ofNat_of_zero_le (show 0 ≤ person by omega)
    go_enter Try.func6, Try.ntmps6
    go_wp2_with (first | (go_at_call 21; refine (isEvery_any _ _).mono ?_; rintro e w' ⟨rfl, rfl⟩) | (go_at_call 22; refine (isSeats_any _ _).mono ?_; rintro e w' ⟨rfl, rfl⟩) | (go_at_call 23; refine (isQueue_any _ _).mono ?_; rintro e w' ⟨rfl, rfl⟩) | (go_at_call 20; refine (arriving_any A n c B zs _ _ h (by omega)).mono ?_; rintro e w' ⟨rfl, rfl⟩; rw [v0]; simp only [askC, if_true]))
    refine (waits_any A n c B E S zs _ h hB (by omega) hv.1 (by omega) (by omega)).mono ?_
    rintro e w1 ⟨m, A2, n2, c2, r, rfl, hn2, hm, hl2, o2, b2⟩
    have hsz := sum_bds hv.1
    have heq := outAll_eq (E := E) (S := S) (m := m) hv.1 hm (by omega)
    rw [← heq] at Hr
    have hi := own_ints o2
    have hv2 := hv.2
    clear heq hl2 o2 v0 hv v1 v2 v3
    generalize outTo zs E S m = ou at *
    generalize zs.sum = T at *
    subst hn2
    by_cases hz : q < n2
    · obtain ⟨ad, rfl, hbl, hcell⟩ := hi.at_ hz
      have hRr : Hid (rWaitOf zs (E : Int) (S : Int) (q : Int) = (nth ou q, 0)) := Lib.hid (by rw [Hr.out, if_pos (by omega)]; rfl)
      have d1 : ¬ (n2 : Int) ≤ (q : Int) := by omega
      have d2 : decide (n2 ≤ q) = false := decide_eq_false (by omega)
      have d3 : (0 : Int) ≤ (q : Int) := by omega
      have d4 : (q : Int) < (n2 : Int) := by omega
      generalize nth ou q = x at *
      go_wp2_with (go_at_call 25; refine (size_int_any _ _ _ _ (by omega)).mono ?_; rintro e w' ⟨rfl, rfl⟩)
      go_ret2
      exact ⟨ret2 (int_eq (by rw [hRr.out])) (int_eq (by rw [hRr.out])), b2⟩
    · have hRr : Hid (rWaitOf zs (E : Int) (S : Int) (q : Int) = (0, 3)) := Lib.hid (by rw [Hr.out, if_neg (by omega)])
      have d1 : (n2 : Int) ≤ (q : Int) := by omega
      have d2 : decide (n2 ≤ q) = true := decide_eq_true (by omega)
      go_wp2_with (go_at_call 25; refine (size_int_any _ _ _ _ (by omega)).mono ?_; rintro e w' ⟨rfl, rfl⟩)
      go_ret2
      exact ⟨ret2 (int_eq (by rw [hRr.out])) (int_eq (by rw [hRr.out])), b2⟩
  all_goals
    have Hr : Hid (rWaitOf zs every seats person = (0, askC (arrB zs) (inB every 1 60 && (inB seats 1 1000 && inB person 0 100000)))) := Lib.hid (by rw [rWaitOf, askW2, v0, v1, v2, v3]; rfl)
    rw [v0, v1, v2, v3] at Hr
    go_enter Try.func6, Try.ntmps6
    go_wp2_with (first | (go_at_call 21; refine (isEvery_any _ _).mono ?_; rintro e w' ⟨rfl, rfl⟩) | (go_at_call 22; refine (isSeats_any _ _).mono ?_; rintro e w' ⟨rfl, rfl⟩) | (go_at_call 23; refine (isQueue_any _ _).mono ?_; rintro e w' ⟨rfl, rfl⟩) | (go_at_call 20; refine (arriving_any A n c B zs _ _ h (by omega)).mono ?_; rintro e w' ⟨rfl, rfl⟩; rw [v0]; simp only [askC, if_true, if_false, Bool.false_eq_true]))
    go_ret2
    exact ⟨ret2 (int_eq (by rw [Hr.out])) (int_eq (by rw [Hr.out]; rfl)), Below.refl _ _⟩
set_option maxHeartbeats 1000000 in
theorem specWaitOfPerson_any {A : Option Addr} {n c B : Nat} {zs : List Int} {every seats person : Int} {w : World} (h : Ints w B A n zs) (hB : B ≤ w.heap.size) (hc : n ≤ c) (hn : n ≤ 1048576) (v0 : arrB zs = true) (v1 : inB every 1 60 = true) (v2 : inB seats 1 1000 = true) (v3 : inB person 0 100000 = true) (hp : person < zs.sum) :
    Calls Try.prog 10 #[.slice A n c, .int .i64 every, .int .i64 seats, .int .i64 person] w fun e w' => e = .returned (.tuple #[.int .i64 (nth (outAll zs every seats) person.toNat), .int .i64 0]) ∧ Below w.heap.size w w' := by
  have hv := arrB_true.1 v0
  have hl := h.len
  have he := inB_true.1 v1
  have hse := inB_true.1 v2
  have hpe := inB_true.1 v3
  obtain ⟨E, rfl⟩ := Int.eq_ofNat_of_zero_le (show 0 ≤ every by omega)
  obtain ⟨S, rfl⟩ := Int.eq_ofNat_of_zero_le (show 0 ≤ seats by omega)
  obtain ⟨q, rfl⟩ := Int.eq_ofNat_of_zero_le (show 0 ≤ person by omega)
  have Hz9 : Hid (∀ z ∈ zs, 0 ≤ z ∧ z ≤ 1000000000) := Lib.hid (fun z hm => by have := hv.1 z hm; omega)
  have V3 := Lib.hid v3
  go_enter Try.func10, Try.ntmps10
  go_wp2_with fail
  refine (l20Ask_any A n c B zs _ _ _ h (by omega)).mono ?_
  rintro e w0 ⟨rfl, rfl⟩
  rw [v0, v1, v2]
  simp only [askC, if_true, Bool.and_self]
  have d1 : ¬ zs.sum ≤ (q : Int) := by omega
  have d2 : decide (zs.sum ≤ (q : Int)) = false := decide_eq_false d1
  go_wp2_with (first | (go_at_call 29; refine (l20Limit_any _ _).mono ?_; rintro e w' ⟨rfl, rfl⟩; rw [V3.out]) | (go_at_call 30; refine (l20Sum_any _ _ _ _ zs _ h (by omega) Hz9.out).mono ?_; rintro e w' ⟨rfl, rfl⟩))
  refine (l20Waits_any A n c B E S zs _ h hB (by omega) hv.1 (by omega) (by omega)).mono ?_
  rintro e w1 ⟨m, A2, n2, c2, rfl, hn2, hm, hl2, o2, b2⟩
  have hsz := sum_bds hv.1
  have heq := outAll_eq (E := E) (S := S) (m := m) hv.1 hm (by omega)
  have hi := own_ints o2
  have hRr : Hid (nth (outAll zs (E : Int) (S : Int)) ((q : Int)).toNat = nth (outTo zs E S m) q) := Lib.hid (by rw [← heq]; rfl)
  have hv2 := hv.2
  clear heq hl2 o2 v0 hv v1 v2 v3
  generalize outTo zs E S m = ou at *
  have hz : q < n2 := by omega
  obtain ⟨ad, rfl, hbl, hcell⟩ := hi.at_ hz
  have d3 : (0 : Int) ≤ (q : Int) := by omega
  have d4 : (q : Int) < (n2 : Int) := by omega
  generalize nth ou q = x at *
  go_wp2_with fail
  go_ret2
  exact ⟨ret2 (int_eq (by rw [hRr.out])) rfl, b2⟩
end Go.Proofs.Ytmiilnddfmeldaa
