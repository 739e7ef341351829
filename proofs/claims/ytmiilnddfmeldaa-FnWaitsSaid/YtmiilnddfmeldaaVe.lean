/- Queues: MeanWait: contracts of both sides. -/
import Derived.Test.YtmiilnddfmeldaaVd
namespace Go.Proofs.Ytmiilnddfmeldaa
open Go.RowKit
set_option maxRecDepth 100000
set_option linter.unusedVariables false
set_option linter.unusedSimpArgs false

/-- The waits of all. -/
def outAll (zs : List Int) (every seats : Int) : List Int := outTo zs every.toNat seats.toNat 3900060
theorem outAll_eq {zs : List Int} {E S m : Nat} (hz : ∀ z ∈ zs, 0 ≤ z ∧ z ≤ 1000) (hm : m ≤ 3900060) (h : ((outTo zs E S m).length : Int) = zs.sum) : outTo zs E S m = outAll zs (E : Int) (S : Int) := by
  have := out_stay hz h (3900060 - m)
  rw [show m + (3900060 - m) = 3900060 by omega] at this
  exact this.symm
theorem sum_bdM (M : Int) (hM : 0 ≤ M) : ∀ zs : List Int, (∀ z ∈ zs, 0 ≤ z ∧ z ≤ M) → 0 ≤ zs.sum ∧ zs.sum ≤ zs.length * M := by
  intro zs
  induction zs with
  | nil => intro _; simp
  | cons z zs ih =>
    intro h
    have h1 := h z (by simp)
    have h2 := ih (fun x hx => h x (by simp [hx]))
    have e : ((z :: zs).length : Int) * M = zs.length * M + M := by rw [List.length_cons, Int.natCast_add, Int.add_mul]; simp
    rw [List.sum_cons, e]
    omega
def rMeanWait (zs : List Int) (every seats : Int) : Int × Int :=
  if askC (arrB zs) (inB every 1 60 && inB seats 1 1000) = 0 then (if zs.sum = 0 then (0, 3) else (rdiv (100 * (outAll zs every seats).sum) zs.sum, 0)) else (0, askC (arrB zs) (inB every 1 60 && inB seats 1 1000))

set_option maxHeartbeats 1000000 in
theorem implMeanWait_any {A : Option Addr} {n c B : Nat} {zs : List Int} {every seats : Int} {w : World} (h : Ints w B A n zs) (hB : B ≤ w.heap.size) (hc : n ≤ c) (hn : n ≤ 1048576) :
    Calls Try.prog 8 #[.slice A n c, .int .i64 every, .int .i64 seats] w fun e w' => e = .returned (.tuple #[.int .i64 (rMeanWait zs every seats).1, .int .i64 (rMeanWait zs every seats).2]) ∧ Below w.heap.size w w' := by
  cases v0 : arrB zs <;> cases v1 : inB every 1 60 <;> cases v2 : inB seats 1 1000
  case true.true.true =>
    have hv := arrB_true.1 v0
    have hl := h.len
    have he := inB_true.1 v1
    have hse := inB_true.1 v2
    have Hr : Hid (rMeanWait zs every seats = if zs.sum = 0 then (0, 3) else (rdiv (100 * (outAll zs every seats).sum) zs.sum, 0)) := Lib.hid (by rw [rMeanWait, v0, v1, v2]; rfl)
    obtain ⟨E, rfl⟩ := Int.eq_ofNat_of_zero_le (show 0 ≤ every by omega)
    obtain ⟨S, rfl⟩ := Int.eq_ofNat_of_zero_le (show 0 ≤ seats by omega)
    go_enter Try.func8, Try.ntmps8
    go_wp2_with (first | (go_at_call 21; refine (isEvery_any _ _).mono ?_; rintro e w' ⟨rfl, rfl⟩) | (go_at_call 22; refine (isSeats_any _ _).mono ?_; rintro e w' ⟨rfl, rfl⟩) | (go_at_call 20; refine (arriving_any A n c B zs _ _ h (by omega)).mono ?_; rintro e w' ⟨rfl, rfl⟩; rw [v0]; simp only [askC, if_true]))
    refine (waits_any A n c B E S zs _ h hB (by omega) hv.1 (by omega) (by omega)).mono ?_
    rintro e w1 ⟨m, A2, n2, c2, r, rfl, hn2, hm, hl2, o2, b2⟩
    have hso := sum_bdM 3900060 (by omega) (outTo zs E S m) (fun x hx => by have := out_mem hv.1 m x hx; omega)
    have hsz := sum_bds hv.1
    have Hmem : Hid (∀ z ∈ outTo zs E S m, 0 ≤ z ∧ z ≤ 1000000000) := Lib.hid (fun x hx => by have := out_mem hv.1 m x hx; omega)
    have heq := outAll_eq (E := E) (S := S) (m := m) hv.1 hm (by omega)
    rw [← heq] at Hr
    have hi := own_ints o2
    rw [← hl2] at hso
    have hv2 := hv.2
    clear heq hl2 o2 v0 hv
    generalize outTo zs E S m = ou at *
    generalize zs.sum = T at *
    subst hn2
    by_cases hz : n2 = 0
    · have d1 : ((n2 : Int) == 0) = true := by simp; omega
      go_wp2_with fail
      go_ret2
      exact ⟨ret2 (int_eq (by rw [Hr.out, if_pos (by omega)])) (int_eq (by rw [Hr.out, if_pos (by omega)])), b2⟩
    · have d1 : ((n2 : Int) == 0) = false := by simp; omega
      have hq1 : IntKind.i64.wrap (100 * ou.sum) = 100 * ou.sum := IntWalk.i64_in _ (by omega)
      have hA1 : Hid (-1000000000000000000 ≤ 100 * ou.sum) := Lib.hid (by omega)
      have hA2 : Hid (100 * ou.sum ≤ 1000000000000000000) := Lib.hid (by omega)
      have hA3 : Hid (0 < (n2 : Int)) := Lib.hid (by omega)
      have hA4 : Hid ((n2 : Int) ≤ 1000000000000) := Lib.hid (by omega)
      go_wp2_with (first | (go_at_call 27; refine (total_any _ _ _ _ ou _ hi (by omega) Hmem.out).mono ?_; rintro e w' ⟨rfl, rfl⟩) | (go_at_call 25; refine (size_int_any _ _ _ _ (by omega)).mono ?_; rintro e w' ⟨rfl, rfl⟩))
      refine (nearest_any _ _ _ hA1.out hA2.out hA3.out hA4.out).mono ?_
      rintro e w3 ⟨rfl, d, rfl⟩
      go_wp2_with fail
      go_ret2
      exact ⟨ret2 (int_eq (by rw [Hr.out, if_neg (by omega)])) (int_eq (by rw [Hr.out, if_neg (by omega)])), below_drewN b2 _⟩
  all_goals
    have Hr : Hid (rMeanWait zs every seats = (0, askC (arrB zs) (inB every 1 60 && inB seats 1 1000))) := Lib.hid (by rw [rMeanWait, v0, v1, v2]; rfl)
    rw [v0, v1, v2] at Hr
    go_enter Try.func8, Try.ntmps8
    go_wp2_with (first | (go_at_call 21; refine (isEvery_any _ _).mono ?_; rintro e w' ⟨rfl, rfl⟩) | (go_at_call 22; refine (isSeats_any _ _).mono ?_; rintro e w' ⟨rfl, rfl⟩) | (go_at_call 20; refine (arriving_any A n c B zs _ _ h (by omega)).mono ?_; rintro e w' ⟨rfl, rfl⟩; rw [v0]; simp only [askC, if_true, if_false, Bool.false_eq_true]))
    go_ret2
    exact ⟨ret2 (int_eq (by rw [Hr.out])) (int_eq (by rw [Hr.out]; rfl)), Below.refl _ _⟩
end Go.Proofs.Ytmiilnddfmeldaa
