/- Queues: ShareSeats, SmoothArrivals: facts of what they return. -/
import Derived.Test.YtmiilnddfmeldaaVa
import Derived.BigQuiet
namespace Go.Proofs.Ytmiilnddfmeldaa
open Go.RowKit
set_option maxRecDepth 100000
set_option linter.unusedVariables false
set_option linter.unusedSimpArgs false

theorem share_uv {a b s u v : Int} (ha : 0 ≤ a) (hb : 0 ≤ b) (hT : 0 < a + b) (hs : 1 ≤ s) (hu : u = s * a / (a + b)) (hv : v = s * b / (a + b)) :
    0 ≤ u ∧ 0 ≤ v ∧ u + v ≤ s ∧ s - 1 ≤ u + v ∧ (a + b ≤ s → a ≤ u ∧ b ≤ v) ∧ (s < a + b → u ≤ a ∧ v ≤ b ∧ (0 < a → u < a) ∧ (0 < b → v < b)) := by
  have e0 : 0 ≤ s * a := Int.mul_nonneg (by omega) ha
  have e0' : 0 ≤ s * b := Int.mul_nonneg (by omega) hb
  have e1 : (a + b) * u ≤ s * a := by rw [hu]; exact Int.mul_ediv_self_le (by omega)
  have e2 : s * a < (a + b) * u + (a + b) := by rw [hu]; exact Int.lt_mul_ediv_self_add hT
  have f1 : (a + b) * v ≤ s * b := by rw [hv]; exact Int.mul_ediv_self_le (by omega)
  have f2 : s * b < (a + b) * v + (a + b) := by rw [hv]; exact Int.lt_mul_ediv_self_add hT
  have hu0 : 0 ≤ u := by rw [hu]; exact Int.ediv_nonneg e0 (by omega)
  have hv0 : 0 ≤ v := by rw [hv]; exact Int.ediv_nonneg e0' (by omega)
  have g1 : s * a + s * b = (a + b) * s := by rw [← Int.mul_add, Int.mul_comm]
  have g2 : (a + b) * (u + v) = (a + b) * u + (a + b) * v := Int.mul_add _ _ _
  have g3 : (a + b) * (u + v + 2) = (a + b) * u + (a + b) * v + (a + b) * 2 := by rw [Int.mul_add, Int.mul_add]
  clear hu hv
  refine ⟨hu0, hv0, Int.le_of_mul_le_mul_left (a := a + b) (by omega) hT, ?_, ?_, ?_⟩
  · have := Int.lt_of_mul_lt_mul_left (a := a + b) (b := s) (c := u + v + 2) (by omega) (by omega)
    omega
  · intro h
    have h1 : (a + b) * a ≤ s * a := Int.mul_le_mul_of_nonneg_right h ha
    have h2 : (a + b) * b ≤ s * b := Int.mul_le_mul_of_nonneg_right h hb
    have h3 : (a + b) * (u + 1) = (a + b) * u + (a + b) := by rw [Int.mul_add, Int.mul_one]
    have h4 : (a + b) * (v + 1) = (a + b) * v + (a + b) := by rw [Int.mul_add, Int.mul_one]
    have h5 := Int.lt_of_mul_lt_mul_left (a := a + b) (b := a) (c := u + 1) (by omega) (by omega)
    have h6 := Int.lt_of_mul_lt_mul_left (a := a + b) (b := b) (c := v + 1) (by omega) (by omega)
    omega
  · intro h
    have h1 : s * a ≤ (a + b) * a := Int.mul_le_mul_of_nonneg_right (by omega) ha
    have h2 : s * b ≤ (a + b) * b := Int.mul_le_mul_of_nonneg_right (by omega) hb
    refine ⟨Int.le_of_mul_le_mul_left (a := a + b) (by omega) hT, Int.le_of_mul_le_mul_left (a := a + b) (by omega) hT, fun h3 => ?_, fun h3 => ?_⟩
    · have h4 : s * a < (a + b) * a := Int.mul_lt_mul_of_pos_right h h3
      exact Int.lt_of_mul_lt_mul_left (a := a + b) (by omega) (by omega)
    · have h4 : s * b < (a + b) * b := Int.mul_lt_mul_of_pos_right h h3
      exact Int.lt_of_mul_lt_mul_left (a := a + b) (by omega) (by omega)
def ShareP (a b s x y cd : Int) : Prop := (cd = 0 → (0 ≤ a ∧ a ≤ 100000 ∧ 0 ≤ b ∧ b ≤ 100000 ∧ 1 ≤ s ∧ s ≤ 1000) ∧ 0 ≤ x ∧ 0 ≤ y ∧ x ≤ a ∧ y ≤ b ∧ x + y ≤ s ∧ (a + b ≤ s → x = a ∧ y = b) ∧ (s ≤ a + b → x + y = s)) ∧ (cd ≠ 0 → x = 0 ∧ y = 0)
def ShareE (a b s : Int) (w : World) (e : Ending) (w' : World) : Prop := ∃ x y cd : Int, e = .returned (.tuple #[.int .i64 x, .int .i64 y, .int .i64 cd]) ∧ ShareP a b s x y cd ∧ Below w.heap.size w w'
set_option maxHeartbeats 2000000 in
theorem implShareSeats_any {a b s : Int} {w : World} :
    Calls Try.prog 12 #[.int .i64 a, .int .i64 b, .int .i64 s] w (ShareE a b s w) := by
  cases v0 : inB a 0 100000 <;> cases v1 : inB b 0 100000 <;> cases v2 : inB s 1 1000
  case true.true.true =>
    have ha := inB_true.1 v0
    have hb := inB_true.1 v1
    have hs := inB_true.1 v2
    have V0 := Lib.hid v0
    have V1 := Lib.hid v1
    have V2 := Lib.hid v2
    clear v0 v1 v2
    have q0 : IntKind.i64.wrap (a + b) = a + b := IntWalk.i64_in _ (by omega)
    by_cases hT : a + b = 0
    · have HF : Hid (∀ w : World, ShareE a b s w (.returned (.tuple #[.int .i64 0, .int .i64 0, .int .i64 0])) w) := Lib.hid (fun w => ⟨0, 0, 0, rfl, ⟨fun _ => by omega, fun h => absurd rfl h⟩, Below.refl _ _⟩)
      have d0 : (a + b == 0) = true := by simp; omega
      go_enter Try.func12, Try.ntmps12
      go_wp2_with (first | (go_at_call 22; refine (isSeats_any _ _).mono ?_; rintro e w' ⟨rfl, rfl⟩; rw [V2.out]) | (go_at_call 23; refine (isQueue_any _ _).mono ?_; rintro e w' ⟨rfl, rfl⟩; first | rw [V0.out] | rw [V1.out]))
      exact bodyPost_ret (v := .tuple #[.int .i64 0, .int .i64 0, .int .i64 0]) (by simp [results, Try.results12, go_sem]) rfl (HF.out _)
    have hTp : 0 < a + b := by omega
    have d0 : (a + b == 0) = false := by simp; omega
    obtain ⟨u, hu⟩ : ∃ u, u = s * a / (a + b) := ⟨_, rfl⟩
    obtain ⟨v, hv⟩ : ∃ v, v = s * b / (a + b) := ⟨_, rfl⟩
    obtain ⟨hu0, hv0, huv1, huv2, hle, hgt⟩ := share_uv ha.1 hb.1 hTp hs.1 hu hv
    have pa : 0 ≤ s * a ∧ s * a ≤ 1000 * 100000 := ⟨Int.mul_nonneg (by omega) ha.1, Int.mul_le_mul hs.2 ha.2 ha.1 (by omega)⟩
    have pb : 0 ≤ s * b ∧ s * b ≤ 1000 * 100000 := ⟨Int.mul_nonneg (by omega) hb.1, Int.mul_le_mul hs.2 hb.2 hb.1 (by omega)⟩
    have qa : IntKind.i64.wrap (s * a) = s * a := IntWalk.i64_in _ (by omega)
    have qb : IntKind.i64.wrap (s * b) = s * b := IntWalk.i64_in _ (by omega)
    have ta : (s * a).tdiv (a + b) = u := by rw [hu]; exact Int.tdiv_eq_ediv_of_nonneg pa.1
    have tb : (s * b).tdiv (a + b) = v := by rw [hv]; exact Int.tdiv_eq_ediv_of_nonneg pb.1
    have ea : s * a / (a + b) = u := hu.symm
    have eb : s * b / (a + b) = v := hv.symm
    have qu : IntKind.i64.wrap u = u := IntWalk.i64_in _ (by omega)
    have qv : IntKind.i64.wrap v = v := IntWalk.i64_in _ (by omega)
    have quv : IntKind.i64.wrap (u + v) = u + v := IntWalk.i64_in _ (by omega)
    have qu1 : IntKind.i64.wrap (u + 1) = u + 1 := IntWalk.i64_in _ (by omega)
    have qv1 : IntKind.i64.wrap (v + 1) = v + 1 := IntWalk.i64_in _ (by omega)
    have pc0 : ((s * a) / (a + b) : Int) = u := hu.symm
    have hne : ¬ a + b = 0 := hT
    have HLe := Lib.hid hle
    have HGt := Lib.hid hgt
    clear hu hv hle hgt pc0
    have HF : Hid (∀ (x y : Int) (w w' : World), Below w.heap.size w w' → (0 ≤ x ∧ 0 ≤ y ∧ x ≤ a ∧ y ≤ b ∧ x + y ≤ s ∧ (a + b ≤ s → x = a ∧ y = b) ∧ (s ≤ a + b → x + y = s)) → ShareE a b s w (.returned (.tuple #[.int .i64 x, .int .i64 y, .int .i64 0])) w') := Lib.hid (fun x y w w' hbw h => ⟨x, y, 0, rfl, ⟨fun _ => ⟨⟨ha.1, ha.2, hb.1, hb.2, hs.1, hs.2⟩, h⟩, fun h => absurd rfl h⟩, hbw⟩)
    by_cases c1 : u + v < s
    · have d1 : decide (u + v < s) = true := decide_eq_true c1
      by_cases c2 : b ≤ a
      · have d2 : decide (b ≤ a) = true := decide_eq_true c2
        go_enter Try.func12, Try.ntmps12
        go_wp2_with (first | (go_at_call 22; refine (isSeats_any _ _).mono ?_; rintro e w' ⟨rfl, rfl⟩; rw [V2.out]) | (go_at_call 23; refine (isQueue_any _ _).mono ?_; rintro e w' ⟨rfl, rfl⟩; first | rw [V0.out] | rw [V1.out]))
        go_quiet (fail)
        go_wp2_with fail
        all_goals
          have hle := HLe.out
          have hgt := HGt.out
          refine bodyPost_ret (by simp [results, Try.results12, go_sem]; exact ⟨rfl, rfl⟩) rfl (HF.out _ _ _ _ (below_drewN (Below.refl _ _) _) ?_)
          omega
      · have d2 : decide (b ≤ a) = false := decide_eq_false c2
        go_enter Try.func12, Try.ntmps12
        go_wp2_with (first | (go_at_call 22; refine (isSeats_any _ _).mono ?_; rintro e w' ⟨rfl, rfl⟩; rw [V2.out]) | (go_at_call 23; refine (isQueue_any _ _).mono ?_; rintro e w' ⟨rfl, rfl⟩; first | rw [V0.out] | rw [V1.out]))
        go_quiet (fail)
        go_wp2_with fail
        all_goals
          have hle := HLe.out
          have hgt := HGt.out
          refine bodyPost_ret (by simp [results, Try.results12, go_sem]; exact ⟨rfl, rfl⟩) rfl (HF.out _ _ _ _ (below_drewN (Below.refl _ _) _) ?_)
          omega
    · have d1 : decide (u + v < s) = false := decide_eq_false c1
      go_enter Try.func12, Try.ntmps12
      go_wp2_with (first | (go_at_call 22; refine (isSeats_any _ _).mono ?_; rintro e w' ⟨rfl, rfl⟩; rw [V2.out]) | (go_at_call 23; refine (isQueue_any _ _).mono ?_; rintro e w' ⟨rfl, rfl⟩; first | rw [V0.out] | rw [V1.out]))
      go_quiet (fail)
      go_wp2_with fail
      all_goals
        have hle := HLe.out
        have hgt := HGt.out
        refine bodyPost_ret (by simp [results, Try.results12, go_sem]; exact ⟨rfl, rfl⟩) rfl (HF.out _ _ _ _ (below_drewN (Below.refl _ _) _) ?_)
        omega
  all_goals
    have HF : Hid (∀ w : World, ShareE a b s w (.returned (.tuple #[.int .i64 0, .int .i64 0, .int .i64 2])) w) := Lib.hid (fun w => ⟨0, 0, 2, rfl, ⟨fun h => absurd h (by decide), fun _ => ⟨rfl, rfl⟩⟩, Below.refl _ _⟩)
    have V0 := Lib.hid v0
    have V1 := Lib.hid v1
    have V2 := Lib.hid v2
    clear v0 v1 v2
    go_enter Try.func12, Try.ntmps12
    go_wp2_with (first | (go_at_call 22; refine (isSeats_any _ _).mono ?_; rintro e w' ⟨rfl, rfl⟩; rw [V2.out]) | (go_at_call 23; refine (isQueue_any _ _).mono ?_; rintro e w' ⟨rfl, rfl⟩; first | rw [V0.out] | rw [V1.out]))
    exact bodyPost_ret (v := .tuple #[.int .i64 0, .int .i64 0, .int .i64 2]) (by simp [results, Try.results12, go_sem]) rfl (HF.out _)
end Go.Proofs.Ytmiilnddfmeldaa
