/- Ballast: how long water is drained; small helpers of the laws. -/
import Derived.Test.YtdighpgfepooaaaBa
import Derived.Test.YtdighpgfepooaaaFa
namespace Go.Proofs.Ytdighpgfepooaaa
open Go.RowKit
set_option maxRecDepth 100000
set_option linter.unusedVariables false
set_option linter.unusedSimpArgs false

theorem rdiv_zero {b : Int} (h : 0 < b) : rdiv 0 b = 0 := by
  rw [rdiv_pos (by omega)]
  exact Int.ediv_eq_zero_of_lt (by omega) (by omega)
theorem rdiv_mul {a b : Int} (ha : 0 ≤ a) (h : 0 < b) : rdiv (a * b) b = a := by
  have hm : 0 ≤ a * b := Int.mul_nonneg ha (by omega)
  rw [rdiv_pos hm]
  have e : 2 * (a * b) + b = b + (2 * b) * a := by rw [Int.mul_assoc, Int.mul_comm b a]; omega
  rw [e, Int.add_mul_ediv_left _ _ (by omega), Int.ediv_eq_zero_of_lt (by omega) (by omega)]
  omega
/-- What DrainFor's answer means, where it is not 0. -/
def DrF (sp li wa ra k : Int) : Prop := (0 ≤ sp ∧ sp ≤ 20000) ∧ (0 ≤ li ∧ li ≤ 20000) ∧ (0 < wa ∧ wa ≤ 20000) ∧ (1 ≤ ra ∧ ra ≤ 1000) ∧ (1 ≤ k ∧ k ≤ 20000) ∧ rdiv (sp * max 0 (wa - ra * k)) wa ≤ li ∧ li < rdiv (sp * max 0 (wa - ra * (k - 1))) wa
def DrQ (sp li wa ra : Int) (w : World) (e : Ending) (w' : World) : Prop := ∃ (k code : Int), e = .returned (.tuple #[.int .i64 k, .int .i64 code]) ∧ (code ≠ 0 → k = 0) ∧ (code = 0 → 0 ≤ k ∧ ((k = 0) ↔ sp ≤ li) ∧ (k ≠ 0 → DrF sp li wa ra k)) ∧ Below w.heap.size w w'
theorem drQ_not {sp li wa ra code : Int} {w w' : World} (h : code ≠ 0) (b : Below w.heap.size w w') : DrQ sp li wa ra w (.returned (.tuple #[.int .i64 0, .int .i64 code])) w' := ⟨0, code, rfl, fun _ => rfl, fun e => absurd e h, b⟩
def DrLt (sp li wa ra : Int) (k : Nat) : Prop := 0 < k → li < rdiv (sp * max 0 (wa - ra * ((k : Int) - 1))) wa
set_option maxHeartbeats 1000000 in
theorem implDrainFor_any {sp li wa ra : Int} {w : World} :
    Calls Try.prog 17 #[.int .i64 sp, .int .i64 li, .int .i64 wa, .int .i64 ra] w (DrQ sp li wa ra w) := by
  cases v1 : inB sp 0 20000 with
  | false =>
    have HR : Hid (DrQ sp li wa ra w (.returned (.tuple #[.int .i64 0, .int .i64 2])) w) := Lib.hid (drQ_not (by decide) (Below.refl _ _))
    have V1 := Lib.hid v1
    clear v1
    go_enter Try.func17, Try.ntmps17
    go_wp2_with (go_at_call 41; refine (isPace_any _ _).mono ?_; rintro e w' ⟨rfl, rfl⟩; rw [V1.out])
    exact bodyPost_ret (v := .tuple #[.int .i64 0, .int .i64 2]) (by simp [results, Try.results17, go_sem]) rfl HR.out
  | true =>
  cases v2 : inB li 0 20000 with
  | false =>
    have HR : Hid (DrQ sp li wa ra w (.returned (.tuple #[.int .i64 0, .int .i64 2])) w) := Lib.hid (drQ_not (by decide) (Below.refl _ _))
    have V1 := Lib.hid v1
    have V2 := Lib.hid v2
    clear v1 v2
    go_enter Try.func17, Try.ntmps17
    go_wp2_with (go_at_call 41; refine (isPace_any _ _).mono ?_; rintro e w' ⟨rfl, rfl⟩; first | rw [V1.out] | rw [V2.out])
    exact bodyPost_ret (v := .tuple #[.int .i64 0, .int .i64 2]) (by simp [results, Try.results17, go_sem]) rfl HR.out
  | true =>
  cases v3 : inB wa 0 20000 with
  | false =>
    have HR : Hid (DrQ sp li wa ra w (.returned (.tuple #[.int .i64 0, .int .i64 2])) w) := Lib.hid (drQ_not (by decide) (Below.refl _ _))
    have V1 := Lib.hid v1
    have V2 := Lib.hid v2
    have V3 := Lib.hid v3
    clear v1 v2 v3
    go_enter Try.func17, Try.ntmps17
    go_wp2_with (first | (go_at_call 41; refine (isPace_any _ _).mono ?_; rintro e w' ⟨rfl, rfl⟩; first | rw [V1.out] | rw [V2.out]) | (go_at_call 39; refine (isTank_any _ _).mono ?_; rintro e w' ⟨rfl, rfl⟩; rw [V3.out]))
    exact bodyPost_ret (v := .tuple #[.int .i64 0, .int .i64 2]) (by simp [results, Try.results17, go_sem]) rfl HR.out
  | true =>
  cases v4 : inB ra 1 1000 with
  | false =>
    have HR : Hid (DrQ sp li wa ra w (.returned (.tuple #[.int .i64 0, .int .i64 2])) w) := Lib.hid (drQ_not (by decide) (Below.refl _ _))
    have V1 := Lib.hid v1
    have V2 := Lib.hid v2
    have V3 := Lib.hid v3
    have V4 := Lib.hid v4
    clear v1 v2 v3 v4
    go_enter Try.func17, Try.ntmps17
    go_wp2_with (first | (go_at_call 41; refine (isPace_any _ _).mono ?_; rintro e w' ⟨rfl, rfl⟩; first | rw [V1.out] | rw [V2.out]) | (go_at_call 39; refine (isTank_any _ _).mono ?_; rintro e w' ⟨rfl, rfl⟩; rw [V3.out]) | (go_at_call 36; refine (within_any _ _ _ _).mono ?_; rintro e w' ⟨rfl, rfl⟩; rw [V4.out]))
    exact bodyPost_ret (v := .tuple #[.int .i64 0, .int .i64 2]) (by simp [results, Try.results17, go_sem]) rfl HR.out
  | true =>
  have hsp := inB_true.1 v1
  have hli := inB_true.1 v2
  have hwa := inB_true.1 v3
  have hra := inB_true.1 v4
  have V1 := Lib.hid v1
  have V2 := Lib.hid v2
  have V3 := Lib.hid v3
  have V4 := Lib.hid v4
  clear v1 v2 v3 v4
  by_cases hle : sp ≤ li
  · have HR : Hid (DrQ sp li wa ra w (.returned (.tuple #[.int .i64 0, .int .i64 0])) w) := Lib.hid ⟨0, 0, rfl, fun _ => rfl, fun _ => ⟨by omega, ⟨fun _ => hle, fun _ => rfl⟩, fun h => absurd rfl h⟩, Below.refl _ _⟩
    have d1 : decide (sp ≤ li) = true := decide_eq_true hle
    go_enter Try.func17, Try.ntmps17
    go_wp2_with (first | (go_at_call 41; refine (isPace_any _ _).mono ?_; rintro e w' ⟨rfl, rfl⟩; first | rw [V1.out] | rw [V2.out]) | (go_at_call 39; refine (isTank_any _ _).mono ?_; rintro e w' ⟨rfl, rfl⟩; rw [V3.out]) | (go_at_call 36; refine (within_any _ _ _ _).mono ?_; rintro e w' ⟨rfl, rfl⟩; rw [V4.out]))
    exact bodyPost_ret (v := .tuple #[.int .i64 0, .int .i64 0]) (by simp [results, Try.results17, go_sem]) rfl HR.out
  have d1 : decide (sp ≤ li) = false := decide_eq_false hle
  by_cases hw0 : wa = 0
  · have HR : Hid (DrQ sp li wa ra w (.returned (.tuple #[.int .i64 0, .int .i64 3])) w) := Lib.hid (drQ_not (by decide) (Below.refl _ _))
    subst hw0
    go_enter Try.func17, Try.ntmps17
    go_wp2_with (first | (go_at_call 41; refine (isPace_any _ _).mono ?_; rintro e w' ⟨rfl, rfl⟩; first | rw [V1.out] | rw [V2.out]) | (go_at_call 39; refine (isTank_any _ _).mono ?_; rintro e w' ⟨rfl, rfl⟩; rw [V3.out]) | (go_at_call 36; refine (within_any _ _ _ _).mono ?_; rintro e w' ⟨rfl, rfl⟩; rw [V4.out]))
    exact bodyPost_ret (v := .tuple #[.int .i64 0, .int .i64 3]) (by simp [results, Try.results17, go_sem]) rfl HR.out
  have d2 : (wa == 0) = false := beq_eq_false_iff_ne.2 hw0
  have hw1 : 0 < wa := by omega
  obtain ⟨W, rfl⟩ := Int.eq_ofNat_of_zero_le hwa.1
  go_enter Try.func17, Try.ntmps17
  go_wp2_with (first | (go_at_call 41; refine (isPace_any _ _).mono ?_; rintro e w' ⟨rfl, rfl⟩; first | rw [V1.out] | rw [V2.out]) | (go_at_call 39; refine (isTank_any _ _).mono ?_; rintro e w' ⟨rfl, rfl⟩; rw [V3.out]) | (go_at_call 36; refine (within_any _ _ _ _).mono ?_; rintro e w' ⟨rfl, rfl⟩; rw [V4.out]))
  go_loopg [10] W (fun gk vi wr => ∃ (k : Nat), k ≤ W ∧ gk + k = W ∧ vi = .int .i64 (k : Int) ∧ DrLt sp li W ra k ∧ Below w.heap.size w wr)
  case atStart => exact ⟨0, by omega, by omega, rfl, fun h => absurd h (by omega), Below.refl _ _⟩
  case round =>
    obtain ⟨k, hk, hgk, rfl, hno, hbw⟩ := hrel
    have Hgk := Lib.hid hgk
    have HNo := Lib.hid hno
    have HB := Lib.hid hbw
    clear hgk hno hbw
    have hk0 : (0 : Int) ≤ (k : Int) := by omega
    have qk : IntKind.i64.wrap ((k : Int) + 1) = (k : Int) + 1 := IntWalk.i64_in _ (by omega)
    obtain ⟨V, hV⟩ : ∃ V, rdiv (sp * max 0 ((W : Int) - ra * (k : Int))) W = V := ⟨_, rfl⟩
    have HV := Lib.hid hV
    have m0 : 0 ≤ ra * (k : Int) := Int.mul_nonneg (by omega) hk0
    have m1 : ra * (k : Int) ≤ 1000 * 20000 := Int.mul_le_mul hra.2 (by omega) hk0 (by omega)
    have mk : (k : Int) ≤ ra * (k : Int) := by
      have := Int.mul_le_mul_of_nonneg_right hra.1 hk0
      omega
    have HK0 : Hid (k = 0 → li < V) := Lib.hid (fun h => by
      subst h
      rw [← HV.out, show ra * ((0 : Nat) : Int) = 0 by simp, show max 0 ((W : Int) - 0) = W by omega, rdiv_mul hsp.1 hw1]
      omega)
    have HKW : Hid (k = W → V ≤ li) := Lib.hid (fun h => by
      subst h
      rw [← HV.out, show max 0 ((k : Int) - ra * (k : Int)) = 0 by omega, Int.mul_zero, rdiv_zero hw1]
      exact hli.1)
    obtain ⟨R1, q1⟩ : ∃ R1, IntKind.i64.wrap (ra * (k : Int)) = R1 := ⟨_, rfl⟩
    have hR1 : R1 = ra * (k : Int) := by rw [← q1]; exact IntWalk.i64_in _ (by omega)
    obtain ⟨D, q2⟩ : ∃ D, IntKind.i64.wrap ((W : Int) - R1) = D := ⟨_, rfl⟩
    have hD : D = (W : Int) - ra * (k : Int) := by rw [← q2, hR1]; exact IntWalk.i64_in _ (by omega)
    have hD1 : D ≤ 20000 := by omega
    rw [← hD] at hV
    have HD := Lib.hid hD
    clear hD hR1 m0 m1 mk
    have HXV : Hid (li < V → DrLt sp li W ra (k + 1)) := Lib.hid (fun h _ => by rw [show (((k + 1 : Nat) : Int) - 1) = (k : Int) by omega, HV.out]; exact h)
    have HRV : Hid (¬ li < V → ∀ nd, DrQ sp li W ra w (.returned (.tuple #[.int .i64 (k : Int), .int .i64 0])) (wr.drewN nd)) := Lib.hid (fun hex nd => by
      have hk1 : 1 ≤ k := by
        rcases Nat.eq_zero_or_pos k with h | h
        · exact absurd (HK0.out h) hex
        · exact h
      refine ⟨k, 0, rfl, fun h => absurd rfl h, fun _ => ⟨hk0, ⟨fun h => by omega, fun h => absurd h (by omega)⟩, fun _ => ⟨hsp, hli, ⟨hw1, hwa.2⟩, hra, ⟨by omega, by omega⟩, ?_, HNo.out (by omega)⟩⟩, below_drewN HB.out nd⟩
      rw [HV.out]; omega)
    rcases (show 0 < D ∨ ¬ 0 < D by omega) with hs | hs
    case' inl =>
      have p0 : 0 ≤ sp * D := Int.mul_nonneg hsp.1 (by omega)
      have p1 : sp * D ≤ 20000 * 20000 := Int.mul_le_mul hsp.2 hD1 (by omega) (by omega)
      have q3 : IntKind.i64.wrap (sp * D) = sp * D := IntWalk.i64_in _ (by omega)
      have Hnr : Hid (∀ w, Calls Try.prog 42 #[.int .i64 (sp * D), .int .i64 (W : Int)] w fun e w' => e = .returned (.int .i64 V) ∧ ∃ n, w' = w.drewN n) := Lib.hid (fun w => by
        have := nearest_any (sp * D) (W : Int) w (by omega) (by omega) hw1 (by omega)
        rw [show max 0 D = D by omega] at hV
        rw [hV] at this
        exact this)
      obtain ⟨Pm, hPm⟩ : ∃ Pm, sp * D = Pm := ⟨_, rfl⟩
      rw [hPm] at Hnr
      replace q3 : IntKind.i64.wrap (sp * D) = Pm := by rw [q3]; exact hPm
      clear p0 p1 hPm
    case' inr =>
      have Hnr : Hid (∀ w, Calls Try.prog 42 #[.int .i64 0, .int .i64 (W : Int)] w fun e w' => e = .returned (.int .i64 V) ∧ ∃ n, w' = w.drewN n) := Lib.hid (fun w => by
        have := nearest_any 0 (W : Int) w (by omega) (by omega) hw1 (by omega)
        rw [show max 0 D = 0 by omega, Int.mul_zero] at hV
        rw [hV] at this
        exact this)
    all_goals
      clear hV
      by_cases hex : li < V
      · have hkW : k < W := by
          rcases Nat.lt_or_ge k W with h | h
          · exact h
          · have := HKW.out (by omega); omega
        have HX := Lib.hid (HXV.out hex)
        have g1 : decide (li < V) = true := decide_eq_true hex
        clear hex
        clear hsp hli hwa hra V1 V2 V3 V4 hle
        go_wp2_with fail
        refine (Hnr.out _).mono ?_
        rintro e w3 ⟨rfl, nd, rfl⟩
        have HB2 := Lib.hid (below_drewN HB.out nd)
        go_wp2_with fail
        have hgk := Hgk.out
        go_roundg (gk - 1)
        case rel => exact ⟨k + 1, by omega, by omega, by go_num, HX.out, HB2.out⟩
        case measure => omega
      · have HR := Lib.hid (HRV.out hex)
        have g1 : decide (li < V) = false := decide_eq_false hex
        clear hex
        clear hsp hli hwa hra V1 V2 V3 V4 hle
        go_wp2_with fail
        refine (Hnr.out _).mono ?_
        rintro e w3 ⟨rfl, nd, rfl⟩
        have HR2 := Lib.hid (HR.out nd)
        go_wp2_with fail
        exact bodyPost_ret (v := .tuple #[.int .i64 (k : Int), .int .i64 0]) (by simp [results, Try.results17, go_sem]) rfl HR2.out
theorem b10Div_any {a b : Int} {w : World} (ha : 0 ≤ a) (ha2 : a ≤ 1000000000000) (hb : 0 < b) (hb2 : b ≤ 1000000000000) :
    Calls Try.prog 18 #[.int .i64 a, .int .i64 b] w fun e w' => e = .returned (.int .i64 (rdiv a b)) ∧ w = w' := by
  have hd := div_le_self (x := 2 * a + b) (y := 2 * b) (by omega) (by omega)
  have Hd := Lib.hid (rdiv_pos (b := b) ha)
  have hq1 : IntKind.i64.wrap (2 * a) = 2 * a := IntWalk.i64_in _ (by omega)
  have hq2 : IntKind.i64.wrap (2 * a + b) = 2 * a + b := IntWalk.i64_in _ (by omega)
  have hq3 : IntKind.i64.wrap (2 * b) = 2 * b := IntWalk.i64_in _ (by omega)
  have ha' : ¬ a < 0 := by omega
  go_enter Try.func18, Try.ntmps18
  go_wp2_with fail
  go_ret
  exact ⟨ret_int (by rw [Hd.out]), rfl⟩
theorem b10Abs_any {a : Int} {w : World} (h : -1000000000000 ≤ a) (h' : a ≤ 1000000000000) :
    Calls Try.prog 13 #[.int .i64 a] w fun e w' => e = .returned (.int .i64 (absB a)) ∧ w = w' := by
  go_enter Try.func13, Try.ntmps13
  go_wp2
  all_goals go_ret
  all_goals (refine ⟨ret_int (?_ : (_ : Int) = _), rfl⟩; show (_ : Int) = _; unfold absB; omega)
theorem b10At2_any {A : Option Addr} {n c B : Nat} {zs : List Int} {k : Nat} {w : World} (hr : Bytz w B A n zs) (hn : n ≤ 1048576) (hk : k ≤ 1000) :
    Calls Try.prog 12 #[.slice A n c, .int .i64 k, .int .i64 2] w fun e w' => ∃ x : Int, e = .returned (.int .i64 x) ∧ (x = 0 ∨ x = 1) ∧ w = w' := by
  have hk0 : (0 : Int) ≤ (k : Int) := by omega
  have q1 : IntKind.i64.wrap ((k : Int) * 37) = (k : Int) * 37 := IntWalk.i64_in _ (by omega)
  have q2 : IntKind.i64.wrap ((k : Int) * 37 + 11) = (k : Int) * 37 + 11 := IntWalk.i64_in _ (by omega)
  by_cases hkn : k < n
  · obtain ⟨ad, y, rfl, hbl, hcy, hy0, hy1⟩ := hr.at_ hkn
    have hmm : 0 ≤ y % 2 ∧ y % 2 < 2 := ⟨Int.emod_nonneg _ (by omega), Int.emod_lt_of_pos _ (by omega)⟩
    have hd1 : (k : Int) < (n : Int) := by omega
    go_enter Try.func12, Try.ntmps12
    go_wp2_with fail
    go_ret
    exact ⟨y % 2, rfl, by omega, rfl⟩
  · have hd1 : ¬ (k : Int) < (n : Int) := by omega
    go_enter Try.func12, Try.ntmps12
    go_wp2_with fail
    go_ret
    exact ⟨((k : Int) * 37 + 11) % 2, rfl, by omega, rfl⟩
end Go.Proofs.Ytdighpgfepooaaa
