/- Rope tests: the plain facts of the law; sums. -/
import Derived.Test.YtppbfdlgpehanaaRM
import Derived.Test.YtppbfdlgpehanaaRC
import Derived.Test.YtppbfdlgpehanaaRN
import Derived.Test.YtppbfdlgpehanaaFa
import Derived.Test.YtppbfdlgpehanaaDh
namespace Go.Proofs.Ytppbfdlgpehanaa
open Go.RowKit
set_option maxRecDepth 100000
set_option linter.unusedVariables false
set_option linter.unusedSimpArgs false

theorem b10Sum_any {A : Option Addr} {n c B : Nat} {zs : List Int} {w : World} (h : Ints w B A n zs) (hn : n ≤ 1048576) (hz : ∀ z ∈ zs, 0 ≤ z ∧ z ≤ 1000000000) :
    Calls Try.prog 9 #[.slice A n c] w fun e w' => e = .returned (.int .i64 zs.sum) ∧ w = w' := by
  have HL := Lib.hid h.len
  have Hz := Lib.hid hz
  clear hz
  go_enter Try.func9, Try.ntmps9
  go_wp2_with fail
  go_loopg [3, 4] n (fun gk vs vi wr => ∃ (k : Nat) (s : Int), k ≤ n ∧ gk + k = n ∧ vi = .int .i64 (k : Int) ∧ vs = .int .i64 s ∧ Hid (s = (zs.take k).sum) ∧ w = wr)
  case atStart => exact ⟨0, 0, by omega, by omega, rfl, rfl, Lib.hid (by simp), rfl⟩
  case round =>
    obtain ⟨k, s, hk, hgk, rfl, rfl, Hs, rfl⟩ := hrel
    have Hgk := Lib.hid hgk
    clear hgk
    by_cases hlt : k < n
    · obtain ⟨ad, rfl, hbl, hc⟩ := h.at_ hlt
      have hb := sum_bd Hz.out k
      have hm := Hz.out _ (nth_mem (zs := zs) (k := k) (by rw [HL.out]; exact hlt))
      have HN := Lib.hid (sum_take_succ (zs := zs) (k := k) (by rw [HL.out]; exact hlt))
      have hsb : 0 ≤ s ∧ s ≤ k * 1000000000 := by have := Hs.out; omega
      generalize nth zs k = z at *
      have hk0 : (0 : Int) ≤ (k : Int) := by omega
      have hk1 : (k : Int) < (n : Int) := by omega
      have q1 : IntKind.i64.wrap (s + z) = s + z := IntWalk.i64_in _ (by omega)
      have q2 : IntKind.i64.wrap ((k : Int) + 1) = (k : Int) + 1 := IntWalk.i64_in _ (by omega)
      go_wp2_with fail
      have hgk := Hgk.out
      go_roundg (gk - 1)
      case rel => exact ⟨k + 1, _, by omega, by omega, by go_num, rfl, Lib.hid (by rw [HN.out, Hs.out]), rfl⟩
      case measure => omega
    · have hke : k = n := by omega
      subst hke
      have hd : ¬ (k : Int) < (k : Int) := by omega
      have HN : Hid (s = zs.sum) := Lib.hid (by rw [Hs.out, List.take_of_length_le (by rw [HL.out]; exact Nat.le_refl _)])
      go_wp2_with fail
      go_ret
      exact ⟨ret_int HN.out, rfl⟩
theorem rope_facts {a0 a1 a2 a3 : Int} {zs : List Int} {wide : Int} (h : (rStrengthLeft a0 a1 a2 a3 zs wide).2 = 0) :
    ∃ W : Nat, wide = (W : Int) ∧ 1 ≤ W ∧ W ≤ zs.length ∧ zs.length ≤ 60 ∧ (6 ≤ a2 ∧ a2 ≤ 400) ∧ (1000 ≤ a3 ∧ a3 ≤ 10000000) ∧ (∀ z ∈ zs, 0 ≤ z ∧ z ≤ 400) ∧ (rStrengthLeft a0 a1 a2 a3 zs wide).1 = leftR a2 a3 (mostOf (sumsR zs W)) ∧ rBrokenIn zs wide = (sumsR zs W, 0) ∧ rWorstSpot zs wide = ((placeOf (sumsR zs W) : Int), mostOf (sumsR zs W), 0) ∧
      rMustReplace a0 a1 a2 a3 zs wide 700 = (decide (1000 * leftR a2 a3 (mostOf (sumsR zs W)) < 700 * a3), 0) ∧
      rCutOut zs wide = if W = zs.length then ([], 0, 6) else (zs.take (placeOf (sumsR zs W)) ++ zs.drop (placeOf (sumsR zs W) + W), mostOf (sumsR zs W), 0) := by
  unfold rStrengthLeft at h
  cases hr : ropeB a0 a1 a2 a3 with
  | false => rw [hr] at h; simp at h
  | true =>
    rw [hr] at h
    simp only [if_true] at h
    by_cases ha : askC (spotsB zs) (inB wide 1 zs.length) = 0
    · rcases askC_cases (spotsB zs) (inB wide 1 zs.length) with ⟨h0, h1, h2⟩ | h0 | h0
      · have hw := inB_true.1 h2
        obtain ⟨hz, hl1, hl2⟩ := spotsB_true.1 h1
        obtain ⟨hr2, hr3⟩ := ropeB_true hr
        obtain ⟨W, rfl⟩ := Int.eq_ofNat_of_zero_le (show 0 ≤ wide by omega)
        have hb : (inB (W : Int) 1 zs.length && inB 700 0 1000) = true := by rw [h2]; rfl
        have hask : askC (spotsB zs) (inB (W : Int) 1 zs.length && inB 700 0 1000) = 0 := by rw [h1, hb]; rfl
        refine ⟨W, rfl, by omega, by omega, hl2, hr2, hr3, hz, ?_, ?_, ?_, ?_, ?_⟩
        · unfold rStrengthLeft; rw [hr, if_pos rfl, if_pos ha]; rfl
        · unfold rBrokenIn; rw [if_pos ha]; rfl
        · unfold rWorstSpot; rw [if_pos ha]; rfl
        · unfold rMustReplace; rw [hr, if_pos rfl, if_pos hask]; rfl
        · unfold rCutOut
          rw [if_pos ha]
          by_cases e : W = zs.length
          · rw [if_pos (by omega), if_pos e]
          · rw [if_neg (by omega), if_neg e]; rfl
      · rw [ha] at h0; omega
      · rw [ha] at h0; omega
    · rw [if_neg ha] at h
      exact absurd h ha
theorem rope_no {a0 a1 a2 a3 : Int} {zs : List Int} {wide : Int} (h : ¬ (rStrengthLeft a0 a1 a2 a3 zs wide).2 = 0) : (rStrengthLeft a0 a1 a2 a3 zs wide).1 = 0 := by
  unfold rStrengthLeft at h ⊢
  cases hr : ropeB a0 a1 a2 a3 with
  | false => rfl
  | true =>
    rw [hr] at h
    simp only [if_true] at h ⊢
    by_cases ha : askC (spotsB zs) (inB wide 1 zs.length) = 0
    · rw [if_pos ha] at h; exact absurd rfl h
    · rw [if_neg ha]
theorem left_facts {a2 a3 m : Int} (h2 : 6 ≤ a2 ∧ a2 ≤ 400) (h3 : 1000 ≤ a3 ∧ a3 ≤ 10000000) (hm : 0 ≤ m) :
    0 ≤ leftR a2 a3 m ∧ leftR a2 a3 m ≤ 10000000 ∧ leftR a2 a3 m * a2 ≤ a3 * max 0 (a2 - m) ∧ a3 * max 0 (a2 - m) < (leftR a2 a3 m + 1) * a2 ∧ 0 ≤ a3 * max 0 (a2 - m) ∧ a3 * max 0 (a2 - m) ≤ 4000000000 := by
  have hal : 0 ≤ max 0 (a2 - m) ∧ max 0 (a2 - m) ≤ a2 := by omega
  unfold leftR
  generalize max 0 (a2 - m) = al at *
  have hP0 : 0 ≤ a3 * al := Int.mul_nonneg (by omega) hal.1
  have hP1 : a3 * al ≤ a3 * a2 := Int.mul_le_mul_of_nonneg_left hal.2 (by omega)
  have hP2 : a3 * a2 ≤ 10000000 * 400 := Int.mul_le_mul h3.2 h2.2 (by omega) (by omega)
  have e1 := Int.mul_ediv_add_emod (a3 * al) a2
  have e2 := Int.emod_nonneg (a3 * al) (show a2 ≠ 0 by omega)
  have e3 := Int.emod_lt_of_pos (a3 * al) (show 0 < a2 by omega)
  have e4 : 0 ≤ a3 * al / a2 := Int.ediv_nonneg hP0 (by omega)
  have e5 : a2 * (a3 * al / a2) ≤ a2 * a3 := by rw [Int.mul_comm a2 a3]; omega
  have e6 : a3 * al / a2 ≤ a3 := Int.le_of_mul_le_mul_left e5 (by omega)
  have e7 : (a3 * al / a2 + 1) * a2 = a2 * (a3 * al / a2) + a2 := by rw [Int.add_mul, Int.one_mul, Int.mul_comm]
  have e8 : a3 * al / a2 * a2 = a2 * (a3 * al / a2) := Int.mul_comm _ _
  rw [e7, e8]
  omega
theorem sums_nth {zs : List Int} {W i : Nat} (hi : i < zs.length - W + 1) : nth (sumsR zs W) i = ((zs.drop i).take W).sum := by
  unfold nth sumsR winTo
  rw [List.getD_eq_getElem?_getD, List.getElem?_map, List.getElem?_range hi]; rfl
theorem sum_app (a b : List Int) : (a ++ b).sum = a.sum + b.sum := by simp
theorem cut_facts {zs : List Int} {W p : Nat} (hp : p + W ≤ zs.length) : (zs.take p ++ zs.drop (p + W)).length + W = zs.length ∧ (zs.take p ++ zs.drop (p + W)).sum + ((zs.drop p).take W).sum = zs.sum := by
  refine ⟨by simp; omega, ?_⟩
  have e : zs = zs.take p ++ ((zs.drop p).take W ++ zs.drop (p + W)) := by
    rw [← List.drop_drop, List.take_append_drop, List.take_append_drop]
  have h2 : zs.sum = (zs.take p).sum + (((zs.drop p).take W).sum + (zs.drop (p + W)).sum) := by
    conv => lhs; rw [e]
    rw [sum_app, sum_app]
  rw [sum_app]
  omega
theorem diffTo_len (a b : List Int) (k : Nat) : (diffTo a b k).length = k := by simp [diffTo]
theorem diffTo_nth {a b : List Int} {k i : Nat} (h : i < k) : nth (diffTo a b k) i = nth b i - nth a i := by
  unfold nth diffTo
  rw [List.getD_eq_getElem?_getD, List.getElem?_map, List.getElem?_range h]; rfl
theorem nb_facts {a b : List Int} (h : (rNewBroken a b).2 = 0) : a.length = b.length ∧ (∀ i, i < a.length → nth a i ≤ nth b i) ∧ (∀ z ∈ a, 0 ≤ z ∧ z ≤ 400) ∧ (∀ z ∈ b, 0 ≤ z ∧ z ≤ 400) ∧ rNewBroken a b = (diffTo a b a.length, 0) := by
  unfold rNewBroken at h ⊢
  cases hs : spotsB a && spotsB b with
  | false => rw [hs] at h; simp at h
  | true =>
    rw [hs] at h
    simp only [if_true] at h ⊢
    by_cases hl : a.length = b.length
    · rw [if_pos hl] at h ⊢
      cases hr : riseTo a b a.length with
      | false => rw [hr] at h; simp at h
      | true =>
        rw [Bool.and_eq_true] at hs
        refine ⟨hl, fun i hi => ?_, (spotsB_true.1 hs.1).1, (spotsB_true.1 hs.2).1, rfl⟩
        have := allTo_true.1 hr i hi
        exact of_decide_eq_true this
    · rw [if_neg hl] at h; simp at h
theorem nb_no {a b : List Int} (h : ¬ (rNewBroken a b).2 = 0) : (rNewBroken a b).1 = [] := by
  unfold rNewBroken at h ⊢
  cases hs : spotsB a && spotsB b with
  | false => rfl
  | true =>
    rw [hs] at h
    simp only [if_true] at h ⊢
    by_cases hl : a.length = b.length
    · rw [if_pos hl] at h ⊢
      cases hr : riseTo a b a.length with
      | false => rfl
      | true => rw [hr] at h; simp at h
    · rw [if_neg hl]
end Go.Proofs.Ytppbfdlgpehanaa
