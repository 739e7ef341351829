/- Queues: SmoothArrivals: facts of what it returns; b10Sum of any numbers. -/
import Derived.Test.YtmiilnddfmeldaaVa
namespace Go.Proofs.Ytmiilnddfmeldaa
open Go.RowKit
set_option maxRecDepth 100000
set_option linter.unusedVariables false
set_option linter.unusedSimpArgs false

def SmoothP (zs ys : List Int) (most cd : Int) : Prop := (cd = 0 → arrB zs = true ∧ 1 ≤ most ∧ most ≤ 1000 ∧ ys.sum = zs.sum ∧ (∀ y ∈ ys, 0 ≤ y ∧ y ≤ most) ∧ zs.length ≤ ys.length ∧ ys.length ≤ 60) ∧ (cd ≠ 0 → ys = [])
def SmoothE (zs : List Int) (most : Int) (w : World) (e : Ending) (w' : World) : Prop := ∃ (A2 : Option Addr) (n2 c2 : Nat) (ys : List Int) (cd : Int), e = .returned (.tuple #[.slice A2 n2 c2, .int .i64 cd]) ∧ SmoothP zs ys most cd ∧ Own w' w.heap.size 2 1 A2 n2 c2 (ys.map (Value.int .i64)) ∧ Below w.heap.size w w'
theorem smooth_snoc {ys : List Int} {most x : Int} (h : ∀ y ∈ ys, 0 ≤ y ∧ y ≤ most) (hx : 0 ≤ x ∧ x ≤ most) : ∀ y ∈ ys ++ [x], 0 ≤ y ∧ y ≤ most := by
  intro y hy
  rcases List.mem_append.1 hy with h1 | h1
  · exact h y h1
  · rw [List.mem_singleton] at h1; rw [h1]; exact hx
theorem sum_snoc (ys : List Int) (x : Int) : (ys ++ [x]).sum = ys.sum + x := by simp
set_option maxHeartbeats 2000000 in
theorem implSmoothArrivals_any {A : Option Addr} {n c B : Nat} {zs : List Int} {most : Int} {w : World} (h : Ints w B A n zs) (hB : B ≤ w.heap.size) (hn : n ≤ 1048576) :
    Calls Try.prog 14 #[.slice A n c, .int .i64 most] w (SmoothE zs most w) := by
  cases v0 : arrB zs <;> cases v1 : inB most 1 1000
  case true.true =>
    have hv := arrB_true.1 v0
    have hl := h.len
    have hm := inB_true.1 v1
    obtain ⟨i0, hi, hz0, hz1, hz2⟩ := info_parts info_int
    have HL := Lib.hid h.len
    have Hz := Lib.hid hv.1
    have V0 := Lib.hid v0
    have V1 := Lib.hid v1
    have hn6 : n ≤ 60 := by omega
    clear hv hl v0 v1
    go_enter Try.func14, Try.ntmps14
    go_wp2_with (first | (go_at_call 33; refine (within_any _ _ _ _).mono ?_; rintro e w' ⟨rfl, rfl⟩; rw [V1.out]) | (go_at_call 20; refine (arriving_any A n c B zs _ _ h (by omega)).mono ?_; rintro e w' ⟨rfl, rfl⟩; rw [V0.out]; simp only [askC, if_true]))
    go_loopg [7, 8, 9] 61 (fun gk vo vl vi wr => ∃ (k : Nat) (l : Int) (ys : List Int) (A' : Option Addr) (c' : Nat), k ≤ 60 ∧ gk + k = 61 ∧ vi = .int .i64 (k : Int) ∧ vl = .int .i64 l ∧ vo = .slice A' k c' ∧ 0 ≤ l ∧ l ≤ k * 1000 ∧ Hid (ys.sum + l = (zs.take k).sum ∧ (∀ y ∈ ys, 0 ≤ y ∧ y ≤ most) ∧ ys.length = k) ∧ Own wr w.heap.size 2 1 A' k c' (ys.map (Value.int .i64)) ∧ Below w.heap.size w wr)
    case atStart => exact ⟨0, 0, [], none, 0, by omega, by omega, rfl, rfl, rfl, by omega, by omega, Lib.hid ⟨by simp, (fun y hy => by cases hy), rfl⟩, Own.nil _ _ _ _, Below.refl _ _⟩
    case round =>
      obtain ⟨k, l, ys, A', c', hk, hgk, rfl, rfl, rfl, hl0, hl1, HI, ho, hb⟩ := hrel
      have Hgk := Lib.hid hgk
      have hbs := hb.size
      clear hgk
      have hk0 : (0 : Int) ≤ (k : Int) := by omega
      have hq9 : IntKind.i64.wrap ((k : Int) + 1) = (k : Int) + 1 := IntWalk.i64_in _ (by omega)
      by_cases hlt : k < n
      · obtain ⟨ad, rfl, hbl, hcc⟩ := Ints.at_ (Reads.below h hb hB) hlt
        have hzk := Hz.out _ (nth_mem (zs := zs) (k := k) (by rw [HL.out]; omega))
        have HS := Lib.hid (sum_take_succ (zs := zs) (k := k) (by rw [HL.out]; exact hlt))
        generalize nth zs k = z at *
        have hk1 : (k : Int) < (n : Int) := by omega
        have hk2 : ¬ (60 : Int) ≤ (k : Int) := by omega
        have d2 : decide ((60 : Int) ≤ (k : Int)) = false := decide_eq_false hk2
        have q1 : IntKind.i64.wrap (l + z) = l + z := IntWalk.i64_in _ (by omega)
        obtain ⟨l', hl'⟩ : ∃ l', l + z = l' := ⟨_, rfl⟩
        have q2 : IntKind.i64.wrap (l' - most) = l' - most := IntWalk.i64_in _ (by omega)
        have q3 : IntKind.i64.wrap (l' - l') = l' - l' := IntWalk.i64_in _ (by omega)
        rw [hl'] at q1
        rw [← hl'] at q1 q2 q3
        go_wp2_with (first | (at_builtin; refine wpList_app rfl _ _ 24 rfl 2 i0 _ 1 8 Try.underlying24 hi hz0 hz1 hz2 rfl (by omega) (by omega) w.heap.size _ _ _ _ rfl (ho.alloc _) ⟨wr.heap.size, 0, none⟩ 1 1 _ rfl rfl (cell_one_new _ _ _) (by simp [Value.oneCell']) (by omega) (by simp; omega) ?_))
        all_goals
          intro A3 c3 w1 ho1 hg1 hb1 hat
          have ho2 : Own w1 w.heap.size 2 1 A3 (k + 1) c3 ((ys ++ [min (l + z) most]).map (Value.int .i64)) := by
            rw [List.map_append]; exact own_app ho1 (by omega)
          have hb2 : Below w.heap.size w w1 := (hb.alloc hbs _).trans hb1
          clear ho1 hg1 hat hb1
          go_wp2_with fail
          all_goals
            first
              | (exfalso; omega)
              | (have hgk := Hgk.out
                 go_roundg (gk - 1)
                 case rel => exact ⟨k + 1, l + z - min (l + z) most, ys ++ [min (l + z) most], A3, c3, by omega, by omega, by go_num, int_eq (by omega), rfl, by omega, by omega, Lib.hid ⟨by rw [sum_snoc, HS.out]; have := HI.out.1; omega, smooth_snoc HI.out.2.1 (by omega), by rw [List.length_append, HI.out.2.2]; rfl⟩, ho2, hb2⟩
                 case measure => omega)
      · have hk1 : ¬ (k : Int) < (n : Int) := by omega
        have e7 : decide ((k : Int) < (n : Int)) = false := decide_eq_false hk1
        have HT : Hid ((zs.take k).sum = zs.sum ∧ (zs.take (k + 1)).sum = zs.sum) := Lib.hid ⟨by rw [List.take_of_length_le (by rw [HL.out]; omega)], by rw [List.take_of_length_le (by rw [HL.out]; omega)]⟩
        by_cases hp : 0 < l
        · have d1 : decide (0 < l) = true := decide_eq_true hp
          by_cases hf : k < 60
          · have hk2 : ¬ (60 : Int) ≤ (k : Int) := by omega
            have d2 : decide ((60 : Int) ≤ (k : Int)) = false := decide_eq_false hk2
            have q2 : IntKind.i64.wrap (l - most) = l - most := IntWalk.i64_in _ (by omega)
            have q3 : IntKind.i64.wrap (l - l) = l - l := IntWalk.i64_in _ (by omega)
            go_wp2_with (first | (at_builtin; refine wpList_app rfl _ _ 24 rfl 2 i0 _ 1 8 Try.underlying24 hi hz0 hz1 hz2 rfl (by omega) (by omega) w.heap.size _ _ _ _ rfl (ho.alloc _) ⟨wr.heap.size, 0, none⟩ 1 1 _ rfl rfl (cell_one_new _ _ _) (by simp [Value.oneCell']) (by omega) (by simp; omega) ?_))
            all_goals
              intro A3 c3 w1 ho1 hg1 hb1 hat
              have ho2 : Own w1 w.heap.size 2 1 A3 (k + 1) c3 ((ys ++ [min l most]).map (Value.int .i64)) := by
                rw [List.map_append]; exact own_app ho1 (by omega)
              have hb2 : Below w.heap.size w w1 := (hb.alloc hbs _).trans hb1
              clear ho1 hg1 hat hb1
              go_wp2_with fail
              all_goals
                first
                  | (exfalso; omega)
                  | (have hgk := Hgk.out
                     go_roundg (gk - 1)
                     case rel => exact ⟨k + 1, l - min l most, ys ++ [min l most], A3, c3, by omega, by omega, by go_num, int_eq (by omega), rfl, by omega, by omega, Lib.hid ⟨by rw [sum_snoc, HT.out.2]; have := HI.out.1; have := HT.out.1; omega, smooth_snoc HI.out.2.1 (by omega), by rw [List.length_append, HI.out.2.2]; rfl⟩, ho2, hb2⟩
                     case measure => omega)
          · have hke : k = 60 := by omega
            subst hke
            have HF : Hid (SmoothE zs most w (.returned (.tuple #[.slice none 0 0, .int .i64 5])) wr) := Lib.hid ⟨none, 0, 0, [], 5, rfl, ⟨fun h => absurd h (by decide), fun _ => rfl⟩, Own.nil _ _ _ _, hb⟩
            go_wp2_with fail
            exact bodyPost_ret (v := .tuple #[.slice none 0 0, .int .i64 5]) (by simp [results, Try.results14, go_sem]) rfl HF.out
        · have d1 : decide (0 < l) = false := decide_eq_false hp
          have HF : Hid (SmoothE zs most w (.returned (.tuple #[.slice A' k c', .int .i64 0])) wr) := Lib.hid ⟨A', k, c', ys, 0, rfl, ⟨fun _ => ⟨V0.out, hm.1, hm.2, by have := HI.out.1; have := HT.out.1; omega, HI.out.2.1, by rw [HI.out.2.2, HL.out]; omega, by rw [HI.out.2.2]; omega⟩, fun h => absurd rfl h⟩, ho, hb⟩
          go_wp2_with fail
          exact bodyPost_ret (v := .tuple #[.slice A' k c', .int .i64 0]) (by simp [results, Try.results14, go_sem]) rfl HF.out
  case true.false =>
    have HF : Hid (SmoothE zs most w (.returned (.tuple #[.slice none 0 0, .int .i64 2])) w) := Lib.hid ⟨none, 0, 0, [], 2, rfl, ⟨fun h => absurd h (by decide), fun _ => rfl⟩, Own.nil _ _ _ _, Below.refl _ _⟩
    have V0 := Lib.hid v0
    have V1 := Lib.hid v1
    clear v0 v1
    go_enter Try.func14, Try.ntmps14
    go_wp2_with (first | (go_at_call 33; refine (within_any _ _ _ _).mono ?_; rintro e w' ⟨rfl, rfl⟩; rw [V1.out]) | (go_at_call 20; refine (arriving_any A n c B zs _ _ h (by omega)).mono ?_; rintro e w' ⟨rfl, rfl⟩; rw [V0.out]; simp only [askC, if_true, if_false, Bool.false_eq_true]))
    exact bodyPost_ret (v := .tuple #[.slice none 0 0, .int .i64 2]) (by simp [results, Try.results14, go_sem]) rfl HF.out
  case false.true =>
    have HF : Hid (SmoothE zs most w (.returned (.tuple #[.slice none 0 0, .int .i64 1])) w) := Lib.hid ⟨none, 0, 0, [], 1, rfl, ⟨fun h => absurd h (by decide), fun _ => rfl⟩, Own.nil _ _ _ _, Below.refl _ _⟩
    have V0 := Lib.hid v0
    have V1 := Lib.hid v1
    clear v0 v1
    go_enter Try.func14, Try.ntmps14
    go_wp2_with (first | (go_at_call 33; refine (within_any _ _ _ _).mono ?_; rintro e w' ⟨rfl, rfl⟩; rw [V1.out]) | (go_at_call 20; refine (arriving_any A n c B zs _ _ h (by omega)).mono ?_; rintro e w' ⟨rfl, rfl⟩; rw [V0.out]; simp only [askC, if_true, if_false, Bool.false_eq_true]))
    exact bodyPost_ret (v := .tuple #[.slice none 0 0, .int .i64 1]) (by simp [results, Try.results14, go_sem]) rfl HF.out
  case false.false =>
    have HF : Hid (SmoothE zs most w (.returned (.tuple #[.slice none 0 0, .int .i64 1])) w) := Lib.hid ⟨none, 0, 0, [], 1, rfl, ⟨fun h => absurd h (by decide), fun _ => rfl⟩, Own.nil _ _ _ _, Below.refl _ _⟩
    have V0 := Lib.hid v0
    have V1 := Lib.hid v1
    clear v0 v1
    go_enter Try.func14, Try.ntmps14
    go_wp2_with (first | (go_at_call 33; refine (within_any _ _ _ _).mono ?_; rintro e w' ⟨rfl, rfl⟩; rw [V1.out]) | (go_at_call 20; refine (arriving_any A n c B zs _ _ h (by omega)).mono ?_; rintro e w' ⟨rfl, rfl⟩; rw [V0.out]; simp only [askC, if_true, if_false, Bool.false_eq_true]))
    exact bodyPost_ret (v := .tuple #[.slice none 0 0, .int .i64 1]) (by simp [results, Try.results14, go_sem]) rfl HF.out
theorem b10Sum_wild {A : Option Addr} {n c B : Nat} {zs : List Int} {w : World} (h : Ints w B A n zs) (hn : n ≤ 1048576) :
    Calls Try.prog 9 #[.slice A n c] w fun e w' => ∃ s : Int, e = .returned (.int .i64 s) ∧ ((∀ z ∈ zs, 0 ≤ z ∧ z ≤ 1000) → s = zs.sum) ∧ w = w' := by
  have HL := Lib.hid h.len
  go_enter Try.func9, Try.ntmps9
  go_wp2_with fail
  go_loopg [3, 4] n (fun gk vs vi wr => ∃ (k : Nat) (s : Int), k ≤ n ∧ gk + k = n ∧ vi = .int .i64 (k : Int) ∧ vs = .int .i64 s ∧ Hid ((∀ z ∈ zs, 0 ≤ z ∧ z ≤ 1000) → s = (zs.take k).sum ∧ 0 ≤ s ∧ s ≤ k * 1000) ∧ w = wr)
  case atStart => exact ⟨0, 0, by omega, by omega, rfl, rfl, Lib.hid (fun _ => by simp), rfl⟩
  case round =>
    obtain ⟨k, s, hk, hgk, rfl, rfl, Hs, rfl⟩ := hrel
    have Hgk := Lib.hid hgk
    clear hgk
    by_cases hlt : k < n
    · obtain ⟨ad, rfl, hbl, hc⟩ := h.at_ hlt
      have HM := Lib.hid (nth_mem (zs := zs) (k := k) (by rw [HL.out]; exact hlt))
      have HN := Lib.hid (sum_take_succ (zs := zs) (k := k) (by rw [HL.out]; exact hlt))
      generalize nth zs k = z at *
      have hk0 : (0 : Int) ≤ (k : Int) := by omega
      have hk1 : (k : Int) < (n : Int) := by omega
      have q2 : IntKind.i64.wrap ((k : Int) + 1) = (k : Int) + 1 := IntWalk.i64_in _ (by omega)
      have HW : Hid ((∀ z ∈ zs, 0 ≤ z ∧ z ≤ 1000) → IntKind.i64.wrap (s + z) = (zs.take (k + 1)).sum ∧ 0 ≤ IntKind.i64.wrap (s + z) ∧ IntKind.i64.wrap (s + z) ≤ ((k + 1 : Nat) : Int) * 1000) := Lib.hid (fun hz => by
        have h1 := Hs.out hz
        have h2 := hz z HM.out
        have q1 : IntKind.i64.wrap (s + z) = s + z := IntWalk.i64_in _ (by omega)
        rw [q1, HN.out]
        omega)
      generalize hsz : IntKind.i64.wrap (s + z) = s' at *
      go_wp2_with fail
      have hgk := Hgk.out
      go_roundg (gk - 1)
      case rel => exact ⟨k + 1, s', by omega, by omega, by go_num, int_eq (by first | rfl | exact hsz | simpa using hsz), HW, rfl⟩
      case measure => omega
    · have hke : k = n := by omega
      subst hke
      have hd : ¬ (k : Int) < (k : Int) := by omega
      have HN : Hid ((∀ z ∈ zs, 0 ≤ z ∧ z ≤ 1000) → s = zs.sum) := Lib.hid (fun hz => by rw [(Hs.out hz).1, List.take_of_length_le (by rw [HL.out]; exact Nat.le_refl _)])
      go_wp2_with fail
      go_ret
      exact ⟨s, rfl, HN.out, rfl⟩
end Go.Proofs.Ytmiilnddfmeldaa
