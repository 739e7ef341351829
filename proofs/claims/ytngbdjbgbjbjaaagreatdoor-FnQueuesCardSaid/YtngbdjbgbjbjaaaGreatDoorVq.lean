/- The law of queues: contracts of ExtraRide, LeastSeats, and of the law's own helpers. -/
import Derived.Test.YtngbdjbgbjbjaaaGreatDoorVp
import Derived.BigQuiet
namespace Go.Proofs.YtngbdjbgbjbjaaaGreatDoor
open Go.RowKit
set_option maxRecDepth 100000
set_option linter.unusedVariables false
set_option linter.unusedSimpArgs false

theorem implQueuesOf_none {A : Option Addr} {n c B : Nat} {zs : List Int} {every seats : Int} {w : World} (h : Ints w B A n zs) (hn : n ≤ 1048576) (hne : askC (arrB zs) (inB every 1 60 && inB seats 1 1000) ≠ 0) :
    Calls Tryz.prog 6 #[.slice A n c, .int .i64 every, .int .i64 seats] w fun e w' => e = .returned (.tuple #[.slice none 0 0, .int .i64 (askC (arrB zs) (inB every 1 60 && inB seats 1 1000))]) ∧ w = w' := by
  cases v0 : arrB zs <;> cases v1 : inB every 1 60 <;> cases v2 : inB seats 1 1000
  case true.true.true => rw [v0, v1, v2] at hne; exact absurd rfl hne
  all_goals
    clear hne
    go_enter Tryz.func6, Tryz.ntmps6
    go_wp2_with (first | (go_at_call 23; refine (isEvery_any _ _).mono ?_; rintro e w' ⟨rfl, rfl⟩) | (go_at_call 24; refine (isSeats_any _ _).mono ?_; rintro e w' ⟨rfl, rfl⟩) | (go_at_call 22; refine (arriving_any A n c B zs _ _ h (by omega)).mono ?_; rintro e w' ⟨rfl, rfl⟩; rw [v0]; simp only [askC, if_true, if_false, Bool.false_eq_true]))
    go_ret2
    exact ⟨rfl, rfl⟩
theorem implQueuesOf_all {A : Option Addr} {n c B : Nat} {zs : List Int} {every seats : Int} {w : World} (h : Ints w B A n zs) (hB : B ≤ w.heap.size) (hn : n ≤ 1048576) :
    Calls Tryz.prog 6 #[.slice A n c, .int .i64 every, .int .i64 seats] w fun e w' => ∃ A' n' c', e = .returned (.tuple #[.slice A' n' c', .int .i64 (askC (arrB zs) (inB every 1 60 && inB seats 1 1000))]) ∧ n' ≤ 1048576 ∧ Below w.heap.size w w' ∧
      (askC (arrB zs) (inB every 1 60 && inB seats 1 1000) = 0 → n' = n ∧ Own w' w.heap.size 2 1 A' n' c' ((queuesTo zs every seats 0 n).map (Value.int .i64))) ∧ (askC (arrB zs) (inB every 1 60 && inB seats 1 1000) ≠ 0 → n' = 0) := by
  by_cases ha : askC (arrB zs) (inB every 1 60 && inB seats 1 1000) = 0
  · refine (implQueuesOf_any h hB hn).mono ?_
    rintro e w' ⟨A', n', c', h1, h2, h3, h4⟩
    exact ⟨A', n', c', h1, h2, h3, h4, fun hx => absurd ha hx⟩
  · refine (implQueuesOf_none h hn ha).mono ?_
    rintro e w' ⟨h1, rfl⟩
    exact ⟨none, 0, 0, h1, by omega, Below.refl _ _, fun hx => absurd hx ha, fun _ => rfl⟩
theorem b10Sum_big {A : Option Addr} {n c B : Nat} {zs : List Int} {w : World} (h : Ints w B A n zs) (hn : n ≤ 1048576) (hz : ∀ z ∈ zs, 0 ≤ z ∧ z ≤ 1000000000) :
    Calls Tryz.prog 9 #[.slice A n c] w fun e w' => e = .returned (.int .i64 zs.sum) ∧ w = w' := by
  have HL := Lib.hid h.len
  have Hz := Lib.hid hz
  clear hz
  go_enter Tryz.func9, Tryz.ntmps9
  go_wp2_with fail
  go_loopg [3, 4] n (fun gk vs vi wr => ∃ (k : Nat), k ≤ n ∧ gk + k = n ∧ vi = .int .i64 (k : Int) ∧ vs = .int .i64 (zs.take k).sum ∧ w = wr)
  case atStart => exact ⟨0, by omega, by omega, rfl, rfl, rfl⟩
  case round =>
    obtain ⟨k, hk, hgk, rfl, rfl, rfl⟩ := hrel
    have Hgk := Lib.hid hgk
    clear hgk
    by_cases hlt : k < n
    · obtain ⟨ad, rfl, hbl, hc⟩ := h.at_ hlt
      have HM := nth_mem (zs := zs) (k := k) (by rw [HL.out]; exact hlt)
      have hzk := Hz.out _ HM
      have hsb := sum_bd Hz.out k
      have HN := Lib.hid (sum_take_succ (zs := zs) (k := k) (by rw [HL.out]; exact hlt))
      clear HM
      generalize nth zs k = z at *
      generalize (zs.take k).sum = s at *
      have hk0 : (0 : Int) ≤ (k : Int) := by omega
      have hk1 : (k : Int) < (n : Int) := by omega
      have q1 : IntKind.i64.wrap (s + z) = s + z := IntWalk.i64_in _ (by omega)
      have q2 : IntKind.i64.wrap ((k : Int) + 1) = (k : Int) + 1 := IntWalk.i64_in _ (by omega)
      go_wp2_with fail
      have hgk := Hgk.out
      go_roundg (gk - 1)
      case rel => exact ⟨k + 1, by omega, by omega, by go_num, int_eq (by rw [HN.out]), rfl⟩
      case measure => omega
    · have hke : k = n := by omega
      subst hke
      have hd : ¬ (k : Int) < (k : Int) := by omega
      have HS : Hid ((zs.take k).sum = zs.sum) := Lib.hid (by rw [List.take_of_length_le (by rw [HL.out]; exact Nat.le_refl _)])
      go_wp2_with fail
      go_ret
      exact ⟨ret_int (by rw [HS.out]), rfl⟩
theorem b10Nums_same {A A' : Option Addr} {n c c' B B' : Nat} {zs : List Int} {w : World} (h : Ints w B A n zs) (h' : Ints w B' A' n zs) (hn : n ≤ 1048576) :
    Calls Tryz.prog 12 #[.slice A n c, .slice A' n c'] w fun e w' => e = .returned (.bool true) ∧ Below w.heap.size w w' := by
  have HL := Lib.hid h.len
  go_enter Tryz.func12, Tryz.ntmps12
  go_wp2_with fail
  go_loopg [5] n (fun gk vi wr => ∃ (k : Nat), k ≤ n ∧ gk + k = n ∧ vi = .int .i64 (k : Int) ∧ Below w.heap.size w wr)
  case atStart => exact ⟨0, by omega, by omega, rfl, Below.refl _ _⟩
  case round =>
    obtain ⟨k, hk, hgk, rfl, hb⟩ := hrel
    have Hgk := Lib.hid hgk
    clear hgk
    by_cases hlt : k < n
    · obtain ⟨ad, rfl, hbl, hc⟩ := h.at_ hlt
      obtain ⟨ad', rfl, hbl', hc'⟩ := h'.at_ hlt
      have hlt1 := World.block_lt_of_cell? w _ hc
      have hlt2 := World.block_lt_of_cell? w _ hc'
      have d1 := (hb.cell (p := ad.add k) hlt1).trans hc
      have d2 := (hb.cell (p := ad'.add k) hlt2).trans hc'
      clear hc hc' hlt1 hlt2
      generalize nth zs k = z at *
      have hk0 : (0 : Int) ≤ (k : Int) := by omega
      have hk1 : (k : Int) < (n : Int) := by omega
      have q2 : IntKind.i64.wrap ((k : Int) + 1) = (k : Int) + 1 := IntWalk.i64_in _ (by omega)
      have qb : (z == z) = true := beq_self_eq_true _
      have HB := Lib.hid (fun d => below_drewN (w := wr) hb d)
      go_wp2_with fail
      go_quiet (fail)
      go_wp2_with fail
      have hgk := Hgk.out
      go_roundg (gk - 1)
      case rel => exact ⟨k + 1, by omega, by omega, by go_num, HB.out _⟩
      case measure => omega
    · have hke : k = n := by omega
      subst hke
      have hd : ¬ (k : Int) < (k : Int) := by omega
      go_wp2_with fail
      go_ret
      exact ⟨rfl, hb⟩
def ExtraP (zs : List Int) (every seats : Int) (n : Nat) (m s cd : Int) : Prop := cd = 0 → 1 ≤ m ∧ m ≤ n ∧ 0 ≤ s ∧ s ≤ (queuesTo zs every seats 0 n).sum
def ExtraE (zs : List Int) (every seats : Int) (n : Nat) (w : World) (e : Ending) (w' : World) : Prop := ∃ (m s cd : Int), e = .returned (.tuple #[.int .i64 m, .int .i64 s, .int .i64 cd]) ∧ cd = askC (arrB zs) (inB every 1 60 && inB seats 1 1000) ∧ ExtraP zs every seats n m s cd ∧ Below w.heap.size w w'
theorem implExtraRide_any {A : Option Addr} {n c B : Nat} {zs : List Int} {every seats : Int} {w : World} (h : Ints w B A n zs) (hB : B ≤ w.heap.size) (hn : n ≤ 1048576) :
    Calls Tryz.prog 8 #[.slice A n c, .int .i64 every, .int .i64 seats] w (ExtraE zs every seats n w) := by
  have HL := Lib.hid h.len
  cases v0 : arrB zs <;> cases v1 : inB every 1 60 <;> cases v2 : inB seats 1 1000
  case true.true.true =>
    have hv := arrB_true.1 v0
    have hlen := HL.out
    have he := inB_true.1 v1
    have hs := inB_true.1 v2
    have HV := Lib.hid (show askC (arrB zs) (inB every 1 60 && inB seats 1 1000) = 0 by rw [v0, v1, v2]; rfl)
    have hn6 : n ≤ 60 := by omega
    have hn1 : 1 ≤ n := by omega
    have HZ := Lib.hid hv.1
    go_enter Tryz.func8, Tryz.ntmps8
    go_wp2_with (first | (go_at_call 23; refine (isEvery_any _ _).mono ?_; rintro e w' ⟨rfl, rfl⟩) | (go_at_call 24; refine (isSeats_any _ _).mono ?_; rintro e w' ⟨rfl, rfl⟩) | (go_at_call 22; refine (arriving_any A n c B zs _ _ h (by omega)).mono ?_; rintro e w' ⟨rfl, rfl⟩; rw [v0]; simp only [askC, if_true]))
    go_loopg [10, 11, 12, 13] (n + 1) (fun gk vb vl vi vx wr => ∃ (k : Nat) (m s : Int), k ≤ n ∧ gk + k = n + 1 ∧ vi = .int .i64 ((k : Int) + 1) ∧ vb = .int .i64 m ∧ vl = .int .i64 s ∧ ((k = 0 ∧ m = 0) ∨ (1 ≤ k ∧ 1 ≤ m ∧ m ≤ k ∧ 0 ≤ s ∧ s ≤ (queuesTo zs every seats 0 n).sum)) ∧ Below w.heap.size w wr)
    case atStart => exact ⟨0, 0, 0, by omega, by omega, rfl, rfl, rfl, .inl ⟨rfl, rfl⟩, Below.refl _ _⟩
    case round =>
      obtain ⟨k, m, s, hk, hgk, rfl, rfl, rfl, hor, hb⟩ := hrel
      have Hgk := Lib.hid hgk
      have hbs := hb.size
      clear hgk
      by_cases hlt : k < n
      · have hk1 : (k : Int) + 1 ≤ (n : Int) := by omega
        have q1 : IntKind.i64.wrap ((k : Int) + 1 + 1) = (k : Int) + 1 + 1 := IntWalk.i64_in _ (by omega)
        have HLe := Lib.hid (queuesTo_sum_le (every := every) ((k : Int) + 1) hs.1 HZ.out n (by rw [HL.out]; exact Nat.le_refl _))
        have HMm := Lib.hid (queuesTo_mem (every := every) (m := (k : Int) + 1) hs.1 HZ.out (k := n) (by rw [HL.out]; exact Nat.le_refl _) hn6)
        go_wp2_with (go_at_call 28; refine (size_int_any _ _ _ _ (by omega)).mono ?_; rintro e w' ⟨rfl, rfl⟩)
        refine (queues_any A n c B zs every seats ((k : Int) + 1) _ (Reads.below h hb hB) (by omega) hn6 HZ.out he hs).mono ?_
        rintro ee w1 ⟨A1, c1, rfl, o1, b1⟩
        have hb1 := hb.trans (b1.mono hbs)
        generalize queuesTo zs every seats ((k : Int) + 1) n = qs at *
        have HB1 := Lib.hid hb1
        clear hb b1
        go_wp2_with fail
        refine (total_any _ _ _ _ qs _ (own_ints o1) (by omega) (fun z hz => by have := HMm.out z hz; omega)).mono ?_
        rintro ee w3 ⟨rfl, rfl⟩
        have hs0 : 0 ≤ qs.sum := by
          have := sum_bd (zs := qs) (fun z hz => by have := HMm.out z hz; omega) qs.length
          rw [List.take_length] at this
          exact this.1
        have hle := HLe.out
        clear HLe HMm o1
        obtain ⟨qsum, hqs⟩ : ∃ x, qs.sum = x := ⟨_, rfl⟩
        rw [hqs] at hs0 hle ⊢
        clear hqs
        rcases hor with ⟨hk0, hm0⟩ | ⟨hk0, hm1, hmk, hs1, hs2⟩
        · have d0 : (m == 0) = true := by rw [beq_iff_eq]; exact hm0
          have HK := Lib.hid hk0
          clear hk0 hm0
          go_wp2_with fail
          have hgk := Hgk.out
          go_roundg (gk - 1)
          case rel => exact ⟨k + 1, (k : Int) + 1, qsum, by omega, by omega, by go_num, rfl, rfl, .inr ⟨by omega, by omega, by omega, hs0, hle⟩, HB1.out⟩
          case measure => omega
        · have d0 : (m == 0) = false := by rw [beq_eq_false_iff_ne]; omega
          by_cases hlt2 : qsum < s
          · go_wp2_with fail
            have hgk := Hgk.out
            go_roundg (gk - 1)
            case rel => exact ⟨k + 1, (k : Int) + 1, qsum, by omega, by omega, by go_num, rfl, rfl, .inr ⟨by omega, by omega, by omega, hs0, hle⟩, HB1.out⟩
            case measure => omega
          · go_wp2_with fail
            have hgk := Hgk.out
            go_roundg (gk - 1)
            case rel => exact ⟨k + 1, m, s, by omega, by omega, by go_num, rfl, rfl, .inr ⟨by omega, by omega, by omega, hs1, hs2⟩, HB1.out⟩
            case measure => omega
      · have hke : k = n := by omega
        have hk1 : ¬ (k : Int) + 1 ≤ (n : Int) := by omega
        have HP : Hid (ExtraE zs every seats n w (.returned (.tuple #[.int .i64 m, .int .i64 s, .int .i64 0])) wr) := Lib.hid ⟨m, s, 0, rfl, HV.out.symm, fun _ => by rcases hor with h1 | h1 <;> omega, hb⟩
        clear hor
        go_wp2_with (go_at_call 28; refine (size_int_any _ _ _ _ (by omega)).mono ?_; rintro e w' ⟨rfl, rfl⟩)
        go_ret3
        exact HP.out
  all_goals
    have HP : Hid (ExtraE zs every seats n w (.returned (.tuple #[.int .i64 0, .int .i64 0, .int .i64 (askC (arrB zs) (inB every 1 60 && inB seats 1 1000))])) w) := Lib.hid ⟨0, 0, _, rfl, rfl, fun h => by rw [v0, v1, v2] at h; simp [askC] at h, Below.refl _ _⟩
    rw [v0, v1, v2] at HP
    go_enter Tryz.func8, Tryz.ntmps8
    go_wp2_with (first | (go_at_call 23; refine (isEvery_any _ _).mono ?_; rintro e w' ⟨rfl, rfl⟩) | (go_at_call 24; refine (isSeats_any _ _).mono ?_; rintro e w' ⟨rfl, rfl⟩) | (go_at_call 22; refine (arriving_any A n c B zs _ _ h (by omega)).mono ?_; rintro e w' ⟨rfl, rfl⟩; rw [v0]; simp only [askC, if_true, if_false, Bool.false_eq_true]))
    go_ret3
    exact HP.out
def LeastE (zs : List Int) (every limit : Int) (w : World) (e : Ending) (w' : World) : Prop := ∃ (few cd : Int), e = .returned (.tuple #[.int .i64 few, .int .i64 cd]) ∧ LeastP zs every limit few cd ∧ 0 ≤ few ∧ few ≤ 1000 ∧ Below w.heap.size w w'
theorem implLeastSeats_any {A : Option Addr} {n c B : Nat} {zs : List Int} {every limit : Int} {w : World} (h : Ints w B A n zs) (hB : B ≤ w.heap.size) (hn : n ≤ 1048576) :
    Calls Tryz.prog 14 #[.slice A n c, .int .i64 every, .int .i64 limit] w (LeastE zs every limit w) := by
  have HL := Lib.hid h.len
  cases v0 : arrB zs <;> cases v1 : inB every 1 60 <;> cases v2 : inB limit 0 100000
  case true.true.true =>
    have hv := arrB_true.1 v0
    have hlen := HL.out
    have he := inB_true.1 v1
    have V0 := Lib.hid v0
    have V1 := Lib.hid v1
    have hn6 : n ≤ 60 := by omega
    have hn1 : 1 ≤ n := by omega
    have HZ := Lib.hid hv.1
    go_enter Tryz.func14, Tryz.ntmps14
    go_wp2_with (first | (go_at_call 23; refine (isEvery_any _ _).mono ?_; rintro e w' ⟨rfl, rfl⟩) | (go_at_call 36; refine (isQueue_any _ _).mono ?_; rintro e w' ⟨rfl, rfl⟩) | (go_at_call 22; refine (arriving_any A n c B zs _ _ h (by omega)).mono ?_; rintro e w' ⟨rfl, rfl⟩; rw [v0]; simp only [askC, if_true]))
    go_loopg [9] 1001 (fun gk vi wr => ∃ (k : Nat), k ≤ 1000 ∧ gk + k = 1001 ∧ vi = .int .i64 ((k : Int) + 1) ∧ Hid (∀ s : Int, 1 ≤ s → s < (k : Int) + 1 → limit < mostOf (queuesTo zs every s 0 n)) ∧ Below w.heap.size w wr)
    case atStart => exact ⟨0, by omega, by omega, rfl, Lib.hid (fun s h1 h2 => by omega), Below.refl _ _⟩
    case round =>
      obtain ⟨k, hk, hgk, rfl, HN, hb⟩ := hrel
      have Hgk := Lib.hid hgk
      have hbs := hb.size
      clear hgk
      by_cases hlt : k < 1000
      · have v4 : inB ((k : Int) + 1) 1 1000 = true := inB_true.2 (by omega)
        have q1 : IntKind.i64.wrap ((k : Int) + 1 + 1) = (k : Int) + 1 + 1 := IntWalk.i64_in _ (by omega)
        have Hq := Lib.hid (queuesTo_len zs every ((k : Int) + 1) 0 n)
        go_wp2_with (go_at_call 24; refine (isSeats_any _ _).mono ?_; rintro e w' ⟨rfl, rfl⟩)
        refine (queues_any A n c B zs every ((k : Int) + 1) 0 _ (Reads.below h hb hB) (by omega) hn6 HZ.out he (by omega)).mono ?_
        rintro ee w1 ⟨A1, c1, rfl, o1, b1⟩
        have HB1 := Lib.hid (hb.trans (b1.mono hbs))
        obtain ⟨qs, hqs⟩ : ∃ x, queuesTo zs every ((k : Int) + 1) 0 n = x := ⟨_, rfl⟩
        have Hqs := Lib.hid hqs
        rw [hqs] at o1 Hq
        have hql := Hq.out
        clear hb b1 hqs
        go_wp2_with fail
        refine (max_any _ _ _ _ qs _ (own_ints o1) (by omega) (by omega)).mono ?_
        rintro ee w3 ⟨rfl, rfl⟩
        by_cases hm : mostOf qs ≤ limit
        · have HP : Hid (LeastE zs every limit w (.returned (.tuple #[.int .i64 ((k : Int) + 1), .int .i64 0])) w1) := Lib.hid ⟨_, 0, rfl, fun _ => ⟨V0.out, V1.out, by omega, by omega, by rw [HL.out, Hqs.out]; exact hm, fun s h1 h2 => by rw [HL.out]; exact HN.out s h1 h2⟩, by omega, by omega, HB1.out⟩
          clear o1
          go_wp2_with fail
          go_ret2
          exact HP.out
        · have HN2 : Hid (∀ s : Int, 1 ≤ s → s < ((k + 1 : Nat) : Int) + 1 → limit < mostOf (queuesTo zs every s 0 n)) := Lib.hid (fun s h1 h2 => by
            by_cases hx : s = (k : Int) + 1
            · subst hx; rw [Hqs.out]; omega
            · exact HN.out s h1 (by omega))
          clear o1
          go_wp2_with fail
          have hgk := Hgk.out
          go_roundg (gk - 1)
          case rel => exact ⟨k + 1, by omega, by omega, by go_num, HN2, HB1.out⟩
          case measure => omega
      · have hke : k = 1000 := by omega
        subst hke
        have v4 : inB (1001 : Int) 1 1000 = false := rfl
        have v5 : inB (((1000 : Nat) : Int) + 1) 1 1000 = false := rfl
        have HP : Hid (LeastE zs every limit w (.returned (.tuple #[.int .i64 0, .int .i64 3])) wr) := Lib.hid ⟨0, 3, rfl, fun h => (by cases h), by omega, by omega, hb⟩
        go_wp2_with (go_at_call 24; refine (isSeats_any _ _).mono ?_; rintro e w' ⟨rfl, rfl⟩)
        go_ret2
        exact HP.out
  all_goals
    have HP : Hid (LeastE zs every limit w (.returned (.tuple #[.int .i64 0, .int .i64 (askC (arrB zs) (inB every 1 60 && inB limit 0 100000))])) w) := Lib.hid ⟨0, _, rfl, fun h => by rw [v0, v1, v2] at h; simp [askC] at h, by omega, by omega, Below.refl _ _⟩
    rw [v0, v1, v2] at HP
    go_enter Tryz.func14, Tryz.ntmps14
    go_wp2_with (first | (go_at_call 23; refine (isEvery_any _ _).mono ?_; rintro e w' ⟨rfl, rfl⟩) | (go_at_call 36; refine (isQueue_any _ _).mono ?_; rintro e w' ⟨rfl, rfl⟩) | (go_at_call 22; refine (arriving_any A n c B zs _ _ h (by omega)).mono ?_; rintro e w' ⟨rfl, rfl⟩; rw [v0]; simp only [askC, if_true, if_false, Bool.false_eq_true]))
    go_ret2
    exact HP.out
end Go.Proofs.YtngbdjbgbjbjaaaGreatDoor
