/- Queues: LongestQueue, WidestEvery: contracts of both sides. -/
import Derived.Test.YtngbdjbgbjbjaaaGreatDoorVa
namespace Go.Proofs.YtngbdjbgbjbjaaaGreatDoor
open Go.RowKit
set_option maxRecDepth 100000
set_option linter.unusedVariables false
set_option linter.unusedSimpArgs false

def rLongest (zs : List Int) (every seats : Int) : Int × Int × Int :=
  if askC (arrB zs) (inB every 1 60 && inB seats 1 1000) = 0 then (((placeOf (queuesTo zs every seats 0 zs.length) : Nat) : Int) + 1, mostOf (queuesTo zs every seats 0 zs.length), 0) else (0, 0, askC (arrB zs) (inB every 1 60 && inB seats 1 1000))

theorem implLongestQueue_any {A : Option Addr} {n c B : Nat} {zs : List Int} {every seats : Int} {w : World} (h : Ints w B A n zs) (hB : B ≤ w.heap.size) (hc : n ≤ c) (hn : n ≤ 1048576) :
    Calls Tryz.prog 7 #[.slice A n c, .int .i64 every, .int .i64 seats] w fun e w' => e = .returned (.tuple #[.int .i64 (rLongest zs every seats).1, .int .i64 (rLongest zs every seats).2.1, .int .i64 (rLongest zs every seats).2.2]) ∧ Below w.heap.size w w' := by
  have HL := Lib.hid h.len
  by_cases ha : askC (arrB zs) (inB every 1 60 && inB seats 1 1000) = 0
  · have Hr : Hid (rLongest zs every seats = (((placeOf (queuesTo zs every seats 0 n) : Nat) : Int) + 1, mostOf (queuesTo zs every seats 0 n), 0)) := Lib.hid (by rw [rLongest, if_pos ha, HL.out])
    have hv := arrB_true.1 (askC_zero.1 ha).1
    have hlen := HL.out
    have Hq := Lib.hid (queuesTo_len zs every seats 0 n)
    go_enter Tryz.func7, Tryz.ntmps7
    go_wp2_with fail
    refine (implQueuesOf_any h hB hn).mono ?_
    rintro e w1 ⟨A1, n1, c1, rfl, hn1, b1, ho⟩
    obtain ⟨rfl, o1⟩ := ho ha
    rw [ha]
    generalize queuesTo zs every seats 0 n1 = qs at *
    have hql := Hq.out
    have Hmost := Lib.hid (findI_most (zs := qs) (by omega))
    have hpl := placeOf_lt (zs := qs) (by omega)
    go_wp2_with fail
    refine (max_any _ _ _ _ qs _ (own_ints o1) (by omega) (by omega)).mono ?_
    rintro e w3 ⟨rfl, rfl⟩
    go_wp2_with fail
    refine (index_any _ _ _ _ qs _ _ (own_ints o1) (by omega)).mono ?_
    rw [Hmost.out]
    rintro e w4 ⟨rfl, rfl⟩
    go_wp2_with fail
    go_ret3
    exact ⟨ret3 (int_eq (by rw [Hr.out])) (int_eq (by rw [Hr.out])) (int_eq (by rw [Hr.out])), b1⟩
  · have Hr : Hid (rLongest zs every seats = (0, 0, askC (arrB zs) (inB every 1 60 && inB seats 1 1000))) := Lib.hid (by rw [rLongest, if_neg ha])
    go_enter Tryz.func7, Tryz.ntmps7
    go_wp2_with fail
    refine (implQueuesOf_any h hB hn).mono ?_
    rintro e w1 ⟨A1, n1, c1, rfl, hn1, b1, _⟩
    generalize askC (arrB zs) (inB every 1 60 && inB seats 1 1000) = cd at *
    go_wp2_with fail
    go_ret3
    exact ⟨ret3 (int_eq (by rw [Hr.out])) (int_eq (by rw [Hr.out])) (int_eq (by rw [Hr.out])), b1⟩
theorem specLongestQueue_any {A : Option Addr} {n c B : Nat} {zs : List Int} {every seats : Int} {w : World} (h : Ints w B A n zs) (hB : B ≤ w.heap.size) (hc : n ≤ c) (hn : n ≤ 1048576) :
    Calls Tryz.prog 15 #[.slice A n c, .int .i64 every, .int .i64 seats] w fun e w' => e = .returned (.tuple #[.int .i64 (rLongest zs every seats).1, .int .i64 (rLongest zs every seats).2.1, .int .i64 (rLongest zs every seats).2.2]) ∧ Below w.heap.size w w' := by
  have HL := Lib.hid h.len
  by_cases ha : askC (arrB zs) (inB every 1 60 && inB seats 1 1000) = 0
  · have Hr : Hid (rLongest zs every seats = (((placeOf (queuesTo zs every seats 0 n) : Nat) : Int) + 1, mostOf (queuesTo zs every seats 0 n), 0)) := Lib.hid (by rw [rLongest, if_pos ha, HL.out])
    obtain ⟨ha1, ha2⟩ := askC_zero.1 ha
    have hv := arrB_true.1 ha1
    rw [Bool.and_eq_true] at ha2
    have hlen := HL.out
    have Hq := Lib.hid (queuesTo_len zs every seats 0 n)
    have he := inB_true.1 ha2.1
    have hs := inB_true.1 ha2.2
    have Ha := Lib.hid ha
    clear ha ha1 ha2
    go_enter Tryz.func15, Tryz.ntmps15
    go_wp2_with fail
    refine (l20Ask_any A n c B zs _ _ _ h (by omega)).mono ?_
    rintro e w0 ⟨rfl, rfl⟩
    rw [Ha.out]
    go_wp2_with fail
    refine (l20Queues_any A n c B zs every seats 0 _ h hB (by omega) hv.1 he hs).mono ?_
    rintro e w1 ⟨A1, c1, rfl, o1, b1⟩
    generalize queuesTo zs every seats 0 n = qs at *
    have hql := Hq.out
    have hpl := placeOf_lt (zs := qs) (by omega)
    go_wp2_with fail
    refine (l20Most_any _ _ _ _ qs _ (own_ints o1) (by omega) (by omega)).mono ?_
    rintro e w3 ⟨rfl, d, rfl⟩
    go_wp2_with fail
    go_ret3
    exact ⟨ret3 (int_eq (by rw [Hr.out])) (int_eq (by rw [Hr.out])) (int_eq (by rw [Hr.out])), below_drewN b1 _⟩
  · have Hr : Hid (rLongest zs every seats = (0, 0, askC (arrB zs) (inB every 1 60 && inB seats 1 1000))) := Lib.hid (by rw [rLongest, if_neg ha])
    go_enter Tryz.func15, Tryz.ntmps15
    go_wp2_with fail
    refine (l20Ask_any A n c B zs _ _ _ h (by omega)).mono ?_
    rintro e w0 ⟨rfl, rfl⟩
    generalize askC (arrB zs) (inB every 1 60 && inB seats 1 1000) = cd at *
    go_wp2_with fail
    go_ret3
    exact ⟨ret3 (int_eq (by rw [Hr.out])) (int_eq (by rw [Hr.out])) (int_eq (by rw [Hr.out])), Below.refl _ _⟩

/-! ### the widest distance -/
def wideTo (zs : List Int) (seats limit : Int) : Nat → Int × Int
  | 0 => (0, 3)
  | e + 1 => if mostOf (queuesTo zs ((e + 1 : Nat) : Int) seats 0 zs.length) ≤ limit then (((e + 1 : Nat) : Int), 0) else wideTo zs seats limit e
theorem wideTo_succ (zs : List Int) (seats limit : Int) (e : Nat) : wideTo zs seats limit (e + 1) = if mostOf (queuesTo zs ((e + 1 : Nat) : Int) seats 0 zs.length) ≤ limit then (((e + 1 : Nat) : Int), 0) else wideTo zs seats limit e := rfl
def rWidest (zs : List Int) (seats limit : Int) : Int × Int :=
  if askC (arrB zs) (inB seats 1 1000 && inB limit 0 100000) = 0 then wideTo zs seats limit 60 else (0, askC (arrB zs) (inB seats 1 1000 && inB limit 0 100000))

theorem implWidestEvery_any {A : Option Addr} {n c B : Nat} {zs : List Int} {seats limit : Int} {w : World} (h : Ints w B A n zs) (hB : B ≤ w.heap.size) (hc : n ≤ c) (hn : n ≤ 1048576) :
    Calls Tryz.prog 17 #[.slice A n c, .int .i64 seats, .int .i64 limit] w fun e w' => e = .returned (.tuple #[.int .i64 (rWidest zs seats limit).1, .int .i64 (rWidest zs seats limit).2]) ∧ Below w.heap.size w w' := by
  have HL := Lib.hid h.len
  cases v0 : arrB zs <;> cases v1 : inB seats 1 1000 <;> cases v2 : inB limit 0 100000
  case true.true.true =>
    have Hr : Hid (rWidest zs seats limit = wideTo zs seats limit 60) := Lib.hid (by rw [rWidest, v0, v1, v2]; rfl)
    have hv := arrB_true.1 v0
    have hlen := HL.out
    have hs := inB_true.1 v1
    have hli := inB_true.1 v2
    go_enter Tryz.func17, Tryz.ntmps17
    go_wp2_with (first | (go_at_call 36; refine (isQueue_any _ _).mono ?_; rintro e w' ⟨rfl, rfl⟩) | (go_at_call 24; refine (isSeats_any _ _).mono ?_; rintro e w' ⟨rfl, rfl⟩) | (go_at_call 22; refine (arriving_any A n c B zs _ _ h (by omega)).mono ?_; rintro e w' ⟨rfl, rfl⟩; rw [v0]; simp only [askC, if_true]))
    go_loopg [9] 60 (fun gk i wr => ∃ e : Nat, e ≤ 60 ∧ gk = e ∧ i = .int .i64 e ∧ wideTo zs seats limit 60 = wideTo zs seats limit e ∧ Below w.heap.size w wr)
    case atStart => exact ⟨60, by omega, rfl, rfl, rfl, Below.refl _ _⟩
    case round =>
      obtain ⟨e, he, hgk, rfl, hwide, hb⟩ := hrel
      have Hgk := Lib.hid hgk
      have Hwide := Lib.hid hwide
      have hbs := hb.size
      clear hgk hwide
      cases e with
      | zero =>
        have v4 : inB 0 1 60 = false := rfl
        have v5 : inB ((0 : Nat) : Int) 1 60 = false := rfl
        go_wp2_with (go_at_call 23; refine (isEvery_any _ _).mono ?_; rintro e w' ⟨rfl, rfl⟩)
        go_ret2
        exact ⟨ret2 (int_eq (by rw [Hr.out, Hwide.out]; rfl)) (int_eq (by rw [Hr.out, Hwide.out]; rfl)), hb⟩
      | succ e =>
        have v4 : inB ((e + 1 : Nat) : Int) 1 60 = true := inB_true.2 (by omega)
        have v5 : inB ((e : Int) + 1) 1 60 = true := inB_true.2 (by omega)
        have hw1 := wideTo_succ zs seats limit e
        rw [HL.out] at hw1
        have Hw1 := Lib.hid hw1
        clear hw1
        have Hq := Lib.hid (queuesTo_len zs ((e + 1 : Nat) : Int) seats 0 n)
        have hee : ((e + 1 : Nat) : Int) = (e : Int) + 1 := by omega
        rw [hee] at Hw1 Hq ⊢
        have hq1 : IntKind.i64.wrap ((e : Int) + 1 - 1) = e := by rw [show (e : Int) + 1 - 1 = e by omega]; exact IntWalk.i64_in _ (by omega)
        have hge1 : (1 : Int) ≤ (e : Int) + 1 := by omega
        go_wp2_with (go_at_call 23; refine (isEvery_any _ _).mono ?_; rintro e w' ⟨rfl, rfl⟩)
        refine (queues_any A n c B zs ((e : Int) + 1) seats 0 _ (Reads.below h hb hB) (by omega) (by omega) hv.1 (by omega) hs).mono ?_
        rintro ee w1 ⟨A1, c1, rfl, o1, b1⟩
        have hb1 := hb.trans (b1.mono hbs)
        generalize queuesTo zs ((e : Int) + 1) seats 0 n = qs at *
        have hql := Hq.out
        go_wp2_with fail
        refine (max_any _ _ _ _ qs _ (own_ints o1) (by omega) (by omega)).mono ?_
        rintro ee w3 ⟨rfl, rfl⟩
        by_cases hm : mostOf qs ≤ limit
        · have Hw2 : Hid (wideTo zs seats limit (e + 1) = ((e : Int) + 1, 0)) := Lib.hid (by rw [Hw1.out, if_pos hm])
          go_wp2_with fail
          go_ret2
          exact ⟨ret2 (int_eq (by rw [Hr.out, Hwide.out, Hw2.out])) (int_eq (by rw [Hr.out, Hwide.out, Hw2.out])), hb1⟩
        · have Hw2 : Hid (wideTo zs seats limit (e + 1) = wideTo zs seats limit e) := Lib.hid (by rw [Hw1.out, if_neg hm])
          go_wp2_with fail
          have hgk := Hgk.out
          go_roundg (gk - 1)
          case rel => exact ⟨e, by omega, by omega, by go_num, by rw [Hwide.out, Hw2.out], hb1⟩
          case measure => omega
  all_goals
    have Hr : Hid (rWidest zs seats limit = (0, askC (arrB zs) (inB seats 1 1000 && inB limit 0 100000))) := Lib.hid (by rw [rWidest, v0, v1, v2]; rfl)
    rw [v0, v1, v2] at Hr
    go_enter Tryz.func17, Tryz.ntmps17
    go_wp2_with (first | (go_at_call 36; refine (isQueue_any _ _).mono ?_; rintro e w' ⟨rfl, rfl⟩) | (go_at_call 24; refine (isSeats_any _ _).mono ?_; rintro e w' ⟨rfl, rfl⟩) | (go_at_call 22; refine (arriving_any A n c B zs _ _ h (by omega)).mono ?_; rintro e w' ⟨rfl, rfl⟩; rw [v0]; simp only [askC, if_true, if_false, Bool.false_eq_true]))
    go_ret2
    exact ⟨ret2 (int_eq (by rw [Hr.out])) (int_eq (by rw [Hr.out]; rfl)), Below.refl _ _⟩

end Go.Proofs.YtngbdjbgbjbjaaaGreatDoor
