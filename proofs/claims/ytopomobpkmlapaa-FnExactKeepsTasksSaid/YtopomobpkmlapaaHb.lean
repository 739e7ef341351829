/- Helpers: IdleHelpers: contracts of both sides; what looks for a number in a list. -/
import Derived.Test.YtopomobpkmlapaaHaHelper
import Derived.Test.YtopomobpkmlapaaF
import Derived.Test.YtopomobpkmlapaaX
import Derived.Test.YtopomobpkmlapaaA
namespace Go.Proofs.Ytopomobpkmlapaa
open Go.RowKit
set_option maxRecDepth 100000
set_option linter.unusedVariables false
set_option linter.unusedSimpArgs false

theorem l00Has_any {A : Option Addr} {n c B : Nat} {zs : List Int} {v : Int} {w : World} (h : Ints w B A n zs) (hn : n ≤ 1048576) :
    Calls Try.prog 62 #[.slice A n c, .int .i64 v] w fun e w' => e = .returned (.bool (zs.any (fun z => v == z))) ∧ w = w' := by
  have HL := Lib.hid h.len
  go_enter Try.func62, Try.ntmps62
  go_wp2_with fail
  go_loopg [5] n (fun gk i wr => ∃ k : Nat, k ≤ n ∧ gk + k = n ∧ i = .int .i64 k ∧ wr = w ∧ (zs.take k).any (fun z => v == z) = false)
  case atStart => exact ⟨0, Nat.zero_le _, rfl, rfl, rfl, rfl⟩
  case round =>
    obtain ⟨k, hk, hgk, rfl, rfl, hall⟩ := hrel
    have Hgk := Lib.hid hgk
    have Hall := Lib.hid hall
    clear hgk hall
    by_cases hlt : k < n
    · obtain ⟨ad, rfl, hbl, hc⟩ := h.at_ hlt
      have hmem := Lib.hid (nth_mem (zs := zs) (k := k) (by rw [HL.out]; exact hlt))
      have Hat := Lib.hid (any_take_succ (f := fun z => v == z) (show k < zs.length by rw [HL.out]; exact hlt))
      generalize nth zs k = x at *
      by_cases hv : x = v
      · have hv1 : (x == v) = true := by simpa using hv
        have Hr : Hid (zs.any (fun z => v == z) = true) := Lib.hid (List.any_eq_true.2 ⟨x, hmem.out, by simpa using hv.symm⟩)
        clear hv
        go_wp2_with fail
        go_ret
        exact ⟨ret_bool (by rw [Hr.out]), rfl⟩
      · have hv1 : (x == v) = false := by simpa using hv
        have Hv : Hid ((v == x) = false) := Lib.hid (by simpa using fun e => hv e.symm)
        clear hv
        go_wp2_with fail
        have hgk := Hgk.out
        go_roundg (gk - 1)
        case rel => exact ⟨k + 1, by omega, by omega, by go_num, rfl, by rw [Hat.out, Hall.out, Hv.out]; rfl⟩
        case measure => omega
    · have Hn : Hid (zs.any (fun z => v == z) = false) := by
        have := Hall.out
        exact Lib.hid (by rwa [List.take_of_length_le (by rw [HL.out]; omega)] at this)
      have hd : ¬ (k : Int) < (n : Int) := by omega
      go_wp2_with fail
      go_ret
      exact ⟨ret_bool (by rw [Hn.out]), rfl⟩

theorem size_Helper_any (A : Option Addr) (n c : Nat) (w : World) (hn : n ≤ 1048576) :
    Calls Try.prog 66 #[.slice A n c] w fun e w' => e = .returned (.int .i64 n) ∧ w = w' := by
  go_enter Try.func66, Try.ntmps66
  go_wp2
  go_ret
  exact ⟨rfl, rfl⟩

theorem idle1_any {p : Addr} {A : Option Addr} {n c : Nat} {z : Int} {w : World} (hp : w.cell? p = some (.slice A n c)) (hn : n ≤ 1048576) :
    Calls Try.prog 64 #[.int .i64 z, .pointer (some p)] w fun e w' => e = .returned (.bool (!inB z 0 ((n : Int) - 1))) ∧ w = w' := by
  have hq : IntKind.i64.wrap ((n : Int) - 1) = (n : Int) - 1 := IntWalk.i64_in _ (by omega)
  go_enter Try.func64, Try.ntmps64
  go_wp2_with (first | (go_at_call 66; refine (size_Helper_any _ _ _ _ hn).mono ?_; rintro e w' ⟨rfl, rfl⟩) | (go_at_call 65; refine (within_any _ _ _ _).mono ?_; rintro e w' ⟨rfl, rfl⟩))
  go_ret
  exact ⟨rfl, rfl⟩

theorem index1_any (K : Nat) (hK : ∀ args w, (callFunc K args).run Try.prog w = .ok (.enter K args) w) (f : Int → Bool) (v1 : Value) (w : World) (hf : Hid (∀ z, Calls Try.prog K #[.int .i64 z, v1] w fun e w' => e = .returned (.bool (f z)) ∧ w = w'))
    (A : Option Addr) (n c B : Nat) (zs : List Int) (h : Ints w B A n zs) (hn : n ≤ 140737488351232) :
    Calls Try.prog 80 #[.slice A n c, .func (.func K) #[] #[v1]] w fun e w' => e = .returned (.int .i64 (findI f zs)) ∧ w = w' := by
  have HL := Lib.hid h.len
  go_enter Try.func80, Try.ntmps80
  go_wp2_with fail
  go_loopg [8] n (fun gk i wr => ∃ k : Nat, k ≤ n ∧ gk + k = n ∧ i = .int .i64 k ∧ wr = w ∧ (zs.take k).any f = false)
  case atStart => exact ⟨0, Nat.zero_le _, rfl, rfl, rfl, rfl⟩
  case round =>
    obtain ⟨k, hk, hgk, rfl, rfl, hall⟩ := hrel
    have Hgk := Lib.hid hgk
    have Hall := Lib.hid hall
    clear hgk hall
    by_cases hlt : k < n
    · obtain ⟨ad, rfl, hbl, hc⟩ := h.at_ hlt
      go_wp2_with fail
      refine (hf.out _).mono ?_
      rintro e w' ⟨rfl, rfl⟩
      go_wp2_with fail
      · go_ret
        exact ⟨ret_int (by rw [findI_some (by rw [HL.out]; omega) Hall.out (by assumption)]), rfl⟩
      · have hf' : f (nth zs k) = false := by assumption
        have hgk := Hgk.out
        go_roundg (gk - 1)
        case rel => exact ⟨k + 1, by omega, by omega, by go_num, rfl, by rw [any_take_succ (by rw [HL.out]; omega), Hall.out, hf']; rfl⟩
        case measure => omega
    · have Hn : Hid (zs.any f = false) := by
        have := Hall.out
        rwa [List.take_of_length_le (by rw [HL.out]; omega)] at this
      go_wp2
      go_ret
      exact ⟨ret_int (by rw [findI_none Hn.out]), rfl⟩
theorem contains1_any (K : Nat) (hK : ∀ args w, (callFunc K args).run Try.prog w = .ok (.enter K args) w) (f : Int → Bool) (v1 : Value) (w : World) (hf : Hid (∀ z, Calls Try.prog K #[.int .i64 z, v1] w fun e w' => e = .returned (.bool (f z)) ∧ w = w'))
    (A : Option Addr) (n c B : Nat) (zs : List Int) (h : Ints w B A n zs) (hn : n ≤ 140737488351232) :
    Calls Try.prog 63 #[.slice A n c, .func (.func K) #[] #[v1]] w fun e w' => e = .returned (.bool (zs.any f)) ∧ w = w' := by
  go_enter Try.func63, Try.ntmps63
  go_wp2_with (go_at_call 80; refine (index1_any K hK f v1 _ hf A n c B zs h hn).mono ?_; rintro e w' ⟨rfl, rfl⟩)
  go_ret
  exact ⟨ret_bool (findI_any f zs), rfl⟩

/-- The numbers below k that are not in a list. -/
def restTo (zs : List Int) : Nat → List Int
  | 0 => []
  | k + 1 => restTo zs k ++ (if zs.any (fun z => (k : Int) == z) then [] else [(k : Int)])
theorem restTo_succ (zs : List Int) (k : Nat) : restTo zs (k + 1) = restTo zs k ++ (if zs.any (fun z => (k : Int) == z) then [] else [(k : Int)]) := rfl
theorem restTo_len (zs : List Int) (k : Nat) : (restTo zs k).length ≤ k := by
  induction k with
  | zero => simp [restTo]
  | succ k ih => rw [restTo_succ, List.length_append]; split <;> simp <;> omega
def rIdleHelpers (l : List HelperR) (zs : List Int) : List Int × Int :=
  if helperBAll l then (if decide (8 < zs.length) || zs.any (fun z => !inB z 0 ((l.length : Int) - 1)) then ([], 2) else (restTo zs l.length, 0)) else ([], 1)

set_option maxHeartbeats 1000000 in
theorem implIdleHelpers_any {A A' : Option Addr} {n c B n' c' B' : Nat} {l : List HelperR} {zs : List Int} {w : World} (h : Reads w B 3 A n (l.flatMap HelperR.cells)) (hB : B ≤ w.heap.size) (hc : n ≤ c) (hn : n ≤ 1048576) (hF : ∀ x ∈ l, x.Id.size ≤ 1048576)
    (h' : Ints w B' A' n' zs) (hB' : B' ≤ w.heap.size) (hc' : n' ≤ c') (hn' : n' ≤ 1048576) :
    Calls Try.prog 38 #[.slice A n c, .slice A' n' c'] w fun e w' => ∃ A2 n2 c2, e = .returned (.tuple #[.slice A2 n2 c2, .int .i64 (rIdleHelpers l zs).2]) ∧ n2 ≤ 1048576 ∧
      Own w' w.heap.size 2 1 A2 n2 c2 ((rIdleHelpers l zs).1.map (Value.int .i64)) ∧ Below w.heap.size w w' := by
  have HL := Lib.hid (HelperR.count h)
  have HL' := Lib.hid h'.len
  obtain ⟨i0, hi, hz0, hz1, hz2⟩ := info_parts info_int
  have hK := Try.call64
  have Hr : Hid (rIdleHelpers l zs = if helperBAll l then (if decide (8 < n') || zs.any (fun z => !inB z 0 ((n : Int) - 1)) then ([], 2) else (restTo zs n, 0)) else ([], 1)) := Lib.hid (by rw [rIdleHelpers, HL.out, HL'.out])
  have pre : Below w.heap.size w (w.alloc (.cells #[.slice A n c] 25)) := (Below.refl _ _).alloc (Nat.le_refl _) _
  have hsz : w.heap.size < (w.alloc (.cells #[.slice A n c] 25)).heap.size := by simp
  have hp : (w.alloc (.cells #[.slice A n c] 25)).cell? ⟨w.heap.size, 0, none⟩ = some (.slice A n c) := by simp
  have h1 := Reads.below h pre hB
  have h1' := Reads.below h' pre hB'
  go_enter Try.func38, Try.ntmps38
  go_wp2_with fail
  generalize w.alloc (.cells #[.slice A n c] 25) = W1 at *
  refine (implValidHelpers_any h1 (by omega) hc hn hF).mono ?_
  rintro e w1 ⟨rfl, b⟩
  have hp1 := (b.cell (p := ⟨w.heap.size, 0, none⟩) hsz).trans hp
  have b1 := pre.trans (b.mono pre.size)
  have hs1 := b1.size
  have hsz1 : w.heap.size < w1.heap.size := Nat.lt_of_lt_of_le hsz b.size
  have h2' := Reads.below h1' b (by omega)
  clear pre hp h1 h1' b hsz
  cases hv : helperBAll l with
  | false =>
    have Hv := Lib.hid hv
    clear hv
    go_wp2_with fail
    go_ret2
    exact ⟨none, 0, 0, by rw [Hr.out, Hv.out]; rfl, by omega, by rw [Hr.out, Hv.out]; exact Own.nil _ _ _ _, b1⟩
  | true =>
  have Hv := Lib.hid hv
  clear hv
  by_cases hm : 8 < n'
  · have hm1 : decide (8 < (n' : Int)) = true := by simp; omega
    go_wp2_with fail
    go_ret2
    exact ⟨none, 0, 0, by rw [Hr.out, Hv.out, decide_eq_true hm]; rfl, by omega, by rw [Hr.out, Hv.out, decide_eq_true hm]; exact Own.nil _ _ _ _, b1⟩
  have hm1 : decide (8 < (n' : Int)) = false := by simp; omega
  have Hm : Hid (decide (8 < n') = false) := Lib.hid (decide_eq_false hm)
  have hcf := Lib.hid (fun z : Int => idle1_any (z := z) hp1 hn)
  cases ha : zs.any (fun z => !inB z 0 ((n : Int) - 1)) with
  | true =>
    have Ha := Lib.hid ha
    go_wp2_with (go_at_call 63; refine (contains1_any _ hK (fun z => !inB z 0 ((n : Int) - 1)) _ _ hcf A' n' c' _ zs h2' (by omega)).mono ?_; rintro e w' ⟨rfl, rfl⟩; rw [Ha.out])
    go_ret2
    exact ⟨none, 0, 0, by rw [Hr.out, Hv.out, Hm.out, Ha.out]; rfl, by omega, by rw [Hr.out, Hv.out, Hm.out, Ha.out]; exact Own.nil _ _ _ _, b1⟩
  | false =>
    have Ha := Lib.hid ha
    clear ha
    go_wp2_with (first | (go_at_call 63; refine (contains1_any _ hK (fun z => !inB z 0 ((n : Int) - 1)) _ _ hcf A' n' c' _ zs h2' (by omega)).mono ?_; rintro e w' ⟨rfl, rfl⟩; rw [Ha.out]) | (go_at_call 66; refine (size_Helper_any _ _ _ _ hn).mono ?_; rintro e w' ⟨rfl, rfl⟩))
    go_loopg [6, 7, 21] n (fun gk v u i wr => ∃ (k : Nat) (A2 : Option Addr) (c2 : Nat), k ≤ n ∧ gk + k = n ∧ i = .int .i64 k ∧ v = .slice A2 (restTo zs k).length c2 ∧
        Own wr w.heap.size 2 1 A2 (restTo zs k).length c2 ((restTo zs k).map (Value.int .i64)) ∧ Below w.heap.size w wr)
    case atStart => exact ⟨0, _, 0, by omega, by omega, rfl, rfl, Own.nil _ _ _ _, b1⟩
    case round =>
      obtain ⟨k, A2, c2, hk, hgk, rfl, rfl, ho, hb⟩ := hrel
      have Hgk := Lib.hid hgk
      have hbs := hb.size
      have Hs0 := Lib.hid (restTo_succ zs k)
      have hlen := restTo_len zs k
      clear hgk b1 hs1 h2' hp1 hsz1 hcf
      by_cases hlt : k < n
      · have hk1 : (k : Int) < (n : Int) := by omega
        have hqk : IntKind.i64.wrap ((k : Int) + 1) = (k : Int) + 1 := IntWalk.i64_in _ (by omega)
        cases hv : zs.any (fun z => (k : Int) == z) with
        | true =>
          have Hv2 := Lib.hid hv
          have Hs : Hid (restTo zs (k + 1) = restTo zs k) := Lib.hid (by rw [Hs0.out, hv]; simp)
          clear hv Hs0
          go_wp2_with (go_at_call 67; refine (contains_any A' n' c' _ zs k _ (Reads.below h' hb hB') (by omega)).mono ?_; rintro e w' ⟨rfl, rfl⟩; rw [Hv2.out])
          have hgk := Hgk.out
          go_roundg (gk - 1)
          case rel => exact ⟨k + 1, A2, c2, by omega, by omega, by go_num, by rw [Hs.out], by rw [Hs.out]; exact ho, hb⟩
          case measure => omega
        | false =>
          have Hv2 := Lib.hid hv
          have Hs : Hid (restTo zs (k + 1) = restTo zs k ++ [(k : Int)]) := Lib.hid (by rw [Hs0.out, hv]; simp)
          have Hl : Hid ((restTo zs (k + 1)).length = (restTo zs k).length + 1) := Lib.hid (by rw [Hs.out, List.length_append]; rfl)
          clear hv Hs0
          go_wp2_with (first | (go_at_call 67; refine (contains_any A' n' c' _ zs k _ (Reads.below h' hb hB') (by omega)).mono ?_; rintro e w' ⟨rfl, rfl⟩; rw [Hv2.out]) | (at_builtin; refine wpList_app rfl _ _ 44 rfl 2 i0 _ 1 8 Try.underlying44 hi hz0 hz1 hz2 rfl (by omega) (by omega) w.heap.size _ _ _ _ rfl (ho.alloc _) ⟨wr.heap.size, 0, none⟩ 1 1 [.int .i64 (k : Int)] rfl rfl (cell_one_new _ _ _) (by simp [Value.oneCell']) (by omega) (by simp; omega) ?_))
          intro A3 c3 w3 ho3 hgA hbA hat
          have ho4 : Own w3 w.heap.size 2 1 A3 (restTo zs (k + 1)).length c3 ((restTo zs (k + 1)).map (Value.int .i64)) := by rw [Hs.out, List.map_append, List.length_append]; exact ho3
          have hb4 : Below w.heap.size w w3 := (hb.alloc hbs _).trans hbA
          clear ho3 hgA hbA hat ho
          go_wp2_with fail
          have hgk := Hgk.out
          go_roundg (gk - 1)
          case rel => exact ⟨k + 1, A3, c3, by omega, by omega, by go_num, by rw [Hl.out], ho4, hb4⟩
          case measure => omega
      · have hke : k = n := by omega
        subst hke
        have hd : ¬ (k : Int) < (k : Int) := by omega
        go_wp2_with fail
        go_ret2
        exact ⟨A2, _, c2, by rw [Hr.out, Hv.out, Hm.out, Ha.out]; rfl, by omega, by rw [Hr.out, Hv.out, Hm.out, Ha.out]; exact ho, hb⟩

set_option maxHeartbeats 1000000 in
theorem specIdleHelpers_any {A A' : Option Addr} {n c B n' c' B' : Nat} {l : List HelperR} {zs : List Int} {w : World} (h : Reads w B 3 A n (l.flatMap HelperR.cells)) (hB : B ≤ w.heap.size) (hc : n ≤ c) (hn : n ≤ 1048576) (hF : ∀ x ∈ l, x.Id.size ≤ 1048576)
    (h' : Ints w B' A' n' zs) (hB' : B' ≤ w.heap.size) (hc' : n' ≤ c') (hn' : n' ≤ 1048576) :
    Calls Try.prog 36 #[.slice A n c, .slice A' n' c'] w fun e w' => ∃ A2 n2 c2, e = .returned (.tuple #[.slice A2 n2 c2, .int .i64 (rIdleHelpers l zs).2]) ∧ n2 ≤ 1048576 ∧
      Own w' w.heap.size 2 1 A2 n2 c2 ((rIdleHelpers l zs).1.map (Value.int .i64)) ∧ Below w.heap.size w w' := by
  have HL := Lib.hid (HelperR.count h)
  have HL' := Lib.hid h'.len
  obtain ⟨i0, hi, hz0, hz1, hz2⟩ := info_parts info_int
  have Hr : Hid (rIdleHelpers l zs = if helperBAll l then (if decide (8 < n') || zs.any (fun z => !inB z 0 ((n : Int) - 1)) then ([], 2) else (restTo zs n, 0)) else ([], 1)) := Lib.hid (by rw [rIdleHelpers, HL.out, HL'.out])
  go_enter Try.func36, Try.ntmps36
  go_wp2_with fail
  refine (l24Helpers_any h hB hn hF).mono ?_
  rintro e w1 ⟨rfl, b1⟩
  have hs1 := b1.size
  cases hv : helperBAll l with
  | false =>
    have Hv := Lib.hid hv
    clear hv
    go_wp2_with fail
    go_ret2
    exact ⟨none, 0, 0, by rw [Hr.out, Hv.out]; rfl, by omega, by rw [Hr.out, Hv.out]; exact Own.nil _ _ _ _, b1⟩
  | true =>
  have Hv := Lib.hid hv
  clear hv
  by_cases hm : 8 < n'
  · have hm1 : decide (8 < (n' : Int)) = true := by simp; omega
    go_wp2_with fail
    go_ret2
    exact ⟨none, 0, 0, by rw [Hr.out, Hv.out, decide_eq_true hm]; rfl, by omega, by rw [Hr.out, Hv.out, decide_eq_true hm]; exact Own.nil _ _ _ _, b1⟩
  have hm1 : decide (8 < (n' : Int)) = false := by simp; omega
  have Hm : Hid (decide (8 < n') = false) := Lib.hid (decide_eq_false hm)
  have hqn : IntKind.i64.wrap ((n : Int) - 1) = (n : Int) - 1 := IntWalk.i64_in _ (by omega)
  go_wp2_with fail
  go_loopg [6] n' (fun gk i wr => ∃ k : Nat, k ≤ n' ∧ gk + k = n' ∧ i = .int .i64 k ∧ Below w.heap.size w wr ∧ (zs.take k).any (fun z => !inB z 0 ((n : Int) - 1)) = false)
  case atStart => exact ⟨0, Nat.zero_le _, rfl, rfl, b1, rfl⟩
  case round =>
    obtain ⟨k, hk, hgk, rfl, hb, hall⟩ := hrel
    have Hgk := Lib.hid hgk
    have Hall := Lib.hid hall
    have hbs := hb.size
    clear hgk hall b1 hs1
    by_cases hlt : k < n'
    · obtain ⟨ad, rfl, hbl, hc⟩ := Ints.at_ (Reads.below h' hb hB') hlt
      have hmem := Lib.hid (nth_mem (zs := zs) (k := k) (by rw [HL'.out]; exact hlt))
      have Hat := Lib.hid (any_take_succ (f := fun z => !inB z 0 ((n : Int) - 1)) (show k < zs.length by rw [HL'.out]; exact hlt))
      have hk1 : (k : Int) < (n' : Int) := by omega
      have hqk : IntKind.i64.wrap ((k : Int) + 1) = (k : Int) + 1 := IntWalk.i64_in _ (by omega)
      generalize nth zs k = x at *
      cases hv : inB x 0 ((n : Int) - 1) with
      | false =>
        have Ha : Hid (zs.any (fun z => !inB z 0 ((n : Int) - 1)) = true) := Lib.hid (List.any_eq_true.2 ⟨x, hmem.out, by simp [hv]⟩)
        have Hv2 := Lib.hid hv
        clear hv
        go_wp2_with (go_at_call 61; refine (in_any _ _ _ _).mono ?_; rintro e w' ⟨rfl, rfl⟩; rw [Hv2.out])
        go_ret2
        exact ⟨none, 0, 0, by rw [Hr.out, Hv.out, Hm.out, Ha.out]; rfl, by omega, by rw [Hr.out, Hv.out, Hm.out, Ha.out]; exact Own.nil _ _ _ _, hb⟩
      | true =>
        have Hv2 := Lib.hid hv
        clear hv
        go_wp2_with (go_at_call 61; refine (in_any _ _ _ _).mono ?_; rintro e w' ⟨rfl, rfl⟩; rw [Hv2.out])
        have hgk := Hgk.out
        go_roundg (gk - 1)
        case rel => exact ⟨k + 1, by omega, by omega, by go_num, hb, by rw [Hat.out, Hall.out, Hv2.out]; rfl⟩
        case measure => omega
    · have Ha : Hid (zs.any (fun z => !inB z 0 ((n : Int) - 1)) = false) := by
        have := Hall.out
        exact Lib.hid (by rwa [List.take_of_length_le (by rw [HL'.out]; omega)] at this)
      have hd : ¬ (k : Int) < (n' : Int) := by omega
      clear Hgk Hall
      go_wp2_with fail
      go_loopg [7, 8] n (fun gk v i wr => ∃ (k : Nat) (A2 : Option Addr) (c2 : Nat), k ≤ n ∧ gk + k = n ∧ i = .int .i64 k ∧ v = .slice A2 (restTo zs k).length c2 ∧
          Own wr w.heap.size 2 1 A2 (restTo zs k).length c2 ((restTo zs k).map (Value.int .i64)) ∧ Below w.heap.size w wr)
      case atStart => exact ⟨0, _, 0, by omega, by omega, rfl, rfl, Own.empty _ _ _ _ hbs, hb.alloc hbs _⟩
      case round =>
        clear hb hbs
        obtain ⟨m, A2, c2, hm3, hgk, rfl, rfl, ho, hb⟩ := hrel
        have Hgk := Lib.hid hgk
        have hbs := hb.size
        have Hs0 := Lib.hid (restTo_succ zs m)
        have hlen := restTo_len zs m
        clear hgk
        by_cases hlt2 : m < n
        · have hk1 : (m : Int) < (n : Int) := by omega
          have hqk : IntKind.i64.wrap ((m : Int) + 1) = (m : Int) + 1 := IntWalk.i64_in _ (by omega)
          cases hv : zs.any (fun z => (m : Int) == z) with
          | true =>
            have Hv2 := Lib.hid hv
            have Hs : Hid (restTo zs (m + 1) = restTo zs m) := Lib.hid (by rw [Hs0.out, hv]; simp)
            clear hv Hs0
            go_wp2_with (go_at_call 62; refine (l00Has_any (Reads.below h' hb hB') (by omega)).mono ?_; rintro e w' ⟨rfl, rfl⟩; rw [Hv2.out])
            have hgk := Hgk.out
            go_roundg (gk - 1)
            case rel => exact ⟨m + 1, A2, c2, by omega, by omega, by go_num, by rw [Hs.out], by rw [Hs.out]; exact ho, hb⟩
            case measure => omega
          | false =>
            have Hv2 := Lib.hid hv
            have Hs : Hid (restTo zs (m + 1) = restTo zs m ++ [(m : Int)]) := Lib.hid (by rw [Hs0.out, hv]; simp)
            have Hl : Hid ((restTo zs (m + 1)).length = (restTo zs m).length + 1) := Lib.hid (by rw [Hs.out, List.length_append]; rfl)
            clear hv Hs0
            go_wp2_with (first | (go_at_call 62; refine (l00Has_any (Reads.below h' hb hB') (by omega)).mono ?_; rintro e w' ⟨rfl, rfl⟩; rw [Hv2.out]) | (at_builtin; refine wpList_app rfl _ _ 44 rfl 2 i0 _ 1 8 Try.underlying44 hi hz0 hz1 hz2 rfl (by omega) (by omega) w.heap.size _ _ _ _ rfl (ho.alloc _) ⟨wr.heap.size, 0, none⟩ 1 1 [.int .i64 (m : Int)] rfl rfl (cell_one_new _ _ _) (by simp [Value.oneCell']) (by omega) (by simp; omega) ?_))
            intro A3 c3 w3 ho3 hgA hbA hat
            have ho4 : Own w3 w.heap.size 2 1 A3 (restTo zs (m + 1)).length c3 ((restTo zs (m + 1)).map (Value.int .i64)) := by rw [Hs.out, List.map_append, List.length_append]; exact ho3
            have hb4 : Below w.heap.size w w3 := (hb.alloc hbs _).trans hbA
            clear ho3 hgA hbA hat ho
            go_wp2_with fail
            have hgk := Hgk.out
            go_roundg (gk - 1)
            case rel => exact ⟨m + 1, A3, c3, by omega, by omega, by go_num, by rw [Hl.out], ho4, hb4⟩
            case measure => omega
        · have hke : m = n := by omega
          subst hke
          have hd2 : ¬ (m : Int) < (m : Int) := by omega
          go_wp2_with fail
          go_ret2
          exact ⟨A2, _, c2, by rw [Hr.out, Hv.out, Hm.out, Ha.out]; rfl, by omega, by rw [Hr.out, Hv.out, Hm.out, Ha.out]; exact ho, hb⟩
end Go.Proofs.Ytopomobpkmlapaa
