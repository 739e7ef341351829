/- Days and dates: texts of dates, both sides. -/
import Derived.Test.YtaojhfbcdoicpaaDoorTk
namespace Go.Proofs.YtaojhfbcdoicpaaDoor
open Go.RowKit
set_option maxRecDepth 100000
set_option linter.unusedVariables false
set_option linter.unusedSimpArgs false
attribute [local irreducible] mE ml

def twoT (n : Nat) : ByteArray := if n < 10 then ⟨#[48]⟩ ++ decA n else decA n
theorem decA_one {n : Nat} (h : n < 10) : (decA n).size = 1 := by
  show (Lib.decDigits n).toArray.size = 1
  rw [List.size_toArray, Lib.decDigits_one h]; rfl
theorem decA_two {n : Nat} (h : ¬ n < 10) (h2 : n < 100) : (decA n).size = 2 := by
  show (Lib.decDigits n).toArray.size = 2
  rw [List.size_toArray, Lib.decDigits_two h h2]; rfl
theorem twoT_size {n : Nat} (h : n < 100) : (twoT n).size ≤ 2 := by
  unfold twoT
  split
  · rename_i h1
    rw [ByteArray.size_append, decA_one h1]
    exact Nat.le_refl _
  · rename_i h1
    rw [decA_two h1 h]; exact Nat.le_refl _
theorem repeat0_any {s : ByteArray} {w : World} : Calls Tryd.prog 62 #[.string s, .int .i64 0] w fun e w' => e = .returned (.string ⟨#[]⟩) ∧ w = w' := by
  go_enter Tryd.func62, Tryd.ntmps62
  go_wp2_with fail
  go_ret
  exact ⟨rfl, rfl⟩
theorem repeat1_any {s : ByteArray} {w : World} : Calls Tryd.prog 62 #[.string s, .int .i64 1] w fun e w' => e = .returned (.string s) ∧ w = w' := by
  go_enter Tryd.func62, Tryd.ntmps62
  go_wp2_with fail
  go_ret
  exact ⟨rfl, rfl⟩
theorem padded_any {n : Nat} {w : World} (hn : n < 100) (ht : TabOk w) :
    Calls Tryd.prog 48 #[.int .i64 (n : Int), .int .i64 2] w fun e w' => e = .returned (.string (twoT n)) ∧ Below w.heap.size w w' := by
  have Hc := Lib.hid (decimal_nat (K := n) (w := w) (by omega) ht)
  by_cases h : n < 10
  · have Hr : Hid (twoT n = ⟨#[48]⟩ ++ decA n) := Lib.hid (by unfold twoT; rw [if_pos h])
    have hsz := decA_one h
    generalize decA n = de at *
    have hz : ¬ 9223372036854775807 < 1 + de.size := by omega
    go_enter Tryd.func48, Tryd.ntmps48
    go_wp2_with fail
    refine Hc.out.mono ?_
    rintro e w1 ⟨rfl, b⟩
    go_wp2_with (go_at_call 62; refine repeat1_any.mono ?_; rintro e w' ⟨rfl, rfl⟩)
    go_ret
    exact ⟨ret_strT (by rw [Hr.out]), b⟩
  · have Hr : Hid (twoT n = ⟨#[]⟩ ++ decA n) := Lib.hid (by unfold twoT; rw [if_neg h, ba_nil])
    have hsz := decA_two h hn
    generalize decA n = de at *
    have hz : ¬ 9223372036854775807 < 0 + de.size := by omega
    have hz2 : ¬ 9223372036854775807 < de.size := by omega
    go_enter Tryd.func48, Tryd.ntmps48
    go_wp2_with fail
    refine Hc.out.mono ?_
    rintro e w1 ⟨rfl, b⟩
    go_wp2_with (go_at_call 62; refine repeat0_any.mono ?_; rintro e w' ⟨rfl, rfl⟩)
    go_ret
    exact ⟨ret_strT (by rw [Hr.out]), b⟩
theorem l02Two_any {n : Nat} {w : World} (hn : n < 100) :
    Calls Tryd.prog 60 #[.int .i64 (n : Int)] w fun e w' => e = .returned (.string (twoT n)) ∧ Below w.heap.size w w' := by
  have Hc := Lib.hid (l01Dec_nat (K := n) (w := w) (by omega))
  have hdz := decA_size n (by omega)
  by_cases h : n < 10
  · have Hr : Hid (twoT n = ⟨#[48]⟩ ++ decA n) := Lib.hid (by unfold twoT; rw [if_pos h])
    generalize decA n = de at *
    have hz : ¬ 9223372036854775807 < 1 + de.size := by omega
    have hl : (n : Int) < 10 := by omega
    go_enter Tryd.func60, Tryd.ntmps60
    go_wp2_with fail
    refine Hc.out.mono ?_
    rintro e w1 ⟨rfl, b⟩
    go_wp2_with fail
    go_ret
    exact ⟨ret_strT (by rw [Hr.out]), b⟩
  · have Hr : Hid (twoT n = decA n) := Lib.hid (by unfold twoT; rw [if_neg h])
    generalize decA n = de at *
    have hl : ¬ (n : Int) < 10 := by omega
    go_enter Tryd.func60, Tryd.ntmps60
    go_wp2_with fail
    refine Hc.out.mono ?_
    rintro e w1 ⟨rfl, b⟩
    go_wp2_with fail
    go_ret
    exact ⟨ret_strT (by rw [Hr.out]), b⟩
def dateS (D i : Nat) : ByteArray := decA (yI i) ++ ⟨#[45]⟩ ++ twoT (mI i) ++ ⟨#[45]⟩ ++ twoT (D - mE i + 1)
noncomputable def dateT (D : Nat) : ByteArray := dateS D (dI D)
theorem dateT_eq {D i : Nat} (h : IsD D i) : dateT D = dateS D i := by unfold dateT; rw [dI_eq h]
theorem isD_bd {D i : Nat} (h : IsD D i) (hD : D ≤ 36524) : yI i ≤ 2099 ∧ mI i < 100 ∧ D - mE i + 1 < 100 := by
  have h1 := isD_lt h hD
  have h2 := ml_bd i
  have h3 := h.2
  have h4 := h.1
  rw [mE_succ] at h3
  refine ⟨by unfold yI; omega, by unfold mI; omega, by omega⟩
theorem dateS_size {D i : Nat} (h : IsD D i) (hD : D ≤ 36524) : (dateS D i).size ≤ 40 := by
  obtain ⟨h1, h2, h3⟩ := isD_bd h hD
  unfold dateS
  rw [ByteArray.size_append, ByteArray.size_append, ByteArray.size_append, ByteArray.size_append]
  have a1 := decA_size (yI i) (by omega)
  have a2 := twoT_size h2
  have a3 := twoT_size h3
  have a4 : (⟨#[45]⟩ : ByteArray).size = 1 := rfl
  omega
set_option maxHeartbeats 1000000 in
theorem implDateText_go {D : Nat} {w : World} (hD : D ≤ 36524) (ht : TabOk w) :
    Calls Tryd.prog 24 #[.int .i64 (D : Int)] w fun e w' => e = .returned (.string (dateT D)) ∧ Below w.heap.size w w' := by
  have hin : inB (D : Int) 0 36524 = true := inB_true.2 (by omega)
  have Hin := Lib.hid hin
  have Ht := Lib.hid ht
  have Hc := Lib.hid (dateOf_any (w := w) hD)
  clear hin ht
  go_enter Tryd.func24, Tryd.ntmps24
  go_wp2_with (go_at_call 45; refine (isDay_any _ _).mono ?_; rintro e w' ⟨rfl, rfl⟩; rw [Hin.out])
  refine Hc.out.mono ?_
  rintro e w' ⟨i, hi, rfl, rfl⟩
  obtain ⟨b1, b2, b3⟩ := isD_bd hi hD
  have Hr : Hid (dateT D = decA (yI i) ++ ⟨#[45]⟩ ++ twoT (mI i) ++ ⟨#[45]⟩ ++ twoT (D - mE i + 1)) := Lib.hid (dateT_eq hi)
  have H1 := Lib.hid (decimal_nat (K := yI i) (w := w) (by omega) Ht.out)
  have H2 : Hid (∀ W, Below w.heap.size w W → Calls Tryd.prog 48 #[.int .i64 (mI i : Int), .int .i64 2] W fun e w' => e = .returned (.string (twoT (mI i))) ∧ Below w.heap.size w w') := Lib.hid (fun W hW => (padded_any b2 (Ht.out.below hW)).mono fun e w' ⟨he, hb⟩ => ⟨he, hW.trans (hb.mono hW.size)⟩)
  have H3 : Hid (∀ W, Below w.heap.size w W → Calls Tryd.prog 48 #[.int .i64 ((D - mE i + 1 : Nat) : Int), .int .i64 2] W fun e w' => e = .returned (.string (twoT (D - mE i + 1))) ∧ Below w.heap.size w w') := Lib.hid (fun W hW => (padded_any b3 (Ht.out.below hW)).mono fun e w' ⟨he, hb⟩ => ⟨he, hW.trans (hb.mono hW.size)⟩)
  have a1 := decA_size (yI i) (by omega)
  have a2 := twoT_size b2
  have a3 := twoT_size b3
  clear hi b1 b2 b3
  generalize decA (yI i) = s1 at *
  generalize twoT (mI i) = s2 at *
  generalize twoT (D - mE i + 1) = s3 at *
  generalize yI i = y at *
  generalize mI i = m at *
  generalize D - mE i + 1 = d at *
  have hz1 : ¬ 9223372036854775807 < s1.size + 1 := by omega
  have hz2 : ¬ 9223372036854775807 < s1.size + 1 + s2.size := by omega
  have hz3 : ¬ 9223372036854775807 < s1.size + 1 + s2.size + 1 := by omega
  have hz4 : ¬ 9223372036854775807 < s1.size + 1 + s2.size + 1 + s3.size := by omega
  go_wp2_with fail
  refine H1.out.mono ?_
  rintro e w1 ⟨rfl, c1⟩
  go_wp2_with fail
  refine (H2.out _ c1).mono ?_
  rintro e w2 ⟨rfl, c2⟩
  go_wp2_with fail
  refine (H3.out _ c2).mono ?_
  rintro e w3 ⟨rfl, c3⟩
  go_wp2_with fail
  go_ret
  exact ⟨ret_strT (by rw [Hr.out]), c3⟩
set_option maxHeartbeats 1000000 in
theorem l02Text_any {D : Nat} {w : World} (hD : D ≤ 36524) :
    Calls Tryd.prog 44 #[.int .i64 (D : Int)] w fun e w' => e = .returned (.string (dateT D)) ∧ Below w.heap.size w w' := by
  have Hc := Lib.hid (l02Date_any (w := w) hD)
  go_enter Tryd.func44, Tryd.ntmps44
  go_wp2_with fail
  refine Hc.out.mono ?_
  rintro e w0 ⟨i, hi, rfl, c0⟩
  obtain ⟨b1, b2, b3⟩ := isD_bd hi hD
  have Hr : Hid (dateT D = decA (yI i) ++ ⟨#[45]⟩ ++ twoT (mI i) ++ ⟨#[45]⟩ ++ twoT (D - mE i + 1)) := Lib.hid (dateT_eq hi)
  have H1 : Hid (∀ W, Below w.heap.size w W → Calls Tryd.prog 49 #[.int .i64 (yI i : Int)] W fun e w' => e = .returned (.string (decA (yI i))) ∧ Below w.heap.size w w') := Lib.hid (fun W hW => (l01Dec_nat (by omega)).mono fun e w' ⟨he, hb⟩ => ⟨he, hW.trans (hb.mono hW.size)⟩)
  have H2 : Hid (∀ W, Below w.heap.size w W → Calls Tryd.prog 60 #[.int .i64 (mI i : Int)] W fun e w' => e = .returned (.string (twoT (mI i))) ∧ Below w.heap.size w w') := Lib.hid (fun W hW => (l02Two_any b2).mono fun e w' ⟨he, hb⟩ => ⟨he, hW.trans (hb.mono hW.size)⟩)
  have H3 : Hid (∀ W, Below w.heap.size w W → Calls Tryd.prog 60 #[.int .i64 ((D - mE i + 1 : Nat) : Int)] W fun e w' => e = .returned (.string (twoT (D - mE i + 1))) ∧ Below w.heap.size w w') := Lib.hid (fun W hW => (l02Two_any b3).mono fun e w' ⟨he, hb⟩ => ⟨he, hW.trans (hb.mono hW.size)⟩)
  have a1 := decA_size (yI i) (by omega)
  have a2 := twoT_size b2
  have a3 := twoT_size b3
  clear hi b1 b2 b3
  generalize decA (yI i) = s1 at *
  generalize twoT (mI i) = s2 at *
  generalize twoT (D - mE i + 1) = s3 at *
  generalize yI i = y at *
  generalize mI i = m at *
  generalize D - mE i + 1 = d at *
  have hz1 : ¬ 9223372036854775807 < s1.size + 1 := by omega
  have hz2 : ¬ 9223372036854775807 < s1.size + 1 + s2.size := by omega
  have hz3 : ¬ 9223372036854775807 < s1.size + 1 + s2.size + 1 := by omega
  have hz4 : ¬ 9223372036854775807 < s1.size + 1 + s2.size + 1 + s3.size := by omega
  go_wp2_with fail
  refine (H1.out _ c0).mono ?_
  rintro e w1 ⟨rfl, c1⟩
  go_wp2_with fail
  refine (H2.out _ c1).mono ?_
  rintro e w2 ⟨rfl, c2⟩
  go_wp2_with fail
  refine (H3.out _ c2).mono ?_
  rintro e w3 ⟨rfl, c3⟩
  go_wp2_with fail
  go_ret
  exact ⟨ret_strT (by rw [Hr.out]), c3⟩
end Go.Proofs.YtaojhfbcdoicpaaDoor
