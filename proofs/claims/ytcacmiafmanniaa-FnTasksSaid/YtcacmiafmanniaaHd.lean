/- Helpers: HelpersFor: contracts of both sides. -/
import Derived.Test.YtcacmiafmanniaaHc
namespace Go.Proofs.Ytcacmiafmanniaa
open Go.RowKit
set_option maxRecDepth 100000
set_option linter.unusedVariables false
set_option linter.unusedSimpArgs false

theorem helpers_at {l : List HelperR} (h : helperBAll l = true) : ∀ k, k < l.length → 0 ≤ (HelperR.at_ l k).Skills ∧ (HelperR.at_ l k).Skills ≤ 7 := by
  simp only [helperBAll, Bool.and_eq_true, decide_eq_true_eq] at h
  intro k hk
  have := allTo_true.1 h.1 k hk
  simp only [helperBAt, helperB, Bool.and_eq_true, inB_true] at this
  omega
theorem task_sk {x : TaskR} (h : taskB x = true) : 0 ≤ x.Skills ∧ x.Skills ≤ 7 := by
  simp only [taskB, Bool.and_eq_true, inB_true] at h
  omega
/-- The indices below k of those who can do a task. -/
def canTo (l : List HelperR) (t : TaskR) : Nat → List Int
  | 0 => []
  | k + 1 => canTo l t k ++ (if canB (HelperR.at_ l k) t then [(k : Int)] else [])
theorem canTo_succ (l : List HelperR) (t : TaskR) (k : Nat) : canTo l t (k + 1) = canTo l t k ++ (if canB (HelperR.at_ l k) t then [(k : Int)] else []) := rfl
theorem canTo_len (l : List HelperR) (t : TaskR) (k : Nat) : (canTo l t k).length ≤ k := by
  induction k with
  | zero => simp [canTo]
  | succ k ih => rw [canTo_succ, List.length_append]; split <;> simp <;> omega
def rHelpersFor (l : List HelperR) (t : TaskR) : List Int × Int := if helperBAll l && taskB t then (canTo l t l.length, 0) else ([], 1)

set_option maxHeartbeats 1000000 in
theorem helpersFor_any {A : Option Addr} {n c B : Nat} {l : List HelperR} {b0 : ByteArray} {b1 b2 : Int} {w : World} (h : Reads w B 3 A n (l.flatMap HelperR.cells)) (hB : B ≤ w.heap.size) (hn : n ≤ 1048576)
    (hsk : ∀ k, k < l.length → 0 ≤ (HelperR.at_ l k).Skills ∧ (HelperR.at_ l k).Skills ≤ 7) (hb1 : 0 ≤ b1 ∧ b1 ≤ 7) :
    Calls Try.prog 41 #[.slice A n c, .agg #[.string b0, .int .i64 b1, .int .i64 b2]] w fun e w' => ∃ A2 c2, e = .returned (.slice A2 (canTo l ⟨b0, b1, b2⟩ n).length c2) ∧
      Own w' w.heap.size 2 1 A2 (canTo l ⟨b0, b1, b2⟩ n).length c2 ((canTo l ⟨b0, b1, b2⟩ n).map (Value.int .i64)) ∧ Below w.heap.size w w' := by
  have HL := Lib.hid (HelperR.count h)
  have Hsk := Lib.hid hsk
  clear hsk
  obtain ⟨i0, hi, hz0, hz1, hz2⟩ := info_parts info_int
  have pre : Below w.heap.size w (w.alloc (.cells #[.string b0, .int .i64 b1, .int .i64 b2] 67)) := (Below.refl _ _).alloc (Nat.le_refl _) _
  have hsz : w.heap.size < (w.alloc (.cells #[.string b0, .int .i64 b1, .int .i64 b2] 67)).heap.size := by simp
  have y0 : (w.alloc (.cells #[.string b0, .int .i64 b1, .int .i64 b2] 67)).cell? ⟨w.heap.size, 0, none⟩ = some (.string b0) := by simp
  have y1 : (w.alloc (.cells #[.string b0, .int .i64 b1, .int .i64 b2] 67)).cell? ⟨w.heap.size, 1, none⟩ = some (.int .i64 b1) := by simp
  have y2 : (w.alloc (.cells #[.string b0, .int .i64 b1, .int .i64 b2] 67)).cell? ⟨w.heap.size, 2, none⟩ = some (.int .i64 b2) := by simp
  have h1 := Reads.below h pre hB
  go_enter Try.func41, Try.ntmps41
  go_wp2_with fail
  generalize (w.alloc (.cells #[.string b0, .int .i64 b1, .int .i64 b2] 67)) = W1 at *
  go_loopg [5, 6, 10] n (fun gk v u i wr => ∃ (k : Nat) (A2 : Option Addr) (c2 : Nat), k ≤ n ∧ gk + k = n ∧ i = .int .i64 k ∧ v = .slice A2 (canTo l ⟨b0, b1, b2⟩ k).length c2 ∧
      Own wr W1.heap.size 2 1 A2 (canTo l ⟨b0, b1, b2⟩ k).length c2 ((canTo l ⟨b0, b1, b2⟩ k).map (Value.int .i64)) ∧ Below W1.heap.size W1 wr)
  case atStart => exact ⟨0, _, 0, by omega, by omega, rfl, rfl, Own.nil _ _ _ _, Below.refl _ _⟩
  case round =>
    obtain ⟨k, A2, c2, hk, hgk, rfl, rfl, ho, hb⟩ := hrel
    have Hgk := Lib.hid hgk
    have hbs := hb.size
    have Hs0 := Lib.hid (canTo_succ l ⟨b0, b1, b2⟩ k)
    have hlen := canTo_len l ⟨b0, b1, b2⟩ k
    clear hgk
    by_cases hlt : k < n
    · obtain ⟨ad, rfl, hbl, hc0, hc1, hc2⟩ := HelperR.rd (Reads.below h1 hb (by omega)) hlt
      have hxk := Hsk.out k (by rw [HL.out]; exact hlt)
      have hk0 : (0 : Int) ≤ (k : Int) := by omega
      have hk1 : (k : Int) < (n : Int) := by omega
      have hqk : IntKind.i64.wrap ((k : Int) + 1) = (k : Int) + 1 := IntWalk.i64_in _ (by omega)
      have pre2 : Below W1.heap.size W1 (wr.alloc (.cells #[.string (HelperR.at_ l k).Id, .int .i64 (HelperR.at_ l k).Skills, .int .i64 (HelperR.at_ l k).Minutes] 35)) := hb.alloc hbs _
      have ho1 := ho.alloc (.cells #[.string (HelperR.at_ l k).Id, .int .i64 (HelperR.at_ l k).Skills, .int .i64 (HelperR.at_ l k).Minutes] 35)
      have z0 : (wr.alloc (.cells #[.string (HelperR.at_ l k).Id, .int .i64 (HelperR.at_ l k).Skills, .int .i64 (HelperR.at_ l k).Minutes] 35)).cell? ⟨wr.heap.size, 0, none⟩ = some (.string (HelperR.at_ l k).Id) := by simp
      have z1 : (wr.alloc (.cells #[.string (HelperR.at_ l k).Id, .int .i64 (HelperR.at_ l k).Skills, .int .i64 (HelperR.at_ l k).Minutes] 35)).cell? ⟨wr.heap.size, 1, none⟩ = some (.int .i64 (HelperR.at_ l k).Skills) := by simp
      have z2 : (wr.alloc (.cells #[.string (HelperR.at_ l k).Id, .int .i64 (HelperR.at_ l k).Skills, .int .i64 (HelperR.at_ l k).Minutes] 35)).cell? ⟨wr.heap.size, 2, none⟩ = some (.int .i64 (HelperR.at_ l k).Minutes) := by simp
      have g0 : (wr.alloc (.cells #[.string (HelperR.at_ l k).Id, .int .i64 (HelperR.at_ l k).Skills, .int .i64 (HelperR.at_ l k).Minutes] 35)).cell? ⟨w.heap.size, 0, none⟩ = some (.string b0) := by rw [World.cell?_alloc_lt _ _ _ (by simp only []; omega)]; exact (hb.cell (p := ⟨w.heap.size, 0, none⟩) hsz).trans y0
      have g1 : (wr.alloc (.cells #[.string (HelperR.at_ l k).Id, .int .i64 (HelperR.at_ l k).Skills, .int .i64 (HelperR.at_ l k).Minutes] 35)).cell? ⟨w.heap.size, 1, none⟩ = some (.int .i64 b1) := by rw [World.cell?_alloc_lt _ _ _ (by simp only []; omega)]; exact (hb.cell (p := ⟨w.heap.size, 1, none⟩) hsz).trans y1
      have g2 : (wr.alloc (.cells #[.string (HelperR.at_ l k).Id, .int .i64 (HelperR.at_ l k).Skills, .int .i64 (HelperR.at_ l k).Minutes] 35)).cell? ⟨w.heap.size, 2, none⟩ = some (.int .i64 b2) := by rw [World.cell?_alloc_lt _ _ _ (by simp only []; omega)]; exact (hb.cell (p := ⟨w.heap.size, 2, none⟩) hsz).trans y2
      clear ho
      go_wp2_with fail
      generalize (wr.alloc (.cells #[.string (HelperR.at_ l k).Id, .int .i64 (HelperR.at_ l k).Skills, .int .i64 (HelperR.at_ l k).Minutes] 35)) = W2 at *
      refine (can_any (x := HelperR.at_ l k) (t := ⟨b0, b1, b2⟩) hxk hb1).mono ?_
      rintro e w2 ⟨rfl, b⟩
      have hb2 := pre2.trans (b.mono pre2.size)
      have hbs2 := hb2.size
      replace ho1 := ho1.below b
      clear z0 z1 z2 g0 g1 g2 pre2 b
      cases hov : canB (HelperR.at_ l k) ⟨b0, b1, b2⟩ with
      | false =>
        have Hs : Hid (canTo l ⟨b0, b1, b2⟩ (k + 1) = canTo l ⟨b0, b1, b2⟩ k) := Lib.hid (by rw [Hs0.out, hov]; simp)
        clear hov Hs0
        go_wp2_with fail
        have hgk := Hgk.out
        go_roundg (gk - 1)
        case rel => exact ⟨k + 1, A2, c2, by omega, by omega, by go_num, by rw [Hs.out], by rw [Hs.out]; exact ho1, hb2⟩
        case measure => omega
      | true =>
        have Hs : Hid (canTo l ⟨b0, b1, b2⟩ (k + 1) = canTo l ⟨b0, b1, b2⟩ k ++ [(k : Int)]) := Lib.hid (by rw [Hs0.out, hov]; simp)
        have Hl : Hid ((canTo l ⟨b0, b1, b2⟩ (k + 1)).length = (canTo l ⟨b0, b1, b2⟩ k).length + 1) := Lib.hid (by rw [Hs.out, List.length_append]; rfl)
        clear hov Hs0
        go_wp2_with (at_builtin; refine wpList_app rfl _ _ 28 rfl 2 i0 _ 1 8 Try.underlying28 hi hz0 hz1 hz2 rfl (by omega) (by omega) W1.heap.size _ _ _ _ rfl (ho1.alloc _) ⟨w2.heap.size, 0, none⟩ 1 1 [.int .i64 (k : Int)] rfl rfl (cell_one_new _ _ _) (by simp [Value.oneCell']) (by omega) (by simp; omega) ?_)
        intro A3 c3 w3 ho3 hgA hbA hat
        have ho4 : Own w3 W1.heap.size 2 1 A3 (canTo l ⟨b0, b1, b2⟩ (k + 1)).length c3 ((canTo l ⟨b0, b1, b2⟩ (k + 1)).map (Value.int .i64)) := by rw [Hs.out, List.map_append, List.length_append]; exact ho3
        have hb4 : Below W1.heap.size W1 w3 := (hb2.alloc hbs2 _).trans hbA
        clear ho3 hgA hbA hat ho1
        go_wp2_with fail
        have hgk := Hgk.out
        go_roundg (gk - 1)
        case rel => exact ⟨k + 1, A3, c3, by omega, by omega, by go_num, by rw [Hl.out], ho4, hb4⟩
        case measure => omega
    · have hke : k = n := by omega
      subst hke
      have hd : ¬ (k : Int) < (k : Int) := by omega
      go_wp2_with fail
      go_ret
      exact ⟨A2, c2, rfl, ho.mono (by omega), pre.trans (hb.mono (by omega))⟩

end Go.Proofs.Ytcacmiafmanniaa
