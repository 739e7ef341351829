/- Inspections: ChecksIn: the contract of the reference's side. -/
import Derived.Test.YtickepianllblaaGreatDoorCg
namespace Go.Proofs.YtickepianllblaaGreatDoor
open Go.RowKit
set_option maxRecDepth 100000
set_option linter.unusedVariables false
set_option linter.unusedSimpArgs false

theorem own_some {w : World} {B e size n c : Nat} {A : Option Addr} {xs : List Value} (h : Own w B e size A n c xs) (hn : 0 < n) : ∃ g, A = some ⟨g, 0, none⟩ ∧ B ≤ g ∧ g < w.heap.size := by
  cases A with
  | none => have := h.none_n; omega
  | some a =>
    obtain ⟨h1, h2, h3, h4⟩ := h.block_lt a rfl
    obtain ⟨b, o, s⟩ := a
    simp only at h1 h2 h3 h4
    subst h1; subst h2
    exact ⟨b, rfl, h3, h4⟩
theorem own_nth {w : World} {B e n c g j : Nat} {ts : List Int} (h : Own w B e 1 (some ⟨g, 0, none⟩) n c (ts.map (Value.int .i64))) (hj : j < n) : w.cell? ⟨g, j, none⟩ = some (.int .i64 (nth ts j)) := by
  have hl : ts.length = n := by have := h.len; simpa using this
  rw [h.cellAt (by omega), List.getElem?_map, getElem?_nth (by omega)]; rfl
theorem own_put {w : World} {B e n c g j : Nat} {ts : List Int} (h : Own w B e 1 (some ⟨g, 0, none⟩) n c (ts.map (Value.int .i64))) (x : Int) : Own (w.setCell ⟨g, j, none⟩ (.int .i64 x)) B e 1 (some ⟨g, 0, none⟩) n c ((ts.set j x).map (Value.int .i64)) := by
  have := (h.stored (j := j) (.int .i64 x)).1
  rwa [← List.map_set] at this
theorem checks_one (l : List CheckR) : ∀ u ∈ l.flatMap CheckR.cells, u.oneCell' = true := by
  intro u hu
  obtain ⟨x, _, hx⟩ := List.mem_flatMap.1 hu
  simp only [CheckR.cells, List.mem_cons, List.not_mem_nil, or_false] at hx
  rcases hx with rfl | rfl | rfl | rfl | rfl <;> rfl
/-- Two numbers of an element stored. -/
theorem two_set : ∀ (l : List CheckR) (i : Nat) (d r : Int), i < l.length → ((l.flatMap CheckR.cells).set (i * 5 + 3) (.int .i64 d)).set (i * 5 + 4) (.int .i64 r) = (l.set i ⟨(CheckR.at_ l i).Id, (CheckR.at_ l i).EveryDays, (CheckR.at_ l i).EveryRides, d, r⟩).flatMap CheckR.cells
  | [], i, d, r, h => absurd h (by simp)
  | x :: l, 0, d, r, _ => by simp [CheckR.cells, CheckR.at_, List.set_cons_succ, List.set_cons_zero]
  | x :: l, i + 1, d, r, h => by
    have ih := two_set l i d r (by simpa using h)
    rw [show (i + 1) * 5 + 3 = (i * 5 + 3) + 1 + 1 + 1 + 1 + 1 by omega, show (i + 1) * 5 + 4 = (i * 5 + 4) + 1 + 1 + 1 + 1 + 1 by omega]
    show ((([Value.string x.Id, .int .i64 x.EveryDays, .int .i64 x.EveryRides, .int .i64 x.LastDay, .int .i64 x.LastRide] ++ l.flatMap CheckR.cells).set _ _).set _ _) = _
    simp only [List.cons_append, List.nil_append, List.set_cons_succ]
    rw [ih]
    rfl
/-- The first i stand at k + 1, the others at k. -/
def mixL {α : Type} (f : Nat → Nat → α) (n k i : Nat) : List α := (List.range n).map fun j => f j (if j < i then k + 1 else k)
section
variable {α : Type} {f : Nat → Nat → α} {n k i : Nat}
theorem mix_len : (mixL f n k i).length = n := by simp [mixL]
theorem mix_at {j : Nat} (h : j < n) : (mixL f n k i)[j]? = some (f j (if j < i then k + 1 else k)) := by simp [mixL, h]
theorem mix_here (h : i < n) : (mixL f n k i)[i]? = some (f i k) := by rw [mix_at h, if_neg (by omega)]
theorem mix_set (h : i < n) : mixL f n k (i + 1) = (mixL f n k i).set i (f i (k + 1)) := by
  refine List.ext_getElem? fun j => ?_
  rw [List.getElem?_set]
  by_cases hj : j < n
  · rw [mix_at hj]
    by_cases e : i = j
    · subst e
      rw [if_pos rfl, if_pos (show i < i + 1 by omega), if_pos (by rw [mix_len]; exact hj)]
    · rw [if_neg e, mix_at hj]
      by_cases hji : j < i
      · rw [if_pos (by omega), if_pos hji]
      · rw [if_neg (by omega), if_neg hji]
  · rw [if_neg (by omega), List.getElem?_eq_none (by rw [mix_len]; omega), List.getElem?_eq_none (by rw [mix_len]; omega)]
theorem mix_same (h : f i (k + 1) = f i k) : mixL f n k (i + 1) = mixL f n k i := by
  unfold mixL
  refine List.map_congr_left fun j _ => ?_
  by_cases e : j = i
  · subst e
    rw [if_pos (by omega), if_neg (by omega), h]
  · by_cases hji : j < i
    · rw [if_pos (by omega), if_pos hji]
    · rw [if_neg (by omega), if_neg hji]
theorem mix_next : mixL f n k n = mixL f n (k + 1) 0 := by
  unfold mixL
  refine List.map_congr_left fun j hj => ?_
  have := List.mem_range.1 hj
  rw [if_pos this, if_neg (by omega)]
end
def nowF (l : List CheckR) (day rides per : Int) (j k : Nat) : CheckR := (simT (CheckR.at_ l j) day rides per k).1
def cntF (l : List CheckR) (day rides per : Int) (j k : Nat) : Int := (simT (CheckR.at_ l j) day rides per k).2
theorem now_start {l : List CheckR} {day rides per : Int} {n : Nat} (h : l.length = n) : mixL (nowF l day rides per) n 0 0 = l := by
  refine List.ext_getElem? fun j => ?_
  by_cases hj : j < n
  · rw [mix_at hj, List.getElem?_eq_getElem (by omega)]
    simp [nowF, simT, CheckR.at_, List.getD, List.getElem?_eq_getElem (show j < l.length by omega)]
  · rw [List.getElem?_eq_none (by rw [mix_len]; omega), List.getElem?_eq_none (by omega)]
theorem cnt_start {l : List CheckR} {day rides per : Int} {n : Nat} : mixL (cntF l day rides per) n 0 0 = List.replicate n 0 := by
  refine List.ext_getElem? fun j => ?_
  by_cases hj : j < n
  · rw [mix_at hj]
    simp [cntF, simT, hj]
  · rw [List.getElem?_eq_none (by rw [mix_len]; omega), List.getElem?_eq_none (by simp; omega)]
theorem cnt_end {l : List CheckR} {day rides per : Int} {n D : Nat} : mixL (cntF l day rides per) n D 0 = countsTo l day rides per D n := by
  unfold mixL countsTo
  exact List.map_congr_left fun j _ => by rw [if_neg (by omega)]; rfl
theorem at_mix {l : List CheckR} {day rides per : Int} {n k i : Nat} (h : i < n) : CheckR.at_ (mixL (nowF l day rides per) n k i) i = nowF l day rides per i k := by
  show (mixL (nowF l day rides per) n k i).getD i _ = _
  rw [List.getD, mix_here h]; rfl
theorem nth_mix {l : List CheckR} {day rides per : Int} {n k i : Nat} (h : i < n) : nth (mixL (cntF l day rides per) n k i) i = cntF l day rides per i k := by
  show (mixL (cntF l day rides per) n k i).getD i _ = _
  rw [List.getD, mix_here h]; rfl

end Go.Proofs.YtickepianllblaaGreatDoor
