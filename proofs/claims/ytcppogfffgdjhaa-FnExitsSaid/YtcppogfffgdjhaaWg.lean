/- Evacuation: plain laws: the times to many goals are the least of the times to each; the nearest goal. No program in sight. -/
import Derived.Test.YtcppogfffgdjhaaWf
namespace Go.Proofs.Ytcppogfffgdjhaa
set_option maxRecDepth 100000
set_option linter.unusedVariables false
set_option linter.unusedSimpArgs false
set_option linter.unusedSectionVars false

section
variable {p : Int} {l : List WalkR} (lad : Bool) (hw : walksB p l = true) (goals : List Int)
include hw
theorem times_good : GoodT p.toNat (timesR p l goals lad) := by
  obtain ⟨hl, hp⟩ := okW_of hw
  exact it_good (initT_good goals).1 (by omega) hl _
theorem times_closed : ClosedT l lad (timesR p l goals lad) := by
  obtain ⟨hl, hp⟩ := okW_of hw
  intro k hk hu h1
  have hd := it_done (lad := lad) (initT_good (p := p.toNat) goals).1 (by omega) hl (initT_good goals).2 (by omega)
  have e : timesR p l goals lad = timesIt l lad (initT p.toNat goals) p.toNat := rfl
  have := pass_edge (lad := lad) (times_good lad hw goals) (by omega) hl hk hu h1
  rw [e] at this ⊢
  rwa [hd] at this
theorem times_born : BornT p.toNat l lad (initT p.toNat goals) (timesR p l goals lad) := by
  obtain ⟨hl, hp⟩ := okW_of hw
  exact it_born (initT_good goals).1 (by omega) hl (initT_good goals).2 _
theorem times_low {F : List Int} (hF : ClosedT l lad F) (hle : ∀ v, v < p.toNat → nth (initT p.toNat goals) v < 0 ∨ (0 ≤ nth F v ∧ nth F v ≤ nth (initT p.toNat goals) v)) :
    ∀ v, v < p.toNat → nth (timesR p l goals lad) v < 0 ∨ (0 ≤ nth F v ∧ nth F v ≤ nth (timesR p l goals lad) v) := by
  obtain ⟨hl, hp⟩ := okW_of hw
  exact it_low (initT_good goals).1 (by omega) hl hF hle _
theorem times_zero {v : Nat} (hv : v < p.toNat) (hg : goals.any (fun z => (v : Int) == z) = true) : nth (timesR p l goals lad) v = 0 := by
  obtain ⟨hl, hp⟩ := okW_of hw
  have h := it_mono (lad := lad) (initT_good (p := p.toNat) goals).1 (by omega) hl p.toNat v hv
  have e : timesR p l goals lad = timesIt l lad (initT p.toNat goals) p.toNat := rfl
  rw [initT_nth goals hv, hg, if_pos rfl] at h
  rw [e]; omega
theorem times_top (v : Nat) (hv : v < p.toNat) : -1 ≤ nth (timesR p l goals lad) v ∧ nth (timesR p l goals lad) v ≤ 57600 := by
  have hp := (okW_of hw).2
  exact (times_good lad hw goals).top (by omega) v hv
/-- The time to one of many goals is none later than to each of them. -/
theorem times_least {j : Nat} (hj : j < goals.length) (v : Nat) (hv : v < p.toNat) :
    nth (timesR p l [nth goals j] lad) v < 0 ∨ (0 ≤ nth (timesR p l goals lad) v ∧ nth (timesR p l goals lad) v ≤ nth (timesR p l [nth goals j] lad) v) := by
  refine times_low lad hw [nth goals j] (times_closed lad hw goals) (fun u hu => ?_) v hv
  rw [initT_nth _ hu]
  by_cases e : (u : Int) = nth goals j
  · have : goals.any (fun z => (u : Int) == z) = true := List.any_eq_true.2 ⟨_, nth_mem hj, by simp [e]⟩
    rw [times_zero lad hw goals hu this]
    simp [e]
  · simp [e]
/-- and it is the time to one of them. -/
theorem times_one : ∀ (N : Nat) (v : Nat), v < p.toNat → 0 ≤ nth (timesR p l goals lad) v → nth (timesR p l goals lad) v < N →
    ∃ j, j < goals.length ∧ 0 ≤ nth (timesR p l [nth goals j] lad) v ∧ nth (timesR p l [nth goals j] lad) v ≤ nth (timesR p l goals lad) v := by
  obtain ⟨hl, hp⟩ := okW_of hw
  intro N
  induction N with
  | zero => intro v hv h0 h1; omega
  | succ N ih =>
    intro v hv h0 h1
    rcases times_born lad hw goals v hv with h | ⟨ha, hb⟩ | ⟨k, hk, hu, hf, ht, hs⟩
    · omega
    · rw [initT_nth goals hv] at ha hb
      cases hg : goals.any (fun z => (v : Int) == z) with
      | false => rw [hg] at ha; simp at ha
      | true =>
        obtain ⟨z, hz, hvz⟩ := List.any_eq_true.1 hg
        obtain ⟨j, hj, rfl⟩ := List.getElem_of_mem hz
        refine ⟨j, hj, ?_⟩
        have e : nth goals j = goals[j] := nth_eq hj
        rw [times_zero lad hw [nth goals j] hv (by rw [e]; simpa using hvz)]
        omega
    · have hx := hl k hk
      obtain ⟨j, hj, q0, q1⟩ := ih (WalkR.at_ l k).To.toNat (by omega) ht (by omega)
      refine ⟨j, hj, ?_⟩
      have hc := times_closed lad hw [nth goals j] k hk hu q0
      rw [hf] at hc
      omega
end

/-- Of the first k exits the one with the least time T, and this time. -/
def nearTo (T : Int → Int) (ys : List Int) : Nat → Int × Int
  | 0 => (-1, 0)
  | k + 1 => if decide (0 ≤ T (nth ys k)) && (decide ((nearTo T ys k).1 < 0) || decide (T (nth ys k) < (nearTo T ys k).2)) then (nth ys k, T (nth ys k)) else nearTo T ys k
theorem nearTo_succ (T : Int → Int) (ys : List Int) (k : Nat) : nearTo T ys (k + 1) = if decide (0 ≤ T (nth ys k)) && (decide ((nearTo T ys k).1 < 0) || decide (T (nth ys k) < (nearTo T ys k).2)) then (nth ys k, T (nth ys k)) else nearTo T ys k := rfl
theorem nearTo_spec (T : Int → Int) (ys : List Int) (hy : ∀ k, k < ys.length → 0 ≤ nth ys k) : ∀ k, k ≤ ys.length →
    ((nearTo T ys k).1 = -1 ∧ (nearTo T ys k).2 = 0 ∧ ∀ j, j < k → T (nth ys j) < 0) ∨ (0 ≤ (nearTo T ys k).1 ∧ 0 ≤ (nearTo T ys k).2 ∧ (∃ j, j < k ∧ (nearTo T ys k).1 = nth ys j ∧ (nearTo T ys k).2 = T (nth ys j)) ∧ ∀ j, j < k → T (nth ys j) < 0 ∨ (nearTo T ys k).2 ≤ T (nth ys j)) := by
  intro k
  induction k with
  | zero => intro _; exact .inl ⟨rfl, rfl, fun j hj => by omega⟩
  | succ k ih =>
    intro hk
    have h0 := hy k (by omega)
    rw [nearTo_succ]
    rcases ih (by omega) with ⟨h1, h3, h2⟩ | ⟨h1, h2, ⟨j, hj, hj1, hj2⟩, h3⟩
    · by_cases hc : 0 ≤ T (nth ys k)
      · rw [if_pos (by simp [hc, h1])]
        exact .inr ⟨h0, hc, ⟨k, by omega, rfl, rfl⟩, fun j hj => by
          by_cases e : j = k
          · subst e; exact .inr (Int.le_refl _)
          · exact .inl (h2 j (by omega))⟩
      · rw [if_neg (by simp [hc])]
        exact .inl ⟨h1, h3, fun j hj => by
          by_cases e : j = k
          · subst e; omega
          · exact h2 j (by omega)⟩
    · by_cases hc : 0 ≤ T (nth ys k) ∧ T (nth ys k) < (nearTo T ys k).2
      · rw [if_pos (by simp [hc.1, hc.2])]
        exact .inr ⟨h0, hc.1, ⟨k, by omega, rfl, rfl⟩, fun j hj => by
          by_cases e : j = k
          · subst e; exact .inr (Int.le_refl _)
          · rcases h3 j (by omega) with h | h
            · exact .inl h
            · exact .inr (by show T (nth ys k) ≤ _; omega)⟩
      · rw [if_neg (by simp; intro h; exact ⟨h1, by omega⟩)]
        exact .inr ⟨h1, h2, ⟨j, by omega, hj1, hj2⟩, fun j hj => by
          by_cases e : j = k
          · subst e; omega
          · exact h3 j (by omega)⟩
/-- The time from place v to goal e. -/
def timeFrom (p : Int) (l : List WalkR) (lad : Bool) (v : Nat) (e : Int) : Int := nth (timesR p l [e] lad) v
/-- The time to the nearest exit is the time to the exits. -/
theorem near_all {p : Int} {l : List WalkR} (lad : Bool) (hw : walksB p l = true) {ys : List Int} (hy : ∀ k, k < ys.length → 0 ≤ nth ys k) (v : Nat) (hv : v < p.toNat) :
    ((nearTo (timeFrom p l lad v) ys ys.length).1 = -1 ∧ nth (timesR p l ys lad) v < 0) ∨
    (0 ≤ (nearTo (timeFrom p l lad v) ys ys.length).1 ∧ (nearTo (timeFrom p l lad v) ys ys.length).2 = nth (timesR p l ys lad) v ∧ 0 ≤ nth (timesR p l ys lad) v) := by
  have eT : ∀ e, timeFrom p l lad v e = nth (timesR p l [e] lad) v := fun _ => rfl
  rcases nearTo_spec (timeFrom p l lad v) ys hy ys.length (Nat.le_refl _) with ⟨h1, _, h2⟩ | ⟨h1, h2, ⟨j, hj, hj1, hj2⟩, h3⟩
  · refine .inl ⟨h1, ?_⟩
    by_cases hn : nth (timesR p l ys lad) v < 0
    · exact hn
    · obtain ⟨j, hj, q0, _⟩ := times_one lad hw ys ((nth (timesR p l ys lad) v).toNat + 1) v hv (by omega) (by omega)
      have := h2 j hj
      rw [eT] at this
      omega
  · have ha := times_least lad hw ys hj v hv
    rw [eT] at hj2
    have hn : 0 ≤ nth (timesR p l ys lad) v := by omega
    refine .inr ⟨h1, ?_, hn⟩
    obtain ⟨i, hi, q0, q1⟩ := times_one lad hw ys ((nth (timesR p l ys lad) v).toNat + 1) v hv hn (by omega)
    have hb := h3 i hi
    rw [eT] at hb
    omega

/-! ### the farthest place -/
def farTo (ts : List Int) : Nat → Int
  | 0 => -1
  | k + 1 => if decide (0 ≤ nth ts k) && (decide (farTo ts k < 0) || decide (nth ts (farTo ts k).toNat < nth ts k)) then k else farTo ts k
theorem farTo_succ (ts : List Int) (k : Nat) : farTo ts (k + 1) = if decide (0 ≤ nth ts k) && (decide (farTo ts k < 0) || decide (nth ts (farTo ts k).toNat < nth ts k)) then (k : Int) else farTo ts k := rfl
theorem farTo_spec (ts : List Int) : ∀ k, (farTo ts k = -1 ∧ ∀ j, j < k → nth ts j < 0) ∨ (0 < k ∧ farTo ts k = (bestTo ts k : Nat) ∧ 0 ≤ nth ts (bestTo ts k)) := by
  intro k
  induction k with
  | zero => exact .inl ⟨rfl, fun j hj => by omega⟩
  | succ k ih =>
    rw [farTo_succ, bestTo_succ]
    rcases ih with ⟨h1, h2⟩ | ⟨h0, h1, h2⟩
    · by_cases hc : 0 ≤ nth ts k
      · rw [if_pos (by simp [hc, h1])]
        refine .inr ⟨by omega, ?_⟩
        by_cases hk : k = 0
        · subst hk; simp [bestTo, hc]
        · have hb := bestTo_le ts k
          have := h2 (bestTo ts k) (by omega)
          rw [if_pos (by omega)]
          exact ⟨rfl, hc⟩
      · rw [if_neg (by simp [hc])]
        exact .inl ⟨h1, fun j hj => by
          by_cases e : j = k
          · subst e; omega
          · exact h2 j (by omega)⟩
    · rw [h1]
      have e : ((bestTo ts k : Nat) : Int).toNat = bestTo ts k := by omega
      rw [e]
      by_cases hc : nth ts (bestTo ts k) < nth ts k
      · rw [if_pos (by simp [hc]; omega), if_pos hc]
        exact .inr ⟨by omega, rfl, by omega⟩
      · rw [if_neg (by simp; intro _; omega), if_neg hc]
        exact .inr ⟨by omega, rfl, h2⟩
theorem farTo_all {ts : List Int} (hl : 0 < ts.length) : (farTo ts ts.length = -1 ∧ mostOf ts < 0) ∨ (farTo ts ts.length = (placeOf ts : Nat) ∧ 0 ≤ mostOf ts) := by
  rcases farTo_spec ts ts.length with ⟨h1, h2⟩ | ⟨h0, h1, h2⟩
  · exact .inl ⟨h1, h2 _ (placeOf_lt hl)⟩
  · exact .inr ⟨h1, h2⟩
end Go.Proofs.Ytcppogfffgdjhaa
