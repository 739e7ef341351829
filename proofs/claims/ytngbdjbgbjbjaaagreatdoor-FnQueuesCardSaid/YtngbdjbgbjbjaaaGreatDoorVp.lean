/- The law of queues: what the calls answer, together. Plain: no program in sight. -/
import Derived.Test.YtngbdjbgbjbjaaaGreatDoorVb
import Derived.Test.YtngbdjbgbjbjaaaGreatDoorUg
namespace Go.Proofs.YtngbdjbgbjbjaaaGreatDoor
set_option maxRecDepth 100000
set_option linter.unusedVariables false
set_option linter.unusedSimpArgs false

theorem queuesTo_nth (zs : List Int) (every seats extra : Int) {n j : Nat} (h : j < n) : nth (queuesTo zs every seats extra n) j = queueTo zs every seats extra (j + 1) := by
  unfold nth queuesTo
  rw [List.getD_eq_getElem?_getD, List.getElem?_map, List.getElem?_range h]
  rfl
/-- One more ride never makes queues longer. -/
theorem queueTo_extra {zs : List Int} {every seats : Int} (m : Int) (hs : 1 ≤ seats) (hz : ∀ z ∈ zs, 0 ≤ z ∧ z ≤ 1000) : ∀ k, k ≤ zs.length → queueTo zs every seats m k ≤ queueTo zs every seats 0 k := by
  intro k
  induction k with
  | zero => intro _; exact Int.le_refl _
  | succ k ih =>
    intro hk
    have h1 := ih (by omega)
    have h2 := (queueTo_bd (every := every) (extra := 0) hz hs k (by omega)).1
    have h3 := hz _ (nth_mem (zs := zs) (k := k) (by omega))
    rw [queueTo_succ, queueTo_succ, stepQ_eq, stepQ_eq]
    have c3 : ¬ ((k : Int) + 1 = 0) := by omega
    rw [if_neg c3]
    by_cases c1 : ((k : Int) + 1).tmod every = 0 <;> by_cases c2 : (k : Int) + 1 = m <;> simp only [c1, c2, if_true, if_false] <;> omega
theorem queuesTo_sum_le {zs : List Int} {every seats : Int} (m : Int) (hs : 1 ≤ seats) (hz : ∀ z ∈ zs, 0 ≤ z ∧ z ≤ 1000) : ∀ k, k ≤ zs.length → (queuesTo zs every seats m k).sum ≤ (queuesTo zs every seats 0 k).sum := by
  intro k
  induction k with
  | zero => intro _; exact Int.le_refl _
  | succ k ih =>
    intro hk
    have h1 := ih (by omega)
    have h2 := queueTo_extra (every := every) m hs hz (k + 1) hk
    rw [queuesTo_succ, queuesTo_succ, List.sum_append, List.sum_append]
    simp only [List.sum_cons, List.sum_nil]
    omega
theorem queuesTo_mem {zs : List Int} {every seats m : Int} (hs : 1 ≤ seats) (hz : ∀ z ∈ zs, 0 ≤ z ∧ z ≤ 1000) {k : Nat} (hk : k ≤ zs.length) (hk6 : k ≤ 60) : ∀ q ∈ queuesTo zs every seats m k, 0 ≤ q ∧ q ≤ 60000 := by
  intro q hq
  unfold queuesTo at hq
  obtain ⟨j, hj, rfl⟩ := List.mem_map.1 hq
  have hj := List.mem_range.1 hj
  have := queueTo_bd (every := every) (extra := m) hz hs (j + 1) (by omega)
  omega
/-- The greatest of the queues at the ends of the first k minutes, at least 0. -/
def mxTo (zs : List Int) (every seats : Int) : Nat → Int
  | 0 => 0
  | k + 1 => max (mxTo zs every seats k) (queueTo zs every seats 0 (k + 1))
theorem mxTo_succ (zs : List Int) (every seats : Int) (k : Nat) : mxTo zs every seats (k + 1) = max (mxTo zs every seats k) (queueTo zs every seats 0 (k + 1)) := rfl
theorem mxTo_ge (zs : List Int) (every seats : Int) : ∀ k, 0 ≤ mxTo zs every seats k ∧ ∀ j, j < k → queueTo zs every seats 0 (j + 1) ≤ mxTo zs every seats k := by
  intro k
  induction k with
  | zero => exact ⟨Int.le_refl _, fun j hj => absurd hj (by omega)⟩
  | succ k ih =>
    rw [mxTo_succ]
    refine ⟨by omega, fun j hj => ?_⟩
    by_cases e : j = k
    · subst e; omega
    · have := ih.2 j (by omega); omega
theorem mxTo_is (zs : List Int) (every seats : Int) : ∀ k, mxTo zs every seats k = 0 ∨ ∃ j, j < k ∧ mxTo zs every seats k = queueTo zs every seats 0 (j + 1) := by
  intro k
  induction k with
  | zero => exact .inl rfl
  | succ k ih =>
    rw [mxTo_succ]
    by_cases h : mxTo zs every seats k ≤ queueTo zs every seats 0 (k + 1)
    · exact .inr ⟨k, by omega, by omega⟩
    · rcases ih with h0 | ⟨j, hj, he⟩
      · left; omega
      · exact .inr ⟨j, by omega, by omega⟩
theorem most_mx {zs : List Int} {every seats : Int} (hs : 1 ≤ seats) (hz : ∀ z ∈ zs, 0 ≤ z ∧ z ≤ 1000) {n : Nat} (hn : n = zs.length) (h0 : 1 ≤ n) : mostOf (queuesTo zs every seats 0 n) = mxTo zs every seats n := by
  have hl := queuesTo_len zs every seats 0 n
  have hsp := (bestTo_spec (queuesTo zs every seats 0 n) n).1
  have hpl := placeOf_lt (zs := queuesTo zs every seats 0 n) (by omega)
  have hme : mostOf (queuesTo zs every seats 0 n) = nth (queuesTo zs every seats 0 n) (placeOf (queuesTo zs every seats 0 n)) := rfl
  have hbe : bestTo (queuesTo zs every seats 0 n) n = placeOf (queuesTo zs every seats 0 n) := by unfold placeOf; rw [hl]
  rw [hbe] at hsp
  rw [hl] at hpl
  rw [hme, queuesTo_nth _ _ _ _ hpl]
  have h1 := (mxTo_ge zs every seats n).2 _ hpl
  have h2 : mxTo zs every seats n ≤ queueTo zs every seats 0 (placeOf (queuesTo zs every seats 0 n) + 1) := by
    have hnn := (queueTo_bd (every := every) (extra := 0) hz hs (placeOf (queuesTo zs every seats 0 n) + 1) (by omega)).1
    rcases mxTo_is zs every seats n with h | ⟨j, hj, he⟩
    · omega
    · have := hsp j hj
      rw [queuesTo_nth _ _ _ _ hj, queuesTo_nth _ _ _ _ hpl] at this
      omega
  omega
/-- What was written is read back. -/
theorem readArr_text {zs : List Int} (h : arrB zs = true) : rReadArr (rArrivalsText zs).data.toList = (zs, true) := by
  obtain ⟨h1, h2, h3⟩ := arrB_true.1 h
  have e : (rArrivalsText zs).data.toList = Lib.join (decs zs) [43] := by unfold rArrivalsText; rw [if_pos h]; exact jn_decs zs
  have hne : decs zs ≠ [] := by
    unfold decs
    intro hc
    rw [List.map_eq_nil_iff] at hc
    rw [hc] at h2
    simp at h2
  have hsp : sp 43 (Lib.join (decs zs) [43]) = decs zs := sp_join 43 _ hne (fun w hw => by
    unfold decs at hw
    obtain ⟨x, _, rfl⟩ := List.mem_map.1 hw
    exact dec_free _)
  rw [e]
  unfold rReadArr
  rw [hsp, nums_decs zs h1]
  simp only
  rw [if_pos h]
theorem arrText_size {zs : List Int} (h : arrB zs = true) : (rArrivalsText zs).size ≤ 1048576 := by
  obtain ⟨h1, h2, h3⟩ := arrB_true.1 h
  unfold rArrivalsText
  rw [if_pos h]
  have hl : (zs.map Int.toNat).length = zs.length := List.length_map _
  have := jn_size 43 (vs := zs.map Int.toNat) (fun v hv => by
    obtain ⟨z, hz, rfl⟩ := List.mem_map.1 hv
    have := h1 z hz
    omega) zs.length (by omega)
  rw [List.take_of_length_le (by omega)] at this
  omega
/-- What LeastSeats says. -/
def LeastP (zs : List Int) (every limit few cd : Int) : Prop := cd = 0 → arrB zs = true ∧ inB every 1 60 = true ∧ 1 ≤ few ∧ few ≤ 1000 ∧ mostOf (queuesTo zs every few 0 zs.length) ≤ limit ∧ ∀ s : Int, 1 ≤ s → s < few → limit < mostOf (queuesTo zs every s 0 zs.length)
theorem least_longest {zs : List Int} {every limit few : Int} (h : LeastP zs every limit few 0) : (rLongest zs every few).2.2 = 0 ∧ (rLongest zs every few).2.1 ≤ limit ∧ ((rLongest zs every (few - 1)).2.2 = 0 → limit < (rLongest zs every (few - 1)).2.1) := by
  obtain ⟨v0, v1, h1, h2, h3, h4⟩ := h rfl
  have hc : askC (arrB zs) (inB every 1 60 && inB few 1 1000) = 0 := by rw [v0, v1, inB_true.2 ⟨h1, h2⟩]; rfl
  unfold rLongest
  rw [if_pos hc]
  refine ⟨rfl, h3, fun hz => ?_⟩
  by_cases hc2 : askC (arrB zs) (inB every 1 60 && inB (few - 1) 1 1000) = 0
  · rw [if_pos hc2]
    have := (askC_zero.1 hc2).2
    rw [Bool.and_eq_true] at this
    have := inB_true.1 this.2
    exact h4 _ this.1 (by omega)
  · rw [if_neg hc2] at hz
    exact absurd hz hc2
theorem wideTo_spec (zs : List Int) (seats limit : Int) : ∀ e, ((wideTo zs seats limit e).2 = 0 → 1 ≤ (wideTo zs seats limit e).1 ∧ (wideTo zs seats limit e).1 ≤ e ∧ mostOf (queuesTo zs (wideTo zs seats limit e).1 seats 0 zs.length) ≤ limit ∧ ∀ x : Int, (wideTo zs seats limit e).1 < x → x ≤ e → limit < mostOf (queuesTo zs x seats 0 zs.length)) ∧ ((wideTo zs seats limit e).2 ≠ 0 → (wideTo zs seats limit e).1 = 0) := by
  intro e
  induction e with
  | zero => exact ⟨fun h => (by cases h), fun _ => rfl⟩
  | succ e ih =>
    rw [wideTo_succ]
    by_cases hm : mostOf (queuesTo zs ((e + 1 : Nat) : Int) seats 0 zs.length) ≤ limit
    · rw [if_pos hm]
      exact ⟨fun _ => ⟨by simp only; omega, Int.le_refl _, hm, fun x h1 h2 => by simp only at h1; omega⟩, fun h => absurd rfl h⟩
    · rw [if_neg hm]
      refine ⟨fun h => ?_, ih.2⟩
      obtain ⟨h1, h2, h3, h4⟩ := ih.1 h
      refine ⟨h1, by omega, h3, fun x h5 h6 => ?_⟩
      by_cases hx : x = ((e + 1 : Nat) : Int)
      · subst hx; omega
      · exact h4 x h5 (by omega)
theorem widest_facts {zs : List Int} {seats limit : Int} : ((rWidest zs seats limit).2 = 0 → 1 ≤ (rWidest zs seats limit).1 ∧ (rWidest zs seats limit).1 ≤ 60 ∧ (∀ x : Int, (rWidest zs seats limit).1 ≤ x → x ≤ 60 → (rLongest zs x seats).2.2 = 0) ∧ (rLongest zs (rWidest zs seats limit).1 seats).2.1 ≤ limit ∧ ∀ x : Int, (rWidest zs seats limit).1 < x → x ≤ 60 → limit < (rLongest zs x seats).2.1) ∧ ((rWidest zs seats limit).2 ≠ 0 → (rWidest zs seats limit).1 = 0) := by
  unfold rWidest
  by_cases hc : askC (arrB zs) (inB seats 1 1000 && inB limit 0 100000) = 0
  · rw [if_pos hc]
    obtain ⟨v0, v1⟩ := askC_zero.1 hc
    rw [Bool.and_eq_true] at v1
    refine ⟨fun h => ?_, (wideTo_spec zs seats limit 60).2⟩
    obtain ⟨h1, h2, h3, h4⟩ := (wideTo_spec zs seats limit 60).1 h
    have hx : ∀ x : Int, (wideTo zs seats limit 60).1 ≤ x → x ≤ 60 → rLongest zs x seats = (((placeOf (queuesTo zs x seats 0 zs.length) : Nat) : Int) + 1, mostOf (queuesTo zs x seats 0 zs.length), 0) := fun x h5 h6 => by
      unfold rLongest
      rw [if_pos (by rw [v0, v1.1, inB_true.2 (show 1 ≤ x ∧ x ≤ 60 by omega)]; rfl)]
    refine ⟨h1, by omega, fun x h5 h6 => by rw [hx x h5 h6], by rw [hx _ (Int.le_refl _) (by omega)]; exact h3, fun x h5 h6 => by rw [hx x (by omega) h6]; exact h4 x h5 (by omega)⟩
  · rw [if_neg hc]
    exact ⟨fun h => absurd h hc, fun _ => rfl⟩
end Go.Proofs.YtngbdjbgbjbjaaaGreatDoor
