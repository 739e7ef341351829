/- The law of inspections: what the calls answer, together. Plain: no program in sight. -/
import Derived.Test.YtickepianllblaaGreatDoorCi
import Derived.Test.YtickepianllblaaGreatDoorCd
import Derived.Test.YtickepianllblaaGreatDoorCe
import Derived.Test.YtickepianllblaaGreatDoorCf
import Derived.Test.YtickepianllblaaGreatDoorDv
namespace Go.Proofs.YtickepianllblaaGreatDoor
set_option maxRecDepth 100000
set_option linter.unusedVariables false
set_option linter.unusedSimpArgs false

structure GoodC (l : List CheckR) : Prop where
  all : checkBAll l = true
  len : l.length ≤ 5
  bd : ∀ k, k < l.length → BoundC (CheckR.at_ l k)
theorem ask_of {l : List CheckR} {d r p : Int} (h : checkBAll l = true) (hd : 0 ≤ d ∧ d ≤ 100000) (hr : 0 ≤ r ∧ r ≤ 1000000) (hp : 0 ≤ p ∧ p ≤ 1000000) (hl : ∀ k, k < l.length → (CheckR.at_ l k).LastDay ≤ d ∧ (CheckR.at_ l k).LastRide ≤ r) : askI l d r p = 0 := by
  have hn : anyC (fun x => lateB x d r) l = false := anyC_none (allTo_true.2 (fun k hk => by
    obtain ⟨h1, h2⟩ := hl k hk
    simp only [lateB, decide_eq_false (show ¬ d < (CheckR.at_ l k).LastDay by omega), decide_eq_false (show ¬ r < (CheckR.at_ l k).LastRide by omega), Bool.or_self, Bool.not_false]))
  unfold askI
  rw [h, inB_true.2 hp, inB_true.2 hd, inB_true.2 hr, hn]
  rfl
theorem GoodC.ask {l : List CheckR} (h : GoodC l) {d r p : Int} (hd : 60 ≤ d ∧ d ≤ 100000) (hr : 3000 ≤ r ∧ r ≤ 1000000) (hp : 0 ≤ p ∧ p ≤ 1000000) : askI l d r p = 0 :=
  ask_of h.all (by omega) (by omega) hp (fun k hk => by have := h.bd k hk; unfold BoundC at this; omega)
theorem GoodC.check {l : List CheckR} (h : GoodC l) {k : Nat} (hk : k < l.length) : checkB (CheckR.at_ l k) = true := (checks_at h.all).1 k hk
theorem over_iff {x : CheckR} {d r : Int} : overB x d r = true ↔ dueA x d < 0 ∨ dueB x r < 0 := by
  unfold overB
  simp only [Bool.or_eq_true, decide_eq_true_eq]
theorem overTo_zero (l : List CheckR) (d r : Int) : ∀ k, (overTo l d r k).length = 0 ↔ ∀ j, j < k → overB (CheckR.at_ l j) d r = false := by
  intro k
  induction k with
  | zero => exact ⟨fun _ j hj => absurd hj (by omega), fun _ => rfl⟩
  | succ k ih =>
    rw [overTo_succ, List.length_append]
    cases ho : overB (CheckR.at_ l k) d r with
    | true =>
      constructor
      · intro h; simp at h
      · intro h; have := h k (by omega); rw [ho] at this; cases this
    | false =>
      constructor
      · intro h j hj
        by_cases e : j = k
        · subst e; exact ho
        · exact ih.1 (by simpa using h) j (by omega)
      · intro h
        have := ih.2 (fun j hj => h j (by omega))
        simpa using this
theorem isOpen_of {l : List CheckR} {d r : Int} (ha : askI l d r 0 = 0) : rIsOpen l d r = allTo (fun k => !overB (CheckR.at_ l k) d r) l.length := by
  unfold rIsOpen
  rw [decide_eq_true ha, Bool.true_and]
  cases h : allTo (fun k => !overB (CheckR.at_ l k) d r) l.length with
  | true =>
    rw [decide_eq_true_iff, overTo_zero]
    intro j hj
    have := allTo_true.1 h j hj
    simpa using this
  | false =>
    rw [decide_eq_false_iff_not, overTo_zero]
    intro hc
    have : allTo (fun k => !overB (CheckR.at_ l k) d r) l.length = true := allTo_true.2 (fun k hk => by rw [hc k hk]; rfl)
    rw [this] at h
    cases h
theorem isOpen_true {l : List CheckR} {d r : Int} (ha : askI l d r 0 = 0) : rIsOpen l d r = true ↔ ∀ k, k < l.length → 0 ≤ dueA (CheckR.at_ l k) d ∧ 0 ≤ dueB (CheckR.at_ l k) r := by
  rw [isOpen_of ha, allTo_true]
  constructor
  · intro h k hk
    have h1 := h k hk
    have h2 : ¬ (dueA (CheckR.at_ l k) d < 0 ∨ dueB (CheckR.at_ l k) r < 0) := fun hc => by rw [over_iff.2 hc] at h1; cases h1
    omega
  · intro h k hk
    have h1 := h k hk
    cases ho : overB (CheckR.at_ l k) d r with
    | false => rfl
    | true => have := over_iff.1 ho; omega
theorem isOpen_shut {l : List CheckR} {d r : Int} {k : Nat} (hk : k < l.length) (h : dueA (CheckR.at_ l k) d < 0 ∨ dueB (CheckR.at_ l k) r < 0) : rIsOpen l d r = false := by
  cases hc : rIsOpen l d r with
  | false => rfl
  | true =>
    have ha : askI l d r 0 = 0 := by
      unfold rIsOpen at hc
      rw [Bool.and_eq_true, decide_eq_true_eq] at hc
      exact hc.1
    have := (isOpen_true ha).1 hc k hk
    omega
/-! ### the first line -/
theorem left_le (l : List CheckR) (r : Int) : ∀ k, leftTo l r k ≤ 1000000 - r ∧ ∀ j, j < k → leftTo l r k ≤ dueB (CheckR.at_ l j) r := by
  intro k
  induction k with
  | zero => exact ⟨Int.le_refl _, fun j hj => absurd hj (by omega)⟩
  | succ k ih =>
    rw [leftTo_succ]
    refine ⟨by omega, fun j hj => ?_⟩
    by_cases e : j = k
    · subst e; omega
    · have := ih.2 j (by omega); omega
theorem left_is (l : List CheckR) (r : Int) : ∀ k, leftTo l r k = 1000000 - r ∨ ∃ j, j < k ∧ leftTo l r k = dueB (CheckR.at_ l j) r := by
  intro k
  induction k with
  | zero => exact .inl rfl
  | succ k ih =>
    rw [leftTo_succ]
    by_cases h : dueB (CheckR.at_ l k) r ≤ leftTo l r k
    · exact .inr ⟨k, by omega, by omega⟩
    · rcases ih with h0 | ⟨j, hj, he⟩
      · left; omega
      · exact .inr ⟨j, by omega, by omega⟩
theorem until_le (l : List CheckR) (d r p : Int) : ∀ k, untilTo l d r p k ≤ 100000 - d ∧ ∀ j, j < k → untilTo l d r p k ≤ daysI (CheckR.at_ l j) d r p := by
  intro k
  induction k with
  | zero => exact ⟨Int.le_refl _, fun j hj => absurd hj (by omega)⟩
  | succ k ih =>
    rw [untilTo_succ]
    refine ⟨by omega, fun j hj => ?_⟩
    by_cases e : j = k
    · subst e; omega
    · have := ih.2 j (by omega); omega
theorem until_is (l : List CheckR) (d r p : Int) : ∀ k, untilTo l d r p k = 100000 - d ∨ ∃ j, j < k ∧ untilTo l d r p k = daysI (CheckR.at_ l j) d r p := by
  intro k
  induction k with
  | zero => exact .inl rfl
  | succ k ih =>
    rw [untilTo_succ]
    by_cases h : daysI (CheckR.at_ l k) d r p ≤ untilTo l d r p k
    · exact .inr ⟨k, by omega, by omega⟩
    · rcases ih with h0 | ⟨j, hj, he⟩
      · left; omega
      · exact .inr ⟨j, by omega, by omega⟩
theorem first_le (l : List CheckR) (d r p : Int) : ∀ k, (0 < k → firstI l d r p k < k) ∧ ∀ j, j < k → daysI (CheckR.at_ l (firstI l d r p k)) d r p ≤ daysI (CheckR.at_ l j) d r p := by
  intro k
  induction k with
  | zero => exact ⟨fun h => absurd h (by omega), fun j hj => absurd hj (by omega)⟩
  | succ k ih =>
    rw [firstI_succ]
    by_cases h : daysI (CheckR.at_ l k) d r p < daysI (CheckR.at_ l (firstI l d r p k)) d r p
    · rw [if_pos h]
      refine ⟨fun _ => by omega, fun j hj => ?_⟩
      by_cases e : j = k
      · subst e; exact Int.le_refl _
      · have := ih.2 j (by omega); omega
    · rw [if_neg h]
      refine ⟨fun _ => ?_, fun j hj => ?_⟩
      · rcases Nat.eq_zero_or_pos k with e | e
        · subst e; show 0 < 1; omega
        · have := ih.1 e; omega
      · by_cases e : j = k
        · subst e; omega
        · exact ih.2 j (by omega)
theorem days_neg {x : CheckR} {d r p : Int} (h : overB x d r = true) : daysI x d r p = -1 := by unfold daysI; rw [if_pos h]
theorem days_pos {x : CheckR} {d r p : Int} (hp : 0 ≤ p) (h : overB x d r = false) : 0 ≤ daysI x d r p ∧ daysI x d r p ≤ dueA x d ∧ daysI x d r p * p ≤ dueB x r ∧ (dueA x d < daysI x d r p + 1 ∨ dueB x r < (daysI x d r p + 1) * p) := by
  have h1 : ¬ (dueA x d < 0 ∨ dueB x r < 0) := fun hc => by rw [over_iff.2 hc] at h; cases h
  have h2 : 0 ≤ dueA x d := by omega
  have h3 : 0 ≤ dueB x r := by omega
  unfold daysI
  rw [if_neg (by rw [h]; simp)]
  by_cases hp0 : 0 < p
  · rw [if_pos hp0]
    have q0 : 0 ≤ dueB x r / p := Int.ediv_nonneg h3 (by omega)
    have q1 : dueB x r / p * p ≤ dueB x r := Int.ediv_mul_le _ (by omega)
    have q2 : dueB x r < (dueB x r / p + 1) * p := Int.lt_ediv_add_one_mul_self _ hp0
    generalize dueB x r / p = q at *
    by_cases hq : dueA x d ≤ q
    · rw [Int.min_eq_left hq]
      refine ⟨h2, Int.le_refl _, ?_, .inl (by omega)⟩
      have := Int.mul_le_mul_of_nonneg_right hq (show 0 ≤ p by omega)
      omega
    · rw [Int.min_eq_right (by omega)]
      exact ⟨q0, by omega, q1, .inr q2⟩
  · rw [if_neg hp0]
    have : p = 0 := by omega
    subst this
    exact ⟨h2, Int.le_refl _, by omega, .inl (by omega)⟩
/-- What the first line of the law looks at. -/
structure InspFacts (l : List CheckR) (day rides per : Int) (op : Bool) : Prop where
  over : rOverdueChecks l day rides = (overTo l day rides l.length, 0)
  zero : ((overTo l day rides l.length).length = 0 ↔ op = true)
  left : rRidesLeft l day rides = if op then (leftTo l rides l.length, 0) else (0, 3)
  till : (rOpenUntil l day rides per) = if op then (day + untilTo l day rides per l.length, 0) else (0, 3)
  first : rFirstDue l day rides per = if l.length = 0 then (0, 3) else (((firstI l day rides per l.length : Nat) : Int), 0)
  done : rChecksIn l day rides per 50 = (countsTo l day rides per 50 l.length, 0)
theorem GoodC.facts {l : List CheckR} (h : GoodC l) {day rides per : Int} {op : Bool} (hd : 60 ≤ day ∧ day ≤ 99) (hr : 3000 ≤ rides ∧ rides ≤ 3599) (hp : 0 ≤ per ∧ per ≤ 110) (ho : rIsOpen l day rides = op) : InspFacts l day rides per op := by
  have a0 := h.ask (d := day) (r := rides) (p := 0) (by omega) (by omega) (by omega)
  have ap := h.ask (d := day) (r := rides) (p := per) (by omega) (by omega) (by omega)
  have hall : allTo (fun k => !overB (CheckR.at_ l k) day rides) l.length = op := by rw [← isOpen_of a0]; exact ho
  have hz : (overTo l day rides l.length).length = 0 ↔ op = true := by
    rw [overTo_zero, ← hall, allTo_true]
    constructor
    · intro hc k hk; rw [hc k hk]; rfl
    · intro hc k hk; simpa using hc k hk
  have hu : untilTo l day rides per l.length < 0 ↔ op = false := by
    cases op with
    | true =>
      refine ⟨fun hc => ?_, fun hc => by cases hc⟩
      rcases until_is l day rides per l.length with he | ⟨j, hj, he⟩
      · omega
      · have h1 := (overTo_zero l day rides l.length).1 (hz.2 rfl) j hj
        have := (days_pos (p := per) hp.1 h1).1
        omega
    | false =>
      refine ⟨fun _ => rfl, fun _ => ?_⟩
      cases hc : allTo (fun k => !overB (CheckR.at_ l k) day rides) l.length with
      | true => rw [hc] at hall; cases hall
      | false =>
        apply Classical.byContradiction
        intro hcon
        have : allTo (fun k => !overB (CheckR.at_ l k) day rides) l.length = true := allTo_true.2 (fun k hk => by
          cases hov : overB (CheckR.at_ l k) day rides with
          | false => rfl
          | true =>
            have h1 := (until_le l day rides per l.length).2 k hk
            rw [days_neg hov] at h1
            omega)
        rw [this] at hc
        cases hc
  refine ⟨by unfold rOverdueChecks; rw [if_pos a0], hz, ?_, ?_, by unfold rFirstDue; rw [if_pos ap], ?_⟩
  · unfold rRidesLeft
    rw [if_pos a0, hall]
  · unfold rOpenUntil
    rw [if_pos ap]
    cases op with
    | true => rw [if_neg (fun hc => by cases hu.1 hc), if_pos rfl]
    | false => rw [if_pos (hu.2 rfl)]; first | done | rfl
  · unfold rChecksIn
    rw [if_pos ap]
    rfl
/-! ### one inspection -/
theorem dueIn_of {x : CheckR} {d r : Int} (h : checkB x = true) (hd : 0 ≤ d ∧ d ≤ 100000) (hr : 0 ≤ r ∧ r ≤ 1000000) (h1 : x.LastDay ≤ d) (h2 : x.LastRide ≤ r) : rDueIn x d r = (dueA x d, dueB x r, 0) := by
  unfold rDueIn
  rw [if_pos]
  refine ask_of ?_ hd hr (by omega) (fun k hk => ?_)
  · have e : checkBAt [x] 0 = true := by
      unfold checkBAt
      rw [show CheckR.at_ [x] 0 = x from rfl, h]
      rfl
    unfold checkBAll
    rw [Bool.and_eq_true]
    refine ⟨allTo_true.2 (fun k hk => ?_), decide_eq_true (by simp)⟩
    have : k = 0 := by simp at hk; omega
    subst this
    exact e
  · have : k = 0 := by simp at hk; omega
    subst this
    exact ⟨h1, h2⟩
theorem eqP_self (l : List CheckR) (i : Nat) : eqP l (CheckR.at_ l i).Id i = true := by unfold eqP; exact beq_self_eq_true _
theorem eqP_only {l : List CheckR} (h : checkBAll l = true) {i j : Nat} (hi : i < l.length) (hj : j < l.length) (hne : j ≠ i) : eqP l (CheckR.at_ l i).Id j = false := by
  rcases Nat.lt_or_gt_of_ne hne with hlt | hgt
  · cases hc : eqP l (CheckR.at_ l i).Id j with
    | false => rfl
    | true =>
      have := one_only h hlt hi hc
      rw [eqP_self] at this
      cases this
  · exact one_only h hgt hj (eqP_self l i)
theorem over_any {l : List CheckR} (h : checkBAll l = true) {d r : Int} {i : Nat} (hi : i < l.length) : ∀ k, k ≤ l.length → (overTo l d r k).any (fun s => s.toList == (CheckR.at_ l i).Id.toList) = (decide (i < k) && overB (CheckR.at_ l i) d r) := by
  intro k
  induction k with
  | zero => intro _; simp [overTo]
  | succ k ih =>
    intro hk
    have ih := ih (by omega)
    rw [overTo_succ, List.any_append, ih]
    by_cases e : k = i
    · subst e
      rw [decide_eq_false (show ¬ k < k by omega), decide_eq_true (show k < k + 1 by omega)]
      cases hov : overB (CheckR.at_ l k) d r <;> simp
    · have he := eqP_only h hi (show k < l.length by omega) e
      unfold eqP at he
      have h0 : (if overB (CheckR.at_ l k) d r then [(CheckR.at_ l k).Id] else []).any (fun s => s.toList == (CheckR.at_ l i).Id.toList) = false := by
        cases hov : overB (CheckR.at_ l k) d r
        · rfl
        · simp only [if_true, List.any_cons, List.any_nil, he, Bool.or_self]
      rw [h0, Bool.or_false]
      by_cases hik : i < k
      · rw [decide_eq_true hik, decide_eq_true (show i < k + 1 by omega)]
      · rw [decide_eq_false hik, decide_eq_false (show ¬ i < k + 1 by omega)]
theorem sim_mono {x : CheckR} {day rides per : Int} : ∀ k m, (simT x day rides per k).2 ≤ (simT x day rides per (k + m)).2 := by
  intro k m
  induction m with
  | zero => exact Int.le_refl _
  | succ m ih =>
    rw [show k + (m + 1) = (k + m) + 1 by omega, simT_succ]
    unfold stepD
    split
    · simp only; omega
    · exact ih
theorem sim_one {x : CheckR} {day rides per : Int} (hp : 0 ≤ per) (h : overB x day rides = true) : 1 ≤ (simT x day rides per 50).2 := by
  have h1 := sim_mono (x := x) (day := day) (rides := rides) (per := per) 1 49
  have h2 : (simT x day rides per 1).2 = 1 := by
    rw [simT_succ]
    unfold stepD
    rw [if_pos]
    · rfl
    · rw [over_iff] at h ⊢
      show dueA x _ < 0 ∨ dueB x _ < 0
      unfold dueA dueB at h ⊢
      have : ((0 : Nat) : Int) = 0 := rfl
      rw [this]
      rw [show (0 + 1 : Int) * per = per by omega]
      omega
  rw [show 1 + 49 = 50 from rfl] at h1
  omega
theorem counts_nth (l : List CheckR) (day rides per : Int) {n i : Nat} (hi : i < n) : nth (countsTo l day rides per 50 n) i = (simT (CheckR.at_ l i) day rides per 50).2 := by
  unfold nth countsTo
  rw [List.getD_eq_getElem?_getD, List.getElem?_map, List.getElem?_range hi]
  rfl
theorem at_set_self {l : List CheckR} {i : Nat} (hi : i < l.length) (y : CheckR) : CheckR.at_ (l.set i y) i = y := by
  show (l.set i y).getD i _ = y
  rw [List.getD_eq_getElem?_getD, List.getElem?_set_self hi]; rfl
theorem at_set_ne {l : List CheckR} {i j : Nat} (hij : i ≠ j) (y : CheckR) : CheckR.at_ (l.set i y) j = CheckR.at_ l j := by
  show (l.set i y).getD j _ = l.getD j _
  rw [List.getD_eq_getElem?_getD, List.getElem?_set_ne hij, List.getD_eq_getElem?_getD]
theorem doCheck_of {l : List CheckR} (h : checkBAll l = true) {d r : Int} {i : Nat} (hi : i < l.length) (ha : askI l d r 0 = 0) : rDoCheck l (CheckR.at_ l i).Id d r = (l.set i (doneC (CheckR.at_ l i) d r), 0) := by
  unfold rDoCheck
  rw [if_pos ha, if_neg]
  · rw [show l.length = i + 1 + (l.length - (i + 1)) by omega, doTo_one h hi (eqP_self l i) (fun j hj => eqP_only h hi (by omega) (by omega)) _ (by omega)]
  · intro hc
    have := allTo_true.1 hc i hi
    rw [eqP_self] at this
    cases this
theorem set_all {l : List CheckR} (h : checkBAll l = true) {i : Nat} (hi : i < l.length) {d r : Int} (hd : 0 ≤ d ∧ d ≤ 100000) (hr : 0 ≤ r ∧ r ≤ 1000000) : checkBAll (l.set i (doneC (CheckR.at_ l i) d r)) = true := by
  unfold checkBAll at h ⊢
  rw [Bool.and_eq_true] at h ⊢
  rw [List.length_set]
  refine ⟨allTo_true.2 (fun k hk => ?_), h.2⟩
  have hk0 := allTo_true.1 h.1 k hk
  have hid : ∀ j, (CheckR.at_ (l.set i (doneC (CheckR.at_ l i) d r)) j).Id = (CheckR.at_ l j).Id := by
    intro j
    by_cases e : i = j
    · subst e; rw [at_set_self hi]; rfl
    · rw [at_set_ne e]
  unfold checkBAt at hk0 ⊢
  rw [hid, hid]
  rw [Bool.and_eq_true] at hk0 ⊢
  refine ⟨?_, hk0.2⟩
  by_cases e : i = k
  · subst e
    rw [at_set_self hi]
    have h1 := hk0.1
    simp only [checkB, Bool.and_eq_true, inB_true, doneC] at h1 ⊢
    obtain ⟨h0, h2⟩ := h1
    refine ⟨h0, ?_⟩
    omega
  · rw [at_set_ne e]; exact hk0.1
theorem over_set {l : List CheckR} {i : Nat} (hi : i < l.length) {d r : Int} (hy : overB (doneC (CheckR.at_ l i) d r) d r = false) : ∀ k, ((overTo (l.set i (doneC (CheckR.at_ l i) d r)) d r k).length : Int) = ((overTo l d r k).length : Int) - (if decide (i < k) && overB (CheckR.at_ l i) d r then 1 else 0) := by
  intro k
  induction k with
  | zero => simp [overTo]
  | succ k ih =>
    rw [overTo_succ, overTo_succ, List.length_append, List.length_append]
    by_cases e : i = k
    · subst e
      rw [at_set_self hi, hy, decide_eq_true (show i < i + 1 by omega)]
      rw [decide_eq_false (show ¬ i < i by omega)] at ih
      cases hov : overB (CheckR.at_ l i) d r
      · simp at ih ⊢; omega
      · simp at ih ⊢; omega
    · rw [at_set_ne e]
      by_cases hik : i < k
      · rw [decide_eq_true (show i < k + 1 by omega)]
        rw [decide_eq_true hik] at ih
        omega
      · rw [decide_eq_false (show ¬ i < k + 1 by omega)]
        rw [decide_eq_false hik] at ih
        omega
/-- What the law looks at, of inspection i. -/
structure OneFacts (l : List CheckR) (day rides per : Int) (i : Nat) (x : CheckR) (ov : Bool) (nl : List CheckR) : Prop where
  bd : BoundC x
  chk : checkB x = true
  due : rDueIn x day rides = (dueA x day, dueB x rides, 0)
  ovr : ov = (decide (dueA x day < 0) || decide (dueB x rides < 0))
  any : (overTo l day rides l.length).any (fun s => s.toList == x.Id.toList) = ov
  cnt : 0 ≤ nth (countsTo l day rides per 50 l.length) i ∧ nth (countsTo l day rides per 50 l.length) i ≤ 50 ∧ (ov = true → 1 ≤ nth (countsTo l day rides per 50 l.length) i)
  doc : rDoCheck l x.Id day rides = (nl, 0)
  len : nl.length = l.length
  now : CheckR.at_ nl i = doneC x day rides
  sz : ∀ y ∈ nl, y.Id.size ≤ 1048576
  still : (rOverdueChecks nl day rides).2 = 0 ∧ (((rOverdueChecks nl day rides).1.length : Nat) : Int) = ((overTo l day rides l.length).length : Int) - (if ov then 1 else 0)
theorem mem_at {l : List CheckR} {y : CheckR} (h : y ∈ l) : ∃ k, k < l.length ∧ CheckR.at_ l k = y := by
  obtain ⟨k, hk, he⟩ := List.mem_iff_getElem.1 h
  refine ⟨k, hk, ?_⟩
  show l.getD k _ = y
  rw [List.getD_eq_getElem?_getD, List.getElem?_eq_getElem hk]
  exact he
theorem sz_of {l : List CheckR} (h : checkBAll l = true) : ∀ y ∈ l, y.Id.size ≤ 1048576 := by
  intro y hy
  obtain ⟨k, hk, rfl⟩ := mem_at hy
  have h1 := (checks_at h).1 k hk
  have h2 := (nameB_len (checkB_true h1).1).2
  omega
theorem GoodC.one {l : List CheckR} (h : GoodC l) {day rides per : Int} (hd : 60 ≤ day ∧ day ≤ 99) (hr : 3000 ≤ rides ∧ rides ≤ 3599) (hp : 0 ≤ per ∧ per ≤ 110) {i : Nat} (hi : i < l.length) :
    ∃ nl, OneFacts l day rides per i (CheckR.at_ l i) (overB (CheckR.at_ l i) day rides) nl := by
  have hb := h.bd i hi
  have hc := h.check hi
  have hb2 := hb
  unfold BoundC at hb2
  have a0 := h.ask (d := day) (r := rides) (p := 0) (by omega) (by omega) (by omega)
  have hall := set_all h.all hi (d := day) (r := rides) (by omega) (by omega)
  have hy : overB (doneC (CheckR.at_ l i) day rides) day rides = false := by
    cases hov : overB (doneC (CheckR.at_ l i) day rides) day rides with
    | false => rfl
    | true =>
      have := over_iff.1 hov
      unfold dueA dueB doneC at this
      simp only at this
      omega
  have ha2 : askI (l.set i (doneC (CheckR.at_ l i) day rides)) day rides 0 = 0 := ask_of hall (by omega) (by omega) (by omega) (fun k hk => by
    rw [List.length_set] at hk
    by_cases e : i = k
    · subst e; rw [at_set_self hi]; exact ⟨Int.le_refl _, Int.le_refl _⟩
    · rw [at_set_ne e]; have := h.bd k hk; unfold BoundC at this; omega)
  have hsim := sim_bd (x := CheckR.at_ l i) (day := day) (rides := rides) (per := per) (fitC_of hc) (by omega) (by omega) (by omega) 50 (by omega)
  refine ⟨l.set i (doneC (CheckR.at_ l i) day rides), hb, hc, dueIn_of hc (by omega) (by omega) (by omega) (by omega), rfl, ?_, ?_, doCheck_of h.all hi a0, by simp, at_set_self hi _, sz_of hall, ?_⟩
  · rw [over_any h.all hi l.length (Nat.le_refl _), decide_eq_true hi, Bool.true_and]
  · rw [counts_nth l day rides per hi]
    exact ⟨hsim.2.1, by have := hsim.2.2; omega, fun ho => sim_one hp.1 ho⟩
  · have e : rOverdueChecks (l.set i (doneC (CheckR.at_ l i) day rides)) day rides = (overTo (l.set i (doneC (CheckR.at_ l i) day rides)) day rides l.length, 0) := by
      unfold rOverdueChecks
      rw [if_pos ha2, List.length_set]
    rw [e]
    refine ⟨rfl, ?_⟩
    have := over_set hi hy l.length
    rw [decide_eq_true hi, Bool.true_and] at this
    exact this
theorem text_size {r : CheckR} (h : checkB r = true) : (rCheckText r).size ≤ 1048576 := by
  obtain ⟨hid, a, b, c, d, h1, h2, h3, h4, ha, hb, hc, hd⟩ := checkB_parts h
  have hok : okL [r.EveryDays, r.EveryRides, r.LastDay, r.LastRide] = true := okL_true.2 ⟨by simp, by
    intro z hz
    simp only [List.mem_cons, List.not_mem_nil, or_false] at hz
    rcases hz with rfl | rfl | rfl | rfl <;> omega⟩
  have e1 := bytes_len (rCheckText r)
  have e2 := bytes_len r.Id
  have e3 := itoas_len hok
  rw [text_data h, List.length_append, List.length_cons] at e1
  omega
/-! ### the last lines -/
structure OpenFacts (l : List CheckR) (day rides per lft u : Int) : Prop where
  bd : 0 ≤ lft ∧ lft ≤ 1000000 - rides ∧ 0 ≤ u ∧ u ≤ 100000 - day
  i1 : rIsOpen l day (rides + lft) = true
  i2 : 0 < l.length → rIsOpen l day (rides + lft + 1) = false
  i3 : 0 < l.length → u ≤ 400 ∧ rIsOpen l (day + u) (rides + u * per) = true ∧ rIsOpen l (day + u + 1) (rides + (u + 1) * per) = false
theorem GoodC.opened {l : List CheckR} (h : GoodC l) {day rides per : Int} (hd : 60 ≤ day ∧ day ≤ 99) (hr : 3000 ≤ rides ∧ rides ≤ 3599) (hp : 0 ≤ per ∧ per ≤ 110) (ho : rIsOpen l day rides = true) : OpenFacts l day rides per (leftTo l rides l.length) (untilTo l day rides per l.length) := by
  have a0 := h.ask (d := day) (r := rides) (p := 0) (by omega) (by omega) (by omega)
  have hop := (isOpen_true a0).1 ho
  have hno : ∀ k, k < l.length → overB (CheckR.at_ l k) day rides = false := fun k hk => by
    cases hov : overB (CheckR.at_ l k) day rides with
    | false => rfl
    | true => have := over_iff.1 hov; have := hop k hk; omega
  have l1 := left_le l rides l.length
  have l2 := left_is l rides l.length
  have u1 := until_le l day rides per l.length
  have u2 := until_is l day rides per l.length
  have hl0 : 0 ≤ leftTo l rides l.length := by
    rcases l2 with e | ⟨j, hj, e⟩
    · omega
    · have := hop j hj; omega
  have hu0 : 0 ≤ untilTo l day rides per l.length := by
    rcases u2 with e | ⟨j, hj, e⟩
    · omega
    · have := (days_pos (p := per) hp.1 (hno j hj)).1; omega
  generalize leftTo l rides l.length = lf at *
  generalize untilTo l day rides per l.length = u at *
  refine ⟨⟨hl0, l1.1, hu0, u1.1⟩, ?_, fun hn => ?_, fun hn => ?_⟩
  · rw [isOpen_true (h.ask (by omega) (by omega) (by omega))]
    intro k hk
    have h1 := hop k hk
    have h2 := l1.2 k hk
    unfold dueB at h1 h2 ⊢
    exact ⟨h1.1, by omega⟩
  · have hex : ∃ j, j < l.length ∧ lf = dueB (CheckR.at_ l j) rides := by
      rcases l2 with e | h2
      · have h1 := l1.2 0 hn
        have hb := h.bd 0 hn
        unfold BoundC at hb
        unfold dueB at h1
        omega
      · exact h2
    obtain ⟨j, hj, e⟩ := hex
    refine isOpen_shut hj (.inr ?_)
    unfold dueB at e ⊢
    omega
  · have hb := h.bd 0 hn
    unfold BoundC at hb
    have hu4 : u ≤ 400 := by
      have h1 := u1.2 0 hn
      have h2 := (days_pos (p := per) hp.1 (hno 0 hn)).2.1
      unfold dueA at h2
      omega
    have hup : 0 ≤ u * per ∧ u * per ≤ 400 * 110 := ⟨Int.mul_nonneg hu0 hp.1, Int.mul_le_mul hu4 hp.2 hp.1 (by omega)⟩
    refine ⟨hu4, ?_, ?_⟩
    · rw [isOpen_true (h.ask (by omega) (by omega) (by omega))]
      intro k hk
      have h1 := u1.2 k hk
      obtain ⟨p1, p2, p3, _⟩ := days_pos (p := per) hp.1 (hno k hk)
      have h3 := Int.mul_le_mul_of_nonneg_right h1 hp.1
      generalize daysI (CheckR.at_ l k) day rides per = dk at *
      unfold dueA at p2 ⊢
      unfold dueB at p3 ⊢
      omega
    · have hex : ∃ j, j < l.length ∧ u = daysI (CheckR.at_ l j) day rides per := by
        rcases u2 with e | h2
        · omega
        · exact h2
      obtain ⟨j, hj, e⟩ := hex
      obtain ⟨_, _, _, p4⟩ := days_pos (p := per) hp.1 (hno j hj)
      rw [← e] at p4
      refine isOpen_shut hj ?_
      unfold dueA dueB at p4 ⊢
      rcases p4 with p4 | p4
      · left; omega
      · right; omega
/-- What the last lines look at, of the inspection that is due first. -/
theorem GoodC.last {l : List CheckR} (h : GoodC l) {day rides per : Int} {op : Bool} (hd : 60 ≤ day ∧ day ≤ 99) (hr : 3000 ≤ rides ∧ rides ≤ 3599) (hp : 0 ≤ per ∧ per ≤ 110) (ho : rIsOpen l day rides = op) (hn : 0 < l.length) :
    firstI l day rides per l.length < l.length ∧ (op = false → ∃ a b : Int, rDueIn (CheckR.at_ l (firstI l day rides per l.length)) day rides = (a, b, 0) ∧ (a < 0 ∨ b < 0)) ∧
      (op = true → ∃ a b : Int, rDueIn (CheckR.at_ l (firstI l day rides per l.length)) (day + untilTo l day rides per l.length + 1) (rides + (untilTo l day rides per l.length + 1) * per) = (a, b, 0) ∧ (a < 0 ∨ b < 0)) := by
  have a0 := h.ask (d := day) (r := rides) (p := 0) (by omega) (by omega) (by omega)
  obtain ⟨f1, f2⟩ := first_le l day rides per l.length
  have f1 := f1 hn
  generalize hfx : firstI l day rides per l.length = f at *
  have hb := h.bd f f1
  have hc := h.check f1
  unfold BoundC at hb
  refine ⟨f1, fun h0 => ?_, fun h0 => ?_⟩
  · subst h0
    have hex : ∃ k, k < l.length ∧ overB (CheckR.at_ l k) day rides = true := by
      apply Classical.byContradiction
      intro hcon
      have : rIsOpen l day rides = true := by
        rw [isOpen_of a0]
        exact allTo_true.2 (fun k hk => by
          cases hov : overB (CheckR.at_ l k) day rides with
          | false => rfl
          | true => exact absurd ⟨k, hk, hov⟩ hcon)
      rw [this] at ho
      cases ho
    obtain ⟨k, hk, hov⟩ := hex
    have h1 := f2 k hk
    rw [days_neg hov] at h1
    refine ⟨_, _, dueIn_of hc (by omega) (by omega) (by omega) (by omega), ?_⟩
    cases hof : overB (CheckR.at_ l f) day rides with
    | true => exact over_iff.1 hof
    | false => have := (days_pos (p := per) hp.1 hof).1; omega
  · subst h0
    have O := h.opened hd hr hp ho
    obtain ⟨i1, i2, i3⟩ := O.i3 hn
    have hu0 := O.bd.2.2.1
    have hup : 0 ≤ (untilTo l day rides per l.length + 1) * per ∧ (untilTo l day rides per l.length + 1) * per ≤ 401 * 110 := ⟨Int.mul_nonneg (by omega) hp.1, Int.mul_le_mul (by omega) hp.2 hp.1 (by omega)⟩
    have hof : overB (CheckR.at_ l f) day rides = false := by
      cases hov : overB (CheckR.at_ l f) day rides with
      | false => rfl
      | true =>
        have := (isOpen_true a0).1 ho f f1
        have := over_iff.1 hov
        omega
    obtain ⟨_, _, _, p4⟩ := days_pos (p := per) hp.1 hof
    have he : daysI (CheckR.at_ l f) day rides per = untilTo l day rides per l.length := by
      have h1 := (until_le l day rides per l.length).2 f f1
      rcases until_is l day rides per l.length with e | ⟨j, hj, e⟩
      · omega
      · have h2 := f2 j hj
        omega
    rw [he] at p4
    generalize untilTo l day rides per l.length = u at *
    refine ⟨_, _, dueIn_of hc (by omega) (by omega) (by omega) (by omega), ?_⟩
    unfold dueA dueB at p4 ⊢
    rcases p4 with p4 | p4
    · left; omega
    · right; omega
end Go.Proofs.YtickepianllblaaGreatDoor
