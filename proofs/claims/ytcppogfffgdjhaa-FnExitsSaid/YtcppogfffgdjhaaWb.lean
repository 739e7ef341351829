/- Evacuation: shortest times: rounds over all ways, as often as there are places, reach what no more rounds turn. Plain: no program in sight. -/
import Derived.Test.YtcppogfffgdjhaaWt
namespace Go.Proofs.Ytcppogfffgdjhaa
set_option maxRecDepth 100000
set_option linter.unusedVariables false
set_option linter.unusedSimpArgs false
set_option linter.unusedSectionVars false

/-! ### sums over a list with one number set -/
theorem sum_set {f : Int → Nat} : ∀ (ts : List Int) (i : Nat) (x : Int), i < ts.length → ((ts.set i x).map f).sum + f (nth ts i) = (ts.map f).sum + f x := by
  intro ts
  induction ts with
  | nil => intro i x h; simp at h
  | cons t ts ih =>
    intro i x h
    cases i with
    | zero => simp [nth]; omega
    | succ i =>
      have := ih i x (by simpa using h)
      simp only [List.set_cons_succ, List.map_cons, List.sum_cons]
      have e : nth (t :: ts) (i + 1) = nth ts i := by simp [nth]
      rw [e]; omega
theorem sum_le {f g : Int → Nat} : ∀ (ts : List Int), (∀ t ∈ ts, f t ≤ g t) → (ts.map f).sum ≤ (ts.map g).sum := by
  intro ts
  induction ts with
  | nil => intro _; simp
  | cons t ts ih =>
    intro h
    have h1 := ih (fun u hu => h u (List.mem_cons_of_mem _ hu))
    have h2 := h t (List.mem_cons_self)
    simp only [List.map_cons, List.sum_cons]; omega
theorem sum_lt {f g : Int → Nat} : ∀ (ts : List Int), (∀ t ∈ ts, f t ≤ g t) → (∃ t ∈ ts, f t < g t) → (ts.map f).sum < (ts.map g).sum := by
  intro ts
  induction ts with
  | nil => intro _ h; obtain ⟨t, h, _⟩ := h; cases h
  | cons t ts ih =>
    intro h hs
    have h1 := sum_le (f := f) (g := g) ts (fun u hu => h u (List.mem_cons_of_mem _ hu))
    have h2 := h t (List.mem_cons_self)
    simp only [List.map_cons, List.sum_cons]
    obtain ⟨u, hu, hlt⟩ := hs
    rcases List.mem_cons.1 hu with rfl | hu
    · omega
    · have := ih (fun u hu => h u (List.mem_cons_of_mem _ hu)) ⟨u, hu, hlt⟩
      omega
theorem sum_one_le (f : Int → Nat) (h : ∀ t, f t ≤ 1) (ts : List Int) : (ts.map f).sum ≤ ts.length := by
  induction ts with
  | nil => simp
  | cons t ts ih => have := h t; simp only [List.map_cons, List.sum_cons, List.length_cons]; omega
theorem nth_set {ts : List Int} {i : Nat} {x : Int} (h : i < ts.length) (v : Nat) : nth (ts.set i x) v = if v = i then x else nth ts v := by
  unfold nth
  by_cases e : v = i
  · subst e; simp [List.getD, List.getElem?_set, h]
  · have : ¬ i = v := fun he => e he.symm
    simp [List.getD, List.getElem?_set, e, this]
theorem nth_ext {ts us : List Int} (hl : ts.length = us.length) (h : ∀ v, v < ts.length → nth ts v = nth us v) : ts = us := by
  apply List.ext_getElem hl
  intro i h1 h2
  have := h i h1
  rwa [nth_eq h1, nth_eq h2] at this

/-! ### one way, one round, some rounds -/
def relax (lad : Bool) (ts : List Int) (x : WalkR) : List Int :=
  if (x.Ladder && !lad) || decide (nth ts x.To.toNat < 0) then ts
  else if decide (nth ts x.From.toNat < 0) || decide (nth ts x.To.toNat + x.Seconds < nth ts x.From.toNat) then ts.set x.From.toNat (nth ts x.To.toNat + x.Seconds) else ts
def passTo (l : List WalkR) (lad : Bool) (ts : List Int) : Nat → List Int
  | 0 => ts
  | k + 1 => relax lad (passTo l lad ts k) (WalkR.at_ l k)
theorem passTo_succ (l : List WalkR) (lad : Bool) (ts : List Int) (k : Nat) : passTo l lad ts (k + 1) = relax lad (passTo l lad ts k) (WalkR.at_ l k) := rfl
def timesIt (l : List WalkR) (lad : Bool) (ts : List Int) : Nat → List Int
  | 0 => ts
  | r + 1 => passTo l lad (timesIt l lad ts r) l.length
theorem timesIt_succ (l : List WalkR) (lad : Bool) (ts : List Int) (r : Nat) : timesIt l lad ts (r + 1) = passTo l lad (timesIt l lad ts r) l.length := rfl
def initT (p : Nat) (goals : List Int) : List Int := (List.range p).map fun v : Nat => if goals.any (fun z => (v : Int) == z) then 0 else -1
def timesR (p : Int) (l : List WalkR) (goals : List Int) (lad : Bool) : List Int := timesIt l lad (initT p.toNat goals) p.toNat

/-- The ways lead from places to places. -/
def OkW (p : Nat) (l : List WalkR) : Prop := ∀ k, k < l.length → (0 ≤ (WalkR.at_ l k).From ∧ (WalkR.at_ l k).From < p) ∧ (0 ≤ (WalkR.at_ l k).To ∧ (WalkR.at_ l k).To < p) ∧ (WalkR.at_ l k).From ≠ (WalkR.at_ l k).To ∧ 1 ≤ (WalkR.at_ l k).Seconds ∧ (WalkR.at_ l k).Seconds ≤ 3600
def OkX (p : Nat) (x : WalkR) : Prop := (0 ≤ x.From ∧ x.From < p) ∧ (0 ≤ x.To ∧ x.To < p) ∧ x.From ≠ x.To ∧ 1 ≤ x.Seconds ∧ x.Seconds ≤ 3600
theorem okW_of {p : Int} {l : List WalkR} (h : walksB p l = true) : OkW p.toNat l ∧ (1 ≤ p ∧ p ≤ 16) := by
  have hw := walksB_true h
  refine ⟨fun k hk => ?_, hw.2.1⟩
  have := walkB_true hw.2.1 (hw.1 k hk)
  have e : ((p.toNat : Nat) : Int) = p := by omega
  rw [e]
  exact this
def fin1 (t : Int) : Nat := if t < 0 then 0 else 1
def cost1 (t : Int) : Nat := if t < 0 then 1000000 else t.toNat
def cntT (ts : List Int) : Nat := (ts.map fin1).sum
def costT (ts : List Int) : Nat := (ts.map cost1).sum
theorem cntT_le (ts : List Int) : cntT ts ≤ ts.length := sum_one_le fin1 (fun t => by unfold fin1; split <;> omega) ts
/-- What holds of the times at any time. -/
structure GoodT (p : Nat) (ts : List Int) : Prop where
  len : ts.length = p
  low : ∀ v, v < p → -1 ≤ nth ts v
  high : ∀ v, v < p → nth ts v ≤ 3600 * cntT ts
theorem GoodT.top {p : Nat} {ts : List Int} (h : GoodT p ts) (hp : p ≤ 16) (v : Nat) (hv : v < p) : -1 ≤ nth ts v ∧ nth ts v ≤ 57600 := by
  have h1 := h.low v hv
  have h2 := h.high v hv
  have h3 := cntT_le ts
  have h4 := h.len
  omega

theorem relax_cases (lad : Bool) (ts : List Int) (x : WalkR) : relax lad ts x = ts ∨
    ((x.Ladder && !lad) = false ∧ 0 ≤ nth ts x.To.toNat ∧ (nth ts x.From.toNat < 0 ∨ nth ts x.To.toNat + x.Seconds < nth ts x.From.toNat) ∧ relax lad ts x = ts.set x.From.toNat (nth ts x.To.toNat + x.Seconds)) := by
  unfold relax
  split
  · exact .inl rfl
  · rename_i h
    split
    · rename_i h2
      simp only [Bool.or_eq_true, decide_eq_true_eq, not_or, Bool.not_eq_true] at h h2
      exact .inr ⟨h.1, by omega, h2, rfl⟩
    · exact .inl rfl
theorem relax_good {p : Nat} {lad : Bool} {ts : List Int} {x : WalkR} (h : GoodT p ts) (hp : p ≤ 16) (hx : OkX p x) : GoodT p (relax lad ts x) ∧ (relax lad ts x = ts ∨ costT (relax lad ts x) < costT ts) ∧
    (∀ v, v < p → nth ts v < 0 ∨ (0 ≤ nth (relax lad ts x) v ∧ nth (relax lad ts x) v ≤ nth ts v)) := by
  obtain ⟨hf, ht, hne, hs1, hs2⟩ := hx
  rcases relax_cases lad ts x with e | ⟨_, h0, hc, e⟩
  · rw [e]
    exact ⟨h, .inl rfl, fun v hv => by omega⟩
  · rw [e]
    have hl := h.len
    have hi : x.From.toNat < ts.length := by omega
    have hcn := sum_set (f := fin1) ts x.From.toNat (nth ts x.To.toNat + x.Seconds) hi
    have hco := sum_set (f := cost1) ts x.From.toNat (nth ts x.To.toNat + x.Seconds) hi
    have ht2 := h.high x.To.toNat (by omega)
    have htop := h.top hp x.To.toNat (by omega)
    have e1 : fin1 (nth ts x.To.toNat + x.Seconds) = 1 := by unfold fin1; rw [if_neg (by omega)]
    have e2 : cost1 (nth ts x.To.toNat + x.Seconds) = (nth ts x.To.toNat + x.Seconds).toNat := by unfold cost1; rw [if_neg (by omega)]
    change cntT (ts.set _ _) + _ = cntT ts + _ at hcn
    change costT (ts.set _ _) + _ = costT ts + _ at hco
    rw [e1] at hcn
    rw [e2] at hco
    refine ⟨⟨by simp [hl], fun v hv => ?_, fun v hv => ?_⟩, .inr ?_, fun v hv => ?_⟩
    · rw [nth_set hi]; have := h.low v hv; split <;> omega
    · rw [nth_set hi]
      have hv2 := h.high v hv
      rcases hc with hc | hc
      · have e3 : fin1 (nth ts x.From.toNat) = 0 := by unfold fin1; rw [if_pos hc]
        rw [e3] at hcn
        split <;> omega
      · have e3 : fin1 (nth ts x.From.toNat) = 1 := by unfold fin1; rw [if_neg (by omega)]
        rw [e3] at hcn
        have hf2 := h.high x.From.toNat (by omega)
        split <;> omega
    · rcases hc with hc | hc
      · have e3 : cost1 (nth ts x.From.toNat) = 1000000 := by unfold cost1; rw [if_pos hc]
        rw [e3] at hco
        omega
      · have e3 : cost1 (nth ts x.From.toNat) = (nth ts x.From.toNat).toNat := by unfold cost1; rw [if_neg (by omega)]
        rw [e3] at hco
        omega
    · rw [nth_set hi]
      split
      · rename_i e; subst e; omega
      · omega
theorem passTo_good {p : Nat} {l : List WalkR} {lad : Bool} {ts : List Int} (h : GoodT p ts) (hp : p ≤ 16) (hl : OkW p l) : ∀ k, k ≤ l.length → GoodT p (passTo l lad ts k) ∧ (passTo l lad ts k = ts ∨ costT (passTo l lad ts k) < costT ts) ∧
    (∀ v, v < p → nth ts v < 0 ∨ (0 ≤ nth (passTo l lad ts k) v ∧ nth (passTo l lad ts k) v ≤ nth ts v)) := by
  intro k
  induction k with
  | zero => intro _; exact ⟨h, .inl rfl, fun v hv => by show _ ∨ (0 ≤ nth ts v ∧ nth ts v ≤ _); omega⟩
  | succ k ih =>
    intro hk
    obtain ⟨g, c, m⟩ := ih (by omega)
    obtain ⟨g2, c2, m2⟩ := relax_good (lad := lad) g hp (hl k (by omega))
    rw [passTo_succ]
    refine ⟨g2, ?_, fun v hv => ?_⟩
    · rcases c2 with e | c2
      · rw [e]; exact c
      · rcases c with e | c
        · rw [e] at c2 ⊢; exact .inr c2
        · exact .inr (by omega)
    · have a := m v hv
      have b := m2 v hv
      omega

/-- F is as low as the ways allow. -/
def ClosedT (l : List WalkR) (lad : Bool) (F : List Int) : Prop := ∀ k, k < l.length → ((WalkR.at_ l k).Ladder && !lad) = false → 0 ≤ nth F (WalkR.at_ l k).To.toNat →
  0 ≤ nth F (WalkR.at_ l k).From.toNat ∧ nth F (WalkR.at_ l k).From.toNat ≤ nth F (WalkR.at_ l k).To.toNat + (WalkR.at_ l k).Seconds
/-- Each time that is reached comes out of the first times, or out of a way. -/
def BornT (p : Nat) (l : List WalkR) (lad : Bool) (t0 ts : List Int) : Prop := ∀ v, v < p → nth ts v < 0 ∨ (0 ≤ nth t0 v ∧ nth ts v = nth t0 v) ∨
  ∃ k, k < l.length ∧ ((WalkR.at_ l k).Ladder && !lad) = false ∧ (WalkR.at_ l k).From.toNat = v ∧ 0 ≤ nth ts (WalkR.at_ l k).To.toNat ∧ nth ts (WalkR.at_ l k).To.toNat + (WalkR.at_ l k).Seconds ≤ nth ts v
theorem relax_nth {p : Nat} {lad : Bool} {ts : List Int} {x : WalkR} (hl : ts.length = p) (hx : OkX p x) (v : Nat) : nth (relax lad ts x) v = nth ts v ∨
    ((x.Ladder && !lad) = false ∧ 0 ≤ nth ts x.To.toNat ∧ v = x.From.toNat ∧ nth (relax lad ts x) v = nth ts x.To.toNat + x.Seconds) := by
  obtain ⟨hf, ht, hne, hs1, hs2⟩ := hx
  rcases relax_cases lad ts x with e | ⟨h1, h0, hc, e⟩
  · rw [e]; exact .inl rfl
  · rw [e, nth_set (by omega)]
    split
    · exact .inr ⟨h1, h0, by assumption, rfl⟩
    · exact .inl rfl
/-- Behind a way: its first place is reached no later than over it. -/
theorem relax_edge {p : Nat} {lad : Bool} {ts : List Int} {x : WalkR} (hl : ts.length = p) (hx : OkX p x) (hu : (x.Ladder && !lad) = false) (h0 : 0 ≤ nth ts x.To.toNat) :
    0 ≤ nth (relax lad ts x) x.From.toNat ∧ nth (relax lad ts x) x.From.toNat ≤ nth ts x.To.toNat + x.Seconds := by
  obtain ⟨hf, ht, hne, hs1, hs2⟩ := hx
  unfold relax
  rw [hu]
  rw [if_neg (by simp; omega)]
  split
  · rw [nth_set (by omega), if_pos rfl]; omega
  · rename_i h
    simp only [Bool.or_eq_true, decide_eq_true_eq, not_or] at h
    omega
theorem passTo_mono {p : Nat} {l : List WalkR} {lad : Bool} {ts : List Int} (h : GoodT p ts) (hp : p ≤ 16) (hl : OkW p l) (j : Nat) : ∀ d, j + d ≤ l.length → ∀ v, v < p → nth (passTo l lad ts j) v < 0 ∨ (0 ≤ nth (passTo l lad ts (j + d)) v ∧ nth (passTo l lad ts (j + d)) v ≤ nth (passTo l lad ts j) v) := by
  intro d
  induction d with
  | zero => intro _ v hv; rw [Nat.add_zero]; omega
  | succ d ih =>
    intro hd v hv
    have a := ih (by omega) v hv
    have g := (passTo_good (lad := lad) h hp hl (j + d) (by omega)).1
    have b := (relax_good (lad := lad) g hp (hl (j + d) (by omega))).2.2 v hv
    rw [show j + (d + 1) = (j + d) + 1 by omega, passTo_succ]
    omega
/-- Behind a round, each way holds. -/
theorem pass_edge {p : Nat} {l : List WalkR} {lad : Bool} {ts : List Int} (h : GoodT p ts) (hp : p ≤ 16) (hl : OkW p l) {k : Nat} (hk : k < l.length) (hu : ((WalkR.at_ l k).Ladder && !lad) = false) (h0 : 0 ≤ nth ts (WalkR.at_ l k).To.toNat) :
    0 ≤ nth (passTo l lad ts l.length) (WalkR.at_ l k).From.toNat ∧ nth (passTo l lad ts l.length) (WalkR.at_ l k).From.toNat ≤ nth ts (WalkR.at_ l k).To.toNat + (WalkR.at_ l k).Seconds := by
  have hx := hl k hk
  obtain ⟨g, _, m⟩ := passTo_good (lad := lad) h hp hl k (by omega)
  have m1 := m (WalkR.at_ l k).To.toNat (by omega)
  have e1 := relax_edge (lad := lad) g.len hx hu (by omega)
  have m2 := passTo_mono (lad := lad) h hp hl (k + 1) (l.length - (k + 1)) (by omega) (WalkR.at_ l k).From.toNat (by omega)
  rw [show k + 1 + (l.length - (k + 1)) = l.length by omega, passTo_succ] at m2
  omega
theorem pass_born {p : Nat} {l : List WalkR} {lad : Bool} {t0 ts : List Int} (h : GoodT p ts) (hp : p ≤ 16) (hl : OkW p l) (hz : ∀ v, v < p → nth t0 v ≤ 0) (hb : BornT p l lad t0 ts) : ∀ k, k ≤ l.length → BornT p l lad t0 (passTo l lad ts k) := by
  intro k
  induction k with
  | zero => intro _; exact hb
  | succ k ih =>
    intro hk v hv
    have hb := ih (by omega)
    obtain ⟨g, _, _⟩ := passTo_good (lad := lad) h hp hl k (by omega)
    have hx := hl k (by omega)
    rw [passTo_succ]
    have hmono := (relax_good (lad := lad) g hp hx).2.2
    rcases relax_nth (lad := lad) g.len hx v with e | ⟨hu, h0, hv', e⟩
    · rw [e]
      rcases hb v hv with h1 | ⟨h1, h2⟩ | ⟨j, hj, hju, hjf, hj0, hjl⟩
      · exact .inl h1
      · exact .inr (.inl ⟨h1, h2⟩)
      · have hm := hmono (WalkR.at_ l j).To.toNat (by have := hl j hj; omega)
        exact .inr (.inr ⟨j, hj, hju, hjf, by omega, by omega⟩)
    · have ht := relax_nth (lad := lad) g.len hx (WalkR.at_ l k).To.toNat
      have ht' : nth (relax lad (passTo l lad ts k) (WalkR.at_ l k)) (WalkR.at_ l k).To.toNat = nth (passTo l lad ts k) (WalkR.at_ l k).To.toNat := by
        rcases ht with ht | ⟨_, _, ht, _⟩
        · exact ht
        · omega
      refine .inr (.inr ⟨k, by omega, hu, hv'.symm, by rw [ht']; exact h0, by rw [ht', e]; exact Int.le_refl _⟩)
theorem closed_low {p : Nat} {l : List WalkR} {lad : Bool} {F ts : List Int} (h : GoodT p ts) (hp : p ≤ 16) (hl : OkW p l) (hF : ClosedT l lad F) (hle : ∀ v, v < p → nth ts v < 0 ∨ (0 ≤ nth F v ∧ nth F v ≤ nth ts v)) : ∀ k, k ≤ l.length →
    ∀ v, v < p → nth (passTo l lad ts k) v < 0 ∨ (0 ≤ nth F v ∧ nth F v ≤ nth (passTo l lad ts k) v) := by
  intro k
  induction k with
  | zero => intro _; exact hle
  | succ k ih =>
    intro hk v hv
    have hle := ih (by omega)
    obtain ⟨g, _, _⟩ := passTo_good (lad := lad) h hp hl k (by omega)
    have hx := hl k (by omega)
    rw [passTo_succ]
    rcases relax_nth (lad := lad) g.len hx v with e | ⟨hu, h0, hv', e⟩
    · rw [e]; exact hle v hv
    · rw [e]
      have h1 := hle (WalkR.at_ l k).To.toNat (by omega)
      have h2 := hF k (by omega) hu (by omega)
      subst hv'
      omega

section rounds
variable {p : Nat} {l : List WalkR} {lad : Bool} {t0 : List Int} (h0 : GoodT p t0) (hp : p ≤ 16) (hl : OkW p l) (hz : ∀ v, v < p → nth t0 v ≤ 0)
include h0 hp hl
theorem it_good : ∀ r, GoodT p (timesIt l lad t0 r) := by
  intro r
  induction r with
  | zero => exact h0
  | succ r ih => rw [timesIt_succ]; exact (passTo_good ih hp hl l.length (Nat.le_refl _)).1
theorem it_fix {r : Nat} (h : passTo l lad (timesIt l lad t0 r) l.length = timesIt l lad t0 r) : ∀ d, timesIt l lad t0 (r + d) = timesIt l lad t0 r := by
  intro d
  induction d with
  | zero => rfl
  | succ d ih => rw [show r + (d + 1) = (r + d) + 1 by omega, timesIt_succ, ih, h]
/-- Some round turns nothing. -/
theorem it_ends : ∃ r, passTo l lad (timesIt l lad t0 r) l.length = timesIt l lad t0 r := by
  have key : ∀ m r, costT (timesIt l lad t0 r) ≤ m → ∃ r', passTo l lad (timesIt l lad t0 r') l.length = timesIt l lad t0 r' := by
    intro m
    induction m with
    | zero =>
      intro r hr
      rcases (passTo_good (lad := lad) (it_good h0 hp hl (lad := lad) r) hp hl l.length (Nat.le_refl _)).2.1 with e | e
      · exact ⟨r, e⟩
      · omega
    | succ m ih =>
      intro r hr
      rcases (passTo_good (lad := lad) (it_good h0 hp hl (lad := lad) r) hp hl l.length (Nat.le_refl _)).2.1 with e | e
      · exact ⟨r, e⟩
      · exact ih (r + 1) (by rw [timesIt_succ]; omega)
  exact key _ 0 (Nat.le_refl _)
theorem it_low {F : List Int} (hF : ClosedT l lad F) (hle : ∀ v, v < p → nth t0 v < 0 ∨ (0 ≤ nth F v ∧ nth F v ≤ nth t0 v)) : ∀ r v, v < p → nth (timesIt l lad t0 r) v < 0 ∨ (0 ≤ nth F v ∧ nth F v ≤ nth (timesIt l lad t0 r) v) := by
  intro r
  induction r with
  | zero => exact hle
  | succ r ih => rw [timesIt_succ]; exact closed_low (it_good h0 hp hl r) hp hl hF ih l.length (Nat.le_refl _)
theorem it_mono : ∀ r v, v < p → nth t0 v < 0 ∨ (0 ≤ nth (timesIt l lad t0 r) v ∧ nth (timesIt l lad t0 r) v ≤ nth t0 v) := by
  intro r
  induction r with
  | zero => intro v hv; show _ ∨ (0 ≤ nth t0 v ∧ nth t0 v ≤ nth t0 v); omega
  | succ r ih =>
    intro v hv
    have a := ih v hv
    have b := (passTo_good (lad := lad) (it_good h0 hp hl (lad := lad) r) hp hl l.length (Nat.le_refl _)).2.2 v hv
    rw [timesIt_succ]
    omega
include hz
theorem it_born : ∀ r, BornT p l lad t0 (timesIt l lad t0 r) := by
  intro r
  induction r with
  | zero =>
    intro v hv
    show nth t0 v < 0 ∨ (0 ≤ nth t0 v ∧ nth t0 v = nth t0 v) ∨ _
    by_cases h : nth t0 v < 0
    · exact .inl h
    · exact .inr (.inl ⟨by omega, rfl⟩)
  | succ r ih => rw [timesIt_succ]; exact pass_born (it_good h0 hp hl r) hp hl hz ih l.length (Nat.le_refl _)
def lessT (x t : Int) : Nat := if 0 ≤ t ∧ t < x then 1 else 0
/-- As many rounds as there are places are enough. -/
theorem it_done (hp0 : 1 ≤ p) : passTo l lad (timesIt l lad t0 p) l.length = timesIt l lad t0 p := by
  obtain ⟨N, hN⟩ := it_ends (lad := lad) h0 hp hl
  have gN := it_good (lad := lad) h0 hp hl N
  have hF : ClosedT l lad (timesIt l lad t0 N) := by
    intro k hk hu h1
    have := pass_edge (lad := lad) gN hp hl hk hu h1
    rwa [hN] at this
  have hlow := it_low (lad := lad) h0 hp hl hF (it_mono (lad := lad) h0 hp hl N)
  have hborn := it_born (lad := lad) h0 hp hl hz N
  have hmon := it_mono (lad := lad) h0 hp hl
  have hmonN := hmon N
  have hlen : (timesIt l lad t0 N).length = p := gN.len
  generalize hFd : timesIt l lad t0 N = F at *
  have key : ∀ k v, v < p → 0 ≤ nth F v → (F.map (lessT (nth F v))).sum ≤ k → nth (timesIt l lad t0 k) v = nth F v := by
    intro k
    induction k with
    | zero =>
      intro v hv hf hr
      rcases hborn v hv with h1 | ⟨h1, h2⟩ | ⟨j, hj, hju, hjf, hj0, hjl⟩
      · omega
      · exact h2.symm
      · exfalso
        have hx := hl j hj
        have hu : (WalkR.at_ l j).To.toNat < F.length := by omega
        have : 0 < (F.map (lessT (nth F v))).sum := by
          have := sum_lt (f := fun _ => 0) (g := lessT (nth F v)) F (fun t _ => Nat.zero_le _) ⟨_, nth_mem hu, by unfold lessT; rw [if_pos ⟨hj0, by omega⟩]; omega⟩
          omega
        omega
    | succ k ih =>
      intro v hv hf hr
      have g := it_good (lad := lad) h0 hp hl (k + 1)
      have hlo := hlow (k + 1) v hv
      rcases hborn v hv with h1 | ⟨h1, h2⟩ | ⟨j, hj, hju, hjf, hj0, hjl⟩
      · omega
      · have := hmon (k + 1) v hv
        omega
      · have hx := hl j hj
        have hu : (WalkR.at_ l j).To.toNat < F.length := by omega
        have hlt : (F.map (lessT (nth F (WalkR.at_ l j).To.toNat))).sum < (F.map (lessT (nth F v))).sum := by
          refine sum_lt F (fun t _ => ?_) ⟨_, nth_mem hu, ?_⟩
          · unfold lessT; split <;> split <;> omega
          · unfold lessT; rw [if_neg (by omega), if_pos ⟨hj0, by omega⟩]; omega
        have e := ih (WalkR.at_ l j).To.toNat (by omega) hj0 (by omega)
        have := pass_edge (lad := lad) (it_good (lad := lad) h0 hp hl k) hp hl hj hju (by omega)
        rw [← timesIt_succ, hjf] at this
        omega
  have hrk : ∀ v, v < p → 0 ≤ nth F v → (F.map (lessT (nth F v))).sum ≤ p - 1 := by
    intro v hv hf
    have := sum_lt (f := lessT (nth F v)) (g := fun _ => 1) F (fun t _ => by unfold lessT; split <;> omega) ⟨nth F v, nth_mem (k := v) (by omega), by unfold lessT; rw [if_neg (by omega)]; omega⟩
    have h1 := sum_one_le (fun _ => 1) (fun _ => Nat.le_refl _) F
    omega
  have g := it_good (lad := lad) h0 hp hl (p - 1)
  have e : timesIt l lad t0 (p - 1) = F := by
    refine nth_ext (by rw [g.len, hlen]) fun v hv => ?_
    have hv : v < p := by rw [g.len] at hv; exact hv
    by_cases hf : 0 ≤ nth F v
    · exact key _ v hv hf (hrk v hv hf)
    · have h1 := hlow (p - 1) v hv
      have h2 := g.low v hv
      have h3 := gN.low v hv
      omega
  have e2 : timesIt l lad t0 p = F := by
    rw [show p = (p - 1) + 1 by omega, timesIt_succ, e, hN]
  rw [e2, hN]
/-- What no more rounds turn is what as many rounds as there are places give. -/
theorem it_same (hp0 : 1 ≤ p) {r : Nat} (h : passTo l lad (timesIt l lad t0 r) l.length = timesIt l lad t0 r) : timesIt l lad t0 r = timesIt l lad t0 p := by
  have hd := it_done (lad := lad) h0 hp hl hz hp0
  rcases Nat.le_total r p with hle | hle
  · have := it_fix (lad := lad) h0 hp hl h (p - r)
    rw [show r + (p - r) = p by omega] at this
    exact this.symm
  · have := it_fix (lad := lad) h0 hp hl hd (r - p)
    rw [show p + (r - p) = r by omega] at this
    exact this
end rounds

theorem initT_len (p : Nat) (goals : List Int) : (initT p goals).length = p := by simp [initT]
theorem initT_nth {p v : Nat} (goals : List Int) (h : v < p) : nth (initT p goals) v = if goals.any (fun z => (v : Int) == z) then 0 else -1 := by
  rw [nth_eq (by rw [initT_len]; exact h)]
  simp [initT]
theorem initT_good {p : Nat} (goals : List Int) : GoodT p (initT p goals) ∧ ∀ v, v < p → nth (initT p goals) v ≤ 0 :=
  ⟨⟨initT_len p goals, fun v hv => by rw [initT_nth goals hv]; split <;> omega, fun v hv => by rw [initT_nth goals hv]; split <;> omega⟩, fun v hv => by rw [initT_nth goals hv]; split <;> omega⟩
end Go.Proofs.Ytcppogfffgdjhaa
