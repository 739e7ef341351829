/- Ballast: what the division of groups is: sums that fit, an apartness that is theirs, and none is less. -/
import Derived.Test.YtdighpgfepooaaaPa
namespace Go.Proofs.Ytdighpgfepooaaa
open Go.RowKit
set_option maxRecDepth 100000
set_option linter.unusedVariables false
set_option linter.unusedSimpArgs false

def addTo (z : List Int) (c x : Int) : List Int := z.set c.toNat (nth z c.toNat + x)
def zsum : List Int → List Int → List Int → List Int
  | x :: xs, c :: cs, z => zsum xs cs (addTo z c x)
  | _, _, z => z
def cOk (cs : List Int) : Prop := ∀ c ∈ cs, c = 0 ∨ c = 1
def zle (room : Int) (z : List Int) : Prop := nth z 0 ≤ room ∧ nth z 1 ≤ room
theorem bput_spent (s : BS) (g : List Int) (d : Int) : (bput s g d).spent = s.spent := by unfold bput; split; split <;> rfl; rfl
theorem bs_spent (room : Int) : ∀ (xs g z : List Int) (s : BS), s.spent = true → (bs room xs g z s).spent = true := by
  intro xs g z s h
  cases xs with
  | nil => rw [bs, bput_spent]; exact h
  | cons x xs => rw [bs, bfold_spent _ _ _ _ _ _ _ h]; exact h
theorem bstep_spentT (room x : Int) (xs g z : List Int) (s : BS) (k : Nat) (h : s.spent = true) : (bstep room x (bs room xs) g z s k).spent = true := by
  rw [bstep_spent _ _ _ _ _ _ _ h]; exact h
/-- The best of q is no worse than that of s. -/
def Le (q s : BS) : Prop := ∀ g m, s.best = some (g, m) → ∃ g' m', q.best = some (g', m') ∧ m' ≤ m
theorem Le.refl (s : BS) : Le s s := fun g m h => ⟨g, m, h, Int.le_refl _⟩
theorem Le.trans {a b c : BS} (h : Le a b) (k : Le b c) : Le a c := fun g m e => by
  obtain ⟨g1, m1, e1, l1⟩ := k g m e
  obtain ⟨g2, m2, e2, l2⟩ := h g1 m1 e1
  exact ⟨g2, m2, e2, Int.le_trans l2 l1⟩
theorem bput_le (s : BS) (g : List Int) (d : Int) : Le (bput s g d) s := by
  intro g0 m0 h
  unfold bput
  rw [h]
  simp only
  split
  · exact ⟨_, _, rfl, by omega⟩
  · exact ⟨_, _, h, Int.le_refl _⟩
theorem bput_new (s : BS) (g : List Int) (d : Int) : ∃ g' m', (bput s g d).best = some (g', m') ∧ m' ≤ d := by
  unfold bput
  split
  · rename_i g0 m0 h
    split
    · exact ⟨_, _, rfl, Int.le_refl _⟩
    · exact ⟨_, _, h, by omega⟩
  · exact ⟨_, _, rfl, Int.le_refl _⟩
theorem zsum_mono : ∀ (xs cs z : List Int), z.length = 2 → (∀ x ∈ xs, 0 ≤ x) → cOk cs → nth z 0 ≤ nth (zsum xs cs z) 0 ∧ nth z 1 ≤ nth (zsum xs cs z) 1 := by
  intro xs
  induction xs with
  | nil => intro cs z _ _ _; simp [zsum]
  | cons x xs ih =>
    intro cs z hz hx hc
    cases cs with
    | nil => simp [zsum]
    | cons c cs =>
      have hx0 := hx x (by simp)
      rw [zsum]
      match z, hz with
      | [a, b], _ =>
        have h1 := ih cs (addTo [a, b] c x) (by simp [addTo]) (fun y hy => hx y (by simp [hy])) (fun y hy => hc y (by simp [hy]))
        rcases hc c (by simp) with rfl | rfl
        · have e : addTo [a, b] 0 x = [a + x, b] := by simp [addTo, nth]
          rw [e] at h1 ⊢
          simp only [show nth [a, b] 0 = a from rfl, show nth [a, b] 1 = b from rfl, show nth [a + x, b] 0 = a + x from rfl, show nth [a + x, b] 1 = b from rfl] at h1 ⊢
          omega
        · have e : addTo [a, b] 1 x = [a, b + x] := by simp [addTo, nth]
          rw [e] at h1 ⊢
          simp only [show nth [a, b] 0 = a from rfl, show nth [a, b] 1 = b from rfl, show nth [a, b + x] 0 = a from rfl, show nth [a, b + x] 1 = b + x from rfl] at h1 ⊢
          omega
theorem addTo_nat (z : List Int) (k : Nat) (x : Int) : addTo z (k : Int) x = z.set k (nth z k + x) := by simp [addTo]
theorem range2 : List.range 2 = [0, 1] := rfl
theorem bs_le (room : Int) : ∀ (xs g z : List Int) (s : BS), Le (bs room xs g z s) s := by
  intro xs
  induction xs with
  | nil => intro g z s; rw [bs]; exact bput_le _ _ _
  | cons x xs ih =>
    intro g z s
    have hst : ∀ (k : Nat) (s : BS), Le (bstep room x (bs room xs) g z s k) s := by
      intro k s
      unfold bstep
      split
      · exact Le.refl _
      · split
        · exact Le.refl _
        · split
          · exact fun g m h => ⟨g, m, h, Int.le_refl _⟩
          · exact fun g m h => ih _ _ _ g m h
    rw [bs, range2]
    simp only [List.foldl]
    exact (hst 1 _).trans (hst 0 _)
/-- No division that fits is better than what a search that was not spent has found. -/
theorem bs_full (room : Int) : ∀ (xs g z : List Int) (s : BS), (∀ x ∈ xs, 0 ≤ x) → ZOk room z → (bs room xs g z s).spent = false →
    ∀ cs, cs.length = xs.length → cOk cs → zle room (zsum xs cs z) → ∃ g' m', (bs room xs g z s).best = some (g', m') ∧ m' ≤ bapart (zsum xs cs z) := by
  intro xs
  induction xs with
  | nil =>
    intro g z s _ _ _ cs hcs _ _
    have : cs = [] := by simpa using hcs
    subst this
    rw [bs]
    exact bput_new _ _ _
  | cons x xs ih =>
    intro g z s hx hz hsp cs hcs hc hle
    cases cs with
    | nil => simp at hcs
    | cons c cs =>
    have hx0 := hx x (by simp)
    have hxs : ∀ y ∈ xs, 0 ≤ y := fun y hy => hx y (by simp [hy])
    have hcs1 : cs.length = xs.length := by simpa using hcs
    have hc1 : cOk cs := fun y hy => hc y (by simp [hy])
    obtain ⟨k, hk, rfl⟩ : ∃ k : Nat, k < 2 ∧ c = (k : Int) := by
      rcases hc c (by simp) with h | h
      · exact ⟨0, by omega, by omega⟩
      · exact ⟨1, by omega, by omega⟩
    rw [zsum, addTo_nat] at hle ⊢
    have hlen : (z.set k (nth z k + x)).length = 2 := by rw [List.length_set]; exact hz.1
    have hm := zsum_mono xs cs _ hlen hxs hc1
    have hfit : nth z k + x ≤ room := by
      have h1 := (z_back (x := x) hz hk).2
      match k, hk with
      | 0, _ => have := hle.1; omega
      | 1, _ => have := hle.2; omega
    have hz1 : ZOk room (z.set k (nth z k + x)) := z_set hz hk hx0 hfit
    have step : ∀ s : BS, (bstep room x (bs room xs) g z s k).spent = false → ∃ g' m', (bstep room x (bs room xs) g z s k).best = some (g', m') ∧ m' ≤ bapart (zsum xs cs (z.set k (nth z k + x))) := by
      intro s hs
      unfold bstep at hs ⊢
      rw [if_neg (by omega)] at hs ⊢
      split at hs
      · rename_i h; rw [h] at hs; cases hs
      · rename_i h0
        rw [if_neg h0]
        split at hs
        · cases hs
        · rename_i h1
          rw [if_neg h1]
          exact ih _ _ _ hxs hz1 hs cs hcs1 hc1 hle
    have hst : ∀ (k : Nat) (s : BS), Le (bstep room x (bs room xs) g z s k) s := by
      intro k s
      unfold bstep
      split
      · exact Le.refl _
      · split
        · exact Le.refl _
        · split
          · exact fun g m h => ⟨g, m, h, Int.le_refl _⟩
          · exact fun g m h => bs_le room _ _ _ _ g m h
    rw [bs, range2] at hsp ⊢
    simp only [List.foldl] at hsp ⊢
    match k, hk with
    | 0, _ =>
      have hs0 : (bstep room x (bs room xs) g z s 0).spent = false := by
        cases h : (bstep room x (bs room xs) g z s 0).spent with
        | false => rfl
        | true => rw [bstep_spentT _ _ _ _ _ _ _ h] at hsp; cases hsp
      obtain ⟨g1, m1, e1, l1⟩ := step s hs0
      obtain ⟨g2, m2, e2, l2⟩ := hst 1 _ g1 m1 e1
      exact ⟨g2, m2, e2, Int.le_trans l2 l1⟩
    | 1, _ => exact step _ hsp
/-- What is found is a division that fits. -/
theorem bs_good {P : List Int → Int → Prop} (room : Int) : ∀ (xs g z : List Int) (s : BS), (∀ x ∈ xs, 0 ≤ x) → ZOk room z → (∀ g m, s.best = some (g, m) → P g m) →
    (∀ cs, cs.length = xs.length → cOk cs → ZOk room (zsum xs cs z) → P (g ++ cs) (bapart (zsum xs cs z))) → ∀ g' m', (bs room xs g z s).best = some (g', m') → P g' m' := by
  intro xs
  induction xs with
  | nil =>
    intro g z s _ hz hs hleaf g' m' h
    rw [bs] at h
    have hl := hleaf [] rfl (fun _ h => by cases h) (by rw [zsum]; exact hz; simp)
    rw [show zsum [] [] z = z from rfl, List.append_nil] at hl
    unfold bput at h
    split at h
    · split at h
      · simp only [Option.some.injEq, Prod.mk.injEq] at h
        obtain ⟨rfl, rfl⟩ := h
        exact hl
      · exact hs _ _ h
    · simp only [Option.some.injEq, Prod.mk.injEq] at h
      obtain ⟨rfl, rfl⟩ := h
      exact hl
  | cons x xs ih =>
    intro g z s hx hz hs hleaf
    have hx0 := hx x (by simp)
    have hxs : ∀ y ∈ xs, 0 ≤ y := fun y hy => hx y (by simp [hy])
    have step : ∀ (k : Nat) (s : BS), k < 2 → (∀ g m, s.best = some (g, m) → P g m) → ∀ g' m', (bstep room x (bs room xs) g z s k).best = some (g', m') → P g' m' := by
      intro k s hk hs g' m' h
      unfold bstep at h
      split at h
      · exact hs _ _ h
      · rename_i hfit
        split at h
        · exact hs _ _ h
        · split at h
          · exact hs _ _ h
          · have hz1 : ZOk room (z.set k (nth z k + x)) := z_set hz hk hx0 (by omega)
            refine ih _ _ _ hxs hz1 ?_ ?_ g' m' h
            · exact hs
            · intro cs h1 h2 h3
              have := hleaf ((k : Int) :: cs) (by simp [h1]) (by
                intro c hc
                rcases List.mem_cons.1 hc with rfl | hc
                · omega
                · exact h2 c hc) (by rw [zsum, addTo_nat]; exact h3)
              rw [zsum, addTo_nat] at this
              rw [List.append_assoc]
              exact this
    rw [bs, range2]
    simp only [List.foldl]
    exact step 1 _ (by omega) (step 0 _ (by omega) hs)
theorem bapart_of (z : List Int) : bapart z = if nth z 0 - nth z 1 < 0 then -(nth z 0 - nth z 1) else nth z 0 - nth z 1 := rfl
/-- What BalanceGroups returns, in short. -/
structure BalP (l : List Int) (room : Int) (r : List Int × Int × Int) : Prop where
  no : r.2.2 ≠ 0 → r.1 = [] ∧ r.2.1 = 0
  fit : r.2.2 = 0 → l.length ≤ 10 ∧ massB l = true ∧ 1 ≤ room ∧ room ≤ 1000000 ∧ r.1.length = l.length ∧ cOk r.1 ∧ zle room (zsum l r.1 [0, 0]) ∧ bapart (zsum l r.1 [0, 0]) = r.2.1
  best : r.2.2 = 0 → ∀ cs, cs.length = l.length → cOk cs → zle room (zsum l cs [0, 0]) → r.2.1 ≤ bapart (zsum l cs [0, 0])
theorem balP (l : List Int) (room budget : Int) : BalP l room (rBalanceGroups l room budget) := by
  cases h : balB l room budget with
  | false => rw [rB_no h]; exact ⟨fun _ => ⟨rfl, rfl⟩, fun e => by simp at e, fun e => by simp at e⟩
  | true =>
    obtain ⟨q, hq⟩ : ∃ q, bs room l [] [0, 0] ⟨budget.toNat, false, none⟩ = q := ⟨_, rfl⟩
    rw [rB_go h hq]
    have hb := h
    unfold balB at hb
    simp only [Bool.and_eq_true, decide_eq_true_eq] at hb
    obtain ⟨⟨⟨hl, hm⟩, hr⟩, _⟩ := hb
    have hroom := inB_true.1 hr
    have hx : ∀ x ∈ l, 0 ≤ x := by
      intro x hx
      have := List.all_eq_true.1 hm x hx
      have := (inB_true.1 this).1
      omega
    have hz0 : ZOk room [0, 0] := ⟨rfl, by simp [nth]; omega⟩
    cases hsp : q.spent with
    | true => exact ⟨fun _ => ⟨rfl, rfl⟩, fun e => by simp at e, fun e => by simp at e⟩
    | false =>
      cases hbe : q.best with
      | none => exact ⟨fun _ => ⟨rfl, rfl⟩, fun e => by simp at e, fun e => by simp at e⟩
      | some p =>
        obtain ⟨g, m⟩ := p
        refine ⟨fun e => absurd rfl e, fun _ => ?_, fun _ cs h1 h2 h3 => ?_⟩
        · have := bs_good (P := fun g m => g.length = l.length ∧ cOk g ∧ zle room (zsum l g [0, 0]) ∧ bapart (zsum l g [0, 0]) = m) room l [] [0, 0] ⟨budget.toNat, false, none⟩ hx hz0 (fun g m e => by cases e)
            (fun cs h1 h2 h3 => ⟨by simpa using h1, by simpa using h2, by simpa using ⟨h3.2.2.1, h3.2.2.2.2⟩, by simp⟩) g m (by rw [hq]; exact hbe)
          exact ⟨hl, hm, hroom.1, hroom.2, this⟩
        · have := bs_full room l [] [0, 0] ⟨budget.toNat, false, none⟩ hx hz0 (by rw [hq]; exact hsp) cs h1 h2 h3
          rw [hq, hbe] at this
          obtain ⟨g', m', e, hle⟩ := this
          simp only [Option.some.injEq, Prod.mk.injEq] at e
          obtain ⟨_, rfl⟩ := e
          exact hle
/-- One step of the sums. -/
theorem zsum_snoc : ∀ (xs cs z : List Int) (x c : Int), xs.length = cs.length → zsum (xs ++ [x]) (cs ++ [c]) z = addTo (zsum xs cs z) c x := by
  intro xs
  induction xs with
  | nil =>
    intro cs z x c h
    cases cs with
    | nil => simp [zsum]
    | cons _ _ => simp at h
  | cons y ys ih =>
    intro cs z x c h
    cases cs with
    | nil => simp at h
    | cons d ds =>
      rw [List.cons_append, List.cons_append, zsum, zsum]
      exact ih ds _ x c (by simpa using h)
theorem zsum_ok : ∀ (xs cs z : List Int), z.length = 2 → (zsum xs cs z).length = 2 := by
  intro xs
  induction xs with
  | nil => intro cs z h; simpa [zsum] using h
  | cons x xs ih =>
    intro cs z h
    cases cs with
    | nil => simpa [zsum] using h
    | cons c cs => rw [zsum]; exact ih _ _ (by rw [addTo, List.length_set]; exact h)
end Go.Proofs.Ytdighpgfepooaaa
