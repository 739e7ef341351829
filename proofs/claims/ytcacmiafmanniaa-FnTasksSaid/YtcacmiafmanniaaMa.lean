/- Plain facts on who gets which task: what a search through all ways finds, and what the changing of others' tasks finds. No program in sight. -/
import Derived.Test.YtcacmiafmanniaaW
namespace Go.Proofs.Ytcacmiafmanniaa
set_option linter.unusedVariables false

/-! ### counting -/
theorem nodup_len {α : Type} [DecidableEq α] : ∀ (l l' : List α), l.Nodup → (∀ x ∈ l, x ∈ l') → l.length ≤ l'.length
  | [], _, _, _ => Nat.zero_le _
  | a :: l, l', hn, hs => by
    have ha : a ∈ l' := hs a (by simp)
    have h1 := nodup_len l (l'.erase a) (List.nodup_cons.1 hn).2 (fun x hx => by
      have hne : x ≠ a := fun e => (List.nodup_cons.1 hn).1 (e ▸ hx)
      exact (List.mem_erase_of_ne hne).2 (hs x (List.mem_cons_of_mem _ hx)))
    rw [List.length_erase_of_mem ha] at h1
    have := List.length_pos_of_mem ha
    simp; omega
theorem nodup_map_on {α β : Type} {f : α → β} {l : List α} (hn : l.Nodup) (hf : ∀ a ∈ l, ∀ b ∈ l, f a = f b → a = b) : (l.map f).Nodup := by
  rw [List.Nodup, List.pairwise_map]
  exact List.Pairwise.imp_of_mem (fun ha hb hne e => hne (hf _ ha _ hb e)) hn

/-! ### who gets which task -/
/-- g gives a helper to some of the tasks below t: each can do it, is one of A, and none has two. -/
structure IsM (c : Nat → Nat → Bool) (A : Nat → Prop) (t : Nat) (g : Nat → Option Nat) : Prop where
  can : ∀ i, i < t → ∀ h, g i = some h → A h ∧ c h i = true
  inj : ∀ i j, i < t → j < t → ∀ h, g i = some h → g j = some h → i = j
/-- How many of the tasks below t have a helper. -/
def szM (t : Nat) (g : Nat → Option Nat) : Nat := ((List.range t).filter fun i => (g i).isSome).length
theorem szM_zero (g : Nat → Option Nat) : szM 0 g = 0 := rfl
theorem szM_succ (t : Nat) (g : Nat → Option Nat) : szM (t + 1) g = szM t g + (if (g t).isSome then 1 else 0) := by
  unfold szM
  rw [List.range_succ, List.filter_append, List.length_append]
  congr 1
  cases h : (g t).isSome <;> simp [h]
theorem szM_cons (t : Nat) (g : Nat → Option Nat) : szM (t + 1) g = (if (g 0).isSome then 1 else 0) + szM t (fun i => g (i + 1)) := by
  induction t with
  | zero => rw [szM_succ, szM_zero, szM_zero]; omega
  | succ t ih => rw [szM_succ, ih, szM_succ]; omega
theorem szM_le (t : Nat) (g : Nat → Option Nat) : szM t g ≤ t := by
  induction t with
  | zero => simp [szM_zero]
  | succ t ih => rw [szM_succ]; split <;> omega
theorem szM_congr {t : Nat} {g g' : Nat → Option Nat} (h : ∀ i, i < t → (g i).isSome = (g' i).isSome) : szM t g = szM t g' := by
  induction t with
  | zero => rfl
  | succ t ih => rw [szM_succ, szM_succ, ih fun i hi => h i (by omega), h t (by omega)]
theorem szM_full {t : Nat} {g : Nat → Option Nat} (h : szM t g = t) : ∀ i, i < t → (g i).isSome = true := by
  induction t with
  | zero => intro i hi; omega
  | succ t ih =>
    rw [szM_succ] at h
    have := szM_le t g
    cases hg : (g t).isSome with
    | false => simp [hg] at h; omega
    | true =>
      simp [hg] at h
      intro i hi
      by_cases e : i = t
      · rw [e]; exact hg
      · exact ih h i (by omega)
theorem IsM.less {c : Nat → Nat → Bool} {A : Nat → Prop} {t : Nat} {g : Nat → Option Nat} (h : IsM c A (t + 1) g) : IsM c A t g :=
  ⟨fun i hi => h.can i (by omega), fun i j hi hj => h.inj i j (by omega) (by omega)⟩
/-- v is the greatest number of tasks below t that can have a helper at once. -/
structure Opt (c : Nat → Nat → Bool) (A : Nat → Prop) (t v : Nat) : Prop where
  has : ∃ g, IsM c A t g ∧ szM t g = v
  top : ∀ g, IsM c A t g → szM t g ≤ v
theorem Opt.same {c : Nat → Nat → Bool} {A : Nat → Prop} {t v v' : Nat} (h : Opt c A t v) (h' : Opt c A t v') : v = v' := by
  obtain ⟨g, hg, rfl⟩ := h.has
  obtain ⟨g', hg', rfl⟩ := h'.has
  have := h.top g' hg'
  have := h'.top g hg
  omega
theorem Opt.le {c : Nat → Nat → Bool} {A : Nat → Prop} {t v : Nat} (h : Opt c A t v) : v ≤ t := by
  obtain ⟨g, _, rfl⟩ := h.has; exact szM_le t g
theorem Opt.congr {c c' : Nat → Nat → Bool} {A A' : Nat → Prop} {t v : Nat} (h : Opt c A t v) (e : ∀ k i, i < t → ((A k ∧ c k i = true) ↔ (A' k ∧ c' k i = true))) : Opt c' A' t v := by
  obtain ⟨g, hg, hv⟩ := h.has
  exact ⟨⟨g, ⟨fun i hi k hk => (e k i hi).1 (hg.can i hi k hk), hg.inj⟩, hv⟩,
    fun g' hg' => h.top g' ⟨fun i hi k hk => (e k i hi).2 (hg'.can i hi k hk), hg'.inj⟩⟩
/-- The helpers of a list, by their places in it. -/
theorem Opt.places {c c' : Nat → Nat → Bool} {idx : List Nat} {t v : Nat} (hn : idx.Nodup) (e : ∀ k i, k < idx.length → i < t → c' k i = c (idx.getD k 0) i) (h : Opt c' (fun k => k < idx.length) t v) : Opt c (fun k => k ∈ idx) t v := by
  have hget : ∀ k, (hk : k < idx.length) → idx.getD k 0 = idx[k] := fun k hk => by simp [List.getD, List.getElem?_eq_getElem hk]
  obtain ⟨g, hg, hv⟩ := h.has
  refine ⟨⟨fun i => (g i).map (fun k => idx.getD k 0), ⟨fun i hi k hk => ?_, fun i j hi hj k h1 h2 => ?_⟩, ?_⟩, fun g' hg' => ?_⟩
  · cases hgi : g i with
    | none => simp [hgi] at hk
    | some y =>
      simp only [hgi, Option.map_some, Option.some.injEq] at hk
      obtain ⟨hy, hc⟩ := hg.can i hi y hgi
      rw [e y i hy hi, hk] at hc
      exact ⟨by rw [← hk, hget y hy]; exact List.getElem_mem _, hc⟩
  · cases hgi : g i with
    | none => simp [hgi] at h1
    | some y =>
      cases hgj : g j with
      | none => simp [hgj] at h2
      | some z =>
        simp only [hgi, hgj, Option.map_some, Option.some.injEq] at h1 h2
        have hy := (hg.can i hi y hgi).1
        have hz := (hg.can j hj z hgj).1
        rw [hget y hy] at h1
        rw [hget z hz] at h2
        have : y = z := (List.getElem_inj hn).1 (h1.trans h2.symm)
        subst this
        exact hg.inj i j hi hj y hgi hgj
  · rw [← hv]
    exact szM_congr fun i _ => by cases g i <;> rfl
  · have hm : ∀ k, k ∈ idx → idx.idxOf k < idx.length ∧ idx.getD (idx.idxOf k) 0 = k := fun k hk => by
      have := List.idxOf_lt_length_of_mem hk
      exact ⟨this, by rw [hget _ this]; exact List.getElem_idxOf this⟩
    have := h.top (fun i => (g' i).map fun k => idx.idxOf k) ⟨fun i hi k hk => ?_, fun i j hi hj k h1 h2 => ?_⟩
    · refine Nat.le_trans (Nat.le_of_eq ?_) this
      exact szM_congr fun i _ => by cases g' i <;> rfl
    · cases hgi : g' i with
      | none => simp [hgi] at hk
      | some y =>
        simp only [hgi, Option.map_some, Option.some.injEq] at hk
        subst hk
        obtain ⟨hy, hc⟩ := hg'.can i hi y hgi
        obtain ⟨h1, h2⟩ := hm y hy
        exact ⟨h1, by rw [e _ i h1 hi, h2]; exact hc⟩
    · cases hgi : g' i with
      | none => simp [hgi] at h1
      | some y =>
        cases hgj : g' j with
        | none => simp [hgj] at h2
        | some z =>
          simp only [hgi, hgj, Option.map_some, Option.some.injEq] at h1 h2
          have hy := hm y (hg'.can i hi y hgi).1
          have hz := hm z (hg'.can j hj z hgj).1
          have : y = z := by rw [← hy.2, ← hz.2, h1, h2]
          subst this
          exact hg'.inj i j hi hj y hgi hgj

/-! ### the search through all ways -/
section
variable {τ : Type}
/-- Helper h can do task i of a list, by the list of all who can do a task. -/
def cOf (cs : τ → List Nat) (ts : List τ) (h i : Nat) : Bool := match ts[i]? with | some t => (cs t).contains h | none => false
theorem cOf_zero (cs : τ → List Nat) (t : τ) (ts : List τ) (h : Nat) : cOf cs (t :: ts) h 0 = (cs t).contains h := rfl
theorem cOf_succ (cs : τ → List Nat) (t : τ) (ts : List τ) (h i : Nat) : cOf cs (t :: ts) h (i + 1) = cOf cs ts h i := by simp [cOf]
theorem IsM.tail {cs : τ → List Nat} {A : Nat → Prop} {t : τ} {ts : List τ} {g : Nat → Option Nat} (h : IsM (cOf cs (t :: ts)) A (ts.length + 1) g) :
    IsM (cOf cs ts) (fun k => A k ∧ g 0 ≠ some k) ts.length (fun i => g (i + 1)) := by
  refine ⟨fun i hi k hk => ?_, fun i j hi hj k h1 h2 => ?_⟩
  · obtain ⟨h1, h2⟩ := h.can (i + 1) (by omega) k hk
    rw [cOf_succ] at h2
    refine ⟨⟨h1, fun e => ?_⟩, h2⟩
    have := h.inj 0 (i + 1) (by omega) (by omega) k e hk
    omega
  · have := h.inj (i + 1) (j + 1) (by omega) (by omega) k h1 h2
    omega
theorem IsM.cons {cs : τ → List Nat} {A : Nat → Prop} {t : τ} {ts : List τ} {g : Nat → Option Nat} {o : Option Nat} (ho : ∀ k, o = some k → A k ∧ k ∈ cs t)
    (h : IsM (cOf cs ts) (fun k => A k ∧ o ≠ some k) ts.length g) : IsM (cOf cs (t :: ts)) A (ts.length + 1) (fun i => match i with | 0 => o | i + 1 => g i) := by
  refine ⟨fun i hi k hk => ?_, fun i j hi hj k h1 h2 => ?_⟩
  · cases i with
    | zero => obtain ⟨h1, h2⟩ := ho k hk; exact ⟨h1, by rw [cOf_zero]; simpa using h2⟩
    | succ i => obtain ⟨h1, h2⟩ := h.can i (by omega) k hk; exact ⟨h1.1, by rw [cOf_succ]; exact h2⟩
  · cases i with
    | zero =>
      cases j with
      | zero => rfl
      | succ j => exact absurd h1 (h.can j (by omega) k h2).1.2
    | succ i =>
      cases j with
      | zero => exact absurd h2 (h.can i (by omega) k h1).1.2
      | succ j => rw [h.inj i j (by omega) (by omega) k h1 h2]

def stepM (mm : Nat → Nat) (cap used most k : Nat) : Nat := if !used.testBit k && decide (most < cap) then max most (1 + mm (used ||| 1 <<< k)) else most
def mfill (cs : τ → List Nat) : List τ → Nat → Nat
  | [], _ => 0
  | t :: ts, used => (cs t).foldl (stepM (mfill cs ts) (ts.length + 1) used) (mfill cs ts used)
theorem foldM_ge (mm : Nat → Nat) (cap used : Nat) : ∀ (l : List Nat) (m : Nat), m ≤ l.foldl (stepM mm cap used) m := by
  intro l
  induction l with
  | nil => intro m; exact Nat.le_refl _
  | cons k l ih =>
    intro m
    rw [List.foldl_cons]
    refine Nat.le_trans ?_ (ih _)
    unfold stepM; split <;> omega
theorem foldM_le (mm : Nat → Nat) (cap used : Nat) (hm : ∀ u, 1 + mm u ≤ cap) : ∀ (l : List Nat) (m : Nat), m ≤ cap → l.foldl (stepM mm cap used) m ≤ cap := by
  intro l
  induction l with
  | nil => intro m h; exact h
  | cons k l ih =>
    intro m h
    rw [List.foldl_cons]
    refine ih _ ?_
    have := hm (used ||| 1 <<< k)
    unfold stepM; split <;> omega
theorem foldM_mem (mm : Nat → Nat) (cap used : Nat) : ∀ (l : List Nat) (m k : Nat), k ∈ l → used.testBit k = false → 1 + mm (used ||| 1 <<< k) ≤ l.foldl (stepM mm cap used) m ∨ cap ≤ l.foldl (stepM mm cap used) m := by
  intro l
  induction l with
  | nil => intro m k hk; cases hk
  | cons a l ih =>
    intro m k hk hb
    rw [List.foldl_cons]
    rcases List.mem_cons.1 hk with rfl | hk
    · have := foldM_ge mm cap used l (stepM mm cap used m k)
      by_cases hlt : m < cap
      · left
        refine Nat.le_trans ?_ this
        simp [stepM, hb, hlt]; omega
      · right
        refine Nat.le_trans ?_ this
        simp [stepM, hlt]; omega
    · exact ih _ k hk hb
theorem foldM_from (mm : Nat → Nat) (cap used : Nat) : ∀ (l : List Nat) (m : Nat), l.foldl (stepM mm cap used) m = m ∨ ∃ k, k ∈ l ∧ used.testBit k = false ∧ l.foldl (stepM mm cap used) m = 1 + mm (used ||| 1 <<< k) := by
  intro l
  induction l with
  | nil => intro m; exact .inl rfl
  | cons a l ih =>
    intro m
    rw [List.foldl_cons]
    rcases ih (stepM mm cap used m a) with h | ⟨k, h1, h2, h3⟩
    · rw [h]
      by_cases hb : (!used.testBit a && decide (m < cap)) = true
      · have hb' : used.testBit a = false := by simp at hb; exact hb.1
        rw [stepM, if_pos hb]
        rcases Nat.le_total m (1 + mm (used ||| 1 <<< a)) with h | h
        · exact .inr ⟨a, by simp, hb', by omega⟩
        · exact .inl (by omega)
      · rw [stepM, if_neg hb]; exact .inl rfl
    · exact .inr ⟨k, by simp [h1], h2, h3⟩
theorem bit_more (used k h : Nat) : (used ||| 1 <<< k).testBit h = false ↔ used.testBit h = false ∧ h ≠ k := by
  rw [Nat.testBit_or, Nat.one_shiftLeft, Nat.testBit_two_pow]
  generalize used.testBit h = b
  by_cases e : k = h
  · subst e; cases b <;> simp
  · have e' : h ≠ k := fun x => e x.symm
    cases b <;> simp [e, e']
theorem mfill_opt (cs : τ → List Nat) : ∀ (ts : List τ) (used : Nat), Opt (cOf cs ts) (fun h => used.testBit h = false) ts.length (mfill cs ts used) := by
  intro ts
  induction ts with
  | nil => intro used; exact ⟨⟨fun _ => none, ⟨fun i hi => by simp at hi, fun i j hi => by simp at hi⟩, rfl⟩, fun g _ => by simp [szM_zero]⟩
  | cons t ts ih =>
    intro used
    simp only [mfill, List.length_cons]
    refine ⟨?_, fun g hg => ?_⟩
    · rcases foldM_from (mfill cs ts) (ts.length + 1) used (cs t) (mfill cs ts used) with h | ⟨k, h1, h2, h3⟩
      · obtain ⟨g, hg, hv⟩ := (ih used).has
        refine ⟨_, IsM.cons (o := none) (fun k hk => by cases hk) ⟨fun i hi k hk => ⟨⟨(hg.can i hi k hk).1, by simp⟩, (hg.can i hi k hk).2⟩, hg.inj⟩, ?_⟩
        rw [h, szM_cons]; simpa using hv
      · obtain ⟨g, hg, hv⟩ := (ih (used ||| 1 <<< k)).has
        refine ⟨_, IsM.cons (o := some k) (fun k' hk => by injection hk with hk; subst hk; exact ⟨h2, h1⟩) ⟨fun i hi k' hk => ?_, hg.inj⟩, ?_⟩
        · obtain ⟨a, b⟩ := hg.can i hi k' hk
          rw [bit_more] at a
          exact ⟨⟨a.1, fun e => a.2 (by injection e with e; exact e.symm)⟩, b⟩
        · rw [h3, szM_cons]; simp [hv]
    · rw [szM_cons]
      have ht := hg.tail
      cases h0 : g 0 with
      | none =>
        have := (ih used).top _ ⟨fun i hi k hk => ⟨(ht.can i hi k hk).1.1, (ht.can i hi k hk).2⟩, ht.inj⟩
        have := foldM_ge (mfill cs ts) (ts.length + 1) used (cs t) (mfill cs ts used)
        simp; omega
      | some k =>
        obtain ⟨h1, h2⟩ := hg.can 0 (by omega) k h0
        rw [cOf_zero] at h2
        have h2 : k ∈ cs t := by simpa using h2
        have := (ih (used ||| 1 <<< k)).top _ ⟨fun i hi k' hk => ⟨(bit_more used k k').2 ⟨(ht.can i hi k' hk).1.1, fun e => (ht.can i hi k' hk).1.2 (by rw [h0, e])⟩, (ht.can i hi k' hk).2⟩, ht.inj⟩
        have hle := szM_le ts.length (fun i => g (i + 1))
        rcases foldM_mem (mfill cs ts) (ts.length + 1) used (cs t) (mfill cs ts used) k h2 h1 with h | h <;> simp <;> omega
end

/-! ### the changing of others' tasks -/
def gvLoop (rec : List Int → List Bool → Nat → Bool × List Int × List Bool) (c : Nat → Nat → Bool) (n t : Nat) : Nat → List Int → List Bool → Bool × List Int × List Bool
  | 0, o, s => (false, o, s)
  | j + 1, o, s =>
    if s.getD (n - (j + 1)) true || !c (n - (j + 1)) t then gvLoop rec c n t j o s
    else if o.getD (n - (j + 1)) (-1) < 0 then (true, o.set (n - (j + 1)) t, s.set (n - (j + 1)) true)
    else if (rec o (s.set (n - (j + 1)) true) (o.getD (n - (j + 1)) (-1)).toNat).1 then
      (true, (rec o (s.set (n - (j + 1)) true) (o.getD (n - (j + 1)) (-1)).toNat).2.1.set (n - (j + 1)) t, (rec o (s.set (n - (j + 1)) true) (o.getD (n - (j + 1)) (-1)).toNat).2.2)
    else gvLoop rec c n t j (rec o (s.set (n - (j + 1)) true) (o.getD (n - (j + 1)) (-1)).toNat).2.1 (rec o (s.set (n - (j + 1)) true) (o.getD (n - (j + 1)) (-1)).toNat).2.2
/-- Looks for another helper of task t; o: each helper's task; s: who was asked. -/
def gv (c : Nat → Nat → Bool) (n : Nat) : Nat → List Int → List Bool → Nat → Bool × List Int × List Bool
  | 0, o, s, _ => (false, o, s)
  | f + 1, o, s, t => gvLoop (gv c n f) c n t n o s
theorem gvLoop_at (rec : List Int → List Bool → Nat → Bool × List Int × List Bool) (c : Nat → Nat → Bool) (n t k : Nat) (hk : k < n) (o : List Int) (s : List Bool) :
    gvLoop rec c n t (n - k) o s =
      if s.getD k true || !c k t then gvLoop rec c n t (n - (k + 1)) o s
      else if o.getD k (-1) < 0 then (true, o.set k t, s.set k true)
      else if (rec o (s.set k true) (o.getD k (-1)).toNat).1 then (true, (rec o (s.set k true) (o.getD k (-1)).toNat).2.1.set k t, (rec o (s.set k true) (o.getD k (-1)).toNat).2.2)
      else gvLoop rec c n t (n - (k + 1)) (rec o (s.set k true) (o.getD k (-1)).toNat).2.1 (rec o (s.set k true) (o.getD k (-1)).toNat).2.2 := by
  obtain ⟨j, hj⟩ : ∃ j, n - k = j + 1 := ⟨n - k - 1, by omega⟩
  have h1 : n - (k + 1) = j := by omega
  have h2 : n - (j + 1) = k := by omega
  rw [hj, h1, gvLoop, h2]

/-- Each helper has no task or one that it can do. -/
def OwnV (c : Nat → Nat → Bool) (n : Nat) (o : List Int) : Prop := ∀ h, h < n → o.getD h (-1) = -1 ∨ ∃ x : Nat, o.getD h (-1) = x ∧ c h x = true
structure GvOk (c : Nat → Nat → Bool) (n k : Nat) (o : List Int) (s : List Bool) (t : Nat) (r : Bool × List Int × List Bool) : Prop where
  lenO : r.2.1.length = n
  lenS : r.2.2.length = n
  mono : ∀ h, s.getD h true = true → r.2.2.getD h true = true
  valid : OwnV c n r.2.1
  keep : ∀ h, s.getD h true = true → r.2.1.getD h (-1) = o.getD h (-1)
  yes : r.1 = true → ∀ x : Nat, r.2.1.count (x : Int) = o.count (x : Int) + if x = t then 1 else 0
  no : r.1 = false → r.2.1 = o ∧ (∀ h, k ≤ h → h < n → c h t = true → r.2.2.getD h true = true) ∧
    (∀ h, h < n → s.getD h true = false → r.2.2.getD h true = true → ∃ x : Nat, o.getD h (-1) = x ∧ ∀ h', h' < n → c h' x = true → r.2.2.getD h' true = true)
theorem getD_set {α : Type} (l : List α) (k h : Nat) (v d : α) (hk : k < l.length) : (l.set k v).getD h d = if h = k then v else l.getD h d := by
  simp only [List.getD, List.getElem?_set]
  by_cases e : h = k
  · subst e; simp [hk]
  · rw [if_neg (fun x => e x.symm), if_neg e]
theorem count_set_int (o : List Int) (k t x : Nat) (hk : k < o.length) : (o.set k (t : Int)).count (x : Int) + (if o.getD k (-1) = x then 1 else 0) = o.count (x : Int) + (if x = t then 1 else 0) := by
  have hg : o.getD k (-1) = o[k] := by simp [List.getD, List.getElem?_eq_getElem hk]
  rw [List.count_set hk, hg]
  have hc : o[k] = (x : Int) → 0 < o.count (x : Int) := fun e => List.count_pos_iff.2 (e ▸ List.getElem_mem hk)
  by_cases e1 : o[k] = (x : Int)
  · have := hc e1
    by_cases e2 : x = t <;> simp [e1, e2] <;> (try subst e2) <;> (try omega)
    have : ¬ (t : Int) = (x : Int) := by omega
    simp [this]; omega
  · by_cases e2 : x = t
    · subst e2; simp [e1]
    · have : ¬ (t : Int) = (x : Int) := by omega
      simp [e1, e2, this]
theorem un_set (s : List Bool) (k : Nat) (h : s.getD k true = false) : (s.set k true).count false + 1 = s.count false ∧ k < s.length := by
  have hk : k < s.length := by
    by_cases hk : k < s.length
    · exact hk
    · simp [List.getD, List.getElem?_eq_none (Nat.le_of_not_lt hk)] at h
  have hg : s.getD k true = s[k] := by simp [List.getD, List.getElem?_eq_getElem hk]
  rw [hg] at h
  have : 0 < s.count false := List.count_pos_iff.2 (h ▸ List.getElem_mem hk)
  rw [List.count_set hk, h]
  exact ⟨by simp; omega, hk⟩
theorem un_mono {s s' : List Bool} (hl : s.length = s'.length) (h : ∀ k, s.getD k true = true → s'.getD k true = true) : s'.count false ≤ s.count false := by
  induction s generalizing s' with
  | nil => cases s' with
    | nil => exact Nat.le_refl _
    | cons a l => simp at hl
  | cons a l ih =>
    cases s' with
    | nil => simp at hl
    | cons a' l' =>
      have := ih (s' := l') (by simpa using hl) (fun k hk => by simpa [List.getD] using h (k + 1) (by simpa [List.getD] using hk))
      have h0 := h 0
      simp [List.getD] at h0
      cases a <;> cases a' <;> simp at h0 ⊢ <;> omega
theorem gvLoop_ok (rec : List Int → List Bool → Nat → Bool × List Int × List Bool) (c : Nat → Nat → Bool) (n f t : Nat)
    (hrec : ∀ o s t, o.length = n → s.length = n → OwnV c n o → s.count false < f → GvOk c n 0 o s t (rec o s t)) :
    ∀ (j k : Nat), n - k = j → k ≤ n → ∀ o s, o.length = n → s.length = n → OwnV c n o → s.count false < f + 1 → GvOk c n k o s t (gvLoop rec c n t (n - k) o s) := by
  intro j
  induction j with
  | zero =>
    intro k hk hkn o s ho hs hv hf
    rw [hk]
    exact ⟨ho, hs, fun h hh => hh, hv, fun h _ => rfl, (fun h => by cases h), fun _ => ⟨rfl, fun h h1 h2 => by omega, fun h h1 h2 h3 => by rw [gvLoop] at h3; rw [h2] at h3; cases h3⟩⟩
  | succ j ih =>
    intro k hk hkn o s ho hs hv hf
    rw [gvLoop_at _ _ _ _ _ (by omega)]
    split
    · rename_i hc
      have r := ih (k + 1) (by omega) (by omega) o s ho hs hv hf
      refine ⟨r.lenO, r.lenS, r.mono, r.valid, r.keep, r.yes, fun hb => ?_⟩
      obtain ⟨r1, r2, r3⟩ := r.no hb
      refine ⟨r1, fun h h1 h2 h3 => ?_, r3⟩
      by_cases e : h = k
      · subst e
        rw [h3] at hc
        exact r.mono _ (by simpa using hc)
      · exact r2 h (by omega) h2 h3
    · rename_i hc
      have hc' : (s.getD k true || !c k t) = false := by cases h : (s.getD k true || !c k t) with
        | false => rfl
        | true => exact absurd h hc
      rw [Bool.or_eq_false_iff] at hc'
      have hsk : s.getD k true = false := hc'.1
      have hck : c k t = true := flip_f hc'.2
      obtain ⟨hun, hkl⟩ := un_set s k hsk
      have hmono1 : ∀ h, s.getD h true = true → (s.set k true).getD h true = true := fun h hh => by
        rw [getD_set _ _ _ _ _ hkl]; split
        · rfl
        · exact hh
      have hkO : k < o.length := by omega
      split
      · rename_i hneg
        have hm1 : o.getD k (-1) = -1 := by
          rcases hv k (by omega) with h | ⟨x, h, _⟩
          · exact h
          · rw [h] at hneg; omega
        refine ⟨by simp [ho], by simp [hs], hmono1, fun h hh => ?_, fun h hh => ?_, fun _ x => ?_, (fun h => by cases h)⟩
        · rw [getD_set _ _ _ _ _ hkO]
          split
          · rename_i e; exact .inr ⟨t, rfl, e ▸ hck⟩
          · exact hv h hh
        · rw [getD_set _ _ _ _ _ hkO, if_neg (fun e => by rw [e, hsk] at hh; cases hh)]
        · have := count_set_int o k t x hkO
          rw [hm1, if_neg (show ¬ (-1 : Int) = (x : Int) by omega)] at this
          exact this
      · rename_i hneg
        obtain ⟨y, hy, hcy⟩ : ∃ y : Nat, o.getD k (-1) = y ∧ c k y = true := by
          rcases hv k (by omega) with h | h
          · rw [h] at hneg; omega
          · exact h
        have hyn : (o.getD k (-1)).toNat = y := by rw [hy]; rfl
        rw [hyn]
        have r := hrec o (s.set k true) y ho (by simp [hs]) hv (by omega)
        have hks : (s.set k true).getD k true = true := by rw [getD_set _ _ _ _ _ hkl, if_pos rfl]
        generalize rec o (s.set k true) y = R at r
        split
        · rename_i hb
          have hkR : k < R.2.1.length := by rw [r.lenO]; omega
          refine ⟨by simp [r.lenO], r.lenS, fun h hh => r.mono h (hmono1 h hh), fun h hh => ?_, fun h hh => ?_, fun _ x => ?_, (fun h => by cases h)⟩
          · rw [getD_set _ _ _ _ _ hkR]
            split
            · rename_i e; exact .inr ⟨t, rfl, e ▸ hck⟩
            · exact r.valid h hh
          · rw [getD_set _ _ _ _ _ hkR, if_neg (fun e => by rw [e, hsk] at hh; cases hh)]
            exact r.keep h (hmono1 h hh)
          · have := count_set_int R.2.1 k t x hkR
            rw [r.keep k hks, hy, r.yes hb x] at this
            by_cases e : x = y
            · subst e; simp at this ⊢; omega
            · rw [if_neg (show ¬ (y : Int) = (x : Int) by omega), if_neg e] at this
              simp at this ⊢; omega
        · rename_i hb
          have hb : R.1 = false := by cases h : R.1 <;> simp [h] at hb ⊢
          obtain ⟨r1, r2, r3⟩ := r.no hb
          have hun2 := un_mono (s := s.set k true) (s' := R.2.2) (by rw [r.lenS]; simp [hs]) r.mono
          have q := ih (k + 1) (by omega) (by omega) R.2.1 R.2.2 r.lenO r.lenS r.valid (by omega)
          rw [r1] at q ⊢
          refine ⟨q.lenO, q.lenS, fun h hh => q.mono h (r.mono h (hmono1 h hh)), q.valid, fun h hh => q.keep h (r.mono h (hmono1 h hh)), q.yes, fun hq => ?_⟩
          obtain ⟨q1, q2, q3⟩ := q.no hq
          refine ⟨q1, fun h h1 h2 h3 => ?_, fun h h1 h2 h3 => ?_⟩
          · by_cases e : h = k
            · subst e; exact q.mono _ (r.mono _ hks)
            · exact q2 h (by omega) h2 h3
          · by_cases e : h = k
            · subst e
              exact ⟨y, hy, fun h' g1 g2 => q.mono _ (r2 h' (by omega) g1 g2)⟩
            · cases e2 : R.2.2.getD h true with
              | true =>
                obtain ⟨x, hx, hx2⟩ := r3 h h1 (by rw [getD_set _ _ _ _ _ hkl, if_neg e]; exact h2) e2
                exact ⟨x, hx, fun h' g1 g2 => q.mono _ (hx2 h' g1 g2)⟩
              | false => exact q3 h h1 e2 h3
theorem gv_ok (c : Nat → Nat → Bool) (n : Nat) : ∀ (f : Nat) (o : List Int) (s : List Bool) (t : Nat), o.length = n → s.length = n → OwnV c n o → s.count false < f → GvOk c n 0 o s t (gv c n f o s t) := by
  intro f
  induction f with
  | zero => intro o s t _ _ _ h; omega
  | succ f ih =>
    intro o s t ho hs hv hf
    exact gvLoop_ok (gv c n f) c n f t (fun o s t => ih o s t) n 0 rfl (by omega) o s ho hs hv hf

/-- Task after task. -/
def kuhn (c : Nat → Nat → Bool) (n : Nat) (s0 : List Bool) : Nat → List Int × Nat
  | 0 => (List.replicate n (-1), 0)
  | t + 1 => ((gv c n (n + 1) (kuhn c n s0 t).1 s0 t).2.1, (kuhn c n s0 t).2 + if (gv c n (n + 1) (kuhn c n s0 t).1 s0 t).1 then 1 else 0)
/-- The helper whom a list of tasks gives to a task. -/
def ofO (o : List Int) (i : Nat) : Option Nat := if (i : Int) ∈ o then some (o.idxOf (i : Int)) else none
theorem ofO_some {o : List Int} {i h : Nat} (hh : ofO o i = some h) : h < o.length ∧ o.getD h (-1) = i := by
  unfold ofO at hh
  split at hh
  · rename_i hm
    injection hh with hh
    subst hh
    have := List.idxOf_lt_length_of_mem hm
    refine ⟨this, ?_⟩
    rw [List.getD, List.getElem?_eq_getElem this]
    simp
  · cases hh
theorem ofO_is {o : List Int} {i : Nat} : (ofO o i).isSome = decide ((i : Int) ∈ o) := by
  unfold ofO; split <;> simp [*]
theorem count_two {o : List Int} {i j : Nat} {x : Int} (hij : i < j) (hj : j < o.length) (hi : o.getD i (-1) = x) (h : o.getD j (-1) = x) : 2 ≤ o.count x := by
  have e : o.count x = (o.take j).count x + (o.drop j).count x := by rw [← List.count_append, List.take_append_drop]
  have hgi : o.getD i (-1) = o[i]'(by omega) := by rw [List.getD, List.getElem?_eq_getElem (by omega : i < o.length)]; rfl
  have hgj : o.getD j (-1) = o[j] := by rw [List.getD, List.getElem?_eq_getElem hj]; rfl
  have h1 : 0 < (o.take j).count x := List.count_pos_iff.2 (List.mem_take_iff_getElem.2 ⟨i, by omega, by rw [← hi, hgi]⟩)
  have h2 : 0 < (o.drop j).count x := List.count_pos_iff.2 (by rw [List.drop_eq_getElem_cons hj, ← h, hgj]; exact List.mem_cons_self)
  omega
theorem own_inj {o : List Int} (h1 : ∀ x : Nat, o.count (x : Int) ≤ 1) {i j x : Nat} (hi : i < o.length) (hj : j < o.length) (ei : o.getD i (-1) = x) (ej : o.getD j (-1) = x) : i = j := by
  rcases Nat.lt_trichotomy i j with h | h | h
  · have := count_two h hj ei ej; have := h1 x; omega
  · exact h
  · have := count_two h hi ej ei; have := h1 x; omega
theorem mem_of_own {o : List Int} {h x : Nat} (hh : h < o.length) (e : o.getD h (-1) = x) : (x : Int) ∈ o := by
  have : o.getD h (-1) = o[h] := by rw [List.getD, List.getElem?_eq_getElem hh]; rfl
  rw [← e, this]; exact List.getElem_mem hh

structure KuOk (c : Nat → Nat → Bool) (n : Nat) (s0 : List Bool) (t : Nat) (o : List Int) (many : Nat) : Prop where
  len : o.length = n
  valid : OwnV c n o
  one : ∀ x : Nat, o.count (x : Int) ≤ 1
  none : ∀ x : Nat, t ≤ x → o.count (x : Int) = 0
  free : ∀ h, h < n → s0.getD h true = true → o.getD h (-1) = -1
  size : szM t (ofO o) = many
  top : ∀ g, IsM c (fun h => h < n ∧ s0.getD h true = false) t g → szM t g ≤ many
theorem KuOk.isM {c : Nat → Nat → Bool} {n : Nat} {s0 : List Bool} {t : Nat} {o : List Int} {many : Nat} (k : KuOk c n s0 t o many) : IsM c (fun h => h < n ∧ s0.getD h true = false) t (ofO o) := by
  refine ⟨fun i hi h hh => ?_, fun i j hi hj h h1 h2 => ?_⟩
  · obtain ⟨h1, h2⟩ := ofO_some hh
    have hn : h < n := by rw [← k.len]; exact h1
    refine ⟨⟨hn, ?_⟩, ?_⟩
    · cases e : s0.getD h true with
      | false => rfl
      | true => have := k.free h hn e; omega
    · rcases k.valid h hn with e | ⟨x, e, hc⟩
      · omega
      · have : x = i := by omega
        rw [← this]; exact hc
  · have := (ofO_some h1).2
    have := (ofO_some h2).2
    omega
theorem kuhn_ok (c : Nat → Nat → Bool) (n : Nat) (s0 : List Bool) (hs : s0.length = n) : ∀ t, KuOk c n s0 t (kuhn c n s0 t).1 (kuhn c n s0 t).2 := by
  intro t
  induction t with
  | zero =>
    have hg : ∀ h, (List.replicate n (-1 : Int)).getD h (-1) = -1 := fun h => by
      simp only [List.getD, List.getElem?_replicate]; split <;> rfl
    have hc : ∀ x : Nat, (List.replicate n (-1 : Int)).count (x : Int) = 0 := fun x => by
      rw [List.count_replicate]; simp
    exact ⟨by simp [kuhn], fun h _ => .inl (hg h), fun x => by rw [kuhn, hc]; omega, fun x _ => hc x, fun h _ _ => hg h, rfl, fun g _ => by simp [szM_zero, kuhn]⟩
  | succ t ih =>
    have hun : s0.count false < n + 1 := by have := List.count_le_length (a := false) (l := s0); omega
    have r := gv_ok c n (n + 1) (kuhn c n s0 t).1 s0 t ih.len hs ih.valid hun
    simp only [kuhn]
    generalize kuhn c n s0 t = K at ih r
    obtain ⟨o, many⟩ := K
    simp only at ih r ⊢
    generalize gv c n (n + 1) o s0 t = R at r
    obtain ⟨b, o', s'⟩ := R
    simp only at r ⊢
    cases b with
    | true =>
      have hy : ∀ x : Nat, o'.count (x : Int) = o.count (x : Int) + if x = t then 1 else 0 := r.yes rfl
      have hmem : ∀ x : Nat, ((x : Int) ∈ o') ↔ ((x : Int) ∈ o ∨ x = t) := fun x => by
        rw [← List.count_pos_iff, ← List.count_pos_iff, hy x]; split <;> omega
      refine ⟨r.lenO, r.valid, fun x => ?_, fun x hx => ?_, fun h hh e => by rw [r.keep h e]; exact ih.free h hh e, ?_, fun g hg => ?_⟩
      · rw [hy x]; split
        · rename_i e; rw [ih.none x (by omega)]; omega
        · exact ih.one x
      · rw [hy x, ih.none x (by omega), if_neg (by omega)]
      · rw [szM_succ]
        have e1 : szM t (ofO o') = szM t (ofO o) := szM_congr fun i hi => by
          rw [ofO_is, ofO_is]
          have := hmem i
          have hne : i ≠ t := by omega
          simp [hne] at this
          simp [this]
        rw [e1, ih.size, ofO_is]
        have := (hmem t).2 (.inr rfl)
        simp [this]
      · have := ih.top g hg.less
        rw [szM_succ]
        simp only [if_true]
        split <;> omega
    | false =>
      obtain ⟨e1, r2, r3⟩ := r.no rfl
      subst e1
      have hlen := ih.len
      refine ⟨ih.len, ih.valid, ih.one, fun x hx => ih.none x (by omega), ih.free, ?_, fun g hg => ?_⟩
      · have : ¬ ((t : Int) ∈ o') := fun h => by
          have := List.count_pos_iff.2 h
          rw [ih.none t (by omega)] at this; omega
        rw [szM_succ, ofO_is, ih.size]; simp [this]
      · simp only [Nat.add_zero, Bool.false_eq_true, if_false]
        -- the helpers that were asked, and their tasks
        let g2 : Nat → Option Nat := fun i => match ofO o' i with
          | some h => if s'.getD h true = true ∧ s0.getD h true = false then some h else (match g i with | some h' => if s'.getD h' true = true then none else some h' | none => none)
          | none => (match g i with | some h' => if s'.getD h' true = true then none else some h' | none => none)
        have two : ∀ i h, g2 i = some h → (ofO o' i = some h ∧ s'.getD h true = true ∧ s0.getD h true = false) ∨ (g i = some h ∧ s'.getD h true = false) := by
          intro i h hh
          simp only [g2] at hh
          cases e : ofO o' i with
          | some y =>
            simp only [e] at hh
            split at hh
            · rename_i hc; injection hh with hh; subst hh; exact .inl ⟨rfl, hc⟩
            · cases e2 : g i with
              | none => simp [e2] at hh
              | some z =>
                simp only [e2] at hh
                split at hh
                · cases hh
                · rename_i hz; injection hh with hh; subst hh; exact .inr ⟨rfl, by simpa using hz⟩
          | none =>
            simp only [e] at hh
            cases e2 : g i with
            | none => simp [e2] at hh
            | some z =>
              simp only [e2] at hh
              split at hh
              · cases hh
              · rename_i hz; injection hh with hh; subst hh; exact .inr ⟨rfl, by simpa using hz⟩
        have hM := ih.isM
        have hg2 : IsM c (fun h => h < n ∧ s0.getD h true = false) t g2 := by
          refine ⟨fun i hi h hh => ?_, fun i j hi hj h h1 h2 => ?_⟩
          · rcases two i h hh with ⟨a, _, _⟩ | ⟨a, _⟩
            · exact hM.can i hi h a
            · exact hg.can i (by omega) h a
          · rcases two i h h1 with ⟨a, b, _⟩ | ⟨a, b⟩ <;> rcases two j h h2 with ⟨a', b', _⟩ | ⟨a', b'⟩
            · exact hM.inj i j hi hj h a a'
            · rw [b] at b'; cases b'
            · rw [b] at b'; cases b'
            · exact hg.inj i j (by omega) (by omega) h a a'
        refine Nat.le_trans ?_ (ih.top g2 hg2)
        -- each task that g serves goes to one that g2 serves
        let φ : Nat → Nat := fun i => match g i with
          | some h => if s'.getD h true = true then (o'.getD h (-1)).toNat else i
          | none => i
        have key : ∀ i, i < t + 1 → ∀ h, g i = some h →
            (s'.getD h true = true ∧ o'.getD h (-1) = (φ i : Int) ∧ h < n ∧ s0.getD h true = false ∧ ∀ h', h' < n → c h' (φ i) = true → s'.getD h' true = true) ∨ (s'.getD h true = false ∧ φ i = i ∧ h < n ∧ c h i = true) := by
          intro i hi h hh
          obtain ⟨⟨hn, h0⟩, hc⟩ := hg.can i hi h hh
          cases e : s'.getD h true with
          | true =>
            obtain ⟨x, hx, hx2⟩ := r3 h hn h0 e
            have : φ i = x := by simp only [φ, hh, e, if_true, hx]; rfl
            exact .inl ⟨rfl, by rw [this]; exact hx, hn, h0, by rw [this]; exact hx2⟩
          | false => exact .inr ⟨rfl, by simp only [φ, hh, e]; simp, hn, hc⟩
        unfold szM
        rw [← List.length_map (f := φ)]
        refine nodup_len _ _ (nodup_map_on (List.Nodup.sublist List.filter_sublist List.nodup_range) fun i hi j hj e => ?_) fun y hy => ?_
        · simp only [List.mem_filter, List.mem_range, Option.isSome_iff_exists] at hi hj
          obtain ⟨hi, h, hh⟩ := hi
          obtain ⟨hj, h', hh'⟩ := hj
          rcases key i hi h hh with ⟨a1, a2, a3, a4, a5⟩ | ⟨a1, a2, a3, a4⟩ <;> rcases key j hj h' hh' with ⟨b1, b2, b3, b4, b5⟩ | ⟨b1, b2, b3, b4⟩
          · have : h = h' := own_inj ih.one (by show h < o'.length; have : o'.length = n := hlen; omega) (by show h' < o'.length; have : o'.length = n := hlen; omega) a2 (by rw [e]; exact b2)
            subst this
            exact hg.inj i j hi hj h hh hh'
          · rw [e, b2] at a5
            have := a5 h' b3 b4
            rw [this] at b1; cases b1
          · rw [← e, a2] at b5
            have := b5 h a3 a4
            rw [this] at a1; cases a1
          · omega
        · rw [List.mem_map] at hy
          obtain ⟨i, hi, rfl⟩ := hy
          simp only [List.mem_filter, List.mem_range, Option.isSome_iff_exists] at hi
          obtain ⟨hi, h, hh⟩ := hi
          simp only [List.mem_filter, List.mem_range]
          rcases key i hi h hh with ⟨a1, a2, a3, a4, a5⟩ | ⟨a1, a2, a3, a4⟩
          · have hm := mem_of_own (by show h < o'.length; have : o'.length = n := hlen; omega) a2
            have hlt : φ i < t := by
              by_cases hlt : φ i < t
              · exact hlt
              · have := List.count_pos_iff.2 hm
                rw [ih.none (φ i) (by omega)] at this; omega
            refine ⟨hlt, ?_⟩
            have ho : ofO o' (φ i) = some h := by
              cases e : ofO o' (φ i) with
              | none => have := ofO_is (o := o') (i := φ i); rw [e] at this; simp [hm] at this
              | some y =>
                obtain ⟨y1, y2⟩ := ofO_some e
                rw [own_inj ih.one y1 (by show h < o'.length; have : o'.length = n := hlen; omega) y2 a2]
            simp only [g2, ho, a1, a4, and_self, if_true]; rfl
          · rw [a2]
            have hlt : i < t := by
              by_cases hlt : i < t
              · exact hlt
              · have hit : i = t := by omega
                rw [hit] at a4
                have := r2 h (by omega) a3 a4
                rw [this] at a1; cases a1
            refine ⟨hlt, ?_⟩
            cases e : ofO o' i with
            | none => simp only [g2, e, hh, a1]; rfl
            | some y =>
              simp only [g2, e]
              split
              · rfl
              · simp only [hh, a1]; rfl
theorem kuhn_opt (c : Nat → Nat → Bool) (n : Nat) (s0 : List Bool) (hs : s0.length = n) (t : Nat) : Opt c (fun h => h < n ∧ s0.getD h true = false) t (kuhn c n s0 t).2 :=
  ⟨⟨_, (kuhn_ok c n s0 hs t).isM, (kuhn_ok c n s0 hs t).size⟩, (kuhn_ok c n s0 hs t).top⟩
theorem kuhn_len (c : Nat → Nat → Bool) (n : Nat) (s0 : List Bool) (hs : s0.length = n) (t : Nat) : (kuhn c n s0 t).1.length = n := (kuhn_ok c n s0 hs t).len

/-! ### the first list that fills all tasks -/
section
variable {τ : Type}
def fillR (cs : τ → List Nat) : List τ → List Nat → Option (List Nat)
  | [], given => some given
  | t :: ts, given => (cs t).findSome? fun k => if given.contains k then none else fillR cs ts (given ++ [k])
theorem fillR_iff (cs : τ → List Nat) : ∀ (ts : List τ) (given : List Nat), (fillR cs ts given).isSome = true ↔ Opt (cOf cs ts) (fun h => h ∉ given) ts.length ts.length := by
  intro ts
  induction ts with
  | nil => intro given; exact ⟨fun _ => ⟨⟨fun _ => none, ⟨fun i hi => by simp at hi, fun i j hi => by simp at hi⟩, rfl⟩, fun g _ => szM_le _ g⟩, fun _ => rfl⟩
  | cons t ts ih =>
    intro given
    rw [fillR, List.isSome_findSome?, List.any_eq_true]
    constructor
    · rintro ⟨k, hk, hs⟩
      cases hc : given.contains k with
      | true => rw [if_pos hc] at hs; cases hs
      | false =>
        rw [if_neg (by rw [hc]; simp)] at hs
        obtain ⟨g, hg, hv⟩ := ((ih (given ++ [k])).1 hs).has
        have hkg : k ∉ given := by simpa using hc
        refine ⟨⟨_, IsM.cons (o := some k) (fun k' h => by injection h with h; subst h; exact ⟨hkg, hk⟩) ⟨fun i hi k' h => ?_, hg.inj⟩, ?_⟩, fun g _ => szM_le _ g⟩
        · obtain ⟨a, b⟩ := hg.can i hi k' h
          simp at a
          exact ⟨⟨a.1, fun e => a.2 (by injection e with e; exact e.symm)⟩, b⟩
        · rw [List.length_cons, szM_cons]; simp [hv]; omega
    · rintro ⟨⟨g, hg, hv⟩, _⟩
      rw [List.length_cons] at hg hv
      have h0 := szM_full hv 0 (by omega)
      obtain ⟨k, hk⟩ := Option.isSome_iff_exists.1 h0
      obtain ⟨h1, h2⟩ := hg.can 0 (by omega) k hk
      rw [cOf_zero] at h2
      refine ⟨k, by simpa using h2, ?_⟩
      rw [if_neg (by simpa using h1)]
      refine (ih _).2 ⟨⟨fun i => g (i + 1), ?_, ?_⟩, fun g _ => szM_le _ g⟩
      · have ht := hg.tail
        refine ⟨fun i hi k' h => ?_, ht.inj⟩
        obtain ⟨a, b⟩ := ht.can i hi k' h
        refine ⟨?_, b⟩
        simp only [List.mem_append, List.mem_singleton]
        rintro (h | h)
        · exact a.1 h
        · exact a.2 (by rw [hk, h])
      · rw [szM_cons, hk] at hv; simp at hv; omega
/-- The first helper with whom the rest can be filled, task after task. -/
def greedy (cs : τ → List Nat) (full : List τ → List Nat → Bool) : List τ → List Nat → List Nat
  | [], out => out
  | t :: ts, out => match (cs t).find? (fun h => !out.contains h && full ts (out ++ [h])) with
    | some h => greedy cs full ts (out ++ [h])
    | none => greedy cs full ts out
theorem greedy_fill (cs : τ → List Nat) (full : List τ → List Nat → Bool) (hf : ∀ ts given, full ts given = (fillR cs ts given).isSome) :
    ∀ (ts : List τ) (given r : List Nat), fillR cs ts given = some r → greedy cs full ts given = r := by
  intro ts
  induction ts with
  | nil => intro given r h; injection h
  | cons t ts ih =>
    intro given r h
    rw [fillR] at h
    rw [greedy]
    have : ∀ l : List Nat, l.findSome? (fun k => if given.contains k then none else fillR cs ts (given ++ [k])) = some r →
        ∃ k, l.find? (fun h => !given.contains h && full ts (given ++ [h])) = some k ∧ fillR cs ts (given ++ [k]) = some r := by
      intro l
      induction l with
      | nil => intro h; cases h
      | cons a l ihl =>
        intro h
        rw [List.findSome?_cons] at h
        rw [List.find?_cons]
        cases hc : given.contains a with
        | true =>
          simp only [hc, if_true] at h
          simp only [Bool.not_true, Bool.false_and]
          exact ihl h
        | false =>
          simp only [hc, Bool.false_eq_true, if_false] at h
          simp only [Bool.not_false, Bool.true_and, hf]
          cases he : fillR cs ts (given ++ [a]) with
          | none =>
            rw [he] at h
            obtain ⟨k, h1, h2⟩ := ihl h
            exact ⟨k, by show List.find? (fun h => !given.contains h && (fillR cs ts (given ++ [h])).isSome) l = some k; simpa only [hf] using h1, h2⟩
          | some y => rw [he] at h; injection h with h; subst h; exact ⟨a, rfl, he⟩
    obtain ⟨k, h1, h2⟩ := this _ h
    rw [h1]
    exact ih _ _ h2
end
end Go.Proofs.Ytcacmiafmanniaa
