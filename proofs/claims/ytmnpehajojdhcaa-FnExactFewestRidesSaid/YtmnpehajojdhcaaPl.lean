/- Loads: FewestRides: the search as a plain function. -/
import Derived.Test.YtmnpehajojdhcaaPk
namespace Go.Proofs.Ytmnpehajojdhcaa
open Go.RowKit
set_option maxRecDepth 100000
set_option linter.unusedVariables false
set_option linter.unusedSimpArgs false

structure FS where
  left : Nat
  spent : Bool
  best : Option (List Nat × Nat)
def fput (s : FS) (g : List Nat) (u : Nat) : FS := match s.best with
  | some (_, m) => if u < m then ⟨s.left, s.spent, some (g, u)⟩ else s
  | none => ⟨s.left, s.spent, some (g, u)⟩
/-- The groups ahead of number i that are on a ride. -/
def rideTo (g : List Nat) (k : Nat) (i : Nat) : List Nat := (List.range i).filter (fun j => g.getD j 0 == k)
def rideW (g : List Nat) (k : Nat) : List Nat := rideTo g k g.length
def fstep (l : List GroupR) (r : RoomR) (rec : List Nat → Nat → FS → FS) (g : List Nat) (u : Nat) (s : FS) (k : Nat) : FS := if fitsW l r (rideW g k ++ [g.length]) then rec (g ++ [k]) (max u (k + 1)) s else s
def fs (l : List GroupR) (r : RoomR) : Nat → List Nat → Nat → FS → FS
  | 0, _, _, s => s
  | m + 1, g, u, s => if s.spent then s else if s.left = 0 then ⟨0, true, s.best⟩ else if g.length = l.length then fput ⟨s.left - 1, false, s.best⟩ g u else (List.range (u + 1)).foldl (fstep l r (fs l r m) g u) ⟨s.left - 1, false, s.best⟩
theorem rideTo_succ (g : List Nat) (k i : Nat) : rideTo g k (i + 1) = rideTo g k i ++ (if g.getD i 0 == k then [i] else []) := by
  unfold rideTo
  rw [List.range_succ, List.filter_append, List.filter_cons, List.filter_nil]
theorem rideTo_lt {g : List Nat} {k i : Nat} : ∀ x ∈ rideTo g k i, x < i := by
  intro x hx
  unfold rideTo at hx
  rw [List.mem_filter, List.mem_range] at hx
  exact hx.1
theorem rideTo_len (g : List Nat) (k i : Nat) : (rideTo g k i).length ≤ i := by
  unfold rideTo
  have := List.length_filter_le (fun j => g.getD j 0 == k) (List.range i)
  simpa using this
theorem rideTo_append (g : List Nat) (k x : Nat) : ∀ i, i ≤ g.length → rideTo (g ++ [x]) k i = rideTo g k i := by
  intro i
  induction i with
  | zero => intro _; rfl
  | succ i ih =>
    intro hi
    rw [rideTo_succ, rideTo_succ, ih (by omega)]
    have : (g ++ [x]).getD i 0 = g.getD i 0 := by simp [List.getD, List.getElem?_append_left (show i < g.length by omega)]
    rw [this]
theorem rideW_snoc (g : List Nat) (k x : Nat) : rideW (g ++ [x]) k = rideW g k ++ (if x == k then [g.length] else []) := by
  unfold rideW
  rw [List.length_append, show g.length + [x].length = g.length + 1 from rfl, rideTo_succ, rideTo_append _ _ _ _ (Nat.le_refl _)]
  have : (g ++ [x]).getD g.length 0 = x := by simp [List.getD]
  rw [this]
theorem rideW_new {g : List Nat} {u : Nat} (h : ∀ x ∈ g, x < u) : rideW g u = [] := by
  unfold rideW rideTo
  rw [List.filter_eq_nil_iff]
  intro j hj
  rw [List.mem_range] at hj
  have := h _ (getD_memN hj)
  simp only [beq_iff_eq]
  omega
theorem fs_spent (l : List GroupR) (r : RoomR) (m : Nat) (g : List Nat) (u : Nat) (s : FS) (h : s.spent = true) : fs l r m g u s = s := by
  cases m with
  | zero => rfl
  | succ m => rw [fs, if_pos h]
theorem fkids_spent (l : List GroupR) (r : RoomR) (m : Nat) (g : List Nat) (u : Nat) : ∀ (ks : List Nat) (s : FS), s.spent = true → ks.foldl (fstep l r (fs l r m) g u) s = s := by
  intro ks
  induction ks with
  | nil => intro s _; rfl
  | cons k ks ih =>
    intro s h
    rw [List.foldl_cons]
    have : fstep l r (fs l r m) g u s k = s := by unfold fstep; rw [fs_spent _ _ _ _ _ _ h]; split <;> rfl
    rw [this]; exact ih s h
theorem fput_left (s : FS) (g : List Nat) (u : Nat) : (fput s g u).left = s.left ∧ (fput s g u).spent = s.spent := by unfold fput; split; split <;> exact ⟨rfl, rfl⟩; exact ⟨rfl, rfl⟩
theorem fs_left (l : List GroupR) (r : RoomR) : ∀ (m : Nat) (g : List Nat) (u : Nat) (s : FS), (fs l r m g u s).left ≤ s.left := by
  intro m
  induction m with
  | zero => intro g u s; exact Nat.le_refl _
  | succ m ih =>
    intro g u s
    rw [fs]
    split
    · exact Nat.le_refl _
    · split
      · simp
      · split
        · rw [(fput_left _ _ _).1]; simp
        · refine Nat.le_trans ?_ (show (⟨s.left - 1, false, s.best⟩ : FS).left ≤ s.left by simp)
          generalize (⟨s.left - 1, false, s.best⟩ : FS) = s1
          generalize List.range (u + 1) = ks
          induction ks generalizing s1 with
          | nil => exact Nat.le_refl _
          | cons k ks ihk =>
            rw [List.foldl_cons]
            refine Nat.le_trans (ihk _) ?_
            unfold fstep
            split
            · exact ih _ _ _
            · exact Nat.le_refl _
/-- What the search keeps: the best list is as long as the groups are many, its number no greater. -/
def FOk (n : Nat) (s : FS) : Prop := ∀ g m, s.best = some (g, m) → g.length = n ∧ m ≤ n
theorem fput_ok {n : Nat} {s : FS} {g : List Nat} {u : Nat} (h : FOk n s) (hg : g.length = n) (hu : u ≤ n) : FOk n (fput s g u) := by
  unfold fput
  split
  · split
    · intro g' m' e; simp only [Option.some.injEq, Prod.mk.injEq] at e; obtain ⟨rfl, rfl⟩ := e; exact ⟨hg, hu⟩
    · exact h
  · intro g' m' e; simp only [Option.some.injEq, Prod.mk.injEq] at e; obtain ⟨rfl, rfl⟩ := e; exact ⟨hg, hu⟩
theorem fs_ok (l : List GroupR) (r : RoomR) : ∀ (m : Nat) (g : List Nat) (u : Nat) (s : FS), g.length ≤ l.length → u ≤ g.length → FOk l.length s → FOk l.length (fs l r m g u s) := by
  intro m
  induction m with
  | zero => intro g u s _ _ h; exact h
  | succ m ih =>
    intro g u s hgl hul h
    rw [fs]
    split
    · exact h
    · split
      · exact h
      · split
        · rename_i hge
          exact fput_ok (s := ⟨s.left - 1, false, s.best⟩) h hge (by omega)
        · rename_i hge
          have h1 : FOk l.length ⟨s.left - 1, false, s.best⟩ := h
          have hmem : ∀ k ∈ List.range (u + 1), k ≤ u := fun k hk => by rw [List.mem_range] at hk; omega
          generalize (⟨s.left - 1, false, s.best⟩ : FS) = s1 at h1
          generalize List.range (u + 1) = ks at hmem
          induction ks generalizing s1 with
          | nil => exact h1
          | cons k ks ihk =>
            rw [List.foldl_cons]
            refine ihk _ ?_ (fun x hx => hmem x (List.mem_cons_of_mem _ hx))
            have hk := hmem k (by simp)
            unfold fstep
            split
            · exact ih _ _ _ (by simp; omega) (by simp; omega) h1
            · exact h1
theorem ffold_succ (f : FS → Nat → FS) (k : Nat) (s : FS) : (List.range (k + 1)).foldl f s = f ((List.range k).foldl f s) k := by
  rw [List.range_succ, List.foldl_append]; rfl
theorem frange_from (f : FS → Nat → FS) (s : FS) (k n : Nat) (hk : k ≤ n) (h : ∀ ks : List Nat, ks.foldl f ((List.range k).foldl f s) = (List.range k).foldl f s) : (List.range n).foldl f s = (List.range k).foldl f s := by
  obtain ⟨d, rfl⟩ : ∃ d, n = k + d := ⟨n - k, by omega⟩
  rw [List.range_add, List.foldl_append]; exact h _
def fbL (s : FS) : List Nat := match s.best with | some (g, _) => g | none => []
def fbM (s : FS) : Nat := match s.best with | some (_, m) => m | none => 0
def fbZ (s : FS) : Int := match s.best with | some (_, m) => (m : Int) | none => -1
theorem fb_none {s : FS} (h : s.best = none) : fbL s = [] ∧ fbM s = 0 ∧ s.best.isSome = false ∧ fbZ s = -1 := by unfold fbL fbM fbZ; rw [h]; exact ⟨rfl, rfl, rfl, rfl⟩
theorem fb_some {s : FS} {g : List Nat} {m : Nat} (h : s.best = some (g, m)) : fbL s = g ∧ fbM s = m ∧ s.best.isSome = true ∧ fbZ s = (m : Int) := by unfold fbL fbM fbZ; rw [h]; exact ⟨rfl, rfl, rfl, rfl⟩
/-- Each group fits alone. -/
def aloneB (l : List GroupR) (r : RoomR) : Bool := allTo (fun i => fitsW l r [i]) l.length
def rFewestRides (l : List GroupR) (r : RoomR) (budget : Int) : List Int × Int × Int :=
  if groupBAll l && roomB r.People r.Bikes r.Kilos then (if inB budget 1 20000 then (if aloneB l r then
    (if (fs l r (l.length + 1) [] 0 ⟨budget.toNat, false, none⟩).spent then ([], 0, 5) else (ciN (fbL (fs l r (l.length + 1) [] 0 ⟨budget.toNat, false, none⟩)), fbZ (fs l r (l.length + 1) [] 0 ⟨budget.toNat, false, none⟩), 0)) else ([], 0, 3)) else ([], 0, 2)) else ([], 0, 1)
/-- Where a search that is not spent has been, there is a best list. -/
theorem fs_some (l : List GroupR) (r : RoomR) (hal : aloneB l r = true) : ∀ (m : Nat) (g : List Nat) (u : Nat) (s : FS), g.length ≤ l.length → l.length < m + g.length → (∀ x ∈ g, x < u) → (fs l r m g u s).spent = false → (fs l r m g u s).best.isSome = true ∨ s.spent = true := by
  intro m
  induction m with
  | zero => intro g u s h1 h2; omega
  | succ m ih =>
    intro g u s h1 h2 hgu
    rw [fs]
    split
    · intro h; right; assumption
    · split
      · intro h; cases h
      · split
        · intro _; left; unfold fput; split
          · rename_i e; split
            · rfl
            · simp_all
          · rfl
        · rename_i hne
          intro h
          left
          rw [ffold_succ] at h ⊢
          have hfit : fitsW l r (rideW g u ++ [g.length]) = true := by
            rw [rideW_new hgu]
            exact allTo_true.1 hal g.length (by omega)
          unfold fstep at h ⊢
          rw [if_pos hfit] at h ⊢
          rcases ih (g ++ [u]) (max u (u + 1)) _ (by simp; omega) (by simp; omega) (fun x hx => by
            rw [List.mem_append] at hx
            rcases hx with hx | hx
            · have := hgu x hx; omega
            · simp at hx; omega) h with h3 | h3
          · exact h3
          · rw [fs_spent _ _ _ _ _ _ h3] at h
            rw [h3] at h; cases h
end Go.Proofs.Ytmnpehajojdhcaa
