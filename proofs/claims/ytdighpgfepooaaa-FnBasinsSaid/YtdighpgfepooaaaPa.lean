/- Ballast: BalanceGroups: the search as a plain function. -/
import Derived.Test.YtdighpgfepooaaaZ
namespace Go.Proofs.Ytdighpgfepooaaa
open Go.RowKit
set_option maxRecDepth 100000
set_option linter.unusedVariables false
set_option linter.unusedSimpArgs false

structure BS where
  left : Nat
  spent : Bool
  best : Option (List Int × Int)
def bput (s : BS) (g : List Int) (d : Int) : BS := match s.best with
  | some (_, m) => if d < m then ⟨s.left, s.spent, some (g, d)⟩ else s
  | none => ⟨s.left, s.spent, some (g, d)⟩
def bapart (z : List Int) : Int := if nth z 0 - nth z 1 < 0 then -(nth z 0 - nth z 1) else nth z 0 - nth z 1
def bstep (room x : Int) (rec : List Int → List Int → BS → BS) (g z : List Int) (s : BS) (k : Nat) : BS :=
  if room < nth z k + x then s else if s.spent then s else if s.left = 0 then ⟨0, true, s.best⟩ else rec (g ++ [(k : Int)]) (z.set k (nth z k + x)) ⟨s.left - 1, s.spent, s.best⟩
def bs (room : Int) : List Int → List Int → List Int → BS → BS
  | [], g, z, s => bput s g (bapart z)
  | x :: xs, g, z, s => (List.range 2).foldl (bstep room x (bs room xs) g z) s
theorem bstep_spent (room x : Int) (rec : List Int → List Int → BS → BS) (g z : List Int) (s : BS) (k : Nat) (h : s.spent = true) : bstep room x rec g z s k = s := by
  unfold bstep
  rw [h]
  split <;> rfl
theorem bfold_spent (room x : Int) (rec : List Int → List Int → BS → BS) (g z : List Int) : ∀ (ks : List Nat) (s : BS), s.spent = true → ks.foldl (bstep room x rec g z) s = s := by
  intro ks
  induction ks with
  | nil => intro s _; rfl
  | cons k ks ih => intro s h; rw [List.foldl_cons, bstep_spent _ _ _ _ _ _ _ h]; exact ih s h
theorem bput_left (s : BS) (g : List Int) (d : Int) : (bput s g d).left = s.left := by unfold bput; split; split <;> rfl; rfl
theorem bs_left (room : Int) : ∀ (xs g z : List Int) (s : BS), (bs room xs g z s).left ≤ s.left := by
  intro xs
  induction xs with
  | nil => intro g z s; rw [bs, bput_left]; exact Nat.le_refl _
  | cons x xs ih =>
    intro g z s
    rw [bs]
    generalize List.range 2 = ks
    induction ks generalizing s with
    | nil => exact Nat.le_refl _
    | cons k ks ihk =>
      rw [List.foldl_cons]
      refine Nat.le_trans (ihk _) ?_
      unfold bstep
      split
      · exact Nat.le_refl _
      · split
        · exact Nat.le_refl _
        · split
          · simp
          · refine Nat.le_trans (ih _ _ _) ?_
            simp
/-- What the search keeps: the best list has as many as there are masses, and its number is not negative. -/
def BOk (n : Nat) (s : BS) : Prop := ∀ g m, s.best = some (g, m) → g.length = n ∧ 0 ≤ m
theorem bapart_nn (z : List Int) : 0 ≤ bapart z := by unfold bapart; split <;> omega
theorem bput_ok {n : Nat} {s : BS} {g : List Int} {d : Int} (h : BOk n s) (hg : g.length = n) (hs : 0 ≤ d) : BOk n (bput s g d) := by
  unfold bput
  split
  · split
    · intro g' m' e; simp only [Option.some.injEq, Prod.mk.injEq] at e; obtain ⟨rfl, rfl⟩ := e; exact ⟨hg, hs⟩
    · exact h
  · intro g' m' e; simp only [Option.some.injEq, Prod.mk.injEq] at e; obtain ⟨rfl, rfl⟩ := e; exact ⟨hg, hs⟩
theorem bs_ok {n : Nat} (room : Int) : ∀ (xs g z : List Int) (s : BS), g.length + xs.length = n → BOk n s → BOk n (bs room xs g z s) := by
  intro xs
  induction xs with
  | nil =>
    intro g z s hg h
    rw [bs]
    simp at hg
    exact bput_ok h hg (bapart_nn _)
  | cons x xs ih =>
    intro g z s hg h
    rw [bs]
    generalize List.range 2 = ks
    induction ks generalizing s with
    | nil => exact h
    | cons k ks ihk =>
      rw [List.foldl_cons]
      refine ihk _ ?_
      unfold bstep
      split
      · exact h
      · split
        · exact h
        · split
          · exact h
          · exact ih _ _ _ (by simp at hg ⊢; omega) h
theorem bfold_succ (f : BS → Nat → BS) (k : Nat) (s : BS) : (List.range (k + 1)).foldl f s = f ((List.range k).foldl f s) k := by
  rw [List.range_succ, List.foldl_append]; rfl
theorem brange_from (f : BS → Nat → BS) (s : BS) (k n : Nat) (hk : k ≤ n) (h : ∀ ks : List Nat, ks.foldl f ((List.range k).foldl f s) = (List.range k).foldl f s) : (List.range n).foldl f s = (List.range k).foldl f s := by
  obtain ⟨d, rfl⟩ : ∃ d, n = k + d := ⟨n - k, by omega⟩
  rw [List.range_add, List.foldl_append]; exact h _
def bbL (s : BS) : List Int := match s.best with | some (g, _) => g | none => []
def bbM (s : BS) : Int := match s.best with | some (_, m) => m | none => 0
def bbZ (s : BS) : Int := match s.best with | some (_, m) => m | none => -1
theorem bb_none {s : BS} (h : s.best = none) : bbL s = [] ∧ bbM s = 0 ∧ s.best.isSome = false ∧ bbZ s = -1 := by unfold bbL bbM bbZ; rw [h]; exact ⟨rfl, rfl, rfl, rfl⟩
theorem bb_some {s : BS} {g : List Int} {m : Int} (h : s.best = some (g, m)) : bbL s = g ∧ bbM s = m ∧ s.best.isSome = true ∧ bbZ s = m := by unfold bbL bbM bbZ; rw [h]; exact ⟨rfl, rfl, rfl, rfl⟩
theorem drop_nth {xs : List Int} {i : Nat} (h : i < xs.length) : xs.drop i = nth xs i :: xs.drop (i + 1) := by rw [List.drop_eq_getElem_cons h, nth_eq h]
def massB (l : List Int) : Bool := l.all (fun x => inB x 1 100000)
def balB (l : List Int) (room budget : Int) : Bool := decide (l.length ≤ 10) && massB l && inB room 1 1000000 && inB budget 1 20000
def rBalanceGroups (l : List Int) (room budget : Int) : List Int × Int × Int :=
  if balB l room budget then
    (if (bs room l [] [0, 0] ⟨budget.toNat, false, none⟩).spent then ([], 0, 5) else (match (bs room l [] [0, 0] ⟨budget.toNat, false, none⟩).best with | some (g, m) => (g, m, 0) | none => ([], 0, 3))) else ([], 0, 2)
theorem rB_no {l : List Int} {r b : Int} (h : balB l r b = false) : rBalanceGroups l r b = ([], 0, 2) := by unfold rBalanceGroups; rw [h]; rfl
theorem rB_go {l : List Int} {r b : Int} {q : BS} (h : balB l r b = true) (hq : bs r l [] [0, 0] ⟨b.toNat, false, none⟩ = q) :
    rBalanceGroups l r b = if q.spent then (([], 0, 5) : List Int × Int × Int) else (match q.best with | some (g, m) => (g, m, 0) | none => ([], 0, 3)) := by
  unfold rBalanceGroups; rw [h, hq]; rfl
/-- The sums of both cars, in bounds. -/
def ZOk (room : Int) (z : List Int) : Prop := z.length = 2 ∧ 0 ≤ nth z 0 ∧ nth z 0 ≤ room ∧ 0 ≤ nth z 1 ∧ nth z 1 ≤ room
theorem z_two {room : Int} {z : List Int} (h : ZOk room z) : z = [nth z 0, nth z 1] := by
  match z, h.1 with
  | [a, b], _ => rfl
theorem z_set {room x : Int} {z : List Int} {k : Nat} (h : ZOk room z) (hk : k < 2) (hx : 0 ≤ x) (hr : nth z k + x ≤ room) : ZOk room (z.set k (nth z k + x)) := by
  match z, h.1 with
  | [a, b], _ =>
    have h1 := h.2
    match k, hk with
    | 0, _ => exact ⟨rfl, by simp [nth] at *; omega⟩
    | 1, _ => exact ⟨rfl, by simp [nth] at *; omega⟩
theorem z_at {room : Int} {z : List Int} {k : Nat} (h : ZOk room z) (hk : k < 2) : 0 ≤ nth z k ∧ nth z k ≤ room := by
  match k, hk with
  | 0, _ => exact ⟨h.2.1, h.2.2.1⟩
  | 1, _ => exact ⟨h.2.2.2.1, h.2.2.2.2⟩
theorem z_back {room x : Int} {z : List Int} {k : Nat} (h : ZOk room z) (hk : k < 2) : (z.set k (nth z k + x)).set k (nth z k) = z ∧ nth (z.set k (nth z k + x)) k = nth z k + x := by
  match z, h.1 with
  | [a, b], _ =>
    match k, hk with
    | 0, _ => exact ⟨rfl, rfl⟩
    | 1, _ => exact ⟨rfl, rfl⟩
end Go.Proofs.Ytdighpgfepooaaa
