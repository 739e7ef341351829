/- Helpers: QuickestFill: the search as a plain function; contracts of both sides. -/
import Derived.Test.YtcacmiafmanniaaMg
import Derived.Test.YtcacmiafmanniaaZ
namespace Go.Proofs.Ytcacmiafmanniaa
open Go.RowKit
set_option maxRecDepth 100000
set_option linter.unusedVariables false
set_option linter.unusedSimpArgs false

/-! ### plain -/
structure QS where
  left : Nat
  spent : Bool
  best : Option (List Nat × Nat)
def qput (s : QS) (g : List Nat) (sum : Nat) : QS := match s.best with
  | some (_, m) => if sum < m then ⟨s.left, s.spent, some (g, sum)⟩ else s
  | none => ⟨s.left, s.spent, some (g, sum)⟩
def mnH (l : List HelperR) (k : Nat) : Nat := (HelperR.at_ l k).Minutes.toNat
def qstep (l : List HelperR) (rec : List Nat → Nat → QS → QS) (g : List Nat) (sum : Nat) (s : QS) (k : Nat) : QS :=
  if g.contains k then s else if s.spent then s else if s.left = 0 then ⟨0, true, s.best⟩ else rec (g ++ [k]) (sum + mnH l k) ⟨s.left - 1, s.spent, s.best⟩
def qs (l : List HelperR) : List TaskR → List Nat → Nat → QS → QS
  | [], g, sum, s => qput s g sum
  | t :: ts, g, sum, s => (csH l t).foldl (qstep l (qs l ts) g sum) s
theorem qstep_spent (l : List HelperR) (rec : List Nat → Nat → QS → QS) (g : List Nat) (sum : Nat) (s : QS) (k : Nat) (h : s.spent = true) : qstep l rec g sum s k = s := by
  unfold qstep
  rw [h]
  split <;> rfl
theorem fold_spent (l : List HelperR) (rec : List Nat → Nat → QS → QS) (g : List Nat) (sum : Nat) : ∀ (ks : List Nat) (s : QS), s.spent = true → ks.foldl (qstep l rec g sum) s = s := by
  intro ks
  induction ks with
  | nil => intro s _; rfl
  | cons k ks ih => intro s h; rw [List.foldl_cons, qstep_spent _ _ _ _ _ _ h]; exact ih s h
theorem qput_left (s : QS) (g : List Nat) (sum : Nat) : (qput s g sum).left = s.left := by unfold qput; split; split <;> rfl; rfl
theorem qs_left (l : List HelperR) : ∀ (ts : List TaskR) (g : List Nat) (sum : Nat) (s : QS), (qs l ts g sum s).left ≤ s.left := by
  intro ts
  induction ts with
  | nil => intro g sum s; rw [qs, qput_left]; exact Nat.le_refl _
  | cons t ts ih =>
    intro g sum s
    rw [qs]
    generalize csH l t = ks
    induction ks generalizing s with
    | nil => exact Nat.le_refl _
    | cons k ks ihk =>
      rw [List.foldl_cons]
      refine Nat.le_trans (ihk _) ?_
      unfold qstep
      split
      · exact Nat.le_refl _
      · split
        · exact Nat.le_refl _
        · split
          · simp
          · refine Nat.le_trans (ih _ _ _) ?_
            simp
/-- What the search keeps: the best list has as many as there are tasks, and takes no longer than a bound. -/
def QOk (nt : Nat) (s : QS) : Prop := ∀ g m, s.best = some (g, m) → g.length = nt ∧ m ≤ 1000 * nt
theorem qput_ok {nt : Nat} {s : QS} {g : List Nat} {sum : Nat} (h : QOk nt s) (hg : g.length = nt) (hs : sum ≤ 1000 * nt) : QOk nt (qput s g sum) := by
  unfold qput
  split
  · split
    · intro g' m' e; simp only [Option.some.injEq, Prod.mk.injEq] at e; obtain ⟨rfl, rfl⟩ := e; exact ⟨hg, hs⟩
    · exact h
  · intro g' m' e; simp only [Option.some.injEq, Prod.mk.injEq] at e; obtain ⟨rfl, rfl⟩ := e; exact ⟨hg, hs⟩
theorem qs_ok {nt : Nat} (l : List HelperR) (hm : ∀ k, k < l.length → mnH l k ≤ 1000) : ∀ (ts : List TaskR) (g : List Nat) (sum : Nat) (s : QS), g.length + ts.length = nt → sum ≤ 1000 * g.length → QOk nt s → QOk nt (qs l ts g sum s) := by
  intro ts
  induction ts with
  | nil =>
    intro g sum s hg hs h
    rw [qs]
    simp at hg
    exact qput_ok h hg (by rw [← hg]; exact hs)
  | cons t ts ih =>
    intro g sum s hg hs h
    rw [qs]
    have hmem : ∀ k ∈ csH l t, k < l.length := fun k hk => ((csH_mem l t k).1 hk).1
    generalize csH l t = ks at hmem
    induction ks generalizing s with
    | nil => exact h
    | cons k ks ihk =>
      rw [List.foldl_cons]
      refine ihk _ ?_ (fun x hx => hmem x (List.mem_cons_of_mem _ hx))
      unfold qstep
      split
      · exact h
      · split
        · exact h
        · split
          · exact h
          · have := hm k (hmem k (by simp))
            refine ih _ _ _ (by simp at hg ⊢; omega) (by simp; omega) h
theorem foldQ_take (f : QS → Nat → QS) (xs : List Nat) (i : Nat) (h : i < xs.length) (s : QS) : (xs.take (i + 1)).foldl f s = f ((xs.take i).foldl f s) (xs.getD i 0) := by
  rw [List.take_succ_eq_append_getElem h, List.foldl_append]
  simp [List.getD, List.getElem?_eq_getElem h]
def bestL (s : QS) : List Nat := match s.best with | some (g, _) => g | none => []
def bestM (s : QS) : Nat := match s.best with | some (_, m) => m | none => 0
def rQuickestFill (l : List HelperR) (tl : List TaskR) (budget : Int) : List Int × Int × Int :=
  if helperBAll l && taskBAll tl then (if inB budget 1 20000 then
    (if (qs l tl [] 0 ⟨budget.toNat, false, none⟩).spent then ([], 0, 5) else (match (qs l tl [] 0 ⟨budget.toNat, false, none⟩).best with | some (g, m) => (ci g, m, 0) | none => ([], 0, 3))) else ([], 0, 2)) else ([], 0, 1)

theorem fold_left (l : List HelperR) (ts : List TaskR) (g : List Nat) (sum : Nat) : ∀ (ks : List Nat) (s : QS), (ks.foldl (qstep l (qs l ts) g sum) s).left ≤ s.left := by
  intro ks
  induction ks with
  | nil => intro s; exact Nat.le_refl _
  | cons k ks ih =>
    intro s
    rw [List.foldl_cons]
    refine Nat.le_trans (ih _) ?_
    unfold qstep
    split
    · exact Nat.le_refl _
    · split
      · exact Nat.le_refl _
      · split
        · simp
        · exact Nat.le_trans (qs_left l ts _ _ _) (by simp)
/-! ### memory: cells of a struct behind a pointer -/

/-- The program's search, in memory. -/
def hvs (A : Option Addr) (n c : Nat) (A'' : Option Addr) (nt ct : Nat) (Ag : Option Addr) (ng cg : Nat) (Ab : Option Addr) (nb cb : Nat) (s : QS) : List Value :=
  [.int .i64 (s.left : Int), .bool s.spent, .slice A n c, .slice A'' nt ct, .slice Ag ng cg, .slice Ab nb cb, .int .i64 (bestM s : Int), .bool s.best.isSome]

/-- What the search's call leaves: the same list given, the search gone on. -/
def HPost (bh : Nat) (A : Option Addr) (n c : Nat) (A'' : Option Addr) (nt ct : Nat) (g : List Nat) (s : QS) (A0 : Option Addr) (w : World) (e : Ending) (w' : World) : Prop :=
  ∃ (Ag : Option Addr) (cg : Nat) (Ab : Option Addr) (nb cb : Nat), e = .returned (.tuple #[]) ∧ HC w' bh (hvs A n c A'' nt ct Ag g.length cg Ab nb cb s) ∧ Own w' (bh + 1) 2 1 Ag g.length cg ((ci g).map (Value.int .i64)) ∧
    Own w' (bh + 1) 2 1 Ab nb cb ((ci (bestL s)).map (Value.int .i64)) ∧ Apart Ag Ab ∧ Touch2 w w' bh A0 ∧ OldNew w A0 Ag
end Go.Proofs.Ytcacmiafmanniaa
