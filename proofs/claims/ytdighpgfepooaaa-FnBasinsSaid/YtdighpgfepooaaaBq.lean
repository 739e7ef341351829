/- Ballast: stores after trips, the least gap, as plain functions. -/
import Derived.Test.YtdighpgfepooaaaW
import Derived.Test.YtdighpgfepooaaaO
namespace Go.Proofs.Ytdighpgfepooaaa
open Go.RowKit
set_option maxRecDepth 100000
set_option linter.unusedVariables false
set_option linter.unusedSimpArgs false

def basB (t r s p : Int) : Bool := inB t 1 20000 && inB r 1 1000 && inB s 0 10000000 && inB p 0 1000
def tankB (l : List Int) : Bool := l.all (fun z => inB z 0 20000)
def watB (l : List Int) : Bool := decide (l.length ≤ 24) && tankB l
def stN (sg s x : Int) : Int := if s - x + sg < 10000000 then s - x + sg else 10000000
def stA (sg : Int) : Int → List Int → List Int → Option (List Int)
  | _, acc, [] => some acc
  | s, acc, x :: xs => if s < x then none else stA sg (stN sg s x) (acc ++ [stN sg s x]) xs
def rStoreAfter (t r s p : Int) (l : List Int) (gap : Int) : List Int × Int :=
  if basB t r s p then (if watB l && inB gap 0 1440 then (match stA (p * gap) s [] l with | some o => (o, 0) | none => ([], 6)) else ([], 2)) else ([], 1)
theorem rSA_inv {t r s p gap : Int} {l : List Int} (h : basB t r s p = false) : rStoreAfter t r s p l gap = ([], 1) := by unfold rStoreAfter; rw [h]; rfl
theorem rSA_range {t r s p gap : Int} {l : List Int} (h : basB t r s p = true) (h2 : (watB l && inB gap 0 1440) = false) : rStoreAfter t r s p l gap = ([], 2) := by unfold rStoreAfter; rw [h, h2]; rfl
theorem rSA_none {t r s p gap : Int} {l : List Int} (h : basB t r s p = true) (h2 : (watB l && inB gap 0 1440) = true) (h3 : stA (p * gap) s [] l = none) : rStoreAfter t r s p l gap = ([], 6) := by unfold rStoreAfter; rw [h, h2, h3]; rfl
theorem rSA_some {t r s p gap : Int} {l o : List Int} (h : basB t r s p = true) (h2 : (watB l && inB gap 0 1440) = true) (h3 : stA (p * gap) s [] l = some o) : rStoreAfter t r s p l gap = (o, 0) := by unfold rStoreAfter; rw [h, h2, h3]; rfl
theorem rSA_zero {t r s p gap : Int} {l : List Int} (h : (rStoreAfter t r s p l gap).2 = 0) : basB t r s p = true ∧ watB l = true ∧ inB gap 0 1440 = true ∧ stA (p * gap) s [] l = some (rStoreAfter t r s p l gap).1 := by
  cases h1 : basB t r s p with
  | false => rw [rSA_inv h1] at h; cases h
  | true =>
    cases h2 : (watB l && inB gap 0 1440) with
    | false => rw [rSA_range h1 h2] at h; cases h
    | true =>
      have h2' := h2
      rw [Bool.and_eq_true] at h2'
      cases h3 : stA (p * gap) s [] l with
      | none => rw [rSA_none h1 h2 h3] at h; cases h
      | some o => rw [rSA_some h1 h2 h3]; exact ⟨rfl, h2'.1, h2'.2, rfl⟩
theorem rSA_not {t r s p gap : Int} {l : List Int} (h : (rStoreAfter t r s p l gap).2 ≠ 0) : (rStoreAfter t r s p l gap).1 = [] := by
  cases h1 : basB t r s p with
  | false => rw [rSA_inv h1]
  | true =>
    cases h2 : (watB l && inB gap 0 1440) with
    | false => rw [rSA_range h1 h2]
    | true =>
      cases h3 : stA (p * gap) s [] l with
      | none => rw [rSA_none h1 h2 h3]
      | some o => rw [rSA_some h1 h2 h3] at h; exact absurd rfl h
theorem basB_parts {t r s p : Int} (h : basB t r s p = true) : (1 ≤ t ∧ t ≤ 20000) ∧ (1 ≤ r ∧ r ≤ 1000) ∧ (0 ≤ s ∧ s ≤ 10000000) ∧ (0 ≤ p ∧ p ≤ 1000) := by
  unfold basB at h
  simp only [Bool.and_eq_true, inB_true] at h
  exact ⟨h.1.1.1, h.1.1.2, h.1.2, h.2⟩
theorem watB_at {l : List Int} (h : watB l = true) : l.length ≤ 24 ∧ ∀ k, k < l.length → 0 ≤ nth l k ∧ nth l k ≤ 20000 := by
  unfold watB at h
  rw [Bool.and_eq_true, decide_eq_true_eq] at h
  refine ⟨h.1, fun k hk => ?_⟩
  have := all_nth (f := fun z => inB z 0 20000) hk h.2
  simpa only [inB_true] using this
theorem stN_in {sg s x : Int} (h0 : 0 ≤ sg) (hx : 0 ≤ x) (hs : s ≤ 10000000) (hsx : ¬ s < x) : 0 ≤ stN sg s x ∧ stN sg s x ≤ 10000000 := by unfold stN; split <;> omega
theorem stA_step {sg s : Int} {acc l : List Int} {k : Nat} (h : k < l.length) : stA sg s acc (l.drop k) = if s < nth l k then none else stA sg (stN sg s (nth l k)) (acc ++ [stN sg s (nth l k)]) (l.drop (k + 1)) := by
  rw [List.drop_eq_getElem_cons h, ← nth_eq h, stA]
theorem stA_end {sg s : Int} {acc l : List Int} {k : Nat} (h : l.length ≤ k) : stA sg s acc (l.drop k) = some acc := by rw [List.drop_of_length_le h, stA]
/-- What comes out begins with what was there, and has one more for each that was left. -/
theorem stA_out {sg : Int} : ∀ (xs acc : List Int) (s : Int) (o : List Int), stA sg s acc xs = some o → o.length = acc.length + xs.length ∧ o.take acc.length = acc := by
  intro xs
  induction xs with
  | nil => intro acc s o h; rw [stA] at h; injection h with h; subst h; simp
  | cons x xs ih =>
    intro acc s o h
    rw [stA] at h
    split at h
    · cases h
    · obtain ⟨h1, h2⟩ := ih _ _ _ h
      rw [List.length_append] at h1 h2
      refine ⟨by simp at h1 ⊢; omega, ?_⟩
      have := congrArg (List.take acc.length) h2
      rw [List.take_take, List.take_append_of_le_length (Nat.le_refl _), List.take_length] at this
      rwa [Nat.min_eq_left (by simp)] at this
theorem stA_next {sg s : Int} {acc l o : List Int} {k : Nat} (h : k < l.length) (ha : acc.length = k) (e : stA sg s acc (l.drop k) = some o) :
    ¬ s < nth l k ∧ nth o k = stN sg s (nth l k) ∧ k < o.length ∧ stA sg (stN sg s (nth l k)) (acc ++ [stN sg s (nth l k)]) (l.drop (k + 1)) = some o := by
  rw [stA_step h] at e
  split at e
  · cases e
  · rename_i hn
    obtain ⟨h1, h2⟩ := stA_out _ _ _ _ e
    refine ⟨hn, ?_, ?_, e⟩
    · have hl : k < o.length := by rw [h1]; simp; omega
      have h3 : nth (o.take (acc ++ [stN sg s (nth l k)]).length) k = stN sg s (nth l k) := by rw [h2]; unfold nth; simp [List.getD, ← ha]
      rw [← h3]
      unfold nth
      simp [List.getD, List.getElem?_take, ha]
    · rw [h1]; simp; omega
/-- What GapFor returns. -/
def GapP (t r s p : Int) (l : List Int) (g code : Int) : Prop := code = 0 → basB t r s p = true ∧ watB l = true ∧ 0 ≤ g ∧ g ≤ 1440 ∧ (∃ o, stA (p * g) s [] l = some o) ∧ (0 < g → stA (p * (g - 1)) s [] l = none)
theorem gap_codes {t r s p g : Int} {l : List Int} (h : GapP t r s p l g 0) : 0 ≤ g ∧ (rStoreAfter t r s p l g).2 = 0 ∧ (0 < g → (rStoreAfter t r s p l (g - 1)).2 ≠ 0) := by
  obtain ⟨h1, h2, h3, h4, ⟨o, h5⟩, h6⟩ := h rfl
  refine ⟨h3, ?_, fun hg => ?_⟩
  · rw [rSA_some h1 (by rw [h2, inB_true.2 ⟨h3, h4⟩]; rfl) h5]
  · rw [rSA_none h1 (by rw [h2, inB_true.2 ⟨by omega, by omega⟩]; rfl) (h6 hg)]
    decide
end Go.Proofs.Ytdighpgfepooaaa
