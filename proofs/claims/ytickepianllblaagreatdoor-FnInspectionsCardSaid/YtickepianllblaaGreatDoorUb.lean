/- Reading of arrivals: both readings of a text say the same; in plain words. -/
import Derived.Test.YtickepianllblaaGreatDoorUa
import Derived.Test.YtickepianllblaaGreatDoorVa
namespace Go.Proofs.YtickepianllblaaGreatDoor
set_option maxRecDepth 100000
set_option linter.unusedVariables false
set_option linter.unusedSimpArgs false

/-- All numbers of a list of words, if all are numbers. -/
def numsL : List (List UInt8) → Option (List Int)
  | [] => some []
  | w :: ws => match numL w with
    | none => none
    | some n => (numsL ws).map (n :: ·)
def rReadArr (l : List UInt8) : List Int × Bool := match numsL (sp 43 l) with
  | some ns => if arrB ns then (ns, true) else ([], false)
  | none => ([], false)
theorem numsL_cons {w : List UInt8} {ws : List (List UInt8)} {ns : List Int} (h : numsL (w :: ws) = some ns) : ∃ n r, ns = n :: r ∧ numL w = some n ∧ numsL ws = some r := by
  rw [numsL] at h
  cases hw : numL w with
  | none => rw [hw] at h; cases h
  | some n =>
    rw [hw] at h
    simp only at h
    obtain ⟨r, hr, rfl⟩ := Option.map_eq_some_iff.1 h
    exact ⟨n, r, rfl, rfl, hr⟩
/-- What the program has read: of each word that is a numeral, its number. -/
def RdL : List (List UInt8) → List Int → Prop
  | [], xs => xs = []
  | w :: ws, xs => ∃ x r, xs = x :: r ∧ (∀ u : Nat, u ≤ 1000 → w = Lib.decDigits u → x = u) ∧ RdL ws r
def decs (xs : List Int) : List (List UInt8) := xs.map fun x => Lib.decDigits x.toNat
theorem dec_free (u : Nat) : (43 : UInt8) ∉ Lib.decDigits u := by
  intro h
  have := (dec_facts u).1
  rw [List.all_eq_true] at this
  have := this _ h
  simp [digB] at this
theorem dec_short {u : Nat} (h : u ≤ 1000) : (Lib.decDigits u).length ≤ 18 := by
  have e1 : u < 10 ∨ ¬ u < 10 := by omega
  have key : ∀ (m u : Nat), u < 10 ^ m → (Lib.decDigits u).length ≤ m + 1 := by
    intro m
    induction m with
    | zero => intro u hu; rw [Lib.decDigits_one (by simp at hu; omega)]; simp
    | succ m ih =>
      intro u hu
      by_cases h10 : u < 10
      · rw [Lib.decDigits_one h10]; simp
      · rw [dec_step u h10, List.length_append]
        have := ih (u / 10) (by rw [Nat.pow_succ] at hu; omega)
        simp; omega
  have := key 4 u (by omega)
  omega
theorem nums_decs : ∀ (xs : List Int), (∀ x ∈ xs, 0 ≤ x ∧ x ≤ 1000) → numsL (decs xs) = some xs := by
  intro xs
  induction xs with
  | nil => intro _; rfl
  | cons x xs ih =>
    intro h
    have hx := h x (by simp)
    have e : decs (x :: xs) = Lib.decDigits x.toNat :: decs xs := rfl
    rw [e, numsL, numL_dec (dec_short (by omega)), ih (fun y hy => h y (by simp [hy]))]
    simp; omega
theorem rd_of_nums : ∀ (ws : List (List UInt8)) (xs ns : List Int), RdL ws xs → numsL ws = some ns → (∀ n ∈ ns, 0 ≤ n ∧ n ≤ 1000) → xs = ns ∧ ws = decs ns := by
  intro ws
  induction ws with
  | nil =>
    intro xs ns h hn _
    have h : xs = [] := h
    rw [numsL] at hn
    injection hn with hn
    subst hn
    exact ⟨h, rfl⟩
  | cons w ws ih =>
    intro xs ns h hn hb
    obtain ⟨x, r, rfl, h1, h2⟩ := h
    obtain ⟨n, q, rfl, h3, h4⟩ := numsL_cons hn
    have hn0 := hb n (by simp)
    have hw := numL_nat h3 hn0.1
    obtain ⟨h5, h6⟩ := ih r q h2 h4 (fun y hy => hb y (by simp [hy]))
    have hx := h1 n.toNat (by omega) hw
    subst h5
    refine ⟨by rw [hx]; congr 1; omega, ?_⟩
    show w :: ws = Lib.decDigits n.toNat :: decs r
    rw [← hw, ← h6]
theorem arrB_parts {xs : List Int} (h : arrB xs = true) : xs ≠ [] ∧ ∀ x ∈ xs, 0 ≤ x ∧ x ≤ 1000 := by
  have := arrB_true.1 h
  refine ⟨fun e => ?_, fun x hx => ?_⟩
  · subst e; simp at this
  · have := this.1 x hx; omega
/-- The program's answer is the reference's. -/
theorem read_same {l : List UInt8} {xs : List Int} (h : RdL (sp 43 l) xs) : rReadArr l = if arrB xs && decide (Lib.join (decs xs) [43] = l) then (xs, true) else ([], false) := by
  by_cases hv : arrB xs = true ∧ Lib.join (decs xs) [43] = l
  · obtain ⟨h1, h2⟩ := hv
    obtain ⟨h3, h4⟩ := arrB_parts h1
    have hs : sp 43 l = decs xs := by
      rw [← h2]
      refine sp_join 43 _ (by simpa [decs] using h3) ?_
      intro w hw
      obtain ⟨x, _, rfl⟩ := List.mem_map.1 hw
      exact dec_free _
    unfold rReadArr
    rw [hs, nums_decs xs h4, h1, decide_eq_true h2]
    simp [h1]
  · have e : (arrB xs && decide (Lib.join (decs xs) [43] = l)) = false := by
      cases h1 : arrB xs with
      | false => rfl
      | true => rw [decide_eq_false (fun h2 => hv ⟨h1, h2⟩)]; rfl
    rw [e]
    simp only [Bool.false_eq_true, if_false]
    unfold rReadArr
    cases hn : numsL (sp 43 l) with
    | none => rfl
    | some ns =>
      simp only
      cases hb : arrB ns with
      | false => simp
      | true =>
        exfalso
        obtain ⟨_, h4⟩ := arrB_parts hb
        obtain ⟨rfl, h6⟩ := rd_of_nums _ _ _ h hn h4
        exact hv ⟨hb, by rw [← h6]; exact join_sp 43 l⟩
end Go.Proofs.YtickepianllblaaGreatDoor
