/- Reading of texts: splitting at a byte, canonical decimal numbers; in plain words. -/
import Derived.Test.YtickepianllblaaGreatDoorTa
import Derived.Lib.SplitLaws
import Derived.Lib.IndexBytes
import Derived.Lib.Join
namespace Go.Proofs.YtickepianllblaaGreatDoor
set_option maxRecDepth 100000
set_option linter.unusedVariables false
set_option linter.unusedSimpArgs false

/-! ### splitting -/
def sp (c : UInt8) : List UInt8 → List (List UInt8)
  | [] => [[]]
  | b :: l => if b = c then [] :: sp c l else match sp c l with
    | [] => [[b]]
    | w :: ws => (b :: w) :: ws
theorem sp_ne (c : UInt8) (l : List UInt8) : sp c l ≠ [] := by
  cases l with
  | nil => simp [sp]
  | cons b l =>
    rw [sp]
    split
    · simp
    · split <;> simp
theorem sp_hit (c : UInt8) : ∀ (a b : List UInt8), c ∉ a → sp c (a ++ c :: b) = a :: sp c b := by
  intro a
  induction a with
  | nil => intro b _; simp [sp]
  | cons x a ih =>
    intro b h
    have hx : x ≠ c := fun e => h (by simp [e])
    rw [List.cons_append, sp, if_neg hx, ih b (fun e => h (by simp [e]))]
theorem sp_none (c : UInt8) : ∀ (a : List UInt8), c ∉ a → sp c a = [a] := by
  intro a
  induction a with
  | nil => intro _; rfl
  | cons x a ih =>
    intro h
    have hx : x ≠ c := fun e => h (by simp [e])
    rw [sp, if_neg hx, ih (fun e => h (by simp [e]))]
theorem sp_free (c : UInt8) : ∀ (l : List UInt8), ∀ w ∈ sp c l, c ∉ w := by
  intro l
  induction l with
  | nil => intro w h; simp [sp] at h; simp [h]
  | cons b l ih =>
    intro w h
    rw [sp] at h
    split at h
    · rcases List.mem_cons.1 h with rfl | h
      · simp
      · exact ih w h
    · rename_i hb
      split at h
      · rw [List.mem_singleton] at h
        subst h
        simp; exact fun e => hb e.symm
      · rename_i w0 ws hs
        rcases List.mem_cons.1 h with rfl | h
        · have := ih w0 (by rw [hs]; simp)
          simp
          exact ⟨fun e => hb e.symm, this⟩
        · exact ih w (by rw [hs]; simp [h])
theorem sp_join (c : UInt8) : ∀ (ws : List (List UInt8)), ws ≠ [] → (∀ w ∈ ws, c ∉ w) → sp c (Lib.join ws [c]) = ws := by
  intro ws
  induction ws with
  | nil => intro h; exact absurd rfl h
  | cons w ws ih =>
    intro _ h
    cases ws with
    | nil => rw [Lib.join_one]; exact sp_none c w (h w (by simp))
    | cons w2 r =>
      have e : Lib.join (w :: w2 :: r) [c] = w ++ c :: Lib.join (w2 :: r) [c] := by
        rw [Lib.join_cons, Lib.join_cons]
        simp [Lib.joinTail]
      rw [e, sp_hit c w _ (h w (by simp)), ih (by simp) (fun x hx => h x (by simp [hx]))]
theorem join_sp (c : UInt8) : ∀ (l : List UInt8), Lib.join (sp c l) [c] = l := by
  intro l
  induction l with
  | nil => simp [sp, Lib.join_one]
  | cons b l ih =>
    rw [sp]
    cases hs : sp c l with
    | nil => exact absurd hs (sp_ne c l)
    | cons w ws =>
      rw [hs] at ih
      split
      · rename_i hb
        rw [Lib.join_cons] at ih ⊢
        subst hb
        rw [← ih]
        simp [Lib.joinTail]
      · simp only
        rw [Lib.join_cons] at ih ⊢
        rw [← ih]
        rfl
theorem first_at (c : UInt8) : ∀ l : List UInt8, c ∈ l → ∃ a b, l = a ++ c :: b ∧ c ∉ a := by
  intro l
  induction l with
  | nil => intro h; cases h
  | cons x l ih =>
    intro h
    by_cases hx : x = c
    · subst hx; exact ⟨[], l, rfl, by simp⟩
    · have hl : c ∈ l := by
        rcases List.mem_cons.1 h with e | e
        · exact absurd e.symm hx
        · exact e
      obtain ⟨a, b, e, hn⟩ := ih hl
      exact ⟨x :: a, b, by rw [e]; rfl, by simp; exact ⟨fun e2 => hx e2.symm, hn⟩⟩
theorem indexByte_first (c : UInt8) : ∀ (a b : List UInt8), c ∉ a → Lib.indexByte (a ++ c :: b) c = a.length := by
  intro a
  induction a with
  | nil => intro b _; simp [Lib.indexByte]
  | cons x a ih =>
    intro b h
    have hx : x ≠ c := fun e => h (by simp [e])
    rw [List.cons_append, Lib.indexByte, ih b (fun e => h (by simp [e]))]
    have h1 : (x == c) = false := by simpa using hx
    have h2 : ((a.length : Int) == -1) = false := by rw [beq_eq_false_iff_ne]; omega
    rw [h1, h2]
    simp
theorem indexByte_no (c : UInt8) : ∀ (a : List UInt8), c ∉ a → Lib.indexByte a c = -1 := by
  intro a
  induction a with
  | nil => intro _; rfl
  | cons x a ih =>
    intro h
    have hx : x ≠ c := fun e => h (by simp [e])
    rw [Lib.indexByte, ih (fun e => h (by simp [e]))]
    have h1 : (x == c) = false := by simpa using hx
    rw [h1]
    simp
theorem splitK_sp (c : UInt8) : ∀ (k : Nat) (s : List UInt8), s.count c = k → Lib.splitK [c] 0 k s = sp c s := by
  intro k
  induction k with
  | zero =>
    intro s h
    have : c ∉ s := List.count_eq_zero.1 h
    rw [Lib.splitK, sp_none c s this]
  | succ k ih =>
    intro s h
    have hm : c ∈ s := List.count_pos_iff.1 (by omega)
    obtain ⟨a, b, rfl, hn⟩ := first_at c s hm
    have hb : b.count c = k := by
      rw [List.count_append, List.count_cons_self, List.count_eq_zero.2 hn] at h
      omega
    rw [Lib.splitK, Lib.index_one, indexByte_first c a b hn]
    have h2 : ((a.length : Int) == -1) = false := by rw [beq_eq_false_iff_ne]; omega
    rw [h2]
    simp only [Bool.false_eq_true, if_false, Int.toNat_natCast, Nat.add_zero, List.length_singleton]
    rw [sp_hit c a b hn]
    congr 1
    · simp
    · have : (a ++ c :: b).drop (a.length + 1) = b := by
        rw [List.drop_append]; simp
      rw [this, ih b hb]
theorem split_sp (c : UInt8) (s : List UInt8) : Lib.split s [c] = sp c s := by
  rw [Lib.split, Lib.count_one]; exact splitK_sp c _ s rfl

/-! ### decimal numbers -/
def digB (b : UInt8) : Bool := decide (48 ≤ b.toNat) && decide (b.toNat ≤ 57)
def valL (l : List UInt8) : Nat := l.foldl (fun n b => 10 * n + (b.toNat - 48)) 0
theorem valL_snoc (l : List UInt8) (b : UInt8) : valL (l ++ [b]) = 10 * valL l + (b.toNat - 48) := by simp [valL]
theorem digB_ofNat (d : Nat) (h : d < 10) : digB (UInt8.ofNat (48 + d)) = true ∧ (UInt8.ofNat (48 + d)).toNat = 48 + d := by
  have e : (UInt8.ofNat (48 + d)).toNat = 48 + d := by rw [UInt8.toNat_ofNat']; omega
  refine ⟨?_, e⟩
  unfold digB
  rw [e]
  simp; omega
theorem dec_step (u : Nat) (h : ¬ u < 10) : Lib.decDigits u = Lib.decDigits (u / 10) ++ [UInt8.ofNat (48 + u % 10)] := by
  rw [Lib.decDigits, dif_neg h]
/-- A numeral's digits: all digits, no 0 ahead, its value. -/
theorem dec_facts : ∀ (u : Nat), (Lib.decDigits u).all digB = true ∧ Lib.decDigits u ≠ [] ∧ valL (Lib.decDigits u) = u ∧ (0 < u → (Lib.decDigits u).head? ≠ some 48) := by
  intro u
  induction u using Nat.strongRecOn with
  | _ u ih =>
    by_cases h : u < 10
    · rw [Lib.decDigits_one h]
      obtain ⟨h1, h2⟩ := digB_ofNat u h
      generalize UInt8.ofNat (48 + u) = b at *
      refine ⟨by simp [h1], by simp, by simp [valL, h2], fun hp e => ?_⟩
      simp only [List.head?_cons, Option.some.injEq] at e
      have := congrArg UInt8.toNat e
      rw [h2] at this
      simp at this
      omega
    · obtain ⟨i1, i2, i3, i4⟩ := ih (u / 10) (by omega)
      rw [dec_step u h]
      obtain ⟨h1, h2⟩ := digB_ofNat (u % 10) (by omega)
      generalize UInt8.ofNat (48 + u % 10) = b at *
      refine ⟨by rw [List.all_append, i1]; simp [h1], by simp, by rw [valL_snoc, i3, h2]; omega, fun _ => ?_⟩
      cases hd : Lib.decDigits (u / 10) with
      | nil => exact absurd hd i2
      | cons x xs =>
        rw [hd] at i4
        exact i4 (by omega)
theorem snoc_of : ∀ (l : List UInt8), l ≠ [] → ∃ a b, l = a ++ [b] := fun l h => ⟨l.dropLast, l.getLast h, (List.dropLast_concat_getLast h).symm⟩
theorem valL_pos : ∀ (n : Nat) (l : List UInt8), l.length = n → l ≠ [] → l.all digB = true → l.head? ≠ some 48 → 0 < valL l := by
  intro n
  induction n with
  | zero => intro l hl hne; exact absurd (List.length_eq_zero_iff.1 hl) hne
  | succ n ih =>
    intro l hl hne hd hh
    obtain ⟨a, b, rfl⟩ := snoc_of l hne
    rw [valL_snoc]
    rw [List.all_append, Bool.and_eq_true] at hd
    cases a with
    | nil =>
      have hb : digB b = true := by simpa using hd.2
      have h48 : b ≠ 48 := fun e => hh (by simp [e])
      unfold digB at hb
      simp only [Bool.and_eq_true, decide_eq_true_eq] at hb
      have : b.toNat ≠ 48 := fun e => h48 (UInt8.toNat_inj.1 (by rw [e]; rfl))
      simp [valL]
      omega
    | cons x xs =>
      have := ih (x :: xs) (by simp at hl ⊢; omega) (by simp) hd.1 (by simpa using hh)
      omega
theorem dec_of_val : ∀ (n : Nat) (l : List UInt8), l.length = n → l ≠ [] → l.all digB = true → (l.head? ≠ some 48 ∨ l.length = 1) → Lib.decDigits (valL l) = l := by
  intro n
  induction n with
  | zero => intro l hl hne; exact absurd (List.length_eq_zero_iff.1 hl) hne
  | succ n ih =>
    intro l hl hne hd hh
    obtain ⟨a, b, rfl⟩ := snoc_of l hne
    rw [List.all_append, Bool.and_eq_true] at hd
    have hb : digB b = true := by simpa using hd.2
    unfold digB at hb
    simp only [Bool.and_eq_true, decide_eq_true_eq] at hb
    have hb2 : UInt8.ofNat (48 + (b.toNat - 48)) = b := by
      have : 48 + (b.toNat - 48) = b.toNat := by omega
      rw [this]; exact UInt8.ofNat_toNat
    rw [valL_snoc]
    cases a with
    | nil =>
      have : valL [] = 0 := rfl
      rw [this, Lib.decDigits_one (by omega)]
      simp [hb2]
    | cons x xs =>
      have h48 : (x :: xs).head? ≠ some 48 := by
        rcases hh with h | h
        · simpa using h
        · simp at h
      have hp := valL_pos _ (x :: xs) rfl (by simp) hd.1 h48
      have hi := ih (x :: xs) (by simp at hl ⊢; omega) (by simp) hd.1 (.inl h48)
      rw [dec_step _ (by omega)]
      have e1 : (10 * valL (x :: xs) + (b.toNat - 48)) / 10 = valL (x :: xs) := by omega
      have e2 : (10 * valL (x :: xs) + (b.toNat - 48)) % 10 = b.toNat - 48 := by omega
      rw [e1, e2, hi, hb2]
/-- What the reference's reading of a number says, over bytes. -/
def numD (l ds : List UInt8) : Option Nat :=
  if ds = [] ∨ 18 < ds.length ∨ (ds.head? = some 48 ∧ 1 < l.length) then none else if ds.all digB then some (valL ds) else none
def numL (l : List UInt8) : Option Int :=
  if l.head? = some 45 then (numD l l.tail).map (fun n : Nat => -(n : Int)) else (numD l l).map (fun n : Nat => (n : Int))
theorem numD_some {l ds : List UInt8} {n : Nat} (h : numD l ds = some n) : ds ≠ [] ∧ ds.length ≤ 18 ∧ (ds.head? = some 48 → l.length ≤ 1) ∧ ds.all digB = true ∧ n = valL ds := by
  unfold numD at h
  by_cases hc : ds = [] ∨ 18 < ds.length ∨ (ds.head? = some 48 ∧ 1 < l.length)
  · rw [if_pos hc] at h; cases h
  · rw [if_neg hc] at h
    by_cases hd : ds.all digB = true
    · rw [if_pos hd] at h
      injection h with h
      simp only [not_or, not_and] at hc
      exact ⟨hc.1, by omega, fun e => by have := hc.2.2 e; omega, hd, h.symm⟩
    · rw [if_neg hd] at h; cases h
theorem numL_nat {l : List UInt8} {n : Int} (h : numL l = some n) (hn : 0 ≤ n) : l = Lib.decDigits n.toNat := by
  unfold numL at h
  by_cases hneg : l.head? = some 45
  · exfalso
    rw [if_pos hneg] at h
    obtain ⟨m, hm, rfl⟩ := Option.map_eq_some_iff.1 h
    obtain ⟨h1, _, h3, h4, rfl⟩ := numD_some hm
    have hlen : 1 < l.length := by
      cases l with
      | nil => simp at hneg
      | cons x xs => simp at h1 ⊢; exact List.length_pos_iff.2 h1
    have := valL_pos _ l.tail rfl h1 h4 (fun e => by have := h3 e; omega)
    omega
  · rw [if_neg hneg] at h
    obtain ⟨m, hm, rfl⟩ := Option.map_eq_some_iff.1 h
    obtain ⟨h1, _, h3, h4, rfl⟩ := numD_some hm
    have := dec_of_val _ l rfl h1 h4 (by
      by_cases h48 : l.head? = some 48
      · right
        have h5 := h3 h48
        have h6 := List.length_pos_iff.2 h1
        omega
      · exact .inl h48)
    rw [Int.toNat_natCast, this]
theorem numL_dec {u : Nat} (h : (Lib.decDigits u).length ≤ 18) : numL (Lib.decDigits u) = some (u : Int) := by
  obtain ⟨h1, h2, h3, h4⟩ := dec_facts u
  have h45 : (Lib.decDigits u).head? ≠ some 45 := by
    cases hd : Lib.decDigits u with
    | nil => simp
    | cons x xs =>
      intro e
      simp only [List.head?_cons, Option.some.injEq] at e
      rw [hd, e] at h1
      simp [digB] at h1
  unfold numL
  rw [if_neg h45]
  unfold numD
  rw [if_neg, if_pos h1, h3]
  · rfl
  · intro hc
    rcases hc with hc | hc | ⟨hc, hl⟩
    · exact h2 hc
    · omega
    · by_cases hu : 0 < u
      · exact h4 hu hc
      · have : u = 0 := by omega
        subst this
        rw [Lib.decDigits_one (by omega)] at hl
        simp at hl
end Go.Proofs.YtickepianllblaaGreatDoor
