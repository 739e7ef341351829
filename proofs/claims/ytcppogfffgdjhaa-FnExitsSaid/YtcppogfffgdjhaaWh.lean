/- Evacuation: plain laws: the next place of a quickest way: both sides choose the least one. No program in sight. -/
import Derived.Test.YtcppogfffgdjhaaWg
namespace Go.Proofs.Ytcppogfffgdjhaa
set_option maxRecDepth 100000
set_option linter.unusedVariables false
set_option linter.unusedSimpArgs false
set_option linter.unusedSectionVars false

/-- Way x leads on from place a to place v, on a quickest way. -/
def onB (x : WalkR) (lad : Bool) (F : List Int) (a v : Int) : Bool := edgeB x a v lad && (decide (0 ≤ nth F v.toNat) && (nth F v.toNat + x.Seconds == nth F a.toNat))
def hopB (l : List WalkR) (lad : Bool) (F : List Int) (a v : Int) : Bool := (List.range l.length).any fun k => onB (WalkR.at_ l k) lad F a v
theorem hopB_true {l : List WalkR} {lad : Bool} {F : List Int} {a v : Int} : hopB l lad F a v = true ↔ ∃ k, k < l.length ∧ onB (WalkR.at_ l k) lad F a v = true := by
  unfold hopB
  rw [List.any_eq_true]
  constructor
  · rintro ⟨k, hk, h⟩; exact ⟨k, List.mem_range.1 hk, h⟩
  · rintro ⟨k, hk, h⟩; exact ⟨k, List.mem_range.2 hk, h⟩
theorem onB_true {x : WalkR} {lad : Bool} {F : List Int} {a v : Int} : onB x lad F a v = true ↔ (x.From = a ∧ x.To = v ∧ (x.Ladder && !lad) = false) ∧ 0 ≤ nth F v.toNat ∧ nth F v.toNat + x.Seconds = nth F a.toNat := by
  unfold onB edgeB
  simp only [Bool.and_eq_true, beq_iff_eq, decide_eq_true_eq]
  cases lad <;> cases x.Ladder <;> simp
theorem secTo_spec {l : List WalkR} {a v : Int} {lad : Bool} (hs : ∀ k, k < l.length → 1 ≤ (WalkR.at_ l k).Seconds) : ∀ n, n ≤ l.length →
    (secTo l a v lad n = -1 ∧ ∀ k, k < n → edgeB (WalkR.at_ l k) a v lad = false) ∨
    (0 ≤ secTo l a v lad n ∧ (∃ k, k < n ∧ edgeB (WalkR.at_ l k) a v lad = true ∧ (WalkR.at_ l k).Seconds = secTo l a v lad n) ∧ ∀ k, k < n → edgeB (WalkR.at_ l k) a v lad = true → secTo l a v lad n ≤ (WalkR.at_ l k).Seconds) := by
  intro n
  induction n with
  | zero => intro _; exact .inl ⟨rfl, fun k hk => by omega⟩
  | succ n ih =>
    intro hn
    have h1 := hs n (by omega)
    rw [secTo_succ]
    rcases ih (by omega) with ⟨e, hno⟩ | ⟨h0, ⟨k, hk, he, hse⟩, hle⟩
    · cases he : edgeB (WalkR.at_ l n) a v lad with
      | false =>
        rw [if_neg (by simp)]
        exact .inl ⟨e, fun k hk => by
          by_cases hkn : k = n
          · subst hkn; exact he
          · exact hno k (by omega)⟩
      | true =>
        rw [if_pos (by simp [e])]
        refine .inr ⟨by omega, ⟨n, by omega, he, rfl⟩, fun k hk hke => ?_⟩
        by_cases hkn : k = n
        · subst hkn; exact Int.le_refl _
        · rw [hno k (by omega)] at hke; cases hke
    · by_cases hc : (edgeB (WalkR.at_ l n) a v lad && (decide (secTo l a v lad n < 0) || decide ((WalkR.at_ l n).Seconds < secTo l a v lad n))) = true
      · rw [if_pos hc]
        simp only [Bool.and_eq_true, Bool.or_eq_true, decide_eq_true_eq] at hc
        refine .inr ⟨by omega, ⟨n, by omega, hc.1, rfl⟩, fun j hj hje => ?_⟩
        by_cases hjn : j = n
        · subst hjn; exact Int.le_refl _
        · have := hle j (by omega) hje
          omega
      · rw [if_neg hc]
        refine .inr ⟨h0, ⟨k, by omega, he, hse⟩, fun j hj hje => ?_⟩
        by_cases hjn : j = n
        · subst hjn
          simp only [Bool.and_eq_true, Bool.or_eq_true, decide_eq_true_eq] at hc
          by_cases hlt : (WalkR.at_ l j).Seconds < secTo l a v lad j
          · exact absurd ⟨hje, .inr hlt⟩ hc
          · omega
        · exact hle j (by omega) hje

theorem edgeB_true {x : WalkR} {a v : Int} {lad : Bool} : edgeB x a v lad = true ↔ x.From = a ∧ x.To = v ∧ (x.Ladder && !lad) = false := by
  unfold edgeB
  simp only [Bool.and_eq_true, beq_iff_eq]
  cases lad <;> cases x.Ladder <;> simp
/-- What the program asks of a next place. -/
theorem hop_impl {p : Nat} {l : List WalkR} {lad : Bool} {F : List Int} (hl : OkW p l) (hF : ClosedT l lad F) (a v : Int) :
    (decide (0 ≤ secTo l a v lad l.length) && (decide (0 ≤ nth F v.toNat) && (secTo l a v lad l.length + nth F v.toNat == nth F a.toNat))) = hopB l lad F a v := by
  have hs := secTo_spec (a := a) (v := v) (lad := lad) (fun k hk => (hl k hk).2.2.2.1) l.length (Nat.le_refl _)
  rw [Bool.eq_iff_iff, hopB_true]
  simp only [Bool.and_eq_true, decide_eq_true_eq, beq_iff_eq]
  constructor
  · rintro ⟨h0, h1, h2⟩
    rcases hs with ⟨e, _⟩ | ⟨_, ⟨k, hk, he, hse⟩, _⟩
    · omega
    · exact ⟨k, hk, onB_true.2 ⟨edgeB_true.1 he, h1, by omega⟩⟩
  · rintro ⟨k, hk, h⟩
    obtain ⟨h1, h2, h3⟩ := onB_true.1 h
    have hke := edgeB_true.2 h1
    rcases hs with ⟨_, hno⟩ | ⟨h0, ⟨k', hk', he, hse⟩, hle⟩
    · rw [hno k hk] at hke; cases hke
    · have hle1 := hle k hk hke
      obtain ⟨q1, q2, q3⟩ := edgeB_true.1 he
      have hc := hF k' hk' q3 (by rw [q2]; exact h2)
      rw [q1, q2, hse] at hc
      exact ⟨h0, h2, by omega⟩
/-- The next place. -/
def nextP (p : Nat) (l : List WalkR) (lad : Bool) (F : List Int) (a : Int) : Int := firstTo (fun v => hopB l lad F a v) p
/-- What the reference finds among the first k ways. -/
def bestHop (l : List WalkR) (lad : Bool) (F : List Int) (a : Int) : Nat → Int
  | 0 => -1
  | k + 1 => if onB (WalkR.at_ l k) lad F a (WalkR.at_ l k).To && (decide (bestHop l lad F a k < 0) || decide ((WalkR.at_ l k).To < bestHop l lad F a k)) then (WalkR.at_ l k).To else bestHop l lad F a k
theorem bestHop_succ (l : List WalkR) (lad : Bool) (F : List Int) (a : Int) (k : Nat) : bestHop l lad F a (k + 1) = if onB (WalkR.at_ l k) lad F a (WalkR.at_ l k).To && (decide (bestHop l lad F a k < 0) || decide ((WalkR.at_ l k).To < bestHop l lad F a k)) then (WalkR.at_ l k).To else bestHop l lad F a k := rfl
theorem bestHop_spec {p : Nat} {l : List WalkR} {lad : Bool} {F : List Int} (hl : OkW p l) (a : Int) : ∀ n, n ≤ l.length →
    (bestHop l lad F a n = -1 ∧ ∀ k, k < n → onB (WalkR.at_ l k) lad F a (WalkR.at_ l k).To = false) ∨
    (0 ≤ bestHop l lad F a n ∧ (∃ k, k < n ∧ onB (WalkR.at_ l k) lad F a (WalkR.at_ l k).To = true ∧ (WalkR.at_ l k).To = bestHop l lad F a n) ∧ ∀ k, k < n → onB (WalkR.at_ l k) lad F a (WalkR.at_ l k).To = true → bestHop l lad F a n ≤ (WalkR.at_ l k).To) := by
  intro n
  induction n with
  | zero => intro _; exact .inl ⟨rfl, fun k hk => by omega⟩
  | succ n ih =>
    intro hn
    have h1 := (hl n (by omega)).2.1.1
    rw [bestHop_succ]
    rcases ih (by omega) with ⟨e, hno⟩ | ⟨h0, ⟨k, hk, he, hse⟩, hle⟩
    · cases he : onB (WalkR.at_ l n) lad F a (WalkR.at_ l n).To with
      | false =>
        rw [if_neg (by simp)]
        exact .inl ⟨e, fun k hk => by
          by_cases hkn : k = n
          · subst hkn; exact he
          · exact hno k (by omega)⟩
      | true =>
        rw [if_pos (by simp [e])]
        refine .inr ⟨by omega, ⟨n, by omega, he, rfl⟩, fun k hk hke => ?_⟩
        by_cases hkn : k = n
        · subst hkn; exact Int.le_refl _
        · rw [hno k (by omega)] at hke; cases hke
    · by_cases hc : (onB (WalkR.at_ l n) lad F a (WalkR.at_ l n).To && (decide (bestHop l lad F a n < 0) || decide ((WalkR.at_ l n).To < bestHop l lad F a n))) = true
      · rw [if_pos hc]
        simp only [Bool.and_eq_true, Bool.or_eq_true, decide_eq_true_eq] at hc
        refine .inr ⟨by omega, ⟨n, by omega, hc.1, rfl⟩, fun j hj hje => ?_⟩
        by_cases hjn : j = n
        · subst hjn; exact Int.le_refl _
        · have := hle j (by omega) hje
          omega
      · rw [if_neg hc]
        refine .inr ⟨h0, ⟨k, by omega, he, hse⟩, fun j hj hje => ?_⟩
        by_cases hjn : j = n
        · subst hjn
          simp only [Bool.and_eq_true, Bool.or_eq_true, decide_eq_true_eq] at hc
          by_cases hlt : (WalkR.at_ l j).To < bestHop l lad F a j
          · exact absurd ⟨hje, .inr hlt⟩ hc
          · omega
        · exact hle j (by omega) hje
theorem bestHop_all {p : Nat} {l : List WalkR} {lad : Bool} {F : List Int} (hl : OkW p l) (a : Int) : bestHop l lad F a l.length = nextP p l lad F a := by
  unfold nextP
  rcases bestHop_spec (lad := lad) (F := F) hl a l.length (Nat.le_refl _) with ⟨e, hno⟩ | ⟨h0, ⟨k, hk, he, hse⟩, hle⟩
  · rw [e, firstTo_none]
    rw [allTo_true]
    intro v hv
    cases hb : hopB l lad F a v with
    | false => rfl
    | true =>
      obtain ⟨k, hk, h⟩ := hopB_true.1 hb
      have h2 := hno k hk
      obtain ⟨⟨_, e2, _⟩, _⟩ := onB_true.1 h
      rw [e2, h] at h2; cases h2
  · have hx := hl k hk
    have hb := (bestHop l lad F a l.length).toNat
    have eT : ((bestHop l lad F a l.length).toNat : Int) = bestHop l lad F a l.length := by omega
    rw [firstTo_some (k := (bestHop l lad F a l.length).toNat) (by omega)]
    · exact eT.symm
    · rw [allTo_true]
      intro v hv
      cases hb : hopB l lad F a v with
      | false => rfl
      | true =>
        obtain ⟨j, hj, h⟩ := hopB_true.1 hb
        obtain ⟨⟨_, e2, _⟩, _⟩ := onB_true.1 h
        have := hle j hj (by rw [e2]; exact h)
        omega
    · rw [eT]
      exact hopB_true.2 ⟨k, hk, by rw [← hse]; exact he⟩
/-- There is a next place. -/
theorem next_is {p : Int} {l : List WalkR} {lad : Bool} (hw : walksB p l = true) (to a : Int) (ha : 0 ≤ a ∧ a < p) (hne : a ≠ to) (h0 : 0 ≤ nth (timesR p l [to] lad) a.toNat) :
    ∃ v : Nat, v < p.toNat ∧ nextP p.toNat l lad (timesR p l [to] lad) a = v ∧ (∀ j : Nat, j < v → hopB l lad (timesR p l [to] lad) a j = false) ∧ hopB l lad (timesR p l [to] lad) a v = true ∧
      0 ≤ nth (timesR p l [to] lad) v ∧ nth (timesR p l [to] lad) v + 1 ≤ nth (timesR p l [to] lad) a.toNat := by
  obtain ⟨hl, hp⟩ := okW_of hw
  have hF := times_closed lad hw [to]
  unfold nextP
  rcases firstTo_cases (fun v => hopB l lad (timesR p l [to] lad) a v) p.toNat with ⟨_, hno⟩ | ⟨v, hv, e, hb, hno⟩
  · exfalso
    rcases times_born lad hw [to] a.toNat (by omega) with h | ⟨h1, h2⟩ | ⟨k, hk, hu, hf, ht, hs⟩
    · omega
    · rw [initT_nth _ (by omega)] at h1
      rw [if_neg (by simp; omega)] at h1
      omega
    · have hx := hl k hk
      have hc := hF k hk hu ht
      rw [hf] at hc
      have := hno (WalkR.at_ l k).To.toNat (by omega)
      have e2 : (((WalkR.at_ l k).To.toNat : Nat) : Int) = (WalkR.at_ l k).To := by omega
      simp only [e2] at this
      rw [hopB_true.2 ⟨k, hk, onB_true.2 ⟨⟨by omega, rfl, hu⟩, ht, by omega⟩⟩] at this
      cases this
  · obtain ⟨k, hk, h⟩ := hopB_true.1 hb
    obtain ⟨⟨_, _, _⟩, q0, q1⟩ := onB_true.1 h
    have hx := hl k hk
    have e3 : ((v : Int)).toNat = v := by omega
    rw [e3] at q0 q1
    exact ⟨v, hv, e, hno, hb, q0, by omega⟩
/-- The places behind place a. -/
def wayOf (p : Nat) (l : List WalkR) (lad : Bool) (F : List Int) (to : Int) : Nat → Int → List Int
  | 0, a => []
  | m + 1, a => if a = to then [] else nextP p l lad F a :: wayOf p l lad F to m (nextP p l lad F a)
theorem wayOf_end (p : Nat) (l : List WalkR) (lad : Bool) (F : List Int) (to : Int) (m : Nat) : wayOf p l lad F to m to = [] := by
  cases m with
  | zero => rfl
  | succ m => rw [wayOf, if_pos rfl]
theorem wayOf_step (p : Nat) (l : List WalkR) (lad : Bool) (F : List Int) {to a : Int} (m : Nat) (h : a ≠ to) : wayOf p l lad F to (m + 1) a = nextP p l lad F a :: wayOf p l lad F to m (nextP p l lad F a) := by
  rw [wayOf, if_neg h]
def wayR (p : Int) (l : List WalkR) (lad : Bool) (src to : Int) : List Int := src :: wayOf p.toNat l lad (timesR p l [to] lad) to (nth (timesR p l [to] lad) src.toNat).toNat src
def rQuickestWay (p : Int) (l : List WalkR) (src to : Int) (lad : Bool) : List Int × Int × Int :=
  if askW p l (inB src 0 (top p) && inB to 0 (top p)) true = 0 then
    (if nth (timesR p l [to] lad) src.toNat < 0 then ([], 0, 3) else (wayR p l lad src to, nth (timesR p l [to] lad) src.toNat, 0))
  else ([], 0, askW p l (inB src 0 (top p) && inB to 0 (top p)) true)
end Go.Proofs.Ytcppogfffgdjhaa
