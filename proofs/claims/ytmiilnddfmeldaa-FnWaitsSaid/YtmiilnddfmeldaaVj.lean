/- The law of waits: what the calls answer, together. Plain: no program in sight. -/
import Derived.Test.YtmiilnddfmeldaaVg
namespace Go.Proofs.Ytmiilnddfmeldaa
set_option maxRecDepth 100000
set_option linter.unusedVariables false
set_option linter.unusedSimpArgs false

/-- Person q comes in minute j + 1. -/
def Came (zs : List Int) (q : Int) (j : Nat) : Prop := j < zs.length ∧ (zs.take j).sum ≤ q ∧ q < (zs.take (j + 1)).sum
theorem came_ex {zs : List Int} {q : Int} (hq : 0 ≤ q) : ∀ m, m ≤ zs.length → q < (zs.take m).sum → ∃ j, Came zs q j := by
  intro m
  induction m with
  | zero => intro _ h; simp at h; omega
  | succ m ih =>
    intro hm h
    by_cases h2 : q < (zs.take m).sum
    · exact ih (by omega) h2
    · exact ⟨m, by omega, by omega, h⟩
/-- Person q comes in minute j + 1 and leaves in minute t. -/
def Waits (zs : List Int) (E S : Nat) (q : Nat) (j t : Nat) : Prop := Came zs q j ∧ Leaves zs E S q t ∧ j + 1 ≤ t
theorem waits_ex {zs : List Int} {E S m q : Nat} (hz : ∀ z ∈ zs, 0 ≤ z ∧ z ≤ 1000) (hl : ((outTo zs E S m).length : Int) = zs.sum) (hm : m ≤ 3900060) (hq : (q : Int) < zs.sum) :
    ∃ j t, Waits zs E S q j t ∧ t ≤ m ∧ nth (outAll zs (E : Int) (S : Int)) q = (t : Int) - ((j : Int) + 1) := by
  obtain ⟨j, hj⟩ := came_ex (zs := zs) (q := (q : Int)) (by omega) zs.length (Nat.le_refl _) (by rw [List.take_length]; exact hq)
  obtain ⟨t, ht, htm⟩ := leaves_ex (zs := zs) (E := E) (S := S) (q := q) m (by omega)
  have hjt : j + 1 ≤ t := by
    rcases Nat.lt_or_ge t (j + 1) with hlt | hge
    · have h1 := out_le_came (zs := zs) (E := E) (S := S) hz t
      have h2 := cameTo_len hz t
      have h3 := sum_take_mono hz t (j - t)
      rw [show t + (j - t) = j by omega] at h3
      have := ht.2.2
      have := hj.2.1
      omega
    · exact hge
  refine ⟨j, t, ⟨hj, ht, hjt⟩, htm, ?_⟩
  have hle := leaves_at ht
  have hk := (out_keep (zs := zs) (E := E) (S := S) (m := t) (q := q) ht.2.2 (m - t)).1
  rw [show t + (m - t) = m by omega] at hk
  rw [← outAll_eq hz hm hl, hk, hle.2, came_at (j := j) (by have := cameTo_len hz j; have := hj.2.1; omega) (by have := cameTo_len hz (j + 1); have := hj.2.2; omega) hjt]
/-- What the first line of the law looks at. -/
structure WaitFacts (zs : List Int) (every seats person r s : Int) : Prop where
  sum : s = zs.sum ∧ 0 ≤ s
  one : (rWaitOf zs every seats person).2 = 0 ↔ (0 ≤ person ∧ person < s)
  three : (rMeanWait zs every seats).2 = 0 ↔ 0 < s
  none : r = 0 ↔ s = 0
  all : s ≤ r * seats
  rr : 0 ≤ r ∧ r ≤ 3900060
  ss : 1 ≤ seats ∧ seats ≤ 1000
  mean : 0 ≤ (rMeanWait zs every seats).1
theorem ride_code {zs : List Int} {every seats r : Int} (h : RidesP zs every seats r 0) : arrB zs = true ∧ inB every 1 60 = true ∧ inB seats 1 1000 = true := by
  have h1 := h.1.symm
  rw [askC_zero, Bool.and_eq_true] at h1
  exact h1
theorem wait_facts {zs : List Int} {every seats person r s : Int} (h : RidesP zs every seats r 0) (hs : (∀ z ∈ zs, 0 ≤ z ∧ z ≤ 1000) → s = zs.sum) : WaitFacts zs every seats person r s := by
  obtain ⟨v0, v1, v2⟩ := ride_code h
  obtain ⟨m, hra, hl, hm⟩ := h.2.2 rfl
  have hv := arrB_true.1 v0
  have he := inB_true.1 v1
  have hse := inB_true.1 v2
  have hs' := hs hv.1
  have hsb := sum_bds hv.1
  have hl0 := hv.2
  obtain ⟨E, rfl⟩ := Int.eq_ofNat_of_zero_le (show 0 ≤ every by omega)
  obtain ⟨S, rfl⟩ := Int.eq_ofNat_of_zero_le (show 0 ≤ seats by omega)
  rw [Int.toNat_natCast, Int.toNat_natCast] at hra hl
  have hor := out_rides (zs := zs) (E := E) (S := S) (by omega) m
  have hr := hra.1
  have hdm : m / E ≤ m := Nat.div_le_self _ _
  subst hs'
  have hra2 := hra.2
  clear hra
  generalize m / E = mE at *
  refine ⟨⟨rfl, hsb.1⟩, ?_, ?_, ?_, ?_, ?_, hse, ?_⟩
  · unfold rWaitOf askW2
    rw [v0, v1, v2]
    cases v3 : inB person 0 100000
    · simp only [askC, Bool.and_false, Bool.and_self, if_true]
      have h3 : ¬ (0 ≤ person ∧ person ≤ 100000) := fun x => by have := inB_true.2 x; rw [v3] at this; cases this
      simp
      omega
    · have h3 := inB_true.1 v3
      simp only [askC, Bool.and_self, if_true]
      split
      · simp; omega
      · simp; omega
  · unfold rMeanWait
    rw [v0, v1, v2]
    simp only [askC, Bool.and_self, if_true]
    split
    · simp; omega
    · simp; omega
  · constructor
    · intro h0
      have : mE = 0 := by omega
      rw [this, Nat.zero_mul] at hor
      omega
    · intro h0
      rcases hra2 with h1 | h1
      · omega
      · omega
  · rw [hr]
    have : (((mE * S : Nat)) : Int) = (mE : Int) * (S : Int) := Int.natCast_mul _ _
    omega
  · omega
  · unfold rMeanWait
    rw [v0, v1, v2]
    simp only [askC, Bool.and_self, if_true]
    split
    · simp
    · have hso := sum_bdM 3900060 (by omega) (outTo zs E S m) (fun x hx => by have := out_mem hv.1 m x hx; omega)
      rw [outAll_eq hv.1 hm hl] at hso
      exact (rdiv_bd (by omega) (by omega)).1
/-- What the law looks at when the person waits. -/
structure OneFacts (zs : List Int) (every seats person r : Int) (j : Nat) (T r1 : Int) : Prop where
  came : Came zs person j
  wait : (rWaitOf zs every seats person).1 = T - ((j : Int) + 1)
  tt : (j : Int) + 1 ≤ T ∧ T ≤ 3900060
  ev : 1 ≤ every ∧ every ≤ 60
  se : 1 ≤ seats ∧ seats ≤ 1000
  md : T.tmod every = 0 ∧ T % every = 0
  dv : T.tdiv every = r1 ∧ T / every = r1
  rb : 0 ≤ r1 ∧ r1 ≤ r ∧ r1 ≤ 3900060
  pr : person < r1 * seats
  pe : 0 ≤ person ∧ person < zs.sum ∧ person ≤ 100000
  len : zs.length ≤ 60
  el : ∀ z ∈ zs, 0 ≤ z ∧ z ≤ 1000
  vv : arrB zs = true ∧ inB every 1 60 = true ∧ inB seats 1 1000 = true
  less : 0 < person → ∃ (j' : Nat) (T' : Int), Came zs (person - 1) j' ∧ nth (outAll zs every seats) (person - 1).toNat = T' - ((j' : Int) + 1) ∧ (j' : Int) + 1 ≤ T' ∧ T' ≤ T
theorem one_facts {zs : List Int} {every seats person r cd : Int} (h : RidesP zs every seats r cd) (h1 : (rWaitOf zs every seats person).2 = 0) : ∃ j T r1, OneFacts zs every seats person r j T r1 := by
  have hask : askW2 zs every seats person = 0 := by
    unfold rWaitOf at h1
    split at h1
    · assumption
    · exact h1
  have hps : person < zs.sum := by
    rw [rWaitOf, if_pos hask] at h1
    split at h1
    · assumption
    · exact absurd h1 (by simp)
  have hW : (rWaitOf zs every seats person).1 = nth (outAll zs every seats) person.toNat := by
    rw [rWaitOf, if_pos hask, if_pos hps]
  have hb := hask
  rw [askW2, askC_zero, Bool.and_eq_true, Bool.and_eq_true] at hb
  obtain ⟨v0, v1, v2, v3⟩ := hb
  have hcd : cd = 0 := by rw [h.1, v0, v1, v2]; rfl
  obtain ⟨m, hra, hl, hm⟩ := h.2.2 hcd
  have hv := arrB_true.1 v0
  have he := inB_true.1 v1
  have hse := inB_true.1 v2
  have hpe := inB_true.1 v3
  obtain ⟨E, rfl⟩ := Int.eq_ofNat_of_zero_le (show 0 ≤ every by omega)
  obtain ⟨S, rfl⟩ := Int.eq_ofNat_of_zero_le (show 0 ≤ seats by omega)
  obtain ⟨q, rfl⟩ := Int.eq_ofNat_of_zero_le (show 0 ≤ person by omega)
  rw [Int.toNat_natCast, Int.toNat_natCast] at hra hl
  obtain ⟨j, t, ⟨hj, hlv, hjt⟩, htm, hn⟩ := waits_ex hv.1 hl hm hps
  have hle := leaves_at hlv
  have hor := out_rides (zs := zs) (E := E) (S := S) (by omega) t
  have hdm : t / E ≤ m / E := Nat.div_le_div_right htm
  have hdt : t / E ≤ t := Nat.div_le_self _ _
  have hmd : ((t : Int)) % (E : Int) = 0 := by have := congrArg (Int.ofNat) hle.1; simpa using this
  have hdv : ((t : Int)) / (E : Int) = ((t / E : Nat) : Int) := (Int.natCast_ediv _ _).symm
  have hra1 := hra.1
  clear hra
  generalize m / E = mE at *
  generalize t / E = tE at *
  refine ⟨j, (t : Int), (tE : Int), hj, ?_, by omega, he, hse, ⟨?_, hmd⟩, ⟨?_, hdv⟩, ⟨by omega, by omega, by omega⟩, ?_, ⟨by omega, hps, by omega⟩, hv.2.2, hv.1, ⟨v0, v1, v2⟩, ?_⟩
  · rw [hW, Int.toNat_natCast]; exact hn
  · rw [Int.tmod_eq_emod_of_nonneg (by omega)]; exact hmd
  · rw [Int.tdiv_eq_ediv_of_nonneg (by omega)]; exact hdv
  · have e : ((tE * S : Nat) : Int) = (tE : Int) * (S : Int) := Int.natCast_mul _ _
    have := hlv.2.2
    omega
  · intro hp
    obtain ⟨p, rfl⟩ : ∃ p, q = p + 1 := ⟨q - 1, by omega⟩
    have hps' : (p : Int) < zs.sum := by omega
    obtain ⟨j', t', ⟨hj', hlv', hjt'⟩, htm', hn'⟩ := waits_ex (q := p) hv.1 hl hm hps'
    have ep : (((p + 1 : Nat) : Int) - 1) = (p : Int) := by omega
    rw [ep, Int.toNat_natCast]
    exact ⟨j', (t' : Int), hj', hn', by omega, by have := leaves_mono hlv hlv' (by omega); omega⟩
end Go.Proofs.Ytmiilnddfmeldaa
