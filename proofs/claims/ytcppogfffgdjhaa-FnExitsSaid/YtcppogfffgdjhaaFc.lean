/- Evacuation: plain facts on exits: what the law of exits asks; and the law's own search in a list. -/
import Derived.Test.YtcppogfffgdjhaaFb
import Derived.Test.YtcppogfffgdjhaaWk
import Derived.Test.YtcppogfffgdjhaaWl
namespace Go.Proofs.Ytcppogfffgdjhaa
open Go.RowKit
set_option maxRecDepth 100000
set_option linter.unusedVariables false
set_option linter.unusedSimpArgs false
set_option linter.unusedSectionVars false

/-- Exits: places that rise. -/
def ExitsOk (P : Nat) (ys : List Int) : Prop := ys.Pairwise (· < ·) ∧ ∀ y ∈ ys, 0 ≤ y ∧ y < P
theorem ExitsOk.nil (P : Nat) : ExitsOk P [] := ⟨List.Pairwise.nil, fun y hy => by cases hy⟩
theorem ExitsOk.more {k : Nat} {ys : List Int} (h : ExitsOk k ys) : ExitsOk (k + 1) ys := ⟨h.1, fun y hy => by have := h.2 y hy; omega⟩
theorem ExitsOk.push {k : Nat} {ys : List Int} (h : ExitsOk k ys) : ExitsOk (k + 1) (ys ++ [(k : Int)]) := by
  refine ⟨List.pairwise_append.2 ⟨h.1, List.pairwise_singleton _ _, fun a ha b hb => ?_⟩, fun y hy => ?_⟩
  · have := h.2 a ha
    simp at hb; omega
  · rcases List.mem_append.1 hy with hy | hy
    · have := h.2 y hy; omega
    · simp at hy; omega
theorem ExitsOk.at_ {P : Nat} {ys : List Int} (h : ExitsOk P ys) {k : Nat} (hk : k < ys.length) : 0 ≤ nth ys k ∧ nth ys k < P := h.2 _ (nth_mem hk)
theorem ExitsOk.rises {P : Nat} {ys : List Int} (h : ExitsOk P ys) (hP : 1 ≤ P ∧ P ≤ 16) : risesB 0 (top (P : Int)) ys = true := by
  rw [risesB, allTo_true]
  intro k hk
  have h1 := h.at_ hk
  rw [riseB_eq, Bool.and_eq_true, inB_true, top_of (by omega), Bool.or_eq_true, decide_eq_true_eq, decide_eq_true_eq]
  refine ⟨by omega, ?_⟩
  by_cases hz : k = 0
  · exact .inl hz
  · refine .inr ?_
    have h2 := List.pairwise_iff_getElem.1 h.1 (k - 1) k (by omega) hk (by omega)
    rw [nth_eq (by omega), nth_eq hk]
    exact h2

section
variable {P : Nat} {l : List WalkR} {ys : List Int} (lad : Bool) (hw : walksB (P : Int) l = true) (hP : 1 ≤ P ∧ P ≤ 16) (hy : ExitsOk P ys)
include hw hP hy
theorem askE (f : Bool) (hf : f = true) : askW (P : Int) l f (risesB 0 (top (P : Int)) ys) = 0 := askW_zero.2 ⟨hw, hf, hy.rises hP⟩
theorem spotE {v : Int} (hv : 0 ≤ v ∧ v < P) : inB v 0 (top (P : Int)) = true := by rw [inB_true, top_of (by omega)]; omega
/-- What NearestExit tells. -/
theorem near_ok {v : Nat} (hv : v < P) : (nth (timesR P l ys lad) v < 0 ∧ rNear P l v ys lad = (0, 0, 3)) ∨ (0 ≤ nth (timesR P l ys lad) v ∧ ∃ e, ys.any (fun y => y == e) = true ∧ rNear P l v ys lad = (e, nth (timesR P l ys lad) v, 0)) := by
  have ha := askE hw hP hy (inB (v : Int) 0 (top (P : Int))) (spotE hw hP hy (by omega))
  have hn := near_all lad hw (fun k hk => (hy.at_ hk).1) v (by simpa using hv)
  have hs := nearTo_spec (timeFrom P l lad v) ys (fun k hk => (hy.at_ hk).1) ys.length (Nat.le_refl _)
  rw [rNear, if_pos ha]
  have e : ((v : Int)).toNat = v := by omega
  rw [e]
  rcases hn with ⟨h1, h2⟩ | ⟨h1, h2, h3⟩
  · exact .inl ⟨h2, by rw [if_pos (by omega)]⟩
  · refine .inr ⟨h3, (nearTo (timeFrom P l lad v) ys ys.length).1, ?_, by rw [if_neg (by omega), h2]⟩
    rcases hs with ⟨g1, _⟩ | ⟨_, _, ⟨j, hj, g1, _⟩, _⟩
    · omega
    · exact List.any_eq_true.2 ⟨nth ys j, nth_mem hj, by simp [g1]⟩
/-- The least time found so far, from the exits ahead of the k-th. -/
def bestE (T : Int → Int) (ys : List Int) (k : Nat) : Int := if (nearTo T ys k).1 < 0 then -1 else (nearTo T ys k).2
omit hw hP in
theorem bestE_succ {T : Int → Int} {k : Nat} (hk : k < ys.length) : bestE T ys (k + 1) = if decide (0 ≤ T (nth ys k)) && (decide (bestE T ys k < 0) || decide (T (nth ys k) < bestE T ys k)) then T (nth ys k) else bestE T ys k := by
  have h0 := (hy.at_ hk).1
  rcases nearTo_spec T ys (fun k hk => (hy.at_ hk).1) k (by omega) with ⟨g1, g2, _⟩ | ⟨g1, g2, _, _⟩
  · have e : bestE T ys k = -1 := by rw [bestE, if_pos (by omega)]
    rw [e, bestE, nearTo_succ]
    by_cases c0 : 0 ≤ T (nth ys k)
    · simp only [g1, c0]
      simp
      omega
    · simp only [g1, c0]
      simp [g1]
  · have e : bestE T ys k = (nearTo T ys k).2 := by rw [bestE, if_neg (by omega)]
    have g3 : ¬ (nearTo T ys k).1 < 0 := by omega
    have g4 : ¬ (nearTo T ys k).2 < 0 := by omega
    have g5 : ¬ nth ys k < 0 := by omega
    rw [e, bestE, nearTo_succ]
    by_cases c0 : 0 ≤ T (nth ys k) <;> by_cases c1 : T (nth ys k) < (nearTo T ys k).2 <;> simp [c0, c1, g3, g4, g5]
theorem bestE_all {v : Nat} (hv : v < P) : (nth (timesR P l ys lad) v < 0 ∧ bestE (timeFrom P l lad v) ys ys.length = -1) ∨ (0 ≤ nth (timesR P l ys lad) v ∧ bestE (timeFrom P l lad v) ys ys.length = nth (timesR P l ys lad) v) := by
  rcases near_all lad hw (fun k hk => (hy.at_ hk).1) v (by simpa using hv) with ⟨h1, h2⟩ | ⟨h1, h2, h3⟩
  · exact .inl ⟨h2, by rw [bestE, if_pos (by omega)]⟩
  · exact .inr ⟨h3, by rw [bestE, if_neg (by omega), h2]⟩
theorem empty_neg (he : ys.length = 0) {v : Nat} (hv : v < P) : nth (timesR P l ys lad) v < 0 := by
  rcases near_all lad hw (fun k hk => (hy.at_ hk).1) v (by simpa using hv) with ⟨_, h2⟩ | ⟨h1, _, _⟩
  · exact h2
  · rw [he] at h1
    have : (nearTo (timeFrom P l lad v) ys 0).1 = -1 := rfl
    omega
theorem exit_zero {j : Nat} (hj : j < ys.length) : nth (timesR P l ys lad) (nth ys j).toNat = 0 := by
  have h1 := hy.at_ hj
  refine times_zero lad hw ys (by omega) (List.any_eq_true.2 ⟨_, nth_mem hj, ?_⟩)
  simp; omega
theorem cut_ok : rCutOff P l ys lad = (selTo false (timesR P l ys lad) P, 0) := by
  rw [rCutOff, if_pos (askE hw hP hy true rfl)]; rfl
theorem needs_ok : rNeeds P l ys = (needTo (timesR P l ys false) (timesR P l ys true) P, 0) := by
  rw [rNeeds, if_pos (askE hw hP hy true rfl)]; rfl
/-- What WorstPlace tells. -/
theorem worst_ok : (ys.length = 0 ∧ rWorst P l ys lad = (0, 0, 3)) ∨ (0 < ys.length ∧ ∃ v : Nat, v < P ∧ rWorst P l ys lad = ((v : Int), nth (timesR P l ys lad) v, 0) ∧ ∀ u, u < P → nth (timesR P l ys lad) u ≤ nth (timesR P l ys lad) v) := by
  have hl := times_len (P := P) hw lad ys
  have hb := (bestTo_spec (timesR P l ys lad) P).1
  have hlt : bestTo (timesR P l ys lad) P < P := by have := bestTo_le (timesR P l ys lad) P; omega
  have hm : mostOf (timesR P l ys lad) = nth (timesR P l ys lad) (bestTo (timesR P l ys lad) P) := by rw [mostOf, hl]
  have hp : placeOf (timesR P l ys lad) = bestTo (timesR P l ys lad) P := by rw [placeOf, hl]
  rw [rWorst, if_pos (askE hw hP hy true rfl), hm, hp]
  by_cases he : ys.length = 0
  · exact .inl ⟨he, by rw [if_pos (empty_neg lad hw hP hy he hlt)]⟩
  · have h0 := exit_zero lad hw hP hy (j := 0) (by omega)
    have h1 := hy.at_ (k := 0) (by omega)
    have h2 := hb (nth ys 0).toNat (by omega)
    exact .inr ⟨by omega, _, hlt, by rw [if_neg (by omega)], hb⟩
theorem cars_ok {v : Nat} (hv : v < P) {people every : Int} (h1 : 1 ≤ people ∧ people ≤ 60) (h2 : 1 ≤ every ∧ every ≤ 20) :
    rCars P l v people every ys lad = if nth (timesR P l ys lad) v < 0 then (0, 3) else ((people - 1) * every + nth (timesR P l ys lad) v, 0) := by
  have ha := askE hw hP hy (inB (v : Int) 0 (top (P : Int)) && (inB people 0 200 && inB every 1 3600)) (by
    rw [Bool.and_eq_true, Bool.and_eq_true]
    exact ⟨spotE hw hP hy (by omega), inB_true.2 (by omega), inB_true.2 (by omega)⟩)
  rw [rCars, if_pos ha, if_neg (by omega)]
  have e : ((v : Int)).toNat = v := by omega
  rw [e]
theorem one_ok {k : Nat} (hk : k < ys.length) : rTimesTo P l (nth ys k) lad = (timesR P l [nth ys k] lad, 0) := by
  have h1 := hy.at_ hk
  rw [rTimesTo, if_pos (askW_zero.2 ⟨hw, spotE hw hP hy h1, rfl⟩)]
theorem one_all {k : Nat} (hk : k < ys.length) {v : Nat} (hv : v < P) (h0 : 0 ≤ nth (timesR P l [nth ys k] lad) v) : 0 ≤ nth (timesR P l ys lad) v := by
  rcases times_least lad hw ys hk v (by simpa using hv) with h | h
  · omega
  · exact h.1
end
theorem sel_full (T : List Int) : ∀ k, (∀ v, v < k → nth T v < 0) → (selTo false T k).length = k := by
  intro k
  induction k with
  | zero => intro _; rfl
  | succ k ih =>
    intro h
    have h1 := h k (by omega)
    rw [selTo_succ, if_pos (by simp; omega), List.length_append, ih (fun v hv => h v (by omega))]
    rfl
theorem any_flip (zs : List Int) (v : Int) : zs.any (fun z => z == v) = zs.any (fun z => v == z) := by
  congr 1; funext z
  rw [Bool.eq_iff_iff, beq_iff_eq, beq_iff_eq]; exact ⟨Eq.symm, Eq.symm⟩
theorem sel_has (T : List Int) (k v : Nat) (hv : v < k) : (selTo false T k).any (fun z => z == (v : Int)) = decide (nth T v < 0) := by
  rw [any_flip, selTo_any _ _ _ _ hv, Bool.eq_iff_iff]; simp
theorem need_has (ta tb : List Int) (k v : Nat) (hv : v < k) : (needTo ta tb k).any (fun z => z == (v : Int)) = (!decide (0 ≤ nth ta v) && decide (0 ≤ nth tb v)) := by
  rw [Bool.eq_iff_iff, List.any_eq_true]
  unfold needTo
  constructor
  · rintro ⟨z, hz, he⟩
    obtain ⟨u, hu, rfl⟩ := List.mem_map.1 hz
    have e : (u : Int) = (v : Int) := by simpa using he
    have e : u = v := by omega
    subst e
    exact (List.mem_filter.1 hu).2
  · intro h
    exact ⟨(v : Int), List.mem_map.2 ⟨v, List.mem_filter.2 ⟨List.mem_range.2 hv, h⟩, rfl⟩, by simp⟩

theorem r8Has_any {A : Option Addr} {n c B : Nat} {zs : List Int} {v : Int} {w : World} (h : Ints w B A n zs) (hn : n ≤ 1048576) :
    Calls Try.prog 13 #[.slice A n c, .int .i64 v] w fun e w' => e = .returned (.bool (zs.any (fun z => z == v))) ∧ w = w' := by
  have HL := Lib.hid h.len
  go_enter Try.func13, Try.ntmps13
  go_wp2_with fail
  go_loopg [5] n (fun gk i wr => ∃ k : Nat, k ≤ n ∧ gk + k = n ∧ i = .int .i64 k ∧ w = wr ∧ (zs.take k).any (fun z => z == v) = false)
  case atStart => exact ⟨0, Nat.zero_le _, rfl, rfl, rfl, rfl⟩
  case round =>
    obtain ⟨k, hk, hgk, rfl, rfl, hno⟩ := hrel
    have Hgk := Lib.hid hgk
    have Hno := Lib.hid hno
    clear hgk hno
    have hqk : IntKind.i64.wrap ((k : Int) + 1) = (k : Int) + 1 := IntWalk.i64_in _ (by omega)
    by_cases hlt : k < n
    · obtain ⟨ad, rfl, hbl, hc⟩ := h.at_ hlt
      have hk0 : (0 : Int) ≤ (k : Int) := by omega
      have hk1 : (k : Int) < (n : Int) := by omega
      have Hmem := Lib.hid (nth_mem (zs := zs) (k := k) (by rw [HL.out]; exact hlt))
      have Htk := Lib.hid (filter_take_succ (zs := zs) (k := k) (f := fun z => z == v) (by rw [HL.out]; exact hlt))
      cases e : (nth zs k == v) with
      | true =>
        go_wp2_with fail
        go_ret
        exact ⟨ret_bool (List.any_eq_true.2 ⟨_, Hmem.out, e⟩).symm, rfl⟩
      | false =>
        have Hs : Hid ((zs.take (k + 1)).any (fun z => z == v) = false) := Lib.hid (by
          rw [List.take_add_one, List.any_append, Hno.out, List.getElem?_eq_getElem (by rw [HL.out]; exact hlt)]
          rw [nth_eq (by rw [HL.out]; exact hlt)] at e
          simpa using e)
        go_wp2_with fail
        have hgk := Hgk.out
        go_roundg (gk - 1)
        case rel => exact ⟨k + 1, by omega, by omega, by go_num, rfl, Hs.out⟩
        case measure => omega
    · have hke : n = k := by omega
      subst hke
      have hd : ¬ ((n : Int) < (n : Int)) := by omega
      go_wp2_with fail
      go_ret
      refine ⟨ret_bool ?_, rfl⟩
      have := Hno.out
      rw [List.take_of_length_le (by rw [HL.out]; exact Nat.le_refl _)] at this
      exact this.symm
end Go.Proofs.Ytcppogfffgdjhaa
