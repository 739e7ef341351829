/- Evacuation: plain facts on quickest ways: what the law of evacuation asks. No program in sight. -/
import Derived.Test.YtcppogfffgdjhaaMa
import Derived.Test.YtcppogfffgdjhaaWm
import Derived.Test.YtcppogfffgdjhaaWx
namespace Go.Proofs.Ytcppogfffgdjhaa
open Go.RowKit
set_option maxRecDepth 100000
set_option linter.unusedVariables false

theorem top_of {p : Int} (hp : 1 ≤ p ∧ p ≤ 16) : top p = p - 1 := by unfold top wrap64; omega
theorem walks_ok {P : Nat} {l : List WalkR} (hP : 1 ≤ P ∧ P ≤ 16) (hl : l.length ≤ 40) (h : OkW P l) : walksB (P : Int) l = true := by
  unfold walksB
  simp only [Bool.and_eq_true, decide_eq_true_eq, inB_true]
  refine ⟨allTo_true.2 fun k hk => ?_, by omega, hl⟩
  obtain ⟨h1, h2, h3, h4, h5⟩ := h k hk
  unfold walkB
  have ht : top (P : Int) = (P : Int) - 1 := top_of (by omega)
  simp only [Bool.and_eq_true, inB_true, Bool.not_eq_true', beq_eq_false_iff_ne, ne_eq, ht]
  omega
section
variable {P : Nat} {l : List WalkR} (hw : walksB (P : Int) l = true)
include hw
theorem times_len (lad : Bool) (goals : List Int) : (timesR P l goals lad).length = P := by
  have := (times_good lad hw goals).len; simpa using this
theorem times_self (lad : Bool) {to : Int} (ht : 0 ≤ to ∧ to < P) : nth (timesR P l [to] lad) to.toNat = 0 := by
  refine times_zero lad hw [to] (by omega) ?_
  simp; omega
theorem times_more (lad : Bool) (to : Int) (v : Nat) (hv : v < P) : nth (timesR P l [to] lad) v < 0 ∨ (0 ≤ nth (timesR P l [to] true) v ∧ nth (timesR P l [to] true) v ≤ nth (timesR P l [to] lad) v) := by
  refine times_low lad hw [to] (F := timesR P l [to] true) (fun k hk hu h1 => times_closed true hw [to] k hk (by simp) h1) (fun u hu => ?_) v (by omega)
  rw [initT_nth _ hu]
  by_cases e : ((u : Nat) : Int) = to
  · have : [to].any (fun z => ((u : Nat) : Int) == z) = true := by simp [e]
    rw [times_zero true hw [to] hu this]
    simp [e]
  · simp [e]
/-- A place with a time that is not the goal has a next place. -/
theorem times_hop (lad : Bool) {to : Int} (v : Nat) (hv : v < P) (hne : (v : Int) ≠ to) (h0 : 0 ≤ nth (timesR P l [to] lad) v) :
    ∃ k, k < l.length ∧ ((WalkR.at_ l k).Ladder && !lad) = false ∧ (WalkR.at_ l k).From = v ∧ 0 ≤ nth (timesR P l [to] lad) (WalkR.at_ l k).To.toNat ∧ nth (timesR P l [to] lad) (WalkR.at_ l k).To.toNat + (WalkR.at_ l k).Seconds = nth (timesR P l [to] lad) v := by
  have hl := (okW_of hw).1
  rcases times_born lad hw [to] v (by omega) with h | ⟨ha, hb⟩ | ⟨k, hk, hu, hf, ht, hs⟩
  · omega
  · rw [initT_nth [to] (by omega)] at ha
    have : [to].any (fun z => ((v : Nat) : Int) == z) = false := by simp [hne]
    rw [this] at ha; simp at ha
  · have hc := times_closed lad hw [to] k hk hu ht
    rw [hf] at hc
    have hx := hl k hk
    exact ⟨k, hk, hu, by omega, ht, by omega⟩
end

/-- What a quickest way is. -/
structure WayOk (P : Nat) (l : List WalkR) (lad : Bool) (F : List Int) (to a : Int) (ys : List Int) : Prop where
  pos : 0 < ys.length
  first : nth ys 0 = a
  last : nth ys (ys.length - 1) = to
  mem : ∀ z ∈ ys, 0 ≤ z ∧ z < P ∧ nth F z.toNat ≤ nth F a.toNat
  leg : ∀ j, j + 1 < ys.length → secTo l (nth ys j) (nth ys (j + 1)) lad l.length = nth F (nth ys j).toNat - nth F (nth ys (j + 1)).toNat ∧ 0 ≤ secTo l (nth ys j) (nth ys (j + 1)) lad l.length
  nodup : (ys.map Int.toNat).Nodup
theorem nth_cons_zero (a : Int) (ys : List Int) : nth (a :: ys) 0 = a := rfl
theorem nth_cons_succ (a : Int) (ys : List Int) (j : Nat) : nth (a :: ys) (j + 1) = nth ys j := by simp [nth, List.getD]
theorem way_ok {P : Nat} {l : List WalkR} {lad : Bool} {F : List Int} {to : Int} (h : TimesP P l lad to F) (hto : 0 ≤ to ∧ to < P) : ∀ (m : Nat) (a : Int), 0 ≤ a ∧ a < P → 0 ≤ nth F a.toNat → nth F a.toNat ≤ m → (nth F a.toNat = 0 → a = to) →
    (∀ v : Nat, v < P → nth F v = 0 → (v : Int) = to) → WayOk P l lad F to a (a :: wayOf P l lad F to m a) := by
  intro m
  induction m with
  | zero =>
    intro a ha h0 hm hz hz2
    have e : a = to := hz (by omega)
    subst e
    exact ⟨by simp, rfl, rfl, fun z hz => by simp [wayOf] at hz; subst hz; exact ⟨ha.1, ha.2, Int.le_refl _⟩, fun j hj => by simp [wayOf] at hj, by simp [wayOf]⟩
  | succ m ih =>
    intro a ha h0 hm hz hz2
    by_cases e : a = to
    · subst e
      rw [wayOf_end]
      exact ⟨by simp, rfl, rfl, fun z hz => by simp at hz; subst hz; exact ⟨ha.1, ha.2, Int.le_refl _⟩, fun j hj => by simp at hj, by simp⟩
    · rw [wayOf_step P l lad F m e]
      obtain ⟨v, hv, hn, _, hh, hv0, hlt⟩ := h.next a ha e h0
      rw [hn]
      have r := ih (v : Int) ⟨by omega, by omega⟩ (by simpa using hv0) (by simp; omega) (fun h0 => hz2 v hv (by simpa using h0)) hz2
      have hsec := h.hop a (v : Int)
      rw [hh, Bool.and_eq_true, Bool.and_eq_true, decide_eq_true_eq, beq_iff_eq] at hsec
      have hvt : ((v : Int)).toNat = v := by omega
      rw [hvt] at hsec
      refine ⟨by simp, rfl, ?_, fun z hz => ?_, fun j hj => ?_, ?_⟩
      · have := r.last
        have hp := r.pos
        rw [List.length_cons, Nat.add_sub_cancel]
        obtain ⟨q, hq⟩ : ∃ q, ((v : Int) :: wayOf P l lad F to m (v : Int)).length = q + 1 := ⟨_, rfl⟩
        rw [hq, Nat.add_sub_cancel] at this
        rw [hq, nth_cons_succ]; exact this
      · rcases List.mem_cons.1 hz with rfl | hz
        · exact ⟨ha.1, ha.2, Int.le_refl _⟩
        · have := r.mem z hz
          rw [hvt] at this
          exact ⟨this.1, this.2.1, by omega⟩
      · cases j with
        | zero =>
          rw [nth_cons_zero, nth_cons_succ, nth_cons_zero, hvt]
          exact ⟨by omega, hsec.1⟩
        | succ j =>
          rw [nth_cons_succ, nth_cons_succ]
          exact r.leg j (by simpa using hj)
      · rw [List.map_cons, List.nodup_cons]
        refine ⟨fun hm => ?_, r.nodup⟩
        obtain ⟨z, hz, hze⟩ := List.mem_map.1 hm
        have := r.mem z hz
        rw [hvt, hze] at this
        omega
theorem WayOk.len {P : Nat} {l : List WalkR} {lad : Bool} {F : List Int} {to a : Int} {ys : List Int} (h : WayOk P l lad F to a ys) : ys.length ≤ P := by
  have := nodup_len _ (List.range P) h.nodup (fun x hx => by
    obtain ⟨z, hz, rfl⟩ := List.mem_map.1 hx
    have := h.mem z hz
    exact List.mem_range.2 (by omega))
  simpa using this
theorem WayOk.sum {P : Nat} {l : List WalkR} {lad : Bool} {F : List Int} {to a : Int} {ys : List Int} (h : WayOk P l lad F to a ys) : ∀ k, k + 1 ≤ ys.length → legsTo l ys lad k = nth F a.toNat - nth F (nth ys k).toNat := by
  intro k
  induction k with
  | zero => intro _; rw [h.first]; simp [legsTo]
  | succ k ih =>
    intro hk
    have := (h.leg k (by omega)).1
    rw [legsTo_succ, ih (by omega), legW, this]; omega
theorem WayOk.time {P : Nat} {l : List WalkR} {lad : Bool} {F : List Int} {to a : Int} {ys : List Int} (h : WayOk P l lad F to a ys) (hw : walksB (P : Int) l = true) (hP : 1 ≤ P ∧ P ≤ 16) (h0 : nth F to.toNat = 0) : rWayTime P l ys lad = (nth F a.toNat, 0) := by
  have hlen := h.len
  have h1 : spotsOf (P : Int) ys = true := by
    unfold spotsOf
    rw [Bool.not_eq_true', List.any_eq_false]
    intro z hz
    have := h.mem z hz
    have ht : top (P : Int) = (P : Int) - 1 := top_of (by omega)
    rw [Bool.not_eq_true, Bool.not_eq_false', inB_true, ht]; omega
  have h2 : askW (P : Int) l (spotsOf (P : Int) ys) (decide (ys.length ≤ 64)) = 0 := askW_zero.2 ⟨hw, h1, decide_eq_true (by omega)⟩
  have h3 : allTo (fun j => decide (0 ≤ legW l ys lad j)) (ys.length - 1) = true := allTo_true.2 fun j hj => by
    rw [decide_eq_true_eq, legW]; exact (h.leg j (by omega)).2
  rw [rWayTime, if_pos h2, if_pos h3, h.sum _ (by have := h.pos; omega), h.last, h0]; simp
theorem way_full {P : Nat} {l : List WalkR} {lad : Bool} {src to : Int} (hw : walksB (P : Int) l = true) (hP : 1 ≤ P ∧ P ≤ 16) (hs : 0 ≤ src ∧ src < P) (ht : 0 ≤ to ∧ to < P) (h0 : 0 ≤ nth (timesR P l [to] lad) src.toNat) :
    WayOk P l lad (timesR P l [to] lad) to src (wayR P l lad src to) := by
  have hz : ∀ v : Nat, v < P → nth (timesR P l [to] lad) v = 0 → (v : Int) = to := fun v hv hv0 => by
    by_cases e : (v : Int) = to
    · exact e
    · obtain ⟨k, hk, _, _, h1, h2⟩ := times_hop hw lad v hv e (by omega)
      have := ((okW_of hw).1 k hk).2.2.2.1
      omega
  have e : ((P : Int)).toNat = P := by omega
  unfold wayR
  rw [e]
  refine way_ok (timesP hw to) ht _ src hs h0 (by omega) (fun h => ?_) hz
  have := hz src.toNat (by omega) h
  omega
end Go.Proofs.Ytcppogfffgdjhaa
