/- Evacuation: WayTime: contracts of both sides. -/
import Derived.Test.YtcppogfffgdjhaaWs
import Derived.Test.YtcppogfffgdjhaaF
import Derived.Deep.RegionHeld3
namespace Go.Proofs.Ytcppogfffgdjhaa
open Go.RowKit
set_option maxRecDepth 100000
set_option linter.unusedVariables false

theorem walksB_true {p : Int} {l : List WalkR} (h : walksB p l = true) : (∀ k, k < l.length → walkB p (WalkR.at_ l k) = true) ∧ (1 ≤ p ∧ p ≤ 16) ∧ l.length ≤ 40 := by
  simp only [walksB, Bool.and_eq_true, decide_eq_true_eq] at h
  exact ⟨fun k hk => allTo_true.1 h.1 k hk, inB_true.1 h.2.1, h.2.2⟩
theorem walkB_true {p : Int} {x : WalkR} (hp : 1 ≤ p ∧ p ≤ 16) (h : walkB p x = true) : (0 ≤ x.From ∧ x.From < p) ∧ (0 ≤ x.To ∧ x.To < p) ∧ x.From ≠ x.To ∧ 1 ≤ x.Seconds ∧ x.Seconds ≤ 3600 := by
  simp only [walkB, Bool.and_eq_true, inB_true, top, Bool.not_eq_true', beq_eq_false_iff_ne] at h
  have ht : wrap64 (p - 1) = p - 1 := by unfold wrap64; omega
  rw [ht] at h
  omega
theorem secTo_bd {p : Int} {l : List WalkR} (h : walksB p l = true) (a b : Int) (lad : Bool) : ∀ k, k ≤ l.length → -1 ≤ secTo l a b lad k ∧ secTo l a b lad k ≤ 3600 := by
  have hw := walksB_true h
  intro k
  induction k with
  | zero => intro _; simp [secTo]
  | succ k ih =>
    intro hk
    have := ih (by omega)
    have hx := walkB_true hw.2.1 (hw.1 k (by omega))
    rw [secTo_succ]
    split <;> omega

theorem wayTime1_any {b : Nat} {p : Int} (z : Int) (w : World) (hc : w.cell? ⟨b, 0, none⟩ = some (.int .i64 p)) : Calls Try.prog 39 #[.int .i64 z, .pointer (some ⟨b, 0, none⟩)] w fun e w' => e = .returned (.bool (!inB z 0 (top p))) ∧ w = w' := by
  go_enter Try.func39, Try.ntmps39
  go_wp2_with (go_at_call 23; refine (isSpotOf_any _ _ _).mono ?_; rintro e w' ⟨rfl, rfl⟩)
  go_ret
  exact ⟨rfl, rfl⟩

/-- The time of leg j of a way. -/
def legW (l : List WalkR) (ys : List Int) (lad : Bool) (j : Nat) : Int := secTo l (nth ys j) (nth ys (j + 1)) lad l.length
def legsTo (l : List WalkR) (ys : List Int) (lad : Bool) : Nat → Int
  | 0 => 0
  | k + 1 => legsTo l ys lad k + legW l ys lad k
theorem legsTo_succ (l : List WalkR) (ys : List Int) (lad : Bool) (k : Nat) : legsTo l ys lad (k + 1) = legsTo l ys lad k + legW l ys lad k := rfl
def spotsOf (p : Int) (ys : List Int) : Bool := !ys.any (fun z => !inB z 0 (top p))
def rWayTime (p : Int) (l : List WalkR) (ys : List Int) (lad : Bool) : Int × Int :=
  if askW p l (spotsOf p ys) (decide (ys.length ≤ 64)) = 0 then (if allTo (fun j => decide (0 ≤ legW l ys lad j)) (ys.length - 1) then (legsTo l ys lad (ys.length - 1), 0) else (0, 3)) else (0, askW p l (spotsOf p ys) (decide (ys.length ≤ 64)))
theorem askW_zero {p : Int} {l : List WalkR} {f1 f2 : Bool} : askW p l f1 f2 = 0 ↔ walksB p l = true ∧ f1 = true ∧ f2 = true := by
  unfold askW
  cases walksB p l <;> cases f1 <;> cases f2 <;> simp
theorem legsTo_bd {p : Int} {l : List WalkR} {ys : List Int} {lad : Bool} (h : walksB p l = true) : ∀ k, allTo (fun j => decide (0 ≤ legW l ys lad j)) k = true → 0 ≤ legsTo l ys lad k ∧ legsTo l ys lad k ≤ k * 3600 := by
  intro k
  induction k with
  | zero => intro _; simp [legsTo]
  | succ k ih =>
    intro hk
    rw [allTo_succ, Bool.and_eq_true, decide_eq_true_eq] at hk
    have := ih hk.1
    have hb := (secTo_bd h (nth ys k) (nth ys (k + 1)) lad l.length (Nat.le_refl _)).2
    rw [legsTo_succ]
    unfold legW at *
    omega

theorem implWayTime_any {A A' : Option Addr} {n c B n' c' B' : Nat} {p : Int} {l : List WalkR} {ys : List Int} {lad : Bool} {w : World} (h : Reads w B 4 A n (l.flatMap WalkR.cells)) (hB : B ≤ w.heap.size) (hc : n ≤ c) (hn : n ≤ 1048576)
    (h' : Ints w B' A' n' ys) (hB' : B' ≤ w.heap.size) (hc' : n' ≤ c') (hn' : n' ≤ 1048576) :
    Calls Try.prog 19 #[.int .i64 p, .slice A n c, .slice A' n' c', .bool lad] w fun e w' => e = .returned (.tuple #[.int .i64 (rWayTime p l ys lad).1, .int .i64 (rWayTime p l ys lad).2]) ∧ Below w.heap.size w w' := by
  have HL := Lib.hid (WalkR.count h)
  have HL' := Lib.hid h'.len
  go_enter Try.func19, Try.ntmps19
  go_wp2_with fail
  have hb1 : Below w.heap.size w (w.alloc (.cells #[.int .i64 p] 2)) := (Below.refl _ _).alloc (Nat.le_refl _) _
  have hs1 : w.heap.size + 1 ≤ (w.alloc (.cells #[.int .i64 p] 2)).heap.size := by simp
  have hx0 : (w.alloc (.cells #[.int .i64 p] 2)).cell? ⟨w.heap.size, 0, none⟩ = some (.int .i64 p) := by simp
  generalize w.alloc (.cells #[.int .i64 p] 2) = W1 at *
  have h1 := Reads.below h hb1 hB
  have h1' := Reads.below h' hb1 hB'
  refine (containsFunc1_any _ (Lib.hid Try.call39) (fun z => !inB z 0 (top p)) _ _ (Lib.hid fun z => wayTime1_any z W1 hx0) A' n' c' B' ys h1' (by omega)).mono ?_
  rintro e w' ⟨rfl, rfl⟩
  go_wp2_with fail
  have Hcd : Hid (askW p l (spotsOf p ys) (decide (ys.length ≤ 64)) = askW p l (!ys.any fun z => !inB z 0 (top p)) (decide ((n' : Int) ≤ 64))) := Lib.hid (by rw [HL'.out]; congr 1; exact decide_eq_decide.2 (by omega))
  refine (walked_any h1 (by omega) hn).mono ?_
  rintro e w2 ⟨rfl, b⟩
  have hb2 : Below w.heap.size w w2 := hb1.trans (b.mono (by omega))
  have h2 := Reads.below h hb2 hB
  have h2' := Reads.below h' hb2 hB'
  clear hx0 hb1 b h1 h1'
  generalize hcd : askW p l (!ys.any fun z => !inB z 0 (top p)) (decide ((n' : Int) ≤ 64)) = cd at Hcd ⊢
  by_cases hz : cd = 0
  · subst hz
    obtain ⟨hw, hsp, hle⟩ := askW_zero.1 hcd
    have Hw := Lib.hid hw
    have hle' : n' ≤ 64 := by have := of_decide_eq_true hle; omega
    have Hr : Hid (rWayTime p l ys lad = if allTo (fun j => decide (0 ≤ legW l ys lad j)) (n' - 1) then (legsTo l ys lad (n' - 1), 0) else (0, 3)) := Lib.hid (by rw [rWayTime, if_pos Hcd.out, HL'.out])
    clear hw hsp hle hcd Hcd
    go_wp2_with fail
    go_loopg [12, 13] (n' - 1) (fun gk s i wr => ∃ k : Nat, gk + k = n' - 1 ∧ i = .int .i64 ((k : Int) + 1) ∧ s = .int .i64 (legsTo l ys lad k) ∧ Below w.heap.size w wr ∧ allTo (fun j => decide (0 ≤ legW l ys lad j)) k = true)
    case atStart => exact ⟨0, by omega, rfl, rfl, hb2, rfl⟩
    case round =>
      obtain ⟨k, hgk, rfl, rfl, hb, hall⟩ := hrel
      have Hgk := Lib.hid hgk
      have Hall := Lib.hid hall
      have hbs := hb.size
      have hsum := legsTo_bd Hw.out k hall
      clear hgk hall
      by_cases hlt : k + 1 < n'
      · obtain ⟨ad, rfl, hbl, hc1⟩ := Ints.at_ (k := k) (Reads.below h' hb hB') (by omega)
        obtain ⟨ad', e', _, hc2⟩ := Ints.at_ (k := k + 1) (Reads.below h' hb hB') hlt
        injection e' with e'
        subst e'
        have hq1 : IntKind.i64.wrap ((k : Int) + 1 - 1) = k := by have := IntWalk.i64_in ((k : Int) + 1 - 1) (by omega); omega
        have hq2 : (k : Int) + 1 - 1 = k := by omega
        have hq8 : IntKind.i64.wrap (k : Int) = k := IntWalk.i64_in _ (by omega)
        have hq3 : (0 : Int) ≤ (k : Int) + 1 := by omega
        have hq4 : (k : Int) + 1 < (n' : Int) := by omega
        have hq5 : (k : Int) < (n' : Int) := by omega
        have hq6 : (0 : Int) ≤ (k : Int) := by omega
        have hq7 : ((k : Int) + 1).toNat = k + 1 := by omega
        have Hleg : Hid (legW l ys lad k = secTo l (nth ys k) (nth ys (k + 1)) lad n) := Lib.hid (by rw [legW, HL.out])
        go_wp2_with fail
        have hD : Below wr.heap.size wr wr.drew := (Below.refl _ _).drew
        have hr := Reads.below h hb hB
        obtain ⟨ad0, e0, _, hc0⟩ := Ints.at_ (k := 0) (Reads.below h' hb hB') (by omega)
        injection e0 with e0
        subst e0
        rw [addr_add_zero] at hc0
        obtain ⟨b0, o0, sp⟩ := ad
        have hsp := World.cell?_spot hc0
        simp only at hsp
        subst hsp
        simp only [Addr.add_lit] at hc1 hc2 hbl
        go_region_held3 (fun w' => w'.cell? ⟨b0, o0 + k, none⟩ = some (.int .i64 (nth ys k)) ∧ w'.cell? ⟨b0, o0 + (k + 1), none⟩ = some (.int .i64 (nth ys (k + 1))) ∧ Below wr.heap.size wr w')
          (first
            | (refine ⟨?_, ?_, by with_reducible exact hD⟩; exact hc1; exact hc2)
            | (go_split_ands; have hbS : Below wr.heap.size wr _ := (by with_reducible assumption); refine ⟨?_, ?_, ?_⟩ <;> first | with_reducible exact hbS.trans (b.mono hbS.size) | (rw [b.cell (by simp only []; first | omega | (simp; omega))]; first | with_reducible assumption | exact hc1 | exact hc2)))
          ((first
            | (go_at_call 37; refine (seconds_any (by exact hr) (by simp; omega) hn).mono ?_; rintro e w3 ⟨rfl, b⟩)))
        have hbS : Below wr.heap.size wr w3 := by go_split_ands; with_reducible assumption
        have hb3 : Below w.heap.size w w3 := hb.trans (hbS.mono hbs)
        have hsb := secTo_bd Hw.out (nth ys k) (nth ys (k + 1)) lad n (by rw [HL.out]; exact Nat.le_refl _)
        clear hbS b hc1 hc2 hr hD hb hc0
        generalize secTo l (nth ys k) (nth ys (k + 1)) lad n = s at hsb Hleg ⊢
        by_cases hs : s < 0
        · have Hf : Hid (allTo (fun j => decide (0 ≤ legW l ys lad j)) (n' - 1) = false) := Lib.hid (allTo_false (k := k) (by omega) (by rw [Hleg.out]; simp; omega))
          go_wp2_with fail
          go_ret2
          exact ⟨by rw [Hr.out, Hf.out]; rfl, hb3⟩
        · have Ht : Hid (allTo (fun j => decide (0 ≤ legW l ys lad j)) (k + 1) = true) := Lib.hid (by rw [allTo_succ, Hall.out, Hleg.out]; simp; omega)
          have hq9 : IntKind.i64.wrap (legsTo l ys lad k + s) = legsTo l ys lad k + s := IntWalk.i64_in _ (by omega)
          have hq10 : IntKind.i64.wrap ((k : Int) + 1 + 1) = (k : Int) + 1 + 1 := IntWalk.i64_in _ (by omega)
          go_wp2_with fail
          have hgk := Hgk.out
          go_roundg (gk - 1)
          case rel => exact ⟨k + 1, by omega, by go_num, by rw [legsTo_succ, Hleg.out], hb3, Ht.out⟩
          case measure => omega
      · have Hke : Hid (k = n' - 1) := Lib.hid (by have := Hgk.out; omega)
        have hd : ¬ ((k : Int) + 1 < (n' : Int)) := by omega
        go_wp2_with fail
        go_ret2
        exact ⟨by rw [Hr.out, ← Hke.out, Hall.out]; rfl, hb⟩
  · have Hr : Hid (rWayTime p l ys lad = (0, cd)) := Lib.hid (by rw [rWayTime, Hcd.out, if_neg hz])
    go_wp2_with fail
    go_ret2
    exact ⟨by rw [Hr.out]; rfl, hb2⟩
end Go.Proofs.Ytcppogfffgdjhaa
