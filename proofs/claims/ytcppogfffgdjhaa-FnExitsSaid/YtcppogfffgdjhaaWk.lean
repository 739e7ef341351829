/- Evacuation: CarsEmpty: contracts of both sides. -/
import Derived.Test.YtcppogfffgdjhaaWj
namespace Go.Proofs.Ytcppogfffgdjhaa
open Go.RowKit
set_option maxRecDepth 100000
set_option linter.unusedVariables false
set_option linter.unusedSimpArgs false

def rCars (p : Int) (l : List WalkR) (src people every : Int) (ys : List Int) (lad : Bool) : Int × Int :=
  if askW p l (inB src 0 (top p) && (inB people 0 200 && inB every 1 3600)) (risesB 0 (top p) ys) = 0 then (if people = 0 then (0, 0) else if nth (timesR p l ys lad) src.toNat < 0 then (0, 3) else ((people - 1) * every + nth (timesR p l ys lad) src.toNat, 0))
  else (0, askW p l (inB src 0 (top p) && (inB people 0 200 && inB every 1 3600)) (risesB 0 (top p) ys))
theorem askW_three (p : Int) (l : List WalkR) (f g r : Bool) : askW p l (f && g) r = if askW p l f true = 0 then (if g then askW p l true r else 2) else askW p l f true := by
  unfold askW
  cases walksB p l <;> cases f <;> cases g <;> cases r <;> simp

theorem implCarsEmpty_any {A A' : Option Addr} {n c B n' c' B' : Nat} {p src people every : Int} {l : List WalkR} {ys : List Int} {lad : Bool} {w : World} (h : Reads w B 4 A n (l.flatMap WalkR.cells)) (hB : B ≤ w.heap.size) (hc : n ≤ c) (hn : n ≤ 1048576)
    (h' : Ints w B' A' n' ys) (hB' : B' ≤ w.heap.size) (hc' : n' ≤ c') (hn' : n' ≤ 1048576) :
    Calls Try.prog 12 #[.int .i64 p, .slice A n c, .int .i64 src, .int .i64 people, .int .i64 every, .slice A' n' c', .bool lad] w fun e w' => e = .returned (.tuple #[.int .i64 (rCars p l src people every ys lad).1, .int .i64 (rCars p l src people every ys lad).2]) ∧ Below w.heap.size w w' := by
  have HL' := Lib.hid h'.len
  have hband : (inB src 0 (top p) && (inB people 0 200 && inB every 1 3600)) = (inB src 0 (top p) && inB people 0 200 && inB every 1 3600) := by rw [Bool.and_assoc]
  by_cases ha : askW p l (inB src 0 (top p) && (inB people 0 200 && inB every 1 3600)) (risesB 0 (top p) ys) = 0
  · have Hr : Hid (rCars p l src people every ys lad = if people = 0 then (0, 0) else if nth (timesR p l ys lad) src.toNat < 0 then (0, 3) else ((people - 1) * every + nth (timesR p l ys lad) src.toNat, 0)) := Lib.hid (by rw [rCars, if_pos ha])
    obtain ⟨hw, hf, hi⟩ := askW_zero.1 ha
    have hp := (okW_of hw).2
    rw [hf, hi] at ha
    simp only [Bool.and_eq_true] at hf
    obtain ⟨hf, hf1, hf2⟩ := hf
    have hv := spot_of hp hf
    have hpe := inB_true.1 hf1
    have hev := inB_true.1 hf2
    have hy : ∀ k, k < ys.length → 0 ≤ nth ys k := fun k hk => by
      have := goals_rise hp hi k hk; omega
    have Hnear := Lib.hid (near_all lad hw hy src.toNat (by omega))
    have Htop := Lib.hid (times_top lad hw ys src.toNat (by omega))
    rw [HL'.out] at Hnear
    clear hband hy
    go_enter Try.func12, Try.ntmps12
    go_wp2_with (first | (go_at_call 24; refine (areExits_any h' hn').mono ?_; rintro e w' ⟨rfl, rfl⟩) | (go_at_call 23; refine (isSpotOf_any _ _ _).mono ?_; rintro e w' ⟨rfl, rfl⟩) | (go_at_call 33; refine (within_any _ _ _ _).mono ?_; rintro e w' ⟨rfl, rfl⟩))
    refine (walked_any h hB hn).mono ?_
    rintro e w1 ⟨rfl, b1⟩
    rw [ha]
    have hs1 := b1.size
    by_cases hz : people = 0
    · go_wp2_with fail
      go_ret2
      exact ⟨ret2 (int_eq (by rw [Hr.out, if_pos (by omega)])) (int_eq (by rw [Hr.out, if_pos (by omega)])), b1⟩
    · go_wp2_with fail
      refine (nearestExit_any (Reads.below h b1 hB) (by omega) hn (Reads.below h' b1 hB') (by omega) hn' hw hv).mono ?_
      rintro e w2 ⟨rfl, b2⟩
      have b12 := b1.trans (b2.mono hs1)
      obtain ⟨ht1, ht2⟩ := Htop.out
      have hm1 := mul_bd (x := people - 1) (y := every) (X := 199) (Y := 3600) (by omega) (by omega) (by omega) (by omega)
      rcases Hnear.out with ⟨e1, e2⟩ | ⟨e1, e2, e3⟩
      · rw [e1]
        go_wp2_with fail
        go_ret2
        exact ⟨ret2 (int_eq (by rw [Hr.out, if_neg (by omega), if_pos (by omega)])) (int_eq (by rw [Hr.out, if_neg (by omega), if_pos (by omega)])), b12⟩
      · rw [e2]
        generalize (nearTo (timeFrom p l lad src.toNat) ys n').1 = nr at *
        generalize nth (timesR p l ys lad) src.toNat = t at *
        have e4 : ¬ t < 0 := by omega
        have hq0 : IntKind.i64.wrap (people - 1) = people - 1 := IntWalk.i64_in _ (by omega)
        have hq1 : IntKind.i64.wrap ((people - 1) * every) = (people - 1) * every := IntWalk.i64_in _ (by omega)
        have hq2 : IntKind.i64.wrap ((people - 1) * every + t) = (people - 1) * every + t := IntWalk.i64_in _ (by omega)
        go_wp2_with fail
        go_ret2
        exact ⟨ret2 (int_eq (by rw [Hr.out, if_neg (by omega), if_neg (by omega)])) (int_eq (by rw [Hr.out, if_neg (by omega), if_neg (by omega)])), b12⟩
  · have Hr : Hid (rCars p l src people every ys lad = (0, askW p l (inB src 0 (top p) && (inB people 0 200 && inB every 1 3600)) (risesB 0 (top p) ys))) := Lib.hid (by rw [rCars, if_neg ha])
    rw [hband] at ha Hr
    clear hband
    cases v1 : inB src 0 (top p) <;> cases v2 : inB people 0 200 <;> cases v3 : inB every 1 3600 <;>
      (rw [v1, v2, v3] at ha Hr
       go_enter Try.func12, Try.ntmps12
       go_wp2_with (first | (go_at_call 24; refine (areExits_any h' hn').mono ?_; rintro e w' ⟨rfl, rfl⟩) | (go_at_call 23; refine (isSpotOf_any _ _ _).mono ?_; rintro e w' ⟨rfl, rfl⟩) | (go_at_call 33; refine (within_any _ _ _ _).mono ?_; rintro e w' ⟨rfl, rfl⟩))
       refine (walked_any h hB hn).mono ?_
       rintro e w1 ⟨rfl, b1⟩
       simp only [Bool.false_and, Bool.true_and, Bool.and_false, Bool.and_true, Bool.and_self] at ha Hr
       generalize askW p l _ (risesB 0 (top p) ys) = cd at ha Hr ⊢
       go_wp2_with fail
       go_ret2
       exact ⟨ret2 (int_eq (by rw [Hr.out])) (int_eq (by rw [Hr.out])), b1⟩)

end Go.Proofs.Ytcppogfffgdjhaa
