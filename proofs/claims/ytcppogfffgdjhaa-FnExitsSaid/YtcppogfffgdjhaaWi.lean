/- Evacuation: WorstPlace: contracts of both sides. -/
import Derived.Test.YtcppogfffgdjhaaWg
namespace Go.Proofs.Ytcppogfffgdjhaa
open Go.RowKit
set_option maxRecDepth 100000
set_option linter.unusedVariables false
set_option linter.unusedSimpArgs false

def rWorst (p : Int) (l : List WalkR) (ys : List Int) (lad : Bool) : Int × Int × Int :=
  if askW p l true (risesB 0 (top p) ys) = 0 then (if mostOf (timesR p l ys lad) < 0 then (0, 0, 3) else (((placeOf (timesR p l ys lad) : Nat) : Int), mostOf (timesR p l ys lad), 0)) else (0, 0, askW p l true (risesB 0 (top p) ys))

theorem implWorstPlace_any {A A' : Option Addr} {n c B n' c' B' : Nat} {p : Int} {l : List WalkR} {ys : List Int} {lad : Bool} {w : World} (h : Reads w B 4 A n (l.flatMap WalkR.cells)) (hB : B ≤ w.heap.size) (hc : n ≤ c) (hn : n ≤ 1048576)
    (h' : Ints w B' A' n' ys) (hB' : B' ≤ w.heap.size) (hc' : n' ≤ c') (hn' : n' ≤ 1048576) :
    Calls Try.prog 11 #[.int .i64 p, .slice A n c, .slice A' n' c', .bool lad] w fun e w' => e = .returned (.tuple #[.int .i64 (rWorst p l ys lad).1, .int .i64 (rWorst p l ys lad).2.1, .int .i64 (rWorst p l ys lad).2.2]) ∧ Below w.heap.size w w' := by
  by_cases ha : askW p l true (risesB 0 (top p) ys) = 0
  · have Hr : Hid (rWorst p l ys lad = if mostOf (timesR p l ys lad) < 0 then (0, 0, 3) else (((placeOf (timesR p l ys lad) : Nat) : Int), mostOf (timesR p l ys lad), 0)) := Lib.hid (by rw [rWorst, if_pos ha])
    obtain ⟨hw, _, hi⟩ := askW_zero.1 ha
    have hp := (okW_of hw).2
    rw [hi] at ha
    go_enter Try.func11, Try.ntmps11
    go_wp2_with (go_at_call 24; refine (areExits_any h' hn').mono ?_; rintro e w' ⟨rfl, rfl⟩)
    refine (walked_any h hB hn).mono ?_
    rintro e w1 ⟨rfl, b1⟩
    rw [ha]
    have hs1 := b1.size
    go_wp2_with fail
    refine (timesTo_any (Reads.below h b1 hB) (by omega) hn (Reads.below h' b1 hB') (by omega) hn' hw).mono ?_
    rintro e w2 ⟨A1, c1, rfl, o1, b2⟩
    have b12 := b1.trans (b2.mono hs1)
    have hlen : (timesR p l ys lad).length = p.toNat := by have := o1.len; simpa using this
    generalize timesR p l ys lad = ts at *
    have Hmost := Lib.hid (findI_most (zs := ts) (by omega))
    go_wp2_with fail
    refine (max_any _ _ _ _ ts _ (own_reads o1) (by omega) (by omega)).mono ?_
    rintro e w3 ⟨rfl, rfl⟩
    by_cases hm : mostOf ts < 0
    · go_wp2_with fail
      go_ret3
      exact ⟨ret3 (int_eq (by rw [Hr.out, if_pos (by omega)])) (int_eq (by rw [Hr.out, if_pos (by omega)])) (int_eq (by rw [Hr.out, if_pos (by omega)])), b12⟩
    · go_wp2_with fail
      refine (index_any _ _ _ _ ts _ _ (own_reads o1) (by omega)).mono ?_
      rintro e w4 ⟨rfl, rfl⟩
      go_wp2_with fail
      go_ret3
      exact ⟨ret3 (int_eq (by rw [Hr.out, if_neg (by omega), Hmost.out])) (int_eq (by rw [Hr.out, if_neg (by omega)])) (int_eq (by rw [Hr.out, if_neg (by omega)])), b12⟩
  · have Hr : Hid (rWorst p l ys lad = (0, 0, askW p l true (risesB 0 (top p) ys))) := Lib.hid (by rw [rWorst, if_neg ha])
    go_enter Try.func11, Try.ntmps11
    go_wp2_with (go_at_call 24; refine (areExits_any h' hn').mono ?_; rintro e w' ⟨rfl, rfl⟩)
    refine (walked_any h hB hn).mono ?_
    rintro e w1 ⟨rfl, b1⟩
    generalize askW p l true (risesB 0 (top p) ys) = cd at ha Hr ⊢
    go_wp2_with fail
    go_ret3
    exact ⟨ret3 (int_eq (by rw [Hr.out])) (int_eq (by rw [Hr.out])) (int_eq (by rw [Hr.out])), b1⟩

theorem farTo_bd (ts : List Int) (k : Nat) : -1 ≤ farTo ts k ∧ farTo ts k < k ∨ (k = 0 ∧ farTo ts k = -1) := by
  rcases farTo_spec ts k with ⟨e, _⟩ | ⟨h0, e, _⟩
  · by_cases hk : k = 0
    · exact .inr ⟨hk, e⟩
    · exact .inl (by omega)
  · have := bestTo_le ts k
    exact .inl (by omega)
end Go.Proofs.Ytcppogfffgdjhaa
