/- Evacuation: WorstPlace: contracts of both sides. -/
import Derived.Test.YtnoppdklgcpomaaWg
namespace Go.Proofs.Ytnoppdklgcpomaa
open Go.RowKit
set_option maxRecDepth 100000
set_option linter.unusedVariables false
set_option linter.unusedSimpArgs false

def rWorst (p : Int) (l : List WalkR) (ys : List Int) (lad : Bool) : Int × Int × Int :=
  if askW p l true (risesB 0 (top p) ys) = 0 then (if mostOf (timesR p l ys lad) < 0 then (0, 0, 3) else (((placeOf (timesR p l ys lad) : Nat) : Int), mostOf (timesR p l ys lad), 0)) else (0, 0, askW p l true (risesB 0 (top p) ys))

theorem implWorstPlace_any {A A' : Option Addr} {n c B n' c' B' : Nat} {p : Int} {l : List WalkR} {ys : List Int} {lad : Bool} {w : World} (h : Reads w B 4 A n (l.flatMap WalkR.cells)) (hB : B ≤ w.heap.size) (hc : n ≤ c) (hn : n ≤ 1048576)
    (h' : Ints w B' A' n' ys) (hB' : B' ≤ w.heap.size) (hc' : n' ≤ c') (hn' : n' ≤ 1048576) :
    Calls Try.prog 29 #[.int .i64 p, .slice A n c, .slice A' n' c', .bool lad] w fun e w' => e = .returned (.tuple #[.int .i64 (rWorst p l ys lad).1, .int .i64 (rWorst p l ys lad).2.1, .int .i64 (rWorst p l ys lad).2.2]) ∧ Below w.heap.size w w' := by
  by_cases ha : askW p l true (risesB 0 (top p) ys) = 0
  · have Hr : Hid (rWorst p l ys lad = if mostOf (timesR p l ys lad) < 0 then (0, 0, 3) else (((placeOf (timesR p l ys lad) : Nat) : Int), mostOf (timesR p l ys lad), 0)) := Lib.hid (by rw [rWorst, if_pos ha])
    obtain ⟨hw, _, hi⟩ := askW_zero.1 ha
    have hp := (okW_of hw).2
    rw [hi] at ha
    go_enter Try.func29, Try.ntmps29
    go_wp2_with (go_at_call 58; refine (areExits_any h' hn').mono ?_; rintro e w' ⟨rfl, rfl⟩)
    refine (walked_any h hB hn).mono ?_
    rintro e w1 ⟨rfl, b1⟩
    rw [ha]
    have hs1 := b1.size
    go_wp2_with fail
    refine (timesTo_any (Reads.below h b1 hB) (by omega) hn (Reads.below h' b1 hB') (by omega) hn' hw).mono ?_
    rintro e w2 ⟨A1, c1, rfl, o1, b2⟩
    have b12 := b1.trans (b2.mono hs1)
    have hlen : (timesR p l ys lad).length = p.toNat := by have := o1.len; simpa using this
    generalize timesR p l ys lad = ts at *
    have Hmost := Lib.hid (findI_most (zs := ts) (by omega))
    go_wp2_with fail
    refine (max_any _ _ _ _ ts _ (own_reads o1) (by omega) (by omega)).mono ?_
    rintro e w3 ⟨rfl, rfl⟩
    by_cases hm : mostOf ts < 0
    · go_wp2_with fail
      go_ret3
      exact ⟨ret3 (int_eq (by rw [Hr.out, if_pos (by omega)])) (int_eq (by rw [Hr.out, if_pos (by omega)])) (int_eq (by rw [Hr.out, if_pos (by omega)])), b12⟩
    · go_wp2_with fail
      refine (index_any _ _ _ _ ts _ _ (own_reads o1) (by omega)).mono ?_
      rintro e w4 ⟨rfl, rfl⟩
      go_wp2_with fail
      go_ret3
      exact ⟨ret3 (int_eq (by rw [Hr.out, if_neg (by omega), Hmost.out])) (int_eq (by rw [Hr.out, if_neg (by omega)])) (int_eq (by rw [Hr.out, if_neg (by omega)])), b12⟩
  · have Hr : Hid (rWorst p l ys lad = (0, 0, askW p l true (risesB 0 (top p) ys))) := Lib.hid (by rw [rWorst, if_neg ha])
    go_enter Try.func29, Try.ntmps29
    go_wp2_with (go_at_call 58; refine (areExits_any h' hn').mono ?_; rintro e w' ⟨rfl, rfl⟩)
    refine (walked_any h hB hn).mono ?_
    rintro e w1 ⟨rfl, b1⟩
    generalize askW p l true (risesB 0 (top p) ys) = cd at ha Hr ⊢
    go_wp2_with fail
    go_ret3
    exact ⟨ret3 (int_eq (by rw [Hr.out])) (int_eq (by rw [Hr.out])) (int_eq (by rw [Hr.out])), b1⟩

theorem farTo_bd (ts : List Int) (k : Nat) : -1 ≤ farTo ts k ∧ farTo ts k < k ∨ (k = 0 ∧ farTo ts k = -1) := by
  rcases farTo_spec ts k with ⟨e, _⟩ | ⟨h0, e, _⟩
  · by_cases hk : k = 0
    · exact .inr ⟨hk, e⟩
    · exact .inl (by omega)
  · have := bestTo_le ts k
    exact .inl (by omega)
theorem specWorstPlace_any {A A' : Option Addr} {n c B n' c' B' : Nat} {p : Int} {l : List WalkR} {ys : List Int} {lad : Bool} {w : World} (h : Reads w B 4 A n (l.flatMap WalkR.cells)) (hB : B ≤ w.heap.size) (hc : n ≤ c) (hn : n ≤ 1048576)
    (h' : Ints w B' A' n' ys) (hB' : B' ≤ w.heap.size) (hc' : n' ≤ c') (hn' : n' ≤ 1048576) :
    Calls Try.prog 28 #[.int .i64 p, .slice A n c, .slice A' n' c', .bool lad] w fun e w' => e = .returned (.tuple #[.int .i64 (rWorst p l ys lad).1, .int .i64 (rWorst p l ys lad).2.1, .int .i64 (rWorst p l ys lad).2.2]) ∧ Below w.heap.size w w' := by
  by_cases ha : askW p l true (risesB 0 (top p) ys) = 0
  · have Hr : Hid (rWorst p l ys lad = if mostOf (timesR p l ys lad) < 0 then (0, 0, 3) else (((placeOf (timesR p l ys lad) : Nat) : Int), mostOf (timesR p l ys lad), 0)) := Lib.hid (by rw [rWorst, if_pos ha])
    obtain ⟨hw, _, hi⟩ := askW_zero.1 ha
    have hp := (okW_of hw).2
    have Hg := Lib.hid (goals_rise hp hi)
    obtain ⟨P, rfl⟩ := Int.eq_ofNat_of_zero_le (show 0 ≤ p by omega)
    have hP : (P : Int).toNat = P := by omega
    have hP2 : P ≤ 16 := by omega
    have hP1 : 1 ≤ P := by omega
    rw [hP] at Hg
    go_enter Try.func28, Try.ntmps28
    go_wp2_with fail
    refine (l23Exits_any h hB hn h' hB' hn').mono ?_
    rintro e w0 ⟨rfl, b0⟩
    rw [ha]
    have hs0 := b0.size
    go_wp2_with fail
    refine (l23Times_any (Reads.below h b0 hB) (by omega) hn (Reads.below h' b0 hB') (by omega) hn' hw (by rw [hP]; exact Hg.out)).mono ?_
    rintro e w1 ⟨A1, c1, rfl, o1, b1⟩
    rw [hP] at o1 ⊢
    have b01 := b0.trans (b1.mono hs0)
    have hs1 := b01.size
    have hlen : (timesR P l ys lad).length = P := by have := o1.len; simpa using this
    generalize timesR P l ys lad = ts at *
    have Hall := Lib.hid (farTo_all (ts := ts) (by omega))
    rw [hlen] at Hall
    go_wp2_with fail
    go_loopg [13, 14] P (fun gk b i wr => ∃ k : Nat, k ≤ P ∧ gk + k = P ∧ i = .int .i64 k ∧ b = .int .i64 (farTo ts k) ∧ Below w1.heap.size w1 wr)
    case atStart => exact ⟨0, by omega, by omega, rfl, rfl, Below.refl _ _⟩
    case round =>
      obtain ⟨k, hk, hgk, rfl, rfl, hb⟩ := hrel
      have Hgk := Lib.hid hgk
      have hbs := hb.size
      clear hgk
      have hfb := farTo_bd ts k
      by_cases hlt : k < P
      · have o1' := o1.below hb
        obtain ⟨ad, rfl, hbl, hc0⟩ := Ints.at_ (own_reads o1') hlt
        have Hs0 := Lib.hid (farTo_succ ts k)
        have hq0 : (0 : Int) ≤ (k : Int) := by omega
        have hq1 : (k : Int) < (P : Int) := by omega
        have hq2 : IntKind.i64.wrap ((k : Int) + 1) = (k : Int) + 1 := IntWalk.i64_in _ (by omega)
        by_cases c0 : 0 ≤ nth ts k
        · have d0 : decide (0 ≤ nth ts k) = true := by simp; omega
          by_cases c1 : farTo ts k < 0
          · have d1 : decide (farTo ts k < 0) = true := by simp; omega
            have Hs : Hid (farTo ts (k + 1) = k) := Lib.hid (by rw [Hs0.out, d0, d1]; simp)
            go_wp2_with fail
            go_quiet (fail)
            go_wp2_with fail
            have hgk := Hgk.out
            go_roundg (gk - 1)
            case rel => exact ⟨k + 1, by omega, by omega, by go_num, by rw [Hs.out], below_drewN hb _⟩
            case measure => omega
          · have d1 : decide (farTo ts k < 0) = false := by simp; omega
            obtain ⟨ad', e', _, hc1⟩ := Ints.at_ (k := (farTo ts k).toNat) (own_reads o1') (by omega)
            injection e' with e'
            subst e'
            have hq3 : 0 ≤ farTo ts k := by omega
            have hq4 : farTo ts k < (P : Int) := by omega
            by_cases c2 : nth ts (farTo ts k).toNat < nth ts k
            · have d2 : decide (nth ts (farTo ts k).toNat < nth ts k) = true := by simp; omega
              have Hs : Hid (farTo ts (k + 1) = k) := Lib.hid (by rw [Hs0.out, d0, d1, d2]; simp)
              go_wp2_with fail
              go_quiet (fail)
              go_wp2_with fail
              have hgk := Hgk.out
              go_roundg (gk - 1)
              case rel => exact ⟨k + 1, by omega, by omega, by go_num, by rw [Hs.out], below_drewN hb _⟩
              case measure => omega
            · have d2 : decide (nth ts (farTo ts k).toNat < nth ts k) = false := by simp; omega
              have Hs : Hid (farTo ts (k + 1) = farTo ts k) := Lib.hid (by rw [Hs0.out, d0, d1, d2]; simp)
              go_wp2_with fail
              go_quiet (fail)
              go_wp2_with fail
              have hgk := Hgk.out
              go_roundg (gk - 1)
              case rel => exact ⟨k + 1, by omega, by omega, by go_num, by rw [Hs.out], below_drewN hb _⟩
              case measure => omega
        · have d0 : decide (0 ≤ nth ts k) = false := by simp; omega
          have Hs : Hid (farTo ts (k + 1) = farTo ts k) := Lib.hid (by rw [Hs0.out, d0]; simp)
          go_wp2_with fail
          go_quiet (fail)
          go_wp2_with fail
          have hgk := Hgk.out
          go_roundg (gk - 1)
          case rel => exact ⟨k + 1, by omega, by omega, by go_num, by rw [Hs.out], below_drewN hb _⟩
          case measure => omega
      · have hke : P = k := by omega
        subst hke
        have hd : ¬ (P : Int) < (P : Int) := by omega
        have b2 := b01.trans (hb.mono hs1)
        rcases Hall.out with ⟨e1, e2⟩ | ⟨e1, e2⟩
        · rw [e1]
          go_wp2_with fail
          go_ret3
          exact ⟨ret3 (int_eq (by rw [Hr.out, if_pos (by omega)])) (int_eq (by rw [Hr.out, if_pos (by omega)])) (int_eq (by rw [Hr.out, if_pos (by omega)])), b2⟩
        · rw [e1]
          have hpl := placeOf_lt (zs := ts) (by omega)
          have o1' := o1.below hb
          obtain ⟨ad, rfl, hbl, hc0⟩ := Ints.at_ (k := placeOf ts) (own_reads o1') (by omega)
          have hq0 : (0 : Int) ≤ (placeOf ts : Nat) := by omega
          have hq1 : ((placeOf ts : Nat) : Int) < (P : Int) := by omega
          have hq2 : ¬ ((placeOf ts : Nat) : Int) < 0 := by omega
          have e2' : ¬ mostOf ts < 0 := by omega
          go_wp2_with fail
          go_quiet (fail)
          go_wp2_with fail
          go_ret3
          exact ⟨ret3 (int_eq (by rw [Hr.out, if_neg (by omega)])) (int_eq (by rw [Hr.out, if_neg (by omega)]; rfl)) (int_eq (by rw [Hr.out, if_neg (by omega)])), below_drewN b2 _⟩
  · have Hr : Hid (rWorst p l ys lad = (0, 0, askW p l true (risesB 0 (top p) ys))) := Lib.hid (by rw [rWorst, if_neg ha])
    go_enter Try.func28, Try.ntmps28
    go_wp2_with fail
    refine (l23Exits_any h hB hn h' hB' hn').mono ?_
    rintro e w1 ⟨rfl, b1⟩
    generalize askW p l true (risesB 0 (top p) ys) = cd at ha Hr ⊢
    go_wp2_with fail
    go_ret3
    exact ⟨ret3 (int_eq (by rw [Hr.out])) (int_eq (by rw [Hr.out])) (int_eq (by rw [Hr.out])), b1⟩
end Go.Proofs.Ytnoppdklgcpomaa
