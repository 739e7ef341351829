/- Evacuation: NearestExit, CarsEmpty: contracts of both sides. -/
import Derived.Test.YtcppogfffgdjhaaWi
namespace Go.Proofs.Ytcppogfffgdjhaa
open Go.RowKit
set_option maxRecDepth 100000
set_option linter.unusedVariables false
set_option linter.unusedSimpArgs false

theorem timeFrom_bd {p : Int} {l : List WalkR} {lad : Bool} (hw : walksB p l = true) (v : Nat) (hv : v < p.toNat) (e : Int) : -1 ≤ timeFrom p l lad v e ∧ timeFrom p l lad v e ≤ 57600 := times_top lad hw [e] v hv

theorem nearestExit_any {A A' : Option Addr} {n c B n' c' B' : Nat} {p src : Int} {l : List WalkR} {ys : List Int} {lad : Bool} {w : World} (h : Reads w B 4 A n (l.flatMap WalkR.cells)) (hB : B ≤ w.heap.size) (hn : n ≤ 1048576)
    (h' : Ints w B' A' n' ys) (hB' : B' ≤ w.heap.size) (hn' : n' ≤ 1048576) (hw : walksB p l = true) (hv : 0 ≤ src ∧ src < p) :
    Calls Try.prog 25 #[.int .i64 p, .slice A n c, .int .i64 src, .slice A' n' c', .bool lad] w fun e w' => e = .returned (.tuple #[.int .i64 (nearTo (timeFrom p l lad src.toNat) ys n').1, .int .i64 (nearTo (timeFrom p l lad src.toNat) ys n').2]) ∧ Below w.heap.size w w' := by
  have hp := (okW_of hw).2
  obtain ⟨P, rfl⟩ := Int.eq_ofNat_of_zero_le (show 0 ≤ p by omega)
  obtain ⟨V, rfl⟩ := Int.eq_ofNat_of_zero_le hv.1
  have hP : (P : Int).toNat = P := by omega
  have hV : (V : Int).toNat = V := by omega
  rw [hV]
  go_enter Try.func25, Try.ntmps25
  go_wp2_with fail
  go_loopg [12, 13, 19] n' (fun gk b s i wr => ∃ k : Nat, k ≤ n' ∧ gk + k = n' ∧ i = .int .i64 k ∧ b = .int .i64 (nearTo (timeFrom P l lad V) ys k).1 ∧ s = .int .i64 (nearTo (timeFrom P l lad V) ys k).2 ∧ Below w.heap.size w wr)
  case atStart => exact ⟨0, by omega, by omega, rfl, rfl, rfl, Below.refl _ _⟩
  case round =>
    obtain ⟨k, hk, hgk, rfl, rfl, rfl, hb⟩ := hrel
    have Hgk := Lib.hid hgk
    have hbs := hb.size
    clear hgk
    have Hs0 := Lib.hid (nearTo_succ (timeFrom P l lad V) ys k)
    by_cases hlt : k < n'
    · obtain ⟨ad, rfl, hbl, hc⟩ := Ints.at_ (Reads.below h' hb hB') hlt
      have hk0 : (0 : Int) ≤ (k : Int) := by omega
      have hk1 : (k : Int) < (n' : Int) := by omega
      go_wp2_with fail
      refine (timesTo_any (goals := [nth ys k]) (B' := wr.heap.size + 1) (Reads.alloc (Reads.below h hb hB) (by omega) _) (by simp; omega) hn (cell_one_at _ _ _) (by simp) (by omega) hw).mono ?_
      rintro e w2 ⟨A2, c2, rfl, o2, b2⟩
      have hx : w.heap.size ≤ (wr.alloc (.cells #[.int .i64 (nth ys k)] 2)).heap.size := by simp; omega
      have hb2 : Below w.heap.size w w2 := (hb.alloc hbs _).trans (b2.mono hx)
      have hb3 : Below w.heap.size wr w2 := ((Below.refl _ _).alloc hbs _).trans (b2.mono hx)
      rw [hP] at o2 ⊢
      obtain ⟨ad2, rfl, hbl2, hc2⟩ := Ints.at_ (k := V) (own_reads o2) (by omega)
      have htb : -1 ≤ timeFrom P l lad V (nth ys k) ∧ timeFrom P l lad V (nth ys k) ≤ 57600 := timeFrom_bd hw V (by omega) _
      change w2.cell? (ad2.add V) = some (.int .i64 (timeFrom P l lad V (nth ys k))) at hc2
      have hc' : w2.cell? (ad.add k) = some (.int .i64 (nth ys k)) := (hb3.cell (by rw [block_of_add]; omega)).trans hc
      clear o2 b2 hc hb3 hx
      generalize timeFrom P l lad V (nth ys k) = t at *
      generalize hnr : nearTo (timeFrom P l lad V) ys k = nr at *
      have hv0 : (0 : Int) ≤ (V : Int) := by omega
      have hv1 : (V : Int) < (P : Int) := by omega
      by_cases c0 : 0 ≤ t
      · have d0 : decide (0 ≤ t) = true := by simp; omega
        by_cases c1 : nr.1 < 0
        · have d1 : decide (nr.1 < 0) = true := by simp; omega
          have Hs : Hid (nearTo (timeFrom P l lad V) ys (k + 1) = (nth ys k, t)) := Lib.hid (by rw [Hs0.out]; simp [d0, d1, c0, c1])
          go_wp2_with fail
          have hgk := Hgk.out
          go_roundg (gk - 1)
          case rel => exact ⟨k + 1, by omega, by omega, by go_num, by rw [Hs.out], by rw [Hs.out], hb2⟩
          case measure => omega
        · have d1 : decide (nr.1 < 0) = false := by simp; omega
          by_cases c2 : t < nr.2
          · have d2 : decide (t < nr.2) = true := by simp; omega
            have Hs : Hid (nearTo (timeFrom P l lad V) ys (k + 1) = (nth ys k, t)) := Lib.hid (by rw [Hs0.out]; simp [d0, d1, d2, c0, c1, c2])
            go_wp2_with fail
            have hgk := Hgk.out
            go_roundg (gk - 1)
            case rel => exact ⟨k + 1, by omega, by omega, by go_num, by rw [Hs.out], by rw [Hs.out], hb2⟩
            case measure => omega
          · have d2 : decide (t < nr.2) = false := by simp; omega
            have Hs : Hid (nearTo (timeFrom P l lad V) ys (k + 1) = nr) := Lib.hid (by rw [Hs0.out]; simp [d0, d1, d2, c0, c1, c2])
            go_wp2_with fail
            have hgk := Hgk.out
            go_roundg (gk - 1)
            case rel => exact ⟨k + 1, by omega, by omega, by go_num, by rw [Hs.out], by rw [Hs.out], hb2⟩
            case measure => omega
      · have d0 : decide (0 ≤ t) = false := by simp; omega
        have Hs : Hid (nearTo (timeFrom P l lad V) ys (k + 1) = nr) := Lib.hid (by rw [Hs0.out]; simp [d0, c0])
        go_wp2_with fail
        have hgk := Hgk.out
        go_roundg (gk - 1)
        case rel => exact ⟨k + 1, by omega, by omega, by go_num, by rw [Hs.out], by rw [Hs.out], hb2⟩
        case measure => omega
    · have hke : n' = k := by omega
      subst hke
      have hd : ¬ ((n' : Int) < (n' : Int)) := by omega
      go_wp2_with fail
      go_ret2
      exact ⟨rfl, hb⟩

theorem askW_two (p : Int) (l : List WalkR) (f r : Bool) : askW p l f r = if askW p l f true = 0 then askW p l true r else askW p l f true := by
  unfold askW
  cases walksB p l <;> cases f <;> cases r <;> simp
/-- The nearest exit and the time to it. -/
def rNear (p : Int) (l : List WalkR) (src : Int) (ys : List Int) (lad : Bool) : Int × Int × Int :=
  if askW p l (inB src 0 (top p)) (risesB 0 (top p) ys) = 0 then (if (nearTo (timeFrom p l lad src.toNat) ys ys.length).1 < 0 then (0, 0, 3) else ((nearTo (timeFrom p l lad src.toNat) ys ys.length).1, (nearTo (timeFrom p l lad src.toNat) ys ys.length).2, 0))
  else (0, 0, askW p l (inB src 0 (top p)) (risesB 0 (top p) ys))
theorem spot_of {p src : Int} (hp : 1 ≤ p ∧ p ≤ 16) (h : inB src 0 (top p) = true) : 0 ≤ src ∧ src < p := by
  have h1 := inB_true.1 h
  have ht : top p = p - 1 := by unfold top wrap64; omega
  omega

theorem implNearestExit_any {A A' : Option Addr} {n c B n' c' B' : Nat} {p src : Int} {l : List WalkR} {ys : List Int} {lad : Bool} {w : World} (h : Reads w B 4 A n (l.flatMap WalkR.cells)) (hB : B ≤ w.heap.size) (hc : n ≤ c) (hn : n ≤ 1048576)
    (h' : Ints w B' A' n' ys) (hB' : B' ≤ w.heap.size) (hc' : n' ≤ c') (hn' : n' ≤ 1048576) :
    Calls Try.prog 8 #[.int .i64 p, .slice A n c, .int .i64 src, .slice A' n' c', .bool lad] w fun e w' => e = .returned (.tuple #[.int .i64 (rNear p l src ys lad).1, .int .i64 (rNear p l src ys lad).2.1, .int .i64 (rNear p l src ys lad).2.2]) ∧ Below w.heap.size w w' := by
  have HL' := Lib.hid h'.len
  by_cases ha : askW p l (inB src 0 (top p)) (risesB 0 (top p) ys) = 0
  · have Hr : Hid (rNear p l src ys lad = if (nearTo (timeFrom p l lad src.toNat) ys ys.length).1 < 0 then (0, 0, 3) else ((nearTo (timeFrom p l lad src.toNat) ys ys.length).1, (nearTo (timeFrom p l lad src.toNat) ys ys.length).2, 0)) := Lib.hid (by rw [rNear, if_pos ha])
    obtain ⟨hw, hf, hi⟩ := askW_zero.1 ha
    have hp := (okW_of hw).2
    have hv := spot_of hp hf
    rw [hf, hi] at ha
    rw [HL'.out] at Hr
    go_enter Try.func8, Try.ntmps8
    go_wp2_with (first | (go_at_call 24; refine (areExits_any h' hn').mono ?_; rintro e w' ⟨rfl, rfl⟩) | (go_at_call 23; refine (isSpotOf_any _ _ _).mono ?_; rintro e w' ⟨rfl, rfl⟩))
    refine (walked_any h hB hn).mono ?_
    rintro e w1 ⟨rfl, b1⟩
    rw [ha]
    have hs1 := b1.size
    go_wp2_with fail
    refine (nearestExit_any (Reads.below h b1 hB) (by omega) hn (Reads.below h' b1 hB') (by omega) hn' hw hv).mono ?_
    rintro e w2 ⟨rfl, b2⟩
    have b12 := b1.trans (b2.mono hs1)
    generalize nearTo (timeFrom p l lad src.toNat) ys n' = nr at *
    by_cases hm : nr.1 < 0
    · go_wp2_with fail
      go_ret3
      exact ⟨ret3 (int_eq (by rw [Hr.out, if_pos (by omega)])) (int_eq (by rw [Hr.out, if_pos (by omega)])) (int_eq (by rw [Hr.out, if_pos (by omega)])), b12⟩
    · go_wp2_with fail
      go_ret3
      exact ⟨ret3 (int_eq (by rw [Hr.out, if_neg (by omega)])) (int_eq (by rw [Hr.out, if_neg (by omega)])) (int_eq (by rw [Hr.out, if_neg (by omega)])), b12⟩
  · have Hr : Hid (rNear p l src ys lad = (0, 0, askW p l (inB src 0 (top p)) (risesB 0 (top p) ys))) := Lib.hid (by rw [rNear, if_neg ha])
    go_enter Try.func8, Try.ntmps8
    go_wp2_with (first | (go_at_call 24; refine (areExits_any h' hn').mono ?_; rintro e w' ⟨rfl, rfl⟩) | (go_at_call 23; refine (isSpotOf_any _ _ _).mono ?_; rintro e w' ⟨rfl, rfl⟩))
    refine (walked_any h hB hn).mono ?_
    rintro e w1 ⟨rfl, b1⟩
    generalize askW p l (inB src 0 (top p)) (risesB 0 (top p) ys) = cd at ha Hr ⊢
    go_wp2_with fail
    go_ret3
    exact ⟨ret3 (int_eq (by rw [Hr.out])) (int_eq (by rw [Hr.out])) (int_eq (by rw [Hr.out])), b1⟩

theorem specNearestExit_any {A A' : Option Addr} {n c B n' c' B' : Nat} {p src : Int} {l : List WalkR} {ys : List Int} {lad : Bool} {w : World} (h : Reads w B 4 A n (l.flatMap WalkR.cells)) (hB : B ≤ w.heap.size) (hc : n ≤ c) (hn : n ≤ 1048576)
    (h' : Ints w B' A' n' ys) (hB' : B' ≤ w.heap.size) (hc' : n' ≤ c') (hn' : n' ≤ 1048576) :
    Calls Try.prog 15 #[.int .i64 p, .slice A n c, .int .i64 src, .slice A' n' c', .bool lad] w fun e w' => e = .returned (.tuple #[.int .i64 (rNear p l src ys lad).1, .int .i64 (rNear p l src ys lad).2.1, .int .i64 (rNear p l src ys lad).2.2]) ∧ Below w.heap.size w w' := by
  have HL' := Lib.hid h'.len
  have h2 := askW_two p l (inB src 0 (top p)) (risesB 0 (top p) ys)
  by_cases ha : askW p l (inB src 0 (top p)) true = 0
  · rw [if_pos ha] at h2
    obtain ⟨hw, hf, _⟩ := askW_zero.1 ha
    have hp := (okW_of hw).2
    have hv := spot_of hp hf
    by_cases hx : askW p l true (risesB 0 (top p) ys) = 0
    · have Hr : Hid (rNear p l src ys lad = if (nearTo (timeFrom p l lad src.toNat) ys ys.length).1 < 0 then (0, 0, 3) else ((nearTo (timeFrom p l lad src.toNat) ys ys.length).1, (nearTo (timeFrom p l lad src.toNat) ys ys.length).2, 0)) := Lib.hid (by rw [rNear, h2, if_pos hx])
      obtain ⟨_, _, hi⟩ := askW_zero.1 hx
      have Hg := Lib.hid (goals_rise hp hi)
      rw [HL'.out] at Hr
      go_enter Try.func15, Try.ntmps15
      go_wp2_with fail
      refine (l23Ask_any h hB hn).mono ?_
      rintro e w0 ⟨rfl, b0⟩
      rw [ha]
      have hs0 := b0.size
      go_wp2_with fail
      refine (l23Exits_any (Reads.below h b0 hB) (by omega) hn (Reads.below h' b0 hB') (by omega) hn').mono ?_
      rintro e w1 ⟨rfl, b1⟩
      rw [hx]
      have b01 := b0.trans (b1.mono hs0)
      clear b0 b1 hs0 h2 ha hf hx hi
      obtain ⟨P, rfl⟩ := Int.eq_ofNat_of_zero_le (show 0 ≤ p by omega)
      obtain ⟨V, rfl⟩ := Int.eq_ofNat_of_zero_le hv.1
      have hP : (P : Int).toNat = P := by omega
      have hV : (V : Int).toNat = V := by omega
      rw [hV] at Hr
      go_wp2_with fail
      go_loopg [14, 15, 16] n' (fun gk b s i wr => ∃ k : Nat, k ≤ n' ∧ gk + k = n' ∧ i = .int .i64 k ∧ b = .int .i64 (nearTo (timeFrom P l lad V) ys k).1 ∧ s = .int .i64 (nearTo (timeFrom P l lad V) ys k).2 ∧ Below w.heap.size w wr)
      case atStart => exact ⟨0, by omega, by omega, rfl, rfl, rfl, b01⟩
      case round =>
        obtain ⟨k, hk, hgk, rfl, rfl, rfl, hb⟩ := hrel
        have Hgk := Lib.hid hgk
        have hbs := hb.size
        clear hgk
        have Hs0 := Lib.hid (nearTo_succ (timeFrom P l lad V) ys k)
        by_cases hlt : k < n'
        · obtain ⟨ad, rfl, hbl, hc⟩ := Ints.at_ (Reads.below h' hb hB') hlt
          have hk0 : (0 : Int) ≤ (k : Int) := by omega
          have hk1 : (k : Int) < (n' : Int) := by omega
          go_wp2_with fail
          refine (l23Times_any (goals := [nth ys k]) (B' := wr.heap.size + 1) (Reads.alloc (Reads.below h hb hB) (by omega) _) (by simp; omega) hn (cell_one_at _ _ _) (by simp) (by omega) hw (fun j hj => by have e : j = 0 := (by simpa using hj); subst e; exact Hg.out k (by rw [HL'.out]; exact hlt))).mono ?_
          rintro e w2 ⟨A2, c2, rfl, o2, b2⟩
          have hx : w.heap.size ≤ (wr.alloc (.cells #[.int .i64 (nth ys k)] 2)).heap.size := by simp; omega
          have hb2 : Below w.heap.size w w2 := (hb.alloc hbs _).trans (b2.mono hx)
          have hb3 : Below w.heap.size wr w2 := ((Below.refl _ _).alloc hbs _).trans (b2.mono hx)
          rw [hP] at o2 ⊢
          obtain ⟨ad2, rfl, hbl2, hc2⟩ := Ints.at_ (k := V) (own_reads o2) (by omega)
          have htb : -1 ≤ timeFrom P l lad V (nth ys k) ∧ timeFrom P l lad V (nth ys k) ≤ 57600 := timeFrom_bd hw V (by omega) _
          change w2.cell? (ad2.add V) = some (.int .i64 (timeFrom P l lad V (nth ys k))) at hc2
          have hc' : w2.cell? (ad.add k) = some (.int .i64 (nth ys k)) := (hb3.cell (by rw [block_of_add]; omega)).trans hc
          clear o2 b2 hc hb3 hx
          generalize timeFrom P l lad V (nth ys k) = t at *
          generalize hnr : nearTo (timeFrom P l lad V) ys k = nr at *
          have hv0 : (0 : Int) ≤ (V : Int) := by omega
          have hv1 : (V : Int) < (P : Int) := by omega
          by_cases c0 : 0 ≤ t
          · have d0 : decide (0 ≤ t) = true := by simp; omega
            by_cases c1 : nr.1 < 0
            · have d1 : decide (nr.1 < 0) = true := by simp; omega
              have Hs : Hid (nearTo (timeFrom P l lad V) ys (k + 1) = (nth ys k, t)) := Lib.hid (by rw [Hs0.out]; simp [d0, d1, c0, c1])
              go_wp2_with fail
              have hgk := Hgk.out
              go_roundg (gk - 1)
              case rel => exact ⟨k + 1, by omega, by omega, by go_num, by rw [Hs.out], by rw [Hs.out], hb2⟩
              case measure => omega
            · have d1 : decide (nr.1 < 0) = false := by simp; omega
              by_cases c2 : t < nr.2
              · have d2 : decide (t < nr.2) = true := by simp; omega
                have Hs : Hid (nearTo (timeFrom P l lad V) ys (k + 1) = (nth ys k, t)) := Lib.hid (by rw [Hs0.out]; simp [d0, d1, d2, c0, c1, c2])
                go_wp2_with fail
                have hgk := Hgk.out
                go_roundg (gk - 1)
                case rel => exact ⟨k + 1, by omega, by omega, by go_num, by rw [Hs.out], by rw [Hs.out], hb2⟩
                case measure => omega
              · have d2 : decide (t < nr.2) = false := by simp; omega
                have Hs : Hid (nearTo (timeFrom P l lad V) ys (k + 1) = nr) := Lib.hid (by rw [Hs0.out]; simp [d0, d1, d2, c0, c1, c2])
                go_wp2_with fail
                have hgk := Hgk.out
                go_roundg (gk - 1)
                case rel => exact ⟨k + 1, by omega, by omega, by go_num, by rw [Hs.out], by rw [Hs.out], hb2⟩
                case measure => omega
          · have d0 : decide (0 ≤ t) = false := by simp; omega
            have Hs : Hid (nearTo (timeFrom P l lad V) ys (k + 1) = nr) := Lib.hid (by rw [Hs0.out]; simp [d0, c0])
            go_wp2_with fail
            have hgk := Hgk.out
            go_roundg (gk - 1)
            case rel => exact ⟨k + 1, by omega, by omega, by go_num, by rw [Hs.out], by rw [Hs.out], hb2⟩
            case measure => omega
        · have hke : n' = k := by omega
          subst hke
          have hd : ¬ ((n' : Int) < (n' : Int)) := by omega
          generalize nearTo (timeFrom P l lad V) ys n' = nr at *
          by_cases hm : nr.1 < 0
          · go_wp2_with fail
            go_ret3
            exact ⟨ret3 (int_eq (by rw [Hr.out, if_pos (by omega)])) (int_eq (by rw [Hr.out, if_pos (by omega)])) (int_eq (by rw [Hr.out, if_pos (by omega)])), hb⟩
          · go_wp2_with fail
            go_ret3
            exact ⟨ret3 (int_eq (by rw [Hr.out, if_neg (by omega)])) (int_eq (by rw [Hr.out, if_neg (by omega)])) (int_eq (by rw [Hr.out, if_neg (by omega)])), hb⟩
    · have Hr : Hid (rNear p l src ys lad = (0, 0, askW p l true (risesB 0 (top p) ys))) := Lib.hid (by rw [rNear, h2, if_neg hx])
      go_enter Try.func15, Try.ntmps15
      go_wp2_with fail
      refine (l23Ask_any h hB hn).mono ?_
      rintro e w0 ⟨rfl, b0⟩
      rw [ha]
      have hs0 := b0.size
      go_wp2_with fail
      refine (l23Exits_any (Reads.below h b0 hB) (by omega) hn (Reads.below h' b0 hB') (by omega) hn').mono ?_
      rintro e w1 ⟨rfl, b1⟩
      have b01 := b0.trans (b1.mono hs0)
      clear h2
      generalize askW p l true (risesB 0 (top p) ys) = cd at hx Hr ⊢
      go_wp2_with fail
      go_ret3
      exact ⟨ret3 (int_eq (by rw [Hr.out])) (int_eq (by rw [Hr.out])) (int_eq (by rw [Hr.out])), b01⟩
  · rw [if_neg ha] at h2
    have Hr : Hid (rNear p l src ys lad = (0, 0, askW p l (inB src 0 (top p)) true)) := Lib.hid (by rw [rNear, h2, if_neg ha])
    go_enter Try.func15, Try.ntmps15
    go_wp2_with fail
    refine (l23Ask_any h hB hn).mono ?_
    rintro e w1 ⟨rfl, b1⟩
    clear h2
    generalize askW p l (inB src 0 (top p)) true = cd at ha Hr ⊢
    go_wp2_with fail
    go_ret3
    exact ⟨ret3 (int_eq (by rw [Hr.out])) (int_eq (by rw [Hr.out])) (int_eq (by rw [Hr.out])), b1⟩
end Go.Proofs.Ytcppogfffgdjhaa
