/- The walk of the law 'FnWaits': whatever the input, it returns true, and nothing that was there has turned. -/
import Derived.Test.YtmiilnddfmeldaaVh
import Derived.Test.YtmiilnddfmeldaaVi
import Derived.Test.YtmiilnddfmeldaaVj
import Derived.Test.YtmiilnddfmeldaaDl
import Derived.Test.YtmiilnddfmeldaaFa
import Derived.Deep.DeepCutAuto
import Derived.BigQuiet
namespace Go.Proofs.Ytmiilnddfmeldaa
open Go.RowKit
set_option maxRecDepth 100000
set_option linter.unusedVariables false
set_option linter.unusedSimpArgs false

set_option maxHeartbeats 16000000 in
theorem FnWaits_walk (A0 : Option Addr) (n0 c0 : Nat) (z0 : List Int) (A1 : Option Addr) (n1 c1 : Nat) (z1 : List Int) (w : World) (h0 : Bytz w w.heap.size A0 n0 z0) (hc0 : n0 ≤ c0) (hm0 : c0 ≤ maxLen) (hz0 : True) (h1 : Bytz w w.heap.size A1 n1 z1) (hc1 : n1 ≤ c1) (hm1 : c1 ≤ maxLen) (hz1 : True) :
    Calls Try.prog 3 #[.slice A0 n0 c0, .slice A1 n1 c1] w fun e w' => e = .returned (.bool true) ∧ Below w.heap.size w w' := by
  by_cases hl0 : 1048576 < n0
  · have Hd0 : Hid (decide (1048576 < n0) = true) := Lib.hid (decide_eq_true hl0)
    clear hl0
    go_enter Try.func3, Try.ntmps3
    go_wp2_with (go_at_call 4; refine b10Long_any.mono ?_; rintro e w' ⟨rfl, rfl⟩; rw [Hd0.out])
    go_ret
    exact ⟨rfl, Below.refl _ _⟩
  have Hd0 : Hid (decide (1048576 < n0) = false) := Lib.hid (decide_eq_false hl0)
  by_cases hl1 : 1048576 < n1
  · have Hd1 : Hid (decide (1048576 < n1) = true) := Lib.hid (decide_eq_true hl1)
    clear hl0 hl1
    go_enter Try.func3, Try.ntmps3
    go_wp2_with (go_at_call 4; refine b10Long_any.mono ?_; rintro e w' ⟨rfl, rfl⟩; first | rw [Hd0.out] | rw [Hd1.out])
    go_ret
    exact ⟨rfl, Below.refl _ _⟩
  have Hd1 : Hid (decide (1048576 < n1) = false) := Lib.hid (decide_eq_false hl1)
  have hn0 : n0 ≤ 1048576 := by omega
  have hn1 : n1 ≤ 1048576 := by omega
  have H0 := Lib.hid h0
  have H1 := Lib.hid h1
  clear h0 h1 hl0 hl1 hm0 hm1 hz0 hz1 hc0 hc1
  go_enter Try.func3, Try.ntmps3
  go_wp2_with (go_at_call 4; refine b10Long_any.mono ?_; rintro e w' ⟨rfl, rfl⟩; first | rw [Hd0.out] | rw [Hd1.out])
  refine (drawWaitOfPerson_any H0.out hn0).mono ?_
  rintro e w1 ⟨A2, c2, xs, ev, se, pe, rfl, hx, o1, b1⟩
  obtain ⟨n, hln⟩ : ∃ n, xs.length = n := ⟨_, rfl⟩
  have Hln := Lib.hid hln
  rw [hln] at hx o1 ⊢
  clear hln
  have hcap := o1.cap
  have R1 : Hid (Ints w1 w1.heap.size A2 n xs) := Lib.hid o1.reads
  have B1 := Lib.hid b1
  have hs1 := b1.size
  clear o1 b1
  go_wp2_with fail
  refine (implWaitOfPerson_any R1.out (Nat.le_refl _) hcap (by omega)).mono ?_
  rintro e w2 ⟨rfl, b2⟩
  have K2 := Lib.hid b2
  clear b2
  obtain ⟨wt, hwt⟩ : ∃ x, (rWaitOf xs ev se pe).1 = x := ⟨_, rfl⟩
  obtain ⟨one, hone⟩ : ∃ x, (rWaitOf xs ev se pe).2 = x := ⟨_, rfl⟩
  rw [hwt, hone]
  have Hwt := Lib.hid hwt
  have Hone := Lib.hid hone
  clear hwt hone
  go_wp2_with fail
  refine (implRidesToClear_any (Reads.below R1.out K2.out (Nat.le_refl _)) K2.out.size hcap (by omega)).mono ?_
  rintro e w3 ⟨r, cd, rfl, hP, b3⟩
  have HP := Lib.hid hP
  have K3 := Lib.hid (K2.out.trans (b3.mono K2.out.size))
  clear b3 K2 hP
  go_wp2_with fail
  refine (implMeanWait_any (Reads.below R1.out K3.out (Nat.le_refl _)) K3.out.size hcap (by omega)).mono ?_
  rintro e w4 ⟨rfl, b4⟩
  have K4 := Lib.hid (K3.out.trans (b4.mono K3.out.size))
  clear b4 K3
  obtain ⟨mean, hme⟩ : ∃ x, (rMeanWait xs ev se).1 = x := ⟨_, rfl⟩
  obtain ⟨three, hth⟩ : ∃ x, (rMeanWait xs ev se).2 = x := ⟨_, rfl⟩
  rw [hme, hth]
  have Hme := Lib.hid hme
  have Hth := Lib.hid hth
  clear hme hth
  go_wp2_with fail
  refine (b10Sum_wild (Reads.below R1.out K4.out (Nat.le_refl _)) (by omega)).mono ?_
  rintro e w5 ⟨s, rfl, hs, rfl⟩
  have Hs := Lib.hid hs
  clear hs
  go_upto_if 72 with fail
  go_cut [] (fun wx => Below w1.heap.size w1 wx)
  case first => as_aux_lemma =>
    by_cases hc : cd = 0
    · subst hc
      obtain ⟨⟨hsum, hs0⟩, f1, f3, hno, hall, hrr, hss, hmean⟩ := wait_facts (person := pe) HP.out Hs.out
      rw [Hone.out] at f1
      rw [Hth.out] at f3
      rw [Hme.out] at hmean
      have m0 : 0 ≤ r * se := Int.mul_nonneg hrr.1 (by omega)
      have m1 : r * se ≤ 3900060 * 1000 := Int.mul_le_mul hrr.2 hss.2 (by omega) (by omega)
      have qm : IntKind.i64.wrap (r * se) = r * se := IntWalk.i64_in _ (by omega)
      have g1 : decide (r * se < s) = false := decide_eq_false (by omega)
      have g2 : decide (mean < 0) = false := decide_eq_false (by omega)
      have g1' : ¬ r * se < s := by omega
      have g2' : ¬ mean < 0 := by omega
      have hP3 : (one = 0 ∧ 0 ≤ pe ∧ pe < s) ∨ (¬ one = 0 ∧ 0 ≤ pe ∧ ¬ pe < s) ∨ (¬ one = 0 ∧ ¬ 0 ≤ pe) := by omega
      have hS2 : (three = 0 ∧ 0 < s ∧ ¬ s = 0 ∧ ¬ r = 0) ∨ (¬ three = 0 ∧ ¬ 0 < s ∧ s = 0 ∧ r = 0) := by omega
      clear f1 f3 hno hall hrr hss hmean m0 m1 hsum
      rcases hP3 with ⟨a1, a2, a3⟩ | ⟨a1, a2, a3⟩ | ⟨a1, a2⟩
      case' inl =>
        have d1 : (one == 0) = true := beq_iff_eq.2 a1
        have d2 : decide (0 ≤ pe) = true := decide_eq_true a2
        have d3 : decide (pe < s) = true := decide_eq_true a3
        clear a1 a2 a3
      case' inr.inl =>
        have d1 : (one == 0) = false := beq_eq_false_iff_ne.2 a1
        have d2 : decide (0 ≤ pe) = true := decide_eq_true a2
        have d3 : decide (pe < s) = false := decide_eq_false a3
        clear a1 a2 a3
      case' inr.inr =>
        have d1 : (one == 0) = false := beq_eq_false_iff_ne.2 a1
        have d2 : decide (0 ≤ pe) = false := decide_eq_false a2
        clear a1 a2
      all_goals
        rcases hS2 with ⟨a4, a5, a6, a7⟩ | ⟨a4, a5, a6, a7⟩
        case' inl =>
          have d4 : (three == 0) = true := beq_iff_eq.2 a4
          have d5 : decide (0 < s) = true := decide_eq_true a5
          have d6 : (s == 0) = false := beq_eq_false_iff_ne.2 a6
          have d7 : (r == 0) = false := beq_eq_false_iff_ne.2 a7
          clear a4 a5 a6 a7
        case' inr =>
          have d4 : (three == 0) = false := beq_eq_false_iff_ne.2 a4
          have d5 : decide (0 < s) = false := decide_eq_false a5
          have d6 : (s == 0) = true := beq_iff_eq.2 a6
          have d7 : (r == 0) = true := beq_iff_eq.2 a7
          clear a4 a5 a6 a7
        all_goals as_aux_lemma =>
          go_wp2_with fail
          go_meet
          exact K4.out
    · have d1 : (cd == 0) = false := beq_eq_false_iff_ne.2 hc
      clear hc
      go_wp2_with fail
      go_meet
      exact K4.out
  case rest =>
    have hb := hcut
    clear hcut K4 Hs Hth Hme
    have KB := Lib.hid hb
    clear hb
    go_upto_if 117 with fail
    go_cut [] (fun wx => Below w1.heap.size w1 wx)
    case first => as_aux_lemma =>
      by_cases hc : one = 0
      · subst hc
        obtain ⟨j, T, r1, hcame, hw, htt, hev, hse, hmd, hdv, hrb, hpr, hpe, hlen, hel, hvv, hless⟩ := one_facts HP.out Hone.out
        rw [Hwt.out] at hw
        have Hcame := Lib.hid hcame
        have Hel := Lib.hid hel
        have Hless := Lib.hid hless
        have Hvv := Lib.hid hvv
        have hjn : j < n := by have := hcame.1; rw [Hln.out] at this; exact this
        have m0 : 0 ≤ r1 * se := Int.mul_nonneg hrb.1 (by omega)
        have m1 : r1 * se ≤ 3900060 * 1000 := Int.mul_le_mul hrb.2.2 hse.2 (by omega) (by omega)
        have HF20 : Hid (IntKind.i64.wrap (((j : Int) + 1) + wt) = T ∧ decide (wt < 0) = false ∧ ¬ wt < 0 ∧ decide (ev < 1) = false ∧ ¬ ev < 1 ∧ ¬ ev = 0 ∧ T.tmod ev = 0 ∧ T % ev = 0 ∧ T.tdiv ev = r1 ∧ T / ev = r1 ∧ IntKind.i64.wrap r1 = r1 ∧ decide (r < r1) = false ∧ ¬ r < r1 ∧ IntKind.i64.wrap (r1 * se) = r1 * se ∧ decide (r1 * se ≤ pe) = false ∧ ¬ r1 * se ≤ pe) := Lib.hid
          ⟨by rw [IntWalk.i64_in _ (by omega)]; omega, decide_eq_false (by omega), by omega, decide_eq_false (by omega), by omega, by omega, hmd.1, hmd.2, hdv.1, hdv.2, IntWalk.i64_in _ (by omega), decide_eq_false (by omega), by omega, IntWalk.i64_in _ (by omega), decide_eq_false (by omega), by omega⟩
        have HTT := Lib.hid htt
        have Hpe := Lib.hid hpe
        clear hcame hw htt hev hse hmd hdv hrb hpr hlen hel hvv hless m0 m1 hpe
        go_wp2_with fail
        go_loopg [16, 17, 18] (j + 2) (fun gk vc vs vi wr => ∃ (k : Nat) (c s' : Int), k ≤ j + 1 ∧ gk + k = j + 2 ∧ vi = .int .i64 (k : Int) ∧ vc = .int .i64 c ∧ vs = .int .i64 s' ∧ ((k ≤ j ∧ c = 0 ∧ s' = (xs.take k).sum) ∨ (k = j + 1 ∧ c = (j : Int) + 1)) ∧ wc = wr)
        case atStart => exact ⟨0, 0, 0, by omega, by omega, rfl, rfl, rfl, .inl ⟨by omega, rfl, by simp⟩, rfl⟩
        case round =>
          obtain ⟨k, c, s', hk, hgk, rfl, rfl, rfl, hcs, rfl⟩ := hrel
          have Hgk := Lib.hid hgk
          clear hgk
          rcases hcs with ⟨hkj, hc0, hs'⟩ | ⟨hkj, hc0⟩
          · have Hc0 : Hid (c = 0) := Lib.hid (by omega)
            have dc : (c == 0) = true := by rw [beq_iff_eq]; omega
            clear hc0
            obtain ⟨ad, rfl, hbl, hcc⟩ := Ints.at_ (Reads.below R1.out KB.out (Nat.le_refl _)) (show k < n by omega)
            have hz := Hel.out _ (nth_mem (zs := xs) (k := k) (by rw [Hln.out]; omega))
            have HN := sum_take_succ (zs := xs) (k := k) (by rw [Hln.out]; omega)
            have g1 := sum_take_mono Hel.out 0 k
            have g2 := sum_take_mono Hel.out k (j - k)
            rw [show k + (j - k) = j by omega] at g2
            rw [Nat.zero_add] at g1
            have g0 : (xs.take 0).sum = 0 := by simp
            have g3 := Hcame.out.2.1
            have g4 := Hcame.out.2.2
            have g5 := Hpe.out
            have hkj2 : (k < j ∧ s' + nth xs k ≤ pe) ∨ (k = j ∧ pe < s' + nth xs k) := by
              rcases Nat.lt_or_ge k j with hlt | hge
              · have g6 := sum_take_mono Hel.out (k + 1) (j - (k + 1))
                rw [show k + 1 + (j - (k + 1)) = j by omega] at g6
                exact .inl ⟨hlt, by omega⟩
              · have : k = j := by omega
                subst this
                exact .inr ⟨rfl, by omega⟩
            have hsb : 0 ≤ s' ∧ s' ≤ 100000 := by omega
            have HN2 : Hid (s' + nth xs k = (xs.take (k + 1)).sum) := Lib.hid (by omega)
            clear g0 g1 g2 g3 g4 g5 HN hs'
            generalize nth xs k = z at *
            have hk0 : (0 : Int) ≤ (k : Int) := by omega
            have hk1 : (k : Int) < (n : Int) := by omega
            have q1 : IntKind.i64.wrap (s' + z) = s' + z := IntWalk.i64_in _ (by omega)
            have q2 : IntKind.i64.wrap ((k : Int) + 1) = (k : Int) + 1 := IntWalk.i64_in _ (by omega)
            rcases hkj2 with ⟨g6, g7⟩ | ⟨g6, g7⟩
            · as_aux_lemma =>
              have d1 : decide (pe < s' + z) = false := decide_eq_false (by omega)
              have G6 := Lib.hid g6
              clear g6
              go_wp2_with fail
              have hgk := Hgk.out
              have g6 := G6.out
              go_roundg (gk - 1)
              case rel => exact ⟨k + 1, c, s' + z, by omega, by omega, by go_num, rfl, rfl, .inl ⟨by omega, Hc0.out, HN2.out⟩, rfl⟩
              case measure => omega
            · as_aux_lemma =>
              have d1 : decide (pe < s' + z) = true := decide_eq_true (by omega)
              have G6 := Lib.hid g6
              clear g6
              go_wp2_with fail
              have hgk := Hgk.out
              have g6 := G6.out
              go_roundg (gk - 1)
              case rel => exact ⟨k + 1, (k : Int) + 1, s' + z, by omega, by omega, by go_num, rfl, rfl, .inr ⟨by omega, by omega⟩, rfl⟩
              case measure => omega
          · have dc : (c == 0) = false := by rw [beq_eq_false_iff_ne]; omega
            obtain ⟨u1, u2, u3, u4, u5, u6, u7, u8, u9, u10, u11, u12, u13, u14, u15, u16⟩ := HF20.out
            rw [← hc0] at u1
            have h00 : IntKind.i64.wrap 0 = 0 := by decide
            have Hc0 := Lib.hid hc0
            have Hkj := Lib.hid hkj
            clear hc0 hkj
            by_cases hp0 : 0 < pe
            · as_aux_lemma =>
              have dp : decide (0 < pe) = true := decide_eq_true hp0
              have hpe := Hpe.out
              have qp : IntKind.i64.wrap (pe - 1) = pe - 1 := IntWalk.i64_in _ (by omega)
              have SW := Lib.hid (fun (w : World) (h : Ints w w1.heap.size A2 n xs) (hB : w1.heap.size ≤ w.heap.size) => specWaitOfPerson_any (c := c2) (person := pe - 1) h hB hcap (by omega) Hvv.out.1 Hvv.out.2.1 Hvv.out.2.2 (inB_true.2 (by omega)) (by omega))
              clear hpe
              rcases (show (k : Int) < (n : Int) ∨ ¬ (k : Int) < (n : Int) by omega) with hkn | hkn
              all_goals
                go_wp2_with fail
                refine (SW.out _ (Reads.below R1.out KB.out (Nat.le_refl _)) KB.out.size).mono ?_
                rintro e w6 ⟨rfl, b6⟩
                have K6 := Lib.hid (KB.out.trans (b6.mono KB.out.size))
                clear b6 u2 u3 u4 u5 u6 u7 u8 u9 u10 u11 u12 u13 u14 u15 u16 hkn dc
                obtain ⟨j', T', hcame', hbw, hj'T, hTT⟩ := Hless.out hp0
                rw [hbw]
                obtain ⟨bw, hbw2⟩ : ∃ x, T' - ((j' : Int) + 1) = x := ⟨_, rfl⟩
                rw [hbw2]
                have hT9 := HTT.out
                have HU : Hid (IntKind.i64.wrap (((j' : Int) + 1) + bw) = T' ∧ decide (T < T') = false ∧ ¬ T < T') := Lib.hid ⟨by rw [IntWalk.i64_in _ (by omega)]; omega, decide_eq_false (by omega), by omega⟩
                have Hcame' := Lib.hid hcame'
                have hjn' : j' < n := by have := hcame'.1; rw [Hln.out] at this; exact this
                clear hbw hj'T hTT hT9 hbw2 hcame' SW
                go_wp2_with fail
                go_loopg [17, 21, 22] (j' + 2) (fun gk vs vc vi wr => ∃ (k : Nat) (c s' : Int), k ≤ j' + 1 ∧ gk + k = j' + 2 ∧ vi = .int .i64 (k : Int) ∧ vc = .int .i64 c ∧ vs = .int .i64 s' ∧ ((k ≤ j' ∧ c = 0 ∧ s' = (xs.take k).sum) ∨ (k = j' + 1 ∧ c = (j' : Int) + 1)) ∧ w6 = wr)
                case atStart => exact ⟨0, 0, 0, by omega, by omega, rfl, rfl, rfl, .inl ⟨by omega, rfl, by simp⟩, rfl⟩
                case round =>
                  obtain ⟨k2, c', s', hk, hgk, rfl, rfl, rfl, hcs, rfl⟩ := hrel
                  have Hgk := Lib.hid hgk
                  clear hgk
                  rcases hcs with ⟨hkj, hc0, hs'⟩ | ⟨hkj, hc0⟩
                  · have Hc0 : Hid (c' = 0) := Lib.hid (by omega)
                    have dc : (c' == 0) = true := by rw [beq_iff_eq]; omega
                    clear hc0
                    obtain ⟨ad, rfl, hbl, hcc⟩ := Ints.at_ (Reads.below R1.out K6.out (Nat.le_refl _)) (show k2 < n by omega)
                    have hz := Hel.out _ (nth_mem (zs := xs) (k := k2) (by rw [Hln.out]; omega))
                    have HN := sum_take_succ (zs := xs) (k := k2) (by rw [Hln.out]; omega)
                    have g1 := sum_take_mono Hel.out 0 k2
                    have g2 := sum_take_mono Hel.out k2 (j' - k2)
                    rw [show k2 + (j' - k2) = j' by omega] at g2
                    rw [Nat.zero_add] at g1
                    have g0 : (xs.take 0).sum = 0 := by simp
                    have g3 := Hcame'.out.2.1
                    have g4 := Hcame'.out.2.2
                    have g5 := Hpe.out
                    have hkj2 : (k2 < j' ∧ s' + nth xs k2 ≤ pe - 1) ∨ (k2 = j' ∧ pe - 1 < s' + nth xs k2) := by
                      rcases Nat.lt_or_ge k2 j' with hlt | hge
                      · have g6 := sum_take_mono Hel.out (k2 + 1) (j' - (k2 + 1))
                        rw [show k2 + 1 + (j' - (k2 + 1)) = j' by omega] at g6
                        exact .inl ⟨hlt, by omega⟩
                      · have : k2 = j' := by omega
                        subst this
                        exact .inr ⟨rfl, by omega⟩
                    have hsb : 0 ≤ s' ∧ s' ≤ 100000 := by omega
                    have HN2 : Hid (s' + nth xs k2 = (xs.take (k2 + 1)).sum) := Lib.hid (by omega)
                    clear g0 g1 g2 g3 g4 g5 HN hs'
                    generalize nth xs k2 = z at *
                    have hk0 : (0 : Int) ≤ (k2 : Int) := by omega
                    have hk1 : (k2 : Int) < (n : Int) := by omega
                    have q1 : IntKind.i64.wrap (s' + z) = s' + z := IntWalk.i64_in _ (by omega)
                    have q2 : IntKind.i64.wrap ((k2 : Int) + 1) = (k2 : Int) + 1 := IntWalk.i64_in _ (by omega)
                    rcases hkj2 with ⟨g6, g7⟩ | ⟨g6, g7⟩
                    · as_aux_lemma =>
                      have d1 : decide (pe - 1 < s' + z) = false := decide_eq_false (by omega)
                      have G6 := Lib.hid g6
                      clear g6
                      have d1' : ¬ pe - 1 < s' + z := by omega
                      go_wp2_with fail
                      have hgk := Hgk.out
                      have g6 := G6.out
                      go_roundg (gk - 1)
                      case rel => exact ⟨k2 + 1, c', s' + z, by omega, by omega, by go_num, rfl, rfl, .inl ⟨by omega, Hc0.out, HN2.out⟩, rfl⟩
                      case measure => omega
                    · as_aux_lemma =>
                      have d1 : decide (pe - 1 < s' + z) = true := decide_eq_true (by omega)
                      have G6 := Lib.hid g6
                      clear g6
                      go_wp2_with fail
                      have hgk := Hgk.out
                      have g6 := G6.out
                      go_roundg (gk - 1)
                      case rel => exact ⟨k2 + 1, (k2 : Int) + 1, s' + z, by omega, by omega, by go_num, rfl, rfl, .inr ⟨by omega, by omega⟩, rfl⟩
                      case measure => omega
                  · as_aux_lemma =>
                    have dc : (c' == 0) = false := by rw [beq_eq_false_iff_ne]; omega
                    obtain ⟨y1, y2, y3⟩ := HU.out
                    rw [← hc0] at y1
                    clear hc0 hkj
                    rcases (show (k2 : Int) < (n : Int) ∨ ¬ (k2 : Int) < (n : Int) by omega) with hkn | hkn
                    all_goals
                      go_wp2_with fail
                      go_meet
                      exact K6.out
            · as_aux_lemma =>
              have dp : decide (0 < pe) = false := decide_eq_false hp0
              rcases (show (k : Int) < (n : Int) ∨ ¬ (k : Int) < (n : Int) by omega) with hkn | hkn
              all_goals
                go_wp2_with fail
                go_meet
                exact KB.out
      · have d1 : (one == 0) = false := beq_eq_false_iff_ne.2 hc
        clear hc
        go_wp2_with fail
        go_meet
        exact KB.out
    case rest =>
      have hb := B1.out.trans (hcut.mono hs1)
      clear hcut KB R1 HP Hwt Hone B1 hcap hx
      have HB := Lib.hid hb
      have hs2 := hb.size
      clear hb
      go_wp2_with fail
      refine (drawShareSeats_any ⟨(Bytz.below H1.out HB.out (Nat.le_refl _)).1.more hs2, H1.out.2⟩ hn1).mono ?_
      rintro e w6 ⟨a, b, many, rfl, b6⟩
      have B6 := Lib.hid (HB.out.trans (b6.mono hs2))
      clear b6
      go_wp2_with fail
      refine implShareSeats_any.mono ?_
      rintro e w7 ⟨x, y, five, rfl, hS, b7⟩
      have hs6 := B6.out.size
      have B7 := Lib.hid (B6.out.trans (b7.mono hs6))
      have HS := Lib.hid hS
      clear b7 hS
      go_upto_if 232 with fail
      go_cut [] (fun wx => Below w.heap.size w wx)
      case first => as_aux_lemma =>
        by_cases hc : five = 0
        · subst hc
          obtain ⟨⟨ha0, ha1, hb0, hb1, hm0, hm1⟩, hx0, hy0, hxa, hyb, hxy, hle, hge⟩ := HS.out.1 rfl
          have q1 : IntKind.i64.wrap (x + y) = x + y := IntWalk.i64_in _ (by omega)
          have q2 : IntKind.i64.wrap (a + b) = a + b := IntWalk.i64_in _ (by omega)
          have d1 : decide (x < 0) = false := decide_eq_false (by omega)
          have d2 : decide (y < 0) = false := decide_eq_false (by omega)
          have d3 : decide (a < x) = false := decide_eq_false (by omega)
          have d4 : decide (b < y) = false := decide_eq_false (by omega)
          have d5 : decide (many < x + y) = false := decide_eq_false (by omega)
          have c1 : ¬ x < 0 := by omega
          have c2 : ¬ y < 0 := by omega
          have c3 : ¬ a < x := by omega
          have c4 : ¬ b < y := by omega
          have c5 : ¬ many < x + y := by omega
          have hcs : (a + b ≤ many ∧ x = a ∧ y = b ∧ ¬ many ≤ a + b) ∨ (a + b ≤ many ∧ x = a ∧ y = b ∧ many ≤ a + b ∧ x + y = many) ∨ (¬ a + b ≤ many ∧ many ≤ a + b ∧ x + y = many) := by
            rcases Int.lt_trichotomy (a + b) many with h | h | h
            · exact .inl ⟨by omega, (hle (by omega)).1, (hle (by omega)).2, by omega⟩
            · exact .inr (.inl ⟨by omega, (hle (by omega)).1, (hle (by omega)).2, by omega, hge (by omega)⟩)
            · exact .inr (.inr ⟨by omega, by omega, hge (by omega)⟩)
          clear hle hge
          rcases hcs with ⟨e1, e2, e3, e4⟩ | ⟨e1, e2, e3, e4, e5⟩ | ⟨e1, e4, e5⟩
          case' inl =>
            have f1 : decide (a + b ≤ many) = true := decide_eq_true e1
            have f2 : (x != a) = false := bne_eq_false_iff_eq.2 e2
            have f3 : (y != b) = false := bne_eq_false_iff_eq.2 e3
            have f4 : decide (many ≤ a + b) = false := decide_eq_false e4
            clear e2 e3
          case' inr.inl =>
            have f1 : decide (a + b ≤ many) = true := decide_eq_true e1
            have f2 : (x != a) = false := bne_eq_false_iff_eq.2 e2
            have f3 : (y != b) = false := bne_eq_false_iff_eq.2 e3
            have f4 : decide (many ≤ a + b) = true := decide_eq_true e4
            have f5 : (x + y != many) = false := bne_eq_false_iff_eq.2 e5
            clear e2 e3 e5
          case' inr.inr =>
            have f1 : decide (a + b ≤ many) = false := decide_eq_false e1
            have f4 : decide (many ≤ a + b) = true := decide_eq_true e4
            have f5 : (x + y != many) = false := bne_eq_false_iff_eq.2 e5
            clear e5
          all_goals as_aux_lemma =>
            go_wp2_with fail
            go_meet
            exact B7.out
        · have d1 : (five == 0) = false := beq_eq_false_iff_ne.2 hc
          obtain ⟨rfl, rfl⟩ := HS.out.2 hc
          clear hc
          go_wp2_with fail
          go_meet
          exact B7.out
      case rest => as_aux_lemma =>
        have hb := hcut
        clear hcut HS B6 B7 HB hs2 hs6 H1
        have HB := Lib.hid hb
        have hs2 := hb.size
        clear hb
        go_wp2_with fail
        refine (drawSmoothArrivals_any ⟨(Bytz.below H0.out HB.out (Nat.le_refl _)).1.more hs2, H0.out.2⟩ hn0).mono ?_
        rintro e w8 ⟨A5, c5, ps, most, rfl, hps, o8, b8⟩
        obtain ⟨n5, hl5⟩ : ∃ n, ps.length = n := ⟨_, rfl⟩
        have Hl5 := Lib.hid hl5
        rw [hl5] at hps o8 ⊢
        clear hl5
        have R8 : Hid (Ints w8 w8.heap.size A5 n5 ps) := Lib.hid o8.reads
        have B8 := Lib.hid (HB.out.trans (b8.mono hs2))
        have hs8 := B8.out.size
        clear o8 b8
        go_wp2_with fail
        refine (implSmoothArrivals_any R8.out (Nat.le_refl _) (by omega)).mono ?_
        rintro e w9 ⟨A6, n6, c6, ys, six, rfl, hS, o9, b9⟩
        have B9 := Lib.hid (B8.out.trans (b9.mono hs8))
        have hl6 : ys.length = n6 := by have := o9.len; rw [List.length_map] at this; omega
        by_cases hc : six = 0
        · subst hc
          obtain ⟨hv, hm0, hm1, hsum, hin, hlen, hlen6⟩ := hS.1 rfl
          rw [hl6] at hlen6
          rw [Hl5.out, hl6] at hlen
          have hv2 := arrB_true.1 hv
          have R9 : Hid (Ints w9 w9.heap.size A6 n6 ys) := Lib.hid o9.reads
          have Hin : Hid (∀ i, i < n6 → 0 ≤ nth ys i ∧ nth ys i ≤ most) := Lib.hid (fun i h => hin _ (nth_mem (by rw [hl6]; exact h)))
          have HS1 : Hid (Calls Try.prog 9 #[.slice A6 n6 c6] w9 fun e w' => e = .returned (.int .i64 ps.sum) ∧ w9 = w') := Lib.hid ((b10Sum_wild R9.out (by omega)).mono (by
            rintro e w' ⟨s, rfl, hs, rfl⟩
            refine ⟨?_, rfl⟩
            rw [hs (fun z hz => by have := hin z hz; omega), hsum]))
          have HS2 : Hid (Calls Try.prog 9 #[.slice A5 n5 c5] w9 fun e w' => e = .returned (.int .i64 ps.sum) ∧ w9 = w') := Lib.hid ((b10Sum_wild (Reads.below R8.out b9 (Nat.le_refl _)) (by omega)).mono (by
            rintro e w' ⟨s, rfl, hs, rfl⟩
            refine ⟨?_, rfl⟩
            rw [hs hv2.1]))
          generalize ps.sum = T at *
          have e2 : (T != T) = false := by simp
          have d1 : decide (n6 < n5) = false := decide_eq_false (by omega)
          have d1' : ¬ (n6 : Int) < (n5 : Int) := by omega
          clear hsum hin hv hv2 o9 b9 hS
          go_wp2_with (go_at_call 9; first | (with_reducible refine HS1.out.mono ?_; rintro e w' ⟨rfl, rfl⟩) | (with_reducible refine HS2.out.mono ?_; rintro e w' ⟨rfl, rfl⟩))
          go_loopg [33] n6 (fun gk vi wr => ∃ i : Nat, i ≤ n6 ∧ gk + i = n6 ∧ vi = .int .i64 (i : Int) ∧ w9 = wr)
          case atStart => exact ⟨0, by omega, by omega, rfl, rfl⟩
          case round =>
            obtain ⟨i, hil, hgk, rfl, rfl⟩ := hrel
            have Hgk := Lib.hid hgk
            clear hgk
            by_cases hlt : i < n6
            · obtain ⟨a6, rfl, hbl, hcc⟩ := R9.out.at_ hlt
              have hy := Hin.out i hlt
              generalize nth ys i = y6 at *
              have hi0 : (0 : Int) ≤ (i : Int) := by omega
              have hi1 : (i : Int) < (n6 : Int) := by omega
              have qi : IntKind.i64.wrap ((i : Int) + 1) = (i : Int) + 1 := IntWalk.i64_in _ (by omega)
              have g1 : decide (y6 < 0) = false := decide_eq_false (by omega)
              have g2 : decide (most < y6) = false := decide_eq_false (by omega)
              go_wp2_with fail
              have hgk := Hgk.out
              go_roundg (gk - 1)
              case rel => exact ⟨i + 1, by omega, by omega, by go_num, rfl⟩
              case measure => omega
            · have hie : i = n6 := by omega
              subst hie
              have hd : ¬ (i : Int) < (i : Int) := by omega
              go_wp2_with fail
              go_ret
              exact ⟨rfl, B9.out⟩
        · have hnil := hS.2 hc
          subst hnil
          have hn60 : n6 = 0 := by have := hl6; simp at this; omega
          subst hn60
          have d1 : (six != 0) = true := by simp [hc]
          clear hS o9 b9 hc hl6
          go_wp2_with fail
          go_ret
          exact ⟨ret_bool (by simp), B9.out⟩
end Go.Proofs.Ytmiilnddfmeldaa
