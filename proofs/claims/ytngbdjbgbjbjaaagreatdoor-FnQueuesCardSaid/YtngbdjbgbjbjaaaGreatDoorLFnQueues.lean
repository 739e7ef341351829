/- The walk of the law 'FnQueues': whatever the input, it returns true, and nothing that was there has turned. -/
import Derived.Test.YtngbdjbgbjbjaaaGreatDoorVq
import Derived.Test.YtngbdjbgbjbjaaaGreatDoorDu
import Derived.Test.YtngbdjbgbjbjaaaGreatDoorFa
import Derived.Deep.DeepCutAuto
import Derived.BigQuiet
namespace Go.Proofs.YtngbdjbgbjbjaaaGreatDoor
open Go.RowKit
set_option maxRecDepth 100000
set_option linter.unusedVariables false
set_option linter.unusedSimpArgs false

set_option maxHeartbeats 16000000 in
theorem FnQueues_walk (A0 : Option Addr) (n0 c0 : Nat) (z0 : List Int) (A1 : Option Addr) (n1 c1 : Nat) (z1 : List Int) (w : World) (h0 : Bytz w w.heap.size A0 n0 z0) (hc0 : n0 ≤ c0) (hm0 : c0 ≤ maxLen) (hz0 : True) (h1 : Bytz w w.heap.size A1 n1 z1) (hc1 : n1 ≤ c1) (hm1 : c1 ≤ maxLen) (hz1 : True) (tab : TabR w) :
    Calls Tryz.prog 3 #[.slice A0 n0 c0, .slice A1 n1 c1] w fun e w' => e = .returned (.bool true) ∧ Below w.heap.size w w' := by
  have Tab := Lib.hid tab
  clear tab
  by_cases hl0 : 1048576 < n0
  · have Hd0 : Hid (decide (1048576 < n0) = true) := Lib.hid (decide_eq_true hl0)
    clear hl0
    go_enter Tryz.func3, Tryz.ntmps3
    go_wp2_with (go_at_call 4; refine b10Long_any.mono ?_; rintro e w' ⟨rfl, rfl⟩; rw [Hd0.out])
    go_ret
    exact ⟨rfl, Below.refl _ _⟩
  have Hd0 : Hid (decide (1048576 < n0) = false) := Lib.hid (decide_eq_false hl0)
  by_cases hl1 : 1048576 < n1
  · have Hd1 : Hid (decide (1048576 < n1) = true) := Lib.hid (decide_eq_true hl1)
    clear hl0 hl1
    go_enter Tryz.func3, Tryz.ntmps3
    go_wp2_with (go_at_call 4; refine b10Long_any.mono ?_; rintro e w' ⟨rfl, rfl⟩; first | rw [Hd0.out] | rw [Hd1.out])
    go_ret
    exact ⟨rfl, Below.refl _ _⟩
  have Hd1 : Hid (decide (1048576 < n1) = false) := Lib.hid (decide_eq_false hl1)
  have hn0 : n0 ≤ 1048576 := by omega
  have hn1 : n1 ≤ 1048576 := by omega
  have H0 := Lib.hid h0
  have H1 := Lib.hid h1
  clear h0 h1 hl0 hl1 hm0 hm1 hz0 hz1 hc0 hc1
  go_enter Tryz.func3, Tryz.ntmps3
  go_wp2_with (go_at_call 4; refine b10Long_any.mono ?_; rintro e w' ⟨rfl, rfl⟩; first | rw [Hd0.out] | rw [Hd1.out])
  refine (drawQueuesOf_any H0.out hn0).mono ?_
  rintro e w1 ⟨A2, c2, xs, ev, se, rfl, hx, o1, b1⟩
  obtain ⟨n, hln⟩ : ∃ n, xs.length = n := ⟨_, rfl⟩
  have Hln := Lib.hid hln
  rw [hln] at hx o1 ⊢
  clear hln
  have hcap := o1.cap
  have R1 : Hid (Ints w1 w1.heap.size A2 n xs) := Lib.hid o1.reads
  have B1 := Lib.hid b1
  have hs1 := b1.size
  clear o1 b1
  go_wp2_with fail
  refine (implQueuesOf_all R1.out (Nat.le_refl _) (by omega)).mono ?_
  rintro e w2 ⟨A3, n3, c3, rfl, hn3, b2, ho, hno⟩
  have K2 := Lib.hid b2
  have hs2 := b2.size
  have Ho := Lib.hid ho
  obtain ⟨cd, hcd⟩ : ∃ x, askC (arrB xs) (inB ev 1 60 && inB se 1 1000) = x := ⟨_, rfl⟩
  have Hcd := Lib.hid hcd
  have Hno := Lib.hid hno
  rw [hcd] at Ho Hno ⊢
  clear b2 ho hcd hno
  go_upto_if 64 with fail
  go_cut [] (fun wx => Below w1.heap.size w1 wx)
  case first => as_aux_lemma =>
    by_cases hc : cd = 0
    · subst hc
      obtain ⟨rfl, o2⟩ := Ho.out rfl
      clear Ho
      have hvv := askC_zero.1 Hcd.out
      rw [Bool.and_eq_true] at hvv
      obtain ⟨v0, v1, v2⟩ := hvv
      have hev := inB_true.1 v1
      have hse := inB_true.1 v2
      have hv := arrB_true.1 v0
      have V0 := Lib.hid v0
      have Hz := Lib.hid hv.1
      have hnn : 1 ≤ n3 ∧ n3 ≤ 60 := by have := Hln.out; omega
      have R2 : Hid (Ints w2 w2.heap.size A3 n3 (queuesTo xs ev se 0 n3)) := Lib.hid o2.reads
      have hcap3 := o2.cap
      have Hbd := Lib.hid (queueTo_bd (every := ev) (extra := 0) Hz.out hse.1)
      have hev1 : ¬ ev < 1 := by omega
      clear v0 v1 v2 hv o2
      go_wp2_with fail
      go_loopg [10, 11, 12] n3 (fun gk vn vm vi wr => ∃ (k : Nat), k ≤ n3 ∧ gk + k = n3 ∧ vi = .int .i64 (k : Int) ∧ vn = .int .i64 (queueTo xs ev se 0 k) ∧ vm = .int .i64 (mxTo xs ev se k) ∧ w2 = wr)
      case atStart => exact ⟨0, by omega, by omega, rfl, rfl, rfl, rfl⟩
      case round =>
        obtain ⟨k, hk, hgk, rfl, rfl, rfl, rfl⟩ := hrel
        have Hgk := Lib.hid hgk
        clear hgk
        by_cases hlt : k < n3
        · as_aux_lemma =>
          obtain ⟨ad, rfl, hbl, e1⟩ := Ints.at_ (Reads.below R1.out K2.out (Nat.le_refl _)) hlt
          obtain ⟨ad3, rfl, hbl3, e2⟩ := Ints.at_ R2.out hlt
          rw [queuesTo_nth _ _ _ _ hlt] at e2
          have hbd := Hbd.out k (by rw [Hln.out]; omega)
          have hzk := Hz.out _ (nth_mem (zs := xs) (k := k) (by rw [Hln.out]; omega))
          have hmx := (mxTo_ge xs ev se k).1
          have hst := queueTo_succ xs ev se 0 k
          rw [stepQ_eq, if_neg (show ¬ (k : Int) + 1 = 0 by omega)] at hst
          have HM := Lib.hid (mxTo_succ xs ev se k)
          have HS := Lib.hid hst
          clear hst
          obtain ⟨q2, hq2⟩ : ∃ x, queueTo xs ev se 0 (k + 1) = x := ⟨_, rfl⟩
          have Hq2 := Lib.hid hq2
          rw [hq2] at e2 HM HS
          clear hq2
          generalize queueTo xs ev se 0 k = q at *
          generalize mxTo xs ev se k = mx at *
          generalize nth xs k = z at *
          have hk0 : (0 : Int) ≤ (k : Int) := by omega
          have hk1 : (k : Int) < (n3 : Int) := by omega
          have g1 : IntKind.i64.wrap ((k : Int) + 1) = (k : Int) + 1 := IntWalk.i64_in _ (by omega)
          have g2 : IntKind.i64.wrap (q + z) = q + z := IntWalk.i64_in _ (by omega)
          have g3 : IntKind.i64.wrap (q + z - se) = q + z - se := IntWalk.i64_in _ (by omega)
          have hqe : ¬ ev = 0 := by omega
          have htm : 0 ≤ ((k : Int) + 1).tmod ev ∧ ((k : Int) + 1).tmod ev < 60 := ⟨Int.tmod_nonneg _ (by omega), by have := Int.tmod_lt_of_pos ((k : Int) + 1) (show 0 < ev by omega); omega⟩
          have g4 : IntKind.i64.wrap (((k : Int) + 1).tmod ev) = ((k : Int) + 1).tmod ev := IntWalk.i64_in _ (by omega)
          clear hbd hmx
          by_cases c1 : ((k : Int) + 1).tmod ev = 0
          · have d1 : ((((k : Int) + 1) % ev) == 0) = true := by rw [← Int.tmod_eq_emod_of_nonneg (by omega)]; simp [c1]
            have hqq := HS.out
            rw [if_pos c1] at hqq
            subst hqq
            clear c1 HS
            go_wp2_with fail
            have hgk := Hgk.out
            go_roundg (gk - 1)
            case rel => exact ⟨k + 1, by omega, by omega, by go_num, int_eq (by rw [Hq2.out]), int_eq (by rw [HM.out]), rfl⟩
            case measure => omega
          · have d1 : ((((k : Int) + 1) % ev) == 0) = false := by rw [← Int.tmod_eq_emod_of_nonneg (by omega)]; simp [c1]
            have hqq := HS.out
            rw [if_neg c1] at hqq
            subst hqq
            clear c1 HS
            go_wp2_with fail
            have hgk := Hgk.out
            go_roundg (gk - 1)
            case rel => exact ⟨k + 1, by omega, by omega, by go_num, int_eq (by rw [Hq2.out]), int_eq (by rw [HM.out]), rfl⟩
            case measure => omega
        · have hke : k = n3 := by omega
          have HKe := Lib.hid hke
          have hk1 : ¬ (k : Int) < (n3 : Int) := by omega
          have HMx := Lib.hid (most_mx (every := ev) hse.1 Hz.out Hln.out.symm hnn.1)
          obtain ⟨mx, hmx⟩ : ∃ x, mxTo xs ev se k = x := ⟨_, rfl⟩
          have Hmx : Hid (mostOf (queuesTo xs ev se 0 n3) = mx) := Lib.hid (by rw [HMx.out, ← hke, hmx])
          rw [hmx]
          generalize queueTo xs ev se 0 k = q at *
          clear hmx HMx hke
          go_wp2_with fail
          refine (implLongestQueue_any (Reads.below R1.out K2.out (Nat.le_refl _)) hs2 hcap (by omega)).mono ?_
          rintro e w3 ⟨rfl, b3⟩
          have K3 := Lib.hid (K2.out.trans (b3.mono hs2))
          have K23 := Lib.hid b3
          clear b3
          have hrl : rLongest xs ev se = (((placeOf (queuesTo xs ev se 0 n3) : Nat) : Int) + 1, mx, 0) := by
            unfold rLongest
            rw [if_pos Hcd.out, Hln.out, Hmx.out]
          rw [hrl]
          have hpl := placeOf_lt (zs := queuesTo xs ev se 0 n3) (by rw [queuesTo_len]; omega)
          rw [queuesTo_len] at hpl
          have hpv : nth (queuesTo xs ev se 0 n3) (placeOf (queuesTo xs ev se 0 n3)) = mx := Hmx.out
          have HSum := Lib.hid (queuesTo_mem (every := ev) (m := 0) hse.1 Hz.out (k := n3) (by rw [Hln.out]; exact Nat.le_refl _) hnn.2)
          have hs3 := K3.out.size
          have hs23 := K23.out.size
          clear hrl
          go_wp2_with fail
          refine (implExtraRide_any (Reads.below R1.out K3.out (Nat.le_refl _)) hs3 (by omega)).mono ?_
          rintro e w4 ⟨xm, xv, xc, rfl, hxc, hxp, b4⟩
          rw [Hcd.out] at hxc
          subst hxc
          obtain ⟨p1, p2, p3, p4⟩ := hxp rfl
          have K4 := Lib.hid (K3.out.trans (b4.mono hs3))
          have K24 := Lib.hid (K23.out.trans (b4.mono hs23))
          have R4 : Hid (Ints w4 w2.heap.size A3 n3 (queuesTo xs ev se 0 n3)) := Lib.hid (Reads.below R2.out K24.out (Nat.le_refl _))
          clear b4 hxp K3 K23
          obtain ⟨ad3, rfl, hbl3, e2⟩ := Ints.at_ R4.out hpl
          rw [hpv] at e2
          have HB := Lib.hid (b10Sum_big (c := c3) R4.out (by omega) (fun z hz => by have := HSum.out z hz; omega))
          obtain ⟨sm, hsm⟩ : ∃ x, (queuesTo xs ev se 0 n3).sum = x := ⟨_, rfl⟩
          rw [hsm] at HB p4
          clear hsm HSum hpv R4 Hmx R2 Hbd
          generalize placeOf (queuesTo xs ev se 0 n3) = pl at *
          have f1 : ¬ ((pl : Int) + 1 < 1) := by omega
          have f2 : ¬ ((n3 : Int) < (pl : Int) + 1) := by omega
          have f3 : IntKind.i64.wrap ((pl : Int) + 1 - 1) = (pl : Int) := by rw [show (pl : Int) + 1 - 1 = pl by omega]; exact IntWalk.i64_in _ (by omega)
          have f3' : (pl : Int) + 1 - 1 = (pl : Int) := by omega
          have f4 : (0 : Int) ≤ (pl : Int) := by omega
          have f5 : (pl : Int) < (n3 : Int) := by omega
          have f6 : ¬ xm < 1 := by omega
          have f7 : ¬ (n3 : Int) < xm := by omega
          have f8 : ¬ sm < xv := by omega
          have f9 : ¬ xv < 0 := by omega
          clear p1 p2 p3 p4
          have HT := Lib.hid (implArrivalsText_any (c := c2) (Reads.below R1.out K4.out (Nat.le_refl _)) K4.out.size hcap (by omega) (Tab.out.below (B1.out.trans (K4.out.mono hs1))).1)
          have HAt := Lib.hid (readArr_text V0.out)
          have HAs := Lib.hid (arrText_size V0.out)
          generalize rArrivalsText xs = tx at *
          go_wp2_with (with_reducible refine HB.out.mono ?_; rintro e w' ⟨rfl, rfl⟩)
          refine HT.out.mono ?_
          rintro e w5 ⟨rfl, b5⟩
          have K5 := Lib.hid (K4.out.trans (b5.mono K4.out.size))
          clear b5 HT
          have HRd := Lib.hid (implReadArrivals_any (s := tx) (w := w5) HAs.out (Tab.out.below (B1.out.trans (K5.out.mono hs1))))
          go_wp2_with fail
          refine HRd.out.mono ?_
          rintro e w6 ⟨A6, n6, k6, rfl, hn6, o6, b6⟩
          rw [HAt.out] at o6 ⊢
          have K6 := Lib.hid (K5.out.trans (b6.mono K5.out.size))
          have hl6 : n6 = n3 := by
            have := o6.reads.1
            rw [List.length_map, Hln.out] at this
            omega
          subst hl6
          have HN := Lib.hid (b10Nums_same (c := k6) (c' := c2) (own_ints o6) (Reads.below R1.out K6.out (Nat.le_refl _)) (by omega))
          clear o6 b6 HRd
          go_wp2_with fail
          refine HN.out.mono ?_
          rintro e w7 ⟨rfl, b7⟩
          have K7 := Lib.hid (K6.out.trans (b7.mono K6.out.size))
          clear b7
          go_wp2_with fail
          go_meet
          exact K7.out
    · have hn0' := Hno.out hc
      subst hn0'
      have d1 : (cd == 0) = false := beq_eq_false_iff_ne.2 hc
      clear hc
      go_wp2_with fail
      go_meet
      exact K2.out
  case rest =>
    have hb := B1.out.trans (hcut.mono hs1)
    clear hcut K2 R1 Ho Hno Hcd B1 hcap hx Hln hs2 hn3
    have HB := Lib.hid hb
    have hs2 := hb.size
    clear hb
    go_wp2_with fail
    refine (drawLeastSeats_any ⟨(Bytz.below H1.out HB.out (Nat.le_refl _)).1.more hs2, H1.out.2⟩ hn1).mono ?_
    rintro e w3 ⟨A4, c4, ps, gap, lim, rfl, hps, o3, b3⟩
    obtain ⟨n4, hl4⟩ : ∃ n, ps.length = n := ⟨_, rfl⟩
    have Hl4 := Lib.hid hl4
    rw [hl4] at hps o3 ⊢
    clear hl4
    have R3 : Hid (Ints w3 w3.heap.size A4 n4 ps) := Lib.hid o3.reads
    have hcap4 := o3.cap
    have B3 := Lib.hid (HB.out.trans (b3.mono hs2))
    have hs3 := B3.out.size
    clear o3 b3 HB
    go_wp2_with fail
    refine (implLeastSeats_any R3.out (Nat.le_refl _) (by omega)).mono ?_
    rintro e w4 ⟨few, fc, rfl, hP, hf0, hf1, b4⟩
    have HP := Lib.hid hP
    have K4 := Lib.hid b4
    have hs4 := b4.size
    clear b4 hP
    go_upto_if 201 with fail
    go_cut [] (fun wx => Below w3.heap.size w3 wx)
    case first => as_aux_lemma =>
      by_cases hc : fc = 0
      · subst hc
        obtain ⟨e1, e2, e3⟩ := least_longest HP.out
        have g1 : IntKind.i64.wrap (few - 1) = few - 1 := IntWalk.i64_in _ (by omega)
        have SW := Lib.hid (fun (sx : Int) (W : World) (h : Ints W w3.heap.size A4 n4 ps) (hB : w3.heap.size ≤ W.heap.size) => specLongestQueue_any (c := c4) (every := gap) (seats := sx) h hB hcap4 (by omega))
        obtain ⟨⟨r1, r2, r3⟩, hr⟩ : ∃ r, rLongest ps gap few = r := ⟨_, rfl⟩
        obtain ⟨⟨t1, t2, t3⟩, ht⟩ : ∃ r, rLongest ps gap (few - 1) = r := ⟨_, rfl⟩
        have HR := Lib.hid hr
        have HT := Lib.hid ht
        rw [hr] at e1 e2
        rw [ht] at e3
        simp only at e1 e2 e3
        subst e1
        have q1 : ¬ lim < r2 := by omega
        have E3 := Lib.hid e3
        clear e2 e3 hr ht HP
        go_wp2_with fail
        refine (SW.out few _ (Reads.below R3.out K4.out (Nat.le_refl _)) hs4).mono ?_
        rintro e w5 ⟨rfl, b5⟩
        rw [HR.out]
        have K5 := Lib.hid (K4.out.trans (b5.mono hs4))
        have hs5 := K5.out.size
        clear b5
        go_wp2_with fail
        refine (SW.out (few - 1) _ (Reads.below R3.out K5.out (Nat.le_refl _)) hs5).mono ?_
        rintro e w6 ⟨rfl, b6⟩
        rw [HT.out]
        have K6 := Lib.hid (K5.out.trans (b6.mono hs5))
        clear b6 SW
        by_cases h3 : t3 = 0
        · have q2 : ¬ t2 ≤ lim := by have := E3.out h3; omega
          have d1 : (t3 == 0) = true := beq_iff_eq.2 h3
          clear h3
          go_wp2_with fail
          go_meet
          exact K6.out
        · have d1 : (t3 == 0) = false := beq_eq_false_iff_ne.2 h3
          clear h3
          go_wp2_with fail
          go_meet
          exact K6.out
      · have d1 : (fc == 0) = false := beq_eq_false_iff_ne.2 hc
        clear hc
        go_wp2_with fail
        go_meet
        exact K4.out
    case rest =>
      have hb := B3.out.trans (hcut.mono hs3)
      clear hcut K4 R3 HP B3 hcap4 hps Hl4 hs4 hs2 hs3
      have HB := Lib.hid hb
      have hs2 := hb.size
      clear hb
      go_wp2_with fail
      refine (drawWidestEvery_any ⟨(Bytz.below H0.out HB.out (Nat.le_refl _)).1.more hs2, H0.out.2⟩ hn0).mono ?_
      rintro e w5 ⟨A5, c5, qs, room, bor, rfl, hqs, o5, b5⟩
      obtain ⟨n5, hl5⟩ : ∃ n, qs.length = n := ⟨_, rfl⟩
      have Hl5 := Lib.hid hl5
      rw [hl5] at hqs o5 ⊢
      clear hl5
      have R5 : Hid (Ints w5 w5.heap.size A5 n5 qs) := Lib.hid o5.reads
      have hcap5 := o5.cap
      have B5 := Lib.hid (HB.out.trans (b5.mono hs2))
      have hs5 := B5.out.size
      clear o5 b5 HB
      go_wp2_with fail
      refine (implWidestEvery_any R5.out (Nat.le_refl _) hcap5 (by omega)).mono ?_
      rintro e w6 ⟨rfl, b6⟩
      have K6 := Lib.hid b6
      have hs6 := b6.size
      have HW := Lib.hid (widest_facts (zs := qs) (seats := room) (limit := bor))
      obtain ⟨⟨wd, wc2⟩, hwd⟩ : ∃ r, rWidest qs room bor = r := ⟨_, rfl⟩
      rw [hwd] at HW ⊢
      simp only at HW
      clear b6 hwd
      by_cases hc : wc2 = 0
      · obtain ⟨h1, h2, h3, h4, h5⟩ := HW.out.1 hc
        have d0 : (wc2 == 0) = true := beq_iff_eq.2 hc
        have H3 := Lib.hid h3
        have H5 := Lib.hid h5
        have h33 := h3 wd (Int.le_refl _) h2
        have SW := Lib.hid (fun (sx : Int) (W : World) (h : Ints W w5.heap.size A5 n5 qs) (hB : w5.heap.size ≤ W.heap.size) => specLongestQueue_any (c := c5) (every := sx) (seats := room) h hB hcap5 (by omega))
        obtain ⟨⟨r1, r2, r3⟩, hr⟩ : ∃ r, rLongest qs wd room = r := ⟨_, rfl⟩
        have HR := Lib.hid hr
        rw [hr] at h4 h33
        simp only at h4 h33
        subst h33
        have q1 : ¬ bor < r2 := by omega
        have g1 : IntKind.i64.wrap (wd + 1) = wd + 1 := IntWalk.i64_in _ (by omega)
        clear h3 h5 h4 hr HW hc
        go_wp2_with fail
        refine (SW.out wd _ (Reads.below R5.out K6.out (Nat.le_refl _)) hs6).mono ?_
        rintro e w7 ⟨rfl, b7⟩
        rw [HR.out]
        have K7 := Lib.hid (K6.out.trans (b7.mono hs6))
        clear b7
        obtain ⟨wn, rfl⟩ : ∃ m : Nat, wd = (m : Int) := ⟨wd.toNat, by omega⟩
        go_wp2_with fail
        go_loopg [40, 41, 42, 43] (60 - wn) (fun gk vn va vb vc wr => ∃ (k : Nat), wn + 1 ≤ k ∧ k ≤ 61 ∧ gk + k = 61 ∧ vn = .int .i64 (k : Int) ∧ Below w5.heap.size w5 wr)
        case atStart => exact ⟨wn + 1, by omega, by omega, by omega, by go_num, K7.out⟩
        case round =>
          obtain ⟨k, hk1, hk2, hgk, rfl, hb⟩ := hrel
          have Hgk := Lib.hid hgk
          have HBk := Lib.hid hb
          have hbs := hb.size
          clear hgk hb
          by_cases hlt : k ≤ 60
          · have hk3 : (k : Int) ≤ 60 := by omega
            have e3 := H3.out (k : Int) (by omega) hk3
            have e5 := H5.out (k : Int) (by omega) hk3
            obtain ⟨⟨t1, t2, t3⟩, ht⟩ : ∃ r, rLongest qs (k : Int) room = r := ⟨_, rfl⟩
            have HT := Lib.hid ht
            rw [ht] at e3 e5
            simp only at e3 e5
            subst e3
            have q2 : ¬ t2 ≤ bor := by omega
            have g2 : IntKind.i64.wrap ((k : Int) + 1) = (k : Int) + 1 := IntWalk.i64_in _ (by omega)
            clear ht e5
            go_wp2_with fail
            refine (SW.out (k : Int) _ (Reads.below R5.out HBk.out (Nat.le_refl _)) hbs).mono ?_
            rintro e w8 ⟨rfl, b8⟩
            rw [HT.out]
            have K8 := Lib.hid (HBk.out.trans (b8.mono hbs))
            clear b8
            go_wp2_with fail
            have hgk := Hgk.out
            go_roundg (gk - 1)
            case rel => exact ⟨k + 1, by omega, by omega, by omega, by go_num, K8.out⟩
            case measure => omega
          · have hk3 : ¬ (k : Int) ≤ 60 := by omega
            go_wp2_with fail
            go_ret
            exact ⟨rfl, B5.out.trans (HBk.out.mono hs5)⟩
      · have hw0 := HW.out.2 hc
        subst hw0
        have d0 : (wc2 == 0) = false := beq_eq_false_iff_ne.2 hc
        clear hc HW
        go_wp2_with fail
        go_ret
        exact ⟨rfl, B5.out.trans (K6.out.mono hs5)⟩
end Go.Proofs.YtngbdjbgbjbjaaaGreatDoor
