/- The walk of the law 'FnRopeTests': whatever the input, it returns true, and nothing that was there has turned. -/
import Derived.Test.YtppbfdlgpehanaaRf
import Derived.Deep.DeepCutAuto
import Derived.BigQuiet
namespace Go.Proofs.Ytppbfdlgpehanaa
open Go.RowKit
set_option maxRecDepth 100000
set_option linter.unusedVariables false
set_option linter.unusedSimpArgs false

set_option maxHeartbeats 16000000 in
theorem FnRopeTests_walk (A0 : Option Addr) (n0 c0 : Nat) (z0 : List Int) (A1 : Option Addr) (n1 c1 : Nat) (z1 : List Int) (w : World) (h0 : Bytz w w.heap.size A0 n0 z0) (hc0 : n0 ≤ c0) (hm0 : c0 ≤ maxLen) (hz0 : True) (h1 : Bytz w w.heap.size A1 n1 z1) (hc1 : n1 ≤ c1) (hm1 : c1 ≤ maxLen) (hz1 : True) :
    Calls Try.prog 3 #[.slice A0 n0 c0, .slice A1 n1 c1] w fun e w' => e = .returned (.bool true) ∧ Below w.heap.size w w' := by
  obtain ⟨i0, hi, hz0', hz1', hz2'⟩ := info_parts info_int
  by_cases hl0 : 1048576 < n0
  · have Hd0 : Hid (decide (1048576 < n0) = true) := Lib.hid (decide_eq_true hl0)
    clear hl0
    go_enter Try.func3, Try.ntmps3
    go_wp2_with (go_at_call 4; refine b10Long_any.mono ?_; rintro e w' ⟨rfl, rfl⟩; rw [Hd0.out])
    go_ret
    exact ⟨rfl, Below.refl _ _⟩
  have Hd0 : Hid (decide (1048576 < n0) = false) := Lib.hid (decide_eq_false hl0)
  by_cases hl1 : 1048576 < n1
  · have Hd1 : Hid (decide (1048576 < n1) = true) := Lib.hid (decide_eq_true hl1)
    clear hl0 hl1
    go_enter Try.func3, Try.ntmps3
    go_wp2_with (go_at_call 4; refine b10Long_any.mono ?_; rintro e w' ⟨rfl, rfl⟩; first | rw [Hd0.out] | rw [Hd1.out])
    go_ret
    exact ⟨rfl, Below.refl _ _⟩
  have Hd1 : Hid (decide (1048576 < n1) = false) := Lib.hid (decide_eq_false hl1)
  have hn0 : n0 ≤ 1048576 := by omega
  have hn1 : n1 ≤ 1048576 := by omega
  have H0 := Lib.hid h0
  have H1 := Lib.hid h1
  clear h0 h1 hl0 hl1 hm0 hm1 hz0 hz1 hc0 hc1
  go_enter Try.func3, Try.ntmps3
  go_wp2_with (go_at_call 4; refine b10Long_any.mono ?_; rintro e w' ⟨rfl, rfl⟩; first | rw [Hd0.out] | rw [Hd1.out])
  refine (drawStrengthLeft_any H0.out hn0).mono ?_
  rintro e w1 ⟨r0, r1, r2, r3, A2, c2, xs, x, rfl, hx, o1, b1⟩
  obtain ⟨ln, hln⟩ : ∃ ln, xs.length = ln := ⟨_, rfl⟩
  have Hln := Lib.hid hln
  rw [hln] at hx o1 ⊢
  clear hln
  have hcap := o1.cap
  have O2 := Lib.hid (o1.alloc (.cells #[.int .i64 r0, .int .i64 r1, .int .i64 r2, .int .i64 r3] 25))
  have hs1 := b1.size
  have B2 := Lib.hid (b1.alloc hs1 (.cells #[.int .i64 r0, .int .i64 r1, .int .i64 r2, .int .i64 r3] 25))
  have M2 := Lib.hid (hc_new w1 [.int .i64 r0, .int .i64 r1, .int .i64 r2, .int .i64 r3] 25)
  clear o1 b1
  have y0 : (w1.alloc (.cells #[.int .i64 r0, .int .i64 r1, .int .i64 r2, .int .i64 r3] 25)).cell? ⟨w1.heap.size, 0, none⟩ = some (.int .i64 r0) := M2.out.at_ 0 _ rfl
  have y1 : (w1.alloc (.cells #[.int .i64 r0, .int .i64 r1, .int .i64 r2, .int .i64 r3] 25)).cell? ⟨w1.heap.size, 1, none⟩ = some (.int .i64 r1) := M2.out.at_ 1 _ rfl
  have y2 : (w1.alloc (.cells #[.int .i64 r0, .int .i64 r1, .int .i64 r2, .int .i64 r3] 25)).cell? ⟨w1.heap.size, 2, none⟩ = some (.int .i64 r2) := M2.out.at_ 2 _ rfl
  have y3 : (w1.alloc (.cells #[.int .i64 r0, .int .i64 r1, .int .i64 r2, .int .i64 r3] 25)).cell? ⟨w1.heap.size, 3, none⟩ = some (.int .i64 r3) := M2.out.at_ 3 _ rfl
  go_wp2_with fail
  generalize w1.alloc (.cells #[.int .i64 r0, .int .i64 r1, .int .i64 r2, .int .i64 r3] 25) = w2 at *
  generalize w1.heap.size = px at *
  have hpx := M2.out.lt
  refine (implStrengthLeft_any O2.out.reads (Nat.le_refl _) hcap (by omega)).mono ?_
  rintro e w3 ⟨rfl, b3⟩
  have hs2 := B2.out.size
  have B3 := Lib.hid (B2.out.trans (b3.mono hs2))
  have M3 := Lib.hid (M2.out.below b3 hpx)
  have O3 := Lib.hid (O2.out.below b3)
  clear b3 y0 y1 y2 y3 M2 O2 B2 hs2
  obtain ⟨L, hL⟩ : ∃ L, (rStrengthLeft r0 r1 r2 r3 xs x).1 = L := ⟨_, rfl⟩
  obtain ⟨cd, hcd⟩ : ∃ cd, (rStrengthLeft r0 r1 r2 r3 xs x).2 = cd := ⟨_, rfl⟩
  rw [hL, hcd]
  have HLv := Lib.hid hL
  have Hcd := Lib.hid hcd
  clear hL hcd
  go_upto_if 47 with fail
  go_cut [] (fun wx => Below w.heap.size w wx)
  case first =>
    by_cases hc : cd = 0
    · subst hc
      obtain ⟨W, rfl, hW1, hWn, hn60, h2, h3, hz, e1, eB, eW, eM, eC⟩ := rope_facts Hcd.out
      have hzz : ∀ z ∈ xs, 0 ≤ z ∧ z ≤ 1000000000 := fun z hm => by have := hz z hm; omega
      have hMb := most_bd (wide := W) hzz (by omega)
      have hlf := left_facts h2 h3 hMb.1
      have hLL : L = leftR r2 r3 (mostOf (sumsR xs W)) := by rw [← HLv.out]; exact e1
      rw [← hLL] at hlf eM
      have hpl := placeOf_lt (zs := sumsR xs W) (by rw [sumsR_len]; omega)
      have HSn : Hid (∀ i, i < xs.length - W + 1 → nth (sumsR xs W) i = ((xs.drop i).take W).sum) := Lib.hid (fun i h => sums_nth h)
      have HSl : Hid ((sumsR xs W).length = xs.length - W + 1) := Lib.hid (sumsR_len xs W)
      have HSp : Hid (nth (sumsR xs W) (placeOf (sumsR xs W)) = mostOf (sumsR xs W)) := Lib.hid rfl
      have HSg : Hid (∀ j, j < xs.length - W + 1 → nth (sumsR xs W) j ≤ mostOf (sumsR xs W)) := Lib.hid (fun j h => (bestTo_spec (sumsR xs W) (sumsR xs W).length).1 j (by rw [sumsR_len]; exact h))
      have HSx : Hid (∀ j, j < placeOf (sumsR xs W) → nth (sumsR xs W) j < mostOf (sumsR xs W)) := Lib.hid (fun j h => (bestTo_spec (sumsR xs W) (sumsR xs W).length).2 j h)
      rw [sumsR_len] at hpl
      clear hLL e1 HLv Hcd
      generalize sumsR xs W = sm at *
      generalize mostOf sm = M at *
      generalize placeOf sm = p at *
      have Hzz := Lib.hid hzz
      have HB := Lib.hid eB
      have HW := Lib.hid eW
      have HMr := Lib.hid eM
      have HCo := Lib.hid eC
      clear hz hzz eB eW eM eC
      have hln := Hln.out
      rw [hln] at hpl HSn HSl HSg HCo hWn hn60
      clear hln
      obtain ⟨N, hN⟩ : ∃ N, ln - W + 1 = N := ⟨_, rfl⟩
      rw [hN] at hpl HSn HSl HSg
      have hr0 : (0 : Int) ≤ L := hlf.1
      have hr1 : L ≤ 10000000 := hlf.2.1
      go_wp2_with fail
      refine (implBrokenIn_any (zs := xs) (wide := (W : Int)) O3.out.reads (Nat.le_refl _) hcap (by omega)).mono ?_
      rintro e w4 ⟨A4, n4, c4, rfl, hn4, o4, b4⟩
      rw [HB.out] at o4
      change Own w4 _ _ 1 A4 n4 c4 (sm.map (Value.int .i64)) at o4
      rw [HB.out]
      have hn4N : n4 = N := by have := o4.len; rw [List.length_map] at this; have := HSl.out; omega
      subst hn4N
      have hs3 := B3.out.size
      have B4 := Lib.hid (B3.out.trans (b4.mono hs3))
      have hlt3 := M3.out.lt
      have M4 := Lib.hid (M3.out.below b4 hlt3)
      have R4 : Hid (Ints w4 w3.heap.size A2 ln xs) := Lib.hid (Reads.below O3.out.reads b4 (Nat.le_refl _))
      have hs34 := b4.size
      have S4 : Hid (Ints w4 w4.heap.size A4 n4 sm) := Lib.hid o4.reads
      clear o4 b4 B3 M3 O3
      go_wp2_with fail
      refine (implWorstSpot_any (zs := xs) (wide := (W : Int)) R4.out hs34 hcap (by omega)).mono ?_
      rintro e w5 ⟨rfl, b5⟩
      rw [HW.out]
      have hs4 := B4.out.size
      have B5 := Lib.hid (B4.out.trans (b5.mono hs4))
      have hlt4 := M4.out.lt
      have M5 := Lib.hid (M4.out.below b5 hlt4)
      have R5 : Hid (Ints w5 w3.heap.size A2 ln xs) := Lib.hid (Reads.below R4.out b5 hs34)
      have S5 : Hid (Ints w5 w4.heap.size A4 n4 sm) := Lib.hid (Reads.below S4.out b5 (Nat.le_refl _))
      have hs45 := b5.size
      clear b5 B4 M4 R4 S4
      obtain ⟨a4, rfl, hbl4, hcp⟩ := S5.out.at_ hpl
      rw [HSp.out] at hcp
      have c1 : ¬ L < 0 := by omega
      have c2' : ¬ 10000000 < L := by omega
      have c3 : ¬ (W : Int) < 1 := by omega
      have q1 : IntKind.i64.wrap ((ln : Int) - (W : Int)) = (ln : Int) - (W : Int) := IntWalk.i64_in _ (by omega)
      have q2 : IntKind.i64.wrap ((ln : Int) - (W : Int) + 1) = (n4 : Int) := by rw [IntWalk.i64_in _ (by omega)]; omega
      have c4' : ¬ (p : Int) < 0 := by omega
      have c5 : ¬ (n4 : Int) ≤ (p : Int) := by omega
      have p0 : (0 : Int) ≤ (p : Int) := by omega
      have p1 : (p : Int) < (n4 : Int) := by omega
      have d1 : decide (L < 0) = false := decide_eq_false c1
      have d2 : decide (10000000 < L) = false := decide_eq_false c2'
      have d3 : decide ((W : Int) < 1) = false := decide_eq_false c3
      have d4 : decide ((p : Int) < 0) = false := decide_eq_false c4'
      have d5 : decide (n4 ≤ p) = false := decide_eq_false (by omega)
      have Hq1 := Lib.hid q1
      have Hq2 := Lib.hid q2
      go_wp2_with fail
      clear hcp c1 c2' c3 c4' c5 p0 p1 q1 q2 d1 d2 d3 d4 d5
      go_loopg [15] n4 (fun gk vi wr => ∃ i : Nat, i ≤ n4 ∧ gk + i = n4 ∧ vi = .int .i64 (i : Int) ∧ Below w5.heap.size w5 wr)
      case atStart => exact ⟨0, by omega, by omega, rfl, Below.refl _ _⟩
      case round =>
        obtain ⟨i, hil, hgk, rfl, hbr⟩ := hrel
        have Hgk := Lib.hid hgk
        have Hbr := Lib.hid hbr
        clear hgk hbr
        by_cases hlt : i < n4
        · obtain ⟨a5, e5, hbl5, hci⟩ := S5.out.at_ hlt
          injection e5 with e5
          subst e5
          have hci2 := (Hbr.out.cell (p := a4.add i) (by rw [block_of_add]; omega)).trans hci
          have hwi : i + W ≤ ln := by omega
          have hpart : Ints wr w3.heap.size (A2.map (·.add i)) W ((xs.drop i).take W) := Ints.part (Reads.below R5.out Hbr.out (by omega)) hwi
          have hsv := HSn.out i hlt
          have HC : Hid (∀ d c', Calls Try.prog 9 #[.slice (A2.map (·.add i)) W c'] (wr.drewN d) fun e w' => e = .returned (.int .i64 (nth sm i)) ∧ wr.drewN d = w') := Lib.hid (fun d c' => by
            rw [hsv]
            exact b10Sum_any (B := w3.heap.size) (w := wr.drewN d) (show Ints (wr.drewN d) w3.heap.size (A2.map (·.add i)) W ((xs.drop i).take W) from hpart) (by omega) (fun z hm => Hzz.out z (List.mem_of_mem_drop (List.mem_of_mem_take hm))))
          have hsM := HSg.out i hlt
          have HsX := HSx.out i
          clear hsv hci hpart
          generalize nth sm i = sv at *
          have hi0 : (0 : Int) ≤ (i : Int) := by omega
          have hi1 : (i : Int) < (n4 : Int) := by omega
          have hi2 : (i : Int) ≤ (i : Int) + (W : Int) := by omega
          have hi3 : (i : Int) + (W : Int) ≤ (c2 : Int) := by omega
          have hi4 : (i : Int) + (W : Int) ≤ (ln : Int) := by omega
          have qi : IntKind.i64.wrap ((i : Int) + 1) = (i : Int) + 1 := IntWalk.i64_in _ (by omega)
          have qw : IntKind.i64.wrap ((i : Int) + (W : Int)) = (i : Int) + (W : Int) := IntWalk.i64_in _ (by omega)
          have hgt : ¬ M < sv := by omega
          have hgtd : decide (M < sv) = false := decide_eq_false hgt
          have hss : (sv != sv) = false := by simp
          by_cases hip : i < p
          · have hip1 : (i : Int) < (p : Int) := by omega
            have hip2 : decide (i < p) = true := decide_eq_true hip
            have hne : (sv == M) = false := by rw [beq_eq_false_iff_ne]; have := HsX hip; omega
            clear HsX hsM hgt
            go_wp2_with fail
            go_quiet ((go_at_call 9; exact quiet_left (HC.out _ _)))
            go_wp2_with fail
            have hgk := Hgk.out
            have hbr := Hbr.out
            go_roundg (gk - 1)
            case rel => exact ⟨i + 1, by omega, by omega, by go_num, below_drewN hbr _⟩
            case measure => omega
          · have hip2 : decide (i < p) = false := decide_eq_false hip
            have hip1 : ¬ (i : Int) < (p : Int) := by omega
            clear HsX hsM hgt
            go_wp2_with fail
            go_quiet ((go_at_call 9; exact quiet_left (HC.out _ _)))
            go_wp2_with fail
            have hgk := Hgk.out
            have hbr := Hbr.out
            go_roundg (gk - 1)
            case rel => exact ⟨i + 1, by omega, by omega, by go_num, below_drewN hbr _⟩
            case measure => omega
        · have hie : i = n4 := by omega
          subst hie
          have hd : ¬ (i : Int) < (i : Int) := by omega
          have hlt5 := M5.out.lt
          have M6 := Lib.hid (M5.out.below Hbr.out hlt5)
          have y2 : wr.cell? ⟨px, 2, none⟩ = some (.int .i64 r2) := M6.out.at_ 2 _ rfl
          have y3 : wr.cell? ⟨px, 3, none⟩ = some (.int .i64 r3) := M6.out.at_ 3 _ rfl
          have y0 : wr.cell? ⟨px, 0, none⟩ = some (.int .i64 r0) := M6.out.at_ 0 _ rfl
          have y1 : wr.cell? ⟨px, 1, none⟩ = some (.int .i64 r1) := M6.out.at_ 1 _ rfl
          have hs5 := B5.out.size
          have B6 := Lib.hid (B5.out.trans (Hbr.out.mono hs5))
          have R6 : Hid (Ints wr w3.heap.size A2 ln xs) := Lib.hid (Reads.below R5.out Hbr.out (by omega))
          have hs6 := Hbr.out.size
          have HLF := Lib.hid hlf
          have qm : IntKind.i64.wrap (r2 - M) = r2 - M := IntWalk.i64_in _ (by omega)
          have hLb : L * r2 ≤ 4000000000 := by have := hlf.2.2.1; omega
          have hL0' : 0 ≤ L * r2 := Int.mul_nonneg hr0 (by omega)
          have hL1e : (L + 1) * r2 = L * r2 + r2 := by rw [Int.add_mul, Int.one_mul]
          have qa : IntKind.i64.wrap (L * r2) = L * r2 := IntWalk.i64_in _ (by omega)
          have qb : IntKind.i64.wrap (L + 1) = L + 1 := IntWalk.i64_in _ (by omega)
          have qc : IntKind.i64.wrap ((L + 1) * r2) = (L + 1) * r2 := IntWalk.i64_in _ (by omega)
          have q7 : IntKind.i64.wrap (1000 * L) = 1000 * L := IntWalk.i64_in _ (by omega)
          have q8 : IntKind.i64.wrap (700 * r3) = 700 * r3 := IntWalk.i64_in _ (by omega)
          have hMs : Hid (M = ((xs.drop p).take W).sum) := Lib.hid (by rw [← HSp.out]; exact HSn.out p hpl)
          have hpW : p + W ≤ ln := by omega
          have HC1 : Hid (W = ln → rCutOut xs (W : Int) = ([], 0, 6)) := Lib.hid (fun e => by rw [HCo.out, if_pos e])
          have HC2 : Hid (¬ W = ln → rCutOut xs (W : Int) = (xs.take p ++ xs.drop (p + W), M, 0)) := Lib.hid (fun e => by rw [HCo.out, if_neg e])
          have hcf := cut_facts (zs := xs) (W := W) (p := p) (by rw [Hln.out]; exact hpW)
          rw [Hln.out, ← hMs.out] at hcf
          have Hcf := Lib.hid hcf
          have HLW : Hid (ln - W + 1 = i) := Lib.hid hN
          clear M5 B5 R5 S5 hcf hN HCo HSn HSg HSx HSp HSl hlf hd hil Hgk
          rcases (show (r2 - M ≤ 0) ∨ (0 < r2 - M) by omega) with hal | hal
          case' inl =>
            have h5 := HLF.out
            rw [show max 0 (r2 - M) = 0 by omega, Int.mul_zero] at h5
            have f1 : ¬ 0 < L * r2 := by omega
            have f2 : ¬ (L + 1) * r2 ≤ 0 := by omega
            have f3 : decide (0 < L * r2) = false := decide_eq_false f1
            have f4 : decide ((L + 1) * r2 ≤ 0) = false := decide_eq_false f2
            clear h5 hL1e hLb hL0'
            go_wp2_with fail
          case' inr =>
            have h5 := HLF.out
            rw [show max 0 (r2 - M) = r2 - M by omega] at h5
            have f1 : ¬ r3 * (r2 - M) < L * r2 := by omega
            have f2 : ¬ (L + 1) * r2 ≤ r3 * (r2 - M) := by omega
            have f3 : decide (r3 * (r2 - M) < L * r2) = false := decide_eq_false f1
            have f4 : decide ((L + 1) * r2 ≤ r3 * (r2 - M)) = false := decide_eq_false f2
            have qr : IntKind.i64.wrap (r3 * (r2 - M)) = r3 * (r2 - M) := IntWalk.i64_in _ (by omega)
            clear h5 hL1e hLb hL0'
            go_wp2_with fail
          all_goals
            clear f1 f2 f3 f4 qa qb qc qm hal
            try clear qr
            refine (implMustReplace_any (zs := xs) (wide := (W : Int)) (share := 700) R6.out (by omega) hcap (by omega)).mono ?_
            rintro e w7 ⟨rfl, b7⟩
            rw [HMr.out]
            have hs6b := B6.out.size
            have hlt6 := M6.out.lt
            have B7 := Lib.hid (B6.out.trans (b7.mono hs6b))
            have M7 := Lib.hid (M6.out.below b7 hlt6)
            have R7 : Hid (Ints w7 w3.heap.size A2 ln xs) := Lib.hid (Reads.below R6.out b7 (by omega))
            have hs7 := b7.size
            clear b7 y0 y1 y2 y3 B6 M6 R6
            have y3 : w7.cell? ⟨px, 3, none⟩ = some (.int .i64 r3) := M7.out.at_ 3 _ rfl
            have hbb : (decide (1000 * L < 700 * r3) != decide (1000 * L < 700 * r3)) = false := by simp
            go_wp2_with fail
            refine (implCutOut_any (zs := xs) (wide := (W : Int)) R7.out (by omega) hcap (by omega)).mono ?_
            rintro e w8 ⟨A8, n8, c8, rfl, hn8, o8, b8⟩
            have hs7b := B7.out.size
            have hlt7 := M7.out.lt
            have B8 := Lib.hid (B7.out.trans (b8.mono hs7b))
            have z3 : w8.cell? ⟨px, 3, none⟩ = some (.int .i64 r3) := (M7.out.below b8 hlt7).at_ 3 _ rfl
            have R8 : Hid (Ints w8 w3.heap.size A2 ln xs) := Lib.hid (Reads.below R7.out b8 (by omega))
            by_cases hWl : W = ln
            · rw [HC1.out hWl] at o8
              rw [HC1.out hWl]
              have hw1 : ¬ (W : Int) < (ln : Int) := by omega
              have hw2 : decide (W < ln) = false := decide_eq_false (by omega)
              have HWl := Lib.hid hWl
              clear o8 b8 B7 M7 R7 hWl y3
              go_wp2_with fail
              go_meet
              exact B8.out
            · rw [HC2.out hWl] at o8
              rw [HC2.out hWl]
              change Own w8 _ _ 1 A8 n8 c8 ((xs.take p ++ xs.drop (p + W)).map (Value.int .i64)) at o8
              have hlenr := o8.len
              rw [List.length_map, Nat.mul_one] at hlenr
              have hcf := Hcf.out
              have hmem : ∀ z ∈ xs.take p ++ xs.drop (p + W), 0 ≤ z ∧ z ≤ 1000000000 := fun z hm => by
                rw [List.mem_append] at hm
                rcases hm with hm | hm
                · exact Hzz.out z (List.mem_of_mem_take hm)
                · exact Hzz.out z (List.mem_of_mem_drop hm)
              have hS1b := sum_bd hmem (xs.take p ++ xs.drop (p + W)).length
              rw [List.take_of_length_le (Nat.le_refl _)] at hS1b
              have HS1 : Hid (Calls Try.prog 9 #[.slice A8 n8 c8] w8 fun e w' => e = .returned (.int .i64 (xs.take p ++ xs.drop (p + W)).sum) ∧ w8 = w') := Lib.hid (b10Sum_any o8.reads hn8 hmem)
              have HS2 : Hid (Calls Try.prog 9 #[.slice A2 ln c2] w8 fun e w' => e = .returned (.int .i64 xs.sum) ∧ w8 = w') := Lib.hid (b10Sum_any R8.out (by omega) Hzz.out)
              have hsum : (xs.take p ++ xs.drop (p + W)).sum + M = xs.sum := hcf.2
              have hlen8 : n8 + W = ln := by rw [← hlenr]; exact hcf.1
              rw [hlenr] at hS1b
              generalize (xs.take p ++ xs.drop (p + W)).sum = s1 at *
              generalize xs.sum = s2 at *
              have qs : IntKind.i64.wrap (s1 + M) = s2 := by rw [IntWalk.i64_in _ (by omega)]; exact hsum
              have qn : IntKind.i64.wrap ((n8 : Int) + (W : Int)) = (ln : Int) := by rw [IntWalk.i64_in _ (by omega)]; omega
              have hw1 : (W : Int) < (ln : Int) := by omega
              have hw2 : decide (W < ln) = true := decide_eq_true (by omega)
              have e1 : (M != M) = false := by simp
              have e2 : (s2 != s2) = false := by simp
              have e3 : ((ln : Int) != (ln : Int)) = false := by simp
              clear o8 b8 B7 M7 R7 hWl y3 hcf hmem hS1b hsum hlen8 hlenr
              go_wp2_with (go_at_call 9; first | (with_reducible refine HS1.out.mono ?_; rintro e w' ⟨rfl, rfl⟩) | (with_reducible refine HS2.out.mono ?_; rintro e w' ⟨rfl, rfl⟩))
              go_meet
              exact B8.out
    · have hL0 : L = 0 := by rw [← HLv.out]; exact rope_no (by rw [Hcd.out]; exact hc)
      subst hL0
      have hb0 : (cd == 0) = false := by rw [beq_eq_false_iff_ne]; exact hc
      go_wp2_with fail
      go_meet
      exact B3.out
  case rest =>
    clear HLv Hcd B3 M3 O3 H0 Hd0 Hd1 Hln hx hcap
    have hb := hcut
    have Hb := Lib.hid hb
    have hbs := hb.size
    clear hcut hb
    go_wp2_with fail
    refine (drawNewBroken_any (w := wc) ⟨(Bytz.below H1.out Hb.out (Nat.le_refl _)).1.more hbs, H1.out.2⟩ hn1).mono ?_
    rintro e w4 ⟨Ab, cb, xb, Aa, ca, ya, rfl, hxb, hya, oB, oA, b4⟩
    have B4 := Lib.hid (Hb.out.trans (b4.mono hbs))
    have hs4 := B4.out.size
    have hcapB := oB.cap
    have hcapA := oA.cap
    have RB := Lib.hid oB.reads
    have RA := Lib.hid oA.reads
    clear oB oA b4
    go_wp2_with fail
    refine (implNewBroken_any RB.out (Nat.le_refl _) hcapB (by omega) RA.out (Nat.le_refl _) hcapA (by omega)).mono ?_
    rintro e w5 ⟨Af, nf, cf, rfl, hnf, oF, b5⟩
    have B5 := Lib.hid (B4.out.trans (b5.mono hs4))
    have hs5 := b5.size
    by_cases h6 : (rNewBroken xb ya).2 = 0
    · obtain ⟨hlen, hle, hza, hzb, hnb⟩ := nb_facts h6
      rw [hnb] at oF
      rw [h6]
      have hnf2 : nf = xb.length := by have := oF.len; rw [List.length_map, diffTo_len] at this; omega
      have RF := Lib.hid oF.reads
      have RB5 : Hid (Ints w5 w4.heap.size Ab xb.length xb) := Lib.hid (Reads.below RB.out b5 (Nat.le_refl _))
      have RA5 : Hid (Ints w5 w4.heap.size Aa ya.length ya) := Lib.hid (Reads.below RA.out b5 (Nat.le_refl _))
      have Hle := Lib.hid hle
      have Hza := Lib.hid hza
      have Hzb := Lib.hid hzb
      have Hlb : Hid (ya.length = xb.length) := Lib.hid hlen.symm
      clear hnb h6 oF b5 RB RA hle hza hzb hlen B4
      rw [Hlb.out] at RA5 ⊢
      subst hnf2
      generalize hnn : xb.length = nn at *
      have Hnn := Lib.hid hnn
      clear hnn
      go_wp2_with fail
      go_loopg [26] nn (fun gk vi wr => ∃ i : Nat, i ≤ nn ∧ gk + i = nn ∧ vi = .int .i64 (i : Int) ∧ Below w5.heap.size w5 wr)
      case atStart => exact ⟨0, by omega, by omega, rfl, Below.refl _ _⟩
      case round =>
        obtain ⟨i, hil, hgk, rfl, hbr⟩ := hrel
        have Hgk := Lib.hid hgk
        have Hbr := Lib.hid hbr
        clear hgk hbr
        by_cases hlt : i < nn
        · obtain ⟨af, rfl, hblf, hcf⟩ := (show Ints w5 w5.heap.size Af nn (diffTo xb ya nn) from RF.out).at_ hlt
          obtain ⟨ab, rfl, hblb, hcb⟩ := RB5.out.at_ hlt
          obtain ⟨aa, rfl, hbla, hca⟩ := RA5.out.at_ hlt
          rw [diffTo_nth hlt] at hcf
          have hcf2 := (Hbr.out.cell (p := af.add i) (by rw [block_of_add]; exact hblf)).trans hcf
          have hcb2 := (Hbr.out.cell (p := ab.add i) (by rw [block_of_add]; omega)).trans hcb
          have hca2 := (Hbr.out.cell (p := aa.add i) (by rw [block_of_add]; omega)).trans hca
          have hle1 := Hle.out i (by first | exact hlt | (rw [Hnn.out]; exact hlt))
          have hz1 := Hza.out _ (nth_mem (zs := xb) (k := i) (by rw [Hnn.out]; exact hlt))
          have hz2 := Hzb.out _ (nth_mem (zs := ya) (k := i) (by rw [Hlb.out]; exact hlt))
          clear hcf hcb hca
          generalize nth xb i = p at *
          generalize nth ya i = q at *
          have hi0 : (0 : Int) ≤ (i : Int) := by omega
          have hi1 : (i : Int) < (nn : Int) := by omega
          have qi : IntKind.i64.wrap ((i : Int) + 1) = (i : Int) + 1 := IntWalk.i64_in _ (by omega)
          have qp : IntKind.i64.wrap (p + (q - p)) = q := by rw [IntWalk.i64_in _ (by omega)]; omega
          have hneg : ¬ q - p < 0 := by omega
          have hnegd : decide (q - p < 0) = false := decide_eq_false hneg
          have hqq : (q != q) = false := by simp
          generalize q - p = df at *
          go_wp2_with fail
          go_quiet (fail)
          go_wp2_with fail
          have hgk := Hgk.out
          have hbr := Hbr.out
          go_roundg (gk - 1)
          case rel => exact ⟨i + 1, by omega, by omega, by go_num, below_drewN hbr _⟩
          case measure => omega
        · have hie : i = nn := by omega
          subst hie
          have hd : ¬ (i : Int) < (i : Int) := by omega
          go_wp2_with fail
          go_ret
          exact ⟨rfl, B5.out.trans (Hbr.out.mono (by omega))⟩
    · have hnil := nb_no h6
      rw [hnil] at oF
      have hnf0 : nf = 0 := by have := oF.len; simp at this; omega
      subst hnf0
      have hne6 : ((rNewBroken xb ya).2 != 0) = true := by simp [h6]
      have Hne := Lib.hid hne6
      generalize (rNewBroken xb ya).2 = cz at *
      clear hnil oF b5
      go_wp2_with fail
      go_ret
      exact ⟨rfl, B5.out⟩
end Go.Proofs.Ytppbfdlgpehanaa
