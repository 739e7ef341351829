/- The walk of the law 'FnBasins': whatever the input, it returns true, and nothing that was there has turned. -/
import Derived.Test.YtdighpgfepooaaaBc
import Derived.Test.YtdighpgfepooaaaBd
import Derived.Test.YtdighpgfepooaaaBr
import Derived.Test.YtdighpgfepooaaaPf
import Derived.Test.YtdighpgfepooaaaY
import Derived.Test.YtdighpgfepooaaaDo
import Derived.Test.YtdighpgfepooaaaDp
import Derived.Test.YtdighpgfepooaaaFa
import Derived.Deep.DeepCutAuto
import Derived.BigQuiet
import Derived.BigRegion
namespace Go.Proofs.Ytdighpgfepooaaa
open Go.RowKit
set_option maxRecDepth 100000
set_option linter.unusedVariables false
set_option linter.unusedSimpArgs false

set_option maxHeartbeats 16000000 in
theorem FnBasins_walk (A0 : Option Addr) (n0 c0 : Nat) (z0 : List Int) (A1 : Option Addr) (n1 c1 : Nat) (z1 : List Int) (w : World) (h0 : Bytz w w.heap.size A0 n0 z0) (hc0 : n0 ≤ c0) (hm0 : c0 ≤ maxLen) (hz0 : True) (h1 : Bytz w w.heap.size A1 n1 z1) (hc1 : n1 ≤ c1) (hm1 : c1 ≤ maxLen) (hz1 : True) :
    Calls Try.prog 3 #[.slice A0 n0 c0, .slice A1 n1 c1] w fun e w' => e = .returned (.bool true) ∧ Below w.heap.size w w' := by
  by_cases hl0 : 1048576 < n0
  · have Hd0 : Hid (decide (1048576 < n0) = true) := Lib.hid (decide_eq_true hl0)
    clear hl0
    go_enter Try.func3, Try.ntmps3
    go_wp2_with (go_at_call 4; refine b10Long_any.mono ?_; rintro e w' ⟨rfl, rfl⟩; rw [Hd0.out])
    go_ret
    exact ⟨rfl, Below.refl _ _⟩
  have Hd0 : Hid (decide (1048576 < n0) = false) := Lib.hid (decide_eq_false hl0)
  by_cases hl1 : 1048576 < n1
  · have Hd1 : Hid (decide (1048576 < n1) = true) := Lib.hid (decide_eq_true hl1)
    clear hl0 hl1
    go_enter Try.func3, Try.ntmps3
    go_wp2_with (go_at_call 4; refine b10Long_any.mono ?_; rintro e w' ⟨rfl, rfl⟩; first | rw [Hd0.out] | rw [Hd1.out])
    go_ret
    exact ⟨rfl, Below.refl _ _⟩
  have Hd1 : Hid (decide (1048576 < n1) = false) := Lib.hid (decide_eq_false hl1)
  have hn0 : n0 ≤ 1048576 := by omega
  have hn1 : n1 ≤ 1048576 := by omega
  have H0 := Lib.hid h0
  have H1 := Lib.hid h1
  clear h0 h1 hl0 hl1 hm0 hm1 hz0 hz1 hc0 hc1
  go_enter Try.func3, Try.ntmps3
  go_wp2_with (go_at_call 4; refine b10Long_any.mono ?_; rintro e w' ⟨rfl, rfl⟩; first | rw [Hd0.out] | rw [Hd1.out])
  refine (drawStoreAfter_any H0.out hn0).mono ?_
  rintro e w1 ⟨p0, p1, p2, p3, A2, c2, xs, gap, rfl, hx, o1, b1⟩
  obtain ⟨n, hln⟩ : ∃ n, xs.length = n := ⟨_, rfl⟩
  have Hln := Lib.hid hln
  rw [hln] at hx o1 ⊢
  clear hln
  have R1 : Hid (Ints w1 w1.heap.size A2 n xs) := Lib.hid o1.reads
  have HX := Lib.hid (hc_new w1 [.int .i64 p0, .int .i64 p1, .int .i64 p2, .int .i64 p3] 25)
  have Pre : Hid (Below w1.heap.size w1 (w1.alloc (.cells #[.int .i64 p0, .int .i64 p1, .int .i64 p2, .int .i64 p3] 25))) := Lib.hid ((Below.refl _ _).alloc (Nat.le_refl _) _)
  have B1 := Lib.hid b1
  have hs1 := b1.size
  clear o1 b1
  go_wp2_with fail
  generalize w1.alloc (.cells #[.int .i64 p0, .int .i64 p1, .int .i64 p2, .int .i64 p3] 25) = v1 at *
  have hsv : w1.heap.size < v1.heap.size := HX.out.lt
  refine (implStoreAfter_any (Reads.below R1.out Pre.out (Nat.le_refl _)) (by omega) (by omega)).mono ?_
  rintro e w2 ⟨A3, n3, c3, rfl, hn3, o3, b3⟩
  obtain ⟨st, hst⟩ : ∃ x, (rStoreAfter p0 p1 p2 p3 xs gap).1 = x := ⟨_, rfl⟩
  obtain ⟨one, hone⟩ : ∃ x, (rStoreAfter p0 p1 p2 p3 xs gap).2 = x := ⟨_, rfl⟩
  rw [hst] at o3
  rw [hone]
  have Hst := Lib.hid hst
  have Hone := Lib.hid hone
  have hl3 : st.length = n3 := by have := o3.len; rw [List.length_map] at this; omega
  have R3 : Hid (Ints w2 w2.heap.size A3 n3 st) := Lib.hid o3.reads
  have X2 := Lib.hid (HX.out.below b3 HX.out.lt)
  have R2 := Lib.hid (Reads.below R1.out (Pre.out.trans (b3.mono (by omega))) (Nat.le_refl _))
  have hb2 := B1.out.trans ((Pre.out.trans (b3.mono (by omega))).mono hs1)
  have hs2 := hb2.size
  have hs2v : w1.heap.size ≤ w2.heap.size := by have := b3.size; omega
  have B2 := Lib.hid hb2
  clear hb2
  clear hst hone o3 b3 R1 Pre HX B1
  go_upto_if 60 with fail
  go_cut [] (fun wx => Below w.heap.size w wx)
  case first => as_aux_lemma =>
    by_cases hc : one = 0
    · subst hc
      obtain ⟨hb, hwa, hg, hso⟩ := rSA_zero Hone.out
      rw [Hst.out] at hso
      have hpar := basB_parts hb
      have hw24 := watB_at hwa
      have hgp := inB_true.1 hg
      have hlen : n3 = n := by have := (stA_out _ _ _ _ hso).1; rw [Hln.out] at this; simp at this; omega
      subst hlen
      have hmul0 : 0 ≤ p3 * gap := Int.mul_nonneg hpar.2.2.2.1 hgp.1
      have hmul1 : p3 * gap ≤ 1000 * 1440 := Int.mul_le_mul hpar.2.2.2.2 hgp.2 hgp.1 (by omega)
      have qm : IntKind.i64.wrap (p3 * gap) = p3 * gap := IntWalk.i64_in _ (by omega)
      have hs0 := hpar.2.2.1
      have Hwa : Hid (∀ k, k < n3 → 0 ≤ nth xs k ∧ nth xs k ≤ 20000) := Lib.hid (by have := hw24.2; rw [Hln.out] at this; exact this)
      have Hl3 := Lib.hid hl3
      have Hso := Lib.hid hso
      have y2 : w2.cell? ⟨w1.heap.size, 2, none⟩ = some (.int .i64 p2) := X2.out.at_ 2 _ rfl
      clear hb hwa hg hpar hw24 hgp hl3 hso
      go_wp2_with fail
      go_loopg [10, 11] n3 (fun gk vn vi wr => ∃ (k : Nat) (s : Int), k ≤ n3 ∧ gk + k = n3 ∧ vi = .int .i64 (k : Int) ∧ vn = .int .i64 s ∧ 0 ≤ s ∧ s ≤ 10000000 ∧ stA (p3 * gap) s (st.take k) (xs.drop k) = some st ∧ Below w2.heap.size w2 wr)
      case atStart => exact ⟨0, p2, by omega, by omega, rfl, rfl, hs0.1, hs0.2, by simpa using Hso.out, Below.refl _ _⟩
      case round =>
        obtain ⟨k, s, hk, hgk, rfl, rfl, hs1', hs2', hsk, hbw⟩ := hrel
        have HB := Lib.hid hbw
        clear hbw
        have Hgk := Lib.hid hgk
        have Hsk := Lib.hid hsk
        clear hgk hsk
        have hk0 : (0 : Int) ≤ (k : Int) := by omega
        have qk : IntKind.i64.wrap ((k : Int) + 1) = (k : Int) + 1 := IntWalk.i64_in _ (by omega)
        by_cases hlt : k < n3
        · obtain ⟨adw, rfl, hbw, hcw⟩ := Ints.at_ (Reads.below R2.out HB.out (by omega)) hlt
          obtain ⟨ads, rfl, hbs, hcs⟩ := Ints.at_ (Reads.below R3.out HB.out (Nat.le_refl _)) hlt
          have hx := Hwa.out k hlt
          have hnx := stA_next (by rw [Hln.out]; exact hlt) (by rw [List.length_take, Hl3.out]; omega) Hsk.out
          have htk : st.take (k + 1) = st.take k ++ [nth st k] := take_succ_nth (by rw [Hl3.out]; exact hlt)
          have hin := stN_in (sg := p3 * gap) hmul0 hx.1 hs2' hnx.1
          have HN : Hid (stA (p3 * gap) (nth st k) (st.take (k + 1)) (xs.drop (k + 1)) = some st) := Lib.hid (by rw [htk, hnx.2.1]; exact hnx.2.2.2)
          have hsy := hnx.2.1
          have hsx := hnx.1
          clear hnx htk
          rw [← hsy] at hin
          generalize nth st k = y at *
          generalize nth xs k = x at *
          have d1 : decide (s < x) = false := decide_eq_false hsx
          have q1 : IntKind.i64.wrap (s - x) = s - x := IntWalk.i64_in _ (by omega)
          have q2 : IntKind.i64.wrap (s - x + p3 * gap) = s - x + p3 * gap := IntWalk.i64_in _ (by omega)
          have hk1 : (k : Int) < (n3 : Int) := by omega
          have y3 : wr.cell? ⟨w1.heap.size, 3, none⟩ = some (.int .i64 p3) := (X2.out.below HB.out X2.out.lt).at_ 3 _ rfl
          have hcase : (y = s - x + p3 * gap ∧ s - x + p3 * gap < 10000000) ∨ (y = 10000000 ∧ ¬ s - x + p3 * gap < 10000000) := by
            unfold stN at hsy
            by_cases h : s - x + p3 * gap < 10000000
            · rw [if_pos h] at hsy; exact .inl ⟨hsy, h⟩
            · rw [if_neg h] at hsy; exact .inr ⟨hsy, h⟩
          clear hsy hsx
          rcases hcase with ⟨hy, hm⟩ | ⟨hy, hm⟩
          all_goals
            subst hy
            go_wp2_with fail
            go_quiet (fail)
            go_wp2_with fail
            have hgk := Hgk.out
            go_roundg (gk - 1)
            case rel => exact ⟨k + 1, _, by omega, by omega, by go_num, rfl, by omega, by omega, HN.out, below_drewN HB.out nq⟩
            case measure => omega
        · have hk1 : ¬ (k : Int) < (n3 : Int) := by omega
          go_wp2_with fail
          go_meet
          exact B2.out.trans (HB.out.mono (by omega))
    · have hnil := rSA_not (by rw [Hone.out]; exact hc)
      rw [Hst.out] at hnil
      subst hnil
      have hn30 : n3 = 0 := by simp at hl3; omega
      subst hn30
      have d1 : (one == 0) = false := beq_eq_false_iff_ne.2 hc
      clear hc
      go_wp2_with fail
      go_meet
      exact B2.out
  case rest => as_aux_lemma =>
    have hb := hcut
    clear hcut X2 R2 R3 B2 Hst Hone Hln hl3 hs2v hs2 hs1 hsv hx
    have HB := Lib.hid hb
    have hs2 := hb.size
    clear hb
    go_wp2_with fail
    refine (drawGapFor_any ⟨(Bytz.below H1.out HB.out (Nat.le_refl _)).1.more hs2, H1.out.2⟩ hn1).mono ?_
    rintro e w3 ⟨g0, g1, g2, g3, A4, c4, ys, rfl, hy, o4, b4⟩
    obtain ⟨m, hlm⟩ : ∃ m, ys.length = m := ⟨_, rfl⟩
    rw [hlm] at hy o4 ⊢
    clear hlm
    have R4 : Hid (Ints w3 w3.heap.size A4 m ys) := Lib.hid o4.reads
    have HX := Lib.hid (hc_new w3 [.int .i64 g0, .int .i64 g1, .int .i64 g2, .int .i64 g3] 25)
    have Pre : Hid (Below w3.heap.size w3 (w3.alloc (.cells #[.int .i64 g0, .int .i64 g1, .int .i64 g2, .int .i64 g3] 25))) := Lib.hid ((Below.refl _ _).alloc (Nat.le_refl _) _)
    have B4 := Lib.hid (HB.out.trans (b4.mono hs2))
    have hs3 := B4.out.size
    clear o4 b4 HB hs2
    go_wp2_with fail
    generalize w3.alloc (.cells #[.int .i64 g0, .int .i64 g1, .int .i64 g2, .int .i64 g3] 25) = v3 at *
    have hsv : w3.heap.size < v3.heap.size := HX.out.lt
    refine (implGapFor_any (Reads.below R4.out Pre.out (Nat.le_refl _)) (by omega) (by omega)).mono ?_
    rintro e w4 ⟨le, two, rfl, hG, b5⟩
    have X4 := Lib.hid (HX.out.below b5 HX.out.lt)
    have R5 := Lib.hid (Reads.below R4.out (Pre.out.trans (b5.mono (by omega))) (Nat.le_refl _))
    have hb5 := B4.out.trans ((Pre.out.trans (b5.mono (by omega))).mono hs3)
    have hs4v : v3.heap.size ≤ w4.heap.size := b5.size
    have hs4 := hb5.size
    have B5 := Lib.hid hb5
    have HG := Lib.hid hG
    clear b5 hb5 Pre HX B4 R4 hG
    go_upto_if 118 with fail
    go_cut [] (fun wx => Below w.heap.size w wx)
    case first => as_aux_lemma =>
      by_cases hc : two = 0
      · subst hc
        obtain ⟨h0, h1, h2⟩ := gap_codes HG.out
        have hle := (HG.out rfl).2.2.2.1
        have q1 : IntKind.i64.wrap (le - 1) = le - 1 := IntWalk.i64_in _ (by omega)
        have y0 : w4.cell? ⟨w3.heap.size, 0, none⟩ = some (.int .i64 g0) := X4.out.at_ 0 _ rfl
        have y1 : w4.cell? ⟨w3.heap.size, 1, none⟩ = some (.int .i64 g1) := X4.out.at_ 1 _ rfl
        have y2 : w4.cell? ⟨w3.heap.size, 2, none⟩ = some (.int .i64 g2) := X4.out.at_ 2 _ rfl
        have y3 : w4.cell? ⟨w3.heap.size, 3, none⟩ = some (.int .i64 g3) := X4.out.at_ 3 _ rfl
        have H1' := Lib.hid h1
        obtain ⟨four, hfour⟩ : ∃ x, (rStoreAfter g0 g1 g2 g3 ys (le - 1)).2 = x := ⟨_, rfl⟩
        have Hfour := Lib.hid hfour
        rw [hfour] at h2
        clear h1 hfour
        go_wp2_with fail
        refine (specStoreAfter_any R5.out (by omega) (by omega)).mono ?_
        rintro e w5 ⟨A5, n5, c5, rfl, _, _, b6⟩
        rw [H1'.out]
        have X5 := Lib.hid (X4.out.below b6 (by omega))
        have R6 := Lib.hid (Reads.below R5.out b6 (by omega))
        have hs5 := b6.size
        have B6 := Lib.hid (B5.out.trans (b6.mono hs4))
        have z0 : w5.cell? ⟨w3.heap.size, 0, none⟩ = some (.int .i64 g0) := X5.out.at_ 0 _ rfl
        have z1 : w5.cell? ⟨w3.heap.size, 1, none⟩ = some (.int .i64 g1) := X5.out.at_ 1 _ rfl
        have z2 : w5.cell? ⟨w3.heap.size, 2, none⟩ = some (.int .i64 g2) := X5.out.at_ 2 _ rfl
        have z3 : w5.cell? ⟨w3.heap.size, 3, none⟩ = some (.int .i64 g3) := X5.out.at_ 3 _ rfl
        clear b6 y0 y1 y2 y3
        go_wp2_with fail
        refine (specStoreAfter_any R6.out (by omega) (by omega)).mono ?_
        rintro e w6 ⟨A6, n6, c6, rfl, _, _, b7⟩
        rw [Hfour.out]
        have B7 := Lib.hid (B6.out.trans (b7.mono (by omega)))
        clear b7 z0 z1 z2 z3
        have d1 : decide (le < 0) = false := decide_eq_false (by omega)
        have d1' : ¬ le < 0 := by omega
        by_cases hp : 0 < le
        · have d2 : decide (0 < le) = true := decide_eq_true hp
          have d3 : (four == 0) = false := beq_eq_false_iff_ne.2 (h2 hp)
          clear h2
          go_wp2_with fail
          go_meet
          exact B7.out
        · have d2 : decide (0 < le) = false := decide_eq_false hp
          clear h2
          go_wp2_with fail
          go_meet
          exact B7.out
      · have d1 : (two == 0) = false := beq_eq_false_iff_ne.2 hc
        clear hc
        go_wp2_with fail
        go_meet
        exact B5.out
    case rest => as_aux_lemma =>
      have hb := hcut
      clear hcut X4 R5 B5 HG hs4v hs4 hs3 hsv hy
      have HB := Lib.hid hb
      have hs2 := hb.size
      clear hb
      go_wp2_with fail
      refine (drawBalanceGroups_any ⟨(Bytz.below H0.out HB.out (Nat.le_refl _)).1.more hs2, H0.out.2⟩ hn0).mono ?_
      rintro e w5 ⟨A6, c6, ms, room, bud, rfl, hms, o6, b6⟩
      obtain ⟨n, hln⟩ : ∃ n, ms.length = n := ⟨_, rfl⟩
      have Hln := Lib.hid hln
      rw [hln] at hms o6 ⊢
      clear hln
      have hcap := o6.cap
      have R6 : Hid (Ints w5 w5.heap.size A6 n ms) := Lib.hid o6.reads
      have B6 := Lib.hid (HB.out.trans (b6.mono hs2))
      have hs5 := B6.out.size
      clear o6 b6 HB hs2
      go_wp2_with fail
      refine (implBalanceGroups_any R6.out (Nat.le_refl _) hcap (by omega)).mono ?_
      rintro e w6 ⟨A7, n7, c7, rfl, hn7, o7, b7⟩
      have Hbp := Lib.hid (balP ms room bud)
      obtain ⟨r, hr⟩ : ∃ r, rBalanceGroups ms room bud = r := ⟨_, rfl⟩
      rw [hr] at o7 Hbp ⊢
      clear hr
      obtain ⟨cars, off, five⟩ := r
      dsimp only at o7 ⊢
      have hl7 : cars.length = n7 := by have := o7.len; rw [List.length_map] at this; omega
      have R7 : Hid (Ints w6 w6.heap.size A7 n7 cars) := Lib.hid o7.reads
      have R8 := Lib.hid (Reads.below R6.out b7 (Nat.le_refl _))
      have B7 := Lib.hid (B6.out.trans (b7.mono hs5))
      have hs6 := B7.out.size
      have hs65 := b7.size
      clear o7 b7 B6 R6
      go_upto_if 163 with fail
      go_cut [] (fun wx => Below w.heap.size w wx)
      case first => as_aux_lemma =>
        by_cases hc : five = 0
        · subst hc
          obtain ⟨hl10, hmass, hr1, hr2, hlen, hcok, _, _⟩ := Hbp.out.fit rfl
          rw [Hln.out] at hl10
          dsimp only at hlen hcok
          rw [Hln.out, hl7] at hlen
          subst hlen
          have Hl7 := Lib.hid hl7
          have Hcok := Lib.hid hcok
          have Hmass := Lib.hid (mass_at hmass)
          have S0 := Lib.hid (SumP.zero ms cars)
          have hsz7 : ((w6.alloc (.cells #[.int .i64 0, .int .i64 0] 2)).alloc (.cells #[.int .i64 0, .int .i64 0] 2)).heap.size = w6.heap.size + 2 := by simp
          have HS0 : Hid (HC ((w6.alloc (.cells #[.int .i64 0, .int .i64 0] 2)).alloc (.cells #[.int .i64 0, .int .i64 0] 2)) w6.heap.size [.int .i64 0, .int .i64 0]) := Lib.hid ((hc_new w6 [.int .i64 0, .int .i64 0] 2).alloc1 _)
          have HO0 : Hid (HC ((w6.alloc (.cells #[.int .i64 0, .int .i64 0] 2)).alloc (.cells #[.int .i64 0, .int .i64 0] 2)) (w6.heap.size + 1) [.int .i64 0, .int .i64 0]) := Lib.hid (by
            have := hc_new (w6.alloc (.cells #[.int .i64 0, .int .i64 0] 2)) [.int .i64 0, .int .i64 0] 2
            rwa [show (w6.alloc (.cells #[.int .i64 0, .int .i64 0] 2)).heap.size = w6.heap.size + 1 by simp] at this)
          have Pre : Hid (Below w6.heap.size w6 ((w6.alloc (.cells #[.int .i64 0, .int .i64 0] 2)).alloc (.cells #[.int .i64 0, .int .i64 0] 2))) := Lib.hid (((Below.refl _ _).alloc (Nat.le_refl _) _).alloc (by simp) _)
          clear hl7 hcok hmass
          go_wp2_with fail
          generalize (w6.alloc (.cells #[.int .i64 0, .int .i64 0] 2)).alloc (.cells #[.int .i64 0, .int .i64 0] 2) = w7 at *
          go_loopg [28] n7 (fun gk vi wr => ∃ (k : Nat) (s0 s1 q0 q1 : Int), k ≤ n7 ∧ gk + k = n7 ∧ vi = .int .i64 (k : Int) ∧ SumP ms cars k s0 s1 q0 q1 ∧ HC wr w6.heap.size [.int .i64 s0, .int .i64 s1] ∧ HC wr (w6.heap.size + 1) [.int .i64 q0, .int .i64 q1] ∧ Below w6.heap.size w6 wr)
          case atStart => exact ⟨0, 0, 0, 0, 0, by omega, by omega, rfl, S0.out, HS0.out, HO0.out, Pre.out⟩
          case round =>
            clear S0 HS0 HO0 Pre
            obtain ⟨k, s0, s1, q0, q1, hk, hgk, rfl, hS, hs, ho, hbw⟩ := hrel
            have Hgk := Lib.hid hgk
            have HSP := Lib.hid hS
            have HS := Lib.hid hs
            have HO := Lib.hid ho
            have HB := Lib.hid hbw
            have hsb : (0 ≤ s0 ∧ s0 ≤ 100000 * k) ∧ 0 ≤ s1 ∧ s1 ≤ 100000 * k := ⟨hS.b0, hS.b1⟩
            have hqb : (0 ≤ q0 ∧ q0 ≤ 100000 * k) ∧ 0 ≤ q1 ∧ q1 ≤ 100000 * k := ⟨hS.b2, hS.b3⟩
            clear hgk hS hs ho hbw
            have hk0 : (0 : Int) ≤ (k : Int) := by omega
            have qk : IntKind.i64.wrap ((k : Int) + 1) = (k : Int) + 1 := IntWalk.i64_in _ (by omega)
            by_cases hlt : k < n7
            · obtain ⟨adc, rfl, hbc, hcc⟩ := Ints.at_ (Reads.below R7.out HB.out (Nat.le_refl _)) hlt
              obtain ⟨adm, rfl, hbm, hcm⟩ := Ints.at_ (Reads.below R8.out HB.out (by omega)) hlt
              have HM : Hid (∀ W, Below w6.heap.size w6 W → W.cell? (adm.add k) = some (.int .i64 (nth ms k))) := Lib.hid (fun W hW => by
                obtain ⟨ad2, e2, _, h2⟩ := Ints.at_ (Reads.below R8.out hW (by omega)) hlt
                injection e2 with e2
                rw [e2]; exact h2)
              have hx := Hmass.out k (by rw [Hln.out]; exact hlt)
              have hcv := Hcok.out _ (nth_mem (zs := cars) (k := k) (by rw [Hl7.out]; exact hlt))
              have HBit : Hid (∀ W, Below w6.heap.size w6 W → Calls Try.prog 12 #[.slice A1 n1 c1, .int .i64 (k : Int), .int .i64 2] W fun e w' => e = .returned (.int .i64 (bitAt z1 n1 k)) ∧ W = w') := Lib.hid (fun W hW => b10AtV_any (Bytz.below H1.out (B7.out.trans (hW.mono hs6)) (Nat.le_refl _)) hn1 (by omega))
              have HNx := HSP.out.next (b := bitAt z1 n1 k) (by rw [Hln.out]; exact hlt) (by rw [Hl7.out]; exact hlt) hx hcv (bitAt_two z1 n1 k)
              have hbv := bitAt_two z1 n1 k
              have hk1 : (k : Int) < (n7 : Int) := by omega
              have hk10 : k ≤ 10 := by omega
              clear HSP
              generalize nth cars k = cr at *
              generalize nth ms k = x at *
              generalize bitAt z1 n1 k = bb at *
              rcases hcv with rfl | rfl
              · rcases hbv with rfl | rfl
                · as_aux_lemma =>
                  have HN : Hid (SumP ms cars (k + 1) (s0 + x) (s1) (q0 + x) (q1)) := Lib.hid HNx
                  have qs : IntKind.i64.wrap (s0 + x) = s0 + x := IntWalk.i64_in _ (by omega)
                  have qo : IntKind.i64.wrap (q0 + x) = q0 + x := IntWalk.i64_in _ (by omega)
                  clear HNx hsb hqb hx
                  go_wp2_with fail
                  have r1 := cell_regrown hcc
                  have r2 := cell_regrown hcm
                  have r3 := cell_regrown (HS.out.at_ 0 _ rfl)
                  refine wp_region_below_tail 13 (by kernel_rfl) (by kernel_rfl) ?_
                  simp only [List.take_succ_cons, List.take_zero, List.drop_succ_cons, List.drop_zero]
                  repeat (go_big_quiet_step (fail))
                  refine wpQuiet_nil ?_
                  intro _ hw'
                  obtain ⟨⟨dq, osq⟩, hw''⟩ := hw'
                  subst hw''
                  have hbS := below_regrown wr dq osq
                  have HS2 := Lib.hid (HS.out.below hbS HS.out.lt)
                  have HO2 := Lib.hid (HO.out.below hbS HO.out.lt)
                  have HB2 := Lib.hid (HB.out.trans (hbS.mono HB.out.size))
                  clear r1 r2 r3 hbS HS HO HB hcc hcm
                  generalize Sort.grow (redrawn wr dq) osq = W2 at *
                  have e1 : W2.cell? ⟨w6.heap.size, 0, none⟩ = some (.int .i64 s0) := HS2.out.at_ 0 _ rfl
                  have e2 := HS2.out.fz 0
                  have HS3 : Hid (HC (W2.setCell ⟨w6.heap.size, 0, none⟩ (.int .i64 (s0 + x))) w6.heap.size [.int .i64 (s0 + x), .int .i64 (s1)]) := Lib.hid (HS2.out.set (j := 0) (.int .i64 (s0 + x)) (by simp))
                  have HO3 : Hid (HC (W2.setCell ⟨w6.heap.size, 0, none⟩ (.int .i64 (s0 + x))) (w6.heap.size + 1) [.int .i64 (q0), .int .i64 (q1)]) := Lib.hid (HO2.out.touch2 (Touch2.of_set _ w6.heap.size 0 (.int .i64 (s0 + x)) none) (by omega) (fun a e => by cases e))
                  have HB3 : Hid (Below w6.heap.size w6 (W2.setCell ⟨w6.heap.size, 0, none⟩ (.int .i64 (s0 + x)))) := Lib.hid (HB2.out.setCell (p := ⟨w6.heap.size, 0, none⟩) (Nat.le_refl _) _)
                  clear HS2 HO2 HB2
                  go_wp2_with fail
                  clear e1 e2
                  generalize W2.setCell ⟨w6.heap.size, 0, none⟩ (.int .i64 (s0 + x)) = W3 at *
                  have r2 := cell_regrown (HM.out W3 HB3.out)
                  have r3 := cell_regrown (HO3.out.at_ 0 _ rfl)
                  have cA := fun d os => Calls.regrown_of (calls_below (HBit.out _ (HB3.out.trans ((below_regrown W3 d os).mono HB3.out.size))))
                  refine wp_region_below_tail 12 (by kernel_rfl) (by kernel_rfl) ?_
                  simp only [List.take_succ_cons, List.take_zero, List.drop_succ_cons, List.drop_zero]
                  repeat (go_big_quiet_step (exact cA _ _))
                  refine wpQuiet_nil ?_
                  intro _ hw'
                  obtain ⟨⟨dq, osq⟩, hw''⟩ := hw'
                  subst hw''
                  have hbS := below_regrown W3 dq osq
                  have HS4 := Lib.hid (HS3.out.below hbS HS3.out.lt)
                  have HO4 := Lib.hid (HO3.out.below hbS HO3.out.lt)
                  have HB4 := Lib.hid (HB3.out.trans (hbS.mono HB3.out.size))
                  clear r2 r3 cA hbS HS3 HO3 HB3
                  generalize Sort.grow (redrawn W3 dq) osq = W4 at *
                  have e1 : W4.cell? ⟨w6.heap.size + 1, 0, none⟩ = some (.int .i64 q0) := HO4.out.at_ 0 _ rfl
                  have e2 := HO4.out.fz 0
                  have HS5 : Hid (HC (W4.setCell ⟨w6.heap.size + 1, 0, none⟩ (.int .i64 (q0 + x))) w6.heap.size [.int .i64 (s0 + x), .int .i64 (s1)]) := Lib.hid (HS4.out.touch2 (Touch2.of_set _ (w6.heap.size + 1) 0 (.int .i64 (q0 + x)) none) (by omega) (fun a e => by cases e))
                  have HO5 : Hid (HC (W4.setCell ⟨w6.heap.size + 1, 0, none⟩ (.int .i64 (q0 + x))) (w6.heap.size + 1) [.int .i64 (q0 + x), .int .i64 (q1)]) := Lib.hid (HO4.out.set (j := 0) (.int .i64 (q0 + x)) (by simp))
                  have HB5 : Hid (Below w6.heap.size w6 (W4.setCell ⟨w6.heap.size + 1, 0, none⟩ (.int .i64 (q0 + x)))) := Lib.hid (HB4.out.setCell (p := ⟨w6.heap.size + 1, 0, none⟩) (by simp) _)
                  clear HS4 HO4 HB4
                  go_wp2_with fail
                  have hgk := Hgk.out
                  go_roundg (gk - 1)
                  case rel => exact ⟨k + 1, _, _, _, _, by omega, by omega, by go_num, HN.out, HS5.out, HO5.out, HB5.out⟩
                  case measure => omega
                · as_aux_lemma =>
                  have HN : Hid (SumP ms cars (k + 1) (s0 + x) (s1) (q0) (q1 + x)) := Lib.hid HNx
                  have qs : IntKind.i64.wrap (s0 + x) = s0 + x := IntWalk.i64_in _ (by omega)
                  have qo : IntKind.i64.wrap (q1 + x) = q1 + x := IntWalk.i64_in _ (by omega)
                  clear HNx hsb hqb hx
                  go_wp2_with fail
                  have r1 := cell_regrown hcc
                  have r2 := cell_regrown hcm
                  have r3 := cell_regrown (HS.out.at_ 0 _ rfl)
                  refine wp_region_below_tail 13 (by kernel_rfl) (by kernel_rfl) ?_
                  simp only [List.take_succ_cons, List.take_zero, List.drop_succ_cons, List.drop_zero]
                  repeat (go_big_quiet_step (fail))
                  refine wpQuiet_nil ?_
                  intro _ hw'
                  obtain ⟨⟨dq, osq⟩, hw''⟩ := hw'
                  subst hw''
                  have hbS := below_regrown wr dq osq
                  have HS2 := Lib.hid (HS.out.below hbS HS.out.lt)
                  have HO2 := Lib.hid (HO.out.below hbS HO.out.lt)
                  have HB2 := Lib.hid (HB.out.trans (hbS.mono HB.out.size))
                  clear r1 r2 r3 hbS HS HO HB hcc hcm
                  generalize Sort.grow (redrawn wr dq) osq = W2 at *
                  have e1 : W2.cell? ⟨w6.heap.size, 0, none⟩ = some (.int .i64 s0) := HS2.out.at_ 0 _ rfl
                  have e2 := HS2.out.fz 0
                  have HS3 : Hid (HC (W2.setCell ⟨w6.heap.size, 0, none⟩ (.int .i64 (s0 + x))) w6.heap.size [.int .i64 (s0 + x), .int .i64 (s1)]) := Lib.hid (HS2.out.set (j := 0) (.int .i64 (s0 + x)) (by simp))
                  have HO3 : Hid (HC (W2.setCell ⟨w6.heap.size, 0, none⟩ (.int .i64 (s0 + x))) (w6.heap.size + 1) [.int .i64 (q0), .int .i64 (q1)]) := Lib.hid (HO2.out.touch2 (Touch2.of_set _ w6.heap.size 0 (.int .i64 (s0 + x)) none) (by omega) (fun a e => by cases e))
                  have HB3 : Hid (Below w6.heap.size w6 (W2.setCell ⟨w6.heap.size, 0, none⟩ (.int .i64 (s0 + x)))) := Lib.hid (HB2.out.setCell (p := ⟨w6.heap.size, 0, none⟩) (Nat.le_refl _) _)
                  clear HS2 HO2 HB2
                  go_wp2_with fail
                  clear e1 e2
                  generalize W2.setCell ⟨w6.heap.size, 0, none⟩ (.int .i64 (s0 + x)) = W3 at *
                  have r2 := cell_regrown (HM.out W3 HB3.out)
                  have r3 := cell_regrown (HO3.out.at_ 1 _ rfl)
                  have cA := fun d os => Calls.regrown_of (calls_below (HBit.out _ (HB3.out.trans ((below_regrown W3 d os).mono HB3.out.size))))
                  refine wp_region_below_tail 12 (by kernel_rfl) (by kernel_rfl) ?_
                  simp only [List.take_succ_cons, List.take_zero, List.drop_succ_cons, List.drop_zero]
                  repeat (go_big_quiet_step (exact cA _ _))
                  refine wpQuiet_nil ?_
                  intro _ hw'
                  obtain ⟨⟨dq, osq⟩, hw''⟩ := hw'
                  subst hw''
                  have hbS := below_regrown W3 dq osq
                  have HS4 := Lib.hid (HS3.out.below hbS HS3.out.lt)
                  have HO4 := Lib.hid (HO3.out.below hbS HO3.out.lt)
                  have HB4 := Lib.hid (HB3.out.trans (hbS.mono HB3.out.size))
                  clear r2 r3 cA hbS HS3 HO3 HB3
                  generalize Sort.grow (redrawn W3 dq) osq = W4 at *
                  have e1 : W4.cell? ⟨w6.heap.size + 1, 1, none⟩ = some (.int .i64 q1) := HO4.out.at_ 1 _ rfl
                  have e2 := HO4.out.fz 1
                  have HS5 : Hid (HC (W4.setCell ⟨w6.heap.size + 1, 1, none⟩ (.int .i64 (q1 + x))) w6.heap.size [.int .i64 (s0 + x), .int .i64 (s1)]) := Lib.hid (HS4.out.touch2 (Touch2.of_set _ (w6.heap.size + 1) 1 (.int .i64 (q1 + x)) none) (by omega) (fun a e => by cases e))
                  have HO5 : Hid (HC (W4.setCell ⟨w6.heap.size + 1, 1, none⟩ (.int .i64 (q1 + x))) (w6.heap.size + 1) [.int .i64 (q0), .int .i64 (q1 + x)]) := Lib.hid (HO4.out.set (j := 1) (.int .i64 (q1 + x)) (by simp))
                  have HB5 : Hid (Below w6.heap.size w6 (W4.setCell ⟨w6.heap.size + 1, 1, none⟩ (.int .i64 (q1 + x)))) := Lib.hid (HB4.out.setCell (p := ⟨w6.heap.size + 1, 1, none⟩) (by simp) _)
                  clear HS4 HO4 HB4
                  go_wp2_with fail
                  have hgk := Hgk.out
                  go_roundg (gk - 1)
                  case rel => exact ⟨k + 1, _, _, _, _, by omega, by omega, by go_num, HN.out, HS5.out, HO5.out, HB5.out⟩
                  case measure => omega
              · rcases hbv with rfl | rfl
                · as_aux_lemma =>
                  have HN : Hid (SumP ms cars (k + 1) (s0) (s1 + x) (q0 + x) (q1)) := Lib.hid HNx
                  have qs : IntKind.i64.wrap (s1 + x) = s1 + x := IntWalk.i64_in _ (by omega)
                  have qo : IntKind.i64.wrap (q0 + x) = q0 + x := IntWalk.i64_in _ (by omega)
                  clear HNx hsb hqb hx
                  go_wp2_with fail
                  have r1 := cell_regrown hcc
                  have r2 := cell_regrown hcm
                  have r3 := cell_regrown (HS.out.at_ 1 _ rfl)
                  refine wp_region_below_tail 13 (by kernel_rfl) (by kernel_rfl) ?_
                  simp only [List.take_succ_cons, List.take_zero, List.drop_succ_cons, List.drop_zero]
                  repeat (go_big_quiet_step (fail))
                  refine wpQuiet_nil ?_
                  intro _ hw'
                  obtain ⟨⟨dq, osq⟩, hw''⟩ := hw'
                  subst hw''
                  have hbS := below_regrown wr dq osq
                  have HS2 := Lib.hid (HS.out.below hbS HS.out.lt)
                  have HO2 := Lib.hid (HO.out.below hbS HO.out.lt)
                  have HB2 := Lib.hid (HB.out.trans (hbS.mono HB.out.size))
                  clear r1 r2 r3 hbS HS HO HB hcc hcm
                  generalize Sort.grow (redrawn wr dq) osq = W2 at *
                  have e1 : W2.cell? ⟨w6.heap.size, 1, none⟩ = some (.int .i64 s1) := HS2.out.at_ 1 _ rfl
                  have e2 := HS2.out.fz 1
                  have HS3 : Hid (HC (W2.setCell ⟨w6.heap.size, 1, none⟩ (.int .i64 (s1 + x))) w6.heap.size [.int .i64 (s0), .int .i64 (s1 + x)]) := Lib.hid (HS2.out.set (j := 1) (.int .i64 (s1 + x)) (by simp))
                  have HO3 : Hid (HC (W2.setCell ⟨w6.heap.size, 1, none⟩ (.int .i64 (s1 + x))) (w6.heap.size + 1) [.int .i64 (q0), .int .i64 (q1)]) := Lib.hid (HO2.out.touch2 (Touch2.of_set _ w6.heap.size 1 (.int .i64 (s1 + x)) none) (by omega) (fun a e => by cases e))
                  have HB3 : Hid (Below w6.heap.size w6 (W2.setCell ⟨w6.heap.size, 1, none⟩ (.int .i64 (s1 + x)))) := Lib.hid (HB2.out.setCell (p := ⟨w6.heap.size, 1, none⟩) (Nat.le_refl _) _)
                  clear HS2 HO2 HB2
                  go_wp2_with fail
                  clear e1 e2
                  generalize W2.setCell ⟨w6.heap.size, 1, none⟩ (.int .i64 (s1 + x)) = W3 at *
                  have r2 := cell_regrown (HM.out W3 HB3.out)
                  have r3 := cell_regrown (HO3.out.at_ 0 _ rfl)
                  have cA := fun d os => Calls.regrown_of (calls_below (HBit.out _ (HB3.out.trans ((below_regrown W3 d os).mono HB3.out.size))))
                  refine wp_region_below_tail 12 (by kernel_rfl) (by kernel_rfl) ?_
                  simp only [List.take_succ_cons, List.take_zero, List.drop_succ_cons, List.drop_zero]
                  repeat (go_big_quiet_step (exact cA _ _))
                  refine wpQuiet_nil ?_
                  intro _ hw'
                  obtain ⟨⟨dq, osq⟩, hw''⟩ := hw'
                  subst hw''
                  have hbS := below_regrown W3 dq osq
                  have HS4 := Lib.hid (HS3.out.below hbS HS3.out.lt)
                  have HO4 := Lib.hid (HO3.out.below hbS HO3.out.lt)
                  have HB4 := Lib.hid (HB3.out.trans (hbS.mono HB3.out.size))
                  clear r2 r3 cA hbS HS3 HO3 HB3
                  generalize Sort.grow (redrawn W3 dq) osq = W4 at *
                  have e1 : W4.cell? ⟨w6.heap.size + 1, 0, none⟩ = some (.int .i64 q0) := HO4.out.at_ 0 _ rfl
                  have e2 := HO4.out.fz 0
                  have HS5 : Hid (HC (W4.setCell ⟨w6.heap.size + 1, 0, none⟩ (.int .i64 (q0 + x))) w6.heap.size [.int .i64 (s0), .int .i64 (s1 + x)]) := Lib.hid (HS4.out.touch2 (Touch2.of_set _ (w6.heap.size + 1) 0 (.int .i64 (q0 + x)) none) (by omega) (fun a e => by cases e))
                  have HO5 : Hid (HC (W4.setCell ⟨w6.heap.size + 1, 0, none⟩ (.int .i64 (q0 + x))) (w6.heap.size + 1) [.int .i64 (q0 + x), .int .i64 (q1)]) := Lib.hid (HO4.out.set (j := 0) (.int .i64 (q0 + x)) (by simp))
                  have HB5 : Hid (Below w6.heap.size w6 (W4.setCell ⟨w6.heap.size + 1, 0, none⟩ (.int .i64 (q0 + x)))) := Lib.hid (HB4.out.setCell (p := ⟨w6.heap.size + 1, 0, none⟩) (by simp) _)
                  clear HS4 HO4 HB4
                  go_wp2_with fail
                  have hgk := Hgk.out
                  go_roundg (gk - 1)
                  case rel => exact ⟨k + 1, _, _, _, _, by omega, by omega, by go_num, HN.out, HS5.out, HO5.out, HB5.out⟩
                  case measure => omega
                · as_aux_lemma =>
                  have HN : Hid (SumP ms cars (k + 1) (s0) (s1 + x) (q0) (q1 + x)) := Lib.hid HNx
                  have qs : IntKind.i64.wrap (s1 + x) = s1 + x := IntWalk.i64_in _ (by omega)
                  have qo : IntKind.i64.wrap (q1 + x) = q1 + x := IntWalk.i64_in _ (by omega)
                  clear HNx hsb hqb hx
                  go_wp2_with fail
                  have r1 := cell_regrown hcc
                  have r2 := cell_regrown hcm
                  have r3 := cell_regrown (HS.out.at_ 1 _ rfl)
                  refine wp_region_below_tail 13 (by kernel_rfl) (by kernel_rfl) ?_
                  simp only [List.take_succ_cons, List.take_zero, List.drop_succ_cons, List.drop_zero]
                  repeat (go_big_quiet_step (fail))
                  refine wpQuiet_nil ?_
                  intro _ hw'
                  obtain ⟨⟨dq, osq⟩, hw''⟩ := hw'
                  subst hw''
                  have hbS := below_regrown wr dq osq
                  have HS2 := Lib.hid (HS.out.below hbS HS.out.lt)
                  have HO2 := Lib.hid (HO.out.below hbS HO.out.lt)
                  have HB2 := Lib.hid (HB.out.trans (hbS.mono HB.out.size))
                  clear r1 r2 r3 hbS HS HO HB hcc hcm
                  generalize Sort.grow (redrawn wr dq) osq = W2 at *
                  have e1 : W2.cell? ⟨w6.heap.size, 1, none⟩ = some (.int .i64 s1) := HS2.out.at_ 1 _ rfl
                  have e2 := HS2.out.fz 1
                  have HS3 : Hid (HC (W2.setCell ⟨w6.heap.size, 1, none⟩ (.int .i64 (s1 + x))) w6.heap.size [.int .i64 (s0), .int .i64 (s1 + x)]) := Lib.hid (HS2.out.set (j := 1) (.int .i64 (s1 + x)) (by simp))
                  have HO3 : Hid (HC (W2.setCell ⟨w6.heap.size, 1, none⟩ (.int .i64 (s1 + x))) (w6.heap.size + 1) [.int .i64 (q0), .int .i64 (q1)]) := Lib.hid (HO2.out.touch2 (Touch2.of_set _ w6.heap.size 1 (.int .i64 (s1 + x)) none) (by omega) (fun a e => by cases e))
                  have HB3 : Hid (Below w6.heap.size w6 (W2.setCell ⟨w6.heap.size, 1, none⟩ (.int .i64 (s1 + x)))) := Lib.hid (HB2.out.setCell (p := ⟨w6.heap.size, 1, none⟩) (Nat.le_refl _) _)
                  clear HS2 HO2 HB2
                  go_wp2_with fail
                  clear e1 e2
                  generalize W2.setCell ⟨w6.heap.size, 1, none⟩ (.int .i64 (s1 + x)) = W3 at *
                  have r2 := cell_regrown (HM.out W3 HB3.out)
                  have r3 := cell_regrown (HO3.out.at_ 1 _ rfl)
                  have cA := fun d os => Calls.regrown_of (calls_below (HBit.out _ (HB3.out.trans ((below_regrown W3 d os).mono HB3.out.size))))
                  refine wp_region_below_tail 12 (by kernel_rfl) (by kernel_rfl) ?_
                  simp only [List.take_succ_cons, List.take_zero, List.drop_succ_cons, List.drop_zero]
                  repeat (go_big_quiet_step (exact cA _ _))
                  refine wpQuiet_nil ?_
                  intro _ hw'
                  obtain ⟨⟨dq, osq⟩, hw''⟩ := hw'
                  subst hw''
                  have hbS := below_regrown W3 dq osq
                  have HS4 := Lib.hid (HS3.out.below hbS HS3.out.lt)
                  have HO4 := Lib.hid (HO3.out.below hbS HO3.out.lt)
                  have HB4 := Lib.hid (HB3.out.trans (hbS.mono HB3.out.size))
                  clear r2 r3 cA hbS HS3 HO3 HB3
                  generalize Sort.grow (redrawn W3 dq) osq = W4 at *
                  have e1 : W4.cell? ⟨w6.heap.size + 1, 1, none⟩ = some (.int .i64 q1) := HO4.out.at_ 1 _ rfl
                  have e2 := HO4.out.fz 1
                  have HS5 : Hid (HC (W4.setCell ⟨w6.heap.size + 1, 1, none⟩ (.int .i64 (q1 + x))) w6.heap.size [.int .i64 (s0), .int .i64 (s1 + x)]) := Lib.hid (HS4.out.touch2 (Touch2.of_set _ (w6.heap.size + 1) 1 (.int .i64 (q1 + x)) none) (by omega) (fun a e => by cases e))
                  have HO5 : Hid (HC (W4.setCell ⟨w6.heap.size + 1, 1, none⟩ (.int .i64 (q1 + x))) (w6.heap.size + 1) [.int .i64 (q0), .int .i64 (q1 + x)]) := Lib.hid (HO4.out.set (j := 1) (.int .i64 (q1 + x)) (by simp))
                  have HB5 : Hid (Below w6.heap.size w6 (W4.setCell ⟨w6.heap.size + 1, 1, none⟩ (.int .i64 (q1 + x)))) := Lib.hid (HB4.out.setCell (p := ⟨w6.heap.size + 1, 1, none⟩) (by simp) _)
                  clear HS4 HO4 HB4
                  go_wp2_with fail
                  have hgk := Hgk.out
                  go_roundg (gk - 1)
                  case rel => exact ⟨k + 1, _, _, _, _, by omega, by omega, by go_num, HN.out, HS5.out, HO5.out, HB5.out⟩
                  case measure => omega
            · have hkn : k = n7 := by omega
              subst hkn
              obtain ⟨f1, f2, f3, f4⟩ := HSP.out.fin Hbp.out rfl Hln.out
              dsimp only at f3 f4
              have hk1 : ¬ (k : Int) < (k : Int) := by omega
              have d1 : decide (room < s0) = false := decide_eq_false (by omega)
              have d2 : decide (room < s1) = false := decide_eq_false (by omega)
              have q1' : IntKind.i64.wrap (s0 - s1) = s0 - s1 := IntWalk.i64_in _ (by omega)
              have q2' : IntKind.i64.wrap (q0 - q1) = q0 - q1 := IntWalk.i64_in _ (by omega)
              have c1' : ∀ W, Calls Try.prog 13 #[.int .i64 (s0 - s1)] W fun e w' => e = .returned (.int .i64 off) ∧ W = w' := fun W => by
                have := b10Abs_any (a := s0 - s1) (w := W) (by omega) (by omega)
                rwa [f3] at this
              obtain ⟨ab, hab⟩ : ∃ ab, absB (q0 - q1) = ab := ⟨_, rfl⟩
              have c2' : ∀ W, Calls Try.prog 13 #[.int .i64 (q0 - q1)] W fun e w' => e = .returned (.int .i64 ab) ∧ W = w' := fun W => by
                have := b10Abs_any (a := q0 - q1) (w := W) (by omega) (by omega)
                rwa [hab] at this
              rw [hab] at f4
              have BF := Lib.hid (B7.out.trans (HB.out.mono hs6))
              have x0 : wr.cell? ⟨w6.heap.size, 0, none⟩ = some (.int .i64 s0) := HS.out.at_ 0 _ rfl
              have x1 : wr.cell? ⟨w6.heap.size, 1, none⟩ = some (.int .i64 s1) := HS.out.at_ 1 _ rfl
              have y0 : wr.cell? ⟨w6.heap.size + 1, 0, none⟩ = some (.int .i64 q0) := HO.out.at_ 0 _ rfl
              have y1 : wr.cell? ⟨w6.heap.size + 1, 1, none⟩ = some (.int .i64 q1) := HO.out.at_ 1 _ rfl
              clear HS HO HB HSP f1 f2 f3 hab hsb hqb
              have hcs : (decide (q0 ≤ room) = true ∧ decide (q1 ≤ room) = true ∧ decide (ab < off) = false) ∨ (decide (q0 ≤ room) = true ∧ decide (q1 ≤ room) = false) ∨ decide (q0 ≤ room) = false := by
                by_cases g0 : q0 ≤ room
                · by_cases g1 : q1 ≤ room
                  · exact .inl ⟨decide_eq_true g0, decide_eq_true g1, decide_eq_false (by have := f4 g0 g1; omega)⟩
                  · exact .inr (.inl ⟨decide_eq_true g0, decide_eq_false g1⟩)
                · exact .inr (.inr (decide_eq_false g0))
              clear f4
              rcases hcs with ⟨d3, d4, d5⟩ | ⟨d3, d4⟩ | d3
              all_goals
                as_aux_lemma =>
                  go_wp2_with fail
                  go_quiet ((first | exact quiet_left (c1' _) | exact quiet_left (c2' _)))
                  have BF2 := Lib.hid (below_drewN BF.out nq)
                  go_wp2_with fail
                  go_meet
                  exact BF2.out
        · have hnil := Hbp.out.no hc
          dsimp only at hnil
          obtain ⟨rfl, rfl⟩ := hnil
          have hn70 : n7 = 0 := by simp at hl7; omega
          subst hn70
          have d1 : (five == 0) = false := beq_eq_false_iff_ne.2 hc
          clear hc
          go_wp2_with fail
          go_meet
          exact B7.out
      case rest => as_aux_lemma =>
        have hb := hcut
        clear hcut R7 R8 B7 Hbp Hln hl7 hn7 hms hcap hs5 hs6 hs65
        have HB := Lib.hid hb
        have hs2 := hb.size
        clear hb
        go_wp2_with fail
        refine (drawTripsUntilDry_any ⟨(Bytz.below H1.out HB.out (Nat.le_refl _)).1.more hs2, H1.out.2⟩ hn1).mono ?_
        rintro e w7 ⟨t0, t1, t2, t3, z, gp, rfl, b7⟩
        have HX := Lib.hid (hc_new w7 [.int .i64 t0, .int .i64 t1, .int .i64 t2, .int .i64 t3] 25)
        have Pre : Hid (Below w7.heap.size w7 (w7.alloc (.cells #[.int .i64 t0, .int .i64 t1, .int .i64 t2, .int .i64 t3] 25))) := Lib.hid ((Below.refl _ _).alloc (Nat.le_refl _) _)
        have B7 := Lib.hid (HB.out.trans (b7.mono hs2))
        have hs7 := B7.out.size
        clear b7 HB hs2
        go_wp2_with fail
        generalize w7.alloc (.cells #[.int .i64 t0, .int .i64 t1, .int .i64 t2, .int .i64 t3] 25) = v7 at *
        have hsv : w7.heap.size < v7.heap.size := HX.out.lt
        refine implTripsUntilDry_any.mono ?_
        rintro e w8 ⟨many, six, rfl, hno, hyes, b8⟩
        have X8 := Lib.hid (HX.out.below b8 HX.out.lt)
        have B8 := Lib.hid (B7.out.trans ((Pre.out.trans (b8.mono (by omega))).mono hs7))
        have hs8 := B8.out.size
        clear b8 Pre HX B7
        by_cases hc : six = 0
        case neg =>
          have hm := hno hc
          subst hm
          have d1 : (six != 0) = true := by simp [hc]
          clear hno hyes hc
          go_wp2_with fail
          go_ret
          exact ⟨ret_bool (by simp), B8.out⟩
        subst hc
        obtain ⟨h0, h1, h2⟩ := hyes rfl
        have hcs : ((many == 0) = true ∧ decide (t2 < z) = true) ∨ ((many == 0) = false ∧ decide (t2 < z) = false) := by
          by_cases h : many = 0
          · exact .inl ⟨beq_iff_eq.2 h, decide_eq_true (h2.1 h)⟩
          · exact .inr ⟨beq_eq_false_iff_ne.2 h, decide_eq_false (fun hh => h (h2.2 hh))⟩
        have d1 : decide (many < 0) = false := decide_eq_false (by omega)
        have d1' : ¬ many < 0 := by omega
        have d2 : decide (1000 < many) = false := decide_eq_false (by omega)
        have d2' : ¬ 1000 < many := by omega
        have y2 : w8.cell? ⟨w7.heap.size, 2, none⟩ = some (.int .i64 t2) := X8.out.at_ 2 _ rfl
        clear hno hyes h2
        go_upto_region 46 with fail
        go_cut [302] (fun v wx => v = .bool false ∧ w8 = wx)
        case first => as_aux_lemma =>
          rcases hcs with ⟨d3, d4⟩ | ⟨d3, d4⟩
          all_goals
            go_wp2_with fail
            go_meet
            exact ⟨rfl, rfl⟩
        case rest => as_aux_lemma =>
          obtain ⟨rfl, rfl⟩ := hcut
          clear hcs d1 d1' d2 d2' y2 X8 h0 h1
          go_wp2_with fail
          refine (drawDrainFor_any ⟨(Bytz.below H0.out B8.out (Nat.le_refl _)).1.more hs8, H0.out.2⟩ hn0).mono ?_
          rintro e w9 ⟨sp, li, wa, ra, rfl, b9⟩
          have B9 := Lib.hid (B8.out.trans (b9.mono hs8))
          have hs9 := B9.out.size
          clear b9
          go_wp2_with fail
          refine implDrainFor_any.mono ?_
          rintro e wz ⟨k, seven, rfl, hno, hyes, bz⟩
          have BZ := Lib.hid (B9.out.trans (bz.mono hs9))
          clear bz B9 B8
          by_cases hc : seven = 0
          case neg =>
            have hm := hno hc
            subst hm
            have d1 : (seven != 0) = true := by simp [hc]
            clear hno hyes hc
            go_wp2_with fail
            go_ret
            exact ⟨ret_bool (by simp), BZ.out⟩
          subst hc
          obtain ⟨h0, h1, h2⟩ := hyes rfl
          have d1 : decide (k < 0) = false := decide_eq_false (by omega)
          have d1' : ¬ k < 0 := by omega
          clear hno hyes
          by_cases hk : k = 0
          · have d3 : decide (sp ≤ li) = true := decide_eq_true (h1.1 hk)
            subst hk
            clear h1 h2
            go_wp2_with fail
            go_ret
            exact ⟨ret_bool (by simp), BZ.out⟩
          · have d2 : (k == 0) = false := beq_eq_false_iff_ne.2 hk
            have d3 : decide (sp ≤ li) = false := decide_eq_false (fun hh => hk (h1.2 hh))
            obtain ⟨hsp, hli, hwa, hra, hkk, hv1, hv2⟩ := h2 hk
            have m0 : 0 ≤ ra * k := Int.mul_nonneg (by omega) (by omega)
            have m1 : ra * k ≤ 1000 * 20000 := Int.mul_le_mul hra.2 hkk.2 (by omega) (by omega)
            have n0' : 0 ≤ ra * (k - 1) := Int.mul_nonneg (by omega) (by omega)
            have n1' : ra * (k - 1) ≤ 1000 * 20000 := Int.mul_le_mul hra.2 (by omega) (by omega) (by omega)
            obtain ⟨R1, q1⟩ : ∃ R1, IntKind.i64.wrap (k * ra) = R1 := ⟨_, rfl⟩
            have hR1 : R1 = ra * k := by rw [← q1, Int.mul_comm k ra]; exact IntWalk.i64_in _ (by omega)
            obtain ⟨D1, q2⟩ : ∃ D1, IntKind.i64.wrap (wa - R1) = D1 := ⟨_, rfl⟩
            have hD1 : wa - ra * k = D1 := by rw [← q2, hR1]; exact (IntWalk.i64_in _ (by omega)).symm
            have q3 : IntKind.i64.wrap (k - 1) = k - 1 := IntWalk.i64_in _ (by omega)
            obtain ⟨R2, q4⟩ : ∃ R2, IntKind.i64.wrap ((k - 1) * ra) = R2 := ⟨_, rfl⟩
            have hR2 : R2 = ra * (k - 1) := by rw [← q4, Int.mul_comm (k - 1) ra]; exact IntWalk.i64_in _ (by omega)
            obtain ⟨D2, q5⟩ : ∃ D2, IntKind.i64.wrap (wa - R2) = D2 := ⟨_, rfl⟩
            have hD2 : wa - ra * (k - 1) = D2 := by rw [← q5, hR2]; exact (IntWalk.i64_in _ (by omega)).symm
            have hD1m : D1 ≤ 20000 := by omega
            have hD2m : D2 ≤ 20000 := by omega
            rw [hD1] at hv1
            rw [hD2] at hv2
            clear hD1 hD2 hR1 hR2 m0 m1 n0' n1'
            have hp2 : 0 < D2 := by
              rcases (show 0 < D2 ∨ ¬ 0 < D2 by omega) with h | h
              · exact h
              · rw [show max 0 D2 = 0 by omega, Int.mul_zero, rdiv_zero hwa.1] at hv2
                omega
            have e0 : 0 ≤ sp * D2 := Int.mul_nonneg hsp.1 (by omega)
            have e1 : sp * D2 ≤ 20000 * 20000 := Int.mul_le_mul hsp.2 hD2m (by omega) (by omega)
            obtain ⟨P2, q6⟩ : ∃ P2, IntKind.i64.wrap (sp * D2) = P2 := ⟨_, rfl⟩
            have hP2 : P2 = sp * D2 := by rw [← q6]; exact IntWalk.i64_in _ (by omega)
            rw [show max 0 D2 = D2 by omega, ← hP2] at hv2
            have d4 : decide (0 < wa) = true := decide_eq_true hwa.1
            have hwa1 := hwa.1
            obtain ⟨V2, hV2⟩ : ∃ V, rdiv P2 wa = V := ⟨_, rfl⟩
            have c2' : ∀ W, Calls Try.prog 18 #[.int .i64 P2, .int .i64 wa] W fun e w' => e = .returned (.int .i64 V2) ∧ W = w' := fun W => by
              have := b10Div_any (a := P2) (b := wa) (w := W) (by omega) (by omega) hwa.1 (by omega)
              rwa [hV2] at this
            rw [hV2] at hv2
            have g2 : decide (li < V2) = true := decide_eq_true hv2
            obtain ⟨V1, hV1⟩ : ∃ V, rdiv (sp * max 0 D1) wa = V := ⟨_, rfl⟩
            rw [hV1] at hv1
            have g1 : decide (V1 ≤ li) = true := decide_eq_true hv1
            clear hv2 hP2 e0 e1 hV2 hv1 h1 h2 hk
            rcases (show 0 < D1 ∨ ¬ 0 < D1 by omega) with hs | hs
            case' inl =>
              have p0 : 0 ≤ sp * D1 := Int.mul_nonneg hsp.1 (by omega)
              have p1 : sp * D1 ≤ 20000 * 20000 := Int.mul_le_mul hsp.2 hD1m (by omega) (by omega)
              obtain ⟨P1, q7⟩ : ∃ P1, IntKind.i64.wrap (sp * D1) = P1 := ⟨_, rfl⟩
              have hP1 : P1 = sp * D1 := by rw [← q7]; exact IntWalk.i64_in _ (by omega)
              rw [show max 0 D1 = D1 by omega, ← hP1] at hV1
              have c1' : ∀ W, Calls Try.prog 18 #[.int .i64 P1, .int .i64 wa] W fun e w' => e = .returned (.int .i64 V1) ∧ W = w' := fun W => by
                have := b10Div_any (a := P1) (b := wa) (w := W) (by omega) (by omega) hwa.1 (by omega)
                rwa [hV1] at this
              clear p0 p1 hP1
            case' inr =>
              rw [show max 0 D1 = 0 by omega, Int.mul_zero] at hV1
              have c1' : ∀ W, Calls Try.prog 18 #[.int .i64 0, .int .i64 wa] W fun e w' => e = .returned (.int .i64 V1) ∧ W = w' := fun W => by
                have := b10Div_any (a := 0) (b := wa) (w := W) (by omega) (by omega) hwa.1 (by omega)
                rwa [hV1] at this
            all_goals
              clear hV1 hsp hli hwa hra hkk
              as_aux_lemma =>
                go_wp2_with (go_at_call 18; first | (with_reducible refine (c1' _).mono ?_; rintro e w' ⟨rfl, rfl⟩) | (with_reducible refine (c2' _).mono ?_; rintro e w' ⟨rfl, rfl⟩))
                go_ret
                exact ⟨ret_bool (by simp), BZ.out⟩
end Go.Proofs.Ytdighpgfepooaaa
