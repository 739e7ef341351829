/- The walk of the law 'FnTasks': whatever the input, it returns true, and nothing that was there has turned. -/
import Derived.Test.YtcacmiafmanniaaMn
import Derived.Test.YtcacmiafmanniaaDt
import Derived.Test.YtcacmiafmanniaaFa
import Derived.Deep.DeepCutAuto
import Derived.BigQuiet
namespace Go.Proofs.Ytcacmiafmanniaa
open Go.RowKit
set_option maxRecDepth 100000
set_option linter.unusedVariables false
set_option linter.unusedSimpArgs false

theorem helper_size {l : List HelperR} (h : ∀ x ∈ l, x.Id.size ≤ 1048576) {k : Nat} (hk : k < l.length) : (HelperR.at_ l k).Id.size ≤ 1048576 := by
  have e : HelperR.at_ l k = l[k] := by simp [HelperR.at_, List.getD, List.getElem?_eq_getElem hk]
  rw [e]; exact h _ (List.getElem_mem hk)
theorem but_size {l : List HelperR} (h : ∀ x ∈ l, x.Id.size ≤ 1048576) (k : Nat) : ∀ x ∈ l.take k ++ l.drop (k + 1), x.Id.size ≤ 1048576 := by
  intro x hx
  rcases List.mem_append.1 hx with hx | hx
  · exact h x (List.mem_of_mem_take hx)
  · exact h x (List.mem_of_mem_drop hx)
set_option maxHeartbeats 16000000 in
theorem FnTasks_walk (A0 : Option Addr) (n0 c0 : Nat) (z0 : List Int) (A1 : Option Addr) (n1 c1 : Nat) (z1 : List Int) (w : World) (h0 : Bytz w w.heap.size A0 n0 z0) (hc0 : n0 ≤ c0) (hm0 : c0 ≤ maxLen) (hz0 : True) (h1 : Bytz w w.heap.size A1 n1 z1) (hc1 : n1 ≤ c1) (hm1 : c1 ≤ maxLen) (hz1 : True) :
    Calls Try.prog 3 #[.slice A0 n0 c0, .slice A1 n1 c1] w fun e w' => e = .returned (.bool true) ∧ Below w.heap.size w w' := by
  by_cases hl0 : 1048576 < n0
  · have Hd0 : Hid (decide (1048576 < n0) = true) := Lib.hid (decide_eq_true hl0)
    clear hl0
    go_enter Try.func3, Try.ntmps3
    go_wp2_with (go_at_call 4; refine b10Long_any.mono ?_; rintro e w' ⟨rfl, rfl⟩; rw [Hd0.out])
    go_ret
    exact ⟨rfl, Below.refl _ _⟩
  have Hd0 : Hid (decide (1048576 < n0) = false) := Lib.hid (decide_eq_false hl0)
  by_cases hl1 : 1048576 < n1
  · have Hd1 : Hid (decide (1048576 < n1) = true) := Lib.hid (decide_eq_true hl1)
    clear hl0 hl1
    go_enter Try.func3, Try.ntmps3
    go_wp2_with (go_at_call 4; refine b10Long_any.mono ?_; rintro e w' ⟨rfl, rfl⟩; first | rw [Hd0.out] | rw [Hd1.out])
    go_ret
    exact ⟨rfl, Below.refl _ _⟩
  have Hd1 : Hid (decide (1048576 < n1) = false) := Lib.hid (decide_eq_false hl1)
  have hn0 : n0 ≤ 1048576 := by omega
  have hn1 : n1 ≤ 1048576 := by omega
  have H0 := Lib.hid h0
  have H1 := Lib.hid h1
  clear h0 h1 hl0 hl1 hm0 hm1 hz0 hz1 hc0 hc1
  go_enter Try.func3, Try.ntmps3
  go_wp2_with (go_at_call 4; refine b10Long_any.mono ?_; rintro e w' ⟨rfl, rfl⟩; first | rw [Hd0.out] | rw [Hd1.out])
  refine (drawQuickestFill_any H0.out hn0).mono ?_
  rintro e w1 ⟨A2, c2, l, A3, c3, tl, bu, rfl, hl, ht, o2, o3, z2, z3, b1⟩
  obtain ⟨n, hln⟩ : ∃ n, l.length = n := ⟨_, rfl⟩
  obtain ⟨nt, hlt⟩ : ∃ n, tl.length = n := ⟨_, rfl⟩
  have Hln := Lib.hid hln
  have Hlt := Lib.hid hlt
  rw [hln] at hl o2 ⊢
  rw [hlt] at ht o3 ⊢
  clear hln hlt
  have hcap2 := o2.cap
  have hcap3 := o3.cap
  have R2 : Hid (Reads w1 w1.heap.size 3 A2 n (l.flatMap HelperR.cells)) := Lib.hid o2.reads
  have R3 : Hid (Reads w1 w1.heap.size 3 A3 nt (tl.flatMap TaskR.cells)) := Lib.hid o3.reads
  have Z2 := Lib.hid z2
  have Z3 := Lib.hid z3
  have B1 := Lib.hid b1
  have hs1 := b1.size
  clear o2 o3 z2 z3 b1
  go_wp2_with fail
  refine (implQuickestFill_any R2.out (Nat.le_refl _) hcap2 (by omega) Z2.out R3.out (Nat.le_refl _) hcap3 (by omega) Z3.out).mono ?_
  rintro e w2 ⟨A4, n4, c4, rfl, hn4, o4, b2⟩
  have QP := Lib.hid (quickP l tl bu)
  obtain ⟨r, hr⟩ : ∃ r, rQuickestFill l tl bu = r := ⟨_, rfl⟩
  rw [hr] at o4 QP ⊢
  clear hr
  obtain ⟨qk, qsum, one⟩ := r
  dsimp only at o4 ⊢
  have hl4 : qk.length = n4 := by have := o4.len; rw [List.length_map] at this; omega
  have hcap4 := o4.cap
  have R4 : Hid (Ints w2 w2.heap.size A4 n4 qk) := Lib.hid o4.reads
  have K2 := Lib.hid b2
  have hs2 := b2.size
  clear o4 b2
  go_wp2_with fail
  refine (specFillTasks_any (Reads.below R2.out K2.out (Nat.le_refl _)) hs2 hcap2 (by omega) Z2.out (Reads.below R3.out K2.out (Nat.le_refl _)) hs2 hcap3 (by omega) Z3.out).mono ?_
  rintro e w3 ⟨A5, n5, c5, rfl, hn5, o5, b3⟩
  obtain ⟨f, hf⟩ : ∃ r, rFillTasks l tl = r := ⟨_, rfl⟩
  have Hf := Lib.hid hf
  rw [hf] at o5 ⊢
  clear hf
  obtain ⟨fl, two⟩ := f
  dsimp only at o5 ⊢
  have hl5 : fl.length = n5 := by have := o5.len; rw [List.length_map] at this; omega
  have R5 : Hid (Ints w3 w3.heap.size A5 n5 fl) := Lib.hid o5.reads
  have R6 := Lib.hid (Reads.below R4.out b3 (Nat.le_refl _))
  have K3 := Lib.hid (K2.out.trans (b3.mono hs2))
  have hs3 := b3.size
  clear o5 b3 R4 K2
  go_upto_if 54 with fail
  go_cut [] (fun wx => Below w1.heap.size w1 wx)
  case first => as_aux_lemma =>
    by_cases hc : one = 0
    · subst hc
      obtain ⟨hv, cs, r2, hq, hok, hsm, hff, hok2, hle⟩ := QP.out.ok rfl
      dsimp only at hq hsm
      have e2 := Hf.out.symm.trans hff
      simp only [Prod.mk.injEq] at e2
      obtain ⟨rfl, rfl⟩ := e2
      subst hq
      obtain ⟨S, hS⟩ : ∃ S, sumH l cs = S := ⟨_, rfl⟩
      rw [hS] at hsm hle
      have HS := Lib.hid hS
      clear hS
      subst hsm
      have hvl : helperBAll l = true := by rw [Bool.and_eq_true] at hv; exact hv.1
      have Hkeep := Lib.hid (okF_keeps hv hok)
      obtain ⟨p1, p2⟩ := okF_place hok
      obtain ⟨p3, p4⟩ := okF_place hok2
      rw [ci_len] at hl4 hl5
      have hc4 : cs.length = nt := by rw [p1, Hlt.out]
      have hc5 : r2.length = nt := by rw [p3, Hlt.out]
      have hn4' : n4 = nt := by omega
      have hn5' : n5 = nt := by omega
      subst hn4'
      subst hn5'
      have Hc4 := Lib.hid hc4
      have Hc5 := Lib.hid hc5
      have P2 := Lib.hid p2
      have P4 := Lib.hid p4
      have Hvl := Lib.hid hvl
      have Hle := Lib.hid hle
      clear hv hok hff hok2 hle p1 p2 p3 p4 hc4 hc5 hvl hl4 hl5
      go_wp2_with fail
      refine (specKeepsTasks_any (Reads.below R2.out K3.out (Nat.le_refl _)) K3.out.size hcap2 (by omega) Z2.out (Reads.below R3.out K3.out (Nat.le_refl _)) K3.out.size hcap3 (by omega) Z3.out R6.out hs3 hcap4 (by omega)).mono ?_
      rintro e w4 ⟨rfl, b4⟩
      rw [Hkeep.out]
      have K4 := Lib.hid (K3.out.trans (b4.mono K3.out.size))
      have R7 := Lib.hid (Reads.below R6.out b4 hs3)
      have R8 := Lib.hid (Reads.below R5.out b4 (Nat.le_refl _))
      have R9 := Lib.hid (Reads.below R2.out K4.out (Nat.le_refl _))
      clear b4 R5 R6
      go_wp2_with fail
      go_loopg [13, 14, 15] n5 (fun gk va vb vi wr => ∃ (k a b : Nat), k ≤ n5 ∧ gk + k = n5 ∧ vi = .int .i64 (k : Int) ∧ va = .int .i64 (a : Int) ∧ vb = .int .i64 (b : Int) ∧ Hid (a = sumH l (cs.take k)) ∧ Hid (b = sumH l (r2.take k)) ∧ a ≤ 1000 * k ∧ b ≤ 1000 * k ∧ w4 = wr)
      case atStart => exact ⟨0, 0, 0, by omega, by omega, rfl, rfl, rfl, Lib.hid (by simp [sumH]), Lib.hid (by simp [sumH]), by omega, by omega, rfl⟩
      case round =>
        obtain ⟨k, a, b, hk, hgk, rfl, rfl, rfl, HA, HBb, hak, hbk, rfl⟩ := hrel
        have Hgk := Lib.hid hgk
        clear hgk
        have hk0 : (0 : Int) ≤ (k : Int) := by omega
        have qk : IntKind.i64.wrap ((k : Int) + 1) = (k : Int) + 1 := IntWalk.i64_in _ (by omega)
        by_cases hlt : k < n5
        · obtain ⟨adq, rfl, hbq, hcq⟩ := Ints.at_ R7.out hlt
          obtain ⟨adf, rfl, hbf, hcf⟩ := Ints.at_ R8.out hlt
          rw [ci_nth] at hcq hcf
          have hj1 := P2.out k (by rw [Hc4.out]; exact hlt)
          have hj2 := P4.out k (by rw [Hc5.out]; exact hlt)
          have HA1 : Hid (sumH l (cs.take (k + 1)) = a + mnH l (cs.getD k 0)) := Lib.hid (by rw [sumH_take (by rw [Hc4.out]; exact hlt), HA.out])
          have HB1 : Hid (sumH l (r2.take (k + 1)) = b + mnH l (r2.getD k 0)) := Lib.hid (by rw [sumH_take (by rw [Hc5.out]; exact hlt), HBb.out])
          obtain ⟨m1, m2⟩ := mnH_int Hvl.out hj1
          obtain ⟨m3, m4⟩ := mnH_int Hvl.out hj2
          generalize cs.getD k 0 = j1 at *
          generalize r2.getD k 0 = j2 at *
          rw [Hln.out] at hj1 hj2
          obtain ⟨adh, rfl, hbh, x0, x1, x2⟩ := HelperR.rd R9.out hj1
          obtain ⟨adg, e3, hbg, y0, y1, y2⟩ := HelperR.rd R9.out hj2
          injection e3 with e3
          subst e3
          clear x0 x1 y0 y1
          rw [← m1] at x2
          rw [← m3] at y2
          generalize mnH l j1 = v1 at *
          generalize mnH l j2 = v2 at *
          clear m1 m3
          have i1 : (0 : Int) ≤ (j1 : Int) := by omega
          have i2 : (j1 : Int) < (n : Int) := by omega
          have i3 : (0 : Int) ≤ (j2 : Int) := by omega
          have i4 : (j2 : Int) < (n : Int) := by omega
          have q1 : IntKind.i64.wrap ((a : Int) + (v1 : Int)) = (a : Int) + (v1 : Int) := IntWalk.i64_in _ (by omega)
          have q2 : IntKind.i64.wrap ((b : Int) + (v2 : Int)) = (b : Int) + (v2 : Int) := IntWalk.i64_in _ (by omega)
          have hk1 : (k : Int) < (n5 : Int) := by omega
          go_wp2_with fail
          have hgk := Hgk.out
          go_roundg (gk - 1)
          case rel => exact ⟨k + 1, a + v1, b + v2, by omega, by omega, by go_num, by rw [Int.natCast_add], by rw [Int.natCast_add], Lib.hid HA1.out.symm, Lib.hid HB1.out.symm, by omega, by omega, rfl⟩
          case measure => omega
        · have hkn : k = n5 := by omega
          have ha : a = S := by have := HA.out; rw [List.take_of_length_le (by rw [Hc4.out]; omega), HS.out] at this; exact this
          have hb : b = sumH l r2 := by have := HBb.out; rwa [List.take_of_length_le (by rw [Hc5.out]; omega)] at this
          have hab : a ≤ b := by have := Hle.out; omega
          have hk1 : ¬ (k : Int) < (n5 : Int) := by omega
          subst ha
          have d1 : decide ((b : Int) < (a : Int)) = false := decide_eq_false (by omega)
          have d2 : decide (b < a) = false := decide_eq_false (by omega)
          clear hb HA HBb Hle hab
          go_wp2_with fail
          go_meet
          exact K4.out
    · obtain ⟨hnil, hs0⟩ := QP.out.no hc
      dsimp only at hnil hs0
      subst hnil
      subst hs0
      have hn40 : n4 = 0 := by simp at hl4; omega
      subst hn40
      have d1 : (one == 0) = false := beq_eq_false_iff_ne.2 hc
      have hcs : (one == 3) = false ∨ ((one == 3) = true ∧ (two == 0) = false) := by
        by_cases h3 : one = 3
        · refine .inr ⟨beq_iff_eq.2 h3, beq_eq_false_iff_ne.2 ?_⟩
          have := QP.out.nf h3
          rw [Hf.out] at this
          exact this
        · exact .inl (beq_eq_false_iff_ne.2 h3)
      clear hc
      rcases hcs with d2 | ⟨d2, d3⟩
      all_goals
        go_wp2_with fail
        go_meet
        exact K3.out
  case rest => as_aux_lemma =>
    have hb := B1.out.trans (hcut.mono hs1)
    clear hcut QP Hf R2 R3 R5 R6 K3 Z2 Z3 B1 Hln Hlt hl4 hl5 hcap2 hcap3 hcap4 hs1 hs2 hs3 hl ht hn4 hn5
    have HB := Lib.hid hb
    have hs2 := hb.size
    clear hb
    go_wp2_with fail
    refine (drawKeyHelpers_any ⟨(Bytz.below H1.out HB.out (Nat.le_refl _)).1.more hs2, H1.out.2⟩ hn1).mono ?_
    rintro e w5 ⟨A6, c6, hs, A7, c7, wk, rfl, hl, ht, o6, o7, z6, z7, b5⟩
    obtain ⟨m, hln⟩ : ∃ n, hs.length = n := ⟨_, rfl⟩
    obtain ⟨mt, hlt⟩ : ∃ n, wk.length = n := ⟨_, rfl⟩
    have Hln := Lib.hid hln
    have Hlt := Lib.hid hlt
    rw [hln] at hl o6 ⊢
    rw [hlt] at ht o7 ⊢
    clear hln hlt
    have hcap6 := o6.cap
    have hcap7 := o7.cap
    have R6 : Hid (Reads w5 w5.heap.size 3 A6 m (hs.flatMap HelperR.cells)) := Lib.hid o6.reads
    have R7 : Hid (Reads w5 w5.heap.size 3 A7 mt (wk.flatMap TaskR.cells)) := Lib.hid o7.reads
    have Z6 := Lib.hid z6
    have Z7 := Lib.hid z7
    have B5 := Lib.hid (HB.out.trans (b5.mono hs2))
    have hs5 := B5.out.size
    clear o6 o7 z6 z7 b5 HB hs2
    go_wp2_with fail
    refine (implKeyHelpers_any R6.out (Nat.le_refl _) hcap6 (by omega) Z6.out R7.out (Nat.le_refl _) hcap7 (by omega) Z7.out).mono ?_
    rintro e w6 ⟨A8, n8, c8, rfl, hn8, o8, b6⟩
    have K6 := Lib.hid b6
    have hs6 := b6.size
    cases hv : (helperBAll hs && taskBAll wk) with
    | false =>
      have e1 : rKeyHelpers hs wk = ([], 1) := by unfold rKeyHelpers; rw [hv]; rfl
      rw [e1] at o8 ⊢
      have hn80 : n8 = 0 := by have := o8.len; simp at this; omega
      subst hn80
      clear o8 b6 e1 hv
      dsimp only
      go_wp2_with fail
      refine (implMostFilled_any (Reads.below R6.out K6.out (Nat.le_refl _)) hs6 hcap6 (by omega) Z6.out (Reads.below R7.out K6.out (Nat.le_refl _)) hs6 hcap7 (by omega) Z7.out).mono ?_
      rintro e w7 ⟨rfl, b7⟩
      have BF := Lib.hid (B5.out.trans ((K6.out.trans (b7.mono hs6)).mono hs5))
      clear b7
      generalize rMostFilled hs wk = mf at *
      go_wp2_with fail
      go_ret
      exact ⟨ret_bool (by simp), BF.out⟩
    | true =>
      have e1 : rKeyHelpers hs wk = (keysTo hs wk hs.length, 0) := by unfold rKeyHelpers; rw [hv]; rfl
      have e2 : rMostFilled hs wk = (((mfill (csH hs) wk 0 : Nat) : Int), 0) := by unfold rMostFilled; rw [hv]; rfl
      rw [e1] at o8 ⊢
      have R8 : Hid (Reads w6 w6.heap.size 1 A8 n8 ((keysTo hs wk hs.length).map Value.string)) := Lib.hid o8.reads
      rw [Bool.and_eq_true] at hv
      have Hv1 := Lib.hid hv.1
      have Hv2 := Lib.hid hv.2
      have hmt : mt ≤ 8 := by have := taskB_len hv.2; rw [Hlt.out] at this; exact this
      have hmm : m ≤ 10 := by have := helperB_len hv.1; rw [Hln.out] at this; exact this
      clear o8 b6 e1 hv
      dsimp only
      go_wp2_with fail
      refine (implMostFilled_any (Reads.below R6.out K6.out (Nat.le_refl _)) hs6 hcap6 (by omega) Z6.out (Reads.below R7.out K6.out (Nat.le_refl _)) hs6 hcap7 (by omega) Z7.out).mono ?_
      rintro e w7 ⟨rfl, b7⟩
      rw [e2]
      obtain ⟨most, hmo⟩ : ∃ x, mfill (csH hs) wk 0 = x := ⟨_, rfl⟩
      have Hmo := Lib.hid hmo
      have hmost : most ≤ mt := by
        have := (mfill_opt (csH hs) wk 0).le
        rw [hmo, Hlt.out] at this
        exact this
      rw [hmo]
      have K7 := Lib.hid (K6.out.trans (b7.mono hs6))
      have R9 := Lib.hid (Reads.below R8.out b7 (Nat.le_refl _))
      have hs7 := b7.size
      clear b7 e2 hmo R8 K6
      go_wp2_with fail
      go_loopg [22] m (fun gk vi wr => ∃ (i : Nat), i ≤ m ∧ gk + i = m ∧ vi = .int .i64 (i : Int) ∧ Below w7.heap.size w7 wr)
      case atStart => exact ⟨0, by omega, by omega, rfl, Below.refl _ _⟩
      case round =>
        obtain ⟨i, hil, hgk, rfl, hbw⟩ := hrel
        have Hgk := Lib.hid hgk
        have HW := Lib.hid hbw
        have hsw := hbw.size
        have KW := Lib.hid (K7.out.trans (hbw.mono K7.out.size))
        clear hgk hbw
        have hi0 : (0 : Int) ≤ (i : Int) := by omega
        have qi : IntKind.i64.wrap ((i : Int) + 1) = (i : Int) + 1 := IntWalk.i64_in _ (by omega)
        by_cases hlt : i < m
        · have hi1 : (i : Int) < (m : Int) := by omega
          have hlen : i < hs.length := by rw [Hln.out]; exact hlt
          have RH : Hid (∀ W, Below w5.heap.size w5 W → Reads W w5.heap.size 3 A6 m (hs.flatMap HelperR.cells)) := Lib.hid (fun W hW => Reads.below R6.out hW (Nat.le_refl _))
          have RT : Hid (∀ W, Below w5.heap.size w5 W → Reads W w5.heap.size 3 A7 mt (wk.flatMap TaskR.cells)) := Lib.hid (fun W hW => Reads.below R7.out hW (Nat.le_refl _))
          have HC : Hid (∀ W, Below w5.heap.size w5 W → ∃ ad, A6 = some ad ∧ W.cell? (ad.add (i * 3)) = some (.string (HelperR.at_ hs i).Id)) := Lib.hid (fun W hW => by
            obtain ⟨ad, h1, _, h2, _⟩ := HelperR.rd (RH.out W hW) hlt
            exact ⟨ad, h1, h2⟩)
          obtain ⟨adh, hA6, x0⟩ := HC.out wr KW.out
          have hid := helper_size Z6.out hlen
          have Hwo := Lib.hid (without_at Hv1.out hlen)
          have Hbv := Lib.hid (but_valid Hv1.out hlen)
          have Hbl : Hid ((hs.take i ++ hs.drop (i + 1)).length = m - 1) := Lib.hid (by rw [but_len hlen, Hln.out])
          have Hki := Lib.hid (keys_ins (tl := wk) Hv1.out hlen)
          have Hdr := Lib.hid (drop_one (tl := wk) hlen)
          have Hbz := Lib.hid (but_size Z6.out i)
          have HWO : Hid (Calls Try.prog 12 #[.slice A6 m c6, .string (HelperR.at_ hs i).Id] wr fun e w' => ∃ A2 c2, e = .returned (.tuple #[.slice A2 (m - 1) c2, .int .i64 0]) ∧ (m - 1) ≤ c2 ∧ Reads w' w'.heap.size 3 A2 (m - 1) ((hs.take i ++ hs.drop (i + 1)).flatMap HelperR.cells) ∧ Below wr.heap.size wr w') := Lib.hid (by
            refine (implWithoutHelper_any (RH.out wr KW.out) KW.out.size hcap6 (by omega) Z6.out hid).mono ?_
            rintro e w' ⟨A2, n2, c2, rfl, _, o, b⟩
            rw [Hwo.out] at o ⊢
            have hn2 : n2 = m - 1 := by
              have := HelperR.count o.reads
              rw [Hbl.out] at this
              exact this.symm
            subst hn2
            exact ⟨A2, c2, rfl, o.cap, o.reads, b⟩)
          clear Hwo Z6
          subst hA6
          generalize (HelperR.at_ hs i).Id = id at *
          generalize hs.take i ++ hs.drop (i + 1) = but at *
          go_wp2_with fail
          refine HWO.out.mono ?_
          rintro e w8 ⟨A2, c2, rfl, hc2, hrd, b8⟩
          have K8 := Lib.hid (KW.out.trans (b8.mono KW.out.size))
          have W8 := Lib.hid (HW.out.trans (b8.mono hsw))
          have RB := Lib.hid hrd
          clear hrd b8 HWO x0
          have hm1 : ((m - 1 : Nat) : Int) = (m : Int) - 1 := by omega
          go_wp2_with fail
          refine (specMostFilled_any RB.out (Nat.le_refl _) hc2 (by omega) Hbz.out (RT.out w8 K8.out) K8.out.size hcap7 (by omega) Z7.out).mono ?_
          rintro e w9 ⟨rfl, b9⟩
          have e3 : rMostFilled but wk = (((mfill (csH but) wk 0 : Nat) : Int), 0) := by unfold rMostFilled; rw [Hbv.out, Hv2.out]; rfl
          rw [e3]
          have K9 := Lib.hid (K8.out.trans (b9.mono K8.out.size))
          have W9 := Lib.hid (W8.out.trans (b9.mono W8.out.size))
          obtain ⟨less, hle⟩ : ∃ x, mfill (csH but) wk 0 = x := ⟨_, rfl⟩
          rw [hle]
          rw [hle] at Hki Hdr
          rw [Hmo.out] at Hki Hdr
          have hless : less ≤ mt := by
            have := (mfill_opt (csH but) wk 0).le
            rw [hle, Hlt.out] at this
            exact this
          have hdr := Hdr.out
          obtain ⟨ad2, e4, x1⟩ := HC.out w9 K9.out
          injection e4 with e4
          subst e4
          have HIn : Hid (Calls Try.prog 14 #[.slice A8 n8 c8, .string id] w9 fun e w' => e = .returned (.bool (decide (less < most))) ∧ w9 = w') := Lib.hid (by
            have := b10Inside_any (c := c8) (x := id) (Reads.below R9.out W9.out (by omega)) (by omega)
            rw [Hki.out] at this
            exact this)
          clear b9 e3 hle Hki Hdr RB
          have q1 : IntKind.i64.wrap ((m : Int) - 1) = (m : Int) - 1 := IntWalk.i64_in _ (by omega)
          have q2 : IntKind.i64.wrap ((most : Int) - 1) = (most : Int) - 1 := IntWalk.i64_in _ (by omega)
          have d1 : (((m - 1 : Nat) : Int) != (m : Int) - 1) = false := by rw [hm1]; simp
          have d3 : decide ((less : Int) < (most : Int) - 1) = false := decide_eq_false (by omega)
          by_cases hlm : less < most
          · have d2 : decide ((less : Int) < (most : Int)) = true := decide_eq_true (by omega)
            have d4 : decide (less < most) = true := decide_eq_true hlm
            have HI2 : Hid (Calls Try.prog 14 #[.slice A8 n8 c8, .string id] w9 fun e w' => e = .returned (.bool true) ∧ w9 = w') := Lib.hid (by have := HIn.out; rwa [decide_eq_true hlm] at this)
            clear HIn
            go_wp2_with (go_at_call 14; with_reducible refine HI2.out.mono ?_; rintro e w' ⟨rfl, rfl⟩)
            have hgk := Hgk.out
            go_roundg (gk - 1)
            case rel => exact ⟨i + 1, by omega, by omega, by go_num, W9.out⟩
            case measure => omega
          · have d2 : decide ((less : Int) < (most : Int)) = false := decide_eq_false (by omega)
            have d4 : decide (less < most) = false := decide_eq_false hlm
            have HI2 : Hid (Calls Try.prog 14 #[.slice A8 n8 c8, .string id] w9 fun e w' => e = .returned (.bool false) ∧ w9 = w') := Lib.hid (by have := HIn.out; rwa [decide_eq_false hlm] at this)
            clear HIn hlm
            go_wp2_with (go_at_call 14; with_reducible refine HI2.out.mono ?_; rintro e w' ⟨rfl, rfl⟩)
            have hgk := Hgk.out
            go_roundg (gk - 1)
            case rel => exact ⟨i + 1, by omega, by omega, by go_num, W9.out⟩
            case measure => omega
        · have hi1 : ¬ (i : Int) < (m : Int) := by omega
          go_wp2_with fail
          go_ret
          exact ⟨rfl, B5.out.trans (KW.out.mono hs5)⟩
end Go.Proofs.Ytcacmiafmanniaa
