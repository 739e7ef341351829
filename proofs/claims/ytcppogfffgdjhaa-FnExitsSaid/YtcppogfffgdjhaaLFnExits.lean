/- The walk of the law 'FnExits': whatever the input, it returns true, and nothing that was there has turned. -/
import Derived.Test.YtcppogfffgdjhaaFd
namespace Go.Proofs.Ytcppogfffgdjhaa
open Go.RowKit
set_option maxRecDepth 100000
set_option linter.unusedVariables false
set_option linter.unusedSimpArgs false

set_option maxHeartbeats 40000000 in
theorem FnExits_walk (A0 : Option Addr) (n0 c0 : Nat) (z0 : List Int) (A1 : Option Addr) (n1 c1 : Nat) (z1 : List Int) (w : World) (h0 : Bytz w w.heap.size A0 n0 z0) (hc0 : n0 ≤ c0) (hm0 : c0 ≤ maxLen) (hz0 : True) (h1 : Bytz w w.heap.size A1 n1 z1) (hc1 : n1 ≤ c1) (hm1 : c1 ≤ maxLen) (hz1 : True) :
    Calls Try.prog 3 #[.slice A0 n0 c0, .slice A1 n1 c1] w fun e w' => e = .returned (.bool true) ∧ Below w.heap.size w w' := by
  obtain ⟨i0, hi, hz0', hz1', hz2'⟩ := info_parts info_int
  cases hlong : (decide (1048576 < n0) || decide (1048576 < n1)) with
  | true =>
    have Hl := Lib.hid hlong
    clear hlong
    go_enter Try.func3, Try.ntmps3
    go_wp2_with (go_at_call 5; refine r8Long_any.mono ?_; rintro e w' ⟨rfl, rfl⟩; rw [Hl.out])
    go_ret
    exact ⟨rfl, Below.refl _ _⟩
  | false =>
  have hn0 : n0 ≤ 1048576 ∧ n1 ≤ 1048576 := by
    rw [Bool.or_eq_false_iff, decide_eq_false_iff_not, decide_eq_false_iff_not] at hlong; omega
  obtain ⟨hn0, hn1⟩ := hn0
  have Hl := Lib.hid hlong
  have H0 := Lib.hid h0
  have H1 := Lib.hid h1
  clear hlong h0 h1 hm0 hm1 hz0 hz1
  go_enter Try.func3, Try.ntmps3
  go_wp2_with fail
  refine r8Long_any.mono ?_
  rintro e w' ⟨rfl, rfl⟩
  rw [Hl.out]
  go_wp2_with fail
  refine (r8Walks_any H0.out (Nat.le_refl _) hn0).mono ?_
  rintro e w1 ⟨P, AL, nl, cl, l, rfl, hP2, hP7, hnl, hok, oL, b1⟩
  have HL : Hid (l.length = nl) := Lib.hid (WalkR.count oL.reads)
  have Hw : Hid (walksB (P : Int) l = true) := Lib.hid (walks_ok (by omega) (by rw [HL.out]; omega) hok)
  have hcl := oL.cap
  have rL := oL.reads
  have hP16 : 1 ≤ P ∧ P ≤ 16 := by omega
  clear oL hok
  have hbs1 := b1.size
  go_wp2_with fail
  go_loopg [7, 8] P (fun gk vE vk wr => ∃ (k : Nat) (ys : List Int) (A2 : Option Addr) (n2 c2 : Nat), k ≤ P ∧ gk + k = P ∧ vk = .int .i64 k ∧ vE = .slice A2 n2 c2 ∧ n2 ≤ k ∧ ExitsOk k ys ∧ Own wr w1.heap.size 2 1 A2 n2 c2 (ys.map (Value.int .i64)) ∧ Below w1.heap.size w1 wr)
  case atStart => exact ⟨0, [], some ⟨w1.heap.size, 0, none⟩, 0, 0, by omega, by omega, rfl, rfl, by omega, ExitsOk.nil _, Own.empty _ _ _ _ (Nat.le_refl _), (Below.refl _ _).alloc (Nat.le_refl _) _⟩
  case round =>
    obtain ⟨k, ys, A2, n2, c2, hk, hgk, rfl, rfl, hn2, hys, ho, hb⟩ := hrel
    have Hgk := Lib.hid hgk
    have Hys := Lib.hid hys
    have hbs := hb.size
    clear hgk hys
    have hqk : IntKind.i64.wrap ((k : Int) + 1) = (k : Int) + 1 := IntWalk.i64_in _ (by omega)
    by_cases hlt : k < P
    · have hd : (k : Int) < (P : Int) := by omega
      go_wp2_with fail
      refine (r8At_any (k := k) (m := 3) (Bytz.below H1.out (b1.trans (hb.mono hbs1)) (Nat.le_refl _)) hn1 (by omega)).mono ?_
      rintro e w' ⟨x, rfl, _, _, rfl⟩
      cases hx : (x == 0) with
      | false =>
        go_wp2_with fail
        have hgk := Hgk.out
        go_roundg (gk - 1)
        case rel => exact ⟨k + 1, ys, A2, n2, c2, by omega, by omega, by go_num, rfl, by omega, Hys.out.more, ho, hb⟩
        case measure => omega
      | true =>
        go_wp2_with (at_builtin; refine wpList_app rfl _ _ 27 rfl 2 i0 _ 1 8 Try.underlying27 hi hz0' hz1' hz2' rfl (by omega) (by omega) w1.heap.size _ _ _ _ rfl (ho.alloc _) ⟨wr.heap.size, 0, none⟩ 1 1 [.int .i64 (k : Int)] rfl rfl (cell_one_new _ _ _) (by simp [Value.oneCell']) (by omega) (by simp; omega) ?_)
        intro A3 c3 w3 ho3 hgA hbA hat
        have ho4 : Own w3 w1.heap.size 2 1 A3 (n2 + 1) c3 ((ys ++ [(k : Int)]).map (Value.int .i64)) := by rw [List.map_append]; exact ho3
        have hb4 : Below w1.heap.size w1 w3 := (hb.alloc hbs _).trans hbA
        clear ho3 hgA hbA hat ho
        go_wp2_with fail
        have hgk := Hgk.out
        go_roundg (gk - 1)
        case rel => exact ⟨k + 1, ys ++ [(k : Int)], A3, n2 + 1, c3, by omega, by omega, by go_num, rfl, by omega, Hys.out.push, ho4, hb4⟩
        case measure => omega
    · have hke : P = k := by omega
      subst hke
      have hd : ¬ (P : Int) < (P : Int) := by omega
      have hcE := ho.cap
      have rE : Ints wr wr.heap.size A2 n2 ys := ho.reads
      have HE : Hid (ys.length = n2) := Lib.hid rE.len
      have rL2 := rL.below hb (Nat.le_refl _)
      have b12 := b1.trans (hb.mono hbs1)
      clear ho hb rL Hgk hqk b1 hk
      obtain ⟨W2, hW2⟩ : ∃ W2, W2 = wr := ⟨_, rfl⟩
      subst hW2
      go_wp2_with fail
      refine (r8At_any (k := 20) (m := (P : Int)) (Bytz.below H1.out b12 (Nat.le_refl _)) hn1 (by omega)).mono ?_
      rintro e w' ⟨src, rfl, hs0, hs1', rfl⟩
      have hs1 : src < (P : Int) := by omega
      clear hs1'
      obtain ⟨v, rfl⟩ := Int.eq_ofNat_of_zero_le hs0
      have hv : v < P := by omega
      go_wp2_with fail
      refine (r8At_any (k := 21) (m := 2) (Bytz.below H1.out b12 (Nat.le_refl _)) hn1 (by omega)).mono ?_
      rintro e w' ⟨la, rfl, _, _, rfl⟩
      go_wp2_with fail
      obtain ⟨lad, hlad⟩ : ∃ lad : Bool, (la == 1) = lad := ⟨_, rfl⟩
      rw [hlad]
      clear hlad
      obtain ⟨ne, nt, nc, wv, wt, wc, eN, eW, hcase⟩ := exits_pack lad Hw.out hP16 Hys.out hv
      have Hcase := Lib.hid hcase
      have Hcut := Lib.hid (cut_ok lad Hw.out hP16 Hys.out)
      have Hneeds := Lib.hid (needs_ok (P := P) Hw.out hP16 Hys.out)
      have Hcars := Lib.hid (fun pe ev h1 h2 => cars_ok lad Hw.out hP16 Hys.out hv (people := pe) (every := ev) h1 h2)
      have HeW := Lib.hid eW
      clear hcase eW
      refine (implNearestExit_any (p := (P : Int)) (src := (v : Int)) (lad := lad) rL2 (by omega) hcl (by omega) rE (Nat.le_refl _) hcE (by omega)).mono ?_
      rintro e w3 ⟨rfl, b3⟩
      rw [eN]
      clear eN
      have rL3 := rL2.below b3 (by omega)
      have rE3 : Ints w3 W2.heap.size A2 n2 ys := rE.below b3 (Nat.le_refl _)
      have hbs3 := b3.size
      have b13 := b12.trans (b3.mono (by omega))
      clear rL2 rE b3 b12
      go_wp2_with fail
      refine (implCutOff_any (p := (P : Int)) (lad := lad) rL3 (by omega) hcl (by omega) rE3 (by omega) hcE (by omega)).mono ?_
      rintro e w4 ⟨AC, nC, cC, rfl, hnC, oC, b4⟩
      rw [Hcut.out] at oC
      rw [Hcut.out]
      have rC : Ints w4 w4.heap.size AC nC (selTo false (timesR P l ys lad) P) := oC.reads
      have HC := Lib.hid rC.len
      have rL4 := rL3.below b4 (by omega)
      have rE4 : Ints w4 W2.heap.size A2 n2 ys := Reads.below rE3 b4 (by omega)
      have hbs4 := b4.size
      have b14 := b13.trans (b4.mono (by omega))
      clear rL3 rE3 b4 b13 oC Hcut
      go_wp2_with fail
      refine (implNeedsLadder_any (p := (P : Int)) rL4 (by omega) hcl (by omega) rE4 (by omega) hcE (by omega)).mono ?_
      rintro e w5 ⟨AN, nN, cN, rfl, hnN, oN, b5⟩
      rw [Hneeds.out] at oN
      rw [Hneeds.out]
      have rN : Ints w5 w5.heap.size AN nN (needTo (timesR P l ys false) (timesR P l ys true) P) := oN.reads
      have rL5 := rL4.below b5 (by omega)
      have rE5 : Ints w5 W2.heap.size A2 n2 ys := Reads.below rE4 b5 (by omega)
      have rC5 : Ints w5 w4.heap.size AC nC (selTo false (timesR P l ys lad) P) := Reads.below rC b5 (Nat.le_refl _)
      have hbs5 := b5.size
      have b15 := b14.trans (b5.mono (by omega))
      clear rL4 rE4 b5 b14 oN rC Hneeds
      go_wp2_with fail
      refine (implWorstPlace_any (p := (P : Int)) (lad := lad) rL5 (by omega) hcl (by omega) rE5 (by omega) hcE (by omega)).mono ?_
      rintro e w6 ⟨rfl, b6⟩
      rw [HeW.out]
      have rL6 := rL5.below b6 (by omega)
      have rE6 : Ints w6 W2.heap.size A2 n2 ys := Reads.below rE5 b6 (by omega)
      have rC6 : Ints w6 w4.heap.size AC nC (selTo false (timesR P l ys lad) P) := Reads.below rC5 b6 (by omega)
      have rN6 : Ints w6 w5.heap.size AN nN (needTo (timesR P l ys false) (timesR P l ys true) P) := Reads.below rN b6 (Nat.le_refl _)
      have hbs6 := b6.size
      have b16 := b15.trans (b6.mono (by omega))
      clear rL5 rE5 b6 b15 rC5 rN HeW
      go_wp2_with fail
      refine (r8At_any (k := 22) (m := 60) (Bytz.below H1.out b16 (Nat.le_refl _)) hn1 (by omega)).mono ?_
      rintro e w' ⟨x1, rfl, hx0, hx1, rfl⟩
      have hq1 : IntKind.i64.wrap ((1 : Int) + x1) = (1 : Int) + x1 := IntWalk.i64_in _ (by omega)
      go_wp2_with fail
      refine (r8At_any (k := 23) (m := 20) (Bytz.below H1.out b16 (Nat.le_refl _)) hn1 (by omega)).mono ?_
      rintro e w' ⟨x2, rfl, hx2, hx3, rfl⟩
      have hq2 : IntKind.i64.wrap ((1 : Int) + x2) = (1 : Int) + x2 := IntWalk.i64_in _ (by omega)
      go_wp2_with fail
      obtain ⟨pe, hpe⟩ : ∃ pe : Int, (1 : Int) + x1 = pe := ⟨_, rfl⟩
      obtain ⟨ev, hev⟩ : ∃ ev : Int, (1 : Int) + x2 = ev := ⟨_, rfl⟩
      rw [hpe, hev]
      have hpe1 : 1 ≤ pe ∧ pe ≤ 60 := by omega
      have hev1 : 1 ≤ ev ∧ ev ≤ 20 := by omega
      clear hq1 hq2 hpe hev hx0 hx1 hx2 hx3
      refine (implCarsEmpty_any (p := (P : Int)) (src := (v : Int)) (people := pe) (every := ev) (lad := lad) rL6 (by omega) hcl (by omega) rE6 (by omega) hcE (by omega)).mono ?_
      rintro e w7 ⟨rfl, b7⟩
      rw [Hcars.out pe ev hpe1 hev1]
      have rL7 := rL6.below b7 (by omega)
      have rE7 : Ints w7 W2.heap.size A2 n2 ys := Reads.below rE6 b7 (by omega)
      have rC7 : Ints w7 w4.heap.size AC nC (selTo false (timesR P l ys lad) P) := Reads.below rC6 b7 (by omega)
      have rN7 : Ints w7 w5.heap.size AN nN (needTo (timesR P l ys false) (timesR P l ys true) P) := Reads.below rN6 b7 (by omega)
      have hbs7 := b7.size
      have b17 := b16.trans (b7.mono (by omega))
      clear rL6 rE6 b7 b16 rC6 rN6 Hcars
      have HasC : Hid (∀ (u : Nat) (W : World), u < P → Below w7.heap.size w7 W → Calls Try.prog 13 #[.slice AC nC cC, .int .i64 (u : Int)] W fun e w'' => e = .returned (.bool (decide (nth (timesR P l ys lad) u < 0))) ∧ W = w'') := Lib.hid (by
        intro u W hu hW
        rw [← sel_has _ P u hu]
        exact r8Has_any (Reads.below rC7 hW (by omega)) hnC)
      have HasN : Hid (∀ (u : Nat) (W : World), u < P → Below w7.heap.size w7 W → Calls Try.prog 13 #[.slice AN nN cN, .int .i64 (u : Int)] W fun e w'' => e = .returned (.bool (!decide (0 ≤ nth (timesR P l ys false) u) && decide (0 ≤ nth (timesR P l ys true) u))) ∧ W = w'') := Lib.hid (by
        intro u W hu hW
        rw [← need_has _ _ P u hu]
        exact r8Has_any (Reads.below rN7 hW (by omega)) hnN)
      have HasE : Hid (∀ (u : Int) (W : World), ys.any (fun y => y == u) = true → Below w7.heap.size w7 W → Calls Try.prog 13 #[.slice A2 n2 c2, .int .i64 u] W fun e w'' => e = .returned (.bool true) ∧ W = w'') := Lib.hid (by
        intro u W hu hW
        rw [← hu]
        exact r8Has_any (Reads.below rE7 hW (by omega)) (by omega))
      have B17 := Lib.hid b17
      clear b17 rC7 rN7
      have Hone := Lib.hid (fun i (hi : i < n2) => one_ok lad Hw.out hP16 Hys.out (k := i) (by rw [HE.out]; exact hi))
      have Honeall := Lib.hid (fun i (hi : i < n2) u (hu : u < P) h0 => one_all lad Hw.out hP16 Hys.out (k := i) (by rw [HE.out]; exact hi) (v := u) hu h0)
      have Hlen := Lib.hid (fun i => times_len (P := P) Hw.out lad [nth ys i])
      have Htop := Lib.hid (fun i => times_top (p := (P : Int)) lad Hw.out [nth ys i] v (by omega))
      have Htop2 := Lib.hid (times_top (p := (P : Int)) lad Hw.out ys v (by omega))
      have Hbest := Lib.hid (fun i (hi : i < n2) => bestE_succ Hys.out (T := timeFrom P l lad v) (k := i) (by rw [HE.out]; exact hi))
      have Hend := Lib.hid (bestE_all lad Hw.out hP16 Hys.out hv)
      rw [HE.out] at Hend
      have HnF := Lib.hid (fun u (hu : u < P) => near_ok lad Hw.out hP16 Hys.out hu)
      have HnG := Lib.hid (fun u (hu : u < P) => near_ok false Hw.out hP16 Hys.out hu)
      have HnH := Lib.hid (fun u (hu : u < P) => near_ok true Hw.out hP16 Hys.out hu)
      rw [HE.out] at Hcase
      have hcC := HasC.out v w7 hv (Below.refl _ _)
      rcases Hcase.out with ⟨e0, rfl, rfl, hT, hTall⟩ | ⟨e0, rfl, hwv0, hwv1, hwt, ⟨rfl, hT⟩ | ⟨rfl, hT, hnt, hmem⟩⟩
      · as_aux_lemma =>
        have hd0 : decide (nth (timesR P l ys lad) v < 0) = true := by rw [decide_eq_true_eq]; exact hT
        rw [hd0] at hcC
        have hnC2 : P = nC := by rw [← HC.out]; exact (sel_full _ _ hTall).symm
        subst hnC2
        have hd1 : decide (0 < n2) = false := by rw [decide_eq_false_iff_not]; omega
        have hd2 : (n2 == 0) = true := by rw [beq_iff_eq]; exact e0
        have hd3 : ¬ (0 : Int) < (n2 : Int) := by omega
        have hd4 : ((n2 : Int) == 0) = true := by rw [beq_iff_eq]; omega
        rw [if_pos hT]
        have HT := Lib.hid hT
        have HTall := Lib.hid hTall
        have He0 := Lib.hid e0
        clear hd0 hT hTall Hcase e0
        go_wp2_with fail
        refine hcC.mono ?_
        rintro e w' ⟨rfl, rfl⟩
        go_wp2_with fail
        clear hd1 hd2 hd3 hd4
        clear hcC
        go_loopg [25, 26] n2 (fun gk vb vi wr => ∃ i : Nat, i ≤ n2 ∧ gk + i = n2 ∧ vi = .int .i64 i ∧ vb = .int .i64 (bestE (timeFrom P l lad v) ys i) ∧ Below w7.heap.size w7 wr)
        case atStart => exact ⟨0, by omega, by omega, rfl, rfl, Below.refl _ _⟩
        case round =>
          obtain ⟨i, hi2, hgk, rfl, rfl, hb⟩ := hrel
          obtain ⟨gko, hgko⟩ : ∃ gko, gko = gk := ⟨_, rfl⟩
          have Hgko := Lib.hid hgko
          have Hgk := Lib.hid hgk
          have hbs := hb.size
          clear hgk hgko
          have hqi : IntKind.i64.wrap ((i : Int) + 1) = (i : Int) + 1 := IntWalk.i64_in _ (by omega)
          by_cases hlti : i < n2
          · have := He0.out; omega
          · have hie : i = n2 := by omega
            have hdi : ¬ (i : Int) < (n2 : Int) := by omega
            subst hie
            have rL8 := rL7.below hb (by omega)
            have rE8 : Ints wr W2.heap.size A2 i ys := Reads.below rE7 hb (by omega)
            have hbs8 : w7.heap.size ≤ wr.heap.size := hb.size
            have B8 := Lib.hid (B17.out.trans (hb.mono (show w.heap.size ≤ w7.heap.size by omega)))
            have hb8 := Lib.hid hb
            obtain ⟨W8, hW8⟩ : ∃ W8, W8 = wr := ⟨_, rfl⟩
            subst hW8
            clear rL7 rE7 hb Hgk Hgko hqi B17 Hone Honeall Hlen Hbest
            have hcEc := hcE
            have hbe : bestE (timeFrom P l lad v) ys i = -1 := by
              rcases Hend.out with ⟨_, h⟩ | ⟨h, _⟩
              · exact h
              · have := HT.out; omega
            rw [hbe]
            clear hbe Hend Htop2
            go_wp2_with fail
            go_loopg [30] P (fun gk vk wr => ∃ k : Nat, k ≤ P ∧ gk + k = P ∧ vk = .int .i64 k ∧ Below W8.heap.size W8 wr)
            case atStart => exact ⟨0, by omega, by omega, rfl, Below.refl _ _⟩
            case round =>
              obtain ⟨k, hk, hgk, rfl, hb⟩ := hrel
              have Hgk := Lib.hid hgk
              have hbs := hb.size
              clear hgk
              have hqk : IntKind.i64.wrap ((k : Int) + 1) = (k : Int) + 1 := IntWalk.i64_in _ (by omega)
              by_cases hltk : k < P
              · have hk1 : (k : Int) < (P : Int) := by omega
                have HF : Hid (∃ fe fx fc : Int, rNear P l k ys lad = (fe, fx, fc) ∧ fc = 3) := Lib.hid (by
                  rcases HnF.out k hltk with ⟨h, e⟩ | ⟨h, ne', _, e⟩
                  · exact ⟨_, _, _, e, rfl⟩
                  · have := HTall.out k hltk; omega)
                have HG : Hid (∃ fe fx fc : Int, rNear P l k ys false = (fe, fx, fc) ∧ ((fc = 3 ∧ decide (0 ≤ nth (timesR P l ys false) k) = false) ∨ (fc = 0 ∧ decide (0 ≤ nth (timesR P l ys false) k) = true))) := Lib.hid (by
                  rcases HnG.out k hltk with ⟨h, e⟩ | ⟨h, ne', _, e⟩
                  · exact ⟨_, _, _, e, .inl ⟨rfl, by rw [decide_eq_false_iff_not]; omega⟩⟩
                  · exact ⟨_, _, _, e, .inr ⟨rfl, by rw [decide_eq_true_eq]; exact h⟩⟩)
                have HH : Hid (∃ fe fx fc : Int, rNear P l k ys true = (fe, fx, fc) ∧ ((fc = 3 ∧ decide (0 ≤ nth (timesR P l ys true) k) = false) ∨ (fc = 0 ∧ decide (0 ≤ nth (timesR P l ys true) k) = true))) := Lib.hid (by
                  rcases HnH.out k hltk with ⟨h, e⟩ | ⟨h, ne', _, e⟩
                  · exact ⟨_, _, _, e, .inl ⟨rfl, by rw [decide_eq_false_iff_not]; omega⟩⟩
                  · exact ⟨_, _, _, e, .inr ⟨rfl, by rw [decide_eq_true_eq]; exact h⟩⟩)
                have rLa := rL8.below hb (by omega)
                have rEa : Ints wr W2.heap.size A2 i ys := Reads.below rE8 hb (by omega)
                clear HnF HnG HnH
                obtain ⟨fe, fx, fc, eF, hF⟩ := HF.out
                have hF' := Lib.hid hF
                clear HF hF
                go_wp2_with fail
                refine (specNearestExit_any (p := (P : Int)) (src := (k : Int)) (lad := lad) rLa (by omega) hcl (by omega) rEa (by omega) hcEc (by omega)).mono ?_
                rintro e wa ⟨rfl, b9⟩
                rw [eF]
                clear eF
                have rLb := rLa.below b9 (by omega)
                have rEb : Ints wa W2.heap.size A2 i ys := Reads.below rEa b9 (by omega)
                have hb9 : Below W8.heap.size W8 wa := hb.trans (b9.mono hbs)
                have hbs9 := hb9.size
                clear rLa rEa b9
                obtain ⟨ge, gx, gc, eG, hG⟩ := HG.out
                have hG' := Lib.hid hG
                clear HG hG
                go_wp2_with fail
                refine (specNearestExit_any (p := (P : Int)) (src := (k : Int)) (lad := false) rLb (by omega) hcl (by omega) rEb (by omega) hcEc (by omega)).mono ?_
                rintro e wb ⟨rfl, b10⟩
                rw [eG]
                clear eG
                have rLc := rLb.below b10 (by omega)
                have rEc : Ints wb W2.heap.size A2 i ys := Reads.below rEb b10 (by omega)
                have hb10 : Below W8.heap.size W8 wb := hb9.trans (b10.mono hbs9)
                have hbs10 := hb10.size
                clear rLb rEb b10 hb9
                obtain ⟨he, hx, hc, eH, hH⟩ := HH.out
                have hH' := Lib.hid hH
                clear HH hH
                go_wp2_with fail
                refine (specNearestExit_any (p := (P : Int)) (src := (k : Int)) (lad := true) rLc (by omega) hcl (by omega) rEc (by omega) hcEc (by omega)).mono ?_
                rintro e wc' ⟨rfl, b11⟩
                rw [eH]
                clear eH
                have hb11 : Below W8.heap.size W8 wc' := hb10.trans (b11.mono hbs10)
                have hcN := HasN.out k wc' hltk (hb8.out.trans (hb11.mono hbs8))
                clear rLc rEc b11 hb10
                rcases hF'.out with rfl
                all_goals
                  skip
                  rcases hG'.out with ⟨rfl, dG⟩ | ⟨rfl, dG⟩
                  · rcases hH'.out with ⟨rfl, dH⟩ | ⟨rfl, dH⟩
                    all_goals
                      simp only [dG, dH, Bool.not_false, Bool.true_and] at hcN
                      clear hF' hG' hH' dG dH
                      go_wp2_with fail
                      refine hcN.mono ?_
                      rintro e w' ⟨rfl, rfl⟩
                      go_wp2_with fail
                      have hgk := Hgk.out
                      go_roundg (gk - 1)
                      case rel => exact ⟨k + 1, by omega, by omega, by go_num, hb11⟩
                      case measure => omega
                  · simp only [dG, Bool.not_true, Bool.false_and] at hcN
                    clear hF' hG' hH' dG
                    go_wp2_with fail
                    refine hcN.mono ?_
                    rintro e w' ⟨rfl, rfl⟩
                    go_wp2_with fail
                    have hgk := Hgk.out
                    go_roundg (gk - 1)
                    case rel => exact ⟨k + 1, by omega, by omega, by go_num, hb11⟩
                    case measure => omega
              · have hdk : ¬ (k : Int) < (P : Int) := by omega
                skip
                go_wp2_with fail
                go_ret
                exact ⟨rfl, B8.out.trans (hb.mono (show w.heap.size ≤ W8.heap.size by omega))⟩
      · as_aux_lemma =>
        have hd0 : decide (nth (timesR P l ys lad) v < 0) = true := by rw [decide_eq_true_eq]; exact hT
        rw [hd0] at hcC
        have hd1 : decide (0 < n2) = true := by rw [decide_eq_true_eq]; exact e0
        have hd2 : (n2 == 0) = false := by rw [beq_eq_false_iff_ne]; omega
        have hd3 : (0 : Int) < (n2 : Int) := by omega
        have hd4 : ((n2 : Int) == 0) = false := by rw [beq_eq_false_iff_ne]; omega
        rw [if_pos hT]
        have HT := Lib.hid hT
        have Hwt := Lib.hid hwt
        clear hd0 hT hwt Hcase
        go_wp2_with fail
        refine hcC.mono ?_
        rintro e w' ⟨rfl, rfl⟩
        go_wp2_with fail
        clear hcC
        go_loopg [25, 26] n2 (fun gk vb vi wr => ∃ i : Nat, i ≤ n2 ∧ gk + i = n2 ∧ vi = .int .i64 i ∧ vb = .int .i64 (bestE (timeFrom P l lad v) ys i) ∧ Below w7.heap.size w7 wr)
        case atStart => exact ⟨0, by omega, by omega, rfl, rfl, Below.refl _ _⟩
        case round =>
          obtain ⟨i, hi2, hgk, rfl, rfl, hb⟩ := hrel
          obtain ⟨gko, hgko⟩ : ∃ gko, gko = gk := ⟨_, rfl⟩
          have Hgko := Lib.hid hgko
          have Hgk := Lib.hid hgk
          have hbs := hb.size
          clear hgk hgko
          have hqi : IntKind.i64.wrap ((i : Int) + 1) = (i : Int) + 1 := IntWalk.i64_in _ (by omega)
          by_cases hlti : i < n2
          · obtain ⟨adE, rfl, hblE, cE⟩ := Ints.at_ (Reads.below rE7 hb (by omega)) hlti
            have hi0 : (0 : Int) ≤ (i : Int) := by omega
            have hi1 : (i : Int) < (n2 : Int) := by omega
            go_wp2_with fail
            refine (specTimesTo_any (p := (P : Int)) (to := nth ys i) (lad := lad) (Reads.below rL7 hb (by omega)) (by omega) hcl (by omega)).mono ?_
            rintro e w8 ⟨AT, nt8, ct8, rfl, hnt8, oT, b8⟩
            rw [Hone.out i hlti] at oT
            rw [Hone.out i hlti]
            have rT : Ints w8 w8.heap.size AT nt8 (timesR P l [nth ys i] lad) := oT.reads
            have hnt9 : P = nt8 := by have := rT.len; rw [Hlen.out] at this; exact this
            subst hnt9
            have hb8 : Below w7.heap.size w7 w8 := hb.trans (b8.mono hbs)
            have hbs8 := b8.size
            have hbs9 : w7.heap.size ≤ w8.heap.size := by omega
            obtain ⟨adT, rfl, hblT, cT⟩ := rT.at_ hv
            have Hs : Hid (bestE (timeFrom P l lad v) ys (i + 1) = if decide (0 ≤ nth (timesR P l [nth ys i] lad) v) && (decide (bestE (timeFrom P l lad v) ys i < 0) || decide (nth (timesR P l [nth ys i] lad) v < bestE (timeFrom P l lad v) ys i)) then nth (timesR P l [nth ys i] lad) v else bestE (timeFrom P l lad v) ys i) := Lib.hid (Hbest.out i hlti)
            have HoneA := Lib.hid (Honeall.out i hlti)
            clear oT b8 hb cE Hone Honeall Hlen Hbest Hend HnF HnG HnH rL7 rE7 B17 HasN HasE Htop Htop2
            generalize timesR P l [nth ys i] lad = T1 at *
            obtain ⟨tv, htv⟩ : ∃ tv, nth T1 v = tv := ⟨_, rfl⟩
            rw [htv] at Hs cT
            clear htv
            obtain ⟨bi, hbi⟩ : ∃ bi, bestE (timeFrom P l lad v) ys i = bi := ⟨_, rfl⟩
            rw [hbi] at Hs ⊢
            clear hbi
            have h4 : (¬ 0 ≤ tv) ∨ (0 ≤ tv ∧ bi < 0) ∨ (0 ≤ tv ∧ ¬ bi < 0 ∧ tv < bi) ∨ (0 ≤ tv ∧ ¬ bi < 0 ∧ ¬ tv < bi) := by omega
            rcases h4 with q | ⟨q, q1⟩ | ⟨q, q1, q2⟩ | ⟨q, q1, q2⟩
            · have d0 : decide (0 ≤ tv) = false := by rw [decide_eq_false_iff_not]; exact q
              rw [d0] at Hs
              have Hs2 : Hid (bestE (timeFrom P l lad v) ys (i + 1) = bi) := Lib.hid (by have := Hs.out; simpa using this)
              clear Hs
              go_wp2_with fail
              go_loopg [29] P (fun gk vk wr => ∃ k : Nat, k ≤ P ∧ gk + k = P ∧ vk = .int .i64 k ∧ Below w8.heap.size w8 wr)
              case atStart => exact ⟨0, by omega, by omega, rfl, Below.refl _ _⟩
              case round =>
                clear cT
                obtain ⟨k, hk, hgk3, rfl, hb⟩ := hrel
                have Hgk3 := Lib.hid hgk3
                have hbs := hb.size
                clear hgk3
                have hqk : IntKind.i64.wrap ((k : Int) + 1) = (k : Int) + 1 := IntWalk.i64_in _ (by omega)
                by_cases hltk : k < P
                · obtain ⟨ad1, e1, _, cK⟩ := Ints.at_ (Reads.below rT hb (Nat.le_refl _)) hltk
                  injection e1 with e1
                  subst e1
                  have hk0 : (0 : Int) ≤ (k : Int) := by omega
                  have hk1 : (k : Int) < (P : Int) := by omega
                  by_cases q9 : 0 ≤ nth T1 k
                  · have hcK := HasC.out k wr hltk (hb8.trans (hb.mono hbs9))
                    rw [show decide (nth (timesR P l ys lad) k < 0) = false from by rw [decide_eq_false_iff_not]; have := HoneA.out k hltk q9; omega] at hcK
                    have d9 : decide (0 ≤ nth T1 k) = true := by rw [decide_eq_true_eq]; exact q9
                    go_wp2_with fail
                    refine hcK.mono ?_
                    rintro e w' ⟨rfl, rfl⟩
                    go_wp2_with fail
                    have hgk := Hgk3.out
                    go_roundg (gk - 1)
                    case rel => exact ⟨k + 1, by omega, by omega, by go_num, hb⟩
                    case measure => omega
                  · have d9 : decide (0 ≤ nth T1 k) = false := by rw [decide_eq_false_iff_not]; exact q9
                    go_wp2_with fail
                    have hgk := Hgk3.out
                    go_roundg (gk - 1)
                    case rel => exact ⟨k + 1, by omega, by omega, by go_num, hb⟩
                    case measure => omega
                · have hdk : ¬ (k : Int) < (P : Int) := by omega
                  have hgko := Hgko.out
                  have hgk := Hgk.out
                  go_wp2_with fail
                  go_roundg (gko - 1)
                  case rel => exact ⟨i + 1, by omega, by omega, by go_num, by rw [Hs2.out], hb8.trans (hb.mono hbs9)⟩
                  case measure => omega
            · have d0 : decide (0 ≤ tv) = true := by rw [decide_eq_true_eq]; exact q
              have d1 : decide (bi < 0) = true := by rw [decide_eq_true_eq]; exact q1
              rw [d0, d1] at Hs
              have Hs2 : Hid (bestE (timeFrom P l lad v) ys (i + 1) = tv) := Lib.hid (by have := Hs.out; simpa using this)
              clear Hs
              go_wp2_with fail
              go_loopg [29] P (fun gk vk wr => ∃ k : Nat, k ≤ P ∧ gk + k = P ∧ vk = .int .i64 k ∧ Below w8.heap.size w8 wr)
              case atStart => exact ⟨0, by omega, by omega, rfl, Below.refl _ _⟩
              case round =>
                clear cT
                obtain ⟨k, hk, hgk3, rfl, hb⟩ := hrel
                have Hgk3 := Lib.hid hgk3
                have hbs := hb.size
                clear hgk3
                have hqk : IntKind.i64.wrap ((k : Int) + 1) = (k : Int) + 1 := IntWalk.i64_in _ (by omega)
                by_cases hltk : k < P
                · obtain ⟨ad1, e1, _, cK⟩ := Ints.at_ (Reads.below rT hb (Nat.le_refl _)) hltk
                  injection e1 with e1
                  subst e1
                  have hk0 : (0 : Int) ≤ (k : Int) := by omega
                  have hk1 : (k : Int) < (P : Int) := by omega
                  by_cases q9 : 0 ≤ nth T1 k
                  · have hcK := HasC.out k wr hltk (hb8.trans (hb.mono hbs9))
                    rw [show decide (nth (timesR P l ys lad) k < 0) = false from by rw [decide_eq_false_iff_not]; have := HoneA.out k hltk q9; omega] at hcK
                    have d9 : decide (0 ≤ nth T1 k) = true := by rw [decide_eq_true_eq]; exact q9
                    go_wp2_with fail
                    refine hcK.mono ?_
                    rintro e w' ⟨rfl, rfl⟩
                    go_wp2_with fail
                    have hgk := Hgk3.out
                    go_roundg (gk - 1)
                    case rel => exact ⟨k + 1, by omega, by omega, by go_num, hb⟩
                    case measure => omega
                  · have d9 : decide (0 ≤ nth T1 k) = false := by rw [decide_eq_false_iff_not]; exact q9
                    go_wp2_with fail
                    have hgk := Hgk3.out
                    go_roundg (gk - 1)
                    case rel => exact ⟨k + 1, by omega, by omega, by go_num, hb⟩
                    case measure => omega
                · have hdk : ¬ (k : Int) < (P : Int) := by omega
                  have hgko := Hgko.out
                  have hgk := Hgk.out
                  go_wp2_with fail
                  go_roundg (gko - 1)
                  case rel => exact ⟨i + 1, by omega, by omega, by go_num, by rw [Hs2.out], hb8.trans (hb.mono hbs9)⟩
                  case measure => omega
            · have d0 : decide (0 ≤ tv) = true := by rw [decide_eq_true_eq]; exact q
              have d1 : decide (bi < 0) = false := by rw [decide_eq_false_iff_not]; exact q1
              have d2 : decide (tv < bi) = true := by rw [decide_eq_true_eq]; exact q2
              rw [d0, d1, d2] at Hs
              have Hs2 : Hid (bestE (timeFrom P l lad v) ys (i + 1) = tv) := Lib.hid (by have := Hs.out; simpa using this)
              clear Hs
              go_wp2_with fail
              go_loopg [29] P (fun gk vk wr => ∃ k : Nat, k ≤ P ∧ gk + k = P ∧ vk = .int .i64 k ∧ Below w8.heap.size w8 wr)
              case atStart => exact ⟨0, by omega, by omega, rfl, Below.refl _ _⟩
              case round =>
                clear cT
                obtain ⟨k, hk, hgk3, rfl, hb⟩ := hrel
                have Hgk3 := Lib.hid hgk3
                have hbs := hb.size
                clear hgk3
                have hqk : IntKind.i64.wrap ((k : Int) + 1) = (k : Int) + 1 := IntWalk.i64_in _ (by omega)
                by_cases hltk : k < P
                · obtain ⟨ad1, e1, _, cK⟩ := Ints.at_ (Reads.below rT hb (Nat.le_refl _)) hltk
                  injection e1 with e1
                  subst e1
                  have hk0 : (0 : Int) ≤ (k : Int) := by omega
                  have hk1 : (k : Int) < (P : Int) := by omega
                  by_cases q9 : 0 ≤ nth T1 k
                  · have hcK := HasC.out k wr hltk (hb8.trans (hb.mono hbs9))
                    rw [show decide (nth (timesR P l ys lad) k < 0) = false from by rw [decide_eq_false_iff_not]; have := HoneA.out k hltk q9; omega] at hcK
                    have d9 : decide (0 ≤ nth T1 k) = true := by rw [decide_eq_true_eq]; exact q9
                    go_wp2_with fail
                    refine hcK.mono ?_
                    rintro e w' ⟨rfl, rfl⟩
                    go_wp2_with fail
                    have hgk := Hgk3.out
                    go_roundg (gk - 1)
                    case rel => exact ⟨k + 1, by omega, by omega, by go_num, hb⟩
                    case measure => omega
                  · have d9 : decide (0 ≤ nth T1 k) = false := by rw [decide_eq_false_iff_not]; exact q9
                    go_wp2_with fail
                    have hgk := Hgk3.out
                    go_roundg (gk - 1)
                    case rel => exact ⟨k + 1, by omega, by omega, by go_num, hb⟩
                    case measure => omega
                · have hdk : ¬ (k : Int) < (P : Int) := by omega
                  have hgko := Hgko.out
                  have hgk := Hgk.out
                  go_wp2_with fail
                  go_roundg (gko - 1)
                  case rel => exact ⟨i + 1, by omega, by omega, by go_num, by rw [Hs2.out], hb8.trans (hb.mono hbs9)⟩
                  case measure => omega
            · have d0 : decide (0 ≤ tv) = true := by rw [decide_eq_true_eq]; exact q
              have d1 : decide (bi < 0) = false := by rw [decide_eq_false_iff_not]; exact q1
              have d2 : decide (tv < bi) = false := by rw [decide_eq_false_iff_not]; exact q2
              rw [d0, d1, d2] at Hs
              have Hs2 : Hid (bestE (timeFrom P l lad v) ys (i + 1) = bi) := Lib.hid (by have := Hs.out; simpa using this)
              clear Hs
              go_wp2_with fail
              go_loopg [29] P (fun gk vk wr => ∃ k : Nat, k ≤ P ∧ gk + k = P ∧ vk = .int .i64 k ∧ Below w8.heap.size w8 wr)
              case atStart => exact ⟨0, by omega, by omega, rfl, Below.refl _ _⟩
              case round =>
                clear cT
                obtain ⟨k, hk, hgk3, rfl, hb⟩ := hrel
                have Hgk3 := Lib.hid hgk3
                have hbs := hb.size
                clear hgk3
                have hqk : IntKind.i64.wrap ((k : Int) + 1) = (k : Int) + 1 := IntWalk.i64_in _ (by omega)
                by_cases hltk : k < P
                · obtain ⟨ad1, e1, _, cK⟩ := Ints.at_ (Reads.below rT hb (Nat.le_refl _)) hltk
                  injection e1 with e1
                  subst e1
                  have hk0 : (0 : Int) ≤ (k : Int) := by omega
                  have hk1 : (k : Int) < (P : Int) := by omega
                  by_cases q9 : 0 ≤ nth T1 k
                  · have hcK := HasC.out k wr hltk (hb8.trans (hb.mono hbs9))
                    rw [show decide (nth (timesR P l ys lad) k < 0) = false from by rw [decide_eq_false_iff_not]; have := HoneA.out k hltk q9; omega] at hcK
                    have d9 : decide (0 ≤ nth T1 k) = true := by rw [decide_eq_true_eq]; exact q9
                    go_wp2_with fail
                    refine hcK.mono ?_
                    rintro e w' ⟨rfl, rfl⟩
                    go_wp2_with fail
                    have hgk := Hgk3.out
                    go_roundg (gk - 1)
                    case rel => exact ⟨k + 1, by omega, by omega, by go_num, hb⟩
                    case measure => omega
                  · have d9 : decide (0 ≤ nth T1 k) = false := by rw [decide_eq_false_iff_not]; exact q9
                    go_wp2_with fail
                    have hgk := Hgk3.out
                    go_roundg (gk - 1)
                    case rel => exact ⟨k + 1, by omega, by omega, by go_num, hb⟩
                    case measure => omega
                · have hdk : ¬ (k : Int) < (P : Int) := by omega
                  have hgko := Hgko.out
                  have hgk := Hgk.out
                  go_wp2_with fail
                  go_roundg (gko - 1)
                  case rel => exact ⟨i + 1, by omega, by omega, by go_num, by rw [Hs2.out], hb8.trans (hb.mono hbs9)⟩
                  case measure => omega
          · have hie : i = n2 := by omega
            have hdi : ¬ (i : Int) < (n2 : Int) := by omega
            subst hie
            have rL8 := rL7.below hb (by omega)
            have rE8 : Ints wr W2.heap.size A2 i ys := Reads.below rE7 hb (by omega)
            have hbs8 : w7.heap.size ≤ wr.heap.size := hb.size
            have B8 := Lib.hid (B17.out.trans (hb.mono (show w.heap.size ≤ w7.heap.size by omega)))
            have hb8 := Lib.hid hb
            obtain ⟨W8, hW8⟩ : ∃ W8, W8 = wr := ⟨_, rfl⟩
            subst hW8
            clear rL7 rE7 hb Hgk Hgko hqi B17 Hone Honeall Hlen Hbest
            have hcEc := hcE
            have hbe : bestE (timeFrom P l lad v) ys i = -1 := by
              rcases Hend.out with ⟨_, h⟩ | ⟨h, _⟩
              · exact h
              · have := HT.out; omega
            rw [hbe]
            clear hbe Hend Htop2
            go_wp2_with fail
            go_loopg [30] P (fun gk vk wr => ∃ k : Nat, k ≤ P ∧ gk + k = P ∧ vk = .int .i64 k ∧ Below W8.heap.size W8 wr)
            case atStart => exact ⟨0, by omega, by omega, rfl, Below.refl _ _⟩
            case round =>
              obtain ⟨k, hk, hgk, rfl, hb⟩ := hrel
              have Hgk := Lib.hid hgk
              have hbs := hb.size
              clear hgk
              have hqk : IntKind.i64.wrap ((k : Int) + 1) = (k : Int) + 1 := IntWalk.i64_in _ (by omega)
              by_cases hltk : k < P
              · have hk1 : (k : Int) < (P : Int) := by omega
                have HF : Hid (∃ fe fx fc : Int, rNear P l k ys lad = (fe, fx, fc) ∧ (fc = 3 ∨ (fc = 0 ∧ fx = wt ∧ ((k : Int) == wv) = true) ∨ (fc = 0 ∧ fx ≤ wt ∧ ((k : Int) == wv) = false))) := Lib.hid (by
                  rcases HnF.out k hltk with ⟨h, e⟩ | ⟨h, ne', _, e⟩
                  · exact ⟨_, _, _, e, .inl rfl⟩
                  · have hm := Hwt.out k hltk
                    by_cases ek : (k : Int) = wv
                    · exact ⟨_, _, _, e, .inr (.inl ⟨rfl, hm.2 ek, by rw [beq_iff_eq]; exact ek⟩)⟩
                    · exact ⟨_, _, _, e, .inr (.inr ⟨rfl, hm.1, by rw [beq_eq_false_iff_ne]; exact ek⟩)⟩)
                have HG : Hid (∃ fe fx fc : Int, rNear P l k ys false = (fe, fx, fc) ∧ ((fc = 3 ∧ decide (0 ≤ nth (timesR P l ys false) k) = false) ∨ (fc = 0 ∧ decide (0 ≤ nth (timesR P l ys false) k) = true))) := Lib.hid (by
                  rcases HnG.out k hltk with ⟨h, e⟩ | ⟨h, ne', _, e⟩
                  · exact ⟨_, _, _, e, .inl ⟨rfl, by rw [decide_eq_false_iff_not]; omega⟩⟩
                  · exact ⟨_, _, _, e, .inr ⟨rfl, by rw [decide_eq_true_eq]; exact h⟩⟩)
                have HH : Hid (∃ fe fx fc : Int, rNear P l k ys true = (fe, fx, fc) ∧ ((fc = 3 ∧ decide (0 ≤ nth (timesR P l ys true) k) = false) ∨ (fc = 0 ∧ decide (0 ≤ nth (timesR P l ys true) k) = true))) := Lib.hid (by
                  rcases HnH.out k hltk with ⟨h, e⟩ | ⟨h, ne', _, e⟩
                  · exact ⟨_, _, _, e, .inl ⟨rfl, by rw [decide_eq_false_iff_not]; omega⟩⟩
                  · exact ⟨_, _, _, e, .inr ⟨rfl, by rw [decide_eq_true_eq]; exact h⟩⟩)
                have rLa := rL8.below hb (by omega)
                have rEa : Ints wr W2.heap.size A2 i ys := Reads.below rE8 hb (by omega)
                clear HnF HnG HnH
                obtain ⟨fe, fx, fc, eF, hF⟩ := HF.out
                have hF' := Lib.hid hF
                clear HF hF
                go_wp2_with fail
                refine (specNearestExit_any (p := (P : Int)) (src := (k : Int)) (lad := lad) rLa (by omega) hcl (by omega) rEa (by omega) hcEc (by omega)).mono ?_
                rintro e wa ⟨rfl, b9⟩
                rw [eF]
                clear eF
                have rLb := rLa.below b9 (by omega)
                have rEb : Ints wa W2.heap.size A2 i ys := Reads.below rEa b9 (by omega)
                have hb9 : Below W8.heap.size W8 wa := hb.trans (b9.mono hbs)
                have hbs9 := hb9.size
                clear rLa rEa b9
                obtain ⟨ge, gx, gc, eG, hG⟩ := HG.out
                have hG' := Lib.hid hG
                clear HG hG
                go_wp2_with fail
                refine (specNearestExit_any (p := (P : Int)) (src := (k : Int)) (lad := false) rLb (by omega) hcl (by omega) rEb (by omega) hcEc (by omega)).mono ?_
                rintro e wb ⟨rfl, b10⟩
                rw [eG]
                clear eG
                have rLc := rLb.below b10 (by omega)
                have rEc : Ints wb W2.heap.size A2 i ys := Reads.below rEb b10 (by omega)
                have hb10 : Below W8.heap.size W8 wb := hb9.trans (b10.mono hbs9)
                have hbs10 := hb10.size
                clear rLb rEb b10 hb9
                obtain ⟨he, hx, hc, eH, hH⟩ := HH.out
                have hH' := Lib.hid hH
                clear HH hH
                go_wp2_with fail
                refine (specNearestExit_any (p := (P : Int)) (src := (k : Int)) (lad := true) rLc (by omega) hcl (by omega) rEc (by omega) hcEc (by omega)).mono ?_
                rintro e wc' ⟨rfl, b11⟩
                rw [eH]
                clear eH
                have hb11 : Below W8.heap.size W8 wc' := hb10.trans (b11.mono hbs10)
                have hcN := HasN.out k wc' hltk (hb8.out.trans (hb11.mono hbs8))
                clear rLc rEc b11 hb10
                rcases hF'.out with rfl | ⟨rfl, rfl, hkw⟩ | ⟨rfl, hfx, hkw⟩
                all_goals
                  try have hdx : decide (wt < fx) = false := by rw [decide_eq_false_iff_not]; omega
                  rcases hG'.out with ⟨rfl, dG⟩ | ⟨rfl, dG⟩
                  · rcases hH'.out with ⟨rfl, dH⟩ | ⟨rfl, dH⟩
                    all_goals
                      simp only [dG, dH, Bool.not_false, Bool.true_and] at hcN
                      clear hF' hG' hH' dG dH
                      go_wp2_with fail
                      refine hcN.mono ?_
                      rintro e w' ⟨rfl, rfl⟩
                      go_wp2_with fail
                      have hgk := Hgk.out
                      go_roundg (gk - 1)
                      case rel => exact ⟨k + 1, by omega, by omega, by go_num, hb11⟩
                      case measure => omega
                  · simp only [dG, Bool.not_true, Bool.false_and] at hcN
                    clear hF' hG' hH' dG
                    go_wp2_with fail
                    refine hcN.mono ?_
                    rintro e w' ⟨rfl, rfl⟩
                    go_wp2_with fail
                    have hgk := Hgk.out
                    go_roundg (gk - 1)
                    case rel => exact ⟨k + 1, by omega, by omega, by go_num, hb11⟩
                    case measure => omega
              · have hdk : ¬ (k : Int) < (P : Int) := by omega
                have dw0 : decide (0 ≤ wv) = true := by rw [decide_eq_true_eq]; exact hwv0
                have dw1 : decide (wv < (P : Int)) = true := by rw [decide_eq_true_eq]; exact hwv1
                go_wp2_with fail
                go_ret
                exact ⟨rfl, B8.out.trans (hb.mono (show w.heap.size ≤ W8.heap.size by omega))⟩
      · as_aux_lemma =>
        have hd0 : decide (nth (timesR P l ys lad) v < 0) = false := by rw [decide_eq_false_iff_not]; omega
        rw [hd0] at hcC
        have hd1 : decide (0 < n2) = true := by rw [decide_eq_true_eq]; exact e0
        have hd2 : (n2 == 0) = false := by rw [beq_eq_false_iff_ne]; omega
        have hd3 : (0 : Int) < (n2 : Int) := by omega
        have hd4 : ((n2 : Int) == 0) = false := by rw [beq_eq_false_iff_ne]; omega
        rw [if_neg (by omega)]
        have HT := Lib.hid hT
        have Hwt := Lib.hid hwt
        have Hnt := Lib.hid hnt
        have Hmem := Lib.hid hmem
        clear hd0 hT hwt Hcase hnt hmem
        go_wp2_with fail
        refine hcC.mono ?_
        rintro e w' ⟨rfl, rfl⟩
        go_wp2_with fail
        clear hcC
        go_loopg [25, 26] n2 (fun gk vb vi wr => ∃ i : Nat, i ≤ n2 ∧ gk + i = n2 ∧ vi = .int .i64 i ∧ vb = .int .i64 (bestE (timeFrom P l lad v) ys i) ∧ Below w7.heap.size w7 wr)
        case atStart => exact ⟨0, by omega, by omega, rfl, rfl, Below.refl _ _⟩
        case round =>
          obtain ⟨i, hi2, hgk, rfl, rfl, hb⟩ := hrel
          obtain ⟨gko, hgko⟩ : ∃ gko, gko = gk := ⟨_, rfl⟩
          have Hgko := Lib.hid hgko
          have Hgk := Lib.hid hgk
          have hbs := hb.size
          clear hgk hgko
          have hqi : IntKind.i64.wrap ((i : Int) + 1) = (i : Int) + 1 := IntWalk.i64_in _ (by omega)
          by_cases hlti : i < n2
          · obtain ⟨adE, rfl, hblE, cE⟩ := Ints.at_ (Reads.below rE7 hb (by omega)) hlti
            have hi0 : (0 : Int) ≤ (i : Int) := by omega
            have hi1 : (i : Int) < (n2 : Int) := by omega
            go_wp2_with fail
            refine (specTimesTo_any (p := (P : Int)) (to := nth ys i) (lad := lad) (Reads.below rL7 hb (by omega)) (by omega) hcl (by omega)).mono ?_
            rintro e w8 ⟨AT, nt8, ct8, rfl, hnt8, oT, b8⟩
            rw [Hone.out i hlti] at oT
            rw [Hone.out i hlti]
            have rT : Ints w8 w8.heap.size AT nt8 (timesR P l [nth ys i] lad) := oT.reads
            have hnt9 : P = nt8 := by have := rT.len; rw [Hlen.out] at this; exact this
            subst hnt9
            have hb8 : Below w7.heap.size w7 w8 := hb.trans (b8.mono hbs)
            have hbs8 := b8.size
            have hbs9 : w7.heap.size ≤ w8.heap.size := by omega
            obtain ⟨adT, rfl, hblT, cT⟩ := rT.at_ hv
            have Hs : Hid (bestE (timeFrom P l lad v) ys (i + 1) = if decide (0 ≤ nth (timesR P l [nth ys i] lad) v) && (decide (bestE (timeFrom P l lad v) ys i < 0) || decide (nth (timesR P l [nth ys i] lad) v < bestE (timeFrom P l lad v) ys i)) then nth (timesR P l [nth ys i] lad) v else bestE (timeFrom P l lad v) ys i) := Lib.hid (Hbest.out i hlti)
            have HoneA := Lib.hid (Honeall.out i hlti)
            clear oT b8 hb cE Hone Honeall Hlen Hbest Hend HnF HnG HnH rL7 rE7 B17 HasN HasE Htop Htop2
            generalize timesR P l [nth ys i] lad = T1 at *
            obtain ⟨tv, htv⟩ : ∃ tv, nth T1 v = tv := ⟨_, rfl⟩
            rw [htv] at Hs cT
            clear htv
            obtain ⟨bi, hbi⟩ : ∃ bi, bestE (timeFrom P l lad v) ys i = bi := ⟨_, rfl⟩
            rw [hbi] at Hs ⊢
            clear hbi
            have h4 : (¬ 0 ≤ tv) ∨ (0 ≤ tv ∧ bi < 0) ∨ (0 ≤ tv ∧ ¬ bi < 0 ∧ tv < bi) ∨ (0 ≤ tv ∧ ¬ bi < 0 ∧ ¬ tv < bi) := by omega
            rcases h4 with q | ⟨q, q1⟩ | ⟨q, q1, q2⟩ | ⟨q, q1, q2⟩
            · have d0 : decide (0 ≤ tv) = false := by rw [decide_eq_false_iff_not]; exact q
              rw [d0] at Hs
              have Hs2 : Hid (bestE (timeFrom P l lad v) ys (i + 1) = bi) := Lib.hid (by have := Hs.out; simpa using this)
              clear Hs
              go_wp2_with fail
              go_loopg [29] P (fun gk vk wr => ∃ k : Nat, k ≤ P ∧ gk + k = P ∧ vk = .int .i64 k ∧ Below w8.heap.size w8 wr)
              case atStart => exact ⟨0, by omega, by omega, rfl, Below.refl _ _⟩
              case round =>
                clear cT
                obtain ⟨k, hk, hgk3, rfl, hb⟩ := hrel
                have Hgk3 := Lib.hid hgk3
                have hbs := hb.size
                clear hgk3
                have hqk : IntKind.i64.wrap ((k : Int) + 1) = (k : Int) + 1 := IntWalk.i64_in _ (by omega)
                by_cases hltk : k < P
                · obtain ⟨ad1, e1, _, cK⟩ := Ints.at_ (Reads.below rT hb (Nat.le_refl _)) hltk
                  injection e1 with e1
                  subst e1
                  have hk0 : (0 : Int) ≤ (k : Int) := by omega
                  have hk1 : (k : Int) < (P : Int) := by omega
                  by_cases q9 : 0 ≤ nth T1 k
                  · have hcK := HasC.out k wr hltk (hb8.trans (hb.mono hbs9))
                    rw [show decide (nth (timesR P l ys lad) k < 0) = false from by rw [decide_eq_false_iff_not]; have := HoneA.out k hltk q9; omega] at hcK
                    have d9 : decide (0 ≤ nth T1 k) = true := by rw [decide_eq_true_eq]; exact q9
                    go_wp2_with fail
                    refine hcK.mono ?_
                    rintro e w' ⟨rfl, rfl⟩
                    go_wp2_with fail
                    have hgk := Hgk3.out
                    go_roundg (gk - 1)
                    case rel => exact ⟨k + 1, by omega, by omega, by go_num, hb⟩
                    case measure => omega
                  · have d9 : decide (0 ≤ nth T1 k) = false := by rw [decide_eq_false_iff_not]; exact q9
                    go_wp2_with fail
                    have hgk := Hgk3.out
                    go_roundg (gk - 1)
                    case rel => exact ⟨k + 1, by omega, by omega, by go_num, hb⟩
                    case measure => omega
                · have hdk : ¬ (k : Int) < (P : Int) := by omega
                  have hgko := Hgko.out
                  have hgk := Hgk.out
                  go_wp2_with fail
                  go_roundg (gko - 1)
                  case rel => exact ⟨i + 1, by omega, by omega, by go_num, by rw [Hs2.out], hb8.trans (hb.mono hbs9)⟩
                  case measure => omega
            · have d0 : decide (0 ≤ tv) = true := by rw [decide_eq_true_eq]; exact q
              have d1 : decide (bi < 0) = true := by rw [decide_eq_true_eq]; exact q1
              rw [d0, d1] at Hs
              have Hs2 : Hid (bestE (timeFrom P l lad v) ys (i + 1) = tv) := Lib.hid (by have := Hs.out; simpa using this)
              clear Hs
              go_wp2_with fail
              go_loopg [29] P (fun gk vk wr => ∃ k : Nat, k ≤ P ∧ gk + k = P ∧ vk = .int .i64 k ∧ Below w8.heap.size w8 wr)
              case atStart => exact ⟨0, by omega, by omega, rfl, Below.refl _ _⟩
              case round =>
                clear cT
                obtain ⟨k, hk, hgk3, rfl, hb⟩ := hrel
                have Hgk3 := Lib.hid hgk3
                have hbs := hb.size
                clear hgk3
                have hqk : IntKind.i64.wrap ((k : Int) + 1) = (k : Int) + 1 := IntWalk.i64_in _ (by omega)
                by_cases hltk : k < P
                · obtain ⟨ad1, e1, _, cK⟩ := Ints.at_ (Reads.below rT hb (Nat.le_refl _)) hltk
                  injection e1 with e1
                  subst e1
                  have hk0 : (0 : Int) ≤ (k : Int) := by omega
                  have hk1 : (k : Int) < (P : Int) := by omega
                  by_cases q9 : 0 ≤ nth T1 k
                  · have hcK := HasC.out k wr hltk (hb8.trans (hb.mono hbs9))
                    rw [show decide (nth (timesR P l ys lad) k < 0) = false from by rw [decide_eq_false_iff_not]; have := HoneA.out k hltk q9; omega] at hcK
                    have d9 : decide (0 ≤ nth T1 k) = true := by rw [decide_eq_true_eq]; exact q9
                    go_wp2_with fail
                    refine hcK.mono ?_
                    rintro e w' ⟨rfl, rfl⟩
                    go_wp2_with fail
                    have hgk := Hgk3.out
                    go_roundg (gk - 1)
                    case rel => exact ⟨k + 1, by omega, by omega, by go_num, hb⟩
                    case measure => omega
                  · have d9 : decide (0 ≤ nth T1 k) = false := by rw [decide_eq_false_iff_not]; exact q9
                    go_wp2_with fail
                    have hgk := Hgk3.out
                    go_roundg (gk - 1)
                    case rel => exact ⟨k + 1, by omega, by omega, by go_num, hb⟩
                    case measure => omega
                · have hdk : ¬ (k : Int) < (P : Int) := by omega
                  have hgko := Hgko.out
                  have hgk := Hgk.out
                  go_wp2_with fail
                  go_roundg (gko - 1)
                  case rel => exact ⟨i + 1, by omega, by omega, by go_num, by rw [Hs2.out], hb8.trans (hb.mono hbs9)⟩
                  case measure => omega
            · have d0 : decide (0 ≤ tv) = true := by rw [decide_eq_true_eq]; exact q
              have d1 : decide (bi < 0) = false := by rw [decide_eq_false_iff_not]; exact q1
              have d2 : decide (tv < bi) = true := by rw [decide_eq_true_eq]; exact q2
              rw [d0, d1, d2] at Hs
              have Hs2 : Hid (bestE (timeFrom P l lad v) ys (i + 1) = tv) := Lib.hid (by have := Hs.out; simpa using this)
              clear Hs
              go_wp2_with fail
              go_loopg [29] P (fun gk vk wr => ∃ k : Nat, k ≤ P ∧ gk + k = P ∧ vk = .int .i64 k ∧ Below w8.heap.size w8 wr)
              case atStart => exact ⟨0, by omega, by omega, rfl, Below.refl _ _⟩
              case round =>
                clear cT
                obtain ⟨k, hk, hgk3, rfl, hb⟩ := hrel
                have Hgk3 := Lib.hid hgk3
                have hbs := hb.size
                clear hgk3
                have hqk : IntKind.i64.wrap ((k : Int) + 1) = (k : Int) + 1 := IntWalk.i64_in _ (by omega)
                by_cases hltk : k < P
                · obtain ⟨ad1, e1, _, cK⟩ := Ints.at_ (Reads.below rT hb (Nat.le_refl _)) hltk
                  injection e1 with e1
                  subst e1
                  have hk0 : (0 : Int) ≤ (k : Int) := by omega
                  have hk1 : (k : Int) < (P : Int) := by omega
                  by_cases q9 : 0 ≤ nth T1 k
                  · have hcK := HasC.out k wr hltk (hb8.trans (hb.mono hbs9))
                    rw [show decide (nth (timesR P l ys lad) k < 0) = false from by rw [decide_eq_false_iff_not]; have := HoneA.out k hltk q9; omega] at hcK
                    have d9 : decide (0 ≤ nth T1 k) = true := by rw [decide_eq_true_eq]; exact q9
                    go_wp2_with fail
                    refine hcK.mono ?_
                    rintro e w' ⟨rfl, rfl⟩
                    go_wp2_with fail
                    have hgk := Hgk3.out
                    go_roundg (gk - 1)
                    case rel => exact ⟨k + 1, by omega, by omega, by go_num, hb⟩
                    case measure => omega
                  · have d9 : decide (0 ≤ nth T1 k) = false := by rw [decide_eq_false_iff_not]; exact q9
                    go_wp2_with fail
                    have hgk := Hgk3.out
                    go_roundg (gk - 1)
                    case rel => exact ⟨k + 1, by omega, by omega, by go_num, hb⟩
                    case measure => omega
                · have hdk : ¬ (k : Int) < (P : Int) := by omega
                  have hgko := Hgko.out
                  have hgk := Hgk.out
                  go_wp2_with fail
                  go_roundg (gko - 1)
                  case rel => exact ⟨i + 1, by omega, by omega, by go_num, by rw [Hs2.out], hb8.trans (hb.mono hbs9)⟩
                  case measure => omega
            · have d0 : decide (0 ≤ tv) = true := by rw [decide_eq_true_eq]; exact q
              have d1 : decide (bi < 0) = false := by rw [decide_eq_false_iff_not]; exact q1
              have d2 : decide (tv < bi) = false := by rw [decide_eq_false_iff_not]; exact q2
              rw [d0, d1, d2] at Hs
              have Hs2 : Hid (bestE (timeFrom P l lad v) ys (i + 1) = bi) := Lib.hid (by have := Hs.out; simpa using this)
              clear Hs
              go_wp2_with fail
              go_loopg [29] P (fun gk vk wr => ∃ k : Nat, k ≤ P ∧ gk + k = P ∧ vk = .int .i64 k ∧ Below w8.heap.size w8 wr)
              case atStart => exact ⟨0, by omega, by omega, rfl, Below.refl _ _⟩
              case round =>
                clear cT
                obtain ⟨k, hk, hgk3, rfl, hb⟩ := hrel
                have Hgk3 := Lib.hid hgk3
                have hbs := hb.size
                clear hgk3
                have hqk : IntKind.i64.wrap ((k : Int) + 1) = (k : Int) + 1 := IntWalk.i64_in _ (by omega)
                by_cases hltk : k < P
                · obtain ⟨ad1, e1, _, cK⟩ := Ints.at_ (Reads.below rT hb (Nat.le_refl _)) hltk
                  injection e1 with e1
                  subst e1
                  have hk0 : (0 : Int) ≤ (k : Int) := by omega
                  have hk1 : (k : Int) < (P : Int) := by omega
                  by_cases q9 : 0 ≤ nth T1 k
                  · have hcK := HasC.out k wr hltk (hb8.trans (hb.mono hbs9))
                    rw [show decide (nth (timesR P l ys lad) k < 0) = false from by rw [decide_eq_false_iff_not]; have := HoneA.out k hltk q9; omega] at hcK
                    have d9 : decide (0 ≤ nth T1 k) = true := by rw [decide_eq_true_eq]; exact q9
                    go_wp2_with fail
                    refine hcK.mono ?_
                    rintro e w' ⟨rfl, rfl⟩
                    go_wp2_with fail
                    have hgk := Hgk3.out
                    go_roundg (gk - 1)
                    case rel => exact ⟨k + 1, by omega, by omega, by go_num, hb⟩
                    case measure => omega
                  · have d9 : decide (0 ≤ nth T1 k) = false := by rw [decide_eq_false_iff_not]; exact q9
                    go_wp2_with fail
                    have hgk := Hgk3.out
                    go_roundg (gk - 1)
                    case rel => exact ⟨k + 1, by omega, by omega, by go_num, hb⟩
                    case measure => omega
                · have hdk : ¬ (k : Int) < (P : Int) := by omega
                  have hgko := Hgko.out
                  have hgk := Hgk.out
                  go_wp2_with fail
                  go_roundg (gko - 1)
                  case rel => exact ⟨i + 1, by omega, by omega, by go_num, by rw [Hs2.out], hb8.trans (hb.mono hbs9)⟩
                  case measure => omega
          · have hie : i = n2 := by omega
            have hdi : ¬ (i : Int) < (n2 : Int) := by omega
            subst hie
            have rL8 := rL7.below hb (by omega)
            have rE8 : Ints wr W2.heap.size A2 i ys := Reads.below rE7 hb (by omega)
            have hbs8 : w7.heap.size ≤ wr.heap.size := hb.size
            have B8 := Lib.hid (B17.out.trans (hb.mono (show w.heap.size ≤ w7.heap.size by omega)))
            have hb8 := Lib.hid hb
            obtain ⟨W8, hW8⟩ : ∃ W8, W8 = wr := ⟨_, rfl⟩
            subst hW8
            clear rL7 rE7 hb Hgk Hgko hqi B17 Hone Honeall Hlen Hbest
            have hcEc := hcE
            have hbe : bestE (timeFrom P l lad v) ys i = nth (timesR P l ys lad) v := by
              rcases Hend.out with ⟨h, _⟩ | ⟨_, h⟩
              · have := HT.out; omega
              · exact h
            have hnt := Hnt.out
            have hcEx := HasE.out ne W8 Hmem.out hb8.out
            subst hnt
            rw [hbe]
            have ht0 := HT.out
            have ht1 := Htop2.out.2
            clear hbe Hend Htop2 Hnt Hmem HT HasE
            obtain ⟨tt, htt⟩ : ∃ tt, nth (timesR P l ys lad) v = tt := ⟨_, rfl⟩
            rw [htt] at ht0 ht1 ⊢
            clear htt
            have hm0 : 0 ≤ ev * (pe - 1) := Int.mul_nonneg (by omega) (by omega)
            have hm1 : ev * (pe - 1) ≤ 20 * 59 := Int.mul_le_mul (by omega) (by omega) (by omega) (by omega)
            have hq3 : IntKind.i64.wrap (pe - 1) = pe - 1 := IntWalk.i64_in _ (by omega)
            have hq4 : IntKind.i64.wrap (ev * (pe - 1)) = ev * (pe - 1) := IntWalk.i64_in _ (by omega)
            have hq5 : IntKind.i64.wrap (tt + ev * (pe - 1)) = tt + ev * (pe - 1) := IntWalk.i64_in _ (by omega)
            have hd5 : decide (0 ≤ tt) = true := by rw [decide_eq_true_eq]; exact ht0
            rw [show (pe - 1) * ev + tt = tt + ev * (pe - 1) from by rw [Int.mul_comm, Int.add_comm]]
            go_wp2_with fail
            refine hcEx.mono ?_
            rintro e w' ⟨rfl, rfl⟩
            go_wp2_with fail
            clear hq3 hq4 hq5 hm0 hm1 hd5
            go_loopg [30] P (fun gk vk wr => ∃ k : Nat, k ≤ P ∧ gk + k = P ∧ vk = .int .i64 k ∧ Below W8.heap.size W8 wr)
            case atStart => exact ⟨0, by omega, by omega, rfl, Below.refl _ _⟩
            case round =>
              obtain ⟨k, hk, hgk, rfl, hb⟩ := hrel
              have Hgk := Lib.hid hgk
              have hbs := hb.size
              clear hgk
              have hqk : IntKind.i64.wrap ((k : Int) + 1) = (k : Int) + 1 := IntWalk.i64_in _ (by omega)
              by_cases hltk : k < P
              · have hk1 : (k : Int) < (P : Int) := by omega
                have HF : Hid (∃ fe fx fc : Int, rNear P l k ys lad = (fe, fx, fc) ∧ (fc = 3 ∨ (fc = 0 ∧ fx = wt ∧ ((k : Int) == wv) = true) ∨ (fc = 0 ∧ fx ≤ wt ∧ ((k : Int) == wv) = false))) := Lib.hid (by
                  rcases HnF.out k hltk with ⟨h, e⟩ | ⟨h, ne', _, e⟩
                  · exact ⟨_, _, _, e, .inl rfl⟩
                  · have hm := Hwt.out k hltk
                    by_cases ek : (k : Int) = wv
                    · exact ⟨_, _, _, e, .inr (.inl ⟨rfl, hm.2 ek, by rw [beq_iff_eq]; exact ek⟩)⟩
                    · exact ⟨_, _, _, e, .inr (.inr ⟨rfl, hm.1, by rw [beq_eq_false_iff_ne]; exact ek⟩)⟩)
                have HG : Hid (∃ fe fx fc : Int, rNear P l k ys false = (fe, fx, fc) ∧ ((fc = 3 ∧ decide (0 ≤ nth (timesR P l ys false) k) = false) ∨ (fc = 0 ∧ decide (0 ≤ nth (timesR P l ys false) k) = true))) := Lib.hid (by
                  rcases HnG.out k hltk with ⟨h, e⟩ | ⟨h, ne', _, e⟩
                  · exact ⟨_, _, _, e, .inl ⟨rfl, by rw [decide_eq_false_iff_not]; omega⟩⟩
                  · exact ⟨_, _, _, e, .inr ⟨rfl, by rw [decide_eq_true_eq]; exact h⟩⟩)
                have HH : Hid (∃ fe fx fc : Int, rNear P l k ys true = (fe, fx, fc) ∧ ((fc = 3 ∧ decide (0 ≤ nth (timesR P l ys true) k) = false) ∨ (fc = 0 ∧ decide (0 ≤ nth (timesR P l ys true) k) = true))) := Lib.hid (by
                  rcases HnH.out k hltk with ⟨h, e⟩ | ⟨h, ne', _, e⟩
                  · exact ⟨_, _, _, e, .inl ⟨rfl, by rw [decide_eq_false_iff_not]; omega⟩⟩
                  · exact ⟨_, _, _, e, .inr ⟨rfl, by rw [decide_eq_true_eq]; exact h⟩⟩)
                have rLa := rL8.below hb (by omega)
                have rEa : Ints wr W2.heap.size A2 i ys := Reads.below rE8 hb (by omega)
                clear HnF HnG HnH
                obtain ⟨fe, fx, fc, eF, hF⟩ := HF.out
                have hF' := Lib.hid hF
                clear HF hF
                go_wp2_with fail
                refine (specNearestExit_any (p := (P : Int)) (src := (k : Int)) (lad := lad) rLa (by omega) hcl (by omega) rEa (by omega) hcEc (by omega)).mono ?_
                rintro e wa ⟨rfl, b9⟩
                rw [eF]
                clear eF
                have rLb := rLa.below b9 (by omega)
                have rEb : Ints wa W2.heap.size A2 i ys := Reads.below rEa b9 (by omega)
                have hb9 : Below W8.heap.size W8 wa := hb.trans (b9.mono hbs)
                have hbs9 := hb9.size
                clear rLa rEa b9
                obtain ⟨ge, gx, gc, eG, hG⟩ := HG.out
                have hG' := Lib.hid hG
                clear HG hG
                go_wp2_with fail
                refine (specNearestExit_any (p := (P : Int)) (src := (k : Int)) (lad := false) rLb (by omega) hcl (by omega) rEb (by omega) hcEc (by omega)).mono ?_
                rintro e wb ⟨rfl, b10⟩
                rw [eG]
                clear eG
                have rLc := rLb.below b10 (by omega)
                have rEc : Ints wb W2.heap.size A2 i ys := Reads.below rEb b10 (by omega)
                have hb10 : Below W8.heap.size W8 wb := hb9.trans (b10.mono hbs9)
                have hbs10 := hb10.size
                clear rLb rEb b10 hb9
                obtain ⟨he, hx, hc, eH, hH⟩ := HH.out
                have hH' := Lib.hid hH
                clear HH hH
                go_wp2_with fail
                refine (specNearestExit_any (p := (P : Int)) (src := (k : Int)) (lad := true) rLc (by omega) hcl (by omega) rEc (by omega) hcEc (by omega)).mono ?_
                rintro e wc' ⟨rfl, b11⟩
                rw [eH]
                clear eH
                have hb11 : Below W8.heap.size W8 wc' := hb10.trans (b11.mono hbs10)
                have hcN := HasN.out k wc' hltk (hb8.out.trans (hb11.mono hbs8))
                clear rLc rEc b11 hb10
                rcases hF'.out with rfl | ⟨rfl, rfl, hkw⟩ | ⟨rfl, hfx, hkw⟩
                all_goals
                  try have hdx : decide (wt < fx) = false := by rw [decide_eq_false_iff_not]; omega
                  rcases hG'.out with ⟨rfl, dG⟩ | ⟨rfl, dG⟩
                  · rcases hH'.out with ⟨rfl, dH⟩ | ⟨rfl, dH⟩
                    all_goals
                      simp only [dG, dH, Bool.not_false, Bool.true_and] at hcN
                      clear hF' hG' hH' dG dH
                      go_wp2_with fail
                      refine hcN.mono ?_
                      rintro e w' ⟨rfl, rfl⟩
                      go_wp2_with fail
                      have hgk := Hgk.out
                      go_roundg (gk - 1)
                      case rel => exact ⟨k + 1, by omega, by omega, by go_num, hb11⟩
                      case measure => omega
                  · simp only [dG, Bool.not_true, Bool.false_and] at hcN
                    clear hF' hG' hH' dG
                    go_wp2_with fail
                    refine hcN.mono ?_
                    rintro e w' ⟨rfl, rfl⟩
                    go_wp2_with fail
                    have hgk := Hgk.out
                    go_roundg (gk - 1)
                    case rel => exact ⟨k + 1, by omega, by omega, by go_num, hb11⟩
                    case measure => omega
              · have hdk : ¬ (k : Int) < (P : Int) := by omega
                have dw0 : decide (0 ≤ wv) = true := by rw [decide_eq_true_eq]; exact hwv0
                have dw1 : decide (wv < (P : Int)) = true := by rw [decide_eq_true_eq]; exact hwv1
                go_wp2_with fail
                go_ret
                exact ⟨rfl, B8.out.trans (hb.mono (show w.heap.size ≤ W8.heap.size by omega))⟩
end Go.Proofs.Ytcppogfffgdjhaa
