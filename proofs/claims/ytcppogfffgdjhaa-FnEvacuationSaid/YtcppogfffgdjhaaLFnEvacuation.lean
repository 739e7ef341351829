/- The walk of the law 'FnEvacuation': whatever the input, it returns true, and nothing that was there has turned. -/
import Derived.Test.YtcppogfffgdjhaaFb
namespace Go.Proofs.Ytcppogfffgdjhaa
open Go.RowKit
set_option maxRecDepth 100000
set_option linter.unusedVariables false
set_option linter.unusedSimpArgs false

theorem rTimesTo_ok {P : Nat} {l : List WalkR} {to : Int} {lad : Bool} (hw : walksB (P : Int) l = true) (hP : 1 ≤ P ∧ P ≤ 16) (ht : 0 ≤ to ∧ to < P) : rTimesTo P l to lad = (timesR P l [to] lad, 0) := by
  rw [rTimesTo, if_pos]
  refine askW_zero.2 ⟨hw, ?_, rfl⟩
  rw [inB_true, top_of (by omega)]; omega
theorem rQuick_ok {P : Nat} {l : List WalkR} {src to : Int} {lad : Bool} (hw : walksB (P : Int) l = true) (hP : 1 ≤ P ∧ P ≤ 16) (hs : 0 ≤ src ∧ src < P) (ht : 0 ≤ to ∧ to < P) :
    rQuickestWay P l src to lad = if nth (timesR P l [to] lad) src.toNat < 0 then ([], 0, 3) else (wayR P l lad src to, nth (timesR P l [to] lad) src.toNat, 0) := by
  rw [rQuickestWay, if_pos]
  refine askW_zero.2 ⟨hw, ?_, rfl⟩
  rw [Bool.and_eq_true, inB_true, inB_true, top_of (by omega)]; omega

/-- Way j leads on from place v on a quickest way. -/
def hopF (l : List WalkR) (T : List Int) (lad : Bool) (v tv : Int) (j : Nat) : Bool :=
  ((WalkR.at_ l j).From == v) && ((lad || !(WalkR.at_ l j).Ladder) && (decide (0 ≤ nth T (WalkR.at_ l j).To.toNat) && (nth T (WalkR.at_ l j).To.toNat + (WalkR.at_ l j).Seconds == tv)))

set_option maxHeartbeats 16000000 in
theorem FnEvacuation_walk (A0 : Option Addr) (n0 c0 : Nat) (z0 : List Int) (A1 : Option Addr) (n1 c1 : Nat) (z1 : List Int) (w : World) (h0 : Bytz w w.heap.size A0 n0 z0) (hc0 : n0 ≤ c0) (hm0 : c0 ≤ maxLen) (hz0 : True) (h1 : Bytz w w.heap.size A1 n1 z1) (hc1 : n1 ≤ c1) (hm1 : c1 ≤ maxLen) (hz1 : True) :
    Calls Try.prog 4 #[.slice A0 n0 c0, .slice A1 n1 c1] w fun e w' => e = .returned (.bool true) ∧ Below w.heap.size w w' := by
  cases hlong : (decide (1048576 < n0) || decide (1048576 < n1)) with
  | true =>
    have Hl := Lib.hid hlong
    clear hlong
    go_enter Try.func4, Try.ntmps4
    go_wp2_with (go_at_call 5; refine r8Long_any.mono ?_; rintro e w' ⟨rfl, rfl⟩; rw [Hl.out])
    go_ret
    exact ⟨rfl, Below.refl _ _⟩
  | false =>
  have hn0 : n0 ≤ 1048576 ∧ n1 ≤ 1048576 := by
    rw [Bool.or_eq_false_iff, decide_eq_false_iff_not, decide_eq_false_iff_not] at hlong; omega
  obtain ⟨hn0, hn1⟩ := hn0
  have Hl := Lib.hid hlong
  have H0 := Lib.hid h0
  have H1 := Lib.hid h1
  clear hlong h0 h1 hm0 hm1 hz0 hz1
  go_enter Try.func4, Try.ntmps4
  go_wp2_with fail
  refine r8Long_any.mono ?_
  rintro e w' ⟨rfl, rfl⟩
  rw [Hl.out]
  go_wp2_with fail
  refine (r8Walks_any H0.out (Nat.le_refl _) hn0).mono ?_
  rintro e w1 ⟨P, AL, nl, cl, l, rfl, hP2, hP7, hnl, hok, oL, b1⟩
  have HL : Hid (l.length = nl) := Lib.hid (WalkR.count oL.reads)
  have Hok := Lib.hid hok
  have Hw : Hid (walksB (P : Int) l = true) := Lib.hid (walks_ok (by omega) (by rw [HL.out]; omega) hok)
  have hcl := oL.cap
  have rL := oL.reads
  have hP16 : 1 ≤ P ∧ P ≤ 16 := by omega
  clear oL hok
  go_wp2_with fail
  refine (r8At_any (k := 0) (m := (P : Int)) (Bytz.below H1.out b1 (Nat.le_refl _)) hn1 (by omega)).mono ?_
  rintro e w' ⟨src, rfl, hs0, hs1', rfl⟩
  have hs1 : src < (P : Int) := by omega
  clear hs1'
  go_wp2_with fail
  refine (r8At_any (k := 1) (m := (P : Int)) (Bytz.below H1.out b1 (Nat.le_refl _)) hn1 (by omega)).mono ?_
  rintro e w' ⟨to, rfl, ht0, ht1', rfl⟩
  have ht1 : to < (P : Int) := by omega
  clear ht1'
  go_wp2_with fail
  refine (r8At_any (k := 2) (m := 2) (Bytz.below H1.out b1 (Nat.le_refl _)) hn1 (by omega)).mono ?_
  rintro e w' ⟨la, rfl, _, _, rfl⟩
  have hbs1 := b1.size
  go_wp2_with fail
  obtain ⟨lad, hlad⟩ : ∃ lad : Bool, (la == 1) = lad := ⟨_, rfl⟩
  rw [hlad]
  clear hlad
  have HT := Lib.hid (rTimesTo_ok (lad := lad) Hw.out hP16 ⟨ht0, ht1⟩)
  have HT2 := Lib.hid (rTimesTo_ok (lad := true) Hw.out hP16 ⟨ht0, ht1⟩)
  have HQ := Lib.hid (rQuick_ok (lad := lad) Hw.out hP16 ⟨hs0, hs1⟩ ⟨ht0, ht1⟩)
  refine (implTimesTo_any (p := (P : Int)) (to := to) (lad := lad) rL (Nat.le_refl _) hcl (by omega)).mono ?_
  rintro e w2 ⟨AT, nt, ct, rfl, hnt, oT, b2⟩
  rw [HT.out] at oT
  rw [HT.out]
  have rT : Ints w2 w2.heap.size AT nt (timesR P l [to] lad) := oT.reads
  have rL2 := rL.below b2 (Nat.le_refl _)
  have b12 := b1.trans (b2.mono hbs1)
  have hbs2 := b2.size
  clear oT b2
  go_wp2_with fail
  refine (implTimesTo_any (p := (P : Int)) (to := to) (lad := true) rL2 (by omega) hcl (by omega)).mono ?_
  rintro e w3 ⟨AU, nu, cu, rfl, hnu, oU, b3⟩
  rw [HT2.out] at oU
  rw [HT2.out]
  have rU : Ints w3 w3.heap.size AU nu (timesR P l [to] true) := oU.reads
  have rT3 := rT.below b3 (Nat.le_refl _)
  have rL3 := rL2.below b3 (by omega)
  have b13 := b12.trans (b3.mono (by omega))
  have hbs3 := b3.size
  clear oU b3
  go_wp2_with fail
  refine (implQuickestWay_any (p := (P : Int)) (src := src) (to := to) (lad := lad) rL3 (by omega) hcl (by omega)).mono ?_
  rintro e w4 ⟨AW, nw, cw, rfl, hnw, oW, b4⟩
  have rW : Ints w4 w4.heap.size AW nw (rQuickestWay P l src to lad).1 := oW.reads
  have rT4 : Ints w4 w2.heap.size AT nt (timesR P l [to] lad) := rT3.below b4 (by omega)
  have rU4 : Ints w4 w3.heap.size AU nu (timesR P l [to] true) := rU.below b4 (Nat.le_refl _)
  have rL4 := rL3.below b4 (by omega)
  have b14 := b13.trans (b4.mono (by omega))
  have hbs4 := b4.size
  have hcw := oW.cap
  clear oW b4 rT rT3 rU rL rL2 rL3 b1 b12 b13
  have hnt2 : P = nt := by have := rT4.len; rw [times_len Hw.out] at this; exact this
  have hnu2 : P = nu := by have := rU4.len; rw [times_len Hw.out] at this; exact this
  subst hnt2
  subst hnu2
  have htv : to.toNat < P ∧ src.toNat < P := by omega
  obtain ⟨htv, hsv⟩ := htv
  have KT := Lib.hid (fun v (hv : v < P) => times_top lad Hw.out [to] v (show v < ((P : Int)).toNat by omega))
  have KU := Lib.hid (fun v (hv : v < P) => times_top true Hw.out [to] v (show v < ((P : Int)).toNat by omega))
  have K0 := Lib.hid (times_self Hw.out lad ⟨ht0, ht1⟩)
  have KM := Lib.hid (fun v (hv : v < P) => times_more Hw.out lad to v hv)
  have KC := Lib.hid (times_closed lad Hw.out [to])
  have KH := Lib.hid (fun v (hv : v < P) => times_hop Hw.out lad (to := to) v hv)
  have KW := Lib.hid (fun (h0 : 0 ≤ nth (timesR P l [to] lad) src.toNat) => way_full (lad := lad) (src := src) (to := to) Hw.out hP16 ⟨hs0, hs1⟩ ⟨ht0, ht1⟩ h0)
  generalize timesR P l [to] lad = T at *
  generalize timesR P l [to] true = U at *
  obtain ⟨b, hb1, hb2⟩ : ∃ b : Bool, ((rQuickestWay P l src to lad).2.2 == 0) = b ∧ decide (0 ≤ nth T src.toNat) = b := by
    rw [HQ.out]
    by_cases hneg : nth T src.toNat < 0
    · exact ⟨false, by rw [if_pos hneg]; rfl, by simp; omega⟩
    · exact ⟨true, by rw [if_neg hneg]; rfl, by simp; omega⟩
  have HQc := Lib.hid hb2
  obtain ⟨adT, rfl, hblT, cTo⟩ := rT4.at_ htv
  obtain ⟨adT', e, _, cSrc⟩ := rT4.at_ hsv
  injection e with e
  subst e
  rw [K0.out] at cTo
  generalize hQ : rQuickestWay P l src to lad = Q at *
  obtain ⟨ys, sv, cd⟩ := Q
  simp only at rW hb1
  have HQ2 := Lib.hid HQ.out
  clear hQ HQ
  have hPn : ((P : Int) != (P : Int)) = false := by simp
  go_wp2_with (first | (go_at_call 18; refine (implValidWalks_any rL4 (by omega) hcl (by omega)).mono ?_; rintro e w5 ⟨rfl, b5⟩; rw [Hw.out]))
  have Hb1 := Lib.hid hb1
  clear hb1 hb2 hPn Hl HT HT2 H0 H1
  have rT5 : Ints w5 w2.heap.size (some adT) P T := Reads.below rT4 b5 (by omega)
  have rU5 : Ints w5 w3.heap.size AU P U := Reads.below rU4 b5 (by omega)
  have rW5 : Ints w5 w4.heap.size AW nw ys := Reads.below rW b5 (Nat.le_refl _)
  have rL5 := rL4.below b5 (by omega)
  have b15 := b14.trans (b5.mono (by omega))
  have hbs5 := b5.size
  have hz5 : w.heap.size ≤ w5.heap.size := by omega
  have B15 := Lib.hid b15
  clear rT4 rU4 rW rL4 b14 b5 cTo cSrc b15
  go_loopg [17] nl (fun gk vi wr => ∃ k : Nat, k ≤ nl ∧ gk + k = nl ∧ vi = .int .i64 k ∧ Below w5.heap.size w5 wr)
  case atStart => exact ⟨0, by omega, by omega, rfl, Below.refl _ _⟩
  case round =>
    obtain ⟨k, hk, hgk, rfl, hb⟩ := hrel
    have Hgk := Lib.hid hgk
    have hbs := hb.size
    clear hgk
    have hqk : IntKind.i64.wrap ((k : Int) + 1) = (k : Int) + 1 := IntWalk.i64_in _ (by omega)
    by_cases hlt : k < nl
    · clear HQ2 HQc KU K0 KM KH KW Hw rU5 rW5 B15 Hb1
      obtain ⟨adl, rfl, hbl, p0, p1, p2, p3⟩ := WalkR.rd (rL5.below hb (by omega)) hlt
      have hx := Hok.out k (by rw [HL.out]; exact hlt)
      have hcl2 := Lib.hid (KC.out k (by rw [HL.out]; exact hlt))
      have hk0 : (0 : Int) ≤ (k : Int) := by omega
      have hk1 : (k : Int) < (nl : Int) := by omega
      generalize WalkR.at_ l k = X at *
      obtain ⟨⟨hf0, hf1⟩, ⟨hg0, hg1⟩, hne, hs0', hs1'⟩ := hx
      have hfv : X.From.toNat < P := by omega
      have hgv : X.To.toNat < P := by omega
      have rTw : Ints wr w2.heap.size (some adT) P T := Reads.below rT5 hb (by omega)
      obtain ⟨ad1, e1, _, cF⟩ := rTw.at_ hfv
      injection e1 with e1
      subst e1
      obtain ⟨ad1, e1, _, cG⟩ := rTw.at_ hgv
      injection e1 with e1
      subst e1
      have hF := KT.out _ hfv
      have hG := KT.out _ hgv
      have cF2 : (wr.alloc (.cells #[.int .i64 X.From, .int .i64 X.To, .int .i64 X.Seconds, .bool X.Ladder] 43)).cell? (adT.add X.From.toNat) = some (.int .i64 (nth T X.From.toNat)) := by rw [World.cell?_alloc_lt _ _ _ (by rw [block_of_add]; omega)]; exact cF
      have cG2 : (wr.alloc (.cells #[.int .i64 X.From, .int .i64 X.To, .int .i64 X.Seconds, .bool X.Ladder] 43)).cell? (adT.add X.To.toNat) = some (.int .i64 (nth T X.To.toNat)) := by rw [World.cell?_alloc_lt _ _ _ (by rw [block_of_add]; omega)]; exact cG
      clear cF cG
      have HbB := Lib.hid (hb.alloc hbs (.cells #[.int .i64 X.From, .int .i64 X.To, .int .i64 X.Seconds, .bool X.Ladder] 43))
      generalize nth T X.From.toNat = tf at *
      generalize nth T X.To.toNat = tg at *
      have hwrap : IntKind.i64.wrap (tg + X.Seconds) = tg + X.Seconds := IntWalk.i64_in _ (by omega)
      clear hne rTw
      cases hu : (X.Ladder && !lad) with
      | true =>
        rw [Bool.and_eq_true, Bool.not_eq_true'] at hu
        obtain ⟨hu1, hu2⟩ := hu
        rw [hu1] at p3 HbB
        clear hcl2 cF2 cG2
        subst hu2
        go_wp2_with fail
        have hgk := Hgk.out
        go_roundg (gk - 1)
        case rel => exact ⟨k + 1, by omega, by omega, by go_num, HbB.out⟩
        case measure => omega
      | false =>
        by_cases hneg : tg < 0
        · have hd : decide (tg < 0) = true := by simpa using hneg
          clear hcl2
          cases hla : X.Ladder
          all_goals
            rw [hla] at hu p3 HbB cF2 cG2
            simp only [Bool.false_and, Bool.true_and, Bool.not_eq_false'] at hu
            (try subst hu)
            go_wp2_with fail
            have hgk := Hgk.out
            go_roundg (gk - 1)
            case rel => exact ⟨k + 1, by omega, by omega, by go_num, HbB.out⟩
            case measure => omega
        · have hc2 := hcl2.out hu (by omega)
          have hd : decide (tg < 0) = false := by simpa using hneg
          have hd2 : decide (tf < 0) = false := by simp; omega
          have hd3 : decide (tg + X.Seconds < tf) = false := by simp; omega
          clear hcl2
          cases hla : X.Ladder
          all_goals
            rw [hla] at hu p3 HbB cF2 cG2
            simp only [Bool.false_and, Bool.true_and, Bool.not_eq_false'] at hu
            (try subst hu)
            go_wp2_with fail
            go_quiet (fail)
            go_wp2_with fail
            have hgk := Hgk.out
            go_roundg (gk - 1)
            case rel => exact ⟨k + 1, by omega, by omega, by go_num, below_drewN HbB.out _⟩
            case measure => omega
    · have hd : ¬ (k : Int) < (nl : Int) := by omega
      have rT6 : Ints wr w2.heap.size (some adT) P T := Reads.below rT5 hb (by omega)
      have rU6 : Ints wr w3.heap.size AU P U := Reads.below rU5 hb (by omega)
      have rW6 : Ints wr w4.heap.size AW nw ys := Reads.below rW5 hb (by omega)
      have rL6 := rL5.below hb (by omega)
      have B16 := Lib.hid (B15.out.trans (hb.mono hz5))
      have hz6 : w5.heap.size ≤ wr.heap.size := hbs
      clear rT5 rU5 rW5 rL5 hb hbs hk hlt hqk Hgk
      obtain ⟨W6, hW6⟩ : ∃ W6, W6 = wr := ⟨_, rfl⟩
      subst hW6
      go_wp2_with fail
      go_loopg [19] P (fun gk vk wr => ∃ v : Nat, v ≤ P ∧ gk + v = P ∧ vk = .int .i64 v ∧ Below W6.heap.size W6 wr)
      case atStart => exact ⟨0, by omega, by omega, rfl, Below.refl _ _⟩
      case round =>
        obtain ⟨v, hv, hgk, rfl, hb⟩ := hrel
        obtain ⟨gko, hgko⟩ : ∃ gko, gko = gk := ⟨_, rfl⟩
        have Hgko := Lib.hid hgko
        have Hgk := Lib.hid hgk
        have hbs := hb.size
        clear hgk hgko
        have hqv : IntKind.i64.wrap ((v : Int) + 1) = (v : Int) + 1 := IntWalk.i64_in _ (by omega)
        by_cases hlt : v < P
        · clear HQ2 HQc KU KC KW Hw rW6 B16 Hb1
          have hv0 : (0 : Int) ≤ (v : Int) := by omega
          have hv1 : (v : Int) < (P : Int) := by omega
          obtain ⟨ad1, e1, _, cT⟩ := Ints.at_ (Reads.below rT6 hb (by omega)) hlt
          injection e1 with e1
          subst e1
          obtain ⟨adU, rfl, hblU, cU⟩ := Ints.at_ (Reads.below rU6 hb (by omega)) hlt
          have hM := KM.out v hlt
          have hTv := KT.out v hlt
          have Hto : Hid ((v : Int) = to → nth T v = 0) := Lib.hid (fun e => by have := K0.out; rw [show to.toNat = v by omega] at this; exact this)
          have HH := Lib.hid (KH.out v hlt)
          obtain ⟨tv, hTV⟩ : ∃ tv, nth T v = tv := ⟨_, rfl⟩
          have HTV := Lib.hid hTV
          rw [hTV] at cT hM hTv Hto HH
          clear hTV
          generalize nth U v = uv at *
          by_cases h0 : tv < 0
          · have hd : decide (0 ≤ tv) = false := by simpa using h0
            have hd2 : decide (tv < 0) = true := by simpa using h0
            have e2 : ((v : Int) == to) = false := by
              rw [beq_eq_false_iff_ne]; intro e; have := Hto.out e; omega
            clear hM
            go_wp2_with fail
            go_quiet (fail)
            go_wp2_with fail
            have hgk := Hgk.out
            go_roundg (gk - 1)
            case rel => exact ⟨v + 1, by omega, by omega, by go_num, below_drewN hb _⟩
            case measure => omega
          · have hM2 : 0 ≤ uv ∧ uv ≤ tv := by omega
            have hd : decide (0 ≤ tv) = true := by simp; omega
            have hd2 : decide (tv < 0) = false := by simp; omega
            have hd3 : decide (uv < 0) = false := by simp; omega
            have hd4 : decide (tv < uv) = false := by simp; omega
            clear hM
            by_cases hvt : (v : Int) = to
            · have e2 : ((v : Int) == to) = true := by rw [beq_iff_eq]; exact hvt
              have Hvt := Lib.hid hvt
              clear hvt
              go_wp2_with fail
              go_quiet (fail)
              go_wp2_with fail
              have hgk := Hgk.out
              go_roundg (gk - 1)
              case rel => exact ⟨v + 1, by omega, by omega, by go_num, below_drewN hb _⟩
              case measure => omega
            · have e2 : ((v : Int) == to) = false := by rw [beq_eq_false_iff_ne]; exact hvt
              have HE : Hid (allTo (fun j => !hopF l T lad v tv j) nl = false) := Lib.hid (by
                obtain ⟨j, hj, hju, hjf, hjt, hjs⟩ := HH.out hvt (by omega)
                refine allTo_false (k := j) (by rw [← HL.out]; exact hj) ?_
                unfold hopF
                rw [hjf, decide_eq_true hjt, hjs]
                cases hla : (WalkR.at_ l j).Ladder <;> cases lad <;> simp [hla] at hju ⊢)
              clear hvt HH Hto
              go_wp2_with fail
              go_quiet (fail)
              go_wp2_with fail
              have hb7 : Below W6.heap.size W6 (wr.drewN nq) := below_drewN hb _
              go_loopg [20, 21] nl (fun gk vf vi wr => ∃ i : Nat, i ≤ nl ∧ gk + i = nl ∧ vi = .int .i64 i ∧ vf = .bool (!allTo (fun j => !hopF l T lad v tv j) i) ∧ Below W6.heap.size W6 wr)
              case atStart => exact ⟨0, by omega, by omega, rfl, rfl, hb7⟩
              case round =>
                clear hb hbs cT cU hb7 rU6 K0 KM hM2 hd hd2 hd3 hd4 e2 hTv
                obtain ⟨i, hi, hgk3, rfl, rfl, hb⟩ := hrel
                have Hgk3 := Lib.hid hgk3
                have hbs := hb.size
                clear hgk3
                have hqi : IntKind.i64.wrap ((i : Int) + 1) = (i : Int) + 1 := IntWalk.i64_in _ (by omega)
                have Has := Lib.hid (allTo_succ (fun j => !hopF l T lad v tv j) i)
                by_cases hlti : i < nl
                · obtain ⟨adl, rfl, hbl, p0, p1, p2, p3⟩ := WalkR.rd (rL6.below hb (by omega)) hlti
                  have hx := Hok.out i (by rw [HL.out]; exact hlti)
                  have hi0 : (0 : Int) ≤ (i : Int) := by omega
                  have hi1 : (i : Int) < (nl : Int) := by omega
                  have Hho : Hid (hopF l T lad v tv i = (((WalkR.at_ l i).From == (v : Int)) && ((lad || !(WalkR.at_ l i).Ladder) && (decide (0 ≤ nth T (WalkR.at_ l i).To.toNat) && (nth T (WalkR.at_ l i).To.toNat + (WalkR.at_ l i).Seconds == tv))))) := Lib.hid rfl
                  generalize WalkR.at_ l i = X at *
                  obtain ⟨⟨hf0, hf1⟩, ⟨hg0, hg1⟩, hne, hs0', hs1'⟩ := hx
                  have hgv : X.To.toNat < P := by omega
                  have rTw : Ints wr w2.heap.size (some adT) P T := Reads.below rT6 hb (by omega)
                  obtain ⟨ad1, e1, _, cV⟩ := rTw.at_ hlt
                  injection e1 with e1
                  subst e1
                  obtain ⟨ad1, e1, _, cG⟩ := rTw.at_ hgv
                  injection e1 with e1
                  subst e1
                  have hG := KT.out _ hgv
                  rw [HTV.out] at cV
                  have cV2 : (wr.alloc (.cells #[.int .i64 X.From, .int .i64 X.To, .int .i64 X.Seconds, .bool X.Ladder] 43)).cell? (adT.add v) = some (.int .i64 tv) := by rw [World.cell?_alloc_lt _ _ _ (by rw [block_of_add]; omega)]; exact cV
                  have cG2 : (wr.alloc (.cells #[.int .i64 X.From, .int .i64 X.To, .int .i64 X.Seconds, .bool X.Ladder] 43)).cell? (adT.add X.To.toNat) = some (.int .i64 (nth T X.To.toNat)) := by rw [World.cell?_alloc_lt _ _ _ (by rw [block_of_add]; omega)]; exact cG
                  clear cV cG hne rTw
                  have HbB := Lib.hid (hb.alloc hbs (.cells #[.int .i64 X.From, .int .i64 X.To, .int .i64 X.Seconds, .bool X.Ladder] 43))
                  generalize nth T X.To.toNat = tg at *
                  have hwrap : IntKind.i64.wrap (tg + X.Seconds) = tg + X.Seconds := IntWalk.i64_in _ (by omega)
                  go_wp2_with fail
                  cases hfo : allTo (fun j => !hopF l T lad v tv j) i with
                  | false =>
                    have HF : Hid ((!allTo (fun j => !hopF l T lad v tv j) (i + 1)) = true) := Lib.hid (by rw [Has.out, hfo]; rfl)
                    clear hfo Has Hho
                    simp only [Bool.not_false]
                    go_quiet (fail)
                    go_wp2_with fail
                    have hgk := Hgk3.out
                    go_roundg (gk - 1)
                    case rel => exact ⟨i + 1, by omega, by omega, by go_num, by rw [HF.out], below_drewN HbB.out _⟩
                    case measure => omega
                  | true =>
                  have HX : Hid ((!allTo (fun j => !hopF l T lad v tv j) (i + 1)) = hopF l T lad v tv i) := Lib.hid (by rw [Has.out, hfo]; simp)
                  rw [Hho.out] at HX
                  clear hfo Has Hho
                  simp only [Bool.not_true]
                  cases e1 : (X.From == (v : Int)) with
                  | false =>
                    have HF : Hid ((!allTo (fun j => !hopF l T lad v tv j) (i + 1)) = false) := Lib.hid (by rw [HX.out, e1]; rfl)
                    clear HX
                    go_quiet (fail)
                    go_wp2_with fail
                    have hgk := Hgk3.out
                    go_roundg (gk - 1)
                    case rel => exact ⟨i + 1, by omega, by omega, by go_num, by rw [HF.out], below_drewN HbB.out _⟩
                    case measure => omega
                  | true =>
                  cases hu : (lad || !X.Ladder) with
                  | false =>
                    have HF : Hid ((!allTo (fun j => !hopF l T lad v tv j) (i + 1)) = false) := Lib.hid (by rw [HX.out, e1, hu]; rfl)
                    rw [Bool.or_eq_false_iff, Bool.not_eq_false'] at hu
                    obtain ⟨hu1, hu2⟩ := hu
                    rw [hu2] at p3 HbB cV2 cG2
                    subst hu1
                    clear HX
                    go_quiet (fail)
                    go_wp2_with fail
                    have hgk := Hgk3.out
                    go_roundg (gk - 1)
                    case rel => exact ⟨i + 1, by omega, by omega, by go_num, by rw [HF.out], below_drewN HbB.out _⟩
                    case measure => omega
                  | true =>
                  rw [e1, hu] at HX
                  have hll : lad = true ∨ (lad = false ∧ X.Ladder = false) := by
                    cases lad
                    · right; simpa using hu
                    · left; rfl
                  cases e2 : decide (0 ≤ tg) with
                  | false =>
                    have HF : Hid ((!allTo (fun j => !hopF l T lad v tv j) (i + 1)) = false) := Lib.hid (by rw [HX.out, e2]; rfl)
                    clear HX hu
                    rcases hll with rfl | ⟨rfl, hla⟩
                    · go_quiet (fail)
                      go_wp2_with fail
                      have hgk := Hgk3.out
                      go_roundg (gk - 1)
                      case rel => exact ⟨i + 1, by omega, by omega, by go_num, by rw [HF.out], below_drewN HbB.out _⟩
                      case measure => omega
                    · rw [hla] at p3 HbB cV2 cG2
                      go_quiet (fail)
                      go_wp2_with fail
                      have hgk := Hgk3.out
                      go_roundg (gk - 1)
                      case rel => exact ⟨i + 1, by omega, by omega, by go_num, by rw [HF.out], below_drewN HbB.out _⟩
                      case measure => omega
                  | true =>
                  rw [e2] at HX
                  cases e3 : (tg + X.Seconds == tv) with
                  | false =>
                    have HF : Hid ((!allTo (fun j => !hopF l T lad v tv j) (i + 1)) = false) := Lib.hid (by rw [HX.out, e3]; rfl)
                    clear HX hu
                    rcases hll with rfl | ⟨rfl, hla⟩
                    · go_quiet (fail)
                      go_wp2_with fail
                      have hgk := Hgk3.out
                      go_roundg (gk - 1)
                      case rel => exact ⟨i + 1, by omega, by omega, by go_num, by rw [HF.out], below_drewN HbB.out _⟩
                      case measure => omega
                    · rw [hla] at p3 HbB cV2 cG2
                      go_quiet (fail)
                      go_wp2_with fail
                      have hgk := Hgk3.out
                      go_roundg (gk - 1)
                      case rel => exact ⟨i + 1, by omega, by omega, by go_num, by rw [HF.out], below_drewN HbB.out _⟩
                      case measure => omega
                  | true =>
                    have HF : Hid ((!allTo (fun j => !hopF l T lad v tv j) (i + 1)) = true) := Lib.hid (by rw [HX.out, e3]; rfl)
                    clear HX hu
                    rcases hll with rfl | ⟨rfl, hla⟩
                    · go_quiet (fail)
                      go_wp2_with fail
                      have hgk := Hgk3.out
                      go_roundg (gk - 1)
                      case rel => exact ⟨i + 1, by omega, by omega, by go_num, by rw [HF.out], below_drewN HbB.out _⟩
                      case measure => omega
                    · rw [hla] at p3 HbB cV2 cG2
                      go_quiet (fail)
                      go_wp2_with fail
                      have hgk := Hgk3.out
                      go_roundg (gk - 1)
                      case rel => exact ⟨i + 1, by omega, by omega, by go_num, by rw [HF.out], below_drewN HbB.out _⟩
                      case measure => omega
                · have hie : i = nl := by omega
                  have hd5 : ¬ (i : Int) < (nl : Int) := by omega
                  rw [hie, HE.out]
                  rw [hie] at hd5
                  have hgko := Hgko.out
                  have hgk := Hgk.out
                  clear hie
                  go_wp2_with fail
                  go_roundg (gko - 1)
                  case rel => exact ⟨v + 1, by omega, by omega, by go_num, hb⟩
                  case measure => omega
        · have hd : ¬ (v : Int) < (P : Int) := by omega
          have rT7 : Ints wr w2.heap.size (some adT) P T := Reads.below rT6 hb (by omega)
          have rW7 : Ints wr w4.heap.size AW nw ys := Reads.below rW6 hb (by omega)
          have rL7 := rL6.below hb (by omega)
          have B17 := Lib.hid (B16.out.trans (hb.mono (show w.heap.size ≤ W6.heap.size by omega)))
          clear rT6 rU6 rW6 rL6 KH KC KM KU hb
          by_cases hneg : nth T src.toNat < 0
          · have hQ := HQ2.out
            rw [if_pos hneg, Prod.mk.injEq, Prod.mk.injEq] at hQ
            obtain ⟨rfl, rfl, rfl⟩ := hQ
            clear HQ2 HQc Hb1 KW hneg
            go_wp2_with fail
            go_ret
            exact ⟨rfl, B17.out⟩
          · have hQ := HQ2.out
            rw [if_neg hneg, Prod.mk.injEq, Prod.mk.injEq] at hQ
            obtain ⟨rfl, rfl, rfl⟩ := hQ
            have hway := KW.out (by omega)
            have Htime := Lib.hid (hway.time Hw.out hP16 K0.out)
            have hlen := hway.len
            have hpos := hway.pos
            have Hfirst := Lib.hid hway.first
            have Hlast := Lib.hid hway.last
            clear HQ2 HQc Hb1 KW hway
            generalize wayR P l lad src to = ys at *
            have Hnwl : Hid (nw = ys.length) := Lib.hid rW7.len.symm
            have hpos2 : 0 < nw := by rw [Hnwl.out]; exact hpos
            have hlen2 : nw ≤ P := by rw [Hnwl.out]; exact hlen
            clear hpos hlen
            obtain ⟨adS, e1, _, cS⟩ := rT7.at_ hsv
            injection e1 with e1
            subst e1
            have hsz7 : w4.heap.size ≤ wr.heap.size := by omega
            go_wp2_with fail
            refine (implWayTime_any (p := (P : Int)) (lad := lad) rL7 (by omega) hcl (by omega) rW7 hsz7 hcw (by omega)).mono ?_
            rintro e w8 ⟨rfl, b8⟩
            rw [Htime.out]
            have rT8 : Ints w8 w2.heap.size (some adT) P T := Reads.below rT7 b8 (by omega)
            have rW8 : Ints w8 w4.heap.size AW nw ys := Reads.below rW7 b8 (by omega)
            have B18 := Lib.hid (B17.out.trans (b8.mono (show w.heap.size ≤ wr.heap.size by omega)))
            obtain ⟨adS, e1, _, cS8⟩ := rT8.at_ hsv
            injection e1 with e1
            subst e1
            obtain ⟨adW, rfl, hblW, cW0⟩ := rW8.at_ (k := 0) (by omega)
            obtain ⟨adW', e1, _, cW1⟩ := rW8.at_ (k := nw - 1) (by omega)
            injection e1 with e1
            subst e1
            rw [Hfirst.out, addr_add_zero] at cW0
            have Hl2 : Hid (nth ys (nw - 1) = to) := Lib.hid (by rw [Hnwl.out]; exact Hlast.out)
            rw [Hl2.out] at cW1
            have hnw0 : (0 : Int) < (nw : Int) := by omega
            have hnw1 : (nw : Int) ≤ (P : Int) := by omega
            have hqw : IntKind.i64.wrap ((nw : Int) - 1) = (nw : Int) - 1 := IntWalk.i64_in _ (by omega)
            have hqw2 : ((nw : Int) - 1).toNat = nw - 1 := by omega
            have hqw3 : (0 : Int) ≤ (nw : Int) - 1 := by omega
            have hqw4 : (nw : Int) - 1 < (nw : Int) := by omega
            have hdw : decide (nw ≤ P) = true := by rw [decide_eq_true_eq]; omega
            have hdw2 : decide (0 < nw) = true := by rw [decide_eq_true_eq]; omega
            clear cS rT7 rW7 rL7 b8
            generalize nth T src.toNat = ts at *
            go_wp2_with fail
            go_ret
            exact ⟨rfl, B18.out⟩
end Go.Proofs.Ytcppogfffgdjhaa
