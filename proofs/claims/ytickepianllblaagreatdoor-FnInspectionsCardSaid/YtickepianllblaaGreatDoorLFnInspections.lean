/- The walk of the law 'FnInspections': whatever the input, it returns true, and nothing that was there has turned. -/
import Derived.Test.YtickepianllblaaGreatDoorIb
import Derived.Test.YtickepianllblaaGreatDoorIc
import Derived.Test.YtickepianllblaaGreatDoorId
import Derived.Test.YtickepianllblaaGreatDoorDw
import Derived.Deep.DeepCutAuto
import Derived.BigQuiet
namespace Go.Proofs.YtickepianllblaaGreatDoor
open Go.RowKit
set_option maxRecDepth 100000
set_option linter.unusedVariables false
set_option linter.unusedSimpArgs false

theorem beq_of_iff {a : Int} {b : Bool} (h : a = 0 ↔ b = true) : (a == 0) = b := by
  cases b with
  | true => exact beq_iff_eq.2 (h.2 rfl)
  | false => exact beq_eq_false_iff_ne.2 (fun e => by have := h.1 e; cases this)
set_option maxHeartbeats 16000000 in
theorem FnInspections_walk (A0 : Option Addr) (n0 c0 : Nat) (z0 : List Int) (A1 : Option Addr) (n1 c1 : Nat) (z1 : List Int) (w : World) (h0 : Bytz w w.heap.size A0 n0 z0) (hc0 : n0 ≤ c0) (hm0 : c0 ≤ maxLen) (hz0 : True) (h1 : Bytz w w.heap.size A1 n1 z1) (hc1 : n1 ≤ c1) (hm1 : c1 ≤ maxLen) (hz1 : True) (tab : TabR w) :
    Calls Tryz.prog 3 #[.slice A0 n0 c0, .slice A1 n1 c1] w fun e w' => e = .returned (.bool true) ∧ Below w.heap.size w w' := by
  have Tab := Lib.hid tab
  clear tab
  cases hlong : (decide (1048576 < n0) || decide (1048576 < n1)) with
  | true =>
    have Hl := Lib.hid hlong
    clear hlong
    go_enter Tryz.func3, Tryz.ntmps3
    go_wp2_with (go_at_call 4; refine r8Long_any.mono ?_; rintro e w' ⟨rfl, rfl⟩; rw [Hl.out])
    go_ret
    exact ⟨rfl, Below.refl _ _⟩
  | false =>
  have hn0 : n0 ≤ 1048576 ∧ n1 ≤ 1048576 := by
    rw [Bool.or_eq_false_iff, decide_eq_false_iff_not, decide_eq_false_iff_not] at hlong; omega
  obtain ⟨hn0, hn1⟩ := hn0
  have Hl := Lib.hid hlong
  have H0 := Lib.hid h0
  have H1 := Lib.hid h1
  clear hlong h0 h1 hm0 hm1 hz0 hz1 hc0 hc1
  go_enter Tryz.func3, Tryz.ntmps3
  go_wp2_with fail
  refine r8Long_any.mono ?_
  rintro e w' ⟨rfl, rfl⟩
  rw [Hl.out]
  go_wp2_with fail
  refine (r8Checks_any H0.out hn0).mono ?_
  rintro e w1 ⟨AL, cl, l, rfl, hok, oL, b1⟩
  have hG : GoodC l := ⟨hok.all, hok.len, hok.bd⟩
  have HG := Lib.hid hG
  obtain ⟨n, hln⟩ : ∃ n, l.length = n := ⟨_, rfl⟩
  have Hln := Lib.hid hln
  have hn5 : n ≤ 5 := by have := hG.len; omega
  rw [hln] at oL ⊢
  have hcl := oL.cap
  have RL : Hid (Reads w1 w1.heap.size 5 AL n (l.flatMap CheckR.cells)) := Lib.hid oL.reads
  have HF := Lib.hid (sz_of hG.all)
  have B1 := Lib.hid b1
  have hs1 := b1.size
  clear oL b1 hok hG hln H0
  go_wp2_with fail
  refine (r8At_any (k := 0) (m := 40) (Bytz.below H1.out B1.out (Nat.le_refl _)) hn1 (by omega)).mono ?_
  rintro e w' ⟨x0, rfl, x00, x01, rfl⟩
  obtain ⟨day, hday⟩ : ∃ d, 60 + x0 = d := ⟨_, rfl⟩
  have qd : IntKind.i64.wrap (60 + x0) = day := by rw [IntWalk.i64_in _ (by omega)]; exact hday
  have hdb : 60 ≤ day ∧ day ≤ 99 := by omega
  clear x00 x01
  go_wp2_with fail
  refine (r8Wide_any (k := 1) (m := 600) (Bytz.below H1.out B1.out (Nat.le_refl _)) hn1 (by omega) (by omega)).mono ?_
  rintro e w' ⟨x1, rfl, x10, x11, rfl⟩
  obtain ⟨rides, hrides⟩ : ∃ d, 3000 + x1 = d := ⟨_, rfl⟩
  have qr : IntKind.i64.wrap (3000 + x1) = rides := by rw [IntWalk.i64_in _ (by omega)]; exact hrides
  have hrb : 3000 ≤ rides ∧ rides ≤ 3599 := by omega
  clear x10 x11 hrides
  go_wp2_with fail
  refine (r8At_any (k := 3) (m := 12) (Bytz.below H1.out B1.out (Nat.le_refl _)) hn1 (by omega)).mono ?_
  rintro e w' ⟨x2, rfl, x20, x21, rfl⟩
  obtain ⟨per, hper⟩ : ∃ d, 10 * x2 = d := ⟨_, rfl⟩
  have qp : IntKind.i64.wrap (10 * x2) = per := by rw [IntWalk.i64_in _ (by omega)]; exact hper
  have hpb : 0 ≤ per ∧ per ≤ 110 := by omega
  clear x20 x21 hper hday
  obtain ⟨op, hop⟩ : ∃ b, rIsOpen l day rides = b := ⟨_, rfl⟩
  have Hop := Lib.hid hop
  have F := Lib.hid (HG.out.facts hdb hrb hpb hop)
  obtain ⟨ol, hol⟩ : ∃ x, overTo l day rides l.length = x := ⟨_, rfl⟩
  have Hol := Lib.hid hol
  clear hop hol
  go_wp2_with fail
  refine (implOverdueChecks_len RL.out (Nat.le_refl _) hcl (by omega) HF.out).mono ?_
  rintro e w2 ⟨AO, nO, cO, rfl, hnO, _, oO, b2⟩
  rw [F.out.over, Hol.out] at oO hnO ⊢
  simp only at oO hnO
  have HnO := Lib.hid hnO
  have RO : Hid (Reads w2 w2.heap.size 1 AO nO (ol.map Value.string)) := Lib.hid oO.reads
  have hnO5 : nO ≤ 1048576 := by assumption
  have s1 : ((nO : Int) == 0) = op := beq_of_iff (by
    have h0 := F.out.zero
    rw [Hol.out] at h0
    exact ⟨fun h => h0.1 (by omega), fun h => by have := h0.2 h; omega⟩)
  have K2 := Lib.hid b2
  have hs2 := b2.size
  clear oO b2 hnO
  go_wp2_with fail
  refine (implIsOpen_any (Reads.below RL.out K2.out (Nat.le_refl _)) hs2 hcl (by omega) HF.out).mono ?_
  rintro e w3 ⟨rfl, b3⟩
  rw [Hop.out]
  have K3 := Lib.hid (K2.out.trans (b3.mono hs2))
  have J3 := Lib.hid b3
  have hs3 := K3.out.size
  clear b3
  go_wp2_with fail
  refine (implRidesLeft_any (Reads.below RL.out K3.out (Nat.le_refl _)) hs3 hcl (by omega) HF.out).mono ?_
  rintro e w4 ⟨rfl, b4⟩
  have K4 := Lib.hid (K3.out.trans (b4.mono hs3))
  have J4 := Lib.hid (J3.out.trans (b4.mono J3.out.size))
  have hs4 := K4.out.size
  obtain ⟨⟨lf, lc⟩, hlf⟩ : ∃ r, rRidesLeft l day rides = r := ⟨_, rfl⟩
  have Hlf : Hid ((lf, lc) = if op then (leftTo l rides n, 0) else (0, 3)) := Lib.hid (by rw [← hlf, F.out.left, Hln.out])
  have s2 : (lc == 0) = op := by
    have := Hlf.out
    cases op
    · injection this with h1 h2; rw [h2]; rfl
    · injection this with h1 h2; rw [h2]; rfl
  rw [hlf]
  clear b4 hlf J3
  go_wp2_with fail
  refine (implOpenUntil_any (Reads.below RL.out K4.out (Nat.le_refl _)) hs4 hcl (by omega) HF.out).mono ?_
  rintro e w5 ⟨rfl, b5⟩
  have K5 := Lib.hid (K4.out.trans (b5.mono hs4))
  have J5 := Lib.hid (J4.out.trans (b5.mono J4.out.size))
  have hs5 := K5.out.size
  obtain ⟨⟨la, tc⟩, hla⟩ : ∃ r, rOpenUntil l day rides per = r := ⟨_, rfl⟩
  have Hla : Hid ((la, tc) = if op then (day + untilTo l day rides per n, 0) else (0, 3)) := Lib.hid (by rw [← hla, F.out.till, Hln.out])
  have s3 : (tc == 0) = op := by
    have := Hla.out
    cases op
    · injection this with h1 h2; rw [h2]; rfl
    · injection this with h1 h2; rw [h2]; rfl
  rw [hla]
  clear b5 hla J4
  go_wp2_with fail
  refine (implFirstDue_any (Reads.below RL.out K5.out (Nat.le_refl _)) hs5 hcl (by omega) HF.out).mono ?_
  rintro e w6 ⟨rfl, b6⟩
  have K6 := Lib.hid (K5.out.trans (b6.mono hs5))
  have J6 := Lib.hid (J5.out.trans (b6.mono J5.out.size))
  have hs6 := K6.out.size
  obtain ⟨⟨fi, fc⟩, hfi⟩ : ∃ r, rFirstDue l day rides per = r := ⟨_, rfl⟩
  have Hfi : Hid ((fi, fc) = if n = 0 then (0, 3) else (((firstI l day rides per n : Nat) : Int), 0)) := Lib.hid (by rw [← hfi, F.out.first, Hln.out])
  have s4 : (fc == 0) = decide (0 < (n : Int)) := by
    have := Hfi.out
    by_cases hn : n = 0
    · rw [if_pos hn] at this
      injection this with h1 h2
      rw [h2, hn]; rfl
    · rw [if_neg hn] at this
      injection this with h1 h2
      rw [h2, decide_eq_true (show 0 < (n : Int) by omega)]; rfl
  rw [hfi]
  clear b6 hfi J5
  go_wp2_with fail
  refine (implChecksIn_any (Reads.below RL.out K6.out (Nat.le_refl _)) hs6 hcl (by omega) HF.out).mono ?_
  rintro e w7 ⟨AC, nC, cC, rfl, hnC, oC, b7⟩
  rw [F.out.done, Hln.out] at oC ⊢
  simp only at oC
  obtain ⟨cs, hcs⟩ : ∃ x, countsTo l day rides per 50 n = x := ⟨_, rfl⟩
  have Hcs := Lib.hid hcs
  rw [hcs] at oC
  have hnCn : nC = n := by
    have h1 := own_len oC
    have h2 := countsTo_len l day rides per 50 n
    rw [hcs] at h2
    omega
  subst hnCn
  have RC : Hid (Ints w7 w7.heap.size AC nC cs) := Lib.hid oC.reads
  have K7 := Lib.hid (K6.out.trans (b7.mono hs6))
  have J7 := Lib.hid (J6.out.trans (b7.mono J6.out.size))
  have hs7 := K7.out.size
  have hs27 := J7.out.size
  have Hval := Lib.hid (implValidChecks_any (c := cl) (Reads.below RL.out K7.out (Nat.le_refl _)) hs7 hcl (by omega) HF.out)
  rw [HG.out.all] at Hval
  clear oC b7 hcs J6 K2 K3 K4 K5 K6 hs3 hs4 hs5 hs6 F
  go_wp2_with fail
  refine Hval.out.mono ?_
  rintro e w8 ⟨rfl, b8⟩
  have K8 := Lib.hid (K7.out.trans (b8.mono hs7))
  have J8 := Lib.hid (J7.out.trans (b8.mono hs27))
  have RC8 : Hid (Ints w8 w7.heap.size AC nC cs) := Lib.hid (Reads.below RC.out b8 (Nat.le_refl _))
  have RL8 : Hid (Reads w8 w1.heap.size 5 AL nC (l.flatMap CheckR.cells)) := Lib.hid (Reads.below RL.out K8.out (Nat.le_refl _))
  have RO8 : Hid (Reads w8 w2.heap.size 1 AO nO (ol.map Value.string)) := Lib.hid (Reads.below RO.out J8.out (Nat.le_refl _))
  have hs8 := K8.out.size
  have hs28 := J8.out.size
  have hs78 := b8.size
  have B8 := Lib.hid (B1.out.trans (K8.out.mono hs1))
  clear b8 Hval RC RL RO K7 J7 J8 hs7 hs27 hs2 s1 s2 s3 qd qr qp
  have HDecn : Hid (decide (0 < (nC : Int)) = decide (0 < (nC : Int))) := Lib.hid rfl
  go_wp2_with fail
  go_loopg [20] nC (fun gk vi wr => ∃ (k : Nat), k ≤ nC ∧ gk + k = nC ∧ vi = .int .i64 (k : Int) ∧ Below w8.heap.size w8 wr)
  case atStart => exact ⟨0, by omega, by omega, rfl, Below.refl _ _⟩
  case round =>
    obtain ⟨k, hk, hgk, rfl, hb⟩ := hrel
    obtain ⟨gko, hgko⟩ : ∃ gko, gko = gk := ⟨_, rfl⟩
    rw [← hgko] at hgk
    have Hgko := Lib.hid hgko
    clear hgko
    have Hgk := Lib.hid hgk
    have HB := Lib.hid hb
    have hbs := hb.size
    clear hgk hb
    by_cases hlt : k < nC
    · as_aux_lemma =>
      obtain ⟨nl, hOF⟩ := HG.out.one (per := per) hdb hrb hpb (i := k) (by rw [Hln.out]; exact hlt)
      obtain ⟨ad, rfl, hbl, p0, p1, p2, p3, p4⟩ := CheckR.rd (Reads.below RL8.out HB.out hs8) hlt
      obtain ⟨⟨id, ed, er, ld, lr⟩, hx⟩ : ∃ x, CheckR.at_ l k = x := ⟨_, rfl⟩
      rw [hx] at p0 p1 p2 p3 p4 hOF
      simp only at p0 p1 p2 p3 p4
      obtain ⟨ov, hov⟩ : ∃ b, overB ⟨id, ed, er, ld, lr⟩ day rides = b := ⟨_, rfl⟩
      rw [hov] at hOF
      have OF := Lib.hid hOF
      obtain ⟨⟨hbd1, hbd2⟩, ⟨hbd3, hbd4⟩, ⟨hbd5, hbd6⟩, hbd7, hbd8⟩ := hOF.bd
      simp only at hbd1 hbd2 hbd3 hbd4 hbd5 hbd6 hbd7 hbd8
      have hid : id.size ≤ 1048576 := by
        have := (nameB_len (checkB_true hOF.chk).1).2
        simp only at this
        omega
      clear hOF hov hx
      have hk0 : (0 : Int) ≤ (k : Int) := by omega
      have hk1 : (k : Int) < (nC : Int) := by omega
      have b9 := (Below.refl wr.heap.size wr).alloc (Nat.le_refl _) (.cells #[.string id, .int .i64 ed, .int .i64 er, .int .i64 ld, .int .i64 lr] 39)
      obtain ⟨w9, hw9⟩ : ∃ w9, wr.alloc (.cells #[.string id, .int .i64 ed, .int .i64 er, .int .i64 ld, .int .i64 lr] 39) = w9 := ⟨_, rfl⟩
      have X9 : Hid (HC w9 wr.heap.size [.string id, .int .i64 ed, .int .i64 er, .int .i64 ld, .int .i64 lr]) := Lib.hid (by rw [← hw9]; exact ⟨fun j u hu => by simpa using hu, fun j => by simp, by simp⟩)
      rw [hw9] at b9
      have B9 := Lib.hid (HB.out.trans (b9.mono hbs))
      have HW9 := Lib.hid hw9
      have HDue := Lib.hid (implDueIn_any (a0 := id) (a1 := ed) (a2 := er) (a3 := ld) (a4 := lr) (day := day) (rides := rides) (w := w9) hid)
      rw [OF.out.due] at HDue
      obtain ⟨dv, hdv⟩ : ∃ v, dueA ⟨id, ed, er, ld, lr⟩ day = v := ⟨_, rfl⟩
      obtain ⟨rv, hrv⟩ : ∃ v, dueB ⟨id, ed, er, ld, lr⟩ rides = v := ⟨_, rfl⟩
      have hOv := OF.out.ovr
      rw [hdv, hrv] at HDue hOv
      have HOv := Lib.hid hOv
      have hdv' : ld + ed - day = dv := hdv
      have hrv' : lr + er - rides = rv := hrv
      have hs9 := B9.out.size
      have hltx := X9.out.lt
      clear b9 hw9 hdv hrv hOv
      go_wp2_with fail
      rw [HW9.out]
      refine HDue.out.mono ?_
      rintro e w10 ⟨rfl, b10⟩
      have X10 := Lib.hid (X9.out.below b10 hltx)
      have B10 := Lib.hid (B9.out.trans (b10.mono hs9))
      have hlt10 := X10.out.lt
      have hs10 := B10.out.size
      clear b10 HDue HW9 X9 B9 p0 p1 p2 p3 p4 hs9 hltx
      generalize wr.heap.size = bx at *
      go_wp2_with fail
      go_loopg [25, 26] nO (fun gk vf vk wq => ∃ (j : Nat), j ≤ nO ∧ gk + j = nO ∧ vk = .int .i64 (j : Int) ∧ vf = .bool ((ol.take j).any (fun s => s.toList == id.toList)) ∧ Below w10.heap.size w10 wq)
      case atStart => exact ⟨0, by omega, by omega, rfl, by rw [List.take_zero]; rfl, Below.refl _ _⟩
      case round =>
        obtain ⟨j, hj, hgj, rfl, rfl, hb⟩ := hrel
        have Hgj := Lib.hid hgj
        have HBj := Lib.hid hb
        clear hgj hb
        have hj0 : (0 : Int) ≤ (j : Int) := by omega
        have qj : IntKind.i64.wrap ((j : Int) + 1) = (j : Int) + 1 := IntWalk.i64_in _ (by omega)
        by_cases hltj : j < nO
        · as_aux_lemma =>
          have hjl : j < ol.length := by rw [← HnO.out]; exact hltj
          obtain ⟨ao, u, rfl, hblo, hu, g0⟩ := Reads.at_ (Reads.below RO8.out (B10.out.trans (HBj.out.mono hs10)) hs28) hltj
          obtain ⟨sj, hsj⟩ : ∃ x, ol[j] = x := ⟨_, rfl⟩
          have hu2 : u = .string sj := by
            rw [List.getElem?_map, List.getElem?_eq_getElem hjl, hsj] at hu
            simpa using hu.symm
          subst hu2
          have HT : Hid ((ol.take (j + 1)).any (fun s => s.toList == id.toList) = ((ol.take j).any (fun s => s.toList == id.toList) || (sj.toList == id.toList))) := Lib.hid (by
            rw [List.take_add_one, List.getElem?_eq_getElem hjl, hsj]
            simp)
          have x0 : wr.cell? ⟨bx, 0, none⟩ = some (.string id) := (X10.out.below HBj.out hlt10).at_ 0 _ rfl
          have hj1 : (j : Int) < (nO : Int) := by omega
          have HBd := Lib.hid (fun d => below_drewN (w := wr) HBj.out d)
          clear hu hsj hjl
          obtain ⟨fl, hfl⟩ : ∃ b, (ol.take j).any (fun s => s.toList == id.toList) = b := ⟨_, rfl⟩
          obtain ⟨bb, hbb⟩ : ∃ b, (sj.toList == id.toList) = b := ⟨_, rfl⟩
          rw [hfl, hbb] at HT
          rw [hfl]
          clear hfl
          cases fl with
          | true =>
            go_wp2_with fail
            go_quiet (fail)
            go_wp2_with fail
            have hgj := Hgj.out
            go_roundg (gk - 1)
            case rel => exact ⟨j + 1, by omega, by omega, by go_num, by rw [HT.out]; rfl, HBd.out _⟩
            case measure => omega
          | false =>
            go_wp2_with fail
            go_quiet (fail)
            go_wp2_with fail
            have hgj := Hgj.out
            go_roundg (gk - 1)
            case rel => exact ⟨j + 1, by omega, by omega, by go_num, by rw [HT.out]; rfl, HBd.out _⟩
            case measure => omega
        · have hje : nO = j := by omega
          have hj1 : ¬ (j : Int) < (nO : Int) := by omega
          have HA : (ol.take j).any (fun s => s.toList == id.toList) = ov := by
            rw [List.take_of_length_le (by rw [← HnO.out]; omega)]
            have := OF.out.any
            rw [Hol.out] at this
            exact this
          rw [HA]
          clear HA hje
          have B11 := Lib.hid (B10.out.trans (HBj.out.mono hs10))
          have X11 := Lib.hid (X10.out.below HBj.out hlt10)
          have hs11 := B11.out.size
          have hlt11 := X11.out.lt
          have x0 : wr.cell? ⟨bx, 0, none⟩ = some (.string id) := X11.out.at_ 0 _ rfl
          have x1 : wr.cell? ⟨bx, 1, none⟩ = some (.int .i64 ed) := X11.out.at_ 1 _ rfl
          have x2 : wr.cell? ⟨bx, 2, none⟩ = some (.int .i64 er) := X11.out.at_ 2 _ rfl
          have x3 : wr.cell? ⟨bx, 3, none⟩ = some (.int .i64 ld) := X11.out.at_ 3 _ rfl
          have x4 : wr.cell? ⟨bx, 4, none⟩ = some (.int .i64 lr) := X11.out.at_ 4 _ rfl
          have hw8 := B8.out.size
          have HTx := Lib.hid (implCheckText_any (a0 := id) (a1 := ed) (a2 := er) (a3 := ld) (a4 := lr) (w := wr) hid (Tab.out.below (B8.out.trans (B11.out.mono hw8))).1)
          have HRt := Lib.hid (rRC_text OF.out.chk)
          have HTs := Lib.hid (text_size OF.out.chk)
          obtain ⟨tx, htx⟩ : ∃ t, rCheckText ⟨id, ed, er, ld, lr⟩ = t := ⟨_, rfl⟩
          rw [htx] at HTx HRt HTs
          clear htx B10 X10 HBj hlt10 hs10 qj
          go_wp2_with fail
          refine HTx.out.mono ?_
          rintro e w12 ⟨rfl, b12⟩
          have B12 := Lib.hid (B11.out.trans (b12.mono hs11))
          have X12 := Lib.hid (X11.out.below b12 hlt11)
          have hs12 := B12.out.size
          have hlt12 := X12.out.lt
          have HRd := Lib.hid (implReadCheck_any (s := tx) (w := w12) HTs.out (Tab.out.below (B8.out.trans (B12.out.mono hw8))))
          unfold RcP at HRd
          rw [HRt.out] at HRd
          simp only [CheckR.val] at HRd
          clear b12 B11 X11 hs11 hlt11 x0 x1 x2 x3 x4 HTx HRt HTs
          go_wp2_with fail
          refine HRd.out.mono ?_
          rintro e w13 ⟨rfl, b13⟩
          have b14 := b13.alloc b13.size (.cells #[.string id, .int .i64 ed, .int .i64 er, .int .i64 ld, .int .i64 lr] 39)
          have B14 := Lib.hid (B12.out.trans (b14.mono hs12))
          have X14 := Lib.hid (X12.out.below b14 hlt12)
          have Y14 : Hid (HC (w13.alloc (.cells #[.string id, .int .i64 ed, .int .i64 er, .int .i64 ld, .int .i64 lr] 39)) w13.heap.size [.string id, .int .i64 ed, .int .i64 er, .int .i64 ld, .int .i64 lr]) := Lib.hid ⟨fun j u hu => by simpa using hu, fun j => by simp, by simp⟩
          clear b13 b14 B12 X12 HRd hs12
          go_upto_region 26 with fail
          obtain ⟨w14, hw14⟩ : ∃ w14, (w13.alloc (.cells #[.string id, .int .i64 ed, .int .i64 er, .int .i64 ld, .int .i64 lr] 39)) = w14 := ⟨_, rfl⟩
          rw [hw14] at B14 X14 Y14 ⊢
          clear hw14
          generalize w13.heap.size = by_ at *
          obtain ⟨adc, rfl, hblc, hcd⟩ := Ints.at_ (Reads.below RC8.out B14.out (by omega)) hlt
          obtain ⟨dn, hdn⟩ : ∃ v, nth cs k = v := ⟨_, rfl⟩
          rw [hdn] at hcd
          have hcnt := OF.out.cnt
          rw [Hln.out, Hcs.out, hdn] at hcnt
          have HCnt := Lib.hid hcnt
          have HDV := Lib.hid hdv'
          have HRV := Lib.hid hrv'
          clear hdn hcnt hdv' hrv'
          refine chain26 X14.out Y14.out hcd hlt HOv HDV HRV HCnt (by omega) ?_
          intros
          simp only [Exit.then]
          go_at_K
          have x0 : w14.cell? ⟨bx, 0, none⟩ = some (.string id) := X14.out.at_ 0 _ rfl
          have hs14 := B14.out.size
          have HDo := Lib.hid (implDoCheck_any (id := id) (day := day) (rides := rides) (c := cl) (Reads.below RL8.out B14.out hs8) (by omega) hcl (by omega) HF.out hid)
          have hdoc := OF.out.doc
          simp only at hdoc
          rw [hdoc] at HDo
          simp only at HDo
          clear hdoc Y14 HCnt HDV HRV hcd
          go_wp2_with fail
          refine HDo.out.mono ?_
          rintro e w15 ⟨A7, n7, c7, rfl, _, o7, b15⟩
          have hn7 : n7 = nC := by
            have h1 := CheckR.count o7.reads
            have h2 := OF.out.len
            rw [Hln.out] at h2
            omega
          subst hn7
          have B15 := Lib.hid (B14.out.trans (b15.mono hs14))
          have R7 : Hid (Reads w15 w15.heap.size 5 A7 n7 (nl.flatMap CheckR.cells)) := Lib.hid o7.reads
          have hc7 := o7.cap
          obtain ⟨a7, rfl, hbl7, q0, q1, q2, q3, q4⟩ := CheckR.rd R7.out hlt
          rw [OF.out.now] at q3 q4
          simp only [doneC] at q3 q4
          have hs15 := B15.out.size
          have HSt := Lib.hid (specOverdueChecks_any (c := c7) (day := day) (rides := rides) R7.out (Nat.le_refl _) hc7 (by omega) OF.out.sz)
          obtain ⟨st1, st2⟩ := OF.out.still
          rw [st1] at HSt
          rw [Hol.out, ← HnO.out] at st2
          obtain ⟨sl, hsl⟩ : ∃ x, (rOverdueChecks nl day rides).1 = x := ⟨_, rfl⟩
          rw [hsl] at HSt st2
          have St2 := Lib.hid st2
          clear o7 b15 x0 HDo X14 B14 q0 q1 q2 st1 st2 hsl hs14
          go_wp2_with fail
          refine HSt.out.mono ?_
          rintro e w16 ⟨A8, n8, c8, rfl, hn8, o8, b16⟩
          have h8 : sl.length = n8 := by
            have := o8.reads.1
            rw [List.length_map] at this
            omega
          have hst := St2.out
          rw [h8] at hst
          have B16 := Lib.hid (B15.out.trans (b16.mono hs15))
          clear o8 b16 HSt St2 q3 q4 R7 B15 h8 hbl7
          cases ov with
          | true => as_aux_lemma =>
            have g5 : IntKind.i64.wrap ((nO : Int) - 1) = (nO : Int) - 1 := IntWalk.i64_in _ (by omega)
            have hst2 : (n8 : Int) = (nO : Int) - 1 := by simpa using hst
            have q5 : IntKind.i64.wrap ((k : Int) + 1) = (k : Int) + 1 := IntWalk.i64_in _ (by omega)
            clear hst
            go_wp2_with fail
            have hgk := Hgk.out
            have hgko := Hgko.out
            go_roundg (gko - 1)
            case rel => exact ⟨k + 1, by omega, by omega, by go_num, B16.out⟩
            case measure => omega
          | false => as_aux_lemma =>
            have hst2 : n8 = nO := by
              have h2 : (n8 : Int) = (nO : Int) := by simpa using hst
              omega
            subst hst2
            have q5 : IntKind.i64.wrap ((k : Int) + 1) = (k : Int) + 1 := IntWalk.i64_in _ (by omega)
            clear hst
            go_wp2_with fail
            have hgk := Hgk.out
            have hgko := Hgko.out
            go_roundg (gko - 1)
            case rel => exact ⟨k + 1, by omega, by omega, by go_num, B16.out⟩
            case measure => omega
    · have hk1 : ¬ (k : Int) < (nC : Int) := by omega
      have hw8 := B8.out.size
      have HLf : Hid (op = true → lf = leftTo l rides nC) := Lib.hid (fun ho => by
        have e1 := Hlf.out
        rw [ho, if_pos rfl] at e1
        injection e1)
      have HLa : Hid (op = true → la = day + untilTo l day rides per nC) := Lib.hid (fun ho => by
        have e1 := Hla.out
        rw [ho, if_pos rfl] at e1
        injection e1)
      clear Hgk RC8 RO8 hs28 hs78 HnO Hcs
      go_upto_if 314 with fail
      rename_i hK
      refine cond314 HG Hln hdb hrb hpb hn5 hcl HF Hop HLa RL8 hs8 HLf HB ?_
      intros
      rename_i wx hbx
      simp only [Exit.then]
      refine hK _ _ ?_
      exact stage39 HG Hln hdb hrb hpb hn5 hcl HF Hop HLa RL8 hs8 Hfi (Lib.hid hbx) (Lib.hid (B8.out.trans (hbx.mono hw8)))
end Go.Proofs.YtickepianllblaaGreatDoor
