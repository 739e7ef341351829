/- Loads: MostPeople: the program's search. -/
import Derived.Test.YtmnpehajojdhcaaPh
import Derived.StillTailTactics
import Derived.Deep.RegionHeld3
import Derived.Deep.DeepCutAuto
namespace Go.Proofs.Ytmnpehajojdhcaa
open Go.RowKit
set_option maxRecDepth 100000
set_option linter.unusedVariables false
set_option linter.unusedSimpArgs false

/-- The program's search, in memory. -/
def mvs (A : Option Addr) (n c : Nat) (r : RoomR) (Ab : Option Addr) (nb cb : Nat) (s : MS) : List Value :=
  [.int .i64 (s.left : Int), .bool s.spent, .slice A n c, .int .i64 r.People, .int .i64 r.Bikes, .int .i64 r.Kilos, .slice Ab nb cb, .int .i64 s.most]
def MPost (bh : Nat) (A : Option Addr) (n c : Nat) (r : RoomR) (s : MS) (w : World) (e : Ending) (w' : World) : Prop :=
  ∃ (Ab : Option Addr) (nb cb : Nat), e = .returned (.tuple #[]) ∧ HC w' bh (mvs A n c r Ab nb cb s) ∧ Own w' (bh + 1) 2 1 Ab nb cb ((ciN s.best).map (Value.int .i64)) ∧ Touch2 w w' bh none
/-- Where the loop of a set begins. -/
def FromOk (ws : List Nat) (fr : Nat) : Prop := (ws.length = 0 ∧ fr = 0) ∨ (0 < ws.length ∧ 0 < fr ∧ ws.getD (ws.length - 1) 0 + 1 = fr)
theorem below_alloc1 {w w' : World} (h : Below w.heap.size w w') (o : Obj) : Below w.heap.size w (w'.alloc o) := h.alloc h.size o
theorem from_snoc (ws : List Nat) (k : Nat) : FromOk (ws ++ [k]) (k + 1) := .inr ⟨by simp, by omega, by simp [List.getD]⟩

set_option maxHeartbeats 8000000 in
theorem msearch_any : ∀ (m : Nat) (A Aw Ab : Option Addr) (n c cw nb cb bh fr : Nat) (l : List GroupR) (r : RoomR) (ws : List Nat) (s : MS) (w : World) (h : Reads w bh 4 A n (l.flatMap GroupR.cells)) (hn : n ≤ 12) (hg : GOk l) (hF : FromOk ws fr) (hwf : ws.length ≤ fr) (hfn : fr ≤ n) (hws : ∀ k ∈ ws, k < n) (hm : n < m + fr)
    (hl : s.left ≤ 20000) (hok : MOk n s) (hc : HC w bh (mvs A n c r Ab nb cb s)) (hw : Own w (bh + 1) 2 1 Aw ws.length cw ((ciN ws).map (Value.int .i64))) (hb : Own w (bh + 1) 2 1 Ab nb cb ((ciN s.best).map (Value.int .i64))),
    Calls Try.prog 49 #[.pointer (some ⟨bh, 0, none⟩), .slice Aw ws.length cw, .agg #[.int .i64 (sumG GroupR.People l ws), .int .i64 (sumG GroupR.Bikes l ws), .int .i64 (sumG kiloG l ws)]] w (MPost bh A n c r (ms l r m ws fr s) w) := by
  intro m
  induction m with
  | zero => intro A Aw Ab n c cw nb cb bh fr l r ws s w h hn hg hF hwf hfn hws hm; omega
  | succ m ih =>
    intro A Aw Ab n c cw nb cb bh fr l r ws s w h hn hg hF hwf hfn hws hm hl hok hc hw hb
    have HL := Lib.hid (GroupR.count h)
    have hlt := hc.lt
    obtain ⟨i0, hi1, hz0, hz1, hz2⟩ := info_parts info_int
    have Hq : Hid (ms l r (m + 1) ws fr s = if s.spent then s else if s.left = 0 then ⟨0, true, s.best, s.most⟩ else (List.range' fr (l.length - fr)).foldl (mkid l r (ms l r m) ws) (mput l ws s)) := Lib.hid (by rw [ms])
    have hsum := gok_sums hg (ws := ws) (fun k hk => by rw [HL.out]; exact hws k hk)
    obtain ⟨sP, hsP⟩ : ∃ x, sumG GroupR.People l ws = x := ⟨_, rfl⟩
    obtain ⟨sB, hsB⟩ : ∃ x, sumG GroupR.Bikes l ws = x := ⟨_, rfl⟩
    obtain ⟨sK, hsK⟩ : ∃ x, sumG kiloG l ws = x := ⟨_, rfl⟩
    rw [hsP, hsB, hsK] at hsum
    rw [hsP, hsB, hsK]
    obtain ⟨w0, hw0⟩ : ∃ w0, w0 = w.alloc (.cells #[.int .i64 sP, .int .i64 sB, .int .i64 sK] 36) := ⟨_, rfl⟩
    have b0 : Below w.heap.size w w0 := by rw [hw0]; exact (Below.refl _ _).alloc (Nat.le_refl _) _
    have hbz : w.heap.size < w0.heap.size := by rw [hw0]; simp
    have B0 := Lib.hid b0
    have Hc := Lib.hid (hc.below b0 hlt)
    have Hw := Lib.hid (hw.below b0)
    have Hb := Lib.hid (hb.below b0)
    have Hbx : Hid (HC w0 w.heap.size [.int .i64 sP, .int .i64 sB, .int .i64 sK]) := Lib.hid (by rw [hw0]; exact ⟨fun j u hu => by simpa using hu, fun j => by simp, by simp⟩)
    have HM0 : Hid (Reads w bh 4 A n (l.flatMap GroupR.cells)) := Lib.hid h
    have Ih := Lib.hid ih
    have Hg := Lib.hid hg
    have HF := Lib.hid hF
    have Hws := Lib.hid hws
    have Hok := Lib.hid hok
    have HsP := Lib.hid hsP
    have HsB := Lib.hid hsB
    have HsK := Lib.hid hsK
    have Hw0 := Lib.hid hw0
    have d0 : w0.cell? ⟨bh, 0, none⟩ = some (.int .i64 (s.left : Int)) := Hc.out.at_ 0 _ rfl
    have d1 : w0.cell? ⟨bh, 1, none⟩ = some (.bool s.spent) := Hc.out.at_ 1 _ rfl
    rw [hw0] at d0 d1
    clear ih hg hF hws hok hsP hsB hsK hw0 hc hw hb h b0
    cases hsp : s.spent with
    | true =>
      rw [hsp] at d1
      have HF0 : Hid (MPost bh A n c r (ms l r (m + 1) ws fr s) w (.returned (.tuple #[])) w0) := Lib.hid (by
        rw [Hq.out, if_pos hsp]; exact ⟨Ab, nb, cb, rfl, Hc.out, Hb.out, Touch2.of_below _ _ B0.out⟩)
      clear hsp
      go_enter Try.func49, Try.ntmps49
      go_wp2_with fail
      rw [← Hw0.out]
      exact bodyPost_ret (v := .tuple #[]) (by simp [results, Try.results49, go_sem]) rfl HF0.out
    | false =>
    rw [hsp] at d1
    by_cases hl0 : s.left = 0
    · have HF0 : Hid (MPost bh A n c r (ms l r (m + 1) ws fr s) w (.returned (.tuple #[])) (w0.setCell ⟨bh, 1, none⟩ (.bool true))) := Lib.hid (by
        rw [Hq.out, hsp, if_neg (by simp), if_pos hl0]
        have hc1 := Hc.out.set (j := 1) (.bool true) (by simp [mvs])
        refine ⟨Ab, nb, cb, rfl, ?_, Hb.out.setFar (Nat.lt_succ_self _) _, (Touch2.of_below bh none B0.out).trans (Touch2.of_set _ bh 1 _ none) (OldNew.refl _ _)⟩
        simp only [mvs, List.set_cons_succ, List.set_cons_zero, hl0] at hc1
        exact hc1)
      have Hl0 := Lib.hid hl0
      clear hsp hl0
      go_enter Try.func49, Try.ntmps49
      go_wp2_with fail
      rw [← Hw0.out]
      refine (node_any (left := s.left) (sp := s.spent) Hc.out hl).mono ?_
      rintro e w' (⟨h0, rfl, rfl⟩ | ⟨h0, rfl, rfl⟩)
      · go_wp2_with fail
        exact bodyPost_ret (v := .tuple #[]) (by simp [results, Try.results49, go_sem]) rfl HF0.out
      · exact absurd Hl0.out (by omega)
    · have Hs1 := Lib.hid (mput_left l ws s)
      have Hqq : Hid (ms l r (m + 1) ws fr s = (List.range' fr (l.length - fr)).foldl (mkid l r (ms l r m) ws) (mput l ws s)) := Lib.hid (by rw [Hq.out, hsp, if_neg (by simp), if_neg hl0])
      have Hput : Hid (mput l ws s = if s.most < sP then ⟨s.left - 1, false, ws, sP⟩ else ⟨s.left - 1, false, s.best, s.most⟩) := Lib.hid (by unfold mput; rw [HsP.out])
      have Hok1 : Hid (MOk n (mput l ws s)) := Lib.hid (mput_ok Hok.out (by omega) (by rw [HsP.out]; omega))
      have Hl0 := Lib.hid hl0
      have hc1 : HC (w0.setCell ⟨bh, 0, none⟩ (.int .i64 ((s.left - 1 : Nat) : Int))) bh (mvs A n c r Ab nb cb ⟨s.left - 1, false, s.best, s.most⟩) := by
        have := Hc.out.set (j := 0) (.int .i64 ((s.left - 1 : Nat) : Int)) (by simp [mvs])
        simp only [mvs, List.set_cons_zero, hsp] at this
        exact this
      have Hc1 := Lib.hid hc1
      have Hw1 := Lib.hid (Hw.out.setFar (j := 0) (Nat.lt_succ_self bh) (.int .i64 ((s.left - 1 : Nat) : Int)))
      have Hb1 := Lib.hid (Hb.out.setFar (j := 0) (Nat.lt_succ_self bh) (.int .i64 ((s.left - 1 : Nat) : Int)))
      have Hbx1 := Lib.hid (Hbx.out.touch2 (Touch2.of_set w0 bh 0 (.int .i64 ((s.left - 1 : Nat) : Int)) none) (by omega) (fun a e => by cases e))
      have Ht1 := Lib.hid ((Touch2.of_below bh none B0.out).trans (Touch2.of_set w0 bh 0 (.int .i64 ((s.left - 1 : Nat) : Int)) none) (OldNew.refl _ _))
      have Hz1 : Hid ((w0.setCell ⟨bh, 0, none⟩ (.int .i64 ((s.left - 1 : Nat) : Int))).heap.size = w0.heap.size) := Lib.hid (by simp [World.setCell])
      clear hsp hl0 hc1
      go_enter Try.func49, Try.ntmps49
      go_wp2_with fail
      rw [← Hw0.out]
      refine (node_any (left := s.left) (sp := s.spent) Hc.out hl).mono ?_
      rintro e w' (⟨h0, rfl, rfl⟩ | ⟨h0, rfl, rfl⟩)
      · exact absurd h0 Hl0.out
      · clear d0 d1 Hc Hw Hb Hbx
        generalize w0.setCell ⟨bh, 0, none⟩ (.int .i64 ((s.left - 1 : Nat) : Int)) = W1 at *
        have e7 : W1.cell? ⟨bh, 7, none⟩ = some (.int .i64 s.most) := Hc1.out.at_ 7 _ rfl
        have x0 : W1.cell? ⟨w.heap.size, 0, none⟩ = some (.int .i64 sP) := Hbx1.out.at_ 0 _ rfl
        have hltW := Hc1.out.lt
        go_wp2_with fail
        go_quiet (fail)
        rename_i nq
        have Hc2 := Lib.hid (Hc1.out.drewN nq)
        have Hw2 := Lib.hid (own_drewN Hw1.out nq)
        have Hb2 := Lib.hid (own_drewN Hb1.out nq)
        have Hbx2 := Lib.hid (Hbx1.out.drewN nq)
        have Ht2 := Lib.hid (Ht1.out.trans (Touch2.of_below bh none (below_drewN (Below.refl W1.heap.size W1) nq)) (OldNew.refl _ _))
        have Hz2 : Hid ((W1.drewN nq).heap.size = w0.heap.size) := Hz1
        clear e7 x0 Hc1 Hw1 Hb1 Hbx1 Ht1 Hz1
        generalize W1.drewN nq = W2 at *
        obtain ⟨bg, hbg⟩ : ∃ bg : Bool, decide (s.most < sP) = bg := ⟨_, rfl⟩
        rw [hbg]
        have Hbg := Lib.hid hbg
        clear hbg
        go_upto_if 27 with fail
        go_cut [] (fun wx => ∃ (Ab2 : Option Addr) (nb2 cb2 : Nat), HC wx bh (mvs A n c r Ab2 nb2 cb2 (mput l ws s)) ∧ Own wx (bh + 1) 2 1 Ab2 nb2 cb2 ((ciN (mput l ws s).best).map (Value.int .i64)) ∧ Own wx (bh + 1) 2 1 Aw ws.length cw ((ciN ws).map (Value.int .i64)) ∧
          HC wx w.heap.size [.int .i64 sP, .int .i64 sB, .int .i64 sK] ∧ Touch2 w wx bh none ∧ wx.heap.size = w0.heap.size)
        case first =>
          cases bg with
          | true =>
            have hgt : s.most < sP := of_decide_eq_true Hbg.out
            have x0 : W2.cell? ⟨w.heap.size, 0, none⟩ = some (.int .i64 sP) := Hbx2.out.at_ 0 _ rfl
            have e6 : W2.cell? ⟨bh, 6, none⟩ = some (.slice Ab nb cb) := Hc2.out.at_ 6 _ rfl
            have e7 : W2.cell? ⟨bh, 7, none⟩ = some (.int .i64 s.most) := Hc2.out.at_ 7 _ rfl
            have f6 := Hc2.out.fz 6
            have f7 := Hc2.out.fz 7
            have hlt2 := Hc2.out.lt
            have Hpp := Lib.hid (Hput.out.trans (if_pos hgt))
            clear hgt
            go_wp2_with fail
            go_region
            all_goals
             go_wp2_with fail
             go_meet
             have hc3 := (((Hc2.out.set (j := 6) (.slice Aw ws.length cw) (by simp [mvs])).set (j := 7) (.int .i64 sP) (by simp [mvs])).drewN 1)
             have hz3 : (((W2.setCell ⟨bh, 6, none⟩ (.slice Aw ws.length cw)).setCell ⟨bh, 7, none⟩ (.int .i64 sP)).drewN 1).heap.size = w0.heap.size := by rw [← Hz2.out]; simp [World.setCell, World.drewN]
             refine ⟨Aw, ws.length, cw, by rw [Hpp.out]; exact hc3, by rw [Hpp.out]; exact own_drewN ((Hw2.out.setFar (Nat.lt_succ_self _) _).setFar (Nat.lt_succ_self _) _) 1, own_drewN ((Hw2.out.setFar (Nat.lt_succ_self _) _).setFar (Nat.lt_succ_self _) _) 1,
               ((Hbx2.out.touch2 (Touch2.of_set W2 bh 6 _ none) (by omega) (fun a e => by cases e)).touch2 (Touch2.of_set _ bh 7 _ none) (by omega) (fun a e => by cases e)).drewN 1, ?_, hz3⟩
             exact ((Ht2.out.trans (Touch2.of_set W2 bh 6 _ none) (OldNew.refl _ _)).trans (Touch2.of_set _ bh 7 _ none) (OldNew.refl _ _)).trans (Touch2.of_below bh none (below_drewN (Below.refl _ _) 1)) (OldNew.refl _ _)
          | false =>
            have hgt : ¬ s.most < sP := of_decide_eq_false Hbg.out
            have Hpp := Lib.hid (Hput.out.trans (if_neg hgt))
            clear hgt
            go_wp2_with fail
            go_meet
            exact ⟨Ab, nb, cb, by rw [Hpp.out]; exact Hc2.out, by rw [Hpp.out]; exact Hb2.out, Hw2.out, Hbx2.out, Ht2.out, Hz2.out⟩
        case rest =>
          obtain ⟨Ab3, nb3, cb3, hc3, hb3, hw3, hbx3, ht3, hz3⟩ := hcut
          have Hc3 := Lib.hid hc3
          have Hw3 := Lib.hid hw3
          have Hb3 := Lib.hid hb3
          have Hbx3 := Lib.hid hbx3
          have Ht3 := Lib.hid ht3
          have Hz3 := Lib.hid hz3
          clear hc3 hw3 hb3 hbx3 ht3 hz3 Hc2 Hw2 Hb2 Hbx2 Ht2 Hz2
          go_upto_if 39 with fail
          go_cut [6] (fun v6 wx => v6 = .int .i64 (fr : Int) ∧ wc = wx)
          case first =>
            have hwI : Ints wc wc.heap.size Aw ws.length (ciN ws) := Hw3.out.reads
            rcases HF.out with ⟨h0, h1⟩ | ⟨h0, h1, h2⟩
            · have hd : decide (0 < ws.length) = false := decide_eq_false (by omega)
              have hd2 : ¬ (0 : Int) < (ws.length : Int) := by omega
              have H1 := Lib.hid h1
              clear h1 h0
              go_wp2_with fail
              go_meet
              exact ⟨by rw [H1.out]; rfl, rfl⟩
            · have hd : decide (0 < ws.length) = true := decide_eq_true h0
              have hd2 : (0 : Int) < (ws.length : Int) := by omega
              obtain ⟨adw, rfl, _, hcl⟩ := Ints.at_ hwI (show ws.length - 1 < ws.length by omega)
              rw [ciN_nth (by omega)] at hcl
              obtain ⟨kl, hkl⟩ : ∃ kl, ws.getD (ws.length - 1) 0 = kl := ⟨_, rfl⟩
              rw [hkl] at hcl h2
              clear hkl
              have hk2 : (0 : Int) ≤ (ws.length : Int) - 1 := by omega
              have hk3 : (ws.length : Int) - 1 < (ws.length : Int) := by omega
              have ht1 : ((ws.length : Int) - 1).toNat = ws.length - 1 := by omega
              have hq1 : IntKind.i64.wrap ((ws.length : Int) - 1) = (ws.length : Int) - 1 := IntWalk.i64_in _ (by omega)
              have hq2 : IntKind.i64.wrap ((kl : Int) + 1) = (fr : Int) := by rw [IntWalk.i64_in _ (by omega)]; omega
              clear h2
              go_wp2_with fail
              go_meet
              exact ⟨rfl, rfl⟩
          case rest =>
            obtain ⟨rfl, hwc⟩ := hcut
            subst hwc
            have hn0 : n ≤ 140737488351232 := by omega
            have hlen := HL.out
            go_wp2_with fail
            go_loopg [7] (n - fr) (fun gk vk wr => ∃ (j : Nat) (Ab1 : Option Addr) (nb1 cb1 : Nat) (q : MS), j ≤ n - fr ∧ gk + j = n - fr ∧ vk = .int .i64 ((fr + j : Nat) : Int) ∧
              (List.range' fr j).foldl (mkid l r (ms l r m) ws) (mput l ws s) = q ∧ q.left ≤ 20000 ∧ MOk n q ∧ HC wr bh (mvs A n c r Ab1 nb1 cb1 q) ∧ Own wr (bh + 1) 2 1 Ab1 nb1 cb1 ((ciN q.best).map (Value.int .i64)) ∧ Own wr (bh + 1) 2 1 Aw ws.length cw ((ciN ws).map (Value.int .i64)) ∧
              HC wr w.heap.size [.int .i64 sP, .int .i64 sB, .int .i64 sK] ∧ Touch2 w wr bh none ∧ w.heap.size < wr.heap.size)
            case atStart => exact ⟨0, Ab3, nb3, cb3, mput l ws s, by omega, by omega, rfl, rfl, by have := Hs1.out.1; omega, Hok1.out, Hc3.out, Hb3.out, Hw3.out, Hbx3.out, Ht3.out, by have := Hz3.out; omega⟩
            case round =>
              clear Hc3 Hw3 Hb3 Hbx3 Ht3 Hz3 Hok1 Hbg Hput hlen
              obtain ⟨j, Ab1, nb1, cb1, q, hj, hgk, rfl, hq, hql, hqo, hc1, hb1, hw1, hbx1, ht1, hsz1⟩ := hrel
              have Hgk := Lib.hid hgk
              have HQ := Lib.hid hq
              have Hqo := Lib.hid hqo
              have Hc1 := Lib.hid hc1
              have Hb1 := Lib.hid hb1
              have Hw1 := Lib.hid hw1
              have Hbx1 := Lib.hid hbx1
              have Ht1 := Lib.hid ht1
              have hlt1 := hc1.lt
              have Hbel := Lib.hid (touch2_belowM ht1 (show bh ≤ w.heap.size by omega))
              clear hgk hq hqo hc1 hb1 hw1 hbx1 ht1
              obtain ⟨k, hk⟩ : ∃ k, fr + j = k := ⟨_, rfl⟩
              have Hk := Lib.hid hk
              rw [hk]
              have hfk : fr ≤ k := by omega
              have hqk : IntKind.i64.wrap ((k : Int) + 1) = (k : Int) + 1 := IntWalk.i64_in _ (by omega)
              have c2 : wr.cell? ⟨bh, 2, none⟩ = some (.slice A n c) := Hc1.out.at_ 2 _ rfl
              by_cases hlt2 : k < n
              · have hjn : j < n - fr := by omega
                have hk0 : (0 : Int) ≤ (k : Int) := by omega
                have hk1 : (k : Int) < (n : Int) := by omega
                clear hk
                have HS : Hid ((List.range' fr (j + 1)).foldl (mkid l r (ms l r m) ws) (mput l ws s) = if fitsW l r (ws ++ [k]) then ms l r m (ws ++ [k]) (k + 1) q else q) := Lib.hid (by rw [mfold_succ, HQ.out, Hk.out]; rfl)
                obtain ⟨adl, rfl, hbl, g0, g1, g2, g3⟩ := GroupR.rd (Reads.below HM0.out Hbel.out (Nat.le_refl _)) hlt2
                have hgx := Hg.out k (by rw [HL.out]; exact hlt2)
                have Hn1 := Lib.hid (sumG_snoc GroupR.People l ws k)
                have Hn2' := Lib.hid (sumG_snoc GroupR.Bikes l ws k)
                have Hn3 := Lib.hid (sumG_snoc kiloG l ws k)
                rw [HsP.out] at Hn1
                rw [HsB.out] at Hn2'
                rw [HsK.out] at Hn3
                have hkk : kiloG (GroupR.at_ l k) = 75 * (GroupR.at_ l k).People + 15 * (GroupR.at_ l k).Bikes + (GroupR.at_ l k).Kilos := rfl
                rw [hkk] at Hn3
                clear hkk
                generalize GroupR.at_ l k = x at *
                have x0 : wr.cell? ⟨w.heap.size, 0, none⟩ = some (.int .i64 sP) := Hbx1.out.at_ 0 _ rfl
                have x1 : wr.cell? ⟨w.heap.size, 1, none⟩ = some (.int .i64 sB) := Hbx1.out.at_ 1 _ rfl
                have x2 : wr.cell? ⟨w.heap.size, 2, none⟩ = some (.int .i64 sK) := Hbx1.out.at_ 2 _ rfl
                have hbad : adl.block < wr.heap.size := by omega
                go_upto_region 10 with (go_at_call 84; refine (size_Group_any _ _ _ _ hn0).mono ?_; rintro e w' ⟨rfl, rfl⟩)
                go_cut [8] (fun v8 wx => ∃ nx : Nat, v8 = .pointer (some ⟨nx, 0, none⟩) ∧ wr.heap.size ≤ nx ∧ HC wx nx [.int .i64 (sP + x.People), .int .i64 (sB + x.Bikes), .int .i64 (sK + (75 * x.People + 15 * x.Bikes + x.Kilos))] ∧ Below wr.heap.size wr wx)
                case first =>
                  have hD : Below wr.heap.size wr wr.drew := (Below.refl _ _).drew
                  have hE : ∀ o, Below wr.heap.size wr (wr.alloc o).drew := fun o => ((Below.refl _ _).alloc (Nat.le_refl _) _).drew
                  have HKS : Hid (∀ w' : World, Below wr.heap.size wr w' → (w'.cell? ⟨bh, 2, none⟩ = some (.slice (some adl) n c) ∧ w'.cell? ⟨w.heap.size, 0, none⟩ = some (.int .i64 sP) ∧ w'.cell? ⟨w.heap.size, 1, none⟩ = some (.int .i64 sB) ∧ w'.cell? ⟨w.heap.size, 2, none⟩ = some (.int .i64 sK) ∧
                        w'.cell? (adl.add (k * 4)) = some (.string x.Id) ∧ w'.cell? ⟨(adl.add (k * 4)).block, (adl.add (k * 4)).off + 1, none⟩ = some (.int .i64 x.People) ∧ w'.cell? ⟨(adl.add (k * 4)).block, (adl.add (k * 4)).off + 2, none⟩ = some (.int .i64 x.Bikes) ∧ w'.cell? ⟨(adl.add (k * 4)).block, (adl.add (k * 4)).off + 3, none⟩ = some (.int .i64 x.Kilos) ∧ Below wr.heap.size wr w')) := Lib.hid (fun w' hB' => ⟨(hB'.cell hlt1).trans c2, (hB'.cell hsz1).trans x0, (hB'.cell hsz1).trans x1, (hB'.cell hsz1).trans x2, (hB'.cell (by rw [block_of_add]; exact hbad)).trans g0, (hB'.cell (by show (adl.add (k * 4)).block < _; rw [block_of_add]; exact hbad)).trans g1, (hB'.cell (by show (adl.add (k * 4)).block < _; rw [block_of_add]; exact hbad)).trans g2, (hB'.cell (by show (adl.add (k * 4)).block < _; rw [block_of_add]; exact hbad)).trans g3, hB'⟩)
                  go_region_held3 (fun w' => w'.cell? ⟨bh, 2, none⟩ = some (.slice (some adl) n c) ∧ w'.cell? ⟨w.heap.size, 0, none⟩ = some (.int .i64 sP) ∧ w'.cell? ⟨w.heap.size, 1, none⟩ = some (.int .i64 sB) ∧ w'.cell? ⟨w.heap.size, 2, none⟩ = some (.int .i64 sK) ∧
                      w'.cell? (adl.add (k * 4)) = some (.string x.Id) ∧ w'.cell? ⟨(adl.add (k * 4)).block, (adl.add (k * 4)).off + 1, none⟩ = some (.int .i64 x.People) ∧ w'.cell? ⟨(adl.add (k * 4)).block, (adl.add (k * 4)).off + 2, none⟩ = some (.int .i64 x.Bikes) ∧ w'.cell? ⟨(adl.add (k * 4)).block, (adl.add (k * 4)).off + 3, none⟩ = some (.int .i64 x.Kilos) ∧ Below wr.heap.size wr w')
                    ((with_reducible refine HKS.out _ ?_; (first | with_reducible exact hD | with_reducible exact hE _ | with_reducible exact hb3 | with_reducible exact hb3.alloc hb3.size _ | with_reducible exact ((hb3.setCell hnx _).setCell hnx _).setCell hnx _ | with_reducible exact hb2 | with_reducible exact hb2.alloc hb2.size _ | with_reducible exact (hb2.alloc hb2.size _).drew)))
                    ((first
                      | (go_at_call 86; refine (need_any hgx.1 hgx.2.1 hgx.2.2).mono ?_; rintro e w2 ⟨rfl, b2⟩; go_split_ands; have hbS : Below wr.heap.size wr _ := (by with_reducible assumption); have hb2 := hbS.trans (b2.mono hbS.size); clear hbS; try (have hy2 : HC w2 wr.heap.size [.int .i64 0, .int .i64 0, .int .i64 0] := HC.below (w := (wr.alloc (.cells #[.int .i64 0, .int .i64 0, .int .i64 0] 36)).drew) ⟨fun j u hu => by simpa using hu, fun j => by simp, by simp⟩ b2 (by simp)))
                      | (go_at_call 85; refine (plus_any (by omega) (by omega) (by omega) (by omega) (by omega) (by omega)).mono ?_; rintro e w3 ⟨rfl, b3⟩; go_split_ands; have hbS : Below wr.heap.size wr _ := (by with_reducible assumption); have hb3 := hbS.trans (b3.mono hbS.size); clear hbS; try (first
                          | (have hy3 : HC w3 wr.heap.size [.int .i64 0, .int .i64 0, .int .i64 0] := hy2.below b3 hy2.lt; have hnx : wr.heap.size ≤ wr.heap.size := Nat.le_refl _; have z0 := hy3.at_ 0 _ rfl; have z1 := hy3.at_ 1 _ rfl; have z2 := hy3.at_ 2 _ rfl; have y0 := hy3.fz 0; have y1 := hy3.fz 1; have y2 := hy3.fz 2)
                          | (have hy3 : HC w3 w2.heap.size [.int .i64 0, .int .i64 0, .int .i64 0] := HC.below (w := w2.alloc (.cells #[.int .i64 0, .int .i64 0, .int .i64 0] 36)) ⟨fun j u hu => by simpa using hu, fun j => by simp, by simp⟩ b3 (by simp); have hnx : wr.heap.size ≤ w2.heap.size := hb2.size; have z0 := hy3.at_ 0 _ rfl; have z1 := hy3.at_ 1 _ rfl; have z2 := hy3.at_ 2 _ rfl; have y0 := hy3.fz 0; have y1 := hy3.fz 1; have y2 := hy3.fz 2)))))
                  all_goals
                    go_wp2_with fail
                    go_meet
                    first
                      | exact ⟨_, rfl, hnx, ((hy3.set (j := 0) (.int .i64 (sP + x.People)) (by simp)).set (j := 1) (.int .i64 (sB + x.Bikes)) (by simp)).set (j := 2) (.int .i64 (sK + (75 * x.People + 15 * x.Bikes + x.Kilos))) (by simp), ((hb3.setCell hnx _).setCell hnx _).setCell hnx _⟩
                      | exact ⟨_, rfl, hb3.size, ⟨fun j u hu => by simpa using hu, fun j => by simp, by simp⟩, hb3.alloc hb3.size _⟩
                case rest =>
                  obtain ⟨nx, rfl, hnx, hn2, hb2⟩ := hcut
                  rename_i W2
                  have B2 := Lib.hid hb2
                  have Hn2 := Lib.hid hn2
                  have Hc2 := Lib.hid (Hc1.out.below hb2 hlt1)
                  have hsz2 := hb2.size
                  obtain ⟨fb, hfb⟩ : ∃ fb, fitsW l r (ws ++ [k]) = fb := ⟨_, rfl⟩
                  have hfb2 : (decide (sP + x.People ≤ r.People) && (decide (sB + x.Bikes ≤ r.Bikes) && decide (sK + (75 * x.People + 15 * x.Bikes + x.Kilos) ≤ r.Kilos))) = fb := by
                    rw [← hfb, fitsW, Hn1.out, Hn2'.out, Hn3.out]
                  have Hfb := Lib.hid hfb
                  clear hfb x0 x1 x2 g0 g1 g2 g3 c2
                  obtain ⟨aP, haP⟩ : ∃ y, sP + x.People = y := ⟨_, rfl⟩
                  obtain ⟨aB, haB⟩ : ∃ y, sB + x.Bikes = y := ⟨_, rfl⟩
                  obtain ⟨aK, haK⟩ : ∃ y, sK + (75 * x.People + 15 * x.Bikes + x.Kilos) = y := ⟨_, rfl⟩
                  rw [haP, haB, haK] at hfb2
                  rw [haP, haB, haK] at Hn2
                  rw [haP] at Hn1
                  rw [haB] at Hn2'
                  rw [haK] at Hn3
                  clear haP haB haK hn2 hb2
                  have y0 : wc.cell? ⟨nx, 0, none⟩ = some (.int .i64 aP) := Hn2.out.at_ 0 _ rfl
                  have y1 : wc.cell? ⟨nx, 1, none⟩ = some (.int .i64 aB) := Hn2.out.at_ 1 _ rfl
                  have y2 : wc.cell? ⟨nx, 2, none⟩ = some (.int .i64 aK) := Hn2.out.at_ 2 _ rfl
                  have y3 : wc.cell? ⟨bh, 3, none⟩ = some (.int .i64 r.People) := Hc2.out.at_ 3 _ rfl
                  have y4 : wc.cell? ⟨bh, 4, none⟩ = some (.int .i64 r.Bikes) := Hc2.out.at_ 4 _ rfl
                  have y5 : wc.cell? ⟨bh, 5, none⟩ = some (.int .i64 r.Kilos) := Hc2.out.at_ 5 _ rfl
                  go_wp2_with fail
                  have q0 := cell_regrown y0
                  have q1 := cell_regrown y1
                  have q2 := cell_regrown y2
                  have q3 := cell_regrown y3
                  have q4 := cell_regrown y4
                  have q5 := cell_regrown y5
                  have cV : ∀ d os, Calls Try.prog 87 #[.agg #[.int .i64 aP, .int .i64 aB, .int .i64 aK], .agg #[.int .i64 r.People, .int .i64 r.Bikes, .int .i64 r.Kilos]] (Sort.grow (redrawn wc d) os) fun e w'' => e = .returned (.bool fb) ∧ ∃ p : Regrown, w'' = Sort.grow (redrawn wc p.d) p.os := fun d os => by
                    have := fits_any (a1 := aP) (a2 := aB) (a3 := aK) (b1 := r.People) (b2 := r.Bikes) (b3 := r.Kilos) (w := Sort.grow (redrawn wc d) os)
                    rw [hfb2] at this
                    exact Calls.regrown_of this
                  clear y0 y1 y2 y3 y4 y5 hfb2
                  refine wp_region_quiet_below (by kernel_rfl) (by kernel_rfl) ?_
                  repeat (go_big_quiet_step (exact cV _ _))
                  refine wpQuiet_nil ?_
                  intro _ hw'
                  obtain ⟨⟨dq, osq⟩, hw''⟩ := hw'
                  subst hw''
                  have hbS := below_regrown wc dq osq
                  have B4 := Lib.hid (B2.out.trans (hbS.mono hsz2))
                  have Hn4 := Lib.hid (Hn2.out.below hbS Hn2.out.lt)
                  clear cV q0 q1 q2 q3 q4 q5 hbS Hc2 Hn2 B2 hsz2
                  generalize Sort.grow (redrawn wc dq) osq = W4 at *
                  have hs4 := B4.out.size
                  have hn4 := Hn4.out.lt
                  cases fb with
                  | false =>
                    have HN : Hid ((List.range' fr (j + 1)).foldl (mkid l r (ms l r m) ws) (mput l ws s) = q) := Lib.hid (by rw [HS.out, Hfb.out]; rfl)
                    go_wp2_with fail
                    have hgk := Hgk.out
                    have hk := Hk.out
                    have b4 := B4.out
                    go_roundg (gk - 1)
                    case rel => exact ⟨j + 1, Ab1, nb1, cb1, q, by omega, by omega, int_eq (by omega), HN.out, hql, Hqo.out, Hc1.out.below b4 hlt1, Hb1.out.below b4, Hw1.out.below b4, Hbx1.out.below b4 hsz1, Ht1.out.trans (Touch2.of_below bh none b4) (OldNew.refl _ _), by omega⟩
                    case measure => omega
                  | true =>
                    have HN : Hid ((List.range' fr (j + 1)).foldl (mkid l r (ms l r m) ws) (mput l ws s) = ms l r m (ws ++ [k]) (k + 1) q) := Lib.hid (by rw [HS.out, Hfb.out]; rfl)
                    have Hqok : Hid (MOk n (ms l r m (ws ++ [k]) (k + 1) q)) := Lib.hid (by
                      have := ms_ok (r := r) Hg.out (by rw [HL.out]; exact hn) m (ws ++ [k]) (k + 1) q (by
                        intro y hy
                        rw [HL.out]
                        rw [List.mem_append] at hy
                        rcases hy with hy | hy
                        · exact Hws.out y hy
                        · simp at hy; omega) (by simp; omega) (by rw [HL.out]; omega) (by rw [HL.out]; exact Hqo.out)
                      rw [HL.out] at this
                      exact this)
                    have hqleft : (ms l r m (ws ++ [k]) (k + 1) q).left ≤ 20000 := by have := ms_left l r m (ws ++ [k]) (k + 1) q; omega
                    have HCall : Hid (∀ (W : World) (A6 : Option Addr) (c6 : Nat), Below W4.heap.size W4 W → Own W W4.heap.size 2 1 A6 (ws.length + 1) c6 ((ciN ws).map (Value.int .i64) ++ [.int .i64 (k : Int)]) →
                        Calls Try.prog 49 #[.pointer (some ⟨bh, 0, none⟩), .slice A6 (ws.length + 1) c6, .agg #[.int .i64 aP, .int .i64 aB, .int .i64 aK]] W (MPost bh (some adl) n c r (ms l r m (ws ++ [k]) (k + 1) q) W)) := Lib.hid (fun W A6 c6 hW ho => by
                      have hW2 : Below wr.heap.size wr W := B4.out.trans (hW.mono hs4)
                      have h1 := Ih.out (some adl) A6 Ab1 n c c6 nb1 cb1 bh (k + 1) l r (ws ++ [k]) q W (Reads.below HM0.out (Hbel.out.trans (hW2.mono (by omega))) (Nat.le_refl _)) hn Hg.out (from_snoc ws k) (by simp; omega) (by omega) (by
                        intro y hy
                        rw [List.mem_append] at hy
                        rcases hy with hy | hy
                        · exact Hws.out y hy
                        · simp at hy; omega) (by omega) hql Hqo.out (Hc1.out.below hW2 hlt1) (by
                        rw [List.length_append, show ciN (ws ++ [k]) = ciN ws ++ [(k : Int)] by simp [ciN], List.map_append]
                        exact ho.mono (by omega)) (Hb1.out.below hW2)
                      rw [Hn1.out, Hn2'.out, Hn3.out, List.length_append] at h1
                      exact h1)
                    have hwI : Ints W4 W4.heap.size Aw ws.length (ciN ws) := (Hw1.out.below B4.out).reads
                    have HKA : Hid (∀ W : World, Below W4.heap.size W4 W → (W.cell? ⟨nx, 0, none⟩ = some (.int .i64 aP) ∧ W.cell? ⟨nx, 1, none⟩ = some (.int .i64 aB) ∧ W.cell? ⟨nx, 2, none⟩ = some (.int .i64 aK))) := Lib.hid (fun W hW => by
                      have k1 := Hn4.out.below hW hn4
                      exact ⟨k1.at_ 0 _ rfl, k1.at_ 1 _ rfl, k1.at_ 2 _ rfl⟩)
                    have HKB : Hid (∀ W W' : World, Touch2 W W' bh none → Below W4.heap.size W4 W → (W'.cell? ⟨nx, 0, none⟩ = some (.int .i64 aP) ∧ W'.cell? ⟨nx, 1, none⟩ = some (.int .i64 aB) ∧ W'.cell? ⟨nx, 2, none⟩ = some (.int .i64 aK))) := Lib.hid (fun W W' hT hW => by
                      have k1 := (Hn4.out.below hW hn4).touch2 hT (by omega) (fun a e => by cases e)
                      exact ⟨k1.at_ 0 _ rfl, k1.at_ 1 _ rfl, k1.at_ 2 _ rfl⟩)
                    have HFin : Hid (∀ (W W' : World) (Ab7 : Option Addr) (nb7 cb7 : Nat), Below W4.heap.size W4 W → Touch2 W W' bh none → HC W' bh (mvs (some adl) n c r Ab7 nb7 cb7 (ms l r m (ws ++ [k]) (k + 1) q)) → Own W' (bh + 1) 2 1 Ab7 nb7 cb7 ((ciN (ms l r m (ws ++ [k]) (k + 1) q).best).map (Value.int .i64)) →
                        HC W' bh (mvs (some adl) n c r Ab7 nb7 cb7 (ms l r m (ws ++ [k]) (k + 1) q)) ∧ Own W' (bh + 1) 2 1 Ab7 nb7 cb7 ((ciN (ms l r m (ws ++ [k]) (k + 1) q).best).map (Value.int .i64)) ∧ Own W' (bh + 1) 2 1 Aw ws.length cw ((ciN ws).map (Value.int .i64)) ∧
                        HC W' w.heap.size [.int .i64 sP, .int .i64 sB, .int .i64 sK] ∧ Touch2 w W' bh none ∧ w.heap.size < W'.heap.size) := Lib.hid (fun W W' Ab7 nb7 cb7 hW hT hc hb => by
                      have hW2 : Below wr.heap.size wr W := B4.out.trans (hW.mono hs4)
                      have hx1 := hT.size
                      have hx2 := hW2.size
                      exact ⟨hc, hb, (Hw1.out.below hW2).touch2 hT (Nat.lt_succ_self _) (by intro a a' e; cases e), (Hbx1.out.below hW2 hsz1).touch2 hT (by omega) (fun a e => by cases e), (Ht1.out.trans (Touch2.of_below bh none hW2) (OldNew.refl _ _)).trans hT (OldNew.refl _ _), by omega⟩)
                    clear Hb1 Hw1 Hbx1 Hc1 Ht1 HS Hn1 Hn2' Hn3
                    generalize ms l r m (ws ++ [k]) (k + 1) q = q2 at *
                    have hD : Below W4.heap.size W4 W4.drew := (Below.refl _ _).drew
                    have hE : ∀ o, Below W4.heap.size W4 (W4.alloc o).drew := fun o => ((Below.refl _ _).alloc (Nat.le_refl _) _).drew
                    have HClone1 : Hid (Calls Try.prog 78 #[.slice Aw ws.length cw] W4.drew fun e w' => ∃ A' c', e = .returned (.slice A' ws.length c') ∧ Own w' W4.heap.size 2 1 A' ws.length c' ((ciN ws).map (Value.int .i64)) ∧ Below W4.heap.size W4 w') := Lib.hid
                      ((clone_int_any (w := W4.drew) hwI (Nat.le_refl _) (by omega)).mono fun e w' ⟨A', c', he, ho, hb⟩ => ⟨A', c', he, ho, hD.trans hb⟩)
                    have HClone2 : Hid (Calls Try.prog 78 #[.slice Aw ws.length cw] (W4.alloc (.cells #[.int .i64 (k : Int)] 2)).drew fun e w' => ∃ A' c', e = .returned (.slice A' ws.length c') ∧ Own w' W4.heap.size 2 1 A' ws.length c' ((ciN ws).map (Value.int .i64)) ∧ Below W4.heap.size W4 w' ∧
                        (∀ j u, [Value.int .i64 (k : Int)][j]? = some u → w'.cell? ((⟨W4.heap.size, 0, none⟩ : Addr).add j) = some u)) := Lib.hid
                      ((clone_int_any (w := (W4.alloc (.cells #[.int .i64 (k : Int)] 2)).drew) (Reads.below hwI (hE _) (Nat.le_refl _)) (hE (.cells #[.int .i64 (k : Int)] 2)).size (by omega)).mono fun e w' ⟨A', c', he, ho, hb⟩ => ⟨A', c', he, ho.mono (hE (.cells #[.int .i64 (k : Int)] 2)).size, (hE _).trans (hb.mono (hE (.cells #[.int .i64 (k : Int)] 2)).size),
                        fun j u hu => (hb.cell (by rw [block_of_add]; show W4.heap.size < (W4.alloc (.cells #[.int .i64 (k : Int)] 2)).heap.size; simp)).trans (cell_one_drew _ _ _ j u hu)⟩)
                    clear hwI
                    go_wp2_with fail
                    try clear Hq
                    try clear Hqq
                    try clear Ih
                    try clear HM0
                    try clear HF
                    try clear Hws
                    try clear Hg
                    try clear HL
                    try clear HsP
                    try clear HsB
                    try clear HsK
                    try clear B0
                    try clear Hbel
                    try clear HQ
                    try clear Hqo
                    try clear Hn4
                    try clear B4
                    try clear Hfb
                    try clear Hs1
                    try clear Hok
                    try clear Hw0
                    try clear Hl0
                    try clear Hbg
                    try clear Hput
                    try clear Hok1
                    try clear hsum
                    try clear hgx
                    try clear hlt
                    try clear hlt1
                    try clear hs4
                    try clear hn4
                    try clear hbad
                    try clear hbl
                    try clear hql
                    try clear hD0
                    go_region_held3 (fun W => W.cell? ⟨nx, 0, none⟩ = some (.int .i64 aP) ∧ W.cell? ⟨nx, 1, none⟩ = some (.int .i64 aB) ∧ W.cell? ⟨nx, 2, none⟩ = some (.int .i64 aK))
                      ((first | (with_reducible refine HKB.out _ _ (by with_reducible assumption) (by with_reducible assumption)) | (with_reducible refine HKA.out _ ?_; (first | with_reducible assumption | with_reducible exact hD | with_reducible exact hE _ | with_reducible exact below_alloc1 (by with_reducible assumption) _))))
                      ((first
                        | (go_at_call 49; refine (HCall.out _ _ _ hb6 o6).mono ?_; rintro e w7 ⟨Ab7, nb7, cb7, rfl, hc7, hb7, ht7⟩)
                        | (go_at_call 78; first
                            | ((with_reducible refine HClone1.out.mono ?_); rintro e w5 ⟨A5, c5, rfl, o5, hb5⟩)
                            | ((with_reducible refine HClone2.out.mono ?_); rintro e w5 ⟨A5, c5, rfl, o5, hb5, hk5⟩; have Hk5 := Lib.hid hk5; clear hk5))
                        | (have ho5 := o5; clear o5; refine step_app _ (by rfl) (.tmp 75) (.tmp 77) 22 (by rfl) 2 i0 _ 1 8 Try.underlying22 hi1 hz0 hz1 hz2 rfl (by omega) (by omega) W4.heap.size ws.length c5 A5 ((ciN ws).map (Value.int .i64)) (by rfl) (by first | with_reducible exact ho5 | with_reducible exact ho5.alloc _) ⟨_, 0, none⟩ 1 1 [.int .i64 (k : Int)] (by rfl) (by rfl) (by first | with_reducible exact Hk5.out | with_reducible exact cell_one_new _ _ _) (by simp [Value.oneCell']) (by omega) (by have := hb5.size; first | omega | (simp; omega)) ?_; intro A6 c6 w6 o6 hgA hbA hat; first | (have hb6 : Below W4.heap.size W4 w6 := (by with_reducible exact hb5.trans hbA)) | (have hb6 : Below W4.heap.size W4 w6 := (by with_reducible exact (hb5.alloc hb5.size _).trans hbA)))
                        | fail))
                    all_goals
                      obtain ⟨hc8, hb8, hw8, hbx8, ht8, hsz8⟩ := HFin.out _ _ _ _ _ hb6 ht7 hc7 hb7
                      have Hc8 := Lib.hid hc8
                      have Hb8 := Lib.hid hb8
                      have Hw8 := Lib.hid hw8
                      have Hbx8 := Lib.hid hbx8
                      have Ht8 := Lib.hid ht8
                      clear hc8 hb8 hw8 hbx8 ht8 hc7 hb7 ht7 hgA hbA hat o6 hb6 hb5
                      go_wp2_with fail
                      have hgk := Hgk.out
                      have hk := Hk.out
                      go_roundg (gk - 1)
                      case rel => exact ⟨j + 1, Ab7, nb7, cb7, q2, by omega, by omega, int_eq (by omega), HN.out, hqleft, Hqok.out, Hc8.out, Hb8.out, Hw8.out, Hbx8.out, Ht8.out, hsz8⟩
                      case measure => omega
              · have hjn : j = n - fr := by omega
                have HN : Hid (ms l r (m + 1) ws fr s = q) := Lib.hid (by rw [Hqq.out, HL.out, ← HQ.out, hjn])
                have HFe : Hid (MPost bh A n c r (ms l r (m + 1) ws fr s) w (.returned (.tuple #[])) wr) := Lib.hid (by
                  rw [HN.out]; exact ⟨Ab1, nb1, cb1, rfl, Hc1.out, Hb1.out, Ht1.out⟩)
                have hk1 : ¬ (k : Int) < (n : Int) := by omega
                clear hk hjn
                go_wp2_with (go_at_call 84; refine (size_Group_any _ _ _ _ hn0).mono ?_; rintro e w' ⟨rfl, rfl⟩)
                exact bodyPost_ret (v := .tuple #[]) (by simp [results, Try.results49, go_sem]) rfl HFe.out
end Go.Proofs.Ytmnpehajojdhcaa
