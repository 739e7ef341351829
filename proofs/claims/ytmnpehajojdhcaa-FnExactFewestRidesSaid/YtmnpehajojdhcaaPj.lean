/- Loads: MostPeople: the reference's search. -/
import Derived.Test.YtmnpehajojdhcaaPi
namespace Go.Proofs.Ytmnpehajojdhcaa
open Go.RowKit
set_option maxRecDepth 100000
set_option linter.unusedVariables false
set_option linter.unusedSimpArgs false

/-- The reference's search, in memory. -/
def nvs (A : Option Addr) (n c : Nat) (rb : Nat) (vw : Value) (Ab : Option Addr) (nb cb : Nat) (mz : Int) (vn bud : Nat) : List Value :=
  [.slice A n c, .pointer (some ⟨rb, 0, none⟩), vw, .slice Ab nb cb, .int .i64 mz, .int .i64 (vn : Int), .int .i64 (bud : Int)]
def NPost (bh rb : Nat) (A : Option Addr) (n c bud : Nat) (ws : List Nat) (s : MS) (A0 : Option Addr) (w : World) (e : Ending) (w' : World) : Prop :=
  ∃ (vw : Value) (vn : Nat) (Ab : Option Addr) (nb cb : Nat), e = .returned (.bool s.spent) ∧ HC w' bh (nvs A n c rb vw Ab nb cb s.most vn bud) ∧ Own w' (bh + 1) 2 1 Ab nb cb ((ciN s.best).map (Value.int .i64)) ∧ Touch2 w w' bh A0 ∧
    (s.spent = false → vn = bud - s.left ∧ ∃ (Ag : Option Addr) (cg : Nat), vw = .slice Ag ws.length cg ∧ Own w' (bh + 1) 2 1 Ag ws.length cg ((ciN ws).map (Value.int .i64)) ∧ Apart Ag Ab ∧ OldNew w A0 Ag)
/-- What the cell of the greatest number holds: -1 ahead of the first node. -/
def MzOk (ws : List Nat) (s : MS) (mz : Int) : Prop := mz = s.most ∨ (mz = -1 ∧ s.most = 0 ∧ s.best = [] ∧ ws = [] ∧ 0 < s.left)
theorem mput_mz {l : List GroupR} {ws : List Nat} {s : MS} {mz : Int} (h : MzOk ws s mz) : mput l ws s = (if mz < sumG GroupR.People l ws then ⟨s.left - 1, false, ws, sumG GroupR.People l ws⟩ else ⟨s.left - 1, false, s.best, s.most⟩) ∧ (¬ mz < sumG GroupR.People l ws → mz = s.most) := by
  rcases h with rfl | ⟨rfl, h1, h2, rfl, h3⟩
  · exact ⟨rfl, fun _ => rfl⟩
  · have e : sumG GroupR.People l [] = 0 := rfl
    unfold mput
    rw [e, h1, h2]
    exact ⟨by simp, fun h => absurd h (by omega)⟩

set_option maxHeartbeats 8000000 in
theorem next17_any : ∀ (m : Nat) (A Ag Ab : Option Addr) (n c cg nb cb bh rb bud fr : Nat) (l : List GroupR) (r : RoomR) (ws : List Nat) (s : MS) (mz : Int) (w : World) (h : Reads w rb 4 A n (l.flatMap GroupR.cells)) (hn : n ≤ 12) (hg : GOk l) (hwf : ws.length ≤ fr) (hfn : fr ≤ n) (hws : ∀ k ∈ ws, k < n) (hm : n < m + fr)
    (hrb : rb < bh) (hbud : bud ≤ 20000) (hl : s.left ≤ bud) (hsp : s.spent = false) (hmz : MzOk ws s mz) (hok : MOk n s) (hr : HC w rb [.int .i64 r.People, .int .i64 r.Bikes, .int .i64 r.Kilos]) (hc : HC w bh (nvs A n c rb (.slice Ag ws.length cg) Ab nb cb mz (bud - s.left) bud))
    (hw : Own w (bh + 1) 2 1 Ag ws.length cg ((ciN ws).map (Value.int .i64))) (hb : Own w (bh + 1) 2 1 Ab nb cb ((ciN s.best).map (Value.int .i64))) (hap : Apart Ag Ab),
    Calls Try.prog 45 #[.pointer (some ⟨bh, 0, none⟩), .int .i64 (fr : Int), .int .i64 (sumG GroupR.People l ws)] w (NPost bh rb A n c bud ws (ms l r m ws fr s) Ag w) := by
  intro m
  induction m with
  | zero => intro A Ag Ab n c cg nb cb bh rb bud fr l r ws s mz w h hn hg hwf hfn hws hm; omega
  | succ m ih =>
    intro A Ag Ab n c cg nb cb bh rb bud fr l r ws s mz w h hn hg hwf hfn hws hm hrb hbud hl hsp hmz hok hr hc hw hb hap
    have HL := Lib.hid (GroupR.count h)
    have hlt := hc.lt
    obtain ⟨i0, hi1, hz0, hz1, hz2⟩ := info_parts info_int
    have Hq : Hid (ms l r (m + 1) ws fr s = if s.left = 0 then ⟨0, true, s.best, s.most⟩ else (List.range' fr (l.length - fr)).foldl (mkid l r (ms l r m) ws) (mput l ws s)) := Lib.hid (by rw [ms, hsp, if_neg (by simp)])
    have hsum := gok_sums hg (ws := ws) (fun k hk => by rw [HL.out]; exact hws k hk)
    have Hmz0 := Lib.hid hmz
    have Hmp := Lib.hid (mput_mz (l := l) hmz)
    have Hok1 : Hid (MOk n (mput l ws s)) := Lib.hid (mput_ok hok (by omega) (by omega))
    obtain ⟨sP, hsP⟩ : ∃ x, sumG GroupR.People l ws = x := ⟨_, rfl⟩
    rw [hsP] at hsum Hmp
    rw [hsP]
    have HM0 := Lib.hid h
    have Ih := Lib.hid ih
    have Hg := Lib.hid hg
    have Hws := Lib.hid hws
    have HsP := Lib.hid hsP
    have HGF : Hid (∀ a, Ag = some a → bh + 1 ≤ a.block ∧ a.block < w.heap.size) := Lib.hid (fun a ha => ⟨(hw.block_lt a ha).2.2.1, (hw.block_lt a ha).2.2.2⟩)
    have Hr0 := Lib.hid hr
    have Hs1 := Lib.hid (mput_left l ws s)
    have d5 : w.cell? ⟨bh, 5, none⟩ = some (.int .i64 ((bud - s.left : Nat) : Int)) := hc.at_ 5 _ rfl
    have f5 := hc.fz 5
    obtain ⟨n1, hn1⟩ : ∃ n1, bud - s.left + 1 = n1 := ⟨_, rfl⟩
    have hqn : IntKind.i64.wrap (((bud - s.left : Nat) : Int) + 1) = (n1 : Int) := by rw [IntWalk.i64_in _ (by omega)]; omega
    have Hc1 : Hid (HC (w.setCell ⟨bh, 5, none⟩ (.int .i64 (n1 : Int))) bh (nvs A n c rb (.slice Ag ws.length cg) Ab nb cb mz n1 bud)) := Lib.hid (hc.set (j := 5) (.int .i64 (n1 : Int)) (by simp [nvs]))
    have Hw1 := Lib.hid (hw.setFar (j := 5) (Nat.lt_succ_self bh) (.int .i64 (n1 : Int)))
    have Hb1 := Lib.hid (hb.setFar (j := 5) (Nat.lt_succ_self bh) (.int .i64 (n1 : Int)))
    have Ht1 := Lib.hid (Touch2.of_set w bh 5 (.int .i64 (n1 : Int)) Ag)
    have Hap := Lib.hid hap
    have Hn1 := Lib.hid hn1
    clear h ih hg hws hsP hok hmz hr hc hw hb hap hsp hn1
    obtain ⟨W1, hW1⟩ : ∃ W1, w.setCell ⟨bh, 5, none⟩ (.int .i64 (n1 : Int)) = W1 := ⟨_, rfl⟩
    rw [hW1] at Hc1 Hw1 Hb1 Ht1
    have HW1 := Lib.hid hW1
    have d5' : W1.cell? ⟨bh, 5, none⟩ = some (.int .i64 (n1 : Int)) := Hc1.out.at_ 5 _ rfl
    have d6' : W1.cell? ⟨bh, 6, none⟩ = some (.int .i64 (bud : Int)) := Hc1.out.at_ 6 _ rfl
    by_cases hl0 : s.left = 0
    · have hd : decide (bud < n1) = true := by rw [decide_eq_true_eq]; have := Hn1.out; omega
      have hd2 : decide ((bud : Int) < (n1 : Int)) = true := by rw [decide_eq_true_eq]; have := Hn1.out; omega
      have HF : Hid (∀ d, NPost bh rb A n c bud ws (ms l r (m + 1) ws fr s) Ag w (.returned (.bool true)) (W1.drewN d)) := Lib.hid (fun d => by
        rw [Hq.out, if_pos hl0]
        have hmm : mz = s.most := by rcases Hmz0.out with e | ⟨_, _, _, _, h0⟩; exact e; omega
        refine ⟨.slice Ag ws.length cg, n1, Ab, nb, cb, rfl, ?_, own_drewN Hb1.out d, Ht1.out.trans (Touch2.of_below bh Ag (below_drewN (Below.refl W1.heap.size W1) d)) (OldNew.refl _ _), fun x => by cases x⟩
        have := Hc1.out.drewN d
        rw [hmm] at this
        exact this)
      have Hl0 := Lib.hid hl0
      clear hl0
      rw [← HW1.out] at d5' d6'
      clear hW1
      go_enter Try.func45, Try.ntmps45
      go_wp2_with fail
      rw [HW1.out]
      rw [HW1.out] at d5' d6'
      go_quiet (fail)
      go_wp2_with fail
      go_ret
      exact HF.out _
    · have hd : decide (bud < n1) = false := by rw [decide_eq_false_iff_not]; have := Hn1.out; omega
      have hd2 : decide ((bud : Int) < (n1 : Int)) = false := by rw [decide_eq_false_iff_not]; have := Hn1.out; omega
      have Hqq : Hid (ms l r (m + 1) ws fr s = (List.range' fr (l.length - fr)).foldl (mkid l r (ms l r m) ws) (mput l ws s)) := Lib.hid (by rw [Hq.out, if_neg hl0])
      have Hn2 : Hid (n1 = bud - (mput l ws s).left) := Lib.hid (by rw [(mput_left l ws s).1, ← Hn1.out]; omega)
      have Hl0 := Lib.hid hl0
      clear hl0
      rw [← HW1.out] at d5' d6'
      clear hW1
      go_enter Try.func45, Try.ntmps45
      go_wp2_with fail
      rw [HW1.out]
      rw [HW1.out] at d5' d6'
      go_quiet (fail)
      rename_i nq
      have Hc2 := Lib.hid (Hc1.out.drewN nq)
      have Hw2 := Lib.hid (own_drewN Hw1.out nq)
      have Hb2 := Lib.hid (own_drewN Hb1.out nq)
      have Ht2 := Lib.hid (Ht1.out.trans (Touch2.of_below bh Ag (below_drewN (Below.refl W1.heap.size W1) nq)) (OldNew.refl _ _))
      clear d5 d5' d6' f5 Hc1 Hw1 Hb1 Ht1 HW1
      generalize W1.drewN nq = W2 at *
      have e4 : W2.cell? ⟨bh, 4, none⟩ = some (.int .i64 mz) := Hc2.out.at_ 4 _ rfl
      obtain ⟨bg, hbg⟩ : ∃ bg : Bool, decide (mz < sP) = bg := ⟨_, rfl⟩
      go_upto_if 29 with fail
      have Hbg := Lib.hid hbg
      clear hbg
      go_cut [] (fun wx => ∃ (Ab2 : Option Addr) (nb2 cb2 : Nat), HC wx bh (nvs A n c rb (.slice Ag ws.length cg) Ab2 nb2 cb2 (mput l ws s).most n1 bud) ∧ Own wx (bh + 1) 2 1 Ab2 nb2 cb2 ((ciN (mput l ws s).best).map (Value.int .i64)) ∧ Own wx (bh + 1) 2 1 Ag ws.length cg ((ciN ws).map (Value.int .i64)) ∧ Apart Ag Ab2 ∧ Touch2 w wx bh Ag)
      case first =>
        cases bg with
        | true =>
          have Hpp := Lib.hid (Hmp.out.1.trans (if_pos (of_decide_eq_true Hbg.out)))
          have f4 := Hc2.out.fz 4
          have hlt2 := Hc2.out.lt
          obtain ⟨W3, hW3⟩ : ∃ W3, W2.setCell ⟨bh, 4, none⟩ (.int .i64 sP) = W3 := ⟨_, rfl⟩
          have Hc3 := Lib.hid (Hc2.out.set (j := 4) (.int .i64 sP) (by simp [nvs]))
          have Hw3 := Lib.hid (Hw2.out.setFar (j := 4) (Nat.lt_succ_self bh) (.int .i64 sP))
          have Ht3 := Lib.hid (Ht2.out.trans (Touch2.of_set W2 bh 4 (.int .i64 sP) Ag) (OldNew.refl _ _))
          rw [hW3] at Hc3 Hw3 Ht3
          have HW3 := Lib.hid hW3
          have g2 : W3.cell? ⟨bh, 2, none⟩ = some (.slice Ag ws.length cg) := Hc3.out.at_ 2 _ rfl
          rw [← hW3] at g2
          clear hW3
          go_wp2_with fail
          rw [HW3.out]
          refine (l00Own_any Hw3.out.reads (Nat.le_refl _) (by omega)).mono ?_
          rintro e w4 ⟨A1, c1, rfl, o1, b1⟩
          have k1 := Hc3.out.below b1 Hc3.out.lt
          have g3 : w4.cell? ⟨bh, 3, none⟩ = some (.slice Ab nb cb) := k1.at_ 3 _ rfl
          have f3 := k1.fz 3
          have K1 := Lib.hid k1
          have O1 := Lib.hid o1
          have B1 := Lib.hid b1
          clear g2 k1 o1 b1 e4
          go_wp2_with fail
          go_meet
          refine ⟨A1, ws.length, c1, ?_, ?_, (Hw3.out.below B1.out).setFar (Nat.lt_succ_self _) _, apart_of Hw3.out O1.out (Nat.le_refl _), ?_⟩
          · rw [Hpp.out]; exact K1.out.set (j := 3) (.slice A1 ws.length c1) (by simp [nvs])
          · rw [Hpp.out]; exact (O1.out.mono (show bh + 1 ≤ W3.heap.size from Hc3.out.lt)).setFar (Nat.lt_succ_self _) _
          · exact (Ht3.out.trans (Touch2.of_below bh Ag B1.out) (OldNew.refl _ _)).trans (Touch2.of_set _ bh 3 _ Ag) (OldNew.refl _ _)
        | false =>
          have hnl := of_decide_eq_false Hbg.out
          have Hpp := Lib.hid (Hmp.out.1.trans (if_neg hnl))
          have Hmm := Lib.hid (Hmp.out.2 (by omega))
          clear hnl
          go_wp2_with fail
          go_meet
          exact ⟨Ab, nb, cb, by have := Hc2.out; rw [Hmm.out] at this; rw [Hpp.out]; exact this, by rw [Hpp.out]; exact Hb2.out, Hw2.out, Hap.out, Ht2.out⟩
      case rest =>
        obtain ⟨Ab3, nb3, cb3, hc3, hb3, hw3, hap3, ht3⟩ := hcut
        have Hc3 := Lib.hid hc3
        have Hw3 := Lib.hid hw3
        have Hb3 := Lib.hid hb3
        have Hap3 := Lib.hid hap3
        have Ht3 := Lib.hid ht3
        clear hc3 hw3 hb3 hap3 ht3 Hc2 Hw2 Hb2 Ht2 Hap
        have hlen := HL.out
        go_wp2_with fail
        go_loopg [7] (n - fr) (fun gk vk wr => ∃ (j : Nat) (Ag1 : Option Addr) (cg1 : Nat) (Ab1 : Option Addr) (nb1 cb1 : Nat) (q : MS), j ≤ n - fr ∧ gk + j = n - fr ∧ vk = .int .i64 ((fr + j : Nat) : Int) ∧
          (List.range' fr j).foldl (mkid l r (ms l r m) ws) (mput l ws s) = q ∧ q.spent = false ∧ q.left ≤ bud ∧ MOk n q ∧ HC wr bh (nvs A n c rb (.slice Ag1 ws.length cg1) Ab1 nb1 cb1 q.most (bud - q.left) bud) ∧ Own wr (bh + 1) 2 1 Ab1 nb1 cb1 ((ciN q.best).map (Value.int .i64)) ∧ Own wr (bh + 1) 2 1 Ag1 ws.length cg1 ((ciN ws).map (Value.int .i64)) ∧
          Apart Ag1 Ab1 ∧ Touch2 w wr bh Ag ∧ OldNew w Ag Ag1)
        case atStart => exact ⟨0, Ag, cg, Ab3, nb3, cb3, mput l ws s, by omega, by omega, rfl, rfl, Hs1.out.2, by have := Hs1.out.1; omega, Hok1.out, by rw [← Hn2.out]; exact Hc3.out, Hb3.out, Hw3.out, Hap3.out, Ht3.out, OldNew.refl _ _⟩
        case round =>
          clear Hc3 Hw3 Hb3 Hap3 Ht3 Hok1 Hbg Hmp hlen Hn2 Hn1
          obtain ⟨j, Ag1, cg1, Ab1, nb1, cb1, q, hj, hgk, rfl, hq, hqs, hql, hqo, hc1, hb1, hw1, hap1, ht1, hon1⟩ := hrel
          have Hgk := Lib.hid hgk
          have HQ := Lib.hid hq
          have Hqo := Lib.hid hqo
          have Hqs := Lib.hid hqs
          have Hc1 := Lib.hid hc1
          have Hb1 := Lib.hid hb1
          have Hw1 := Lib.hid hw1
          have Hap1 := Lib.hid hap1
          have Ht1 := Lib.hid ht1
          have Hon1 := Lib.hid hon1
          have hlt1 := hc1.lt
          have hsz1 := ht1.size
          have HR1 : Hid (HC wr rb [.int .i64 r.People, .int .i64 r.Bikes, .int .i64 r.Kilos]) := Lib.hid (Hr0.out.touch2 ht1 (by omega) (fun a ha => by have := HGF.out a ha; omega))
          have Hbel : Hid (Below rb w wr) := Lib.hid ((ht1.below (show bh ≤ w.heap.size by omega) (fun a ha => by have := HGF.out a ha; omega)).mono (by omega))
          clear hgk hq hqs hqo hc1 hb1 hw1 hap1 ht1 hon1
          obtain ⟨k, hk⟩ : ∃ k, fr + j = k := ⟨_, rfl⟩
          have Hk := Lib.hid hk
          rw [hk]
          have hfk : fr ≤ k := by omega
          have hqk : IntKind.i64.wrap ((k : Int) + 1) = (k : Int) + 1 := IntWalk.i64_in _ (by omega)
          have c0 : wr.cell? ⟨bh, 0, none⟩ = some (.slice A n c) := Hc1.out.at_ 0 _ rfl
          have c2 : wr.cell? ⟨bh, 2, none⟩ = some (.slice Ag1 ws.length cg1) := Hc1.out.at_ 2 _ rfl
          have f2 := Hc1.out.fz 2
          by_cases hlt2 : k < n
          · have hjn : j < n - fr := by omega
            have hk0 : (0 : Int) ≤ (k : Int) := by omega
            have hk1 : (k : Int) < (n : Int) := by omega
            clear hk
            have HS : Hid ((List.range' fr (j + 1)).foldl (mkid l r (ms l r m) ws) (mput l ws s) = if fitsW l r (ws ++ [k]) then ms l r m (ws ++ [k]) (k + 1) q else q) := Lib.hid (by rw [mfold_succ, HQ.out, Hk.out]; rfl)
            go_wp2_with (at_builtin; refine wpList_app rfl _ _ 22 rfl 2 i0 _ 1 8 Try.underlying22 hi1 hz0 hz1 hz2 rfl (by omega) (by omega) (bh + 1) _ _ _ _ rfl (Hw1.out.alloc _) ⟨wr.heap.size, 0, none⟩ 1 1 [.int .i64 (k : Int)] rfl rfl (cell_one_new _ _ _) (by simp [Value.oneCell']) (by omega) (by simp; omega) ?_)
            intro A5 c5 w5 o5 hgA hbA hat
            have hzz : wr.heap.size ≤ (wr.alloc (.cells #[.int .i64 (k : Int)] 2)).heap.size := by simp
            have bal : Below wr.heap.size wr (wr.alloc (.cells #[.int .i64 (k : Int)] 2)) := (Below.refl _ _).alloc (Nat.le_refl _) _
            have hon5 : OldNew wr Ag1 A5 := by
              intro a ha
              subst ha
              rcases hat with e | e
              · cases Ag1 with
                | none => cases e
                | some a0 => exact .inl ⟨a0, rfl, by simpa using e.symm⟩
              · right
                have : a.block = (wr.alloc (.cells #[.int .i64 (k : Int)] 2)).heap.size := by simpa using e
                omega
            have tA : Touch2 wr w5 bh Ag1 := (Touch2.of_below bh Ag1 bal).trans (Touch2.of_grown hgA) (OldNew.refl _ _)
            have hA1 : ∀ a, Ag1 = some a → bh + 1 ≤ a.block := Hw1.out.from
            have Hc5 := Lib.hid ((Hc1.out.below bal hlt1).below hbA (Nat.lt_succ_self _))
            have Hb5 := Lib.hid (own_grown (Hb1.out.below bal) hgA Hap1.out)
            have HR5 := Lib.hid (HR1.out.touch2 tA (by omega) (fun a ha => by have := hA1 a ha; omega))
            have hap5 : Apart A5 Ab1 := (apart_old Hap1.out.symm hon5 (fun a ha => (Hb1.out.block_lt a ha).2.2.2)).symm
            have hon15 : OldNew w Ag A5 := Hon1.out.trans hon5 (by omega)
            have ht15 : Touch2 w w5 bh Ag := Ht1.out.trans tA Hon1.out
            have o5' : Own w5 (bh + 1) 2 1 A5 (ws.length + 1) c5 ((ciN (ws ++ [k])).map (Value.int .i64)) := by
              rw [show ciN (ws ++ [k]) = ciN ws ++ [(k : Int)] by simp [ciN], List.map_append]; exact o5
            have hw5 : wr.heap.size ≤ w5.heap.size := tA.size
            have e4 : w5.cell? ⟨bh, 2, none⟩ = some (.slice Ag1 ws.length cg1) := Hc5.out.at_ 2 _ rfl
            have f45 := Hc5.out.fz 2
            have Hc6 : Hid (HC (w5.setCell ⟨bh, 2, none⟩ (.slice A5 (ws.length + 1) c5)) bh (nvs A n c rb (.slice A5 (ws.length + 1) c5) Ab1 nb1 cb1 q.most (bud - q.left) bud)) := Lib.hid (Hc5.out.set (j := 2) (.slice A5 (ws.length + 1) c5) (by simp [nvs]))
            have Hw6 := Lib.hid (o5'.setFar (j := 2) (Nat.lt_succ_self bh) (.slice A5 (ws.length + 1) c5))
            have Hb6 := Lib.hid (Hb5.out.setFar (j := 2) (Nat.lt_succ_self bh) (.slice A5 (ws.length + 1) c5))
            have HR6 := Lib.hid (HR5.out.touch2 (Touch2.of_set w5 bh 2 (.slice A5 (ws.length + 1) c5) none) (by omega) (fun a e => by cases e))
            have ht6 := ht15.trans (Touch2.of_set w5 bh 2 (.slice A5 (ws.length + 1) c5) A5) hon15
            have Ht6 := Lib.hid ht6
            have Hbel6 : Hid (Below rb w (w5.setCell ⟨bh, 2, none⟩ (.slice A5 (ws.length + 1) c5))) := Lib.hid ((ht6.below (show bh ≤ w.heap.size by omega) (fun a ha => by have := HGF.out a ha; omega)).mono (by omega))
            have Hon6 := Lib.hid hon15
            have Hap6 := Lib.hid hap5
            have Hz6 : Hid (w.heap.size ≤ (w5.setCell ⟨bh, 2, none⟩ (.slice A5 (ws.length + 1) c5)).heap.size) := Lib.hid ht6.size
            obtain ⟨W6, hW6⟩ : ∃ W6, w5.setCell ⟨bh, 2, none⟩ (.slice A5 (ws.length + 1) c5) = W6 := ⟨_, rfl⟩
            rw [hW6] at Hc6 Hw6 Hb6 HR6 Ht6 Hbel6 Hz6
            have HW6 := Lib.hid hW6
            clear o5 hgA hbA hat bal hon5 tA Hc5 Hb5 HR5 hap5 hon15 ht15 o5' ht6 hW6 c0 c2 f2 Hc1 Hb1 Hw1 Hap1 Ht1 HR1 hA1 hzz
            obtain ⟨ad5, hA5⟩ : ∃ ad5, A5 = some ad5 := by
              cases A5 with
              | none => have := Hw6.out.none_n; omega
              | some a => exact ⟨a, rfl⟩
            subst hA5
            go_wp2_with fail
            rw [HW6.out]
            clear e4 f45 HW6
            have hz6 := Hz6.out
            have hlt6 := Hc6.out.lt
            obtain ⟨fb, hfb⟩ : ∃ fb, fitsW l r (ws ++ [k]) = fb := ⟨_, rfl⟩
            have Hfb := Lib.hid hfb
            have cF : ∀ d os, Calls Try.prog 81 #[.slice A n c, .slice (some ad5) (ws.length + 1) c5, .pointer (some ⟨rb, 0, none⟩)] (Sort.grow (redrawn W6 d) os) fun e w'' => e = .returned (.bool fb) ∧ ∃ p : Regrown, w'' = Sort.grow (redrawn W6 p.d) p.os := fun d os => by
              have hb := below_regrown W6 d os
              have hk := HR6.out.below hb HR6.out.lt
              have := l17Fits_any (ws := ws ++ [k]) (cw := c5) (c := c) (p := ⟨rb, 0, none⟩) (r := r) (w := Sort.grow (redrawn W6 d) os) (Reads.below (Reads.below HM0.out Hbel6.out (Nat.le_refl _)) hb (by omega)) (by have := hb.size; omega) hn Hg.out (by
                rw [List.length_append]
                exact Reads.below Hw6.out.reads hb (Nat.le_refl _)) hb.size (by
                intro y hy
                rw [List.mem_append] at hy
                rcases hy with hy | hy
                · exact Hws.out y hy
                · simp at hy; omega) (by simp; omega) (hk.at_ 0 _ rfl) (hk.at_ 1 _ rfl) (hk.at_ 2 _ rfl)
              rw [hfb, List.length_append] at this
              exact Calls.regrown_of this
            have y0 : W6.cell? ⟨bh, 0, none⟩ = some (.slice A n c) := Hc6.out.at_ 0 _ rfl
            have y1 : W6.cell? ⟨bh, 1, none⟩ = some (.pointer (some ⟨rb, 0, none⟩)) := Hc6.out.at_ 1 _ rfl
            have y2 : W6.cell? ⟨bh, 2, none⟩ = some (.slice (some ad5) (ws.length + 1) c5) := Hc6.out.at_ 2 _ rfl
            clear hfb
            cases fb with
            | false =>
              have HN : Hid ((List.range' fr (j + 1)).foldl (mkid l r (ms l r m) ws) (mput l ws s) = q) := Lib.hid (by rw [HS.out, Hfb.out]; rfl)
              have q0 := cell_regrown y0
              have q1 := cell_regrown y1
              have q2 := cell_regrown y2
              clear y0 y1 y2
              refine wp_region_quiet_below (by kernel_rfl) (by kernel_rfl) ?_
              repeat (go_big_quiet_step (exact cF _ _))
              refine wpQuiet_nil ?_
              intro _ hw'
              obtain ⟨⟨dq, osq⟩, hw''⟩ := hw'
              subst hw''
              have hbS := below_regrown W6 dq osq
              have Hc7 := Lib.hid (Hc6.out.below hbS hlt6)
              have Hw7 := Lib.hid (Hw6.out.below hbS)
              have Hb7 := Lib.hid (Hb6.out.below hbS)
              have Ht7 := Lib.hid (Ht6.out.trans (Touch2.of_below bh (some ad5) hbS) Hon6.out)
              clear cF q0 q1 q2 hbS Hc6 Hw6 Hb6 Ht6 HR6 Hbel6
              generalize Sort.grow (redrawn W6 dq) osq = W7 at *
              have e2 : W7.cell? ⟨bh, 2, none⟩ = some (.slice (some ad5) (ws.length + 1) c5) := Hc7.out.at_ 2 _ rfl
              have f2 := Hc7.out.fz 2
              have hltX := Hc7.out.lt
              have hgl7 : ws.length + 1 ≤ c5 := Hw7.out.cap
              have hgi7 : (ws.length : Int) ≤ (c5 : Int) := by omega
              have hgi8 : (0 : Int) ≤ (ws.length : Int) := by omega
              have hq8 : IntKind.i64.wrap ((ws.length : Int) + 1 - 1) = (ws.length : Int) := by rw [IntWalk.i64_in _ (by omega)]; omega
              have hq9 : IntKind.i64.wrap (ws.length : Int) = (ws.length : Int) := IntWalk.i64_in _ (by omega)
              have Hc9 := Lib.hid ((Hc7.out.set (j := 2) (.slice (some ad5) ws.length c5) (by simp [nvs])).drewN 1)
              have hw9 : Own W7 (bh + 1) 2 1 (some ad5) ws.length c5 ((ciN ws).map (Value.int .i64)) := by
                have := Hw7.out.headM (k := ws.length) (by omega)
                rw [Nat.mul_one, ← List.map_take, show (ciN (ws ++ [k])).take ws.length = ciN ws by rw [show ciN (ws ++ [k]) = ciN ws ++ [(k : Int)] by simp [ciN], List.take_append_of_le_length (by rw [ciN_len]; exact Nat.le_refl _), List.take_of_length_le (by rw [ciN_len]; exact Nat.le_refl _)]] at this
                exact this
              have Hw9 := Lib.hid (own_drewN (hw9.setFar (j := 2) (Nat.lt_succ_self bh) (.slice (some ad5) ws.length c5)) 1)
              have Hb9 := Lib.hid (own_drewN (Hb7.out.setFar (j := 2) (Nat.lt_succ_self bh) (.slice (some ad5) ws.length c5)) 1)
              have Ht9 := Lib.hid ((Ht7.out.trans (Touch2.of_set W7 bh 2 (.slice (some ad5) ws.length c5) (some ad5)) Hon6.out).trans (Touch2.of_below bh (some ad5) (below_drewN (Below.refl _ _) 1)) Hon6.out)
              have Hgks := Lib.hid (And.intro Hgk.out Hk.out)
              clear hw9
              go_wp2_with fail
              go_still_tail 12, (by kernel_rfl)
              change wpList _ _ _ _ _ W7.drew
              go_wp2_with fail
              have hgk := Hgks.out.1
              have hk := Hgks.out.2
              go_roundg (gk - 1)
              case rel => exact ⟨j + 1, some ad5, c5, Ab1, nb1, cb1, q, by omega, by omega, int_eq (by omega), HN.out, Hqs.out, hql, Hqo.out, Hc9.out, Hb9.out, Hw9.out, Hap6.out, Ht9.out, Hon6.out⟩
              case measure => omega
            | true =>
              have HN : Hid ((List.range' fr (j + 1)).foldl (mkid l r (ms l r m) ws) (mput l ws s) = ms l r m (ws ++ [k]) (k + 1) q) := Lib.hid (by rw [HS.out, Hfb.out]; rfl)
              have Hmem : Hid (∀ y ∈ ws ++ [k], y < n) := Lib.hid (by
                intro y hy
                rw [List.mem_append] at hy
                rcases hy with hy | hy
                · exact Hws.out y hy
                · simp at hy; omega)
              have Hqok : Hid (MOk n (ms l r m (ws ++ [k]) (k + 1) q)) := Lib.hid (by
                have := ms_ok (r := r) Hg.out (by rw [HL.out]; exact hn) m (ws ++ [k]) (k + 1) q (by rw [HL.out]; exact Hmem.out) (by simp; omega) (by rw [HL.out]; omega) (by rw [HL.out]; exact Hqo.out)
                rw [HL.out] at this
                exact this)
              have hqleft : (ms l r m (ws ++ [k]) (k + 1) q).left ≤ bud := by have := ms_left l r m (ws ++ [k]) (k + 1) q; omega
              obtain ⟨adl, rfl, hbl, _, g1, _, _⟩ := GroupR.rd (Reads.below HM0.out Hbel6.out (Nat.le_refl _)) hlt2
              have Hn1 := Lib.hid (sumG_snoc GroupR.People l ws k)
              rw [HsP.out] at Hn1
              have hgx := (Hg.out k (by rw [HL.out]; exact hlt2)).1
              generalize (GroupR.at_ l k).People = xP at *
              have hqp : IntKind.i64.wrap (sP + xP) = sP + xP := IntWalk.i64_in _ (by omega)
              have HCall : Hid (∀ d os, Calls Try.prog 45 #[.pointer (some ⟨bh, 0, none⟩), .int .i64 ((k : Int) + 1), .int .i64 (sP + xP)] (Sort.grow (redrawn W6 d) os) (NPost bh rb (some adl) n c bud (ws ++ [k]) (ms l r m (ws ++ [k]) (k + 1) q) (some ad5) (Sort.grow (redrawn W6 d) os))) := Lib.hid (fun d os => by
                have hb := below_regrown W6 d os
                have h1 := Ih.out (some adl) (some ad5) Ab1 n c c5 nb1 cb1 bh rb bud (k + 1) l r (ws ++ [k]) q q.most (Sort.grow (redrawn W6 d) os) (Reads.below (Reads.below HM0.out Hbel6.out (Nat.le_refl _)) hb (by omega)) hn Hg.out (by simp; omega) (by omega) Hmem.out (by omega) hrb hbud hql Hqs.out (.inl rfl) Hqo.out (HR6.out.below hb HR6.out.lt) (by
                  rw [List.length_append]; exact Hc6.out.below hb hlt6) (by rw [List.length_append]; exact Hw6.out.below hb) (Hb6.out.below hb) Hap6.out
                rw [Hn1.out] at h1
                exact h1)
              have q0 := cell_regrown y0
              have q1 := cell_regrown y1
              have q2 := cell_regrown y2
              have q3 := cell_regrown g1
              clear y0 y1 y2 g1
              refine wp_region_below_tail 27 (by kernel_rfl) (by kernel_rfl) ?_
              simp only [List.take_succ_cons, List.take_zero, List.drop_succ_cons, List.drop_zero]
              repeat (go_big_quiet_step (exact cF _ _))
              refine wpQuiet_nil ?_
              intro _ hw'
              obtain ⟨⟨dq, osq⟩, hw''⟩ := hw'
              subst hw''
              have hbS := below_regrown W6 dq osq
              have hcall := HCall.out dq osq
              have Ht7 := Lib.hid (Ht6.out.trans (Touch2.of_below bh (some ad5) hbS) Hon6.out)
              have Hs7 := Lib.hid hbS.size
              clear cF q0 q1 q2 q3 hbS Hc6 Hw6 Hb6 Ht6 HR6 Hbel6 HCall
              generalize Sort.grow (redrawn W6 dq) osq = W7 at *
              generalize ms l r m (ws ++ [k]) (k + 1) q = q2 at *
              have Hcall := Lib.hid hcall
              clear hcall
              go_wp2_with fail
              refine Hcall.out.mono ?_
              rintro e w8 ⟨vw, vn, Ab8, nb8, cb8, rfl, hc8, hb8, ht8, hif⟩
              have Ht8 := Lib.hid (Ht7.out.trans ht8 Hon6.out)
              have Hc8 := Lib.hid hc8
              have Hb8 := Lib.hid hb8
              cases hs2 : q2.spent with
              | true =>
                have HNe : Hid (ms l r (m + 1) ws fr s = q2) := Lib.hid (by
                  rw [Hqq.out, HL.out, mrange_from _ _ fr (j + 1) (n - fr) (by omega) (fun ks => by rw [HN.out]; exact mkids_spent _ _ _ _ _ _ hs2), HN.out])
                have HFe : Hid (NPost bh rb (some adl) n c bud ws (ms l r (m + 1) ws fr s) Ag w (.returned (.bool true)) w8) := Lib.hid (by
                  rw [HNe.out]; exact ⟨vw, vn, Ab8, nb8, cb8, by rw [hs2], Hc8.out, Hb8.out, Ht8.out, fun x => by rw [hs2] at x; cases x⟩)
                clear hif hc8 hb8 ht8 hs2
                go_wp2_with fail
                go_ret
                exact HFe.out
              | false =>
                obtain ⟨hvn, Ag8, cg8, hvw, hw8, hap8, hon8⟩ := hif hs2
                subst hvw
                subst hvn
                have hon18 : OldNew w Ag Ag8 := Hon6.out.trans hon8 (by have := Hs7.out; omega)
                obtain ⟨ad8, hA8⟩ : ∃ ad8, Ag8 = some ad8 := by
                  cases Ag8 with
                  | none => have := hw8.none_n; rw [List.length_append] at this; simp at this
                  | some a => exact ⟨a, rfl⟩
                subst hA8
                have Hw8 : Hid (Own w8 (bh + 1) 2 1 (some ad8) (ws.length + 1) cg8 ((ciN (ws ++ [k])).map (Value.int .i64))) := Lib.hid (by rw [List.length_append] at hw8; exact hw8)
                have Hc8' : Hid (HC w8 bh (nvs (some adl) n c rb (.slice (some ad8) (ws.length + 1) cg8) Ab8 nb8 cb8 q2.most (bud - q2.left) bud)) := Lib.hid (by rw [List.length_append] at hc8; exact hc8)
                have Hap8 := Lib.hid hap8
                have Hon8 := Lib.hid hon18
                have Hs2 := Lib.hid hs2
                clear hif hc8 hb8 ht8 hs2 hw8 hap8 hon8 hon18 Hc8
                have e2 : w8.cell? ⟨bh, 2, none⟩ = some (.slice (some ad8) (ws.length + 1) cg8) := Hc8'.out.at_ 2 _ rfl
                have f2 := Hc8'.out.fz 2
                have hltX := Hc8'.out.lt
                have hgl7 : ws.length + 1 ≤ cg8 := Hw8.out.cap
                have hgi7 : (ws.length : Int) ≤ (cg8 : Int) := by omega
                have hgi8 : (0 : Int) ≤ (ws.length : Int) := by omega
                have hq8 : IntKind.i64.wrap ((ws.length : Int) + 1 - 1) = (ws.length : Int) := by rw [IntWalk.i64_in _ (by omega)]; omega
                have hq9 : IntKind.i64.wrap (ws.length : Int) = (ws.length : Int) := IntWalk.i64_in _ (by omega)
                have Hc9 := Lib.hid ((Hc8'.out.set (j := 2) (.slice (some ad8) ws.length cg8) (by simp [nvs])).drewN 1)
                have hw9 : Own w8 (bh + 1) 2 1 (some ad8) ws.length cg8 ((ciN ws).map (Value.int .i64)) := by
                  have := Hw8.out.headM (k := ws.length) (by omega)
                  rw [Nat.mul_one, ← List.map_take, show (ciN (ws ++ [k])).take ws.length = ciN ws by rw [show ciN (ws ++ [k]) = ciN ws ++ [(k : Int)] by simp [ciN], List.take_append_of_le_length (by rw [ciN_len]; exact Nat.le_refl _), List.take_of_length_le (by rw [ciN_len]; exact Nat.le_refl _)]] at this
                  exact this
                have Hw9 := Lib.hid (own_drewN (hw9.setFar (j := 2) (Nat.lt_succ_self bh) (.slice (some ad8) ws.length cg8)) 1)
                have Hb9 := Lib.hid (own_drewN (Hb8.out.setFar (j := 2) (Nat.lt_succ_self bh) (.slice (some ad8) ws.length cg8)) 1)
                have Ht9 := Lib.hid ((Ht8.out.trans (Touch2.of_set w8 bh 2 (.slice (some ad8) ws.length cg8) (some ad8)) Hon8.out).trans (Touch2.of_below bh (some ad8) (below_drewN (Below.refl _ _) 1)) Hon8.out)
                have Hgks := Lib.hid (And.intro Hgk.out Hk.out)
                clear hw9
                go_wp2_with fail
                go_still_tail 12, (by kernel_rfl)
                change wpList _ _ _ _ _ w8.drew
                go_wp2_with fail
                have hgk := Hgks.out.1
                have hk := Hgks.out.2
                go_roundg (gk - 1)
                case rel => exact ⟨j + 1, some ad8, cg8, Ab8, nb8, cb8, q2, by omega, by omega, int_eq (by omega), HN.out, Hs2.out, hqleft, Hqok.out, Hc9.out, Hb9.out, Hw9.out, Hap8.out, Ht9.out, Hon8.out⟩
                case measure => omega
          · have hjn : j = n - fr := by omega
            have HN : Hid (ms l r (m + 1) ws fr s = q) := Lib.hid (by rw [Hqq.out, HL.out, ← HQ.out, hjn])
            have HFe : Hid (NPost bh rb A n c bud ws (ms l r (m + 1) ws fr s) Ag w (.returned (.bool false)) wr) := Lib.hid (by
              rw [HN.out]; exact ⟨.slice Ag1 ws.length cg1, bud - q.left, Ab1, nb1, cb1, by rw [Hqs.out], Hc1.out, Hb1.out, Ht1.out, fun _ => ⟨rfl, Ag1, cg1, rfl, Hw1.out, Hap1.out, Hon1.out⟩⟩)
            have hk1 : ¬ (k : Int) < (n : Int) := by omega
            clear hk hjn
            go_wp2_with fail
            go_ret
            exact HFe.out
end Go.Proofs.Ytmnpehajojdhcaa
