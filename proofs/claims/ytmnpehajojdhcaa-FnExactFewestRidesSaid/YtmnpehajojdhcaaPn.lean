/- Loads: FewestRides: the reference's search, all of it. -/
import Derived.Test.YtmnpehajojdhcaaPm
namespace Go.Proofs.Ytmnpehajojdhcaa
open Go.RowKit
set_option maxRecDepth 100000
set_option linter.unusedVariables false
set_option linter.unusedSimpArgs false

theorem l00Max_nat (a b : Nat) (w : World) : Calls Try.prog 75 #[.int .i64 (a : Int), .int .i64 ((b : Int) + 1)] w fun e w' => e = .returned (.int .i64 ((max a (b + 1) : Nat) : Int)) ∧ w = w' := by
  have := l00Max_any (a : Int) ((b : Int) + 1) w
  rw [show max (a : Int) ((b : Int) + 1) = ((max a (b + 1) : Nat) : Int) by omega] at this
  exact this

set_option maxHeartbeats 8000000 in
theorem fnext_any : ∀ (m : Nat) (A Ag Ab : Option Addr) (n c cg nb cb bh rb bud u : Nat) (l : List GroupR) (r : RoomR) (g : List Nat) (s : FS) (w : World) (h : Reads w rb 4 A n (l.flatMap GroupR.cells)) (hn : n ≤ 12) (hG : GOk l) (hgl : g.length ≤ n) (hug : u ≤ g.length) (hgm : ∀ x ∈ g, x ≤ 12) (hm : n < m + g.length)
    (hrb : rb < bh) (hbud : bud ≤ 20000) (hl : s.left ≤ bud) (hsp : s.spent = false) (hok : FOk n s) (hr : HC w rb [.int .i64 r.People, .int .i64 r.Bikes, .int .i64 r.Kilos]) (hc : HC w bh (nvs A n c rb (.slice Ag g.length cg) Ab nb cb (fbZ s) (bud - s.left) bud))
    (hw : Own w (bh + 1) 2 1 Ag g.length cg ((ciN g).map (Value.int .i64))) (hb : Own w (bh + 1) 2 1 Ab nb cb ((ciN (fbL s)).map (Value.int .i64))) (hap : Apart Ag Ab),
    Calls Try.prog 53 #[.pointer (some ⟨bh, 0, none⟩), .int .i64 (u : Int)] w (FPost bh rb A n c bud g (fs l r m g u s) Ag w) := by
  intro m
  induction m with
  | zero => intro A Ag Ab n c cg nb cb bh rb bud u l r g s w h hn hG hgl hug hgm hm; omega
  | succ m ih =>
    intro A Ag Ab n c cg nb cb bh rb bud u l r g s w h hn hG hgl hug hgm hm hrb hbud hl hsp hok hr hc hw hb hap
    by_cases hcase : s.left = 0 ∨ g.length = n
    · exact fnext_leaf m A Ag Ab n c cg nb cb bh rb bud u l r g s w h hn hgl hcase (by omega) hrb hbud hl hsp hok hc hw hb hap
    have hl0 : ¬ s.left = 0 := fun x => hcase (.inl x)
    have hgn : ¬ g.length = n := fun x => hcase (.inr x)
    have hgn2 : g.length < n := by omega
    have HL := Lib.hid (GroupR.count h)
    have hlt := hc.lt
    obtain ⟨i0, hi1, hz0, hz1, hz2⟩ := info_parts info_int
    have Hqq : Hid (fs l r (m + 1) g u s = (List.range (u + 1)).foldl (fstep l r (fs l r m) g u) ⟨s.left - 1, false, s.best⟩) := Lib.hid (by rw [fs, hsp, if_neg (by simp), if_neg hl0, if_neg (by rw [HL.out]; exact hgn)])
    have HM0 := Lib.hid h
    have Ih := Lib.hid ih
    have HG := Lib.hid hG
    have Hgm := Lib.hid hgm
    have HGF : Hid (∀ a, Ag = some a → bh + 1 ≤ a.block ∧ a.block < w.heap.size) := Lib.hid (fun a ha => ⟨(hw.block_lt a ha).2.2.1, (hw.block_lt a ha).2.2.2⟩)
    have Hr0 := Lib.hid hr
    have d5 : w.cell? ⟨bh, 5, none⟩ = some (.int .i64 ((bud - s.left : Nat) : Int)) := hc.at_ 5 _ rfl
    have f5 := hc.fz 5
    obtain ⟨n1, hn1⟩ : ∃ n1, bud - s.left + 1 = n1 := ⟨_, rfl⟩
    have hqn : IntKind.i64.wrap (((bud - s.left : Nat) : Int) + 1) = (n1 : Int) := by rw [IntWalk.i64_in _ (by omega)]; omega
    have Hc1 : Hid (HC (w.setCell ⟨bh, 5, none⟩ (.int .i64 (n1 : Int))) bh (nvs A n c rb (.slice Ag g.length cg) Ab nb cb (fbZ s) n1 bud)) := Lib.hid (hc.set (j := 5) (.int .i64 (n1 : Int)) (by simp [nvs]))
    have Hw1 := Lib.hid (hw.setFar (j := 5) (Nat.lt_succ_self bh) (.int .i64 (n1 : Int)))
    have Hb1 := Lib.hid (hb.setFar (j := 5) (Nat.lt_succ_self bh) (.int .i64 (n1 : Int)))
    have Ht1 := Lib.hid (Touch2.of_set w bh 5 (.int .i64 (n1 : Int)) Ag)
    have Hap := Lib.hid hap
    have Hok := Lib.hid hok
    have Hn2 : Hid (n1 = bud - (s.left - 1)) := Lib.hid (by omega)
    obtain ⟨W1, hW1⟩ : ∃ W1, w.setCell ⟨bh, 5, none⟩ (.int .i64 (n1 : Int)) = W1 := ⟨_, rfl⟩
    rw [hW1] at Hc1 Hw1 Hb1 Ht1
    have HW1 := Lib.hid hW1
    have d5' : W1.cell? ⟨bh, 5, none⟩ = some (.int .i64 (n1 : Int)) := Hc1.out.at_ 5 _ rfl
    have d6' : W1.cell? ⟨bh, 6, none⟩ = some (.int .i64 (bud : Int)) := Hc1.out.at_ 6 _ rfl
    rw [← HW1.out] at d5' d6'
    have hd : decide (bud < n1) = false := by rw [decide_eq_false_iff_not]; omega
    have hd2 : decide ((bud : Int) < (n1 : Int)) = false := by rw [decide_eq_false_iff_not]; omega
    have hge : ((g.length : Int) == (n : Int)) = false := by rw [beq_eq_false_iff_ne]; omega
    have hge2 : decide (g.length = n) = false := by rw [decide_eq_false_iff_not]; exact hgn
    have hu12 : u ≤ 12 := by omega
    have Hcase := Lib.hid hl0
    clear h ih hG hgm hok hr hc hw hb hap hsp hn1 hcase hW1 hl0 hgn
    go_enter Try.func53, Try.ntmps53
    go_wp2_with fail
    rw [HW1.out]
    rw [HW1.out] at d5' d6'
    go_quiet (fail)
    rename_i nq
    have Hc2 := Lib.hid (Hc1.out.drewN nq)
    have Hw2 := Lib.hid (own_drewN Hw1.out nq)
    have Hb2 := Lib.hid (own_drewN Hb1.out nq)
    have Ht2 := Lib.hid (Ht1.out.trans (Touch2.of_below bh Ag (below_drewN (Below.refl W1.heap.size W1) nq)) (OldNew.refl _ _))
    clear d5 d5' d6' f5 Hc1 Hw1 Hb1 Ht1 HW1
    generalize W1.drewN nq = W2 at *
    have c0 : W2.cell? ⟨bh, 0, none⟩ = some (.slice A n c) := Hc2.out.at_ 0 _ rfl
    have c2 : W2.cell? ⟨bh, 2, none⟩ = some (.slice Ag g.length cg) := Hc2.out.at_ 2 _ rfl
    go_wp2_with fail
    clear c0 c2
    go_loopg [6] (u + 1) (fun gk vk wr => ∃ (k : Nat) (Ag1 : Option Addr) (cg1 : Nat) (Ab1 : Option Addr) (nb1 cb1 : Nat) (q : FS), k ≤ u + 1 ∧ gk + k = u + 1 ∧ vk = .int .i64 (k : Int) ∧
      (List.range k).foldl (fstep l r (fs l r m) g u) ⟨s.left - 1, false, s.best⟩ = q ∧ q.spent = false ∧ q.left ≤ bud ∧ FOk n q ∧ HC wr bh (nvs A n c rb (.slice Ag1 g.length cg1) Ab1 nb1 cb1 (fbZ q) (bud - q.left) bud) ∧ Own wr (bh + 1) 2 1 Ab1 nb1 cb1 ((ciN (fbL q)).map (Value.int .i64)) ∧ Own wr (bh + 1) 2 1 Ag1 g.length cg1 ((ciN g).map (Value.int .i64)) ∧
      Apart Ag1 Ab1 ∧ Touch2 w wr bh Ag ∧ OldNew w Ag Ag1)
    case atStart => exact ⟨0, Ag, cg, Ab, nb, cb, ⟨s.left - 1, false, s.best⟩, by omega, by omega, rfl, rfl, rfl, by simp only; omega, Hok.out, by rw [show (fbZ ⟨s.left - 1, false, s.best⟩) = fbZ s from rfl, ← Hn2.out]; exact Hc2.out, Hb2.out, Hw2.out, Hap.out, Ht2.out, OldNew.refl _ _⟩
    case round =>
      clear Hc2 Hw2 Hb2 Hap Ht2 Hok Hn2
      obtain ⟨k, Ag1, cg1, Ab1, nb1, cb1, q, hk, hgk, rfl, hq, hqs, hql, hqo, hc1, hb1, hw1, hap1, ht1, hon1⟩ := hrel
      have Hgk := Lib.hid hgk
      have HQ := Lib.hid hq
      have Hqo := Lib.hid hqo
      have Hqs := Lib.hid hqs
      have Hc1 := Lib.hid hc1
      have Hb1 := Lib.hid hb1
      have Hw1 := Lib.hid hw1
      have Hap1 := Lib.hid hap1
      have Ht1 := Lib.hid ht1
      have Hon1 := Lib.hid hon1
      have hlt1 := hc1.lt
      have hsz1 := ht1.size
      have HR1 : Hid (HC wr rb [.int .i64 r.People, .int .i64 r.Bikes, .int .i64 r.Kilos]) := Lib.hid (Hr0.out.touch2 ht1 (by omega) (fun a ha => by have := HGF.out a ha; omega))
      have Hbel : Hid (Below rb w wr) := Lib.hid ((ht1.below (show bh ≤ w.heap.size by omega) (fun a ha => by have := HGF.out a ha; omega)).mono (by omega))
      clear hgk hq hqs hqo hc1 hb1 hw1 hap1 ht1 hon1
      have hqk : IntKind.i64.wrap ((k : Int) + 1) = (k : Int) + 1 := IntWalk.i64_in _ (by omega)
      by_cases hlt2 : k ≤ u
      · have hk0 : (0 : Int) ≤ (k : Int) := by omega
        have hk1 : (k : Int) ≤ (u : Int) := by omega
        have HS : Hid ((List.range (k + 1)).foldl (fstep l r (fs l r m) g u) ⟨s.left - 1, false, s.best⟩ = if fitsW l r (rideW g k ++ [g.length]) then fs l r m (g ++ [k]) (max u (k + 1)) q else q) := Lib.hid (by rw [ffold_succ, HQ.out]; rfl)
        have hgI : Ints wr wr.heap.size Ag1 g.length (ciN g) := Hw1.out.reads
        have c2 : wr.cell? ⟨bh, 2, none⟩ = some (.slice Ag1 g.length cg1) := Hc1.out.at_ 2 _ rfl
        obtain ⟨Wo, hWo⟩ : ∃ Wo, Wo = wr := ⟨_, rfl⟩
        subst hWo
        obtain ⟨gko, hgko⟩ : ∃ gko, gko = gk := ⟨_, rfl⟩
        subst hgko
        go_wp2_with fail
        go_loopg [7, 8] g.length (fun gk v7 v8 wx => ∃ (j : Nat) (A2 : Option Addr) (n2 c2 : Nat), j ≤ g.length ∧ gk + j = g.length ∧ v8 = .int .i64 (j : Int) ∧ v7 = .slice A2 n2 c2 ∧ n2 = (rideTo g k j).length ∧ Own wx Wo.heap.size 2 1 A2 n2 c2 ((ciN (rideTo g k j)).map (Value.int .i64)) ∧ Below Wo.heap.size Wo wx)
        case atStart => exact ⟨0, some ⟨Wo.heap.size, 0, none⟩, 0, 0, by omega, by omega, rfl, rfl, rfl, Own.empty _ _ _ _ (Nat.le_refl _), (Below.refl _ _).alloc (Nat.le_refl _) _⟩
        case round =>
          obtain ⟨j, A2, n2, cc2, hj, hgk2, rfl, rfl, hn2, ho, hbx⟩ := hrel
          have Hgk2 := Lib.hid hgk2
          have hbxs := hbx.size
          have hr2 := rideTo_len g k j
          have hn2b : n2 ≤ 12 := by omega
          have Hn2 := Lib.hid hn2
          have Ho := Lib.hid ho
          have Hbx := Lib.hid hbx
          have hqj : IntKind.i64.wrap ((j : Int) + 1) = (j : Int) + 1 := IntWalk.i64_in _ (by omega)
          clear hgk2 hn2 ho hbx
          by_cases hltj : j < g.length
          · obtain ⟨adg, hAg, hblg, hcg⟩ := Ints.at_ hgI hltj
            rw [ciN_nth hltj] at hcg
            have hj0 : (0 : Int) ≤ (j : Int) := by omega
            have hj1 : (j : Int) < (g.length : Int) := by omega
            have hcg2 : (World.cell? _ (adg.add j)) = some (.int .i64 ((g.getD j 0 : Nat) : Int)) := (Hbx.out.cell (p := adg.add j) (by rw [block_of_add]; exact hblg)).trans hcg
            have c2x := (Hbx.out.cell (p := ⟨bh, 2, none⟩) hlt1).trans c2
            have Hsu := Lib.hid (rideTo_succ g k j)
            subst hAg
            cases hbe : g.getD j 0 == k with
            | true =>
              have hbz : (((g.getD j 0 : Nat) : Int) == (k : Int)) = true := by rw [beq_iff_eq] at hbe ⊢; omega
              have Hs2 : Hid (rideTo g k (j + 1) = rideTo g k j ++ [j]) := Lib.hid (by rw [Hsu.out, hbe]; rfl)
              clear hcg hbe
              generalize g.getD j 0 = gj at *
              go_wp2_with (at_builtin; refine wpList_app rfl _ _ 22 rfl 2 i0 _ 1 8 Try.underlying22 hi1 hz0 hz1 hz2 rfl (by omega) (by omega) Wo.heap.size _ _ _ _ rfl (Ho.out.alloc _) ⟨wr.heap.size, 0, none⟩ 1 1 [.int .i64 (j : Int)] rfl rfl (cell_one_new _ _ _) (by simp [Value.oneCell']) (by omega) (by simp; omega) ?_)
              intro A5 c5 w5 o5 hgA hbA hat
              have ho5 : Own w5 Wo.heap.size 2 1 A5 (n2 + 1) c5 ((ciN (rideTo g k (j + 1))).map (Value.int .i64)) := by
                rw [Hs2.out, show ciN (rideTo g k j ++ [j]) = ciN (rideTo g k j) ++ [(j : Int)] by simp [ciN], List.map_append]; exact o5
              have hb5 : Below Wo.heap.size Wo w5 := (Hbx.out.alloc hbxs _).trans hbA
              have hnn : n2 + 1 = (rideTo g k (j + 1)).length := by rw [Hs2.out, List.length_append, ← Hn2.out]; rfl
              have Hnn := Lib.hid hnn
              clear o5 hgA hbA hat hnn
              go_wp2_with fail
              have hgk2 := Hgk2.out
              go_roundg (gk - 1)
              case rel => exact ⟨j + 1, A5, n2 + 1, c5, by omega, by omega, by go_num, rfl, Hnn.out, ho5, hb5⟩
              case measure => omega
            | false =>
              have hbz : (((g.getD j 0 : Nat) : Int) == (k : Int)) = false := by rw [beq_eq_false_iff_ne] at hbe ⊢; omega
              have Hs2 : Hid (rideTo g k (j + 1) = rideTo g k j) := Lib.hid (by rw [Hsu.out, hbe]; simp)
              clear hcg hbe
              generalize g.getD j 0 = gj at *
              go_wp2_with fail
              have hgk2 := Hgk2.out
              go_roundg (gk - 1)
              case rel => exact ⟨j + 1, A2, n2, cc2, by omega, by omega, by go_num, rfl, by rw [Hs2.out]; exact Hn2.out, by rw [Hs2.out]; exact Ho.out, Hbx.out⟩
              case measure => omega
          · have hje : j = g.length := by omega
            have hdj : ¬ (j : Int) < (g.length : Int) := by omega
            have hW : Own wr Wo.heap.size 2 1 A2 n2 cc2 ((ciN (rideW g k)).map (Value.int .i64)) := by
              have := Ho.out
              rw [hje] at this
              exact this
            have hnr : n2 = (rideW g k).length := by have := Hn2.out; rw [hje] at this; exact this
            have HWw := Lib.hid hW
            have Hnr := Lib.hid hnr
            have hrl := rideTo_len g k g.length
            clear Ho Hn2 hW hnr hje hr2 Hgk2 hgI c2
            go_wp2_with (at_builtin; refine wpList_app rfl _ _ 22 rfl 2 i0 _ 1 8 Try.underlying22 hi1 hz0 hz1 hz2 rfl (by omega) (by omega) Wo.heap.size _ _ _ _ rfl (HWw.out.alloc _) ⟨wr.heap.size, 0, none⟩ 1 1 [.int .i64 (g.length : Int)] rfl rfl (cell_one_new _ _ _) (by simp [Value.oneCell']) (by omega) (by simp; omega) ?_)
            intro A5 c5 w5 o5 hgA hbA hat
            have ho5 : Own w5 Wo.heap.size 2 1 A5 (n2 + 1) c5 ((ciN (rideW g k ++ [g.length])).map (Value.int .i64)) := by
              rw [show ciN (rideW g k ++ [g.length]) = ciN (rideW g k) ++ [(g.length : Int)] by simp [ciN], List.map_append]; exact o5
            have hb5 : Below Wo.heap.size Wo w5 := (Hbx.out.alloc hbxs _).trans hbA
            have hlen : (rideW g k ++ [g.length]).length = n2 + 1 := by rw [List.length_append, ← Hnr.out]; rfl
            have hs5 := hb5.size
            have Ho5 := Lib.hid ho5
            have Hb5 := Lib.hid hb5
            have Hlen := Lib.hid hlen
            have y0 : w5.cell? ⟨bh, 0, none⟩ = some (.slice A n c) := (Hc1.out.below hb5 hlt1).at_ 0 _ rfl
            have y1 : w5.cell? ⟨bh, 1, none⟩ = some (.pointer (some ⟨rb, 0, none⟩)) := (Hc1.out.below hb5 hlt1).at_ 1 _ rfl
            clear o5 hgA hbA hat ho5 hb5 hlen HWw Hbx hbxs
            go_wp2_with fail
            obtain ⟨fb, hfb⟩ : ∃ fb, fitsW l r (rideW g k ++ [g.length]) = fb := ⟨_, rfl⟩
            have Hfb := Lib.hid hfb
            have cF : ∀ d os, Calls Try.prog 81 #[.slice A n c, .slice A5 (n2 + 1) c5, .pointer (some ⟨rb, 0, none⟩)] (Sort.grow (redrawn w5 d) os) fun e w'' => e = .returned (.bool fb) ∧ ∃ p : Regrown, w'' = Sort.grow (redrawn w5 p.d) p.os := fun d os => by
              have hb := below_regrown w5 d os
              have hk := (HR1.out.below Hb5.out (by omega)).below hb (by omega)
              have := l17Fits_any (ws := rideW g k ++ [g.length]) (Aw := A5) (cw := c5) (c := c) (p := ⟨rb, 0, none⟩) (r := r) (w := Sort.grow (redrawn w5 d) os) (Reads.below (Reads.below HM0.out (Hbel.out.trans (Hb5.out.mono (by omega))) (Nat.le_refl _)) hb (by omega)) (by have := hb.size; omega) hn HG.out (by
                rw [Hlen.out]
                exact Reads.below Ho5.out.reads hb (Nat.le_refl _)) hb.size (by
                intro y hy
                rw [List.mem_append] at hy
                rcases hy with hy | hy
                · have := rideTo_lt y hy; omega
                · simp at hy; omega) (by rw [Hlen.out]; omega) (hk.at_ 0 _ rfl) (hk.at_ 1 _ rfl) (hk.at_ 2 _ rfl)
              rw [hfb, Hlen.out] at this
              exact Calls.regrown_of this
            have q0 := cell_regrown y0
            have q1 := cell_regrown y1
            clear hfb y0 y1
            refine wp_region_quiet_below (by kernel_rfl) (by kernel_rfl) ?_
            repeat (go_big_quiet_step (exact cF _ _))
            refine wpQuiet_nil ?_
            intro _ hw'
            obtain ⟨⟨dq, osq⟩, hw''⟩ := hw'
            subst hw''
            have hb7 := Hb5.out.trans ((below_regrown w5 dq osq).mono hs5)
            clear cF q0 q1 Ho5 Hb5 hs5
            generalize Sort.grow (redrawn w5 dq) osq = W7 at *
            have Hc7 := Lib.hid (Hc1.out.below hb7 hlt1)
            have Hw7 := Lib.hid (Hw1.out.below hb7)
            have Hb7 := Lib.hid (Hb1.out.below hb7)
            have HR7 := Lib.hid (HR1.out.below hb7 (by omega))
            have Ht7 := Lib.hid (Ht1.out.trans (Touch2.of_below bh Ag1 hb7) Hon1.out)
            have Hbel7 := Lib.hid (Hbel.out.trans (hb7.mono (by omega)))
            have hs7 := hb7.size
            clear hb7 Hc1 Hw1 Hb1 HR1 Ht1 Hbel
            cases fb with
            | false =>
              have HN : Hid ((List.range (k + 1)).foldl (fstep l r (fs l r m) g u) ⟨s.left - 1, false, s.best⟩ = q) := Lib.hid (by rw [HS.out, Hfb.out]; rfl)
              go_wp2_with fail
              have hgk := Hgk.out
              go_roundg (gko - 1)
              case rel => exact ⟨k + 1, Ag1, cg1, Ab1, nb1, cb1, q, by omega, by omega, by go_num, HN.out, Hqs.out, hql, Hqo.out, Hc7.out, Hb7.out, Hw7.out, Hap1.out, Ht7.out, Hon1.out⟩
              case measure => omega
            | true =>
              have HN : Hid ((List.range (k + 1)).foldl (fstep l r (fs l r m) g u) ⟨s.left - 1, false, s.best⟩ = fs l r m (g ++ [k]) (max u (k + 1)) q) := Lib.hid (by rw [HS.out, Hfb.out]; rfl)
              have Hqok : Hid (FOk n (fs l r m (g ++ [k]) (max u (k + 1)) q)) := Lib.hid (by
                have := fs_ok l r m (g ++ [k]) (max u (k + 1)) q (by rw [HL.out]; simp; omega) (by simp; omega) (by rw [HL.out]; exact Hqo.out)
                rw [HL.out] at this
                exact this)
              have hqleft : (fs l r m (g ++ [k]) (max u (k + 1)) q).left ≤ bud := by have := fs_left l r m (g ++ [k]) (max u (k + 1)) q; omega
              have c2 : W7.cell? ⟨bh, 2, none⟩ = some (.slice Ag1 g.length cg1) := Hc7.out.at_ 2 _ rfl
              have f2 := Hc7.out.fz 2
              have hlt7 := Hc7.out.lt
              go_wp2_with (at_builtin; refine wpList_app rfl _ _ 22 rfl 2 i0 _ 1 8 Try.underlying22 hi1 hz0 hz1 hz2 rfl (by omega) (by omega) (bh + 1) _ _ _ _ rfl (Hw7.out.alloc _) ⟨W7.heap.size, 0, none⟩ 1 1 [.int .i64 (k : Int)] rfl rfl (cell_one_new _ _ _) (by simp [Value.oneCell']) (by omega) (by simp; omega) ?_)
              intro A8 c8 w8 o8 hgA hbA hat
              have hzz : W7.heap.size ≤ (W7.alloc (.cells #[.int .i64 (k : Int)] 2)).heap.size := by simp
              have bal : Below W7.heap.size W7 (W7.alloc (.cells #[.int .i64 (k : Int)] 2)) := (Below.refl _ _).alloc (Nat.le_refl _) _
              have hon5 : OldNew W7 Ag1 A8 := by
                intro a ha
                subst ha
                rcases hat with e | e
                · cases Ag1 with
                  | none => cases e
                  | some a0 => exact .inl ⟨a0, rfl, by simpa using e.symm⟩
                · right
                  have : a.block = (W7.alloc (.cells #[.int .i64 (k : Int)] 2)).heap.size := by simpa using e
                  omega
              have tA : Touch2 W7 w8 bh Ag1 := (Touch2.of_below bh Ag1 bal).trans (Touch2.of_grown hgA) (OldNew.refl _ _)
              have hA1 : ∀ a, Ag1 = some a → bh + 1 ≤ a.block := Hw7.out.from
              have Hc8 := Lib.hid ((Hc7.out.below bal hlt7).below hbA (Nat.lt_succ_self _))
              have Hb8 := Lib.hid (own_grown (Hb7.out.below bal) hgA Hap1.out)
              have HR8 := Lib.hid (HR7.out.touch2 tA (by omega) (fun a ha => by have := hA1 a ha; omega))
              have hap8 : Apart A8 Ab1 := (apart_old Hap1.out.symm hon5 (fun a ha => (Hb7.out.block_lt a ha).2.2.2)).symm
              have hon18 : OldNew w Ag A8 := Hon1.out.trans hon5 (by omega)
              have ht18 : Touch2 w w8 bh Ag := Ht7.out.trans tA Hon1.out
              have o8' : Own w8 (bh + 1) 2 1 A8 (g.length + 1) c8 ((ciN (g ++ [k])).map (Value.int .i64)) := by
                rw [show ciN (g ++ [k]) = ciN g ++ [(k : Int)] by simp [ciN], List.map_append]; exact o8
              have hw8 : W7.heap.size ≤ w8.heap.size := tA.size
              have e4 : w8.cell? ⟨bh, 2, none⟩ = some (.slice Ag1 g.length cg1) := Hc8.out.at_ 2 _ rfl
              have f45 := Hc8.out.fz 2
              have Hc9 : Hid (HC (w8.setCell ⟨bh, 2, none⟩ (.slice A8 (g.length + 1) c8)) bh (nvs A n c rb (.slice A8 (g.length + 1) c8) Ab1 nb1 cb1 (fbZ q) (bud - q.left) bud)) := Lib.hid (Hc8.out.set (j := 2) (.slice A8 (g.length + 1) c8) (by simp [nvs]))
              have Hw9 := Lib.hid (o8'.setFar (j := 2) (Nat.lt_succ_self bh) (.slice A8 (g.length + 1) c8))
              have Hb9 := Lib.hid (Hb8.out.setFar (j := 2) (Nat.lt_succ_self bh) (.slice A8 (g.length + 1) c8))
              have HR9 := Lib.hid (HR8.out.touch2 (Touch2.of_set w8 bh 2 (.slice A8 (g.length + 1) c8) none) (by omega) (fun a e => by cases e))
              have ht9 := ht18.trans (Touch2.of_set w8 bh 2 (.slice A8 (g.length + 1) c8) A8) hon18
              have Ht9 := Lib.hid ht9
              have Hbel9 : Hid (Below rb w (w8.setCell ⟨bh, 2, none⟩ (.slice A8 (g.length + 1) c8))) := Lib.hid ((ht9.below (show bh ≤ w.heap.size by omega) (fun a ha => by have := HGF.out a ha; omega)).mono (by omega))
              have Hon9 := Lib.hid hon18
              have Hap9 := Lib.hid hap8
              have Hz9 : Hid (w.heap.size ≤ (w8.setCell ⟨bh, 2, none⟩ (.slice A8 (g.length + 1) c8)).heap.size) := Lib.hid ht9.size
              obtain ⟨W9, hW9⟩ : ∃ W9, w8.setCell ⟨bh, 2, none⟩ (.slice A8 (g.length + 1) c8) = W9 := ⟨_, rfl⟩
              rw [hW9] at Hc9 Hw9 Hb9 HR9 Ht9 Hbel9 Hz9
              have HW9 := Lib.hid hW9
              clear o8 hgA hbA hat bal hon5 tA Hc8 Hb8 HR8 hap8 hon18 ht18 o8' ht9 hW9 c2 f2 Hc7 Hb7 Hw7 Hap1 Ht7 HR7 hA1 hzz Hbel7
              have Hcall : Hid (Calls Try.prog 53 #[.pointer (some ⟨bh, 0, none⟩), .int .i64 ((max u (k + 1) : Nat) : Int)] W9 (FPost bh rb A n c bud (g ++ [k]) (fs l r m (g ++ [k]) (max u (k + 1)) q) A8 W9)) := Lib.hid
                (Ih.out A A8 Ab1 n c c8 nb1 cb1 bh rb bud (max u (k + 1)) l r (g ++ [k]) q W9 (Reads.below HM0.out Hbel9.out (Nat.le_refl _)) hn HG.out (by simp; omega) (by simp; omega) (by
                  intro y hy
                  rw [List.mem_append] at hy
                  rcases hy with hy | hy
                  · exact Hgm.out y hy
                  · simp at hy; omega) (by simp; omega) hrb hbud hql Hqs.out Hqo.out HR9.out (by rw [List.length_append]; exact Hc9.out) (by rw [List.length_append]; exact Hw9.out) Hb9.out Hap9.out)
              generalize fs l r m (g ++ [k]) (max u (k + 1)) q = q2 at *
              have hlt9 := Hc9.out.lt
              clear Hc9 Hw9 Hb9 HR9 Hbel9
              go_wp2_with (go_at_call 75; refine (l00Max_nat u k _).mono ?_; rintro e w' ⟨rfl, rfl⟩)
              rw [HW9.out]
              clear e4 f45 HW9
              refine Hcall.out.mono ?_
              rintro e wa ⟨vw, vn, Aba, nba, cba, rfl, hca, hba, hta, hif⟩
              have Hta := Lib.hid (Ht9.out.trans hta Hon9.out)
              have Hca := Lib.hid hca
              have Hba := Lib.hid hba
              cases hs2 : q2.spent with
              | true =>
                have HNe : Hid (fs l r (m + 1) g u s = q2) := Lib.hid (by
                  rw [Hqq.out, frange_from _ _ (k + 1) (u + 1) (by omega) (fun ks => by rw [HN.out]; exact fkids_spent _ _ _ _ _ _ _ hs2), HN.out])
                have HFe : Hid (FPost bh rb A n c bud g (fs l r (m + 1) g u s) Ag w (.returned (.bool true)) wa) := Lib.hid (by
                  rw [HNe.out]; exact ⟨vw, vn, Aba, nba, cba, by rw [hs2], Hca.out, Hba.out, Hta.out, fun x => by rw [hs2] at x; cases x⟩)
                clear hif hca hba hta hs2
                go_wp2_with fail
                go_ret
                exact HFe.out
              | false =>
                obtain ⟨hvn, Ag8, cg8, hvw, hwa, hapa, hona⟩ := hif hs2
                subst hvw
                subst hvn
                have hon1a : OldNew w Ag Ag8 := Hon9.out.trans hona (by have := Hz9.out; omega)
                obtain ⟨ad8, hA8⟩ : ∃ ad8, Ag8 = some ad8 := by
                  cases Ag8 with
                  | none => have := hwa.none_n; rw [List.length_append] at this; simp at this
                  | some a => exact ⟨a, rfl⟩
                subst hA8
                have Hwa : Hid (Own wa (bh + 1) 2 1 (some ad8) (g.length + 1) cg8 ((ciN (g ++ [k])).map (Value.int .i64))) := Lib.hid (by rw [List.length_append] at hwa; exact hwa)
                have Hca' : Hid (HC wa bh (nvs A n c rb (.slice (some ad8) (g.length + 1) cg8) Aba nba cba (fbZ q2) (bud - q2.left) bud)) := Lib.hid (by rw [List.length_append] at hca; exact hca)
                have Hapa := Lib.hid hapa
                have Hona := Lib.hid hon1a
                have Hs2 := Lib.hid hs2
                clear hif hca hba hta hs2 hwa hapa hona hon1a Hca
                have e2 : wa.cell? ⟨bh, 2, none⟩ = some (.slice (some ad8) (g.length + 1) cg8) := Hca'.out.at_ 2 _ rfl
                have fa2 := Hca'.out.fz 2
                have hlta := Hca'.out.lt
                have hgl7 : g.length + 1 ≤ cg8 := Hwa.out.cap
                have hgi7 : (g.length : Int) ≤ (cg8 : Int) := by omega
                have hgi8 : (0 : Int) ≤ (g.length : Int) := by omega
                have Hcb := Lib.hid (Hca'.out.set (j := 2) (.slice (some ad8) g.length cg8) (by simp [nvs]))
                have hwb : Own wa (bh + 1) 2 1 (some ad8) g.length cg8 ((ciN g).map (Value.int .i64)) := by
                  have := Hwa.out.headM (k := g.length) (by omega)
                  rw [Nat.mul_one, ← List.map_take, show (ciN (g ++ [k])).take g.length = ciN g by rw [show ciN (g ++ [k]) = ciN g ++ [(k : Int)] by simp [ciN], List.take_append_of_le_length (by rw [ciN_len]; exact Nat.le_refl _), List.take_of_length_le (by rw [ciN_len]; exact Nat.le_refl _)]] at this
                  exact this
                have Hwb := Lib.hid (hwb.setFar (j := 2) (Nat.lt_succ_self bh) (.slice (some ad8) g.length cg8))
                have Hbb := Lib.hid (Hba.out.setFar (j := 2) (Nat.lt_succ_self bh) (.slice (some ad8) g.length cg8))
                have Htb := Lib.hid (Hta.out.trans (Touch2.of_set wa bh 2 (.slice (some ad8) g.length cg8) (some ad8)) Hona.out)
                clear hwb Hca' Hwa Hba Hta
                go_wp2_with fail
                have hgk := Hgk.out
                go_roundg (gko - 1)
                case rel => exact ⟨k + 1, some ad8, cg8, Aba, nba, cba, q2, by omega, by omega, by go_num, HN.out, Hs2.out, hqleft, Hqok.out, Hcb.out, Hbb.out, Hwb.out, Hapa.out, Htb.out, Hona.out⟩
                case measure => omega
      · have hke : k = u + 1 := by omega
        have HN : Hid (fs l r (m + 1) g u s = q) := Lib.hid (by rw [Hqq.out, ← hke, HQ.out])
        have HFe : Hid (FPost bh rb A n c bud g (fs l r (m + 1) g u s) Ag w (.returned (.bool false)) wr) := Lib.hid (by
          rw [HN.out]; exact ⟨.slice Ag1 g.length cg1, bud - q.left, Ab1, nb1, cb1, by rw [Hqs.out], Hc1.out, Hb1.out, Ht1.out, fun _ => ⟨rfl, Ag1, cg1, rfl, Hw1.out, Hap1.out, Hon1.out⟩⟩)
        have hk1 : ¬ (k : Int) ≤ (u : Int) := by omega
        clear hke
        go_wp2_with fail
        go_ret
        exact HFe.out
end Go.Proofs.Ytmnpehajojdhcaa
