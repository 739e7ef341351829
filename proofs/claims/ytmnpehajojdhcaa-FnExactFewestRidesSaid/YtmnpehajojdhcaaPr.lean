/- Loads: FewestRides: the program's search (under way: rounds with sorry). -/
import Derived.Test.YtmnpehajojdhcaaPq
import Derived.Deep.DeepCutAuto
import Derived.Deep.RegionLaw
namespace Go.Proofs.Ytmnpehajojdhcaa
open Go.RowKit
set_option maxRecDepth 100000
set_option linter.unusedVariables false
set_option linter.unusedSimpArgs false

theorem info_Room2 : (Try.prog.info? 36).map (fun i => (i.zero, i.size, i.bytes)) = some (some (.agg #[.int .i64 0, .int .i64 0, .int .i64 0]), 3, 24) := by kernel_rfl
theorem cells3_new (w : World) (xs : List Value) (t : TypeId) : ∀ j u, xs[j]? = some u → (w.alloc (.cells xs.toArray t)).cell? ((⟨w.heap.size, 0, none⟩ : Addr).add j) = some u := by
  intro j u hu
  rw [Addr.add_lit, Nat.zero_add]
  simpa using hu
set_option maxHeartbeats 8000000 in
theorem lsearch_any : ∀ (m : Nat) (A Ao Ag Ab : Option Addr) (n c co cg nb cb bh u : Nat) (l : List GroupR) (r : RoomR) (g : List Nat) (s : FS) (w : World) (h : Reads w bh 4 A n (l.flatMap GroupR.cells)) (hn : n ≤ 12) (hG : GOk l) (hal : aloneB l r = true) (hgl : g.length ≤ n) (hug : u ≤ g.length) (hgu : ∀ x ∈ g, x < u) (hm : n < m + g.length)
    (hl : s.left ≤ 20000) (hok : FOk n s) (hc : HC w bh (lvs A n c r Ao u co Ag g.length cg Ab nb cb s)) (ho : Own w (bh + 1) 36 3 Ao u co ((onL l g u).flatMap RoomR.cells))
    (hw : Own w (bh + 1) 2 1 Ag g.length cg ((ciN g).map (Value.int .i64))) (hb : Own w (bh + 1) 2 1 Ab nb cb ((ciN (fbL s)).map (Value.int .i64))) (ha1 : Apart Ao Ag) (ha2 : Apart Ao Ab) (ha3 : Apart Ag Ab),
    Calls Try.prog 55 #[.pointer (some ⟨bh, 0, none⟩)] w (LPost bh A n c r l g u (fs l r m g u s) Ao Ag w) := by
  intro m
  induction m with
  | zero => intro A Ao Ag Ab n c co cg nb cb bh u l r g s w h hn hG hal hgl hug hgu hm; omega
  | succ m ih =>
    intro A Ao Ag Ab n c co cg nb cb bh u l r g s w h hn hG hal hgl hug hgu hm hl hok hc ho hw hb ha1 ha2 ha3
    by_cases hcase : s.spent = true ∨ s.left = 0 ∨ g.length = n
    · exact lsearch_leaf m A Ao Ag Ab n c co cg nb cb bh u l r g s w h hn hgl (by omega) hcase hl hc ho hw hb ha1 ha2 ha3
    have hsp : s.spent = false := by cases hx : s.spent with
      | true => exact absurd (.inl hx) hcase
      | false => rfl
    have hl0 : ¬ s.left = 0 := fun x => hcase (.inr (.inl x))
    have hgn : ¬ g.length = n := fun x => hcase (.inr (.inr x))
    have hgn2 : g.length < n := by omega
    have HL := Lib.hid (GroupR.count h)
    have hlt := hc.lt
    obtain ⟨i0, hi1, hz0, hz1, hz2⟩ := info_parts info_int
    have Hqq : Hid (fs l r (m + 1) g u s = (List.range (u + 1)).foldl (fstep l r (fs l r m) g u) ⟨s.left - 1, false, s.best⟩) := Lib.hid (by rw [fs, hsp, if_neg (by simp), if_neg hl0, if_neg (by rw [HL.out]; exact hgn)])
    have HM0 := Lib.hid h
    have Ih := Lib.hid ih
    have HG := Lib.hid hG
    have Hal := Lib.hid hal
    have Hgu := Lib.hid hgu
    have HGF : Hid (∀ a, Ag = some a → bh + 1 ≤ a.block ∧ a.block < w.heap.size) := Lib.hid (fun a ha => ⟨(hw.block_lt a ha).2.2.1, (hw.block_lt a ha).2.2.2⟩)
    have HOF : Hid (∀ a, Ao = some a → bh + 1 ≤ a.block ∧ a.block < w.heap.size) := Lib.hid (fun a ha => ⟨(ho.block_lt a ha).2.2.1, (ho.block_lt a ha).2.2.2⟩)
    have d0 : w.cell? ⟨bh, 0, none⟩ = some (.int .i64 (s.left : Int)) := hc.at_ 0 _ rfl
    have d1 : w.cell? ⟨bh, 1, none⟩ = some (.bool false) := by rw [← hsp]; exact hc.at_ 1 _ rfl
    have hc1 : HC (w.setCell ⟨bh, 0, none⟩ (.int .i64 ((s.left - 1 : Nat) : Int))) bh (lvs A n c r Ao u co Ag g.length cg Ab nb cb ⟨s.left - 1, false, s.best⟩) := by
      have := hc.set (j := 0) (.int .i64 ((s.left - 1 : Nat) : Int)) (by simp [lvs])
      simp only [lvs, List.set_cons_zero, hsp] at this
      exact this
    have Hc1 := Lib.hid hc1
    have Ho1 := Lib.hid (ho.setFar (j := 0) (Nat.lt_succ_self bh) (.int .i64 ((s.left - 1 : Nat) : Int)))
    have Hw1 := Lib.hid (hw.setFar (j := 0) (Nat.lt_succ_self bh) (.int .i64 ((s.left - 1 : Nat) : Int)))
    have Hb1 := Lib.hid (hb.setFar (j := 0) (Nat.lt_succ_self bh) (.int .i64 ((s.left - 1 : Nat) : Int)))
    have Ht1 := Lib.hid (TouchN.of2 (As := [Ao, Ag]) (Touch2.of_set w bh 0 (.int .i64 ((s.left - 1 : Nat) : Int)) none) (.inr rfl))
    have Hcc := Lib.hid hc
    have Ha1 := Lib.hid ha1
    have Ha2 := Lib.hid ha2
    have Ha3 := Lib.hid ha3
    have Hok := Lib.hid hok
    have Hl0 := Lib.hid hl0
    have hge : ((g.length : Int) == (n : Int)) = false := by rw [beq_eq_false_iff_ne]; omega
    have hge2 : decide (g.length = n) = false := by rw [decide_eq_false_iff_not]; exact hgn
    have hu12 : u ≤ 12 := by omega
    clear h ih hG hal hgu hok hc ho hw hb ha1 ha2 ha3 hsp hcase hl0 hgn hc1
    go_enter Try.func55, Try.ntmps55
    go_wp2_with fail
    refine (node_any (left := s.left) (sp := s.spent) Hcc.out hl).mono ?_
    rintro e w' (⟨h0, rfl, rfl⟩ | ⟨h0, rfl, rfl⟩)
    · exact absurd h0 Hl0.out
    clear d0 d1 Hcc
    generalize w.setCell ⟨bh, 0, none⟩ (.int .i64 ((s.left - 1 : Nat) : Int)) = W1 at *
    have c2 : W1.cell? ⟨bh, 2, none⟩ = some (.slice A n c) := Hc1.out.at_ 2 _ rfl
    have c7 : W1.cell? ⟨bh, 7, none⟩ = some (.slice Ag g.length cg) := Hc1.out.at_ 7 _ rfl
    go_wp2_with fail
    clear c2 c7
    go_loopg [3] u (fun gk vk wr => ∃ (k : Nat) (Ao1 : Option Addr) (co1 : Nat) (Ag1 : Option Addr) (cg1 : Nat) (Ab1 : Option Addr) (nb1 cb1 : Nat) (q : FS), k ≤ u ∧ gk + k = u ∧ vk = .int .i64 (k : Int) ∧
      (List.range k).foldl (fstep l r (fs l r m) g u) ⟨s.left - 1, false, s.best⟩ = q ∧ q.left ≤ 20000 ∧ FOk n q ∧ HC wr bh (lvs A n c r Ao1 u co1 Ag1 g.length cg1 Ab1 nb1 cb1 q) ∧ Own wr (bh + 1) 36 3 Ao1 u co1 ((onL l g u).flatMap RoomR.cells) ∧ Own wr (bh + 1) 2 1 Ag1 g.length cg1 ((ciN g).map (Value.int .i64)) ∧
      Own wr (bh + 1) 2 1 Ab1 nb1 cb1 ((ciN (fbL q)).map (Value.int .i64)) ∧ Apart Ao1 Ag1 ∧ Apart Ao1 Ab1 ∧ Apart Ag1 Ab1 ∧ TouchN w wr bh [Ao, Ag] ∧ OldNew w Ao Ao1 ∧ OldNew w Ag Ag1)
    case atStart => exact ⟨0, Ao, co, Ag, cg, Ab, nb, cb, ⟨s.left - 1, false, s.best⟩, by omega, by omega, rfl, rfl, by simp only; omega, Hok.out, Hc1.out, Ho1.out, Hw1.out, Hb1.out, Ha1.out, Ha2.out, Ha3.out, Ht1.out, OldNew.refl _ _, OldNew.refl _ _⟩
    case round =>
      clear Hc1 Ho1 Hw1 Hb1 Ha1 Ha2 Ha3 Ht1 Hok
      obtain ⟨k, Ao1, co1, Ag1, cg1, Ab1, nb1, cb1, q, hk, hgk, rfl, hq, hql, hqo, hc1, ho1, hw1, hb1, ha1, ha2, ha3, ht1, hno, hng⟩ := hrel
      have Hgk := Lib.hid hgk
      have HQ := Lib.hid hq
      have Hqo := Lib.hid hqo
      have Hc1 := Lib.hid hc1
      have Ho1 := Lib.hid ho1
      have Hw1 := Lib.hid hw1
      have Hb1 := Lib.hid hb1
      have Ha1 := Lib.hid ha1
      have Ha2 := Lib.hid ha2
      have Ha3 := Lib.hid ha3
      have Ht1 := Lib.hid ht1
      have Hno := Lib.hid hno
      have Hng := Lib.hid hng
      have hlt1 := hc1.lt
      have hsz1 := ht1.size
      have Hbel : Hid (Below bh w wr) := Lib.hid (ht1.below (by omega) (Nat.le_refl _) (fun A1 hA a ha => by
        rcases List.mem_cons.1 hA with e | hA
        · subst e; have := HOF.out a ha; omega
        · rw [List.mem_singleton] at hA; subst hA; have := HGF.out a ha; omega))
      clear hgk hq hqo hc1 ho1 hw1 hb1 ha1 ha2 ha3 ht1 hno hng
      have hqk : IntKind.i64.wrap ((k : Int) + 1) = (k : Int) + 1 := IntWalk.i64_in _ (by omega)
      have c6 : wr.cell? ⟨bh, 6, none⟩ = some (.slice Ao1 u co1) := Hc1.out.at_ 6 _ rfl
      have hk0 : (0 : Int) ≤ (k : Int) := by omega
      have hk1 : (k : Int) ≤ (u : Int) := by omega
      have hk2 : decide (k ≤ u) = true := decide_eq_true hk
      have HS : Hid ((List.range (k + 1)).foldl (fstep l r (fs l r m) g u) ⟨s.left - 1, false, s.best⟩ = if fitsW l r (rideW g k ++ [g.length]) then fs l r m (g ++ [k]) (max u (k + 1)) q else q) := Lib.hid (by rw [ffold_succ, HQ.out]; rfl)
      by_cases hku : k = u
      · have HN : Hid (fs l r (m + 1) g u s = fs l r m (g ++ [u]) (u + 1) q) := Lib.hid (by
          have hf : fitsW l r (rideW g u ++ [g.length]) = true := by
            rw [rideW_new Hgu.out]
            exact allTo_true.1 Hal.out g.length (by rw [HL.out]; exact hgn2)
          have := HS.out
          rw [hku] at this
          rw [Hqq.out, this, if_pos hf, show max u (u + 1) = u + 1 by omega])
        clear HS hk2
        obtain rfl : u = k := hku.symm
        clear hku
        have e2 : wr.cell? ⟨bh, 2, none⟩ = some (.slice A n c) := Hc1.out.at_ 2 _ rfl
        have f6 := Hc1.out.fz 6
        obtain ⟨i1, hj1, hy0, hy1, hy2⟩ := info_parts info_Room2
        obtain ⟨adl, rfl, hbl, g0, g1, g2, g3⟩ := GroupR.rd (Reads.below HM0.out Hbel.out (Nat.le_refl _)) hgn2
        have hgx := HG.out g.length (by rw [HL.out]; exact hgn2)
        have hgi0 : (0 : Int) ≤ (g.length : Int) := by omega
        have hgi1 : (g.length : Int) < (n : Int) := by omega
        have Hon2 : Hid (onL l (g ++ [u]) (u + 1) = onL l g u ++ [⟨(GroupR.at_ l g.length).People, (GroupR.at_ l g.length).Bikes, 75 * (GroupR.at_ l g.length).People + 15 * (GroupR.at_ l g.length).Bikes + (GroupR.at_ l g.length).Kilos⟩]) := Lib.hid (by
          rw [onL_new]
          congr 2
          rw [rideR_next]
          have hz : rideW g u = [] := rideW_new Hgu.out
          unfold rideR
          rw [hz, sumG_nil, sumG_nil, sumG_nil]
          simp [kiloG])
        generalize GroupR.at_ l g.length = x at *
        have hbad : adl.block < wr.heap.size := by omega
        go_wp2_with fail
        go_cut [] (fun wx => ∃ (Ao2 : Option Addr) (co2 : Nat), HC wx bh (lvs (some adl) n c r Ao2 (u + 1) co2 Ag1 g.length cg1 Ab1 nb1 cb1 q) ∧ Own wx (bh + 1) 36 3 Ao2 (u + 1) co2 ((onL l (g ++ [u]) (u + 1)).flatMap RoomR.cells) ∧ Own wx (bh + 1) 2 1 Ag1 g.length cg1 ((ciN g).map (Value.int .i64)) ∧
          Own wx (bh + 1) 2 1 Ab1 nb1 cb1 ((ciN (fbL q)).map (Value.int .i64)) ∧ Apart Ao2 Ag1 ∧ Apart Ao2 Ab1 ∧ TouchN w wx bh [Ao, Ag] ∧ OldNew w Ao Ao2)
        case first =>
          have HFirst : Hid (∀ (w2 w3 : World) (A3 : Option Addr) (c3 : Nat) (o : Obj), Below wr.heap.size wr w2 → Own w3 (bh + 1) 36 3 A3 (u + 1) c3 ((onL l g u).flatMap RoomR.cells ++ [.int .i64 x.People, .int .i64 x.Bikes, .int .i64 (75 * x.People + 15 * x.Bikes + x.Kilos)]) →
              (w2.alloc o).grownBy w3 (Ao1.map (·.block)) → Below (bh + 1) (w2.alloc o) w3 → (A3.map (·.block) = Ao1.map (·.block) ∨ A3.map (·.block) = some (w2.alloc o).heap.size) →
              ∃ (Ao2 : Option Addr) (co2 : Nat), HC (w3.setCell ⟨bh, 6, none⟩ (.slice A3 (u + 1) c3)) bh (lvs (some adl) n c r Ao2 (u + 1) co2 Ag1 g.length cg1 Ab1 nb1 cb1 q) ∧ Own (w3.setCell ⟨bh, 6, none⟩ (.slice A3 (u + 1) c3)) (bh + 1) 36 3 Ao2 (u + 1) co2 ((onL l (g ++ [u]) (u + 1)).flatMap RoomR.cells) ∧ Own (w3.setCell ⟨bh, 6, none⟩ (.slice A3 (u + 1) c3)) (bh + 1) 2 1 Ag1 g.length cg1 ((ciN g).map (Value.int .i64)) ∧
                Own (w3.setCell ⟨bh, 6, none⟩ (.slice A3 (u + 1) c3)) (bh + 1) 2 1 Ab1 nb1 cb1 ((ciN (fbL q)).map (Value.int .i64)) ∧ Apart Ao2 Ag1 ∧ Apart Ao2 Ab1 ∧ TouchN w (w3.setCell ⟨bh, 6, none⟩ (.slice A3 (u + 1) c3)) bh [Ao, Ag] ∧ OldNew w Ao Ao2) := Lib.hid (fun w2 w3 A3 c3 o hb2 o3 hgA hbA hat => by
            have bal : Below wr.heap.size wr (w2.alloc o) := hb2.alloc hb2.size _
            have hon5 : OldNew wr Ao1 A3 := by
              intro a ha
              subst ha
              rcases hat with e | e
              · cases Ao1 with
                | none => cases e
                | some a0 => exact .inl ⟨a0, rfl, by simpa using e.symm⟩
              · right
                have h1 : a.block = (w2.alloc o).heap.size := by simpa using e
                have h2 := bal.size
                omega
            have tA : Touch2 wr w3 bh Ao1 := (Touch2.of_below bh Ao1 bal).trans (Touch2.of_grown hgA) (OldNew.refl _ _)
            have hno2 : OldNew w Ao A3 := Hno.out.trans hon5 (by omega)
            refine ⟨A3, c3, ((Hc1.out.below bal hlt1).below hbA (Nat.lt_succ_self bh)).set (j := 6) (.slice A3 (u + 1) c3) (by simp [lvs]), ?_, (own_grown (Hw1.out.below bal) hgA Ha1.out).setFar (Nat.lt_succ_self _) _, (own_grown (Hb1.out.below bal) hgA Ha2.out).setFar (Nat.lt_succ_self _) _,
              (apart_old Ha1.out.symm hon5 (fun a ha => (Hw1.out.block_lt a ha).2.2.2)).symm, (apart_old Ha2.out.symm hon5 (fun a ha => (Hb1.out.block_lt a ha).2.2.2)).symm, ?_, hno2⟩
            · rw [Hon2.out, List.flatMap_append]
              exact o3.setFar (Nat.lt_succ_self _) _
            · exact (Ht1.out.trans (TouchN.of2 (As := [Ao1]) tA (.inl (by simp))) (fun A1 h => ⟨Ao, by simp, by rw [List.mem_singleton] at h; subst h; exact Hno.out⟩)).trans (TouchN.of2 (As := [Ao]) (Touch2.of_set w3 bh 6 (.slice A3 (u + 1) c3) none) (.inr rfl)) (fun A1 h => ⟨Ao, by simp, by rw [List.mem_singleton] at h; subst h; exact OldNew.refl _ _⟩))
          have ho1 := Ho1.out
          go_region_law (first
            | (refine step_app _ (by rfl) (.tmp 86) (.tmp 95) 102 (by rfl) 36 i1 _ 3 24 Try.underlying102 hj1 hy0 hy1 hy2 rfl (by omega) (by omega) (bh + 1) _ _ _ _ (by rfl) (ho2.alloc _) ⟨w2.heap.size, 0, none⟩ 1 1 [.int .i64 x.People, .int .i64 x.Bikes, .int .i64 (75 * x.People + 15 * x.Bikes + x.Kilos)] (by rfl) (by rfl) (cells3_new _ [_, _, _] _) (by simp [Value.oneCell']) (by omega) (by simp; omega) ?_; intro A3 c3 w3 o3 hgA hbA hat; have z6 : w3.cell? ⟨bh, 6, none⟩ = some (.slice Ao1 u co1) := (hbA.cell (p := ⟨bh, 6, none⟩) (Nat.lt_succ_self bh)).trans ((World.cell?_alloc_lt _ _ _ (by show bh < w2.heap.size; omega)).trans z6); have y6 : w3.frozen? ⟨bh, 6, none⟩ = false := ((Hc1.out.below (hb2.alloc hs2 _) hlt1).below hbA (Nat.lt_succ_self bh)).fz 6)
            | (go_simp; go_at_call 86; refine (need_any hgx.1 hgx.2.1 hgx.2.2).mono ?_; rintro e w2 ⟨rfl, b2⟩; have z6 : w2.cell? ⟨bh, 6, none⟩ = some (.slice Ao1 u co1) := (b2.cell (p := ⟨bh, 6, none⟩) hlt1).trans c6; have hb2 : Below wr.heap.size wr w2 := ((Below.refl _ _).drew).trans b2; have ho2 := ho1.below hb2; have hs2 := hb2.size; have z6' : ∀ o, (w2.alloc o).cell? ⟨bh, 6, none⟩ = some (.slice Ao1 u co1) := fun o => (World.cell?_alloc_lt _ _ _ (by show bh < w2.heap.size; omega)).trans z6)
            | fail)
          all_goals
            have HF := Lib.hid (HFirst.out _ _ _ _ _ hb2 o3 hgA hbA hat)
            clear o3 hgA hbA hat z6 y6 ho2 b2 hb2 hs2 z6'
            go_wp2_with fail
            go_meet
            exact HF.out
        case rest =>
          obtain ⟨Ao2, co2, hc2, ho2, hw2, hb2, hap2, haq2, ht2, hno2⟩ := hcut
          have Hc2 := Lib.hid hc2
          have Ho2 := Lib.hid ho2
          have Hw2 := Lib.hid hw2
          have Hb2 := Lib.hid hb2
          have Hap2 := Lib.hid hap2
          have Haq2 := Lib.hid haq2
          have Ht2 := Lib.hid ht2
          have Hno2 := Lib.hid hno2
          clear hc2 ho2 hw2 hb2 hap2 haq2 ht2 hno2 Hc1 Ho1 Hw1 Hb1 Ha1 Ha2 Ht1 Hno Hon2
          have c7 : wc.cell? ⟨bh, 7, none⟩ = some (.slice Ag1 g.length cg1) := Hc2.out.at_ 7 _ rfl
          have f7 := Hc2.out.fz 7
          have hltc := Hc2.out.lt
          have hszc := Ht2.out.size
          go_wp2_with (at_builtin; refine wpList_app rfl _ _ 22 rfl 2 i0 _ 1 8 Try.underlying22 hi1 hz0 hz1 hz2 rfl (by omega) (by omega) (bh + 1) _ _ _ _ rfl (Hw2.out.alloc _) ⟨wc.heap.size, 0, none⟩ 1 1 [.int .i64 (u : Int)] rfl rfl (cell_one_new _ _ _) (by simp [Value.oneCell']) (by omega) (by simp; omega) ?_)
          intro A8 c8 w8 o8 hgA hbA hat
          have bal : Below wc.heap.size wc (wc.alloc (.cells #[.int .i64 (u : Int)] 2)) := (Below.refl _ _).alloc (Nat.le_refl _) _
          have hon5 : OldNew wc Ag1 A8 := by
            intro a ha
            subst ha
            rcases hat with e | e
            · cases Ag1 with
              | none => cases e
              | some a0 => exact .inl ⟨a0, rfl, by simpa using e.symm⟩
            · right
              have h1 : a.block = (wc.alloc (.cells #[.int .i64 (u : Int)] 2)).heap.size := by simpa using e
              have h2 := bal.size
              omega
          have tA : Touch2 wc w8 bh Ag1 := (Touch2.of_below bh Ag1 bal).trans (Touch2.of_grown hgA) (OldNew.refl _ _)
          have hng8 : OldNew w Ag A8 := Hng.out.trans hon5 (by omega)
          have o8' : Own w8 (bh + 1) 2 1 A8 (g.length + 1) c8 ((ciN (g ++ [u])).map (Value.int .i64)) := by
            rw [show ciN (g ++ [u]) = ciN g ++ [(u : Int)] by simp [ciN], List.map_append]; exact o8
          have hc8 := (Hc2.out.below bal hltc).below hbA (Nat.lt_succ_self bh)
          have e4 : w8.cell? ⟨bh, 7, none⟩ = some (.slice Ag1 g.length cg1) := hc8.at_ 7 _ rfl
          have f45 := hc8.fz 7
          have Hc9 : Hid (HC (w8.setCell ⟨bh, 7, none⟩ (.slice A8 (g.length + 1) c8)) bh (lvs (some adl) n c r Ao2 (u + 1) co2 A8 (g.length + 1) c8 Ab1 nb1 cb1 q)) := Lib.hid (hc8.set (j := 7) (.slice A8 (g.length + 1) c8) (by simp [lvs]))
          have Hw9 := Lib.hid (o8'.setFar (j := 7) (Nat.lt_succ_self bh) (.slice A8 (g.length + 1) c8))
          have Ho9 := Lib.hid ((own_grown (Ho2.out.below bal) hgA Hap2.out.symm).setFar (j := 7) (Nat.lt_succ_self bh) (.slice A8 (g.length + 1) c8))
          have Hb9 := Lib.hid ((own_grown (Hb2.out.below bal) hgA Ha3.out).setFar (j := 7) (Nat.lt_succ_self bh) (.slice A8 (g.length + 1) c8))
          have Hap9 := Lib.hid (apart_old Hap2.out hon5 (fun a ha => (Ho2.out.block_lt a ha).2.2.2))
          have Haq9 := Lib.hid Haq2.out
          have Har9 := Lib.hid (apart_old Ha3.out.symm hon5 (fun a ha => (Hb2.out.block_lt a ha).2.2.2)).symm
          have ht9 : TouchN w (w8.setCell ⟨bh, 7, none⟩ (.slice A8 (g.length + 1) c8)) bh [Ao, Ag] := (Ht2.out.trans (TouchN.of2 (As := [Ag1]) tA (.inl (by simp))) (fun A1 h => ⟨Ag, by simp, by rw [List.mem_singleton] at h; subst h; exact Hng.out⟩)).trans (TouchN.of2 (As := [Ag]) (Touch2.of_set w8 bh 7 (.slice A8 (g.length + 1) c8) none) (.inr rfl)) (fun A1 h => ⟨Ag, by simp, by rw [List.mem_singleton] at h; subst h; exact OldNew.refl _ _⟩)
          have Ht9 := Lib.hid ht9
          have Hng9 := Lib.hid hng8
          have Hsz9 : Hid (w.heap.size ≤ (w8.setCell ⟨bh, 7, none⟩ (.slice A8 (g.length + 1) c8)).heap.size) := Lib.hid ht9.size
          have Hbel9 : Hid (Below bh w (w8.setCell ⟨bh, 7, none⟩ (.slice A8 (g.length + 1) c8))) := Lib.hid (ht9.below (by omega) (Nat.le_refl _) (fun A1 hA a ha => by
            rcases List.mem_cons.1 hA with e | hA
            · subst e; have := HOF.out a ha; omega
            · rw [List.mem_singleton] at hA; subst hA; have := HGF.out a ha; omega))
          clear o8 hgA hbA hat bal hon5 tA hng8 o8' hc8 ht9 c7 f7 Hc2 Hw2 Ho2 Hb2 Hap2 Haq2 Ht2 e2 c6 g0 g1 g2 g3 f6
          obtain ⟨W9, hW9⟩ : ∃ W9, w8.setCell ⟨bh, 7, none⟩ (.slice A8 (g.length + 1) c8) = W9 := ⟨_, rfl⟩
          rw [hW9] at Hc9 Hw9 Ho9 Hb9 Ht9 Hsz9 Hbel9
          have HW9 := Lib.hid hW9
          clear hW9
          have Hcall : Hid (Calls Try.prog 55 #[.pointer (some ⟨bh, 0, none⟩)] W9 (LPost bh (some adl) n c r l (g ++ [u]) (u + 1) (fs l r m (g ++ [u]) (u + 1) q) Ao2 A8 W9)) := Lib.hid
            (Ih.out (some adl) Ao2 A8 Ab1 n c co2 c8 nb1 cb1 bh (u + 1) l r (g ++ [u]) q W9 (Reads.below HM0.out Hbel9.out (Nat.le_refl _)) hn HG.out Hal.out (by simp; omega) (by simp; omega) (fun y hy => by
              rw [List.mem_append] at hy
              rcases hy with hy | hy
              · have := Hgu.out y hy; omega
              · simp at hy; omega) (by simp; omega) hql Hqo.out (by rw [List.length_append]; exact Hc9.out) Ho9.out (by rw [List.length_append]; exact Hw9.out) Hb9.out Hap9.out Haq9.out Har9.out)
          rw [← HN.out] at Hcall
          generalize fs l r (m + 1) g u s = q2 at *
          clear Hc9 Hw9 Ho9 Hb9 Hbel9
          go_wp2_with fail
          rw [HW9.out]
          clear e4 f45 HW9
          refine Hcall.out.mono ?_
          rintro e wa ⟨Aoa, coa, Aga, cga, Aba, nba, cba, rfl, hca, hoa, hwa, hba, hx1, hx2, hx3, hta, hnoa, hnga⟩
          obtain ⟨ada, hada⟩ : ∃ ada, Aoa = some ada := by
            cases Aoa with
            | none => have := hoa.none_n; omega
            | some a => exact ⟨a, rfl⟩
          subst hada
          obtain ⟨adg, hadg⟩ : ∃ adg, Aga = some adg := by
            cases Aga with
            | none => have := hwa.none_n; rw [List.length_append] at this; simp at this
            | some a => exact ⟨a, rfl⟩
          subst hadg
          have hwa2 : Own wa (bh + 1) 2 1 (some adg) (g.length + 1) cga ((ciN (g ++ [u])).map (Value.int .i64)) := by rw [List.length_append] at hwa; exact hwa
          have hca2 : HC wa bh (lvs (some adl) n c r (some ada) (u + 1) coa (some adg) (g.length + 1) cga Aba nba cba q2) := by rw [List.length_append] at hca; exact hca
          have hgo : u + 1 ≤ coa := hoa.cap
          have hgg : g.length + 1 ≤ cga := hwa2.cap
          have hb1 : (u : Int) ≤ (coa : Int) := by omega
          have hb2 : (g.length : Int) ≤ (cga : Int) := by omega
          have hb3 : (0 : Int) ≤ (u : Int) := by omega
          have hb4 : (0 : Int) ≤ (g.length : Int) := by omega
          have hob : Own wa (bh + 1) 36 3 (some ada) u coa ((onL l g u).flatMap RoomR.cells) := by
            have := hoa.headM (k := u) (by omega)
            rw [onL_new, List.flatMap_append, List.take_append_of_le_length (by rw [flat_len _ 3 RoomR.clen, onL_len]; exact Nat.le_refl _), List.take_of_length_le (by rw [flat_len _ 3 RoomR.clen, onL_len]; exact Nat.le_refl _)] at this
            exact this
          have hwb : Own wa (bh + 1) 2 1 (some adg) g.length cga ((ciN g).map (Value.int .i64)) := by
            have := hwa2.headM (k := g.length) (by omega)
            rw [Nat.mul_one, ← List.map_take, show (ciN (g ++ [u])).take g.length = ciN g by rw [show ciN (g ++ [u]) = ciN g ++ [(u : Int)] by simp [ciN], List.take_append_of_le_length (by rw [ciN_len]; exact Nat.le_refl _), List.take_of_length_le (by rw [ciN_len]; exact Nat.le_refl _)]] at this
            exact this
          have hid2 : ∀ A1 ∈ [Ao, Ag], ∃ A ∈ [Ao, Ag], OldNew w A A1 := fun A1 h => ⟨A1, h, OldNew.refl _ _⟩
          have HF : Hid (∀ d, LPost bh (some adl) n c r l g u q2 Ao Ag w (.returned (.tuple #[])) (((wa.setCell ⟨bh, 6, none⟩ (.slice (some ada) u coa)).setCell ⟨bh, 7, none⟩ (.slice (some adg) g.length cga)).drewN d)) := Lib.hid (fun d => by
            refine ⟨some ada, coa, some adg, cga, Aba, nba, cba, rfl, ((hca2.set (j := 6) (.slice (some ada) u coa) (by simp [lvs])).set (j := 7) (.slice (some adg) g.length cga) (by simp [lvs])).drewN d, own_drewN ((hob.setFar (Nat.lt_succ_self _) _).setFar (Nat.lt_succ_self _) _) d, own_drewN ((hwb.setFar (Nat.lt_succ_self _) _).setFar (Nat.lt_succ_self _) _) d,
              own_drewN ((hba.setFar (Nat.lt_succ_self _) _).setFar (Nat.lt_succ_self _) _) d, hx1, hx2, hx3, ?_, Hno2.out.trans hnoa (by have := Hsz9.out; omega), Hng9.out.trans hnga (by have := Hsz9.out; omega)⟩
            have t1 : TouchN w wa bh [Ao, Ag] := Ht9.out.trans hta (fun A1 h => by
              rcases List.mem_cons.1 h with e | h
              · subst e; exact ⟨Ao, by simp, Hno2.out⟩
              · rw [List.mem_singleton] at h; subst h; exact ⟨Ag, by simp, Hng9.out⟩)
            exact ((t1.trans (TouchN.of2 (As := [Ao, Ag]) (Touch2.of_set wa bh 6 _ none) (.inr rfl)) hid2).trans (TouchN.of2 (As := [Ao, Ag]) (Touch2.of_set _ bh 7 _ none) (.inr rfl)) hid2).trans (TouchN.of2 (As := [Ao, Ag]) (Touch2.of_below bh none (below_drewN (Below.refl _ _) d)) (.inr rfl)) hid2)
          have e6 : wa.cell? ⟨bh, 6, none⟩ = some (.slice (some ada) (u + 1) coa) := hca2.at_ 6 _ rfl
          have e7 : wa.cell? ⟨bh, 7, none⟩ = some (.slice (some adg) (g.length + 1) cga) := hca2.at_ 7 _ rfl
          have f6 := hca2.fz 6
          have f7 := hca2.fz 7
          have hlta := hca2.lt
          clear hca hoa hwa hba hx1 hx2 hx3 hta hnoa hnga hwa2 hca2 hob hwb hid2
          go_wp2_with fail
          go_region
          all_goals
            go_wp2_with fail
            exact bodyPost_ret (v := .tuple #[]) (by simp [results, Try.results55, go_sem]) rfl (HF.out 1)
      · have hke : ((k : Int) == (u : Int)) = false := by rw [beq_eq_false_iff_ne]; omega
        have hke2 : decide (k = u) = false := decide_eq_false hku
        have hku2 : k < u := by omega
        have e2 : wr.cell? ⟨bh, 2, none⟩ = some (.slice A n c) := Hc1.out.at_ 2 _ rfl
        obtain ⟨adl, rfl, hbl, g0, g1, g2, g3⟩ := GroupR.rd (Reads.below HM0.out Hbel.out (Nat.le_refl _)) hgn2
        have hgx := HG.out g.length (by rw [HL.out]; exact hgn2)
        have hgi0 : (0 : Int) ≤ (g.length : Int) := by omega
        have hgi1 : (g.length : Int) < (n : Int) := by omega
        obtain ⟨ado, rfl, hblo, p0, p1, p2⟩ := RoomR.rd Ho1.out.reads hku2
        rw [onL_at _ _ _ _ hku2] at p0 p1 p2
        have hxb := rideR_bd (l := l) HG.out (g := g) (by rw [HL.out]; exact hgl) (by rw [HL.out]; exact hn) k
        have Hnext := Lib.hid (rideR_next l g k)
        have Hfits := Lib.hid (rideR_fits l r g k)
        have Hset := Lib.hid (onL_set l g u k hku2)
        have Hback := Lib.hid (onL_back l g u k hku2)
        obtain ⟨ob, oo, osp⟩ := ado
        obtain ⟨hoo, hosp, hob1, hob2⟩ := Ho1.out.block_lt _ rfl
        simp only at hoo hosp hob1 hob2 hblo
        subst hoo
        subst hosp
        simp only [Addr.add_lit, Nat.zero_add] at p0 p1 p2
        rw [show kiloG (GroupR.at_ l g.length) = 75 * (GroupR.at_ l g.length).People + 15 * (GroupR.at_ l g.length).Bikes + (GroupR.at_ l g.length).Kilos from rfl] at Hnext
        generalize GroupR.at_ l g.length = x at *
        generalize hrx : rideR l g k = rx at *
        generalize rideR l (g ++ [k]) k = ry at *
        have hry := Hnext.out
        subst hry
        have hbad : adl.block < wr.heap.size := by omega
        have hk3 : (k : Int) < (u : Int) := by omega
        obtain ⟨bx, hbx⟩ : ∃ bx, bx = wr.heap.size := ⟨_, rfl⟩
        obtain ⟨Wb, hWb⟩ : ∃ Wb, wr.alloc (.cells #[.int .i64 rx.People, .int .i64 rx.Bikes, .int .i64 rx.Kilos] 36) = Wb := ⟨_, rfl⟩
        have bWb : Below wr.heap.size wr Wb := by rw [← hWb]; exact (Below.refl _ _).alloc (Nat.le_refl _) _
        have hcb : HC Wb wr.heap.size [.int .i64 rx.People, .int .i64 rx.Bikes, .int .i64 rx.Kilos] := by rw [← hWb]; exact ⟨fun j u hu => by simpa using hu, fun j => by simp, by simp⟩
        have HWb := Lib.hid hWb
        have BWb := Lib.hid bWb
        have Hcb := Lib.hid hcb
        have hszb : wr.heap.size < Wb.heap.size := hcb.lt
        have Hrx := Lib.hid hrx
        clear hWb bWb hcb hrx hbx bx Hnext
        go_wp2_with fail
        rw [HWb.out]
        have x0 : Wb.cell? ⟨wr.heap.size, 0, none⟩ = some (.int .i64 rx.People) := Hcb.out.at_ 0 _ rfl
        have x1 : Wb.cell? ⟨wr.heap.size, 1, none⟩ = some (.int .i64 rx.Bikes) := Hcb.out.at_ 1 _ rfl
        have x2 : Wb.cell? ⟨wr.heap.size, 2, none⟩ = some (.int .i64 rx.Kilos) := Hcb.out.at_ 2 _ rfl
        have y2 : Wb.cell? ⟨bh, 2, none⟩ = some (.slice (some adl) n c) := (BWb.out.cell hlt1).trans e2
        have k0 : Wb.cell? (adl.add (g.length * 4)) = some (.string x.Id) := (BWb.out.cell (by rw [block_of_add]; exact hbad)).trans g0
        have k1 : Wb.cell? ⟨(adl.add (g.length * 4)).block, (adl.add (g.length * 4)).off + 1, none⟩ = some (.int .i64 x.People) := (BWb.out.cell (by show (adl.add (g.length * 4)).block < _; rw [block_of_add]; exact hbad)).trans g1
        have k2 : Wb.cell? ⟨(adl.add (g.length * 4)).block, (adl.add (g.length * 4)).off + 2, none⟩ = some (.int .i64 x.Bikes) := (BWb.out.cell (by show (adl.add (g.length * 4)).block < _; rw [block_of_add]; exact hbad)).trans g2
        have k3 : Wb.cell? ⟨(adl.add (g.length * 4)).block, (adl.add (g.length * 4)).off + 3, none⟩ = some (.int .i64 x.Kilos) := (BWb.out.cell (by show (adl.add (g.length * 4)).block < _; rw [block_of_add]; exact hbad)).trans g3
        have hbad2 : adl.block < Wb.heap.size := by omega
        have hltb : bh < Wb.heap.size := by omega
        clear e2 g0 g1 g2 g3 c6 hk2
        go_cut [5] (fun v5 wx => ∃ nx : Nat, v5 = .pointer (some ⟨nx, 0, none⟩) ∧ Wb.heap.size ≤ nx ∧ HC wx nx [.int .i64 (rx.People + x.People), .int .i64 (rx.Bikes + x.Bikes), .int .i64 (rx.Kilos + (75 * x.People + 15 * x.Bikes + x.Kilos))] ∧ Below Wb.heap.size Wb wx)
        case first =>
          have hD : Below Wb.heap.size Wb Wb.drew := (Below.refl _ _).drew
          have hE : ∀ o, Below Wb.heap.size Wb (Wb.alloc o).drew := fun o => ((Below.refl _ _).alloc (Nat.le_refl _) _).drew
          have HKS : Hid (∀ w' : World, Below Wb.heap.size Wb w' → (w'.cell? ⟨bh, 2, none⟩ = some (.slice (some adl) n c) ∧ w'.cell? ⟨wr.heap.size, 0, none⟩ = some (.int .i64 rx.People) ∧ w'.cell? ⟨wr.heap.size, 1, none⟩ = some (.int .i64 rx.Bikes) ∧ w'.cell? ⟨wr.heap.size, 2, none⟩ = some (.int .i64 rx.Kilos) ∧
              w'.cell? (adl.add (g.length * 4)) = some (.string x.Id) ∧ w'.cell? ⟨(adl.add (g.length * 4)).block, (adl.add (g.length * 4)).off + 1, none⟩ = some (.int .i64 x.People) ∧ w'.cell? ⟨(adl.add (g.length * 4)).block, (adl.add (g.length * 4)).off + 2, none⟩ = some (.int .i64 x.Bikes) ∧ w'.cell? ⟨(adl.add (g.length * 4)).block, (adl.add (g.length * 4)).off + 3, none⟩ = some (.int .i64 x.Kilos) ∧ Below Wb.heap.size Wb w')) :=
            Lib.hid (fun w' hB' => ⟨(hB'.cell hltb).trans y2, (hB'.cell hszb).trans x0, (hB'.cell hszb).trans x1, (hB'.cell hszb).trans x2, (hB'.cell (by rw [block_of_add]; exact hbad2)).trans k0, (hB'.cell (by show (adl.add (g.length * 4)).block < _; rw [block_of_add]; exact hbad2)).trans k1, (hB'.cell (by show (adl.add (g.length * 4)).block < _; rw [block_of_add]; exact hbad2)).trans k2, (hB'.cell (by show (adl.add (g.length * 4)).block < _; rw [block_of_add]; exact hbad2)).trans k3, hB'⟩)
          go_region_held3 (fun w' => w'.cell? ⟨bh, 2, none⟩ = some (.slice (some adl) n c) ∧ w'.cell? ⟨wr.heap.size, 0, none⟩ = some (.int .i64 rx.People) ∧ w'.cell? ⟨wr.heap.size, 1, none⟩ = some (.int .i64 rx.Bikes) ∧ w'.cell? ⟨wr.heap.size, 2, none⟩ = some (.int .i64 rx.Kilos) ∧
              w'.cell? (adl.add (g.length * 4)) = some (.string x.Id) ∧ w'.cell? ⟨(adl.add (g.length * 4)).block, (adl.add (g.length * 4)).off + 1, none⟩ = some (.int .i64 x.People) ∧ w'.cell? ⟨(adl.add (g.length * 4)).block, (adl.add (g.length * 4)).off + 2, none⟩ = some (.int .i64 x.Bikes) ∧ w'.cell? ⟨(adl.add (g.length * 4)).block, (adl.add (g.length * 4)).off + 3, none⟩ = some (.int .i64 x.Kilos) ∧ Below Wb.heap.size Wb w')
            ((with_reducible refine HKS.out _ ?_; (first | with_reducible exact hD | with_reducible exact hE _ | with_reducible exact hb3 | with_reducible exact hb3.alloc hb3.size _ | with_reducible exact ((hb3.setCell hnx _).setCell hnx _).setCell hnx _ | with_reducible exact hb2 | with_reducible exact hb2.alloc hb2.size _ | with_reducible exact (hb2.alloc hb2.size _).drew)))
            ((first
              | (go_at_call 86; refine (need_any hgx.1 hgx.2.1 hgx.2.2).mono ?_; rintro e w2 ⟨rfl, b2⟩; go_split_ands; have hbS : Below Wb.heap.size Wb _ := (by with_reducible assumption); have hb2 := hbS.trans (b2.mono hbS.size); clear hbS; try (have hy2 : HC w2 Wb.heap.size [.int .i64 0, .int .i64 0, .int .i64 0] := HC.below (w := (Wb.alloc (.cells #[.int .i64 0, .int .i64 0, .int .i64 0] 36)).drew) ⟨fun j u hu => by simpa using hu, fun j => by simp, by simp⟩ b2 (by simp)))
              | (go_at_call 85; refine (plus_any (by omega) (by omega) (by omega) (by omega) (by omega) (by omega)).mono ?_; rintro e w3 ⟨rfl, b3⟩; go_split_ands; have hbS : Below Wb.heap.size Wb _ := (by with_reducible assumption); have hb3 := hbS.trans (b3.mono hbS.size); clear hbS; try (first
                  | (have hy3 : HC w3 Wb.heap.size [.int .i64 0, .int .i64 0, .int .i64 0] := hy2.below b3 hy2.lt; have hnx : Wb.heap.size ≤ Wb.heap.size := Nat.le_refl _; have z0 := hy3.at_ 0 _ rfl; have z1 := hy3.at_ 1 _ rfl; have z2 := hy3.at_ 2 _ rfl; have w0' := hy3.fz 0; have w1' := hy3.fz 1; have w2' := hy3.fz 2)
                  | (have hy3 : HC w3 w2.heap.size [.int .i64 0, .int .i64 0, .int .i64 0] := HC.below (w := w2.alloc (.cells #[.int .i64 0, .int .i64 0, .int .i64 0] 36)) ⟨fun j u hu => by simpa using hu, fun j => by simp, by simp⟩ b3 (by simp); have hnx : Wb.heap.size ≤ w2.heap.size := hb2.size; have z0 := hy3.at_ 0 _ rfl; have z1 := hy3.at_ 1 _ rfl; have z2 := hy3.at_ 2 _ rfl; have w0' := hy3.fz 0; have w1' := hy3.fz 1; have w2' := hy3.fz 2)))
              | fail))
          all_goals
            go_wp2_with fail
            go_meet
            first
              | exact ⟨_, rfl, hnx, ((hy3.set (j := 0) (.int .i64 (rx.People + x.People)) (by simp)).set (j := 1) (.int .i64 (rx.Bikes + x.Bikes)) (by simp)).set (j := 2) (.int .i64 (rx.Kilos + (75 * x.People + 15 * x.Bikes + x.Kilos))) (by simp), ((hb3.setCell hnx _).setCell hnx _).setCell hnx _⟩
              | exact ⟨_, rfl, hb3.size, ⟨fun j u hu => by simpa using hu, fun j => by simp, by simp⟩, hb3.alloc hb3.size _⟩
        case rest =>
          obtain ⟨nx, rfl, hnx, hn2, hbw⟩ := hcut
          have B2 := Lib.hid (BWb.out.trans (hbw.mono (show wr.heap.size ≤ Wb.heap.size by omega)))
          have Hn2 := Lib.hid hn2
          have Hcb2 := Lib.hid (Hcb.out.below hbw hszb)
          have Hc2 := Lib.hid (Hc1.out.below B2.out hlt1)
          have hsz2 := B2.out.size
          have hszw := hbw.size
          obtain ⟨fb, hfb⟩ : ∃ fb, fitsW l r (rideW g k ++ [g.length]) = fb := ⟨_, rfl⟩
          obtain ⟨aP, haP⟩ : ∃ y, rx.People + x.People = y := ⟨_, rfl⟩
          obtain ⟨aB, haB⟩ : ∃ y, rx.Bikes + x.Bikes = y := ⟨_, rfl⟩
          obtain ⟨aK, haK⟩ : ∃ y, rx.Kilos + (75 * x.People + 15 * x.Bikes + x.Kilos) = y := ⟨_, rfl⟩
          rw [haP, haB, haK] at Hn2 Hfits Hset
          have hfb2 : (decide (aP ≤ r.People) && (decide (aB ≤ r.Bikes) && decide (aK ≤ r.Kilos))) = fb := by rw [← hfb, Hfits.out]
          have Hfb := Lib.hid hfb
          clear hfb haP haB haK hn2 hbw x0 x1 x2 y2 k0 k1 k2 k3 Hfits
          have y0 : wc.cell? ⟨nx, 0, none⟩ = some (.int .i64 aP) := Hn2.out.at_ 0 _ rfl
          have y1 : wc.cell? ⟨nx, 1, none⟩ = some (.int .i64 aB) := Hn2.out.at_ 1 _ rfl
          have y2 : wc.cell? ⟨nx, 2, none⟩ = some (.int .i64 aK) := Hn2.out.at_ 2 _ rfl
          have y3 : wc.cell? ⟨bh, 3, none⟩ = some (.int .i64 r.People) := Hc2.out.at_ 3 _ rfl
          have y4 : wc.cell? ⟨bh, 4, none⟩ = some (.int .i64 r.Bikes) := Hc2.out.at_ 4 _ rfl
          have y5 : wc.cell? ⟨bh, 5, none⟩ = some (.int .i64 r.Kilos) := Hc2.out.at_ 5 _ rfl
          go_wp2_with fail
          have q0 := cell_regrown y0
          have q1 := cell_regrown y1
          have q2 := cell_regrown y2
          have q3 := cell_regrown y3
          have q4 := cell_regrown y4
          have q5 := cell_regrown y5
          have cV : ∀ d os, Calls Try.prog 87 #[.agg #[.int .i64 aP, .int .i64 aB, .int .i64 aK], .agg #[.int .i64 r.People, .int .i64 r.Bikes, .int .i64 r.Kilos]] (Sort.grow (redrawn wc d) os) fun e w'' => e = .returned (.bool fb) ∧ ∃ p : Regrown, w'' = Sort.grow (redrawn wc p.d) p.os := fun d os => by
            have := fits_any (a1 := aP) (a2 := aB) (a3 := aK) (b1 := r.People) (b2 := r.Bikes) (b3 := r.Kilos) (w := Sort.grow (redrawn wc d) os)
            rw [hfb2] at this
            exact Calls.regrown_of this
          clear y0 y1 y2 y3 y4 y5 hfb2
          refine wp_region_quiet_below (by kernel_rfl) (by kernel_rfl) ?_
          repeat (go_big_quiet_step (exact cV _ _))
          refine wpQuiet_nil ?_
          intro _ hw'
          obtain ⟨⟨dq, osq⟩, hw''⟩ := hw'
          subst hw''
          have hbS := below_regrown wc dq osq
          have B4 := Lib.hid (B2.out.trans (hbS.mono hsz2))
          have Hn4 := Lib.hid (Hn2.out.below hbS Hn2.out.lt)
          have Hcb4 := Lib.hid (Hcb2.out.below hbS Hcb2.out.lt)
          clear cV q0 q1 q2 q3 q4 q5 hbS Hc2 Hn2 B2 hsz2 Hcb2 Hcb BWb HWb
          generalize Sort.grow (redrawn wc dq) osq = W4 at *
          have hs4 := B4.out.size
          have hn4 := Hn4.out.lt
          have hid2 : ∀ A1 ∈ [Ao, Ag], ∃ A ∈ [Ao, Ag], OldNew w A A1 := fun A1 h => ⟨A1, h, OldNew.refl _ _⟩
          have Hid2 := Lib.hid hid2
          clear hid2
          cases fb with
          | false =>
            have HN : Hid ((List.range (k + 1)).foldl (fstep l r (fs l r m) g u) ⟨s.left - 1, false, s.best⟩ = q) := Lib.hid (by rw [HS.out, Hfb.out]; rfl)
            go_wp2_with fail
            have hgk := Hgk.out
            have b4 := B4.out
            go_roundg (gk - 1)
            case rel => exact ⟨k + 1, some ⟨ob, 0, none⟩, co1, Ag1, cg1, Ab1, nb1, cb1, q, by omega, by omega, by go_num, HN.out, hql, Hqo.out, Hc1.out.below b4 hlt1, Ho1.out.below b4, Hw1.out.below b4, Hb1.out.below b4, Ha1.out, Ha2.out, Ha3.out, Ht1.out.trans (TouchN.of2 (As := [Ao, Ag]) (Touch2.of_below bh none b4) (.inr rfl)) Hid2.out, Hno.out, Hng.out⟩
            case measure => omega
          | true =>
            have HN : Hid ((List.range (k + 1)).foldl (fstep l r (fs l r m) g u) ⟨s.left - 1, false, s.best⟩ = fs l r m (g ++ [k]) u q) := Lib.hid (by rw [HS.out, Hfb.out, if_pos rfl, show max u (k + 1) = u by omega])
            have Hc4 := Lib.hid (Hc1.out.below B4.out hlt1)
            have Ho4 := Lib.hid (Ho1.out.below B4.out)
            have y6 : W4.cell? ⟨bh, 6, none⟩ = some (.slice (some ⟨ob, 0, none⟩) u co1) := Hc4.out.at_ 6 _ rfl
            have y0 : W4.cell? ⟨nx, 0, none⟩ = some (.int .i64 aP) := Hn4.out.at_ 0 _ rfl
            have y1 : W4.cell? ⟨nx, 1, none⟩ = some (.int .i64 aB) := Hn4.out.at_ 1 _ rfl
            have y2 : W4.cell? ⟨nx, 2, none⟩ = some (.int .i64 aK) := Hn4.out.at_ 2 _ rfl
            have hobl : ob < wr.heap.size := hob2
            have o0 : W4.cell? ⟨ob, k * 3, none⟩ = some (.int .i64 rx.People) := (B4.out.cell (p := ⟨ob, k * 3, none⟩) hobl).trans p0
            have o1 : W4.cell? ⟨ob, k * 3 + 1, none⟩ = some (.int .i64 rx.Bikes) := (B4.out.cell (p := ⟨ob, k * 3 + 1, none⟩) hobl).trans p1
            have o2 : W4.cell? ⟨ob, k * 3 + 2, none⟩ = some (.int .i64 rx.Kilos) := (B4.out.cell (p := ⟨ob, k * 3 + 2, none⟩) hobl).trans p2
            have z0 := Ho4.out.frozenAt (j := k * 3)
            have z1 := Ho4.out.frozenAt (j := k * 3 + 1)
            have z2 := Ho4.out.frozenAt (j := k * 3 + 2)
            go_wp2_with fail
            go_still_tail 7, (by kernel_rfl)
            change wpList _ _ _ _ _ (W4.drewN 1)
            have Hc5 := Lib.hid (Hc4.out.drewN 1)
            have Ho5 := Lib.hid (own_drewN Ho4.out 1)
            have Hw5 := Lib.hid (own_drewN (Hw1.out.below B4.out) 1)
            have Hb5 := Lib.hid (own_drewN (Hb1.out.below B4.out) 1)
            have Hcb5 := Lib.hid (Hcb4.out.drewN 1)
            have Hz5 : Hid ((W4.drewN 1).heap.size = W4.heap.size) := Lib.hid rfl
            have Ht5 := Lib.hid (Ht1.out.trans (TouchN.of2 (As := [Ao, Ag]) (Touch2.of_below bh none (below_drewN B4.out 1)) (.inr rfl)) Hid2.out)
            have o0 : (W4.drewN 1).cell? ⟨ob, k * 3, none⟩ = some (.int .i64 rx.People) := o0
            have o1 : (W4.drewN 1).cell? ⟨ob, k * 3 + 1, none⟩ = some (.int .i64 rx.Bikes) := o1
            have o2 : (W4.drewN 1).cell? ⟨ob, k * 3 + 2, none⟩ = some (.int .i64 rx.Kilos) := o2
            have z0 : (W4.drewN 1).frozen? ⟨ob, k * 3, none⟩ = false := z0
            have z1 : (W4.drewN 1).frozen? ⟨ob, k * 3 + 1, none⟩ = false := z1
            have z2 : (W4.drewN 1).frozen? ⟨ob, k * 3 + 2, none⟩ = false := z2
            clear y0 y1 y2 y6 Hc4 Ho4
            generalize W4.drewN 1 = V4 at *
            have HV : Hid (∃ V5, ((V4.setCell ⟨ob, k * 3, none⟩ (.int .i64 aP)).setCell ⟨ob, k * 3 + 1, none⟩ (.int .i64 aB)).setCell ⟨ob, k * 3 + 2, none⟩ (.int .i64 aK) = V5 ∧ HC V5 bh (lvs (some adl) n c r (some ⟨ob, 0, none⟩) u co1 Ag1 g.length cg1 Ab1 nb1 cb1 q) ∧ Own V5 (bh + 1) 36 3 (some ⟨ob, 0, none⟩) u co1 ((onL l (g ++ [k]) u).flatMap RoomR.cells) ∧
                Own V5 (bh + 1) 2 1 Ag1 g.length cg1 ((ciN g).map (Value.int .i64)) ∧ Own V5 (bh + 1) 2 1 Ab1 nb1 cb1 ((ciN (fbL q)).map (Value.int .i64)) ∧ HC V5 wr.heap.size [.int .i64 rx.People, .int .i64 rx.Bikes, .int .i64 rx.Kilos] ∧ TouchN w V5 bh [Ao, Ag] ∧ V5.heap.size = V4.heap.size) := Lib.hid (by
              refine ⟨_, rfl, ?_⟩
              have hnb : bh ≠ ob := by omega
              have hnw : wr.heap.size ≠ ob := by omega
              have hset := flat_set RoomR.cells 3 RoomR.clen (onL l g u) k ⟨aP, aB, aK⟩ (by rw [onL_len]; exact hku2)
              rw [Hset.out] at hset
              have hno1 : ∀ A1 ∈ [some (⟨ob, 0, none⟩ : Addr)], ∃ A ∈ [Ao, Ag], OldNew w A A1 := fun A1 h => ⟨Ao, by simp, by rw [List.mem_singleton] at h; subst h; exact Hno.out⟩
              refine ⟨?_, ?_, ?_, ?_, ?_, ?_, by simp [World.setCell]⟩
              · exact ((Hc5.out.touch2 (Touch2.of_set _ ob _ _ none) hnb (fun a e => by cases e)).touch2 (Touch2.of_set _ ob _ _ none) hnb (fun a e => by cases e)).touch2 (Touch2.of_set _ ob _ _ none) hnb (fun a e => by cases e)
              · rw [← hset]
                exact (((Ho5.out.stored (.int .i64 aP)).1.stored (.int .i64 aB)).1.stored (.int .i64 aK)).1
              · exact ((Hw5.out.touch (touch_setM _ ob _ _) Ha1.out).touch (touch_setM _ ob _ _) Ha1.out).touch (touch_setM _ ob _ _) Ha1.out
              · exact ((Hb5.out.touch (touch_setM _ ob _ _) Ha2.out).touch (touch_setM _ ob _ _) Ha2.out).touch (touch_setM _ ob _ _) Ha2.out
              · exact ((Hcb5.out.touch2 (Touch2.of_set _ ob _ _ none) hnw (fun a e => by cases e)).touch2 (Touch2.of_set _ ob _ _ none) hnw (fun a e => by cases e)).touch2 (Touch2.of_set _ ob _ _ none) hnw (fun a e => by cases e)
              · exact ((Ht5.out.trans (TouchN.of_setA _ bh ob _ _) hno1).trans (TouchN.of_setA _ bh ob _ _) hno1).trans (TouchN.of_setA _ bh ob _ _) hno1)
            obtain ⟨V5, hV5, hc5, ho5, hw5, hb5, hcb5, ht5, hzv⟩ := HV.out
            subst hV5
            have Hc6 := Lib.hid hc5
            have Ho6 := Lib.hid ho5
            have Hw6 := Lib.hid hw5
            have Hb6 := Lib.hid hb5
            have Hcb6 := Lib.hid hcb5
            have Ht6 := Lib.hid ht5
            have Hzv := Lib.hid hzv
            have v7 : V4.cell? ⟨bh, 7, none⟩ = some (.slice Ag1 g.length cg1) := Hc5.out.at_ 7 _ rfl
            have d7 : (((V4.setCell ⟨ob, k * 3, none⟩ (.int .i64 aP)).setCell ⟨ob, k * 3 + 1, none⟩ (.int .i64 aB)).setCell ⟨ob, k * 3 + 2, none⟩ (.int .i64 aK)).cell? ⟨bh, 7, none⟩ = some (.slice Ag1 g.length cg1) := hc5.at_ 7 _ rfl
            have g7 := hc5.fz 7
            have hltV := hc5.lt
            have HNW : Hid (∀ j u', [Value.int .i64 (k : Int)][j]? = some u' → ((((V4.setCell ⟨ob, k * 3, none⟩ (.int .i64 aP)).setCell ⟨ob, k * 3 + 1, none⟩ (.int .i64 aB)).setCell ⟨ob, k * 3 + 2, none⟩ (.int .i64 aK)).alloc (.cells #[.int .i64 (k : Int)] 2)).cell? ((⟨V4.heap.size, 0, none⟩ : Addr).add j) = some u') := Lib.hid (fun j u' hu => by
              have := cell_one_new (((V4.setCell ⟨ob, k * 3, none⟩ (.int .i64 aP)).setCell ⟨ob, k * 3 + 1, none⟩ (.int .i64 aB)).setCell ⟨ob, k * 3 + 2, none⟩ (.int .i64 aK)) (.int .i64 (k : Int)) 2 j u' hu
              rw [Hzv.out] at this; exact this)
            have HBW : Hid (bh + 1 ≤ ((((V4.setCell ⟨ob, k * 3, none⟩ (.int .i64 aP)).setCell ⟨ob, k * 3 + 1, none⟩ (.int .i64 aB)).setCell ⟨ob, k * 3 + 2, none⟩ (.int .i64 aK)).alloc (.cells #[.int .i64 (k : Int)] 2)).heap.size) := Lib.hid (by
              have h2 : ((((V4.setCell ⟨ob, k * 3, none⟩ (.int .i64 aP)).setCell ⟨ob, k * 3 + 1, none⟩ (.int .i64 aB)).setCell ⟨ob, k * 3 + 2, none⟩ (.int .i64 aK)).alloc (.cells #[.int .i64 (k : Int)] 2)).heap.size = (((V4.setCell ⟨ob, k * 3, none⟩ (.int .i64 aP)).setCell ⟨ob, k * 3 + 1, none⟩ (.int .i64 aB)).setCell ⟨ob, k * 3 + 2, none⟩ (.int .i64 aK)).heap.size + 1 := by simp
              rw [h2]; omega)
            clear hc5 ho5 hw5 hb5 hcb5 ht5 hzv Hc5 Ho5 Hw5 Hb5 Hcb5 Ht5 HV hltV
            have hltV4 : bh < V4.heap.size := by have := Hz5.out; omega
            go_wp2_with (at_builtin; refine wpList_app rfl _ _ 22 rfl 2 i0 _ 1 8 Try.underlying22 hi1 hz0 hz1 hz2 rfl (by omega) (by omega) (bh + 1) _ _ _ _ rfl (Hw6.out.alloc _) ⟨V4.heap.size, 0, none⟩ 1 1 [.int .i64 (k : Int)] rfl rfl HNW.out (by simp [Value.oneCell']) (by omega) HBW.out ?_)
            intro A8 c8 w8 o8 hgA hbA hat
            clear HNW HBW v7 d7 g7 o0 o1 o2 z0 z1 z2
            generalize (((V4.setCell ⟨ob, k * 3, none⟩ (.int .i64 aP)).setCell ⟨ob, k * 3 + 1, none⟩ (.int .i64 aB)).setCell ⟨ob, k * 3 + 2, none⟩ (.int .i64 aK)) = W6 at *
            have hzv := Hzv.out
            have hz5 := Hz5.out
            have bal : Below W6.heap.size W6 (W6.alloc (.cells #[.int .i64 (k : Int)] 2)) := (Below.refl _ _).alloc (Nat.le_refl _) _
            have hon5 : OldNew W6 Ag1 A8 := by
              intro a ha
              subst ha
              rcases hat with e | e
              · cases Ag1 with
                | none => cases e
                | some a0 => exact .inl ⟨a0, rfl, by simpa using e.symm⟩
              · right
                have h1 : a.block = V4.heap.size + 1 := by simpa using e
                omega
            have tA : Touch2 W6 w8 bh Ag1 := (Touch2.of_below bh Ag1 bal).trans (Touch2.of_grown hgA) (OldNew.refl _ _)
            have hlt6 := Hc6.out.lt
            have hng8 : OldNew w Ag A8 := Hng.out.trans hon5 (by have := Ht6.out.size; omega)
            have o8' : Own w8 (bh + 1) 2 1 A8 (g.length + 1) c8 ((ciN (g ++ [k])).map (Value.int .i64)) := by
              rw [show ciN (g ++ [k]) = ciN g ++ [(k : Int)] by simp [ciN], List.map_append]; exact o8
            have hc8 := (Hc6.out.below bal hlt6).below hbA (Nat.lt_succ_self bh)
            have hA1 : ∀ a, Ag1 = some a → a.block ≠ wr.heap.size := fun a ha => by have := (Hw1.out.block_lt a ha).2.2.2; omega
            have Hcb8 := Lib.hid (Hcb6.out.touch2 tA (by omega) hA1)
            have e4 : w8.cell? ⟨bh, 7, none⟩ = some (.slice Ag1 g.length cg1) := hc8.at_ 7 _ rfl
            have f45 := hc8.fz 7
            have Hc9 : Hid (HC (w8.setCell ⟨bh, 7, none⟩ (.slice A8 (g.length + 1) c8)) bh (lvs (some adl) n c r (some ⟨ob, 0, none⟩) u co1 A8 (g.length + 1) c8 Ab1 nb1 cb1 q)) := Lib.hid (hc8.set (j := 7) (.slice A8 (g.length + 1) c8) (by simp [lvs]))
            have Hw9 := Lib.hid (o8'.setFar (j := 7) (Nat.lt_succ_self bh) (.slice A8 (g.length + 1) c8))
            have Ho9 := Lib.hid ((own_grown (Ho6.out.below bal) hgA Ha1.out.symm).setFar (j := 7) (Nat.lt_succ_self bh) (.slice A8 (g.length + 1) c8))
            have Hb9 := Lib.hid ((own_grown (Hb6.out.below bal) hgA Ha3.out).setFar (j := 7) (Nat.lt_succ_self bh) (.slice A8 (g.length + 1) c8))
            have Hap9 := Lib.hid (apart_old Ha1.out hon5 (fun a ha => (Ho6.out.block_lt a ha).2.2.2))
            have Har9 := Lib.hid (apart_old Ha3.out.symm hon5 (fun a ha => (Hb6.out.block_lt a ha).2.2.2)).symm
            have Hcb9 := Lib.hid (Hcb8.out.touch2 (Touch2.of_set w8 bh 7 (.slice A8 (g.length + 1) c8) none) (by omega) (fun a e => by cases e))
            have ht9 : TouchN w (w8.setCell ⟨bh, 7, none⟩ (.slice A8 (g.length + 1) c8)) bh [Ao, Ag] := (Ht6.out.trans (TouchN.of2 (As := [Ag1]) tA (.inl (by simp))) (fun A1 h => ⟨Ag, by simp, by rw [List.mem_singleton] at h; subst h; exact Hng.out⟩)).trans (TouchN.of2 (As := [Ag]) (Touch2.of_set w8 bh 7 (.slice A8 (g.length + 1) c8) none) (.inr rfl)) (fun A1 h => ⟨Ag, by simp, by rw [List.mem_singleton] at h; subst h; exact OldNew.refl _ _⟩)
            have Ht9 := Lib.hid ht9
            have Hng9 := Lib.hid hng8
            have Hsz9 : Hid (wr.heap.size < (w8.setCell ⟨bh, 7, none⟩ (.slice A8 (g.length + 1) c8)).heap.size) := Lib.hid (Hcb9.out.lt)
            have Hwsz : Hid (w.heap.size ≤ wr.heap.size) := Lib.hid hsz1
            have Hobl : Hid (ob < wr.heap.size) := Lib.hid hobl
            have HA8 : Hid (∀ a, A8 = some a → a.block ≠ wr.heap.size) := Lib.hid (fun a ha => by
              rcases hon5 a ha with ⟨a0, e1, e2⟩ | e
              · have := hA1 a0 e1; omega
              · omega)
            have Hbel9 : Hid (Below bh w (w8.setCell ⟨bh, 7, none⟩ (.slice A8 (g.length + 1) c8))) := Lib.hid (ht9.below (by omega) (Nat.le_refl _) (fun A1 hA a ha => by
              rcases List.mem_cons.1 hA with e | hA
              · subst e; have := HOF.out a ha; omega
              · rw [List.mem_singleton] at hA; subst hA; have := HGF.out a ha; omega))
            have Hql2 : Hid ((fs l r m (g ++ [k]) u q).left ≤ 20000) := Lib.hid (Nat.le_trans (fs_left _ _ _ _ _ _) hql)
            have Hqo2 : Hid (FOk n (fs l r m (g ++ [k]) u q)) := Lib.hid (by
              have h1 := HL.out
              have h2 := Hqo.out
              rw [← h1] at h2 ⊢
              exact fs_ok l r m (g ++ [k]) u q (by rw [List.length_append, h1]; exact hgn2) (by rw [List.length_append]; exact Nat.le_succ_of_le hug) h2)
            clear o8 hgA hbA hat bal hon5 tA hng8 o8' hc8 ht9 hA1 Hcb8 Hc6 Ho6 Hw6 Hb6 Hcb6 Ht6 hzv hz5 Hzv Hz5 hltV4
            obtain ⟨W9, hW9⟩ : ∃ W9, w8.setCell ⟨bh, 7, none⟩ (.slice A8 (g.length + 1) c8) = W9 := ⟨_, rfl⟩
            rw [hW9] at Hc9 Hw9 Ho9 Hb9 Ht9 Hsz9 Hbel9 Hcb9
            have HW9 := Lib.hid hW9
            clear hW9
            have Hcall : Hid (Calls Try.prog 55 #[.pointer (some ⟨bh, 0, none⟩)] W9 (LPost bh (some adl) n c r l (g ++ [k]) u (fs l r m (g ++ [k]) u q) (some ⟨ob, 0, none⟩) A8 W9)) := Lib.hid
              (Ih.out (some adl) (some ⟨ob, 0, none⟩) A8 Ab1 n c co1 c8 nb1 cb1 bh u l r (g ++ [k]) q W9 (Reads.below HM0.out Hbel9.out (Nat.le_refl _)) hn HG.out Hal.out (by simp; omega) (by simp; omega) (fun y hy => by
                rw [List.mem_append] at hy
                rcases hy with hy | hy
                · exact Hgu.out y hy
                · simp at hy; omega) (by simp; omega) hql Hqo.out (by rw [List.length_append]; exact Hc9.out) Ho9.out (by rw [List.length_append]; exact Hw9.out) Hb9.out Hap9.out Ha2.out Har9.out)
            generalize fs l r m (g ++ [k]) u q = q2 at *
            clear Hc9 Hw9 Ho9 Hb9 Hbel9
            go_wp2_with fail
            rw [HW9.out]
            clear e4 f45 HW9
            refine Hcall.out.mono ?_
            rintro e wa ⟨Aoa, coa, Aga, cga, Aba, nba, cba, rfl, hca, hoa, hwa, hba, hx1, hx2, hx3, hta, hnoa, hnga⟩
            obtain ⟨ada, hada⟩ : ∃ ada, Aoa = some ada := by
              cases Aoa with
              | none => have := hoa.none_n; omega
              | some a => exact ⟨a, rfl⟩
            subst hada
            obtain ⟨adg, hadg⟩ : ∃ adg, Aga = some adg := by
              cases Aga with
              | none => have := hwa.none_n; rw [List.length_append] at this; simp at this
              | some a => exact ⟨a, rfl⟩
            subst hadg
            obtain ⟨oa, oao, oas⟩ := ada
            obtain ⟨haa, hsp2, hoa1, hoa2⟩ := hoa.block_lt _ rfl
            simp only at haa hsp2 hoa1 hoa2
            subst haa
            subst hsp2
            have hwa2 : Own wa (bh + 1) 2 1 (some adg) (g.length + 1) cga ((ciN (g ++ [k])).map (Value.int .i64)) := by rw [List.length_append] at hwa; exact hwa
            have hca2 : HC wa bh (lvs (some adl) n c r (some ⟨oa, 0, none⟩) u coa (some adg) (g.length + 1) cga Aba nba cba q2) := by rw [List.length_append] at hca; exact hca
            have hcba : HC wa wr.heap.size [.int .i64 rx.People, .int .i64 rx.Bikes, .int .i64 rx.Kilos] := Hcb9.out.touchN hta (by omega) (fun A1 h a ha => by
              rcases List.mem_cons.1 h with e | h
              · subst e; injection ha with ha; subst ha; have := Hobl.out; show ob ≠ _; omega
              · rw [List.mem_singleton] at h; subst h; exact HA8.out a ha)
            have hoan : wr.heap.size ≠ oa := by
              rcases hnoa _ rfl with ⟨a0, e1, e2⟩ | e
              · injection e1 with e1; subst e1; have : ob = oa := e2; have := Hobl.out; omega
              · have := Hsz9.out; have : W9.heap.size ≤ oa := e; omega
            have hnba : bh ≠ oa := by omega
            have Hno3 : Hid (OldNew w Ao (some ⟨oa, 0, none⟩)) := Lib.hid (Hno.out.trans hnoa (by have := Hsz9.out; have := Hwsz.out; omega))
            have Hng3 : Hid (OldNew w Ag (some adg)) := Lib.hid (Hng9.out.trans hnga (by have := Hsz9.out; have := Hwsz.out; omega))
            have hgg : g.length + 1 ≤ cga := hwa2.cap
            have hb2 : (g.length : Int) ≤ (cga : Int) := by omega
            have hb4 : (0 : Int) ≤ (g.length : Int) := by omega
            have hwb : Own wa (bh + 1) 2 1 (some adg) g.length cga ((ciN g).map (Value.int .i64)) := by
              have := hwa2.headM (k := g.length) (by omega)
              rw [Nat.mul_one, ← List.map_take, show (ciN (g ++ [k])).take g.length = ciN g by rw [show ciN (g ++ [k]) = ciN g ++ [(k : Int)] by simp [ciN], List.take_append_of_le_length (by rw [ciN_len]; exact Nat.le_refl _), List.take_of_length_le (by rw [ciN_len]; exact Nat.le_refl _)]] at this
              exact this
            have HFl : Hid (∀ d, HC (((((wa.setCell ⟨oa, k * 3, none⟩ (.int .i64 rx.People)).setCell ⟨oa, k * 3 + 1, none⟩ (.int .i64 rx.Bikes)).setCell ⟨oa, k * 3 + 2, none⟩ (.int .i64 rx.Kilos)).setCell ⟨bh, 7, none⟩ (.slice (some adg) g.length cga)).drewN d) bh (lvs (some adl) n c r (some ⟨oa, 0, none⟩) u coa (some adg) g.length cga Aba nba cba q2) ∧
                Own (((((wa.setCell ⟨oa, k * 3, none⟩ (.int .i64 rx.People)).setCell ⟨oa, k * 3 + 1, none⟩ (.int .i64 rx.Bikes)).setCell ⟨oa, k * 3 + 2, none⟩ (.int .i64 rx.Kilos)).setCell ⟨bh, 7, none⟩ (.slice (some adg) g.length cga)).drewN d) (bh + 1) 36 3 (some ⟨oa, 0, none⟩) u coa ((onL l g u).flatMap RoomR.cells) ∧
                Own (((((wa.setCell ⟨oa, k * 3, none⟩ (.int .i64 rx.People)).setCell ⟨oa, k * 3 + 1, none⟩ (.int .i64 rx.Bikes)).setCell ⟨oa, k * 3 + 2, none⟩ (.int .i64 rx.Kilos)).setCell ⟨bh, 7, none⟩ (.slice (some adg) g.length cga)).drewN d) (bh + 1) 2 1 (some adg) g.length cga ((ciN g).map (Value.int .i64)) ∧
                Own (((((wa.setCell ⟨oa, k * 3, none⟩ (.int .i64 rx.People)).setCell ⟨oa, k * 3 + 1, none⟩ (.int .i64 rx.Bikes)).setCell ⟨oa, k * 3 + 2, none⟩ (.int .i64 rx.Kilos)).setCell ⟨bh, 7, none⟩ (.slice (some adg) g.length cga)).drewN d) (bh + 1) 2 1 Aba nba cba ((ciN (fbL q2)).map (Value.int .i64)) ∧
                Apart (some (⟨oa, 0, none⟩ : Addr)) (some adg) ∧ Apart (some (⟨oa, 0, none⟩ : Addr)) Aba ∧ Apart (some adg) Aba ∧
                TouchN w (((((wa.setCell ⟨oa, k * 3, none⟩ (.int .i64 rx.People)).setCell ⟨oa, k * 3 + 1, none⟩ (.int .i64 rx.Bikes)).setCell ⟨oa, k * 3 + 2, none⟩ (.int .i64 rx.Kilos)).setCell ⟨bh, 7, none⟩ (.slice (some adg) g.length cga)).drewN d) bh [Ao, Ag]) := Lib.hid (fun d => by
              have hset := flat_set RoomR.cells 3 RoomR.clen (onL l (g ++ [k]) u) k rx (by rw [onL_len]; exact hku2)
              rw [Hback.out] at hset
              have hno1 : ∀ A1 ∈ [some (⟨oa, 0, none⟩ : Addr)], ∃ A ∈ [Ao, Ag], OldNew w A A1 := fun A1 h => ⟨Ao, by simp, by rw [List.mem_singleton] at h; subst h; exact Hno3.out⟩
              refine ⟨?_, ?_, ?_, ?_, hx1, hx2, hx3, ?_⟩
              · exact ((((hca2.touch2 (Touch2.of_set _ oa _ _ none) hnba (fun a e => by cases e)).touch2 (Touch2.of_set _ oa _ _ none) hnba (fun a e => by cases e)).touch2 (Touch2.of_set _ oa _ _ none) hnba (fun a e => by cases e)).set (j := 7) (.slice (some adg) g.length cga) (by simp [lvs])).drewN d
              · rw [← hset]
                exact own_drewN ((((hoa.stored (.int .i64 rx.People)).1.stored (.int .i64 rx.Bikes)).1.stored (.int .i64 rx.Kilos)).1.setFar (Nat.lt_succ_self _) _) d
              · exact own_drewN ((((hwb.touch (touch_setM _ oa _ _) hx1).touch (touch_setM _ oa _ _) hx1).touch (touch_setM _ oa _ _) hx1).setFar (Nat.lt_succ_self _) _) d
              · exact own_drewN ((((hba.touch (touch_setM _ oa _ _) hx2).touch (touch_setM _ oa _ _) hx2).touch (touch_setM _ oa _ _) hx2).setFar (Nat.lt_succ_self _) _) d
              · have t1 : TouchN w wa bh [Ao, Ag] := Ht9.out.trans hta (fun A1 h => by
                  rcases List.mem_cons.1 h with e | h
                  · subst e; exact ⟨Ao, by simp, Hno.out⟩
                  · rw [List.mem_singleton] at h; subst h; exact ⟨Ag, by simp, Hng9.out⟩)
                exact (((((t1.trans (TouchN.of_setA _ bh oa _ _) hno1).trans (TouchN.of_setA _ bh oa _ _) hno1).trans (TouchN.of_setA _ bh oa _ _) hno1).trans (TouchN.of2 (As := [Ao, Ag]) (Touch2.of_set _ bh 7 _ none) (.inr rfl)) Hid2.out).trans (TouchN.of2 (As := [Ao, Ag]) (Touch2.of_below bh none (below_drewN (Below.refl _ _) d)) (.inr rfl)) Hid2.out))
            have e6 : wa.cell? ⟨bh, 6, none⟩ = some (.slice (some ⟨oa, 0, none⟩) u coa) := hca2.at_ 6 _ rfl
            have e7 : wa.cell? ⟨bh, 7, none⟩ = some (.slice (some adg) (g.length + 1) cga) := hca2.at_ 7 _ rfl
            have f7 := hca2.fz 7
            have x0 : wa.cell? ⟨wr.heap.size, 0, none⟩ = some (.int .i64 rx.People) := hcba.at_ 0 _ rfl
            have x1 : wa.cell? ⟨wr.heap.size, 1, none⟩ = some (.int .i64 rx.Bikes) := hcba.at_ 1 _ rfl
            have x2 : wa.cell? ⟨wr.heap.size, 2, none⟩ = some (.int .i64 rx.Kilos) := hcba.at_ 2 _ rfl
            have z0 := hoa.frozenAt (j := k * 3)
            have z1 := hoa.frozenAt (j := k * 3 + 1)
            have z2 := hoa.frozenAt (j := k * 3 + 2)
            have hlta := hca2.lt
            obtain ⟨ado2, hado2, _, o0, o1, o2⟩ := RoomR.rd hoa.reads hku2
            injection hado2 with hado2
            subst hado2
            simp only [Addr.add_lit, Nat.zero_add] at o0 o1 o2
            generalize RoomR.at_ (onL l (g ++ [k]) u) k = ro at o0 o1 o2
            have hw3 : HC (((wa.setCell ⟨oa, k * 3, none⟩ (.int .i64 rx.People)).setCell ⟨oa, k * 3 + 1, none⟩ (.int .i64 rx.Bikes)).setCell ⟨oa, k * 3 + 2, none⟩ (.int .i64 rx.Kilos)) bh (lvs (some adl) n c r (some ⟨oa, 0, none⟩) u coa (some adg) (g.length + 1) cga Aba nba cba q2) :=
              ((hca2.touch2 (Touch2.of_set _ oa _ _ none) hnba (fun a e => by cases e)).touch2 (Touch2.of_set _ oa _ _ none) hnba (fun a e => by cases e)).touch2 (Touch2.of_set _ oa _ _ none) hnba (fun a e => by cases e)
            have d7 : (((wa.setCell ⟨oa, k * 3, none⟩ (.int .i64 rx.People)).setCell ⟨oa, k * 3 + 1, none⟩ (.int .i64 rx.Bikes)).setCell ⟨oa, k * 3 + 2, none⟩ (.int .i64 rx.Kilos)).cell? ⟨bh, 7, none⟩ = some (.slice (some adg) (g.length + 1) cga) := hw3.at_ 7 _ rfl
            have q7 := hw3.fz 7
            clear hca hoa hwa hba hx1 hx2 hx3 hta hnoa hnga hwa2 hca2 hwb hcba Hcb9 Ht9 Hng9 Hap9 Har9 HA8 Hcall Hback Hset hw3
            go_wp2_with fail
            go_region
            all_goals
              have HFd := HFl.out 1
              obtain ⟨r1, r2, r3, r4, r5, r6, r7, r8⟩ := HFd
              clear HFl
              go_wp2_with fail
              have hgk := Hgk.out
              go_roundg (gk - 1)
              case rel => exact ⟨k + 1, some ⟨oa, 0, none⟩, coa, some adg, cga, Aba, nba, cba, q2, by omega, by omega, by go_num, HN.out, Hql2.out, Hqo2.out, r1, r2, r3, r4, r5, r6, r7, r8, Hno3.out, Hng3.out⟩
              case measure => omega
end Go.Proofs.Ytmnpehajojdhcaa
