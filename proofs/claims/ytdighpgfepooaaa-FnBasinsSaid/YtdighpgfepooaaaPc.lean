/- Ballast: BalanceGroups: the program's search, all of it. -/
import Derived.Test.YtdighpgfepooaaaPb
namespace Go.Proofs.Ytdighpgfepooaaa
open Go.RowKit
set_option maxRecDepth 100000
set_option linter.unusedVariables false
set_option linter.unusedSimpArgs false

theorem OldNew.weaken {w w0 : World} {A A1 : Option Addr} (h : OldNew w0 A A1) (hs : w.heap.size ≤ w0.heap.size) : OldNew w A A1 := fun a ha => (h a ha).imp id (fun x => Nat.le_trans hs x)
theorem touch2_from {w w0 w1 : World} {b : Nat} {A : Option Addr} (b0 : Below w.heap.size w w0) (h : Touch2 w0 w1 b A) : Touch2 w w1 b A := (Touch2.of_below b A b0).trans h (OldNew.refl _ _)
set_option maxHeartbeats 4000000 in
theorem search_any : ∀ (m : Nat) (A Ag Ab : Option Addr) (n c cg nb cb bh : Nat) (room a b : Int) (l g : List Int) (s : BS) (w : World) (h : Ints w bh A n l) (hn : n ≤ 10) (hx : ∀ k, k < n → 0 ≤ nth l k ∧ nth l k ≤ 100000)
    (hz : ZOk room [a, b]) (hrm : room ≤ 1000000) (hm : g.length + m = n) (hl : s.left ≤ 20000) (hok : BOk n s)
    (hc : HC w bh (bvs A n c room Ag g.length cg Ab nb cb s)) (hg : Own w (bh + 1) 2 1 Ag g.length cg (g.map (Value.int .i64))) (hb : Own w (bh + 1) 2 1 Ab nb cb ((bbL s).map (Value.int .i64))) (hap : Apart Ag Ab),
    Calls Try.prog 38 #[.pointer (some ⟨bh, 0, none⟩), .agg #[.int .i64 a, .int .i64 b]] w (BPost bh A n c room g (bs room (l.drop g.length) g [a, b] s) Ag w) := by
  intro m
  induction m with
  | zero =>
    intro A Ag Ab n c cg nb cb bh room a b l g s w h hn hx hz hrm hm hl hok hc hg hb hap
    exact search_zero A Ag Ab n c cg nb cb bh room a b l g s w h hn hz hrm hm hc hg hb hap
  | succ m ih =>
    intro A Ag Ab n c cg nb cb bh room a b l g s w h hn hx hz hrm hm hl hok hc hg hb hap
    have HL := Lib.hid h.len
    have hi0 : g.length < n := by omega
    have hlt := hc.lt
    obtain ⟨i0, hi1, hz0, hz1, hz2⟩ := info_parts info_int
    have Hq : Hid (bs room (l.drop g.length) g [a, b] s = (List.range 2).foldl (bstep room (nth l g.length) (bs room (l.drop (g.length + 1))) g [a, b]) s) := Lib.hid (by rw [drop_nth (by rw [HL.out]; exact hi0), bs])
    have hxg := hx g.length hi0
    obtain ⟨adm, e0, hblm, hcm⟩ := Ints.at_ h hi0
    subst e0
    obtain ⟨x, hxe⟩ : ∃ x, nth l g.length = x := ⟨_, rfl⟩
    rw [hxe] at Hq hxg hcm
    have Hxe := Lib.hid hxe
    clear hxe hcm
    obtain ⟨w0, hw0⟩ : ∃ w0, w0 = w.alloc (.cells #[.int .i64 a, .int .i64 b] 70) := ⟨_, rfl⟩
    have b0 : Below w.heap.size w w0 := by rw [hw0]; exact (Below.refl _ _).alloc (Nat.le_refl _) _
    have hbz : w.heap.size < w0.heap.size := by rw [hw0]; simp
    have B0 := Lib.hid b0
    have Hz := Lib.hid hz
    have Ih := Lib.hid ih
    have Hc := Lib.hid (hc.below b0 hlt)
    have Hg := Lib.hid (hg.below b0)
    have Hb := Lib.hid (hb.below b0)
    have Hok := Lib.hid hok
    have Hx := Lib.hid hx
    have Hap := Lib.hid hap
    have Hm := Lib.hid hm
    have HM : Hid (Ints w0 bh (some adm) n l) := Lib.hid (Reads.below h b0 (by omega))
    have HGF : Hid (∀ a, Ag = some a → bh + 1 ≤ a.block ∧ a.block < w.heap.size) := Lib.hid (fun a ha => ⟨(hg.block_lt a ha).2.2.1, (hg.block_lt a ha).2.2.2⟩)
    have HBX : Hid (w0.cell? ⟨w.heap.size, 0, none⟩ = some (.int .i64 a) ∧ w0.cell? ⟨w.heap.size, 1, none⟩ = some (.int .i64 b)) := Lib.hid (by rw [hw0]; exact ⟨by simp, by simp⟩)
    have c2 : w0.cell? ⟨bh, 2, none⟩ = some (.slice (some adm) n c) := Hc.out.at_ 2 _ rfl
    have c4 : w0.cell? ⟨bh, 4, none⟩ = some (.slice Ag g.length cg) := Hc.out.at_ 4 _ rfl
    have hge : ((g.length : Int) == (n : Int)) = false := by rw [beq_eq_false_iff_ne]; omega
    have hge2 : decide (g.length = n) = false := by rw [decide_eq_false_iff_not]; omega
    have hgi0 : (0 : Int) ≤ (g.length : Int) := by omega
    have hgi1 : (g.length : Int) < (n : Int) := by omega
    rw [hw0] at c2 c4
    have Hw0 := Lib.hid hw0
    clear ih hc hg hb hok hx hm hz hap hw0 b0 h
    go_enter Try.func38, Try.ntmps38
    go_wp2_with fail
    rw [← Hw0.out]
    clear c2 c4
    go_loopg [54] 2 (fun gk vk wr => ∃ (k : Nat) (Ag1 : Option Addr) (cg1 : Nat) (Ab1 : Option Addr) (nb1 cb1 : Nat) (q : BS), k ≤ 2 ∧ gk + k = 2 ∧ vk = .int .i64 k ∧
      (List.range k).foldl (bstep room x (bs room (l.drop (g.length + 1))) g [a, b]) s = q ∧ q.left ≤ 20000 ∧ BOk n q ∧
      HC wr bh (bvs (some adm) n c room Ag1 g.length cg1 Ab1 nb1 cb1 q) ∧ Own wr (bh + 1) 2 1 Ag1 g.length cg1 (g.map (Value.int .i64)) ∧ Own wr (bh + 1) 2 1 Ab1 nb1 cb1 ((bbL q).map (Value.int .i64)) ∧ Apart Ag1 Ab1 ∧
      Touch2 w0 wr bh Ag ∧ OldNew w0 Ag Ag1)
    case atStart => exact ⟨0, Ag, cg, Ab, nb, cb, s, by omega, by omega, rfl, rfl, hl, Hok.out, Hc.out, Hg.out, Hb.out, Hap.out, Touch2.refl _ _ _, OldNew.refl _ _⟩
    case round =>
      clear Hc Hg Hb Hok Hap Hw0
      obtain ⟨k, Ag1, cg1, Ab1, nb1, cb1, q, hk, hgk, rfl, hq, hql, hqo, hc, hg, hb, hap, ht2, hon⟩ := hrel
      have Hgk := Lib.hid hgk
      have HQ := Lib.hid hq
      have Hqo := Lib.hid hqo
      have Hc := Lib.hid hc
      have Hg := Lib.hid hg
      have Hb := Lib.hid hb
      have Hap := Lib.hid hap
      have Ht2 := Lib.hid ht2
      have Hon := Lib.hid hon
      have hbs := ht2.size
      have hltw := hc.lt
      have hblk : wr.heap[w.heap.size]? = w0.heap[w.heap.size]? := ht2.block _ hbz (by omega) (fun a ha => by have := HGF.out a ha; omega)
      have s0 : wr.cell? ⟨w.heap.size, 0, none⟩ = some (.int .i64 a) := (World.cell?_of_block (a := ⟨w.heap.size, 0, none⟩) hblk).trans HBX.out.1
      have s1 : wr.cell? ⟨w.heap.size, 1, none⟩ = some (.int .i64 b) := (World.cell?_of_block (a := ⟨w.heap.size, 1, none⟩) hblk).trans HBX.out.2
      have hbel := ht2.below (show bh ≤ w0.heap.size by omega) (fun a ha => by have := HGF.out a ha; omega)
      have Hbel := Lib.hid hbel
      clear hgk hq hqo hc hg hb hap ht2 hon hbel hblk
      have hqk : IntKind.i64.wrap ((k : Int) + 1) = (k : Int) + 1 := IntWalk.i64_in _ (by omega)
      by_cases hlti : k < 2
      · have hk0 : (0 : Int) ≤ (k : Int) := by omega
        have hk1 : (k : Int) < 2 := by omega
        have hd0 : decide (k < 2) = true := decide_eq_true hlti
        obtain ⟨v, hv⟩ : ∃ v, nth [a, b] k = v := ⟨_, rfl⟩
        have hvb := z_at Hz.out hlti
        rw [hv] at hvb
        have hqv : IntKind.i64.wrap (v + x) = v + x := IntWalk.i64_in _ (by omega)
        obtain ⟨a', b', hab'⟩ : ∃ a' b', ([a, b] : List Int).set k (v + x) = [a', b'] := by
          match k, hlti with
          | 0, _ => exact ⟨v + x, b, rfl⟩
          | 1, _ => exact ⟨a, v + x, rfl⟩
        have Hstep : Hid (bstep room x (bs room (l.drop (g.length + 1))) g [a, b] q k = if room < v + x then q else if q.spent then q else if q.left = 0 then ⟨0, true, q.best⟩ else bs room (l.drop (g.length + 1)) (g ++ [(k : Int)]) [a', b'] ⟨q.left - 1, q.spent, q.best⟩) := Lib.hid (by unfold bstep; rw [hv, hab'])
        have HS : Hid ((List.range (k + 1)).foldl (bstep room x (bs room (l.drop (g.length + 1))) g [a, b]) s = bstep room x (bs room (l.drop (g.length + 1))) g [a, b] q k) := Lib.hid (by rw [bfold_succ, HQ.out])
        obtain ⟨nx, hnx⟩ : ∃ nx, nx = wr.heap.size := ⟨_, rfl⟩
        obtain ⟨W1, hW1⟩ : ∃ W1, W1 = wr.alloc (.cells #[.int .i64 a, .int .i64 b] 70) := ⟨_, rfl⟩
        have b1 : Below wr.heap.size wr W1 := by rw [hW1]; exact (Below.refl _ _).alloc (Nat.le_refl _) _
        have hs1 : wr.heap.size < W1.heap.size := by rw [hW1]; simp
        have hc1 := Hc.out.below b1 hltw
        have hn1 : HC W1 nx [.int .i64 a, .int .i64 b] := by rw [hW1, hnx]; exact ⟨fun j u hu => by simpa using hu, fun j => by simp, by simp⟩
        have hav : [Value.int .i64 a, Value.int .i64 b][k]? = some (Value.int .i64 v) := by
          rw [← hv]
          match k, hlti with
          | 0, _ => rfl
          | 1, _ => rfl
        have p2 : W1.cell? ⟨bh, 2, none⟩ = some (.slice (some adm) n c) := hc1.at_ 2 _ rfl
        have pm : W1.cell? (adm.add g.length) = some (.int .i64 x) := by
          obtain ⟨ad', e1, _, h1⟩ := Ints.at_ (Reads.below (Reads.below HM.out Hbel.out (Nat.le_refl _)) b1 (by omega)) hi0
          injection e1 with e1
          subst e1
          rw [Hxe.out] at h1
          exact h1
        have pk : W1.cell? ⟨nx, k, none⟩ = some (.int .i64 v) := hn1.at_ k _ hav
        have fk := hn1.fz k
        -- the world behind the store
        have hn2 : HC ((W1.setCell ⟨nx, k, none⟩ (.int .i64 (v + x))).drew) nx [.int .i64 a', .int .i64 b'] := by
          have h1 := (hn1.set (j := k) (.int .i64 (v + x)) (by simp; omega)).drewN 1
          have e2 : [Value.int .i64 a, Value.int .i64 b].set k (Value.int .i64 (v + x)) = [Value.int .i64 a', Value.int .i64 b'] := by
            have := congrArg (List.map (Value.int .i64)) hab'
            simpa using this
          rw [e2] at h1
          exact h1
        have hav2 : [Value.int .i64 a', Value.int .i64 b'][k]? = some (Value.int .i64 (v + x)) := by
          have : ([a, b] : List Int).set k (v + x) = [a', b'] := hab'
          match k, hlti with
          | 0, _ => simp at this ⊢; exact this.1.symm
          | 1, _ => simp at this ⊢; exact this.2.symm
        have b2 : Below wr.heap.size wr ((W1.setCell ⟨nx, k, none⟩ (.int .i64 (v + x))).drew) := (b1.setCell (by rw [hnx]; exact Nat.le_refl _) _).drew
        have hnl : nx < ((W1.setCell ⟨nx, k, none⟩ (.int .i64 (v + x))).drew).heap.size := hn2.lt
        have HW1 := Lib.hid hW1
        have Hnx := Lib.hid hnx
        have Hn2 := Lib.hid hn2
        have B2 := Lib.hid b2
        have Hab' := Lib.hid hab'
        have Hav2 := Lib.hid hav2
        have Hv := Lib.hid hv
        rw [hW1] at p2 pm pk fk
        rw [hnx] at pk fk
        clear hc1 hn1 hav hav2 b1 b2 hn2 hab' hv hW1
        go_wp2_with fail
        rw [← HW1.out] at p2 pm pk fk
        rw [← HW1.out]
        go_still_tail 12, (by kernel_rfl)
        change wpList _ _ _ _ _ W1.drew
        go_wp2_with fail
        obtain ⟨W2, hW2⟩ : ∃ W2, (W1.setCell ⟨nx, k, none⟩ (.int .i64 (v + x))).drew = W2 := ⟨_, rfl⟩
        rw [hW2] at Hn2 B2 hnl
        rw [Hnx.out] at hW2
        rw [hW2]
        have hnx := Hnx.out
        subst hnx
        clear hW2 Hnx HW1
        clear p2 pm pk fk s0 s1
        have p3 : W2.cell? ⟨bh, 3, none⟩ = some (.int .i64 room) := (Hc.out.below B2.out hltw).at_ 3 _ rfl
        have pk2 : W2.cell? ⟨wr.heap.size, k, none⟩ = some (.int .i64 (v + x)) := Hn2.out.at_ k _ Hav2.out
        by_cases hrv : room < v + x
        · have hdr : decide (room < v + x) = true := decide_eq_true hrv
          have HN : Hid ((List.range (k + 1)).foldl (bstep room x (bs room (l.drop (g.length + 1))) g [a, b]) s = q) := Lib.hid (by rw [HS.out, Hstep.out, if_pos hrv])
          clear hrv
          go_wp2_with fail
          go_quiet (fail)
          go_wp2_with fail
          have b3 := B2.out
          have hgk := Hgk.out
          go_roundg (gk - 1)
          case rel => exact ⟨k + 1, Ag1, cg1, Ab1, nb1, cb1, q, by omega, by omega, by go_num, HN.out, hql, Hqo.out, (Hc.out.below b3 hltw).drewN _, own_drewN (Hg.out.below b3) _, own_drewN (Hb.out.below b3) _, Hap.out, Ht2.out.trans (Touch2.of_below bh Ag1 (below_drewN b3 _)) Hon.out, Hon.out⟩
          case measure => omega
        · have hdr : decide (room < v + x) = false := decide_eq_false hrv
          have hrv' : v + x ≤ room := by omega
          have Hst2 : Hid (bstep room x (bs room (l.drop (g.length + 1))) g [a, b] q k = if q.spent then q else if q.left = 0 then ⟨0, true, q.best⟩ else bs room (l.drop (g.length + 1)) (g ++ [(k : Int)]) [a', b'] ⟨q.left - 1, q.spent, q.best⟩) := Lib.hid (by rw [Hstep.out, if_neg hrv])
          have hz' : ZOk room [a', b'] := by have := z_set (x := x) Hz.out hlti (by omega) (by rw [Hv.out]; exact hrv'); rw [Hv.out, Hab'.out] at this; exact this
          clear hrv Hstep
          go_wp2_with fail
          go_quiet (fail)
          rename_i nq
          have b3 := below_drewN B2.out nq
          have hn3 := Hn2.out.drewN nq
          clear p3 pk2 hnl
          generalize W2.drewN nq = W3 at *
          have hnl := hn3.lt
          have Hn3 := Lib.hid hn3
          have B3 := Lib.hid b3
          have hs3 := b3.size
          have Hc3 := Lib.hid (Hc.out.below b3 hltw)
          have Hg3 := Lib.hid (Hg.out.below b3)
          have Hb3 := Lib.hid (Hb.out.below b3)
          have Ht3 := Lib.hid (Ht2.out.trans (Touch2.of_below bh Ag1 b3) Hon.out)
          have hA1 : ∀ a, Ag1 = some a → a.block < wr.heap.size := fun a ha => (Hg.out.block_lt a ha).2.2.2
          have HA1 := Lib.hid hA1
          have hltw3 := Hc3.out.lt
          clear hn3 b3 hA1 Hc Hg Hb Ht2
          have d0 : W3.cell? ⟨bh, 0, none⟩ = some (.int .i64 (q.left : Int)) := Hc3.out.at_ 0 _ rfl
          have d1 : W3.cell? ⟨bh, 1, none⟩ = some (.bool q.spent) := Hc3.out.at_ 1 _ rfl
          cases hsp : q.spent with
          | true =>
            rw [hsp] at d1
            have HN : Hid (bs room (l.drop g.length) g [a, b] s = q) := Lib.hid (by
              rw [Hq.out, brange_from _ s k 2 (by omega) (fun ks => by rw [HQ.out]; exact bfold_spent _ _ _ _ _ _ _ hsp), HQ.out])
            have HF : Hid (BPost bh (some adm) n c room g (bs room (l.drop g.length) g [a, b] s) Ag w (.returned (.tuple #[])) W3) := Lib.hid (by
              rw [HN.out]; exact ⟨Ag1, cg1, Ab1, nb1, cb1, rfl, Hc3.out, Hg3.out, Hb3.out, Hap.out, touch2_from B0.out Ht3.out, Hon.out.weaken (by omega)⟩)
            clear hsp Hst2
            go_wp2_with fail
            exact bodyPost_ret (v := .tuple #[]) (by simp [results, Try.results38, go_sem]) rfl HF.out
          | false =>
          rw [hsp] at d1
          by_cases hl0 : q.left = 0
          · have hc1 := (Hc3.out.set (j := 1) (.bool true) (by simp [bvs]))
            have HN : Hid (bs room (l.drop g.length) g [a, b] s = ⟨0, true, q.best⟩) := Lib.hid (by
              rw [Hq.out, brange_from _ s (k + 1) 2 (by omega) (fun ks => by rw [HS.out, Hst2.out, hsp, if_neg (by simp), if_pos hl0]; exact bfold_spent _ _ _ _ _ _ _ rfl), HS.out, Hst2.out, hsp, if_neg (by simp), if_pos hl0])
            have HF : Hid (BPost bh (some adm) n c room g (bs room (l.drop g.length) g [a, b] s) Ag w (.returned (.tuple #[])) (W3.setCell ⟨bh, 1, none⟩ (.bool true))) := Lib.hid (by
              rw [HN.out]
              refine ⟨Ag1, cg1, Ab1, nb1, cb1, rfl, ?_, Hg3.out.setFar (Nat.lt_succ_self _) _, Hb3.out.setFar (Nat.lt_succ_self _) _, Hap.out, touch2_from B0.out (Ht3.out.trans (Touch2.of_set _ bh 1 _ Ag1) Hon.out), Hon.out.weaken (by omega)⟩
              simp only [bvs, List.set_cons_succ, List.set_cons_zero, hl0] at hc1
              exact hc1)
            have Hl0 := Lib.hid hl0
            clear hsp Hst2 hc1 hl0
            go_wp2_with fail
            refine (node_any (left := q.left) (sp := q.spent) Hc3.out hql).mono ?_
            rintro e w' (⟨h0, rfl, rfl⟩ | ⟨h0, rfl, rfl⟩)
            · go_wp2_with fail
              exact bodyPost_ret (v := .tuple #[]) (by simp [results, Try.results38, go_sem]) rfl HF.out
            · exact absurd Hl0.out (by omega)
          · obtain ⟨q1, hq1⟩ : ∃ q1 : BS, q1 = ⟨q.left - 1, q.spent, q.best⟩ := ⟨_, rfl⟩
            have HN : Hid ((List.range (k + 1)).foldl (bstep room x (bs room (l.drop (g.length + 1))) g [a, b]) s = bs room (l.drop (g.length + 1)) (g ++ [(k : Int)]) [a', b'] q1) := Lib.hid (by
              rw [HS.out, Hst2.out, hsp, if_neg (by simp), if_neg hl0, hq1, hsp])
            have hc1 : HC (W3.setCell ⟨bh, 0, none⟩ (.int .i64 ((q.left - 1 : Nat) : Int))) bh (bvs (some adm) n c room Ag1 g.length cg1 Ab1 nb1 cb1 q1) := by
              rw [hq1]; exact Hc3.out.set (j := 0) (.int .i64 ((q.left - 1 : Nat) : Int)) (by simp [bvs])
            have hg1 : Own (W3.setCell ⟨bh, 0, none⟩ (.int .i64 ((q.left - 1 : Nat) : Int))) (bh + 1) 2 1 Ag1 g.length cg1 (g.map (Value.int .i64)) := Hg3.out.setFar (Nat.lt_succ_self _) _
            have hb1 : Own (W3.setCell ⟨bh, 0, none⟩ (.int .i64 ((q.left - 1 : Nat) : Int))) (bh + 1) 2 1 Ab1 nb1 cb1 ((bbL q1).map (Value.int .i64)) := by rw [hq1]; exact Hb3.out.setFar (Nat.lt_succ_self _) _
            have ht1 : Touch2 w0 (W3.setCell ⟨bh, 0, none⟩ (.int .i64 ((q.left - 1 : Nat) : Int))) bh Ag := Ht3.out.trans (Touch2.of_set _ bh 0 _ Ag1) Hon.out
            have hn1 : HC (W3.setCell ⟨bh, 0, none⟩ (.int .i64 ((q.left - 1 : Nat) : Int))) wr.heap.size [.int .i64 a', .int .i64 b'] := Hn3.out.touch2 (Touch2.of_set _ bh 0 _ none) (by omega) (fun a e => by cases e)
            have hz1' : (W3.setCell ⟨bh, 0, none⟩ (.int .i64 ((q.left - 1 : Nat) : Int))).heap.size = W3.heap.size := by simp [World.setCell]
            have hq1l : q1.left ≤ 20000 := by rw [hq1]; show q.left - 1 ≤ 20000; omega
            have Hq1o : Hid (BOk n q1) := Lib.hid (by rw [hq1]; exact Hqo.out)
            have Hl0 := Lib.hid hl0
            have Hcc := Lib.hid Hc3.out
            clear hsp Hst2 hl0 hq1 Hc3 Hg3 Hb3 Ht3 Hn3
            have Hc1 := Lib.hid hc1
            have Hg1 := Lib.hid hg1
            have Hb1 := Lib.hid hb1
            have Ht1 := Lib.hid ht1
            have Hn1 := Lib.hid hn1
            have Hz1 := Lib.hid hz1'
            clear hc1 hg1 hb1 ht1 hn1 hz1'
            go_wp2_with fail
            refine (node_any (left := q.left) (sp := q.spent) Hcc.out hql).mono ?_
            rintro e w' (⟨h0, rfl, rfl⟩ | ⟨h0, rfl, rfl⟩)
            · exact absurd h0 Hl0.out
            · clear d0 d1
              have hws := Hz1.out
              generalize W3.setCell ⟨bh, 0, none⟩ (.int .i64 ((q.left - 1 : Nat) : Int)) = W4 at *
              have d4 : W4.cell? ⟨bh, 4, none⟩ = some (.slice Ag1 g.length cg1) := Hc1.out.at_ 4 _ rfl
              have f4 := Hc1.out.fz 4
              have hltW := Hc1.out.lt
              have hnlW := Hn1.out.lt
              clear hws Hcc
              go_wp2_with (at_builtin; refine wpList_app rfl _ _ 26 rfl 2 i0 _ 1 8 Try.underlying26 hi1 hz0 hz1 hz2 rfl (by omega) (by omega) (bh + 1) _ _ _ _ rfl (Hg1.out.alloc _) ⟨W4.heap.size, 0, none⟩ 1 1 [.int .i64 (k : Int)] rfl rfl (cell_one_new _ _ _) (by simp [Value.oneCell']) (by omega) (by simp; omega) ?_)
              intro A5 c5 w5 o5 hgA hbA hat
              have hzz : W4.heap.size ≤ (W4.alloc (.cells #[.int .i64 (k : Int)] 2)).heap.size := by simp
              have bal : Below W4.heap.size W4 (W4.alloc (.cells #[.int .i64 (k : Int)] 2)) := (Below.refl _ _).alloc (Nat.le_refl _) _
              have hon5 : OldNew W4 Ag1 A5 := by
                intro a ha
                subst ha
                rcases hat with e | e
                · cases Ag1 with
                  | none => cases e
                  | some a0 => exact .inl ⟨a0, rfl, by simpa using e.symm⟩
                · right
                  have : a.block = (W4.alloc (.cells #[.int .i64 (k : Int)] 2)).heap.size := by simpa using e
                  omega
              have tA : Touch2 W4 w5 bh Ag1 := (Touch2.of_below bh Ag1 bal).trans (Touch2.of_grown hgA) (OldNew.refl _ _)
              have Hc5 := Lib.hid ((Hc1.out.below bal hltW).below hbA (Nat.lt_succ_self _))
              have Hb5 := Lib.hid (own_grown (Hb1.out.below bal) hgA Hap.out)
              have hn5 : HC w5 wr.heap.size [.int .i64 a', .int .i64 b'] := Hn1.out.touch2 tA (by omega) (fun a ha => by have := HA1.out a ha; omega)
              have hap5 : Apart A5 Ab1 := (apart_old Hap.out.symm hon5 (fun a ha => (Hb1.out.block_lt a ha).2.2.2)).symm
              have hw1w : W3.heap.size = W4.heap.size := Hz1.out.symm
              have hon15 : OldNew w0 Ag A5 := Hon.out.trans hon5 (by omega)
              have ht15 : Touch2 w0 w5 bh Ag := Ht1.out.trans tA Hon.out
              have o5' : Own w5 (bh + 1) 2 1 A5 (g ++ [(k : Int)]).length c5 ((g ++ [(k : Int)]).map (Value.int .i64)) := by
                rw [List.map_append, List.length_append]; exact o5
              have hw5 : W4.heap.size ≤ w5.heap.size := tA.size
              have e4 : w5.cell? ⟨bh, 4, none⟩ = some (.slice Ag1 g.length cg1) := Hc5.out.at_ 4 _ rfl
              have f45 := Hc5.out.fz 4
              -- the world behind the store
              have hc6 : HC (w5.setCell ⟨bh, 4, none⟩ (.slice A5 (g.length + 1) c5)) bh (bvs (some adm) n c room A5 (g ++ [(k : Int)]).length c5 Ab1 nb1 cb1 q1) := by
                have := Hc5.out.set (j := 4) (.slice A5 (g.length + 1) c5) (by simp [bvs])
                rw [List.length_append]; exact this
              have hg6 : Own (w5.setCell ⟨bh, 4, none⟩ (.slice A5 (g.length + 1) c5)) (bh + 1) 2 1 A5 (g ++ [(k : Int)]).length c5 ((g ++ [(k : Int)]).map (Value.int .i64)) := o5'.setFar (Nat.lt_succ_self _) _
              have hb6 := Hb5.out.setFar (j := 4) (Nat.lt_succ_self bh) (.slice A5 (g.length + 1) c5)
              have hn6 : HC (w5.setCell ⟨bh, 4, none⟩ (.slice A5 (g.length + 1) c5)) wr.heap.size [.int .i64 a', .int .i64 b'] := hn5.touch2 (Touch2.of_set _ bh 4 _ none) (by omega) (fun a e => by cases e)
              have ht6 : Touch2 w0 (w5.setCell ⟨bh, 4, none⟩ (.slice A5 (g.length + 1) c5)) bh Ag := ht15.trans (Touch2.of_set _ bh 4 _ A5) hon15
              have hz6 : (w5.setCell ⟨bh, 4, none⟩ (.slice A5 (g.length + 1) c5)).heap.size = w5.heap.size := by simp [World.setCell]
              have Hc6 := Lib.hid hc6
              have Hg6 := Lib.hid hg6
              have Hb6 := Lib.hid hb6
              have Ht6 := Lib.hid ht6
              have Hz6 := Lib.hid hz6
              have Hon15 := Lib.hid hon15
              have Hap5 := Lib.hid hap5
              have hbel := ht6.below (by omega) (fun a ha => by have := HGF.out a ha; omega)
              have Hbel6 := Lib.hid hbel
              have n0 : (w5.setCell ⟨bh, 4, none⟩ (.slice A5 (g.length + 1) c5)).cell? ⟨wr.heap.size, 0, none⟩ = some (.int .i64 a') := hn6.at_ 0 _ rfl
              have n1 : (w5.setCell ⟨bh, 4, none⟩ (.slice A5 (g.length + 1) c5)).cell? ⟨wr.heap.size, 1, none⟩ = some (.int .i64 b') := hn6.at_ 1 _ rfl
              have m0 : w5.cell? ⟨wr.heap.size, 0, none⟩ = some (.int .i64 a') := hn5.at_ 0 _ rfl
              have m1 : w5.cell? ⟨wr.heap.size, 1, none⟩ = some (.int .i64 b') := hn5.at_ 1 _ rfl
              clear o5 hgA hbA hat bal hon5 tA Hc5 Hb5 hap5 hon15 ht15 o5' hc6 hg6 hb6 ht6 hz6 d4 f4 Hc1 Hg1 Hb1 Ht1 hbel hn5 hn6 Hn1
              have Hqok : Hid (BOk n (bs room (l.drop (g.length + 1)) (g ++ [(k : Int)]) [a', b'] q1)) := Lib.hid (by
                refine bs_ok room _ _ _ _ ?_ Hq1o.out
                rw [List.length_append, List.length_drop, HL.out]; simp; omega)
              have hqleft : (bs room (l.drop (g.length + 1)) (g ++ [(k : Int)]) [a', b'] q1).left ≤ 20000 := by
                have := bs_left room (l.drop (g.length + 1)) (g ++ [(k : Int)]) [a', b'] q1; omega
              have Hcall := Lib.hid (Ih.out (some adm) A5 Ab1 n c c5 nb1 cb1 bh room a' b' l (g ++ [(k : Int)]) q1 _ (Reads.below HM.out Hbel6.out (Nat.le_refl _)) hn Hx.out hz' hrm (by rw [List.length_append]; simp; have := Hm.out; omega) hq1l Hq1o.out Hc6.out Hg6.out Hb6.out Hap5.out)
              have HN2 : Hid (bs room (l.drop (g ++ [(k : Int)]).length) (g ++ [(k : Int)]) [a', b'] q1 = bs room (l.drop (g.length + 1)) (g ++ [(k : Int)]) [a', b'] q1) := Lib.hid (by rw [List.length_append]; rfl)
              rw [HN2.out] at Hcall
              clear Hc6 Hg6 Hb6
              generalize bs room (l.drop (g.length + 1)) (g ++ [(k : Int)]) [a', b'] q1 = q2 at *
              go_wp2_with fail
              refine Hcall.out.mono ?_
              rintro e w7 ⟨Ag7, cg7, Ab7, nb7, cb7, rfl, hc7, hg7, hb7, hap7, ht7, hon7⟩
              have hw56 := Hz6.out
              have hon17 : OldNew w0 Ag Ag7 := Hon15.out.trans hon7 (by have := Ht6.out.size; omega)
              have ht17 : Touch2 w0 w7 bh Ag := Ht6.out.trans ht7 Hon15.out
              have i4 : w7.cell? ⟨bh, 4, none⟩ = some (.slice Ag7 (g.length + 1) cg7) := by have := hc7.at_ 4 _ rfl; rw [List.length_append] at this; exact this
              have fi4 := hc7.fz 4
              have hgl7 : g.length + 1 ≤ cg7 := by have := hg7.cap; rw [List.length_append] at this; exact this
              have hgi7 : (g.length : Int) ≤ (cg7 : Int) := by omega
              have Hc8 := Lib.hid (hc7.set (j := 4) (.slice Ag7 g.length cg7) (by simp [bvs]))
              have hg8 : Own w7 (bh + 1) 2 1 Ag7 g.length cg7 (g.map (Value.int .i64)) := by
                have := hg7.headM (k := g.length) (by rw [List.length_append]; omega)
                rw [Nat.mul_one, ← List.map_take, show (g ++ [(k : Int)]).take g.length = g by rw [List.take_append_of_le_length (Nat.le_refl _), List.take_of_length_le (Nat.le_refl _)]] at this
                exact this
              have Hg8 := Lib.hid (hg8.setFar (j := 4) (Nat.lt_succ_self bh) (.slice Ag7 g.length cg7))
              have Hb8 := Lib.hid (hb7.setFar (j := 4) (Nat.lt_succ_self bh) (.slice Ag7 g.length cg7))
              have Ht8 := Lib.hid (ht17.trans (Touch2.of_set _ bh 4 (.slice Ag7 g.length cg7) Ag7) hon17)
              have Hon8 := Lib.hid hon17
              have Hap8 := Lib.hid hap7
              obtain ⟨ad7, hA7⟩ : ∃ ad7, Ag7 = some ad7 := by
                cases Ag7 with
                | none => have := hg7.none_n; rw [List.length_append] at this; simp at this
                | some a => exact ⟨a, rfl⟩
              subst hA7
              clear hc7 hg7 hb7 hap7 ht7 hon7 hon17 ht17 hg8 Hcall n0 n1 m0 m1
              go_wp2_with fail
              have hgk := Hgk.out
              go_roundg (gk - 1)
              case rel => exact ⟨k + 1, some ad7, cg7, Ab7, nb7, cb7, q2, by omega, by omega, by go_num, HN.out, hqleft, Hqok.out, Hc8.out, Hg8.out, Hb8.out, Hap8.out, Ht8.out, Hon8.out⟩
              case measure => omega
      · have hke : k = 2 := by omega
        have HN : Hid (bs room (l.drop g.length) g [a, b] s = q) := Lib.hid (by rw [Hq.out, ← HQ.out, hke])
        have HF : Hid (BPost bh (some adm) n c room g (bs room (l.drop g.length) g [a, b] s) Ag w (.returned (.tuple #[])) wr) := Lib.hid (by
          rw [HN.out]; exact ⟨Ag1, cg1, Ab1, nb1, cb1, rfl, Hc.out, Hg.out, Hb.out, Hap.out, touch2_from B0.out Ht2.out, Hon.out.weaken (by omega)⟩)
        have hd0 : decide (k < 2) = false := decide_eq_false hlti
        clear hke
        go_wp2_with fail
        exact bodyPost_ret (v := .tuple #[]) (by simp [results, Try.results38, go_sem]) rfl HF.out
end Go.Proofs.Ytdighpgfepooaaa
