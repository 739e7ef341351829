/- Reading of inspections: the reference's. -/
import Derived.Test.YtickepianllblaaDoorUl
namespace Go.Proofs.YtickepianllblaaDoor
open Go.RowKit
set_option maxRecDepth 100000
set_option linter.unusedVariables false
set_option linter.unusedSimpArgs false

theorem rRC_two {l : List UInt8} {a b : List UInt8} (h : sp 32 l = [a, b]) : rRC l = if (rReadL b).1.length = 4 then (if checkB (rCk a (rReadL b).1) then (rCk a (rReadL b).1, true) else (CheckR.zero, false)) else (CheckR.zero, false) := by
  unfold rRC
  rw [h]
theorem rRC_not {l : List UInt8} (h : (sp 32 l).length ≠ 2) : rRC l = (CheckR.zero, false) := by
  unfold rRC
  split
  · rename_i a b e
    rw [e] at h
    exact absurd rfl h
  · rfl
theorem readL_bad {l : List UInt8} (h : (rReadL l).2 = false) : (rReadL l).1 = [] := by
  unfold rReadL at h ⊢
  by_cases h1 : l = [45]
  · rw [if_pos h1]
  · rw [if_neg h1] at h ⊢
    cases hn : numsL (sp 44 l) with
    | none => rfl
    | some ns =>
      rw [hn] at h
      simp only at h ⊢
      by_cases hk : okL ns = true
      · rw [if_pos hk] at h; cases h
      · rw [if_neg hk]
set_option maxHeartbeats 2000000 in
theorem specReadCheck_any {s : ByteArray} {w : World} (hs : s.size ≤ 1048576) : Calls Tryd.prog 4 #[.string s] w (RcP s.data.toList w) := by
  have hlen := bytes_len s
  obtain ⟨w0, hw0⟩ : ∃ w0, w.alloc (.cells #[.string ⟨#[]⟩, .int .i64 0, .int .i64 0, .int .i64 0, .int .i64 0] 23) = w0 := ⟨_, rfl⟩
  have b0 : Below w.heap.size w w0 := by rw [← hw0]; exact (Below.refl _ _).alloc (Nat.le_refl _) _
  have hbx : HC w0 w.heap.size CheckR.zero.cells := by rw [← hw0]; exact ⟨fun j u hu => by have e : CheckR.zero.cells = [.string ⟨#[]⟩, .int .i64 0, .int .i64 0, .int .i64 0, .int .i64 0] := rfl; rw [e] at hu; simpa using hu, fun j => by simp, by simp⟩
  have HW0 := Lib.hid hw0
  have B0 := Lib.hid b0
  have Hbx := Lib.hid hbx
  have hlt0 := hbx.lt
  have Hn := Lib.hid (l01Split_any (c := 32) (w := w0) hs)
  clear hw0 b0 hbx
  go_enter Tryd.func4, Tryd.ntmps4
  go_wp2_with fail
  rw [HW0.out]
  refine Hn.out.mono ?_
  rintro e w1 ⟨A, kc, ps, rfl, hps, ho, hb⟩
  clear Hn
  have Hb1 := Lib.hid (Hbx.out.below hb hlt0)
  have B1 := Lib.hid (B0.out.trans (hb.mono (Nat.le_of_lt hlt0)))
  have hs1 := B1.out.size
  have hlt1 := Hb1.out.lt
  have hsh := sp_short 32 s.data.toList
  have Hps := Lib.hid hps
  rw [← hps] at hsh
  have hpl : ps.length ≤ 1048577 := by have := hsh.1; rw [List.length_map, hlen] at this; omega
  by_cases h2 : ps.length = 2
  · obtain ⟨p, q, rfl⟩ : ∃ p q, ps = [p, q] := by
      match ps, h2 with
      | [p, q], _ => exact ⟨p, q, rfl⟩
    have hpz : p.size ≤ 1048576 := by
      have := hsh.2 p.data.toList (by simp)
      rw [hlen, bytes_len] at this
      omega
    have hqz : q.size ≤ 1048576 := by
      have := hsh.2 q.data.toList (by simp)
      rw [hlen, bytes_len] at this
      omega
    have HI := Lib.hid (rRC_two hps.symm)
    have HRl := Lib.hid (specReadList_any (s := q) (w := w1) hqz)
    have hA : ∃ g, A = some ⟨g, 0, none⟩ := by
      rcases ho.2 with ⟨_, e⟩ | ⟨g, cap, cur, e, _⟩
      · simp at e
      · injection e with e; exact ⟨g, e⟩
    obtain ⟨g, rfl⟩ := hA
    have c0 : w1.cell? ⟨g, 0, none⟩ = some (.string p) := (ho.cellAt (j := 0) (by simp)).trans rfl
    have c1 : w1.cell? ⟨g, 1, none⟩ = some (.string q) := (ho.cellAt (j := 1) (by simp)).trans rfl
    have hg : g < w1.heap.size := (ho.block_lt _ rfl).2.2.2
    clear ho hb hsh hps h2 hpl
    go_wp2_with fail
    refine HRl.out.mono ?_
    rintro e w2 ⟨A2, n, k, rfl, hn, ho, hb⟩
    have Hb2 := Lib.hid (Hb1.out.below hb hlt1)
    have B2 := Lib.hid (B1.out.trans (hb.mono hs1))
    have d0 := (hb.cell (p := ⟨g, 0, none⟩) hg).trans c0
    have Hl := Lib.hid (own_len ho)
    have hlt2 := Hb2.out.lt
    have hs2 := B2.out.size
    clear c0 c1 HRl
    have y0 : w2.cell? ⟨w.heap.size, 0, none⟩ = some (.string ⟨#[]⟩) := Hb2.out.at_ 0 _ rfl
    have y1 : w2.cell? ⟨w.heap.size, 1, none⟩ = some (.int .i64 0) := Hb2.out.at_ 1 _ rfl
    have y2 : w2.cell? ⟨w.heap.size, 2, none⟩ = some (.int .i64 0) := Hb2.out.at_ 2 _ rfl
    have y3 : w2.cell? ⟨w.heap.size, 3, none⟩ = some (.int .i64 0) := Hb2.out.at_ 3 _ rfl
    have y4 : w2.cell? ⟨w.heap.size, 4, none⟩ = some (.int .i64 0) := Hb2.out.at_ 4 _ rfl
    have f0 := Hb2.out.fz 0
    have f1 := Hb2.out.fz 1
    have f2 := Hb2.out.fz 2
    have f3 := Hb2.out.fz 3
    have f4 := Hb2.out.fz 4
    cases hk : (rReadL q.data.toList).2 with
    | false =>
      have hn4 : (rReadL q.data.toList).1.length ≠ 4 := by rw [readL_bad hk]; simp
      have HF : Hid (rRC s.data.toList = (CheckR.zero, false)) := Lib.hid (by rw [HI.out, if_neg hn4])
      clear hk hn4 ho hb HI Hl
      have HZ := Lib.hid (Hb2.out.set5 rfl (.string ⟨#[]⟩) (.int .i64 0) (.int .i64 0) (.int .i64 0) (.int .i64 0))
      have HB := Lib.hid (below_set5 B2.out (Nat.le_refl _) (.string ⟨#[]⟩) (.int .i64 0) (.int .i64 0) (.int .i64 0) (.int .i64 0))
      go_wp2_with fail
      generalize ((((w2.setCell ⟨w.heap.size, 0, none⟩ (.string ⟨#[]⟩)).setCell ⟨w.heap.size, 1, none⟩ (.int .i64 0)).setCell ⟨w.heap.size, 2, none⟩ (.int .i64 0)).setCell ⟨w.heap.size, 3, none⟩ (.int .i64 0)).setCell ⟨w.heap.size, 4, none⟩ (.int .i64 0) = w9 at *
      have z0 : w9.cell? ⟨w.heap.size, 0, none⟩ = some (.string ⟨#[]⟩) := HZ.out.at_ 0 _ rfl
      have z1 : w9.cell? ⟨w.heap.size, 1, none⟩ = some (.int .i64 0) := HZ.out.at_ 1 _ rfl
      have z2 : w9.cell? ⟨w.heap.size, 2, none⟩ = some (.int .i64 0) := HZ.out.at_ 2 _ rfl
      have z3 : w9.cell? ⟨w.heap.size, 3, none⟩ = some (.int .i64 0) := HZ.out.at_ 3 _ rfl
      have z4 : w9.cell? ⟨w.heap.size, 4, none⟩ = some (.int .i64 0) := HZ.out.at_ 4 _ rfl
      refine bodyPost_ret (v := .tuple #[CheckR.zero.val, .bool false]) ?_ rfl ?_
      · simp [results, Tryd.results4, go_sem, CheckR.val, CheckR.zero, z0, z1, z2, z3, z4]
        try rfl
      · exact ⟨by rw [HF.out], HB.out⟩
    | true =>
      by_cases h4 : n = 4
      · subst h4
        have hl4 : (rReadL q.data.toList).1.length = 4 := Hl.out
        obtain ⟨x, y, u, v, hxs⟩ := four_of hl4
        have hI : rRC s.data.toList = if checkB ⟨p, x, y, u, v⟩ then (⟨p, x, y, u, v⟩, true) else (CheckR.zero, false) := by
          have e : rCk p.data.toList [x, y, u, v] = ⟨p, x, y, u, v⟩ := rfl
          rw [HI.out, if_pos hl4, hxs, e]
        have HI2 := Lib.hid hI
        rw [hxs] at ho
        have hA2 : ∃ g2, A2 = some ⟨g2, 0, none⟩ := by
          rcases ho.2 with ⟨_, e⟩ | ⟨g2, cap, cur, e, _⟩
          · omega
          · injection e with e; exact ⟨g2, e⟩
        obtain ⟨g2, rfl⟩ := hA2
        have e0 : w2.cell? ⟨g2, 0, none⟩ = some (.int .i64 x) := (ho.cellAt (j := 0) (by omega)).trans rfl
        have e1 : w2.cell? ⟨g2, 1, none⟩ = some (.int .i64 y) := (ho.cellAt (j := 1) (by omega)).trans rfl
        have e2 : w2.cell? ⟨g2, 2, none⟩ = some (.int .i64 u) := (ho.cellAt (j := 2) (by omega)).trans rfl
        have e3 : w2.cell? ⟨g2, 3, none⟩ = some (.int .i64 v) := (ho.cellAt (j := 3) (by omega)).trans rfl
        have hg2 : g2 < w2.heap.size := (ho.block_lt _ rfl).2.2.2
        have hgl : g < w2.heap.size := by have := hb.size; omega
        clear ho hb hI hxs hl4 HI Hl y0 y1 y2 y3 y4 f0 f1 f2 f3 f4
        have HKA : Hid (∀ W : World, Below w2.heap.size w2 W → (W.cell? ⟨g, 0, none⟩ = some (.string p) ∧ W.cell? ⟨g2, 0, none⟩ = some (.int .i64 x) ∧ W.cell? ⟨g2, 1, none⟩ = some (.int .i64 y) ∧ W.cell? ⟨g2, 2, none⟩ = some (.int .i64 u) ∧ W.cell? ⟨g2, 3, none⟩ = some (.int .i64 v))) := Lib.hid (fun W hW =>
          ⟨(hW.cell hgl).trans d0, (hW.cell hg2).trans e0, (hW.cell hg2).trans e1, (hW.cell hg2).trans e2, (hW.cell hg2).trans e3⟩)
        have hK0 : Below w2.heap.size w2 w2 := Below.refl _ _
        have hK1 : Below w2.heap.size w2 w2.drew := (Below.refl _ _).drew
        have hK2 : ∀ o, Below w2.heap.size w2 ((w2.alloc o).drew) := fun o => ((Below.refl _ _).alloc (Nat.le_refl _) o).drew
        have hK3 : ∀ o, Below w2.heap.size w2 (w2.drew.alloc o) := fun o => ((Below.refl _ _).drew).alloc (Nat.le_refl _) o
        go_wp2_with fail
        go_region_held3 (fun W => W.cell? ⟨g, 0, none⟩ = some (.string p) ∧ W.cell? ⟨g2, 0, none⟩ = some (.int .i64 x) ∧ W.cell? ⟨g2, 1, none⟩ = some (.int .i64 y) ∧ W.cell? ⟨g2, 2, none⟩ = some (.int .i64 u) ∧ W.cell? ⟨g2, 3, none⟩ = some (.int .i64 v))
          ((with_reducible refine HKA.out _ ?_; (first | with_reducible exact hK0 | with_reducible exact hK1 | with_reducible exact hK2 _ | with_reducible exact hK3 _)))
          (fail)
        all_goals
          have b3 : Below w2.heap.size w2 ((w2.alloc (.cells #[.string p, .int .i64 x, .int .i64 y, .int .i64 u, .int .i64 v] 23)).drew) := ((Below.refl _ _).alloc (Nat.le_refl _) _).drew
          have hx3 : HC ((w2.alloc (.cells #[.string p, .int .i64 x, .int .i64 y, .int .i64 u, .int .i64 v] 23)).drew) w2.heap.size [.string p, .int .i64 x, .int .i64 y, .int .i64 u, .int .i64 v] := ⟨fun j u hu => by simpa using hu, fun j => by simp, by simp⟩
          have Hb3 := Lib.hid (Hb2.out.below b3 hlt2)
          have B3 := Lib.hid (B2.out.trans (b3.mono hs2))
          generalize hw3 : (w2.alloc (.cells #[.string p, .int .i64 x, .int .i64 y, .int .i64 u, .int .i64 v] 23)).drew = w3 at *
          clear hw3 b3 e0 e1 e2 e3 d0
          have x0 : w3.cell? ⟨w2.heap.size, 0, none⟩ = some (.string p) := hx3.at_ 0 _ rfl
          have x1 : w3.cell? ⟨w2.heap.size, 1, none⟩ = some (.int .i64 x) := hx3.at_ 1 _ rfl
          have x2 : w3.cell? ⟨w2.heap.size, 2, none⟩ = some (.int .i64 y) := hx3.at_ 2 _ rfl
          have x3 : w3.cell? ⟨w2.heap.size, 3, none⟩ = some (.int .i64 u) := hx3.at_ 3 _ rfl
          have x4 : w3.cell? ⟨w2.heap.size, 4, none⟩ = some (.int .i64 v) := hx3.at_ 4 _ rfl
          have y0 : w3.cell? ⟨w.heap.size, 0, none⟩ = some (.string ⟨#[]⟩) := Hb3.out.at_ 0 _ rfl
          have y1 : w3.cell? ⟨w.heap.size, 1, none⟩ = some (.int .i64 0) := Hb3.out.at_ 1 _ rfl
          have y2 : w3.cell? ⟨w.heap.size, 2, none⟩ = some (.int .i64 0) := Hb3.out.at_ 2 _ rfl
          have y3 : w3.cell? ⟨w.heap.size, 3, none⟩ = some (.int .i64 0) := Hb3.out.at_ 3 _ rfl
          have y4 : w3.cell? ⟨w.heap.size, 4, none⟩ = some (.int .i64 0) := Hb3.out.at_ 4 _ rfl
          have f0 := Hb3.out.fz 0
          have f1 := Hb3.out.fz 1
          have f2 := Hb3.out.fz 2
          have f3 := Hb3.out.fz 3
          have f4 := Hb3.out.fz 4
          have HO := Lib.hid (l21One_any (p := ⟨w2.heap.size, 0, none⟩) (x := ⟨p, x, y, u, v⟩) x0 x1 x2 x3 x4 hpz)
          clear hx3
          cases hv : checkB ⟨p, x, y, u, v⟩ with
          | false =>
            have HF : Hid (rRC s.data.toList = (CheckR.zero, false)) := Lib.hid (by rw [HI2.out, hv]; rfl)
            rw [hv] at HO
            clear HI2 hv
            go_wp2_with fail
            refine HO.out.mono ?_
            rintro e w' ⟨rfl, rfl⟩
            have HZ := Lib.hid (Hb3.out.set5 rfl (.string ⟨#[]⟩) (.int .i64 0) (.int .i64 0) (.int .i64 0) (.int .i64 0))
            have HB := Lib.hid (below_set5 B3.out (Nat.le_refl _) (.string ⟨#[]⟩) (.int .i64 0) (.int .i64 0) (.int .i64 0) (.int .i64 0))
            go_wp2_with fail
            generalize ((((w3.setCell ⟨w.heap.size, 0, none⟩ (.string ⟨#[]⟩)).setCell ⟨w.heap.size, 1, none⟩ (.int .i64 0)).setCell ⟨w.heap.size, 2, none⟩ (.int .i64 0)).setCell ⟨w.heap.size, 3, none⟩ (.int .i64 0)).setCell ⟨w.heap.size, 4, none⟩ (.int .i64 0) = w9 at *
            have z0 : w9.cell? ⟨w.heap.size, 0, none⟩ = some (.string ⟨#[]⟩) := HZ.out.at_ 0 _ rfl
            have z1 : w9.cell? ⟨w.heap.size, 1, none⟩ = some (.int .i64 0) := HZ.out.at_ 1 _ rfl
            have z2 : w9.cell? ⟨w.heap.size, 2, none⟩ = some (.int .i64 0) := HZ.out.at_ 2 _ rfl
            have z3 : w9.cell? ⟨w.heap.size, 3, none⟩ = some (.int .i64 0) := HZ.out.at_ 3 _ rfl
            have z4 : w9.cell? ⟨w.heap.size, 4, none⟩ = some (.int .i64 0) := HZ.out.at_ 4 _ rfl
            refine bodyPost_ret (v := .tuple #[CheckR.zero.val, .bool false]) ?_ rfl ?_
            · simp [results, Tryd.results4, go_sem, CheckR.val, CheckR.zero, z0, z1, z2, z3, z4]
              try rfl
            · exact ⟨by rw [HF.out], HB.out⟩
          | true =>
            have HF : Hid (rRC s.data.toList = (⟨p, x, y, u, v⟩, true)) := Lib.hid (by rw [HI2.out, hv]; rfl)
            rw [hv] at HO
            clear HI2 hv
            go_wp2_with fail
            refine HO.out.mono ?_
            rintro e w' ⟨rfl, rfl⟩
            have HZ := Lib.hid (Hb3.out.set5 rfl (.string p) (.int .i64 x) (.int .i64 y) (.int .i64 u) (.int .i64 v))
            have HB := Lib.hid (below_set5 B3.out (Nat.le_refl _) (.string p) (.int .i64 x) (.int .i64 y) (.int .i64 u) (.int .i64 v))
            go_wp2_with fail
            generalize ((((w3.setCell ⟨w.heap.size, 0, none⟩ (.string p)).setCell ⟨w.heap.size, 1, none⟩ (.int .i64 x)).setCell ⟨w.heap.size, 2, none⟩ (.int .i64 y)).setCell ⟨w.heap.size, 3, none⟩ (.int .i64 u)).setCell ⟨w.heap.size, 4, none⟩ (.int .i64 v) = w9 at *
            have z0 : w9.cell? ⟨w.heap.size, 0, none⟩ = some (.string p) := HZ.out.at_ 0 _ rfl
            have z1 : w9.cell? ⟨w.heap.size, 1, none⟩ = some (.int .i64 x) := HZ.out.at_ 1 _ rfl
            have z2 : w9.cell? ⟨w.heap.size, 2, none⟩ = some (.int .i64 y) := HZ.out.at_ 2 _ rfl
            have z3 : w9.cell? ⟨w.heap.size, 3, none⟩ = some (.int .i64 u) := HZ.out.at_ 3 _ rfl
            have z4 : w9.cell? ⟨w.heap.size, 4, none⟩ = some (.int .i64 v) := HZ.out.at_ 4 _ rfl
            refine bodyPost_ret (v := .tuple #[(CheckR.mk p x y u v).val, .bool true]) ?_ rfl ?_
            · simp [results, Tryd.results4, go_sem, CheckR.val, CheckR.zero, z0, z1, z2, z3, z4]
              try rfl
            · exact ⟨by rw [HF.out], HB.out⟩
      · have hn4 : (rReadL q.data.toList).1.length ≠ 4 := by rw [Hl.out]; exact h4
        have HF : Hid (rRC s.data.toList = (CheckR.zero, false)) := Lib.hid (by rw [HI.out, if_neg hn4])
        have h4b : ((n : Int) == 4) = false := by rw [beq_eq_false_iff_ne]; omega
        clear hk hn4 ho hb HI Hl
        have HZ := Lib.hid (Hb2.out.set5 rfl (.string ⟨#[]⟩) (.int .i64 0) (.int .i64 0) (.int .i64 0) (.int .i64 0))
        have HB := Lib.hid (below_set5 B2.out (Nat.le_refl _) (.string ⟨#[]⟩) (.int .i64 0) (.int .i64 0) (.int .i64 0) (.int .i64 0))
        go_wp2_with fail
        generalize ((((w2.setCell ⟨w.heap.size, 0, none⟩ (.string ⟨#[]⟩)).setCell ⟨w.heap.size, 1, none⟩ (.int .i64 0)).setCell ⟨w.heap.size, 2, none⟩ (.int .i64 0)).setCell ⟨w.heap.size, 3, none⟩ (.int .i64 0)).setCell ⟨w.heap.size, 4, none⟩ (.int .i64 0) = w9 at *
        have z0 : w9.cell? ⟨w.heap.size, 0, none⟩ = some (.string ⟨#[]⟩) := HZ.out.at_ 0 _ rfl
        have z1 : w9.cell? ⟨w.heap.size, 1, none⟩ = some (.int .i64 0) := HZ.out.at_ 1 _ rfl
        have z2 : w9.cell? ⟨w.heap.size, 2, none⟩ = some (.int .i64 0) := HZ.out.at_ 2 _ rfl
        have z3 : w9.cell? ⟨w.heap.size, 3, none⟩ = some (.int .i64 0) := HZ.out.at_ 3 _ rfl
        have z4 : w9.cell? ⟨w.heap.size, 4, none⟩ = some (.int .i64 0) := HZ.out.at_ 4 _ rfl
        refine bodyPost_ret (v := .tuple #[CheckR.zero.val, .bool false]) ?_ rfl ?_
        · simp [results, Tryd.results4, go_sem, CheckR.val, CheckR.zero, z0, z1, z2, z3, z4]
          try rfl
        · exact ⟨by rw [HF.out], HB.out⟩
  · have hn2 : (sp 32 s.data.toList).length ≠ 2 := by rw [← Hps.out, List.length_map]; exact h2
    have HF : Hid (rRC s.data.toList = (CheckR.zero, false)) := Lib.hid (rRC_not hn2)
    have h2b : ((ps.length : Int) == 2) = false := by rw [beq_eq_false_iff_ne]; omega
    clear hn2 ho hb hsh Hps hps h2
    generalize ps.length = np at *
    have y0 : w1.cell? ⟨w.heap.size, 0, none⟩ = some (.string ⟨#[]⟩) := Hb1.out.at_ 0 _ rfl
    have y1 : w1.cell? ⟨w.heap.size, 1, none⟩ = some (.int .i64 0) := Hb1.out.at_ 1 _ rfl
    have y2 : w1.cell? ⟨w.heap.size, 2, none⟩ = some (.int .i64 0) := Hb1.out.at_ 2 _ rfl
    have y3 : w1.cell? ⟨w.heap.size, 3, none⟩ = some (.int .i64 0) := Hb1.out.at_ 3 _ rfl
    have y4 : w1.cell? ⟨w.heap.size, 4, none⟩ = some (.int .i64 0) := Hb1.out.at_ 4 _ rfl
    have f0 := Hb1.out.fz 0
    have f1 := Hb1.out.fz 1
    have f2 := Hb1.out.fz 2
    have f3 := Hb1.out.fz 3
    have f4 := Hb1.out.fz 4
    have HZ := Lib.hid (Hb1.out.set5 rfl (.string ⟨#[]⟩) (.int .i64 0) (.int .i64 0) (.int .i64 0) (.int .i64 0))
    have HB := Lib.hid (below_set5 B1.out (Nat.le_refl _) (.string ⟨#[]⟩) (.int .i64 0) (.int .i64 0) (.int .i64 0) (.int .i64 0))
    go_wp2_with fail
    generalize ((((w1.setCell ⟨w.heap.size, 0, none⟩ (.string ⟨#[]⟩)).setCell ⟨w.heap.size, 1, none⟩ (.int .i64 0)).setCell ⟨w.heap.size, 2, none⟩ (.int .i64 0)).setCell ⟨w.heap.size, 3, none⟩ (.int .i64 0)).setCell ⟨w.heap.size, 4, none⟩ (.int .i64 0) = w9 at *
    have z0 : w9.cell? ⟨w.heap.size, 0, none⟩ = some (.string ⟨#[]⟩) := HZ.out.at_ 0 _ rfl
    have z1 : w9.cell? ⟨w.heap.size, 1, none⟩ = some (.int .i64 0) := HZ.out.at_ 1 _ rfl
    have z2 : w9.cell? ⟨w.heap.size, 2, none⟩ = some (.int .i64 0) := HZ.out.at_ 2 _ rfl
    have z3 : w9.cell? ⟨w.heap.size, 3, none⟩ = some (.int .i64 0) := HZ.out.at_ 3 _ rfl
    have z4 : w9.cell? ⟨w.heap.size, 4, none⟩ = some (.int .i64 0) := HZ.out.at_ 4 _ rfl
    refine bodyPost_ret (v := .tuple #[CheckR.zero.val, .bool false]) ?_ rfl ?_
    · simp [results, Tryd.results4, go_sem, CheckR.val, CheckR.zero, z0, z1, z2, z3, z4]
      try rfl
    · exact ⟨by rw [HF.out], HB.out⟩
end Go.Proofs.YtickepianllblaaDoor
