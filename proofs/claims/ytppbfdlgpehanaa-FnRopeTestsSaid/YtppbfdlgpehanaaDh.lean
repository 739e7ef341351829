/- The reference's draw for NewBroken, walked. -/
import Derived.Test.YtppbfdlgpehanaaDg
namespace Go.Proofs.Ytppbfdlgpehanaa
open Go.RowKit
set_option maxRecDepth 100000
set_option linter.unusedVariables false
set_option linter.unusedSimpArgs false

set_option maxHeartbeats 8000000 in
theorem drawNewBroken_any {n c : Nat} {A : Option Addr} {zs : List Int} {w : World} (hr : Bytz w w.heap.size A n zs) (hn : n ≤ 1048576) :
    Calls Try.prog 12 #[.slice A n c] w (DrawNB w) := by
  obtain ⟨i0, hi, hz0, hz1, hz2⟩ := info_parts info_int
  have Hr := Lib.hid hr
  clear hr
  go_enter Try.func12, Try.ntmps12
  go_wp2_with fail
  refine (from_any (n := n) (c := c) (A := A) (w := w)).mono ?_
  rintro e v1 ⟨rfl, s1, b1⟩
  have D1 := Lib.hid (DS.mk0 s1 (Bytz.below Hr.out b1 (Nat.le_refl _)) (Nat.le_refl _) (by omega))
  have HB1 := Lib.hid b1
  have hlt1 := s1.lt
  clear s1 b1 Hr
  go_wp2_with fail
  refine (l22DrawSpots_any D1.out (by omega)).mono ?_
  rintro e v2 ⟨A1, c1, xs, rfl, hx, o2, d2, t2⟩
  have hsz2 := t2.size
  have HN0 : Hid (NBS w.heap.size n c 60 A zs w v1 A1 c1 xs (some ⟨v2.heap.size, 0, none⟩) 0 [] (v2.alloc (.cells #[] 2))) := Lib.hid (by
    refine ⟨(o2.mono (by omega)).alloc _, (Own.empty v2 w.heap.size 2 1 (by omega)), ?_, fun a e => (o2.block_lt a e).2.2.1, ?_, hlt1, ?_, touch_alloc t2 _⟩
    · intro a a' e e'
      injection e' with e'
      subst e'
      have := (o2.block_lt a e).2.2.2
      simp only
      omega
    · intro a e
      injection e with e
      subst e
      exact hsz2
    · exact d2.allocD _)
  have hcap := o2.cap
  clear o2 d2 t2 D1
  generalize hln : xs.length = ln at *
  have HLN := Lib.hid hln
  clear hln
  go_wp2_with fail
  go_loopg [6, 7] ln (fun gk v6 v7 wr => ∃ (i : Nat) (A2 : Option Addr) (c2 kk : Nat) (ys : List Int), i ≤ ln ∧ gk + i = ln ∧ v7 = .int .i64 (i : Int) ∧ v6 = .slice A2 i c2 ∧ Hid (ys.length = i) ∧ kk ≤ 60 + 4 * i ∧ NBS w.heap.size n c kk A zs w v1 A1 c1 xs A2 c2 ys wr)
  case atStart => exact ⟨0, _, 0, 60, [], by omega, by omega, rfl, rfl, Lib.hid rfl, by omega, HN0.out⟩
  case round =>
    clear HN0
    obtain ⟨i, A2, c2, kk, ys, hil, hgk, rfl, rfl, HY, hkk, hN⟩ := hrel
    have Hgk := Lib.hid hgk
    have HN := Lib.hid hN
    clear hgk hN
    by_cases hlt : i < ln
    · obtain ⟨ad, uv, hA1, hbl, hu, hcell⟩ := Reads.at_ HN.out.o1.reads (k := i) (by rw [HLN.out]; exact hlt)
      obtain ⟨z, hzv⟩ : ∃ z : Int, uv = .int .i64 z := by
        rw [List.getElem?_map] at hu
        cases hxx : xs[i]? with
        | none => rw [hxx] at hu; cases hu
        | some z => rw [hxx] at hu; exact ⟨z, by simpa using hu.symm⟩
      subst hzv
      subst hA1
      have hadf : v1.heap.size ≤ ad.block := HN.out.f1 _ rfl
      have hne : w.heap.size ≠ ad.block := by omega
      have hi0 : (0 : Int) ≤ (i : Int) := by omega
      have hi1 : (i : Int) < (ln : Int) := by omega
      have hqk : IntKind.i64.wrap ((i : Int) + 1) = (i : Int) + 1 := IntWalk.i64_in _ (by omega)
      have hil12 : i ≤ 62 := by omega
      have HD : Hid (NBS w.heap.size n c kk A zs w v1 (some ad) c1 xs A2 c2 ys wr.drew) := Lib.hid HN.out.drew1
      have HP1 : Hid (Calls Try.prog 27 #[.pointer (some ⟨w.heap.size, 0, none⟩), .int .i64 2] wr.drew fun e w' => ∃ x : Int, e = .returned (.int .i64 x) ∧ 0 ≤ x ∧ x ≤ 65535 ∧ NBS w.heap.size n c (kk + 2) A zs w v1 (some ad) c1 xs A2 c2 ys w' ∧ w'.cell? (ad.add i) = some (.int .i64 z)) := Lib.hid
        ((HD.out.d.pick (by omega) 2).mono fun e w' ⟨x, h1, h2, _, h4, d, t⟩ => ⟨x, h1, h2, h4, HD.out.call d t, (World.cell?_of_block (t.block (ad.add i).block (by rw [block_of_add]; exact hbl) (fun a e => by injection e with e; subst e; rw [block_of_add]; exact hne))).trans hcell⟩)
      have HP2 : Hid (∀ w5, NBS w.heap.size n c (kk + 2) A zs w v1 (some ad) c1 xs A2 c2 ys w5 → w5.cell? (ad.add i) = some (.int .i64 z) → Calls Try.prog 27 #[.pointer (some ⟨w.heap.size, 0, none⟩), .int .i64 5] w5 fun e w' => ∃ x : Int, e = .returned (.int .i64 x) ∧ 0 ≤ x ∧ x ≤ 65535 ∧ NBS w.heap.size n c (kk + 4) A zs w v1 (some ad) c1 xs A2 c2 ys w' ∧ w'.cell? (ad.add i) = some (.int .i64 z)) := Lib.hid
        (fun w5 h5 hc5 => (h5.d.pick (by omega) 5).mono fun e w' ⟨x, h1, h2, _, h4, d, t⟩ => ⟨x, h1, h2, h4, h5.call d t, (World.cell?_of_block (t.block (ad.add i).block (by rw [block_of_add]; exact (h5.o1.block_lt _ rfl).2.2.2) (fun a e => by injection e with e; subst e; rw [block_of_add]; exact hne))).trans hc5⟩)
      have hcD : wr.drew.cell? (ad.add i) = some (.int .i64 z) := hcell
      have hwv : w.heap.size ≤ v1.heap.size := by omega
      have HO2 : Hid (∀ w6, NBS w.heap.size n c (kk + 4) A zs w v1 (some ad) c1 xs A2 c2 ys w6 → ∀ o, Own (w6.alloc o) w.heap.size 2 1 A2 i c2 (ys.map (Value.int .i64)) ∧ w.heap.size ≤ (w6.alloc o).heap.size) := Lib.hid (fun w6 h6 o => by
        have := h6.o2.alloc o
        rw [HY.out] at this
        exact ⟨this, by have := h6.d.sz; simp; omega⟩)
      have HAp : Hid (∀ (w6 w7 : World) (o : Obj) (A3 : Option Addr) (c3 : Nat) (zz : Int), NBS w.heap.size n c (kk + 4) A zs w v1 (some ad) c1 xs A2 c2 ys w6 → Own w7 w.heap.size 2 1 A3 (i + 1) c3 ((ys.map (Value.int .i64)) ++ [.int .i64 zz]) → (w6.alloc o).grownBy w7 (A2.map (·.block)) → Below w.heap.size (w6.alloc o) w7 → (A3.map (·.block) = A2.map (·.block) ∨ A3.map (·.block) = some (w6.alloc o).heap.size) →
          NBS w.heap.size n c (kk + 4) A zs w v1 (some ad) c1 xs A3 c3 (ys ++ [zz]) w7) := Lib.hid (fun w6 w7 o A3 c3 zz h6 ho hg hb hat => h6.app hwv (by rw [HY.out]; exact ho) hg hb hat)
      clear HN HD
      go_wp2_with fail
      go_region_law (first
        | (refine step_app _ (by rfl) (.tmp 19) (.tmp 30) 26 (by rfl) 2 i0 _ 1 8 Try.underlying26 hi hz0 hz1 hz2 rfl (by omega) (by omega) w.heap.size _ _ _ _ (by rfl) (HO2.out w6 h6 _).1 ⟨w6.heap.size, 0, none⟩ 1 1 [_] (by rfl) (by rfl) (cell_one_new _ _ _) (by simp [Value.oneCell']) (by omega) (HO2.out w6 h6 _).2 ?_; intro A3 c3 w7 o3 hgA hbA hat)
        | (go_simp; go_at_call 27; with_reducible refine HP1.out.mono ?_; rintro e w5 ⟨x, rfl, x0, x1, h5, hc5⟩)
        | (go_simp; go_at_call 27; with_reducible refine (HP2.out w5 h5 hc5).mono ?_; rintro e w6 ⟨y, rfl, y0, y1, h6, hc6⟩; have hxy0 := Int.mul_nonneg x0 y0; have hxy1 : x * y ≤ 65535 * 65535 := Int.mul_le_mul x1 y1 y0 (by omega); have qxy : IntKind.i64.wrap (x * y) = x * y := IntWalk.i64_in _ (by omega))
        | fail)
      all_goals
        have hN7 := HAp.out _ _ _ _ _ _ h6 o3 hgA hbA hat
        have hgk := Hgk.out
        clear o3 hgA hbA hat h6 h5 hc5 hc6
        go_wp2_with fail
        go_roundg (gk - 1)
        case rel => exact ⟨i + 1, A3, c3, _, _, by omega, by omega, by go_num, rfl, Lib.hid (by rw [List.length_append, HY.out]; rfl), by omega, hN7⟩
        case measure => omega
    · have hie : i = ln := by omega
      subst hie
      have hd : ¬ (i : Int) < (i : Int) := by omega
      have HF : Hid (∀ (wx : World) (A3 : Option Addr) (c3 k3 : Nat) (ys3 : List Int), ys3.length ≤ 63 → NBS w.heap.size n c k3 A zs w v1 A1 c1 xs A3 c3 ys3 wx → DrawNB w (.returned (.tuple #[.slice A1 i c1, .slice A3 ys3.length c3])) wx) := Lib.hid (fun wx A3 c3 k3 ys3 hl h3 =>
        ⟨A1, c1, xs, A3, c3, ys3, by rw [HLN.out], by rw [HLN.out]; omega, hl, h3.o1, h3.o2, HB1.out.trans ((h3.t.bel (Nat.le_of_lt hlt1)).mono (by omega))⟩)
      have hi62 : i ≤ 62 := by omega
      go_wp2_with fail
      refine (HN.out.d.pick (by omega) 12).mono ?_
      rintro e w3 ⟨x, rfl, _, _, _, d3, t3⟩
      have h3 := HN.out.call d3 t3
      have H3 := Lib.hid h3
      clear d3 t3 h3 HN
      by_cases hx0 : x = 0
      · subst hx0
        have ho2 := H3.out.o2.alloc (.cells #[.int .i64 3] 2)
        rw [HY.out] at ho2
        have hsz3 : w.heap.size ≤ (w3.alloc (.cells #[.int .i64 3] 2)).heap.size := by have := H3.out.d.sz; simp; omega
        go_wp2_with (at_builtin; refine wpList_app rfl _ _ 26 rfl 2 i0 _ 1 8 Try.underlying26 hi hz0 hz1 hz2 rfl (by omega) (by omega) w.heap.size _ _ _ _ rfl ho2 ⟨w3.heap.size, 0, none⟩ 1 1 [.int .i64 3] rfl rfl (cell_one_new _ _ _) (by simp [Value.oneCell']) (by omega) hsz3 ?_)
        intro A3 c3 w4 ho3 hgA hbA hat
        have hat2 : A3.map (·.block) = A2.map (·.block) ∨ A3.map (·.block) = some (w3.alloc (.cells #[.int .i64 3] 2)).heap.size := by
          rcases hat with e | ⟨a, q1, q2⟩
          · exact .inl e
          · exact .inr (by rw [q1]; simp [q2])
        have h4 := H3.out.app (by omega) (by rw [HY.out]; exact ho3) hgA hbA hat2
        have hfin := Lib.hid (HF.out w4 A3 c3 _ (ys ++ [3]) (by rw [List.length_append, HY.out]; simp; omega) h4)
        rw [show (ys ++ [(3 : Int)]).length = i + 1 by rw [List.length_append, HY.out]; rfl] at hfin
        clear ho3 hgA hbA hat hat2 h4 ho2 H3 HF
        go_wp2_with fail
        exact bodyPost_ret (v := .tuple #[.slice A1 i c1, .slice A3 (i + 1) c3]) (by simp [results, Try.results12, go_sem]) rfl hfin.out
      have b0 : (x == 0) = false := by rw [beq_eq_false_iff_ne]; exact hx0
      by_cases hx1 : x = 1 ∧ 0 < i
      · obtain ⟨hx1, hip⟩ := hx1
        subst hx1
        have hin : (0 : Int) < (i : Int) := by omega
        obtain ⟨z0, yr, hys⟩ : ∃ z0 yr, ys = z0 :: yr := by
          cases ys with
          | nil => have := HY.out; simp at this; omega
          | cons a r => exact ⟨a, r, rfl⟩
        subst hys
        rcases H3.out.o2.2 with ⟨e0, _⟩ | ⟨g, cap, cur, e0, _⟩
        · injection e0 with _ e0
          have := HY.out
          omega
        · injection e0 with e0 _ ec
          subst e0
          subst ec
          have hc0 : w3.cell? ⟨g, 0, none⟩ = some (.int .i64 z0) := by rw [H3.out.o2.cellAt (j := 0) (by have := HY.out; omega)]; rfl
          have hf0 := H3.out.o2.frozenAt (j := 0)
          have hlr : (wrap64 (z0 - 1) :: yr).length = i := HY.out
          have hfin := Lib.hid (HF.out _ _ c2 _ (wrap64 (z0 - 1) :: yr) (by rw [hlr]; omega) (H3.out.store0 (wrap64 (z0 - 1))))
          rw [hlr] at hfin
          clear H3 HF hlr
          go_wp2_with fail
          exact bodyPost_ret (v := .tuple #[.slice A1 i c1, .slice (some ⟨g, 0, none⟩) i c2]) (by simp [results, Try.results12, go_sem]) rfl hfin.out
      have hfin := Lib.hid (HF.out w3 A2 c2 _ ys (by rw [HY.out]; omega) H3.out)
      rw [HY.out] at hfin
      clear H3 HF
      by_cases hx2 : x = 1
      · subst hx2
        have hi00 : i = 0 := by
          rcases Nat.eq_zero_or_pos i with h | h
          · exact h
          · exact absurd ⟨rfl, h⟩ hx1
        have hin : ¬ (0 : Int) < (i : Int) := by omega
        clear hx1 hi00
        go_wp2_with fail
        exact bodyPost_ret (v := .tuple #[.slice A1 i c1, .slice A2 i c2]) (by simp [results, Try.results12, go_sem]) rfl hfin.out
      · have b1 : (x == 1) = false := by rw [beq_eq_false_iff_ne]; exact hx2
        clear hx1
        go_wp2_with fail
        exact bodyPost_ret (v := .tuple #[.slice A1 i c1, .slice A2 i c2]) (by simp [results, Try.results12, go_sem]) rfl hfin.out
end Go.Proofs.Ytppbfdlgpehanaa
