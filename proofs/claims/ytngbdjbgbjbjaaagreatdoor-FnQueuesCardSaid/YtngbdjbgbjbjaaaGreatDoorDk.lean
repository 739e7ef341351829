/- The reference's draws of arrivals and of numbers about them. -/
import Derived.Test.YtngbdjbgbjbjaaaGreatDoorDf
namespace Go.Proofs.YtngbdjbgbjbjaaaGreatDoor
open Go.RowKit
set_option maxRecDepth 100000
set_option linter.unusedVariables false
set_option linter.unusedSimpArgs false

def DrawP (B b n c k : Nat) (A : Option Addr) (zs : List Int) (w0 w : World) (e : Ending) (w' : World) : Prop := ∃ (A2 : Option Addr) (c2 : Nat) (xs : List Int), e = .returned (.slice A2 xs.length c2) ∧ 1 ≤ xs.length ∧ xs.length ≤ 62 ∧ Own w' w.heap.size 2 1 A2 xs.length c2 (xs.map (Value.int .i64)) ∧ DS B b A n c zs w0 w' k ∧ Touch w w' (some ⟨b, 0, none⟩)
set_option maxHeartbeats 4000000 in
theorem l20DrawOk_any {B b n c k : Nat} {A : Option Addr} {zs : List Int} {w0 w : World} (h : DS B b A n c zs w0 w k) (hk : k ≤ 1000) :
    Calls Tryz.prog 40 #[.pointer (some ⟨b, 0, none⟩)] w (DrawP B b n c (k + 60) A zs w0 w) := by
  obtain ⟨i0, hi, hz0, hz1, hz2⟩ := info_parts info_int
  have hlt := h.lt
  have hsz := h.sz
  have D1 := Lib.hid (h.allocD (.cells #[] 2))
  have T1 := Lib.hid (touch_alloc (Touch.refl w (some ⟨b, 0, none⟩)) (.cells #[] 2))
  have O1 := Lib.hid (Own.empty w w.heap.size 2 1 (Nat.le_refl _))
  clear h
  go_enter Tryz.func40, Tryz.ntmps40
  go_wp2_with fail
  refine (D1.out.pick (by omega) 14).mono ?_
  rintro e w2 ⟨x, rfl, g0, g1, g2, d2, t2⟩
  have hx11 : x ≤ 13 := by omega
  obtain ⟨K, rfl⟩ := Int.eq_ofNat_of_zero_le g0
  have D2 := Lib.hid d2
  have T2 := Lib.hid (T1.out.trans t2)
  have O2 := Lib.hid (own_far O1.out t2 hlt)
  clear d2 t2 D1 T1 O1 g1 g2
  go_wp2_with fail
  go_loopg [3, 4] (K + 1) (fun gk vo vi wr => ∃ (j : Nat) (i : Int) (A2 : Option Addr) (c2 kk : Nat) (xs : List Int), gk = j ∧ Hid (i = (j : Int) - 1) ∧ vi = .int .i64 i ∧ vo = .slice A2 xs.length c2 ∧ Hid (xs.length + j = K + 1) ∧ kk + 4 * j ≤ k + 58 ∧
    Own wr w.heap.size 2 1 A2 xs.length c2 (xs.map (Value.int .i64)) ∧ DS B b A n c zs w0 wr kk ∧ Touch w wr (some ⟨b, 0, none⟩))
  case atStart => exact ⟨K + 1, _, _, _, k + 2, [], rfl, Lib.hid (by omega), rfl, rfl, Lib.hid (by simp), by omega, O2.out, D2.out, T2.out⟩
  case round =>
    clear D2 T2 O2
    obtain ⟨j, i, A2, c2, kk, xs, hgk, HI, rfl, rfl, HX, hkk, ho, hd, ht⟩ := hrel
    have Hgk := Lib.hid hgk
    have Ho := Lib.hid ho
    have Hd := Lib.hid hd
    have Ht := Lib.hid ht
    have hls : w.heap.size ≤ wr.heap.size := ht.size
    have hxl : xs.length ≤ 14 := by have := HX.out; omega
    clear hgk ho hd ht
    by_cases hj0 : j = 0
    · have hi0 : ¬ 0 ≤ i := by have := HI.out; omega
      have hne : 1 ≤ xs.length := by have := HX.out; omega
      have HF : Hid (DrawP B b n c (k + 60) A zs w0 w (.returned (.slice A2 xs.length c2)) wr) := Lib.hid ⟨A2, c2, xs, rfl, hne, by omega, Ho.out, Hd.out.more (by omega), Ht.out⟩
      clear Ho Hd Ht HI
      go_wp2_with fail
      exact bodyPost_ret (v := .slice A2 xs.length c2) (by simp [results, Tryz.results40, go_sem]) rfl HF.out
    · have hi0 : 0 ≤ i := by have := HI.out; omega
      have qi : IntKind.i64.wrap (i - 1) = i - 1 := IntWalk.i64_in _ (by have := HI.out; have := HX.out; omega)
      go_wp2_with fail
      refine (Hd.out.pick (by omega) 3).mono ?_
      rintro e w3 ⟨x, rfl, g0, _, g2, d3, t3⟩
      have D3 := Lib.hid d3
      have T3 := Lib.hid (Ht.out.trans t3)
      have O3 := Lib.hid (own_far Ho.out t3 hlt)
      clear d3 t3 Ho Hd Ht
      go_wp2_with fail
      refine (D3.out.pick (by omega) 20).mono ?_
      rintro e w4 ⟨y, rfl, f0, _, f2, d4, t4⟩
      have D4 := Lib.hid d4
      have T4 := Lib.hid (T3.out.trans t4)
      have O4 := Lib.hid (own_far O3.out t4 hlt)
      have hls4 : w.heap.size ≤ w4.heap.size := T4.out.size
      have hxy0 := Int.mul_nonneg g0 f0
      have hxy1 : x * y ≤ 65535 * 65535 := Int.mul_le_mul g2 f2 f0 (by omega)
      have qxy : IntKind.i64.wrap (x * y) = x * y := IntWalk.i64_in _ (by omega)
      have hsz4 : w.heap.size ≤ (w4.alloc (.cells #[.int .i64 (x * y)] 2)).heap.size := by simp; omega
      clear d4 t4 D3 T3 O3 hxy0 hxy1
      go_wp2_with (at_builtin; refine wpList_app rfl _ _ 24 rfl 2 i0 _ 1 8 Tryz.underlying24 hi hz0 hz1 hz2 rfl (by omega) (by omega) w.heap.size _ _ _ _ rfl (O4.out.alloc _) ⟨w4.heap.size, 0, none⟩ 1 1 [.int .i64 (x * y)] rfl rfl (cell_one_new _ _ _) (by simp [Value.oneCell']) (by omega) hsz4 ?_)
      intro A3 c3 w5 ho3 hgA hbA hat
      have ho4 : Own w5 w.heap.size 2 1 A3 (xs ++ [x * y]).length c3 ((xs ++ [x * y]).map (Value.int .i64)) := by rw [List.map_append, List.length_append]; exact ho3
      have hb5 : Below w.heap.size w4 w5 := (((Below.refl w4.heap.size w4).alloc (Nat.le_refl _) _).mono hls4).trans hbA
      have D5 := Lib.hid (D4.out.belowD (hb5.mono hlt) (hb5.mono hsz))
      have T5 := Lib.hid (touch_below T4.out hb5 (Nat.le_refl _))
      have hgk := Hgk.out
      clear ho3 hgA hbA hat O4 D4 T4 hb5
      go_wp2_with fail
      go_roundg (j - 1)
      case rel => exact ⟨j - 1, _, A3, c3, _, xs ++ [x * y], rfl, Lib.hid (by have := HI.out; omega), rfl, by rw [List.length_append]; rfl, Lib.hid (by have := HX.out; simp; omega), by omega, ho4, D5.out, T5.out⟩
      case measure => omega
set_option maxHeartbeats 4000000 in
theorem l20Draw_any {B b n c k : Nat} {A : Option Addr} {zs : List Int} {w0 w : World} (h : DS B b A n c zs w0 w k) (hk : k ≤ 1000) :
    Calls Tryz.prog 19 #[.pointer (some ⟨b, 0, none⟩)] w (DrawS B b n c (k + 70) A zs w0 w) := by
  obtain ⟨i0, hi, hz0, hz1, hz2⟩ := info_parts info_int
  have hlt := h.lt
  have hsz := h.sz
  have H := Lib.hid h
  clear h
  go_enter Tryz.func19, Tryz.ntmps19
  go_wp2_with fail
  refine (l20DrawOk_any H.out hk).mono ?_
  rintro e w2 ⟨A2, c2, xs, rfl, hne, hxl, o2, d2, t2⟩
  have D2 := Lib.hid d2
  have T2 := Lib.hid t2
  have O2 := Lib.hid o2
  clear d2 t2 o2 H
  go_wp2_with fail
  refine (D2.out.pick (by omega) 20).mono ?_
  rintro e w3 ⟨x, rfl, _, _, _, d3, t3⟩
  have D3 := Lib.hid d3
  have T3 := Lib.hid (T2.out.trans t3)
  have O3 := Lib.hid (own_far O2.out t3 hlt)
  have hls3 : w.heap.size ≤ w3.heap.size := T3.out.size
  have hlt3 := d3.lt
  clear d3 t3 D2 T2 O2
  by_cases hx0 : x = 0
  · subst hx0
    go_wp2_with fail
    refine (D3.out.among4 (by omega) (-1) 0 1000 1001 2).mono ?_
    rintro e w5 ⟨y, rfl, _, d5, t5⟩
    have T5 := Lib.hid (T3.out.trans t5)
    have O5 := Lib.hid (own_far O3.out t5 hlt)
    rcases O5.out.2 with ⟨e0, _⟩ | ⟨g, cap, cur, e0, _⟩
    · injection e0 with _ e0; omega
    · injection e0 with e0 _ ec
      subst e0
      subst ec
      have hg := (O5.out.block_lt _ rfl).2.2.1
      have hcell := O5.out.cellAt (j := 0) (by omega)
      obtain ⟨z0, xr, hxs⟩ : ∃ z0 xr, xs = z0 :: xr := by
        cases xs with
        | nil => simp at hne
        | cons a r => exact ⟨a, r, rfl⟩
      have hc0 : w5.cell? ⟨g, 0, none⟩ = some (.int .i64 z0) := by rw [hcell, hxs]; rfl
      have hf0 := O5.out.frozenAt (j := 0)
      have HF : Hid (DrawS B b n c (k + 70) A zs w0 w (.returned (.slice (some ⟨g, 0, none⟩) xs.length c2)) (w5.setCell ⟨g, 0, none⟩ (.int .i64 y))) := Lib.hid (by
        have hlen : (y :: xr).length = xs.length := by rw [hxs]; rfl
        refine ⟨some ⟨g, 0, none⟩, c2, y :: xr, by rw [hlen], by omega, ?_, (d5.setD (by simp only at hg; omega) (by simp only at hg; omega)).more (by omega), touch_setNew T5.out hg⟩
        have := (O5.out.stored (j := 0) (.int .i64 y)).1
        have e : (xs.map (Value.int .i64)).set 0 (.int .i64 y) = (y :: xr).map (Value.int .i64) := by rw [hxs]; rfl
        rw [e] at this
        rw [hlen]
        exact this)
      have hn0 : (0 : Int) < (xs.length : Int) := by omega
      have hxlen : Hid (xs = z0 :: xr) := Lib.hid hxs
      clear hxs hcell d5 t5 T5 O5 D3 T3 O3
      generalize xs.length = ln at *
      go_wp2_with fail
      exact bodyPost_ret (v := .slice (some ⟨g, 0, none⟩) ln c2) (by simp [results, Tryz.results19, go_sem]) rfl HF.out
  have b0 : (x == 0) = false := by rw [beq_eq_false_iff_ne]; exact hx0
  by_cases hx1 : x = 1
  · subst hx1
    go_wp2_with fail
    refine (D3.out.among3 (by omega) 0 60 61 2).mono ?_
    rintro e w5 ⟨y, rfl, hy, d5, t5⟩
    have hy2 : 0 ≤ y ∧ y ≤ 61 := by
      simp only [List.mem_cons, List.not_mem_nil, or_false] at hy
      omega
    obtain ⟨m, rfl⟩ := Int.eq_ofNat_of_zero_le hy2.1
    have hm61 : m ≤ 61 := by omega
    have D5 := Lib.hid d5
    have T5 := Lib.hid (T3.out.trans t5)
    have hls5 : w.heap.size ≤ w5.heap.size := T5.out.size
    clear d5 t5 D3 T3 O3 hy hy2
    go_wp2_with (at_make; refine wpList_make_full _ rfl _ _ 24 rfl w5.heap.size 2 i0 _ 1 Tryz.underlying24 hi hz0 hz1 _ _ _ _ m rfl rfl rfl rfl (by rw [hz2]; omega) (by simp only [maxLen]; omega) (Nat.le_refl _) ?_)
    intro w6 hown hgrow
    have hb6 : Below w5.heap.size w5 w6 := (Below.refl _ _).grown hgrow (Nat.le_refl _) (by simp)
    have hoC : Own w6 w5.heap.size 2 1 (some ⟨w5.heap.size, 0, none⟩) m m ((List.replicate m (0 : Int)).map (Value.int .i64)) := by simpa [Own, toList_madeCells_one, Value.cells] using hown
    have HF : Hid (DrawS B b n c (k + 70) A zs w0 w (.returned (.slice (some ⟨w5.heap.size, 0, none⟩) m m)) w6) := Lib.hid (by
      have hlen : (List.replicate m (0 : Int)).length = m := List.length_replicate
      refine ⟨some ⟨w5.heap.size, 0, none⟩, m, List.replicate m (0 : Int), by rw [hlen], by omega, by rw [hlen]; exact hoC.mono hls5, ?_, touch_step T5.out hb6⟩
      exact (D5.out.belowD (hb6.mono D5.out.lt) (hb6.mono D5.out.sz)).more (by omega))
    clear hown hgrow hb6 hoC D5 T5
    go_wp2_with fail
    exact bodyPost_ret (v := .slice (some ⟨w5.heap.size, 0, none⟩) m m) (by simp [results, Tryz.results19, go_sem]) rfl HF.out
  have b1 : (x == 1) = false := by rw [beq_eq_false_iff_ne]; exact hx1
  have HF : Hid (DrawS B b n c (k + 70) A zs w0 w (.returned (.slice A2 xs.length c2)) w3) := Lib.hid ⟨A2, c2, xs, rfl, by omega, O3.out, D3.out.more (by omega), T3.out⟩
  clear D3 T3 O3
  go_wp2_with fail
  exact bodyPost_ret (v := .slice A2 xs.length c2) (by simp [results, Tryz.results19, go_sem]) rfl HF.out
theorem l20DrawEvery_any {B b n c k : Nat} {A : Option Addr} {zs : List Int} {w0 w : World} (h : DS B b A n c zs w0 w k) (hk : k ≤ 10000) :
    Calls Tryz.prog 20 #[.pointer (some ⟨b, 0, none⟩)] w (DrawI B b n c (k + 4) A zs w0 w) := by
  have H := Lib.hid h
  clear h
  go_enter Tryz.func20, Tryz.ntmps20
  go_wp2_with fail
  refine (H.out.among8 (by omega) 1 2 3 5 10 60 61 0 2).mono ?_
  rintro e w2 ⟨y, rfl, _, d2, t2⟩
  have HF : Hid (DrawI B b n c (k + 4) A zs w0 w (.returned (.int .i64 y)) w2) := Lib.hid ⟨y, rfl, d2.more (by omega), t2⟩
  clear d2 t2
  go_wp2_with fail
  exact bodyPost_ret (v := .int .i64 y) (by simp [results, Tryz.results20, go_sem]) rfl HF.out
theorem l20DrawSeats_any {B b n c k : Nat} {A : Option Addr} {zs : List Int} {w0 w : World} (h : DS B b A n c zs w0 w k) (hk : k ≤ 10000) :
    Calls Tryz.prog 21 #[.pointer (some ⟨b, 0, none⟩)] w (DrawI B b n c (k + 4) A zs w0 w) := by
  have H := Lib.hid h
  clear h
  go_enter Tryz.func21, Tryz.ntmps21
  go_wp2_with fail
  refine (H.out.among8 (by omega) 1 5 8 20 40 1000 1001 0 2).mono ?_
  rintro e w2 ⟨y, rfl, _, d2, t2⟩
  have HF : Hid (DrawI B b n c (k + 4) A zs w0 w (.returned (.int .i64 y)) w2) := Lib.hid ⟨y, rfl, d2.more (by omega), t2⟩
  clear d2 t2
  go_wp2_with fail
  exact bodyPost_ret (v := .int .i64 y) (by simp [results, Tryz.results21, go_sem]) rfl HF.out
theorem l20DrawLimit_any {B b n c k : Nat} {A : Option Addr} {zs : List Int} {w0 w : World} (h : DS B b A n c zs w0 w k) (hk : k ≤ 10000) :
    Calls Tryz.prog 35 #[.pointer (some ⟨b, 0, none⟩)] w (DrawI B b n c (k + 4) A zs w0 w) := by
  have H := Lib.hid h
  clear h
  go_enter Tryz.func35, Tryz.ntmps35
  go_wp2_with fail
  refine (H.out.one (by omega) 9).mono ?_
  rintro e w1 ⟨x, rfl, d1, t1⟩
  have D1 := Lib.hid d1
  have T1 := Lib.hid t1
  clear d1 t1 H
  cases x with
  | true =>
    go_wp2_with fail
    refine (D1.out.among4 (by omega) (-1) 0 100000 100001 2).mono ?_
    rintro e w2 ⟨y, rfl, _, d2, t2⟩
    have HF : Hid (DrawI B b n c (k + 4) A zs w0 w (.returned (.int .i64 y)) w2) := Lib.hid ⟨y, rfl, d2.more (by omega), T1.out.trans t2⟩
    clear d2 t2
    go_wp2_with fail
    exact bodyPost_ret (v := .int .i64 y) (by simp [results, Tryz.results35, go_sem]) rfl HF.out
  | false =>
    go_wp2_with fail
    refine (D1.out.pick (by omega) 90).mono ?_
    rintro e w2 ⟨y, rfl, _, _, _, d2, t2⟩
    have HF : Hid (DrawI B b n c (k + 4) A zs w0 w (.returned (.int .i64 y)) w2) := Lib.hid ⟨y, rfl, d2.more (by omega), T1.out.trans t2⟩
    clear d2 t2
    go_wp2_with fail
    exact bodyPost_ret (v := .int .i64 y) (by simp [results, Tryz.results35, go_sem]) rfl HF.out
end Go.Proofs.YtngbdjbgbjbjaaaGreatDoor
