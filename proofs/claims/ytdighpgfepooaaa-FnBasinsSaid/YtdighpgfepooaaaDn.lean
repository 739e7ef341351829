/- The reference's draws of waters, of a gap, of a speed. -/
import Derived.Test.YtdighpgfepooaaaDm
import Derived.Test.YtdighpgfepooaaaDf
namespace Go.Proofs.Ytdighpgfepooaaa
open Go.RowKit
set_option maxRecDepth 100000
set_option linter.unusedVariables false
set_option linter.unusedSimpArgs false

theorem own_keepB {w w' : World} {B e n c b : Nat} {A : Option Addr} {xs : List Value} (h : Own w B e 1 A n c xs) (t : Touch w w' (some ⟨b, 0, none⟩)) (hf : ∀ a, A = some a → b < a.block) : Own w' B e 1 A n c xs :=
  h.touch t (by intro a a' e e'; injection e with e; subst e; have := hf a' e'; simp only; omega)
theorem ints2 (w : World) (p q : Int) (t : TypeId) : Ints (w.alloc (.cells #[.int .i64 p, .int .i64 q] t)) (w.heap.size + 1) (some ⟨w.heap.size, 0, none⟩) 2 [p, q] :=
  ⟨by simp, fun _ => ⟨⟨w.heap.size, 0, none⟩, rfl, Nat.lt_succ_self _, fun j z hz => by rw [Addr.add_lit, Nat.zero_add]; simpa using hz⟩⟩
theorem DS.among2 {B b n c k : Nat} {A : Option Addr} {zs : List Int} {w0 w : World} (h : DS B b A n c zs w0 w k) (hk : k ≤ 1000000) (p q : Int) (t : TypeId) :
    Calls Try.prog 32 #[.pointer (some ⟨b, 0, none⟩), .slice (some ⟨w.heap.size, 0, none⟩) 2 2] (w.alloc (.cells #[.int .i64 p, .int .i64 q] t)) fun e w' => ∃ z : Int, e = .returned (.int .i64 z) ∧ z ∈ [p, q] ∧ DS B b A n c zs w0 w' (k + 2) ∧ Touch w w' (some ⟨b, 0, none⟩) := by
  have h1 := h.allocD (.cells #[.int .i64 p, .int .i64 q] t)
  have hlt := h.lt
  refine (among_any h1.src h1.bz h.hB h.hn hk (ints2 w p q t) (by omega) (by omega) (sz_succ w _) (fun a e => by injection e with e; subst e; simp only; omega)).mono ?_
  rintro e w' ⟨z, he, hx, s1, t1⟩
  exact ⟨z, he, hx, h1.call s1 t1, (touch_alloc (Touch.refl _ _) _).trans t1⟩
theorem ints6 (w : World) (p q r s u v : Int) (t : TypeId) : Ints (w.alloc (.cells #[.int .i64 p, .int .i64 q, .int .i64 r, .int .i64 s, .int .i64 u, .int .i64 v] t)) (w.heap.size + 1) (some ⟨w.heap.size, 0, none⟩) 6 [p, q, r, s, u, v] :=
  ⟨by simp, fun _ => ⟨⟨w.heap.size, 0, none⟩, rfl, Nat.lt_succ_self _, fun j z hz => by rw [Addr.add_lit, Nat.zero_add]; simpa using hz⟩⟩
theorem DS.among6 {B b n c k : Nat} {A : Option Addr} {zs : List Int} {w0 w : World} (h : DS B b A n c zs w0 w k) (hk : k ≤ 1000000) (p q r s u v : Int) (t : TypeId) :
    Calls Try.prog 32 #[.pointer (some ⟨b, 0, none⟩), .slice (some ⟨w.heap.size, 0, none⟩) 6 6] (w.alloc (.cells #[.int .i64 p, .int .i64 q, .int .i64 r, .int .i64 s, .int .i64 u, .int .i64 v] t)) fun e w' => ∃ z : Int, e = .returned (.int .i64 z) ∧ z ∈ [p, q, r, s, u, v] ∧ DS B b A n c zs w0 w' (k + 2) ∧ Touch w w' (some ⟨b, 0, none⟩) := by
  have h1 := h.allocD (.cells #[.int .i64 p, .int .i64 q, .int .i64 r, .int .i64 s, .int .i64 u, .int .i64 v] t)
  have hlt := h.lt
  refine (among_any h1.src h1.bz h.hB h.hn hk (ints6 w p q r s u v t) (by omega) (by omega) (sz_succ w _) (fun a e => by injection e with e; subst e; simp only; omega)).mono ?_
  rintro e w' ⟨z, he, hx, s1, t1⟩
  exact ⟨z, he, hx, h1.call s1 t1, (touch_alloc (Touch.refl _ _) _).trans t1⟩
set_option maxHeartbeats 4000000 in
theorem l16DrawWaters_any {B b n c k : Nat} {A : Option Addr} {zs : List Int} {w0 w : World} (h : DS B b A n c zs w0 w k) (hk : k ≤ 1000) :
    Calls Try.prog 21 #[.pointer (some ⟨b, 0, none⟩)] w (DrawS B b n c (k + 60) A zs w0 w) := by
  obtain ⟨i0, hi, hz0, hz1, hz2⟩ := info_parts info_int
  have hlt := h.lt
  have hsz := h.sz
  have D1 := Lib.hid (h.allocD (.cells #[] 2))
  have T1 := Lib.hid (touch_alloc (Touch.refl w (some ⟨b, 0, none⟩)) (.cells #[] 2))
  have O1 := Lib.hid (Own.empty w w.heap.size 2 1 (Nat.le_refl _))
  clear h
  go_enter Try.func21, Try.ntmps21
  go_wp2_with fail
  refine (D1.out.pick (by omega) 8).mono ?_
  rintro e w2 ⟨x, rfl, g0, g1, g2, d2, t2⟩
  have hx7 : x ≤ 7 := by omega
  obtain ⟨K, rfl⟩ := Int.eq_ofNat_of_zero_le g0
  have D2 := Lib.hid d2
  have T2 := Lib.hid (T1.out.trans t2)
  have O2 := Lib.hid (own_far O1.out t2 hlt)
  clear d2 t2 D1 T1 O1 g1 g2
  go_wp2_with fail
  go_loopg [3, 4] K (fun gk vo vi wr => ∃ (j : Nat) (A2 : Option Addr) (c2 kk : Nat) (xs : List Int), gk = j ∧ vi = .int .i64 (j : Int) ∧ vo = .slice A2 xs.length c2 ∧ Hid (xs.length + j = K) ∧ kk + 4 * j ≤ k + 52 ∧
    Own wr w.heap.size 2 1 A2 xs.length c2 (xs.map (Value.int .i64)) ∧ DS B b A n c zs w0 wr kk ∧ Touch w wr (some ⟨b, 0, none⟩))
  case atStart => exact ⟨K, _, _, k + 2, [], rfl, rfl, rfl, Lib.hid (by simp), by omega, O2.out, D2.out, T2.out⟩
  case round =>
    clear D2 T2 O2
    obtain ⟨j, A2, c2, kk, xs, hgk, rfl, rfl, HX, hkk, ho, hd, ht⟩ := hrel
    have Hgk := Lib.hid hgk
    have Ho := Lib.hid ho
    have Hd := Lib.hid hd
    have Ht := Lib.hid ht
    have hls : w.heap.size ≤ wr.heap.size := ht.size
    have hxl : xs.length ≤ 7 := by have := HX.out; omega
    clear hgk ho hd ht
    by_cases hj0 : j = 0
    · have hi0 : ¬ (0 : Int) < (j : Int) := by omega
      clear hj0
      go_wp2_with fail
      refine (Hd.out.pick (by omega) 18).mono ?_
      rintro e w3 ⟨x, rfl, _, _, _, d3, t3⟩
      have D3 := Lib.hid d3
      have T3 := Lib.hid (Ht.out.trans t3)
      have O3 := Lib.hid (own_far Ho.out t3 hlt)
      have hls3 : w.heap.size ≤ w3.heap.size := T3.out.size
      have hlt3 := d3.lt
      clear d3 t3 Ho Hd Ht
      by_cases hx0 : x = 0
      · subst hx0
        go_wp2_with fail
        refine (D3.out.among4 (by omega) (-1) 0 20000 20001 2).mono ?_
        rintro e w5 ⟨y, rfl, _, d5, t5⟩
        have T5 := Lib.hid (T3.out.trans t5)
        have O5 := Lib.hid (own_far O3.out t5 hlt)
        have D5 := Lib.hid d5
        have hls5 : w.heap.size ≤ w5.heap.size := T5.out.size
        have hsz5 : w.heap.size ≤ (w5.alloc (.cells #[.int .i64 y] 2)).heap.size := by simp; omega
        clear d5 t5 D3 T3 O3
        go_wp2_with (at_builtin; refine wpList_app rfl _ _ 26 rfl 2 i0 _ 1 8 Try.underlying26 hi hz0 hz1 hz2 rfl (by omega) (by omega) w.heap.size _ _ _ _ rfl (O5.out.alloc _) ⟨w5.heap.size, 0, none⟩ 1 1 [.int .i64 y] rfl rfl (cell_one_new _ _ _) (by simp [Value.oneCell']) (by omega) hsz5 ?_)
        intro A3 c3 w6 ho3 hgA hbA hat
        have ho4 : Own w6 w.heap.size 2 1 A3 (xs ++ [y]).length c3 ((xs ++ [y]).map (Value.int .i64)) := by rw [List.map_append, List.length_append]; exact ho3
        have hb6 : Below w.heap.size w5 w6 := (((Below.refl w5.heap.size w5).alloc (Nat.le_refl _) _).mono hls5).trans hbA
        have HF : Hid (DrawS B b n c (k + 60) A zs w0 w (.returned (.slice A3 (xs.length + 1) c3)) w6) := Lib.hid
          ⟨A3, c3, xs ++ [y], by rw [List.length_append]; rfl, by simp; omega, ho4, (D5.out.belowD (hb6.mono hlt) (hb6.mono hsz)).more (by omega), touch_below T5.out hb6 (Nat.le_refl _)⟩
        clear ho3 hgA hbA hat O5 D5 T5 hb6 ho4
        generalize xs.length = ln at *
        go_wp2_with fail
        exact bodyPost_ret (v := .slice A3 (ln + 1) c3) (by simp [results, Try.results21, go_sem]) rfl HF.out
      have b0 : (x == 0) = false := by rw [beq_eq_false_iff_ne]; exact hx0
      by_cases hx1 : x = 1
      · subst hx1
        go_wp2_with fail
        refine (D3.out.among2 (by omega) 24 25 2).mono ?_
        rintro e w5 ⟨y, rfl, hy, d5, t5⟩
        have hy2 : 0 ≤ y ∧ y ≤ 25 := by
          simp only [List.mem_cons, List.not_mem_nil, or_false] at hy
          omega
        obtain ⟨m, rfl⟩ := Int.eq_ofNat_of_zero_le hy2.1
        have hm61 : m ≤ 25 := by omega
        have D5 := Lib.hid d5
        have T5 := Lib.hid (T3.out.trans t5)
        have hls5 : w.heap.size ≤ w5.heap.size := T5.out.size
        clear d5 t5 D3 T3 O3 hy hy2
        go_wp2_with (at_make; refine wpList_make_full _ rfl _ _ 26 rfl w5.heap.size 2 i0 _ 1 Try.underlying26 hi hz0 hz1 _ _ _ _ m rfl rfl rfl rfl (by rw [hz2]; omega) (by simp only [maxLen]; omega) (Nat.le_refl _) ?_)
        intro w6 hown hgrow
        have hb6 : Below w5.heap.size w5 w6 := (Below.refl _ _).grown hgrow (Nat.le_refl _) (by simp)
        have hoC : Own w6 w5.heap.size 2 1 (some ⟨w5.heap.size, 0, none⟩) m m ((List.replicate m (0 : Int)).map (Value.int .i64)) := by simpa [Own, toList_madeCells_one, Value.cells] using hown
        have HF : Hid (DrawS B b n c (k + 60) A zs w0 w (.returned (.slice (some ⟨w5.heap.size, 0, none⟩) m m)) w6) := Lib.hid (by
          have hlen : (List.replicate m (0 : Int)).length = m := List.length_replicate
          refine ⟨some ⟨w5.heap.size, 0, none⟩, m, List.replicate m (0 : Int), by rw [hlen], by omega, by rw [hlen]; exact hoC.mono hls5, ?_, touch_step T5.out hb6⟩
          exact (D5.out.belowD (hb6.mono D5.out.lt) (hb6.mono D5.out.sz)).more (by omega))
        clear hown hgrow hb6 hoC D5 T5
        go_wp2_with fail
        exact bodyPost_ret (v := .slice (some ⟨w5.heap.size, 0, none⟩) m m) (by simp [results, Try.results21, go_sem]) rfl HF.out
      have b1 : (x == 1) = false := by rw [beq_eq_false_iff_ne]; exact hx1
      have HF : Hid (DrawS B b n c (k + 60) A zs w0 w (.returned (.slice A2 xs.length c2)) w3) := Lib.hid ⟨A2, c2, xs, rfl, by omega, O3.out, D3.out.more (by omega), T3.out⟩
      clear D3 T3 O3
      go_wp2_with fail
      exact bodyPost_ret (v := .slice A2 xs.length c2) (by simp [results, Try.results21, go_sem]) rfl HF.out
    · have hi0 : (0 : Int) < (j : Int) := by omega
      have qi : IntKind.i64.wrap ((j : Int) - 1) = (j : Int) - 1 := IntWalk.i64_in _ (by have := HX.out; omega)
      go_wp2_with fail
      refine (Hd.out.pick (by omega) 24).mono ?_
      rintro e w4 ⟨y, rfl, f0, _, f2, d4, t4⟩
      have D4 := Lib.hid d4
      have T4 := Lib.hid (Ht.out.trans t4)
      have O4 := Lib.hid (own_far Ho.out t4 hlt)
      have hls4 : w.heap.size ≤ w4.heap.size := T4.out.size
      have qxy : IntKind.i64.wrap (250 * y) = 250 * y := IntWalk.i64_in _ (by omega)
      have hsz4 : w.heap.size ≤ (w4.alloc (.cells #[.int .i64 (250 * y)] 2)).heap.size := by simp; omega
      clear d4 t4 Ho Hd Ht
      go_wp2_with (at_builtin; refine wpList_app rfl _ _ 26 rfl 2 i0 _ 1 8 Try.underlying26 hi hz0 hz1 hz2 rfl (by omega) (by omega) w.heap.size _ _ _ _ rfl (O4.out.alloc _) ⟨w4.heap.size, 0, none⟩ 1 1 [.int .i64 (250 * y)] rfl rfl (cell_one_new _ _ _) (by simp [Value.oneCell']) (by omega) hsz4 ?_)
      intro A3 c3 w5 ho3 hgA hbA hat
      have ho4 : Own w5 w.heap.size 2 1 A3 (xs ++ [250 * y]).length c3 ((xs ++ [250 * y]).map (Value.int .i64)) := by rw [List.map_append, List.length_append]; exact ho3
      have hb5 : Below w.heap.size w4 w5 := (((Below.refl w4.heap.size w4).alloc (Nat.le_refl _) _).mono hls4).trans hbA
      have D5 := Lib.hid (D4.out.belowD (hb5.mono hlt) (hb5.mono hsz))
      have T5 := Lib.hid (touch_below T4.out hb5 (Nat.le_refl _))
      have hgk := Hgk.out
      clear ho3 hgA hbA hat O4 D4 T4 hb5
      go_wp2_with fail
      go_roundg (j - 1)
      case rel => exact ⟨j - 1, A3, c3, _, xs ++ [250 * y], rfl, by rw [show ((j - 1 : Nat) : Int) = (j : Int) - 1 by omega], by rw [List.length_append]; rfl, Lib.hid (by have := HX.out; simp; omega), by omega, ho4, D5.out, T5.out⟩
      case measure => omega
theorem l16DrawGap_any {B b n c k : Nat} {A : Option Addr} {zs : List Int} {w0 w : World} (h : DS B b A n c zs w0 w k) (hk : k ≤ 10000) :
    Calls Try.prog 22 #[.pointer (some ⟨b, 0, none⟩)] w (DrawI B b n c (k + 4) A zs w0 w) := by
  have H := Lib.hid h
  clear h
  go_enter Try.func22, Try.ntmps22
  go_wp2_with fail
  refine (H.out.among7 (by omega) 0 5 10 30 1440 1441 (-1) 2).mono ?_
  rintro e w2 ⟨y, rfl, _, d2, t2⟩
  have HF : Hid (DrawI B b n c (k + 4) A zs w0 w (.returned (.int .i64 y)) w2) := Lib.hid ⟨y, rfl, d2.more (by omega), t2⟩
  clear d2 t2
  go_wp2_with fail
  exact bodyPost_ret (v := .int .i64 y) (by simp [results, Try.results22, go_sem]) rfl HF.out
theorem l04DrawSpeed_any {B b n c k : Nat} {A : Option Addr} {zs : List Int} {w0 w : World} (h : DS B b A n c zs w0 w k) (hk : k ≤ 10000) :
    Calls Try.prog 40 #[.pointer (some ⟨b, 0, none⟩)] w (DrawI B b n c (k + 4) A zs w0 w) := by
  have H := Lib.hid h
  clear h
  go_enter Try.func40, Try.ntmps40
  go_wp2_with fail
  refine (H.out.one (by omega) 9).mono ?_
  rintro e w1 ⟨x, rfl, d1, t1⟩
  have D1 := Lib.hid d1
  have T1 := Lib.hid t1
  clear d1 t1 H
  cases x with
  | true =>
    go_wp2_with fail
    refine (D1.out.among4 (by omega) (-1) 0 20000 20001 2).mono ?_
    rintro e w2 ⟨y, rfl, _, d2, t2⟩
    have HF : Hid (DrawI B b n c (k + 4) A zs w0 w (.returned (.int .i64 y)) w2) := Lib.hid ⟨y, rfl, d2.more (by omega), T1.out.trans t2⟩
    clear d2 t2
    go_wp2_with fail
    exact bodyPost_ret (v := .int .i64 y) (by simp [results, Try.results40, go_sem]) rfl HF.out
  | false =>
    go_wp2_with fail
    refine (D1.out.pick (by omega) 240).mono ?_
    rintro e w2 ⟨y, rfl, f0, _, f2, d2, t2⟩
    have q1 : IntKind.i64.wrap (50 * y) = 50 * y := IntWalk.i64_in _ (by omega)
    have HF : Hid (DrawI B b n c (k + 4) A zs w0 w (.returned (.int .i64 (50 * y))) w2) := Lib.hid ⟨_, rfl, d2.more (by omega), T1.out.trans t2⟩
    clear d2 t2
    go_wp2_with fail
    exact bodyPost_ret (v := .int .i64 (50 * y)) (by simp [results, Try.results40, go_sem]) rfl HF.out
def DrawDF (w : World) (e : Ending) (w' : World) : Prop := ∃ (p q r s : Int), e = .returned (.tuple #[.int .i64 p, .int .i64 q, .int .i64 r, .int .i64 s]) ∧ Below w.heap.size w w'
set_option maxHeartbeats 2000000 in
theorem drawDrainFor_any {n c : Nat} {A : Option Addr} {zs : List Int} {w : World} (hr : Bytz w w.heap.size A n zs) (hn : n ≤ 1048576) :
    Calls Try.prog 16 #[.slice A n c] w (DrawDF w) := by
  have Hr := Lib.hid hr
  clear hr
  go_enter Try.func16, Try.ntmps16
  go_wp2_with fail
  refine (from_any (n := n) (c := c) (A := A) (w := w)).mono ?_
  rintro e v1 ⟨rfl, s1, b1⟩
  have D1 := Lib.hid (DS.mk0 s1 (Bytz.below Hr.out b1 (Nat.le_refl _)) (Nat.le_refl _) (by omega))
  have HB1 := Lib.hid b1
  have hlt1 := s1.lt
  clear s1 b1 Hr
  go_wp2_with fail
  refine (l04DrawSpeed_any D1.out (by omega)).mono ?_
  rintro e v2 ⟨p, rfl, d2, t2⟩
  have D2 := Lib.hid d2
  have T2 := Lib.hid t2
  clear d2 t2 D1
  go_wp2_with fail
  refine (l04DrawSpeed_any D2.out (by omega)).mono ?_
  rintro e v3 ⟨q, rfl, d3, t3⟩
  have D3 := Lib.hid d3
  have T3 := Lib.hid (T2.out.trans t3)
  clear d3 t3 D2 T2
  go_wp2_with fail
  refine (D3.out.among7 (by omega) 0 1 500 3000 20000 20001 (-1) 2).mono ?_
  rintro e v4 ⟨r, rfl, _, d4, t4⟩
  have D4 := Lib.hid d4
  have T4 := Lib.hid (T3.out.trans t4)
  clear d4 t4 D3 T3
  go_wp2_with fail
  refine (D4.out.among6 (by omega) 1 5 40 1000 1001 0 2).mono ?_
  rintro e v5 ⟨s, rfl, _, d5, t5⟩
  have HF : Hid (DrawDF w (.returned (.tuple #[.int .i64 p, .int .i64 q, .int .i64 r, .int .i64 s])) v5) := Lib.hid ⟨p, q, r, s, rfl, HB1.out.trans (((T4.out.trans t5).bel (Nat.le_of_lt hlt1)))⟩
  clear d5 t5 D4 T4
  go_wp2_with fail
  exact bodyPost_ret (v := .tuple #[.int .i64 p, .int .i64 q, .int .i64 r, .int .i64 s]) (by simp [results, Try.results16, go_sem]) rfl HF.out
end Go.Proofs.Ytdighpgfepooaaa
