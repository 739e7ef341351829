/- The reference's draw of masses. -/
import Derived.Test.YtdighpgfepooaaaDn
import Derived.Deep.DeepCutAuto
import Derived.Deep.CutBlock
namespace Go.Proofs.Ytdighpgfepooaaa
open Go.RowKit
set_option maxRecDepth 100000
set_option linter.unusedVariables false
set_option linter.unusedSimpArgs false

def DrawBG (w : World) (e : Ending) (w' : World) : Prop := ∃ (A2 : Option Addr) (c2 : Nat) (xs : List Int) (ro bu : Int), e = .returned (.tuple #[.slice A2 xs.length c2, .int .i64 ro, .int .i64 bu]) ∧ xs.length ≤ 62 ∧ Own w' w.heap.size 2 1 A2 xs.length c2 (xs.map (Value.int .i64)) ∧ Below w.heap.size w w'
/-- A slice that grows while the source is asked. -/
structure BGS (B b n c k : Nat) (A : Option Addr) (zs : List Int) (w0 : World) (A2 : Option Addr) (c2 : Nat) (xs : List Int) (w : World) : Prop where
  o : Own w w0.heap.size 2 1 A2 xs.length c2 (xs.map (Value.int .i64))
  d : DS B b A n c zs w0 w k
section
variable {B b n c k : Nat} {A : Option Addr} {zs : List Int} {w0 w w' : World} {A2 : Option Addr} {c2 : Nat} {xs : List Int}
theorem BGS.call (h : BGS B b n c k A zs w0 A2 c2 xs w) (hb : b < w0.heap.size) {k' : Nat} (d : DS B b A n c zs w0 w' k') (t : Touch w w' (some ⟨b, 0, none⟩)) : BGS B b n c k' A zs w0 A2 c2 xs w' :=
  ⟨own_far h.o t hb, d⟩
theorem BGS.more (h : BGS B b n c k A zs w0 A2 c2 xs w) {k' : Nat} (hk : k ≤ k') : BGS B b n c k' A zs w0 A2 c2 xs w := ⟨h.o, h.d.more hk⟩
theorem BGS.app (h : BGS B b n c k A zs w0 A2 c2 xs w) (hb : b < w0.heap.size) {o : Obj} {A3 : Option Addr} {c3 : Nat} {y : Int} (ho : Own w' w0.heap.size 2 1 A3 (xs.length + 1) c3 ((xs.map (Value.int .i64)) ++ [.int .i64 y])) (hB : Below w0.heap.size (w.alloc o) w') : BGS B b n c k A zs w0 A3 c3 (xs ++ [y]) w' :=
  have hb5 : Below w0.heap.size w w' := (((Below.refl w.heap.size w).alloc (Nat.le_refl _) _).mono h.d.sz).trans hB
  ⟨by rw [List.map_append, List.length_append]; exact ho, h.d.belowD (hb5.mono hb) hb5⟩
end
set_option maxHeartbeats 8000000 in
theorem drawBalanceGroups_any {n c : Nat} {A : Option Addr} {zs : List Int} {w : World} (hr : Bytz w w.heap.size A n zs) (hn : n ≤ 1048576) :
    Calls Try.prog 10 #[.slice A n c] w (DrawBG w) := by
  obtain ⟨i0, hi, hz0, hz1, hz2⟩ := info_parts info_int
  have Hr := Lib.hid hr
  clear hr
  go_enter Try.func10, Try.ntmps10
  go_wp2_with fail
  refine (from_any (n := n) (c := c) (A := A) (w := w)).mono ?_
  rintro e v1 ⟨rfl, s1, b1⟩
  have hlt1 := s1.lt
  have D1 := Lib.hid (DS.mk0 s1 (Bytz.below Hr.out b1 (Nat.le_refl _)) (Nat.le_refl _) (by omega))
  have HB1 := Lib.hid b1
  have S2 : Hid (BGS w.heap.size w.heap.size n c 0 A zs v1 (some ⟨v1.heap.size, 0, none⟩) 0 [] (v1.alloc (.cells #[] 2))) := Lib.hid
    ⟨Own.empty v1 v1.heap.size 2 1 (Nat.le_refl _), D1.out.allocD _⟩
  clear s1 b1 Hr D1
  go_wp2_with fail
  generalize v1.alloc (.cells #[] 2) = v2 at *
  refine (S2.out.d.pick (by omega) 8).mono ?_
  rintro e v3 ⟨x, rfl, g0, g1, g2, d3, t3⟩
  have hx7 : x ≤ 7 := by omega
  obtain ⟨K, rfl⟩ := Int.eq_ofNat_of_zero_le g0
  have S3 := Lib.hid (S2.out.call hlt1 d3 t3)
  clear d3 t3 S2 g1 g2
  go_wp2_with fail
  go_loopg [6, 7] K (fun gk vo vi wr => ∃ (j : Nat) (A2 : Option Addr) (c2 kk : Nat) (xs : List Int), gk = j ∧ vi = .int .i64 (j : Int) ∧ vo = .slice A2 xs.length c2 ∧ Hid (xs.length + j = K) ∧ kk + 4 * j ≤ 50 ∧ BGS w.heap.size w.heap.size n c kk A zs v1 A2 c2 xs wr)
  case atStart => exact ⟨K, _, _, 2, [], rfl, rfl, rfl, Lib.hid (by simp), by omega, S3.out⟩
  case round =>
    clear S3
    obtain ⟨j, A2, c2, kk, xs, hgk, rfl, rfl, HX, hkk, hs⟩ := hrel
    have Hgk := Lib.hid hgk
    have S := Lib.hid hs
    have hxl : xs.length ≤ 7 := by have := HX.out; omega
    clear hgk hs
    by_cases hj0 : j = 0
    · have hi0 : ¬ (0 : Int) < (j : Int) := by omega
      clear hj0
      go_wp2_with fail
      refine (S.out.d.pick (by omega) 16).mono ?_
      rintro e w3 ⟨x, rfl, _, _, _, d3, t3⟩
      have S3 := Lib.hid (S.out.call hlt1 d3 t3)
      clear d3 t3 S
      go_upto_block 2 with fail
      go_cut [6] (fun v6 wx => ∃ (A3 : Option Addr) (c3 : Nat) (ys : List Int), v6 = .slice A3 ys.length c3 ∧ ys.length ≤ 11 ∧ BGS w.heap.size w.heap.size n c 200 A zs v1 A3 c3 ys wx)
      case first => as_aux_lemma =>
        by_cases hx0 : x = 0
        · subst hx0
          go_wp2_with fail
          refine (S3.out.d.among4 (by omega) 0 1 100000 100001 2).mono ?_
          rintro e w5 ⟨y, rfl, -, d5, t5⟩
          have S5 := Lib.hid (S3.out.call hlt1 d5 t5)
          have hsz5 : v1.heap.size ≤ (w5.alloc (.cells #[.int .i64 y] 2)).heap.size := by have := d5.sz; simp; omega
          clear d5 t5 S3
          go_wp2_with (at_builtin; refine wpList_app rfl _ _ 26 rfl 2 i0 _ 1 8 Try.underlying26 hi hz0 hz1 hz2 rfl (by omega) (by omega) v1.heap.size _ _ _ _ rfl (S5.out.o.alloc _) ⟨w5.heap.size, 0, none⟩ 1 1 [.int .i64 y] rfl rfl (cell_one_new _ _ _) (by simp [Value.oneCell']) (by omega) hsz5 ?_)
          intro A3 c3 w6 ho3 hgA hbA hat
          have S6 := Lib.hid ((S5.out.app hlt1 ho3 hbA).more (show _ ≤ 200 by omega))
          clear ho3 hgA hbA hat S5
          go_wp2_with fail
          go_meet
          exact ⟨A3, c3, xs ++ [y], by rw [List.length_append]; rfl, by simp; omega, S6.out⟩
        have b0 : (x == 0) = false := by rw [beq_eq_false_iff_ne]; exact hx0
        by_cases hx1 : x = 1
        · subst hx1
          go_wp2_with fail
          refine (S3.out.d.among2 (by omega) 10 11 2).mono ?_
          rintro e w5 ⟨y, rfl, hy, d5, t5⟩
          have hy2 : 0 ≤ y ∧ y ≤ 11 := by
            simp only [List.mem_cons, List.not_mem_nil, or_false] at hy
            omega
          obtain ⟨M, rfl⟩ := Int.eq_ofNat_of_zero_le hy2.1
          have hM : M ≤ 11 := by omega
          have hv1 := d5.sz
          have S5 : Hid (BGS w.heap.size w.heap.size n c (kk + 4) A zs v1 (some ⟨w5.heap.size, 0, none⟩) 0 [] (w5.alloc (.cells #[] 2))) := Lib.hid
            ⟨Own.empty w5 v1.heap.size 2 1 hv1, (d5.allocD _).more (by omega)⟩
          clear d5 t5 S3 hy hy2
          go_wp2_with fail
          generalize w5.alloc (.cells #[] 2) = w6 at *
          go_loopg [6, 9] M (fun gk vo vi wr => ∃ (i : Nat) (A3 : Option Addr) (c3 : Nat) (ys : List Int), i ≤ M ∧ gk + i = M ∧ vi = .int .i64 (i : Int) ∧ vo = .slice A3 ys.length c3 ∧ Hid (ys.length = i) ∧ BGS w.heap.size w.heap.size n c (kk + 4) A zs v1 A3 c3 ys wr)
          case atStart => exact ⟨0, _, _, [], by omega, by omega, rfl, rfl, Lib.hid rfl, S5.out⟩
          case round =>
            clear S5
            obtain ⟨i, A3, c3, ys, hil, hgk2, rfl, rfl, HY, hs5⟩ := hrel
            have Hgk2 := Lib.hid hgk2
            have S5 := Lib.hid hs5
            have hyl : ys.length ≤ 11 := by have := HY.out; omega
            clear hgk2 hs5
            by_cases hlt : i < M
            · have hi1 : (i : Int) < (M : Int) := by omega
              have qi : IntKind.i64.wrap ((i : Int) + 1) = (i : Int) + 1 := IntWalk.i64_in _ (by omega)
              have qj : IntKind.i64.wrap (1 + (i : Int)) = 1 + (i : Int) := IntWalk.i64_in _ (by omega)
              have hszr : v1.heap.size ≤ (wr.alloc (.cells #[.int .i64 (1 + (i : Int))] 2)).heap.size := by have := S5.out.d.sz; simp; omega
              go_wp2_with (at_builtin; refine wpList_app rfl _ _ 26 rfl 2 i0 _ 1 8 Try.underlying26 hi hz0 hz1 hz2 rfl (by omega) (by omega) v1.heap.size _ _ _ _ rfl (S5.out.o.alloc _) ⟨wr.heap.size, 0, none⟩ 1 1 [.int .i64 (1 + (i : Int))] rfl rfl (cell_one_new _ _ _) (by simp [Value.oneCell']) (by omega) hszr ?_)
              intro A4 c4 w7 ho3 hgA hbA hat
              have S7 := Lib.hid (S5.out.app hlt1 ho3 hbA)
              clear ho3 hgA hbA hat S5
              go_wp2_with fail
              have hgk2 := Hgk2.out
              go_roundg (gk - 1)
              case rel => exact ⟨i + 1, A4, c4, ys ++ [1 + (i : Int)], by omega, by omega, by go_num, by rw [List.length_append]; rfl, Lib.hid (by have := HY.out; simp; omega), S7.out⟩
              case measure => omega
            · have hi1 : ¬ (i : Int) < (M : Int) := by omega
              go_wp2_with fail
              go_meet
              exact ⟨A3, c3, ys, rfl, hyl, S5.out.more (by omega)⟩
        have b1 : (x == 1) = false := by rw [beq_eq_false_iff_ne]; exact hx1
        go_wp2_with fail
        go_meet
        exact ⟨A2, c2, xs, rfl, by omega, S3.out.more (by omega)⟩
      case rest =>
        obtain ⟨A3, c3, ys, rfl, hyl, hs4⟩ := hcut
        have S4 := Lib.hid hs4
        clear hs4 S3 HX
        go_wp2_with fail
        refine (S4.out.d.pick (by omega) 20).mono ?_
        rintro e w5 ⟨y, rfl, f0, _, f2, d5, t5⟩
        have S5 := Lib.hid (S4.out.call hlt1 d5 t5)
        have q1 : IntKind.i64.wrap (100 * y) = 100 * y := IntWalk.i64_in _ (by omega)
        have q2 : IntKind.i64.wrap (500 + 100 * y) = 500 + 100 * y := IntWalk.i64_in _ (by omega)
        clear d5 t5 S4
        go_wp2_with fail
        refine (S5.out.d.one (by omega) 9).mono ?_
        rintro e w6 ⟨b, rfl, d6, t6⟩
        have S6 := Lib.hid (S5.out.call hlt1 d6 t6)
        clear d6 t6 S5
        have HEnd : Hid (∀ (W : World) (kk : Nat) (ro bu : Int), BGS w.heap.size w.heap.size n c kk A zs v1 A3 c3 ys W → DrawBG w (.returned (.tuple #[.slice A3 ys.length c3, .int .i64 ro, .int .i64 bu])) W) := Lib.hid (fun W kk ro bu S =>
          ⟨A3, c3, ys, ro, bu, rfl, by omega, S.o.mono (by omega), HB1.out.trans (S.d.t.bel (Nat.le_of_lt hlt1))⟩)
        cases b with
        | true =>
          go_wp2_with fail
          refine (S6.out.d.among4 (by omega) 0 1 1000000 1000001 2).mono ?_
          rintro e w7 ⟨ro, rfl, -, d7, t7⟩
          have S7 := Lib.hid (S6.out.call hlt1 d7 t7)
          clear d7 t7 S6
          go_wp2_with fail
          refine (S7.out.d.among7 (by omega) 1 20 200 2100 20000 0 20001 2).mono ?_
          rintro e w8 ⟨bu, rfl, -, d8, t8⟩
          have HF := Lib.hid (HEnd.out w8 _ ro bu (S7.out.call hlt1 d8 t8))
          clear d8 t8 S7 HEnd
          generalize ys.length = ln at *
          go_wp2_with fail
          exact bodyPost_ret (v := .tuple #[.slice A3 ln c3, .int .i64 ro, .int .i64 bu]) (by simp [results, Try.results10, go_sem]) rfl HF.out
        | false =>
          go_wp2_with fail
          refine (S6.out.d.among7 (by omega) 1 20 200 2100 20000 0 20001 2).mono ?_
          rintro e w8 ⟨bu, rfl, -, d8, t8⟩
          have HF := Lib.hid (HEnd.out w8 _ (500 + 100 * y) bu (S6.out.call hlt1 d8 t8))
          clear d8 t8 S6 HEnd
          generalize ys.length = ln at *
          go_wp2_with fail
          exact bodyPost_ret (v := .tuple #[.slice A3 ln c3, .int .i64 (500 + 100 * y), .int .i64 bu]) (by simp [results, Try.results10, go_sem]) rfl HF.out
    · have hi0 : (0 : Int) < (j : Int) := by omega
      have qi : IntKind.i64.wrap ((j : Int) - 1) = (j : Int) - 1 := IntWalk.i64_in _ (by have := HX.out; omega)
      go_wp2_with fail
      refine (S.out.d.pick (by omega) 60).mono ?_
      rintro e w4 ⟨y, rfl, f0, _, f2, d4, t4⟩
      have S4 := Lib.hid (S.out.call hlt1 d4 t4)
      have q1 : IntKind.i64.wrap (10 * y) = 10 * y := IntWalk.i64_in _ (by omega)
      have q2 : IntKind.i64.wrap (60 + 10 * y) = 60 + 10 * y := IntWalk.i64_in _ (by omega)
      have hsz4 : v1.heap.size ≤ (w4.alloc (.cells #[.int .i64 (60 + 10 * y)] 2)).heap.size := by have := d4.sz; simp; omega
      clear d4 t4 S
      go_wp2_with (at_builtin; refine wpList_app rfl _ _ 26 rfl 2 i0 _ 1 8 Try.underlying26 hi hz0 hz1 hz2 rfl (by omega) (by omega) v1.heap.size _ _ _ _ rfl (S4.out.o.alloc _) ⟨w4.heap.size, 0, none⟩ 1 1 [.int .i64 (60 + 10 * y)] rfl rfl (cell_one_new _ _ _) (by simp [Value.oneCell']) (by omega) hsz4 ?_)
      intro A3 c3 w5 ho3 hgA hbA hat
      have S5 := Lib.hid (S4.out.app hlt1 ho3 hbA)
      have hgk := Hgk.out
      clear ho3 hgA hbA hat S4
      go_wp2_with fail
      go_roundg (j - 1)
      case rel => exact ⟨j - 1, A3, c3, _, xs ++ [60 + 10 * y], rfl, by rw [show ((j - 1 : Nat) : Int) = (j : Int) - 1 by omega], by rw [List.length_append]; rfl, Lib.hid (by have := HX.out; simp; omega), by omega, S5.out⟩
      case measure => omega
end Go.Proofs.Ytdighpgfepooaaa
