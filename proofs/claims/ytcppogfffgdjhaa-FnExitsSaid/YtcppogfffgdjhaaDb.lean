/- The reference's draw of places and walks: what it answers is valid. -/
import Derived.Test.YtcppogfffgdjhaaDa
import Derived.Test.YtcppogfffgdjhaaWa
import Derived.Test.YtcppogfffgdjhaaWb
namespace Go.Proofs.Ytcppogfffgdjhaa
open Go.RowKit
set_option maxRecDepth 100000
set_option linter.unusedVariables false
set_option linter.unusedSimpArgs false

theorem walk_one (x : WalkR) : ∀ u ∈ x.cells, u.oneCell' = true := by
  intro u hx
  simp only [WalkR.cells, List.mem_cons, List.not_mem_nil, or_false] at hx
  rcases hx with rfl | rfl | rfl | rfl <;> rfl
theorem cells_newD (w : World) (xs : List Value) (t : TypeId) : ∀ j u, xs[j]? = some u → (w.alloc (.cells xs.toArray t)).cell? ((⟨w.heap.size, 0, none⟩ : Addr).add j) = some u := by
  intro j u hu
  rw [Addr.add_lit, Nat.zero_add]
  simpa using hu

theorem info_WalkD : (Try.prog.info? 43).map (fun i => (i.zero, i.size, i.bytes)) = some (some (.agg #[.int .i64 0, .int .i64 0, .int .i64 0, .bool false]), 4, 32) := by kernel_rfl
theorem Touch.cell {w w' : World} {A : Option Addr} (t : Touch w w' A) {p : Addr} (hp : p.block < w.heap.size) (hn : ∀ a, A = some a → a.block ≠ p.block) : w'.cell? p = w.cell? p := World.cell?_of_block (t.block p.block hp hn)
theorem Touch.frozen {w w' : World} {A : Option Addr} (t : Touch w w' A) {p : Addr} (hp : p.block < w.heap.size) (hn : ∀ a, A = some a → a.block ≠ p.block) : w'.frozen? p = w.frozen? p := World.frozen?_of_block (t.block p.block hp hn)
theorem touch_set (w : World) (x j : Nat) (v : Value) : Touch w (w.setCell ⟨x, j, none⟩ v) (some ⟨x, 0, none⟩) :=
  ⟨rfl, rfl, rfl, by simp [World.setCell], fun k hk hn => Below.heap_setCell _ _ _ _ (by have := hn ⟨x, 0, none⟩ rfl; simp only at this ⊢; omega)⟩
theorem Src.far {w w' : World} {b x n c k : Nat} {A : Option Addr} (h : Src w b A n c k) (t : Touch w w' (some ⟨x, 0, none⟩)) (hx : x ≠ b) : Src w' b A n c k := by
  obtain ⟨a, ha, hc⟩ := h.pos
  obtain ⟨z, hz, hd⟩ := h.seed
  have q : ∀ j, w'.cell? ⟨b, j, none⟩ = w.cell? ⟨b, j, none⟩ := fun j => t.cell (p := ⟨b, j, none⟩) h.lt (fun a e => by injection e with e; subst e; exact hx)
  exact ⟨(q 0).trans h.code, ⟨a, ha, (q 1).trans hc⟩, ⟨z, hz, (q 2).trans hd⟩,
    fun j => (t.frozen (p := ⟨b, j, none⟩) h.lt (fun a e => by injection e with e; subst e; exact hx)).trans (h.frz j), Nat.lt_of_lt_of_le h.lt t.size⟩
/-- A walk in a block of its own. -/
structure Loc4 (w : World) (x : Nat) (f t s : Int) (ld : Bool) : Prop where
  c0 : w.cell? ⟨x, 0, none⟩ = some (.int .i64 f)
  c1 : w.cell? ⟨x, 1, none⟩ = some (.int .i64 t)
  c2 : w.cell? ⟨x, 2, none⟩ = some (.int .i64 s)
  c3 : w.cell? ⟨x, 3, none⟩ = some (.bool ld)
  fz : ∀ j, w.frozen? ⟨x, j, none⟩ = false
  lt : x < w.heap.size
theorem Loc4.touch {w w' : World} {x b : Nat} {f t s : Int} {ld : Bool} (h : Loc4 w x f t s ld) (ht : Touch w w' (some ⟨b, 0, none⟩)) (hb : b ≠ x) : Loc4 w' x f t s ld :=
  have k : ∀ j, w'.cell? ⟨x, j, none⟩ = w.cell? ⟨x, j, none⟩ := fun j => ht.cell (p := ⟨x, j, none⟩) h.lt (fun a e => by injection e with e; subst e; exact hb)
  ⟨(k 0).trans h.c0, (k 1).trans h.c1, (k 2).trans h.c2, (k 3).trans h.c3, fun j => (ht.frozen (p := ⟨x, j, none⟩) h.lt (fun a e => by injection e with e; subst e; exact hb)).trans (h.fz j), Nat.lt_of_lt_of_le h.lt ht.size⟩
theorem Loc4.set2 {w : World} {x : Nat} {f t s s' : Int} {ld : Bool} (h : Loc4 w x f t s ld) : Loc4 (w.setCell ⟨x, 2, none⟩ (.int .i64 s')) x f t s' ld :=
  ⟨src_cell h.c2 h.c0, src_cell h.c2 h.c1, src_cell h.c2 h.c2, src_cell h.c2 h.c3, fun j => by rw [World.frozen?_setCell]; exact h.fz j, by simpa [World.setCell] using h.lt⟩
theorem Loc4.set3 {w : World} {x : Nat} {f t s : Int} {ld ld' : Bool} (h : Loc4 w x f t s ld) : Loc4 (w.setCell ⟨x, 3, none⟩ (.bool ld')) x f t s ld' :=
  ⟨src_cell h.c3 h.c0, src_cell h.c3 h.c1, src_cell h.c3 h.c2, src_cell h.c3 h.c3, fun j => by rw [World.frozen?_setCell]; exact h.fz j, by simpa [World.setCell] using h.lt⟩
theorem okW_snoc {p : Nat} {l : List WalkR} {x : WalkR} (h : OkW p l) (hx : OkX p x) : OkW p (l ++ [x]) := by
  intro k hk
  rw [List.length_append] at hk
  by_cases e : k < l.length
  · have : WalkR.at_ (l ++ [x]) k = WalkR.at_ l k := by simp [WalkR.at_, List.getD, List.getElem?_append_left e]
    rw [this]; exact h k e
  · have e : k = l.length := by simp at hk; omega
    have : WalkR.at_ (l ++ [x]) k = x := by simp [WalkR.at_, List.getD, e]
    rw [this]; exact hx

/-- Places and walks that are valid, in memory of the call's own. -/
def WalksPost (b : Nat) (w : World) (e : Ending) (w' : World) : Prop := ∃ (p : Nat) (A2 : Option Addr) (n2 c2 : Nat) (l : List WalkR), e = .returned (.tuple #[.int .i64 p, .slice A2 n2 c2]) ∧ 2 ≤ p ∧ p ≤ 7 ∧ n2 ≤ 14 ∧ OkW p l ∧
  Own w' w.heap.size 43 4 A2 n2 c2 (l.flatMap WalkR.cells) ∧ Below b w w'
set_option maxHeartbeats 2000000 in
theorem l23Draw_any {b B n c : Nat} {A : Option Addr} {zs : List Int} {w : World} (h : Src w b A n c 0) (hr : Bytz w B A n zs) (hB : B ≤ b) (hn : n ≤ 140737488351232) :
    Calls Try.prog 21 #[.pointer (some ⟨b, 0, none⟩)] w (WalksPost b w) := by
  obtain ⟨i0, hi, hz0, hz1, hz2⟩ := info_parts info_WalkD
  have hlt := h.lt
  have hB2 : B ≤ w.heap.size := by omega
  have H := Lib.hid h
  have Hr := Lib.hid hr
  clear h hr
  go_enter Try.func21, Try.ntmps21
  go_wp2_with fail
  refine (pick_any (m := 6) H.out Hr.out hB hn (by omega)).mono ?_
  rintro e w1 ⟨p0, rfl, h0, h1, _, s1, t1⟩
  have h1' : p0 ≤ 5 := by omega
  have hq1 : IntKind.i64.wrap (2 + p0) = 2 + p0 := IntWalk.i64_in _ (by omega)
  have b1 := t1.below (B := b) (fun a e => by injection e with e; subst e; exact Nat.le_refl _) (by omega)
  have hs1 := t1.size
  have Hs1 := Lib.hid s1
  clear s1 t1 h1
  go_wp2_with fail
  obtain ⟨p, hp⟩ : ∃ p : Int, 2 + p0 = p := ⟨_, rfl⟩
  have hp2 : 2 ≤ p ∧ p ≤ 7 := by omega
  rw [hp]
  clear hp hq1 h1' h0
  refine (pick_any (m := 14) (Src.below Hs1.out ((Below.refl w1.heap.size _).alloc (Nat.le_refl _) _) (by omega)) (Bytz.below Hr.out (b1.alloc (by omega) _) hB) hB hn (by omega)).mono ?_
  rintro e w2 ⟨k0, rfl, h0, h1, _, s2, t2⟩
  have h1' : k0 ≤ 13 := by omega
  obtain ⟨K0, rfl⟩ := Int.eq_ofNat_of_zero_le h0
  have ho2 : Own w2 w.heap.size 43 4 (some ⟨w1.heap.size, 0, none⟩) 0 0 (([] : List WalkR).flatMap WalkR.cells) :=
    ((Own.empty w1 w1.heap.size 43 4 (Nat.le_refl _)).mono hs1).touch t2 (by intro a a' e e'; injection e with e; injection e' with e'; subst e; subst e'; simp only; omega)
  have b2 : Below b w w2 := (b1.alloc (by omega) _).trans (t2.below (B := b) (fun a e => by injection e with e; subst e; exact Nat.le_refl _) (by simp; omega))
  have hs2 : w.heap.size ≤ w2.heap.size := by have := t2.size; simp at this; omega
  have Hs2 := Lib.hid (s2.more (show _ ≤ 10 by omega))
  clear s2 t2 h1 b1 hs1 Hs1
  go_wp2_with fail
  go_loopg [5, 6] K0 (fun gk vo vk wr => ∃ (k : Nat) (A2 : Option Addr) (c2 : Nat) (l : List WalkR) (m : Nat), gk = k ∧ vk = .int .i64 k ∧ vo = .slice A2 l.length c2 ∧ l.length + k ≤ 13 ∧ OkW p.toNat l ∧
    Own wr w.heap.size 43 4 A2 l.length c2 (l.flatMap WalkR.cells) ∧ Src wr b A n c m ∧ m + 20 * k ≤ 1000 ∧ Below b w wr ∧ w.heap.size ≤ wr.heap.size)
  case atStart => exact ⟨K0, _, 0, [], 10, rfl, rfl, rfl, by simp; omega, fun k hk => by simp at hk, ho2, Hs2.out, by omega, b2, hs2⟩
  case round =>
    clear ho2 b2 hs2 Hs2
    obtain ⟨k, A2, c2, l, m, hgk, rfl, rfl, hlk, hok, ho, hsrc, hm, hb, hbs⟩ := hrel
    have Hgk := Lib.hid hgk
    have Hok := Lib.hid hok
    have Hsrc := Lib.hid hsrc
    have Ho := Lib.hid ho
    clear hgk hok hsrc ho
    by_cases hk0 : 0 < k
    · have hk1 : (0 : Int) < (k : Int) := by omega
      have hqk : IntKind.i64.wrap ((k : Int) - 1) = (k : Int) - 1 := IntWalk.i64_in _ (by omega)
      go_wp2_with fail
      refine (pick_any (m := p) Hsrc.out (Bytz.below Hr.out hb hB) hB hn (by omega)).mono ?_
      rintro e w3 ⟨f, rfl, f0, f1, _, s3, t3⟩
      have f2 : f < p := by omega
      have b3 := hb.trans (t3.below (B := b) (fun a e => by injection e with e; subst e; exact Nat.le_refl _) (by omega))
      have Hs3 := Lib.hid s3
      have Ho3 := Lib.hid (Ho.out.touch t3 (by intro a a' e e'; injection e with e; subst e; have := (Ho.out.block_lt a' e').2.2.1; simp only; omega))
      have hz3 : w.heap.size ≤ w3.heap.size := Nat.le_trans hbs t3.size
      clear s3 t3 hb f1 Ho Hsrc hbs
      go_wp2_with fail
      refine (pick_any (m := p) Hs3.out (Bytz.below Hr.out b3 hB) hB hn (by omega)).mono ?_
      rintro e w4 ⟨t, rfl, t0, t1, _, s4, t4⟩
      have t2 : t < p := by omega
      have b4 := b3.trans (t4.below (B := b) (fun a e => by injection e with e; subst e; exact Nat.le_refl _) (by omega))
      have Hs4 := Lib.hid s4
      have Ho4 := Lib.hid (Ho3.out.touch t4 (by intro a a' e e'; injection e with e; subst e; have := (Ho3.out.block_lt a' e').2.2.1; simp only; omega))
      have hz4 : w.heap.size ≤ w4.heap.size := Nat.le_trans hz3 t4.size
      clear s4 t4 b3 t1 Ho3 Hs3 hz3
      go_wp2_with fail
      have L5 : Loc4 (w4.alloc (.cells #[.int .i64 f, .int .i64 t, .int .i64 0, .bool false] 43)) w4.heap.size f t 0 false := ⟨by simp, by simp, by simp, by simp, fun j => by simp, by simp⟩
      have b5 : Below b w (w4.alloc (.cells #[.int .i64 f, .int .i64 t, .int .i64 0, .bool false] 43)) := b4.alloc (by omega) _
      have S5 := Lib.hid (Src.below Hs4.out ((Below.refl w4.heap.size _).alloc (Nat.le_refl _) (.cells #[.int .i64 f, .int .i64 t, .int .i64 0, .bool false] 43)) (by omega))
      have O5 := Lib.hid (Ho4.out.alloc (.cells #[.int .i64 f, .int .i64 t, .int .i64 0, .bool false] 43))
      have hz5 : w.heap.size ≤ (w4.alloc (.cells #[.int .i64 f, .int .i64 t, .int .i64 0, .bool false] 43)).heap.size := by simp; omega
      have hbx : b ≠ w4.heap.size := by omega
      have hxw : w.heap.size ≤ w4.heap.size := hz4
      have hax : Apart (some ⟨w4.heap.size, 0, none⟩) A2 := by intro a a' e e'; injection e with e; subst e; have := (Ho4.out.block_lt a' e').2.2.2; simp only; omega
      clear Ho4 Hs4 b4
      generalize (w4.alloc (.cells #[.int .i64 f, .int .i64 t, .int .i64 0, .bool false] 43)) = w5 at *
      generalize w4.heap.size = x at *
      refine (pick_any (m := 12) S5.out (Bytz.below Hr.out b5 hB) hB hn (by omega)).mono ?_
      rintro e w6 ⟨y, rfl, y0, y1, _, s6, t6⟩
      have y2 : y ≤ 11 := by omega
      have hqy1 : IntKind.i64.wrap (1 + y) = 1 + y := IntWalk.i64_in _ (by omega)
      have hqy2 : IntKind.i64.wrap (10 * (1 + y)) = 10 * (1 + y) := IntWalk.i64_in _ (by omega)
      have L6 := Lib.hid (L5.touch t6 hbx)
      have b6 := b5.trans (t6.below (B := b) (fun a e => by injection e with e; subst e; exact Nat.le_refl _) (by omega))
      have S6 := Lib.hid s6
      have O6 := Lib.hid (O5.out.touch t6 (by intro a a' e e'; injection e with e; subst e; have := (O5.out.block_lt a' e').2.2.1; simp only; omega))
      have hz6 : w.heap.size ≤ w6.heap.size := Nat.le_trans hz5 t6.size
      clear s6 t6 b5 y1 O5 S5 hz5 L5
      have c2 := L6.out.c2
      have fz2 := L6.out.fz 2
      have L7 := Lib.hid (L6.out.set2 (s' := 10 * (1 + y)))
      have T7 := touch_set w6 x 2 (.int .i64 (10 * (1 + y)))
      have S7 := Lib.hid (S6.out.far T7 hbx.symm)
      have O7 := Lib.hid (O6.out.touch T7 hax)
      have b7 := b6.setCell (p := ⟨x, 2, none⟩) (by simp only; omega) (.int .i64 (10 * (1 + y)))
      have hz7 : w.heap.size ≤ (w6.setCell ⟨x, 2, none⟩ (.int .i64 (10 * (1 + y)))).heap.size := Nat.le_trans hz6 T7.size
      clear L6 T7 S6 O6 b6 hz6
      go_wp2_with fail
      clear c2 fz2
      generalize w6.setCell ⟨x, 2, none⟩ (.int .i64 (10 * (1 + y))) = w7 at *
      refine (one_any (m := 4) S7.out (Bytz.below Hr.out b7 hB) hB hn (by omega)).mono ?_
      rintro e w8 ⟨ld, rfl, s8, t8⟩
      have L8 := Lib.hid (L7.out.touch t8 hbx)
      have b8 := b7.trans (t8.below (B := b) (fun a e => by injection e with e; subst e; exact Nat.le_refl _) (by omega))
      have O8 := Lib.hid (O7.out.touch t8 (by intro a a' e e'; injection e with e; subst e; have := (O7.out.block_lt a' e').2.2.1; simp only; omega))
      have hz8 : w.heap.size ≤ w8.heap.size := Nat.le_trans hz7 t8.size
      have T9 := touch_set w8 x 3 (.bool ld)
      have S9 := Lib.hid (s8.far T9 hbx.symm)
      have O9 := Lib.hid (O8.out.touch T9 hax)
      have L9 := Lib.hid (L8.out.set3 (ld' := ld))
      have b9 := b8.setCell (p := ⟨x, 3, none⟩) (by simp only; omega) (.bool ld)
      have hz9 : w.heap.size ≤ (w8.setCell ⟨x, 3, none⟩ (.bool ld)).heap.size := Nat.le_trans hz8 T9.size
      have c3 := L8.out.c3
      have fz3 := L8.out.fz 3
      have c0 := L8.out.c0
      have c1 := L8.out.c1
      have c2 := L8.out.c2
      clear L7 S7 O7 b7 hz7 s8 t8 L8 O8 b8 hz8 T9
      by_cases hft : f = t
      · have e1 : (f != t) = false := by simp [hft]
        clear hft
        go_wp2_with fail
        have hgk := Hgk.out
        go_roundg (gk - 1)
        case rel => exact ⟨k - 1, A2, _, l, _, by omega, by first | (congr 1; omega) | exact int_eq (by omega), rfl, by omega, Hok.out, O9.out, S9.out, by omega, b9, hz9⟩
        case measure => omega
      · have e1 : (f != t) = true := by simp [hft]
        have HX : Hid (OkW p.toNat (l ++ [⟨f, t, 10 * (1 + y), ld⟩])) := Lib.hid (okW_snoc Hok.out ⟨⟨f0, by simp only; omega⟩, ⟨t0, by simp only; omega⟩, hft, by simp only; omega, by simp only; omega⟩)
        clear hft
        have hsz : (w8.setCell ⟨x, 3, none⟩ (.bool ld)).heap.size = w8.heap.size := by simp [World.setCell]
        have hnew := cells_newD (w8.setCell ⟨x, 3, none⟩ (.bool ld)) (WalkR.cells ⟨f, t, 10 * (1 + y), ld⟩) 43
        rw [hsz] at hnew
        have HN := Lib.hid hnew
        rw [hsz] at hz9
        have hz10 : w.heap.size ≤ ((w8.setCell ⟨x, 3, none⟩ (.bool ld)).alloc (.cells (WalkR.cells ⟨f, t, 10 * (1 + y), ld⟩).toArray 43)).heap.size := by simp [World.setCell]; omega
        have Hz10 := Lib.hid hz10
        clear hsz hnew hz10
        go_wp2_with (at_builtin; refine wpList_app rfl _ _ 24 rfl 43 i0 _ 4 32 Try.underlying24 hi hz0 hz1 hz2 rfl (by omega) (by omega) w.heap.size _ _ _ _ rfl (O9.out.alloc _) ⟨w8.heap.size, 0, none⟩ 1 1 (WalkR.cells ⟨f, t, 10 * (1 + y), ld⟩) rfl rfl HN.out (walk_one _) (by omega) Hz10.out ?_)
        intro A5 c5 w10 ho5 hgA hbA hat
        have ho6 : Own w10 w.heap.size 43 4 A5 (l ++ [(⟨f, t, 10 * (1 + y), ld⟩ : WalkR)]).length c5 ((l ++ [(⟨f, t, 10 * (1 + y), ld⟩ : WalkR)]).flatMap WalkR.cells) := by
          rw [List.flatMap_append, List.length_append, List.flatMap_singleton]; exact ho5
        have b10 : Below b w w10 := (b9.alloc (by rw [show (w8.setCell ⟨x, 3, none⟩ (.bool ld)).heap.size = w8.heap.size by simp [World.setCell]]; omega) _).trans (hbA.mono (by omega))
        have S10 := Lib.hid ((Src.below S9.out ((Below.refl _ _).alloc (Nat.le_refl _) _) (by rw [show (w8.setCell ⟨x, 3, none⟩ (.bool ld)).heap.size = w8.heap.size by simp [World.setCell]]; omega)).below hbA hlt)
        have hz11 : w.heap.size ≤ w10.heap.size := Nat.le_trans Hz10.out hbA.size
        clear ho5 hgA hbA hat b9 S9 O9 L9
        go_wp2_with fail
        have hgk := Hgk.out
        go_roundg (gk - 1)
        case rel => exact ⟨k - 1, A5, c5, _, _, by omega, by first | (congr 1; omega) | exact int_eq (by omega), by rw [List.length_append]; rfl, by simp; omega, HX.out, ho6, S10.out, by omega, b10, hz11⟩
        case measure => omega
    · have hd : ¬ (0 : Int) < (k : Int) := by omega
      go_wp2_with fail
      go_ret2
      exact ⟨p.toNat, A2, l.length, _, l, by rw [show ((p.toNat : Nat) : Int) = p by omega]; rfl, by omega, by omega, by omega, Hok.out, Ho.out, hb⟩
end Go.Proofs.Ytcppogfffgdjhaa
