/- Ballast: BalanceGroups: the program's search. -/
import Derived.Test.YtdighpgfepooaaaPa
import Derived.StillTailTactics
namespace Go.Proofs.Ytdighpgfepooaaa
open Go.RowKit
set_option maxRecDepth 100000
set_option linter.unusedVariables false
set_option linter.unusedSimpArgs false

/-- The program's search, in memory. -/
def bvs (A : Option Addr) (n c : Nat) (room : Int) (Ag : Option Addr) (ng cg : Nat) (Ab : Option Addr) (nb cb : Nat) (s : BS) : List Value :=
  [.int .i64 (s.left : Int), .bool s.spent, .slice A n c, .int .i64 room, .slice Ag ng cg, .slice Ab nb cb, .int .i64 (bbM s), .bool s.best.isSome]
def BPost (bh : Nat) (A : Option Addr) (n c : Nat) (room : Int) (g : List Int) (s : BS) (A0 : Option Addr) (w : World) (e : Ending) (w' : World) : Prop :=
  ∃ (Ag : Option Addr) (cg : Nat) (Ab : Option Addr) (nb cb : Nat), e = .returned (.tuple #[]) ∧ HC w' bh (bvs A n c room Ag g.length cg Ab nb cb s) ∧ Own w' (bh + 1) 2 1 Ag g.length cg (g.map (Value.int .i64)) ∧
    Own w' (bh + 1) 2 1 Ab nb cb ((bbL s).map (Value.int .i64)) ∧ Apart Ag Ab ∧ Touch2 w w' bh A0 ∧ OldNew w A0 Ag
theorem bapart_abs (a b : Int) : absB (a - b) = bapart [a, b] := by unfold absB bapart; rfl

set_option maxHeartbeats 4000000 in
theorem search_zero (A Ag Ab : Option Addr) (n c cg nb cb bh : Nat) (room a b : Int) (l g : List Int) (s : BS) (w : World) (h : Ints w bh A n l) (hn : n ≤ 10)
    (hz : ZOk room [a, b]) (hrm : room ≤ 1000000) (hgl : g.length = n)
    (hc : HC w bh (bvs A n c room Ag g.length cg Ab nb cb s)) (hg : Own w (bh + 1) 2 1 Ag g.length cg (g.map (Value.int .i64))) (hb : Own w (bh + 1) 2 1 Ab nb cb ((bbL s).map (Value.int .i64))) (hap : Apart Ag Ab) :
    Calls Try.prog 38 #[.pointer (some ⟨bh, 0, none⟩), .agg #[.int .i64 a, .int .i64 b]] w (BPost bh A n c room g (bs room (l.drop g.length) g [a, b] s) Ag w) := by
  have hT : l.length = n := h.len
  have Hq : Hid (bs room (l.drop g.length) g [a, b] s = bput s g (bapart [a, b])) := Lib.hid (by rw [List.drop_of_length_le (by omega), bs])
  have hlt := hc.lt
  have Hc := Lib.hid hc
  have Hg := Lib.hid hg
  have Hb := Lib.hid hb
  obtain ⟨w0, hw0⟩ : ∃ w0, w0 = w.alloc (.cells #[.int .i64 a, .int .i64 b] 70) := ⟨_, rfl⟩
  have b0 : Below w.heap.size w w0 := by rw [hw0]; exact (Below.refl _ _).alloc (Nat.le_refl _) _
  have hc0 := hc.below b0 hlt
  have hgI : Ints w0 w0.heap.size Ag g.length g := (hg.below b0).reads
  have c2 : w0.cell? ⟨bh, 2, none⟩ = some (.slice A n c) := hc0.at_ 2 _ rfl
  have c4 : w0.cell? ⟨bh, 4, none⟩ = some (.slice Ag g.length cg) := hc0.at_ 4 _ rfl
  have c5 : w0.cell? ⟨bh, 5, none⟩ = some (.slice Ab nb cb) := hc0.at_ 5 _ rfl
  have c6 : w0.cell? ⟨bh, 6, none⟩ = some (.int .i64 (bbM s)) := hc0.at_ 6 _ rfl
  have c7 : w0.cell? ⟨bh, 7, none⟩ = some (.bool s.best.isSome) := hc0.at_ 7 _ rfl
  have hge : ((g.length : Int) == (n : Int)) = true := by rw [beq_iff_eq]; omega
  have hge2 : decide (g.length = n) = true := by rw [decide_eq_true_eq]; exact hgl
  have hgn : g.length ≤ 1048576 := by omega
  have hs0 : w.heap.size ≤ w0.heap.size := b0.size
  have Hgl := Lib.hid hgl
  have hab : -1000000 ≤ a - b ∧ a - b ≤ 1000000 := by have := hz.2; simp [nth] at this; omega
  have hqs : IntKind.i64.wrap (a - b) = a - b := IntWalk.i64_in _ (by omega)
  have hbz : w.heap.size < w0.heap.size := by rw [hw0]; simp
  clear hc hg hb hT hgl hc0
  have take : s.best = none ∨ (∃ g0 m0, s.best = some (g0, m0) ∧ bapart [a, b] < m0) → Calls Try.prog 38 #[.pointer (some ⟨bh, 0, none⟩), .agg #[.int .i64 a, .int .i64 b]] w (BPost bh A n c room g (bs room (l.drop g.length) g [a, b] s) Ag w) := by
    intro hcase
    have Hp : Hid (bput s g (bapart [a, b]) = ⟨s.left, s.spent, some (g, bapart [a, b])⟩) := Lib.hid (by
      unfold bput
      rcases hcase with e | ⟨g0, m0, e, hlt⟩
      · rw [e]
      · rw [e]; simp only []; rw [if_pos hlt])
    have Hfin : Hid (∀ (w1 : World) (A1 : Option Addr) (c1 : Nat), Own w1 w0.heap.size 2 1 A1 g.length c1 (g.map (Value.int .i64)) → Below w0.heap.size w0 w1 →
        BPost bh A n c room g (bs room (l.drop g.length) g [a, b] s) Ag w (.returned (.tuple #[])) (((w1.setCell ⟨bh, 5, none⟩ (.slice A1 g.length c1)).setCell ⟨bh, 6, none⟩ (.int .i64 (bapart [a, b]))).setCell ⟨bh, 7, none⟩ (.bool true))) := Lib.hid (fun w1 A1 c1 o1 b1' => by
      have b1 := b0.trans (b1'.mono hs0)
      rw [Hq.out, Hp.out]
      have k1 := (((Hc.out.below b1 hlt).set (j := 5) (.slice A1 g.length c1) (by simp [bvs])).set (j := 6) (.int .i64 (bapart [a, b])) (by simp [bvs])).set (j := 7) (.bool true) (by simp [bvs])
      refine ⟨Ag, cg, A1, g.length, c1, rfl, k1, ?_, ?_, ?_, ?_, OldNew.refl _ _⟩
      · exact (((Hg.out.below b1).setFar (Nat.lt_succ_self _) _).setFar (Nat.lt_succ_self _) _).setFar (Nat.lt_succ_self _) _
      · exact (((o1.mono (show bh + 1 ≤ w0.heap.size by omega)).setFar (Nat.lt_succ_self _) _).setFar (Nat.lt_succ_self _) _).setFar (Nat.lt_succ_self _) _
      · exact apart_of Hg.out o1 hs0
      · exact (((Touch2.of_below bh Ag b1).trans (Touch2.of_set _ bh 5 _ Ag) (OldNew.refl _ _)).trans (Touch2.of_set _ bh 6 _ Ag) (OldNew.refl _ _)).trans (Touch2.of_set _ bh 7 _ Ag) (OldNew.refl _ _))
    have Hce : Hid (∀ (w1 : World), Below w0.heap.size w0 w1 → w1.cell? ⟨bh, 5, none⟩ = some (.slice Ab nb cb) ∧ w1.cell? ⟨bh, 6, none⟩ = some (.int .i64 (bbM s)) ∧ w1.cell? ⟨bh, 7, none⟩ = some (.bool s.best.isSome) ∧ (w1.frozen? ⟨bh, 5, none⟩ = false ∧ w1.frozen? ⟨bh, 6, none⟩ = false ∧ w1.frozen? ⟨bh, 7, none⟩ = false)) := Lib.hid (fun w1 b1' => by
      have k := Hc.out.below (b0.trans (b1'.mono hs0)) hlt
      exact ⟨k.at_ 5 _ rfl, k.at_ 6 _ rfl, k.at_ 7 _ rfl, k.fz 5, k.fz 6, k.fz 7⟩)
    rcases hcase with e | ⟨g0, m0, e, hlt2⟩
    · obtain ⟨e1, e2, e3, e4⟩ := bb_none e
      rw [e3] at c7 Hce
      rw [hw0] at c2 c4 c5 c6 c7
      have Hw0 := Lib.hid hw0
      clear e1 e2 e3 e4 e hw0
      go_enter Try.func38, Try.ntmps38
      go_wp2_with fail
      rw [← Hw0.out]
      refine (abs_any _ _ (by omega) (by omega)).mono ?_
      rintro e w' ⟨rfl, rfl⟩
      rw [bapart_abs]
      rw [← Hw0.out] at c2 c4 c5 c6 c7
      go_wp2_with fail
      refine (clone_int_any hgI (Nat.le_refl _) hgn).mono ?_
      rintro e w1 ⟨A1, c1, rfl, o1, b1⟩
      obtain ⟨d5, d6, d7, f5, f6, f7⟩ := Hce.out w1 b1
      have F := Lib.hid (Hfin.out w1 A1 c1 o1 b1)
      clear c2 c4 c5 c6 c7
      go_wp2_with fail
      exact bodyPost_ret (v := .tuple #[]) (by simp [results, Try.results38, go_sem]) rfl F.out
    · obtain ⟨e1, e2, e3, e4⟩ := bb_some e
      rw [e3] at c7 Hce
      rw [e2] at c6 Hce
      rw [hw0] at c2 c4 c5 c6 c7
      have Hw0 := Lib.hid hw0
      have hd : decide (bapart [a, b] < m0) = true := decide_eq_true hlt2
      clear e1 e2 e3 e4 e hw0 hlt2
      go_enter Try.func38, Try.ntmps38
      go_wp2_with fail
      rw [← Hw0.out]
      refine (abs_any _ _ (by omega) (by omega)).mono ?_
      rintro e w' ⟨rfl, rfl⟩
      rw [bapart_abs]
      rw [← Hw0.out] at c2 c4 c5 c6 c7
      go_wp2_with fail
      refine (clone_int_any hgI (Nat.le_refl _) hgn).mono ?_
      rintro e w1 ⟨A1, c1, rfl, o1, b1⟩
      obtain ⟨d5, d6, d7, f5, f6, f7⟩ := Hce.out w1 b1
      have F := Lib.hid (Hfin.out w1 A1 c1 o1 b1)
      clear c2 c4 c5 c6 c7
      go_wp2_with fail
      exact bodyPost_ret (v := .tuple #[]) (by simp [results, Try.results38, go_sem]) rfl F.out
  cases hbs : s.best with
  | none => exact take (.inl hbs)
  | some x =>
    obtain ⟨g0, m0⟩ := x
    by_cases hlt2 : bapart [a, b] < m0
    · exact take (.inr ⟨g0, m0, hbs, hlt2⟩)
    · have Hp : Hid (bput s g (bapart [a, b]) = s) := Lib.hid (by unfold bput; rw [hbs]; simp only []; rw [if_neg hlt2])
      obtain ⟨e1, e2, e3, e4⟩ := bb_some hbs
      rw [e3] at c7
      rw [e2] at c6
      have hd : decide (bapart [a, b] < m0) = false := decide_eq_false hlt2
      have Hfin : Hid (BPost bh A n c room g (bs room (l.drop g.length) g [a, b] s) Ag w (.returned (.tuple #[])) w0) := Lib.hid (by
        rw [Hq.out, Hp.out]
        exact ⟨Ag, cg, Ab, nb, cb, rfl, Hc.out.below b0 hlt, Hg.out.below b0, Hb.out.below b0, hap, Touch2.of_below _ _ b0, OldNew.refl _ _⟩)
      rw [hw0] at c2 c4 c5 c6 c7
      have Hw0 := Lib.hid hw0
      clear take hbs e1 e2 e3 e4 hw0 hlt2
      go_enter Try.func38, Try.ntmps38
      go_wp2_with fail
      rw [← Hw0.out]
      refine (abs_any _ _ (by omega) (by omega)).mono ?_
      rintro e w' ⟨rfl, rfl⟩
      rw [bapart_abs]
      rw [← Hw0.out] at c2 c4 c5 c6 c7
      go_wp2_with fail
      exact bodyPost_ret (v := .tuple #[]) (by simp [results, Try.results38, go_sem]) rfl Hfin.out
end Go.Proofs.Ytdighpgfepooaaa
