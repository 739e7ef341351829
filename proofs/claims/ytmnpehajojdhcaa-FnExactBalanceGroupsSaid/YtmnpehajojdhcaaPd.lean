/- Ballast: BalanceGroups: the reference's search. -/
import Derived.Test.YtmnpehajojdhcaaPc
namespace Go.Proofs.Ytmnpehajojdhcaa
open Go.RowKit
set_option maxRecDepth 100000
set_option linter.unusedVariables false
set_option linter.unusedSimpArgs false

theorem HC.setOther {w : World} {b x j : Nat} {vs : List Value} (h : HC w b vs) (hx : b ≠ x) (v : Value) : HC (w.setCell ⟨x, j, none⟩ v) b vs := h.touch2 (Touch2.of_set w x j v none) hx (fun a e => by cases e)
/-- Of what was there only blocks b, b2 and the block at A may have changed. -/
structure Touch3 (w w' : World) (b b2 : Nat) (A : Option Addr) : Prop where
  os : w'.os = w.os
  tape : w'.tape = w.tape
  output : w'.output = w.output
  size : w.heap.size ≤ w'.heap.size
  block : ∀ k, k < w.heap.size → k ≠ b → k ≠ b2 → (∀ a, A = some a → a.block ≠ k) → w'.heap[k]? = w.heap[k]?
theorem Touch3.refl (w : World) (b b2 : Nat) (A : Option Addr) : Touch3 w w b b2 A := ⟨rfl, rfl, rfl, Nat.le_refl _, fun _ _ _ _ _ => rfl⟩
theorem Touch3.trans {w w1 w2 : World} {b b2 : Nat} {A A1 : Option Addr} (h : Touch3 w w1 b b2 A) (h1 : Touch3 w1 w2 b b2 A1) (ho : OldNew w A A1) : Touch3 w w2 b b2 A :=
  ⟨h1.os.trans h.os, h1.tape.trans h.tape, h1.output.trans h.output, Nat.le_trans h.size h1.size, fun k hk hb hb2 hA => (h1.block k (Nat.lt_of_lt_of_le hk h.size) hb hb2 (fun a ha => by
    rcases ho a ha with ⟨a0, e1, e2⟩ | h2
    · rw [← e2]; exact hA a0 e1
    · omega)).trans (h.block k hk hb hb2 hA)⟩
theorem Touch3.of2 {w w' : World} {b b2 : Nat} {A : Option Addr} (h : Touch2 w w' b A) : Touch3 w w' b b2 A := ⟨h.os, h.tape, h.output, h.size, fun k hk hb _ hA => h.block k hk hb hA⟩
theorem Touch3.of2' {w w' : World} {b b2 : Nat} {A : Option Addr} (h : Touch2 w w' b2 A) : Touch3 w w' b b2 A := ⟨h.os, h.tape, h.output, h.size, fun k hk _ hb hA => h.block k hk hb hA⟩
theorem Touch3.below {w w' : World} {b b2 : Nat} {A : Option Addr} (h : Touch3 w w' b b2 A) {B : Nat} (hB : B ≤ w.heap.size) (hb : B ≤ b) (hb2 : B ≤ b2) (hA : ∀ a, A = some a → B ≤ a.block) : Below B w w' :=
  ⟨h.os, h.tape, h.output, h.size, fun k hk => h.block k (by omega) (by omega) (by omega) (fun a ha => by have := hA a ha; omega)⟩
theorem Touch3.drewN (w : World) (b b2 : Nat) (A : Option Addr) (d : Nat) : Touch3 w (w.drewN d) b b2 A := Touch3.of2 (Touch2.of_below b A (below_drewN (Below.refl _ _) d))

/-- The reference's search, in memory. -/
def cvs (A : Option Addr) (n c : Nat) (room : Int) (Ag : Option Addr) (ng cg sb : Nat) (Ab : Option Addr) (nb cb bud : Nat) (s : BS) : List Value :=
  [.slice A n c, .int .i64 room, .slice Ag ng cg, .slice (some ⟨sb, 0, none⟩) 2 2, .slice Ab nb cb, .int .i64 (bbZ s), .int .i64 ((bud - s.left : Nat) : Int), .int .i64 (bud : Int), .bool s.spent]
def CPost (bh sb : Nat) (A : Option Addr) (n c : Nat) (room a b : Int) (bud : Nat) (g : List Int) (s : BS) (A0 : Option Addr) (w : World) (e : Ending) (w' : World) : Prop :=
  ∃ (Ag : Option Addr) (cg : Nat) (Ab : Option Addr) (nb cb : Nat), e = .returned (.tuple #[]) ∧ HC w' bh (cvs A n c room Ag g.length cg sb Ab nb cb bud s) ∧ HC w' sb [.int .i64 a, .int .i64 b] ∧ Own w' (bh + 1) 2 1 Ag g.length cg (g.map (Value.int .i64)) ∧
    Own w' (bh + 1) 2 1 Ab nb cb ((bbL s).map (Value.int .i64)) ∧ Apart Ag Ab ∧ Touch3 w w' bh sb A0 ∧ OldNew w A0 Ag
theorem bapart_max (a b : Int) : max (a - b) (b - a) = bapart [a, b] := by unfold bapart; simp only [nth, List.getD_cons_zero, List.getD_cons_succ]; split <;> omega

set_option maxHeartbeats 4000000 in
theorem run_zero (A Ag Ab : Option Addr) (n c cg nb cb bh sb bud : Nat) (room a b : Int) (l g : List Int) (s : BS) (w : World) (h : Ints w sb A n l) (hn : n ≤ 10)
    (hz : ZOk room [a, b]) (hrm : room ≤ 1000000) (hgl : g.length = n) (hsb : sb < bh) (hok : BOk n s)
    (hc : HC w bh (cvs A n c room Ag g.length cg sb Ab nb cb bud s)) (hcs : HC w sb [.int .i64 a, .int .i64 b]) (hg : Own w (bh + 1) 2 1 Ag g.length cg (g.map (Value.int .i64))) (hb : Own w (bh + 1) 2 1 Ab nb cb ((bbL s).map (Value.int .i64))) (hap : Apart Ag Ab) :
    Calls Try.prog 37 #[.pointer (some ⟨bh, 0, none⟩)] w (CPost bh sb A n c room a b bud g (bs room (l.drop g.length) g [a, b] s) Ag w) := by
  have hT : l.length = n := h.len
  have Hq : Hid (bs room (l.drop g.length) g [a, b] s = bput s g (bapart [a, b])) := Lib.hid (by rw [List.drop_of_length_le (by omega), bs])
  have hlt := hc.lt
  have Hc := Lib.hid hc
  have Hcs := Lib.hid hcs
  have Hg := Lib.hid hg
  have Hb := Lib.hid hb
  have c0 : w.cell? ⟨bh, 0, none⟩ = some (.slice A n c) := hc.at_ 0 _ rfl
  have c2 : w.cell? ⟨bh, 2, none⟩ = some (.slice Ag g.length cg) := hc.at_ 2 _ rfl
  have c3 : w.cell? ⟨bh, 3, none⟩ = some (.slice (some ⟨sb, 0, none⟩) 2 2) := hc.at_ 3 _ rfl
  have s0 : w.cell? ⟨sb, 0, none⟩ = some (.int .i64 a) := hcs.at_ 0 _ rfl
  have s1 : w.cell? ⟨sb, 1, none⟩ = some (.int .i64 b) := hcs.at_ 1 _ rfl
  have hge : ((g.length : Int) == (n : Int)) = true := by rw [beq_iff_eq]; omega
  have hge2 : decide (g.length = n) = true := by rw [decide_eq_true_eq]; exact hgl
  have hgn : g.length ≤ 1048576 := by omega
  have Hgl := Lib.hid hgl
  have hab : -1000000 ≤ a - b ∧ a - b ≤ 1000000 := by have := hz.2; simp [nth] at this; omega
  have hqs : IntKind.i64.wrap (a - b) = a - b := IntWalk.i64_in _ (by omega)
  have hqs2 : IntKind.i64.wrap (b - a) = b - a := IntWalk.i64_in _ (by omega)
  have hmx : ∀ d, Calls Try.prog 75 #[.int .i64 (a - b), .int .i64 (b - a)] (w.drewN d) fun e w' => e = .returned (.int .i64 (bapart [a, b])) ∧ w.drewN d = w' := fun d => by
    have := l00Max_any (a - b) (b - a) (w.drewN d)
    rw [bapart_max] at this
    exact this
  clear hc hcs hg hb hT hgl
  have take : s.best = none ∨ (∃ g0 m0, s.best = some (g0, m0) ∧ bapart [a, b] < m0) → Calls Try.prog 37 #[.pointer (some ⟨bh, 0, none⟩)] w (CPost bh sb A n c room a b bud g (bs room (l.drop g.length) g [a, b] s) Ag w) := by
    intro hcase
    have Hp : Hid (bput s g (bapart [a, b]) = ⟨s.left, s.spent, some (g, bapart [a, b])⟩) := Lib.hid (by
      unfold bput
      rcases hcase with e | ⟨g0, m0, e, hlt⟩
      · rw [e]
      · rw [e]; simp only []; rw [if_pos hlt])
    have hcz : decide (bbZ s < 0) = true ∨ (decide (bbZ s < 0) = false ∧ decide (bapart [a, b] < bbZ s) = true) := by
      rcases hcase with e | ⟨g0, m0, e, hlt2⟩
      · left; rw [(bb_none e).2.2.2]; rfl
      · right; rw [(bb_some e).2.2.2]; exact ⟨by have := (hok g0 m0 e).2; simp; omega, by simpa using hlt2⟩
    generalize hdz : bapart [a, b] = dz at *
    rcases hcz with hd1 | ⟨hd1, hd2⟩
    all_goals
      have Hdz := Lib.hid hdz
      clear hdz
      go_enter Try.func37, Try.ntmps37
      go_wp2_with fail
      go_quiet ((go_at_call 75; exact quiet_left (hmx _)))
      rename_i nq
      have Hc0 := Lib.hid (Hc.out.drewN nq)
      have Hcs0 := Lib.hid (Hcs.out.drewN nq)
      have Hg0 := Lib.hid (own_drewN Hg.out nq)
      have hs0 : (w.drewN nq).heap.size = w.heap.size := rfl
      have Ht0 := Lib.hid (Touch2.of_below bh Ag (below_drewN (Below.refl w.heap.size w) nq))
      clear c0 c2 c3 s0 s1 hmx hab hqs hqs2
      generalize w.drewN nq = W0 at *
      have c2 : W0.cell? ⟨bh, 2, none⟩ = some (.slice Ag g.length cg) := Hc0.out.at_ 2 _ rfl
      have c5 : W0.cell? ⟨bh, 5, none⟩ = some (.int .i64 (bbZ s)) := Hc0.out.at_ 5 _ rfl
      have f5 := Hc0.out.fz 5
      have hlt0 := Hc0.out.lt
      have HcS := Lib.hid (Hc0.out.set (j := 5) (.int .i64 dz) (by simp [cvs]))
      have HcsS := Lib.hid (Hcs0.out.setOther (x := bh) (j := 5) (by omega) (.int .i64 dz))
      have HgS := Lib.hid (Hg0.out.setFar (j := 5) (Nat.lt_succ_self bh) (.int .i64 dz))
      have hzS : (W0.setCell ⟨bh, 5, none⟩ (.int .i64 dz)).heap.size = W0.heap.size := by simp [World.setCell]
      have HtS := Lib.hid (Ht0.out.trans (Touch2.of_set W0 bh 5 (.int .i64 dz) Ag) (OldNew.refl _ _))
      obtain ⟨W1, hW1⟩ : ∃ W1, W0.setCell ⟨bh, 5, none⟩ (.int .i64 dz) = W1 := ⟨_, rfl⟩
      rw [hW1] at HcS HcsS HgS hzS HtS
      have HzS := Lib.hid hzS
      have HW1 := Lib.hid hW1
      clear hW1 hzS
      go_wp2_with fail
      rw [HW1.out]
      have hgI : Ints W1 W1.heap.size Ag g.length g := HgS.out.reads
      refine (l00Own_any hgI (Nat.le_refl _) hgn).mono ?_
      rintro e w1 ⟨A1, c1', rfl, o1, b1⟩
      have hk := HcS.out.below b1 HcS.out.lt
      have d4 : w1.cell? ⟨bh, 4, none⟩ = some (.slice Ab nb cb) := hk.at_ 4 _ rfl
      have f4 := hk.fz 4
      have F : Hid (CPost bh sb A n c room a b bud g (bs room (l.drop g.length) g [a, b] s) Ag w (.returned (.tuple #[])) (w1.setCell ⟨bh, 4, none⟩ (.slice A1 g.length c1'))) := Lib.hid (by
        rw [Hq.out, Hp.out]
        refine ⟨Ag, cg, A1, g.length, c1', rfl, hk.set (j := 4) (.slice A1 g.length c1') (by simp [cvs]), (HcsS.out.below b1 HcsS.out.lt).setOther (by omega) _, (HgS.out.below b1).setFar (Nat.lt_succ_self _) _,
          (o1.mono (show bh + 1 ≤ W1.heap.size from HcS.out.lt)).setFar (Nat.lt_succ_self _) _, apart_of HgS.out o1 (Nat.le_refl _), ?_, OldNew.refl _ _⟩
        exact Touch3.of2 ((HtS.out.trans (Touch2.of_below bh Ag b1) (OldNew.refl _ _)).trans (Touch2.of_set _ bh 4 _ Ag) (OldNew.refl _ _)))
      clear c2 c5 hk
      go_wp2_with fail
      exact bodyPost_ret (v := .tuple #[]) (by simp [results, Try.results37, go_sem]) rfl F.out
  cases hbs : s.best with
  | none => exact take (.inl hbs)
  | some x =>
    obtain ⟨g0, m0⟩ := x
    by_cases hlt2 : bapart [a, b] < m0
    · exact take (.inr ⟨g0, m0, hbs, hlt2⟩)
    · have Hp : Hid (bput s g (bapart [a, b]) = s) := Lib.hid (by unfold bput; rw [hbs]; simp only []; rw [if_neg hlt2])
      have hz' := (bb_some hbs).2.2.2
      have hd1 : decide (bbZ s < 0) = false := by rw [hz']; have := (hok g0 m0 hbs).2; simp; omega
      have hd2 : decide (bapart [a, b] < bbZ s) = false := by rw [hz']; simpa using hlt2
      have c5 : ∀ d, (w.drewN d).cell? ⟨bh, 5, none⟩ = some (.int .i64 (bbZ s)) := fun d => Hc.out.at_ 5 _ rfl
      have Hfin : Hid (∀ d, CPost bh sb A n c room a b bud g (bs room (l.drop g.length) g [a, b] s) Ag w (.returned (.tuple #[])) (w.drewN d)) := Lib.hid (fun d => by
        rw [Hq.out, Hp.out]
        exact ⟨Ag, cg, Ab, nb, cb, rfl, Hc.out.drewN d, Hcs.out.drewN d, own_drewN Hg.out d, own_drewN Hb.out d, hap, Touch3.drewN _ _ _ _ _, OldNew.refl _ _⟩)
      clear take hbs hz' hlt2
      generalize bapart [a, b] = dz at *
      go_enter Try.func37, Try.ntmps37
      go_wp2_with fail
      go_quiet ((go_at_call 75; exact quiet_left (hmx _)))
      go_wp2_with fail
      exact bodyPost_ret (v := .tuple #[]) (by simp [results, Try.results37, go_sem]) rfl (Hfin.out _)
end Go.Proofs.Ytmnpehajojdhcaa
