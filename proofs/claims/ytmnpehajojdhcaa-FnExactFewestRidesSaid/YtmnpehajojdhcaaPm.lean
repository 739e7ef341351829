/- Loads: FewestRides: the reference's search. -/
import Derived.Test.YtmnpehajojdhcaaPl
namespace Go.Proofs.Ytmnpehajojdhcaa
open Go.RowKit
set_option maxRecDepth 100000
set_option linter.unusedVariables false
set_option linter.unusedSimpArgs false

def FPost (bh rb : Nat) (A : Option Addr) (n c bud : Nat) (g : List Nat) (s : FS) (A0 : Option Addr) (w : World) (e : Ending) (w' : World) : Prop :=
  ∃ (vw : Value) (vn : Nat) (Ab : Option Addr) (nb cb : Nat), e = .returned (.bool s.spent) ∧ HC w' bh (nvs A n c rb vw Ab nb cb (fbZ s) vn bud) ∧ Own w' (bh + 1) 2 1 Ab nb cb ((ciN (fbL s)).map (Value.int .i64)) ∧ Touch2 w w' bh A0 ∧
    (s.spent = false → vn = bud - s.left ∧ ∃ (Ag : Option Addr) (cg : Nat), vw = .slice Ag g.length cg ∧ Own w' (bh + 1) 2 1 Ag g.length cg ((ciN g).map (Value.int .i64)) ∧ Apart Ag Ab ∧ OldNew w A0 Ag)

set_option maxHeartbeats 4000000 in
theorem fnext_leaf (m : Nat) (A Ag Ab : Option Addr) (n c cg nb cb bh rb bud u : Nat) (l : List GroupR) (r : RoomR) (g : List Nat) (s : FS) (w : World) (h : Reads w rb 4 A n (l.flatMap GroupR.cells)) (hn : n ≤ 12) (hgl : g.length ≤ n) (hcase : s.left = 0 ∨ g.length = n) (hun : u ≤ 12)
    (hrb : rb < bh) (hbud : bud ≤ 20000) (hl : s.left ≤ bud) (hsp : s.spent = false) (hok : FOk n s) (hc : HC w bh (nvs A n c rb (.slice Ag g.length cg) Ab nb cb (fbZ s) (bud - s.left) bud))
    (hw : Own w (bh + 1) 2 1 Ag g.length cg ((ciN g).map (Value.int .i64))) (hb : Own w (bh + 1) 2 1 Ab nb cb ((ciN (fbL s)).map (Value.int .i64))) (hap : Apart Ag Ab) :
    Calls Try.prog 53 #[.pointer (some ⟨bh, 0, none⟩), .int .i64 (u : Int)] w (FPost bh rb A n c bud g (fs l r (m + 1) g u s) Ag w) := by
  have HL := Lib.hid (GroupR.count h)
  have hlt := hc.lt
  have Hq : Hid (fs l r (m + 1) g u s = if s.left = 0 then ⟨0, true, s.best⟩ else if g.length = l.length then fput ⟨s.left - 1, false, s.best⟩ g u else (List.range (u + 1)).foldl (fstep l r (fs l r m) g u) ⟨s.left - 1, false, s.best⟩) := Lib.hid (by rw [fs, hsp, if_neg (by simp)])
  have d5 : w.cell? ⟨bh, 5, none⟩ = some (.int .i64 ((bud - s.left : Nat) : Int)) := hc.at_ 5 _ rfl
  have f5 := hc.fz 5
  obtain ⟨n1, hn1⟩ : ∃ n1, bud - s.left + 1 = n1 := ⟨_, rfl⟩
  have hqn : IntKind.i64.wrap (((bud - s.left : Nat) : Int) + 1) = (n1 : Int) := by rw [IntWalk.i64_in _ (by omega)]; omega
  have Hc1 : Hid (HC (w.setCell ⟨bh, 5, none⟩ (.int .i64 (n1 : Int))) bh (nvs A n c rb (.slice Ag g.length cg) Ab nb cb (fbZ s) n1 bud)) := Lib.hid (hc.set (j := 5) (.int .i64 (n1 : Int)) (by simp [nvs]))
  have Hw1 := Lib.hid (hw.setFar (j := 5) (Nat.lt_succ_self bh) (.int .i64 (n1 : Int)))
  have Hb1 := Lib.hid (hb.setFar (j := 5) (Nat.lt_succ_self bh) (.int .i64 (n1 : Int)))
  have Ht1 := Lib.hid (Touch2.of_set w bh 5 (.int .i64 (n1 : Int)) Ag)
  have Hap := Lib.hid hap
  have Hok := Lib.hid hok
  have Hn1 := Lib.hid hn1
  have Hgn : Hid (s.left ≠ 0 → g.length = n) := Lib.hid (fun x => by rcases hcase with e | e; exact absurd e x; exact e)
  clear h hok hc hw hb hap hsp hn1 hcase
  obtain ⟨W1, hW1⟩ : ∃ W1, w.setCell ⟨bh, 5, none⟩ (.int .i64 (n1 : Int)) = W1 := ⟨_, rfl⟩
  rw [hW1] at Hc1 Hw1 Hb1 Ht1
  have HW1 := Lib.hid hW1
  have d5' : W1.cell? ⟨bh, 5, none⟩ = some (.int .i64 (n1 : Int)) := Hc1.out.at_ 5 _ rfl
  have d6' : W1.cell? ⟨bh, 6, none⟩ = some (.int .i64 (bud : Int)) := Hc1.out.at_ 6 _ rfl
  rw [← HW1.out] at d5' d6'
  clear hW1
  by_cases hl0 : s.left = 0
  · have hd : decide (bud < n1) = true := by rw [decide_eq_true_eq]; have := Hn1.out; omega
    have hd2 : decide ((bud : Int) < (n1 : Int)) = true := by rw [decide_eq_true_eq]; have := Hn1.out; omega
    have HF : Hid (∀ d, FPost bh rb A n c bud g (fs l r (m + 1) g u s) Ag w (.returned (.bool true)) (W1.drewN d)) := Lib.hid (fun d => by
      rw [Hq.out, if_pos hl0]
      exact ⟨.slice Ag g.length cg, n1, Ab, nb, cb, rfl, Hc1.out.drewN d, own_drewN Hb1.out d, Ht1.out.trans (Touch2.of_below bh Ag (below_drewN (Below.refl W1.heap.size W1) d)) (OldNew.refl _ _), fun x => by cases x⟩)
    have Hl0 := Lib.hid hl0
    clear hl0
    go_enter Try.func53, Try.ntmps53
    go_wp2_with fail
    rw [HW1.out]
    rw [HW1.out] at d5' d6'
    go_quiet (fail)
    go_wp2_with fail
    go_ret
    exact HF.out _
  · have hd : decide (bud < n1) = false := by rw [decide_eq_false_iff_not]; have := Hn1.out; omega
    have hd2 : decide ((bud : Int) < (n1 : Int)) = false := by rw [decide_eq_false_iff_not]; have := Hn1.out; omega
    have hgn := Hgn.out hl0
    have Hqq : Hid (fs l r (m + 1) g u s = fput ⟨s.left - 1, false, s.best⟩ g u) := Lib.hid (by rw [Hq.out, if_neg hl0, if_pos (by rw [HL.out]; exact hgn)])
    have Hn2 : Hid (n1 = bud - (s.left - 1)) := Lib.hid (by have := Hn1.out; omega)
    have Hl0 := Lib.hid hl0
    have hge : ((g.length : Int) == (n : Int)) = true := by rw [beq_iff_eq]; omega
    have hge2 : decide (g.length = n) = true := by rw [decide_eq_true_eq]; exact hgn
    have Hgn2 := Lib.hid hgn
    clear hl0 hgn
    obtain ⟨fz, hfz⟩ : ∃ fz, fbZ s = fz := ⟨_, rfl⟩
    rw [hfz] at Hc1
    have hcases : ((fz < 0 ∨ (u : Int) < fz) ∧ fput ⟨s.left - 1, false, s.best⟩ g u = ⟨s.left - 1, false, some (g, u)⟩) ∨ (¬ fz < 0 ∧ ¬ (u : Int) < fz ∧ fput ⟨s.left - 1, false, s.best⟩ g u = ⟨s.left - 1, false, s.best⟩) := by
      cases hbs : s.best with
      | none => left; rw [(fb_none hbs).2.2.2] at hfz; exact ⟨.inl (by omega), by unfold fput; rfl⟩
      | some x =>
        obtain ⟨g0, m0⟩ := x
        rw [(fb_some hbs).2.2.2] at hfz
        by_cases hlt2 : u < m0
        · left; exact ⟨.inr (by omega), by unfold fput; simp only []; rw [if_pos hlt2]⟩
        · right; exact ⟨by omega, by omega, by unfold fput; simp only []; rw [if_neg hlt2]⟩
    have Hfz := Lib.hid hfz
    clear hfz
    have HFin : Hid (∀ (w1 : World) (A1 : Option Addr) (c1 d : Nat), fput ⟨s.left - 1, false, s.best⟩ g u = ⟨s.left - 1, false, some (g, u)⟩ → Own w1 ((W1.drewN d).setCell ⟨bh, 4, none⟩ (.int .i64 (u : Int))).heap.size 2 1 A1 g.length c1 ((ciN g).map (Value.int .i64)) → Below ((W1.drewN d).setCell ⟨bh, 4, none⟩ (.int .i64 (u : Int))).heap.size ((W1.drewN d).setCell ⟨bh, 4, none⟩ (.int .i64 (u : Int))) w1 →
        FPost bh rb A n c bud g (fs l r (m + 1) g u s) Ag w (.returned (.bool false)) (w1.setCell ⟨bh, 3, none⟩ (.slice A1 g.length c1)) ∧ w1.cell? ⟨bh, 3, none⟩ = some (.slice Ab nb cb) ∧ w1.frozen? ⟨bh, 3, none⟩ = false) := Lib.hid (fun w1 A1 c1 d hp o1 b1 => by
      have hcS := (Hc1.out.drewN d).set (j := 4) (.int .i64 (u : Int)) (by simp [nvs])
      have hgS := (own_drewN Hw1.out d).setFar (j := 4) (Nat.lt_succ_self bh) (.int .i64 (u : Int))
      have hk := hcS.below b1 hcS.lt
      refine ⟨?_, hk.at_ 3 _ rfl, hk.fz 3⟩
      rw [Hqq.out, hp]
      refine ⟨.slice Ag g.length cg, n1, A1, g.length, c1, rfl, hk.set (j := 3) (.slice A1 g.length c1) (by simp [nvs]), (o1.mono (show bh + 1 ≤ _ from hcS.lt)).setFar (Nat.lt_succ_self _) _, ?_, fun _ => ⟨Hn2.out, Ag, cg, rfl, (hgS.below b1).setFar (Nat.lt_succ_self _) _, apart_of hgS o1 (Nat.le_refl _), OldNew.refl _ _⟩⟩
      exact (((Ht1.out.trans (Touch2.of_below bh Ag (below_drewN (Below.refl W1.heap.size W1) d)) (OldNew.refl _ _)).trans (Touch2.of_set _ bh 4 _ Ag) (OldNew.refl _ _)).trans (Touch2.of_below bh Ag b1) (OldNew.refl _ _)).trans (Touch2.of_set _ bh 3 _ Ag) (OldNew.refl _ _))
    have HFin2 : Hid (∀ d, fput ⟨s.left - 1, false, s.best⟩ g u = ⟨s.left - 1, false, s.best⟩ → FPost bh rb A n c bud g (fs l r (m + 1) g u s) Ag w (.returned (.bool false)) (W1.drewN d)) := Lib.hid (fun d hp => by
      rw [Hqq.out, hp]
      exact ⟨.slice Ag g.length cg, n1, Ab, nb, cb, rfl, (by have := Hc1.out.drewN d; rw [← Hfz.out] at this; exact this), own_drewN Hb1.out d, Ht1.out.trans (Touch2.of_below bh Ag (below_drewN (Below.refl W1.heap.size W1) d)) (OldNew.refl _ _), fun _ => ⟨Hn2.out, Ag, cg, rfl, own_drewN Hw1.out d, Hap.out, OldNew.refl _ _⟩⟩)
    have c0 : ∀ d, (W1.drewN d).cell? ⟨bh, 0, none⟩ = some (.slice A n c) := fun d => Hc1.out.at_ 0 _ rfl
    have c2 : ∀ d, (W1.drewN d).cell? ⟨bh, 2, none⟩ = some (.slice Ag g.length cg) := fun d => Hc1.out.at_ 2 _ rfl
    have c4 : ∀ d, (W1.drewN d).cell? ⟨bh, 4, none⟩ = some (.int .i64 fz) := fun d => Hc1.out.at_ 4 _ rfl
    have f4 : ∀ d, (W1.drewN d).frozen? ⟨bh, 4, none⟩ = false := fun d => Hc1.out.fz 4
    have c2s : ∀ d, ((W1.drewN d).setCell ⟨bh, 4, none⟩ (.int .i64 (u : Int))).cell? ⟨bh, 2, none⟩ = some (.slice Ag g.length cg) := fun d => ((Hc1.out.drewN d).set (j := 4) (.int .i64 (u : Int)) (by simp [nvs])).at_ 2 _ rfl
    have HOI : Hid (∀ d, Ints ((W1.drewN d).setCell ⟨bh, 4, none⟩ (.int .i64 (u : Int))) ((W1.drewN d).setCell ⟨bh, 4, none⟩ (.int .i64 (u : Int))).heap.size Ag g.length (ciN g)) := Lib.hid (fun d => ((own_drewN Hw1.out d).setFar (j := 4) (Nat.lt_succ_self bh) (.int .i64 (u : Int))).reads)
    have hgn12 : g.length ≤ 1048576 := by omega
    rcases hcases with ⟨hc1 | hc1, hp⟩ | ⟨h1, h2, hp⟩
    · have Hp := Lib.hid hp
      have hd3 : decide (fz < 0) = true := decide_eq_true hc1
      clear hp hc1
      go_enter Try.func53, Try.ntmps53
      go_wp2_with fail
      rw [HW1.out]
      rw [HW1.out] at d5' d6'
      go_quiet (fail)
      go_wp2_with fail
      refine (l00Own_any (HOI.out _) (Nat.le_refl _) hgn12).mono ?_
      rintro e w1 ⟨A1, c1', rfl, o1, b1⟩
      obtain ⟨F, g3, f3⟩ := HFin.out _ _ _ _ Hp.out o1 b1
      have HF := Lib.hid F
      clear F c0 c2 c4 c2s o1 b1
      go_wp2_with fail
      go_ret
      exact HF.out
    · by_cases hneg : fz < 0
      · have Hp := Lib.hid hp
        have hd3 : decide (fz < 0) = true := decide_eq_true hneg
        clear hp hc1 hneg
        go_enter Try.func53, Try.ntmps53
        go_wp2_with fail
        rw [HW1.out]
        rw [HW1.out] at d5' d6'
        go_quiet (fail)
        go_wp2_with fail
        refine (l00Own_any (HOI.out _) (Nat.le_refl _) hgn12).mono ?_
        rintro e w1 ⟨A1, c1', rfl, o1, b1⟩
        obtain ⟨F, g3, f3⟩ := HFin.out _ _ _ _ Hp.out o1 b1
        have HF := Lib.hid F
        clear F c0 c2 c4 c2s o1 b1
        go_wp2_with fail
        go_ret
        exact HF.out
      · have Hp := Lib.hid hp
        have hd3 : decide (fz < 0) = false := decide_eq_false hneg
        have hd4 : decide ((u : Int) < fz) = true := decide_eq_true hc1
        clear hp hc1 hneg
        go_enter Try.func53, Try.ntmps53
        go_wp2_with fail
        rw [HW1.out]
        rw [HW1.out] at d5' d6'
        go_quiet (fail)
        go_wp2_with fail
        refine (l00Own_any (HOI.out _) (Nat.le_refl _) hgn12).mono ?_
        rintro e w1 ⟨A1, c1', rfl, o1, b1⟩
        obtain ⟨F, g3, f3⟩ := HFin.out _ _ _ _ Hp.out o1 b1
        have HF := Lib.hid F
        clear F c0 c2 c4 c2s o1 b1
        go_wp2_with fail
        go_ret
        exact HF.out
    · have Hp := Lib.hid hp
      have hd3 : decide (fz < 0) = false := decide_eq_false h1
      have hd4 : decide ((u : Int) < fz) = false := decide_eq_false h2
      clear hp h1 h2
      go_enter Try.func53, Try.ntmps53
      go_wp2_with fail
      rw [HW1.out]
      rw [HW1.out] at d5' d6'
      go_quiet (fail)
      go_wp2_with fail
      go_ret
      exact HFin2.out _ Hp.out
end Go.Proofs.Ytmnpehajojdhcaa
