/- Loads: FewestRides: the program's search where it ends. -/
import Derived.Test.YtmnpehajojdhcaaPp
import Derived.StillTailTactics
import Derived.Deep.RegionHeld3
namespace Go.Proofs.Ytmnpehajojdhcaa
open Go.RowKit
set_option maxRecDepth 100000
set_option linter.unusedVariables false
set_option linter.unusedSimpArgs false

/-- The program's search, in memory. -/
def lvs (A : Option Addr) (n c : Nat) (r : RoomR) (Ao : Option Addr) (u co : Nat) (Ag : Option Addr) (ng cg : Nat) (Ab : Option Addr) (nb cb : Nat) (s : FS) : List Value :=
  [.int .i64 (s.left : Int), .bool s.spent, .slice A n c, .int .i64 r.People, .int .i64 r.Bikes, .int .i64 r.Kilos, .slice Ao u co, .slice Ag ng cg, .slice Ab nb cb, .int .i64 (fbM s : Int), .bool s.best.isSome]
def LPost (bh : Nat) (A : Option Addr) (n c : Nat) (r : RoomR) (l : List GroupR) (g : List Nat) (u : Nat) (s : FS) (Ao0 Ag0 : Option Addr) (w : World) (e : Ending) (w' : World) : Prop :=
  ∃ (Ao : Option Addr) (co : Nat) (Ag : Option Addr) (cg : Nat) (Ab : Option Addr) (nb cb : Nat), e = .returned (.tuple #[]) ∧ HC w' bh (lvs A n c r Ao u co Ag g.length cg Ab nb cb s) ∧ Own w' (bh + 1) 36 3 Ao u co ((onL l g u).flatMap RoomR.cells) ∧ Own w' (bh + 1) 2 1 Ag g.length cg ((ciN g).map (Value.int .i64)) ∧
    Own w' (bh + 1) 2 1 Ab nb cb ((ciN (fbL s)).map (Value.int .i64)) ∧ Apart Ao Ag ∧ Apart Ao Ab ∧ Apart Ag Ab ∧ TouchN w w' bh [Ao0, Ag0] ∧ OldNew w Ao0 Ao ∧ OldNew w Ag0 Ag

set_option maxHeartbeats 4000000 in
theorem lsearch_leaf (m : Nat) (A Ao Ag Ab : Option Addr) (n c co cg nb cb bh u : Nat) (l : List GroupR) (r : RoomR) (g : List Nat) (s : FS) (w : World) (h : Reads w bh 4 A n (l.flatMap GroupR.cells)) (hn : n ≤ 12) (hgl : g.length ≤ n) (hun : u ≤ 12) (hcase : s.spent = true ∨ s.left = 0 ∨ g.length = n)
    (hl : s.left ≤ 20000) (hc : HC w bh (lvs A n c r Ao u co Ag g.length cg Ab nb cb s)) (ho : Own w (bh + 1) 36 3 Ao u co ((onL l g u).flatMap RoomR.cells))
    (hw : Own w (bh + 1) 2 1 Ag g.length cg ((ciN g).map (Value.int .i64))) (hb : Own w (bh + 1) 2 1 Ab nb cb ((ciN (fbL s)).map (Value.int .i64))) (ha1 : Apart Ao Ag) (ha2 : Apart Ao Ab) (ha3 : Apart Ag Ab) :
    Calls Try.prog 55 #[.pointer (some ⟨bh, 0, none⟩)] w (LPost bh A n c r l g u (fs l r (m + 1) g u s) Ao Ag w) := by
  have HL := Lib.hid (GroupR.count h)
  have hlt := hc.lt
  have Hq : Hid (fs l r (m + 1) g u s = if s.spent then s else if s.left = 0 then ⟨0, true, s.best⟩ else if g.length = l.length then fput ⟨s.left - 1, false, s.best⟩ g u else (List.range (u + 1)).foldl (fstep l r (fs l r m) g u) ⟨s.left - 1, false, s.best⟩) := Lib.hid (by rw [fs])
  have Hc := Lib.hid hc
  have Ho := Lib.hid ho
  have Hw := Lib.hid hw
  have Hb := Lib.hid hb
  have Ha1 := Lib.hid ha1
  have Ha2 := Lib.hid ha2
  have Ha3 := Lib.hid ha3
  have Hcase := Lib.hid hcase
  have d0 : w.cell? ⟨bh, 0, none⟩ = some (.int .i64 (s.left : Int)) := hc.at_ 0 _ rfl
  have d1 : w.cell? ⟨bh, 1, none⟩ = some (.bool s.spent) := hc.at_ 1 _ rfl
  clear h hc ho hw hb ha1 ha2 ha3 hcase
  cases hsp : s.spent with
  | true =>
    rw [hsp] at d1
    have HF0 : Hid (LPost bh A n c r l g u (fs l r (m + 1) g u s) Ao Ag w (.returned (.tuple #[])) w) := Lib.hid (by
      rw [Hq.out, if_pos hsp]; exact ⟨Ao, co, Ag, cg, Ab, nb, cb, rfl, Hc.out, Ho.out, Hw.out, Hb.out, Ha1.out, Ha2.out, Ha3.out, TouchN.refl _ _ _, OldNew.refl _ _, OldNew.refl _ _⟩)
    clear hsp
    go_enter Try.func55, Try.ntmps55
    go_wp2_with fail
    exact bodyPost_ret (v := .tuple #[]) (by simp [results, Try.results55, go_sem]) rfl HF0.out
  | false =>
  rw [hsp] at d1
  by_cases hl0 : s.left = 0
  · have HF0 : Hid (LPost bh A n c r l g u (fs l r (m + 1) g u s) Ao Ag w (.returned (.tuple #[])) (w.setCell ⟨bh, 1, none⟩ (.bool true))) := Lib.hid (by
      rw [Hq.out, hsp, if_neg (by simp), if_pos hl0]
      have hc1 := Hc.out.set (j := 1) (.bool true) (by simp [lvs])
      refine ⟨Ao, co, Ag, cg, Ab, nb, cb, rfl, ?_, Ho.out.setFar (Nat.lt_succ_self _) _, Hw.out.setFar (Nat.lt_succ_self _) _, Hb.out.setFar (Nat.lt_succ_self _) _, Ha1.out, Ha2.out, Ha3.out, TouchN.of2 (Touch2.of_set _ bh 1 _ none) (.inr rfl), OldNew.refl _ _, OldNew.refl _ _⟩
      simp only [lvs, List.set_cons_succ, List.set_cons_zero, hl0] at hc1
      exact hc1)
    have Hl0 := Lib.hid hl0
    clear hsp hl0
    go_enter Try.func55, Try.ntmps55
    go_wp2_with fail
    refine (node_any (left := s.left) (sp := s.spent) Hc.out hl).mono ?_
    rintro e w' (⟨h0, rfl, rfl⟩ | ⟨h0, rfl, rfl⟩)
    · go_wp2_with fail
      exact bodyPost_ret (v := .tuple #[]) (by simp [results, Try.results55, go_sem]) rfl HF0.out
    · exact absurd Hl0.out (by omega)
  · have hgn : g.length = n := by
      rcases Hcase.out with e | e | e
      · rw [hsp] at e; cases e
      · exact absurd e hl0
      · exact e
    have Hqq : Hid (fs l r (m + 1) g u s = fput ⟨s.left - 1, false, s.best⟩ g u) := Lib.hid (by rw [Hq.out, hsp, if_neg (by simp), if_neg hl0, if_pos (by rw [HL.out]; exact hgn)])
    have hge : ((g.length : Int) == (n : Int)) = true := by rw [beq_iff_eq]; omega
    have hge2 : decide (g.length = n) = true := by rw [decide_eq_true_eq]; exact hgn
    have Hl0 := Lib.hid hl0
    have hc1 : HC (w.setCell ⟨bh, 0, none⟩ (.int .i64 ((s.left - 1 : Nat) : Int))) bh (lvs A n c r Ao u co Ag g.length cg Ab nb cb ⟨s.left - 1, false, s.best⟩) := by
      have := Hc.out.set (j := 0) (.int .i64 ((s.left - 1 : Nat) : Int)) (by simp [lvs])
      simp only [lvs, List.set_cons_zero, hsp] at this
      exact this
    have Hc1 := Lib.hid hc1
    have Ho1 := Lib.hid (Ho.out.setFar (j := 0) (Nat.lt_succ_self bh) (.int .i64 ((s.left - 1 : Nat) : Int)))
    have Hw1 := Lib.hid (Hw.out.setFar (j := 0) (Nat.lt_succ_self bh) (.int .i64 ((s.left - 1 : Nat) : Int)))
    have Hb1 := Lib.hid (Hb.out.setFar (j := 0) (Nat.lt_succ_self bh) (.int .i64 ((s.left - 1 : Nat) : Int)))
    have Ht1 := Lib.hid (TouchN.of2 (As := [Ao, Ag]) (Touch2.of_set w bh 0 (.int .i64 ((s.left - 1 : Nat) : Int)) none) (.inr rfl))
    have Hcc := Lib.hid Hc.out
    have hgn12 : g.length ≤ 1048576 := by omega
    clear hsp hl0 hgn hc1 Hc Ho Hw Hb
    go_enter Try.func55, Try.ntmps55
    go_wp2_with fail
    refine (node_any (left := s.left) (sp := s.spent) Hcc.out hl).mono ?_
    rintro e w' (⟨h0, rfl, rfl⟩ | ⟨h0, rfl, rfl⟩)
    · exact absurd h0 Hl0.out
    clear d0 d1 Hcc
    generalize w.setCell ⟨bh, 0, none⟩ (.int .i64 ((s.left - 1 : Nat) : Int)) = W1 at *
    have hb0 : (⟨s.left - 1, false, s.best⟩ : FS).best = s.best := rfl
    have c2 : W1.cell? ⟨bh, 2, none⟩ = some (.slice A n c) := Hc1.out.at_ 2 _ rfl
    have c6 : W1.cell? ⟨bh, 6, none⟩ = some (.slice Ao u co) := Hc1.out.at_ 6 _ rfl
    have c7 : W1.cell? ⟨bh, 7, none⟩ = some (.slice Ag g.length cg) := Hc1.out.at_ 7 _ rfl
    have c9 : W1.cell? ⟨bh, 9, none⟩ = some (.int .i64 ((fbM s : Nat) : Int)) := Hc1.out.at_ 9 _ rfl
    have c10 : W1.cell? ⟨bh, 10, none⟩ = some (.bool s.best.isSome) := Hc1.out.at_ 10 _ rfl
    have hlt1 := Hc1.out.lt
    obtain ⟨tk, htk⟩ : ∃ tk : Bool, (!s.best.isSome || decide (u < fbM s)) = tk := ⟨_, rfl⟩
    have hput : fput ⟨s.left - 1, false, s.best⟩ g u = if tk then ⟨s.left - 1, false, some (g, u)⟩ else ⟨s.left - 1, false, s.best⟩ := by
      rw [← htk]
      cases hbs : s.best with
      | none => unfold fput; rfl
      | some x =>
        obtain ⟨g0, m0⟩ := x
        have e1 : fbM s = m0 := (fb_some hbs).2.1
        rw [e1]
        unfold fput
        by_cases hx : u < m0
        · simp [hx]
        · simp [hx]
    have Hput := Lib.hid hput
    have hfin : tk = false → LPost bh A n c r l g u (fs l r (m + 1) g u s) Ao Ag w (.returned (.tuple #[])) W1.drew → True := fun _ _ => trivial
    cases tk with
    | false =>
      have Hp : Hid (fput ⟨s.left - 1, false, s.best⟩ g u = ⟨s.left - 1, false, s.best⟩) := Lib.hid (by rw [Hput.out]; rfl)
      have HF : Hid (∀ d, LPost bh A n c r l g u (fs l r (m + 1) g u s) Ao Ag w (.returned (.tuple #[])) (W1.drewN d)) := Lib.hid (fun d => by
        rw [Hqq.out, Hp.out]
        exact ⟨Ao, co, Ag, cg, Ab, nb, cb, rfl, Hc1.out.drewN d, own_drewN Ho1.out d, own_drewN Hw1.out d, own_drewN Hb1.out d, Ha1.out, Ha2.out, Ha3.out, Ht1.out.trans (TouchN.of2 (As := [Ao, Ag]) (Touch2.of_below bh none (below_drewN (Below.refl _ _) d)) (.inr rfl)) (fun A1 h => ⟨A1, h, OldNew.refl _ _⟩), OldNew.refl _ _, OldNew.refl _ _⟩)
      have hh := htk
      rw [Bool.or_eq_false_iff] at hh
      have hf1 : s.best.isSome = true := by simpa using hh.1
      have hf2 : decide (u < fbM s) = false := hh.2
      rw [hf1] at c10
      clear htk hput hfin hh hf1 hb0
      generalize fbM s = fm at *
      go_wp2_with fail
      go_quiet (fail)
      go_wp2_with fail
      exact bodyPost_ret (v := .tuple #[]) (by simp [results, Try.results55, go_sem]) rfl (HF.out _)
    | true =>
      have Hp : Hid (fput ⟨s.left - 1, false, s.best⟩ g u = ⟨s.left - 1, false, some (g, u)⟩) := Lib.hid (by rw [Hput.out]; rfl)
      clear hput hfin hb0
      have HFin : Hid (∀ (d : Nat) (w5 : World) (A5 : Option Addr) (c5 : Nat), Own w5 (W1.drewN d).heap.size 2 1 A5 g.length c5 ((ciN g).map (Value.int .i64)) → Below (W1.drewN d).heap.size (W1.drewN d) w5 →
          LPost bh A n c r l g u (fs l r (m + 1) g u s) Ao Ag w (.returned (.tuple #[])) (((w5.setCell ⟨bh, 8, none⟩ (.slice A5 g.length c5)).setCell ⟨bh, 9, none⟩ (.int .i64 (u : Int))).setCell ⟨bh, 10, none⟩ (.bool true))) := Lib.hid (fun d w5 A5 c5 o5 b5' => by
        have b5 : Below W1.heap.size W1 w5 := (below_drewN (Below.refl W1.heap.size W1) d).trans b5'
        have o5 : Own w5 W1.heap.size 2 1 A5 g.length c5 ((ciN g).map (Value.int .i64)) := o5
        rw [Hqq.out, Hp.out]
        have k1 := (((Hc1.out.below b5 hlt1).set (j := 8) (.slice A5 g.length c5) (by simp [lvs])).set (j := 9) (.int .i64 (u : Int)) (by simp [lvs])).set (j := 10) (.bool true) (by simp [lvs])
        refine ⟨Ao, co, Ag, cg, A5, g.length, c5, rfl, k1, (((Ho1.out.below b5).setFar (Nat.lt_succ_self _) _).setFar (Nat.lt_succ_self _) _).setFar (Nat.lt_succ_self _) _, (((Hw1.out.below b5).setFar (Nat.lt_succ_self _) _).setFar (Nat.lt_succ_self _) _).setFar (Nat.lt_succ_self _) _,
          (((o5.mono (show bh + 1 ≤ W1.heap.size from hlt1)).setFar (Nat.lt_succ_self _) _).setFar (Nat.lt_succ_self _) _).setFar (Nat.lt_succ_self _) _, Ha1.out, apart_of Ho1.out o5 (Nat.le_refl _), apart_of Hw1.out o5 (Nat.le_refl _), ?_, OldNew.refl _ _, OldNew.refl _ _⟩
        have hid : ∀ A1 ∈ [Ao, Ag], ∃ A ∈ [Ao, Ag], OldNew w A A1 := fun A1 h => ⟨A1, h, OldNew.refl _ _⟩
        exact (((Ht1.out.trans (TouchN.of2 (As := [Ao, Ag]) (Touch2.of_below bh none b5) (.inr rfl)) hid).trans (TouchN.of2 (As := [Ao, Ag]) (Touch2.of_set _ bh 8 _ none) (.inr rfl)) hid).trans (TouchN.of2 (As := [Ao, Ag]) (Touch2.of_set _ bh 9 _ none) (.inr rfl)) hid).trans (TouchN.of2 (As := [Ao, Ag]) (Touch2.of_set _ bh 10 _ none) (.inr rfl)) hid)
      have HcW : Hid (HC W1 bh (lvs A n c r Ao u co Ag g.length cg Ab nb cb ⟨s.left - 1, false, s.best⟩)) := Hc1
      have HWI : Hid (Ints W1 W1.heap.size Ag g.length (ciN g)) := Lib.hid Hw1.out.reads
      rcases (show s.best.isSome = false ∨ (s.best.isSome = true ∧ decide (u < fbM s) = true) by
        cases hb : s.best.isSome with
        | false => exact .inl rfl
        | true => rw [hb] at htk; exact .inr ⟨rfl, by simpa using htk⟩) with hf1 | ⟨hf1, hf2⟩
      all_goals
        rw [hf1] at c10
        clear htk hf1
        generalize fbM s = fm at *
        go_wp2_with fail
        go_quiet (fail)
        rename_i nq
        have HFin2 := Lib.hid (HFin.out nq)
        have HC2 := Lib.hid (HcW.out.drewN nq)
        have HI2 : Hid (Ints (W1.drewN nq) (W1.drewN nq).heap.size Ag g.length (ciN g)) := HWI
        clear c2 c6 c7 c9 c10 HFin HcW HWI Hc1 Ho1 Hw1 Hb1 Ht1
        generalize W1.drewN nq = W2 at *
        have hltw := HC2.out.lt
        have HOw : Hid (Calls Try.prog 78 #[.slice Ag g.length cg] W2.drew fun e w' => ∃ A' c', e = .returned (.slice A' g.length c') ∧ Own w' W2.heap.size 2 1 A' g.length c' ((ciN g).map (Value.int .i64)) ∧ Below W2.heap.size W2 w') := Lib.hid
          ((clone_int_any (w := W2.drew) HI2.out (Nat.le_refl _) hgn12).mono fun e w' ⟨A', c', he, ho, hb⟩ => ⟨A', c', he, ho, ((Below.refl _ _).drew).trans hb⟩)
        have HKA : Hid (∀ W : World, Below W2.heap.size W2 W → (W.cell? ⟨bh, 6, none⟩ = some (.slice Ao u co) ∧ W.cell? ⟨bh, 7, none⟩ = some (.slice Ag g.length cg))) := Lib.hid (fun W hW => ⟨(HC2.out.below hW hltw).at_ 6 _ rfl, (HC2.out.below hW hltw).at_ 7 _ rfl⟩)
        have HKC : Hid (∀ (W : World) (j : Nat) (v : Value), j ≠ 6 → j ≠ 7 → (W.cell? ⟨bh, 6, none⟩ = some (.slice Ao u co) ∧ W.cell? ⟨bh, 7, none⟩ = some (.slice Ag g.length cg)) → ((W.setCell ⟨bh, j, none⟩ v).cell? ⟨bh, 6, none⟩ = some (.slice Ao u co) ∧ (W.setCell ⟨bh, j, none⟩ v).cell? ⟨bh, 7, none⟩ = some (.slice Ag g.length cg))) := Lib.hid (fun W j v h6 h7 hS =>
          ⟨(World.cell?_setCell_other _ _ _ _ (fun x => by injection x with _ x; omega)).trans hS.1, (World.cell?_setCell_other _ _ _ _ (fun x => by injection x with _ x; omega)).trans hS.2⟩)
        have HZ : Hid (∀ W : World, Below W2.heap.size W2 W → ((∃ v8, W.cell? ⟨bh, 8, none⟩ = some v8) ∧ (∃ v9, W.cell? ⟨bh, 9, none⟩ = some v9) ∧ (∃ v10, W.cell? ⟨bh, 10, none⟩ = some v10)) ∧ (W.frozen? ⟨bh, 8, none⟩ = false ∧ W.frozen? ⟨bh, 9, none⟩ = false ∧ W.frozen? ⟨bh, 10, none⟩ = false)) := Lib.hid (fun W hW => by
          have k := HC2.out.below hW hltw
          exact ⟨⟨⟨_, k.at_ 8 _ rfl⟩, ⟨_, k.at_ 9 _ rfl⟩, ⟨_, k.at_ 10 _ rfl⟩⟩, k.fz 8, k.fz 9, k.fz 10⟩)
        have hD : Below W2.heap.size W2 W2.drew := (Below.refl _ _).drew
        go_wp2_with fail
        go_region_held3 (fun W => W.cell? ⟨bh, 6, none⟩ = some (.slice Ao u co) ∧ W.cell? ⟨bh, 7, none⟩ = some (.slice Ag g.length cg))
          ((first
            | (with_reducible refine HKA.out _ ?_; (first | with_reducible assumption | with_reducible exact hD))
            | (with_reducible refine HKC.out _ _ _ (by decide) (by decide) ?_; (first
              | (with_reducible refine HKA.out _ ?_; (first | with_reducible assumption | with_reducible exact hD))
              | (with_reducible refine HKC.out _ _ _ (by decide) (by decide) ?_; (first
                | (with_reducible refine HKA.out _ ?_; (first | with_reducible assumption | with_reducible exact hD))
                | (with_reducible refine HKC.out _ _ _ (by decide) (by decide) ?_; (with_reducible refine HKA.out _ ?_; (first | with_reducible assumption | with_reducible exact hD)))))))))
          ((first
            | (go_at_call 78; refine HOw.out.mono ?_; rintro e w5 ⟨A5, c5, rfl, o5, hb5⟩; obtain ⟨⟨⟨v8, z8⟩, ⟨v9, z9⟩, ⟨v10, z10⟩⟩, y8, y9, y10⟩ := HZ.out w5 hb5)
            | fail))
        all_goals
          have HF := Lib.hid (HFin2.out w5 A5 c5 o5 hb5)
          clear z8 z9 z10 y8 y9 y10
          go_wp2_with fail
          exact bodyPost_ret (v := .tuple #[]) (by simp [results, Try.results55, go_sem]) rfl HF.out
end Go.Proofs.Ytmnpehajojdhcaa
