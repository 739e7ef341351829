/- Helpers: QuickestFill: the program's search. -/
import Derived.Test.YtcacmiafmanniaaMh
namespace Go.Proofs.Ytcacmiafmanniaa
open Go.RowKit
set_option maxRecDepth 100000
set_option linter.unusedVariables false
set_option linter.unusedSimpArgs false

theorem bestL_none {s : QS} (h : s.best = none) : bestL s = [] ∧ bestM s = 0 ∧ s.best.isSome = false := by unfold bestL bestM; rw [h]; exact ⟨rfl, rfl, rfl⟩
theorem bestL_some {s : QS} {g : List Nat} {m : Nat} (h : s.best = some (g, m)) : bestL s = g ∧ bestM s = m ∧ s.best.isSome = true := by unfold bestL bestM; rw [h]; exact ⟨rfl, rfl, rfl⟩

set_option maxHeartbeats 4000000 in
theorem search_any : ∀ (m : Nat) (A A'' Ag Ab : Option Addr) (n c nt ct cg nb cb bh sum : Nat) (l : List HelperR) (tl : List TaskR) (g : List Nat) (s : QS) (w : World) (h : Reads w bh 3 A n (l.flatMap HelperR.cells)) (hn : n ≤ 10)
    (hsk : ∀ k, k < l.length → 0 ≤ (HelperR.at_ l k).Skills ∧ (HelperR.at_ l k).Skills ≤ 7) (hmn : ∀ k, k < l.length → 0 ≤ (HelperR.at_ l k).Minutes ∧ (HelperR.at_ l k).Minutes ≤ 1000) (h'' : Reads w bh 3 A'' nt (tl.flatMap TaskR.cells)) (hct : nt ≤ ct) (hnt : nt ≤ 8)
    (htk : ∀ k, k < tl.length → 0 ≤ (TaskR.at_ tl k).Skills ∧ (TaskR.at_ tl k).Skills ≤ 7) (hm : g.length + m = nt) (hsum : sum ≤ 1000 * g.length) (hl : s.left ≤ 20000) (hok : QOk nt s)
    (hc : HC w bh (hvs A n c A'' nt ct Ag g.length cg Ab nb cb s)) (hg : Own w (bh + 1) 2 1 Ag g.length cg ((ci g).map (Value.int .i64))) (hb : Own w (bh + 1) 2 1 Ab nb cb ((ci (bestL s)).map (Value.int .i64))) (hap : Apart Ag Ab),
    Calls Try.prog 20 #[.pointer (some ⟨bh, 0, none⟩), .int .i64 sum] w (HPost bh A n c A'' nt ct g (qs l (tl.drop g.length) g sum s) Ag w) := by
  intro m
  induction m with
  | zero =>
    intro A A'' Ag Ab n c nt ct cg nb cb bh sum l tl g s w h hn hsk hmn h'' hct hnt htk hm hsum hl hok hc hg hb hap
    have hT : tl.length = nt := TaskR.count h''
    have hgl : g.length = nt := by omega
    have Hq : Hid (qs l (tl.drop g.length) g sum s = qput s g sum) := Lib.hid (by rw [List.drop_of_length_le (by omega), qs])
    have hlt := hc.lt
    have Hc := Lib.hid hc
    have Hg := Lib.hid hg
    have Hb := Lib.hid hb
    have Hok := Lib.hid hok
    have hgI : Ints w w.heap.size Ag g.length (ci g) := hg.reads
    have c3 : w.cell? ⟨bh, 3, none⟩ = some (.slice A'' nt ct) := hc.at_ 3 _ rfl
    have c4 : w.cell? ⟨bh, 4, none⟩ = some (.slice Ag g.length cg) := hc.at_ 4 _ rfl
    have c5 : w.cell? ⟨bh, 5, none⟩ = some (.slice Ab nb cb) := hc.at_ 5 _ rfl
    have c6 : w.cell? ⟨bh, 6, none⟩ = some (.int .i64 (bestM s : Int)) := hc.at_ 6 _ rfl
    have c7 : w.cell? ⟨bh, 7, none⟩ = some (.bool s.best.isSome) := hc.at_ 7 _ rfl
    have hge : ((g.length : Int) == (nt : Int)) = true := by rw [beq_iff_eq]; omega
    have hge2 : decide (g.length = nt) = true := by rw [decide_eq_true_eq]; exact hgl
    have hgn : g.length ≤ 1048576 := by omega
    have Hgl := Lib.hid hgl
    clear hc hg hb hok hsk hmn htk hm hT hgl
    -- the case that the list is taken
    have take : s.best = none ∨ (∃ g0 m0, s.best = some (g0, m0) ∧ sum < m0) → Calls Try.prog 20 #[.pointer (some ⟨bh, 0, none⟩), .int .i64 sum] w (HPost bh A n c A'' nt ct g (qs l (tl.drop g.length) g sum s) Ag w) := by
      intro hcase
      have Hp : Hid (qput s g sum = ⟨s.left, s.spent, some (g, sum)⟩) := Lib.hid (by
        unfold qput
        rcases hcase with e | ⟨g0, m0, e, hlt⟩
        · rw [e]
        · rw [e]; simp only []; rw [if_pos hlt])
      have Hfin : Hid (∀ (w1 : World) (A1 : Option Addr) (c1 : Nat), Own w1 w.heap.size 2 1 A1 g.length c1 ((ci g).map (Value.int .i64)) → Below w.heap.size w w1 →
          HPost bh A n c A'' nt ct g (qs l (tl.drop g.length) g sum s) Ag w (.returned (.tuple #[])) (((w1.setCell ⟨bh, 5, none⟩ (.slice A1 g.length c1)).setCell ⟨bh, 6, none⟩ (.int .i64 sum)).setCell ⟨bh, 7, none⟩ (.bool true))) := Lib.hid (fun w1 A1 c1 o1 b1 => by
        rw [Hq.out, Hp.out]
        have k1 := (((Hc.out.below b1 hlt).set (j := 5) (.slice A1 g.length c1) (by simp [hvs])).set (j := 6) (.int .i64 sum) (by simp [hvs])).set (j := 7) (.bool true) (by simp [hvs])
        refine ⟨Ag, cg, A1, g.length, c1, rfl, k1, ?_, ?_, ?_, ?_, OldNew.refl _ _⟩
        · exact (((Hg.out.below b1).setFar (Nat.lt_succ_self _) _).setFar (Nat.lt_succ_self _) _).setFar (Nat.lt_succ_self _) _
        · exact (((o1.mono (show bh + 1 ≤ w.heap.size by omega)).setFar (Nat.lt_succ_self _) _).setFar (Nat.lt_succ_self _) _).setFar (Nat.lt_succ_self _) _
        · exact apart_of Hg.out o1 (Nat.le_refl _)
        · exact (((Touch2.of_below bh Ag b1).trans (Touch2.of_set _ bh 5 _ Ag) (OldNew.refl _ _)).trans (Touch2.of_set _ bh 6 _ Ag) (OldNew.refl _ _)).trans (Touch2.of_set _ bh 7 _ Ag) (OldNew.refl _ _))
      have Hce : Hid (∀ (w1 : World), Below w.heap.size w w1 → w1.cell? ⟨bh, 5, none⟩ = some (.slice Ab nb cb) ∧ w1.cell? ⟨bh, 6, none⟩ = some (.int .i64 (bestM s : Int)) ∧ w1.cell? ⟨bh, 7, none⟩ = some (.bool s.best.isSome) ∧ (w1.frozen? ⟨bh, 5, none⟩ = false ∧ w1.frozen? ⟨bh, 6, none⟩ = false ∧ w1.frozen? ⟨bh, 7, none⟩ = false)) := Lib.hid (fun w1 b1 => by
        have k := Hc.out.below b1 hlt
        exact ⟨k.at_ 5 _ rfl, k.at_ 6 _ rfl, k.at_ 7 _ rfl, k.fz 5, k.fz 6, k.fz 7⟩)
      rcases hcase with e | ⟨g0, m0, e, hlt2⟩
      · obtain ⟨e1, e2, e3⟩ := bestL_none e
        rw [e3] at c7 Hce
        go_enter Try.func20, Try.ntmps20
        go_wp2_with fail
        refine (clone_int_any hgI (Nat.le_refl _) hgn).mono ?_
        rintro e w1 ⟨A1, c1, rfl, o1, b1⟩
        obtain ⟨d5, d6, d7, f5, f6, f7⟩ := Hce.out w1 b1
        have F := Lib.hid (Hfin.out w1 A1 c1 o1 b1)
        clear c3 c4 c5 c6 c7
        go_wp2_with fail
        exact bodyPost_ret (v := .tuple #[]) (by simp [results, Try.results20, go_sem]) rfl F.out
      · obtain ⟨e1, e2, e3⟩ := bestL_some e
        rw [e3] at c7 Hce
        rw [e2] at c6 Hce
        have hd : decide (sum < m0) = true := decide_eq_true hlt2
        go_enter Try.func20, Try.ntmps20
        go_wp2_with fail
        refine (clone_int_any hgI (Nat.le_refl _) hgn).mono ?_
        rintro e w1 ⟨A1, c1, rfl, o1, b1⟩
        obtain ⟨d5, d6, d7, f5, f6, f7⟩ := Hce.out w1 b1
        have F := Lib.hid (Hfin.out w1 A1 c1 o1 b1)
        clear c3 c4 c5 c6 c7
        go_wp2_with fail
        exact bodyPost_ret (v := .tuple #[]) (by simp [results, Try.results20, go_sem]) rfl F.out
    cases hbs : s.best with
    | none => exact take (.inl hbs)
    | some x =>
      obtain ⟨g0, m0⟩ := x
      by_cases hlt2 : sum < m0
      · exact take (.inr ⟨g0, m0, hbs, hlt2⟩)
      · have Hp : Hid (qput s g sum = s) := Lib.hid (by unfold qput; rw [hbs]; simp only []; rw [if_neg hlt2])
        obtain ⟨e1, e2, e3⟩ := bestL_some hbs
        rw [e3] at c7
        rw [e2] at c6
        have hd : decide (sum < m0) = false := decide_eq_false hlt2
        have Hfin : Hid (HPost bh A n c A'' nt ct g (qs l (tl.drop g.length) g sum s) Ag w (.returned (.tuple #[])) w) := Lib.hid (by
          rw [Hq.out, Hp.out]
          exact ⟨Ag, cg, Ab, nb, cb, rfl, Hc.out, Hg.out, Hb.out, hap, Touch2.refl _ _ _, OldNew.refl _ _⟩)
        clear take hbs
        go_enter Try.func20, Try.ntmps20
        go_wp2_with fail
        exact bodyPost_ret (v := .tuple #[]) (by simp [results, Try.results20, go_sem]) rfl Hfin.out
  | succ m ih =>
    intro A A'' Ag Ab n c nt ct cg nb cb bh sum l tl g s w h hn hsk hmn h'' hct hnt htk hm hsum hl hok hc hg hb hap
    have HL := Lib.hid (HelperR.count h)
    have HT := Lib.hid (TaskR.count h'')
    have hi0 : g.length < nt := by omega
    have hlt := hc.lt
    obtain ⟨i0, hi1, hz0, hz1, hz2⟩ := info_parts info_int
    have Hq : Hid (qs l (tl.drop g.length) g sum s = (csH l (TaskR.at_ tl g.length)).foldl (qstep l (qs l (tl.drop (g.length + 1))) g sum) s) := Lib.hid (by rw [drop_at (by rw [HT.out]; exact hi0), qs])
    have ht0 := htk g.length (by rw [HT.out]; exact hi0)
    obtain ⟨adt, e0, hblt, q0, q1, q2⟩ := TaskR.rd h'' hi0
    subst e0
    have Ih := Lib.hid ih
    have Hc := Lib.hid hc
    have Hg := Lib.hid hg
    have Hb := Lib.hid hb
    have Hok := Lib.hid hok
    have Hsk := Lib.hid hsk
    have Hmn := Lib.hid hmn
    have Htk := Lib.hid htk
    have c2 : w.cell? ⟨bh, 2, none⟩ = some (.slice A n c) := hc.at_ 2 _ rfl
    have c3 : w.cell? ⟨bh, 3, none⟩ = some (.slice (some adt) nt ct) := hc.at_ 3 _ rfl
    have c4 : w.cell? ⟨bh, 4, none⟩ = some (.slice Ag g.length cg) := hc.at_ 4 _ rfl
    have hge : ((g.length : Int) == (nt : Int)) = false := by rw [beq_eq_false_iff_ne]; omega
    have hge2 : decide (g.length = nt) = false := by rw [decide_eq_false_iff_not]; omega
    have hgi0 : (0 : Int) ≤ (g.length : Int) := by omega
    have hgi1 : (g.length : Int) < (nt : Int) := by omega
    have hcs : (csH l (TaskR.at_ tl g.length)).length = (canTo l (TaskR.at_ tl g.length) n).length := by rw [csH_len, HL.out]
    have Hcs := Lib.hid hcs
    have Hm := Lib.hid hm
    clear ih hc hg hb hok hsk hmn htk hcs hm
    generalize TaskR.at_ tl g.length = t at *
    go_enter Try.func20, Try.ntmps20
    go_wp2_with fail
    have hadt : adt.block < w.drew.heap.size := by show adt.block < w.heap.size; omega
    have hbhw : bh < w.drew.heap.size := hlt
    have hbD : Below w.heap.size w w.drew := (Below.refl _ _).drew
    go_region_held3 (fun w' => w'.cell? ⟨bh, 2, none⟩ = some (.slice A n c) ∧ w'.cell? ⟨bh, 3, none⟩ = some (.slice (some adt) nt ct) ∧ w'.cell? (adt.add (g.length * 3)) = some (.string t.Id) ∧ w'.cell? ⟨(adt.add (g.length * 3)).block, (adt.add (g.length * 3)).off + 1, none⟩ = some (.int .i64 t.Skills) ∧
        w'.cell? ⟨(adt.add (g.length * 3)).block, (adt.add (g.length * 3)).off + 2, none⟩ = some (.int .i64 t.Until) ∧ Below w.heap.size w w')
      (first
        | (refine ⟨?_, ?_, ?_, ?_, ?_, by with_reducible exact hbD⟩; exact c2; exact c3; exact q0; exact q1; exact q2)
        | (have hbX := b2; exact ⟨(b2.cell hbhw).trans c2, (b2.cell hbhw).trans c3, (b2.cell (by rw [block_of_add]; exact hadt)).trans q0, (b2.cell (by show (adt.add (g.length * 3)).block < _; rw [block_of_add]; exact hadt)).trans q1, (b2.cell (by show (adt.add (g.length * 3)).block < _; rw [block_of_add]; exact hadt)).trans q2, hbD.trans b2⟩))
      ((first
        | (go_at_call 41; refine (helpersFor_any (w := w.drew) (by exact h) (by show bh ≤ w.heap.size; omega) (by omega) Hsk.out ht0).mono ?_; rintro e w2 ⟨A2, c2', rfl, o2, b2⟩)))
    have hsz2 : w.heap.size ≤ w2.heap.size := b2.size
    have b2' : Below w.heap.size w w2 := hbD.trans b2
    have o2' : Own w2 w.heap.size 2 1 A2 (canTo l t n).length c2' ((canTo l t n).map (Value.int .i64)) := o2
    have hap2 : Apart A2 Ag := by
      intro a a' e1 e2
      have h1 := o2'.from a e1
      have h2 := (Hg.out.block_lt a' e2).2.2.2
      omega
    have HC2 := Lib.hid (Hc.out.below b2' hlt)
    have HG2 := Lib.hid (Hg.out.below b2')
    have HB2 := Lib.hid (Hb.out.below b2')
    have HT2 := Lib.hid (Touch2.of_below bh Ag b2')
    have HO2 := Lib.hid o2'
    have Hap2 := Lib.hid hap2
    have Hap := Lib.hid hap
    clear b2 o2 b2' o2' hap2 hap c2 c3 c4 q0 q1 q2 hbD hadt hbhw
    rw [show (⟨t.Id, t.Skills, t.Until⟩ : TaskR) = t from rfl] at *
    go_split_ands
    go_wp2_with fail
    go_loopg [6, 60] (canTo l t n).length (fun gk vk vi wr => ∃ (i : Nat) (Ag1 : Option Addr) (cg1 : Nat) (Ab1 : Option Addr) (nb1 cb1 : Nat) (q : QS), i ≤ (canTo l t n).length ∧ gk + i = (canTo l t n).length ∧ vi = .int .i64 i ∧
      ((csH l t).take i).foldl (qstep l (qs l (tl.drop (g.length + 1))) g sum) s = q ∧ q.left ≤ 20000 ∧ QOk nt q ∧
      HC wr bh (hvs A n c (some adt) nt ct Ag1 g.length cg1 Ab1 nb1 cb1 q) ∧ Own wr (bh + 1) 2 1 Ag1 g.length cg1 ((ci g).map (Value.int .i64)) ∧ Own wr (bh + 1) 2 1 Ab1 nb1 cb1 ((ci (bestL q)).map (Value.int .i64)) ∧ Apart Ag1 Ab1 ∧
      Touch2 w wr bh Ag ∧ OldNew w Ag Ag1 ∧ Own wr w.heap.size 2 1 A2 (canTo l t n).length c2' ((canTo l t n).map (Value.int .i64)) ∧ Apart A2 Ag1)
    case atStart => exact ⟨0, Ag, cg, Ab, nb, cb, s, by omega, rfl, rfl, rfl, hl, Hok.out, HC2.out, HG2.out, HB2.out, Hap.out, HT2.out, OldNew.refl _ _, HO2.out, Hap2.out⟩
    case round =>
      have HGF : Hid (∀ a, Ag = some a → bh + 1 ≤ a.block) := Lib.hid Hg.out.from
      clear HC2 HG2 HB2 HT2 HO2 Hap2 Hap Hc Hg Hb Hok
      obtain ⟨i, Ag1, cg1, Ab1, nb1, cb1, q, hi, hgk, rfl, hq, hql, hqo, hc, hg, hb, hap, ht2, hon, ho, hap2⟩ := hrel
      have Hgk := Lib.hid hgk
      have HQ := Lib.hid hq
      have Hqo := Lib.hid hqo
      have Hc := Lib.hid hc
      have Hg := Lib.hid hg
      have Hb := Lib.hid hb
      have Hap := Lib.hid hap
      have Ht2 := Lib.hid ht2
      have Hon := Lib.hid hon
      have Ho := Lib.hid ho
      have Hap2 := Lib.hid hap2
      have hbs := ht2.size
      have hltw := hc.lt
      clear hgk hq hqo hc hg hb hap ht2 hon ho hap2
      have hlen := canTo_len l t n
      have hqi : IntKind.i64.wrap ((i : Int) + 1) = (i : Int) + 1 := IntWalk.i64_in _ (by omega)
      by_cases hlti : i < (canTo l t n).length
      · obtain ⟨a2, hA2, ha2, hcell⟩ := Ints.at_ Ho.out.reads hlti
        obtain ⟨k, hk1, hk2, hk3⟩ := canTo_nth l t i (by rw [HL.out]; exact hlti)
        rw [HL.out] at hk1 hk2
        rw [hk1] at hcell
        subst hA2
        have Hft := Lib.hid (foldQ_take (qstep l (qs l (tl.drop (g.length + 1))) g sum) (csH l t) i (by rw [Hcs.out]; exact hlti) s)
        rw [hk3, HQ.out] at Hft
        have hgI : Ints wr wr.heap.size Ag1 g.length (ci g) := Hg.out.reads
        have d0 : wr.cell? ⟨bh, 0, none⟩ = some (.int .i64 (q.left : Int)) := Hc.out.at_ 0 _ rfl
        have d1 : wr.cell? ⟨bh, 1, none⟩ = some (.bool q.spent) := Hc.out.at_ 1 _ rfl
        have d4 : wr.cell? ⟨bh, 4, none⟩ = some (.slice Ag1 g.length cg1) := Hc.out.at_ 4 _ rfl
        have hgn : g.length ≤ 1048576 := by omega
        have Hst : Hid (qstep l (qs l (tl.drop (g.length + 1))) g sum q k = if g.contains k then q else if q.spent then q else if q.left = 0 then ⟨0, true, q.best⟩ else qs l (tl.drop (g.length + 1)) (g ++ [k]) (sum + mnH l k) ⟨q.left - 1, q.spent, q.best⟩) := Lib.hid rfl
        clear hk3 hk1
        cases hcg : g.contains k with
        | true =>
          have Hcg := Lib.hid hcg
          have HN : Hid (((csH l t).take (i + 1)).foldl (qstep l (qs l (tl.drop (g.length + 1))) g sum) s = q) := Lib.hid (by rw [Hft.out, Hst.out, hcg]; rfl)
          clear hcg Hst Hft
          go_wp2_with fail
          refine (contains_any Ag1 g.length cg1 _ (ci g) k _ hgI (by omega)).mono ?_
          rintro e w' ⟨rfl, rfl⟩
          rw [ci_any, Hcg.out]
          go_wp2_with fail
          have hgk := Hgk.out
          go_roundg (gk - 1)
          case rel => exact ⟨i + 1, Ag1, cg1, Ab1, nb1, cb1, q, by omega, by omega, by go_num, HN.out, hql, Hqo.out, Hc.out, Hg.out, Hb.out, Hap.out, Ht2.out, Hon.out, Ho.out, Hap2.out⟩
          case measure => omega
        | false =>
        have Hcg := Lib.hid hcg
        clear hcg
        cases hsp : q.spent with
        | true =>
          rw [hsp] at d1
          have HN : Hid (qs l (tl.drop g.length) g sum s = q) := Lib.hid (by
            rw [Hq.out, ← List.take_append_drop i (csH l t), List.foldl_append, HQ.out]
            exact fold_spent _ _ _ _ _ _ hsp)
          have HF : Hid (HPost bh A n c (some adt) nt ct g (qs l (tl.drop g.length) g sum s) Ag w (.returned (.tuple #[])) wr) := Lib.hid (by
            rw [HN.out]; exact ⟨Ag1, cg1, Ab1, nb1, cb1, rfl, Hc.out, Hg.out, Hb.out, Hap.out, Ht2.out, Hon.out⟩)
          clear hsp Hst Hft
          go_wp2_with fail
          refine (contains_any Ag1 g.length cg1 _ (ci g) k _ hgI (by omega)).mono ?_
          rintro e w' ⟨rfl, rfl⟩
          rw [ci_any, Hcg.out]
          go_wp2_with fail
          exact bodyPost_ret (v := .tuple #[]) (by simp [results, Try.results20, go_sem]) rfl HF.out
        | false =>
        rw [hsp] at d1
        by_cases hl0 : q.left = 0
        · have hc1 := (Hc.out.set (j := 1) (.bool true) (by simp [hvs]))
          have HN : Hid (qs l (tl.drop g.length) g sum s = ⟨0, true, q.best⟩) := Lib.hid (by
            rw [Hq.out, ← List.take_append_drop (i + 1) (csH l t), List.foldl_append, Hft.out, Hst.out, Hcg.out, hsp, hl0]
            exact fold_spent _ _ _ _ _ _ rfl)
          have HF : Hid (HPost bh A n c (some adt) nt ct g (qs l (tl.drop g.length) g sum s) Ag w (.returned (.tuple #[])) (wr.setCell ⟨bh, 1, none⟩ (.bool true))) := Lib.hid (by
            rw [HN.out]
            refine ⟨Ag1, cg1, Ab1, nb1, cb1, rfl, ?_, Hg.out.setFar (Nat.lt_succ_self _) _, Hb.out.setFar (Nat.lt_succ_self _) _, Hap.out, Ht2.out.trans (Touch2.of_set _ bh 1 _ Ag1) Hon.out, Hon.out⟩
            simp only [hvs, List.set_cons_succ, List.set_cons_zero, hl0] at hc1
            exact hc1)
          have Hl0 := Lib.hid hl0
          have Hcc := Lib.hid Hc.out
          clear hsp Hst Hft hc1 hl0
          go_wp2_with fail
          refine (contains_any Ag1 g.length cg1 _ (ci g) k _ hgI (by omega)).mono ?_
          rintro e w' ⟨rfl, rfl⟩
          rw [ci_any, Hcg.out]
          go_wp2_with fail
          refine (node_any (left := q.left) (sp := q.spent) Hcc.out hql).mono ?_
          rintro e w' (⟨h0, rfl, rfl⟩ | ⟨h0, rfl, rfl⟩)
          · go_wp2_with fail
            exact bodyPost_ret (v := .tuple #[]) (by simp [results, Try.results20, go_sem]) rfl HF.out
          · exact absurd Hl0.out (by omega)
        · obtain ⟨q1, hq1⟩ : ∃ q1 : QS, q1 = ⟨q.left - 1, q.spent, q.best⟩ := ⟨_, rfl⟩
          have HN : Hid (((csH l t).take (i + 1)).foldl (qstep l (qs l (tl.drop (g.length + 1))) g sum) s = qs l (tl.drop (g.length + 1)) (g ++ [k]) (sum + mnH l k) q1) := Lib.hid (by
            rw [Hft.out, Hst.out, Hcg.out, hsp, if_neg (by simp), if_neg (by simp), if_neg hl0, hq1, hsp])
          have hc1 : HC (wr.setCell ⟨bh, 0, none⟩ (.int .i64 ((q.left - 1 : Nat) : Int))) bh (hvs A n c (some adt) nt ct Ag1 g.length cg1 Ab1 nb1 cb1 q1) := by
            rw [hq1]; exact Hc.out.set (j := 0) (.int .i64 ((q.left - 1 : Nat) : Int)) (by simp [hvs])
          have hg1 : Own (wr.setCell ⟨bh, 0, none⟩ (.int .i64 ((q.left - 1 : Nat) : Int))) (bh + 1) 2 1 Ag1 g.length cg1 ((ci g).map (Value.int .i64)) := Hg.out.setFar (Nat.lt_succ_self _) _
          have hb1 : Own (wr.setCell ⟨bh, 0, none⟩ (.int .i64 ((q.left - 1 : Nat) : Int))) (bh + 1) 2 1 Ab1 nb1 cb1 ((ci (bestL q1)).map (Value.int .i64)) := by rw [hq1]; exact Hb.out.setFar (Nat.lt_succ_self _) _
          have ho1 : Own (wr.setCell ⟨bh, 0, none⟩ (.int .i64 ((q.left - 1 : Nat) : Int))) w.heap.size 2 1 (some a2) (canTo l t n).length c2' ((canTo l t n).map (Value.int .i64)) := Ho.out.setFar hlt _
          have ht1 : Touch2 w (wr.setCell ⟨bh, 0, none⟩ (.int .i64 ((q.left - 1 : Nat) : Int))) bh Ag := Ht2.out.trans (Touch2.of_set _ bh 0 _ Ag1) Hon.out
          have hz1' : (wr.setCell ⟨bh, 0, none⟩ (.int .i64 ((q.left - 1 : Nat) : Int))).heap.size = wr.heap.size := by simp [World.setCell]
          have hq1l : q1.left ≤ 20000 := by rw [hq1]; show q.left - 1 ≤ 20000; omega
          have Hq1o : Hid (QOk nt q1) := Lib.hid (by rw [hq1]; exact Hqo.out)
          have Hl0 := Lib.hid hl0
          have Hcc := Lib.hid Hc.out
          clear hsp Hst Hft hl0 hq1 Hc Hg Hb Ho Ht2
          have Hc1 := Lib.hid hc1
          have Hg1 := Lib.hid hg1
          have Hb1 := Lib.hid hb1
          have Ho1 := Lib.hid ho1
          have Ht1 := Lib.hid ht1
          have Hz1 := Lib.hid hz1'
          clear hc1 hg1 hb1 ho1 ht1 hz1'
          go_wp2_with fail
          refine (contains_any Ag1 g.length cg1 _ (ci g) k _ hgI (by omega)).mono ?_
          rintro e w' ⟨rfl, rfl⟩
          rw [ci_any, Hcg.out]
          go_wp2_with fail
          refine (node_any (left := q.left) (sp := q.spent) Hcc.out hql).mono ?_
          rintro e w' (⟨h0, rfl, rfl⟩ | ⟨h0, rfl, rfl⟩)
          · exact absurd h0 Hl0.out
          · clear hgI d0 d1 d4 hcell
            have hws := Hz1.out
            generalize wr.setCell ⟨bh, 0, none⟩ (.int .i64 ((q.left - 1 : Nat) : Int)) = W1 at *
            have d4 : W1.cell? ⟨bh, 4, none⟩ = some (.slice Ag1 g.length cg1) := Hc1.out.at_ 4 _ rfl
            have f4 := Hc1.out.fz 4
            have hltW := Hc1.out.lt
            clear hws Hcc
            go_wp2_with (at_builtin; refine wpList_app rfl _ _ 28 rfl 2 i0 _ 1 8 Try.underlying28 hi1 hz0 hz1 hz2 rfl (by omega) (by omega) (bh + 1) _ _ _ _ rfl (Hg1.out.alloc _) ⟨W1.heap.size, 0, none⟩ 1 1 [.int .i64 (k : Int)] rfl rfl (cell_one_new _ _ _) (by simp [Value.oneCell']) (by omega) (by simp; omega) ?_)
            intro A5 c5 w5 o5 hgA hbA hat
            have hzz : W1.heap.size ≤ (W1.alloc (.cells #[.int .i64 (k : Int)] 2)).heap.size := by simp
            have bal : Below W1.heap.size W1 (W1.alloc (.cells #[.int .i64 (k : Int)] 2)) := (Below.refl _ _).alloc (Nat.le_refl _) _
            have hon5 : OldNew W1 Ag1 A5 := by
              intro a ha
              subst ha
              rcases hat with e | e
              · cases Ag1 with
                | none => cases e
                | some a0 => exact .inl ⟨a0, rfl, by simpa using e.symm⟩
              · right
                have : a.block = (W1.alloc (.cells #[.int .i64 (k : Int)] 2)).heap.size := by simpa using e
                omega
            have tA : Touch2 W1 w5 bh Ag1 := (Touch2.of_below bh Ag1 bal).trans (Touch2.of_grown hgA) (OldNew.refl _ _)
            have Hc5 := Lib.hid ((Hc1.out.below bal hltW).below hbA (Nat.lt_succ_self _))
            have Hb5 := Lib.hid (own_grown (Hb1.out.below bal) hgA Hap.out)
            have Ho5 := Lib.hid (own_grown (Ho1.out.below bal) hgA Hap2.out.symm)
            have hap5 : Apart A5 Ab1 := (apart_old Hap.out.symm hon5 (fun a ha => (Hb1.out.block_lt a ha).2.2.2)).symm
            have hap25 : Apart (some a2) A5 := apart_old Hap2.out hon5 (fun a ha => (Ho1.out.block_lt a ha).2.2.2)
            have hw1w : wr.heap.size = W1.heap.size := Hz1.out.symm
            have hon15 : OldNew w Ag A5 := Hon.out.trans hon5 (by omega)
            have ht15 : Touch2 w w5 bh Ag := Ht1.out.trans tA Hon.out
            have o5' : Own w5 (bh + 1) 2 1 A5 (g ++ [k]).length c5 ((ci (g ++ [k])).map (Value.int .i64)) := by
              rw [show ci (g ++ [k]) = ci g ++ [(k : Int)] by simp [ci], List.map_append, List.length_append]; exact o5
            have hw5 : W1.heap.size ≤ w5.heap.size := tA.size
            have e4 : w5.cell? ⟨bh, 4, none⟩ = some (.slice Ag1 g.length cg1) := Hc5.out.at_ 4 _ rfl
            have f45 := Hc5.out.fz 4
            -- the world behind the store
            have hc6 : HC (w5.setCell ⟨bh, 4, none⟩ (.slice A5 (g.length + 1) c5)) bh (hvs A n c (some adt) nt ct A5 (g ++ [k]).length c5 Ab1 nb1 cb1 q1) := by
              have := Hc5.out.set (j := 4) (.slice A5 (g.length + 1) c5) (by simp [hvs])
              rw [List.length_append]; exact this
            have hg6 : Own (w5.setCell ⟨bh, 4, none⟩ (.slice A5 (g.length + 1) c5)) (bh + 1) 2 1 A5 (g ++ [k]).length c5 ((ci (g ++ [k])).map (Value.int .i64)) := o5'.setFar (Nat.lt_succ_self _) _
            have hb6 := Hb5.out.setFar (j := 4) (Nat.lt_succ_self bh) (.slice A5 (g.length + 1) c5)
            have ho6 := Ho5.out.setFar (j := 4) hlt (.slice A5 (g.length + 1) c5)
            have ht6 : Touch2 w (w5.setCell ⟨bh, 4, none⟩ (.slice A5 (g.length + 1) c5)) bh Ag := ht15.trans (Touch2.of_set _ bh 4 _ A5) hon15
            have hz6 : (w5.setCell ⟨bh, 4, none⟩ (.slice A5 (g.length + 1) c5)).heap.size = w5.heap.size := by simp [World.setCell]
            have Hc6 := Lib.hid hc6
            have Hg6 := Lib.hid hg6
            have Hb6 := Lib.hid hb6
            have Ho6 := Lib.hid ho6
            have Ht6 := Lib.hid ht6
            have Hz6 := Lib.hid hz6
            have Hon15 := Lib.hid hon15
            have Hap5 := Lib.hid hap5
            have Hap25 := Lib.hid hap25
            have hbel := ht6.below (by omega) (fun a ha => by have := HGF.out a ha; omega)
            have Hbel := Lib.hid hbel
            clear o5 hgA hbA hat bal hon5 tA Hc5 Hb5 Ho5 hap5 hap25 hon15 ht15 o5' hc6 hg6 hb6 ho6 ht6 hz6 d4 f4 Hc1 Hg1 Hb1 Ho1 Ht1 hbel
            have hmk := Hmn.out k (by rw [HL.out]; exact hk2)
            have hmk2 : (HelperR.at_ l k).Minutes = ((mnH l k : Nat) : Int) := by unfold mnH; omega
            obtain ⟨adl, rfl, hbl, _, _, p2⟩ := HelperR.rd (Reads.below h Hbel.out (Nat.le_refl _)) hk2
            rw [hmk2] at p2 hmk
            have hmk3 : mnH l k ≤ 1000 := by omega
            have Hsm : Hid (sum + mnH l k ≤ 1000 * (g ++ [k]).length) := Lib.hid (by rw [List.length_append]; simp; omega)
            have Hqok : Hid (QOk nt (qs l (tl.drop (g.length + 1)) (g ++ [k]) (sum + mnH l k) q1)) := Lib.hid (by
              have hm0 := Hm.out
              have ht := HT.out
              refine qs_ok l (fun k hk => by have := Hmn.out k hk; unfold mnH; omega) _ _ _ _ ?_ Hsm.out Hq1o.out
              rw [List.length_append, List.length_drop]; simp; omega)
            have hqleft : (qs l (tl.drop (g.length + 1)) (g ++ [k]) (sum + mnH l k) q1).left ≤ 20000 := by
              have := qs_left l (tl.drop (g.length + 1)) (g ++ [k]) (sum + mnH l k) q1; omega
            have hqs : IntKind.i64.wrap ((sum : Int) + ((mnH l k : Nat) : Int)) = ((sum + mnH l k : Nat) : Int) := by rw [IntWalk.i64_in _ (by omega)]; omega
            have hkk0 : (0 : Int) ≤ (k : Int) := by omega
            have hkk1 : (k : Int) < (n : Int) := by omega
            have g2 : (w5.setCell ⟨bh, 4, none⟩ (.slice A5 (g.length + 1) c5)).cell? ⟨bh, 2, none⟩ = some (.slice (some adl) n c) := Hc6.out.at_ 2 _ rfl
            have Hcall := Lib.hid (Ih.out (some adl) (some adt) A5 Ab1 n c nt ct c5 nb1 cb1 bh (sum + mnH l k) l tl (g ++ [k]) q1 _ (Reads.below h Hbel.out (Nat.le_refl _)) hn Hsk.out Hmn.out (Reads.below h'' Hbel.out (Nat.le_refl _)) hct hnt Htk.out (by rw [List.length_append]; simp; have := Hm.out; omega) Hsm.out hq1l Hq1o.out Hc6.out Hg6.out Hb6.out Hap5.out)
            have HN2 : Hid (qs l (tl.drop (g ++ [k]).length) (g ++ [k]) (sum + mnH l k) q1 = qs l (tl.drop (g.length + 1)) (g ++ [k]) (sum + mnH l k) q1) := Lib.hid (by rw [List.length_append]; rfl)
            rw [HN2.out] at Hcall
            clear hmk hmk2 Hc6 Hg6 Hb6
            generalize qs l (tl.drop (g.length + 1)) (g ++ [k]) (sum + mnH l k) q1 = q2 at *
            go_wp2_with fail
            refine Hcall.out.mono ?_
            rintro e w7 ⟨Ag7, cg7, Ab7, nb7, cb7, rfl, hc7, hg7, hb7, hap7, ht7, hon7⟩
            have Ho7 := Lib.hid (Ho6.out.touch2 ht7 hlt Hap25.out.symm)
            have hw56 := Hz6.out
            have hon17 : OldNew w Ag Ag7 := Hon15.out.trans hon7 (by have := Ht6.out.size; omega)
            have hap27 : Apart (some a2) Ag7 := apart_old Hap25.out hon7 (fun a ha => (Ho6.out.block_lt a ha).2.2.2)
            have ht17 : Touch2 w w7 bh Ag := Ht6.out.trans ht7 Hon15.out
            have i4 : w7.cell? ⟨bh, 4, none⟩ = some (.slice Ag7 (g.length + 1) cg7) := by have := hc7.at_ 4 _ rfl; rw [List.length_append] at this; exact this
            have fi4 := hc7.fz 4
            have hgl7 : g.length + 1 ≤ cg7 := by have := hg7.cap; rw [List.length_append] at this; exact this
            have hgi7 : (g.length : Int) ≤ (cg7 : Int) := by omega
            have Hc8 := Lib.hid (hc7.set (j := 4) (.slice Ag7 g.length cg7) (by simp [hvs]))
            have hg8 : Own w7 (bh + 1) 2 1 Ag7 g.length cg7 ((ci g).map (Value.int .i64)) := by
              have := hg7.headM (k := g.length) (by rw [List.length_append]; omega)
              rw [Nat.mul_one, ← List.map_take, show (ci (g ++ [k])).take g.length = ci g by rw [show ci (g ++ [k]) = ci g ++ [(k : Int)] by simp [ci], List.take_append_of_le_length (by rw [ci_len]; exact Nat.le_refl _), List.take_of_length_le (by rw [ci_len]; exact Nat.le_refl _)]] at this
              exact this
            have Hg8 := Lib.hid (hg8.setFar (j := 4) (Nat.lt_succ_self bh) (.slice Ag7 g.length cg7))
            have Hb8 := Lib.hid (hb7.setFar (j := 4) (Nat.lt_succ_self bh) (.slice Ag7 g.length cg7))
            have Ho8 := Lib.hid (Ho7.out.setFar (j := 4) hlt (.slice Ag7 g.length cg7))
            have Ht8 := Lib.hid (ht17.trans (Touch2.of_set _ bh 4 (.slice Ag7 g.length cg7) Ag7) hon17)
            have Hon8 := Lib.hid hon17
            have Hap8 := Lib.hid hap7
            have Hap28 := Lib.hid hap27
            obtain ⟨ad7, hA7⟩ : ∃ ad7, Ag7 = some ad7 := by
              cases Ag7 with
              | none => have := hg7.none_n; rw [List.length_append] at this; simp at this
              | some a => exact ⟨a, rfl⟩
            subst hA7
            clear hc7 hg7 hb7 hap7 ht7 hon7 Ho7 hon17 hap27 ht17 hg8 Hcall g2 p2
            go_wp2_with fail
            have hgk := Hgk.out
            go_roundg (gk - 1)
            case rel => exact ⟨i + 1, some ad7, cg7, Ab7, nb7, cb7, q2, by omega, by omega, by go_num, HN.out, hqleft, Hqok.out, Hc8.out, Hg8.out, Hb8.out, Hap8.out, Ht8.out, Hon8.out, Ho8.out, Hap28.out⟩
            case measure => omega
      · have hie : i = (canTo l t n).length := by omega
        have HN : Hid (qs l (tl.drop g.length) g sum s = q) := Lib.hid (by
          rw [Hq.out, ← HQ.out, List.take_of_length_le (by rw [Hcs.out]; omega)])
        have HF : Hid (HPost bh A n c (some adt) nt ct g (qs l (tl.drop g.length) g sum s) Ag w (.returned (.tuple #[])) wr) := Lib.hid (by
          rw [HN.out]; exact ⟨Ag1, cg1, Ab1, nb1, cb1, rfl, Hc.out, Hg.out, Hb.out, Hap.out, Ht2.out, Hon.out⟩)
        clear hie
        go_wp2_with fail
        exact bodyPost_ret (v := .tuple #[]) (by simp [results, Try.results20, go_sem]) rfl HF.out
end Go.Proofs.Ytcacmiafmanniaa
