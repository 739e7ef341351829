/- Helpers: QuickestFill: the reference's search. -/
import Derived.Test.YteobefanhicjkaaMi
namespace Go.Proofs.Yteobefanhicjkaa
open Go.RowKit
set_option maxRecDepth 100000
set_option linter.unusedVariables false
set_option linter.unusedSimpArgs false

def bestZ (s : QS) : Int := match s.best with | some (_, m) => (m : Int) | none => -1
theorem bestZ_none {s : QS} (h : s.best = none) : bestZ s = -1 := by unfold bestZ; rw [h]
theorem bestZ_some {s : QS} {g : List Nat} {m : Nat} (h : s.best = some (g, m)) : bestZ s = (m : Int) := by unfold bestZ; rw [h]
/-- The reference's search, in memory. -/
def svs (A : Option Addr) (n c : Nat) (A'' : Option Addr) (nt ct : Nat) (Ag : Option Addr) (ng cg : Nat) (Ab : Option Addr) (nb cb bud : Nat) (s : QS) : List Value :=
  [.slice A n c, .slice A'' nt ct, .slice Ag ng cg, .slice Ab nb cb, .int .i64 (bestZ s), .int .i64 ((bud - s.left : Nat) : Int), .int .i64 (bud : Int), .bool s.spent]
def SPost (bh : Nat) (A : Option Addr) (n c : Nat) (A'' : Option Addr) (nt ct bud : Nat) (g : List Nat) (s : QS) (A0 : Option Addr) (w : World) (e : Ending) (w' : World) : Prop :=
  ∃ (Ag : Option Addr) (cg : Nat) (Ab : Option Addr) (nb cb : Nat), e = .returned (.tuple #[]) ∧ HC w' bh (svs A n c A'' nt ct Ag g.length cg Ab nb cb bud s) ∧ Own w' (bh + 1) 2 1 Ag g.length cg ((ci g).map (Value.int .i64)) ∧
    Own w' (bh + 1) 2 1 Ab nb cb ((ci (bestL s)).map (Value.int .i64)) ∧ Apart Ag Ab ∧ Touch2 w w' bh A0 ∧ OldNew w A0 Ag
/-- A step, for one who may not be able to do the task. -/
def cstep (l : List HelperR) (t : TaskR) (rec : List Nat → Nat → QS → QS) (g : List Nat) (sum : Nat) (s : QS) (k : Nat) : QS := if canB (HelperR.at_ l k) t then qstep l rec g sum s k else s
theorem fold_can (l : List HelperR) (t : TaskR) (rec : List Nat → Nat → QS → QS) (g : List Nat) (sum : Nat) (s : QS) : (csH l t).foldl (qstep l rec g sum) s = (List.range l.length).foldl (cstep l t rec g sum) s := by
  rw [csH_filter, List.foldl_filter]; rfl
theorem foldC_succ (f : QS → Nat → QS) (k : Nat) (s : QS) : (List.range (k + 1)).foldl f s = f ((List.range k).foldl f s) k := by
  rw [List.range_succ, List.foldl_append]; rfl
theorem cfold_spent (l : List HelperR) (t : TaskR) (rec : List Nat → Nat → QS → QS) (g : List Nat) (sum : Nat) : ∀ (ks : List Nat) (s : QS), s.spent = true → ks.foldl (cstep l t rec g sum) s = s := by
  intro ks
  induction ks with
  | nil => intro s _; rfl
  | cons k ks ih =>
    intro s h
    rw [List.foldl_cons]
    have : cstep l t rec g sum s k = s := by unfold cstep; rw [qstep_spent _ _ _ _ _ _ h]; split <;> rfl
    rw [this]; exact ih s h
theorem range_from (f : QS → Nat → QS) (s : QS) (k n : Nat) (hk : k ≤ n) (h : ∀ ks : List Nat, ks.foldl f ((List.range k).foldl f s) = (List.range k).foldl f s) : (List.range n).foldl f s = (List.range k).foldl f s := by
  obtain ⟨d, rfl⟩ : ∃ d, n = k + d := ⟨n - k, by omega⟩
  rw [List.range_add, List.foldl_append]; exact h _

set_option maxHeartbeats 4000000 in
theorem run_any : ∀ (m : Nat) (A A'' Ag Ab : Option Addr) (n c nt ct cg nb cb bh sum bud : Nat) (l : List HelperR) (tl : List TaskR) (g : List Nat) (s : QS) (w : World) (h : Reads w bh 3 A n (l.flatMap HelperR.cells)) (hn : n ≤ 10)
    (hsk : ∀ k, k < l.length → 0 ≤ (HelperR.at_ l k).Skills ∧ (HelperR.at_ l k).Skills ≤ 7) (hmn : ∀ k, k < l.length → 0 ≤ (HelperR.at_ l k).Minutes ∧ (HelperR.at_ l k).Minutes ≤ 1000) (h'' : Reads w bh 3 A'' nt (tl.flatMap TaskR.cells)) (hct : nt ≤ ct) (hnt : nt ≤ 8)
    (hm : g.length + m = nt) (hsum : sum ≤ 1000 * g.length) (hbud : bud ≤ 20000) (hl : s.left ≤ bud) (hok : QOk nt s)
    (hc : HC w bh (svs A n c A'' nt ct Ag g.length cg Ab nb cb bud s)) (hg : Own w (bh + 1) 2 1 Ag g.length cg ((ci g).map (Value.int .i64))) (hb : Own w (bh + 1) 2 1 Ab nb cb ((ci (bestL s)).map (Value.int .i64))) (hap : Apart Ag Ab),
    Calls Try.prog 70 #[.pointer (some ⟨bh, 0, none⟩), .int .i64 sum] w (SPost bh A n c A'' nt ct bud g (qs l (tl.drop g.length) g sum s) Ag w) := by
  intro m
  induction m with
  | zero =>
    intro A A'' Ag Ab n c nt ct cg nb cb bh sum bud l tl g s w h hn hsk hmn h'' hct hnt hm hsum hbud hl hok hc hg hb hap
    have hT : tl.length = nt := TaskR.count h''
    have hgl : g.length = nt := by omega
    have Hq : Hid (qs l (tl.drop g.length) g sum s = qput s g sum) := Lib.hid (by rw [List.drop_of_length_le (by omega), qs])
    have hlt := hc.lt
    have Hc := Lib.hid hc
    have Hg := Lib.hid hg
    have Hb := Lib.hid hb
    have Hok := Lib.hid hok
    have c1 : w.cell? ⟨bh, 1, none⟩ = some (.slice A'' nt ct) := hc.at_ 1 _ rfl
    have c2 : w.cell? ⟨bh, 2, none⟩ = some (.slice Ag g.length cg) := hc.at_ 2 _ rfl
    have c3 : w.cell? ⟨bh, 3, none⟩ = some (.slice Ab nb cb) := hc.at_ 3 _ rfl
    have c4 : w.cell? ⟨bh, 4, none⟩ = some (.int .i64 (bestZ s)) := hc.at_ 4 _ rfl
    have f4 := hc.fz 4
    have hge : ((g.length : Int) == (nt : Int)) = true := by rw [beq_iff_eq]; omega
    have hge2 : decide (g.length = nt) = true := by rw [decide_eq_true_eq]; exact hgl
    have hgn : g.length ≤ 1048576 := by omega
    have Hgl := Lib.hid hgl
    clear hc hg hb hok hsk hmn hm hT hgl
    have take : s.best = none ∨ (∃ g0 m0, s.best = some (g0, m0) ∧ sum < m0) → Calls Try.prog 70 #[.pointer (some ⟨bh, 0, none⟩), .int .i64 sum] w (SPost bh A n c A'' nt ct bud g (qs l (tl.drop g.length) g sum s) Ag w) := by
      intro hcase
      have Hp : Hid (qput s g sum = ⟨s.left, s.spent, some (g, sum)⟩) := Lib.hid (by
        unfold qput
        rcases hcase with e | ⟨g0, m0, e, hlt⟩
        · rw [e]
        · rw [e]; simp only []; rw [if_pos hlt])
      have hcS := Hc.out.set (j := 4) (.int .i64 (sum : Int)) (by simp [svs])
      have HcS := Lib.hid hcS
      have HgS := Lib.hid (Hg.out.setFar (j := 4) (Nat.lt_succ_self bh) (.int .i64 (sum : Int)))
      have hzS : (w.setCell ⟨bh, 4, none⟩ (.int .i64 (sum : Int))).heap.size = w.heap.size := by simp [World.setCell]
      have Hfin : Hid (∀ (w1 : World) (A1 : Option Addr) (c1 : Nat), Own w1 (w.setCell ⟨bh, 4, none⟩ (.int .i64 (sum : Int))).heap.size 2 1 A1 g.length c1 ((ci g).map (Value.int .i64)) → Below (w.setCell ⟨bh, 4, none⟩ (.int .i64 (sum : Int))).heap.size (w.setCell ⟨bh, 4, none⟩ (.int .i64 (sum : Int))) w1 →
          SPost bh A n c A'' nt ct bud g (qs l (tl.drop g.length) g sum s) Ag w (.returned (.tuple #[])) (w1.setCell ⟨bh, 3, none⟩ (.slice A1 g.length c1))) := Lib.hid (fun w1 A1 c1 o1 b1 => by
        rw [Hq.out, Hp.out]
        have k1 := (HcS.out.below b1 (by rw [hzS]; exact hlt)).set (j := 3) (.slice A1 g.length c1) (by simp [svs])
        refine ⟨Ag, cg, A1, g.length, c1, rfl, k1, ?_, ?_, ?_, ?_, OldNew.refl _ _⟩
        · exact (HgS.out.below b1).setFar (Nat.lt_succ_self _) _
        · exact (o1.mono (show bh + 1 ≤ _ by rw [hzS]; omega)).setFar (Nat.lt_succ_self _) _
        · exact apart_of HgS.out o1 (Nat.le_refl _)
        · exact ((Touch2.of_set w bh 4 _ Ag).trans (Touch2.of_below bh Ag b1) (OldNew.refl _ _)).trans (Touch2.of_set _ bh 3 _ Ag) (OldNew.refl _ _))
      have Hce : Hid (∀ (w1 : World), Below (w.setCell ⟨bh, 4, none⟩ (.int .i64 (sum : Int))).heap.size (w.setCell ⟨bh, 4, none⟩ (.int .i64 (sum : Int))) w1 → w1.cell? ⟨bh, 3, none⟩ = some (.slice Ab nb cb) ∧ w1.frozen? ⟨bh, 3, none⟩ = false) := Lib.hid (fun w1 b1 => by
        have k := HcS.out.below b1 (by rw [hzS]; exact hlt)
        exact ⟨k.at_ 3 _ rfl, k.fz 3⟩)
      have HgI : Hid (Ints (w.setCell ⟨bh, 4, none⟩ (.int .i64 (sum : Int))) (w.setCell ⟨bh, 4, none⟩ (.int .i64 (sum : Int))).heap.size Ag g.length (ci g)) := Lib.hid HgS.out.reads
      have hcz : decide (bestZ s < 0) = true ∨ (decide (bestZ s < 0) = false ∧ decide ((sum : Int) < bestZ s) = true) := by
        rcases hcase with e | ⟨g0, m0, e, hlt2⟩
        · left; rw [bestZ_none e]; rfl
        · right; rw [bestZ_some e]; exact ⟨by simp, by simp; omega⟩
      clear hcS hzS
      generalize bestZ s = bz at *
      rcases hcz with hd1 | ⟨hd1, hd2⟩
      all_goals
        go_enter Try.func70, Try.ntmps70
        go_wp2_with fail
        refine (l00Own_any HgI.out (Nat.le_refl _) hgn).mono ?_
        rintro e w1 ⟨A1, c1', rfl, o1, b1⟩
        obtain ⟨d3, f3⟩ := Hce.out w1 b1
        have F := Lib.hid (Hfin.out w1 A1 c1' o1 b1)
        clear c1 c2 c3 c4
        go_wp2_with fail
        exact bodyPost_ret (v := .tuple #[]) (by simp [results, Try.results70, go_sem]) rfl F.out
    cases hbs : s.best with
    | none => exact take (.inl hbs)
    | some x =>
      obtain ⟨g0, m0⟩ := x
      by_cases hlt2 : sum < m0
      · exact take (.inr ⟨g0, m0, hbs, hlt2⟩)
      · have Hp : Hid (qput s g sum = s) := Lib.hid (by unfold qput; rw [hbs]; simp only []; rw [if_neg hlt2])
        have hz := bestZ_some hbs
        have hd1 : decide (bestZ s < 0) = false := by rw [hz]; simp
        have hd2 : decide ((sum : Int) < bestZ s) = false := by rw [hz]; simp; omega
        have Hfin : Hid (SPost bh A n c A'' nt ct bud g (qs l (tl.drop g.length) g sum s) Ag w (.returned (.tuple #[])) w) := Lib.hid (by
          rw [Hq.out, Hp.out]
          exact ⟨Ag, cg, Ab, nb, cb, rfl, Hc.out, Hg.out, Hb.out, hap, Touch2.refl _ _ _, OldNew.refl _ _⟩)
        clear take hbs hz
        generalize bestZ s = bz at *
        go_enter Try.func70, Try.ntmps70
        go_wp2_with fail
        exact bodyPost_ret (v := .tuple #[]) (by simp [results, Try.results70, go_sem]) rfl Hfin.out
  | succ m ih =>
    intro A A'' Ag Ab n c nt ct cg nb cb bh sum bud l tl g s w h hn hsk hmn h'' hct hnt hm hsum hbud hl hok hc hg hb hap
    have HL := Lib.hid (HelperR.count h)
    have HT := Lib.hid (TaskR.count h'')
    have hi0 : g.length < nt := by omega
    have hlt := hc.lt
    obtain ⟨i0, hi1, hz0, hz1, hz2⟩ := info_parts info_int
    have Hq : Hid (qs l (tl.drop g.length) g sum s = (List.range n).foldl (cstep l (TaskR.at_ tl g.length) (qs l (tl.drop (g.length + 1))) g sum) s) := Lib.hid (by rw [drop_at (by rw [HT.out]; exact hi0), qs, fold_can, HL.out])
    have Ih := Lib.hid ih
    have Hc := Lib.hid hc
    have Hg := Lib.hid hg
    have Hb := Lib.hid hb
    have Hok := Lib.hid hok
    have Hsk := Lib.hid hsk
    have Hmn := Lib.hid hmn
    have Hap := Lib.hid hap
    have c1 : w.cell? ⟨bh, 1, none⟩ = some (.slice A'' nt ct) := hc.at_ 1 _ rfl
    have c2 : w.cell? ⟨bh, 2, none⟩ = some (.slice Ag g.length cg) := hc.at_ 2 _ rfl
    have hge : ((g.length : Int) == (nt : Int)) = false := by rw [beq_eq_false_iff_ne]; omega
    have hge2 : decide (g.length = nt) = false := by rw [decide_eq_false_iff_not]; omega
    have hgi0 : (0 : Int) ≤ (g.length : Int) := by omega
    have hgi1 : (g.length : Int) < (nt : Int) := by omega
    have Hm := Lib.hid hm
    have HGF : Hid (∀ a, Ag = some a → bh + 1 ≤ a.block) := Lib.hid hg.from
    clear ih hc hg hb hok hsk hmn hm hap
    go_enter Try.func70, Try.ntmps70
    go_wp2_with fail
    clear c1 c2
    go_loopg [5] n (fun gk vk wr => ∃ (k : Nat) (Ag1 : Option Addr) (cg1 : Nat) (Ab1 : Option Addr) (nb1 cb1 : Nat) (q : QS), k ≤ n ∧ gk + k = n ∧ vk = .int .i64 k ∧
      (List.range k).foldl (cstep l (TaskR.at_ tl g.length) (qs l (tl.drop (g.length + 1))) g sum) s = q ∧ q.left ≤ bud ∧ QOk nt q ∧
      HC wr bh (svs A n c A'' nt ct Ag1 g.length cg1 Ab1 nb1 cb1 bud q) ∧ Own wr (bh + 1) 2 1 Ag1 g.length cg1 ((ci g).map (Value.int .i64)) ∧ Own wr (bh + 1) 2 1 Ab1 nb1 cb1 ((ci (bestL q)).map (Value.int .i64)) ∧ Apart Ag1 Ab1 ∧
      Touch2 w wr bh Ag ∧ OldNew w Ag Ag1)
    case atStart => exact ⟨0, Ag, cg, Ab, nb, cb, s, by omega, by omega, rfl, rfl, hl, Hok.out, Hc.out, Hg.out, Hb.out, Hap.out, Touch2.refl _ _ _, OldNew.refl _ _⟩
    case round =>
      clear Hc Hg Hb Hok Hap
      obtain ⟨k, Ag1, cg1, Ab1, nb1, cb1, q, hk, hgk, rfl, hq, hql, hqo, hc, hg, hb, hap, ht2, hon⟩ := hrel
      have Hgk := Lib.hid hgk
      have HQ := Lib.hid hq
      have Hqo := Lib.hid hqo
      have Hc := Lib.hid hc
      have Hg := Lib.hid hg
      have Hb := Lib.hid hb
      have Hap := Lib.hid hap
      have Ht2 := Lib.hid ht2
      have Hon := Lib.hid hon
      have hbs := ht2.size
      have hltw := hc.lt
      have hbel := ht2.below (show bh ≤ w.heap.size by omega) (fun a ha => by have := HGF.out a ha; omega)
      have Hbel := Lib.hid hbel
      clear hgk hq hqo hc hg hb hap ht2 hon hbel
      have hqk : IntKind.i64.wrap ((k : Int) + 1) = (k : Int) + 1 := IntWalk.i64_in _ (by omega)
      have d0 : wr.cell? ⟨bh, 0, none⟩ = some (.slice A n c) := Hc.out.at_ 0 _ rfl
      have d1 : wr.cell? ⟨bh, 1, none⟩ = some (.slice A'' nt ct) := Hc.out.at_ 1 _ rfl
      have d2 : wr.cell? ⟨bh, 2, none⟩ = some (.slice Ag1 g.length cg1) := Hc.out.at_ 2 _ rfl
      have d5 : wr.cell? ⟨bh, 5, none⟩ = some (.int .i64 ((bud - q.left : Nat) : Int)) := Hc.out.at_ 5 _ rfl
      have d6 : wr.cell? ⟨bh, 6, none⟩ = some (.int .i64 (bud : Int)) := Hc.out.at_ 6 _ rfl
      have d7 : wr.cell? ⟨bh, 7, none⟩ = some (.bool q.spent) := Hc.out.at_ 7 _ rfl
      have f5 := Hc.out.fz 5
      have f7 := Hc.out.fz 7
      have hgI : Ints wr wr.heap.size Ag1 g.length (ci g) := Hg.out.reads
      have hgn : g.length ≤ 1048576 := by omega
      by_cases hlti : k < n
      · have hk0 : (0 : Int) ≤ (k : Int) := by omega
        have hk1 : (k : Int) < (n : Int) := by omega
        have hd0 : decide (k < n) = true := decide_eq_true hlti
        cases hsp : q.spent with
        | true =>
          rw [hsp] at d7
          have HN : Hid (qs l (tl.drop g.length) g sum s = q) := Lib.hid (by
            rw [Hq.out, range_from _ s k n (by omega) (fun ks => by rw [HQ.out]; exact cfold_spent _ _ _ _ _ _ _ hsp), HQ.out])
          have HF : Hid (SPost bh A n c A'' nt ct bud g (qs l (tl.drop g.length) g sum s) Ag w (.returned (.tuple #[])) wr) := Lib.hid (by
            rw [HN.out]; exact ⟨Ag1, cg1, Ab1, nb1, cb1, rfl, Hc.out, Hg.out, Hb.out, Hap.out, Ht2.out, Hon.out⟩)
          clear hsp
          go_wp2_with fail
          exact bodyPost_ret (v := .tuple #[]) (by simp [results, Try.results70, go_sem]) rfl HF.out
        | false =>
        rw [hsp] at d7
        obtain ⟨adl, rfl, hbl, p0, p1, p2⟩ := HelperR.rd (Reads.below h Hbel.out (Nat.le_refl _)) hlti
        obtain ⟨adt, rfl, hblt, t0, t1, t2⟩ := TaskR.rd (Reads.below h'' Hbel.out (Nat.le_refl _)) hi0
        have Hft : Hid ((List.range (k + 1)).foldl (cstep l (TaskR.at_ tl g.length) (qs l (tl.drop (g.length + 1))) g sum) s = cstep l (TaskR.at_ tl g.length) (qs l (tl.drop (g.length + 1))) g sum q k) := Lib.hid (by rw [foldC_succ, HQ.out])
        have Hst : Hid (cstep l (TaskR.at_ tl g.length) (qs l (tl.drop (g.length + 1))) g sum q k = if canB (HelperR.at_ l k) (TaskR.at_ tl g.length) then (if g.contains k then q else if q.spent then q else if q.left = 0 then ⟨0, true, q.best⟩ else qs l (tl.drop (g.length + 1)) (g ++ [k]) (sum + mnH l k) ⟨q.left - 1, q.spent, q.best⟩) else q) := Lib.hid rfl
        have cH : ∀ d, Calls Try.prog 66 #[.slice Ag1 g.length cg1, .int .i64 (k : Int)] (wr.drewN d) fun e w'' => e = .returned (.bool (g.contains k)) ∧ ∃ m, w'' = wr.drewN m := fun d => by
          have := quiet_left (l00Has_any (c := cg1) (v := (k : Int)) (w := wr.drewN d) hgI (by omega)); rw [ci_any] at this; exact this
        have cC : ∀ d, Calls Try.prog 67 #[.pointer (some (adl.add (k * 3))), .pointer (some (adt.add (g.length * 3)))] (wr.drewN d) fun e w'' => e = .returned (.bool (canB (HelperR.at_ l k) (TaskR.at_ tl g.length))) ∧ ∃ m, w'' = wr.drewN m := fun d => quiet_draw (l24Can_any (x := HelperR.at_ l k) (t := TaskR.at_ tl g.length) (w := wr.drewN d) p0 p1 p2 t0 t1 t2)
        have HCd := Lib.hid (fun d => Hc.out.drewN d)
        have HTd : Hid (∀ d, Touch2 w (wr.drewN d) bh Ag) := Lib.hid (fun d => ⟨Ht2.out.os, Ht2.out.tape, Ht2.out.output, Ht2.out.size, Ht2.out.block⟩)
        cases hcg : g.contains k with
        | true =>
          rw [hcg] at cH
          have HN : Hid ((List.range (k + 1)).foldl (cstep l (TaskR.at_ tl g.length) (qs l (tl.drop (g.length + 1))) g sum) s = q) := Lib.hid (by rw [Hft.out, Hst.out, hcg]; simp)
          clear hcg cC Hst Hft p0 p1 p2 t0 t1 t2 hsp
          go_wp2_with fail
          go_quiet (with_reducible exact cH _)
          go_wp2_with fail
          have hgk := Hgk.out
          go_roundg (gk - 1)
          case rel => exact ⟨k + 1, Ag1, cg1, Ab1, nb1, cb1, q, by omega, by omega, by go_num, HN.out, hql, Hqo.out, HCd.out _, own_drewN Hg.out _, own_drewN Hb.out _, Hap.out, HTd.out _, Hon.out⟩
          case measure => omega
        | false =>
        cases hcc : canB (HelperR.at_ l k) (TaskR.at_ tl g.length) with
        | false =>
          rw [hcg] at cH
          rw [hcc] at cC
          have HN : Hid ((List.range (k + 1)).foldl (cstep l (TaskR.at_ tl g.length) (qs l (tl.drop (g.length + 1))) g sum) s = q) := Lib.hid (by rw [Hft.out, Hst.out, hcc]; rfl)
          clear hcg hcc Hst Hft p0 p1 p2 t0 t1 t2 hsp
          go_wp2_with fail
          go_quiet (first | with_reducible exact cH _ | with_reducible exact cC _)
          go_wp2_with fail
          have hgk := Hgk.out
          go_roundg (gk - 1)
          case rel => exact ⟨k + 1, Ag1, cg1, Ab1, nb1, cb1, q, by omega, by omega, by go_num, HN.out, hql, Hqo.out, HCd.out _, own_drewN Hg.out _, own_drewN Hb.out _, Hap.out, HTd.out _, Hon.out⟩
          case measure => omega
        | true =>
        rw [hcg] at cH
        rw [hcc] at cC
        rw [hcg, hcc, hsp] at Hst
        simp only [if_true, Bool.false_eq_true, if_false] at Hst
        have Hspq := Lib.hid hsp
        clear hcg hcc hsp
        by_cases hl0 : q.left = 0
        · have e5 : (((bud - q.left : Nat) : Int) == (bud : Int)) = true := by rw [beq_iff_eq]; omega
          have e5' : decide (bud - q.left = bud) = true := by rw [decide_eq_true_eq]; omega
          have HN : Hid (qs l (tl.drop g.length) g sum s = ⟨0, true, q.best⟩) := Lib.hid (by
            rw [Hq.out, range_from _ s (k + 1) n (by omega) (fun ks => by rw [Hft.out, Hst.out, if_pos hl0]; exact cfold_spent _ _ _ _ _ _ _ rfl), Hft.out, Hst.out, if_pos hl0])
          have HF : Hid (∀ d, SPost bh (some adl) n c (some adt) nt ct bud g (qs l (tl.drop g.length) g sum s) Ag w (.returned (.tuple #[])) ((wr.drewN d).setCell ⟨bh, 7, none⟩ (.bool true))) := Lib.hid (fun d => by
            rw [HN.out]
            have hc1 := (HCd.out d).set (j := 7) (.bool true) (by simp [svs])
            refine ⟨Ag1, cg1, Ab1, nb1, cb1, rfl, ?_, (own_drewN Hg.out d).setFar (Nat.lt_succ_self _) _, (own_drewN Hb.out d).setFar (Nat.lt_succ_self _) _, Hap.out, (HTd.out d).trans (Touch2.of_set _ bh 7 _ Ag1) Hon.out, Hon.out⟩
            simp only [svs, List.set_cons_succ, List.set_cons_zero, hl0] at hc1
            exact hc1)
          have Hl0 := Lib.hid hl0
          clear hl0 Hst Hft p0 p1 p2 t0 t1 t2
          go_wp2_with fail
          go_quiet (first | with_reducible exact cH _ | with_reducible exact cC _)
          go_wp2_with fail
          go_quiet (fail)
          go_wp2_with fail
          exact bodyPost_ret (v := .tuple #[]) (by simp [results, Try.results70, go_sem]) rfl (HF.out _)
        · have e5 : (((bud - q.left : Nat) : Int) == (bud : Int)) = false := by rw [beq_eq_false_iff_ne]; omega
          have e5' : decide (bud - q.left = bud) = false := by rw [decide_eq_false_iff_not]; omega
          obtain ⟨q1, hq1⟩ : ∃ q1 : QS, q1 = ⟨q.left - 1, false, q.best⟩ := ⟨_, rfl⟩
          have HN : Hid ((List.range (k + 1)).foldl (cstep l (TaskR.at_ tl g.length) (qs l (tl.drop (g.length + 1))) g sum) s = qs l (tl.drop (g.length + 1)) (g ++ [k]) (sum + mnH l k) q1) := Lib.hid (by rw [Hft.out, Hst.out, if_neg hl0, hq1])
          have hq5 : IntKind.i64.wrap (((bud - q.left : Nat) : Int) + 1) = ((bud - q1.left : Nat) : Int) := by rw [IntWalk.i64_in _ (by omega), hq1]; show _ = ((bud - (q.left - 1) : Nat) : Int); omega
          have hq1l : q1.left ≤ bud := by rw [hq1]; show q.left - 1 ≤ bud; omega
          have Hq1o : Hid (QOk nt q1) := Lib.hid (by rw [hq1]; exact Hqo.out)
          have HW : Hid (∀ d, HC ((wr.drewN d).setCell ⟨bh, 5, none⟩ (.int .i64 ((bud - q1.left : Nat) : Int))) bh (svs (some adl) n c (some adt) nt ct Ag1 g.length cg1 Ab1 nb1 cb1 bud q1) ∧ Own ((wr.drewN d).setCell ⟨bh, 5, none⟩ (.int .i64 ((bud - q1.left : Nat) : Int))) (bh + 1) 2 1 Ag1 g.length cg1 ((ci g).map (Value.int .i64)) ∧
              Own ((wr.drewN d).setCell ⟨bh, 5, none⟩ (.int .i64 ((bud - q1.left : Nat) : Int))) (bh + 1) 2 1 Ab1 nb1 cb1 ((ci (bestL q1)).map (Value.int .i64)) ∧ Touch2 w ((wr.drewN d).setCell ⟨bh, 5, none⟩ (.int .i64 ((bud - q1.left : Nat) : Int))) bh Ag ∧ ((wr.drewN d).setCell ⟨bh, 5, none⟩ (.int .i64 ((bud - q1.left : Nat) : Int))).heap.size = wr.heap.size) := Lib.hid (fun d => by
            have hc1 := (HCd.out d).set (j := 5) (.int .i64 ((bud - q1.left : Nat) : Int)) (by simp [svs])
            refine ⟨?_, (own_drewN Hg.out d).setFar (Nat.lt_succ_self _) _, ?_, (HTd.out d).trans (Touch2.of_set _ bh 5 _ Ag1) Hon.out, by simp [World.setCell, World.drewN]⟩
            · have hbz : bestZ q1 = bestZ q := by rw [hq1]; rfl
              have hsz : q1.spent = false := by rw [hq1]
              have hsq : q.spent = false := Hspq.out
              simp only [svs, List.set_cons_succ, List.set_cons_zero, hsq] at hc1
              simp only [svs, hbz, hsz]
              exact hc1
            · rw [hq1]; exact (own_drewN Hb.out d).setFar (Nat.lt_succ_self _) _)
          have HNW : Hid (∀ d j u, [Value.int .i64 (k : Int)][j]? = some u → (((wr.drewN d).setCell ⟨bh, 5, none⟩ (.int .i64 ((bud - q1.left : Nat) : Int))).alloc (.cells #[.int .i64 (k : Int)] 2)).cell? ((⟨wr.heap.size, 0, none⟩ : Addr).add j) = some u) := Lib.hid (fun d j u hu => by
            have := cell_one_new ((wr.drewN d).setCell ⟨bh, 5, none⟩ (.int .i64 ((bud - q1.left : Nat) : Int))) (.int .i64 (k : Int)) 2 j u hu
            rw [(HW.out d).2.2.2.2] at this; exact this)
          have HBW : Hid (∀ d, bh + 1 ≤ (((wr.drewN d).setCell ⟨bh, 5, none⟩ (.int .i64 ((bud - q1.left : Nat) : Int))).alloc (.cells #[.int .i64 (k : Int)] 2)).heap.size) := Lib.hid (fun d => by
            have := (HW.out d).2.2.2.2
            have h2 : (((wr.drewN d).setCell ⟨bh, 5, none⟩ (.int .i64 ((bud - q1.left : Nat) : Int))).alloc (.cells #[.int .i64 (k : Int)] 2)).heap.size = ((wr.drewN d).setCell ⟨bh, 5, none⟩ (.int .i64 ((bud - q1.left : Nat) : Int))).heap.size + 1 := by simp
            rw [h2, this]; omega)
          have Hl0 := Lib.hid hl0
          clear hl0 Hst Hft p0 p1 p2 t0 t1 t2 hq1 HCd HTd Hc Hg Hb Ht2
          go_wp2_with fail
          go_quiet (first | with_reducible exact cH _ | with_reducible exact cC _)
          go_wp2_with fail
          go_quiet (fail)
          go_wp2_with (at_builtin; refine wpList_app rfl _ _ 50 rfl 2 i0 _ 1 8 Try.underlying50 hi1 hz0 hz1 hz2 rfl (by omega) (by omega) (bh + 1) _ _ _ _ rfl ((HW.out _).2.1.alloc _) ⟨wr.heap.size, 0, none⟩ 1 1 [.int .i64 (k : Int)] rfl rfl (HNW.out _) (by simp [Value.oneCell']) (by omega) (HBW.out _) ?_)
          intro A5 c5 w5 o5 hgA hbA hat
          obtain ⟨W1, ⟨hc1, hg1, hb1, ht1, hz1⟩, hgA, hbA⟩ : ∃ W1, (HC W1 bh (svs (some adl) n c (some adt) nt ct Ag1 g.length cg1 Ab1 nb1 cb1 bud q1) ∧ Own W1 (bh + 1) 2 1 Ag1 g.length cg1 ((ci g).map (Value.int .i64)) ∧
              Own W1 (bh + 1) 2 1 Ab1 nb1 cb1 ((ci (bestL q1)).map (Value.int .i64)) ∧ Touch2 w W1 bh Ag ∧ W1.heap.size = wr.heap.size) ∧ (W1.alloc (.cells #[.int .i64 (k : Int)] 2)).grownBy w5 (Ag1.map (·.block)) ∧ Below (bh + 1) (W1.alloc (.cells #[.int .i64 (k : Int)] 2)) w5 := ⟨_, HW.out _, hgA, hbA⟩
          have Hc1 := Lib.hid hc1
          have Hg1 := Lib.hid hg1
          have Hb1 := Lib.hid hb1
          have Ht1 := Lib.hid ht1
          have Hz1 := Lib.hid hz1
          have hltW := hc1.lt
          clear hc1 hg1 hb1 ht1 hz1 HW HNW HBW cH cC d0 d1 d2 d5 d6 d7 f5 f7 hgI
          have hzz : W1.heap.size ≤ (W1.alloc (.cells #[.int .i64 (k : Int)] 2)).heap.size := by simp
          have bal : Below W1.heap.size W1 (W1.alloc (.cells #[.int .i64 (k : Int)] 2)) := (Below.refl _ _).alloc (Nat.le_refl _) _
          have hon5 : OldNew W1 Ag1 A5 := by
            intro a ha
            subst ha
            rcases hat with e | ⟨a', e, e2⟩
            · cases Ag1 with
              | none => cases e
              | some a0 => exact .inl ⟨a0, rfl, by simpa using e.symm⟩
            · right
              injection e with e
              subst e
              have := Hz1.out
              omega
          have tA : Touch2 W1 w5 bh Ag1 := (Touch2.of_below bh Ag1 bal).trans (Touch2.of_grown hgA) (OldNew.refl _ _)
          have Hc5 := Lib.hid ((Hc1.out.below bal hltW).below hbA (Nat.lt_succ_self _))
          have Hb5 := Lib.hid (own_grown (Hb1.out.below bal) hgA Hap.out)
          have hap5 : Apart A5 Ab1 := (apart_old Hap.out.symm hon5 (fun a ha => (Hb1.out.block_lt a ha).2.2.2)).symm
          have hw1w : wr.heap.size = W1.heap.size := Hz1.out.symm
          have hon15 : OldNew w Ag A5 := Hon.out.trans hon5 (by omega)
          have ht15 : Touch2 w w5 bh Ag := Ht1.out.trans tA Hon.out
          have o5' : Own w5 (bh + 1) 2 1 A5 (g ++ [k]).length c5 ((ci (g ++ [k])).map (Value.int .i64)) := by
            rw [show ci (g ++ [k]) = ci g ++ [(k : Int)] by simp [ci], List.map_append, List.length_append]; exact o5
          have hw5 : W1.heap.size ≤ w5.heap.size := tA.size
          have e4 : w5.cell? ⟨bh, 2, none⟩ = some (.slice Ag1 g.length cg1) := Hc5.out.at_ 2 _ rfl
          have f45 := Hc5.out.fz 2
          -- the world behind the store
          have hc6 : HC (w5.setCell ⟨bh, 2, none⟩ (.slice A5 (g.length + 1) c5)) bh (svs (some adl) n c (some adt) nt ct A5 (g ++ [k]).length c5 Ab1 nb1 cb1 bud q1) := by
            have := Hc5.out.set (j := 2) (.slice A5 (g.length + 1) c5) (by simp [svs])
            rw [List.length_append]; exact this
          have hg6 : Own (w5.setCell ⟨bh, 2, none⟩ (.slice A5 (g.length + 1) c5)) (bh + 1) 2 1 A5 (g ++ [k]).length c5 ((ci (g ++ [k])).map (Value.int .i64)) := o5'.setFar (Nat.lt_succ_self _) _
          have hb6 := Hb5.out.setFar (j := 2) (Nat.lt_succ_self bh) (.slice A5 (g.length + 1) c5)
          have ht6 : Touch2 w (w5.setCell ⟨bh, 2, none⟩ (.slice A5 (g.length + 1) c5)) bh Ag := ht15.trans (Touch2.of_set _ bh 2 _ A5) hon15
          have hz6 : (w5.setCell ⟨bh, 2, none⟩ (.slice A5 (g.length + 1) c5)).heap.size = w5.heap.size := by simp [World.setCell]
          have Hc6 := Lib.hid hc6
          have Hg6 := Lib.hid hg6
          have Hb6 := Lib.hid hb6
          have Ht6 := Lib.hid ht6
          have Hz6 := Lib.hid hz6
          have Hon15 := Lib.hid hon15
          have Hap5 := Lib.hid hap5
          have hbel := ht6.below (by omega) (fun a ha => by have := HGF.out a ha; omega)
          have Hbel := Lib.hid hbel
          clear o5 hgA hbA hat bal hon5 tA Hc5 Hb5 hap5 hon15 ht15 o5' hc6 hg6 hb6 ht6 hz6 Hc1 Hg1 Hb1 Ht1 hbel
          have hmk := Hmn.out k (by rw [HL.out]; exact hlti)
          have hmk2 : (HelperR.at_ l k).Minutes = ((mnH l k : Nat) : Int) := by unfold mnH; omega
          obtain ⟨adl2, had2, hbl2, _, _, p2⟩ := HelperR.rd (Reads.below h Hbel.out (Nat.le_refl _)) hlti
          injection had2 with had2
          subst had2
          rw [hmk2] at p2 hmk
          have hmk3 : mnH l k ≤ 1000 := by omega
          have Hsm : Hid (sum + mnH l k ≤ 1000 * (g ++ [k]).length) := Lib.hid (by rw [List.length_append]; simp; omega)
          have Hqok : Hid (QOk nt (qs l (tl.drop (g.length + 1)) (g ++ [k]) (sum + mnH l k) q1)) := Lib.hid (by
            have hm0 := Hm.out
            have ht := HT.out
            refine qs_ok l (fun k hk => by have := Hmn.out k hk; unfold mnH; omega) _ _ _ _ ?_ Hsm.out Hq1o.out
            rw [List.length_append, List.length_drop]; simp; omega)
          have hqleft : (qs l (tl.drop (g.length + 1)) (g ++ [k]) (sum + mnH l k) q1).left ≤ bud := by
            have := qs_left l (tl.drop (g.length + 1)) (g ++ [k]) (sum + mnH l k) q1; omega
          have hqs : IntKind.i64.wrap ((sum : Int) + ((mnH l k : Nat) : Int)) = ((sum + mnH l k : Nat) : Int) := by rw [IntWalk.i64_in _ (by omega)]; omega
          have g2 : (w5.setCell ⟨bh, 2, none⟩ (.slice A5 (g.length + 1) c5)).cell? ⟨bh, 0, none⟩ = some (.slice (some adl) n c) := Hc6.out.at_ 0 _ rfl
          have Hcall := Lib.hid (Ih.out (some adl) (some adt) A5 Ab1 n c nt ct c5 nb1 cb1 bh (sum + mnH l k) bud l tl (g ++ [k]) q1 _ (Reads.below h Hbel.out (Nat.le_refl _)) hn Hsk.out Hmn.out (Reads.below h'' Hbel.out (Nat.le_refl _)) hct hnt (by rw [List.length_append]; simp; have := Hm.out; omega) Hsm.out hbud hq1l Hq1o.out Hc6.out Hg6.out Hb6.out Hap5.out)
          have HN2 : Hid (qs l (tl.drop (g ++ [k]).length) (g ++ [k]) (sum + mnH l k) q1 = qs l (tl.drop (g.length + 1)) (g ++ [k]) (sum + mnH l k) q1) := Lib.hid (by rw [List.length_append]; rfl)
          rw [HN2.out] at Hcall
          clear hmk hmk2 Hc6 Hg6 Hb6
          generalize qs l (tl.drop (g.length + 1)) (g ++ [k]) (sum + mnH l k) q1 = q2 at *
          go_wp2_with fail
          refine Hcall.out.mono ?_
          rintro e w7 ⟨Ag7, cg7, Ab7, nb7, cb7, rfl, hc7, hg7, hb7, hap7, ht7, hon7⟩
          have hw56 := Hz6.out
          have hon17 : OldNew w Ag Ag7 := Hon15.out.trans hon7 (by have := Ht6.out.size; omega)
          have ht17 : Touch2 w w7 bh Ag := Ht6.out.trans ht7 Hon15.out
          have i4 : w7.cell? ⟨bh, 2, none⟩ = some (.slice Ag7 (g.length + 1) cg7) := by have := hc7.at_ 2 _ rfl; rw [List.length_append] at this; exact this
          have fi4 := hc7.fz 2
          have hgl7 : g.length + 1 ≤ cg7 := by have := hg7.cap; rw [List.length_append] at this; exact this
          have hgi7 : (g.length : Int) ≤ (cg7 : Int) := by omega
          have Hc8 := Lib.hid (hc7.set (j := 2) (.slice Ag7 g.length cg7) (by simp [svs]))
          have hg8 : Own w7 (bh + 1) 2 1 Ag7 g.length cg7 ((ci g).map (Value.int .i64)) := by
            have := hg7.headM (k := g.length) (by rw [List.length_append]; omega)
            rw [Nat.mul_one, ← List.map_take, show (ci (g ++ [k])).take g.length = ci g by rw [show ci (g ++ [k]) = ci g ++ [(k : Int)] by simp [ci], List.take_append_of_le_length (by rw [ci_len]; exact Nat.le_refl _), List.take_of_length_le (by rw [ci_len]; exact Nat.le_refl _)]] at this
            exact this
          have Hg8 := Lib.hid (hg8.setFar (j := 2) (Nat.lt_succ_self bh) (.slice Ag7 g.length cg7))
          have Hb8 := Lib.hid (hb7.setFar (j := 2) (Nat.lt_succ_self bh) (.slice Ag7 g.length cg7))
          have Ht8 := Lib.hid (ht17.trans (Touch2.of_set _ bh 2 (.slice Ag7 g.length cg7) Ag7) hon17)
          have Hon8 := Lib.hid hon17
          have Hap8 := Lib.hid hap7
          obtain ⟨ad7, hA7⟩ : ∃ ad7, Ag7 = some ad7 := by
            cases Ag7 with
            | none => have := hg7.none_n; rw [List.length_append] at this; simp at this
            | some a => exact ⟨a, rfl⟩
          subst hA7
          clear hc7 hg7 hb7 hap7 ht7 hon7 hon17 ht17 hg8 Hcall g2 p2
          go_wp2_with fail
          have hgk := Hgk.out
          go_roundg (gk - 1)
          case rel => exact ⟨k + 1, some ad7, cg7, Ab7, nb7, cb7, q2, by omega, by omega, by go_num, HN.out, hqleft, Hqok.out, Hc8.out, Hg8.out, Hb8.out, Hap8.out, Ht8.out, Hon8.out⟩
          case measure => omega
      · have hke : n = k := by omega
        have HN : Hid (qs l (tl.drop g.length) g sum s = q) := Lib.hid (by rw [Hq.out, hke, HQ.out])
        have HF : Hid (SPost bh A n c A'' nt ct bud g (qs l (tl.drop g.length) g sum s) Ag w (.returned (.tuple #[])) wr) := Lib.hid (by
          rw [HN.out]; exact ⟨Ag1, cg1, Ab1, nb1, cb1, rfl, Hc.out, Hg.out, Hb.out, Hap.out, Ht2.out, Hon.out⟩)
        have hd0 : decide (k < n) = false := decide_eq_false hlti
        clear hke
        go_wp2_with fail
        exact bodyPost_ret (v := .tuple #[]) (by simp [results, Try.results70, go_sem]) rfl HF.out
end Go.Proofs.Yteobefanhicjkaa
