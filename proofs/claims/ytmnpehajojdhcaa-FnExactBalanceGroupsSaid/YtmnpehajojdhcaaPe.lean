/- Ballast: BalanceGroups: the reference's search, all of it. -/
import Derived.Test.YtmnpehajojdhcaaPd
import Derived.StillTailTactics
namespace Go.Proofs.Ytmnpehajojdhcaa
open Go.RowKit
set_option maxRecDepth 100000
set_option linter.unusedVariables false
set_option linter.unusedSimpArgs false

theorem touch3_keep {w w' : World} {b b2 : Nat} {A : Option Addr} (B : Nat) (h : Touch3 w w' b b2 A) (hB : B ≤ w.heap.size) (hb : B ≤ b) (hb2 : B ≤ b2) (hA : ∀ a, A = some a → B ≤ a.block) : Below B w w' := h.below hB hb hb2 hA

set_option maxHeartbeats 8000000 in
theorem run_any : ∀ (m : Nat) (A Ag Ab : Option Addr) (n c cg nb cb bh sb bud : Nat) (room a b : Int) (l g : List Int) (s : BS) (w : World) (h : Ints w sb A n l) (hn : n ≤ 10) (hx : ∀ k, k < n → 0 ≤ nth l k ∧ nth l k ≤ 100000)
    (hz : ZOk room [a, b]) (hrm : room ≤ 1000000) (hm : g.length + m = n) (hsb : sb < bh) (hbud : bud ≤ 20000) (hl : s.left ≤ bud) (hok : BOk n s)
    (hc : HC w bh (cvs A n c room Ag g.length cg sb Ab nb cb bud s)) (hcs : HC w sb [.int .i64 a, .int .i64 b]) (hg : Own w (bh + 1) 2 1 Ag g.length cg (g.map (Value.int .i64))) (hb : Own w (bh + 1) 2 1 Ab nb cb ((bbL s).map (Value.int .i64))) (hap : Apart Ag Ab),
    Calls Try.prog 37 #[.pointer (some ⟨bh, 0, none⟩)] w (CPost bh sb A n c room a b bud g (bs room (l.drop g.length) g [a, b] s) Ag w) := by
  intro m
  induction m with
  | zero =>
    intro A Ag Ab n c cg nb cb bh sb bud room a b l g s w h hn hx hz hrm hm hsb hbud hl hok hc hcs hg hb hap
    exact run_zero A Ag Ab n c cg nb cb bh sb bud room a b l g s w h hn hz hrm hm hsb hok hc hcs hg hb hap
  | succ m ih =>
    intro A Ag Ab n c cg nb cb bh sb bud room a b l g s w h hn hx hz hrm hm hsb hbud hl hok hc hcs hg hb hap
    have HL := Lib.hid h.len
    have hi0 : g.length < n := by omega
    have hlt := hc.lt
    obtain ⟨i0, hi1, hz0, hz1, hz2⟩ := info_parts info_int
    have Hq : Hid (bs room (l.drop g.length) g [a, b] s = (List.range 2).foldl (bstep room (nth l g.length) (bs room (l.drop (g.length + 1))) g [a, b]) s) := Lib.hid (by rw [drop_nth (by rw [HL.out]; exact hi0), bs])
    have hxg := hx g.length hi0
    obtain ⟨adm, e0, hblm, hcm⟩ := Ints.at_ h hi0
    subst e0
    obtain ⟨x, hxe⟩ : ∃ x, nth l g.length = x := ⟨_, rfl⟩
    rw [hxe] at Hq hxg hcm
    have Hxe := Lib.hid hxe
    clear hxe hcm
    have Hz := Lib.hid hz
    have Ih := Lib.hid ih
    have Hc := Lib.hid hc
    have Hcs := Lib.hid hcs
    have Hg := Lib.hid hg
    have Hb := Lib.hid hb
    have Hok := Lib.hid hok
    have Hx := Lib.hid hx
    have Hap := Lib.hid hap
    have Hm := Lib.hid hm
    have HM : Hid (Ints w sb (some adm) n l) := Lib.hid h
    have HGF : Hid (∀ a, Ag = some a → bh + 1 ≤ a.block ∧ a.block < w.heap.size) := Lib.hid (fun a ha => ⟨(hg.block_lt a ha).2.2.1, (hg.block_lt a ha).2.2.2⟩)
    have c0 : w.cell? ⟨bh, 0, none⟩ = some (.slice (some adm) n c) := hc.at_ 0 _ rfl
    have c2 : w.cell? ⟨bh, 2, none⟩ = some (.slice Ag g.length cg) := hc.at_ 2 _ rfl
    have hge : ((g.length : Int) == (n : Int)) = false := by rw [beq_eq_false_iff_ne]; omega
    have hge2 : decide (g.length = n) = false := by rw [decide_eq_false_iff_not]; omega
    have hgi0 : (0 : Int) ≤ (g.length : Int) := by omega
    have hgi1 : (g.length : Int) < (n : Int) := by omega
    clear ih hc hcs hg hb hok hx hm hz hap h
    go_enter Try.func37, Try.ntmps37
    go_wp2_with fail
    clear c0 c2
    go_loopg [4] 2 (fun gk vk wr => ∃ (k : Nat) (Ag1 : Option Addr) (cg1 : Nat) (Ab1 : Option Addr) (nb1 cb1 : Nat) (q : BS), k ≤ 2 ∧ gk + k = 2 ∧ vk = .int .i64 k ∧
      (List.range k).foldl (bstep room x (bs room (l.drop (g.length + 1))) g [a, b]) s = q ∧ q.left ≤ bud ∧ BOk n q ∧
      HC wr bh (cvs (some adm) n c room Ag1 g.length cg1 sb Ab1 nb1 cb1 bud q) ∧ HC wr sb [.int .i64 a, .int .i64 b] ∧ Own wr (bh + 1) 2 1 Ag1 g.length cg1 (g.map (Value.int .i64)) ∧ Own wr (bh + 1) 2 1 Ab1 nb1 cb1 ((bbL q).map (Value.int .i64)) ∧ Apart Ag1 Ab1 ∧
      Touch3 w wr bh sb Ag ∧ OldNew w Ag Ag1)
    case atStart => exact ⟨0, Ag, cg, Ab, nb, cb, s, by omega, by omega, rfl, rfl, hl, Hok.out, Hc.out, Hcs.out, Hg.out, Hb.out, Hap.out, Touch3.refl _ _ _ _, OldNew.refl _ _⟩
    case round =>
      clear Hc Hcs Hg Hb Hok Hap
      obtain ⟨k, Ag1, cg1, Ab1, nb1, cb1, q, hk, hgk, rfl, hq, hql, hqo, hc, hcs, hg, hb, hap, ht2, hon⟩ := hrel
      have Hgk := Lib.hid hgk
      have HQ := Lib.hid hq
      have Hqo := Lib.hid hqo
      have Hc := Lib.hid hc
      have Hcs := Lib.hid hcs
      have Hg := Lib.hid hg
      have Hb := Lib.hid hb
      have Hap := Lib.hid hap
      have Ht2 := Lib.hid ht2
      have Hon := Lib.hid hon
      have hbs := ht2.size
      have hltw := hc.lt
      have hlts := hcs.lt
      have hbel := touch3_keep sb ht2 (by omega) (by omega) (Nat.le_refl _) (fun a ha => by have := HGF.out a ha; omega)
      have Hbel := Lib.hid hbel
      clear hgk hq hqo hc hcs hg hb hap ht2 hon hbel
      have hqk : IntKind.i64.wrap ((k : Int) + 1) = (k : Int) + 1 := IntWalk.i64_in _ (by omega)
      by_cases hlti : k < 2
      · have hk0 : (0 : Int) ≤ (k : Int) := by omega
        have hk1 : (k : Int) < 2 := by omega
        have hd0 : decide (k < 2) = true := decide_eq_true hlti
        obtain ⟨v, hv⟩ : ∃ v, nth [a, b] k = v := ⟨_, rfl⟩
        have hvb := z_at Hz.out hlti
        rw [hv] at hvb
        have hqv : IntKind.i64.wrap (v + x) = v + x := IntWalk.i64_in _ (by omega)
        have hqv2 : IntKind.i64.wrap (v + x - x) = v := by rw [IntWalk.i64_in _ (by omega)]; omega
        obtain ⟨a', b', hab'⟩ : ∃ a' b', ([a, b] : List Int).set k (v + x) = [a', b'] := by
          match k, hlti with
          | 0, _ => exact ⟨v + x, b, rfl⟩
          | 1, _ => exact ⟨a, v + x, rfl⟩
        have hba : ([a', b'] : List Int).set k v = [a, b] := by
          rw [← hab', ← hv]
          exact (z_back Hz.out hlti).1
        have Hstep : Hid (bstep room x (bs room (l.drop (g.length + 1))) g [a, b] q k = if room < v + x then q else if q.spent then q else if q.left = 0 then ⟨0, true, q.best⟩ else bs room (l.drop (g.length + 1)) (g ++ [(k : Int)]) [a', b'] ⟨q.left - 1, q.spent, q.best⟩) := Lib.hid (by unfold bstep; rw [hv, hab'])
        have HS : Hid ((List.range (k + 1)).foldl (bstep room x (bs room (l.drop (g.length + 1))) g [a, b]) s = bstep room x (bs room (l.drop (g.length + 1))) g [a, b] q k) := Lib.hid (by rw [bfold_succ, HQ.out])
        have hav : [Value.int .i64 a, Value.int .i64 b][k]? = some (Value.int .i64 v) := by
          rw [← hv]
          match k, hlti with
          | 0, _ => rfl
          | 1, _ => rfl
        have hset : [Value.int .i64 a, Value.int .i64 b].set k (Value.int .i64 (v + x)) = [Value.int .i64 a', Value.int .i64 b'] := by
          have := congrArg (List.map (Value.int .i64)) hab'
          simpa using this
        have hset2 : [Value.int .i64 a', Value.int .i64 b'].set k (Value.int .i64 v) = [Value.int .i64 a, Value.int .i64 b] := by
          have := congrArg (List.map (Value.int .i64)) hba
          simpa using this
        have hav2 : [Value.int .i64 a', Value.int .i64 b'][k]? = some (Value.int .i64 (v + x)) := by
          rw [← hset]
          match k, hlti with
          | 0, _ => rfl
          | 1, _ => rfl
        have Hset := Lib.hid hset
        have Hset2 := Lib.hid hset2
        have Hav2 := Lib.hid hav2
        have Hv := Lib.hid hv
        have Hab' := Lib.hid hab'
        have d0 : wr.cell? ⟨bh, 0, none⟩ = some (.slice (some adm) n c) := Hc.out.at_ 0 _ rfl
        have d1 : wr.cell? ⟨bh, 1, none⟩ = some (.int .i64 room) := Hc.out.at_ 1 _ rfl
        have d3 : wr.cell? ⟨bh, 3, none⟩ = some (.slice (some ⟨sb, 0, none⟩) 2 2) := Hc.out.at_ 3 _ rfl
        have pm : wr.cell? (adm.add g.length) = some (.int .i64 x) := by
          obtain ⟨ad', e1, _, h1⟩ := Ints.at_ (Reads.below HM.out Hbel.out (Nat.le_refl _)) hi0
          injection e1 with e1
          subst e1
          rw [Hxe.out] at h1
          exact h1
        have pk : wr.cell? ⟨sb, k, none⟩ = some (.int .i64 v) := Hcs.out.at_ k _ hav
        clear hab' hba hv hav hset hset2 hav2
        by_cases hrv : room < v + x
        · have hdr : decide (room < v + x) = true := decide_eq_true hrv
          have HN : Hid ((List.range (k + 1)).foldl (bstep room x (bs room (l.drop (g.length + 1))) g [a, b]) s = q) := Lib.hid (by rw [HS.out, Hstep.out, if_pos hrv])
          clear hrv
          go_wp2_with fail
          go_quiet (fail)
          go_wp2_with fail
          have hgk := Hgk.out
          go_roundg (gk - 1)
          case rel => exact ⟨k + 1, Ag1, cg1, Ab1, nb1, cb1, q, by omega, by omega, by go_num, HN.out, hql, Hqo.out, Hc.out.drewN _, Hcs.out.drewN _, own_drewN Hg.out _, own_drewN Hb.out _, Hap.out, Ht2.out.trans (Touch3.drewN _ _ _ Ag1 _) Hon.out, Hon.out⟩
          case measure => omega
        · have hdr : decide (room < v + x) = false := decide_eq_false hrv
          have hrv' : v + x ≤ room := by omega
          have Hst2 : Hid (bstep room x (bs room (l.drop (g.length + 1))) g [a, b] q k = if q.spent then q else if q.left = 0 then ⟨0, true, q.best⟩ else bs room (l.drop (g.length + 1)) (g ++ [(k : Int)]) [a', b'] ⟨q.left - 1, q.spent, q.best⟩) := Lib.hid (by rw [Hstep.out, if_neg hrv])
          have hz' : ZOk room [a', b'] := by have := z_set (x := x) Hz.out hlti (by omega) (by rw [Hv.out]; exact hrv'); rw [Hv.out, Hab'.out] at this; exact this
          clear hrv Hstep
          go_wp2_with fail
          go_quiet (fail)
          rename_i nq
          have Hc3 := Lib.hid (Hc.out.drewN nq)
          have Hcs3 := Lib.hid (Hcs.out.drewN nq)
          have Hg3 := Lib.hid (own_drewN Hg.out nq)
          have Hb3 := Lib.hid (own_drewN Hb.out nq)
          have Ht3 := Lib.hid (Ht2.out.trans (Touch3.drewN wr bh sb Ag1 nq) Hon.out)
          have hs3 : (wr.drewN nq).heap.size = wr.heap.size := rfl
          have Hs3 := Lib.hid hs3
          have Hbel3 := Lib.hid (below_drewN Hbel.out nq)
          clear d0 d1 d3 pm pk Hc Hcs Hg Hb Ht2 hs3 Hbel
          generalize wr.drewN nq = W3 at *
          have d6 : W3.cell? ⟨bh, 6, none⟩ = some (.int .i64 ((bud - q.left : Nat) : Int)) := Hc3.out.at_ 6 _ rfl
          have d7 : W3.cell? ⟨bh, 7, none⟩ = some (.int .i64 (bud : Int)) := Hc3.out.at_ 7 _ rfl
          by_cases hl0 : q.left = 0
          · have e5 : (((bud - q.left : Nat) : Int) == (bud : Int)) = true := by rw [beq_iff_eq]; omega
            have e5' : decide (bud - q.left = bud) = true := by rw [decide_eq_true_eq]; omega
            have hend : (if q.spent then q else if q.left = 0 then (⟨0, true, q.best⟩ : BS) else bs room (l.drop (g.length + 1)) (g ++ [(k : Int)]) [a', b'] ⟨q.left - 1, q.spent, q.best⟩) = ⟨0, true, q.best⟩ := by
              cases hsp : q.spent with
              | true =>
                rw [if_pos rfl]
                calc q = ⟨q.left, q.spent, q.best⟩ := rfl
                  _ = _ := by rw [hsp, hl0]
              | false => rw [if_neg (by simp), if_pos hl0]
            have HN : Hid (bs room (l.drop g.length) g [a, b] s = ⟨0, true, q.best⟩) := Lib.hid (by
              rw [Hq.out, brange_from _ s (k + 1) 2 (by omega) (fun ks => by rw [HS.out, Hst2.out, hend]; exact bfold_spent _ _ _ _ _ _ _ rfl), HS.out, Hst2.out, hend])
            have HF : Hid (∀ d, CPost bh sb (some adm) n c room a b bud g (bs room (l.drop g.length) g [a, b] s) Ag w (.returned (.tuple #[])) ((W3.setCell ⟨bh, 8, none⟩ (.bool true)).drewN d)) := Lib.hid (fun d => by
              rw [HN.out]
              have hc1 := (Hc3.out.set (j := 8) (.bool true) (by simp [cvs])).drewN d
              refine ⟨Ag1, cg1, Ab1, nb1, cb1, rfl, ?_, (Hcs3.out.setOther (by omega) _).drewN d, own_drewN (Hg3.out.setFar (Nat.lt_succ_self _) _) d, own_drewN (Hb3.out.setFar (Nat.lt_succ_self _) _) d, Hap.out, (Ht3.out.trans (Touch3.of2 (Touch2.of_set _ bh 8 _ Ag1)) Hon.out).trans (Touch3.drewN _ _ _ Ag1 _) Hon.out, Hon.out⟩
              simp only [cvs, List.set_cons_succ, List.set_cons_zero, hl0] at hc1
              exact hc1)
            have HF2 : Hid (∀ d, CPost bh sb (some adm) n c room a b bud g (bs room (l.drop g.length) g [a, b] s) Ag w (.returned (.tuple #[])) ((W3.drewN d).setCell ⟨bh, 8, none⟩ (.bool true))) := HF
            have f8 : ∀ d, (W3.drewN d).frozen? ⟨bh, 8, none⟩ = false := fun d => Hc3.out.fz 8
            have d8 : ∀ d, (W3.drewN d).cell? ⟨bh, 8, none⟩ = some (.bool q.spent) := fun d => Hc3.out.at_ 8 _ rfl
            clear hend hl0 Hst2
            go_wp2_with fail
            go_quiet (fail)
            go_wp2_with fail
            exact bodyPost_ret (v := .tuple #[]) (by simp [results, Try.results37, go_sem]) rfl (HF2.out _)
          · have e5 : (((bud - q.left : Nat) : Int) == (bud : Int)) = false := by rw [beq_eq_false_iff_ne]; omega
            have e5' : decide (bud - q.left = bud) = false := by rw [decide_eq_false_iff_not]; omega
            go_wp2_with fail
            go_quiet (fail)
            rename_i nq
            have Hc4 := Lib.hid (Hc3.out.drewN nq)
            have Hcs4 := Lib.hid (Hcs3.out.drewN nq)
            have Hg4 := Lib.hid (own_drewN Hg3.out nq)
            have Hb4 := Lib.hid (own_drewN Hb3.out nq)
            have Ht4 := Lib.hid (Ht3.out.trans (Touch3.drewN W3 bh sb Ag1 nq) Hon.out)
            have Hs4 : Hid ((W3.drewN nq).heap.size = wr.heap.size) := Hs3
            have Hbel4 := Lib.hid (below_drewN Hbel3.out nq)
            clear d6 d7 Hc3 Hcs3 Hg3 Hb3 Ht3 Hs3 Hbel3
            generalize W3.drewN nq = W4 at *
            have d8 : W4.cell? ⟨bh, 8, none⟩ = some (.bool q.spent) := Hc4.out.at_ 8 _ rfl
            cases hsp : q.spent with
            | true =>
              rw [hsp] at d8
              have HN : Hid (bs room (l.drop g.length) g [a, b] s = q) := Lib.hid (by
                rw [Hq.out, brange_from _ s k 2 (by omega) (fun ks => by rw [HQ.out]; exact bfold_spent _ _ _ _ _ _ _ hsp), HQ.out])
              have HF : Hid (CPost bh sb (some adm) n c room a b bud g (bs room (l.drop g.length) g [a, b] s) Ag w (.returned (.tuple #[])) W4) := Lib.hid (by
                rw [HN.out]; exact ⟨Ag1, cg1, Ab1, nb1, cb1, rfl, Hc4.out, Hcs4.out, Hg4.out, Hb4.out, Hap.out, Ht4.out, Hon.out⟩)
              clear hsp Hst2
              go_wp2_with fail
              exact bodyPost_ret (v := .tuple #[]) (by simp [results, Try.results37, go_sem]) rfl HF.out
            | false =>
            rw [hsp] at d8
            obtain ⟨q1, hq1⟩ : ∃ q1 : BS, q1 = ⟨q.left - 1, q.spent, q.best⟩ := ⟨_, rfl⟩
            have HN : Hid ((List.range (k + 1)).foldl (bstep room x (bs room (l.drop (g.length + 1))) g [a, b]) s = bs room (l.drop (g.length + 1)) (g ++ [(k : Int)]) [a', b'] q1) := Lib.hid (by
              rw [HS.out, Hst2.out, hsp, if_neg (by simp), if_neg hl0, hq1, hsp])
            have hq5 : IntKind.i64.wrap (((bud - q.left : Nat) : Int) + 1) = ((bud - q1.left : Nat) : Int) := by rw [IntWalk.i64_in _ (by omega), hq1]; show _ = ((bud - (q.left - 1) : Nat) : Int); omega
            have hq1l : q1.left ≤ bud := by rw [hq1]; show q.left - 1 ≤ bud; omega
            have Hq1o : Hid (BOk n q1) := Lib.hid (by rw [hq1]; exact Hqo.out)
            have d6 : W4.cell? ⟨bh, 6, none⟩ = some (.int .i64 ((bud - q.left : Nat) : Int)) := Hc4.out.at_ 6 _ rfl
            have f6 := Hc4.out.fz 6
            have hlt4 := Hc4.out.lt
            -- behind 'nodes++'
            have hc5 : HC (W4.setCell ⟨bh, 6, none⟩ (.int .i64 ((bud - q1.left : Nat) : Int))) bh (cvs (some adm) n c room Ag1 g.length cg1 sb Ab1 nb1 cb1 bud q1) := by
              have := Hc4.out.set (j := 6) (.int .i64 ((bud - q1.left : Nat) : Int)) (by simp [cvs])
              rw [hq1] at this ⊢; exact this
            have Hc5 := Lib.hid hc5
            have Hcs5 := Lib.hid (Hcs4.out.setOther (x := bh) (j := 6) (by omega) (.int .i64 ((bud - q1.left : Nat) : Int)))
            have Hg5 := Lib.hid (Hg4.out.setFar (j := 6) (Nat.lt_succ_self bh) (.int .i64 ((bud - q1.left : Nat) : Int)))
            have hb5 : Own (W4.setCell ⟨bh, 6, none⟩ (.int .i64 ((bud - q1.left : Nat) : Int))) (bh + 1) 2 1 Ab1 nb1 cb1 ((bbL q1).map (Value.int .i64)) := by
              have := Hb4.out.setFar (j := 6) (Nat.lt_succ_self bh) (.int .i64 ((bud - q1.left : Nat) : Int))
              rw [hq1] at this ⊢; exact this
            have Hb5 := Lib.hid hb5
            have Ht5 := Lib.hid (Ht4.out.trans (Touch3.of2 (Touch2.of_set W4 bh 6 (.int .i64 ((bud - q1.left : Nat) : Int)) Ag1)) Hon.out)
            have Hs5 : Hid ((W4.setCell ⟨bh, 6, none⟩ (.int .i64 ((bud - q1.left : Nat) : Int))).heap.size = wr.heap.size) := Lib.hid (by rw [← Hs4.out]; simp [World.setCell])
            have Hl0 := Lib.hid hl0
            have hbelT := touch3_keep sb Ht5.out (by omega) (by omega) (Nat.le_refl _) (fun a ha => by have := HGF.out a ha; omega)
            have Hbel5 := Lib.hid hbelT
            obtain ⟨W5, hW5⟩ : ∃ W5, W4.setCell ⟨bh, 6, none⟩ (.int .i64 ((bud - q1.left : Nat) : Int)) = W5 := ⟨_, rfl⟩
            rw [hW5] at Hc5 Hcs5 Hg5 Hb5 Ht5 Hs5 Hbel5
            have HW5 := Lib.hid hW5
            clear hsp Hst2 hl0 hq1 Hc4 Hcs4 Hg4 Hb4 Ht4 Hs4 Hbel4 hc5 hb5 hbelT hW5
            have e0 : W5.cell? ⟨bh, 0, none⟩ = some (.slice (some adm) n c) := Hc5.out.at_ 0 _ rfl
            have e3 : W5.cell? ⟨bh, 3, none⟩ = some (.slice (some ⟨sb, 0, none⟩) 2 2) := Hc5.out.at_ 3 _ rfl
            have em : W5.cell? (adm.add g.length) = some (.int .i64 x) := by
              obtain ⟨ad', e1, _, h1⟩ := Ints.at_ (Reads.below HM.out Hbel5.out (Nat.le_refl _)) hi0
              injection e1 with e1
              subst e1
              rw [Hxe.out] at h1
              exact h1
            have hav : [Value.int .i64 a, Value.int .i64 b][k]? = some (Value.int .i64 v) := by
              rw [← Hv.out]
              match k, hlti with
              | 0, _ => rfl
              | 1, _ => rfl
            have ek : W5.cell? ⟨sb, k, none⟩ = some (.int .i64 v) := Hcs5.out.at_ k _ hav
            have fk := Hcs5.out.fz k
            rw [← HW5.out] at e0 e3 em ek fk
            go_wp2_with fail
            rw [HW5.out] at e0 e3 em ek fk
            rw [HW5.out]
            go_still_tail 16, (by kernel_rfl)
            change wpList _ _ _ _ _ (W5.drewN 1)
            have Hc5 := Lib.hid (Hc5.out.drewN 1)
            have Hcs5 := Lib.hid (Hcs5.out.drewN 1)
            have Hg5 := Lib.hid (own_drewN Hg5.out 1)
            have Hb5 := Lib.hid (own_drewN Hb5.out 1)
            have Ht5 := Lib.hid (Ht5.out.trans (Touch3.drewN W5 bh sb Ag1 1) Hon.out)
            have Hs5 : Hid ((W5.drewN 1).heap.size = wr.heap.size) := Hs5
            have ek : (W5.drewN 1).cell? ⟨sb, k, none⟩ = some (.int .i64 v) := ek
            have fk : (W5.drewN 1).frozen? ⟨sb, k, none⟩ = false := fk
            clear HW5
            clear e0 e3 em
            generalize W5.drewN 1 = V5 at *
            have Hc6 := Lib.hid (Hc5.out.setOther (x := sb) (j := k) (by omega) (.int .i64 (v + x)))
            have hcs6 : HC (V5.setCell ⟨sb, k, none⟩ (.int .i64 (v + x))) sb [.int .i64 a', .int .i64 b'] := by
              have h1 := Hcs5.out.set (j := k) (.int .i64 (v + x)) (by simp; omega)
              rw [Hset.out] at h1
              exact h1
            have Hcs6 := Lib.hid hcs6
            have Hg6 := Lib.hid (Hg5.out.setFar (b := sb) (j := k) (by omega) (.int .i64 (v + x)))
            have Hb6 := Lib.hid (Hb5.out.setFar (b := sb) (j := k) (by omega) (.int .i64 (v + x)))
            have Ht6 := Lib.hid (Ht5.out.trans (Touch3.of2' (Touch2.of_set V5 sb k (.int .i64 (v + x)) Ag1)) Hon.out)
            have Hs6 : Hid ((V5.setCell ⟨sb, k, none⟩ (.int .i64 (v + x))).heap.size = wr.heap.size) := Lib.hid (by rw [← Hs5.out]; simp [World.setCell])
            have HNW : Hid (∀ j u, [Value.int .i64 (k : Int)][j]? = some u → ((V5.setCell ⟨sb, k, none⟩ (.int .i64 (v + x))).alloc (.cells #[.int .i64 (k : Int)] 2)).cell? ((⟨V5.heap.size, 0, none⟩ : Addr).add j) = some u) := Lib.hid (fun j u hu => by
              have := cell_one_new (V5.setCell ⟨sb, k, none⟩ (.int .i64 (v + x))) (.int .i64 (k : Int)) 2 j u hu
              rw [show (V5.setCell ⟨sb, k, none⟩ (.int .i64 (v + x))).heap.size = V5.heap.size by rw [Hs6.out, Hs5.out]] at this; exact this)
            have HBW : Hid (bh + 1 ≤ ((V5.setCell ⟨sb, k, none⟩ (.int .i64 (v + x))).alloc (.cells #[.int .i64 (k : Int)] 2)).heap.size) := Lib.hid (by
              have h2 : ((V5.setCell ⟨sb, k, none⟩ (.int .i64 (v + x))).alloc (.cells #[.int .i64 (k : Int)] 2)).heap.size = (V5.setCell ⟨sb, k, none⟩ (.int .i64 (v + x))).heap.size + 1 := by simp
              rw [h2, Hs6.out]; omega)
            have d4 : (V5.setCell ⟨sb, k, none⟩ (.int .i64 (v + x))).cell? ⟨bh, 2, none⟩ = some (.slice Ag1 g.length cg1) := Hc6.out.at_ 2 _ rfl
            have v4 : V5.cell? ⟨bh, 2, none⟩ = some (.slice Ag1 g.length cg1) := Hc5.out.at_ 2 _ rfl
            have f4 := Hc6.out.fz 2
            have hltW := Hc6.out.lt
            have hltWs := Hcs6.out.lt
            have HA1 : Hid (∀ a, Ag1 = some a → bh + 1 ≤ a.block) := Lib.hid Hg6.out.from
            have Hz6 := Lib.hid (Hs6.out.trans Hs5.out.symm)
            clear hcs6 Hc5 Hcs5 Hg5 Hb5 Ht5 Hs5 Hbel5 d6 f6 d8
            go_wp2_with (at_builtin; refine wpList_app rfl _ _ 22 rfl 2 i0 _ 1 8 Try.underlying22 hi1 hz0 hz1 hz2 rfl (by omega) (by omega) (bh + 1) _ _ _ _ rfl (Hg6.out.alloc _) ⟨V5.heap.size, 0, none⟩ 1 1 [.int .i64 (k : Int)] rfl rfl HNW.out (by simp [Value.oneCell']) (by omega) HBW.out ?_)
            intro A5 c5 w5 o5 hgA hbA hat
            clear HNW HBW v4 d4 ek fk
            generalize V5.setCell ⟨sb, k, none⟩ (.int .i64 (v + x)) = W6 at *
            have hzz : W6.heap.size ≤ (W6.alloc (.cells #[.int .i64 (k : Int)] 2)).heap.size := by simp
            have bal : Below W6.heap.size W6 (W6.alloc (.cells #[.int .i64 (k : Int)] 2)) := (Below.refl _ _).alloc (Nat.le_refl _) _
            have hon5 : OldNew W6 Ag1 A5 := by
              intro a ha
              subst ha
              rcases hat with e | e
              · cases Ag1 with
                | none => cases e
                | some a0 => exact .inl ⟨a0, rfl, by simpa using e.symm⟩
              · right
                have e2 : a.block = V5.heap.size + 1 := by simpa using e
                have hz := Hz6.out
                omega
            have tA : Touch2 W6 w5 bh Ag1 := (Touch2.of_below bh Ag1 bal).trans (Touch2.of_grown hgA) (OldNew.refl _ _)
            have Hc7 := Lib.hid ((Hc6.out.below bal hltW).below hbA (Nat.lt_succ_self _))
            have Hb7 := Lib.hid (own_grown (Hb6.out.below bal) hgA Hap.out)
            have hcs7 : HC w5 sb [.int .i64 a', .int .i64 b'] := (Hcs6.out.below bal hltWs).below hbA (by omega)
            have hap5 : Apart A5 Ab1 := (apart_old Hap.out.symm hon5 (fun a ha => (Hb6.out.block_lt a ha).2.2.2)).symm
            have hw1w : W6.heap.size = wr.heap.size := Hs6.out
            have hon15 : OldNew w Ag A5 := Hon.out.trans hon5 (by omega)
            have ht15 : Touch3 w w5 bh sb Ag := Ht6.out.trans (Touch3.of2 tA) Hon.out
            have o5' : Own w5 (bh + 1) 2 1 A5 (g ++ [(k : Int)]).length c5 ((g ++ [(k : Int)]).map (Value.int .i64)) := by
              rw [List.map_append, List.length_append]; exact o5
            have hw5 : W6.heap.size ≤ w5.heap.size := tA.size
            have e4 : w5.cell? ⟨bh, 2, none⟩ = some (.slice Ag1 g.length cg1) := Hc7.out.at_ 2 _ rfl
            have f45 := Hc7.out.fz 2
            have hc8 : HC (w5.setCell ⟨bh, 2, none⟩ (.slice A5 (g.length + 1) c5)) bh (cvs (some adm) n c room A5 (g ++ [(k : Int)]).length c5 sb Ab1 nb1 cb1 bud q1) := by
              have := Hc7.out.set (j := 2) (.slice A5 (g.length + 1) c5) (by simp [cvs])
              rw [List.length_append]; exact this
            have Hc8 := Lib.hid hc8
            have Hcs8 := Lib.hid (hcs7.setOther (x := bh) (j := 2) (by omega) (.slice A5 (g.length + 1) c5))
            have Hg8 := Lib.hid (o5'.setFar (j := 2) (Nat.lt_succ_self bh) (.slice A5 (g.length + 1) c5))
            have Hb8 := Lib.hid (Hb7.out.setFar (j := 2) (Nat.lt_succ_self bh) (.slice A5 (g.length + 1) c5))
            have ht8 : Touch3 w (w5.setCell ⟨bh, 2, none⟩ (.slice A5 (g.length + 1) c5)) bh sb Ag := ht15.trans (Touch3.of2 (Touch2.of_set _ bh 2 _ A5)) hon15
            have Ht8 := Lib.hid ht8
            have hz8 : (w5.setCell ⟨bh, 2, none⟩ (.slice A5 (g.length + 1) c5)).heap.size = w5.heap.size := by simp [World.setCell]
            have Hz8 := Lib.hid hz8
            have Hon15 := Lib.hid hon15
            have Hap5 := Lib.hid hap5
            have Hbel8 := Lib.hid (touch3_keep sb ht8 (by omega) (by omega) (Nat.le_refl _) (fun a ha => by have := HGF.out a ha; omega))
            clear o5 hgA hbA hat bal hon5 tA Hc7 Hb7 hcs7 hap5 hon15 ht15 o5' hc8 ht8 hz8 f4 Hc6 Hcs6 Hg6 Hb6 Ht6
            have Hqok : Hid (BOk n (bs room (l.drop (g.length + 1)) (g ++ [(k : Int)]) [a', b'] q1)) := Lib.hid (by
              refine bs_ok room _ _ _ _ ?_ Hq1o.out
              rw [List.length_append, List.length_drop, HL.out]; simp; omega)
            have hqleft : (bs room (l.drop (g.length + 1)) (g ++ [(k : Int)]) [a', b'] q1).left ≤ bud := by
              have := bs_left room (l.drop (g.length + 1)) (g ++ [(k : Int)]) [a', b'] q1; omega
            have Hcall := Lib.hid (Ih.out (some adm) A5 Ab1 n c c5 nb1 cb1 bh sb bud room a' b' l (g ++ [(k : Int)]) q1 _ (Reads.below HM.out Hbel8.out (Nat.le_refl _)) hn Hx.out hz' hrm (by rw [List.length_append]; simp; have := Hm.out; omega) hsb hbud hq1l Hq1o.out Hc8.out Hcs8.out Hg8.out Hb8.out Hap5.out)
            have HN2 : Hid (bs room (l.drop (g ++ [(k : Int)]).length) (g ++ [(k : Int)]) [a', b'] q1 = bs room (l.drop (g.length + 1)) (g ++ [(k : Int)]) [a', b'] q1) := Lib.hid (by rw [List.length_append]; rfl)
            rw [HN2.out] at Hcall
            clear Hc8 Hcs8 Hg8 Hb8
            generalize bs room (l.drop (g.length + 1)) (g ++ [(k : Int)]) [a', b'] q1 = q2 at *
            go_wp2_with fail
            refine Hcall.out.mono ?_
            rintro e w7 ⟨Ag7, cg7, Ab7, nb7, cb7, rfl, hc7, hcs7, hg7, hb7, hap7, ht7, hon7⟩
            have hw56 := Hz8.out
            have hon17 : OldNew w Ag Ag7 := Hon15.out.trans hon7 (by have := Ht8.out.size; omega)
            have ht17 : Touch3 w w7 bh sb Ag := Ht8.out.trans ht7 Hon15.out
            have i4 : w7.cell? ⟨bh, 2, none⟩ = some (.slice Ag7 (g.length + 1) cg7) := by have := hc7.at_ 2 _ rfl; rw [List.length_append] at this; exact this
            have fi4 := hc7.fz 2
            have hlt7 := hc7.lt
            have hgl7 : g.length + 1 ≤ cg7 := by have := hg7.cap; rw [List.length_append] at this; exact this
            have hgi7 : (g.length : Int) ≤ (cg7 : Int) := by omega
            have Hc9 := Lib.hid (hc7.set (j := 2) (.slice Ag7 g.length cg7) (by simp [cvs]))
            have Hcs9 := Lib.hid (hcs7.setOther (x := bh) (j := 2) (by omega) (.slice Ag7 g.length cg7))
            have hg9 : Own w7 (bh + 1) 2 1 Ag7 g.length cg7 (g.map (Value.int .i64)) := by
              have := hg7.headM (k := g.length) (by rw [List.length_append]; omega)
              rw [Nat.mul_one, ← List.map_take, show (g ++ [(k : Int)]).take g.length = g by rw [List.take_append_of_le_length (Nat.le_refl _), List.take_of_length_le (Nat.le_refl _)]] at this
              exact this
            have Hg9 := Lib.hid (hg9.setFar (j := 2) (Nat.lt_succ_self bh) (.slice Ag7 g.length cg7))
            have Hb9 := Lib.hid (hb7.setFar (j := 2) (Nat.lt_succ_self bh) (.slice Ag7 g.length cg7))
            have ht9 := ht17.trans (Touch3.of2 (Touch2.of_set w7 bh 2 (.slice Ag7 g.length cg7) Ag7)) hon17
            have Ht9 := Lib.hid ht9
            have Hon9 := Lib.hid hon17
            have Hap9 := Lib.hid hap7
            obtain ⟨ad7, hA7⟩ : ∃ ad7, Ag7 = some ad7 := by
              cases Ag7 with
              | none => have := hg7.none_n; rw [List.length_append] at this; simp at this
              | some a => exact ⟨a, rfl⟩
            subst hA7
            have hbel9 := touch3_keep sb ht9 (by omega) (by omega) (Nat.le_refl _) (fun a ha => by have := HGF.out a ha; omega)
            have Hbel9 := Lib.hid hbel9
            clear hc7 hcs7 hg7 hb7 hap7 ht7 hon7 hon17 ht17 hg9 Hcall ht9 hbel9
            obtain ⟨W9, hW9⟩ : ∃ W9, w7.setCell ⟨bh, 2, none⟩ (.slice (some ad7) g.length cg7) = W9 := ⟨_, rfl⟩
            rw [hW9] at Hc9 Hcs9 Hg9 Hb9 Ht9 Hbel9
            have e0 : W9.cell? ⟨bh, 0, none⟩ = some (.slice (some adm) n c) := Hc9.out.at_ 0 _ rfl
            have e3 : W9.cell? ⟨bh, 3, none⟩ = some (.slice (some ⟨sb, 0, none⟩) 2 2) := Hc9.out.at_ 3 _ rfl
            have em : W9.cell? (adm.add g.length) = some (.int .i64 x) := by
              obtain ⟨ad', e1, _, h1⟩ := Ints.at_ (Reads.below HM.out Hbel9.out (Nat.le_refl _)) hi0
              injection e1 with e1
              subst e1
              rw [Hxe.out] at h1
              exact h1
            have ek : W9.cell? ⟨sb, k, none⟩ = some (.int .i64 (v + x)) := Hcs9.out.at_ k _ Hav2.out
            have fk := Hcs9.out.fz k
            have HW9 := Lib.hid hW9
            rw [← hW9] at e0 e3 em ek fk
            clear hW9
            go_wp2_with fail
            rw [HW9.out] at e0 e3 em ek fk
            rw [HW9.out]
            go_still_tail 16, (by kernel_rfl)
            change wpList _ _ _ _ _ W9.drew
            have Hc10 := Lib.hid ((Hc9.out.setOther (x := sb) (j := k) (by omega) (.int .i64 v)).drewN 1)
            have hcs10 : HC ((W9.setCell ⟨sb, k, none⟩ (.int .i64 v)).drewN 1) sb [.int .i64 a, .int .i64 b] := by
              have h1 := (Hcs9.out.set (j := k) (.int .i64 v) (by simp; omega)).drewN 1
              rw [Hset2.out] at h1
              exact h1
            have Hcs10 := Lib.hid hcs10
            have Hg10 := Lib.hid (own_drewN (Hg9.out.setFar (b := sb) (j := k) (by omega) (.int .i64 v)) 1)
            have Hb10 := Lib.hid (own_drewN (Hb9.out.setFar (b := sb) (j := k) (by omega) (.int .i64 v)) 1)
            have Ht10 := Lib.hid ((Ht9.out.trans (Touch3.of2' (Touch2.of_set W9 sb k (.int .i64 v) (some ad7))) Hon9.out).trans (Touch3.drewN _ bh sb (some ad7) 1) Hon9.out)
            clear hcs10 HW9 Hc9 Hcs9 Hg9 Hb9 Ht9 Hbel9
            go_wp2_with fail
            have hgk := Hgk.out
            go_roundg (gk - 1)
            case rel => exact ⟨k + 1, some ad7, cg7, Ab7, nb7, cb7, q2, by omega, by omega, by go_num, HN.out, hqleft, Hqok.out, Hc10.out, Hcs10.out, Hg10.out, Hb10.out, Hap9.out, Ht10.out, Hon9.out⟩
            case measure => omega
      · have hke : k = 2 := by omega
        have HN : Hid (bs room (l.drop g.length) g [a, b] s = q) := Lib.hid (by rw [Hq.out, ← HQ.out, hke])
        have HF : Hid (CPost bh sb (some adm) n c room a b bud g (bs room (l.drop g.length) g [a, b] s) Ag w (.returned (.tuple #[])) wr) := Lib.hid (by
          rw [HN.out]; exact ⟨Ag1, cg1, Ab1, nb1, cb1, rfl, Hc.out, Hcs.out, Hg.out, Hb.out, Hap.out, Ht2.out, Hon.out⟩)
        have hd0 : decide (k < 2) = false := decide_eq_false hlti
        clear hke
        go_wp2_with fail
        exact bodyPost_ret (v := .tuple #[]) (by simp [results, Try.results37, go_sem]) rfl HF.out
end Go.Proofs.Ytmnpehajojdhcaa
