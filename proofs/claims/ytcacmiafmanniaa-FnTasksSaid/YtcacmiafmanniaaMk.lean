/- Helpers: QuickestFill: contracts of both sides. -/
import Derived.Test.YtcacmiafmanniaaMj
namespace Go.Proofs.Ytcacmiafmanniaa
open Go.RowKit
set_option maxRecDepth 100000
set_option linter.unusedVariables false
set_option linter.unusedSimpArgs false

theorem helpers_min {l : List HelperR} (h : helperBAll l = true) : ∀ k, k < l.length → 0 ≤ (HelperR.at_ l k).Minutes ∧ (HelperR.at_ l k).Minutes ≤ 1000 := by
  simp only [helperBAll, Bool.and_eq_true, decide_eq_true_eq] at h
  intro k hk
  have := allTo_true.1 h.1 k hk
  simp only [helperBAt, helperB, Bool.and_eq_true, inB_true] at this
  omega
theorem rQ_no {l : List HelperR} {tl : List TaskR} {b : Int} (h : (helperBAll l && taskBAll tl) = false) : rQuickestFill l tl b = ([], 0, 1) := by unfold rQuickestFill; rw [h]; rfl
theorem rQ_range {l : List HelperR} {tl : List TaskR} {b : Int} (h : (helperBAll l && taskBAll tl) = true) (hb : inB b 1 20000 = false) : rQuickestFill l tl b = ([], 0, 2) := by unfold rQuickestFill; rw [h, hb]; rfl
theorem rQ_go {l : List HelperR} {tl : List TaskR} {b : Int} {q : QS} (h : (helperBAll l && taskBAll tl) = true) (hb : inB b 1 20000 = true) (hq : qs l tl [] 0 ⟨b.toNat, false, none⟩ = q) :
    rQuickestFill l tl b = if q.spent then (([], 0, 5) : List Int × Int × Int) else (match q.best with | some (g, m) => (ci g, (m : Int), 0) | none => ([], 0, 3)) := by
  unfold rQuickestFill; rw [h, hb, hq]; rfl

set_option maxHeartbeats 2000000 in
theorem implQuickestFill_any {A A'' : Option Addr} {n c B nt ct B'' : Nat} {l : List HelperR} {tl : List TaskR} {budget : Int} {w : World} (h : Reads w B 3 A n (l.flatMap HelperR.cells)) (hB : B ≤ w.heap.size) (hc : n ≤ c) (hn : n ≤ 1048576) (hF : ∀ x ∈ l, x.Id.size ≤ 1048576)
    (ht : Reads w B'' 3 A'' nt (tl.flatMap TaskR.cells)) (hB'' : B'' ≤ w.heap.size) (hct : nt ≤ ct) (hnt : nt ≤ 1048576) (hFt : ∀ x ∈ tl, x.Id.size ≤ 1048576) :
    Calls Try.prog 6 #[.slice A n c, .slice A'' nt ct, .int .i64 budget] w fun e w' => ∃ A2 n2 c2, e = .returned (.tuple #[.slice A2 n2 c2, .int .i64 (rQuickestFill l tl budget).2.1, .int .i64 (rQuickestFill l tl budget).2.2]) ∧ n2 ≤ 1048576 ∧
      Own w' w.heap.size 2 1 A2 n2 c2 ((rQuickestFill l tl budget).1.map (Value.int .i64)) ∧ Below w.heap.size w w' := by
  have HL := Lib.hid (HelperR.count h)
  have HT := Lib.hid (TaskR.count ht)
  cases hv : helperBAll l && taskBAll tl with
  | false =>
    have Hh : Hid (helpI l tl = 1) := Lib.hid (by unfold helpI; rw [hv]; rfl)
    have Hr := Lib.hid (rQ_no (b := budget) hv)
    clear hv
    go_enter Try.func6, Try.ntmps6
    go_wp2_with fail
    refine (helped_any h hB hc hn hF ht hB'' hct hnt hFt).mono ?_
    rintro e w1 ⟨rfl, b1⟩
    rw [Hh.out]
    go_wp2_with fail
    go_ret3
    exact ⟨none, 0, 0, by rw [Hr.out]; rfl, by omega, by rw [Hr.out]; exact Own.nil _ _ _ _, b1⟩
  | true =>
    have Hh : Hid (helpI l tl = 0) := Lib.hid (by unfold helpI; rw [hv]; rfl)
    cases hi : inB budget 1 20000 with
    | false =>
      have Hr := Lib.hid (rQ_range hv hi)
      have Hi := Lib.hid hi
      clear hv hi
      go_enter Try.func6, Try.ntmps6
      go_wp2_with fail
      refine (helped_any h hB hc hn hF ht hB'' hct hnt hFt).mono ?_
      rintro e w1 ⟨rfl, b1⟩
      rw [Hh.out]
      go_wp2_with (go_at_call 19; refine (isBudget_any _ _).mono ?_; rintro e w' ⟨rfl, rfl⟩; rw [Hi.out])
      go_ret3
      exact ⟨none, 0, 0, by rw [Hr.out]; rfl, by omega, by rw [Hr.out]; exact Own.nil _ _ _ _, b1⟩
    | true =>
      have hbud := inB_true.1 hi
      obtain ⟨q, hq⟩ : ∃ q, qs l tl [] 0 ⟨budget.toNat, false, none⟩ = q := ⟨_, rfl⟩
      have Hr := Lib.hid (rQ_go hv hi hq)
      have Hi := Lib.hid hi
      rw [Bool.and_eq_true] at hv
      have hn10 : n ≤ 10 := by have := helperB_len hv.1; rw [HL.out] at this; exact this
      have hn8 : nt ≤ 8 := by have := taskB_len hv.2; rw [HT.out] at this; exact this
      have Hs := Lib.hid (helpers_at hv.1)
      have Hm := Lib.hid (helpers_min hv.1)
      have Ht := Lib.hid (tasks_at hv.2)
      have Hqok : Hid (QOk nt q) := Lib.hid (by
        rw [← hq]
        refine qs_ok l (fun k hk => by have := Hm.out k hk; unfold mnH; omega) tl [] 0 _ (by rw [HT.out]; simp) (by omega) (fun g m e => by cases e))
      obtain ⟨bn, rfl⟩ := Int.eq_ofNat_of_zero_le (show 0 ≤ budget by omega)
      have Hq := Lib.hid hq
      clear hv hi hq
      go_enter Try.func6, Try.ntmps6
      go_wp2_with fail
      refine (helped_any h hB hc hn hF ht hB'' hct hnt hFt).mono ?_
      rintro e w1 ⟨rfl, b1⟩
      rw [Hh.out]
      have hs1 := b1.size
      go_wp2_with (go_at_call 19; refine (isBudget_any _ _).mono ?_; rintro e w' ⟨rfl, rfl⟩; rw [Hi.out])
      have pre : Below w1.heap.size w1 (w1.alloc (.cells #[.int .i64 (bn : Int), .bool false, .slice A n c, .slice A'' nt ct, .slice none 0 0, .slice none 0 0, .int .i64 0, .bool false] 57)) := (Below.refl _ _).alloc (Nat.le_refl _) _
      have hHC : HC (w1.alloc (.cells #[.int .i64 (bn : Int), .bool false, .slice A n c, .slice A'' nt ct, .slice none 0 0, .slice none 0 0, .int .i64 0, .bool false] 57)) w1.heap.size (hvs A n c A'' nt ct none ([] : List Nat).length 0 none 0 0 ⟨bn, false, none⟩) :=
        ⟨fun j u hu => by simpa [hvs, bestM] using hu, fun j => by simp, by simp⟩
      have b2 := b1.trans (pre.mono hs1)
      have hr := (Reads.below h b2 hB).more (show B ≤ w1.heap.size by omega)
      have hrt := (Reads.below ht b2 hB'').more (show B'' ≤ w1.heap.size by omega)
      have HHC := Lib.hid hHC
      have hsz : w1.heap.size ≤ (w1.alloc (.cells #[.int .i64 (bn : Int), .bool false, .slice A n c, .slice A'' nt ct, .slice none 0 0, .slice none 0 0, .int .i64 0, .bool false] 57)).heap.size := pre.size
      clear hHC pre
      generalize w1.alloc (.cells #[.int .i64 (bn : Int), .bool false, .slice A n c, .slice A'' nt ct, .slice none 0 0, .slice none 0 0, .int .i64 0, .bool false] 57) = w2 at *
      have hbz : ((bn : Int)).toNat = bn := by omega
      refine (search_any nt A A'' none none n c nt ct 0 0 0 w1.heap.size 0 l tl [] ⟨bn, false, none⟩ w2 hr hn10 Hs.out Hm.out hrt hct hn8 Ht.out (by simp) (by simp) (by simp only; omega) (fun g m e => by cases e) HHC.out (Own.nil _ _ _ _) (Own.nil _ _ _ _) (by intro a a' e; cases e)).mono ?_
      rw [show tl.drop ([] : List Nat).length = tl from rfl]
      rintro e w3 ⟨Ag, cg, Ab, nb, cb, rfl, hc3, hg3, hb3, hap3, ht3, hon3⟩
      have hq2 : qs l tl [] 0 ⟨bn, false, none⟩ = q := by have := Hq.out; rwa [hbz] at this
      rw [hq2] at hc3 hb3
      have b3 := b2.trans ((touch2_belowM ht3 hsz).mono hs1)
      have d1 : w3.cell? ⟨w1.heap.size, 1, none⟩ = some (.bool q.spent) := hc3.at_ 1 _ rfl
      have d5 : w3.cell? ⟨w1.heap.size, 5, none⟩ = some (.slice Ab nb cb) := hc3.at_ 5 _ rfl
      have d6 : w3.cell? ⟨w1.heap.size, 6, none⟩ = some (.int .i64 (bestM q : Int)) := hc3.at_ 6 _ rfl
      have d7 : w3.cell? ⟨w1.heap.size, 7, none⟩ = some (.bool q.best.isSome) := hc3.at_ 7 _ rfl
      have hnb := hb3.len
      have HB3 := Lib.hid hb3
      clear hc3 hg3 hb3 hap3 ht3 hon3 hq2 HHC
      cases hsp : q.spent with
      | true =>
        rw [hsp] at d1
        have Hsp := Lib.hid hsp
        clear hsp
        go_wp2_with fail
        go_ret3
        exact ⟨none, 0, 0, by rw [Hr.out, Hsp.out]; rfl, by omega, by rw [Hr.out, Hsp.out]; exact Own.nil _ _ _ _, b3⟩
      | false =>
        rw [hsp] at d1
        have Hsp := Lib.hid hsp
        cases hbe : q.best with
        | none =>
          rw [hbe] at d7
          simp only [Option.isSome_none] at d7
          have Hbe := Lib.hid hbe
          clear hsp hbe
          go_wp2_with fail
          go_ret3
          exact ⟨none, 0, 0, by rw [Hr.out, Hsp.out, Hbe.out]; rfl, by omega, by rw [Hr.out, Hsp.out, Hbe.out]; exact Own.nil _ _ _ _, b3⟩
        | some x =>
          obtain ⟨g0, m0⟩ := x
          obtain ⟨e1, e2, e3⟩ := bestL_some hbe
          rw [e3] at d7
          rw [e2] at d6
          rw [e1] at HB3 hnb
          have hg0 := (Hqok.out g0 m0 hbe).1
          have hnb2 : nb ≤ 1048576 := by simp [ci] at hnb; omega
          have Hbe := Lib.hid hbe
          clear hsp hbe e1 e2 e3 hnb hg0
          go_wp2_with fail
          go_quiet (fail)
          go_wp2_with fail
          go_ret3
          exact ⟨Ab, nb, cb, by rw [Hr.out, Hsp.out, Hbe.out]; rfl, hnb2, by rw [Hr.out, Hsp.out, Hbe.out]; exact own_drewN (HB3.out.mono (show w.heap.size ≤ w1.heap.size + 1 by omega)) _, below_drewN b3 _⟩
end Go.Proofs.Ytcacmiafmanniaa
