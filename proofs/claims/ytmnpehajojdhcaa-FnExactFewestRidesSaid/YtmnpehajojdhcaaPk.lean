/- Loads: MostPeople: contracts of both sides. -/
import Derived.Test.YtmnpehajojdhcaaPj
namespace Go.Proofs.Ytmnpehajojdhcaa
open Go.RowKit
set_option maxRecDepth 100000
set_option linter.unusedVariables false
set_option linter.unusedSimpArgs false

theorem rM_no {l : List GroupR} {r : RoomR} {b : Int} (h : (groupBAll l && roomB r.People r.Bikes r.Kilos) = false) : rMostPeople l r b = ([], 0, 1) := by unfold rMostPeople; rw [h]; rfl
theorem rM_range {l : List GroupR} {r : RoomR} {b : Int} (h : (groupBAll l && roomB r.People r.Bikes r.Kilos) = true) (hb : inB b 1 20000 = false) : rMostPeople l r b = ([], 0, 2) := by unfold rMostPeople; rw [h, hb]; rfl
theorem rM_go {l : List GroupR} {r : RoomR} {b : Int} {q : MS} (h : (groupBAll l && roomB r.People r.Bikes r.Kilos) = true) (hb : inB b 1 20000 = true) (hq : ms l r (l.length + 1) [] 0 ⟨b.toNat, false, [], 0⟩ = q) :
    rMostPeople l r b = if q.spent then (([], 0, 5) : List Int × Int × Int) else (ciN q.best, q.most, 0) := by
  unfold rMostPeople; rw [h, hb, hq]; rfl
theorem mok0 (n : Nat) (b : Nat) : MOk n ⟨b, false, [], 0⟩ := ⟨by simp, by simp, by simp⟩
set_option maxHeartbeats 2000000 in
theorem implMostPeople_any {A : Option Addr} {n c B : Nat} {l : List GroupR} {a0 a1 a2 budget : Int} {w : World} (h : Reads w B 4 A n (l.flatMap GroupR.cells)) (hB : B ≤ w.heap.size) (hc : n ≤ c) (hn : n ≤ 1048576) (hF : ∀ x ∈ l, x.Id.size ≤ 1048576) :
    Calls Try.prog 17 #[.slice A n c, .agg #[.int .i64 a0, .int .i64 a1, .int .i64 a2], .int .i64 budget] w fun e w' => ∃ A2 n2 c2, e = .returned (.tuple #[.slice A2 n2 c2, .int .i64 (rMostPeople l ⟨a0, a1, a2⟩ budget).2.1, .int .i64 (rMostPeople l ⟨a0, a1, a2⟩ budget).2.2]) ∧ n2 ≤ 1048576 ∧
      Own w' w.heap.size 2 1 A2 n2 c2 ((rMostPeople l ⟨a0, a1, a2⟩ budget).1.map (Value.int .i64)) ∧ Below w.heap.size w w' := by
  have HL := Lib.hid (GroupR.count h)
  obtain ⟨w0, hw0⟩ : ∃ w0, w.alloc (.cells #[.int .i64 a0, .int .i64 a1, .int .i64 a2] 36) = w0 := ⟨_, rfl⟩
  have b0 : Below w.heap.size w w0 := by rw [← hw0]; exact (Below.refl _ _).alloc (Nat.le_refl _) _
  have hbx : HC w0 w.heap.size [.int .i64 a0, .int .i64 a1, .int .i64 a2] := by rw [← hw0]; exact ⟨fun j u hu => by simpa using hu, fun j => by simp, by simp⟩
  have HW0 := Lib.hid hw0
  have Hbx := Lib.hid hbx
  have B0 := Lib.hid b0
  have hs0 := b0.size
  have Hgr : Hid (groupedI l a0 a1 a2 = if groupBAll l && roomB a0 a1 a2 then 0 else 1) := Lib.hid rfl
  have Hgd : Hid (Calls Try.prog 48 #[.slice A n c, .agg #[.int .i64 a0, .int .i64 a1, .int .i64 a2]] w0 fun e w' => e = .returned (.int .i64 (groupedI l a0 a1 a2)) ∧ Below w.heap.size w w' ∧ HC w' w.heap.size [.int .i64 a0, .int .i64 a1, .int .i64 a2]) := Lib.hid
    ((grouped_any (Reads.below h b0 hB) (by omega) hn hF).mono fun e w' ⟨he, hb⟩ => ⟨he, b0.trans (hb.mono hs0), hbx.below hb hbx.lt⟩)
  clear hw0 b0 hbx
  cases hv : groupBAll l && roomB a0 a1 a2 with
  | false =>
    have Hg : Hid (groupedI l a0 a1 a2 = 1) := Lib.hid (by rw [Hgr.out, hv]; rfl)
    have Hr := Lib.hid (rM_no (r := ⟨a0, a1, a2⟩) (b := budget) hv)
    clear hv
    go_enter Try.func17, Try.ntmps17
    go_wp2_with fail
    rw [HW0.out]
    refine Hgd.out.mono ?_
    rintro e w1 ⟨rfl, b1, hx1⟩
    rw [Hg.out]
    clear hx1
    go_wp2_with fail
    go_ret3
    exact ⟨none, 0, 0, by rw [Hr.out]; rfl, by omega, by rw [Hr.out]; exact Own.nil _ _ _ _, b1⟩
  | true =>
    have Hg : Hid (groupedI l a0 a1 a2 = 0) := Lib.hid (by rw [Hgr.out, hv]; rfl)
    cases hi : inB budget 1 20000 with
    | false =>
      have Hr := Lib.hid (rM_range (r := ⟨a0, a1, a2⟩) hv hi)
      have Hi := Lib.hid hi
      clear hv hi
      go_enter Try.func17, Try.ntmps17
      go_wp2_with fail
      rw [HW0.out]
      refine Hgd.out.mono ?_
      rintro e w1 ⟨rfl, b1, hx1⟩
      rw [Hg.out]
      clear hx1
      go_wp2_with (go_at_call 41; refine (isBudget_any _ _).mono ?_; rintro e w' ⟨rfl, rfl⟩; rw [Hi.out])
      go_ret3
      exact ⟨none, 0, 0, by rw [Hr.out]; rfl, by omega, by rw [Hr.out]; exact Own.nil _ _ _ _, b1⟩
    | true =>
      have hbud := inB_true.1 hi
      obtain ⟨q, hq⟩ : ∃ q, ms l ⟨a0, a1, a2⟩ (l.length + 1) [] 0 ⟨budget.toNat, false, [], 0⟩ = q := ⟨_, rfl⟩
      have Hr := Lib.hid (rM_go (r := ⟨a0, a1, a2⟩) hv hi hq)
      have Hi := Lib.hid hi
      rw [Bool.and_eq_true] at hv
      have hn12 : n ≤ 12 := by have := gok_len hv.1; rw [HL.out] at this; exact this
      have Hgk := Lib.hid (gok_of hv.1)
      have Hqok : Hid (MOk n q) := Lib.hid (by
        have := ms_ok (r := ⟨a0, a1, a2⟩) Hgk.out (by rw [HL.out]; exact hn12) (l.length + 1) [] 0 ⟨budget.toNat, false, [], 0⟩ (by simp) (by simp) (by simp) (mok0 _ _)
        rw [hq, HL.out] at this
        exact this)
      obtain ⟨bn, rfl⟩ := Int.eq_ofNat_of_zero_le (show 0 ≤ budget by omega)
      have Hq := Lib.hid hq
      have Hh := Lib.hid h
      clear hv hi hq h
      go_enter Try.func17, Try.ntmps17
      go_wp2_with fail
      rw [HW0.out]
      refine Hgd.out.mono ?_
      rintro e w1 ⟨rfl, b1, hx1⟩
      rw [Hg.out]
      have x0 : w1.cell? ⟨w.heap.size, 0, none⟩ = some (.int .i64 a0) := hx1.at_ 0 _ rfl
      have x1 : w1.cell? ⟨w.heap.size, 1, none⟩ = some (.int .i64 a1) := hx1.at_ 1 _ rfl
      have x2 : w1.cell? ⟨w.heap.size, 2, none⟩ = some (.int .i64 a2) := hx1.at_ 2 _ rfl
      have hs1 := b1.size
      have B1 := Lib.hid b1
      clear hx1 b1
      have pre : Below w1.heap.size w1 (w1.alloc (.cells #[.int .i64 (bn : Int), .bool false, .slice A n c, .int .i64 a0, .int .i64 a1, .int .i64 a2, .slice none 0 0, .int .i64 0] 91)) := (Below.refl _ _).alloc (Nat.le_refl _) _
      have hHC : HC (w1.alloc (.cells #[.int .i64 (bn : Int), .bool false, .slice A n c, .int .i64 a0, .int .i64 a1, .int .i64 a2, .slice none 0 0, .int .i64 0] 91)) w1.heap.size (mvs A n c ⟨a0, a1, a2⟩ none 0 0 ⟨bn, false, [], 0⟩) :=
        ⟨fun j u hu => by simpa [mvs] using hu, fun j => by simp, by simp⟩
      have b2 := B1.out.trans (pre.mono hs1)
      have hr := (Reads.below Hh.out b2 hB).more (show B ≤ w1.heap.size by omega)
      have HHC := Lib.hid hHC
      have HB2 := Lib.hid b2
      have HR := Lib.hid hr
      clear hHC pre b2 hr
      go_wp2_with (go_at_call 41; refine (isBudget_any _ _).mono ?_; rintro e w' ⟨rfl, rfl⟩; rw [Hi.out])
      generalize w1.alloc (.cells #[.int .i64 (bn : Int), .bool false, .slice A n c, .int .i64 a0, .int .i64 a1, .int .i64 a2, .slice none 0 0, .int .i64 0] 91) = w2 at *
      have hbz : ((bn : Int)).toNat = bn := by omega
      have hq2 : ms l ⟨a0, a1, a2⟩ (n + 1) [] 0 ⟨bn, false, [], 0⟩ = q := by have := Hq.out; rwa [hbz, HL.out] at this
      have hsz2 : w1.heap.size < w2.heap.size := HHC.out.lt
      have Hcall := Lib.hid (msearch_any (n + 1) A none none n c 0 0 0 w1.heap.size 0 l ⟨a0, a1, a2⟩ [] ⟨bn, false, [], 0⟩ w2 HR.out hn12 Hgk.out (.inl ⟨rfl, rfl⟩) (by simp) (by omega) (by simp) (by omega) (by simp only; omega) (mok0 _ _) HHC.out (Own.nil _ _ _ _) (Own.nil _ _ _ _))
      rw [hq2] at Hcall
      refine Hcall.out.mono ?_
      rintro e w3 ⟨Ab, nb, cb, rfl, hc3, hb3, ht3⟩
      have b3 := HB2.out.trans ((touch2_belowM ht3 (by omega)).mono (show w.heap.size ≤ w1.heap.size by omega))
      have d1 : w3.cell? ⟨w1.heap.size, 1, none⟩ = some (.bool q.spent) := hc3.at_ 1 _ rfl
      have d6 : w3.cell? ⟨w1.heap.size, 6, none⟩ = some (.slice Ab nb cb) := hc3.at_ 6 _ rfl
      have d7 : w3.cell? ⟨w1.heap.size, 7, none⟩ = some (.int .i64 q.most) := hc3.at_ 7 _ rfl
      have hnb := hb3.len
      have HB3 := Lib.hid hb3
      clear hc3 hb3 ht3 hq2 HHC x0 x1 x2
      cases hsp : q.spent with
      | true =>
        rw [hsp] at d1
        have Hsp := Lib.hid hsp
        clear hsp
        go_wp2_with fail
        go_ret3
        exact ⟨none, 0, 0, by rw [Hr.out, Hsp.out]; rfl, by omega, by rw [Hr.out, Hsp.out]; exact Own.nil _ _ _ _, b3⟩
      | false =>
        rw [hsp] at d1
        have Hsp := Lib.hid hsp
        have hg0 := Hqok.out.1
        have hnb2 : nb ≤ 1048576 := by simp [ciN] at hnb; omega
        clear hsp hnb hg0
        go_wp2_with fail
        go_quiet (fail)
        go_wp2_with fail
        go_ret3
        exact ⟨Ab, nb, cb, by rw [Hr.out, Hsp.out]; rfl, hnb2, by rw [Hr.out, Hsp.out]; exact own_drewN (HB3.out.mono (show w.heap.size ≤ w1.heap.size + 1 by omega)) _, below_drewN b3 _⟩
set_option maxHeartbeats 2000000 in
theorem specMostPeople_any {A : Option Addr} {n c B : Nat} {l : List GroupR} {a0 a1 a2 budget : Int} {w : World} (h : Reads w B 4 A n (l.flatMap GroupR.cells)) (hB : B ≤ w.heap.size) (hc : n ≤ c) (hn : n ≤ 1048576) (hF : ∀ x ∈ l, x.Id.size ≤ 1048576) :
    Calls Try.prog 14 #[.slice A n c, .agg #[.int .i64 a0, .int .i64 a1, .int .i64 a2], .int .i64 budget] w fun e w' => ∃ A2 n2 c2, e = .returned (.tuple #[.slice A2 n2 c2, .int .i64 (rMostPeople l ⟨a0, a1, a2⟩ budget).2.1, .int .i64 (rMostPeople l ⟨a0, a1, a2⟩ budget).2.2]) ∧ n2 ≤ 1048576 ∧
      Own w' w.heap.size 2 1 A2 n2 c2 ((rMostPeople l ⟨a0, a1, a2⟩ budget).1.map (Value.int .i64)) ∧ Below w.heap.size w w' := by
  have HL := Lib.hid (GroupR.count h)
  obtain ⟨w0, hw0⟩ : ∃ w0, w.alloc (.cells #[.int .i64 a0, .int .i64 a1, .int .i64 a2] 36) = w0 := ⟨_, rfl⟩
  have b0 : Below w.heap.size w w0 := by rw [← hw0]; exact (Below.refl _ _).alloc (Nat.le_refl _) _
  have hbx : HC w0 w.heap.size [.int .i64 a0, .int .i64 a1, .int .i64 a2] := by rw [← hw0]; exact ⟨fun j u hu => by simpa using hu, fun j => by simp, by simp⟩
  have HW0 := Lib.hid hw0
  have B0 := Lib.hid b0
  have hs0 := b0.size
  have Hbe : Hid (beginI l a0 a1 a2 budget = if groupBAll l && roomB a0 a1 a2 then (if inB budget 1 20000 then 0 else 2) else 1) := Lib.hid rfl
  have Hgd : Hid (Calls Try.prog 44 #[.slice A n c, .pointer (some ⟨w.heap.size, 0, none⟩), .int .i64 budget] w0 fun e w' => e = .returned (.int .i64 (beginI l a0 a1 a2 budget)) ∧ Below w.heap.size w w' ∧ HC w' w.heap.size [.int .i64 a0, .int .i64 a1, .int .i64 a2]) := Lib.hid
    ((l17Begin_any (p := ⟨w.heap.size, 0, none⟩) (Reads.below h b0 hB) (by omega) hn hF (hbx.at_ 0 _ rfl) (hbx.at_ 1 _ rfl) (hbx.at_ 2 _ rfl)).mono fun e w' ⟨he, hb⟩ => ⟨he, b0.trans (hb.mono hs0), hbx.below hb hbx.lt⟩)
  clear hw0 b0 hbx
  cases hv : groupBAll l && roomB a0 a1 a2 with
  | false =>
    have Hg : Hid (beginI l a0 a1 a2 budget = 1) := Lib.hid (by rw [Hbe.out, hv]; rfl)
    have Hr := Lib.hid (rM_no (r := ⟨a0, a1, a2⟩) (b := budget) hv)
    clear hv
    go_enter Try.func14, Try.ntmps14
    go_wp2_with fail
    rw [HW0.out]
    refine Hgd.out.mono ?_
    rintro e w1 ⟨rfl, b1, hx1⟩
    rw [Hg.out]
    clear hx1
    go_wp2_with fail
    go_ret3
    exact ⟨none, 0, 0, by rw [Hr.out]; rfl, by omega, by rw [Hr.out]; exact Own.nil _ _ _ _, b1⟩
  | true =>
    cases hi : inB budget 1 20000 with
    | false =>
      have Hg : Hid (beginI l a0 a1 a2 budget = 2) := Lib.hid (by rw [Hbe.out, hv, hi]; rfl)
      have Hr := Lib.hid (rM_range (r := ⟨a0, a1, a2⟩) hv hi)
      clear hv hi
      go_enter Try.func14, Try.ntmps14
      go_wp2_with fail
      rw [HW0.out]
      refine Hgd.out.mono ?_
      rintro e w1 ⟨rfl, b1, hx1⟩
      rw [Hg.out]
      clear hx1
      go_wp2_with fail
      go_ret3
      exact ⟨none, 0, 0, by rw [Hr.out]; rfl, by omega, by rw [Hr.out]; exact Own.nil _ _ _ _, b1⟩
    | true =>
      have Hg : Hid (beginI l a0 a1 a2 budget = 0) := Lib.hid (by rw [Hbe.out, hv, hi]; rfl)
      have hbud := inB_true.1 hi
      obtain ⟨q, hq⟩ : ∃ q, ms l ⟨a0, a1, a2⟩ (l.length + 1) [] 0 ⟨budget.toNat, false, [], 0⟩ = q := ⟨_, rfl⟩
      have Hr := Lib.hid (rM_go (r := ⟨a0, a1, a2⟩) hv hi hq)
      rw [Bool.and_eq_true] at hv
      have hn12 : n ≤ 12 := by have := gok_len hv.1; rw [HL.out] at this; exact this
      have Hgk := Lib.hid (gok_of hv.1)
      have Hqok : Hid (MOk n q) := Lib.hid (by
        have := ms_ok (r := ⟨a0, a1, a2⟩) Hgk.out (by rw [HL.out]; exact hn12) (l.length + 1) [] 0 ⟨budget.toNat, false, [], 0⟩ (by simp) (by simp) (by simp) (mok0 _ _)
        rw [hq, HL.out] at this
        exact this)
      obtain ⟨bn, rfl⟩ := Int.eq_ofNat_of_zero_le (show 0 ≤ budget by omega)
      have Hq := Lib.hid hq
      have Hh := Lib.hid h
      clear hv hi hq h
      go_enter Try.func14, Try.ntmps14
      go_wp2_with fail
      rw [HW0.out]
      refine Hgd.out.mono ?_
      rintro e w1 ⟨rfl, b1, hx1⟩
      rw [Hg.out]
      have hs1 := b1.size
      have hltx := hx1.lt
      have pre : Below w1.heap.size w1 (w1.alloc (.cells #[.slice A n c, .pointer (some ⟨w.heap.size, 0, none⟩), .slice none 0 0, .slice none 0 0, .int .i64 (-1), .int .i64 0, .int .i64 (bn : Int)] 84)) := (Below.refl _ _).alloc (Nat.le_refl _) _
      have hHC : HC (w1.alloc (.cells #[.slice A n c, .pointer (some ⟨w.heap.size, 0, none⟩), .slice none 0 0, .slice none 0 0, .int .i64 (-1), .int .i64 0, .int .i64 (bn : Int)] 84)) w1.heap.size (nvs A n c w.heap.size (.slice none ([] : List Nat).length 0) none 0 0 (-1) (bn - bn) bn) :=
        ⟨fun j u hu => by simpa [nvs] using hu, fun j => by simp, by simp⟩
      have b2 := b1.trans (pre.mono hs1)
      have hr := (Reads.below Hh.out b2 hB).more (show B ≤ w.heap.size by omega)
      have HHC := Lib.hid hHC
      have HB2 := Lib.hid b2
      have HR := Lib.hid hr
      have HX := Lib.hid (hx1.below pre hltx)
      clear hHC pre b2 hr hx1 b1
      go_wp2_with fail
      generalize w1.alloc (.cells #[.slice A n c, .pointer (some ⟨w.heap.size, 0, none⟩), .slice none 0 0, .slice none 0 0, .int .i64 (-1), .int .i64 0, .int .i64 (bn : Int)] 84) = w2 at *
      have hbz : ((bn : Int)).toNat = bn := by omega
      have hq2 : ms l ⟨a0, a1, a2⟩ (n + 1) [] 0 ⟨bn, false, [], 0⟩ = q := by have := Hq.out; rwa [hbz, HL.out] at this
      have hsz2 : w1.heap.size < w2.heap.size := HHC.out.lt
      have Hcall := Lib.hid (next17_any (n + 1) A none none n c 0 0 0 w1.heap.size w.heap.size bn 0 l ⟨a0, a1, a2⟩ [] ⟨bn, false, [], 0⟩ (-1) w2 HR.out hn12 Hgk.out (by simp) (by omega) (by simp) (by omega) (by omega) (by omega) (Nat.le_refl _) rfl (.inr ⟨rfl, rfl, rfl, rfl, by simp only; omega⟩) (mok0 _ _) HX.out HHC.out (Own.nil _ _ _ _) (Own.nil _ _ _ _) (by intro a a' e; cases e))
      rw [hq2] at Hcall
      refine Hcall.out.mono ?_
      rintro e w3 ⟨vw, vn, Ab, nb, cb, rfl, hc3, hb3, ht3, hif⟩
      have b3 := HB2.out.trans ((touch2_belowM ht3 (by omega)).mono (show w.heap.size ≤ w1.heap.size by omega))
      have d3 : w3.cell? ⟨w1.heap.size, 3, none⟩ = some (.slice Ab nb cb) := hc3.at_ 3 _ rfl
      have d4 : w3.cell? ⟨w1.heap.size, 4, none⟩ = some (.int .i64 q.most) := hc3.at_ 4 _ rfl
      have hlt3 := hc3.lt
      have hnb := hb3.len
      have HB3 := Lib.hid hb3
      clear hc3 hb3 ht3 hif hq2 HHC HX
      cases hsp : q.spent with
      | true =>
        have Hsp := Lib.hid hsp
        clear hsp
        go_wp2_with fail
        go_ret3
        exact ⟨none, 0, 0, by rw [Hr.out, Hsp.out]; rfl, by omega, by rw [Hr.out, Hsp.out]; exact Own.nil _ _ _ _, b3⟩
      | false =>
        have Hsp := Lib.hid hsp
        have hg0 := Hqok.out.1
        have hnb2 : nb ≤ 12 := by simp [ciN] at hnb; omega
        clear hsp hnb hg0
        have HOw : Hid (Calls Try.prog 46 #[.slice Ab nb cb] w3.drew fun e w' => ∃ A' c', e = .returned (.slice A' nb c') ∧ Own w' w3.heap.size 2 1 A' nb c' ((ciN q.best).map (Value.int .i64)) ∧ Below w3.heap.size w3 w') := Lib.hid
          ((l00Own_any (w := w3.drew) (B := w3.heap.size) HB3.out.reads (Nat.le_refl _) (by omega)).mono fun e w' ⟨A', c', he, ho, hb⟩ => ⟨A', c', he, ho, ((Below.refl _ _).drew).trans hb⟩)
        have HKA : Hid (∀ W : World, Below w3.heap.size w3 W → (W.cell? ⟨w1.heap.size, 3, none⟩ = some (.slice Ab nb cb) ∧ W.cell? ⟨w1.heap.size, 4, none⟩ = some (.int .i64 q.most))) := Lib.hid (fun W hW => ⟨(hW.cell hlt3).trans d3, (hW.cell hlt3).trans d4⟩)
        have hD : Below w3.heap.size w3 w3.drew := (Below.refl _ _).drew
        go_wp2_with fail
        go_region_held3 (fun W => W.cell? ⟨w1.heap.size, 3, none⟩ = some (.slice Ab nb cb) ∧ W.cell? ⟨w1.heap.size, 4, none⟩ = some (.int .i64 q.most))
          ((with_reducible refine HKA.out _ ?_; (first | with_reducible assumption | with_reducible exact hD)))
          ((first
            | (go_at_call 46; refine HOw.out.mono ?_; rintro e w5 ⟨A5, c5, rfl, o5, hb5⟩)
            | fail))
        go_wp2_with fail
        go_ret3
        exact ⟨A5, nb, c5, by rw [Hr.out, Hsp.out]; rfl, by omega, by rw [Hr.out, Hsp.out]; exact o5.mono (show w.heap.size ≤ w3.heap.size by omega), b3.trans (hb5.mono b3.size)⟩
end Go.Proofs.Ytmnpehajojdhcaa
