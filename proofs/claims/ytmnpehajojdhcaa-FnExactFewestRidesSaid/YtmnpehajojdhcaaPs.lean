/- Loads: FewestRides: the groups that are too large; the program's contract. -/
import Derived.Test.YtmnpehajojdhcaaPr
namespace Go.Proofs.Ytmnpehajojdhcaa
open Go.RowKit
set_option maxRecDepth 100000
set_option linter.unusedVariables false
set_option linter.unusedSimpArgs false

theorem info_stringP : (Try.prog.info? 9).map (fun i => (i.zero, i.size, i.bytes)) = some (some (.string ByteArray.empty), 1, 16) := by kernel_rfl
theorem fitsW_one (l : List GroupR) (r : RoomR) (k : Nat) (x : GroupR) (h : GroupR.at_ l k = x) : fitsW l r [k] = (decide (x.People ≤ r.People) && (decide (x.Bikes ≤ r.Bikes) && decide (75 * x.People + 15 * x.Bikes + x.Kilos ≤ r.Kilos))) := by
  subst h
  simp [fitsW, sumG, kiloG]
set_option maxHeartbeats 2000000 in
theorem tooLarge_any {A : Option Addr} {n c B : Nat} {l : List GroupR} {a0 a1 a2 : Int} {w : World} (h : Reads w B 4 A n (l.flatMap GroupR.cells)) (hB : B ≤ w.heap.size) (hn : n ≤ 12) (hg : GOk l) :
    Calls Try.prog 54 #[.slice A n c, .agg #[.int .i64 a0, .int .i64 a1, .int .i64 a2]] w fun e w' => ∃ A2 n2 c2, e = .returned (.slice A2 n2 c2) ∧ decide (0 < n2) = !(aloneB l ⟨a0, a1, a2⟩) ∧ n2 ≤ 12 ∧ Below w.heap.size w w' := by
  have HL := Lib.hid (GroupR.count h)
  have HG := Lib.hid hg
  have Hh := Lib.hid h
  obtain ⟨i0, hi, hz0, hz1, hz2⟩ := info_parts info_stringP
  obtain ⟨w0, hw0⟩ : ∃ w0, w.alloc (.cells #[.int .i64 a0, .int .i64 a1, .int .i64 a2] 36) = w0 := ⟨_, rfl⟩
  have b0 : Below w.heap.size w w0 := by rw [← hw0]; exact (Below.refl _ _).alloc (Nat.le_refl _) _
  have hbx : HC w0 w.heap.size [.int .i64 a0, .int .i64 a1, .int .i64 a2] := by rw [← hw0]; exact ⟨fun j u hu => by simpa using hu, fun j => by simp, by simp⟩
  have HW0 := Lib.hid hw0
  have Hbx := Lib.hid hbx
  have B0 := Lib.hid b0
  clear hg h hw0 b0 hbx
  go_enter Try.func54, Try.ntmps54
  go_wp2_with fail
  rw [HW0.out]
  go_loopg [5, 10] n (fun gk v5 v10 wr => ∃ (k : Nat) (A2 : Option Addr) (n2 c2 : Nat) (ids : List ByteArray), k ≤ n ∧ gk + k = n ∧ v10 = .int .i64 (k : Int) ∧ v5 = .slice A2 n2 c2 ∧ n2 ≤ k ∧ decide (0 < n2) = !(allTo (fun i => fitsW l ⟨a0, a1, a2⟩ [i]) k) ∧
      Own wr (w.heap.size + 1) 9 1 A2 n2 c2 (ids.map Value.string) ∧ HC wr w.heap.size [.int .i64 a0, .int .i64 a1, .int .i64 a2] ∧ Below w.heap.size w wr)
  case atStart => exact ⟨0, none, 0, 0, [], by omega, by omega, rfl, rfl, by omega, rfl, Own.nil _ _ _ _, Hbx.out, B0.out⟩
  case round =>
    clear Hbx B0
    obtain ⟨k, A2, n2, c2, ids, hk, hgk, rfl, rfl, hnk, hdec, ho, hx, hb⟩ := hrel
    have Hgk := Lib.hid hgk
    have Hdec := Lib.hid hdec
    have Ho := Lib.hid ho
    have Hx := Lib.hid hx
    have Hb := Lib.hid hb
    have hbs := hb.size
    have hltx := hx.lt
    clear hgk hdec ho hx hb
    by_cases hlt : k < n
    · obtain ⟨ad, rfl, hbl, p0, p1, p2, p3⟩ := GroupR.rd (Reads.below Hh.out Hb.out hB) hlt
      have hgx := HG.out k (by rw [HL.out]; exact hlt)
      have hk0 : (0 : Int) ≤ (k : Int) := by omega
      have hk1 : (k : Int) < (n : Int) := by omega
      have hqk : IntKind.i64.wrap ((k : Int) + 1) = (k : Int) + 1 := IntWalk.i64_in _ (by omega)
      have HF : Hid (∀ x, GroupR.at_ l k = x → fitsW l ⟨a0, a1, a2⟩ [k] = (decide (x.People ≤ a0) && (decide (x.Bikes ≤ a1) && decide (75 * x.People + 15 * x.Bikes + x.Kilos ≤ a2)))) := Lib.hid (fun x hx => fitsW_one l ⟨a0, a1, a2⟩ k x hx)
      have HFF := Lib.hid (HF.out _ rfl)
      clear HF
      generalize GroupR.at_ l k = x at *
      obtain ⟨W1, hW1⟩ : ∃ W1, wr.alloc (.cells #[.string x.Id, .int .i64 x.People, .int .i64 x.Bikes, .int .i64 x.Kilos] 86) = W1 := ⟨_, rfl⟩
      have b1 : Below wr.heap.size wr W1 := by rw [← hW1]; exact (Below.refl _ _).alloc (Nat.le_refl _) _
      have hx1 : HC W1 wr.heap.size [.string x.Id, .int .i64 x.People, .int .i64 x.Bikes, .int .i64 x.Kilos] := by rw [← hW1]; exact ⟨fun j u hu => by simpa using hu, fun j => by simp, by simp⟩
      have HW1 := Lib.hid hW1
      have B1 := Lib.hid (Hb.out.trans (b1.mono hbs))
      have Hx1 := Lib.hid hx1
      have Hbx1 := Lib.hid (Hx.out.below b1 hltx)
      have Ho1 := Lib.hid (Ho.out.below b1)
      clear hW1 b1 hx1
      go_wp2_with fail
      rw [HW1.out]
      clear HW1
      have x0 : W1.cell? ⟨wr.heap.size, 0, none⟩ = some (.string x.Id) := Hx1.out.at_ 0 _ rfl
      have x1 : W1.cell? ⟨wr.heap.size, 1, none⟩ = some (.int .i64 x.People) := Hx1.out.at_ 1 _ rfl
      have x2 : W1.cell? ⟨wr.heap.size, 2, none⟩ = some (.int .i64 x.Bikes) := Hx1.out.at_ 2 _ rfl
      have x3 : W1.cell? ⟨wr.heap.size, 3, none⟩ = some (.int .i64 x.Kilos) := Hx1.out.at_ 3 _ rfl
      have y0 : W1.cell? ⟨w.heap.size, 0, none⟩ = some (.int .i64 a0) := Hbx1.out.at_ 0 _ rfl
      have y1 : W1.cell? ⟨w.heap.size, 1, none⟩ = some (.int .i64 a1) := Hbx1.out.at_ 1 _ rfl
      have y2 : W1.cell? ⟨w.heap.size, 2, none⟩ = some (.int .i64 a2) := Hbx1.out.at_ 2 _ rfl
      obtain ⟨fb, hfb⟩ : ∃ fb, fitsW l ⟨a0, a1, a2⟩ [k] = fb := ⟨_, rfl⟩
      have hfb2 : (decide (x.People ≤ a0) && (decide (x.Bikes ≤ a1) && decide (75 * x.People + 15 * x.Bikes + x.Kilos ≤ a2))) = fb := by rw [← hfb, HFF.out]
      have Hfb := Lib.hid hfb
      have q0 := cell_regrown x0
      have q1 := cell_regrown x1
      have q2 := cell_regrown x2
      have q3 := cell_regrown x3
      have q4 := cell_regrown y0
      have q5 := cell_regrown y1
      have q6 := cell_regrown y2
      have cN : ∀ d os, Calls Try.prog 86 #[.agg #[.string x.Id, .int .i64 x.People, .int .i64 x.Bikes, .int .i64 x.Kilos]] (Sort.grow (redrawn W1 d) os) fun e w'' => e = .returned (.agg #[.int .i64 x.People, .int .i64 x.Bikes, .int .i64 (75 * x.People + 15 * x.Bikes + x.Kilos)]) ∧ ∃ p : Regrown, w'' = Sort.grow (redrawn W1 p.d) p.os := fun d os =>
        Calls.regrown_of (need_any (by omega) (by omega) (by omega))
      have cV : ∀ d os, Calls Try.prog 87 #[.agg #[.int .i64 x.People, .int .i64 x.Bikes, .int .i64 (75 * x.People + 15 * x.Bikes + x.Kilos)], .agg #[.int .i64 a0, .int .i64 a1, .int .i64 a2]] (Sort.grow (redrawn W1 d) os) fun e w'' => e = .returned (.bool fb) ∧ ∃ p : Regrown, w'' = Sort.grow (redrawn W1 p.d) p.os := fun d os => by
        have := fits_any (a1 := x.People) (a2 := x.Bikes) (a3 := 75 * x.People + 15 * x.Bikes + x.Kilos) (b1 := a0) (b2 := a1) (b3 := a2) (w := Sort.grow (redrawn W1 d) os)
        rw [hfb2] at this
        exact Calls.regrown_of this
      clear x0 x1 x2 x3 y0 y1 y2 hfb hfb2 HFF hgx p0 p1 p2 p3
      refine wp_region_quiet_below (by kernel_rfl) (by kernel_rfl) ?_
      repeat (go_big_quiet_step (first | with_reducible exact cN _ _ | with_reducible exact cV _ _))
      refine wpQuiet_nil ?_
      intro _ hw'
      obtain ⟨⟨dq, osq⟩, hw''⟩ := hw'
      subst hw''
      have hbS := below_regrown W1 dq osq
      have hs1 := B1.out.size
      have B2 := Lib.hid (B1.out.trans (hbS.mono hs1))
      have Hx2 := Lib.hid (Hx1.out.below hbS Hx1.out.lt)
      have Hbx2 := Lib.hid (Hbx1.out.below hbS Hbx1.out.lt)
      have Ho2 := Lib.hid (Ho1.out.below hbS)
      clear cN cV q0 q1 q2 q3 q4 q5 q6 hbS B1 Hx1 Hbx1 Ho1 hs1
      generalize Sort.grow (redrawn W1 dq) osq = W2 at *
      have hs2 := B2.out.size
      have x0 : W2.cell? ⟨wr.heap.size, 0, none⟩ = some (.string x.Id) := Hx2.out.at_ 0 _ rfl
      cases fb with
      | true =>
        have Ha : Hid (decide (0 < n2) = !(allTo (fun i => fitsW l ⟨a0, a1, a2⟩ [i]) (k + 1))) := Lib.hid (by rw [allTo_succ, Hfb.out, Bool.and_true]; exact Hdec.out)
        go_wp2_with fail
        have hgk := Hgk.out
        go_roundg (gk - 1)
        case rel => exact ⟨k + 1, A2, n2, c2, ids, by omega, by omega, by go_num, rfl, by omega, Ha.out, Ho2.out, Hbx2.out, B2.out⟩
        case measure => omega
      | false =>
        have Ha : Hid (decide (0 < n2 + 1) = !(allTo (fun i => fitsW l ⟨a0, a1, a2⟩ [i]) (k + 1))) := Lib.hid (by rw [allTo_succ, Hfb.out, Bool.and_false]; simp)
        have hlt2 := Hbx2.out.lt
        go_wp2_with (at_builtin; refine wpList_app rfl _ _ 99 rfl 9 i0 _ 1 16 Try.underlying99 hi hz0 hz1 hz2 rfl (by omega) (by omega) (w.heap.size + 1) _ _ _ _ rfl (Ho2.out.alloc _) ⟨W2.heap.size, 0, none⟩ 1 1 [.string x.Id] rfl rfl (cell_one_new _ _ _) (by simp [Value.oneCell']) (by omega) (by simp; omega) ?_)
        intro A3 c3 w3 ho3 hgA hbA hat
        have ho4 : Own w3 (w.heap.size + 1) 9 1 A3 (n2 + 1) c3 ((ids ++ [x.Id]).map Value.string) := by rw [List.map_append]; exact ho3
        have hb4 : Below w.heap.size w w3 := (B2.out.alloc hs2 _).trans (hbA.mono (Nat.le_succ _))
        have hx4 : HC w3 w.heap.size [.int .i64 a0, .int .i64 a1, .int .i64 a2] := (Hbx2.out.below ((Below.refl W2.heap.size W2).alloc (Nat.le_refl _) _) hlt2).below hbA (Nat.lt_succ_self _)
        clear ho3 hgA hbA hat x0
        go_wp2_with fail
        have hgk := Hgk.out
        go_roundg (gk - 1)
        case rel => exact ⟨k + 1, A3, n2 + 1, c3, ids ++ [x.Id], by omega, by omega, by go_num, rfl, by omega, Ha.out, ho4, hx4, hb4⟩
        case measure => omega
    · have hke : n = k := by omega
      subst hke
      have hd : ¬ (n : Int) < (n : Int) := by omega
      have Ha : Hid (decide (0 < n2) = !(aloneB l ⟨a0, a1, a2⟩)) := Lib.hid (by unfold aloneB; rw [HL.out]; exact Hdec.out)
      go_wp2_with fail
      go_ret
      exact ⟨A2, n2, ⟨c2, rfl⟩, Ha.out, by omega, Hb.out⟩
set_option maxHeartbeats 2000000 in
theorem implFewestRides_any {A : Option Addr} {n c B : Nat} {l : List GroupR} {a0 a1 a2 budget : Int} {w : World} (h : Reads w B 4 A n (l.flatMap GroupR.cells)) (hB : B ≤ w.heap.size) (hc : n ≤ c) (hn : n ≤ 1048576) (hF : ∀ x ∈ l, x.Id.size ≤ 1048576) :
    Calls Try.prog 21 #[.slice A n c, .agg #[.int .i64 a0, .int .i64 a1, .int .i64 a2], .int .i64 budget] w fun e w' => ∃ A2 n2 c2, e = .returned (.tuple #[.slice A2 n2 c2, .int .i64 (rFewestRides l ⟨a0, a1, a2⟩ budget).2.1, .int .i64 (rFewestRides l ⟨a0, a1, a2⟩ budget).2.2]) ∧ n2 ≤ 1048576 ∧
      Own w' w.heap.size 2 1 A2 n2 c2 ((rFewestRides l ⟨a0, a1, a2⟩ budget).1.map (Value.int .i64)) ∧ Below w.heap.size w w' := by
  have HL := Lib.hid (GroupR.count h)
  obtain ⟨w0, hw0⟩ : ∃ w0, w.alloc (.cells #[.int .i64 a0, .int .i64 a1, .int .i64 a2] 36) = w0 := ⟨_, rfl⟩
  have b0 : Below w.heap.size w w0 := by rw [← hw0]; exact (Below.refl _ _).alloc (Nat.le_refl _) _
  have hbx : HC w0 w.heap.size [.int .i64 a0, .int .i64 a1, .int .i64 a2] := by rw [← hw0]; exact ⟨fun j u hu => by simpa using hu, fun j => by simp, by simp⟩
  have HW0 := Lib.hid hw0
  have Hbx := Lib.hid hbx
  have B0 := Lib.hid b0
  have hs0 := b0.size
  have Hgr : Hid (groupedI l a0 a1 a2 = if groupBAll l && roomB a0 a1 a2 then 0 else 1) := Lib.hid rfl
  have Hgd : Hid (Calls Try.prog 48 #[.slice A n c, .agg #[.int .i64 a0, .int .i64 a1, .int .i64 a2]] w0 fun e w' => e = .returned (.int .i64 (groupedI l a0 a1 a2)) ∧ Below w.heap.size w w' ∧ HC w' w.heap.size [.int .i64 a0, .int .i64 a1, .int .i64 a2]) := Lib.hid
    ((grouped_any (Reads.below h b0 hB) (by omega) hn hF).mono fun e w' ⟨he, hb⟩ => ⟨he, b0.trans (hb.mono hs0), hbx.below hb hbx.lt⟩)
  clear hw0 b0 hbx
  cases hv : groupBAll l && roomB a0 a1 a2 with
  | false =>
    have Hg : Hid (groupedI l a0 a1 a2 = 1) := Lib.hid (by rw [Hgr.out, hv]; rfl)
    have Hr := Lib.hid (rF_no (r := ⟨a0, a1, a2⟩) (b := budget) hv)
    clear hv
    go_enter Try.func21, Try.ntmps21
    go_wp2_with fail
    rw [HW0.out]
    refine Hgd.out.mono ?_
    rintro e w1 ⟨rfl, b1, hx1⟩
    rw [Hg.out]
    clear hx1
    go_wp2_with fail
    go_ret3
    exact ⟨none, 0, 0, by rw [Hr.out]; rfl, by omega, by rw [Hr.out]; exact Own.nil _ _ _ _, b1⟩
  | true =>
    have Hg : Hid (groupedI l a0 a1 a2 = 0) := Lib.hid (by rw [Hgr.out, hv]; rfl)
    cases hi : inB budget 1 20000 with
    | false =>
      have Hr := Lib.hid (rF_range (r := ⟨a0, a1, a2⟩) hv hi)
      have Hi := Lib.hid hi
      clear hv hi
      go_enter Try.func21, Try.ntmps21
      go_wp2_with fail
      rw [HW0.out]
      refine Hgd.out.mono ?_
      rintro e w1 ⟨rfl, b1, hx1⟩
      rw [Hg.out]
      clear hx1
      go_wp2_with (go_at_call 41; refine (isBudget_any _ _).mono ?_; rintro e w' ⟨rfl, rfl⟩; rw [Hi.out])
      go_ret3
      exact ⟨none, 0, 0, by rw [Hr.out]; rfl, by omega, by rw [Hr.out]; exact Own.nil _ _ _ _, b1⟩
    | true =>
      have hbud := inB_true.1 hi
      have hva := hv
      rw [Bool.and_eq_true] at hva
      have hn12 : n ≤ 12 := by have := gok_len hva.1; rw [HL.out] at this; exact this
      have Hgk := Lib.hid (gok_of hva.1)
      have Hbig : Hid (∀ w1, Below w.heap.size w w1 → Calls Try.prog 54 #[.slice A n c, .agg #[.int .i64 a0, .int .i64 a1, .int .i64 a2]] w1 fun e w' => ∃ A2 n2 c2, e = .returned (.slice A2 n2 c2) ∧ decide (0 < n2) = !(aloneB l ⟨a0, a1, a2⟩) ∧ n2 ≤ 12 ∧ Below w.heap.size w w') := Lib.hid (fun w1 b1 =>
        (tooLarge_any (Reads.below h b1 hB) (by have := b1.size; omega) hn12 (gok_of hva.1)).mono fun e w' ⟨A2, n2, c2, h1, h2, h3, h4⟩ => ⟨A2, n2, c2, h1, h2, h3, b1.trans (h4.mono b1.size)⟩)
      clear hva
      cases hal : aloneB l ⟨a0, a1, a2⟩ with
      | false =>
        have Hr := Lib.hid (rF_big (r := ⟨a0, a1, a2⟩) hv hi hal)
        have Hi := Lib.hid hi
        rw [hal] at Hbig
        clear hv hi hal
        go_enter Try.func21, Try.ntmps21
        go_wp2_with fail
        rw [HW0.out]
        refine Hgd.out.mono ?_
        rintro e w1 ⟨rfl, b1, hx1⟩
        rw [Hg.out]
        have x0 : w1.cell? ⟨w.heap.size, 0, none⟩ = some (.int .i64 a0) := hx1.at_ 0 _ rfl
        have x1 : w1.cell? ⟨w.heap.size, 1, none⟩ = some (.int .i64 a1) := hx1.at_ 1 _ rfl
        have x2 : w1.cell? ⟨w.heap.size, 2, none⟩ = some (.int .i64 a2) := hx1.at_ 2 _ rfl
        have B1 := Lib.hid b1
        clear hx1 b1
        go_wp2_with (go_at_call 41; refine (isBudget_any _ _).mono ?_; rintro e w' ⟨rfl, rfl⟩; rw [Hi.out])
        refine (Hbig.out _ B1.out).mono ?_
        rintro e w2 ⟨A2, n2, c2, rfl, hn2, hn3, b2⟩
        have hn4 : decide (0 < n2) = true := hn2
        clear hn2
        go_wp2_with fail
        go_ret3
        exact ⟨none, 0, 0, by rw [Hr.out]; rfl, by omega, by rw [Hr.out]; exact Own.nil _ _ _ _, b2⟩
      | true =>
        obtain ⟨q, hq⟩ : ∃ q, fs l ⟨a0, a1, a2⟩ (l.length + 1) [] 0 ⟨budget.toNat, false, none⟩ = q := ⟨_, rfl⟩
        have Hr := Lib.hid (rF_go (r := ⟨a0, a1, a2⟩) hv hi hal hq)
        have Hi := Lib.hid hi
        have Hqok : Hid (FOk n q) := Lib.hid (by
          have := fs_ok l ⟨a0, a1, a2⟩ (l.length + 1) [] 0 ⟨budget.toNat, false, none⟩ (by simp) (by simp) (fok0 _ _)
          rw [hq, HL.out] at this
          exact this)
        have Hsome : Hid (q.spent = false → fbZ q = (fbM q : Int)) := Lib.hid (fun hs => by
          rcases fs_some l ⟨a0, a1, a2⟩ hal (l.length + 1) [] 0 ⟨budget.toNat, false, none⟩ (by simp) (by simp) (by simp) (by rw [hq]; exact hs) with h1 | h1
          · rw [hq] at h1
            cases hb : q.best with
            | none => rw [hb] at h1; cases h1
            | some x => obtain ⟨g, m⟩ := x; rw [(fb_some hb).2.1, (fb_some hb).2.2.2]
          · cases h1)
        obtain ⟨bn, rfl⟩ := Int.eq_ofNat_of_zero_le (show 0 ≤ budget by omega)
        have Hq := Lib.hid hq
        have Hh := Lib.hid h
        have Hal := Lib.hid hal
        rw [hal] at Hbig
        clear hv hi hq h hal
        go_enter Try.func21, Try.ntmps21
        go_wp2_with fail
        rw [HW0.out]
        refine Hgd.out.mono ?_
        rintro e w0' ⟨rfl, b1, hx1⟩
        rw [Hg.out]
        have y0 : w0'.cell? ⟨w.heap.size, 0, none⟩ = some (.int .i64 a0) := hx1.at_ 0 _ rfl
        have y1 : w0'.cell? ⟨w.heap.size, 1, none⟩ = some (.int .i64 a1) := hx1.at_ 1 _ rfl
        have y2 : w0'.cell? ⟨w.heap.size, 2, none⟩ = some (.int .i64 a2) := hx1.at_ 2 _ rfl
        have B1 := Lib.hid b1
        have Hbig2 : Hid (Calls Try.prog 54 #[.slice A n c, .agg #[.int .i64 a0, .int .i64 a1, .int .i64 a2]] w0' fun e w' => ∃ A2 n2 c2, e = .returned (.slice A2 n2 c2) ∧ decide (0 < n2) = false ∧ n2 ≤ 12 ∧ Below w.heap.size w w' ∧ HC w' w.heap.size [.int .i64 a0, .int .i64 a1, .int .i64 a2]) := Lib.hid
          ((tooLarge_any (Reads.below Hh.out b1 hB) (by have := b1.size; omega) hn12 Hgk.out).mono fun e w' ⟨A2, n2, c2, h1, h2, h3, h4⟩ => ⟨A2, n2, c2, h1, by rw [h2, Hal.out]; rfl, h3, b1.trans (h4.mono b1.size), hx1.below h4 hx1.lt⟩)
        clear hx1 b1 Hbig
        go_wp2_with (go_at_call 41; refine (isBudget_any _ _).mono ?_; rintro e w' ⟨rfl, rfl⟩; rw [Hi.out])
        refine Hbig2.out.mono ?_
        rintro e w1 ⟨Az, nz, cz, rfl, hn2, hn3, b1, hx1⟩
        clear y0 y1 y2
        have x0 : w1.cell? ⟨w.heap.size, 0, none⟩ = some (.int .i64 a0) := hx1.at_ 0 _ rfl
        have x1 : w1.cell? ⟨w.heap.size, 1, none⟩ = some (.int .i64 a1) := hx1.at_ 1 _ rfl
        have x2 : w1.cell? ⟨w.heap.size, 2, none⟩ = some (.int .i64 a2) := hx1.at_ 2 _ rfl
        have hs1 := b1.size
        have pre : Below w1.heap.size w1 (w1.alloc (.cells #[.int .i64 (bn : Int), .bool false, .slice A n c, .int .i64 a0, .int .i64 a1, .int .i64 a2, .slice none 0 0, .slice none 0 0, .slice none 0 0, .int .i64 0, .bool false] 104)) := (Below.refl _ _).alloc (Nat.le_refl _) _
        have hHC : HC (w1.alloc (.cells #[.int .i64 (bn : Int), .bool false, .slice A n c, .int .i64 a0, .int .i64 a1, .int .i64 a2, .slice none 0 0, .slice none 0 0, .slice none 0 0, .int .i64 0, .bool false] 104)) w1.heap.size (lvs A n c ⟨a0, a1, a2⟩ none 0 0 none ([] : List Nat).length 0 none 0 0 ⟨bn, false, none⟩) :=
          ⟨fun j u hu => by simpa [lvs, fbM] using hu, fun j => by simp, by simp⟩
        have b2 := b1.trans (pre.mono hs1)
        have hr := (Reads.below Hh.out b2 hB).more (show B ≤ w1.heap.size by have := B1.out.size; omega)
        have HHC := Lib.hid hHC
        have HB2 := Lib.hid b2
        have HR := Lib.hid hr
        clear hHC pre b2 hr hx1 b1
        go_wp2_with fail
        generalize w1.alloc (.cells #[.int .i64 (bn : Int), .bool false, .slice A n c, .int .i64 a0, .int .i64 a1, .int .i64 a2, .slice none 0 0, .slice none 0 0, .slice none 0 0, .int .i64 0, .bool false] 104) = w2 at *
        have hbz : ((bn : Int)).toNat = bn := by omega
        have hq2 : fs l ⟨a0, a1, a2⟩ (n + 1) [] 0 ⟨bn, false, none⟩ = q := by have := Hq.out; rwa [hbz, HL.out] at this
        have hsz2 : w1.heap.size < w2.heap.size := HHC.out.lt
        have hapn : Apart (none : Option Addr) (none : Option Addr) := by intro a a' e; cases e
        have Hcall := Lib.hid (lsearch_any (n + 1) A none none none n c 0 0 0 0 w1.heap.size 0 l ⟨a0, a1, a2⟩ [] ⟨bn, false, none⟩ w2 HR.out hn12 Hgk.out Hal.out (by simp) (by simp) (by simp) (by simp) (by simp only; omega) (fok0 _ _) HHC.out (Own.nil _ _ _ _) (Own.nil _ _ _ _) (Own.nil _ _ _ _) hapn hapn hapn)
        rw [hq2] at Hcall
        refine Hcall.out.mono ?_
        rintro e w3 ⟨Ao, co, Ag, cg, Ab, nb, cb, rfl, hc3, ho3, hg3, hb3, hp1, hp2, hp3, ht3, hno3, hng3⟩
        have b3 := HB2.out.trans ((ht3.below (B := w1.heap.size) (by omega) (Nat.le_refl _) (fun A1 h a e => by simp at h; subst h; cases e)).mono (show w.heap.size ≤ w1.heap.size by omega))
        have d1 : w3.cell? ⟨w1.heap.size, 1, none⟩ = some (.bool q.spent) := hc3.at_ 1 _ rfl
        have d8 : w3.cell? ⟨w1.heap.size, 8, none⟩ = some (.slice Ab nb cb) := hc3.at_ 8 _ rfl
        have d9 : w3.cell? ⟨w1.heap.size, 9, none⟩ = some (.int .i64 ((fbM q : Nat) : Int)) := hc3.at_ 9 _ rfl
        have hnb := hb3.len
        have HB3 := Lib.hid hb3
        clear hc3 ho3 hg3 hb3 hp1 hp2 hp3 ht3 hno3 hng3 hq2 HHC x0 x1 x2
        cases hsp : q.spent with
        | true =>
          rw [hsp] at d1
          have Hsp := Lib.hid hsp
          clear hsp
          go_wp2_with fail
          go_ret3
          exact ⟨none, 0, 0, by rw [Hr.out, Hsp.out]; rfl, by omega, by rw [Hr.out, Hsp.out]; exact Own.nil _ _ _ _, b3⟩
        | false =>
          rw [hsp] at d1
          have Hsp := Lib.hid hsp
          have hz := Lib.hid (Hsome.out hsp)
          have hg0 := fbL_len Hqok.out
          have hnb2 : nb ≤ 1048576 := by simp [ciN] at hnb; omega
          clear hsp hnb hg0
          go_wp2_with fail
          go_quiet (fail)
          go_wp2_with fail
          go_ret3
          have Hrr : rFewestRides l ⟨a0, a1, a2⟩ (bn : Int) = (ciN (fbL q), ((fbM q : Nat) : Int), 0) := by rw [Hr.out, Hsp.out, ← hz.out]; rfl
          exact ⟨Ab, nb, cb, by rw [Hrr]; rfl, hnb2, by rw [Hrr]; exact own_drewN (HB3.out.mono (show w.heap.size ≤ w1.heap.size + 1 by omega)) _, below_drewN b3 _⟩
end Go.Proofs.Ytmnpehajojdhcaa
