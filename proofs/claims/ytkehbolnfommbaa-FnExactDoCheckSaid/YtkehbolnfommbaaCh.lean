/- Inspections: ChecksIn: the contract of the reference's side. -/
import Derived.Test.YtkehbolnfommbaaCg
namespace Go.Proofs.Ytkehbolnfommbaa
open Go.RowKit
set_option maxRecDepth 100000
set_option linter.unusedVariables false
set_option linter.unusedSimpArgs false

theorem own_some {w : World} {B e size n c : Nat} {A : Option Addr} {xs : List Value} (h : Own w B e size A n c xs) (hn : 0 < n) : ∃ g, A = some ⟨g, 0, none⟩ ∧ B ≤ g ∧ g < w.heap.size := by
  cases A with
  | none => have := h.none_n; omega
  | some a =>
    obtain ⟨h1, h2, h3, h4⟩ := h.block_lt a rfl
    obtain ⟨b, o, s⟩ := a
    simp only at h1 h2 h3 h4
    subst h1; subst h2
    exact ⟨b, rfl, h3, h4⟩
theorem own_nth {w : World} {B e n c g j : Nat} {ts : List Int} (h : Own w B e 1 (some ⟨g, 0, none⟩) n c (ts.map (Value.int .i64))) (hj : j < n) : w.cell? ⟨g, j, none⟩ = some (.int .i64 (nth ts j)) := by
  have hl : ts.length = n := by have := h.len; simpa using this
  rw [h.cellAt (by omega), List.getElem?_map, getElem?_nth (by omega)]; rfl
theorem own_put {w : World} {B e n c g j : Nat} {ts : List Int} (h : Own w B e 1 (some ⟨g, 0, none⟩) n c (ts.map (Value.int .i64))) (x : Int) : Own (w.setCell ⟨g, j, none⟩ (.int .i64 x)) B e 1 (some ⟨g, 0, none⟩) n c ((ts.set j x).map (Value.int .i64)) := by
  have := (h.stored (j := j) (.int .i64 x)).1
  rwa [← List.map_set] at this
theorem checks_one (l : List CheckR) : ∀ u ∈ l.flatMap CheckR.cells, u.oneCell' = true := by
  intro u hu
  obtain ⟨x, _, hx⟩ := List.mem_flatMap.1 hu
  simp only [CheckR.cells, List.mem_cons, List.not_mem_nil, or_false] at hx
  rcases hx with rfl | rfl | rfl | rfl | rfl <;> rfl
/-- Two numbers of an element stored. -/
theorem two_set : ∀ (l : List CheckR) (i : Nat) (d r : Int), i < l.length → ((l.flatMap CheckR.cells).set (i * 5 + 3) (.int .i64 d)).set (i * 5 + 4) (.int .i64 r) = (l.set i ⟨(CheckR.at_ l i).Id, (CheckR.at_ l i).EveryDays, (CheckR.at_ l i).EveryRides, d, r⟩).flatMap CheckR.cells
  | [], i, d, r, h => absurd h (by simp)
  | x :: l, 0, d, r, _ => by simp [CheckR.cells, CheckR.at_, List.set_cons_succ, List.set_cons_zero]
  | x :: l, i + 1, d, r, h => by
    have ih := two_set l i d r (by simpa using h)
    rw [show (i + 1) * 5 + 3 = (i * 5 + 3) + 1 + 1 + 1 + 1 + 1 by omega, show (i + 1) * 5 + 4 = (i * 5 + 4) + 1 + 1 + 1 + 1 + 1 by omega]
    show ((([Value.string x.Id, .int .i64 x.EveryDays, .int .i64 x.EveryRides, .int .i64 x.LastDay, .int .i64 x.LastRide] ++ l.flatMap CheckR.cells).set _ _).set _ _) = _
    simp only [List.cons_append, List.nil_append, List.set_cons_succ]
    rw [ih]
    rfl
/-- The first i stand at k + 1, the others at k. -/
def mixL {α : Type} (f : Nat → Nat → α) (n k i : Nat) : List α := (List.range n).map fun j => f j (if j < i then k + 1 else k)
section
variable {α : Type} {f : Nat → Nat → α} {n k i : Nat}
theorem mix_len : (mixL f n k i).length = n := by simp [mixL]
theorem mix_at {j : Nat} (h : j < n) : (mixL f n k i)[j]? = some (f j (if j < i then k + 1 else k)) := by simp [mixL, h]
theorem mix_here (h : i < n) : (mixL f n k i)[i]? = some (f i k) := by rw [mix_at h, if_neg (by omega)]
theorem mix_set (h : i < n) : mixL f n k (i + 1) = (mixL f n k i).set i (f i (k + 1)) := by
  refine List.ext_getElem? fun j => ?_
  rw [List.getElem?_set]
  by_cases hj : j < n
  · rw [mix_at hj]
    by_cases e : i = j
    · subst e
      rw [if_pos rfl, if_pos (show i < i + 1 by omega), if_pos (by rw [mix_len]; exact hj)]
    · rw [if_neg e, mix_at hj]
      by_cases hji : j < i
      · rw [if_pos (by omega), if_pos hji]
      · rw [if_neg (by omega), if_neg hji]
  · rw [if_neg (by omega), List.getElem?_eq_none (by rw [mix_len]; omega), List.getElem?_eq_none (by rw [mix_len]; omega)]
theorem mix_same (h : f i (k + 1) = f i k) : mixL f n k (i + 1) = mixL f n k i := by
  unfold mixL
  refine List.map_congr_left fun j _ => ?_
  by_cases e : j = i
  · subst e
    rw [if_pos (by omega), if_neg (by omega), h]
  · by_cases hji : j < i
    · rw [if_pos (by omega), if_pos hji]
    · rw [if_neg (by omega), if_neg hji]
theorem mix_next : mixL f n k n = mixL f n (k + 1) 0 := by
  unfold mixL
  refine List.map_congr_left fun j hj => ?_
  have := List.mem_range.1 hj
  rw [if_pos this, if_neg (by omega)]
end
def nowF (l : List CheckR) (day rides per : Int) (j k : Nat) : CheckR := (simT (CheckR.at_ l j) day rides per k).1
def cntF (l : List CheckR) (day rides per : Int) (j k : Nat) : Int := (simT (CheckR.at_ l j) day rides per k).2
theorem now_start {l : List CheckR} {day rides per : Int} {n : Nat} (h : l.length = n) : mixL (nowF l day rides per) n 0 0 = l := by
  refine List.ext_getElem? fun j => ?_
  by_cases hj : j < n
  · rw [mix_at hj, List.getElem?_eq_getElem (by omega)]
    simp [nowF, simT, CheckR.at_, List.getD, List.getElem?_eq_getElem (show j < l.length by omega)]
  · rw [List.getElem?_eq_none (by rw [mix_len]; omega), List.getElem?_eq_none (by omega)]
theorem cnt_start {l : List CheckR} {day rides per : Int} {n : Nat} : mixL (cntF l day rides per) n 0 0 = List.replicate n 0 := by
  refine List.ext_getElem? fun j => ?_
  by_cases hj : j < n
  · rw [mix_at hj]
    simp [cntF, simT, hj]
  · rw [List.getElem?_eq_none (by rw [mix_len]; omega), List.getElem?_eq_none (by simp; omega)]
theorem cnt_end {l : List CheckR} {day rides per : Int} {n D : Nat} : mixL (cntF l day rides per) n D 0 = countsTo l day rides per D n := by
  unfold mixL countsTo
  exact List.map_congr_left fun j _ => by rw [if_neg (by omega)]; rfl
theorem at_mix {l : List CheckR} {day rides per : Int} {n k i : Nat} (h : i < n) : CheckR.at_ (mixL (nowF l day rides per) n k i) i = nowF l day rides per i k := by
  show (mixL (nowF l day rides per) n k i).getD i _ = _
  rw [List.getD, mix_here h]; rfl
theorem nth_mix {l : List CheckR} {day rides per : Int} {n k i : Nat} (h : i < n) : nth (mixL (cntF l day rides per) n k i) i = cntF l day rides per i k := by
  show (mixL (cntF l day rides per) n k i).getD i _ = _
  rw [List.getD, mix_here h]; rfl

set_option maxHeartbeats 2000000 in
theorem specChecksIn_any {A : Option Addr} {n c B : Nat} {l : List CheckR} {day rides per days : Int} {w : World} (h : Reads w B 5 A n (l.flatMap CheckR.cells)) (hB : B ≤ w.heap.size) (hc : n ≤ c) (hn : n ≤ 1048576) (hF : ∀ x ∈ l, x.Id.size ≤ 1048576) :
    Calls Try.prog 38 #[.slice A n c, .int .i64 day, .int .i64 rides, .int .i64 per, .int .i64 days] w fun e w' => ∃ A2 n2 c2, e = .returned (.tuple #[.slice A2 n2 c2, .int .i64 (rChecksIn l day rides per days).2]) ∧ n2 ≤ 1048576 ∧
      Own w' w.heap.size 2 1 A2 n2 c2 ((rChecksIn l day rides per days).1.map (Value.int .i64)) ∧ Below w.heap.size w w' := by
  have HL := Lib.hid (CheckR.count h)
  obtain ⟨i0, hi, hz0, hz1, hz2⟩ := info_parts info_int
  obtain ⟨i1, hi', hz0', hz1', hz2'⟩ := info_parts info_Check
  by_cases ha : askI l day rides per = 0
  · obtain ⟨hck, hper, hday, hri, hla⟩ := askI_zero ha
    have Hat := Lib.hid (checks_at hck).1
    have hl16 := (checks_at hck).2
    have hln := HL.out
    have Ha := Lib.hid ha
    cases hv : inB days 0 1000 with
    | false =>
      have Hr : Hid (rChecksIn l day rides per days = ([], 2)) := Lib.hid (by rw [rChecksIn, if_pos ha, hv]; rfl)
      have Hv := Lib.hid hv
      clear ha hck hla hv
      go_enter Try.func38, Try.ntmps38
      go_wp2_with fail
      refine (l21Run_any h hB hn hF).mono ?_
      rintro e w1 ⟨rfl, b1⟩
      rw [Ha.out]
      go_wp2_with (go_at_call 65; refine (in_any _ _ _ _).mono ?_; rintro e w' ⟨rfl, rfl⟩; rw [Hv.out])
      go_ret2
      exact ⟨none, 0, 0, by rw [Hr.out]; rfl, by omega, by rw [Hr.out]; exact Own.nil _ _ _ _, b1⟩
    | true =>
    have hdb := inB_true.1 hv
    have Hv := Lib.hid hv
    obtain ⟨D, rfl⟩ := Int.eq_ofNat_of_zero_le hdb.1
    have Hr : Hid (rChecksIn l day rides per (D : Int) = (countsTo l day rides per D n, 0)) := Lib.hid (by rw [rChecksIn, if_pos ha, hv, HL.out]; rfl)
    have hD : D ≤ 1000 := by omega
    clear ha hck hla hv
    go_enter Try.func38, Try.ntmps38
    go_wp2_with fail
    refine (l21Run_any h hB hn hF).mono ?_
    rintro e w1 ⟨rfl, b1⟩
    rw [Ha.out]
    have hs1 := b1.size
    have h1 := Reads.below h b1 hB
    go_wp2_with (first | (go_at_call 65; refine (in_any _ _ _ _).mono ?_; rintro e w' ⟨rfl, rfl⟩; rw [Hv.out]) | (at_builtin; refine wpList_appS rfl (.tmp 30) (.tmp 31) 25 rfl 34 i1 _ 5 48 Try.underlying25 hi' hz0' hz1' hz2' rfl (by omega) (by omega) w.heap.size _ _ _ _ rfl (Own.empty _ _ _ _ hs1) B A n c _ rfl (Reads.alloc h1 (by omega) _) (checks_one _) (by omega) (by simp; omega) ?_))
    intro A1 c1 w2 hoN hgN hbN hatN
    have b2 : Below w.heap.size w w2 := (b1.alloc hs1 _).trans hbN
    have hs2 := b2.size
    clear hgN hbN hatN b1 h1
    go_wp2_with (at_make; refine wpList_make_full _ rfl _ _ 52 rfl w2.heap.size 2 i0 _ 1 Try.underlying52 hi hz0 hz1 _ _ _ _ n rfl rfl rfl rfl (by rw [hz2]; omega) (by simp only [maxLen]; omega) (Nat.le_refl _) ?_)
    intro w3 hown hgrow
    have hb3 : Below w2.heap.size w2 w3 := (Below.refl _ _).grown hgrow (Nat.le_refl _) (by simp)
    have hoC : Own w3 w2.heap.size 2 1 (some ⟨w2.heap.size, 0, none⟩) n n ((List.replicate n (0 : Int)).map (Value.int .i64)) := by simpa [Own, toList_madeCells_one, Value.cells] using hown
    have hap := apart_of hoN hoC (Nat.le_refl _)
    have hoN3 := hoN.below hb3
    have b3 := b2.trans (hb3.mono hs2)
    rw [← cnt_start (l := l) (day := day) (rides := rides) (per := per)] at hoC
    rw [← now_start (day := day) (rides := rides) (per := per) HL.out] at hoN3
    generalize w2.heap.size = g at *
    clear hoN hown hgrow hb3 b2
    go_wp2_with fail
    go_loopg [15] D (fun gk v wr => ∃ k : Nat, k ≤ D ∧ gk + k = D ∧ v = .int .i64 ((k : Int) + 1) ∧ Own wr w.heap.size 34 5 A1 n c1 ((mixL (nowF l day rides per) n k 0).flatMap CheckR.cells) ∧
        Own wr g 2 1 (some ⟨g, 0, none⟩) n n ((mixL (cntF l day rides per) n k 0).map (Value.int .i64)) ∧ Below w.heap.size w wr)
    case atStart => exact ⟨0, by omega, by omega, rfl, hoN3, hoC, b3⟩
    case round =>
      clear hoN3 hoC b3
      obtain ⟨k, hk, hgk, rfl, hoN, hoC, hb⟩ := hrel
      have Hgk := Lib.hid hgk
      clear hgk
      by_cases hlt : k < D
      · have hm := mul_bd (x := (k : Int) + 1) (y := per) (X := 1000) (Y := 1000000) (by omega) (by omega) hper.1 hper.2
        have hq1 : IntKind.i64.wrap (day + ((k : Int) + 1)) = day + ((k : Int) + 1) := IntWalk.i64_in _ (by omega)
        have hq2 : IntKind.i64.wrap (((k : Int) + 1) * per) = ((k : Int) + 1) * per := IntWalk.i64_in _ (by omega)
        have hq3 : IntKind.i64.wrap (rides + ((k : Int) + 1) * per) = rides + ((k : Int) + 1) * per := IntWalk.i64_in _ (by omega)
        have hq4 : IntKind.i64.wrap ((k : Int) + 1 + 1) = (k : Int) + 1 + 1 := IntWalk.i64_in _ (by omega)
        have hle : decide ((k : Int) + 1 ≤ (D : Int)) = true := by simp; omega
        have hle2 : (k : Int) + 1 ≤ (D : Int) := by omega
        obtain ⟨gko, hgko⟩ : ∃ gko, gko = gk := ⟨_, rfl⟩
        go_wp2_with fail
        go_loopg [18] n (fun gk vi wr => ∃ i : Nat, i ≤ n ∧ gk + i = n ∧ vi = .int .i64 (i : Int) ∧ Own wr w.heap.size 34 5 A1 n c1 ((mixL (nowF l day rides per) n k i).flatMap CheckR.cells) ∧
          Own wr g 2 1 (some ⟨g, 0, none⟩) n n ((mixL (cntF l day rides per) n k i).map (Value.int .i64)) ∧ Below w.heap.size w wr)
        case atStart => exact ⟨0, by omega, by omega, rfl, hoN, hoC, hb⟩
        case round =>
          clear hoN hoC hb
          obtain ⟨i, hi3, hgk2, rfl, hoN, hoC, hb⟩ := hrel
          have Hgk2 := Lib.hid hgk2
          have hbs := hb.size
          clear hgk2
          by_cases hlt2 : i < n
          · obtain ⟨g1, rfl, hg1, hg2⟩ := own_some hoN (by omega)
            have hxk := fitC_of (Hat.out i (by rw [HL.out]; exact hlt2))
            obtain ⟨hX, hC0, hC1⟩ := sim_bd hxk hday hri hper k (by omega)
            have Hst := Lib.hid (simT_succ (CheckR.at_ l i) day rides per k)
            have hXe : CheckR.at_ (mixL (nowF l day rides per) n k i) i = (simT (CheckR.at_ l i) day rides per k).1 := at_mix hlt2
            have hCe : nth (mixL (cntF l day rides per) n k i) i = (simT (CheckR.at_ l i) day rides per k).2 := nth_mix hlt2
            have HsN : Hid (nowF l day rides per i k = (simT (CheckR.at_ l i) day rides per k).1) := Lib.hid rfl
            have HsC : Hid (cntF l day rides per i k = (simT (CheckR.at_ l i) day rides per k).2) := Lib.hid rfl
            have HtN : Hid (nowF l day rides per i (k + 1) = (simT (CheckR.at_ l i) day rides per (k + 1)).1) := Lib.hid rfl
            have HtC : Hid (cntF l day rides per i (k + 1) = (simT (CheckR.at_ l i) day rides per (k + 1)).2) := Lib.hid rfl
            generalize simT (CheckR.at_ l i) day rides per k = st at *
            obtain ⟨X, C⟩ := st
            simp only [] at hX hC0 hC1 hXe hCe HsN HsC
            have c0 : wr.cell? ⟨g1, i * 5, none⟩ = some (.string X.Id) := by have := CheckR.own_get (k := i) (j := 0) hoN hlt2 (by omega); rw [hXe] at this; exact this
            have cc1 : wr.cell? ⟨g1, i * 5 + 1, none⟩ = some (.int .i64 X.EveryDays) := by have := CheckR.own_get (k := i) (j := 1) hoN hlt2 (by omega); rw [hXe] at this; exact this
            have cc2 : wr.cell? ⟨g1, i * 5 + 2, none⟩ = some (.int .i64 X.EveryRides) := by have := CheckR.own_get (k := i) (j := 2) hoN hlt2 (by omega); rw [hXe] at this; exact this
            have cc3 : wr.cell? ⟨g1, i * 5 + 3, none⟩ = some (.int .i64 X.LastDay) := by have := CheckR.own_get (k := i) (j := 3) hoN hlt2 (by omega); rw [hXe] at this; exact this
            have cc4 : wr.cell? ⟨g1, i * 5 + 4, none⟩ = some (.int .i64 X.LastRide) := by have := CheckR.own_get (k := i) (j := 4) hoN hlt2 (by omega); rw [hXe] at this; exact this
            have hi0 : (0 : Int) ≤ (i : Int) := by omega
            have hi1 : (i : Int) < (n : Int) := by omega
            have hqi : IntKind.i64.wrap ((i : Int) + 1) = (i : Int) + 1 := IntWalk.i64_in _ (by omega)
            have hq5 : IntKind.i64.wrap (C + 1) = C + 1 := IntWalk.i64_in _ (by omega)
            go_wp2_with fail
            refine (l21Over_any (p := ⟨g1, i * 5, none⟩) (x := X) c0 cc1 cc2 cc3 cc4 hX (by omega) (by omega)).mono ?_
            rintro e w2' ⟨rfl, d, rfl⟩
            cases hov : overB X (day + ((k : Int) + 1)) (rides + ((k : Int) + 1) * per) with
            | false =>
              have Hs : Hid (simT (CheckR.at_ l i) day rides per (k + 1) = (X, C)) := Lib.hid (by rw [Hst.out]; unfold stepD; rw [hov]; rfl)
              have HN : Hid (mixL (nowF l day rides per) n k (i + 1) = mixL (nowF l day rides per) n k i) := Lib.hid (mix_same (by rw [HtN.out, HsN.out, Hs.out]))
              have HC : Hid (mixL (cntF l day rides per) n k (i + 1) = mixL (cntF l day rides per) n k i) := Lib.hid (mix_same (by rw [HtC.out, HsC.out, Hs.out]))
              clear hov Hst c0 cc1 cc2 cc3 cc4
              go_wp2_with fail
              have hgk2 := Hgk2.out
              go_roundg (gk - 1)
              case rel => exact ⟨i + 1, by omega, by omega, by go_num, by rw [HN.out]; exact own_drewN hoN _, by rw [HC.out]; exact own_drewN hoC _, below_drewN hb _⟩
              case measure => omega
            | true =>
              have Hs : Hid (simT (CheckR.at_ l i) day rides per (k + 1) = (⟨X.Id, X.EveryDays, X.EveryRides, day + ((k : Int) + 1), rides + ((k : Int) + 1) * per⟩, C + 1)) := Lib.hid (by rw [Hst.out]; unfold stepD; rw [hov]; rfl)
              have HN : Hid (mixL (nowF l day rides per) n k (i + 1) = (mixL (nowF l day rides per) n k i).set i ⟨X.Id, X.EveryDays, X.EveryRides, day + ((k : Int) + 1), rides + ((k : Int) + 1) * per⟩) := Lib.hid (by rw [mix_set hlt2, HtN.out, Hs.out])
              have HC : Hid (mixL (cntF l day rides per) n k (i + 1) = (mixL (cntF l day rides per) n k i).set i (C + 1)) := Lib.hid (by rw [mix_set hlt2, HtC.out, Hs.out])
              clear hov Hst
              have hne : g1 ≠ g := fun e => hap ⟨g1, 0, none⟩ ⟨g, 0, none⟩ rfl rfl e
              have hne' : g ≠ g1 := fun e => hne e.symm
              have hoN2 := own_drewN hoN d
              have hoC2 := own_drewN hoC d
              have hb2 := below_drewN hb d
              have d3 : (wr.drewN d).cell? ⟨g1, i * 5 + 3, none⟩ = some (.int .i64 X.LastDay) := cc3
              have d4 : (wr.drewN d).cell? ⟨g1, i * 5 + 4, none⟩ = some (.int .i64 X.LastRide) := cc4
              have dC : (wr.drewN d).cell? ⟨g, i, none⟩ = some (.int .i64 C) := by rw [← hCe]; exact own_nth hoC2 hlt2
              clear c0 cc1 cc2 cc3 cc4 hoN hoC hb
              generalize wr.drewN d = wd at *
              have f3 := hoN2.frozenAt (j := i * 5 + 3)
              have f4 := hoN2.frozenAt (j := i * 5 + 4)
              have fC := hoC2.frozenAt (j := i)
              have s3 := hoN2.stored (j := i * 5 + 3) (.int .i64 (day + ((k : Int) + 1)))
              have s4 := s3.1.stored (j := i * 5 + 4) (.int .i64 (rides + ((k : Int) + 1) * per))
              have hgr := s3.2.trans s4.2
              have hoC3 := own_grown (A1 := some ⟨g1, 0, none⟩) hoC2 hgr hap
              have hoN3 := s4.1
              rw [two_set _ i _ _ (by rw [mix_len]; exact hlt2), hXe, ← HN.out] at hoN3
              have hoC4 := own_put hoC3 (j := i) (C + 1)
              rw [← HC.out] at hoC4
              have sC := hoC3.stored (j := i) (.int .i64 (C + 1))
              have hoN4 := own_grown (A1 := some ⟨g, 0, none⟩) hoN3 sC.2 hap.symm
              have hgb := (hoC2.block_lt _ rfl).2.2.1
              have hb4 := ((hb2.setCell (p := ⟨g1, i * 5 + 3, none⟩) hg1 (.int .i64 (day + ((k : Int) + 1)))).setCell (p := ⟨g1, i * 5 + 4, none⟩) hg1 (.int .i64 (rides + ((k : Int) + 1) * per))).setCell (p := ⟨g, i, none⟩) hs2 (.int .i64 (C + 1))
              have HB := Lib.hid hoN4
              have HO := Lib.hid hoC4
              have HW := Lib.hid hb4
              clear s3 s4 hgr hoC3 hoN3 hoC4 sC hoN4 hb4 hoN2 hoC2 hb2
              go_wp2_with fail
              have hgk2 := Hgk2.out
              go_roundg (gk - 1)
              case rel => exact ⟨i + 1, by omega, by omega, by go_num, HB.out, HO.out, HW.out⟩
              case measure => omega
          · have hie : i = n := by omega
            rw [hie, mix_next] at hoN hoC
            have hd : ¬ (i : Int) < (n : Int) := by omega
            go_wp2_with fail
            have hgk := Hgk.out
            go_roundg (D - (k + 1))
            case rel => exact ⟨k + 1, by omega, by omega, by go_num, hoN, hoC, hb⟩
            case measure => omega
      · have hke : k = D := by omega
        rw [hke, cnt_end] at hoC
        have hle : decide ((k : Int) + 1 ≤ (D : Int)) = false := by simp; omega
        have hle2 : ¬ (k : Int) + 1 ≤ (D : Int) := by omega
        go_wp2_with fail
        go_ret2
        exact ⟨_, _, _, by rw [Hr.out]; rfl, by omega, by rw [Hr.out]; exact hoC.mono hs2, hb⟩
  · have Hr : Hid (rChecksIn l day rides per days = ([], askI l day rides per)) := Lib.hid (by rw [rChecksIn, if_neg ha])
    go_enter Try.func38, Try.ntmps38
    go_wp2_with fail
    refine (l21Run_any h hB hn hF).mono ?_
    rintro e w1 ⟨rfl, b1⟩
    generalize askI l day rides per = cd at *
    go_wp2_with fail
    go_ret2
    exact ⟨none, 0, 0, by rw [Hr.out]; rfl, by omega, by rw [Hr.out]; exact Own.nil _ _ _ _, b1⟩
end Go.Proofs.Ytkehbolnfommbaa
