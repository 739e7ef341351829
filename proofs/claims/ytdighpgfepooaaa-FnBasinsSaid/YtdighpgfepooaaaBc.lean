/- Ballast: the program's least gap, its trips until the store is dry. -/
import Derived.Test.YtdighpgfepooaaaBb
namespace Go.Proofs.Ytdighpgfepooaaa
open Go.RowKit
set_option maxRecDepth 100000
set_option linter.unusedVariables false
set_option linter.unusedSimpArgs false

def GapQ (t r s p : Int) (l : List Int) (w : World) (e : Ending) (w' : World) : Prop := ∃ (g code : Int), e = .returned (.tuple #[.int .i64 g, .int .i64 code]) ∧ GapP t r s p l g code ∧ Below w.heap.size w w'
theorem gapQ_not {t r s p : Int} {l : List Int} {w w' : World} {code : Int} (h : code ≠ 0) (b : Below w.heap.size w w') : GapQ t r s p l w (.returned (.tuple #[.int .i64 0, .int .i64 code])) w' :=
  ⟨0, code, rfl, fun e => absurd e h, b⟩
set_option maxHeartbeats 4000000 in
theorem implGapFor_any {A : Option Addr} {n c B : Nat} {l : List Int} {a0 a1 a2 a3 : Int} {w : World} (h : Ints w B A n l) (hB : B ≤ w.heap.size) (hn : n ≤ 1048576) :
    Calls Try.prog 8 #[.agg #[.int .i64 a0, .int .i64 a1, .int .i64 a2, .int .i64 a3], .slice A n c] w (GapQ a0 a1 a2 a3 l w) := by
  have HL := Lib.hid h.len
  have H := Lib.hid h
  clear h
  have pre : Below w.heap.size w (w.alloc (.cells #[.int .i64 a0, .int .i64 a1, .int .i64 a2, .int .i64 a3] 25)) := (Below.refl _ _).alloc (Nat.le_refl _) _
  have Pre := Lib.hid pre
  have HX := Lib.hid (hc_new w [.int .i64 a0, .int .i64 a1, .int .i64 a2, .int .i64 a3] 25)
  have hsz : w.heap.size < (w.alloc (.cells #[.int .i64 a0, .int .i64 a1, .int .i64 a2, .int .i64 a3] 25)).heap.size := by simp
  clear pre
  have Hwt : Hid (∀ w1 : World, Below w.heap.size w w1 → Calls Try.prog 24 #[.slice A n c] w1 fun e w' => e = .returned (.bool (watB l)) ∧ w1 = w') := Lib.hid (fun w1 b => areWaters_any (Reads.below H.out b hB) hn)
  cases hwat : watB l
  all_goals
    rw [hwat] at Hwt
    have HW := Lib.hid hwat
    cases hbas : basB a0 a1 a2 a3
    all_goals
      have HBs := Lib.hid hbas
      clear hbas hwat
      go_enter Try.func8, Try.ntmps8
      go_wp2_with fail
      generalize w.alloc (.cells #[.int .i64 a0, .int .i64 a1, .int .i64 a2, .int .i64 a3] 25) = W1 at *
      have x0 := cell_regrown (HX.out.at_ 0 _ rfl)
      have x1 := cell_regrown (HX.out.at_ 1 _ rfl)
      have x2 := cell_regrown (HX.out.at_ 2 _ rfl)
      have x3 := cell_regrown (HX.out.at_ 3 _ rfl)
      have cW := fun d os => Calls.regrown_of (calls_below (Hwt.out _ (Pre.out.trans ((below_regrown W1 d os).mono (by omega)))))
      have cB : ∀ (fine : Bool) d os, Calls Try.prog 23 #[.agg #[.int .i64 a0, .int .i64 a1, .int .i64 a2, .int .i64 a3], .bool fine] (Sort.grow (redrawn W1 d) os) fun e w'' => e = .returned (.int .i64 (basC (basB a0 a1 a2 a3) fine)) ∧ ∃ p : Regrown, w'' = Sort.grow (redrawn W1 p.d) p.os := fun fine d os => Calls.regrown_of basined_any
      rw [HBs.out] at cB
      refine wp_region_quiet_below (by kernel_rfl) (by kernel_rfl) ?_
      repeat (go_big_quiet_step (first | exact cW _ _ | exact cB _ _ _))
      refine wpQuiet_nil ?_
      intro _ hw'
      obtain ⟨⟨dq, osq⟩, hw''⟩ := hw'
      subst hw''
      have hbS := below_regrown W1 dq osq
      have H2 := Lib.hid (HX.out.below hbS HX.out.lt)
      have Tot := Lib.hid (Pre.out.trans (hbS.mono (by omega)))
      have hs2 := hbS.size
      clear cW cB x0 x1 x2 x3 hbS HX
      generalize Sort.grow (redrawn W1 dq) osq = W2 at *
      simp only [basC, Bool.false_eq_true, ↓reduceIte]
      first
        | (have hF : basB a0 a1 a2 a3 = false := HBs.out
           have HR : Hid (GapQ a0 a1 a2 a3 l w (.returned (.tuple #[.int .i64 0, .int .i64 1])) W2) := Lib.hid (gapQ_not (by decide) Tot.out)
           clear H2 Hwt
           go_wp2_with fail
           exact bodyPost_ret (v := .tuple #[.int .i64 0, .int .i64 1]) (by simp [results, Try.results8, go_sem]) rfl HR.out)
        | (have hF : watB l = false := HW.out
           have HR : Hid (GapQ a0 a1 a2 a3 l w (.returned (.tuple #[.int .i64 0, .int .i64 2])) W2) := Lib.hid (gapQ_not (by decide) Tot.out)
           clear H2 Hwt
           go_wp2_with fail
           exact bodyPost_ret (v := .tuple #[.int .i64 0, .int .i64 2]) (by simp [results, Try.results8, go_sem]) rfl HR.out)
        | skip
  have HS := Lib.hid (watB_at HW.out)
  have hn24 : n ≤ 24 := by have := HS.out.1; rw [HL.out] at this; exact this
  clear Hwt
  go_wp2_with fail
  go_loopg [7] 1441 (fun gk vi wr => ∃ (k : Nat), k ≤ 1441 ∧ gk + k = 1441 ∧ vi = .int .i64 (k : Int) ∧ (0 < k → stA (a3 * ((k : Int) - 1)) a2 [] l = none) ∧ Below W2.heap.size W2 wr)
  case atStart => exact ⟨0, by omega, by omega, rfl, fun h => absurd h (by omega), Below.refl _ _⟩
  case round =>
    obtain ⟨k, hk, hgk, rfl, hno, hbw⟩ := hrel
    have Hgk := Lib.hid hgk
    have HNo := Lib.hid hno
    have HB := Lib.hid hbw
    have hbs : W2.heap.size ≤ wr.heap.size := hbw.size
    clear hgk hno hbw
    have hk0 : (0 : Int) ≤ (k : Int) := by omega
    have qk : IntKind.i64.wrap ((k : Int) + 1) = (k : Int) + 1 := IntWalk.i64_in _ (by omega)
    by_cases hlt : k ≤ 1440
    · have HIn : Hid (inB (k : Int) 0 1440 = true) := Lib.hid (inB_true.2 (by omega))
      have H3 := Lib.hid (H2.out.below HB.out (by omega))
      have y0 : wr.cell? ⟨w.heap.size, 0, none⟩ = some (.int .i64 a0) := H3.out.at_ 0 _ rfl
      have y1 : wr.cell? ⟨w.heap.size, 1, none⟩ = some (.int .i64 a1) := H3.out.at_ 1 _ rfl
      have y2 : wr.cell? ⟨w.heap.size, 2, none⟩ = some (.int .i64 a2) := H3.out.at_ 2 _ rfl
      have y3 : wr.cell? ⟨w.heap.size, 3, none⟩ = some (.int .i64 a3) := H3.out.at_ 3 _ rfl
      have HT := Lib.hid (Tot.out.trans (HB.out.mono (by omega)))
      have HSt : Hid (Calls Try.prog 26 #[.agg #[.int .i64 a0, .int .i64 a1, .int .i64 a2, .int .i64 a3], .slice A n c, .int .i64 (k : Int)] wr (StP wr (stA (a3 * (k : Int)) a2 [] l))) := Lib.hid
        (storeAfter_any (Reads.below H.out HT.out hB) (by omega) hn24 HBs.out (by omega) (by have := HS.out.2; rw [HL.out] at this; exact this))
      clear H3
      go_wp2_with fail
      refine (isDayMinute_any _ _).mono ?_; rintro e w' ⟨rfl, rfl⟩; rw [HIn.out]
      go_wp2_with fail
      refine HSt.out.mono ?_
      rintro e w3 ⟨A3, n3, c3, rfl, hn3, o3, b3⟩
      have HF := Lib.hid (HT.out.trans (b3.mono (by omega)))
      have HF2 := Lib.hid (HB.out.trans (b3.mono (by omega)))
      cases hst : stA (a3 * (k : Int)) a2 [] l with
      | none =>
        have Hst := Lib.hid hst
        clear o3 b3 hst y0 y1 y2 y3
        go_wp2_with fail
        have hgk := Hgk.out
        go_roundg (gk - 1)
        case rel => exact ⟨k + 1, by omega, by omega, by go_num, fun _ => by rw [show (((k + 1 : Nat) : Int) - 1) = (k : Int) by omega]; exact Hst.out, HF2.out⟩
        case measure => omega
      | some o =>
        have HR : Hid (GapQ a0 a1 a2 a3 l w (.returned (.tuple #[.int .i64 (k : Int), .int .i64 0])) w3) := Lib.hid
          ⟨k, 0, rfl, fun _ => ⟨HBs.out, HW.out, by omega, by omega, ⟨o, hst⟩, fun hk => HNo.out (by omega)⟩, HF.out⟩
        clear o3 b3 hst y0 y1 y2 y3
        go_wp2_with fail
        exact bodyPost_ret (v := .tuple #[.int .i64 (k : Int), .int .i64 0]) (by simp [results, Try.results8, go_sem]) rfl HR.out
    · have HIn : Hid (inB (k : Int) 0 1440 = false) := Lib.hid (by cases h : inB (k : Int) 0 1440 with | false => rfl | true => (have := inB_true.1 h; omega))
      have HR : Hid (GapQ a0 a1 a2 a3 l w (.returned (.tuple #[.int .i64 0, .int .i64 3])) wr) := Lib.hid (gapQ_not (by decide) (Tot.out.trans (HB.out.mono (by omega))))
      go_wp2_with fail
      refine (isDayMinute_any _ _).mono ?_; rintro e w' ⟨rfl, rfl⟩; rw [HIn.out]
      go_wp2_with fail
      exact bodyPost_ret (v := .tuple #[.int .i64 0, .int .i64 3]) (by simp [results, Try.results8, go_sem]) rfl HR.out
def TripQ (s x : Int) (w : World) (e : Ending) (w' : World) : Prop := ∃ (m code : Int), e = .returned (.tuple #[.int .i64 m, .int .i64 code]) ∧ (code ≠ 0 → m = 0) ∧ (code = 0 → 0 ≤ m ∧ m ≤ 1000 ∧ ((m = 0) ↔ s < x)) ∧ Below w.heap.size w w'
set_option maxHeartbeats 4000000 in
theorem implTripsUntilDry_any {x gap a0 a1 a2 a3 : Int} {w : World} :
    Calls Try.prog 15 #[.agg #[.int .i64 a0, .int .i64 a1, .int .i64 a2, .int .i64 a3], .int .i64 x, .int .i64 gap] w (TripQ a2 x w) := by
  have pre : Below w.heap.size w (w.alloc (.cells #[.int .i64 a0, .int .i64 a1, .int .i64 a2, .int .i64 a3] 25)) := (Below.refl _ _).alloc (Nat.le_refl _) _
  have Pre := Lib.hid pre
  have HX := Lib.hid (hc_new w [.int .i64 a0, .int .i64 a1, .int .i64 a2, .int .i64 a3] 25)
  have hsz : w.heap.size < (w.alloc (.cells #[.int .i64 a0, .int .i64 a1, .int .i64 a2, .int .i64 a3] 25)).heap.size := by simp
  clear pre
  cases hwat : inB x 0 20000
  all_goals
    have HW := Lib.hid hwat
    cases hgp : inB gap 0 1440
    all_goals
      have HG := Lib.hid hgp
      cases hbas : basB a0 a1 a2 a3
      all_goals
        have HBs := Lib.hid hbas
        clear hbas hgp hwat
        go_enter Try.func15, Try.ntmps15
        go_wp2_with fail
        generalize w.alloc (.cells #[.int .i64 a0, .int .i64 a1, .int .i64 a2, .int .i64 a3] 25) = W1 at *
        have x0 := cell_regrown (HX.out.at_ 0 _ rfl)
        have x1 := cell_regrown (HX.out.at_ 1 _ rfl)
        have x2 := cell_regrown (HX.out.at_ 2 _ rfl)
        have x3 := cell_regrown (HX.out.at_ 3 _ rfl)
        have cW : ∀ d os, Calls Try.prog 39 #[.int .i64 x] (Sort.grow (redrawn W1 d) os) fun e w'' => e = .returned (.bool (inB x 0 20000)) ∧ ∃ p : Regrown, w'' = Sort.grow (redrawn W1 p.d) p.os := fun d os => Calls.regrown_of (calls_below (isTank_any _ _))
        have cG : ∀ d os, Calls Try.prog 25 #[.int .i64 gap] (Sort.grow (redrawn W1 d) os) fun e w'' => e = .returned (.bool (inB gap 0 1440)) ∧ ∃ p : Regrown, w'' = Sort.grow (redrawn W1 p.d) p.os := fun d os => Calls.regrown_of (calls_below (isDayMinute_any _ _))
        have cB : ∀ (fine : Bool) d os, Calls Try.prog 23 #[.agg #[.int .i64 a0, .int .i64 a1, .int .i64 a2, .int .i64 a3], .bool fine] (Sort.grow (redrawn W1 d) os) fun e w'' => e = .returned (.int .i64 (basC (basB a0 a1 a2 a3) fine)) ∧ ∃ p : Regrown, w'' = Sort.grow (redrawn W1 p.d) p.os := fun fine d os => Calls.regrown_of basined_any
        rw [HW.out] at cW
        rw [HG.out] at cG
        rw [HBs.out] at cB
        refine wp_region_quiet_below (by kernel_rfl) (by kernel_rfl) ?_
        repeat (go_big_quiet_step (first | exact cW _ _ | exact cG _ _ | exact cB _ _ _))
        refine wpQuiet_nil ?_
        intro _ hw'
        obtain ⟨⟨dq, osq⟩, hw''⟩ := hw'
        subst hw''
        have hbS := below_regrown W1 dq osq
        have H2 := Lib.hid (HX.out.below hbS HX.out.lt)
        have Tot := Lib.hid (Pre.out.trans (hbS.mono (by omega)))
        have hs2 := hbS.size
        clear cW cG cB x0 x1 x2 x3 hbS HX
        generalize Sort.grow (redrawn W1 dq) osq = W2 at *
        simp only [basC, Bool.false_eq_true, ↓reduceIte]
        first
          | (have hF : basB a0 a1 a2 a3 = false := HBs.out
             have HR : Hid (TripQ a2 x w (.returned (.tuple #[.int .i64 0, .int .i64 1])) W2) := Lib.hid ⟨0, 1, rfl, fun _ => rfl, fun h => absurd h (by decide), Tot.out⟩
             clear H2
             go_wp2_with fail
             exact bodyPost_ret (v := .tuple #[.int .i64 0, .int .i64 1]) (by simp [results, Try.results15, go_sem]) rfl HR.out)
          | (have hF : (inB x 0 20000 && inB gap 0 1440) = false := by rw [HW.out, HG.out]; rfl
             have HR : Hid (TripQ a2 x w (.returned (.tuple #[.int .i64 0, .int .i64 2])) W2) := Lib.hid ⟨0, 2, rfl, fun _ => rfl, fun h => absurd h (by decide), Tot.out⟩
             clear H2
             go_wp2_with fail
             exact bodyPost_ret (v := .tuple #[.int .i64 0, .int .i64 2]) (by simp [results, Try.results15, go_sem]) rfl HR.out)
          | skip
  have hpar := basB_parts HBs.out
  have hx := inB_true.1 HW.out
  have hg := inB_true.1 HG.out
  have hmul0 : 0 ≤ a3 * gap := Int.mul_nonneg hpar.2.2.2.1 hg.1
  have hmul1 : a3 * gap ≤ 1000 * 1440 := Int.mul_le_mul hpar.2.2.2.2 hg.2 hg.1 (by omega)
  have qm : IntKind.i64.wrap (a3 * gap) = a3 * gap := IntWalk.i64_in _ (by omega)
  have hs0 := hpar.2.2.1
  have y2 : W2.cell? ⟨w.heap.size, 2, none⟩ = some (.int .i64 a2) := H2.out.at_ 2 _ rfl
  have y3 : W2.cell? ⟨w.heap.size, 3, none⟩ = some (.int .i64 a3) := H2.out.at_ 3 _ rfl
  clear hpar H2
  go_wp2_with fail
  go_loopg [9, 10] 1000 (fun gk vi vs wr => ∃ (k : Nat) (s : Int), k ≤ 1000 ∧ gk + k = 1000 ∧ vi = .int .i64 (k : Int) ∧ vs = .int .i64 s ∧ 0 ≤ s ∧ s ≤ 10000000 ∧ (k = 0 → s = a2) ∧ (0 < k → ¬ a2 < x) ∧ W2 = wr)
  case atStart => exact ⟨0, a2, by omega, by omega, rfl, rfl, hs0.1, hs0.2, fun _ => rfl, fun h => absurd h (by omega), rfl⟩
  case round =>
    obtain ⟨k, s, hk, hgk, rfl, rfl, hs1, hs3, hk0, hk1, rfl⟩ := hrel
    have Hgk := Lib.hid hgk
    have HK0 := Lib.hid hk0
    have HK1 := Lib.hid hk1
    clear hgk hk0 hk1
    have hkk : (0 : Int) ≤ (k : Int) := by omega
    have qk : IntKind.i64.wrap ((k : Int) + 1) = (k : Int) + 1 := IntWalk.i64_in _ (by omega)
    by_cases hlt : k < 1000
    · have d0 : decide ((k : Int) < 1000) = true := decide_eq_true (by omega)
      have hkl : (k : Int) < 1000 := by omega
      by_cases hsx : s < x
      · have HR : Hid (TripQ a2 x w (.returned (.tuple #[.int .i64 (k : Int), .int .i64 0])) W2) := Lib.hid ⟨k, 0, rfl, fun h => absurd rfl h, fun _ => ⟨by omega, by omega, by
            rcases Nat.eq_zero_or_pos k with h0 | h0
            · have := HK0.out h0
              rw [← this]
              exact ⟨fun _ => hsx, fun _ => by omega⟩
            · have := HK1.out h0
              exact ⟨fun h => by omega, fun h => absurd h this⟩⟩, Tot.out⟩
        have d1 : decide (x ≤ s) = false := decide_eq_false (by omega)
        have d1' : ¬ x ≤ s := by omega
        clear hsx
        go_wp2_with fail
        exact bodyPost_ret (v := .tuple #[.int .i64 (k : Int), .int .i64 0]) (by simp [results, Try.results15, go_sem]) rfl HR.out
      · have d1 : decide (x ≤ s) = true := decide_eq_true (by omega)
        have HKn : Hid (¬ a2 < x) := Lib.hid (by
          rcases Nat.eq_zero_or_pos k with h0 | h0
          · rw [← HK0.out h0]; exact hsx
          · exact HK1.out h0)
        have q1 : IntKind.i64.wrap (s - x) = s - x := IntWalk.i64_in _ (by omega)
        have q2 : IntKind.i64.wrap (s - x + a3 * gap) = s - x + a3 * gap := IntWalk.i64_in _ (by omega)
        have hss : x ≤ s := by omega
        rcases (show s - x + a3 * gap < 10000000 ∨ ¬ s - x + a3 * gap < 10000000 by omega) with hm | hm
        all_goals
          go_wp2_with fail
          have hgk := Hgk.out
          go_roundg (gk - 1)
          case rel => exact ⟨k + 1, _, by omega, by omega, by go_num, rfl, by omega, by omega, fun h => absurd h (by omega), fun _ => HKn.out, rfl⟩
          case measure => omega
    · have hke : (k : Int) = 1000 := by omega
      have d0 : decide ((k : Int) < 1000) = false := decide_eq_false (by omega)
      have hkl : ¬ (k : Int) < 1000 := by omega
      have HR : Hid (TripQ a2 x w (.returned (.tuple #[.int .i64 (k : Int), .int .i64 0])) W2) := Lib.hid ⟨k, 0, rfl, fun h => absurd rfl h, fun _ => ⟨by omega, by omega, ⟨fun h => by omega, fun h => absurd h (HK1.out (by omega))⟩⟩, Tot.out⟩
      clear hke
      go_wp2_with fail
      exact bodyPost_ret (v := .tuple #[.int .i64 (k : Int), .int .i64 0]) (by simp [results, Try.results15, go_sem]) rfl HR.out
end Go.Proofs.Ytdighpgfepooaaa
