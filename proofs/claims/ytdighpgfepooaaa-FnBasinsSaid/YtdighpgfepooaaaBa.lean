/- Ballast: what is asked of a basin and of waters; stores after trips, both sides. -/
import Derived.Test.YtdighpgfepooaaaBq
import Derived.Test.YtdighpgfepooaaaN
import Derived.Test.YtdighpgfepooaaaS
import Derived.Test.YtdighpgfepooaaaL
import Derived.Test.YtdighpgfepooaaaX
import Derived.Test.YtdighpgfepooaaaDc
import Derived.BigQuiet
import Derived.Lib.QuietBelow
namespace Go.Proofs.Ytdighpgfepooaaa
open Go.RowKit
set_option maxRecDepth 100000
set_option linter.unusedVariables false
set_option linter.unusedSimpArgs false

theorem isPace_any (n : Int) (w : World) : Calls Try.prog 41 #[.int .i64 n] w fun e w' => e = .returned (.bool (inB n (0) 20000)) ∧ w = w' := by
  go_enter Try.func41, Try.ntmps41
  go_wp2_with (go_at_call 36; refine (within_any _ _ _ _).mono ?_; rintro e w' ⟨rfl, rfl⟩)
  go_ret
  exact ⟨rfl, rfl⟩
theorem validBasin_any {a0 a1 a2 a3 : Int} {w : World} :
    Calls Try.prog 44 #[.agg #[.int .i64 a0, .int .i64 a1, .int .i64 a2, .int .i64 a3]] w fun e w' => e = .returned (.bool (basB a0 a1 a2 a3)) ∧ Below w.heap.size w w' := by
  have Ht : Hid (basB a0 a1 a2 a3 = (inB a0 1 20000 && inB a1 1 1000 && inB a2 0 10000000 && inB a3 0 1000)) := Lib.hid rfl
  go_enter Try.func44, Try.ntmps44
  go_wp2_with (first | (go_at_call 36; refine (within_any _ _ _ _).mono ?_; rintro e w' ⟨rfl, rfl⟩) | (go_at_call 54; refine (isStore_any _ _).mono ?_; rintro e w' ⟨rfl, rfl⟩))
  all_goals go_ret
  all_goals (refine ⟨ret_bool ?_, (Below.refl _ _).alloc (Nat.le_refl _) _⟩; rw [Ht.out]; simp_all)
theorem l16Ok_any {ad : Addr} {a0 a1 a2 a3 : Int} {w : World} (h0 : w.cell? ad = some (.int .i64 a0)) (h1 : w.cell? ⟨ad.block, ad.off + 1, none⟩ = some (.int .i64 a1)) (h2 : w.cell? ⟨ad.block, ad.off + 2, none⟩ = some (.int .i64 a2)) (h3 : w.cell? ⟨ad.block, ad.off + 3, none⟩ = some (.int .i64 a3)) :
    Calls Try.prog 27 #[.pointer (some ad)] w fun e w' => e = .returned (.bool (basB a0 a1 a2 a3)) ∧ w = w' := by
  have Ht : Hid (basB a0 a1 a2 a3 = (inB a0 1 20000 && inB a1 1 1000 && inB a2 0 10000000 && inB a3 0 1000)) := Lib.hid rfl
  go_enter Try.func27, Try.ntmps27
  go_wp2_with (go_at_call 46; refine (in_any _ _ _ _).mono ?_; rintro e w' ⟨rfl, rfl⟩)
  all_goals go_ret
  all_goals (refine ⟨ret_bool ?_, rfl⟩; rw [Ht.out]; simp_all)
def basC (v fine : Bool) : Int := if v then (if fine then 0 else 2) else 1
theorem basined_any {a0 a1 a2 a3 : Int} {fine : Bool} {w : World} :
    Calls Try.prog 23 #[.agg #[.int .i64 a0, .int .i64 a1, .int .i64 a2, .int .i64 a3], .bool fine] w fun e w' => e = .returned (.int .i64 (basC (basB a0 a1 a2 a3) fine)) ∧ Below w.heap.size w w' := by
  have pre : Below w.heap.size w (w.alloc (.cells #[.int .i64 a0, .int .i64 a1, .int .i64 a2, .int .i64 a3] 25)) := (Below.refl _ _).alloc (Nat.le_refl _) _
  cases hv : basB a0 a1 a2 a3 with
  | false =>
    have Hv := Lib.hid hv
    clear hv
    go_enter Try.func23, Try.ntmps23
    go_wp2_with fail
    refine validBasin_any.mono ?_
    rintro e w1 ⟨rfl, b⟩
    rw [Hv.out]
    go_wp2_with fail
    go_ret
    exact ⟨rfl, pre.trans (b.mono pre.size)⟩
  | true =>
    have Hv := Lib.hid hv
    clear hv
    cases fine
    all_goals
      go_enter Try.func23, Try.ntmps23
      go_wp2_with fail
      refine validBasin_any.mono ?_
      rintro e w1 ⟨rfl, b⟩
      rw [Hv.out]
      go_wp2_with fail
      go_ret
      exact ⟨rfl, pre.trans (b.mono pre.size)⟩
theorem areWaters1_any (z : Int) (w : World) : Calls Try.prog 45 #[.int .i64 z] w fun e w' => e = .returned (.bool (!inB z 0 20000)) ∧ w = w' := by
  go_enter Try.func45, Try.ntmps45
  go_wp2_with (go_at_call 39; refine (isTank_any _ _).mono ?_; rintro e w' ⟨rfl, rfl⟩)
  go_ret
  exact ⟨rfl, rfl⟩
theorem tank_not (l : List Int) : l.any (fun z => !inB z 0 20000) = !tankB l := by
  unfold tankB
  induction l with
  | nil => rfl
  | cons z zs ih => rw [List.any_cons, List.all_cons, ih]; cases inB z 0 20000 <;> rfl
theorem areWaters_any {A : Option Addr} {n c B : Nat} {l : List Int} {w : World} (h : Ints w B A n l) (hn : n ≤ 1048576) :
    Calls Try.prog 24 #[.slice A n c] w fun e w' => e = .returned (.bool (watB l)) ∧ w = w' := by
  have HL := Lib.hid h.len
  have Hcf : Hid (Calls Try.prog 34 #[.slice A n c, .func (.func 45) #[] #[]] w fun e w' => e = .returned (.bool (!tankB l)) ∧ w = w') := Lib.hid (by
    have := containsFunc_any _ (Lib.hid Try.call45) (fun z => !inB z 0 20000) (Lib.hid areWaters1_any) A n c B l w h (by omega)
    rw [tank_not] at this
    exact this)
  by_cases hl : n ≤ 24
  · have Ht : Hid (watB l = tankB l) := Lib.hid (by unfold watB; rw [HL.out, decide_eq_true hl]; rfl)
    have hd : decide ((n : Int) ≤ 24) = true := decide_eq_true (by omega)
    go_enter Try.func24, Try.ntmps24
    go_wp2_with fail
    refine Hcf.out.mono ?_
    rintro e w' ⟨rfl, rfl⟩
    go_wp2_with fail
    go_ret
    exact ⟨ret_bool (by rw [Ht.out]; try simp), rfl⟩
  · have Ht : Hid (watB l = false) := Lib.hid (by unfold watB; rw [HL.out, decide_eq_false hl]; rfl)
    have hd : decide ((n : Int) ≤ 24) = false := decide_eq_false (by omega)
    go_enter Try.func24, Try.ntmps24
    go_wp2_with fail
    go_ret
    exact ⟨ret_bool (by rw [Ht.out]), rfl⟩
def StP (w : World) (o : Option (List Int)) (e : Ending) (w' : World) : Prop :=
  ∃ (A : Option Addr) (n c : Nat), e = .returned (.tuple #[.slice A n c, .bool o.isSome]) ∧ n ≤ 1048576 ∧ Own w' w.heap.size 2 1 A n c ((o.getD []).map (Value.int .i64)) ∧ Below w.heap.size w w'
set_option maxHeartbeats 4000000 in
theorem storeAfter_any {A : Option Addr} {n c B : Nat} {l : List Int} {a0 a1 a2 a3 gap : Int} {w : World} (h : Ints w B A n l) (hB : B ≤ w.heap.size) (hn : n ≤ 24) (hb : basB a0 a1 a2 a3 = true) (hg : 0 ≤ gap ∧ gap ≤ 1440) (hl : ∀ k, k < n → 0 ≤ nth l k ∧ nth l k ≤ 20000) :
    Calls Try.prog 26 #[.agg #[.int .i64 a0, .int .i64 a1, .int .i64 a2, .int .i64 a3], .slice A n c, .int .i64 gap] w (StP w (stA (a3 * gap) a2 [] l)) := by
  obtain ⟨i0, hi, hz0, hz1, hz2⟩ := info_parts info_int
  have HL := Lib.hid h.len
  have hpar := basB_parts hb
  have hmul0 : 0 ≤ a3 * gap := Int.mul_nonneg hpar.2.2.2.1 hg.1
  have hmul1 : a3 * gap ≤ 1000 * 1440 := Int.mul_le_mul hpar.2.2.2.2 hg.2 hg.1 (by omega)
  have qm : IntKind.i64.wrap (a3 * gap) = a3 * gap := IntWalk.i64_in _ (by omega)
  have hs0 := hpar.2.2.1
  have Hl := Lib.hid hl
  clear hpar hl hb
  have H := Lib.hid h
  clear h
  have pre : Below w.heap.size w (w.alloc (.cells #[.int .i64 a0, .int .i64 a1, .int .i64 a2, .int .i64 a3] 25)) := (Below.refl _ _).alloc (Nat.le_refl _) _
  have Pre := Lib.hid pre
  have HX := Lib.hid (hc_new w [.int .i64 a0, .int .i64 a1, .int .i64 a2, .int .i64 a3] 25)
  have hsz : w.heap.size < (w.alloc (.cells #[.int .i64 a0, .int .i64 a1, .int .i64 a2, .int .i64 a3] 25)).heap.size := by simp
  clear pre
  go_enter Try.func26, Try.ntmps26
  go_wp2_with fail
  generalize w.alloc (.cells #[.int .i64 a0, .int .i64 a1, .int .i64 a2, .int .i64 a3] 25) = w1 at *
  go_loopg [8, 9, 16] n (fun gk vo vs vi wr => ∃ (k : Nat) (s : Int) (A2 : Option Addr) (c2 : Nat) (acc : List Int), k ≤ n ∧ gk + k = n ∧ vi = .int .i64 (k : Int) ∧ vs = .int .i64 s ∧ vo = .slice A2 k c2 ∧ 0 ≤ s ∧ s ≤ 10000000 ∧ acc.length = k ∧
    stA (a3 * gap) s acc (l.drop k) = stA (a3 * gap) a2 [] l ∧ Own wr w1.heap.size 2 1 A2 k c2 (acc.map (Value.int .i64)) ∧ Below w1.heap.size w1 wr)
  case atStart => exact ⟨0, a2, none, 0, [], by omega, by omega, rfl, rfl, rfl, hs0.1, hs0.2, rfl, by simp, Own.nil _ _ _ _, Below.refl _ _⟩
  case round =>
    obtain ⟨k, s, A2, c2, acc, hk, hgk, rfl, rfl, rfl, hs1, hs2, hacc, hst, ho, hbw⟩ := hrel
    have Hgk := Lib.hid hgk
    have Hst := Lib.hid hst
    have Hacc := Lib.hid hacc
    have Ho := Lib.hid ho
    have HB := Lib.hid hbw
    have hbs : w1.heap.size ≤ wr.heap.size := hbw.size
    clear hgk hst hacc ho hbw
    by_cases hlt : k < n
    · obtain ⟨ad, rfl, hbl, hcm⟩ := Ints.at_ (Reads.below H.out (Pre.out.trans (HB.out.mono (by omega))) hB) hlt
      have hx := Hl.out k hlt
      have HS := Lib.hid (stA_step (sg := a3 * gap) (s := s) (acc := acc) (l := l) (k := k) (by rw [HL.out]; exact hlt))
      generalize nth l k = x at *
      have hk0 : (0 : Int) ≤ (k : Int) := by omega
      have hk1 : (k : Int) < (n : Int) := by omega
      have qk : IntKind.i64.wrap ((k : Int) + 1) = (k : Int) + 1 := IntWalk.i64_in _ (by omega)
      have hx3 : wr.cell? ⟨w.heap.size, 3, none⟩ = some (.int .i64 a3) := (HX.out.below HB.out HX.out.lt).at_ 3 _ rfl
      by_cases hsx : s < x
      · have d1 : decide (s < x) = true := decide_eq_true hsx
        have HF : Hid (stA (a3 * gap) a2 [] l = none) := Lib.hid (by rw [← Hst.out, HS.out, if_pos hsx])
        have HR : Hid (StP w (stA (a3 * gap) a2 [] l) (.returned (.tuple #[.slice none 0 0, .bool false])) wr) := Lib.hid (by
          rw [HF.out]
          exact ⟨none, 0, 0, rfl, by omega, Own.nil _ _ _ _, Pre.out.trans (HB.out.mono (by omega))⟩)
        clear hsx
        go_wp2_with fail
        exact bodyPost_ret (v := .tuple #[.slice none 0 0, .bool false]) (by simp [results, Try.results26, go_sem]) rfl HR.out
      · have d1 : decide (s < x) = false := decide_eq_false hsx
        have HS2 : Hid (stA (a3 * gap) (stN (a3 * gap) s x) (acc ++ [stN (a3 * gap) s x]) (l.drop (k + 1)) = stA (a3 * gap) a2 [] l) := Lib.hid (by rw [← Hst.out, HS.out, if_neg hsx])
        have q1 : IntKind.i64.wrap (s - x) = s - x := IntWalk.i64_in _ (by omega)
        have q2 : IntKind.i64.wrap (s - x + a3 * gap) = s - x + a3 * gap := IntWalk.i64_in _ (by omega)
        rcases (show (stN (a3 * gap) s x = s - x + a3 * gap ∧ s - x + a3 * gap < 10000000) ∨ (stN (a3 * gap) s x = 10000000 ∧ ¬ s - x + a3 * gap < 10000000) by
          by_cases hm : s - x + a3 * gap < 10000000
          · exact .inl ⟨by unfold stN; rw [if_pos hm], hm⟩
          · exact .inr ⟨by unfold stN; rw [if_neg hm], hm⟩) with ⟨e1, hm⟩ | ⟨e1, hm⟩
        all_goals
          have E1 := Lib.hid e1
          clear e1
          go_wp2_with (at_builtin; refine wpList_app rfl _ _ 26 rfl 2 i0 _ 1 8 Try.underlying26 hi hz0 hz1 hz2 rfl (by omega) (by omega) w1.heap.size _ _ _ _ rfl (Ho.out.alloc _) ⟨wr.heap.size, 0, none⟩ 1 1 _ rfl rfl (cell_one_new _ _ _) (by simp [Value.oneCell']) (by omega) (by simp; omega) ?_)
          intro A3 c3 w5 ho3 hgA hbA hat
          have ho4 : Own w5 w1.heap.size 2 1 A3 (k + 1) c3 ((acc ++ [stN (a3 * gap) s x]).map (Value.int .i64)) := by rw [List.map_append, E1.out]; exact ho3
          have hb5 : Below w1.heap.size w1 w5 := (HB.out.alloc (by omega) _).trans hbA
          clear ho3 hgA hbA hat
          go_wp2_with fail
          have hgk := Hgk.out
          have hin := stN_in (sg := a3 * gap) hmul0 hx.1 hs2 (by omega : ¬ s < x)
          rw [← E1.out]
          go_roundg (gk - 1)
          case rel => exact ⟨k + 1, stN (a3 * gap) s x, A3, c3, acc ++ [stN (a3 * gap) s x], by omega, by omega, by go_num, rfl, rfl, hin.1, hin.2, by simp [Hacc.out], HS2.out, ho4, hb5⟩
          case measure => omega
    · have HF : Hid (stA (a3 * gap) a2 [] l = some acc) := Lib.hid (by rw [← Hst.out]; exact stA_end (by rw [HL.out]; omega))
      have HR : Hid (StP w (stA (a3 * gap) a2 [] l) (.returned (.tuple #[.slice A2 k c2, .bool true])) wr) := Lib.hid (by
        rw [HF.out]
        exact ⟨A2, k, c2, rfl, by omega, Ho.out.mono (by omega), Pre.out.trans (HB.out.mono (by omega))⟩)
      have hk1 : ¬ (k : Int) < (n : Int) := by omega
      clear Ho
      go_wp2_with fail
      exact bodyPost_ret (v := .tuple #[.slice A2 k c2, .bool true]) (by simp [results, Try.results26, go_sem]) rfl HR.out

def SAP (w : World) (r : List Int × Int) (e : Ending) (w' : World) : Prop :=
  ∃ (A : Option Addr) (n c : Nat), e = .returned (.tuple #[.slice A n c, .int .i64 r.2]) ∧ n ≤ 1048576 ∧ Own w' w.heap.size 2 1 A n c (r.1.map (Value.int .i64)) ∧ Below w.heap.size w w'
theorem sap_nil {w w' : World} {r : List Int × Int} {x : Int} (h : r = ([], x)) (b : Below w.heap.size w w') : SAP w r (.returned (.tuple #[.slice none 0 0, .int .i64 x])) w' := by
  rw [h]; exact ⟨none, 0, 0, rfl, by omega, Own.nil _ _ _ _, b⟩
set_option maxHeartbeats 4000000 in
theorem implStoreAfter_any {A : Option Addr} {n c B : Nat} {l : List Int} {a0 a1 a2 a3 gap : Int} {w : World} (h : Ints w B A n l) (hB : B ≤ w.heap.size) (hn : n ≤ 1048576) :
    Calls Try.prog 6 #[.agg #[.int .i64 a0, .int .i64 a1, .int .i64 a2, .int .i64 a3], .slice A n c, .int .i64 gap] w (SAP w (rStoreAfter a0 a1 a2 a3 l gap)) := by
  have HL := Lib.hid h.len
  have H := Lib.hid h
  clear h
  have pre : Below w.heap.size w (w.alloc (.cells #[.int .i64 a0, .int .i64 a1, .int .i64 a2, .int .i64 a3] 25)) := (Below.refl _ _).alloc (Nat.le_refl _) _
  have Pre := Lib.hid pre
  have HX := Lib.hid (hc_new w [.int .i64 a0, .int .i64 a1, .int .i64 a2, .int .i64 a3] 25)
  have hsz : w.heap.size < (w.alloc (.cells #[.int .i64 a0, .int .i64 a1, .int .i64 a2, .int .i64 a3] 25)).heap.size := by simp
  clear pre
  have Hwt : Hid (∀ w1 : World, Below w.heap.size w w1 → Calls Try.prog 24 #[.slice A n c] w1 fun e w' => e = .returned (.bool (watB l)) ∧ w1 = w') := Lib.hid (fun w1 b => areWaters_any (Reads.below H.out b hB) hn)
  cases hwat : watB l
  all_goals
    rw [hwat] at Hwt
    have HW := Lib.hid hwat
    cases hgp : inB gap 0 1440
    all_goals
      have HG := Lib.hid hgp
      cases hbas : basB a0 a1 a2 a3
      all_goals
        have HBs := Lib.hid hbas
        clear hbas hgp hwat
        go_enter Try.func6, Try.ntmps6
        go_wp2_with fail
        generalize w.alloc (.cells #[.int .i64 a0, .int .i64 a1, .int .i64 a2, .int .i64 a3] 25) = W1 at *
        have x0 := cell_regrown (HX.out.at_ 0 _ rfl)
        have x1 := cell_regrown (HX.out.at_ 1 _ rfl)
        have x2 := cell_regrown (HX.out.at_ 2 _ rfl)
        have x3 := cell_regrown (HX.out.at_ 3 _ rfl)
        have cW := fun d os => Calls.regrown_of (calls_below (Hwt.out _ (Pre.out.trans ((below_regrown W1 d os).mono (by omega)))))
        have cG : ∀ d os, Calls Try.prog 25 #[.int .i64 gap] (Sort.grow (redrawn W1 d) os) fun e w'' => e = .returned (.bool (inB gap 0 1440)) ∧ ∃ p : Regrown, w'' = Sort.grow (redrawn W1 p.d) p.os := fun d os => Calls.regrown_of (calls_below (isDayMinute_any _ _))
        have cB : ∀ (fine : Bool) d os, Calls Try.prog 23 #[.agg #[.int .i64 a0, .int .i64 a1, .int .i64 a2, .int .i64 a3], .bool fine] (Sort.grow (redrawn W1 d) os) fun e w'' => e = .returned (.int .i64 (basC (basB a0 a1 a2 a3) fine)) ∧ ∃ p : Regrown, w'' = Sort.grow (redrawn W1 p.d) p.os := fun fine d os => Calls.regrown_of basined_any
        rw [HG.out] at cG
        rw [HBs.out] at cB
        refine wp_region_quiet_below (by kernel_rfl) (by kernel_rfl) ?_
        repeat (go_big_quiet_step (first | exact cW _ _ | exact cG _ _ | exact cB _ _ _))
        refine wpQuiet_nil ?_
        intro _ hw'
        obtain ⟨⟨dq, osq⟩, hw''⟩ := hw'
        subst hw''
        have hbS := below_regrown W1 dq osq
        have H2 := Lib.hid (HX.out.below hbS HX.out.lt)
        have Tot := Lib.hid (Pre.out.trans (hbS.mono (by omega)))
        have hs2 := hbS.size
        clear cW cG cB x0 x1 x2 x3 hbS HX
        generalize Sort.grow (redrawn W1 dq) osq = W2 at *
        simp only [basC, Bool.false_eq_true, ↓reduceIte]
        first
          | (have HR : Hid (SAP w (rStoreAfter a0 a1 a2 a3 l gap) (.returned (.tuple #[.slice none 0 0, .int .i64 1])) W2) := Lib.hid (sap_nil (rSA_inv HBs.out) Tot.out)
             clear H2 Hwt
             go_wp2_with fail
             exact bodyPost_ret (v := .tuple #[.slice none 0 0, .int .i64 1]) (by simp [results, Try.results6, go_sem]) rfl HR.out)
          | (have HR : Hid (SAP w (rStoreAfter a0 a1 a2 a3 l gap) (.returned (.tuple #[.slice none 0 0, .int .i64 2])) W2) := Lib.hid (sap_nil (rSA_range HBs.out (by rw [HW.out, HG.out]; rfl)) Tot.out)
             clear H2 Hwt
             go_wp2_with fail
             exact bodyPost_ret (v := .tuple #[.slice none 0 0, .int .i64 2]) (by simp [results, Try.results6, go_sem]) rfl HR.out)
          | (have y0 : W2.cell? ⟨w.heap.size, 0, none⟩ = some (.int .i64 a0) := H2.out.at_ 0 _ rfl
             have y1 : W2.cell? ⟨w.heap.size, 1, none⟩ = some (.int .i64 a1) := H2.out.at_ 1 _ rfl
             have y2 : W2.cell? ⟨w.heap.size, 2, none⟩ = some (.int .i64 a2) := H2.out.at_ 2 _ rfl
             have y3 : W2.cell? ⟨w.heap.size, 3, none⟩ = some (.int .i64 a3) := H2.out.at_ 3 _ rfl
             have HS := Lib.hid (watB_at HW.out)
             have hg := inB_true.1 HG.out
             have hn24 : n ≤ 24 := by have := HS.out.1; rw [HL.out] at this; exact this
             clear H2 Hwt
             go_wp2_with fail
             refine (storeAfter_any (Reads.below H.out Tot.out hB) (by omega) hn24 HBs.out hg (by have := HS.out.2; rw [HL.out] at this; exact this)).mono ?_
             rintro e w3 ⟨A3, n3, c3, rfl, hn3, o3, b3⟩
             have hfin := Tot.out.trans (b3.mono (by omega))
             have hws : w.heap.size ≤ W2.heap.size := Tot.out.size
             cases hst : stA (a3 * gap) a2 [] l with
             | none =>
               have HR : Hid (SAP w (rStoreAfter a0 a1 a2 a3 l gap) (.returned (.tuple #[.slice none 0 0, .int .i64 6])) w3) := Lib.hid (sap_nil (rSA_none HBs.out (by rw [HW.out, HG.out]; rfl) hst) hfin)
               clear o3 b3 hst
               go_wp2_with fail
               exact bodyPost_ret (v := .tuple #[.slice none 0 0, .int .i64 6]) (by simp [results, Try.results6, go_sem]) rfl HR.out
             | some o =>
               have HR : Hid (SAP w (rStoreAfter a0 a1 a2 a3 l gap) (.returned (.tuple #[.slice A3 n3 c3, .int .i64 0])) w3) := Lib.hid (by
                 rw [rSA_some HBs.out (by rw [HW.out, HG.out]; rfl) hst]
                 rw [hst] at o3
                 exact ⟨A3, n3, c3, rfl, hn3, o3.mono hws, hfin⟩)
               clear o3 b3 hst
               go_wp2_with fail
               exact bodyPost_ret (v := .tuple #[.slice A3 n3 c3, .int .i64 0]) (by simp [results, Try.results6, go_sem]) rfl HR.out)
theorem l16Waters_any {A : Option Addr} {n c B : Nat} {l : List Int} {w : World} (h : Ints w B A n l) (hn : n ≤ 1048576) :
    Calls Try.prog 28 #[.slice A n c] w fun e w' => e = .returned (.bool (watB l)) ∧ w = w' := by
  have HL := Lib.hid h.len
  go_enter Try.func28, Try.ntmps28
  go_wp2_with fail
  go_loopg [3] n (fun gk vk wr => ∃ k : Nat, k ≤ n ∧ gk + k = n ∧ vk = .int .i64 k ∧ (l.take k).all (fun x => inB x 0 20000) = true ∧ w = wr)
  case atStart => exact ⟨0, by omega, by omega, rfl, rfl, rfl⟩
  case round =>
    obtain ⟨k, hk, hgk, rfl, hall, rfl⟩ := hrel
    have Hgk := Lib.hid hgk
    have Hall := Lib.hid hall
    clear hgk hall
    have hqk : IntKind.i64.wrap ((k : Int) + 1) = (k : Int) + 1 := IntWalk.i64_in _ (by omega)
    by_cases hlt : k < n
    · obtain ⟨ad, rfl, hbl, hcm⟩ := h.at_ hlt
      have hk0 : (0 : Int) ≤ (k : Int) := by omega
      have hk1 : (k : Int) < (n : Int) := by omega
      cases hv : inB (nth l k) 0 20000 with
      | false =>
        have Hr : Hid (watB l = false) := Lib.hid (by
          have : tankB l = false := all_false_nth (by rw [HL.out]; exact hlt) hv
          unfold watB; rw [this]; simp)
        have Hv := Lib.hid hv
        clear hv
        go_wp2_with fail
        refine (l16Litres_any _ _).mono ?_; rintro e w' ⟨rfl, rfl⟩; rw [Hv.out]
        go_wp2_with fail
        go_ret
        exact ⟨ret_bool (by rw [Hr.out]), rfl⟩
      | true =>
        have Ha : Hid ((l.take (k + 1)).all (fun x => inB x 0 20000) = true) := Lib.hid (by rw [all_take_succ (by rw [HL.out]; exact hlt), Hall.out, hv]; rfl)
        have Hv := Lib.hid hv
        clear hv
        go_wp2_with fail
        refine (l16Litres_any _ _).mono ?_; rintro e w' ⟨rfl, rfl⟩; rw [Hv.out]
        go_wp2_with fail
        have hgk := Hgk.out
        go_roundg (gk - 1)
        case rel => exact ⟨k + 1, by omega, by omega, by go_num, Ha.out, rfl⟩
        case measure => omega
    · have hkn : k = n := by omega
      have hm : tankB l = true := by have := Hall.out; rw [List.take_of_length_le (by rw [HL.out]; omega)] at this; exact this
      have hdk : ¬ (k : Int) < (n : Int) := by omega
      have Hr : Hid (watB l = decide ((n : Int) ≤ 24)) := Lib.hid (by unfold watB; rw [hm, HL.out, Bool.and_true]; exact decide_eq_decide.2 (by omega))
      clear hm
      go_wp2_with fail
      go_ret
      exact ⟨ret_bool (by rw [Hr.out]), rfl⟩
end Go.Proofs.Ytdighpgfepooaaa
