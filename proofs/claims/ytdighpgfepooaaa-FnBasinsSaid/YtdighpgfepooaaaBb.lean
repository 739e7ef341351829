/- Ballast: the reference's stores after trips; the program's least gap, its trips until the store is dry. -/
import Derived.Test.YtdighpgfepooaaaBa
namespace Go.Proofs.Ytdighpgfepooaaa
open Go.RowKit
set_option maxRecDepth 100000
set_option linter.unusedVariables false
set_option linter.unusedSimpArgs false

theorem stN_min (sg s x : Int) : stN sg s x = min 10000000 (s - x + sg) := by unfold stN; split <;> omega
set_option maxHeartbeats 4000000 in
theorem l16Stores_any {A : Option Addr} {n c B b : Nat} {l : List Int} {a0 a1 a2 a3 gap : Int} {w : World} (h : Ints w B A n l) (hB : B ≤ w.heap.size) (hx : HC w b [.int .i64 a0, .int .i64 a1, .int .i64 a2, .int .i64 a3]) (hn : n ≤ 24) (hb : basB a0 a1 a2 a3 = true) (hg : 0 ≤ gap ∧ gap ≤ 1440) (hl : ∀ k, k < n → 0 ≤ nth l k ∧ nth l k ≤ 20000) :
    Calls Try.prog 30 #[.pointer (some ⟨b, 0, none⟩), .slice A n c, .int .i64 gap] w (StP w (stA (a3 * gap) a2 [] l)) := by
  obtain ⟨i0, hi, hz0, hz1, hz2⟩ := info_parts info_int
  have HL := Lib.hid h.len
  have hpar := basB_parts hb
  have hmul0 : 0 ≤ a3 * gap := Int.mul_nonneg hpar.2.2.2.1 hg.1
  have hmul1 : a3 * gap ≤ 1000 * 1440 := Int.mul_le_mul hpar.2.2.2.2 hg.2 hg.1 (by omega)
  have qm : IntKind.i64.wrap (a3 * gap) = a3 * gap := IntWalk.i64_in _ (by omega)
  have hs0 := hpar.2.2.1
  have Hl := Lib.hid hl
  clear hpar hl hb
  have H := Lib.hid h
  have HX := Lib.hid hx
  have hlt0 := hx.lt
  have y2 : w.cell? ⟨b, 2, none⟩ = some (.int .i64 a2) := hx.at_ 2 _ rfl
  clear h hx
  have O1 := Lib.hid (Own.empty w w.heap.size 2 1 (Nat.le_refl _))
  have pre : Below w.heap.size w (w.alloc (.cells #[] 2)) := (Below.refl _ _).alloc (Nat.le_refl _) _
  have Pre := Lib.hid pre
  have y2' : (w.alloc (.cells #[] 2)).cell? ⟨b, 2, none⟩ = some (.int .i64 a2) := by rw [World.cell?_alloc_lt _ _ _ (by simpa using hlt0)]; exact y2
  clear pre
  go_enter Try.func30, Try.ntmps30
  go_wp2_with fail
  clear y2 y2'
  generalize w.alloc (.cells #[] 2) = w1 at *
  go_loopg [8, 9, 10] n (fun gk vo vs vi wr => ∃ (k : Nat) (s : Int) (A2 : Option Addr) (c2 : Nat) (acc : List Int), k ≤ n ∧ gk + k = n ∧ vi = .int .i64 (k : Int) ∧ vs = .int .i64 s ∧ vo = .slice A2 k c2 ∧ 0 ≤ s ∧ s ≤ 10000000 ∧ acc.length = k ∧
    stA (a3 * gap) s acc (l.drop k) = stA (a3 * gap) a2 [] l ∧ Own wr w.heap.size 2 1 A2 k c2 (acc.map (Value.int .i64)) ∧ Below w.heap.size w wr)
  case atStart => exact ⟨0, a2, _, _, [], by omega, by omega, rfl, rfl, rfl, hs0.1, hs0.2, rfl, by simp, O1.out, Pre.out⟩
  case round =>
    obtain ⟨k, s, A2, c2, acc, hk, hgk, rfl, rfl, rfl, hs1, hs2, hacc, hst, ho, hbw⟩ := hrel
    have Hgk := Lib.hid hgk
    have Hst := Lib.hid hst
    have Hacc := Lib.hid hacc
    have Ho := Lib.hid ho
    have HB := Lib.hid hbw
    have hbs : w.heap.size ≤ wr.heap.size := hbw.size
    clear hgk hst hacc ho hbw
    by_cases hlt : k < n
    · obtain ⟨ad, rfl, hbl, hcm⟩ := Ints.at_ (Reads.below H.out HB.out hB) hlt
      have hx := Hl.out k hlt
      have HS := Lib.hid (stA_step (sg := a3 * gap) (s := s) (acc := acc) (l := l) (k := k) (by rw [HL.out]; exact hlt))
      generalize nth l k = x at *
      have hk0 : (0 : Int) ≤ (k : Int) := by omega
      have hk1 : (k : Int) < (n : Int) := by omega
      have qk : IntKind.i64.wrap ((k : Int) + 1) = (k : Int) + 1 := IntWalk.i64_in _ (by omega)
      have hx3 : wr.cell? ⟨b, 3, none⟩ = some (.int .i64 a3) := (HX.out.below HB.out hlt0).at_ 3 _ rfl
      by_cases hsx : s < x
      · have d1 : decide (s < x) = true := decide_eq_true hsx
        have HF : Hid (stA (a3 * gap) a2 [] l = none) := Lib.hid (by rw [← Hst.out, HS.out, if_pos hsx])
        have HR : Hid (StP w (stA (a3 * gap) a2 [] l) (.returned (.tuple #[.slice none 0 0, .bool false])) wr) := Lib.hid (by
          rw [HF.out]
          exact ⟨none, 0, 0, rfl, by omega, Own.nil _ _ _ _, HB.out⟩)
        clear hsx
        go_wp2_with fail
        exact bodyPost_ret (v := .tuple #[.slice none 0 0, .bool false]) (by simp [results, Try.results30, go_sem]) rfl HR.out
      · have d1 : decide (s < x) = false := decide_eq_false hsx
        have HS2 : Hid (stA (a3 * gap) (stN (a3 * gap) s x) (acc ++ [stN (a3 * gap) s x]) (l.drop (k + 1)) = stA (a3 * gap) a2 [] l) := Lib.hid (by rw [← Hst.out, HS.out, if_neg hsx])
        have q1 : IntKind.i64.wrap (s - x) = s - x := IntWalk.i64_in _ (by omega)
        have q2 : IntKind.i64.wrap (s - x + a3 * gap) = s - x + a3 * gap := IntWalk.i64_in _ (by omega)
        have HN := Lib.hid (stN_min (a3 * gap) s x)
        have hin := stN_in (sg := a3 * gap) hmul0 hx.1 hs2 hsx
        go_wp2_with fail
        go_quiet ((go_at_call 48; exact quiet_left (l00Min_any _ _ _)))
        rw [← HN.out]
        have HBn : Hid (Below w.heap.size w (wr.drewN nq)) := Lib.hid (below_drewN HB.out _)
        have HOn : Hid (Own (wr.drewN nq) w.heap.size 2 1 A2 k c2 (acc.map (Value.int .i64))) := Lib.hid (own_drewN Ho.out _)
        have hbn : w.heap.size ≤ (wr.drewN nq).heap.size := HBn.out.size
        clear Ho HB hx3 hcm
        generalize wr.drewN nq = w2 at *
        go_wp2_with (at_builtin; refine wpList_app rfl _ _ 26 rfl 2 i0 _ 1 8 Try.underlying26 hi hz0 hz1 hz2 rfl (by omega) (by omega) w.heap.size _ _ _ _ rfl (HOn.out.alloc _) ⟨w2.heap.size, 0, none⟩ 1 1 _ rfl rfl (cell_one_new _ _ _) (by simp [Value.oneCell']) (by omega) (by simp; omega) ?_)
        intro A3 c3 w5 ho3 hgA hbA hat
        have ho4 : Own w5 w.heap.size 2 1 A3 (k + 1) c3 ((acc ++ [stN (a3 * gap) s x]).map (Value.int .i64)) := by rw [List.map_append]; exact ho3
        have hb5 : Below w.heap.size w w5 := (HBn.out.alloc hbn _).trans hbA
        clear ho3 hgA hbA hat
        go_wp2_with fail
        have hgk := Hgk.out
        go_roundg (gk - 1)
        case rel => exact ⟨k + 1, stN (a3 * gap) s x, A3, c3, acc ++ [stN (a3 * gap) s x], by omega, by omega, by go_num, rfl, rfl, hin.1, hin.2, by simp [Hacc.out], HS2.out, ho4, hb5⟩
        case measure => omega
    · have HF : Hid (stA (a3 * gap) a2 [] l = some acc) := Lib.hid (by rw [← Hst.out]; exact stA_end (by rw [HL.out]; omega))
      have HR : Hid (StP w (stA (a3 * gap) a2 [] l) (.returned (.tuple #[.slice A2 k c2, .bool true])) wr) := Lib.hid (by
        rw [HF.out]
        exact ⟨A2, k, c2, rfl, by omega, Ho.out, HB.out⟩)
      have hk1 : ¬ (k : Int) < (n : Int) := by omega
      clear Ho
      go_wp2_with fail
      exact bodyPost_ret (v := .tuple #[.slice A2 k c2, .bool true]) (by simp [results, Try.results30, go_sem]) rfl HR.out
set_option maxHeartbeats 4000000 in
theorem specStoreAfter_any {A : Option Addr} {n c B : Nat} {l : List Int} {a0 a1 a2 a3 gap : Int} {w : World} (h : Ints w B A n l) (hB : B ≤ w.heap.size) (hn : n ≤ 1048576) :
    Calls Try.prog 9 #[.agg #[.int .i64 a0, .int .i64 a1, .int .i64 a2, .int .i64 a3], .slice A n c, .int .i64 gap] w (SAP w (rStoreAfter a0 a1 a2 a3 l gap)) := by
  have HL := Lib.hid h.len
  have H := Lib.hid h
  clear h
  have pre : Below w.heap.size w (w.alloc (.cells #[.int .i64 a0, .int .i64 a1, .int .i64 a2, .int .i64 a3] 25)) := (Below.refl _ _).alloc (Nat.le_refl _) _
  have Pre := Lib.hid pre
  have HX := Lib.hid (hc_new w [.int .i64 a0, .int .i64 a1, .int .i64 a2, .int .i64 a3] 25)
  have hsz : w.heap.size < (w.alloc (.cells #[.int .i64 a0, .int .i64 a1, .int .i64 a2, .int .i64 a3] 25)).heap.size := by simp
  clear pre
  cases hbas : basB a0 a1 a2 a3 with
  | false =>
    have HBs := Lib.hid hbas
    clear hbas
    go_enter Try.func9, Try.ntmps9
    go_wp2_with fail
    generalize w.alloc (.cells #[.int .i64 a0, .int .i64 a1, .int .i64 a2, .int .i64 a3] 25) = W1 at *
    refine (l16Ok_any (HX.out.at_ 0 _ rfl) (HX.out.at_ 1 _ rfl) (HX.out.at_ 2 _ rfl) (HX.out.at_ 3 _ rfl)).mono ?_
    rintro e w' ⟨rfl, rfl⟩
    rw [HBs.out]
    have HR : Hid (SAP w (rStoreAfter a0 a1 a2 a3 l gap) (.returned (.tuple #[.slice none 0 0, .int .i64 1])) W1) := Lib.hid (sap_nil (rSA_inv HBs.out) Pre.out)
    go_wp2_with fail
    exact bodyPost_ret (v := .tuple #[.slice none 0 0, .int .i64 1]) (by simp [results, Try.results9, go_sem]) rfl HR.out
  | true =>
  have HBs := Lib.hid hbas
  clear hbas
  cases hwat : watB l
  all_goals
    have HW := Lib.hid hwat
    cases hgp : inB gap 0 1440
    all_goals
      have HG := Lib.hid hgp
      clear hgp hwat
      go_enter Try.func9, Try.ntmps9
      go_wp2_with fail
      generalize w.alloc (.cells #[.int .i64 a0, .int .i64 a1, .int .i64 a2, .int .i64 a3] 25) = W1 at *
      refine (l16Ok_any (HX.out.at_ 0 _ rfl) (HX.out.at_ 1 _ rfl) (HX.out.at_ 2 _ rfl) (HX.out.at_ 3 _ rfl)).mono ?_
      rintro e w' ⟨rfl, rfl⟩
      rw [HBs.out]
      go_wp2_with fail
      refine (l16Waters_any (Reads.below H.out Pre.out hB) hn).mono ?_
      rintro e w' ⟨rfl, rfl⟩
      rw [HW.out]
      go_wp2_with (go_at_call 29; refine (l16Gap_any _ _).mono ?_; rintro e w' ⟨rfl, rfl⟩; rw [HG.out])
      first
        | (have HR : Hid (SAP w (rStoreAfter a0 a1 a2 a3 l gap) (.returned (.tuple #[.slice none 0 0, .int .i64 2])) W1) := Lib.hid (sap_nil (rSA_range HBs.out (by rw [HW.out, HG.out]; rfl)) Pre.out)
           exact bodyPost_ret (v := .tuple #[.slice none 0 0, .int .i64 2]) (by simp [results, Try.results9, go_sem]) rfl HR.out)
        | (have HS := Lib.hid (watB_at HW.out)
           have hg := inB_true.1 HG.out
           have hn24 : n ≤ 24 := by have := HS.out.1; rw [HL.out] at this; exact this
           refine (l16Stores_any (Reads.below H.out Pre.out hB) (by omega) HX.out hn24 HBs.out hg (by have := HS.out.2; rw [HL.out] at this; exact this)).mono ?_
           rintro e w3 ⟨A3, n3, c3, rfl, hn3, o3, b3⟩
           have hfin := Pre.out.trans (b3.mono (by omega))
           cases hst : stA (a3 * gap) a2 [] l with
           | none =>
             have HR : Hid (SAP w (rStoreAfter a0 a1 a2 a3 l gap) (.returned (.tuple #[.slice none 0 0, .int .i64 6])) w3) := Lib.hid (sap_nil (rSA_none HBs.out (by rw [HW.out, HG.out]; rfl) hst) hfin)
             clear o3 b3 hst
             go_wp2_with fail
             exact bodyPost_ret (v := .tuple #[.slice none 0 0, .int .i64 6]) (by simp [results, Try.results9, go_sem]) rfl HR.out
           | some o =>
             have HR : Hid (SAP w (rStoreAfter a0 a1 a2 a3 l gap) (.returned (.tuple #[.slice A3 n3 c3, .int .i64 0])) w3) := Lib.hid (by
               rw [rSA_some HBs.out (by rw [HW.out, HG.out]; rfl) hst]
               rw [hst] at o3
               exact ⟨A3, n3, c3, rfl, hn3, o3.mono (by omega), hfin⟩)
             clear o3 b3 hst
             go_wp2_with fail
             exact bodyPost_ret (v := .tuple #[.slice A3 n3 c3, .int .i64 0]) (by simp [results, Try.results9, go_sem]) rfl HR.out)
end Go.Proofs.Ytdighpgfepooaaa
