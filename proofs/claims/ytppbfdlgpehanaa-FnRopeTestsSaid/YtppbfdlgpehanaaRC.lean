/- Rope tests: CutOut: contracts of both sides. -/
import Derived.Test.YtppbfdlgpehanaaRB
import Derived.Test.YtppbfdlgpehanaaC
import Derived.Deep.RegionHeld3
namespace Go.Proofs.Ytppbfdlgpehanaa
open Go.RowKit
set_option maxRecDepth 100000
set_option linter.unusedVariables false

/-- slices.Grow of the nil slice: room, and nothing in it. -/
theorem grow_int_any {n : Nat} {w : World} (hn : n ≤ 1099511627776) :
    Calls Try.prog 37 #[.slice none 0 0, .int .i64 n] w fun e w' => ∃ A' c', e = .returned (.slice A' 0 c') ∧ Own w' w.heap.size 2 1 A' 0 c' [] ∧ Below w.heap.size w w' := by
  obtain ⟨i0, hi, hz0, hz1, hz2⟩ := info_parts info_int
  by_cases h0 : n = 0
  · subst h0
    go_enter Try.func37, Try.ntmps37
    go_wp2_with fail
    go_ret
    exact ⟨none, 0, rfl, Own.nil _ _ _ _, Below.refl _ _⟩
  · have hq : IntKind.i64.wrap ((n : Int) - 0) = n := IntWalk.i64_in _ (by omega)
    have hr : ∀ (w : World), (Builtin.append_ #[26, 3] 26 #[.slice none 0 0, .int .i64 n]).run Try.prog w = .ok (.slice (some ⟨w.heap.size, 0, none⟩) n (grownCap w n 0 2)) (w.drew.alloc (.cells (Builtin.zeroCells (Value.int .i64 0).cells n ++ Builtin.zeroCells (Value.int .i64 0).cells (grownCap w n 0 2 - n)) 2)) := fun w =>
      Lib.run_append_nil_zeros (P := Try.prog) w 26 3 26 2 i0 _ .i64 .i64 Try.underlying26 Try.underlying3 hi hz0 n (by omega) (by omega) (by omega) (by rw [hz2]; omega)
    have hge := grownCap_ge w n 0 2
    have hcm : grownCap w n 0 2 ≤ maxLen := grownCap_le_maxLen w n 0 2 (by unfold maxLen; omega)
    go_enter Try.func37, Try.ntmps37
    go_wp2_with (at_builtin; refine Lib.wpList_append_run _ rfl _ _ _ _ rfl _ _ rfl rfl _ _ (hr _) ?_)
    generalize grownCap w n 0 2 = cap at hge hcm ⊢
    go_wp2_with fail
    go_ret
    exact ⟨_, cap, rfl, World.ownsRow_made w _ cap (Nat.le_refl _) hcm (by simp [Builtin.zeroCells]; omega), ((Below.refl _ _).alloc (Nat.le_refl _) _).drew⟩

theorem concat_int_any {A A' : Option Addr} {n n' c c' B b cc : Nat} {z z' : List Int} {w : World} (h : Ints w B A n z) (h' : Ints w B A' n' z') (hB : B ≤ w.heap.size) (hn : n ≤ 1048576) (hn' : n' ≤ 1048576)
    (hb : b < w.heap.size) (g0 : w.cell? ⟨b, 0, none⟩ = some (.slice A n c)) (g1 : w.cell? ⟨b, 1, none⟩ = some (.slice A' n' c')) :
    Calls Try.prog 26 #[.slice (some ⟨b, 0, none⟩) 2 cc] w fun e w' => ∃ A2 c2, e = .returned (.slice A2 (n + n') c2) ∧ Own w' w.heap.size 2 1 A2 (n + n') c2 ((z ++ z').map (Value.int .i64)) ∧ Below w.heap.size w w' := by
  obtain ⟨i0, hi, hz0, hz1, hz2⟩ := info_parts info_int
  go_enter Try.func26, Try.ntmps26
  go_wp2_with fail
  go_loopg [3, 11] 2 (fun gk s i wr => ∃ k : Nat, k ≤ 2 ∧ gk + k = 2 ∧ i = .int .i64 k ∧ s = .int .i64 (if k = 0 then 0 else if k = 1 then n else n + n' : Nat) ∧ w = wr)
  case atStart => exact ⟨0, by omega, rfl, rfl, rfl, rfl⟩
  case round =>
    obtain ⟨k, hk, hgk, rfl, rfl, rfl⟩ := hrel
    have h3 : k = 0 ∨ k = 1 ∨ k = 2 := by omega
    rcases h3 with rfl | rfl | rfl
    · go_wp2_with fail
      go_roundg 1
      case rel => exact ⟨1, by omega, by omega, by go_num, by simp, rfl⟩
      case measure => omega
    · go_wp2_with fail
      go_roundg 0
      case rel => exact ⟨2, by omega, by omega, by go_num, by simp, rfl⟩
      case measure => omega
    · go_wp2_with fail
      refine (grow_int_any (n := n + n') (by omega)).mono ?_
      rintro e w1 ⟨A1, c1, rfl, ho, hb1⟩
      have hbs := hb1.size
      go_wp2_with fail
      have hr0 := h.below hb1 hB
      have hr0' := h'.below hb1 hB
      replace g0 := (hb1.cell (p := ⟨b, 0, none⟩) hb).trans g0
      replace g1 := (hb1.cell (p := ⟨b, 1, none⟩) hb).trans g1
      go_loopg [6, 27] 2 (fun gk v i wr => ∃ (k : Nat) (A2 : Option Addr) (c2 : Nat), k ≤ 2 ∧ gk + k = 2 ∧ i = .int .i64 k ∧ v = .slice A2 (if k = 0 then 0 else if k = 1 then n else n + n' : Nat) c2 ∧
        Own wr w.heap.size 2 1 A2 (if k = 0 then 0 else if k = 1 then n else n + n' : Nat) c2 ((if k = 0 then [] else if k = 1 then z else z ++ z').map (Value.int .i64)) ∧ Below w.heap.size w wr)
      case atStart => exact ⟨0, A1, c1, by omega, rfl, rfl, rfl, ho, hb1⟩
      case round =>
        obtain ⟨k, A2, c2, hk, hgk, rfl, rfl, ho, hbw⟩ := hrel
        have hbs := hbw.size
        have f0 : wr.cell? ⟨b, 0, none⟩ = some (.slice A n c) := by have := (hbw.cell (p := ⟨b, 0, none⟩) hb).trans (((hb1.cell (p := ⟨b, 0, none⟩) hb)).symm.trans g0); exact this
        have f1 : wr.cell? ⟨b, 1, none⟩ = some (.slice A' n' c') := by have := (hbw.cell (p := ⟨b, 1, none⟩) hb).trans (((hb1.cell (p := ⟨b, 1, none⟩) hb)).symm.trans g1); exact this
        have h3 : k = 0 ∨ k = 1 ∨ k = 2 := by omega
        rcases h3 with rfl | rfl | rfl
        · simp only [if_true] at ho ⊢
          go_wp2_with (at_builtin; refine wpList_appS rfl (.tmp 31) (.tmp 32) 26 rfl 2 i0 _ 1 8 Try.underlying26 hi hz0 hz1 hz2 rfl (by omega) (by omega) w.heap.size _ _ _ _ rfl ho B A n c _ rfl (h.below hbw hB) (ints_one _) (by omega) hbs ?_)
          intro A3 c3 w3 ho3 hg hb3 hat
          go_wp2_with fail
          go_roundg 1
          case rel => exact ⟨1, A3, c3, by omega, by omega, by go_num, by simp, by simpa using ho3, hbw.trans hb3⟩
          case measure => omega
        · simp only [if_true, if_false, Nat.one_ne_zero] at ho ⊢
          go_wp2_with (at_builtin; refine wpList_appS rfl (.tmp 31) (.tmp 32) 26 rfl 2 i0 _ 1 8 Try.underlying26 hi hz0 hz1 hz2 rfl (by omega) (by omega) w.heap.size _ _ _ _ rfl ho B A' n' c' _ rfl (h'.below hbw hB) (ints_one _) (by omega) hbs ?_)
          intro A3 c3 w3 ho3 hg hb3 hat
          go_wp2_with fail
          go_roundg 0
          case rel => exact ⟨2, A3, c3, by omega, by omega, by go_num, by simp, by simpa using ho3, hbw.trans hb3⟩
          case measure => omega
        · simp only [show ¬ (2 : Nat) = 0 by omega, show ¬ (2 : Nat) = 1 by omega, if_false] at ho ⊢
          go_wp2_with fail
          go_ret
          exact ⟨A2, c2, rfl, ho, hbw⟩

def rCutOut (zs : List Int) (wide : Int) : List Int × Int × Int :=
  if askC (spotsB zs) (inB wide 1 zs.length) = 0 then
    (if wide = zs.length then ([], 0, 6) else (zs.take (placeOf (sumsR zs wide.toNat)) ++ zs.drop (placeOf (sumsR zs wide.toNat) + wide.toNat), mostOf (sumsR zs wide.toNat), 0))
  else ([], 0, askC (spotsB zs) (inB wide 1 zs.length))
theorem ints_head {w : World} {B n k : Nat} {A : Option Addr} {zs : List Int} (h : Ints w B A n zs) (hk : k ≤ n) : Ints w B A k (zs.take k) := by
  have := Reads.head h hk
  rw [Nat.mul_one, ← List.map_take] at this
  exact this
theorem ints_cut {w : World} {B n k cap : Nat} {A : Option Addr} {zs : List Int} (h : Ints w B A n zs) (hk : k ≤ n) (hc : n ≤ cap) : Ints w B (if cap = k then A else A.map (·.add k)) (n - k) (zs.drop k) := by
  have := Reads.cut h hk hc
  rw [Nat.mul_one, ← List.map_drop] at this
  exact this

theorem implCutOut_any {A : Option Addr} {n c B : Nat} {zs : List Int} {wide : Int} {w : World} (h : Ints w B A n zs) (hB : B ≤ w.heap.size) (hc : n ≤ c) (hn : n ≤ 1048576) :
    Calls Try.prog 11 #[.slice A n c, .int .i64 wide] w fun e w' => ∃ A2 n2 c2, e = .returned (.tuple #[.slice A2 n2 c2, .int .i64 (rCutOut zs wide).2.1, .int .i64 (rCutOut zs wide).2.2]) ∧ n2 ≤ 1048576 ∧
      Own w' w.heap.size 2 1 A2 n2 c2 ((rCutOut zs wide).1.map (Value.int .i64)) ∧ Below w.heap.size w w' := by
  have HL := Lib.hid h.len
  rcases askC_cases (spotsB zs) (inB wide 1 n) with ⟨ha, hs, hi⟩ | ha | ha
  · have hi' := inB_true.1 hi
    obtain ⟨k, rfl⟩ := Int.eq_ofNat_of_zero_le (show 0 ≤ wide by omega)
    by_cases hw : k = n
    · have Hr : Hid (rCutOut zs k = ([], 0, 6)) := by
        have hl := HL.out
        refine Lib.hid ?_
        rw [rCutOut, hl, if_pos ha, if_pos (by omega)]
      subst hw
      clear hs hi
      go_enter Try.func11, Try.ntmps11
      go_wp2_with (first | (go_at_call 20; refine (isWide_any A k c _ _ hn).mono ?_; rintro e w' ⟨rfl, rfl⟩) | (go_at_call 19; refine (spotted_any A k c B zs _ _ h (by omega)).mono ?_; rintro e w' ⟨rfl, rfl⟩) | (go_at_call 25; refine (size_int_any A k c _ (by omega)).mono ?_; rintro e w' ⟨rfl, rfl⟩))
      go_ret3
      exact ⟨none, 0, 0, by rw [Hr.out]; rfl, by omega, by rw [Hr.out]; exact Own.nil _ _ _ _, Below.refl _ _⟩
    · have hp := placeOf_lt (zs := sumsR zs k) (by rw [sumsR_len]; omega)
      rw [sumsR_len, HL.out] at hp
      have Hr : Hid (rCutOut zs k = (zs.take (placeOf (sumsR zs k)) ++ zs.drop (placeOf (sumsR zs k) + k), mostOf (sumsR zs k), 0)) := by
        have hl := HL.out
        refine Lib.hid ?_
        rw [rCutOut, hl, if_pos ha, if_neg (by omega)]; simp
      have Hs := Lib.hid hs
      have hne : decide ((k : Int) = (n : Int)) = false := by simp; omega
      clear hs hi
      go_enter Try.func11, Try.ntmps11
      go_wp2_with (first | (go_at_call 20; refine (isWide_any A n c _ _ hn).mono ?_; rintro e w' ⟨rfl, rfl⟩) | (go_at_call 19; refine (spotted_any A n c B zs _ _ h (by omega)).mono ?_; rintro e w' ⟨rfl, rfl⟩) | (go_at_call 25; refine (size_int_any A n c _ (by omega)).mono ?_; rintro e w' ⟨rfl, rfl⟩))
      refine (worstSpot_any A n c B k zs _ h hB hc hn (spots_le Hs.out) (by omega) (by omega)).mono ?_
      rintro e w2 ⟨rfl, b2⟩
      generalize placeOf (sumsR zs k) = p at hp Hr ⊢
      have h2 := Reads.below h b2 hB
      have hs2 := b2.size
      have hq0 : (0 : Int) ≤ (p : Int) := by omega
      have hq1 : (p : Int) ≤ (c : Int) := by omega
      have hq2 : IntKind.i64.wrap ((p : Int) + (k : Int)) = (p : Int) + (k : Int) := IntWalk.i64_in _ (by omega)
      have hq3 : (0 : Int) ≤ (p : Int) + (k : Int) := by omega
      have hq4 : (p : Int) + (k : Int) ≤ (n : Int) := by omega
      have hq6 : p + k ≤ n := by omega
      have hq5 : ((p : Int) + (k : Int)).toNat = p + k := by omega
      obtain ⟨AX, hAX, hRX⟩ : ∃ AX, (if c = p + k then A else A.map (·.add (p + k))) = AX ∧ Ints w2 B AX (n - (p + k)) (zs.drop (p + k)) := ⟨_, rfl, ints_cut h2 hq6 hc⟩
      have hRH := ints_head h2 (show p ≤ n by omega)
      go_wp2_with fail
      go_region_held3 (fun _ => True) (trivial)
        ((first
          | (go_at_call 26; refine (concat_int_any (B := B) (z := zs.take p) (z' := zs.drop (p + k)) (A := A) (A' := AX) (n := p) (n' := n - (p + k)) (c := c) (c' := c - (p + k)) (by exact Reads.alloc hRH (by omega) _) (by exact Reads.alloc hRX (by omega) _) (by simp; omega) (by omega) (by omega) (by simp) (by simp) (by simp)).mono ?_; rintro e w4 ⟨A4, c4, rfl, o4, b4⟩)))
      go_wp2_with fail
      go_ret3
      have hx : w.heap.size ≤ (w2.alloc (Obj.cells #[Value.slice A p c, Value.slice AX (n - (p + k)) (c - (p + k))] 26)).drew.heap.size := by simp; omega
      exact ⟨A4, _, c4, by rw [Hr.out]; rfl, by omega, by rw [Hr.out]; exact o4.mono hx, ((b2.alloc hs2 _).drew).trans (b4.mono hx)⟩
  all_goals
    have Hr : Hid (rCutOut zs wide = ([], 0, askC (spotsB zs) (inB wide 1 n))) := by
      have hl := HL.out
      refine Lib.hid ?_
      rw [rCutOut, hl, if_neg (by rw [ha]; omega)]
    go_enter Try.func11, Try.ntmps11
    go_wp2_with (first | (go_at_call 20; refine (isWide_any A n c _ _ hn).mono ?_; rintro e w' ⟨rfl, rfl⟩) | (go_at_call 19; refine (spotted_any A n c B zs _ _ h (by omega)).mono ?_; rintro e w' ⟨rfl, rfl⟩))
    go_ret3
    exact ⟨none, 0, 0, by rw [Hr.out, ha]; rfl, by omega, by rw [Hr.out]; exact Own.nil _ _ _ _, Below.refl _ _⟩
end Go.Proofs.Ytppbfdlgpehanaa
