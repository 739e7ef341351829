/- Evacuation: CutOff: contracts of both sides. -/
import Derived.Test.YtcppogfffgdjhaaWe
namespace Go.Proofs.Ytcppogfffgdjhaa
open Go.RowKit
set_option maxRecDepth 100000
set_option linter.unusedVariables false
set_option linter.unusedSimpArgs false

/-- Of the first k places those from which a goal is reached, or not. -/
def selTo (b : Bool) (ts : List Int) (k : Nat) : List Int := ((List.range k).filter (fun v => decide (0 ≤ nth ts v) == b)).map Int.ofNat
theorem selTo_succ (b : Bool) (ts : List Int) (k : Nat) : selTo b ts (k + 1) = selTo b ts k ++ (if decide (0 ≤ nth ts k) == b then [(k : Int)] else []) := by
  rw [selTo, List.range_succ, List.filter_append, List.map_append, ← selTo]
  congr 1
  by_cases e : (decide (0 ≤ nth ts k) == b) = true
  · rw [if_pos e]; simp [List.filter_cons, e]
  · rw [if_neg e]; simp [List.filter_cons, e]
theorem selTo_len (b : Bool) (ts : List Int) (k : Nat) : (selTo b ts k).length ≤ k := by
  rw [selTo, List.length_map]
  exact Nat.le_trans (List.length_filter_le _ _) (by simp)
theorem own_reads {w : World} {B e n c : Nat} {A : Option Addr} {zs : List Int} (h : Own w B e 1 A n c (zs.map (Value.int .i64))) : Ints w w.heap.size A n zs := h.reads

theorem reachable_any {A A' : Option Addr} {n c B n' c' B' : Nat} {p : Int} {l : List WalkR} {ys : List Int} {lad r : Bool} {w : World} (h : Reads w B 4 A n (l.flatMap WalkR.cells)) (hB : B ≤ w.heap.size) (hn : n ≤ 1048576)
    (h' : Ints w B' A' n' ys) (hB' : B' ≤ w.heap.size) (hn' : n' ≤ 1048576) (hw : walksB p l = true) :
    Calls Try.prog 26 #[.int .i64 p, .slice A n c, .slice A' n' c', .bool lad, .bool r] w fun e w' => ∃ A2 c2, e = .returned (.slice A2 (selTo r (timesR p l ys lad) p.toNat).length c2) ∧
      Own w' w.heap.size 2 1 A2 (selTo r (timesR p l ys lad) p.toNat).length c2 ((selTo r (timesR p l ys lad) p.toNat).map (Value.int .i64)) ∧ Below w.heap.size w w' := by
  obtain ⟨i0, hi, hz0, hz1, hz2⟩ := info_parts info_int
  have hp := (okW_of hw).2
  obtain ⟨P, rfl⟩ := Int.eq_ofNat_of_zero_le (show 0 ≤ p by omega)
  have hP : (P : Int).toNat = P := by omega
  have hP2 : P ≤ 16 := by omega
  rw [hP]
  go_enter Try.func26, Try.ntmps26
  go_wp2_with fail
  refine (timesTo_any h hB hn h' hB' hn' hw).mono ?_
  rintro e w1 ⟨A1, c1, rfl, o1, b1⟩
  rw [hP] at o1 ⊢
  have hs1 := b1.size
  have hlen : (timesR P l ys lad).length = P := by have := o1.len; simpa using this
  generalize hts : timesR P l ys lad = ts at *
  have Hts := Lib.hid hts
  clear hts
  go_wp2_with fail
  go_loopg [11, 20] P (fun gk v i wr => ∃ (k : Nat) (A2 : Option Addr) (c2 : Nat), k ≤ P ∧ gk + k = P ∧ i = .int .i64 k ∧ v = .slice A2 (selTo r ts k).length c2 ∧ Own wr w1.heap.size 2 1 A2 (selTo r ts k).length c2 ((selTo r ts k).map (Value.int .i64)) ∧ Below w1.heap.size w1 wr)
  case atStart => exact ⟨0, none, 0, by omega, by omega, rfl, rfl, Own.nil _ _ _ _, Below.refl _ _⟩
  case round =>
    obtain ⟨k, A2, c2, hk, hgk, rfl, rfl, ho, hb⟩ := hrel
    have Hgk := Lib.hid hgk
    have hbs := hb.size
    clear hgk
    by_cases hlt : k < P
    · have o1' := o1.below hb
      obtain ⟨ad, rfl, hbl, hc0⟩ := Ints.at_ (own_reads o1') hlt
      have Hsel := Lib.hid (selTo_succ r ts k)
      have hsl := selTo_len r ts k
      have hq0 : (0 : Int) ≤ (k : Int) := by omega
      have hq1 : (k : Int) < (P : Int) := by omega
      cases hc : (decide (0 ≤ nth ts k) == r) with
      | false =>
        have Hs : Hid (selTo r ts (k + 1) = selTo r ts k) := Lib.hid (by rw [Hsel.out, hc]; simp)
        go_wp2_with fail
        have hgk := Hgk.out
        go_roundg (gk - 1)
        case rel => exact ⟨k + 1, A2, c2, by omega, by omega, by go_num, by rw [Hs.out], by rw [Hs.out]; exact ho, hb⟩
        case measure => omega
      | true =>
        have Hs : Hid (selTo r ts (k + 1) = selTo r ts k ++ [(k : Int)]) := Lib.hid (by rw [Hsel.out, hc]; simp)
        go_wp2_with (at_builtin; refine wpList_app rfl (.tmp 29) (.tmp 31) 27 rfl 2 i0 _ 1 8 Try.underlying27 hi hz0 hz1 hz2 rfl (by omega) (by omega) w1.heap.size _ _ _ _ rfl (ho.alloc _) ⟨wr.heap.size, 0, none⟩ 1 1 [.int .i64 (k : Int)] rfl rfl (cell_one_new _ _ _) (by simp [Value.oneCell']) (by omega) (by simp; omega) ?_)
        intro A3 c3 w3 ho3 hgA hbA hat
        have ho4 : Own w3 w1.heap.size 2 1 A3 (selTo r ts (k + 1)).length c3 ((selTo r ts (k + 1)).map (Value.int .i64)) := by rw [Hs.out, List.map_append, List.length_append]; exact ho3
        have hb4 : Below w1.heap.size w1 w3 := (hb.alloc hbs _).trans hbA
        have Hl : Hid ((selTo r ts (k + 1)).length = (selTo r ts k).length + 1) := Lib.hid (by rw [Hs.out, List.length_append]; rfl)
        clear ho3 hgA hbA hat ho
        go_wp2_with fail
        have hgk := Hgk.out
        go_roundg (gk - 1)
        case rel => exact ⟨k + 1, A3, c3, by omega, by omega, by go_num, by rw [Hl.out], ho4, hb4⟩
        case measure => omega
    · have hke : P = k := by omega
      subst hke
      have hd : ¬ (P : Int) < (P : Int) := by omega
      go_wp2_with fail
      go_ret
      have hts := Hts.out
      subst hts
      exact ⟨A2, c2, rfl, ho.mono hs1, b1.trans (hb.mono hs1)⟩

def rCutOff (p : Int) (l : List WalkR) (ys : List Int) (lad : Bool) : List Int × Int :=
  if askW p l true (risesB 0 (top p) ys) = 0 then (selTo false (timesR p l ys lad) p.toNat, 0) else ([], askW p l true (risesB 0 (top p) ys))

theorem implCutOff_any {A A' : Option Addr} {n c B n' c' B' : Nat} {p : Int} {l : List WalkR} {ys : List Int} {lad : Bool} {w : World} (h : Reads w B 4 A n (l.flatMap WalkR.cells)) (hB : B ≤ w.heap.size) (hc : n ≤ c) (hn : n ≤ 1048576)
    (h' : Ints w B' A' n' ys) (hB' : B' ≤ w.heap.size) (hc' : n' ≤ c') (hn' : n' ≤ 1048576) :
    Calls Try.prog 9 #[.int .i64 p, .slice A n c, .slice A' n' c', .bool lad] w fun e w' => ∃ A2 n2 c2, e = .returned (.tuple #[.slice A2 n2 c2, .int .i64 (rCutOff p l ys lad).2]) ∧ n2 ≤ 1048576 ∧
      Own w' w.heap.size 2 1 A2 n2 c2 ((rCutOff p l ys lad).1.map (Value.int .i64)) ∧ Below w.heap.size w w' := by
  by_cases ha : askW p l true (risesB 0 (top p) ys) = 0
  · have Hr : Hid (rCutOff p l ys lad = (selTo false (timesR p l ys lad) p.toNat, 0)) := Lib.hid (by rw [rCutOff, if_pos ha])
    obtain ⟨hw, _, hi⟩ := askW_zero.1 ha
    have hp := (okW_of hw).2
    have hsl := selTo_len false (timesR p l ys lad) p.toNat
    rw [hi] at ha
    go_enter Try.func9, Try.ntmps9
    go_wp2_with (go_at_call 24; refine (areExits_any h' hn').mono ?_; rintro e w' ⟨rfl, rfl⟩)
    refine (walked_any h hB hn).mono ?_
    rintro e w1 ⟨rfl, b1⟩
    rw [ha]
    have hs1 := b1.size
    go_wp2_with fail
    refine (reachable_any (Reads.below h b1 hB) (by omega) hn (Reads.below h' b1 hB') (by omega) hn' hw).mono ?_
    rintro e w2 ⟨A2, c2, rfl, o2, b2⟩
    go_wp2_with fail
    go_ret2
    exact ⟨A2, _, c2, by rw [Hr.out]; rfl, by omega, by rw [Hr.out]; exact o2.mono hs1, b1.trans (b2.mono hs1)⟩
  · have Hr : Hid (rCutOff p l ys lad = ([], askW p l true (risesB 0 (top p) ys))) := Lib.hid (by rw [rCutOff, if_neg ha])
    go_enter Try.func9, Try.ntmps9
    go_wp2_with (go_at_call 24; refine (areExits_any h' hn').mono ?_; rintro e w' ⟨rfl, rfl⟩)
    refine (walked_any h hB hn).mono ?_
    rintro e w1 ⟨rfl, b1⟩
    generalize askW p l true (risesB 0 (top p) ys) = cd at ha Hr ⊢
    go_wp2_with fail
    go_ret2
    exact ⟨none, 0, 0, by rw [Hr.out]; rfl, by omega, by rw [Hr.out]; exact Own.nil _ _ _ _, b1⟩

end Go.Proofs.Ytcppogfffgdjhaa
