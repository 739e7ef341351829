/- Evacuation: TimesTo: contracts of both sides. -/
import Derived.Test.YtcppogfffgdjhaaWw
namespace Go.Proofs.Ytcppogfffgdjhaa
open Go.RowKit
set_option maxRecDepth 100000
set_option linter.unusedVariables false

theorem it_bd {p : Int} {l : List WalkR} (goals : List Int) (lad : Bool) (hw : walksB p l = true) : (timesR p l goals lad).length = p.toNat ∧ ∀ v, v < p.toNat → -1 ≤ nth (timesR p l goals lad) v ∧ nth (timesR p l goals lad) v ≤ 57600 := by
  obtain ⟨hl, hp⟩ := okW_of hw
  have g := it_good (lad := lad) (initT_good (p := p.toNat) goals).1 (by omega) hl p.toNat
  exact ⟨g.len, fun v hv => g.top (by omega) v hv⟩
theorem goals_one {p to : Int} (hp : 1 ≤ p ∧ p ≤ 16) (h : inB to 0 (top p) = true) : goalsB p.toNat [to] := by
  have h1 := inB_true.1 h
  have ht : top p = p - 1 := by unfold top wrap64; omega
  rw [ht] at h1
  intro k hk
  have : k = 0 := by simpa using hk
  subst this
  show 0 ≤ to ∧ to < _
  omega
def rTimesTo (p : Int) (l : List WalkR) (to : Int) (lad : Bool) : List Int × Int :=
  if askW p l (inB to 0 (top p)) true = 0 then (timesR p l [to] lad, 0) else ([], askW p l (inB to 0 (top p)) true)
theorem cell_one_at (w : World) (x : Int) (t : TypeId) : Ints (w.alloc (.cells #[.int .i64 x] t)) (w.heap.size + 1) (some ⟨w.heap.size, 0, none⟩) 1 [x] :=
  ⟨rfl, fun _ => ⟨_, rfl, Nat.lt_succ_self _, cell_one_new w _ t⟩⟩

theorem specTimesTo_any {A : Option Addr} {n c B : Nat} {p to : Int} {l : List WalkR} {lad : Bool} {w : World} (h : Reads w B 4 A n (l.flatMap WalkR.cells)) (hB : B ≤ w.heap.size) (hc : n ≤ c) (hn : n ≤ 1048576) :
    Calls Try.prog 14 #[.int .i64 p, .slice A n c, .int .i64 to, .bool lad] w fun e w' => ∃ A2 n2 c2, e = .returned (.tuple #[.slice A2 n2 c2, .int .i64 (rTimesTo p l to lad).2]) ∧ n2 ≤ 1048576 ∧
      Own w' w.heap.size 2 1 A2 n2 c2 ((rTimesTo p l to lad).1.map (Value.int .i64)) ∧ Below w.heap.size w w' := by
  by_cases ha : askW p l (inB to 0 (top p)) true = 0
  · have Hr : Hid (rTimesTo p l to lad = (timesR p l [to] lad, 0)) := Lib.hid (by rw [rTimesTo, if_pos ha])
    obtain ⟨hw, hi, _⟩ := askW_zero.1 ha
    have hp := (okW_of hw).2
    have Hg := Lib.hid (goals_one hp hi)
    go_enter Try.func14, Try.ntmps14
    go_wp2_with fail
    refine (l23Ask_any h hB hn).mono ?_
    rintro e w1 ⟨rfl, b1⟩
    rw [ha]
    have hs1 := b1.size
    go_wp2_with fail
    refine (l23Times_any (goals := [to]) (B' := w1.heap.size + 1) (Reads.alloc (Reads.below h b1 hB) (by omega) _) (by simp; omega) hn (cell_one_at _ _ _) (by simp) (by omega) hw Hg.out).mono ?_
    rintro e w2 ⟨A2, c2, rfl, o2, b2⟩
    have hx : w.heap.size ≤ (w1.alloc (.cells #[.int .i64 to] 2)).heap.size := by simp; omega
    go_wp2_with fail
    go_ret2
    exact ⟨A2, _, c2, by rw [Hr.out]; rfl, by omega, by rw [Hr.out]; exact o2.mono hx, (b1.alloc hs1 _).trans (b2.mono hx)⟩
  · have Hr : Hid (rTimesTo p l to lad = ([], askW p l (inB to 0 (top p)) true)) := Lib.hid (by rw [rTimesTo, if_neg ha])
    go_enter Try.func14, Try.ntmps14
    go_wp2_with fail
    refine (l23Ask_any h hB hn).mono ?_
    rintro e w1 ⟨rfl, b1⟩
    generalize askW p l (inB to 0 (top p)) true = cd at ha Hr ⊢
    go_wp2_with fail
    go_ret2
    exact ⟨none, 0, 0, by rw [Hr.out]; rfl, by omega, by rw [Hr.out]; exact Own.nil _ _ _ _, b1⟩

theorem implTimesTo_any {A : Option Addr} {n c B : Nat} {p to : Int} {l : List WalkR} {lad : Bool} {w : World} (h : Reads w B 4 A n (l.flatMap WalkR.cells)) (hB : B ≤ w.heap.size) (hc : n ≤ c) (hn : n ≤ 1048576) :
    Calls Try.prog 16 #[.int .i64 p, .slice A n c, .int .i64 to, .bool lad] w fun e w' => ∃ A2 n2 c2, e = .returned (.tuple #[.slice A2 n2 c2, .int .i64 (rTimesTo p l to lad).2]) ∧ n2 ≤ 1048576 ∧
      Own w' w.heap.size 2 1 A2 n2 c2 ((rTimesTo p l to lad).1.map (Value.int .i64)) ∧ Below w.heap.size w w' := by
  by_cases ha : askW p l (inB to 0 (top p)) true = 0
  · have Hr : Hid (rTimesTo p l to lad = (timesR p l [to] lad, 0)) := Lib.hid (by rw [rTimesTo, if_pos ha])
    obtain ⟨hw, hi, _⟩ := askW_zero.1 ha
    have hp := (okW_of hw).2
    rw [hi] at ha
    go_enter Try.func16, Try.ntmps16
    go_wp2_with (go_at_call 23; refine (isSpotOf_any _ _ _).mono ?_; rintro e w' ⟨rfl, rfl⟩)
    refine (walked_any h hB hn).mono ?_
    rintro e w1 ⟨rfl, b1⟩
    rw [ha]
    have hs1 := b1.size
    go_wp2_with fail
    refine (timesTo_any (goals := [to]) (B' := w1.heap.size + 1) (Reads.alloc (Reads.below h b1 hB) (by omega) _) (by simp; omega) hn (cell_one_at _ _ _) (by simp) (by omega) hw).mono ?_
    rintro e w2 ⟨A2, c2, rfl, o2, b2⟩
    have hx : w.heap.size ≤ (w1.alloc (.cells #[.int .i64 to] 2)).heap.size := by simp; omega
    go_wp2_with fail
    go_ret2
    exact ⟨A2, _, c2, by rw [Hr.out]; rfl, by omega, by rw [Hr.out]; exact o2.mono hx, (b1.alloc hs1 _).trans (b2.mono hx)⟩
  · have Hr : Hid (rTimesTo p l to lad = ([], askW p l (inB to 0 (top p)) true)) := Lib.hid (by rw [rTimesTo, if_neg ha])
    go_enter Try.func16, Try.ntmps16
    go_wp2_with (go_at_call 23; refine (isSpotOf_any _ _ _).mono ?_; rintro e w' ⟨rfl, rfl⟩)
    refine (walked_any h hB hn).mono ?_
    rintro e w1 ⟨rfl, b1⟩
    generalize askW p l (inB to 0 (top p)) true = cd at ha Hr ⊢
    go_wp2_with fail
    go_ret2
    exact ⟨none, 0, 0, by rw [Hr.out]; rfl, by omega, by rw [Hr.out]; exact Own.nil _ _ _ _, b1⟩
end Go.Proofs.Ytcppogfffgdjhaa
