/- Walk: a struct of one-cell fields: how it lies in memory; contracts of the functions that copy, compare, mark and read such structs. -/
import Derived.Test.YtnoppdklgcpomaaS
import Derived.Handy
import Derived.StillTailTactics
namespace Go.Proofs.Ytnoppdklgcpomaa
open Go.RowKit
set_option maxRecDepth 100000
set_option linter.unusedVariables false

structure WalkR where
  From : Int
  To : Int
  Seconds : Int
  Ladder : Bool
namespace WalkR
def cells (x : WalkR) : List Value := [.int .i64 x.From, .int .i64 x.To, .int .i64 x.Seconds, .bool x.Ladder]
def val (x : WalkR) : Value := .agg #[.int .i64 x.From, .int .i64 x.To, .int .i64 x.Seconds, .bool x.Ladder]
def zero : WalkR := ⟨0, 0, 0, false⟩
instance : Inhabited WalkR := ⟨zero⟩
/-- Each field fits. -/
def wf (x : WalkR) : Prop := (Lit.int .i64 x.From).wf = true ∧ (Lit.int .i64 x.To).wf = true ∧ (Lit.int .i64 x.Seconds).wf = true ∧ (x.Ladder = x.Ladder)
/-- Element k. -/
def at_ (l : List WalkR) (k : Nat) : WalkR := l.getD k zero
theorem clen (x : WalkR) : x.cells.length = 4 := rfl
theorem rd {w : World} {B n k : Nat} {A : Option Addr} {l : List WalkR} (h : Reads w B 4 A n (l.flatMap cells)) (hk : k < n) :
    ∃ ad, A = some ad ∧ ad.block < B ∧ w.cell? (ad.add (k * 4)) = some (.int .i64 (at_ l k).From) ∧
      w.cell? ⟨(ad.add (k * 4)).block, (ad.add (k * 4)).off + 1, none⟩ = some (.int .i64 (at_ l k).To) ∧
      w.cell? ⟨(ad.add (k * 4)).block, (ad.add (k * 4)).off + 2, none⟩ = some (.int .i64 (at_ l k).Seconds) ∧
      w.cell? ⟨(ad.add (k * 4)).block, (ad.add (k * 4)).off + 3, none⟩ = some (.bool (at_ l k).Ladder) := by
  obtain ⟨ad, e, hb, hc⟩ := Reads.field clen (by omega) zero h hk
  exact ⟨ad, e, hb, by have := hc 0 _ rfl; rwa [addr_add_zero] at this, by have := hc 1 _ rfl; rwa [addr_succ] at this, by have := hc 2 _ rfl; rwa [addr_succ] at this, by have := hc 3 _ rfl; rwa [addr_succ] at this⟩
theorem rd0 {w : World} {B n : Nat} {A : Option Addr} {l : List WalkR} (h : Reads w B 4 A n (l.flatMap cells)) (hk : 0 < n) :
    ∃ ad, A = some ad ∧ ad.block < B ∧ w.cell? (ad) = some (.int .i64 (at_ l 0).From) ∧
      w.cell? ⟨ad.block, ad.off + 1, none⟩ = some (.int .i64 (at_ l 0).To) ∧
      w.cell? ⟨ad.block, ad.off + 2, none⟩ = some (.int .i64 (at_ l 0).Seconds) ∧
      w.cell? ⟨ad.block, ad.off + 3, none⟩ = some (.bool (at_ l 0).Ladder) := by
  obtain ⟨ad, e, hb, hc⟩ := rd h hk
  rw [Nat.zero_mul, addr_add_zero] at hc
  exact ⟨ad, e, hb, hc⟩
theorem count {w : World} {B n : Nat} {A : Option Addr} {l : List WalkR} (h : Reads w B 4 A n (l.flatMap cells)) : l.length = n := Reads.count clen (by omega) h
theorem own_get {w : World} {B e n c g k j : Nat} {l : List WalkR} (h : Own w B e 4 (some ⟨g, 0, none⟩) n c (l.flatMap cells)) (hk : k < n) (hj : j < 4) : w.cell? ⟨g, k * 4 + j, none⟩ = (at_ l k).cells[j]? := by
  have hl : l.length = n := count h.reads
  rw [h.cellAt (by omega), flat_get _ 4 clen zero l k j (by omega) hj]; rfl
/-- A whole element stored. -/
theorem own_set {w : World} {B e n c g k : Nat} {l : List WalkR} (h : Own w B e 4 (some ⟨g, 0, none⟩) n c (l.flatMap cells)) (hk : k < n) (x : WalkR) :
    Own ((((w.setCell ⟨g, k * 4, none⟩ (.int .i64 x.From)).setCell ⟨g, k * 4 + 1, none⟩ (.int .i64 x.To)).setCell ⟨g, k * 4 + 2, none⟩ (.int .i64 x.Seconds)).setCell ⟨g, k * 4 + 3, none⟩ (.bool x.Ladder)) B e 4 (some ⟨g, 0, none⟩) n c ((l.set k x).flatMap cells) ∧ w.grownBy ((((w.setCell ⟨g, k * 4, none⟩ (.int .i64 x.From)).setCell ⟨g, k * 4 + 1, none⟩ (.int .i64 x.To)).setCell ⟨g, k * 4 + 2, none⟩ (.int .i64 x.Seconds)).setCell ⟨g, k * 4 + 3, none⟩ (.bool x.Ladder)) (some g) := by
  have hl : l.length = n := count h.reads
  have s0 := h.stored (j := k * 4) (.int .i64 x.From)
  have s1 := s0.1.stored (j := k * 4 + 1) (.int .i64 x.To)
  have s2 := s1.1.stored (j := k * 4 + 2) (.int .i64 x.Seconds)
  have s3 := s2.1.stored (j := k * 4 + 3) (.bool x.Ladder)
  refine ⟨?_, ((s0.2.trans s1.2).trans s2.2).trans s3.2⟩
  have e := flat_set cells 4 clen l k x (by omega)
  simp only [cells, setN, Nat.add_assoc, Nat.reduceAdd] at e
  have := s3.1
  rwa [e] at this
theorem fill_zero (n : Nat) : (madeCells #[.int .i64 0, .int .i64 0, .int .i64 0, .bool false] (n * 4)).toList = (List.replicate n zero).flatMap cells := made_flat cells 4 clen (by omega) zero n _ rfl
theorem part_set {l : List WalkR} {n k : Nat} (hl : l.length = n) (hk : k < n) : (l.take k ++ List.replicate (n - k) zero).set k (at_ l k) = l.take (k + 1) ++ List.replicate (n - (k + 1)) zero := fill_next zero hl hk
end WalkR

theorem toWalk_any {a0 : Int} {a1 : Int} {a2 : Int} {a3 : Bool} {w : World} :
    Calls Try.prog 45 #[.agg #[.int .i64 a0, .int .i64 a1, .int .i64 a2, .bool a3]] w fun e w' => e = .returned (.agg #[.int .i64 a0, .int .i64 a1, .int .i64 a2, .bool a3]) ∧ Below w.heap.size w w' := by
  go_enter Try.func45, Try.ntmps45
  go_wp2
  refine bodyPost_ret (v := .agg #[.int .i64 a0, .int .i64 a1, .int .i64 a2, .bool a3]) (by simp [results, Try.results45, go_sem]) rfl ⟨rfl, ?_⟩
  go_grown
theorem info_Walk : (Try.prog.info? 59).map (fun i => (i.zero, i.size, i.bytes)) = some (some (.agg #[.int .i64 0, .int .i64 0, .int .i64 0, .bool false]), 4, 32) := by kernel_rfl
theorem toWalkS_any {A : Option Addr} {n c B : Nat} {l : List WalkR} {w : World} (h : Reads w B 4 A n (l.flatMap WalkR.cells)) (hB : B ≤ w.heap.size) (hn : n ≤ 1048576) :
    Calls Try.prog 16 #[.slice A n c] w fun e w' => ∃ A' c', e = .returned (.slice A' n c') ∧ Own w' w.heap.size 59 4 A' n c' (l.flatMap WalkR.cells) ∧ Below w.heap.size w w' := by
  have HL := Lib.hid (WalkR.count h)
  obtain ⟨i0, hi, hz0, hz1, hz2⟩ := info_parts info_Walk
  go_enter Try.func16, Try.ntmps16
  go_wp2_with (at_make; refine wpList_make_full _ rfl _ _ 25 rfl w.heap.size 59 i0 _ 4 Try.underlying25 hi hz0 hz1 _ _ _ _ n rfl rfl rfl rfl (by rw [hz2]; omega) (by simp only [maxLen]; omega) (Nat.le_refl _) ?_)
  intro w1 hown hgrow
  go_wp2_with fail
  have hb1 : Below w.heap.size w w1 := (Below.refl _ _).grown hgrow (Nat.le_refl _) (by simp)
  go_loopg [4] n (fun gk i wr => ∃ k : Nat, k ≤ n ∧ gk + k = n ∧ i = .int .i64 k ∧ Below w.heap.size w wr ∧ w.heap.size < wr.heap.size ∧
    Own wr w.heap.size 59 4 (some ⟨w.heap.size, 0, none⟩) n n ((l.take k ++ List.replicate (n - k) WalkR.zero).flatMap WalkR.cells))
  case atStart =>
    refine ⟨0, Nat.zero_le _, rfl, rfl, hb1, (Own.block_lt hown _ rfl).2.2.2, ?_⟩
    have e := WalkR.fill_zero n
    simp only [List.take_zero, List.nil_append, Nat.sub_zero]
    rw [← e]
    exact hown
  case round =>
    obtain ⟨k, hk, hgk, rfl, hb, hsz, ho⟩ := hrel
    have Hgk := Lib.hid hgk
    clear hb1 hown hgrow hgk
    by_cases hlt : k < n
    · obtain ⟨ad, rfl, hbl, hc0, hc1, hc2, hc3⟩ := WalkR.rd (Reads.below h hb hB) hlt
      go_wp2_with fail
      refine toWalk_any.mono ?_
      rintro e w2 ⟨rfl, b⟩
      have ho' := ho.below b
      have hb' := hb.trans (b.mono hb.size)
      have hsz' : w.heap.size < w2.heap.size := Nat.lt_of_lt_of_le hsz b.size
      clear ho hb b hsz hc0 hc1 hc2 hc3
      have f0 := ho'.frozenAt (j := k * 4)
      have f1 := ho'.frozenAt (j := k * 4 + 1)
      have f2 := ho'.frozenAt (j := k * 4 + 2)
      have f3 := ho'.frozenAt (j := k * 4 + 3)
      have g0 : ∃ u, w2.cell? ⟨w.heap.size, k * 4, none⟩ = some u := ⟨_, WalkR.own_get (j := 0) ho' hlt (by omega)⟩
      have g1 : ∃ u, w2.cell? ⟨w.heap.size, k * 4 + 1, none⟩ = some u := ⟨_, WalkR.own_get (j := 1) ho' hlt (by omega)⟩
      have g2 : ∃ u, w2.cell? ⟨w.heap.size, k * 4 + 2, none⟩ = some u := ⟨_, WalkR.own_get (j := 2) ho' hlt (by omega)⟩
      have g3 : ∃ u, w2.cell? ⟨w.heap.size, k * 4 + 3, none⟩ = some u := ⟨_, WalkR.own_get (j := 3) ho' hlt (by omega)⟩
      obtain ⟨q0, g0⟩ := g0
      obtain ⟨q1, g1⟩ := g1
      obtain ⟨q2, g2⟩ := g2
      obtain ⟨q3, g3⟩ := g3
      have Hst := Lib.hid (WalkR.own_set ho' hlt (WalkR.at_ l k))
      go_wp2_with fail
      obtain ⟨ho2, hg2⟩ := Hst.out
      rw [WalkR.part_set HL.out hlt] at ho2
      have hgk := Hgk.out
      go_roundg (gk - 1)
      case rel => exact ⟨k + 1, by omega, by omega, by go_num, hb'.grown hg2 (by omega) (fun k hk => by injection hk; omega), Nat.lt_of_lt_of_le hsz' hg2.size, ho2⟩
      case measure => omega
    · have hke : k = n := by omega
      have ho' : Own wr w.heap.size 59 4 (some ⟨w.heap.size, 0, none⟩) n n (l.flatMap WalkR.cells) := by
        have hl := HL.out
        subst hke
        simpa [List.take_of_length_le (Nat.le_of_eq hl)] using ho
      clear hke
      go_wp2
      go_ret
      exact ⟨_, _, rfl, ho', hb⟩
theorem eqWalk_same {a0 : Int} {a1 : Int} {a2 : Int} {a3 : Bool} {w : World} :
    Calls Try.prog 48 #[.agg #[.int .i64 a0, .int .i64 a1, .int .i64 a2, .bool a3], .agg #[.int .i64 a0, .int .i64 a1, .int .i64 a2, .bool a3]] w fun e w' => e = .returned (.bool true) ∧ Below w.heap.size w w' := by
  go_enter Try.func48, Try.ntmps48
  go_wp2
  go_ret
  refine ⟨rfl, ?_⟩
  go_grown
theorem eqWalkS_same {A A' : Option Addr} {n n' c c' B B' : Nat} {l : List WalkR} {w : World} (h : Reads w B 4 A n (l.flatMap WalkR.cells)) (h' : Reads w B' 4 A' n' (l.flatMap WalkR.cells)) (hB : B ≤ w.heap.size) (hB' : B' ≤ w.heap.size) (hn : n ≤ maxLen) :
    Calls Try.prog 18 #[.slice A n c, .slice A' n' c'] w fun e w' => e = .returned (.bool true) ∧ Below w.heap.size w w' := by
  have e1 := WalkR.count h
  have e2 := WalkR.count h'
  obtain rfl : n = n' := by omega
  unfold maxLen at hn
  clear e1 e2
  have hne : ((n : Int) != (n : Int)) = false := by simp
  go_enter Try.func18, Try.ntmps18
  go_wp2_with fail
  go_loopg [5] n (fun gk i wr => ∃ k : Nat, k ≤ n ∧ gk + k = n ∧ i = .int .i64 k ∧ Below w.heap.size w wr)
  case atStart => exact ⟨0, Nat.zero_le _, rfl, rfl, Below.refl _ _⟩
  case round =>
    obtain ⟨k, hk, hgk, rfl, hb⟩ := hrel
    have Hgk := Lib.hid hgk
    clear hgk
    by_cases hlt : k < n
    · obtain ⟨ad, rfl, hbl, hc0, hc1, hc2, hc3⟩ := WalkR.rd (Reads.below h hb hB) hlt
      obtain ⟨ad', rfl, hbl', he0, he1, he2, he3⟩ := WalkR.rd (Reads.below h' hb hB') hlt
      have hk0 : (0 : Int) ≤ (k : Int) := by omega
      have hk1 : (k : Int) < (n : Int) := by omega
      go_wp2_with fail
      go_still_tail 8, (by kernel_rfl)
      change wpList _ _ _ _ _ wr.drew
      generalize hw2 : wr.drew = w2
      have hb2 : Below w.heap.size w w2 := by rw [← hw2]; exact hb.drew
      clear hw2 hc0 hc1 hc2 hc3 he0 he1 he2 he3 hb
      go_wp2_with fail
      refine eqWalk_same.mono ?_
      rintro e w3 ⟨rfl, b⟩
      have hb3 := hb2.trans (b.mono hb2.size)
      clear b hb2
      go_wp2_with fail
      have hgk := Hgk.out
      go_roundg (gk - 1)
      case rel => exact ⟨k + 1, by omega, by omega, by go_num, hb3⟩
      case measure => omega
    · go_wp2
      go_ret
      exact ⟨rfl, hb⟩
theorem szWalkS_any {A : Option Addr} {n c B : Nat} {l : List WalkR} {left : Int} {w : World} (h : Reads w B 4 A n (l.flatMap WalkR.cells)) (h0 : 0 ≤ left) (h1 : left ≤ 1048576) (hc : n ≤ 9223372036854775807) (hz : ∀ x ∈ l, x.wf) :
    Calls Try.prog 14 #[.slice A n c, .int .i64 left] w fun e w' => ∃ v, e = .returned (.int .i64 v) ∧ Below w.heap.size w w' ∧ (0 ≤ v → (n : Int) ≤ left ∧ v = left - n) := by
  by_cases hlt : left < n
  · go_enter Try.func14, Try.ntmps14
    go_wp2
    go_ret
    exact ⟨_, rfl, Below.refl _ _, by omega⟩
  · go_enter Try.func14, Try.ntmps14
    go_wp2
    go_ret
    exact ⟨_, rfl, Below.refl _ _, by omega⟩
/-- The marks from m on. -/
def WalkR.mark (m : Int) : WalkR := ⟨m, m + 1, m + 1 + 1, ((m + 1 + 1 + 1) % 3 == 0)⟩
def WalkR.marks (k : Int) (n : Nat) : List WalkR := (List.range n).map fun i : Nat => WalkR.mark (k + 4 * (i : Int))
theorem WalkR.marks_set {l : List WalkR} {k : Int} {n i : Nat} (h : i < n) (hl : l.length = n) : (WalkR.marks k i ++ l.drop i).set i (WalkR.mark (k + 4 * (i : Int))) = WalkR.marks k (i + 1) ++ l.drop (i + 1) := by
  have hm : (WalkR.marks k i).length = i := by simp [WalkR.marks]
  rw [List.set_append_right _ _ (by omega), hm, Nat.sub_self, List.drop_eq_getElem_cons (by omega), List.set_cons_zero]
  simp [WalkR.marks, List.range_succ]
theorem WalkR.marks_at {k : Int} {n i : Nat} (h : i < n) : WalkR.at_ (WalkR.marks k n) i = WalkR.mark (k + 4 * (i : Int)) := by
  simp [WalkR.at_, WalkR.marks, List.getD, h]
theorem markWalkS_any {A : Option Addr} {n c B : Nat} {l : List WalkR} {k : Int} {w : World} (h : Own w B 59 4 A n c (l.flatMap WalkR.cells)) (hn : n ≤ 1048576) (h0 : 0 ≤ k) (h1 : k ≤ 1000000000) :
    Calls Try.prog 25 #[.slice A n c, .int .i64 k] w fun e w' => e = .returned (.int .i64 (k + 4 * (n : Int))) ∧ Own w' B 59 4 A n c ((WalkR.marks k n).flatMap WalkR.cells) ∧ Touch w w' A := by
  have HL := Lib.hid (WalkR.count h.reads)
  go_enter Try.func25, Try.ntmps25
  go_wp2_with fail
  go_loopg [1, 5] n (fun gk kk i wr => ∃ i' : Nat, i' ≤ n ∧ gk + i' = n ∧ i = .int .i64 i' ∧ kk = .int .i64 (k + 4 * (i' : Int)) ∧
    Own wr B 59 4 A n c ((WalkR.marks k i' ++ l.drop i').flatMap WalkR.cells) ∧ Touch w wr A)
  case atStart => exact ⟨0, Nat.zero_le _, rfl, rfl, by simp, by simpa [WalkR.marks] using h, Touch.refl _ _⟩
  case round =>
    obtain ⟨i, hk, hgk, rfl, rfl, ho, hg⟩ := hrel
    have Hgk := Lib.hid hgk
    clear hgk
    by_cases hlt : i < n
    · obtain ⟨ad, rfl⟩ : ∃ ad, A = some ad := by
        cases A with
        | none => have := ho.none_n; omega
        | some ad => exact ⟨ad, rfl⟩
      obtain ⟨g, off, sp⟩ := ad
      obtain ⟨rfl, rfl, hB, hlt'⟩ := ho.block_lt _ rfl
      have f0 := ho.frozenAt (j := i * 4)
      have f1 := ho.frozenAt (j := i * 4 + 1)
      have f2 := ho.frozenAt (j := i * 4 + 2)
      have f3 := ho.frozenAt (j := i * 4 + 3)
      have g0 : ∃ u, wr.cell? ⟨g, i * 4, none⟩ = some u := ⟨_, WalkR.own_get (j := 0) ho hlt (by omega)⟩
      have g1 : ∃ u, wr.cell? ⟨g, i * 4 + 1, none⟩ = some u := ⟨_, WalkR.own_get (j := 1) ho hlt (by omega)⟩
      have g2 : ∃ u, wr.cell? ⟨g, i * 4 + 2, none⟩ = some u := ⟨_, WalkR.own_get (j := 2) ho hlt (by omega)⟩
      have g3 : ∃ u, wr.cell? ⟨g, i * 4 + 3, none⟩ = some u := ⟨_, WalkR.own_get (j := 3) ho hlt (by omega)⟩
      obtain ⟨q0, g0⟩ := g0
      obtain ⟨q1, g1⟩ := g1
      obtain ⟨q2, g2⟩ := g2
      obtain ⟨q3, g3⟩ := g3
      have Hst := Lib.hid (WalkR.own_set ho hlt (WalkR.mark (k + 4 * (i : Int))))
      go_wp2_with fail
      obtain ⟨ho2, hg2⟩ := Hst.out
      rw [WalkR.marks_set hlt HL.out] at ho2
      have hgk := Hgk.out
      go_roundg (gk - 1)
      case rel => exact ⟨i + 1, by omega, by omega, by go_num, by go_num, ho2, hg.grown hg2 rfl⟩
      case measure => omega
    · have hke : i = n := by omega
      have ho' : Own wr B 59 4 A n c ((WalkR.marks k n).flatMap WalkR.cells) := by
        have hl := HL.out
        subst hke
        simpa [List.drop_eq_nil_of_le (Nat.le_of_eq hl)] using ho
      have Hke := Lib.hid hke
      clear hke ho
      go_wp2
      go_ret
      exact ⟨ret_int (by rw [Hke.out]), ho', hg⟩
end Go.Proofs.Ytnoppdklgcpomaa
