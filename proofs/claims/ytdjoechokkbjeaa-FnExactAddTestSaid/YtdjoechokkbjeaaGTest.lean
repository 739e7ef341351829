/- Test: a struct of one-cell fields: how it lies in memory; contracts of the functions that copy, compare, mark and read such structs. -/
import Derived.Test.YtdjoechokkbjeaaS
import Derived.Handy
import Derived.StillTailTactics
namespace Go.Proofs.Ytdjoechokkbjeaa
open Go.RowKit
set_option maxRecDepth 100000
set_option linter.unusedVariables false

structure TestR where
  Day : Int
  Broken : Int
  Worn : Int
namespace TestR
def cells (x : TestR) : List Value := [.int .i64 x.Day, .int .i64 x.Broken, .int .i64 x.Worn]
def val (x : TestR) : Value := .agg #[.int .i64 x.Day, .int .i64 x.Broken, .int .i64 x.Worn]
def zero : TestR := ⟨0, 0, 0⟩
instance : Inhabited TestR := ⟨zero⟩
/-- Each field fits. -/
def wf (x : TestR) : Prop := (Lit.int .i64 x.Day).wf = true ∧ (Lit.int .i64 x.Broken).wf = true ∧ (Lit.int .i64 x.Worn).wf = true
/-- Element k. -/
def at_ (l : List TestR) (k : Nat) : TestR := l.getD k zero
theorem clen (x : TestR) : x.cells.length = 3 := rfl
theorem rd {w : World} {B n k : Nat} {A : Option Addr} {l : List TestR} (h : Reads w B 3 A n (l.flatMap cells)) (hk : k < n) :
    ∃ ad, A = some ad ∧ ad.block < B ∧ w.cell? (ad.add (k * 3)) = some (.int .i64 (at_ l k).Day) ∧
      w.cell? ⟨(ad.add (k * 3)).block, (ad.add (k * 3)).off + 1, none⟩ = some (.int .i64 (at_ l k).Broken) ∧
      w.cell? ⟨(ad.add (k * 3)).block, (ad.add (k * 3)).off + 2, none⟩ = some (.int .i64 (at_ l k).Worn) := by
  obtain ⟨ad, e, hb, hc⟩ := Reads.field clen (by omega) zero h hk
  exact ⟨ad, e, hb, by have := hc 0 _ rfl; rwa [addr_add_zero] at this, by have := hc 1 _ rfl; rwa [addr_succ] at this, by have := hc 2 _ rfl; rwa [addr_succ] at this⟩
theorem rd0 {w : World} {B n : Nat} {A : Option Addr} {l : List TestR} (h : Reads w B 3 A n (l.flatMap cells)) (hk : 0 < n) :
    ∃ ad, A = some ad ∧ ad.block < B ∧ w.cell? (ad) = some (.int .i64 (at_ l 0).Day) ∧
      w.cell? ⟨ad.block, ad.off + 1, none⟩ = some (.int .i64 (at_ l 0).Broken) ∧
      w.cell? ⟨ad.block, ad.off + 2, none⟩ = some (.int .i64 (at_ l 0).Worn) := by
  obtain ⟨ad, e, hb, hc⟩ := rd h hk
  rw [Nat.zero_mul, addr_add_zero] at hc
  exact ⟨ad, e, hb, hc⟩
theorem count {w : World} {B n : Nat} {A : Option Addr} {l : List TestR} (h : Reads w B 3 A n (l.flatMap cells)) : l.length = n := Reads.count clen (by omega) h
theorem own_get {w : World} {B e n c g k j : Nat} {l : List TestR} (h : Own w B e 3 (some ⟨g, 0, none⟩) n c (l.flatMap cells)) (hk : k < n) (hj : j < 3) : w.cell? ⟨g, k * 3 + j, none⟩ = (at_ l k).cells[j]? := by
  have hl : l.length = n := count h.reads
  rw [h.cellAt (by omega), flat_get _ 3 clen zero l k j (by omega) hj]; rfl
/-- A whole element stored. -/
theorem own_set {w : World} {B e n c g k : Nat} {l : List TestR} (h : Own w B e 3 (some ⟨g, 0, none⟩) n c (l.flatMap cells)) (hk : k < n) (x : TestR) :
    Own (((w.setCell ⟨g, k * 3, none⟩ (.int .i64 x.Day)).setCell ⟨g, k * 3 + 1, none⟩ (.int .i64 x.Broken)).setCell ⟨g, k * 3 + 2, none⟩ (.int .i64 x.Worn)) B e 3 (some ⟨g, 0, none⟩) n c ((l.set k x).flatMap cells) ∧ w.grownBy (((w.setCell ⟨g, k * 3, none⟩ (.int .i64 x.Day)).setCell ⟨g, k * 3 + 1, none⟩ (.int .i64 x.Broken)).setCell ⟨g, k * 3 + 2, none⟩ (.int .i64 x.Worn)) (some g) := by
  have hl : l.length = n := count h.reads
  have s0 := h.stored (j := k * 3) (.int .i64 x.Day)
  have s1 := s0.1.stored (j := k * 3 + 1) (.int .i64 x.Broken)
  have s2 := s1.1.stored (j := k * 3 + 2) (.int .i64 x.Worn)
  refine ⟨?_, (s0.2.trans s1.2).trans s2.2⟩
  have e := flat_set cells 3 clen l k x (by omega)
  simp only [cells, setN, Nat.add_assoc, Nat.reduceAdd] at e
  have := s2.1
  rwa [e] at this
theorem fill_zero (n : Nat) : (madeCells #[.int .i64 0, .int .i64 0, .int .i64 0] (n * 3)).toList = (List.replicate n zero).flatMap cells := made_flat cells 3 clen (by omega) zero n _ rfl
theorem part_set {l : List TestR} {n k : Nat} (hl : l.length = n) (hk : k < n) : (l.take k ++ List.replicate (n - k) zero).set k (at_ l k) = l.take (k + 1) ++ List.replicate (n - (k + 1)) zero := fill_next zero hl hk
end TestR

theorem toTest_any {a0 : Int} {a1 : Int} {a2 : Int} {w : World} :
    Calls Try.prog 36 #[.agg #[.int .i64 a0, .int .i64 a1, .int .i64 a2]] w fun e w' => e = .returned (.agg #[.int .i64 a0, .int .i64 a1, .int .i64 a2]) ∧ Below w.heap.size w w' := by
  go_enter Try.func36, Try.ntmps36
  go_wp2
  refine bodyPost_ret (v := .agg #[.int .i64 a0, .int .i64 a1, .int .i64 a2]) (by simp [results, Try.results36, go_sem]) rfl ⟨rfl, ?_⟩
  go_grown
theorem info_Test : (Try.prog.info? 46).map (fun i => (i.zero, i.size, i.bytes)) = some (some (.agg #[.int .i64 0, .int .i64 0, .int .i64 0]), 3, 24) := by kernel_rfl
theorem toTestS_any {A : Option Addr} {n c B : Nat} {l : List TestR} {w : World} (h : Reads w B 3 A n (l.flatMap TestR.cells)) (hB : B ≤ w.heap.size) (hn : n ≤ 1048576) :
    Calls Try.prog 22 #[.slice A n c] w fun e w' => ∃ A' c', e = .returned (.slice A' n c') ∧ Own w' w.heap.size 46 3 A' n c' (l.flatMap TestR.cells) ∧ Below w.heap.size w w' := by
  have HL := Lib.hid (TestR.count h)
  obtain ⟨i0, hi, hz0, hz1, hz2⟩ := info_parts info_Test
  go_enter Try.func22, Try.ntmps22
  go_wp2_with (at_make; refine wpList_make_full _ rfl _ _ 29 rfl w.heap.size 46 i0 _ 3 Try.underlying29 hi hz0 hz1 _ _ _ _ n rfl rfl rfl rfl (by rw [hz2]; omega) (by simp only [maxLen]; omega) (Nat.le_refl _) ?_)
  intro w1 hown hgrow
  go_wp2_with fail
  have hb1 : Below w.heap.size w w1 := (Below.refl _ _).grown hgrow (Nat.le_refl _) (by simp)
  go_loopg [4] n (fun gk i wr => ∃ k : Nat, k ≤ n ∧ gk + k = n ∧ i = .int .i64 k ∧ Below w.heap.size w wr ∧ w.heap.size < wr.heap.size ∧
    Own wr w.heap.size 46 3 (some ⟨w.heap.size, 0, none⟩) n n ((l.take k ++ List.replicate (n - k) TestR.zero).flatMap TestR.cells))
  case atStart =>
    refine ⟨0, Nat.zero_le _, rfl, rfl, hb1, (Own.block_lt hown _ rfl).2.2.2, ?_⟩
    have e := TestR.fill_zero n
    simp only [List.take_zero, List.nil_append, Nat.sub_zero]
    rw [← e]
    exact hown
  case round =>
    obtain ⟨k, hk, hgk, rfl, hb, hsz, ho⟩ := hrel
    have Hgk := Lib.hid hgk
    clear hb1 hown hgrow hgk
    by_cases hlt : k < n
    · obtain ⟨ad, rfl, hbl, hc0, hc1, hc2⟩ := TestR.rd (Reads.below h hb hB) hlt
      go_wp2_with fail
      refine toTest_any.mono ?_
      rintro e w2 ⟨rfl, b⟩
      have ho' := ho.below b
      have hb' := hb.trans (b.mono hb.size)
      have hsz' : w.heap.size < w2.heap.size := Nat.lt_of_lt_of_le hsz b.size
      clear ho hb b hsz hc0 hc1 hc2
      have f0 := ho'.frozenAt (j := k * 3)
      have f1 := ho'.frozenAt (j := k * 3 + 1)
      have f2 := ho'.frozenAt (j := k * 3 + 2)
      have g0 : ∃ u, w2.cell? ⟨w.heap.size, k * 3, none⟩ = some u := ⟨_, TestR.own_get (j := 0) ho' hlt (by omega)⟩
      have g1 : ∃ u, w2.cell? ⟨w.heap.size, k * 3 + 1, none⟩ = some u := ⟨_, TestR.own_get (j := 1) ho' hlt (by omega)⟩
      have g2 : ∃ u, w2.cell? ⟨w.heap.size, k * 3 + 2, none⟩ = some u := ⟨_, TestR.own_get (j := 2) ho' hlt (by omega)⟩
      obtain ⟨q0, g0⟩ := g0
      obtain ⟨q1, g1⟩ := g1
      obtain ⟨q2, g2⟩ := g2
      have Hst := Lib.hid (TestR.own_set ho' hlt (TestR.at_ l k))
      go_wp2_with fail
      obtain ⟨ho2, hg2⟩ := Hst.out
      rw [TestR.part_set HL.out hlt] at ho2
      have hgk := Hgk.out
      go_roundg (gk - 1)
      case rel => exact ⟨k + 1, by omega, by omega, by go_num, hb'.grown hg2 (by omega) (fun k hk => by injection hk; omega), Nat.lt_of_lt_of_le hsz' hg2.size, ho2⟩
      case measure => omega
    · have hke : k = n := by omega
      have ho' : Own wr w.heap.size 46 3 (some ⟨w.heap.size, 0, none⟩) n n (l.flatMap TestR.cells) := by
        have hl := HL.out
        subst hke
        simpa [List.take_of_length_le (Nat.le_of_eq hl)] using ho
      clear hke
      go_wp2
      go_ret
      exact ⟨_, _, rfl, ho', hb⟩
theorem eqTest_same {a0 : Int} {a1 : Int} {a2 : Int} {w : World} :
    Calls Try.prog 61 #[.agg #[.int .i64 a0, .int .i64 a1, .int .i64 a2], .agg #[.int .i64 a0, .int .i64 a1, .int .i64 a2]] w fun e w' => e = .returned (.bool true) ∧ Below w.heap.size w w' := by
  go_enter Try.func61, Try.ntmps61
  go_wp2
  go_ret
  refine ⟨rfl, ?_⟩
  go_grown
theorem eqTestS_same {A A' : Option Addr} {n n' c c' B B' : Nat} {l : List TestR} {w : World} (h : Reads w B 3 A n (l.flatMap TestR.cells)) (h' : Reads w B' 3 A' n' (l.flatMap TestR.cells)) (hB : B ≤ w.heap.size) (hB' : B' ≤ w.heap.size) (hn : n ≤ maxLen) :
    Calls Try.prog 24 #[.slice A n c, .slice A' n' c'] w fun e w' => e = .returned (.bool true) ∧ Below w.heap.size w w' := by
  have e1 := TestR.count h
  have e2 := TestR.count h'
  obtain rfl : n = n' := by omega
  unfold maxLen at hn
  clear e1 e2
  have hne : ((n : Int) != (n : Int)) = false := by simp
  go_enter Try.func24, Try.ntmps24
  go_wp2_with fail
  go_loopg [5] n (fun gk i wr => ∃ k : Nat, k ≤ n ∧ gk + k = n ∧ i = .int .i64 k ∧ Below w.heap.size w wr)
  case atStart => exact ⟨0, Nat.zero_le _, rfl, rfl, Below.refl _ _⟩
  case round =>
    obtain ⟨k, hk, hgk, rfl, hb⟩ := hrel
    have Hgk := Lib.hid hgk
    clear hgk
    by_cases hlt : k < n
    · obtain ⟨ad, rfl, hbl, hc0, hc1, hc2⟩ := TestR.rd (Reads.below h hb hB) hlt
      obtain ⟨ad', rfl, hbl', he0, he1, he2⟩ := TestR.rd (Reads.below h' hb hB') hlt
      have hk0 : (0 : Int) ≤ (k : Int) := by omega
      have hk1 : (k : Int) < (n : Int) := by omega
      go_wp2_with fail
      go_still_tail 8, (by kernel_rfl)
      change wpList _ _ _ _ _ wr.drew
      generalize hw2 : wr.drew = w2
      have hb2 : Below w.heap.size w w2 := by rw [← hw2]; exact hb.drew
      clear hw2 hc0 hc1 hc2 he0 he1 he2 hb
      go_wp2_with fail
      refine eqTest_same.mono ?_
      rintro e w3 ⟨rfl, b⟩
      have hb3 := hb2.trans (b.mono hb2.size)
      clear b hb2
      go_wp2_with fail
      have hgk := Hgk.out
      go_roundg (gk - 1)
      case rel => exact ⟨k + 1, by omega, by omega, by go_num, hb3⟩
      case measure => omega
    · go_wp2
      go_ret
      exact ⟨rfl, hb⟩
theorem szTestS_any {A : Option Addr} {n c B : Nat} {l : List TestR} {left : Int} {w : World} (h : Reads w B 3 A n (l.flatMap TestR.cells)) (h0 : 0 ≤ left) (h1 : left ≤ 1048576) (hc : n ≤ 9223372036854775807) (hz : ∀ x ∈ l, x.wf) :
    Calls Try.prog 20 #[.slice A n c, .int .i64 left] w fun e w' => ∃ v, e = .returned (.int .i64 v) ∧ Below w.heap.size w w' ∧ (0 ≤ v → (n : Int) ≤ left ∧ v = left - n) := by
  by_cases hlt : left < n
  · go_enter Try.func20, Try.ntmps20
    go_wp2
    go_ret
    exact ⟨_, rfl, Below.refl _ _, by omega⟩
  · go_enter Try.func20, Try.ntmps20
    go_wp2
    go_ret
    exact ⟨_, rfl, Below.refl _ _, by omega⟩
/-- The marks from m on. -/
def TestR.mark (m : Int) : TestR := ⟨m, m + 1, m + 1 + 1⟩
def TestR.marks (k : Int) (n : Nat) : List TestR := (List.range n).map fun i : Nat => TestR.mark (k + 3 * (i : Int))
theorem TestR.marks_set {l : List TestR} {k : Int} {n i : Nat} (h : i < n) (hl : l.length = n) : (TestR.marks k i ++ l.drop i).set i (TestR.mark (k + 3 * (i : Int))) = TestR.marks k (i + 1) ++ l.drop (i + 1) := by
  have hm : (TestR.marks k i).length = i := by simp [TestR.marks]
  rw [List.set_append_right _ _ (by omega), hm, Nat.sub_self, List.drop_eq_getElem_cons (by omega), List.set_cons_zero]
  simp [TestR.marks, List.range_succ]
theorem TestR.marks_at {k : Int} {n i : Nat} (h : i < n) : TestR.at_ (TestR.marks k n) i = TestR.mark (k + 3 * (i : Int)) := by
  simp [TestR.at_, TestR.marks, List.getD, h]
theorem markTestS_any {A : Option Addr} {n c B : Nat} {l : List TestR} {k : Int} {w : World} (h : Own w B 46 3 A n c (l.flatMap TestR.cells)) (hn : n ≤ 1048576) (h0 : 0 ≤ k) (h1 : k ≤ 1000000000) :
    Calls Try.prog 38 #[.slice A n c, .int .i64 k] w fun e w' => e = .returned (.int .i64 (k + 3 * (n : Int))) ∧ Own w' B 46 3 A n c ((TestR.marks k n).flatMap TestR.cells) ∧ Touch w w' A := by
  have HL := Lib.hid (TestR.count h.reads)
  go_enter Try.func38, Try.ntmps38
  go_wp2_with fail
  go_loopg [1, 5] n (fun gk kk i wr => ∃ i' : Nat, i' ≤ n ∧ gk + i' = n ∧ i = .int .i64 i' ∧ kk = .int .i64 (k + 3 * (i' : Int)) ∧
    Own wr B 46 3 A n c ((TestR.marks k i' ++ l.drop i').flatMap TestR.cells) ∧ Touch w wr A)
  case atStart => exact ⟨0, Nat.zero_le _, rfl, rfl, by simp, by simpa [TestR.marks] using h, Touch.refl _ _⟩
  case round =>
    obtain ⟨i, hk, hgk, rfl, rfl, ho, hg⟩ := hrel
    have Hgk := Lib.hid hgk
    clear hgk
    by_cases hlt : i < n
    · obtain ⟨ad, rfl⟩ : ∃ ad, A = some ad := by
        cases A with
        | none => have := ho.none_n; omega
        | some ad => exact ⟨ad, rfl⟩
      obtain ⟨g, off, sp⟩ := ad
      obtain ⟨rfl, rfl, hB, hlt'⟩ := ho.block_lt _ rfl
      have f0 := ho.frozenAt (j := i * 3)
      have f1 := ho.frozenAt (j := i * 3 + 1)
      have f2 := ho.frozenAt (j := i * 3 + 2)
      have g0 : ∃ u, wr.cell? ⟨g, i * 3, none⟩ = some u := ⟨_, TestR.own_get (j := 0) ho hlt (by omega)⟩
      have g1 : ∃ u, wr.cell? ⟨g, i * 3 + 1, none⟩ = some u := ⟨_, TestR.own_get (j := 1) ho hlt (by omega)⟩
      have g2 : ∃ u, wr.cell? ⟨g, i * 3 + 2, none⟩ = some u := ⟨_, TestR.own_get (j := 2) ho hlt (by omega)⟩
      obtain ⟨q0, g0⟩ := g0
      obtain ⟨q1, g1⟩ := g1
      obtain ⟨q2, g2⟩ := g2
      have Hst := Lib.hid (TestR.own_set ho hlt (TestR.mark (k + 3 * (i : Int))))
      go_wp2_with fail
      obtain ⟨ho2, hg2⟩ := Hst.out
      rw [TestR.marks_set hlt HL.out] at ho2
      have hgk := Hgk.out
      go_roundg (gk - 1)
      case rel => exact ⟨i + 1, by omega, by omega, by go_num, by go_num, ho2, hg.grown hg2 rfl⟩
      case measure => omega
    · have hke : i = n := by omega
      have ho' : Own wr B 46 3 A n c ((TestR.marks k n).flatMap TestR.cells) := by
        have hl := HL.out
        subst hke
        simpa [List.drop_eq_nil_of_le (Nat.le_of_eq hl)] using ho
      have Hke := Lib.hid hke
      clear hke ho
      go_wp2
      go_ret
      exact ⟨ret_int (by rw [Hke.out]), ho', hg⟩
theorem heldTestS_any {A : Option Addr} {n c B : Nat} {k : Int} {w : World} (h : Reads w B 3 A n ((TestR.marks k n).flatMap TestR.cells)) (hB : B ≤ w.heap.size) (hn : n ≤ 1048576) (h0 : 0 ≤ k) (h1 : k ≤ 1000000000) :
    Calls Try.prog 39 #[.slice A n c, .int .i64 k] w fun e w' => e = .returned (.int .i64 (k + 3 * (n : Int))) ∧ Below w.heap.size w w' := by
  go_enter Try.func39, Try.ntmps39
  go_wp2_with fail
  go_loopg [1, 5] n (fun gk kk i wr => ∃ i' : Nat, i' ≤ n ∧ gk + i' = n ∧ i = .int .i64 i' ∧ kk = .int .i64 (k + 3 * (i' : Int)) ∧ Below w.heap.size w wr)
  case atStart => exact ⟨0, Nat.zero_le _, rfl, rfl, by simp, Below.refl _ _⟩
  case round =>
    obtain ⟨i, hk, hgk, rfl, rfl, hb⟩ := hrel
    have Hgk := Lib.hid hgk
    clear hgk
    by_cases hlt : i < n
    · obtain ⟨ad, rfl, hbl, hc0, hc1, hc2⟩ := TestR.rd (Reads.below h hb hB) hlt
      rw [TestR.marks_at hlt] at hc0 hc1 hc2
      simp only [TestR.mark] at hc0 hc1 hc2
      go_wp2_with fail
      have hgk := Hgk.out
      go_roundg (gk - 1)
      case rel => exact ⟨i + 1, by omega, by omega, by go_num, by go_num, hb⟩
      case measure => omega
    · have hke : i = n := by omega
      have Hke := Lib.hid hke
      clear hke
      go_wp2
      go_ret
      exact ⟨ret_int (by rw [Hke.out]), hb⟩
end Go.Proofs.Ytdjoechokkbjeaa
