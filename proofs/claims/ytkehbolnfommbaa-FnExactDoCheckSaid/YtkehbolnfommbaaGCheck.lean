/- Check: a struct of one-cell fields: how it lies in memory; contracts of the functions that copy, compare, mark and read such structs. -/
import Derived.Test.YtkehbolnfommbaaS
import Derived.Handy
import Derived.StillTailTactics
import Derived.Test.YtkehbolnfommbaaM
import Derived.Deep.RegionHeld3
namespace Go.Proofs.Ytkehbolnfommbaa
open Go.RowKit
set_option maxRecDepth 100000
set_option linter.unusedVariables false

structure CheckR where
  Id : ByteArray
  EveryDays : Int
  EveryRides : Int
  LastDay : Int
  LastRide : Int
namespace CheckR
def cells (x : CheckR) : List Value := [.string x.Id, .int .i64 x.EveryDays, .int .i64 x.EveryRides, .int .i64 x.LastDay, .int .i64 x.LastRide]
def val (x : CheckR) : Value := .agg #[.string x.Id, .int .i64 x.EveryDays, .int .i64 x.EveryRides, .int .i64 x.LastDay, .int .i64 x.LastRide]
def zero : CheckR := ⟨ByteArray.empty, 0, 0, 0, 0⟩
instance : Inhabited CheckR := ⟨zero⟩
/-- Each field fits. -/
def wf (x : CheckR) : Prop := x.Id.size ≤ maxLen ∧ (Lit.int .i64 x.EveryDays).wf = true ∧ (Lit.int .i64 x.EveryRides).wf = true ∧ (Lit.int .i64 x.LastDay).wf = true ∧ (Lit.int .i64 x.LastRide).wf = true
/-- Element k. -/
def at_ (l : List CheckR) (k : Nat) : CheckR := l.getD k zero
theorem clen (x : CheckR) : x.cells.length = 5 := rfl
theorem rd {w : World} {B n k : Nat} {A : Option Addr} {l : List CheckR} (h : Reads w B 5 A n (l.flatMap cells)) (hk : k < n) :
    ∃ ad, A = some ad ∧ ad.block < B ∧ w.cell? (ad.add (k * 5)) = some (.string (at_ l k).Id) ∧
      w.cell? ⟨(ad.add (k * 5)).block, (ad.add (k * 5)).off + 1, none⟩ = some (.int .i64 (at_ l k).EveryDays) ∧
      w.cell? ⟨(ad.add (k * 5)).block, (ad.add (k * 5)).off + 2, none⟩ = some (.int .i64 (at_ l k).EveryRides) ∧
      w.cell? ⟨(ad.add (k * 5)).block, (ad.add (k * 5)).off + 3, none⟩ = some (.int .i64 (at_ l k).LastDay) ∧
      w.cell? ⟨(ad.add (k * 5)).block, (ad.add (k * 5)).off + 4, none⟩ = some (.int .i64 (at_ l k).LastRide) := by
  obtain ⟨ad, e, hb, hc⟩ := Reads.field clen (by omega) zero h hk
  exact ⟨ad, e, hb, by have := hc 0 _ rfl; rwa [addr_add_zero] at this, by have := hc 1 _ rfl; rwa [addr_succ] at this, by have := hc 2 _ rfl; rwa [addr_succ] at this, by have := hc 3 _ rfl; rwa [addr_succ] at this, by have := hc 4 _ rfl; rwa [addr_succ] at this⟩
theorem rd0 {w : World} {B n : Nat} {A : Option Addr} {l : List CheckR} (h : Reads w B 5 A n (l.flatMap cells)) (hk : 0 < n) :
    ∃ ad, A = some ad ∧ ad.block < B ∧ w.cell? (ad) = some (.string (at_ l 0).Id) ∧
      w.cell? ⟨ad.block, ad.off + 1, none⟩ = some (.int .i64 (at_ l 0).EveryDays) ∧
      w.cell? ⟨ad.block, ad.off + 2, none⟩ = some (.int .i64 (at_ l 0).EveryRides) ∧
      w.cell? ⟨ad.block, ad.off + 3, none⟩ = some (.int .i64 (at_ l 0).LastDay) ∧
      w.cell? ⟨ad.block, ad.off + 4, none⟩ = some (.int .i64 (at_ l 0).LastRide) := by
  obtain ⟨ad, e, hb, hc⟩ := rd h hk
  rw [Nat.zero_mul, addr_add_zero] at hc
  exact ⟨ad, e, hb, hc⟩
theorem count {w : World} {B n : Nat} {A : Option Addr} {l : List CheckR} (h : Reads w B 5 A n (l.flatMap cells)) : l.length = n := Reads.count clen (by omega) h
theorem own_get {w : World} {B e n c g k j : Nat} {l : List CheckR} (h : Own w B e 5 (some ⟨g, 0, none⟩) n c (l.flatMap cells)) (hk : k < n) (hj : j < 5) : w.cell? ⟨g, k * 5 + j, none⟩ = (at_ l k).cells[j]? := by
  have hl : l.length = n := count h.reads
  rw [h.cellAt (by omega), flat_get _ 5 clen zero l k j (by omega) hj]; rfl
/-- A whole element stored. -/
theorem own_set {w : World} {B e n c g k : Nat} {l : List CheckR} (h : Own w B e 5 (some ⟨g, 0, none⟩) n c (l.flatMap cells)) (hk : k < n) (x : CheckR) :
    Own (((((w.setCell ⟨g, k * 5, none⟩ (.string x.Id)).setCell ⟨g, k * 5 + 1, none⟩ (.int .i64 x.EveryDays)).setCell ⟨g, k * 5 + 2, none⟩ (.int .i64 x.EveryRides)).setCell ⟨g, k * 5 + 3, none⟩ (.int .i64 x.LastDay)).setCell ⟨g, k * 5 + 4, none⟩ (.int .i64 x.LastRide)) B e 5 (some ⟨g, 0, none⟩) n c ((l.set k x).flatMap cells) ∧ w.grownBy (((((w.setCell ⟨g, k * 5, none⟩ (.string x.Id)).setCell ⟨g, k * 5 + 1, none⟩ (.int .i64 x.EveryDays)).setCell ⟨g, k * 5 + 2, none⟩ (.int .i64 x.EveryRides)).setCell ⟨g, k * 5 + 3, none⟩ (.int .i64 x.LastDay)).setCell ⟨g, k * 5 + 4, none⟩ (.int .i64 x.LastRide)) (some g) := by
  have hl : l.length = n := count h.reads
  have s0 := h.stored (j := k * 5) (.string x.Id)
  have s1 := s0.1.stored (j := k * 5 + 1) (.int .i64 x.EveryDays)
  have s2 := s1.1.stored (j := k * 5 + 2) (.int .i64 x.EveryRides)
  have s3 := s2.1.stored (j := k * 5 + 3) (.int .i64 x.LastDay)
  have s4 := s3.1.stored (j := k * 5 + 4) (.int .i64 x.LastRide)
  refine ⟨?_, (((s0.2.trans s1.2).trans s2.2).trans s3.2).trans s4.2⟩
  have e := flat_set cells 5 clen l k x (by omega)
  simp only [cells, setN, Nat.add_assoc, Nat.reduceAdd] at e
  have := s4.1
  rwa [e] at this
theorem fill_zero (n : Nat) : (madeCells #[.string ByteArray.empty, .int .i64 0, .int .i64 0, .int .i64 0, .int .i64 0] (n * 5)).toList = (List.replicate n zero).flatMap cells := made_flat cells 5 clen (by omega) zero n _ rfl
theorem part_set {l : List CheckR} {n k : Nat} (hl : l.length = n) (hk : k < n) : (l.take k ++ List.replicate (n - k) zero).set k (at_ l k) = l.take (k + 1) ++ List.replicate (n - (k + 1)) zero := fill_next zero hl hk
end CheckR

theorem toCheck_any {a0 : ByteArray} {a1 : Int} {a2 : Int} {a3 : Int} {a4 : Int} {w : World} :
    Calls Try.prog 19 #[.agg #[.string a0, .int .i64 a1, .int .i64 a2, .int .i64 a3, .int .i64 a4]] w fun e w' => e = .returned (.agg #[.string a0, .int .i64 a1, .int .i64 a2, .int .i64 a3, .int .i64 a4]) ∧ Below w.heap.size w w' := by
  go_enter Try.func19, Try.ntmps19
  go_wp2
  refine bodyPost_ret (v := .agg #[.string a0, .int .i64 a1, .int .i64 a2, .int .i64 a3, .int .i64 a4]) (by simp [results, Try.results19, go_sem]) rfl ⟨rfl, ?_⟩
  go_grown
theorem info_Check : (Try.prog.info? 34).map (fun i => (i.zero, i.size, i.bytes)) = some (some (.agg #[.string ByteArray.empty, .int .i64 0, .int .i64 0, .int .i64 0, .int .i64 0]), 5, 48) := by kernel_rfl
theorem toCheckS_any {A : Option Addr} {n c B : Nat} {l : List CheckR} {w : World} (h : Reads w B 5 A n (l.flatMap CheckR.cells)) (hB : B ≤ w.heap.size) (hn : n ≤ 1048576) :
    Calls Try.prog 14 #[.slice A n c] w fun e w' => ∃ A' c', e = .returned (.slice A' n c') ∧ Own w' w.heap.size 34 5 A' n c' (l.flatMap CheckR.cells) ∧ Below w.heap.size w w' := by
  have HL := Lib.hid (CheckR.count h)
  obtain ⟨i0, hi, hz0, hz1, hz2⟩ := info_parts info_Check
  go_enter Try.func14, Try.ntmps14
  go_wp2_with (at_make; refine wpList_make_full _ rfl _ _ 25 rfl w.heap.size 34 i0 _ 5 Try.underlying25 hi hz0 hz1 _ _ _ _ n rfl rfl rfl rfl (by rw [hz2]; omega) (by simp only [maxLen]; omega) (Nat.le_refl _) ?_)
  intro w1 hown hgrow
  go_wp2_with fail
  have hb1 : Below w.heap.size w w1 := (Below.refl _ _).grown hgrow (Nat.le_refl _) (by simp)
  go_loopg [4] n (fun gk i wr => ∃ k : Nat, k ≤ n ∧ gk + k = n ∧ i = .int .i64 k ∧ Below w.heap.size w wr ∧ w.heap.size < wr.heap.size ∧
    Own wr w.heap.size 34 5 (some ⟨w.heap.size, 0, none⟩) n n ((l.take k ++ List.replicate (n - k) CheckR.zero).flatMap CheckR.cells))
  case atStart =>
    refine ⟨0, Nat.zero_le _, rfl, rfl, hb1, (Own.block_lt hown _ rfl).2.2.2, ?_⟩
    have e := CheckR.fill_zero n
    simp only [List.take_zero, List.nil_append, Nat.sub_zero]
    rw [← e]
    exact hown
  case round =>
    obtain ⟨k, hk, hgk, rfl, hb, hsz, ho⟩ := hrel
    have Hgk := Lib.hid hgk
    clear hb1 hown hgrow hgk
    by_cases hlt : k < n
    · obtain ⟨ad, rfl, hbl, hc0, hc1, hc2, hc3, hc4⟩ := CheckR.rd (Reads.below h hb hB) hlt
      go_wp2_with fail
      refine toCheck_any.mono ?_
      rintro e w2 ⟨rfl, b⟩
      have ho' := ho.below b
      have hb' := hb.trans (b.mono hb.size)
      have hsz' : w.heap.size < w2.heap.size := Nat.lt_of_lt_of_le hsz b.size
      clear ho hb b hsz hc0 hc1 hc2 hc3 hc4
      have f0 := ho'.frozenAt (j := k * 5)
      have f1 := ho'.frozenAt (j := k * 5 + 1)
      have f2 := ho'.frozenAt (j := k * 5 + 2)
      have f3 := ho'.frozenAt (j := k * 5 + 3)
      have f4 := ho'.frozenAt (j := k * 5 + 4)
      have g0 : ∃ u, w2.cell? ⟨w.heap.size, k * 5, none⟩ = some u := ⟨_, CheckR.own_get (j := 0) ho' hlt (by omega)⟩
      have g1 : ∃ u, w2.cell? ⟨w.heap.size, k * 5 + 1, none⟩ = some u := ⟨_, CheckR.own_get (j := 1) ho' hlt (by omega)⟩
      have g2 : ∃ u, w2.cell? ⟨w.heap.size, k * 5 + 2, none⟩ = some u := ⟨_, CheckR.own_get (j := 2) ho' hlt (by omega)⟩
      have g3 : ∃ u, w2.cell? ⟨w.heap.size, k * 5 + 3, none⟩ = some u := ⟨_, CheckR.own_get (j := 3) ho' hlt (by omega)⟩
      have g4 : ∃ u, w2.cell? ⟨w.heap.size, k * 5 + 4, none⟩ = some u := ⟨_, CheckR.own_get (j := 4) ho' hlt (by omega)⟩
      obtain ⟨q0, g0⟩ := g0
      obtain ⟨q1, g1⟩ := g1
      obtain ⟨q2, g2⟩ := g2
      obtain ⟨q3, g3⟩ := g3
      obtain ⟨q4, g4⟩ := g4
      have Hst := Lib.hid (CheckR.own_set ho' hlt (CheckR.at_ l k))
      go_wp2_with fail
      obtain ⟨ho2, hg2⟩ := Hst.out
      rw [CheckR.part_set HL.out hlt] at ho2
      have hgk := Hgk.out
      go_roundg (gk - 1)
      case rel => exact ⟨k + 1, by omega, by omega, by go_num, hb'.grown hg2 (by omega) (fun k hk => by injection hk; omega), Nat.lt_of_lt_of_le hsz' hg2.size, ho2⟩
      case measure => omega
    · have hke : k = n := by omega
      have ho' : Own wr w.heap.size 34 5 (some ⟨w.heap.size, 0, none⟩) n n (l.flatMap CheckR.cells) := by
        have hl := HL.out
        subst hke
        simpa [List.take_of_length_le (Nat.le_of_eq hl)] using ho
      clear hke
      go_wp2
      go_ret
      exact ⟨_, _, rfl, ho', hb⟩
theorem eqCheck_same {a0 : ByteArray} {a1 : Int} {a2 : Int} {a3 : Int} {a4 : Int} {w : World} :
    Calls Try.prog 45 #[.agg #[.string a0, .int .i64 a1, .int .i64 a2, .int .i64 a3, .int .i64 a4], .agg #[.string a0, .int .i64 a1, .int .i64 a2, .int .i64 a3, .int .i64 a4]] w fun e w' => e = .returned (.bool true) ∧ Below w.heap.size w w' := by
  go_enter Try.func45, Try.ntmps45
  go_wp2
  go_ret
  refine ⟨rfl, ?_⟩
  go_grown
theorem eqCheckS_same {A A' : Option Addr} {n n' c c' B B' : Nat} {l : List CheckR} {w : World} (h : Reads w B 5 A n (l.flatMap CheckR.cells)) (h' : Reads w B' 5 A' n' (l.flatMap CheckR.cells)) (hB : B ≤ w.heap.size) (hB' : B' ≤ w.heap.size) (hn : n ≤ maxLen) :
    Calls Try.prog 16 #[.slice A n c, .slice A' n' c'] w fun e w' => e = .returned (.bool true) ∧ Below w.heap.size w w' := by
  have e1 := CheckR.count h
  have e2 := CheckR.count h'
  obtain rfl : n = n' := by omega
  unfold maxLen at hn
  clear e1 e2
  have hne : ((n : Int) != (n : Int)) = false := by simp
  go_enter Try.func16, Try.ntmps16
  go_wp2_with fail
  go_loopg [5] n (fun gk i wr => ∃ k : Nat, k ≤ n ∧ gk + k = n ∧ i = .int .i64 k ∧ Below w.heap.size w wr)
  case atStart => exact ⟨0, Nat.zero_le _, rfl, rfl, Below.refl _ _⟩
  case round =>
    obtain ⟨k, hk, hgk, rfl, hb⟩ := hrel
    have Hgk := Lib.hid hgk
    clear hgk
    by_cases hlt : k < n
    · obtain ⟨ad, rfl, hbl, hc0, hc1, hc2, hc3, hc4⟩ := CheckR.rd (Reads.below h hb hB) hlt
      obtain ⟨ad', rfl, hbl', he0, he1, he2, he3, he4⟩ := CheckR.rd (Reads.below h' hb hB') hlt
      have hk0 : (0 : Int) ≤ (k : Int) := by omega
      have hk1 : (k : Int) < (n : Int) := by omega
      go_wp2_with fail
      go_still_tail 8, (by kernel_rfl)
      change wpList _ _ _ _ _ wr.drew
      generalize hw2 : wr.drew = w2
      have hb2 : Below w.heap.size w w2 := by rw [← hw2]; exact hb.drew
      clear hw2 hc0 hc1 hc2 hc3 hc4 he0 he1 he2 he3 he4 hb
      go_wp2_with fail
      refine eqCheck_same.mono ?_
      rintro e w3 ⟨rfl, b⟩
      have hb3 := hb2.trans (b.mono hb2.size)
      clear b hb2
      go_wp2_with fail
      have hgk := Hgk.out
      go_roundg (gk - 1)
      case rel => exact ⟨k + 1, by omega, by omega, by go_num, hb3⟩
      case measure => omega
    · go_wp2
      go_ret
      exact ⟨rfl, hb⟩
theorem szCheck_one {a0 : ByteArray} {a1 : Int} {a2 : Int} {a3 : Int} {a4 : Int} {left : Int} {w : World} (h0 : 0 ≤ left) (h1 : left ≤ 1048576) (hs : a0.size ≤ maxLen) :
    Calls Try.prog 17 #[.agg #[.string a0, .int .i64 a1, .int .i64 a2, .int .i64 a3, .int .i64 a4], .int .i64 left] w fun e w' => ∃ v, e = .returned (.int .i64 v) ∧ Below w.heap.size w w' ∧ (0 ≤ v → (a0.size : Int) ≤ left ∧ v = left - a0.size) ∧ v ≤ left := by
  unfold maxLen at hs
  by_cases hlt : left < (a0.size : Int)
  · go_enter Try.func17, Try.ntmps17
    go_wp2_with fail
    go_ret
    refine ⟨_, rfl, ?_, by omega, by omega⟩
    go_grown
  · go_enter Try.func17, Try.ntmps17
    go_wp2_with fail
    go_ret
    refine ⟨_, rfl, ?_, by omega, by omega⟩
    go_grown
set_option maxHeartbeats 1000000 in
theorem szCheckS_any {A : Option Addr} {n c B : Nat} {l : List CheckR} {left : Int} {w : World} (h : Reads w B 5 A n (l.flatMap CheckR.cells)) (h0 : 0 ≤ left) (h1 : left ≤ 1048576) (hc : n ≤ 9223372036854775807) (hz : ∀ x ∈ l, x.wf) (hB : B ≤ w.heap.size) :
    Calls Try.prog 12 #[.slice A n c, .int .i64 left] w fun e w' => ∃ v, e = .returned (.int .i64 v) ∧ Below w.heap.size w w' ∧ (0 ≤ v → (n : Int) ≤ left ∧ v ≤ left ∧ ∀ x ∈ l, (x.Id.size : Int) ≤ left) := by
  have HL := Lib.hid (CheckR.count h)
  have Hwf := Lib.hid hz
  clear hz
  by_cases hlt : left < n
  · go_enter Try.func12, Try.ntmps12
    go_wp2_with fail
    go_ret
    exact ⟨_, rfl, Below.refl _ _, by omega⟩
  · go_enter Try.func12, Try.ntmps12
    go_wp2_with fail
    go_loopg [1, 5] n (fun gk lf i wr => ∃ (k : Nat) (v : Int), k ≤ n ∧ gk + k = n ∧ i = .int .i64 k ∧ lf = .int .i64 v ∧ 0 ≤ v ∧ v ≤ left ∧ Below w.heap.size w wr ∧ ∀ x ∈ l.take k, (x.Id.size : Int) ≤ left)
    case atStart => exact ⟨0, left - n, Nat.zero_le _, rfl, rfl, rfl, by omega, by omega, Below.refl _ _, fun x hx => by simp at hx⟩
    case round =>
      obtain ⟨k, v, hk, hgk, rfl, rfl, hv0, hv1, hb, hall⟩ := hrel
      have Hgk := Lib.hid hgk
      have Hall := Lib.hid hall
      have hbs := hb.size
      clear hgk hall
      by_cases hlt2 : k < n
      · obtain ⟨ad, rfl, hbl, hc0, hc1, hc2, hc3, hc4⟩ := CheckR.rd (Reads.below h hb hB) hlt2
        have Htake := Lib.hid (take_succ_at CheckR.zero (l := l) (k := k) (by rw [HL.out]; exact hlt2))
        have hwf : (CheckR.at_ l k).Id.size ≤ maxLen := (Hwf.out _ (by
          have hm : k < l.length := by rw [HL.out]; exact hlt2
          show l.getD k CheckR.zero ∈ l
          simp [List.getD, List.getElem?_eq_getElem hm])).1
        go_wp2_with fail
        refine (szCheck_one hv0 (by omega) hwf).mono ?_
        rintro e w2 ⟨v2, rfl, b, hv2, hv3⟩
        have hb2 := hb.trans (b.mono hbs)
        clear hb b hc0 hc1 hc2 hc3 hc4
        by_cases hn2 : v2 < 0
        · go_wp2_with fail
          go_ret
          exact ⟨_, rfl, hb2, by omega⟩
        · obtain ⟨hq1, hq2⟩ := hv2 (by omega)
          go_wp2_with fail
          have hgk := Hgk.out
          go_roundg (gk - 1)
          case rel =>
            refine ⟨k + 1, v2, by omega, by omega, by go_num, int_eq (by omega), by omega, by omega, hb2, fun x hx => ?_⟩
            rw [Htake.out, List.mem_append] at hx
            rcases hx with hx | hx
            · exact Hall.out x hx
            · rw [List.mem_singleton] at hx
              subst hx
              have : ((CheckR.at_ l k).Id.size : Int) ≤ v := hq1
              show ((CheckR.at_ l k).Id.size : Int) ≤ left
              omega
          case measure => omega
      · have hke : n = k := by omega
        subst hke
        have hd : ¬ ((n : Int) < (n : Int)) := by omega
        go_wp2_with fail
        go_ret
        have hA : ∀ x ∈ l, (x.Id.size : Int) ≤ left := fun x hx => Hall.out x (by rw [List.take_of_length_le (by rw [HL.out]; exact Nat.le_refl _)]; exact hx)
        exact ⟨v, rfl, hb, by first | exact hA | exact fun _ => ⟨by omega, hA⟩ | exact fun _ => ⟨by omega, by omega, hA⟩⟩
/-- The marks from m on. -/
def CheckR.mark (m : Int) : CheckR := ⟨(mtx (m)), m + 1, m + 1 + 1, m + 1 + 1 + 1, m + 1 + 1 + 1 + 1⟩
def CheckR.marks (k : Int) (n : Nat) : List CheckR := (List.range n).map fun i : Nat => CheckR.mark (k + 5 * (i : Int))
theorem CheckR.marks_set {l : List CheckR} {k : Int} {n i : Nat} (h : i < n) (hl : l.length = n) : (CheckR.marks k i ++ l.drop i).set i (CheckR.mark (k + 5 * (i : Int))) = CheckR.marks k (i + 1) ++ l.drop (i + 1) := by
  have hm : (CheckR.marks k i).length = i := by simp [CheckR.marks]
  rw [List.set_append_right _ _ (by omega), hm, Nat.sub_self, List.drop_eq_getElem_cons (by omega), List.set_cons_zero]
  simp [CheckR.marks, List.range_succ]
theorem CheckR.marks_at {k : Int} {n i : Nat} (h : i < n) : CheckR.at_ (CheckR.marks k n) i = CheckR.mark (k + 5 * (i : Int)) := by
  simp [CheckR.at_, CheckR.marks, List.getD, h]
theorem markCheckS_any {A : Option Addr} {n c B : Nat} {l : List CheckR} {k : Int} {w : World} (h : Own w B 34 5 A n c (l.flatMap CheckR.cells)) (hn : n ≤ 1048576) (h0 : 0 ≤ k) (h1 : k ≤ 1000000000) :
    Calls Try.prog 31 #[.slice A n c, .int .i64 k] w fun e w' => e = .returned (.int .i64 (k + 5 * (n : Int))) ∧ Own w' B 34 5 A n c ((CheckR.marks k n).flatMap CheckR.cells) ∧ Touch w w' A := by
  have HL := Lib.hid (CheckR.count h.reads)
  go_enter Try.func31, Try.ntmps31
  go_wp2_with fail
  go_loopg [1, 5] n (fun gk kk i wr => ∃ i' : Nat, i' ≤ n ∧ gk + i' = n ∧ i = .int .i64 i' ∧ kk = .int .i64 (k + 5 * (i' : Int)) ∧
    Own wr B 34 5 A n c ((CheckR.marks k i' ++ l.drop i').flatMap CheckR.cells) ∧ Touch w wr A)
  case atStart => exact ⟨0, Nat.zero_le _, rfl, rfl, by simp, by simpa [CheckR.marks] using h, Touch.refl _ _⟩
  case round =>
    obtain ⟨i, hk, hgk, rfl, rfl, ho, hg⟩ := hrel
    have Hgk := Lib.hid hgk
    clear hgk
    by_cases hlt : i < n
    · obtain ⟨ad, rfl⟩ : ∃ ad, A = some ad := by
        cases A with
        | none => have := ho.none_n; omega
        | some ad => exact ⟨ad, rfl⟩
      obtain ⟨g, off, sp⟩ := ad
      obtain ⟨rfl, rfl, hB, hlt'⟩ := ho.block_lt _ rfl
      go_wp2_with fail
      refine (markText_any _ _ (by omega)).mono ?_
      rintro e w2 ⟨rfl, b⟩
      have ho1 := ho.below b
      have hg1 := hg.step b
      clear ho hg b hlt'
      generalize w2 = wr at *
      have ho := ho1
      have hg := hg1
      clear ho1 hg1
      have f0 := ho.frozenAt (j := i * 5)
      have f1 := ho.frozenAt (j := i * 5 + 1)
      have f2 := ho.frozenAt (j := i * 5 + 2)
      have f3 := ho.frozenAt (j := i * 5 + 3)
      have f4 := ho.frozenAt (j := i * 5 + 4)
      have g0 : ∃ u, wr.cell? ⟨g, i * 5, none⟩ = some u := ⟨_, CheckR.own_get (j := 0) ho hlt (by omega)⟩
      have g1 : ∃ u, wr.cell? ⟨g, i * 5 + 1, none⟩ = some u := ⟨_, CheckR.own_get (j := 1) ho hlt (by omega)⟩
      have g2 : ∃ u, wr.cell? ⟨g, i * 5 + 2, none⟩ = some u := ⟨_, CheckR.own_get (j := 2) ho hlt (by omega)⟩
      have g3 : ∃ u, wr.cell? ⟨g, i * 5 + 3, none⟩ = some u := ⟨_, CheckR.own_get (j := 3) ho hlt (by omega)⟩
      have g4 : ∃ u, wr.cell? ⟨g, i * 5 + 4, none⟩ = some u := ⟨_, CheckR.own_get (j := 4) ho hlt (by omega)⟩
      obtain ⟨q0, g0⟩ := g0
      obtain ⟨q1, g1⟩ := g1
      obtain ⟨q2, g2⟩ := g2
      obtain ⟨q3, g3⟩ := g3
      obtain ⟨q4, g4⟩ := g4
      have Hst := Lib.hid (CheckR.own_set ho hlt (CheckR.mark (k + 5 * (i : Int))))
      go_wp2_with fail
      obtain ⟨ho2, hg2⟩ := Hst.out
      rw [CheckR.marks_set hlt HL.out] at ho2
      have hgk := Hgk.out
      go_roundg (gk - 1)
      case rel => exact ⟨i + 1, by omega, by omega, by go_num, by go_num, ho2, hg.grown hg2 rfl⟩
      case measure => omega
    · have hke : i = n := by omega
      have ho' : Own wr B 34 5 A n c ((CheckR.marks k n).flatMap CheckR.cells) := by
        have hl := HL.out
        subst hke
        simpa [List.drop_eq_nil_of_le (Nat.le_of_eq hl)] using ho
      have Hke := Lib.hid hke
      clear hke ho
      go_wp2
      go_ret
      exact ⟨ret_int (by rw [Hke.out]), ho', hg⟩
set_option maxHeartbeats 1000000 in
theorem heldCheckS_any {A : Option Addr} {n c B : Nat} {k : Int} {w : World} (h : Reads w B 5 A n ((CheckR.marks k n).flatMap CheckR.cells)) (hB : B ≤ w.heap.size) (hn : n ≤ 1048576) (h0 : 0 ≤ k) (h1 : k ≤ 1000000000) :
    Calls Try.prog 32 #[.slice A n c, .int .i64 k] w fun e w' => e = .returned (.int .i64 (k + 5 * (n : Int))) ∧ Below w.heap.size w w' := by
  go_enter Try.func32, Try.ntmps32
  go_wp2_with fail
  go_loopg [1, 5] n (fun gk kk i wr => ∃ i' : Nat, i' ≤ n ∧ gk + i' = n ∧ i = .int .i64 i' ∧ kk = .int .i64 (k + 5 * (i' : Int)) ∧ Below w.heap.size w wr)
  case atStart => exact ⟨0, Nat.zero_le _, rfl, rfl, by simp, Below.refl _ _⟩
  case round =>
    obtain ⟨i, hk, hgk, rfl, rfl, hb⟩ := hrel
    have Hgk := Lib.hid hgk
    have hbs := hb.size
    clear hgk
    by_cases hlt : i < n
    · obtain ⟨ad, rfl, hbl, hc0, hc1, hc2, hc3, hc4⟩ := CheckR.rd (Reads.below h hb hB) hlt
      rw [CheckR.marks_at hlt] at hc0 hc1 hc2 hc3 hc4
      simp only [CheckR.mark] at hc0 hc1 hc2 hc3 hc4
      obtain ⟨ad1, e1, _, hx0, _⟩ := CheckR.rd (k := 0) (Reads.below h hb hB) (by omega)
      injection e1 with e1
      subst e1
      rw [Nat.zero_mul, addr_add_zero] at hx0
      obtain ⟨b0, o0, sp⟩ := ad
      have hsp := World.cell?_spot hx0
      simp only at hsp
      subst hsp
      simp only [Addr.add_lit] at hc0 hc1 hc2 hc3 hc4 hbl
      have hD : Below wr.heap.size wr wr.drew := (Below.refl _ _).drew
      have hi0 : (0 : Int) ≤ (i : Int) := by omega
      have hi1 : (i : Int) < (n : Int) := by omega
      go_wp2_with fail
      go_region_held3 (fun w' => w'.cell? ⟨b0, o0 + i * 5, none⟩ = some (.string (mtx (k + 5 * (i : Int)))) ∧ w'.cell? ⟨b0, o0 + i * 5 + 1, none⟩ = some (.int .i64 (k + 5 * (i : Int) + 1)) ∧ w'.cell? ⟨b0, o0 + i * 5 + 2, none⟩ = some (.int .i64 (k + 5 * (i : Int) + 1 + 1)) ∧ w'.cell? ⟨b0, o0 + i * 5 + 3, none⟩ = some (.int .i64 (k + 5 * (i : Int) + 1 + 1 + 1)) ∧ w'.cell? ⟨b0, o0 + i * 5 + 4, none⟩ = some (.int .i64 (k + 5 * (i : Int) + 1 + 1 + 1 + 1)) ∧ Below wr.heap.size wr w')
        (first
          | (refine ⟨?_, ?_, ?_, ?_, ?_, by with_reducible exact hD⟩; exact hc0; exact hc1; exact hc2; exact hc3; exact hc4)
          | (go_split_ands; have hbS : Below wr.heap.size wr _ := (by with_reducible assumption); have hsS := hbS.size; refine ⟨?_, ?_, ?_, ?_, ?_, ?_⟩ <;> first | with_reducible exact hbS.trans (b.mono hsS) | with_reducible exact hbS.trans (b.mono (by simpa using hsS)) | (rw [b.cell (by simp only []; first | omega | (simp; omega))]; first | with_reducible assumption | exact hc0 | exact hc1 | exact hc2 | exact hc3 | exact hc4)))
        ((first
          | (go_at_call 64; refine (markText_any _ _ (by omega)).mono ?_; rintro e w3 ⟨rfl, b⟩)))
      have hbS : Below wr.heap.size wr w3 := by go_split_ands; with_reducible assumption
      have hb3 := hb.trans (hbS.mono hbs)
      go_split_ands
      go_wp2_with fail
      have hgk := Hgk.out
      go_roundg (gk - 1)
      case rel => exact ⟨i + 1, by omega, by omega, by go_num, by go_num, hb3⟩
      case measure => omega
    · have hke : i = n := by omega
      have Hke := Lib.hid hke
      clear hke
      go_wp2_with fail
      go_ret
      exact ⟨ret_int (by rw [Hke.out]), hb⟩
end Go.Proofs.Ytkehbolnfommbaa
