/- Group: a struct of one-cell fields: how it lies in memory; contracts of the functions that copy, compare, mark and read such structs. -/
import Derived.Test.YtmnpehajojdhcaaS
import Derived.Handy
import Derived.StillTailTactics
import Derived.Test.YtmnpehajojdhcaaM
import Derived.Deep.RegionHeld3
namespace Go.Proofs.Ytmnpehajojdhcaa
open Go.RowKit
set_option maxRecDepth 100000
set_option linter.unusedVariables false

structure GroupR where
  Id : ByteArray
  People : Int
  Bikes : Int
  Kilos : Int
namespace GroupR
def cells (x : GroupR) : List Value := [.string x.Id, .int .i64 x.People, .int .i64 x.Bikes, .int .i64 x.Kilos]
def val (x : GroupR) : Value := .agg #[.string x.Id, .int .i64 x.People, .int .i64 x.Bikes, .int .i64 x.Kilos]
def zero : GroupR := ⟨ByteArray.empty, 0, 0, 0⟩
instance : Inhabited GroupR := ⟨zero⟩
/-- Each field fits. -/
def wf (x : GroupR) : Prop := x.Id.size ≤ maxLen ∧ (Lit.int .i64 x.People).wf = true ∧ (Lit.int .i64 x.Bikes).wf = true ∧ (Lit.int .i64 x.Kilos).wf = true
/-- Element k. -/
def at_ (l : List GroupR) (k : Nat) : GroupR := l.getD k zero
theorem clen (x : GroupR) : x.cells.length = 4 := rfl
theorem rd {w : World} {B n k : Nat} {A : Option Addr} {l : List GroupR} (h : Reads w B 4 A n (l.flatMap cells)) (hk : k < n) :
    ∃ ad, A = some ad ∧ ad.block < B ∧ w.cell? (ad.add (k * 4)) = some (.string (at_ l k).Id) ∧
      w.cell? ⟨(ad.add (k * 4)).block, (ad.add (k * 4)).off + 1, none⟩ = some (.int .i64 (at_ l k).People) ∧
      w.cell? ⟨(ad.add (k * 4)).block, (ad.add (k * 4)).off + 2, none⟩ = some (.int .i64 (at_ l k).Bikes) ∧
      w.cell? ⟨(ad.add (k * 4)).block, (ad.add (k * 4)).off + 3, none⟩ = some (.int .i64 (at_ l k).Kilos) := by
  obtain ⟨ad, e, hb, hc⟩ := Reads.field clen (by omega) zero h hk
  exact ⟨ad, e, hb, by have := hc 0 _ rfl; rwa [addr_add_zero] at this, by have := hc 1 _ rfl; rwa [addr_succ] at this, by have := hc 2 _ rfl; rwa [addr_succ] at this, by have := hc 3 _ rfl; rwa [addr_succ] at this⟩
theorem rd0 {w : World} {B n : Nat} {A : Option Addr} {l : List GroupR} (h : Reads w B 4 A n (l.flatMap cells)) (hk : 0 < n) :
    ∃ ad, A = some ad ∧ ad.block < B ∧ w.cell? (ad) = some (.string (at_ l 0).Id) ∧
      w.cell? ⟨ad.block, ad.off + 1, none⟩ = some (.int .i64 (at_ l 0).People) ∧
      w.cell? ⟨ad.block, ad.off + 2, none⟩ = some (.int .i64 (at_ l 0).Bikes) ∧
      w.cell? ⟨ad.block, ad.off + 3, none⟩ = some (.int .i64 (at_ l 0).Kilos) := by
  obtain ⟨ad, e, hb, hc⟩ := rd h hk
  rw [Nat.zero_mul, addr_add_zero] at hc
  exact ⟨ad, e, hb, hc⟩
theorem count {w : World} {B n : Nat} {A : Option Addr} {l : List GroupR} (h : Reads w B 4 A n (l.flatMap cells)) : l.length = n := Reads.count clen (by omega) h
theorem own_get {w : World} {B e n c g k j : Nat} {l : List GroupR} (h : Own w B e 4 (some ⟨g, 0, none⟩) n c (l.flatMap cells)) (hk : k < n) (hj : j < 4) : w.cell? ⟨g, k * 4 + j, none⟩ = (at_ l k).cells[j]? := by
  have hl : l.length = n := count h.reads
  rw [h.cellAt (by omega), flat_get _ 4 clen zero l k j (by omega) hj]; rfl
/-- A whole element stored. -/
theorem own_set {w : World} {B e n c g k : Nat} {l : List GroupR} (h : Own w B e 4 (some ⟨g, 0, none⟩) n c (l.flatMap cells)) (hk : k < n) (x : GroupR) :
    Own ((((w.setCell ⟨g, k * 4, none⟩ (.string x.Id)).setCell ⟨g, k * 4 + 1, none⟩ (.int .i64 x.People)).setCell ⟨g, k * 4 + 2, none⟩ (.int .i64 x.Bikes)).setCell ⟨g, k * 4 + 3, none⟩ (.int .i64 x.Kilos)) B e 4 (some ⟨g, 0, none⟩) n c ((l.set k x).flatMap cells) ∧ w.grownBy ((((w.setCell ⟨g, k * 4, none⟩ (.string x.Id)).setCell ⟨g, k * 4 + 1, none⟩ (.int .i64 x.People)).setCell ⟨g, k * 4 + 2, none⟩ (.int .i64 x.Bikes)).setCell ⟨g, k * 4 + 3, none⟩ (.int .i64 x.Kilos)) (some g) := by
  have hl : l.length = n := count h.reads
  have s0 := h.stored (j := k * 4) (.string x.Id)
  have s1 := s0.1.stored (j := k * 4 + 1) (.int .i64 x.People)
  have s2 := s1.1.stored (j := k * 4 + 2) (.int .i64 x.Bikes)
  have s3 := s2.1.stored (j := k * 4 + 3) (.int .i64 x.Kilos)
  refine ⟨?_, ((s0.2.trans s1.2).trans s2.2).trans s3.2⟩
  have e := flat_set cells 4 clen l k x (by omega)
  simp only [cells, setN, Nat.add_assoc, Nat.reduceAdd] at e
  have := s3.1
  rwa [e] at this
theorem fill_zero (n : Nat) : (madeCells #[.string ByteArray.empty, .int .i64 0, .int .i64 0, .int .i64 0] (n * 4)).toList = (List.replicate n zero).flatMap cells := made_flat cells 4 clen (by omega) zero n _ rfl
theorem part_set {l : List GroupR} {n k : Nat} (hl : l.length = n) (hk : k < n) : (l.take k ++ List.replicate (n - k) zero).set k (at_ l k) = l.take (k + 1) ++ List.replicate (n - (k + 1)) zero := fill_next zero hl hk
end GroupR

theorem toGroup_any {a0 : ByteArray} {a1 : Int} {a2 : Int} {a3 : Int} {w : World} :
    Calls Try.prog 47 #[.agg #[.string a0, .int .i64 a1, .int .i64 a2, .int .i64 a3]] w fun e w' => e = .returned (.agg #[.string a0, .int .i64 a1, .int .i64 a2, .int .i64 a3]) ∧ Below w.heap.size w w' := by
  go_enter Try.func47, Try.ntmps47
  go_wp2
  refine bodyPost_ret (v := .agg #[.string a0, .int .i64 a1, .int .i64 a2, .int .i64 a3]) (by simp [results, Try.results47, go_sem]) rfl ⟨rfl, ?_⟩
  go_grown
theorem info_Group : (Try.prog.info? 86).map (fun i => (i.zero, i.size, i.bytes)) = some (some (.agg #[.string ByteArray.empty, .int .i64 0, .int .i64 0, .int .i64 0]), 4, 40) := by kernel_rfl
theorem toGroupS_any {A : Option Addr} {n c B : Nat} {l : List GroupR} {w : World} (h : Reads w B 4 A n (l.flatMap GroupR.cells)) (hB : B ≤ w.heap.size) (hn : n ≤ 1048576) :
    Calls Try.prog 15 #[.slice A n c] w fun e w' => ∃ A' c', e = .returned (.slice A' n c') ∧ Own w' w.heap.size 86 4 A' n c' (l.flatMap GroupR.cells) ∧ Below w.heap.size w w' := by
  have HL := Lib.hid (GroupR.count h)
  obtain ⟨i0, hi, hz0, hz1, hz2⟩ := info_parts info_Group
  go_enter Try.func15, Try.ntmps15
  go_wp2_with (at_make; refine wpList_make_full _ rfl _ _ 34 rfl w.heap.size 86 i0 _ 4 Try.underlying34 hi hz0 hz1 _ _ _ _ n rfl rfl rfl rfl (by rw [hz2]; omega) (by simp only [maxLen]; omega) (Nat.le_refl _) ?_)
  intro w1 hown hgrow
  go_wp2_with fail
  have hb1 : Below w.heap.size w w1 := (Below.refl _ _).grown hgrow (Nat.le_refl _) (by simp)
  go_loopg [4] n (fun gk i wr => ∃ k : Nat, k ≤ n ∧ gk + k = n ∧ i = .int .i64 k ∧ Below w.heap.size w wr ∧ w.heap.size < wr.heap.size ∧
    Own wr w.heap.size 86 4 (some ⟨w.heap.size, 0, none⟩) n n ((l.take k ++ List.replicate (n - k) GroupR.zero).flatMap GroupR.cells))
  case atStart =>
    refine ⟨0, Nat.zero_le _, rfl, rfl, hb1, (Own.block_lt hown _ rfl).2.2.2, ?_⟩
    have e := GroupR.fill_zero n
    simp only [List.take_zero, List.nil_append, Nat.sub_zero]
    rw [← e]
    exact hown
  case round =>
    obtain ⟨k, hk, hgk, rfl, hb, hsz, ho⟩ := hrel
    have Hgk := Lib.hid hgk
    clear hb1 hown hgrow hgk
    by_cases hlt : k < n
    · obtain ⟨ad, rfl, hbl, hc0, hc1, hc2, hc3⟩ := GroupR.rd (Reads.below h hb hB) hlt
      go_wp2_with fail
      refine toGroup_any.mono ?_
      rintro e w2 ⟨rfl, b⟩
      have ho' := ho.below b
      have hb' := hb.trans (b.mono hb.size)
      have hsz' : w.heap.size < w2.heap.size := Nat.lt_of_lt_of_le hsz b.size
      clear ho hb b hsz hc0 hc1 hc2 hc3
      have f0 := ho'.frozenAt (j := k * 4)
      have f1 := ho'.frozenAt (j := k * 4 + 1)
      have f2 := ho'.frozenAt (j := k * 4 + 2)
      have f3 := ho'.frozenAt (j := k * 4 + 3)
      have g0 : ∃ u, w2.cell? ⟨w.heap.size, k * 4, none⟩ = some u := ⟨_, GroupR.own_get (j := 0) ho' hlt (by omega)⟩
      have g1 : ∃ u, w2.cell? ⟨w.heap.size, k * 4 + 1, none⟩ = some u := ⟨_, GroupR.own_get (j := 1) ho' hlt (by omega)⟩
      have g2 : ∃ u, w2.cell? ⟨w.heap.size, k * 4 + 2, none⟩ = some u := ⟨_, GroupR.own_get (j := 2) ho' hlt (by omega)⟩
      have g3 : ∃ u, w2.cell? ⟨w.heap.size, k * 4 + 3, none⟩ = some u := ⟨_, GroupR.own_get (j := 3) ho' hlt (by omega)⟩
      obtain ⟨q0, g0⟩ := g0
      obtain ⟨q1, g1⟩ := g1
      obtain ⟨q2, g2⟩ := g2
      obtain ⟨q3, g3⟩ := g3
      have Hst := Lib.hid (GroupR.own_set ho' hlt (GroupR.at_ l k))
      go_wp2_with fail
      obtain ⟨ho2, hg2⟩ := Hst.out
      rw [GroupR.part_set HL.out hlt] at ho2
      have hgk := Hgk.out
      go_roundg (gk - 1)
      case rel => exact ⟨k + 1, by omega, by omega, by go_num, hb'.grown hg2 (by omega) (fun k hk => by injection hk; omega), Nat.lt_of_lt_of_le hsz' hg2.size, ho2⟩
      case measure => omega
    · have hke : k = n := by omega
      have ho' : Own wr w.heap.size 86 4 (some ⟨w.heap.size, 0, none⟩) n n (l.flatMap GroupR.cells) := by
        have hl := HL.out
        subst hke
        simpa [List.take_of_length_le (Nat.le_of_eq hl)] using ho
      clear hke
      go_wp2
      go_ret
      exact ⟨_, _, rfl, ho', hb⟩
theorem eqGroup_same {a0 : ByteArray} {a1 : Int} {a2 : Int} {a3 : Int} {w : World} :
    Calls Try.prog 50 #[.agg #[.string a0, .int .i64 a1, .int .i64 a2, .int .i64 a3], .agg #[.string a0, .int .i64 a1, .int .i64 a2, .int .i64 a3]] w fun e w' => e = .returned (.bool true) ∧ Below w.heap.size w w' := by
  go_enter Try.func50, Try.ntmps50
  go_wp2
  go_ret
  refine ⟨rfl, ?_⟩
  go_grown
theorem eqGroupS_same {A A' : Option Addr} {n n' c c' B B' : Nat} {l : List GroupR} {w : World} (h : Reads w B 4 A n (l.flatMap GroupR.cells)) (h' : Reads w B' 4 A' n' (l.flatMap GroupR.cells)) (hB : B ≤ w.heap.size) (hB' : B' ≤ w.heap.size) (hn : n ≤ maxLen) :
    Calls Try.prog 18 #[.slice A n c, .slice A' n' c'] w fun e w' => e = .returned (.bool true) ∧ Below w.heap.size w w' := by
  have e1 := GroupR.count h
  have e2 := GroupR.count h'
  obtain rfl : n = n' := by omega
  unfold maxLen at hn
  clear e1 e2
  have hne : ((n : Int) != (n : Int)) = false := by simp
  go_enter Try.func18, Try.ntmps18
  go_wp2_with fail
  go_loopg [5] n (fun gk i wr => ∃ k : Nat, k ≤ n ∧ gk + k = n ∧ i = .int .i64 k ∧ Below w.heap.size w wr)
  case atStart => exact ⟨0, Nat.zero_le _, rfl, rfl, Below.refl _ _⟩
  case round =>
    obtain ⟨k, hk, hgk, rfl, hb⟩ := hrel
    have Hgk := Lib.hid hgk
    clear hgk
    by_cases hlt : k < n
    · obtain ⟨ad, rfl, hbl, hc0, hc1, hc2, hc3⟩ := GroupR.rd (Reads.below h hb hB) hlt
      obtain ⟨ad', rfl, hbl', he0, he1, he2, he3⟩ := GroupR.rd (Reads.below h' hb hB') hlt
      have hk0 : (0 : Int) ≤ (k : Int) := by omega
      have hk1 : (k : Int) < (n : Int) := by omega
      go_wp2_with fail
      go_still_tail 8, (by kernel_rfl)
      change wpList _ _ _ _ _ wr.drew
      generalize hw2 : wr.drew = w2
      have hb2 : Below w.heap.size w w2 := by rw [← hw2]; exact hb.drew
      clear hw2 hc0 hc1 hc2 hc3 he0 he1 he2 he3 hb
      go_wp2_with fail
      refine eqGroup_same.mono ?_
      rintro e w3 ⟨rfl, b⟩
      have hb3 := hb2.trans (b.mono hb2.size)
      clear b hb2
      go_wp2_with fail
      have hgk := Hgk.out
      go_roundg (gk - 1)
      case rel => exact ⟨k + 1, by omega, by omega, by go_num, hb3⟩
      case measure => omega
    · go_wp2
      go_ret
      exact ⟨rfl, hb⟩
theorem szGroup_one {a0 : ByteArray} {a1 : Int} {a2 : Int} {a3 : Int} {left : Int} {w : World} (h0 : 0 ≤ left) (h1 : left ≤ 1048576) (hs : a0.size ≤ maxLen) :
    Calls Try.prog 43 #[.agg #[.string a0, .int .i64 a1, .int .i64 a2, .int .i64 a3], .int .i64 left] w fun e w' => ∃ v, e = .returned (.int .i64 v) ∧ Below w.heap.size w w' ∧ (0 ≤ v → (a0.size : Int) ≤ left ∧ v = left - a0.size) ∧ v ≤ left := by
  unfold maxLen at hs
  by_cases hlt : left < (a0.size : Int)
  · go_enter Try.func43, Try.ntmps43
    go_wp2_with fail
    go_ret
    refine ⟨_, rfl, ?_, by omega, by omega⟩
    go_grown
  · go_enter Try.func43, Try.ntmps43
    go_wp2_with fail
    go_ret
    refine ⟨_, rfl, ?_, by omega, by omega⟩
    go_grown
set_option maxHeartbeats 1000000 in
theorem szGroupS_any {A : Option Addr} {n c B : Nat} {l : List GroupR} {left : Int} {w : World} (h : Reads w B 4 A n (l.flatMap GroupR.cells)) (h0 : 0 ≤ left) (h1 : left ≤ 1048576) (hc : n ≤ 9223372036854775807) (hz : ∀ x ∈ l, x.wf) (hB : B ≤ w.heap.size) :
    Calls Try.prog 13 #[.slice A n c, .int .i64 left] w fun e w' => ∃ v, e = .returned (.int .i64 v) ∧ Below w.heap.size w w' ∧ (0 ≤ v → (n : Int) ≤ left ∧ v ≤ left ∧ ∀ x ∈ l, (x.Id.size : Int) ≤ left) := by
  have HL := Lib.hid (GroupR.count h)
  have Hwf := Lib.hid hz
  clear hz
  by_cases hlt : left < n
  · go_enter Try.func13, Try.ntmps13
    go_wp2_with fail
    go_ret
    exact ⟨_, rfl, Below.refl _ _, by omega⟩
  · go_enter Try.func13, Try.ntmps13
    go_wp2_with fail
    go_loopg [1, 5] n (fun gk lf i wr => ∃ (k : Nat) (v : Int), k ≤ n ∧ gk + k = n ∧ i = .int .i64 k ∧ lf = .int .i64 v ∧ 0 ≤ v ∧ v ≤ left ∧ Below w.heap.size w wr ∧ ∀ x ∈ l.take k, (x.Id.size : Int) ≤ left)
    case atStart => exact ⟨0, left - n, Nat.zero_le _, rfl, rfl, rfl, by omega, by omega, Below.refl _ _, fun x hx => by simp at hx⟩
    case round =>
      obtain ⟨k, v, hk, hgk, rfl, rfl, hv0, hv1, hb, hall⟩ := hrel
      have Hgk := Lib.hid hgk
      have Hall := Lib.hid hall
      have hbs := hb.size
      clear hgk hall
      by_cases hlt2 : k < n
      · obtain ⟨ad, rfl, hbl, hc0, hc1, hc2, hc3⟩ := GroupR.rd (Reads.below h hb hB) hlt2
        have Htake := Lib.hid (take_succ_at GroupR.zero (l := l) (k := k) (by rw [HL.out]; exact hlt2))
        have hwf : (GroupR.at_ l k).Id.size ≤ maxLen := (Hwf.out _ (by
          have hm : k < l.length := by rw [HL.out]; exact hlt2
          show l.getD k GroupR.zero ∈ l
          simp [List.getD, List.getElem?_eq_getElem hm])).1
        go_wp2_with fail
        refine (szGroup_one hv0 (by omega) hwf).mono ?_
        rintro e w2 ⟨v2, rfl, b, hv2, hv3⟩
        have hb2 := hb.trans (b.mono hbs)
        clear hb b hc0 hc1 hc2 hc3
        by_cases hn2 : v2 < 0
        · go_wp2_with fail
          go_ret
          exact ⟨_, rfl, hb2, by omega⟩
        · obtain ⟨hq1, hq2⟩ := hv2 (by omega)
          go_wp2_with fail
          have hgk := Hgk.out
          go_roundg (gk - 1)
          case rel =>
            refine ⟨k + 1, v2, by omega, by omega, by go_num, int_eq (by omega), by omega, by omega, hb2, fun x hx => ?_⟩
            rw [Htake.out, List.mem_append] at hx
            rcases hx with hx | hx
            · exact Hall.out x hx
            · rw [List.mem_singleton] at hx
              subst hx
              have : ((GroupR.at_ l k).Id.size : Int) ≤ v := hq1
              show ((GroupR.at_ l k).Id.size : Int) ≤ left
              omega
          case measure => omega
      · have hke : n = k := by omega
        subst hke
        have hd : ¬ ((n : Int) < (n : Int)) := by omega
        go_wp2_with fail
        go_ret
        have hA : ∀ x ∈ l, (x.Id.size : Int) ≤ left := fun x hx => Hall.out x (by rw [List.take_of_length_le (by rw [HL.out]; exact Nat.le_refl _)]; exact hx)
        exact ⟨v, rfl, hb, by first | exact hA | exact fun _ => ⟨by omega, hA⟩ | exact fun _ => ⟨by omega, by omega, hA⟩⟩
/-- The marks from m on. -/
def GroupR.mark (m : Int) : GroupR := ⟨(mtx (m)), m + 1, m + 1 + 1, m + 1 + 1 + 1⟩
def GroupR.marks (k : Int) (n : Nat) : List GroupR := (List.range n).map fun i : Nat => GroupR.mark (k + 4 * (i : Int))
theorem GroupR.marks_set {l : List GroupR} {k : Int} {n i : Nat} (h : i < n) (hl : l.length = n) : (GroupR.marks k i ++ l.drop i).set i (GroupR.mark (k + 4 * (i : Int))) = GroupR.marks k (i + 1) ++ l.drop (i + 1) := by
  have hm : (GroupR.marks k i).length = i := by simp [GroupR.marks]
  rw [List.set_append_right _ _ (by omega), hm, Nat.sub_self, List.drop_eq_getElem_cons (by omega), List.set_cons_zero]
  simp [GroupR.marks, List.range_succ]
theorem GroupR.marks_at {k : Int} {n i : Nat} (h : i < n) : GroupR.at_ (GroupR.marks k n) i = GroupR.mark (k + 4 * (i : Int)) := by
  simp [GroupR.at_, GroupR.marks, List.getD, h]
theorem markGroupS_any {A : Option Addr} {n c B : Nat} {l : List GroupR} {k : Int} {w : World} (h : Own w B 86 4 A n c (l.flatMap GroupR.cells)) (hn : n ≤ 1048576) (h0 : 0 ≤ k) (h1 : k ≤ 1000000000) :
    Calls Try.prog 19 #[.slice A n c, .int .i64 k] w fun e w' => e = .returned (.int .i64 (k + 4 * (n : Int))) ∧ Own w' B 86 4 A n c ((GroupR.marks k n).flatMap GroupR.cells) ∧ Touch w w' A := by
  have HL := Lib.hid (GroupR.count h.reads)
  go_enter Try.func19, Try.ntmps19
  go_wp2_with fail
  go_loopg [1, 5] n (fun gk kk i wr => ∃ i' : Nat, i' ≤ n ∧ gk + i' = n ∧ i = .int .i64 i' ∧ kk = .int .i64 (k + 4 * (i' : Int)) ∧
    Own wr B 86 4 A n c ((GroupR.marks k i' ++ l.drop i').flatMap GroupR.cells) ∧ Touch w wr A)
  case atStart => exact ⟨0, Nat.zero_le _, rfl, rfl, by simp, by simpa [GroupR.marks] using h, Touch.refl _ _⟩
  case round =>
    obtain ⟨i, hk, hgk, rfl, rfl, ho, hg⟩ := hrel
    have Hgk := Lib.hid hgk
    clear hgk
    by_cases hlt : i < n
    · obtain ⟨ad, rfl⟩ : ∃ ad, A = some ad := by
        cases A with
        | none => have := ho.none_n; omega
        | some ad => exact ⟨ad, rfl⟩
      obtain ⟨g, off, sp⟩ := ad
      obtain ⟨rfl, rfl, hB, hlt'⟩ := ho.block_lt _ rfl
      go_wp2_with fail
      refine (markText_any _ _ (by omega)).mono ?_
      rintro e w2 ⟨rfl, b⟩
      have ho1 := ho.below b
      have hg1 := hg.step b
      clear ho hg b hlt'
      generalize w2 = wr at *
      have ho := ho1
      have hg := hg1
      clear ho1 hg1
      have f0 := ho.frozenAt (j := i * 4)
      have f1 := ho.frozenAt (j := i * 4 + 1)
      have f2 := ho.frozenAt (j := i * 4 + 2)
      have f3 := ho.frozenAt (j := i * 4 + 3)
      have g0 : ∃ u, wr.cell? ⟨g, i * 4, none⟩ = some u := ⟨_, GroupR.own_get (j := 0) ho hlt (by omega)⟩
      have g1 : ∃ u, wr.cell? ⟨g, i * 4 + 1, none⟩ = some u := ⟨_, GroupR.own_get (j := 1) ho hlt (by omega)⟩
      have g2 : ∃ u, wr.cell? ⟨g, i * 4 + 2, none⟩ = some u := ⟨_, GroupR.own_get (j := 2) ho hlt (by omega)⟩
      have g3 : ∃ u, wr.cell? ⟨g, i * 4 + 3, none⟩ = some u := ⟨_, GroupR.own_get (j := 3) ho hlt (by omega)⟩
      obtain ⟨q0, g0⟩ := g0
      obtain ⟨q1, g1⟩ := g1
      obtain ⟨q2, g2⟩ := g2
      obtain ⟨q3, g3⟩ := g3
      have Hst := Lib.hid (GroupR.own_set ho hlt (GroupR.mark (k + 4 * (i : Int))))
      go_wp2_with fail
      obtain ⟨ho2, hg2⟩ := Hst.out
      rw [GroupR.marks_set hlt HL.out] at ho2
      have hgk := Hgk.out
      go_roundg (gk - 1)
      case rel => exact ⟨i + 1, by omega, by omega, by go_num, by go_num, ho2, hg.grown hg2 rfl⟩
      case measure => omega
    · have hke : i = n := by omega
      have ho' : Own wr B 86 4 A n c ((GroupR.marks k n).flatMap GroupR.cells) := by
        have hl := HL.out
        subst hke
        simpa [List.drop_eq_nil_of_le (Nat.le_of_eq hl)] using ho
      have Hke := Lib.hid hke
      clear hke ho
      go_wp2
      go_ret
      exact ⟨ret_int (by rw [Hke.out]), ho', hg⟩
end Go.Proofs.Ytmnpehajojdhcaa
