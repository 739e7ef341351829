/- Test: a struct of one-cell fields: how it lies in memory; contracts of the functions that copy, compare, mark and read such structs. -/
import Derived.Test.YtaojhfbcdoicpaaDoorS
import Derived.Handy
import Derived.StillTailTactics
namespace Go.Proofs.YtaojhfbcdoicpaaDoor
open Go.RowKit
set_option maxRecDepth 100000
set_option linter.unusedVariables false

structure TestR where
  Day : Int
  Broken : Int
  Worn : Int
namespace TestR
def cells (x : TestR) : List Value := [.int .i64 x.Day, .int .i64 x.Broken, .int .i64 x.Worn]
def val (x : TestR) : Value := .agg #[.int .i64 x.Day, .int .i64 x.Broken, .int .i64 x.Worn]
def zero : TestR := ⟨0, 0, 0⟩
instance : Inhabited TestR := ⟨zero⟩
/-- Each field fits. -/
def wf (x : TestR) : Prop := (Lit.int .i64 x.Day).wf = true ∧ (Lit.int .i64 x.Broken).wf = true ∧ (Lit.int .i64 x.Worn).wf = true
/-- Element k. -/
def at_ (l : List TestR) (k : Nat) : TestR := l.getD k zero
theorem clen (x : TestR) : x.cells.length = 3 := rfl
theorem rd {w : World} {B n k : Nat} {A : Option Addr} {l : List TestR} (h : Reads w B 3 A n (l.flatMap cells)) (hk : k < n) :
    ∃ ad, A = some ad ∧ ad.block < B ∧ w.cell? (ad.add (k * 3)) = some (.int .i64 (at_ l k).Day) ∧
      w.cell? ⟨(ad.add (k * 3)).block, (ad.add (k * 3)).off + 1, none⟩ = some (.int .i64 (at_ l k).Broken) ∧
      w.cell? ⟨(ad.add (k * 3)).block, (ad.add (k * 3)).off + 2, none⟩ = some (.int .i64 (at_ l k).Worn) := by
  obtain ⟨ad, e, hb, hc⟩ := Reads.field clen (by omega) zero h hk
  exact ⟨ad, e, hb, by have := hc 0 _ rfl; rwa [addr_add_zero] at this, by have := hc 1 _ rfl; rwa [addr_succ] at this, by have := hc 2 _ rfl; rwa [addr_succ] at this⟩
theorem rd0 {w : World} {B n : Nat} {A : Option Addr} {l : List TestR} (h : Reads w B 3 A n (l.flatMap cells)) (hk : 0 < n) :
    ∃ ad, A = some ad ∧ ad.block < B ∧ w.cell? (ad) = some (.int .i64 (at_ l 0).Day) ∧
      w.cell? ⟨ad.block, ad.off + 1, none⟩ = some (.int .i64 (at_ l 0).Broken) ∧
      w.cell? ⟨ad.block, ad.off + 2, none⟩ = some (.int .i64 (at_ l 0).Worn) := by
  obtain ⟨ad, e, hb, hc⟩ := rd h hk
  rw [Nat.zero_mul, addr_add_zero] at hc
  exact ⟨ad, e, hb, hc⟩
theorem count {w : World} {B n : Nat} {A : Option Addr} {l : List TestR} (h : Reads w B 3 A n (l.flatMap cells)) : l.length = n := Reads.count clen (by omega) h
theorem own_get {w : World} {B e n c g k j : Nat} {l : List TestR} (h : Own w B e 3 (some ⟨g, 0, none⟩) n c (l.flatMap cells)) (hk : k < n) (hj : j < 3) : w.cell? ⟨g, k * 3 + j, none⟩ = (at_ l k).cells[j]? := by
  have hl : l.length = n := count h.reads
  rw [h.cellAt (by omega), flat_get _ 3 clen zero l k j (by omega) hj]; rfl
/-- A whole element stored. -/
theorem own_set {w : World} {B e n c g k : Nat} {l : List TestR} (h : Own w B e 3 (some ⟨g, 0, none⟩) n c (l.flatMap cells)) (hk : k < n) (x : TestR) :
    Own (((w.setCell ⟨g, k * 3, none⟩ (.int .i64 x.Day)).setCell ⟨g, k * 3 + 1, none⟩ (.int .i64 x.Broken)).setCell ⟨g, k * 3 + 2, none⟩ (.int .i64 x.Worn)) B e 3 (some ⟨g, 0, none⟩) n c ((l.set k x).flatMap cells) ∧ w.grownBy (((w.setCell ⟨g, k * 3, none⟩ (.int .i64 x.Day)).setCell ⟨g, k * 3 + 1, none⟩ (.int .i64 x.Broken)).setCell ⟨g, k * 3 + 2, none⟩ (.int .i64 x.Worn)) (some g) := by
  have hl : l.length = n := count h.reads
  have s0 := h.stored (j := k * 3) (.int .i64 x.Day)
  have s1 := s0.1.stored (j := k * 3 + 1) (.int .i64 x.Broken)
  have s2 := s1.1.stored (j := k * 3 + 2) (.int .i64 x.Worn)
  refine ⟨?_, (s0.2.trans s1.2).trans s2.2⟩
  have e := flat_set cells 3 clen l k x (by omega)
  simp only [cells, setN, Nat.add_assoc, Nat.reduceAdd] at e
  have := s2.1
  rwa [e] at this
theorem fill_zero (n : Nat) : (madeCells #[.int .i64 0, .int .i64 0, .int .i64 0] (n * 3)).toList = (List.replicate n zero).flatMap cells := made_flat cells 3 clen (by omega) zero n _ rfl
theorem part_set {l : List TestR} {n k : Nat} (hl : l.length = n) (hk : k < n) : (l.take k ++ List.replicate (n - k) zero).set k (at_ l k) = l.take (k + 1) ++ List.replicate (n - (k + 1)) zero := fill_next zero hl hk
end TestR

theorem toTest_any {a0 : Int} {a1 : Int} {a2 : Int} {w : World} :
    Calls Tryd.prog 11 #[.agg #[.int .i64 a0, .int .i64 a1, .int .i64 a2]] w fun e w' => e = .returned (.agg #[.int .i64 a0, .int .i64 a1, .int .i64 a2]) ∧ Below w.heap.size w w' := by
  go_enter Tryd.func11, Tryd.ntmps11
  go_wp2
  refine bodyPost_ret (v := .agg #[.int .i64 a0, .int .i64 a1, .int .i64 a2]) (by simp [results, Tryd.results11, go_sem]) rfl ⟨rfl, ?_⟩
  go_grown
end Go.Proofs.YtaojhfbcdoicpaaDoor
