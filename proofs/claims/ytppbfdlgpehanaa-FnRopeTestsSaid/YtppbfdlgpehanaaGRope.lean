/- Rope: a struct of one-cell fields: how it lies in memory; contracts of the functions that copy, compare, mark and read such structs. -/
import Derived.Test.YtppbfdlgpehanaaS
import Derived.Handy
import Derived.StillTailTactics
namespace Go.Proofs.Ytppbfdlgpehanaa
open Go.RowKit
set_option maxRecDepth 100000
set_option linter.unusedVariables false

structure RopeR where
  Long : Int
  Grams : Int
  Wires : Int
  Strength : Int
namespace RopeR
def cells (x : RopeR) : List Value := [.int .i64 x.Long, .int .i64 x.Grams, .int .i64 x.Wires, .int .i64 x.Strength]
def val (x : RopeR) : Value := .agg #[.int .i64 x.Long, .int .i64 x.Grams, .int .i64 x.Wires, .int .i64 x.Strength]
def zero : RopeR := ⟨0, 0, 0, 0⟩
instance : Inhabited RopeR := ⟨zero⟩
/-- Each field fits. -/
def wf (x : RopeR) : Prop := (Lit.int .i64 x.Long).wf = true ∧ (Lit.int .i64 x.Grams).wf = true ∧ (Lit.int .i64 x.Wires).wf = true ∧ (Lit.int .i64 x.Strength).wf = true
/-- Element k. -/
def at_ (l : List RopeR) (k : Nat) : RopeR := l.getD k zero
theorem clen (x : RopeR) : x.cells.length = 4 := rfl
theorem rd {w : World} {B n k : Nat} {A : Option Addr} {l : List RopeR} (h : Reads w B 4 A n (l.flatMap cells)) (hk : k < n) :
    ∃ ad, A = some ad ∧ ad.block < B ∧ w.cell? (ad.add (k * 4)) = some (.int .i64 (at_ l k).Long) ∧
      w.cell? ⟨(ad.add (k * 4)).block, (ad.add (k * 4)).off + 1, none⟩ = some (.int .i64 (at_ l k).Grams) ∧
      w.cell? ⟨(ad.add (k * 4)).block, (ad.add (k * 4)).off + 2, none⟩ = some (.int .i64 (at_ l k).Wires) ∧
      w.cell? ⟨(ad.add (k * 4)).block, (ad.add (k * 4)).off + 3, none⟩ = some (.int .i64 (at_ l k).Strength) := by
  obtain ⟨ad, e, hb, hc⟩ := Reads.field clen (by omega) zero h hk
  exact ⟨ad, e, hb, by have := hc 0 _ rfl; rwa [addr_add_zero] at this, by have := hc 1 _ rfl; rwa [addr_succ] at this, by have := hc 2 _ rfl; rwa [addr_succ] at this, by have := hc 3 _ rfl; rwa [addr_succ] at this⟩
theorem rd0 {w : World} {B n : Nat} {A : Option Addr} {l : List RopeR} (h : Reads w B 4 A n (l.flatMap cells)) (hk : 0 < n) :
    ∃ ad, A = some ad ∧ ad.block < B ∧ w.cell? (ad) = some (.int .i64 (at_ l 0).Long) ∧
      w.cell? ⟨ad.block, ad.off + 1, none⟩ = some (.int .i64 (at_ l 0).Grams) ∧
      w.cell? ⟨ad.block, ad.off + 2, none⟩ = some (.int .i64 (at_ l 0).Wires) ∧
      w.cell? ⟨ad.block, ad.off + 3, none⟩ = some (.int .i64 (at_ l 0).Strength) := by
  obtain ⟨ad, e, hb, hc⟩ := rd h hk
  rw [Nat.zero_mul, addr_add_zero] at hc
  exact ⟨ad, e, hb, hc⟩
theorem count {w : World} {B n : Nat} {A : Option Addr} {l : List RopeR} (h : Reads w B 4 A n (l.flatMap cells)) : l.length = n := Reads.count clen (by omega) h
theorem own_get {w : World} {B e n c g k j : Nat} {l : List RopeR} (h : Own w B e 4 (some ⟨g, 0, none⟩) n c (l.flatMap cells)) (hk : k < n) (hj : j < 4) : w.cell? ⟨g, k * 4 + j, none⟩ = (at_ l k).cells[j]? := by
  have hl : l.length = n := count h.reads
  rw [h.cellAt (by omega), flat_get _ 4 clen zero l k j (by omega) hj]; rfl
/-- A whole element stored. -/
theorem own_set {w : World} {B e n c g k : Nat} {l : List RopeR} (h : Own w B e 4 (some ⟨g, 0, none⟩) n c (l.flatMap cells)) (hk : k < n) (x : RopeR) :
    Own ((((w.setCell ⟨g, k * 4, none⟩ (.int .i64 x.Long)).setCell ⟨g, k * 4 + 1, none⟩ (.int .i64 x.Grams)).setCell ⟨g, k * 4 + 2, none⟩ (.int .i64 x.Wires)).setCell ⟨g, k * 4 + 3, none⟩ (.int .i64 x.Strength)) B e 4 (some ⟨g, 0, none⟩) n c ((l.set k x).flatMap cells) ∧ w.grownBy ((((w.setCell ⟨g, k * 4, none⟩ (.int .i64 x.Long)).setCell ⟨g, k * 4 + 1, none⟩ (.int .i64 x.Grams)).setCell ⟨g, k * 4 + 2, none⟩ (.int .i64 x.Wires)).setCell ⟨g, k * 4 + 3, none⟩ (.int .i64 x.Strength)) (some g) := by
  have hl : l.length = n := count h.reads
  have s0 := h.stored (j := k * 4) (.int .i64 x.Long)
  have s1 := s0.1.stored (j := k * 4 + 1) (.int .i64 x.Grams)
  have s2 := s1.1.stored (j := k * 4 + 2) (.int .i64 x.Wires)
  have s3 := s2.1.stored (j := k * 4 + 3) (.int .i64 x.Strength)
  refine ⟨?_, ((s0.2.trans s1.2).trans s2.2).trans s3.2⟩
  have e := flat_set cells 4 clen l k x (by omega)
  simp only [cells, setN, Nat.add_assoc, Nat.reduceAdd] at e
  have := s3.1
  rwa [e] at this
theorem fill_zero (n : Nat) : (madeCells #[.int .i64 0, .int .i64 0, .int .i64 0, .int .i64 0] (n * 4)).toList = (List.replicate n zero).flatMap cells := made_flat cells 4 clen (by omega) zero n _ rfl
theorem part_set {l : List RopeR} {n k : Nat} (hl : l.length = n) (hk : k < n) : (l.take k ++ List.replicate (n - k) zero).set k (at_ l k) = l.take (k + 1) ++ List.replicate (n - (k + 1)) zero := fill_next zero hl hk
end RopeR

end Go.Proofs.Ytppbfdlgpehanaa
