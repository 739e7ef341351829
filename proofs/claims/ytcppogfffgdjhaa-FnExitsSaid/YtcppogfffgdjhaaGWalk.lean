/- Walk: a struct of one-cell fields: how it lies in memory; contracts of the functions that copy, compare, mark and read such structs. -/
import Derived.Test.YtcppogfffgdjhaaS
import Derived.Handy
import Derived.StillTailTactics
namespace Go.Proofs.Ytcppogfffgdjhaa
open Go.RowKit
set_option maxRecDepth 100000
set_option linter.unusedVariables false

structure WalkR where
  From : Int
  To : Int
  Seconds : Int
  Ladder : Bool
namespace WalkR
def cells (x : WalkR) : List Value := [.int .i64 x.From, .int .i64 x.To, .int .i64 x.Seconds, .bool x.Ladder]
def val (x : WalkR) : Value := .agg #[.int .i64 x.From, .int .i64 x.To, .int .i64 x.Seconds, .bool x.Ladder]
def zero : WalkR := ⟨0, 0, 0, false⟩
instance : Inhabited WalkR := ⟨zero⟩
/-- Each field fits. -/
def wf (x : WalkR) : Prop := (Lit.int .i64 x.From).wf = true ∧ (Lit.int .i64 x.To).wf = true ∧ (Lit.int .i64 x.Seconds).wf = true ∧ (x.Ladder = x.Ladder)
/-- Element k. -/
def at_ (l : List WalkR) (k : Nat) : WalkR := l.getD k zero
theorem clen (x : WalkR) : x.cells.length = 4 := rfl
theorem rd {w : World} {B n k : Nat} {A : Option Addr} {l : List WalkR} (h : Reads w B 4 A n (l.flatMap cells)) (hk : k < n) :
    ∃ ad, A = some ad ∧ ad.block < B ∧ w.cell? (ad.add (k * 4)) = some (.int .i64 (at_ l k).From) ∧
      w.cell? ⟨(ad.add (k * 4)).block, (ad.add (k * 4)).off + 1, none⟩ = some (.int .i64 (at_ l k).To) ∧
      w.cell? ⟨(ad.add (k * 4)).block, (ad.add (k * 4)).off + 2, none⟩ = some (.int .i64 (at_ l k).Seconds) ∧
      w.cell? ⟨(ad.add (k * 4)).block, (ad.add (k * 4)).off + 3, none⟩ = some (.bool (at_ l k).Ladder) := by
  obtain ⟨ad, e, hb, hc⟩ := Reads.field clen (by omega) zero h hk
  exact ⟨ad, e, hb, by have := hc 0 _ rfl; rwa [addr_add_zero] at this, by have := hc 1 _ rfl; rwa [addr_succ] at this, by have := hc 2 _ rfl; rwa [addr_succ] at this, by have := hc 3 _ rfl; rwa [addr_succ] at this⟩
theorem rd0 {w : World} {B n : Nat} {A : Option Addr} {l : List WalkR} (h : Reads w B 4 A n (l.flatMap cells)) (hk : 0 < n) :
    ∃ ad, A = some ad ∧ ad.block < B ∧ w.cell? (ad) = some (.int .i64 (at_ l 0).From) ∧
      w.cell? ⟨ad.block, ad.off + 1, none⟩ = some (.int .i64 (at_ l 0).To) ∧
      w.cell? ⟨ad.block, ad.off + 2, none⟩ = some (.int .i64 (at_ l 0).Seconds) ∧
      w.cell? ⟨ad.block, ad.off + 3, none⟩ = some (.bool (at_ l 0).Ladder) := by
  obtain ⟨ad, e, hb, hc⟩ := rd h hk
  rw [Nat.zero_mul, addr_add_zero] at hc
  exact ⟨ad, e, hb, hc⟩
theorem count {w : World} {B n : Nat} {A : Option Addr} {l : List WalkR} (h : Reads w B 4 A n (l.flatMap cells)) : l.length = n := Reads.count clen (by omega) h
theorem own_get {w : World} {B e n c g k j : Nat} {l : List WalkR} (h : Own w B e 4 (some ⟨g, 0, none⟩) n c (l.flatMap cells)) (hk : k < n) (hj : j < 4) : w.cell? ⟨g, k * 4 + j, none⟩ = (at_ l k).cells[j]? := by
  have hl : l.length = n := count h.reads
  rw [h.cellAt (by omega), flat_get _ 4 clen zero l k j (by omega) hj]; rfl
/-- A whole element stored. -/
theorem own_set {w : World} {B e n c g k : Nat} {l : List WalkR} (h : Own w B e 4 (some ⟨g, 0, none⟩) n c (l.flatMap cells)) (hk : k < n) (x : WalkR) :
    Own ((((w.setCell ⟨g, k * 4, none⟩ (.int .i64 x.From)).setCell ⟨g, k * 4 + 1, none⟩ (.int .i64 x.To)).setCell ⟨g, k * 4 + 2, none⟩ (.int .i64 x.Seconds)).setCell ⟨g, k * 4 + 3, none⟩ (.bool x.Ladder)) B e 4 (some ⟨g, 0, none⟩) n c ((l.set k x).flatMap cells) ∧ w.grownBy ((((w.setCell ⟨g, k * 4, none⟩ (.int .i64 x.From)).setCell ⟨g, k * 4 + 1, none⟩ (.int .i64 x.To)).setCell ⟨g, k * 4 + 2, none⟩ (.int .i64 x.Seconds)).setCell ⟨g, k * 4 + 3, none⟩ (.bool x.Ladder)) (some g) := by
  have hl : l.length = n := count h.reads
  have s0 := h.stored (j := k * 4) (.int .i64 x.From)
  have s1 := s0.1.stored (j := k * 4 + 1) (.int .i64 x.To)
  have s2 := s1.1.stored (j := k * 4 + 2) (.int .i64 x.Seconds)
  have s3 := s2.1.stored (j := k * 4 + 3) (.bool x.Ladder)
  refine ⟨?_, ((s0.2.trans s1.2).trans s2.2).trans s3.2⟩
  have e := flat_set cells 4 clen l k x (by omega)
  simp only [cells, setN, Nat.add_assoc, Nat.reduceAdd] at e
  have := s3.1
  rwa [e] at this
theorem fill_zero (n : Nat) : (madeCells #[.int .i64 0, .int .i64 0, .int .i64 0, .bool false] (n * 4)).toList = (List.replicate n zero).flatMap cells := made_flat cells 4 clen (by omega) zero n _ rfl
theorem part_set {l : List WalkR} {n k : Nat} (hl : l.length = n) (hk : k < n) : (l.take k ++ List.replicate (n - k) zero).set k (at_ l k) = l.take (k + 1) ++ List.replicate (n - (k + 1)) zero := fill_next zero hl hk
end WalkR

end Go.Proofs.Ytcppogfffgdjhaa
