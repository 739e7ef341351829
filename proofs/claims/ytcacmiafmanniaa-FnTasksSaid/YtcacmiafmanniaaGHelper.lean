/- Helper: a struct of one-cell fields: how it lies in memory; contracts of the functions that copy, compare, mark and read such structs. -/
import Derived.Test.YtcacmiafmanniaaS
import Derived.Handy
import Derived.StillTailTactics
import Derived.Test.YtcacmiafmanniaaM
import Derived.Deep.RegionHeld3
namespace Go.Proofs.Ytcacmiafmanniaa
open Go.RowKit
set_option maxRecDepth 100000
set_option linter.unusedVariables false

structure HelperR where
  Id : ByteArray
  Skills : Int
  Minutes : Int
namespace HelperR
def cells (x : HelperR) : List Value := [.string x.Id, .int .i64 x.Skills, .int .i64 x.Minutes]
def val (x : HelperR) : Value := .agg #[.string x.Id, .int .i64 x.Skills, .int .i64 x.Minutes]
def zero : HelperR := ⟨ByteArray.empty, 0, 0⟩
instance : Inhabited HelperR := ⟨zero⟩
/-- Each field fits. -/
def wf (x : HelperR) : Prop := x.Id.size ≤ maxLen ∧ (Lit.int .i64 x.Skills).wf = true ∧ (Lit.int .i64 x.Minutes).wf = true
/-- Element k. -/
def at_ (l : List HelperR) (k : Nat) : HelperR := l.getD k zero
theorem clen (x : HelperR) : x.cells.length = 3 := rfl
theorem rd {w : World} {B n k : Nat} {A : Option Addr} {l : List HelperR} (h : Reads w B 3 A n (l.flatMap cells)) (hk : k < n) :
    ∃ ad, A = some ad ∧ ad.block < B ∧ w.cell? (ad.add (k * 3)) = some (.string (at_ l k).Id) ∧
      w.cell? ⟨(ad.add (k * 3)).block, (ad.add (k * 3)).off + 1, none⟩ = some (.int .i64 (at_ l k).Skills) ∧
      w.cell? ⟨(ad.add (k * 3)).block, (ad.add (k * 3)).off + 2, none⟩ = some (.int .i64 (at_ l k).Minutes) := by
  obtain ⟨ad, e, hb, hc⟩ := Reads.field clen (by omega) zero h hk
  exact ⟨ad, e, hb, by have := hc 0 _ rfl; rwa [addr_add_zero] at this, by have := hc 1 _ rfl; rwa [addr_succ] at this, by have := hc 2 _ rfl; rwa [addr_succ] at this⟩
theorem rd0 {w : World} {B n : Nat} {A : Option Addr} {l : List HelperR} (h : Reads w B 3 A n (l.flatMap cells)) (hk : 0 < n) :
    ∃ ad, A = some ad ∧ ad.block < B ∧ w.cell? (ad) = some (.string (at_ l 0).Id) ∧
      w.cell? ⟨ad.block, ad.off + 1, none⟩ = some (.int .i64 (at_ l 0).Skills) ∧
      w.cell? ⟨ad.block, ad.off + 2, none⟩ = some (.int .i64 (at_ l 0).Minutes) := by
  obtain ⟨ad, e, hb, hc⟩ := rd h hk
  rw [Nat.zero_mul, addr_add_zero] at hc
  exact ⟨ad, e, hb, hc⟩
theorem count {w : World} {B n : Nat} {A : Option Addr} {l : List HelperR} (h : Reads w B 3 A n (l.flatMap cells)) : l.length = n := Reads.count clen (by omega) h
theorem own_get {w : World} {B e n c g k j : Nat} {l : List HelperR} (h : Own w B e 3 (some ⟨g, 0, none⟩) n c (l.flatMap cells)) (hk : k < n) (hj : j < 3) : w.cell? ⟨g, k * 3 + j, none⟩ = (at_ l k).cells[j]? := by
  have hl : l.length = n := count h.reads
  rw [h.cellAt (by omega), flat_get _ 3 clen zero l k j (by omega) hj]; rfl
/-- A whole element stored. -/
theorem own_set {w : World} {B e n c g k : Nat} {l : List HelperR} (h : Own w B e 3 (some ⟨g, 0, none⟩) n c (l.flatMap cells)) (hk : k < n) (x : HelperR) :
    Own (((w.setCell ⟨g, k * 3, none⟩ (.string x.Id)).setCell ⟨g, k * 3 + 1, none⟩ (.int .i64 x.Skills)).setCell ⟨g, k * 3 + 2, none⟩ (.int .i64 x.Minutes)) B e 3 (some ⟨g, 0, none⟩) n c ((l.set k x).flatMap cells) ∧ w.grownBy (((w.setCell ⟨g, k * 3, none⟩ (.string x.Id)).setCell ⟨g, k * 3 + 1, none⟩ (.int .i64 x.Skills)).setCell ⟨g, k * 3 + 2, none⟩ (.int .i64 x.Minutes)) (some g) := by
  have hl : l.length = n := count h.reads
  have s0 := h.stored (j := k * 3) (.string x.Id)
  have s1 := s0.1.stored (j := k * 3 + 1) (.int .i64 x.Skills)
  have s2 := s1.1.stored (j := k * 3 + 2) (.int .i64 x.Minutes)
  refine ⟨?_, (s0.2.trans s1.2).trans s2.2⟩
  have e := flat_set cells 3 clen l k x (by omega)
  simp only [cells, setN, Nat.add_assoc, Nat.reduceAdd] at e
  have := s2.1
  rwa [e] at this
theorem fill_zero (n : Nat) : (madeCells #[.string ByteArray.empty, .int .i64 0, .int .i64 0] (n * 3)).toList = (List.replicate n zero).flatMap cells := made_flat cells 3 clen (by omega) zero n _ rfl
theorem part_set {l : List HelperR} {n k : Nat} (hl : l.length = n) (hk : k < n) : (l.take k ++ List.replicate (n - k) zero).set k (at_ l k) = l.take (k + 1) ++ List.replicate (n - (k + 1)) zero := fill_next zero hl hk
end HelperR

theorem info_Helper : (Try.prog.info? 35).map (fun i => (i.zero, i.size, i.bytes)) = some (some (.agg #[.string ByteArray.empty, .int .i64 0, .int .i64 0]), 3, 32) := by kernel_rfl
end Go.Proofs.Ytcacmiafmanniaa
