/- Check: a struct of one-cell fields: how it lies in memory; contracts of the functions that copy, compare, mark and read such structs. -/
import Derived.Test.YtickepianllblaaGreatDoorS
import Derived.Handy
import Derived.StillTailTactics
import Derived.Test.YtickepianllblaaGreatDoorM
import Derived.Deep.RegionHeld3
namespace Go.Proofs.YtickepianllblaaGreatDoor
open Go.RowKit
set_option maxRecDepth 100000
set_option linter.unusedVariables false

structure CheckR where
  Id : ByteArray
  EveryDays : Int
  EveryRides : Int
  LastDay : Int
  LastRide : Int
namespace CheckR
def cells (x : CheckR) : List Value := [.string x.Id, .int .i64 x.EveryDays, .int .i64 x.EveryRides, .int .i64 x.LastDay, .int .i64 x.LastRide]
def val (x : CheckR) : Value := .agg #[.string x.Id, .int .i64 x.EveryDays, .int .i64 x.EveryRides, .int .i64 x.LastDay, .int .i64 x.LastRide]
def zero : CheckR := ⟨ByteArray.empty, 0, 0, 0, 0⟩
instance : Inhabited CheckR := ⟨zero⟩
/-- Each field fits. -/
def wf (x : CheckR) : Prop := x.Id.size ≤ maxLen ∧ (Lit.int .i64 x.EveryDays).wf = true ∧ (Lit.int .i64 x.EveryRides).wf = true ∧ (Lit.int .i64 x.LastDay).wf = true ∧ (Lit.int .i64 x.LastRide).wf = true
/-- Element k. -/
def at_ (l : List CheckR) (k : Nat) : CheckR := l.getD k zero
theorem clen (x : CheckR) : x.cells.length = 5 := rfl
theorem rd {w : World} {B n k : Nat} {A : Option Addr} {l : List CheckR} (h : Reads w B 5 A n (l.flatMap cells)) (hk : k < n) :
    ∃ ad, A = some ad ∧ ad.block < B ∧ w.cell? (ad.add (k * 5)) = some (.string (at_ l k).Id) ∧
      w.cell? ⟨(ad.add (k * 5)).block, (ad.add (k * 5)).off + 1, none⟩ = some (.int .i64 (at_ l k).EveryDays) ∧
      w.cell? ⟨(ad.add (k * 5)).block, (ad.add (k * 5)).off + 2, none⟩ = some (.int .i64 (at_ l k).EveryRides) ∧
      w.cell? ⟨(ad.add (k * 5)).block, (ad.add (k * 5)).off + 3, none⟩ = some (.int .i64 (at_ l k).LastDay) ∧
      w.cell? ⟨(ad.add (k * 5)).block, (ad.add (k * 5)).off + 4, none⟩ = some (.int .i64 (at_ l k).LastRide) := by
  obtain ⟨ad, e, hb, hc⟩ := Reads.field clen (by omega) zero h hk
  exact ⟨ad, e, hb, by have := hc 0 _ rfl; rwa [addr_add_zero] at this, by have := hc 1 _ rfl; rwa [addr_succ] at this, by have := hc 2 _ rfl; rwa [addr_succ] at this, by have := hc 3 _ rfl; rwa [addr_succ] at this, by have := hc 4 _ rfl; rwa [addr_succ] at this⟩
theorem rd0 {w : World} {B n : Nat} {A : Option Addr} {l : List CheckR} (h : Reads w B 5 A n (l.flatMap cells)) (hk : 0 < n) :
    ∃ ad, A = some ad ∧ ad.block < B ∧ w.cell? (ad) = some (.string (at_ l 0).Id) ∧
      w.cell? ⟨ad.block, ad.off + 1, none⟩ = some (.int .i64 (at_ l 0).EveryDays) ∧
      w.cell? ⟨ad.block, ad.off + 2, none⟩ = some (.int .i64 (at_ l 0).EveryRides) ∧
      w.cell? ⟨ad.block, ad.off + 3, none⟩ = some (.int .i64 (at_ l 0).LastDay) ∧
      w.cell? ⟨ad.block, ad.off + 4, none⟩ = some (.int .i64 (at_ l 0).LastRide) := by
  obtain ⟨ad, e, hb, hc⟩ := rd h hk
  rw [Nat.zero_mul, addr_add_zero] at hc
  exact ⟨ad, e, hb, hc⟩
theorem count {w : World} {B n : Nat} {A : Option Addr} {l : List CheckR} (h : Reads w B 5 A n (l.flatMap cells)) : l.length = n := Reads.count clen (by omega) h
theorem own_get {w : World} {B e n c g k j : Nat} {l : List CheckR} (h : Own w B e 5 (some ⟨g, 0, none⟩) n c (l.flatMap cells)) (hk : k < n) (hj : j < 5) : w.cell? ⟨g, k * 5 + j, none⟩ = (at_ l k).cells[j]? := by
  have hl : l.length = n := count h.reads
  rw [h.cellAt (by omega), flat_get _ 5 clen zero l k j (by omega) hj]; rfl
/-- A whole element stored. -/
theorem own_set {w : World} {B e n c g k : Nat} {l : List CheckR} (h : Own w B e 5 (some ⟨g, 0, none⟩) n c (l.flatMap cells)) (hk : k < n) (x : CheckR) :
    Own (((((w.setCell ⟨g, k * 5, none⟩ (.string x.Id)).setCell ⟨g, k * 5 + 1, none⟩ (.int .i64 x.EveryDays)).setCell ⟨g, k * 5 + 2, none⟩ (.int .i64 x.EveryRides)).setCell ⟨g, k * 5 + 3, none⟩ (.int .i64 x.LastDay)).setCell ⟨g, k * 5 + 4, none⟩ (.int .i64 x.LastRide)) B e 5 (some ⟨g, 0, none⟩) n c ((l.set k x).flatMap cells) ∧ w.grownBy (((((w.setCell ⟨g, k * 5, none⟩ (.string x.Id)).setCell ⟨g, k * 5 + 1, none⟩ (.int .i64 x.EveryDays)).setCell ⟨g, k * 5 + 2, none⟩ (.int .i64 x.EveryRides)).setCell ⟨g, k * 5 + 3, none⟩ (.int .i64 x.LastDay)).setCell ⟨g, k * 5 + 4, none⟩ (.int .i64 x.LastRide)) (some g) := by
  have hl : l.length = n := count h.reads
  have s0 := h.stored (j := k * 5) (.string x.Id)
  have s1 := s0.1.stored (j := k * 5 + 1) (.int .i64 x.EveryDays)
  have s2 := s1.1.stored (j := k * 5 + 2) (.int .i64 x.EveryRides)
  have s3 := s2.1.stored (j := k * 5 + 3) (.int .i64 x.LastDay)
  have s4 := s3.1.stored (j := k * 5 + 4) (.int .i64 x.LastRide)
  refine ⟨?_, (((s0.2.trans s1.2).trans s2.2).trans s3.2).trans s4.2⟩
  have e := flat_set cells 5 clen l k x (by omega)
  simp only [cells, setN, Nat.add_assoc, Nat.reduceAdd] at e
  have := s4.1
  rwa [e] at this
theorem fill_zero (n : Nat) : (madeCells #[.string ByteArray.empty, .int .i64 0, .int .i64 0, .int .i64 0, .int .i64 0] (n * 5)).toList = (List.replicate n zero).flatMap cells := made_flat cells 5 clen (by omega) zero n _ rfl
theorem part_set {l : List CheckR} {n k : Nat} (hl : l.length = n) (hk : k < n) : (l.take k ++ List.replicate (n - k) zero).set k (at_ l k) = l.take (k + 1) ++ List.replicate (n - (k + 1)) zero := fill_next zero hl hk
end CheckR

end Go.Proofs.YtickepianllblaaGreatDoor
